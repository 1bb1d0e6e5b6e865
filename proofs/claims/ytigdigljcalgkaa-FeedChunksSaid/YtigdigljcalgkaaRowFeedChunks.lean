/- 'FeedChunks': for every input that can be read the law returns true, writes nothing that was there, and its arguments read as they did. Conditions: none. -/
import Derived.Test.YtigdigljcalgkaaRows
import Derived.Test.YtigdigljcalgkaaLaw6
import Derived.Test.YtigdigljcalgkaaOpen
import Derived.JoinedCond
import Derived.SizedLaws
set_option linter.all false
namespace Go.Proofs.Ytigdigljcalgkaa.rowFeedChunks
open Go.ChangeShapes Go.WideShapes Go.ChangeAt Go.RowKit
theorem own : ownKnob Try.prog.godebug = none := by kernel_rfl
theorem laidOut : laidOutB Try.prog = true := by kernel_rfl
set_option maxRecDepth 100000 in
theorem lifted (os : Os) (started : os.Started) (H : Type) (enc : TypeId × Value → H) :
    ReturnsInHanded {} Try.checked os 3 .any (Rows.feedChunksSpec.pre6 enc Try.prog Try.f3 Rows.feedChunksRow.domain false) (Rows.feedChunksSpec.post enc Try.prog Try.f3 false true false false) := by
  refine returnsInHanded_of_change (C := Try.checked) own started (by kernel_rfl) Try.func3
    (ChangeSpec.witness6 (enc := enc) (C := Try.checked) false ⟨#[], #[.slice none 0 0, .slice none 0 0, .bool false], []⟩ 8 (by kernel_rfl) (by kernel_rfl) (by kernel_rfl) (by kernel_rfl)) ?_
  intro W base args ds gs before hval0 hW hcnd _
  have hval : ∀ (j : Nat) t v, Try.f3.params[j]? = some t → args[j]? = some v → Value.okWide Try.prog W .any base t v := hval0
  have hW' := hW
  obtain ⟨p, q, hA0, hV, rfl, hfz, hnd⟩ := hW
  have hA : DataW.TrodAll enc Try.prog W 0 (fun _ => true) true Try.f3.params.toList args.toList ds p := hA0
  rw [Try.params3] at hA hval
  obtain ⟨v0, vs0, d0, ds0, p0, q0, hargs, rfl, rfl, h0, r0⟩ := trodAll_cons hA
  obtain ⟨v1, vs1, d1, ds1, p1, q1, rfl, rfl, rfl, h1, r1⟩ := trodAll_cons r0
  obtain ⟨v2, vs2, d2, ds2, p2, q2, rfl, rfl, rfl, h2, r2⟩ := trodAll_cons r1
  obtain ⟨rfl, rfl, rfl⟩ := trodAll_nil r2
  obtain rfl : args = #[v0, v1, v2] := by cases args; simp_all
  obtain ⟨rfl, rfl⟩ := trodVars_none hV
  obtain ⟨A0, len0, cap0, hv0⟩ := okWide_slice Try.underlying22 (hval 0 22 v0 rfl rfl)
  have k0 := h0
  have lt0 : ∀ x ∈ p0, x.block < W.heap.size := by obtain ⟨m, hm⟩ := k0; exact DataW.trod_lt m _ _ _ hm
  have s0 : (fun w v => Sl w 4 (fun j => if j = 0 then IsInt .i64 else if j = 1 then IsInt .i64 else if j = 2 then IsInt .i64 else Sl w 1 (fun _ => IsInt .u8)) v) W v0 := by
    obtain ⟨m, hm⟩ := h0
    rw [hv0] at hm ⊢
    exact sl_struct Try.underlying22 Try.underlying27 (by kernel_rfl) (by kernel_rfl) (by decide) (fun j f hf n u y h => match j, hf with | 0, hf => (by obtain rfl := Option.some.inj hf; exact isInt_of Try.underlying3 h) | 1, hf => (by obtain rfl := Option.some.inj hf; exact isInt_of Try.underlying3 h) | 2, hf => (by obtain rfl := Option.some.inj hf; exact isInt_of Try.underlying3 h) | 3, hf => (by obtain rfl := Option.some.inj hf; exact sl_plain Try.underlying25 (by kernel_rfl) (fun n u y h => isInt_of Try.underlying5 h) h)) hm
  obtain ⟨A1, len1, cap1, hv1⟩ := okWide_slice Try.underlying23 (hval 1 23 v1 rfl rfl)
  have k1 := h1
  have lt1 : ∀ x ∈ p1, x.block < W.heap.size := by obtain ⟨m, hm⟩ := k1; exact DataW.trod_lt m _ _ _ hm
  have s1 : (fun w v => Sl w 1 (fun _ => IsInt .i64) v) W v1 := by
    obtain ⟨m, hm⟩ := h1
    rw [hv1] at hm ⊢
    exact sl_plain Try.underlying23 (by kernel_rfl) (fun n u y h => isInt_of Try.underlying3 h) hm
  obtain ⟨x2, rfl, rfl, rfl⟩ := open_bool Try.underlying4 (hval 2 4 v2 rfl rfl) h2
  clear hA0 hval0
  refine (feedChunks W v0 s0 v1 s1 x2).mono fun e W' ⟨he, bel⟩ => ?_
  subst he
  exact ⟨_, rfl, _, _, _, [], _, [], hW', trodAll_mk1 (shut_bool Try.underlying4 _), (trodAll_cons_mk (Below.trod laidOut (by kernel_rfl) (of_decide_eq_true (by kernel_rfl)) k0 bel lt0) (trodAll_cons_mk (Below.trod laidOut (by kernel_rfl) (of_decide_eq_true (by kernel_rfl)) k1 bel lt1) (trodAll_cons_mk (shut_bool Try.underlying4 x2) trodAll_mk0))), rfl, bel.frame _, fun h => by cases h⟩
theorem proved : Rows.FeedChunksSaid :=
  OpenClaim.holds_of_wide 3 Try.f3 rfl rfl rfl rfl rfl rfl rfl ⟨rfl, rfl, rfl, rfl, rfl⟩ rfl rfl rfl rfl rfl (by kernel_rfl) Try.func3 (by kernel_rfl)
    (of_decide_eq_true (by kernel_rfl)) (by unfold Func.isWrapper; first | (rw [if_pos (by decide +kernel)]; kernel_rfl) | (rw [if_neg (by decide +kernel)]; exact ⟨rfl, rfl⟩))
    (fun os started H enc _ => lifted os started H enc)
end Go.Proofs.Ytigdigljcalgkaa.rowFeedChunks
