/- pipe: taking. -/
import Derived.Test.YtinokgmmdmkbcaaCtr
import Derived.Laws.Cover3
set_option linter.all false
namespace Go.Proofs.Ytinokgmmdmkbcaa
open Go.ChangeShapes Go.WideShapes Go.ChangeAt Go.RowKit
attribute [local go_sem] setCell_drewN alloc_drewN
theorem Row1.empty (w : World) (e : TypeId) : Row1 (w.alloc (.cells #[] e)) w.heap.size e (.slice (some ⟨w.heap.size, 0, none⟩) 0 0) [] :=
  ⟨_, 0, rfl, by simp, by simp [maxLen], .inr ⟨w.heap.size, 0, #[], rfl, Nat.le_refl _, Blk.new w e #[], by simp, fun j u h => by simp at h⟩⟩
section
variable (w : World) {A : Option Addr} {n c B : Nat} {bs : List UInt8}
theorem eql_slice_nil (a : Option Addr) (l c : Nat) : (binOp .eql 22 (.slice a l c) (.slice none 0 0)).run Try.prog w = .ok (.bool a.isNone) w := by
  simp only [binOp]
  simp [run_equal_slice_nil w 22 5 a l c Try.underlying22]
theorem clone (hr : Reads w B 1 A n (encB bs)) (hB : B ≤ w.heap.size) (hl : n ≤ 140737488355328) :
    Calls Try.prog 26 #[.slice A n c] w fun e w' => ∃ v', e = .returned v' ∧ Row1 w' w.heap.size 5 v' (encB bs) ∧ Keep [] w w' := by
  obtain ⟨i0, z0, hi, hz, hz0, hz1, hz2⟩ := u8_info
  have hlen := hr.1
  rw [encB_len] at hlen
  have Hr := Lib.hid hr
  have Hlen := Lib.hid hlen
  have hnil := fun (w : World) (a : Option Addr) (l c : Nat) => eql_slice_nil w a l c
  clear hlen
  cases A with
  | none =>
    have hn : n = 0 := by
      rcases Nat.eq_zero_or_pos n with h0 | h0
      · exact h0
      · obtain ⟨ad, h, _⟩ := hr.2 h0; cases h
    subst hn
    have hbs : bs = [] := List.eq_nil_of_length_eq_zero (by have := Hlen.out; omega)
    subst hbs
    clear hr
    go_enter Try.func26, Try.ntmps26
    go_wp2
    go_ret
    exact ⟨_, rfl, Row1.nil _ _ _, Keep.refl _ _⟩
  | some ad =>
    clear hr
    go_enter Try.func26, Try.ntmps26
    go_wp2_with (at_builtin; apply wpList_append_row _ rfl _ _ _ rfl w.heap.size 5 i0 z0 1 Try.underlying22 hi hz hz0 hz1 hz2 (.slice (some ⟨w.heap.size, 0, none⟩) 0 0) [] rfl (Row1.empty w _) _ (some ad) n c (encB bs) rfl (Hr.out.alloc hB _) encB_one (by unfold maxLen; simp; omega) (by simp; omega) (by simp); intro v1 w1 hrow1 k1 hm1; obtain ⟨A1, cap1, rfl, _⟩ := hrow1.reads)
    go_ret
    exact ⟨_, rfl, by simpa using hrow1, ((Keep.refl [] w).alloc _).step k1 (by simp [rowBlk])⟩
end
section
variable {w w' : World} {base pb : Nat} {t : TypeId} {v : Value} {bs : List UInt8} {en to : Bool}
theorem reads_pre {B n : Nat} {A : Option Addr} {xs : List UInt8} (h : Reads w B 1 A n (encB xs)) (k : Nat) (hk : k ≤ n) : Reads w B 1 A k (encB (xs.take k)) := by
  have hl := h.1
  rw [encB_len] at hl
  refine ⟨by rw [encB_len, List.length_take]; omega, fun h0 => ?_⟩
  obtain ⟨ad, e, hb, hc⟩ := h.2 (by omega)
  refine ⟨ad, e, hb, fun j u hu => hc j u ?_⟩
  have hj := (List.getElem?_eq_some_iff.1 hu).1
  rw [encB_len, List.length_take] at hj
  rw [← hu, encB_take, List.getElem?_take, if_pos (by omega)]
def Same (v v' : Value) : Prop := ∀ g, rowBlk v' = some g → rowBlk v = some g
set_option maxHeartbeats 1000000 in
theorem cut2_ (h : Pp w base pb 51 v bs en to) (hl : bs.length ≤ 140737488355328) (n k : Nat) (hk : k = min n bs.length) :
    Calls Try.prog 24 #[.pointer (some ⟨pb, 0, none⟩), .int .i64 n] w fun e w' => ∃ r v', e = .returned r ∧ Row1 w' w.heap.size 5 r (encB (bs.take k)) ∧ Pp w' base pb 51 v' (bs.drop k) en to ∧ Keep [pb] w w' ∧ Same v v' := by
  have hkl : k ≤ bs.length := by omega
  have hP := Lib.hid h
  have hblt := h.blk.lt
  have hne := h.ne (by decide)
  obtain ⟨A, cap, rfl, h1, h2, h3⟩ := h.slice
  have c0 := h.blk.cell 0
  simp at c0
  have b0 : (0 : Int) ≤ (k : Int) := by omega
  have b1 : (k : Int) ≤ (bs.length : Int) := by omega
  have b2 : (k : Int) ≤ (cap : Int) := by omega
  have b3 : (bs.length : Int) ≤ (cap : Int) := by omega
  have hpre := Lib.hid (reads_pre h3 k hkl)
  have hrow : Hid (Row1 w base 5 _ _) := Lib.hid (h.row.cut k (by rw [encB_len]; exact hkl) _ _ _ rfl)
  have hb := Lib.hid h.blk
  clear h h3
  have fin : ∀ (w1 : World) (r : Value), Row1 w1 w.heap.size 5 r (encB (bs.take k)) → Keep [] w w1 → 
      ∃ r' v', Ending.returned r = Ending.returned r' ∧ Row1 (w1.setCell ⟨pb, 0, none⟩ (.slice (if cap = k then A else A.map (·.add k)) (bs.length - k) (cap - k))) w.heap.size 5 r' (encB (bs.take k)) ∧ Pp (w1.setCell ⟨pb, 0, none⟩ (.slice (if cap = k then A else A.map (·.add k)) (bs.length - k) (cap - k))) base pb 51 v' (bs.drop k) en to ∧ Keep [pb] w (w1.setCell ⟨pb, 0, none⟩ (.slice (if cap = k then A else A.map (·.add k)) (bs.length - k) (cap - k))) ∧ Same (.slice A bs.length cap) v' := fun w1 r hr1 k1 => by
    have kf : Keep [pb] w1 (w1.setCell ⟨pb, 0, none⟩ (.slice (if cap = k then A else A.map (·.add k)) (bs.length - k) (cap - k))) := (Keep.refl _ w1).setCell (p := ⟨pb, 0, none⟩) (.inl (by simp)) _
    have hmv : Same (.slice A bs.length cap) (.slice (if cap = k then A else A.map (·.add k)) (bs.length - k) (cap - k)) := fun g hg => by
      cases A with
      | none => split at hg <;> simp [rowBlk] at hg
      | some ad =>
        split at hg
        · exact hg
        · simp [rowBlk, block_of_add] at hg
          simp [rowBlk, hg]
    have hrow1 := (hrow.out.keep k1 (by simp)).keep kf (fun g hg => by
      simp
      exact hne g (hmv g hg))
    rw [← encB_drop] at hrow1
    exact ⟨r, _, rfl, hr1.keep kf (fun g hg => by have := (hr1.lt g hg).1; simp; omega), ⟨(hb.out.keep k1 (by simp)).set_ 0 _, hrow1⟩, (k1.more (by simp)).trans kf, hmv⟩
  obtain ⟨T, hT⟩ : ∃ T, T = bs.take k := ⟨_, rfl⟩
  obtain ⟨D, hD⟩ : ∃ D, D = bs.drop k := ⟨_, rfl⟩
  rw [← hT, ← hD] at fin
  rw [← hT] at hpre
  rw [← hT, ← hD]
  clear hT hD hrow
  have fin := Lib.hid fin
  by_cases hle : n ≤ bs.length
  · obtain rfl : k = n := by omega
    clear hk
    go_enter Try.func24, Try.ntmps24
    go_wp2_with (go_at_call 26; apply (clone _ hpre.out (Nat.le_refl _) (by omega)).mono; rintro e w1 ⟨r, rfl, hr1, k1⟩; have d0 := (hb.out.keep k1 (by simp)).cell 0; have d0f := (hb.out.keep k1 (by simp)).frozen 0; simp at d0)
    · go_ret
      have hf := fin.out w1 r hr1 k1
      simpa [h] using hf
    · go_ret
      have hf := fin.out w1 r hr1 k1
      simpa [h] using hf
  · have hgt : (bs.length : Int) < (n : Int) := by omega
    obtain rfl : k = bs.length := by omega
    clear hk
    go_enter Try.func24, Try.ntmps24
    go_wp2_with (go_at_call 26; apply (clone _ hpre.out (Nat.le_refl _) (by omega)).mono; rintro e w1 ⟨r, rfl, hr1, k1⟩; have d0 := (hb.out.keep k1 (by simp)).cell 0; have d0f := (hb.out.keep k1 (by simp)).frozen 0; simp at d0)
    · go_ret
      have hf := fin.out w1 r hr1 k1
      simpa [h] using hf
    · go_ret
      have hf := fin.out w1 r hr1 k1
      simpa [h] using hf
theorem cut_ (h : Pp w base pb 51 v bs en to) (hl : bs.length ≤ 140737488355328) (n k : Nat) (hk : k = min n bs.length) :
    Calls Try.prog 24 #[.pointer (some ⟨pb, 0, none⟩), .int .i64 n] w fun e w' => ∃ r v', e = .returned r ∧ Row1 w' w.heap.size 5 r (encB (bs.take k)) ∧ Pp w' base pb 51 v' (bs.drop k) en to ∧ Keep [pb] w w' ∧ Moved w v v' :=
  (cut2_ h hl n k hk).mono fun _ _ ⟨r, v', h1, h2, h3, h4, h5⟩ => ⟨r, v', h1, h2, h3, h4, fun g hg => .inl (h5 g hg)⟩
end
end Go.Proofs.Ytinokgmmdmkbcaa
