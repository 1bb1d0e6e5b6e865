/- frame: the reference's Put over bytes; an argument that is a frame. -/
import Derived.Test.YtbngoaonkhcciaaPureH
import Derived.Test.YtbngoaonkhcciaaOpen
set_option linter.all false
namespace Go.Proofs.Ytbngoaonkhcciaa
open Go.ChangeShapes Go.WideShapes Go.ChangeAt Go.RowKit Go.Deep Go.Proofs.YtbngoaonkhcciaaW.PrintWords
theorem be_step (k m : Nat) (l : List Int) (i : Nat) (hi : i < l.length) (hi8 : i < 8) (hm : m < 4611686018427387904) : PPt.isthmusref7_be.l0 (k + 1) (m : Int) l (i : Int) = PPt.isthmusref7_be.l0 k ((m / 256 : Nat) : Int) (l.set i ((m % 256 : Nat) : Int)) ((i : Int) - 1) := by
  simp only [PPt.isthmusref7_be.l0]
  rw [if_pos (by omega), if_pos (by omega), if_pos (by omega)]
  have e1 : Int.tdiv (m : Int) 256 = ((m / 256 : Nat) : Int) := by rw [Int.tdiv_eq_ediv_of_nonneg (by omega)]; omega
  have e2 : Int.tmod (m : Int) 256 % 256 = ((m % 256 : Nat) : Int) := by rw [Int.tmod_eq_emod_of_nonneg (by omega)]; omega
  have e3 : wrap64 ((m / 256 : Nat) : Int) = ((m / 256 : Nat) : Int) := wrap64_small _ (by omega) (by omega)
  rw [e1, e2, e3, Int.toNat_natCast]
  have e4 : wrap64 ((i : Int) - 1) = (i : Int) - 1 := by unfold wrap64; omega
  rw [e4]
theorem be3 (m : Nat) (hm : m < 4611686018427387904) : PPt.isthmusref7_be.f 9 (m : Int) 3 = some (beI 3 m) := by
  unfold PPt.isthmusref7_be.f
  rw [if_pos (by omega), if_pos (by decide)]
  rw [show wrap64 (3 - 1) = ((2 : Nat) : Int) by unfold wrap64; omega, show List.replicate (Int.toNat 3) (0 : Int) = [0, 0, 0] from rfl]
  rw [be_step _ _ _ _ (by simp) (by omega) hm]
  show PPt.isthmusref7_be.l0 8 _ _ ((1 : Nat) : Int) = _
  rw [be_step _ _ _ _ (by simp) (by omega) (by omega)]
  show PPt.isthmusref7_be.l0 7 _ _ ((0 : Nat) : Int) = _
  rw [be_step _ _ _ _ (by simp) (by omega) (by omega)]
  show PPt.isthmusref7_be.l0 6 _ _ (-1) = _
  simp only [PPt.isthmusref7_be.l0, beI]
  rw [if_neg (by omega)]
  simp
  omega
theorem be4 (m : Nat) (hm : m < 4611686018427387904) : PPt.isthmusref7_be.f 9 (m : Int) 4 = some (beI 4 m) := by
  unfold PPt.isthmusref7_be.f
  rw [if_pos (by omega), if_pos (by decide)]
  rw [show wrap64 (4 - 1) = ((3 : Nat) : Int) by unfold wrap64; omega, show List.replicate (Int.toNat 4) (0 : Int) = [0, 0, 0, 0] from rfl]
  rw [be_step _ _ _ _ (by simp) (by omega) hm]
  show PPt.isthmusref7_be.l0 8 _ _ ((2 : Nat) : Int) = _
  rw [be_step _ _ _ _ (by simp) (by omega) (by omega)]
  show PPt.isthmusref7_be.l0 7 _ _ ((1 : Nat) : Int) = _
  rw [be_step _ _ _ _ (by simp) (by omega) (by omega)]
  show PPt.isthmusref7_be.l0 6 _ _ ((0 : Nat) : Int) = _
  rw [be_step _ _ _ _ (by simp) (by omega) (by omega)]
  show PPt.isthmusref7_be.l0 5 _ _ (-1) = _
  simp only [PPt.isthmusref7_be.l0, beI]
  rw [if_neg (by omega)]
  simp
  omega
/-- an argument that is a frame -/
def FrV (w : World) (v : Value) : Prop := ∃ (t f s : Int) (u : Value), v = .agg #[.int .i64 t, .int .i64 f, .int .i64 s, u] ∧ (Lit.int .i64 t).wf = true ∧ (Lit.int .i64 f).wf = true ∧ (Lit.int .i64 s).wf = true ∧ Sl w 1 (fun _ => IsInt .u8) u
theorem frV_of {H : Type} {enc : TypeId × Value → H} {w : World} {base : Nat} {r : _} {b2 : Nat} {held : Bool} {v : Value} {d : DataW H} {p : List MemPlace} (hok : Value.okWide Try.prog w r b2 24 v) (h : DataW.Trod enc Try.prog w base (fun _ => true) held 24 v d p) : FrV w v := by
  obtain ⟨cs, rfl, hs⟩ := okWide_struct Try.underlying24 hok
  obtain ⟨m, hm⟩ := h
  have h4 : Try.prog.cellsOf 24 = 4 := by kernel_rfl
  have e1 : Try.prog.cellsOf 3 = 1 := by kernel_rfl
  have e2 : Try.prog.cellsOf 22 = 1 := by kernel_rfl
  rw [h4] at hs
  obtain ⟨c0, c1, c2, c3, rfl⟩ : ∃ c0 c1 c2 c3, cs = #[c0, c1, c2, c3] := by
    obtain ⟨l⟩ := cs
    match l, hs with
    | [a, b, c, d], _ => exact ⟨a, b, c, d, rfl⟩
  obtain ⟨ys, n', hn', hy, hlen, hyl, hf⟩ := DataW.trod_struct Try.underlying24 hm
  have g0 := hf 0 _ rfl
  have g1 := hf 1 _ rfl
  have g2 := hf 2 _ rfl
  have g3 := hf 3 _ rfl
  have q : ∀ j, j < 4 → ∃ y, ys[j]? = some y := fun j hj => ⟨ys[j]'(by rw [hyl]; exact hj), List.getElem?_eq_getElem _⟩
  obtain ⟨y0, hy0⟩ := q 0 (by omega)
  obtain ⟨y1, hy1⟩ := q 1 (by omega)
  obtain ⟨y2, hy2⟩ := q 2 (by omega)
  obtain ⟨y3, hy3⟩ := q 3 (by omega)
  rw [hy0] at g0
  rw [hy1] at g1
  rw [hy2] at g2
  rw [hy3] at g3
  simp only [e1, e2, Value.cells, List.drop_zero, List.drop_succ_cons, List.take_succ_cons, List.take_zero] at g0 g1 g2 g3
  obtain ⟨t, rfl, wt⟩ := isInt_of Try.underlying3 g0
  obtain ⟨f, rfl, wf⟩ := isInt_of Try.underlying3 g1
  obtain ⟨s, rfl, ws⟩ := isInt_of Try.underlying3 g2
  exact ⟨t, f, s, c3, rfl, wt, wf, ws, sl_plain Try.underlying22 (by kernel_rfl) (fun n u y h => isInt_of Try.underlying5 h) g3⟩
end Go.Proofs.Ytbngoaonkhcciaa
