/- feed: the reference's Put over bytes; an argument that is a frame. -/
import Derived.Test.YtigdigljcalgkaaPureH
import Derived.Test.YtigdigljcalgkaaOpen
set_option linter.all false
namespace Go.Proofs.Ytigdigljcalgkaa
open Go.ChangeShapes Go.WideShapes Go.ChangeAt Go.RowKit Go.Deep Go.Proofs.YtigdigljcalgkaaW.PrintWords
theorem be_step (k m : Nat) (l : List Int) (i : Nat) (hi : i < l.length) (hi8 : i < 8) (hm : m < 4611686018427387904) : PFd.isthmusref7_be.l0 (k + 1) (m : Int) l (i : Int) = PFd.isthmusref7_be.l0 k ((m / 256 : Nat) : Int) (l.set i ((m % 256 : Nat) : Int)) ((i : Int) - 1) := by
  simp only [PFd.isthmusref7_be.l0]
  rw [if_pos (by omega), if_pos (by omega), if_pos (by omega)]
  have e1 : Int.tdiv (m : Int) 256 = ((m / 256 : Nat) : Int) := by rw [Int.tdiv_eq_ediv_of_nonneg (by omega)]; omega
  have e2 : Int.tmod (m : Int) 256 % 256 = ((m % 256 : Nat) : Int) := by rw [Int.tmod_eq_emod_of_nonneg (by omega)]; omega
  have e3 : wrap64 ((m / 256 : Nat) : Int) = ((m / 256 : Nat) : Int) := wrap64_small _ (by omega) (by omega)
  rw [e1, e2, e3, Int.toNat_natCast]
  have e4 : wrap64 ((i : Int) - 1) = (i : Int) - 1 := by unfold wrap64; omega
  rw [e4]
theorem be3 (m : Nat) (hm : m < 4611686018427387904) : PFd.isthmusref7_be.f 9 (m : Int) 3 = some (beI 3 m) := by
  unfold PFd.isthmusref7_be.f
  rw [if_pos (by omega), if_pos (by decide)]
  rw [show wrap64 (3 - 1) = ((2 : Nat) : Int) by unfold wrap64; omega, show List.replicate (Int.toNat 3) (0 : Int) = [0, 0, 0] from rfl]
  rw [be_step _ _ _ _ (by simp) (by omega) hm]
  show PFd.isthmusref7_be.l0 8 _ _ ((1 : Nat) : Int) = _
  rw [be_step _ _ _ _ (by simp) (by omega) (by omega)]
  show PFd.isthmusref7_be.l0 7 _ _ ((0 : Nat) : Int) = _
  rw [be_step _ _ _ _ (by simp) (by omega) (by omega)]
  show PFd.isthmusref7_be.l0 6 _ _ (-1) = _
  simp only [PFd.isthmusref7_be.l0, beI]
  rw [if_neg (by omega)]
  simp
  omega
theorem be4 (m : Nat) (hm : m < 4611686018427387904) : PFd.isthmusref7_be.f 9 (m : Int) 4 = some (beI 4 m) := by
  unfold PFd.isthmusref7_be.f
  rw [if_pos (by omega), if_pos (by decide)]
  rw [show wrap64 (4 - 1) = ((3 : Nat) : Int) by unfold wrap64; omega, show List.replicate (Int.toNat 4) (0 : Int) = [0, 0, 0, 0] from rfl]
  rw [be_step _ _ _ _ (by simp) (by omega) hm]
  show PFd.isthmusref7_be.l0 8 _ _ ((2 : Nat) : Int) = _
  rw [be_step _ _ _ _ (by simp) (by omega) (by omega)]
  show PFd.isthmusref7_be.l0 7 _ _ ((1 : Nat) : Int) = _
  rw [be_step _ _ _ _ (by simp) (by omega) (by omega)]
  show PFd.isthmusref7_be.l0 6 _ _ ((0 : Nat) : Int) = _
  rw [be_step _ _ _ _ (by simp) (by omega) (by omega)]
  show PFd.isthmusref7_be.l0 5 _ _ (-1) = _
  simp only [PFd.isthmusref7_be.l0, beI]
  rw [if_neg (by omega)]
  simp
  omega
def badP (t f s : Int) : Prop := t < 0 ∨ 255 < t ∨ f < 0 ∨ 255 < f ∨ s < 0 ∨ 2147483647 < s
theorem rput_bad {t f s : Int} (h : badP t f s) (l : List Int) : PFd.isthmusref7_Put.f 10 t f s l = some ([], 1) := by
  unfold PFd.isthmusref7_Put.f
  simp only [PFd.isthmusref7_Put.j0]
  unfold badP at h
  by_cases h1 : t < 0
  · rw [if_pos h1]; rfl
  rw [if_neg h1]
  by_cases h2 : t > 255
  · rw [if_pos h2]; rfl
  rw [if_neg h2]
  by_cases h3 : f < 0
  · rw [if_pos h3]; rfl
  rw [if_neg h3]
  by_cases h4 : f > 255
  · rw [if_pos h4]; rfl
  rw [if_neg h4]
  by_cases h5 : s < 0
  · rw [if_pos h5]; rfl
  rw [if_neg h5, if_pos (by simp; omega)]
theorem rput_long {t f s : Int} (h : ¬ badP t f s) (l : List Int) (hl : 16777215 < l.length) : PFd.isthmusref7_Put.f 10 t f s l = some ([], 2) := by
  unfold badP at h
  unfold PFd.isthmusref7_Put.f
  simp only [PFd.isthmusref7_Put.j0]
  rw [if_neg (by omega), if_neg (by omega), if_neg (by omega), if_neg (by omega), if_neg (by omega), if_neg (by simp; omega), if_pos (by omega)]
theorem rput_ok (tb fb : UInt8) (s : Nat) (bs : List UInt8) (hs : s ≤ 2147483647) (hl : bs.length ≤ 16777215) : PFd.isthmusref7_Put.f 10 tb.toNat fb.toNat s (ints bs) = some (ints (beB 3 bs.length ++ [tb, fb] ++ beB 4 s ++ bs), 0) := by
  have h1 := tb.toNat_lt
  have h2 := fb.toNat_lt
  unfold PFd.isthmusref7_Put.f
  simp only [PFd.isthmusref7_Put.j0]
  rw [if_neg (by omega), if_neg (by omega), if_neg (by omega), if_neg (by omega), if_neg (by omega), if_neg (by simp; omega), ints_len, if_neg (by omega), be3 _ (by omega), Option.bind_some, Option.bind_some, if_pos (by rw [beI_len]; simp), Option.bind_some, be4 _ (by omega), Option.bind_some, if_pos (by simp [beI_len]), Option.bind_some, if_pos (by simp [beI_len]; omega)]
  rw [ints_app, ints_app, ints_app, ints_be, ints_be]
  have e1 : (tb.toNat : Int) % 256 = (tb.toNat : Int) := by omega
  have e2 : (fb.toNat : Int) % 256 = (fb.toNat : Int) := by omega
  simp [e1, e2, ints]
end Go.Proofs.Ytigdigljcalgkaa
