/- feed: the printed functions over bytes: numbers, heads, frames that are equal. -/
import Derived.Test.YtigdigljcalgkaaBr
import Derived.Test.YtigdigljcalgkaaPFdx1
import Derived.Test.YtigdigljcalgkaaPFdx2
set_option linter.all false
namespace Go.Proofs.Ytigdigljcalgkaa
open Go.RowKit Go.Proofs.YtigdigljcalgkaaW.PrintWords
theorem rd_ints {bs : List UInt8} {j : Nat} (h : j < bs.length) : rd (ints bs) (j : Int) = (bs[j].toNat : Int) := by
  simp [rd, ints, List.getD_eq_getElem?_getD, List.getElem?_eq_getElem h]
theorem take_snoc {bs : List UInt8} {j : Nat} (h : j < bs.length) : numB (bs.take (j + 1)) = numB (bs.take j) * 256 + bs[j].toNat := by
  rw [List.take_succ, List.getElem?_eq_getElem h]
  exact numB_snoc _ _
theorem numB_small (bs : List UInt8) (h : bs.length ≤ 4) : numB bs < 4294967296 :=
  Nat.lt_of_lt_of_le (numB_lt bs.length bs rfl) (Nat.le_trans (Nat.pow_le_pow_right (by omega) h) (by decide))
theorem number_l (bs : List UInt8) (hb : bs.length ≤ 4) : ∀ (d k j : Nat), j + d = bs.length → d < k → PFd.frame_number.l0 k (numB (bs.take j)) (ints bs) bs.length j = some (numB bs : Int)
  | 0, k, j, hj, hk => by
    obtain ⟨k, rfl⟩ : ∃ m, k = m + 1 := ⟨k - 1, by omega⟩
    simp only [PFd.frame_number.l0]
    rw [if_neg (by omega), List.take_of_length_le (by omega)]
  | d + 1, k, j, hj, hk => by
    obtain ⟨k, rfl⟩ : ∃ m, k = m + 1 := ⟨k - 1, by omega⟩
    have hlt : j < bs.length := by omega
    have h1 := numB_small (bs.take j) (by rw [List.length_take]; omega)
    have h2 := (bs[j]).toNat_lt
    simp only [PFd.frame_number.l0]
    rw [if_pos (by omega), if_pos (by omega), if_pos (by rw [ints_len]; omega), rd_ints hlt]
    have e1 : wrap64 ((numB (bs.take j) : Int) * 256) = (numB (bs.take j) : Int) * 256 := wrap64_small _ (by omega) (by omega)
    have e2 : wrap64 (bs[j].toNat : Int) = (bs[j].toNat : Int) := wrap64_small _ (by omega) (by omega)
    have e3 : wrap64 ((j : Int) + 1) = ((j + 1 : Nat) : Int) := by unfold wrap64; omega
    rw [e1, e2, e3, i64_or_byte _ _ h1 (by omega), ← take_snoc hlt]
    exact number_l bs hb d k (j + 1) (by omega) (by omega)
theorem number_f (bs : List UInt8) (hb : bs.length ≤ 4) : PFd.frame_number.f 9 (ints bs) = some (numB bs : Int) := by
  unfold PFd.frame_number.f
  rw [ints_len]
  have := number_l bs hb bs.length 9 0 (by omega) (by omega)
  simpa [numB] using this
/-- what a head tells -/
def headR (bs : List UInt8) : Int × Int × Int × List Int × Int × Int :=
  if bs.length < 9 then (0, 0, 0, [], 0, 3) else (((bs.getD 3 0).toNat : Int), ((bs.getD 4 0).toNat : Int), ((numB ((bs.drop 5).take 4) % 2147483648 : Nat) : Int), [], (numB (bs.take 3) : Int), 0)
theorem mid_ints (bs : List UInt8) : ((ints bs).take 9).drop 5 = ints ((bs.drop 5).take 4) := by
  rw [ints_take, ints_drop, List.drop_take]
theorem getD_at {bs : List UInt8} {j : Nat} (h : j < bs.length) : bs.getD j 0 = bs[j] := by simp [List.getD_eq_getElem?_getD, List.getElem?_eq_getElem h]
theorem head_f (bs : List UInt8) : PFd.frame_Head.f 9 (ints bs) = some (headR bs) := by
  unfold PFd.frame_Head.f headR
  rw [ints_len]
  by_cases h : bs.length < 9
  · rw [if_pos (by omega), if_pos h]
  · have hl : ((bs.drop 5).take 4).length = 4 := by rw [List.length_take, List.length_drop]; omega
    rw [if_neg (by omega), if_neg h, if_pos (by omega), if_pos (by omega), if_pos (by omega), if_pos (by omega), mid_ints, number_f _ (by omega), Option.bind_some, if_pos (by omega), ← ints_take, number_f _ (by rw [List.length_take]; omega), Option.bind_some]
    have r3 := rd_ints (bs := bs) (j := 3) (by omega)
    have r4 := rd_ints (bs := bs) (j := 4) (by omega)
    have e3 := wrap64_small ((bs[3]).toNat : Int) (by omega) (by have := (bs[3]).toNat_lt; omega)
    have e4 := wrap64_small ((bs[4]).toNat : Int) (by omega) (by have := (bs[4]).toNat_lt; omega)
    have := numB_small ((bs.drop 5).take 4) (by omega)
    rw [show (3 : Int) = ((3 : Nat) : Int) from rfl, show (4 : Int) = ((4 : Nat) : Int) from rfl, r3, r4, e3, e4, i64_and31 _ (by omega), getD_at (by omega), getD_at (by omega)]
theorem eqFrame_self (a b c : Int) (l : List Int) : PFd.isthmusref7_EqFrame.f a b c l a b c l = some true := by
  unfold PFd.isthmusref7_EqFrame.f
  simp
end Go.Proofs.Ytigdigljcalgkaa
