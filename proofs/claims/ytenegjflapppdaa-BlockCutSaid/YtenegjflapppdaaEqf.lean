/- block: two frames of equal contents are the same to the law. -/
import Derived.Test.YtenegjflapppdaaBr
import Derived.Test.YtenegjflapppdaaRCa
import Derived.Test.YtenegjflapppdaaPEqx1
set_option linter.all false
namespace Go.Proofs.Ytenegjflapppdaa
open Go.ChangeShapes Go.WideShapes Go.ChangeAt Go.RowKit Go.Proofs.YtenegjflapppdaaW.PrintWords
theorem eqFrame_self (a b c : Int) (l : List Int) : PEq.isthmusref7_EqFrame.f a b c l a b c l = some true := by
  unfold PEq.isthmusref7_EqFrame.f
  simp
theorem eq_fr (y : Gf) {W : World} {A : Option Addr} {c B B2 : Nat} (hc : y.pl.length ≤ c) (hr : Reads W B 1 A y.pl.length (encB y.pl)) (hc2 : y.pl.length ≤ y.c) (hr2 : Reads W B2 1 y.A y.pl.length (encB y.pl)) (hl : y.pl.length ≤ 100000) :
    Calls Try.prog 20 #[.agg #[.int .i64 y.t, .int .i64 y.f, .int .i64 y.s, .slice A y.pl.length c], .agg #[.int .i64 y.t, .int .i64 y.f, .int .i64 y.s, .slice y.A y.pl.length y.c]] W fun e w' => e = .returned (.bool true) ∧ Keep [] W w' := by
  have hh := PEq.isthmusref7_EqFrame.calls y.t y.f y.s A c (ints y.pl) y.t y.f y.s y.A y.c (ints y.pl) true W (C_of hr (by omega)) (by rw [ints_len]; exact hc) (C_of hr2 (by omega)) (by rw [ints_len]; exact hc2) (eqFrame_self _ _ _ _)
  rw [ints_len] at hh
  exact hh.mono fun e w' ⟨he, hb⟩ => ⟨he, Keep.of_below hb⟩
/-- the frame that the program cuts is the reference's -/
theorem cut_same {W : World} {base n mo j off k : Nat} {id : Int} {en : Bool} {bs : List UInt8} {xs : List Gf} (h : RList W base id en mo bs xs) (hn : bs.length = n) {x : Gf} (hx : xs[j]? = some x) (ho : off = j * mo) (hon : off ≤ n) (hk : k = min mo (n - off)) :
    x.t = typF j ∧ x.f = flgF j en (decide (off + k = n)) ∧ x.s = id ∧ x.pl = (bs.drop off).take k ∧ Row1 W base 5 (.slice x.A x.pl.length x.c) (encB x.pl) := by
  obtain ⟨h1, h2, h3, h4, h5⟩ := h.at_ j x hx
  have e1 : (j + 1) * mo = off + mo := by rw [ho, Nat.succ_mul]
  refine ⟨h1, ?_, h3, ?_, h5⟩
  · rw [h2, e1]
    congr 1
    rw [decide_eq_decide]
    omega
  · rw [h4, ← ho, hk]
    rcases Nat.le_total mo (n - off) with h | h
    · rw [Nat.min_eq_left h]
    · rw [Nat.min_eq_right h, List.take_of_length_le (by rw [List.length_drop]; omega), List.take_of_length_le (by rw [List.length_drop]; omega)]
/-- how many there are -/
theorem cut_count {n mo j N off : Nat} (hN : 1 ≤ N) (hNn : n ≤ N * mo) (hN2 : N = 1 ∨ (N - 1) * mo < n) (ho : off = j * mo) (hc : j = 0 ∨ off < n) : j < N := by
  rcases hc with rfl | h
  · exact hN
  · rw [ho] at h
    exact Nat.lt_of_mul_lt_mul_right (Nat.lt_of_lt_of_le h hNn)
theorem cut_end {n mo j N : Nat} (hmo : 1 ≤ mo) (hN : 1 ≤ N) (hN2 : N = 1 ∨ (N - 1) * mo < n) (hj : 1 ≤ j) (hjn : n ≤ j * mo) : N ≤ j := by
  rcases hN2 with rfl | h
  · exact hj
  · have := Nat.lt_of_mul_lt_mul_right (Nat.lt_of_lt_of_le h hjn)
    omega
theorem cut_len {n mo N : Nat} (hN2 : N = 1 ∨ (N - 1) * mo < n) (hmo : 1 ≤ mo) (hn : n ≤ 2000) : N ≤ 2001 := by
  rcases hN2 with rfl | h
  · omega
  · have := Nat.le_mul_of_pos_right (N - 1) hmo
    omega
end Go.Proofs.Ytenegjflapppdaa
