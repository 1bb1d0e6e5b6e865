/- What each method of flow (the program's and the reference's) comes to: plain functions, and the walks. -/
import Derived.Test.YtbnhlbbddlchmaaBase
set_option linter.all false
namespace Go.Proofs.Ytbnhlbbddlchmaa
open Go.ChangeShapes Go.WideShapes Go.ChangeAt Go.RowKit
attribute [local go_sem] setCell_drewN alloc_drewN
def M : Int := 2147483647
/-- a number within bounds -/
def cutP (n a b : Int) : Int := if n < a then a else if b < n then b else n
theorem cutP_lo {n a b : Int} (h : a ≤ b) : a ≤ cutP n a b := by unfold cutP; (repeat' split) <;> omega
theorem cutP_hi {n a b : Int} (h : a ≤ b) : cutP n a b ≤ b := by unfold cutP; (repeat' split) <;> omega
def takeE (l n : Int) : Int := if n < 0 then 1 else if 0 < n ∧ l < n then 9 else 0
def takeL (l n : Int) : Int := if n < 0 then l else if 0 < n ∧ l < n then l else l - n
def moreE (l n : Int) : Int := if n < 1 ∨ M < n then 1 else if M < l + n then 10 else 0
def moreL (l n : Int) : Int := if n < 1 ∨ M < n then l else if M < l + n then l else l + n
def shiftE (l n : Int) : Int := if n < -M ∨ M < n then 1 else if M < l + n then 10 else 0
def shiftL (l n : Int) : Int := if n < -M ∨ M < n then l else if M < l + n then l else if l + n < -M then -M else l + n
def InR (l : Int) : Prop := -2147483647 ≤ l ∧ l ≤ 2147483647
def I64 (l : Int) : Prop := -9223372036854775808 ≤ l ∧ l ≤ 9223372036854775807
theorem takeL_in {l n : Int} (h : InR l) : InR (takeL l n) := by unfold takeL InR at *; (repeat' split) <;> omega
theorem moreL_in {l n : Int} (h : InR l) : InR (moreL l n) := by unfold moreL InR M at *; (repeat' split) <;> omega
theorem shiftL_in {l n : Int} (h : InR l) : InR (shiftL l n) := by unfold shiftL InR M at *; (repeat' split) <;> omega

theorem cut (n a b : Int) (hab : a ≤ b) (w : World) : Calls Try.prog 26 #[.int .i64 n, .int .i64 a, .int .i64 b] w fun e w' => e = .returned (.int .i64 (cutP n a b)) ∧ w = w' := by
  go_enter Try.func26, Try.ntmps26
  go_wp2
  all_goals (go_ret; exact ⟨ret_int (by unfold cutP; (repeat' split) <;> omega), rfl⟩)
theorem rcut (n a b : Int) (hab : a ≤ b) (w : World) : Calls Try.prog 27 #[.int .i64 n, .int .i64 a, .int .i64 b] w fun e w' => e = .returned (.int .i64 (cutP n a b)) ∧ w = w' := by
  go_enter Try.func27, Try.ntmps27
  go_wp2
  all_goals (go_ret; exact ⟨ret_int (by unfold cutP; (repeat' split) <;> omega), rfl⟩)

/-! ### Out -/
theorem newOut (n : Int) (w : World) : Calls Try.prog 8 #[.int .i64 n] w fun e w' => e = .returned (.pointer (some ⟨w.heap.size, 0, none⟩)) ∧ w' = w.alloc (.cells #[.int .i64 (cutP n 0 M)] 45) := by
  go_enter Try.func8, Try.ntmps8
  go_wp2_with (go_at_call 26; refine (cut _ _ _ (by omega) _).mono ?_; rintro e w' ⟨rfl, rfl⟩)
  go_ret
  exact ⟨rfl, rfl⟩
theorem rnewOut (n : Int) (w : World) : Calls Try.prog 9 #[.int .i64 n] w fun e w' => e = .returned (.pointer (some ⟨w.heap.size, 0, none⟩)) ∧ w' = w.alloc (.cells #[.int .i64 (cutP n 0 M)] 30) := by
  go_enter Try.func9, Try.ntmps9
  go_wp2_with (go_at_call 27; refine (rcut _ _ _ (by omega) _).mono ?_; rintro e w' ⟨rfl, rfl⟩)
  go_ret
  exact ⟨rfl, rfl⟩
section
variable (b : Nat) (l n : Int) (w : World) (hc : w.cell? ⟨b, 0, none⟩ = some (.int .i64 l)) (hf : w.frozen? ⟨b, 0, none⟩ = false) (hl : -2147483647 ≤ l) (hl' : l ≤ 2147483647)
include hc in
theorem outLeft : Calls Try.prog 10 #[.pointer (some ⟨b, 0, none⟩)] w fun e w' => e = .returned (.int .i64 l) ∧ w = w' := by
  go_enter Try.func10, Try.ntmps10
  go_wp2
  go_ret
  exact ⟨rfl, rfl⟩
include hc hf hl hl' in
theorem outTake : Calls Try.prog 11 #[.pointer (some ⟨b, 0, none⟩), .int .i64 n] w fun e w' => e = .returned (.int .i64 (takeE l n)) ∧ w' = w.setCell ⟨b, 0, none⟩ (.int .i64 (takeL l n)) := by
  go_enter Try.func11, Try.ntmps11
  go_wp2
  all_goals (go_ret; refine ⟨ret_int (by unfold takeE; (repeat' split) <;> omega), ?_⟩; first | exact set_eq (by unfold takeL; (repeat' split) <;> omega) | exact set_none hc (by unfold takeL; (repeat' split) <;> omega))
include hc hf hl hl' in
theorem routTake : Calls Try.prog 12 #[.pointer (some ⟨b, 0, none⟩), .int .i64 n] w fun e w' => e = .returned (.int .i64 (takeE l n)) ∧ w' = w.setCell ⟨b, 0, none⟩ (.int .i64 (takeL l n)) := by
  go_enter Try.func12, Try.ntmps12
  go_wp2
  all_goals (go_ret; refine ⟨ret_int (by unfold takeE; (repeat' split) <;> omega), ?_⟩; first | exact set_eq (by unfold takeL; (repeat' split) <;> omega) | exact set_none hc (by unfold takeL; (repeat' split) <;> omega))
include hc hf hl hl' in
theorem outShift : Calls Try.prog 15 #[.pointer (some ⟨b, 0, none⟩), .int .i64 n] w fun e w' => e = .returned (.int .i64 (shiftE l n)) ∧ w' = w.setCell ⟨b, 0, none⟩ (.int .i64 (shiftL l n)) := by
  go_enter Try.func15, Try.ntmps15
  go_wp2
  all_goals (go_ret; refine ⟨ret_int (by unfold shiftE M; (repeat' split) <;> omega), ?_⟩; first | exact set_eq (by unfold shiftL M; (repeat' split) <;> omega) | exact set_none hc (by unfold shiftL M; (repeat' split) <;> omega))
include hc hf hl hl' in
theorem routMore : Calls Try.prog 14 #[.pointer (some ⟨b, 0, none⟩), .int .i64 n] w fun e w' => e = .returned (.int .i64 (moreE l n)) ∧ w' = w.setCell ⟨b, 0, none⟩ (.int .i64 (moreL l n)) := by
  go_enter Try.func14, Try.ntmps14
  go_wp2
  all_goals (go_ret; refine ⟨ret_int (by unfold moreE M; (repeat' split) <;> omega), ?_⟩; first | exact set_eq (by unfold moreL M; (repeat' split) <;> omega) | exact set_none hc (by unfold moreL M; (repeat' split) <;> omega))
include hc hf hl hl' in
theorem outMore : Calls Try.prog 13 #[.pointer (some ⟨b, 0, none⟩), .int .i64 n] w fun e w' => e = .returned (.int .i64 (moreE l n)) ∧ w' = w.setCell ⟨b, 0, none⟩ (.int .i64 (moreL l n)) := by
  go_enter Try.func13, Try.ntmps13
  go_wp2_with (go_at_call 15; refine (outShift _ _ _ _ hc hf hl hl').mono ?_; rintro e w' ⟨rfl, rfl⟩)
  all_goals (go_ret; refine ⟨ret_int (by unfold moreE; (try unfold shiftE); unfold M; (repeat' split) <;> omega), ?_⟩; first | exact set_eq (by unfold moreL shiftL M; (repeat' split) <;> omega) | exact set_none hc (by unfold moreL M; (repeat' split) <;> omega))
include hc hf hl hl' in
theorem routShift : Calls Try.prog 16 #[.pointer (some ⟨b, 0, none⟩), .int .i64 n] w fun e w' => e = .returned (.int .i64 (shiftE l n)) ∧ w' = w.setCell ⟨b, 0, none⟩ (.int .i64 (shiftL l n)) := by
  go_enter Try.func16, Try.ntmps16
  go_wp2_with (go_at_call 27; refine (rcut _ _ _ (by omega) _).mono ?_; rintro e w' ⟨rfl, rfl⟩)
  all_goals (go_ret; refine ⟨ret_int (by unfold shiftE M; (repeat' split) <;> omega), ?_⟩; first | exact set_eq (by unfold shiftL cutP M; (repeat' split) <;> omega) | exact set_none hc (by unfold shiftL M; (repeat' split) <;> omega))
end

/-! ### In: size, left, used -/
def inShS (s n : Int) : Int := cutP (s + cutP n (-M) M) 0 M
def inShL (s l n : Int) : Int := l + (inShS s n - s)
def agN (s u : Int) : Int := if u = 0 ∨ u < (s + 1) / 2 then 0 else u
def agL (s l u : Int) : Int := l + agN s u
def agU (s u : Int) : Int := if u = 0 ∨ u < (s + 1) / 2 then u else 0
theorem newIn (n : Int) (w : World) : Calls Try.prog 17 #[.int .i64 n] w fun e w' => e = .returned (.pointer (some ⟨w.heap.size, 0, none⟩)) ∧ w' = w.alloc (.cells #[.int .i64 (cutP n 0 M), .int .i64 (cutP n 0 M), .int .i64 0] 47) := by
  go_enter Try.func17, Try.ntmps17
  go_wp2_with (go_at_call 26; refine (cut _ _ _ (by omega) _).mono ?_; rintro e w' ⟨rfl, rfl⟩)
  go_ret
  exact ⟨rfl, rfl⟩
theorem rnewIn (n : Int) (w : World) : Calls Try.prog 18 #[.int .i64 n] w fun e w' => e = .returned (.pointer (some ⟨w.heap.size, 0, none⟩)) ∧ w' = w.alloc (.cells #[.int .i64 (cutP n 0 M), .int .i64 (cutP n 0 M), .int .i64 0] 41) := by
  go_enter Try.func18, Try.ntmps18
  go_wp2_with (go_at_call 27; refine (rcut _ _ _ (by omega) _).mono ?_; rintro e w' ⟨rfl, rfl⟩)
  go_ret
  exact ⟨rfl, rfl⟩
section
variable (b : Nat) (s l u n : Int) (w : World) (h0 : w.cell? ⟨b, 0, none⟩ = some (.int .i64 s)) (h1 : w.cell? ⟨b, 1, none⟩ = some (.int .i64 l)) (h2 : w.cell? ⟨b, 2, none⟩ = some (.int .i64 u))
  (f0 : w.frozen? ⟨b, 0, none⟩ = false) (f1 : w.frozen? ⟨b, 1, none⟩ = false) (f2 : w.frozen? ⟨b, 2, none⟩ = false) (hs : 0 ≤ s) (hs' : s ≤ 2147483647)
include h1 in
theorem inLeft : Calls Try.prog 19 #[.pointer (some ⟨b, 0, none⟩)] w fun e w' => e = .returned (.int .i64 l) ∧ w = w' := by
  go_enter Try.func19, Try.ntmps19
  go_wp2
  go_ret
  exact ⟨rfl, rfl⟩
def InOk (s l u : Int) : Prop := l + u = s ∧ 0 ≤ s ∧ s ≤ 2147483647 ∧ 0 ≤ u ∧ u ≤ 2147483647
def comeU (l u n : Int) : Int := if n < 0 then u else if 0 < n ∧ l < n then u else u + n
theorem setl {w : World} {b : Nat} {l u x y : Int} (hx : l = x) (hy : u = y) :
    (w.setCell ⟨b, 1, none⟩ (.int .i64 l)).setCell ⟨b, 2, none⟩ (.int .i64 u) = (w.setCell ⟨b, 1, none⟩ (.int .i64 x)).setCell ⟨b, 2, none⟩ (.int .i64 y) := by
  rw [hx, hy]
theorem setl0 {w : World} {b : Nat} {l u x y : Int} (h1 : w.cell? ⟨b, 1, none⟩ = some (.int .i64 l)) (h2 : w.cell? ⟨b, 2, none⟩ = some (.int .i64 u)) (hx : x = l) (hy : y = u) :
    w = (w.setCell ⟨b, 1, none⟩ (.int .i64 x)).setCell ⟨b, 2, none⟩ (.int .i64 y) := by
  rw [hx, hy, setCell_self w ⟨b, 1, none⟩ _ h1, setCell_self w ⟨b, 2, none⟩ _ h2]
include h1 h2 f1 f2 in
theorem inCome (hi : InOk s l u) : Calls Try.prog 20 #[.pointer (some ⟨b, 0, none⟩), .int .i64 n] w fun e w' => e = .returned (.int .i64 (takeE l n)) ∧ w' = (w.setCell ⟨b, 1, none⟩ (.int .i64 (takeL l n))).setCell ⟨b, 2, none⟩ (.int .i64 (comeU l u n)) := by
  obtain ⟨_, _, _, _, _⟩ := hi
  have : l ≤ 2147483647 := by omega
  have : -2147483647 ≤ l := by omega
  have hsum := Lib.hid ‹l + u = s›
  clear ‹l + u = s›
  go_enter Try.func20, Try.ntmps20
  go_wp2
  all_goals (go_ret; refine ⟨ret_int (by unfold takeE; (repeat' split) <;> omega), ?_⟩; first | exact setl (by unfold takeL; (repeat' split) <;> omega) (by unfold comeU; (repeat' split) <;> omega) | exact setl0 h1 h2 (by unfold takeL; (repeat' split) <;> omega) (by unfold comeU; (repeat' split) <;> omega))
include h1 h2 f1 f2 in
theorem rinCome (hi : InOk s l u) : Calls Try.prog 21 #[.pointer (some ⟨b, 0, none⟩), .int .i64 n] w fun e w' => e = .returned (.int .i64 (takeE l n)) ∧ w' = (w.setCell ⟨b, 1, none⟩ (.int .i64 (takeL l n))).setCell ⟨b, 2, none⟩ (.int .i64 (comeU l u n)) := by
  obtain ⟨_, _, _, _, _⟩ := hi
  have : l ≤ 2147483647 := by omega
  have : -2147483647 ≤ l := by omega
  have hsum := Lib.hid ‹l + u = s›
  clear ‹l + u = s›
  go_enter Try.func21, Try.ntmps21
  go_wp2
  all_goals (go_ret; refine ⟨ret_int (by unfold takeE; (repeat' split) <;> omega), ?_⟩; first | exact setl (by unfold takeL; (repeat' split) <;> omega) (by unfold comeU; (repeat' split) <;> omega) | exact setl0 h1 h2 (by unfold takeL; (repeat' split) <;> omega) (by unfold comeU; (repeat' split) <;> omega))
include h0 h1 f0 f1 in
theorem inShift (hi : InOk s l u) : Calls Try.prog 22 #[.pointer (some ⟨b, 0, none⟩), .int .i64 n] w fun e w' => e = .returned (.tuple #[]) ∧ ∃ m, w' = ((w.setCell ⟨b, 1, none⟩ (.int .i64 (inShL s l n))).setCell ⟨b, 0, none⟩ (.int .i64 (inShS s n))).drewN m := by
  obtain ⟨_, _, _, _, _⟩ := hi
  have : l ≤ 2147483647 := by omega
  have : -2147483647 ≤ l := by omega
  have hsum := Lib.hid ‹l + u = s›
  clear ‹l + u = s›
  have hM := cutP_lo (n := n) (a := -2147483647) (b := 2147483647) (by omega)
  have hM' := cutP_hi (n := n) (a := -2147483647) (b := 2147483647) (by omega)
  have hN := cutP_lo (n := s + cutP n (-2147483647) (2147483647)) (a := 0) (b := 2147483647) (by omega)
  have hN' := cutP_hi (n := s + cutP n (-2147483647) (2147483647)) (a := 0) (b := 2147483647) (by omega)
  go_enter Try.func22, Try.ntmps22
  go_wp2
  go_quiet ((go_at_call 26; refine Calls.quiet_of_same ((cut _ _ _ (by omega) _).mono fun _ _ ⟨a, b⟩ => ⟨a, b.symm⟩)))
  go_wp2
  go_region
  go_wp2
  go_returns
  exact ⟨rfl, _, rfl⟩
include h0 h1 f0 f1 in
theorem rinShift (hi : InOk s l u) : Calls Try.prog 23 #[.pointer (some ⟨b, 0, none⟩), .int .i64 n] w fun e w' => e = .returned (.tuple #[]) ∧ ∃ m, w' = ((w.setCell ⟨b, 1, none⟩ (.int .i64 (inShL s l n))).setCell ⟨b, 0, none⟩ (.int .i64 (inShS s n))).drewN m := by
  obtain ⟨_, _, _, _, _⟩ := hi
  have : l ≤ 2147483647 := by omega
  have : -2147483647 ≤ l := by omega
  have hsum := Lib.hid ‹l + u = s›
  clear ‹l + u = s›
  have hM := cutP_lo (n := n) (a := -2147483647) (b := 2147483647) (by omega)
  have hM' := cutP_hi (n := n) (a := -2147483647) (b := 2147483647) (by omega)
  have hN := cutP_lo (n := s + cutP n (-2147483647) (2147483647)) (a := 0) (b := 2147483647) (by omega)
  have hN' := cutP_hi (n := s + cutP n (-2147483647) (2147483647)) (a := 0) (b := 2147483647) (by omega)
  go_enter Try.func23, Try.ntmps23
  go_wp2
  go_quiet ((go_at_call 27; refine Calls.quiet_of_same ((rcut _ _ _ (by omega) _).mono fun _ _ ⟨a, b⟩ => ⟨a, b.symm⟩)))
  go_wp2
  go_region
  go_wp2
  go_returns
  exact ⟨rfl, _, rfl⟩
include h0 h1 h2 f1 f2 in
theorem inAgain (hi : InOk s l u) : Calls Try.prog 24 #[.pointer (some ⟨b, 0, none⟩)] w fun e w' => e = .returned (.int .i64 (agN s u)) ∧ ∃ m, w' = ((w.setCell ⟨b, 1, none⟩ (.int .i64 (agL s l u))).setCell ⟨b, 2, none⟩ (.int .i64 (agU s u))).drewN m := by
  obtain ⟨_, _, _, _, _⟩ := hi
  have : l ≤ 2147483647 := by omega
  have : -2147483647 ≤ l := by omega
  have hsum := Lib.hid ‹l + u = s›
  clear ‹l + u = s›
  by_cases hu0 : u = 0
  · have q : ((u : Int) == 0) = true := by simp [hu0]
    go_enter Try.func24, Try.ntmps24
    go_wp2
    go_quiet (fail)
    go_wp2
    go_ret
    exact ⟨ret_int (by unfold agN; (repeat' split) <;> omega), _, by rw [← setl0 h1 h2 (x := agL s l u) (y := agU s u) (by unfold agL agN; (repeat' split) <;> omega) (by unfold agU; (repeat' split) <;> omega)]⟩
  · have q : ((u : Int) == 0) = false := by simp [hu0]
    go_enter Try.func24, Try.ntmps24
    go_wp2
    go_quiet (fail)
    go_wp2
    · go_ret
      exact ⟨ret_int (by unfold agN; (repeat' split) <;> omega), _, by rw [← setl0 h1 h2 (x := agL s l u) (y := agU s u) (by unfold agL agN; (repeat' split) <;> omega) (by unfold agU; (repeat' split) <;> omega)]⟩
    · go_ret
      exact ⟨ret_int (by unfold agN; (repeat' split) <;> omega), _, congrArg (World.drewN · _) (setl (by unfold agL agN; (repeat' split) <;> omega) (by unfold agU; (repeat' split) <;> omega))⟩
include h0 h1 h2 f1 f2 in
theorem rinAgain (hi : InOk s l u) : Calls Try.prog 25 #[.pointer (some ⟨b, 0, none⟩)] w fun e w' => e = .returned (.int .i64 (agN s u)) ∧ ∃ m, w' = ((w.setCell ⟨b, 1, none⟩ (.int .i64 (agL s l u))).setCell ⟨b, 2, none⟩ (.int .i64 (agU s u))).drewN m := by
  obtain ⟨_, _, _, _, _⟩ := hi
  have : l ≤ 2147483647 := by omega
  have : -2147483647 ≤ l := by omega
  have hsum := Lib.hid ‹l + u = s›
  clear ‹l + u = s›
  by_cases hu0 : u = 0
  · have q : ((u : Int) == 0) = true := by simp [hu0]
    go_enter Try.func25, Try.ntmps25
    go_wp2
    go_quiet (fail)
    go_wp2
    go_ret
    exact ⟨ret_int (by unfold agN; (repeat' split) <;> omega), _, by rw [← setl0 h1 h2 (x := agL s l u) (y := agU s u) (by unfold agL agN; (repeat' split) <;> omega) (by unfold agU; (repeat' split) <;> omega)]⟩
  · have q : ((u : Int) == 0) = false := by simp [hu0]
    go_enter Try.func25, Try.ntmps25
    go_wp2
    go_quiet (fail)
    go_wp2
    · go_ret
      exact ⟨ret_int (by unfold agN; (repeat' split) <;> omega), _, by rw [← setl0 h1 h2 (x := agL s l u) (y := agU s u) (by unfold agL agN; (repeat' split) <;> omega) (by unfold agU; (repeat' split) <;> omega)]⟩
    · go_ret
      exact ⟨ret_int (by unfold agN; (repeat' split) <;> omega), _, congrArg (World.drewN · _) (setl (by unfold agL agN; (repeat' split) <;> omega) (by unfold agU; (repeat' split) <;> omega))⟩
end
end Go.Proofs.Ytbnhlbbddlchmaa
