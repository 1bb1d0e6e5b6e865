/- timer: Arm, Stop, At, Next, New. -/
import Derived.Test.YtneomofldjhpjaaRNext
set_option linter.all false
namespace Go.Proofs.Ytneomofldjhpjaa
open Go.ChangeShapes Go.WideShapes Go.ChangeAt Go.RowKit
attribute [local go_sem] setCell_drewN alloc_drewN
theorem OkD.set_ {D : List Int} (h : OkD D) {k : Nat} {x : Int} (h1 : 1 ≤ k) (hx : -1 ≤ x ∧ x ≤ 1099511627776) : OkD (D.set k x) := by
  refine ⟨by rw [List.length_set]; exact h.len, ?_, fun j => ?_⟩
  · have := h.zero
    simp only [List.getD_eq_getElem?_getD, List.getElem?_set] at this ⊢
    rw [if_neg (by omega)]; exact this
  · have := h.all j
    simp only [List.getD_eq_getElem?_getD, List.getElem?_set] at this ⊢
    by_cases hj : k = j
    · rw [if_pos hj]
      by_cases hl : j < D.length
      · simp [hj, hl]; exact hx
      · simp [hj, hl]
    · rw [if_neg hj]; exact this
theorem setP {D : List Int} {w : World} {b : Nat} (bd : Blk w b 51 (encP D).toArray) (k : Nat) (x : Int) {v0 v1 : Value} (h0 : v0 = .int .i64 (if x < 0 then 0 else x)) (h1 : v1 = .bool (decide (0 ≤ x))) :
    Blk ((w.setCell ⟨b, k * 2, none⟩ v0).setCell ⟨b, k * 2 + 1, none⟩ v1) b 51 (encP (D.set k x)).toArray := by
  subst h0 h1
  have := (bd.set_ (k * 2) (.int .i64 (if x < 0 then 0 else x))).set_ (k * 2 + 1) (.bool (decide (0 ≤ x)))
  rw [List.setIfInBounds_toArray, List.setIfInBounds_toArray, encP_set] at this
  exact this
theorem setR {D : List Int} {w : World} {b : Nat} (bd : Blk w b 54 (encR D).toArray) (k : Nat) (x : Int) : Blk (w.setCell ⟨b, k, none⟩ (.int .i64 x)) b 54 (encR (D.set k x)).toArray := by
  have := bd.set_ k (.int .i64 x)
  rw [List.setIfInBounds_toArray] at this
  simpa [encR, List.map_set] using this
theorem only2 {w : World} {b i j : Nat} {u v : Value} : w.grownBy ((w.setCell ⟨b, i, none⟩ u).setCell ⟨b, j, none⟩ v) (some b) := only_setCell (p := ⟨b, j, none⟩) (only_setCell (p := ⟨b, i, none⟩) (World.grownBy.refl w _) (.inl rfl) _) (.inl rfl) _
theorem only1 {w : World} {b i : Nat} {u : Value} : w.grownBy (w.setCell ⟨b, i, none⟩ u) (some b) := only_setCell (p := ⟨b, i, none⟩) (World.grownBy.refl w _) (.inl rfl) _
section
variable (w : World)
theorem kind_no {k : Int} (h : k < 1 ∨ 5 < k) : Calls Try.prog 20 #[.int .i64 k] w fun e w' => e = .returned (.bool false) ∧ w = w' := by
  rcases h with h | h
  · have h' : ¬ 1 ≤ k := by omega
    go_enter Try.func20, Try.ntmps20
    go_wp2
    all_goals (go_ret; exact ⟨by first | rfl | (refine ret_bool ?_; simp; omega), rfl⟩)
  · have h' : ¬ k ≤ 5 := by omega
    have h1 : 1 ≤ k := by omega
    go_enter Try.func20, Try.ntmps20
    go_wp2
    all_goals (go_ret; exact ⟨by first | rfl | (refine ret_bool ?_; simp; omega), rfl⟩)
theorem kind_yes {k : Int} (h : 1 ≤ k) (h5 : k ≤ 5) : Calls Try.prog 20 #[.int .i64 k] w fun e w' => e = .returned (.bool true) ∧ w = w' := by
  go_enter Try.func20, Try.ntmps20
  go_wp2
  all_goals (go_ret; exact ⟨by first | rfl | (refine ret_bool ?_; simp; omega), rfl⟩)
theorem rkind_no {k : Int} (h : k < 1 ∨ 5 < k) : Calls Try.prog 21 #[.int .i64 k] w fun e w' => e = .returned (.bool false) ∧ w = w' := by
  rcases h with h | h
  · have h' : ¬ 1 ≤ k := by omega
    go_enter Try.func21, Try.ntmps21
    go_wp2
    all_goals (go_ret; exact ⟨by first | rfl | (refine ret_bool ?_; simp; omega), rfl⟩)
  · have h' : ¬ k ≤ 5 := by omega
    have h1 : 1 ≤ k := by omega
    go_enter Try.func21, Try.ntmps21
    go_wp2
    all_goals (go_ret; exact ⟨by first | rfl | (refine ret_bool ?_; simp; omega), rfl⟩)
theorem rkind_yes {k : Int} (h : 1 ≤ k) (h5 : k ≤ 5) : Calls Try.prog 21 #[.int .i64 k] w fun e w' => e = .returned (.bool true) ∧ w = w' := by
  go_enter Try.func21, Try.ntmps21
  go_wp2
  all_goals (go_ret; exact ⟨by first | rfl | (refine ret_bool ?_; simp; omega), rfl⟩)
theorem new_ : Calls Try.prog 9 #[] w fun e w' => e = .returned (.pointer (some ⟨w.heap.size, 0, none⟩)) ∧ w' = w.alloc (.cells (encP [-1, -1, -1, -1, -1, -1]).toArray 51) := by
  go_enter Try.func9, Try.ntmps9
  go_wp2
  go_ret
  exact ⟨rfl, rfl⟩
/-- arming that may be -/
def ArmOk (k at_ : Int) : Prop := (1 ≤ k ∧ k ≤ 5) ∧ 0 ≤ at_ ∧ at_ ≤ 1099511627776
variable {D : List Int} {b : Nat}
theorem arm_yes (hD : OkD D) (bd : Blk w b 51 (encP D).toArray) {k : Nat} {x : Int} (h1 : 1 ≤ k) (h5 : k ≤ 5) (h0 : 0 ≤ x) (hx : x ≤ 1099511627776) :
    Calls Try.prog 11 #[.pointer (some ⟨b, 0, none⟩), .int .i64 k, .int .i64 x] w fun e w' => e = .returned (.int .i64 0) ∧ Blk w' b 51 (encP (D.set k x)).toArray ∧ w.grownBy w' (some b) := by
  obtain ⟨c0, c1⟩ := cellP hD bd h5
  have f0 := bd.frozen (k * 2)
  have f1 := bd.frozen (k * 2 + 1)
  have k1 : (1 : Int) ≤ (k : Int) := by omega
  have k5 : (k : Int) ≤ 5 := by omega
  have k0 : (0 : Int) ≤ (k : Int) := by omega
  have k6 : (k : Int) < 6 := by omega
  have hxn : ¬ x < 0 := by omega
  have hxm : ¬ 1099511627776 < x := by omega
  obtain ⟨v, hv⟩ : ∃ v, v = atF D k := ⟨_, rfl⟩
  rw [← hv] at c0
  obtain ⟨u, hu⟩ : ∃ u, u = decide (0 ≤ D.getD k (-1)) := ⟨_, rfl⟩
  rw [← hu] at c1
  clear hv hu hD
  go_enter Try.func11, Try.ntmps11
  go_wp2_with (go_at_call 20; refine (kind_yes _ k1 k5).mono ?_; rintro e w' ⟨rfl, rfl⟩)
  go_ret
  exact ⟨rfl, setP bd k x (by rw [if_neg (by omega)]) (by rw [decide_eq_true h0]), only2⟩
theorem arm_no (bd : Blk w b 51 (encP D).toArray) {k x : Int} (h : ¬ ArmOk k x) :
    Calls Try.prog 11 #[.pointer (some ⟨b, 0, none⟩), .int .i64 k, .int .i64 x] w fun e w' => e = .returned (.int .i64 1) ∧ w = w' := by
  unfold ArmOk at h
  by_cases hk : 1 ≤ k ∧ k ≤ 5
  · obtain ⟨k1, k5⟩ := hk
    have hx : x < 0 ∨ 1099511627776 < x := by omega
    clear h
    rcases hx with hx | hx
    · go_enter Try.func11, Try.ntmps11
      go_wp2_with (go_at_call 20; refine (kind_yes _ k1 k5).mono ?_; rintro e w' ⟨rfl, rfl⟩)
      go_ret
      exact ⟨rfl, rfl⟩
    · have hx0 : ¬ x < 0 := by omega
      go_enter Try.func11, Try.ntmps11
      go_wp2_with (go_at_call 20; refine (kind_yes _ k1 k5).mono ?_; rintro e w' ⟨rfl, rfl⟩)
      go_ret
      exact ⟨rfl, rfl⟩
  · have hk' : k < 1 ∨ 5 < k := by omega
    have hk' := Lib.hid hk'
    clear h hk
    go_enter Try.func11, Try.ntmps11
    go_wp2_with (go_at_call 20; refine (kind_no _ hk'.out).mono ?_; rintro e w' ⟨rfl, rfl⟩)
    go_ret
    exact ⟨rfl, rfl⟩
theorem rarm_yes (hD : OkD D) (bd : Blk w b 54 (encR D).toArray) {k : Nat} {x : Int} (h1 : 1 ≤ k) (h5 : k ≤ 5) (h0 : 0 ≤ x) (hx : x ≤ 1099511627776) :
    Calls Try.prog 12 #[.pointer (some ⟨b, 0, none⟩), .int .i64 k, .int .i64 x] w fun e w' => e = .returned (.int .i64 0) ∧ Blk w' b 54 (encR (D.set k x)).toArray ∧ w.grownBy w' (some b) := by
  have c0 := cellR hD bd h5
  have f0 := bd.frozen k
  have k1 : (1 : Int) ≤ (k : Int) := by omega
  have k5 : (k : Int) ≤ 5 := by omega
  have k0 : (0 : Int) ≤ (k : Int) := by omega
  have k6 : (k : Int) < 6 := by omega
  have hxn : ¬ x < 0 := by omega
  have hxm : ¬ 1099511627776 < x := by omega
  obtain ⟨v, hv⟩ : ∃ v, v = D.getD k (-1) := ⟨_, rfl⟩
  rw [← hv] at c0
  clear hv hD
  go_enter Try.func12, Try.ntmps12
  go_wp2_with (go_at_call 21; refine (rkind_yes _ k1 k5).mono ?_; rintro e w' ⟨rfl, rfl⟩)
  go_ret
  exact ⟨rfl, setR bd k x, only1⟩
theorem rarm_no (bd : Blk w b 54 (encR D).toArray) {k x : Int} (h : ¬ ArmOk k x) :
    Calls Try.prog 12 #[.pointer (some ⟨b, 0, none⟩), .int .i64 k, .int .i64 x] w fun e w' => e = .returned (.int .i64 1) ∧ w = w' := by
  unfold ArmOk at h
  by_cases hk : 1 ≤ k ∧ k ≤ 5
  · obtain ⟨k1, k5⟩ := hk
    have hx : x < 0 ∨ 1099511627776 < x := by omega
    clear h
    rcases hx with hx | hx
    · go_enter Try.func12, Try.ntmps12
      go_wp2_with (go_at_call 21; refine (rkind_yes _ k1 k5).mono ?_; rintro e w' ⟨rfl, rfl⟩)
      go_ret
      exact ⟨rfl, rfl⟩
    · have hx0 : ¬ x < 0 := by omega
      go_enter Try.func12, Try.ntmps12
      go_wp2_with (go_at_call 21; refine (rkind_yes _ k1 k5).mono ?_; rintro e w' ⟨rfl, rfl⟩)
      go_ret
      exact ⟨rfl, rfl⟩
  · have hk' : k < 1 ∨ 5 < k := by omega
    have hk' := Lib.hid hk'
    clear h hk
    go_enter Try.func12, Try.ntmps12
    go_wp2_with (go_at_call 21; refine (rkind_no _ hk'.out).mono ?_; rintro e w' ⟨rfl, rfl⟩)
    go_ret
    exact ⟨rfl, rfl⟩
theorem stop_yes (hD : OkD D) (bd : Blk w b 51 (encP D).toArray) {k : Nat} (h1 : 1 ≤ k) (h5 : k ≤ 5) :
    Calls Try.prog 13 #[.pointer (some ⟨b, 0, none⟩), .int .i64 k] w fun e w' => e = .returned (.tuple #[]) ∧ Blk w' b 51 (encP (D.set k (-1))).toArray ∧ w.grownBy w' (some b) := by
  obtain ⟨c0, c1⟩ := cellP hD bd h5
  have f0 := bd.frozen (k * 2)
  have f1 := bd.frozen (k * 2 + 1)
  have k1 : (1 : Int) ≤ (k : Int) := by omega
  have k5 : (k : Int) ≤ 5 := by omega
  have k0 : (0 : Int) ≤ (k : Int) := by omega
  have k6 : (k : Int) < 6 := by omega
  obtain ⟨v, hv⟩ : ∃ v, v = atF D k := ⟨_, rfl⟩
  rw [← hv] at c0
  obtain ⟨u, hu⟩ : ∃ u, u = decide (0 ≤ D.getD k (-1)) := ⟨_, rfl⟩
  rw [← hu] at c1
  clear hv hu hD
  go_enter Try.func13, Try.ntmps13
  go_wp2_with (go_at_call 20; refine (kind_yes _ k1 k5).mono ?_; rintro e w' ⟨rfl, rfl⟩)
  go_end0
  exact ⟨rfl, setP bd k (-1) rfl rfl, only2⟩
theorem stop_no {k : Int} (h : k < 1 ∨ 5 < k) :
    Calls Try.prog 13 #[.pointer (some ⟨b, 0, none⟩), .int .i64 k] w fun e w' => e = .returned (.tuple #[]) ∧ w = w' := by
  have hk' := Lib.hid h
  clear h
  go_enter Try.func13, Try.ntmps13
  go_wp2_with (go_at_call 20; refine (kind_no _ hk'.out).mono ?_; rintro e w' ⟨rfl, rfl⟩)
  go_end0
  exact ⟨rfl, rfl⟩
theorem rstop_yes (hD : OkD D) (bd : Blk w b 54 (encR D).toArray) {k : Nat} (h1 : 1 ≤ k) (h5 : k ≤ 5) :
    Calls Try.prog 14 #[.pointer (some ⟨b, 0, none⟩), .int .i64 k] w fun e w' => e = .returned (.tuple #[]) ∧ Blk w' b 54 (encR (D.set k (-1))).toArray ∧ w.grownBy w' (some b) := by
  have c0 := cellR hD bd h5
  have f0 := bd.frozen k
  have k1 : (1 : Int) ≤ (k : Int) := by omega
  have k5 : (k : Int) ≤ 5 := by omega
  have k0 : (0 : Int) ≤ (k : Int) := by omega
  have k6 : (k : Int) < 6 := by omega
  obtain ⟨v, hv⟩ : ∃ v, v = D.getD k (-1) := ⟨_, rfl⟩
  rw [← hv] at c0
  clear hv hD
  go_enter Try.func14, Try.ntmps14
  go_wp2_with (go_at_call 21; refine (rkind_yes _ k1 k5).mono ?_; rintro e w' ⟨rfl, rfl⟩)
  go_end0
  exact ⟨rfl, setR bd k (-1), only1⟩
theorem rstop_no {k : Int} (h : k < 1 ∨ 5 < k) :
    Calls Try.prog 14 #[.pointer (some ⟨b, 0, none⟩), .int .i64 k] w fun e w' => e = .returned (.tuple #[]) ∧ w = w' := by
  have hk' := Lib.hid h
  clear h
  go_enter Try.func14, Try.ntmps14
  go_wp2_with (go_at_call 21; refine (rkind_no _ hk'.out).mono ?_; rintro e w' ⟨rfl, rfl⟩)
  go_end0
  exact ⟨rfl, rfl⟩
end
end Go.Proofs.Ytneomofldjhpjaa
