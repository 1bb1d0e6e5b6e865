/- stream: Come -/
import Derived.Test.YtkicffapbcnkbaaCtr
set_option linter.all false
namespace Go.Proofs.Ytkicffapbcnkbaa
open Go.ChangeShapes Go.WideShapes Go.ChangeAt Go.RowKit
attribute [local go_sem] setCell_drewN alloc_drewN
section
variable (b : Nat) (st why k : Int) (e : Bool) (w : World)
set_option maxHeartbeats 4000000 in
theorem late_ (hv : (st = 4 ∧ why = 1) ∨ (st = 4 ∧ why = 2) ∨ (st = 4 ∧ why = 3)) (hk : k = 1 ∨ k = 2 ∨ k = 3 ∨ k = 4 ∨ k = 5) (hb : Blk w b 45 #[.int .i64 st, .int .i64 why]) : Calls Try.prog 24 #[.pointer (some ⟨b, 0, none⟩), .int .i64 k] w fun e' w' => e' = .returned (.tuple #[.int .i64 (comeF st why k e).1, .int .i64 (comeF st why k e).2.1]) ∧ w = w' := by
  have c0 := hb.cell 0
  have c1 := hb.cell 1
  simp at c0 c1
  cases e
  all_goals
    rcases hk with rfl | rfl | rfl | rfl | rfl
    all_goals
      rcases hv with ⟨rfl, rfl⟩ | ⟨rfl, rfl⟩ | ⟨rfl, rfl⟩
      all_goals
        go_enter Try.func24, Try.ntmps24
        go_wp2
        go_ret2
        exact ⟨rfl, rfl⟩
theorem come_out (hk : k < 1 ∨ 5 < k) (hb : Blk w b 45 #[.int .i64 st, .int .i64 why]) : Calls Try.prog 13 #[.pointer (some ⟨b, 0, none⟩), .int .i64 k, .bool e] w (CPost w b 45 (comeF st why k e)) := by
  have c0 := hb.cell 0
  have c1 := hb.cell 1
  simp at c0 c1
  have hf := comeF_out st why k e hk
  rw [hf]
  clear hf
  have hk' := Lib.hid hk
  rcases hk with hk | hk
  · have h' : ¬ (1 ≤ k) := by omega
    go_enter Try.func13, Try.ntmps13
    go_wp2_with (first | (go_at_call 20; refine (told_no _ _ hk'.out).mono ?_; rintro e w' ⟨rfl, rfl⟩))
    all_goals (go_ret2; exact ⟨rfl, hb, World.grownBy.refl w _⟩)
  · have h' : ¬ (k ≤ 5) := by omega
    have h1 : 1 ≤ k := by omega
    go_enter Try.func13, Try.ntmps13
    go_wp2_with (first | (go_at_call 20; refine (told_no _ _ hk'.out).mono ?_; rintro e w' ⟨rfl, rfl⟩))
    all_goals (go_ret2; exact ⟨rfl, hb, World.grownBy.refl w _⟩)
set_option maxHeartbeats 16000000 in
theorem come_in (hv : OkSt st why) (hk : k = 1 ∨ k = 2 ∨ k = 3 ∨ k = 4 ∨ k = 5) (hb : Blk w b 45 #[.int .i64 st, .int .i64 why]) : Calls Try.prog 13 #[.pointer (some ⟨b, 0, none⟩), .int .i64 k, .bool e] w (CPost w b 45 (comeF st why k e)) := by
  have c0 := hb.cell 0
  have c1 := hb.cell 1
  simp at c0 c1
  have f0 := hb.frozen 0
  have f1 := hb.frozen 1
  rcases hk with rfl | rfl | rfl | rfl | rfl
  all_goals
    cases e
    all_goals
      unfold OkSt at hv
      rcases hv with ⟨rfl, rfl⟩ | ⟨rfl, rfl⟩ | ⟨rfl, rfl⟩ | ⟨rfl, rfl⟩ | ⟨rfl, rfl⟩ | ⟨rfl, rfl⟩ | ⟨rfl, rfl⟩
      all_goals
        go_enter Try.func13, Try.ntmps13
        go_wp2_with (first | (go_at_call 20; refine (told_yes _ _ (by omega) (by omega)).mono ?_; rintro e w' ⟨rfl, rfl⟩) | (go_at_call 22; refine (done_ b _ _ _ _ hb).mono ?_; rintro e w' ⟨rfl, rfl⟩) | (go_at_call 24; refine (late_ b _ _ _ true _ (by omega) (by omega) hb).mono ?_; rintro e w' ⟨rfl, rfl⟩))
        go_ret2
        first | exact ⟨rfl, hb, World.grownBy.refl w _⟩ | exact ⟨rfl, hb.set_ 0 _, only_setCell (p := ⟨b, 0, none⟩) (World.grownBy.refl w _) (.inl rfl) _⟩ | exact ⟨rfl, hb.set_ 1 _, only_setCell (p := ⟨b, 1, none⟩) (World.grownBy.refl w _) (.inl rfl) _⟩ | exact ⟨rfl, (hb.set_ 0 _).set_ 1 _, only_setCell (p := ⟨b, 1, none⟩) (only_setCell (p := ⟨b, 0, none⟩) (World.grownBy.refl w _) (.inl rfl) _) (.inl rfl) _⟩ | exact ⟨rfl, (hb.set_ 0 _).set_ 0 _, only_setCell (p := ⟨b, 0, none⟩) (only_setCell (p := ⟨b, 0, none⟩) (World.grownBy.refl w _) (.inl rfl) _) (.inl rfl) _⟩
end
end Go.Proofs.Ytkicffapbcnkbaa
