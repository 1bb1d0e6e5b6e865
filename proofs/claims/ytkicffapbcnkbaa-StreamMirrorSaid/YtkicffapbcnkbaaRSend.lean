/- stream: the reference's Send -/
import Derived.Test.YtkicffapbcnkbaaCtr
set_option linter.all false
namespace Go.Proofs.Ytkicffapbcnkbaa
open Go.ChangeShapes Go.WideShapes Go.ChangeAt Go.RowKit
attribute [local go_sem] setCell_drewN alloc_drewN
section
variable (b : Nat) (st why k : Int) (e : Bool) (w : World)
theorem rsend_out (hk : k < 1 ∨ 5 < k) (hb : Blk w b 35 #[.int .i64 st, .int .i64 why]) : Calls Try.prog 12 #[.pointer (some ⟨b, 0, none⟩), .int .i64 k, .bool e] w (SPost w b 35 (sendF st why k e)) := by
  have c0 := hb.cell 0
  have c1 := hb.cell 1
  simp at c0 c1
  have hf := sendF_out st why k e hk
  rw [hf]
  clear hf
  have hk' := Lib.hid hk
  rcases hk with hk | hk
  · have h' : ¬ (1 ≤ k) := by omega
    go_enter Try.func12, Try.ntmps12
    go_wp2
    all_goals (go_ret; exact ⟨rfl, hb, World.grownBy.refl w _⟩)
  · have h' : ¬ (k ≤ 5) := by omega
    have h1 : 1 ≤ k := by omega
    go_enter Try.func12, Try.ntmps12
    go_wp2
    all_goals (go_ret; exact ⟨rfl, hb, World.grownBy.refl w _⟩)
set_option maxHeartbeats 16000000 in
theorem rsend_in (hv : OkSt st why) (hk : k = 1 ∨ k = 2 ∨ k = 3 ∨ k = 4 ∨ k = 5) (hb : Blk w b 35 #[.int .i64 st, .int .i64 why]) : Calls Try.prog 12 #[.pointer (some ⟨b, 0, none⟩), .int .i64 k, .bool e] w (SPost w b 35 (sendF st why k e)) := by
  have c0 := hb.cell 0
  have c1 := hb.cell 1
  simp at c0 c1
  have f0 := hb.frozen 0
  have f1 := hb.frozen 1
  rcases hk with rfl | rfl | rfl | rfl | rfl
  all_goals
    cases e
    all_goals
      unfold OkSt at hv
      rcases hv with ⟨rfl, rfl⟩ | ⟨rfl, rfl⟩ | ⟨rfl, rfl⟩ | ⟨rfl, rfl⟩ | ⟨rfl, rfl⟩ | ⟨rfl, rfl⟩ | ⟨rfl, rfl⟩
      all_goals
        go_enter Try.func12, Try.ntmps12
        go_wp2_with (first | (go_at_call 23; refine (rdone b _ _ _ _ hb).mono ?_; rintro e w' ⟨rfl, rfl⟩))
        go_ret
        first | exact ⟨rfl, hb, World.grownBy.refl w _⟩ | exact ⟨rfl, hb.set_ 0 _, only_setCell (p := ⟨b, 0, none⟩) (World.grownBy.refl w _) (.inl rfl) _⟩ | exact ⟨rfl, hb.set_ 1 _, only_setCell (p := ⟨b, 1, none⟩) (World.grownBy.refl w _) (.inl rfl) _⟩ | exact ⟨rfl, (hb.set_ 0 _).set_ 1 _, only_setCell (p := ⟨b, 1, none⟩) (only_setCell (p := ⟨b, 0, none⟩) (World.grownBy.refl w _) (.inl rfl) _) (.inl rfl) _⟩ | exact ⟨rfl, (hb.set_ 0 _).set_ 0 _, only_setCell (p := ⟨b, 0, none⟩) (only_setCell (p := ⟨b, 0, none⟩) (World.grownBy.refl w _) (.inl rfl) _) (.inl rfl) _⟩
end
end Go.Proofs.Ytkicffapbcnkbaa
