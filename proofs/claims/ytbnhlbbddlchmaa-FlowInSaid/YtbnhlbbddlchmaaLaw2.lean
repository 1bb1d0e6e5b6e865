/- FlowIn's walk. -/
import Derived.Test.YtbnhlbbddlchmaaLaw1
set_option linter.all false
namespace Go.Proofs.Ytbnhlbbddlchmaa
open Go.ChangeShapes Go.WideShapes Go.ChangeAt Go.RowKit
attribute [local go_sem] setCell_drewN alloc_drewN
theorem rinLeft_dummy : True := trivial
theorem inOk_new {n : Int} : InOk (cutP n 0 M) (cutP n 0 M) 0 := by
  have h0 := cutP_lo (n := n) (a := 0) (b := M) (by unfold M; omega)
  have h0' := cutP_hi (n := n) (a := 0) (b := M) (by unfold M; omega)
  unfold M at h0 h0'
  unfold InOk M
  omega
theorem inOk_come {s l u n : Int} (h : InOk s l u) : InOk s (takeL l n) (comeU l u n) := by
  unfold InOk takeL comeU at *
  (repeat' split) <;> omega
theorem inOk_shift {s l u n : Int} (h : InOk s l u) : InOk (inShS s n) (inShL s l n) u := by
  have h0 := cutP_lo (n := s + cutP n (-M) M) (a := 0) (b := M) (by unfold M; omega)
  have h0' := cutP_hi (n := s + cutP n (-M) M) (a := 0) (b := M) (by unfold M; omega)
  unfold InOk inShL inShS M at *
  omega
theorem inOk_again {s l u : Int} (h : InOk s l u) : InOk s (agL s l u) (agU s u) := by
  unfold InOk agL agU agN at *
  (repeat' split) <;> omega
set_option maxRecDepth 100000 in
set_option maxHeartbeats 4000000 in
theorem flowIn (w : World) (n : Int) (_ : (Lit.int .i64 n).wf = true) (v : Value) (hops : Sl w 2 (fun _ => IsInt .i64) v) :
    Calls Try.prog 4 #[.int .i64 n, v] w fun e w' => e = .returned (.bool true) ∧ Below w.heap.size w w' := by
  obtain ⟨A, len, cap, rfl, hlen, hcap, hops⟩ := hops
  unfold maxLen at hcap
  go_enter Try.func4, Try.ntmps4
  go_wp2_with (first | (go_at_call 7; refine (begun _).mono ?_; rintro e w1 ⟨rfl, hb1⟩) | (go_at_call 17; refine (newIn _ _).mono ?_; rintro e w' ⟨rfl, rfl⟩) | (go_at_call 18; refine (rnewIn _ _).mono ?_; rintro e w' ⟨rfl, rfl⟩))
  go_quiet ((go_at_call 19; refine Calls.quiet_of_same ((inLeft _ (cutP n 0 M) _ (by go_simp)).mono fun _ _ ⟨a, b⟩ => ⟨a, b.symm⟩)))
  go_wp2
  have hok := inOk_new (n := n)
  have hsz := hb1.size
  go_loopw [8] (fun i wr => ∃ (k : Nat) (s l u : Int), i = .int .i64 k ∧ k ≤ len ∧ k ≤ 60 ∧ InOk s l u ∧ Blk wr w1.heap.size 47 #[.int .i64 s, .int .i64 l, .int .i64 u] ∧ Blk wr (w1.heap.size + 1) 41 #[.int .i64 s, .int .i64 l, .int .i64 u] ∧ Below w.heap.size w wr) (fun i _ => 60 - (intOf i).toNat)
  case atStart =>
    exact ⟨0, _, _, _, rfl, by omega, by omega, hok, ((Blk.new _ _ _).alloc _).drewN _, by have h := Blk.new (w1.alloc (.cells #[.int .i64 (cutP n 0 M), .int .i64 (cutP n 0 M), .int .i64 0] 47)) 41 #[.int .i64 (cutP n 0 M), .int .i64 (cutP n 0 M), .int .i64 0]; simp only [World.size_alloc] at h; exact h.drewN _, below_drewN ((hb1.alloc hsz _).alloc (by simp; omega) _) _⟩
  case round =>
    obtain ⟨k, s, l, u, rfl, hk1, hk2, hok, b1, b2, hB⟩ := hrel
    by_cases hlt : k < len
    · by_cases hlt2 : k < 60
      · rcases hops with h | ⟨b, off, rfl, hb, hops⟩
        · omega
        obtain ⟨_, d1, kd, rfl, _⟩ := hops k (by omega) 0 (by omega)
        obtain ⟨_, d2, x, rfl, _⟩ := hops k (by omega) 1 (by omega)
        simp only [Nat.add_zero, ← Nat.add_assoc] at d1 d2
        rw [← hB.cell (p := ⟨b, off + k * 2, none⟩) hb] at d1
        rw [← hB.cell (p := ⟨b, off + k * 2 + 1, none⟩) hb] at d2
        have c0 := b1.cell 0
        have c1 := b1.cell 1
        have c2 := b1.cell 2
        have e0 := b2.cell 0
        have e1 := b2.cell 1
        have e2 := b2.cell 2
        simp at c0 c1 c2 e0 e1 e2
        have f0 := b1.frozen 0
        have f1 := b1.frozen 1
        have f2 := b1.frozen 2
        have g0 := b2.frozen 0
        have g1 := b2.frozen 1
        have g2 := b2.frozen 2
        go_wp2_with (first
          | (go_at_call 20; refine (inCome _ s l u x _ c1 c2 f1 f2 hok).mono ?_; rintro e w' ⟨rfl, rfl⟩)
          | (go_at_call 22; refine (inShift _ s l u x _ c0 c1 f0 f1 hok).mono ?_; rintro e w' ⟨rfl, m1, rfl⟩)
          | (go_at_call 24; refine (inAgain _ s l u _ c0 c1 c2 f1 f2 hok).mono ?_; rintro e w' ⟨rfl, m1, rfl⟩)
          | (go_at_call 21; refine (rinCome _ s l u x _ (by go_simp) (by go_simp) (by go_simp) (by go_simp) hok).mono ?_; rintro e w' ⟨rfl, rfl⟩)
          | (go_at_call 23; refine (rinShift _ s l u x _ (by go_simp) (by go_simp) (by go_simp) (by go_simp) hok).mono ?_; rintro e w' ⟨rfl, m2, rfl⟩)
          | (go_at_call 25; refine (rinAgain _ s l u _ (by go_simp) (by go_simp) (by go_simp) (by go_simp) (by go_simp) hok).mono ?_; rintro e w' ⟨rfl, m2, rfl⟩))
        · go_quiet ((go_at_call 19; (first | refine quiet_add_left (inLeft _ (takeL l x) _ ?_) | refine quiet_left (inLeft _ (takeL l x) _ ?_)); go_simp))
          go_wp2
          go_roundw
          case rel =>
            exact ⟨k + 1, s, takeL l x, comeU l u x, by go_num, by omega, by omega, inOk_come hok, ((((b1.set_ 1 (.int .i64 (takeL l x))).set_ 2 (.int .i64 (comeU l u x))).far (p := ⟨w1.heap.size + 1, 1, none⟩) (by simp) (.int .i64 (takeL l x))).far (p := ⟨w1.heap.size + 1, 2, none⟩) (by simp) (.int .i64 (comeU l u x))), ((((b2.far (p := ⟨w1.heap.size, 1, none⟩) (by simp) (.int .i64 (takeL l x))).far (p := ⟨w1.heap.size, 2, none⟩) (by simp) (.int .i64 (comeU l u x))).set_ 1 (.int .i64 (takeL l x))).set_ 2 (.int .i64 (comeU l u x))), below_drewN ((((hB.setCell (p := ⟨w1.heap.size, 1, none⟩) hsz (.int .i64 (takeL l x))).setCell (p := ⟨w1.heap.size, 2, none⟩) hsz (.int .i64 (comeU l u x))).setCell (p := ⟨w1.heap.size + 1, 1, none⟩) (by simp; omega) (.int .i64 (takeL l x))).setCell (p := ⟨w1.heap.size + 1, 2, none⟩) (by simp; omega) (.int .i64 (comeU l u x))) _⟩
          case measure => simp [intOf]; omega
        · go_quiet ((go_at_call 19; (first | refine quiet_add_left (inLeft _ (inShL s l x) _ ?_) | refine quiet_left (inLeft _ (inShL s l x) _ ?_)); go_simp))
          go_wp2
          go_roundw
          case rel =>
            exact ⟨k + 1, inShS s x, inShL s l x, u, by go_num, by omega, by omega, inOk_shift hok, ((((b1.set_ 1 (.int .i64 (inShL s l x))).set_ 0 (.int .i64 (inShS s x))).far (p := ⟨w1.heap.size + 1, 1, none⟩) (by simp) (.int .i64 (inShL s l x))).far (p := ⟨w1.heap.size + 1, 0, none⟩) (by simp) (.int .i64 (inShS s x))), ((((b2.far (p := ⟨w1.heap.size, 1, none⟩) (by simp) (.int .i64 (inShL s l x))).far (p := ⟨w1.heap.size, 0, none⟩) (by simp) (.int .i64 (inShS s x))).set_ 1 (.int .i64 (inShL s l x))).set_ 0 (.int .i64 (inShS s x))), below_drewN ((((hB.setCell (p := ⟨w1.heap.size, 1, none⟩) hsz (.int .i64 (inShL s l x))).setCell (p := ⟨w1.heap.size, 0, none⟩) hsz (.int .i64 (inShS s x))).setCell (p := ⟨w1.heap.size + 1, 1, none⟩) (by simp; omega) (.int .i64 (inShL s l x))).setCell (p := ⟨w1.heap.size + 1, 0, none⟩) (by simp; omega) (.int .i64 (inShS s x))) _⟩
          case measure => simp [intOf]; omega
        · go_quiet ((go_at_call 19; (first | refine quiet_add_left (inLeft _ (agL s l u) _ ?_) | refine quiet_left (inLeft _ (agL s l u) _ ?_)); go_simp))
          go_wp2
          go_roundw
          case rel =>
            exact ⟨k + 1, s, agL s l u, agU s u, by go_num, by omega, by omega, inOk_again hok, ((((b1.set_ 1 (.int .i64 (agL s l u))).set_ 2 (.int .i64 (agU s u))).far (p := ⟨w1.heap.size + 1, 1, none⟩) (by simp) (.int .i64 (agL s l u))).far (p := ⟨w1.heap.size + 1, 2, none⟩) (by simp) (.int .i64 (agU s u))), ((((b2.far (p := ⟨w1.heap.size, 1, none⟩) (by simp) (.int .i64 (agL s l u))).far (p := ⟨w1.heap.size, 2, none⟩) (by simp) (.int .i64 (agU s u))).set_ 1 (.int .i64 (agL s l u))).set_ 2 (.int .i64 (agU s u))), below_drewN ((((hB.setCell (p := ⟨w1.heap.size, 1, none⟩) hsz (.int .i64 (agL s l u))).setCell (p := ⟨w1.heap.size, 2, none⟩) hsz (.int .i64 (agU s u))).setCell (p := ⟨w1.heap.size + 1, 1, none⟩) (by simp; omega) (.int .i64 (agL s l u))).setCell (p := ⟨w1.heap.size + 1, 2, none⟩) (by simp; omega) (.int .i64 (agU s u))) _⟩
          case measure => simp [intOf]; omega
      · go_wp2
        go_ret
        exact ⟨rfl, hB⟩
    · go_wp2
      go_ret
      exact ⟨rfl, hB⟩
end Go.Proofs.Ytbnhlbbddlchmaa
