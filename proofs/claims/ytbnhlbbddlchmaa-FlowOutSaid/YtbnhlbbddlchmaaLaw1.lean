import Derived.Test.YtbnhlbbddlchmaaCtr
import Derived.Test.YtbnhlbbddlchmaaOpen
set_option linter.all false
namespace Go.Proofs.Ytbnhlbbddlchmaa
open Go.ChangeShapes Go.WideShapes Go.ChangeAt Go.RowKit
attribute [local go_sem] setCell_drewN alloc_drewN
set_option maxHeartbeats 2000000 in
theorem begun (w : World) : Calls Try.prog 7 #[] w fun e w' => e = .returned (.bool true) ∧ Below w.heap.size w w' := by
  go_enter Try.func7, Try.ntmps7
  go_wp2_with (first | (go_at_call 24; refine (inAgain _ 5 2 3 _ (by go_simp) (by go_simp) (by go_simp) (by go_simp) (by go_simp) (by unfold InOk; omega)).mono ?_; rintro e w' ⟨rfl, m, rfl⟩; simp only [show agN 5 3 = 3 from rfl, show agL 5 2 3 = 5 from rfl, show agU 5 3 = 0 from rfl]) | (go_at_call 22; refine (inShift _ 5 5 0 2 _ (by go_simp) (by go_simp) (by go_simp) (by go_simp) (by unfold InOk; omega)).mono ?_; rintro e w' ⟨rfl, m2, rfl⟩; simp only [show inShL 5 5 2 = 7 from rfl, show inShS 5 2 = 7 from rfl]) | go_in)
  go_ret
  refine ⟨rfl, ?_⟩
  refine below_drewN ?_ _
  go_grown
set_option maxRecDepth 100000 in
set_option maxHeartbeats 4000000 in
theorem flowOut (w : World) (n : Int) (_ : (Lit.int .i64 n).wf = true) (v : Value) (hops : Sl w 2 (fun _ => IsInt .i64) v) :
    Calls Try.prog 3 #[.int .i64 n, v] w fun e w' => e = .returned (.bool true) ∧ Below w.heap.size w w' := by
  obtain ⟨A, len, cap, rfl, hlen, hcap, hops⟩ := hops
  unfold maxLen at hcap
  go_enter Try.func3, Try.ntmps3
  go_wp2_with (first | (go_at_call 7; refine (begun _).mono ?_; rintro e w1 ⟨rfl, hb1⟩) | (go_at_call 8; refine (newOut _ _).mono ?_; rintro e w' ⟨rfl, rfl⟩) | (go_at_call 9; refine (rnewOut _ _).mono ?_; rintro e w' ⟨rfl, rfl⟩))
  go_quiet ((go_at_call 10; refine Calls.quiet_of_same ((outLeft _ (cutP n 0 M) _ (by go_simp)).mono fun _ _ ⟨a, b⟩ => ⟨a, b.symm⟩)))
  go_wp2
  have h0 := cutP_lo (n := n) (a := 0) (b := M) (by unfold M; omega)
  have h0' := cutP_hi (n := n) (a := 0) (b := M) (by unfold M; omega)
  have hsz := hb1.size
  go_loopw [8] (fun i wr => ∃ (k : Nat) (l : Int), i = .int .i64 k ∧ k ≤ len ∧ k ≤ 60 ∧ -2147483647 ≤ l ∧ l ≤ 2147483647 ∧ wr.cell? ⟨w1.heap.size, 0, none⟩ = some (.int .i64 l) ∧ wr.cell? ⟨w1.heap.size + 1, 0, none⟩ = some (.int .i64 l) ∧ wr.frozen? ⟨w1.heap.size, 0, none⟩ = false ∧ wr.frozen? ⟨w1.heap.size + 1, 0, none⟩ = false ∧ Below w.heap.size w wr) (fun i _ => 60 - (intOf i).toNat)
  case atStart =>
    exact ⟨0, cutP n 0 M, rfl, by omega, by omega, by omega, by unfold M at h0' ⊢; omega, by go_simp, by go_simp, by go_simp, by go_simp, below_drewN ((hb1.alloc hsz _).alloc (by simp; omega) _) _⟩
  case round =>
    obtain ⟨k, l, rfl, hk1, hk2, hl, hl', c1, c2, f1, f2, hB⟩ := hrel
    by_cases hlt : k < len
    · by_cases hlt2 : k < 60
      · rcases hops with h | ⟨b, off, rfl, hb, hops⟩
        · omega
        obtain ⟨_, d1, kd, rfl, _⟩ := hops k (by omega) 0 (by omega)
        obtain ⟨_, d2, x, rfl, _⟩ := hops k (by omega) 1 (by omega)
        simp only [Nat.add_zero, ← Nat.add_assoc] at d1 d2
        rw [← hB.cell (p := ⟨b, off + k * 2, none⟩) hb] at d1
        rw [← hB.cell (p := ⟨b, off + k * 2 + 1, none⟩) hb] at d2
        go_wp2_with (first
          | (go_at_call 11; refine (outTake _ l x _ c1 f1 hl hl').mono ?_; rintro e w' ⟨rfl, rfl⟩)
          | (go_at_call 12; refine (routTake _ l x _ (by go_simp) (by go_simp) hl hl').mono ?_; rintro e w' ⟨rfl, rfl⟩)
          | (go_at_call 13; refine (outMore _ l x _ c1 f1 hl hl').mono ?_; rintro e w' ⟨rfl, rfl⟩)
          | (go_at_call 14; refine (routMore _ l x _ (by go_simp) (by go_simp) hl hl').mono ?_; rintro e w' ⟨rfl, rfl⟩)
          | (go_at_call 15; refine (outShift _ l x _ c1 f1 hl hl').mono ?_; rintro e w' ⟨rfl, rfl⟩)
          | (go_at_call 16; refine (routShift _ l x _ (by go_simp) (by go_simp) hl hl').mono ?_; rintro e w' ⟨rfl, rfl⟩))
        · go_quiet ((go_at_call 10; refine Calls.quiet_of_same ((outLeft _ (takeL l x) _ (by go_simp)).mono fun _ _ ⟨a, b⟩ => ⟨a, b.symm⟩)))
          go_wp2
          go_roundw
          case rel =>
            have hin := takeL_in (l := l) (n := x) ⟨hl, hl'⟩
            exact ⟨k + 1, takeL l x, by go_num, by omega, by omega, hin.1, hin.2, by go_simp, by go_simp, by go_simp, by go_simp, below_drewN ((hB.setCell (p := ⟨w1.heap.size, 0, none⟩) hsz _).setCell (p := ⟨w1.heap.size + 1, 0, none⟩) (by simp; omega) _) _⟩
          case measure => simp [intOf]; omega
        · go_quiet ((go_at_call 10; refine Calls.quiet_of_same ((outLeft _ (moreL l x) _ (by go_simp)).mono fun _ _ ⟨a, b⟩ => ⟨a, b.symm⟩)))
          go_wp2
          go_roundw
          case rel =>
            have hin := moreL_in (l := l) (n := x) ⟨hl, hl'⟩
            exact ⟨k + 1, moreL l x, by go_num, by omega, by omega, hin.1, hin.2, by go_simp, by go_simp, by go_simp, by go_simp, below_drewN ((hB.setCell (p := ⟨w1.heap.size, 0, none⟩) hsz _).setCell (p := ⟨w1.heap.size + 1, 0, none⟩) (by simp; omega) _) _⟩
          case measure => simp [intOf]; omega
        · go_quiet ((go_at_call 10; refine Calls.quiet_of_same ((outLeft _ (shiftL l x) _ (by go_simp)).mono fun _ _ ⟨a, b⟩ => ⟨a, b.symm⟩)))
          go_wp2
          go_roundw
          case rel =>
            have hin := shiftL_in (l := l) (n := x) ⟨hl, hl'⟩
            exact ⟨k + 1, shiftL l x, by go_num, by omega, by omega, hin.1, hin.2, by go_simp, by go_simp, by go_simp, by go_simp, below_drewN ((hB.setCell (p := ⟨w1.heap.size, 0, none⟩) hsz _).setCell (p := ⟨w1.heap.size + 1, 0, none⟩) (by simp; omega) _) _⟩
          case measure => simp [intOf]; omega
      · go_wp2
        go_ret
        exact ⟨rfl, hB⟩
    · go_wp2
      go_ret
      exact ⟨rfl, hB⟩
end Go.Proofs.Ytbnhlbbddlchmaa
