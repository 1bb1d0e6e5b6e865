/- timer: TimerNone: no set at all. -/
import Derived.Test.YtneomofldjhpjaaLaw2
set_option linter.all false
namespace Go.Proofs.Ytneomofldjhpjaa
open Go.ChangeShapes Go.WideShapes Go.ChangeAt Go.RowKit
attribute [local go_sem] setCell_drewN alloc_drewN
section
variable (w : World)
theorem arm_nil (k x : Int) : Calls Try.prog 11 #[.pointer none, .int .i64 k, .int .i64 x] w fun e w' => e = .returned (.int .i64 1) ∧ ∃ m, w' = w.drewN m := by
  go_enter Try.func11, Try.ntmps11
  go_wp2
  go_ret
  exact ⟨rfl, 0, rfl⟩
theorem stop_nil (k : Int) : Calls Try.prog 13 #[.pointer none, .int .i64 k] w fun e w' => e = .returned (.tuple #[]) ∧ ∃ m, w' = w.drewN m := by
  go_enter Try.func13, Try.ntmps13
  go_wp2
  go_end0
  exact ⟨rfl, 0, rfl⟩
theorem at_nil (k : Int) : Calls Try.prog 19 #[.pointer none, .int .i64 k] w fun e w' => e = .returned (.tuple #[.int .i64 0, .bool false]) ∧ ∃ m, w' = w.drewN m := by
  go_enter Try.func19, Try.ntmps19
  go_wp2
  go_ret2
  exact ⟨rfl, 0, rfl⟩
theorem next_nil : Calls Try.prog 18 #[.pointer none] w fun e w' => e = .returned (.tuple #[.int .i64 0, .int .i64 0, .bool false]) ∧ ∃ m, w' = w.drewN m := by
  go_enter Try.func18, Try.ntmps18
  go_wp2
  go_ret3
  exact ⟨rfl, 0, rfl⟩
end
theorem due1_nil {m l c1 c2 : Nat} (W : World) (h : Blk W c1 27 #[.pointer none]) :
    CallsIn Fence.wide (m + 1) Try.prog 25 #[.func (.yield l) #[] #[], .pointer (some ⟨c1, 0, none⟩), .pointer (some ⟨c2, 0, none⟩)] W fun e W' => (∃ v, e = .returned v) ∧ Keep [] W W' := by
  refine callsIn_of_wp Try.func25 rfl trivial ?_ rfl
  simp only [Try.ntmps25, List.size_toArray, List.length_cons, List.length_nil, Nat.reduceAdd, Nat.reduceSub, Array.replicate_succ, Array.replicate_zero, List.push_toArray, List.append_toArray, List.nil_append, List.cons_append]
  have k0 := h.cell 0
  simp at k0
  gi_wp2
  refine bodyPost_ret (results_none rfl _ _ _) rfl ?_
  exact ⟨⟨_, rfl⟩, Keep.refl _ _⟩
set_option maxRecDepth 100000 in
set_option maxHeartbeats 4000000 in
theorem timerNone (w : World) : Calls Try.prog 6 #[] w fun e w' => e = .returned (.bool true) ∧ Below w.heap.size w w' := by
  have hfe := fun (w : World) (a b : Array Value) => run_eql_func_nil (P := Try.prog) w 40 (.func 25) a b Try.underlying40
  refine rng_func Try.func6 rfl ?_
  simp only [Try.ntmps6, List.size_toArray, List.length_cons, List.length_nil, Nat.reduceAdd, Nat.reduceSub, Array.replicate_succ, Array.replicate_zero, List.push_toArray, List.append_toArray, List.nil_append, List.cons_append]
  go_wp2_with (first
    | (go_at_call 11; refine (arm_nil _ 1 1).mono ?_; rintro e w1 ⟨rfl, m1, rfl⟩)
    | (go_at_call 13; refine (stop_nil _ 1).mono ?_; rintro e w1 ⟨rfl, m2, rfl⟩)
    | (go_at_call 19; refine (at_nil _ 1).mono ?_; rintro e w1 ⟨rfl, m3, rfl⟩)
    | (go_at_call 18; refine (next_nil _).mono ?_; rintro e w1 ⟨rfl, m4, rfl⟩)
    | (go_at_call 17; refine (due_ _ none 9).mono ?_; rintro e w' ⟨rfl, rfl⟩))
  have n0 := Blk.new w 3 #[.int .i64 0]
  have n1 := Blk.new (w.alloc (.cells #[.int .i64 0] 3)) 27 #[.pointer none]
  have n0 := (((n0.alloc (.cells #[.pointer none] 27)).alloc (.cells #[.int .i64 9] 2)).drewN (m1 + m2 + m3 + m4))
  have n1 := ((n1.alloc (.cells #[.int .i64 9] 2)).drewN (m1 + m2 + m3 + m4))
  have K4 := ((((Keep.refl [] w).alloc (.cells #[.int .i64 0] 3)).alloc (.cells #[.pointer none] 27)).alloc (.cells #[.int .i64 9] 2)).drewN (m1 + m2 + m3 + m4)
  obtain ⟨S, hS⟩ : ∃ S, S = (World.drewN (((w.alloc (.cells #[.int .i64 0] 3)).alloc (.cells #[.pointer none] 27)).alloc (.cells #[.int .i64 9] 2)) (m1 + m2 + m3 + m4)) := ⟨_, rfl⟩
  have szS : w.heap.size + 1 + 1 + 1 ≤ S.heap.size := by rw [hS]; simp
  rw [← hS] at n0 n1 K4 ⊢
  clear hS
  simp only [World.size_alloc] at n1
  refine rng_stmt' (n := 5) (gf := 25) (lb := #[.pointer (some ⟨w.heap.size + 1, 0, none⟩), .pointer (some ⟨w.heap.size + 1 + 1, 0, none⟩)]) (by first | rfl | simp) (enters_of Try.func25 (by kernel_rfl) rfl) ?_
  intro rc hrc W1 hW1
  have n1' : Blk W1 (w.heap.size + 1) 27 #[.pointer none] := by rw [hW1]; exact (n1.alloc _).alloc _
  refine (due1_nil (m := 4) W1 n1').mono ?_
  rintro e W' ⟨⟨vr, rfl⟩, k⟩
  have KW : Keep [] S W1 := by rw [hW1]; exact ((Keep.refl [] S).alloc _).alloc _
  have r1 : W1.heap[S.heap.size + 1]? = some (.loop (rc .ready none)) := by rw [hW1]; have := heap_alloc_new (S.alloc (.deferred (some []))) (.loop (rc .ready none)); simpa using this
  have r2 : W1.heap[S.heap.size]? = some (.deferred (some [])) := by rw [hW1]; exact (Below.heap_alloc _ _ _ (by simp)).trans (heap_alloc_new S (.deferred (some [])))
  have rs : Rest S W1 [] (.loop (rc .ready none)) := ⟨r1, r2, KW⟩
  have rs2 := rs.go k (by simp) (by simp) (by simp)
  refine ⟨_, .ready, none, rfl, by simp, rs2.rc, ?_⟩
  have rs3 := rs2.put (o' := .loop (rc .exhausted none))
  have n3 := n0.keep rs3.kp (by simp)
  obtain ⟨W5, hW5⟩ : ∃ W5, W5 = W'.putObj (S.heap.size + 1) (.loop (rc .exhausted none)) := ⟨_, rfl⟩
  simp only [← hW5] at rs3 n3 ⊢
  clear hW5 hW1 hrc
  go_wp2_with (fail)
  refine (begun _).mono ?_
  rintro e w6 ⟨rfl, g6⟩
  have g6 := Keep.of_below g6
  have rs6 := rs3.go g6 (by simp) (by simp) (by simp)
  have n6 := n3.keep g6 (by simp)
  have c6 := n6.cell 0
  simp at c6
  go_wp2_with (fail)
  refine ⟨by simp, .inl ⟨_, _, rfl, run_takeDeferred rs6.df, ?_⟩⟩
  refine ⟨_, results_tmp rfl _ _ _, rfl, ?_⟩
  exact ((K4.step rs6.kp (by simp)).putObj (l := S.heap.size) (.inr (by omega)) (.deferred none)).below (Nat.le_refl _) (by simp)
end Go.Proofs.Ytneomofldjhpjaa
