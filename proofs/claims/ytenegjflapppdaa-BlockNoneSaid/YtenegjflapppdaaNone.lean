/- block: BlockNone. -/
import Derived.Test.YtenegjflapppdaaBegun
set_option linter.all false
namespace Go.Proofs.Ytenegjflapppdaa
open Go.ChangeShapes Go.WideShapes Go.ChangeAt Go.RowKit
attribute [local go_sem] setCell_drewN alloc_drewN
section
variable (w : World)
theorem nstart (i : Int) (e' wh : Bool) (A : Option Addr) (m c : Nat) : Calls Try.prog 11 #[.pointer none, .int .i64 i, .bool e', .slice A m c, .bool wh] w fun e w' => e = .returned (.tuple #[.slice none 0 0, .bool false, .int .i64 1]) ∧ w = w' := by
  go_enter Try.func11, Try.ntmps11
  go_wp2
  go_ret3
  exact ⟨rfl, rfl⟩
theorem nmore (i : Int) (wh : Bool) (A : Option Addr) (m c : Nat) : Calls Try.prog 13 #[.pointer none, .int .i64 i, .slice A m c, .bool wh] w fun e w' => e = .returned (.tuple #[.slice none 0 0, .bool false, .int .i64 1]) ∧ w = w' := by
  go_enter Try.func13, Try.ntmps13
  go_wp2
  go_ret3
  exact ⟨rfl, rfl⟩
theorem nwaits : Calls Try.prog 15 #[.pointer none] w fun e w' => e = .returned (.tuple #[.int .i64 0, .bool false]) ∧ w = w' := by
  go_enter Try.func15, Try.ntmps15
  go_wp2
  go_ret2
  exact ⟨rfl, rfl⟩
theorem nend : Calls Try.prog 16 #[.pointer none] w fun e w' => e = .returned (.bool false) ∧ w = w' := by
  go_enter Try.func16, Try.ntmps16
  go_wp2
  go_ret
  exact ⟨rfl, rfl⟩
theorem nheld : Calls Try.prog 17 #[.pointer none] w fun e w' => e = .returned (.int .i64 0) ∧ w = w' := by
  go_enter Try.func17, Try.ntmps17
  go_wp2
  go_ret
  exact ⟨rfl, rfl⟩
end
set_option maxRecDepth 100000 in
set_option maxHeartbeats 4000000 in
theorem blockNone (w : World) : Calls Try.prog 6 #[] w fun e w' => e = .returned (.bool true) ∧ Below w.heap.size w w' := by
  have hfe := fun (w : World) (a b : Array Value) => run_eql_func_nil (P := Try.prog) w 43 (.func 23) a b Try.underlying43
  refine rng_func Try.func6 rfl ?_
  simp only [Try.ntmps6, List.size_toArray, List.length_cons, List.length_nil, Nat.reduceAdd, Nat.reduceSub, Array.replicate_succ, Array.replicate_zero, List.push_toArray, List.append_toArray, List.nil_append, List.cons_append]
  go_wp2_with (first
    | (go_at_call 11; refine (nstart _ _ _ _ _ _ _).mono ?_; rintro e w' ⟨rfl, rfl⟩)
    | (go_at_call 13; refine (nmore _ _ _ _ _ _).mono ?_; rintro e w' ⟨rfl, rfl⟩)
    | (go_at_call 15; refine (nwaits _).mono ?_; rintro e w' ⟨rfl, rfl⟩)
    | (go_at_call 19; refine (cut_ _ 0 true none 0 0 5 5 rfl).mono ?_; rintro e w' ⟨rfl, rfl⟩))
  have a0 := ((((Blk.new w 3 #[.int .i64 0]).alloc (.cells #[.int .i64 0] 3)).alloc (.cells #[.bool true] 4)).alloc (.cells #[.slice none 0 0] 27)).alloc (.cells #[.int .i64 ((5 : Nat) : Int)] 3)
  have a1 := (((Blk.new (w.alloc (.cells #[.int .i64 0] 3)) 3 #[.int .i64 0]).alloc (.cells #[.bool true] 4)).alloc (.cells #[.slice none 0 0] 27)).alloc (.cells #[.int .i64 ((5 : Nat) : Int)] 3)
  have KS : Keep [] w (((((w.alloc (.cells #[.int .i64 0] 3)).alloc (.cells #[.int .i64 0] 3)).alloc (.cells #[.bool true] 4)).alloc (.cells #[.slice none 0 0] 27)).alloc (.cells #[.int .i64 ((5 : Nat) : Int)] 3)) := (((((Keep.refl [] w).alloc _).alloc _).alloc _).alloc _).alloc _
  have e4 : ((5 : Nat) : Int) = 5 := rfl
  simp only [e4, World.size_alloc] at a0 a1 KS
  obtain ⟨S, hS⟩ : ∃ S, S = ((((w.alloc (.cells #[.int .i64 0] 3)).alloc (.cells #[.int .i64 0] 3)).alloc (.cells #[.bool true] 4)).alloc (.cells #[.slice none 0 0] 27)).alloc (.cells #[.int .i64 5] 3) := ⟨_, rfl⟩
  have szS : w.heap.size + 5 ≤ S.heap.size := by rw [hS]; simp
  rw [← hS] at a0 a1 KS
  try simp only [e4]
  rw [← hS]
  clear hS e4
  refine rng_stmt' (n := 5) (gf := 23) (lb := #[.pointer (some ⟨w.heap.size + 1, 0, none⟩), .pointer (some ⟨w.heap.size + 1 + 1, 0, none⟩), .pointer (some ⟨w.heap.size + 1 + 1 + 1, 0, none⟩), .pointer (some ⟨w.heap.size + 1 + 1 + 1 + 1, 0, none⟩)]) (by first | rfl | simp) (enters_of Try.func23 (by kernel_rfl) rfl) ?_
  intro rc hrc W1 hW1
  have KW : Keep [] S W1 := by rw [hW1]; exact ((Keep.refl [] S).alloc _).alloc _
  have r1 : W1.heap[S.heap.size + 1]? = some (.loop (rc .ready none)) := by rw [hW1]; have := heap_alloc_new (S.alloc (.deferred (some []))) (.loop (rc .ready none)); simpa using this
  have r2 : W1.heap[S.heap.size]? = some (.deferred (some [])) := by rw [hW1]; exact (Below.heap_alloc _ _ _ (by simp)).trans (heap_alloc_new S (.deferred (some [])))
  refine (cutNo (m := 4) W1 (a1.keep KW (by simp)) (by omega)).mono ?_
  rintro e W2 ⟨⟨vr, rfl⟩, k2⟩
  have rs2 : Rest S W2 [] (.loop (rc .ready none)) := ⟨k2.heap r1 (by simp), k2.heap r2 (by simp), KW.trans k2⟩
  clear hrc hW1
  refine ⟨_, .ready, none, rfl, by simp, rs2.rc, ?_⟩
  have rs3 := rs2.put (o' := .loop (rc .exhausted none))
  obtain ⟨W5, hW5⟩ : ∃ W5, W5 = W2.putObj (S.heap.size + 1) (.loop (rc .exhausted none)) := ⟨_, rfl⟩
  simp only [← hW5] at rs3 ⊢
  clear hW5
  have b1 := a0.keep rs3.kp (by simp)
  have KD := KS.trans rs3.kp
  have d1 := rs3.df
  have HT := Lib.hid (Array.getElem?_eq_some_iff.1 rs3.rc).1
  have szD := rs3.kp.size
  clear rs2 r1 r2 k2 KW rs3 KS a0 a1 hfe
  have HD := Lib.hid d1
  clear d1
  go_wp2_with (first
    | (go_at_call 8; refine (begun _).mono ?_; rintro e w8 ⟨rfl, k8⟩; have k8 := Keep.of_below k8; have b8 := (b1.keep k8 (by simp)).cell 0; simp at b8; have HK8 := Lib.hid k8; clear k8)
    | (go_at_call 16; refine (nend _).mono ?_; rintro e w' ⟨rfl, rfl⟩)
    | (go_at_call 17; refine (nheld _).mono ?_; rintro e w' ⟨rfl, rfl⟩))
  have d9 := HK8.out.heap HD.out (by simp)
  refine ⟨by simp, .inl ⟨_, _, rfl, run_takeDeferred d9, ?_⟩⟩
  refine ⟨_, results_tmp rfl _ _ _, rfl, ?_⟩
  exact ((KD.trans HK8.out).putObj (l := S.heap.size) (.inr (by omega)) _).below (Nat.le_refl _) (by simp)
end Go.Proofs.Ytenegjflapppdaa
