/- pipe: PipeNone. -/
import Derived.Test.YtinokgmmdmkbcaaBegun
set_option linter.all false
namespace Go.Proofs.Ytinokgmmdmkbcaa
open Go.ChangeShapes Go.WideShapes Go.ChangeAt Go.RowKit
attribute [local go_sem] setCell_drewN alloc_drewN Oper.semAt_some
section
variable (w : World)
theorem nput (A : Option Addr) (n c : Nat) : Calls Try.prog 9 #[.pointer none, .slice A n c] w fun e w' => e = .returned (.tuple #[]) ∧ w = w' := by
  go_enter Try.func9, Try.ntmps9
  go_wp2
  go_end0
  exact ⟨rfl, rfl⟩
theorem nend : Calls Try.prog 16 #[.pointer none] w fun e w' => e = .returned (.tuple #[]) ∧ w = w' := by
  go_enter Try.func16, Try.ntmps16
  go_wp2
  go_end0
  exact ⟨rfl, rfl⟩
theorem ncut : Calls Try.prog 18 #[.pointer none] w fun e w' => e = .returned (.tuple #[]) ∧ w = w' := by
  go_enter Try.func18, Try.ntmps18
  go_wp2
  go_end0
  exact ⟨rfl, rfl⟩
theorem ntake (n : Int) : Calls Try.prog 15 #[.pointer none, .int .i64 n] w fun e w' => e = .returned (.tuple #[.slice none 0 0, .bool false]) ∧ w = w' := by
  go_enter Try.func15, Try.ntmps15
  go_wp2
  go_ret2
  exact ⟨rfl, rfl⟩
theorem nlen : Calls Try.prog 14 #[.pointer none] w fun e w' => e = .returned (.int .i64 0) ∧ w = w' := by
  go_enter Try.func14, Try.ntmps14
  go_wp2
  go_ret
  exact ⟨rfl, rfl⟩
theorem nover : Calls Try.prog 21 #[.pointer none] w fun e w' => e = .returned (.bool true) ∧ w = w' := by
  go_enter Try.func21, Try.ntmps21
  go_wp2
  go_ret
  exact ⟨rfl, rfl⟩
end
set_option maxRecDepth 100000 in
theorem it_nil {m l c1 c2 : Nat} (W : World) (h1 : Blk W c1 25 #[.pointer none]) :
    CallsIn Fence.wide m Try.prog 23 #[.func (.yield l) #[] #[], .pointer (some ⟨c1, 0, none⟩), .pointer (some ⟨c2, 0, none⟩)] W fun e W' => (∃ v, e = .returned v) ∧ Keep [] W W' := by
  refine callsIn_wide.2 (rng_func Try.func23 rfl ?_)
  simp only [Try.ntmps23, List.size_toArray, List.length_cons, List.length_nil, Nat.reduceAdd, Nat.reduceSub, Array.replicate_succ, Array.replicate_zero, List.push_toArray, List.append_toArray, List.nil_append, List.cons_append]
  have p1 := (h1.alloc (.cells #[.func (.yield l) #[] #[]] 52)).cell 0
  simp at p1
  go_wp2
  go_step3
  go_wp2_with (go_at_call 14; apply (nlen _).mono; rintro e w' ⟨rfl, rfl⟩)
  try rw [Exit.noGoto_ret]
  exact ⟨_, results_none rfl _ _ _, ⟨_, rfl⟩, (Keep.refl _ _).alloc _⟩
set_option maxRecDepth 100000 in
theorem it_nosizes {m l c1 c2 base pb : Nat} {v : Value} {bs : List UInt8} {en to : Bool} (W : World) (h1 : Blk W c1 25 #[.pointer (some ⟨pb, 0, none⟩)]) (h2 : Blk W c2 38 #[.nilFunc]) (hp : Pp W base pb 51 v bs en to) (hne : bs ≠ []) :
    CallsIn Fence.wide m Try.prog 23 #[.func (.yield l) #[] #[], .pointer (some ⟨c1, 0, none⟩), .pointer (some ⟨c2, 0, none⟩)] W fun e W' => (∃ v, e = .returned v) ∧ Keep [] W W' := by
  have hfe := fun (w : World) => run_eql_nil_nil (P := Try.prog) w 38 Try.underlying38
  refine callsIn_wide.2 (rng_func Try.func23 rfl ?_)
  simp only [Try.ntmps23, List.size_toArray, List.length_cons, List.length_nil, Nat.reduceAdd, Nat.reduceSub, Array.replicate_succ, Array.replicate_zero, List.push_toArray, List.append_toArray, List.nil_append, List.cons_append]
  have p1 := (h1.alloc (.cells #[.func (.yield l) #[] #[]] 52)).cell 0
  have p2 := (h2.alloc (.cells #[.func (.yield l) #[] #[]] 52)).cell 0
  simp at p1 p2
  have pA := hp.keep ((Keep.refl [] W).alloc (.cells #[.func (.yield l) #[] #[]] 52)) (by simp) (by simp)
  have hl0 : ((bs.length : Int) == 0) = false := by
    cases bs with
    | nil => exact absurd rfl hne
    | cons _ _ => simp; omega
  clear h1 h2 hp hne
  go_wp2
  go_step3
  go_wp2_with (go_at_call 14; apply (len_ pA).mono; rintro e w' ⟨rfl, rfl⟩)
  try rw [Exit.noGoto_ret]
  exact ⟨_, results_none rfl _ _ _, ⟨_, rfl⟩, (Keep.refl _ _).alloc _⟩
set_option maxRecDepth 100000 in
set_option maxHeartbeats 4000000 in
theorem pipeNone (w : World) : Calls Try.prog 6 #[] w fun e w' => e = .returned (.bool true) ∧ Below w.heap.size w w' := by
  have hfe := fun (w : World) (a b : Array Value) => run_eql_func_nil (P := Try.prog) w 35 (.func 23) a b Try.underlying35
  refine rng_func Try.func6 rfl ?_
  simp only [Try.ntmps6, List.size_toArray, List.length_cons, List.length_nil, Nat.reduceAdd, Nat.reduceSub, Array.replicate_succ, Array.replicate_zero, List.push_toArray, List.append_toArray, List.nil_append, List.cons_append]
  have kc := Lib.run_convert_bytes_const (P := Try.prog) w 22 5 #[.int .u8 97] 1 1 Try.underlying22 Try.underlying5
  go_wp2_with (first
    | (go_at_call 9; refine (nput _ _ _ _).mono ?_; rintro e w' ⟨rfl, rfl⟩)
    | (go_at_call 16; refine (nend _).mono ?_; rintro e w' ⟨rfl, rfl⟩)
    | (go_at_call 18; refine (ncut _).mono ?_; rintro e w' ⟨rfl, rfl⟩)
    | (go_at_call 15; refine (ntake _ _).mono ?_; rintro e w' ⟨rfl, rfl⟩)
    | (go_at_call 13; refine (sizes_ _ _ _ _ none).mono ?_; rintro e w' ⟨rfl, rfl⟩)
    | (go_at_call 12; refine (chunks_ _ none _ _ _).mono ?_; rintro e w' ⟨rfl, rfl⟩))
  have a1 := Blk.new (w.alloc (.cells #[.int .u8 97] 5 (1, 2))) 3 #[.int .i64 0]
  simp only [World.size_alloc] at a1
  have a1 := (((((a1.alloc (.cells #[.int .i64 1] 3)).alloc (.cells #[.slice (some ⟨w.heap.size + 1 + 1, 0, none⟩) 1 1] 23)).alloc (.cells #[.pointer none] 40)).alloc (.cells #[.pointer none] 25)).alloc (.cells #[.func (.func 25) #[] #[.pointer (some ⟨w.heap.size + 1 + 1 + 1, 0, none⟩), .pointer (some ⟨w.heap.size + 1 + 1 + 1 + 1, 0, none⟩)]] 38))
  have a5 := Blk.new (((((w.alloc (.cells #[.int .u8 97] 5 (1, 2))).alloc (.cells #[.int .i64 0] 3)).alloc (.cells #[.int .i64 1] 3)).alloc (.cells #[.slice (some ⟨w.heap.size + 1 + 1, 0, none⟩) 1 1] 23)).alloc (.cells #[.pointer none] 40)) 25 #[.pointer none]
  simp only [World.size_alloc] at a5
  have a5 := (a5.alloc (.cells #[.func (.func 25) #[] #[.pointer (some ⟨w.heap.size + 1 + 1 + 1, 0, none⟩), .pointer (some ⟨w.heap.size + 1 + 1 + 1 + 1, 0, none⟩)]] 38))
  have KS : Keep [] w (((((((w.alloc (.cells #[.int .u8 97] 5 (1, 2))).alloc (.cells #[.int .i64 0] 3)).alloc (.cells #[.int .i64 1] 3)).alloc (.cells #[.slice (some ⟨w.heap.size + 1 + 1, 0, none⟩) 1 1] 23)).alloc (.cells #[.pointer none] 40)).alloc (.cells #[.pointer none] 25)).alloc (.cells #[.func (.func 25) #[] #[.pointer (some ⟨w.heap.size + 1 + 1 + 1, 0, none⟩), .pointer (some ⟨w.heap.size + 1 + 1 + 1 + 1, 0, none⟩)]] 38)) := (((((((Keep.refl [] w).alloc _).alloc _).alloc _).alloc _).alloc _).alloc _).alloc _
  obtain ⟨S, hS⟩ : ∃ S, S = (((((((w.alloc (.cells #[.int .u8 97] 5 (1, 2))).alloc (.cells #[.int .i64 0] 3)).alloc (.cells #[.int .i64 1] 3)).alloc (.cells #[.slice (some ⟨w.heap.size + 1 + 1, 0, none⟩) 1 1] 23)).alloc (.cells #[.pointer none] 40)).alloc (.cells #[.pointer none] 25)).alloc (.cells #[.func (.func 25) #[] #[.pointer (some ⟨w.heap.size + 1 + 1 + 1, 0, none⟩), .pointer (some ⟨w.heap.size + 1 + 1 + 1 + 1, 0, none⟩)]] 38)) := ⟨_, rfl⟩
  have szS : w.heap.size + 7 ≤ S.heap.size := by rw [hS]; simp
  rw [← hS] at a1 a5 KS ⊢
  clear hS
  refine rng_stmt' (n := 5) (gf := 23) (lb := #[.pointer (some ⟨w.heap.size + 1 + 1 + 1 + 1 + 1, 0, none⟩), .pointer (some ⟨w.heap.size + 1 + 1 + 1 + 1 + 1 + 1, 0, none⟩)]) (by first | rfl | simp) (enters_of Try.func23 (by kernel_rfl) rfl) ?_
  intro rc hrc W1 hW1
  have KW : Keep [] S W1 := by rw [hW1]; exact ((Keep.refl [] S).alloc _).alloc _
  have r1 : W1.heap[S.heap.size + 1]? = some (.loop (rc .ready none)) := by rw [hW1]; have := heap_alloc_new (S.alloc (.deferred (some []))) (.loop (rc .ready none)); simpa using this
  have r2 : W1.heap[S.heap.size]? = some (.deferred (some [])) := by rw [hW1]; exact (Below.heap_alloc _ _ _ (by simp)).trans (heap_alloc_new S (.deferred (some [])))
  refine (it_nil W1 (a5.keep KW (by simp))).mono ?_
  rintro e W2 ⟨⟨vr, rfl⟩, k2⟩
  have rs2 : Rest S W2 [] (.loop (rc .ready none)) := ⟨k2.heap r1 (by simp), k2.heap r2 (by simp), KW.trans k2⟩
  clear hrc hW1
  refine ⟨_, .ready, none, rfl, by simp, rs2.rc, ?_⟩
  have rs3 := rs2.put (o' := .loop (rc .exhausted none))
  obtain ⟨W5, hW5⟩ : ∃ W5, W5 = W2.putObj (S.heap.size + 1) (.loop (rc .exhausted none)) := ⟨_, rfl⟩
  simp only [← hW5] at rs3 ⊢
  clear hW5
  have b1 := a1.keep rs3.kp (by simp)
  have KD := KS.trans rs3.kp
  have d1 := rs3.df
  have szD := rs3.kp.size
  have szD2 := (Array.getElem?_eq_some_iff.1 rs3.rc).1
  clear rs2 r1 r2 k2 KW rs3 KS a1 a5 kc hfe
  have hfe := fun (w : World) (a b : Array Value) => run_eql_func_nil (P := Try.prog) w 35 (.func 23) a b Try.underlying35
  have kc := Lib.run_convert_bytes_const (P := Try.prog) (W5.alloc (.cells #[.slice none 0 0, .bool false, .bool false] 51)) 22 5 #[.int .u8 97] 1 1 Try.underlying22 Try.underlying5
  simp only [World.size_alloc] at kc
  have p0 : Pp (W5.alloc (.cells #[.slice none 0 0, .bool false, .bool false] 51)) W5.heap.size W5.heap.size 51 (.slice none 0 0) [] false false := ⟨Blk.new W5 _ _, Row1.nil _ _ _⟩
  go_wp2_with (go_at_call 8; refine (new_ _).mono ?_; rintro e w' ⟨rfl, rfl⟩)
  have kl : Keep [] (W5.alloc (.cells #[.slice none 0 0, .bool false, .bool false] 51)) ((W5.alloc (.cells #[.slice none 0 0, .bool false, .bool false] 51)).alloc (.cells #[.int .u8 97] 5 (1, 2))) := (Keep.refl [] _).alloc _
  have rl : Reads ((W5.alloc (.cells #[.slice none 0 0, .bool false, .bool false] 51)).alloc (.cells #[.int .u8 97] 5 (1, 2))) _ 1 _ 1 (encB [97]) := reads_w _ _ _ _ rfl rfl
  simp only [World.size_alloc] at rl
  apply (put_ (p0.keep kl (by simp) (by simp [rowBlk])) (by simp; omega) rl (by simp)).mono
  rintro e w1 ⟨rfl, v1, p1, k1, -⟩
  simp only [Bool.false_eq_true, if_false, List.nil_append, rowBlk, Option.toList_none] at p1 k1
  have K1 : Keep [] W5 w1 := (((Keep.refl [] W5).alloc _).trans kl).step k1 (by simp)
  clear kl rl k1 p0 kc
  go_wp2_with (go_at_call 12; refine (chunks_nil _ (some ⟨W5.heap.size, 0, none⟩)).mono ?_; rintro e w' ⟨rfl, rfl⟩)
  have e4 := (Blk.new w1 25 #[.pointer (some ⟨W5.heap.size, 0, none⟩)]).alloc (.cells #[.nilFunc] 38)
  have e5 := Blk.new (w1.alloc (.cells #[.pointer (some ⟨W5.heap.size, 0, none⟩)] 25)) 38 #[.nilFunc]
  simp only [World.size_alloc] at e5
  have KS2 : Keep [] w1 ((w1.alloc (.cells #[.pointer (some ⟨W5.heap.size, 0, none⟩)] 25)).alloc (.cells #[.nilFunc] 38)) := ((Keep.refl [] w1).alloc _).alloc _
  obtain ⟨S2, hS2⟩ : ∃ S2, S2 = (w1.alloc (.cells #[.pointer (some ⟨W5.heap.size, 0, none⟩)] 25)).alloc (.cells #[.nilFunc] 38) := ⟨_, rfl⟩
  rw [← hS2] at e4 e5 KS2 ⊢
  clear hS2
  have szT := K1.size
  have szT2 := KS2.size
  have p2 := p1.keep KS2 (by simp) (by simp)
  refine rng_stmt' (n := 5) (gf := 23) (lb := #[.pointer (some ⟨w1.heap.size, 0, none⟩), .pointer (some ⟨w1.heap.size + 1, 0, none⟩)]) (by first | rfl | simp) (enters_of Try.func23 (by kernel_rfl) rfl) ?_
  intro rc2 hrc W1 hW1
  have KW : Keep [] S2 W1 := by rw [hW1]; exact ((Keep.refl [] S2).alloc _).alloc _
  have r1 : W1.heap[S2.heap.size + 1]? = some (.loop (rc2 .ready none)) := by rw [hW1]; have := heap_alloc_new (S2.alloc (.deferred (some []))) (.loop (rc2 .ready none)); simpa using this
  have r2 : W1.heap[S2.heap.size]? = some (.deferred (some [])) := by rw [hW1]; exact (Below.heap_alloc _ _ _ (by simp)).trans (heap_alloc_new S2 (.deferred (some [])))
  refine (it_nosizes W1 (e4.keep KW (by simp)) (e5.keep KW (by simp)) (p2.keep KW (by simp) (by simp)) (by simp)).mono ?_
  rintro e W2 ⟨⟨vr, rfl⟩, k2⟩
  have rs2 : Rest S2 W2 [] (.loop (rc2 .ready none)) := ⟨k2.heap r1 (by simp), k2.heap r2 (by simp), KW.trans k2⟩
  have p3 := (p2.keep KW (by simp) (by simp)).keep k2 (by simp) (by simp)
  clear hrc hW1
  refine ⟨_, .ready, none, rfl, by simp, rs2.rc, ?_⟩
  have rs3 := rs2.put (o' := .loop (rc2 .exhausted none))
  have p4 : Pp (W2.putObj (S2.heap.size + 1) (.loop (rc2 .exhausted none))) W5.heap.size W5.heap.size 51 v1 [97] false false := p3.keep ((Keep.refl [S2.heap.size + 1] W2).putObj (.inl (by simp)) _) (by have := p2.blk.lt; simp; omega) (fun g hg => by have := (p2.row.lt g hg).2; simp; omega)
  obtain ⟨W7, hW7⟩ : ∃ W7, W7 = W2.putObj (S2.heap.size + 1) (.loop (rc2 .exhausted none)) := ⟨_, rfl⟩
  simp only [← hW7] at rs3 p4 ⊢
  clear hW7
  have KD2 := (K1.trans KS2).trans rs3.kp
  have d2 := rs3.df
  have d1' := KD2.heap d1 (by simp)
  have b2 := b1.keep KD2 (by simp)
  clear rs2 r1 r2 k2 KW KS2 e4 e5 p1 p2 p3 K1 hfe b1
  have HT2 := Lib.hid (Array.getElem?_eq_some_iff.1 rs3.rc).1
  have HD := Lib.hid d1'
  have HD2 := Lib.hid d2
  clear d1 d1' d2 rs3
  go_wp2_with (first
    | (go_at_call 7; refine (begun _).mono ?_; rintro e w8 ⟨rfl, k8⟩; have k8 := Keep.of_below k8; have p8 := p4.keep k8 (by simp) (by simp); have b8 := (b2.keep k8 (by simp)).cell 0; simp at b8; have HK8 := Lib.hid k8)
    | (go_at_call 14; refine (nlen _).mono ?_; rintro e w' ⟨rfl, rfl⟩)
    | (go_at_call 21; refine (nover _).mono ?_; rintro e w' ⟨rfl, rfl⟩)
    | (go_at_call 14; apply (len_ p8).mono; rintro e w' ⟨rfl, rfl⟩))
  have d8 := HK8.out.heap HD2.out (by simp)
  have d9 := HK8.out.heap HD.out (by simp)
  have d10 : (w8.putObj S2.heap.size (.deferred none)).heap[S.heap.size]? = some (.deferred (some [])) := (World.putObj_heap_other (by omega)).trans d9
  refine ⟨by simp, .inl ⟨_, _, rfl, run_takeDeferred d8, ?_⟩⟩
  refine ⟨by simp, .inl ⟨_, _, rfl, run_takeDeferred d10, ?_⟩⟩
  refine ⟨_, results_tmp rfl _ _ _, rfl, ?_⟩
  exact ((((KD.trans KD2).trans HK8.out).putObj (l := S2.heap.size) (.inr (by omega)) _).putObj (l := S.heap.size) (.inr (by omega)) _).below (Nat.le_refl _) (by simp)
end Go.Proofs.Ytinokgmmdmkbcaa
