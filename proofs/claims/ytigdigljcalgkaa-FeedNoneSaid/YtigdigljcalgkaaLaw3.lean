/- feed: FeedNone. -/
import Derived.Test.YtigdigljcalgkaaBegun
set_option linter.all false
namespace Go.Proofs.Ytigdigljcalgkaa
open Go.ChangeShapes Go.WideShapes Go.ChangeAt Go.RowKit Go.Proofs.YtigdigljcalgkaaW.PrintWords
attribute [local go_sem] setCell_drewN alloc_drewN Oper.semAt_some
set_option maxRecDepth 100000 in
set_option maxHeartbeats 4000000 in
theorem feedNone (w : World) : Calls Try.prog 5 #[] w fun e w' => e = .returned (.bool true) ∧ Below w.heap.size w w' := by
  have hfe := fun (w : World) (a b : Array Value) => run_eql_func_nil (P := Try.prog) w 36 (.func 20) a b Try.underlying36
  refine rng_func Try.func5 rfl ?_
  simp only [Try.ntmps5, List.size_toArray, List.length_cons, List.length_nil, Nat.reduceAdd, Nat.reduceSub, Array.replicate_succ, Array.replicate_zero, List.push_toArray, List.append_toArray, List.nil_append, List.cons_append]
  go_wp2_with (fail)
  refine (put_none _ _).mono ?_
  rintro e w1 ⟨rfl, hw1⟩
  have K1 : Keep [] w w1 := by rw [← hw1]; exact (Keep.refl _ _).alloc _
  have HK1 := Lib.hid K1
  clear hw1 K1
  go_wp2_with (fail)
  refine (most_bad _ none 20000 (.inl rfl)).mono ?_
  rintro e w1' ⟨rfl, rfl⟩
  go_wp2_with (fail)
  refine (next_nil _).mono ?_
  rintro e w2 ⟨rfl, k2⟩
  have HK2 := Lib.hid (HK1.out.trans k2)
  clear k2 HK1
  unfold zeroF
  go_wp2_with (fail)
  have BK := Blk.new (w2.alloc (.cells #[.int .i64 0, .int .i64 0, .int .i64 0, .slice none 0 0] 27)) 3 #[.int .i64 0]
  have kA := (HK2.out.alloc (.cells #[.int .i64 0, .int .i64 0, .int .i64 0, .slice none 0 0] 27)).alloc (.cells #[.int .i64 0] 3)
  refine (all_ _ _).mono ?_
  rintro e w5 ⟨rfl, rfl⟩
  have BC := Blk.new ((w2.alloc (.cells #[.int .i64 0, .int .i64 0, .int .i64 0, .slice none 0 0] 27)).alloc (.cells #[.int .i64 0] 3)) 31 #[.pointer none]
  simp only [World.size_alloc] at BC BK
  have BK5 := BK.alloc (.cells #[.pointer none] 31)
  have k5 := kA.alloc (.cells #[.pointer none] 31)
  obtain ⟨S, hS⟩ : ∃ S, S = ((w2.alloc (.cells #[.int .i64 0, .int .i64 0, .int .i64 0, .slice none 0 0] 27)).alloc (.cells #[.int .i64 0] 3)).alloc (.cells #[.pointer none] 31) := ⟨_, rfl⟩
  have szS : w2.heap.size + 3 ≤ S.heap.size := by rw [hS]; simp
  rw [← hS] at BC BK5 k5 ⊢
  clear hS
  have K5 := Lib.hid k5
  clear BK kA k5
  go_wp2_with (fail)
  obtain ⟨kb, hkb⟩ : ∃ kb, kb = w2.heap.size + 1 := ⟨_, rfl⟩
  have szS : kb + 2 ≤ S.heap.size := by omega
  rw [← hkb] at BC BK5 ⊢
  clear hkb
  refine rng_stmt' (n := 5) (gf := 20) (lb := #[.pointer (some ⟨kb + 1, 0, none⟩)]) (by first | rfl | simp) (enters_of Try.func20 (by kernel_rfl) rfl) ?_
  intro rc hrc W1 hW1
  have szW1 : S.heap.size ≤ W1.heap.size := by rw [hW1]; simp; omega
  refine (allIt (m := 4) (B := S.heap.size) (c1 := kb + 1) (p := none) 1 (fun _ => 0)
    (fun j W => Blk W (kb + 1) 31 #[.pointer none] ∧ Blk W kb 3 #[.int .i64 0] ∧ Rest S W [] (.loop (rc .ready none)))
    (fun j t f s u W => False)
    (fun W => Blk W kb 3 #[.int .i64 0] ∧ Rest S W [] (.loop (rc .ready none)))
    (fun _ => False) W1 szW1 ?hc ?hnext ?hyield ?hmu ?hJ ?hM ?hD ?start).mono ?fin
  case hc =>
    rintro j W ⟨hb, _⟩
    have := hb.cell 0
    simpa using this
  case hnext =>
    rintro j W ⟨hb, hk, hr⟩
    refine (next_nil W).mono ?_
    rintro e W' ⟨rfl, k⟩
    exact ⟨.inl ⟨rfl, hk.keep k (by simp), hr.go k (by simp) (by simp) (by simp)⟩, XK.of_keep k (by simp)⟩
  case hyield =>
    rintro j t f s u W h
    exact h.elim
  case hmu =>
    rintro j t f s u W h
    exact h.elim
  case hJ =>
    rintro j W W' ⟨hb, hk, hr⟩ k
    exact ⟨hb.keep k (by simp), hk.keep k (by simp), hr.go k (by simp) (by simp) (by simp)⟩
  case hM =>
    rintro j t f s u W W' gs h
    exact h.elim
  case hD =>
    rintro W W' gs ⟨hk, hr⟩ hf k
    exact ⟨hk.frames (by decide) hf k, hr.frames hf k⟩
  case start =>
    have KB : Keep [] S W1 := by rw [hW1]; exact ((Keep.refl [] S).alloc _).alloc _
    have q1 : W1.heap[S.heap.size + 1]? = some (.loop (rc .ready none)) := by rw [hW1]; have := heap_alloc_new (S.alloc (.deferred (some []))) (.loop (rc .ready none)); simpa using this
    have q2 : W1.heap[S.heap.size]? = some (.deferred (some [])) := by rw [hW1]; exact (Below.heap_alloc _ _ _ (by simp)).trans (heap_alloc_new S (.deferred (some [])))
    exact ⟨BC.keep KB (by simp), BK5.keep KB (by simp), ⟨q1, q2, KB⟩⟩
  case fin =>
    rintro e W' ⟨⟨vr, rfl⟩, h⟩
    obtain ⟨hk, hr⟩ := h.resolve_right id
    refine ⟨_, .ready, none, rfl, by simp, hr.rc, ?_⟩
    have hr2 := hr.put (o' := .loop (rc .exhausted none))
    have kp : Keep [S.heap.size + 1] W' (W'.putObj (S.heap.size + 1) (.loop (rc .exhausted none))) := (Keep.refl _ W').putObj (.inl (by simp)) _
    have hk2 := hk.keep kp (by simp; omega)
    obtain ⟨W5, hW5⟩ : ∃ W5, W5 = W'.putObj (S.heap.size + 1) (.loop (rc .exhausted none)) := ⟨_, rfl⟩
    simp only [← hW5] at hr2 hk2 ⊢
    clear hW5 hW1 hrc hk hr kp szW1 BC BK5
    have K6 := Lib.hid (K5.out.trans hr2.kp)
    have hdf := hr2.df
    obtain ⟨db, hdb⟩ : ∃ db, db = S.heap.size := ⟨_, rfl⟩
    rw [← hdb] at szS hdf ⊢
    have HDW : Hid (w.heap.size ≤ db) := Lib.hid (by have := K5.out.size; omega)
    clear hr2 K5 hdb
    go_wp2_with (fail)
    refine (new_bad _ true 16383 (.inl (by omega))).mono ?_
    rintro e w6 ⟨rfl, k6⟩
    have hk6 := hk2.keep k6 (by simp)
    have K7 := Lib.hid (K6.out.trans k6)
    have hdf6 := k6.heap hdf (by simp)
    clear K6 hdf k6 hk2
    go_wp2_with (fail)
    refine (preface_ _).mono ?_
    rintro e w7 ⟨rfl, hw7⟩
    have kA : Keep [] w6 (w6.alloc (.cells (encB pfB).toArray 5 (24, 25))) := (Keep.refl _ _).alloc _
    have c0 : (w6.alloc (.cells (encB pfB).toArray 5 (24, 25))).cell? ⟨w6.heap.size, 0, none⟩ = some (.int .u8 80) := by rw [World.cell?_alloc_mark]; rfl
    have f0 : (w6.alloc (.cells (encB pfB).toArray 5 (24, 25))).frozen? ⟨w6.heap.size, 0, none⟩ = false := by
      have hh := heap_alloc_new w6 (.cells (encB pfB).toArray 5 (24, 25))
      unfold World.frozen?
      rw [hh]
      rfl
    rw [← hw7] at kA c0 f0
    clear hw7
    have hk7 := hk6.keep kA (by simp)
    have K8 := Lib.hid (K7.out.trans kA)
    have hdf7 := kA.heap hdf6 (by simp)
    have kb6 := hk6.lt
    have db6 := (Array.getElem?_eq_some_iff.1 hdf6).1
    clear K7 hdf6 hk6 kA
    go_wp2_with (fail)
    have k8 : Keep [w6.heap.size] w7 (w7.setCell ⟨w6.heap.size, 0, none⟩ (.int .u8 0)) := (Keep.refl _ _).setCell (p := ⟨w6.heap.size, 0, none⟩) (.inl (by simp)) _
    have hk8 := hk7.keep k8 (by simp; omega)
    have hdf8 := k8.heap hdf7 (by simp; omega)
    have K9 := Lib.hid (K8.out.step k8 (by have := HDW.out; simp; omega))
    obtain ⟨w8, hw8⟩ : ∃ w8, w8 = w7.setCell ⟨w6.heap.size, 0, none⟩ (.int .u8 0) := ⟨_, rfl⟩
    rw [← hw8] at hk8 hdf8 K9 ⊢
    clear hw8 k8 hk7 hdf7 K8 c0 f0
    refine (begun _).mono ?_
    rintro e w9 ⟨rfl, B9⟩
    have k9 := Keep.of_below B9
    have hk9 := (hk8.keep k9 (by simp)).cell 0
    have hdf9 := k9.heap hdf8 (by simp)
    have K10 := Lib.hid (K9.out.trans k9)
    simp at hk9
    clear B9 k9 hk8 hdf8 K9
    go_wp2_with (fail)
    refine (code_none _).mono ?_
    rintro e w10 ⟨rfl, rfl⟩
    go_wp2_with (fail)
    refine (held_none _).mono ?_
    rintro e w10 ⟨rfl, rfl⟩
    go_wp2_with (fail)
    refine ⟨by simp, .inl ⟨_, _, rfl, run_takeDeferred hdf9, ?_⟩⟩
    refine ⟨_, results_tmp rfl _ _ _, rfl, ?_⟩
    exact ((K10.out).putObj (l := db) (.inr HDW.out) _).below (Nat.le_refl _) (by simp)
end Go.Proofs.Ytigdigljcalgkaa
