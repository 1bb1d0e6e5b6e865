/- block: begun. -/
import Derived.Test.YtenegjflapppdaaIt
set_option linter.all false
namespace Go.Proofs.Ytenegjflapppdaa
open Go.ChangeShapes Go.WideShapes Go.ChangeAt Go.RowKit
attribute [local go_sem] setCell_drewN alloc_drewN Oper.semAt_some
set_option maxRecDepth 100000 in
set_option maxHeartbeats 4000000 in
theorem begun (w : World) : Calls Try.prog 8 #[] w fun e w' => e = .returned (.bool true) ∧ Below w.heap.size w w' := by
  have hfe := fun (w : World) (a b : Array Value) => run_eql_func_nil (P := Try.prog) w 43 (.func 23) a b Try.underlying43
  refine rng_func Try.func8 rfl ?_
  simp only [Try.ntmps8, List.size_toArray, List.length_cons, List.length_nil, Nat.reduceAdd, Nat.reduceSub, Array.replicate_succ, Array.replicate_zero, List.push_toArray, List.append_toArray, List.nil_append, List.cons_append]
  have kc := Lib.run_convert_bytes_const (P := Try.prog) (w.alloc (.cells #[.int .i64 0, .bool false, .bool false, .slice none 0 0] 52)) 27 5 #[.int .u8 97, .int .u8 98] 2 2 Try.underlying27 Try.underlying5
  simp only [World.size_alloc] at kc
  have p0 : Bk (w.alloc (.cells #[.int .i64 0, .bool false, .bool false, .slice none 0 0] 52)) w.heap.size w.heap.size 52 0 false false (.slice none 0 0) [] := ⟨Blk.new w _ _, Row1.nil _ _ _⟩
  go_wp2_with (go_at_call 9; refine (new_ _).mono ?_; rintro e w' ⟨rfl, rfl⟩)
  have kl : Keep [] (w.alloc (.cells #[.int .i64 0, .bool false, .bool false, .slice none 0 0] 52)) ((w.alloc (.cells #[.int .i64 0, .bool false, .bool false, .slice none 0 0] 52)).alloc (.cells #[.int .u8 97, .int .u8 98] 5 (2, 3))) := (Keep.refl [] _).alloc _
  have rl : Reads ((w.alloc (.cells #[.int .i64 0, .bool false, .bool false, .slice none 0 0] 52)).alloc (.cells #[.int .u8 97, .int .u8 98] 5 (2, 3))) _ 1 _ 2 (encB [97, 98]) := reads_w _ _ _ _ rfl rfl
  simp only [World.size_alloc] at rl
  apply (start_part (p0.keep kl (by simp) (by simp [rowBlk])) 1 true 2 (by omega) rl (by simp) (by simp; omega) (fun _ ad e => by injection e with e; subst e; simp)).mono
  rintro e w1 ⟨rfl, v1, p1, k1, -⟩
  have K1 : Keep [] w w1 := (((Keep.refl [] w).alloc _).trans kl).step k1 (by simp)
  have hlt1 := p1.blk.lt
  clear kl rl k1 p0 kc
  go_wp2_with (first
    | (go_at_call 15; apply (waits_ p1).mono; rintro e w2 ⟨rfl, k2⟩; have p2 := p1.keep k2 (by simp) (by simp); have K2 : Keep [] w w2 := K1.trans k2; have kc := Lib.run_convert_bytes_const (P := Try.prog) w2 27 5 #[.int .u8 99] 1 1 Try.underlying27 Try.underlying5)
    | (go_at_call 17; apply (held_ p2).mono; rintro e w' ⟨rfl, rfl⟩))
  have kl : Keep [] w2 (w2.alloc (.cells #[.int .u8 99] 5 (1, 2))) := (Keep.refl [] _).alloc _
  have rl : Reads (w2.alloc (.cells #[.int .u8 99] 5 (1, 2))) _ 1 _ 1 (encB [99]) := reads_w _ _ _ _ rfl rfl
  have sz2 := K2.size
  apply (more_whole (p2.keep kl (by simp) (by simp)) (by simp; omega) 1 rl (by simp)).mono
  rintro e w4 ⟨v4, rfl, r4, p4, k4, m4⟩
  have r4 : Row1 w4 w.heap.size 5 v4 (encB [97, 98, 99]) := r4
  have K4 : Keep [] w w4 := (K2.trans kl).step k4 (fun g hg => by
    rcases List.mem_cons.1 hg with rfl | hg
    · exact .inr (Nat.le_refl _)
    · exact .inr (p2.row.lt g (by simpa using hg)).1)
  have sz4 := K4.size
  have hlt4 := p4.blk.lt
  obtain ⟨A4, c4, rfl, _, _, hrd4⟩ := r4.reads
  clear kl rl k4 kc p1 p2 k2 K1 K2
  have kc := Lib.run_convert_bytes_const (P := Try.prog) (w4.alloc (.cells #[.int .i64 0] 3)) 27 5 #[.int .u8 97, .int .u8 98, .int .u8 99, .int .u8 100, .int .u8 101] 5 5 Try.underlying27 Try.underlying5
  simp only [World.size_alloc] at kc
  go_wp2_with (go_at_call 19; refine (cut_ _ 5 true _ 5 5 2 2 rfl).mono ?_; rintro e w' ⟨rfl, rfl⟩)
  have a0 := Blk.new w4 3 #[.int .i64 0]
  have a1 := Blk.new ((w4.alloc (.cells #[.int .i64 0] 3)).alloc (.cells #[.int .u8 97, .int .u8 98, .int .u8 99, .int .u8 100, .int .u8 101] 5 (5, 6))) 3 #[.int .i64 5]
  have a2 := Blk.new (((w4.alloc (.cells #[.int .i64 0] 3)).alloc (.cells #[.int .u8 97, .int .u8 98, .int .u8 99, .int .u8 100, .int .u8 101] 5 (5, 6))).alloc (.cells #[.int .i64 5] 3)) 4 #[.bool true]
  have a3 := Blk.new ((((w4.alloc (.cells #[.int .i64 0] 3)).alloc (.cells #[.int .u8 97, .int .u8 98, .int .u8 99, .int .u8 100, .int .u8 101] 5 (5, 6))).alloc (.cells #[.int .i64 5] 3)).alloc (.cells #[.bool true] 4)) 27 #[.slice (some ⟨w4.heap.size + 1, 0, none⟩) 5 5]
  have a4 := Blk.new (((((w4.alloc (.cells #[.int .i64 0] 3)).alloc (.cells #[.int .u8 97, .int .u8 98, .int .u8 99, .int .u8 100, .int .u8 101] 5 (5, 6))).alloc (.cells #[.int .i64 5] 3)).alloc (.cells #[.bool true] 4)).alloc (.cells #[.slice (some ⟨w4.heap.size + 1, 0, none⟩) 5 5] 27)) 3 #[.int .i64 2]
  simp only [World.size_alloc] at a0 a1 a2 a3 a4
  have a0 := (((((a0.alloc (.cells #[.int .u8 97, .int .u8 98, .int .u8 99, .int .u8 100, .int .u8 101] 5 (5, 6))).alloc (.cells #[.int .i64 5] 3)).alloc (.cells #[.bool true] 4)).alloc (.cells #[.slice (some ⟨w4.heap.size + 1, 0, none⟩) 5 5] 27)).alloc (.cells #[.int .i64 2] 3))
  have a1 := (((a1.alloc (.cells #[.bool true] 4)).alloc (.cells #[.slice (some ⟨w4.heap.size + 1, 0, none⟩) 5 5] 27)).alloc (.cells #[.int .i64 2] 3))
  have a2 := ((a2.alloc (.cells #[.slice (some ⟨w4.heap.size + 1, 0, none⟩) 5 5] 27)).alloc (.cells #[.int .i64 2] 3))
  have a3 := (a3.alloc (.cells #[.int .i64 2] 3))
  have KS : Keep [] w4 ((((((w4.alloc (.cells #[.int .i64 0] 3)).alloc (.cells #[.int .u8 97, .int .u8 98, .int .u8 99, .int .u8 100, .int .u8 101] 5 (5, 6))).alloc (.cells #[.int .i64 5] 3)).alloc (.cells #[.bool true] 4)).alloc (.cells #[.slice (some ⟨w4.heap.size + 1, 0, none⟩) 5 5] 27)).alloc (.cells #[.int .i64 2] 3)) := ((((((Keep.refl [] w4).alloc _).alloc _).alloc _).alloc _).alloc _).alloc _
  have rl : Reads ((w4.alloc (.cells #[.int .i64 0] 3)).alloc (.cells #[.int .u8 97, .int .u8 98, .int .u8 99, .int .u8 100, .int .u8 101] 5 (5, 6))) _ 1 _ 5 (encB [97, 98, 99, 100, 101]) := reads_w _ _ _ _ rfl rfl
  simp only [World.size_alloc] at rl
  have rl5 := rl.keeps (w' := ((((((w4.alloc (.cells #[.int .i64 0] 3)).alloc (.cells #[.int .u8 97, .int .u8 98, .int .u8 99, .int .u8 100, .int .u8 101] 5 (5, 6))).alloc (.cells #[.int .i64 5] 3)).alloc (.cells #[.bool true] 4)).alloc (.cells #[.slice (some ⟨w4.heap.size + 1, 0, none⟩) 5 5] 27)).alloc (.cells #[.int .i64 2] 3))) (((((Keep.refl [] _).alloc _).alloc _).alloc _).alloc _) (by simp) (by simp)
  obtain ⟨S, hS⟩ : ∃ S, S = ((((((w4.alloc (.cells #[.int .i64 0] 3)).alloc (.cells #[.int .u8 97, .int .u8 98, .int .u8 99, .int .u8 100, .int .u8 101] 5 (5, 6))).alloc (.cells #[.int .i64 5] 3)).alloc (.cells #[.bool true] 4)).alloc (.cells #[.slice (some ⟨w4.heap.size + 1, 0, none⟩) 5 5] 27)).alloc (.cells #[.int .i64 2] 3)) := ⟨_, rfl⟩
  have szS : w4.heap.size + 6 ≤ S.heap.size := by rw [hS]; simp
  have e4 : ((2 : Nat) : Int) = 2 := rfl
  simp only [e4, ← hS] at a0 a1 a2 a3 a4 KS rl5 ⊢
  clear hS rl kc e4
  have p5 := p4.keep KS (by simp) (by simp [rowBlk])
  have hR4 := r4.keep KS (by simp)
  have Hlt := r4.lt
  obtain ⟨kb, hkb⟩ : ∃ kb, kb = w4.heap.size := ⟨_, rfl⟩
  rw [← hkb] at a0 a1 a2 a3 a4 szS rl5 hlt4 Hlt sz4 ⊢
  have Hkb := Lib.hid hkb
  clear hkb
  refine rng_stmt' (n := 5) (gf := 23) (lb := #[.pointer (some ⟨kb + 1 + 1, 0, none⟩), .pointer (some ⟨kb + 1 + 1 + 1, 0, none⟩), .pointer (some ⟨kb + 1 + 1 + 1 + 1, 0, none⟩), .pointer (some ⟨kb + 1 + 1 + 1 + 1 + 1, 0, none⟩)]) (by first | rfl | simp) (enters_of Try.func23 (by kernel_rfl) rfl) ?_
  intro rc hrc W1 hW1
  have szW1 : W1.heap.size = S.heap.size + 1 + 1 := by rw [hW1]; simp
  refine (cutIt (m := 4) (s := kb + 1 + 1) (c1 := kb + 1 + 1) (c2 := kb + 1 + 1 + 1) (c3 := kb + 1 + 1 + 1 + 1) (c4 := kb + 1 + 1 + 1 + 1 + 1) (id := 5) (en := true) (A := some ⟨kb + 1, 0, none⟩) (n := 5) (c := 5) (mo := 2) (bs := [97, 98, 99, 100, 101]) (by omega) (by omega) (by omega) rfl (by omega) (by omega) (by omega)
    (fun j off W => CF (kb + 1 + 1) W (kb + 1 + 1) (kb + 1 + 1 + 1) (kb + 1 + 1 + 1 + 1) (kb + 1 + 1 + 1 + 1 + 1) 5 true (some ⟨kb + 1, 0, none⟩) 5 5 2 [97, 98, 99, 100, 101] ∧ Blk W kb 3 #[.int .i64 j] ∧ Rest S W [kb] (.loop (rc .ready none)) ∧ ((j = 0 ∧ off = 0) ∨ (j = 1 ∧ off = 2) ∨ (j = 2 ∧ off = 4) ∨ (j = 3 ∧ off = 5)))
    (fun _ => False) (fun j off W h => h.1) W1 ?hst ?round (by omega) (by omega) (by omega) (by omega) ?start).mono ?fin
  case hst =>
    rintro j off W W' ⟨hc, hk, hr, hh⟩ k
    rw [szW1] at k
    exact ⟨hc.keep k (fun g hg => by simp at hg; subst hg; exact ⟨fun _ ad e => by injection e with e; subst e; simp; omega, by omega, by omega, by omega, by omega⟩), hk.keep k (by simp; omega), hr.go k (by simp; omega) (by simp) (by simp; omega), hh⟩
  case start =>
    have KB : Keep [] S W1 := by rw [hW1]; exact ((Keep.refl [] S).alloc _).alloc _
    have q1 : W1.heap[S.heap.size + 1]? = some (.loop (rc .ready none)) := by rw [hW1]; have := heap_alloc_new (S.alloc (.deferred (some []))) (.loop (rc .ready none)); simpa using this
    have q2 : W1.heap[S.heap.size]? = some (.deferred (some [])) := by rw [hW1]; exact (Below.heap_alloc _ _ _ (by simp)).trans (heap_alloc_new S (.deferred (some [])))
    exact ⟨⟨a1.keep KB (by simp), a2.keep KB (by simp), a3.keep KB (by simp), a4.keep KB (by simp), rl5.keeps KB (by omega) (by simp), by omega⟩, a0.keep KB (by simp), ⟨q1, q2, KB.more (by simp)⟩, .inl ⟨rfl, rfl⟩⟩
  case round =>
    rintro j off W k ⟨hc, hk, hr, hh⟩ hjo hj0 hoff hk' hsz W2' r kk cf hrow
    rw [szW1] at hsz kk ⊢
    have hk2 := hk.keep kk (by simp; omega)
    have hr2 := hr.go kk (by simp; omega) (by simp) (by simp; omega)
    have hnx : (j + 1 = 1 ∧ off + k = 2) ∨ (j + 1 = 2 ∧ off + k = 4) ∨ (j + 1 = 3 ∧ off + k = 5) := by omega
    have hj3 : j ≤ 3 := by omega
    have HNX := Lib.hid hnx
    refine rng_round' hrc hr2.rc rfl ?_
    clear hrc hW1 hk' hjo hj0 hh hnx
    have kp : Keep [S.heap.size + 1] W2' (W2'.putObj (S.heap.size + 1) (.loop (rc .busy none))) := (Keep.refl _ W2').putObj (.inl (by simp)) _
    have L2 := Lib.hid hr2.rc
    have hk3 := hk2.keep kp (by simp; omega)
    have hr3 := hr2.put (o' := .loop (rc .busy none))
    have cf3 := cf.keep kp (fun g hg => by simp at hg; subst hg; exact ⟨fun _ ad e => by injection e with e; subst e; simp; omega, by omega, by omega, by omega, by omega⟩)
    have hgk : (W2'.putObj (S.heap.size + 1) (.loop (rc .busy none))).heap[S.heap.size + 1 + 1]? = W2'.heap[S.heap.size + 1 + 1]? := World.putObj_heap_other (by omega)
    gi_wp2
    refine ⟨L2.out, ?_⟩
    obtain ⟨W3, hW3⟩ : ∃ W3, W3 = W2'.putObj (S.heap.size + 1) (.loop (rc .busy none)) := ⟨_, rfl⟩
    rw [← hW3] at hk3 hr3 cf3 hgk ⊢
    have c3 := hk3.cell 0
    have f3 := hk3.frozen 0
    simp at c3
    have k4 : Keep [kb] W3 (W3.setCell ⟨kb, 0, none⟩ (.int .i64 ((j : Int) + 1))) := (Keep.refl _ W3).setCell (p := ⟨kb, 0, none⟩) (.inl (by simp)) _
    have hk4 : Blk (W3.setCell ⟨kb, 0, none⟩ (.int .i64 ((j : Int) + 1))) kb 3 #[.int .i64 ((j + 1 : Nat) : Int)] := hk3.set_ 0 _
    have hr4 := hr3.go k4 (by simp) (by simp; omega) (by simp; omega)
    have cf4 := cf3.keep k4 (fun g hg => by simp at hg; subst hg; exact ⟨fun _ ad e => by injection e with e; subst e; simp, by omega, by omega, by omega, by omega⟩)
    have kz : Keep [S.heap.size + 1] (W3.setCell ⟨kb, 0, none⟩ (.int .i64 ((j : Int) + 1))) ((W3.setCell ⟨kb, 0, none⟩ (.int .i64 ((j : Int) + 1))).putObj (S.heap.size + 1) (.loop (rc .ready none))) := (Keep.refl _ _).putObj (.inl (by simp)) _
    have HR5 := Lib.hid (hr4.put (o' := .loop (rc .ready none)))
    have HK5 := Lib.hid (hk4.keep kz (by simp; omega))
    have HC5 := Lib.hid (cf4.keep kz (fun g hg => by simp at hg; subst hg; exact ⟨fun _ ad e => by injection e with e; subst e; simp; omega, by omega, by omega, by omega, by omega⟩))
    have HG5 : Hid (((W3.setCell ⟨kb, 0, none⟩ (.int .i64 ((j : Int) + 1))).putObj (S.heap.size + 1) (.loop (rc .ready none))).heap[S.heap.size + 1 + 1]? = W2'.heap[S.heap.size + 1 + 1]?) := Lib.hid ((World.putObj_heap_other (by omega)).trans ((Below.heap_setCell W3 ⟨kb, 0, none⟩ _ _ (by simp; omega)).trans hgk))
    have HL4 := Lib.hid hr4.rc
    have jz0 : (0 : Int) ≤ (j : Int) := by omega
    have jz1 : (j : Int) ≤ 3 := by omega
    clear hk3 hr3 cf3 k4 hk4 hr4 cf4 kz hgk hk2 hr2 kp hW3
    gi_wp2
    exact ⟨HL4.out, HG5.out, HC5.out, HK5.out, HR5.out, by have := HNX.out; omega⟩
  case fin =>
    rintro e W' ⟨⟨vr, rfl⟩, h⟩
    obtain ⟨j, hc, hk, hr, hh⟩ := h.resolve_right id
    obtain rfl : j = 2 := by omega
    refine ⟨_, .ready, none, rfl, by simp, hr.rc, ?_⟩
    have hr2 := hr.put (o' := .loop (rc .exhausted none))
    have kp : Keep [S.heap.size + 1] W' (W'.putObj (S.heap.size + 1) (.loop (rc .exhausted none))) := (Keep.refl _ W').putObj (.inl (by simp)) _
    have hk2 := hk.keep kp (by simp; omega)
    obtain ⟨W5, hW5⟩ : ∃ W5, W5 = W'.putObj (S.heap.size + 1) (.loop (rc .exhausted none)) := ⟨_, rfl⟩
    simp only [← hW5] at hr2 hk2 ⊢
    clear hW5 hW1 hrc hc hk hr hh kp
    have c0 := hk2.cell 0
    simp at c0
    have P5 := p5.keep hr2.kp (by simp; omega) (by simp [rowBlk])
    have hrow := hR4.keep hr2.kp (fun g hg => by have := (Hlt g hg).2; simp; omega)
    obtain ⟨X1, Y1, ex, _, _, hX⟩ := hrow.reads
    injection ex with x1 x2 x3
    subst x1 x3
    have st1 := str_of (c := c4) (src := 27) (dst := 9) Try.underlying27 Try.underlying5 Try.underlying9 hX
    have HF := Lib.hid hr2
    have HK4 := Lib.hid K4
    have HKS := Lib.hid KS
    clear hr2 hk2 hrow hX hR4 Hlt hrd4 r4 p4 p5 K4 KS rl5 a0 a1 a2 a3 a4
    go_wp2_with (go_at_call 16; apply (isend_ P5).mono; rintro e w9 ⟨rfl, rfl⟩)
    have hdf := HF.out.df
    refine ⟨by simp, .inl ⟨_, _, rfl, run_takeDeferred hdf, ?_⟩⟩
    refine ⟨_, results_tmp rfl _ _ _, rfl, ?_⟩
    have hK := HK4.out
    have hKS := HKS.out
    have szk := hKS.size
    have szk2 := hK.size
    have h0 := Hkb.out
    exact (((hK.step hKS (by simp)).step HF.out.kp (by simp; omega)).putObj (l := S.heap.size) (.inr (by omega)) _).below (Nat.le_refl _) (by simp)
end Go.Proofs.Ytenegjflapppdaa
