/- Own texts in one: Read ReadB. -/
import Derived.Test.YtbngoaonkhcciaaZB
/-! #### Read -/
set_option linter.all false
namespace Go.Proofs.Ytbngoaonkhcciaa
open Go.ChangeShapes Go.WideShapes Go.ChangeAt Go.RowKit Go.Proofs.YtbngoaonkhcciaaW.PrintWords
attribute [local go_sem] setCell_drewN alloc_drewN Oper.semAt_some
def body0 (pad : Int) : Array Value := #[.slice none 0 0, .int .i64 pad, .bool false, .bool false, .int .i64 0, .int .i64 0, .int .i64 0, .int .i64 0, .int .i64 0, .slice none 0 0, .int .i64 0]
section
variable (w : World) {A : Option Addr} {n c : Nat} {bs r : List UInt8} {f : UInt8} {s : Int} {pad : Int}
set_option maxHeartbeats 2000000 in
theorem read_8 (hr : Reads w w.heap.size 1 A n (encB bs)) (hc : n ≤ c) (hc2 : c ≤ 9223372036854775807) (hc3 : n ≤ 140737488355328) (hb : bareF 8 f bs = .ok pad r) (hs : sizeF 8 f r.length = true) :
    Calls Try.prog 15 #[.agg #[.int .i64 (8 : Nat), .int .i64 f.toNat, .int .i64 s, .slice A n c]] w fun e w' =>
      e = .returned (.tuple #[.agg #[.slice none 0 0, .int .i64 pad, .bool false, .bool false, .int .i64 0, .int .i64 0, .int .i64 0, .int .i64 0, .int .i64 ((numB r % 2147483648 : Nat) : Int), .slice none 0 0, .int .i64 0], .int .i64 0]) ∧ Keep [] w w' := by
  have HB := Lib.hid hb
  have HS := Lib.hid hs
  clear hb hs
  have Hr := Lib.hid hr
  clear hr
  have hpl : placeF 8 = -1 := rfl
  go_enter Try.func15, Try.ntmps15
  go_wp2_with (fail)
  refine (place_ _ 8).mono ?_
  rintro e w1 ⟨rfl, k1⟩
  rw [hpl]
  have BF := ((Blk.new w 24 #[.int .i64 (8 : Nat), .int .i64 f.toNat, .int .i64 s, .slice A n c]).alloc (.cells (body0 0) 36)).keep k1 (by simp)
  have BR := (Blk.new (w.alloc (.cells #[.int .i64 (8 : Nat), .int .i64 f.toNat, .int .i64 s, .slice A n c] 24)) 36 (body0 0)).keep k1 (by simp)
  have K1 := Lib.hid ((((Keep.refl [] w).alloc _).alloc _).trans k1)
  have sz1 := k1.size
  simp at BR sz1
  have l1 : w.heap.size < w1.heap.size := by omega
  have l2 : w.heap.size + 1 < w1.heap.size := by omega
  clear k1 sz1
  have d0 := BF.cell 0
  have d1 := BF.cell 1
  have d2 := BF.cell 2
  have d3 := BF.cell 3
  simp at d0 d1 d2 d3
  go_wp2_with (fail)
  obtain ⟨W2, hW2⟩ : ∃ W2, W2 = w1.alloc (.cells (body0 0) 36) := ⟨_, rfl⟩
  have K2 : Keep [] w1 W2 := by rw [hW2]; exact (Keep.refl _ _).alloc _
  have BO : Blk W2 w1.heap.size 36 (body0 0) := by rw [hW2]; exact Blk.new _ _ _
  have z2 : W2.heap.size = w1.heap.size + 1 := by rw [hW2]; simp
  have hBc := bare_ W2 8 f s A n c w1.heap.size BO rfl rfl ((Hr.out.keeps (K1.out.trans K2) (Nat.le_refl _) (by simp)).more (by omega)) hc hc2
  rw [HB.out] at hBc
  show Calls Try.prog 26 _ (w1.alloc (.cells (body0 0) 36)) _
  rw [← hW2]
  refine hBc.mono ?_
  rintro e w2 ⟨A2, c2, rfl, rr, hcr, hcr2, bo, k2⟩
  have K3 := Lib.hid ((K1.out.trans K2).step k2 (by simp; omega))
  have z3 := k2.size
  have BF3 := (BF.keep K2 (by simp)).keep k2 (by simp; omega)
  have BR3 := (BR.keep K2 (by simp)).keep k2 (by simp; omega)
  obtain ⟨ob, hob⟩ : ∃ ob, ob = w1.heap.size := ⟨_, rfl⟩
  rw [← hob] at l1 l2 bo rr z2 ⊢
  have l3 : w.heap.size < w2.heap.size := by omega
  have l4 : w.heap.size + 1 < w2.heap.size := by omega
  have l5 : ob < w2.heap.size := by omega
  clear hBc hW2 BO K2 k2 z2 z3 BF BR hob K1 d0 d1 d2 d3 HB
  have d0 := BF3.cell 0
  have d1 := BF3.cell 1
  have d2 := BF3.cell 2
  have d3 := BF3.cell 3
  simp at d0 d1 d2 d3
  go_wp2_with (fail)
  have hSz := sized_ w2 8 f s (Hr.out.keeps K3.out (Nat.le_refl _) (by simp) |>.more K3.out.size) hc hc2 r.length
  rw [HS.out] at hSz
  refine hSz.mono ?_
  rintro e w3 ⟨rfl, k3⟩
  have K4 := Lib.hid (K3.out.trans k3)
  have z4 := k3.size
  have BF4 := BF3.keep k3 (by simp)
  have BR4 := BR3.keep k3 (by simp)
  have bo4 : Blk w3 ob 36 (body0 pad) := bo.keep k3 (by simp)
  have rr4 := Lib.hid (rr.keeps k3 (by omega) (by simp))
  have l6 : w.heap.size < w3.heap.size := by omega
  have l7 : w.heap.size + 1 < w3.heap.size := by omega
  have l8 : ob < w3.heap.size := by omega
  clear hSz BF3 BR3 bo rr l3 l4 l5 k3 z4 d0 d1 d2 d3 K3
  have d0 := BF4.cell 0
  have d1 := BF4.cell 1
  have d2 := BF4.cell 2
  have d3 := BF4.cell 3
  simp at d0 d1 d2 d3
  have hlr : r.length = 4 := by have := HS.out; simpa [sizeF] using this
  have hNum := number_ w3 (c := c2) rr4.out (by omega)
  have hlt := numB_lt4 r hlr
  obtain ⟨N, hN⟩ : ∃ N, N = numB r := ⟨_, rfl⟩
  have HA := Lib.hid (i64_and31 N (by omega))
  rw [← hN] at hlt hNum
  have HN := Lib.hid hNum
  have HNN := Lib.hid hN
  clear hlr hlt
  clear hNum hN
  go_wp2_with (fail)
  refine HN.out.mono ?_
  rintro e w4 ⟨rfl, rfl⟩
  have bo5 := bo4
  have BR5 := BR4
  have ne : ob ≠ w.heap.size + 1 := by omega
  have ne2 : w.heap.size + 1 ≠ ob := by omega
  have TE := Lib.hid bo5
  have TR := Lib.hid BR5
  have e0 := bo5.cell 0
  have e1 := bo5.cell 1
  have e2 := bo5.cell 2
  have e3 := bo5.cell 3
  have e4 := bo5.cell 4
  have e5 := bo5.cell 5
  have e6 := bo5.cell 6
  have e7 := bo5.cell 7
  have e8 := bo5.cell 8
  have e9 := bo5.cell 9
  have e10 := bo5.cell 10
  simp [body0] at e0 e1 e2 e3 e4 e5 e6 e7 e8 e9 e10
  have og8 := bo5.frozen 8
  have q0 := BR5.cell 0
  have g0 := BR5.frozen 0
  have q1 := BR5.cell 1
  have g1 := BR5.frozen 1
  have q2 := BR5.cell 2
  have g2 := BR5.frozen 2
  have q3 := BR5.cell 3
  have g3 := BR5.frozen 3
  have q4 := BR5.cell 4
  have g4 := BR5.frozen 4
  have q5 := BR5.cell 5
  have g5 := BR5.frozen 5
  have q6 := BR5.cell 6
  have g6 := BR5.frozen 6
  have q7 := BR5.cell 7
  have g7 := BR5.frozen 7
  have q8 := BR5.cell 8
  have g8 := BR5.frozen 8
  have q9 := BR5.cell 9
  have g9 := BR5.frozen 9
  have q10 := BR5.cell 10
  have g10 := BR5.frozen 10
  simp [body0] at q0 q1 q2 q3 q4 q5 q6 q7 q8 q9 q10
  have ha := HA.out
  clear HN d0 d1 d2 d3 bo4 BR4
  clear bo5 BR5
  go_wp2_with (fail)
  have FB := ((((((((((((TR.out.far (p := ⟨ob, 8, none⟩) ne2 (.int .i64 ((N : Int) % 2147483648))).set_ 0 (.slice none 0 0)).set_ 1 (.int .i64 pad)).set_ 2 (.bool false)).set_ 3 (.bool false)).set_ 4 (.int .i64 0)).set_ 5 (.int .i64 0)).set_ 6 (.int .i64 0)).set_ 7 (.int .i64 0)).set_ 8 (.int .i64 ((N : Int) % 2147483648))).set_ 9 (.slice none 0 0)).set_ 10 (.int .i64 0))
  simp only [body0, List.setIfInBounds_toArray, List.set_cons_zero, List.set_cons_succ] at FB
  have KL := (((((((((((((Keep.refl [ob, w.heap.size + 1] w3).setCell (p := ⟨ob, 8, none⟩) (.inl (by simp)) (.int .i64 ((N : Int) % 2147483648))).setCell (p := ⟨w.heap.size + 1, 0, none⟩) (.inl (by simp)) (.slice none 0 0)).setCell (p := ⟨w.heap.size + 1, 1, none⟩) (.inl (by simp)) (.int .i64 pad)).setCell (p := ⟨w.heap.size + 1, 2, none⟩) (.inl (by simp)) (.bool false)).setCell (p := ⟨w.heap.size + 1, 3, none⟩) (.inl (by simp)) (.bool false)).setCell (p := ⟨w.heap.size + 1, 4, none⟩) (.inl (by simp)) (.int .i64 0)).setCell (p := ⟨w.heap.size + 1, 5, none⟩) (.inl (by simp)) (.int .i64 0)).setCell (p := ⟨w.heap.size + 1, 6, none⟩) (.inl (by simp)) (.int .i64 0)).setCell (p := ⟨w.heap.size + 1, 7, none⟩) (.inl (by simp)) (.int .i64 0)).setCell (p := ⟨w.heap.size + 1, 8, none⟩) (.inl (by simp)) (.int .i64 ((N : Int) % 2147483648))).setCell (p := ⟨w.heap.size + 1, 9, none⟩) (.inl (by simp)) (.slice none 0 0)).setCell (p := ⟨w.heap.size + 1, 10, none⟩) (.inl (by simp)) (.int .i64 0))
  have KF := K4.out.step KL (by simp; omega)
  refine bodyPost_ret (results_ct rfl _ _ (w.heap.size + 1) 36 #[.slice none 0 0, .int .i64 pad, .bool false, .bool false, .int .i64 0, .int .i64 0, .int .i64 0, .int .i64 0, .int .i64 ((N : Int) % 2147483648), .slice none 0 0, .int .i64 0] (0, 0) _ rfl FB Try.underlying36 rfl (by kernel_rfl)) rfl ?_
  rw [← HNN.out]
  exact ⟨by simp, KF⟩
set_option maxHeartbeats 2000000 in
theorem read_0 (hr : Reads w w.heap.size 1 A n (encB bs)) (hc : n ≤ c) (hc2 : c ≤ 9223372036854775807) (hc3 : n ≤ 140737488355328) (hrl : r.length ≤ 140737488355328) (h1 : ¬ s = 0) (hb : bareF 0 f bs = .ok pad r) (hs : sizeF 0 f r.length = true) :
    Calls Try.prog 15 #[.agg #[.int .i64 (0 : Nat), .int .i64 f.toNat, .int .i64 s, .slice A n c]] w fun e w' =>
      ∃ v, e = .returned (.tuple #[.agg #[v, .int .i64 pad, .bool false, .bool false, .int .i64 0, .int .i64 0, .int .i64 0, .int .i64 0, .int .i64 0, .slice none 0 0, .int .i64 0], .int .i64 0]) ∧ Row1 w' w.heap.size 5 v (encB r) ∧ Keep [] w w' := by
  have HB := Lib.hid hb
  have HS := Lib.hid hs
  clear hb hs
  have Hr := Lib.hid hr
  clear hr
  have hpl : placeF 0 = 1 := rfl
  go_enter Try.func15, Try.ntmps15
  go_wp2_with (fail)
  refine (place_ _ 0).mono ?_
  rintro e w1 ⟨rfl, k1⟩
  rw [hpl]
  have BF := ((Blk.new w 24 #[.int .i64 (0 : Nat), .int .i64 f.toNat, .int .i64 s, .slice A n c]).alloc (.cells (body0 0) 36)).keep k1 (by simp)
  have BR := (Blk.new (w.alloc (.cells #[.int .i64 (0 : Nat), .int .i64 f.toNat, .int .i64 s, .slice A n c] 24)) 36 (body0 0)).keep k1 (by simp)
  have K1 := Lib.hid ((((Keep.refl [] w).alloc _).alloc _).trans k1)
  have sz1 := k1.size
  simp at BR sz1
  have l1 : w.heap.size < w1.heap.size := by omega
  have l2 : w.heap.size + 1 < w1.heap.size := by omega
  clear k1 sz1
  have d0 := BF.cell 0
  have d1 := BF.cell 1
  have d2 := BF.cell 2
  have d3 := BF.cell 3
  simp at d0 d1 d2 d3
  go_wp2_with (fail)
  obtain ⟨W2, hW2⟩ : ∃ W2, W2 = w1.alloc (.cells (body0 0) 36) := ⟨_, rfl⟩
  have K2 : Keep [] w1 W2 := by rw [hW2]; exact (Keep.refl _ _).alloc _
  have BO : Blk W2 w1.heap.size 36 (body0 0) := by rw [hW2]; exact Blk.new _ _ _
  have z2 : W2.heap.size = w1.heap.size + 1 := by rw [hW2]; simp
  have hBc := bare_ W2 0 f s A n c w1.heap.size BO rfl rfl ((Hr.out.keeps (K1.out.trans K2) (Nat.le_refl _) (by simp)).more (by omega)) hc hc2
  rw [HB.out] at hBc
  show Calls Try.prog 26 _ (w1.alloc (.cells (body0 0) 36)) _
  rw [← hW2]
  refine hBc.mono ?_
  rintro e w2 ⟨A2, c2, rfl, rr, hcr, hcr2, bo, k2⟩
  have K3 := Lib.hid ((K1.out.trans K2).step k2 (by simp; omega))
  have z3 := k2.size
  have BF3 := (BF.keep K2 (by simp)).keep k2 (by simp; omega)
  have BR3 := (BR.keep K2 (by simp)).keep k2 (by simp; omega)
  obtain ⟨ob, hob⟩ : ∃ ob, ob = w1.heap.size := ⟨_, rfl⟩
  rw [← hob] at l1 l2 bo rr z2 ⊢
  have l3 : w.heap.size < w2.heap.size := by omega
  have l4 : w.heap.size + 1 < w2.heap.size := by omega
  have l5 : ob < w2.heap.size := by omega
  clear hBc hW2 BO K2 k2 z2 z3 BF BR hob K1 d0 d1 d2 d3 HB
  have d0 := BF3.cell 0
  have d1 := BF3.cell 1
  have d2 := BF3.cell 2
  have d3 := BF3.cell 3
  simp at d0 d1 d2 d3
  go_wp2_with (fail)
  have hSz := sized_ w2 0 f s (Hr.out.keeps K3.out (Nat.le_refl _) (by simp) |>.more K3.out.size) hc hc2 r.length
  rw [HS.out] at hSz
  refine hSz.mono ?_
  rintro e w3 ⟨rfl, k3⟩
  have K4 := Lib.hid (K3.out.trans k3)
  have z4 := k3.size
  have BF4 := BF3.keep k3 (by simp)
  have BR4 := BR3.keep k3 (by simp)
  have bo4 : Blk w3 ob 36 (body0 pad) := bo.keep k3 (by simp)
  have rr4 := Lib.hid (rr.keeps k3 (by omega) (by simp))
  have l6 : w.heap.size < w3.heap.size := by omega
  have l7 : w.heap.size + 1 < w3.heap.size := by omega
  have l8 : ob < w3.heap.size := by omega
  clear hSz BF3 BR3 bo rr l3 l4 l5 k3 z4 d0 d1 d2 d3 K3
  have d0 := BF4.cell 0
  have d1 := BF4.cell 1
  have d2 := BF4.cell 2
  have d3 := BF4.cell 3
  simp at d0 d1 d2 d3
  go_wp2_with (fail)
  have hCl := clone w3 (c := c2) rr4.out (by omega) hrl
  refine hCl.mono ?_
  rintro e w4 ⟨v4, rfl, r4, k4⟩
  have K5 := Lib.hid (K4.out.trans k4)
  have bo5 := bo4.keep k4 (by simp)
  have BR5 := BR4.keep k4 (by simp)
  have z5 := k4.size
  have HRow := Lib.hid r4
  obtain ⟨A4, m4, cap4, hv4⟩ : ∃ A4 m4 cap4, v4 = .slice A4 m4 cap4 := by
    obtain ⟨A4, cap4, e, _⟩ := r4.reads
    exact ⟨A4, _, cap4, e⟩
  subst hv4
  clear hCl r4 k4
  have ne : ob ≠ w.heap.size + 1 := by omega
  have ne2 : w.heap.size + 1 ≠ ob := by omega
  have TE := Lib.hid bo5
  have TR := Lib.hid BR5
  have e0 := bo5.cell 0
  have e1 := bo5.cell 1
  have e2 := bo5.cell 2
  have e3 := bo5.cell 3
  have e4 := bo5.cell 4
  have e5 := bo5.cell 5
  have e6 := bo5.cell 6
  have e7 := bo5.cell 7
  have e8 := bo5.cell 8
  have e9 := bo5.cell 9
  have e10 := bo5.cell 10
  simp [body0] at e0 e1 e2 e3 e4 e5 e6 e7 e8 e9 e10
  have og0 := bo5.frozen 0
  have q0 := BR5.cell 0
  have g0 := BR5.frozen 0
  have q1 := BR5.cell 1
  have g1 := BR5.frozen 1
  have q2 := BR5.cell 2
  have g2 := BR5.frozen 2
  have q3 := BR5.cell 3
  have g3 := BR5.frozen 3
  have q4 := BR5.cell 4
  have g4 := BR5.frozen 4
  have q5 := BR5.cell 5
  have g5 := BR5.frozen 5
  have q6 := BR5.cell 6
  have g6 := BR5.frozen 6
  have q7 := BR5.cell 7
  have g7 := BR5.frozen 7
  have q8 := BR5.cell 8
  have g8 := BR5.frozen 8
  have q9 := BR5.cell 9
  have g9 := BR5.frozen 9
  have q10 := BR5.cell 10
  have g10 := BR5.frozen 10
  simp [body0] at q0 q1 q2 q3 q4 q5 q6 q7 q8 q9 q10
  clear d0 d1 d2 d3 bo4 BR4
  clear bo5 BR5
  go_wp2_with (fail)
  have FB := ((((((((((((TR.out.far (p := ⟨ob, 0, none⟩) ne2 (.slice A4 m4 cap4)).set_ 0 (.slice A4 m4 cap4)).set_ 1 (.int .i64 pad)).set_ 2 (.bool false)).set_ 3 (.bool false)).set_ 4 (.int .i64 0)).set_ 5 (.int .i64 0)).set_ 6 (.int .i64 0)).set_ 7 (.int .i64 0)).set_ 8 (.int .i64 0)).set_ 9 (.slice none 0 0)).set_ 10 (.int .i64 0))
  simp only [body0, List.setIfInBounds_toArray, List.set_cons_zero, List.set_cons_succ] at FB
  have KL := (((((((((((((Keep.refl [ob, w.heap.size + 1] w4).setCell (p := ⟨ob, 0, none⟩) (.inl (by simp)) (.slice A4 m4 cap4)).setCell (p := ⟨w.heap.size + 1, 0, none⟩) (.inl (by simp)) (.slice A4 m4 cap4)).setCell (p := ⟨w.heap.size + 1, 1, none⟩) (.inl (by simp)) (.int .i64 pad)).setCell (p := ⟨w.heap.size + 1, 2, none⟩) (.inl (by simp)) (.bool false)).setCell (p := ⟨w.heap.size + 1, 3, none⟩) (.inl (by simp)) (.bool false)).setCell (p := ⟨w.heap.size + 1, 4, none⟩) (.inl (by simp)) (.int .i64 0)).setCell (p := ⟨w.heap.size + 1, 5, none⟩) (.inl (by simp)) (.int .i64 0)).setCell (p := ⟨w.heap.size + 1, 6, none⟩) (.inl (by simp)) (.int .i64 0)).setCell (p := ⟨w.heap.size + 1, 7, none⟩) (.inl (by simp)) (.int .i64 0)).setCell (p := ⟨w.heap.size + 1, 8, none⟩) (.inl (by simp)) (.int .i64 0)).setCell (p := ⟨w.heap.size + 1, 9, none⟩) (.inl (by simp)) (.slice none 0 0)).setCell (p := ⟨w.heap.size + 1, 10, none⟩) (.inl (by simp)) (.int .i64 0))
  have KF := K5.out.step KL (by simp; omega)
  refine bodyPost_ret (results_ct rfl _ _ (w.heap.size + 1) 36 #[.slice A4 m4 cap4, .int .i64 pad, .bool false, .bool false, .int .i64 0, .int .i64 0, .int .i64 0, .int .i64 0, .int .i64 0, .slice none 0 0, .int .i64 0] (0, 0) _ rfl FB Try.underlying36 rfl (by kernel_rfl)) rfl ?_
  exact ⟨_, rfl, (HRow.out.keep KL (fun g hg => by have := HRow.out.lt g hg; simp; omega)).lower (by omega), KF⟩
set_option maxHeartbeats 2000000 in
theorem read_6 (hr : Reads w w.heap.size 1 A n (encB bs)) (hc : n ≤ c) (hc2 : c ≤ 9223372036854775807) (hc3 : n ≤ 140737488355328) (hrl : r.length ≤ 140737488355328) (hb : bareF 6 f bs = .ok pad r) (hs : sizeF 6 f r.length = true) :
    Calls Try.prog 15 #[.agg #[.int .i64 (6 : Nat), .int .i64 f.toNat, .int .i64 0, .slice A n c]] w fun e w' =>
      ∃ v, e = .returned (.tuple #[.agg #[v, .int .i64 pad, .bool false, .bool false, .int .i64 0, .int .i64 0, .int .i64 0, .int .i64 0, .int .i64 0, .slice none 0 0, .int .i64 0], .int .i64 0]) ∧ Row1 w' w.heap.size 5 v (encB r) ∧ Keep [] w w' := by
  have HB := Lib.hid hb
  have HS := Lib.hid hs
  clear hb hs
  have Hr := Lib.hid hr
  clear hr
  have hpl : placeF 6 = 0 := rfl
  go_enter Try.func15, Try.ntmps15
  go_wp2_with (fail)
  refine (place_ _ 6).mono ?_
  rintro e w1 ⟨rfl, k1⟩
  rw [hpl]
  have BF := ((Blk.new w 24 #[.int .i64 (6 : Nat), .int .i64 f.toNat, .int .i64 0, .slice A n c]).alloc (.cells (body0 0) 36)).keep k1 (by simp)
  have BR := (Blk.new (w.alloc (.cells #[.int .i64 (6 : Nat), .int .i64 f.toNat, .int .i64 0, .slice A n c] 24)) 36 (body0 0)).keep k1 (by simp)
  have K1 := Lib.hid ((((Keep.refl [] w).alloc _).alloc _).trans k1)
  have sz1 := k1.size
  simp at BR sz1
  have l1 : w.heap.size < w1.heap.size := by omega
  have l2 : w.heap.size + 1 < w1.heap.size := by omega
  clear k1 sz1
  have d0 := BF.cell 0
  have d1 := BF.cell 1
  have d2 := BF.cell 2
  have d3 := BF.cell 3
  simp at d0 d1 d2 d3
  go_wp2_with (fail)
  obtain ⟨W2, hW2⟩ : ∃ W2, W2 = w1.alloc (.cells (body0 0) 36) := ⟨_, rfl⟩
  have K2 : Keep [] w1 W2 := by rw [hW2]; exact (Keep.refl _ _).alloc _
  have BO : Blk W2 w1.heap.size 36 (body0 0) := by rw [hW2]; exact Blk.new _ _ _
  have z2 : W2.heap.size = w1.heap.size + 1 := by rw [hW2]; simp
  have hBc := bare_ W2 6 f 0 A n c w1.heap.size BO rfl rfl ((Hr.out.keeps (K1.out.trans K2) (Nat.le_refl _) (by simp)).more (by omega)) hc hc2
  rw [HB.out] at hBc
  show Calls Try.prog 26 _ (w1.alloc (.cells (body0 0) 36)) _
  rw [← hW2]
  refine hBc.mono ?_
  rintro e w2 ⟨A2, c2, rfl, rr, hcr, hcr2, bo, k2⟩
  have K3 := Lib.hid ((K1.out.trans K2).step k2 (by simp; omega))
  have z3 := k2.size
  have BF3 := (BF.keep K2 (by simp)).keep k2 (by simp; omega)
  have BR3 := (BR.keep K2 (by simp)).keep k2 (by simp; omega)
  obtain ⟨ob, hob⟩ : ∃ ob, ob = w1.heap.size := ⟨_, rfl⟩
  rw [← hob] at l1 l2 bo rr z2 ⊢
  have l3 : w.heap.size < w2.heap.size := by omega
  have l4 : w.heap.size + 1 < w2.heap.size := by omega
  have l5 : ob < w2.heap.size := by omega
  clear hBc hW2 BO K2 k2 z2 z3 BF BR hob K1 d0 d1 d2 d3 HB
  have d0 := BF3.cell 0
  have d1 := BF3.cell 1
  have d2 := BF3.cell 2
  have d3 := BF3.cell 3
  simp at d0 d1 d2 d3
  go_wp2_with (fail)
  have hSz := sized_ w2 6 f 0 (Hr.out.keeps K3.out (Nat.le_refl _) (by simp) |>.more K3.out.size) hc hc2 r.length
  rw [HS.out] at hSz
  refine hSz.mono ?_
  rintro e w3 ⟨rfl, k3⟩
  have K4 := Lib.hid (K3.out.trans k3)
  have z4 := k3.size
  have BF4 := BF3.keep k3 (by simp)
  have BR4 := BR3.keep k3 (by simp)
  have bo4 : Blk w3 ob 36 (body0 pad) := bo.keep k3 (by simp)
  have rr4 := Lib.hid (rr.keeps k3 (by omega) (by simp))
  have l6 : w.heap.size < w3.heap.size := by omega
  have l7 : w.heap.size + 1 < w3.heap.size := by omega
  have l8 : ob < w3.heap.size := by omega
  clear hSz BF3 BR3 bo rr l3 l4 l5 k3 z4 d0 d1 d2 d3 K3
  have d0 := BF4.cell 0
  have d1 := BF4.cell 1
  have d2 := BF4.cell 2
  have d3 := BF4.cell 3
  simp at d0 d1 d2 d3
  go_wp2_with (fail)
  have hCl := clone w3 (c := c2) rr4.out (by omega) hrl
  refine hCl.mono ?_
  rintro e w4 ⟨v4, rfl, r4, k4⟩
  have K5 := Lib.hid (K4.out.trans k4)
  have bo5 := bo4.keep k4 (by simp)
  have BR5 := BR4.keep k4 (by simp)
  have z5 := k4.size
  have HRow := Lib.hid r4
  obtain ⟨A4, m4, cap4, hv4⟩ : ∃ A4 m4 cap4, v4 = .slice A4 m4 cap4 := by
    obtain ⟨A4, cap4, e, _⟩ := r4.reads
    exact ⟨A4, _, cap4, e⟩
  subst hv4
  clear hCl r4 k4
  have ne : ob ≠ w.heap.size + 1 := by omega
  have ne2 : w.heap.size + 1 ≠ ob := by omega
  have TE := Lib.hid bo5
  have TR := Lib.hid BR5
  have e0 := bo5.cell 0
  have e1 := bo5.cell 1
  have e2 := bo5.cell 2
  have e3 := bo5.cell 3
  have e4 := bo5.cell 4
  have e5 := bo5.cell 5
  have e6 := bo5.cell 6
  have e7 := bo5.cell 7
  have e8 := bo5.cell 8
  have e9 := bo5.cell 9
  have e10 := bo5.cell 10
  simp [body0] at e0 e1 e2 e3 e4 e5 e6 e7 e8 e9 e10
  have og0 := bo5.frozen 0
  have q0 := BR5.cell 0
  have g0 := BR5.frozen 0
  have q1 := BR5.cell 1
  have g1 := BR5.frozen 1
  have q2 := BR5.cell 2
  have g2 := BR5.frozen 2
  have q3 := BR5.cell 3
  have g3 := BR5.frozen 3
  have q4 := BR5.cell 4
  have g4 := BR5.frozen 4
  have q5 := BR5.cell 5
  have g5 := BR5.frozen 5
  have q6 := BR5.cell 6
  have g6 := BR5.frozen 6
  have q7 := BR5.cell 7
  have g7 := BR5.frozen 7
  have q8 := BR5.cell 8
  have g8 := BR5.frozen 8
  have q9 := BR5.cell 9
  have g9 := BR5.frozen 9
  have q10 := BR5.cell 10
  have g10 := BR5.frozen 10
  simp [body0] at q0 q1 q2 q3 q4 q5 q6 q7 q8 q9 q10
  clear d0 d1 d2 d3 bo4 BR4
  clear bo5 BR5
  go_wp2_with (fail)
  have FB := ((((((((((((TR.out.far (p := ⟨ob, 0, none⟩) ne2 (.slice A4 m4 cap4)).set_ 0 (.slice A4 m4 cap4)).set_ 1 (.int .i64 pad)).set_ 2 (.bool false)).set_ 3 (.bool false)).set_ 4 (.int .i64 0)).set_ 5 (.int .i64 0)).set_ 6 (.int .i64 0)).set_ 7 (.int .i64 0)).set_ 8 (.int .i64 0)).set_ 9 (.slice none 0 0)).set_ 10 (.int .i64 0))
  simp only [body0, List.setIfInBounds_toArray, List.set_cons_zero, List.set_cons_succ] at FB
  have KL := (((((((((((((Keep.refl [ob, w.heap.size + 1] w4).setCell (p := ⟨ob, 0, none⟩) (.inl (by simp)) (.slice A4 m4 cap4)).setCell (p := ⟨w.heap.size + 1, 0, none⟩) (.inl (by simp)) (.slice A4 m4 cap4)).setCell (p := ⟨w.heap.size + 1, 1, none⟩) (.inl (by simp)) (.int .i64 pad)).setCell (p := ⟨w.heap.size + 1, 2, none⟩) (.inl (by simp)) (.bool false)).setCell (p := ⟨w.heap.size + 1, 3, none⟩) (.inl (by simp)) (.bool false)).setCell (p := ⟨w.heap.size + 1, 4, none⟩) (.inl (by simp)) (.int .i64 0)).setCell (p := ⟨w.heap.size + 1, 5, none⟩) (.inl (by simp)) (.int .i64 0)).setCell (p := ⟨w.heap.size + 1, 6, none⟩) (.inl (by simp)) (.int .i64 0)).setCell (p := ⟨w.heap.size + 1, 7, none⟩) (.inl (by simp)) (.int .i64 0)).setCell (p := ⟨w.heap.size + 1, 8, none⟩) (.inl (by simp)) (.int .i64 0)).setCell (p := ⟨w.heap.size + 1, 9, none⟩) (.inl (by simp)) (.slice none 0 0)).setCell (p := ⟨w.heap.size + 1, 10, none⟩) (.inl (by simp)) (.int .i64 0))
  have KF := K5.out.step KL (by simp; omega)
  refine bodyPost_ret (results_ct rfl _ _ (w.heap.size + 1) 36 #[.slice A4 m4 cap4, .int .i64 pad, .bool false, .bool false, .int .i64 0, .int .i64 0, .int .i64 0, .int .i64 0, .int .i64 0, .slice none 0 0, .int .i64 0] (0, 0) _ rfl FB Try.underlying36 rfl (by kernel_rfl)) rfl ?_
  exact ⟨_, rfl, (HRow.out.keep KL (fun g hg => by have := HRow.out.lt g hg; simp; omega)).lower (by omega), KF⟩
set_option maxHeartbeats 2000000 in
theorem read_9 (hr : Reads w w.heap.size 1 A n (encB bs)) (hc : n ≤ c) (hc2 : c ≤ 9223372036854775807) (hc3 : n ≤ 140737488355328) (hrl : r.length ≤ 140737488355328) (h1 : ¬ s = 0) (hb : bareF 9 f bs = .ok pad r) (hs : sizeF 9 f r.length = true) :
    Calls Try.prog 15 #[.agg #[.int .i64 (9 : Nat), .int .i64 f.toNat, .int .i64 s, .slice A n c]] w fun e w' =>
      ∃ v, e = .returned (.tuple #[.agg #[v, .int .i64 pad, .bool false, .bool false, .int .i64 0, .int .i64 0, .int .i64 0, .int .i64 0, .int .i64 0, .slice none 0 0, .int .i64 0], .int .i64 0]) ∧ Row1 w' w.heap.size 5 v (encB r) ∧ Keep [] w w' := by
  have HB := Lib.hid hb
  have HS := Lib.hid hs
  clear hb hs
  have Hr := Lib.hid hr
  clear hr
  have hpl : placeF 9 = 1 := rfl
  go_enter Try.func15, Try.ntmps15
  go_wp2_with (fail)
  refine (place_ _ 9).mono ?_
  rintro e w1 ⟨rfl, k1⟩
  rw [hpl]
  have BF := ((Blk.new w 24 #[.int .i64 (9 : Nat), .int .i64 f.toNat, .int .i64 s, .slice A n c]).alloc (.cells (body0 0) 36)).keep k1 (by simp)
  have BR := (Blk.new (w.alloc (.cells #[.int .i64 (9 : Nat), .int .i64 f.toNat, .int .i64 s, .slice A n c] 24)) 36 (body0 0)).keep k1 (by simp)
  have K1 := Lib.hid ((((Keep.refl [] w).alloc _).alloc _).trans k1)
  have sz1 := k1.size
  simp at BR sz1
  have l1 : w.heap.size < w1.heap.size := by omega
  have l2 : w.heap.size + 1 < w1.heap.size := by omega
  clear k1 sz1
  have d0 := BF.cell 0
  have d1 := BF.cell 1
  have d2 := BF.cell 2
  have d3 := BF.cell 3
  simp at d0 d1 d2 d3
  go_wp2_with (fail)
  obtain ⟨W2, hW2⟩ : ∃ W2, W2 = w1.alloc (.cells (body0 0) 36) := ⟨_, rfl⟩
  have K2 : Keep [] w1 W2 := by rw [hW2]; exact (Keep.refl _ _).alloc _
  have BO : Blk W2 w1.heap.size 36 (body0 0) := by rw [hW2]; exact Blk.new _ _ _
  have z2 : W2.heap.size = w1.heap.size + 1 := by rw [hW2]; simp
  have hBc := bare_ W2 9 f s A n c w1.heap.size BO rfl rfl ((Hr.out.keeps (K1.out.trans K2) (Nat.le_refl _) (by simp)).more (by omega)) hc hc2
  rw [HB.out] at hBc
  show Calls Try.prog 26 _ (w1.alloc (.cells (body0 0) 36)) _
  rw [← hW2]
  refine hBc.mono ?_
  rintro e w2 ⟨A2, c2, rfl, rr, hcr, hcr2, bo, k2⟩
  have K3 := Lib.hid ((K1.out.trans K2).step k2 (by simp; omega))
  have z3 := k2.size
  have BF3 := (BF.keep K2 (by simp)).keep k2 (by simp; omega)
  have BR3 := (BR.keep K2 (by simp)).keep k2 (by simp; omega)
  obtain ⟨ob, hob⟩ : ∃ ob, ob = w1.heap.size := ⟨_, rfl⟩
  rw [← hob] at l1 l2 bo rr z2 ⊢
  have l3 : w.heap.size < w2.heap.size := by omega
  have l4 : w.heap.size + 1 < w2.heap.size := by omega
  have l5 : ob < w2.heap.size := by omega
  clear hBc hW2 BO K2 k2 z2 z3 BF BR hob K1 d0 d1 d2 d3 HB
  have d0 := BF3.cell 0
  have d1 := BF3.cell 1
  have d2 := BF3.cell 2
  have d3 := BF3.cell 3
  simp at d0 d1 d2 d3
  go_wp2_with (fail)
  have hSz := sized_ w2 9 f s (Hr.out.keeps K3.out (Nat.le_refl _) (by simp) |>.more K3.out.size) hc hc2 r.length
  rw [HS.out] at hSz
  refine hSz.mono ?_
  rintro e w3 ⟨rfl, k3⟩
  have K4 := Lib.hid (K3.out.trans k3)
  have z4 := k3.size
  have BF4 := BF3.keep k3 (by simp)
  have BR4 := BR3.keep k3 (by simp)
  have bo4 : Blk w3 ob 36 (body0 pad) := bo.keep k3 (by simp)
  have rr4 := Lib.hid (rr.keeps k3 (by omega) (by simp))
  have l6 : w.heap.size < w3.heap.size := by omega
  have l7 : w.heap.size + 1 < w3.heap.size := by omega
  have l8 : ob < w3.heap.size := by omega
  clear hSz BF3 BR3 bo rr l3 l4 l5 k3 z4 d0 d1 d2 d3 K3
  have d0 := BF4.cell 0
  have d1 := BF4.cell 1
  have d2 := BF4.cell 2
  have d3 := BF4.cell 3
  simp at d0 d1 d2 d3
  go_wp2_with (fail)
  have hCl := clone w3 (c := c2) rr4.out (by omega) hrl
  refine hCl.mono ?_
  rintro e w4 ⟨v4, rfl, r4, k4⟩
  have K5 := Lib.hid (K4.out.trans k4)
  have bo5 := bo4.keep k4 (by simp)
  have BR5 := BR4.keep k4 (by simp)
  have z5 := k4.size
  have HRow := Lib.hid r4
  obtain ⟨A4, m4, cap4, hv4⟩ : ∃ A4 m4 cap4, v4 = .slice A4 m4 cap4 := by
    obtain ⟨A4, cap4, e, _⟩ := r4.reads
    exact ⟨A4, _, cap4, e⟩
  subst hv4
  clear hCl r4 k4
  have ne : ob ≠ w.heap.size + 1 := by omega
  have ne2 : w.heap.size + 1 ≠ ob := by omega
  have TE := Lib.hid bo5
  have TR := Lib.hid BR5
  have e0 := bo5.cell 0
  have e1 := bo5.cell 1
  have e2 := bo5.cell 2
  have e3 := bo5.cell 3
  have e4 := bo5.cell 4
  have e5 := bo5.cell 5
  have e6 := bo5.cell 6
  have e7 := bo5.cell 7
  have e8 := bo5.cell 8
  have e9 := bo5.cell 9
  have e10 := bo5.cell 10
  simp [body0] at e0 e1 e2 e3 e4 e5 e6 e7 e8 e9 e10
  have og0 := bo5.frozen 0
  have q0 := BR5.cell 0
  have g0 := BR5.frozen 0
  have q1 := BR5.cell 1
  have g1 := BR5.frozen 1
  have q2 := BR5.cell 2
  have g2 := BR5.frozen 2
  have q3 := BR5.cell 3
  have g3 := BR5.frozen 3
  have q4 := BR5.cell 4
  have g4 := BR5.frozen 4
  have q5 := BR5.cell 5
  have g5 := BR5.frozen 5
  have q6 := BR5.cell 6
  have g6 := BR5.frozen 6
  have q7 := BR5.cell 7
  have g7 := BR5.frozen 7
  have q8 := BR5.cell 8
  have g8 := BR5.frozen 8
  have q9 := BR5.cell 9
  have g9 := BR5.frozen 9
  have q10 := BR5.cell 10
  have g10 := BR5.frozen 10
  simp [body0] at q0 q1 q2 q3 q4 q5 q6 q7 q8 q9 q10
  clear d0 d1 d2 d3 bo4 BR4
  clear bo5 BR5
  go_wp2_with (fail)
  have FB := ((((((((((((TR.out.far (p := ⟨ob, 0, none⟩) ne2 (.slice A4 m4 cap4)).set_ 0 (.slice A4 m4 cap4)).set_ 1 (.int .i64 pad)).set_ 2 (.bool false)).set_ 3 (.bool false)).set_ 4 (.int .i64 0)).set_ 5 (.int .i64 0)).set_ 6 (.int .i64 0)).set_ 7 (.int .i64 0)).set_ 8 (.int .i64 0)).set_ 9 (.slice none 0 0)).set_ 10 (.int .i64 0))
  simp only [body0, List.setIfInBounds_toArray, List.set_cons_zero, List.set_cons_succ] at FB
  have KL := (((((((((((((Keep.refl [ob, w.heap.size + 1] w4).setCell (p := ⟨ob, 0, none⟩) (.inl (by simp)) (.slice A4 m4 cap4)).setCell (p := ⟨w.heap.size + 1, 0, none⟩) (.inl (by simp)) (.slice A4 m4 cap4)).setCell (p := ⟨w.heap.size + 1, 1, none⟩) (.inl (by simp)) (.int .i64 pad)).setCell (p := ⟨w.heap.size + 1, 2, none⟩) (.inl (by simp)) (.bool false)).setCell (p := ⟨w.heap.size + 1, 3, none⟩) (.inl (by simp)) (.bool false)).setCell (p := ⟨w.heap.size + 1, 4, none⟩) (.inl (by simp)) (.int .i64 0)).setCell (p := ⟨w.heap.size + 1, 5, none⟩) (.inl (by simp)) (.int .i64 0)).setCell (p := ⟨w.heap.size + 1, 6, none⟩) (.inl (by simp)) (.int .i64 0)).setCell (p := ⟨w.heap.size + 1, 7, none⟩) (.inl (by simp)) (.int .i64 0)).setCell (p := ⟨w.heap.size + 1, 8, none⟩) (.inl (by simp)) (.int .i64 0)).setCell (p := ⟨w.heap.size + 1, 9, none⟩) (.inl (by simp)) (.slice none 0 0)).setCell (p := ⟨w.heap.size + 1, 10, none⟩) (.inl (by simp)) (.int .i64 0))
  have KF := K5.out.step KL (by simp; omega)
  refine bodyPost_ret (results_ct rfl _ _ (w.heap.size + 1) 36 #[.slice A4 m4 cap4, .int .i64 pad, .bool false, .bool false, .int .i64 0, .int .i64 0, .int .i64 0, .int .i64 0, .int .i64 0, .slice none 0 0, .int .i64 0] (0, 0) _ rfl FB Try.underlying36 rfl (by kernel_rfl)) rfl ?_
  exact ⟨_, rfl, (HRow.out.keep KL (fun g hg => by have := HRow.out.lt g hg; simp; omega)).lower (by omega), KF⟩
set_option maxHeartbeats 2000000 in
theorem read_1n (hr : Reads w w.heap.size 1 A n (encB bs)) (hc : n ≤ c) (hc2 : c ≤ 9223372036854775807) (hc3 : n ≤ 140737488355328) (hrl : r.length ≤ 140737488355328) (h1 : ¬ s = 0) (hf : onF f 32 = false) (hb : bareF 1 f bs = .ok pad r) (hs : sizeF 1 f r.length = true) :
    Calls Try.prog 15 #[.agg #[.int .i64 (1 : Nat), .int .i64 f.toNat, .int .i64 s, .slice A n c]] w fun e w' =>
      ∃ v, e = .returned (.tuple #[.agg #[v, .int .i64 pad, .bool false, .bool false, .int .i64 0, .int .i64 0, .int .i64 0, .int .i64 0, .int .i64 0, .slice none 0 0, .int .i64 0], .int .i64 0]) ∧ Row1 w' w.heap.size 5 v (encB r) ∧ Keep [] w w' := by
  have HB := Lib.hid hb
  have HS := Lib.hid hs
  clear hb hs
  have Hr := Lib.hid hr
  clear hr
  have hpl : placeF 1 = 1 := rfl
  go_enter Try.func15, Try.ntmps15
  go_wp2_with (fail)
  refine (place_ _ 1).mono ?_
  rintro e w1 ⟨rfl, k1⟩
  rw [hpl]
  have BF := ((Blk.new w 24 #[.int .i64 (1 : Nat), .int .i64 f.toNat, .int .i64 s, .slice A n c]).alloc (.cells (body0 0) 36)).keep k1 (by simp)
  have BR := (Blk.new (w.alloc (.cells #[.int .i64 (1 : Nat), .int .i64 f.toNat, .int .i64 s, .slice A n c] 24)) 36 (body0 0)).keep k1 (by simp)
  have K1 := Lib.hid ((((Keep.refl [] w).alloc _).alloc _).trans k1)
  have sz1 := k1.size
  simp at BR sz1
  have l1 : w.heap.size < w1.heap.size := by omega
  have l2 : w.heap.size + 1 < w1.heap.size := by omega
  clear k1 sz1
  have d0 := BF.cell 0
  have d1 := BF.cell 1
  have d2 := BF.cell 2
  have d3 := BF.cell 3
  simp at d0 d1 d2 d3
  go_wp2_with (fail)
  obtain ⟨W2, hW2⟩ : ∃ W2, W2 = w1.alloc (.cells (body0 0) 36) := ⟨_, rfl⟩
  have K2 : Keep [] w1 W2 := by rw [hW2]; exact (Keep.refl _ _).alloc _
  have BO : Blk W2 w1.heap.size 36 (body0 0) := by rw [hW2]; exact Blk.new _ _ _
  have z2 : W2.heap.size = w1.heap.size + 1 := by rw [hW2]; simp
  have hBc := bare_ W2 1 f s A n c w1.heap.size BO rfl rfl ((Hr.out.keeps (K1.out.trans K2) (Nat.le_refl _) (by simp)).more (by omega)) hc hc2
  rw [HB.out] at hBc
  show Calls Try.prog 26 _ (w1.alloc (.cells (body0 0) 36)) _
  rw [← hW2]
  refine hBc.mono ?_
  rintro e w2 ⟨A2, c2, rfl, rr, hcr, hcr2, bo, k2⟩
  have K3 := Lib.hid ((K1.out.trans K2).step k2 (by simp; omega))
  have z3 := k2.size
  have BF3 := (BF.keep K2 (by simp)).keep k2 (by simp; omega)
  have BR3 := (BR.keep K2 (by simp)).keep k2 (by simp; omega)
  obtain ⟨ob, hob⟩ : ∃ ob, ob = w1.heap.size := ⟨_, rfl⟩
  rw [← hob] at l1 l2 bo rr z2 ⊢
  have l3 : w.heap.size < w2.heap.size := by omega
  have l4 : w.heap.size + 1 < w2.heap.size := by omega
  have l5 : ob < w2.heap.size := by omega
  clear hBc hW2 BO K2 k2 z2 z3 BF BR hob K1 d0 d1 d2 d3 HB
  have d0 := BF3.cell 0
  have d1 := BF3.cell 1
  have d2 := BF3.cell 2
  have d3 := BF3.cell 3
  simp at d0 d1 d2 d3
  have h32 : f.toNat / 32 % 2 * 32 = 0 := by
    simp [onF] at hf
    omega
  have h32 : bits .and .i64 (f.toNat : Int) 32 = 0 := by have := and32 f; rw [h32] at this; exact this
  clear hf
  go_wp2_with (fail)
  have hSz := sized_ w2 1 f s (Hr.out.keeps K3.out (Nat.le_refl _) (by simp) |>.more K3.out.size) hc hc2 r.length
  rw [HS.out] at hSz
  refine hSz.mono ?_
  rintro e w3 ⟨rfl, k3⟩
  have K4 := Lib.hid (K3.out.trans k3)
  have z4 := k3.size
  have BF4 := BF3.keep k3 (by simp)
  have BR4 := BR3.keep k3 (by simp)
  have bo4 : Blk w3 ob 36 (body0 pad) := bo.keep k3 (by simp)
  have rr4 := Lib.hid (rr.keeps k3 (by omega) (by simp))
  have l6 : w.heap.size < w3.heap.size := by omega
  have l7 : w.heap.size + 1 < w3.heap.size := by omega
  have l8 : ob < w3.heap.size := by omega
  clear hSz BF3 BR3 bo rr l3 l4 l5 k3 z4 d0 d1 d2 d3 K3
  have d0 := BF4.cell 0
  have d1 := BF4.cell 1
  have d2 := BF4.cell 2
  have d3 := BF4.cell 3
  simp at d0 d1 d2 d3
  go_wp2_with (fail)
  have hCl := clone w3 (c := c2) rr4.out (by omega) hrl
  refine hCl.mono ?_
  rintro e w4 ⟨v4, rfl, r4, k4⟩
  have K5 := Lib.hid (K4.out.trans k4)
  have bo5 := bo4.keep k4 (by simp)
  have BR5 := BR4.keep k4 (by simp)
  have z5 := k4.size
  have HRow := Lib.hid r4
  obtain ⟨A4, m4, cap4, hv4⟩ : ∃ A4 m4 cap4, v4 = .slice A4 m4 cap4 := by
    obtain ⟨A4, cap4, e, _⟩ := r4.reads
    exact ⟨A4, _, cap4, e⟩
  subst hv4
  clear hCl r4 k4
  have ne : ob ≠ w.heap.size + 1 := by omega
  have ne2 : w.heap.size + 1 ≠ ob := by omega
  have TE := Lib.hid bo5
  have TR := Lib.hid BR5
  have e0 := bo5.cell 0
  have e1 := bo5.cell 1
  have e2 := bo5.cell 2
  have e3 := bo5.cell 3
  have e4 := bo5.cell 4
  have e5 := bo5.cell 5
  have e6 := bo5.cell 6
  have e7 := bo5.cell 7
  have e8 := bo5.cell 8
  have e9 := bo5.cell 9
  have e10 := bo5.cell 10
  simp [body0] at e0 e1 e2 e3 e4 e5 e6 e7 e8 e9 e10
  have og0 := bo5.frozen 0
  have q0 := BR5.cell 0
  have g0 := BR5.frozen 0
  have q1 := BR5.cell 1
  have g1 := BR5.frozen 1
  have q2 := BR5.cell 2
  have g2 := BR5.frozen 2
  have q3 := BR5.cell 3
  have g3 := BR5.frozen 3
  have q4 := BR5.cell 4
  have g4 := BR5.frozen 4
  have q5 := BR5.cell 5
  have g5 := BR5.frozen 5
  have q6 := BR5.cell 6
  have g6 := BR5.frozen 6
  have q7 := BR5.cell 7
  have g7 := BR5.frozen 7
  have q8 := BR5.cell 8
  have g8 := BR5.frozen 8
  have q9 := BR5.cell 9
  have g9 := BR5.frozen 9
  have q10 := BR5.cell 10
  have g10 := BR5.frozen 10
  simp [body0] at q0 q1 q2 q3 q4 q5 q6 q7 q8 q9 q10
  clear d0 d1 d2 d3 bo4 BR4
  clear bo5 BR5
  go_wp2_with (fail)
  have FB := ((((((((((((TR.out.far (p := ⟨ob, 0, none⟩) ne2 (.slice A4 m4 cap4)).set_ 0 (.slice A4 m4 cap4)).set_ 1 (.int .i64 pad)).set_ 2 (.bool false)).set_ 3 (.bool false)).set_ 4 (.int .i64 0)).set_ 5 (.int .i64 0)).set_ 6 (.int .i64 0)).set_ 7 (.int .i64 0)).set_ 8 (.int .i64 0)).set_ 9 (.slice none 0 0)).set_ 10 (.int .i64 0))
  simp only [body0, List.setIfInBounds_toArray, List.set_cons_zero, List.set_cons_succ] at FB
  have KL := (((((((((((((Keep.refl [ob, w.heap.size + 1] w4).setCell (p := ⟨ob, 0, none⟩) (.inl (by simp)) (.slice A4 m4 cap4)).setCell (p := ⟨w.heap.size + 1, 0, none⟩) (.inl (by simp)) (.slice A4 m4 cap4)).setCell (p := ⟨w.heap.size + 1, 1, none⟩) (.inl (by simp)) (.int .i64 pad)).setCell (p := ⟨w.heap.size + 1, 2, none⟩) (.inl (by simp)) (.bool false)).setCell (p := ⟨w.heap.size + 1, 3, none⟩) (.inl (by simp)) (.bool false)).setCell (p := ⟨w.heap.size + 1, 4, none⟩) (.inl (by simp)) (.int .i64 0)).setCell (p := ⟨w.heap.size + 1, 5, none⟩) (.inl (by simp)) (.int .i64 0)).setCell (p := ⟨w.heap.size + 1, 6, none⟩) (.inl (by simp)) (.int .i64 0)).setCell (p := ⟨w.heap.size + 1, 7, none⟩) (.inl (by simp)) (.int .i64 0)).setCell (p := ⟨w.heap.size + 1, 8, none⟩) (.inl (by simp)) (.int .i64 0)).setCell (p := ⟨w.heap.size + 1, 9, none⟩) (.inl (by simp)) (.slice none 0 0)).setCell (p := ⟨w.heap.size + 1, 10, none⟩) (.inl (by simp)) (.int .i64 0))
  have KF := K5.out.step KL (by simp; omega)
  refine bodyPost_ret (results_ct rfl _ _ (w.heap.size + 1) 36 #[.slice A4 m4 cap4, .int .i64 pad, .bool false, .bool false, .int .i64 0, .int .i64 0, .int .i64 0, .int .i64 0, .int .i64 0, .slice none 0 0, .int .i64 0] (0, 0) _ rfl FB Try.underlying36 rfl (by kernel_rfl)) rfl ?_
  exact ⟨_, rfl, (HRow.out.keep KL (fun g hg => by have := HRow.out.lt g hg; simp; omega)).lower (by omega), KF⟩
set_option maxHeartbeats 2000000 in
theorem read_3 (hr : Reads w w.heap.size 1 A n (encB bs)) (hc : n ≤ c) (hc2 : c ≤ 9223372036854775807) (hc3 : n ≤ 140737488355328) (h1 : ¬ s = 0) (hb : bareF 3 f bs = .ok pad r) (hs : sizeF 3 f r.length = true) :
    Calls Try.prog 15 #[.agg #[.int .i64 (3 : Nat), .int .i64 f.toNat, .int .i64 s, .slice A n c]] w fun e w' =>
      e = .returned (.tuple #[.agg #[.slice none 0 0, .int .i64 pad, .bool false, .bool false, .int .i64 0, .int .i64 0, .int .i64 (numB r), .int .i64 0, .int .i64 0, .slice none 0 0, .int .i64 0], .int .i64 0]) ∧ Keep [] w w' := by
  have HB := Lib.hid hb
  have HS := Lib.hid hs
  clear hb hs
  have Hr := Lib.hid hr
  clear hr
  have hpl : placeF 3 = 1 := rfl
  go_enter Try.func15, Try.ntmps15
  go_wp2_with (fail)
  refine (place_ _ 3).mono ?_
  rintro e w1 ⟨rfl, k1⟩
  rw [hpl]
  have BF := ((Blk.new w 24 #[.int .i64 (3 : Nat), .int .i64 f.toNat, .int .i64 s, .slice A n c]).alloc (.cells (body0 0) 36)).keep k1 (by simp)
  have BR := (Blk.new (w.alloc (.cells #[.int .i64 (3 : Nat), .int .i64 f.toNat, .int .i64 s, .slice A n c] 24)) 36 (body0 0)).keep k1 (by simp)
  have K1 := Lib.hid ((((Keep.refl [] w).alloc _).alloc _).trans k1)
  have sz1 := k1.size
  simp at BR sz1
  have l1 : w.heap.size < w1.heap.size := by omega
  have l2 : w.heap.size + 1 < w1.heap.size := by omega
  clear k1 sz1
  have d0 := BF.cell 0
  have d1 := BF.cell 1
  have d2 := BF.cell 2
  have d3 := BF.cell 3
  simp at d0 d1 d2 d3
  go_wp2_with (fail)
  obtain ⟨W2, hW2⟩ : ∃ W2, W2 = w1.alloc (.cells (body0 0) 36) := ⟨_, rfl⟩
  have K2 : Keep [] w1 W2 := by rw [hW2]; exact (Keep.refl _ _).alloc _
  have BO : Blk W2 w1.heap.size 36 (body0 0) := by rw [hW2]; exact Blk.new _ _ _
  have z2 : W2.heap.size = w1.heap.size + 1 := by rw [hW2]; simp
  have hBc := bare_ W2 3 f s A n c w1.heap.size BO rfl rfl ((Hr.out.keeps (K1.out.trans K2) (Nat.le_refl _) (by simp)).more (by omega)) hc hc2
  rw [HB.out] at hBc
  show Calls Try.prog 26 _ (w1.alloc (.cells (body0 0) 36)) _
  rw [← hW2]
  refine hBc.mono ?_
  rintro e w2 ⟨A2, c2, rfl, rr, hcr, hcr2, bo, k2⟩
  have K3 := Lib.hid ((K1.out.trans K2).step k2 (by simp; omega))
  have z3 := k2.size
  have BF3 := (BF.keep K2 (by simp)).keep k2 (by simp; omega)
  have BR3 := (BR.keep K2 (by simp)).keep k2 (by simp; omega)
  obtain ⟨ob, hob⟩ : ∃ ob, ob = w1.heap.size := ⟨_, rfl⟩
  rw [← hob] at l1 l2 bo rr z2 ⊢
  have l3 : w.heap.size < w2.heap.size := by omega
  have l4 : w.heap.size + 1 < w2.heap.size := by omega
  have l5 : ob < w2.heap.size := by omega
  clear hBc hW2 BO K2 k2 z2 z3 BF BR hob K1 d0 d1 d2 d3 HB
  have d0 := BF3.cell 0
  have d1 := BF3.cell 1
  have d2 := BF3.cell 2
  have d3 := BF3.cell 3
  simp at d0 d1 d2 d3
  go_wp2_with (fail)
  have hSz := sized_ w2 3 f s (Hr.out.keeps K3.out (Nat.le_refl _) (by simp) |>.more K3.out.size) hc hc2 r.length
  rw [HS.out] at hSz
  refine hSz.mono ?_
  rintro e w3 ⟨rfl, k3⟩
  have K4 := Lib.hid (K3.out.trans k3)
  have z4 := k3.size
  have BF4 := BF3.keep k3 (by simp)
  have BR4 := BR3.keep k3 (by simp)
  have bo4 : Blk w3 ob 36 (body0 pad) := bo.keep k3 (by simp)
  have rr4 := Lib.hid (rr.keeps k3 (by omega) (by simp))
  have l6 : w.heap.size < w3.heap.size := by omega
  have l7 : w.heap.size + 1 < w3.heap.size := by omega
  have l8 : ob < w3.heap.size := by omega
  clear hSz BF3 BR3 bo rr l3 l4 l5 k3 z4 d0 d1 d2 d3 K3
  have d0 := BF4.cell 0
  have d1 := BF4.cell 1
  have d2 := BF4.cell 2
  have d3 := BF4.cell 3
  simp at d0 d1 d2 d3
  have hlr : r.length = 4 := by have := HS.out; simpa [sizeF] using this
  have hNum := number_ w3 (c := c2) rr4.out (by omega)
  have hlt := numB_lt4 r hlr
  obtain ⟨N, hN⟩ : ∃ N, N = numB r := ⟨_, rfl⟩
  have HA := Lib.hid (i64_and31 N (by omega))
  rw [← hN] at hlt hNum
  have HN := Lib.hid hNum
  have HNN := Lib.hid hN
  clear hlr hlt
  clear hNum hN
  go_wp2_with (fail)
  refine HN.out.mono ?_
  rintro e w4 ⟨rfl, rfl⟩
  have bo5 := bo4
  have BR5 := BR4
  have ne : ob ≠ w.heap.size + 1 := by omega
  have ne2 : w.heap.size + 1 ≠ ob := by omega
  have TE := Lib.hid bo5
  have TR := Lib.hid BR5
  have e0 := bo5.cell 0
  have e1 := bo5.cell 1
  have e2 := bo5.cell 2
  have e3 := bo5.cell 3
  have e4 := bo5.cell 4
  have e5 := bo5.cell 5
  have e6 := bo5.cell 6
  have e7 := bo5.cell 7
  have e8 := bo5.cell 8
  have e9 := bo5.cell 9
  have e10 := bo5.cell 10
  simp [body0] at e0 e1 e2 e3 e4 e5 e6 e7 e8 e9 e10
  have og6 := bo5.frozen 6
  have q0 := BR5.cell 0
  have g0 := BR5.frozen 0
  have q1 := BR5.cell 1
  have g1 := BR5.frozen 1
  have q2 := BR5.cell 2
  have g2 := BR5.frozen 2
  have q3 := BR5.cell 3
  have g3 := BR5.frozen 3
  have q4 := BR5.cell 4
  have g4 := BR5.frozen 4
  have q5 := BR5.cell 5
  have g5 := BR5.frozen 5
  have q6 := BR5.cell 6
  have g6 := BR5.frozen 6
  have q7 := BR5.cell 7
  have g7 := BR5.frozen 7
  have q8 := BR5.cell 8
  have g8 := BR5.frozen 8
  have q9 := BR5.cell 9
  have g9 := BR5.frozen 9
  have q10 := BR5.cell 10
  have g10 := BR5.frozen 10
  simp [body0] at q0 q1 q2 q3 q4 q5 q6 q7 q8 q9 q10
  clear HN HA d0 d1 d2 d3 bo4 BR4
  clear bo5 BR5
  go_wp2_with (fail)
  have FB := ((((((((((((TR.out.far (p := ⟨ob, 6, none⟩) ne2 (.int .i64 N)).set_ 0 (.slice none 0 0)).set_ 1 (.int .i64 pad)).set_ 2 (.bool false)).set_ 3 (.bool false)).set_ 4 (.int .i64 0)).set_ 5 (.int .i64 0)).set_ 6 (.int .i64 N)).set_ 7 (.int .i64 0)).set_ 8 (.int .i64 0)).set_ 9 (.slice none 0 0)).set_ 10 (.int .i64 0))
  simp only [body0, List.setIfInBounds_toArray, List.set_cons_zero, List.set_cons_succ] at FB
  have KL := (((((((((((((Keep.refl [ob, w.heap.size + 1] w3).setCell (p := ⟨ob, 6, none⟩) (.inl (by simp)) (.int .i64 N)).setCell (p := ⟨w.heap.size + 1, 0, none⟩) (.inl (by simp)) (.slice none 0 0)).setCell (p := ⟨w.heap.size + 1, 1, none⟩) (.inl (by simp)) (.int .i64 pad)).setCell (p := ⟨w.heap.size + 1, 2, none⟩) (.inl (by simp)) (.bool false)).setCell (p := ⟨w.heap.size + 1, 3, none⟩) (.inl (by simp)) (.bool false)).setCell (p := ⟨w.heap.size + 1, 4, none⟩) (.inl (by simp)) (.int .i64 0)).setCell (p := ⟨w.heap.size + 1, 5, none⟩) (.inl (by simp)) (.int .i64 0)).setCell (p := ⟨w.heap.size + 1, 6, none⟩) (.inl (by simp)) (.int .i64 N)).setCell (p := ⟨w.heap.size + 1, 7, none⟩) (.inl (by simp)) (.int .i64 0)).setCell (p := ⟨w.heap.size + 1, 8, none⟩) (.inl (by simp)) (.int .i64 0)).setCell (p := ⟨w.heap.size + 1, 9, none⟩) (.inl (by simp)) (.slice none 0 0)).setCell (p := ⟨w.heap.size + 1, 10, none⟩) (.inl (by simp)) (.int .i64 0))
  have KF := K4.out.step KL (by simp; omega)
  refine bodyPost_ret (results_ct rfl _ _ (w.heap.size + 1) 36 #[.slice none 0 0, .int .i64 pad, .bool false, .bool false, .int .i64 0, .int .i64 0, .int .i64 N, .int .i64 0, .int .i64 0, .slice none 0 0, .int .i64 0] (0, 0) _ rfl FB Try.underlying36 rfl (by kernel_rfl)) rfl ?_
  rw [← HNN.out]
  exact ⟨rfl, KF⟩
set_option maxHeartbeats 2000000 in
theorem read_x (hr : Reads w w.heap.size 1 A n (encB bs)) (hc : n ≤ c) (hc2 : c ≤ 9223372036854775807) (hc3 : n ≤ 140737488355328) (t : Nat) (ht : 9 < t) (hb : bareF t f bs = .ok pad r) (hs : sizeF t f r.length = true) :
    Calls Try.prog 15 #[.agg #[.int .i64 (t : Nat), .int .i64 f.toNat, .int .i64 s, .slice A n c]] w fun e w' =>
      e = .returned (.tuple #[.agg #[.slice none 0 0, .int .i64 pad, .bool false, .bool false, .int .i64 0, .int .i64 0, .int .i64 0, .int .i64 0, .int .i64 0, .slice none 0 0, .int .i64 0], .int .i64 0]) ∧ Keep [] w w' := by
  have HB := Lib.hid hb
  have HS := Lib.hid hs
  clear hb hs
  have Hr := Lib.hid hr
  clear hr
  have hpl : placeF t = -1 := by unfold placeF; rw [if_neg (by omega), if_neg (by omega)]
  have x0 : ¬ (t : Int) = 0 := by omega
  have x1 : ¬ (t : Int) = 1 := by omega
  have x2 : ¬ (t : Int) = 2 := by omega
  have x3 : ¬ (t : Int) = 3 := by omega
  have x4 : ¬ (t : Int) = 4 := by omega
  have x5 : ¬ (t : Int) = 5 := by omega
  have x6 : ¬ (t : Int) = 6 := by omega
  have x7 : ¬ (t : Int) = 7 := by omega
  have x8 : ¬ (t : Int) = 8 := by omega
  have x9 : ¬ (t : Int) = 9 := by omega
  clear ht
  go_enter Try.func15, Try.ntmps15
  go_wp2_with (fail)
  refine (place_ _ t).mono ?_
  rintro e w1 ⟨rfl, k1⟩
  rw [hpl]
  have BF := ((Blk.new w 24 #[.int .i64 (t : Nat), .int .i64 f.toNat, .int .i64 s, .slice A n c]).alloc (.cells (body0 0) 36)).keep k1 (by simp)
  have BR := (Blk.new (w.alloc (.cells #[.int .i64 (t : Nat), .int .i64 f.toNat, .int .i64 s, .slice A n c] 24)) 36 (body0 0)).keep k1 (by simp)
  have K1 := Lib.hid ((((Keep.refl [] w).alloc _).alloc _).trans k1)
  have sz1 := k1.size
  simp at BR sz1
  have l1 : w.heap.size < w1.heap.size := by omega
  have l2 : w.heap.size + 1 < w1.heap.size := by omega
  clear k1 sz1
  have d0 := BF.cell 0
  have d1 := BF.cell 1
  have d2 := BF.cell 2
  have d3 := BF.cell 3
  simp at d0 d1 d2 d3
  go_wp2_with (fail)
  obtain ⟨W2, hW2⟩ : ∃ W2, W2 = w1.alloc (.cells (body0 0) 36) := ⟨_, rfl⟩
  have K2 : Keep [] w1 W2 := by rw [hW2]; exact (Keep.refl _ _).alloc _
  have BO : Blk W2 w1.heap.size 36 (body0 0) := by rw [hW2]; exact Blk.new _ _ _
  have z2 : W2.heap.size = w1.heap.size + 1 := by rw [hW2]; simp
  have hBc := bare_ W2 t f s A n c w1.heap.size BO rfl rfl ((Hr.out.keeps (K1.out.trans K2) (Nat.le_refl _) (by simp)).more (by omega)) hc hc2
  rw [HB.out] at hBc
  show Calls Try.prog 26 _ (w1.alloc (.cells (body0 0) 36)) _
  rw [← hW2]
  refine hBc.mono ?_
  rintro e w2 ⟨A2, c2, rfl, rr, hcr, hcr2, bo, k2⟩
  have K3 := Lib.hid ((K1.out.trans K2).step k2 (by simp; omega))
  have z3 := k2.size
  have BF3 := (BF.keep K2 (by simp)).keep k2 (by simp; omega)
  have BR3 := (BR.keep K2 (by simp)).keep k2 (by simp; omega)
  obtain ⟨ob, hob⟩ : ∃ ob, ob = w1.heap.size := ⟨_, rfl⟩
  rw [← hob] at l1 l2 bo rr z2 ⊢
  have l3 : w.heap.size < w2.heap.size := by omega
  have l4 : w.heap.size + 1 < w2.heap.size := by omega
  have l5 : ob < w2.heap.size := by omega
  clear hBc hW2 BO K2 k2 z2 z3 BF BR hob K1 d0 d1 d2 d3 HB
  have d0 := BF3.cell 0
  have d1 := BF3.cell 1
  have d2 := BF3.cell 2
  have d3 := BF3.cell 3
  simp at d0 d1 d2 d3
  go_wp2_with (fail)
  have hSz := sized_ w2 t f s (Hr.out.keeps K3.out (Nat.le_refl _) (by simp) |>.more K3.out.size) hc hc2 r.length
  rw [HS.out] at hSz
  refine hSz.mono ?_
  rintro e w3 ⟨rfl, k3⟩
  have K4 := Lib.hid (K3.out.trans k3)
  have z4 := k3.size
  have BF4 := BF3.keep k3 (by simp)
  have BR4 := BR3.keep k3 (by simp)
  have bo4 : Blk w3 ob 36 (body0 pad) := bo.keep k3 (by simp)
  have rr4 := Lib.hid (rr.keeps k3 (by omega) (by simp))
  have l6 : w.heap.size < w3.heap.size := by omega
  have l7 : w.heap.size + 1 < w3.heap.size := by omega
  have l8 : ob < w3.heap.size := by omega
  clear hSz BF3 BR3 bo rr l3 l4 l5 k3 z4 d0 d1 d2 d3 K3
  have d0 := BF4.cell 0
  have d1 := BF4.cell 1
  have d2 := BF4.cell 2
  have d3 := BF4.cell 3
  simp at d0 d1 d2 d3
  have bo5 := bo4
  have BR5 := BR4
  have ne : ob ≠ w.heap.size + 1 := by omega
  have ne2 : w.heap.size + 1 ≠ ob := by omega
  have TE := Lib.hid bo5
  have TR := Lib.hid BR5
  have e0 := bo5.cell 0
  have e1 := bo5.cell 1
  have e2 := bo5.cell 2
  have e3 := bo5.cell 3
  have e4 := bo5.cell 4
  have e5 := bo5.cell 5
  have e6 := bo5.cell 6
  have e7 := bo5.cell 7
  have e8 := bo5.cell 8
  have e9 := bo5.cell 9
  have e10 := bo5.cell 10
  simp [body0] at e0 e1 e2 e3 e4 e5 e6 e7 e8 e9 e10
  have q0 := BR5.cell 0
  have g0 := BR5.frozen 0
  have q1 := BR5.cell 1
  have g1 := BR5.frozen 1
  have q2 := BR5.cell 2
  have g2 := BR5.frozen 2
  have q3 := BR5.cell 3
  have g3 := BR5.frozen 3
  have q4 := BR5.cell 4
  have g4 := BR5.frozen 4
  have q5 := BR5.cell 5
  have g5 := BR5.frozen 5
  have q6 := BR5.cell 6
  have g6 := BR5.frozen 6
  have q7 := BR5.cell 7
  have g7 := BR5.frozen 7
  have q8 := BR5.cell 8
  have g8 := BR5.frozen 8
  have q9 := BR5.cell 9
  have g9 := BR5.frozen 9
  have q10 := BR5.cell 10
  have g10 := BR5.frozen 10
  simp [body0] at q0 q1 q2 q3 q4 q5 q6 q7 q8 q9 q10
  clear d1 d2 d3 bo4 BR4
  clear bo5 BR5
  go_wp2_with (fail)
  have FB := (((((((((((TR.out.set_ 0 (.slice none 0 0)).set_ 1 (.int .i64 pad)).set_ 2 (.bool false)).set_ 3 (.bool false)).set_ 4 (.int .i64 0)).set_ 5 (.int .i64 0)).set_ 6 (.int .i64 0)).set_ 7 (.int .i64 0)).set_ 8 (.int .i64 0)).set_ 9 (.slice none 0 0)).set_ 10 (.int .i64 0))
  simp only [body0, List.setIfInBounds_toArray, List.set_cons_zero, List.set_cons_succ] at FB
  have KL := ((((((((((((Keep.refl [ob, w.heap.size + 1] w3).setCell (p := ⟨w.heap.size + 1, 0, none⟩) (.inl (by simp)) (.slice none 0 0)).setCell (p := ⟨w.heap.size + 1, 1, none⟩) (.inl (by simp)) (.int .i64 pad)).setCell (p := ⟨w.heap.size + 1, 2, none⟩) (.inl (by simp)) (.bool false)).setCell (p := ⟨w.heap.size + 1, 3, none⟩) (.inl (by simp)) (.bool false)).setCell (p := ⟨w.heap.size + 1, 4, none⟩) (.inl (by simp)) (.int .i64 0)).setCell (p := ⟨w.heap.size + 1, 5, none⟩) (.inl (by simp)) (.int .i64 0)).setCell (p := ⟨w.heap.size + 1, 6, none⟩) (.inl (by simp)) (.int .i64 0)).setCell (p := ⟨w.heap.size + 1, 7, none⟩) (.inl (by simp)) (.int .i64 0)).setCell (p := ⟨w.heap.size + 1, 8, none⟩) (.inl (by simp)) (.int .i64 0)).setCell (p := ⟨w.heap.size + 1, 9, none⟩) (.inl (by simp)) (.slice none 0 0)).setCell (p := ⟨w.heap.size + 1, 10, none⟩) (.inl (by simp)) (.int .i64 0))
  have KF := K4.out.step KL (by simp; omega)
  refine bodyPost_ret (results_ct rfl _ _ (w.heap.size + 1) 36 #[.slice none 0 0, .int .i64 pad, .bool false, .bool false, .int .i64 0, .int .i64 0, .int .i64 0, .int .i64 0, .int .i64 0, .slice none 0 0, .int .i64 0] (0, 0) _ rfl FB Try.underlying36 rfl (by kernel_rfl)) rfl ?_
  exact ⟨rfl, KF⟩
end
end Go.Proofs.Ytbngoaonkhcciaa
/-! #### ReadB -/
set_option linter.all false
namespace Go.Proofs.Ytbngoaonkhcciaa
open Go.ChangeShapes Go.WideShapes Go.ChangeAt Go.RowKit Go.Proofs.YtbngoaonkhcciaaW.PrintWords
attribute [local go_sem] setCell_drewN alloc_drewN Oper.semAt_some
section
variable (w : World) {A : Option Addr} {n c : Nat} {bs r : List UInt8} {f : UInt8} {s : Int} {pad : Int}
set_option maxHeartbeats 2000000 in
theorem read_bad1 (hr : Reads w w.heap.size 1 A n (encB bs)) (hc : n ≤ c) (hc2 : c ≤ 9223372036854775807) (hc3 : n ≤ 140737488355328) (t : Nat) (hp : placeF t = 1) :
    Calls Try.prog 15 #[.agg #[.int .i64 (t : Nat), .int .i64 f.toNat, .int .i64 0, .slice A n c]] w fun e w' =>
      e = .returned (.tuple #[.agg #[.slice none 0 0, .int .i64 0, .bool false, .bool false, .int .i64 0, .int .i64 0, .int .i64 0, .int .i64 0, .int .i64 0, .slice none 0 0, .int .i64 0], .int .i64 1]) ∧ Keep [] w w' := by
  have Hr := Lib.hid hr
  clear hr
  have hpl : placeF t = 1 := hp
  go_enter Try.func15, Try.ntmps15
  go_wp2_with (fail)
  refine (place_ _ t).mono ?_
  rintro e w1 ⟨rfl, k1⟩
  rw [hpl]
  have BF := ((Blk.new w 24 #[.int .i64 (t : Nat), .int .i64 f.toNat, .int .i64 0, .slice A n c]).alloc (.cells (body0 0) 36)).keep k1 (by simp)
  have BR := (Blk.new (w.alloc (.cells #[.int .i64 (t : Nat), .int .i64 f.toNat, .int .i64 0, .slice A n c] 24)) 36 (body0 0)).keep k1 (by simp)
  have K1 := Lib.hid ((((Keep.refl [] w).alloc _).alloc _).trans k1)
  have sz1 := k1.size
  simp at BR sz1
  have l1 : w.heap.size < w1.heap.size := by omega
  have l2 : w.heap.size + 1 < w1.heap.size := by omega
  clear k1 sz1
  have d0 := BF.cell 0
  have d1 := BF.cell 1
  have d2 := BF.cell 2
  have d3 := BF.cell 3
  simp at d0 d1 d2 d3
  have q0 := BR.cell 0
  have g0 := BR.frozen 0
  have q1 := BR.cell 1
  have g1 := BR.frozen 1
  have q2 := BR.cell 2
  have g2 := BR.frozen 2
  have q3 := BR.cell 3
  have g3 := BR.frozen 3
  have q4 := BR.cell 4
  have g4 := BR.frozen 4
  have q5 := BR.cell 5
  have g5 := BR.frozen 5
  have q6 := BR.cell 6
  have g6 := BR.frozen 6
  have q7 := BR.cell 7
  have g7 := BR.frozen 7
  have q8 := BR.cell 8
  have g8 := BR.frozen 8
  have q9 := BR.cell 9
  have g9 := BR.frozen 9
  have q10 := BR.cell 10
  have g10 := BR.frozen 10
  simp [body0] at q0 q1 q2 q3 q4 q5 q6 q7 q8 q9 q10
  have TR := Lib.hid BR
  clear BR
  go_wp2_with (fail)
  have FB := (((((((((((TR.out.set_ 0 (.slice none 0 0)).set_ 1 (.int .i64 0)).set_ 2 (.bool false)).set_ 3 (.bool false)).set_ 4 (.int .i64 0)).set_ 5 (.int .i64 0)).set_ 6 (.int .i64 0)).set_ 7 (.int .i64 0)).set_ 8 (.int .i64 0)).set_ 9 (.slice none 0 0)).set_ 10 (.int .i64 0))
  simp only [body0, List.setIfInBounds_toArray, List.set_cons_zero, List.set_cons_succ] at FB
  have KL := ((((((((((((Keep.refl [w.heap.size + 1] w1).setCell (p := ⟨w.heap.size + 1, 0, none⟩) (.inl (by simp)) (.slice none 0 0)).setCell (p := ⟨w.heap.size + 1, 1, none⟩) (.inl (by simp)) (.int .i64 0)).setCell (p := ⟨w.heap.size + 1, 2, none⟩) (.inl (by simp)) (.bool false)).setCell (p := ⟨w.heap.size + 1, 3, none⟩) (.inl (by simp)) (.bool false)).setCell (p := ⟨w.heap.size + 1, 4, none⟩) (.inl (by simp)) (.int .i64 0)).setCell (p := ⟨w.heap.size + 1, 5, none⟩) (.inl (by simp)) (.int .i64 0)).setCell (p := ⟨w.heap.size + 1, 6, none⟩) (.inl (by simp)) (.int .i64 0)).setCell (p := ⟨w.heap.size + 1, 7, none⟩) (.inl (by simp)) (.int .i64 0)).setCell (p := ⟨w.heap.size + 1, 8, none⟩) (.inl (by simp)) (.int .i64 0)).setCell (p := ⟨w.heap.size + 1, 9, none⟩) (.inl (by simp)) (.slice none 0 0)).setCell (p := ⟨w.heap.size + 1, 10, none⟩) (.inl (by simp)) (.int .i64 0))
  have KF := K1.out.step KL (by simp)
  exact bodyPost_ret (results_ct rfl _ _ (w.heap.size + 1) 36 #[.slice none 0 0, .int .i64 0, .bool false, .bool false, .int .i64 0, .int .i64 0, .int .i64 0, .int .i64 0, .int .i64 0, .slice none 0 0, .int .i64 0] (0, 0) _ rfl FB Try.underlying36 rfl (by kernel_rfl)) rfl ⟨rfl, KF⟩
set_option maxHeartbeats 2000000 in
theorem read_bad0 (hr : Reads w w.heap.size 1 A n (encB bs)) (hc : n ≤ c) (hc2 : c ≤ 9223372036854775807) (hc3 : n ≤ 140737488355328) (t : Nat) (hp : placeF t = 0) (h1 : ¬ s = 0) :
    Calls Try.prog 15 #[.agg #[.int .i64 (t : Nat), .int .i64 f.toNat, .int .i64 s, .slice A n c]] w fun e w' =>
      e = .returned (.tuple #[.agg #[.slice none 0 0, .int .i64 0, .bool false, .bool false, .int .i64 0, .int .i64 0, .int .i64 0, .int .i64 0, .int .i64 0, .slice none 0 0, .int .i64 0], .int .i64 1]) ∧ Keep [] w w' := by
  have Hr := Lib.hid hr
  clear hr
  have hpl : placeF t = 0 := hp
  go_enter Try.func15, Try.ntmps15
  go_wp2_with (fail)
  refine (place_ _ t).mono ?_
  rintro e w1 ⟨rfl, k1⟩
  rw [hpl]
  have BF := ((Blk.new w 24 #[.int .i64 (t : Nat), .int .i64 f.toNat, .int .i64 s, .slice A n c]).alloc (.cells (body0 0) 36)).keep k1 (by simp)
  have BR := (Blk.new (w.alloc (.cells #[.int .i64 (t : Nat), .int .i64 f.toNat, .int .i64 s, .slice A n c] 24)) 36 (body0 0)).keep k1 (by simp)
  have K1 := Lib.hid ((((Keep.refl [] w).alloc _).alloc _).trans k1)
  have sz1 := k1.size
  simp at BR sz1
  have l1 : w.heap.size < w1.heap.size := by omega
  have l2 : w.heap.size + 1 < w1.heap.size := by omega
  clear k1 sz1
  have d0 := BF.cell 0
  have d1 := BF.cell 1
  have d2 := BF.cell 2
  have d3 := BF.cell 3
  simp at d0 d1 d2 d3
  have q0 := BR.cell 0
  have g0 := BR.frozen 0
  have q1 := BR.cell 1
  have g1 := BR.frozen 1
  have q2 := BR.cell 2
  have g2 := BR.frozen 2
  have q3 := BR.cell 3
  have g3 := BR.frozen 3
  have q4 := BR.cell 4
  have g4 := BR.frozen 4
  have q5 := BR.cell 5
  have g5 := BR.frozen 5
  have q6 := BR.cell 6
  have g6 := BR.frozen 6
  have q7 := BR.cell 7
  have g7 := BR.frozen 7
  have q8 := BR.cell 8
  have g8 := BR.frozen 8
  have q9 := BR.cell 9
  have g9 := BR.frozen 9
  have q10 := BR.cell 10
  have g10 := BR.frozen 10
  simp [body0] at q0 q1 q2 q3 q4 q5 q6 q7 q8 q9 q10
  have TR := Lib.hid BR
  clear BR
  go_wp2_with (fail)
  have FB := (((((((((((TR.out.set_ 0 (.slice none 0 0)).set_ 1 (.int .i64 0)).set_ 2 (.bool false)).set_ 3 (.bool false)).set_ 4 (.int .i64 0)).set_ 5 (.int .i64 0)).set_ 6 (.int .i64 0)).set_ 7 (.int .i64 0)).set_ 8 (.int .i64 0)).set_ 9 (.slice none 0 0)).set_ 10 (.int .i64 0))
  simp only [body0, List.setIfInBounds_toArray, List.set_cons_zero, List.set_cons_succ] at FB
  have KL := ((((((((((((Keep.refl [w.heap.size + 1] w1).setCell (p := ⟨w.heap.size + 1, 0, none⟩) (.inl (by simp)) (.slice none 0 0)).setCell (p := ⟨w.heap.size + 1, 1, none⟩) (.inl (by simp)) (.int .i64 0)).setCell (p := ⟨w.heap.size + 1, 2, none⟩) (.inl (by simp)) (.bool false)).setCell (p := ⟨w.heap.size + 1, 3, none⟩) (.inl (by simp)) (.bool false)).setCell (p := ⟨w.heap.size + 1, 4, none⟩) (.inl (by simp)) (.int .i64 0)).setCell (p := ⟨w.heap.size + 1, 5, none⟩) (.inl (by simp)) (.int .i64 0)).setCell (p := ⟨w.heap.size + 1, 6, none⟩) (.inl (by simp)) (.int .i64 0)).setCell (p := ⟨w.heap.size + 1, 7, none⟩) (.inl (by simp)) (.int .i64 0)).setCell (p := ⟨w.heap.size + 1, 8, none⟩) (.inl (by simp)) (.int .i64 0)).setCell (p := ⟨w.heap.size + 1, 9, none⟩) (.inl (by simp)) (.slice none 0 0)).setCell (p := ⟨w.heap.size + 1, 10, none⟩) (.inl (by simp)) (.int .i64 0))
  have KF := K1.out.step KL (by simp)
  exact bodyPost_ret (results_ct rfl _ _ (w.heap.size + 1) 36 #[.slice none 0 0, .int .i64 0, .bool false, .bool false, .int .i64 0, .int .i64 0, .int .i64 0, .int .i64 0, .int .i64 0, .slice none 0 0, .int .i64 0] (0, 0) _ rfl FB Try.underlying36 rfl (by kernel_rfl)) rfl ⟨rfl, KF⟩
set_option maxHeartbeats 2000000 in
theorem read_bare1 (hr : Reads w w.heap.size 1 A n (encB bs)) (hc : n ≤ c) (hc2 : c ≤ 9223372036854775807) (hc3 : n ≤ 140737488355328) (t : Nat) (hp : placeF t = 1) (h1 : ¬ s = 0) (k : Int) (hk : ¬ k = 0) (hb : bareF t f bs = .bad k) :
    Calls Try.prog 15 #[.agg #[.int .i64 (t : Nat), .int .i64 f.toNat, .int .i64 s, .slice A n c]] w fun e w' =>
      e = .returned (.tuple #[.agg #[.slice none 0 0, .int .i64 0, .bool false, .bool false, .int .i64 0, .int .i64 0, .int .i64 0, .int .i64 0, .int .i64 0, .slice none 0 0, .int .i64 0], .int .i64 k]) ∧ Keep [] w w' := by
  have HB := Lib.hid hb
  clear hb
  have Hr := Lib.hid hr
  clear hr
  have hpl : placeF t = 1 := hp
  go_enter Try.func15, Try.ntmps15
  go_wp2_with (fail)
  refine (place_ _ t).mono ?_
  rintro e w1 ⟨rfl, k1⟩
  rw [hpl]
  have BF := ((Blk.new w 24 #[.int .i64 (t : Nat), .int .i64 f.toNat, .int .i64 s, .slice A n c]).alloc (.cells (body0 0) 36)).keep k1 (by simp)
  have BR := (Blk.new (w.alloc (.cells #[.int .i64 (t : Nat), .int .i64 f.toNat, .int .i64 s, .slice A n c] 24)) 36 (body0 0)).keep k1 (by simp)
  have K1 := Lib.hid ((((Keep.refl [] w).alloc _).alloc _).trans k1)
  have sz1 := k1.size
  simp at BR sz1
  have l1 : w.heap.size < w1.heap.size := by omega
  have l2 : w.heap.size + 1 < w1.heap.size := by omega
  clear k1 sz1
  have d0 := BF.cell 0
  have d1 := BF.cell 1
  have d2 := BF.cell 2
  have d3 := BF.cell 3
  simp at d0 d1 d2 d3
  go_wp2_with (fail)
  obtain ⟨W2, hW2⟩ : ∃ W2, W2 = w1.alloc (.cells (body0 0) 36) := ⟨_, rfl⟩
  have K2 : Keep [] w1 W2 := by rw [hW2]; exact (Keep.refl _ _).alloc _
  have BO : Blk W2 w1.heap.size 36 (body0 0) := by rw [hW2]; exact Blk.new _ _ _
  have z2 : W2.heap.size = w1.heap.size + 1 := by rw [hW2]; simp
  have hBc := bare_ W2 t f s A n c w1.heap.size BO rfl rfl ((Hr.out.keeps (K1.out.trans K2) (Nat.le_refl _) (by simp)).more (by omega)) hc hc2
  rw [HB.out] at hBc
  show Calls Try.prog 26 _ (w1.alloc (.cells (body0 0) 36)) _
  rw [← hW2]
  refine hBc.mono ?_
  rintro e w2 ⟨rfl, ⟨cs', bo, hcs'⟩, k2⟩
  have K3 := Lib.hid ((K1.out.trans K2).step k2 (by simp; omega))
  have z3 := k2.size
  have BR3 := (BR.keep K2 (by simp)).keep k2 (by simp; omega)
  clear hBc hW2 BO K2 k2 z2 z3 BF BR K1 d0 d1 d2 d3 HB bo
  have q0 := BR3.cell 0
  have g0 := BR3.frozen 0
  have q1 := BR3.cell 1
  have g1 := BR3.frozen 1
  have q2 := BR3.cell 2
  have g2 := BR3.frozen 2
  have q3 := BR3.cell 3
  have g3 := BR3.frozen 3
  have q4 := BR3.cell 4
  have g4 := BR3.frozen 4
  have q5 := BR3.cell 5
  have g5 := BR3.frozen 5
  have q6 := BR3.cell 6
  have g6 := BR3.frozen 6
  have q7 := BR3.cell 7
  have g7 := BR3.frozen 7
  have q8 := BR3.cell 8
  have g8 := BR3.frozen 8
  have q9 := BR3.cell 9
  have g9 := BR3.frozen 9
  have q10 := BR3.cell 10
  have g10 := BR3.frozen 10
  simp [body0] at q0 q1 q2 q3 q4 q5 q6 q7 q8 q9 q10
  have TR := Lib.hid BR3
  clear BR3
  go_wp2_with (fail)
  have FB := (((((((((((TR.out.set_ 0 (.slice none 0 0)).set_ 1 (.int .i64 0)).set_ 2 (.bool false)).set_ 3 (.bool false)).set_ 4 (.int .i64 0)).set_ 5 (.int .i64 0)).set_ 6 (.int .i64 0)).set_ 7 (.int .i64 0)).set_ 8 (.int .i64 0)).set_ 9 (.slice none 0 0)).set_ 10 (.int .i64 0))
  simp only [body0, List.setIfInBounds_toArray, List.set_cons_zero, List.set_cons_succ] at FB
  have KL := ((((((((((((Keep.refl [w.heap.size + 1] w2).setCell (p := ⟨w.heap.size + 1, 0, none⟩) (.inl (by simp)) (.slice none 0 0)).setCell (p := ⟨w.heap.size + 1, 1, none⟩) (.inl (by simp)) (.int .i64 0)).setCell (p := ⟨w.heap.size + 1, 2, none⟩) (.inl (by simp)) (.bool false)).setCell (p := ⟨w.heap.size + 1, 3, none⟩) (.inl (by simp)) (.bool false)).setCell (p := ⟨w.heap.size + 1, 4, none⟩) (.inl (by simp)) (.int .i64 0)).setCell (p := ⟨w.heap.size + 1, 5, none⟩) (.inl (by simp)) (.int .i64 0)).setCell (p := ⟨w.heap.size + 1, 6, none⟩) (.inl (by simp)) (.int .i64 0)).setCell (p := ⟨w.heap.size + 1, 7, none⟩) (.inl (by simp)) (.int .i64 0)).setCell (p := ⟨w.heap.size + 1, 8, none⟩) (.inl (by simp)) (.int .i64 0)).setCell (p := ⟨w.heap.size + 1, 9, none⟩) (.inl (by simp)) (.slice none 0 0)).setCell (p := ⟨w.heap.size + 1, 10, none⟩) (.inl (by simp)) (.int .i64 0))
  have KF := K3.out.step KL (by simp)
  exact bodyPost_ret (results_ct rfl _ _ (w.heap.size + 1) 36 #[.slice none 0 0, .int .i64 0, .bool false, .bool false, .int .i64 0, .int .i64 0, .int .i64 0, .int .i64 0, .int .i64 0, .slice none 0 0, .int .i64 0] (0, 0) _ rfl FB Try.underlying36 rfl (by kernel_rfl)) rfl ⟨rfl, KF⟩
set_option maxHeartbeats 2000000 in
theorem read_bare0 (hr : Reads w w.heap.size 1 A n (encB bs)) (hc : n ≤ c) (hc2 : c ≤ 9223372036854775807) (hc3 : n ≤ 140737488355328) (t : Nat) (hp : placeF t = 0) (k : Int) (hk : ¬ k = 0) (hb : bareF t f bs = .bad k) :
    Calls Try.prog 15 #[.agg #[.int .i64 (t : Nat), .int .i64 f.toNat, .int .i64 0, .slice A n c]] w fun e w' =>
      e = .returned (.tuple #[.agg #[.slice none 0 0, .int .i64 0, .bool false, .bool false, .int .i64 0, .int .i64 0, .int .i64 0, .int .i64 0, .int .i64 0, .slice none 0 0, .int .i64 0], .int .i64 k]) ∧ Keep [] w w' := by
  have HB := Lib.hid hb
  clear hb
  have Hr := Lib.hid hr
  clear hr
  have hpl : placeF t = 0 := hp
  go_enter Try.func15, Try.ntmps15
  go_wp2_with (fail)
  refine (place_ _ t).mono ?_
  rintro e w1 ⟨rfl, k1⟩
  rw [hpl]
  have BF := ((Blk.new w 24 #[.int .i64 (t : Nat), .int .i64 f.toNat, .int .i64 0, .slice A n c]).alloc (.cells (body0 0) 36)).keep k1 (by simp)
  have BR := (Blk.new (w.alloc (.cells #[.int .i64 (t : Nat), .int .i64 f.toNat, .int .i64 0, .slice A n c] 24)) 36 (body0 0)).keep k1 (by simp)
  have K1 := Lib.hid ((((Keep.refl [] w).alloc _).alloc _).trans k1)
  have sz1 := k1.size
  simp at BR sz1
  have l1 : w.heap.size < w1.heap.size := by omega
  have l2 : w.heap.size + 1 < w1.heap.size := by omega
  clear k1 sz1
  have d0 := BF.cell 0
  have d1 := BF.cell 1
  have d2 := BF.cell 2
  have d3 := BF.cell 3
  simp at d0 d1 d2 d3
  go_wp2_with (fail)
  obtain ⟨W2, hW2⟩ : ∃ W2, W2 = w1.alloc (.cells (body0 0) 36) := ⟨_, rfl⟩
  have K2 : Keep [] w1 W2 := by rw [hW2]; exact (Keep.refl _ _).alloc _
  have BO : Blk W2 w1.heap.size 36 (body0 0) := by rw [hW2]; exact Blk.new _ _ _
  have z2 : W2.heap.size = w1.heap.size + 1 := by rw [hW2]; simp
  have hBc := bare_ W2 t f 0 A n c w1.heap.size BO rfl rfl ((Hr.out.keeps (K1.out.trans K2) (Nat.le_refl _) (by simp)).more (by omega)) hc hc2
  rw [HB.out] at hBc
  show Calls Try.prog 26 _ (w1.alloc (.cells (body0 0) 36)) _
  rw [← hW2]
  refine hBc.mono ?_
  rintro e w2 ⟨rfl, ⟨cs', bo, hcs'⟩, k2⟩
  have K3 := Lib.hid ((K1.out.trans K2).step k2 (by simp; omega))
  have z3 := k2.size
  have BR3 := (BR.keep K2 (by simp)).keep k2 (by simp; omega)
  clear hBc hW2 BO K2 k2 z2 z3 BF BR K1 d0 d1 d2 d3 HB bo
  have q0 := BR3.cell 0
  have g0 := BR3.frozen 0
  have q1 := BR3.cell 1
  have g1 := BR3.frozen 1
  have q2 := BR3.cell 2
  have g2 := BR3.frozen 2
  have q3 := BR3.cell 3
  have g3 := BR3.frozen 3
  have q4 := BR3.cell 4
  have g4 := BR3.frozen 4
  have q5 := BR3.cell 5
  have g5 := BR3.frozen 5
  have q6 := BR3.cell 6
  have g6 := BR3.frozen 6
  have q7 := BR3.cell 7
  have g7 := BR3.frozen 7
  have q8 := BR3.cell 8
  have g8 := BR3.frozen 8
  have q9 := BR3.cell 9
  have g9 := BR3.frozen 9
  have q10 := BR3.cell 10
  have g10 := BR3.frozen 10
  simp [body0] at q0 q1 q2 q3 q4 q5 q6 q7 q8 q9 q10
  have TR := Lib.hid BR3
  clear BR3
  go_wp2_with (fail)
  have FB := (((((((((((TR.out.set_ 0 (.slice none 0 0)).set_ 1 (.int .i64 0)).set_ 2 (.bool false)).set_ 3 (.bool false)).set_ 4 (.int .i64 0)).set_ 5 (.int .i64 0)).set_ 6 (.int .i64 0)).set_ 7 (.int .i64 0)).set_ 8 (.int .i64 0)).set_ 9 (.slice none 0 0)).set_ 10 (.int .i64 0))
  simp only [body0, List.setIfInBounds_toArray, List.set_cons_zero, List.set_cons_succ] at FB
  have KL := ((((((((((((Keep.refl [w.heap.size + 1] w2).setCell (p := ⟨w.heap.size + 1, 0, none⟩) (.inl (by simp)) (.slice none 0 0)).setCell (p := ⟨w.heap.size + 1, 1, none⟩) (.inl (by simp)) (.int .i64 0)).setCell (p := ⟨w.heap.size + 1, 2, none⟩) (.inl (by simp)) (.bool false)).setCell (p := ⟨w.heap.size + 1, 3, none⟩) (.inl (by simp)) (.bool false)).setCell (p := ⟨w.heap.size + 1, 4, none⟩) (.inl (by simp)) (.int .i64 0)).setCell (p := ⟨w.heap.size + 1, 5, none⟩) (.inl (by simp)) (.int .i64 0)).setCell (p := ⟨w.heap.size + 1, 6, none⟩) (.inl (by simp)) (.int .i64 0)).setCell (p := ⟨w.heap.size + 1, 7, none⟩) (.inl (by simp)) (.int .i64 0)).setCell (p := ⟨w.heap.size + 1, 8, none⟩) (.inl (by simp)) (.int .i64 0)).setCell (p := ⟨w.heap.size + 1, 9, none⟩) (.inl (by simp)) (.slice none 0 0)).setCell (p := ⟨w.heap.size + 1, 10, none⟩) (.inl (by simp)) (.int .i64 0))
  have KF := K3.out.step KL (by simp)
  exact bodyPost_ret (results_ct rfl _ _ (w.heap.size + 1) 36 #[.slice none 0 0, .int .i64 0, .bool false, .bool false, .int .i64 0, .int .i64 0, .int .i64 0, .int .i64 0, .int .i64 0, .slice none 0 0, .int .i64 0] (0, 0) _ rfl FB Try.underlying36 rfl (by kernel_rfl)) rfl ⟨rfl, KF⟩
set_option maxHeartbeats 2000000 in
theorem read_barex (hr : Reads w w.heap.size 1 A n (encB bs)) (hc : n ≤ c) (hc2 : c ≤ 9223372036854775807) (hc3 : n ≤ 140737488355328) (t : Nat) (hp : placeF t = -1) (k : Int) (hk : ¬ k = 0) (hb : bareF t f bs = .bad k) :
    Calls Try.prog 15 #[.agg #[.int .i64 (t : Nat), .int .i64 f.toNat, .int .i64 s, .slice A n c]] w fun e w' =>
      e = .returned (.tuple #[.agg #[.slice none 0 0, .int .i64 0, .bool false, .bool false, .int .i64 0, .int .i64 0, .int .i64 0, .int .i64 0, .int .i64 0, .slice none 0 0, .int .i64 0], .int .i64 k]) ∧ Keep [] w w' := by
  have HB := Lib.hid hb
  clear hb
  have Hr := Lib.hid hr
  clear hr
  have hpl : placeF t = -1 := hp
  go_enter Try.func15, Try.ntmps15
  go_wp2_with (fail)
  refine (place_ _ t).mono ?_
  rintro e w1 ⟨rfl, k1⟩
  rw [hpl]
  have BF := ((Blk.new w 24 #[.int .i64 (t : Nat), .int .i64 f.toNat, .int .i64 s, .slice A n c]).alloc (.cells (body0 0) 36)).keep k1 (by simp)
  have BR := (Blk.new (w.alloc (.cells #[.int .i64 (t : Nat), .int .i64 f.toNat, .int .i64 s, .slice A n c] 24)) 36 (body0 0)).keep k1 (by simp)
  have K1 := Lib.hid ((((Keep.refl [] w).alloc _).alloc _).trans k1)
  have sz1 := k1.size
  simp at BR sz1
  have l1 : w.heap.size < w1.heap.size := by omega
  have l2 : w.heap.size + 1 < w1.heap.size := by omega
  clear k1 sz1
  have d0 := BF.cell 0
  have d1 := BF.cell 1
  have d2 := BF.cell 2
  have d3 := BF.cell 3
  simp at d0 d1 d2 d3
  go_wp2_with (fail)
  obtain ⟨W2, hW2⟩ : ∃ W2, W2 = w1.alloc (.cells (body0 0) 36) := ⟨_, rfl⟩
  have K2 : Keep [] w1 W2 := by rw [hW2]; exact (Keep.refl _ _).alloc _
  have BO : Blk W2 w1.heap.size 36 (body0 0) := by rw [hW2]; exact Blk.new _ _ _
  have z2 : W2.heap.size = w1.heap.size + 1 := by rw [hW2]; simp
  have hBc := bare_ W2 t f s A n c w1.heap.size BO rfl rfl ((Hr.out.keeps (K1.out.trans K2) (Nat.le_refl _) (by simp)).more (by omega)) hc hc2
  rw [HB.out] at hBc
  show Calls Try.prog 26 _ (w1.alloc (.cells (body0 0) 36)) _
  rw [← hW2]
  refine hBc.mono ?_
  rintro e w2 ⟨rfl, ⟨cs', bo, hcs'⟩, k2⟩
  have K3 := Lib.hid ((K1.out.trans K2).step k2 (by simp; omega))
  have z3 := k2.size
  have BR3 := (BR.keep K2 (by simp)).keep k2 (by simp; omega)
  clear hBc hW2 BO K2 k2 z2 z3 BF BR K1 d0 d1 d2 d3 HB bo
  have q0 := BR3.cell 0
  have g0 := BR3.frozen 0
  have q1 := BR3.cell 1
  have g1 := BR3.frozen 1
  have q2 := BR3.cell 2
  have g2 := BR3.frozen 2
  have q3 := BR3.cell 3
  have g3 := BR3.frozen 3
  have q4 := BR3.cell 4
  have g4 := BR3.frozen 4
  have q5 := BR3.cell 5
  have g5 := BR3.frozen 5
  have q6 := BR3.cell 6
  have g6 := BR3.frozen 6
  have q7 := BR3.cell 7
  have g7 := BR3.frozen 7
  have q8 := BR3.cell 8
  have g8 := BR3.frozen 8
  have q9 := BR3.cell 9
  have g9 := BR3.frozen 9
  have q10 := BR3.cell 10
  have g10 := BR3.frozen 10
  simp [body0] at q0 q1 q2 q3 q4 q5 q6 q7 q8 q9 q10
  have TR := Lib.hid BR3
  clear BR3
  go_wp2_with (fail)
  have FB := (((((((((((TR.out.set_ 0 (.slice none 0 0)).set_ 1 (.int .i64 0)).set_ 2 (.bool false)).set_ 3 (.bool false)).set_ 4 (.int .i64 0)).set_ 5 (.int .i64 0)).set_ 6 (.int .i64 0)).set_ 7 (.int .i64 0)).set_ 8 (.int .i64 0)).set_ 9 (.slice none 0 0)).set_ 10 (.int .i64 0))
  simp only [body0, List.setIfInBounds_toArray, List.set_cons_zero, List.set_cons_succ] at FB
  have KL := ((((((((((((Keep.refl [w.heap.size + 1] w2).setCell (p := ⟨w.heap.size + 1, 0, none⟩) (.inl (by simp)) (.slice none 0 0)).setCell (p := ⟨w.heap.size + 1, 1, none⟩) (.inl (by simp)) (.int .i64 0)).setCell (p := ⟨w.heap.size + 1, 2, none⟩) (.inl (by simp)) (.bool false)).setCell (p := ⟨w.heap.size + 1, 3, none⟩) (.inl (by simp)) (.bool false)).setCell (p := ⟨w.heap.size + 1, 4, none⟩) (.inl (by simp)) (.int .i64 0)).setCell (p := ⟨w.heap.size + 1, 5, none⟩) (.inl (by simp)) (.int .i64 0)).setCell (p := ⟨w.heap.size + 1, 6, none⟩) (.inl (by simp)) (.int .i64 0)).setCell (p := ⟨w.heap.size + 1, 7, none⟩) (.inl (by simp)) (.int .i64 0)).setCell (p := ⟨w.heap.size + 1, 8, none⟩) (.inl (by simp)) (.int .i64 0)).setCell (p := ⟨w.heap.size + 1, 9, none⟩) (.inl (by simp)) (.slice none 0 0)).setCell (p := ⟨w.heap.size + 1, 10, none⟩) (.inl (by simp)) (.int .i64 0))
  have KF := K3.out.step KL (by simp)
  exact bodyPost_ret (results_ct rfl _ _ (w.heap.size + 1) 36 #[.slice none 0 0, .int .i64 0, .bool false, .bool false, .int .i64 0, .int .i64 0, .int .i64 0, .int .i64 0, .int .i64 0, .slice none 0 0, .int .i64 0] (0, 0) _ rfl FB Try.underlying36 rfl (by kernel_rfl)) rfl ⟨rfl, KF⟩
set_option maxHeartbeats 2000000 in
theorem read_sz1 (hr : Reads w w.heap.size 1 A n (encB bs)) (hc : n ≤ c) (hc2 : c ≤ 9223372036854775807) (hc3 : n ≤ 140737488355328) (t : Nat) (hp : placeF t = 1) (h1 : ¬ s = 0) (hb : bareF t f bs = .ok pad r) (hs : sizeF t f r.length = false) :
    Calls Try.prog 15 #[.agg #[.int .i64 (t : Nat), .int .i64 f.toNat, .int .i64 s, .slice A n c]] w fun e w' =>
      e = .returned (.tuple #[.agg #[.slice none 0 0, .int .i64 0, .bool false, .bool false, .int .i64 0, .int .i64 0, .int .i64 0, .int .i64 0, .int .i64 0, .slice none 0 0, .int .i64 0], .int .i64 6]) ∧ Keep [] w w' := by
  have HB := Lib.hid hb
  have HS := Lib.hid hs
  clear hb hs
  have Hr := Lib.hid hr
  clear hr
  have hpl : placeF t = 1 := hp
  go_enter Try.func15, Try.ntmps15
  go_wp2_with (fail)
  refine (place_ _ t).mono ?_
  rintro e w1 ⟨rfl, k1⟩
  rw [hpl]
  have BF := ((Blk.new w 24 #[.int .i64 (t : Nat), .int .i64 f.toNat, .int .i64 s, .slice A n c]).alloc (.cells (body0 0) 36)).keep k1 (by simp)
  have BR := (Blk.new (w.alloc (.cells #[.int .i64 (t : Nat), .int .i64 f.toNat, .int .i64 s, .slice A n c] 24)) 36 (body0 0)).keep k1 (by simp)
  have K1 := Lib.hid ((((Keep.refl [] w).alloc _).alloc _).trans k1)
  have sz1 := k1.size
  simp at BR sz1
  have l1 : w.heap.size < w1.heap.size := by omega
  have l2 : w.heap.size + 1 < w1.heap.size := by omega
  clear k1 sz1
  have d0 := BF.cell 0
  have d1 := BF.cell 1
  have d2 := BF.cell 2
  have d3 := BF.cell 3
  simp at d0 d1 d2 d3
  go_wp2_with (fail)
  obtain ⟨W2, hW2⟩ : ∃ W2, W2 = w1.alloc (.cells (body0 0) 36) := ⟨_, rfl⟩
  have K2 : Keep [] w1 W2 := by rw [hW2]; exact (Keep.refl _ _).alloc _
  have BO : Blk W2 w1.heap.size 36 (body0 0) := by rw [hW2]; exact Blk.new _ _ _
  have z2 : W2.heap.size = w1.heap.size + 1 := by rw [hW2]; simp
  have hBc := bare_ W2 t f s A n c w1.heap.size BO rfl rfl ((Hr.out.keeps (K1.out.trans K2) (Nat.le_refl _) (by simp)).more (by omega)) hc hc2
  rw [HB.out] at hBc
  show Calls Try.prog 26 _ (w1.alloc (.cells (body0 0) 36)) _
  rw [← hW2]
  refine hBc.mono ?_
  rintro e w2 ⟨A2, c2, rfl, rr, hcr, hcr2, bo, k2⟩
  have K3 := Lib.hid ((K1.out.trans K2).step k2 (by simp; omega))
  have z3 := k2.size
  have BF3 := (BF.keep K2 (by simp)).keep k2 (by simp; omega)
  have BR3 := (BR.keep K2 (by simp)).keep k2 (by simp; omega)
  obtain ⟨ob, hob⟩ : ∃ ob, ob = w1.heap.size := ⟨_, rfl⟩
  rw [← hob] at l1 l2 bo rr z2 ⊢
  have l3 : w.heap.size < w2.heap.size := by omega
  have l4 : w.heap.size + 1 < w2.heap.size := by omega
  have l5 : ob < w2.heap.size := by omega
  clear hBc hW2 BO K2 k2 z2 z3 BF BR hob K1 d0 d1 d2 d3 HB
  have d0 := BF3.cell 0
  have d1 := BF3.cell 1
  have d2 := BF3.cell 2
  have d3 := BF3.cell 3
  simp at d0 d1 d2 d3
  go_wp2_with (fail)
  have hSz := sized_ w2 t f s (Hr.out.keeps K3.out (Nat.le_refl _) (by simp) |>.more K3.out.size) hc hc2 r.length
  rw [HS.out] at hSz
  refine hSz.mono ?_
  rintro e w3 ⟨rfl, k3⟩
  have K4 := Lib.hid (K3.out.trans k3)
  have z4 := k3.size
  have BF4 := BF3.keep k3 (by simp)
  have BR4 := BR3.keep k3 (by simp)
  have bo4 : Blk w3 ob 36 (body0 pad) := bo.keep k3 (by simp)
  have rr4 := Lib.hid (rr.keeps k3 (by omega) (by simp))
  have l6 : w.heap.size < w3.heap.size := by omega
  have l7 : w.heap.size + 1 < w3.heap.size := by omega
  have l8 : ob < w3.heap.size := by omega
  clear hSz BF3 BR3 bo rr l3 l4 l5 k3 z4 d0 d1 d2 d3 K3
  have d0 := BF4.cell 0
  have d1 := BF4.cell 1
  have d2 := BF4.cell 2
  have d3 := BF4.cell 3
  simp at d0 d1 d2 d3
  clear d0 d1 d2 d3 BF4 bo4
  have q0 := BR4.cell 0
  have g0 := BR4.frozen 0
  have q1 := BR4.cell 1
  have g1 := BR4.frozen 1
  have q2 := BR4.cell 2
  have g2 := BR4.frozen 2
  have q3 := BR4.cell 3
  have g3 := BR4.frozen 3
  have q4 := BR4.cell 4
  have g4 := BR4.frozen 4
  have q5 := BR4.cell 5
  have g5 := BR4.frozen 5
  have q6 := BR4.cell 6
  have g6 := BR4.frozen 6
  have q7 := BR4.cell 7
  have g7 := BR4.frozen 7
  have q8 := BR4.cell 8
  have g8 := BR4.frozen 8
  have q9 := BR4.cell 9
  have g9 := BR4.frozen 9
  have q10 := BR4.cell 10
  have g10 := BR4.frozen 10
  simp [body0] at q0 q1 q2 q3 q4 q5 q6 q7 q8 q9 q10
  have TR := Lib.hid BR4
  clear BR4
  go_wp2_with (fail)
  have FB := (((((((((((TR.out.set_ 0 (.slice none 0 0)).set_ 1 (.int .i64 0)).set_ 2 (.bool false)).set_ 3 (.bool false)).set_ 4 (.int .i64 0)).set_ 5 (.int .i64 0)).set_ 6 (.int .i64 0)).set_ 7 (.int .i64 0)).set_ 8 (.int .i64 0)).set_ 9 (.slice none 0 0)).set_ 10 (.int .i64 0))
  simp only [body0, List.setIfInBounds_toArray, List.set_cons_zero, List.set_cons_succ] at FB
  have KL := ((((((((((((Keep.refl [w.heap.size + 1] w3).setCell (p := ⟨w.heap.size + 1, 0, none⟩) (.inl (by simp)) (.slice none 0 0)).setCell (p := ⟨w.heap.size + 1, 1, none⟩) (.inl (by simp)) (.int .i64 0)).setCell (p := ⟨w.heap.size + 1, 2, none⟩) (.inl (by simp)) (.bool false)).setCell (p := ⟨w.heap.size + 1, 3, none⟩) (.inl (by simp)) (.bool false)).setCell (p := ⟨w.heap.size + 1, 4, none⟩) (.inl (by simp)) (.int .i64 0)).setCell (p := ⟨w.heap.size + 1, 5, none⟩) (.inl (by simp)) (.int .i64 0)).setCell (p := ⟨w.heap.size + 1, 6, none⟩) (.inl (by simp)) (.int .i64 0)).setCell (p := ⟨w.heap.size + 1, 7, none⟩) (.inl (by simp)) (.int .i64 0)).setCell (p := ⟨w.heap.size + 1, 8, none⟩) (.inl (by simp)) (.int .i64 0)).setCell (p := ⟨w.heap.size + 1, 9, none⟩) (.inl (by simp)) (.slice none 0 0)).setCell (p := ⟨w.heap.size + 1, 10, none⟩) (.inl (by simp)) (.int .i64 0))
  have KF := K4.out.step KL (by simp)
  exact bodyPost_ret (results_ct rfl _ _ (w.heap.size + 1) 36 #[.slice none 0 0, .int .i64 0, .bool false, .bool false, .int .i64 0, .int .i64 0, .int .i64 0, .int .i64 0, .int .i64 0, .slice none 0 0, .int .i64 0] (0, 0) _ rfl FB Try.underlying36 rfl (by kernel_rfl)) rfl ⟨rfl, KF⟩
set_option maxHeartbeats 2000000 in
theorem read_sz0 (hr : Reads w w.heap.size 1 A n (encB bs)) (hc : n ≤ c) (hc2 : c ≤ 9223372036854775807) (hc3 : n ≤ 140737488355328) (t : Nat) (hp : placeF t = 0) (hb : bareF t f bs = .ok pad r) (hs : sizeF t f r.length = false) :
    Calls Try.prog 15 #[.agg #[.int .i64 (t : Nat), .int .i64 f.toNat, .int .i64 0, .slice A n c]] w fun e w' =>
      e = .returned (.tuple #[.agg #[.slice none 0 0, .int .i64 0, .bool false, .bool false, .int .i64 0, .int .i64 0, .int .i64 0, .int .i64 0, .int .i64 0, .slice none 0 0, .int .i64 0], .int .i64 6]) ∧ Keep [] w w' := by
  have HB := Lib.hid hb
  have HS := Lib.hid hs
  clear hb hs
  have Hr := Lib.hid hr
  clear hr
  have hpl : placeF t = 0 := hp
  go_enter Try.func15, Try.ntmps15
  go_wp2_with (fail)
  refine (place_ _ t).mono ?_
  rintro e w1 ⟨rfl, k1⟩
  rw [hpl]
  have BF := ((Blk.new w 24 #[.int .i64 (t : Nat), .int .i64 f.toNat, .int .i64 0, .slice A n c]).alloc (.cells (body0 0) 36)).keep k1 (by simp)
  have BR := (Blk.new (w.alloc (.cells #[.int .i64 (t : Nat), .int .i64 f.toNat, .int .i64 0, .slice A n c] 24)) 36 (body0 0)).keep k1 (by simp)
  have K1 := Lib.hid ((((Keep.refl [] w).alloc _).alloc _).trans k1)
  have sz1 := k1.size
  simp at BR sz1
  have l1 : w.heap.size < w1.heap.size := by omega
  have l2 : w.heap.size + 1 < w1.heap.size := by omega
  clear k1 sz1
  have d0 := BF.cell 0
  have d1 := BF.cell 1
  have d2 := BF.cell 2
  have d3 := BF.cell 3
  simp at d0 d1 d2 d3
  go_wp2_with (fail)
  obtain ⟨W2, hW2⟩ : ∃ W2, W2 = w1.alloc (.cells (body0 0) 36) := ⟨_, rfl⟩
  have K2 : Keep [] w1 W2 := by rw [hW2]; exact (Keep.refl _ _).alloc _
  have BO : Blk W2 w1.heap.size 36 (body0 0) := by rw [hW2]; exact Blk.new _ _ _
  have z2 : W2.heap.size = w1.heap.size + 1 := by rw [hW2]; simp
  have hBc := bare_ W2 t f 0 A n c w1.heap.size BO rfl rfl ((Hr.out.keeps (K1.out.trans K2) (Nat.le_refl _) (by simp)).more (by omega)) hc hc2
  rw [HB.out] at hBc
  show Calls Try.prog 26 _ (w1.alloc (.cells (body0 0) 36)) _
  rw [← hW2]
  refine hBc.mono ?_
  rintro e w2 ⟨A2, c2, rfl, rr, hcr, hcr2, bo, k2⟩
  have K3 := Lib.hid ((K1.out.trans K2).step k2 (by simp; omega))
  have z3 := k2.size
  have BF3 := (BF.keep K2 (by simp)).keep k2 (by simp; omega)
  have BR3 := (BR.keep K2 (by simp)).keep k2 (by simp; omega)
  obtain ⟨ob, hob⟩ : ∃ ob, ob = w1.heap.size := ⟨_, rfl⟩
  rw [← hob] at l1 l2 bo rr z2 ⊢
  have l3 : w.heap.size < w2.heap.size := by omega
  have l4 : w.heap.size + 1 < w2.heap.size := by omega
  have l5 : ob < w2.heap.size := by omega
  clear hBc hW2 BO K2 k2 z2 z3 BF BR hob K1 d0 d1 d2 d3 HB
  have d0 := BF3.cell 0
  have d1 := BF3.cell 1
  have d2 := BF3.cell 2
  have d3 := BF3.cell 3
  simp at d0 d1 d2 d3
  go_wp2_with (fail)
  have hSz := sized_ w2 t f 0 (Hr.out.keeps K3.out (Nat.le_refl _) (by simp) |>.more K3.out.size) hc hc2 r.length
  rw [HS.out] at hSz
  refine hSz.mono ?_
  rintro e w3 ⟨rfl, k3⟩
  have K4 := Lib.hid (K3.out.trans k3)
  have z4 := k3.size
  have BF4 := BF3.keep k3 (by simp)
  have BR4 := BR3.keep k3 (by simp)
  have bo4 : Blk w3 ob 36 (body0 pad) := bo.keep k3 (by simp)
  have rr4 := Lib.hid (rr.keeps k3 (by omega) (by simp))
  have l6 : w.heap.size < w3.heap.size := by omega
  have l7 : w.heap.size + 1 < w3.heap.size := by omega
  have l8 : ob < w3.heap.size := by omega
  clear hSz BF3 BR3 bo rr l3 l4 l5 k3 z4 d0 d1 d2 d3 K3
  have d0 := BF4.cell 0
  have d1 := BF4.cell 1
  have d2 := BF4.cell 2
  have d3 := BF4.cell 3
  simp at d0 d1 d2 d3
  clear d0 d1 d2 d3 BF4 bo4
  have q0 := BR4.cell 0
  have g0 := BR4.frozen 0
  have q1 := BR4.cell 1
  have g1 := BR4.frozen 1
  have q2 := BR4.cell 2
  have g2 := BR4.frozen 2
  have q3 := BR4.cell 3
  have g3 := BR4.frozen 3
  have q4 := BR4.cell 4
  have g4 := BR4.frozen 4
  have q5 := BR4.cell 5
  have g5 := BR4.frozen 5
  have q6 := BR4.cell 6
  have g6 := BR4.frozen 6
  have q7 := BR4.cell 7
  have g7 := BR4.frozen 7
  have q8 := BR4.cell 8
  have g8 := BR4.frozen 8
  have q9 := BR4.cell 9
  have g9 := BR4.frozen 9
  have q10 := BR4.cell 10
  have g10 := BR4.frozen 10
  simp [body0] at q0 q1 q2 q3 q4 q5 q6 q7 q8 q9 q10
  have TR := Lib.hid BR4
  clear BR4
  go_wp2_with (fail)
  have FB := (((((((((((TR.out.set_ 0 (.slice none 0 0)).set_ 1 (.int .i64 0)).set_ 2 (.bool false)).set_ 3 (.bool false)).set_ 4 (.int .i64 0)).set_ 5 (.int .i64 0)).set_ 6 (.int .i64 0)).set_ 7 (.int .i64 0)).set_ 8 (.int .i64 0)).set_ 9 (.slice none 0 0)).set_ 10 (.int .i64 0))
  simp only [body0, List.setIfInBounds_toArray, List.set_cons_zero, List.set_cons_succ] at FB
  have KL := ((((((((((((Keep.refl [w.heap.size + 1] w3).setCell (p := ⟨w.heap.size + 1, 0, none⟩) (.inl (by simp)) (.slice none 0 0)).setCell (p := ⟨w.heap.size + 1, 1, none⟩) (.inl (by simp)) (.int .i64 0)).setCell (p := ⟨w.heap.size + 1, 2, none⟩) (.inl (by simp)) (.bool false)).setCell (p := ⟨w.heap.size + 1, 3, none⟩) (.inl (by simp)) (.bool false)).setCell (p := ⟨w.heap.size + 1, 4, none⟩) (.inl (by simp)) (.int .i64 0)).setCell (p := ⟨w.heap.size + 1, 5, none⟩) (.inl (by simp)) (.int .i64 0)).setCell (p := ⟨w.heap.size + 1, 6, none⟩) (.inl (by simp)) (.int .i64 0)).setCell (p := ⟨w.heap.size + 1, 7, none⟩) (.inl (by simp)) (.int .i64 0)).setCell (p := ⟨w.heap.size + 1, 8, none⟩) (.inl (by simp)) (.int .i64 0)).setCell (p := ⟨w.heap.size + 1, 9, none⟩) (.inl (by simp)) (.slice none 0 0)).setCell (p := ⟨w.heap.size + 1, 10, none⟩) (.inl (by simp)) (.int .i64 0))
  have KF := K4.out.step KL (by simp)
  exact bodyPost_ret (results_ct rfl _ _ (w.heap.size + 1) 36 #[.slice none 0 0, .int .i64 0, .bool false, .bool false, .int .i64 0, .int .i64 0, .int .i64 0, .int .i64 0, .int .i64 0, .slice none 0 0, .int .i64 0] (0, 0) _ rfl FB Try.underlying36 rfl (by kernel_rfl)) rfl ⟨rfl, KF⟩
set_option maxHeartbeats 2000000 in
theorem read_szx (hr : Reads w w.heap.size 1 A n (encB bs)) (hc : n ≤ c) (hc2 : c ≤ 9223372036854775807) (hc3 : n ≤ 140737488355328) (t : Nat) (hp : placeF t = -1) (hb : bareF t f bs = .ok pad r) (hs : sizeF t f r.length = false) :
    Calls Try.prog 15 #[.agg #[.int .i64 (t : Nat), .int .i64 f.toNat, .int .i64 s, .slice A n c]] w fun e w' =>
      e = .returned (.tuple #[.agg #[.slice none 0 0, .int .i64 0, .bool false, .bool false, .int .i64 0, .int .i64 0, .int .i64 0, .int .i64 0, .int .i64 0, .slice none 0 0, .int .i64 0], .int .i64 6]) ∧ Keep [] w w' := by
  have HB := Lib.hid hb
  have HS := Lib.hid hs
  clear hb hs
  have Hr := Lib.hid hr
  clear hr
  have hpl : placeF t = -1 := hp
  go_enter Try.func15, Try.ntmps15
  go_wp2_with (fail)
  refine (place_ _ t).mono ?_
  rintro e w1 ⟨rfl, k1⟩
  rw [hpl]
  have BF := ((Blk.new w 24 #[.int .i64 (t : Nat), .int .i64 f.toNat, .int .i64 s, .slice A n c]).alloc (.cells (body0 0) 36)).keep k1 (by simp)
  have BR := (Blk.new (w.alloc (.cells #[.int .i64 (t : Nat), .int .i64 f.toNat, .int .i64 s, .slice A n c] 24)) 36 (body0 0)).keep k1 (by simp)
  have K1 := Lib.hid ((((Keep.refl [] w).alloc _).alloc _).trans k1)
  have sz1 := k1.size
  simp at BR sz1
  have l1 : w.heap.size < w1.heap.size := by omega
  have l2 : w.heap.size + 1 < w1.heap.size := by omega
  clear k1 sz1
  have d0 := BF.cell 0
  have d1 := BF.cell 1
  have d2 := BF.cell 2
  have d3 := BF.cell 3
  simp at d0 d1 d2 d3
  go_wp2_with (fail)
  obtain ⟨W2, hW2⟩ : ∃ W2, W2 = w1.alloc (.cells (body0 0) 36) := ⟨_, rfl⟩
  have K2 : Keep [] w1 W2 := by rw [hW2]; exact (Keep.refl _ _).alloc _
  have BO : Blk W2 w1.heap.size 36 (body0 0) := by rw [hW2]; exact Blk.new _ _ _
  have z2 : W2.heap.size = w1.heap.size + 1 := by rw [hW2]; simp
  have hBc := bare_ W2 t f s A n c w1.heap.size BO rfl rfl ((Hr.out.keeps (K1.out.trans K2) (Nat.le_refl _) (by simp)).more (by omega)) hc hc2
  rw [HB.out] at hBc
  show Calls Try.prog 26 _ (w1.alloc (.cells (body0 0) 36)) _
  rw [← hW2]
  refine hBc.mono ?_
  rintro e w2 ⟨A2, c2, rfl, rr, hcr, hcr2, bo, k2⟩
  have K3 := Lib.hid ((K1.out.trans K2).step k2 (by simp; omega))
  have z3 := k2.size
  have BF3 := (BF.keep K2 (by simp)).keep k2 (by simp; omega)
  have BR3 := (BR.keep K2 (by simp)).keep k2 (by simp; omega)
  obtain ⟨ob, hob⟩ : ∃ ob, ob = w1.heap.size := ⟨_, rfl⟩
  rw [← hob] at l1 l2 bo rr z2 ⊢
  have l3 : w.heap.size < w2.heap.size := by omega
  have l4 : w.heap.size + 1 < w2.heap.size := by omega
  have l5 : ob < w2.heap.size := by omega
  clear hBc hW2 BO K2 k2 z2 z3 BF BR hob K1 d0 d1 d2 d3 HB
  have d0 := BF3.cell 0
  have d1 := BF3.cell 1
  have d2 := BF3.cell 2
  have d3 := BF3.cell 3
  simp at d0 d1 d2 d3
  go_wp2_with (fail)
  have hSz := sized_ w2 t f s (Hr.out.keeps K3.out (Nat.le_refl _) (by simp) |>.more K3.out.size) hc hc2 r.length
  rw [HS.out] at hSz
  refine hSz.mono ?_
  rintro e w3 ⟨rfl, k3⟩
  have K4 := Lib.hid (K3.out.trans k3)
  have z4 := k3.size
  have BF4 := BF3.keep k3 (by simp)
  have BR4 := BR3.keep k3 (by simp)
  have bo4 : Blk w3 ob 36 (body0 pad) := bo.keep k3 (by simp)
  have rr4 := Lib.hid (rr.keeps k3 (by omega) (by simp))
  have l6 : w.heap.size < w3.heap.size := by omega
  have l7 : w.heap.size + 1 < w3.heap.size := by omega
  have l8 : ob < w3.heap.size := by omega
  clear hSz BF3 BR3 bo rr l3 l4 l5 k3 z4 d0 d1 d2 d3 K3
  have d0 := BF4.cell 0
  have d1 := BF4.cell 1
  have d2 := BF4.cell 2
  have d3 := BF4.cell 3
  simp at d0 d1 d2 d3
  clear d0 d1 d2 d3 BF4 bo4
  have q0 := BR4.cell 0
  have g0 := BR4.frozen 0
  have q1 := BR4.cell 1
  have g1 := BR4.frozen 1
  have q2 := BR4.cell 2
  have g2 := BR4.frozen 2
  have q3 := BR4.cell 3
  have g3 := BR4.frozen 3
  have q4 := BR4.cell 4
  have g4 := BR4.frozen 4
  have q5 := BR4.cell 5
  have g5 := BR4.frozen 5
  have q6 := BR4.cell 6
  have g6 := BR4.frozen 6
  have q7 := BR4.cell 7
  have g7 := BR4.frozen 7
  have q8 := BR4.cell 8
  have g8 := BR4.frozen 8
  have q9 := BR4.cell 9
  have g9 := BR4.frozen 9
  have q10 := BR4.cell 10
  have g10 := BR4.frozen 10
  simp [body0] at q0 q1 q2 q3 q4 q5 q6 q7 q8 q9 q10
  have TR := Lib.hid BR4
  clear BR4
  go_wp2_with (fail)
  have FB := (((((((((((TR.out.set_ 0 (.slice none 0 0)).set_ 1 (.int .i64 0)).set_ 2 (.bool false)).set_ 3 (.bool false)).set_ 4 (.int .i64 0)).set_ 5 (.int .i64 0)).set_ 6 (.int .i64 0)).set_ 7 (.int .i64 0)).set_ 8 (.int .i64 0)).set_ 9 (.slice none 0 0)).set_ 10 (.int .i64 0))
  simp only [body0, List.setIfInBounds_toArray, List.set_cons_zero, List.set_cons_succ] at FB
  have KL := ((((((((((((Keep.refl [w.heap.size + 1] w3).setCell (p := ⟨w.heap.size + 1, 0, none⟩) (.inl (by simp)) (.slice none 0 0)).setCell (p := ⟨w.heap.size + 1, 1, none⟩) (.inl (by simp)) (.int .i64 0)).setCell (p := ⟨w.heap.size + 1, 2, none⟩) (.inl (by simp)) (.bool false)).setCell (p := ⟨w.heap.size + 1, 3, none⟩) (.inl (by simp)) (.bool false)).setCell (p := ⟨w.heap.size + 1, 4, none⟩) (.inl (by simp)) (.int .i64 0)).setCell (p := ⟨w.heap.size + 1, 5, none⟩) (.inl (by simp)) (.int .i64 0)).setCell (p := ⟨w.heap.size + 1, 6, none⟩) (.inl (by simp)) (.int .i64 0)).setCell (p := ⟨w.heap.size + 1, 7, none⟩) (.inl (by simp)) (.int .i64 0)).setCell (p := ⟨w.heap.size + 1, 8, none⟩) (.inl (by simp)) (.int .i64 0)).setCell (p := ⟨w.heap.size + 1, 9, none⟩) (.inl (by simp)) (.slice none 0 0)).setCell (p := ⟨w.heap.size + 1, 10, none⟩) (.inl (by simp)) (.int .i64 0))
  have KF := K4.out.step KL (by simp)
  exact bodyPost_ret (results_ct rfl _ _ (w.heap.size + 1) 36 #[.slice none 0 0, .int .i64 0, .bool false, .bool false, .int .i64 0, .int .i64 0, .int .i64 0, .int .i64 0, .int .i64 0, .slice none 0 0, .int .i64 0] (0, 0) _ rfl FB Try.underlying36 rfl (by kernel_rfl)) rfl ⟨rfl, KF⟩
set_option maxHeartbeats 2000000 in
theorem read_2 (hr : Reads w w.heap.size 1 A n (encB bs)) (hc : n ≤ c) (hc2 : c ≤ 9223372036854775807) (hc3 : n ≤ 140737488355328) (h1 : ¬ s = 0) (hb : bareF 2 f bs = .ok pad r) (hs : sizeF 2 f r.length = true) :
    Calls Try.prog 15 #[.agg #[.int .i64 (2 : Nat), .int .i64 f.toNat, .int .i64 s, .slice A n c]] w fun e w' =>
      e = .returned (.tuple #[.agg #[.slice none 0 0, .int .i64 pad, .bool true, .bool (exclN (numB (r.take 4))), .int .i64 ((numB (r.take 4) % 2147483648 : Nat) : Int), .int .i64 (((r.getD 4 0).toNat : Int) + 1), .int .i64 0, .int .i64 0, .int .i64 0, .slice none 0 0, .int .i64 0], .int .i64 0]) ∧ Keep [] w w' := by
  have HB := Lib.hid hb
  have HS := Lib.hid hs
  clear hb hs
  have Hr := Lib.hid hr
  clear hr
  have hpl : placeF 2 = 1 := rfl
  go_enter Try.func15, Try.ntmps15
  go_wp2_with (fail)
  refine (place_ _ 2).mono ?_
  rintro e w1 ⟨rfl, k1⟩
  rw [hpl]
  have BF := ((Blk.new w 24 #[.int .i64 (2 : Nat), .int .i64 f.toNat, .int .i64 s, .slice A n c]).alloc (.cells (body0 0) 36)).keep k1 (by simp)
  have BR := (Blk.new (w.alloc (.cells #[.int .i64 (2 : Nat), .int .i64 f.toNat, .int .i64 s, .slice A n c] 24)) 36 (body0 0)).keep k1 (by simp)
  have K1 := Lib.hid ((((Keep.refl [] w).alloc _).alloc _).trans k1)
  have sz1 := k1.size
  simp at BR sz1
  have l1 : w.heap.size < w1.heap.size := by omega
  have l2 : w.heap.size + 1 < w1.heap.size := by omega
  clear k1 sz1
  have d0 := BF.cell 0
  have d1 := BF.cell 1
  have d2 := BF.cell 2
  have d3 := BF.cell 3
  simp at d0 d1 d2 d3
  go_wp2_with (fail)
  obtain ⟨W2, hW2⟩ : ∃ W2, W2 = w1.alloc (.cells (body0 0) 36) := ⟨_, rfl⟩
  have K2 : Keep [] w1 W2 := by rw [hW2]; exact (Keep.refl _ _).alloc _
  have BO : Blk W2 w1.heap.size 36 (body0 0) := by rw [hW2]; exact Blk.new _ _ _
  have z2 : W2.heap.size = w1.heap.size + 1 := by rw [hW2]; simp
  have hBc := bare_ W2 2 f s A n c w1.heap.size BO rfl rfl ((Hr.out.keeps (K1.out.trans K2) (Nat.le_refl _) (by simp)).more (by omega)) hc hc2
  rw [HB.out] at hBc
  show Calls Try.prog 26 _ (w1.alloc (.cells (body0 0) 36)) _
  rw [← hW2]
  refine hBc.mono ?_
  rintro e w2 ⟨A2, c2, rfl, rr, hcr, hcr2, bo, k2⟩
  have K3 := Lib.hid ((K1.out.trans K2).step k2 (by simp; omega))
  have z3 := k2.size
  have BF3 := (BF.keep K2 (by simp)).keep k2 (by simp; omega)
  have BR3 := (BR.keep K2 (by simp)).keep k2 (by simp; omega)
  obtain ⟨ob, hob⟩ : ∃ ob, ob = w1.heap.size := ⟨_, rfl⟩
  rw [← hob] at l1 l2 bo rr z2 ⊢
  have l3 : w.heap.size < w2.heap.size := by omega
  have l4 : w.heap.size + 1 < w2.heap.size := by omega
  have l5 : ob < w2.heap.size := by omega
  clear hBc hW2 BO K2 k2 z2 z3 BF BR hob K1 d0 d1 d2 d3 HB
  have d0 := BF3.cell 0
  have d1 := BF3.cell 1
  have d2 := BF3.cell 2
  have d3 := BF3.cell 3
  simp at d0 d1 d2 d3
  go_wp2_with (fail)
  have hSz := sized_ w2 2 f s (Hr.out.keeps K3.out (Nat.le_refl _) (by simp) |>.more K3.out.size) hc hc2 r.length
  rw [HS.out] at hSz
  refine hSz.mono ?_
  rintro e w3 ⟨rfl, k3⟩
  have K4 := Lib.hid (K3.out.trans k3)
  have z4 := k3.size
  have BF4 := BF3.keep k3 (by simp)
  have BR4 := BR3.keep k3 (by simp)
  have bo4 : Blk w3 ob 36 (body0 pad) := bo.keep k3 (by simp)
  have rr4 := Lib.hid (rr.keeps k3 (by omega) (by simp))
  have l6 : w.heap.size < w3.heap.size := by omega
  have l7 : w.heap.size + 1 < w3.heap.size := by omega
  have l8 : ob < w3.heap.size := by omega
  clear hSz BF3 BR3 bo rr l3 l4 l5 k3 z4 d0 d1 d2 d3 K3
  have d0 := BF4.cell 0
  have d1 := BF4.cell 1
  have d2 := BF4.cell 2
  have d3 := BF4.cell 3
  simp at d0 d1 d2 d3
  have hlr : r.length = 5 := by have := HS.out; simpa [sizeF] using this
  obtain ⟨b2, o2, hA2, hbl, _⟩ := rr4.out.plain (by omega) (by omega)
  subst hA2
  have hPr := prio_ w3 b2 o2 r.length c2 ob bo4 rfl rr4.out (by omega) hcr hcr2
  obtain ⟨N, hN⟩ : ∃ N, N = numB (r.take 4) := ⟨_, rfl⟩
  obtain ⟨x, hx⟩ : ∃ x, x = r.getD 4 0 := ⟨_, rfl⟩
  rw [← hN, ← hx] at hPr
  have HP := Lib.hid hPr
  have HNN := Lib.hid hN
  have HXX := Lib.hid hx
  clear hPr hN hx hlr
  go_wp2_with (fail)
  refine HP.out.mono ?_
  rintro e w4 ⟨rfl, b4, k4⟩
  have K5 := Lib.hid (K4.out.step k4 (by simp; omega))
  have bo5 : Blk w4 ob 36 #[.slice none 0 0, .int .i64 pad, .bool true, .bool (exclN N), .int .i64 ((N % 2147483648 : Nat) : Int), .int .i64 ((x.toNat : Int) + 1), .int .i64 0, .int .i64 0, .int .i64 0, .slice none 0 0, .int .i64 0] := by
    simp only [prioC, body0, List.setIfInBounds_toArray, List.set_cons_zero, List.set_cons_succ] at b4
    exact b4
  have BR5 := BR4.keep k4 (by simp; omega)
  have z5 := k4.size
  have k4' := Lib.hid k4
  clear HP b4 k4
  have ne : ob ≠ w.heap.size + 1 := by omega
  have ne2 : w.heap.size + 1 ≠ ob := by omega
  have TE := Lib.hid bo5
  have TR := Lib.hid BR5
  have e0 := bo5.cell 0
  have e1 := bo5.cell 1
  have e2 := bo5.cell 2
  have e3 := bo5.cell 3
  have e4 := bo5.cell 4
  have e5 := bo5.cell 5
  have e6 := bo5.cell 6
  have e7 := bo5.cell 7
  have e8 := bo5.cell 8
  have e9 := bo5.cell 9
  have e10 := bo5.cell 10
  simp [body0] at e0 e1 e2 e3 e4 e5 e6 e7 e8 e9 e10
  have q0 := BR5.cell 0
  have g0 := BR5.frozen 0
  have q1 := BR5.cell 1
  have g1 := BR5.frozen 1
  have q2 := BR5.cell 2
  have g2 := BR5.frozen 2
  have q3 := BR5.cell 3
  have g3 := BR5.frozen 3
  have q4 := BR5.cell 4
  have g4 := BR5.frozen 4
  have q5 := BR5.cell 5
  have g5 := BR5.frozen 5
  have q6 := BR5.cell 6
  have g6 := BR5.frozen 6
  have q7 := BR5.cell 7
  have g7 := BR5.frozen 7
  have q8 := BR5.cell 8
  have g8 := BR5.frozen 8
  have q9 := BR5.cell 9
  have g9 := BR5.frozen 9
  have q10 := BR5.cell 10
  have g10 := BR5.frozen 10
  simp [body0] at q0 q1 q2 q3 q4 q5 q6 q7 q8 q9 q10
  clear k4' d0 d1 d2 d3 bo4 BR4
  clear bo5 BR5
  go_wp2_with (fail)
  have FB := (((((((((((TR.out.set_ 0 (.slice none 0 0)).set_ 1 (.int .i64 pad)).set_ 2 (.bool true)).set_ 3 (.bool (exclN N))).set_ 4 (.int .i64 ((N % 2147483648 : Nat) : Int))).set_ 5 (.int .i64 ((x.toNat : Int) + 1))).set_ 6 (.int .i64 0)).set_ 7 (.int .i64 0)).set_ 8 (.int .i64 0)).set_ 9 (.slice none 0 0)).set_ 10 (.int .i64 0))
  simp only [body0, List.setIfInBounds_toArray, List.set_cons_zero, List.set_cons_succ] at FB
  have KL := ((((((((((((Keep.refl [ob, w.heap.size + 1] w4).setCell (p := ⟨w.heap.size + 1, 0, none⟩) (.inl (by simp)) (.slice none 0 0)).setCell (p := ⟨w.heap.size + 1, 1, none⟩) (.inl (by simp)) (.int .i64 pad)).setCell (p := ⟨w.heap.size + 1, 2, none⟩) (.inl (by simp)) (.bool true)).setCell (p := ⟨w.heap.size + 1, 3, none⟩) (.inl (by simp)) (.bool (exclN N))).setCell (p := ⟨w.heap.size + 1, 4, none⟩) (.inl (by simp)) (.int .i64 ((N % 2147483648 : Nat) : Int))).setCell (p := ⟨w.heap.size + 1, 5, none⟩) (.inl (by simp)) (.int .i64 ((x.toNat : Int) + 1))).setCell (p := ⟨w.heap.size + 1, 6, none⟩) (.inl (by simp)) (.int .i64 0)).setCell (p := ⟨w.heap.size + 1, 7, none⟩) (.inl (by simp)) (.int .i64 0)).setCell (p := ⟨w.heap.size + 1, 8, none⟩) (.inl (by simp)) (.int .i64 0)).setCell (p := ⟨w.heap.size + 1, 9, none⟩) (.inl (by simp)) (.slice none 0 0)).setCell (p := ⟨w.heap.size + 1, 10, none⟩) (.inl (by simp)) (.int .i64 0))
  have KF := K5.out.step KL (by simp; omega)
  refine bodyPost_ret (results_ct rfl _ _ (w.heap.size + 1) 36 #[.slice none 0 0, .int .i64 pad, .bool true, .bool (exclN N), .int .i64 ((N % 2147483648 : Nat) : Int), .int .i64 ((x.toNat : Int) + 1), .int .i64 0, .int .i64 0, .int .i64 0, .slice none 0 0, .int .i64 0] (0, 0) _ rfl FB Try.underlying36 rfl (by kernel_rfl)) rfl ?_
  rw [← HNN.out, ← HXX.out]
  exact ⟨rfl, KF⟩
set_option maxHeartbeats 2000000 in
theorem read_1p (hr : Reads w w.heap.size 1 A n (encB bs)) (hc : n ≤ c) (hc2 : c ≤ 9223372036854775807) (hc3 : n ≤ 140737488355328) (hrl : r.length ≤ 140737488355328) (h1 : ¬ s = 0) (hf : onF f 32 = true) (hb : bareF 1 f bs = .ok pad r) (hs : sizeF 1 f r.length = true) :
    Calls Try.prog 15 #[.agg #[.int .i64 (1 : Nat), .int .i64 f.toNat, .int .i64 s, .slice A n c]] w fun e w' =>
      ∃ v, e = .returned (.tuple #[.agg #[v, .int .i64 pad, .bool true, .bool (exclN (numB (r.take 4))), .int .i64 ((numB (r.take 4) % 2147483648 : Nat) : Int), .int .i64 (((r.getD 4 0).toNat : Int) + 1), .int .i64 0, .int .i64 0, .int .i64 0, .slice none 0 0, .int .i64 0], .int .i64 0]) ∧ Row1 w' w.heap.size 5 v (encB (r.drop 5)) ∧ Keep [] w w' := by
  have HB := Lib.hid hb
  have HS := Lib.hid hs
  have HF := Lib.hid hf
  clear hb hs
  have Hr := Lib.hid hr
  clear hr
  have hpl : placeF 1 = 1 := rfl
  go_enter Try.func15, Try.ntmps15
  go_wp2_with (fail)
  refine (place_ _ 1).mono ?_
  rintro e w1 ⟨rfl, k1⟩
  rw [hpl]
  have BF := ((Blk.new w 24 #[.int .i64 (1 : Nat), .int .i64 f.toNat, .int .i64 s, .slice A n c]).alloc (.cells (body0 0) 36)).keep k1 (by simp)
  have BR := (Blk.new (w.alloc (.cells #[.int .i64 (1 : Nat), .int .i64 f.toNat, .int .i64 s, .slice A n c] 24)) 36 (body0 0)).keep k1 (by simp)
  have K1 := Lib.hid ((((Keep.refl [] w).alloc _).alloc _).trans k1)
  have sz1 := k1.size
  simp at BR sz1
  have l1 : w.heap.size < w1.heap.size := by omega
  have l2 : w.heap.size + 1 < w1.heap.size := by omega
  clear k1 sz1
  have d0 := BF.cell 0
  have d1 := BF.cell 1
  have d2 := BF.cell 2
  have d3 := BF.cell 3
  simp at d0 d1 d2 d3
  go_wp2_with (fail)
  obtain ⟨W2, hW2⟩ : ∃ W2, W2 = w1.alloc (.cells (body0 0) 36) := ⟨_, rfl⟩
  have K2 : Keep [] w1 W2 := by rw [hW2]; exact (Keep.refl _ _).alloc _
  have BO : Blk W2 w1.heap.size 36 (body0 0) := by rw [hW2]; exact Blk.new _ _ _
  have z2 : W2.heap.size = w1.heap.size + 1 := by rw [hW2]; simp
  have hBc := bare_ W2 1 f s A n c w1.heap.size BO rfl rfl ((Hr.out.keeps (K1.out.trans K2) (Nat.le_refl _) (by simp)).more (by omega)) hc hc2
  rw [HB.out] at hBc
  show Calls Try.prog 26 _ (w1.alloc (.cells (body0 0) 36)) _
  rw [← hW2]
  refine hBc.mono ?_
  rintro e w2 ⟨A2, c2, rfl, rr, hcr, hcr2, bo, k2⟩
  have K3 := Lib.hid ((K1.out.trans K2).step k2 (by simp; omega))
  have z3 := k2.size
  have BF3 := (BF.keep K2 (by simp)).keep k2 (by simp; omega)
  have BR3 := (BR.keep K2 (by simp)).keep k2 (by simp; omega)
  obtain ⟨ob, hob⟩ : ∃ ob, ob = w1.heap.size := ⟨_, rfl⟩
  rw [← hob] at l1 l2 bo rr z2 ⊢
  have l3 : w.heap.size < w2.heap.size := by omega
  have l4 : w.heap.size + 1 < w2.heap.size := by omega
  have l5 : ob < w2.heap.size := by omega
  clear hBc hW2 BO K2 k2 z2 z3 BF BR hob K1 d0 d1 d2 d3 HB
  have d0 := BF3.cell 0
  have d1 := BF3.cell 1
  have d2 := BF3.cell 2
  have d3 := BF3.cell 3
  simp at d0 d1 d2 d3
  have h32 : f.toNat / 32 % 2 * 32 = 32 := by
    simp [onF] at hf
    omega
  have h32 : bits .and .i64 (f.toNat : Int) 32 = 32 := by have := and32 f; rw [h32] at this; exact this
  clear hf
  go_wp2_with (fail)
  have hSz := sized_ w2 1 f s (Hr.out.keeps K3.out (Nat.le_refl _) (by simp) |>.more K3.out.size) hc hc2 r.length
  rw [HS.out] at hSz
  refine hSz.mono ?_
  rintro e w3 ⟨rfl, k3⟩
  have K4 := Lib.hid (K3.out.trans k3)
  have z4 := k3.size
  have BF4 := BF3.keep k3 (by simp)
  have BR4 := BR3.keep k3 (by simp)
  have bo4 : Blk w3 ob 36 (body0 pad) := bo.keep k3 (by simp)
  have rr4 := Lib.hid (rr.keeps k3 (by omega) (by simp))
  have l6 : w.heap.size < w3.heap.size := by omega
  have l7 : w.heap.size + 1 < w3.heap.size := by omega
  have l8 : ob < w3.heap.size := by omega
  clear hSz BF3 BR3 bo rr l3 l4 l5 k3 z4 d0 d1 d2 d3 K3
  have d0 := BF4.cell 0
  have d1 := BF4.cell 1
  have d2 := BF4.cell 2
  have d3 := BF4.cell 3
  simp at d0 d1 d2 d3
  have hlr : 5 ≤ r.length := by have := HS.out; have hf := HF.out; simpa [sizeF, hf] using this
  have HLR := Lib.hid hlr
  obtain ⟨b2, o2, hA2, hbl, _⟩ := rr4.out.plain (by omega) (by omega)
  subst hA2
  have hPr := prio_ w3 b2 o2 r.length c2 ob bo4 rfl rr4.out (by omega) hcr hcr2
  obtain ⟨N, hN⟩ : ∃ N, N = numB (r.take 4) := ⟨_, rfl⟩
  obtain ⟨x, hx⟩ : ∃ x, x = r.getD 4 0 := ⟨_, rfl⟩
  rw [← hN, ← hx] at hPr
  have HP := Lib.hid hPr
  have HNN := Lib.hid hN
  have HXX := Lib.hid hx
  clear hPr hN hx hlr
  go_wp2_with (fail)
  refine HP.out.mono ?_
  rintro e w4 ⟨rfl, b4, k4⟩
  have K5 := Lib.hid (K4.out.step k4 (by simp; omega))
  have bo5 : Blk w4 ob 36 #[.slice none 0 0, .int .i64 pad, .bool true, .bool (exclN N), .int .i64 ((N % 2147483648 : Nat) : Int), .int .i64 ((x.toNat : Int) + 1), .int .i64 0, .int .i64 0, .int .i64 0, .slice none 0 0, .int .i64 0] := by
    simp only [prioC, body0, List.setIfInBounds_toArray, List.set_cons_zero, List.set_cons_succ] at b4
    exact b4
  have BR5 := BR4.keep k4 (by simp; omega)
  have z5 := k4.size
  have k4' := Lib.hid k4
  clear HP b4 k4
  have hk1 : (5 : Int) ≤ (r.length : Int) := by have := HLR.out; omega
  by_cases hc5 : c2 = 5
  · have hl5 : r.length = 5 := by have := HLR.out; omega
    have rd5 : Reads w4 ob 1 (some ⟨b2, o2, none⟩) (r.length - 5) (encB (r.drop 5)) := ⟨by rw [encB_len, List.length_drop]; omega, fun h => absurd h (by omega)⟩
    clear hl5
    go_wp2_with (fail)
    refine (clone w4 (c := 0) rd5 (by omega) (by omega)).mono ?_
    rintro e w5 ⟨v5, rfl, r5, k5⟩
    have K6 := Lib.hid (K5.out.trans k5)
    have bo6 := bo5.keep k5 (by simp)
    have BR6 := BR5.keep k5 (by simp)
    have z6 := k5.size
    have HRow := Lib.hid r5
    obtain ⟨A4, m4, cap4, hv4⟩ : ∃ A4 m4 cap4, v5 = .slice A4 m4 cap4 := by
      obtain ⟨A4, cap4, e, _⟩ := r5.reads
      exact ⟨A4, _, cap4, e⟩
    subst hv4
    clear r5 k5 rd5 bo5 BR5
    have bo5 := bo6
    have BR5 := BR6
    clear bo6 BR6
    have ne : ob ≠ w.heap.size + 1 := by omega
    have ne2 : w.heap.size + 1 ≠ ob := by omega
    have TE := Lib.hid bo5
    have TR := Lib.hid BR5
    have e0 := bo5.cell 0
    have e1 := bo5.cell 1
    have e2 := bo5.cell 2
    have e3 := bo5.cell 3
    have e4 := bo5.cell 4
    have e5 := bo5.cell 5
    have e6 := bo5.cell 6
    have e7 := bo5.cell 7
    have e8 := bo5.cell 8
    have e9 := bo5.cell 9
    have e10 := bo5.cell 10
    simp [body0] at e0 e1 e2 e3 e4 e5 e6 e7 e8 e9 e10
    have og0 := bo5.frozen 0
    have q0 := BR5.cell 0
    have g0 := BR5.frozen 0
    have q1 := BR5.cell 1
    have g1 := BR5.frozen 1
    have q2 := BR5.cell 2
    have g2 := BR5.frozen 2
    have q3 := BR5.cell 3
    have g3 := BR5.frozen 3
    have q4 := BR5.cell 4
    have g4 := BR5.frozen 4
    have q5 := BR5.cell 5
    have g5 := BR5.frozen 5
    have q6 := BR5.cell 6
    have g6 := BR5.frozen 6
    have q7 := BR5.cell 7
    have g7 := BR5.frozen 7
    have q8 := BR5.cell 8
    have g8 := BR5.frozen 8
    have q9 := BR5.cell 9
    have g9 := BR5.frozen 9
    have q10 := BR5.cell 10
    have g10 := BR5.frozen 10
    simp [body0] at q0 q1 q2 q3 q4 q5 q6 q7 q8 q9 q10
    clear k4' d0 d1 d2 d3 bo4 BR4
    clear bo5 BR5
    go_wp2_with (fail)
    have FB := ((((((((((((TR.out.far (p := ⟨ob, 0, none⟩) ne2 (.slice A4 m4 cap4)).set_ 0 (.slice A4 m4 cap4)).set_ 1 (.int .i64 pad)).set_ 2 (.bool true)).set_ 3 (.bool (exclN N))).set_ 4 (.int .i64 ((N % 2147483648 : Nat) : Int))).set_ 5 (.int .i64 ((x.toNat : Int) + 1))).set_ 6 (.int .i64 0)).set_ 7 (.int .i64 0)).set_ 8 (.int .i64 0)).set_ 9 (.slice none 0 0)).set_ 10 (.int .i64 0))
    simp only [body0, List.setIfInBounds_toArray, List.set_cons_zero, List.set_cons_succ] at FB
    have KL := (((((((((((((Keep.refl [ob, w.heap.size + 1] w5).setCell (p := ⟨ob, 0, none⟩) (.inl (by simp)) (.slice A4 m4 cap4)).setCell (p := ⟨w.heap.size + 1, 0, none⟩) (.inl (by simp)) (.slice A4 m4 cap4)).setCell (p := ⟨w.heap.size + 1, 1, none⟩) (.inl (by simp)) (.int .i64 pad)).setCell (p := ⟨w.heap.size + 1, 2, none⟩) (.inl (by simp)) (.bool true)).setCell (p := ⟨w.heap.size + 1, 3, none⟩) (.inl (by simp)) (.bool (exclN N))).setCell (p := ⟨w.heap.size + 1, 4, none⟩) (.inl (by simp)) (.int .i64 ((N % 2147483648 : Nat) : Int))).setCell (p := ⟨w.heap.size + 1, 5, none⟩) (.inl (by simp)) (.int .i64 ((x.toNat : Int) + 1))).setCell (p := ⟨w.heap.size + 1, 6, none⟩) (.inl (by simp)) (.int .i64 0)).setCell (p := ⟨w.heap.size + 1, 7, none⟩) (.inl (by simp)) (.int .i64 0)).setCell (p := ⟨w.heap.size + 1, 8, none⟩) (.inl (by simp)) (.int .i64 0)).setCell (p := ⟨w.heap.size + 1, 9, none⟩) (.inl (by simp)) (.slice none 0 0)).setCell (p := ⟨w.heap.size + 1, 10, none⟩) (.inl (by simp)) (.int .i64 0))
    have KF := K6.out.step KL (by simp; omega)
    refine bodyPost_ret (results_ct rfl _ _ (w.heap.size + 1) 36 #[.slice A4 m4 cap4, .int .i64 pad, .bool true, .bool (exclN N), .int .i64 ((N % 2147483648 : Nat) : Int), .int .i64 ((x.toNat : Int) + 1), .int .i64 0, .int .i64 0, .int .i64 0, .slice none 0 0, .int .i64 0] (0, 0) _ rfl FB Try.underlying36 rfl (by kernel_rfl)) rfl ?_
    rw [← HNN.out, ← HXX.out]
    exact ⟨_, rfl, (HRow.out.keep KL (fun g hg => by have := HRow.out.lt g hg; simp; omega)).lower (by omega), KF⟩
  · have rr5 := rr4.out.kept k4'.out (by omega) (fun _ ad e => by injection e with e; subst e; simp at hbl ⊢; omega)
    have rd5 := reads_from rr5 5 HLR.out
    clear rr5
    go_wp2_with (fail)
    refine (clone w4 (c := c2 - 5) rd5 (by omega) (by omega)).mono ?_
    rintro e w5 ⟨v5, rfl, r5, k5⟩
    have K6 := Lib.hid (K5.out.trans k5)
    have bo6 := bo5.keep k5 (by simp)
    have BR6 := BR5.keep k5 (by simp)
    have z6 := k5.size
    have HRow := Lib.hid r5
    obtain ⟨A4, m4, cap4, hv4⟩ : ∃ A4 m4 cap4, v5 = .slice A4 m4 cap4 := by
      obtain ⟨A4, cap4, e, _⟩ := r5.reads
      exact ⟨A4, _, cap4, e⟩
    subst hv4
    clear r5 k5 rd5 bo5 BR5
    have bo5 := bo6
    have BR5 := BR6
    clear bo6 BR6
    have ne : ob ≠ w.heap.size + 1 := by omega
    have ne2 : w.heap.size + 1 ≠ ob := by omega
    have TE := Lib.hid bo5
    have TR := Lib.hid BR5
    have e0 := bo5.cell 0
    have e1 := bo5.cell 1
    have e2 := bo5.cell 2
    have e3 := bo5.cell 3
    have e4 := bo5.cell 4
    have e5 := bo5.cell 5
    have e6 := bo5.cell 6
    have e7 := bo5.cell 7
    have e8 := bo5.cell 8
    have e9 := bo5.cell 9
    have e10 := bo5.cell 10
    simp [body0] at e0 e1 e2 e3 e4 e5 e6 e7 e8 e9 e10
    have og0 := bo5.frozen 0
    have q0 := BR5.cell 0
    have g0 := BR5.frozen 0
    have q1 := BR5.cell 1
    have g1 := BR5.frozen 1
    have q2 := BR5.cell 2
    have g2 := BR5.frozen 2
    have q3 := BR5.cell 3
    have g3 := BR5.frozen 3
    have q4 := BR5.cell 4
    have g4 := BR5.frozen 4
    have q5 := BR5.cell 5
    have g5 := BR5.frozen 5
    have q6 := BR5.cell 6
    have g6 := BR5.frozen 6
    have q7 := BR5.cell 7
    have g7 := BR5.frozen 7
    have q8 := BR5.cell 8
    have g8 := BR5.frozen 8
    have q9 := BR5.cell 9
    have g9 := BR5.frozen 9
    have q10 := BR5.cell 10
    have g10 := BR5.frozen 10
    simp [body0] at q0 q1 q2 q3 q4 q5 q6 q7 q8 q9 q10
    clear k4' d0 d1 d2 d3 bo4 BR4
    clear bo5 BR5
    go_wp2_with (fail)
    have FB := ((((((((((((TR.out.far (p := ⟨ob, 0, none⟩) ne2 (.slice A4 m4 cap4)).set_ 0 (.slice A4 m4 cap4)).set_ 1 (.int .i64 pad)).set_ 2 (.bool true)).set_ 3 (.bool (exclN N))).set_ 4 (.int .i64 ((N % 2147483648 : Nat) : Int))).set_ 5 (.int .i64 ((x.toNat : Int) + 1))).set_ 6 (.int .i64 0)).set_ 7 (.int .i64 0)).set_ 8 (.int .i64 0)).set_ 9 (.slice none 0 0)).set_ 10 (.int .i64 0))
    simp only [body0, List.setIfInBounds_toArray, List.set_cons_zero, List.set_cons_succ] at FB
    have KL := (((((((((((((Keep.refl [ob, w.heap.size + 1] w5).setCell (p := ⟨ob, 0, none⟩) (.inl (by simp)) (.slice A4 m4 cap4)).setCell (p := ⟨w.heap.size + 1, 0, none⟩) (.inl (by simp)) (.slice A4 m4 cap4)).setCell (p := ⟨w.heap.size + 1, 1, none⟩) (.inl (by simp)) (.int .i64 pad)).setCell (p := ⟨w.heap.size + 1, 2, none⟩) (.inl (by simp)) (.bool true)).setCell (p := ⟨w.heap.size + 1, 3, none⟩) (.inl (by simp)) (.bool (exclN N))).setCell (p := ⟨w.heap.size + 1, 4, none⟩) (.inl (by simp)) (.int .i64 ((N % 2147483648 : Nat) : Int))).setCell (p := ⟨w.heap.size + 1, 5, none⟩) (.inl (by simp)) (.int .i64 ((x.toNat : Int) + 1))).setCell (p := ⟨w.heap.size + 1, 6, none⟩) (.inl (by simp)) (.int .i64 0)).setCell (p := ⟨w.heap.size + 1, 7, none⟩) (.inl (by simp)) (.int .i64 0)).setCell (p := ⟨w.heap.size + 1, 8, none⟩) (.inl (by simp)) (.int .i64 0)).setCell (p := ⟨w.heap.size + 1, 9, none⟩) (.inl (by simp)) (.slice none 0 0)).setCell (p := ⟨w.heap.size + 1, 10, none⟩) (.inl (by simp)) (.int .i64 0))
    have KF := K6.out.step KL (by simp; omega)
    refine bodyPost_ret (results_ct rfl _ _ (w.heap.size + 1) 36 #[.slice A4 m4 cap4, .int .i64 pad, .bool true, .bool (exclN N), .int .i64 ((N % 2147483648 : Nat) : Int), .int .i64 ((x.toNat : Int) + 1), .int .i64 0, .int .i64 0, .int .i64 0, .slice none 0 0, .int .i64 0] (0, 0) _ rfl FB Try.underlying36 rfl (by kernel_rfl)) rfl ?_
    rw [← HNN.out, ← HXX.out]
    exact ⟨_, rfl, (HRow.out.keep KL (fun g hg => by have := HRow.out.lt g hg; simp; omega)).lower (by omega), KF⟩
set_option maxHeartbeats 2000000 in
theorem read_5 (hr : Reads w w.heap.size 1 A n (encB bs)) (hc : n ≤ c) (hc2 : c ≤ 9223372036854775807) (hc3 : n ≤ 140737488355328) (hrl : r.length ≤ 140737488355328) (h1 : ¬ s = 0) (hb : bareF 5 f bs = .ok pad r) (hs : sizeF 5 f r.length = true) :
    Calls Try.prog 15 #[.agg #[.int .i64 (5 : Nat), .int .i64 f.toNat, .int .i64 s, .slice A n c]] w fun e w' =>
      ∃ v, e = .returned (.tuple #[.agg #[v, .int .i64 pad, .bool false, .bool false, .int .i64 0, .int .i64 0, .int .i64 0, .int .i64 0, .int .i64 0, .slice none 0 0, .int .i64 ((numB (r.take 4) % 2147483648 : Nat) : Int)], .int .i64 0]) ∧ Row1 w' w.heap.size 5 v (encB (r.drop 4)) ∧ Keep [] w w' := by
  have HB := Lib.hid hb
  have HS := Lib.hid hs
  clear hb hs
  have Hr := Lib.hid hr
  clear hr
  have hpl : placeF 5 = 1 := rfl
  go_enter Try.func15, Try.ntmps15
  go_wp2_with (fail)
  refine (place_ _ 5).mono ?_
  rintro e w1 ⟨rfl, k1⟩
  rw [hpl]
  have BF := ((Blk.new w 24 #[.int .i64 (5 : Nat), .int .i64 f.toNat, .int .i64 s, .slice A n c]).alloc (.cells (body0 0) 36)).keep k1 (by simp)
  have BR := (Blk.new (w.alloc (.cells #[.int .i64 (5 : Nat), .int .i64 f.toNat, .int .i64 s, .slice A n c] 24)) 36 (body0 0)).keep k1 (by simp)
  have K1 := Lib.hid ((((Keep.refl [] w).alloc _).alloc _).trans k1)
  have sz1 := k1.size
  simp at BR sz1
  have l1 : w.heap.size < w1.heap.size := by omega
  have l2 : w.heap.size + 1 < w1.heap.size := by omega
  clear k1 sz1
  have d0 := BF.cell 0
  have d1 := BF.cell 1
  have d2 := BF.cell 2
  have d3 := BF.cell 3
  simp at d0 d1 d2 d3
  go_wp2_with (fail)
  obtain ⟨W2, hW2⟩ : ∃ W2, W2 = w1.alloc (.cells (body0 0) 36) := ⟨_, rfl⟩
  have K2 : Keep [] w1 W2 := by rw [hW2]; exact (Keep.refl _ _).alloc _
  have BO : Blk W2 w1.heap.size 36 (body0 0) := by rw [hW2]; exact Blk.new _ _ _
  have z2 : W2.heap.size = w1.heap.size + 1 := by rw [hW2]; simp
  have hBc := bare_ W2 5 f s A n c w1.heap.size BO rfl rfl ((Hr.out.keeps (K1.out.trans K2) (Nat.le_refl _) (by simp)).more (by omega)) hc hc2
  rw [HB.out] at hBc
  show Calls Try.prog 26 _ (w1.alloc (.cells (body0 0) 36)) _
  rw [← hW2]
  refine hBc.mono ?_
  rintro e w2 ⟨A2, c2, rfl, rr, hcr, hcr2, bo, k2⟩
  have K3 := Lib.hid ((K1.out.trans K2).step k2 (by simp; omega))
  have z3 := k2.size
  have BF3 := (BF.keep K2 (by simp)).keep k2 (by simp; omega)
  have BR3 := (BR.keep K2 (by simp)).keep k2 (by simp; omega)
  obtain ⟨ob, hob⟩ : ∃ ob, ob = w1.heap.size := ⟨_, rfl⟩
  rw [← hob] at l1 l2 bo rr z2 ⊢
  have l3 : w.heap.size < w2.heap.size := by omega
  have l4 : w.heap.size + 1 < w2.heap.size := by omega
  have l5 : ob < w2.heap.size := by omega
  clear hBc hW2 BO K2 k2 z2 z3 BF BR hob K1 d0 d1 d2 d3 HB
  have d0 := BF3.cell 0
  have d1 := BF3.cell 1
  have d2 := BF3.cell 2
  have d3 := BF3.cell 3
  simp at d0 d1 d2 d3
  go_wp2_with (fail)
  have hSz := sized_ w2 5 f s (Hr.out.keeps K3.out (Nat.le_refl _) (by simp) |>.more K3.out.size) hc hc2 r.length
  rw [HS.out] at hSz
  refine hSz.mono ?_
  rintro e w3 ⟨rfl, k3⟩
  have K4 := Lib.hid (K3.out.trans k3)
  have z4 := k3.size
  have BF4 := BF3.keep k3 (by simp)
  have BR4 := BR3.keep k3 (by simp)
  have bo4 : Blk w3 ob 36 (body0 pad) := bo.keep k3 (by simp)
  have rr4 := Lib.hid (rr.keeps k3 (by omega) (by simp))
  have l6 : w.heap.size < w3.heap.size := by omega
  have l7 : w.heap.size + 1 < w3.heap.size := by omega
  have l8 : ob < w3.heap.size := by omega
  clear hSz BF3 BR3 bo rr l3 l4 l5 k3 z4 d0 d1 d2 d3 K3
  have d0 := BF4.cell 0
  have d1 := BF4.cell 1
  have d2 := BF4.cell 2
  have d3 := BF4.cell 3
  simp at d0 d1 d2 d3
  have hlr : 4 ≤ r.length := by have := HS.out; simpa [sizeF] using this
  have HLR := Lib.hid hlr
  obtain ⟨b2, o2, hA2, hbl, _⟩ := rr4.out.plain (by omega) (by omega)
  subst hA2
  have hnu := fun (W : World) (k : Keep [ob] w3 W) => number_ (c := c2) W (reads_mid (rr4.out.kept k (by omega) (fun _ ad e => by injection e with e; subst e; simp at hbl ⊢; omega)) 0 4 (by omega) (by omega)) (by omega)
  have hlt : numB ((r.drop 0).take 4) < 4294967296 := numB_lt4 _ (by rw [List.length_take, List.drop_zero]; omega)
  rw [List.drop_zero] at hlt
  have hnu : ∀ (W : World), Keep [ob] w3 W → Calls Try.prog 23 #[.slice (some ⟨b2, o2, none⟩) 4 c2] W fun e w' => e = .returned (.int .i64 (numB (r.take 4))) ∧ W = w' := hnu
  obtain ⟨N, hN⟩ : ∃ N, N = numB (r.take 4) := ⟨_, rfl⟩
  rw [← hN] at hnu hlt
  have HNU := Lib.hid hnu
  have HA := Lib.hid (i64_and31 N (by omega))
  have HNN := Lib.hid hN
  have k41 : (4 : Int) ≤ (r.length : Int) := by omega
  have k42 : (4 : Int) ≤ (c2 : Int) := by omega
  clear hnu hN hlr hlt
  by_cases hc4 : c2 = 4
  · have rd : Reads w3.drew ob 1 (some ⟨b2, o2, none⟩) (r.length - 4) (encB (r.drop 4)) := ⟨by rw [encB_len, List.length_drop]; omega, fun h => absurd h (by omega)⟩
    go_wp2_with (fail)
    refine wpIn_wide.1 (region_rtc (n := 0) [(6, true), (8, true), (10, false)] []
      [(0, .slice (some ⟨b2, o2, none⟩) r.length c2), (1, .slice (some ⟨b2, o2, none⟩) 4 c2), (2, .int .i64 N), (3, .int .i64 ((N % 2147483648 : Nat) : Int)), (4, .slice (some ⟨b2, o2, none⟩) r.length c2), (5, .slice (some ⟨b2, o2, none⟩) (r.length - 4) (0)), (7, .pointer (some ⟨ob, 10, none⟩)), (9, .pointer (some ⟨ob, 0, none⟩))]
      (fun W => Keep [ob] w3 W) (by kernel_rfl) (by kernel_rfl) ((Keep.refl _ _).drew) ?_ ?_)
    · simp only [evOkC, putAll, List.getElem?_toArray, List.getElem?_cons_zero, List.getElem?_cons_succ, Option.bind_some, Act.put, List.setIfInBounds_toArray, List.set_cons_zero, List.set_cons_succ]
      repeat' apply And.intro
      all_goals first
        | exact trivial
        | (intro W hW; refine gives_read rfl ?_; have ha := HA.out; simp [go_sem, Addr.add, ha, k41, k42, hc4]; done)
        | (intro W hW; unfold GivesV; simp [go_sem]; refine ⟨trivial, rfl, (callsIn_wide.2 (HNU.out W hW)).mono ?_⟩; rintro e w' ⟨rfl, rfl⟩; exact ⟨rfl, rfl⟩)
    · simp only [putAll, List.getElem?_toArray, List.getElem?_cons_zero, List.getElem?_cons_succ, Option.bind_some, Act.put, List.setIfInBounds_toArray, List.set_cons_zero, List.set_cons_succ]
      refine tail_wanted rfl rfl ?_
      simp [go_sem]
      refine ⟨trivial, rfl, (callsIn_wide.2 (clone w3.drew (c := 0) rd (show ob ≤ w3.heap.size by omega) (by omega))).mono ?_⟩
      rintro e w4 ⟨v4, rfl, r4, k4⟩
      have k4 := k4.undrew
      have K5 := Lib.hid (K4.out.trans k4)
      have bo5 := bo4.keep k4 (by simp)
      have BR5 := BR4.keep k4 (by simp)
      have z5 := k4.size
      have HRow := Lib.hid r4
      obtain ⟨A4, m4, cap4, hv4⟩ : ∃ A4 m4 cap4, v4 = .slice A4 m4 cap4 := by
        obtain ⟨A4, cap4, e, _⟩ := r4.reads
        exact ⟨A4, _, cap4, e⟩
      subst hv4
      clear r4 rd
      refine ⟨⟨k4.more (by simp), gHolds_none rfl⟩, ?_⟩
      have e0 := bo5.cell 0
      have e10 := bo5.cell 10
      have og0 := bo5.frozen 0
      have og10 := bo5.frozen 10
      simp [body0] at e0 e10
      refine tail_wanted rfl rfl ?_
      simp [go_sem, e10, og10]
      refine ⟨⟨(k4.more (by simp)).setCell (p := ⟨ob, 10, none⟩) (.inl (by simp)) _, gHolds_none rfl⟩, ?_⟩
      refine tail_wanted rfl rfl ?_
      simp [go_sem, e0, og0]
      refine ⟨gHolds_none rfl, ?_⟩
      unfold wpTailG
      go_at_K
      clear e0 e10 og0 og10 k4
      have ne : ob ≠ w.heap.size + 1 := by omega
      have ne2 : w.heap.size + 1 ≠ ob := by omega
      have TE := Lib.hid bo5
      have TR := Lib.hid BR5
      have e0 := bo5.cell 0
      have e1 := bo5.cell 1
      have e2 := bo5.cell 2
      have e3 := bo5.cell 3
      have e4 := bo5.cell 4
      have e5 := bo5.cell 5
      have e6 := bo5.cell 6
      have e7 := bo5.cell 7
      have e8 := bo5.cell 8
      have e9 := bo5.cell 9
      have e10 := bo5.cell 10
      simp [body0] at e0 e1 e2 e3 e4 e5 e6 e7 e8 e9 e10
      have og10 := bo5.frozen 10
      have og0 := bo5.frozen 0
      have q0 := BR5.cell 0
      have g0 := BR5.frozen 0
      have q1 := BR5.cell 1
      have g1 := BR5.frozen 1
      have q2 := BR5.cell 2
      have g2 := BR5.frozen 2
      have q3 := BR5.cell 3
      have g3 := BR5.frozen 3
      have q4 := BR5.cell 4
      have g4 := BR5.frozen 4
      have q5 := BR5.cell 5
      have g5 := BR5.frozen 5
      have q6 := BR5.cell 6
      have g6 := BR5.frozen 6
      have q7 := BR5.cell 7
      have g7 := BR5.frozen 7
      have q8 := BR5.cell 8
      have g8 := BR5.frozen 8
      have q9 := BR5.cell 9
      have g9 := BR5.frozen 9
      have q10 := BR5.cell 10
      have g10 := BR5.frozen 10
      simp [body0] at q0 q1 q2 q3 q4 q5 q6 q7 q8 q9 q10
      clear HNU HA k41 k42 hc4 d0 d1 d2 d3 bo4 BR4
      clear bo5 BR5
      go_wp2_with (fail)
      have FB := (((((((((((((TR.out.far (p := ⟨ob, 10, none⟩) ne2 (.int .i64 ((N : Int) % 2147483648))).far (p := ⟨ob, 0, none⟩) ne2 (.slice A4 m4 cap4)).set_ 0 (.slice A4 m4 cap4)).set_ 1 (.int .i64 pad)).set_ 2 (.bool false)).set_ 3 (.bool false)).set_ 4 (.int .i64 0)).set_ 5 (.int .i64 0)).set_ 6 (.int .i64 0)).set_ 7 (.int .i64 0)).set_ 8 (.int .i64 0)).set_ 9 (.slice none 0 0)).set_ 10 (.int .i64 ((N : Int) % 2147483648)))
      simp only [body0, List.setIfInBounds_toArray, List.set_cons_zero, List.set_cons_succ] at FB
      have KL := ((((((((((((((Keep.refl [ob, w.heap.size + 1] w4).setCell (p := ⟨ob, 10, none⟩) (.inl (by simp)) (.int .i64 ((N : Int) % 2147483648))).setCell (p := ⟨ob, 0, none⟩) (.inl (by simp)) (.slice A4 m4 cap4)).setCell (p := ⟨w.heap.size + 1, 0, none⟩) (.inl (by simp)) (.slice A4 m4 cap4)).setCell (p := ⟨w.heap.size + 1, 1, none⟩) (.inl (by simp)) (.int .i64 pad)).setCell (p := ⟨w.heap.size + 1, 2, none⟩) (.inl (by simp)) (.bool false)).setCell (p := ⟨w.heap.size + 1, 3, none⟩) (.inl (by simp)) (.bool false)).setCell (p := ⟨w.heap.size + 1, 4, none⟩) (.inl (by simp)) (.int .i64 0)).setCell (p := ⟨w.heap.size + 1, 5, none⟩) (.inl (by simp)) (.int .i64 0)).setCell (p := ⟨w.heap.size + 1, 6, none⟩) (.inl (by simp)) (.int .i64 0)).setCell (p := ⟨w.heap.size + 1, 7, none⟩) (.inl (by simp)) (.int .i64 0)).setCell (p := ⟨w.heap.size + 1, 8, none⟩) (.inl (by simp)) (.int .i64 0)).setCell (p := ⟨w.heap.size + 1, 9, none⟩) (.inl (by simp)) (.slice none 0 0)).setCell (p := ⟨w.heap.size + 1, 10, none⟩) (.inl (by simp)) (.int .i64 ((N : Int) % 2147483648)))
      have KF := K5.out.step KL (by simp; omega)
      refine bodyPost_ret (results_ct rfl _ _ (w.heap.size + 1) 36 #[.slice A4 m4 cap4, .int .i64 pad, .bool false, .bool false, .int .i64 0, .int .i64 0, .int .i64 0, .int .i64 0, .int .i64 0, .slice none 0 0, .int .i64 ((N : Int) % 2147483648)] (0, 0) _ rfl FB Try.underlying36 rfl (by kernel_rfl)) rfl ?_
      rw [← HNN.out]
      exact ⟨_, rfl, (HRow.out.keep KL (fun g hg => by have := HRow.out.lt g hg; simp at this ⊢; omega)).lower (by simp; omega), KF⟩
  · have rd := reads_from rr4.out.drew 4 HLR.out
    go_wp2_with (fail)
    refine wpIn_wide.1 (region_rtc (n := 0) [(6, true), (8, true), (10, false)] []
      [(0, .slice (some ⟨b2, o2, none⟩) r.length c2), (1, .slice (some ⟨b2, o2, none⟩) 4 c2), (2, .int .i64 N), (3, .int .i64 ((N % 2147483648 : Nat) : Int)), (4, .slice (some ⟨b2, o2, none⟩) r.length c2), (5, .slice (some ⟨b2, o2 + 4, none⟩) (r.length - 4) (c2 - 4)), (7, .pointer (some ⟨ob, 10, none⟩)), (9, .pointer (some ⟨ob, 0, none⟩))]
      (fun W => Keep [ob] w3 W) (by kernel_rfl) (by kernel_rfl) ((Keep.refl _ _).drew) ?_ ?_)
    · simp only [evOkC, putAll, List.getElem?_toArray, List.getElem?_cons_zero, List.getElem?_cons_succ, Option.bind_some, Act.put, List.setIfInBounds_toArray, List.set_cons_zero, List.set_cons_succ]
      repeat' apply And.intro
      all_goals first
        | exact trivial
        | (intro W hW; refine gives_read rfl ?_; have ha := HA.out; simp [go_sem, Addr.add, ha, k41, k42, hc4]; done)
        | (intro W hW; unfold GivesV; simp [go_sem]; refine ⟨trivial, rfl, (callsIn_wide.2 (HNU.out W hW)).mono ?_⟩; rintro e w' ⟨rfl, rfl⟩; exact ⟨rfl, rfl⟩)
    · simp only [putAll, List.getElem?_toArray, List.getElem?_cons_zero, List.getElem?_cons_succ, Option.bind_some, Act.put, List.setIfInBounds_toArray, List.set_cons_zero, List.set_cons_succ]
      refine tail_wanted rfl rfl ?_
      simp [go_sem]
      refine ⟨trivial, rfl, (callsIn_wide.2 (clone w3.drew (c := c2 - 4) rd (show ob ≤ w3.heap.size by omega) (by omega))).mono ?_⟩
      rintro e w4 ⟨v4, rfl, r4, k4⟩
      have k4 := k4.undrew
      have K5 := Lib.hid (K4.out.trans k4)
      have bo5 := bo4.keep k4 (by simp)
      have BR5 := BR4.keep k4 (by simp)
      have z5 := k4.size
      have HRow := Lib.hid r4
      obtain ⟨A4, m4, cap4, hv4⟩ : ∃ A4 m4 cap4, v4 = .slice A4 m4 cap4 := by
        obtain ⟨A4, cap4, e, _⟩ := r4.reads
        exact ⟨A4, _, cap4, e⟩
      subst hv4
      clear r4 rd
      refine ⟨⟨k4.more (by simp), gHolds_none rfl⟩, ?_⟩
      have e0 := bo5.cell 0
      have e10 := bo5.cell 10
      have og0 := bo5.frozen 0
      have og10 := bo5.frozen 10
      simp [body0] at e0 e10
      refine tail_wanted rfl rfl ?_
      simp [go_sem, e10, og10]
      refine ⟨⟨(k4.more (by simp)).setCell (p := ⟨ob, 10, none⟩) (.inl (by simp)) _, gHolds_none rfl⟩, ?_⟩
      refine tail_wanted rfl rfl ?_
      simp [go_sem, e0, og0]
      refine ⟨gHolds_none rfl, ?_⟩
      unfold wpTailG
      go_at_K
      clear e0 e10 og0 og10 k4
      have ne : ob ≠ w.heap.size + 1 := by omega
      have ne2 : w.heap.size + 1 ≠ ob := by omega
      have TE := Lib.hid bo5
      have TR := Lib.hid BR5
      have e0 := bo5.cell 0
      have e1 := bo5.cell 1
      have e2 := bo5.cell 2
      have e3 := bo5.cell 3
      have e4 := bo5.cell 4
      have e5 := bo5.cell 5
      have e6 := bo5.cell 6
      have e7 := bo5.cell 7
      have e8 := bo5.cell 8
      have e9 := bo5.cell 9
      have e10 := bo5.cell 10
      simp [body0] at e0 e1 e2 e3 e4 e5 e6 e7 e8 e9 e10
      have og10 := bo5.frozen 10
      have og0 := bo5.frozen 0
      have q0 := BR5.cell 0
      have g0 := BR5.frozen 0
      have q1 := BR5.cell 1
      have g1 := BR5.frozen 1
      have q2 := BR5.cell 2
      have g2 := BR5.frozen 2
      have q3 := BR5.cell 3
      have g3 := BR5.frozen 3
      have q4 := BR5.cell 4
      have g4 := BR5.frozen 4
      have q5 := BR5.cell 5
      have g5 := BR5.frozen 5
      have q6 := BR5.cell 6
      have g6 := BR5.frozen 6
      have q7 := BR5.cell 7
      have g7 := BR5.frozen 7
      have q8 := BR5.cell 8
      have g8 := BR5.frozen 8
      have q9 := BR5.cell 9
      have g9 := BR5.frozen 9
      have q10 := BR5.cell 10
      have g10 := BR5.frozen 10
      simp [body0] at q0 q1 q2 q3 q4 q5 q6 q7 q8 q9 q10
      clear HNU HA k41 k42 hc4 d0 d1 d2 d3 bo4 BR4
      clear bo5 BR5
      go_wp2_with (fail)
      have FB := (((((((((((((TR.out.far (p := ⟨ob, 10, none⟩) ne2 (.int .i64 ((N : Int) % 2147483648))).far (p := ⟨ob, 0, none⟩) ne2 (.slice A4 m4 cap4)).set_ 0 (.slice A4 m4 cap4)).set_ 1 (.int .i64 pad)).set_ 2 (.bool false)).set_ 3 (.bool false)).set_ 4 (.int .i64 0)).set_ 5 (.int .i64 0)).set_ 6 (.int .i64 0)).set_ 7 (.int .i64 0)).set_ 8 (.int .i64 0)).set_ 9 (.slice none 0 0)).set_ 10 (.int .i64 ((N : Int) % 2147483648)))
      simp only [body0, List.setIfInBounds_toArray, List.set_cons_zero, List.set_cons_succ] at FB
      have KL := ((((((((((((((Keep.refl [ob, w.heap.size + 1] w4).setCell (p := ⟨ob, 10, none⟩) (.inl (by simp)) (.int .i64 ((N : Int) % 2147483648))).setCell (p := ⟨ob, 0, none⟩) (.inl (by simp)) (.slice A4 m4 cap4)).setCell (p := ⟨w.heap.size + 1, 0, none⟩) (.inl (by simp)) (.slice A4 m4 cap4)).setCell (p := ⟨w.heap.size + 1, 1, none⟩) (.inl (by simp)) (.int .i64 pad)).setCell (p := ⟨w.heap.size + 1, 2, none⟩) (.inl (by simp)) (.bool false)).setCell (p := ⟨w.heap.size + 1, 3, none⟩) (.inl (by simp)) (.bool false)).setCell (p := ⟨w.heap.size + 1, 4, none⟩) (.inl (by simp)) (.int .i64 0)).setCell (p := ⟨w.heap.size + 1, 5, none⟩) (.inl (by simp)) (.int .i64 0)).setCell (p := ⟨w.heap.size + 1, 6, none⟩) (.inl (by simp)) (.int .i64 0)).setCell (p := ⟨w.heap.size + 1, 7, none⟩) (.inl (by simp)) (.int .i64 0)).setCell (p := ⟨w.heap.size + 1, 8, none⟩) (.inl (by simp)) (.int .i64 0)).setCell (p := ⟨w.heap.size + 1, 9, none⟩) (.inl (by simp)) (.slice none 0 0)).setCell (p := ⟨w.heap.size + 1, 10, none⟩) (.inl (by simp)) (.int .i64 ((N : Int) % 2147483648)))
      have KF := K5.out.step KL (by simp; omega)
      refine bodyPost_ret (results_ct rfl _ _ (w.heap.size + 1) 36 #[.slice A4 m4 cap4, .int .i64 pad, .bool false, .bool false, .int .i64 0, .int .i64 0, .int .i64 0, .int .i64 0, .int .i64 0, .slice none 0 0, .int .i64 ((N : Int) % 2147483648)] (0, 0) _ rfl FB Try.underlying36 rfl (by kernel_rfl)) rfl ?_
      rw [← HNN.out]
      exact ⟨_, rfl, (HRow.out.keep KL (fun g hg => by have := HRow.out.lt g hg; simp at this ⊢; omega)).lower (by simp; omega), KF⟩
set_option maxHeartbeats 2000000 in
theorem read_7 (hr : Reads w w.heap.size 1 A n (encB bs)) (hc : n ≤ c) (hc2 : c ≤ 9223372036854775807) (hc3 : n ≤ 140737488355328) (hrl : r.length ≤ 140737488355328) (hb : bareF 7 f bs = .ok pad r) (hs : sizeF 7 f r.length = true) :
    Calls Try.prog 15 #[.agg #[.int .i64 (7 : Nat), .int .i64 f.toNat, .int .i64 0, .slice A n c]] w fun e w' =>
      ∃ v, e = .returned (.tuple #[.agg #[v, .int .i64 pad, .bool false, .bool false, .int .i64 0, .int .i64 0, .int .i64 (numB ((r.drop 4).take 4)), .int .i64 ((numB (r.take 4) % 2147483648 : Nat) : Int), .int .i64 0, .slice none 0 0, .int .i64 0], .int .i64 0]) ∧ Row1 w' w.heap.size 5 v (encB (r.drop 8)) ∧ Keep [] w w' := by
  have HB := Lib.hid hb
  have HS := Lib.hid hs
  clear hb hs
  have Hr := Lib.hid hr
  clear hr
  have hpl : placeF 7 = 0 := rfl
  go_enter Try.func15, Try.ntmps15
  go_wp2_with (fail)
  refine (place_ _ 7).mono ?_
  rintro e w1 ⟨rfl, k1⟩
  rw [hpl]
  have BF := ((Blk.new w 24 #[.int .i64 (7 : Nat), .int .i64 f.toNat, .int .i64 0, .slice A n c]).alloc (.cells (body0 0) 36)).keep k1 (by simp)
  have BR := (Blk.new (w.alloc (.cells #[.int .i64 (7 : Nat), .int .i64 f.toNat, .int .i64 0, .slice A n c] 24)) 36 (body0 0)).keep k1 (by simp)
  have K1 := Lib.hid ((((Keep.refl [] w).alloc _).alloc _).trans k1)
  have sz1 := k1.size
  simp at BR sz1
  have l1 : w.heap.size < w1.heap.size := by omega
  have l2 : w.heap.size + 1 < w1.heap.size := by omega
  clear k1 sz1
  have d0 := BF.cell 0
  have d1 := BF.cell 1
  have d2 := BF.cell 2
  have d3 := BF.cell 3
  simp at d0 d1 d2 d3
  go_wp2_with (fail)
  obtain ⟨W2, hW2⟩ : ∃ W2, W2 = w1.alloc (.cells (body0 0) 36) := ⟨_, rfl⟩
  have K2 : Keep [] w1 W2 := by rw [hW2]; exact (Keep.refl _ _).alloc _
  have BO : Blk W2 w1.heap.size 36 (body0 0) := by rw [hW2]; exact Blk.new _ _ _
  have z2 : W2.heap.size = w1.heap.size + 1 := by rw [hW2]; simp
  have hBc := bare_ W2 7 f 0 A n c w1.heap.size BO rfl rfl ((Hr.out.keeps (K1.out.trans K2) (Nat.le_refl _) (by simp)).more (by omega)) hc hc2
  rw [HB.out] at hBc
  show Calls Try.prog 26 _ (w1.alloc (.cells (body0 0) 36)) _
  rw [← hW2]
  refine hBc.mono ?_
  rintro e w2 ⟨A2, c2, rfl, rr, hcr, hcr2, bo, k2⟩
  have K3 := Lib.hid ((K1.out.trans K2).step k2 (by simp; omega))
  have z3 := k2.size
  have BF3 := (BF.keep K2 (by simp)).keep k2 (by simp; omega)
  have BR3 := (BR.keep K2 (by simp)).keep k2 (by simp; omega)
  obtain ⟨ob, hob⟩ : ∃ ob, ob = w1.heap.size := ⟨_, rfl⟩
  rw [← hob] at l1 l2 bo rr z2 ⊢
  have l3 : w.heap.size < w2.heap.size := by omega
  have l4 : w.heap.size + 1 < w2.heap.size := by omega
  have l5 : ob < w2.heap.size := by omega
  clear hBc hW2 BO K2 k2 z2 z3 BF BR hob K1 d0 d1 d2 d3 HB
  have d0 := BF3.cell 0
  have d1 := BF3.cell 1
  have d2 := BF3.cell 2
  have d3 := BF3.cell 3
  simp at d0 d1 d2 d3
  go_wp2_with (fail)
  have hSz := sized_ w2 7 f 0 (Hr.out.keeps K3.out (Nat.le_refl _) (by simp) |>.more K3.out.size) hc hc2 r.length
  rw [HS.out] at hSz
  refine hSz.mono ?_
  rintro e w3 ⟨rfl, k3⟩
  have K4 := Lib.hid (K3.out.trans k3)
  have z4 := k3.size
  have BF4 := BF3.keep k3 (by simp)
  have BR4 := BR3.keep k3 (by simp)
  have bo4 : Blk w3 ob 36 (body0 pad) := bo.keep k3 (by simp)
  have rr4 := Lib.hid (rr.keeps k3 (by omega) (by simp))
  have l6 : w.heap.size < w3.heap.size := by omega
  have l7 : w.heap.size + 1 < w3.heap.size := by omega
  have l8 : ob < w3.heap.size := by omega
  clear hSz BF3 BR3 bo rr l3 l4 l5 k3 z4 d0 d1 d2 d3 K3
  have d0 := BF4.cell 0
  have d1 := BF4.cell 1
  have d2 := BF4.cell 2
  have d3 := BF4.cell 3
  simp at d0 d1 d2 d3
  have hlr : 8 ≤ r.length := by have := HS.out; simpa [sizeF] using this
  have HLR := Lib.hid hlr
  obtain ⟨b2, o2, hA2, hbl, _⟩ := rr4.out.plain (by omega) (by omega)
  subst hA2
  have hnu := fun (W : World) (k : Keep [ob] w3 W) => number_ (c := c2) W (reads_mid (rr4.out.kept k (by omega) (fun _ ad e => by injection e with e; subst e; simp at hbl ⊢; omega)) 0 4 (by omega) (by omega)) (by omega)
  have hnm := fun (W : World) (k : Keep [ob] w3 W) => number_ (c := c2 - 4) W (reads_mid (rr4.out.kept k (by omega) (fun _ ad e => by injection e with e; subst e; simp at hbl ⊢; omega)) 4 4 (by omega) (by omega)) (by omega)
  have hlt : numB ((r.drop 0).take 4) < 4294967296 := numB_lt4 _ (by rw [List.length_take, List.drop_zero]; omega)
  rw [List.drop_zero] at hlt
  have hnu : ∀ (W : World), Keep [ob] w3 W → Calls Try.prog 23 #[.slice (some ⟨b2, o2, none⟩) 4 c2] W fun e w' => e = .returned (.int .i64 (numB (r.take 4))) ∧ W = w' := hnu
  obtain ⟨N, hN⟩ : ∃ N, N = numB (r.take 4) := ⟨_, rfl⟩
  obtain ⟨M, hM⟩ : ∃ M, M = numB ((r.drop 4).take 4) := ⟨_, rfl⟩
  rw [← hN] at hnu hlt
  rw [← hM] at hnm
  have HNU := Lib.hid hnu
  have HNM := Lib.hid hnm
  have HA := Lib.hid (i64_and31 N (by omega))
  have HNN := Lib.hid hN
  have HMM := Lib.hid hM
  have k41 : (4 : Int) ≤ (r.length : Int) := by omega
  have k42 : (4 : Int) ≤ (c2 : Int) := by omega
  have k43 : (8 : Int) ≤ (r.length : Int) := by omega
  have k44 : (8 : Int) ≤ (c2 : Int) := by omega
  have hc4 : ¬ c2 = 4 := by omega
  clear hnu hnm hN hM hlr hlt
  by_cases hc8 : c2 = 8
  · have rd : Reads w3.drew ob 1 (some ⟨b2, o2, none⟩) (r.length - 8) (encB (r.drop 8)) := ⟨by rw [encB_len, List.length_drop]; omega, fun h => absurd h (by omega)⟩
    go_wp2_with (fail)
    refine wpIn_wide.1 (region_rtc (n := 0) [(9, true), (11, true), (13, true), (15, false)] []
      [(0, .slice (some ⟨b2, o2, none⟩) r.length c2), (1, .slice (some ⟨b2, o2, none⟩) 4 c2), (2, .int .i64 N), (3, .int .i64 ((N % 2147483648 : Nat) : Int)), (4, .slice (some ⟨b2, o2, none⟩) r.length c2), (5, .slice (some ⟨b2, o2 + 4, none⟩) 4 (c2 - 4)), (6, .int .i64 M), (7, .slice (some ⟨b2, o2, none⟩) r.length c2), (8, .slice (some ⟨b2, o2, none⟩) (r.length - 8) (0)), (10, .pointer (some ⟨ob, 7, none⟩)), (12, .pointer (some ⟨ob, 6, none⟩)), (14, .pointer (some ⟨ob, 0, none⟩))]
      (fun W => Keep [ob] w3 W) (by kernel_rfl) (by kernel_rfl) ((Keep.refl _ _).drew) ?_ ?_)
    · simp only [evOkC, putAll, List.getElem?_toArray, List.getElem?_cons_zero, List.getElem?_cons_succ, Option.bind_some, Act.put, List.setIfInBounds_toArray, List.set_cons_zero, List.set_cons_succ]
      repeat' apply And.intro
      all_goals first
        | exact trivial
        | (intro W hW; refine gives_read rfl ?_; have ha := HA.out; simp [go_sem, Addr.add, ha, k41, k42, k43, k44, hc4, hc8]; done)
        | skip
      · intro W hW
        unfold GivesV
        simp [go_sem]
        refine ⟨trivial, rfl, (callsIn_wide.2 (HNU.out W hW)).mono ?_⟩
        rintro e w' ⟨rfl, rfl⟩
        exact ⟨rfl, rfl⟩
      · intro W hW
        unfold GivesV
        simp [go_sem]
        refine ⟨trivial, rfl, (callsIn_wide.2 (HNM.out W hW)).mono ?_⟩
        rintro e w' ⟨rfl, rfl⟩
        exact ⟨rfl, rfl⟩
    · simp only [putAll, List.getElem?_toArray, List.getElem?_cons_zero, List.getElem?_cons_succ, Option.bind_some, Act.put, List.setIfInBounds_toArray, List.set_cons_zero, List.set_cons_succ]
      refine tail_wanted rfl rfl ?_
      simp [go_sem]
      refine ⟨trivial, rfl, (callsIn_wide.2 (clone w3.drew (c := 0) rd (show ob ≤ w3.heap.size by omega) (by omega))).mono ?_⟩
      rintro e w4 ⟨v4, rfl, r4, k4⟩
      have k4 := k4.undrew
      have K5 := Lib.hid (K4.out.trans k4)
      have bo5 := bo4.keep k4 (by simp)
      have BR5 := BR4.keep k4 (by simp)
      have z5 := k4.size
      have HRow := Lib.hid r4
      obtain ⟨A4, m4, cap4, hv4⟩ : ∃ A4 m4 cap4, v4 = .slice A4 m4 cap4 := by
        obtain ⟨A4, cap4, e, _⟩ := r4.reads
        exact ⟨A4, _, cap4, e⟩
      subst hv4
      clear r4 rd
      refine ⟨⟨k4.more (by simp), gHolds_none rfl⟩, ?_⟩
      have e0 := bo5.cell 0
      have e6 := bo5.cell 6
      have e7 := bo5.cell 7
      have og0 := bo5.frozen 0
      have og6 := bo5.frozen 6
      have og7 := bo5.frozen 7
      simp [body0] at e0 e6 e7
      refine tail_wanted rfl rfl ?_
      simp [go_sem, e7, og7]
      refine ⟨⟨(k4.more (by simp)).setCell (p := ⟨ob, 7, none⟩) (.inl (by simp)) _, gHolds_none rfl⟩, ?_⟩
      refine tail_wanted rfl rfl ?_
      simp [go_sem, e6, og6]
      refine ⟨⟨((k4.more (by simp)).setCell (p := ⟨ob, 7, none⟩) (.inl (by simp)) _).setCell (p := ⟨ob, 6, none⟩) (.inl (by simp)) _, gHolds_none rfl⟩, ?_⟩
      refine tail_wanted rfl rfl ?_
      simp [go_sem, e0, og0]
      refine ⟨gHolds_none rfl, ?_⟩
      unfold wpTailG
      go_at_K
      clear e0 e6 e7 og0 og6 og7 k4
      have ne : ob ≠ w.heap.size + 1 := by omega
      have ne2 : w.heap.size + 1 ≠ ob := by omega
      have TE := Lib.hid bo5
      have TR := Lib.hid BR5
      have e0 := bo5.cell 0
      have e1 := bo5.cell 1
      have e2 := bo5.cell 2
      have e3 := bo5.cell 3
      have e4 := bo5.cell 4
      have e5 := bo5.cell 5
      have e6 := bo5.cell 6
      have e7 := bo5.cell 7
      have e8 := bo5.cell 8
      have e9 := bo5.cell 9
      have e10 := bo5.cell 10
      simp [body0] at e0 e1 e2 e3 e4 e5 e6 e7 e8 e9 e10
      have og7 := bo5.frozen 7
      have og6 := bo5.frozen 6
      have og0 := bo5.frozen 0
      have q0 := BR5.cell 0
      have g0 := BR5.frozen 0
      have q1 := BR5.cell 1
      have g1 := BR5.frozen 1
      have q2 := BR5.cell 2
      have g2 := BR5.frozen 2
      have q3 := BR5.cell 3
      have g3 := BR5.frozen 3
      have q4 := BR5.cell 4
      have g4 := BR5.frozen 4
      have q5 := BR5.cell 5
      have g5 := BR5.frozen 5
      have q6 := BR5.cell 6
      have g6 := BR5.frozen 6
      have q7 := BR5.cell 7
      have g7 := BR5.frozen 7
      have q8 := BR5.cell 8
      have g8 := BR5.frozen 8
      have q9 := BR5.cell 9
      have g9 := BR5.frozen 9
      have q10 := BR5.cell 10
      have g10 := BR5.frozen 10
      simp [body0] at q0 q1 q2 q3 q4 q5 q6 q7 q8 q9 q10
      clear HNU HNM HA k41 k42 k43 k44 hc4 hc8 d0 d1 d2 d3 bo4 BR4
      clear bo5 BR5
      go_wp2_with (fail)
      have FB := ((((((((((((((TR.out.far (p := ⟨ob, 7, none⟩) ne2 (.int .i64 ((N : Int) % 2147483648))).far (p := ⟨ob, 6, none⟩) ne2 (.int .i64 M)).far (p := ⟨ob, 0, none⟩) ne2 (.slice A4 m4 cap4)).set_ 0 (.slice A4 m4 cap4)).set_ 1 (.int .i64 pad)).set_ 2 (.bool false)).set_ 3 (.bool false)).set_ 4 (.int .i64 0)).set_ 5 (.int .i64 0)).set_ 6 (.int .i64 M)).set_ 7 (.int .i64 ((N : Int) % 2147483648))).set_ 8 (.int .i64 0)).set_ 9 (.slice none 0 0)).set_ 10 (.int .i64 0))
      simp only [body0, List.setIfInBounds_toArray, List.set_cons_zero, List.set_cons_succ] at FB
      have KL := (((((((((((((((Keep.refl [ob, w.heap.size + 1] w4).setCell (p := ⟨ob, 7, none⟩) (.inl (by simp)) (.int .i64 ((N : Int) % 2147483648))).setCell (p := ⟨ob, 6, none⟩) (.inl (by simp)) (.int .i64 M)).setCell (p := ⟨ob, 0, none⟩) (.inl (by simp)) (.slice A4 m4 cap4)).setCell (p := ⟨w.heap.size + 1, 0, none⟩) (.inl (by simp)) (.slice A4 m4 cap4)).setCell (p := ⟨w.heap.size + 1, 1, none⟩) (.inl (by simp)) (.int .i64 pad)).setCell (p := ⟨w.heap.size + 1, 2, none⟩) (.inl (by simp)) (.bool false)).setCell (p := ⟨w.heap.size + 1, 3, none⟩) (.inl (by simp)) (.bool false)).setCell (p := ⟨w.heap.size + 1, 4, none⟩) (.inl (by simp)) (.int .i64 0)).setCell (p := ⟨w.heap.size + 1, 5, none⟩) (.inl (by simp)) (.int .i64 0)).setCell (p := ⟨w.heap.size + 1, 6, none⟩) (.inl (by simp)) (.int .i64 M)).setCell (p := ⟨w.heap.size + 1, 7, none⟩) (.inl (by simp)) (.int .i64 ((N : Int) % 2147483648))).setCell (p := ⟨w.heap.size + 1, 8, none⟩) (.inl (by simp)) (.int .i64 0)).setCell (p := ⟨w.heap.size + 1, 9, none⟩) (.inl (by simp)) (.slice none 0 0)).setCell (p := ⟨w.heap.size + 1, 10, none⟩) (.inl (by simp)) (.int .i64 0))
      have KF := K5.out.step KL (by simp; omega)
      refine bodyPost_ret (results_ct rfl _ _ (w.heap.size + 1) 36 #[.slice A4 m4 cap4, .int .i64 pad, .bool false, .bool false, .int .i64 0, .int .i64 0, .int .i64 M, .int .i64 ((N : Int) % 2147483648), .int .i64 0, .slice none 0 0, .int .i64 0] (0, 0) _ rfl FB Try.underlying36 rfl (by kernel_rfl)) rfl ?_
      rw [← HNN.out, ← HMM.out]
      exact ⟨_, rfl, (HRow.out.keep KL (fun g hg => by have := HRow.out.lt g hg; simp at this ⊢; omega)).lower (by simp; omega), KF⟩
  · have rd := reads_from rr4.out.drew 8 HLR.out
    go_wp2_with (fail)
    refine wpIn_wide.1 (region_rtc (n := 0) [(9, true), (11, true), (13, true), (15, false)] []
      [(0, .slice (some ⟨b2, o2, none⟩) r.length c2), (1, .slice (some ⟨b2, o2, none⟩) 4 c2), (2, .int .i64 N), (3, .int .i64 ((N % 2147483648 : Nat) : Int)), (4, .slice (some ⟨b2, o2, none⟩) r.length c2), (5, .slice (some ⟨b2, o2 + 4, none⟩) 4 (c2 - 4)), (6, .int .i64 M), (7, .slice (some ⟨b2, o2, none⟩) r.length c2), (8, .slice (some ⟨b2, o2 + 8, none⟩) (r.length - 8) (c2 - 8)), (10, .pointer (some ⟨ob, 7, none⟩)), (12, .pointer (some ⟨ob, 6, none⟩)), (14, .pointer (some ⟨ob, 0, none⟩))]
      (fun W => Keep [ob] w3 W) (by kernel_rfl) (by kernel_rfl) ((Keep.refl _ _).drew) ?_ ?_)
    · simp only [evOkC, putAll, List.getElem?_toArray, List.getElem?_cons_zero, List.getElem?_cons_succ, Option.bind_some, Act.put, List.setIfInBounds_toArray, List.set_cons_zero, List.set_cons_succ]
      repeat' apply And.intro
      all_goals first
        | exact trivial
        | (intro W hW; refine gives_read rfl ?_; have ha := HA.out; simp [go_sem, Addr.add, ha, k41, k42, k43, k44, hc4, hc8]; done)
        | skip
      · intro W hW
        unfold GivesV
        simp [go_sem]
        refine ⟨trivial, rfl, (callsIn_wide.2 (HNU.out W hW)).mono ?_⟩
        rintro e w' ⟨rfl, rfl⟩
        exact ⟨rfl, rfl⟩
      · intro W hW
        unfold GivesV
        simp [go_sem]
        refine ⟨trivial, rfl, (callsIn_wide.2 (HNM.out W hW)).mono ?_⟩
        rintro e w' ⟨rfl, rfl⟩
        exact ⟨rfl, rfl⟩
    · simp only [putAll, List.getElem?_toArray, List.getElem?_cons_zero, List.getElem?_cons_succ, Option.bind_some, Act.put, List.setIfInBounds_toArray, List.set_cons_zero, List.set_cons_succ]
      refine tail_wanted rfl rfl ?_
      simp [go_sem]
      refine ⟨trivial, rfl, (callsIn_wide.2 (clone w3.drew (c := c2 - 8) rd (show ob ≤ w3.heap.size by omega) (by omega))).mono ?_⟩
      rintro e w4 ⟨v4, rfl, r4, k4⟩
      have k4 := k4.undrew
      have K5 := Lib.hid (K4.out.trans k4)
      have bo5 := bo4.keep k4 (by simp)
      have BR5 := BR4.keep k4 (by simp)
      have z5 := k4.size
      have HRow := Lib.hid r4
      obtain ⟨A4, m4, cap4, hv4⟩ : ∃ A4 m4 cap4, v4 = .slice A4 m4 cap4 := by
        obtain ⟨A4, cap4, e, _⟩ := r4.reads
        exact ⟨A4, _, cap4, e⟩
      subst hv4
      clear r4 rd
      refine ⟨⟨k4.more (by simp), gHolds_none rfl⟩, ?_⟩
      have e0 := bo5.cell 0
      have e6 := bo5.cell 6
      have e7 := bo5.cell 7
      have og0 := bo5.frozen 0
      have og6 := bo5.frozen 6
      have og7 := bo5.frozen 7
      simp [body0] at e0 e6 e7
      refine tail_wanted rfl rfl ?_
      simp [go_sem, e7, og7]
      refine ⟨⟨(k4.more (by simp)).setCell (p := ⟨ob, 7, none⟩) (.inl (by simp)) _, gHolds_none rfl⟩, ?_⟩
      refine tail_wanted rfl rfl ?_
      simp [go_sem, e6, og6]
      refine ⟨⟨((k4.more (by simp)).setCell (p := ⟨ob, 7, none⟩) (.inl (by simp)) _).setCell (p := ⟨ob, 6, none⟩) (.inl (by simp)) _, gHolds_none rfl⟩, ?_⟩
      refine tail_wanted rfl rfl ?_
      simp [go_sem, e0, og0]
      refine ⟨gHolds_none rfl, ?_⟩
      unfold wpTailG
      go_at_K
      clear e0 e6 e7 og0 og6 og7 k4
      have ne : ob ≠ w.heap.size + 1 := by omega
      have ne2 : w.heap.size + 1 ≠ ob := by omega
      have TE := Lib.hid bo5
      have TR := Lib.hid BR5
      have e0 := bo5.cell 0
      have e1 := bo5.cell 1
      have e2 := bo5.cell 2
      have e3 := bo5.cell 3
      have e4 := bo5.cell 4
      have e5 := bo5.cell 5
      have e6 := bo5.cell 6
      have e7 := bo5.cell 7
      have e8 := bo5.cell 8
      have e9 := bo5.cell 9
      have e10 := bo5.cell 10
      simp [body0] at e0 e1 e2 e3 e4 e5 e6 e7 e8 e9 e10
      have og7 := bo5.frozen 7
      have og6 := bo5.frozen 6
      have og0 := bo5.frozen 0
      have q0 := BR5.cell 0
      have g0 := BR5.frozen 0
      have q1 := BR5.cell 1
      have g1 := BR5.frozen 1
      have q2 := BR5.cell 2
      have g2 := BR5.frozen 2
      have q3 := BR5.cell 3
      have g3 := BR5.frozen 3
      have q4 := BR5.cell 4
      have g4 := BR5.frozen 4
      have q5 := BR5.cell 5
      have g5 := BR5.frozen 5
      have q6 := BR5.cell 6
      have g6 := BR5.frozen 6
      have q7 := BR5.cell 7
      have g7 := BR5.frozen 7
      have q8 := BR5.cell 8
      have g8 := BR5.frozen 8
      have q9 := BR5.cell 9
      have g9 := BR5.frozen 9
      have q10 := BR5.cell 10
      have g10 := BR5.frozen 10
      simp [body0] at q0 q1 q2 q3 q4 q5 q6 q7 q8 q9 q10
      clear HNU HNM HA k41 k42 k43 k44 hc4 hc8 d0 d1 d2 d3 bo4 BR4
      clear bo5 BR5
      go_wp2_with (fail)
      have FB := ((((((((((((((TR.out.far (p := ⟨ob, 7, none⟩) ne2 (.int .i64 ((N : Int) % 2147483648))).far (p := ⟨ob, 6, none⟩) ne2 (.int .i64 M)).far (p := ⟨ob, 0, none⟩) ne2 (.slice A4 m4 cap4)).set_ 0 (.slice A4 m4 cap4)).set_ 1 (.int .i64 pad)).set_ 2 (.bool false)).set_ 3 (.bool false)).set_ 4 (.int .i64 0)).set_ 5 (.int .i64 0)).set_ 6 (.int .i64 M)).set_ 7 (.int .i64 ((N : Int) % 2147483648))).set_ 8 (.int .i64 0)).set_ 9 (.slice none 0 0)).set_ 10 (.int .i64 0))
      simp only [body0, List.setIfInBounds_toArray, List.set_cons_zero, List.set_cons_succ] at FB
      have KL := (((((((((((((((Keep.refl [ob, w.heap.size + 1] w4).setCell (p := ⟨ob, 7, none⟩) (.inl (by simp)) (.int .i64 ((N : Int) % 2147483648))).setCell (p := ⟨ob, 6, none⟩) (.inl (by simp)) (.int .i64 M)).setCell (p := ⟨ob, 0, none⟩) (.inl (by simp)) (.slice A4 m4 cap4)).setCell (p := ⟨w.heap.size + 1, 0, none⟩) (.inl (by simp)) (.slice A4 m4 cap4)).setCell (p := ⟨w.heap.size + 1, 1, none⟩) (.inl (by simp)) (.int .i64 pad)).setCell (p := ⟨w.heap.size + 1, 2, none⟩) (.inl (by simp)) (.bool false)).setCell (p := ⟨w.heap.size + 1, 3, none⟩) (.inl (by simp)) (.bool false)).setCell (p := ⟨w.heap.size + 1, 4, none⟩) (.inl (by simp)) (.int .i64 0)).setCell (p := ⟨w.heap.size + 1, 5, none⟩) (.inl (by simp)) (.int .i64 0)).setCell (p := ⟨w.heap.size + 1, 6, none⟩) (.inl (by simp)) (.int .i64 M)).setCell (p := ⟨w.heap.size + 1, 7, none⟩) (.inl (by simp)) (.int .i64 ((N : Int) % 2147483648))).setCell (p := ⟨w.heap.size + 1, 8, none⟩) (.inl (by simp)) (.int .i64 0)).setCell (p := ⟨w.heap.size + 1, 9, none⟩) (.inl (by simp)) (.slice none 0 0)).setCell (p := ⟨w.heap.size + 1, 10, none⟩) (.inl (by simp)) (.int .i64 0))
      have KF := K5.out.step KL (by simp; omega)
      refine bodyPost_ret (results_ct rfl _ _ (w.heap.size + 1) 36 #[.slice A4 m4 cap4, .int .i64 pad, .bool false, .bool false, .int .i64 0, .int .i64 0, .int .i64 M, .int .i64 ((N : Int) % 2147483648), .int .i64 0, .slice none 0 0, .int .i64 0] (0, 0) _ rfl FB Try.underlying36 rfl (by kernel_rfl)) rfl ?_
      rw [← HNN.out, ← HMM.out]
      exact ⟨_, rfl, (HRow.out.keep KL (fun g hg => by have := HRow.out.lt g hg; simp at this ⊢; omega)).lower (by simp; omega), KF⟩
set_option maxHeartbeats 2000000 in
theorem read_4 (hr : Reads w w.heap.size 1 A n (encB bs)) (hc : n ≤ c) (hc2 : c ≤ 9223372036854775807) (hc3 : n ≤ 140737488355328) (hrl : r.length ≤ 1099511627776) (hb : bareF 4 f bs = .ok pad r) (hs : sizeF 4 f r.length = true) :
    Calls Try.prog 15 #[.agg #[.int .i64 (4 : Nat), .int .i64 f.toNat, .int .i64 0, .slice A n c]] w fun e w' =>
      ∃ v, e = .returned (.tuple #[.agg #[.slice none 0 0, .int .i64 pad, .bool false, .bool false, .int .i64 0, .int .i64 0, .int .i64 0, .int .i64 0, .int .i64 0, v, .int .i64 0], .int .i64 0]) ∧ w'.ownsRow w.heap.size 44 2 v (r.length / 6) (encS (setsN (r.length / 6) r)) ∧ Keep [] w w' := by
  have HB := Lib.hid hb
  have HS := Lib.hid hs
  clear hb hs
  have Hr := Lib.hid hr
  clear hr
  have hpl : placeF 4 = 0 := rfl
  go_enter Try.func15, Try.ntmps15
  go_wp2_with (fail)
  refine (place_ _ 4).mono ?_
  rintro e w1 ⟨rfl, k1⟩
  rw [hpl]
  have BF := ((Blk.new w 24 #[.int .i64 (4 : Nat), .int .i64 f.toNat, .int .i64 0, .slice A n c]).alloc (.cells (body0 0) 36)).keep k1 (by simp)
  have BR := (Blk.new (w.alloc (.cells #[.int .i64 (4 : Nat), .int .i64 f.toNat, .int .i64 0, .slice A n c] 24)) 36 (body0 0)).keep k1 (by simp)
  have K1 := Lib.hid ((((Keep.refl [] w).alloc _).alloc _).trans k1)
  have sz1 := k1.size
  simp at BR sz1
  have l1 : w.heap.size < w1.heap.size := by omega
  have l2 : w.heap.size + 1 < w1.heap.size := by omega
  clear k1 sz1
  have d0 := BF.cell 0
  have d1 := BF.cell 1
  have d2 := BF.cell 2
  have d3 := BF.cell 3
  simp at d0 d1 d2 d3
  go_wp2_with (fail)
  obtain ⟨W2, hW2⟩ : ∃ W2, W2 = w1.alloc (.cells (body0 0) 36) := ⟨_, rfl⟩
  have K2 : Keep [] w1 W2 := by rw [hW2]; exact (Keep.refl _ _).alloc _
  have BO : Blk W2 w1.heap.size 36 (body0 0) := by rw [hW2]; exact Blk.new _ _ _
  have z2 : W2.heap.size = w1.heap.size + 1 := by rw [hW2]; simp
  have hBc := bare_ W2 4 f 0 A n c w1.heap.size BO rfl rfl ((Hr.out.keeps (K1.out.trans K2) (Nat.le_refl _) (by simp)).more (by omega)) hc hc2
  rw [HB.out] at hBc
  show Calls Try.prog 26 _ (w1.alloc (.cells (body0 0) 36)) _
  rw [← hW2]
  refine hBc.mono ?_
  rintro e w2 ⟨A2, c2, rfl, rr, hcr, hcr2, bo, k2⟩
  have K3 := Lib.hid ((K1.out.trans K2).step k2 (by simp; omega))
  have z3 := k2.size
  have BF3 := (BF.keep K2 (by simp)).keep k2 (by simp; omega)
  have BR3 := (BR.keep K2 (by simp)).keep k2 (by simp; omega)
  obtain ⟨ob, hob⟩ : ∃ ob, ob = w1.heap.size := ⟨_, rfl⟩
  rw [← hob] at l1 l2 bo rr z2 ⊢
  have l3 : w.heap.size < w2.heap.size := by omega
  have l4 : w.heap.size + 1 < w2.heap.size := by omega
  have l5 : ob < w2.heap.size := by omega
  clear hBc hW2 BO K2 k2 z2 z3 BF BR hob K1 d0 d1 d2 d3 HB
  have d0 := BF3.cell 0
  have d1 := BF3.cell 1
  have d2 := BF3.cell 2
  have d3 := BF3.cell 3
  simp at d0 d1 d2 d3
  go_wp2_with (fail)
  have hSz := sized_ w2 4 f 0 (Hr.out.keeps K3.out (Nat.le_refl _) (by simp) |>.more K3.out.size) hc hc2 r.length
  rw [HS.out] at hSz
  refine hSz.mono ?_
  rintro e w3 ⟨rfl, k3⟩
  have K4 := Lib.hid (K3.out.trans k3)
  have z4 := k3.size
  have BF4 := BF3.keep k3 (by simp)
  have BR4 := BR3.keep k3 (by simp)
  have bo4 : Blk w3 ob 36 (body0 pad) := bo.keep k3 (by simp)
  have rr4 := Lib.hid (rr.keeps k3 (by omega) (by simp))
  have l6 : w.heap.size < w3.heap.size := by omega
  have l7 : w.heap.size + 1 < w3.heap.size := by omega
  have l8 : ob < w3.heap.size := by omega
  clear hSz BF3 BR3 bo rr l3 l4 l5 k3 z4 d0 d1 d2 d3 K3
  have d0 := BF4.cell 0
  have d1 := BF4.cell 1
  have d2 := BF4.cell 2
  have d3 := BF4.cell 3
  simp at d0 d1 d2 d3
  have hlr : r.length % 6 = 0 := by have := HS.out; simp [sizeF] at this; exact this.1
  have HLR := Lib.hid hlr
  obtain ⟨i0, z0, hi, hz, hz0, hz1, hz2⟩ := set_info
  have HI := Lib.hid (And.intro hi (And.intro hz (And.intro hz0 (And.intro hz1 hz2))))
  clear hi hz hz0 hz1 hz2
  clear hlr
  go_wp2_with (fail)
  go_loopw [6] (fun v6 wr => ∃ (j : Nat) (A : Option Addr) (c : Nat) (v9 : Value), v6 = .slice A (r.length - 6 * j) c ∧ 6 * j ≤ r.length ∧ Reads wr ob 1 A (r.length - 6 * j) (encB (r.drop (6 * j))) ∧ r.length - 6 * j ≤ c ∧ c ≤ 9223372036854775807 ∧ Blk wr ob 36 ((body0 pad).setIfInBounds 9 v9) ∧ wr.ownsRow w3.heap.size 44 2 v9 j (encS (setsN j r)) ∧ Keep [ob] w3 wr) (fun v6 _ => lenOf v6)
  case atStart => exact ⟨0, A2, c2, .slice none 0 0, rfl, by omega, by simpa using rr4.out, hcr, hcr2, bo4, World.ownsRow_nil _ _ _ _, Keep.refl _ _⟩
  case round =>
    obtain ⟨j, AJ, cj, v9, rfl, hj, rj, hcj, hcj2, boj, oj, kj⟩ := hrel
    have base9 := own_base oj
    have sj := kj.size
    obtain ⟨L, hL⟩ : ∃ L, L = r.length - 6 * j := ⟨_, rfl⟩
    rw [← hL] at rj hcj ⊢
    by_cases h0 : L = 0
    · subst h0
      have hj6 : j = r.length / 6 := by have := HLR.out; omega
      obtain ⟨A9, n9, c9, hv9⟩ : ∃ A9 n9 c9, v9 = .slice A9 n9 c9 := by
        rcases oj.2 with ⟨h, _⟩ | ⟨g, cap, cur, h, _⟩
        · exact ⟨_, _, _, h⟩
        · exact ⟨_, _, _, h⟩
      subst hv9
      have bo5 := boj
      simp only [body0, List.setIfInBounds_toArray, List.set_cons_zero, List.set_cons_succ] at bo5
      have BR5 := BR4.keep kj (by simp; omega)
      have K5 := Lib.hid (K4.out.step kj (by simp; omega))
      have HOJ := Lib.hid oj
      have HJ6 := Lib.hid hj6
      clear boj kj rj hL oj hj6
      have ne : ob ≠ w.heap.size + 1 := by omega
      have ne2 : w.heap.size + 1 ≠ ob := by omega
      have TE := Lib.hid bo5
      have TR := Lib.hid BR5
      have e0 := bo5.cell 0
      have e1 := bo5.cell 1
      have e2 := bo5.cell 2
      have e3 := bo5.cell 3
      have e4 := bo5.cell 4
      have e5 := bo5.cell 5
      have e6 := bo5.cell 6
      have e7 := bo5.cell 7
      have e8 := bo5.cell 8
      have e9 := bo5.cell 9
      have e10 := bo5.cell 10
      simp [body0] at e0 e1 e2 e3 e4 e5 e6 e7 e8 e9 e10
      have q0 := BR5.cell 0
      have g0 := BR5.frozen 0
      have q1 := BR5.cell 1
      have g1 := BR5.frozen 1
      have q2 := BR5.cell 2
      have g2 := BR5.frozen 2
      have q3 := BR5.cell 3
      have g3 := BR5.frozen 3
      have q4 := BR5.cell 4
      have g4 := BR5.frozen 4
      have q5 := BR5.cell 5
      have g5 := BR5.frozen 5
      have q6 := BR5.cell 6
      have g6 := BR5.frozen 6
      have q7 := BR5.cell 7
      have g7 := BR5.frozen 7
      have q8 := BR5.cell 8
      have g8 := BR5.frozen 8
      have q9 := BR5.cell 9
      have g9 := BR5.frozen 9
      have q10 := BR5.cell 10
      have g10 := BR5.frozen 10
      simp [body0] at q0 q1 q2 q3 q4 q5 q6 q7 q8 q9 q10
      clear d0 d1 d2 d3 bo4 BR4
      clear bo5 BR5
      go_wp2_with (fail)
      have FB := (((((((((((TR.out.set_ 0 (.slice none 0 0)).set_ 1 (.int .i64 pad)).set_ 2 (.bool false)).set_ 3 (.bool false)).set_ 4 (.int .i64 0)).set_ 5 (.int .i64 0)).set_ 6 (.int .i64 0)).set_ 7 (.int .i64 0)).set_ 8 (.int .i64 0)).set_ 9 (.slice A9 n9 c9)).set_ 10 (.int .i64 0))
      simp only [body0, List.setIfInBounds_toArray, List.set_cons_zero, List.set_cons_succ] at FB
      have KL := ((((((((((((Keep.refl [ob, w.heap.size + 1] wr).setCell (p := ⟨w.heap.size + 1, 0, none⟩) (.inl (by simp)) (.slice none 0 0)).setCell (p := ⟨w.heap.size + 1, 1, none⟩) (.inl (by simp)) (.int .i64 pad)).setCell (p := ⟨w.heap.size + 1, 2, none⟩) (.inl (by simp)) (.bool false)).setCell (p := ⟨w.heap.size + 1, 3, none⟩) (.inl (by simp)) (.bool false)).setCell (p := ⟨w.heap.size + 1, 4, none⟩) (.inl (by simp)) (.int .i64 0)).setCell (p := ⟨w.heap.size + 1, 5, none⟩) (.inl (by simp)) (.int .i64 0)).setCell (p := ⟨w.heap.size + 1, 6, none⟩) (.inl (by simp)) (.int .i64 0)).setCell (p := ⟨w.heap.size + 1, 7, none⟩) (.inl (by simp)) (.int .i64 0)).setCell (p := ⟨w.heap.size + 1, 8, none⟩) (.inl (by simp)) (.int .i64 0)).setCell (p := ⟨w.heap.size + 1, 9, none⟩) (.inl (by simp)) (.slice A9 n9 c9)).setCell (p := ⟨w.heap.size + 1, 10, none⟩) (.inl (by simp)) (.int .i64 0))
      have KF := K5.out.step KL (by simp; omega)
      refine bodyPost_ret (results_ct rfl _ _ (w.heap.size + 1) 36 #[.slice none 0 0, .int .i64 pad, .bool false, .bool false, .int .i64 0, .int .i64 0, .int .i64 0, .int .i64 0, .int .i64 0, .slice A9 n9 c9, .int .i64 0] (0, 0) _ rfl FB Try.underlying36 rfl (by kernel_rfl)) rfl ?_
      rw [← HJ6.out]
      exact ⟨_, rfl, own_keep (own_lower HOJ.out (by omega)) KL (fun k hk => by have := own_base HOJ.out k hk; simp; omega), KF⟩
    · have h6 : 6 ≤ L := by have := HLR.out; omega
      obtain ⟨b2, o2, hA2, hbl, _⟩ := rj.plain (by omega) (by omega)
      subst hA2
      have nG : ∀ i ∈ v9.ownBlock.toList, w3.heap.size ≤ i := fun i hi => base9 i (by simpa using hi)
      have hnu := fun (W : World) (k : Keep v9.ownBlock.toList wr W) => number_ (c := cj) W (reads_mid (rj.keeps k (by omega) (fun i hi => by have := nG i hi; omega)) 0 2 (by omega) (by omega)) (by omega)
      have hnm := fun (W : World) (k : Keep v9.ownBlock.toList wr W) => number_ (c := cj - 2) W (reads_mid (rj.keeps k (by omega) (fun i hi => by have := nG i hi; omega)) 2 4 (by omega) (by omega)) (by omega)
      rw [List.drop_drop] at hnm
      have hnu : ∀ (W : World), Keep v9.ownBlock.toList wr W → Calls Try.prog 23 #[.slice (some ⟨b2, o2, none⟩) 2 cj] W fun e w' => e = .returned (.int .i64 (numB ((r.drop (6 * j)).take 2))) ∧ W = w' := hnu
      have hset : setsN (j + 1) r = setsN j r ++ [((numB ((r.drop (6 * j)).take 2) : Int), (numB ((r.drop (6 * j + 2)).take 4) : Int))] := rfl
      obtain ⟨N, hN⟩ : ∃ N, N = numB ((r.drop (6 * j)).take 2) := ⟨_, rfl⟩
      obtain ⟨M, hM⟩ : ∃ M, M = numB ((r.drop (6 * j + 2)).take 4) := ⟨_, rfl⟩
      rw [← hN] at hnu hset
      rw [← hM] at hnm hset
      have HNU := Lib.hid hnu
      have HNM := Lib.hid hnm
      have HSET := Lib.hid hset
      have HOJ := Lib.hid oj
      have k0 : (0 : Int) < (L : Int) := by omega
      have k1 : (2 : Int) ≤ (L : Int) := by omega
      have k2 : (2 : Int) ≤ (cj : Int) := by omega
      have k3 : (6 : Int) ≤ (L : Int) := by omega
      have k4 : (6 : Int) ≤ (cj : Int) := by omega
      have k5 : ¬ cj = 2 := by omega
      have HRJ := Lib.hid rj
      have HBOJ := Lib.hid boj
      have HL := Lib.hid hL
      have ne9 : ∀ k, v9.ownBlock = some k → k ≠ ob := fun k hk => by have := base9 k hk; omega
      have e9 := boj.cell 9
      have og9 := boj.frozen 9
      simp [body0] at e9
      clear hnu hnm hN hM hset oj rj boj hL
      go_wp2_with (fail)
      refine wpIn_wide.1 (region_rtc (n := 0) [(9, true), (10, true), (12, false)] []
        [(0, .pointer (some ⟨ob, 9, none⟩)), (1, v9), (2, .slice (some ⟨b2, o2, none⟩) L cj), (3, .slice (some ⟨b2, o2, none⟩) 2 cj), (4, .int .i64 N), (5, .slice (some ⟨b2, o2, none⟩) L cj), (6, .slice (some ⟨b2, o2 + 2, none⟩) 4 (cj - 2)), (7, .int .i64 M), (8, .agg #[.int .i64 N, .int .i64 M]), (11, .pointer (some ⟨ob, 9, none⟩))]
        (fun W => Keep v9.ownBlock.toList wr W) (by kernel_rfl) (by kernel_rfl) ((Keep.refl _ _).drew) ?_ ?_)
      · simp only [evOkC, putAll, List.getElem?_toArray, List.getElem?_cons_zero, List.getElem?_cons_succ, Option.bind_some, Act.put, List.setIfInBounds_toArray, List.set_cons_zero, List.set_cons_succ]
        repeat' apply And.intro
        all_goals first
          | exact trivial
          | (intro W hW; refine gives_read rfl ?_; have e9' := ((HBOJ.out.keep hW (fun hm => ne9 ob (by simpa using hm) rfl)).cell 9); simp [body0] at e9'; simp [go_sem, Addr.add, k1, k2, k3, k4, k5, e9']; done)
          | skip
        · intro W hW
          unfold GivesV
          simp [go_sem]
          refine ⟨trivial, rfl, (callsIn_wide.2 (HNU.out W hW)).mono ?_⟩
          rintro e w' ⟨rfl, rfl⟩
          exact ⟨rfl, rfl⟩
        · intro W hW
          unfold GivesV
          simp [go_sem]
          refine ⟨trivial, rfl, (callsIn_wide.2 (HNM.out W hW)).mono ?_⟩
          rintro e w' ⟨rfl, rfl⟩
          exact ⟨rfl, rfl⟩
        · intro W hW
          unfold GivesV
          simp [go_sem]
      · simp only [putAll, List.getElem?_toArray, List.getElem?_cons_zero, List.getElem?_cons_succ, Option.bind_some, Act.put, List.setIfInBounds_toArray, List.set_cons_zero, List.set_cons_succ]
        refine tail_wanted rfl rfl ?_
        simp [go_sem]
        obtain ⟨W1, hW1⟩ : ∃ W1, W1 = (wr.alloc (.cells #[.int .i64 (N : Int), .int .i64 (M : Int)] 44)).drew := ⟨_, rfl⟩
        have rN : Reads W1 (wr.heap.size + 1) 2 (some ⟨wr.heap.size, 0, none⟩) 1 (encS [((N : Int), (M : Int))]) := by rw [hW1]; exact (reads_new wr #[.int .i64 (N : Int), .int .i64 (M : Int)] 44 (0, 0) 2 1 rfl).drew
        have kW1 : Keep [] wr W1 := by rw [hW1]; exact ((Keep.refl [] wr).alloc _).drew
        rw [← hW1]
        clear hW1
        refine ⟨⟨kW1.more (by simp), gHolds_none rfl⟩, ?_⟩
        have oW1 := own_keep HOJ.out kW1 (by simp)
        refine tail_wanted rfl rfl ?_
        refine wpIn_append_any W1 _ _ _ rfl w3.heap.size 44 i0 z0 2 16 Try.underlying34 HI.out.1 HI.out.2.1 HI.out.2.2.1 HI.out.2.2.2.1 HI.out.2.2.2.2 (by omega) v9 j _ rfl oW1 (wr.heap.size + 1) (some ⟨wr.heap.size, 0, none⟩) 1 1 _ rfl rN (encS_one _) (by unfold maxLen; omega) (by omega) (by have := kW1.size; omega) ?_
        intro v10 W2 o10 g10 m10
        rw [← encS_app, ← HSET.out] at o10
        have kW2 : Keep v9.ownBlock.toList wr W2 := (kW1.more (by simp)).trans (Keep.of_grown g10)
        have z2 := kW2.size
        refine ⟨rfl, ⟨fun _ => kW2, gHolds_none rfl⟩, ?_⟩
        have bo2 := HBOJ.out.keep kW2 (fun hm => ne9 ob (by simpa using hm) rfl)
        have e9'' := bo2.cell 9
        have og9'' := bo2.frozen 9
        simp [body0] at e9''
        obtain ⟨A10, n10, c10, hv10⟩ : ∃ A10 n10 c10, v10 = .slice A10 n10 c10 := by
          rcases o10.2 with ⟨h, _⟩ | ⟨g, cap, cur, h, _⟩
          · exact ⟨_, _, _, h⟩
          · exact ⟨_, _, _, h⟩
        subst hv10
        refine tail_wanted rfl rfl ?_
        simp [go_sem, e9'', og9'']
        refine ⟨gHolds_none rfl, ?_⟩
        unfold wpTailG
        go_at_K
        have bo3 := bo2.set_ 9 (.slice A10 n10 c10)
        rw [Array.setIfInBounds_setIfInBounds] at bo3
        have o11 := own_keep o10 ((Keep.refl [ob] W2).setCell (p := ⟨ob, 9, none⟩) (.inl (by simp)) (.slice A10 n10 c10)) (fun k hk => by have := own_base o10 k hk; simp; omega)
        have rj3 := (HRJ.out.keeps kW2 (by omega) (fun i hi => by have := nG i hi; omega)).setCell (p := ⟨ob, 9, none⟩) (Nat.le_refl _) (.slice A10 n10 c10)
        have kj3 : Keep [ob] w3 (W2.setCell ⟨ob, 9, none⟩ (.slice A10 n10 c10)) := (kj.step kW2 (fun i hi => .inr (nG i hi))).setCell (p := ⟨ob, 9, none⟩) (.inl (by simp)) _
        obtain ⟨W3, hW3⟩ : ∃ W3, W3 = W2.setCell ⟨ob, 9, none⟩ (.slice A10 n10 c10) := ⟨_, rfl⟩
        rw [← hW3] at bo3 o11 rj3 kj3 ⊢
        have r6 := Lib.hid (reads_from rj3 6 h6)
        rw [List.drop_drop] at r6
        have Hb3 := Lib.hid bo3
        have Ho11 := Lib.hid o11
        have Hkj3 := Lib.hid kj3
        clear hW3 bo3 o11 rj3 kj3 e9'' og9'' bo2 kW2 o10 g10 m10 oW1 rN kW1 e9 og9 HNU HNM
        by_cases hc6 : cj = 6
        · have hL6 : L = 6 := by omega
          go_wp2_with (fail)
          go_roundw
          case rel =>
            have e : r.length - 6 * (j + 1) = 0 := by have := HL.out; omega
            exact ⟨j + 1, some ⟨b2, o2, none⟩, 0, .slice A10 n10 c10, by rw [e], by have := HL.out; omega, by rw [e]; exact ⟨by rw [encB_len, List.length_drop]; omega, fun h => absurd h (by omega)⟩, by rw [e]; omega, by omega, Hb3.out, Ho11.out, Hkj3.out⟩
          case measure => simp [lenOf]; omega
        · go_wp2_with (fail)
          go_roundw
          case rel =>
            have e : r.length - 6 * (j + 1) = L - 6 := by have := HL.out; omega
            exact ⟨j + 1, some ⟨b2, o2 + 6, none⟩, cj - 6, .slice A10 n10 c10, by rw [e], by have := HL.out; omega, by rw [e]; exact r6.out, by rw [e]; omega, by omega, Hb3.out, Ho11.out, Hkj3.out⟩
          case measure => simp [lenOf]; omega
end
end Go.Proofs.Ytbngoaonkhcciaa
