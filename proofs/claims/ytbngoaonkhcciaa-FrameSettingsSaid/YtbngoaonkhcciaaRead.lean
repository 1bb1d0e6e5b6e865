/- frame: Read, type by type (printed by genread.py). -/
import Derived.Test.YtbngoaonkhcciaaAux
set_option linter.all false
namespace Go.Proofs.Ytbngoaonkhcciaa
open Go.ChangeShapes Go.WideShapes Go.ChangeAt Go.RowKit Go.Proofs.YtbngoaonkhcciaaW.PrintWords
attribute [local go_sem] setCell_drewN alloc_drewN Oper.semAt_some
def body0 (pad : Int) : Array Value := #[.slice none 0 0, .int .i64 pad, .bool false, .bool false, .int .i64 0, .int .i64 0, .int .i64 0, .int .i64 0, .int .i64 0, .slice none 0 0, .int .i64 0]
section
variable (w : World) {A : Option Addr} {n c : Nat} {bs r : List UInt8} {f : UInt8} {s : Int} {pad : Int}
set_option maxHeartbeats 2000000 in
theorem read_8 (hr : Reads w w.heap.size 1 A n (encB bs)) (hc : n ≤ c) (hc2 : c ≤ 9223372036854775807) (hc3 : n ≤ 140737488355328) (hb : bareF 8 f bs = .ok pad r) (hs : sizeF 8 f r.length = true) :
    Calls Try.prog 15 #[.agg #[.int .i64 (8 : Nat), .int .i64 f.toNat, .int .i64 s, .slice A n c]] w fun e w' =>
      e = .returned (.tuple #[.agg #[.slice none 0 0, .int .i64 pad, .bool false, .bool false, .int .i64 0, .int .i64 0, .int .i64 0, .int .i64 0, .int .i64 ((numB r % 2147483648 : Nat) : Int), .slice none 0 0, .int .i64 0], .int .i64 0]) ∧ Keep [] w w' := by
  have HB := Lib.hid hb
  have HS := Lib.hid hs
  clear hb hs
  have Hr := Lib.hid hr
  clear hr
  have hpl : placeF 8 = -1 := rfl
  go_enter Try.func15, Try.ntmps15
  go_wp2_with (fail)
  refine (place_ _ 8).mono ?_
  rintro e w1 ⟨rfl, k1⟩
  rw [hpl]
  have BF := ((Blk.new w 24 #[.int .i64 (8 : Nat), .int .i64 f.toNat, .int .i64 s, .slice A n c]).alloc (.cells (body0 0) 36)).keep k1 (by simp)
  have BR := (Blk.new (w.alloc (.cells #[.int .i64 (8 : Nat), .int .i64 f.toNat, .int .i64 s, .slice A n c] 24)) 36 (body0 0)).keep k1 (by simp)
  have K1 := Lib.hid ((((Keep.refl [] w).alloc _).alloc _).trans k1)
  have sz1 := k1.size
  simp at BR sz1
  have l1 : w.heap.size < w1.heap.size := by omega
  have l2 : w.heap.size + 1 < w1.heap.size := by omega
  clear k1 sz1
  have d0 := BF.cell 0
  have d1 := BF.cell 1
  have d2 := BF.cell 2
  have d3 := BF.cell 3
  simp at d0 d1 d2 d3
  go_wp2_with (fail)
  obtain ⟨W2, hW2⟩ : ∃ W2, W2 = w1.alloc (.cells (body0 0) 36) := ⟨_, rfl⟩
  have K2 : Keep [] w1 W2 := by rw [hW2]; exact (Keep.refl _ _).alloc _
  have BO : Blk W2 w1.heap.size 36 (body0 0) := by rw [hW2]; exact Blk.new _ _ _
  have z2 : W2.heap.size = w1.heap.size + 1 := by rw [hW2]; simp
  have hBc := bare_ W2 8 f s A n c w1.heap.size BO rfl rfl ((Hr.out.keeps (K1.out.trans K2) (Nat.le_refl _) (by simp)).more (by omega)) hc hc2
  rw [HB.out] at hBc
  show Calls Try.prog 26 _ (w1.alloc (.cells (body0 0) 36)) _
  rw [← hW2]
  refine hBc.mono ?_
  rintro e w2 ⟨A2, c2, rfl, rr, hcr, hcr2, bo, k2⟩
  have K3 := Lib.hid ((K1.out.trans K2).step k2 (by simp; omega))
  have z3 := k2.size
  have BF3 := (BF.keep K2 (by simp)).keep k2 (by simp; omega)
  have BR3 := (BR.keep K2 (by simp)).keep k2 (by simp; omega)
  obtain ⟨ob, hob⟩ : ∃ ob, ob = w1.heap.size := ⟨_, rfl⟩
  rw [← hob] at l1 l2 bo rr z2 ⊢
  have l3 : w.heap.size < w2.heap.size := by omega
  have l4 : w.heap.size + 1 < w2.heap.size := by omega
  have l5 : ob < w2.heap.size := by omega
  clear hBc hW2 BO K2 k2 z2 z3 BF BR hob K1 d0 d1 d2 d3 HB
  have d0 := BF3.cell 0
  have d1 := BF3.cell 1
  have d2 := BF3.cell 2
  have d3 := BF3.cell 3
  simp at d0 d1 d2 d3
  go_wp2_with (fail)
  have hSz := sized_ w2 8 f s (Hr.out.keeps K3.out (Nat.le_refl _) (by simp) |>.more K3.out.size) hc hc2 r.length
  rw [HS.out] at hSz
  refine hSz.mono ?_
  rintro e w3 ⟨rfl, k3⟩
  have K4 := Lib.hid (K3.out.trans k3)
  have z4 := k3.size
  have BF4 := BF3.keep k3 (by simp)
  have BR4 := BR3.keep k3 (by simp)
  have bo4 : Blk w3 ob 36 (body0 pad) := bo.keep k3 (by simp)
  have rr4 := Lib.hid (rr.keeps k3 (by omega) (by simp))
  have l6 : w.heap.size < w3.heap.size := by omega
  have l7 : w.heap.size + 1 < w3.heap.size := by omega
  have l8 : ob < w3.heap.size := by omega
  clear hSz BF3 BR3 bo rr l3 l4 l5 k3 z4 d0 d1 d2 d3 K3
  have d0 := BF4.cell 0
  have d1 := BF4.cell 1
  have d2 := BF4.cell 2
  have d3 := BF4.cell 3
  simp at d0 d1 d2 d3
  have hlr : r.length = 4 := by have := HS.out; simpa [sizeF] using this
  have hNum := number_ w3 (c := c2) rr4.out (by omega)
  have hlt := numB_lt4 r hlr
  obtain ⟨N, hN⟩ : ∃ N, N = numB r := ⟨_, rfl⟩
  have HA := Lib.hid (i64_and31 N (by omega))
  rw [← hN] at hlt hNum
  have HN := Lib.hid hNum
  have HNN := Lib.hid hN
  clear hlr hlt
  clear hNum hN
  go_wp2_with (fail)
  refine HN.out.mono ?_
  rintro e w4 ⟨rfl, rfl⟩
  have bo5 := bo4
  have BR5 := BR4
  have ne : ob ≠ w.heap.size + 1 := by omega
  have ne2 : w.heap.size + 1 ≠ ob := by omega
  have TE := Lib.hid bo5
  have TR := Lib.hid BR5
  have e0 := bo5.cell 0
  have e1 := bo5.cell 1
  have e2 := bo5.cell 2
  have e3 := bo5.cell 3
  have e4 := bo5.cell 4
  have e5 := bo5.cell 5
  have e6 := bo5.cell 6
  have e7 := bo5.cell 7
  have e8 := bo5.cell 8
  have e9 := bo5.cell 9
  have e10 := bo5.cell 10
  simp [body0] at e0 e1 e2 e3 e4 e5 e6 e7 e8 e9 e10
  have og8 := bo5.frozen 8
  have q0 := BR5.cell 0
  have g0 := BR5.frozen 0
  have q1 := BR5.cell 1
  have g1 := BR5.frozen 1
  have q2 := BR5.cell 2
  have g2 := BR5.frozen 2
  have q3 := BR5.cell 3
  have g3 := BR5.frozen 3
  have q4 := BR5.cell 4
  have g4 := BR5.frozen 4
  have q5 := BR5.cell 5
  have g5 := BR5.frozen 5
  have q6 := BR5.cell 6
  have g6 := BR5.frozen 6
  have q7 := BR5.cell 7
  have g7 := BR5.frozen 7
  have q8 := BR5.cell 8
  have g8 := BR5.frozen 8
  have q9 := BR5.cell 9
  have g9 := BR5.frozen 9
  have q10 := BR5.cell 10
  have g10 := BR5.frozen 10
  simp [body0] at q0 q1 q2 q3 q4 q5 q6 q7 q8 q9 q10
  have ha := HA.out
  clear HN d0 d1 d2 d3 bo4 BR4
  clear bo5 BR5
  go_wp2_with (fail)
  have FB := ((((((((((((TR.out.far (p := ⟨ob, 8, none⟩) ne2 (.int .i64 ((N : Int) % 2147483648))).set_ 0 (.slice none 0 0)).set_ 1 (.int .i64 pad)).set_ 2 (.bool false)).set_ 3 (.bool false)).set_ 4 (.int .i64 0)).set_ 5 (.int .i64 0)).set_ 6 (.int .i64 0)).set_ 7 (.int .i64 0)).set_ 8 (.int .i64 ((N : Int) % 2147483648))).set_ 9 (.slice none 0 0)).set_ 10 (.int .i64 0))
  simp only [body0, List.setIfInBounds_toArray, List.set_cons_zero, List.set_cons_succ] at FB
  have KL := (((((((((((((Keep.refl [ob, w.heap.size + 1] w3).setCell (p := ⟨ob, 8, none⟩) (.inl (by simp)) (.int .i64 ((N : Int) % 2147483648))).setCell (p := ⟨w.heap.size + 1, 0, none⟩) (.inl (by simp)) (.slice none 0 0)).setCell (p := ⟨w.heap.size + 1, 1, none⟩) (.inl (by simp)) (.int .i64 pad)).setCell (p := ⟨w.heap.size + 1, 2, none⟩) (.inl (by simp)) (.bool false)).setCell (p := ⟨w.heap.size + 1, 3, none⟩) (.inl (by simp)) (.bool false)).setCell (p := ⟨w.heap.size + 1, 4, none⟩) (.inl (by simp)) (.int .i64 0)).setCell (p := ⟨w.heap.size + 1, 5, none⟩) (.inl (by simp)) (.int .i64 0)).setCell (p := ⟨w.heap.size + 1, 6, none⟩) (.inl (by simp)) (.int .i64 0)).setCell (p := ⟨w.heap.size + 1, 7, none⟩) (.inl (by simp)) (.int .i64 0)).setCell (p := ⟨w.heap.size + 1, 8, none⟩) (.inl (by simp)) (.int .i64 ((N : Int) % 2147483648))).setCell (p := ⟨w.heap.size + 1, 9, none⟩) (.inl (by simp)) (.slice none 0 0)).setCell (p := ⟨w.heap.size + 1, 10, none⟩) (.inl (by simp)) (.int .i64 0))
  have KF := K4.out.step KL (by simp; omega)
  refine bodyPost_ret (results_ct rfl _ _ (w.heap.size + 1) 36 #[.slice none 0 0, .int .i64 pad, .bool false, .bool false, .int .i64 0, .int .i64 0, .int .i64 0, .int .i64 0, .int .i64 ((N : Int) % 2147483648), .slice none 0 0, .int .i64 0] (0, 0) _ rfl FB Try.underlying36 rfl (by kernel_rfl)) rfl ?_
  rw [← HNN.out]
  exact ⟨by simp, KF⟩
set_option maxHeartbeats 2000000 in
theorem read_0 (hr : Reads w w.heap.size 1 A n (encB bs)) (hc : n ≤ c) (hc2 : c ≤ 9223372036854775807) (hc3 : n ≤ 140737488355328) (hrl : r.length ≤ 140737488355328) (h1 : ¬ s = 0) (hb : bareF 0 f bs = .ok pad r) (hs : sizeF 0 f r.length = true) :
    Calls Try.prog 15 #[.agg #[.int .i64 (0 : Nat), .int .i64 f.toNat, .int .i64 s, .slice A n c]] w fun e w' =>
      ∃ v, e = .returned (.tuple #[.agg #[v, .int .i64 pad, .bool false, .bool false, .int .i64 0, .int .i64 0, .int .i64 0, .int .i64 0, .int .i64 0, .slice none 0 0, .int .i64 0], .int .i64 0]) ∧ Row1 w' w.heap.size 5 v (encB r) ∧ Keep [] w w' := by
  have HB := Lib.hid hb
  have HS := Lib.hid hs
  clear hb hs
  have Hr := Lib.hid hr
  clear hr
  have hpl : placeF 0 = 1 := rfl
  go_enter Try.func15, Try.ntmps15
  go_wp2_with (fail)
  refine (place_ _ 0).mono ?_
  rintro e w1 ⟨rfl, k1⟩
  rw [hpl]
  have BF := ((Blk.new w 24 #[.int .i64 (0 : Nat), .int .i64 f.toNat, .int .i64 s, .slice A n c]).alloc (.cells (body0 0) 36)).keep k1 (by simp)
  have BR := (Blk.new (w.alloc (.cells #[.int .i64 (0 : Nat), .int .i64 f.toNat, .int .i64 s, .slice A n c] 24)) 36 (body0 0)).keep k1 (by simp)
  have K1 := Lib.hid ((((Keep.refl [] w).alloc _).alloc _).trans k1)
  have sz1 := k1.size
  simp at BR sz1
  have l1 : w.heap.size < w1.heap.size := by omega
  have l2 : w.heap.size + 1 < w1.heap.size := by omega
  clear k1 sz1
  have d0 := BF.cell 0
  have d1 := BF.cell 1
  have d2 := BF.cell 2
  have d3 := BF.cell 3
  simp at d0 d1 d2 d3
  go_wp2_with (fail)
  obtain ⟨W2, hW2⟩ : ∃ W2, W2 = w1.alloc (.cells (body0 0) 36) := ⟨_, rfl⟩
  have K2 : Keep [] w1 W2 := by rw [hW2]; exact (Keep.refl _ _).alloc _
  have BO : Blk W2 w1.heap.size 36 (body0 0) := by rw [hW2]; exact Blk.new _ _ _
  have z2 : W2.heap.size = w1.heap.size + 1 := by rw [hW2]; simp
  have hBc := bare_ W2 0 f s A n c w1.heap.size BO rfl rfl ((Hr.out.keeps (K1.out.trans K2) (Nat.le_refl _) (by simp)).more (by omega)) hc hc2
  rw [HB.out] at hBc
  show Calls Try.prog 26 _ (w1.alloc (.cells (body0 0) 36)) _
  rw [← hW2]
  refine hBc.mono ?_
  rintro e w2 ⟨A2, c2, rfl, rr, hcr, hcr2, bo, k2⟩
  have K3 := Lib.hid ((K1.out.trans K2).step k2 (by simp; omega))
  have z3 := k2.size
  have BF3 := (BF.keep K2 (by simp)).keep k2 (by simp; omega)
  have BR3 := (BR.keep K2 (by simp)).keep k2 (by simp; omega)
  obtain ⟨ob, hob⟩ : ∃ ob, ob = w1.heap.size := ⟨_, rfl⟩
  rw [← hob] at l1 l2 bo rr z2 ⊢
  have l3 : w.heap.size < w2.heap.size := by omega
  have l4 : w.heap.size + 1 < w2.heap.size := by omega
  have l5 : ob < w2.heap.size := by omega
  clear hBc hW2 BO K2 k2 z2 z3 BF BR hob K1 d0 d1 d2 d3 HB
  have d0 := BF3.cell 0
  have d1 := BF3.cell 1
  have d2 := BF3.cell 2
  have d3 := BF3.cell 3
  simp at d0 d1 d2 d3
  go_wp2_with (fail)
  have hSz := sized_ w2 0 f s (Hr.out.keeps K3.out (Nat.le_refl _) (by simp) |>.more K3.out.size) hc hc2 r.length
  rw [HS.out] at hSz
  refine hSz.mono ?_
  rintro e w3 ⟨rfl, k3⟩
  have K4 := Lib.hid (K3.out.trans k3)
  have z4 := k3.size
  have BF4 := BF3.keep k3 (by simp)
  have BR4 := BR3.keep k3 (by simp)
  have bo4 : Blk w3 ob 36 (body0 pad) := bo.keep k3 (by simp)
  have rr4 := Lib.hid (rr.keeps k3 (by omega) (by simp))
  have l6 : w.heap.size < w3.heap.size := by omega
  have l7 : w.heap.size + 1 < w3.heap.size := by omega
  have l8 : ob < w3.heap.size := by omega
  clear hSz BF3 BR3 bo rr l3 l4 l5 k3 z4 d0 d1 d2 d3 K3
  have d0 := BF4.cell 0
  have d1 := BF4.cell 1
  have d2 := BF4.cell 2
  have d3 := BF4.cell 3
  simp at d0 d1 d2 d3
  go_wp2_with (fail)
  have hCl := clone w3 (c := c2) rr4.out (by omega) hrl
  refine hCl.mono ?_
  rintro e w4 ⟨v4, rfl, r4, k4⟩
  have K5 := Lib.hid (K4.out.trans k4)
  have bo5 := bo4.keep k4 (by simp)
  have BR5 := BR4.keep k4 (by simp)
  have z5 := k4.size
  have HRow := Lib.hid r4
  obtain ⟨A4, m4, cap4, hv4⟩ : ∃ A4 m4 cap4, v4 = .slice A4 m4 cap4 := by
    obtain ⟨A4, cap4, e, _⟩ := r4.reads
    exact ⟨A4, _, cap4, e⟩
  subst hv4
  clear hCl r4 k4
  have ne : ob ≠ w.heap.size + 1 := by omega
  have ne2 : w.heap.size + 1 ≠ ob := by omega
  have TE := Lib.hid bo5
  have TR := Lib.hid BR5
  have e0 := bo5.cell 0
  have e1 := bo5.cell 1
  have e2 := bo5.cell 2
  have e3 := bo5.cell 3
  have e4 := bo5.cell 4
  have e5 := bo5.cell 5
  have e6 := bo5.cell 6
  have e7 := bo5.cell 7
  have e8 := bo5.cell 8
  have e9 := bo5.cell 9
  have e10 := bo5.cell 10
  simp [body0] at e0 e1 e2 e3 e4 e5 e6 e7 e8 e9 e10
  have og0 := bo5.frozen 0
  have q0 := BR5.cell 0
  have g0 := BR5.frozen 0
  have q1 := BR5.cell 1
  have g1 := BR5.frozen 1
  have q2 := BR5.cell 2
  have g2 := BR5.frozen 2
  have q3 := BR5.cell 3
  have g3 := BR5.frozen 3
  have q4 := BR5.cell 4
  have g4 := BR5.frozen 4
  have q5 := BR5.cell 5
  have g5 := BR5.frozen 5
  have q6 := BR5.cell 6
  have g6 := BR5.frozen 6
  have q7 := BR5.cell 7
  have g7 := BR5.frozen 7
  have q8 := BR5.cell 8
  have g8 := BR5.frozen 8
  have q9 := BR5.cell 9
  have g9 := BR5.frozen 9
  have q10 := BR5.cell 10
  have g10 := BR5.frozen 10
  simp [body0] at q0 q1 q2 q3 q4 q5 q6 q7 q8 q9 q10
  clear d0 d1 d2 d3 bo4 BR4
  clear bo5 BR5
  go_wp2_with (fail)
  have FB := ((((((((((((TR.out.far (p := ⟨ob, 0, none⟩) ne2 (.slice A4 m4 cap4)).set_ 0 (.slice A4 m4 cap4)).set_ 1 (.int .i64 pad)).set_ 2 (.bool false)).set_ 3 (.bool false)).set_ 4 (.int .i64 0)).set_ 5 (.int .i64 0)).set_ 6 (.int .i64 0)).set_ 7 (.int .i64 0)).set_ 8 (.int .i64 0)).set_ 9 (.slice none 0 0)).set_ 10 (.int .i64 0))
  simp only [body0, List.setIfInBounds_toArray, List.set_cons_zero, List.set_cons_succ] at FB
  have KL := (((((((((((((Keep.refl [ob, w.heap.size + 1] w4).setCell (p := ⟨ob, 0, none⟩) (.inl (by simp)) (.slice A4 m4 cap4)).setCell (p := ⟨w.heap.size + 1, 0, none⟩) (.inl (by simp)) (.slice A4 m4 cap4)).setCell (p := ⟨w.heap.size + 1, 1, none⟩) (.inl (by simp)) (.int .i64 pad)).setCell (p := ⟨w.heap.size + 1, 2, none⟩) (.inl (by simp)) (.bool false)).setCell (p := ⟨w.heap.size + 1, 3, none⟩) (.inl (by simp)) (.bool false)).setCell (p := ⟨w.heap.size + 1, 4, none⟩) (.inl (by simp)) (.int .i64 0)).setCell (p := ⟨w.heap.size + 1, 5, none⟩) (.inl (by simp)) (.int .i64 0)).setCell (p := ⟨w.heap.size + 1, 6, none⟩) (.inl (by simp)) (.int .i64 0)).setCell (p := ⟨w.heap.size + 1, 7, none⟩) (.inl (by simp)) (.int .i64 0)).setCell (p := ⟨w.heap.size + 1, 8, none⟩) (.inl (by simp)) (.int .i64 0)).setCell (p := ⟨w.heap.size + 1, 9, none⟩) (.inl (by simp)) (.slice none 0 0)).setCell (p := ⟨w.heap.size + 1, 10, none⟩) (.inl (by simp)) (.int .i64 0))
  have KF := K5.out.step KL (by simp; omega)
  refine bodyPost_ret (results_ct rfl _ _ (w.heap.size + 1) 36 #[.slice A4 m4 cap4, .int .i64 pad, .bool false, .bool false, .int .i64 0, .int .i64 0, .int .i64 0, .int .i64 0, .int .i64 0, .slice none 0 0, .int .i64 0] (0, 0) _ rfl FB Try.underlying36 rfl (by kernel_rfl)) rfl ?_
  exact ⟨_, rfl, (HRow.out.keep KL (fun g hg => by have := HRow.out.lt g hg; simp; omega)).lower (by omega), KF⟩
set_option maxHeartbeats 2000000 in
theorem read_6 (hr : Reads w w.heap.size 1 A n (encB bs)) (hc : n ≤ c) (hc2 : c ≤ 9223372036854775807) (hc3 : n ≤ 140737488355328) (hrl : r.length ≤ 140737488355328) (hb : bareF 6 f bs = .ok pad r) (hs : sizeF 6 f r.length = true) :
    Calls Try.prog 15 #[.agg #[.int .i64 (6 : Nat), .int .i64 f.toNat, .int .i64 0, .slice A n c]] w fun e w' =>
      ∃ v, e = .returned (.tuple #[.agg #[v, .int .i64 pad, .bool false, .bool false, .int .i64 0, .int .i64 0, .int .i64 0, .int .i64 0, .int .i64 0, .slice none 0 0, .int .i64 0], .int .i64 0]) ∧ Row1 w' w.heap.size 5 v (encB r) ∧ Keep [] w w' := by
  have HB := Lib.hid hb
  have HS := Lib.hid hs
  clear hb hs
  have Hr := Lib.hid hr
  clear hr
  have hpl : placeF 6 = 0 := rfl
  go_enter Try.func15, Try.ntmps15
  go_wp2_with (fail)
  refine (place_ _ 6).mono ?_
  rintro e w1 ⟨rfl, k1⟩
  rw [hpl]
  have BF := ((Blk.new w 24 #[.int .i64 (6 : Nat), .int .i64 f.toNat, .int .i64 0, .slice A n c]).alloc (.cells (body0 0) 36)).keep k1 (by simp)
  have BR := (Blk.new (w.alloc (.cells #[.int .i64 (6 : Nat), .int .i64 f.toNat, .int .i64 0, .slice A n c] 24)) 36 (body0 0)).keep k1 (by simp)
  have K1 := Lib.hid ((((Keep.refl [] w).alloc _).alloc _).trans k1)
  have sz1 := k1.size
  simp at BR sz1
  have l1 : w.heap.size < w1.heap.size := by omega
  have l2 : w.heap.size + 1 < w1.heap.size := by omega
  clear k1 sz1
  have d0 := BF.cell 0
  have d1 := BF.cell 1
  have d2 := BF.cell 2
  have d3 := BF.cell 3
  simp at d0 d1 d2 d3
  go_wp2_with (fail)
  obtain ⟨W2, hW2⟩ : ∃ W2, W2 = w1.alloc (.cells (body0 0) 36) := ⟨_, rfl⟩
  have K2 : Keep [] w1 W2 := by rw [hW2]; exact (Keep.refl _ _).alloc _
  have BO : Blk W2 w1.heap.size 36 (body0 0) := by rw [hW2]; exact Blk.new _ _ _
  have z2 : W2.heap.size = w1.heap.size + 1 := by rw [hW2]; simp
  have hBc := bare_ W2 6 f 0 A n c w1.heap.size BO rfl rfl ((Hr.out.keeps (K1.out.trans K2) (Nat.le_refl _) (by simp)).more (by omega)) hc hc2
  rw [HB.out] at hBc
  show Calls Try.prog 26 _ (w1.alloc (.cells (body0 0) 36)) _
  rw [← hW2]
  refine hBc.mono ?_
  rintro e w2 ⟨A2, c2, rfl, rr, hcr, hcr2, bo, k2⟩
  have K3 := Lib.hid ((K1.out.trans K2).step k2 (by simp; omega))
  have z3 := k2.size
  have BF3 := (BF.keep K2 (by simp)).keep k2 (by simp; omega)
  have BR3 := (BR.keep K2 (by simp)).keep k2 (by simp; omega)
  obtain ⟨ob, hob⟩ : ∃ ob, ob = w1.heap.size := ⟨_, rfl⟩
  rw [← hob] at l1 l2 bo rr z2 ⊢
  have l3 : w.heap.size < w2.heap.size := by omega
  have l4 : w.heap.size + 1 < w2.heap.size := by omega
  have l5 : ob < w2.heap.size := by omega
  clear hBc hW2 BO K2 k2 z2 z3 BF BR hob K1 d0 d1 d2 d3 HB
  have d0 := BF3.cell 0
  have d1 := BF3.cell 1
  have d2 := BF3.cell 2
  have d3 := BF3.cell 3
  simp at d0 d1 d2 d3
  go_wp2_with (fail)
  have hSz := sized_ w2 6 f 0 (Hr.out.keeps K3.out (Nat.le_refl _) (by simp) |>.more K3.out.size) hc hc2 r.length
  rw [HS.out] at hSz
  refine hSz.mono ?_
  rintro e w3 ⟨rfl, k3⟩
  have K4 := Lib.hid (K3.out.trans k3)
  have z4 := k3.size
  have BF4 := BF3.keep k3 (by simp)
  have BR4 := BR3.keep k3 (by simp)
  have bo4 : Blk w3 ob 36 (body0 pad) := bo.keep k3 (by simp)
  have rr4 := Lib.hid (rr.keeps k3 (by omega) (by simp))
  have l6 : w.heap.size < w3.heap.size := by omega
  have l7 : w.heap.size + 1 < w3.heap.size := by omega
  have l8 : ob < w3.heap.size := by omega
  clear hSz BF3 BR3 bo rr l3 l4 l5 k3 z4 d0 d1 d2 d3 K3
  have d0 := BF4.cell 0
  have d1 := BF4.cell 1
  have d2 := BF4.cell 2
  have d3 := BF4.cell 3
  simp at d0 d1 d2 d3
  go_wp2_with (fail)
  have hCl := clone w3 (c := c2) rr4.out (by omega) hrl
  refine hCl.mono ?_
  rintro e w4 ⟨v4, rfl, r4, k4⟩
  have K5 := Lib.hid (K4.out.trans k4)
  have bo5 := bo4.keep k4 (by simp)
  have BR5 := BR4.keep k4 (by simp)
  have z5 := k4.size
  have HRow := Lib.hid r4
  obtain ⟨A4, m4, cap4, hv4⟩ : ∃ A4 m4 cap4, v4 = .slice A4 m4 cap4 := by
    obtain ⟨A4, cap4, e, _⟩ := r4.reads
    exact ⟨A4, _, cap4, e⟩
  subst hv4
  clear hCl r4 k4
  have ne : ob ≠ w.heap.size + 1 := by omega
  have ne2 : w.heap.size + 1 ≠ ob := by omega
  have TE := Lib.hid bo5
  have TR := Lib.hid BR5
  have e0 := bo5.cell 0
  have e1 := bo5.cell 1
  have e2 := bo5.cell 2
  have e3 := bo5.cell 3
  have e4 := bo5.cell 4
  have e5 := bo5.cell 5
  have e6 := bo5.cell 6
  have e7 := bo5.cell 7
  have e8 := bo5.cell 8
  have e9 := bo5.cell 9
  have e10 := bo5.cell 10
  simp [body0] at e0 e1 e2 e3 e4 e5 e6 e7 e8 e9 e10
  have og0 := bo5.frozen 0
  have q0 := BR5.cell 0
  have g0 := BR5.frozen 0
  have q1 := BR5.cell 1
  have g1 := BR5.frozen 1
  have q2 := BR5.cell 2
  have g2 := BR5.frozen 2
  have q3 := BR5.cell 3
  have g3 := BR5.frozen 3
  have q4 := BR5.cell 4
  have g4 := BR5.frozen 4
  have q5 := BR5.cell 5
  have g5 := BR5.frozen 5
  have q6 := BR5.cell 6
  have g6 := BR5.frozen 6
  have q7 := BR5.cell 7
  have g7 := BR5.frozen 7
  have q8 := BR5.cell 8
  have g8 := BR5.frozen 8
  have q9 := BR5.cell 9
  have g9 := BR5.frozen 9
  have q10 := BR5.cell 10
  have g10 := BR5.frozen 10
  simp [body0] at q0 q1 q2 q3 q4 q5 q6 q7 q8 q9 q10
  clear d0 d1 d2 d3 bo4 BR4
  clear bo5 BR5
  go_wp2_with (fail)
  have FB := ((((((((((((TR.out.far (p := ⟨ob, 0, none⟩) ne2 (.slice A4 m4 cap4)).set_ 0 (.slice A4 m4 cap4)).set_ 1 (.int .i64 pad)).set_ 2 (.bool false)).set_ 3 (.bool false)).set_ 4 (.int .i64 0)).set_ 5 (.int .i64 0)).set_ 6 (.int .i64 0)).set_ 7 (.int .i64 0)).set_ 8 (.int .i64 0)).set_ 9 (.slice none 0 0)).set_ 10 (.int .i64 0))
  simp only [body0, List.setIfInBounds_toArray, List.set_cons_zero, List.set_cons_succ] at FB
  have KL := (((((((((((((Keep.refl [ob, w.heap.size + 1] w4).setCell (p := ⟨ob, 0, none⟩) (.inl (by simp)) (.slice A4 m4 cap4)).setCell (p := ⟨w.heap.size + 1, 0, none⟩) (.inl (by simp)) (.slice A4 m4 cap4)).setCell (p := ⟨w.heap.size + 1, 1, none⟩) (.inl (by simp)) (.int .i64 pad)).setCell (p := ⟨w.heap.size + 1, 2, none⟩) (.inl (by simp)) (.bool false)).setCell (p := ⟨w.heap.size + 1, 3, none⟩) (.inl (by simp)) (.bool false)).setCell (p := ⟨w.heap.size + 1, 4, none⟩) (.inl (by simp)) (.int .i64 0)).setCell (p := ⟨w.heap.size + 1, 5, none⟩) (.inl (by simp)) (.int .i64 0)).setCell (p := ⟨w.heap.size + 1, 6, none⟩) (.inl (by simp)) (.int .i64 0)).setCell (p := ⟨w.heap.size + 1, 7, none⟩) (.inl (by simp)) (.int .i64 0)).setCell (p := ⟨w.heap.size + 1, 8, none⟩) (.inl (by simp)) (.int .i64 0)).setCell (p := ⟨w.heap.size + 1, 9, none⟩) (.inl (by simp)) (.slice none 0 0)).setCell (p := ⟨w.heap.size + 1, 10, none⟩) (.inl (by simp)) (.int .i64 0))
  have KF := K5.out.step KL (by simp; omega)
  refine bodyPost_ret (results_ct rfl _ _ (w.heap.size + 1) 36 #[.slice A4 m4 cap4, .int .i64 pad, .bool false, .bool false, .int .i64 0, .int .i64 0, .int .i64 0, .int .i64 0, .int .i64 0, .slice none 0 0, .int .i64 0] (0, 0) _ rfl FB Try.underlying36 rfl (by kernel_rfl)) rfl ?_
  exact ⟨_, rfl, (HRow.out.keep KL (fun g hg => by have := HRow.out.lt g hg; simp; omega)).lower (by omega), KF⟩
set_option maxHeartbeats 2000000 in
theorem read_9 (hr : Reads w w.heap.size 1 A n (encB bs)) (hc : n ≤ c) (hc2 : c ≤ 9223372036854775807) (hc3 : n ≤ 140737488355328) (hrl : r.length ≤ 140737488355328) (h1 : ¬ s = 0) (hb : bareF 9 f bs = .ok pad r) (hs : sizeF 9 f r.length = true) :
    Calls Try.prog 15 #[.agg #[.int .i64 (9 : Nat), .int .i64 f.toNat, .int .i64 s, .slice A n c]] w fun e w' =>
      ∃ v, e = .returned (.tuple #[.agg #[v, .int .i64 pad, .bool false, .bool false, .int .i64 0, .int .i64 0, .int .i64 0, .int .i64 0, .int .i64 0, .slice none 0 0, .int .i64 0], .int .i64 0]) ∧ Row1 w' w.heap.size 5 v (encB r) ∧ Keep [] w w' := by
  have HB := Lib.hid hb
  have HS := Lib.hid hs
  clear hb hs
  have Hr := Lib.hid hr
  clear hr
  have hpl : placeF 9 = 1 := rfl
  go_enter Try.func15, Try.ntmps15
  go_wp2_with (fail)
  refine (place_ _ 9).mono ?_
  rintro e w1 ⟨rfl, k1⟩
  rw [hpl]
  have BF := ((Blk.new w 24 #[.int .i64 (9 : Nat), .int .i64 f.toNat, .int .i64 s, .slice A n c]).alloc (.cells (body0 0) 36)).keep k1 (by simp)
  have BR := (Blk.new (w.alloc (.cells #[.int .i64 (9 : Nat), .int .i64 f.toNat, .int .i64 s, .slice A n c] 24)) 36 (body0 0)).keep k1 (by simp)
  have K1 := Lib.hid ((((Keep.refl [] w).alloc _).alloc _).trans k1)
  have sz1 := k1.size
  simp at BR sz1
  have l1 : w.heap.size < w1.heap.size := by omega
  have l2 : w.heap.size + 1 < w1.heap.size := by omega
  clear k1 sz1
  have d0 := BF.cell 0
  have d1 := BF.cell 1
  have d2 := BF.cell 2
  have d3 := BF.cell 3
  simp at d0 d1 d2 d3
  go_wp2_with (fail)
  obtain ⟨W2, hW2⟩ : ∃ W2, W2 = w1.alloc (.cells (body0 0) 36) := ⟨_, rfl⟩
  have K2 : Keep [] w1 W2 := by rw [hW2]; exact (Keep.refl _ _).alloc _
  have BO : Blk W2 w1.heap.size 36 (body0 0) := by rw [hW2]; exact Blk.new _ _ _
  have z2 : W2.heap.size = w1.heap.size + 1 := by rw [hW2]; simp
  have hBc := bare_ W2 9 f s A n c w1.heap.size BO rfl rfl ((Hr.out.keeps (K1.out.trans K2) (Nat.le_refl _) (by simp)).more (by omega)) hc hc2
  rw [HB.out] at hBc
  show Calls Try.prog 26 _ (w1.alloc (.cells (body0 0) 36)) _
  rw [← hW2]
  refine hBc.mono ?_
  rintro e w2 ⟨A2, c2, rfl, rr, hcr, hcr2, bo, k2⟩
  have K3 := Lib.hid ((K1.out.trans K2).step k2 (by simp; omega))
  have z3 := k2.size
  have BF3 := (BF.keep K2 (by simp)).keep k2 (by simp; omega)
  have BR3 := (BR.keep K2 (by simp)).keep k2 (by simp; omega)
  obtain ⟨ob, hob⟩ : ∃ ob, ob = w1.heap.size := ⟨_, rfl⟩
  rw [← hob] at l1 l2 bo rr z2 ⊢
  have l3 : w.heap.size < w2.heap.size := by omega
  have l4 : w.heap.size + 1 < w2.heap.size := by omega
  have l5 : ob < w2.heap.size := by omega
  clear hBc hW2 BO K2 k2 z2 z3 BF BR hob K1 d0 d1 d2 d3 HB
  have d0 := BF3.cell 0
  have d1 := BF3.cell 1
  have d2 := BF3.cell 2
  have d3 := BF3.cell 3
  simp at d0 d1 d2 d3
  go_wp2_with (fail)
  have hSz := sized_ w2 9 f s (Hr.out.keeps K3.out (Nat.le_refl _) (by simp) |>.more K3.out.size) hc hc2 r.length
  rw [HS.out] at hSz
  refine hSz.mono ?_
  rintro e w3 ⟨rfl, k3⟩
  have K4 := Lib.hid (K3.out.trans k3)
  have z4 := k3.size
  have BF4 := BF3.keep k3 (by simp)
  have BR4 := BR3.keep k3 (by simp)
  have bo4 : Blk w3 ob 36 (body0 pad) := bo.keep k3 (by simp)
  have rr4 := Lib.hid (rr.keeps k3 (by omega) (by simp))
  have l6 : w.heap.size < w3.heap.size := by omega
  have l7 : w.heap.size + 1 < w3.heap.size := by omega
  have l8 : ob < w3.heap.size := by omega
  clear hSz BF3 BR3 bo rr l3 l4 l5 k3 z4 d0 d1 d2 d3 K3
  have d0 := BF4.cell 0
  have d1 := BF4.cell 1
  have d2 := BF4.cell 2
  have d3 := BF4.cell 3
  simp at d0 d1 d2 d3
  go_wp2_with (fail)
  have hCl := clone w3 (c := c2) rr4.out (by omega) hrl
  refine hCl.mono ?_
  rintro e w4 ⟨v4, rfl, r4, k4⟩
  have K5 := Lib.hid (K4.out.trans k4)
  have bo5 := bo4.keep k4 (by simp)
  have BR5 := BR4.keep k4 (by simp)
  have z5 := k4.size
  have HRow := Lib.hid r4
  obtain ⟨A4, m4, cap4, hv4⟩ : ∃ A4 m4 cap4, v4 = .slice A4 m4 cap4 := by
    obtain ⟨A4, cap4, e, _⟩ := r4.reads
    exact ⟨A4, _, cap4, e⟩
  subst hv4
  clear hCl r4 k4
  have ne : ob ≠ w.heap.size + 1 := by omega
  have ne2 : w.heap.size + 1 ≠ ob := by omega
  have TE := Lib.hid bo5
  have TR := Lib.hid BR5
  have e0 := bo5.cell 0
  have e1 := bo5.cell 1
  have e2 := bo5.cell 2
  have e3 := bo5.cell 3
  have e4 := bo5.cell 4
  have e5 := bo5.cell 5
  have e6 := bo5.cell 6
  have e7 := bo5.cell 7
  have e8 := bo5.cell 8
  have e9 := bo5.cell 9
  have e10 := bo5.cell 10
  simp [body0] at e0 e1 e2 e3 e4 e5 e6 e7 e8 e9 e10
  have og0 := bo5.frozen 0
  have q0 := BR5.cell 0
  have g0 := BR5.frozen 0
  have q1 := BR5.cell 1
  have g1 := BR5.frozen 1
  have q2 := BR5.cell 2
  have g2 := BR5.frozen 2
  have q3 := BR5.cell 3
  have g3 := BR5.frozen 3
  have q4 := BR5.cell 4
  have g4 := BR5.frozen 4
  have q5 := BR5.cell 5
  have g5 := BR5.frozen 5
  have q6 := BR5.cell 6
  have g6 := BR5.frozen 6
  have q7 := BR5.cell 7
  have g7 := BR5.frozen 7
  have q8 := BR5.cell 8
  have g8 := BR5.frozen 8
  have q9 := BR5.cell 9
  have g9 := BR5.frozen 9
  have q10 := BR5.cell 10
  have g10 := BR5.frozen 10
  simp [body0] at q0 q1 q2 q3 q4 q5 q6 q7 q8 q9 q10
  clear d0 d1 d2 d3 bo4 BR4
  clear bo5 BR5
  go_wp2_with (fail)
  have FB := ((((((((((((TR.out.far (p := ⟨ob, 0, none⟩) ne2 (.slice A4 m4 cap4)).set_ 0 (.slice A4 m4 cap4)).set_ 1 (.int .i64 pad)).set_ 2 (.bool false)).set_ 3 (.bool false)).set_ 4 (.int .i64 0)).set_ 5 (.int .i64 0)).set_ 6 (.int .i64 0)).set_ 7 (.int .i64 0)).set_ 8 (.int .i64 0)).set_ 9 (.slice none 0 0)).set_ 10 (.int .i64 0))
  simp only [body0, List.setIfInBounds_toArray, List.set_cons_zero, List.set_cons_succ] at FB
  have KL := (((((((((((((Keep.refl [ob, w.heap.size + 1] w4).setCell (p := ⟨ob, 0, none⟩) (.inl (by simp)) (.slice A4 m4 cap4)).setCell (p := ⟨w.heap.size + 1, 0, none⟩) (.inl (by simp)) (.slice A4 m4 cap4)).setCell (p := ⟨w.heap.size + 1, 1, none⟩) (.inl (by simp)) (.int .i64 pad)).setCell (p := ⟨w.heap.size + 1, 2, none⟩) (.inl (by simp)) (.bool false)).setCell (p := ⟨w.heap.size + 1, 3, none⟩) (.inl (by simp)) (.bool false)).setCell (p := ⟨w.heap.size + 1, 4, none⟩) (.inl (by simp)) (.int .i64 0)).setCell (p := ⟨w.heap.size + 1, 5, none⟩) (.inl (by simp)) (.int .i64 0)).setCell (p := ⟨w.heap.size + 1, 6, none⟩) (.inl (by simp)) (.int .i64 0)).setCell (p := ⟨w.heap.size + 1, 7, none⟩) (.inl (by simp)) (.int .i64 0)).setCell (p := ⟨w.heap.size + 1, 8, none⟩) (.inl (by simp)) (.int .i64 0)).setCell (p := ⟨w.heap.size + 1, 9, none⟩) (.inl (by simp)) (.slice none 0 0)).setCell (p := ⟨w.heap.size + 1, 10, none⟩) (.inl (by simp)) (.int .i64 0))
  have KF := K5.out.step KL (by simp; omega)
  refine bodyPost_ret (results_ct rfl _ _ (w.heap.size + 1) 36 #[.slice A4 m4 cap4, .int .i64 pad, .bool false, .bool false, .int .i64 0, .int .i64 0, .int .i64 0, .int .i64 0, .int .i64 0, .slice none 0 0, .int .i64 0] (0, 0) _ rfl FB Try.underlying36 rfl (by kernel_rfl)) rfl ?_
  exact ⟨_, rfl, (HRow.out.keep KL (fun g hg => by have := HRow.out.lt g hg; simp; omega)).lower (by omega), KF⟩
set_option maxHeartbeats 2000000 in
theorem read_1n (hr : Reads w w.heap.size 1 A n (encB bs)) (hc : n ≤ c) (hc2 : c ≤ 9223372036854775807) (hc3 : n ≤ 140737488355328) (hrl : r.length ≤ 140737488355328) (h1 : ¬ s = 0) (hf : onF f 32 = false) (hb : bareF 1 f bs = .ok pad r) (hs : sizeF 1 f r.length = true) :
    Calls Try.prog 15 #[.agg #[.int .i64 (1 : Nat), .int .i64 f.toNat, .int .i64 s, .slice A n c]] w fun e w' =>
      ∃ v, e = .returned (.tuple #[.agg #[v, .int .i64 pad, .bool false, .bool false, .int .i64 0, .int .i64 0, .int .i64 0, .int .i64 0, .int .i64 0, .slice none 0 0, .int .i64 0], .int .i64 0]) ∧ Row1 w' w.heap.size 5 v (encB r) ∧ Keep [] w w' := by
  have HB := Lib.hid hb
  have HS := Lib.hid hs
  clear hb hs
  have Hr := Lib.hid hr
  clear hr
  have hpl : placeF 1 = 1 := rfl
  go_enter Try.func15, Try.ntmps15
  go_wp2_with (fail)
  refine (place_ _ 1).mono ?_
  rintro e w1 ⟨rfl, k1⟩
  rw [hpl]
  have BF := ((Blk.new w 24 #[.int .i64 (1 : Nat), .int .i64 f.toNat, .int .i64 s, .slice A n c]).alloc (.cells (body0 0) 36)).keep k1 (by simp)
  have BR := (Blk.new (w.alloc (.cells #[.int .i64 (1 : Nat), .int .i64 f.toNat, .int .i64 s, .slice A n c] 24)) 36 (body0 0)).keep k1 (by simp)
  have K1 := Lib.hid ((((Keep.refl [] w).alloc _).alloc _).trans k1)
  have sz1 := k1.size
  simp at BR sz1
  have l1 : w.heap.size < w1.heap.size := by omega
  have l2 : w.heap.size + 1 < w1.heap.size := by omega
  clear k1 sz1
  have d0 := BF.cell 0
  have d1 := BF.cell 1
  have d2 := BF.cell 2
  have d3 := BF.cell 3
  simp at d0 d1 d2 d3
  go_wp2_with (fail)
  obtain ⟨W2, hW2⟩ : ∃ W2, W2 = w1.alloc (.cells (body0 0) 36) := ⟨_, rfl⟩
  have K2 : Keep [] w1 W2 := by rw [hW2]; exact (Keep.refl _ _).alloc _
  have BO : Blk W2 w1.heap.size 36 (body0 0) := by rw [hW2]; exact Blk.new _ _ _
  have z2 : W2.heap.size = w1.heap.size + 1 := by rw [hW2]; simp
  have hBc := bare_ W2 1 f s A n c w1.heap.size BO rfl rfl ((Hr.out.keeps (K1.out.trans K2) (Nat.le_refl _) (by simp)).more (by omega)) hc hc2
  rw [HB.out] at hBc
  show Calls Try.prog 26 _ (w1.alloc (.cells (body0 0) 36)) _
  rw [← hW2]
  refine hBc.mono ?_
  rintro e w2 ⟨A2, c2, rfl, rr, hcr, hcr2, bo, k2⟩
  have K3 := Lib.hid ((K1.out.trans K2).step k2 (by simp; omega))
  have z3 := k2.size
  have BF3 := (BF.keep K2 (by simp)).keep k2 (by simp; omega)
  have BR3 := (BR.keep K2 (by simp)).keep k2 (by simp; omega)
  obtain ⟨ob, hob⟩ : ∃ ob, ob = w1.heap.size := ⟨_, rfl⟩
  rw [← hob] at l1 l2 bo rr z2 ⊢
  have l3 : w.heap.size < w2.heap.size := by omega
  have l4 : w.heap.size + 1 < w2.heap.size := by omega
  have l5 : ob < w2.heap.size := by omega
  clear hBc hW2 BO K2 k2 z2 z3 BF BR hob K1 d0 d1 d2 d3 HB
  have d0 := BF3.cell 0
  have d1 := BF3.cell 1
  have d2 := BF3.cell 2
  have d3 := BF3.cell 3
  simp at d0 d1 d2 d3
  have h32 : f.toNat / 32 % 2 * 32 = 0 := by
    simp [onF] at hf
    omega
  have h32 : bits .and .i64 (f.toNat : Int) 32 = 0 := by have := and32 f; rw [h32] at this; exact this
  clear hf
  go_wp2_with (fail)
  have hSz := sized_ w2 1 f s (Hr.out.keeps K3.out (Nat.le_refl _) (by simp) |>.more K3.out.size) hc hc2 r.length
  rw [HS.out] at hSz
  refine hSz.mono ?_
  rintro e w3 ⟨rfl, k3⟩
  have K4 := Lib.hid (K3.out.trans k3)
  have z4 := k3.size
  have BF4 := BF3.keep k3 (by simp)
  have BR4 := BR3.keep k3 (by simp)
  have bo4 : Blk w3 ob 36 (body0 pad) := bo.keep k3 (by simp)
  have rr4 := Lib.hid (rr.keeps k3 (by omega) (by simp))
  have l6 : w.heap.size < w3.heap.size := by omega
  have l7 : w.heap.size + 1 < w3.heap.size := by omega
  have l8 : ob < w3.heap.size := by omega
  clear hSz BF3 BR3 bo rr l3 l4 l5 k3 z4 d0 d1 d2 d3 K3
  have d0 := BF4.cell 0
  have d1 := BF4.cell 1
  have d2 := BF4.cell 2
  have d3 := BF4.cell 3
  simp at d0 d1 d2 d3
  go_wp2_with (fail)
  have hCl := clone w3 (c := c2) rr4.out (by omega) hrl
  refine hCl.mono ?_
  rintro e w4 ⟨v4, rfl, r4, k4⟩
  have K5 := Lib.hid (K4.out.trans k4)
  have bo5 := bo4.keep k4 (by simp)
  have BR5 := BR4.keep k4 (by simp)
  have z5 := k4.size
  have HRow := Lib.hid r4
  obtain ⟨A4, m4, cap4, hv4⟩ : ∃ A4 m4 cap4, v4 = .slice A4 m4 cap4 := by
    obtain ⟨A4, cap4, e, _⟩ := r4.reads
    exact ⟨A4, _, cap4, e⟩
  subst hv4
  clear hCl r4 k4
  have ne : ob ≠ w.heap.size + 1 := by omega
  have ne2 : w.heap.size + 1 ≠ ob := by omega
  have TE := Lib.hid bo5
  have TR := Lib.hid BR5
  have e0 := bo5.cell 0
  have e1 := bo5.cell 1
  have e2 := bo5.cell 2
  have e3 := bo5.cell 3
  have e4 := bo5.cell 4
  have e5 := bo5.cell 5
  have e6 := bo5.cell 6
  have e7 := bo5.cell 7
  have e8 := bo5.cell 8
  have e9 := bo5.cell 9
  have e10 := bo5.cell 10
  simp [body0] at e0 e1 e2 e3 e4 e5 e6 e7 e8 e9 e10
  have og0 := bo5.frozen 0
  have q0 := BR5.cell 0
  have g0 := BR5.frozen 0
  have q1 := BR5.cell 1
  have g1 := BR5.frozen 1
  have q2 := BR5.cell 2
  have g2 := BR5.frozen 2
  have q3 := BR5.cell 3
  have g3 := BR5.frozen 3
  have q4 := BR5.cell 4
  have g4 := BR5.frozen 4
  have q5 := BR5.cell 5
  have g5 := BR5.frozen 5
  have q6 := BR5.cell 6
  have g6 := BR5.frozen 6
  have q7 := BR5.cell 7
  have g7 := BR5.frozen 7
  have q8 := BR5.cell 8
  have g8 := BR5.frozen 8
  have q9 := BR5.cell 9
  have g9 := BR5.frozen 9
  have q10 := BR5.cell 10
  have g10 := BR5.frozen 10
  simp [body0] at q0 q1 q2 q3 q4 q5 q6 q7 q8 q9 q10
  clear d0 d1 d2 d3 bo4 BR4
  clear bo5 BR5
  go_wp2_with (fail)
  have FB := ((((((((((((TR.out.far (p := ⟨ob, 0, none⟩) ne2 (.slice A4 m4 cap4)).set_ 0 (.slice A4 m4 cap4)).set_ 1 (.int .i64 pad)).set_ 2 (.bool false)).set_ 3 (.bool false)).set_ 4 (.int .i64 0)).set_ 5 (.int .i64 0)).set_ 6 (.int .i64 0)).set_ 7 (.int .i64 0)).set_ 8 (.int .i64 0)).set_ 9 (.slice none 0 0)).set_ 10 (.int .i64 0))
  simp only [body0, List.setIfInBounds_toArray, List.set_cons_zero, List.set_cons_succ] at FB
  have KL := (((((((((((((Keep.refl [ob, w.heap.size + 1] w4).setCell (p := ⟨ob, 0, none⟩) (.inl (by simp)) (.slice A4 m4 cap4)).setCell (p := ⟨w.heap.size + 1, 0, none⟩) (.inl (by simp)) (.slice A4 m4 cap4)).setCell (p := ⟨w.heap.size + 1, 1, none⟩) (.inl (by simp)) (.int .i64 pad)).setCell (p := ⟨w.heap.size + 1, 2, none⟩) (.inl (by simp)) (.bool false)).setCell (p := ⟨w.heap.size + 1, 3, none⟩) (.inl (by simp)) (.bool false)).setCell (p := ⟨w.heap.size + 1, 4, none⟩) (.inl (by simp)) (.int .i64 0)).setCell (p := ⟨w.heap.size + 1, 5, none⟩) (.inl (by simp)) (.int .i64 0)).setCell (p := ⟨w.heap.size + 1, 6, none⟩) (.inl (by simp)) (.int .i64 0)).setCell (p := ⟨w.heap.size + 1, 7, none⟩) (.inl (by simp)) (.int .i64 0)).setCell (p := ⟨w.heap.size + 1, 8, none⟩) (.inl (by simp)) (.int .i64 0)).setCell (p := ⟨w.heap.size + 1, 9, none⟩) (.inl (by simp)) (.slice none 0 0)).setCell (p := ⟨w.heap.size + 1, 10, none⟩) (.inl (by simp)) (.int .i64 0))
  have KF := K5.out.step KL (by simp; omega)
  refine bodyPost_ret (results_ct rfl _ _ (w.heap.size + 1) 36 #[.slice A4 m4 cap4, .int .i64 pad, .bool false, .bool false, .int .i64 0, .int .i64 0, .int .i64 0, .int .i64 0, .int .i64 0, .slice none 0 0, .int .i64 0] (0, 0) _ rfl FB Try.underlying36 rfl (by kernel_rfl)) rfl ?_
  exact ⟨_, rfl, (HRow.out.keep KL (fun g hg => by have := HRow.out.lt g hg; simp; omega)).lower (by omega), KF⟩
set_option maxHeartbeats 2000000 in
theorem read_3 (hr : Reads w w.heap.size 1 A n (encB bs)) (hc : n ≤ c) (hc2 : c ≤ 9223372036854775807) (hc3 : n ≤ 140737488355328) (h1 : ¬ s = 0) (hb : bareF 3 f bs = .ok pad r) (hs : sizeF 3 f r.length = true) :
    Calls Try.prog 15 #[.agg #[.int .i64 (3 : Nat), .int .i64 f.toNat, .int .i64 s, .slice A n c]] w fun e w' =>
      e = .returned (.tuple #[.agg #[.slice none 0 0, .int .i64 pad, .bool false, .bool false, .int .i64 0, .int .i64 0, .int .i64 (numB r), .int .i64 0, .int .i64 0, .slice none 0 0, .int .i64 0], .int .i64 0]) ∧ Keep [] w w' := by
  have HB := Lib.hid hb
  have HS := Lib.hid hs
  clear hb hs
  have Hr := Lib.hid hr
  clear hr
  have hpl : placeF 3 = 1 := rfl
  go_enter Try.func15, Try.ntmps15
  go_wp2_with (fail)
  refine (place_ _ 3).mono ?_
  rintro e w1 ⟨rfl, k1⟩
  rw [hpl]
  have BF := ((Blk.new w 24 #[.int .i64 (3 : Nat), .int .i64 f.toNat, .int .i64 s, .slice A n c]).alloc (.cells (body0 0) 36)).keep k1 (by simp)
  have BR := (Blk.new (w.alloc (.cells #[.int .i64 (3 : Nat), .int .i64 f.toNat, .int .i64 s, .slice A n c] 24)) 36 (body0 0)).keep k1 (by simp)
  have K1 := Lib.hid ((((Keep.refl [] w).alloc _).alloc _).trans k1)
  have sz1 := k1.size
  simp at BR sz1
  have l1 : w.heap.size < w1.heap.size := by omega
  have l2 : w.heap.size + 1 < w1.heap.size := by omega
  clear k1 sz1
  have d0 := BF.cell 0
  have d1 := BF.cell 1
  have d2 := BF.cell 2
  have d3 := BF.cell 3
  simp at d0 d1 d2 d3
  go_wp2_with (fail)
  obtain ⟨W2, hW2⟩ : ∃ W2, W2 = w1.alloc (.cells (body0 0) 36) := ⟨_, rfl⟩
  have K2 : Keep [] w1 W2 := by rw [hW2]; exact (Keep.refl _ _).alloc _
  have BO : Blk W2 w1.heap.size 36 (body0 0) := by rw [hW2]; exact Blk.new _ _ _
  have z2 : W2.heap.size = w1.heap.size + 1 := by rw [hW2]; simp
  have hBc := bare_ W2 3 f s A n c w1.heap.size BO rfl rfl ((Hr.out.keeps (K1.out.trans K2) (Nat.le_refl _) (by simp)).more (by omega)) hc hc2
  rw [HB.out] at hBc
  show Calls Try.prog 26 _ (w1.alloc (.cells (body0 0) 36)) _
  rw [← hW2]
  refine hBc.mono ?_
  rintro e w2 ⟨A2, c2, rfl, rr, hcr, hcr2, bo, k2⟩
  have K3 := Lib.hid ((K1.out.trans K2).step k2 (by simp; omega))
  have z3 := k2.size
  have BF3 := (BF.keep K2 (by simp)).keep k2 (by simp; omega)
  have BR3 := (BR.keep K2 (by simp)).keep k2 (by simp; omega)
  obtain ⟨ob, hob⟩ : ∃ ob, ob = w1.heap.size := ⟨_, rfl⟩
  rw [← hob] at l1 l2 bo rr z2 ⊢
  have l3 : w.heap.size < w2.heap.size := by omega
  have l4 : w.heap.size + 1 < w2.heap.size := by omega
  have l5 : ob < w2.heap.size := by omega
  clear hBc hW2 BO K2 k2 z2 z3 BF BR hob K1 d0 d1 d2 d3 HB
  have d0 := BF3.cell 0
  have d1 := BF3.cell 1
  have d2 := BF3.cell 2
  have d3 := BF3.cell 3
  simp at d0 d1 d2 d3
  go_wp2_with (fail)
  have hSz := sized_ w2 3 f s (Hr.out.keeps K3.out (Nat.le_refl _) (by simp) |>.more K3.out.size) hc hc2 r.length
  rw [HS.out] at hSz
  refine hSz.mono ?_
  rintro e w3 ⟨rfl, k3⟩
  have K4 := Lib.hid (K3.out.trans k3)
  have z4 := k3.size
  have BF4 := BF3.keep k3 (by simp)
  have BR4 := BR3.keep k3 (by simp)
  have bo4 : Blk w3 ob 36 (body0 pad) := bo.keep k3 (by simp)
  have rr4 := Lib.hid (rr.keeps k3 (by omega) (by simp))
  have l6 : w.heap.size < w3.heap.size := by omega
  have l7 : w.heap.size + 1 < w3.heap.size := by omega
  have l8 : ob < w3.heap.size := by omega
  clear hSz BF3 BR3 bo rr l3 l4 l5 k3 z4 d0 d1 d2 d3 K3
  have d0 := BF4.cell 0
  have d1 := BF4.cell 1
  have d2 := BF4.cell 2
  have d3 := BF4.cell 3
  simp at d0 d1 d2 d3
  have hlr : r.length = 4 := by have := HS.out; simpa [sizeF] using this
  have hNum := number_ w3 (c := c2) rr4.out (by omega)
  have hlt := numB_lt4 r hlr
  obtain ⟨N, hN⟩ : ∃ N, N = numB r := ⟨_, rfl⟩
  have HA := Lib.hid (i64_and31 N (by omega))
  rw [← hN] at hlt hNum
  have HN := Lib.hid hNum
  have HNN := Lib.hid hN
  clear hlr hlt
  clear hNum hN
  go_wp2_with (fail)
  refine HN.out.mono ?_
  rintro e w4 ⟨rfl, rfl⟩
  have bo5 := bo4
  have BR5 := BR4
  have ne : ob ≠ w.heap.size + 1 := by omega
  have ne2 : w.heap.size + 1 ≠ ob := by omega
  have TE := Lib.hid bo5
  have TR := Lib.hid BR5
  have e0 := bo5.cell 0
  have e1 := bo5.cell 1
  have e2 := bo5.cell 2
  have e3 := bo5.cell 3
  have e4 := bo5.cell 4
  have e5 := bo5.cell 5
  have e6 := bo5.cell 6
  have e7 := bo5.cell 7
  have e8 := bo5.cell 8
  have e9 := bo5.cell 9
  have e10 := bo5.cell 10
  simp [body0] at e0 e1 e2 e3 e4 e5 e6 e7 e8 e9 e10
  have og6 := bo5.frozen 6
  have q0 := BR5.cell 0
  have g0 := BR5.frozen 0
  have q1 := BR5.cell 1
  have g1 := BR5.frozen 1
  have q2 := BR5.cell 2
  have g2 := BR5.frozen 2
  have q3 := BR5.cell 3
  have g3 := BR5.frozen 3
  have q4 := BR5.cell 4
  have g4 := BR5.frozen 4
  have q5 := BR5.cell 5
  have g5 := BR5.frozen 5
  have q6 := BR5.cell 6
  have g6 := BR5.frozen 6
  have q7 := BR5.cell 7
  have g7 := BR5.frozen 7
  have q8 := BR5.cell 8
  have g8 := BR5.frozen 8
  have q9 := BR5.cell 9
  have g9 := BR5.frozen 9
  have q10 := BR5.cell 10
  have g10 := BR5.frozen 10
  simp [body0] at q0 q1 q2 q3 q4 q5 q6 q7 q8 q9 q10
  clear HN HA d0 d1 d2 d3 bo4 BR4
  clear bo5 BR5
  go_wp2_with (fail)
  have FB := ((((((((((((TR.out.far (p := ⟨ob, 6, none⟩) ne2 (.int .i64 N)).set_ 0 (.slice none 0 0)).set_ 1 (.int .i64 pad)).set_ 2 (.bool false)).set_ 3 (.bool false)).set_ 4 (.int .i64 0)).set_ 5 (.int .i64 0)).set_ 6 (.int .i64 N)).set_ 7 (.int .i64 0)).set_ 8 (.int .i64 0)).set_ 9 (.slice none 0 0)).set_ 10 (.int .i64 0))
  simp only [body0, List.setIfInBounds_toArray, List.set_cons_zero, List.set_cons_succ] at FB
  have KL := (((((((((((((Keep.refl [ob, w.heap.size + 1] w3).setCell (p := ⟨ob, 6, none⟩) (.inl (by simp)) (.int .i64 N)).setCell (p := ⟨w.heap.size + 1, 0, none⟩) (.inl (by simp)) (.slice none 0 0)).setCell (p := ⟨w.heap.size + 1, 1, none⟩) (.inl (by simp)) (.int .i64 pad)).setCell (p := ⟨w.heap.size + 1, 2, none⟩) (.inl (by simp)) (.bool false)).setCell (p := ⟨w.heap.size + 1, 3, none⟩) (.inl (by simp)) (.bool false)).setCell (p := ⟨w.heap.size + 1, 4, none⟩) (.inl (by simp)) (.int .i64 0)).setCell (p := ⟨w.heap.size + 1, 5, none⟩) (.inl (by simp)) (.int .i64 0)).setCell (p := ⟨w.heap.size + 1, 6, none⟩) (.inl (by simp)) (.int .i64 N)).setCell (p := ⟨w.heap.size + 1, 7, none⟩) (.inl (by simp)) (.int .i64 0)).setCell (p := ⟨w.heap.size + 1, 8, none⟩) (.inl (by simp)) (.int .i64 0)).setCell (p := ⟨w.heap.size + 1, 9, none⟩) (.inl (by simp)) (.slice none 0 0)).setCell (p := ⟨w.heap.size + 1, 10, none⟩) (.inl (by simp)) (.int .i64 0))
  have KF := K4.out.step KL (by simp; omega)
  refine bodyPost_ret (results_ct rfl _ _ (w.heap.size + 1) 36 #[.slice none 0 0, .int .i64 pad, .bool false, .bool false, .int .i64 0, .int .i64 0, .int .i64 N, .int .i64 0, .int .i64 0, .slice none 0 0, .int .i64 0] (0, 0) _ rfl FB Try.underlying36 rfl (by kernel_rfl)) rfl ?_
  rw [← HNN.out]
  exact ⟨rfl, KF⟩
set_option maxHeartbeats 2000000 in
theorem read_x (hr : Reads w w.heap.size 1 A n (encB bs)) (hc : n ≤ c) (hc2 : c ≤ 9223372036854775807) (hc3 : n ≤ 140737488355328) (t : Nat) (ht : 9 < t) (hb : bareF t f bs = .ok pad r) (hs : sizeF t f r.length = true) :
    Calls Try.prog 15 #[.agg #[.int .i64 (t : Nat), .int .i64 f.toNat, .int .i64 s, .slice A n c]] w fun e w' =>
      e = .returned (.tuple #[.agg #[.slice none 0 0, .int .i64 pad, .bool false, .bool false, .int .i64 0, .int .i64 0, .int .i64 0, .int .i64 0, .int .i64 0, .slice none 0 0, .int .i64 0], .int .i64 0]) ∧ Keep [] w w' := by
  have HB := Lib.hid hb
  have HS := Lib.hid hs
  clear hb hs
  have Hr := Lib.hid hr
  clear hr
  have hpl : placeF t = -1 := by unfold placeF; rw [if_neg (by omega), if_neg (by omega)]
  have x0 : ¬ (t : Int) = 0 := by omega
  have x1 : ¬ (t : Int) = 1 := by omega
  have x2 : ¬ (t : Int) = 2 := by omega
  have x3 : ¬ (t : Int) = 3 := by omega
  have x4 : ¬ (t : Int) = 4 := by omega
  have x5 : ¬ (t : Int) = 5 := by omega
  have x6 : ¬ (t : Int) = 6 := by omega
  have x7 : ¬ (t : Int) = 7 := by omega
  have x8 : ¬ (t : Int) = 8 := by omega
  have x9 : ¬ (t : Int) = 9 := by omega
  clear ht
  go_enter Try.func15, Try.ntmps15
  go_wp2_with (fail)
  refine (place_ _ t).mono ?_
  rintro e w1 ⟨rfl, k1⟩
  rw [hpl]
  have BF := ((Blk.new w 24 #[.int .i64 (t : Nat), .int .i64 f.toNat, .int .i64 s, .slice A n c]).alloc (.cells (body0 0) 36)).keep k1 (by simp)
  have BR := (Blk.new (w.alloc (.cells #[.int .i64 (t : Nat), .int .i64 f.toNat, .int .i64 s, .slice A n c] 24)) 36 (body0 0)).keep k1 (by simp)
  have K1 := Lib.hid ((((Keep.refl [] w).alloc _).alloc _).trans k1)
  have sz1 := k1.size
  simp at BR sz1
  have l1 : w.heap.size < w1.heap.size := by omega
  have l2 : w.heap.size + 1 < w1.heap.size := by omega
  clear k1 sz1
  have d0 := BF.cell 0
  have d1 := BF.cell 1
  have d2 := BF.cell 2
  have d3 := BF.cell 3
  simp at d0 d1 d2 d3
  go_wp2_with (fail)
  obtain ⟨W2, hW2⟩ : ∃ W2, W2 = w1.alloc (.cells (body0 0) 36) := ⟨_, rfl⟩
  have K2 : Keep [] w1 W2 := by rw [hW2]; exact (Keep.refl _ _).alloc _
  have BO : Blk W2 w1.heap.size 36 (body0 0) := by rw [hW2]; exact Blk.new _ _ _
  have z2 : W2.heap.size = w1.heap.size + 1 := by rw [hW2]; simp
  have hBc := bare_ W2 t f s A n c w1.heap.size BO rfl rfl ((Hr.out.keeps (K1.out.trans K2) (Nat.le_refl _) (by simp)).more (by omega)) hc hc2
  rw [HB.out] at hBc
  show Calls Try.prog 26 _ (w1.alloc (.cells (body0 0) 36)) _
  rw [← hW2]
  refine hBc.mono ?_
  rintro e w2 ⟨A2, c2, rfl, rr, hcr, hcr2, bo, k2⟩
  have K3 := Lib.hid ((K1.out.trans K2).step k2 (by simp; omega))
  have z3 := k2.size
  have BF3 := (BF.keep K2 (by simp)).keep k2 (by simp; omega)
  have BR3 := (BR.keep K2 (by simp)).keep k2 (by simp; omega)
  obtain ⟨ob, hob⟩ : ∃ ob, ob = w1.heap.size := ⟨_, rfl⟩
  rw [← hob] at l1 l2 bo rr z2 ⊢
  have l3 : w.heap.size < w2.heap.size := by omega
  have l4 : w.heap.size + 1 < w2.heap.size := by omega
  have l5 : ob < w2.heap.size := by omega
  clear hBc hW2 BO K2 k2 z2 z3 BF BR hob K1 d0 d1 d2 d3 HB
  have d0 := BF3.cell 0
  have d1 := BF3.cell 1
  have d2 := BF3.cell 2
  have d3 := BF3.cell 3
  simp at d0 d1 d2 d3
  go_wp2_with (fail)
  have hSz := sized_ w2 t f s (Hr.out.keeps K3.out (Nat.le_refl _) (by simp) |>.more K3.out.size) hc hc2 r.length
  rw [HS.out] at hSz
  refine hSz.mono ?_
  rintro e w3 ⟨rfl, k3⟩
  have K4 := Lib.hid (K3.out.trans k3)
  have z4 := k3.size
  have BF4 := BF3.keep k3 (by simp)
  have BR4 := BR3.keep k3 (by simp)
  have bo4 : Blk w3 ob 36 (body0 pad) := bo.keep k3 (by simp)
  have rr4 := Lib.hid (rr.keeps k3 (by omega) (by simp))
  have l6 : w.heap.size < w3.heap.size := by omega
  have l7 : w.heap.size + 1 < w3.heap.size := by omega
  have l8 : ob < w3.heap.size := by omega
  clear hSz BF3 BR3 bo rr l3 l4 l5 k3 z4 d0 d1 d2 d3 K3
  have d0 := BF4.cell 0
  have d1 := BF4.cell 1
  have d2 := BF4.cell 2
  have d3 := BF4.cell 3
  simp at d0 d1 d2 d3
  have bo5 := bo4
  have BR5 := BR4
  have ne : ob ≠ w.heap.size + 1 := by omega
  have ne2 : w.heap.size + 1 ≠ ob := by omega
  have TE := Lib.hid bo5
  have TR := Lib.hid BR5
  have e0 := bo5.cell 0
  have e1 := bo5.cell 1
  have e2 := bo5.cell 2
  have e3 := bo5.cell 3
  have e4 := bo5.cell 4
  have e5 := bo5.cell 5
  have e6 := bo5.cell 6
  have e7 := bo5.cell 7
  have e8 := bo5.cell 8
  have e9 := bo5.cell 9
  have e10 := bo5.cell 10
  simp [body0] at e0 e1 e2 e3 e4 e5 e6 e7 e8 e9 e10
  have q0 := BR5.cell 0
  have g0 := BR5.frozen 0
  have q1 := BR5.cell 1
  have g1 := BR5.frozen 1
  have q2 := BR5.cell 2
  have g2 := BR5.frozen 2
  have q3 := BR5.cell 3
  have g3 := BR5.frozen 3
  have q4 := BR5.cell 4
  have g4 := BR5.frozen 4
  have q5 := BR5.cell 5
  have g5 := BR5.frozen 5
  have q6 := BR5.cell 6
  have g6 := BR5.frozen 6
  have q7 := BR5.cell 7
  have g7 := BR5.frozen 7
  have q8 := BR5.cell 8
  have g8 := BR5.frozen 8
  have q9 := BR5.cell 9
  have g9 := BR5.frozen 9
  have q10 := BR5.cell 10
  have g10 := BR5.frozen 10
  simp [body0] at q0 q1 q2 q3 q4 q5 q6 q7 q8 q9 q10
  clear d1 d2 d3 bo4 BR4
  clear bo5 BR5
  go_wp2_with (fail)
  have FB := (((((((((((TR.out.set_ 0 (.slice none 0 0)).set_ 1 (.int .i64 pad)).set_ 2 (.bool false)).set_ 3 (.bool false)).set_ 4 (.int .i64 0)).set_ 5 (.int .i64 0)).set_ 6 (.int .i64 0)).set_ 7 (.int .i64 0)).set_ 8 (.int .i64 0)).set_ 9 (.slice none 0 0)).set_ 10 (.int .i64 0))
  simp only [body0, List.setIfInBounds_toArray, List.set_cons_zero, List.set_cons_succ] at FB
  have KL := ((((((((((((Keep.refl [ob, w.heap.size + 1] w3).setCell (p := ⟨w.heap.size + 1, 0, none⟩) (.inl (by simp)) (.slice none 0 0)).setCell (p := ⟨w.heap.size + 1, 1, none⟩) (.inl (by simp)) (.int .i64 pad)).setCell (p := ⟨w.heap.size + 1, 2, none⟩) (.inl (by simp)) (.bool false)).setCell (p := ⟨w.heap.size + 1, 3, none⟩) (.inl (by simp)) (.bool false)).setCell (p := ⟨w.heap.size + 1, 4, none⟩) (.inl (by simp)) (.int .i64 0)).setCell (p := ⟨w.heap.size + 1, 5, none⟩) (.inl (by simp)) (.int .i64 0)).setCell (p := ⟨w.heap.size + 1, 6, none⟩) (.inl (by simp)) (.int .i64 0)).setCell (p := ⟨w.heap.size + 1, 7, none⟩) (.inl (by simp)) (.int .i64 0)).setCell (p := ⟨w.heap.size + 1, 8, none⟩) (.inl (by simp)) (.int .i64 0)).setCell (p := ⟨w.heap.size + 1, 9, none⟩) (.inl (by simp)) (.slice none 0 0)).setCell (p := ⟨w.heap.size + 1, 10, none⟩) (.inl (by simp)) (.int .i64 0))
  have KF := K4.out.step KL (by simp; omega)
  refine bodyPost_ret (results_ct rfl _ _ (w.heap.size + 1) 36 #[.slice none 0 0, .int .i64 pad, .bool false, .bool false, .int .i64 0, .int .i64 0, .int .i64 0, .int .i64 0, .int .i64 0, .slice none 0 0, .int .i64 0] (0, 0) _ rfl FB Try.underlying36 rfl (by kernel_rfl)) rfl ?_
  exact ⟨rfl, KF⟩
end
end Go.Proofs.Ytbngoaonkhcciaa
