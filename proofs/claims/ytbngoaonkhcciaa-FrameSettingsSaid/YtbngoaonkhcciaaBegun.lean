/- frame: begun. -/
import Derived.Test.YtbngoaonkhcciaaMk8
import Derived.Test.YtbngoaonkhcciaaPut
import Derived.Test.YtbngoaonkhcciaaPHdx1
set_option linter.all false
namespace Go.Proofs.Ytbngoaonkhcciaa
open Go.ChangeShapes Go.WideShapes Go.ChangeAt Go.RowKit Go.Proofs.YtbngoaonkhcciaaW.PrintWords
attribute [local go_sem] setCell_drewN alloc_drewN Oper.semAt_some
theorem head_begun : PHd.frame_Head.f 20 (ints [0, 0, 4, 8, 0, 0, 0, 0, 3, 0, 0, 0, 5]) = some (8, 0, 3, [], 4, 0) := by kernel_rfl
theorem bare_begun : bareF 8 0 [0, 0, 0, 5] = .ok 0 [0, 0, 0, 5] := by rfl
set_option maxRecDepth 100000 in
set_option maxHeartbeats 4000000 in
theorem begun (w : World) : Calls Try.prog 9 #[] w fun e w' => e = .returned (.bool true) ∧ Below w.heap.size w w' := by
  have hfe := fun (w : World) (a b : Array Value) => run_eql_func_nil (P := Try.prog) w 48 (.func 37) a b Try.underlying48
  refine rng_func Try.func9 rfl ?_
  simp only [Try.ntmps9, List.size_toArray, List.length_cons, List.length_nil, Nat.reduceAdd, Nat.reduceSub, Array.replicate_succ, Array.replicate_zero, List.push_toArray, List.append_toArray, List.nil_append, List.cons_append]
  go_wp2_with (fail)
  have r1 : Reads (w.alloc (.cells #[.int .u8 0, .int .u8 0, .int .u8 0, .int .u8 5] 5)) (w.heap.size + 1) 1 (some ⟨w.heap.size, 0, none⟩) 4 (encB [0, 0, 0, 5]) := reads_new w #[.int .u8 0, .int .u8 0, .int .u8 0, .int .u8 5] 5 (0, 0) 1 4 rfl
  refine (put_ _ (c := 4) (s := 3) 8 0 (r1.more (by simp)) (by omega) (by omega) (by omega)).mono ?_
  rintro e w1 ⟨v1, rfl, row1, k1⟩
  have K1 := Lib.hid (((Keep.refl [] w).alloc (.cells #[.int .u8 0, .int .u8 0, .int .u8 0, .int .u8 5] 5)).trans k1)
  have row1 : Row1 w1 w.heap.size 5 v1 (encB [0, 0, 4, 8, 0, 0, 0, 0, 3, 0, 0, 0, 5]) := row1.lower (by simp)
  obtain ⟨A1, c1, rfl, hc1, hcm1, rd1⟩ := row1.reads
  have rd1' := Lib.hid rd1
  have hH := PHd.frame_Head.calls 20 A1 c1 (ints [0, 0, 4, 8, 0, 0, 0, 0, 3, 0, 0, 0, 5]) 8 0 3 [] 4 0 w1 (C_of rd1 (by simp [encB])) (by simpa [encB, ints] using hc1) head_begun
  have HH := Lib.hid hH
  clear k1 r1 hH rd1 row1 hc1 hcm1
  have el : (encB [0, 0, 4, 8, 0, 0, 0, 0, 3, 0, 0, 0, 5]).length = 13 := rfl
  rw [el] at rd1' ⊢
  clear el
  go_wp2_with (fail)
  refine HH.out.mono ?_
  rintro e w2 ⟨v2, rfl, R2, B2⟩
  obtain ⟨A2, c2, hv2⟩ := Kd.R_slice R2
  subst hv2
  have k2 := Keep.of_below B2
  have s12 := B2.size
  have K2 := Lib.hid (K1.out.trans k2)
  have rd2 := Lib.hid (rd1'.out.keeps k2 (Nat.le_refl _) (by simp))
  clear HH R2 B2 k2 rd1'
  go_wp2_with (fail)
  have BH := (Blk.new w2 24 #[.int .i64 8, .int .i64 0, .int .i64 3, .slice A2 0 c2]).alloc (.cells #[.int .u8 0, .int .u8 0, .int .u8 0, .int .u8 5] 5)
  have r3 : Reads ((w2.alloc (.cells #[.int .i64 8, .int .i64 0, .int .i64 3, .slice A2 0 c2] 24)).alloc (.cells #[.int .u8 0, .int .u8 0, .int .u8 0, .int .u8 5] 5)) _ 1 (some ⟨(w2.alloc (.cells #[.int .i64 8, .int .i64 0, .int .i64 3, .slice A2 0 c2] 24)).heap.size, 0, none⟩) 4 (encB [0, 0, 0, 5]) := reads_new (w2.alloc (.cells #[.int .i64 8, .int .i64 0, .int .i64 3, .slice A2 0 c2] 24)) #[.int .u8 0, .int .u8 0, .int .u8 0, .int .u8 5] 5 (0, 0) 1 4 rfl
  have e5 : numB [0, 0, 0, 5] % 2147483648 = 5 := by decide
  have hRd := read_8 _ (s := 3) (c := 4) (r3.more (by simp)) (by omega) (by omega) (by omega) bare_begun rfl
  rw [e5] at hRd
  simp only [World.size_alloc] at hRd
  have hRd := hRd
  refine hRd.mono ?_
  rintro e w3 ⟨rfl, k3⟩
  have BH3 := BH.keep k3 (by simp)
  have kk3 := (((Keep.refl [] w2).alloc (.cells #[.int .i64 8, .int .i64 0, .int .i64 3, .slice A2 0 c2] 24)).alloc (.cells #[.int .u8 0, .int .u8 0, .int .u8 0, .int .u8 5] 5)).trans k3
  have K3 := Lib.hid (K2.out.trans kk3)
  have rd3 := Lib.hid (rd2.out.keeps kk3 s12 (by simp))
  have s23 := kk3.size
  clear hRd k3 kk3 BH r3 e5 rd2
  go_wp2_with (fail)
  have BX := Blk.new w3 36 #[.slice none 0 0, .int .i64 0, .bool false, .bool false, .int .i64 0, .int .i64 0, .int .i64 0, .int .i64 0, .int .i64 5, .slice none 0 0, .int .i64 0]
  have BH4 := BH3.alloc (.cells #[.slice none 0 0, .int .i64 0, .bool false, .bool false, .int .i64 0, .int .i64 0, .int .i64 0, .int .i64 0, .int .i64 5, .slice none 0 0, .int .i64 0] 36)
  refine (make_begun _).mono ?_
  rintro e w4 ⟨v4, rfl, row4, k4⟩
  have kk4 := ((Keep.refl [] w3).alloc (.cells #[.slice none 0 0, .int .i64 0, .bool false, .bool false, .int .i64 0, .int .i64 0, .int .i64 0, .int .i64 0, .int .i64 5, .slice none 0 0, .int .i64 0] 36)).trans k4
  have K4 := Lib.hid (K3.out.trans kk4)
  have rd4 := Lib.hid (rd3.out.keeps kk4 (by omega) (by simp))
  have BX4 := Lib.hid (BX.keep k4 (by simp))
  have BH5 := Lib.hid (BH4.keep k4 (by simp))
  have s34 := kk4.size
  obtain ⟨A4, c4, rfl, _, _, r4⟩ := row4.reads
  have rd4b := Lib.hid r4
  have el : (encB [0, 0, 0, 5]).length = 4 := rfl
  rw [el] at rd4b ⊢
  clear el row4 BX BH3 BH4 k4 kk4 rd3 r4
  go_wp2_with (fail)
  refine (settings_ _ _ _ _).mono ?_
  rintro e w' ⟨rfl, rfl⟩
  go_wp2_with (fail)
  clear hRd row1
  have a0 := Blk.new w4 24 #[.int .i64 8, .int .i64 0, .int .i64 3, .slice A4 4 c4]
  have a1 := Blk.new (w4.alloc (.cells #[.int .i64 8, .int .i64 0, .int .i64 3, .slice A4 4 c4] 24)) 3 #[.int .i64 0]
  have a2 := reads_new ((w4.alloc (.cells #[.int .i64 8, .int .i64 0, .int .i64 3, .slice A4 4 c4] 24)).alloc (.cells #[.int .i64 0] 3)) #[.int .i64 1, .int .i64 0, .int .i64 1, .int .i64 2] 44 (0, 0) 2 2 rfl
  have a3 := Blk.new (((w4.alloc (.cells #[.int .i64 8, .int .i64 0, .int .i64 3, .slice A4 4 c4] 24)).alloc (.cells #[.int .i64 0] 3)).alloc (.cells #[.int .i64 1, .int .i64 0, .int .i64 1, .int .i64 2] 44)) 34 #[.slice (some ⟨w4.heap.size + 1 + 1, 0, none⟩) 2 2]
  simp only [World.size_alloc] at a0 a1 a2 a3
  have a0 := ((a0.alloc (.cells #[.int .i64 0] 3)).alloc (.cells #[.int .i64 1, .int .i64 0, .int .i64 1, .int .i64 2] 44)).alloc (.cells #[.slice (some ⟨w4.heap.size + 1 + 1, 0, none⟩) 2 2] 34)
  have a1 := (a1.alloc (.cells #[.int .i64 1, .int .i64 0, .int .i64 1, .int .i64 2] 44)).alloc (.cells #[.slice (some ⟨w4.heap.size + 1 + 1, 0, none⟩) 2 2] 34)
  have a2 := a2.alloc (by simp) (.cells #[.slice (some ⟨w4.heap.size + 1 + 1, 0, none⟩) 2 2] 34)
  have KS : Keep [] w4 ((((w4.alloc (.cells #[.int .i64 8, .int .i64 0, .int .i64 3, .slice A4 4 c4] 24)).alloc (.cells #[.int .i64 0] 3)).alloc (.cells #[.int .i64 1, .int .i64 0, .int .i64 1, .int .i64 2] 44)).alloc (.cells #[.slice (some ⟨w4.heap.size + 1 + 1, 0, none⟩) 2 2] 34)) := ((((Keep.refl [] w4).alloc _).alloc _).alloc _).alloc _
  obtain ⟨S, hS⟩ : ∃ S, S = ((((w4.alloc (.cells #[.int .i64 8, .int .i64 0, .int .i64 3, .slice A4 4 c4] 24)).alloc (.cells #[.int .i64 0] 3)).alloc (.cells #[.int .i64 1, .int .i64 0, .int .i64 1, .int .i64 2] 44)).alloc (.cells #[.slice (some ⟨w4.heap.size + 1 + 1, 0, none⟩) 2 2] 34)) := ⟨_, rfl⟩
  have szS : w4.heap.size + 4 ≤ S.heap.size := by rw [hS]; simp
  simp only [← hS] at a0 a1 a2 a3 KS ⊢
  clear hS
  obtain ⟨kb, hkb⟩ : ∃ kb, kb = w4.heap.size := ⟨_, rfl⟩
  rw [← hkb] at a0 a1 a2 a3 szS s34 ⊢
  have Hkb := Lib.hid hkb
  have s4 := K4.out.size
  rw [← hkb] at s4
  clear hkb
  have HA0 := Lib.hid a0
  clear a0
  refine rng_stmt' (n := 5) (gf := 37) (lb := #[.pointer (some ⟨kb + 1 + 1 + 1, 0, none⟩)]) (by first | rfl | simp) (enters_of Try.func37 (by kernel_rfl) rfl) ?_
  intro rc hrc W1 hW1
  have szW1 : W1.heap.size = S.heap.size + 1 + 1 := by rw [hW1]; simp
  refine (setIt (m := 4) (s := kb + 3) (c1 := kb + 1 + 1 + 1) (A := some ⟨kb + 1 + 1, 0, none⟩) (n := 2) (c := 2) (ss := [(1, 0), (1, 2)]) rfl (by omega) (by omega) (by decide)
    (fun j W => SF (kb + 3) W (kb + 1 + 1 + 1) (some ⟨kb + 1 + 1, 0, none⟩) 2 2 [(1, 0), (1, 2)] ∧ Blk W (kb + 1) 3 #[.int .i64 (j / 2 : Nat)] ∧ Rest S W [kb + 1] (.loop (rc .ready none)))
    (fun _ => False) (fun j W h => h.1) W1 ?hst ?skip ?round (by omega) (by omega) ?start).mono ?fin
  case hst =>
    rintro j W W' ⟨hc, hk, hr⟩ k
    rw [szW1] at k
    exact ⟨hc.keep k (by simp; omega) (fun _ ad e => by injection e with e; subst e; simp; omega), hk.keep k (by simp; omega), hr.go k (by simp; omega) (by simp) (by simp; omega)⟩
  case skip =>
    rintro j W ⟨hc, hk, hr⟩ hj hl
    have : j = 0 := by
      rcases Nat.lt_or_ge j 1 with h | h
      · omega
      · obtain rfl : j = 1 := by omega
        exact absurd rfl hl
    subst this
    exact ⟨hc, hk, hr⟩
  case start =>
    have KB : Keep [] S W1 := by rw [hW1]; exact ((Keep.refl [] S).alloc _).alloc _
    have q1 : W1.heap[S.heap.size + 1]? = some (.loop (rc .ready none)) := by rw [hW1]; have := heap_alloc_new (S.alloc (.deferred (some []))) (.loop (rc .ready none)); simpa using this
    have q2 : W1.heap[S.heap.size]? = some (.deferred (some [])) := by rw [hW1]; exact (Below.heap_alloc _ _ _ (by simp)).trans (heap_alloc_new S (.deferred (some [])))
    exact ⟨⟨a3.keep KB (by simp), a2.keeps KB (by omega) (by simp), by omega⟩, a1.keep KB (by simp), ⟨q1, q2, KB.more (by simp)⟩⟩
  case round =>
    rintro j W ⟨hc, hk, hr⟩ hj hl hsz
    have : j = 1 := by
      rcases Nat.lt_or_ge j 1 with h | h
      · obtain rfl : j = 0 := by omega
        exact absurd hl (by decide)
      · omega
    subst this
    rw [szW1]
    clear hsz
    refine rng_round' hrc hr.rc rfl ?_
    clear hrc hW1
    have kp : Keep [S.heap.size + 1] W (W.putObj (S.heap.size + 1) (.loop (rc .busy none))) := (Keep.refl _ W).putObj (.inl (by simp)) _
    have L2 := Lib.hid hr.rc
    have hk3 := hk.keep kp (by simp; omega)
    have hr3 := hr.put (o' := .loop (rc .busy none))
    have cf3 := hc.keep kp (by simp; omega) (fun _ ad e => by injection e with e; subst e; simp; omega)
    have hgk : (W.putObj (S.heap.size + 1) (.loop (rc .busy none))).heap[S.heap.size + 1 + 1]? = W.heap[S.heap.size + 1 + 1]? := World.putObj_heap_other (by omega)
    gi_wp2
    refine ⟨L2.out, ?_⟩
    obtain ⟨W3, hW3⟩ : ∃ W3, W3 = W.putObj (S.heap.size + 1) (.loop (rc .busy none)) := ⟨_, rfl⟩
    rw [← hW3] at hk3 hr3 cf3 hgk ⊢
    clear hW3
    have c3 := hk3.cell 0
    have f3 := hk3.frozen 0
    simp at c3
    have k4 : Keep [kb + 1] W3 (W3.setCell ⟨kb + 1, 0, none⟩ (.int .i64 1)) := (Keep.refl _ W3).setCell (p := ⟨kb + 1, 0, none⟩) (.inl (by simp)) _
    have hk4 : Blk (W3.setCell ⟨kb + 1, 0, none⟩ (.int .i64 1)) (kb + 1) 3 #[.int .i64 1] := hk3.set_ 0 _
    have hr4 := hr3.go k4 (by simp) (by simp; omega) (by simp; omega)
    have cf4 := cf3.keep k4 (by simp; omega) (fun _ ad e => by injection e with e; subst e; first | (simp; done) | (simp; omega))
    have kz : Keep [S.heap.size + 1] (W3.setCell ⟨kb + 1, 0, none⟩ (.int .i64 1)) ((W3.setCell ⟨kb + 1, 0, none⟩ (.int .i64 1)).putObj (S.heap.size + 1) (.loop (rc .ready none))) := (Keep.refl _ _).putObj (.inl (by simp)) _
    have HR5 := Lib.hid (hr4.put (o' := .loop (rc .ready none)))
    have HK5 := Lib.hid (hk4.keep kz (by simp; omega))
    have HC5 := Lib.hid (cf4.keep kz (by simp; omega) (fun _ ad e => by injection e with e; subst e; simp; omega))
    have HG5 : Hid (((W3.setCell ⟨kb + 1, 0, none⟩ (.int .i64 1)).putObj (S.heap.size + 1) (.loop (rc .ready none))).heap[S.heap.size + 1 + 1]? = W.heap[S.heap.size + 1 + 1]?) := Lib.hid ((World.putObj_heap_other (by omega)).trans ((Below.heap_setCell W3 ⟨kb + 1, 0, none⟩ _ _ (by simp; omega)).trans hgk))
    have HL4 := Lib.hid hr4.rc
    clear hk3 hr3 cf3 k4 hk4 hr4 cf4 kz hgk hr hk hc kp
    gi_wp2
    exact ⟨HL4.out, HG5.out, HC5.out, HK5.out, HR5.out⟩
  case fin =>
    rintro e W' ⟨⟨vr, rfl⟩, h⟩
    obtain ⟨hc, hk, hr⟩ := h.resolve_right id
    refine ⟨_, .ready, none, rfl, by simp, hr.rc, ?_⟩
    have hr2 := hr.put (o' := .loop (rc .exhausted none))
    have kp : Keep [S.heap.size + 1] W' (W'.putObj (S.heap.size + 1) (.loop (rc .exhausted none))) := (Keep.refl _ W').putObj (.inl (by simp)) _
    have hk2 := hk.keep kp (by simp; omega)
    obtain ⟨W5, hW5⟩ : ∃ W5, W5 = W'.putObj (S.heap.size + 1) (.loop (rc .exhausted none)) := ⟨_, rfl⟩
    simp only [← hW5] at hr2 hk2 ⊢
    clear hW5 hW1 hrc hc hk hr kp
    have kpp : Keep [kb + 1] S W5 := hr2.kp
    have HKb := Hkb.out
    have KA : Keep [] w4 W5 := KS.step kpp (by simp; omega)
    have HKA := Lib.hid KA
    have c0 := hk2.cell 0
    have h0 := (BH5.out.keep KA (by simp)).cell 0
    have h2 := (BH5.out.keep KA (by simp)).cell 2
    have x8 := (BX4.out.keep KA (by simp)).cell 8
    have m3 := (HA0.out.keep kpp (by simp)).cell 3
    simp at c0 h0 h2 x8 m3
    have st1 := str_of (c := c1) (src := 22) (dst := 9) Try.underlying22 Try.underlying5 Try.underlying9 (rd4.out.keeps KA (by omega) (by simp))
    have st2 := str_of (c := c4) (src := 22) (dst := 9) Try.underlying22 Try.underlying5 Try.underlying9 (rd4b.out.keeps KA (by omega) (by simp))
    have hdf := Lib.hid hr2.df
    have HK4 := Lib.hid K4
    clear hk2 hr2 K4 KA rd4 rd4b BH5 BX4 HA0 KS kpp a1 a2 a3 HKb
    go_wp2_with (fail)
    refine ⟨by simp, .inl ⟨_, _, rfl, run_takeDeferred hdf.out, ?_⟩⟩
    refine ⟨_, results_tmp rfl _ _ _, rfl, ?_⟩
    exact ((HK4.out.trans HKA.out).putObj (l := S.heap.size) (.inr (by omega)) _).below (Nat.le_refl _) (by simp)
end Go.Proofs.Ytbngoaonkhcciaa
