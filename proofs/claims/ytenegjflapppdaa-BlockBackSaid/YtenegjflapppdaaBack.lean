/- block: BlockBack: what was cut comes together again. -/
import Derived.Test.YtenegjflapppdaaBegun
set_option linter.all false
namespace Go.Proofs.Ytenegjflapppdaa
open Go.ChangeShapes Go.WideShapes Go.ChangeAt Go.RowKit
attribute [local go_sem] setCell_drewN alloc_drewN Oper.semAt_some
set_option maxRecDepth 100000 in
set_option maxHeartbeats 16000000 in
theorem blockBack (w : World) (id : Int) (_hi : (Lit.int IntKind.i64 id).wf = true) (en : Bool) (v : Value) (hv : Sl w 1 (fun _ => IsInt .u8) v) (most : Int) (hm : (Lit.int IntKind.i64 most).wf = true) :
    Calls Try.prog 5 #[.int .i64 id, .bool en, v, .int .i64 most] w fun e w' => e = .returned (.bool true) ∧ Below w.heap.size w w' := by
  clear _hi
  obtain ⟨_, hm2⟩ := in_i64 hm
  clear hm
  obtain ⟨A, n, c, bs, rfl, hnc, hcm, hbl, hrd⟩ := reads_of_sl hv
  clear hv
  unfold maxLen at hcm
  have Hrd := Lib.hid hrd
  clear hrd
  have hfe := fun (w : World) (a b : Array Value) => run_eql_func_nil (P := Try.prog) w 43 (.func 23) a b Try.underlying43
  refine rng_func Try.func5 rfl ?_
  simp only [Try.ntmps5, List.size_toArray, List.length_cons, List.length_nil, Nat.reduceAdd, Nat.reduceSub, Array.replicate_succ, Array.replicate_zero, List.push_toArray, List.append_toArray, List.nil_append, List.cons_append]
  have a0 := (Blk.new w 27 #[.slice A n c]).alloc (.cells #[.bool false] 4)
  have a1 := Blk.new (w.alloc (.cells #[.slice A n c] 27)) 4 #[.bool false]
  simp only [World.size_alloc] at a1
  have ka := ((Keep.refl [] w).alloc (.cells #[.slice A n c] 27)).alloc (.cells #[.bool false] 4)
  by_cases hid1 : id < 1
  · go_wp2_with (go_at_call 8; refine (begun _).mono ?_; rintro e w1 ⟨rfl, hb1⟩; have hb1 := Keep.of_below hb1; have z0 := a0.keep hb1 (by simp); have z1 := a1.keep hb1 (by simp); have z0c := z0.cell 0; have z0f := z0.frozen 0; have z1c := z1.cell 0; have z1f := z1.frozen 0; simp at z0c z1c)
    have z2 := (z1.set_ 0 (.bool true)).cell 0
    simp at z2
    refine ⟨_, by simp [results, Try.results5, go_sem, z2], rfl, ?_⟩
    exact ((ka.trans hb1).setCell (p := ⟨w.heap.size + 1, 0, none⟩) (.inr (by simp)) _).below (Nat.le_refl _) (by simp)
  by_cases hid2 : 2147483647 < id
  · go_wp2_with (go_at_call 8; refine (begun _).mono ?_; rintro e w1 ⟨rfl, hb1⟩; have hb1 := Keep.of_below hb1; have z0 := a0.keep hb1 (by simp); have z1 := a1.keep hb1 (by simp); have z0c := z0.cell 0; have z0f := z0.frozen 0; have z1c := z1.cell 0; have z1f := z1.frozen 0; simp at z0c z1c)
    have z2 := (z1.set_ 0 (.bool true)).cell 0
    simp at z2
    refine ⟨_, by simp [results, Try.results5, go_sem, z2], rfl, ?_⟩
    exact ((ka.trans hb1).setCell (p := ⟨w.heap.size + 1, 0, none⟩) (.inr (by simp)) _).below (Nat.le_refl _) (by simp)
  obtain ⟨mo, hmo⟩ : ∃ mo : Nat, (mo : Int) = max most 1 := ⟨(max most 1).toNat, by omega⟩
  have hmo1 : 1 ≤ mo := by omega
  have hmo2 : mo ≤ 9223372036854775807 := by omega
  have HMO := Lib.hid hmo
  clear hmo
  by_cases hb3 : 3000 < n
  · have hbig : (3000 : Int) < (n : Int) := by omega
    obtain ⟨bsN, hbsE⟩ : ∃ bsN, bsN = bs.take 3000 := ⟨_, rfl⟩
    have hbsN : bsN.length = 3000 := by rw [hbsE]; rw [List.length_take]; omega
    have hrN : Reads w w.heap.size 1 A 3000 (encB bsN) := by rw [hbsE]; exact reads_pre Hrd.out 3000 (by omega)
    clear hbsE
    have hc3 : (3000 : Int) ≤ (c : Int) := by omega
    go_wp2_with (first
      | (go_at_call 8; refine (begun _).mono ?_; rintro e w1 ⟨rfl, hb1⟩; have hb1 := Keep.of_below hb1; have z0 := a0.keep hb1 (by simp); have z1 := a1.keep hb1 (by simp); have z0c := z0.cell 0; have z0f := z0.frozen 0; have z1c := z1.cell 0; have z1f := z1.frozen 0; simp at z0c z1c)
      | (go_at_call 9; refine (new_ _).mono ?_; rintro e w' ⟨rfl, rfl⟩; have Z0 := z0.set_ 0 (.slice A 3000 c); have Z1 := z1.far (p := ⟨w.heap.size, 0, none⟩) (by simp) (.slice A 3000 c); have Kb : Keep [] w (w1.setCell ⟨w.heap.size, 0, none⟩ (.slice A 3000 c)) := (ka.trans hb1).setCell (p := ⟨w.heap.size, 0, none⟩) (.inr (by simp)) _; obtain ⟨wa, hwa⟩ : ∃ wa, wa = (w1.setCell ⟨w.heap.size, 0, none⟩ (.slice A 3000 c)) := ⟨_, rfl⟩; rw [← hwa] at Z0 Z1 Kb; rw [← hwa]; have z0a := Z0; have z1a := Z1; have Ka := Kb; clear hwa Z0 Z1 Kb z0c z1c z0f z1f z0 z1; have z0ac := (z0a.alloc (.cells #[.int .i64 0, .bool false, .bool false, .slice none 0 0] 52)).cell 0; simp at z0ac; have z0ad := ((z0a.alloc (.cells #[.int .i64 0, .bool false, .bool false, .slice none 0 0] 52)).alloc (.cells #[.pointer (some ⟨wa.heap.size, 0, none⟩)] 24)).alloc (.cells #[.bool false] 4) |>.cell 0; simp at z0ad)
      | (go_at_call 19; refine (cut_ _ id en A 3000 c most mo HMO.out).mono ?_; rintro e w' ⟨rfl, rfl⟩; clear z0ac z0ad))
    have e0 := Blk.new wa 52 #[.int .i64 0, .bool false, .bool false, .slice none 0 0]
    have e1 := Blk.new (wa.alloc (.cells #[.int .i64 0, .bool false, .bool false, .slice none 0 0] 52)) 24 #[.pointer (some ⟨wa.heap.size, 0, none⟩)]
    have e2 := Blk.new ((wa.alloc (.cells #[.int .i64 0, .bool false, .bool false, .slice none 0 0] 52)).alloc (.cells #[.pointer (some ⟨wa.heap.size, 0, none⟩)] 24)) 4 #[.bool false]
    have e3 := Blk.new (((wa.alloc (.cells #[.int .i64 0, .bool false, .bool false, .slice none 0 0] 52)).alloc (.cells #[.pointer (some ⟨wa.heap.size, 0, none⟩)] 24)).alloc (.cells #[.bool false] 4)) 3 #[.int .i64 id]
    have e4 := Blk.new ((((wa.alloc (.cells #[.int .i64 0, .bool false, .bool false, .slice none 0 0] 52)).alloc (.cells #[.pointer (some ⟨wa.heap.size, 0, none⟩)] 24)).alloc (.cells #[.bool false] 4)).alloc (.cells #[.int .i64 id] 3)) 4 #[.bool en]
    have e5 := Blk.new (((((wa.alloc (.cells #[.int .i64 0, .bool false, .bool false, .slice none 0 0] 52)).alloc (.cells #[.pointer (some ⟨wa.heap.size, 0, none⟩)] 24)).alloc (.cells #[.bool false] 4)).alloc (.cells #[.int .i64 id] 3)).alloc (.cells #[.bool en] 4)) 27 #[.slice A 3000 c]
    have e6 := Blk.new ((((((wa.alloc (.cells #[.int .i64 0, .bool false, .bool false, .slice none 0 0] 52)).alloc (.cells #[.pointer (some ⟨wa.heap.size, 0, none⟩)] 24)).alloc (.cells #[.bool false] 4)).alloc (.cells #[.int .i64 id] 3)).alloc (.cells #[.bool en] 4)).alloc (.cells #[.slice A 3000 c] 27)) 3 #[.int .i64 mo]
    simp only [World.size_alloc] at e0 e1 e2 e3 e4 e5 e6
    have e0 := ((((((e0.alloc (.cells #[.pointer (some ⟨wa.heap.size, 0, none⟩)] 24)).alloc (.cells #[.bool false] 4)).alloc (.cells #[.int .i64 id] 3)).alloc (.cells #[.bool en] 4)).alloc (.cells #[.slice A 3000 c] 27)).alloc (.cells #[.int .i64 mo] 3))
    have e1 := (((((e1.alloc (.cells #[.bool false] 4)).alloc (.cells #[.int .i64 id] 3)).alloc (.cells #[.bool en] 4)).alloc (.cells #[.slice A 3000 c] 27)).alloc (.cells #[.int .i64 mo] 3))
    have e2 := ((((e2.alloc (.cells #[.int .i64 id] 3)).alloc (.cells #[.bool en] 4)).alloc (.cells #[.slice A 3000 c] 27)).alloc (.cells #[.int .i64 mo] 3))
    have e3 := (((e3.alloc (.cells #[.bool en] 4)).alloc (.cells #[.slice A 3000 c] 27)).alloc (.cells #[.int .i64 mo] 3))
    have e4 := ((e4.alloc (.cells #[.slice A 3000 c] 27)).alloc (.cells #[.int .i64 mo] 3))
    have e5 := (e5.alloc (.cells #[.int .i64 mo] 3))
    have KS : Keep [] wa (((((((wa.alloc (.cells #[.int .i64 0, .bool false, .bool false, .slice none 0 0] 52)).alloc (.cells #[.pointer (some ⟨wa.heap.size, 0, none⟩)] 24)).alloc (.cells #[.bool false] 4)).alloc (.cells #[.int .i64 id] 3)).alloc (.cells #[.bool en] 4)).alloc (.cells #[.slice A 3000 c] 27)).alloc (.cells #[.int .i64 mo] 3)) := (((((((Keep.refl [] wa).alloc _).alloc _).alloc _).alloc _).alloc _).alloc _).alloc _
    obtain ⟨S, hS⟩ : ∃ S, S = (((((((wa.alloc (.cells #[.int .i64 0, .bool false, .bool false, .slice none 0 0] 52)).alloc (.cells #[.pointer (some ⟨wa.heap.size, 0, none⟩)] 24)).alloc (.cells #[.bool false] 4)).alloc (.cells #[.int .i64 id] 3)).alloc (.cells #[.bool en] 4)).alloc (.cells #[.slice A 3000 c] 27)).alloc (.cells #[.int .i64 mo] 3)) := ⟨_, rfl⟩
    have szS : wa.heap.size + 7 ≤ S.heap.size := by rw [hS]; simp
    rw [← hS] at e0 e1 e2 e3 e4 e5 e6 KS ⊢
    clear hS
    have B7 := z0a.keep KS (by simp)
    have R7 := z1a.keep KS (by simp)
    have KW := Ka.trans KS
    have cfS := hrN.keeps KW (Nat.le_refl _) (by simp)
    have sza := Ka.size
    have szr1 := z1a.lt
    obtain ⟨bb, hbb⟩ : ∃ bb, bb = wa.heap.size := ⟨_, rfl⟩
    rw [← hbb] at e0 e1 e2 e3 e4 e5 e6 szS sza szr1 ⊢
    have Hbb := Lib.hid hbb
    clear hbb KS z0a z1a Ka
    have xb7 := e1
    have xbB := B7
    refine rng_stmt' (n := 5) (gf := 23) (lb := #[.pointer (some ⟨bb + 1 + 1 + 1, 0, none⟩), .pointer (some ⟨bb + 1 + 1 + 1 + 1, 0, none⟩), .pointer (some ⟨bb + 1 + 1 + 1 + 1 + 1, 0, none⟩), .pointer (some ⟨bb + 1 + 1 + 1 + 1 + 1 + 1, 0, none⟩)]) (by first | rfl | simp) (enters_of Try.func23 (by kernel_rfl) rfl) ?_
    intro rc hrc W1 hW1
    have szW1 : W1.heap.size = S.heap.size + 1 + 1 := by rw [hW1]; simp
    have KB : Keep [] S W1 := by rw [hW1]; exact ((Keep.refl [] S).alloc _).alloc _
    have q1 : W1.heap[S.heap.size + 1]? = some (.loop (rc .ready none)) := by rw [hW1]; have := heap_alloc_new (S.alloc (.deferred (some []))) (.loop (rc .ready none)); simpa using this
    have q2 : W1.heap[S.heap.size]? = some (.deferred (some [])) := by rw [hW1]; exact (Below.heap_alloc _ _ _ (by simp)).trans (heap_alloc_new S (.deferred (some [])))
    obtain ⟨JD, hJD⟩ : ∃ JD : Nat → Nat → World → Prop, JD = fun j off W => ((j = 0 ∧ off = 0 ∧ Blk W (bb + 1 + 1) 4 #[.bool false] ∧ Bk W (S.heap.size + 3) bb 52 0 false false (.slice none 0 0) []) ∨ (1 ≤ j ∧ off < 3000 ∧ Blk W (bb + 1 + 1) 4 #[.bool false] ∧ ∃ v, Bk W (S.heap.size + 3) bb 52 id true en v (bsN.take off)) ∨ (1 ≤ j ∧ off = 3000 ∧ Blk W (bb + 1 + 1) 4 #[.bool true] ∧ ∃ i v, Bk W (S.heap.size + 3) bb 52 i false en v [])) := ⟨_, rfl⟩
    have HJD := Lib.hid hJD
    clear hJD
    refine (cutIt (m := 4) (s := w.heap.size) (c1 := bb + 1 + 1 + 1) (c2 := bb + 1 + 1 + 1 + 1) (c3 := bb + 1 + 1 + 1 + 1 + 1) (c4 := bb + 1 + 1 + 1 + 1 + 1 + 1) (id := id) (en := en) (A := A) (n := 3000) (c := c) (mo := mo) (bs := bsN) ⟨by omega, by omega⟩ hmo1 hmo2 hbsN (by omega) (by omega) (by omega)
      (fun j off W => CF w.heap.size W (bb + 1 + 1 + 1) (bb + 1 + 1 + 1 + 1) (bb + 1 + 1 + 1 + 1 + 1) (bb + 1 + 1 + 1 + 1 + 1 + 1) id en A 3000 c mo bsN ∧ Rest S W [bb, bb + 1 + 1] (.loop (rc .ready none)) ∧ JD j off W)
      (fun _ => False) (fun j off W h => h.1) W1 ?hst ?round (by omega) (by omega) (by omega) (by omega) ?start).mono ?fin
    case hst =>
      rintro j off W W' ⟨hc, hr, hd⟩ k
      rw [szW1] at k
      refine ⟨hc.keep k (fun g hg => by simp at hg; subst hg; exact ⟨fun h0 ad e => by have := hc.rd.blk_lt h0 ad e; omega, by omega, by omega, by omega, by omega⟩), hr.go k (by simp; omega) (by simp) (by simp; omega), ?_⟩
      rw [HJD.out] at hd ⊢
      rcases hd with ⟨x1, x2, x3, x4⟩ | ⟨x1, x2, x3, v, x4⟩ | ⟨x1, x2, x3, i, v, x4⟩
      · exact .inl ⟨x1, x2, x3.keep k (by simp; omega), x4.keep k (by simp; omega) (by simp [rowBlk])⟩
      · exact .inr (.inl ⟨x1, x2, x3.keep k (by simp; omega), v, x4.keep k (by simp; omega) (fun g hg => by have := (x4.row.lt g hg).1; simp; omega)⟩)
      · exact .inr (.inr ⟨x1, x2, x3.keep k (by simp; omega), i, v, x4.keep k (by simp; omega) (fun g hg => by have := (x4.row.lt g hg).1; simp; omega)⟩)
    case start =>
      refine ⟨⟨e3.keep KB (by simp), e4.keep KB (by simp), e5.keep KB (by simp), e6.keep KB (by simp), cfS.keeps KB (by omega) (by simp), by omega⟩, ⟨q1, q2, KB.more (by simp)⟩, ?_⟩
      rw [HJD.out]
      exact .inl ⟨rfl, rfl, e2.keep KB (by simp), ⟨e0.keep KB (by simp), Row1.nil _ _ _⟩⟩
    case round =>
      rintro j off W k ⟨hc, hr, hd⟩ hjo hj0 hoff hk' hsz W2' r kk cf hrow
      rw [szW1] at hsz kk ⊢
      clear hc KB q1 q2 e0 e1 e2 e3 e4 e5 e6
      have hkk2 := kk.size
      have hkN : off + k ≤ 3000 := by omega
      have hkm : k ≤ 3000 := by omega
      clear hk'
      by_cases hl : off + k = 3000
      · rcases Nat.eq_zero_or_pos j with rfl | hjp
        · have hd' : Blk W (bb + 1 + 1) 4 #[.bool false] ∧ Bk W (S.heap.size + 3) bb 52 0 false false (.slice none 0 0) [] := by
            rw [HJD.out] at hd
            rcases hd with ⟨_, _, h1, h2⟩ | ⟨h, _⟩ | ⟨h, _⟩
            · exact ⟨h1, h2⟩
            · omega
            · omega
          obtain ⟨hdb, hbk⟩ := hd'
          clear hd
          cases en
          · obtain rfl : off = 0 := hj0 rfl
            obtain ⟨P, hP⟩ : ∃ P, P = (bsN.drop 0).take k := ⟨_, rfl⟩
            rw [← hP] at hrow
            have hPl : (encB P).length = k := by rw [encB_len, hP, List.length_take, List.length_drop, hbsN]; omega
            obtain ⟨Ar, cr, hre, _, _, hrr⟩ := hrow.reads
            rw [hPl] at hre hrr
            subst hre
            have hPfull : P = bsN := by rw [hP, List.drop_zero]; exact List.take_of_length_le (by omega)
            have hfr : YieldAt Fence.wide 4 Try.prog (S.heap.size + 1) #[.agg #[.int .i64 1, .int .i64 4, .int .i64 id, .slice Ar k cr]] W2' = YieldAt Fence.wide 4 Try.prog (S.heap.size + 1) #[.agg #[.int .i64 (typF 0), .int .i64 (flgF 0 false (decide (0 + k = 3000))), .int .i64 id, .slice Ar k cr]] W2' := by rw [show decide (0 + k = 3000) = true by simp; omega]; rfl
            rw [← hfr]
            clear hfr
            have hr2 := hr.go kk (by simp; omega) (by simp) (by simp; omega)
            have L2 : (W2'.alloc (.cells #[.int .i64 1, .int .i64 4, .int .i64 id, .slice Ar k cr] 46)).heap[S.heap.size + 1]? = some (.loop (rc .ready none)) := (Below.heap_alloc W2' _ _ (Array.getElem?_eq_some_iff.1 hr2.rc).1).trans hr2.rc
            have hgq : ∀ w9, Keep [S.heap.size + 1, bb, bb + 1 + 1] W2' w9 → w9.heap[S.heap.size + 1 + 1]? = W2'.heap[S.heap.size + 1 + 1]? := fun w9 k9 => k9.block _ (by omega) (by simp; omega)
            have db2 := hdb.keep kk (by simp; omega)
            have bk2 := hbk.keep kk (by simp; omega) (fun g hg => by have := (hbk.row.lt g hg).1; simp; omega)
            refine rng_round' hrc hr2.rc rfl ?_
            clear hrc hW1
            have HL := Lib.hid hl
            have HJO := Lib.hid hjo
            have HJ0 := Lib.hid hj0
            clear hl hjo hj0
            have FB := Blk.new W2' 46 #[.int .i64 1, .int .i64 4, .int .i64 id, .slice Ar k cr]
            have kA : Keep [S.heap.size + 1] W2' ((W2'.alloc (.cells #[.int .i64 1, .int .i64 4, .int .i64 id, .slice Ar k cr] 46)).putObj (S.heap.size + 1) (.loop (rc .busy none))) := ((Keep.refl _ W2').alloc _).putObj (l := S.heap.size + 1) (.inl (by simp)) _
            have FB3 := FB.keep ((Keep.refl [S.heap.size + 1] (W2'.alloc (.cells #[.int .i64 1, .int .i64 4, .int .i64 id, .slice Ar k cr] 46))).putObj (l := S.heap.size + 1) (.inl (by simp)) (.loop (rc .busy none))) (by simp; omega)
            have hr3 : Rest S ((W2'.alloc (.cells #[.int .i64 1, .int .i64 4, .int .i64 id, .slice Ar k cr] 46)).putObj (S.heap.size + 1) (.loop (rc .busy none))) [bb, bb + 1 + 1] (.loop (rc .busy none)) := ⟨put_heap (Array.getElem?_eq_some_iff.1 L2).1, kA.heap hr2.df (by simp), hr2.kp.step kA (by first | (simp; done) | (simp; omega))⟩
            have HL2 := Lib.hid L2
            have HHR3 := Lib.hid hr3
            clear L2 hr3
            gi_wp2
            refine ⟨HL2.out, ?_⟩
            have hr3 := HHR3.out
            clear HHR3
            obtain ⟨W3, hW3⟩ : ∃ W3, W3 = (W2'.alloc (.cells #[.int .i64 1, .int .i64 4, .int .i64 id, .slice Ar k cr] 46)).putObj (S.heap.size + 1) (.loop (rc .busy none)) := ⟨_, rfl⟩
            rw [← hW3] at kA FB3 hr3 ⊢
            clear hW3 FB
            have s23 := kA.size
            have db3 := db2.keep kA (by simp; omega)
            have bk3 := bk2.keep kA (by simp; omega) (fun g hg => by have := (bk2.row.lt g hg).1; simp; omega)
            have cf3 := cf.keep kA (fun g hg => by simp at hg; subst hg; exact ⟨fun h0 ad e => by have := cf.rd.blk_lt h0 ad e; omega, by omega, by omega, by omega, by omega⟩)
            have rr3 := hrow.keep kA (fun g hg => by have := (hrow.lt g hg).1; simp; omega)
            obtain ⟨_, _, er, _, _, hrr3⟩ := rr3.reads
            rw [hPl] at er hrr3
            injection er with er1 er2 er3
            subst er1 er3
            have f0 := FB3.cell 0
            have f1 := FB3.cell 1
            have f2 := FB3.cell 2
            have f3 := FB3.cell 3
            have x3 := (xb7.keep hr3.kp (by first | (simp; done) | (simp; omega))).cell 0
            have B3 := xbB.keep hr3.kp (by simp; omega)
            have B3c := B3.cell 0
            have d3c := db3.cell 0
            have d3f := db3.frozen 0
            simp at f0 f1 f2 f3 x3 B3c d3c
            have hAr : 0 < k → ∀ ad, Ar = some ad → ad.block ≠ bb := fun _ ad e => by have := (hrow.lt ad.block (by rw [e]; rfl)).1; omega
            have Hr3 := Lib.hid hr3
            have HKA := Lib.hid kA
            have HGQ := Lib.hid hgq
            have CF3 := Lib.hid cf3
            have HP := Lib.hid hP
            have HPF := Lib.hid hPfull
            clear hPfull
            have hsb : S.heap.size + 3 ≤ W3.heap.size := by omega
            have hA0 : 0 < 3000 → ∀ ad, A = some ad → ad.block < w.heap.size := cf.rd.blk_lt
            clear hP kA hgq hr3 rr3 db2 bk2 FB3 hr2 hrow hrr cf cf3
            gi_wp2_with (refine ⟨trivial, ?_⟩; gi_at_call 11; refine (CallsIn.inRound _ (callsIn_wide.2 (start_whole bk3 id false cr (by omega) hrr3 (by omega) hAr))).mono ?_; rintro e w4 ⟨r4, rfl, hr4, b4, k4⟩; rw [HPF.out] at hr4; have s34 := k4.size;have d4 := db3.keep k4 (by simp; omega);have d4f := d4.frozen 0;have d4c := d4.cell 0;have d5 := d4.set_ 0 (.bool true);have kd : Keep [bb + 1 + 1] w4 (w4.setCell ⟨bb + 1 + 1, 0, none⟩ (.bool true)) := (Keep.refl _ w4).setCell (p := ⟨bb + 1 + 1, 0, none⟩) (.inl (by simp)) _;have B5 := ((B3.keep k4 (by simp; omega)).keep kd (by simp; omega)).cell 0;simp at d4c B5;have ra5 := (CF3.out.rd.kept k4 (by have := CF3.out.sz; omega) (fun h0 ad e => by have := hA0 h0 ad e; simp; omega)).kept kd (by have := CF3.out.sz; omega) (fun h0 ad e => by have := hA0 h0 ad e; simp; omega);have ro5 := hr4.keep kd (fun g hg => by simp; rintro rfl; exact row_off_blk hr4 d4 (by decide) hg);obtain ⟨Ao, co, rfl, _, _, hro⟩ := ro5.reads;have st1 := str_of (c := co) (src := 27) (dst := 9) Try.underlying27 Try.underlying5 Try.underlying9 hro;have st2 := str_of (c := c) (src := 27) (dst := 9) Try.underlying27 Try.underlying5 Try.underlying9 ra5)
            have hl := HL.out
            have hjo := HJO.out
            have b5 := b4.keep kd (by simp; omega) (fun g hg => by simp; rintro rfl; exact row_off_blk b4.row d4 (by decide) hg)
            have k4' : Keep [bb, bb + 1 + 1] W3 (w4.setCell ⟨bb + 1 + 1, 0, none⟩ (.bool true)) := (k4.more (by simp)).trans (kd.more (by simp))
            have kS4 : Keep [bb, bb + 1 + 1] S (w4.setCell ⟨bb + 1 + 1, 0, none⟩ (.bool true)) := Hr3.out.kp.trans k4'
            have hgrow : ∀ i, i ≤ S.heap.size + 1 + 1 → i ∉ [bb, bb + 1 + 1] → i < W3.heap.size → (w4.setCell ⟨bb + 1 + 1, 0, none⟩ (.bool true)).heap[i]? = W3.heap[i]? := fun i _ hn hl => k4'.block i hl hn
            obtain ⟨W5, hW5⟩ : ∃ W5, W5 = w4.setCell ⟨bb + 1 + 1, 0, none⟩ (.bool true) := ⟨_, rfl⟩
            rw [← hW5] at b5 kS4 hgrow d5 ⊢
            clear hW5
            have hl3 := (Array.getElem?_eq_some_iff.1 Hr3.out.rc).1
            have rc5 : W5.heap[S.heap.size + 1]? = some (.loop (rc .busy none)) := (hgrow _ (by omega) (by simp; omega) hl3).trans Hr3.out.rc
            have df5 : W5.heap[S.heap.size]? = some (.deferred (some [])) := (hgrow _ (by omega) (by simp; omega) (by omega)).trans Hr3.out.df
            have rs5 : Rest S W5 [bb, bb + 1 + 1] (.loop (rc .busy none)) := ⟨rc5, df5, kS4⟩
            have c5b : ∀ {g t cs}, Blk W3 g t cs → g < S.heap.size → g ≠ bb → g ≠ bb + 1 + 1 → Blk W5 g t cs := fun h1 h2 h3 h4 => (hgrow _ (by omega) (by simp; omega) h1.lt).trans h1
            have CF5 : CF w.heap.size W5 (bb + 1 + 1 + 1) (bb + 1 + 1 + 1 + 1) (bb + 1 + 1 + 1 + 1 + 1) (bb + 1 + 1 + 1 + 1 + 1 + 1) id false A 3000 c mo bsN := ⟨c5b CF3.out.b1 (by omega) (by omega) (by omega), c5b CF3.out.b2 (by omega) (by omega) (by omega), c5b CF3.out.b3 (by omega) (by omega) (by omega), c5b CF3.out.b4 (by omega) (by omega) (by omega), cfS.kept kS4 (by omega) (fun h0 ad e => by have := hA0 h0 ad e; simp; omega), by have := kS4.size; omega⟩
            have kz : Keep [S.heap.size + 1] W5 (W5.putObj (S.heap.size + 1) (.loop (rc .ready none))) := (Keep.refl _ _).putObj (.inl (by simp)) _
            have d6 := d5.keep kz (by simp; omega)
            have b6 := b5.keep kz (by simp; omega) (fun g hg => by have := (b5.row.lt g hg).1; simp; omega)
            have CF6 := CF5.keep kz (fun g hg => by simp at hg; subst hg; exact ⟨fun h0 ad e => by have := hA0 h0 ad e; omega, by omega, by omega, by omega, by omega⟩)
            have hgf : (W5.putObj (S.heap.size + 1) (.loop (rc .ready none))).heap[S.heap.size + 1 + 1]? = W2'.heap[S.heap.size + 1 + 1]? := ((World.putObj_heap_other (by omega)).trans (hgrow _ (Nat.le_refl _) (by simp; omega) (by omega))).trans (HKA.out.block _ (by omega) (by simp))
            have FINJ := Lib.hid (show CF w.heap.size (W5.putObj (S.heap.size + 1) (.loop (rc .ready none))) (bb + 1 + 1 + 1) (bb + 1 + 1 + 1 + 1) (bb + 1 + 1 + 1 + 1 + 1) (bb + 1 + 1 + 1 + 1 + 1 + 1) id false A 3000 c mo bsN ∧ Rest S (W5.putObj (S.heap.size + 1) (.loop (rc .ready none))) [bb, bb + 1 + 1] (.loop (rc .ready none)) ∧ _ from ⟨CF6, rs5.put, (by rw [HJD.out]; exact .inr (.inr ⟨by omega, by omega, d6, _, _, b6⟩) : JD 1 k (W5.putObj (S.heap.size + 1) (.loop (rc .ready none))))⟩)
            exact ⟨rc5, hgf, FINJ.out⟩
          · obtain rfl : off = 0 := hj0 rfl
            obtain ⟨P, hP⟩ : ∃ P, P = (bsN.drop 0).take k := ⟨_, rfl⟩
            rw [← hP] at hrow
            have hPl : (encB P).length = k := by rw [encB_len, hP, List.length_take, List.length_drop, hbsN]; omega
            obtain ⟨Ar, cr, hre, _, _, hrr⟩ := hrow.reads
            rw [hPl] at hre hrr
            subst hre
            have hPfull : P = bsN := by rw [hP, List.drop_zero]; exact List.take_of_length_le (by omega)
            have hfr : YieldAt Fence.wide 4 Try.prog (S.heap.size + 1) #[.agg #[.int .i64 1, .int .i64 5, .int .i64 id, .slice Ar k cr]] W2' = YieldAt Fence.wide 4 Try.prog (S.heap.size + 1) #[.agg #[.int .i64 (typF 0), .int .i64 (flgF 0 true (decide (0 + k = 3000))), .int .i64 id, .slice Ar k cr]] W2' := by rw [show decide (0 + k = 3000) = true by simp; omega]; rfl
            rw [← hfr]
            clear hfr
            have hr2 := hr.go kk (by simp; omega) (by simp) (by simp; omega)
            have L2 : (W2'.alloc (.cells #[.int .i64 1, .int .i64 5, .int .i64 id, .slice Ar k cr] 46)).heap[S.heap.size + 1]? = some (.loop (rc .ready none)) := (Below.heap_alloc W2' _ _ (Array.getElem?_eq_some_iff.1 hr2.rc).1).trans hr2.rc
            have hgq : ∀ w9, Keep [S.heap.size + 1, bb, bb + 1 + 1] W2' w9 → w9.heap[S.heap.size + 1 + 1]? = W2'.heap[S.heap.size + 1 + 1]? := fun w9 k9 => k9.block _ (by omega) (by simp; omega)
            have db2 := hdb.keep kk (by simp; omega)
            have bk2 := hbk.keep kk (by simp; omega) (fun g hg => by have := (hbk.row.lt g hg).1; simp; omega)
            refine rng_round' hrc hr2.rc rfl ?_
            clear hrc hW1
            have HL := Lib.hid hl
            have HJO := Lib.hid hjo
            have HJ0 := Lib.hid hj0
            clear hl hjo hj0
            have FB := Blk.new W2' 46 #[.int .i64 1, .int .i64 5, .int .i64 id, .slice Ar k cr]
            have kA : Keep [S.heap.size + 1] W2' ((W2'.alloc (.cells #[.int .i64 1, .int .i64 5, .int .i64 id, .slice Ar k cr] 46)).putObj (S.heap.size + 1) (.loop (rc .busy none))) := ((Keep.refl _ W2').alloc _).putObj (l := S.heap.size + 1) (.inl (by simp)) _
            have FB3 := FB.keep ((Keep.refl [S.heap.size + 1] (W2'.alloc (.cells #[.int .i64 1, .int .i64 5, .int .i64 id, .slice Ar k cr] 46))).putObj (l := S.heap.size + 1) (.inl (by simp)) (.loop (rc .busy none))) (by simp; omega)
            have hr3 : Rest S ((W2'.alloc (.cells #[.int .i64 1, .int .i64 5, .int .i64 id, .slice Ar k cr] 46)).putObj (S.heap.size + 1) (.loop (rc .busy none))) [bb, bb + 1 + 1] (.loop (rc .busy none)) := ⟨put_heap (Array.getElem?_eq_some_iff.1 L2).1, kA.heap hr2.df (by simp), hr2.kp.step kA (by first | (simp; done) | (simp; omega))⟩
            have HL2 := Lib.hid L2
            have HHR3 := Lib.hid hr3
            clear L2 hr3
            gi_wp2
            refine ⟨HL2.out, ?_⟩
            have hr3 := HHR3.out
            clear HHR3
            obtain ⟨W3, hW3⟩ : ∃ W3, W3 = (W2'.alloc (.cells #[.int .i64 1, .int .i64 5, .int .i64 id, .slice Ar k cr] 46)).putObj (S.heap.size + 1) (.loop (rc .busy none)) := ⟨_, rfl⟩
            rw [← hW3] at kA FB3 hr3 ⊢
            clear hW3 FB
            have s23 := kA.size
            have db3 := db2.keep kA (by simp; omega)
            have bk3 := bk2.keep kA (by simp; omega) (fun g hg => by have := (bk2.row.lt g hg).1; simp; omega)
            have cf3 := cf.keep kA (fun g hg => by simp at hg; subst hg; exact ⟨fun h0 ad e => by have := cf.rd.blk_lt h0 ad e; omega, by omega, by omega, by omega, by omega⟩)
            have rr3 := hrow.keep kA (fun g hg => by have := (hrow.lt g hg).1; simp; omega)
            obtain ⟨_, _, er, _, _, hrr3⟩ := rr3.reads
            rw [hPl] at er hrr3
            injection er with er1 er2 er3
            subst er1 er3
            have f0 := FB3.cell 0
            have f1 := FB3.cell 1
            have f2 := FB3.cell 2
            have f3 := FB3.cell 3
            have x3 := (xb7.keep hr3.kp (by first | (simp; done) | (simp; omega))).cell 0
            have B3 := xbB.keep hr3.kp (by simp; omega)
            have B3c := B3.cell 0
            have d3c := db3.cell 0
            have d3f := db3.frozen 0
            simp at f0 f1 f2 f3 x3 B3c d3c
            have hAr : 0 < k → ∀ ad, Ar = some ad → ad.block ≠ bb := fun _ ad e => by have := (hrow.lt ad.block (by rw [e]; rfl)).1; omega
            have Hr3 := Lib.hid hr3
            have HKA := Lib.hid kA
            have HGQ := Lib.hid hgq
            have CF3 := Lib.hid cf3
            have HP := Lib.hid hP
            have HPF := Lib.hid hPfull
            clear hPfull
            have hsb : S.heap.size + 3 ≤ W3.heap.size := by omega
            have hA0 : 0 < 3000 → ∀ ad, A = some ad → ad.block < w.heap.size := cf.rd.blk_lt
            clear hP kA hgq hr3 rr3 db2 bk2 FB3 hr2 hrow hrr cf cf3
            gi_wp2_with (refine ⟨trivial, ?_⟩; gi_at_call 11; refine (CallsIn.inRound _ (callsIn_wide.2 (start_whole bk3 id true cr (by omega) hrr3 (by omega) hAr))).mono ?_; rintro e w4 ⟨r4, rfl, hr4, b4, k4⟩; rw [HPF.out] at hr4; have s34 := k4.size;have d4 := db3.keep k4 (by simp; omega);have d4f := d4.frozen 0;have d4c := d4.cell 0;have d5 := d4.set_ 0 (.bool true);have kd : Keep [bb + 1 + 1] w4 (w4.setCell ⟨bb + 1 + 1, 0, none⟩ (.bool true)) := (Keep.refl _ w4).setCell (p := ⟨bb + 1 + 1, 0, none⟩) (.inl (by simp)) _;have B5 := ((B3.keep k4 (by simp; omega)).keep kd (by simp; omega)).cell 0;simp at d4c B5;have ra5 := (CF3.out.rd.kept k4 (by have := CF3.out.sz; omega) (fun h0 ad e => by have := hA0 h0 ad e; simp; omega)).kept kd (by have := CF3.out.sz; omega) (fun h0 ad e => by have := hA0 h0 ad e; simp; omega);have ro5 := hr4.keep kd (fun g hg => by simp; rintro rfl; exact row_off_blk hr4 d4 (by decide) hg);obtain ⟨Ao, co, rfl, _, _, hro⟩ := ro5.reads;have st1 := str_of (c := co) (src := 27) (dst := 9) Try.underlying27 Try.underlying5 Try.underlying9 hro;have st2 := str_of (c := c) (src := 27) (dst := 9) Try.underlying27 Try.underlying5 Try.underlying9 ra5)
            have hl := HL.out
            have hjo := HJO.out
            have b5 := b4.keep kd (by simp; omega) (fun g hg => by simp; rintro rfl; exact row_off_blk b4.row d4 (by decide) hg)
            have k4' : Keep [bb, bb + 1 + 1] W3 (w4.setCell ⟨bb + 1 + 1, 0, none⟩ (.bool true)) := (k4.more (by simp)).trans (kd.more (by simp))
            have kS4 : Keep [bb, bb + 1 + 1] S (w4.setCell ⟨bb + 1 + 1, 0, none⟩ (.bool true)) := Hr3.out.kp.trans k4'
            have hgrow : ∀ i, i ≤ S.heap.size + 1 + 1 → i ∉ [bb, bb + 1 + 1] → i < W3.heap.size → (w4.setCell ⟨bb + 1 + 1, 0, none⟩ (.bool true)).heap[i]? = W3.heap[i]? := fun i _ hn hl => k4'.block i hl hn
            obtain ⟨W5, hW5⟩ : ∃ W5, W5 = w4.setCell ⟨bb + 1 + 1, 0, none⟩ (.bool true) := ⟨_, rfl⟩
            rw [← hW5] at b5 kS4 hgrow d5 ⊢
            clear hW5
            have hl3 := (Array.getElem?_eq_some_iff.1 Hr3.out.rc).1
            have rc5 : W5.heap[S.heap.size + 1]? = some (.loop (rc .busy none)) := (hgrow _ (by omega) (by simp; omega) hl3).trans Hr3.out.rc
            have df5 : W5.heap[S.heap.size]? = some (.deferred (some [])) := (hgrow _ (by omega) (by simp; omega) (by omega)).trans Hr3.out.df
            have rs5 : Rest S W5 [bb, bb + 1 + 1] (.loop (rc .busy none)) := ⟨rc5, df5, kS4⟩
            have c5b : ∀ {g t cs}, Blk W3 g t cs → g < S.heap.size → g ≠ bb → g ≠ bb + 1 + 1 → Blk W5 g t cs := fun h1 h2 h3 h4 => (hgrow _ (by omega) (by simp; omega) h1.lt).trans h1
            have CF5 : CF w.heap.size W5 (bb + 1 + 1 + 1) (bb + 1 + 1 + 1 + 1) (bb + 1 + 1 + 1 + 1 + 1) (bb + 1 + 1 + 1 + 1 + 1 + 1) id true A 3000 c mo bsN := ⟨c5b CF3.out.b1 (by omega) (by omega) (by omega), c5b CF3.out.b2 (by omega) (by omega) (by omega), c5b CF3.out.b3 (by omega) (by omega) (by omega), c5b CF3.out.b4 (by omega) (by omega) (by omega), cfS.kept kS4 (by omega) (fun h0 ad e => by have := hA0 h0 ad e; simp; omega), by have := kS4.size; omega⟩
            have kz : Keep [S.heap.size + 1] W5 (W5.putObj (S.heap.size + 1) (.loop (rc .ready none))) := (Keep.refl _ _).putObj (.inl (by simp)) _
            have d6 := d5.keep kz (by simp; omega)
            have b6 := b5.keep kz (by simp; omega) (fun g hg => by have := (b5.row.lt g hg).1; simp; omega)
            have CF6 := CF5.keep kz (fun g hg => by simp at hg; subst hg; exact ⟨fun h0 ad e => by have := hA0 h0 ad e; omega, by omega, by omega, by omega, by omega⟩)
            have hgf : (W5.putObj (S.heap.size + 1) (.loop (rc .ready none))).heap[S.heap.size + 1 + 1]? = W2'.heap[S.heap.size + 1 + 1]? := ((World.putObj_heap_other (by omega)).trans (hgrow _ (Nat.le_refl _) (by simp; omega) (by omega))).trans (HKA.out.block _ (by omega) (by simp))
            have FINJ := Lib.hid (show CF w.heap.size (W5.putObj (S.heap.size + 1) (.loop (rc .ready none))) (bb + 1 + 1 + 1) (bb + 1 + 1 + 1 + 1) (bb + 1 + 1 + 1 + 1 + 1) (bb + 1 + 1 + 1 + 1 + 1 + 1) id true A 3000 c mo bsN ∧ Rest S (W5.putObj (S.heap.size + 1) (.loop (rc .ready none))) [bb, bb + 1 + 1] (.loop (rc .ready none)) ∧ _ from ⟨CF6, rs5.put, (by rw [HJD.out]; exact .inr (.inr ⟨by omega, by omega, d6, _, _, b6⟩) : JD 1 k (W5.putObj (S.heap.size + 1) (.loop (rc .ready none))))⟩)
            exact ⟨rc5, hgf, FINJ.out⟩
        · have hd' : Blk W (bb + 1 + 1) 4 #[.bool false] ∧ ∃ v, Bk W (S.heap.size + 3) bb 52 id true en v (bsN.take off) := by
            rw [HJD.out] at hd
            rcases hd with ⟨h, _⟩ | ⟨_, _, h1, h2⟩ | ⟨_, h, _⟩
            · omega
            · exact ⟨h1, h2⟩
            · omega
          obtain ⟨hdb, v, hbk⟩ := hd'
          clear hd
          obtain ⟨j, rfl⟩ : ∃ j', j = j' + 1 := ⟨j - 1, by omega⟩
          obtain ⟨P, hP⟩ : ∃ P, P = (bsN.drop off).take k := ⟨_, rfl⟩
          rw [← hP] at hrow
          have hPl : (encB P).length = k := by rw [encB_len, hP, List.length_take, List.length_drop, hbsN]; omega
          obtain ⟨Ar, cr, hre, _, _, hrr⟩ := hrow.reads
          rw [hPl] at hre hrr
          subst hre
          have hfr : YieldAt Fence.wide 4 Try.prog (S.heap.size + 1) #[.agg #[.int .i64 9, .int .i64 4, .int .i64 id, .slice Ar k cr]] W2' = YieldAt Fence.wide 4 Try.prog (S.heap.size + 1) #[.agg #[.int .i64 (typF (j + 1)), .int .i64 (flgF (j + 1) en (decide (off + k = 3000))), .int .i64 id, .slice Ar k cr]] W2' := by rw [show decide (off + k = 3000) = true by simp; omega]; cases en <;> rfl
          rw [← hfr]
          clear hfr
          have hr2 := hr.go kk (by simp; omega) (by simp) (by simp; omega)
          have L2 : (W2'.alloc (.cells #[.int .i64 9, .int .i64 4, .int .i64 id, .slice Ar k cr] 46)).heap[S.heap.size + 1]? = some (.loop (rc .ready none)) := (Below.heap_alloc W2' _ _ (Array.getElem?_eq_some_iff.1 hr2.rc).1).trans hr2.rc
          have hgq : ∀ w9, Keep [S.heap.size + 1, bb, bb + 1 + 1] W2' w9 → w9.heap[S.heap.size + 1 + 1]? = W2'.heap[S.heap.size + 1 + 1]? := fun w9 k9 => k9.block _ (by omega) (by simp; omega)
          have db2 := hdb.keep kk (by simp; omega)
          have bk2 := hbk.keep kk (by simp; omega) (fun g hg => by have := (hbk.row.lt g hg).1; simp; omega)
          refine rng_round' hrc hr2.rc rfl ?_
          clear hrc hW1
          have HL := Lib.hid hl
          have HJO := Lib.hid hjo
          have HJ0 := Lib.hid hj0
          clear hl hjo hj0
          have FB := Blk.new W2' 46 #[.int .i64 9, .int .i64 4, .int .i64 id, .slice Ar k cr]
          have kA : Keep [S.heap.size + 1] W2' ((W2'.alloc (.cells #[.int .i64 9, .int .i64 4, .int .i64 id, .slice Ar k cr] 46)).putObj (S.heap.size + 1) (.loop (rc .busy none))) := ((Keep.refl _ W2').alloc _).putObj (l := S.heap.size + 1) (.inl (by simp)) _
          have FB3 := FB.keep ((Keep.refl [S.heap.size + 1] (W2'.alloc (.cells #[.int .i64 9, .int .i64 4, .int .i64 id, .slice Ar k cr] 46))).putObj (l := S.heap.size + 1) (.inl (by simp)) (.loop (rc .busy none))) (by simp; omega)
          have hr3 : Rest S ((W2'.alloc (.cells #[.int .i64 9, .int .i64 4, .int .i64 id, .slice Ar k cr] 46)).putObj (S.heap.size + 1) (.loop (rc .busy none))) [bb, bb + 1 + 1] (.loop (rc .busy none)) := ⟨put_heap (Array.getElem?_eq_some_iff.1 L2).1, kA.heap hr2.df (by simp), hr2.kp.step kA (by first | (simp; done) | (simp; omega))⟩
          have HL2 := Lib.hid L2
          have HHR3 := Lib.hid hr3
          clear L2 hr3
          gi_wp2
          refine ⟨HL2.out, ?_⟩
          have hr3 := HHR3.out
          clear HHR3
          obtain ⟨W3, hW3⟩ : ∃ W3, W3 = (W2'.alloc (.cells #[.int .i64 9, .int .i64 4, .int .i64 id, .slice Ar k cr] 46)).putObj (S.heap.size + 1) (.loop (rc .busy none)) := ⟨_, rfl⟩
          rw [← hW3] at kA FB3 hr3 ⊢
          clear hW3 FB
          have s23 := kA.size
          have db3 := db2.keep kA (by simp; omega)
          have bk3 := bk2.keep kA (by simp; omega) (fun g hg => by have := (bk2.row.lt g hg).1; simp; omega)
          have cf3 := cf.keep kA (fun g hg => by simp at hg; subst hg; exact ⟨fun h0 ad e => by have := cf.rd.blk_lt h0 ad e; omega, by omega, by omega, by omega, by omega⟩)
          have rr3 := hrow.keep kA (fun g hg => by have := (hrow.lt g hg).1; simp; omega)
          obtain ⟨_, _, er, _, _, hrr3⟩ := rr3.reads
          rw [hPl] at er hrr3
          injection er with er1 er2 er3
          subst er1 er3
          have f0 := FB3.cell 0
          have f1 := FB3.cell 1
          have f2 := FB3.cell 2
          have f3 := FB3.cell 3
          have x3 := (xb7.keep hr3.kp (by first | (simp; done) | (simp; omega))).cell 0
          have B3 := xbB.keep hr3.kp (by simp; omega)
          have B3c := B3.cell 0
          have d3c := db3.cell 0
          have d3f := db3.frozen 0
          simp at f0 f1 f2 f3 x3 B3c d3c
          have hAr : 0 < k → ∀ ad, Ar = some ad → ad.block ≠ bb := fun _ ad e => by have := (hrow.lt ad.block (by rw [e]; rfl)).1; omega
          have Hr3 := Lib.hid hr3
          have HKA := Lib.hid kA
          have HGQ := Lib.hid hgq
          have CF3 := Lib.hid cf3
          have HP := Lib.hid hP
          have hsb : S.heap.size + 3 ≤ W3.heap.size := by omega
          have hA0 : 0 < 3000 → ∀ ad, A = some ad → ad.block < w.heap.size := cf.rd.blk_lt
          clear hP kA hgq hr3 rr3 db2 bk2 FB3 hr2 hrow hrr cf cf3
          have hPP : bsN.take off ++ P = bsN.take (off + k) := by rw [HP.out, List.take_add]
          have hfull : bsN.take (off + k) = bsN := List.take_of_length_le (by have := HL.out; omega)
          have hPP := hPP.trans hfull
          have HPP := Lib.hid hPP
          clear hPP hfull
          gi_wp2_with (refine ⟨trivial, ?_⟩; gi_at_call 13; refine (CallsIn.inRound _ (callsIn_wide.2 (more_whole bk3 hsb cr hrr3 (by rw [List.length_take]; omega)))).mono ?_; rintro e w4 ⟨r4, rfl, hr4, b4, k4, m4⟩; rw [HPP.out] at hr4; have s34 := k4.size;have d4 := db3.keep k4 (fun hx => by rcases List.mem_cons.1 hx with hx | hx; omega; have := (bk3.row.lt _ (by simpa using hx)).1; omega);have d4f := d4.frozen 0;have d4c := d4.cell 0;have d5 := d4.set_ 0 (.bool true);have kd : Keep [bb + 1 + 1] w4 (w4.setCell ⟨bb + 1 + 1, 0, none⟩ (.bool true)) := (Keep.refl _ w4).setCell (p := ⟨bb + 1 + 1, 0, none⟩) (.inl (by simp)) _;have B5 := ((B3.keep k4 (fun hx => by rcases List.mem_cons.1 hx with hx | hx; omega; have := (bk3.row.lt _ (by simpa using hx)).1; omega)).keep kd (by simp; omega)).cell 0;simp at d4c B5;have ra5 := (CF3.out.rd.kept k4 (by have := CF3.out.sz; omega) (fun h0 ad e => fun hx => by have := hA0 h0 ad e; rcases List.mem_cons.1 hx with hx | hx; omega; have := (bk3.row.lt _ (by simpa using hx)).1; omega)).kept kd (by have := CF3.out.sz; omega) (fun h0 ad e => by have := hA0 h0 ad e; simp; omega);have ro5 := hr4.keep kd (fun g hg => by simp; rintro rfl; exact row_off_blk hr4 d4 (by decide) hg);obtain ⟨Ao, co, rfl, _, _, hro⟩ := ro5.reads;have st1 := str_of (c := co) (src := 27) (dst := 9) Try.underlying27 Try.underlying5 Try.underlying9 hro;have st2 := str_of (c := c) (src := 27) (dst := 9) Try.underlying27 Try.underlying5 Try.underlying9 ra5)
          have hl := HL.out
          have hjo := HJO.out
          have b5 := b4.keep kd (by simp; omega) (fun g hg => by simp; rintro rfl; exact row_off_blk b4.row d4 (by decide) hg)
          have kS4 : Keep [bb, bb + 1 + 1] S (w4.setCell ⟨bb + 1 + 1, 0, none⟩ (.bool true)) := ((Hr3.out.kp).step k4 (fun g hg => by
            rcases List.mem_cons.1 hg with rfl | hg
            · exact .inl (by simp)
            · have := (bk3.row.lt g (by simpa using hg)).1
              exact .inr (by omega))).step kd (by simp)
          have hgrow : ∀ i, i ≤ S.heap.size + 1 + 1 → i ∉ [bb, bb + 1 + 1] → i < W3.heap.size → (w4.setCell ⟨bb + 1 + 1, 0, none⟩ (.bool true)).heap[i]? = W3.heap[i]? := fun i hi hn hl => (kd.block i (by omega) (by simp at hn ⊢; omega)).trans (k4.block i hl (fun hx => by
            rcases List.mem_cons.1 hx with rfl | hx
            · simp at hn
            · have := (bk3.row.lt i (by simpa using hx)).1; omega))
          obtain ⟨W5, hW5⟩ : ∃ W5, W5 = w4.setCell ⟨bb + 1 + 1, 0, none⟩ (.bool true) := ⟨_, rfl⟩
          rw [← hW5] at b5 kS4 hgrow d5 ⊢
          clear hW5
          have hl3 := (Array.getElem?_eq_some_iff.1 Hr3.out.rc).1
          have rc5 : W5.heap[S.heap.size + 1]? = some (.loop (rc .busy none)) := (hgrow _ (by omega) (by simp; omega) hl3).trans Hr3.out.rc
          have df5 : W5.heap[S.heap.size]? = some (.deferred (some [])) := (hgrow _ (by omega) (by simp; omega) (by omega)).trans Hr3.out.df
          have rs5 : Rest S W5 [bb, bb + 1 + 1] (.loop (rc .busy none)) := ⟨rc5, df5, kS4⟩
          have c5b : ∀ {g t cs}, Blk W3 g t cs → g < S.heap.size → g ≠ bb → g ≠ bb + 1 + 1 → Blk W5 g t cs := fun h1 h2 h3 h4 => (hgrow _ (by omega) (by simp; omega) h1.lt).trans h1
          have CF5 : CF w.heap.size W5 (bb + 1 + 1 + 1) (bb + 1 + 1 + 1 + 1) (bb + 1 + 1 + 1 + 1 + 1) (bb + 1 + 1 + 1 + 1 + 1 + 1) id en A 3000 c mo bsN := ⟨c5b CF3.out.b1 (by omega) (by omega) (by omega), c5b CF3.out.b2 (by omega) (by omega) (by omega), c5b CF3.out.b3 (by omega) (by omega) (by omega), c5b CF3.out.b4 (by omega) (by omega) (by omega), cfS.kept kS4 (by omega) (fun h0 ad e => by have := hA0 h0 ad e; simp; omega), by have := kS4.size; omega⟩
          have kz : Keep [S.heap.size + 1] W5 (W5.putObj (S.heap.size + 1) (.loop (rc .ready none))) := (Keep.refl _ _).putObj (.inl (by simp)) _
          have d6 := d5.keep kz (by simp; omega)
          have b6 := b5.keep kz (by simp; omega) (fun g hg => by have := (b5.row.lt g hg).1; simp; omega)
          have CF6 := CF5.keep kz (fun g hg => by simp at hg; subst hg; exact ⟨fun h0 ad e => by have := hA0 h0 ad e; omega, by omega, by omega, by omega, by omega⟩)
          have hgf : (W5.putObj (S.heap.size + 1) (.loop (rc .ready none))).heap[S.heap.size + 1 + 1]? = W2'.heap[S.heap.size + 1 + 1]? := ((World.putObj_heap_other (by omega)).trans (hgrow _ (Nat.le_refl _) (by simp; omega) (by omega))).trans (HKA.out.block _ (by omega) (by simp))
          have FINJ := Lib.hid (show CF w.heap.size (W5.putObj (S.heap.size + 1) (.loop (rc .ready none))) (bb + 1 + 1 + 1) (bb + 1 + 1 + 1 + 1) (bb + 1 + 1 + 1 + 1 + 1) (bb + 1 + 1 + 1 + 1 + 1 + 1) id en A 3000 c mo bsN ∧ Rest S (W5.putObj (S.heap.size + 1) (.loop (rc .ready none))) [bb, bb + 1 + 1] (.loop (rc .ready none)) ∧ _ from ⟨CF6, rs5.put, (by rw [HJD.out]; exact .inr (.inr ⟨by omega, by omega, d6, _, _, b6⟩) : JD (j + 1 + 1) (off + k) (W5.putObj (S.heap.size + 1) (.loop (rc .ready none))))⟩)
          exact ⟨rc5, hgf, FINJ.out⟩
      · rcases Nat.eq_zero_or_pos j with rfl | hjp
        · have hd' : Blk W (bb + 1 + 1) 4 #[.bool false] ∧ Bk W (S.heap.size + 3) bb 52 0 false false (.slice none 0 0) [] := by
            rw [HJD.out] at hd
            rcases hd with ⟨_, _, h1, h2⟩ | ⟨h, _⟩ | ⟨h, _⟩
            · exact ⟨h1, h2⟩
            · omega
            · omega
          obtain ⟨hdb, hbk⟩ := hd'
          clear hd
          cases en
          · obtain rfl : off = 0 := hj0 rfl
            obtain ⟨P, hP⟩ : ∃ P, P = (bsN.drop 0).take k := ⟨_, rfl⟩
            rw [← hP] at hrow
            have hPl : (encB P).length = k := by rw [encB_len, hP, List.length_take, List.length_drop, hbsN]; omega
            obtain ⟨Ar, cr, hre, _, _, hrr⟩ := hrow.reads
            rw [hPl] at hre hrr
            subst hre
            have hfr : YieldAt Fence.wide 4 Try.prog (S.heap.size + 1) #[.agg #[.int .i64 1, .int .i64 0, .int .i64 id, .slice Ar k cr]] W2' = YieldAt Fence.wide 4 Try.prog (S.heap.size + 1) #[.agg #[.int .i64 (typF 0), .int .i64 (flgF 0 false (decide (0 + k = 3000))), .int .i64 id, .slice Ar k cr]] W2' := by rw [show decide (0 + k = 3000) = false by simp; omega]; rfl
            rw [← hfr]
            clear hfr
            have hr2 := hr.go kk (by simp; omega) (by simp) (by simp; omega)
            have L2 : (W2'.alloc (.cells #[.int .i64 1, .int .i64 0, .int .i64 id, .slice Ar k cr] 46)).heap[S.heap.size + 1]? = some (.loop (rc .ready none)) := (Below.heap_alloc W2' _ _ (Array.getElem?_eq_some_iff.1 hr2.rc).1).trans hr2.rc
            have hgq : ∀ w9, Keep [S.heap.size + 1, bb, bb + 1 + 1] W2' w9 → w9.heap[S.heap.size + 1 + 1]? = W2'.heap[S.heap.size + 1 + 1]? := fun w9 k9 => k9.block _ (by omega) (by simp; omega)
            have db2 := hdb.keep kk (by simp; omega)
            have bk2 := hbk.keep kk (by simp; omega) (fun g hg => by have := (hbk.row.lt g hg).1; simp; omega)
            refine rng_round' hrc hr2.rc rfl ?_
            clear hrc hW1
            have HL := Lib.hid hl
            have HJO := Lib.hid hjo
            have HJ0 := Lib.hid hj0
            clear hl hjo hj0
            have FB := Blk.new W2' 46 #[.int .i64 1, .int .i64 0, .int .i64 id, .slice Ar k cr]
            have kA : Keep [S.heap.size + 1] W2' ((W2'.alloc (.cells #[.int .i64 1, .int .i64 0, .int .i64 id, .slice Ar k cr] 46)).putObj (S.heap.size + 1) (.loop (rc .busy none))) := ((Keep.refl _ W2').alloc _).putObj (l := S.heap.size + 1) (.inl (by simp)) _
            have FB3 := FB.keep ((Keep.refl [S.heap.size + 1] (W2'.alloc (.cells #[.int .i64 1, .int .i64 0, .int .i64 id, .slice Ar k cr] 46))).putObj (l := S.heap.size + 1) (.inl (by simp)) (.loop (rc .busy none))) (by simp; omega)
            have hr3 : Rest S ((W2'.alloc (.cells #[.int .i64 1, .int .i64 0, .int .i64 id, .slice Ar k cr] 46)).putObj (S.heap.size + 1) (.loop (rc .busy none))) [bb, bb + 1 + 1] (.loop (rc .busy none)) := ⟨put_heap (Array.getElem?_eq_some_iff.1 L2).1, kA.heap hr2.df (by simp), hr2.kp.step kA (by first | (simp; done) | (simp; omega))⟩
            have HL2 := Lib.hid L2
            have HHR3 := Lib.hid hr3
            clear L2 hr3
            gi_wp2
            refine ⟨HL2.out, ?_⟩
            have hr3 := HHR3.out
            clear HHR3
            obtain ⟨W3, hW3⟩ : ∃ W3, W3 = (W2'.alloc (.cells #[.int .i64 1, .int .i64 0, .int .i64 id, .slice Ar k cr] 46)).putObj (S.heap.size + 1) (.loop (rc .busy none)) := ⟨_, rfl⟩
            rw [← hW3] at kA FB3 hr3 ⊢
            clear hW3 FB
            have s23 := kA.size
            have db3 := db2.keep kA (by simp; omega)
            have bk3 := bk2.keep kA (by simp; omega) (fun g hg => by have := (bk2.row.lt g hg).1; simp; omega)
            have cf3 := cf.keep kA (fun g hg => by simp at hg; subst hg; exact ⟨fun h0 ad e => by have := cf.rd.blk_lt h0 ad e; omega, by omega, by omega, by omega, by omega⟩)
            have rr3 := hrow.keep kA (fun g hg => by have := (hrow.lt g hg).1; simp; omega)
            obtain ⟨_, _, er, _, _, hrr3⟩ := rr3.reads
            rw [hPl] at er hrr3
            injection er with er1 er2 er3
            subst er1 er3
            have f0 := FB3.cell 0
            have f1 := FB3.cell 1
            have f2 := FB3.cell 2
            have f3 := FB3.cell 3
            have x3 := (xb7.keep hr3.kp (by first | (simp; done) | (simp; omega))).cell 0
            have B3 := xbB.keep hr3.kp (by simp; omega)
            have B3c := B3.cell 0
            have d3c := db3.cell 0
            have d3f := db3.frozen 0
            simp at f0 f1 f2 f3 x3 B3c d3c
            have hAr : 0 < k → ∀ ad, Ar = some ad → ad.block ≠ bb := fun _ ad e => by have := (hrow.lt ad.block (by rw [e]; rfl)).1; omega
            have Hr3 := Lib.hid hr3
            have HKA := Lib.hid kA
            have HGQ := Lib.hid hgq
            have CF3 := Lib.hid cf3
            have HP := Lib.hid hP
            have hsb : S.heap.size + 3 ≤ W3.heap.size := by omega
            have hA0 : 0 < 3000 → ∀ ad, A = some ad → ad.block < w.heap.size := cf.rd.blk_lt
            clear hP kA hgq hr3 rr3 db2 bk2 FB3 hr2 hrow hrr cf cf3
            gi_wp2_with (refine ⟨trivial, ?_⟩; gi_at_call 11; refine (CallsIn.inRound _ (callsIn_wide.2 (start_part bk3 id false cr (by omega) hrr3 (by omega) hsb hAr))).mono ?_; rintro e w4 ⟨rfl, v4, b4, k4, m4⟩; have s34 := k4.size;have d4 := db3.keep k4 (by simp; omega);have d4f := d4.frozen 0;have d4c := d4.cell 0;have d5 := d4.set_ 0 (.bool false);have kd : Keep [bb + 1 + 1] w4 (w4.setCell ⟨bb + 1 + 1, 0, none⟩ (.bool false)) := (Keep.refl _ w4).setCell (p := ⟨bb + 1 + 1, 0, none⟩) (.inl (by simp)) _;have B5 := ((B3.keep k4 (by simp; omega)).keep kd (by simp; omega)).cell 0;simp at d4c B5)
            have hl := HL.out
            have hjo := HJO.out
            have b5 := b4.keep kd (by simp; omega) (fun g hg => by simp; rintro rfl; exact row_off_blk b4.row d4 (by decide) hg)
            have hP0 : P = bsN.take k := by rw [HP.out, List.drop_zero]
            rw [hP0] at b5
            have k4' : Keep [bb, bb + 1 + 1] W3 (w4.setCell ⟨bb + 1 + 1, 0, none⟩ (.bool false)) := (k4.more (by simp)).trans (kd.more (by simp))
            have kS4 : Keep [bb, bb + 1 + 1] S (w4.setCell ⟨bb + 1 + 1, 0, none⟩ (.bool false)) := Hr3.out.kp.trans k4'
            have hgrow : ∀ i, i ≤ S.heap.size + 1 + 1 → i ∉ [bb, bb + 1 + 1] → i < W3.heap.size → (w4.setCell ⟨bb + 1 + 1, 0, none⟩ (.bool false)).heap[i]? = W3.heap[i]? := fun i _ hn hl => k4'.block i hl hn
            obtain ⟨W5, hW5⟩ : ∃ W5, W5 = w4.setCell ⟨bb + 1 + 1, 0, none⟩ (.bool false) := ⟨_, rfl⟩
            rw [← hW5] at b5 kS4 hgrow d5 ⊢
            clear hW5
            have hl3 := (Array.getElem?_eq_some_iff.1 Hr3.out.rc).1
            have rc5 : W5.heap[S.heap.size + 1]? = some (.loop (rc .busy none)) := (hgrow _ (by omega) (by simp; omega) hl3).trans Hr3.out.rc
            have df5 : W5.heap[S.heap.size]? = some (.deferred (some [])) := (hgrow _ (by omega) (by simp; omega) (by omega)).trans Hr3.out.df
            have rs5 : Rest S W5 [bb, bb + 1 + 1] (.loop (rc .busy none)) := ⟨rc5, df5, kS4⟩
            have c5b : ∀ {g t cs}, Blk W3 g t cs → g < S.heap.size → g ≠ bb → g ≠ bb + 1 + 1 → Blk W5 g t cs := fun h1 h2 h3 h4 => (hgrow _ (by omega) (by simp; omega) h1.lt).trans h1
            have CF5 : CF w.heap.size W5 (bb + 1 + 1 + 1) (bb + 1 + 1 + 1 + 1) (bb + 1 + 1 + 1 + 1 + 1) (bb + 1 + 1 + 1 + 1 + 1 + 1) id false A 3000 c mo bsN := ⟨c5b CF3.out.b1 (by omega) (by omega) (by omega), c5b CF3.out.b2 (by omega) (by omega) (by omega), c5b CF3.out.b3 (by omega) (by omega) (by omega), c5b CF3.out.b4 (by omega) (by omega) (by omega), cfS.kept kS4 (by omega) (fun h0 ad e => by have := hA0 h0 ad e; simp; omega), by have := kS4.size; omega⟩
            have kz : Keep [S.heap.size + 1] W5 (W5.putObj (S.heap.size + 1) (.loop (rc .ready none))) := (Keep.refl _ _).putObj (.inl (by simp)) _
            have d6 := d5.keep kz (by simp; omega)
            have b6 := b5.keep kz (by simp; omega) (fun g hg => by have := (b5.row.lt g hg).1; simp; omega)
            have CF6 := CF5.keep kz (fun g hg => by simp at hg; subst hg; exact ⟨fun h0 ad e => by have := hA0 h0 ad e; omega, by omega, by omega, by omega, by omega⟩)
            have hgf : (W5.putObj (S.heap.size + 1) (.loop (rc .ready none))).heap[S.heap.size + 1 + 1]? = W2'.heap[S.heap.size + 1 + 1]? := ((World.putObj_heap_other (by omega)).trans (hgrow _ (Nat.le_refl _) (by simp; omega) (by omega))).trans (HKA.out.block _ (by omega) (by simp))
            have FINJ := Lib.hid (show CF w.heap.size (W5.putObj (S.heap.size + 1) (.loop (rc .ready none))) (bb + 1 + 1 + 1) (bb + 1 + 1 + 1 + 1) (bb + 1 + 1 + 1 + 1 + 1) (bb + 1 + 1 + 1 + 1 + 1 + 1) id false A 3000 c mo bsN ∧ Rest S (W5.putObj (S.heap.size + 1) (.loop (rc .ready none))) [bb, bb + 1 + 1] (.loop (rc .ready none)) ∧ _ from ⟨CF6, rs5.put, (by rw [HJD.out]; exact .inr (.inl ⟨by omega, by omega, d6, _, b6⟩) : JD 1 k (W5.putObj (S.heap.size + 1) (.loop (rc .ready none))))⟩)
            exact ⟨rc5, hgf, FINJ.out⟩
          · obtain rfl : off = 0 := hj0 rfl
            obtain ⟨P, hP⟩ : ∃ P, P = (bsN.drop 0).take k := ⟨_, rfl⟩
            rw [← hP] at hrow
            have hPl : (encB P).length = k := by rw [encB_len, hP, List.length_take, List.length_drop, hbsN]; omega
            obtain ⟨Ar, cr, hre, _, _, hrr⟩ := hrow.reads
            rw [hPl] at hre hrr
            subst hre
            have hfr : YieldAt Fence.wide 4 Try.prog (S.heap.size + 1) #[.agg #[.int .i64 1, .int .i64 1, .int .i64 id, .slice Ar k cr]] W2' = YieldAt Fence.wide 4 Try.prog (S.heap.size + 1) #[.agg #[.int .i64 (typF 0), .int .i64 (flgF 0 true (decide (0 + k = 3000))), .int .i64 id, .slice Ar k cr]] W2' := by rw [show decide (0 + k = 3000) = false by simp; omega]; rfl
            rw [← hfr]
            clear hfr
            have hr2 := hr.go kk (by simp; omega) (by simp) (by simp; omega)
            have L2 : (W2'.alloc (.cells #[.int .i64 1, .int .i64 1, .int .i64 id, .slice Ar k cr] 46)).heap[S.heap.size + 1]? = some (.loop (rc .ready none)) := (Below.heap_alloc W2' _ _ (Array.getElem?_eq_some_iff.1 hr2.rc).1).trans hr2.rc
            have hgq : ∀ w9, Keep [S.heap.size + 1, bb, bb + 1 + 1] W2' w9 → w9.heap[S.heap.size + 1 + 1]? = W2'.heap[S.heap.size + 1 + 1]? := fun w9 k9 => k9.block _ (by omega) (by simp; omega)
            have db2 := hdb.keep kk (by simp; omega)
            have bk2 := hbk.keep kk (by simp; omega) (fun g hg => by have := (hbk.row.lt g hg).1; simp; omega)
            refine rng_round' hrc hr2.rc rfl ?_
            clear hrc hW1
            have HL := Lib.hid hl
            have HJO := Lib.hid hjo
            have HJ0 := Lib.hid hj0
            clear hl hjo hj0
            have FB := Blk.new W2' 46 #[.int .i64 1, .int .i64 1, .int .i64 id, .slice Ar k cr]
            have kA : Keep [S.heap.size + 1] W2' ((W2'.alloc (.cells #[.int .i64 1, .int .i64 1, .int .i64 id, .slice Ar k cr] 46)).putObj (S.heap.size + 1) (.loop (rc .busy none))) := ((Keep.refl _ W2').alloc _).putObj (l := S.heap.size + 1) (.inl (by simp)) _
            have FB3 := FB.keep ((Keep.refl [S.heap.size + 1] (W2'.alloc (.cells #[.int .i64 1, .int .i64 1, .int .i64 id, .slice Ar k cr] 46))).putObj (l := S.heap.size + 1) (.inl (by simp)) (.loop (rc .busy none))) (by simp; omega)
            have hr3 : Rest S ((W2'.alloc (.cells #[.int .i64 1, .int .i64 1, .int .i64 id, .slice Ar k cr] 46)).putObj (S.heap.size + 1) (.loop (rc .busy none))) [bb, bb + 1 + 1] (.loop (rc .busy none)) := ⟨put_heap (Array.getElem?_eq_some_iff.1 L2).1, kA.heap hr2.df (by simp), hr2.kp.step kA (by first | (simp; done) | (simp; omega))⟩
            have HL2 := Lib.hid L2
            have HHR3 := Lib.hid hr3
            clear L2 hr3
            gi_wp2
            refine ⟨HL2.out, ?_⟩
            have hr3 := HHR3.out
            clear HHR3
            obtain ⟨W3, hW3⟩ : ∃ W3, W3 = (W2'.alloc (.cells #[.int .i64 1, .int .i64 1, .int .i64 id, .slice Ar k cr] 46)).putObj (S.heap.size + 1) (.loop (rc .busy none)) := ⟨_, rfl⟩
            rw [← hW3] at kA FB3 hr3 ⊢
            clear hW3 FB
            have s23 := kA.size
            have db3 := db2.keep kA (by simp; omega)
            have bk3 := bk2.keep kA (by simp; omega) (fun g hg => by have := (bk2.row.lt g hg).1; simp; omega)
            have cf3 := cf.keep kA (fun g hg => by simp at hg; subst hg; exact ⟨fun h0 ad e => by have := cf.rd.blk_lt h0 ad e; omega, by omega, by omega, by omega, by omega⟩)
            have rr3 := hrow.keep kA (fun g hg => by have := (hrow.lt g hg).1; simp; omega)
            obtain ⟨_, _, er, _, _, hrr3⟩ := rr3.reads
            rw [hPl] at er hrr3
            injection er with er1 er2 er3
            subst er1 er3
            have f0 := FB3.cell 0
            have f1 := FB3.cell 1
            have f2 := FB3.cell 2
            have f3 := FB3.cell 3
            have x3 := (xb7.keep hr3.kp (by first | (simp; done) | (simp; omega))).cell 0
            have B3 := xbB.keep hr3.kp (by simp; omega)
            have B3c := B3.cell 0
            have d3c := db3.cell 0
            have d3f := db3.frozen 0
            simp at f0 f1 f2 f3 x3 B3c d3c
            have hAr : 0 < k → ∀ ad, Ar = some ad → ad.block ≠ bb := fun _ ad e => by have := (hrow.lt ad.block (by rw [e]; rfl)).1; omega
            have Hr3 := Lib.hid hr3
            have HKA := Lib.hid kA
            have HGQ := Lib.hid hgq
            have CF3 := Lib.hid cf3
            have HP := Lib.hid hP
            have hsb : S.heap.size + 3 ≤ W3.heap.size := by omega
            have hA0 : 0 < 3000 → ∀ ad, A = some ad → ad.block < w.heap.size := cf.rd.blk_lt
            clear hP kA hgq hr3 rr3 db2 bk2 FB3 hr2 hrow hrr cf cf3
            gi_wp2_with (refine ⟨trivial, ?_⟩; gi_at_call 11; refine (CallsIn.inRound _ (callsIn_wide.2 (start_part bk3 id true cr (by omega) hrr3 (by omega) hsb hAr))).mono ?_; rintro e w4 ⟨rfl, v4, b4, k4, m4⟩; have s34 := k4.size;have d4 := db3.keep k4 (by simp; omega);have d4f := d4.frozen 0;have d4c := d4.cell 0;have d5 := d4.set_ 0 (.bool false);have kd : Keep [bb + 1 + 1] w4 (w4.setCell ⟨bb + 1 + 1, 0, none⟩ (.bool false)) := (Keep.refl _ w4).setCell (p := ⟨bb + 1 + 1, 0, none⟩) (.inl (by simp)) _;have B5 := ((B3.keep k4 (by simp; omega)).keep kd (by simp; omega)).cell 0;simp at d4c B5)
            have hl := HL.out
            have hjo := HJO.out
            have b5 := b4.keep kd (by simp; omega) (fun g hg => by simp; rintro rfl; exact row_off_blk b4.row d4 (by decide) hg)
            have hP0 : P = bsN.take k := by rw [HP.out, List.drop_zero]
            rw [hP0] at b5
            have k4' : Keep [bb, bb + 1 + 1] W3 (w4.setCell ⟨bb + 1 + 1, 0, none⟩ (.bool false)) := (k4.more (by simp)).trans (kd.more (by simp))
            have kS4 : Keep [bb, bb + 1 + 1] S (w4.setCell ⟨bb + 1 + 1, 0, none⟩ (.bool false)) := Hr3.out.kp.trans k4'
            have hgrow : ∀ i, i ≤ S.heap.size + 1 + 1 → i ∉ [bb, bb + 1 + 1] → i < W3.heap.size → (w4.setCell ⟨bb + 1 + 1, 0, none⟩ (.bool false)).heap[i]? = W3.heap[i]? := fun i _ hn hl => k4'.block i hl hn
            obtain ⟨W5, hW5⟩ : ∃ W5, W5 = w4.setCell ⟨bb + 1 + 1, 0, none⟩ (.bool false) := ⟨_, rfl⟩
            rw [← hW5] at b5 kS4 hgrow d5 ⊢
            clear hW5
            have hl3 := (Array.getElem?_eq_some_iff.1 Hr3.out.rc).1
            have rc5 : W5.heap[S.heap.size + 1]? = some (.loop (rc .busy none)) := (hgrow _ (by omega) (by simp; omega) hl3).trans Hr3.out.rc
            have df5 : W5.heap[S.heap.size]? = some (.deferred (some [])) := (hgrow _ (by omega) (by simp; omega) (by omega)).trans Hr3.out.df
            have rs5 : Rest S W5 [bb, bb + 1 + 1] (.loop (rc .busy none)) := ⟨rc5, df5, kS4⟩
            have c5b : ∀ {g t cs}, Blk W3 g t cs → g < S.heap.size → g ≠ bb → g ≠ bb + 1 + 1 → Blk W5 g t cs := fun h1 h2 h3 h4 => (hgrow _ (by omega) (by simp; omega) h1.lt).trans h1
            have CF5 : CF w.heap.size W5 (bb + 1 + 1 + 1) (bb + 1 + 1 + 1 + 1) (bb + 1 + 1 + 1 + 1 + 1) (bb + 1 + 1 + 1 + 1 + 1 + 1) id true A 3000 c mo bsN := ⟨c5b CF3.out.b1 (by omega) (by omega) (by omega), c5b CF3.out.b2 (by omega) (by omega) (by omega), c5b CF3.out.b3 (by omega) (by omega) (by omega), c5b CF3.out.b4 (by omega) (by omega) (by omega), cfS.kept kS4 (by omega) (fun h0 ad e => by have := hA0 h0 ad e; simp; omega), by have := kS4.size; omega⟩
            have kz : Keep [S.heap.size + 1] W5 (W5.putObj (S.heap.size + 1) (.loop (rc .ready none))) := (Keep.refl _ _).putObj (.inl (by simp)) _
            have d6 := d5.keep kz (by simp; omega)
            have b6 := b5.keep kz (by simp; omega) (fun g hg => by have := (b5.row.lt g hg).1; simp; omega)
            have CF6 := CF5.keep kz (fun g hg => by simp at hg; subst hg; exact ⟨fun h0 ad e => by have := hA0 h0 ad e; omega, by omega, by omega, by omega, by omega⟩)
            have hgf : (W5.putObj (S.heap.size + 1) (.loop (rc .ready none))).heap[S.heap.size + 1 + 1]? = W2'.heap[S.heap.size + 1 + 1]? := ((World.putObj_heap_other (by omega)).trans (hgrow _ (Nat.le_refl _) (by simp; omega) (by omega))).trans (HKA.out.block _ (by omega) (by simp))
            have FINJ := Lib.hid (show CF w.heap.size (W5.putObj (S.heap.size + 1) (.loop (rc .ready none))) (bb + 1 + 1 + 1) (bb + 1 + 1 + 1 + 1) (bb + 1 + 1 + 1 + 1 + 1) (bb + 1 + 1 + 1 + 1 + 1 + 1) id true A 3000 c mo bsN ∧ Rest S (W5.putObj (S.heap.size + 1) (.loop (rc .ready none))) [bb, bb + 1 + 1] (.loop (rc .ready none)) ∧ _ from ⟨CF6, rs5.put, (by rw [HJD.out]; exact .inr (.inl ⟨by omega, by omega, d6, _, b6⟩) : JD 1 k (W5.putObj (S.heap.size + 1) (.loop (rc .ready none))))⟩)
            exact ⟨rc5, hgf, FINJ.out⟩
        · have hd' : Blk W (bb + 1 + 1) 4 #[.bool false] ∧ ∃ v, Bk W (S.heap.size + 3) bb 52 id true en v (bsN.take off) := by
            rw [HJD.out] at hd
            rcases hd with ⟨h, _⟩ | ⟨_, _, h1, h2⟩ | ⟨_, h, _⟩
            · omega
            · exact ⟨h1, h2⟩
            · omega
          obtain ⟨hdb, v, hbk⟩ := hd'
          clear hd
          obtain ⟨j, rfl⟩ : ∃ j', j = j' + 1 := ⟨j - 1, by omega⟩
          obtain ⟨P, hP⟩ : ∃ P, P = (bsN.drop off).take k := ⟨_, rfl⟩
          rw [← hP] at hrow
          have hPl : (encB P).length = k := by rw [encB_len, hP, List.length_take, List.length_drop, hbsN]; omega
          obtain ⟨Ar, cr, hre, _, _, hrr⟩ := hrow.reads
          rw [hPl] at hre hrr
          subst hre
          have hfr : YieldAt Fence.wide 4 Try.prog (S.heap.size + 1) #[.agg #[.int .i64 9, .int .i64 0, .int .i64 id, .slice Ar k cr]] W2' = YieldAt Fence.wide 4 Try.prog (S.heap.size + 1) #[.agg #[.int .i64 (typF (j + 1)), .int .i64 (flgF (j + 1) en (decide (off + k = 3000))), .int .i64 id, .slice Ar k cr]] W2' := by rw [show decide (off + k = 3000) = false by simp; omega]; cases en <;> rfl
          rw [← hfr]
          clear hfr
          have hr2 := hr.go kk (by simp; omega) (by simp) (by simp; omega)
          have L2 : (W2'.alloc (.cells #[.int .i64 9, .int .i64 0, .int .i64 id, .slice Ar k cr] 46)).heap[S.heap.size + 1]? = some (.loop (rc .ready none)) := (Below.heap_alloc W2' _ _ (Array.getElem?_eq_some_iff.1 hr2.rc).1).trans hr2.rc
          have hgq : ∀ w9, Keep [S.heap.size + 1, bb, bb + 1 + 1] W2' w9 → w9.heap[S.heap.size + 1 + 1]? = W2'.heap[S.heap.size + 1 + 1]? := fun w9 k9 => k9.block _ (by omega) (by simp; omega)
          have db2 := hdb.keep kk (by simp; omega)
          have bk2 := hbk.keep kk (by simp; omega) (fun g hg => by have := (hbk.row.lt g hg).1; simp; omega)
          refine rng_round' hrc hr2.rc rfl ?_
          clear hrc hW1
          have HL := Lib.hid hl
          have HJO := Lib.hid hjo
          have HJ0 := Lib.hid hj0
          clear hl hjo hj0
          have FB := Blk.new W2' 46 #[.int .i64 9, .int .i64 0, .int .i64 id, .slice Ar k cr]
          have kA : Keep [S.heap.size + 1] W2' ((W2'.alloc (.cells #[.int .i64 9, .int .i64 0, .int .i64 id, .slice Ar k cr] 46)).putObj (S.heap.size + 1) (.loop (rc .busy none))) := ((Keep.refl _ W2').alloc _).putObj (l := S.heap.size + 1) (.inl (by simp)) _
          have FB3 := FB.keep ((Keep.refl [S.heap.size + 1] (W2'.alloc (.cells #[.int .i64 9, .int .i64 0, .int .i64 id, .slice Ar k cr] 46))).putObj (l := S.heap.size + 1) (.inl (by simp)) (.loop (rc .busy none))) (by simp; omega)
          have hr3 : Rest S ((W2'.alloc (.cells #[.int .i64 9, .int .i64 0, .int .i64 id, .slice Ar k cr] 46)).putObj (S.heap.size + 1) (.loop (rc .busy none))) [bb, bb + 1 + 1] (.loop (rc .busy none)) := ⟨put_heap (Array.getElem?_eq_some_iff.1 L2).1, kA.heap hr2.df (by simp), hr2.kp.step kA (by first | (simp; done) | (simp; omega))⟩
          have HL2 := Lib.hid L2
          have HHR3 := Lib.hid hr3
          clear L2 hr3
          gi_wp2
          refine ⟨HL2.out, ?_⟩
          have hr3 := HHR3.out
          clear HHR3
          obtain ⟨W3, hW3⟩ : ∃ W3, W3 = (W2'.alloc (.cells #[.int .i64 9, .int .i64 0, .int .i64 id, .slice Ar k cr] 46)).putObj (S.heap.size + 1) (.loop (rc .busy none)) := ⟨_, rfl⟩
          rw [← hW3] at kA FB3 hr3 ⊢
          clear hW3 FB
          have s23 := kA.size
          have db3 := db2.keep kA (by simp; omega)
          have bk3 := bk2.keep kA (by simp; omega) (fun g hg => by have := (bk2.row.lt g hg).1; simp; omega)
          have cf3 := cf.keep kA (fun g hg => by simp at hg; subst hg; exact ⟨fun h0 ad e => by have := cf.rd.blk_lt h0 ad e; omega, by omega, by omega, by omega, by omega⟩)
          have rr3 := hrow.keep kA (fun g hg => by have := (hrow.lt g hg).1; simp; omega)
          obtain ⟨_, _, er, _, _, hrr3⟩ := rr3.reads
          rw [hPl] at er hrr3
          injection er with er1 er2 er3
          subst er1 er3
          have f0 := FB3.cell 0
          have f1 := FB3.cell 1
          have f2 := FB3.cell 2
          have f3 := FB3.cell 3
          have x3 := (xb7.keep hr3.kp (by first | (simp; done) | (simp; omega))).cell 0
          have B3 := xbB.keep hr3.kp (by simp; omega)
          have B3c := B3.cell 0
          have d3c := db3.cell 0
          have d3f := db3.frozen 0
          simp at f0 f1 f2 f3 x3 B3c d3c
          have hAr : 0 < k → ∀ ad, Ar = some ad → ad.block ≠ bb := fun _ ad e => by have := (hrow.lt ad.block (by rw [e]; rfl)).1; omega
          have Hr3 := Lib.hid hr3
          have HKA := Lib.hid kA
          have HGQ := Lib.hid hgq
          have CF3 := Lib.hid cf3
          have HP := Lib.hid hP
          have hsb : S.heap.size + 3 ≤ W3.heap.size := by omega
          have hA0 : 0 < 3000 → ∀ ad, A = some ad → ad.block < w.heap.size := cf.rd.blk_lt
          clear hP kA hgq hr3 rr3 db2 bk2 FB3 hr2 hrow hrr cf cf3
          have hPP : bsN.take off ++ P = bsN.take (off + k) := by rw [HP.out, List.take_add]
          have HPP := Lib.hid hPP
          clear hPP
          gi_wp2_with (refine ⟨trivial, ?_⟩; gi_at_call 13; refine (CallsIn.inRound _ (callsIn_wide.2 (more_part bk3 hsb cr hrr3 (by rw [List.length_take]; omega)))).mono ?_; rintro e w4 ⟨rfl, v4, b4, k4, m4⟩; rw [HPP.out] at b4; have s34 := k4.size;have d4 := db3.keep k4 (fun hx => by rcases List.mem_cons.1 hx with hx | hx; omega; have := (bk3.row.lt _ (by simpa using hx)).1; omega);have d4f := d4.frozen 0;have d4c := d4.cell 0;have d5 := d4.set_ 0 (.bool false);have kd : Keep [bb + 1 + 1] w4 (w4.setCell ⟨bb + 1 + 1, 0, none⟩ (.bool false)) := (Keep.refl _ w4).setCell (p := ⟨bb + 1 + 1, 0, none⟩) (.inl (by simp)) _;have B5 := ((B3.keep k4 (fun hx => by rcases List.mem_cons.1 hx with hx | hx; omega; have := (bk3.row.lt _ (by simpa using hx)).1; omega)).keep kd (by simp; omega)).cell 0;simp at d4c B5)
          have hl := HL.out
          have hjo := HJO.out
          have b5 := b4.keep kd (by simp; omega) (fun g hg => by simp; rintro rfl; exact row_off_blk b4.row d4 (by decide) hg)
          have kS4 : Keep [bb, bb + 1 + 1] S (w4.setCell ⟨bb + 1 + 1, 0, none⟩ (.bool false)) := ((Hr3.out.kp).step k4 (fun g hg => by
            rcases List.mem_cons.1 hg with rfl | hg
            · exact .inl (by simp)
            · have := (bk3.row.lt g (by simpa using hg)).1
              exact .inr (by omega))).step kd (by simp)
          have hgrow : ∀ i, i ≤ S.heap.size + 1 + 1 → i ∉ [bb, bb + 1 + 1] → i < W3.heap.size → (w4.setCell ⟨bb + 1 + 1, 0, none⟩ (.bool false)).heap[i]? = W3.heap[i]? := fun i hi hn hl => (kd.block i (by omega) (by simp at hn ⊢; omega)).trans (k4.block i hl (fun hx => by
            rcases List.mem_cons.1 hx with rfl | hx
            · simp at hn
            · have := (bk3.row.lt i (by simpa using hx)).1; omega))
          obtain ⟨W5, hW5⟩ : ∃ W5, W5 = w4.setCell ⟨bb + 1 + 1, 0, none⟩ (.bool false) := ⟨_, rfl⟩
          rw [← hW5] at b5 kS4 hgrow d5 ⊢
          clear hW5
          have hl3 := (Array.getElem?_eq_some_iff.1 Hr3.out.rc).1
          have rc5 : W5.heap[S.heap.size + 1]? = some (.loop (rc .busy none)) := (hgrow _ (by omega) (by simp; omega) hl3).trans Hr3.out.rc
          have df5 : W5.heap[S.heap.size]? = some (.deferred (some [])) := (hgrow _ (by omega) (by simp; omega) (by omega)).trans Hr3.out.df
          have rs5 : Rest S W5 [bb, bb + 1 + 1] (.loop (rc .busy none)) := ⟨rc5, df5, kS4⟩
          have c5b : ∀ {g t cs}, Blk W3 g t cs → g < S.heap.size → g ≠ bb → g ≠ bb + 1 + 1 → Blk W5 g t cs := fun h1 h2 h3 h4 => (hgrow _ (by omega) (by simp; omega) h1.lt).trans h1
          have CF5 : CF w.heap.size W5 (bb + 1 + 1 + 1) (bb + 1 + 1 + 1 + 1) (bb + 1 + 1 + 1 + 1 + 1) (bb + 1 + 1 + 1 + 1 + 1 + 1) id en A 3000 c mo bsN := ⟨c5b CF3.out.b1 (by omega) (by omega) (by omega), c5b CF3.out.b2 (by omega) (by omega) (by omega), c5b CF3.out.b3 (by omega) (by omega) (by omega), c5b CF3.out.b4 (by omega) (by omega) (by omega), cfS.kept kS4 (by omega) (fun h0 ad e => by have := hA0 h0 ad e; simp; omega), by have := kS4.size; omega⟩
          have kz : Keep [S.heap.size + 1] W5 (W5.putObj (S.heap.size + 1) (.loop (rc .ready none))) := (Keep.refl _ _).putObj (.inl (by simp)) _
          have d6 := d5.keep kz (by simp; omega)
          have b6 := b5.keep kz (by simp; omega) (fun g hg => by have := (b5.row.lt g hg).1; simp; omega)
          have CF6 := CF5.keep kz (fun g hg => by simp at hg; subst hg; exact ⟨fun h0 ad e => by have := hA0 h0 ad e; omega, by omega, by omega, by omega, by omega⟩)
          have hgf : (W5.putObj (S.heap.size + 1) (.loop (rc .ready none))).heap[S.heap.size + 1 + 1]? = W2'.heap[S.heap.size + 1 + 1]? := ((World.putObj_heap_other (by omega)).trans (hgrow _ (Nat.le_refl _) (by simp; omega) (by omega))).trans (HKA.out.block _ (by omega) (by simp))
          have FINJ := Lib.hid (show CF w.heap.size (W5.putObj (S.heap.size + 1) (.loop (rc .ready none))) (bb + 1 + 1 + 1) (bb + 1 + 1 + 1 + 1) (bb + 1 + 1 + 1 + 1 + 1) (bb + 1 + 1 + 1 + 1 + 1 + 1) id en A 3000 c mo bsN ∧ Rest S (W5.putObj (S.heap.size + 1) (.loop (rc .ready none))) [bb, bb + 1 + 1] (.loop (rc .ready none)) ∧ _ from ⟨CF6, rs5.put, (by rw [HJD.out]; exact .inr (.inl ⟨by omega, by omega, d6, _, b6⟩) : JD (j + 1 + 1) (off + k) (W5.putObj (S.heap.size + 1) (.loop (rc .ready none))))⟩)
          exact ⟨rc5, hgf, FINJ.out⟩
    case fin =>
      rintro e W' ⟨⟨vr, rfl⟩, h⟩
      obtain ⟨j, hc, hr, hd⟩ := h.resolve_right (fun h => h)
      have hd' : Blk W' (bb + 1 + 1) 4 #[.bool true] ∧ ∃ i v, Bk W' (S.heap.size + 3) bb 52 i false en v [] := by
        rw [HJD.out] at hd
        rcases hd with ⟨h, _⟩ | ⟨_, h, _⟩ | ⟨_, _, h1, h2⟩
        · omega
        · omega
        · exact ⟨h1, h2⟩
      obtain ⟨hdb, i, v, hbk⟩ := hd'
      clear hd h hc
      refine ⟨_, .ready, none, rfl, by simp, hr.rc, ?_⟩
      have hr2 := hr.put (o' := .loop (rc .exhausted none))
      have kp : Keep [S.heap.size + 1] W' (W'.putObj (S.heap.size + 1) (.loop (rc .exhausted none))) := (Keep.refl _ W').putObj (.inl (by simp)) _
      have db2 := hdb.keep kp (by simp; omega)
      have bk2 := hbk.keep kp (by simp; omega) (fun g hg => by have := (hbk.row.lt g hg).1; simp; omega)
      obtain ⟨W5, hW5⟩ : ∃ W5, W5 = W'.putObj (S.heap.size + 1) (.loop (rc .exhausted none)) := ⟨_, rfl⟩
      simp only [← hW5] at hr2 db2 bk2 ⊢
      clear hW5 hW1 hrc hr hdb hbk kp KB q1 q2
      have d5 := db2.cell 0
      have x5 := (xb7.keep hr2.kp (by first | (simp; done) | (simp; omega))).cell 0
      have R5 := R7.keep hr2.kp (by simp; omega)
      have R5c := R5.cell 0
      have R5f := R5.frozen 0
      simp at d5 x5 R5c
      have z6 := ((R5.set_ 0 (.bool true)).keep ((Keep.refl [S.heap.size] _).putObj (l := S.heap.size) (.inl (by simp)) (.deferred none)) (by simp; omega)).cell 0
      simp at z6
      have hdf6 : (W5.setCell ⟨w.heap.size + 1, 0, none⟩ (.bool true)).heap[S.heap.size]? = some (.deferred (some [])) := (Below.heap_setCell W5 ⟨w.heap.size + 1, 0, none⟩ _ _ (by simp; omega)).trans hr2.df
      have Hdf6 := Lib.hid hdf6
      have KF := Lib.hid ((((KW.step hr2.kp (by simp; omega)).setCell (p := ⟨w.heap.size + 1, 0, none⟩) (.inr (by simp)) (.bool true)).putObj (l := S.heap.size) (.inr (by omega)) (.deferred none)).below (Nat.le_refl _) (by simp))
      clear hdf6 hr2 KW R5 R7 B7 xb7 xbB e0 e1 e2 e3 e4 e5 e6 cfS db2
      go_wp2_with (first
        | (go_at_call 16; apply (isend_ bk2).mono; rintro e w9 ⟨rfl, rfl⟩)
        | (go_at_call 17; apply (held_ bk2).mono; rintro e w9 ⟨rfl, rfl⟩))
      all_goals
        refine ⟨by simp, .inl ⟨_, _, rfl, run_takeDeferred Hdf6.out, ?_⟩⟩
        exact ⟨.bool true, by simp [results, Try.results5, go_sem, z6], rfl, KF.out⟩
  · have hbig : ¬ (3000 : Int) < (n : Int) := by omega
    obtain ⟨bsN, hbsE⟩ : ∃ bsN, bsN = bs := ⟨_, rfl⟩
    have hbsN : bsN.length = n := by rw [hbsE]; exact hbl
    have hrN : Reads w w.heap.size 1 A n (encB bsN) := by rw [hbsE]; exact Hrd.out
    clear hbsE
    have hn3 : n ≤ 3000 := by omega
    go_wp2_with (first
      | (go_at_call 8; refine (begun _).mono ?_; rintro e w1 ⟨rfl, hb1⟩; have hb1 := Keep.of_below hb1; have z0 := a0.keep hb1 (by simp); have z1 := a1.keep hb1 (by simp); have z0c := z0.cell 0; have z0f := z0.frozen 0; have z1c := z1.cell 0; have z1f := z1.frozen 0; simp at z0c z1c)
      | (go_at_call 9; refine (new_ _).mono ?_; rintro e w' ⟨rfl, rfl⟩; have Z0 := z0; have Z1 := z1; have Kb : Keep [] w w1 := ka.trans hb1; obtain ⟨wa, hwa⟩ : ∃ wa, wa = w1 := ⟨_, rfl⟩; rw [← hwa] at Z0 Z1 Kb; rw [← hwa]; have z0a := Z0; have z1a := Z1; have Ka := Kb; clear hwa Z0 Z1 Kb z0c z1c z0f z1f z0 z1; have z0ac := (z0a.alloc (.cells #[.int .i64 0, .bool false, .bool false, .slice none 0 0] 52)).cell 0; simp at z0ac; have z0ad := ((z0a.alloc (.cells #[.int .i64 0, .bool false, .bool false, .slice none 0 0] 52)).alloc (.cells #[.pointer (some ⟨wa.heap.size, 0, none⟩)] 24)).alloc (.cells #[.bool false] 4) |>.cell 0; simp at z0ad)
      | (go_at_call 19; refine (cut_ _ id en A n c most mo HMO.out).mono ?_; rintro e w' ⟨rfl, rfl⟩; clear z0ac z0ad))
    have e0 := Blk.new wa 52 #[.int .i64 0, .bool false, .bool false, .slice none 0 0]
    have e1 := Blk.new (wa.alloc (.cells #[.int .i64 0, .bool false, .bool false, .slice none 0 0] 52)) 24 #[.pointer (some ⟨wa.heap.size, 0, none⟩)]
    have e2 := Blk.new ((wa.alloc (.cells #[.int .i64 0, .bool false, .bool false, .slice none 0 0] 52)).alloc (.cells #[.pointer (some ⟨wa.heap.size, 0, none⟩)] 24)) 4 #[.bool false]
    have e3 := Blk.new (((wa.alloc (.cells #[.int .i64 0, .bool false, .bool false, .slice none 0 0] 52)).alloc (.cells #[.pointer (some ⟨wa.heap.size, 0, none⟩)] 24)).alloc (.cells #[.bool false] 4)) 3 #[.int .i64 id]
    have e4 := Blk.new ((((wa.alloc (.cells #[.int .i64 0, .bool false, .bool false, .slice none 0 0] 52)).alloc (.cells #[.pointer (some ⟨wa.heap.size, 0, none⟩)] 24)).alloc (.cells #[.bool false] 4)).alloc (.cells #[.int .i64 id] 3)) 4 #[.bool en]
    have e5 := Blk.new (((((wa.alloc (.cells #[.int .i64 0, .bool false, .bool false, .slice none 0 0] 52)).alloc (.cells #[.pointer (some ⟨wa.heap.size, 0, none⟩)] 24)).alloc (.cells #[.bool false] 4)).alloc (.cells #[.int .i64 id] 3)).alloc (.cells #[.bool en] 4)) 27 #[.slice A n c]
    have e6 := Blk.new ((((((wa.alloc (.cells #[.int .i64 0, .bool false, .bool false, .slice none 0 0] 52)).alloc (.cells #[.pointer (some ⟨wa.heap.size, 0, none⟩)] 24)).alloc (.cells #[.bool false] 4)).alloc (.cells #[.int .i64 id] 3)).alloc (.cells #[.bool en] 4)).alloc (.cells #[.slice A n c] 27)) 3 #[.int .i64 mo]
    simp only [World.size_alloc] at e0 e1 e2 e3 e4 e5 e6
    have e0 := ((((((e0.alloc (.cells #[.pointer (some ⟨wa.heap.size, 0, none⟩)] 24)).alloc (.cells #[.bool false] 4)).alloc (.cells #[.int .i64 id] 3)).alloc (.cells #[.bool en] 4)).alloc (.cells #[.slice A n c] 27)).alloc (.cells #[.int .i64 mo] 3))
    have e1 := (((((e1.alloc (.cells #[.bool false] 4)).alloc (.cells #[.int .i64 id] 3)).alloc (.cells #[.bool en] 4)).alloc (.cells #[.slice A n c] 27)).alloc (.cells #[.int .i64 mo] 3))
    have e2 := ((((e2.alloc (.cells #[.int .i64 id] 3)).alloc (.cells #[.bool en] 4)).alloc (.cells #[.slice A n c] 27)).alloc (.cells #[.int .i64 mo] 3))
    have e3 := (((e3.alloc (.cells #[.bool en] 4)).alloc (.cells #[.slice A n c] 27)).alloc (.cells #[.int .i64 mo] 3))
    have e4 := ((e4.alloc (.cells #[.slice A n c] 27)).alloc (.cells #[.int .i64 mo] 3))
    have e5 := (e5.alloc (.cells #[.int .i64 mo] 3))
    have KS : Keep [] wa (((((((wa.alloc (.cells #[.int .i64 0, .bool false, .bool false, .slice none 0 0] 52)).alloc (.cells #[.pointer (some ⟨wa.heap.size, 0, none⟩)] 24)).alloc (.cells #[.bool false] 4)).alloc (.cells #[.int .i64 id] 3)).alloc (.cells #[.bool en] 4)).alloc (.cells #[.slice A n c] 27)).alloc (.cells #[.int .i64 mo] 3)) := (((((((Keep.refl [] wa).alloc _).alloc _).alloc _).alloc _).alloc _).alloc _).alloc _
    obtain ⟨S, hS⟩ : ∃ S, S = (((((((wa.alloc (.cells #[.int .i64 0, .bool false, .bool false, .slice none 0 0] 52)).alloc (.cells #[.pointer (some ⟨wa.heap.size, 0, none⟩)] 24)).alloc (.cells #[.bool false] 4)).alloc (.cells #[.int .i64 id] 3)).alloc (.cells #[.bool en] 4)).alloc (.cells #[.slice A n c] 27)).alloc (.cells #[.int .i64 mo] 3)) := ⟨_, rfl⟩
    have szS : wa.heap.size + 7 ≤ S.heap.size := by rw [hS]; simp
    rw [← hS] at e0 e1 e2 e3 e4 e5 e6 KS ⊢
    clear hS
    have B7 := z0a.keep KS (by simp)
    have R7 := z1a.keep KS (by simp)
    have KW := Ka.trans KS
    have cfS := hrN.keeps KW (Nat.le_refl _) (by simp)
    have sza := Ka.size
    have szr1 := z1a.lt
    obtain ⟨bb, hbb⟩ : ∃ bb, bb = wa.heap.size := ⟨_, rfl⟩
    rw [← hbb] at e0 e1 e2 e3 e4 e5 e6 szS sza szr1 ⊢
    have Hbb := Lib.hid hbb
    clear hbb KS z0a z1a Ka
    have xb7 := e1
    have xbB := B7
    refine rng_stmt' (n := 5) (gf := 23) (lb := #[.pointer (some ⟨bb + 1 + 1 + 1, 0, none⟩), .pointer (some ⟨bb + 1 + 1 + 1 + 1, 0, none⟩), .pointer (some ⟨bb + 1 + 1 + 1 + 1 + 1, 0, none⟩), .pointer (some ⟨bb + 1 + 1 + 1 + 1 + 1 + 1, 0, none⟩)]) (by first | rfl | simp) (enters_of Try.func23 (by kernel_rfl) rfl) ?_
    intro rc hrc W1 hW1
    have szW1 : W1.heap.size = S.heap.size + 1 + 1 := by rw [hW1]; simp
    have KB : Keep [] S W1 := by rw [hW1]; exact ((Keep.refl [] S).alloc _).alloc _
    have q1 : W1.heap[S.heap.size + 1]? = some (.loop (rc .ready none)) := by rw [hW1]; have := heap_alloc_new (S.alloc (.deferred (some []))) (.loop (rc .ready none)); simpa using this
    have q2 : W1.heap[S.heap.size]? = some (.deferred (some [])) := by rw [hW1]; exact (Below.heap_alloc _ _ _ (by simp)).trans (heap_alloc_new S (.deferred (some [])))
    obtain ⟨JD, hJD⟩ : ∃ JD : Nat → Nat → World → Prop, JD = fun j off W => ((j = 0 ∧ off = 0 ∧ Blk W (bb + 1 + 1) 4 #[.bool false] ∧ Bk W (S.heap.size + 3) bb 52 0 false false (.slice none 0 0) []) ∨ (1 ≤ j ∧ off < n ∧ Blk W (bb + 1 + 1) 4 #[.bool false] ∧ ∃ v, Bk W (S.heap.size + 3) bb 52 id true en v (bsN.take off)) ∨ (1 ≤ j ∧ off = n ∧ Blk W (bb + 1 + 1) 4 #[.bool true] ∧ ∃ i v, Bk W (S.heap.size + 3) bb 52 i false en v [])) := ⟨_, rfl⟩
    have HJD := Lib.hid hJD
    clear hJD
    refine (cutIt (m := 4) (s := w.heap.size) (c1 := bb + 1 + 1 + 1) (c2 := bb + 1 + 1 + 1 + 1) (c3 := bb + 1 + 1 + 1 + 1 + 1) (c4 := bb + 1 + 1 + 1 + 1 + 1 + 1) (id := id) (en := en) (A := A) (n := n) (c := c) (mo := mo) (bs := bsN) ⟨by omega, by omega⟩ hmo1 hmo2 hbsN (by omega) (by omega) (by omega)
      (fun j off W => CF w.heap.size W (bb + 1 + 1 + 1) (bb + 1 + 1 + 1 + 1) (bb + 1 + 1 + 1 + 1 + 1) (bb + 1 + 1 + 1 + 1 + 1 + 1) id en A n c mo bsN ∧ Rest S W [bb, bb + 1 + 1] (.loop (rc .ready none)) ∧ JD j off W)
      (fun _ => False) (fun j off W h => h.1) W1 ?hst ?round (by omega) (by omega) (by omega) (by omega) ?start).mono ?fin
    case hst =>
      rintro j off W W' ⟨hc, hr, hd⟩ k
      rw [szW1] at k
      refine ⟨hc.keep k (fun g hg => by simp at hg; subst hg; exact ⟨fun h0 ad e => by have := hc.rd.blk_lt h0 ad e; omega, by omega, by omega, by omega, by omega⟩), hr.go k (by simp; omega) (by simp) (by simp; omega), ?_⟩
      rw [HJD.out] at hd ⊢
      rcases hd with ⟨x1, x2, x3, x4⟩ | ⟨x1, x2, x3, v, x4⟩ | ⟨x1, x2, x3, i, v, x4⟩
      · exact .inl ⟨x1, x2, x3.keep k (by simp; omega), x4.keep k (by simp; omega) (by simp [rowBlk])⟩
      · exact .inr (.inl ⟨x1, x2, x3.keep k (by simp; omega), v, x4.keep k (by simp; omega) (fun g hg => by have := (x4.row.lt g hg).1; simp; omega)⟩)
      · exact .inr (.inr ⟨x1, x2, x3.keep k (by simp; omega), i, v, x4.keep k (by simp; omega) (fun g hg => by have := (x4.row.lt g hg).1; simp; omega)⟩)
    case start =>
      refine ⟨⟨e3.keep KB (by simp), e4.keep KB (by simp), e5.keep KB (by simp), e6.keep KB (by simp), cfS.keeps KB (by omega) (by simp), by omega⟩, ⟨q1, q2, KB.more (by simp)⟩, ?_⟩
      rw [HJD.out]
      exact .inl ⟨rfl, rfl, e2.keep KB (by simp), ⟨e0.keep KB (by simp), Row1.nil _ _ _⟩⟩
    case round =>
      rintro j off W k ⟨hc, hr, hd⟩ hjo hj0 hoff hk' hsz W2' r kk cf hrow
      rw [szW1] at hsz kk ⊢
      clear hc KB q1 q2 e0 e1 e2 e3 e4 e5 e6
      have hkk2 := kk.size
      have hkN : off + k ≤ n := by omega
      have hkm : k ≤ 3000 := by omega
      clear hk'
      by_cases hl : off + k = n
      · rcases Nat.eq_zero_or_pos j with rfl | hjp
        · have hd' : Blk W (bb + 1 + 1) 4 #[.bool false] ∧ Bk W (S.heap.size + 3) bb 52 0 false false (.slice none 0 0) [] := by
            rw [HJD.out] at hd
            rcases hd with ⟨_, _, h1, h2⟩ | ⟨h, _⟩ | ⟨h, _⟩
            · exact ⟨h1, h2⟩
            · omega
            · omega
          obtain ⟨hdb, hbk⟩ := hd'
          clear hd
          cases en
          · obtain rfl : off = 0 := hj0 rfl
            obtain ⟨P, hP⟩ : ∃ P, P = (bsN.drop 0).take k := ⟨_, rfl⟩
            rw [← hP] at hrow
            have hPl : (encB P).length = k := by rw [encB_len, hP, List.length_take, List.length_drop, hbsN]; omega
            obtain ⟨Ar, cr, hre, _, _, hrr⟩ := hrow.reads
            rw [hPl] at hre hrr
            subst hre
            have hPfull : P = bsN := by rw [hP, List.drop_zero]; exact List.take_of_length_le (by omega)
            have hfr : YieldAt Fence.wide 4 Try.prog (S.heap.size + 1) #[.agg #[.int .i64 1, .int .i64 4, .int .i64 id, .slice Ar k cr]] W2' = YieldAt Fence.wide 4 Try.prog (S.heap.size + 1) #[.agg #[.int .i64 (typF 0), .int .i64 (flgF 0 false (decide (0 + k = n))), .int .i64 id, .slice Ar k cr]] W2' := by rw [show decide (0 + k = n) = true by simp; omega]; rfl
            rw [← hfr]
            clear hfr
            have hr2 := hr.go kk (by simp; omega) (by simp) (by simp; omega)
            have L2 : (W2'.alloc (.cells #[.int .i64 1, .int .i64 4, .int .i64 id, .slice Ar k cr] 46)).heap[S.heap.size + 1]? = some (.loop (rc .ready none)) := (Below.heap_alloc W2' _ _ (Array.getElem?_eq_some_iff.1 hr2.rc).1).trans hr2.rc
            have hgq : ∀ w9, Keep [S.heap.size + 1, bb, bb + 1 + 1] W2' w9 → w9.heap[S.heap.size + 1 + 1]? = W2'.heap[S.heap.size + 1 + 1]? := fun w9 k9 => k9.block _ (by omega) (by simp; omega)
            have db2 := hdb.keep kk (by simp; omega)
            have bk2 := hbk.keep kk (by simp; omega) (fun g hg => by have := (hbk.row.lt g hg).1; simp; omega)
            refine rng_round' hrc hr2.rc rfl ?_
            clear hrc hW1
            have HL := Lib.hid hl
            have HJO := Lib.hid hjo
            have HJ0 := Lib.hid hj0
            clear hl hjo hj0
            have FB := Blk.new W2' 46 #[.int .i64 1, .int .i64 4, .int .i64 id, .slice Ar k cr]
            have kA : Keep [S.heap.size + 1] W2' ((W2'.alloc (.cells #[.int .i64 1, .int .i64 4, .int .i64 id, .slice Ar k cr] 46)).putObj (S.heap.size + 1) (.loop (rc .busy none))) := ((Keep.refl _ W2').alloc _).putObj (l := S.heap.size + 1) (.inl (by simp)) _
            have FB3 := FB.keep ((Keep.refl [S.heap.size + 1] (W2'.alloc (.cells #[.int .i64 1, .int .i64 4, .int .i64 id, .slice Ar k cr] 46))).putObj (l := S.heap.size + 1) (.inl (by simp)) (.loop (rc .busy none))) (by simp; omega)
            have hr3 : Rest S ((W2'.alloc (.cells #[.int .i64 1, .int .i64 4, .int .i64 id, .slice Ar k cr] 46)).putObj (S.heap.size + 1) (.loop (rc .busy none))) [bb, bb + 1 + 1] (.loop (rc .busy none)) := ⟨put_heap (Array.getElem?_eq_some_iff.1 L2).1, kA.heap hr2.df (by simp), hr2.kp.step kA (by first | (simp; done) | (simp; omega))⟩
            have HL2 := Lib.hid L2
            have HHR3 := Lib.hid hr3
            clear L2 hr3
            gi_wp2
            refine ⟨HL2.out, ?_⟩
            have hr3 := HHR3.out
            clear HHR3
            obtain ⟨W3, hW3⟩ : ∃ W3, W3 = (W2'.alloc (.cells #[.int .i64 1, .int .i64 4, .int .i64 id, .slice Ar k cr] 46)).putObj (S.heap.size + 1) (.loop (rc .busy none)) := ⟨_, rfl⟩
            rw [← hW3] at kA FB3 hr3 ⊢
            clear hW3 FB
            have s23 := kA.size
            have db3 := db2.keep kA (by simp; omega)
            have bk3 := bk2.keep kA (by simp; omega) (fun g hg => by have := (bk2.row.lt g hg).1; simp; omega)
            have cf3 := cf.keep kA (fun g hg => by simp at hg; subst hg; exact ⟨fun h0 ad e => by have := cf.rd.blk_lt h0 ad e; omega, by omega, by omega, by omega, by omega⟩)
            have rr3 := hrow.keep kA (fun g hg => by have := (hrow.lt g hg).1; simp; omega)
            obtain ⟨_, _, er, _, _, hrr3⟩ := rr3.reads
            rw [hPl] at er hrr3
            injection er with er1 er2 er3
            subst er1 er3
            have f0 := FB3.cell 0
            have f1 := FB3.cell 1
            have f2 := FB3.cell 2
            have f3 := FB3.cell 3
            have x3 := (xb7.keep hr3.kp (by first | (simp; done) | (simp; omega))).cell 0
            have B3 := xbB.keep hr3.kp (by simp; omega)
            have B3c := B3.cell 0
            have d3c := db3.cell 0
            have d3f := db3.frozen 0
            simp at f0 f1 f2 f3 x3 B3c d3c
            have hAr : 0 < k → ∀ ad, Ar = some ad → ad.block ≠ bb := fun _ ad e => by have := (hrow.lt ad.block (by rw [e]; rfl)).1; omega
            have Hr3 := Lib.hid hr3
            have HKA := Lib.hid kA
            have HGQ := Lib.hid hgq
            have CF3 := Lib.hid cf3
            have HP := Lib.hid hP
            have HPF := Lib.hid hPfull
            clear hPfull
            have hsb : S.heap.size + 3 ≤ W3.heap.size := by omega
            have hA0 : 0 < n → ∀ ad, A = some ad → ad.block < w.heap.size := cf.rd.blk_lt
            clear hP kA hgq hr3 rr3 db2 bk2 FB3 hr2 hrow hrr cf cf3
            gi_wp2_with (refine ⟨trivial, ?_⟩; gi_at_call 11; refine (CallsIn.inRound _ (callsIn_wide.2 (start_whole bk3 id false cr (by omega) hrr3 (by omega) hAr))).mono ?_; rintro e w4 ⟨r4, rfl, hr4, b4, k4⟩; rw [HPF.out] at hr4; have s34 := k4.size;have d4 := db3.keep k4 (by simp; omega);have d4f := d4.frozen 0;have d4c := d4.cell 0;have d5 := d4.set_ 0 (.bool true);have kd : Keep [bb + 1 + 1] w4 (w4.setCell ⟨bb + 1 + 1, 0, none⟩ (.bool true)) := (Keep.refl _ w4).setCell (p := ⟨bb + 1 + 1, 0, none⟩) (.inl (by simp)) _;have B5 := ((B3.keep k4 (by simp; omega)).keep kd (by simp; omega)).cell 0;simp at d4c B5;have ra5 := (CF3.out.rd.kept k4 (by have := CF3.out.sz; omega) (fun h0 ad e => by have := hA0 h0 ad e; simp; omega)).kept kd (by have := CF3.out.sz; omega) (fun h0 ad e => by have := hA0 h0 ad e; simp; omega);have ro5 := hr4.keep kd (fun g hg => by simp; rintro rfl; exact row_off_blk hr4 d4 (by decide) hg);obtain ⟨Ao, co, rfl, _, _, hro⟩ := ro5.reads;have st1 := str_of (c := co) (src := 27) (dst := 9) Try.underlying27 Try.underlying5 Try.underlying9 hro;have st2 := str_of (c := c) (src := 27) (dst := 9) Try.underlying27 Try.underlying5 Try.underlying9 ra5)
            have hl := HL.out
            have hjo := HJO.out
            have b5 := b4.keep kd (by simp; omega) (fun g hg => by simp; rintro rfl; exact row_off_blk b4.row d4 (by decide) hg)
            have k4' : Keep [bb, bb + 1 + 1] W3 (w4.setCell ⟨bb + 1 + 1, 0, none⟩ (.bool true)) := (k4.more (by simp)).trans (kd.more (by simp))
            have kS4 : Keep [bb, bb + 1 + 1] S (w4.setCell ⟨bb + 1 + 1, 0, none⟩ (.bool true)) := Hr3.out.kp.trans k4'
            have hgrow : ∀ i, i ≤ S.heap.size + 1 + 1 → i ∉ [bb, bb + 1 + 1] → i < W3.heap.size → (w4.setCell ⟨bb + 1 + 1, 0, none⟩ (.bool true)).heap[i]? = W3.heap[i]? := fun i _ hn hl => k4'.block i hl hn
            obtain ⟨W5, hW5⟩ : ∃ W5, W5 = w4.setCell ⟨bb + 1 + 1, 0, none⟩ (.bool true) := ⟨_, rfl⟩
            rw [← hW5] at b5 kS4 hgrow d5 ⊢
            clear hW5
            have hl3 := (Array.getElem?_eq_some_iff.1 Hr3.out.rc).1
            have rc5 : W5.heap[S.heap.size + 1]? = some (.loop (rc .busy none)) := (hgrow _ (by omega) (by simp; omega) hl3).trans Hr3.out.rc
            have df5 : W5.heap[S.heap.size]? = some (.deferred (some [])) := (hgrow _ (by omega) (by simp; omega) (by omega)).trans Hr3.out.df
            have rs5 : Rest S W5 [bb, bb + 1 + 1] (.loop (rc .busy none)) := ⟨rc5, df5, kS4⟩
            have c5b : ∀ {g t cs}, Blk W3 g t cs → g < S.heap.size → g ≠ bb → g ≠ bb + 1 + 1 → Blk W5 g t cs := fun h1 h2 h3 h4 => (hgrow _ (by omega) (by simp; omega) h1.lt).trans h1
            have CF5 : CF w.heap.size W5 (bb + 1 + 1 + 1) (bb + 1 + 1 + 1 + 1) (bb + 1 + 1 + 1 + 1 + 1) (bb + 1 + 1 + 1 + 1 + 1 + 1) id false A n c mo bsN := ⟨c5b CF3.out.b1 (by omega) (by omega) (by omega), c5b CF3.out.b2 (by omega) (by omega) (by omega), c5b CF3.out.b3 (by omega) (by omega) (by omega), c5b CF3.out.b4 (by omega) (by omega) (by omega), cfS.kept kS4 (by omega) (fun h0 ad e => by have := hA0 h0 ad e; simp; omega), by have := kS4.size; omega⟩
            have kz : Keep [S.heap.size + 1] W5 (W5.putObj (S.heap.size + 1) (.loop (rc .ready none))) := (Keep.refl _ _).putObj (.inl (by simp)) _
            have d6 := d5.keep kz (by simp; omega)
            have b6 := b5.keep kz (by simp; omega) (fun g hg => by have := (b5.row.lt g hg).1; simp; omega)
            have CF6 := CF5.keep kz (fun g hg => by simp at hg; subst hg; exact ⟨fun h0 ad e => by have := hA0 h0 ad e; omega, by omega, by omega, by omega, by omega⟩)
            have hgf : (W5.putObj (S.heap.size + 1) (.loop (rc .ready none))).heap[S.heap.size + 1 + 1]? = W2'.heap[S.heap.size + 1 + 1]? := ((World.putObj_heap_other (by omega)).trans (hgrow _ (Nat.le_refl _) (by simp; omega) (by omega))).trans (HKA.out.block _ (by omega) (by simp))
            have FINJ := Lib.hid (show CF w.heap.size (W5.putObj (S.heap.size + 1) (.loop (rc .ready none))) (bb + 1 + 1 + 1) (bb + 1 + 1 + 1 + 1) (bb + 1 + 1 + 1 + 1 + 1) (bb + 1 + 1 + 1 + 1 + 1 + 1) id false A n c mo bsN ∧ Rest S (W5.putObj (S.heap.size + 1) (.loop (rc .ready none))) [bb, bb + 1 + 1] (.loop (rc .ready none)) ∧ _ from ⟨CF6, rs5.put, (by rw [HJD.out]; exact .inr (.inr ⟨by omega, by omega, d6, _, _, b6⟩) : JD 1 k (W5.putObj (S.heap.size + 1) (.loop (rc .ready none))))⟩)
            exact ⟨rc5, hgf, FINJ.out⟩
          · obtain rfl : off = 0 := hj0 rfl
            obtain ⟨P, hP⟩ : ∃ P, P = (bsN.drop 0).take k := ⟨_, rfl⟩
            rw [← hP] at hrow
            have hPl : (encB P).length = k := by rw [encB_len, hP, List.length_take, List.length_drop, hbsN]; omega
            obtain ⟨Ar, cr, hre, _, _, hrr⟩ := hrow.reads
            rw [hPl] at hre hrr
            subst hre
            have hPfull : P = bsN := by rw [hP, List.drop_zero]; exact List.take_of_length_le (by omega)
            have hfr : YieldAt Fence.wide 4 Try.prog (S.heap.size + 1) #[.agg #[.int .i64 1, .int .i64 5, .int .i64 id, .slice Ar k cr]] W2' = YieldAt Fence.wide 4 Try.prog (S.heap.size + 1) #[.agg #[.int .i64 (typF 0), .int .i64 (flgF 0 true (decide (0 + k = n))), .int .i64 id, .slice Ar k cr]] W2' := by rw [show decide (0 + k = n) = true by simp; omega]; rfl
            rw [← hfr]
            clear hfr
            have hr2 := hr.go kk (by simp; omega) (by simp) (by simp; omega)
            have L2 : (W2'.alloc (.cells #[.int .i64 1, .int .i64 5, .int .i64 id, .slice Ar k cr] 46)).heap[S.heap.size + 1]? = some (.loop (rc .ready none)) := (Below.heap_alloc W2' _ _ (Array.getElem?_eq_some_iff.1 hr2.rc).1).trans hr2.rc
            have hgq : ∀ w9, Keep [S.heap.size + 1, bb, bb + 1 + 1] W2' w9 → w9.heap[S.heap.size + 1 + 1]? = W2'.heap[S.heap.size + 1 + 1]? := fun w9 k9 => k9.block _ (by omega) (by simp; omega)
            have db2 := hdb.keep kk (by simp; omega)
            have bk2 := hbk.keep kk (by simp; omega) (fun g hg => by have := (hbk.row.lt g hg).1; simp; omega)
            refine rng_round' hrc hr2.rc rfl ?_
            clear hrc hW1
            have HL := Lib.hid hl
            have HJO := Lib.hid hjo
            have HJ0 := Lib.hid hj0
            clear hl hjo hj0
            have FB := Blk.new W2' 46 #[.int .i64 1, .int .i64 5, .int .i64 id, .slice Ar k cr]
            have kA : Keep [S.heap.size + 1] W2' ((W2'.alloc (.cells #[.int .i64 1, .int .i64 5, .int .i64 id, .slice Ar k cr] 46)).putObj (S.heap.size + 1) (.loop (rc .busy none))) := ((Keep.refl _ W2').alloc _).putObj (l := S.heap.size + 1) (.inl (by simp)) _
            have FB3 := FB.keep ((Keep.refl [S.heap.size + 1] (W2'.alloc (.cells #[.int .i64 1, .int .i64 5, .int .i64 id, .slice Ar k cr] 46))).putObj (l := S.heap.size + 1) (.inl (by simp)) (.loop (rc .busy none))) (by simp; omega)
            have hr3 : Rest S ((W2'.alloc (.cells #[.int .i64 1, .int .i64 5, .int .i64 id, .slice Ar k cr] 46)).putObj (S.heap.size + 1) (.loop (rc .busy none))) [bb, bb + 1 + 1] (.loop (rc .busy none)) := ⟨put_heap (Array.getElem?_eq_some_iff.1 L2).1, kA.heap hr2.df (by simp), hr2.kp.step kA (by first | (simp; done) | (simp; omega))⟩
            have HL2 := Lib.hid L2
            have HHR3 := Lib.hid hr3
            clear L2 hr3
            gi_wp2
            refine ⟨HL2.out, ?_⟩
            have hr3 := HHR3.out
            clear HHR3
            obtain ⟨W3, hW3⟩ : ∃ W3, W3 = (W2'.alloc (.cells #[.int .i64 1, .int .i64 5, .int .i64 id, .slice Ar k cr] 46)).putObj (S.heap.size + 1) (.loop (rc .busy none)) := ⟨_, rfl⟩
            rw [← hW3] at kA FB3 hr3 ⊢
            clear hW3 FB
            have s23 := kA.size
            have db3 := db2.keep kA (by simp; omega)
            have bk3 := bk2.keep kA (by simp; omega) (fun g hg => by have := (bk2.row.lt g hg).1; simp; omega)
            have cf3 := cf.keep kA (fun g hg => by simp at hg; subst hg; exact ⟨fun h0 ad e => by have := cf.rd.blk_lt h0 ad e; omega, by omega, by omega, by omega, by omega⟩)
            have rr3 := hrow.keep kA (fun g hg => by have := (hrow.lt g hg).1; simp; omega)
            obtain ⟨_, _, er, _, _, hrr3⟩ := rr3.reads
            rw [hPl] at er hrr3
            injection er with er1 er2 er3
            subst er1 er3
            have f0 := FB3.cell 0
            have f1 := FB3.cell 1
            have f2 := FB3.cell 2
            have f3 := FB3.cell 3
            have x3 := (xb7.keep hr3.kp (by first | (simp; done) | (simp; omega))).cell 0
            have B3 := xbB.keep hr3.kp (by simp; omega)
            have B3c := B3.cell 0
            have d3c := db3.cell 0
            have d3f := db3.frozen 0
            simp at f0 f1 f2 f3 x3 B3c d3c
            have hAr : 0 < k → ∀ ad, Ar = some ad → ad.block ≠ bb := fun _ ad e => by have := (hrow.lt ad.block (by rw [e]; rfl)).1; omega
            have Hr3 := Lib.hid hr3
            have HKA := Lib.hid kA
            have HGQ := Lib.hid hgq
            have CF3 := Lib.hid cf3
            have HP := Lib.hid hP
            have HPF := Lib.hid hPfull
            clear hPfull
            have hsb : S.heap.size + 3 ≤ W3.heap.size := by omega
            have hA0 : 0 < n → ∀ ad, A = some ad → ad.block < w.heap.size := cf.rd.blk_lt
            clear hP kA hgq hr3 rr3 db2 bk2 FB3 hr2 hrow hrr cf cf3
            gi_wp2_with (refine ⟨trivial, ?_⟩; gi_at_call 11; refine (CallsIn.inRound _ (callsIn_wide.2 (start_whole bk3 id true cr (by omega) hrr3 (by omega) hAr))).mono ?_; rintro e w4 ⟨r4, rfl, hr4, b4, k4⟩; rw [HPF.out] at hr4; have s34 := k4.size;have d4 := db3.keep k4 (by simp; omega);have d4f := d4.frozen 0;have d4c := d4.cell 0;have d5 := d4.set_ 0 (.bool true);have kd : Keep [bb + 1 + 1] w4 (w4.setCell ⟨bb + 1 + 1, 0, none⟩ (.bool true)) := (Keep.refl _ w4).setCell (p := ⟨bb + 1 + 1, 0, none⟩) (.inl (by simp)) _;have B5 := ((B3.keep k4 (by simp; omega)).keep kd (by simp; omega)).cell 0;simp at d4c B5;have ra5 := (CF3.out.rd.kept k4 (by have := CF3.out.sz; omega) (fun h0 ad e => by have := hA0 h0 ad e; simp; omega)).kept kd (by have := CF3.out.sz; omega) (fun h0 ad e => by have := hA0 h0 ad e; simp; omega);have ro5 := hr4.keep kd (fun g hg => by simp; rintro rfl; exact row_off_blk hr4 d4 (by decide) hg);obtain ⟨Ao, co, rfl, _, _, hro⟩ := ro5.reads;have st1 := str_of (c := co) (src := 27) (dst := 9) Try.underlying27 Try.underlying5 Try.underlying9 hro;have st2 := str_of (c := c) (src := 27) (dst := 9) Try.underlying27 Try.underlying5 Try.underlying9 ra5)
            have hl := HL.out
            have hjo := HJO.out
            have b5 := b4.keep kd (by simp; omega) (fun g hg => by simp; rintro rfl; exact row_off_blk b4.row d4 (by decide) hg)
            have k4' : Keep [bb, bb + 1 + 1] W3 (w4.setCell ⟨bb + 1 + 1, 0, none⟩ (.bool true)) := (k4.more (by simp)).trans (kd.more (by simp))
            have kS4 : Keep [bb, bb + 1 + 1] S (w4.setCell ⟨bb + 1 + 1, 0, none⟩ (.bool true)) := Hr3.out.kp.trans k4'
            have hgrow : ∀ i, i ≤ S.heap.size + 1 + 1 → i ∉ [bb, bb + 1 + 1] → i < W3.heap.size → (w4.setCell ⟨bb + 1 + 1, 0, none⟩ (.bool true)).heap[i]? = W3.heap[i]? := fun i _ hn hl => k4'.block i hl hn
            obtain ⟨W5, hW5⟩ : ∃ W5, W5 = w4.setCell ⟨bb + 1 + 1, 0, none⟩ (.bool true) := ⟨_, rfl⟩
            rw [← hW5] at b5 kS4 hgrow d5 ⊢
            clear hW5
            have hl3 := (Array.getElem?_eq_some_iff.1 Hr3.out.rc).1
            have rc5 : W5.heap[S.heap.size + 1]? = some (.loop (rc .busy none)) := (hgrow _ (by omega) (by simp; omega) hl3).trans Hr3.out.rc
            have df5 : W5.heap[S.heap.size]? = some (.deferred (some [])) := (hgrow _ (by omega) (by simp; omega) (by omega)).trans Hr3.out.df
            have rs5 : Rest S W5 [bb, bb + 1 + 1] (.loop (rc .busy none)) := ⟨rc5, df5, kS4⟩
            have c5b : ∀ {g t cs}, Blk W3 g t cs → g < S.heap.size → g ≠ bb → g ≠ bb + 1 + 1 → Blk W5 g t cs := fun h1 h2 h3 h4 => (hgrow _ (by omega) (by simp; omega) h1.lt).trans h1
            have CF5 : CF w.heap.size W5 (bb + 1 + 1 + 1) (bb + 1 + 1 + 1 + 1) (bb + 1 + 1 + 1 + 1 + 1) (bb + 1 + 1 + 1 + 1 + 1 + 1) id true A n c mo bsN := ⟨c5b CF3.out.b1 (by omega) (by omega) (by omega), c5b CF3.out.b2 (by omega) (by omega) (by omega), c5b CF3.out.b3 (by omega) (by omega) (by omega), c5b CF3.out.b4 (by omega) (by omega) (by omega), cfS.kept kS4 (by omega) (fun h0 ad e => by have := hA0 h0 ad e; simp; omega), by have := kS4.size; omega⟩
            have kz : Keep [S.heap.size + 1] W5 (W5.putObj (S.heap.size + 1) (.loop (rc .ready none))) := (Keep.refl _ _).putObj (.inl (by simp)) _
            have d6 := d5.keep kz (by simp; omega)
            have b6 := b5.keep kz (by simp; omega) (fun g hg => by have := (b5.row.lt g hg).1; simp; omega)
            have CF6 := CF5.keep kz (fun g hg => by simp at hg; subst hg; exact ⟨fun h0 ad e => by have := hA0 h0 ad e; omega, by omega, by omega, by omega, by omega⟩)
            have hgf : (W5.putObj (S.heap.size + 1) (.loop (rc .ready none))).heap[S.heap.size + 1 + 1]? = W2'.heap[S.heap.size + 1 + 1]? := ((World.putObj_heap_other (by omega)).trans (hgrow _ (Nat.le_refl _) (by simp; omega) (by omega))).trans (HKA.out.block _ (by omega) (by simp))
            have FINJ := Lib.hid (show CF w.heap.size (W5.putObj (S.heap.size + 1) (.loop (rc .ready none))) (bb + 1 + 1 + 1) (bb + 1 + 1 + 1 + 1) (bb + 1 + 1 + 1 + 1 + 1) (bb + 1 + 1 + 1 + 1 + 1 + 1) id true A n c mo bsN ∧ Rest S (W5.putObj (S.heap.size + 1) (.loop (rc .ready none))) [bb, bb + 1 + 1] (.loop (rc .ready none)) ∧ _ from ⟨CF6, rs5.put, (by rw [HJD.out]; exact .inr (.inr ⟨by omega, by omega, d6, _, _, b6⟩) : JD 1 k (W5.putObj (S.heap.size + 1) (.loop (rc .ready none))))⟩)
            exact ⟨rc5, hgf, FINJ.out⟩
        · have hd' : Blk W (bb + 1 + 1) 4 #[.bool false] ∧ ∃ v, Bk W (S.heap.size + 3) bb 52 id true en v (bsN.take off) := by
            rw [HJD.out] at hd
            rcases hd with ⟨h, _⟩ | ⟨_, _, h1, h2⟩ | ⟨_, h, _⟩
            · omega
            · exact ⟨h1, h2⟩
            · omega
          obtain ⟨hdb, v, hbk⟩ := hd'
          clear hd
          obtain ⟨j, rfl⟩ : ∃ j', j = j' + 1 := ⟨j - 1, by omega⟩
          obtain ⟨P, hP⟩ : ∃ P, P = (bsN.drop off).take k := ⟨_, rfl⟩
          rw [← hP] at hrow
          have hPl : (encB P).length = k := by rw [encB_len, hP, List.length_take, List.length_drop, hbsN]; omega
          obtain ⟨Ar, cr, hre, _, _, hrr⟩ := hrow.reads
          rw [hPl] at hre hrr
          subst hre
          have hfr : YieldAt Fence.wide 4 Try.prog (S.heap.size + 1) #[.agg #[.int .i64 9, .int .i64 4, .int .i64 id, .slice Ar k cr]] W2' = YieldAt Fence.wide 4 Try.prog (S.heap.size + 1) #[.agg #[.int .i64 (typF (j + 1)), .int .i64 (flgF (j + 1) en (decide (off + k = n))), .int .i64 id, .slice Ar k cr]] W2' := by rw [show decide (off + k = n) = true by simp; omega]; cases en <;> rfl
          rw [← hfr]
          clear hfr
          have hr2 := hr.go kk (by simp; omega) (by simp) (by simp; omega)
          have L2 : (W2'.alloc (.cells #[.int .i64 9, .int .i64 4, .int .i64 id, .slice Ar k cr] 46)).heap[S.heap.size + 1]? = some (.loop (rc .ready none)) := (Below.heap_alloc W2' _ _ (Array.getElem?_eq_some_iff.1 hr2.rc).1).trans hr2.rc
          have hgq : ∀ w9, Keep [S.heap.size + 1, bb, bb + 1 + 1] W2' w9 → w9.heap[S.heap.size + 1 + 1]? = W2'.heap[S.heap.size + 1 + 1]? := fun w9 k9 => k9.block _ (by omega) (by simp; omega)
          have db2 := hdb.keep kk (by simp; omega)
          have bk2 := hbk.keep kk (by simp; omega) (fun g hg => by have := (hbk.row.lt g hg).1; simp; omega)
          refine rng_round' hrc hr2.rc rfl ?_
          clear hrc hW1
          have HL := Lib.hid hl
          have HJO := Lib.hid hjo
          have HJ0 := Lib.hid hj0
          clear hl hjo hj0
          have FB := Blk.new W2' 46 #[.int .i64 9, .int .i64 4, .int .i64 id, .slice Ar k cr]
          have kA : Keep [S.heap.size + 1] W2' ((W2'.alloc (.cells #[.int .i64 9, .int .i64 4, .int .i64 id, .slice Ar k cr] 46)).putObj (S.heap.size + 1) (.loop (rc .busy none))) := ((Keep.refl _ W2').alloc _).putObj (l := S.heap.size + 1) (.inl (by simp)) _
          have FB3 := FB.keep ((Keep.refl [S.heap.size + 1] (W2'.alloc (.cells #[.int .i64 9, .int .i64 4, .int .i64 id, .slice Ar k cr] 46))).putObj (l := S.heap.size + 1) (.inl (by simp)) (.loop (rc .busy none))) (by simp; omega)
          have hr3 : Rest S ((W2'.alloc (.cells #[.int .i64 9, .int .i64 4, .int .i64 id, .slice Ar k cr] 46)).putObj (S.heap.size + 1) (.loop (rc .busy none))) [bb, bb + 1 + 1] (.loop (rc .busy none)) := ⟨put_heap (Array.getElem?_eq_some_iff.1 L2).1, kA.heap hr2.df (by simp), hr2.kp.step kA (by first | (simp; done) | (simp; omega))⟩
          have HL2 := Lib.hid L2
          have HHR3 := Lib.hid hr3
          clear L2 hr3
          gi_wp2
          refine ⟨HL2.out, ?_⟩
          have hr3 := HHR3.out
          clear HHR3
          obtain ⟨W3, hW3⟩ : ∃ W3, W3 = (W2'.alloc (.cells #[.int .i64 9, .int .i64 4, .int .i64 id, .slice Ar k cr] 46)).putObj (S.heap.size + 1) (.loop (rc .busy none)) := ⟨_, rfl⟩
          rw [← hW3] at kA FB3 hr3 ⊢
          clear hW3 FB
          have s23 := kA.size
          have db3 := db2.keep kA (by simp; omega)
          have bk3 := bk2.keep kA (by simp; omega) (fun g hg => by have := (bk2.row.lt g hg).1; simp; omega)
          have cf3 := cf.keep kA (fun g hg => by simp at hg; subst hg; exact ⟨fun h0 ad e => by have := cf.rd.blk_lt h0 ad e; omega, by omega, by omega, by omega, by omega⟩)
          have rr3 := hrow.keep kA (fun g hg => by have := (hrow.lt g hg).1; simp; omega)
          obtain ⟨_, _, er, _, _, hrr3⟩ := rr3.reads
          rw [hPl] at er hrr3
          injection er with er1 er2 er3
          subst er1 er3
          have f0 := FB3.cell 0
          have f1 := FB3.cell 1
          have f2 := FB3.cell 2
          have f3 := FB3.cell 3
          have x3 := (xb7.keep hr3.kp (by first | (simp; done) | (simp; omega))).cell 0
          have B3 := xbB.keep hr3.kp (by simp; omega)
          have B3c := B3.cell 0
          have d3c := db3.cell 0
          have d3f := db3.frozen 0
          simp at f0 f1 f2 f3 x3 B3c d3c
          have hAr : 0 < k → ∀ ad, Ar = some ad → ad.block ≠ bb := fun _ ad e => by have := (hrow.lt ad.block (by rw [e]; rfl)).1; omega
          have Hr3 := Lib.hid hr3
          have HKA := Lib.hid kA
          have HGQ := Lib.hid hgq
          have CF3 := Lib.hid cf3
          have HP := Lib.hid hP
          have hsb : S.heap.size + 3 ≤ W3.heap.size := by omega
          have hA0 : 0 < n → ∀ ad, A = some ad → ad.block < w.heap.size := cf.rd.blk_lt
          clear hP kA hgq hr3 rr3 db2 bk2 FB3 hr2 hrow hrr cf cf3
          have hPP : bsN.take off ++ P = bsN.take (off + k) := by rw [HP.out, List.take_add]
          have hfull : bsN.take (off + k) = bsN := List.take_of_length_le (by have := HL.out; omega)
          have hPP := hPP.trans hfull
          have HPP := Lib.hid hPP
          clear hPP hfull
          gi_wp2_with (refine ⟨trivial, ?_⟩; gi_at_call 13; refine (CallsIn.inRound _ (callsIn_wide.2 (more_whole bk3 hsb cr hrr3 (by rw [List.length_take]; omega)))).mono ?_; rintro e w4 ⟨r4, rfl, hr4, b4, k4, m4⟩; rw [HPP.out] at hr4; have s34 := k4.size;have d4 := db3.keep k4 (fun hx => by rcases List.mem_cons.1 hx with hx | hx; omega; have := (bk3.row.lt _ (by simpa using hx)).1; omega);have d4f := d4.frozen 0;have d4c := d4.cell 0;have d5 := d4.set_ 0 (.bool true);have kd : Keep [bb + 1 + 1] w4 (w4.setCell ⟨bb + 1 + 1, 0, none⟩ (.bool true)) := (Keep.refl _ w4).setCell (p := ⟨bb + 1 + 1, 0, none⟩) (.inl (by simp)) _;have B5 := ((B3.keep k4 (fun hx => by rcases List.mem_cons.1 hx with hx | hx; omega; have := (bk3.row.lt _ (by simpa using hx)).1; omega)).keep kd (by simp; omega)).cell 0;simp at d4c B5;have ra5 := (CF3.out.rd.kept k4 (by have := CF3.out.sz; omega) (fun h0 ad e => fun hx => by have := hA0 h0 ad e; rcases List.mem_cons.1 hx with hx | hx; omega; have := (bk3.row.lt _ (by simpa using hx)).1; omega)).kept kd (by have := CF3.out.sz; omega) (fun h0 ad e => by have := hA0 h0 ad e; simp; omega);have ro5 := hr4.keep kd (fun g hg => by simp; rintro rfl; exact row_off_blk hr4 d4 (by decide) hg);obtain ⟨Ao, co, rfl, _, _, hro⟩ := ro5.reads;have st1 := str_of (c := co) (src := 27) (dst := 9) Try.underlying27 Try.underlying5 Try.underlying9 hro;have st2 := str_of (c := c) (src := 27) (dst := 9) Try.underlying27 Try.underlying5 Try.underlying9 ra5)
          have hl := HL.out
          have hjo := HJO.out
          have b5 := b4.keep kd (by simp; omega) (fun g hg => by simp; rintro rfl; exact row_off_blk b4.row d4 (by decide) hg)
          have kS4 : Keep [bb, bb + 1 + 1] S (w4.setCell ⟨bb + 1 + 1, 0, none⟩ (.bool true)) := ((Hr3.out.kp).step k4 (fun g hg => by
            rcases List.mem_cons.1 hg with rfl | hg
            · exact .inl (by simp)
            · have := (bk3.row.lt g (by simpa using hg)).1
              exact .inr (by omega))).step kd (by simp)
          have hgrow : ∀ i, i ≤ S.heap.size + 1 + 1 → i ∉ [bb, bb + 1 + 1] → i < W3.heap.size → (w4.setCell ⟨bb + 1 + 1, 0, none⟩ (.bool true)).heap[i]? = W3.heap[i]? := fun i hi hn hl => (kd.block i (by omega) (by simp at hn ⊢; omega)).trans (k4.block i hl (fun hx => by
            rcases List.mem_cons.1 hx with rfl | hx
            · simp at hn
            · have := (bk3.row.lt i (by simpa using hx)).1; omega))
          obtain ⟨W5, hW5⟩ : ∃ W5, W5 = w4.setCell ⟨bb + 1 + 1, 0, none⟩ (.bool true) := ⟨_, rfl⟩
          rw [← hW5] at b5 kS4 hgrow d5 ⊢
          clear hW5
          have hl3 := (Array.getElem?_eq_some_iff.1 Hr3.out.rc).1
          have rc5 : W5.heap[S.heap.size + 1]? = some (.loop (rc .busy none)) := (hgrow _ (by omega) (by simp; omega) hl3).trans Hr3.out.rc
          have df5 : W5.heap[S.heap.size]? = some (.deferred (some [])) := (hgrow _ (by omega) (by simp; omega) (by omega)).trans Hr3.out.df
          have rs5 : Rest S W5 [bb, bb + 1 + 1] (.loop (rc .busy none)) := ⟨rc5, df5, kS4⟩
          have c5b : ∀ {g t cs}, Blk W3 g t cs → g < S.heap.size → g ≠ bb → g ≠ bb + 1 + 1 → Blk W5 g t cs := fun h1 h2 h3 h4 => (hgrow _ (by omega) (by simp; omega) h1.lt).trans h1
          have CF5 : CF w.heap.size W5 (bb + 1 + 1 + 1) (bb + 1 + 1 + 1 + 1) (bb + 1 + 1 + 1 + 1 + 1) (bb + 1 + 1 + 1 + 1 + 1 + 1) id en A n c mo bsN := ⟨c5b CF3.out.b1 (by omega) (by omega) (by omega), c5b CF3.out.b2 (by omega) (by omega) (by omega), c5b CF3.out.b3 (by omega) (by omega) (by omega), c5b CF3.out.b4 (by omega) (by omega) (by omega), cfS.kept kS4 (by omega) (fun h0 ad e => by have := hA0 h0 ad e; simp; omega), by have := kS4.size; omega⟩
          have kz : Keep [S.heap.size + 1] W5 (W5.putObj (S.heap.size + 1) (.loop (rc .ready none))) := (Keep.refl _ _).putObj (.inl (by simp)) _
          have d6 := d5.keep kz (by simp; omega)
          have b6 := b5.keep kz (by simp; omega) (fun g hg => by have := (b5.row.lt g hg).1; simp; omega)
          have CF6 := CF5.keep kz (fun g hg => by simp at hg; subst hg; exact ⟨fun h0 ad e => by have := hA0 h0 ad e; omega, by omega, by omega, by omega, by omega⟩)
          have hgf : (W5.putObj (S.heap.size + 1) (.loop (rc .ready none))).heap[S.heap.size + 1 + 1]? = W2'.heap[S.heap.size + 1 + 1]? := ((World.putObj_heap_other (by omega)).trans (hgrow _ (Nat.le_refl _) (by simp; omega) (by omega))).trans (HKA.out.block _ (by omega) (by simp))
          have FINJ := Lib.hid (show CF w.heap.size (W5.putObj (S.heap.size + 1) (.loop (rc .ready none))) (bb + 1 + 1 + 1) (bb + 1 + 1 + 1 + 1) (bb + 1 + 1 + 1 + 1 + 1) (bb + 1 + 1 + 1 + 1 + 1 + 1) id en A n c mo bsN ∧ Rest S (W5.putObj (S.heap.size + 1) (.loop (rc .ready none))) [bb, bb + 1 + 1] (.loop (rc .ready none)) ∧ _ from ⟨CF6, rs5.put, (by rw [HJD.out]; exact .inr (.inr ⟨by omega, by omega, d6, _, _, b6⟩) : JD (j + 1 + 1) (off + k) (W5.putObj (S.heap.size + 1) (.loop (rc .ready none))))⟩)
          exact ⟨rc5, hgf, FINJ.out⟩
      · rcases Nat.eq_zero_or_pos j with rfl | hjp
        · have hd' : Blk W (bb + 1 + 1) 4 #[.bool false] ∧ Bk W (S.heap.size + 3) bb 52 0 false false (.slice none 0 0) [] := by
            rw [HJD.out] at hd
            rcases hd with ⟨_, _, h1, h2⟩ | ⟨h, _⟩ | ⟨h, _⟩
            · exact ⟨h1, h2⟩
            · omega
            · omega
          obtain ⟨hdb, hbk⟩ := hd'
          clear hd
          cases en
          · obtain rfl : off = 0 := hj0 rfl
            obtain ⟨P, hP⟩ : ∃ P, P = (bsN.drop 0).take k := ⟨_, rfl⟩
            rw [← hP] at hrow
            have hPl : (encB P).length = k := by rw [encB_len, hP, List.length_take, List.length_drop, hbsN]; omega
            obtain ⟨Ar, cr, hre, _, _, hrr⟩ := hrow.reads
            rw [hPl] at hre hrr
            subst hre
            have hfr : YieldAt Fence.wide 4 Try.prog (S.heap.size + 1) #[.agg #[.int .i64 1, .int .i64 0, .int .i64 id, .slice Ar k cr]] W2' = YieldAt Fence.wide 4 Try.prog (S.heap.size + 1) #[.agg #[.int .i64 (typF 0), .int .i64 (flgF 0 false (decide (0 + k = n))), .int .i64 id, .slice Ar k cr]] W2' := by rw [show decide (0 + k = n) = false by simp; omega]; rfl
            rw [← hfr]
            clear hfr
            have hr2 := hr.go kk (by simp; omega) (by simp) (by simp; omega)
            have L2 : (W2'.alloc (.cells #[.int .i64 1, .int .i64 0, .int .i64 id, .slice Ar k cr] 46)).heap[S.heap.size + 1]? = some (.loop (rc .ready none)) := (Below.heap_alloc W2' _ _ (Array.getElem?_eq_some_iff.1 hr2.rc).1).trans hr2.rc
            have hgq : ∀ w9, Keep [S.heap.size + 1, bb, bb + 1 + 1] W2' w9 → w9.heap[S.heap.size + 1 + 1]? = W2'.heap[S.heap.size + 1 + 1]? := fun w9 k9 => k9.block _ (by omega) (by simp; omega)
            have db2 := hdb.keep kk (by simp; omega)
            have bk2 := hbk.keep kk (by simp; omega) (fun g hg => by have := (hbk.row.lt g hg).1; simp; omega)
            refine rng_round' hrc hr2.rc rfl ?_
            clear hrc hW1
            have HL := Lib.hid hl
            have HJO := Lib.hid hjo
            have HJ0 := Lib.hid hj0
            clear hl hjo hj0
            have FB := Blk.new W2' 46 #[.int .i64 1, .int .i64 0, .int .i64 id, .slice Ar k cr]
            have kA : Keep [S.heap.size + 1] W2' ((W2'.alloc (.cells #[.int .i64 1, .int .i64 0, .int .i64 id, .slice Ar k cr] 46)).putObj (S.heap.size + 1) (.loop (rc .busy none))) := ((Keep.refl _ W2').alloc _).putObj (l := S.heap.size + 1) (.inl (by simp)) _
            have FB3 := FB.keep ((Keep.refl [S.heap.size + 1] (W2'.alloc (.cells #[.int .i64 1, .int .i64 0, .int .i64 id, .slice Ar k cr] 46))).putObj (l := S.heap.size + 1) (.inl (by simp)) (.loop (rc .busy none))) (by simp; omega)
            have hr3 : Rest S ((W2'.alloc (.cells #[.int .i64 1, .int .i64 0, .int .i64 id, .slice Ar k cr] 46)).putObj (S.heap.size + 1) (.loop (rc .busy none))) [bb, bb + 1 + 1] (.loop (rc .busy none)) := ⟨put_heap (Array.getElem?_eq_some_iff.1 L2).1, kA.heap hr2.df (by simp), hr2.kp.step kA (by first | (simp; done) | (simp; omega))⟩
            have HL2 := Lib.hid L2
            have HHR3 := Lib.hid hr3
            clear L2 hr3
            gi_wp2
            refine ⟨HL2.out, ?_⟩
            have hr3 := HHR3.out
            clear HHR3
            obtain ⟨W3, hW3⟩ : ∃ W3, W3 = (W2'.alloc (.cells #[.int .i64 1, .int .i64 0, .int .i64 id, .slice Ar k cr] 46)).putObj (S.heap.size + 1) (.loop (rc .busy none)) := ⟨_, rfl⟩
            rw [← hW3] at kA FB3 hr3 ⊢
            clear hW3 FB
            have s23 := kA.size
            have db3 := db2.keep kA (by simp; omega)
            have bk3 := bk2.keep kA (by simp; omega) (fun g hg => by have := (bk2.row.lt g hg).1; simp; omega)
            have cf3 := cf.keep kA (fun g hg => by simp at hg; subst hg; exact ⟨fun h0 ad e => by have := cf.rd.blk_lt h0 ad e; omega, by omega, by omega, by omega, by omega⟩)
            have rr3 := hrow.keep kA (fun g hg => by have := (hrow.lt g hg).1; simp; omega)
            obtain ⟨_, _, er, _, _, hrr3⟩ := rr3.reads
            rw [hPl] at er hrr3
            injection er with er1 er2 er3
            subst er1 er3
            have f0 := FB3.cell 0
            have f1 := FB3.cell 1
            have f2 := FB3.cell 2
            have f3 := FB3.cell 3
            have x3 := (xb7.keep hr3.kp (by first | (simp; done) | (simp; omega))).cell 0
            have B3 := xbB.keep hr3.kp (by simp; omega)
            have B3c := B3.cell 0
            have d3c := db3.cell 0
            have d3f := db3.frozen 0
            simp at f0 f1 f2 f3 x3 B3c d3c
            have hAr : 0 < k → ∀ ad, Ar = some ad → ad.block ≠ bb := fun _ ad e => by have := (hrow.lt ad.block (by rw [e]; rfl)).1; omega
            have Hr3 := Lib.hid hr3
            have HKA := Lib.hid kA
            have HGQ := Lib.hid hgq
            have CF3 := Lib.hid cf3
            have HP := Lib.hid hP
            have hsb : S.heap.size + 3 ≤ W3.heap.size := by omega
            have hA0 : 0 < n → ∀ ad, A = some ad → ad.block < w.heap.size := cf.rd.blk_lt
            clear hP kA hgq hr3 rr3 db2 bk2 FB3 hr2 hrow hrr cf cf3
            gi_wp2_with (refine ⟨trivial, ?_⟩; gi_at_call 11; refine (CallsIn.inRound _ (callsIn_wide.2 (start_part bk3 id false cr (by omega) hrr3 (by omega) hsb hAr))).mono ?_; rintro e w4 ⟨rfl, v4, b4, k4, m4⟩; have s34 := k4.size;have d4 := db3.keep k4 (by simp; omega);have d4f := d4.frozen 0;have d4c := d4.cell 0;have d5 := d4.set_ 0 (.bool false);have kd : Keep [bb + 1 + 1] w4 (w4.setCell ⟨bb + 1 + 1, 0, none⟩ (.bool false)) := (Keep.refl _ w4).setCell (p := ⟨bb + 1 + 1, 0, none⟩) (.inl (by simp)) _;have B5 := ((B3.keep k4 (by simp; omega)).keep kd (by simp; omega)).cell 0;simp at d4c B5)
            have hl := HL.out
            have hjo := HJO.out
            have b5 := b4.keep kd (by simp; omega) (fun g hg => by simp; rintro rfl; exact row_off_blk b4.row d4 (by decide) hg)
            have hP0 : P = bsN.take k := by rw [HP.out, List.drop_zero]
            rw [hP0] at b5
            have k4' : Keep [bb, bb + 1 + 1] W3 (w4.setCell ⟨bb + 1 + 1, 0, none⟩ (.bool false)) := (k4.more (by simp)).trans (kd.more (by simp))
            have kS4 : Keep [bb, bb + 1 + 1] S (w4.setCell ⟨bb + 1 + 1, 0, none⟩ (.bool false)) := Hr3.out.kp.trans k4'
            have hgrow : ∀ i, i ≤ S.heap.size + 1 + 1 → i ∉ [bb, bb + 1 + 1] → i < W3.heap.size → (w4.setCell ⟨bb + 1 + 1, 0, none⟩ (.bool false)).heap[i]? = W3.heap[i]? := fun i _ hn hl => k4'.block i hl hn
            obtain ⟨W5, hW5⟩ : ∃ W5, W5 = w4.setCell ⟨bb + 1 + 1, 0, none⟩ (.bool false) := ⟨_, rfl⟩
            rw [← hW5] at b5 kS4 hgrow d5 ⊢
            clear hW5
            have hl3 := (Array.getElem?_eq_some_iff.1 Hr3.out.rc).1
            have rc5 : W5.heap[S.heap.size + 1]? = some (.loop (rc .busy none)) := (hgrow _ (by omega) (by simp; omega) hl3).trans Hr3.out.rc
            have df5 : W5.heap[S.heap.size]? = some (.deferred (some [])) := (hgrow _ (by omega) (by simp; omega) (by omega)).trans Hr3.out.df
            have rs5 : Rest S W5 [bb, bb + 1 + 1] (.loop (rc .busy none)) := ⟨rc5, df5, kS4⟩
            have c5b : ∀ {g t cs}, Blk W3 g t cs → g < S.heap.size → g ≠ bb → g ≠ bb + 1 + 1 → Blk W5 g t cs := fun h1 h2 h3 h4 => (hgrow _ (by omega) (by simp; omega) h1.lt).trans h1
            have CF5 : CF w.heap.size W5 (bb + 1 + 1 + 1) (bb + 1 + 1 + 1 + 1) (bb + 1 + 1 + 1 + 1 + 1) (bb + 1 + 1 + 1 + 1 + 1 + 1) id false A n c mo bsN := ⟨c5b CF3.out.b1 (by omega) (by omega) (by omega), c5b CF3.out.b2 (by omega) (by omega) (by omega), c5b CF3.out.b3 (by omega) (by omega) (by omega), c5b CF3.out.b4 (by omega) (by omega) (by omega), cfS.kept kS4 (by omega) (fun h0 ad e => by have := hA0 h0 ad e; simp; omega), by have := kS4.size; omega⟩
            have kz : Keep [S.heap.size + 1] W5 (W5.putObj (S.heap.size + 1) (.loop (rc .ready none))) := (Keep.refl _ _).putObj (.inl (by simp)) _
            have d6 := d5.keep kz (by simp; omega)
            have b6 := b5.keep kz (by simp; omega) (fun g hg => by have := (b5.row.lt g hg).1; simp; omega)
            have CF6 := CF5.keep kz (fun g hg => by simp at hg; subst hg; exact ⟨fun h0 ad e => by have := hA0 h0 ad e; omega, by omega, by omega, by omega, by omega⟩)
            have hgf : (W5.putObj (S.heap.size + 1) (.loop (rc .ready none))).heap[S.heap.size + 1 + 1]? = W2'.heap[S.heap.size + 1 + 1]? := ((World.putObj_heap_other (by omega)).trans (hgrow _ (Nat.le_refl _) (by simp; omega) (by omega))).trans (HKA.out.block _ (by omega) (by simp))
            have FINJ := Lib.hid (show CF w.heap.size (W5.putObj (S.heap.size + 1) (.loop (rc .ready none))) (bb + 1 + 1 + 1) (bb + 1 + 1 + 1 + 1) (bb + 1 + 1 + 1 + 1 + 1) (bb + 1 + 1 + 1 + 1 + 1 + 1) id false A n c mo bsN ∧ Rest S (W5.putObj (S.heap.size + 1) (.loop (rc .ready none))) [bb, bb + 1 + 1] (.loop (rc .ready none)) ∧ _ from ⟨CF6, rs5.put, (by rw [HJD.out]; exact .inr (.inl ⟨by omega, by omega, d6, _, b6⟩) : JD 1 k (W5.putObj (S.heap.size + 1) (.loop (rc .ready none))))⟩)
            exact ⟨rc5, hgf, FINJ.out⟩
          · obtain rfl : off = 0 := hj0 rfl
            obtain ⟨P, hP⟩ : ∃ P, P = (bsN.drop 0).take k := ⟨_, rfl⟩
            rw [← hP] at hrow
            have hPl : (encB P).length = k := by rw [encB_len, hP, List.length_take, List.length_drop, hbsN]; omega
            obtain ⟨Ar, cr, hre, _, _, hrr⟩ := hrow.reads
            rw [hPl] at hre hrr
            subst hre
            have hfr : YieldAt Fence.wide 4 Try.prog (S.heap.size + 1) #[.agg #[.int .i64 1, .int .i64 1, .int .i64 id, .slice Ar k cr]] W2' = YieldAt Fence.wide 4 Try.prog (S.heap.size + 1) #[.agg #[.int .i64 (typF 0), .int .i64 (flgF 0 true (decide (0 + k = n))), .int .i64 id, .slice Ar k cr]] W2' := by rw [show decide (0 + k = n) = false by simp; omega]; rfl
            rw [← hfr]
            clear hfr
            have hr2 := hr.go kk (by simp; omega) (by simp) (by simp; omega)
            have L2 : (W2'.alloc (.cells #[.int .i64 1, .int .i64 1, .int .i64 id, .slice Ar k cr] 46)).heap[S.heap.size + 1]? = some (.loop (rc .ready none)) := (Below.heap_alloc W2' _ _ (Array.getElem?_eq_some_iff.1 hr2.rc).1).trans hr2.rc
            have hgq : ∀ w9, Keep [S.heap.size + 1, bb, bb + 1 + 1] W2' w9 → w9.heap[S.heap.size + 1 + 1]? = W2'.heap[S.heap.size + 1 + 1]? := fun w9 k9 => k9.block _ (by omega) (by simp; omega)
            have db2 := hdb.keep kk (by simp; omega)
            have bk2 := hbk.keep kk (by simp; omega) (fun g hg => by have := (hbk.row.lt g hg).1; simp; omega)
            refine rng_round' hrc hr2.rc rfl ?_
            clear hrc hW1
            have HL := Lib.hid hl
            have HJO := Lib.hid hjo
            have HJ0 := Lib.hid hj0
            clear hl hjo hj0
            have FB := Blk.new W2' 46 #[.int .i64 1, .int .i64 1, .int .i64 id, .slice Ar k cr]
            have kA : Keep [S.heap.size + 1] W2' ((W2'.alloc (.cells #[.int .i64 1, .int .i64 1, .int .i64 id, .slice Ar k cr] 46)).putObj (S.heap.size + 1) (.loop (rc .busy none))) := ((Keep.refl _ W2').alloc _).putObj (l := S.heap.size + 1) (.inl (by simp)) _
            have FB3 := FB.keep ((Keep.refl [S.heap.size + 1] (W2'.alloc (.cells #[.int .i64 1, .int .i64 1, .int .i64 id, .slice Ar k cr] 46))).putObj (l := S.heap.size + 1) (.inl (by simp)) (.loop (rc .busy none))) (by simp; omega)
            have hr3 : Rest S ((W2'.alloc (.cells #[.int .i64 1, .int .i64 1, .int .i64 id, .slice Ar k cr] 46)).putObj (S.heap.size + 1) (.loop (rc .busy none))) [bb, bb + 1 + 1] (.loop (rc .busy none)) := ⟨put_heap (Array.getElem?_eq_some_iff.1 L2).1, kA.heap hr2.df (by simp), hr2.kp.step kA (by first | (simp; done) | (simp; omega))⟩
            have HL2 := Lib.hid L2
            have HHR3 := Lib.hid hr3
            clear L2 hr3
            gi_wp2
            refine ⟨HL2.out, ?_⟩
            have hr3 := HHR3.out
            clear HHR3
            obtain ⟨W3, hW3⟩ : ∃ W3, W3 = (W2'.alloc (.cells #[.int .i64 1, .int .i64 1, .int .i64 id, .slice Ar k cr] 46)).putObj (S.heap.size + 1) (.loop (rc .busy none)) := ⟨_, rfl⟩
            rw [← hW3] at kA FB3 hr3 ⊢
            clear hW3 FB
            have s23 := kA.size
            have db3 := db2.keep kA (by simp; omega)
            have bk3 := bk2.keep kA (by simp; omega) (fun g hg => by have := (bk2.row.lt g hg).1; simp; omega)
            have cf3 := cf.keep kA (fun g hg => by simp at hg; subst hg; exact ⟨fun h0 ad e => by have := cf.rd.blk_lt h0 ad e; omega, by omega, by omega, by omega, by omega⟩)
            have rr3 := hrow.keep kA (fun g hg => by have := (hrow.lt g hg).1; simp; omega)
            obtain ⟨_, _, er, _, _, hrr3⟩ := rr3.reads
            rw [hPl] at er hrr3
            injection er with er1 er2 er3
            subst er1 er3
            have f0 := FB3.cell 0
            have f1 := FB3.cell 1
            have f2 := FB3.cell 2
            have f3 := FB3.cell 3
            have x3 := (xb7.keep hr3.kp (by first | (simp; done) | (simp; omega))).cell 0
            have B3 := xbB.keep hr3.kp (by simp; omega)
            have B3c := B3.cell 0
            have d3c := db3.cell 0
            have d3f := db3.frozen 0
            simp at f0 f1 f2 f3 x3 B3c d3c
            have hAr : 0 < k → ∀ ad, Ar = some ad → ad.block ≠ bb := fun _ ad e => by have := (hrow.lt ad.block (by rw [e]; rfl)).1; omega
            have Hr3 := Lib.hid hr3
            have HKA := Lib.hid kA
            have HGQ := Lib.hid hgq
            have CF3 := Lib.hid cf3
            have HP := Lib.hid hP
            have hsb : S.heap.size + 3 ≤ W3.heap.size := by omega
            have hA0 : 0 < n → ∀ ad, A = some ad → ad.block < w.heap.size := cf.rd.blk_lt
            clear hP kA hgq hr3 rr3 db2 bk2 FB3 hr2 hrow hrr cf cf3
            gi_wp2_with (refine ⟨trivial, ?_⟩; gi_at_call 11; refine (CallsIn.inRound _ (callsIn_wide.2 (start_part bk3 id true cr (by omega) hrr3 (by omega) hsb hAr))).mono ?_; rintro e w4 ⟨rfl, v4, b4, k4, m4⟩; have s34 := k4.size;have d4 := db3.keep k4 (by simp; omega);have d4f := d4.frozen 0;have d4c := d4.cell 0;have d5 := d4.set_ 0 (.bool false);have kd : Keep [bb + 1 + 1] w4 (w4.setCell ⟨bb + 1 + 1, 0, none⟩ (.bool false)) := (Keep.refl _ w4).setCell (p := ⟨bb + 1 + 1, 0, none⟩) (.inl (by simp)) _;have B5 := ((B3.keep k4 (by simp; omega)).keep kd (by simp; omega)).cell 0;simp at d4c B5)
            have hl := HL.out
            have hjo := HJO.out
            have b5 := b4.keep kd (by simp; omega) (fun g hg => by simp; rintro rfl; exact row_off_blk b4.row d4 (by decide) hg)
            have hP0 : P = bsN.take k := by rw [HP.out, List.drop_zero]
            rw [hP0] at b5
            have k4' : Keep [bb, bb + 1 + 1] W3 (w4.setCell ⟨bb + 1 + 1, 0, none⟩ (.bool false)) := (k4.more (by simp)).trans (kd.more (by simp))
            have kS4 : Keep [bb, bb + 1 + 1] S (w4.setCell ⟨bb + 1 + 1, 0, none⟩ (.bool false)) := Hr3.out.kp.trans k4'
            have hgrow : ∀ i, i ≤ S.heap.size + 1 + 1 → i ∉ [bb, bb + 1 + 1] → i < W3.heap.size → (w4.setCell ⟨bb + 1 + 1, 0, none⟩ (.bool false)).heap[i]? = W3.heap[i]? := fun i _ hn hl => k4'.block i hl hn
            obtain ⟨W5, hW5⟩ : ∃ W5, W5 = w4.setCell ⟨bb + 1 + 1, 0, none⟩ (.bool false) := ⟨_, rfl⟩
            rw [← hW5] at b5 kS4 hgrow d5 ⊢
            clear hW5
            have hl3 := (Array.getElem?_eq_some_iff.1 Hr3.out.rc).1
            have rc5 : W5.heap[S.heap.size + 1]? = some (.loop (rc .busy none)) := (hgrow _ (by omega) (by simp; omega) hl3).trans Hr3.out.rc
            have df5 : W5.heap[S.heap.size]? = some (.deferred (some [])) := (hgrow _ (by omega) (by simp; omega) (by omega)).trans Hr3.out.df
            have rs5 : Rest S W5 [bb, bb + 1 + 1] (.loop (rc .busy none)) := ⟨rc5, df5, kS4⟩
            have c5b : ∀ {g t cs}, Blk W3 g t cs → g < S.heap.size → g ≠ bb → g ≠ bb + 1 + 1 → Blk W5 g t cs := fun h1 h2 h3 h4 => (hgrow _ (by omega) (by simp; omega) h1.lt).trans h1
            have CF5 : CF w.heap.size W5 (bb + 1 + 1 + 1) (bb + 1 + 1 + 1 + 1) (bb + 1 + 1 + 1 + 1 + 1) (bb + 1 + 1 + 1 + 1 + 1 + 1) id true A n c mo bsN := ⟨c5b CF3.out.b1 (by omega) (by omega) (by omega), c5b CF3.out.b2 (by omega) (by omega) (by omega), c5b CF3.out.b3 (by omega) (by omega) (by omega), c5b CF3.out.b4 (by omega) (by omega) (by omega), cfS.kept kS4 (by omega) (fun h0 ad e => by have := hA0 h0 ad e; simp; omega), by have := kS4.size; omega⟩
            have kz : Keep [S.heap.size + 1] W5 (W5.putObj (S.heap.size + 1) (.loop (rc .ready none))) := (Keep.refl _ _).putObj (.inl (by simp)) _
            have d6 := d5.keep kz (by simp; omega)
            have b6 := b5.keep kz (by simp; omega) (fun g hg => by have := (b5.row.lt g hg).1; simp; omega)
            have CF6 := CF5.keep kz (fun g hg => by simp at hg; subst hg; exact ⟨fun h0 ad e => by have := hA0 h0 ad e; omega, by omega, by omega, by omega, by omega⟩)
            have hgf : (W5.putObj (S.heap.size + 1) (.loop (rc .ready none))).heap[S.heap.size + 1 + 1]? = W2'.heap[S.heap.size + 1 + 1]? := ((World.putObj_heap_other (by omega)).trans (hgrow _ (Nat.le_refl _) (by simp; omega) (by omega))).trans (HKA.out.block _ (by omega) (by simp))
            have FINJ := Lib.hid (show CF w.heap.size (W5.putObj (S.heap.size + 1) (.loop (rc .ready none))) (bb + 1 + 1 + 1) (bb + 1 + 1 + 1 + 1) (bb + 1 + 1 + 1 + 1 + 1) (bb + 1 + 1 + 1 + 1 + 1 + 1) id true A n c mo bsN ∧ Rest S (W5.putObj (S.heap.size + 1) (.loop (rc .ready none))) [bb, bb + 1 + 1] (.loop (rc .ready none)) ∧ _ from ⟨CF6, rs5.put, (by rw [HJD.out]; exact .inr (.inl ⟨by omega, by omega, d6, _, b6⟩) : JD 1 k (W5.putObj (S.heap.size + 1) (.loop (rc .ready none))))⟩)
            exact ⟨rc5, hgf, FINJ.out⟩
        · have hd' : Blk W (bb + 1 + 1) 4 #[.bool false] ∧ ∃ v, Bk W (S.heap.size + 3) bb 52 id true en v (bsN.take off) := by
            rw [HJD.out] at hd
            rcases hd with ⟨h, _⟩ | ⟨_, _, h1, h2⟩ | ⟨_, h, _⟩
            · omega
            · exact ⟨h1, h2⟩
            · omega
          obtain ⟨hdb, v, hbk⟩ := hd'
          clear hd
          obtain ⟨j, rfl⟩ : ∃ j', j = j' + 1 := ⟨j - 1, by omega⟩
          obtain ⟨P, hP⟩ : ∃ P, P = (bsN.drop off).take k := ⟨_, rfl⟩
          rw [← hP] at hrow
          have hPl : (encB P).length = k := by rw [encB_len, hP, List.length_take, List.length_drop, hbsN]; omega
          obtain ⟨Ar, cr, hre, _, _, hrr⟩ := hrow.reads
          rw [hPl] at hre hrr
          subst hre
          have hfr : YieldAt Fence.wide 4 Try.prog (S.heap.size + 1) #[.agg #[.int .i64 9, .int .i64 0, .int .i64 id, .slice Ar k cr]] W2' = YieldAt Fence.wide 4 Try.prog (S.heap.size + 1) #[.agg #[.int .i64 (typF (j + 1)), .int .i64 (flgF (j + 1) en (decide (off + k = n))), .int .i64 id, .slice Ar k cr]] W2' := by rw [show decide (off + k = n) = false by simp; omega]; cases en <;> rfl
          rw [← hfr]
          clear hfr
          have hr2 := hr.go kk (by simp; omega) (by simp) (by simp; omega)
          have L2 : (W2'.alloc (.cells #[.int .i64 9, .int .i64 0, .int .i64 id, .slice Ar k cr] 46)).heap[S.heap.size + 1]? = some (.loop (rc .ready none)) := (Below.heap_alloc W2' _ _ (Array.getElem?_eq_some_iff.1 hr2.rc).1).trans hr2.rc
          have hgq : ∀ w9, Keep [S.heap.size + 1, bb, bb + 1 + 1] W2' w9 → w9.heap[S.heap.size + 1 + 1]? = W2'.heap[S.heap.size + 1 + 1]? := fun w9 k9 => k9.block _ (by omega) (by simp; omega)
          have db2 := hdb.keep kk (by simp; omega)
          have bk2 := hbk.keep kk (by simp; omega) (fun g hg => by have := (hbk.row.lt g hg).1; simp; omega)
          refine rng_round' hrc hr2.rc rfl ?_
          clear hrc hW1
          have HL := Lib.hid hl
          have HJO := Lib.hid hjo
          have HJ0 := Lib.hid hj0
          clear hl hjo hj0
          have FB := Blk.new W2' 46 #[.int .i64 9, .int .i64 0, .int .i64 id, .slice Ar k cr]
          have kA : Keep [S.heap.size + 1] W2' ((W2'.alloc (.cells #[.int .i64 9, .int .i64 0, .int .i64 id, .slice Ar k cr] 46)).putObj (S.heap.size + 1) (.loop (rc .busy none))) := ((Keep.refl _ W2').alloc _).putObj (l := S.heap.size + 1) (.inl (by simp)) _
          have FB3 := FB.keep ((Keep.refl [S.heap.size + 1] (W2'.alloc (.cells #[.int .i64 9, .int .i64 0, .int .i64 id, .slice Ar k cr] 46))).putObj (l := S.heap.size + 1) (.inl (by simp)) (.loop (rc .busy none))) (by simp; omega)
          have hr3 : Rest S ((W2'.alloc (.cells #[.int .i64 9, .int .i64 0, .int .i64 id, .slice Ar k cr] 46)).putObj (S.heap.size + 1) (.loop (rc .busy none))) [bb, bb + 1 + 1] (.loop (rc .busy none)) := ⟨put_heap (Array.getElem?_eq_some_iff.1 L2).1, kA.heap hr2.df (by simp), hr2.kp.step kA (by first | (simp; done) | (simp; omega))⟩
          have HL2 := Lib.hid L2
          have HHR3 := Lib.hid hr3
          clear L2 hr3
          gi_wp2
          refine ⟨HL2.out, ?_⟩
          have hr3 := HHR3.out
          clear HHR3
          obtain ⟨W3, hW3⟩ : ∃ W3, W3 = (W2'.alloc (.cells #[.int .i64 9, .int .i64 0, .int .i64 id, .slice Ar k cr] 46)).putObj (S.heap.size + 1) (.loop (rc .busy none)) := ⟨_, rfl⟩
          rw [← hW3] at kA FB3 hr3 ⊢
          clear hW3 FB
          have s23 := kA.size
          have db3 := db2.keep kA (by simp; omega)
          have bk3 := bk2.keep kA (by simp; omega) (fun g hg => by have := (bk2.row.lt g hg).1; simp; omega)
          have cf3 := cf.keep kA (fun g hg => by simp at hg; subst hg; exact ⟨fun h0 ad e => by have := cf.rd.blk_lt h0 ad e; omega, by omega, by omega, by omega, by omega⟩)
          have rr3 := hrow.keep kA (fun g hg => by have := (hrow.lt g hg).1; simp; omega)
          obtain ⟨_, _, er, _, _, hrr3⟩ := rr3.reads
          rw [hPl] at er hrr3
          injection er with er1 er2 er3
          subst er1 er3
          have f0 := FB3.cell 0
          have f1 := FB3.cell 1
          have f2 := FB3.cell 2
          have f3 := FB3.cell 3
          have x3 := (xb7.keep hr3.kp (by first | (simp; done) | (simp; omega))).cell 0
          have B3 := xbB.keep hr3.kp (by simp; omega)
          have B3c := B3.cell 0
          have d3c := db3.cell 0
          have d3f := db3.frozen 0
          simp at f0 f1 f2 f3 x3 B3c d3c
          have hAr : 0 < k → ∀ ad, Ar = some ad → ad.block ≠ bb := fun _ ad e => by have := (hrow.lt ad.block (by rw [e]; rfl)).1; omega
          have Hr3 := Lib.hid hr3
          have HKA := Lib.hid kA
          have HGQ := Lib.hid hgq
          have CF3 := Lib.hid cf3
          have HP := Lib.hid hP
          have hsb : S.heap.size + 3 ≤ W3.heap.size := by omega
          have hA0 : 0 < n → ∀ ad, A = some ad → ad.block < w.heap.size := cf.rd.blk_lt
          clear hP kA hgq hr3 rr3 db2 bk2 FB3 hr2 hrow hrr cf cf3
          have hPP : bsN.take off ++ P = bsN.take (off + k) := by rw [HP.out, List.take_add]
          have HPP := Lib.hid hPP
          clear hPP
          gi_wp2_with (refine ⟨trivial, ?_⟩; gi_at_call 13; refine (CallsIn.inRound _ (callsIn_wide.2 (more_part bk3 hsb cr hrr3 (by rw [List.length_take]; omega)))).mono ?_; rintro e w4 ⟨rfl, v4, b4, k4, m4⟩; rw [HPP.out] at b4; have s34 := k4.size;have d4 := db3.keep k4 (fun hx => by rcases List.mem_cons.1 hx with hx | hx; omega; have := (bk3.row.lt _ (by simpa using hx)).1; omega);have d4f := d4.frozen 0;have d4c := d4.cell 0;have d5 := d4.set_ 0 (.bool false);have kd : Keep [bb + 1 + 1] w4 (w4.setCell ⟨bb + 1 + 1, 0, none⟩ (.bool false)) := (Keep.refl _ w4).setCell (p := ⟨bb + 1 + 1, 0, none⟩) (.inl (by simp)) _;have B5 := ((B3.keep k4 (fun hx => by rcases List.mem_cons.1 hx with hx | hx; omega; have := (bk3.row.lt _ (by simpa using hx)).1; omega)).keep kd (by simp; omega)).cell 0;simp at d4c B5)
          have hl := HL.out
          have hjo := HJO.out
          have b5 := b4.keep kd (by simp; omega) (fun g hg => by simp; rintro rfl; exact row_off_blk b4.row d4 (by decide) hg)
          have kS4 : Keep [bb, bb + 1 + 1] S (w4.setCell ⟨bb + 1 + 1, 0, none⟩ (.bool false)) := ((Hr3.out.kp).step k4 (fun g hg => by
            rcases List.mem_cons.1 hg with rfl | hg
            · exact .inl (by simp)
            · have := (bk3.row.lt g (by simpa using hg)).1
              exact .inr (by omega))).step kd (by simp)
          have hgrow : ∀ i, i ≤ S.heap.size + 1 + 1 → i ∉ [bb, bb + 1 + 1] → i < W3.heap.size → (w4.setCell ⟨bb + 1 + 1, 0, none⟩ (.bool false)).heap[i]? = W3.heap[i]? := fun i hi hn hl => (kd.block i (by omega) (by simp at hn ⊢; omega)).trans (k4.block i hl (fun hx => by
            rcases List.mem_cons.1 hx with rfl | hx
            · simp at hn
            · have := (bk3.row.lt i (by simpa using hx)).1; omega))
          obtain ⟨W5, hW5⟩ : ∃ W5, W5 = w4.setCell ⟨bb + 1 + 1, 0, none⟩ (.bool false) := ⟨_, rfl⟩
          rw [← hW5] at b5 kS4 hgrow d5 ⊢
          clear hW5
          have hl3 := (Array.getElem?_eq_some_iff.1 Hr3.out.rc).1
          have rc5 : W5.heap[S.heap.size + 1]? = some (.loop (rc .busy none)) := (hgrow _ (by omega) (by simp; omega) hl3).trans Hr3.out.rc
          have df5 : W5.heap[S.heap.size]? = some (.deferred (some [])) := (hgrow _ (by omega) (by simp; omega) (by omega)).trans Hr3.out.df
          have rs5 : Rest S W5 [bb, bb + 1 + 1] (.loop (rc .busy none)) := ⟨rc5, df5, kS4⟩
          have c5b : ∀ {g t cs}, Blk W3 g t cs → g < S.heap.size → g ≠ bb → g ≠ bb + 1 + 1 → Blk W5 g t cs := fun h1 h2 h3 h4 => (hgrow _ (by omega) (by simp; omega) h1.lt).trans h1
          have CF5 : CF w.heap.size W5 (bb + 1 + 1 + 1) (bb + 1 + 1 + 1 + 1) (bb + 1 + 1 + 1 + 1 + 1) (bb + 1 + 1 + 1 + 1 + 1 + 1) id en A n c mo bsN := ⟨c5b CF3.out.b1 (by omega) (by omega) (by omega), c5b CF3.out.b2 (by omega) (by omega) (by omega), c5b CF3.out.b3 (by omega) (by omega) (by omega), c5b CF3.out.b4 (by omega) (by omega) (by omega), cfS.kept kS4 (by omega) (fun h0 ad e => by have := hA0 h0 ad e; simp; omega), by have := kS4.size; omega⟩
          have kz : Keep [S.heap.size + 1] W5 (W5.putObj (S.heap.size + 1) (.loop (rc .ready none))) := (Keep.refl _ _).putObj (.inl (by simp)) _
          have d6 := d5.keep kz (by simp; omega)
          have b6 := b5.keep kz (by simp; omega) (fun g hg => by have := (b5.row.lt g hg).1; simp; omega)
          have CF6 := CF5.keep kz (fun g hg => by simp at hg; subst hg; exact ⟨fun h0 ad e => by have := hA0 h0 ad e; omega, by omega, by omega, by omega, by omega⟩)
          have hgf : (W5.putObj (S.heap.size + 1) (.loop (rc .ready none))).heap[S.heap.size + 1 + 1]? = W2'.heap[S.heap.size + 1 + 1]? := ((World.putObj_heap_other (by omega)).trans (hgrow _ (Nat.le_refl _) (by simp; omega) (by omega))).trans (HKA.out.block _ (by omega) (by simp))
          have FINJ := Lib.hid (show CF w.heap.size (W5.putObj (S.heap.size + 1) (.loop (rc .ready none))) (bb + 1 + 1 + 1) (bb + 1 + 1 + 1 + 1) (bb + 1 + 1 + 1 + 1 + 1) (bb + 1 + 1 + 1 + 1 + 1 + 1) id en A n c mo bsN ∧ Rest S (W5.putObj (S.heap.size + 1) (.loop (rc .ready none))) [bb, bb + 1 + 1] (.loop (rc .ready none)) ∧ _ from ⟨CF6, rs5.put, (by rw [HJD.out]; exact .inr (.inl ⟨by omega, by omega, d6, _, b6⟩) : JD (j + 1 + 1) (off + k) (W5.putObj (S.heap.size + 1) (.loop (rc .ready none))))⟩)
          exact ⟨rc5, hgf, FINJ.out⟩
    case fin =>
      rintro e W' ⟨⟨vr, rfl⟩, h⟩
      obtain ⟨j, hc, hr, hd⟩ := h.resolve_right (fun h => h)
      have hd' : Blk W' (bb + 1 + 1) 4 #[.bool true] ∧ ∃ i v, Bk W' (S.heap.size + 3) bb 52 i false en v [] := by
        rw [HJD.out] at hd
        rcases hd with ⟨h, _⟩ | ⟨_, h, _⟩ | ⟨_, _, h1, h2⟩
        · omega
        · omega
        · exact ⟨h1, h2⟩
      obtain ⟨hdb, i, v, hbk⟩ := hd'
      clear hd h hc
      refine ⟨_, .ready, none, rfl, by simp, hr.rc, ?_⟩
      have hr2 := hr.put (o' := .loop (rc .exhausted none))
      have kp : Keep [S.heap.size + 1] W' (W'.putObj (S.heap.size + 1) (.loop (rc .exhausted none))) := (Keep.refl _ W').putObj (.inl (by simp)) _
      have db2 := hdb.keep kp (by simp; omega)
      have bk2 := hbk.keep kp (by simp; omega) (fun g hg => by have := (hbk.row.lt g hg).1; simp; omega)
      obtain ⟨W5, hW5⟩ : ∃ W5, W5 = W'.putObj (S.heap.size + 1) (.loop (rc .exhausted none)) := ⟨_, rfl⟩
      simp only [← hW5] at hr2 db2 bk2 ⊢
      clear hW5 hW1 hrc hr hdb hbk kp KB q1 q2
      have d5 := db2.cell 0
      have x5 := (xb7.keep hr2.kp (by first | (simp; done) | (simp; omega))).cell 0
      have R5 := R7.keep hr2.kp (by simp; omega)
      have R5c := R5.cell 0
      have R5f := R5.frozen 0
      simp at d5 x5 R5c
      have z6 := ((R5.set_ 0 (.bool true)).keep ((Keep.refl [S.heap.size] _).putObj (l := S.heap.size) (.inl (by simp)) (.deferred none)) (by simp; omega)).cell 0
      simp at z6
      have hdf6 : (W5.setCell ⟨w.heap.size + 1, 0, none⟩ (.bool true)).heap[S.heap.size]? = some (.deferred (some [])) := (Below.heap_setCell W5 ⟨w.heap.size + 1, 0, none⟩ _ _ (by simp; omega)).trans hr2.df
      have Hdf6 := Lib.hid hdf6
      have KF := Lib.hid ((((KW.step hr2.kp (by simp; omega)).setCell (p := ⟨w.heap.size + 1, 0, none⟩) (.inr (by simp)) (.bool true)).putObj (l := S.heap.size) (.inr (by omega)) (.deferred none)).below (Nat.le_refl _) (by simp))
      clear hdf6 hr2 KW R5 R7 B7 xb7 xbB e0 e1 e2 e3 e4 e5 e6 cfS db2
      go_wp2_with (first
        | (go_at_call 16; apply (isend_ bk2).mono; rintro e w9 ⟨rfl, rfl⟩)
        | (go_at_call 17; apply (held_ bk2).mono; rintro e w9 ⟨rfl, rfl⟩))
      all_goals
        refine ⟨by simp, .inl ⟨_, _, rfl, run_takeDeferred Hdf6.out, ?_⟩⟩
        exact ⟨.bool true, by simp [results, Try.results5, go_sem, z6], rfl, KF.out⟩
end Go.Proofs.Ytenegjflapppdaa
