/- feed: FeedChunks. -/
import Derived.Test.YtigdigljcalgkaaChunk
set_option linter.all false
namespace Go.Proofs.Ytigdigljcalgkaa
open Go.ChangeShapes Go.WideShapes Go.ChangeAt Go.RowKit Go.Proofs.YtigdigljcalgkaaW.PrintWords
attribute [local go_sem] setCell_drewN alloc_drewN Oper.semAt_some
def pfA : ByteArray := ⟨#[80, 82, 73, 32, 42, 32, 72, 84, 84, 80, 47, 50, 46, 48, 13, 10, 13, 10, 83, 77, 13, 10, 13, 10]⟩
theorem pfA1 : 0 + pfA.size ≤ maxLen := by rw [show pfA.size = 24 from rfl]; unfold maxLen; omega
theorem pfA2 : 0 + pfA.size ≤ 140737488355328 := by rw [show pfA.size = 24 from rfl]; omega
theorem u8_zero {i : TypeInfo} (h : Try.prog.info? 5 = some i) : i.zero = some (.int .u8 0) := by
  have h2 : (Try.prog.info? 5).bind (·.zero) = some (.int .u8 0) := by kernel_rfl
  rw [h] at h2
  exact h2
set_option maxRecDepth 100000 in
set_option maxHeartbeats 8000000 in
theorem feedChunks (w : World) (v : Value) (hv : Sl w 4 (fun j => if j = 0 then IsInt .i64 else if j = 1 then IsInt .i64 else if j = 2 then IsInt .i64 else Sl w 1 (fun _ => IsInt .u8)) v) (u : Value) (hu : Sl w 1 (fun _ => IsInt .i64) u) (p : Bool) : Calls Try.prog 3 #[v, u, .bool p] w fun e w' => e = .returned (.bool true) ∧ Below w.heap.size w w' := by
  have hfe := fun (w : World) (a b : Array Value) => run_eql_func_nil (P := Try.prog) w 36 (.func 20) a b Try.underlying36
  obtain ⟨A, n, c, xs, rfl, hnc, hcm, hxl, hxok, hr⟩ := gfs_of_sl hv
  obtain ⟨A2, n2, c2, zs, rfl, hnc2, hcm2, hzl, hz64, hr2⟩ := ints_of_sl2 hu
  have HR := Lib.hid hr
  have HOK := Lib.hid hxok
  have HXL := Lib.hid hxl
  have HNC := Lib.hid hnc
  have HR2 := Lib.hid hr2
  have HZL := Lib.hid hzl
  have HZ64 := Lib.hid hz64
  clear hv hu hr hxok hxl hnc hr2 hzl hz64 hcm hcm2 hnc2
  refine rng_func Try.func3 rfl ?_
  simp only [Try.ntmps3, List.size_toArray, List.length_cons, List.length_nil, Nat.reduceAdd, Nat.reduceSub, Array.replicate_succ, Array.replicate_zero, List.push_toArray, List.append_toArray, List.nil_append, List.cons_append]
  go_wp2_with (fail)
  have BR := Blk.new w 4 #[.bool false]
  have k0 : Keep [] w (w.alloc (.cells #[.bool false] 4)) := (Keep.refl _ _).alloc _
  obtain ⟨w0, hw0⟩ : ∃ w0, w0 = w.alloc (.cells #[.bool false] 4) := ⟨_, rfl⟩
  rw [← hw0] at BR k0 ⊢
  clear hw0
  obtain ⟨rb, hrb⟩ : ∃ rb, rb = w.heap.size := ⟨_, rfl⟩
  have HRB := Lib.hid hrb
  rw [← hrb] at BR ⊢
  clear hrb
  refine (begun _).mono ?_
  rintro e w1 ⟨rfl, B1⟩
  have k1 := Keep.of_below B1
  have BR1 := BR.keep k1 (by simp)
  have K1 := Lib.hid (k0.trans k1)
  have sz1 := K1.out.size
  clear B1 k1 k0 BR
  obtain ⟨i0, z0, hi, hz, hz0, hz1, hz2⟩ := u8_info
  go_upto_if 22 with (fail)
  go_cut [8] from 21 (fun v8 wx => Row1 wx w.heap.size 5 v8 (encB (preB p)) ∧ Keep [] w1 wx)
  case first =>
    cases p with
    | false =>
      go_wp2_with (fail)
      go_meet
      case rel => exact ⟨Row1.nil _ _ _, Keep.refl _ _⟩
    | true =>
      go_wp2_with (at_builtin; apply Lib.wpList_append_own_string _ rfl _ _ _ _ rfl w.heap.size 5 i0 Try.underlying25 Try.underlying9 hi (u8_zero hi) hz0 hz1 (.slice none 0 0) 0 [] rfl (World.ownsRow_nil _ _ _ _) pfA rfl pfA1 pfA2 (by omega); intro v' w' ho hg _)
      have hrow := Row1.of_own ho
      rw [show ([] : List Value) ++ Lib.strCells pfA = encB (preB true) from by rfl] at hrow
      have kg := Keep.of_grown hg
      go_meet
      case rel => exact ⟨hrow, kg⟩
  case rest =>
    obtain ⟨hrow, kk⟩ := hcut
    have BRc := BR1.keep kk (by simp)
    have hkw := K1.out.trans kk
    have hszc := kk.size
    obtain ⟨A8, c8, rfl, hlc8, hcm8, _⟩ := hrow.reads
    obtain ⟨n8, hn8⟩ : ∃ n8, n8 = (encB (preB p)).length := ⟨_, rfl⟩
    rw [← hn8] at hrow ⊢
    clear hn8
    have M0 : Mk1 w rb wc.heap.size p [] (.slice A8 n8 c8) (wc.alloc (.cells #[.slice none 0 0] 22)) := by
      refine ⟨hkw.alloc _, BRc.alloc _, ?_, ⟨by have := HRB.out; omega, BRc.lt⟩, none, 0, Blk.new wc _ _, World.ownsRow_nil _ _ _ _⟩
      rw [show preB p ++ encW [] = preB p by simp [encW]]
      exact hrow.keep ((Keep.refl [] wc).alloc _) (by simp)
    obtain ⟨W5, hW5⟩ : ∃ W5, W5 = wc.alloc (.cells #[.slice none 0 0] 22) := ⟨_, rfl⟩
    obtain ⟨wb, hwb⟩ : ∃ wb, wb = wc.heap.size := ⟨_, rfl⟩
    go_upto_block 0 with (fail)
    rw [← hW5, ← hwb] at M0 ⊢
    clear hW5 hwb BRc hkw kk hrow hszc hlc8 hcm8 BR1 K1 sz1
    have HM0 := Lib.hid M0
    clear M0
    go_cut [8, 10, 11, 12] from 21 (fun v8 _ _ _ wx => ∃ ys : List Gf, ys.length ≤ 20 ∧ (∀ y ∈ ys, y.ok w ∧ y.good) ∧ Mk1 w rb wb p ys v8 wx)
    case first =>
      have hlx := fun (W : World) (k : Keep [] w W) => (HR.out.keeps k (Nat.le_refl _) (by simp))
      go_wp2_with (fail)
      go_loopw [8, 10] (fun v8 v10 wr => ∃ (i : Nat), v10 = .int .i64 i ∧ i ≤ n ∧ i ≤ 20 ∧ Mk1 w rb wb p (wantG xs i) v8 wr) (fun _ v10 _ => n - (intOf v10).toNat)
      case atStart => exact ⟨0, rfl, by omega, by omega, HM0.out⟩
      case round =>
        obtain ⟨i, rfl, hin, hi20, hM⟩ := hrel
        obtain ⟨A7, c7, rfl, hl7, hc7, hrd7⟩ := hM.row.reads
        have HM := Lib.hid hM
        obtain ⟨L7, hL7⟩ : ∃ L7, L7 = (encB (preB p ++ encW (wantG xs i))).length := ⟨_, rfl⟩
        rw [← hL7] at HM ⊢
        have hgl := encW_len (wantG xs i) (fun y hy => (wantG_mem hy).2)
        have hgn := wantG_len xs i
        have hpl : (preB p).length ≤ 24 := by cases p <;> decide
        have HLL : Hid (L7 = (encB (preB p ++ encW (wantG xs i))).length ∧ (preB p ++ encW (wantG xs i)).length ≤ 350000) := Lib.hid ⟨hL7, by rw [List.length_append]; omega⟩
        clear hL7 hl7 hc7 hrd7 hM hgl hgn hpl
        by_cases hlt : i < n ∧ i < 20
        · have z1 : (i : Int) < (n : Int) := by omega
          have z2 : (i : Int) < 20 := by omega
          have hxi : ∃ x, xs[i]? = some x := ⟨_, List.getElem?_eq_getElem (by have := HXL.out; omega)⟩
          obtain ⟨x, hx⟩ := hxi
          have hxm : x ∈ xs := List.mem_of_getElem? hx
          have hxo := HOK.out x hxm
          have hkw := HM.out.kw
          obtain ⟨b, o, hA, hbl, hcell⟩ := (hlx wr hkw).plain (by omega) (by omega)
          subst hA
          have cc : ∀ j u, j < 4 → x.cells[j]? = some u → ∀ W, Keep [] wr W → W.cell? ⟨b, o + i * 4 + j, none⟩ = some u := fun j u hj hu W k => by
            have h1 := hcell (i * 4 + j) u (by rw [encG_at xs i x hx j hj, hu])
            rw [← Nat.add_assoc] at h1
            exact (k.cell (p := ⟨b, o + i * 4 + j, none⟩) (by have := hkw.size; simp; omega) (by simp)).trans h1
          have t0 := cc 0 _ (by omega) rfl wr (Keep.refl _ _)
          have t1 := cc 1 _ (by omega) rfl wr (Keep.refl _ _)
          have t2 := cc 2 _ (by omega) rfl wr (Keep.refl _ _)
          have t3 := cc 3 _ (by omega) rfl wr (Keep.refl _ _)
          simp at t0
          have HCC := Lib.hid cc
          have HX := Lib.hid hx
          have HP := Lib.hid (rput_ x hxo hkw)
          have HIN := Lib.hid hlt
          have hsn := wantG_snoc hx
          have HSN := Lib.hid hsn
          clear cc hx hcell hxm hxo hlx hlt hkw hsn
          have hrel0 : Hid (x.goodB = false → ∀ W, Keep [] wr W → ∃ (i' : Nat), Value.int .i64 ((i : Int) + 1) = .int .i64 i' ∧ i' ≤ n ∧ i' ≤ 20 ∧ Mk1 w rb wb p (wantG xs i') (.slice A7 L7 c7) W) := Lib.hid (fun hng W k => ⟨i + 1, by simp, by have := HIN.out; omega, by have := HIN.out; omega, by rw [HSN.out, hng, if_neg (by decide)]; exact HM.out.keep k⟩)
          by_cases hlong : 16384 < x.pl.length
          · have z3 : (16384 : Int) < (x.pl.length : Int) := by omega
            have hng : x.goodB = false := by
              cases hb : x.goodB with
              | false => rfl
              | true => have := (x.goodB_iff.1 hb).2; omega
            have HF := Lib.hid (hrel0.out hng wr (Keep.refl _ _))
            clear hlong hng
            go_wp2_with (fail)
            exact ⟨HF.out, by simp [intOf]; have := HIN.out; omega⟩
          · have z3 : ¬ (16384 : Int) < (x.pl.length : Int) := by omega
            have HSH := Lib.hid hlong
            clear hlong
            go_wp2_with (fail)
            refine HP.out.mono ?_
            rintro e w6 ⟨Ap, np, cp, r, rfl, hr0, hgd, k6⟩
            have HR0 := Lib.hid hr0
            have HK6 := Lib.hid k6
            have HGD := Lib.hid hgd
            clear hr0 hgd k6 t0 t1 t2 t3 HP
            by_cases hg : x.goodB = true
            · have hgg := x.goodB_iff.1 hg
              have hr : r = 0 := HR0.out.2 ⟨hgg.1, by have := hgg.2; omega⟩
              subst hr
              have s0 := HCC.out 0 _ (by omega) rfl w6 HK6.out
              have s1 := HCC.out 1 _ (by omega) rfl w6 HK6.out
              have s2 := HCC.out 2 _ (by omega) rfl w6 HK6.out
              have s3 := HCC.out 3 _ (by omega) rfl w6 HK6.out
              simp at s0
              have hgd2 := HGD.out hgg
              obtain ⟨wi, hwi⟩ : ∃ wi, wi = x.wire := ⟨_, rfl⟩
              have hwl : wi.length ≤ 20000 := by rw [hwi, x.wire_len]; have := hgg.2; omega
              have HWI := Lib.hid hwi
              rw [← hwi] at hgd2
              clear hwi
              obtain ⟨hnp, hrw⟩ := hgd2
              subst hnp
              obtain ⟨_, _, he, _, _, hrd⟩ := hrw.reads
              injection he with he1 he2 he3
              clear he2
              subst he1 he3
              rw [encB_len] at hrd
              have HM6 := Lib.hid (HM.out.keep HK6.out)
              have HG := Lib.hid hg
              have HRD := Lib.hid hrd
              have HWL := Lib.hid hwl
              clear hg hgg hrw hrd hwl
              obtain ⟨j0, y0, gi, gz, gz0, gz1, gz2⟩ := fr_info
              go_wp2_with (at_builtin; apply wpList_append_row _ rfl _ _ _ rfl w.heap.size 5 i0 z0 1 Try.underlying25 hi hz hz0 hz1 hz2 (.slice A7 L7 c7) _ rfl HM6.out.row _ Ap _ cp (encB wi) rfl HRD.out encB_one (by rw [← HLL.out.1]; have h1 := HLL.out.1; rw [encB_len] at h1; have := HLL.out.2; have := HWL.out; unfold maxLen; omega) (by rw [← HLL.out.1]; have h1 := HLL.out.1; rw [encB_len] at h1; have := HLL.out.2; have := HWL.out; omega) HM6.out.kw.size; intro v7 w7 hrow7 k7 hm7)
              rw [← encB_append] at hrow7
              obtain ⟨hkw7, hbr7, Aw, cw, hbw7, ho7⟩ := HM6.out.wire hrow7 k7
              have hout7 : ∀ pp : Addr, pp.block = b → w7.cell? pp = w6.cell? pp := fun pp hp => k7.cell (by have := HM6.out.kw.size; omega) (fun hm => by
                have h1 := HM6.out.row.lt pp.block (by simpa using hm)
                omega)
              have s0 := (hout7 ⟨b, o + i * 4, none⟩ rfl).trans s0
              have s1 := (hout7 ⟨b, o + i * 4 + 1, none⟩ rfl).trans s1
              have s2 := (hout7 ⟨b, o + i * 4 + 2, none⟩ rfl).trans s2
              have s3 := (hout7 ⟨b, o + i * 4 + 3, none⟩ rfl).trans s3
              have HROW7 := Lib.hid hrow7
              have HKW7 := Lib.hid hkw7
              have HBR7 := Lib.hid hbr7
              have HBW7 := Lib.hid hbw7
              have HO7 := Lib.hid ho7
              have HOW := Lib.hid (own_blk ho7)
              obtain ⟨nw, hnw⟩ : ∃ nw, nw = (wantG xs i).length := ⟨_, rfl⟩
              have hnw20 : nw ≤ 20 := by have := wantG_len xs i; omega
              rw [← hnw] at HBW7 HO7 HOW
              clear hrow7 hkw7 hbr7 hbw7 ho7 hout7 k7 hm7 hnw
              have HI := Lib.hid (And.intro gi (And.intro gz (And.intro gz0 (And.intro gz1 gz2))))
              clear gi gz gz0 gz1 gz2
              go_wp2_with (fail)
              refine wpIn_wide.1 (region_rtc (n := 0) [(5, true), (6, true), (7, false)] []
                [(0, .slice Aw nw cw), (1, .slice (some ⟨b, o, none⟩) n c), (2, .int .i64 i), (3, .pointer (some ⟨b, o + i * 4, none⟩)), (4, .agg #[.int .i64 x.t, .int .i64 x.f, .int .i64 x.s, .slice x.A x.pl.length x.c])]
                (fun W => Keep (Value.slice Aw nw cw).ownBlock.toList w7 W) (by kernel_rfl) (by kernel_rfl) ((Keep.refl _ _).drew) ?_ ?_)
              · simp only [evOkC, putAll, List.getElem?_toArray, List.getElem?_cons_zero, List.getElem?_cons_succ, Option.bind_some, Act.put, List.setIfInBounds_toArray, List.set_cons_zero, List.set_cons_succ]
                repeat' apply And.intro
                · intro W hW
                  refine gives_read rfl ?_
                  have e6 := ((HBW7.out.keep hW (fun hm => by obtain ⟨_, cs, hb⟩ := HOW.out _ (by simpa using hm); exact HBW7.out.ne_ hb (by decide) rfl)).cell 0)
                  simp at e6
                  simp [go_sem, e6]
                · intro W hW
                  refine gives_read rfl ?_
                  simp [go_sem]
                · intro W hW
                  refine gives_read rfl ?_
                  simp [go_sem]
                · intro W hW
                  refine gives_read rfl ?_
                  simp [go_sem, z1, Addr.add]
                · intro W hW
                  refine gives_read rfl ?_
                  have hout : ∀ pp : Addr, pp.block = b → W.cell? pp = w7.cell? pp := fun pp hp => hW.cell (by have := HKW7.out.size; omega) (fun hm => by
                    obtain ⟨h1, _⟩ := HOW.out _ (by simpa using hm)
                    omega)
                  have y0 := (hout ⟨b, o + i * 4, none⟩ rfl).trans s0
                  have y1 := (hout ⟨b, o + i * 4 + 1, none⟩ rfl).trans s1
                  have y2 := (hout ⟨b, o + i * 4 + 2, none⟩ rfl).trans s2
                  have y3 := (hout ⟨b, o + i * 4 + 3, none⟩ rfl).trans s3
                  simp [go_sem, Addr.add, y0, y1, y2, y3]
                · exact trivial
              · simp only [putAll, List.getElem?_toArray, List.getElem?_cons_zero, List.getElem?_cons_succ, Option.bind_some, Act.put, List.setIfInBounds_toArray, List.set_cons_zero, List.set_cons_succ]
                refine tail_wanted rfl rfl ?_
                simp [go_sem]
                obtain ⟨Wa, hWa⟩ : ∃ Wa, Wa = (w7.alloc (.cells #[.int .i64 x.t, .int .i64 x.f, .int .i64 x.s, .slice x.A x.pl.length x.c] 27)).drew := ⟨_, rfl⟩
                have rN : Reads Wa (w7.heap.size + 1) 4 (some ⟨w7.heap.size, 0, none⟩) 1 (encG [x]) := by rw [hWa]; exact (reads_new w7 #[.int .i64 x.t, .int .i64 x.f, .int .i64 x.s, .slice x.A x.pl.length x.c] 27 (0, 0) 4 1 rfl).drew
                have kWa : Keep [] w7 Wa := by rw [hWa]; exact ((Keep.refl [] w7).alloc _).drew
                rw [← hWa]
                clear hWa
                refine ⟨⟨kWa.more (by simp), gHolds_none rfl⟩, ?_⟩
                have oWa := own_keep HO7.out kWa (by simp)
                refine tail_wanted rfl rfl ?_
                refine wpIn_append_any Wa _ _ _ rfl w.heap.size 27 j0 y0 4 48 Try.underlying22 HI.out.1 HI.out.2.1 HI.out.2.2.1 HI.out.2.2.2.1 HI.out.2.2.2.2 (by omega) (.slice Aw nw cw) nw _ rfl oWa (w7.heap.size + 1) (some ⟨w7.heap.size, 0, none⟩) 1 1 _ rfl rN (encG_one _) (by unfold maxLen; omega) (by omega) (by have h1 := kWa.size; have h2 := HKW7.out.size; omega) ?_
                intro v10 Wb o10 g10 m10
                have kWb : Keep (Value.slice Aw nw cw).ownBlock.toList w7 Wb := (kWa.more (by simp)).trans (Keep.of_grown g10)
                refine ⟨rfl, ⟨fun _ => kWb, gHolds_none rfl⟩, ?_⟩
                have bwb := HBW7.out.keep kWb (fun hm => by obtain ⟨_, cs, hb⟩ := HOW.out _ (by simpa using hm); exact HBW7.out.ne_ hb (by decide) rfl)
                have e0 := bwb.cell 0
                have f0 := bwb.frozen 0
                simp at e0
                obtain ⟨A10, n10, c10, hv10⟩ : ∃ A10 n10 c10, v10 = .slice A10 n10 c10 := by
                  rcases o10.2 with ⟨h, _⟩ | ⟨g, cap, cur, h, _⟩
                  · exact ⟨_, _, _, h⟩
                  · exact ⟨_, _, _, h⟩
                subst hv10
                have hn10 : n10 = nw + 1 := by
                  rcases o10.2 with ⟨h, h2⟩ | ⟨g, cap, cur, h, _⟩
                  · injection h with _ h; omega
                  · injection h with _ h
                subst hn10
                refine tail_wanted rfl rfl ?_
                simp [go_sem, e0, f0]
                refine ⟨gHolds_none rfl, ?_⟩
                unfold wpTailG
                have bwc := bwb.set_ 0 (.slice A10 (nw + 1) c10)
                simp only [List.setIfInBounds_toArray, List.set_cons_zero] at bwc
                have kc : Keep [wb] Wb (Wb.setCell ⟨wb, 0, none⟩ (.slice A10 (nw + 1) c10)) := (Keep.refl _ _).setCell (p := ⟨wb, 0, none⟩) (.inl (by simp)) _
                have oc := own_keep o10 kc (fun k hk => by
                  obtain ⟨_, cs, hb⟩ := own_blk o10 k hk
                  simp
                  exact fun h => bwb.ne_ (h ▸ hb) (by decide) rfl)
                have hsn := HSN.out
                rw [HG.out, if_pos rfl] at hsn
                have hM' : Mk1 w rb wb p (wantG xs (i + 1)) v7 (Wb.setCell ⟨wb, 0, none⟩ (.slice A10 (nw + 1) c10)) := by
                  have hlt := HM.out.lt
                  have hnl : (wantG xs (i + 1)).length = nw + 1 := by
                    have h1 := oc.1
                    rw [← encG_app, ← hsn, encG_len] at h1
                    omega
                  refine ⟨(HKW7.out.step kWb (fun g hg => .inr (HOW.out g (by simpa using hg)).1)).step kc (by simp; omega), (HBR7.out.keep kWb (fun hm => by obtain ⟨_, cs, hb⟩ := HOW.out _ (by simpa using hm); exact HBR7.out.ne_ hb (by decide) rfl)).keep kc (by simp; omega), ?_, hlt, A10, c10, ?_, ?_⟩
                  · rw [hsn, encW_snoc, ← List.append_assoc, ← HWI.out]
                    refine (HROW7.out.keep kWb (fun g hg hm => ?_)).keep kc (fun g hg => ?_)
                    · obtain ⟨_, cs, hb⟩ := HOW.out g (by simpa using hm)
                      exact row_ne HROW7.out hb (by decide) g hg rfl
                    · simp
                      exact row_ne HROW7.out HBW7.out (by decide) g hg
                  · rw [hnl]; exact bwc
                  · rw [hnl, hsn, encG_app]; exact oc
                have HF : Hid (∃ (i' : Nat), Value.int .i64 ((i : Int) + 1) = .int .i64 i' ∧ i' ≤ n ∧ i' ≤ 20 ∧ Mk1 w rb wb p (wantG xs i') v7 (Wb.setCell ⟨wb, 0, none⟩ (.slice A10 (nw + 1) c10))) := Lib.hid ⟨i + 1, by simp, by have := HIN.out; omega, by have := HIN.out; omega, hM'⟩
                clear hM' hsn bwc oc kc kWb bwb e0 f0 o10 g10 m10 oWa rN kWa s0 s1 s2 s3
                obtain ⟨Wc, hWc⟩ : ∃ Wc, Wc = Wb.setCell ⟨wb, 0, none⟩ (.slice A10 (nw + 1) c10) := ⟨_, rfl⟩
                rw [← hWc] at HF ⊢
                clear hWc
                try go_at_K
                go_wp2_with (fail)
                exact ⟨HF.out, by simp [intOf]; have := HIN.out; omega⟩
            · have hng : x.goodB = false := by simpa using hg
              have hr : (r == 0) = false := by
                rw [beq_eq_false_iff_ne]
                intro h
                have h1 := HR0.out.1 h
                have : x.goodB = true := x.goodB_iff.2 ⟨h1.1, by have := HSH.out; omega⟩
                rw [hng] at this; cases this
              have HF := Lib.hid (hrel0.out hng w6 HK6.out)
              clear hg hng
              go_wp2_with (fail)
              exact ⟨HF.out, by simp [intOf]; have := HIN.out; omega⟩
        · have him : wantG xs i = wantG xs (min n 20) := by
            have h : i = n ∨ i = 20 := by omega
            rcases h with rfl | rfl
            · rcases Nat.lt_or_ge i 20 with h | h
              · rw [Nat.min_eq_left (by omega)]
              · rw [show i = 20 by omega]; rfl
            · rw [Nat.min_eq_right (by omega)]
          have hF : Hid (∃ ys : List Gf, ys.length ≤ 20 ∧ (∀ y ∈ ys, y.ok w ∧ y.good) ∧ Mk1 w rb wb p ys (.slice A7 L7 c7) wr) := Lib.hid ⟨wantG xs i, by have := wantG_len xs i; omega, fun y hy => ⟨HOK.out y (wantG_mem hy).1, (wantG_mem hy).2⟩, HM.out⟩
          have q : ¬ (i : Int) < (n : Int) ∨ ((i : Int) < (n : Int) ∧ ¬ (i : Int) < 20) := by omega
          clear hlt hin hi20 him HM hlx
          rcases q with q | ⟨q, q2⟩
          · go_wp2_with (fail)
            go_meet
            case rel => exact hF.out
          · go_wp2_with (fail)
            go_meet
            case rel => exact hF.out
    case rest =>
      obtain ⟨ys, hyl, hyk, M1⟩ := hcut
      obtain ⟨A8, c8', rfl, hl8, hc8, hrd8⟩ := M1.row.reads
      obtain ⟨L8, hL8⟩ : ∃ L8, L8 = (encB (preB p ++ encW ys)).length := ⟨_, rfl⟩
      rw [← hL8] at M1
      have hT := encW_len ys (fun y hy => (hyk y hy).2)
      have hpl : (preB p).length ≤ 24 := by cases p <;> decide
      obtain ⟨tot, htot⟩ : ∃ tot, tot = preB p ++ encW ys := ⟨_, rfl⟩
      have HTL : Hid (tot.length ≤ 350000) := Lib.hid (by rw [htot, List.length_append]; omega)
      rw [← hL8]
      have hw1 : w.heap.size ≤ wc.heap.size := M1.kw.size
      clear hl8 hc8 hrd8 hT hpl HM0 HR HOK HXL HNC hL8
      go_wp2_with (fail)
      refine (newX _ p 16384 (by omega) (by omega)).mono ?_
      rintro e w6 ⟨rfl, hX6, k6⟩
      obtain ⟨fb, hfb⟩ : ∃ fb, fb = wc.heap.size := ⟨_, rfl⟩
      have M6 := M1.keep k6
      have hlt8 : ∀ g, rowBlk (.slice A8 L8 c8') = some g → g < fb := fun g hg => by rw [hfb]; exact (M1.row.lt g hg).2
      have hrbl : rb < fb ∧ wb < fb ∧ w.heap.size ≤ fb := by
        obtain ⟨_, _, h1, _⟩ := M1.wt
        have := h1.lt
        have := M1.br.lt
        omega
      have hGJ : GJ w fb rb wb ys w6 := by
        obtain ⟨A, cw, h1, h2⟩ := M1.wt
        refine ⟨M6.kw, M6.br, ⟨A, cw, h1.keep k6 (by simp), ?_⟩, hrbl.2.2, hrbl.1, hrbl.2.1⟩
        by_cases h0 : ys.length = 0
        · exact .inl h0
        · right
          obtain ⟨og, cw', cs, he, _, _, hb, hrw⟩ := rowIs_of h2 (by omega)
          injection he with he1 _ _
          exact ⟨og, cs, he1, hb.keep k6 (by simp), hrw, by rw [hfb]; exact hb.lt⟩
      rw [← hfb] at hX6 ⊢
      have HYL := Lib.hid hyl
      have HYK := Lib.hid hyk
      have HROW := Lib.hid M6.row
      have HLT := Lib.hid hlt8
      have BK := Blk.new w6 3 #[.int .i64 0]
      have kA : Keep [] w6 (w6.alloc (.cells #[.int .i64 0] 3)) := (Keep.refl _ _).alloc _
      have hX7 := hX6.alloc (.cells #[.int .i64 0] 3)
      have hG7 := hGJ.step kA (by simp)
      have hR7 := M6.row.keep kA (by simp)
      have hfk := hX6.lt
      clear M1 M6 hlt8 hrbl hGJ hyl hyk hw1 k6 kA hX6 hfb
      go_upto_block 2 with (fail)
      obtain ⟨W7, hW7⟩ : ∃ W7, W7 = w6.alloc (.cells #[.int .i64 0] 3) := ⟨_, rfl⟩
      obtain ⟨kb, hkb⟩ : ∃ kb, kb = w6.heap.size := ⟨_, rfl⟩
      rw [← hW7, ← hkb] at BK ⊢
      rw [← hW7] at hX7 hG7 hR7
      rw [← hkb] at hfk
      clear hW7 hkb
      have HO : Hid (OutI w fb rb wb kb p ys tot.length (.slice A8 L8 c8') 0 [] W7) := Lib.hid ⟨tot, p, [], 0, by rw [htot]; exact hR7, HLT.out, hX7, by
        cases p with
        | true => exact .inl ⟨rfl, rfl, rfl, by rw [htot]; rfl⟩
        | false => exact .inr ⟨rfl, by omega, by rw [htot]; rfl⟩, by
        cases p with
        | true => exact .inl ⟨rfl, by decide⟩
        | false => exact .inr ⟨rfl, .inl (by decide)⟩, BK, hG7, ⟨List.nodup_nil, by simp⟩, hfk, by omega, Nat.le_refl _⟩
      clear hX7 hG7 hR7 BK hfk htot HROW HLT
      go_step
      refine wp_loop (fun a W => ∃ (v8 : Value) (i : Nat) (Ds : List Nat) (x17 x18 x73 x74 x75 x76 x77 x78 x79 x80 x81 x82 x83 x84 x85 x86 x87 x88 x89 x90 x91 x92 x93 x94 x95 x96 x97 x98 x99 x100 x101 x102 x103 x104 x105 x106 x107 x108 x109 x110 x111 x112 x113 x114 : Value), OutI w fb rb wb kb p ys tot.length v8 i Ds W ∧ a = ⟨#[.slice A n c, .slice A2 n2 c2, .bool p, undef, undef, undef, .pointer (some ⟨rb, 0, none⟩), .bool true, v8, .pointer (some ⟨wb, 0, none⟩), u10, u11, u12, .pointer (some ⟨fb, 0, none⟩), .int .i64 0, .pointer (some ⟨kb, 0, none⟩), .int .i64 i, x17, x18, undef, undef, u21, u22, u23, u24, u25, u26, u27, u28, u29, u30, u31, u32, u33, u34, u35, u36, u37, u38, u39, u40, u41, u42, u43, u44, u45, u46, u47, u48, u49, u50, u51, u52, u53, u54, u55, u56, u57, u58, u59, u60, u61, .tuple #[.pointer (some ⟨fb, 0, none⟩), .int .i64 0], .bool p, .tuple #[.pointer (some ⟨fb, 0, none⟩), .int .i64 0], .pointer (some ⟨fb, 0, none⟩), .int .i64 0, .int .i64 0, .bool false, .bool false, .pointer (some ⟨fb, 0, none⟩), .bool false, .bool false, x73, x74, x75, x76, x77, x78, x79, x80, x81, x82, x83, x84, x85, x86, x87, x88, x89, x90, x91, x92, x93, x94, x95, x96, x97, x98, x99, x100, x101, x102, x103, x104, x105, x106, x107, x108, x109, x110, x111, x112, x113, x114, u115, u116, u117, u118, u119, u120, u121, u122, u123, u124, u125, u126, u127, u128, u129, u130, u131, u132, u133, u134, u135, u136, u137, u138, u139, u140, u141, u142, u143, u144, u145, u146], Ds.map mark⟩) mu6 ?start ?round
      case start => exact ⟨_, 0, [], _, _, _, _, _, _, _, _, _, _, _, _, _, _, _, _, _, _, _, _, _, _, _, _, _, _, _, _, _, _, _, _, _, _, _, _, _, _, _, _, _, _, _, _, HO.out, rfl⟩
      case round =>
        rintro a W hI
        obtain ⟨v8, hI⟩ := hI
        obtain ⟨i, hI⟩ := hI
        obtain ⟨Ds, hI⟩ := hI
        obtain ⟨x17, hI⟩ := hI
        obtain ⟨x18, hI⟩ := hI
        obtain ⟨x73, hI⟩ := hI
        obtain ⟨x74, hI⟩ := hI
        obtain ⟨x75, hI⟩ := hI
        obtain ⟨x76, hI⟩ := hI
        obtain ⟨x77, hI⟩ := hI
        obtain ⟨x78, hI⟩ := hI
        obtain ⟨x79, hI⟩ := hI
        obtain ⟨x80, hI⟩ := hI
        obtain ⟨x81, hI⟩ := hI
        obtain ⟨x82, hI⟩ := hI
        obtain ⟨x83, hI⟩ := hI
        obtain ⟨x84, hI⟩ := hI
        obtain ⟨x85, hI⟩ := hI
        obtain ⟨x86, hI⟩ := hI
        obtain ⟨x87, hI⟩ := hI
        obtain ⟨x88, hI⟩ := hI
        obtain ⟨x89, hI⟩ := hI
        obtain ⟨x90, hI⟩ := hI
        obtain ⟨x91, hI⟩ := hI
        obtain ⟨x92, hI⟩ := hI
        obtain ⟨x93, hI⟩ := hI
        obtain ⟨x94, hI⟩ := hI
        obtain ⟨x95, hI⟩ := hI
        obtain ⟨x96, hI⟩ := hI
        obtain ⟨x97, hI⟩ := hI
        obtain ⟨x98, hI⟩ := hI
        obtain ⟨x99, hI⟩ := hI
        obtain ⟨x100, hI⟩ := hI
        obtain ⟨x101, hI⟩ := hI
        obtain ⟨x102, hI⟩ := hI
        obtain ⟨x103, hI⟩ := hI
        obtain ⟨x104, hI⟩ := hI
        obtain ⟨x105, hI⟩ := hI
        obtain ⟨x106, hI⟩ := hI
        obtain ⟨x107, hI⟩ := hI
        obtain ⟨x108, hI⟩ := hI
        obtain ⟨x109, hI⟩ := hI
        obtain ⟨x110, hI⟩ := hI
        obtain ⟨x111, hI⟩ := hI
        obtain ⟨x112, hI⟩ := hI
        obtain ⟨x113, hI⟩ := hI
        obtain ⟨x114, hI⟩ := hI
        obtain ⟨hO, rfl⟩ := hI
        obtain ⟨ws, asks, bs, j, hrow, hv8, hX, hst, hq, hk, hG, hD, hfk, hle, hle2⟩ := hO
        obtain ⟨A9, c9, rfl, hl9, hc9, hrd9⟩ := hrow.reads
        rw [encB_len] at hl9 hrd9
        obtain ⟨L, hL⟩ : ∃ L, L = ws.length := ⟨_, rfl⟩
        have hL2 : (encB ws).length = L := by rw [encB_len, hL]
        rw [hL2] at hrow hv8 ⊢
        rw [← hL] at hl9 hrd9 hle hle2
        have HRW := Lib.hid hrow
        have HV8 := Lib.hid hv8
        have HX := Lib.hid hX
        have HST := Lib.hid hst
        have HQ := Lib.hid hq
        have HK := Lib.hid hk
        have HGJ := Lib.hid hG
        have HDM := Lib.hid hD
        have HLE2 : Hid (i + L ≤ 100 + tot.length ∧ L ≤ tot.length) := Lib.hid ⟨hle, hle2⟩
        have HLE : Hid (i + L ≤ 100 + tot.length ∧ fb < kb ∧ L = ws.length ∧ L ≤ c9) := Lib.hid ⟨hle, hfk, hL, hl9⟩
        have HRD := Lib.hid hrd9
        clear hrow hv8 hX hst hq hk hG hD hfk hle hle2 hL hL2 hl9 hc9 hrd9 HO
        by_cases h0 : 0 < L
        · have q0 : (0 : Int) < (L : Int) := by omega
          have q0n : Hid (0 < L) := Lib.hid h0
          go_upto_if 81 with (fail)
          go_cut [17] from 73 to 114 (fun v17 wx => ∃ z : Int, v17 = .int .i64 z ∧ wx = W)
          case first =>
            by_cases hi2 : i < n2
            · have q1 : (i : Int) < (n2 : Int) := by omega
              obtain ⟨ad, z, hz1, _, hz2, hz3⟩ := (HR2.out.keeps HGJ.out.kw (Nat.le_refl _) (by simp)).at_ hi2
              obtain ⟨z', rfl⟩ : ∃ z', z = .int .i64 z' := by
                rw [List.getElem?_map] at hz2
                cases hzz : zs[i]? with
                | none => rw [hzz] at hz2; cases hz2
                | some q => rw [hzz] at hz2; exact ⟨q, (Option.some.inj hz2).symm⟩
              obtain ⟨b2, o2, hA2, _, hcell2⟩ := (HR2.out.keeps HGJ.out.kw (Nat.le_refl _) (by simp)).plain (by omega) (by omega)
              have hz4 := hcell2 i _ hz2
              subst hA2
              clear hz1 hz2 hz3 hcell2
              go_wp2_with (fail)
              go_meet
              case rel => exact ⟨_, rfl, rfl⟩
            · have q1 : ¬ (i : Int) < (n2 : Int) := by omega
              go_wp2_with (fail)
              go_meet
              case rel => exact ⟨_, rfl, rfl⟩
          case rest =>
            obtain ⟨z, rfl, rfl⟩ := hcut
            go_step
            go_step
            go_cut [17] from 73 to 114 (fun v17 wx => ∃ k : Nat, v17 = .int .i64 k ∧ k ≤ L ∧ wx = wc)
            case first =>
              by_cases hz0 : z < 0
              · go_wp2_with (fail)
                go_meet
                case rel => exact ⟨_, rfl, Nat.le_refl _, rfl⟩
              · by_cases hz1 : (L : Int) < z
                · go_wp2_with (fail)
                  go_meet
                  case rel => exact ⟨_, rfl, Nat.le_refl _, rfl⟩
                · obtain ⟨k, rfl⟩ : ∃ k : Nat, z = k := ⟨z.toNat, by omega⟩
                  go_wp2_with (fail)
                  go_meet
                  case rel => exact ⟨_, rfl, by omega, rfl⟩
            case rest =>
              obtain ⟨k, rfl, hkL, rfl⟩ := hcut
              go_step
              go_step
              rename_i wcc
              go_cut [17] from 73 to 114 (fun v17 wx => ∃ k : Nat, v17 = .int .i64 k ∧ k ≤ L ∧ (k = 0 → i < 100) ∧ wx = wc)
              case first =>
                by_cases hk0 : k = 0
                · subst hk0
                  by_cases hi1 : (100 : Int) ≤ (i : Int)
                  · go_wp2_with (fail)
                    go_meet
                    case rel => exact ⟨1, rfl, by omega, by omega, rfl⟩
                  · go_wp2_with (fail)
                    go_meet
                    case rel => exact ⟨0, rfl, by omega, by omega, rfl⟩
                · have hk1 : ((k : Int) == 0) = false := by rw [beq_eq_false_iff_ne]; omega
                  go_wp2_with (fail)
                  go_meet
                  case rel => exact ⟨k, rfl, hkL, by omega, rfl⟩
              case rest =>
                obtain ⟨k, rfl, hkL, hki, rfl⟩ := hcut
                have r1 : (k : Int) ≤ (c9 : Int) := by have := HLE.out; omega
                have r2 : (k : Int) ≤ (L : Int) := by omega
                have r3 : (0 : Int) ≤ (k : Int) := by omega
                have hrk := HRD.out.first (m := k) hkL
                rw [Nat.mul_one, ← encB_take] at hrk
                have HLW := Lib.hid (St.len HST.out (fun y hy => (HYK.out y hy).2) HYL.out)
                have HKL := Lib.hid hkL
                have HKI := Lib.hid hki
                clear hkL hki
                go_wp2_with (fail)
                refine (putX HX.out (by have := HX.out.lt; omega) hrk (by have := HLW.out; have := HKL.out; have := HLE.out; have := HTL.out; omega)).mono ?_
                rintro e w8 ⟨rfl, hX8, gs, k8, hg⟩
                have hk8 := HK.out.keep k8 (hg.blk HK.out (by decide) (by have := HLE.out; omega))
                have hge := hg.ge (Nat.le_refl _)
                have hG8 := HGJ.out.step k8 hge
                have hD8 := HDM.out.keep k8 (NoDf.put hg HX.out)
                have hrow8 := HRW.out.keep k8 (fun g h hm => by have := HV8.out g h; have := hge g hm; omega)
                have hst8 := HST.out.put k
                have hcut := hrow8.cut k (by rw [encB_len]; have := HLE.out; have := HKL.out; omega) A9 L c9 rfl
                have hsame := cut_same A9 L c9 k
                rw [← encB_drop] at hcut
                obtain ⟨Ac, hAc⟩ : ∃ Ac, (if c9 = k then A9 else A9.map (·.add k)) = Ac := ⟨_, rfl⟩
                rw [hAc] at hcut hsame
                have HAC := Lib.hid hAc
                have HX8 := Lib.hid hX8
                have HK8 := Lib.hid hk8
                have HG8 := Lib.hid hG8
                have HD8 := Lib.hid hD8
                have HST8 := Lib.hid hst8
                have HR8 := Lib.hid hcut
                have HV := Lib.hid (fun g h => HV8.out g (hsame g h) : ∀ g, rowBlk (.slice Ac (L - k) (c9 - k)) = some g → g < fb)
                clear hX8 gs k8 hg hk8 hge hG8 hD8 hrow8 hst8 hcut hsame hAc hrk HX HK HGJ HDM HRW HV8 HST HQ
                go_upto_region 30 with (fail)
                try rw [HAC.out]
                go_wp2_with (fail)
                refine (all_ _ _).mono ?_
                rintro e w9 ⟨rfl, rfl⟩
                have BC := Blk.new w8 31 #[.pointer (some ⟨fb, 0, none⟩)]
                have kA : Keep [] w8 (w8.alloc (.cells #[.pointer (some ⟨fb, 0, none⟩)] 31)) := (Keep.refl _ _).alloc _
                have hXS := HX8.out.keep kA (by simp)
                have BKS := HK8.out.keep kA (by simp)
                have hGS := HG8.out.step kA (by simp)
                have hDS := HD8.out.keep kA (fun g hg => by simp at hg)
                have hRS := HR8.out.keep kA (by simp)
                obtain ⟨S, hS⟩ : ∃ S, S = w8.alloc (.cells #[.pointer (some ⟨fb, 0, none⟩)] 31) := ⟨_, rfl⟩
                obtain ⟨cb, hcb⟩ : ∃ cb, cb = w8.heap.size := ⟨_, rfl⟩
                have szS : cb + 1 = S.heap.size := by rw [hS, hcb]; simp
                have hkc : kb < cb ∧ fb < cb := by have := HK8.out.lt; have := HX8.out.lt; omega
                rw [← hS] at BC hXS BKS hGS hDS hRS ⊢
                rw [← hcb] at BC ⊢
                have HL : Hid (kb < cb ∧ fb < kb ∧ cb < S.heap.size ∧ w.heap.size ≤ fb) := Lib.hid ⟨hkc.1, HLE.out.2.1, by omega, HG8.out.lt.1⟩
                clear hS hcb szS hkc kA HX8 HK8 HG8 HD8 HR8
                go_wp2_with (fail)
                obtain ⟨wsr, hwsr⟩ : ∃ wsr, wsr = ws.drop k := ⟨_, rfl⟩
                obtain ⟨v8, hv8⟩ : ∃ v8, v8 = Value.slice Ac (L - k) (c9 - k) := ⟨_, rfl⟩
                have HRS := Lib.hid hRS
                have HVV := Lib.hid HV.out
                rw [← hwsr] at HST8 HRS
                rw [← hv8] at HRS HVV
                have HWSR := Lib.hid hwsr
                have HV8E := Lib.hid hv8
                clear hwsr hv8 hRS HV
                refine rng_stmt' (n := 5) (gf := 20) (lb := #[.pointer (some ⟨cb, 0, none⟩)]) (by first | rfl | simp) (enters_of Try.func20 (by kernel_rfl) rfl) ?_
                intro rc hrc W1 hW1
                have szW1 : S.heap.size ≤ W1.heap.size := by rw [hW1]; simp; omega
                refine (allIt (m := 4) (B := S.heap.size) (c1 := cb) (p := some ⟨fb, 0, none⟩) ys.length (fun W => cntOf kb W - j)
                  (fun q W => (∃ asks bs, FdX W fb fb asks 16384 bs 0 ∧ St p ys asks bs wsr (j + q)) ∧ Blk W kb 3 #[.int .i64 ((j + q : Nat) : Int)] ∧ RJ w S.heap.size fb rb wb cb ys Ds v8 wsr (rc .ready none) W)
                  (fun q t f s u W => ∃ y A c, ys[j + q]? = some y ∧ t = y.t ∧ f = y.f ∧ s = y.s ∧ u = .slice A y.pl.length c ∧ Row1 W fb 5 (.slice A y.pl.length c) (encB y.pl) ∧ (∃ bs, FdX W fb fb false 16384 bs 0 ∧ St p ys false bs wsr (j + q + 1)) ∧ Blk W kb 3 #[.int .i64 ((j + q : Nat) : Int)] ∧ RJ w S.heap.size fb rb wb cb ys Ds v8 wsr (rc .ready none) W)
                  (fun W => ∃ asks bs jj, FdX W fb fb asks 16384 bs 0 ∧ St p ys asks bs wsr jj ∧ Quiet asks bs ∧ Blk W kb 3 #[.int .i64 (jj : Nat)] ∧ RJ w S.heap.size fb rb wb cb ys Ds v8 wsr (rc .ready none) W)
                  (fun _ => False) W1 szW1 ?hc ?hnext ?hyield ?hmu ?hJ ?hM ?hD ?start).mono ?fin
                case hc =>
                  rintro q W ⟨_, _, hG⟩
                  have := hG.bc.cell 0
                  simpa using this
                case hnext =>
                  rintro q W ⟨⟨asks, bs, hX, hst⟩, hk, hG⟩
                  have hkn : kb ≠ fb := by have := HL.out; omega
                  refine (nextSt hX hst (fun y hy => (HYK.out y hy).2) HYL.out).mono ?_
                  rintro e W' ⟨hres, k'⟩
                  refine ⟨?_, XK.fb hX k'⟩
                  rcases hres with ⟨he, asks', bs', hX', hst', hq'⟩ | ⟨y, A', c', hyj, he, hrow, bs', hX', hst'⟩
                  · exact .inl ⟨he, asks', bs', _, hX', hst', hq', hk.keep k' (by simp; omega), hG.fbs hX k'⟩
                  · exact .inr ⟨_, _, _, A', _, c', he, y, A', c', hyj, rfl, rfl, rfl, rfl, hrow.lower (by have := hX.lt; omega), ⟨bs', hX', hst'⟩, hk.keep k' (by simp; omega), hG.fbs hX k'⟩
                case hmu =>
                  rintro q t f s u W ⟨y, A', c', hy, _, _, _, _, _, _, hk, _⟩
                  refine ⟨by have := (List.getElem?_eq_some_iff.1 hy).1; omega, ?_⟩
                  have := hk.cell 0
                  simp at this
                  simp [cntOf, this]
                  omega
                case hJ =>
                  rintro q W W' ⟨⟨asks, bs, hX, hst⟩, hk, hG⟩ k'
                  exact ⟨⟨asks, bs, hX.keep k' (by simp), hst⟩, hk.keep k' (by simp), hG.nil k'⟩
                case hM =>
                  rintro q t f s u W W' gs ⟨y, A', c', h1, h2, h3, h4, h5, h6, ⟨bs, hX, hst⟩, hk, hG⟩ hf k'
                  exact ⟨y, A', c', h1, h2, h3, h4, h5, h6.frames hf k', ⟨bs, hX.frames hf k', hst⟩, hk.frames (by decide) hf k', hG.frs k' hf (by have := HL.out; omega)⟩
                case hD =>
                  rintro W W' gs ⟨asks, bs, jj, hX, hst, hq, hk, hG⟩ hf k'
                  exact ⟨asks, bs, jj, hX.frames hf k', hst, hq, hk.frames (by decide) hf k', hG.frs k' hf (by have := HL.out; omega)⟩
                case start =>
                  have KB : Keep [] S W1 := by rw [hW1]; exact ((Keep.refl [] S).alloc _).alloc _
                  have q1 : W1.heap[S.heap.size + 1]? = some (.loop (rc .ready none)) := by rw [hW1]; have := heap_alloc_new (S.alloc (.deferred (some []))) (.loop (rc .ready none)); simpa using this
                  have q2 : W1.heap[S.heap.size]? = some (.deferred (some [])) := by rw [hW1]; exact (Below.heap_alloc _ _ _ (by simp)).trans (heap_alloc_new S (.deferred (some [])))
                  exact ⟨⟨asks, _, hXS.keep KB (by simp), HST8.out⟩, BKS.keep KB (by simp), ⟨q1, q2⟩, BC.keep KB (by simp), hGS.step KB (by simp), hDS.keep KB (fun g hg => by simp at hg), HRS.out.keep KB (by simp), HVV.out⟩
                case hyield =>
                  rintro q t f s u W ⟨y, A', c', hyj, rfl, rfl, rfl, rfl, hrow, ⟨bs', hX, hst⟩, hk, hG⟩
                  obtain ⟨m, hm⟩ : ∃ m, m = j + q := ⟨_, rfl⟩
                  rw [← hm] at hyj hst hk
                  have hszr : S.heap.size + 1 < W.heap.size := (Array.getElem?_eq_some_iff.1 hG.rc.rc).1
                  have hjN := (List.getElem?_eq_some_iff.1 hyj).1
                  obtain ⟨hyo, hyg⟩ := HYK.out y (List.mem_of_getElem? hyj)
                  have hS1 : fb ≤ S.heap.size := Nat.le_of_lt (Nat.lt_of_lt_of_le HL.out.2.1 (Nat.le_of_lt (Nat.lt_trans HL.out.1 HL.out.2.2.1)))
                  have HS1 := Lib.hid hS1
                  refine rng_round' hrc hG.rc.rc rfl ?_
                  have HMJ := Lib.hid hm
                  clear hrc hW1 hfe szW1 hXS BKS hGS hDS BC HRS hm hS1
                  have kA : Keep [] W (W.alloc (.cells #[.int .i64 y.t, .int .i64 y.f, .int .i64 y.s, .slice A' y.pl.length c'] 27)) := (Keep.refl _ _).alloc _
                  have BT := Blk.new W 27 #[.int .i64 y.t, .int .i64 y.f, .int .i64 y.s, .slice A' y.pl.length c']
                  have hkA := hk.keep kA (by simp)
                  have hXA := hX.alloc (.cells #[.int .i64 y.t, .int .i64 y.f, .int .i64 y.s, .slice A' y.pl.length c'] 27)
                  have hwA := hrow.keep kA (by simp)
                  have hGA := hG.nil kA
                  have L1 := Lib.hid hGA.rc.rc
                  gi_wp2
                  refine ⟨L1.out, ?_⟩
                  obtain ⟨WA, hWA⟩ : ∃ WA, WA = W.alloc (.cells #[.int .i64 y.t, .int .i64 y.f, .int .i64 y.s, .slice A' y.pl.length c'] 27) := ⟨_, rfl⟩
                  rw [← hWA] at BT hkA hXA hwA hGA kA ⊢
                  clear hWA L1
                  obtain ⟨tb, htb⟩ : ∃ tb, tb = W.heap.size := ⟨_, rfl⟩
                  rw [← htb] at BT hszr ⊢
                  have hXKA : XK S.heap.size W WA := XK.of_keep kA (by simp)
                  clear htb hrow hX hk hG kA
                  have kp : Keep [S.heap.size + 1] WA (WA.putObj (S.heap.size + 1) (.loop (rc .busy none))) := (Keep.refl _ WA).putObj (.inl (by simp)) _
                  have hk3 := hkA.keep kp (by have := HL.out; simp; omega)
                  have hX3 := FdX.loop hXA (o := .loop (rc .busy none)) hGA.rc.rc
                  have BT3 := BT.keep kp (by simp; omega)
                  have hw3 := hwA.keep kp (fun g hg => by simp; rintro rfl; exact row_obj hwA hGA.rc.rc hg)
                  have hG3 := hGA.put (l' := rc .busy none) HS1.out
                  have hXK3 := hXKA.trans (XK.of_keep' (B := S.heap.size) kp (fun g hg => .inr (.inr ⟨rc .ready none, by rw [show g = S.heap.size + 1 by simpa using hg]; exact hGA.rc.rc⟩)))
                  obtain ⟨W3, hW3⟩ : ∃ W3, W3 = WA.putObj (S.heap.size + 1) (.loop (rc .busy none)) := ⟨_, rfl⟩
                  rw [← hW3] at hk3 hX3 BT3 hw3 hG3 hXK3 ⊢
                  clear hW3 kp hkA hXA hwA BT hGA hXKA
                  obtain ⟨Aw, cw, hbw, hor⟩ := hG3.gj.wt
                  obtain ⟨og, cs, rfl, hbo, hrws, hogf⟩ : ∃ og cs, Aw = some ⟨og, 0, none⟩ ∧ Blk W3 og 27 cs ∧ RowIs cs ys ∧ og < fb := hor.resolve_left (by omega)
                  have cc : ∀ jj u, jj < 4 → y.cells[jj]? = some u → W3.cell? ⟨og, m * 4 + jj, none⟩ = some u := fun jj u hj hu => by rw [hbo.cell, hrws m y hyj jj hj, hu]
                  have kk0 := hk3.cell 0
                  have e0 := hbw.cell 0
                  simp at kk0 e0
                  have n1 : ¬ (ys.length : Int) ≤ (m : Int) := by omega
                  have n2 : (m : Int) < (ys.length : Int) := by omega
                  have n3 : m < ys.length := hjN
                  have y0' := cc 0 _ (by omega) rfl
                  have y1 := cc 1 _ (by omega) rfl
                  have y2 := cc 2 _ (by omega) rfl
                  have y3 := cc 3 _ (by omega) rfl
                  have t0 := BT3.cell 0
                  have t1 := BT3.cell 1
                  have t2 := BT3.cell 2
                  have t3 := BT3.cell 3
                  simp at t0 t1 t2 t3 y0'
                  have HMN := Lib.hid hjN
                  have Hk3 := Lib.hid hk3
                  have HX3 := Lib.hid hX3
                  have Hw3 := Lib.hid hw3
                  have HG3 := Lib.hid hG3
                  have HXK := Lib.hid hXK3
                  have HYO := Lib.hid hyo
                  have HST' := Lib.hid hst
                  clear hk3 hX3 BT3 hw3 hG3 hXK3 hyj hyo hyg hjN hszr cc hbo hrws hbw hor hst
                  gi_wp2
                  refine region_rtc [(5, false), (6, false)] []
                    [(0, .agg #[.int .i64 y.t, .int .i64 y.f, .int .i64 y.s, .slice A' y.pl.length c']), (1, .slice (some ⟨og, 0, none⟩) ys.length cw), (2, .int .i64 m), (3, .pointer (some ⟨og, m * 4, none⟩)), (4, .agg #[.int .i64 y.t, .int .i64 y.f, .int .i64 y.s, .slice y.A y.pl.length y.c])]
                    (fun X => X = W3.drew) (by kernel_rfl) (by kernel_rfl) rfl ?_ ?_
                  · simp only [evOkC, putAll, List.getElem?_toArray, List.getElem?_cons_zero, List.getElem?_cons_succ, Option.bind_some, Act.put, List.setIfInBounds_toArray, List.set_cons_zero, List.set_cons_succ]
                    repeat' apply And.intro
                    all_goals first
                      | exact trivial
                      | (rintro X rfl; refine gives_read rfl ?_; simp [go_sem, Addr.add, t0, t1, t2, t3, y0', y1, y2, y3, e0, kk0, n2, n3]; done)
                      | skip
                    · rintro X rfl
                      refine gives_read rfl ?_
                      simp [go_sem, Addr.add, n2, n3]
                      exact fun h => h.symm
                  · simp only [putAll, List.getElem?_toArray, List.getElem?_cons_zero, List.getElem?_cons_succ, Option.bind_some, Act.put, List.setIfInBounds_toArray, List.set_cons_zero, List.set_cons_succ]
                    refine tail_wanted rfl rfl ?_
                    simp [go_sem]
                    have kd : Keep [] W3 W3.drew := (Keep.refl [] W3).drew
                    obtain ⟨_, _, he, hc1, _, hrd⟩ := (Hw3.out.keep kd (by simp)).reads
                    rw [encB_len] at hc1 hrd
                    injection he with he1 he2 he3
                    clear he2
                    subst he1 he3
                    refine ⟨trivial, (CallsIn.inRound _ (callsIn_wide.2 (eq_fr y HYO.out (HG3.out.gj.kw.trans kd) hc1 hrd))).mono ?_⟩
                    rintro e W4 ⟨rfl, k4⟩
                    refine ⟨gHolds_none rfl, ?_⟩
                    refine tail_wanted rfl rfl ?_
                    simp [go_sem]
                    refine ⟨gHolds_none rfl, ?_⟩
                    unfold wpTailG
                    have kd4 := kd.trans k4
                    have hk4 := Hk3.out.keep kd4 (by simp)
                    have hX4 := HX3.out.keep kd4 (by simp)
                    have hG4 := HG3.out.nil kd4
                    have hXK4 := HXK.out.trans (XK.of_keep (B := S.heap.size) kd4 (by simp))
                    clear k4 kd4 kd Hk3 HX3 Hw3 HG3 HXK t0 t1 t2 t3 y0' y1 y2 y3 e0 kk0 n1 n2 n3 hc1 hrd
                    try go_at_K
                    have kk0 := hk4.cell 0
                    have kf0 := hk4.frozen 0
                    simp at kk0
                    have ew : wrap64 ((m : Int) + 1) = (m : Int) + 1 := by have := HYL.out; have := HMN.out; unfold wrap64; omega
                    have k5 : Keep [kb] W4 (W4.setCell ⟨kb, 0, none⟩ (.int .i64 ((m : Int) + 1))) := (Keep.refl _ W4).setCell (p := ⟨kb, 0, none⟩) (.inl (by simp)) _
                    have hk5 : Blk (W4.setCell ⟨kb, 0, none⟩ (.int .i64 ((m : Int) + 1))) kb 3 #[.int .i64 ((m : Int) + 1)] := hk4.set_ 0 _
                    have hX5 := hX4.keep k5 (fun g hg => by
                      obtain rfl : g = kb := by simpa using hg
                      exact .inr (.inr ⟨_, hk4, fun _ _ => ⟨(by intro h; injection h with _ h; exact absurd h (by decide)), (by intro h; injection h with _ h; exact absurd h (by decide))⟩⟩))
                    have hG5 := hG4.int hk4 (Nat.le_of_lt HL.out.2.1) k5
                    have hXK5 := hXK4.trans (XK.of_keep (B := S.heap.size) k5 (fun g hg => by
                      obtain rfl : g = kb := by simpa using hg
                      exact .inr ⟨_, _, by decide, hk4⟩))
                    obtain ⟨W5, hW5⟩ : ∃ W5, W5 = W4.setCell ⟨kb, 0, none⟩ (.int .i64 ((m : Int) + 1)) := ⟨_, rfl⟩
                    rw [← hW5] at hk5 hX5 hG5 hXK5
                    have HW5 := Lib.hid hW5
                    have kz : Keep [S.heap.size + 1] W5 (W5.putObj (S.heap.size + 1) (.loop (rc .ready none))) := (Keep.refl _ _).putObj (.inl (by simp)) _
                    have hkz := hk5.keep kz (by have := HL.out; simp; omega)
                    have hGz := hG5.put (l' := rc .ready none) HS1.out
                    have hXz := FdX.loop hX5 (o := .loop (rc .ready none)) hG5.rc.rc
                    have hXKz := hXK5.trans (XK.of_keep' (B := S.heap.size) kz (fun g hg => .inr (.inr ⟨rc .busy none, by rw [show g = S.heap.size + 1 by simpa using hg]; exact hG5.rc.rc⟩)))
                    have e1 : ((j + (q + 1) : Nat) : Int) = (m : Int) + 1 := by have := HMJ.out; omega
                    have e2 : m + 1 = j + (q + 1) := by have := HMJ.out; omega
                    have e3 : (j : Int) + ((q : Int) + 1) = (m : Int) + 1 := by have := HMJ.out; omega
                    have E3 := Lib.hid e3
                    have HF := Lib.hid (And.intro hG5.rc.rc (And.intro hXKz (And.intro hXz (And.intro hkz hGz))))
                    have HE2 : Hid (St p ys false bs' wsr (j + (q + 1))) := Lib.hid (by rw [← e2]; exact HST'.out)
                    clear e1 e2 e3 hkz hGz hXz hXKz kz hW5 hk5 hX5 hG5 hXK5 k5 hk4 hX4 hG4 hXK4
                    gi_wp2
                    rw [← HW5.out]
                    exact ⟨HF.out.1, HF.out.2.1, .inl ⟨bs', HF.out.2.2.1, HE2.out⟩, by rw [E3.out]; exact HF.out.2.2.2.1, HF.out.2.2.2.2⟩
                case fin =>
                  rintro e W' ⟨⟨vr, rfl⟩, h⟩
                  obtain ⟨asks', bs', jj, hX, hst, hq, hk, hG⟩ := h.resolve_right id
                  refine ⟨_, .ready, none, rfl, by simp, hG.rc.rc, ?_⟩
                  have hG2 := hG.put (l' := rc .exhausted none) (by have := HL.out; omega)
                  have kp : Keep [S.heap.size + 1] W' (W'.putObj (S.heap.size + 1) (.loop (rc .exhausted none))) := (Keep.refl _ W').putObj (.inl (by simp)) _
                  have hk2 := hk.keep kp (by have := HL.out; simp; omega)
                  have hX2 := FdX.loop hX (o := .loop (rc .exhausted none)) hG.rc.rc
                  obtain ⟨W5, hW5⟩ : ∃ W5, W5 = W'.putObj (S.heap.size + 1) (.loop (rc .exhausted none)) := ⟨_, rfl⟩
                  simp only [← hW5] at hG2 hk2 hX2 ⊢
                  have hwl : wsr.length = L - k := by rw [HWSR.out, List.length_drop, ← HLE.out.2.2.1]
                  have hS1 : fb ≤ S.heap.size := Nat.le_of_lt (Nat.lt_of_lt_of_le HL.out.2.1 (Nat.le_of_lt (Nat.lt_trans HL.out.1 HL.out.2.2.1)))
                  have hnd : S.heap.size ∉ Ds := fun hm => Nat.lt_irrefl _ (Array.getElem?_eq_some_iff.1 (hDS.at_ _ hm).2).1
                  have hOut : Hid (OutI w fb rb wb kb p ys tot.length v8 (i + 1) (S.heap.size :: Ds) W5) := Lib.hid ⟨wsr, asks', bs', jj, hG2.row, hG2.lt, hX2, hst, hq, hk2, hG2.gj, ⟨List.nodup_cons.2 ⟨hnd, hG2.dm.nd⟩, fun D hD => (List.mem_cons.1 hD).elim (fun e => by rw [e]; exact ⟨hS1, hG2.rc.df⟩) (fun h => hG2.dm.at_ D h)⟩, HLE.out.2.1, by rw [hwl]; exact chunk_le HLE2.out.1 HLE2.out.2 HKI.out HKL.out, by rw [hwl]; exact Nat.le_trans (Nat.sub_le _ _) HLE2.out.2⟩
                  rw [HV8E.out] at hOut
                  have HM : Hid ((L - k) * 200 + (100 - (i + 1)) < L * 200 + (100 - i)) := Lib.hid (chunk_mu HKI.out HKL.out)
                  clear hW5 hW1 hrc hX hk hG kp h hG2 hk2 hX2 hst hq hwl hnd hS1 szW1 hXS BKS hGS hDS BC HRS
                  go_wp2_with (fail)
                  have ew : wrap64 ((i : Int) + 1) = ((i + 1 : Nat) : Int) := chunk_wrap HLE2.out.1 HTL.out
                  rw [ew]
                  refine ⟨⟨_, i + 1, S.heap.size :: Ds, _, _, _, _, _, _, _, _, _, _, _, _, _, _, _, _, _, _, _, _, _, _, _, _, _, _, _, _, _, _, _, _, _, _, _, _, _, _, _, _, _, _, _, _, hOut.out, rfl⟩, ?_⟩
                  show (L - k) * 200 + (100 - (i + 1)) < L * 200 + (100 - i)
                  exact HM.out
        · have hws : ws = [] := List.eq_nil_of_length_eq_zero (by have := HLE.out; omega)
          subst hws
          obtain ⟨hasks, hbs, hj⟩ := HST.out.done HQ.out (fun y hy => (HYK.out y hy).2)
          subst hasks hbs hj
          have q0 : ¬ (0 : Int) < (L : Int) := by omega
          obtain ⟨Aw, cw, hbw, _⟩ := HGJ.out.wt
          have e0 := hbw.cell 0
          have kk := HK.out.cell 0
          have b0 := HGJ.out.br.cell 0
          have bf0 := HGJ.out.br.frozen 0
          simp at e0 kk b0
          clear h0 hbw
          go_wp2_with (fail)
          refine (codeX HX.out).mono ?_
          rintro e W' ⟨rfl, rfl⟩
          go_wp2_with (fail)
          refine (heldX HX.out).mono ?_
          rintro e W' ⟨rfl, rfl⟩
          go_wp2_with (fail)
          have hlt := HGJ.out.lt
          refine leaves_marks Ds _ HDM.out.nd (fun D hD => (Below.heap_setCell W _ _ _ (by have := (HDM.out.at_ D hD).1; simp; omega)).trans (HDM.out.at_ D hD).2) (fun W' kW => ?_)
          refine ⟨_, res_cell_bool rfl _ _ rb true rfl ((kW.cell (by have := HGJ.out.br.lt; simp [World.setCell]; omega) (fun hm => by have := (HDM.out.at_ _ hm).1; simp at this; omega)).trans ((HGJ.out.br.set_ 0 (.bool true)).cell 0)), rfl, ?_⟩
          exact ((HGJ.out.kw.setCell (p := ⟨rb, 0, none⟩) (.inr (by have := HRB.out; simp; omega)) _).step kW (fun D hD => .inr (by have := (HDM.out.at_ D hD).1; omega))).below (Nat.le_refl _) (by simp)
end Go.Proofs.Ytigdigljcalgkaa
