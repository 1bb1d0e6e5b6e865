/- feed: FeedGrows. -/
import Derived.Test.YtigdigljcalgkaaWant
import Derived.Deep.DeepCutAuto
import Derived.Deep.CutBlock
set_option linter.all false
namespace Go.Proofs.Ytigdigljcalgkaa
open Go.ChangeShapes Go.WideShapes Go.ChangeAt Go.RowKit Go.Proofs.YtigdigljcalgkaaW.PrintWords
attribute [local go_sem] setCell_drewN alloc_drewN Oper.semAt_some
set_option maxRecDepth 100000 in
set_option maxHeartbeats 8000000 in
theorem feedGrows (w : World) (v : Value) (hv : Sl w 4 (fun j => if j = 0 then IsInt .i64 else if j = 1 then IsInt .i64 else if j = 2 then IsInt .i64 else Sl w 1 (fun _ => IsInt .u8)) v) : Calls Try.prog 4 #[v] w fun e w' => e = .returned (.bool true) ∧ Below w.heap.size w w' := by
  have hfe := fun (w : World) (a b : Array Value) => run_eql_func_nil (P := Try.prog) w 36 (.func 20) a b Try.underlying36
  obtain ⟨A, n, c, xs, rfl, hnc, hcm, hxl, hxok, hr⟩ := gfs_of_sl hv
  unfold maxLen at hcm
  have HR := Lib.hid hr
  have HOK := Lib.hid hxok
  have HXL := Lib.hid hxl
  have HNC := Lib.hid hnc
  clear hv hr hxok hxl hnc
  refine rng_func Try.func4 rfl ?_
  simp only [Try.ntmps4, List.size_toArray, List.length_cons, List.length_nil, Nat.reduceAdd, Nat.reduceSub, Array.replicate_succ, Array.replicate_zero, List.push_toArray, List.append_toArray, List.nil_append, List.cons_append]
  go_wp2_with (fail)
  have BR := Blk.new w 4 #[.bool false]
  have k0 : Keep [] w (w.alloc (.cells #[.bool false] 4)) := (Keep.refl _ _).alloc _
  obtain ⟨w0, hw0⟩ : ∃ w0, w0 = w.alloc (.cells #[.bool false] 4) := ⟨_, rfl⟩
  rw [← hw0] at BR k0 ⊢
  clear hw0
  obtain ⟨rb, hrb⟩ : ∃ rb, rb = w.heap.size := ⟨_, rfl⟩
  have HRB := Lib.hid hrb
  rw [← hrb] at BR ⊢
  clear hrb
  refine (begun _).mono ?_
  rintro e w1 ⟨rfl, B1⟩
  have k1 := Keep.of_below B1
  have BR1 := BR.keep k1 (by simp)
  have K1 := Lib.hid (k0.trans k1)
  clear B1 k1 k0 BR
  go_wp2_with (fail)
  refine (newX _ false 16384 (by omega) (by omega)).mono ?_
  rintro e w2 ⟨rfl, hX2, k2⟩
  obtain ⟨fb, hfb⟩ : ∃ fb, fb = w1.heap.size := ⟨_, rfl⟩
  rw [← hfb] at hX2 ⊢
  have BR2 := BR1.keep k2 (by simp)
  have K2 := Lib.hid (K1.out.trans k2)
  have HFB : Hid (w.heap.size ≤ fb ∧ rb < fb) := Lib.hid ⟨by have := K1.out.size; omega, by have := BR1.lt; omega⟩
  clear hfb k2 K1 BR1
  have BF := Blk.new w2 31 #[.pointer (some ⟨fb, 0, none⟩)]
  have BF2 := BF.alloc (.cells #[.slice none 0 0] 22)
  have BW2 := Blk.new (w2.alloc (.cells #[.pointer (some ⟨fb, 0, none⟩)] 31)) 22 #[.slice none 0 0]
  have BR3 := (BR2.alloc (.cells #[.pointer (some ⟨fb, 0, none⟩)] 31)).alloc (.cells #[.slice none 0 0] 22)
  have hX3 := (hX2.alloc (.cells #[.pointer (some ⟨fb, 0, none⟩)] 31)).alloc (.cells #[.slice none 0 0] 22)
  have K3 := Lib.hid ((K2.out.alloc (.cells #[.pointer (some ⟨fb, 0, none⟩)] 31)).alloc (.cells #[.slice none 0 0] 22))
  have HX2 := Lib.hid hX2.lt
  have HBR2 := Lib.hid BR2.lt
  clear hX2 BR2 K2 BF
  go_upto_block 0 with (fail)
  obtain ⟨W5, hW5⟩ : ∃ W5, W5 = (w2.alloc (.cells #[.pointer (some ⟨fb, 0, none⟩)] 31)).alloc (.cells #[.slice none 0 0] 22) := ⟨_, rfl⟩
  simp only [World.size_alloc] at BF2 BW2
  obtain ⟨fc, hfc⟩ : ∃ fc, fc = w2.heap.size := ⟨_, rfl⟩
  have HFC : Hid (rb < fc ∧ fb < fc ∧ fc + 1 < W5.heap.size) := Lib.hid ⟨by have := HBR2.out; omega, by have := HX2.out; omega, by rw [hW5, hfc]; simp⟩
  rw [← hfc, ← hW5] at BF2 BW2 ⊢
  rw [← hW5] at BR3 hX3 K3
  clear hfc hW5 HX2 HBR2
  go_cut [7, 8, 9] from 18 (fun _ _ _ wx => ∃ (ys : List Gf) (Aw : Option Addr) (cw : Nat), ys.length ≤ 20 ∧ (∀ y ∈ ys, y.ok w ∧ y.good) ∧ Blk wx (fc + 1) 22 #[.slice Aw ys.length cw] ∧ wx.ownsRow W5.heap.size 27 4 (.slice Aw ys.length cw) ys.length (encG ys) ∧ Keep [fc + 1] W5 wx)
  case first =>
    go_wp2_with (fail)
    have hlx := fun (W : World) (k : Keep [] w W) => (HR.out.keeps k (Nat.le_refl _) (by simp))
    go_loopw [7] (fun v7 wr => ∃ (i : Nat) (Aw : Option Addr) (nw cw : Nat), v7 = .int .i64 i ∧ i ≤ n ∧ i ≤ 20 ∧ Blk wr (fc + 1) 22 #[.slice Aw nw cw] ∧ wr.ownsRow W5.heap.size 27 4 (.slice Aw nw cw) nw (encG (wantG xs i)) ∧ Keep [fc + 1] W5 wr) (fun v7 _ => n - (intOf v7).toNat)
    case atStart => exact ⟨0, none, 0, 0, rfl, by omega, by omega, BW2, World.ownsRow_nil _ _ _ _, Keep.refl _ _⟩
    case round =>
      obtain ⟨i, Aw, nw, cw, rfl, hin, hi20, BW, ho, kk⟩ := hrel
      have hkw : Keep [] w wr := K3.out.step kk (by have := HFB.out; have := HFC.out; simp; omega)
      by_cases hlt : i < n ∧ i < 20
      · have z1 : (i : Int) < (n : Int) := by omega
        have z2 : (i : Int) < 20 := by omega
        have hxi : ∃ x, xs[i]? = some x := ⟨_, List.getElem?_eq_getElem (by have := HXL.out; omega)⟩
        obtain ⟨x, hx⟩ := hxi
        have hxm : x ∈ xs := List.mem_of_getElem? hx
        have hxo := HOK.out x hxm
        obtain ⟨b, o, hA, hbl, hcell⟩ := (hlx wr hkw).plain (by omega) (by omega)
        subst hA
        have cc : ∀ j u, j < 4 → x.cells[j]? = some u → ∀ W, Keep [] wr W → W.cell? ⟨b, o + i * 4 + j, none⟩ = some u := fun j u hj hu W k => by
          have h1 := hcell (i * 4 + j) u (by rw [encG_at xs i x hx j hj, hu])
          rw [← Nat.add_assoc] at h1
          exact (k.cell (p := ⟨b, o + i * 4 + j, none⟩) (by have := hkw.size; simp; omega) (by simp)).trans h1
        have t0 := cc 0 _ (by omega) rfl wr (Keep.refl _ _)
        have t1 := cc 1 _ (by omega) rfl wr (Keep.refl _ _)
        have t2 := cc 2 _ (by omega) rfl wr (Keep.refl _ _)
        have t3 := cc 3 _ (by omega) rfl wr (Keep.refl _ _)
        simp at t0
        have HCC := Lib.hid cc
        have HX := Lib.hid hx
        have HKW := Lib.hid hkw
        have HO := Lib.hid ho
        have HBW := Lib.hid BW
        have HKK := Lib.hid kk
        have HP := Lib.hid (rput_ x hxo hkw)
        have HIN := Lib.hid hlt
        clear cc hx hkw ho BW kk hcell hxm hxo hlx hlt
        go_wp2_with (fail)
        refine HP.out.mono ?_
        rintro e w6 ⟨Ap, np, cp, r, rfl, hr0, hgd, k6⟩
        have HR0 := Lib.hid hr0
        have HK6 := Lib.hid k6
        have u3 := HCC.out 3 _ (by omega) rfl w6 k6
        have hsn := wantG_snoc HX.out
        have HSN := Lib.hid hsn
        clear hr0 hgd k6 t0 t1 t2 t3 HP hsn
        by_cases hg : x.goodB = true
        · have hgg := x.goodB_iff.1 hg
          have hr : r = 0 := HR0.out.2 ⟨hgg.1, by have := hgg.2; omega⟩
          subst hr
          have z3 : (x.pl.length : Int) ≤ 16384 := by have := hgg.2; omega
          rw [if_pos hg] at HSN
          have s0 := HCC.out 0 _ (by omega) rfl w6 HK6.out
          have s1 := HCC.out 1 _ (by omega) rfl w6 HK6.out
          have s2 := HCC.out 2 _ (by omega) rfl w6 HK6.out
          simp at s0
          have hbw6 := HBW.out.keep HK6.out (by simp)
          have HBW6 := Lib.hid hbw6
          have HO6 := Lib.hid (own_keep HO.out HK6.out (by simp))
          have HKW6 := Lib.hid (HKW.out.trans HK6.out)
          have ow6 : ∀ k, (Value.slice Aw nw cw).ownBlock = some k → W5.heap.size ≤ k ∧ ∃ cs, Blk w6 k 27 cs := fun k hk => by
            rcases HO6.out.2 with ⟨h, _⟩ | ⟨g, cap, cur, h, hb, hg, _⟩
            · rw [h] at hk; simp [Value.ownBlock] at hk
            · rw [h] at hk
              simp [Value.ownBlock] at hk
              subst hk
              exact ⟨hb, cur, hg⟩
          have HOW := Lib.hid ow6
          clear hg hgg hbw6 ow6
          obtain ⟨i0, z0, hi0, hz0, hz1, hz2, hz3⟩ := fr_info
          have HI := Lib.hid (And.intro hi0 (And.intro hz0 (And.intro hz1 (And.intro hz2 hz3))))
          clear hi0 hz0 hz1 hz2 hz3
          go_wp2_with (fail)
          refine wpIn_wide.1 (region_rtc (n := 0) [(5, true), (6, true), (7, false)] []
            [(0, .slice Aw nw cw), (1, .slice (some ⟨b, o, none⟩) n c), (2, .int .i64 i), (3, .pointer (some ⟨b, o + i * 4, none⟩)), (4, .agg #[.int .i64 x.t, .int .i64 x.f, .int .i64 x.s, .slice x.A x.pl.length x.c])]
            (fun W => Keep (Value.slice Aw nw cw).ownBlock.toList w6 W) (by kernel_rfl) (by kernel_rfl) ((Keep.refl _ _).drew) ?_ ?_)
          · simp only [evOkC, putAll, List.getElem?_toArray, List.getElem?_cons_zero, List.getElem?_cons_succ, Option.bind_some, Act.put, List.setIfInBounds_toArray, List.set_cons_zero, List.set_cons_succ]
            repeat' apply And.intro
            · intro W hW
              refine gives_read rfl ?_
              have e6 := ((HBW6.out.keep hW (fun hm => by obtain ⟨_, cs, hb⟩ := HOW.out _ (by simpa using hm); exact HBW6.out.ne_ hb (by decide) rfl)).cell 0)
              simp at e6
              simp [go_sem, e6]
            · intro W hW
              refine gives_read rfl ?_
              simp [go_sem]
            · intro W hW
              refine gives_read rfl ?_
              simp [go_sem]
            · intro W hW
              refine gives_read rfl ?_
              simp [go_sem, z1, Addr.add]
            · intro W hW
              refine gives_read rfl ?_
              have hout : ∀ p : Addr, p.block = b → W.cell? p = w6.cell? p := fun p hp => hW.cell (by have := HKW6.out.size; omega) (fun hm => by
                obtain ⟨h1, _⟩ := HOW.out _ (by simpa using hm)
                have := K3.out.size
                omega)
              have y0 := (hout ⟨b, o + i * 4, none⟩ rfl).trans s0
              have y1 := (hout ⟨b, o + i * 4 + 1, none⟩ rfl).trans s1
              have y2 := (hout ⟨b, o + i * 4 + 2, none⟩ rfl).trans s2
              have y3 := (hout ⟨b, o + i * 4 + 3, none⟩ rfl).trans u3
              simp [go_sem, Addr.add, y0, y1, y2, y3]
            · exact trivial
          · simp only [putAll, List.getElem?_toArray, List.getElem?_cons_zero, List.getElem?_cons_succ, Option.bind_some, Act.put, List.setIfInBounds_toArray, List.set_cons_zero, List.set_cons_succ]
            refine tail_wanted rfl rfl ?_
            simp [go_sem]
            obtain ⟨Wa, hWa⟩ : ∃ Wa, Wa = (w6.alloc (.cells #[.int .i64 x.t, .int .i64 x.f, .int .i64 x.s, .slice x.A x.pl.length x.c] 27)).drew := ⟨_, rfl⟩
            have rN : Reads Wa (w6.heap.size + 1) 4 (some ⟨w6.heap.size, 0, none⟩) 1 (encG [x]) := by rw [hWa]; exact (reads_new w6 #[.int .i64 x.t, .int .i64 x.f, .int .i64 x.s, .slice x.A x.pl.length x.c] 27 (0, 0) 4 1 rfl).drew
            have kWa : Keep [] w6 Wa := by rw [hWa]; exact ((Keep.refl [] w6).alloc _).drew
            rw [← hWa]
            clear hWa
            refine ⟨⟨kWa.more (by simp), gHolds_none rfl⟩, ?_⟩
            have oWa := own_keep HO6.out kWa (by simp)
            refine tail_wanted rfl rfl ?_
            have hnw : nw ≤ 20 := by have h1 := HO6.out.1; rw [encG_len] at h1; have := wantG_len xs i; omega
            refine wpIn_append_any Wa _ _ _ rfl W5.heap.size 27 i0 z0 4 48 Try.underlying22 HI.out.1 HI.out.2.1 HI.out.2.2.1 HI.out.2.2.2.1 HI.out.2.2.2.2 (by omega) (.slice Aw nw cw) nw _ rfl oWa (w6.heap.size + 1) (some ⟨w6.heap.size, 0, none⟩) 1 1 _ rfl rN (encG_one _) (by unfold maxLen; omega) (by omega) (by have h1 := kWa.size; have h2 := HK6.out.size; have h3 := HKK.out.size; omega) ?_
            intro v10 Wb o10 g10 m10
            rw [← encG_app, ← HSN.out] at o10
            have kWb : Keep (Value.slice Aw nw cw).ownBlock.toList w6 Wb := (kWa.more (by simp)).trans (Keep.of_grown g10)
            refine ⟨rfl, ⟨fun _ => kWb, gHolds_none rfl⟩, ?_⟩
            have bwb := HBW6.out.keep kWb (fun hm => by obtain ⟨_, cs, hb⟩ := HOW.out _ (by simpa using hm); exact HBW6.out.ne_ hb (by decide) rfl)
            have e0 := bwb.cell 0
            have f0 := bwb.frozen 0
            simp at e0
            obtain ⟨A10, n10, c10, hv10⟩ : ∃ A10 n10 c10, v10 = .slice A10 n10 c10 := by
              rcases o10.2 with ⟨h, _⟩ | ⟨g, cap, cur, h, _⟩
              · exact ⟨_, _, _, h⟩
              · exact ⟨_, _, _, h⟩
            subst hv10
            have hn10 : n10 = nw + 1 := by
              rcases o10.2 with ⟨h, h2⟩ | ⟨g, cap, cur, h, _⟩
              · injection h with _ h; omega
              · injection h with _ h
            subst hn10
            refine tail_wanted rfl rfl ?_
            simp [go_sem, e0, f0]
            refine ⟨gHolds_none rfl, ?_⟩
            unfold wpTailG
            have bwc := bwb.set_ 0 (.slice A10 (nw + 1) c10)
            simp only [List.setIfInBounds_toArray, List.set_cons_zero] at bwc
            have kc : Keep [fc + 1] Wb (Wb.setCell ⟨fc + 1, 0, none⟩ (.slice A10 (nw + 1) c10)) := (Keep.refl _ _).setCell (p := ⟨fc + 1, 0, none⟩) (.inl (by simp)) _
            have oc := own_keep o10 kc (fun k hk => by
              rcases o10.2 with ⟨h, _⟩ | ⟨g, cap, cur, h, hb, hg, _⟩
              · rw [h] at hk; simp [Value.ownBlock] at hk
              · rw [h] at hk
                simp [Value.ownBlock] at hk
                subst hk
                simp
                intro h
                have := HFC.out
                omega)
            have kk' : Keep [fc + 1] W5 (Wb.setCell ⟨fc + 1, 0, none⟩ (.slice A10 (nw + 1) c10)) := ((HKK.out.trans (HK6.out.more (by simp))).step kWb (fun g hg => by obtain ⟨h1, _⟩ := HOW.out g (by simpa using hg); exact .inr h1)).trans kc
            obtain ⟨Wc, hWc⟩ : ∃ Wc, Wc = Wb.setCell ⟨fc + 1, 0, none⟩ (.slice A10 (nw + 1) c10) := ⟨_, rfl⟩
            rw [← hWc] at bwc oc kk' ⊢
            have hrel : Hid (∃ (i' : Nat) (Aw : Option Addr) (nw cw : Nat), Value.int .i64 ((i : Int) + 1) = .int .i64 i' ∧ i' ≤ n ∧ i' ≤ 20 ∧ Blk Wc (fc + 1) 22 #[.slice Aw nw cw] ∧ Wc.ownsRow W5.heap.size 27 4 (.slice Aw nw cw) nw (encG (wantG xs i')) ∧ Keep [fc + 1] W5 Wc) := Lib.hid ⟨i + 1, A10, nw + 1, c10, by simp, by have := HIN.out; omega, by have := HIN.out; omega, bwc, oc, kk'⟩
            clear hWc bwc oc kk' kc kWb bwb e0 f0 o10 g10 m10 oWa rN kWa s0 s1 s2 u3
            try go_at_K
            go_wp2_with (fail)
            exact ⟨hrel.out, by simp [intOf]; have := HIN.out; omega⟩
        · have hng : x.goodB = false := by simpa using hg
          rw [hng, if_neg (by decide)] at HSN
          have HO6 := Lib.hid (own_keep HO.out HK6.out (by simp))
          have HBW6 := Lib.hid (HBW.out.keep HK6.out (by simp))
          have HKK6 := Lib.hid (HKK.out.trans (HK6.out.more (by simp)))
          have hrel : Hid (∃ (i' : Nat) (Aw : Option Addr) (nw cw : Nat), Value.int .i64 ((i : Int) + 1) = .int .i64 i' ∧ i' ≤ n ∧ i' ≤ 20 ∧ Blk w6 (fc + 1) 22 #[.slice Aw nw cw] ∧ w6.ownsRow W5.heap.size 27 4 (.slice Aw nw cw) nw (encG (wantG xs i')) ∧ Keep [fc + 1] W5 w6) := Lib.hid ⟨i + 1, Aw, nw, cw, by simp, by have := HIN.out; omega, by have := HIN.out; omega, HBW6.out, by rw [HSN.out]; exact HO6.out, HKK6.out⟩
          by_cases hr : r = 0
          · have z3 : ¬ (x.pl.length : Int) ≤ 16384 := fun h => by
              have h1 := HR0.out.1 hr
              have : x.goodB = true := x.goodB_iff.2 ⟨h1.1, by omega⟩
              rw [hng] at this; cases this
            subst hr
            clear hg hng
            go_wp2_with (fail)
            exact ⟨hrel.out, by simp [intOf]; have := HIN.out; omega⟩
          · have z3 : (r == 0) = false := by rw [beq_eq_false_iff_ne]; exact hr
            clear hg hng hr
            go_wp2_with (fail)
            exact ⟨hrel.out, by simp [intOf]; have := HIN.out; omega⟩
      · have him : wantG xs i = wantG xs (min n 20) := by
          have h : i = n ∨ i = 20 := by omega
          rcases h with rfl | rfl
          · rcases Nat.lt_or_ge i 20 with h | h
            · rw [Nat.min_eq_left (by omega)]
            · rw [show i = 20 by omega]; rfl
          · rw [Nat.min_eq_right (by omega)]
        rw [him] at ho
        obtain ⟨ys, hys⟩ : ∃ ys, ys = wantG xs (min n 20) := ⟨_, rfl⟩
        have hyl : ys.length ≤ 20 := by rw [hys]; have := wantG_len xs (min n 20); omega
        have hyk : ∀ y ∈ ys, y.ok w ∧ y.good := fun y hy => by rw [hys] at hy; have h := wantG_mem hy; exact ⟨HOK.out y h.1, h.2⟩
        rw [← hys] at ho
        have hnw : nw = ys.length := by have h1 := ho.1; rw [encG_len] at h1; omega
        subst hnw
        have hrel : Hid (∃ (ys : List Gf) (Aw : Option Addr) (cw : Nat), ys.length ≤ 20 ∧ (∀ y ∈ ys, y.ok w ∧ y.good) ∧ Blk wr (fc + 1) 22 #[.slice Aw ys.length cw] ∧ wr.ownsRow W5.heap.size 27 4 (.slice Aw ys.length cw) ys.length (encG ys) ∧ Keep [fc + 1] W5 wr) := Lib.hid ⟨ys, Aw, cw, hyl, hyk, BW, ho, kk⟩
        clear hys hyl hyk hkw ho BW kk him hlx
        have q : ¬ (i : Int) < (n : Int) ∨ ((i : Int) < (n : Int) ∧ ¬ (i : Int) < 20) := by omega
        clear hlt hin hi20
        rcases q with q | ⟨q, q2⟩
        · go_wp2_with (fail)
          go_meet
          case rel => exact hrel.out
        · go_wp2_with (fail)
          go_meet
          case rel => exact hrel.out
  case rest =>
    obtain ⟨ys, Aw, cw, hyl, hyk, BW, ho, kk⟩ := hcut
    have hkw : Keep [] w wc := K3.out.step kk (by have := HFB.out; have := HFC.out; simp; omega)
    have BRc := BR3.keep kk (by have := HFC.out; simp; omega)
    have BFc := BF2.keep kk (by simp)
    have hXc := hX3.keep kk (fun g hg => by
      obtain rfl : g = fc + 1 := by simpa using hg
      exact .inr (.inr ⟨_, BW2, fun _ _ => ⟨(by intro h; injection h with _ h; exact absurd h (by decide)), (by intro h; injection h with _ h; exact absurd h (by decide))⟩⟩))
    have hsz := kk.size
    have HW5 : Hid (fc + 1 < wc.heap.size ∧ W5.heap.size ≤ wc.heap.size) := Lib.hid ⟨by have := HFC.out; omega, hsz⟩
    have HKW := Lib.hid hkw
    clear hX3 BR3 BF2 BW2 K3 kk hkw hsz HR HOK HXL HNC
    have e0 := BW.cell 0
    simp at e0
    by_cases hN : ys.length = 0
    · have q0 : ((ys.length : Int) == 0) = true := by rw [beq_iff_eq]; omega
      have r0 := BRc.cell 0
      have r1 := BRc.frozen 0
      simp at r0
      have HBR := Lib.hid BRc
      clear hyk ho hXc BFc BW BRc hN hyl
      go_wp2_with (fail)
      refine ⟨_, res_cell_bool rfl _ _ rb true rfl ((HBR.out.set_ 0 (.bool true)).cell 0), rfl, ?_⟩
      exact ((HKW.out.setCell (p := ⟨rb, 0, none⟩) (.inr (by have := HRB.out; simp; omega)) _)).below (Nat.le_refl _) (by simp)
    · obtain ⟨og, cw', cs, hAw, hog, hncw, bo, hrow⟩ := rowIs_of ho (by omega)
      injection hAw with h1 _ h3
      subst h1 h3
      have q0 : ((ys.length : Int) == 0) = false := by rw [beq_eq_false_iff_ne]; omega
      obtain ⟨y0, hy0⟩ : ∃ y, ys[0]? = some y := ⟨_, List.getElem?_eq_getElem (by omega)⟩
      have hy0m := hyk y0 (List.mem_of_getElem? hy0)
      have cc : ∀ k x, ys[k]? = some x → ∀ j u, j < 4 → x.cells[j]? = some u → ∀ W, Blk W og 27 cs → W.cell? ⟨og, k * 4 + j, none⟩ = some u := fun k x hk j u hj hu W hb => by
        rw [hb.cell, hrow k x hk j hj, hu]
      have c0 := cc 0 y0 hy0 0 _ (by omega) rfl wc bo
      have c1 := cc 0 y0 hy0 1 _ (by omega) rfl wc bo
      have c2 := cc 0 y0 hy0 2 _ (by omega) rfl wc bo
      have c3 := cc 0 y0 hy0 3 _ (by omega) rfl wc bo
      simp at c0 c1 c2 c3
      have z0 : (0 : Int) < (ys.length : Int) := by omega
      have z1 : 0 < ys.length := by omega
      have HCC := Lib.hid cc
      have HYK := Lib.hid hyk
      have HYL := Lib.hid hyl
      have HP := Lib.hid (rput_ y0 hy0m.1 HKW.out)
      have HG := Lib.hid hy0m.2
      have HOG : Hid (fc + 1 < og ∧ og < wc.heap.size) := Lib.hid ⟨by have := HFC.out; omega, bo.lt⟩
      have HY0 := Lib.hid hy0
      have HN := Lib.hid hN
      clear ho hrow hyk hyl cc hy0m hy0 hN hog hncw
      go_wp2_with (fail)
      refine HP.out.mono ?_
      rintro e w6 ⟨Ap, np, cp, r, rfl, _, hgd, k6⟩
      have hgd2 := hgd HG.out
      obtain ⟨wi, hwi⟩ : ∃ wi, wi = y0.wire := ⟨_, rfl⟩
      have hwl : wi.length ≤ 20000 := by rw [hwi, y0.wire_len]; have := HG.out.2; omega
      have HWI := Lib.hid hwi
      rw [← hwi] at hgd2
      clear hwi
      obtain ⟨hnp, hrw⟩ := hgd2
      subst hnp
      have hX6 := hXc.keep k6 (by simp)
      have f6 := (BFc.keep k6 (by simp)).cell 0
      simp at f6
      have KW6 := HKW.out.trans k6
      obtain ⟨Ap', cp', he, hcp1, _, hrd⟩ := hrw.reads
      injection he with he1 he2 he3
      clear he2
      subst he1 he3
      rw [encB_len] at hrd
      have BR6 := BRc.keep k6 (by simp)
      have BF6 := BFc.keep k6 (by simp)
      have BW6 := BW.keep k6 (by simp)
      have bo6 := bo.keep k6 (by simp)
      have HKW6 := Lib.hid KW6
      have sz6 := k6.size
      have HWL := Lib.hid hwl
      clear hwl
      clear hgd hrw k6 KW6 HP c0 c1 c2 c3 e0 BRc BFc BW bo hXc HKW hcp1
      go_wp2_with (fail)
      refine (putX hX6 (by have := hX6.lt; omega) hrd (by have := HWL.out; simp; omega)).mono ?_
      rintro e w7 ⟨rfl, hX7, gs, k7, hg⟩
      rw [List.nil_append] at hX7
      have hfo : fc ≠ fb ∧ fc + 1 ≠ fb ∧ og ≠ fb ∧ rb ≠ fb := by have h1 := HFC.out; have h2 := HOG.out; have h3 := HFB.out; omega
      have BR7 := BR6.keep k7 (hg.blk BR6 (by decide) hfo.2.2.2)
      have BF7 := BF6.keep k7 (hg.blk BF6 (by decide) hfo.1)
      have BW7 := BW6.keep k7 (hg.blk BW6 (by decide) hfo.2.1)
      have bo7 := bo6.keep k7 (hg.blk bo6 (by decide) hfo.2.2.1)
      have KW7 := HKW6.out.step k7 (fun g hm => by have h1 := hg.ge (Nat.le_refl _) g hm; have h2 := HFB.out; right; omega)
      have sz7 := k7.size
      have HKW7 := Lib.hid KW7
      clear k7 hg gs KW7 HKW6 BR6 BF6 BW6 bo6 hX6 f6 hrd
      have f7 := BF7.cell 0
      simp at f7
      have nfc : fc ≠ w7.heap.size := by have := BF7.lt; omega
      have nfc2 : fc < w7.heap.size := BF7.lt
      go_wp2_with (fail)
      have BK := Blk.new w7 3 #[.int .i64 0]
      have f8 := (BF7.alloc (.cells #[.int .i64 0] 3)).cell 0
      simp at f8
      refine (all_ _ _).mono ?_
      rintro e w8 ⟨rfl, rfl⟩
      have BC := Blk.new (w7.alloc (.cells #[.int .i64 0] 3)) 31 #[.pointer (some ⟨fb, 0, none⟩)]
      simp only [World.size_alloc] at BC
      have kS : Keep [] w7 ((w7.alloc (.cells #[.int .i64 0] 3)).alloc (.cells #[.pointer (some ⟨fb, 0, none⟩)] 31)) := ((Keep.refl _ _).alloc _).alloc _
      have BK8 := BK.alloc (.cells #[.pointer (some ⟨fb, 0, none⟩)] 31)
      obtain ⟨S, hS⟩ : ∃ S, S = (w7.alloc (.cells #[.int .i64 0] 3)).alloc (.cells #[.pointer (some ⟨fb, 0, none⟩)] 31) := ⟨_, rfl⟩
      obtain ⟨kb, hkb⟩ : ∃ kb, kb = w7.heap.size := ⟨_, rfl⟩
      have szS : kb + 2 = S.heap.size := by rw [hS, hkb]; simp
      have HKB := Lib.hid hkb
      rw [← hS] at BC BK8 kS ⊢
      rw [← hkb] at BC BK8 ⊢
      have GS : GI w S.heap.size rb fc (fc + 1) (kb + 1) og fb ys.length cw cs S := ⟨HKW7.out.trans kS, BR7.keep kS (by simp), BF7.keep kS (by simp), BW7.keep kS (by simp), bo7.keep kS (by simp), BC, by have h1 := HFC.out; have h2 := HOG.out; omega⟩
      have hXS := hX7.keep kS (by simp)
      have HL : Hid (fb < kb ∧ w.heap.size ≤ fb ∧ kb + 2 ≤ S.heap.size) := Lib.hid ⟨by have := hX7.lt; omega, HFB.out.1, by omega⟩
      clear hS hkb szS BC kS BK BR7 BF7 BW7 bo7 HKW7 hX7 f7 f8 sz6 sz7 hfo HOG HFC HFB HW5
      go_wp2_with (fail)
      rw [← HKB.out]
      refine rng_stmt' (n := 5) (gf := 20) (lb := #[.pointer (some ⟨kb + 1, 0, none⟩)]) (by first | rfl | simp) (enters_of Try.func20 (by kernel_rfl) rfl) ?_
      intro rc hrc W1 hW1
      have szW1 : S.heap.size ≤ W1.heap.size := by rw [hW1]; simp; omega
      refine (allIt (m := 4) (B := S.heap.size) (c1 := kb + 1) (p := some ⟨fb, 0, none⟩) ys.length (cntOf kb)
        (fun j W => j ≤ ys.length ∧ FdX W fb fb false 16384 (wireAt ys j) 0 ∧ Blk W kb 3 #[.int .i64 (j : Nat)] ∧ Rc S.heap.size W (rc .ready none) ∧ GI w S.heap.size rb fc (fc + 1) (kb + 1) og fb ys.length cw cs W)
        (fun j t f s u W => ∃ y A c, ys[j]? = some y ∧ t = y.t ∧ f = y.f ∧ s = y.s ∧ u = .slice A y.pl.length c ∧ Row1 W fb 5 (.slice A y.pl.length c) (encB y.pl) ∧ FdX W fb fb false 16384 [] 0 ∧ Blk W kb 3 #[.int .i64 (j : Nat)] ∧ Rc S.heap.size W (rc .ready none) ∧ GI w S.heap.size rb fc (fc + 1) (kb + 1) og fb ys.length cw cs W)
        (fun W => FdX W fb fb false 16384 [] 0 ∧ Blk W kb 3 #[.int .i64 (ys.length : Nat)] ∧ Rc S.heap.size W (rc .ready none) ∧ GI w S.heap.size rb fc (fc + 1) (kb + 1) og fb ys.length cw cs W)
        (fun _ => False) W1 szW1 ?hc ?hnext ?hyield ?hmu ?hJ ?hM ?hD ?start).mono ?fin
      case hc =>
        rintro j W ⟨_, _, _, _, hG⟩
        have := hG.bc.cell 0
        simpa using this
      case hnext =>
        rintro j W ⟨hj, hX, hk, hr, hG⟩
        have hfw : w.heap.size ≤ fb := HL.out.2.1
        have hkn : kb ≠ fb := by have := HL.out; omega
        cases hyj : ys[j]? with
        | some y =>
          have hw : wireAt ys j = y.wire ++ [] := by unfold wireAt; rw [hyj, List.append_nil]
          rw [hw] at hX
          have hy := HYK.out y (List.mem_of_getElem? hyj)
          refine (next_fr hX hy.2 (by omega) (by rw [List.length_append, y.wire_len]; have := hy.2.2; simp; omega)).mono ?_
          rintro e W' ⟨A, c, rfl, hrow, hX', k⟩
          exact ⟨.inr ⟨_, _, _, A, _, c, rfl, y, A, c, rfl, rfl, rfl, rfl, rfl, hrow.lower (by have := hX.lt; omega), hX', hk.keep k (by simp; omega), hr.keep k (fb_blk hX), hG.step (Turns.fb hX hfw) k⟩, XK.fb hX k⟩
        | none =>
          have hjN : j = ys.length := by have := List.getElem?_eq_none_iff.1 hyj; omega
          have hw : wireAt ys j = [] := by unfold wireAt; rw [hyj]
          rw [hw] at hX
          refine (nextX hX (by simp) (by simp) [] rfl).mono ?_
          rintro e W' ⟨hn, k⟩
          refine ⟨.inl ?_, XK.fb hX k⟩
          rcases hn with ⟨he, _, hX'⟩ | ⟨_, h1, _⟩ | ⟨h1, _⟩
          · exact ⟨he, hX', by rw [← hjN]; exact hk.keep k (by simp; omega), hr.keep k (fb_blk hX), hG.step (Turns.fb hX hfw) k⟩
          · exact absurd h1 (by decide)
          · exact absurd h1 (by simp)
      case hmu =>
        rintro j t f s u W ⟨y, A, c, hy, _, _, _, _, _, _, hk, _⟩
        refine ⟨(List.getElem?_eq_some_iff.1 hy).1, ?_⟩
        have := hk.cell 0
        simp at this
        simp [cntOf, this]
      case hJ =>
        rintro j W W' ⟨hj, hX, hk, hr, hG⟩ k
        exact ⟨hj, hX.keep k (by simp), hk.keep k (by simp), hr.keep k (by simp), hG.step (fun g hg => by simp at hg) k⟩
      case hM =>
        rintro j t f s u W W' gs ⟨y, A, c, h1, h2, h3, h4, h5, h6, hX, hk, hr, hG⟩ hf k
        exact ⟨y, A, c, h1, h2, h3, h4, h5, h6.frames hf k, hX.frames hf k, hk.frames (by decide) hf k, hr.keep k (frs_blk hf), hG.step (Turns.frs hf (by have := HL.out; omega)) k⟩
      case hD =>
        rintro W W' gs ⟨hX, hk, hr, hG⟩ hf k
        exact ⟨hX.frames hf k, hk.frames (by decide) hf k, hr.keep k (frs_blk hf), hG.step (Turns.frs hf (by have := HL.out; omega)) k⟩
      case start =>
        have KB : Keep [] S W1 := by rw [hW1]; exact ((Keep.refl [] S).alloc _).alloc _
        have q1 : W1.heap[S.heap.size + 1]? = some (.loop (rc .ready none)) := by rw [hW1]; have := heap_alloc_new (S.alloc (.deferred (some []))) (.loop (rc .ready none)); simpa using this
        have q2 : W1.heap[S.heap.size]? = some (.deferred (some [])) := by rw [hW1]; exact (Below.heap_alloc _ _ _ (by simp)).trans (heap_alloc_new S (.deferred (some [])))
        refine ⟨by omega, ?_, BK8.keep KB (by simp), ⟨q1, q2⟩, GS.step (fun g hg => by simp at hg) KB⟩
        have hw : wireAt ys 0 = wi := by unfold wireAt; rw [HY0.out, HWI.out]
        rw [hw]
        exact hXS.keep KB (by simp)
      case fin =>
        rintro e W' ⟨⟨vr, rfl⟩, h⟩
        obtain ⟨hX, hk, hr, hG⟩ := h.resolve_right id
        refine ⟨_, .ready, none, rfl, by simp, hr.rc, ?_⟩
        have hr2 := hr.put (l' := rc .exhausted none)
        have kp : Keep [S.heap.size + 1] W' (W'.putObj (S.heap.size + 1) (.loop (rc .exhausted none))) := (Keep.refl _ W').putObj (.inl (by simp)) _
        have hk2 := hk.keep kp (by have := HL.out; simp; omega)
        have hG2 := hG.step (Turns.up (by omega) (by have := HL.out; omega)) kp
        obtain ⟨W5', hW5'⟩ : ∃ W5', W5' = W'.putObj (S.heap.size + 1) (.loop (rc .exhausted none)) := ⟨_, rfl⟩
        simp only [← hW5'] at hr2 hk2 hG2 ⊢
        clear hW5' hW1 hrc hX hk hr hG kp szW1 h
        have k0 := hk2.cell 0
        have e0 := hG2.bw.cell 0
        have b0 := hG2.br.cell 0
        have bf0 := hG2.br.frozen 0
        simp at k0 e0 b0
        have hlt := hG2.lt
        obtain ⟨db, hdb⟩ : ∃ db, db = S.heap.size := ⟨_, rfl⟩
        have hlr : rb < db := by omega
        have HBR := Lib.hid hG2.br
        have HDF := Lib.hid hr2.df
        have HKW2 := Lib.hid hG2.kw
        have HDB : Hid (w.heap.size ≤ db ∧ rb < db) := Lib.hid ⟨by have := HL.out; omega, hlr⟩
        rw [← hdb] at HDF ⊢
        clear hG2 hr2 hk2 hlt GS BK8 hXS hdb
        go_wp2_with (fail)
        refine ⟨by simp, .inl ⟨_, _, rfl, run_takeDeferred ((Below.heap_setCell W5' _ _ _ (by simp; omega)).trans HDF.out), ?_⟩⟩
        refine ⟨_, res_cell_bool rfl _ _ rb true rfl ((World.cell?_of_block (World.putObj_heap_other (by simp; omega))).trans ((HBR.out.set_ 0 (.bool true)).cell 0)), rfl, ?_⟩
        have hrb := HRB.out
        have hdw := HDB.out
        exact ((HKW2.out.setCell (p := ⟨rb, 0, none⟩) (.inr (by simp; omega)) _).putObj (l := db) (.inr hdw.1) _).below (Nat.le_refl _) (by simp)
      case hyield =>
        rintro j t f s u W ⟨y, A', c', hyj, rfl, rfl, rfl, rfl, hrow, hX, hk, hr, hG⟩
        have hszr : S.heap.size + 1 < W.heap.size := (Array.getElem?_eq_some_iff.1 hr.rc).1
        have hjN := (List.getElem?_eq_some_iff.1 hyj).1
        obtain ⟨hyo, hyg⟩ := HYK.out y (List.mem_of_getElem? hyj)
        refine rng_round' hrc hr.rc rfl ?_
        clear hrc hW1 hfe szW1 GS BK8 hXS
        have kA : Keep [] W (W.alloc (.cells #[.int .i64 y.t, .int .i64 y.f, .int .i64 y.s, .slice A' y.pl.length c'] 27)) := (Keep.refl _ _).alloc _
        have BT := Blk.new W 27 #[.int .i64 y.t, .int .i64 y.f, .int .i64 y.s, .slice A' y.pl.length c']
        have hkA := hk.keep kA (by simp)
        have hrA := hr.keep kA (by simp)
        have hXA := hX.alloc (.cells #[.int .i64 y.t, .int .i64 y.f, .int .i64 y.s, .slice A' y.pl.length c'] 27)
        have hwA := hrow.keep kA (by simp)
        have hGA := hG.step (fun g hg => by simp at hg) kA
        have L1 := Lib.hid hrA.rc
        gi_wp2
        refine ⟨L1.out, ?_⟩
        obtain ⟨WA, hWA⟩ : ∃ WA, WA = W.alloc (.cells #[.int .i64 y.t, .int .i64 y.f, .int .i64 y.s, .slice A' y.pl.length c'] 27) := ⟨_, rfl⟩
        rw [← hWA] at BT hkA hrA hXA hwA hGA kA ⊢
        clear hWA L1
        obtain ⟨tb, htb⟩ : ∃ tb, tb = W.heap.size := ⟨_, rfl⟩
        rw [← htb] at BT hszr ⊢
        have hXKA : XK S.heap.size W WA := XK.of_keep kA (by simp)
        clear htb hrow hX hk hr hG kA
        have kp : Keep [S.heap.size + 1] WA (WA.putObj (S.heap.size + 1) (.loop (rc .busy none))) := (Keep.refl _ WA).putObj (.inl (by simp)) _
        have hk3 := hkA.keep kp (by have := HL.out; simp; omega)
        have hr3 := hrA.put (l' := rc .busy none)
        have hX3 := FdX.loop hXA (o := .loop (rc .busy none)) hrA.rc
        have BT3 := BT.keep kp (by simp; omega)
        have hw3 := hwA.keep kp (fun g hg => by simp; rintro rfl; exact row_obj hwA hrA.rc hg)
        have hG3 := hGA.step (Turns.up (by omega) (by have := HL.out; omega)) kp
        have hXK3 := hXKA.trans (XK.of_keep' (B := S.heap.size) kp (fun g hg => by obtain rfl : g = S.heap.size + 1 := by simpa using hg
                                                                                   exact .inr (.inr ⟨_, hrA.rc⟩)))
        obtain ⟨W3, hW3⟩ : ∃ W3, W3 = WA.putObj (S.heap.size + 1) (.loop (rc .busy none)) := ⟨_, rfl⟩
        rw [← hW3] at hk3 hr3 hX3 BT3 hw3 hG3 hXK3 ⊢
        clear hW3 kp hkA hrA hXA hwA BT hGA hXKA
        have kk0 := hk3.cell 0
        have e0 := hG3.bw.cell 0
        simp at kk0 e0
        have n1 : ¬ (ys.length : Int) ≤ (j : Int) := by omega
        have n2 : (j : Int) < (ys.length : Int) := by omega
        have Hk3 := Lib.hid hk3
        have Hr3 := Lib.hid hr3
        have HX3 := Lib.hid hX3
        have HBT := Lib.hid BT3
        have Hw3 := Lib.hid hw3
        have HG3 := Lib.hid hG3
        have HXK := Lib.hid hXK3
        have HYJ := Lib.hid hyj
        have HYO := Lib.hid hyo
        have HYG := Lib.hid hyg
        have HJN := Lib.hid hjN
        have HSZ := Lib.hid hszr
        clear hk3 hr3 hX3 BT3 hw3 hG3 hXK3 hyj hyo hyg hjN hszr
        have y0' := HCC.out j y HYJ.out 0 _ (by omega) rfl W3 HG3.out.bo
        have y1 := HCC.out j y HYJ.out 1 _ (by omega) rfl W3 HG3.out.bo
        have y2 := HCC.out j y HYJ.out 2 _ (by omega) rfl W3 HG3.out.bo
        have y3 := HCC.out j y HYJ.out 3 _ (by omega) rfl W3 HG3.out.bo
        have t0 := HBT.out.cell 0
        have t1 := HBT.out.cell 1
        have t2 := HBT.out.cell 2
        have t3 := HBT.out.cell 3
        simp at t0 t1 t2 t3 y0'
        have n3 : j < ys.length := HJN.out
        gi_wp2
        refine region_rtc [(5, false), (6, false)] []
          [(0, .agg #[.int .i64 y.t, .int .i64 y.f, .int .i64 y.s, .slice A' y.pl.length c']), (1, .slice (some ⟨og, 0, none⟩) ys.length cw), (2, .int .i64 j), (3, .pointer (some ⟨og, j * 4, none⟩)), (4, .agg #[.int .i64 y.t, .int .i64 y.f, .int .i64 y.s, .slice y.A y.pl.length y.c])]
          (fun X => X = W3.drew) (by kernel_rfl) (by kernel_rfl) rfl ?_ ?_
        · simp only [evOkC, putAll, List.getElem?_toArray, List.getElem?_cons_zero, List.getElem?_cons_succ, Option.bind_some, Act.put, List.setIfInBounds_toArray, List.set_cons_zero, List.set_cons_succ]
          repeat' apply And.intro
          all_goals first
            | exact trivial
            | (rintro X rfl; refine gives_read rfl ?_; simp [go_sem, Addr.add, t0, t1, t2, t3, y0', y1, y2, y3, e0, kk0, n2, n3]; done)
            | skip
          · rintro X rfl
            refine gives_read rfl ?_
            simp [go_sem, Addr.add, n2, n3]
            exact fun h => h.symm
        · simp only [putAll, List.getElem?_toArray, List.getElem?_cons_zero, List.getElem?_cons_succ, Option.bind_some, Act.put, List.setIfInBounds_toArray, List.set_cons_zero, List.set_cons_succ]
          refine tail_wanted rfl rfl ?_
          simp [go_sem]
          have kd : Keep [] W3 W3.drew := (Keep.refl [] W3).drew
          obtain ⟨_, _, he, hc1, _, hrd⟩ := (Hw3.out.keep kd (by simp)).reads
          rw [encB_len] at hc1 hrd
          injection he with he1 he2 he3
          clear he2
          subst he1 he3
          refine ⟨trivial, (CallsIn.inRound _ (callsIn_wide.2 (eq_fr y HYO.out (HG3.out.kw.trans kd) hc1 hrd))).mono ?_⟩
          rintro e W4 ⟨rfl, k4⟩
          refine ⟨gHolds_none rfl, ?_⟩
          refine tail_wanted rfl rfl ?_
          simp [go_sem]
          refine ⟨gHolds_none rfl, ?_⟩
          unfold wpTailG
          have kd4 := kd.trans k4
          have hk4 := Hk3.out.keep kd4 (by simp)
          have hr4 := Hr3.out.keep kd4 (by simp)
          have hX4 := HX3.out.keep kd4 (by simp)
          have hG4 := HG3.out.step (fun g hg => by simp at hg) kd4
          have hXK4 := HXK.out.trans (XK.of_keep (B := S.heap.size) kd4 (by simp))
          clear k4 kd4 kd Hk3 Hr3 HX3 HBT Hw3 HG3 HXK t0 t1 t2 t3 y0' y1 y2 y3 e0 kk0 n1 hc1 hrd
          try go_at_K
          have kk0 := hk4.cell 0
          have kf0 := hk4.frozen 0
          simp at kk0
          have ew : wrap64 ((j : Int) + 1) = (j : Int) + 1 := by have := HYL.out; have := HJN.out; unfold wrap64; omega
          have k5 : Keep [kb] W4 (W4.setCell ⟨kb, 0, none⟩ (.int .i64 ((j : Int) + 1))) := (Keep.refl _ W4).setCell (p := ⟨kb, 0, none⟩) (.inl (by simp)) _
          have hk5 : Blk (W4.setCell ⟨kb, 0, none⟩ (.int .i64 ((j : Int) + 1))) kb 3 #[.int .i64 ((j : Int) + 1)] := hk4.set_ 0 _
          have hr5 := hr4.keep k5 (fun g hg => by obtain rfl : g = kb := by simpa using hg
                                                  exact .inr ⟨_, _, hk4⟩)
          have hX5 := hX4.keep k5 (fun g hg => by
            obtain rfl : g = kb := by simpa using hg
            exact .inr (.inr ⟨_, hk4, fun _ _ => ⟨(by intro h; injection h with _ h; exact absurd h (by decide)), (by intro h; injection h with _ h; exact absurd h (by decide))⟩⟩))
          have hG5 := hG4.step (Turns.int hk4 (by have := HL.out; omega)) k5
          have hXK5 := hXK4.trans (XK.of_keep (B := S.heap.size) k5 (fun g hg => by
            obtain rfl : g = kb := by simpa using hg
            exact .inr ⟨_, _, by decide, hk4⟩))
          obtain ⟨W5', hW5'⟩ : ∃ W5', W5' = W4.setCell ⟨kb, 0, none⟩ (.int .i64 ((j : Int) + 1)) := ⟨_, rfl⟩
          rw [← hW5'] at hk5 hr5 hX5 hG5 hXK5
          have HW5' := Lib.hid hW5'
          have kz : ∀ (X : World), Rc S.heap.size X (rc .busy none) → Keep [S.heap.size + 1] X (X.putObj (S.heap.size + 1) (.loop (rc .ready none))) := fun X _ => (Keep.refl _ _).putObj (.inl (by simp)) _
          have hend : ∀ (X : World), j + 1 ≤ ys.length → FdX X fb fb false 16384 (wireAt ys (j + 1)) 0 → Blk X kb 3 #[.int .i64 ((j : Int) + 1)] → Rc S.heap.size X (rc .busy none) → GI w S.heap.size rb fc (fc + 1) (kb + 1) og fb ys.length cw cs X → XK S.heap.size W X →
              X.heap[S.heap.size + 1]? = some (.loop (rc .busy none)) ∧ XK S.heap.size W (X.putObj (S.heap.size + 1) (.loop (rc .ready none))) ∧ j + 1 ≤ ys.length ∧ FdX (X.putObj (S.heap.size + 1) (.loop (rc .ready none))) fb fb false 16384 (wireAt ys (j + 1)) 0 ∧ Blk (X.putObj (S.heap.size + 1) (.loop (rc .ready none))) kb 3 #[.int .i64 ((j : Int) + 1)] ∧ Rc S.heap.size (X.putObj (S.heap.size + 1) (.loop (rc .ready none))) (rc .ready none) ∧ GI w S.heap.size rb fc (fc + 1) (kb + 1) og fb ys.length cw cs (X.putObj (S.heap.size + 1) (.loop (rc .ready none))) := fun X h1 hX hk hr hG hx =>
            ⟨hr.rc, hx.trans (XK.of_keep' (B := S.heap.size) (kz X hr) (fun g hg => .inr (.inr ⟨rc .busy none, by rw [show g = S.heap.size + 1 by simpa using hg]; exact hr.rc⟩))), h1, FdX.loop hX hr.rc, hk.keep (kz X hr) (by have := HL.out; simp; omega), hr.put, hG.step (Turns.up (by omega) (by have := HL.out; omega)) (kz X hr)⟩
          have HEND := Lib.hid hend
          have e0 := hG4.bw.cell 0
          have ef := hG4.bf.cell 0
          simp at e0 ef
          have hlt := hG4.lt
          have m1 : og ≠ kb := hG4.bo.ne_ hk4 (by decide)
          have m2 : fc + 1 ≠ kb := hG4.bw.ne_ hk4 (by decide)
          have m3 : fc ≠ kb := hG4.bf.ne_ hk4 (by decide)
          have Hk5 := Lib.hid hk5
          have Hr5 := Lib.hid hr5
          have HX5 := Lib.hid hX5
          have HG5 := Lib.hid hG5
          have HXK5 := Lib.hid hXK5
          have HBO := Lib.hid hG4.bo
          clear kz hend hk5 hr5 hX5 hG5 hXK5 hk4 hr4 hX4 hG4 hXK4 k5 hW5' hlt
          by_cases hlast : j + 1 < ys.length
          · obtain ⟨y', hy'⟩ : ∃ y', ys[j + 1]? = some y' := ⟨_, List.getElem?_eq_getElem hlast⟩
            obtain ⟨hyo', hyg'⟩ := HYK.out y' (List.mem_of_getElem? hy')
            have p0 := HCC.out (j + 1) y' hy' 0 _ (by omega) rfl W4 HBO.out
            have p1 := HCC.out (j + 1) y' hy' 1 _ (by omega) rfl W4 HBO.out
            have p2 := HCC.out (j + 1) y' hy' 2 _ (by omega) rfl W4 HBO.out
            have p3 := HCC.out (j + 1) y' hy' 3 _ (by omega) rfl W4 HBO.out
            simp at p0
            have d1 : (j : Int) + 1 < (ys.length : Int) := by omega
            have d2 : (0 : Int) ≤ (j : Int) + 1 := by omega
            have HP := Lib.hid (rput_ y' hyo' HG5.out.kw)
            have HY' := Lib.hid hy'
            have HYG' := Lib.hid hyg'
            clear hy' hyo' hyg'
            gi_wp2
            rw [← HW5'.out]
            refine ⟨trivial, (CallsIn.inRound _ (callsIn_wide.2 HP.out)).mono ?_⟩
            rintro e w6' ⟨Ap', np', cp', r', rfl, _, hgd, k6⟩
            have hgd2 := hgd HYG'.out
            obtain ⟨wi', hwi'⟩ : ∃ wi', wi' = y'.wire := ⟨_, rfl⟩
            have hwl' : wi'.length ≤ 20000 := by rw [hwi', y'.wire_len]; have := HYG'.out.2; omega
            have hwat : wireAt ys (j + 1) = wi' := by unfold wireAt; rw [HY'.out, hwi']
            rw [← hwi'] at hgd2
            clear hwi' hgd
            obtain ⟨hnp', hrw⟩ := hgd2
            subst hnp'
            obtain ⟨_, _, he, _, _, hrd⟩ := hrw.reads
            injection he with he1 he2 he3
            clear he2
            subst he1 he3
            rw [encB_len] at hrd
            have hk6 := Hk5.out.keep k6 (by simp)
            have hr6 := Hr5.out.keep k6 (by simp)
            have hX6 := HX5.out.keep k6 (by simp)
            have hG6 := HG5.out.step (fun g hg => by simp at hg) k6
            have hXK6 := HXK5.out.trans (XK.of_keep (B := S.heap.size) k6 (by simp))
            have ef6 := hG6.bf.cell 0
            simp at ef6
            have Hk6 := Lib.hid hk6
            have Hr6 := Lib.hid hr6
            have HX6 := Lib.hid hX6
            have HG6 := Lib.hid hG6
            have HXK6 := Lib.hid hXK6
            have HRD := Lib.hid hrd
            have HWL' := Lib.hid hwl'
            have HWAT := Lib.hid hwat
            clear hrw k6 hk6 hr6 hX6 hG6 hXK6 hrd hwl' hwat HP HBO Hk5 Hr5 HX5 HG5 HXK5 p0 p1 p2 p3 d1 d2
            gi_wp2
            refine ⟨trivial, (CallsIn.inRound _ (callsIn_wide.2 (putX HX6.out (by have := HX6.out.lt; omega) HRD.out (by have := HWL'.out; simp; omega)))).mono ?_⟩
            rintro e w7' ⟨rfl, hX7, gs, k7, hg⟩
            rw [List.nil_append, ← HWAT.out] at hX7
            have hk7 := Hk6.out.keep k7 (hg.blk Hk6.out (by decide) (by have := HL.out; omega))
            have hr7 := Hr6.out.keep k7 (put_blk hg HX6.out)
            have hG7 := HG6.out.step (Turns.put hg HX6.out (HL.out.2.1) (HL.out.2.1)) k7
            have hXK7 := HXK6.out.trans (XK.of_keep (B := S.heap.size) k7 (fun g hm => by
              rcases hg g hm with rfl | ⟨_, cs', hb'⟩
              · obtain ⟨v', hv'⟩ := HX6.out
                exact .inr ⟨_, _, by decide, hv'.blk⟩
              · exact .inr ⟨_, _, by decide, hb'⟩))
            have HF := Lib.hid (HEND.out w7' (by omega) hX7 hk7 hr7 hG7 hXK7)
            clear hX7 hk7 hr7 hG7 hXK7 k7 hg gs
            gi_wp2
            exact HF.out
          · have d1 : ¬ (j : Int) + 1 < (ys.length : Int) := by omega
            have hw : wireAt ys (j + 1) = [] := by unfold wireAt; rw [List.getElem?_eq_none (by omega)]
            have HWA : Hid (FdX W5' fb fb false 16384 (wireAt ys (j + 1)) 0) := Lib.hid (by rw [hw]; exact HX5.out)
            have HLE : Hid (j + 1 ≤ ys.length) := Lib.hid (by omega)
            clear hw hlast
            gi_wp2
            rw [← HW5'.out]
            exact HEND.out _ HLE.out HWA.out Hk5.out Hr5.out HG5.out HXK5.out
end Go.Proofs.Ytigdigljcalgkaa
