/- pipe: PipeWhole: what was put comes, in order. -/
import Derived.Test.YtinokgmmdmkbcaaNone
set_option linter.all false
namespace Go.Proofs.Ytinokgmmdmkbcaa
open Go.ChangeShapes Go.WideShapes Go.ChangeAt Go.RowKit
attribute [local go_sem] setCell_drewN alloc_drewN
theorem Sep.symm {v u : Value} (h : Sep v u) : Sep u v := fun g e e' => h g e' e
theorem Sep.moved {w : World} {v v' u : Value} (h : Sep v u) (hu : ∀ g, rowBlk u = some g → g < w.heap.size) (hm : Moved w v v') : Sep v' u := fun g e e' => by
  rcases hm g e with h1 | h1
  · exact h g h1 e'
  · have := hu g e'; omega
theorem Sep.keeps {w w' : World} {base : Nat} {e : TypeId} {v u : Value} {xs : List Value} (h : Sep u v) (hr : Row1 w base e u xs) (k : Keep (rowBlk v).toList w w') : Row1 w' base e u xs :=
  hr.keep k (fun g hg hx => h g hg (by simpa using hx))
theorem slices_of_sl {w : World} {N : Nat} {v : Value} (h : Sl w 1 (fun _ u => Sl w 1 (fun _ => IsInt .u8) u ∧ ∀ A n c, u = .slice A n c → n ≤ N) v) : ∃ A n c, v = .slice A n c ∧ n ≤ c ∧ c ≤ maxLen ∧
    ∀ i, i < n → ∃ b off, A = some ⟨b, off, none⟩ ∧ b < w.heap.size ∧ ∃ Ap np cp ps, w.cell? ⟨b, off + i, none⟩ = some (.slice Ap np cp) ∧ np ≤ N ∧ ps.length = np ∧ np ≤ cp ∧ cp ≤ maxLen ∧ Reads w w.heap.size 1 Ap np (encB ps) := by
  obtain ⟨A, n, c, rfl, hl, hm, h⟩ := h
  refine ⟨A, n, c, rfl, hl, hm, fun i hi => ?_⟩
  rcases h with h0 | ⟨b, off, rfl, hb, hc⟩
  · omega
  · obtain ⟨u, hu, hs, hn⟩ := hc i (by omega) 0 (by omega)
    obtain ⟨Ap, np, cp, ps, rfl, h1, h2, h3, h4⟩ := reads_of_sl hs
    exact ⟨b, off, rfl, hb, Ap, np, cp, ps, by simpa using hu, hn _ _ _ rfl, h3, h1, h2, h4⟩
set_option maxRecDepth 100000 in
set_option maxHeartbeats 8000000 in
theorem pipeWhole (w : World) (v : Value) (hv : Sl w 1 (fun _ u => Sl w 1 (fun _ => IsInt .u8) u ∧ ∀ A n c, u = .slice A n c → n ≤ 1048576) v) (u : Value) (hu : Sl w 1 (fun _ => IsInt .i64) u) :
    Calls Try.prog 4 #[v, u] w fun e w' => e = .returned (.bool true) ∧ Below w.heap.size w w' := by
  obtain ⟨i0, z0, hi, hz, hz0, hz1, hz2⟩ := u8_info
  obtain ⟨A, n, c, rfl, hnc, hcm, hat⟩ := slices_of_sl hv
  obtain ⟨B, m, d, zs, rfl, hmd, hdm, hzl, hzr⟩ := ints_of_sl hu
  clear hv hu
  unfold maxLen at hcm hdm
  have Hat := Lib.hid hat
  have Hzr := Lib.hid hzr
  clear hat hzr
  go_enter Try.func4, Try.ntmps4
  go_wp2_with (first
    | (go_at_call 7; refine (begun _).mono ?_; rintro e w1 ⟨rfl, hb1⟩)
    | (go_at_call 8; refine (new_ _).mono ?_; rintro e w' ⟨rfl, rfl⟩))
  have hb1 := Keep.of_below hb1
  have p0 : Pp (w1.alloc (.cells #[.slice none 0 0, .bool false, .bool false] 51)) w.heap.size w1.heap.size 51 (.slice none 0 0) [] false false := ⟨Blk.new w1 _ _, Row1.nil _ _ _⟩
  have K0 : Keep [] w (w1.alloc (.cells #[.slice none 0 0, .bool false, .bool false] 51)) := hb1.alloc _
  obtain ⟨W0, hW0⟩ : ∃ W0, W0 = w1.alloc (.cells #[.slice none 0 0, .bool false, .bool false] 51) := ⟨_, rfl⟩
  have szw := hb1.size
  rw [← hW0] at p0 K0 ⊢
  clear hW0 hb1
  obtain ⟨pb, hpb⟩ : ∃ pb, pb = w1.heap.size := ⟨_, rfl⟩
  rw [← hpb] at p0 szw ⊢
  clear hpb
  go_loopw [7, 8, 9] (fun va vg vi wr => ∃ (i : Nat) (L G bs : List UInt8) (v' : Value), vi = .int .i64 i ∧ i ≤ n ∧ i ≤ 50 ∧ L.length ≤ i * 1048576 ∧ L = G ++ bs ∧ Row1 wr w.heap.size 5 va (encB L) ∧ Row1 wr w.heap.size 5 vg (encB G) ∧ Pp wr w.heap.size pb 51 v' bs false false ∧ Sep va vg ∧ Sep va v' ∧ Sep vg v' ∧ Keep [] w wr) (fun _ _ vi _ => n - (intOf vi).toNat)
  case atStart => exact ⟨0, [], [], [], _, rfl, by omega, by omega, by simp, rfl, Row1.nil _ _ _, Row1.nil _ _ _, p0, fun g h => (by cases h), fun g h => (by cases h), fun g h => (by cases h), K0⟩
  case round =>
    obtain ⟨i, L, G, bs, v', rfl, hin, hi50, hLl, hLG, hra, hrg, hp, s1, s2, s3, kr⟩ := hrel
    have szr := kr.size
    have hbl : bs.length ≤ L.length := by rw [hLG]; simp
    have hgl : G.length ≤ L.length := by rw [hLG]; simp
    have HLG := Lib.hid hLG
    clear hLG
    obtain ⟨Aa, ca, rfl, ha1, ha2, hrda⟩ := hra.reads
    obtain ⟨Ag, cg, rfl, hg1, hg2, hrdg⟩ := hrg.reads
    clear hrda hrdg
    have i0' : (0 : Int) ≤ (i : Int) := by omega
    by_cases hlt : i < n
    · have k1 : (i : Int) < (n : Int) := by omega
      by_cases h50 : i < 50
      · have k50 : (i : Int) < 50 := by omega
        obtain ⟨b1, o1, rfl, hb1, Ap, np, cp, ps, e1, hpn, hpl, hpc, hcp, hrp⟩ := Hat.out i hlt
        unfold maxLen at hcp
        have e1 := (kr.cell (p := ⟨b1, o1 + i, none⟩) hb1 (by simp)).trans e1
        have Hrp := Lib.hid hrp
        clear hrp
        have nP := hp.ne (by decide)
        have oa := row_off_blk hra hp.blk (by decide)
        have og := row_off_blk hrg hp.blk (by decide)
        have lta := fun g e => (hra.lt g e).2
        have ltg := fun g e => (hrg.lt g e).2
        by_cases htk : i < m
        · have kt : (i : Int) < (m : Int) := by omega
          have hki : i < zs.length := by omega
          obtain ⟨b2, o2, rfl, hb2, hz'⟩ := Hzr.out.plain (by omega) (by omega)
          have f1 := hz' i (.int .i64 zs[i]) (by simp [hki])
          obtain ⟨x, hx⟩ : ∃ x, x = zs[i] := ⟨_, rfl⟩
          rw [← hx] at f1
          clear hx hz'
          have F1 := Lib.hid f1
          clear f1
          by_cases hx1 : x < 1
          · go_wp2_with (first
              | (go_at_call 9; apply (put_ hp szr (Hrp.out.keeps kr (Nat.le_refl _) (by simp)) (by omega)).mono; rintro e w2 ⟨rfl, v2, p2, k2, m2⟩; simp only [Bool.false_eq_true, if_false] at p2; have hra2 := hra.keep k2 (fun g hg hx => (by rcases List.mem_cons.1 hx with rfl | hx; exact oa hg; exact s2 g hg (by simpa using hx))); have hrg2 := hrg.keep k2 (fun g hg hx => (by rcases List.mem_cons.1 hx with rfl | hx; exact og hg; exact s3 g hg (by simpa using hx))); have t2 := (s2.symm.moved lta m2); have t3 := (s3.symm.moved ltg m2); have kr2 : Keep [] w w2 := kr.step k2 (fun g hx => (by rcases List.mem_cons.1 hx with rfl | hx; exact .inr (by omega); exact .inr (hp.row.lt g (by simpa using hx)).1)); have sz2 := kr2.size; have e2 := (k2.cell (p := ⟨b1, o1 + i, none⟩) (by simp; omega) (fun hx => (by rcases List.mem_cons.1 hx with hx | hx; simp at hx; omega; have := (hp.row.lt b1 (by simpa using hx)).1; omega))).trans e1; clear e1; have f2 := (kr2.cell (p := ⟨b2, o2 + i, none⟩) hb2 (by simp)).trans F1.out)
              | (at_builtin; apply wpList_append_row _ rfl _ _ _ rfl w.heap.size 5 i0 z0 1 Try.underlying22 hi hz hz0 hz1 hz2 (.slice Aa ((encB L).length) ca) (encB L) rfl hra2 _ Ap np cp (encB ps) rfl (Hrp.out.keeps kr2 (Nat.le_refl _) (by simp)) encB_one (by unfold maxLen; rw [encB_len]; omega) (by rw [encB_len]; omega) sz2; intro va3 w3 hra3 k3 hm3; rw [← encB_append] at hra3; have hm3 := moved_of hm3; obtain ⟨Aa3, ca3, rfl, _⟩ := hra3.reads; have p3 := p2.keep k3 (fun hx => row_off_blk hra2 p2.blk (by decide) (by simpa using hx)) (fun g hg hx => t2 g hg (by simpa using hx)); have hrg3 := hrg2.keep k3 (fun g hg hx => s1.symm g hg (by simpa using hx)); have kr3 : Keep [] w w3 := kr2.step k3 (fun g hx => .inr (hra2.lt g (by simpa using hx)).1); have sz3 := kr3.size; have u1 := s1.moved (fun g e => (hrg2.lt g e).2) hm3; have u2 := t2.symm.moved (fun g e => (p2.row.lt g e).2) hm3; have f3 := (kr3.cell (p := ⟨b2, o2 + i, none⟩) hb2 (by simp)).trans F1.out)
              | (go_at_call 15; refine (take_no x hx1).mono ?_; rintro e w4 ⟨rfl, rfl⟩)
              | (at_builtin; apply wpList_append_row _ rfl _ _ _ rfl w.heap.size 5 i0 z0 1 Try.underlying22 hi hz hz0 hz1 hz2 (.slice Ag ((encB G).length) cg) (encB G) rfl hrg3 _ none 0 0 (encB []) rfl (reads_nil (B := 0)) encB_one (by unfold maxLen; simp only [encB_len]; omega) (by simp only [encB_len]; omega) sz3; intro vg5 w5 hrg5 k5 hm5; rw [← encB_append] at hrg5; have hm5 := moved_of hm5))
            go_roundw
            case rel =>
              have kg : Keep (rowBlk (.slice Ag ((encB G).length) cg)).toList w3 w5 := k5
              refine ⟨i + 1, L ++ ps, G ++ [], bs ++ ps, _, by go_num, by omega, by omega, by simp; omega, by rw [HLG.out]; simp, u1.keeps hra3 k5, hrg5, p3.keep k5 (fun hx => row_off_blk hrg3 p3.blk (by decide) (by simpa using hx)) (fun g hg hx => t3 g hg (by simpa using hx)), (u1.symm.moved (fun g e => (hra3.lt g e).2) hm5).symm, u2, (t3.symm.moved (fun g e => (p3.row.lt g e).2) hm5), kr3.step k5 (fun g hx => .inr (hrg3.lt g (by simpa using hx)).1)⟩
            case measure => simp [intOf]; omega
          · obtain ⟨xn, rfl⟩ : ∃ xn : Nat, x = xn := ⟨x.toNat, by omega⟩
            have hxn : 1 ≤ xn := by omega
            obtain ⟨kk, hkk⟩ : ∃ kk, kk = min xn (bs ++ ps).length := ⟨_, rfl⟩
            obtain ⟨T, hT⟩ : ∃ T, T = (bs ++ ps).take kk := ⟨_, rfl⟩
            obtain ⟨D, hD⟩ : ∃ D, D = (bs ++ ps).drop kk := ⟨_, rfl⟩
            have hTD := Lib.hid (show T ++ D = bs ++ ps by rw [hT, hD, List.take_append_drop])
            have hTl : T.length ≤ (bs ++ ps).length := by rw [hT, List.length_take]; omega
            rw [List.length_append, hpl] at hTl
            have hov : (overB D false && !false) = false := by simp [overB]
            have HKK := Lib.hid hkk
            have HT := Lib.hid hT
            have HD := Lib.hid hD
            clear hkk hT hD
            go_wp2_with (first
              | (go_at_call 9; apply (put_ hp szr (Hrp.out.keeps kr (Nat.le_refl _) (by simp)) (by omega)).mono; rintro e w2 ⟨rfl, v2, p2, k2, m2⟩; simp only [Bool.false_eq_true, if_false] at p2; have hra2 := hra.keep k2 (fun g hg hx => (by rcases List.mem_cons.1 hx with rfl | hx; exact oa hg; exact s2 g hg (by simpa using hx))); have hrg2 := hrg.keep k2 (fun g hg hx => (by rcases List.mem_cons.1 hx with rfl | hx; exact og hg; exact s3 g hg (by simpa using hx))); have t2 := (s2.symm.moved lta m2); have t3 := (s3.symm.moved ltg m2); have kr2 : Keep [] w w2 := kr.step k2 (fun g hx => (by rcases List.mem_cons.1 hx with rfl | hx; exact .inr (by omega); exact .inr (hp.row.lt g (by simpa using hx)).1)); have sz2 := kr2.size; have e2 := (k2.cell (p := ⟨b1, o1 + i, none⟩) (by simp; omega) (fun hx => (by rcases List.mem_cons.1 hx with hx | hx; simp at hx; omega; have := (hp.row.lt b1 (by simpa using hx)).1; omega))).trans e1; clear e1; have f2 := (kr2.cell (p := ⟨b2, o2 + i, none⟩) hb2 (by simp)).trans F1.out)
              | (at_builtin; apply wpList_append_row _ rfl _ _ _ rfl w.heap.size 5 i0 z0 1 Try.underlying22 hi hz hz0 hz1 hz2 (.slice Aa ((encB L).length) ca) (encB L) rfl hra2 _ Ap np cp (encB ps) rfl (Hrp.out.keeps kr2 (Nat.le_refl _) (by simp)) encB_one (by unfold maxLen; rw [encB_len]; omega) (by rw [encB_len]; omega) sz2; intro va3 w3 hra3 k3 hm3; rw [← encB_append] at hra3; have hm3 := moved_of hm3; obtain ⟨Aa3, ca3, rfl, _⟩ := hra3.reads; have p3 := p2.keep k3 (fun hx => row_off_blk hra2 p2.blk (by decide) (by simpa using hx)) (fun g hg hx => t2 g hg (by simpa using hx)); have hrg3 := hrg2.keep k3 (fun g hg hx => s1.symm g hg (by simpa using hx)); have kr3 : Keep [] w w3 := kr2.step k3 (fun g hx => .inr (hra2.lt g (by simpa using hx)).1); have sz3 := kr3.size; have u1 := s1.moved (fun g e => (hrg2.lt g e).2) hm3; have u2 := t2.symm.moved (fun g e => (p2.row.lt g e).2) hm3; have f3 := (kr3.cell (p := ⟨b2, o2 + i, none⟩) hb2 (by simp)).trans F1.out)
              | (go_at_call 15; have ht := take_ p3 (by simp; omega) xn kk hxn HKK.out; rw [← HT.out, ← HD.out] at ht; apply ht.mono; rintro e w4 ⟨r4, v4, rfl, hr4, p4, k4, m4⟩; rw [hov] at p4; simp only [Bool.or_false] at p4; rw [hov]; obtain ⟨A4, c4, rfl, _, _, hrd4⟩ := hr4.reads; have hra4 := hra3.keep k4 (fun g hg hx => (by simp at hx; subst hx; exact row_off_blk hra3 p3.blk (by decide) hg)); have hrg4 := hrg3.keep k4 (fun g hg hx => (by simp at hx; subst hx; exact row_off_blk hrg3 p3.blk (by decide) hg)); have kr4 : Keep [] w w4 := kr3.step k4 (by simp; omega); have sz4 := kr4.size; have u3 := u2.symm.moved (fun g e => (hra3.lt g e).2) m4; have t4 := t3.moved (fun g e => (hrg3.lt g e).2) m4)
              | (at_builtin; apply wpList_append_row _ rfl _ _ _ rfl w.heap.size 5 i0 z0 1 Try.underlying22 hi hz hz0 hz1 hz2 (.slice Ag ((encB G).length) cg) (encB G) rfl hrg4 _ A4 ((encB T).length) c4 (encB T) rfl hrd4 encB_one (by unfold maxLen; simp only [encB_len]; omega) (by simp only [encB_len]; omega) sz4; intro vg5 w5 hrg5 k5 hm5; rw [← encB_append] at hrg5; have hm5 := moved_of hm5))
            go_roundw
            case rel =>
              refine ⟨i + 1, L ++ ps, G ++ T, D, _, by go_num, by omega, by omega, by simp; omega, by rw [HLG.out, List.append_assoc, List.append_assoc, hTD.out], u1.keeps hra4 k5, hrg5, p4.keep k5 (fun hx => row_off_blk hrg4 p4.blk (by decide) (by simpa using hx)) (fun g hg hx => t4 g hg (by simpa using hx)), (u1.symm.moved (fun g e => (hra4.lt g e).2) hm5).symm, u3.symm, (t4.symm.moved (fun g e => (p4.row.lt g e).2) hm5), kr4.step k5 (fun g hx => .inr (hrg4.lt g (by simpa using hx)).1)⟩
            case measure => simp [intOf]; omega
        · have kt : ¬ (i : Int) < (m : Int) := by omega
          go_wp2_with (first
            | (go_at_call 9; apply (put_ hp szr (Hrp.out.keeps kr (Nat.le_refl _) (by simp)) (by omega)).mono; rintro e w2 ⟨rfl, v2, p2, k2, m2⟩; simp only [Bool.false_eq_true, if_false] at p2; have hra2 := hra.keep k2 (fun g hg hx => (by rcases List.mem_cons.1 hx with rfl | hx; exact oa hg; exact s2 g hg (by simpa using hx))); have hrg2 := hrg.keep k2 (fun g hg hx => (by rcases List.mem_cons.1 hx with rfl | hx; exact og hg; exact s3 g hg (by simpa using hx))); have t2 := (s2.symm.moved lta m2); have t3 := (s3.symm.moved ltg m2); have kr2 : Keep [] w w2 := kr.step k2 (fun g hx => (by rcases List.mem_cons.1 hx with rfl | hx; exact .inr (by omega); exact .inr (hp.row.lt g (by simpa using hx)).1)); have sz2 := kr2.size; have e2 := (k2.cell (p := ⟨b1, o1 + i, none⟩) (by simp; omega) (fun hx => (by rcases List.mem_cons.1 hx with hx | hx; simp at hx; omega; have := (hp.row.lt b1 (by simpa using hx)).1; omega))).trans e1; clear e1)
            | (at_builtin; apply wpList_append_row _ rfl _ _ _ rfl w.heap.size 5 i0 z0 1 Try.underlying22 hi hz hz0 hz1 hz2 (.slice Aa ((encB L).length) ca) (encB L) rfl hra2 _ Ap np cp (encB ps) rfl (Hrp.out.keeps kr2 (Nat.le_refl _) (by simp)) encB_one (by unfold maxLen; rw [encB_len]; omega) (by rw [encB_len]; omega) sz2; intro va3 w3 hra3 k3 hm3; rw [← encB_append] at hra3; have hm3 := moved_of hm3; obtain ⟨Aa3, ca3, rfl, _⟩ := hra3.reads; have p3 := p2.keep k3 (fun hx => row_off_blk hra2 p2.blk (by decide) (by simpa using hx)) (fun g hg hx => t2 g hg (by simpa using hx)); have hrg3 := hrg2.keep k3 (fun g hg hx => s1.symm g hg (by simpa using hx)); have kr3 : Keep [] w w3 := kr2.step k3 (fun g hx => .inr (hra2.lt g (by simpa using hx)).1); have sz3 := kr3.size; have u1 := s1.moved (fun g e => (hrg2.lt g e).2) hm3; have u2 := t2.symm.moved (fun g e => (p2.row.lt g e).2) hm3))
          go_roundw
          case rel =>
            refine ⟨i + 1, L ++ ps, G, bs ++ ps, _, by go_num, by omega, by omega, by simp; omega, by rw [HLG.out]; simp, hra3, hrg3, p3, u1, u2, t3.symm, kr3⟩
          case measure => simp [intOf]; omega
      · have k50 : ¬ (i : Int) < 50 := by omega
        have hl50 : L.length ≤ 52428800 := by omega
        have hov8 : (overB (bs.drop bs.length) true && !false) = true := by simp [overB]
        have hbd : bs.drop bs.length = [] := by simp
        have hbt : bs.take bs.length = bs := by simp
        have HBD := Lib.hid hbd
        have HBT := Lib.hid hbt
        clear hbd hbt hov8
        have hpbw : pb < wr.heap.size := hp.blk.lt
        have oa := row_off_blk hra hp.blk (by decide)
        have og := row_off_blk hrg hp.blk (by decide)
        go_wp2_with (go_at_call 16; apply (end_ hp).mono; rintro e w6 ⟨rfl, rfl⟩; have p6 := hp.setEnds (by decide) true; have k6 : Keep [pb] wr (wr.setCell ⟨pb, 1, none⟩ (.bool true)) := (Keep.refl _ wr).setCell (p := ⟨pb, 1, none⟩) (.inl (by simp)) _; obtain ⟨W6, hW6⟩ : ∃ W6, W6 = wr.setCell ⟨pb, 1, none⟩ (.bool true) := ⟨_, rfl⟩; rw [← hW6] at p6 k6; rw [← hW6]; clear hW6; have kc := Lib.run_convert_bytes_const (P := Try.prog) W6 22 5 #[.int .u8 108, .int .u8 97, .int .u8 116, .int .u8 101] 4 4 Try.underlying22 Try.underlying5)
        have kl : Keep [] W6 (W6.alloc (.cells #[.int .u8 108, .int .u8 97, .int .u8 116, .int .u8 101] 5 (4, 5))) := (Keep.refl [] W6).alloc _
        have rl : Reads (W6.alloc (.cells #[.int .u8 108, .int .u8 97, .int .u8 116, .int .u8 101] 5 (4, 5))) _ 1 _ 4 (encB [108, 97, 116, 101]) := reads_w _ _ _ _ rfl rfl
        have sz6 := k6.size
        apply (put_ (p6.keep kl (by simp) (by simp)) (by simp; omega) rl (by simp; omega)).mono
        rintro e w7 ⟨rfl, v7, p7, k7, m7⟩
        simp only [if_true] at p7
        have k67 : Keep (pb :: (rowBlk v').toList) wr w7 := ((k6.more (by simp)).trans (kl.more (by simp))).trans k7
        have ra7 := hra.keep k67 (fun g hg hx => (by rcases List.mem_cons.1 hx with rfl | hx; exact oa hg; exact s2 g hg (by simpa using hx)))
        have rg7 := hrg.keep k67 (fun g hg hx => (by rcases List.mem_cons.1 hx with rfl | hx; exact og hg; exact s3 g hg (by simpa using hx)))
        have K7 : Keep [] w w7 := kr.step k67 (fun g hx => (by rcases List.mem_cons.1 hx with rfl | hx; exact .inr (by omega); exact .inr (hp.row.lt g (by simpa using hx)).1))
        have t7 := s3.symm.moved (w := wr) (fun g e => (hrg.lt g e).2) (fun g e => (m7 g e).elim .inl (fun h => .inr (by simp at h; omega)))
        have sz7 := K7.size
        clear kc kl rl k6 k7 m7 p6 sz6 k67 hra hrg hp kr s2 s3 szr oa og ha1 ha2 hg1 hg2
        go_wp2_with (fail)
        have ht := take_ p7 (by omega) 1099511627776 bs.length (by omega) (by omega)
        rw [HBD.out, HBT.out] at ht
        apply ht.mono
        rintro e w8 ⟨r8, v8, rfl, hr8, p8, k8, m8⟩
        obtain ⟨A8, c8, rfl, _, _, hrd8⟩ := hr8.reads
        have ra8 := ra7.keep k8 (fun g hg hx => (by simp at hx; subst hx; exact row_off_blk ra7 p7.blk (by decide) hg))
        have rg8 := rg7.keep k8 (fun g hg hx => (by simp at hx; subst hx; exact row_off_blk rg7 p7.blk (by decide) hg))
        have K8 : Keep [] w w8 := K7.step k8 (by simp; omega)
        have sz8 := K8.size
        have t8 := t7.moved (fun g e => (rg7.lt g e).2) m8
        have p8 : Pp w8 w.heap.size pb 51 v8 [] true true := p8
        rw [show (overB [] true && !false) = true from rfl]
        clear ht ra7 rg7 K7 k8 m8 t7 p7 hr8 sz7
        go_wp2_with (at_builtin; apply wpList_append_row _ rfl _ _ _ rfl w.heap.size 5 i0 z0 1 Try.underlying22 hi hz hz0 hz1 hz2 (.slice Ag ((encB G).length) cg) (encB G) rfl rg8 _ A8 ((encB bs).length) c8 (encB bs) rfl hrd8 encB_one (by unfold maxLen; rw [encB_len, encB_len]; omega) (by rw [encB_len, encB_len]; omega) sz8; intro vg9 w9 rg9 k9 hm9; rw [← encB_append, ← HLG.out] at rg9; obtain ⟨A9, c9, rfl, _⟩ := rg9.reads)
        have p9 := p8.keep k9 (fun hx => row_off_blk rg8 p8.blk (by decide) (by simpa using hx)) (fun g hg hx => t8 g hg (by simpa using hx))
        have ra9 := ra8.keep k9 (fun g hg hx => s1 g hg (by simpa using hx))
        have K9 : Keep [] w w9 := K8.step k9 (fun g hx => .inr (rg8.lt g (by simpa using hx)).1)
        have sz9 := K9.size
        have ht : Calls Try.prog 15 #[.pointer (some ⟨pb, 0, none⟩), .int .i64 1] w9 fun e w' => ∃ r v', e = .returned (.tuple #[r, .bool false]) ∧ Row1 w' w9.heap.size 5 r (encB []) ∧ Pp w' w.heap.size pb 51 v' [] true true ∧ Keep [pb] w9 w' ∧ Moved w9 v8 v' := take_ p9 (by simp) 1 0 (by omega) (by simp)
        clear ra8 rg8 K8 k9 hm9 t8 p8 hrd8 sz8 s1
        go_wp2_with (fail)
        apply ht.mono
        rintro e wA ⟨rA, vA, rfl, hrA, pA, kA, -⟩
        obtain ⟨AA, cA, rfl, _⟩ := hrA.reads
        have raA := ra9.keep kA (fun g hg hx => (by simp at hx; subst hx; exact row_off_blk ra9 p9.blk (by decide) hg))
        have rgA := rg9.keep kA (fun g hg hx => (by simp at hx; subst hx; exact row_off_blk rg9 p9.blk (by decide) hg))
        have KA := Lib.hid (show Keep [] w wA from K9.step kA (by simp; omega))
        obtain ⟨X1, Y1, ex, _, _, hX⟩ := raA.reads
        injection ex with x1 x2 x3
        subst x1 x3
        obtain ⟨X2, Y2, ey, _, _, hY⟩ := rgA.reads
        injection ey with y1 y2 y3
        subst y1 y3
        have st1 := str_of (c := ca) (src := 22) (dst := 9) Try.underlying22 Try.underlying5 Try.underlying9 hX
        have st2 := str_of (c := c9) (src := 22) (dst := 9) Try.underlying22 Try.underlying5 Try.underlying9 hY
        clear ht ra9 rg9 K9 kA p9 hrA pA raA rgA hX hY sz9 hbl hgl hl50 hLl
        go_wp2_with (fail)
        go_ret
        exact ⟨rfl, KA.out.below (Nat.le_refl _) (by simp)⟩
    · have k1 : ¬ (i : Int) < (n : Int) := by omega
      have hl50 : L.length ≤ 52428800 := by omega
      have hov8 : (overB (bs.drop bs.length) true && !false) = true := by simp [overB]
      have hbd : bs.drop bs.length = [] := by simp
      have hbt : bs.take bs.length = bs := by simp
      have HBD := Lib.hid hbd
      have HBT := Lib.hid hbt
      clear hbd hbt hov8
      have hpbw : pb < wr.heap.size := hp.blk.lt
      have oa := row_off_blk hra hp.blk (by decide)
      have og := row_off_blk hrg hp.blk (by decide)
      go_wp2_with (go_at_call 16; apply (end_ hp).mono; rintro e w6 ⟨rfl, rfl⟩; have p6 := hp.setEnds (by decide) true; have k6 : Keep [pb] wr (wr.setCell ⟨pb, 1, none⟩ (.bool true)) := (Keep.refl _ wr).setCell (p := ⟨pb, 1, none⟩) (.inl (by simp)) _; obtain ⟨W6, hW6⟩ : ∃ W6, W6 = wr.setCell ⟨pb, 1, none⟩ (.bool true) := ⟨_, rfl⟩; rw [← hW6] at p6 k6; rw [← hW6]; clear hW6; have kc := Lib.run_convert_bytes_const (P := Try.prog) W6 22 5 #[.int .u8 108, .int .u8 97, .int .u8 116, .int .u8 101] 4 4 Try.underlying22 Try.underlying5)
      have kl : Keep [] W6 (W6.alloc (.cells #[.int .u8 108, .int .u8 97, .int .u8 116, .int .u8 101] 5 (4, 5))) := (Keep.refl [] W6).alloc _
      have rl : Reads (W6.alloc (.cells #[.int .u8 108, .int .u8 97, .int .u8 116, .int .u8 101] 5 (4, 5))) _ 1 _ 4 (encB [108, 97, 116, 101]) := reads_w _ _ _ _ rfl rfl
      have sz6 := k6.size
      apply (put_ (p6.keep kl (by simp) (by simp)) (by simp; omega) rl (by simp; omega)).mono
      rintro e w7 ⟨rfl, v7, p7, k7, m7⟩
      simp only [if_true] at p7
      have k67 : Keep (pb :: (rowBlk v').toList) wr w7 := ((k6.more (by simp)).trans (kl.more (by simp))).trans k7
      have ra7 := hra.keep k67 (fun g hg hx => (by rcases List.mem_cons.1 hx with rfl | hx; exact oa hg; exact s2 g hg (by simpa using hx)))
      have rg7 := hrg.keep k67 (fun g hg hx => (by rcases List.mem_cons.1 hx with rfl | hx; exact og hg; exact s3 g hg (by simpa using hx)))
      have K7 : Keep [] w w7 := kr.step k67 (fun g hx => (by rcases List.mem_cons.1 hx with rfl | hx; exact .inr (by omega); exact .inr (hp.row.lt g (by simpa using hx)).1))
      have t7 := s3.symm.moved (w := wr) (fun g e => (hrg.lt g e).2) (fun g e => (m7 g e).elim .inl (fun h => .inr (by simp at h; omega)))
      have sz7 := K7.size
      clear kc kl rl k6 k7 m7 p6 sz6 k67 hra hrg hp kr s2 s3 szr oa og ha1 ha2 hg1 hg2
      go_wp2_with (fail)
      have ht := take_ p7 (by omega) 1099511627776 bs.length (by omega) (by omega)
      rw [HBD.out, HBT.out] at ht
      apply ht.mono
      rintro e w8 ⟨r8, v8, rfl, hr8, p8, k8, m8⟩
      obtain ⟨A8, c8, rfl, _, _, hrd8⟩ := hr8.reads
      have ra8 := ra7.keep k8 (fun g hg hx => (by simp at hx; subst hx; exact row_off_blk ra7 p7.blk (by decide) hg))
      have rg8 := rg7.keep k8 (fun g hg hx => (by simp at hx; subst hx; exact row_off_blk rg7 p7.blk (by decide) hg))
      have K8 : Keep [] w w8 := K7.step k8 (by simp; omega)
      have sz8 := K8.size
      have t8 := t7.moved (fun g e => (rg7.lt g e).2) m8
      have p8 : Pp w8 w.heap.size pb 51 v8 [] true true := p8
      rw [show (overB [] true && !false) = true from rfl]
      clear ht ra7 rg7 K7 k8 m8 t7 p7 hr8 sz7
      go_wp2_with (at_builtin; apply wpList_append_row _ rfl _ _ _ rfl w.heap.size 5 i0 z0 1 Try.underlying22 hi hz hz0 hz1 hz2 (.slice Ag ((encB G).length) cg) (encB G) rfl rg8 _ A8 ((encB bs).length) c8 (encB bs) rfl hrd8 encB_one (by unfold maxLen; rw [encB_len, encB_len]; omega) (by rw [encB_len, encB_len]; omega) sz8; intro vg9 w9 rg9 k9 hm9; rw [← encB_append, ← HLG.out] at rg9; obtain ⟨A9, c9, rfl, _⟩ := rg9.reads)
      have p9 := p8.keep k9 (fun hx => row_off_blk rg8 p8.blk (by decide) (by simpa using hx)) (fun g hg hx => t8 g hg (by simpa using hx))
      have ra9 := ra8.keep k9 (fun g hg hx => s1 g hg (by simpa using hx))
      have K9 : Keep [] w w9 := K8.step k9 (fun g hx => .inr (rg8.lt g (by simpa using hx)).1)
      have sz9 := K9.size
      have ht : Calls Try.prog 15 #[.pointer (some ⟨pb, 0, none⟩), .int .i64 1] w9 fun e w' => ∃ r v', e = .returned (.tuple #[r, .bool false]) ∧ Row1 w' w9.heap.size 5 r (encB []) ∧ Pp w' w.heap.size pb 51 v' [] true true ∧ Keep [pb] w9 w' ∧ Moved w9 v8 v' := take_ p9 (by simp) 1 0 (by omega) (by simp)
      clear ra8 rg8 K8 k9 hm9 t8 p8 hrd8 sz8 s1
      go_wp2_with (fail)
      apply ht.mono
      rintro e wA ⟨rA, vA, rfl, hrA, pA, kA, -⟩
      obtain ⟨AA, cA, rfl, _⟩ := hrA.reads
      have raA := ra9.keep kA (fun g hg hx => (by simp at hx; subst hx; exact row_off_blk ra9 p9.blk (by decide) hg))
      have rgA := rg9.keep kA (fun g hg hx => (by simp at hx; subst hx; exact row_off_blk rg9 p9.blk (by decide) hg))
      have KA := Lib.hid (show Keep [] w wA from K9.step kA (by simp; omega))
      obtain ⟨X1, Y1, ex, _, _, hX⟩ := raA.reads
      injection ex with x1 x2 x3
      subst x1 x3
      obtain ⟨X2, Y2, ey, _, _, hY⟩ := rgA.reads
      injection ey with y1 y2 y3
      subst y1 y3
      have st1 := str_of (c := ca) (src := 22) (dst := 9) Try.underlying22 Try.underlying5 Try.underlying9 hX
      have st2 := str_of (c := c9) (src := 22) (dst := 9) Try.underlying22 Try.underlying5 Try.underlying9 hY
      clear ht ra9 rg9 K9 kA p9 hrA pA raA rgA hX hY sz9 hbl hgl hl50 hLl
      go_wp2_with (fail)
      go_ret
      exact ⟨rfl, KA.out.below (Nat.le_refl _) (by simp)⟩
end Go.Proofs.Ytinokgmmdmkbcaa
