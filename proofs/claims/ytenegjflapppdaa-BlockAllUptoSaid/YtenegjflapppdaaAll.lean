/- block: BlockAll: any parts, one behind the other. -/
import Derived.Test.YtenegjflapppdaaRef
import Derived.Test.YtenegjflapppdaaBegun
import Derived.Test.YtenegjflapppdaaRng2
set_option linter.all false
namespace Go.Proofs.Ytenegjflapppdaa
open Go.ChangeShapes Go.WideShapes Go.ChangeAt Go.RowKit
attribute [local go_sem] setCell_drewN alloc_drewN Oper.semAt_some
def OpR (w : World) (j : Nat) : Value → Prop := if j = 0 then IsInt .i64 else if j = 1 then IsInt .i64 else if j = 2 then IsBool else if j = 3 then IsBool else if j = 4 then fun u => Sl w 1 (fun _ => IsInt .u8) u ∧ ∀ A n c, u = .slice A n c → n ≤ 1048576 else IsInt .i64
theorem ops_of_sl {w : World} {v : Value} (h : Sl w 6 (OpR w) v) : ∃ A n c, v = .slice A n c ∧ n ≤ c ∧ c ≤ maxLen ∧
    ∀ i, i < n → ∃ b off, A = some ⟨b, off, none⟩ ∧ b < w.heap.size ∧ ∃ k id en wh Ap np cp tm ps, w.cell? ⟨b, off + i * 6, none⟩ = some (.int .i64 k) ∧ w.cell? ⟨b, off + i * 6 + 1, none⟩ = some (.int .i64 id) ∧ w.cell? ⟨b, off + i * 6 + 2, none⟩ = some (.bool en) ∧ w.cell? ⟨b, off + i * 6 + 3, none⟩ = some (.bool wh) ∧ w.cell? ⟨b, off + i * 6 + 4, none⟩ = some (.slice Ap np cp) ∧ w.cell? ⟨b, off + i * 6 + 5, none⟩ = some (.int .i64 tm) ∧ np ≤ 1048576 ∧ Reads w w.heap.size 1 Ap np (encB ps) := by
  obtain ⟨A, n, c, rfl, hl, hm, h⟩ := h
  refine ⟨A, n, c, rfl, hl, hm, fun i hi => ?_⟩
  rcases h with h0 | ⟨b, off, rfl, hb, hc⟩
  · omega
  · obtain ⟨u0, hu0, k, rfl, _⟩ := hc i (by omega) 0 (by omega)
    obtain ⟨u1, hu1, h1⟩ := hc i (by omega) 1 (by omega)
    obtain ⟨id, rfl, _⟩ : IsInt .i64 u1 := h1
    obtain ⟨u2, hu2, h2⟩ := hc i (by omega) 2 (by omega)
    obtain ⟨en, rfl⟩ : IsBool u2 := h2
    obtain ⟨u3, hu3, h3⟩ := hc i (by omega) 3 (by omega)
    obtain ⟨wh, rfl⟩ : IsBool u3 := h3
    obtain ⟨u4, hu4, h4⟩ := hc i (by omega) 4 (by omega)
    obtain ⟨hs, hn⟩ : Sl w 1 (fun _ => IsInt .u8) u4 ∧ ∀ A n c, u4 = .slice A n c → n ≤ 1048576 := h4
    obtain ⟨Ap, np, cp, ps, rfl, h1, h2, h3, h4⟩ := reads_of_sl hs
    obtain ⟨u5, hu5, h5⟩ := hc i (by omega) 5 (by omega)
    obtain ⟨tm, rfl, _⟩ : IsInt .i64 u5 := h5
    exact ⟨b, off, rfl, hb, k, id, en, wh, Ap, np, cp, tm, ps, by simpa using hu0, by simpa [Nat.add_assoc] using hu1, by simpa [Nat.add_assoc] using hu2, by simpa [Nat.add_assoc] using hu3, by simpa [Nat.add_assoc] using hu4, by simpa [Nat.add_assoc] using hu5, hn _ _ _ rfl, h4⟩
theorem ans_len {id i : Int} {wt en e' wh : Bool} {bs ps : List UInt8} (h : bs.length ≤ 65536) : (startA id wt en bs i e' wh ps).bs.length ≤ 65536 ∧ (moreA id wt en bs i wh ps).bs.length ≤ 65536 := by
  unfold startA moreA
  constructor
  · split <;> (try split) <;> (try split) <;> simp <;> omega
  · split <;> (try split) <;> (try split) <;> (try split) <;> simp <;> omega
theorem ans_id {id i : Int} {wt en e' wh : Bool} {bs ps : List UInt8} (h : wt = false → id = 0) : ((startA id wt en bs i e' wh ps).wt = false → (startA id wt en bs i e' wh ps).id = 0) ∧ ((moreA id wt en bs i wh ps).wt = false → (moreA id wt en bs i wh ps).id = 0) := by
  unfold startA moreA
  constructor
  · split <;> (try split) <;> (try split) <;> simp_all
  · split <;> (try split) <;> (try split) <;> (try split) <;> simp_all
set_option maxRecDepth 100000 in
set_option maxHeartbeats 8000000 in
theorem blockAll (w : World) (v : Value) (hv : Sl w 6 (OpR w) v) :
    Calls Try.prog 3 #[v] w fun e w' => e = .returned (.bool true) ∧ Below w.heap.size w w' := by
  obtain ⟨A, n, c, rfl, hnc, hcm, hat⟩ := ops_of_sl hv
  clear hv
  unfold maxLen at hcm
  have Hat := Lib.hid hat
  clear hat
  go_enter Try.func3, Try.ntmps3
  go_wp2_with (first
    | (go_at_call 8; refine (begun _).mono ?_; rintro e w1 ⟨rfl, hb1⟩; have hb1 := Keep.of_below hb1)
    | (go_at_call 9; refine (new_ _).mono ?_; rintro e w' ⟨rfl, rfl⟩))
  have g0 : Bk ((w1.alloc (.cells #[.int .i64 0, .bool false, .bool false, .slice none 0 0] 52)).alloc (.cells #[.int .i64 0, .bool false, .bool false, .slice none 0 0] 29)) w.heap.size w1.heap.size 52 0 false false (.slice none 0 0) [] := ⟨(Blk.new w1 _ _).alloc _, Row1.nil _ _ _⟩
  have g1 : Bk ((w1.alloc (.cells #[.int .i64 0, .bool false, .bool false, .slice none 0 0] 52)).alloc (.cells #[.int .i64 0, .bool false, .bool false, .slice none 0 0] 29)) w.heap.size (w1.heap.size + 1) 29 0 false false (.slice none 0 0) [] := ⟨by have := Blk.new (w1.alloc (.cells #[.int .i64 0, .bool false, .bool false, .slice none 0 0] 52)) 29 #[.int .i64 0, .bool false, .bool false, .slice none 0 0]; simpa using this, Row1.nil _ _ _⟩
  have K0 : Keep [] w ((w1.alloc (.cells #[.int .i64 0, .bool false, .bool false, .slice none 0 0] 52)).alloc (.cells #[.int .i64 0, .bool false, .bool false, .slice none 0 0] 29)) := (hb1.alloc _).alloc _
  have szw := hb1.size
  obtain ⟨W0, hW0⟩ : ∃ W0, W0 = ((w1.alloc (.cells #[.int .i64 0, .bool false, .bool false, .slice none 0 0] 52)).alloc (.cells #[.int .i64 0, .bool false, .bool false, .slice none 0 0] 29)) := ⟨_, rfl⟩
  rw [← hW0] at g0 g1 K0 ⊢
  clear hW0 hb1
  obtain ⟨pb, hpb⟩ : ∃ pb, pb = w1.heap.size := ⟨_, rfl⟩
  rw [← hpb] at g0 g1 szw ⊢
  clear hpb
  go_loopw [6] (fun vi wr => ∃ (i : Nat) (id rid : Int) (wt en : Bool) (bs : List UInt8) (vp vr : Value), vi = .int .i64 i ∧ i ≤ n ∧ i ≤ 30 ∧ bs.length ≤ 65536 ∧ Bk wr w.heap.size pb 52 id wt en vp bs ∧ Bk wr w.heap.size (pb + 1) 29 rid wt en vr bs ∧ Sep vp vr ∧ (wt = true → rid = id) ∧ (wt = false → id = 0) ∧ Keep [] w wr) (fun vi _ => n - (intOf vi).toNat)
  case atStart => exact ⟨0, 0, 0, false, false, [], _, _, rfl, by omega, by omega, by simp, g0, g1, fun g h => (by cases h), fun _ => rfl, fun _ => rfl, K0⟩
  case round =>
    obtain ⟨i, id, rid, wt, en, bs, vp, vr, rfl, hin, hi30, hbl, hp, hr, hsep, hid, hid0, kr⟩ := hrel
    clear g0 g1 K0
    have szr := kr.size
    have i0' : (0 : Int) ≤ (i : Int) := by omega
    by_cases hlt : i < n
    · have k1 : (i : Int) < (n : Int) := by omega
      by_cases h30 : i < 30
      · have k30 : (i : Int) < 30 := by omega
        obtain ⟨b1, o1, rfl, hb1, k, oi, oe, wh, Ap, np, cp, tm, ps, e0, e1, e2, e3, e4, e5, hnp, hrp⟩ := Hat.out i hlt
        have e0 := (kr.cell (p := ⟨b1, o1 + i * 6, none⟩) hb1 (by simp)).trans e0
        have e1 := (kr.cell (p := ⟨b1, o1 + i * 6 + 1, none⟩) hb1 (by simp)).trans e1
        have e2 := (kr.cell (p := ⟨b1, o1 + i * 6 + 2, none⟩) hb1 (by simp)).trans e2
        have e3 := (kr.cell (p := ⟨b1, o1 + i * 6 + 3, none⟩) hb1 (by simp)).trans e3
        have e4 := (kr.cell (p := ⟨b1, o1 + i * 6 + 4, none⟩) hb1 (by simp)).trans e4
        have e5 := (kr.cell (p := ⟨b1, o1 + i * 6 + 5, none⟩) hb1 (by simp)).trans e5
        have HP := Lib.hid hp
        have HR := Lib.hid hr
        have HB := Lib.hid hbl
        have HS := Lib.hid hsep
        have KR := Lib.hid kr
        have HI := Lib.hid hid
        have HI0 := Lib.hid hid0
        have hpl := hp.blk.lt
        have HPL := Lib.hid (show ∀ g, rowBlk vp = some g → g < wr.heap.size from fun g e => (hp.row.lt g e).2)
        have hrl := hr.blk.lt
        have hbs1 := hb1
        have PT := Lib.hid (part_ wr k oi tm oe wh (c := cp) (hrp.keeps kr (Nat.le_refl _) (by simp)) szr hnp)
        clear hp hr hbl hsep kr hid hid0 hrp
        by_cases hk0 : k = 0
        · have kz : (k == 0) = true := by simp [hk0]
          clear hk0
          go_wp2_with (go_at_call 10; apply PT.out.mono; rintro e w2 ⟨v2, rfl, qs, hq, hql, k2⟩; obtain ⟨Aq, cq, rfl, _⟩ := hq.reads; have e0 := (k2.cell (p := ⟨b1, o1 + i * 6, none⟩) (by simp; omega) (by simp)).trans e0; have e1 := (k2.cell (p := ⟨b1, o1 + i * 6 + 1, none⟩) (by simp; omega) (by simp)).trans e1; have e2 := (k2.cell (p := ⟨b1, o1 + i * 6 + 2, none⟩) (by simp; omega) (by simp)).trans e2; have e3 := (k2.cell (p := ⟨b1, o1 + i * 6 + 3, none⟩) (by simp; omega) (by simp)).trans e3; have e4 := True.intro; have e5 := True.intro; have HQ := Lib.hid hq; have K2 := Lib.hid k2; clear hq k2; try (clear e4 e5))
          have hql0 := HQ.out.lt
          obtain ⟨_, _, ev, _, _, hq9⟩ := HQ.out.reads
          injection ev with ev1 ev2 ev3
          subst ev1 ev3
          clear ev2
          have hql1 : (encB qs).length = qs.length := encB_len _
          obtain ⟨nq, hnq⟩ : ∃ nq, nq = (encB qs).length := ⟨_, rfl⟩
          rw [← hnq] at hq9 HQ hql1 ⊢
          clear hnq
          have p2 := (HP.out.keep K2.out (by simp) (by simp)).keep ((Keep.refl [] w2).drew) (by simp) (by simp)
          have r2 := (HR.out.keep K2.out (by simp) (by simp)).keep ((Keep.refl [] w2).drew) (by simp) (by simp)
          have KR2 := (KR.out.trans K2.out).drew
          have sz2 := K2.out.size
          have hqd : Reads w2.drew w2.heap.size 1 Aq nq (encB qs) := hq9.keeps ((Keep.refl [] w2).drew) (Nat.le_refl _) (by simp)
          have HQD := Lib.hid hqd
          have hAq : ∀ ad, Aq = some ad → wr.heap.size ≤ ad.block ∧ ad.block < w2.heap.size := fun ad e => hql0 ad.block (by rw [e]; rfl)
          have HAQ := Lib.hid hAq
          obtain ⟨X, hX⟩ : ∃ X, X = startA id wt en bs oi oe wh qs := ⟨_, rfl⟩
          have hXl : X.bs.length ≤ 65536 := by rw [hX]; exact (ans_len (id := id) (i := oi) (wt := wt) (en := en) (e' := oe) (wh := wh) (ps := qs) HB.out).1
          have hXi : X.wt = false → X.id = 0 := by rw [hX]; exact (ans_id (id := id) (i := oi) (wt := wt) (en := en) (e' := oe) (wh := wh) (bs := bs) (ps := qs) HI0.out).1
          have ST := start_ p2 oi oe wh cq hqd (Nat.le_refl _) (by have := sz2; simp; omega) (fun _ ad e => by have := (hAq ad e).1; omega)
          rw [← hX] at ST
          have HXL := Lib.hid hXl
          have HXI := Lib.hid hXi
          have SST := Lib.hid ST
          have HX := Lib.hid hX
          have HKR2 := Lib.hid KR2
          have HR2 := Lib.hid r2
          have HP2 := Lib.hid p2
          clear hXl hXi ST hX KR2 r2 p2 hqd hq9 hql0 hAq PT HP HR HQ KR hb1
          refine wpIn_wide.1 (region_rt3 (n := 0) [(17, false), (18, false)] [19, 20, 21, 22, 23, 24] [(0, .pointer (some ⟨pb, 0, none⟩)), (1, .slice (some ⟨b1, o1, none⟩) n c), (2, .int .i64 i), (3, .pointer (some ⟨b1, o1 + i * 6, none⟩)), (4, .pointer (some ⟨b1, o1 + i * 6 + 1, none⟩)), (5, .int .i64 oi), (6, .slice (some ⟨b1, o1, none⟩) n c), (7, .int .i64 i), (8, .pointer (some ⟨b1, o1 + i * 6, none⟩)), (9, .pointer (some ⟨b1, o1 + i * 6 + 2, none⟩)), (10, .bool oe), (11, .slice Aq nq cq), (12, .slice (some ⟨b1, o1, none⟩) n c), (13, .int .i64 i), (14, .pointer (some ⟨b1, o1 + i * 6, none⟩)), (15, .pointer (some ⟨b1, o1 + i * 6 + 3, none⟩)), (16, .bool wh)] (fun W => W = w2.drew) (by kernel_rfl) (by kernel_rfl) rfl ?_ ?_)
          · (simp only [evOk, putAll, List.getElem?_toArray, List.getElem?_cons_zero, List.getElem?_cons_succ, Option.bind_some, Act.put, List.setIfInBounds_toArray, List.set_cons_zero, List.set_cons_succ]; repeat' apply And.intro) <;> first | exact trivial | (rintro W rfl; simp [go_sem, *]; done) | (intro W hW; simp [go_sem, *])
          simp only [putAll, List.getElem?_toArray, List.getElem?_cons_zero, List.getElem?_cons_succ, Option.bind_some, Act.put, List.setIfInBounds_toArray, List.set_cons_zero, List.set_cons_succ]
          refine tail_step rfl ?_
          simp [go_sem]
          refine ⟨trivial, rfl, (callsIn_wide.2 SST.out).mono ?_⟩
          rintro e w3 ⟨rx, vp3, rfl, hrx, ⟨idp, bp, _, hidp⟩, kx, mx, mrx⟩
          obtain rfl := hidp rfl
          refine tail_step rfl ?_
          simp [go_sem]
          unfold wpTail
          refine ⟨[(19, rx), (20, .bool X.dn), (21, .int .i64 X.cd), (22, rx), (23, .bool X.dn), (24, .int .i64 X.cd)], rfl, ?_, ?_⟩
          · (simp only [evOk, putAll, List.getElem?_toArray, List.getElem?_cons_zero, List.getElem?_cons_succ, Option.bind_some, Act.put, List.setIfInBounds_toArray, List.set_cons_zero, List.set_cons_succ]; repeat' apply And.intro) <;> first | exact trivial | (rintro W rfl; simp [go_sem, *]; done) | (intro W hW; simp [go_sem, *])
          simp only [putAll, List.getElem?_toArray, List.getElem?_cons_zero, List.getElem?_cons_succ, Option.bind_some, Act.put, List.setIfInBounds_toArray, List.set_cons_zero, List.set_cons_succ]
          have sz3 := kx.size
          simp at sz3
          have r3 := HR2.out.keep kx (fun hx => by
            rcases List.mem_cons.1 hx with hx | hx
            · omega
            · exact row_off_blk HP2.out.row HR2.out.blk (by decide) (by simpa using hx)) (fun g hg hx => by
            rcases List.mem_cons.1 hx with rfl | hx
            · exact row_off_blk HR2.out.row HP2.out.blk (by decide) hg
            · exact HS.out g (by simpa using hx) hg)
          have KR3 : Keep [] w w3 := HKR2.out.step kx (fun g hx => by
            rcases List.mem_cons.1 hx with rfl | hx
            · exact .inr (by omega)
            · exact .inr (HP2.out.row.lt g (by simpa using hx)).1)
          have hnb := HPL.out
          have cw : ∀ o, w3.cell? ⟨b1, o, none⟩ = w2.drew.cell? ⟨b1, o, none⟩ := fun o => kx.cell (by simp; omega) (fun hx => by
            rcases List.mem_cons.1 hx with hx | hx
            · simp at hx; omega
            · have := (HP2.out.row.lt _ (by simpa using hx)).1; omega)
          have hqd3 : Reads w3 w2.heap.size 1 Aq nq (encB qs) := HQD.out.kept kx (by simp) (fun _ ad e hx => by
            have h0 := (HAQ.out ad e).1
            rcases List.mem_cons.1 hx with hx | hx
            · omega
            · have := hnb _ (by simpa using hx); omega)
          have e1 := (cw _).trans ((show w2.drew.cell? _ = w2.cell? _ from rfl).trans e1)
          have e2 := (cw _).trans ((show w2.drew.cell? _ = w2.cell? _ from rfl).trans e2)
          have e3 := (cw _).trans ((show w2.drew.cell? _ = w2.cell? _ from rfl).trans e3)
          have r3d := r3.keep ((Keep.refl [] w3).drew) (by simp) (by simp)
          have hqd4 : Reads w3.drew w2.heap.size 1 Aq nq (encB qs) := hqd3.keeps ((Keep.refl [] w3).drew) (by omega) (by simp)
          have ST2 := rstart_ r3d HI.out oi oe wh cq hqd4 (by have := sz3; simp; omega) (by have := sz3; simp; omega) (fun _ ad e => by have := (HAQ.out ad e).1; omega)
          rw [← HX.out] at ST2
          have SST2 := Lib.hid ST2
          have hsep3 : Sep vp3 vr := HS.out.moved (w := w2.drew) (fun g e => (HR2.out.row.lt g e).2) mx
          have hsepx : Sep rx vr := HS.out.moved (w := w2.drew) (fun g e => (HR2.out.row.lt g e).2) mrx
          have hrxd := hrx.keep ((Keep.refl [] w3).drew) (by simp)
          have bpd := bp.keep ((Keep.refl [] w3).drew) (by simp) (by simp)
          have KRD := KR3.drew
          have H3 := Lib.hid hsep3
          have HX3 := Lib.hid hsepx
          have HRX := Lib.hid hrxd
          have HBP := Lib.hid bpd
          have HR3 := Lib.hid r3d
          have HK3 := Lib.hid KRD
          have hlx := hrx.lt
          have HLX := Lib.hid hlx
          clear r3 KR3 hnb cw hqd3 r3d hqd4 ST2 hsep3 hsepx hrxd bpd KRD hrx bp kx mx mrx hlx
          go_wp2_with (fail)
          refine wpIn_wide.1 (region_rt3 (n := 0) [(17, false), (18, false)] [19, 20, 21, 22, 23, 24] [(0, .pointer (some ⟨(pb + 1), 0, none⟩)), (1, .slice (some ⟨b1, o1, none⟩) n c), (2, .int .i64 i), (3, .pointer (some ⟨b1, o1 + i * 6, none⟩)), (4, .pointer (some ⟨b1, o1 + i * 6 + 1, none⟩)), (5, .int .i64 oi), (6, .slice (some ⟨b1, o1, none⟩) n c), (7, .int .i64 i), (8, .pointer (some ⟨b1, o1 + i * 6, none⟩)), (9, .pointer (some ⟨b1, o1 + i * 6 + 2, none⟩)), (10, .bool oe), (11, .slice Aq nq cq), (12, .slice (some ⟨b1, o1, none⟩) n c), (13, .int .i64 i), (14, .pointer (some ⟨b1, o1 + i * 6, none⟩)), (15, .pointer (some ⟨b1, o1 + i * 6 + 3, none⟩)), (16, .bool wh)] (fun W => W = w3.drew) (by kernel_rfl) (by kernel_rfl) rfl ?_ ?_)
          · (simp only [evOk, putAll, List.getElem?_toArray, List.getElem?_cons_zero, List.getElem?_cons_succ, Option.bind_some, Act.put, List.setIfInBounds_toArray, List.set_cons_zero, List.set_cons_succ]; repeat' apply And.intro) <;> first | exact trivial | (rintro W rfl; simp [go_sem, *]; done) | (intro W hW; simp [go_sem, *])
          simp only [putAll, List.getElem?_toArray, List.getElem?_cons_zero, List.getElem?_cons_succ, Option.bind_some, Act.put, List.setIfInBounds_toArray, List.set_cons_zero, List.set_cons_succ]
          refine tail_step rfl ?_
          simp [go_sem]
          refine ⟨trivial, rfl, (callsIn_wide.2 SST2.out).mono ?_⟩
          rintro e w4 ⟨ry, vr4, rfl, hry, ⟨ridp, rp, hrid, _⟩, ky, my, mry⟩
          refine tail_step rfl ?_
          simp [go_sem]
          unfold wpTail
          refine ⟨[(19, ry), (20, .bool X.dn), (21, .int .i64 X.cd), (22, ry), (23, .bool X.dn), (24, .int .i64 X.cd)], rfl, ?_, ?_⟩
          · (simp only [evOk, putAll, List.getElem?_toArray, List.getElem?_cons_zero, List.getElem?_cons_succ, Option.bind_some, Act.put, List.setIfInBounds_toArray, List.set_cons_zero, List.set_cons_succ]; repeat' apply And.intro) <;> first | exact trivial | (rintro W rfl; simp [go_sem, *]; done) | (intro W hW; simp [go_sem, *])
          simp only [putAll, List.getElem?_toArray, List.getElem?_cons_zero, List.getElem?_cons_succ, Option.bind_some, Act.put, List.setIfInBounds_toArray, List.set_cons_zero, List.set_cons_succ]
          have sz4 := ky.size
          simp at sz4
          have hlx := HLX.out
          have b4 := HBP.out.keep ky (fun hx => by
            rcases List.mem_cons.1 hx with hx | hx
            · omega
            · exact row_off_blk HR3.out.row HBP.out.blk (by decide) (by simpa using hx)) (fun g hg hx => by
            rcases List.mem_cons.1 hx with rfl | hx
            · exact row_off_blk HBP.out.row HR3.out.blk (by decide) hg
            · exact H3.out g hg (by simpa using hx))
          have x4 := HRX.out.keep ky (fun g hg hx => by
            rcases List.mem_cons.1 hx with rfl | hx
            · exact row_off_blk HRX.out HR3.out.blk (by decide) hg
            · exact HX3.out g hg (by simpa using hx))
          have KR4 : Keep [] w w4 := HK3.out.step ky (fun g hx => by
            rcases List.mem_cons.1 hx with rfl | hx
            · exact .inr (by omega)
            · exact .inr (HR3.out.row.lt g (by simpa using hx)).1)
          have hsep4 : Sep vp3 vr4 := (H3.out.symm.moved (w := w3.drew) (fun g e => (HBP.out.row.lt g e).2) my).symm
          have HWT := Lib.hid (waits_ b4)
          have HB4 := Lib.hid b4
          have HX4 := Lib.hid x4
          have HY4 := Lib.hid hry
          have HR4 := Lib.hid rp
          have HK4 := Lib.hid KR4
          have HS4 := Lib.hid hsep4
          have HRID := Lib.hid hrid
          clear b4 x4 KR4 hsep4 hry rp hrid ky my mry hlx H3 HX3 HRX HBP HR3 HK3 HLX HX SST SST2 HQD HAQ HP2 HR2 HKR2 K2 HS HPL HB HI HI0 hql
          try clear HQ
          try clear hql1
          try clear e0
          try clear e1
          try clear e2
          try clear e3
          try clear kz
          obtain ⟨xo, xd, xc, xi, xw, xe, xb⟩ := X
          simp only at HWT HB4 HX4 HY4 HR4 HRID HXL HXI ⊢
          have hrid := HRID.out
          have hxi := HXI.out
          clear HRID HXI
          cases xw
          · obtain rfl := hxi rfl
            clear hrid hxi
            go_wp2_with (go_at_call 15; apply HWT.out.mono; rintro e w5 ⟨rfl, k5⟩; have sz5 := k5.size; have b5 := Lib.hid ((HB4.out.keep k5 (by simp) (by simp)).keep ((Keep.refl [] w5).drew) (by simp) (by simp)); have r5 := HR4.out.keep k5 (by simp) (by simp); have x5 := (HX4.out.keep k5 (by simp)).keep ((Keep.refl [] w5).drew) (by simp); have y5 := (HY4.out.keep k5 (by simp)).keep ((Keep.refl [] w5).drew) (by simp); have HK5 := Lib.hid (HK4.out.trans k5).drew; have c0 := r5.blk.cell 0; have c1 := r5.blk.cell 1; have c2 := r5.blk.cell 2; have c3 := r5.blk.cell 3; simp at c0 c1 c2 c3; obtain ⟨Ax, cx, rfl, _, _, hX⟩ := x5.reads; obtain ⟨Ay, cy, rfl, _, _, hY⟩ := y5.reads; obtain ⟨Ar, cr, rfl, _, _, _⟩ := r5.slice; have st1 := str_of (c := cx) (src := 27) (dst := 9) Try.underlying27 Try.underlying5 Try.underlying9 hX; have st2 := str_of (c := cy) (src := 27) (dst := 9) Try.underlying27 Try.underlying5 Try.underlying9 hY; obtain ⟨nx, hnx⟩ : ∃ nx, nx = (encB xo).length := ⟨_, rfl⟩; rw [← hnx] at st1 st2; rw [← hnx]; clear hnx; obtain ⟨nb, hnb⟩ : ∃ nb, nb = xb.length := ⟨_, rfl⟩; rw [← hnb] at c3; have HNB := Lib.hid hnb; clear hnb; have R5 := Lib.hid (r5.keep ((Keep.refl [] w5).drew) (by simp) (by simp)); clear r5 x5 y5 hX hY k5; have FIN := Lib.hid (show ∃ (i' : Nat) (id rid : Int) (wt en : Bool) (bs : List UInt8) (vp vr : Value), Value.int .i64 (i + 1) = .int .i64 i' ∧ i' ≤ n ∧ i' ≤ 30 ∧ bs.length ≤ 65536 ∧ Bk w5.drew w.heap.size pb 52 id wt en vp bs ∧ Bk w5.drew w.heap.size (pb + 1) 29 rid wt en vr bs ∧ Sep vp vr ∧ (wt = true → rid = id) ∧ (wt = false → id = 0) ∧ Keep [] w w5.drew from ⟨i + 1, 0, ridp, false, xe, xb, _, _, by simp, by omega, by omega, HXL.out, b5.out, R5.out, HS4.out, fun h => (by cases h), fun _ => rfl, HK5.out⟩); have HEND := Lib.hid (isend_ b5.out); have HHELD := Lib.hid (held_ b5.out); rw [← HNB.out] at HHELD; clear b5 HNB R5 HK5 HXL HS4)
            refine wpIn_wide.1 (region_rtg (n := 0) [(5, true), (9, true), (10, true), (14, true), (15, true), (22, true), (23, true), (25, true), (30, true), (31, true), (32, true), (34, true), (40, true), (41, true)] [(5, false), (10, false), (15, false), (23, false), (32, false)]
              [(0, .slice Ax nx cx), (1, .string ⟨xo.toArray⟩), (2, .slice Ay nx cy), (3, .string ⟨xo.toArray⟩), (4, .bool false), (6, .bool xd), (7, .bool xd), (8, .bool false), (11, .int .i64 xc), (12, .int .i64 xc), (13, .bool false), (16, .bool false), (17, .pointer (some ⟨pb + 1, 0, none⟩)), (18, .pointer (some ⟨pb + 1, 0, none⟩)), (19, .pointer (some ⟨pb + 1, 1, none⟩)), (20, .bool false), (21, .bool false), (24, .pointer (some ⟨pb, 0, none⟩)), (26, .pointer (some ⟨pb + 1, 0, none⟩)), (27, .pointer (some ⟨pb + 1, 0, none⟩)), (28, .pointer (some ⟨pb + 1, 2, none⟩)), (29, .bool xe), (33, .pointer (some ⟨pb, 0, none⟩)), (35, .pointer (some ⟨pb + 1, 0, none⟩)), (36, .pointer (some ⟨pb + 1, 0, none⟩)), (37, .pointer (some ⟨pb + 1, 3, none⟩)), (38, .slice Ar nb cr), (39, .int .i64 nb)]
              (fun W => W = w5.drew) (by kernel_rfl) (by kernel_rfl) rfl ?_ ?_)
            · (simp only [evOk, putAll, List.getElem?_toArray, List.getElem?_cons_zero, List.getElem?_cons_succ, Option.bind_some, Act.put, List.setIfInBounds_toArray, List.set_cons_zero, List.set_cons_succ]; repeat' apply And.intro) <;> first | exact trivial | (rintro W rfl; simp [go_sem, c0, c1, c2, c3, st1, st2]; done)
            · simp only [putAll, List.getElem?_toArray, List.getElem?_cons_zero, List.getElem?_cons_succ, Option.bind_some, Act.put, List.setIfInBounds_toArray, List.set_cons_zero, List.set_cons_succ]
              refine tail_wanted rfl rfl ?_
              simp [go_sem]
              refine ⟨fun b hb => by obtain rfl := Option.some.inj hb; rfl, ?_⟩
              refine tail_wanted rfl rfl ?_
              simp [go_sem]
              refine ⟨gHolds_none rfl, ?_⟩
              refine tail_wanted rfl rfl ?_
              simp [go_sem]
              refine ⟨fun b hb => by obtain rfl := Option.some.inj hb; rfl, ?_⟩
              refine tail_wanted rfl rfl ?_
              simp [go_sem]
              refine ⟨gHolds_none rfl, ?_⟩
              refine tail_wanted rfl rfl ?_
              simp [go_sem]
              refine ⟨fun b hb => by obtain rfl := Option.some.inj hb; rfl, ?_⟩
              refine tail_wanted rfl rfl ?_
              simp [go_sem]
              refine ⟨gHolds_none rfl, ?_⟩
              refine tail_wanted rfl rfl ?_
              simp [go_sem]
              refine ⟨fun b hb => by obtain rfl := Option.some.inj hb; rfl, ?_⟩
              refine tail_wanted rfl rfl ?_
              simp [go_sem]
              refine ⟨trivial, rfl, (callsIn_wide.2 HEND.out).mono ?_⟩
              rintro e w9 ⟨rfl, rfl⟩
              refine ⟨⟨rfl, gHolds_none rfl⟩, ?_⟩
              refine tail_wanted rfl rfl ?_
              simp [go_sem]
              refine ⟨gHolds_none rfl, ?_⟩
              refine tail_wanted rfl rfl ?_
              simp [go_sem]
              refine ⟨gHolds_none rfl, ?_⟩
              refine tail_wanted rfl rfl ?_
              simp [go_sem]
              refine ⟨fun b hb => by obtain rfl := Option.some.inj hb; rfl, ?_⟩
              refine tail_wanted rfl rfl ?_
              simp [go_sem]
              refine ⟨trivial, rfl, (callsIn_wide.2 HHELD.out).mono ?_⟩
              rintro e w9 ⟨rfl, rfl⟩
              refine ⟨⟨rfl, gHolds_none rfl⟩, ?_⟩
              refine tail_wanted rfl rfl ?_
              simp [go_sem]
              refine ⟨gHolds_none rfl, ?_⟩
              refine tail_wanted rfl rfl ?_
              simp [go_sem]
              refine ⟨gHolds_none rfl, ?_⟩
              unfold wpTailG
              go_at_K
              go_wp2_with (fail)
              go_roundw
              case rel => exact FIN.out
              case measure => simp [intOf]; omega
          · obtain rfl := hrid rfl
            clear hrid hxi
            go_wp2_with (go_at_call 15; apply HWT.out.mono; rintro e w5 ⟨rfl, k5⟩; have sz5 := k5.size; have b5 := Lib.hid ((HB4.out.keep k5 (by simp) (by simp)).keep ((Keep.refl [] w5).drew) (by simp) (by simp)); have r5 := HR4.out.keep k5 (by simp) (by simp); have x5 := (HX4.out.keep k5 (by simp)).keep ((Keep.refl [] w5).drew) (by simp); have y5 := (HY4.out.keep k5 (by simp)).keep ((Keep.refl [] w5).drew) (by simp); have HK5 := Lib.hid (HK4.out.trans k5).drew; have c0 := r5.blk.cell 0; have c1 := r5.blk.cell 1; have c2 := r5.blk.cell 2; have c3 := r5.blk.cell 3; simp at c0 c1 c2 c3; obtain ⟨Ax, cx, rfl, _, _, hX⟩ := x5.reads; obtain ⟨Ay, cy, rfl, _, _, hY⟩ := y5.reads; obtain ⟨Ar, cr, rfl, _, _, _⟩ := r5.slice; have st1 := str_of (c := cx) (src := 27) (dst := 9) Try.underlying27 Try.underlying5 Try.underlying9 hX; have st2 := str_of (c := cy) (src := 27) (dst := 9) Try.underlying27 Try.underlying5 Try.underlying9 hY; obtain ⟨nx, hnx⟩ : ∃ nx, nx = (encB xo).length := ⟨_, rfl⟩; rw [← hnx] at st1 st2; rw [← hnx]; clear hnx; obtain ⟨nb, hnb⟩ : ∃ nb, nb = xb.length := ⟨_, rfl⟩; rw [← hnb] at c3; have HNB := Lib.hid hnb; clear hnb; have R5 := Lib.hid (r5.keep ((Keep.refl [] w5).drew) (by simp) (by simp)); clear r5 x5 y5 hX hY k5; have FIN := Lib.hid (show ∃ (i' : Nat) (id rid : Int) (wt en : Bool) (bs : List UInt8) (vp vr : Value), Value.int .i64 (i + 1) = .int .i64 i' ∧ i' ≤ n ∧ i' ≤ 30 ∧ bs.length ≤ 65536 ∧ Bk w5.drew w.heap.size pb 52 id wt en vp bs ∧ Bk w5.drew w.heap.size (pb + 1) 29 rid wt en vr bs ∧ Sep vp vr ∧ (wt = true → rid = id) ∧ (wt = false → id = 0) ∧ Keep [] w w5.drew from ⟨i + 1, ridp, ridp, true, xe, xb, _, _, by simp, by omega, by omega, HXL.out, b5.out, R5.out, HS4.out, fun _ => rfl, fun h => (by cases h), HK5.out⟩); have HEND := Lib.hid (isend_ b5.out); have HHELD := Lib.hid (held_ b5.out); rw [← HNB.out] at HHELD; clear b5 HNB R5 HK5 HXL HS4)
            refine wpIn_wide.1 (region_rtg (n := 0) [(5, true), (9, true), (10, true), (14, true), (15, true), (22, true), (23, true), (25, true), (30, true), (31, true), (32, true), (34, true), (40, true), (41, true)] [(5, false), (10, false), (15, false), (23, false), (32, false)]
              [(0, .slice Ax nx cx), (1, .string ⟨xo.toArray⟩), (2, .slice Ay nx cy), (3, .string ⟨xo.toArray⟩), (4, .bool false), (6, .bool xd), (7, .bool xd), (8, .bool false), (11, .int .i64 xc), (12, .int .i64 xc), (13, .bool false), (16, .bool true), (17, .pointer (some ⟨pb + 1, 0, none⟩)), (18, .pointer (some ⟨pb + 1, 0, none⟩)), (19, .pointer (some ⟨pb + 1, 1, none⟩)), (20, .bool true), (21, .bool false), (24, .pointer (some ⟨pb, 0, none⟩)), (26, .pointer (some ⟨pb + 1, 0, none⟩)), (27, .pointer (some ⟨pb + 1, 0, none⟩)), (28, .pointer (some ⟨pb + 1, 2, none⟩)), (29, .bool xe), (33, .pointer (some ⟨pb, 0, none⟩)), (35, .pointer (some ⟨pb + 1, 0, none⟩)), (36, .pointer (some ⟨pb + 1, 0, none⟩)), (37, .pointer (some ⟨pb + 1, 3, none⟩)), (38, .slice Ar nb cr), (39, .int .i64 nb)]
              (fun W => W = w5.drew) (by kernel_rfl) (by kernel_rfl) rfl ?_ ?_)
            · (simp only [evOk, putAll, List.getElem?_toArray, List.getElem?_cons_zero, List.getElem?_cons_succ, Option.bind_some, Act.put, List.setIfInBounds_toArray, List.set_cons_zero, List.set_cons_succ]; repeat' apply And.intro) <;> first | exact trivial | (rintro W rfl; simp [go_sem, c0, c1, c2, c3, st1, st2]; done)
            · simp only [putAll, List.getElem?_toArray, List.getElem?_cons_zero, List.getElem?_cons_succ, Option.bind_some, Act.put, List.setIfInBounds_toArray, List.set_cons_zero, List.set_cons_succ]
              refine tail_wanted rfl rfl ?_
              simp [go_sem]
              refine ⟨fun b hb => by obtain rfl := Option.some.inj hb; rfl, ?_⟩
              refine tail_wanted rfl rfl ?_
              simp [go_sem]
              refine ⟨gHolds_none rfl, ?_⟩
              refine tail_wanted rfl rfl ?_
              simp [go_sem]
              refine ⟨fun b hb => by obtain rfl := Option.some.inj hb; rfl, ?_⟩
              refine tail_wanted rfl rfl ?_
              simp [go_sem]
              refine ⟨gHolds_none rfl, ?_⟩
              refine tail_wanted rfl rfl ?_
              simp [go_sem]
              refine ⟨fun b hb => by obtain rfl := Option.some.inj hb; rfl, ?_⟩
              refine tail_wanted rfl rfl ?_
              simp [go_sem]
              refine ⟨gHolds_none rfl, ?_⟩
              refine tail_wanted rfl rfl ?_
              simp [go_sem]
              refine ⟨fun b hb => by obtain rfl := Option.some.inj hb; rfl, ?_⟩
              refine tail_wanted rfl rfl ?_
              simp [go_sem]
              refine ⟨trivial, rfl, (callsIn_wide.2 HEND.out).mono ?_⟩
              rintro e w9 ⟨rfl, rfl⟩
              refine ⟨⟨rfl, gHolds_none rfl⟩, ?_⟩
              refine tail_wanted rfl rfl ?_
              simp [go_sem]
              refine ⟨gHolds_none rfl, ?_⟩
              refine tail_wanted rfl rfl ?_
              simp [go_sem]
              refine ⟨gHolds_none rfl, ?_⟩
              refine tail_wanted rfl rfl ?_
              simp [go_sem]
              refine ⟨fun b hb => by obtain rfl := Option.some.inj hb; rfl, ?_⟩
              refine tail_wanted rfl rfl ?_
              simp [go_sem]
              refine ⟨trivial, rfl, (callsIn_wide.2 HHELD.out).mono ?_⟩
              rintro e w9 ⟨rfl, rfl⟩
              refine ⟨⟨rfl, gHolds_none rfl⟩, ?_⟩
              refine tail_wanted rfl rfl ?_
              simp [go_sem]
              refine ⟨gHolds_none rfl, ?_⟩
              refine tail_wanted rfl rfl ?_
              simp [go_sem]
              refine ⟨gHolds_none rfl, ?_⟩
              unfold wpTailG
              go_at_K
              go_wp2_with (fail)
              go_roundw
              case rel => exact FIN.out
              case measure => simp [intOf]; omega
        · have kz : (k == 0) = false := by simp [hk0]
          clear hk0
          go_wp2_with (go_at_call 10; apply PT.out.mono; rintro e w2 ⟨v2, rfl, qs, hq, hql, k2⟩; obtain ⟨Aq, cq, rfl, _⟩ := hq.reads; have e0 := (k2.cell (p := ⟨b1, o1 + i * 6, none⟩) (by simp; omega) (by simp)).trans e0; have e1 := (k2.cell (p := ⟨b1, o1 + i * 6 + 1, none⟩) (by simp; omega) (by simp)).trans e1; have e2 := (k2.cell (p := ⟨b1, o1 + i * 6 + 2, none⟩) (by simp; omega) (by simp)).trans e2; have e3 := (k2.cell (p := ⟨b1, o1 + i * 6 + 3, none⟩) (by simp; omega) (by simp)).trans e3; have e4 := True.intro; have e5 := True.intro; have HQ := Lib.hid hq; have K2 := Lib.hid k2; clear hq k2; try (clear e4 e5))
          have hql0 := HQ.out.lt
          obtain ⟨_, _, ev, _, _, hq9⟩ := HQ.out.reads
          injection ev with ev1 ev2 ev3
          subst ev1 ev3
          clear ev2
          have hql1 : (encB qs).length = qs.length := encB_len _
          obtain ⟨nq, hnq⟩ : ∃ nq, nq = (encB qs).length := ⟨_, rfl⟩
          rw [← hnq] at hq9 HQ hql1 ⊢
          clear hnq
          have p2 := (HP.out.keep K2.out (by simp) (by simp)).keep ((Keep.refl [] w2).drew) (by simp) (by simp)
          have r2 := (HR.out.keep K2.out (by simp) (by simp)).keep ((Keep.refl [] w2).drew) (by simp) (by simp)
          have KR2 := (KR.out.trans K2.out).drew
          have sz2 := K2.out.size
          have hqd : Reads w2.drew w2.heap.size 1 Aq nq (encB qs) := hq9.keeps ((Keep.refl [] w2).drew) (Nat.le_refl _) (by simp)
          have HQD := Lib.hid hqd
          have hAq : ∀ ad, Aq = some ad → wr.heap.size ≤ ad.block ∧ ad.block < w2.heap.size := fun ad e => hql0 ad.block (by rw [e]; rfl)
          have HAQ := Lib.hid hAq
          obtain ⟨X, hX⟩ : ∃ X, X = moreA id wt en bs oi wh qs := ⟨_, rfl⟩
          have hXl : X.bs.length ≤ 65536 := by rw [hX]; exact (ans_len (id := id) (i := oi) (wt := wt) (en := en) (e' := oe) (wh := wh) (ps := qs) HB.out).2
          have hXi : X.wt = false → X.id = 0 := by rw [hX]; exact (ans_id (id := id) (i := oi) (wt := wt) (en := en) (e' := oe) (wh := wh) (bs := bs) (ps := qs) HI0.out).2
          have ST := more_ p2 oi wh cq hqd (by have := sz2; simp; omega) HB.out (by omega)
          rw [← hX] at ST
          have HXL := Lib.hid hXl
          have HXI := Lib.hid hXi
          have SST := Lib.hid ST
          have HX := Lib.hid hX
          have HKR2 := Lib.hid KR2
          have HR2 := Lib.hid r2
          have HP2 := Lib.hid p2
          clear hXl hXi ST hX KR2 r2 p2 hqd hq9 hql0 hAq PT HP HR HQ KR hb1
          refine wpIn_wide.1 (region_rt3 (n := 0) [(12, false), (13, false)] [14, 15, 16, 17, 18, 19] [(0, .pointer (some ⟨pb, 0, none⟩)), (1, .slice (some ⟨b1, o1, none⟩) n c), (2, .int .i64 i), (3, .pointer (some ⟨b1, o1 + i * 6, none⟩)), (4, .pointer (some ⟨b1, o1 + i * 6 + 1, none⟩)), (5, .int .i64 oi), (6, .slice Aq nq cq), (7, .slice (some ⟨b1, o1, none⟩) n c), (8, .int .i64 i), (9, .pointer (some ⟨b1, o1 + i * 6, none⟩)), (10, .pointer (some ⟨b1, o1 + i * 6 + 3, none⟩)), (11, .bool wh)] (fun W => W = w2.drew) (by kernel_rfl) (by kernel_rfl) rfl ?_ ?_)
          · (simp only [evOk, putAll, List.getElem?_toArray, List.getElem?_cons_zero, List.getElem?_cons_succ, Option.bind_some, Act.put, List.setIfInBounds_toArray, List.set_cons_zero, List.set_cons_succ]; repeat' apply And.intro) <;> first | exact trivial | (rintro W rfl; simp [go_sem, *]; done) | (intro W hW; simp [go_sem, *])
          simp only [putAll, List.getElem?_toArray, List.getElem?_cons_zero, List.getElem?_cons_succ, Option.bind_some, Act.put, List.setIfInBounds_toArray, List.set_cons_zero, List.set_cons_succ]
          refine tail_step rfl ?_
          simp [go_sem]
          refine ⟨trivial, rfl, (callsIn_wide.2 SST.out).mono ?_⟩
          rintro e w3 ⟨rx, vp3, rfl, hrx, ⟨idp, bp, _, hidp⟩, kx, mx, mrx⟩
          obtain rfl := hidp rfl
          refine tail_step rfl ?_
          simp [go_sem]
          unfold wpTail
          refine ⟨[(14, rx), (15, .bool X.dn), (16, .int .i64 X.cd), (17, rx), (18, .bool X.dn), (19, .int .i64 X.cd)], rfl, ?_, ?_⟩
          · (simp only [evOk, putAll, List.getElem?_toArray, List.getElem?_cons_zero, List.getElem?_cons_succ, Option.bind_some, Act.put, List.setIfInBounds_toArray, List.set_cons_zero, List.set_cons_succ]; repeat' apply And.intro) <;> first | exact trivial | (rintro W rfl; simp [go_sem, *]; done) | (intro W hW; simp [go_sem, *])
          simp only [putAll, List.getElem?_toArray, List.getElem?_cons_zero, List.getElem?_cons_succ, Option.bind_some, Act.put, List.setIfInBounds_toArray, List.set_cons_zero, List.set_cons_succ]
          have sz3 := kx.size
          simp at sz3
          have r3 := HR2.out.keep kx (fun hx => by
            rcases List.mem_cons.1 hx with hx | hx
            · omega
            · exact row_off_blk HP2.out.row HR2.out.blk (by decide) (by simpa using hx)) (fun g hg hx => by
            rcases List.mem_cons.1 hx with rfl | hx
            · exact row_off_blk HR2.out.row HP2.out.blk (by decide) hg
            · exact HS.out g (by simpa using hx) hg)
          have KR3 : Keep [] w w3 := HKR2.out.step kx (fun g hx => by
            rcases List.mem_cons.1 hx with rfl | hx
            · exact .inr (by omega)
            · exact .inr (HP2.out.row.lt g (by simpa using hx)).1)
          have hnb := HPL.out
          have cw : ∀ o, w3.cell? ⟨b1, o, none⟩ = w2.drew.cell? ⟨b1, o, none⟩ := fun o => kx.cell (by simp; omega) (fun hx => by
            rcases List.mem_cons.1 hx with hx | hx
            · simp at hx; omega
            · have := (HP2.out.row.lt _ (by simpa using hx)).1; omega)
          have hqd3 : Reads w3 w2.heap.size 1 Aq nq (encB qs) := HQD.out.kept kx (by simp) (fun _ ad e hx => by
            have h0 := (HAQ.out ad e).1
            rcases List.mem_cons.1 hx with hx | hx
            · omega
            · have := hnb _ (by simpa using hx); omega)
          have e1 := (cw _).trans ((show w2.drew.cell? _ = w2.cell? _ from rfl).trans e1)
          have e2 := (cw _).trans ((show w2.drew.cell? _ = w2.cell? _ from rfl).trans e2)
          have e3 := (cw _).trans ((show w2.drew.cell? _ = w2.cell? _ from rfl).trans e3)
          have r3d := r3.keep ((Keep.refl [] w3).drew) (by simp) (by simp)
          have hqd4 : Reads w3.drew w2.heap.size 1 Aq nq (encB qs) := hqd3.keeps ((Keep.refl [] w3).drew) (by omega) (by simp)
          have ST2 := rmore_ r3d HI.out oi wh cq hqd4 (by have := sz3; simp; omega) HB.out (by omega)
          rw [← HX.out] at ST2
          have SST2 := Lib.hid ST2
          have hsep3 : Sep vp3 vr := HS.out.moved (w := w2.drew) (fun g e => (HR2.out.row.lt g e).2) mx
          have hsepx : Sep rx vr := HS.out.moved (w := w2.drew) (fun g e => (HR2.out.row.lt g e).2) mrx
          have hrxd := hrx.keep ((Keep.refl [] w3).drew) (by simp)
          have bpd := bp.keep ((Keep.refl [] w3).drew) (by simp) (by simp)
          have KRD := KR3.drew
          have H3 := Lib.hid hsep3
          have HX3 := Lib.hid hsepx
          have HRX := Lib.hid hrxd
          have HBP := Lib.hid bpd
          have HR3 := Lib.hid r3d
          have HK3 := Lib.hid KRD
          have hlx := hrx.lt
          have HLX := Lib.hid hlx
          clear r3 KR3 hnb cw hqd3 r3d hqd4 ST2 hsep3 hsepx hrxd bpd KRD hrx bp kx mx mrx hlx
          go_wp2_with (fail)
          refine wpIn_wide.1 (region_rt3 (n := 0) [(12, false), (13, false)] [14, 15, 16, 17, 18, 19] [(0, .pointer (some ⟨(pb + 1), 0, none⟩)), (1, .slice (some ⟨b1, o1, none⟩) n c), (2, .int .i64 i), (3, .pointer (some ⟨b1, o1 + i * 6, none⟩)), (4, .pointer (some ⟨b1, o1 + i * 6 + 1, none⟩)), (5, .int .i64 oi), (6, .slice Aq nq cq), (7, .slice (some ⟨b1, o1, none⟩) n c), (8, .int .i64 i), (9, .pointer (some ⟨b1, o1 + i * 6, none⟩)), (10, .pointer (some ⟨b1, o1 + i * 6 + 3, none⟩)), (11, .bool wh)] (fun W => W = w3.drew) (by kernel_rfl) (by kernel_rfl) rfl ?_ ?_)
          · (simp only [evOk, putAll, List.getElem?_toArray, List.getElem?_cons_zero, List.getElem?_cons_succ, Option.bind_some, Act.put, List.setIfInBounds_toArray, List.set_cons_zero, List.set_cons_succ]; repeat' apply And.intro) <;> first | exact trivial | (rintro W rfl; simp [go_sem, *]; done) | (intro W hW; simp [go_sem, *])
          simp only [putAll, List.getElem?_toArray, List.getElem?_cons_zero, List.getElem?_cons_succ, Option.bind_some, Act.put, List.setIfInBounds_toArray, List.set_cons_zero, List.set_cons_succ]
          refine tail_step rfl ?_
          simp [go_sem]
          refine ⟨trivial, rfl, (callsIn_wide.2 SST2.out).mono ?_⟩
          rintro e w4 ⟨ry, vr4, rfl, hry, ⟨ridp, rp, hrid, _⟩, ky, my, mry⟩
          refine tail_step rfl ?_
          simp [go_sem]
          unfold wpTail
          refine ⟨[(14, ry), (15, .bool X.dn), (16, .int .i64 X.cd), (17, ry), (18, .bool X.dn), (19, .int .i64 X.cd)], rfl, ?_, ?_⟩
          · (simp only [evOk, putAll, List.getElem?_toArray, List.getElem?_cons_zero, List.getElem?_cons_succ, Option.bind_some, Act.put, List.setIfInBounds_toArray, List.set_cons_zero, List.set_cons_succ]; repeat' apply And.intro) <;> first | exact trivial | (rintro W rfl; simp [go_sem, *]; done) | (intro W hW; simp [go_sem, *])
          simp only [putAll, List.getElem?_toArray, List.getElem?_cons_zero, List.getElem?_cons_succ, Option.bind_some, Act.put, List.setIfInBounds_toArray, List.set_cons_zero, List.set_cons_succ]
          have sz4 := ky.size
          simp at sz4
          have hlx := HLX.out
          have b4 := HBP.out.keep ky (fun hx => by
            rcases List.mem_cons.1 hx with hx | hx
            · omega
            · exact row_off_blk HR3.out.row HBP.out.blk (by decide) (by simpa using hx)) (fun g hg hx => by
            rcases List.mem_cons.1 hx with rfl | hx
            · exact row_off_blk HBP.out.row HR3.out.blk (by decide) hg
            · exact H3.out g hg (by simpa using hx))
          have x4 := HRX.out.keep ky (fun g hg hx => by
            rcases List.mem_cons.1 hx with rfl | hx
            · exact row_off_blk HRX.out HR3.out.blk (by decide) hg
            · exact HX3.out g hg (by simpa using hx))
          have KR4 : Keep [] w w4 := HK3.out.step ky (fun g hx => by
            rcases List.mem_cons.1 hx with rfl | hx
            · exact .inr (by omega)
            · exact .inr (HR3.out.row.lt g (by simpa using hx)).1)
          have hsep4 : Sep vp3 vr4 := (H3.out.symm.moved (w := w3.drew) (fun g e => (HBP.out.row.lt g e).2) my).symm
          have HWT := Lib.hid (waits_ b4)
          have HB4 := Lib.hid b4
          have HX4 := Lib.hid x4
          have HY4 := Lib.hid hry
          have HR4 := Lib.hid rp
          have HK4 := Lib.hid KR4
          have HS4 := Lib.hid hsep4
          have HRID := Lib.hid hrid
          clear b4 x4 KR4 hsep4 hry rp hrid ky my mry hlx H3 HX3 HRX HBP HR3 HK3 HLX HX SST SST2 HQD HAQ HP2 HR2 HKR2 K2 HS HPL HB HI HI0 hql
          try clear HQ
          try clear hql1
          try clear e0
          try clear e1
          try clear e2
          try clear e3
          try clear kz
          obtain ⟨xo, xd, xc, xi, xw, xe, xb⟩ := X
          simp only at HWT HB4 HX4 HY4 HR4 HRID HXL HXI ⊢
          have hrid := HRID.out
          have hxi := HXI.out
          clear HRID HXI
          cases xw
          · obtain rfl := hxi rfl
            clear hrid hxi
            go_wp2_with (go_at_call 15; apply HWT.out.mono; rintro e w5 ⟨rfl, k5⟩; have sz5 := k5.size; have b5 := Lib.hid ((HB4.out.keep k5 (by simp) (by simp)).keep ((Keep.refl [] w5).drew) (by simp) (by simp)); have r5 := HR4.out.keep k5 (by simp) (by simp); have x5 := (HX4.out.keep k5 (by simp)).keep ((Keep.refl [] w5).drew) (by simp); have y5 := (HY4.out.keep k5 (by simp)).keep ((Keep.refl [] w5).drew) (by simp); have HK5 := Lib.hid (HK4.out.trans k5).drew; have c0 := r5.blk.cell 0; have c1 := r5.blk.cell 1; have c2 := r5.blk.cell 2; have c3 := r5.blk.cell 3; simp at c0 c1 c2 c3; obtain ⟨Ax, cx, rfl, _, _, hX⟩ := x5.reads; obtain ⟨Ay, cy, rfl, _, _, hY⟩ := y5.reads; obtain ⟨Ar, cr, rfl, _, _, _⟩ := r5.slice; have st1 := str_of (c := cx) (src := 27) (dst := 9) Try.underlying27 Try.underlying5 Try.underlying9 hX; have st2 := str_of (c := cy) (src := 27) (dst := 9) Try.underlying27 Try.underlying5 Try.underlying9 hY; obtain ⟨nx, hnx⟩ : ∃ nx, nx = (encB xo).length := ⟨_, rfl⟩; rw [← hnx] at st1 st2; rw [← hnx]; clear hnx; obtain ⟨nb, hnb⟩ : ∃ nb, nb = xb.length := ⟨_, rfl⟩; rw [← hnb] at c3; have HNB := Lib.hid hnb; clear hnb; have R5 := Lib.hid (r5.keep ((Keep.refl [] w5).drew) (by simp) (by simp)); clear r5 x5 y5 hX hY k5; have FIN := Lib.hid (show ∃ (i' : Nat) (id rid : Int) (wt en : Bool) (bs : List UInt8) (vp vr : Value), Value.int .i64 (i + 1) = .int .i64 i' ∧ i' ≤ n ∧ i' ≤ 30 ∧ bs.length ≤ 65536 ∧ Bk w5.drew w.heap.size pb 52 id wt en vp bs ∧ Bk w5.drew w.heap.size (pb + 1) 29 rid wt en vr bs ∧ Sep vp vr ∧ (wt = true → rid = id) ∧ (wt = false → id = 0) ∧ Keep [] w w5.drew from ⟨i + 1, 0, ridp, false, xe, xb, _, _, by simp, by omega, by omega, HXL.out, b5.out, R5.out, HS4.out, fun h => (by cases h), fun _ => rfl, HK5.out⟩); have HEND := Lib.hid (isend_ b5.out); have HHELD := Lib.hid (held_ b5.out); rw [← HNB.out] at HHELD; clear b5 HNB R5 HK5 HXL HS4)
            refine wpIn_wide.1 (region_rtg (n := 0) [(5, true), (9, true), (10, true), (14, true), (15, true), (22, true), (23, true), (25, true), (30, true), (31, true), (32, true), (34, true), (40, true), (41, true)] [(5, false), (10, false), (15, false), (23, false), (32, false)]
              [(0, .slice Ax nx cx), (1, .string ⟨xo.toArray⟩), (2, .slice Ay nx cy), (3, .string ⟨xo.toArray⟩), (4, .bool false), (6, .bool xd), (7, .bool xd), (8, .bool false), (11, .int .i64 xc), (12, .int .i64 xc), (13, .bool false), (16, .bool false), (17, .pointer (some ⟨pb + 1, 0, none⟩)), (18, .pointer (some ⟨pb + 1, 0, none⟩)), (19, .pointer (some ⟨pb + 1, 1, none⟩)), (20, .bool false), (21, .bool false), (24, .pointer (some ⟨pb, 0, none⟩)), (26, .pointer (some ⟨pb + 1, 0, none⟩)), (27, .pointer (some ⟨pb + 1, 0, none⟩)), (28, .pointer (some ⟨pb + 1, 2, none⟩)), (29, .bool xe), (33, .pointer (some ⟨pb, 0, none⟩)), (35, .pointer (some ⟨pb + 1, 0, none⟩)), (36, .pointer (some ⟨pb + 1, 0, none⟩)), (37, .pointer (some ⟨pb + 1, 3, none⟩)), (38, .slice Ar nb cr), (39, .int .i64 nb)]
              (fun W => W = w5.drew) (by kernel_rfl) (by kernel_rfl) rfl ?_ ?_)
            · (simp only [evOk, putAll, List.getElem?_toArray, List.getElem?_cons_zero, List.getElem?_cons_succ, Option.bind_some, Act.put, List.setIfInBounds_toArray, List.set_cons_zero, List.set_cons_succ]; repeat' apply And.intro) <;> first | exact trivial | (rintro W rfl; simp [go_sem, c0, c1, c2, c3, st1, st2]; done)
            · simp only [putAll, List.getElem?_toArray, List.getElem?_cons_zero, List.getElem?_cons_succ, Option.bind_some, Act.put, List.setIfInBounds_toArray, List.set_cons_zero, List.set_cons_succ]
              refine tail_wanted rfl rfl ?_
              simp [go_sem]
              refine ⟨fun b hb => by obtain rfl := Option.some.inj hb; rfl, ?_⟩
              refine tail_wanted rfl rfl ?_
              simp [go_sem]
              refine ⟨gHolds_none rfl, ?_⟩
              refine tail_wanted rfl rfl ?_
              simp [go_sem]
              refine ⟨fun b hb => by obtain rfl := Option.some.inj hb; rfl, ?_⟩
              refine tail_wanted rfl rfl ?_
              simp [go_sem]
              refine ⟨gHolds_none rfl, ?_⟩
              refine tail_wanted rfl rfl ?_
              simp [go_sem]
              refine ⟨fun b hb => by obtain rfl := Option.some.inj hb; rfl, ?_⟩
              refine tail_wanted rfl rfl ?_
              simp [go_sem]
              refine ⟨gHolds_none rfl, ?_⟩
              refine tail_wanted rfl rfl ?_
              simp [go_sem]
              refine ⟨fun b hb => by obtain rfl := Option.some.inj hb; rfl, ?_⟩
              refine tail_wanted rfl rfl ?_
              simp [go_sem]
              refine ⟨trivial, rfl, (callsIn_wide.2 HEND.out).mono ?_⟩
              rintro e w9 ⟨rfl, rfl⟩
              refine ⟨⟨rfl, gHolds_none rfl⟩, ?_⟩
              refine tail_wanted rfl rfl ?_
              simp [go_sem]
              refine ⟨gHolds_none rfl, ?_⟩
              refine tail_wanted rfl rfl ?_
              simp [go_sem]
              refine ⟨gHolds_none rfl, ?_⟩
              refine tail_wanted rfl rfl ?_
              simp [go_sem]
              refine ⟨fun b hb => by obtain rfl := Option.some.inj hb; rfl, ?_⟩
              refine tail_wanted rfl rfl ?_
              simp [go_sem]
              refine ⟨trivial, rfl, (callsIn_wide.2 HHELD.out).mono ?_⟩
              rintro e w9 ⟨rfl, rfl⟩
              refine ⟨⟨rfl, gHolds_none rfl⟩, ?_⟩
              refine tail_wanted rfl rfl ?_
              simp [go_sem]
              refine ⟨gHolds_none rfl, ?_⟩
              refine tail_wanted rfl rfl ?_
              simp [go_sem]
              refine ⟨gHolds_none rfl, ?_⟩
              unfold wpTailG
              go_at_K
              go_wp2_with (fail)
              go_roundw
              case rel => exact FIN.out
              case measure => simp [intOf]; omega
          · obtain rfl := hrid rfl
            clear hrid hxi
            go_wp2_with (go_at_call 15; apply HWT.out.mono; rintro e w5 ⟨rfl, k5⟩; have sz5 := k5.size; have b5 := Lib.hid ((HB4.out.keep k5 (by simp) (by simp)).keep ((Keep.refl [] w5).drew) (by simp) (by simp)); have r5 := HR4.out.keep k5 (by simp) (by simp); have x5 := (HX4.out.keep k5 (by simp)).keep ((Keep.refl [] w5).drew) (by simp); have y5 := (HY4.out.keep k5 (by simp)).keep ((Keep.refl [] w5).drew) (by simp); have HK5 := Lib.hid (HK4.out.trans k5).drew; have c0 := r5.blk.cell 0; have c1 := r5.blk.cell 1; have c2 := r5.blk.cell 2; have c3 := r5.blk.cell 3; simp at c0 c1 c2 c3; obtain ⟨Ax, cx, rfl, _, _, hX⟩ := x5.reads; obtain ⟨Ay, cy, rfl, _, _, hY⟩ := y5.reads; obtain ⟨Ar, cr, rfl, _, _, _⟩ := r5.slice; have st1 := str_of (c := cx) (src := 27) (dst := 9) Try.underlying27 Try.underlying5 Try.underlying9 hX; have st2 := str_of (c := cy) (src := 27) (dst := 9) Try.underlying27 Try.underlying5 Try.underlying9 hY; obtain ⟨nx, hnx⟩ : ∃ nx, nx = (encB xo).length := ⟨_, rfl⟩; rw [← hnx] at st1 st2; rw [← hnx]; clear hnx; obtain ⟨nb, hnb⟩ : ∃ nb, nb = xb.length := ⟨_, rfl⟩; rw [← hnb] at c3; have HNB := Lib.hid hnb; clear hnb; have R5 := Lib.hid (r5.keep ((Keep.refl [] w5).drew) (by simp) (by simp)); clear r5 x5 y5 hX hY k5; have FIN := Lib.hid (show ∃ (i' : Nat) (id rid : Int) (wt en : Bool) (bs : List UInt8) (vp vr : Value), Value.int .i64 (i + 1) = .int .i64 i' ∧ i' ≤ n ∧ i' ≤ 30 ∧ bs.length ≤ 65536 ∧ Bk w5.drew w.heap.size pb 52 id wt en vp bs ∧ Bk w5.drew w.heap.size (pb + 1) 29 rid wt en vr bs ∧ Sep vp vr ∧ (wt = true → rid = id) ∧ (wt = false → id = 0) ∧ Keep [] w w5.drew from ⟨i + 1, ridp, ridp, true, xe, xb, _, _, by simp, by omega, by omega, HXL.out, b5.out, R5.out, HS4.out, fun _ => rfl, fun h => (by cases h), HK5.out⟩); have HEND := Lib.hid (isend_ b5.out); have HHELD := Lib.hid (held_ b5.out); rw [← HNB.out] at HHELD; clear b5 HNB R5 HK5 HXL HS4)
            refine wpIn_wide.1 (region_rtg (n := 0) [(5, true), (9, true), (10, true), (14, true), (15, true), (22, true), (23, true), (25, true), (30, true), (31, true), (32, true), (34, true), (40, true), (41, true)] [(5, false), (10, false), (15, false), (23, false), (32, false)]
              [(0, .slice Ax nx cx), (1, .string ⟨xo.toArray⟩), (2, .slice Ay nx cy), (3, .string ⟨xo.toArray⟩), (4, .bool false), (6, .bool xd), (7, .bool xd), (8, .bool false), (11, .int .i64 xc), (12, .int .i64 xc), (13, .bool false), (16, .bool true), (17, .pointer (some ⟨pb + 1, 0, none⟩)), (18, .pointer (some ⟨pb + 1, 0, none⟩)), (19, .pointer (some ⟨pb + 1, 1, none⟩)), (20, .bool true), (21, .bool false), (24, .pointer (some ⟨pb, 0, none⟩)), (26, .pointer (some ⟨pb + 1, 0, none⟩)), (27, .pointer (some ⟨pb + 1, 0, none⟩)), (28, .pointer (some ⟨pb + 1, 2, none⟩)), (29, .bool xe), (33, .pointer (some ⟨pb, 0, none⟩)), (35, .pointer (some ⟨pb + 1, 0, none⟩)), (36, .pointer (some ⟨pb + 1, 0, none⟩)), (37, .pointer (some ⟨pb + 1, 3, none⟩)), (38, .slice Ar nb cr), (39, .int .i64 nb)]
              (fun W => W = w5.drew) (by kernel_rfl) (by kernel_rfl) rfl ?_ ?_)
            · (simp only [evOk, putAll, List.getElem?_toArray, List.getElem?_cons_zero, List.getElem?_cons_succ, Option.bind_some, Act.put, List.setIfInBounds_toArray, List.set_cons_zero, List.set_cons_succ]; repeat' apply And.intro) <;> first | exact trivial | (rintro W rfl; simp [go_sem, c0, c1, c2, c3, st1, st2]; done)
            · simp only [putAll, List.getElem?_toArray, List.getElem?_cons_zero, List.getElem?_cons_succ, Option.bind_some, Act.put, List.setIfInBounds_toArray, List.set_cons_zero, List.set_cons_succ]
              refine tail_wanted rfl rfl ?_
              simp [go_sem]
              refine ⟨fun b hb => by obtain rfl := Option.some.inj hb; rfl, ?_⟩
              refine tail_wanted rfl rfl ?_
              simp [go_sem]
              refine ⟨gHolds_none rfl, ?_⟩
              refine tail_wanted rfl rfl ?_
              simp [go_sem]
              refine ⟨fun b hb => by obtain rfl := Option.some.inj hb; rfl, ?_⟩
              refine tail_wanted rfl rfl ?_
              simp [go_sem]
              refine ⟨gHolds_none rfl, ?_⟩
              refine tail_wanted rfl rfl ?_
              simp [go_sem]
              refine ⟨fun b hb => by obtain rfl := Option.some.inj hb; rfl, ?_⟩
              refine tail_wanted rfl rfl ?_
              simp [go_sem]
              refine ⟨gHolds_none rfl, ?_⟩
              refine tail_wanted rfl rfl ?_
              simp [go_sem]
              refine ⟨fun b hb => by obtain rfl := Option.some.inj hb; rfl, ?_⟩
              refine tail_wanted rfl rfl ?_
              simp [go_sem]
              refine ⟨trivial, rfl, (callsIn_wide.2 HEND.out).mono ?_⟩
              rintro e w9 ⟨rfl, rfl⟩
              refine ⟨⟨rfl, gHolds_none rfl⟩, ?_⟩
              refine tail_wanted rfl rfl ?_
              simp [go_sem]
              refine ⟨gHolds_none rfl, ?_⟩
              refine tail_wanted rfl rfl ?_
              simp [go_sem]
              refine ⟨gHolds_none rfl, ?_⟩
              refine tail_wanted rfl rfl ?_
              simp [go_sem]
              refine ⟨fun b hb => by obtain rfl := Option.some.inj hb; rfl, ?_⟩
              refine tail_wanted rfl rfl ?_
              simp [go_sem]
              refine ⟨trivial, rfl, (callsIn_wide.2 HHELD.out).mono ?_⟩
              rintro e w9 ⟨rfl, rfl⟩
              refine ⟨⟨rfl, gHolds_none rfl⟩, ?_⟩
              refine tail_wanted rfl rfl ?_
              simp [go_sem]
              refine ⟨gHolds_none rfl, ?_⟩
              refine tail_wanted rfl rfl ?_
              simp [go_sem]
              refine ⟨gHolds_none rfl, ?_⟩
              unfold wpTailG
              go_at_K
              go_wp2_with (fail)
              go_roundw
              case rel => exact FIN.out
              case measure => simp [intOf]; omega
      · have k30 : ¬ (i : Int) < 30 := by omega
        clear hp hr hsep hbl hid hid0
        go_wp2_with (fail)
        go_ret
        exact ⟨rfl, kr.below (Nat.le_refl _) (by simp)⟩
    · have k1 : ¬ (i : Int) < (n : Int) := by omega
      clear hp hr hsep hbl hid hid0
      go_wp2_with (fail)
      go_ret
      exact ⟨rfl, kr.below (Nat.le_refl _) (by simp)⟩
end Go.Proofs.Ytenegjflapppdaa
