/- pipe: PipeAll: any calls, one behind the other. -/
import Derived.Test.YtinokgmmdmkbcaaLaw2
import Derived.Deep.DeepCutAuto
import Derived.Deep.CutBlock
set_option linter.all false
namespace Go.Proofs.Ytinokgmmdmkbcaa
open Go.ChangeShapes Go.WideShapes Go.ChangeAt Go.RowKit
attribute [local go_sem] setCell_drewN alloc_drewN
theorem ops_of_sl {w : World} {N : Nat} {v : Value} (h : Sl w 3 (fun j => if j = 0 then IsInt .i64 else if j = 1 then IsInt .i64 else fun u => Sl w 1 (fun _ => IsInt .u8) u ∧ ∀ A n c, u = .slice A n c → n ≤ N) v) : ∃ A n c, v = .slice A n c ∧ n ≤ c ∧ c ≤ maxLen ∧
    ∀ i, i < n → ∃ b off, A = some ⟨b, off, none⟩ ∧ b < w.heap.size ∧ ∃ k x Ap np cp ps, w.cell? ⟨b, off + i * 3, none⟩ = some (.int .i64 k) ∧ w.cell? ⟨b, off + i * 3 + 1, none⟩ = some (.int .i64 x) ∧ w.cell? ⟨b, off + i * 3 + 2, none⟩ = some (.slice Ap np cp) ∧ np ≤ N ∧ ps.length = np ∧ np ≤ cp ∧ cp ≤ maxLen ∧ Reads w w.heap.size 1 Ap np (encB ps) := by
  obtain ⟨A, n, c, rfl, hl, hm, h⟩ := h
  refine ⟨A, n, c, rfl, hl, hm, fun i hi => ?_⟩
  rcases h with h0 | ⟨b, off, rfl, hb, hc⟩
  · omega
  · obtain ⟨u0, hu0, k, rfl, _⟩ := hc i (by omega) 0 (by omega)
    obtain ⟨u1, hu1, h1⟩ := hc i (by omega) 1 (by omega)
    obtain ⟨x, rfl, _⟩ : IsInt .i64 u1 := h1
    obtain ⟨u, hu, h2⟩ := hc i (by omega) 2 (by omega)
    obtain ⟨hs, hn⟩ : Sl w 1 (fun _ => IsInt .u8) u ∧ ∀ A n c, u = .slice A n c → n ≤ N := h2
    obtain ⟨Ap, np, cp, ps, rfl, h1, h2, h3, h4⟩ := reads_of_sl hs
    exact ⟨b, off, rfl, hb, k, x, Ap, np, cp, ps, by simpa using hu0, by simpa [Nat.add_assoc] using hu1, by simpa [Nat.add_assoc] using hu, hn _ _ _ rfl, h3, h1, h2, h4⟩
theorem step_le {a i : Nat} (h : a ≤ i * 1048576) : a ≤ (i + 1) * 1048576 := Nat.le_trans h (Nat.mul_le_mul_right _ (Nat.le_succ i))
theorem step_add {a b i : Nat} (h : a ≤ i * 1048576) (h' : b ≤ 1048576) : a + b ≤ (i + 1) * 1048576 := by rw [Nat.succ_mul]; exact Nat.add_le_add h h'
set_option maxRecDepth 100000 in
set_option maxHeartbeats 8000000 in
theorem pipeAll (w : World) (v : Value) (hv : Sl w 3 (fun j => if j = 0 then IsInt .i64 else if j = 1 then IsInt .i64 else fun u => Sl w 1 (fun _ => IsInt .u8) u ∧ ∀ A n c, u = .slice A n c → n ≤ 1048576) v) :
    Calls Try.prog 5 #[v] w fun e w' => e = .returned (.bool true) ∧ Below w.heap.size w w' := by
  obtain ⟨i0, z0, hi, hz, hz0, hz1, hz2⟩ := u8_info
  obtain ⟨A, n, c, rfl, hnc, hcm, hat⟩ := ops_of_sl hv
  clear hv
  unfold maxLen at hcm
  have Hat := Lib.hid hat
  clear hat
  go_enter Try.func5, Try.ntmps5
  go_wp2_with (first
    | (go_at_call 7; refine (begun _).mono ?_; rintro e w1 ⟨rfl, hb1⟩)
    | (go_at_call 8; refine (new_ _).mono ?_; rintro e w' ⟨rfl, rfl⟩))
  have hb1 := Keep.of_below hb1
  have p0 : Pp ((w1.alloc (.cells #[.slice none 0 0, .bool false, .bool false] 51)).alloc (.cells #[.slice none 0 0, .bool false, .bool false] 29)) w.heap.size w1.heap.size 51 (.slice none 0 0) [] false false := ⟨(Blk.new w1 _ _).alloc _, Row1.nil _ _ _⟩
  have r0 : Pp ((w1.alloc (.cells #[.slice none 0 0, .bool false, .bool false] 51)).alloc (.cells #[.slice none 0 0, .bool false, .bool false] 29)) w.heap.size (w1.heap.size + 1) 29 (.slice none 0 0) [] false false := ⟨by have := Blk.new (w1.alloc (.cells #[.slice none 0 0, .bool false, .bool false] 51)) 29 #[.slice none 0 0, .bool false, .bool false]; simpa using this, Row1.nil _ _ _⟩
  have K0 : Keep [] w ((w1.alloc (.cells #[.slice none 0 0, .bool false, .bool false] 51)).alloc (.cells #[.slice none 0 0, .bool false, .bool false] 29)) := (hb1.alloc _).alloc _
  have szw := hb1.size
  obtain ⟨W0, hW0⟩ : ∃ W0, W0 = (w1.alloc (.cells #[.slice none 0 0, .bool false, .bool false] 51)).alloc (.cells #[.slice none 0 0, .bool false, .bool false] 29) := ⟨_, rfl⟩
  rw [← hW0] at p0 r0 K0 ⊢
  clear hW0 hb1
  obtain ⟨pb, hpb⟩ : ∃ pb, pb = w1.heap.size := ⟨_, rfl⟩
  rw [← hpb] at p0 r0 szw ⊢
  clear hpb
  go_loopw [6] (fun vi wr => ∃ (i : Nat) (bs : List UInt8) (vp vr : Value) (en td : Bool), vi = .int .i64 i ∧ i ≤ n ∧ i ≤ 60 ∧ bs.length ≤ i * 1048576 ∧ Pp wr w.heap.size pb 51 vp bs en td ∧ Pp wr w.heap.size (pb + 1) 29 vr bs en td ∧ Sep vp vr ∧ Keep [] w wr) (fun vi _ => n - (intOf vi).toNat)
  case atStart => exact ⟨0, [], _, _, false, false, rfl, by omega, by omega, by simp, p0, r0, fun g h => (by cases h), K0⟩
  case round =>
    obtain ⟨i, bs, vp, vr, en, td, rfl, hin, hi60, hbl, hp, hr, hsep, kr⟩ := hrel
    clear p0 r0 K0
    have szr := kr.size
    have i0' : (0 : Int) ≤ (i : Int) := by omega
    by_cases hlt : i < n
    · have k1 : (i : Int) < (n : Int) := by omega
      by_cases h60 : i < 60
      · have k60 : (i : Int) < 60 := by omega
        obtain ⟨b1, o1, rfl, hb1, k, x, Ap, np, cp, ps, e0, e1, e2, hpn, hpl, hpc, hcp, hrp⟩ := Hat.out i hlt
        unfold maxLen at hcp
        have Hrp := Lib.hid hrp
        have E1 := Lib.hid e1
        have E2 := Lib.hid e2
        have e0 := (kr.cell (p := ⟨b1, o1 + i * 3, none⟩) hb1 (by simp)).trans e0
        clear hrp e1 e2
        have hpl' := hp.blk.lt
        have hrl' := hr.blk.lt
        go_upto_block 2 with (fail)
        go_cut [7, 8, 9, 10, 11, 12] (fun _ _ _ _ _ _ wx => ∃ (bs' : List UInt8) (vp' vr' : Value) (en' td' : Bool), bs'.length ≤ (i + 1) * 1048576 ∧ Pp wx w.heap.size pb 51 vp' bs' en' td' ∧ Pp wx w.heap.size (pb + 1) 29 vr' bs' en' td' ∧ Sep vp' vr' ∧ Keep [] w wx)
        case first =>
          by_cases q0 : k = 0
          · have q0' : (k == 0) = true := by simp [q0]
            clear q0
            have E1 := E1.out
            have E2 := E2.out
            have e2 := (kr.cell (p := ⟨b1, o1 + i * 3 + 2, none⟩) hb1 (by simp)).trans E2
            go_wp2_with (at_builtin; apply wpList_append_row _ rfl _ _ _ rfl wr.heap.size 5 i0 z0 1 Try.underlying22 hi hz hz0 hz1 hz2 (.slice none 0 0) [] rfl (Row1.nil _ _ _) _ Ap np cp (encB ps) rfl (Hrp.out.keeps kr (Nat.le_refl _) (by simp)) encB_one (by unfold maxLen; simp; omega) (by simp; omega) (Nat.le_refl _); intro vb w1 hrb k1b _; simp only [List.nil_append, rowBlk, Option.toList_none] at hrb k1b; obtain ⟨Ab, cb, rfl, hcb1, hcb2, hrdb⟩ := hrb.reads)
            have p1 := hp.keep k1b (by simp) (by simp)
            have r1 := hr.keep k1b (by simp) (by simp)
            have K1 : Keep [] w w1 := kr.trans k1b
            have szb := k1b.size
            have Lb : (encB ps).length = np := by rw [encB_len, hpl]
            have hbw : ∀ g, rowBlk (.slice Ab (encB ps).length cb) = some g → wr.heap.size ≤ g ∧ g < w1.heap.size := fun g e => hrb.lt g e
            clear e2
            apply (put_ p1 (by omega) hrdb (by rw [encB_len]; omega)).mono
            rintro e w2 ⟨rfl, vp2, p2, k2, m2⟩
            have rb2 := hrb.keep k2 (fun g hg hx => by
              have h0 := (hbw g hg).1
              rcases List.mem_cons.1 hx with rfl | hx
              · omega
              · have := (hp.row.lt g (by simpa using hx)).2; omega)
            have r2 := r1.keep k2 (fun hx => by
              rcases List.mem_cons.1 hx with hx | hx
              · omega
              · exact row_off_blk p1.row r1.blk (by decide) (by simpa using hx)) (fun g hg hx => by
              rcases List.mem_cons.1 hx with rfl | hx
              · exact row_off_blk r1.row p1.blk (by decide) hg
              · exact hsep g (by simpa using hx) hg)
            have K2 : Keep [] w w2 := K1.step k2 (fun g hx => by
              rcases List.mem_cons.1 hx with rfl | hx
              · exact .inr (by omega)
              · exact .inr (hp.row.lt g (by simpa using hx)).1)
            have sz2 := k2.size
            have hsep2 : Sep vp2 vr := hsep.moved (w := w1) (fun g e => by have := (hr.row.lt g e).2; omega) m2
            have e2 := (K2.cell (p := ⟨b1, o1 + i * 3 + 2, none⟩) hb1 (by simp)).trans E2
            clear p1 r1 k2 k1b
            go_wp2_with (fail)
            have szw2 := K2.size
            apply (rput_ r2 (by omega) (Hrp.out.keeps K2 (Nat.le_refl _) (by simp)) (by omega)).mono
            rintro e w3 ⟨rfl, vr3, r3, k3, m3⟩
            have rb3 := rb2.keep k3 (fun g hg hx => by
              have h0 := (hbw g hg).1
              rcases List.mem_cons.1 hx with rfl | hx
              · omega
              · have := (hr.row.lt g (by simpa using hx)).2; omega)
            have p3 := p2.keep k3 (fun hx => by
              rcases List.mem_cons.1 hx with hx | hx
              · omega
              · exact row_off_blk r2.row p2.blk (by decide) (by simpa using hx)) (fun g hg hx => by
              rcases List.mem_cons.1 hx with rfl | hx
              · exact row_off_blk p2.row r2.blk (by decide) hg
              · exact hsep2 g hg (by simpa using hx))
            have K3 : Keep [] w w3 := K2.step k3 (fun g hx => by
              rcases List.mem_cons.1 hx with rfl | hx
              · exact .inr (by omega)
              · exact .inr (hr.row.lt g (by simpa using hx)).1)
            have sz3 := k3.size
            have hsep3 : Sep vp2 vr3 := (hsep2.symm.moved (w := w2) (fun g e => (p2.row.lt g e).2) m3).symm
            have hnp : ∀ g, rowBlk vp2 = some g → rowBlk (.slice Ab (encB ps).length cb) ≠ some g := fun g e e' => by
              have h0 := hbw g e'
              rcases m2 g e with h | h
              · have := (hp.row.lt g h).2; omega
              · omega
            have hnr : ∀ g, rowBlk vr3 = some g → rowBlk (.slice Ab (encB ps).length cb) ≠ some g := fun g e e' => by
              have h0 := hbw g e'
              rcases m3 g e with h | h
              · have := (hr.row.lt g h).2; omega
              · omega
            obtain ⟨bs2, hbs2⟩ : ∃ b, b = (if en then bs else bs ++ ps) := ⟨_, rfl⟩
            have hbl2 : bs2.length ≤ (i + 1) * 1048576 := by
              rw [hbs2]
              split
              · exact step_le hbl
              · rw [List.length_append, hpl]; exact step_add hbl hpn
            rw [← hbs2] at p3 r3
            clear hbs2 r2 p2 k3 rb2 e2 hsep hsep2 m2 m3 hp hr K2 hrdb hrb
            have hBq : (encB ps).length = 0 ∨ ∃ g off, Ab = some ⟨g, off, none⟩ ∧ ∃ cs, Blk w3 g 5 cs ∧ off + (encB ps).length ≤ cs.size := by
              obtain ⟨A', cap', ev, g1, g2, g3⟩ := rb3
              injection ev with ev1 ev2 ev3
              subst ev1 ev3
              rcases g3 with ⟨_, h, _⟩ | ⟨g, off, cs, h, _, hbk, hcs, _⟩
              · exact .inl (by rw [h]; rfl)
              · exact .inr ⟨g, off, h, cs, hbk, by omega⟩
            clear rb3
            have fin : ∀ wq, (∀ g, Ab = some g → True) → Keep (rowBlk (.slice Ab (encB ps).length cb)).toList w3 wq → ∃ (bs' : List UInt8) (vp' vr' : Value) (en' td' : Bool), bs'.length ≤ (i + 1) * 1048576 ∧ Pp wq w.heap.size pb 51 vp' bs' en' td' ∧ Pp wq w.heap.size (pb + 1) 29 vr' bs' en' td' ∧ Sep vp' vr' ∧ Keep [] w wq := fun wq _ kq => by
              refine ⟨bs2, vp2, vr3, en, td, hbl2, p3.keep kq (fun hx => ?_) (fun g hg hx => hnp g hg (by simpa using hx)), r3.keep kq (fun hx => ?_) (fun g hg hx => hnr g hg (by simpa using hx)), hsep3, K3.step kq (fun g hx => .inr (by have := (hbw g (by simpa using hx)).1; omega))⟩
              · have := (hbw pb (by simpa using hx)).1; omega
              · have := (hbw (pb + 1) (by simpa using hx)).1; omega
            have FIN := Lib.hid fin
            clear fin p3 r3 hnp hnr hsep3
            rcases hBq with h0 | ⟨g, off, rfl, cs, hbk, hcs⟩
            · obtain rfl : np = 0 := by omega
              go_wp2
              go_loopw [8] (fun vk wq => vk = .int .i64 0 ∧ wq = w3) (fun _ _ => 0)
              case atStart => exact ⟨rfl, rfl⟩
              case round =>
                obtain ⟨rfl, rfl⟩ := hrel
                go_wp2
                go_meet
                case rel => exact FIN.out _ (fun _ _ => trivial) (Keep.refl _ _)
            · rw [Lb] at FIN hcs hbw hcb1
              have HL := Lib.hid Lb
              clear Lb
              go_wp2
              go_loopw [8] (fun vk wq => ∃ (q : Nat) (cs : Array Value), vk = .int .i64 q ∧ q ≤ np ∧ Blk wq g 5 cs ∧ off + np ≤ cs.size ∧ Keep [g] w3 wq) (fun vk _ => np - (intOf vk).toNat)
              case atStart => exact ⟨0, cs, rfl, by omega, hbk, hcs, Keep.refl _ _⟩
              case round =>
                obtain ⟨q, cs, rfl, hq, hbk, hcs, kq⟩ := hrel
                have hL9 := HL.out
                by_cases hqL : q < np
                · have z1 : (q : Int) < (np : Int) := by omega
                  have z0' : (0 : Int) ≤ (q : Int) := by omega
                  have cq := hbk.cell (off + q)
                  rw [Array.getElem?_eq_getElem (by omega)] at cq
                  have fq := hbk.frozen (off + q)
                  have bk2 := Lib.hid (hbk.set_ (off + q) (.int .u8 77))
                  have kq2 := Lib.hid (kq.setCell (p := ⟨g, off + q, none⟩) (.inl (by simp)) (.int .u8 77))
                  clear hbk kq
                  go_wp2
                  go_roundw
                  case rel => exact ⟨q + 1, _, by go_num, by omega, bk2.out, by simpa using hcs, kq2.out⟩
                  case measure => simp [intOf]; omega
                · have z1 : ¬ (q : Int) < (np : Int) := by omega
                  go_wp2
                  go_meet
                  case rel => exact FIN.out _ (fun _ _ => trivial) (by simpa [rowBlk] using kq)
          · have q0' : (k == 0) = false := by simp [q0]
            clear q0
            by_cases q1 : k = 1
            · have q1' : (k == 1) = true := by simp [q1]
              clear q1
              go_wp2_with (first
                | (go_at_call 16; apply (end_ hp).mono; rintro e w2 ⟨rfl, rfl⟩)
                | (go_at_call 17; apply (rend_ (hr.keep ((Keep.refl [pb] wr).setCell (p := ⟨pb, 1, none⟩) (.inl (by simp)) (.bool true)) (by simp) (fun g hg => by simp; rintro rfl; exact row_off_blk hr.row hp.blk (by decide) hg))).mono; rintro e w3 ⟨rfl, rfl⟩))
              go_meet
              case rel =>
                have ka : Keep [pb] wr (wr.setCell ⟨pb, 1, none⟩ (.bool true)) := (Keep.refl _ wr).setCell (p := ⟨pb, 1, none⟩) (.inl (by simp)) _
                have kb : Keep [pb + 1] (wr.setCell ⟨pb, 1, none⟩ (.bool true)) ((wr.setCell ⟨pb, 1, none⟩ (.bool true)).setCell ⟨pb + 1, 1, none⟩ (.bool true)) := (Keep.refl _ _).setCell (p := ⟨pb + 1, 1, none⟩) (.inl (by simp)) _
                have pa := hp.setEnds (by decide) true
                have ra := hr.keep ka (by simp) (fun g hg => by simp; rintro rfl; exact row_off_blk hr.row hp.blk (by decide) hg)
                exact ⟨bs, vp, vr, true, td, step_le hbl, pa.keep kb (by simp) (fun g hg => by simp; rintro rfl; exact row_off_blk pa.row ra.blk (by decide) hg), ra.setEnds (by decide) true, hsep, (kr.step ka (by simp; omega)).step kb (by simp; omega)⟩
            · have q1' : (k == 1) = false := by simp [q1]
              clear q1
              by_cases q2 : k = 2
              · have q2' : (k == 2) = true := by simp [q2]
                clear q2
                go_wp2_with (first
                  | (go_at_call 18; apply (cut_all hp).mono; rintro e w2 ⟨rfl, rfl⟩; have ka : Keep [pb] wr ((wr.setCell ⟨pb, 1, none⟩ (.bool true)).setCell ⟨pb, 0, none⟩ (.slice none 0 0)) := ((Keep.refl _ wr).setCell (p := ⟨pb, 1, none⟩) (.inl (by simp)) _).setCell (p := ⟨pb, 0, none⟩) (.inl (by simp)) _; have pa := hp.setNil; have ra := hr.keep ka (by simp) (fun g hg => by simp; rintro rfl; exact row_off_blk hr.row hp.blk (by decide) hg); obtain ⟨Wa, hWa⟩ : ∃ Wa, Wa = (wr.setCell ⟨pb, 1, none⟩ (.bool true)).setCell ⟨pb, 0, none⟩ (.slice none 0 0) := ⟨_, rfl⟩; rw [← hWa] at ka pa ra; rw [← hWa]; clear hWa)
                  | (go_at_call 19; apply (rcut_all ra).mono; rintro e w3 ⟨rfl, rfl⟩))
                go_meet
                case rel =>
                  have kb : Keep [pb + 1] Wa ((Wa.setCell ⟨pb + 1, 1, none⟩ (.bool true)).setCell ⟨pb + 1, 0, none⟩ (.slice none 0 0)) := ((Keep.refl _ Wa).setCell (p := ⟨pb + 1, 1, none⟩) (.inl (by simp)) _).setCell (p := ⟨pb + 1, 0, none⟩) (.inl (by simp)) _
                  exact ⟨[], _, _, true, td, by simp, pa.keep kb (by simp) (by simp [rowBlk]), ra.setNil, fun g h => (by cases h), (kr.step ka (by simp; omega)).step kb (by simp; omega)⟩
              · have q2' : (k == 2) = false := by simp [q2]
                clear q2
                have e1 := (kr.cell (p := ⟨b1, o1 + i * 3 + 1, none⟩) hb1 (by simp)).trans E1.out
                by_cases hx1 : x < 1
                · have kc := fun (w : World) => str_of (P := Try.prog) (w := w) (B := 0) (n := 0) (c := 0) (A := none) (bs := []) (src := 22) (dst := 9) Try.underlying22 Try.underlying5 Try.underlying9 reads_nil
                  go_wp2_with (first
                    | (go_at_call 15; refine (take_no x hx1).mono ?_; rintro e w2 ⟨rfl, rfl⟩)
                    | (go_at_call 20; refine (rtake_no x hx1).mono ?_; rintro e w3 ⟨rfl, rfl⟩))
                  go_meet
                  case rel => exact ⟨bs, vp, vr, en, td, step_le hbl, hp, hr, hsep, kr⟩
                · obtain ⟨xn, rfl⟩ : ∃ xn : Nat, x = xn := ⟨x.toNat, by omega⟩
                  obtain ⟨kk, hkk⟩ : ∃ kk, kk = min xn bs.length := ⟨_, rfl⟩
                  have htp := Lib.hid (take_ hp (by omega) xn kk (by omega) hkk)
                  have HKK := Lib.hid hkk
                  obtain ⟨T, hT⟩ : ∃ T, T = bs.take kk := ⟨_, rfl⟩
                  obtain ⟨D, hD⟩ : ∃ D, D = bs.drop kk := ⟨_, rfl⟩
                  have hDl : D.length ≤ bs.length := by rw [hD]; simp
                  rw [← hT, ← hD] at htp
                  have HT := Lib.hid hT
                  have HD := Lib.hid hD
                  obtain ⟨ov, hov⟩ : ∃ ov, ov = (overB D en && !td) := ⟨_, rfl⟩
                  rw [← hov] at htp
                  have HOV := Lib.hid hov
                  clear hT hD hov hkk
                  go_wp2_with (go_at_call 15; apply htp.out.mono; rintro e w2 ⟨rp, vp2, rfl, hrp2, p2, k2, m2⟩; have e1 := (k2.cell (p := ⟨b1, o1 + i * 3 + 1, none⟩) (by simp; omega) (by simp; omega)).trans e1; obtain ⟨Aq, cq, rfl, _⟩ := hrp2.reads)
                  have r2 := hr.keep k2 (by simp) (fun g hg => by simp; rintro rfl; exact row_off_blk hr.row hp.blk (by decide) hg)
                  have sz2 := k2.size
                  have htr := rtake_ r2 (by omega) (by omega) xn kk (by omega) HKK.out
                  rw [← HT.out, ← HD.out, ← HOV.out] at htr
                  apply htr.mono
                  rintro e w3 ⟨rr, vr3, rfl, hrr3, r3, k3, m3⟩
                  have K3 : Keep [] w w3 := (kr.step k2 (by simp; omega)).step k3 (by simp; omega)
                  have p3 := p2.keep k3 (by simp) (fun g hg => by simp; rintro rfl; exact row_off_blk p2.row r2.blk (by decide) hg)
                  have hrp3 := hrp2.keep k3 (fun g hg => by simp; rintro rfl; exact row_off_blk hrp2 r2.blk (by decide) hg)
                  have hsep2 : Sep vp2 vr := hsep.moved (w := wr) (fun g e => (hr.row.lt g e).2) m2
                  have hsep3 : Sep vp2 vr3 := (hsep2.symm.moved (w := w2) (fun g e => (p2.row.lt g e).2) m3).symm
                  obtain ⟨X1, Y1, ex, _, _, hX⟩ := hrp3.reads
                  injection ex with x1 x2 x3
                  subst x1 x3
                  obtain ⟨Ar, cr, rfl, _, _, hY⟩ := hrr3.reads
                  have st1 := str_of (c := cq) (src := 22) (dst := 9) Try.underlying22 Try.underlying5 Try.underlying9 hX
                  have st2 := str_of (c := cr) (src := 22) (dst := 9) Try.underlying22 Try.underlying5 Try.underlying9 hY
                  have FIN := Lib.hid (show ∃ (bs' : List UInt8) (vp' vr' : Value) (en' td' : Bool), bs'.length ≤ (i + 1) * 1048576 ∧ Pp w3 w.heap.size pb 51 vp' bs' en' td' ∧ Pp w3 w.heap.size (pb + 1) 29 vr' bs' en' td' ∧ Sep vp' vr' ∧ Keep [] w w3 from ⟨D, vp2, vr3, en, _, Nat.le_trans hDl (step_le hbl), p3, r3, hsep3, K3⟩)
                  clear htr p3 r3 hsep3 hsep2 hrp3 hrr3 hX hY hrp2 r2 p2 k2 k3 m2 m3 hp hr hsep e1 htp K3 hDl
                  cases ov <;> (go_wp2_with (fail); go_meet; case rel => exact FIN.out)
        case rest =>
          obtain ⟨bs', vp', vr', en', td', hl', hp', hr', hs', kr'⟩ := hcut
          clear hp hr hsep kr E1 E2 Hrp e0 hbl
          have pD := Lib.hid (hp'.keep ((Keep.refl [] wc).drew) (by simp) (by simp))
          have rD := Lib.hid (hr'.keep ((Keep.refl [] wc).drew) (by simp) (by simp))
          have KD := Lib.hid kr'.drew
          obtain ⟨Ar, cr, rfl, _, _, _⟩ := hr'.slice
          have rc := hr'.blk.cell 0
          simp at rc
          have HS := Lib.hid hs'
          clear hp' hr' kr' hs'
          go_wp2
          refine wpIn_wide.1 (region_rtg (n := 0) [(1, true), (7, true), (8, true), (10, true), (12, true), (13, false), (14, false)] [(8, false)]
            [(0, .pointer (some ⟨pb, 0, none⟩)), (2, .pointer (some ⟨pb + 1, 0, none⟩)), (3, .pointer (some ⟨pb + 1, 0, none⟩)), (4, .pointer (some ⟨pb + 1, 0, none⟩)), (5, .slice Ar bs'.length cr), (6, .int .i64 bs'.length), (9, .pointer (some ⟨pb, 0, none⟩)), (11, .pointer (some ⟨pb + 1, 0, none⟩))]
            (fun W => W = wc.drew) (by kernel_rfl) (by kernel_rfl) rfl ?_ ?_)
          · (simp only [evOk, putAll, List.getElem?_toArray, List.getElem?_cons_zero, List.getElem?_cons_succ, Option.bind_some, Act.put, List.setIfInBounds_toArray, List.set_cons_zero, List.set_cons_succ]; repeat' apply And.intro) <;> first | exact trivial | (rintro W rfl; simp [go_sem, rc]; done)
          · simp only [putAll, List.getElem?_toArray, List.getElem?_cons_zero, List.getElem?_cons_succ, Option.bind_some, Act.put, List.setIfInBounds_toArray, List.set_cons_zero, List.set_cons_succ]
            refine tail_wanted rfl rfl ?_
            simp [go_sem]
            refine ⟨trivial, rfl, (callsIn_wide.2 (len_ pD.out)).mono ?_⟩
            rintro e w9 ⟨rfl, rfl⟩
            refine ⟨⟨rfl, gHolds_none rfl⟩, ?_⟩
            refine tail_wanted rfl rfl ?_
            simp [go_sem]
            refine ⟨gHolds_none rfl, ?_⟩
            refine tail_wanted rfl rfl ?_
            simp [go_sem]
            refine ⟨fun b hb => by obtain rfl := Option.some.inj hb; rfl, ?_⟩
            refine tail_wanted rfl rfl ?_
            simp [go_sem]
            refine ⟨trivial, rfl, (callsIn_wide.2 (over_ pD.out)).mono ?_⟩
            rintro e w9 ⟨rfl, rfl⟩
            refine ⟨⟨rfl, gHolds_none rfl⟩, ?_⟩
            refine tail_wanted rfl rfl ?_
            simp [go_sem]
            refine ⟨trivial, rfl, (callsIn_wide.2 (rover_ rD.out)).mono ?_⟩
            rintro e w9 ⟨rfl, rfl⟩
            refine ⟨⟨rfl, gHolds_none rfl⟩, ?_⟩
            obtain ⟨ov, hov⟩ : ∃ ov, ov = overB bs' en' := ⟨_, rfl⟩
            rw [← hov]
            clear hov
            cases ov
            all_goals
              refine tail_wanted rfl rfl ?_
              simp [go_sem]
              refine ⟨gHolds_none rfl, ?_⟩
              refine tail_wanted rfl rfl ?_
              simp [go_sem]
              refine ⟨gHolds_none rfl, ?_⟩
              unfold wpTailG
              go_at_K
              go_wp2
              go_roundw
              case rel => exact ⟨i + 1, bs', vp', _, en', td', by go_num, by omega, by omega, hl', pD.out, rD.out, HS.out, KD.out⟩
              case measure => simp [intOf]; omega
      · have k60 : ¬ (i : Int) < 60 := by omega
        go_wp2
        go_ret
        exact ⟨rfl, kr.below (Nat.le_refl _) (by simp)⟩
    · have k1 : ¬ (i : Int) < (n : Int) := by omega
      go_wp2
      go_ret
      exact ⟨rfl, kr.below (Nat.le_refl _) (by simp)⟩
end Go.Proofs.Ytinokgmmdmkbcaa
