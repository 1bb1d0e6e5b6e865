/- block: the reference's Cut. -/
import Derived.Test.YtenegjflapppdaaRCa
import Derived.Deep.DeepCutAuto
set_option linter.all false
namespace Go.Proofs.Ytenegjflapppdaa
open Go.ChangeShapes Go.WideShapes Go.ChangeAt Go.RowKit
attribute [local go_sem] setCell_drewN alloc_drewN
theorem rcut_bad (w : World) (id : Int) (en : Bool) (v : Value) (most : Int) (hid : id < 1 ∨ 2147483647 < id) : Calls Try.prog 18 #[.int .i64 id, .bool en, v, .int .i64 most] w fun e w' => e = .returned (.slice none 0 0) ∧ w = w' := by
  by_cases h1 : id < 1
  · go_enter Try.func18, Try.ntmps18
    go_wp2
    go_ret
    exact ⟨rfl, rfl⟩
  · have h2 : 2147483647 < id := by omega
    clear hid
    go_enter Try.func18, Try.ntmps18
    go_wp2
    go_ret
    exact ⟨rfl, rfl⟩
def lenV : Value → Nat
  | .slice _ n _ => n
  | _ => 0
def oneIf : Value → Nat
  | .bool true => 1
  | _ => 0
set_option maxRecDepth 100000 in
set_option maxHeartbeats 4000000 in
theorem rcut_ (w : World) (id : Int) (en : Bool) {A : Option Addr} {n c : Nat} {bs : List UInt8} (hr : Reads w w.heap.size 1 A n (encB bs)) (hbl : bs.length = n) (hnc : n ≤ c) (hn : n ≤ 100000) (most : Int) (mo : Nat) (hmo : (mo : Int) = max most 1) (hid : 1 ≤ id ∧ id ≤ 2147483647) : Calls Try.prog 18 #[.int .i64 id, .bool en, .slice A n c, .int .i64 most] w fun e w' =>
    ∃ Al cl xs, e = .returned (.slice Al xs.length cl) ∧ w'.ownsRow w.heap.size 46 4 (.slice Al xs.length cl) xs.length (encG xs) ∧ RList w' w.heap.size id en mo bs xs ∧ 1 ≤ xs.length ∧ n ≤ xs.length * mo ∧ (xs.length = 1 ∨ (xs.length - 1) * mo < n) ∧ Keep [] w w' := by
  have q1 : ¬ id < 1 := by omega
  have q2 : ¬ 2147483647 < id := by omega
  have hmo1 : 1 ≤ mo := by omega
  have HR := Lib.hid hr
  have HBL := Lib.hid hbl
  have HMO := Lib.hid hmo
  clear hr hbl hmo
  go_enter Try.func18, Try.ntmps18
  go_upto_if 20 with (fail)
  go_cut [3] (fun v3 wx => v3 = .int .i64 mo ∧ wx = w)
  case first =>
    by_cases h1 : most < 1
    · go_wp2_with (fail)
      go_meet
      case rel => exact ⟨by rw [HMO.out]; congr 1; omega, rfl⟩
    · go_wp2_with (fail)
      go_meet
      case rel => exact ⟨by rw [HMO.out]; congr 1; omega, rfl⟩
  case rest =>
    obtain ⟨rfl, hww⟩ := hcut
    have hww := hww.symm
    subst hww
    go_wp2_with (fail)
    go_loopw [2, 9, 10] (fun v2 v9 v10 wr => ∃ (j : Nat) (Ar Al : Option Addr) (cr cl : Nat) (xs : List Gf), v2 = .slice Ar (n - j * mo) cr ∧ v9 = .slice Al j cl ∧ v10 = .bool (decide (j = 0)) ∧ xs.length = j ∧ (j ≤ 1 ∨ (j - 1) * mo < n) ∧ n - j * mo ≤ cr ∧ Reads wr w.heap.size 1 Ar (n - j * mo) (encB (bs.drop (j * mo))) ∧ wr.ownsRow w.heap.size 46 4 (.slice Al j cl) j (encG xs) ∧ RList wr w.heap.size id en mo bs xs ∧ Keep [] w wr) (fun v2 _ v10 _ => lenV v2 + oneIf v10)
    case atStart => exact ⟨0, A, none, c, 0, [], by simp, rfl, rfl, rfl, .inl (by omega), by omega, by simpa using HR.out, World.ownsRow_nil _ _ _ _, ⟨fun i x h => by simp at h⟩, Keep.refl _ _⟩
    case round =>
      obtain ⟨j, Ar, Al, cr, cl, xs, rfl, rfl, rfl, hxl, hjm, hcr, hrd, ho, hRL, hkw⟩ := hrel
      obtain ⟨o, hoj⟩ : ∃ o, o = j * mo := ⟨_, rfl⟩
      rw [← hoj] at hcr hrd ⊢
      obtain ⟨L, hL⟩ : ∃ L, L = n - o := ⟨_, rfl⟩
      rw [← hL] at hcr hrd ⊢
      have HXL := Lib.hid hxl
      have HJM := Lib.hid hjm
      have HOJ := Lib.hid hoj
      have HL := Lib.hid hL
      have HRD := Lib.hid hrd
      have HO := Lib.hid ho
      have HRL := Lib.hid hRL
      have HKW := Lib.hid hkw
      have hLn : L ≤ 100000 := by omega
      clear hxl hjm hoj hL hrd ho hRL hkw
      obtain ⟨b, hb⟩ : ∃ b, b = decide (j = 0) := ⟨_, rfl⟩
      have HB := Lib.hid hb
      rw [← hb]
      clear hb
      by_cases hcont : b = true ∨ 0 < L
      · have hc0 : (b || decide ((0 : Int) < (L : Int))) = true := by
          rcases hcont with h | h
          · rw [h]; rfl
          · rw [show decide ((0 : Int) < (L : Int)) = true by rw [decide_eq_true_iff]; omega]; simp
        clear hc0
        cases b with
        | true =>
          go_upto_if 29 with (fail)
          go_cut [] from 21 to 57 (fun wx => Blk wx wr.heap.size 46 #[.int .i64 1, .int .i64 (if en then 1 else 0), .int .i64 id, .slice none 0 0] ∧ Keep [] wr wx)
          case first =>
            cases en with
            | true =>
              go_wp2_with (fail)
              go_meet
              case rel => exact ⟨Blk.new wr _ _, (Keep.refl _ _).alloc _⟩
            | false =>
              go_wp2_with (fail)
              go_meet
              case rel => exact ⟨Blk.new wr _ _, (Keep.refl _ _).alloc _⟩
          case rest =>
            obtain ⟨hBF, hKF⟩ := hcut
            obtain ⟨fl, hfl⟩ : ∃ fl : Int, fl = (if en then 1 else 0) := ⟨_, rfl⟩
            rw [← hfl] at hBF
            obtain ⟨ty, hty⟩ : ∃ ty : Int, ty = 1 := ⟨_, rfl⟩
            rw [← hty] at hBF
            obtain ⟨fb, hfb⟩ : ∃ fb, fb = wr.heap.size := ⟨_, rfl⟩
            rw [← hfb] at hBF ⊢
            have hT : Hid (ty = typF j ∧ ∀ la : Bool, (if la then fl + 4 else fl) = flgF j en la ∧ 0 ≤ fl ∧ fl ≤ 1) := Lib.hid (by
              have hj : j = 0 := by have := HB.out; simpa using this.symm
              subst hj
              subst hty hfl
              refine ⟨rfl, fun la => ?_⟩
              cases en <;> cases la <;> decide)
            have HBF := Lib.hid hBF
            have HKF := Lib.hid hKF
            have HFB := Lib.hid hfb
            clear hty hfl hfb hBF hKF
            go_upto_if 37 with (fail)
            have kw : Keep [] w wc := HKW.out.trans HKF.out
            have hrd2 := HRD.out.keeps HKF.out (by have := HKW.out.size; omega) (by simp)
            have HRD2 := Lib.hid hrd2
            have HKW2 := Lib.hid kw
            obtain ⟨i0, z0, hi, hz, hz0, hz1, hz2⟩ := u8_info
            obtain ⟨j0, y0, gi, gz, gz0, gz1, gz2⟩ := fr_info
            clear hrd2 kw
            by_cases hbig : mo < L
            · have r1 : (mo : Int) ≤ (cr : Int) := by omega
              have r2 : (mo : Int) ≤ (L : Int) := by omega
              have r3 : (0 : Int) ≤ (mo : Int) := by omega
              have hrk := HRD2.out.first (m := mo) (by omega)
              rw [Nat.mul_one, ← encB_take] at hrk
              have hsuf := reads_suf HRD.out mo (by omega) hcr
              rw [List.drop_drop] at hsuf
              obtain ⟨Ac, hAc⟩ : ∃ Ac, (if cr = mo then Ar else Ar.map (·.add mo)) = Ac := ⟨_, rfl⟩
              rw [hAc] at hsuf
              have HAC := Lib.hid hAc
              have HSUF := Lib.hid hsuf
              have HRK := Lib.hid hrk
              have d3 := HBF.out.cell 3
              have g3 := HBF.out.frozen 3
              simp at d3
              have HBIG := Lib.hid hbig
              have HCR := Lib.hid hcr
              have HKL : Hid (mo ≤ L ∧ L ≤ 100000) := Lib.hid (by omega)
              have r0 : (mo : Int) < (L : Int) := by omega
              clear hAc hsuf hrk hbig
              go_upto_region 18 with (at_builtin; apply wpList_append_any _ rfl _ _ _ rfl w.heap.size 5 i0 z0 1 1 Try.underlying27 hi hz hz0 hz1 hz2 (by omega) (.slice none 0 0) 0 [] rfl (World.ownsRow_nil _ _ _ _) _ Ar mo _ (encB ((bs.drop o).take mo)) rfl HRK.out encB_one (by have := HKL.out; unfold maxLen; omega) (by have := HKL.out; omega) HKW2.out.size; intro v7 w7 ho7 hg7 hm7; have k7 := Keep.of_grown hg7; have hrow7 := Row1.of_own ho7; obtain ⟨A7, c7, rfl, _⟩ := hrow7.reads; have BF7 := HBF.out.keep k7 (by simp [Value.ownBlock]); have d3 := BF7.cell 3; have g3 := BF7.frozen 3; simp at d3)
              obtain ⟨pl, hpl⟩ : ∃ pl, pl = (bs.drop o).take mo := ⟨_, rfl⟩
              have hplen : pl.length = mo := by rw [hpl, List.length_take, List.length_drop]; have h1 := HBL.out; have h2 := HL.out; have h3 := HKL.out; omega
              have HPL := Lib.hid hpl
              have HPN := Lib.hid hplen
              rw [← hpl] at hrow7 ⊢
              rw [List.nil_append, encB_len] at hrow7; rw [encB_len]
              clear hpl hplen
              have kS : Keep [fb] w7 (w7.setCell ⟨fb, 3, none⟩ (.slice A7 pl.length c7)) := (Keep.refl _ _).setCell (p := ⟨fb, 3, none⟩) (.inl (by simp)) _
              have k7' : Keep [] wc w7 := k7.more (by simp [Value.ownBlock])
              have BF8 := BF7.set_ 3 (.slice A7 pl.length c7)
              simp at BF8
              have row8 := hrow7.keep kS (fun g hg => by simp; exact fun e => row_off_blk hrow7 BF7 (by decide) (e ▸ hg))
              have k8 : Keep [] wr (w7.setCell ⟨fb, 3, none⟩ (.slice A7 pl.length c7)) := (HKF.out.trans k7').step kS (by have := HFB.out; simp; omega)
              obtain ⟨W8, hW8⟩ : ∃ W8, W8 = w7.setCell ⟨fb, 3, none⟩ (.slice A7 pl.length c7) := ⟨_, rfl⟩
              rw [← hW8] at BF8 row8 k8 ⊢
              have HBF8 := Lib.hid BF8
              have HROW8 := Lib.hid row8
              have HK8 := Lib.hid k8
              clear hW8 kS k7' BF8 row8 k8 BF7 hrow7 d3 g3 ho7 hg7 hm7 k7
              have h0 := HBF8.out.cell 0
              have h1 := HBF8.out.cell 1
              have h2 := HBF8.out.cell 2
              have h3 := HBF8.out.cell 3
              have f1 := HBF8.out.frozen 1
              simp at h0 h1 h2 h3
              go_upto_region 19 with (fail)
              have hAc2 : Ar.map (fun x => x.add mo) = Ac := by have h1 := HAC.out; rw [if_neg (by have := HCR.out; have := HBIG.out; omega)] at h1; exact h1
              rw [hAc2]
              clear hAc2
              have q0 : (((L - mo : Nat) : Int) == 0) = false := by have := HBIG.out; rw [beq_eq_false_iff_ne]; omega
              have ew : wrap64 (fl + 4) = fl + 4 := by have := (hT.out.2 true).2; unfold wrap64; omega
              have kS : Keep [fb] W8 W8 := (Keep.refl [] W8).more (by simp)
              have kwS : Keep [] wr W8 := HK8.out.step kS (by have := HFB.out; simp; omega)
              have KS := Lib.hid kS
              have KWS := Lib.hid kwS
              have hjb : j ≤ 100000 := by
                rcases HJM.out with h | h
                · omega
                · have h2 : j - 1 ≤ (j - 1) * mo := Nat.le_mul_of_pos_right _ (by omega)
                  omega
              have HX : Hid (ty = typF j ∧ fl = flgF j en (decide (bs.length ≤ (j + 1) * mo)) ∧ id = id ∧ pl = (bs.drop o).take mo) := Lib.hid (by
                have e1 : (j + 1) * mo = o + mo := by rw [HOJ.out, Nat.succ_mul]
                have h1 := HL.out
                have h2 := HBL.out
                have h3 := HBIG.out
                have e2 : decide (bs.length ≤ (j + 1) * mo) = false := by rw [e1]; simp; omega
                rw [e2]
                have h4 := (hT.out.2 false).1
                refine ⟨hT.out.1, by simpa using h4, rfl, ?_⟩
                rw [HPL.out])
              clear kS kwS
              have rn : Reads (W8.alloc (.cells #[.int .i64 ty, .int .i64 fl, .int .i64 id, .slice A7 pl.length c7] 46)) (W8.heap.size + 1) 4 (some ⟨W8.heap.size, 0, none⟩) 1 (encG [⟨ty, fl, id, A7, c7, pl⟩]) := by
                have h := reads_new W8 #[.int .i64 ty, .int .i64 fl, .int .i64 id, .slice A7 pl.length c7] 46 (0, 0) 4 1 rfl
                skip
                exact h
              have RN := Lib.hid rn
              clear rn
              go_wp2_with (at_builtin; apply wpList_append_any _ rfl _ _ _ rfl w.heap.size 46 j0 y0 4 48 Try.underlying40 gi gz gz0 gz1 gz2 (by omega) (.slice Al j cl) j (encG xs) rfl (own_keep HO.out (KWS.out.alloc _) (by simp)) _ _ 1 1 (encG [⟨ty, fl, id, A7, c7, pl⟩]) rfl RN.out (encG_one _) (by unfold maxLen; omega) (by omega) (by have h1 := HK8.out.size; have h2 := HKW.out.size; simp; omega); intro v9 w9 ho9 hg9 hm9; obtain ⟨Al', cl', rfl, ho10, hRL10, hkw10, hsuf10⟩ := rcut_step (x := ⟨ty, fl, id, A7, c7, pl⟩) HXL.out HOJ.out HO.out HRL.out HKW.out HK8.out HROW8.out KS.out HBF8.out (by have := HFB.out; omega) ho9 ((((Keep.refl [] _).alloc _).more (by simp)).trans (Keep.of_grown hg9)) HX.out HSUF.out; have HF := Lib.hid (And.intro ho10 (And.intro hRL10 (And.intro hkw10 hsuf10))); clear ho10 hRL10 hkw10 hsuf10 ho9 hg9 hm9)
              have e1 : (j + 1) * mo = o + mo := by rw [HOJ.out, Nat.succ_mul]
              have h1 := HL.out
              have h2 := HBL.out
              have h3 := HBIG.out
              have h4 := HCR.out
              have e3 : n - (j + 1) * mo = L - mo := by rw [e1]; omega
              have hs := HF.out.2.2.2
              skip
              go_roundw
              case rel =>
                refine ⟨j + 1, Ac, Al', cr - mo, cl', xs ++ [⟨ty, fl, id, A7, c7, pl⟩], by rw [e3], rfl, by simp, by simp [HXL.out], (by first | exact .inr (by rw [Nat.add_sub_cancel, ← HOJ.out]; omega) | exact .inl (by have := HB.out; simp at this; omega)), by rw [e3]; omega, ?_, HF.out.1, HF.out.2.1, HF.out.2.2.1⟩
                rw [e3, e1]
                exact hs
              case measure => simp [lenV, oneIf] <;> omega
            · have r1 : (L : Int) ≤ (cr : Int) := by omega
              have r2 : (L : Int) ≤ (L : Int) := by omega
              have r3 : (0 : Int) ≤ (L : Int) := by omega
              have hrk := HRD2.out.first (m := L) (by omega)
              rw [Nat.mul_one, ← encB_take] at hrk
              have hsuf := reads_suf HRD.out L (by omega) hcr
              rw [List.drop_drop] at hsuf
              obtain ⟨Ac, hAc⟩ : ∃ Ac, (if cr = L then Ar else Ar.map (·.add L)) = Ac := ⟨_, rfl⟩
              rw [hAc] at hsuf
              have HAC := Lib.hid hAc
              have HSUF := Lib.hid hsuf
              have HRK := Lib.hid hrk
              have d3 := HBF.out.cell 3
              have g3 := HBF.out.frozen 3
              simp at d3
              have HBIG := Lib.hid hbig
              have HCR := Lib.hid hcr
              have HKL : Hid (L ≤ L ∧ L ≤ 100000) := Lib.hid (by omega)
              have r0 : ¬ (mo : Int) < (L : Int) := by omega
              clear hAc hsuf hrk hbig
              go_upto_region 18 with (at_builtin; apply wpList_append_any _ rfl _ _ _ rfl w.heap.size 5 i0 z0 1 1 Try.underlying27 hi hz hz0 hz1 hz2 (by omega) (.slice none 0 0) 0 [] rfl (World.ownsRow_nil _ _ _ _) _ Ar L _ (encB ((bs.drop o).take L)) rfl HRK.out encB_one (by have := HKL.out; unfold maxLen; omega) (by have := HKL.out; omega) HKW2.out.size; intro v7 w7 ho7 hg7 hm7; have k7 := Keep.of_grown hg7; have hrow7 := Row1.of_own ho7; obtain ⟨A7, c7, rfl, _⟩ := hrow7.reads; have BF7 := HBF.out.keep k7 (by simp [Value.ownBlock]); have d3 := BF7.cell 3; have g3 := BF7.frozen 3; simp at d3)
              obtain ⟨pl, hpl⟩ : ∃ pl, pl = (bs.drop o).take L := ⟨_, rfl⟩
              have hplen : pl.length = L := by rw [hpl, List.length_take, List.length_drop]; have h1 := HBL.out; have h2 := HL.out; have h3 := HKL.out; omega
              have HPL := Lib.hid hpl
              have HPN := Lib.hid hplen
              rw [← hpl] at hrow7 ⊢
              rw [List.nil_append, encB_len] at hrow7; rw [encB_len]
              clear hpl hplen
              have kS : Keep [fb] w7 (w7.setCell ⟨fb, 3, none⟩ (.slice A7 pl.length c7)) := (Keep.refl _ _).setCell (p := ⟨fb, 3, none⟩) (.inl (by simp)) _
              have k7' : Keep [] wc w7 := k7.more (by simp [Value.ownBlock])
              have BF8 := BF7.set_ 3 (.slice A7 pl.length c7)
              simp at BF8
              have row8 := hrow7.keep kS (fun g hg => by simp; exact fun e => row_off_blk hrow7 BF7 (by decide) (e ▸ hg))
              have k8 : Keep [] wr (w7.setCell ⟨fb, 3, none⟩ (.slice A7 pl.length c7)) := (HKF.out.trans k7').step kS (by have := HFB.out; simp; omega)
              obtain ⟨W8, hW8⟩ : ∃ W8, W8 = w7.setCell ⟨fb, 3, none⟩ (.slice A7 pl.length c7) := ⟨_, rfl⟩
              rw [← hW8] at BF8 row8 k8 ⊢
              have HBF8 := Lib.hid BF8
              have HROW8 := Lib.hid row8
              have HK8 := Lib.hid k8
              clear hW8 kS k7' BF8 row8 k8 BF7 hrow7 d3 g3 ho7 hg7 hm7 k7
              have h0 := HBF8.out.cell 0
              have h1 := HBF8.out.cell 1
              have h2 := HBF8.out.cell 2
              have h3 := HBF8.out.cell 3
              have f1 := HBF8.out.frozen 1
              simp at h0 h1 h2 h3
              go_upto_region 19 with (fail)
              rw [HAC.out]
              have q0 : (((L - L : Nat) : Int) == 0) = true := by have := HBIG.out; rw [beq_iff_eq]; omega
              have ew : wrap64 (fl + 4) = fl + 4 := by have := (hT.out.2 true).2; unfold wrap64; omega
              have kS : Keep [fb] W8 (W8.setCell ⟨fb, 1, none⟩ (.int .i64 (fl + 4))) := (Keep.refl _ _).setCell (p := ⟨fb, 1, none⟩) (.inl (by simp)) _
              have kwS : Keep [] wr (W8.setCell ⟨fb, 1, none⟩ (.int .i64 (fl + 4))) := HK8.out.step kS (by have := HFB.out; simp; omega)
              have KS := Lib.hid kS
              have KWS := Lib.hid kwS
              have hjb : j ≤ 100000 := by
                rcases HJM.out with h | h
                · omega
                · have h2 : j - 1 ≤ (j - 1) * mo := Nat.le_mul_of_pos_right _ (by omega)
                  omega
              have HX : Hid (ty = typF j ∧ (fl + 4) = flgF j en (decide (bs.length ≤ (j + 1) * mo)) ∧ id = id ∧ pl = (bs.drop o).take mo) := Lib.hid (by
                have e1 : (j + 1) * mo = o + mo := by rw [HOJ.out, Nat.succ_mul]
                have h1 := HL.out
                have h2 := HBL.out
                have h3 := HBIG.out
                have e2 : decide (bs.length ≤ (j + 1) * mo) = true := by rw [e1]; simp; omega
                rw [e2]
                have h4 := (hT.out.2 true).1
                refine ⟨hT.out.1, by simpa using h4, rfl, ?_⟩
                rw [HPL.out]
                rw [List.take_of_length_le (by rw [List.length_drop]; omega), List.take_of_length_le (by rw [List.length_drop]; omega)])
              clear kS kwS
              have rn : Reads ((W8.setCell ⟨fb, 1, none⟩ (.int .i64 (fl + 4))).alloc (.cells #[.int .i64 ty, .int .i64 (fl + 4), .int .i64 id, .slice A7 pl.length c7] 46)) (W8.heap.size + 1) 4 (some ⟨W8.heap.size, 0, none⟩) 1 (encG [⟨ty, (fl + 4), id, A7, c7, pl⟩]) := by
                have h := reads_new (W8.setCell ⟨fb, 1, none⟩ (.int .i64 (fl + 4))) #[.int .i64 ty, .int .i64 (fl + 4), .int .i64 id, .slice A7 pl.length c7] 46 (0, 0) 4 1 rfl
                rw [show (W8.setCell ⟨fb, 1, none⟩ (.int .i64 (fl + 4))).heap.size = W8.heap.size by simp] at h
                exact h
              have RN := Lib.hid rn
              clear rn
              go_wp2_with (at_builtin; apply wpList_append_any _ rfl _ _ _ rfl w.heap.size 46 j0 y0 4 48 Try.underlying40 gi gz gz0 gz1 gz2 (by omega) (.slice Al j cl) j (encG xs) rfl (own_keep HO.out (KWS.out.alloc _) (by simp)) _ _ 1 1 (encG [⟨ty, (fl + 4), id, A7, c7, pl⟩]) rfl RN.out (encG_one _) (by unfold maxLen; omega) (by omega) (by have h1 := HK8.out.size; have h2 := HKW.out.size; simp; omega); intro v9 w9 ho9 hg9 hm9; obtain ⟨Al', cl', rfl, ho10, hRL10, hkw10, hsuf10⟩ := rcut_step (x := ⟨ty, (fl + 4), id, A7, c7, pl⟩) HXL.out HOJ.out HO.out HRL.out HKW.out HK8.out HROW8.out KS.out HBF8.out (by have := HFB.out; omega) ho9 ((((Keep.refl [] _).alloc _).more (by simp)).trans (Keep.of_grown hg9)) HX.out HSUF.out; have HF := Lib.hid (And.intro ho10 (And.intro hRL10 (And.intro hkw10 hsuf10))); clear ho10 hRL10 hkw10 hsuf10 ho9 hg9 hm9)
              have e1 : (j + 1) * mo = o + mo := by rw [HOJ.out, Nat.succ_mul]
              have h1 := HL.out
              have h2 := HBL.out
              have h3 := HBIG.out
              have h4 := HCR.out
              have e3 : n - (j + 1) * mo = 0 := by rw [e1]; omega
              have hs := HF.out.2.2.2
              have d1 : bs.drop (o + L) = bs.drop (o + mo) := by rw [List.drop_eq_nil_of_le (show bs.length ≤ o + L by omega), List.drop_eq_nil_of_le (show bs.length ≤ o + mo by omega)]
              rw [Nat.sub_self, d1] at hs
              go_roundw
              case rel =>
                refine ⟨j + 1, Ac, Al', cr - L, cl', xs ++ [⟨ty, (fl + 4), id, A7, c7, pl⟩], by rw [e3], rfl, by simp, by simp [HXL.out], (by first | exact .inr (by rw [Nat.add_sub_cancel, ← HOJ.out]; omega) | exact .inl (by have := HB.out; simp at this; omega)), by rw [e3]; omega, ?_, HF.out.1, HF.out.2.1, HF.out.2.2.1⟩
                rw [e3, e1]
                exact hs
              case measure => simp [lenV, oneIf] <;> omega
        | false =>
          have hL0 : (0 : Int) < (L : Int) := by have := hcont.resolve_left (by decide); omega
          go_upto_if 29 with (fail)
          go_cut [] from 21 to 57 (fun wx => Blk wx wr.heap.size 46 #[.int .i64 9, .int .i64 0, .int .i64 id, .slice none 0 0] ∧ Keep [] wr wx)
          case first =>
            go_wp2_with (fail)
            go_meet
            case rel => exact ⟨Blk.new wr _ _, (Keep.refl _ _).alloc _⟩
          case rest =>
            obtain ⟨hBF, hKF⟩ := hcut
            obtain ⟨fl, hfl⟩ : ∃ fl : Int, fl = 0 := ⟨_, rfl⟩
            rw [← hfl] at hBF
            obtain ⟨ty, hty⟩ : ∃ ty : Int, ty = 9 := ⟨_, rfl⟩
            rw [← hty] at hBF
            obtain ⟨fb, hfb⟩ : ∃ fb, fb = wr.heap.size := ⟨_, rfl⟩
            rw [← hfb] at hBF ⊢
            have hT : Hid (ty = typF j ∧ ∀ la : Bool, (if la then fl + 4 else fl) = flgF j en la ∧ 0 ≤ fl ∧ fl ≤ 1) := Lib.hid (by
              have hj : j ≠ 0 := by have := HB.out; simpa using this.symm
              obtain ⟨j', rfl⟩ : ∃ j', j = j' + 1 := ⟨j - 1, by omega⟩
              subst hty hfl
              refine ⟨rfl, fun la => ?_⟩
              cases en <;> cases la <;> exact ⟨rfl, by decide, by decide⟩)
            have HBF := Lib.hid hBF
            have HKF := Lib.hid hKF
            have HFB := Lib.hid hfb
            clear hty hfl hfb hBF hKF
            go_upto_if 37 with (fail)
            have kw : Keep [] w wc := HKW.out.trans HKF.out
            have hrd2 := HRD.out.keeps HKF.out (by have := HKW.out.size; omega) (by simp)
            have HRD2 := Lib.hid hrd2
            have HKW2 := Lib.hid kw
            obtain ⟨i0, z0, hi, hz, hz0, hz1, hz2⟩ := u8_info
            obtain ⟨j0, y0, gi, gz, gz0, gz1, gz2⟩ := fr_info
            clear hrd2 kw
            by_cases hbig : mo < L
            · have r1 : (mo : Int) ≤ (cr : Int) := by omega
              have r2 : (mo : Int) ≤ (L : Int) := by omega
              have r3 : (0 : Int) ≤ (mo : Int) := by omega
              have hrk := HRD2.out.first (m := mo) (by omega)
              rw [Nat.mul_one, ← encB_take] at hrk
              have hsuf := reads_suf HRD.out mo (by omega) hcr
              rw [List.drop_drop] at hsuf
              obtain ⟨Ac, hAc⟩ : ∃ Ac, (if cr = mo then Ar else Ar.map (·.add mo)) = Ac := ⟨_, rfl⟩
              rw [hAc] at hsuf
              have HAC := Lib.hid hAc
              have HSUF := Lib.hid hsuf
              have HRK := Lib.hid hrk
              have d3 := HBF.out.cell 3
              have g3 := HBF.out.frozen 3
              simp at d3
              have HBIG := Lib.hid hbig
              have HCR := Lib.hid hcr
              have HKL : Hid (mo ≤ L ∧ L ≤ 100000) := Lib.hid (by omega)
              have r0 : (mo : Int) < (L : Int) := by omega
              clear hAc hsuf hrk hbig
              go_upto_region 18 with (at_builtin; apply wpList_append_any _ rfl _ _ _ rfl w.heap.size 5 i0 z0 1 1 Try.underlying27 hi hz hz0 hz1 hz2 (by omega) (.slice none 0 0) 0 [] rfl (World.ownsRow_nil _ _ _ _) _ Ar mo _ (encB ((bs.drop o).take mo)) rfl HRK.out encB_one (by have := HKL.out; unfold maxLen; omega) (by have := HKL.out; omega) HKW2.out.size; intro v7 w7 ho7 hg7 hm7; have k7 := Keep.of_grown hg7; have hrow7 := Row1.of_own ho7; obtain ⟨A7, c7, rfl, _⟩ := hrow7.reads; have BF7 := HBF.out.keep k7 (by simp [Value.ownBlock]); have d3 := BF7.cell 3; have g3 := BF7.frozen 3; simp at d3)
              obtain ⟨pl, hpl⟩ : ∃ pl, pl = (bs.drop o).take mo := ⟨_, rfl⟩
              have hplen : pl.length = mo := by rw [hpl, List.length_take, List.length_drop]; have h1 := HBL.out; have h2 := HL.out; have h3 := HKL.out; omega
              have HPL := Lib.hid hpl
              have HPN := Lib.hid hplen
              rw [← hpl] at hrow7 ⊢
              rw [List.nil_append, encB_len] at hrow7; rw [encB_len]
              clear hpl hplen
              have kS : Keep [fb] w7 (w7.setCell ⟨fb, 3, none⟩ (.slice A7 pl.length c7)) := (Keep.refl _ _).setCell (p := ⟨fb, 3, none⟩) (.inl (by simp)) _
              have k7' : Keep [] wc w7 := k7.more (by simp [Value.ownBlock])
              have BF8 := BF7.set_ 3 (.slice A7 pl.length c7)
              simp at BF8
              have row8 := hrow7.keep kS (fun g hg => by simp; exact fun e => row_off_blk hrow7 BF7 (by decide) (e ▸ hg))
              have k8 : Keep [] wr (w7.setCell ⟨fb, 3, none⟩ (.slice A7 pl.length c7)) := (HKF.out.trans k7').step kS (by have := HFB.out; simp; omega)
              obtain ⟨W8, hW8⟩ : ∃ W8, W8 = w7.setCell ⟨fb, 3, none⟩ (.slice A7 pl.length c7) := ⟨_, rfl⟩
              rw [← hW8] at BF8 row8 k8 ⊢
              have HBF8 := Lib.hid BF8
              have HROW8 := Lib.hid row8
              have HK8 := Lib.hid k8
              clear hW8 kS k7' BF8 row8 k8 BF7 hrow7 d3 g3 ho7 hg7 hm7 k7
              have h0 := HBF8.out.cell 0
              have h1 := HBF8.out.cell 1
              have h2 := HBF8.out.cell 2
              have h3 := HBF8.out.cell 3
              have f1 := HBF8.out.frozen 1
              simp at h0 h1 h2 h3
              go_upto_region 19 with (fail)
              have hAc2 : Ar.map (fun x => x.add mo) = Ac := by have h1 := HAC.out; rw [if_neg (by have := HCR.out; have := HBIG.out; omega)] at h1; exact h1
              rw [hAc2]
              clear hAc2
              have q0 : (((L - mo : Nat) : Int) == 0) = false := by have := HBIG.out; rw [beq_eq_false_iff_ne]; omega
              have ew : wrap64 (fl + 4) = fl + 4 := by have := (hT.out.2 true).2; unfold wrap64; omega
              have kS : Keep [fb] W8 W8 := (Keep.refl [] W8).more (by simp)
              have kwS : Keep [] wr W8 := HK8.out.step kS (by have := HFB.out; simp; omega)
              have KS := Lib.hid kS
              have KWS := Lib.hid kwS
              have hjb : j ≤ 100000 := by
                rcases HJM.out with h | h
                · omega
                · have h2 : j - 1 ≤ (j - 1) * mo := Nat.le_mul_of_pos_right _ (by omega)
                  omega
              have HX : Hid (ty = typF j ∧ fl = flgF j en (decide (bs.length ≤ (j + 1) * mo)) ∧ id = id ∧ pl = (bs.drop o).take mo) := Lib.hid (by
                have e1 : (j + 1) * mo = o + mo := by rw [HOJ.out, Nat.succ_mul]
                have h1 := HL.out
                have h2 := HBL.out
                have h3 := HBIG.out
                have e2 : decide (bs.length ≤ (j + 1) * mo) = false := by rw [e1]; simp; omega
                rw [e2]
                have h4 := (hT.out.2 false).1
                refine ⟨hT.out.1, by simpa using h4, rfl, ?_⟩
                rw [HPL.out])
              clear kS kwS
              have rn : Reads (W8.alloc (.cells #[.int .i64 ty, .int .i64 fl, .int .i64 id, .slice A7 pl.length c7] 46)) (W8.heap.size + 1) 4 (some ⟨W8.heap.size, 0, none⟩) 1 (encG [⟨ty, fl, id, A7, c7, pl⟩]) := by
                have h := reads_new W8 #[.int .i64 ty, .int .i64 fl, .int .i64 id, .slice A7 pl.length c7] 46 (0, 0) 4 1 rfl
                skip
                exact h
              have RN := Lib.hid rn
              clear rn
              go_wp2_with (at_builtin; apply wpList_append_any _ rfl _ _ _ rfl w.heap.size 46 j0 y0 4 48 Try.underlying40 gi gz gz0 gz1 gz2 (by omega) (.slice Al j cl) j (encG xs) rfl (own_keep HO.out (KWS.out.alloc _) (by simp)) _ _ 1 1 (encG [⟨ty, fl, id, A7, c7, pl⟩]) rfl RN.out (encG_one _) (by unfold maxLen; omega) (by omega) (by have h1 := HK8.out.size; have h2 := HKW.out.size; simp; omega); intro v9 w9 ho9 hg9 hm9; obtain ⟨Al', cl', rfl, ho10, hRL10, hkw10, hsuf10⟩ := rcut_step (x := ⟨ty, fl, id, A7, c7, pl⟩) HXL.out HOJ.out HO.out HRL.out HKW.out HK8.out HROW8.out KS.out HBF8.out (by have := HFB.out; omega) ho9 ((((Keep.refl [] _).alloc _).more (by simp)).trans (Keep.of_grown hg9)) HX.out HSUF.out; have HF := Lib.hid (And.intro ho10 (And.intro hRL10 (And.intro hkw10 hsuf10))); clear ho10 hRL10 hkw10 hsuf10 ho9 hg9 hm9)
              have e1 : (j + 1) * mo = o + mo := by rw [HOJ.out, Nat.succ_mul]
              have h1 := HL.out
              have h2 := HBL.out
              have h3 := HBIG.out
              have h4 := HCR.out
              have e3 : n - (j + 1) * mo = L - mo := by rw [e1]; omega
              have hs := HF.out.2.2.2
              skip
              go_roundw
              case rel =>
                refine ⟨j + 1, Ac, Al', cr - mo, cl', xs ++ [⟨ty, fl, id, A7, c7, pl⟩], by rw [e3], rfl, by simp, by simp [HXL.out], (by first | exact .inr (by rw [Nat.add_sub_cancel, ← HOJ.out]; omega) | exact .inl (by have := HB.out; simp at this; omega)), by rw [e3]; omega, ?_, HF.out.1, HF.out.2.1, HF.out.2.2.1⟩
                rw [e3, e1]
                exact hs
              case measure => simp [lenV, oneIf] <;> omega
            · have r1 : (L : Int) ≤ (cr : Int) := by omega
              have r2 : (L : Int) ≤ (L : Int) := by omega
              have r3 : (0 : Int) ≤ (L : Int) := by omega
              have hrk := HRD2.out.first (m := L) (by omega)
              rw [Nat.mul_one, ← encB_take] at hrk
              have hsuf := reads_suf HRD.out L (by omega) hcr
              rw [List.drop_drop] at hsuf
              obtain ⟨Ac, hAc⟩ : ∃ Ac, (if cr = L then Ar else Ar.map (·.add L)) = Ac := ⟨_, rfl⟩
              rw [hAc] at hsuf
              have HAC := Lib.hid hAc
              have HSUF := Lib.hid hsuf
              have HRK := Lib.hid hrk
              have d3 := HBF.out.cell 3
              have g3 := HBF.out.frozen 3
              simp at d3
              have HBIG := Lib.hid hbig
              have HCR := Lib.hid hcr
              have HKL : Hid (L ≤ L ∧ L ≤ 100000) := Lib.hid (by omega)
              have r0 : ¬ (mo : Int) < (L : Int) := by omega
              clear hAc hsuf hrk hbig
              go_upto_region 18 with (at_builtin; apply wpList_append_any _ rfl _ _ _ rfl w.heap.size 5 i0 z0 1 1 Try.underlying27 hi hz hz0 hz1 hz2 (by omega) (.slice none 0 0) 0 [] rfl (World.ownsRow_nil _ _ _ _) _ Ar L _ (encB ((bs.drop o).take L)) rfl HRK.out encB_one (by have := HKL.out; unfold maxLen; omega) (by have := HKL.out; omega) HKW2.out.size; intro v7 w7 ho7 hg7 hm7; have k7 := Keep.of_grown hg7; have hrow7 := Row1.of_own ho7; obtain ⟨A7, c7, rfl, _⟩ := hrow7.reads; have BF7 := HBF.out.keep k7 (by simp [Value.ownBlock]); have d3 := BF7.cell 3; have g3 := BF7.frozen 3; simp at d3)
              obtain ⟨pl, hpl⟩ : ∃ pl, pl = (bs.drop o).take L := ⟨_, rfl⟩
              have hplen : pl.length = L := by rw [hpl, List.length_take, List.length_drop]; have h1 := HBL.out; have h2 := HL.out; have h3 := HKL.out; omega
              have HPL := Lib.hid hpl
              have HPN := Lib.hid hplen
              rw [← hpl] at hrow7 ⊢
              rw [List.nil_append, encB_len] at hrow7; rw [encB_len]
              clear hpl hplen
              have kS : Keep [fb] w7 (w7.setCell ⟨fb, 3, none⟩ (.slice A7 pl.length c7)) := (Keep.refl _ _).setCell (p := ⟨fb, 3, none⟩) (.inl (by simp)) _
              have k7' : Keep [] wc w7 := k7.more (by simp [Value.ownBlock])
              have BF8 := BF7.set_ 3 (.slice A7 pl.length c7)
              simp at BF8
              have row8 := hrow7.keep kS (fun g hg => by simp; exact fun e => row_off_blk hrow7 BF7 (by decide) (e ▸ hg))
              have k8 : Keep [] wr (w7.setCell ⟨fb, 3, none⟩ (.slice A7 pl.length c7)) := (HKF.out.trans k7').step kS (by have := HFB.out; simp; omega)
              obtain ⟨W8, hW8⟩ : ∃ W8, W8 = w7.setCell ⟨fb, 3, none⟩ (.slice A7 pl.length c7) := ⟨_, rfl⟩
              rw [← hW8] at BF8 row8 k8 ⊢
              have HBF8 := Lib.hid BF8
              have HROW8 := Lib.hid row8
              have HK8 := Lib.hid k8
              clear hW8 kS k7' BF8 row8 k8 BF7 hrow7 d3 g3 ho7 hg7 hm7 k7
              have h0 := HBF8.out.cell 0
              have h1 := HBF8.out.cell 1
              have h2 := HBF8.out.cell 2
              have h3 := HBF8.out.cell 3
              have f1 := HBF8.out.frozen 1
              simp at h0 h1 h2 h3
              go_upto_region 19 with (fail)
              rw [HAC.out]
              have q0 : (((L - L : Nat) : Int) == 0) = true := by have := HBIG.out; rw [beq_iff_eq]; omega
              have ew : wrap64 (fl + 4) = fl + 4 := by have := (hT.out.2 true).2; unfold wrap64; omega
              have kS : Keep [fb] W8 (W8.setCell ⟨fb, 1, none⟩ (.int .i64 (fl + 4))) := (Keep.refl _ _).setCell (p := ⟨fb, 1, none⟩) (.inl (by simp)) _
              have kwS : Keep [] wr (W8.setCell ⟨fb, 1, none⟩ (.int .i64 (fl + 4))) := HK8.out.step kS (by have := HFB.out; simp; omega)
              have KS := Lib.hid kS
              have KWS := Lib.hid kwS
              have hjb : j ≤ 100000 := by
                rcases HJM.out with h | h
                · omega
                · have h2 : j - 1 ≤ (j - 1) * mo := Nat.le_mul_of_pos_right _ (by omega)
                  omega
              have HX : Hid (ty = typF j ∧ (fl + 4) = flgF j en (decide (bs.length ≤ (j + 1) * mo)) ∧ id = id ∧ pl = (bs.drop o).take mo) := Lib.hid (by
                have e1 : (j + 1) * mo = o + mo := by rw [HOJ.out, Nat.succ_mul]
                have h1 := HL.out
                have h2 := HBL.out
                have h3 := HBIG.out
                have e2 : decide (bs.length ≤ (j + 1) * mo) = true := by rw [e1]; simp; omega
                rw [e2]
                have h4 := (hT.out.2 true).1
                refine ⟨hT.out.1, by simpa using h4, rfl, ?_⟩
                rw [HPL.out]
                rw [List.take_of_length_le (by rw [List.length_drop]; omega), List.take_of_length_le (by rw [List.length_drop]; omega)])
              clear kS kwS
              have rn : Reads ((W8.setCell ⟨fb, 1, none⟩ (.int .i64 (fl + 4))).alloc (.cells #[.int .i64 ty, .int .i64 (fl + 4), .int .i64 id, .slice A7 pl.length c7] 46)) (W8.heap.size + 1) 4 (some ⟨W8.heap.size, 0, none⟩) 1 (encG [⟨ty, (fl + 4), id, A7, c7, pl⟩]) := by
                have h := reads_new (W8.setCell ⟨fb, 1, none⟩ (.int .i64 (fl + 4))) #[.int .i64 ty, .int .i64 (fl + 4), .int .i64 id, .slice A7 pl.length c7] 46 (0, 0) 4 1 rfl
                rw [show (W8.setCell ⟨fb, 1, none⟩ (.int .i64 (fl + 4))).heap.size = W8.heap.size by simp] at h
                exact h
              have RN := Lib.hid rn
              clear rn
              go_wp2_with (at_builtin; apply wpList_append_any _ rfl _ _ _ rfl w.heap.size 46 j0 y0 4 48 Try.underlying40 gi gz gz0 gz1 gz2 (by omega) (.slice Al j cl) j (encG xs) rfl (own_keep HO.out (KWS.out.alloc _) (by simp)) _ _ 1 1 (encG [⟨ty, (fl + 4), id, A7, c7, pl⟩]) rfl RN.out (encG_one _) (by unfold maxLen; omega) (by omega) (by have h1 := HK8.out.size; have h2 := HKW.out.size; simp; omega); intro v9 w9 ho9 hg9 hm9; obtain ⟨Al', cl', rfl, ho10, hRL10, hkw10, hsuf10⟩ := rcut_step (x := ⟨ty, (fl + 4), id, A7, c7, pl⟩) HXL.out HOJ.out HO.out HRL.out HKW.out HK8.out HROW8.out KS.out HBF8.out (by have := HFB.out; omega) ho9 ((((Keep.refl [] _).alloc _).more (by simp)).trans (Keep.of_grown hg9)) HX.out HSUF.out; have HF := Lib.hid (And.intro ho10 (And.intro hRL10 (And.intro hkw10 hsuf10))); clear ho10 hRL10 hkw10 hsuf10 ho9 hg9 hm9)
              have e1 : (j + 1) * mo = o + mo := by rw [HOJ.out, Nat.succ_mul]
              have h1 := HL.out
              have h2 := HBL.out
              have h3 := HBIG.out
              have h4 := HCR.out
              have e3 : n - (j + 1) * mo = 0 := by rw [e1]; omega
              have hs := HF.out.2.2.2
              have d1 : bs.drop (o + L) = bs.drop (o + mo) := by rw [List.drop_eq_nil_of_le (show bs.length ≤ o + L by omega), List.drop_eq_nil_of_le (show bs.length ≤ o + mo by omega)]
              rw [Nat.sub_self, d1] at hs
              go_roundw
              case rel =>
                refine ⟨j + 1, Ac, Al', cr - L, cl', xs ++ [⟨ty, (fl + 4), id, A7, c7, pl⟩], by rw [e3], rfl, by simp, by simp [HXL.out], (by first | exact .inr (by rw [Nat.add_sub_cancel, ← HOJ.out]; omega) | exact .inl (by have := HB.out; simp at this; omega)), by rw [e3]; omega, ?_, HF.out.1, HF.out.2.1, HF.out.2.2.1⟩
                rw [e3, e1]
                exact hs
              case measure => simp [lenV, oneIf] <;> omega
      · have hb0 : b = false := by cases b <;> simp_all
        have hL0 : L = 0 := by cases b <;> simp_all
        subst hb0 hL0
        clear hcont hcr hLn
        go_wp2_with (fail)
        go_ret
        have hj0 : j ≠ 0 := fun h => by have := HB.out; rw [h] at this; cases this
        obtain rfl : xs.length = j := HXL.out
        refine ⟨Al, cl, xs, rfl, HO.out, HRL.out, by omega, by have h1 := HL.out; have h2 := HOJ.out; omega, ?_, HKW.out⟩
        rcases HJM.out with h | h
        · exact .inl (by omega)
        · exact .inr h
end Go.Proofs.Ytenegjflapppdaa
