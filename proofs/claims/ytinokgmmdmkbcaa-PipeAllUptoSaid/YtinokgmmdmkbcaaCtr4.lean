/- pipe: the reference's Take and Over. -/
import Derived.Test.YtinokgmmdmkbcaaCtr3
set_option linter.all false
namespace Go.Proofs.Ytinokgmmdmkbcaa
open Go.ChangeShapes Go.WideShapes Go.ChangeAt Go.RowKit
attribute [local go_sem] setCell_drewN alloc_drewN
section
variable {w w' : World} {base pb : Nat} {t : TypeId} {v : Value} {bs : List UInt8} {en to : Bool}
theorem rover_ (h : Pp w base pb 29 v bs en to) : Calls Try.prog 22 #[.pointer (some ⟨pb, 0, none⟩)] w fun e w' => e = .returned (.bool (overB bs en)) ∧ w = w' := by
  obtain ⟨A, cap, rfl, h1, h2, h3⟩ := h.slice
  have c0 := h.blk.cell 0
  have c1 := h.blk.cell 1
  simp at c0 c1
  unfold overB
  cases en
  · go_enter Try.func22, Try.ntmps22
    go_wp2
    go_ret
    exact ⟨rfl, rfl⟩
  · by_cases hl : bs.length = 0
    · have hl' : (((bs.length : Nat) : Int) == 0) = true := by simp; exact List.eq_nil_of_length_eq_zero hl
      go_enter Try.func22, Try.ntmps22
      go_wp2
      go_ret
      simp_all
    · have hl' : (((bs.length : Nat) : Int) == 0) = false := by simp; intro h; subst h; simp at hl
      go_enter Try.func22, Try.ntmps22
      go_wp2
      go_ret
      simp_all
theorem rtake_no (n : Int) (hn : n < 1) : Calls Try.prog 20 #[.pointer (some ⟨pb, 0, none⟩), .int .i64 n] w fun e w' => e = .returned (.tuple #[.slice none 0 0, .bool false]) ∧ w = w' := by
  go_enter Try.func20, Try.ntmps20
  go_wp2
  go_ret2
  exact ⟨rfl, rfl⟩
theorem Row1.down {e : TypeId} {r : Value} {xs : List Value} {B : Nat} (h : Row1 w B e r xs) (hb : base ≤ B) : Row1 w base e r xs := by
  obtain ⟨A, cap, hv, h1, h2, h⟩ := h
  refine ⟨A, cap, hv, h1, h2, ?_⟩
  rcases h with h | ⟨g, off, cs, a, b, c⟩
  · exact .inl h
  · exact .inr ⟨g, off, cs, a, by omega, c⟩
theorem rfin {w2 : World} {r v2 : Value} {T D : List UInt8} (hb : Blk w2 pb 29 #[v, .bool en, .bool to]) (k : Keep [] w w2) (hr : Row1 w2 w.heap.size 5 r (encB T)) (h2 : Row1 w2 w.heap.size 5 v2 (encB D)) (hB : base ≤ w.heap.size) (hlt : pb < w.heap.size) :
    Row1 (w2.setCell ⟨pb, 0, none⟩ v2) w.heap.size 5 r (encB T) ∧ Pp (w2.setCell ⟨pb, 0, none⟩ v2) base pb 29 v2 D en to ∧ Keep [pb] w (w2.setCell ⟨pb, 0, none⟩ v2) ∧ Moved w v v2 := by
  have kf : Keep [pb] w2 (w2.setCell ⟨pb, 0, none⟩ v2) := (Keep.refl _ w2).setCell (p := ⟨pb, 0, none⟩) (.inl (by simp)) _
  exact ⟨hr.keep kf (fun g hg => by have := (hr.lt g hg).1; simp; omega), ⟨hb.set_ 0 v2, (h2.down hB).keep kf (fun g hg => by have := (h2.lt g hg).1; simp; omega)⟩, (k.more (by simp)).trans kf, fun g hg => .inr (h2.lt g hg).1⟩
set_option maxHeartbeats 4000000 in
theorem rtake_ (h : Pp w base pb 29 v bs en to) (hB : base ≤ w.heap.size) (hl : bs.length ≤ 140737488355328) (n k : Nat) (hn : 1 ≤ n) (hk : k = min n bs.length) :
    Calls Try.prog 20 #[.pointer (some ⟨pb, 0, none⟩), .int .i64 n] w fun e w' => ∃ r v', e = .returned (.tuple #[r, .bool (overB (bs.drop k) en && !to)]) ∧ Row1 w' w.heap.size 5 r (encB (bs.take k)) ∧ Pp w' base pb 29 v' (bs.drop k) en (to || (overB (bs.drop k) en && !to)) ∧ Keep [pb] w w' ∧ Moved w v v' := by
  obtain ⟨i0, z0, hi, hz, hz0, hz1, hz2⟩ := u8_info
  have hkl : k ≤ bs.length := by omega
  have hblt := h.blk.lt
  obtain ⟨A, cap, rfl, h1, h2, h3⟩ := h.slice
  have c0 := h.blk.cell 0
  have c1 := h.blk.cell 1
  have c2 := h.blk.cell 2
  simp at c0 c1 c2
  have b0 : (0 : Int) ≤ (k : Int) := by omega
  have b1 : (k : Int) ≤ (bs.length : Int) := by omega
  have b2 : (k : Int) ≤ (cap : Int) := by omega
  have b3 : (bs.length : Int) ≤ (cap : Int) := by omega
  have hn1 : ¬ (n : Int) < 1 := by omega
  have hpre := Lib.hid (reads_pre h3 k hkl)
  have hrow := h.row.cut k (by rw [encB_len]; exact hkl) _ _ _ rfl
  rw [← encB_drop] at hrow
  obtain ⟨A2', cap2', hv2, _, _, hsuf⟩ := hrow.reads
  injection hv2 with e1 e2 e3
  subst e1 e3
  rw [← e2] at hsuf
  have hsuf := Lib.hid hsuf
  have hb := Lib.hid h.blk
  have hT : (bs.take k).length = k := by rw [List.length_take]; omega
  have hD : (bs.drop k).length = bs.length - k := List.length_drop
  clear h h3 e2 hrow
  obtain ⟨T, hT'⟩ : ∃ T, T = bs.take k := ⟨_, rfl⟩
  obtain ⟨D, hD'⟩ : ∃ D, D = bs.drop k := ⟨_, rfl⟩
  rw [← hT'] at hpre hT ⊢
  rw [← hD'] at hsuf hD ⊢
  clear hT' hD'
  have HT := Lib.hid hT
  have HD := Lib.hid hD
  clear hT hD
  by_cases hle : n ≤ bs.length
  · obtain rfl : k = n := by omega
    have hgt : ¬ (bs.length : Int) < (k : Int) := by omega
    clear hk
    by_cases hcap : cap = k
    · subst hcap
      rw [if_pos rfl] at hsuf
      have hsuf := hsuf.out
      rw [show bs.length - cap = 0 by omega] at hsuf
      have hsuf := Lib.hid hsuf
      by_cases hd : (encB D).length = 0
      · have hq : ((((encB D).length : Nat) : Int) == 0) = true := by rw [beq_iff_eq]; omega
        have Hd := Lib.hid hd
        clear hd
        cases en <;> cases to
        · have Hov : Hid (overB D false = false) := Lib.hid (by have := Hd.out; rw [encB_len] at this; simp [overB, this])
          go_enter Try.func20, Try.ntmps20
          go_wp2_with (first
            | (at_builtin; apply wpList_append_row _ rfl _ _ _ rfl w.heap.size 5 i0 z0 1 Try.underlying22 hi hz hz0 hz1 hz2 (.slice none 0 0) [] rfl (Row1.nil _ _ _) _ A cap cap (encB T) rfl hpre.out encB_one (by unfold maxLen; simp; omega) (by simp; omega) (Nat.le_refl _); intro r1 w1 hrow1 k1 hm1; obtain ⟨A1, cap1, rfl, _⟩ := hrow1.reads; have sz1 := k1.size; have g1 := hb.out.keep k1 (by simp [rowBlk]); have d0 := g1.cell 0; simp at d0)
            | (at_builtin; apply wpList_append_row _ rfl _ _ _ rfl w.heap.size 5 i0 z0 1 Try.underlying22 hi hz hz0 hz1 hz2 (.slice none 0 0) [] rfl (Row1.nil _ _ _) _ (A) (0) (0) (encB D) rfl (hsuf.out.keeps k1 (Nat.le_refl _) (by simp [rowBlk])) encB_one (by unfold maxLen; first | (simp; done) | (simp; omega)) (by first | (simp; done) | (simp; omega)) sz1; intro r2 w2 hrow2 k2 hm2; obtain ⟨A3, cap3, rfl, _⟩ := hrow2.reads; have g2 := g1.keep k2 (by simp [rowBlk]); have e0 := g2.cell 0; have e0f := g2.frozen 0; have e1 := g2.cell 1; have e2 := g2.cell 2; have e2f := g2.frozen 2; simp at e0 e1 e2))
          have HF := rfin g2 (k1.step k2 (by simp [rowBlk])) (by simpa using hrow1.keep k2 (by simp [rowBlk])) (by simpa using hrow2) hB hblt
          go_ret2
          try rw [Hov.out]
          first | exact ⟨_, _, rfl, HF.1, HF.2.1, HF.2.2.1, HF.2.2.2⟩ | exact ⟨_, rfl, HF.1, _, HF.2.1, HF.2.2.1, HF.2.2.2⟩
        · have Hov : Hid (overB D false = false) := Lib.hid (by have := Hd.out; rw [encB_len] at this; simp [overB, this])
          go_enter Try.func20, Try.ntmps20
          go_wp2_with (first
            | (at_builtin; apply wpList_append_row _ rfl _ _ _ rfl w.heap.size 5 i0 z0 1 Try.underlying22 hi hz hz0 hz1 hz2 (.slice none 0 0) [] rfl (Row1.nil _ _ _) _ A cap cap (encB T) rfl hpre.out encB_one (by unfold maxLen; simp; omega) (by simp; omega) (Nat.le_refl _); intro r1 w1 hrow1 k1 hm1; obtain ⟨A1, cap1, rfl, _⟩ := hrow1.reads; have sz1 := k1.size; have g1 := hb.out.keep k1 (by simp [rowBlk]); have d0 := g1.cell 0; simp at d0)
            | (at_builtin; apply wpList_append_row _ rfl _ _ _ rfl w.heap.size 5 i0 z0 1 Try.underlying22 hi hz hz0 hz1 hz2 (.slice none 0 0) [] rfl (Row1.nil _ _ _) _ (A) (0) (0) (encB D) rfl (hsuf.out.keeps k1 (Nat.le_refl _) (by simp [rowBlk])) encB_one (by unfold maxLen; first | (simp; done) | (simp; omega)) (by first | (simp; done) | (simp; omega)) sz1; intro r2 w2 hrow2 k2 hm2; obtain ⟨A3, cap3, rfl, _⟩ := hrow2.reads; have g2 := g1.keep k2 (by simp [rowBlk]); have e0 := g2.cell 0; have e0f := g2.frozen 0; have e1 := g2.cell 1; have e2 := g2.cell 2; have e2f := g2.frozen 2; simp at e0 e1 e2))
          have HF := rfin g2 (k1.step k2 (by simp [rowBlk])) (by simpa using hrow1.keep k2 (by simp [rowBlk])) (by simpa using hrow2) hB hblt
          go_ret2
          try rw [Hov.out]
          first | exact ⟨_, _, rfl, HF.1, HF.2.1, HF.2.2.1, HF.2.2.2⟩ | exact ⟨_, rfl, HF.1, _, HF.2.1, HF.2.2.1, HF.2.2.2⟩
        · have Hov : Hid (overB D true = true) := Lib.hid (by have := Hd.out; rw [encB_len] at this; simp [overB, this])
          go_enter Try.func20, Try.ntmps20
          go_wp2_with (first
            | (at_builtin; apply wpList_append_row _ rfl _ _ _ rfl w.heap.size 5 i0 z0 1 Try.underlying22 hi hz hz0 hz1 hz2 (.slice none 0 0) [] rfl (Row1.nil _ _ _) _ A cap cap (encB T) rfl hpre.out encB_one (by unfold maxLen; simp; omega) (by simp; omega) (Nat.le_refl _); intro r1 w1 hrow1 k1 hm1; obtain ⟨A1, cap1, rfl, _⟩ := hrow1.reads; have sz1 := k1.size; have g1 := hb.out.keep k1 (by simp [rowBlk]); have d0 := g1.cell 0; simp at d0)
            | (at_builtin; apply wpList_append_row _ rfl _ _ _ rfl w.heap.size 5 i0 z0 1 Try.underlying22 hi hz hz0 hz1 hz2 (.slice none 0 0) [] rfl (Row1.nil _ _ _) _ (A) (0) (0) (encB D) rfl (hsuf.out.keeps k1 (Nat.le_refl _) (by simp [rowBlk])) encB_one (by unfold maxLen; first | (simp; done) | (simp; omega)) (by first | (simp; done) | (simp; omega)) sz1; intro r2 w2 hrow2 k2 hm2; obtain ⟨A3, cap3, rfl, _⟩ := hrow2.reads; have g2 := g1.keep k2 (by simp [rowBlk]); have e0 := g2.cell 0; have e0f := g2.frozen 0; have e1 := g2.cell 1; have e2 := g2.cell 2; have e2f := g2.frozen 2; simp at e0 e1 e2))
          have HF := rfin g2 (k1.step k2 (by simp [rowBlk])) (by simpa using hrow1.keep k2 (by simp [rowBlk])) (by simpa using hrow2) hB hblt
          go_ret2
          try rw [Hov.out]
          first | exact ⟨_, _, rfl, row_told HF.1 hblt _, HF.2.1.setTold (by decide) _, HF.2.2.1.setCell (p := ⟨pb, 2, none⟩) (.inl (by simp)) _, HF.2.2.2⟩ | exact ⟨_, rfl, row_told HF.1 hblt _, _, HF.2.1.setTold (by decide) _, HF.2.2.1.setCell (p := ⟨pb, 2, none⟩) (.inl (by simp)) _, HF.2.2.2⟩
        · have Hov : Hid (overB D true = true) := Lib.hid (by have := Hd.out; rw [encB_len] at this; simp [overB, this])
          go_enter Try.func20, Try.ntmps20
          go_wp2_with (first
            | (at_builtin; apply wpList_append_row _ rfl _ _ _ rfl w.heap.size 5 i0 z0 1 Try.underlying22 hi hz hz0 hz1 hz2 (.slice none 0 0) [] rfl (Row1.nil _ _ _) _ A cap cap (encB T) rfl hpre.out encB_one (by unfold maxLen; simp; omega) (by simp; omega) (Nat.le_refl _); intro r1 w1 hrow1 k1 hm1; obtain ⟨A1, cap1, rfl, _⟩ := hrow1.reads; have sz1 := k1.size; have g1 := hb.out.keep k1 (by simp [rowBlk]); have d0 := g1.cell 0; simp at d0)
            | (at_builtin; apply wpList_append_row _ rfl _ _ _ rfl w.heap.size 5 i0 z0 1 Try.underlying22 hi hz hz0 hz1 hz2 (.slice none 0 0) [] rfl (Row1.nil _ _ _) _ (A) (0) (0) (encB D) rfl (hsuf.out.keeps k1 (Nat.le_refl _) (by simp [rowBlk])) encB_one (by unfold maxLen; first | (simp; done) | (simp; omega)) (by first | (simp; done) | (simp; omega)) sz1; intro r2 w2 hrow2 k2 hm2; obtain ⟨A3, cap3, rfl, _⟩ := hrow2.reads; have g2 := g1.keep k2 (by simp [rowBlk]); have e0 := g2.cell 0; have e0f := g2.frozen 0; have e1 := g2.cell 1; have e2 := g2.cell 2; have e2f := g2.frozen 2; simp at e0 e1 e2))
          have HF := rfin g2 (k1.step k2 (by simp [rowBlk])) (by simpa using hrow1.keep k2 (by simp [rowBlk])) (by simpa using hrow2) hB hblt
          go_ret2
          try rw [Hov.out]
          first | exact ⟨_, _, rfl, HF.1, HF.2.1, HF.2.2.1, HF.2.2.2⟩ | exact ⟨_, rfl, HF.1, _, HF.2.1, HF.2.2.1, HF.2.2.2⟩
      · have hq : ((((encB D).length : Nat) : Int) == 0) = false := by simp only [beq_eq_false_iff_ne]; omega
        have Hd := Lib.hid hd
        clear hd
        cases en <;> cases to
        · have Hov : Hid (overB D false = false) := Lib.hid (by have := Hd.out; rw [encB_len] at this; simp [overB, this])
          go_enter Try.func20, Try.ntmps20
          go_wp2_with (first
            | (at_builtin; apply wpList_append_row _ rfl _ _ _ rfl w.heap.size 5 i0 z0 1 Try.underlying22 hi hz hz0 hz1 hz2 (.slice none 0 0) [] rfl (Row1.nil _ _ _) _ A cap cap (encB T) rfl hpre.out encB_one (by unfold maxLen; simp; omega) (by simp; omega) (Nat.le_refl _); intro r1 w1 hrow1 k1 hm1; obtain ⟨A1, cap1, rfl, _⟩ := hrow1.reads; have sz1 := k1.size; have g1 := hb.out.keep k1 (by simp [rowBlk]); have d0 := g1.cell 0; simp at d0)
            | (at_builtin; apply wpList_append_row _ rfl _ _ _ rfl w.heap.size 5 i0 z0 1 Try.underlying22 hi hz hz0 hz1 hz2 (.slice none 0 0) [] rfl (Row1.nil _ _ _) _ (A) (0) (0) (encB D) rfl (hsuf.out.keeps k1 (Nat.le_refl _) (by simp [rowBlk])) encB_one (by unfold maxLen; first | (simp; done) | (simp; omega)) (by first | (simp; done) | (simp; omega)) sz1; intro r2 w2 hrow2 k2 hm2; obtain ⟨A3, cap3, rfl, _⟩ := hrow2.reads; have g2 := g1.keep k2 (by simp [rowBlk]); have e0 := g2.cell 0; have e0f := g2.frozen 0; have e1 := g2.cell 1; have e2 := g2.cell 2; have e2f := g2.frozen 2; simp at e0 e1 e2))
          have HF := rfin g2 (k1.step k2 (by simp [rowBlk])) (by simpa using hrow1.keep k2 (by simp [rowBlk])) (by simpa using hrow2) hB hblt
          go_ret2
          try rw [Hov.out]
          first | exact ⟨_, _, rfl, HF.1, HF.2.1, HF.2.2.1, HF.2.2.2⟩ | exact ⟨_, rfl, HF.1, _, HF.2.1, HF.2.2.1, HF.2.2.2⟩
        · have Hov : Hid (overB D false = false) := Lib.hid (by have := Hd.out; rw [encB_len] at this; simp [overB, this])
          go_enter Try.func20, Try.ntmps20
          go_wp2_with (first
            | (at_builtin; apply wpList_append_row _ rfl _ _ _ rfl w.heap.size 5 i0 z0 1 Try.underlying22 hi hz hz0 hz1 hz2 (.slice none 0 0) [] rfl (Row1.nil _ _ _) _ A cap cap (encB T) rfl hpre.out encB_one (by unfold maxLen; simp; omega) (by simp; omega) (Nat.le_refl _); intro r1 w1 hrow1 k1 hm1; obtain ⟨A1, cap1, rfl, _⟩ := hrow1.reads; have sz1 := k1.size; have g1 := hb.out.keep k1 (by simp [rowBlk]); have d0 := g1.cell 0; simp at d0)
            | (at_builtin; apply wpList_append_row _ rfl _ _ _ rfl w.heap.size 5 i0 z0 1 Try.underlying22 hi hz hz0 hz1 hz2 (.slice none 0 0) [] rfl (Row1.nil _ _ _) _ (A) (0) (0) (encB D) rfl (hsuf.out.keeps k1 (Nat.le_refl _) (by simp [rowBlk])) encB_one (by unfold maxLen; first | (simp; done) | (simp; omega)) (by first | (simp; done) | (simp; omega)) sz1; intro r2 w2 hrow2 k2 hm2; obtain ⟨A3, cap3, rfl, _⟩ := hrow2.reads; have g2 := g1.keep k2 (by simp [rowBlk]); have e0 := g2.cell 0; have e0f := g2.frozen 0; have e1 := g2.cell 1; have e2 := g2.cell 2; have e2f := g2.frozen 2; simp at e0 e1 e2))
          have HF := rfin g2 (k1.step k2 (by simp [rowBlk])) (by simpa using hrow1.keep k2 (by simp [rowBlk])) (by simpa using hrow2) hB hblt
          go_ret2
          try rw [Hov.out]
          first | exact ⟨_, _, rfl, HF.1, HF.2.1, HF.2.2.1, HF.2.2.2⟩ | exact ⟨_, rfl, HF.1, _, HF.2.1, HF.2.2.1, HF.2.2.2⟩
        · have Hov : Hid (overB D true = false) := Lib.hid (by have := Hd.out; rw [encB_len] at this; simp [overB, this])
          go_enter Try.func20, Try.ntmps20
          go_wp2_with (first
            | (at_builtin; apply wpList_append_row _ rfl _ _ _ rfl w.heap.size 5 i0 z0 1 Try.underlying22 hi hz hz0 hz1 hz2 (.slice none 0 0) [] rfl (Row1.nil _ _ _) _ A cap cap (encB T) rfl hpre.out encB_one (by unfold maxLen; simp; omega) (by simp; omega) (Nat.le_refl _); intro r1 w1 hrow1 k1 hm1; obtain ⟨A1, cap1, rfl, _⟩ := hrow1.reads; have sz1 := k1.size; have g1 := hb.out.keep k1 (by simp [rowBlk]); have d0 := g1.cell 0; simp at d0)
            | (at_builtin; apply wpList_append_row _ rfl _ _ _ rfl w.heap.size 5 i0 z0 1 Try.underlying22 hi hz hz0 hz1 hz2 (.slice none 0 0) [] rfl (Row1.nil _ _ _) _ (A) (0) (0) (encB D) rfl (hsuf.out.keeps k1 (Nat.le_refl _) (by simp [rowBlk])) encB_one (by unfold maxLen; first | (simp; done) | (simp; omega)) (by first | (simp; done) | (simp; omega)) sz1; intro r2 w2 hrow2 k2 hm2; obtain ⟨A3, cap3, rfl, _⟩ := hrow2.reads; have g2 := g1.keep k2 (by simp [rowBlk]); have e0 := g2.cell 0; have e0f := g2.frozen 0; have e1 := g2.cell 1; have e2 := g2.cell 2; have e2f := g2.frozen 2; simp at e0 e1 e2))
          have HF := rfin g2 (k1.step k2 (by simp [rowBlk])) (by simpa using hrow1.keep k2 (by simp [rowBlk])) (by simpa using hrow2) hB hblt
          go_ret2
          try rw [Hov.out]
          first | exact ⟨_, _, rfl, HF.1, HF.2.1, HF.2.2.1, HF.2.2.2⟩ | exact ⟨_, rfl, HF.1, _, HF.2.1, HF.2.2.1, HF.2.2.2⟩
        · have Hov : Hid (overB D true = false) := Lib.hid (by have := Hd.out; rw [encB_len] at this; simp [overB, this])
          go_enter Try.func20, Try.ntmps20
          go_wp2_with (first
            | (at_builtin; apply wpList_append_row _ rfl _ _ _ rfl w.heap.size 5 i0 z0 1 Try.underlying22 hi hz hz0 hz1 hz2 (.slice none 0 0) [] rfl (Row1.nil _ _ _) _ A cap cap (encB T) rfl hpre.out encB_one (by unfold maxLen; simp; omega) (by simp; omega) (Nat.le_refl _); intro r1 w1 hrow1 k1 hm1; obtain ⟨A1, cap1, rfl, _⟩ := hrow1.reads; have sz1 := k1.size; have g1 := hb.out.keep k1 (by simp [rowBlk]); have d0 := g1.cell 0; simp at d0)
            | (at_builtin; apply wpList_append_row _ rfl _ _ _ rfl w.heap.size 5 i0 z0 1 Try.underlying22 hi hz hz0 hz1 hz2 (.slice none 0 0) [] rfl (Row1.nil _ _ _) _ (A) (0) (0) (encB D) rfl (hsuf.out.keeps k1 (Nat.le_refl _) (by simp [rowBlk])) encB_one (by unfold maxLen; first | (simp; done) | (simp; omega)) (by first | (simp; done) | (simp; omega)) sz1; intro r2 w2 hrow2 k2 hm2; obtain ⟨A3, cap3, rfl, _⟩ := hrow2.reads; have g2 := g1.keep k2 (by simp [rowBlk]); have e0 := g2.cell 0; have e0f := g2.frozen 0; have e1 := g2.cell 1; have e2 := g2.cell 2; have e2f := g2.frozen 2; simp at e0 e1 e2))
          have HF := rfin g2 (k1.step k2 (by simp [rowBlk])) (by simpa using hrow1.keep k2 (by simp [rowBlk])) (by simpa using hrow2) hB hblt
          go_ret2
          try rw [Hov.out]
          first | exact ⟨_, _, rfl, HF.1, HF.2.1, HF.2.2.1, HF.2.2.2⟩ | exact ⟨_, rfl, HF.1, _, HF.2.1, HF.2.2.1, HF.2.2.2⟩
    · rw [if_neg hcap] at hsuf
      by_cases hd : (encB D).length = 0
      · have hq : ((((encB D).length : Nat) : Int) == 0) = true := by rw [beq_iff_eq]; omega
        have Hd := Lib.hid hd
        clear hd
        cases en <;> cases to
        · have Hov : Hid (overB D false = false) := Lib.hid (by have := Hd.out; rw [encB_len] at this; simp [overB, this])
          go_enter Try.func20, Try.ntmps20
          go_wp2_with (first
            | (at_builtin; apply wpList_append_row _ rfl _ _ _ rfl w.heap.size 5 i0 z0 1 Try.underlying22 hi hz hz0 hz1 hz2 (.slice none 0 0) [] rfl (Row1.nil _ _ _) _ A k cap (encB T) rfl hpre.out encB_one (by unfold maxLen; simp; omega) (by simp; omega) (Nat.le_refl _); intro r1 w1 hrow1 k1 hm1; obtain ⟨A1, cap1, rfl, _⟩ := hrow1.reads; have sz1 := k1.size; have g1 := hb.out.keep k1 (by simp [rowBlk]); have d0 := g1.cell 0; simp at d0)
            | (at_builtin; apply wpList_append_row _ rfl _ _ _ rfl w.heap.size 5 i0 z0 1 Try.underlying22 hi hz hz0 hz1 hz2 (.slice none 0 0) [] rfl (Row1.nil _ _ _) _ (A.map (·.add k)) (bs.length - k) (cap - k) (encB D) rfl (hsuf.out.keeps k1 (Nat.le_refl _) (by simp [rowBlk])) encB_one (by unfold maxLen; first | (simp; done) | (simp; omega)) (by first | (simp; done) | (simp; omega)) sz1; intro r2 w2 hrow2 k2 hm2; obtain ⟨A3, cap3, rfl, _⟩ := hrow2.reads; have g2 := g1.keep k2 (by simp [rowBlk]); have e0 := g2.cell 0; have e0f := g2.frozen 0; have e1 := g2.cell 1; have e2 := g2.cell 2; have e2f := g2.frozen 2; simp at e0 e1 e2))
          have HF := rfin g2 (k1.step k2 (by simp [rowBlk])) (by simpa using hrow1.keep k2 (by simp [rowBlk])) (by simpa using hrow2) hB hblt
          go_ret2
          try rw [Hov.out]
          first | exact ⟨_, _, rfl, HF.1, HF.2.1, HF.2.2.1, HF.2.2.2⟩ | exact ⟨_, rfl, HF.1, _, HF.2.1, HF.2.2.1, HF.2.2.2⟩
        · have Hov : Hid (overB D false = false) := Lib.hid (by have := Hd.out; rw [encB_len] at this; simp [overB, this])
          go_enter Try.func20, Try.ntmps20
          go_wp2_with (first
            | (at_builtin; apply wpList_append_row _ rfl _ _ _ rfl w.heap.size 5 i0 z0 1 Try.underlying22 hi hz hz0 hz1 hz2 (.slice none 0 0) [] rfl (Row1.nil _ _ _) _ A k cap (encB T) rfl hpre.out encB_one (by unfold maxLen; simp; omega) (by simp; omega) (Nat.le_refl _); intro r1 w1 hrow1 k1 hm1; obtain ⟨A1, cap1, rfl, _⟩ := hrow1.reads; have sz1 := k1.size; have g1 := hb.out.keep k1 (by simp [rowBlk]); have d0 := g1.cell 0; simp at d0)
            | (at_builtin; apply wpList_append_row _ rfl _ _ _ rfl w.heap.size 5 i0 z0 1 Try.underlying22 hi hz hz0 hz1 hz2 (.slice none 0 0) [] rfl (Row1.nil _ _ _) _ (A.map (·.add k)) (bs.length - k) (cap - k) (encB D) rfl (hsuf.out.keeps k1 (Nat.le_refl _) (by simp [rowBlk])) encB_one (by unfold maxLen; first | (simp; done) | (simp; omega)) (by first | (simp; done) | (simp; omega)) sz1; intro r2 w2 hrow2 k2 hm2; obtain ⟨A3, cap3, rfl, _⟩ := hrow2.reads; have g2 := g1.keep k2 (by simp [rowBlk]); have e0 := g2.cell 0; have e0f := g2.frozen 0; have e1 := g2.cell 1; have e2 := g2.cell 2; have e2f := g2.frozen 2; simp at e0 e1 e2))
          have HF := rfin g2 (k1.step k2 (by simp [rowBlk])) (by simpa using hrow1.keep k2 (by simp [rowBlk])) (by simpa using hrow2) hB hblt
          go_ret2
          try rw [Hov.out]
          first | exact ⟨_, _, rfl, HF.1, HF.2.1, HF.2.2.1, HF.2.2.2⟩ | exact ⟨_, rfl, HF.1, _, HF.2.1, HF.2.2.1, HF.2.2.2⟩
        · have Hov : Hid (overB D true = true) := Lib.hid (by have := Hd.out; rw [encB_len] at this; simp [overB, this])
          go_enter Try.func20, Try.ntmps20
          go_wp2_with (first
            | (at_builtin; apply wpList_append_row _ rfl _ _ _ rfl w.heap.size 5 i0 z0 1 Try.underlying22 hi hz hz0 hz1 hz2 (.slice none 0 0) [] rfl (Row1.nil _ _ _) _ A k cap (encB T) rfl hpre.out encB_one (by unfold maxLen; simp; omega) (by simp; omega) (Nat.le_refl _); intro r1 w1 hrow1 k1 hm1; obtain ⟨A1, cap1, rfl, _⟩ := hrow1.reads; have sz1 := k1.size; have g1 := hb.out.keep k1 (by simp [rowBlk]); have d0 := g1.cell 0; simp at d0)
            | (at_builtin; apply wpList_append_row _ rfl _ _ _ rfl w.heap.size 5 i0 z0 1 Try.underlying22 hi hz hz0 hz1 hz2 (.slice none 0 0) [] rfl (Row1.nil _ _ _) _ (A.map (·.add k)) (bs.length - k) (cap - k) (encB D) rfl (hsuf.out.keeps k1 (Nat.le_refl _) (by simp [rowBlk])) encB_one (by unfold maxLen; first | (simp; done) | (simp; omega)) (by first | (simp; done) | (simp; omega)) sz1; intro r2 w2 hrow2 k2 hm2; obtain ⟨A3, cap3, rfl, _⟩ := hrow2.reads; have g2 := g1.keep k2 (by simp [rowBlk]); have e0 := g2.cell 0; have e0f := g2.frozen 0; have e1 := g2.cell 1; have e2 := g2.cell 2; have e2f := g2.frozen 2; simp at e0 e1 e2))
          have HF := rfin g2 (k1.step k2 (by simp [rowBlk])) (by simpa using hrow1.keep k2 (by simp [rowBlk])) (by simpa using hrow2) hB hblt
          go_ret2
          try rw [Hov.out]
          first | exact ⟨_, _, rfl, row_told HF.1 hblt _, HF.2.1.setTold (by decide) _, HF.2.2.1.setCell (p := ⟨pb, 2, none⟩) (.inl (by simp)) _, HF.2.2.2⟩ | exact ⟨_, rfl, row_told HF.1 hblt _, _, HF.2.1.setTold (by decide) _, HF.2.2.1.setCell (p := ⟨pb, 2, none⟩) (.inl (by simp)) _, HF.2.2.2⟩
        · have Hov : Hid (overB D true = true) := Lib.hid (by have := Hd.out; rw [encB_len] at this; simp [overB, this])
          go_enter Try.func20, Try.ntmps20
          go_wp2_with (first
            | (at_builtin; apply wpList_append_row _ rfl _ _ _ rfl w.heap.size 5 i0 z0 1 Try.underlying22 hi hz hz0 hz1 hz2 (.slice none 0 0) [] rfl (Row1.nil _ _ _) _ A k cap (encB T) rfl hpre.out encB_one (by unfold maxLen; simp; omega) (by simp; omega) (Nat.le_refl _); intro r1 w1 hrow1 k1 hm1; obtain ⟨A1, cap1, rfl, _⟩ := hrow1.reads; have sz1 := k1.size; have g1 := hb.out.keep k1 (by simp [rowBlk]); have d0 := g1.cell 0; simp at d0)
            | (at_builtin; apply wpList_append_row _ rfl _ _ _ rfl w.heap.size 5 i0 z0 1 Try.underlying22 hi hz hz0 hz1 hz2 (.slice none 0 0) [] rfl (Row1.nil _ _ _) _ (A.map (·.add k)) (bs.length - k) (cap - k) (encB D) rfl (hsuf.out.keeps k1 (Nat.le_refl _) (by simp [rowBlk])) encB_one (by unfold maxLen; first | (simp; done) | (simp; omega)) (by first | (simp; done) | (simp; omega)) sz1; intro r2 w2 hrow2 k2 hm2; obtain ⟨A3, cap3, rfl, _⟩ := hrow2.reads; have g2 := g1.keep k2 (by simp [rowBlk]); have e0 := g2.cell 0; have e0f := g2.frozen 0; have e1 := g2.cell 1; have e2 := g2.cell 2; have e2f := g2.frozen 2; simp at e0 e1 e2))
          have HF := rfin g2 (k1.step k2 (by simp [rowBlk])) (by simpa using hrow1.keep k2 (by simp [rowBlk])) (by simpa using hrow2) hB hblt
          go_ret2
          try rw [Hov.out]
          first | exact ⟨_, _, rfl, HF.1, HF.2.1, HF.2.2.1, HF.2.2.2⟩ | exact ⟨_, rfl, HF.1, _, HF.2.1, HF.2.2.1, HF.2.2.2⟩
      · have hq : ((((encB D).length : Nat) : Int) == 0) = false := by simp only [beq_eq_false_iff_ne]; omega
        have Hd := Lib.hid hd
        clear hd
        cases en <;> cases to
        · have Hov : Hid (overB D false = false) := Lib.hid (by have := Hd.out; rw [encB_len] at this; simp [overB, this])
          go_enter Try.func20, Try.ntmps20
          go_wp2_with (first
            | (at_builtin; apply wpList_append_row _ rfl _ _ _ rfl w.heap.size 5 i0 z0 1 Try.underlying22 hi hz hz0 hz1 hz2 (.slice none 0 0) [] rfl (Row1.nil _ _ _) _ A k cap (encB T) rfl hpre.out encB_one (by unfold maxLen; simp; omega) (by simp; omega) (Nat.le_refl _); intro r1 w1 hrow1 k1 hm1; obtain ⟨A1, cap1, rfl, _⟩ := hrow1.reads; have sz1 := k1.size; have g1 := hb.out.keep k1 (by simp [rowBlk]); have d0 := g1.cell 0; simp at d0)
            | (at_builtin; apply wpList_append_row _ rfl _ _ _ rfl w.heap.size 5 i0 z0 1 Try.underlying22 hi hz hz0 hz1 hz2 (.slice none 0 0) [] rfl (Row1.nil _ _ _) _ (A.map (·.add k)) (bs.length - k) (cap - k) (encB D) rfl (hsuf.out.keeps k1 (Nat.le_refl _) (by simp [rowBlk])) encB_one (by unfold maxLen; first | (simp; done) | (simp; omega)) (by first | (simp; done) | (simp; omega)) sz1; intro r2 w2 hrow2 k2 hm2; obtain ⟨A3, cap3, rfl, _⟩ := hrow2.reads; have g2 := g1.keep k2 (by simp [rowBlk]); have e0 := g2.cell 0; have e0f := g2.frozen 0; have e1 := g2.cell 1; have e2 := g2.cell 2; have e2f := g2.frozen 2; simp at e0 e1 e2))
          have HF := rfin g2 (k1.step k2 (by simp [rowBlk])) (by simpa using hrow1.keep k2 (by simp [rowBlk])) (by simpa using hrow2) hB hblt
          go_ret2
          try rw [Hov.out]
          first | exact ⟨_, _, rfl, HF.1, HF.2.1, HF.2.2.1, HF.2.2.2⟩ | exact ⟨_, rfl, HF.1, _, HF.2.1, HF.2.2.1, HF.2.2.2⟩
        · have Hov : Hid (overB D false = false) := Lib.hid (by have := Hd.out; rw [encB_len] at this; simp [overB, this])
          go_enter Try.func20, Try.ntmps20
          go_wp2_with (first
            | (at_builtin; apply wpList_append_row _ rfl _ _ _ rfl w.heap.size 5 i0 z0 1 Try.underlying22 hi hz hz0 hz1 hz2 (.slice none 0 0) [] rfl (Row1.nil _ _ _) _ A k cap (encB T) rfl hpre.out encB_one (by unfold maxLen; simp; omega) (by simp; omega) (Nat.le_refl _); intro r1 w1 hrow1 k1 hm1; obtain ⟨A1, cap1, rfl, _⟩ := hrow1.reads; have sz1 := k1.size; have g1 := hb.out.keep k1 (by simp [rowBlk]); have d0 := g1.cell 0; simp at d0)
            | (at_builtin; apply wpList_append_row _ rfl _ _ _ rfl w.heap.size 5 i0 z0 1 Try.underlying22 hi hz hz0 hz1 hz2 (.slice none 0 0) [] rfl (Row1.nil _ _ _) _ (A.map (·.add k)) (bs.length - k) (cap - k) (encB D) rfl (hsuf.out.keeps k1 (Nat.le_refl _) (by simp [rowBlk])) encB_one (by unfold maxLen; first | (simp; done) | (simp; omega)) (by first | (simp; done) | (simp; omega)) sz1; intro r2 w2 hrow2 k2 hm2; obtain ⟨A3, cap3, rfl, _⟩ := hrow2.reads; have g2 := g1.keep k2 (by simp [rowBlk]); have e0 := g2.cell 0; have e0f := g2.frozen 0; have e1 := g2.cell 1; have e2 := g2.cell 2; have e2f := g2.frozen 2; simp at e0 e1 e2))
          have HF := rfin g2 (k1.step k2 (by simp [rowBlk])) (by simpa using hrow1.keep k2 (by simp [rowBlk])) (by simpa using hrow2) hB hblt
          go_ret2
          try rw [Hov.out]
          first | exact ⟨_, _, rfl, HF.1, HF.2.1, HF.2.2.1, HF.2.2.2⟩ | exact ⟨_, rfl, HF.1, _, HF.2.1, HF.2.2.1, HF.2.2.2⟩
        · have Hov : Hid (overB D true = false) := Lib.hid (by have := Hd.out; rw [encB_len] at this; simp [overB, this])
          go_enter Try.func20, Try.ntmps20
          go_wp2_with (first
            | (at_builtin; apply wpList_append_row _ rfl _ _ _ rfl w.heap.size 5 i0 z0 1 Try.underlying22 hi hz hz0 hz1 hz2 (.slice none 0 0) [] rfl (Row1.nil _ _ _) _ A k cap (encB T) rfl hpre.out encB_one (by unfold maxLen; simp; omega) (by simp; omega) (Nat.le_refl _); intro r1 w1 hrow1 k1 hm1; obtain ⟨A1, cap1, rfl, _⟩ := hrow1.reads; have sz1 := k1.size; have g1 := hb.out.keep k1 (by simp [rowBlk]); have d0 := g1.cell 0; simp at d0)
            | (at_builtin; apply wpList_append_row _ rfl _ _ _ rfl w.heap.size 5 i0 z0 1 Try.underlying22 hi hz hz0 hz1 hz2 (.slice none 0 0) [] rfl (Row1.nil _ _ _) _ (A.map (·.add k)) (bs.length - k) (cap - k) (encB D) rfl (hsuf.out.keeps k1 (Nat.le_refl _) (by simp [rowBlk])) encB_one (by unfold maxLen; first | (simp; done) | (simp; omega)) (by first | (simp; done) | (simp; omega)) sz1; intro r2 w2 hrow2 k2 hm2; obtain ⟨A3, cap3, rfl, _⟩ := hrow2.reads; have g2 := g1.keep k2 (by simp [rowBlk]); have e0 := g2.cell 0; have e0f := g2.frozen 0; have e1 := g2.cell 1; have e2 := g2.cell 2; have e2f := g2.frozen 2; simp at e0 e1 e2))
          have HF := rfin g2 (k1.step k2 (by simp [rowBlk])) (by simpa using hrow1.keep k2 (by simp [rowBlk])) (by simpa using hrow2) hB hblt
          go_ret2
          try rw [Hov.out]
          first | exact ⟨_, _, rfl, HF.1, HF.2.1, HF.2.2.1, HF.2.2.2⟩ | exact ⟨_, rfl, HF.1, _, HF.2.1, HF.2.2.1, HF.2.2.2⟩
        · have Hov : Hid (overB D true = false) := Lib.hid (by have := Hd.out; rw [encB_len] at this; simp [overB, this])
          go_enter Try.func20, Try.ntmps20
          go_wp2_with (first
            | (at_builtin; apply wpList_append_row _ rfl _ _ _ rfl w.heap.size 5 i0 z0 1 Try.underlying22 hi hz hz0 hz1 hz2 (.slice none 0 0) [] rfl (Row1.nil _ _ _) _ A k cap (encB T) rfl hpre.out encB_one (by unfold maxLen; simp; omega) (by simp; omega) (Nat.le_refl _); intro r1 w1 hrow1 k1 hm1; obtain ⟨A1, cap1, rfl, _⟩ := hrow1.reads; have sz1 := k1.size; have g1 := hb.out.keep k1 (by simp [rowBlk]); have d0 := g1.cell 0; simp at d0)
            | (at_builtin; apply wpList_append_row _ rfl _ _ _ rfl w.heap.size 5 i0 z0 1 Try.underlying22 hi hz hz0 hz1 hz2 (.slice none 0 0) [] rfl (Row1.nil _ _ _) _ (A.map (·.add k)) (bs.length - k) (cap - k) (encB D) rfl (hsuf.out.keeps k1 (Nat.le_refl _) (by simp [rowBlk])) encB_one (by unfold maxLen; first | (simp; done) | (simp; omega)) (by first | (simp; done) | (simp; omega)) sz1; intro r2 w2 hrow2 k2 hm2; obtain ⟨A3, cap3, rfl, _⟩ := hrow2.reads; have g2 := g1.keep k2 (by simp [rowBlk]); have e0 := g2.cell 0; have e0f := g2.frozen 0; have e1 := g2.cell 1; have e2 := g2.cell 2; have e2f := g2.frozen 2; simp at e0 e1 e2))
          have HF := rfin g2 (k1.step k2 (by simp [rowBlk])) (by simpa using hrow1.keep k2 (by simp [rowBlk])) (by simpa using hrow2) hB hblt
          go_ret2
          try rw [Hov.out]
          first | exact ⟨_, _, rfl, HF.1, HF.2.1, HF.2.2.1, HF.2.2.2⟩ | exact ⟨_, rfl, HF.1, _, HF.2.1, HF.2.2.1, HF.2.2.2⟩
  · have hgt : (bs.length : Int) < (n : Int) := by omega
    obtain rfl : k = bs.length := by omega
    clear hk
    have hsuf := hsuf.out
    rw [show bs.length - bs.length = 0 by omega] at hsuf
    have hsuf := Lib.hid hsuf
    by_cases hcap : cap = bs.length
    · subst hcap
      rw [if_pos rfl] at hsuf
      by_cases hd : (encB D).length = 0
      · have hq : ((((encB D).length : Nat) : Int) == 0) = true := by rw [beq_iff_eq]; omega
        have Hd := Lib.hid hd
        clear hd
        cases en <;> cases to
        · have Hov : Hid (overB D false = false) := Lib.hid (by have := Hd.out; rw [encB_len] at this; simp [overB, this])
          go_enter Try.func20, Try.ntmps20
          go_wp2_with (first
            | (at_builtin; apply wpList_append_row _ rfl _ _ _ rfl w.heap.size 5 i0 z0 1 Try.underlying22 hi hz hz0 hz1 hz2 (.slice none 0 0) [] rfl (Row1.nil _ _ _) _ A bs.length bs.length (encB T) rfl hpre.out encB_one (by unfold maxLen; simp; omega) (by simp; omega) (Nat.le_refl _); intro r1 w1 hrow1 k1 hm1; obtain ⟨A1, cap1, rfl, _⟩ := hrow1.reads; have sz1 := k1.size; have g1 := hb.out.keep k1 (by simp [rowBlk]); have d0 := g1.cell 0; simp at d0)
            | (at_builtin; apply wpList_append_row _ rfl _ _ _ rfl w.heap.size 5 i0 z0 1 Try.underlying22 hi hz hz0 hz1 hz2 (.slice none 0 0) [] rfl (Row1.nil _ _ _) _ (A) (0) (0) (encB D) rfl (hsuf.out.keeps k1 (Nat.le_refl _) (by simp [rowBlk])) encB_one (by unfold maxLen; first | (simp; done) | (simp; omega)) (by first | (simp; done) | (simp; omega)) sz1; intro r2 w2 hrow2 k2 hm2; obtain ⟨A3, cap3, rfl, _⟩ := hrow2.reads; have g2 := g1.keep k2 (by simp [rowBlk]); have e0 := g2.cell 0; have e0f := g2.frozen 0; have e1 := g2.cell 1; have e2 := g2.cell 2; have e2f := g2.frozen 2; simp at e0 e1 e2))
          have HF := rfin g2 (k1.step k2 (by simp [rowBlk])) (by simpa using hrow1.keep k2 (by simp [rowBlk])) (by simpa using hrow2) hB hblt
          go_ret2
          try rw [Hov.out]
          first | exact ⟨_, _, rfl, HF.1, HF.2.1, HF.2.2.1, HF.2.2.2⟩ | exact ⟨_, rfl, HF.1, _, HF.2.1, HF.2.2.1, HF.2.2.2⟩
        · have Hov : Hid (overB D false = false) := Lib.hid (by have := Hd.out; rw [encB_len] at this; simp [overB, this])
          go_enter Try.func20, Try.ntmps20
          go_wp2_with (first
            | (at_builtin; apply wpList_append_row _ rfl _ _ _ rfl w.heap.size 5 i0 z0 1 Try.underlying22 hi hz hz0 hz1 hz2 (.slice none 0 0) [] rfl (Row1.nil _ _ _) _ A bs.length bs.length (encB T) rfl hpre.out encB_one (by unfold maxLen; simp; omega) (by simp; omega) (Nat.le_refl _); intro r1 w1 hrow1 k1 hm1; obtain ⟨A1, cap1, rfl, _⟩ := hrow1.reads; have sz1 := k1.size; have g1 := hb.out.keep k1 (by simp [rowBlk]); have d0 := g1.cell 0; simp at d0)
            | (at_builtin; apply wpList_append_row _ rfl _ _ _ rfl w.heap.size 5 i0 z0 1 Try.underlying22 hi hz hz0 hz1 hz2 (.slice none 0 0) [] rfl (Row1.nil _ _ _) _ (A) (0) (0) (encB D) rfl (hsuf.out.keeps k1 (Nat.le_refl _) (by simp [rowBlk])) encB_one (by unfold maxLen; first | (simp; done) | (simp; omega)) (by first | (simp; done) | (simp; omega)) sz1; intro r2 w2 hrow2 k2 hm2; obtain ⟨A3, cap3, rfl, _⟩ := hrow2.reads; have g2 := g1.keep k2 (by simp [rowBlk]); have e0 := g2.cell 0; have e0f := g2.frozen 0; have e1 := g2.cell 1; have e2 := g2.cell 2; have e2f := g2.frozen 2; simp at e0 e1 e2))
          have HF := rfin g2 (k1.step k2 (by simp [rowBlk])) (by simpa using hrow1.keep k2 (by simp [rowBlk])) (by simpa using hrow2) hB hblt
          go_ret2
          try rw [Hov.out]
          first | exact ⟨_, _, rfl, HF.1, HF.2.1, HF.2.2.1, HF.2.2.2⟩ | exact ⟨_, rfl, HF.1, _, HF.2.1, HF.2.2.1, HF.2.2.2⟩
        · have Hov : Hid (overB D true = true) := Lib.hid (by have := Hd.out; rw [encB_len] at this; simp [overB, this])
          go_enter Try.func20, Try.ntmps20
          go_wp2_with (first
            | (at_builtin; apply wpList_append_row _ rfl _ _ _ rfl w.heap.size 5 i0 z0 1 Try.underlying22 hi hz hz0 hz1 hz2 (.slice none 0 0) [] rfl (Row1.nil _ _ _) _ A bs.length bs.length (encB T) rfl hpre.out encB_one (by unfold maxLen; simp; omega) (by simp; omega) (Nat.le_refl _); intro r1 w1 hrow1 k1 hm1; obtain ⟨A1, cap1, rfl, _⟩ := hrow1.reads; have sz1 := k1.size; have g1 := hb.out.keep k1 (by simp [rowBlk]); have d0 := g1.cell 0; simp at d0)
            | (at_builtin; apply wpList_append_row _ rfl _ _ _ rfl w.heap.size 5 i0 z0 1 Try.underlying22 hi hz hz0 hz1 hz2 (.slice none 0 0) [] rfl (Row1.nil _ _ _) _ (A) (0) (0) (encB D) rfl (hsuf.out.keeps k1 (Nat.le_refl _) (by simp [rowBlk])) encB_one (by unfold maxLen; first | (simp; done) | (simp; omega)) (by first | (simp; done) | (simp; omega)) sz1; intro r2 w2 hrow2 k2 hm2; obtain ⟨A3, cap3, rfl, _⟩ := hrow2.reads; have g2 := g1.keep k2 (by simp [rowBlk]); have e0 := g2.cell 0; have e0f := g2.frozen 0; have e1 := g2.cell 1; have e2 := g2.cell 2; have e2f := g2.frozen 2; simp at e0 e1 e2))
          have HF := rfin g2 (k1.step k2 (by simp [rowBlk])) (by simpa using hrow1.keep k2 (by simp [rowBlk])) (by simpa using hrow2) hB hblt
          go_ret2
          try rw [Hov.out]
          first | exact ⟨_, _, rfl, row_told HF.1 hblt _, HF.2.1.setTold (by decide) _, HF.2.2.1.setCell (p := ⟨pb, 2, none⟩) (.inl (by simp)) _, HF.2.2.2⟩ | exact ⟨_, rfl, row_told HF.1 hblt _, _, HF.2.1.setTold (by decide) _, HF.2.2.1.setCell (p := ⟨pb, 2, none⟩) (.inl (by simp)) _, HF.2.2.2⟩
        · have Hov : Hid (overB D true = true) := Lib.hid (by have := Hd.out; rw [encB_len] at this; simp [overB, this])
          go_enter Try.func20, Try.ntmps20
          go_wp2_with (first
            | (at_builtin; apply wpList_append_row _ rfl _ _ _ rfl w.heap.size 5 i0 z0 1 Try.underlying22 hi hz hz0 hz1 hz2 (.slice none 0 0) [] rfl (Row1.nil _ _ _) _ A bs.length bs.length (encB T) rfl hpre.out encB_one (by unfold maxLen; simp; omega) (by simp; omega) (Nat.le_refl _); intro r1 w1 hrow1 k1 hm1; obtain ⟨A1, cap1, rfl, _⟩ := hrow1.reads; have sz1 := k1.size; have g1 := hb.out.keep k1 (by simp [rowBlk]); have d0 := g1.cell 0; simp at d0)
            | (at_builtin; apply wpList_append_row _ rfl _ _ _ rfl w.heap.size 5 i0 z0 1 Try.underlying22 hi hz hz0 hz1 hz2 (.slice none 0 0) [] rfl (Row1.nil _ _ _) _ (A) (0) (0) (encB D) rfl (hsuf.out.keeps k1 (Nat.le_refl _) (by simp [rowBlk])) encB_one (by unfold maxLen; first | (simp; done) | (simp; omega)) (by first | (simp; done) | (simp; omega)) sz1; intro r2 w2 hrow2 k2 hm2; obtain ⟨A3, cap3, rfl, _⟩ := hrow2.reads; have g2 := g1.keep k2 (by simp [rowBlk]); have e0 := g2.cell 0; have e0f := g2.frozen 0; have e1 := g2.cell 1; have e2 := g2.cell 2; have e2f := g2.frozen 2; simp at e0 e1 e2))
          have HF := rfin g2 (k1.step k2 (by simp [rowBlk])) (by simpa using hrow1.keep k2 (by simp [rowBlk])) (by simpa using hrow2) hB hblt
          go_ret2
          try rw [Hov.out]
          first | exact ⟨_, _, rfl, HF.1, HF.2.1, HF.2.2.1, HF.2.2.2⟩ | exact ⟨_, rfl, HF.1, _, HF.2.1, HF.2.2.1, HF.2.2.2⟩
      · have hq : ((((encB D).length : Nat) : Int) == 0) = false := by simp only [beq_eq_false_iff_ne]; omega
        have Hd := Lib.hid hd
        clear hd
        cases en <;> cases to
        · have Hov : Hid (overB D false = false) := Lib.hid (by have := Hd.out; rw [encB_len] at this; simp [overB, this])
          go_enter Try.func20, Try.ntmps20
          go_wp2_with (first
            | (at_builtin; apply wpList_append_row _ rfl _ _ _ rfl w.heap.size 5 i0 z0 1 Try.underlying22 hi hz hz0 hz1 hz2 (.slice none 0 0) [] rfl (Row1.nil _ _ _) _ A bs.length bs.length (encB T) rfl hpre.out encB_one (by unfold maxLen; simp; omega) (by simp; omega) (Nat.le_refl _); intro r1 w1 hrow1 k1 hm1; obtain ⟨A1, cap1, rfl, _⟩ := hrow1.reads; have sz1 := k1.size; have g1 := hb.out.keep k1 (by simp [rowBlk]); have d0 := g1.cell 0; simp at d0)
            | (at_builtin; apply wpList_append_row _ rfl _ _ _ rfl w.heap.size 5 i0 z0 1 Try.underlying22 hi hz hz0 hz1 hz2 (.slice none 0 0) [] rfl (Row1.nil _ _ _) _ (A) (0) (0) (encB D) rfl (hsuf.out.keeps k1 (Nat.le_refl _) (by simp [rowBlk])) encB_one (by unfold maxLen; first | (simp; done) | (simp; omega)) (by first | (simp; done) | (simp; omega)) sz1; intro r2 w2 hrow2 k2 hm2; obtain ⟨A3, cap3, rfl, _⟩ := hrow2.reads; have g2 := g1.keep k2 (by simp [rowBlk]); have e0 := g2.cell 0; have e0f := g2.frozen 0; have e1 := g2.cell 1; have e2 := g2.cell 2; have e2f := g2.frozen 2; simp at e0 e1 e2))
          have HF := rfin g2 (k1.step k2 (by simp [rowBlk])) (by simpa using hrow1.keep k2 (by simp [rowBlk])) (by simpa using hrow2) hB hblt
          go_ret2
          try rw [Hov.out]
          first | exact ⟨_, _, rfl, HF.1, HF.2.1, HF.2.2.1, HF.2.2.2⟩ | exact ⟨_, rfl, HF.1, _, HF.2.1, HF.2.2.1, HF.2.2.2⟩
        · have Hov : Hid (overB D false = false) := Lib.hid (by have := Hd.out; rw [encB_len] at this; simp [overB, this])
          go_enter Try.func20, Try.ntmps20
          go_wp2_with (first
            | (at_builtin; apply wpList_append_row _ rfl _ _ _ rfl w.heap.size 5 i0 z0 1 Try.underlying22 hi hz hz0 hz1 hz2 (.slice none 0 0) [] rfl (Row1.nil _ _ _) _ A bs.length bs.length (encB T) rfl hpre.out encB_one (by unfold maxLen; simp; omega) (by simp; omega) (Nat.le_refl _); intro r1 w1 hrow1 k1 hm1; obtain ⟨A1, cap1, rfl, _⟩ := hrow1.reads; have sz1 := k1.size; have g1 := hb.out.keep k1 (by simp [rowBlk]); have d0 := g1.cell 0; simp at d0)
            | (at_builtin; apply wpList_append_row _ rfl _ _ _ rfl w.heap.size 5 i0 z0 1 Try.underlying22 hi hz hz0 hz1 hz2 (.slice none 0 0) [] rfl (Row1.nil _ _ _) _ (A) (0) (0) (encB D) rfl (hsuf.out.keeps k1 (Nat.le_refl _) (by simp [rowBlk])) encB_one (by unfold maxLen; first | (simp; done) | (simp; omega)) (by first | (simp; done) | (simp; omega)) sz1; intro r2 w2 hrow2 k2 hm2; obtain ⟨A3, cap3, rfl, _⟩ := hrow2.reads; have g2 := g1.keep k2 (by simp [rowBlk]); have e0 := g2.cell 0; have e0f := g2.frozen 0; have e1 := g2.cell 1; have e2 := g2.cell 2; have e2f := g2.frozen 2; simp at e0 e1 e2))
          have HF := rfin g2 (k1.step k2 (by simp [rowBlk])) (by simpa using hrow1.keep k2 (by simp [rowBlk])) (by simpa using hrow2) hB hblt
          go_ret2
          try rw [Hov.out]
          first | exact ⟨_, _, rfl, HF.1, HF.2.1, HF.2.2.1, HF.2.2.2⟩ | exact ⟨_, rfl, HF.1, _, HF.2.1, HF.2.2.1, HF.2.2.2⟩
        · have Hov : Hid (overB D true = false) := Lib.hid (by have := Hd.out; rw [encB_len] at this; simp [overB, this])
          go_enter Try.func20, Try.ntmps20
          go_wp2_with (first
            | (at_builtin; apply wpList_append_row _ rfl _ _ _ rfl w.heap.size 5 i0 z0 1 Try.underlying22 hi hz hz0 hz1 hz2 (.slice none 0 0) [] rfl (Row1.nil _ _ _) _ A bs.length bs.length (encB T) rfl hpre.out encB_one (by unfold maxLen; simp; omega) (by simp; omega) (Nat.le_refl _); intro r1 w1 hrow1 k1 hm1; obtain ⟨A1, cap1, rfl, _⟩ := hrow1.reads; have sz1 := k1.size; have g1 := hb.out.keep k1 (by simp [rowBlk]); have d0 := g1.cell 0; simp at d0)
            | (at_builtin; apply wpList_append_row _ rfl _ _ _ rfl w.heap.size 5 i0 z0 1 Try.underlying22 hi hz hz0 hz1 hz2 (.slice none 0 0) [] rfl (Row1.nil _ _ _) _ (A) (0) (0) (encB D) rfl (hsuf.out.keeps k1 (Nat.le_refl _) (by simp [rowBlk])) encB_one (by unfold maxLen; first | (simp; done) | (simp; omega)) (by first | (simp; done) | (simp; omega)) sz1; intro r2 w2 hrow2 k2 hm2; obtain ⟨A3, cap3, rfl, _⟩ := hrow2.reads; have g2 := g1.keep k2 (by simp [rowBlk]); have e0 := g2.cell 0; have e0f := g2.frozen 0; have e1 := g2.cell 1; have e2 := g2.cell 2; have e2f := g2.frozen 2; simp at e0 e1 e2))
          have HF := rfin g2 (k1.step k2 (by simp [rowBlk])) (by simpa using hrow1.keep k2 (by simp [rowBlk])) (by simpa using hrow2) hB hblt
          go_ret2
          try rw [Hov.out]
          first | exact ⟨_, _, rfl, HF.1, HF.2.1, HF.2.2.1, HF.2.2.2⟩ | exact ⟨_, rfl, HF.1, _, HF.2.1, HF.2.2.1, HF.2.2.2⟩
        · have Hov : Hid (overB D true = false) := Lib.hid (by have := Hd.out; rw [encB_len] at this; simp [overB, this])
          go_enter Try.func20, Try.ntmps20
          go_wp2_with (first
            | (at_builtin; apply wpList_append_row _ rfl _ _ _ rfl w.heap.size 5 i0 z0 1 Try.underlying22 hi hz hz0 hz1 hz2 (.slice none 0 0) [] rfl (Row1.nil _ _ _) _ A bs.length bs.length (encB T) rfl hpre.out encB_one (by unfold maxLen; simp; omega) (by simp; omega) (Nat.le_refl _); intro r1 w1 hrow1 k1 hm1; obtain ⟨A1, cap1, rfl, _⟩ := hrow1.reads; have sz1 := k1.size; have g1 := hb.out.keep k1 (by simp [rowBlk]); have d0 := g1.cell 0; simp at d0)
            | (at_builtin; apply wpList_append_row _ rfl _ _ _ rfl w.heap.size 5 i0 z0 1 Try.underlying22 hi hz hz0 hz1 hz2 (.slice none 0 0) [] rfl (Row1.nil _ _ _) _ (A) (0) (0) (encB D) rfl (hsuf.out.keeps k1 (Nat.le_refl _) (by simp [rowBlk])) encB_one (by unfold maxLen; first | (simp; done) | (simp; omega)) (by first | (simp; done) | (simp; omega)) sz1; intro r2 w2 hrow2 k2 hm2; obtain ⟨A3, cap3, rfl, _⟩ := hrow2.reads; have g2 := g1.keep k2 (by simp [rowBlk]); have e0 := g2.cell 0; have e0f := g2.frozen 0; have e1 := g2.cell 1; have e2 := g2.cell 2; have e2f := g2.frozen 2; simp at e0 e1 e2))
          have HF := rfin g2 (k1.step k2 (by simp [rowBlk])) (by simpa using hrow1.keep k2 (by simp [rowBlk])) (by simpa using hrow2) hB hblt
          go_ret2
          try rw [Hov.out]
          first | exact ⟨_, _, rfl, HF.1, HF.2.1, HF.2.2.1, HF.2.2.2⟩ | exact ⟨_, rfl, HF.1, _, HF.2.1, HF.2.2.1, HF.2.2.2⟩
    · rw [if_neg hcap] at hsuf
      by_cases hd : (encB D).length = 0
      · have hq : ((((encB D).length : Nat) : Int) == 0) = true := by rw [beq_iff_eq]; omega
        have Hd := Lib.hid hd
        clear hd
        cases en <;> cases to
        · have Hov : Hid (overB D false = false) := Lib.hid (by have := Hd.out; rw [encB_len] at this; simp [overB, this])
          go_enter Try.func20, Try.ntmps20
          go_wp2_with (first
            | (at_builtin; apply wpList_append_row _ rfl _ _ _ rfl w.heap.size 5 i0 z0 1 Try.underlying22 hi hz hz0 hz1 hz2 (.slice none 0 0) [] rfl (Row1.nil _ _ _) _ A bs.length cap (encB T) rfl hpre.out encB_one (by unfold maxLen; simp; omega) (by simp; omega) (Nat.le_refl _); intro r1 w1 hrow1 k1 hm1; obtain ⟨A1, cap1, rfl, _⟩ := hrow1.reads; have sz1 := k1.size; have g1 := hb.out.keep k1 (by simp [rowBlk]); have d0 := g1.cell 0; simp at d0)
            | (at_builtin; apply wpList_append_row _ rfl _ _ _ rfl w.heap.size 5 i0 z0 1 Try.underlying22 hi hz hz0 hz1 hz2 (.slice none 0 0) [] rfl (Row1.nil _ _ _) _ (A.map (·.add bs.length)) (0) (cap - bs.length) (encB D) rfl (hsuf.out.keeps k1 (Nat.le_refl _) (by simp [rowBlk])) encB_one (by unfold maxLen; first | (simp; done) | (simp; omega)) (by first | (simp; done) | (simp; omega)) sz1; intro r2 w2 hrow2 k2 hm2; obtain ⟨A3, cap3, rfl, _⟩ := hrow2.reads; have g2 := g1.keep k2 (by simp [rowBlk]); have e0 := g2.cell 0; have e0f := g2.frozen 0; have e1 := g2.cell 1; have e2 := g2.cell 2; have e2f := g2.frozen 2; simp at e0 e1 e2))
          have HF := rfin g2 (k1.step k2 (by simp [rowBlk])) (by simpa using hrow1.keep k2 (by simp [rowBlk])) (by simpa using hrow2) hB hblt
          go_ret2
          try rw [Hov.out]
          first | exact ⟨_, _, rfl, HF.1, HF.2.1, HF.2.2.1, HF.2.2.2⟩ | exact ⟨_, rfl, HF.1, _, HF.2.1, HF.2.2.1, HF.2.2.2⟩
        · have Hov : Hid (overB D false = false) := Lib.hid (by have := Hd.out; rw [encB_len] at this; simp [overB, this])
          go_enter Try.func20, Try.ntmps20
          go_wp2_with (first
            | (at_builtin; apply wpList_append_row _ rfl _ _ _ rfl w.heap.size 5 i0 z0 1 Try.underlying22 hi hz hz0 hz1 hz2 (.slice none 0 0) [] rfl (Row1.nil _ _ _) _ A bs.length cap (encB T) rfl hpre.out encB_one (by unfold maxLen; simp; omega) (by simp; omega) (Nat.le_refl _); intro r1 w1 hrow1 k1 hm1; obtain ⟨A1, cap1, rfl, _⟩ := hrow1.reads; have sz1 := k1.size; have g1 := hb.out.keep k1 (by simp [rowBlk]); have d0 := g1.cell 0; simp at d0)
            | (at_builtin; apply wpList_append_row _ rfl _ _ _ rfl w.heap.size 5 i0 z0 1 Try.underlying22 hi hz hz0 hz1 hz2 (.slice none 0 0) [] rfl (Row1.nil _ _ _) _ (A.map (·.add bs.length)) (0) (cap - bs.length) (encB D) rfl (hsuf.out.keeps k1 (Nat.le_refl _) (by simp [rowBlk])) encB_one (by unfold maxLen; first | (simp; done) | (simp; omega)) (by first | (simp; done) | (simp; omega)) sz1; intro r2 w2 hrow2 k2 hm2; obtain ⟨A3, cap3, rfl, _⟩ := hrow2.reads; have g2 := g1.keep k2 (by simp [rowBlk]); have e0 := g2.cell 0; have e0f := g2.frozen 0; have e1 := g2.cell 1; have e2 := g2.cell 2; have e2f := g2.frozen 2; simp at e0 e1 e2))
          have HF := rfin g2 (k1.step k2 (by simp [rowBlk])) (by simpa using hrow1.keep k2 (by simp [rowBlk])) (by simpa using hrow2) hB hblt
          go_ret2
          try rw [Hov.out]
          first | exact ⟨_, _, rfl, HF.1, HF.2.1, HF.2.2.1, HF.2.2.2⟩ | exact ⟨_, rfl, HF.1, _, HF.2.1, HF.2.2.1, HF.2.2.2⟩
        · have Hov : Hid (overB D true = true) := Lib.hid (by have := Hd.out; rw [encB_len] at this; simp [overB, this])
          go_enter Try.func20, Try.ntmps20
          go_wp2_with (first
            | (at_builtin; apply wpList_append_row _ rfl _ _ _ rfl w.heap.size 5 i0 z0 1 Try.underlying22 hi hz hz0 hz1 hz2 (.slice none 0 0) [] rfl (Row1.nil _ _ _) _ A bs.length cap (encB T) rfl hpre.out encB_one (by unfold maxLen; simp; omega) (by simp; omega) (Nat.le_refl _); intro r1 w1 hrow1 k1 hm1; obtain ⟨A1, cap1, rfl, _⟩ := hrow1.reads; have sz1 := k1.size; have g1 := hb.out.keep k1 (by simp [rowBlk]); have d0 := g1.cell 0; simp at d0)
            | (at_builtin; apply wpList_append_row _ rfl _ _ _ rfl w.heap.size 5 i0 z0 1 Try.underlying22 hi hz hz0 hz1 hz2 (.slice none 0 0) [] rfl (Row1.nil _ _ _) _ (A.map (·.add bs.length)) (0) (cap - bs.length) (encB D) rfl (hsuf.out.keeps k1 (Nat.le_refl _) (by simp [rowBlk])) encB_one (by unfold maxLen; first | (simp; done) | (simp; omega)) (by first | (simp; done) | (simp; omega)) sz1; intro r2 w2 hrow2 k2 hm2; obtain ⟨A3, cap3, rfl, _⟩ := hrow2.reads; have g2 := g1.keep k2 (by simp [rowBlk]); have e0 := g2.cell 0; have e0f := g2.frozen 0; have e1 := g2.cell 1; have e2 := g2.cell 2; have e2f := g2.frozen 2; simp at e0 e1 e2))
          have HF := rfin g2 (k1.step k2 (by simp [rowBlk])) (by simpa using hrow1.keep k2 (by simp [rowBlk])) (by simpa using hrow2) hB hblt
          go_ret2
          try rw [Hov.out]
          first | exact ⟨_, _, rfl, row_told HF.1 hblt _, HF.2.1.setTold (by decide) _, HF.2.2.1.setCell (p := ⟨pb, 2, none⟩) (.inl (by simp)) _, HF.2.2.2⟩ | exact ⟨_, rfl, row_told HF.1 hblt _, _, HF.2.1.setTold (by decide) _, HF.2.2.1.setCell (p := ⟨pb, 2, none⟩) (.inl (by simp)) _, HF.2.2.2⟩
        · have Hov : Hid (overB D true = true) := Lib.hid (by have := Hd.out; rw [encB_len] at this; simp [overB, this])
          go_enter Try.func20, Try.ntmps20
          go_wp2_with (first
            | (at_builtin; apply wpList_append_row _ rfl _ _ _ rfl w.heap.size 5 i0 z0 1 Try.underlying22 hi hz hz0 hz1 hz2 (.slice none 0 0) [] rfl (Row1.nil _ _ _) _ A bs.length cap (encB T) rfl hpre.out encB_one (by unfold maxLen; simp; omega) (by simp; omega) (Nat.le_refl _); intro r1 w1 hrow1 k1 hm1; obtain ⟨A1, cap1, rfl, _⟩ := hrow1.reads; have sz1 := k1.size; have g1 := hb.out.keep k1 (by simp [rowBlk]); have d0 := g1.cell 0; simp at d0)
            | (at_builtin; apply wpList_append_row _ rfl _ _ _ rfl w.heap.size 5 i0 z0 1 Try.underlying22 hi hz hz0 hz1 hz2 (.slice none 0 0) [] rfl (Row1.nil _ _ _) _ (A.map (·.add bs.length)) (0) (cap - bs.length) (encB D) rfl (hsuf.out.keeps k1 (Nat.le_refl _) (by simp [rowBlk])) encB_one (by unfold maxLen; first | (simp; done) | (simp; omega)) (by first | (simp; done) | (simp; omega)) sz1; intro r2 w2 hrow2 k2 hm2; obtain ⟨A3, cap3, rfl, _⟩ := hrow2.reads; have g2 := g1.keep k2 (by simp [rowBlk]); have e0 := g2.cell 0; have e0f := g2.frozen 0; have e1 := g2.cell 1; have e2 := g2.cell 2; have e2f := g2.frozen 2; simp at e0 e1 e2))
          have HF := rfin g2 (k1.step k2 (by simp [rowBlk])) (by simpa using hrow1.keep k2 (by simp [rowBlk])) (by simpa using hrow2) hB hblt
          go_ret2
          try rw [Hov.out]
          first | exact ⟨_, _, rfl, HF.1, HF.2.1, HF.2.2.1, HF.2.2.2⟩ | exact ⟨_, rfl, HF.1, _, HF.2.1, HF.2.2.1, HF.2.2.2⟩
      · have hq : ((((encB D).length : Nat) : Int) == 0) = false := by simp only [beq_eq_false_iff_ne]; omega
        have Hd := Lib.hid hd
        clear hd
        cases en <;> cases to
        · have Hov : Hid (overB D false = false) := Lib.hid (by have := Hd.out; rw [encB_len] at this; simp [overB, this])
          go_enter Try.func20, Try.ntmps20
          go_wp2_with (first
            | (at_builtin; apply wpList_append_row _ rfl _ _ _ rfl w.heap.size 5 i0 z0 1 Try.underlying22 hi hz hz0 hz1 hz2 (.slice none 0 0) [] rfl (Row1.nil _ _ _) _ A bs.length cap (encB T) rfl hpre.out encB_one (by unfold maxLen; simp; omega) (by simp; omega) (Nat.le_refl _); intro r1 w1 hrow1 k1 hm1; obtain ⟨A1, cap1, rfl, _⟩ := hrow1.reads; have sz1 := k1.size; have g1 := hb.out.keep k1 (by simp [rowBlk]); have d0 := g1.cell 0; simp at d0)
            | (at_builtin; apply wpList_append_row _ rfl _ _ _ rfl w.heap.size 5 i0 z0 1 Try.underlying22 hi hz hz0 hz1 hz2 (.slice none 0 0) [] rfl (Row1.nil _ _ _) _ (A.map (·.add bs.length)) (0) (cap - bs.length) (encB D) rfl (hsuf.out.keeps k1 (Nat.le_refl _) (by simp [rowBlk])) encB_one (by unfold maxLen; first | (simp; done) | (simp; omega)) (by first | (simp; done) | (simp; omega)) sz1; intro r2 w2 hrow2 k2 hm2; obtain ⟨A3, cap3, rfl, _⟩ := hrow2.reads; have g2 := g1.keep k2 (by simp [rowBlk]); have e0 := g2.cell 0; have e0f := g2.frozen 0; have e1 := g2.cell 1; have e2 := g2.cell 2; have e2f := g2.frozen 2; simp at e0 e1 e2))
          have HF := rfin g2 (k1.step k2 (by simp [rowBlk])) (by simpa using hrow1.keep k2 (by simp [rowBlk])) (by simpa using hrow2) hB hblt
          go_ret2
          try rw [Hov.out]
          first | exact ⟨_, _, rfl, HF.1, HF.2.1, HF.2.2.1, HF.2.2.2⟩ | exact ⟨_, rfl, HF.1, _, HF.2.1, HF.2.2.1, HF.2.2.2⟩
        · have Hov : Hid (overB D false = false) := Lib.hid (by have := Hd.out; rw [encB_len] at this; simp [overB, this])
          go_enter Try.func20, Try.ntmps20
          go_wp2_with (first
            | (at_builtin; apply wpList_append_row _ rfl _ _ _ rfl w.heap.size 5 i0 z0 1 Try.underlying22 hi hz hz0 hz1 hz2 (.slice none 0 0) [] rfl (Row1.nil _ _ _) _ A bs.length cap (encB T) rfl hpre.out encB_one (by unfold maxLen; simp; omega) (by simp; omega) (Nat.le_refl _); intro r1 w1 hrow1 k1 hm1; obtain ⟨A1, cap1, rfl, _⟩ := hrow1.reads; have sz1 := k1.size; have g1 := hb.out.keep k1 (by simp [rowBlk]); have d0 := g1.cell 0; simp at d0)
            | (at_builtin; apply wpList_append_row _ rfl _ _ _ rfl w.heap.size 5 i0 z0 1 Try.underlying22 hi hz hz0 hz1 hz2 (.slice none 0 0) [] rfl (Row1.nil _ _ _) _ (A.map (·.add bs.length)) (0) (cap - bs.length) (encB D) rfl (hsuf.out.keeps k1 (Nat.le_refl _) (by simp [rowBlk])) encB_one (by unfold maxLen; first | (simp; done) | (simp; omega)) (by first | (simp; done) | (simp; omega)) sz1; intro r2 w2 hrow2 k2 hm2; obtain ⟨A3, cap3, rfl, _⟩ := hrow2.reads; have g2 := g1.keep k2 (by simp [rowBlk]); have e0 := g2.cell 0; have e0f := g2.frozen 0; have e1 := g2.cell 1; have e2 := g2.cell 2; have e2f := g2.frozen 2; simp at e0 e1 e2))
          have HF := rfin g2 (k1.step k2 (by simp [rowBlk])) (by simpa using hrow1.keep k2 (by simp [rowBlk])) (by simpa using hrow2) hB hblt
          go_ret2
          try rw [Hov.out]
          first | exact ⟨_, _, rfl, HF.1, HF.2.1, HF.2.2.1, HF.2.2.2⟩ | exact ⟨_, rfl, HF.1, _, HF.2.1, HF.2.2.1, HF.2.2.2⟩
        · have Hov : Hid (overB D true = false) := Lib.hid (by have := Hd.out; rw [encB_len] at this; simp [overB, this])
          go_enter Try.func20, Try.ntmps20
          go_wp2_with (first
            | (at_builtin; apply wpList_append_row _ rfl _ _ _ rfl w.heap.size 5 i0 z0 1 Try.underlying22 hi hz hz0 hz1 hz2 (.slice none 0 0) [] rfl (Row1.nil _ _ _) _ A bs.length cap (encB T) rfl hpre.out encB_one (by unfold maxLen; simp; omega) (by simp; omega) (Nat.le_refl _); intro r1 w1 hrow1 k1 hm1; obtain ⟨A1, cap1, rfl, _⟩ := hrow1.reads; have sz1 := k1.size; have g1 := hb.out.keep k1 (by simp [rowBlk]); have d0 := g1.cell 0; simp at d0)
            | (at_builtin; apply wpList_append_row _ rfl _ _ _ rfl w.heap.size 5 i0 z0 1 Try.underlying22 hi hz hz0 hz1 hz2 (.slice none 0 0) [] rfl (Row1.nil _ _ _) _ (A.map (·.add bs.length)) (0) (cap - bs.length) (encB D) rfl (hsuf.out.keeps k1 (Nat.le_refl _) (by simp [rowBlk])) encB_one (by unfold maxLen; first | (simp; done) | (simp; omega)) (by first | (simp; done) | (simp; omega)) sz1; intro r2 w2 hrow2 k2 hm2; obtain ⟨A3, cap3, rfl, _⟩ := hrow2.reads; have g2 := g1.keep k2 (by simp [rowBlk]); have e0 := g2.cell 0; have e0f := g2.frozen 0; have e1 := g2.cell 1; have e2 := g2.cell 2; have e2f := g2.frozen 2; simp at e0 e1 e2))
          have HF := rfin g2 (k1.step k2 (by simp [rowBlk])) (by simpa using hrow1.keep k2 (by simp [rowBlk])) (by simpa using hrow2) hB hblt
          go_ret2
          try rw [Hov.out]
          first | exact ⟨_, _, rfl, HF.1, HF.2.1, HF.2.2.1, HF.2.2.2⟩ | exact ⟨_, rfl, HF.1, _, HF.2.1, HF.2.2.1, HF.2.2.2⟩
        · have Hov : Hid (overB D true = false) := Lib.hid (by have := Hd.out; rw [encB_len] at this; simp [overB, this])
          go_enter Try.func20, Try.ntmps20
          go_wp2_with (first
            | (at_builtin; apply wpList_append_row _ rfl _ _ _ rfl w.heap.size 5 i0 z0 1 Try.underlying22 hi hz hz0 hz1 hz2 (.slice none 0 0) [] rfl (Row1.nil _ _ _) _ A bs.length cap (encB T) rfl hpre.out encB_one (by unfold maxLen; simp; omega) (by simp; omega) (Nat.le_refl _); intro r1 w1 hrow1 k1 hm1; obtain ⟨A1, cap1, rfl, _⟩ := hrow1.reads; have sz1 := k1.size; have g1 := hb.out.keep k1 (by simp [rowBlk]); have d0 := g1.cell 0; simp at d0)
            | (at_builtin; apply wpList_append_row _ rfl _ _ _ rfl w.heap.size 5 i0 z0 1 Try.underlying22 hi hz hz0 hz1 hz2 (.slice none 0 0) [] rfl (Row1.nil _ _ _) _ (A.map (·.add bs.length)) (0) (cap - bs.length) (encB D) rfl (hsuf.out.keeps k1 (Nat.le_refl _) (by simp [rowBlk])) encB_one (by unfold maxLen; first | (simp; done) | (simp; omega)) (by first | (simp; done) | (simp; omega)) sz1; intro r2 w2 hrow2 k2 hm2; obtain ⟨A3, cap3, rfl, _⟩ := hrow2.reads; have g2 := g1.keep k2 (by simp [rowBlk]); have e0 := g2.cell 0; have e0f := g2.frozen 0; have e1 := g2.cell 1; have e2 := g2.cell 2; have e2f := g2.frozen 2; simp at e0 e1 e2))
          have HF := rfin g2 (k1.step k2 (by simp [rowBlk])) (by simpa using hrow1.keep k2 (by simp [rowBlk])) (by simpa using hrow2) hB hblt
          go_ret2
          try rw [Hov.out]
          first | exact ⟨_, _, rfl, HF.1, HF.2.1, HF.2.2.1, HF.2.2.2⟩ | exact ⟨_, rfl, HF.1, _, HF.2.1, HF.2.2.1, HF.2.2.2⟩

end
end Go.Proofs.Ytinokgmmdmkbcaa
