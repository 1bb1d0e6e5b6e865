/- pipe: the reference's Chunks. -/
import Derived.Test.YtinokgmmdmkbcaaBegun
set_option linter.all false
namespace Go.Proofs.Ytinokgmmdmkbcaa
open Go.ChangeShapes Go.WideShapes Go.ChangeAt Go.RowKit
attribute [local go_sem] setCell_drewN alloc_drewN
/-- the chunks, what is left, how many sizes were gone over -/
def chop : List Int → List UInt8 → List (List UInt8) × List UInt8 × Nat
  | [], bs => ([], bs, 0)
  | z :: zs, bs => if bs = [] then ([], bs, 0) else if z < 1 then ((chop zs bs).1, (chop zs bs).2.1, (chop zs bs).2.2 + 1)
    else (bs.take (min z.toNat bs.length) :: (chop zs (bs.drop (min z.toNat bs.length))).1, (chop zs (bs.drop (min z.toNat bs.length))).2.1, (chop zs (bs.drop (min z.toNat bs.length))).2.2 + 1)
theorem chop_nil (zs : List Int) : chop zs [] = ([], [], 0) := by cases zs <;> simp [chop]
theorem chop_skip {z : Int} {zs : List Int} {bs : List UInt8} (h : bs ≠ []) (hz : z < 1) : chop (z :: zs) bs = ((chop zs bs).1, (chop zs bs).2.1, (chop zs bs).2.2 + 1) := by
  simp only [chop]; rw [if_neg h, if_pos hz]
theorem chop_take {z : Int} {zs : List Int} {bs : List UInt8} {k : Nat} (h : bs ≠ []) (hz : ¬ z < 1) (hk : k = min z.toNat bs.length) : chop (z :: zs) bs = (bs.take k :: (chop zs (bs.drop k)).1, (chop zs (bs.drop k)).2.1, (chop zs (bs.drop k)).2.2 + 1) := by
  subst hk
  conv => lhs; rw [chop]
  rw [if_neg h, if_neg hz]
/-- a slice of slices: its row and each one's row -/
structure Wt (w : World) (base : Nat) (lv : Value) (vals : List Value) (cs : List (List UInt8)) : Prop where
  row : Row1 w base 22 lv vals
  len : vals.length = cs.length
  all : ∀ (j : Nat) (u : Value) (c : List UInt8), vals[j]? = some u → cs[j]? = some c → Row1 w base 5 u (encB c)
theorem row_off_row {w : World} {base base' : Nat} {t u : TypeId} {v v' : Value} {xs ys : List Value} (h : Row1 w base t v xs) (h' : Row1 w base' u v' ys) (hne : t ≠ u) : ∀ g, rowBlk v = some g → rowBlk v' ≠ some g := fun g e e' => by
  obtain ⟨A', cap, rfl, _, _, h2⟩ := h
  rcases h2 with ⟨rfl, _⟩ | ⟨g', off, cs, rfl, _, hb', _⟩
  · cases e
  · injection e with e
    subst e
    exact row_off_blk h' hb' (Ne.symm hne) e'
section
variable {w w' w1 w2 : World} {base : Nat} {lv lv2 : Value} {vals : List Value} {cs : List (List UInt8)}
theorem Wt.each (h : Wt w base lv vals cs) : ∀ u ∈ vals, ∃ c, Row1 w base 5 u (encB c) := fun u hu => by
  obtain ⟨j, hj⟩ := List.mem_iff_getElem?.1 hu
  have hl : j < cs.length := by rw [← h.len]; exact (List.getElem?_eq_some_iff.1 hj).1
  exact ⟨_, h.all j u _ hj (List.getElem?_eq_getElem hl)⟩
theorem Wt.keep {gs : List Nat} (h : Wt w base lv vals cs) (k : Keep gs w w') (h1 : ∀ g, rowBlk lv = some g → g ∉ gs) (h2 : ∀ u ∈ vals, ∀ g, rowBlk u = some g → g ∉ gs) : Wt w' base lv vals cs :=
  ⟨h.row.keep k h1, h.len, fun j u c hu hc => (h.all j u c hu hc).keep k (h2 u (List.mem_of_getElem? hu))⟩
theorem Wt.blk {g : Nat} {t : TypeId} {C : Array Value} (h : Wt w base lv vals cs) (hb : Blk w g t C) (t1 : t ≠ 22) (t2 : t ≠ 5) (k : Keep [g] w w') : Wt w' base lv vals cs :=
  h.keep k (fun g' e => by simp; rintro rfl; exact row_off_blk h.row hb (Ne.symm t1) e) (fun u hu g' e => by
    simp
    rintro rfl
    obtain ⟨c, hc⟩ := h.each u hu
    exact row_off_blk hc hb (Ne.symm t2) e)
theorem Wt.more {r : Value} {T : List UInt8} {B1 : Nat} (h : Wt w base lv vals cs) (k : Keep [] w w1) (hr : Row1 w1 B1 5 r (encB T)) (hB : base ≤ B1) (k2 : Keep (rowBlk lv).toList w1 w2) (h2 : Row1 w2 base 22 lv2 (vals ++ [r])) : Wt w2 base lv2 (vals ++ [r]) (cs ++ [T]) := by
  have hk := h.keep k (by simp) (by simp)
  have off : ∀ {u c B}, Row1 w1 B 5 u (encB c) → ∀ g, rowBlk u = some g → g ∉ (rowBlk lv).toList := fun hu g e hx => by
    have hx : rowBlk lv = some g := by simpa using hx
    exact row_off_row hk.row hu (by decide) g hx e
  refine ⟨h2, by simp [h.len], fun j u c hu hc => ?_⟩
  by_cases hj : j < vals.length
  · rw [List.getElem?_append_left hj] at hu
    rw [List.getElem?_append_left (by rw [← h.len]; exact hj)] at hc
    have := hk.all j u c hu hc
    exact this.keep k2 (off this)
  · have hj2 : j = vals.length := by
      have := (List.getElem?_eq_some_iff.1 hu).1
      simp at this
      omega
    subst hj2
    rw [List.getElem?_append_right (Nat.le_refl _)] at hu
    rw [List.getElem?_append_right (by rw [h.len]; exact Nat.le_refl _)] at hc
    simp at hu
    simp [h.len] at hc
    subst hu hc
    exact (hr.keep k2 (off hr)).down hB
end
theorem sl_info : ∃ i z, Try.prog.info? 22 = some i ∧ i.zero = some z ∧ i.size = 1 ∧ i.bytes = 24 ∧ z.cells.size = 1 := by
  obtain ⟨i, hi⟩ : ∃ i, Try.prog.info? 22 = some i := Option.isSome_iff_exists.1 (by kernel_rfl)
  have h : (Try.prog.info? 22).map (fun i => (i.size, i.bytes, i.zero.map (·.cells.size))) = some (1, 24, some 1) := by kernel_rfl
  rw [hi] at h
  simp only [Option.map_some, Option.some.injEq, Prod.mk.injEq] at h
  obtain ⟨h1, h2, h3⟩ := h
  cases hz : i.zero with
  | none => rw [hz] at h3; simp at h3
  | some z =>
    rw [hz] at h3
    exact ⟨i, z, hi, hz, h1, h2, by simpa using h3⟩
set_option maxHeartbeats 8000000 in
theorem rchunks_ {w : World} {base pb s : Nat} {v : Value} {bs : List UInt8} {en to : Bool} {lA : Option Addr} {n c : Nat} {zs : List Int} (h : Pp w base pb 29 v bs en to) (hB : base ≤ w.heap.size) (hl : bs.length ≤ 140737488355328) (hn : n ≤ 1000) (hk : zs.length = n)
    (hr : Reads w s 1 lA n (zs.map (.int .i64 ·))) (hs : s ≤ w.heap.size) (hoff : 0 < n → ∀ ad, lA = some ad → ad.block ≠ pb) :
    Calls Try.prog 11 #[.pointer (some ⟨pb, 0, none⟩), .slice lA n c] w fun e w' => ∃ lv vals v', e = .returned (.tuple #[lv, .int .i64 (chop zs bs).2.2]) ∧ Wt w' w.heap.size lv vals (chop zs bs).1 ∧ Pp w' base pb 29 v' (chop zs bs).2.1 en to ∧ Keep [pb] w w' ∧ Moved w v v' := by
  obtain ⟨i0, z0, hi, hz, hz0, hz1, hz2⟩ := u8_info
  obtain ⟨i1, z1, gi, gz, gz0, gz1, gz2⟩ := sl_info
  obtain ⟨R, hR⟩ : ∃ R, R = chop zs bs := ⟨_, rfl⟩
  rw [← hR]
  have hpb := h.blk.lt
  go_enter Try.func11, Try.ntmps11
  go_wp2
  go_loopw [6, 7] (fun vl vi wr => ∃ (i : Nat) (vals : List Value) (acc : List (List UInt8)) (b : List UInt8) (v' : Value), vi = .int .i64 i ∧ i ≤ n ∧ acc.length ≤ i ∧ Wt wr w.heap.size vl vals acc ∧ Pp wr base pb 29 v' b en to ∧ b.length ≤ 140737488355328 ∧ Keep [pb] w wr ∧ Moved w v v' ∧
    R = (acc ++ (chop (zs.drop i) b).1, (chop (zs.drop i) b).2.1, i + (chop (zs.drop i) b).2.2)) (fun _ vi _ => n - (intOf vi).toNat)
  case atStart => exact ⟨0, [], [], bs, v, rfl, by omega, by simp, ⟨Row1.nil _ _ _, rfl, fun j u c hu => by simp at hu⟩, h, hl, Keep.refl _ _, fun g e => .inl e, by simp [hR]⟩
  case round =>
    obtain ⟨i, vals, acc, b, v', rfl, hin, hai, hwt, hp, hbl, kr, hmv, hRR⟩ := hrel
    have szr := kr.size
    obtain ⟨A, cap, rfl, h1, h2, h3⟩ := hp.slice
    obtain ⟨Al, capl, rfl, hl1', hl2', _⟩ := hwt.row.reads
    have c0 := hp.blk.cell 0
    simp at c0
    by_cases hlt : i < n
    · have hki : i < zs.length := by omega
      obtain ⟨b1, o1, rfl, hb1, hz'⟩ := hr.plain (by omega) (by omega)
      have e1 := hz' i (.int .i64 zs[i]) (by simp [hki])
      have e1 := (kr.cell (p := ⟨b1, o1 + i, none⟩) (by simp; omega) (by simp; exact hoff (by omega) _ rfl)).trans e1
      rw [List.drop_eq_getElem_cons hki] at hRR
      obtain ⟨z, hzz⟩ : ∃ z, z = zs[i] := ⟨_, rfl⟩
      rw [← hzz] at e1 hRR
      clear hzz hz'
      have k0 : (0 : Int) ≤ (i : Int) := by omega
      have k1 : (i : Int) < (n : Int) := by omega
      by_cases hbn : b = []
      · subst hbn
        rw [chop_nil] at hRR
        have HW := Lib.hid hwt
        have HP := Lib.hid hp
        clear hwt hp hR
        go_wp2
        go_ret2
        subst hRR
        first | exact ⟨_, rfl, ⟨vals, by simpa using HW.out⟩, ⟨_, HP.out, kr, hmv⟩⟩ | exact ⟨_, rfl, ⟨vals, by simpa using HW.out⟩, ⟨_, HP.out, hmv⟩, kr⟩ | exact ⟨_, rfl, ⟨vals, by simpa using HW.out⟩, HP.out, kr, hmv⟩
      · have hl1 : ((b.length : Int) == 0) = false := by
          cases b with
          | nil => exact absurd rfl hbn
          | cons _ _ => simp; omega
        by_cases hz1' : z < 1
        · rw [chop_skip hbn hz1'] at hRR
          have HW := Lib.hid hwt
          have HP := Lib.hid hp
          have HR := Lib.hid hRR
          clear hwt hp hR hRR
          go_wp2
          go_roundw
          case rel => exact ⟨i + 1, vals, acc, b, _, by go_num, by omega, by omega, HW.out, HP.out, hbl, kr, hmv, by rw [HR.out]; simp; omega⟩
          case measure => simp [intOf]; omega
        · obtain ⟨zn, rfl⟩ : ∃ zn : Nat, z = zn := ⟨z.toNat, by omega⟩
          obtain ⟨k, hk'⟩ : ∃ k, k = min zn b.length := ⟨_, rfl⟩
          rw [chop_take (k := k) hbn hz1' (by rw [hk']; rfl)] at hRR
          have hkl : k ≤ b.length := by omega
          have y0 : (0 : Int) ≤ (k : Int) := by omega
          have y1 : (k : Int) ≤ (b.length : Int) := by omega
          have y2 : (k : Int) ≤ (cap : Int) := by omega
          have y3 : (b.length : Int) ≤ (cap : Int) := by omega
          have hpre := Lib.hid (reads_pre h3 k hkl)
          have hrow := hp.row.cut k (by rw [encB_len]; exact hkl) _ _ _ rfl
          rw [← encB_drop] at hrow
          obtain ⟨A2', cap2', hv2, _, _, hsuf⟩ := hrow.reads
          have hoffr : ∀ ad, (if cap = k then A else A.map (·.add k)) = some ad → rowBlk (.slice Al vals.length capl) ≠ some ad.block := fun ad e => row_off_row hrow hwt.row (by decide) ad.block (by rw [e]; rfl)
          injection hv2 with e1' e2' e3'
          subst e1' e3'
          rw [← e2'] at hsuf
          have hsuf := Lib.hid hsuf
          have hb := Lib.hid hp.blk
          have hT : (b.take k).length = k := by rw [List.length_take]; omega
          have hD : (b.drop k).length = b.length - k := List.length_drop
          obtain ⟨T, hT'⟩ : ∃ T, T = b.take k := ⟨_, rfl⟩
          obtain ⟨D, hD'⟩ : ∃ D, D = b.drop k := ⟨_, rfl⟩
          rw [← hT'] at hpre hT hRR
          rw [← hD'] at hsuf hD hRR
          clear hT' hD' h3 e2' hrow hR hp
          have HT := Lib.hid hT
          have HD := Lib.hid hD
          have HR := Lib.hid hRR
          have HW := Lib.hid hwt
          have hvl : vals.length ≤ 1000 := by rw [hwt.len]; omega
          clear hT hD hRR hwt
          by_cases hle : zn ≤ b.length
          · obtain rfl : k = zn := by omega
            have hgt : ¬ (b.length : Int) < (k : Int) := by omega
            clear hk'
            by_cases hcap : cap = k
            · subst hcap
              rw [if_pos rfl] at hsuf hoffr
              have hsuf := hsuf.out
              rw [show b.length - cap = 0 by omega] at hsuf
              have hsuf := Lib.hid hsuf
              go_wp2_with (first
                | (at_builtin; apply wpList_append_row _ rfl _ _ _ rfl w.heap.size 5 i0 z0 1 Try.underlying22 hi hz hz0 hz1 hz2 (.slice none 0 0) [] rfl (Row1.nil _ _ _) _ A cap cap (encB T) rfl hpre.out encB_one (by unfold maxLen; simp; omega) (by simp; omega) szr; intro r1 w1 hrow1 k1 hm1; obtain ⟨A1, cap1, rfl, _⟩ := hrow1.reads; have sz1 := k1.size; have k1 : Keep [] wr w1 := k1.more (by simp [rowBlk]))
                | (at_builtin; apply wpList_append_row _ rfl _ _ _ rfl w.heap.size 22 i1 z1 24 Try.underlying31 gi gz gz0 gz1 gz2 (.slice Al vals.length capl) vals rfl ((HW.out.row.keep k1 (by simp)).keep ((Keep.refl [] w1).alloc _) (by simp)) _ (some ⟨w1.heap.size, 0, none⟩) 1 1 [.slice A1 ((encB T).length) cap1] rfl (reads_w w1 _ _ _ rfl rfl) (by simp; rfl) (by unfold maxLen; omega) (by omega) (by simp; omega); intro l2 w2 hrow2 k2 hm2; have sz2 := k2.size; have HW2 := Lib.hid (HW.out.more (k1.alloc _) ((by simpa using hrow1 : Row1 w1 _ _ _ (encB T)).keep ((Keep.refl [] w1).alloc _) (by simp)) (Nat.le_refl _) k2 hrow2); have off2 : pb ∉ (rowBlk (.slice Al vals.length capl)).toList := (fun hx => row_off_blk HW.out.row hb.out (by decide) (by simpa using hx)); have kw2 : Keep (rowBlk (.slice Al vals.length capl)).toList wr w2 := ((k1.alloc _).more (by simp)).trans k2; have g2 := hb.out.keep kw2 off2; have d2 := g2.cell 0; simp at d2)
                | (at_builtin; apply wpList_append_row _ rfl _ _ _ rfl w.heap.size 5 i0 z0 1 Try.underlying22 hi hz hz0 hz1 hz2 (.slice none 0 0) [] rfl (Row1.nil _ _ _) _ (A) (0) (0) (encB D) rfl (hsuf.out.kept kw2 (Nat.le_refl _) (fun _ ad e hx => hoffr ad e (by simpa using hx))) encB_one (by unfold maxLen; first | (simp; done) | (simp; omega)) (by first | (simp; done) | (simp; omega)) (by first | omega | (simp at *; omega)); intro r3 w3 hrow3 k3 hm3; obtain ⟨A3, cap3, rfl, _⟩ := hrow3.reads; have g3 := g2.keep k3 (by simp [rowBlk]); have d3 := g3.cell 0; have d3f := g3.frozen 0; simp at d3))
              go_roundw
              case rel =>
                have k3 : Keep [] w2 w3 := k3.more (by simp [rowBlk])
                have kf : Keep [pb] w3 (w3.setCell ⟨pb, 0, none⟩ (.slice A3 (([] : List Value) ++ encB D).length cap3)) := (Keep.refl _ w3).setCell (p := ⟨pb, 0, none⟩) (.inl (by simp)) _
                have row3 : Row1 w3 w.heap.size 5 _ (encB D) := (by simpa using hrow3)
                have K3 : Keep [pb] w w3 := (kr.step kw2 (fun g hg => .inr (HW.out.row.lt g (by simpa using hg)).1)).trans (k3.more (by simp))
                refine ⟨i + 1, vals ++ [_], acc ++ [T], D, _, by go_num, by omega, by simp; omega, (HW2.out.keep k3 (by simp) (by simp)).blk g3 (by decide) (by decide) kf, ⟨g3.set_ 0 _, (row3.down hB).keep kf (fun g hg => by simp; rintro rfl; exact row_off_blk row3 g3 (by decide) hg)⟩, by have := HD.out; omega, K3.trans kf, fun g hg => .inr (row3.lt g hg).1, ?_⟩
                rw [HR.out]
                simp
                omega
              case measure => simp [intOf]; omega
            · rw [if_neg hcap] at hsuf hoffr
              go_wp2_with (first
                | (at_builtin; apply wpList_append_row _ rfl _ _ _ rfl w.heap.size 5 i0 z0 1 Try.underlying22 hi hz hz0 hz1 hz2 (.slice none 0 0) [] rfl (Row1.nil _ _ _) _ A k cap (encB T) rfl hpre.out encB_one (by unfold maxLen; simp; omega) (by simp; omega) szr; intro r1 w1 hrow1 k1 hm1; obtain ⟨A1, cap1, rfl, _⟩ := hrow1.reads; have sz1 := k1.size; have k1 : Keep [] wr w1 := k1.more (by simp [rowBlk]))
                | (at_builtin; apply wpList_append_row _ rfl _ _ _ rfl w.heap.size 22 i1 z1 24 Try.underlying31 gi gz gz0 gz1 gz2 (.slice Al vals.length capl) vals rfl ((HW.out.row.keep k1 (by simp)).keep ((Keep.refl [] w1).alloc _) (by simp)) _ (some ⟨w1.heap.size, 0, none⟩) 1 1 [.slice A1 ((encB T).length) cap1] rfl (reads_w w1 _ _ _ rfl rfl) (by simp; rfl) (by unfold maxLen; omega) (by omega) (by simp; omega); intro l2 w2 hrow2 k2 hm2; have sz2 := k2.size; have HW2 := Lib.hid (HW.out.more (k1.alloc _) ((by simpa using hrow1 : Row1 w1 _ _ _ (encB T)).keep ((Keep.refl [] w1).alloc _) (by simp)) (Nat.le_refl _) k2 hrow2); have off2 : pb ∉ (rowBlk (.slice Al vals.length capl)).toList := (fun hx => row_off_blk HW.out.row hb.out (by decide) (by simpa using hx)); have kw2 : Keep (rowBlk (.slice Al vals.length capl)).toList wr w2 := ((k1.alloc _).more (by simp)).trans k2; have g2 := hb.out.keep kw2 off2; have d2 := g2.cell 0; simp at d2)
                | (at_builtin; apply wpList_append_row _ rfl _ _ _ rfl w.heap.size 5 i0 z0 1 Try.underlying22 hi hz hz0 hz1 hz2 (.slice none 0 0) [] rfl (Row1.nil _ _ _) _ (A.map (·.add k)) (b.length - k) (cap - k) (encB D) rfl (hsuf.out.kept kw2 (Nat.le_refl _) (fun _ ad e hx => hoffr ad e (by simpa using hx))) encB_one (by unfold maxLen; first | (simp; done) | (simp; omega)) (by first | (simp; done) | (simp; omega)) (by first | omega | (simp at *; omega)); intro r3 w3 hrow3 k3 hm3; obtain ⟨A3, cap3, rfl, _⟩ := hrow3.reads; have g3 := g2.keep k3 (by simp [rowBlk]); have d3 := g3.cell 0; have d3f := g3.frozen 0; simp at d3))
              go_roundw
              case rel =>
                have k3 : Keep [] w2 w3 := k3.more (by simp [rowBlk])
                have kf : Keep [pb] w3 (w3.setCell ⟨pb, 0, none⟩ (.slice A3 (([] : List Value) ++ encB D).length cap3)) := (Keep.refl _ w3).setCell (p := ⟨pb, 0, none⟩) (.inl (by simp)) _
                have row3 : Row1 w3 w.heap.size 5 _ (encB D) := (by simpa using hrow3)
                have K3 : Keep [pb] w w3 := (kr.step kw2 (fun g hg => .inr (HW.out.row.lt g (by simpa using hg)).1)).trans (k3.more (by simp))
                refine ⟨i + 1, vals ++ [_], acc ++ [T], D, _, by go_num, by omega, by simp; omega, (HW2.out.keep k3 (by simp) (by simp)).blk g3 (by decide) (by decide) kf, ⟨g3.set_ 0 _, (row3.down hB).keep kf (fun g hg => by simp; rintro rfl; exact row_off_blk row3 g3 (by decide) hg)⟩, by have := HD.out; omega, K3.trans kf, fun g hg => .inr (row3.lt g hg).1, ?_⟩
                rw [HR.out]
                simp
                omega
              case measure => simp [intOf]; omega
          · have hgt : (b.length : Int) < (zn : Int) := by omega
            obtain rfl : k = b.length := by omega
            clear hk'
            have hsuf := hsuf.out
            rw [show b.length - b.length = 0 by omega] at hsuf
            have hsuf := Lib.hid hsuf
            by_cases hcap : cap = b.length
            · subst hcap
              rw [if_pos rfl] at hsuf hoffr
              go_wp2_with (first
                | (at_builtin; apply wpList_append_row _ rfl _ _ _ rfl w.heap.size 5 i0 z0 1 Try.underlying22 hi hz hz0 hz1 hz2 (.slice none 0 0) [] rfl (Row1.nil _ _ _) _ A b.length b.length (encB T) rfl hpre.out encB_one (by unfold maxLen; simp; omega) (by simp; omega) szr; intro r1 w1 hrow1 k1 hm1; obtain ⟨A1, cap1, rfl, _⟩ := hrow1.reads; have sz1 := k1.size; have k1 : Keep [] wr w1 := k1.more (by simp [rowBlk]))
                | (at_builtin; apply wpList_append_row _ rfl _ _ _ rfl w.heap.size 22 i1 z1 24 Try.underlying31 gi gz gz0 gz1 gz2 (.slice Al vals.length capl) vals rfl ((HW.out.row.keep k1 (by simp)).keep ((Keep.refl [] w1).alloc _) (by simp)) _ (some ⟨w1.heap.size, 0, none⟩) 1 1 [.slice A1 ((encB T).length) cap1] rfl (reads_w w1 _ _ _ rfl rfl) (by simp; rfl) (by unfold maxLen; omega) (by omega) (by simp; omega); intro l2 w2 hrow2 k2 hm2; have sz2 := k2.size; have HW2 := Lib.hid (HW.out.more (k1.alloc _) ((by simpa using hrow1 : Row1 w1 _ _ _ (encB T)).keep ((Keep.refl [] w1).alloc _) (by simp)) (Nat.le_refl _) k2 hrow2); have off2 : pb ∉ (rowBlk (.slice Al vals.length capl)).toList := (fun hx => row_off_blk HW.out.row hb.out (by decide) (by simpa using hx)); have kw2 : Keep (rowBlk (.slice Al vals.length capl)).toList wr w2 := ((k1.alloc _).more (by simp)).trans k2; have g2 := hb.out.keep kw2 off2; have d2 := g2.cell 0; simp at d2)
                | (at_builtin; apply wpList_append_row _ rfl _ _ _ rfl w.heap.size 5 i0 z0 1 Try.underlying22 hi hz hz0 hz1 hz2 (.slice none 0 0) [] rfl (Row1.nil _ _ _) _ (A) (0) (0) (encB D) rfl (hsuf.out.kept kw2 (Nat.le_refl _) (fun _ ad e hx => hoffr ad e (by simpa using hx))) encB_one (by unfold maxLen; first | (simp; done) | (simp; omega)) (by first | (simp; done) | (simp; omega)) (by first | omega | (simp at *; omega)); intro r3 w3 hrow3 k3 hm3; obtain ⟨A3, cap3, rfl, _⟩ := hrow3.reads; have g3 := g2.keep k3 (by simp [rowBlk]); have d3 := g3.cell 0; have d3f := g3.frozen 0; simp at d3))
              go_roundw
              case rel =>
                have k3 : Keep [] w2 w3 := k3.more (by simp [rowBlk])
                have kf : Keep [pb] w3 (w3.setCell ⟨pb, 0, none⟩ (.slice A3 (([] : List Value) ++ encB D).length cap3)) := (Keep.refl _ w3).setCell (p := ⟨pb, 0, none⟩) (.inl (by simp)) _
                have row3 : Row1 w3 w.heap.size 5 _ (encB D) := (by simpa using hrow3)
                have K3 : Keep [pb] w w3 := (kr.step kw2 (fun g hg => .inr (HW.out.row.lt g (by simpa using hg)).1)).trans (k3.more (by simp))
                refine ⟨i + 1, vals ++ [_], acc ++ [T], D, _, by go_num, by omega, by simp; omega, (HW2.out.keep k3 (by simp) (by simp)).blk g3 (by decide) (by decide) kf, ⟨g3.set_ 0 _, (row3.down hB).keep kf (fun g hg => by simp; rintro rfl; exact row_off_blk row3 g3 (by decide) hg)⟩, by have := HD.out; omega, K3.trans kf, fun g hg => .inr (row3.lt g hg).1, ?_⟩
                rw [HR.out]
                simp
                omega
              case measure => simp [intOf]; omega
            · rw [if_neg hcap] at hsuf hoffr
              go_wp2_with (first
                | (at_builtin; apply wpList_append_row _ rfl _ _ _ rfl w.heap.size 5 i0 z0 1 Try.underlying22 hi hz hz0 hz1 hz2 (.slice none 0 0) [] rfl (Row1.nil _ _ _) _ A b.length cap (encB T) rfl hpre.out encB_one (by unfold maxLen; simp; omega) (by simp; omega) szr; intro r1 w1 hrow1 k1 hm1; obtain ⟨A1, cap1, rfl, _⟩ := hrow1.reads; have sz1 := k1.size; have k1 : Keep [] wr w1 := k1.more (by simp [rowBlk]))
                | (at_builtin; apply wpList_append_row _ rfl _ _ _ rfl w.heap.size 22 i1 z1 24 Try.underlying31 gi gz gz0 gz1 gz2 (.slice Al vals.length capl) vals rfl ((HW.out.row.keep k1 (by simp)).keep ((Keep.refl [] w1).alloc _) (by simp)) _ (some ⟨w1.heap.size, 0, none⟩) 1 1 [.slice A1 ((encB T).length) cap1] rfl (reads_w w1 _ _ _ rfl rfl) (by simp; rfl) (by unfold maxLen; omega) (by omega) (by simp; omega); intro l2 w2 hrow2 k2 hm2; have sz2 := k2.size; have HW2 := Lib.hid (HW.out.more (k1.alloc _) ((by simpa using hrow1 : Row1 w1 _ _ _ (encB T)).keep ((Keep.refl [] w1).alloc _) (by simp)) (Nat.le_refl _) k2 hrow2); have off2 : pb ∉ (rowBlk (.slice Al vals.length capl)).toList := (fun hx => row_off_blk HW.out.row hb.out (by decide) (by simpa using hx)); have kw2 : Keep (rowBlk (.slice Al vals.length capl)).toList wr w2 := ((k1.alloc _).more (by simp)).trans k2; have g2 := hb.out.keep kw2 off2; have d2 := g2.cell 0; simp at d2)
                | (at_builtin; apply wpList_append_row _ rfl _ _ _ rfl w.heap.size 5 i0 z0 1 Try.underlying22 hi hz hz0 hz1 hz2 (.slice none 0 0) [] rfl (Row1.nil _ _ _) _ (A.map (·.add b.length)) (0) (cap - b.length) (encB D) rfl (hsuf.out.kept kw2 (Nat.le_refl _) (fun _ ad e hx => hoffr ad e (by simpa using hx))) encB_one (by unfold maxLen; first | (simp; done) | (simp; omega)) (by first | (simp; done) | (simp; omega)) (by first | omega | (simp at *; omega)); intro r3 w3 hrow3 k3 hm3; obtain ⟨A3, cap3, rfl, _⟩ := hrow3.reads; have g3 := g2.keep k3 (by simp [rowBlk]); have d3 := g3.cell 0; have d3f := g3.frozen 0; simp at d3))
              go_roundw
              case rel =>
                have k3 : Keep [] w2 w3 := k3.more (by simp [rowBlk])
                have kf : Keep [pb] w3 (w3.setCell ⟨pb, 0, none⟩ (.slice A3 (([] : List Value) ++ encB D).length cap3)) := (Keep.refl _ w3).setCell (p := ⟨pb, 0, none⟩) (.inl (by simp)) _
                have row3 : Row1 w3 w.heap.size 5 _ (encB D) := (by simpa using hrow3)
                have K3 : Keep [pb] w w3 := (kr.step kw2 (fun g hg => .inr (HW.out.row.lt g (by simpa using hg)).1)).trans (k3.more (by simp))
                refine ⟨i + 1, vals ++ [_], acc ++ [T], D, _, by go_num, by omega, by simp; omega, (HW2.out.keep k3 (by simp) (by simp)).blk g3 (by decide) (by decide) kf, ⟨g3.set_ 0 _, (row3.down hB).keep kf (fun g hg => by simp; rintro rfl; exact row_off_blk row3 g3 (by decide) hg)⟩, by have := HD.out; omega, K3.trans kf, fun g hg => .inr (row3.lt g hg).1, ?_⟩
                rw [HR.out]
                simp
                omega
              case measure => simp [intOf]; omega
    · have k1 : ¬ (i : Int) < (n : Int) := by omega
      obtain rfl : i = n := by omega
      rw [List.drop_of_length_le (by omega)] at hRR
      simp only [chop] at hRR
      have HW := Lib.hid hwt
      have HP := Lib.hid hp
      clear hwt hp hR
      go_wp2
      go_ret2
      subst hRR
      first | exact ⟨_, rfl, ⟨vals, by simpa using HW.out⟩, ⟨_, HP.out, kr, hmv⟩⟩ | exact ⟨_, rfl, ⟨vals, by simpa using HW.out⟩, ⟨_, HP.out, hmv⟩, kr⟩ | exact ⟨_, rfl, ⟨vals, by simpa using HW.out⟩, HP.out, kr, hmv⟩
end Go.Proofs.Ytinokgmmdmkbcaa
