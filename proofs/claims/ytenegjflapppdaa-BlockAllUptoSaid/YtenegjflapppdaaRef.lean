/- block: the reference's Start and More. -/
import Derived.Test.YtenegjflapppdaaAns
set_option linter.all false
namespace Go.Proofs.Ytenegjflapppdaa
open Go.ChangeShapes Go.WideShapes Go.ChangeAt Go.RowKit
attribute [local go_sem] setCell_drewN alloc_drewN
section
variable {w : World} {base bb : Nat} {id rid : Int} {wt en : Bool} {v : Value} {bs : List UInt8}
set_option maxHeartbeats 2000000 in
theorem rstart_ (h : Bk w base bb 29 rid wt en v bs) (hid : wt = true → rid = id) (i : Int) (e' wh : Bool) {B : Nat} {A : Option Addr} {m : Nat} (c : Nat) {ps : List UInt8} (hr : Reads w B 1 A m (encB ps)) (hB : B ≤ w.heap.size) (hbase : base ≤ w.heap.size) (ho : 0 < m → ∀ ad, A = some ad → ad.block ≠ bb) :
    Calls Try.prog 12 #[.pointer (some ⟨bb, 0, none⟩), .int .i64 i, .bool e', .slice A m c, .bool wh] w (Gives 29 w base bb v (startA id wt en bs i e' wh ps) false) := by
  have hpl : ps.length = m := by have := hr.1; rw [encB_len] at this; omega
  obtain ⟨i0, z0, hi, hz, hz0, hz1, hz2⟩ := u8_info
  have c1 := h.blk.cell 1
  simp at c1
  unfold startA
  cases wt
  · rw [if_neg (by simp)]
    by_cases hb : 65536 < ps.length
    · rw [if_pos hb]
      have hm' : (65536 : Int) < (m : Int) := by omega
      have HH := Lib.hid h
      have HP := Lib.hid hpl
      clear h hr hpl hid hb
      go_enter Try.func12, Try.ntmps12
      go_wp2
      go_ret3
      exact ⟨_, v, rfl, Row1.nil _ _ _, ⟨_, HH.out, fun h => (by cases h), fun h => (by cases h)⟩, Keep.refl _ _, moved_refl _ _, moved_nil _ _⟩
    · rw [if_neg hb]
      have hm' : ¬ (65536 : Int) < (m : Int) := by omega
      have c2 := h.blk.cell 2
      have f2 := h.blk.frozen 2
      have hlt := h.blk.lt
      simp at c2
      have h2 : Bk (w.setCell ⟨bb, 2, none⟩ (.bool e')) base bb 29 rid false e' v bs := h.set1 (by decide) (cs := #[]) (h.blk.set_ 2 (.bool e'))
      have k2 : Keep [bb] w (w.setCell ⟨bb, 2, none⟩ (.bool e')) := (Keep.refl _ w).setCell (p := ⟨bb, 2, none⟩) (.inl (by simp)) _
      have hr2 := hr.kept k2 hB (fun h0 ad e hx => ho h0 ad e (by simpa using hx))
      have hsz : (w.setCell ⟨bb, 2, none⟩ (.bool e')).heap.size = w.heap.size := by simp [World.setCell]
      have hpm : m ≤ 65536 := by omega
      have HP := Lib.hid hpl
      clear hpl hid h hr hb
      cases wh
      · rw [if_neg (by simp)]
        go_enter Try.func12, Try.ntmps12
        obtain ⟨W2, hW2⟩ : ∃ W2, W2 = w.setCell ⟨bb, 2, none⟩ (.bool e') := ⟨_, rfl⟩
        rw [← hW2] at h2 k2 hr2 hsz
        have HW2 := Lib.hid hW2
        clear hW2
        have d0 := h2.blk.cell 0
        have d1 := h2.blk.cell 1
        have d3 := h2.blk.cell 3
        have g0 := h2.blk.frozen 0
        have g1 := h2.blk.frozen 1
        have g3 := h2.blk.frozen 3
        simp at d0 d1 d3
        rw [HW2.out] at d0 d1 d3 g0 g1 g3
        have h4 : Bk ((W2.setCell ⟨bb, 0, none⟩ (.int .i64 i)).setCell ⟨bb, 1, none⟩ (.bool true)) base bb 29 i true e' v bs := ⟨(h2.blk.set_ 0 (.int .i64 i)).set_ 1 (.bool true), h2.row.keep (((Keep.refl [bb] W2).setCell (p := ⟨bb, 0, none⟩) (.inl (by simp)) (.int .i64 i)).setCell (p := ⟨bb, 1, none⟩) (.inl (by simp)) (.bool true)) (fun g hg => by simp; rintro rfl; exact row_off_blk h2.row h2.blk (by decide) hg)⟩
        have k4 : Keep [bb] w ((W2.setCell ⟨bb, 0, none⟩ (.int .i64 i)).setCell ⟨bb, 1, none⟩ (.bool true)) := (k2.setCell (p := ⟨bb, 0, none⟩) (.inl (by simp)) (.int .i64 i)).setCell (p := ⟨bb, 1, none⟩) (.inl (by simp)) (.bool true)
        have hr4 := hr2.kept (((Keep.refl [bb] W2).setCell (p := ⟨bb, 0, none⟩) (.inl (by simp)) (.int .i64 i)).setCell (p := ⟨bb, 1, none⟩) (.inl (by simp)) (.bool true)) (by omega) (fun h0 ad e hx => ho h0 ad e (by simpa using hx))
        have hsz4 : ((W2.setCell ⟨bb, 0, none⟩ (.int .i64 i)).setCell ⟨bb, 1, none⟩ (.bool true)).heap.size = w.heap.size := by simp [World.setCell]; simpa [World.setCell] using hsz
        have H4 := Lib.hid h4
        have HR4 := Lib.hid hr4
        have HS4 := Lib.hid hsz4
        have K4 := Lib.hid k4
        have HO := Lib.hid ho
        clear h2 k2 hr2 hsz h4 k4 hr4 hsz4 ho
        go_wp2_with (at_builtin; rw [← HW2.out]; apply wpList_append_row _ rfl _ _ _ rfl w.heap.size 5 i0 z0 1 Try.underlying27 hi hz hz0 hz1 hz2 (.slice none 0 0) [] rfl (Row1.nil _ _ _) _ A m c (encB ps) rfl HR4.out encB_one (by unfold maxLen; simp; omega) (by simp; omega) (by rw [HS4.out]; exact Nat.le_refl _); intro v3 w3 hr3 k3 hm3; simp only [List.nil_append, rowBlk, Option.toList_none] at hr3 k3; have h5 := H4.out.keep k3 (by simp) (by simp); have e3 := h5.blk.cell 3; have q3 := h5.blk.frozen 3; simp at e3; obtain ⟨A3, c3', rfl, _⟩ := hr3.reads; clear hm3)
        go_ret3
        have kf : Keep [bb] w3 (w3.setCell ⟨bb, 3, none⟩ (.slice A3 (encB ps).length c3')) := (Keep.refl _ w3).setCell (p := ⟨bb, 3, none⟩) (.inl (by simp)) _
        exact ⟨_, _, rfl, Row1.nil _ _ _, ⟨_, ⟨h5.blk.set_ 3 _, (hr3.down hbase).keep kf (fun g hg => by simp; rintro rfl; exact row_off_blk hr3 h5.blk (by decide) hg)⟩, fun _ => rfl, fun h => (by cases h)⟩, ((K4.out.trans (k3.more (by simp))).trans kf).more (by simp), moved_new hr3, moved_nil _ _⟩
      · rw [if_pos rfl]
        go_enter Try.func12, Try.ntmps12
        obtain ⟨W2, hW2⟩ : ∃ W2, W2 = w.setCell ⟨bb, 2, none⟩ (.bool e') := ⟨_, rfl⟩
        rw [← hW2] at h2 k2 hr2 hsz
        have HW2 := Lib.hid hW2
        clear hW2
        have H2 := Lib.hid h2
        have K2 := Lib.hid k2
        have HR2 := Lib.hid hr2
        have HS := Lib.hid hsz
        clear h2 k2 hr2 hsz
        go_wp2_with (at_builtin; rw [← HW2.out]; apply wpList_append_row _ rfl _ _ _ rfl w.heap.size 5 i0 z0 1 Try.underlying27 hi hz hz0 hz1 hz2 (.slice none 0 0) [] rfl (Row1.nil _ _ _) _ A m c (encB ps) rfl HR2.out encB_one (by unfold maxLen; simp; omega) (by simp; omega) (by rw [HS.out]; exact Nat.le_refl _); intro v3 w3 hr3 k3 hm3; simp only [List.nil_append, rowBlk, Option.toList_none] at hr3 k3; obtain ⟨A3, c3', rfl, _⟩ := hr3.reads; clear hm3)
        go_ret3
        exact ⟨_, v, rfl, hr3.down hbase, ⟨_, H2.out.keep k3 (by simp) (by simp), fun h => (by cases h), fun h => (by cases h)⟩, (K2.out.trans (k3.more (by simp))).more (by simp), moved_refl _ _, moved_new hr3⟩
  · rw [if_pos rfl]
    have HH := Lib.hid h
    have HI := Lib.hid hid
    clear h hr hpl hid
    go_enter Try.func12, Try.ntmps12
    go_wp2
    go_ret3
    exact ⟨_, v, rfl, Row1.nil _ _ _, ⟨_, HH.out, fun _ => HI.out trivial, fun h => (by cases h)⟩, Keep.refl _ _, moved_refl _ _, moved_nil _ _⟩
set_option maxHeartbeats 2000000 in
theorem rmore_ (h : Bk w base bb 29 rid wt en v bs) (hid : wt = true → rid = id) (i : Int) (wh : Bool) {B : Nat} {A : Option Addr} {m : Nat} (c : Nat) {ps : List UInt8} (hr : Reads w B 1 A m (encB ps)) (hbase : base ≤ w.heap.size) (hbl : bs.length ≤ 65536) (hm : m ≤ 1118576) :
    Calls Try.prog 14 #[.pointer (some ⟨bb, 0, none⟩), .int .i64 i, .slice A m c, .bool wh] w (Gives 29 w base bb v (moreA id wt en bs i wh ps) false) := by
  have hpl : ps.length = m := by have := hr.1; rw [encB_len] at this; omega
  obtain ⟨i0, z0, hi, hz, hz0, hz1, hz2⟩ := u8_info
  have hP := Lib.hid h
  have HI := Lib.hid hid
  obtain ⟨Av, cv, rfl, h1, h2, h3⟩ := h.slice
  have c0 := h.blk.cell 0
  have c1 := h.blk.cell 1
  have c3 := h.blk.cell 3
  have f1 := h.blk.frozen 1
  have f3 := h.blk.frozen 3
  simp at c0 c1 c3
  have hoff : bb ∉ (rowBlk (.slice Av bs.length cv)).toList := fun hx => row_off_blk h.row h.blk (by decide) (by simpa using hx)
  have hw : IntKind.i64.wrap ((65536 : Int) - (bs.length : Int)) = (65536 : Int) - (bs.length : Int) := by simp [IntKind.wrap, IntKind.signed, IntKind.bits]; omega
  clear h hid h3
  unfold moreA
  cases wt
  · rw [if_pos rfl]
    clear hpl hr
    go_enter Try.func14, Try.ntmps14
    go_wp2
    go_ret3
    exact ⟨_, _, rfl, Row1.nil _ _ _, ⟨_, hP.out, HI.out, fun h => (by cases h)⟩, Keep.refl _ _, moved_refl _ _, moved_nil _ _⟩
  · rw [if_neg (by simp)]
    obtain rfl := HI.out rfl
    by_cases hi' : rid ≠ i
    · rw [if_pos hi']
      have hne : (i == rid) = false := by simpa using (fun e => hi' e.symm)
      have hne2 : (i != rid) = true := by simp [bne, hne]
      clear hpl hr hi'
      go_enter Try.func14, Try.ntmps14
      go_wp2
      go_ret3
      exact ⟨_, _, rfl, Row1.nil _ _ _, ⟨_, hP.out, fun _ => rfl, fun h => (by cases h)⟩, Keep.refl _ _, moved_refl _ _, moved_nil _ _⟩
    · rw [if_neg hi']
      obtain rfl : rid = i := by simpa using hi'
      have heq : (rid == rid) = true := by simp
      have heq2 : (rid != rid) = false := by simp
      clear hi'
      by_cases hb : 65536 < bs.length + ps.length
      · rw [if_pos hb]
        have hm' : (65536 : Int) - (bs.length : Int) < (m : Int) := by omega
        clear hpl hr hb
        go_enter Try.func14, Try.ntmps14
        go_wp2
        go_ret3
        exact ⟨_, _, rfl, Row1.nil _ _ _, ⟨_, ⟨(hP.out.blk.set_ 1 (.bool false)).set_ 3 (.slice none 0 0), Row1.nil _ _ _⟩, fun h => (by cases h), fun h => (by cases h)⟩, (((Keep.refl [bb] w).setCell (p := ⟨bb, 1, none⟩) (.inl (by simp)) _).setCell (p := ⟨bb, 3, none⟩) (.inl (by simp)) _).more (by simp), moved_nil _ _, moved_nil _ _⟩
      · rw [if_neg hb]
        have hm' : ¬ (65536 : Int) - (bs.length : Int) < (m : Int) := by omega
        have hml : bs.length + m ≤ 65536 := by omega
        have HR := Lib.hid hr
        clear hpl hr hb
        cases wh
        · rw [if_neg (by simp)]
          go_enter Try.func14, Try.ntmps14
          go_wp2_with (at_builtin; apply wpList_append_row _ rfl _ _ _ rfl base 5 i0 z0 1 Try.underlying27 hi hz hz0 hz1 hz2 (.slice Av bs.length cv) (encB bs) rfl hP.out.row _ A m c (encB ps) rfl HR.out encB_one (by unfold maxLen; rw [encB_len]; omega) (by rw [encB_len]; omega) hbase; intro v3 w3 hr3 k3 hm3; rw [← encB_append] at hr3; have hm3 := moved_of hm3; have b3 := hP.out.blk.keep k3 hoff; have d3 := b3.cell 3; have f3 := b3.frozen 3; simp at d3; obtain ⟨A3, c3', rfl, _⟩ := hr3.reads; have HR3 := Lib.hid hr3; have K3 := Lib.hid k3; clear hr3 k3)
          go_ret3
          have kf : Keep [bb] w3 (w3.setCell ⟨bb, 3, none⟩ (.slice A3 (encB (bs ++ ps)).length c3')) := (Keep.refl _ w3).setCell (p := ⟨bb, 3, none⟩) (.inl (by simp)) _
          exact ⟨_, _, rfl, Row1.nil _ _ _, ⟨_, ⟨b3.set_ 3 _, HR3.out.keep kf (fun g hg => by simp; rintro rfl; exact row_off_blk HR3.out b3 (by decide) hg)⟩, fun _ => rfl, fun h => (by cases h)⟩, (K3.out.more (by simp_all)).trans (kf.more (by simp)), hm3, moved_nil _ _⟩
        · rw [if_pos rfl]
          go_enter Try.func14, Try.ntmps14
          go_wp2_with (at_builtin; apply wpList_append_row _ rfl _ _ _ rfl base 5 i0 z0 1 Try.underlying27 hi hz hz0 hz1 hz2 (.slice Av bs.length cv) (encB bs) rfl hP.out.row _ A m c (encB ps) rfl HR.out encB_one (by unfold maxLen; rw [encB_len]; omega) (by rw [encB_len]; omega) hbase; intro v3 w3 hr3 k3 hm3; rw [← encB_append] at hr3; have hm3 := moved_of hm3; have b3 := hP.out.blk.keep k3 hoff; have d3 := b3.cell 3; have d1 := b3.cell 1; have f3 := b3.frozen 3; have f1 := b3.frozen 1; simp at d3 d1; obtain ⟨A3, c3', rfl, _⟩ := hr3.reads; have HR3 := Lib.hid hr3; have K3 := Lib.hid k3; clear hr3 k3)
          go_ret3
          have kf : Keep [bb] w3 (((w3.setCell ⟨bb, 3, none⟩ (.slice A3 (encB (bs ++ ps)).length c3')).setCell ⟨bb, 1, none⟩ (.bool false)).setCell ⟨bb, 3, none⟩ (.slice none 0 0)) := (((Keep.refl _ w3).setCell (p := ⟨bb, 3, none⟩) (.inl (by simp)) _).setCell (p := ⟨bb, 1, none⟩) (.inl (by simp)) _).setCell (p := ⟨bb, 3, none⟩) (.inl (by simp)) _
          exact ⟨_, _, rfl, HR3.out.keep kf (fun g hg => by simp; rintro rfl; exact row_off_blk HR3.out b3 (by decide) hg), ⟨_, ⟨((b3.set_ 3 _).set_ 1 (.bool false)).set_ 3 (.slice none 0 0), Row1.nil _ _ _⟩, fun h => (by cases h), fun h => (by cases h)⟩, (K3.out.more (by simp_all)).trans (kf.more (by simp)), moved_nil _ _, hm3⟩
end
end Go.Proofs.Ytenegjflapppdaa
