/- block: More takes a part. -/
import Derived.Test.YtenegjflapppdaaCtr
set_option linter.all false
namespace Go.Proofs.Ytenegjflapppdaa
open Go.ChangeShapes Go.WideShapes Go.ChangeAt Go.RowKit
attribute [local go_sem] setCell_drewN alloc_drewN
section
variable {w w' : World} {base bb : Nat} {id : Int} {wt en : Bool} {v : Value} {bs : List UInt8}
set_option maxHeartbeats 1000000 in
theorem more_part (h : Bk w base bb 52 id true en v bs) (hbase : base ≤ w.heap.size) {B : Nat} {A : Option Addr} {m : Nat} (c : Nat) {ps : List UInt8} (hr : Reads w B 1 A m (encB ps)) (hm : bs.length + m ≤ 65536) :
    Calls Try.prog 13 #[.pointer (some ⟨bb, 0, none⟩), .int .i64 id, .slice A m c, .bool false] w fun e w' => e = .returned (.tuple #[.slice none 0 0, .bool false, .int .i64 0]) ∧ ∃ v', Bk w' base bb 52 id true en v' (bs ++ ps) ∧ Keep (bb :: (rowBlk v).toList) w w' ∧ Moved w v v' := by
  obtain ⟨i0, z0, hi, hz, hz0, hz1, hz2⟩ := u8_info
  have hP := Lib.hid h
  obtain ⟨Av, cv, rfl, h1, h2, h3⟩ := h.slice
  have c0 := h.blk.cell 0
  have c1 := h.blk.cell 1
  have c3 := h.blk.cell 3
  simp at c0 c1 c3
  have hm' : ¬ (65536 : Int) < (bs.length : Int) + (m : Int) := by omega
  have hw : IntKind.i64.wrap ((bs.length : Int) + (m : Int)) = (bs.length : Int) + (m : Int) := by simp [IntKind.wrap, IntKind.signed, IntKind.bits]; omega
  have hid : (id != id) = false := by simp
  have hoff : bb ∉ (rowBlk (.slice Av bs.length cv)).toList := fun hx => row_off_blk h.row h.blk (by decide) (by simpa using hx)
  clear h3 h
  go_enter Try.func13, Try.ntmps13
  go_wp2_with (at_builtin; apply wpList_append_row _ rfl _ _ _ rfl base 5 i0 z0 1 Try.underlying27 hi hz hz0 hz1 hz2 (.slice Av bs.length cv) (encB bs) rfl hP.out.row _ A m c (encB ps) rfl hr encB_one (by unfold maxLen; rw [encB_len]; omega) (by rw [encB_len]; omega) hbase; intro v3 w3 hr3 k3 hm3; rw [← encB_append] at hr3; have hm3 := moved_of hm3; have b3 := hP.out.blk.keep k3 hoff; have d3 := b3.cell 3; have f3 := b3.frozen 3; simp at d3; obtain ⟨A3, c3', rfl, _⟩ := hr3.reads)
  go_ret3
  have kf : Keep [bb] w3 (w3.setCell ⟨bb, 3, none⟩ (.slice A3 (encB (bs ++ ps)).length c3')) := (Keep.refl _ w3).setCell (p := ⟨bb, 3, none⟩) (.inl (by simp)) _
  exact ⟨rfl, _, ⟨b3.set_ 3 _, hr3.keep kf (fun g hg => by simp; rintro rfl; exact row_off_blk hr3 b3 (by decide) hg)⟩, (k3.more (by simp_all)).trans (kf.more (by simp)), hm3⟩
set_option maxHeartbeats 1000000 in
theorem more_whole (h : Bk w base bb 52 id true en v bs) (hbase : base ≤ w.heap.size) {B : Nat} {A : Option Addr} {m : Nat} (c : Nat) {ps : List UInt8} (hr : Reads w B 1 A m (encB ps)) (hm : bs.length + m ≤ 65536) :
    Calls Try.prog 13 #[.pointer (some ⟨bb, 0, none⟩), .int .i64 id, .slice A m c, .bool true] w fun e w' => ∃ v', e = .returned (.tuple #[v', .bool true, .int .i64 0]) ∧ Row1 w' base 5 v' (encB (bs ++ ps)) ∧ Bk w' base bb 52 0 false en (.slice none 0 0) [] ∧ Keep (bb :: (rowBlk v).toList) w w' ∧ Moved w v v' := by
  obtain ⟨i0, z0, hi, hz, hz0, hz1, hz2⟩ := u8_info
  have hP := Lib.hid h
  obtain ⟨Av, cv, rfl, h1, h2, h3⟩ := h.slice
  have c0 := h.blk.cell 0
  have c1 := h.blk.cell 1
  have c3 := h.blk.cell 3
  simp at c0 c1 c3
  have hm' : ¬ (65536 : Int) < (bs.length : Int) + (m : Int) := by omega
  have hw : IntKind.i64.wrap ((bs.length : Int) + (m : Int)) = (bs.length : Int) + (m : Int) := by simp [IntKind.wrap, IntKind.signed, IntKind.bits]; omega
  have hid : (id != id) = false := by simp
  have hoff : bb ∉ (rowBlk (.slice Av bs.length cv)).toList := fun hx => row_off_blk h.row h.blk (by decide) (by simpa using hx)
  clear h3 h
  go_enter Try.func13, Try.ntmps13
  go_wp2_with (first
    | (at_builtin; apply wpList_append_row _ rfl _ _ _ rfl base 5 i0 z0 1 Try.underlying27 hi hz hz0 hz1 hz2 (.slice Av bs.length cv) (encB bs) rfl hP.out.row _ A m c (encB ps) rfl hr encB_one (by unfold maxLen; rw [encB_len]; omega) (by rw [encB_len]; omega) hbase; intro v3 w3 hr3 k3 hm3; rw [← encB_append] at hr3; have hm3 := moved_of hm3; have b3 := hP.out.blk.keep k3 hoff; have d3 := b3.cell 3; have f3 := b3.frozen 3; simp at d3; obtain ⟨A3, c3', rfl, _⟩ := hr3.reads; have kf : Keep [bb] w3 (w3.setCell ⟨bb, 3, none⟩ (.slice A3 (encB (bs ++ ps)).length c3')) := (Keep.refl _ w3).setCell (p := ⟨bb, 3, none⟩) (.inl (by simp)) _; have b4 : Bk (w3.setCell ⟨bb, 3, none⟩ (.slice A3 (encB (bs ++ ps)).length c3')) base bb 52 id true en _ (bs ++ ps) := ⟨b3.set_ 3 _, hr3.keep kf (fun g hg => by simp; rintro rfl; exact row_off_blk hr3 b3 (by decide) hg)⟩; have HE := Lib.hid (ends_ b4))
    | (go_at_call 22; apply HE.out.mono; rintro e w5 ⟨rfl, b5, k5⟩))
  go_ret3
  have hr5 := b4.row.keep k5 (fun g hg => by simp; rintro rfl; exact row_off_blk b4.row b4.blk (by decide) hg)
  exact ⟨_, rfl, hr5, b5, ((k3.more (by simp_all)).trans (kf.more (by simp))).trans (k5.more (by simp)), hm3⟩
end
end Go.Proofs.Ytenegjflapppdaa
