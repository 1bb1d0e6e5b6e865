/- pipe: Take, both. -/
import Derived.Test.YtinokgmmdmkbcaaCtr2
set_option linter.all false
namespace Go.Proofs.Ytinokgmmdmkbcaa
open Go.ChangeShapes Go.WideShapes Go.ChangeAt Go.RowKit
attribute [local go_sem] setCell_drewN alloc_drewN
section
variable {w w' : World} {base pb : Nat} {t : TypeId} {v : Value} {bs : List UInt8} {en to : Bool}
theorem Pp.setTold (h : Pp w base pb t v bs en to) (ht : t ≠ 5) (x : Bool) : Pp (w.setCell ⟨pb, 2, none⟩ (.bool x)) base pb t v bs en x :=
  ⟨h.blk.set_ 2 (.bool x), h.row.keep ((Keep.refl [pb] w).setCell (p := ⟨pb, 2, none⟩) (.inl (by simp)) _) (fun g hg => by simp; exact h.ne ht g hg)⟩
theorem Pp.setEnds (h : Pp w base pb t v bs en to) (ht : t ≠ 5) (x : Bool) : Pp (w.setCell ⟨pb, 1, none⟩ (.bool x)) base pb t v bs x to :=
  ⟨h.blk.set_ 1 (.bool x), h.row.keep ((Keep.refl [pb] w).setCell (p := ⟨pb, 1, none⟩) (.inl (by simp)) _) (fun g hg => by simp; exact h.ne ht g hg)⟩
theorem Pp.setNil (h : Pp w base pb t v bs en to) : Pp ((w.setCell ⟨pb, 1, none⟩ (.bool true)).setCell ⟨pb, 0, none⟩ (.slice none 0 0)) base pb t (.slice none 0 0) [] true to :=
  ⟨(h.blk.set_ 1 (.bool true)).set_ 0 (.slice none 0 0), Row1.nil _ _ _⟩
theorem row_told {r : Value} {T : List UInt8} {B : Nat} (h : Row1 w B 5 r (encB T)) (hb : pb < B) (x : Bool) : Row1 (w.setCell ⟨pb, 2, none⟩ (.bool x)) B 5 r (encB T) :=
  h.keep ((Keep.refl [pb] w).setCell (p := ⟨pb, 2, none⟩) (.inl (by simp)) _) (fun g hg => by have := (h.lt g hg).1; simp; omega)
theorem take_no (n : Int) (hn : n < 1) : Calls Try.prog 15 #[.pointer (some ⟨pb, 0, none⟩), .int .i64 n] w fun e w' => e = .returned (.tuple #[.slice none 0 0, .bool false]) ∧ w = w' := by
  go_enter Try.func15, Try.ntmps15
  go_wp2
  go_ret2
  exact ⟨rfl, rfl⟩
set_option maxHeartbeats 1000000 in
theorem take_ (h : Pp w base pb 51 v bs en to) (hl : bs.length ≤ 140737488355328) (n k : Nat) (hn : 1 ≤ n) (hk : k = min n bs.length) :
    Calls Try.prog 15 #[.pointer (some ⟨pb, 0, none⟩), .int .i64 n] w fun e w' => ∃ r v', e = .returned (.tuple #[r, .bool (overB (bs.drop k) en && !to)]) ∧ Row1 w' w.heap.size 5 r (encB (bs.take k)) ∧ Pp w' base pb 51 v' (bs.drop k) en (to || (overB (bs.drop k) en && !to)) ∧ Keep [pb] w w' ∧ Moved w v v' := by
  have hcut := cut_ h hl n k hk
  have hblt := h.blk.lt
  obtain ⟨T, hT⟩ : ∃ T, T = bs.take k := ⟨_, rfl⟩
  obtain ⟨D, hD⟩ : ∃ D, D = bs.drop k := ⟨_, rfl⟩
  rw [← hT, ← hD] at hcut ⊢
  have hn1 : ¬ (n : Int) < 1 := by omega
  clear hT hD hk h hl
  obtain ⟨ov, hov⟩ : ∃ ov, ov = overB D en := ⟨_, rfl⟩
  have Hov := Lib.hid hov
  rw [← hov]
  clear hov
  go_enter Try.func15, Try.ntmps15
  cases ov <;> cases to
  · go_wp2_with (first
      | (go_at_call 24; apply hcut.mono; rintro e w1 ⟨r, v1, rfl, hr1, hp1, k1, hm1⟩)
      | (go_at_call 21; apply (over_ hp1).mono; rw [← Hov.out]; rintro e w2 ⟨rfl, rfl⟩; have d2 := hp1.blk.cell 2; have d2f := hp1.blk.frozen 2; simp at d2))
    go_ret2
    exact ⟨r, v1, rfl, row_told hr1 hblt _, hp1.setTold (by decide) _, k1.setCell (p := ⟨pb, 2, none⟩) (.inl (by simp)) _, hm1⟩
  · go_wp2_with (first
      | (go_at_call 24; apply hcut.mono; rintro e w1 ⟨r, v1, rfl, hr1, hp1, k1, hm1⟩)
      | (go_at_call 21; apply (over_ hp1).mono; rw [← Hov.out]; rintro e w2 ⟨rfl, rfl⟩; have d2 := hp1.blk.cell 2; have d2f := hp1.blk.frozen 2; simp at d2))
    go_ret2
    exact ⟨r, v1, rfl, row_told hr1 hblt _, hp1.setTold (by decide) _, k1.setCell (p := ⟨pb, 2, none⟩) (.inl (by simp)) _, hm1⟩
  · go_wp2_with (first
      | (go_at_call 24; apply hcut.mono; rintro e w1 ⟨r, v1, rfl, hr1, hp1, k1, hm1⟩)
      | (go_at_call 21; apply (over_ hp1).mono; rw [← Hov.out]; rintro e w2 ⟨rfl, rfl⟩; have d2 := hp1.blk.cell 2; have d2f := hp1.blk.frozen 2; simp at d2))
    go_ret2
    exact ⟨r, v1, rfl, row_told hr1 hblt _, hp1.setTold (by decide) _, k1.setCell (p := ⟨pb, 2, none⟩) (.inl (by simp)) _, hm1⟩
  · go_wp2_with (first
      | (go_at_call 24; apply hcut.mono; rintro e w1 ⟨r, v1, rfl, hr1, hp1, k1, hm1⟩)
      | (go_at_call 21; apply (over_ hp1).mono; rw [← Hov.out]; rintro e w2 ⟨rfl, rfl⟩; have d2 := hp1.blk.cell 2; have d2f := hp1.blk.frozen 2; simp at d2))
    go_ret2
    exact ⟨r, v1, rfl, row_told hr1 hblt _, hp1.setTold (by decide) _, k1.setCell (p := ⟨pb, 2, none⟩) (.inl (by simp)) _, hm1⟩
end
end Go.Proofs.Ytinokgmmdmkbcaa
