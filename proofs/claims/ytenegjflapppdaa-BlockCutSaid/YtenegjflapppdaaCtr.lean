/- block: what a block holds; its calls. -/
import Derived.Test.YtenegjflapppdaaClone
set_option linter.all false
namespace Go.Proofs.Ytenegjflapppdaa
open Go.ChangeShapes Go.WideShapes Go.ChangeAt Go.RowKit
attribute [local go_sem] setCell_drewN alloc_drewN
/-- a block of type t at block bb -/
structure Bk (w : World) (base bb : Nat) (t : TypeId) (id : Int) (wt en : Bool) (v : Value) (bs : List UInt8) : Prop where
  blk : Blk w bb t #[.int .i64 id, .bool wt, .bool en, v]
  row : Row1 w base 5 v (encB bs)
section
variable {w w' : World} {base bb : Nat} {t : TypeId} {id : Int} {wt en : Bool} {v : Value} {bs : List UInt8}
theorem Bk.keep {gs : List Nat} (h : Bk w base bb t id wt en v bs) (k : Keep gs w w') (h1 : bb ∉ gs) (h2 : ∀ g, rowBlk v = some g → g ∉ gs) : Bk w' base bb t id wt en v bs := ⟨h.blk.keep k h1, h.row.keep k h2⟩
theorem Bk.slice (h : Bk w base bb t id wt en v bs) : ∃ A cap, v = .slice A bs.length cap ∧ bs.length ≤ cap ∧ cap ≤ 9223372036854775807 ∧ Reads w w.heap.size 1 A bs.length (encB bs) := by
  obtain ⟨A, cap, rfl, h1, h2, h3⟩ := h.row.reads
  rw [encB_len] at h1 h3 ⊢
  exact ⟨A, cap, rfl, h1, h2, h3⟩
/-- a field that is no row is set -/
theorem Bk.set1 (h : Bk w base bb t id wt en v bs) (ht : t ≠ 5) {cs : Array Value} {k : Nat} {u : Value} {id' : Int} {wt' en' : Bool} (hb : Blk (w.setCell ⟨bb, k, none⟩ u) bb t #[.int .i64 id', .bool wt', .bool en', v]) : Bk (w.setCell ⟨bb, k, none⟩ u) base bb t id' wt' en' v bs :=
  ⟨hb, h.row.keep ((Keep.refl [bb] w).setCell (p := ⟨bb, k, none⟩) (.inl (by simp)) u) (fun g hg => by simp; rintro rfl; exact row_off_blk h.row h.blk (Ne.symm ht) hg)⟩
end
section
variable {w w' : World} {base bb : Nat} {id : Int} {wt en : Bool} {v : Value} {bs : List UInt8}
theorem new_ (w : World) : Calls Try.prog 9 #[] w fun e w' => e = .returned (.pointer (some ⟨w.heap.size, 0, none⟩)) ∧ w' = w.alloc (.cells #[.int .i64 0, .bool false, .bool false, .slice none 0 0] 52) := by
  go_enter Try.func9, Try.ntmps9
  go_wp2
  go_ret
  exact ⟨rfl, rfl⟩
theorem held_ (h : Bk w base bb 52 id wt en v bs) : Calls Try.prog 17 #[.pointer (some ⟨bb, 0, none⟩)] w fun e w' => e = .returned (.int .i64 bs.length) ∧ w = w' := by
  obtain ⟨A, cap, rfl, h1, h2, h3⟩ := h.slice
  have c3 := h.blk.cell 3
  simp at c3
  go_enter Try.func17, Try.ntmps17
  go_wp2
  go_ret
  exact ⟨rfl, rfl⟩
theorem isend_ (h : Bk w base bb 52 id wt en v bs) : Calls Try.prog 16 #[.pointer (some ⟨bb, 0, none⟩)] w fun e w' => e = .returned (.bool en) ∧ w = w' := by
  have c2 := h.blk.cell 2
  simp at c2
  go_enter Try.func16, Try.ntmps16
  go_wp2
  go_ret
  exact ⟨rfl, rfl⟩
theorem waits_ (h : Bk w base bb 52 id wt en v bs) : Calls Try.prog 15 #[.pointer (some ⟨bb, 0, none⟩)] w fun e w' => e = .returned (.tuple #[.int .i64 id, .bool wt]) ∧ Keep [] w w' := by
  have c0 := h.blk.cell 0
  have c1 := h.blk.cell 1
  simp at c0 c1
  go_enter Try.func15, Try.ntmps15
  go_wp2
  refine wpIn_wide.1 (region_rt (n := 0) [] [(0, .pointer (some ⟨bb, 0, none⟩)), (1, .pointer (some ⟨bb, 0, none⟩)), (2, .pointer (some ⟨bb, 0, none⟩)), (3, .int .i64 id), (4, .pointer (some ⟨bb, 0, none⟩)), (5, .pointer (some ⟨bb, 0, none⟩)), (6, .pointer (some ⟨bb, 1, none⟩)), (7, .bool wt), (8, .int .i64 id), (9, .bool wt)]
    (fun W => W = w.drew) (by kernel_rfl) (by kernel_rfl) rfl ?_ ?_)
  · (simp only [evOk, putAll, List.getElem?_toArray, List.getElem?_cons_zero, List.getElem?_cons_succ, Option.bind_some, Act.put, List.setIfInBounds_toArray, List.set_cons_zero, List.set_cons_succ]; repeat' apply And.intro) <;> first | exact trivial | (rintro W rfl; simp [go_sem, c0, c1]; done)
  · simp only [wpTail, putAll, List.getElem?_toArray, List.getElem?_cons_zero, List.getElem?_cons_succ, Option.bind_some, Act.put, List.setIfInBounds_toArray, List.set_cons_zero, List.set_cons_succ]
    try go_at_K
    try go_wp2
    go_ret2
    exact ⟨rfl, (Keep.refl [] w).drew⟩
theorem ends_ (h : Bk w base bb 52 id wt en v bs) : Calls Try.prog 22 #[.pointer (some ⟨bb, 0, none⟩)] w fun e w' => e = .returned v ∧ Bk w' base bb 52 0 false en (.slice none 0 0) [] ∧ Keep [bb] w w' := by
  obtain ⟨A, cap, rfl, h1, h2, h3⟩ := h.slice
  have c3 := h.blk.cell 3
  have c0 := h.blk.cell 0
  have c1 := h.blk.cell 1
  have f0 := h.blk.frozen 0
  have f1 := h.blk.frozen 1
  have f3 := h.blk.frozen 3
  simp at c3 c0 c1
  go_enter Try.func22, Try.ntmps22
  go_wp2
  go_ret
  exact ⟨rfl, ⟨((h.blk.set_ 0 (.int .i64 0)).set_ 1 (.bool false)).set_ 3 (.slice none 0 0), Row1.nil _ _ _⟩, (((Keep.refl _ w).setCell (p := ⟨bb, 0, none⟩) (.inl (by simp)) _).setCell (p := ⟨bb, 1, none⟩) (.inl (by simp)) _).setCell (p := ⟨bb, 3, none⟩) (.inl (by simp)) _⟩
theorem start_wait (h : Bk w base bb 52 id true en v bs) (i : Int) (e' wh : Bool) (A : Option Addr) (m c : Nat) : Calls Try.prog 11 #[.pointer (some ⟨bb, 0, none⟩), .int .i64 i, .bool e', .slice A m c, .bool wh] w fun e w' => e = .returned (.tuple #[.slice none 0 0, .bool false, .int .i64 1]) ∧ w = w' := by
  have c1 := h.blk.cell 1
  simp at c1
  go_enter Try.func11, Try.ntmps11
  go_wp2
  go_ret3
  exact ⟨rfl, rfl⟩
theorem start_big (h : Bk w base bb 52 id false en v bs) (i : Int) (e' wh : Bool) (A : Option Addr) (m c : Nat) (hm : 65536 < m) : Calls Try.prog 11 #[.pointer (some ⟨bb, 0, none⟩), .int .i64 i, .bool e', .slice A m c, .bool wh] w fun e w' => e = .returned (.tuple #[.slice none 0 0, .bool false, .int .i64 11]) ∧ w = w' := by
  have c1 := h.blk.cell 1
  simp at c1
  have hm' : (65536 : Int) < (m : Int) := by omega
  go_enter Try.func11, Try.ntmps11
  go_wp2
  go_ret3
  exact ⟨rfl, rfl⟩
theorem start_whole (h : Bk w base bb 52 id false en v bs) (i : Int) (e' : Bool) {B : Nat} {A : Option Addr} {m : Nat} (c : Nat) {ps : List UInt8} (hm : m ≤ 65536) (hr : Reads w B 1 A m (encB ps)) (hB : B ≤ w.heap.size) (ho : 0 < m → ∀ ad, A = some ad → ad.block ≠ bb) : Calls Try.prog 11 #[.pointer (some ⟨bb, 0, none⟩), .int .i64 i, .bool e', .slice A m c, .bool true] w fun e w' => ∃ r, e = .returned (.tuple #[r, .bool true, .int .i64 0]) ∧ Row1 w' w.heap.size 5 r (encB ps) ∧ Bk w' base bb 52 id false e' v bs ∧ Keep [bb] w w' := by
  have c1 := h.blk.cell 1
  have c2 := h.blk.cell 2
  have f2 := h.blk.frozen 2
  have hlt := h.blk.lt
  simp at c1 c2
  have hm' : ¬ (65536 : Int) < (m : Int) := by omega
  have h2 : Bk (w.setCell ⟨bb, 2, none⟩ (.bool e')) base bb 52 id false e' v bs := h.set1 (by decide) (cs := #[]) (h.blk.set_ 2 (.bool e'))
  have k2 : Keep [bb] w (w.setCell ⟨bb, 2, none⟩ (.bool e')) := (Keep.refl _ w).setCell (p := ⟨bb, 2, none⟩) (.inl (by simp)) _
  have hr2 := hr.kept k2 hB (fun h0 ad e hx => ho h0 ad e (by simpa using hx))
  have hsz : (w.setCell ⟨bb, 2, none⟩ (.bool e')).heap.size = w.heap.size := by simp [World.setCell]
  go_enter Try.func11, Try.ntmps11
  obtain ⟨W2, hW2⟩ : ∃ W2, W2 = w.setCell ⟨bb, 2, none⟩ (.bool e') := ⟨_, rfl⟩
  rw [← hW2] at h2 k2 hr2 hsz
  have HW2 := Lib.hid hW2
  clear hW2
  go_wp2_with (go_at_call 21; rw [← HW2.out]; apply (clone _ hr2 (by omega) (by omega)).mono; rintro e w3 ⟨r, rfl, hr3, k3⟩)
  go_ret3
  rw [hsz] at hr3
  exact ⟨_, rfl, hr3, h2.keep k3 (by simp) (by simp), k2.trans (k3.more (by simp))⟩
theorem start_part (h : Bk w base bb 52 id false en v bs) (i : Int) (e' : Bool) {B : Nat} {A : Option Addr} {m : Nat} (c : Nat) {ps : List UInt8} (hm : m ≤ 65536) (hr : Reads w B 1 A m (encB ps)) (hB : B ≤ w.heap.size) (hbase : base ≤ w.heap.size) (ho : 0 < m → ∀ ad, A = some ad → ad.block ≠ bb) : Calls Try.prog 11 #[.pointer (some ⟨bb, 0, none⟩), .int .i64 i, .bool e', .slice A m c, .bool false] w fun e w' => e = .returned (.tuple #[.slice none 0 0, .bool false, .int .i64 0]) ∧ ∃ v', Bk w' base bb 52 i true e' v' ps ∧ Keep [bb] w w' ∧ Moved w v v' := by
  have c1 := h.blk.cell 1
  have c2 := h.blk.cell 2
  have f2 := h.blk.frozen 2
  have hlt := h.blk.lt
  simp at c1 c2
  have hm' : ¬ (65536 : Int) < (m : Int) := by omega
  have h2 : Bk (w.setCell ⟨bb, 2, none⟩ (.bool e')) base bb 52 id false e' v bs := h.set1 (by decide) (cs := #[]) (h.blk.set_ 2 (.bool e'))
  have k2 : Keep [bb] w (w.setCell ⟨bb, 2, none⟩ (.bool e')) := (Keep.refl _ w).setCell (p := ⟨bb, 2, none⟩) (.inl (by simp)) _
  have hr2 := hr.kept k2 hB (fun h0 ad e hx => ho h0 ad e (by simpa using hx))
  have hsz : (w.setCell ⟨bb, 2, none⟩ (.bool e')).heap.size = w.heap.size := by simp [World.setCell]
  go_enter Try.func11, Try.ntmps11
  obtain ⟨W2, hW2⟩ : ∃ W2, W2 = w.setCell ⟨bb, 2, none⟩ (.bool e') := ⟨_, rfl⟩
  rw [← hW2] at h2 k2 hr2 hsz
  have HW2 := Lib.hid hW2
  clear hW2
  go_wp2_with (go_at_call 21; rw [← HW2.out]; apply (clone _ hr2 (by omega) (by omega)).mono; rintro e w3 ⟨r, rfl, hr3, k3⟩; obtain ⟨Ar, cr, rfl, _⟩ := hr3.reads; have h3 := h2.keep k3 (by simp) (by simp); have d0 := h3.blk.cell 0; have d1 := h3.blk.cell 1; have d3 := h3.blk.cell 3; have g0 := h3.blk.frozen 0; have g1 := h3.blk.frozen 1; have g3 := h3.blk.frozen 3; simp at d0 d1 d3; obtain ⟨Av, cv, rfl, _⟩ := h3.row.reads)
  go_ret3
  rw [hsz] at hr3
  have kf : Keep [bb] w3 (((w3.setCell ⟨bb, 0, none⟩ (.int .i64 i)).setCell ⟨bb, 1, none⟩ (.bool true)).setCell ⟨bb, 3, none⟩ (.slice Ar (encB ps).length cr)) := (((Keep.refl _ w3).setCell (p := ⟨bb, 0, none⟩) (.inl (by simp)) _).setCell (p := ⟨bb, 1, none⟩) (.inl (by simp)) _).setCell (p := ⟨bb, 3, none⟩) (.inl (by simp)) _
  exact ⟨rfl, _, ⟨((h3.blk.set_ 0 (.int .i64 i)).set_ 1 (.bool true)).set_ 3 _, (hr3.down hbase).keep kf (fun g hg => by have := (hr3.lt g hg).1; simp; omega)⟩, (k2.trans (k3.more (by simp))).trans kf, fun g hg => .inr (hr3.lt g hg).1⟩
theorem more_not (h : Bk w base bb 52 id wt en v bs) (i : Int) (hno : wt = false ∨ (wt = true ∧ (id == i) = false)) (wh : Bool) (A : Option Addr) (m c : Nat) : Calls Try.prog 13 #[.pointer (some ⟨bb, 0, none⟩), .int .i64 i, .slice A m c, .bool wh] w fun e w' => e = .returned (.tuple #[.slice none 0 0, .bool false, .int .i64 1]) ∧ w = w' := by
  have c0 := h.blk.cell 0
  have c1 := h.blk.cell 1
  simp at c0 c1
  rcases hno with rfl | ⟨rfl, hi⟩
  · go_enter Try.func13, Try.ntmps13
    go_wp2
    go_ret3
    exact ⟨rfl, rfl⟩
  · have hi2 : (id != i) = true := by simp [bne, hi]
    go_enter Try.func13, Try.ntmps13
    go_wp2
    go_ret3
    exact ⟨rfl, rfl⟩
theorem more_big (h : Bk w base bb 52 id true en v bs) (wh : Bool) (A : Option Addr) (m c : Nat) (hbm : bs.length ≤ 65536) (hm0 : m ≤ 9223372036854000000) (hm : 65536 < bs.length + m) : Calls Try.prog 13 #[.pointer (some ⟨bb, 0, none⟩), .int .i64 id, .slice A m c, .bool wh] w fun e w' => e = .returned (.tuple #[.slice none 0 0, .bool false, .int .i64 11]) ∧ Bk w' base bb 52 0 false en (.slice none 0 0) [] ∧ Keep [bb] w w' := by
  obtain ⟨Av, cv, rfl, h1, h2, h3⟩ := h.slice
  have c0 := h.blk.cell 0
  have c1 := h.blk.cell 1
  have c3 := h.blk.cell 3
  simp at c0 c1 c3
  have hm' : (65536 : Int) < (bs.length : Int) + (m : Int) := by omega
  have hw : IntKind.i64.wrap ((bs.length : Int) + (m : Int)) = (bs.length : Int) + (m : Int) := by simp [IntKind.wrap, IntKind.signed, IntKind.bits]; omega
  have HE := Lib.hid (ends_ h)
  have hid : (id != id) = false := by simp
  clear h3 h
  go_enter Try.func13, Try.ntmps13
  go_wp2_with (go_at_call 22; apply HE.out.mono; rintro e w2 ⟨rfl, b2, k2⟩)
  go_ret3
  exact ⟨rfl, b2, k2⟩
end
end Go.Proofs.Ytenegjflapppdaa
