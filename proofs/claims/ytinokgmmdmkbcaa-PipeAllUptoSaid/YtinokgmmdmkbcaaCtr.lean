/- pipe: what a pipe holds; both pipes' calls. -/
import Derived.Test.YtinokgmmdmkbcaaRow1
set_option linter.all false
namespace Go.Proofs.Ytinokgmmdmkbcaa
open Go.ChangeShapes Go.WideShapes Go.ChangeAt Go.RowKit
attribute [local go_sem] setCell_drewN alloc_drewN
section
variable {P : Program} (w : World)
theorem wp_append_row {o : Oper} {a : Act} {K : Act → World → Prop} {Q : Exit → Act → World → Prop} (s x : Operand) (t : TypeId)
    (ho : o.op = .call { callee := .builtin .append, args := #[s, x], argTypes := #[t, t] })
    (base : Nat) (e : TypeId) (i : TypeInfo) (z : Value) (bytes : Nat) (ht : P.underlying t = some (.slice e)) (hi : P.info? e = some i) (hz : i.zero = some z)
    (hsize : i.size = 1) (hby : i.bytes = bytes) (hzs : z.cells.size = 1)
    (v : Value) (xs : List Value) (hs : a.eval s = v) (hown : Row1 w base e v xs)
    (B : Nat) (A : Option Addr) (m c : Nat) (news : List Value) (hx : a.eval x = .slice A m c) (hr : Reads w B 1 A m news) (h1 : ∀ u ∈ news, u.oneCell' = true)
    (h63 : xs.length + m ≤ maxLen) (hbytes : (xs.length + m) * bytes ≤ 140737488355328) (hbase : base ≤ w.heap.size)
    (h : ∀ v' w', Row1 w' base e v' (xs ++ news) → Keep (rowBlk v).toList w w' → (rowBlk v' = rowBlk v ∨ ∃ g, rowBlk v' = some g ∧ w.heap.size ≤ g) → K (a.put o.dst v') w') : o.wp P a w K Q := by
  obtain ⟨v', w', hrun, h2, h3, h4⟩ := row_append (P := P) hown t o.type i z bytes ht hi hz hsize hby hzs hr (c := c) h1 h63 hbytes hbase
  unfold Oper.wp execOp
  simp only [ho, resolve, invoke, builtin, Sem.run_bind, Sem.run_pure, Result.andThen_ok, List.map_toArray, List.map_cons, List.map_nil, hs, hx, hrun]
  exact h v' w' h2 h3 h4
theorem wpList_append_row {ops : Array Oper} {rest : List Oper} {o : Oper} {a : Act} {Q : Exit → Act → World → Prop} (hgd : o.guard = none) (s x : Operand) (t : TypeId)
    (ho : o.op = .call { callee := .builtin .append, args := #[s, x], argTypes := #[t, t] })
    (base : Nat) (e : TypeId) (i : TypeInfo) (z : Value) (bytes : Nat) (ht : P.underlying t = some (.slice e)) (hi : P.info? e = some i) (hz : i.zero = some z)
    (hsize : i.size = 1) (hby : i.bytes = bytes) (hzs : z.cells.size = 1)
    (v : Value) (xs : List Value) (hs : a.eval s = v) (hown : Row1 w base e v xs)
    (B : Nat) (A : Option Addr) (m c : Nat) (news : List Value) (hx : a.eval x = .slice A m c) (hr : Reads w B 1 A m news) (h1 : ∀ u ∈ news, u.oneCell' = true)
    (h63 : xs.length + m ≤ maxLen) (hbytes : (xs.length + m) * bytes ≤ 140737488355328) (hbase : base ≤ w.heap.size)
    (h : ∀ v' w', Row1 w' base e v' (xs ++ news) → Keep (rowBlk v).toList w w' → (rowBlk v' = rowBlk v ∨ ∃ g, rowBlk v' = some g ∧ w.heap.size ≤ g) → wpList P ops Q rest (a.put o.dst v') w') : wpList P ops Q (o :: rest) a w :=
  wpList_plain hgd fun _ hK => wp_append_row w s x t ho base e i z bytes ht hi hz hsize hby hzs v xs hs hown B A m c news hx hr h1 h63 hbytes hbase fun v' w' h2 h3 h4 => hK _ _ (h v' w' h2 h3 h4)
end
theorem u8_info : ∃ i z, Try.prog.info? 5 = some i ∧ i.zero = some z ∧ i.size = 1 ∧ i.bytes = 1 ∧ z.cells.size = 1 := by
  obtain ⟨i, hi⟩ : ∃ i, Try.prog.info? 5 = some i := Option.isSome_iff_exists.1 (by kernel_rfl)
  have h : (Try.prog.info? 5).map (fun i => (i.size, i.bytes, i.zero.map (·.cells.size))) = some (1, 1, some 1) := by kernel_rfl
  rw [hi] at h
  simp only [Option.map_some, Option.some.injEq, Prod.mk.injEq] at h
  obtain ⟨h1, h2, h3⟩ := h
  cases hz : i.zero with
  | none => rw [hz] at h3; simp at h3
  | some z =>
    rw [hz] at h3
    exact ⟨i, z, hi, hz, h1, h2, by simpa using h3⟩
/-- a pipe of type t at block pb: its bytes in v, whether it has ended, whether that was told -/
structure Pp (w : World) (base pb : Nat) (t : TypeId) (v : Value) (bs : List UInt8) (en to : Bool) : Prop where
  blk : Blk w pb t #[v, .bool en, .bool to]
  row : Row1 w base 5 v (encB bs)
def Moved (w : World) (v v' : Value) : Prop := ∀ g, rowBlk v' = some g → rowBlk v = some g ∨ w.heap.size ≤ g
theorem moved_of {w : World} {v v' : Value} (h : rowBlk v' = rowBlk v ∨ ∃ g, rowBlk v' = some g ∧ w.heap.size ≤ g) : Moved w v v' := fun g hg => by
  rcases h with h | ⟨g', h, h2⟩
  · exact .inl (by rw [← h]; exact hg)
  · rw [h] at hg; injection hg with hg; subst hg; exact .inr h2
def Sep (v u : Value) : Prop := ∀ g, rowBlk v = some g → rowBlk u ≠ some g
section
variable {w w' : World} {base pb : Nat} {t : TypeId} {v : Value} {bs : List UInt8} {en to : Bool}
theorem Pp.keep {gs : List Nat} (h : Pp w base pb t v bs en to) (k : Keep gs w w') (h1 : pb ∉ gs) (h2 : ∀ g, rowBlk v = some g → g ∉ gs) : Pp w' base pb t v bs en to := ⟨h.blk.keep k h1, h.row.keep k h2⟩
theorem Pp.ne (h : Pp w base pb t v bs en to) (ht : t ≠ 5) : ∀ g, rowBlk v = some g → g ≠ pb := fun g hg e => by
  subst e
  have hblk := h.blk
  obtain ⟨A', cap, rfl, _, _, h⟩ := h.row
  rcases h with ⟨rfl, _⟩ | ⟨g, off, cs, rfl, _, hb', _⟩
  · cases hg
  · injection hg with hg
    subst hg
    exact absurd rfl (hblk.ne_ hb' ht)
theorem Pp.off (h : Pp w base pb t v bs en to) (ht : t ≠ 5) : pb ∉ (rowBlk v).toList := fun hx => by
  cases hv : rowBlk v with
  | none => rw [hv] at hx; simp at hx
  | some g => rw [hv] at hx; simp at hx; exact h.ne ht g hv hx.symm
theorem Pp.slice (h : Pp w base pb t v bs en to) : ∃ A cap, v = .slice A bs.length cap ∧ bs.length ≤ cap ∧ cap ≤ 9223372036854775807 ∧ Reads w w.heap.size 1 A bs.length (encB bs) := by
  obtain ⟨A, cap, rfl, h1, h2, h3⟩ := h.row.reads
  rw [encB_len] at h1 h3 ⊢
  exact ⟨A, cap, rfl, h1, by unfold maxLen at h2; omega, h3⟩
variable (w)
theorem new_ : Calls Try.prog 8 #[] w fun e w' => e = .returned (.pointer (some ⟨w.heap.size, 0, none⟩)) ∧ w' = w.alloc (.cells #[.slice none 0 0, .bool false, .bool false] 51) := by
  go_enter Try.func8, Try.ntmps8
  go_wp2
  go_ret
  exact ⟨rfl, rfl⟩
variable {w}
theorem len_ (h : Pp w base pb 51 v bs en to) : Calls Try.prog 14 #[.pointer (some ⟨pb, 0, none⟩)] w fun e w' => e = .returned (.int .i64 (bs.length : Nat)) ∧ w = w' := by
  obtain ⟨A, cap, rfl, h1, h2, h3⟩ := h.slice
  have c0 := h.blk.cell 0
  simp at c0
  go_enter Try.func14, Try.ntmps14
  go_wp2
  go_ret
  exact ⟨rfl, rfl⟩
def overB (bs : List UInt8) (en : Bool) : Bool := en && decide (bs.length = 0)
theorem over_ (h : Pp w base pb 51 v bs en to) : Calls Try.prog 21 #[.pointer (some ⟨pb, 0, none⟩)] w fun e w' => e = .returned (.bool (overB bs en)) ∧ w = w' := by
  obtain ⟨A, cap, rfl, h1, h2, h3⟩ := h.slice
  have c0 := h.blk.cell 0
  have c1 := h.blk.cell 1
  simp at c0 c1
  unfold overB
  cases en
  · go_enter Try.func21, Try.ntmps21
    go_wp2
    go_ret
    exact ⟨rfl, rfl⟩
  · by_cases hl : bs.length = 0
    · have hl' : (((bs.length : Nat) : Int) == 0) = true := by simp; exact List.eq_nil_of_length_eq_zero hl
      go_enter Try.func21, Try.ntmps21
      go_wp2
      go_ret
      simp_all
    · have hl' : (((bs.length : Nat) : Int) == 0) = false := by simp; intro h; subst h; simp at hl
      go_enter Try.func21, Try.ntmps21
      go_wp2
      go_ret
      simp_all
theorem end_ (h : Pp w base pb 51 v bs en to) : Calls Try.prog 16 #[.pointer (some ⟨pb, 0, none⟩)] w fun e w' => e = .returned (.tuple #[]) ∧ w' = w.setCell ⟨pb, 1, none⟩ (.bool true) := by
  have c1 := h.blk.cell 1
  have f1 := h.blk.frozen 1
  simp at c1
  go_enter Try.func16, Try.ntmps16
  go_wp2
  go_end0
  exact ⟨rfl, rfl⟩
theorem rend_ (h : Pp w base pb 29 v bs en to) : Calls Try.prog 17 #[.pointer (some ⟨pb, 0, none⟩)] w fun e w' => e = .returned (.tuple #[]) ∧ w' = w.setCell ⟨pb, 1, none⟩ (.bool true) := by
  have c1 := h.blk.cell 1
  have f1 := h.blk.frozen 1
  simp at c1
  go_enter Try.func17, Try.ntmps17
  go_wp2
  go_end0
  exact ⟨rfl, rfl⟩
theorem cut_all (h : Pp w base pb 51 v bs en to) : Calls Try.prog 18 #[.pointer (some ⟨pb, 0, none⟩)] w fun e w' => e = .returned (.tuple #[]) ∧ w' = (w.setCell ⟨pb, 1, none⟩ (.bool true)).setCell ⟨pb, 0, none⟩ (.slice none 0 0) := by
  have c1 := h.blk.cell 1
  have f1 := h.blk.frozen 1
  have d := h.blk.set_ 1 (.bool true)
  have c0 := d.cell 0
  have f0 := d.frozen 0
  simp at c1 c0
  go_enter Try.func18, Try.ntmps18
  go_wp2
  go_end0
  exact ⟨rfl, rfl⟩
theorem rcut_all (h : Pp w base pb 29 v bs en to) : Calls Try.prog 19 #[.pointer (some ⟨pb, 0, none⟩)] w fun e w' => e = .returned (.tuple #[]) ∧ w' = (w.setCell ⟨pb, 1, none⟩ (.bool true)).setCell ⟨pb, 0, none⟩ (.slice none 0 0) := by
  have c1 := h.blk.cell 1
  have f1 := h.blk.frozen 1
  have d := h.blk.set_ 1 (.bool true)
  have c0 := d.cell 0
  have f0 := d.frozen 0
  simp at c1 c0
  go_enter Try.func19, Try.ntmps19
  go_wp2
  go_end0
  exact ⟨rfl, rfl⟩
theorem put_ (h : Pp w base pb 51 v bs en to) (hb : base ≤ w.heap.size) {B : Nat} {A : Option Addr} {m c : Nat} {news : List UInt8} (hr : Reads w B 1 A m (encB news)) (hl : bs.length + m ≤ 140737488355328) :
    Calls Try.prog 9 #[.pointer (some ⟨pb, 0, none⟩), .slice A m c] w fun e w' => e = .returned (.tuple #[]) ∧ ∃ v', Pp w' base pb 51 v' (if en then bs else bs ++ news) en to ∧ Keep (pb :: (rowBlk v).toList) w w' ∧ Moved w v v' := by
  obtain ⟨i0, z0, hi, hz, hz0, hz1, hz2⟩ := u8_info
  have hP := Lib.hid h
  have hblt := h.blk.lt
  have hoff := h.off (by decide)
  have hne := h.ne (by decide)
  obtain ⟨A0, cap0, rfl, _⟩ := h.row.reads
  have c0 := h.blk.cell 0
  have c1 := h.blk.cell 1
  simp at c0 c1
  cases en
  · go_enter Try.func9, Try.ntmps9
    go_wp2_with (at_builtin; apply wpList_append_row _ rfl _ _ _ rfl base 5 i0 z0 1 Try.underlying22 hi hz hz0 hz1 hz2 (.slice A0 (encB bs).length cap0) (encB bs) rfl h.row _ A m c (encB news) rfl hr encB_one (by rw [encB_len]; unfold maxLen; omega) (by rw [encB_len]; omega) hb; intro v1 w1 hrow1 k1 hm1; obtain ⟨A1, cap1, rfl, _⟩ := hrow1.reads; have b1 := h.blk.keep k1 hoff; have d0 := b1.cell 0; have d0f := b1.frozen 0; simp at d0)
    go_end0
    refine ⟨rfl, _, ⟨b1.set_ 0 _, ?_⟩, (k1.more (fun i hi => .inl (by simp at hi ⊢; exact .inr hi))).setCell (p := ⟨pb, 0, none⟩) (.inl (by simp)) _, fun g hg => moved_of hm1 g (by simpa only [List.length_append] using hg)⟩
    have := hrow1.keep ((Keep.refl [pb] w1).setCell (p := ⟨pb, 0, none⟩) (.inl (by simp)) (.slice A1 (encB bs ++ encB news).length cap1)) (fun g hg => by
      have := moved_of hm1 g hg
      simp
      rintro rfl
      rcases this with h | h
      · exact hne _ h rfl
      · omega)
    rw [encB_append]
    simpa only [List.length_append] using this
  · go_enter Try.func9, Try.ntmps9
    go_wp2
    go_end0
    exact ⟨rfl, _, hP.out, Keep.refl _ _, fun g hg => .inl hg⟩
theorem rput_ (h : Pp w base pb 29 v bs en to) (hb : base ≤ w.heap.size) {B : Nat} {A : Option Addr} {m c : Nat} {news : List UInt8} (hr : Reads w B 1 A m (encB news)) (hl : bs.length + m ≤ 140737488355328) :
    Calls Try.prog 10 #[.pointer (some ⟨pb, 0, none⟩), .slice A m c] w fun e w' => e = .returned (.tuple #[]) ∧ ∃ v', Pp w' base pb 29 v' (if en then bs else bs ++ news) en to ∧ Keep (pb :: (rowBlk v).toList) w w' ∧ Moved w v v' := by
  obtain ⟨i0, z0, hi, hz, hz0, hz1, hz2⟩ := u8_info
  have hP := Lib.hid h
  have hblt := h.blk.lt
  have hoff := h.off (by decide)
  have hne := h.ne (by decide)
  obtain ⟨A0, cap0, rfl, _⟩ := h.row.reads
  have c0 := h.blk.cell 0
  have c1 := h.blk.cell 1
  simp at c0 c1
  cases en
  · go_enter Try.func10, Try.ntmps10
    go_wp2_with (at_builtin; apply wpList_append_row _ rfl _ _ _ rfl base 5 i0 z0 1 Try.underlying22 hi hz hz0 hz1 hz2 (.slice A0 (encB bs).length cap0) (encB bs) rfl h.row _ A m c (encB news) rfl hr encB_one (by rw [encB_len]; unfold maxLen; omega) (by rw [encB_len]; omega) hb; intro v1 w1 hrow1 k1 hm1; obtain ⟨A1, cap1, rfl, _⟩ := hrow1.reads; have b1 := h.blk.keep k1 hoff; have d0 := b1.cell 0; have d0f := b1.frozen 0; simp at d0)
    go_end0
    refine ⟨rfl, _, ⟨b1.set_ 0 _, ?_⟩, (k1.more (fun i hi => .inl (by simp at hi ⊢; exact .inr hi))).setCell (p := ⟨pb, 0, none⟩) (.inl (by simp)) _, fun g hg => moved_of hm1 g (by simpa only [List.length_append] using hg)⟩
    have := hrow1.keep ((Keep.refl [pb] w1).setCell (p := ⟨pb, 0, none⟩) (.inl (by simp)) (.slice A1 (encB bs ++ encB news).length cap1)) (fun g hg => by
      have := moved_of hm1 g hg
      simp
      rintro rfl
      rcases this with h | h
      · exact hne _ h rfl
      · omega)
    rw [encB_append]
    simpa only [List.length_append] using this
  · go_enter Try.func10, Try.ntmps10
    go_wp2
    go_end0
    exact ⟨rfl, _, hP.out, Keep.refl _ _, fun g hg => .inl hg⟩
end
end Go.Proofs.Ytinokgmmdmkbcaa
