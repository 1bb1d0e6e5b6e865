/- feed: what a feed holds; its small calls. -/
import Derived.Test.YtigdigljcalgkaaPureH
set_option linter.all false
namespace Go.Proofs.Ytigdigljcalgkaa
open Go.ChangeShapes Go.WideShapes Go.ChangeAt Go.RowKit Go.Proofs.YtigdigljcalgkaaW.PrintWords
attribute [local go_sem] setCell_drewN alloc_drewN Oper.semAt_some
/-- the client's preface -/
def pfB : List UInt8 := [80, 82, 73, 32, 42, 32, 72, 84, 84, 80, 47, 50, 46, 48, 13, 10, 13, 10, 83, 77, 13, 10, 13, 10]
/-- a feed at block fb: whether the preface is to come, the most, its bytes in v, the code -/
structure Fd (w : World) (base fb : Nat) (asks : Bool) (most : Int) (v : Value) (bs : List UInt8) (code : Int) : Prop where
  blk : Blk w fb 50 #[.bool asks, .int .i64 most, v, .int .i64 code]
  row : Row1 w base 5 v (encB bs)
section
variable {w w' : World} {base fb : Nat} {asks : Bool} {most code : Int} {v : Value} {bs : List UInt8}
theorem Fd.keep {gs : List Nat} (h : Fd w base fb asks most v bs code) (k : Keep gs w w') (h1 : fb ∉ gs) (h2 : ∀ g, rowBlk v = some g → g ∉ gs) : Fd w' base fb asks most v bs code := ⟨h.blk.keep k h1, h.row.keep k h2⟩
theorem row_ne {w : World} {base g0 : Nat} {t e : TypeId} {v : Value} {xs : List Value} {cs : Array Value} (h : Row1 w base e v xs) (hb : Blk w g0 t cs) (ht : t ≠ e) : ∀ g, rowBlk v = some g → g ≠ g0 := fun g hg e => by
  subst e
  obtain ⟨A', cap, rfl, _, _, h⟩ := h
  rcases h with ⟨rfl, _⟩ | ⟨g, off, cs, rfl, _, hb', _⟩
  · cases hg
  · injection hg with hg
    subst hg
    exact absurd rfl (hb.ne_ hb' ht)
theorem Fd.ne (h : Fd w base fb asks most v bs code) : ∀ g, rowBlk v = some g → g ≠ fb := row_ne h.row h.blk (by decide)
theorem Fd.off (h : Fd w base fb asks most v bs code) : fb ∉ (rowBlk v).toList := fun hx => by
  cases hv : rowBlk v with
  | none => rw [hv] at hx; simp at hx
  | some g => rw [hv] at hx; simp at hx; exact h.ne g hv hx.symm
theorem Fd.slice (h : Fd w base fb asks most v bs code) : ∃ A cap, v = .slice A bs.length cap ∧ bs.length ≤ cap ∧ cap ≤ 9223372036854775807 ∧ Reads w w.heap.size 1 A bs.length (encB bs) := by
  obtain ⟨A, cap, rfl, h1, h2, h3⟩ := h.row.reads
  rw [encB_len] at h1 h3 ⊢
  exact ⟨A, cap, rfl, h1, by unfold maxLen at h2; omega, h3⟩
/-- a field that is no row is set -/
theorem Fd.set1 (h : Fd w base fb asks most v bs code) {cs : Array Value} {k : Nat} {u : Value} {asks' : Bool} {most' code' : Int} (hb : Blk (w.setCell ⟨fb, k, none⟩ u) fb 50 #[.bool asks', .int .i64 most', v, .int .i64 code']) : Fd (w.setCell ⟨fb, k, none⟩ u) base fb asks' most' v bs code' :=
  ⟨hb, h.row.keep ((Keep.refl [fb] w).setCell (p := ⟨fb, k, none⟩) (.inl (by simp)) u) (fun g hg => by simp; exact h.ne g hg)⟩
variable (w)
theorem preface_ : Calls Try.prog 18 #[] w fun e w' => e = .returned (.slice (some ⟨w.heap.size, 0, none⟩) 24 24) ∧ w' = w.alloc (.cells (encB pfB).toArray 5 (24, 25)) := by
  have kc := Lib.run_convert_bytes_const (P := Try.prog) w 25 5 (encB pfB).toArray 24 24 Try.underlying25 Try.underlying5
  simp [encB, pfB] at kc
  go_enter Try.func18, Try.ntmps18
  go_wp2
  go_ret
  exact ⟨rfl, rfl⟩
theorem most_ (h : Fd w base fb asks most v bs code) (n : Int) (h1 : 16384 ≤ n) (h2 : n ≤ 16777215) : Calls Try.prog 16 #[.pointer (some ⟨fb, 0, none⟩), .int .i64 n] w fun e w' => e = .returned (.int .i64 0) ∧ Fd w' base fb asks n v bs code ∧ Keep [fb] w w' ∧ w'.heap.size = w.heap.size := by
  have c1 := h.blk.cell 1
  have f1 := h.blk.frozen 1
  simp at c1
  have k1 : ¬ n < 16384 := by omega
  have k2 : ¬ 16777215 < n := by omega
  go_enter Try.func16, Try.ntmps16
  go_wp2
  go_ret
  exact ⟨rfl, h.set1 (cs := #[]) (h.blk.set_ 1 (.int .i64 n)), (Keep.refl _ w).setCell (p := ⟨fb, 1, none⟩) (.inl (by simp)) _, by simp [World.setCell]⟩
theorem most_bad (p : Option Addr) (n : Int) (h : p = none ∨ n < 16384 ∨ 16777215 < n) : Calls Try.prog 16 #[.pointer p, .int .i64 n] w fun e w' => e = .returned (.int .i64 1) ∧ w = w' := by
  cases p with
  | none =>
    go_enter Try.func16, Try.ntmps16
    go_wp2
    go_ret
    exact ⟨rfl, rfl⟩
  | some a =>
    by_cases k1 : n < 16384
    · go_enter Try.func16, Try.ntmps16
      go_wp2
      go_ret
      exact ⟨rfl, rfl⟩
    · have k2 : 16777215 < n := by
        rcases h with h | h | h
        · cases h
        · omega
        · exact h
      clear h
      go_enter Try.func16, Try.ntmps16
      go_wp2
      go_ret
      exact ⟨rfl, rfl⟩
theorem new_ (asks : Bool) (n : Int) (h1 : 16384 ≤ n) (h2 : n ≤ 16777215) : Calls Try.prog 10 #[.bool asks, .int .i64 n] w fun e w' => e = .returned (.tuple #[.pointer (some ⟨w.heap.size, 0, none⟩), .int .i64 0]) ∧ Fd w' w.heap.size w.heap.size asks n (.slice none 0 0) [] 0 ∧ Keep [] w w' ∧ w'.heap.size = w.heap.size + 1 := by
  go_enter Try.func10, Try.ntmps10
  have hB : Fd (w.alloc (.cells #[.bool asks, .int .i64 0, .slice none 0 0, .int .i64 0] 50)) w.heap.size w.heap.size asks 0 (.slice none 0 0) [] 0 := ⟨Blk.new w 50 _, Row1.nil _ _ _⟩
  go_wp2_with (fail)
  refine (most_ _ hB n h1 h2).mono ?_
  rintro e w' ⟨rfl, h, k, hz⟩
  have ks := ((Keep.refl [] w).alloc (.cells #[.bool asks, .int .i64 0, .slice none 0 0, .int .i64 0] 50)).step k (by simp)
  clear hB
  go_wp2
  go_ret2
  refine ⟨rfl, h, ks, ?_⟩
  simpa using hz
theorem new_bad (asks : Bool) (n : Int) (h : n < 16384 ∨ 16777215 < n) : Calls Try.prog 10 #[.bool asks, .int .i64 n] w fun e w' => e = .returned (.tuple #[.pointer none, .int .i64 1]) ∧ Keep [] w w' := by
  go_enter Try.func10, Try.ntmps10
  go_wp2_with (fail)
  refine (most_bad _ _ n (.inr h)).mono ?_
  rintro e w' ⟨rfl, rfl⟩
  clear h
  go_wp2
  go_ret2
  exact ⟨rfl, (Keep.refl _ w).alloc _⟩
variable {w}
theorem code_ (h : Fd w base fb asks most v bs code) : Calls Try.prog 14 #[.pointer (some ⟨fb, 0, none⟩)] w fun e w' => e = .returned (.int .i64 code) ∧ w = w' := by
  have c3 := h.blk.cell 3
  simp at c3
  go_enter Try.func14, Try.ntmps14
  go_wp2
  go_ret
  exact ⟨rfl, rfl⟩
theorem held_ (h : Fd w base fb asks most v bs code) : Calls Try.prog 15 #[.pointer (some ⟨fb, 0, none⟩)] w fun e w' => e = .returned (.int .i64 (bs.length : Nat)) ∧ w = w' := by
  obtain ⟨A, cap, rfl, h1, h2, h3⟩ := h.slice
  have c2 := h.blk.cell 2
  simp at c2
  go_enter Try.func15, Try.ntmps15
  go_wp2
  go_ret
  exact ⟨rfl, rfl⟩
theorem all_ (w : World) (p : Option Addr) : Calls Try.prog 12 #[.pointer p] w fun e w' => e = .returned (.func (.func 20) #[] #[.pointer (some ⟨w.heap.size, 0, none⟩)]) ∧ w' = w.alloc (.cells #[.pointer p] 31) := by
  go_enter Try.func12, Try.ntmps12
  go_wp2
  go_ret
  exact ⟨rfl, rfl⟩
theorem put_ (h : Fd w base fb asks most v bs code) (hb : base ≤ w.heap.size) {B : Nat} {A : Option Addr} {m c : Nat} {news : List UInt8} (hr : Reads w B 1 A m (encB news)) (hl : bs.length + m ≤ 140737488355328) :
    Calls Try.prog 11 #[.pointer (some ⟨fb, 0, none⟩), .slice A m c] w fun e w' => e = .returned (.tuple #[]) ∧ ∃ v', Fd w' base fb asks most v' (if code = 0 then bs ++ news else bs) code ∧ Keep (fb :: (rowBlk v).toList) w w' ∧ Moved w v v' := by
  obtain ⟨i0, z0, hi, hz, hz0, hz1, hz2⟩ := u8_info
  have hP := Lib.hid h
  have hblt := h.blk.lt
  have hoff := h.off
  have hne := h.ne
  obtain ⟨A0, cap0, rfl, _⟩ := h.row.reads
  have c2 := h.blk.cell 2
  have c3 := h.blk.cell 3
  simp at c2 c3
  by_cases hcode : code = 0
  · subst hcode
    go_enter Try.func11, Try.ntmps11
    go_wp2_with (at_builtin; apply wpList_append_row _ rfl _ _ _ rfl base 5 i0 z0 1 Try.underlying25 hi hz hz0 hz1 hz2 (.slice A0 (encB bs).length cap0) (encB bs) rfl h.row _ A m c (encB news) rfl hr encB_one (by rw [encB_len]; unfold maxLen; omega) (by rw [encB_len]; omega) hb; intro v1 w1 hrow1 k1 hm1; obtain ⟨A1, cap1, rfl, _⟩ := hrow1.reads; have b1 := h.blk.keep k1 hoff; have d2 := b1.cell 2; have d2f := b1.frozen 2; simp at d2)
    go_end0
    refine ⟨rfl, _, ⟨b1.set_ 2 _, ?_⟩, (k1.more (fun i hi => .inl (by simp at hi ⊢; exact .inr hi))).setCell (p := ⟨fb, 2, none⟩) (.inl (by simp)) _, fun g hg => moved_of hm1 g (by simpa only [List.length_append] using hg)⟩
    have := hrow1.keep ((Keep.refl [fb] w1).setCell (p := ⟨fb, 2, none⟩) (.inl (by simp)) (.slice A1 (encB bs ++ encB news).length cap1)) (fun g hg => by
      have := moved_of hm1 g hg
      simp
      rintro rfl
      rcases this with h | h
      · exact hne _ h rfl
      · omega)
    rw [encB_append]
    simpa only [List.length_append] using this
  · have hc2 : (code == 0) = false := by rw [beq_eq_false_iff_ne]; exact hcode
    go_enter Try.func11, Try.ntmps11
    go_wp2
    go_end0
    try rw [if_neg hcode]
    exact ⟨rfl, _, hP.out, Keep.refl _ _, fun g hg => .inl hg⟩
/-- no feed: nothing happens -/
theorem put_none (w : World) (u : Value) : Calls Try.prog 11 #[.pointer none, u] w fun e w' => e = .returned (.tuple #[]) ∧ w = w' := by
  go_enter Try.func11, Try.ntmps11
  go_wp2
  go_end0
  exact ⟨rfl, rfl⟩
theorem code_none (w : World) : Calls Try.prog 14 #[.pointer none] w fun e w' => e = .returned (.int .i64 0) ∧ w = w' := by
  go_enter Try.func14, Try.ntmps14
  go_wp2
  go_ret
  exact ⟨rfl, rfl⟩
theorem held_none (w : World) : Calls Try.prog 15 #[.pointer none] w fun e w' => e = .returned (.int .i64 0) ∧ w = w' := by
  go_enter Try.func15, Try.ntmps15
  go_wp2
  go_ret
  exact ⟨rfl, rfl⟩
set_option maxHeartbeats 2000000 in
theorem breaks_ (h : Fd w base fb asks most v bs code) (c : Int) : Calls Try.prog 21 #[.pointer (some ⟨fb, 0, none⟩), .int .i64 c] w fun e w' => e = .returned (.tuple #[.agg #[.int .i64 0, .int .i64 0, .int .i64 0, .slice none 0 0], .bool false]) ∧ Fd w' base fb asks most (.slice none 0 0) [] c ∧ Keep [fb] w w' := by
  have hlt := h.blk.lt
  have d2 := h.blk.cell 2
  have d3 := h.blk.cell 3
  have f2 := h.blk.frozen 2
  have f3 := h.blk.frozen 3
  simp at d2 d3
  have ne1 : w.heap.size ≠ fb := by omega
  have ne2 : fb ≠ w.heap.size := by omega
  have H := Lib.hid h
  clear h
  go_enter Try.func21, Try.ntmps21
  go_wp2
  have H1 := H.out.set1 (cs := #[]) (H.out.blk.set_ 3 (.int .i64 c))
  have hb := H1.blk.set_ 2 (.slice none 0 0)
  simp at hb
  have hs : ((w.setCell ⟨fb, 3, none⟩ (.int .i64 c)).setCell ⟨fb, 2, none⟩ (.slice none 0 0)).heap.size = w.heap.size := by simp [World.setCell]
  have BF := Blk.new ((w.setCell ⟨fb, 3, none⟩ (.int .i64 c)).setCell ⟨fb, 2, none⟩ (.slice none 0 0)) 27 #[.int .i64 0, .int .i64 0, .int .i64 0, .slice none 0 0]
  rw [hs] at BF
  refine bodyPost_ret (results_ct rfl _ _ w.heap.size 27 #[.int .i64 0, .int .i64 0, .int .i64 0, .slice none 0 0] (0, 0) _ rfl BF Try.underlying27 rfl (by kernel_rfl)) rfl ?_
  refine ⟨rfl, ⟨hb.alloc _, Row1.nil _ _ _⟩, ?_⟩
  exact (((Keep.refl [fb] w).setCell (p := ⟨fb, 3, none⟩) (.inl (by simp)) _).setCell (p := ⟨fb, 2, none⟩) (.inl (by simp)) _).alloc _
end
end Go.Proofs.Ytigdigljcalgkaa
