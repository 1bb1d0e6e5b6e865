/- Rows of bytes: append, clone, what lies apart; a range over a function's record. -/
import Derived.Test.YtenegjflapppdaaRow1
import Derived.Test.YtenegjflapppdaaRng3
import Derived.Laws.Cover3
import Derived.Lib.SlBytesConst
set_option linter.all false
namespace Go.Proofs.Ytenegjflapppdaa
open Go.ChangeShapes Go.WideShapes Go.ChangeAt Go.RowKit
attribute [local go_sem] setCell_drewN alloc_drewN
section
variable {P : Program} (w : World)
theorem wp_append_row {o : Oper} {a : Act} {K : Act → World → Prop} {Q : Exit → Act → World → Prop} (s x : Operand) (t : TypeId)
    (ho : o.op = .call { callee := .builtin .append, args := #[s, x], argTypes := #[t, t] })
    (base : Nat) (e : TypeId) (i : TypeInfo) (z : Value) (bytes : Nat) (ht : P.underlying t = some (.slice e)) (hi : P.info? e = some i) (hz : i.zero = some z)
    (hsize : i.size = 1) (hby : i.bytes = bytes) (hzs : z.cells.size = 1)
    (v : Value) (xs : List Value) (hs : a.eval s = v) (hown : Row1 w base e v xs)
    (B : Nat) (A : Option Addr) (m c : Nat) (news : List Value) (hx : a.eval x = .slice A m c) (hr : Reads w B 1 A m news) (h1 : ∀ u ∈ news, u.oneCell' = true)
    (h63 : xs.length + m ≤ maxLen) (hbytes : (xs.length + m) * bytes ≤ 140737488355328) (hbase : base ≤ w.heap.size)
    (h : ∀ v' w', Row1 w' base e v' (xs ++ news) → Keep (rowBlk v).toList w w' → (rowBlk v' = rowBlk v ∨ ∃ g, rowBlk v' = some g ∧ w.heap.size ≤ g) → K (a.put o.dst v') w') : o.wp P a w K Q := by
  obtain ⟨v', w', hrun, h2, h3, h4⟩ := row_append (P := P) hown t o.type i z bytes ht hi hz hsize hby hzs hr (c := c) h1 h63 hbytes hbase
  unfold Oper.wp execOp
  simp only [ho, resolve, invoke, builtin, Sem.run_bind, Sem.run_pure, Result.andThen_ok, List.map_toArray, List.map_cons, List.map_nil, hs, hx, hrun]
  exact h v' w' h2 h3 h4
theorem wpList_append_row {ops : Array Oper} {rest : List Oper} {o : Oper} {a : Act} {Q : Exit → Act → World → Prop} (hgd : o.guard = none) (s x : Operand) (t : TypeId)
    (ho : o.op = .call { callee := .builtin .append, args := #[s, x], argTypes := #[t, t] })
    (base : Nat) (e : TypeId) (i : TypeInfo) (z : Value) (bytes : Nat) (ht : P.underlying t = some (.slice e)) (hi : P.info? e = some i) (hz : i.zero = some z)
    (hsize : i.size = 1) (hby : i.bytes = bytes) (hzs : z.cells.size = 1)
    (v : Value) (xs : List Value) (hs : a.eval s = v) (hown : Row1 w base e v xs)
    (B : Nat) (A : Option Addr) (m c : Nat) (news : List Value) (hx : a.eval x = .slice A m c) (hr : Reads w B 1 A m news) (h1 : ∀ u ∈ news, u.oneCell' = true)
    (h63 : xs.length + m ≤ maxLen) (hbytes : (xs.length + m) * bytes ≤ 140737488355328) (hbase : base ≤ w.heap.size)
    (h : ∀ v' w', Row1 w' base e v' (xs ++ news) → Keep (rowBlk v).toList w w' → (rowBlk v' = rowBlk v ∨ ∃ g, rowBlk v' = some g ∧ w.heap.size ≤ g) → wpList P ops Q rest (a.put o.dst v') w') : wpList P ops Q (o :: rest) a w :=
  wpList_plain hgd fun _ hK => wp_append_row w s x t ho base e i z bytes ht hi hz hsize hby hzs v xs hs hown B A m c news hx hr h1 h63 hbytes hbase fun v' w' h2 h3 h4 => hK _ _ (h v' w' h2 h3 h4)
end
theorem u8_info : ∃ i z, Try.prog.info? 5 = some i ∧ i.zero = some z ∧ i.size = 1 ∧ i.bytes = 1 ∧ z.cells.size = 1 := by
  obtain ⟨i, hi⟩ : ∃ i, Try.prog.info? 5 = some i := Option.isSome_iff_exists.1 (by kernel_rfl)
  have h : (Try.prog.info? 5).map (fun i => (i.size, i.bytes, i.zero.map (·.cells.size))) = some (1, 1, some 1) := by kernel_rfl
  rw [hi] at h
  simp only [Option.map_some, Option.some.injEq, Prod.mk.injEq] at h
  obtain ⟨h1, h2, h3⟩ := h
  cases hz : i.zero with
  | none => rw [hz] at h3; simp at h3
  | some z =>
    rw [hz] at h3
    exact ⟨i, z, hi, hz, h1, h2, by simpa using h3⟩
def Moved (w : World) (v v' : Value) : Prop := ∀ g, rowBlk v' = some g → rowBlk v = some g ∨ w.heap.size ≤ g
theorem moved_of {w : World} {v v' : Value} (h : rowBlk v' = rowBlk v ∨ ∃ g, rowBlk v' = some g ∧ w.heap.size ≤ g) : Moved w v v' := fun g hg => by
  rcases h with h | ⟨g', h, h2⟩
  · exact .inl (by rw [← h]; exact hg)
  · rw [h] at hg; injection hg with hg; subst hg; exact .inr h2
def Sep (v u : Value) : Prop := ∀ g, rowBlk v = some g → rowBlk u ≠ some g
def Same (v v' : Value) : Prop := ∀ g, rowBlk v' = some g → rowBlk v = some g
theorem Same.moved {w : World} {v v' : Value} (h : Same v v') : Moved w v v' := fun g hg => .inl (h g hg)
theorem Row1.empty (w : World) (e : TypeId) : Row1 (w.alloc (.cells #[] e)) w.heap.size e (.slice (some ⟨w.heap.size, 0, none⟩) 0 0) [] :=
  ⟨_, 0, rfl, by simp, by simp [maxLen], .inr ⟨w.heap.size, 0, #[], rfl, Nat.le_refl _, Blk.new w e #[], by simp, fun j u h => by simp at h⟩⟩
section
variable (w : World) {A : Option Addr} {n c B : Nat} {bs : List UInt8}
theorem eql_slice_nil (a : Option Addr) (l c : Nat) : (binOp .eql 27 (.slice a l c) (.slice none 0 0)).run Try.prog w = .ok (.bool a.isNone) w := by
  simp only [binOp]
  simp [run_equal_slice_nil w 27 5 a l c Try.underlying27]
theorem clone (hr : Reads w B 1 A n (encB bs)) (hB : B ≤ w.heap.size) (hl : n ≤ 140737488355328) :
    Calls Try.prog 21 #[.slice A n c] w fun e w' => ∃ v', e = .returned v' ∧ Row1 w' w.heap.size 5 v' (encB bs) ∧ Keep [] w w' := by
  obtain ⟨i0, z0, hi, hz, hz0, hz1, hz2⟩ := u8_info
  have hlen := hr.1
  rw [encB_len] at hlen
  have Hr := Lib.hid hr
  have Hlen := Lib.hid hlen
  have hnil := fun (w : World) (a : Option Addr) (l c : Nat) => eql_slice_nil w a l c
  clear hlen
  cases A with
  | none =>
    have hn : n = 0 := by
      rcases Nat.eq_zero_or_pos n with h0 | h0
      · exact h0
      · obtain ⟨ad, h, _⟩ := hr.2 h0; cases h
    subst hn
    have hbs : bs = [] := List.eq_nil_of_length_eq_zero (by have := Hlen.out; omega)
    subst hbs
    clear hr
    go_enter Try.func21, Try.ntmps21
    go_wp2
    go_ret
    exact ⟨_, rfl, Row1.nil _ _ _, Keep.refl _ _⟩
  | some ad =>
    clear hr
    go_enter Try.func21, Try.ntmps21
    go_wp2_with (at_builtin; apply wpList_append_row _ rfl _ _ _ rfl w.heap.size 5 i0 z0 1 Try.underlying27 hi hz hz0 hz1 hz2 (.slice (some ⟨w.heap.size, 0, none⟩) 0 0) [] rfl (Row1.empty w _) _ (some ad) n c (encB bs) rfl (Hr.out.alloc hB _) encB_one (by unfold maxLen; simp; omega) (by simp; omega) (by simp); intro v1 w1 hrow1 k1 hm1; obtain ⟨A1, cap1, rfl, _⟩ := hrow1.reads)
    go_ret
    exact ⟨_, rfl, by simpa using hrow1, ((Keep.refl [] w).alloc _).step k1 (by simp [rowBlk])⟩
end
section
variable {w w' : World} {base : Nat}
theorem Row1.down {e : TypeId} {r : Value} {xs : List Value} {B : Nat} (h : Row1 w B e r xs) (hb : base ≤ B) : Row1 w base e r xs := by
  obtain ⟨A, cap, hv, h1, h2, h⟩ := h
  refine ⟨A, cap, hv, h1, h2, ?_⟩
  rcases h with h | ⟨g, off, cs, a, b, c⟩
  · exact .inl h
  · exact .inr ⟨g, off, cs, a, by omega, c⟩
theorem reads_pre {B n : Nat} {A : Option Addr} {xs : List UInt8} (h : Reads w B 1 A n (encB xs)) (k : Nat) (hk : k ≤ n) : Reads w B 1 A k (encB (xs.take k)) := by
  have hl := h.1
  rw [encB_len] at hl
  refine ⟨by rw [encB_len, List.length_take]; omega, fun h0 => ?_⟩
  obtain ⟨ad, e, hb, hc⟩ := h.2 (by omega)
  refine ⟨ad, e, hb, fun j u hu => hc j u ?_⟩
  have hj := (List.getElem?_eq_some_iff.1 hu).1
  rw [encB_len, List.length_take] at hj
  rw [← hu, encB_take, List.getElem?_take, if_pos (by omega)]
end
theorem Reads.kept {w w' : World} {B size n : Nat} {A : Option Addr} {xs : List Value} {gs : List Nat} (hr : Reads w B size A n xs) (h : Keep gs w w') (hB : B ≤ w.heap.size) (hn : 0 < n → ∀ ad, A = some ad → ad.block ∉ gs) : Reads w' B size A n xs :=
  ⟨hr.1, fun h0 => by
    obtain ⟨ad, e, hb, hc⟩ := hr.2 h0
    exact ⟨ad, e, hb, fun j u hu => (h.cell (by rw [block_of_add]; omega) (by rw [block_of_add]; exact hn h0 ad e)).trans (hc j u hu)⟩⟩
theorem Reads.blk_lt {w : World} {B size n : Nat} {A : Option Addr} {xs : List Value} (hr : Reads w B size A n xs) (h0 : 0 < n) : ∀ ad, A = some ad → ad.block < B := fun ad e => by
  obtain ⟨ad', e', hb, _⟩ := hr.2 h0
  rw [e] at e'
  injection e' with e'
  subst e'
  exact hb
theorem YieldAt.deep {m m' l : Nat} {P : Program} {args : Array Value} {W : World} {R : Ending → World → Prop} (h : YieldAt Fence.wide m P l args W R) : YieldAt Fence.wide m' P l args W R := by
  obtain ⟨f, t, a, b, hy, hR⟩ := h
  exact ⟨f, t, a, b, hy, hR.1, fun c cs _ => hR.2 c cs (room_wide _)⟩
theorem row_off_loop {w : World} {base l : Nat} {t : TypeId} {v : Value} {xs : List Value} {r : Loop} (h : Row1 w base t v xs) (hL : w.heap[l]? = some (.loop r)) : rowBlk v ≠ some l := fun e => by
  obtain ⟨A', cap, rfl, _, _, h2⟩ := h
  rcases h2 with ⟨rfl, _⟩ | ⟨g', off, cs, rfl, _, hb', _⟩
  · cases e
  · injection e with e
    subst e
    exact loop_ne hb' hL rfl
theorem RoundIn.wide {m m' l l2 f : Nat} {P : Program} {t : Array Value} {a b : Code} {w : World} {R : Ending → World → Prop} (h : RoundIn Fence.wide m P l f t a b w R) : RoundIn (Fence.wide.inRound l2) m' P l f t a b w R :=
  ⟨h.1, fun c cs _ => h.2 c cs (room_wide _)⟩
/-- a range over a function: its record, what is owed, the blocks that may turn -/
structure Rest (S W : World) (gs : List Nat) (rec_ : Obj) : Prop where
  rc : W.heap[S.heap.size + 1]? = some rec_
  df : W.heap[S.heap.size]? = some (.deferred (some []))
  kp : Keep gs S W
theorem Rest.go {S W W' : World} {gs hs : List Nat} {l : Loop} (h : Rest S W gs (.loop l)) (k : Keep hs W W') (h1 : ∀ i ∈ hs, i ∈ gs ∨ S.heap.size ≤ i) (h2 : S.heap.size + 1 ∉ hs) (h3 : S.heap.size ∉ hs) : Rest S W' gs (.loop l) :=
  ⟨k.heap h.rc h2, k.heap h.df h3, h.kp.step k h1⟩
theorem Rest.put {S W : World} {gs : List Nat} {o o' : Obj} (h : Rest S W gs o) : Rest S (W.putObj (S.heap.size + 1) o') gs o' :=
  ⟨put_heap (Array.getElem?_eq_some_iff.1 h.rc).1, (World.putObj_heap_other (by omega)).trans h.df, h.kp.putObj (.inr (by omega)) _⟩
theorem row_off_blk {w : World} {base g : Nat} {t u : TypeId} {v : Value} {xs : List Value} {cs : Array Value} (h : Row1 w base t v xs) (hL : Blk w g u cs) (hne : t ≠ u) : rowBlk v ≠ some g := fun e => by
  obtain ⟨A', cap, rfl, _, _, h2⟩ := h
  rcases h2 with ⟨rfl, _⟩ | ⟨g', off, cs, rfl, _, hb', _⟩
  · cases e
  · injection e with e
    exact hb'.ne_ hL hne e
theorem reads_w (w : World) (C : Array Value) (t : TypeId) (fr : Nat × Nat) {n : Nat} {xs : List Value} (hn : C.size = n) (hx : C.toList = xs) : Reads (w.alloc (.cells C t fr)) (w.heap.size + 1) 1 (some ⟨w.heap.size, 0, none⟩) n xs := by
  subst hx
  exact reads_new w C t fr 1 n (by omega)
theorem row_off_row {w : World} {base base' : Nat} {t u : TypeId} {v v' : Value} {xs ys : List Value} (h : Row1 w base t v xs) (h' : Row1 w base' u v' ys) (hne : t ≠ u) : ∀ g, rowBlk v = some g → rowBlk v' ≠ some g := fun g e e' => by
  obtain ⟨A', cap, rfl, _, _, h2⟩ := h
  rcases h2 with ⟨rfl, _⟩ | ⟨g', off, cs, rfl, _, hb', _⟩
  · cases e
  · injection e with e
    subst e
    exact row_off_blk h' hb' (Ne.symm hne) e'
theorem Sep.symm {v u : Value} (h : Sep v u) : Sep u v := fun g e e' => h g e' e
theorem Sep.moved {w : World} {v v' u : Value} (h : Sep v u) (hu : ∀ g, rowBlk u = some g → g < w.heap.size) (hm : Moved w v v') : Sep v' u := fun g e e' => by
  rcases hm g e with h1 | h1
  · exact h g h1 e'
  · have := hu g e'; omega
theorem Sep.keeps {w w' : World} {base : Nat} {e : TypeId} {v u : Value} {xs : List Value} (h : Sep u v) (hr : Row1 w base e u xs) (k : Keep (rowBlk v).toList w w') : Row1 w' base e u xs :=
  hr.keep k (fun g hg hx => h g hg (by simpa using hx))
end Go.Proofs.Ytenegjflapppdaa
