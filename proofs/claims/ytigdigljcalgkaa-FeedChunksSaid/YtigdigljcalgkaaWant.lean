/- feed: what stands while frames are gone over: the wanted ones, the cells of the law. -/
import Derived.Test.YtigdigljcalgkaaFr
set_option linter.all false
namespace Go.Proofs.Ytigdigljcalgkaa
open Go.ChangeShapes Go.WideShapes Go.ChangeAt Go.RowKit Go.Proofs.YtigdigljcalgkaaW.PrintWords
attribute [local go_sem] setCell_drewN alloc_drewN Oper.semAt_some
def Gf.goodB (x : Gf) : Bool := !(decide (x.t < 0) || decide (255 < x.t) || decide (x.f < 0) || decide (255 < x.f) || decide (x.s < 0) || decide (2147483647 < x.s)) && decide (x.pl.length ≤ 16384)
theorem Gf.goodB_iff (x : Gf) : x.goodB = true ↔ x.good := by
  unfold Gf.goodB Gf.good badP
  simp only [Bool.and_eq_true, Bool.not_eq_true', Bool.or_eq_false_iff, decide_eq_false_iff_not, decide_eq_true_eq]
  omega
def wantG (xs : List Gf) (i : Nat) : List Gf := (xs.take i).filter Gf.goodB
theorem wantG_snoc {xs : List Gf} {i : Nat} {x : Gf} (h : xs[i]? = some x) : wantG xs (i + 1) = if x.goodB then wantG xs i ++ [x] else wantG xs i := by
  unfold wantG
  rw [List.take_succ, h]
  simp only [Option.toList_some, List.filter_append]
  cases hx : x.goodB <;> simp [hx]
theorem wantG_len (xs : List Gf) (i : Nat) : (wantG xs i).length ≤ i := by
  unfold wantG
  exact Nat.le_trans (List.length_filter_le _ _) (by rw [List.length_take]; omega)
theorem wantG_mem {xs : List Gf} {i : Nat} {x : Gf} (h : x ∈ wantG xs i) : x ∈ xs ∧ x.good := by
  unfold wantG at h
  obtain ⟨h1, h2⟩ := List.mem_filter.1 h
  exact ⟨List.mem_of_mem_take h1, x.goodB_iff.1 h2⟩
theorem fr_info : ∃ i z, Try.prog.info? 27 = some i ∧ i.zero = some z ∧ i.size = 4 ∧ i.bytes = 48 ∧ z.cells.size = 4 := by
  obtain ⟨i, hi⟩ : ∃ i, Try.prog.info? 27 = some i := Option.isSome_iff_exists.1 (by kernel_rfl)
  have h : (Try.prog.info? 27).map (fun i => (i.size, i.bytes, i.zero.map (·.cells.size))) = some (4, 48, some 4) := by kernel_rfl
  rw [hi] at h
  simp only [Option.map_some, Option.some.injEq, Prod.mk.injEq] at h
  obtain ⟨h1, h2, h3⟩ := h
  cases hz : i.zero with
  | none => rw [hz] at h3; simp at h3
  | some z =>
    rw [hz] at h3
    exact ⟨i, z, hi, hz, h1, h2, by simpa using h3⟩
/-- what may turn while it is gone over -/
def Turns (w : World) (B : Nat) (W : World) (gs : List Nat) : Prop := ∀ g ∈ gs, w.heap.size ≤ g ∧ (B ≤ g ∨ ∃ t cs, Blk W g t cs ∧ (t = 5 ∨ t = 50 ∨ t = 3))
theorem Turns.blk {w W W' : World} {B g : Nat} {gs : List Nat} {t : TypeId} {cs : Array Value} (h : Turns w B W gs) (hb : Blk W g t cs) (hg : g < B) (h1 : t ≠ 5) (h2 : t ≠ 50) (h3 : t ≠ 3) (k : Keep gs W W') : Blk W' g t cs :=
  hb.keep k (fun hm => by
    rcases (h g hm).2 with h | ⟨t', cs', hb', ht⟩
    · omega
    · rcases ht with rfl | rfl | rfl
      · exact hb.ne_ hb' h1 rfl
      · exact hb.ne_ hb' h2 rfl
      · exact hb.ne_ hb' h3 rfl)
/-- the cells of the law: its result, the feed's, the wanted frames' with their row, the iterator's -/
structure GI (w : World) (B rb fc wb cb og fb N cw : Nat) (cs : Array Value) (W : World) : Prop where
  kw : Keep [] w W
  br : Blk W rb 4 #[.bool false]
  bf : Blk W fc 31 #[.pointer (some ⟨fb, 0, none⟩)]
  bw : Blk W wb 22 #[.slice (some ⟨og, 0, none⟩) N cw]
  bo : Blk W og 27 cs
  bc : Blk W cb 31 #[.pointer (some ⟨fb, 0, none⟩)]
  lt : rb < B ∧ fc < B ∧ wb < B ∧ og < B ∧ cb < B
theorem GI.step {w W W' : World} {B rb fc wb cb og fb N cw : Nat} {cs : Array Value} {gs : List Nat} (h : GI w B rb fc wb cb og fb N cw cs W) (ht : Turns w B W gs) (k : Keep gs W W') : GI w B rb fc wb cb og fb N cw cs W' :=
  ⟨h.kw.step k (fun g hg => .inr (ht g hg).1), ht.blk h.br h.lt.1 (by decide) (by decide) (by decide) k, ht.blk h.bf h.lt.2.1 (by decide) (by decide) (by decide) k, ht.blk h.bw h.lt.2.2.1 (by decide) (by decide) (by decide) k, ht.blk h.bo h.lt.2.2.2.1 (by decide) (by decide) (by decide) k, ht.blk h.bc h.lt.2.2.2.2 (by decide) (by decide) (by decide) k, h.lt⟩
theorem Turns.frs {w W : World} {B : Nat} {gs : List Nat} (h : Frs B W gs) (hw : w.heap.size ≤ B) : Turns w B W gs := fun g hg => ⟨by have := (h g hg).1; omega, .inl (h g hg).1⟩
theorem Turns.put {w W : World} {B base fb : Nat} {asks : Bool} {most code : Int} {bs : List UInt8} {gs : List Nat} (h : PutB W base fb gs) (hX : FdX W base fb asks most bs code) (hb : w.heap.size ≤ base) (hf : w.heap.size ≤ fb) : Turns w B W gs := fun g hg => by
  rcases h g hg with rfl | ⟨h1, cs, h2⟩
  · obtain ⟨v, hX⟩ := hX
    exact ⟨hf, .inr ⟨_, _, hX.blk, .inr (.inl rfl)⟩⟩
  · exact ⟨by omega, .inr ⟨_, _, h2, .inl rfl⟩⟩
theorem Turns.fb {w W : World} {B base fb : Nat} {asks : Bool} {most code : Int} {bs : List UInt8} (hX : FdX W base fb asks most bs code) (hf : w.heap.size ≤ fb) : Turns w B W [fb] := fun g hg => by
  obtain rfl : g = fb := by simpa using hg
  obtain ⟨v, hX⟩ := hX
  exact ⟨hf, .inr ⟨_, _, hX.blk, .inr (.inl rfl)⟩⟩
theorem Turns.int {w W : World} {B g : Nat} {cs : Array Value} (hb : Blk W g 3 cs) (hf : w.heap.size ≤ g) : Turns w B W [g] := fun g' hg => by
  obtain rfl : g' = g := by simpa using hg
  exact ⟨hf, .inr ⟨_, _, hb, .inr (.inr rfl)⟩⟩
theorem Turns.up {w W : World} {B g : Nat} (hb : B ≤ g) (hf : w.heap.size ≤ B) : Turns w B W [g] := fun g' hg => by
  obtain rfl : g' = g := by simpa using hg
  exact ⟨by omega, .inl hb⟩
/-- the loop's record and what is owed -/
structure Rc (B : Nat) (W : World) (l : Loop) : Prop where
  rc : W.heap[B + 1]? = some (.loop l)
  df : W.heap[B]? = some (.deferred (some []))
theorem Rc.keep {B : Nat} {W W' : World} {l : Loop} {gs : List Nat} (h : Rc B W l) (k : Keep gs W W') (hg : ∀ g ∈ gs, g < B ∨ ∃ t cs, Blk W g t cs) : Rc B W' l :=
  ⟨k.heap h.rc (fun hm => by rcases hg _ hm with h1 | ⟨t, cs, hb⟩
                             · omega
                             · exact loop_ne hb h.rc rfl),
   k.heap h.df (fun hm => by rcases hg _ hm with h1 | ⟨t, cs, hb⟩
                             · omega
                             · exact def_ne hb h.df rfl)⟩
theorem Rc.put {B : Nat} {W : World} {l l' : Loop} (h : Rc B W l) : Rc B (W.putObj (B + 1) (.loop l')) l' :=
  ⟨put_heap (Array.getElem?_eq_some_iff.1 h.rc).1, (World.putObj_heap_other (by omega)).trans h.df⟩
theorem frs_blk {B : Nat} {W : World} {gs : List Nat} (h : Frs B W gs) : ∀ g ∈ gs, g < B ∨ ∃ t cs, Blk W g t cs := fun g hg => by
  obtain ⟨_, cs, hb⟩ := h g hg
  exact .inr ⟨_, _, hb⟩
theorem put_blk {W : World} {B base fb : Nat} {asks : Bool} {most code : Int} {bs : List UInt8} {gs : List Nat} (h : PutB W base fb gs) (hX : FdX W base fb asks most bs code) : ∀ g ∈ gs, g < B ∨ ∃ t cs, Blk W g t cs := fun g hg => by
  rcases h g hg with rfl | ⟨h1, cs, h2⟩
  · obtain ⟨v, hX⟩ := hX
    exact .inr ⟨_, _, hX.blk⟩
  · exact .inr ⟨_, _, h2⟩
theorem fb_blk {W : World} {B base fb : Nat} {asks : Bool} {most code : Int} {bs : List UInt8} (hX : FdX W base fb asks most bs code) : ∀ g ∈ [fb], g < B ∨ ∃ t cs, Blk W g t cs := fun g hg => by
  obtain rfl : g = fb := by simpa using hg
  obtain ⟨v, hX⟩ := hX
  exact .inr ⟨_, _, hX.blk⟩
/-- the frames' row, cell by cell -/
def RowIs (cs : Array Value) (ys : List Gf) : Prop := ∀ k x, ys[k]? = some x → ∀ j, j < 4 → cs[k * 4 + j]? = x.cells[j]?
theorem rowIs_of {W : World} {base N : Nat} {v : Value} {ys : List Gf} (ho : W.ownsRow base 27 4 v N (encG ys)) (hN : 0 < N) : ∃ og cw cs, v = .slice (some ⟨og, 0, none⟩) N cw ∧ base ≤ og ∧ N ≤ cw ∧ Blk W og 27 cs ∧ RowIs cs ys := by
  rcases ho.2 with ⟨_, h0⟩ | ⟨g, cap, cur, rfl, hb, hg, hnc, hcm, hcs, ht⟩
  · omega
  · refine ⟨g, cap, cur, rfl, hb, hnc, hg, fun k x hk j hj => ?_⟩
    have h1 := encG_at ys k x hk j hj
    rw [← ht, List.getElem?_take] at h1
    have hl := ho.1
    rw [encG_len] at hl
    have hkl : k < ys.length := (List.getElem?_eq_some_iff.1 hk).1
    rw [if_pos (by omega)] at h1
    rw [← h1]
    simp
/-- the number in a cell -/
def cntOf (kb : Nat) (W : World) : Nat := match W.cell? ⟨kb, 0, none⟩ with
  | some (.int _ n) => n.toNat
  | _ => 0
def wireAt (ys : List Gf) (j : Nat) : List UInt8 := match ys[j]? with
  | some y => y.wire
  | none => []
/-- two frames that are the same -/
theorem eq_fr {w : World} (y : Gf) (h : y.ok w) {W : World} (k : Keep [] w W) {A : Option Addr} {c B : Nat} (hc : y.pl.length ≤ c) (hr : Reads W B 1 A y.pl.length (encB y.pl)) :
    Calls Try.prog 13 #[.agg #[.int .i64 y.t, .int .i64 y.f, .int .i64 y.s, .slice A y.pl.length c], .agg #[.int .i64 y.t, .int .i64 y.f, .int .i64 y.s, .slice y.A y.pl.length y.c]] W fun e w' => e = .returned (.bool true) ∧ Keep [] W w' := by
  obtain ⟨h1, h2, h3⟩ := h
  have hr2 := h3.keeps k (Nat.le_refl _) (by simp)
  have hh := PFd.isthmusref7_EqFrame.calls y.t y.f y.s A c (ints y.pl) y.t y.f y.s y.A y.c (ints y.pl) true W (C_of hr (by omega)) (by rw [ints_len]; exact hc) (C_of hr2 (by omega)) (by rw [ints_len]; exact h1) (eqFrame_self _ _ _ _)
  rw [ints_len] at hh
  exact hh.mono fun e w' ⟨he, hb⟩ => ⟨he, Keep.of_below hb⟩
end Go.Proofs.Ytigdigljcalgkaa
