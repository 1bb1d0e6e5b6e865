/- What a piece of work has left alone: every block that was there but the listed ones. -/
import Derived.Test.YtenegjflapppdaaRng2
set_option linter.all false
namespace Go.Proofs.Ytenegjflapppdaa
open Go.RowKit
/-- all blocks of w but gs lie in w' as they lay -/
structure Keep (gs : List Nat) (w w' : World) : Prop where
  os : w'.os = w.os
  tape : w'.tape = w.tape
  output : w'.output = w.output
  size : w.heap.size ≤ w'.heap.size
  block : ∀ i, i < w.heap.size → i ∉ gs → w'.heap[i]? = w.heap[i]?
section
variable {gs hs : List Nat} {a b c w w' : World}
theorem Keep.refl (gs : List Nat) (w : World) : Keep gs w w := ⟨rfl, rfl, rfl, Nat.le_refl _, fun _ _ _ => rfl⟩
theorem Keep.trans (h : Keep gs a b) (k : Keep gs b c) : Keep gs a c :=
  ⟨k.os.trans h.os, k.tape.trans h.tape, k.output.trans h.output, Nat.le_trans h.size k.size, fun i hi hn => (k.block i (Nat.lt_of_lt_of_le hi h.size) hn).trans (h.block i hi hn)⟩
theorem Keep.more (h : Keep gs a b) (hh : ∀ i ∈ gs, i ∈ hs ∨ a.heap.size ≤ i) : Keep hs a b :=
  ⟨h.os, h.tape, h.output, h.size, fun i hi hn => h.block i hi (fun e => (hh i e).elim hn (fun h => by omega))⟩
/-- a step that may turn blocks that came since -/
theorem Keep.step (h : Keep gs a b) (k : Keep hs b c) (hh : ∀ i ∈ hs, i ∈ gs ∨ a.heap.size ≤ i) : Keep gs a c :=
  ⟨k.os.trans h.os, k.tape.trans h.tape, k.output.trans h.output, Nat.le_trans h.size k.size, fun i hi hn => (k.block i (Nat.lt_of_lt_of_le hi h.size) (fun e => (hh i e).elim hn (fun h => by omega))).trans (h.block i hi hn)⟩
theorem Keep.of_grown {row : Option Nat} (h : a.grownBy b row) : Keep row.toList a b :=
  ⟨h.os, h.tape, h.output, h.size, fun i hi hn => h.block i hi (fun e => hn (by rw [← e]; simp))⟩
theorem Keep.of_only {g : Nat} (h : a.grownBy b (some g)) : Keep [g] a b := Keep.of_grown h
theorem Keep.of_below (h : Below a.heap.size a b) : Keep [] a b := ⟨h.os, h.tape, h.output, h.size, fun i hi _ => h.block i hi⟩
theorem Keep.below (h : Keep gs a b) {B : Nat} (hB : B ≤ a.heap.size) (hg : ∀ i ∈ gs, B ≤ i) : Below B a b :=
  ⟨h.os, h.tape, h.output, h.size, fun i hi => h.block i (by omega) (fun e => by have := hg i e; omega)⟩
theorem Keep.drew (h : Keep gs a b) : Keep gs a b.drew := ⟨h.os, h.tape, h.output, h.size, h.block⟩
theorem Keep.undrew (h : Keep gs a.drew b) : Keep gs a b := ⟨h.os, h.tape, h.output, h.size, h.block⟩
theorem Keep.drewN (h : Keep gs a b) (n : Nat) : Keep gs a (b.drewN n) := ⟨h.os, h.tape, h.output, h.size, h.block⟩
theorem Keep.alloc (h : Keep gs a b) (o : Obj) : Keep gs a (b.alloc o) :=
  ⟨h.os, h.tape, h.output, Nat.le_trans h.size (by simp), fun i hi hn => (Below.heap_alloc b o i (Nat.lt_of_lt_of_le hi h.size)).trans (h.block i hi hn)⟩
theorem Keep.setCell (h : Keep gs a b) {p : Addr} (hp : p.block ∈ gs ∨ a.heap.size ≤ p.block) (u : Value) : Keep gs a (b.setCell p u) :=
  ⟨h.os, h.tape, h.output, by simpa [World.setCell] using h.size, fun i hi hn => (Below.heap_setCell b p u i (by
    rintro rfl
    rcases hp with hp | hp
    · exact hn hp
    · omega)).trans (h.block i hi hn)⟩
theorem Keep.putObj (h : Keep gs a b) {l : Nat} (hl : l ∈ gs ∨ a.heap.size ≤ l) (o : Obj) : Keep gs a (b.putObj l o) :=
  ⟨h.os, h.tape, h.output, by simpa using h.size, fun i hi hn => (World.putObj_heap_other (by
    rintro rfl
    rcases hl with hl | hl
    · exact hn hl
    · omega)).trans (h.block i hi hn)⟩
theorem Keep.heap {o : Obj} {g : Nat} (h : Keep gs w w') (hg : w.heap[g]? = some o) (hn : g ∉ gs) : w'.heap[g]? = some o := (h.block g (Array.getElem?_eq_some_iff.1 hg).1 hn).trans hg
theorem Keep.cell {p : Addr} (h : Keep gs w w') (hp : p.block < w.heap.size) (hn : p.block ∉ gs) : w'.cell? p = w.cell? p := World.cell?_of_block (h.block p.block hp hn)
theorem Blk.keep {g : Nat} {t : TypeId} {cs : Array Value} (hb : Blk w g t cs) (h : Keep gs w w') (hn : g ∉ gs) : Blk w' g t cs := (h.block g hb.lt hn).trans hb
theorem Reads.keeps {B size n : Nat} {A : Option Addr} {xs : List Value} (hr : Reads w B size A n xs) (h : Keep gs w w') (hB : B ≤ w.heap.size) (hn : ∀ i ∈ gs, B ≤ i) : Reads w' B size A n xs :=
  hr.keep fun p hp => h.cell (by omega) (fun e => by have := hn _ e; omega)
theorem own_keep {base size n : Nat} {e : TypeId} {v : Value} {xs : List Value} (ho : w.ownsRow base e size v n xs) (h : Keep gs w w') (hn : ∀ k, v.ownBlock = some k → k ∉ gs) : w'.ownsRow base e size v n xs := by
  refine ⟨ho.1, ?_⟩
  rcases ho.2 with hx | ⟨g, cap, cur, rfl, hb, hgg, rest⟩
  · exact .inl hx
  · refine .inr ⟨g, cap, cur, rfl, hb, ?_, rest⟩
    rw [h.block g (Array.getElem?_eq_some_iff.1 hgg).1 (hn g rfl)]
    exact hgg
end
end Go.Proofs.Ytenegjflapppdaa
