/- stream: Walk over the steps. -/
import Derived.Test.YtkicffapbcnkbaaWalk1
set_option linter.all false
namespace Go.Proofs.Ytkicffapbcnkbaa
open Go.ChangeShapes Go.WideShapes Go.ChangeAt Go.RowKit
attribute [local go_sem] setCell_drewN alloc_drewN Oper.semAt_some
theorem send_any (b : Nat) (st why k : Int) (e : Bool) (w : World) (hv : OkSt st why) (hb : Blk w b 45 #[.int .i64 st, .int .i64 why]) : Calls Try.prog 11 #[.pointer (some ⟨b, 0, none⟩), .int .i64 k, .bool e] w (SPost w b 45 (sendF st why k e)) := by
  rcases kinds (k := k) with h | h
  · exact send_out b st why k e w h hb
  · exact send_in b st why k e w hv h hb
theorem come_any (b : Nat) (st why k : Int) (e : Bool) (w : World) (hv : OkSt st why) (hb : Blk w b 45 #[.int .i64 st, .int .i64 why]) : Calls Try.prog 13 #[.pointer (some ⟨b, 0, none⟩), .int .i64 k, .bool e] w (CPost w b 45 (comeF st why k e)) := by
  rcases kinds (k := k) with h | h
  · exact come_out b st why k e w h hb
  · exact come_in b st why k e w hv h hb
def walkF : Int → Int → List (Int × Bool) → Nat → Nat × Int × Int
  | st, why, [], i => (i, st, why)
  | st, why, x :: t, i =>
    if 1 ≤ x.1 ∧ x.1 ≤ 5 then (if (sendF st why x.1 x.2).1 = 0 then walkF (sendF st why x.1 x.2).2.1 (sendF st why x.1 x.2).2.2 t (i + 1) else (i + 1, (sendF st why x.1 x.2).2))
    else if 1 ≤ x.1 - 10 ∧ x.1 - 10 ≤ 5 then (if (comeF st why (x.1 - 10) x.2).1 ≤ 1 then walkF (comeF st why (x.1 - 10) x.2).2.2.1 (comeF st why (x.1 - 10) x.2).2.2.2 t (i + 1) else (i + 1, (comeF st why (x.1 - 10) x.2).2.2))
    else walkF st why t (i + 1)
/-- the steps, each with its end -/
def items (ks : List Int) (es : List Bool) : List (Int × Bool) := ks.mapIdx fun i k => (k, es.getD i false)
theorem items_len (ks : List Int) (es : List Bool) : (items ks es).length = ks.length := by simp [items]
theorem items_get {ks : List Int} {es : List Bool} {i : Nat} {k : Int} (h : ks[i]? = some k) : (items ks es)[i]? = some (k, es.getD i false) := by
  simp [items, List.getElem?_mapIdx, h]
theorem Feed.below {s : Nat} {W W' : World} {bk bc bn : Nat} {pc : Option Nat} {A C : Option Addr} {n c n' c' : Nat} {ks : List Int} {es : List Bool} {i S : Nat} (h : Feed s W bk bc bn pc A C n c n' c' ks es i)
    (hb : Below S W W') (h1 : s ≤ S) (h2 : bk < S) (h3 : bc < S) (h4 : bn < S) (h5 : ∀ cb, pc = some cb → cb < S) : Feed s W' bk bc bn pc A C n c n' c' ks es i :=
  ⟨h.kb.below hb h2, h.cp.below hb h3, h.nb.below hb h4, h.kr.below (hb.mono h1), h.nr.below (hb.mono h1), fun cb e => (h.cnt cb e).below hb (h5 cb e), h.lt⟩
/-- between two rounds -/
structure JW (w : World) (s bk bc bn : Nat) (pc : Option Nat) (A C : Option Addr) (n c n' c' : Nat) (ks : List Int) (es : List Bool) (i j : Nat) (st why : Int) (W : World) : Prop where
  fd : Feed s W bk bc bn pc A C n c n' c' ks es i
  db : Blk W w.heap.size 45 #[.int .i64 st, .int .i64 why]
  xb : Blk W (w.heap.size + 1) 25 #[.pointer (some ⟨w.heap.size, 0, none⟩)]
  nb : Blk W (w.heap.size + 1 + 1) 3 #[.int .i64 j]
  df : W.heap[w.heap.size + 1 + 1 + 1]? = some (.deferred (some []))
  only : w.grownBy W pc
structure Lay (w : World) (s bk bc bn : Nat) (pc : Option Nat) : Prop where
  h1 : s ≤ w.heap.size
  h2 : bk < w.heap.size
  h3 : bc < w.heap.size
  h4 : bn < w.heap.size
  h5 : ∀ cb, pc = some cb → cb < w.heap.size
section
variable {w W W' : World} {s bk bc bn : Nat} {pc : Option Nat} {A C : Option Addr} {n c n' c' : Nat} {ks : List Int} {es : List Bool} {i j : Nat} {st why : Int}
theorem JW.tick (h : JW w s bk bc bn pc A C n c n' c' ks es i j st why W) (L : Lay w s bk bc bn pc) : JW w s bk bc bn pc A C n c n' c' ks es (i + 1) j st why (tickW pc i W) := by
  have hg := tickW_only pc i W
  have ne : ∀ g, w.heap.size ≤ g → some g ≠ pc := fun g hg e => by have := L.h5 g e.symm; omega
  refine ⟨h.fd.tick, h.db.grown hg (ne _ (by omega)), h.xb.grown hg (ne _ (by omega)), h.nb.grown hg (ne _ (by omega)), (hg.block _ (Array.getElem?_eq_some_iff.1 h.df).1 (ne _ (by omega))).trans h.df, ?_⟩
  exact ⟨hg.os.trans h.only.os, hg.tape.trans h.only.tape, hg.output.trans h.only.output, Nat.le_trans h.only.size hg.size, fun k hk hne => (hg.block k (Nat.lt_of_lt_of_le hk h.only.size) hne).trans (h.only.block k hk hne)⟩
theorem tick_rec (L : Lay w s bk bc bn pc) {g : Nat} {o : Obj} (h : W.heap[g]? = some o) (hg : w.heap.size ≤ g) : (tickW pc i W).heap[g]? = some o :=
  ((tickW_only pc i W).block g (Array.getElem?_eq_some_iff.1 h).1 (fun e => by have := L.h5 g e.symm; omega)).trans h
/-- a step in a block of Walk's own -/
theorem JW.moved {st' why' : Int} {j' g : Nat} (h : JW w s bk bc bn pc A C n c n' c' ks es i j st why W) (L : Lay w s bk bc bn pc) (hg : W.grownBy W' (some g)) (h0 : w.heap.size ≤ g)
    (hx : g ≠ w.heap.size + 1) (hd : g ≠ w.heap.size + 1 + 1 + 1) (db : Blk W' w.heap.size 45 #[.int .i64 st', .int .i64 why']) (nb : Blk W' (w.heap.size + 1 + 1) 3 #[.int .i64 j']) :
    JW w s bk bc bn pc A C n c n' c' ks es i j' st' why' W' := by
  have hb : Below w.heap.size W W' := (Below.refl _ W).grown hg h.only.size (fun k e => by injection e with e; omega)
  refine ⟨h.fd.below hb L.h1 L.h2 L.h3 L.h4 L.h5, db, h.xb.grown hg (by simp; omega), nb, (hg.block _ (Array.getElem?_eq_some_iff.1 h.df).1 (by simp; omega)).trans h.df, ?_⟩
  exact ⟨hg.os.trans h.only.os, hg.tape.trans h.only.tape, hg.output.trans h.only.output, Nat.le_trans h.only.size hg.size, fun k hk hne => (hb.block k hk).trans (h.only.block k hk hne)⟩
theorem JW.put {o : Obj} (h : JW w s bk bc bn pc A C n c n' c' ks es i j st why W) (L : Lay w s bk bc bn pc) : JW w s bk bc bn pc A C n c n' c' ks es i j st why (W.putObj (w.heap.size + 1 + 1 + 1 + 1) o) := by
  have hg : W.grownBy (W.putObj (w.heap.size + 1 + 1 + 1 + 1) o) (some (w.heap.size + 1 + 1 + 1 + 1)) := only_putObj (World.grownBy.refl W _) (.inl rfl)
  exact h.moved L hg (by omega) (by omega) (by omega) (h.db.grown hg (by simp; omega)) (h.nb.grown hg (by simp))
theorem JW.count (h : JW w s bk bc bn pc A C n c n' c' ks es i j st why W) (L : Lay w s bk bc bn pc) (j' : Int) (k : Nat) (e : j' = (k : Int)) : JW w s bk bc bn pc A C n c n' c' ks es i k st why (W.setCell ⟨w.heap.size + 1 + 1, 0, none⟩ (.int .i64 j')) := by
  subst e
  have hg : W.grownBy (W.setCell ⟨w.heap.size + 1 + 1, 0, none⟩ (.int .i64 (k : Int))) (some (w.heap.size + 1 + 1)) := only_setCell (p := ⟨w.heap.size + 1 + 1, 0, none⟩) (World.grownBy.refl W _) (.inl rfl) _
  exact h.moved L hg (by omega) (by omega) (by omega) (h.db.grown hg (by simp; omega)) (h.nb.set_ 0 _)
theorem JW.step {st' why' : Int} (h : JW w s bk bc bn pc A C n c n' c' ks es i j st why W) (L : Lay w s bk bc bn pc) (db : Blk W' w.heap.size 45 #[.int .i64 st', .int .i64 why']) (hg : W.grownBy W' (some w.heap.size)) :
    JW w s bk bc bn pc A C n c n' c' ks es i j st' why' W' :=
  h.moved L hg (Nat.le_refl _) (by omega) (by omega) db (h.nb.grown hg (by simp; omega))
theorem JW.rec_step {g : Nat} {o : Obj} (h : W.heap[g]? = some o) (hg : W.grownBy W' (some w.heap.size)) (h0 : w.heap.size < g) : W'.heap[g]? = some o :=
  (hg.block g (Array.getElem?_eq_some_iff.1 h).1 (by simp; omega)).trans h
end
end Go.Proofs.Ytkicffapbcnkbaa
