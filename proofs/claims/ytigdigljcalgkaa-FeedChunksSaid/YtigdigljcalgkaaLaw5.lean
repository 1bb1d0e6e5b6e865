/- feed: FeedChunks: what is written; the frames that are wanted. -/
import Derived.Test.YtigdigljcalgkaaWant
import Derived.Deep.DeepCutAuto
import Derived.Deep.CutBlock
import Derived.Lib.AppendStr
set_option linter.all false
namespace Go.Proofs.Ytigdigljcalgkaa
open Go.ChangeShapes Go.WideShapes Go.ChangeAt Go.RowKit Go.Proofs.YtigdigljcalgkaaW.PrintWords
attribute [local go_sem] setCell_drewN alloc_drewN Oper.semAt_some
def encW (ys : List Gf) : List UInt8 := ys.flatMap Gf.wire
theorem encW_snoc (ys : List Gf) (y : Gf) : encW (ys ++ [y]) = encW ys ++ y.wire := by simp [encW]
theorem encW_len : ∀ ys : List Gf, (∀ y ∈ ys, y.good) → (encW ys).length ≤ ys.length * 16393
  | [], _ => by simp [encW]
  | y :: ys, h => by
    have h1 := encW_len ys (fun z hz => h z (List.mem_cons_of_mem _ hz))
    have h2 := (h y (by simp)).2
    simp only [encW, List.flatMap_cons, List.length_append, List.length_cons] at h1 ⊢
    rw [y.wire_len]
    omega
theorem pf_len' : pfB.length = 24 := rfl
def preB (p : Bool) : List UInt8 := if p then pfB else []
/-- what the first loop has made: the bytes in v8, the wanted frames in the cell -/
structure Mk1 (w : World) (rb wb : Nat) (p : Bool) (ys : List Gf) (v8 : Value) (W : World) : Prop where
  kw : Keep [] w W
  br : Blk W rb 4 #[.bool false]
  row : Row1 W w.heap.size 5 v8 (encB (preB p ++ encW ys))
  lt : w.heap.size ≤ rb ∧ rb < wb
  wt : ∃ A cw, Blk W wb 22 #[.slice A ys.length cw] ∧ W.ownsRow w.heap.size 27 4 (.slice A ys.length cw) ys.length (encG ys)
theorem own_blk {W : World} {base n : Nat} {e : TypeId} {size : Nat} {v : Value} {xs : List Value} (h : W.ownsRow base e size v n xs) : ∀ k, v.ownBlock = some k → base ≤ k ∧ ∃ cs, Blk W k e cs := fun k hk => by
  rcases h.2 with ⟨h, _⟩ | ⟨g, cap, cur, h, hb, hg, _⟩
  · rw [h] at hk; simp [Value.ownBlock] at hk
  · rw [h] at hk
    simp [Value.ownBlock] at hk
    subst hk
    exact ⟨hb, cur, hg⟩
theorem Mk1.keep {w W W' : World} {rb wb : Nat} {p : Bool} {ys : List Gf} {v8 : Value} (h : Mk1 w rb wb p ys v8 W) (k : Keep [] W W') : Mk1 w rb wb p ys v8 W' := by
  obtain ⟨A, cw, h1, h2⟩ := h.wt
  exact ⟨h.kw.trans k, h.br.keep k (by simp), h.row.keep k (by simp), h.lt, A, cw, h1.keep k (by simp), own_keep h2 k (by simp)⟩
/-- the bytes of one frame more -/
theorem Mk1.wire {w W W' : World} {rb wb : Nat} {p : Bool} {ys : List Gf} {v8 v8' : Value} {bs : List UInt8} (h : Mk1 w rb wb p ys v8 W) (hr : Row1 W' w.heap.size 5 v8' (encB bs)) (k : Keep (rowBlk v8).toList W W') :
    Keep [] w W' ∧ Blk W' rb 4 #[.bool false] ∧ ∃ A cw, Blk W' wb 22 #[.slice A ys.length cw] ∧ W'.ownsRow w.heap.size 27 4 (.slice A ys.length cw) ys.length (encG ys) := by
  obtain ⟨A, cw, h1, h2⟩ := h.wt
  refine ⟨h.kw.step k (fun g hg => .inr (h.row.lt g (by simpa using hg)).1), h.br.keep k (fun hm => row_ne h.row h.br (by decide) rb (by simpa using hm) rfl), A, cw, h1.keep k (fun hm => row_ne h.row h1 (by decide) wb (by simpa using hm) rfl), own_keep h2 k (fun g hg hm => ?_)⟩
  obtain ⟨_, cs, hb⟩ := own_blk h2 g hg
  exact row_ne h.row hb (by decide) g (by simpa using hm) rfl
end Go.Proofs.Ytigdigljcalgkaa
