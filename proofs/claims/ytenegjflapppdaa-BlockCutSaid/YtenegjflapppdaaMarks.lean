/- marks: a range over a func in a loop leaves one mark a round. -/
import Derived.Test.YtenegjflapppdaaLs
set_option linter.all false
namespace Go.Proofs.Ytenegjflapppdaa
open Go.ChangeShapes Go.WideShapes Go.ChangeAt Go.RowKit
def mark (D : Nat) : Deferred := { target := .collected D, args := #[] }
/-- at the end each mark is taken -/
theorem leaves_marks {F : Fence} {n : Nat} {P : Program} {fn : Func} {tmps : Array Value} {R : Ending → World → Prop} : ∀ (Ds : List Nat) (W : World), Ds.Nodup → (∀ D ∈ Ds, W.heap[D]? = some (.deferred (some []))) →
    (∀ W', Keep Ds W W' → LeavesInM F n P fn tmps R [] .returning W') → LeavesInM F n P fn tmps R (Ds.map mark) .returning W
  | [], W, _, _, h => h W (Keep.refl _ _)
  | D :: Ds, W, hn, hd, h => by
    have hn2 := List.nodup_cons.1 hn
    refine ⟨by simp, .inl ⟨D, _, rfl, run_takeDeferred (hd D (by simp)), ?_⟩⟩
    refine leaves_marks Ds _ hn2.2 (fun D' hD' => ?_) (fun W' k => h W' ?_)
    · exact (World.putObj_heap_other (by rintro rfl; exact hn2.1 hD')).trans (hd D' (by simp [hD']))
    · exact ((Keep.refl (D :: Ds) W).putObj (l := D) (.inl (by simp)) _).trans (k.more (fun i hi => .inl (by simp [hi])))

/-- the loop of BlockCut: what stands between rounds -/
structure OutR (w4 : World) (Ds : List Nat) (i : Nat) (W : World) : Prop where
  kw : Keep [] w4 W
  nd : Ds.Nodup
  at_ : ∀ D ∈ Ds, w4.heap.size ≤ D ∧ W.heap[D]? = some (.deferred (some []))
  le : i ≤ 2
/-- in a round: k frames are seen, off bytes are gone -/
structure RC (w4 : World) (S kb : Nat) (Ds : List Nat) (l : Loop) (j : Nat) (W : World) : Prop where
  kw : Keep [] w4 W
  bk : Blk W kb 3 #[.int .i64 (j : Nat)]
  rc : W.heap[S + 1]? = some (.loop l)
  df : W.heap[S]? = some (.deferred (some []))
  dm : ∀ D ∈ Ds, w4.heap.size ≤ D ∧ D < kb ∧ W.heap[D]? = some (.deferred (some []))
  lt : w4.heap.size ≤ kb ∧ kb < S
theorem RC.step {w4 W W' : World} {S kb : Nat} {Ds : List Nat} {l : Loop} {j : Nat} {gs : List Nat} (h : RC w4 S kb Ds l j W) (k : Keep gs W W') (hg : ∀ g ∈ gs, S + 1 < g) : RC w4 S kb Ds l j W' := by
  have hl := h.lt
  refine ⟨h.kw.step k (fun g hm => .inr (by have := hg g hm; omega)), h.bk.keep k (fun hm => by have := hg _ hm; omega), k.heap h.rc (fun hm => by have := hg _ hm; omega), k.heap h.df (fun hm => by have := hg _ hm; omega), fun D hD => ?_, hl⟩
  obtain ⟨h1, h2, h3⟩ := h.dm D hD
  exact ⟨h1, h2, k.heap h3 (fun hm => by have := hg _ hm; omega)⟩
theorem RC.put {w4 W : World} {S kb : Nat} {Ds : List Nat} {l : Loop} {j : Nat} (h : RC w4 S kb Ds l j W) (l' : Loop) : RC w4 S kb Ds l' j (W.putObj (S + 1) (.loop l')) := by
  have hl := h.lt
  have k : Keep [S + 1] W (W.putObj (S + 1) (.loop l')) := (Keep.refl _ W).putObj (.inl (by simp)) _
  refine ⟨h.kw.step k (by simp; omega), h.bk.keep k (by simp; omega), put_heap (Array.getElem?_eq_some_iff.1 h.rc).1, k.heap h.df (by simp), fun D hD => ?_, hl⟩
  obtain ⟨h1, h2, h3⟩ := h.dm D hD
  exact ⟨h1, h2, k.heap h3 (by simp; omega)⟩
theorem RC.count {w4 W : World} {S kb : Nat} {Ds : List Nat} {l : Loop} {j : Nat} (h : RC w4 S kb Ds l j W) (j' : Int) (m : Nat) (hm : j' = m) : RC w4 S kb Ds l m (W.setCell ⟨kb, 0, none⟩ (.int .i64 j')) := by
  have hl := h.lt
  subst hm
  have k : Keep [kb] W (W.setCell ⟨kb, 0, none⟩ (.int .i64 (m : Int))) := (Keep.refl _ W).setCell (p := ⟨kb, 0, none⟩) (.inl (by simp)) _
  refine ⟨h.kw.step k (by simp; omega), h.bk.set_ 0 _, k.heap h.rc (by simp; omega), k.heap h.df (by simp; omega), fun D hD => ?_, hl⟩
  obtain ⟨h1, h2, h3⟩ := h.dm D hD
  exact ⟨h1, h2, k.heap h3 (by simp; omega)⟩
theorem res_cell_bool {fn : Func} {p : Tmp} (h : fn.results = #[.cell p 4]) (tmps : Array Value) (w : World) (g : Nat) (b : Bool) (hp : tmps.getD p undef = .pointer (some ⟨g, 0, none⟩)) (hc : w.cell? ⟨g, 0, none⟩ = some (.bool b)) : (results fn tmps).run Try.prog w = .ok (.bool b) w := by
  have hp' : tmps[p]?.getD undef = .pointer (some ⟨g, 0, none⟩) := by simpa using hp
  have hu := Try.underlying4
  simp [results, h, hp', asAddr, go_sem, hc]
def mu14 (a : Act) (_ : World) : Nat := 2 - (intOf (a.tmps.getD 14 undef)).toNat
theorem mu2 {i : Nat} (h : i < 2) : 2 - (i + 1) < 2 - i := by omega
theorem mu3 {i : Nat} (h : i < 2) : 1 - i < 2 - i := by omega
theorem le2 {i : Nat} (h : i < 2) : i + 1 ≤ 2 := h
theorem wrap2 {i : Nat} (h : i < 2) : wrap64 ((i : Int) + 1) = ((i + 1 : Nat) : Int) := by unfold wrap64; omega
end Go.Proofs.Ytenegjflapppdaa
