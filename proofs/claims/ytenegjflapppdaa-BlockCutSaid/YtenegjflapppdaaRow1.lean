/- A slice of the call's own that may begin anywhere in its row: reading, cutting, appending. -/
import Derived.Test.YtenegjflapppdaaKeep
import Derived.ArgAppend
import Derived.Laws.IdiomCopy
set_option linter.all false
namespace Go.Proofs.Ytenegjflapppdaa
open Go.RowKit
def rowBlk : Value → Option Nat
  | .slice (some a) _ _ => some a.block
  | _ => none
/-- v reads as xs, its cells (up to its capacity) lie in a block from base on that is known whole -/
def Row1 (w : World) (base : Nat) (e : TypeId) (v : Value) (xs : List Value) : Prop :=
  ∃ A cap, v = .slice A xs.length cap ∧ xs.length ≤ cap ∧ cap ≤ maxLen ∧
    ((A = none ∧ xs = [] ∧ cap = 0) ∨ ∃ g off cs, A = some ⟨g, off, none⟩ ∧ base ≤ g ∧ Blk w g e cs ∧ off + cap ≤ cs.size ∧ ∀ j u, xs[j]? = some u → cs[off + j]? = some u)
section
variable {P : Program} {w w' : World} {base : Nat} {e : TypeId} {v : Value} {xs : List Value}
theorem Row1.nil (w : World) (base : Nat) (e : TypeId) : Row1 w base e (.slice none 0 0) [] := ⟨none, 0, rfl, by simp, by simp [maxLen], .inl ⟨rfl, rfl, rfl⟩⟩
theorem Row1.keep {gs : List Nat} (h : Row1 w base e v xs) (k : Keep gs w w') (hn : ∀ g, rowBlk v = some g → g ∉ gs) : Row1 w' base e v xs := by
  obtain ⟨A, cap, rfl, h1, h2, h⟩ := h
  refine ⟨A, cap, rfl, h1, h2, ?_⟩
  rcases h with h | ⟨g, off, cs, rfl, hg, hb, hc, hx⟩
  · exact .inl h
  · exact .inr ⟨g, off, cs, rfl, hg, hb.keep k (hn g rfl), hc, hx⟩
theorem Row1.lt (h : Row1 w base e v xs) : ∀ g, rowBlk v = some g → base ≤ g ∧ g < w.heap.size := by
  obtain ⟨A, cap, rfl, h1, h2, h⟩ := h
  rcases h with ⟨rfl, _⟩ | ⟨g, off, cs, rfl, hg, hb, hc, hx⟩
  · intro g hg; cases hg
  · intro g' hg'
    injection hg' with hg'
    subst hg'
    exact ⟨hg, hb.lt⟩
theorem Row1.reads (h : Row1 w base e v xs) : ∃ A cap, v = .slice A xs.length cap ∧ xs.length ≤ cap ∧ cap ≤ maxLen ∧ Reads w w.heap.size 1 A xs.length xs := by
  obtain ⟨A, cap, rfl, h1, h2, h⟩ := h
  refine ⟨A, cap, rfl, h1, h2, by simp, fun hn => ?_⟩
  rcases h with ⟨rfl, rfl, _⟩ | ⟨g, off, cs, rfl, hg, hb, hc, hx⟩
  · simp at hn
  · refine ⟨_, rfl, hb.lt, fun j u hu => ?_⟩
    have ea : (⟨g, off, none⟩ : Addr).add j = ⟨g, off + j, none⟩ := by unfold Addr.add; split <;> simp_all
    rw [ea, hb.cell]
    exact hx j u hu
theorem Row1.of_own {n : Nat} (h : w.ownsRow base e 1 v n xs) : Row1 w base e v xs := by
  have hl : xs.length = n := by have := h.1; omega
  subst hl
  rcases h.2 with ⟨rfl, h0⟩ | ⟨g, cap, cur, rfl, hb, hg, hnc, hcm, hcs, ht⟩
  · obtain rfl : xs = [] := List.eq_nil_of_length_eq_zero h0
    exact Row1.nil w base e
  · refine ⟨_, cap, rfl, hnc, hcm, .inr ⟨g, 0, cur, rfl, hb, hg, by omega, fun j u hu => ?_⟩⟩
    have hj : j < xs.length := (List.getElem?_eq_some_iff.1 hu).1
    rw [Nat.zero_add, ← hu, ← ht, List.getElem?_take, if_pos (by omega)]
    simp
theorem Row1.cut (h : Row1 w base e v xs) (k : Nat) (hk : k ≤ xs.length) : ∀ A n cap, v = .slice A n cap → Row1 w base e (.slice (if cap = k then A else A.map (·.add k)) (n - k) (cap - k)) (xs.drop k) := by
  intro A n cap hv
  obtain ⟨A', cap', rfl, h1, h2, h⟩ := h
  injection hv with e1 e2 e3
  subst e1 e2 e3
  refine ⟨_, _, by rw [List.length_drop], by rw [List.length_drop]; omega, by omega, ?_⟩
  rcases h with ⟨rfl, rfl, rfl⟩ | ⟨g, off, cs, rfl, hg, hb, hc, hx⟩
  · left
    refine ⟨by split <;> rfl, by simp, by omega⟩
  · right
    by_cases hck : cap' = k
    · rw [if_pos hck]
      refine ⟨g, off, cs, rfl, hg, hb, by omega, fun j u hu => ?_⟩
      rw [List.drop_of_length_le (by omega)] at hu
      simp at hu
    · rw [if_neg hck]
      refine ⟨g, off + k, cs, by simp [Addr.add], hg, hb, by omega, fun j u hu => ?_⟩
      rw [List.getElem?_drop] at hu
      rw [Nat.add_assoc]
      exact hx _ u hu
theorem blk_setCells {g : Nat} {t : TypeId} : ∀ (vs : List Value) (o : Nat) (w : World) (cs : Array Value), Blk w g t cs → ∃ cs', cs'.size = cs.size ∧ Blk (w.setCells g o vs) g t cs'
  | [], _, w, cs, h => ⟨cs, rfl, h⟩
  | v :: vs, o, w, cs, h => by
    obtain ⟨cs', h1, h2⟩ := blk_setCells vs (o + 1) (w.setCell ⟨g, o, none⟩ v) _ (h.set_ o v)
    exact ⟨cs', by simpa using h1, h2⟩
theorem keep_setCells {g : Nat} : ∀ (vs : List Value) (o : Nat) (w : World), Keep [g] w (w.setCells g o vs)
  | [], _, w => Keep.refl _ w
  | v :: vs, o, w => ((Keep.refl [g] w).setCell (p := ⟨g, o, none⟩) (.inl (by simp)) v).trans (keep_setCells vs (o + 1) _)
/-- append onto such a slice -/
theorem row_append (h : Row1 w base e v xs) (t ty : TypeId) (i : TypeInfo) (z : Value) (bytes : Nat) (ht : P.underlying t = some (.slice e)) (hi : P.info? e = some i) (hz : i.zero = some z)
    (hsize : i.size = 1) (hby : i.bytes = bytes) (hzs : z.cells.size = 1) {B : Nat} {A : Option Addr} {m c : Nat} {news : List Value} (hr : Reads w B 1 A m news) (h1 : ∀ u ∈ news, u.oneCell' = true)
    (h63 : xs.length + m ≤ maxLen) (hbytes : (xs.length + m) * bytes ≤ 140737488355328) (hbase : base ≤ w.heap.size) :
    ∃ v' w', (Builtin.append_ #[t, t] ty #[v, .slice A m c]).run P w = .ok v' w' ∧ Row1 w' base e v' (xs ++ news) ∧ Keep (rowBlk v).toList w w' ∧ (rowBlk v' = rowBlk v ∨ ∃ g, rowBlk v' = some g ∧ w.heap.size ≤ g) := by
  have hml : news.length = m := by have := hr.1; omega
  obtain ⟨A0, cap, rfl, hn, hc, hh⟩ := h
  rcases hh with ⟨rfl, rfl, rfl⟩ | ⟨g, off, cs, rfl, hg, hb, hcs, hx⟩
  · obtain ⟨v', w', hrun, h2, h3, h4⟩ := run_append_any (P := P) w base t ty e i z 1 bytes ht hi hz hsize hby hzs (by omega) (.slice none 0 0) 0 [] (World.ownsRow_nil _ _ _ _) B A m c news hr h1 (by simpa using h63) (by simpa using hbytes) hbase
    refine ⟨v', w', hrun, by simpa using Row1.of_own h2, Keep.of_grown h3, ?_⟩
    rcases h2.2 with ⟨rfl, _⟩ | ⟨g', cap', cur, rfl, hb', hg', _⟩
    · exact .inl rfl
    · right
      refine ⟨g', rfl, ?_⟩
      rcases h4 with h4 | h4
      · simp [Value.ownBlock] at h4
      · simp [Value.ownBlock] at h4; omega
  · cases A with
    | none =>
      have hm0 : m = 0 := by
        rcases Nat.eq_zero_or_pos m with h0 | h0
        · exact h0
        · obtain ⟨ad, h, _⟩ := hr.2 h0; cases h
      subst hm0
      obtain rfl : news = [] := List.eq_nil_of_length_eq_zero hml
      refine ⟨_, w, by simp [Builtin.append_, run_underlying ht, sizeOf, typeInfo, hi, Builtin.lenOf, Builtin.firstCells, hn, storeCells], ?_, Keep.refl _ w, .inl rfl⟩
      rw [List.append_nil]
      exact ⟨_, cap, rfl, hn, hc, .inr ⟨g, off, cs, rfl, hg, hb, hcs, hx⟩⟩
    | some ad =>
      have hnews : ∀ j u, news[j]? = some u → w.cell? (ad.add j) = some u := fun j u hu => by
        have hm : 0 < m := by have := (List.getElem?_eq_some_iff.1 hu).1; omega
        obtain ⟨ad', h, _, hcell⟩ := hr.2 hm
        injection h with h
        subst h
        exact hcell j u hu
      by_cases hroom : xs.length + m ≤ cap
      · have hsome : ∀ j, j < news.length → (w.cell? ⟨g, off + xs.length * i.size + j, none⟩).isSome = true := fun j hj => by
          rw [hb.cell, Array.getElem?_eq_getElem (by rw [hsize]; omega)]; rfl
        have hrun := run_append_room_cells (P := P) w t ty e i ht hi g off xs.length cap ad m c news (by rw [hsize]; omega) hnews h1 hroom hsome (fun j _ => hb.frozen _)
        refine ⟨_, _, hrun, ?_, keep_setCells _ _ _, .inl rfl⟩
        obtain ⟨cs', hs', hb'⟩ := blk_setCells news (off + xs.length * i.size) w cs hb
        refine ⟨_, cap, by rw [List.length_append, hml], by rw [List.length_append]; omega, hc, .inr ⟨g, off, cs', rfl, hg, hb', by omega, fun j u hu => ?_⟩⟩
        rw [← hb'.cell]
        by_cases hj : j < xs.length
        · rw [List.getElem?_append_left hj] at hu
          rw [World.cell?_setCells_out g news _ w ⟨g, off + j, none⟩ (fun _ _ => by rw [hsize]; simp; omega), hb.cell]
          exact hx j u hu
        · rw [List.getElem?_append_right (by omega)] at hu
          have hj2 := (List.getElem?_eq_some_iff.1 hu).1
          have h := World.cell?_setCells_in g news (off + xs.length * i.size) w hsome (j - xs.length) hj2
          rw [show off + xs.length * i.size + (j - xs.length) = off + j by rw [hsize]; omega] at h
          rw [h]
          rw [← hu, List.getElem?_eq_getElem hj2]
      · obtain ⟨v', w', hrun, h2, h3⟩ := run_append_arg_grows (P := P) w t ty e i z 1 bytes ht hi hz hsize hby hzs (by omega) ⟨g, off, none⟩ xs.length cap xs (by omega) (fun j u hu => by
          have ea : (⟨g, off, none⟩ : Addr).add j = ⟨g, off + j, none⟩ := by unfold Addr.add; split <;> simp_all
          rw [ea, hb.cell]; exact hx j u hu) ad m c news (by omega) hnews (by omega) h63 hbytes
        refine ⟨v', w', hrun, ?_, (Keep.of_grown h3).more (by simp), ?_⟩
        · have := Row1.of_own h2
          obtain ⟨A', cap', hv, a1, a2, a3⟩ := this
          refine ⟨A', cap', hv, a1, a2, ?_⟩
          rcases a3 with a3 | ⟨g', o', cs', b1, b2, b3⟩
          · exact .inl a3
          · exact .inr ⟨g', o', cs', b1, by omega, b3⟩
        · rcases h2.2 with ⟨rfl, h0⟩ | ⟨g', cap', cur, rfl, hb', hg', _⟩
          · omega
          · exact .inr ⟨g', rfl, hb'⟩
end
end Go.Proofs.Ytenegjflapppdaa
