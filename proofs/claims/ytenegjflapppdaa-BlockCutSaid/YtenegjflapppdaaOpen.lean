/- What an argument that can be read holds: a slice's elements cell by cell (structs of one-cell fields, or plain elements), numbers within their kinds. -/
import Derived.Test.YtenegjflapppdaaBase
import Derived.Deep.Slices
import Derived.Deep.Fields
import Derived.ChangeSame
import Derived.ProofKit
import Derived.OpenShut
import Derived.Carry
set_option linter.all false
namespace Go.Proofs.Ytenegjflapppdaa
open Go.ChangeShapes Go.WideShapes Go.ChangeAt Go.RowKit Go.Deep
def IsInt (k : IntKind) (v : Value) : Prop := ∃ n, v = .int k n ∧ (Lit.int k n).wf = true
def IsBool (v : Value) : Prop := ∃ b, v = .bool b
/-- a slice value whose cells, up to its capacity, can be read: nf cells an element, cell j of the kind R j -/
def Sl (w : World) (nf : Nat) (R : Nat → Value → Prop) (v : Value) : Prop :=
  ∃ A len cap, v = .slice A len cap ∧ len ≤ cap ∧ cap ≤ maxLen ∧
    (cap = 0 ∨ ∃ b off, A = some ⟨b, off, none⟩ ∧ b < w.heap.size ∧ ∀ i, i < cap → ∀ j, j < nf → ∃ u, w.cell? ⟨b, off + (i * nf + j), none⟩ = some u ∧ R j u)
theorem in_i64 {n : Int} (h : (Lit.int .i64 n).wf = true) : -9223372036854775808 ≤ n ∧ n ≤ 9223372036854775807 := by
  simp [Lit.wf, IntKind.min, IntKind.max, IntKind.signed, IntKind.bits] at h; omega
theorem in_u8 {n : Int} (h : (Lit.int .u8 n).wf = true) : 0 ≤ n ∧ n ≤ 255 := by
  simp [Lit.wf, IntKind.min, IntKind.max, IntKind.signed, IntKind.bits] at h; omega
section
variable {H : Type} {enc : TypeId × Value → H} {P : Program} {w : World} {base : Nat} {held : Bool}
theorem isInt_of {t : TypeId} {k : IntKind} (ht : P.underlying t = some (.int k)) {fuel : Nat} {v : Value} {y : DataW H × List MemPlace} (h : DataW.trod enc P w base (fun _ => true) held fuel t [v] = some y) : IsInt k v := by
  obtain ⟨n, hv, _, hw⟩ := DataW.trod_int ht h
  exact ⟨n, by simpa using hv, hw⟩
theorem isBool_of {t : TypeId} (ht : P.underlying t = some .bool) {fuel : Nat} {v : Value} {y : DataW H × List MemPlace} (h : DataW.trod enc P w base (fun _ => true) held fuel t [v] = some y) : IsBool v := by
  obtain ⟨n, hv, _⟩ := DataW.trod_bool ht h
  exact ⟨n, by simpa using hv⟩
theorem lt_of_cell {w : World} {b o : Nat} {u : Value} (h : w.cell? ⟨b, o, none⟩ = some u) : b < w.heap.size := by
  rcases Nat.lt_or_ge b w.heap.size with h' | h'
  · exact h'
  · simp [World.cell?, Array.getElem?_eq_none h'] at h
theorem sl_of_cells {a : Addr} {len cap nf : Nat} {R : Nat → Value → Prop} (hnf : 0 < nf) (hl : len ≤ cap) (hm : cap ≤ maxLen)
    (h : ∀ i, i < cap → ∀ j, j < nf → ∃ u, w.cell? (a.add (i * nf + j)) = some u ∧ R j u) : Sl w nf R (.slice (some a) len cap) := by
  refine ⟨some a, len, cap, rfl, hl, hm, ?_⟩
  rcases Nat.eq_zero_or_pos cap with h0 | h0
  · exact .inl h0
  right
  obtain ⟨b, off, spot⟩ := a
  obtain ⟨u, hc, _⟩ := h 0 h0 0 hnf
  have hsp : spot = none := by
    simp only [Addr.add, Nat.zero_mul, Nat.add_zero, if_true] at hc
    cases spot with
    | none => rfl
    | some s => simp [World.cell?] at hc; split at hc <;> simp at hc
  subst hsp
  have e : ∀ n, (⟨b, off, none⟩ : Addr).add n = ⟨b, off + n, none⟩ := fun n => by
    unfold Addr.add; by_cases hn : n = 0 <;> simp [hn]
  refine ⟨b, off, rfl, ?_, fun i hi j hj => ?_⟩
  · rw [e] at hc; exact lt_of_cell hc
  · have := h i hi j hj
    rw [e] at this
    exact this
theorem sl_struct {t e : TypeId} {fs : Array Field} {fuel : Nat} {v : Value} {y : DataW H × List MemPlace} {R : Nat → Value → Prop} (ht : P.underlying t = some (.slice e)) (he : P.underlying e = some (.struct fs))
    (hone : oneCellFields P fs = true) (hC : P.cellsOf e = fs.size) (hnf : 0 < fs.size)
    (hR : ∀ j f, fs[j]? = some f → ∀ n u y, DataW.trod enc P w base (fun _ => true) held n f.type [u] = some y → R j u)
    (h : DataW.trod enc P w base (fun _ => true) held fuel t [v] = some y) : Sl w fs.size R v := by
  rcases open_slice ht h with ⟨h0, _⟩ | ⟨a, len, cap, m, n, D, Pl, hcs, hb, hl, hm, hmm, hx, hi⟩
  · obtain rfl : v = .slice none 0 0 := by simpa using h0
    exact ⟨none, 0, 0, rfl, by omega, by simp [maxLen], .inl rfl⟩
  · obtain rfl : v = .slice (some a) len cap := by simpa using hcs
    simp only [if_true] at hmm
    subst hmm
    refine sl_of_cells hnf hl hm fun i hi' j hj => ?_
    obtain ⟨cs', hc, ht'⟩ := hi i hi'
    rw [hC] at hc
    obtain ⟨ys, n', hn', hy, hlen, hyl, hf⟩ := DataW.trod_struct he ht'
    obtain ⟨_, hcl, hat⟩ := World.cells?_some hc
    obtain ⟨f, hfj⟩ : ∃ f, fs[j]? = some f := ⟨fs[j], Array.getElem?_eq_getElem hj⟩
    obtain ⟨ho, hk⟩ := hone_of hone j f hfj
    have hcell := hat j hj
    have h1 := hf j f hfj
    rw [ho, hk] at h1
    have hone' : (cs'.drop j).take 1 = [cs'[j]'(by omega)] := by
      rw [List.drop_eq_getElem_cons (by omega)]
      rfl
    rw [hone'] at h1
    have hys : ys[j]? = some (ys[j]'(by omega)) := List.getElem?_eq_getElem (by omega)
    refine ⟨cs'[j]'(by omega), ?_, hR j f hfj _ _ _ (h1.trans hys)⟩
    rw [← Go.Deep.add_add, hcell, List.getElem?_eq_getElem (by omega)]
theorem sl_plain {t e : TypeId} {fuel : Nat} {v : Value} {y : DataW H × List MemPlace} {R : Nat → Value → Prop} (ht : P.underlying t = some (.slice e)) (hC : P.cellsOf e = 1)
    (hR : ∀ n u y, DataW.trod enc P w base (fun _ => true) held n e [u] = some y → R 0 u)
    (h : DataW.trod enc P w base (fun _ => true) held fuel t [v] = some y) : Sl w 1 R v := by
  rcases open_slice ht h with ⟨h0, _⟩ | ⟨a, len, cap, m, n, D, Pl, hcs, hb, hl, hm, hmm, hx, hi⟩
  · obtain rfl : v = .slice none 0 0 := by simpa using h0
    exact ⟨none, 0, 0, rfl, by omega, by simp [maxLen], .inl rfl⟩
  · obtain rfl : v = .slice (some a) len cap := by simpa using hcs
    simp only [if_true] at hmm
    subst hmm
    refine sl_of_cells (by omega) hl hm fun i hi' j hj => ?_
    obtain rfl : j = 0 := by omega
    obtain ⟨cs', hc, ht'⟩ := hi i hi'
    rw [hC] at hc
    obtain ⟨_, hcl, hat⟩ := World.cells?_some hc
    have hcell := hat 0 (by omega)
    obtain ⟨u, rfl⟩ : ∃ u, cs' = [u] := by
      match cs', hcl with
      | [u], _ => exact ⟨u, rfl⟩
    refine ⟨u, ?_, hR _ _ _ ht'⟩
    have e : ∀ a : Addr, a.add 0 = a := fun a => by simp [Addr.add]
    simpa [hC, e] using hcell
end
end Go.Proofs.Ytenegjflapppdaa
