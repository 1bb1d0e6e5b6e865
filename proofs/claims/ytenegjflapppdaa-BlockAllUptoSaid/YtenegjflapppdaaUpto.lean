/- What an argument of small bulk holds: its slices are no longer than the bound. -/
import Derived.Test.YtenegjflapppdaaRows
import Derived.Test.YtenegjflapppdaaOpen
set_option linter.all false
namespace Go.Proofs.Ytenegjflapppdaa
open Go.ChangeShapes Go.WideShapes Go.ChangeAt Go.RowKit Go.Deep
theorem bulk_one {H : Type} (d : DataW H) : 1 ≤ Rows.uptoBulk d := by
  cases d with
  | lit l => cases l <;> simp [Rows.uptoBulk]
  | nil => simp [Rows.uptoBulk]
  | ptr d => simp [Rows.uptoBulk]
  | slice elems spare => simp [Rows.uptoBulk]
  | agg parts => simp [Rows.uptoBulk]
  | iface t d => simp [Rows.uptoBulk]
  | map entries => simp [Rows.uptoBulk]
  | held h => simp [Rows.uptoBulk]
theorem bulk_part {H : Type} {d : DataW H} {l : List (DataW H)} (h : d ∈ l) : Rows.uptoBulk d ≤ Rows.uptoBulkAll l := by
  induction l with
  | nil => cases h
  | cons x r ih =>
    simp only [Rows.uptoBulkAll]
    cases List.mem_cons.1 h with
    | inl e => subst e; omega
    | inr e => have := ih e; omega
theorem bulk_len {H : Type} (l : List (DataW H)) : l.length ≤ Rows.uptoBulkAll l := by
  induction l with
  | nil => simp [Rows.uptoBulkAll]
  | cons x r ih => have := bulk_one x; simp only [Rows.uptoBulkAll, List.length_cons]; omega
theorem bulk_all {H : Type} {l r : List (DataW H)} (hk : Rows.uptoSmall H (l ++ r) = true) : ∀ d ∈ l, Rows.uptoBulk d ≤ 1048576 := fun d hd => by
  have h1 : Rows.uptoBulkAll (l ++ r) ≤ 1048576 := of_decide_eq_true hk
  have := bulk_part (List.mem_append_left r hd)
  omega
section
variable {H : Type} {enc : TypeId × Value → H} {P : Program} {w : World} {base : Nat} {held : Bool} {N : Nat}
theorem len_bulk {t e : TypeId} {fuel : Nat} {v : Value} {y : DataW H × List MemPlace} (ht : P.underlying t = some (.slice e)) (h : DataW.trod enc P w base (fun _ => true) held fuel t [v] = some y) (hb : Rows.uptoBulk y.1 ≤ N) :
    ∀ A n c, v = .slice A n c → n ≤ N := by
  intro A n c hv
  rcases open_slice ht h with ⟨h0, _⟩ | ⟨a, len, cap, m', n', D, Pl, hcs, _, _, _, _, hx, _⟩
  · rw [hv] at h0
    injection h0 with h0 _
    injection h0 with _ h1 _
    omega
  · rw [hv] at hcs
    injection hcs with hcs _
    injection hcs with _ hl _
    subst hl
    subst hx
    simp only [Rows.uptoBulk] at hb
    have := bulk_len ((List.range n).map D)
    simp at this
    omega
theorem elem_bulk {len m : Nat} {D : Nat → DataW H} {i : Nat} (hl : len ≤ m) (hi : i < m) (hb : Rows.uptoBulk (.slice ((List.range len).map D) ((List.range (m - len)).map fun j => D (len + j))) ≤ N) : Rows.uptoBulk (D i) ≤ N := by
  simp only [Rows.uptoBulk] at hb
  by_cases h : i < len
  · have : D i ∈ (List.range len).map D := List.mem_map.2 ⟨i, List.mem_range.2 h, rfl⟩
    have := bulk_part this
    omega
  · have : D i ∈ (List.range (m - len)).map fun j => D (len + j) := List.mem_map.2 ⟨i - len, List.mem_range.2 (by omega), by rw [show len + (i - len) = i by omega]⟩
    have := bulk_part this
    omega
theorem sl_plainU {t e : TypeId} {fuel : Nat} {v : Value} {y : DataW H × List MemPlace} {R : Nat → Value → Prop} (ht : P.underlying t = some (.slice e)) (hC : P.cellsOf e = 1)
    (hR : ∀ n u y, DataW.trod enc P w base (fun _ => true) held n e [u] = some y → Rows.uptoBulk y.1 ≤ N → R 0 u)
    (h : DataW.trod enc P w base (fun _ => true) held fuel t [v] = some y) (hb : Rows.uptoBulk y.1 ≤ N) : Sl w 1 R v := by
  rcases open_slice ht h with ⟨h0, _⟩ | ⟨a, len, cap, m, n, D, Pl, hcs, _, hl, hm, hmm, hx, hi⟩
  · obtain rfl : v = .slice none 0 0 := by simpa using h0
    exact ⟨none, 0, 0, rfl, by omega, by simp [maxLen], .inl rfl⟩
  · obtain rfl : v = .slice (some a) len cap := by simpa using hcs
    simp only [if_true] at hmm
    subst hmm
    subst hx
    refine sl_of_cells (by omega) hl hm fun i hi' j hj => ?_
    obtain rfl : j = 0 := by omega
    obtain ⟨cs', hc, ht'⟩ := hi i hi'
    rw [hC] at hc
    obtain ⟨_, hcl, hat⟩ := World.cells?_some hc
    have hcell := hat 0 (by omega)
    obtain ⟨u, rfl⟩ : ∃ u, cs' = [u] := by
      match cs', hcl with
      | [u], _ => exact ⟨u, rfl⟩
    refine ⟨u, ?_, hR _ _ _ ht' (elem_bulk hl hi' hb)⟩
    have e : ∀ a : Addr, a.add 0 = a := fun a => by simp [Addr.add]
    simpa [hC, e] using hcell
theorem sl_structU {t e : TypeId} {fs : Array Field} {fuel : Nat} {v : Value} {y : DataW H × List MemPlace} {R : Nat → Value → Prop} (ht : P.underlying t = some (.slice e)) (he : P.underlying e = some (.struct fs))
    (hone : oneCellFields P fs = true) (hC : P.cellsOf e = fs.size) (hnf : 0 < fs.size)
    (hR : ∀ j f, fs[j]? = some f → ∀ n u y, DataW.trod enc P w base (fun _ => true) held n f.type [u] = some y → Rows.uptoBulk y.1 ≤ N → R j u)
    (h : DataW.trod enc P w base (fun _ => true) held fuel t [v] = some y) (hb : Rows.uptoBulk y.1 ≤ N) : Sl w fs.size R v := by
  rcases open_slice ht h with ⟨h0, _⟩ | ⟨a, len, cap, m, n, D, Pl, hcs, _, hl, hm, hmm, hx, hi⟩
  · obtain rfl : v = .slice none 0 0 := by simpa using h0
    exact ⟨none, 0, 0, rfl, by omega, by simp [maxLen], .inl rfl⟩
  · obtain rfl : v = .slice (some a) len cap := by simpa using hcs
    simp only [if_true] at hmm
    subst hmm
    subst hx
    refine sl_of_cells hnf hl hm fun i hi' j hj => ?_
    obtain ⟨cs', hc, ht'⟩ := hi i hi'
    have hbi := elem_bulk hl hi' hb
    rw [hC] at hc
    obtain ⟨ys, n', hn', hy, hlen, hyl, hf⟩ := DataW.trod_struct he ht'
    obtain ⟨_, hcl, hat⟩ := World.cells?_some hc
    obtain ⟨f, hfj⟩ : ∃ f, fs[j]? = some f := ⟨fs[j], Array.getElem?_eq_getElem hj⟩
    obtain ⟨ho, hk⟩ := hone_of hone j f hfj
    have hcell := hat j hj
    have h1 := hf j f hfj
    rw [ho, hk] at h1
    have hone' : (cs'.drop j).take 1 = [cs'[j]'(by omega)] := by
      rw [List.drop_eq_getElem_cons (by omega)]
      rfl
    rw [hone'] at h1
    have hys : ys[j]? = some (ys[j]'(by omega)) := List.getElem?_eq_getElem (by omega)
    refine ⟨cs'[j]'(by omega), ?_, hR j f hfj _ _ _ (h1.trans hys) ?_⟩
    · rw [← Go.Deep.add_add, hcell, List.getElem?_eq_getElem (by omega)]
    · have hy1 := congrArg Prod.fst hy
      simp only at hy1
      rw [hy1] at hbi
      simp only [Rows.uptoBulk] at hbi
      have : (ys[j]'(by omega)).1 ∈ ys.map (·.1) := List.mem_map.2 ⟨_, List.getElem_mem _, rfl⟩
      have := bulk_part this
      omega
end
end Go.Proofs.Ytenegjflapppdaa
