/- frame: the settings that are the last of their number. -/
import Derived.Test.YtbngoaonkhcciaaSetIt
import Derived.Test.YtbngoaonkhcciaaPStx1
set_option linter.all false
namespace Go.Proofs.Ytbngoaonkhcciaa
open Go.RowKit Go.Proofs.YtbngoaonkhcciaaW.PrintWords
theorem lastTo_lt (ss : List (Int × Int)) (k : Int) : ∀ n i, i < n → (ss.getD i (0, 0)).1 = k → (∀ m, i < m → m < n → (ss.getD m (0, 0)).1 ≠ k) → lastTo ss n k = i
  | 0, i, h, _, _ => absurd h (by omega)
  | n + 1, i, h, hk, hm => by
    unfold lastTo
    by_cases hi : i = n
    · subst hi
      rw [if_pos hk]
    · rw [if_neg (hm n (by omega) (by omega))]
      exact lastTo_lt ss k n i (by omega) hk (fun m h1 h2 => hm m h1 (by omega))
theorem lastTo_ge (ss : List (Int × Int)) (k : Int) : ∀ n m, m < n → (ss.getD m (0, 0)).1 = k → m ≤ lastTo ss n k
  | 0, m, h, _ => absurd h (by omega)
  | n + 1, m, h, hk => by
    unfold lastTo
    by_cases hm : m = n
    · subst hm
      rw [if_pos hk]
      exact Nat.le_refl _
    · have := lastTo_ge ss k n m (by omega) hk
      split
      · omega
      · exact this
/-- i is the last place of its number -/
def isL (ss : List (Int × Int)) (n i : Nat) : Bool := lastTo ss n (ss.getD i (0, 0)).1 == i
theorem isL_yes {ss : List (Int × Int)} {n i : Nat} (h : i < n) (hm : ∀ m, i < m → m < n → (ss.getD m (0, 0)).1 ≠ (ss.getD i (0, 0)).1) : isL ss n i = true := by
  unfold isL
  rw [lastTo_lt ss _ n i h rfl hm]
  simp
theorem isL_no {ss : List (Int × Int)} {n i m : Nat} (h1 : i < m) (h2 : m < n) (h : (ss.getD m (0, 0)).1 = (ss.getD i (0, 0)).1) : isL ss n i = false := by
  unfold isL
  have := lastTo_ge ss _ n m h2 h
  rw [beq_eq_false_iff_ne]
  omega
/-- of the first j places those that are the last of their number -/
def idx (ss : List (Int × Int)) (n : Nat) : Nat → List Int
  | 0 => []
  | j + 1 => if isL ss n j = true then idx ss n j ++ [(j : Int)] else idx ss n j
theorem idx_len (ss : List (Int × Int)) (n : Nat) : ∀ j, (idx ss n j).length ≤ j
  | 0 => Nat.le_refl _
  | j + 1 => by
    have := idx_len ss n j
    unfold idx
    split
    · simp; omega
    · omega
theorem idx_mono (ss : List (Int × Int)) (n j : Nat) : ∀ d, (idx ss n j).length ≤ (idx ss n (j + d)).length
  | 0 => Nat.le_refl _
  | d + 1 => by
    have := idx_mono ss n j d
    show _ ≤ (idx ss n (j + d + 1)).length
    rw [idx]
    split
    · simp; omega
    · exact this
theorem idx_get (ss : List (Int × Int)) (n j : Nat) (h : isL ss n j = true) : ∀ d, (idx ss n (j + 1 + d))[(idx ss n j).length]? = some (j : Int)
  | 0 => by
    show (idx ss n (j + 1))[_]? = _
    rw [idx, if_pos h]
    simp
  | d + 1 => by
    have ih := idx_get ss n j h d
    show (idx ss n (j + 1 + d + 1))[_]? = _
    rw [idx]
    split
    · rw [List.getElem?_append_left ((List.getElem?_eq_some_iff.1 ih).1)]
      exact ih
    · exact ih
/-! ### the reference's loops -/
def s44 (ss : List (Int × Int)) : List PSt.S44 := ss.map fun p => ⟨p.1, p.2⟩
theorem s44_len (ss : List (Int × Int)) : (s44 ss).length = ss.length := by simp [s44]
theorem rd_s44 {ss : List (Int × Int)} {i : Nat} (h : i < ss.length) : (PSt.rd_T44 (s44 ss) (i : Int)).f0 = (ss.getD i (0, 0)).1 := by
  simp [PSt.rd_T44, s44, List.getD_eq_getElem?_getD, List.getElem?_eq_getElem h]
theorem inner_no (ss : List (Int × Int)) (hn : ss.length ≤ 1000) (x3 : List Int) (i j k : Nat) (hi : i < ss.length) (hj : j ≤ ss.length) : PSt.isthmusref7_Settings.l1 (k + 1) (s44 ss) x3 i false j = PSt.isthmusref7_Settings.l0 k (s44 ss) x3 ((i + 1 : Nat) : Int) := by
  have e : wrap64 ((i : Int) + 1) = ((i + 1 : Nat) : Int) := by unfold wrap64; omega
  rw [PSt.isthmusref7_Settings.l1, s44_len, e]
  by_cases h : j < ss.length
  · rw [if_pos (by omega), if_neg (by simp)]
  · rw [if_neg (by omega), if_neg (by simp)]
theorem inner (ss : List (Int × Int)) (hn : ss.length ≤ 1000) (x3 : List Int) (hx : x3.length ≤ 1000) (i : Nat) (hi : i < ss.length) : ∀ (d j k : Nat), j + d = ss.length → i < j → d + 2 < k → (∀ m, i < m → m < j → (ss.getD m (0, 0)).1 ≠ (ss.getD i (0, 0)).1) →
    ∃ k', k ≤ k' + d + 2 ∧ PSt.isthmusref7_Settings.l1 k (s44 ss) x3 i true j = PSt.isthmusref7_Settings.l0 k' (s44 ss) (if isL ss ss.length i = true then x3 ++ [(i : Int)] else x3) ((i + 1 : Nat) : Int)
  | 0, j, k, hj, hij, hk, hm => by
    obtain ⟨k, rfl⟩ : ∃ m, k = m + 1 := ⟨k - 1, by omega⟩
    have e : wrap64 ((i : Int) + 1) = ((i + 1 : Nat) : Int) := by unfold wrap64; omega
    refine ⟨k, by omega, ?_⟩
    rw [PSt.isthmusref7_Settings.l1, s44_len, if_neg (by omega), if_pos rfl, if_pos (by omega), e, isL_yes hi (fun m h1 h2 => hm m h1 (by omega)), if_pos rfl]
  | d + 1, j, k, hj, hij, hk, hm => by
    obtain ⟨k, rfl⟩ : ∃ m, k = m + 1 := ⟨k - 1, by omega⟩
    have e : wrap64 ((j : Int) + 1) = ((j + 1 : Nat) : Int) := by unfold wrap64; omega
    rw [PSt.isthmusref7_Settings.l1, s44_len, if_pos (by omega), if_pos rfl, if_pos (by omega), if_pos (by omega), if_pos (by omega), e, rd_s44 (by omega), rd_s44 hi]
    by_cases hq : (ss.getD j (0, 0)).1 = (ss.getD i (0, 0)).1
    · obtain ⟨k, rfl⟩ : ∃ m, k = m + 1 := ⟨k - 1, by omega⟩
      rw [show ((ss.getD j (0, 0)).1 != (ss.getD i (0, 0)).1) = false by simp only [bne_eq_false_iff_eq]; exact hq, inner_no ss hn x3 i (j + 1) k hi (by omega), isL_no hij (by omega) hq]
      exact ⟨k, by omega, by rw [if_neg (by simp)]⟩
    · rw [show ((ss.getD j (0, 0)).1 != (ss.getD i (0, 0)).1) = true by simp only [bne_iff_ne, ne_eq]; exact hq]
      obtain ⟨k', h1, h2⟩ := inner ss hn x3 hx i hi d (j + 1) k (by omega) (by omega) (by omega) (fun m h1 h2 => by
        by_cases hmj : m = j
        · subst hmj; exact hq
        · exact hm m h1 (by omega))
      exact ⟨k', by omega, h2⟩
theorem outer (ss : List (Int × Int)) (hn : ss.length ≤ 1000) : ∀ (d i k : Nat), i + d = ss.length → (d + 1) * (ss.length + 5) ≤ k → PSt.isthmusref7_Settings.l0 k (s44 ss) (idx ss ss.length i) i = some (idx ss ss.length ss.length)
  | 0, i, k, hi, hk => by
    obtain ⟨k, rfl⟩ : ∃ m, k = m + 1 := ⟨k - 1, by omega⟩
    rw [PSt.isthmusref7_Settings.l0, s44_len, if_neg (by omega), show i = ss.length by omega]
  | d + 1, i, k, hi, hk => by
    have hk2 : (d + 1) * (ss.length + 5) + (ss.length + 5) ≤ k := by
      have : (d + 1 + 1) * (ss.length + 5) = (d + 1) * (ss.length + 5) + (ss.length + 5) := Nat.succ_mul _ _
      omega
    obtain ⟨k, rfl⟩ : ∃ m, k = m + 1 := ⟨k - 1, by omega⟩
    have e : wrap64 ((i : Int) + 1) = ((i + 1 : Nat) : Int) := by unfold wrap64; omega
    rw [PSt.isthmusref7_Settings.l0, s44_len, if_pos (by omega), e]
    obtain ⟨k', h1, h2⟩ := inner ss hn (idx ss ss.length i) (by have := idx_len ss ss.length i; omega) i (by omega) d (i + 1) k (by omega) (by omega) (by omega) (fun m h1 h2 => absurd h1 (by omega))
    rw [h2]
    exact outer ss hn d (i + 1) k' (by omega) (by omega)
theorem rsettings_f (ss : List (Int × Int)) (hn : ss.length ≤ 1000) : PSt.isthmusref7_Settings.f ((ss.length + 1) * (ss.length + 5)) (s44 ss) = some (idx ss ss.length ss.length) := by
  unfold PSt.isthmusref7_Settings.f
  exact outer ss hn ss.length 0 _ (by omega) (Nat.le_refl _)
end Go.Proofs.Ytbngoaonkhcciaa
