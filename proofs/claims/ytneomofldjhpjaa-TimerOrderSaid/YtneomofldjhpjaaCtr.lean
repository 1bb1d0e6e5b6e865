/- timer: what the methods of a set (the program's and the reference's) come to. -/
import Derived.Test.YtneomofldjhpjaaRng2
set_option linter.all false
namespace Go.Proofs.Ytneomofldjhpjaa
open Go.ChangeShapes Go.WideShapes Go.ChangeAt Go.RowKit
attribute [local go_sem] setCell_drewN alloc_drewN
/-- the program's cells, and the reference's, of deadlines D (-1: none) -/
def encP (D : List Int) : List Value := D.flatMap fun x => [.int .i64 (if x < 0 then 0 else x), .bool (decide (0 ≤ x))]
def encR (D : List Int) : List Value := D.map (Value.int .i64 ·)
theorem encP_len (D : List Int) : (encP D).length = D.length * 2 := by
  induction D with
  | nil => rfl
  | cons x xs ih => simp [encP] at *; omega
theorem encP_get (D : List Int) : ∀ (k : Nat) (h : k < D.length), (encP D)[k * 2]? = some (.int .i64 (if D[k] < 0 then 0 else D[k])) ∧ (encP D)[k * 2 + 1]? = some (.bool (decide (0 ≤ D[k]))) := by
  induction D with
  | nil => intro k h; simp at h
  | cons x xs ih =>
    intro k h
    cases k with
    | zero => exact ⟨rfl, rfl⟩
    | succ k =>
      have := ih k (by simpa using h)
      rw [show (k + 1) * 2 = k * 2 + 2 by omega]
      exact this
theorem encP_set (D : List Int) : ∀ (k : Nat) (x : Int), ((encP D).set (k * 2) (.int .i64 (if x < 0 then 0 else x))).set (k * 2 + 1) (.bool (decide (0 ≤ x))) = encP (D.set k x) := by
  induction D with
  | nil => intro k x; simp [encP]
  | cons y ys ih =>
    intro k x
    cases k with
    | zero => simp [encP]
    | succ k =>
      rw [show (k + 1) * 2 = k * 2 + 2 by omega]
      have := ih k x
      simp only [encP, List.flatMap_cons, List.set_cons_succ, List.cons_append, List.nil_append] at this ⊢
      rw [this]
structure OkD (D : List Int) : Prop where
  len : D.length = 6
  zero : D.getD 0 (-1) = -1
  all : ∀ k, -1 ≤ D.getD k (-1) ∧ D.getD k (-1) ≤ 1099511627776
def nextF (D : List Int) (but : List Bool) : Nat → Nat → Nat
  | 0, best => best
  | f + 1, best => nextF D but f (if 0 ≤ D.getD (5 - f) (-1) ∧ but.getD (5 - f) false = false ∧ (best = 0 ∨ D.getD (5 - f) (-1) < D.getD best (-1)) then 5 - f else best)
theorem nextF_step {D : List Int} {but : List Bool} {k best : Nat} (h : k ≤ 5) :
    nextF D but (6 - k) best = nextF D but (6 - (k + 1)) (if 0 ≤ D.getD k (-1) ∧ but.getD k false = false ∧ (best = 0 ∨ D.getD k (-1) < D.getD best (-1)) then k else best) := by
  obtain ⟨f, hf⟩ : ∃ f, 6 - k = f + 1 := ⟨5 - k, by omega⟩
  have h1 : 6 - (k + 1) = f := by omega
  have h2 : 5 - f = k := by omega
  rw [hf, h1]
  simp only [nextF, h2]
def atF (D : List Int) (R : Nat) : Int := if D.getD R (-1) < 0 then 0 else D.getD R (-1)
theorem cellP {D : List Int} {w : World} {b : Nat} (hD : OkD D) (bd : Blk w b 51 (encP D).toArray) {k : Nat} (hk : k ≤ 5) :
    w.cell? ⟨b, k * 2, none⟩ = some (.int .i64 (atF D k)) ∧ w.cell? ⟨b, k * 2 + 1, none⟩ = some (.bool (decide (0 ≤ D.getD k (-1)))) := by
  have hl : k < D.length := by rw [hD.len]; omega
  have h := encP_get D k hl
  have e : D.getD k (-1) = D[k] := by simp [List.getD_eq_getElem?_getD, hl]
  refine ⟨?_, ?_⟩
  · rw [bd.cell, List.getElem?_toArray, h.1]; unfold atF; rw [e]
  · rw [bd.cell, List.getElem?_toArray, h.2, e]
theorem cellR {D : List Int} {w : World} {b : Nat} (hD : OkD D) (bd : Blk w b 54 (encR D).toArray) {k : Nat} (hk : k ≤ 5) : w.cell? ⟨b, k, none⟩ = some (.int .i64 (D.getD k (-1))) := by
  have hl : k < D.length := by rw [hD.len]; omega
  rw [bd.cell, List.getElem?_toArray, encR, List.getElem?_map, List.getElem?_eq_getElem hl]
  simp [List.getD_eq_getElem?_getD, hl]
theorem but_cell {but : List Bool} {w : World} {b : Nat} {t : TypeId} (hb : but.length = 6) (bd : Blk w b t (but.map (Value.bool ·)).toArray) {k : Nat} (hk : k ≤ 5) : w.cell? ⟨b, k, none⟩ = some (.bool (but.getD k false)) := by
  have hl : k < but.length := by omega
  rw [bd.cell, List.getElem?_toArray, List.getElem?_map, List.getElem?_eq_getElem hl]
  simp [List.getD_eq_getElem?_getD, hl]
theorem ret_nx {R R' : Nat} {a a' : Int} {o o' : Bool} (h : R = R') (h2 : a = a') (h3 : o = o') : Ending.returned (.tuple #[.int .i64 R, .int .i64 a, .bool o]) = .returned (.tuple #[.int .i64 R', .int .i64 a', .bool o']) := by rw [h, h2, h3]
set_option maxRecDepth 100000 in
set_option maxHeartbeats 4000000 in
theorem next_ (D : List Int) (but : List Bool) (b : Nat) (w : World) (hD : OkD D) (hb : but.length = 6) (bd : Blk w b 51 (encP D).toArray) (R : Nat) (hR : nextF D but 5 0 = R) :
    Calls Try.prog 26 #[.pointer (some ⟨b, 0, none⟩), .agg (but.map (Value.bool ·)).toArray] w fun e w' => e = .returned (.tuple #[.int .i64 R, .int .i64 (atF D R), .bool (decide (0 < (R : Int)))]) ∧ Below w.heap.size w w' ∧ R ≤ 5 := by
  have HR0 : Hid (nextF D but (6 - 1) 0 = R) := Lib.hid hR
  clear hR
  go_enter Try.func26, Try.ntmps26
  go_wp2
  have bb := Blk.new w 59 (but.map (Value.bool ·)).toArray
  have bd0 := bd.alloc (.cells (but.map (Value.bool ·)).toArray 59)
  have hB0 := (Below.refl w.heap.size w).alloc (Nat.le_refl _) (.cells (but.map (Value.bool ·)).toArray 59)
  obtain ⟨W0, hW0⟩ : ∃ W0, W0 = w.alloc (.cells (but.map (Value.bool ·)).toArray 59) := ⟨_, rfl⟩
  rw [← hW0] at bb bd0 hB0 ⊢
  clear hW0
  go_loopw [7, 8] (fun vb vk wr => ∃ (k best m : Nat), vk = .int .i64 k ∧ vb = .int .i64 best ∧ 1 ≤ k ∧ k ≤ 6 ∧ best ≤ 5 ∧ (best = 0 ∨ 0 ≤ D.getD best (-1)) ∧ Hid (nextF D but (6 - k) best = R) ∧ wr = W0.drewN m) (fun _ vk _ => 6 - (intOf vk).toNat)
  case atStart => exact ⟨1, 0, 0, rfl, rfl, by omega, by omega, by omega, .inl rfl, HR0, rfl⟩
  case round =>
    obtain ⟨k, best, m, rfl, rfl, hk1, hk, hbst, hbo, HR, rfl⟩ := hrel
    by_cases hk5 : k ≤ 5
    · obtain ⟨c0, c1⟩ := cellP hD bd0 hk5
      have c2 := but_cell hb bb hk5
      obtain ⟨c3, c4⟩ := cellP hD bd0 hbst
      have hs := HR.out
      rw [nextF_step hk5] at hs
      have d1 := hD.all k
      have d2 := hD.all best
      obtain ⟨dk, hdk⟩ : ∃ dk, dk = D.getD k (-1) := ⟨_, rfl⟩
      obtain ⟨db, hdb⟩ : ∃ db, db = D.getD best (-1) := ⟨_, rfl⟩
      obtain ⟨bk, hbk⟩ : ∃ bk, bk = but.getD k false := ⟨_, rfl⟩
      have hat : atF D k = if dk < 0 then 0 else dk := by rw [hdk]; rfl
      have hat2 : atF D best = if db < 0 then 0 else db := by rw [hdb]; rfl
      rw [hat] at c0
      rw [hat2] at c3
      rw [← hdk] at c1 hs d1
      rw [← hdb] at hs d2 c4 hbo
      rw [← hbk] at c2 hs
      have Hdk := Lib.hid hdk
      have Hdb := Lib.hid hdb
      clear hdk hdb hbk hat hat2 HR HR0 hD bd0 bb bd
      have k0 : (0 : Int) ≤ (k : Int) := by omega
      have k6 : (k : Int) < 6 := by omega
      have k5 : (k : Int) ≤ 5 := by omega
      have b0 : (0 : Int) ≤ (best : Int) := by omega
      have b6 : (best : Int) < 6 := by omega
      by_cases h1 : 0 ≤ dk
      · rw [decide_eq_true h1] at c1
        rw [if_neg (by omega)] at c0
        cases bk with
        | true =>
          rw [if_neg (by simp)] at hs
          have HS := Lib.hid hs
          clear hs h1
          go_wp2
          go_quiet (fail)
          go_wp2
          go_roundw
          case rel => exact ⟨k + 1, best, _, by go_num, rfl, by omega, by omega, by omega, by rw [← Hdb.out]; exact hbo, HS, rfl⟩
          case measure => simp [intOf]; omega
        | false =>
          by_cases hz : best = 0
          · rw [if_pos ⟨h1, rfl, .inl hz⟩] at hs
            have HS := Lib.hid hs
            have hz' : ((best : Int) == 0) = true := by simp [hz]
            have h1' := Lib.hid h1
            clear hs hz h1
            go_wp2
            go_quiet (fail)
            go_wp2
            go_roundw
            case rel => exact ⟨k + 1, k, _, by go_num, rfl, by omega, by omega, by omega, .inr (by rw [← Hdk.out]; exact h1'.out), HS, rfl⟩
            case measure => simp [intOf]; omega
          · have hz' : ((best : Int) == 0) = false := by simp; omega
            have hbo' := hbo.resolve_left hz
            rw [if_neg (by omega)] at c3
            by_cases hl : dk < db
            · rw [if_pos ⟨h1, rfl, .inr hl⟩] at hs
              have HS := Lib.hid hs
              have h1' := Lib.hid h1
              clear hs hz h1 hbo hbo'
              go_wp2
              go_quiet (fail)
              go_wp2
              go_roundw
              case rel => exact ⟨k + 1, k, _, by go_num, rfl, by omega, by omega, by omega, .inr (by rw [← Hdk.out]; exact h1'.out), HS, rfl⟩
              case measure => simp [intOf]; omega
            · have hl' : ¬ (best = 0 ∨ dk < db) := by omega
              rw [if_neg (fun h => hl' h.2.2)] at hs
              have HS := Lib.hid hs
              have hl2 : decide (dk < db) = false := by simpa using hl
              have hbo' := Lib.hid hbo'
              clear hs hz h1 hbo hl'
              go_wp2
              go_quiet (fail)
              go_wp2
              go_roundw
              case rel => exact ⟨k + 1, best, _, by go_num, rfl, by omega, by omega, by omega, .inr (by rw [← Hdb.out]; exact hbo'.out), HS, rfl⟩
              case measure => simp [intOf]; omega
      · rw [decide_eq_false h1] at c1
        rw [if_neg (fun h => h1 h.1)] at hs
        have HS := Lib.hid hs
        clear hs h1
        go_wp2
        go_quiet (fail)
        go_wp2
        go_roundw
        case rel => exact ⟨k + 1, best, _, by go_num, rfl, by omega, by omega, by omega, by rw [← Hdb.out]; exact hbo, HS, rfl⟩
        case measure => simp [intOf]; omega
    · obtain ⟨c3, c4⟩ := cellP hD bd0 hbst
      have h5 := HR.out
      rw [show 6 - k = 0 by omega] at h5
      simp only [nextF] at h5
      have b0 : (0 : Int) ≤ (best : Int) := by omega
      have b6 : (best : Int) < 6 := by omega
      have hk' : ¬ (k : Int) ≤ 5 := by omega
      have H5 := Lib.hid h5
      clear h5 HR HR0 hbo
      go_wp2
      go_quiet (fail)
      go_wp2
      go_ret3
      exact ⟨ret_nx H5.out (by rw [H5.out]) (by rw [H5.out]; first | rfl | simp), below_drewN (below_drewN hB0 _) _, by rw [← H5.out]; exact hbst⟩
end Go.Proofs.Ytneomofldjhpjaa
