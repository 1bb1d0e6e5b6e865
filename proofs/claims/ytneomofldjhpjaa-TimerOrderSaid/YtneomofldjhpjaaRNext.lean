/- timer: the reference's next. -/
import Derived.Test.YtneomofldjhpjaaCtr
set_option linter.all false
namespace Go.Proofs.Ytneomofldjhpjaa
open Go.ChangeShapes Go.WideShapes Go.ChangeAt Go.RowKit
attribute [local go_sem] setCell_drewN alloc_drewN
theorem drewN_add (w : World) (m n : Nat) : (w.drewN m).drewN n = w.drewN (m + n) := by simp [World.drewN, Nat.add_assoc]
set_option maxRecDepth 100000 in
set_option maxHeartbeats 4000000 in
theorem rnext_ (D : List Int) (but : List Bool) (b : Nat) (w : World) (hD : OkD D) (hb : but.length = 6) (bd : Blk w b 54 (encR D).toArray) (O : Option Addr) (oc : Nat) (ro : Reads w w.heap.size 1 O 6 (but.map (Value.bool ·))) (R : Nat) (hR : nextF D but 5 0 = R) :
    Calls Try.prog 27 #[.pointer (some ⟨b, 0, none⟩), .slice O 6 oc] w fun e w' => e = .returned (.tuple #[.int .i64 R, .int .i64 (atF D R), .bool (decide (0 < (R : Int)))]) ∧ (∃ m, w' = w.drewN m) ∧ R ≤ 5 := by
  have HR0 : Hid (nextF D but (6 - 1) 0 = R) := Lib.hid hR
  clear hR
  go_enter Try.func27, Try.ntmps27
  go_wp2
  obtain ⟨ob, oo, rfl, hob, hoc⟩ := ro.plain (by omega) (by omega)
  go_loopw [7, 8] (fun vb vk wr => ∃ (k best m : Nat), vk = .int .i64 k ∧ vb = .int .i64 best ∧ 1 ≤ k ∧ k ≤ 6 ∧ best ≤ 5 ∧ (best = 0 ∨ 0 ≤ D.getD best (-1)) ∧ Hid (nextF D but (6 - k) best = R) ∧ wr = w.drewN m) (fun _ vk _ => 6 - (intOf vk).toNat)
  case atStart => exact ⟨1, 0, 0, rfl, rfl, by omega, by omega, by omega, .inl rfl, HR0, rfl⟩
  case round =>
    obtain ⟨k, best, m, rfl, rfl, hk1, hk, hbst, hbo, HR, rfl⟩ := hrel
    by_cases hk5 : k ≤ 5
    · have c0 := cellR hD bd hk5
      have c2 : w.cell? ⟨ob, oo + k, none⟩ = some (.bool (but.getD k false)) := hoc k _ (by have : k < but.length := (by omega); simp [List.getD_eq_getElem?_getD, this])
      have c3 := cellR hD bd hbst
      have hs := HR.out
      rw [nextF_step hk5] at hs
      have d1 := hD.all k
      have d2 := hD.all best
      obtain ⟨dk, hdk⟩ : ∃ dk, dk = D.getD k (-1) := ⟨_, rfl⟩
      obtain ⟨db, hdb⟩ : ∃ db, db = D.getD best (-1) := ⟨_, rfl⟩
      obtain ⟨bk, hbk⟩ : ∃ bk, bk = but.getD k false := ⟨_, rfl⟩
      rw [← hdk] at c0 hs d1
      rw [← hdb] at hs d2 c3 hbo
      rw [← hbk] at c2 hs
      have Hdk := Lib.hid hdk
      have Hdb := Lib.hid hdb
      clear hdk hdb hbk HR HR0 hD bd hoc ro
      have k0 : (0 : Int) ≤ (k : Int) := by omega
      have k6 : (k : Int) < 6 := by omega
      have k5 : (k : Int) ≤ 5 := by omega
      have b0 : (0 : Int) ≤ (best : Int) := by omega
      have b6 : (best : Int) < 6 := by omega
      by_cases h1 : 0 ≤ dk
      · cases bk with
        | true =>
          rw [if_neg (by simp)] at hs
          have HS := Lib.hid hs
          clear hs
          go_wp2
          go_quiet (fail)
          go_wp2
          go_roundw
          case rel => exact ⟨k + 1, best, _, by go_num, rfl, by omega, by omega, by omega, by rw [← Hdb.out]; exact hbo, HS, rfl⟩
          case measure => simp [intOf]; omega
        | false =>
          by_cases hz : best = 0
          · rw [if_pos ⟨h1, rfl, .inl hz⟩] at hs
            have HS := Lib.hid hs
            have hz' : ((best : Int) == 0) = true := by simp [hz]
            have h1' := Lib.hid h1
            clear hs hz
            go_wp2
            go_quiet (fail)
            go_wp2
            go_roundw
            case rel => exact ⟨k + 1, k, _, by go_num, rfl, by omega, by omega, by omega, .inr (by rw [← Hdk.out]; exact h1'.out), HS, rfl⟩
            case measure => simp [intOf]; omega
          · have hz' : ((best : Int) == 0) = false := by simp; omega
            have hbo' := hbo.resolve_left hz
            by_cases hl : dk < db
            · rw [if_pos ⟨h1, rfl, .inr hl⟩] at hs
              have HS := Lib.hid hs
              have h1' := Lib.hid h1
              clear hs hz hbo hbo'
              go_wp2
              go_quiet (fail)
              go_wp2
              go_roundw
              case rel => exact ⟨k + 1, k, _, by go_num, rfl, by omega, by omega, by omega, .inr (by rw [← Hdk.out]; exact h1'.out), HS, rfl⟩
              case measure => simp [intOf]; omega
            · have hl' : ¬ (best = 0 ∨ dk < db) := by omega
              rw [if_neg (fun h => hl' h.2.2)] at hs
              have HS := Lib.hid hs
              have hl2 : decide (dk < db) = false := by simpa using hl
              have hbo' := Lib.hid hbo'
              clear hs hz hbo hl'
              go_wp2
              go_quiet (fail)
              go_wp2
              go_roundw
              case rel => exact ⟨k + 1, best, _, by go_num, rfl, by omega, by omega, by omega, .inr (by rw [← Hdb.out]; exact hbo'.out), HS, rfl⟩
              case measure => simp [intOf]; omega
      · rw [if_neg (fun h => h1 h.1)] at hs
        have h1d : decide (0 ≤ dk) = false := by simpa using h1
        have HS := Lib.hid hs
        clear hs
        go_wp2
        go_quiet (fail)
        go_wp2
        go_roundw
        case rel => exact ⟨k + 1, best, _, by go_num, rfl, by omega, by omega, by omega, by rw [← Hdb.out]; exact hbo, HS, rfl⟩
        case measure => simp [intOf]; omega
    · have c3 := cellR hD bd hbst
      have h5 := HR.out
      rw [show 6 - k = 0 by omega] at h5
      simp only [nextF] at h5
      have b0 : (0 : Int) ≤ (best : Int) := by omega
      have b6 : (best : Int) < 6 := by omega
      have hk' : ¬ (k : Int) ≤ 5 := by omega
      have H5 := Lib.hid h5
      have hat : best ≠ 0 → atF D best = D.getD best (-1) := fun h => by unfold atF; rw [if_neg (by have := hbo.resolve_left h; omega)]
      have hat0 : best = 0 → atF D best = 0 := fun h => by unfold atF; rw [if_pos (by rw [h, hD.zero]; decide)]
      obtain ⟨db, hdb⟩ : ∃ db, db = D.getD best (-1) := ⟨_, rfl⟩
      rw [← hdb] at c3 hat
      clear h5 HR HR0 hbo hdb
      by_cases hz : best = 0
      · have hz' : ((best : Int) == 0) = true := by simp [hz]
        have Hz := Lib.hid hz
        clear hz
        go_wp2
        go_ret3
        have e := H5.out
        have e0 := Hz.out
        refine ⟨ret_nx (by rw [← e]; exact e0.symm) (by rw [← e]; exact (hat0 e0).symm) (by rw [← e, e0]; rfl), ⟨_, rfl⟩, by omega⟩
      · have hz' : ((best : Int) == 0) = false := by simp; omega
        have Hz := Lib.hid hz
        clear hz
        go_wp2
        go_quiet (fail)
        go_wp2
        go_ret3
        have e := H5.out
        have e0 := Hz.out
        exact ⟨ret_nx e (by rw [← e]; exact (hat e0).symm) (by rw [← e]; have : 0 < best := (by omega); simp; omega), ⟨m + _, drewN_add _ _ _⟩, by omega⟩
end Go.Proofs.Ytneomofldjhpjaa
