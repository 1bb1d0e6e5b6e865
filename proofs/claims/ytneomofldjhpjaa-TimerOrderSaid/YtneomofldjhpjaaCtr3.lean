/- timer: At, Next, New of the reference, the reference's Due. -/
import Derived.Test.YtneomofldjhpjaaCtr2
set_option linter.all false
namespace Go.Proofs.Ytneomofldjhpjaa
open Go.ChangeShapes Go.WideShapes Go.ChangeAt Go.RowKit
attribute [local go_sem] setCell_drewN alloc_drewN
theorem ret_ib {a a' : Int} {o o' : Bool} (h2 : a = a') (h3 : o = o') : Ending.returned (.tuple #[.int .i64 a, .bool o]) = .returned (.tuple #[.int .i64 a', .bool o']) := by rw [h2, h3]
section
variable (w : World) {D : List Int} {b : Nat}
theorem at_yes (hD : OkD D) (bd : Blk w b 51 (encP D).toArray) {k : Nat} (h1 : 1 ≤ k) (h5 : k ≤ 5) :
    Calls Try.prog 19 #[.pointer (some ⟨b, 0, none⟩), .int .i64 k] w fun e w' => e = .returned (.tuple #[.int .i64 (atF D k), .bool (decide (0 ≤ D.getD k (-1)))]) ∧ ∃ m, w' = w.drewN m := by
  obtain ⟨c0, c1⟩ := cellP hD bd h5
  have k1 : (1 : Int) ≤ (k : Int) := by omega
  have k5 : (k : Int) ≤ 5 := by omega
  have k0 : (0 : Int) ≤ (k : Int) := by omega
  have k6 : (k : Int) < 6 := by omega
  obtain ⟨v, hv⟩ : ∃ v, v = atF D k := ⟨_, rfl⟩
  rw [← hv] at c0 ⊢
  obtain ⟨u, hu⟩ : ∃ u, u = decide (0 ≤ D.getD k (-1)) := ⟨_, rfl⟩
  rw [← hu] at c1 ⊢
  clear hv hu hD
  go_enter Try.func19, Try.ntmps19
  go_wp2_with (go_at_call 20; refine (kind_yes _ k1 k5).mono ?_; rintro e w' ⟨rfl, rfl⟩)
  go_quiet (fail)
  go_wp2
  go_ret2
  exact ⟨rfl, _, rfl⟩
theorem at_no {k : Int} (h : k < 1 ∨ 5 < k) :
    Calls Try.prog 19 #[.pointer (some ⟨b, 0, none⟩), .int .i64 k] w fun e w' => e = .returned (.tuple #[.int .i64 0, .bool false]) ∧ ∃ m, w' = w.drewN m := by
  have hk' := Lib.hid h
  clear h
  go_enter Try.func19, Try.ntmps19
  go_wp2_with (go_at_call 20; refine (kind_no _ hk'.out).mono ?_; rintro e w' ⟨rfl, rfl⟩)
  go_ret2
  exact ⟨rfl, 0, rfl⟩
theorem rat_yes (hD : OkD D) (bd : Blk w b 54 (encR D).toArray) {k : Nat} (h1 : 1 ≤ k) (h5 : k ≤ 5) :
    Calls Try.prog 23 #[.pointer (some ⟨b, 0, none⟩), .int .i64 k] w fun e w' => e = .returned (.tuple #[.int .i64 (atF D k), .bool (decide (0 ≤ D.getD k (-1)))]) ∧ ∃ m, w' = w.drewN m := by
  have c0 := cellR hD bd h5
  have k1 : (1 : Int) ≤ (k : Int) := by omega
  have k5 : (k : Int) ≤ 5 := by omega
  have k0 : (0 : Int) ≤ (k : Int) := by omega
  have k6 : (k : Int) < 6 := by omega
  have ha : atF D k = if D.getD k (-1) < 0 then 0 else D.getD k (-1) := rfl
  rw [ha]
  obtain ⟨v, hv⟩ : ∃ v, v = D.getD k (-1) := ⟨_, rfl⟩
  rw [← hv] at c0 ⊢
  clear hv hD ha
  by_cases hl : v < 0
  · go_enter Try.func23, Try.ntmps23
    go_wp2_with (go_at_call 21; refine (rkind_yes _ k1 k5).mono ?_; rintro e w' ⟨rfl, rfl⟩)
    go_ret2
    exact ⟨ret_ib (by first | rfl | rw [if_pos hl]) (by first | rfl | (simp; omega)), 0, rfl⟩
  · have hl' : 0 ≤ v := by omega
    have hl2 : decide (v < 0) = false := by simpa using hl
    go_enter Try.func23, Try.ntmps23
    go_wp2_with (go_at_call 21; refine (rkind_yes _ k1 k5).mono ?_; rintro e w' ⟨rfl, rfl⟩)
    go_ret2
    exact ⟨ret_ib (by first | rfl | rw [if_neg (by omega)]) (by first | rfl | (simp; omega)), 0, rfl⟩
theorem rat_no {k : Int} (h : k < 1 ∨ 5 < k) :
    Calls Try.prog 23 #[.pointer (some ⟨b, 0, none⟩), .int .i64 k] w fun e w' => e = .returned (.tuple #[.int .i64 0, .bool false]) ∧ ∃ m, w' = w.drewN m := by
  have hk' := Lib.hid h
  clear h
  go_enter Try.func23, Try.ntmps23
  go_wp2_with (go_at_call 21; refine (rkind_no _ hk'.out).mono ?_; rintro e w' ⟨rfl, rfl⟩)
  go_ret2
  exact ⟨rfl, 0, rfl⟩
def noBut : List Bool := [false, false, false, false, false, false]
theorem nxt (hD : OkD D) (bd : Blk w b 51 (encP D).toArray) :
    Calls Try.prog 18 #[.pointer (some ⟨b, 0, none⟩)] w fun e w' => e = .returned (.tuple #[.int .i64 (nextF D noBut 5 0), .int .i64 (atF D (nextF D noBut 5 0)), .bool (decide (0 < ((nextF D noBut 5 0 : Nat) : Int)))]) ∧ Below w.heap.size w w' ∧ nextF D noBut 5 0 ≤ 5 := by
  have h := next_ D noBut b w hD rfl bd _ rfl
  obtain ⟨R, hR⟩ : ∃ R, R = nextF D noBut 5 0 := ⟨_, rfl⟩
  rw [← hR] at h ⊢
  have h : Calls Try.prog 26 #[.pointer (some ⟨b, 0, none⟩), .agg #[.bool false, .bool false, .bool false, .bool false, .bool false, .bool false]] w fun e w' => e = .returned (.tuple #[.int .i64 R, .int .i64 (atF D R), .bool (decide (0 < (R : Int)))]) ∧ Below w.heap.size w w' ∧ R ≤ 5 := h
  clear hR
  go_enter Try.func18, Try.ntmps18
  go_wp2_with (go_at_call 26; refine h.mono ?_; rintro e w1 ⟨rfl, hb, h5⟩)
  go_ret3
  exact ⟨ret_nx rfl rfl (by simp), hb, h5⟩
theorem bool_info : (Try.prog.info? 4).map (fun i => (i.zero, i.size, i.bytes)) = some (some (.bool false), 1, 1) := by kernel_rfl
theorem rnxt (hD : OkD D) (bd : Blk w b 54 (encR D).toArray) :
    Calls Try.prog 24 #[.pointer (some ⟨b, 0, none⟩)] w fun e w' => e = .returned (.tuple #[.int .i64 (nextF D noBut 5 0), .int .i64 (atF D (nextF D noBut 5 0)), .bool (decide (0 < ((nextF D noBut 5 0 : Nat) : Int)))]) ∧ Below w.heap.size w w' := by
  have hmk : ∀ w, (Instr.makeSlice 56 (.int .i64 6) (.int .i64 6)).run Try.prog w = .ok (.slice (some ⟨w.heap.size, 0, none⟩) 6 6) (w.alloc (.cells #[.bool false, .bool false, .bool false, .bool false, .bool false, .bool false] 4)) := fun _ => by kernel_rfl
  have hb := Blk.new w 4 #[.bool false, .bool false, .bool false, .bool false, .bool false, .bool false]
  have ro : Reads (w.alloc (.cells #[.bool false, .bool false, .bool false, .bool false, .bool false, .bool false] 4)) (w.alloc (.cells #[.bool false, .bool false, .bool false, .bool false, .bool false, .bool false] 4)).heap.size 1 (some ⟨w.heap.size, 0, none⟩) 6 (noBut.map (Value.bool ·)) := reads_of_blk (size := 1) (n := 6) hb rfl (by simp [maxLen])
  have h := rnext_ D noBut b (w.alloc (.cells #[.bool false, .bool false, .bool false, .bool false, .bool false, .bool false] 4)) hD rfl (bd.alloc _) _ 6 ro _ rfl
  obtain ⟨R, hR⟩ : ∃ R, R = nextF D noBut 5 0 := ⟨_, rfl⟩
  rw [← hR] at h ⊢
  clear hR hb ro
  go_enter Try.func24, Try.ntmps24
  go_wp2_with (go_at_call 27; refine h.mono ?_; rintro e w1 ⟨rfl, ⟨m, rfl⟩, h5⟩)
  go_ret3
  exact ⟨ret_nx rfl rfl (by simp), below_drewN ((Below.refl _ w).alloc (Nat.le_refl _) _) _⟩
theorem due_ (p : Option Addr) (x : Int) : Calls Try.prog 17 #[.pointer p, .int .i64 x] w fun e w' =>
      e = .returned (.func (.func 25) #[] #[.pointer (some ⟨w.heap.size, 0, none⟩), .pointer (some ⟨w.heap.size + 1, 0, none⟩)]) ∧ w' = (w.alloc (.cells #[.pointer p] 27)).alloc (.cells #[.int .i64 x] 2) := by
  go_enter Try.func17, Try.ntmps17
  go_wp2
  go_ret
  exact ⟨rfl, rfl⟩
theorem rnew : Calls Try.prog 10 #[] w fun e w' => e = .returned (.pointer (some ⟨w.heap.size, 0, none⟩)) ∧ Blk w' w.heap.size 54 (encR [-1, -1, -1, -1, -1, -1]).toArray ∧ Below w.heap.size w w' ∧ w.heap.size < w'.heap.size := by
  go_enter Try.func10, Try.ntmps10
  go_wp2
  have b0 := Blk.new w 54 #[.int .i64 0, .int .i64 0, .int .i64 0, .int .i64 0, .int .i64 0, .int .i64 0]
  have B0 := (Below.refl w.heap.size w).alloc (Nat.le_refl _) (.cells #[.int .i64 0, .int .i64 0, .int .i64 0, .int .i64 0, .int .i64 0, .int .i64 0] 54)
  obtain ⟨W0, hW0⟩ : ∃ W0, W0 = w.alloc (.cells #[.int .i64 0, .int .i64 0, .int .i64 0, .int .i64 0, .int .i64 0, .int .i64 0] 54) := ⟨_, rfl⟩
  rw [← hW0] at b0 B0 ⊢
  clear hW0
  go_loopw [2] (fun vk wr => ∃ k : Nat, vk = .int .i64 k ∧ k ≤ 6 ∧ Blk wr w.heap.size 54 (encR (List.replicate k (-1) ++ List.replicate (6 - k) 0)).toArray ∧ Below w.heap.size w wr) (fun vk _ => 6 - (intOf vk).toNat)
  case atStart => exact ⟨0, rfl, by omega, b0, B0⟩
  case round =>
    obtain ⟨k, rfl, hk, bd, hB⟩ := hrel
    by_cases hlt : k < 6
    · have c0 : wr.cell? ⟨w.heap.size, k, none⟩ = some (.int .i64 0) := by
        rw [bd.cell]
        obtain rfl | rfl | rfl | rfl | rfl | rfl : k = 0 ∨ k = 1 ∨ k = 2 ∨ k = 3 ∨ k = 4 ∨ k = 5 := by omega
        all_goals rfl
      have f0 := bd.frozen k
      have hst : Blk (wr.setCell ⟨w.heap.size, k, none⟩ (.int .i64 (-1))) w.heap.size 54 (encR (List.replicate (k + 1) (-1) ++ List.replicate (6 - (k + 1)) 0)).toArray := by
        have := setR bd k (-1)
        have e : (List.replicate k (-1 : Int) ++ List.replicate (6 - k) 0).set k (-1) = List.replicate (k + 1) (-1) ++ List.replicate (6 - (k + 1)) 0 := by
          obtain rfl | rfl | rfl | rfl | rfl | rfl : k = 0 ∨ k = 1 ∨ k = 2 ∨ k = 3 ∨ k = 4 ∨ k = 5 := by omega
          all_goals rfl
        rw [e] at this
        exact this
      have hst := Lib.hid hst
      have k0 : (0 : Int) ≤ (k : Int) := by omega
      have k6 : (k : Int) < 6 := by omega
      go_wp2
      go_roundw
      case rel => exact ⟨k + 1, by go_num, by omega, hst.out, hB.setCell (p := ⟨w.heap.size, k, none⟩) (Nat.le_refl _) _⟩
      case measure => simp [intOf]; omega
    · have hk6 : k = 6 := by omega
      have hk6 := Lib.hid hk6
      have bd2 : Blk wr w.heap.size 54 (encR [-1, -1, -1, -1, -1, -1]).toArray := by rw [hk6.out] at bd; exact bd
      go_wp2
      go_ret
      exact ⟨rfl, bd2, hB, bd2.lt⟩
end
end Go.Proofs.Ytneomofldjhpjaa
