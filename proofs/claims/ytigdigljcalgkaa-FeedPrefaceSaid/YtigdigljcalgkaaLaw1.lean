/- feed: FeedPreface. -/
import Derived.Test.YtigdigljcalgkaaBegun
set_option linter.all false
namespace Go.Proofs.Ytigdigljcalgkaa
open Go.ChangeShapes Go.WideShapes Go.ChangeAt Go.RowKit Go.Proofs.YtigdigljcalgkaaW.PrintWords
attribute [local go_sem] setCell_drewN alloc_drewN Oper.semAt_some
theorem pf_len : pfB.length = 24 := rfl
theorem pf_index (w : World) (k : Nat) (hk : k < 24) : (Instr.index 9 (.string ⟨#[80, 82, 73, 32, 42, 32, 72, 84, 84, 80, 47, 50, 46, 48, 13, 10, 13, 10, 83, 77, 13, 10, 13, 10]⟩) (.int .i64 k)).run Try.prog w = .ok (.int .u8 (pfB.getD k 0).toNat) w := by
  rw [run_index_string (h := Try.underlying9)]
  rw [dif_pos ⟨by omega, by show (k : Int) < 24; omega⟩]
  congr 3
  have : ∀ m : Nat, m < 24 → (ByteArray.mk #[80, 82, 73, 32, 42, 32, 72, 84, 84, 80, 47, 50, 46, 48, 13, 10, 13, 10, 83, 77, 13, 10, 13, 10])[m]? = some (pfB.getD m 0) := by decide
  have h := this k hk
  have h2 := getElem?_eq_some_iff.1 h
  obtain ⟨_, h2⟩ := h2
  exact congrArg UInt8.toNat h2
set_option maxRecDepth 100000 in
set_option maxHeartbeats 4000000 in
theorem feedPreface (w : World) (k : Int) (hk : (Lit.int .i64 k).wf = true) (c : Int) (hc : (Lit.int .u8 c).wf = true) : Calls Try.prog 6 #[.int .i64 k, .int .u8 c] w fun e w' => e = .returned (.bool true) ∧ Below w.heap.size w w' := by
  go_enter Try.func6, Try.ntmps6
  go_wp2_with (fail)
  refine (begun _).mono ?_
  rintro e w1 ⟨rfl, B1⟩
  have K1 := Lib.hid (Keep.of_below B1)
  have s1 := B1.size
  clear B1
  go_wp2_with (fail)
  refine (newX _ true 16384 (by omega) (by omega)).mono ?_
  rintro e w2 ⟨rfl, hX2, k2⟩
  obtain ⟨fb, hfb⟩ : ∃ fb, fb = w1.heap.size := ⟨_, rfl⟩
  rw [← hfb] at hX2 s1 ⊢
  have K2 := Lib.hid (K1.out.trans k2)
  clear hfb k2 K1
  by_cases hin : 0 ≤ k ∧ k < 24
  · obtain ⟨n, rfl⟩ : ∃ n : Nat, k = n := ⟨k.toNat, by omega⟩
    have hn : n < 24 := by omega
    obtain ⟨cb, rfl⟩ : ∃ cb : UInt8, c = cb.toNat := ⟨UInt8.ofNat c.toNat, by have := in_u8 hc; rw [UInt8.toNat_ofNat']; omega⟩
    have q1 : decide ((n : Int) < 0) = false := by rw [decide_eq_false_iff_not]; omega
    have q2 : decide ((24 : Int) ≤ (n : Int)) = false := by rw [decide_eq_false_iff_not]; omega
    obtain ⟨b, hb⟩ : ∃ b, b = pfB.getD n 0 := ⟨_, rfl⟩
    have kix := fun w => pf_index w n hn
    rw [← hb] at kix
    clear hin hk hc
    by_cases heq : b = cb
    · have q3 : ((b.toNat : Int) == (cb.toNat : Int)) = true := by rw [beq_iff_eq, heq]
      clear hb heq
      go_wp2_with (fail)
      go_ret
      exact ⟨rfl, K2.out.below (Nat.le_refl _) (by simp)⟩
    · have q3 : ((b.toNat : Int) == (cb.toNat : Int)) = false := by
        rw [beq_eq_false_iff_ne]; intro h; exact heq (UInt8.toNat_inj.1 (by omega))
      have HB := Lib.hid hb
      have HQ := Lib.hid heq
      have hex : (ByteArray.mk #[80, 82, 73, 32, 42, 32, 72, 84, 84, 80, 47, 50, 46, 48, 13, 10, 13, 10, 83, 77, 13, 10, 13, 10]).extract 0 n = ⟨(pfB.take n).toArray⟩ := ext_bytes pfB n
      have z1 : (n : Int) ≤ 24 := by omega
      have z2 : (0 : Int) ≤ (n : Int) := by omega
      obtain ⟨cap, w3, hcv, hrd, k3⟩ := bytes_of w2 (pfB.take n)
      have hln : (pfB.take n).length = n := by rw [List.length_take, pf_len]; omega
      rw [hln] at hcv hrd
      have Hln := Lib.hid hln
      clear hb heq hln
      go_wp2_with (fail)
      refine (putX (hX2.keep k3 (by simp)) (by have := k3.size; have := hX2.lt; omega) hrd (by simp; omega)).mono ?_
      rintro e w4 ⟨rfl, hX4, gs, k4, hg⟩
      rw [List.nil_append] at hX4
      have K4 := Lib.hid ((K2.out.trans k3).step k4 (fun g hm => by have := hg.ge (Nat.le_refl _) g hm; right; omega))
      clear k4 hg gs hX2 k3 hrd hcv kix hex K2
      go_wp2_with (fail)
      refine (preX hX4 (.inr (by have := Hln.out; omega)) (by have := Hln.out; omega)).mono ?_
      rintro e w5 ⟨rfl, hp, k5⟩
      have hX5 : FdX w5 fb fb true 16384 (pfB.take n) 0 := by
        rcases hp with ⟨_, h⟩ | ⟨h, _⟩
        · exact h
        · exfalso
          refine h ?_
          rw [Hln.out, List.take_take]
          congr 1
          omega
      have K5 := Lib.hid (K4.out.step k5 (by simp; omega))
      clear hp k5 hX4 K4
      unfold zeroF
      go_wp2_with (fail)
      have hX6 := hX5.alloc (.cells #[.int .i64 0, .int .i64 0, .int .i64 0, .slice none 0 0] 27)
      have K6 := Lib.hid (K5.out.alloc (.cells #[.int .i64 0, .int .i64 0, .int .i64 0, .slice none 0 0] 27))
      obtain ⟨w6, hw6⟩ : ∃ w6, w6 = w5.alloc (.cells #[.int .i64 0, .int .i64 0, .int .i64 0, .slice none 0 0] 27) := ⟨_, rfl⟩
      rw [← hw6] at hX6 K6 ⊢
      clear hw6 hX5 K5
      refine (codeX hX6).mono ?_
      rintro e w6' ⟨rfl, rfl⟩
      go_wp2_with (fail)
      refine (heldX hX6).mono ?_
      rintro e w6' ⟨rfl, rfl⟩
      rw [Hln.out]
      go_wp2_with (fail)
      have kA : Keep [] w6 (w6.alloc (.cells #[.int .u8 cb.toNat] 5)) := (Keep.refl _ _).alloc _
      have rd1 : Reads (w6.alloc (.cells #[.int .u8 cb.toNat] 5)) (w6.heap.size + 1) 1 (some ⟨w6.heap.size, 0, none⟩) 1 (encB [cb]) := reads_w _ _ _ _ rfl rfl
      refine (putX (hX6.alloc _) (by have := hX6.lt; simp; omega) rd1 (by have := Hln.out; omega)).mono ?_
      rintro e w7 ⟨rfl, hX7, gs, k7, hg⟩
      have K7 := Lib.hid ((K6.out.trans kA).step k7 (fun g hm => by have := hg.ge (Nat.le_refl _) g hm; right; omega))
      clear k7 hg gs hX6 kA rd1 K6
      have hne : (pfB.take n ++ [cb]).take 24 ≠ pfB.take (pfB.take n ++ [cb]).length := by
        intro h
        have hl : (pfB.take n ++ [cb]).length = n + 1 := by rw [List.length_append, Hln.out]; rfl
        rw [hl, List.take_of_length_le (by omega)] at h
        have h2 := congrArg (fun l => l.getD n 0) h
        simp only [List.getD_eq_getElem?_getD] at h2
        rw [List.getElem?_append_right (by have := Hln.out; omega), List.getElem?_take, if_pos (by omega)] at h2
        have := HB.out
        rw [List.getD_eq_getElem?_getD, ← h2, Hln.out] at this
        simp at this
        exact HQ.out this
      go_wp2_with (fail)
      refine (preX hX7 (.inl hne) (by simp; have := Hln.out; omega)).mono ?_
      rintro e w8 ⟨rfl, hp, k8⟩
      have hX8 : FdX w8 fb fb true 16384 [] 1 := by
        rcases hp with ⟨h, _⟩ | ⟨_, h⟩
        · exact absurd h hne
        · exact h
      have K8 := Lib.hid (K7.out.step k8 (by simp; omega))
      clear hp k8 hX7 K7 hne
      unfold zeroF
      go_wp2_with (fail)
      have hX9 := hX8.alloc (.cells #[.int .i64 0, .int .i64 0, .int .i64 0, .slice none 0 0] 27)
      have K9 := Lib.hid (K8.out.alloc (.cells #[.int .i64 0, .int .i64 0, .int .i64 0, .slice none 0 0] 27))
      obtain ⟨w9, hw9⟩ : ∃ w9, w9 = w8.alloc (.cells #[.int .i64 0, .int .i64 0, .int .i64 0, .slice none 0 0] 27) := ⟨_, rfl⟩
      rw [← hw9] at hX9 K9 ⊢
      clear hw9 hX8 K8
      refine (codeX hX9).mono ?_
      rintro e w9' ⟨rfl, rfl⟩
      go_wp2_with (fail)
      refine (heldX hX9).mono ?_
      rintro e w9' ⟨rfl, rfl⟩
      go_wp2_with (fail)
      go_ret
      exact ⟨by simp, K9.out.below (Nat.le_refl _) (by simp)⟩
  · have q : k < 0 ∨ 24 ≤ k := by omega
    clear hin
    rcases q with q | q
    · go_wp2_with (fail)
      go_ret
      exact ⟨rfl, K2.out.below (Nat.le_refl _) (by simp)⟩
    · have q1 : ¬ k < 0 := by omega
      go_wp2_with (fail)
      go_ret
      exact ⟨rfl, K2.out.below (Nat.le_refl _) (by simp)⟩
end Go.Proofs.Ytigdigljcalgkaa
