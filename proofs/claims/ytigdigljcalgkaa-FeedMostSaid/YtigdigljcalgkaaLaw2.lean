/- feed: FeedMost. -/
import Derived.Test.YtigdigljcalgkaaBegun
set_option linter.all false
namespace Go.Proofs.Ytigdigljcalgkaa
open Go.ChangeShapes Go.WideShapes Go.ChangeAt Go.RowKit Go.Proofs.YtigdigljcalgkaaW.PrintWords
attribute [local go_sem] setCell_drewN alloc_drewN Oper.semAt_some
theorem newX_bad (w : World) (asks : Bool) (n : Int) (h : n < 16384 ∨ 16777215 < n) : Calls Try.prog 10 #[.bool asks, .int .i64 n] w fun e w' => e = .returned (.tuple #[.pointer none, .int .i64 1]) ∧ Keep [] w w' := new_bad w asks n h
set_option maxRecDepth 100000 in
set_option maxHeartbeats 4000000 in
theorem feedMost (w : World) (m : Int) (hm : (Lit.int .i64 m).wf = true) (n : Int) (hn : (Lit.int .i64 n).wf = true) (v : Value) (hv : Sl w 1 (fun _ => IsInt .u8) v) : Calls Try.prog 7 #[.int .i64 m, .int .i64 n, v] w fun e w' => e = .returned (.bool true) ∧ Below w.heap.size w w' := by
  obtain ⟨A, l, c, bs, rfl, hlc, hcm, hbl, hr⟩ := reads_of_sl hv
  unfold maxLen at hcm
  have HR := Lib.hid hr
  have HL := Lib.hid hbl
  clear hv hr hbl
  go_enter Try.func7, Try.ntmps7
  go_wp2_with (fail)
  refine (begun _).mono ?_
  rintro e w1 ⟨rfl, B1⟩
  have K1 := Lib.hid (Keep.of_below B1)
  have s1 := B1.size
  clear B1
  go_wp2_with (fail)
  by_cases hbad : m < 16384 ∨ 16777215 < m
  · refine (newX_bad _ _ _ hbad).mono ?_
    rintro e w2 ⟨rfl, k2⟩
    have K2 := Lib.hid (K1.out.trans k2)
    clear hbad k2 K1
    go_wp2_with (fail)
    go_ret
    exact ⟨by simp, K2.out.below (Nat.le_refl _) (by simp)⟩
  refine (newX _ false m (by omega) (by omega)).mono ?_
  rintro e w2 ⟨rfl, hX2, k2⟩
  obtain ⟨fb, hfb⟩ : ∃ fb, fb = w1.heap.size := ⟨_, rfl⟩
  rw [← hfb] at hX2 s1 ⊢
  have K2 := Lib.hid (K1.out.trans k2)
  have hsf : Hid (w.heap.size ≤ fb) := Lib.hid s1
  clear hfb k2 K1
  by_cases hout : n < 0 ∨ 16777215 < n ∨ l < 6
  · clear hbad hcm hlc hm hn s1
    by_cases h1 : n < 0
    · clear hout
      go_wp2_with (fail)
      go_ret
      exact ⟨by simp, K2.out.below (Nat.le_refl _) (by simp)⟩
    by_cases h2 : 16777215 < n
    · clear hout
      go_wp2_with (fail)
      go_ret
      exact ⟨by simp, K2.out.below (Nat.le_refl _) (by simp)⟩
    · have h3 : (l : Int) < 6 := by omega
      clear hout
      go_wp2_with (fail)
      go_ret
      exact ⟨by simp, K2.out.below (Nat.le_refl _) (by simp)⟩
  · obtain ⟨nn, rfl⟩ : ∃ nn : Nat, n = nn := ⟨n.toNat, by omega⟩
    have hnn : nn < 16777216 := by omega
    have hl6 : 6 ≤ l := by omega
    have q1 : ¬ (nn : Int) < 0 := by omega
    have q2 : ¬ (16777215 : Int) < (nn : Int) := by omega
    have q3 : ¬ (l : Int) < 6 := by omega
    have q4 : (6 : Int) ≤ (c : Int) := by omega
    obtain ⟨x2, hx2⟩ : ∃ x : UInt8, x.toNat = nn / 65536 := ⟨UInt8.ofNat (nn / 65536), by rw [UInt8.toNat_ofNat']; omega⟩
    obtain ⟨x1, hx1⟩ : ∃ x : UInt8, x.toNat = nn / 256 % 256 := ⟨UInt8.ofNat (nn / 256 % 256), by rw [UInt8.toNat_ofNat']; omega⟩
    obtain ⟨x0, hx0⟩ : ∃ x : UInt8, x.toNat = nn % 256 := ⟨UInt8.ofNat (nn % 256), by rw [UInt8.toNat_ofNat']; omega⟩
    have e2 : (nn : Int) / 65536 = (x2.toNat : Int) := by omega
    have e1 : (nn : Int) / 256 % 256 = (x1.toNat : Int) := by omega
    have e0 : (nn : Int) % 256 = (x0.toNat : Int) := by omega
    have E2 := Lib.hid e2
    have E1 := Lib.hid e1
    have E0 := Lib.hid e0
    have v1 : Int.tdiv (nn : Int) 65536 = ((nn / 65536 : Nat) : Int) := by rw [Int.tdiv_eq_ediv_of_nonneg (by omega)]; omega
    have v2 : Int.tdiv (nn : Int) 256 = ((nn / 256 : Nat) : Int) := by rw [Int.tdiv_eq_ediv_of_nonneg (by omega)]; omega
    have v3 : Int.tmod ((nn / 256 : Nat) : Int) 256 = ((nn / 256 % 256 : Nat) : Int) := by rw [Int.tmod_eq_emod_of_nonneg (by omega)]; omega
    have v4 : Int.tmod (nn : Int) 256 = ((nn % 256 : Nat) : Int) := by rw [Int.tmod_eq_emod_of_nonneg (by omega)]; omega
    have hnum : Hid (numB [x2, x1, x0] = nn) := Lib.hid (by simp [numB]; omega)
    clear hout hbad hm hn s1 hx2 hx1 hx0 e2 e1 e0
    go_wp2_with (fail)
    rw [E2.out, E1.out, E0.out]
    clear E2 E1 E0
    have kA : Keep [] w2 (w2.alloc (.cells #[.int .u8 x2.toNat, .int .u8 x1.toNat, .int .u8 x0.toNat] 5)) := (Keep.refl _ _).alloc _
    have rd1 : Reads (w2.alloc (.cells #[.int .u8 x2.toNat, .int .u8 x1.toNat, .int .u8 x0.toNat] 5)) (w2.heap.size + 1) 1 (some ⟨w2.heap.size, 0, none⟩) 3 (encB [x2, x1, x0]) := reads_w _ _ _ _ rfl rfl
    refine (putX (hX2.alloc _) (by have := hX2.lt; simp; omega) rd1 (by simp)).mono ?_
    rintro e w3 ⟨rfl, hX3, gs, k3, hg⟩
    rw [List.nil_append] at hX3
    have K3 := Lib.hid ((K2.out.trans kA).step k3 (fun g hm => by have := hg.ge (Nat.le_refl _) g hm; have := hsf.out; right; omega))
    clear k3 hg gs hX2 kA rd1 K2 v1 v2 v3 v4
    go_wp2_with (fail)
    have rd6 := (HR.out.first (m := 6) hl6).keeps K3.out (Nat.le_refl _) (by simp)
    rw [Nat.mul_one, ← encB_take] at rd6
    refine (putX hX3 (by have := hX3.lt; omega) rd6 (by simp)).mono ?_
    rintro e w4 ⟨rfl, hX4, gs, k4, hg⟩
    have K4 := Lib.hid (K3.out.step k4 (fun g hm => by have := hg.ge (Nat.le_refl _) g hm; have := hsf.out; right; omega))
    have hb9 : ([x2, x1, x0] ++ bs.take 6).length = 9 := by rw [List.length_append, List.length_take]; have := HL.out; simp; omega
    have hbl : hlen ([x2, x1, x0] ++ bs.take 6) = nn := by unfold hlen; rw [List.take_append_of_le_length (by simp)]; exact hnum.out
    obtain ⟨bb, hbb⟩ : ∃ bb, bb = [x2, x1, x0] ++ bs.take 6 := ⟨_, rfl⟩
    rw [← hbb] at hX4 hb9 hbl
    clear k4 hg gs hX3 rd6 K3 hbb hnum
    go_wp2_with (fail)
    refine (nextX hX4 (by simp) (by omega) bb rfl).mono ?_
    rintro e w5 ⟨hn, k5⟩
    have K5 := Lib.hid (K4.out.step k5 (by have := hsf.out; simp; omega))
    by_cases hbig : m < (nn : Int)
    · obtain ⟨rfl, hX5⟩ : e = .returned (.tuple #[zeroF, .bool false]) ∧ FdX w5 fb fb false m [] 6 := by
        rcases hn with ⟨_, h, _⟩ | ⟨h1, _, _, h4⟩ | ⟨_, h, _⟩
        · rw [hbl, hb9] at h; omega
        · exact ⟨h1, h4⟩
        · rw [hbl] at h; omega
      clear hn k5 hX4 K4 hb9 hbl
      unfold zeroF
      go_wp2_with (fail)
      have hX6 := hX5.alloc (.cells #[.int .i64 0, .int .i64 0, .int .i64 0, .slice none 0 0] 27)
      have K6 := Lib.hid (K5.out.alloc (.cells #[.int .i64 0, .int .i64 0, .int .i64 0, .slice none 0 0] 27))
      obtain ⟨w6, hw6⟩ : ∃ w6, w6 = w5.alloc (.cells #[.int .i64 0, .int .i64 0, .int .i64 0, .slice none 0 0] 27) := ⟨_, rfl⟩
      rw [← hw6] at hX6 K6 ⊢
      clear hw6 hX5 K5
      refine (codeX hX6).mono ?_
      rintro e w6' ⟨rfl, rfl⟩
      go_wp2_with (fail)
      refine (heldX hX6).mono ?_
      rintro e w6' ⟨rfl, rfl⟩
      go_wp2_with (fail)
      go_ret
      exact ⟨by simp, K6.out.below (Nat.le_refl _) (by simp)⟩
    · -- it is there just where nothing is to come
      obtain ⟨ok, t, f, s, A', n', c', he, hX5, hok⟩ : ∃ (ok : Bool) (t f s : Int) (A' : Option Addr) (n' c' : Nat), e = .returned (.tuple #[.agg #[.int .i64 t, .int .i64 f, .int .i64 s, .slice A' n' c'], .bool ok]) ∧ (∃ ys, FdX w5 fb fb false m ys 0) ∧ ok = decide (nn = 0) := by
        rcases hn with ⟨h1, h, h3⟩ | ⟨_, _, h, _⟩ | ⟨h1, h2, A', c', h3, h4, h5⟩
        · exact ⟨false, 0, 0, 0, none, 0, 0, h1, ⟨_, h3⟩, by rw [hbl, hb9] at h; symm; rw [decide_eq_false_iff_not]; omega⟩
        · rw [hbl] at h; omega
        · exact ⟨true, _, _, _, A', _, c', h3, ⟨_, h5⟩, by rw [hbl, hb9] at h1; symm; rw [decide_eq_true_iff]; omega⟩
      subst he
      obtain ⟨ys, hX5⟩ := hX5
      have hb0 : ((nn : Int) == 0) = ok := by rw [hok, Bool.eq_iff_iff, beq_iff_eq, decide_eq_true_iff]; omega
      clear hn k5 hX4 K4 hb9 hbl hok
      go_wp2_with (fail)
      have hX6 := hX5.alloc (.cells #[.int .i64 t, .int .i64 f, .int .i64 s, .slice A' n' c'] 27)
      have K6 := Lib.hid (K5.out.alloc (.cells #[.int .i64 t, .int .i64 f, .int .i64 s, .slice A' n' c'] 27))
      obtain ⟨w6, hw6⟩ : ∃ w6, w6 = w5.alloc (.cells #[.int .i64 t, .int .i64 f, .int .i64 s, .slice A' n' c'] 27) := ⟨_, rfl⟩
      rw [← hw6] at hX6 K6 ⊢
      clear hw6 hX5 K5
      refine (codeX hX6).mono ?_
      rintro e w6' ⟨rfl, rfl⟩
      go_wp2_with (fail)
      go_ret
      exact ⟨by simp, K6.out.below (Nat.le_refl _) (by simp)⟩
end Go.Proofs.Ytigdigljcalgkaa
