/- block: a part is laid together. -/
import Derived.Test.YtenegjflapppdaaCtr2
set_option linter.all false
namespace Go.Proofs.Ytenegjflapppdaa
open Go.ChangeShapes Go.WideShapes Go.ChangeAt Go.RowKit
attribute [local go_sem] setCell_drewN alloc_drewN
set_option maxHeartbeats 4000000 in
theorem part_ (w : World) (kd id tm : Int) (en wh : Bool) {B : Nat} {A : Option Addr} {n c : Nat} {ps : List UInt8} (hr : Reads w B 1 A n (encB ps)) (hB : B ≤ w.heap.size) (hn : n ≤ 1048576) :
    Calls Try.prog 10 #[.agg #[.int .i64 kd, .int .i64 id, .bool en, .bool wh, .slice A n c, .int .i64 tm]] w fun e w' => ∃ v, e = .returned v ∧ ∃ qs, Row1 w' w.heap.size 5 v (encB qs) ∧ qs.length ≤ 1118576 ∧ Keep [] w w' := by
  obtain ⟨i0, z0, hi, hz, hz0, hz1, hz2⟩ := u8_info
  have hpl : ps.length = n := by have := hr.1; rw [encB_len] at this; omega
  have Hr := Lib.hid (hr.keeps ((Keep.refl [] w).alloc (.cells #[.int .i64 kd, .int .i64 id, .bool en, .bool wh, .slice A n c, .int .i64 tm] 32)) hB (by simp))
  have b0 := Blk.new w 32 #[.int .i64 kd, .int .i64 id, .bool en, .bool wh, .slice A n c, .int .i64 tm]
  have K0 := (Keep.refl [] w).alloc (.cells #[.int .i64 kd, .int .i64 id, .bool en, .bool wh, .slice A n c, .int .i64 tm] 32)
  clear hr
  go_enter Try.func10, Try.ntmps10
  by_cases h1 : tm < 1
  · have b0t := b0.cell 5
    simp at b0t
    go_wp2_with (fail)
    obtain ⟨W0, hW0⟩ : ∃ W0, W0 = w.alloc (.cells #[.int .i64 kd, .int .i64 id, .bool en, .bool wh, .slice A n c, .int .i64 tm] 32) := ⟨_, rfl⟩
    have sz0 : w.heap.size + 1 = W0.heap.size := by rw [hW0]; simp
    rw [← hW0] at b0 K0 Hr ⊢
    clear hW0
    go_loopw [4, 5] (fun vp vi wr => ∃ (i : Nat) (qs : List UInt8), vi = .int .i64 i ∧ i ≤ 1 ∧ Row1 wr (w.heap.size + 1) 5 vp (encB qs) ∧ qs.length ≤ 1118576 ∧ Keep [] W0 wr) (fun _ vi _ => 1 - (intOf vi).toNat)
    case atStart => exact ⟨0, [], rfl, by omega, Row1.nil _ _ _, by simp, Keep.refl _ _⟩
    case round =>
      obtain ⟨i, qs, rfl, hi1, hrow, hql, kr⟩ := hrel
      have szr := kr.size
      have b1 := b0.keep kr (by simp)
      have c4 := b1.cell 4
      simp at c4
      have HR := Lib.hid (Hr.out.keeps kr (by omega) (by simp))
      have HROW := Lib.hid hrow
      obtain ⟨Aq, cq, rfl, hq1, hq2, _⟩ := hrow.reads
      rw [encB_len] at hq1
      have hlq : ((encB qs).length : Int) = (qs.length : Int) := by rw [encB_len]
      have KR := Lib.hid kr
      clear hrow kr
      by_cases hlt : i < 1
      · have k1 : (i : Int) < 1 := by omega
        by_cases hlp : qs.length ≤ 70000
        · have k2 : (qs.length : Int) ≤ 70000 := by omega
          by_cases hn0 : n = 0
          · have kn : ((n : Int) == 0) = true := by simp [hn0]
            clear hn0
            go_wp2_with (fail)
            go_ret
            exact ⟨_, rfl, qs, HROW.out.down (by omega), hql, K0.trans KR.out⟩
          · have kn : ((n : Int) == 0) = false := by simp; omega
            clear hn0
            go_wp2_with (at_builtin; apply wpList_append_row _ rfl _ _ _ rfl (w.heap.size + 1) 5 i0 z0 1 Try.underlying27 hi hz hz0 hz1 hz2 (.slice Aq (encB qs).length cq) (encB qs) rfl HROW.out _ A n c (encB ps) rfl HR.out encB_one (by unfold maxLen; rw [encB_len]; omega) (by rw [encB_len]; omega) (by omega); intro v3 w3 hr3 k3 hm3; rw [← encB_append] at hr3; have KK := Lib.hid k3; have HR3 := Lib.hid hr3; clear k3 hm3 hr3)
            go_roundw
            case rel => exact ⟨i + 1, qs ++ ps, by go_num, by omega, HR3.out, by rw [List.length_append]; omega, KR.out.step KK.out (fun g hg => .inr (by have := (HROW.out.lt g (by simpa using hg)).1; omega))⟩
            case measure => simp [intOf]; omega
        · have k2 : ¬ (qs.length : Int) ≤ 70000 := by omega
          go_wp2_with (fail)
          go_ret
          exact ⟨_, rfl, qs, HROW.out.down (by omega), hql, K0.trans KR.out⟩
      · have k1 : ¬ (i : Int) < 1 := by omega
        go_wp2_with (fail)
        go_ret
        exact ⟨_, rfl, qs, HROW.out.down (by omega), hql, K0.trans KR.out⟩
  · have b0t := b0.cell 5
    simp at b0t
    by_cases h2 : 70000 < tm
    · go_wp2_with (fail)
      obtain ⟨W0, hW0⟩ : ∃ W0, W0 = w.alloc (.cells #[.int .i64 kd, .int .i64 id, .bool en, .bool wh, .slice A n c, .int .i64 tm] 32) := ⟨_, rfl⟩
      have sz0 : w.heap.size + 1 = W0.heap.size := by rw [hW0]; simp
      rw [← hW0] at b0 K0 Hr ⊢
      clear hW0
      go_loopw [4, 5] (fun vp vi wr => ∃ (i : Nat) (qs : List UInt8), vi = .int .i64 i ∧ i ≤ 70000 ∧ Row1 wr (w.heap.size + 1) 5 vp (encB qs) ∧ qs.length ≤ 1118576 ∧ Keep [] W0 wr) (fun _ vi _ => 70000 - (intOf vi).toNat)
      case atStart => exact ⟨0, [], rfl, by omega, Row1.nil _ _ _, by simp, Keep.refl _ _⟩
      case round =>
        obtain ⟨i, qs, rfl, hi1, hrow, hql, kr⟩ := hrel
        have szr := kr.size
        have b1 := b0.keep kr (by simp)
        have c4 := b1.cell 4
        simp at c4
        have HR := Lib.hid (Hr.out.keeps kr (by omega) (by simp))
        have HROW := Lib.hid hrow
        obtain ⟨Aq, cq, rfl, hq1, hq2, _⟩ := hrow.reads
        rw [encB_len] at hq1
        have hlq : ((encB qs).length : Int) = (qs.length : Int) := by rw [encB_len]
        have KR := Lib.hid kr
        clear hrow kr
        by_cases hlt : i < 70000
        · have k1 : (i : Int) < 70000 := by omega
          by_cases hlp : qs.length ≤ 70000
          · have k2 : (qs.length : Int) ≤ 70000 := by omega
            by_cases hn0 : n = 0
            · have kn : ((n : Int) == 0) = true := by simp [hn0]
              clear hn0
              go_wp2_with (fail)
              go_ret
              exact ⟨_, rfl, qs, HROW.out.down (by omega), hql, K0.trans KR.out⟩
            · have kn : ((n : Int) == 0) = false := by simp; omega
              clear hn0
              go_wp2_with (at_builtin; apply wpList_append_row _ rfl _ _ _ rfl (w.heap.size + 1) 5 i0 z0 1 Try.underlying27 hi hz hz0 hz1 hz2 (.slice Aq (encB qs).length cq) (encB qs) rfl HROW.out _ A n c (encB ps) rfl HR.out encB_one (by unfold maxLen; rw [encB_len]; omega) (by rw [encB_len]; omega) (by omega); intro v3 w3 hr3 k3 hm3; rw [← encB_append] at hr3; have KK := Lib.hid k3; have HR3 := Lib.hid hr3; clear k3 hm3 hr3)
              go_roundw
              case rel => exact ⟨i + 1, qs ++ ps, by go_num, by omega, HR3.out, by rw [List.length_append]; omega, KR.out.step KK.out (fun g hg => .inr (by have := (HROW.out.lt g (by simpa using hg)).1; omega))⟩
              case measure => simp [intOf]; omega
          · have k2 : ¬ (qs.length : Int) ≤ 70000 := by omega
            go_wp2_with (fail)
            go_ret
            exact ⟨_, rfl, qs, HROW.out.down (by omega), hql, K0.trans KR.out⟩
        · have k1 : ¬ (i : Int) < 70000 := by omega
          go_wp2_with (fail)
          go_ret
          exact ⟨_, rfl, qs, HROW.out.down (by omega), hql, K0.trans KR.out⟩
    · obtain ⟨N, rfl⟩ : ∃ N : Nat, tm = N := ⟨tm.toNat, by omega⟩
      go_wp2_with (fail)
      obtain ⟨W0, hW0⟩ : ∃ W0, W0 = w.alloc (.cells #[.int .i64 kd, .int .i64 id, .bool en, .bool wh, .slice A n c, .int .i64 (N : Int)] 32) := ⟨_, rfl⟩
      have sz0 : w.heap.size + 1 = W0.heap.size := by rw [hW0]; simp
      rw [← hW0] at b0 K0 Hr ⊢
      clear hW0
      go_loopw [4, 5] (fun vp vi wr => ∃ (i : Nat) (qs : List UInt8), vi = .int .i64 i ∧ i ≤ N ∧ Row1 wr (w.heap.size + 1) 5 vp (encB qs) ∧ qs.length ≤ 1118576 ∧ Keep [] W0 wr) (fun _ vi _ => N - (intOf vi).toNat)
      case atStart => exact ⟨0, [], rfl, by omega, Row1.nil _ _ _, by simp, Keep.refl _ _⟩
      case round =>
        obtain ⟨i, qs, rfl, hi1, hrow, hql, kr⟩ := hrel
        have szr := kr.size
        have b1 := b0.keep kr (by simp)
        have c4 := b1.cell 4
        simp at c4
        have HR := Lib.hid (Hr.out.keeps kr (by omega) (by simp))
        have HROW := Lib.hid hrow
        obtain ⟨Aq, cq, rfl, hq1, hq2, _⟩ := hrow.reads
        rw [encB_len] at hq1
        have hlq : ((encB qs).length : Int) = (qs.length : Int) := by rw [encB_len]
        have KR := Lib.hid kr
        clear hrow kr
        by_cases hlt : i < N
        · have k1 : (i : Int) < (N : Int) := by omega
          by_cases hlp : qs.length ≤ 70000
          · have k2 : (qs.length : Int) ≤ 70000 := by omega
            by_cases hn0 : n = 0
            · have kn : ((n : Int) == 0) = true := by simp [hn0]
              clear hn0
              go_wp2_with (fail)
              go_ret
              exact ⟨_, rfl, qs, HROW.out.down (by omega), hql, K0.trans KR.out⟩
            · have kn : ((n : Int) == 0) = false := by simp; omega
              clear hn0
              go_wp2_with (at_builtin; apply wpList_append_row _ rfl _ _ _ rfl (w.heap.size + 1) 5 i0 z0 1 Try.underlying27 hi hz hz0 hz1 hz2 (.slice Aq (encB qs).length cq) (encB qs) rfl HROW.out _ A n c (encB ps) rfl HR.out encB_one (by unfold maxLen; rw [encB_len]; omega) (by rw [encB_len]; omega) (by omega); intro v3 w3 hr3 k3 hm3; rw [← encB_append] at hr3; have KK := Lib.hid k3; have HR3 := Lib.hid hr3; clear k3 hm3 hr3)
              go_roundw
              case rel => exact ⟨i + 1, qs ++ ps, by go_num, by omega, HR3.out, by rw [List.length_append]; omega, KR.out.step KK.out (fun g hg => .inr (by have := (HROW.out.lt g (by simpa using hg)).1; omega))⟩
              case measure => simp [intOf]; omega
          · have k2 : ¬ (qs.length : Int) ≤ 70000 := by omega
            go_wp2_with (fail)
            go_ret
            exact ⟨_, rfl, qs, HROW.out.down (by omega), hql, K0.trans KR.out⟩
        · have k1 : ¬ (i : Int) < (N : Int) := by omega
          go_wp2_with (fail)
          go_ret
          exact ⟨_, rfl, qs, HROW.out.down (by omega), hql, K0.trans KR.out⟩
end Go.Proofs.Ytenegjflapppdaa
