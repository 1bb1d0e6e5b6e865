/- frame: FrameHead. -/
import Derived.Test.YtbngoaonkhcciaaBegun
import Derived.Test.YtbngoaonkhcciaaPureH
set_option linter.all false
namespace Go.Proofs.Ytbngoaonkhcciaa
open Go.ChangeShapes Go.WideShapes Go.ChangeAt Go.RowKit Go.Proofs.YtbngoaonkhcciaaW.PrintWords
attribute [local go_sem] setCell_drewN alloc_drewN Oper.semAt_some
set_option maxHeartbeats 2000000 in
theorem frameHead (w : World) (v : Value) (hv : Sl w 1 (fun _ => IsInt .u8) v) : Calls Try.prog 4 #[v] w fun e w' => e = .returned (.bool true) ∧ Below w.heap.size w w' := by
  obtain ⟨A, n, c, bs, rfl, hnc, hcm, hl, hr⟩ := reads_of_sl hv
  subst hl
  unfold maxLen at hcm
  obtain ⟨r1, r2, r3, r5, r6, hR⟩ : ∃ r1 r2 r3 r5 r6, headR bs = (r1, r2, r3, [], r5, r6) := by
    unfold headR
    split
    · exact ⟨_, _, _, _, _, rfl⟩
    · exact ⟨_, _, _, _, _, rfl⟩
  have h1 := head_f bs
  have h2 := rhead_f bs
  rw [hR] at h1 h2
  have H1 := Lib.hid (fun (W : World) (h : Reads W w.heap.size 1 A bs.length (encB bs)) => PHd.frame_Head.calls 9 A c (ints bs) r1 r2 r3 [] r5 r6 W (C_of h (by omega)) (by rw [ints_len]; exact hnc) h1)
  have H2 := Lib.hid (fun (W : World) (h : Reads W w.heap.size 1 A bs.length (encB bs)) => PPt.isthmusref7_Head.calls 9 A c (ints bs) r1 r2 r3 [] r5 r6 W (C_of h (by omega)) (by rw [ints_len]; exact hnc) h2)
  simp only [ints_len] at H1 H2
  have Hr := Lib.hid hr
  clear h1 h2 hR hr hv
  go_enter Try.func4, Try.ntmps4
  go_wp2_with (fail)
  refine (begun _).mono ?_
  rintro e w1 ⟨rfl, B1⟩
  have k1 := Keep.of_below B1
  have rd1 := Hr.out.keeps k1 (Nat.le_refl _) (by simp)
  have K1 := Lib.hid k1
  clear B1 k1
  go_wp2_with (fail)
  refine (H1.out w1 rd1).mono ?_
  rintro e w2 ⟨v2, rfl, R2, B2⟩
  obtain ⟨A2, c2, hv2⟩ := Kd.R_slice R2
  subst hv2
  have k2 := Keep.of_below B2
  have s12 := k2.size
  have s01 := K1.out.size
  have K2 := Lib.hid (K1.out.trans k2)
  have kA := k2.alloc (.cells #[.int .i64 r1, .int .i64 r2, .int .i64 r3, .slice A2 ([] : List Int).length c2] 24)
  have rd2 := (rd1.keeps kA (by omega) (by simp))
  have BA := Blk.new w2 24 #[.int .i64 r1, .int .i64 r2, .int .i64 r3, .slice A2 ([] : List Int).length c2]
  clear R2 B2 rd1 k2 H1
  go_wp2_with (fail)
  refine (H2.out _ rd2).mono ?_
  rintro e w3 ⟨v3, rfl, R3, B3⟩
  obtain ⟨A3, c3, hv3⟩ := Kd.R_slice R3
  subst hv3
  have k3 := Keep.of_below B3
  have s23 := k3.size
  simp at s23
  have BA3 := BA.keep k3 (by simp)
  have K3 := Lib.hid ((K2.out.alloc (.cells #[.int .i64 r1, .int .i64 r2, .int .i64 r3, .slice A2 ([] : List Int).length c2] 24)).trans k3)
  have d0 := BA3.cell 0
  have d1 := BA3.cell 1
  have d2 := BA3.cell 2
  have d3 := BA3.cell 3
  simp at d0 d1 d2 d3
  have l3 : w2.heap.size < w3.heap.size := by omega
  clear R3 B3 rd2 BA BA3 k3 H2 kA
  go_wp2_with (fail)
  have HE := fun W => PPt.isthmusref7_EqFrame.calls r1 r2 r3 A2 c2 [] r1 r2 r3 A3 c3 [] true W ⟨rfl, by simp, fun h => by simp at h⟩ (Nat.zero_le _) ⟨rfl, by simp, fun h => by simp at h⟩ (Nat.zero_le _) (eqFrame_self _ _ _ _)
  refine (HE _).mono ?_
  rintro e w4 ⟨rfl, B4⟩
  have K4 := Lib.hid ((K3.out.alloc (.cells #[.int .i64 r1, .int .i64 r2, .int .i64 r3, .slice A3 ([] : List Int).length c3] 24)).trans (Keep.of_below B4))
  clear B4 HE d0 d1 d2 d3
  go_wp2_with (fail)
  go_ret
  exact ⟨by simp, K4.out.below (Nat.le_refl _) (by simp)⟩
end Go.Proofs.Ytbngoaonkhcciaa
