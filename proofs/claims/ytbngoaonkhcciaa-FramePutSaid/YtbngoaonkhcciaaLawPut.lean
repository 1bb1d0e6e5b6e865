/- frame: FramePut. -/
import Derived.Test.YtbngoaonkhcciaaBegun
import Derived.Test.YtbngoaonkhcciaaPureP
set_option linter.all false
namespace Go.Proofs.Ytbngoaonkhcciaa
open Go.ChangeShapes Go.WideShapes Go.ChangeAt Go.RowKit Go.Proofs.YtbngoaonkhcciaaW.PrintWords
attribute [local go_sem] setCell_drewN alloc_drewN Oper.semAt_some
def badP (t f s : Int) : Prop := t < 0 ∨ 255 < t ∨ f < 0 ∨ 255 < f ∨ s < 0 ∨ 2147483647 < s
theorem rput_bad {t f s : Int} (h : badP t f s) (l : List Int) : PPt.isthmusref7_Put.f 10 t f s l = some ([], 1) := by
  unfold PPt.isthmusref7_Put.f
  simp only [PPt.isthmusref7_Put.j0]
  unfold badP at h
  by_cases h1 : t < 0
  · rw [if_pos h1]; rfl
  rw [if_neg h1]
  by_cases h2 : t > 255
  · rw [if_pos h2]; rfl
  rw [if_neg h2]
  by_cases h3 : f < 0
  · rw [if_pos h3]; rfl
  rw [if_neg h3]
  by_cases h4 : f > 255
  · rw [if_pos h4]; rfl
  rw [if_neg h4]
  by_cases h5 : s < 0
  · rw [if_pos h5]; rfl
  rw [if_neg h5, if_pos (by simp; omega)]
theorem rput_long {t f s : Int} (h : ¬ badP t f s) (l : List Int) (hl : 16777215 < l.length) : PPt.isthmusref7_Put.f 10 t f s l = some ([], 2) := by
  unfold badP at h
  unfold PPt.isthmusref7_Put.f
  simp only [PPt.isthmusref7_Put.j0]
  rw [if_neg (by omega), if_neg (by omega), if_neg (by omega), if_neg (by omega), if_neg (by omega), if_neg (by simp; omega), if_pos (by omega)]
theorem rput_ok (tb fb : UInt8) (s : Nat) (bs : List UInt8) (hs : s ≤ 2147483647) (hl : bs.length ≤ 16777215) : PPt.isthmusref7_Put.f 10 tb.toNat fb.toNat s (ints bs) = some (ints (beB 3 bs.length ++ [tb, fb] ++ beB 4 s ++ bs), 0) := by
  have h1 := tb.toNat_lt
  have h2 := fb.toNat_lt
  unfold PPt.isthmusref7_Put.f
  simp only [PPt.isthmusref7_Put.j0]
  rw [if_neg (by omega), if_neg (by omega), if_neg (by omega), if_neg (by omega), if_neg (by omega), if_neg (by simp; omega), ints_len, if_neg (by omega), be3 _ (by omega), Option.bind_some, Option.bind_some, if_pos (by rw [beI_len]; simp), Option.bind_some, be4 _ (by omega), Option.bind_some, if_pos (by simp [beI_len]), Option.bind_some, if_pos (by simp [beI_len]; omega)]
  rw [ints_app, ints_app, ints_app, ints_be, ints_be]
  have e1 : (tb.toNat : Int) % 256 = (tb.toNat : Int) := by omega
  have e2 : (fb.toNat : Int) % 256 = (fb.toNat : Int) := by omega
  simp [e1, e2, ints]
set_option maxHeartbeats 4000000 in
theorem framePut (w : World) (v : Value) (hv : FrV w v) : Calls Try.prog 3 #[v] w fun e w' => e = .returned (.bool true) ∧ Below w.heap.size w w' := by
  obtain ⟨t, f, s, u, rfl, wt, wf, ws, hu⟩ := hv
  obtain ⟨A, n, c, bs, rfl, hnc, hcm, hl, hr⟩ := reads_of_sl hu
  subst hl
  unfold maxLen at hcm
  -- both give the same bytes and the same number
  obtain ⟨xs, r, hP, hQ⟩ : ∃ (xs : List UInt8) (r : Int), (∀ W, Reads W W.heap.size 1 A bs.length (encB bs) → Calls Try.prog 10 #[.agg #[.int .i64 t, .int .i64 f, .int .i64 s, .slice A bs.length c]] W fun e w' => ∃ A1 c1, e = .returned (.tuple #[.slice A1 xs.length c1, .int .i64 r]) ∧ Reads w' w'.heap.size 1 A1 xs.length (encB xs) ∧ Keep [] W w') ∧
      PPt.isthmusref7_Put.f 10 t f s (ints bs) = some (ints xs, r) := by
    by_cases hb : badP t f s
    · refine ⟨[], 1, fun W h => (put_arg W hb).mono ?_, rput_bad hb _⟩
      rintro e w' ⟨rfl, k⟩
      exact ⟨none, 0, rfl, reads_nil, k⟩
    · by_cases hlong : 16777215 < bs.length
      · have hb' := hb
        unfold badP at hb'
        refine ⟨[], 2, fun W h => (put_long W (by omega) (by omega) (by omega) (by omega) (by omega) (by omega) hlong).mono ?_, rput_long hb _ (by rw [ints_len]; exact hlong)⟩
        rintro e w' ⟨rfl, k⟩
        exact ⟨none, 0, rfl, reads_nil, k⟩
      · unfold badP at hb
        obtain ⟨tb, rfl⟩ : ∃ tb : UInt8, t = tb.toNat := ⟨UInt8.ofNat t.toNat, by rw [UInt8.toNat_ofNat']; omega⟩
        obtain ⟨fb, rfl⟩ : ∃ fb : UInt8, f = fb.toNat := ⟨UInt8.ofNat f.toNat, by rw [UInt8.toNat_ofNat']; omega⟩
        obtain ⟨sn, rfl⟩ : ∃ sn : Nat, s = sn := ⟨s.toNat, by omega⟩
        refine ⟨_, 0, fun W h => (put_ W tb fb h (by omega) (by omega) hlong).mono ?_, rput_ok tb fb sn bs (by omega) (by omega)⟩
        rintro e w' ⟨v1, rfl, row, k⟩
        obtain ⟨A1, c1, rfl, _, _, rd⟩ := row.reads
        rw [encB_len] at rd ⊢
        exact ⟨A1, c1, rfl, rd, k⟩
  have HP := Lib.hid hP
  have HQ := Lib.hid (fun (W : World) (h : Reads W W.heap.size 1 A bs.length (encB bs)) => PPt.isthmusref7_Put.calls 10 t f s A c (ints bs) (ints xs) r W (C_of h (by omega)) (by rw [ints_len]; exact hnc) hQ)
  simp only [ints_len] at HQ
  have Hr := Lib.hid hr
  clear hP hQ hr hu wt wf ws
  go_enter Try.func3, Try.ntmps3
  go_wp2_with (fail)
  have k0 : Keep [] w (w.alloc (.cells #[.int .i64 t, .int .i64 f, .int .i64 s, .slice A bs.length c] 24)) := (Keep.refl _ _).alloc _
  have BF := Blk.new w 24 #[.int .i64 t, .int .i64 f, .int .i64 s, .slice A bs.length c]
  refine (begun _).mono ?_
  rintro e w1 ⟨rfl, B1⟩
  have k1 := Keep.of_below B1
  have s1 := k1.size
  simp at s1
  have BF1 := BF.keep k1 (by simp)
  have K1 := Lib.hid (k0.trans k1)
  have rd1 := (Hr.out.keeps K1.out (Nat.le_refl _) (by simp)).more K1.out.size
  have d0 := BF1.cell 0
  have d1 := BF1.cell 1
  have d2 := BF1.cell 2
  have d3 := BF1.cell 3
  simp at d0 d1 d2 d3
  clear B1 BF k0 k1
  go_wp2_with (fail)
  refine (HP.out w1 rd1).mono ?_
  rintro e w2 ⟨A2, c2, rfl, rd2, k2⟩
  have BF2 := BF1.keep k2 (by simp)
  have K2 := Lib.hid (K1.out.trans k2)
  have rdb := (Hr.out.keeps K2.out (Nat.le_refl _) (by simp)).more K2.out.size
  clear d0 d1 d2 d3 BF1 rd1 k2
  have d0 := BF2.cell 0
  have d1 := BF2.cell 1
  have d2 := BF2.cell 2
  have d3 := BF2.cell 3
  simp at d0 d1 d2 d3
  have RD2 := Lib.hid rd2
  clear BF2 rd2
  go_wp2_with (fail)
  refine (HQ.out w2 rdb).mono ?_
  rintro e w3 ⟨v3, rfl, R3, B3⟩
  obtain ⟨A3, c3, rfl, _, _, rd3⟩ := (Row1.of_R R3).reads
  have k3 := Keep.of_below B3
  have K3 := Lib.hid (K2.out.trans k3)
  have rd2 := RD2.out.keeps k3 (Nat.le_refl _) (by simp)
  rw [encB_len] at rd3 ⊢
  have st1 := str_of (c := c2) (src := 22) (dst := 9) Try.underlying22 Try.underlying5 Try.underlying9 rd2
  have st2 := str_of (c := c3) (src := 22) (dst := 9) Try.underlying22 Try.underlying5 Try.underlying9 rd3
  clear rd2 rd3 R3 B3 k3 rdb d0 d1 d2 d3
  go_wp2_with (fail)
  go_ret
  exact ⟨by simp, K3.out.below (Nat.le_refl _) (by simp)⟩
end Go.Proofs.Ytbngoaonkhcciaa
