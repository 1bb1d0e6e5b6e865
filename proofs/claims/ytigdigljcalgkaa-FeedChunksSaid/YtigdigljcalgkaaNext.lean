/- feed: Next. -/
import Derived.Test.YtigdigljcalgkaaCtr
import Derived.Deep.DeepCutAuto
set_option linter.all false
namespace Go.Proofs.Ytigdigljcalgkaa
open Go.ChangeShapes Go.WideShapes Go.ChangeAt Go.RowKit Go.Proofs.YtigdigljcalgkaaW.PrintWords
attribute [local go_sem] setCell_drewN alloc_drewN Oper.semAt_some
def zeroF : Value := .agg #[.int .i64 0, .int .i64 0, .int .i64 0, .slice none 0 0]
theorem ext_bytes (l : List UInt8) (n : Nat) : (ByteArray.mk l.toArray).extract 0 n = ⟨(l.take n).toArray⟩ := by
  apply ByteArray.ext
  simp
theorem ba_eq (a b : List UInt8) : ((ByteArray.mk a.toArray) = ⟨b.toArray⟩) ↔ a = b := by
  constructor
  · intro h
    injection h with h
    simpa using h
  · rintro rfl
    rfl
/-- what comes of a preface that is not there: it waits; it breaks -/
def PreR (w : World) (base fb : Nat) (most : Int) (v : Value) (bs : List UInt8) : Prop := (bs.take 24 = pfB.take bs.length ∧ Fd w base fb true most v bs 0) ∨ (bs.take 24 ≠ pfB.take bs.length ∧ Fd w base fb true most (.slice none 0 0) [] 1)
section
variable {w w' : World} {base fb : Nat} {asks : Bool} {most code : Int} {v : Value} {bs : List UInt8}
theorem next_nil (w : World) : Calls Try.prog 17 #[.pointer none] w fun e w' => e = .returned (.tuple #[zeroF, .bool false]) ∧ Keep [] w w' := by
  unfold zeroF
  go_enter Try.func17, Try.ntmps17
  go_wp2
  have BF := Blk.new w 27 #[.int .i64 0, .int .i64 0, .int .i64 0, .slice none 0 0]
  refine bodyPost_ret (results_ct rfl _ _ w.heap.size 27 #[.int .i64 0, .int .i64 0, .int .i64 0, .slice none 0 0] (0, 0) _ rfl BF Try.underlying27 rfl (by kernel_rfl)) rfl ?_
  exact ⟨rfl, (Keep.refl _ _).alloc _⟩
theorem next_broken (h : Fd w base fb asks most v bs code) (hc : code ≠ 0) : Calls Try.prog 17 #[.pointer (some ⟨fb, 0, none⟩)] w fun e w' => e = .returned (.tuple #[zeroF, .bool false]) ∧ Keep [] w w' := by
  have d3 := h.blk.cell 3
  simp at d3
  have hlt := h.blk.lt
  have ne2 : fb ≠ w.heap.size := by omega
  have hc2 : (code != 0) = true := by simp [hc]
  clear h
  unfold zeroF
  go_enter Try.func17, Try.ntmps17
  go_wp2
  have BF := Blk.new w 27 #[.int .i64 0, .int .i64 0, .int .i64 0, .slice none 0 0]
  refine bodyPost_ret (results_ct rfl _ _ w.heap.size 27 #[.int .i64 0, .int .i64 0, .int .i64 0, .slice none 0 0] (0, 0) _ rfl BF Try.underlying27 rfl (by kernel_rfl)) rfl ?_
  exact ⟨rfl, (Keep.refl _ _).alloc _⟩
set_option maxHeartbeats 2000000 in
/-- the preface: as far as it is there it is another one, or it is not all there -/
theorem next_pre (h : Fd w base fb true most v bs 0) (hb : bs.take 24 ≠ pfB.take bs.length ∨ bs.length < 24) (hcap : bs.length ≤ 140737488355328) : Calls Try.prog 17 #[.pointer (some ⟨fb, 0, none⟩)] w fun e w' => e = .returned (.tuple #[zeroF, .bool false]) ∧ PreR w' base fb most v bs ∧ Keep [fb] w w' := by
  obtain ⟨A, cap, rfl, hc1, hc2, hr⟩ := h.slice
  have d0 := h.blk.cell 0
  have d2 := h.blk.cell 2
  have d3 := h.blk.cell 3
  simp at d0 d2 d3
  have hlt := h.blk.lt
  have ne2 : fb ≠ w.heap.size := by omega
  have HH := Lib.hid h
  clear h
  obtain ⟨n, hn⟩ : ∃ n : Nat, n = min bs.length 24 := ⟨_, rfl⟩
  have hmin : (if (24 : Int) < (bs.length : Int) then 24 else (bs.length : Int)) = (n : Int) := by split <;> omega
  have hn1 : n ≤ bs.length := by omega
  have hn2 : n ≤ 24 := by omega
  have hn3 : ((n : Nat) : Int) ≤ (cap : Int) := by omega
  have hn4 : (n : Int) ≤ 24 := by omega
  have Hn := Lib.hid hn
  have hlit : (n : Int) ≤ (24 : Nat) := by omega
  have hl1 : (n : Int) ≤ (bs.length : Int) := by omega
  have hex : (ByteArray.mk #[80, 82, 73, 32, 42, 32, 72, 84, 84, 80, 47, 50, 46, 48, 13, 10, 13, 10, 83, 77, 13, 10, 13, 10]).extract 0 n = ⟨(pfB.take n).toArray⟩ := ext_bytes pfB n
  have hrd := (hr.first hn1).keeps (((Keep.refl [] w).alloc (.cells #[.int .i64 0, .int .i64 0, .int .i64 0, .slice none 0 0] 27)).drew) (Nat.le_refl _) (by simp)
  rw [Nat.mul_one, ← encB_take] at hrd
  have hst := str_of (c := cap) (src := 25) (dst := 9) Try.underlying25 Try.underlying5 Try.underlying9 hrd
  clear hn hr hrd
  unfold zeroF
  go_enter Try.func17, Try.ntmps17
  go_wp2
  refine wpIn_wide.1 (region_rt (n := 0) [] [(0, .pointer (some ⟨fb, 0, none⟩)), (1, .pointer (some ⟨fb, 0, none⟩)), (2, .pointer (some ⟨fb, 2, none⟩)), (3, .slice A bs.length cap), (4, .int .i64 n), (5, .slice A n cap), (6, .string ⟨(bs.take n).toArray⟩), (7, .int .i64 n), (8, .string ⟨(pfB.take n).toArray⟩), (9, .bool (!(bs.take n == pfB.take n)))]
    (fun W => W = (w.alloc (.cells #[.int .i64 0, .int .i64 0, .int .i64 0, .slice none 0 0] 27)).drew) (by kernel_rfl) (by kernel_rfl) rfl ?_ ?_)
  · (simp only [evOk, putAll, List.getElem?_toArray, List.getElem?_cons_zero, List.getElem?_cons_succ, Option.bind_some, Act.put, List.setIfInBounds_toArray, List.set_cons_zero, List.set_cons_succ]; repeat' apply And.intro) <;> first | exact trivial | (rintro W rfl; simp [go_sem, *]; done) | (intro W hW; simp [go_sem, *])
    done
  · simp only [wpTail, putAll, List.getElem?_toArray, List.getElem?_cons_zero, List.getElem?_cons_succ, Option.bind_some, Act.put, List.setIfInBounds_toArray, List.set_cons_zero, List.set_cons_succ]
    have hbn : (bs.take n = pfB.take n) ↔ (bs.take 24 = pfB.take bs.length) := by
      have := Hn.out
      have hpl : pfB.length = 24 := rfl
      by_cases h24 : bs.length ≤ 24
      · have e : n = bs.length := by omega
        rw [e, List.take_of_length_le (Nat.le_refl bs.length), List.take_of_length_le h24]
      · have e : n = 24 := by omega
        rw [e, List.take_of_length_le (l := pfB) (by omega), List.take_of_length_le (l := pfB) (by omega)]
    have HH1 := HH.out.keep (((Keep.refl [] w).alloc (.cells #[.int .i64 0, .int .i64 0, .int .i64 0, .slice none 0 0] 27)).drew) (by simp) (by simp)
    have BF : Blk (w.alloc (.cells #[.int .i64 0, .int .i64 0, .int .i64 0, .slice none 0 0] 27)).drew w.heap.size 27 #[.int .i64 0, .int .i64 0, .int .i64 0, .slice none 0 0] := (Blk.new w _ _).drew
    have kk : Keep [] w (w.alloc (.cells #[.int .i64 0, .int .i64 0, .int .i64 0, .slice none 0 0] 27)).drew := (Keep.refl [] w).alloc (.cells #[.int .i64 0, .int .i64 0, .int .i64 0, .slice none 0 0] 27) |>.drew
    obtain ⟨W1, hW1⟩ : ∃ W1, W1 = (w.alloc (.cells #[.int .i64 0, .int .i64 0, .int .i64 0, .slice none 0 0] 27)).drew := ⟨_, rfl⟩
    have s1 : W1.heap.size = w.heap.size + 1 := by rw [hW1]; simp
    rw [← hW1] at HH1 BF kk ⊢
    have BC := Lib.hid BF
    by_cases he : bs.take n = pfB.take n
    · have hs : bs.length < 24 := by
        rcases hb with hb | hb
        · exact absurd (hbn.1 he) hb
        · exact hb
      have hn24 : (n : Int) < 24 := by have := Hn.out; omega
      have hif := Lib.hid (hbn.1 he)
      have heq : (bs.take n == pfB.take n) = true := by simp [he]
      have q0 := BF.cell 0
      have q1 := BF.cell 1
      have q2 := BF.cell 2
      have q3 := BF.cell 3
      have g0 := BF.frozen 0
      have g1 := BF.frozen 1
      have g2 := BF.frozen 2
      have g3 := BF.frozen 3
      simp at q0 q1 q2 q3
      have HK := Lib.hid kk
      have HF := Lib.hid HH1
      clear hb hbn he hmin hex hst hW1 BF kk HH1
      rw [heq]
      simp only [Bool.not_true, Bool.not_false]
      go_wp2
      have FB := (((BC.out.set_ 0 (.int .i64 0)).set_ 1 (.int .i64 0)).set_ 2 (.int .i64 0)).set_ 3 (.slice none 0 0)
      simp only [List.setIfInBounds_toArray, List.set_cons_zero, List.set_cons_succ] at FB
      have KL := ((((Keep.refl [w.heap.size] W1).setCell (p := ⟨w.heap.size, 0, none⟩) (.inl (by simp)) (.int .i64 0)).setCell (p := ⟨w.heap.size, 1, none⟩) (.inl (by simp)) (.int .i64 0)).setCell (p := ⟨w.heap.size, 2, none⟩) (.inl (by simp)) (.int .i64 0)).setCell (p := ⟨w.heap.size, 3, none⟩) (.inl (by simp)) (.slice none 0 0)
      refine bodyPost_ret (results_ct rfl _ _ w.heap.size 27 #[.int .i64 0, .int .i64 0, .int .i64 0, .slice none 0 0] (0, 0) _ rfl FB Try.underlying27 rfl (by kernel_rfl)) rfl ?_
      refine ⟨rfl, ?_, (HK.out.step KL (by simp)).more (by simp)⟩
      refine .inl ⟨hif.out, ?_⟩
      exact HF.out.keep KL (by simp; omega) (fun g hg => by have := HH.out.row.lt g hg; simp; omega)
    · have heq : (bs.take n == pfB.take n) = false := by simp [he]
      have hif := Lib.hid (fun h => he (hbn.2 h))
      have HB := Lib.hid (breaks_ HH1 1)
      have HK := Lib.hid kk
      clear hb hbn he hmin hex hst hW1 BF kk HH1
      rw [heq]
      simp only [Bool.not_true, Bool.not_false]
      go_wp2_with (fail)
      refine HB.out.mono ?_
      rintro e w3 ⟨rfl, h3, k3⟩
      have BF := BC.out.keep k3 (by simp; omega)
      have BD := Lib.hid BF
      have q0 := BF.cell 0
      have q1 := BF.cell 1
      have q2 := BF.cell 2
      have q3 := BF.cell 3
      have g0 := BF.frozen 0
      have g1 := BF.frozen 1
      have g2 := BF.frozen 2
      have g3 := BF.frozen 3
      simp at q0 q1 q2 q3
      have H3 := Lib.hid h3
      clear BF h3 HB
      go_wp2
      have FB := (((BD.out.set_ 0 (.int .i64 0)).set_ 1 (.int .i64 0)).set_ 2 (.int .i64 0)).set_ 3 (.slice none 0 0)
      simp only [List.setIfInBounds_toArray, List.set_cons_zero, List.set_cons_succ] at FB
      have KL := ((((Keep.refl [w.heap.size] w3).setCell (p := ⟨w.heap.size, 0, none⟩) (.inl (by simp)) (.int .i64 0)).setCell (p := ⟨w.heap.size, 1, none⟩) (.inl (by simp)) (.int .i64 0)).setCell (p := ⟨w.heap.size, 2, none⟩) (.inl (by simp)) (.int .i64 0)).setCell (p := ⟨w.heap.size, 3, none⟩) (.inl (by simp)) (.slice none 0 0)
      refine bodyPost_ret (results_ct rfl _ _ w.heap.size 27 #[.int .i64 0, .int .i64 0, .int .i64 0, .slice none 0 0] (0, 0) _ rfl FB Try.underlying27 rfl (by kernel_rfl)) rfl ?_
      refine ⟨rfl, ?_, (((HK.out.more (hs := [fb]) (by simp)).trans k3).step KL (by simp))⟩
      refine .inr ⟨hif.out, ?_⟩
      exact H3.out.keep KL (by simp; omega) (fun g hg => by cases hg)
end
end Go.Proofs.Ytigdigljcalgkaa
