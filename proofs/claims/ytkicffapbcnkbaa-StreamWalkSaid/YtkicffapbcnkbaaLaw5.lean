/- stream: the reference's Walk. -/
import Derived.Test.YtkicffapbcnkbaaLaw2
import Derived.Test.YtkicffapbcnkbaaRng2
import Derived.IntWalk
set_option linter.all false
namespace Go.Proofs.Ytkicffapbcnkbaa
open Go.ChangeShapes Go.WideShapes Go.ChangeAt Go.RowKit
attribute [local go_sem] setCell_drewN alloc_drewN
set_option maxRecDepth 100000 in
set_option maxHeartbeats 8000000 in
theorem rwalk {w : World} {A C : Option Addr} {n c c' : Nat} {ks : List Int} {es : List Bool} (hn : n ≤ 1000) (hk : ks.length = n) (hs : es.length = n) (hks : ∀ x ∈ ks, -9223372036854775808 ≤ x ∧ x ≤ 9223372036854775807)
    (hA : Reads w w.heap.size 1 A n (ks.map (Value.int .i64 ·))) (hC : Reads w w.heap.size 1 C n (es.map (Value.bool ·))) (R : Nat × Int × Int) (hF : walkF 0 0 (items ks es) 0 = R) :
    Calls Try.prog 19 #[.slice A n c, .slice C n c'] w fun e w' =>
      e = .returned (.tuple #[.int .i64 R.1, .int .i64 R.2.1, .int .i64 R.2.2]) ∧ Below w.heap.size w w' := by
  have hks := Lib.hid hks
  have HF0 : Hid (walkF 0 0 ((items ks es).drop 0) 0 = R) := Lib.hid hF
  clear hF
  go_enter Try.func19, Try.ntmps19
  go_wp2_with (go_at_call 10; refine (rnew _).mono ?_; rintro e w' ⟨rfl, rfl⟩)
  go_loopw [8] (fun vi wr => ∃ (k : Nat) (st why : Int), vi = .int .i64 k ∧ k ≤ n ∧ OkSt st why ∧ Hid (walkF st why ((items ks es).drop k) k = R) ∧ Blk wr w.heap.size 35 #[.int .i64 st, .int .i64 why] ∧ Below w.heap.size w wr) (fun vi _ => n - (intOf vi).toNat)
  case atStart => exact ⟨0, 0, 0, rfl, by omega, by simp [OkSt], HF0, Blk.new _ _ _, (Below.refl _ w).alloc (Nat.le_refl _) _⟩
  case round =>
    obtain ⟨k, st, why, rfl, hk1, ho, HR, bd, hB⟩ := hrel
    have d0 := bd.cell 0
    have d1 := bd.cell 1
    simp at d0 d1
    by_cases hlt : k < n
    · obtain ⟨b1, o1, kk, rfl, hb1, hkk, e1⟩ := kind_cell hA hk k hlt
      have kr := hks.out kk (List.mem_of_getElem? hkk)
      rw [← hB.cell (p := ⟨b1, o1 + k, none⟩) hb1] at e1
      obtain ⟨b2, o2, rfl, hb2, e4⟩ := (end_cell hC hs k).1 hlt
      rw [← hB.cell (p := ⟨b2, o2 + k, none⟩) hb2] at e4
      have hit := items_get (es := es) hkk
      have hil : k < (items ks es).length := (List.getElem?_eq_some_iff.1 hit).1
      have hie := (List.getElem?_eq_some_iff.1 hit).2
      obtain ⟨eb, heb⟩ : ∃ eb, eb = es.getD k false := ⟨_, rfl⟩
      have hrun := HR.out
      rw [List.drop_eq_getElem_cons hil, hie] at hrun
      rw [← heb] at e4 hrun
      simp only [walkF] at hrun
      have HR2 := Lib.hid hrun
      have kr := Lib.hid kr
      have k0 : (0 : Int) ≤ (k : Int) := by omega
      have k1 : (k : Int) < (n : Int) := by omega
      have hlt0 := bd.lt
      clear hrun HR heb hkk hie hit hil hA hC HF0
      by_cases q1 : 1 ≤ kk ∧ kk ≤ 5
      · have h3 := HR2.out
        rw [if_pos q1] at h3
        obtain ⟨a1, a2⟩ := q1
        obtain ⟨x, s', y', hS⟩ : ∃ x s' y', sendF st why kk eb = (x, s', y') := ⟨_, _, _, rfl⟩
        have ok' : OkSt s' y' := by have := sendF_ok (k := kk) (e := eb) ho; rw [hS] at this; exact this
        rw [hS] at h3
        simp only at h3
        have HR3 := Lib.hid h3
        have HS := Lib.hid hS
        clear h3 hS HR2
        have ok' := Lib.hid ok'
        by_cases hx : x = 0
        · have hx' : (x != 0) = false := by simp [hx]
          have h4 := HR3.out
          rw [if_pos hx] at h4
          have HR4 := Lib.hid h4
          clear h4 hx HR3
          go_wp2
          refine wpIn_wide.1 (region_rt (n := 0) [(9, false), (10, false)] [(0, .pointer (some ⟨w.heap.size, 0, none⟩)), (1, .slice (some ⟨b1, o1, none⟩) n c), (2, .int .i64 k), (3, .pointer (some ⟨b1, o1 + k, none⟩)), (4, .int .i64 kk),
            (5, .slice (some ⟨b2, o2, none⟩) n c'), (6, .int .i64 k), (7, .pointer (some ⟨b2, o2 + k, none⟩)), (8, .bool eb)] (fun W => W = wr.drew) (by kernel_rfl) (by kernel_rfl) rfl ?_ ?_)
          · (simp only [evOk, putAll, List.getElem?_toArray, List.getElem?_cons_zero, List.getElem?_cons_succ, Option.bind_some, Act.put, List.setIfInBounds_toArray, List.set_cons_zero, List.set_cons_succ]; repeat' apply And.intro) <;> first | exact trivial | (rintro W rfl; simp [go_sem, *]; done) | (intro W hW; simp [go_sem, *])
          · simp only [putAll, List.getElem?_toArray, List.getElem?_cons_zero, List.getElem?_cons_succ, Option.bind_some, Act.put, List.setIfInBounds_toArray, List.set_cons_zero, List.set_cons_succ]
            refine tail_step rfl ?_
            simp [go_sem]
            refine ⟨trivial, rfl, (callsIn_wide.2 (rsend_eq HS.out ho bd.drew)).mono ?_⟩
            rintro e w2 ⟨rfl, bd2, g2⟩
            have g2 := only_undrew g2
            refine tail_step rfl ?_
            simp [go_sem]
            unfold wpTail
            have sz2 := g2.size
            have hB2 : Below w.heap.size w w2 := hB.trans (only_below g2 (Nat.le_refl _) hB.size)
            have d2 := bd2.cell 0
            have d3 := bd2.cell 1
            simp at d2 d3
            go_wp2
            go_roundw
            case rel => exact ⟨k + 1, s', y', by go_num, by omega, ok'.out, HR4, bd2, hB2⟩
            case measure => simp [intOf]; omega
        · have hx' : (x != 0) = true := by simp [hx]
          have h4 := HR3.out
          rw [if_neg hx] at h4
          have HR4 := Lib.hid h4
          clear h4 hx HR3
          go_wp2
          refine wpIn_wide.1 (region_rt (n := 0) [(9, false), (10, false)] [(0, .pointer (some ⟨w.heap.size, 0, none⟩)), (1, .slice (some ⟨b1, o1, none⟩) n c), (2, .int .i64 k), (3, .pointer (some ⟨b1, o1 + k, none⟩)), (4, .int .i64 kk),
            (5, .slice (some ⟨b2, o2, none⟩) n c'), (6, .int .i64 k), (7, .pointer (some ⟨b2, o2 + k, none⟩)), (8, .bool eb)] (fun W => W = wr.drew) (by kernel_rfl) (by kernel_rfl) rfl ?_ ?_)
          · (simp only [evOk, putAll, List.getElem?_toArray, List.getElem?_cons_zero, List.getElem?_cons_succ, Option.bind_some, Act.put, List.setIfInBounds_toArray, List.set_cons_zero, List.set_cons_succ]; repeat' apply And.intro) <;> first | exact trivial | (rintro W rfl; simp [go_sem, *]; done) | (intro W hW; simp [go_sem, *])
          · simp only [putAll, List.getElem?_toArray, List.getElem?_cons_zero, List.getElem?_cons_succ, Option.bind_some, Act.put, List.setIfInBounds_toArray, List.set_cons_zero, List.set_cons_succ]
            refine tail_step rfl ?_
            simp [go_sem]
            refine ⟨trivial, rfl, (callsIn_wide.2 (rsend_eq HS.out ho bd.drew)).mono ?_⟩
            rintro e w2 ⟨rfl, bd2, g2⟩
            have g2 := only_undrew g2
            refine tail_step rfl ?_
            simp [go_sem]
            unfold wpTail
            have sz2 := g2.size
            have hB2 : Below w.heap.size w w2 := hB.trans (only_below g2 (Nat.le_refl _) hB.size)
            have d2 := bd2.cell 0
            have d3 := bd2.cell 1
            simp at d2 d3
            go_wp2
            go_quiet (fail)
            go_wp2
            go_ret3
            have h5 := HR4.out
            rw [← h5]
            exact ⟨ret_3int (by omega) rfl rfl, below_drewN hB2 _⟩
      · have h3 := HR2.out
        rw [if_neg q1] at h3
        have q1' : kk < 1 ∨ 5 < kk := by omega
        clear q1 HR2
        by_cases q2 : 1 ≤ kk - 10 ∧ kk - 10 ≤ 5
        · rw [if_pos q2] at h3
          have a1 : 11 ≤ kk := by omega
          have a2 : kk ≤ 15 := by omega
          have a0 : ¬ kk ≤ 5 := by omega
          clear q2 q1'
          obtain ⟨x, y, s', y', hS⟩ : ∃ x y s' y', comeF st why (kk - 10) eb = (x, y, s', y') := ⟨_, _, _, _, rfl⟩
          have ok' : OkSt s' y' := by have := comeF_ok (k := kk - 10) (e := eb) ho; rw [hS] at this; exact this
          rw [hS] at h3
          simp only at h3
          have HR3 := Lib.hid h3
          have HS := Lib.hid hS
          clear h3 hS
          have ok' := Lib.hid ok'
          by_cases hx : x ≤ 1
          · have h4 := HR3.out
            rw [if_pos hx] at h4
            have HR4 := Lib.hid h4
            clear h4 HR3
            go_wp2
            have hwr : IntKind.i64.wrap (kk - 10) = kk - 10 := IntWalk.i64_in _ (by omega)
            refine wpIn_wide.1 (region_rt3 (n := 0) [(10, false), (11, false)] [12, 13, 14, 15] [(0, .pointer (some ⟨w.heap.size, 0, none⟩)), (1, .slice (some ⟨b1, o1, none⟩) n c), (2, .int .i64 k), (3, .pointer (some ⟨b1, o1 + k, none⟩)), (4, .int .i64 kk), (5, .int .i64 (kk - 10)),
              (6, .slice (some ⟨b2, o2, none⟩) n c'), (7, .int .i64 k), (8, .pointer (some ⟨b2, o2 + k, none⟩)), (9, .bool eb)] (fun W => W = wr.drew) (by kernel_rfl) (by kernel_rfl) rfl ?_ ?_)
            · (simp only [evOk, putAll, List.getElem?_toArray, List.getElem?_cons_zero, List.getElem?_cons_succ, Option.bind_some, Act.put, List.setIfInBounds_toArray, List.set_cons_zero, List.set_cons_succ]; repeat' apply And.intro) <;> first | exact trivial | (rintro W rfl; simp [go_sem, *]; done) | (intro W hW; simp [go_sem, *])
            · simp only [putAll, List.getElem?_toArray, List.getElem?_cons_zero, List.getElem?_cons_succ, Option.bind_some, Act.put, List.setIfInBounds_toArray, List.set_cons_zero, List.set_cons_succ]
              clear hwr
              refine tail_step rfl ?_
              simp [go_sem]
              refine ⟨trivial, rfl, (callsIn_wide.2 (rcome_eq HS.out ho bd.drew)).mono ?_⟩
              rintro e w2 ⟨rfl, bd2, g2⟩
              have g2 := only_undrew g2
              refine tail_step rfl ?_
              simp [go_sem]
              unfold wpTail
              refine ⟨[(12, .int .i64 x), (13, .int .i64 y), (14, .int .i64 x), (15, .int .i64 y)], rfl, ?_, ?_⟩
              · (simp only [evOk, putAll, List.getElem?_toArray, List.getElem?_cons_zero, List.getElem?_cons_succ, Option.bind_some, Act.put, List.setIfInBounds_toArray, List.set_cons_zero, List.set_cons_succ]; repeat' apply And.intro) <;> first | exact trivial | (rintro W rfl; simp [go_sem, *]; done) | (intro W hW; simp [go_sem, *])
              simp only [putAll, List.getElem?_toArray, List.getElem?_cons_zero, List.getElem?_cons_succ, Option.bind_some, Act.put, List.setIfInBounds_toArray, List.set_cons_zero, List.set_cons_succ]
              have sz2 := g2.size
              have hB2 : Below w.heap.size w w2 := hB.trans (only_below g2 (Nat.le_refl _) hB.size)
              have d2 := bd2.cell 0
              have d3 := bd2.cell 1
              simp at d2 d3
              go_wp2
              go_roundw
              case rel => exact ⟨k + 1, s', y', by go_num, by omega, ok'.out, HR4, bd2, hB2⟩
              case measure => simp [intOf]; omega
          · have h4 := HR3.out
            rw [if_neg hx] at h4
            have HR4 := Lib.hid h4
            clear h4 HR3
            go_wp2
            have hwr : IntKind.i64.wrap (kk - 10) = kk - 10 := IntWalk.i64_in _ (by omega)
            refine wpIn_wide.1 (region_rt3 (n := 0) [(10, false), (11, false)] [12, 13, 14, 15] [(0, .pointer (some ⟨w.heap.size, 0, none⟩)), (1, .slice (some ⟨b1, o1, none⟩) n c), (2, .int .i64 k), (3, .pointer (some ⟨b1, o1 + k, none⟩)), (4, .int .i64 kk), (5, .int .i64 (kk - 10)),
              (6, .slice (some ⟨b2, o2, none⟩) n c'), (7, .int .i64 k), (8, .pointer (some ⟨b2, o2 + k, none⟩)), (9, .bool eb)] (fun W => W = wr.drew) (by kernel_rfl) (by kernel_rfl) rfl ?_ ?_)
            · (simp only [evOk, putAll, List.getElem?_toArray, List.getElem?_cons_zero, List.getElem?_cons_succ, Option.bind_some, Act.put, List.setIfInBounds_toArray, List.set_cons_zero, List.set_cons_succ]; repeat' apply And.intro) <;> first | exact trivial | (rintro W rfl; simp [go_sem, *]; done) | (intro W hW; simp [go_sem, *])
            · simp only [putAll, List.getElem?_toArray, List.getElem?_cons_zero, List.getElem?_cons_succ, Option.bind_some, Act.put, List.setIfInBounds_toArray, List.set_cons_zero, List.set_cons_succ]
              clear hwr
              refine tail_step rfl ?_
              simp [go_sem]
              refine ⟨trivial, rfl, (callsIn_wide.2 (rcome_eq HS.out ho bd.drew)).mono ?_⟩
              rintro e w2 ⟨rfl, bd2, g2⟩
              have g2 := only_undrew g2
              refine tail_step rfl ?_
              simp [go_sem]
              unfold wpTail
              refine ⟨[(12, .int .i64 x), (13, .int .i64 y), (14, .int .i64 x), (15, .int .i64 y)], rfl, ?_, ?_⟩
              · (simp only [evOk, putAll, List.getElem?_toArray, List.getElem?_cons_zero, List.getElem?_cons_succ, Option.bind_some, Act.put, List.setIfInBounds_toArray, List.set_cons_zero, List.set_cons_succ]; repeat' apply And.intro) <;> first | exact trivial | (rintro W rfl; simp [go_sem, *]; done) | (intro W hW; simp [go_sem, *])
              simp only [putAll, List.getElem?_toArray, List.getElem?_cons_zero, List.getElem?_cons_succ, Option.bind_some, Act.put, List.setIfInBounds_toArray, List.set_cons_zero, List.set_cons_succ]
              have sz2 := g2.size
              have hB2 : Below w.heap.size w w2 := hB.trans (only_below g2 (Nat.le_refl _) hB.size)
              have d2 := bd2.cell 0
              have d3 := bd2.cell 1
              simp at d2 d3
              go_wp2
              go_quiet (fail)
              go_wp2
              go_ret3
              have h5 := HR4.out
              rw [← h5]
              exact ⟨ret_3int (by omega) rfl rfl, below_drewN hB2 _⟩
        · rw [if_neg q2] at h3
          have HR4 := Lib.hid h3
          clear h3
          have b9 := bd
          rcases q1' with q1' | q1'
          · have b1' : ¬ 1 ≤ kk := by omega
            have b2' : ¬ 11 ≤ kk := by omega
            clear q2
            go_wp2
            go_roundw
            case rel => exact ⟨k + 1, st, why, by go_num, by omega, ho, HR4, b9, hB⟩
            case measure => simp [intOf]; omega
          · have b1' : ¬ kk ≤ 5 := by omega
            have b0' : 1 ≤ kk := by omega
            by_cases q3 : 11 ≤ kk
            · have q4 : ¬ kk ≤ 15 := by omega
              clear q2
              go_wp2
              go_roundw
              case rel => exact ⟨k + 1, st, why, by go_num, by omega, ho, HR4, b9, hB⟩
              case measure => simp [intOf]; omega
            · clear q2
              go_wp2
              go_roundw
              case rel => exact ⟨k + 1, st, why, by go_num, by omega, ho, HR4, b9, hB⟩
              case measure => simp [intOf]; omega
    · have h5 := HR.out
      rw [List.drop_of_length_le (by rw [items_len]; omega)] at h5
      simp only [walkF] at h5
      have HR5 := Lib.hid h5
      have hkn : (n : Int) = k := by omega
      have hkn := Lib.hid hkn
      clear h5 HR hA hC HF0
      go_wp2
      go_quiet (fail)
      go_wp2
      go_ret3
      rw [← HR5.out]
      exact ⟨ret_3int (by first | rfl | exact hkn.out | exact hkn.out.symm) rfl rfl, below_drewN hB _⟩
end Go.Proofs.Ytkicffapbcnkbaa
