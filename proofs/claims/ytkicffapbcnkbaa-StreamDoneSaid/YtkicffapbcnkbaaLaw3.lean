/- stream: StreamDone. -/
import Derived.Test.YtkicffapbcnkbaaLaw2
set_option linter.all false
namespace Go.Proofs.Ytkicffapbcnkbaa
open Go.ChangeShapes Go.WideShapes Go.ChangeAt Go.RowKit
attribute [local go_sem] setCell_drewN alloc_drewN
theorem sendF_done {why k : Int} {e : Bool} : (sendF 4 why k e).2.1 = 4 := by
  unfold sendF
  (repeat' split) <;> first | rfl | omega
theorem comeF_done {why k : Int} {e : Bool} : (comeF 4 why k e).2.2.1 = 4 := by
  unfold comeF
  (repeat' split) <;> first | rfl | omega
theorem okst_iff {s y : Int} (h : OkSt s y) : (s = 4 → y ≠ 0) ∧ (s ≠ 4 → y = 0) := by unfold OkSt at h; omega
set_option maxRecDepth 100000 in
set_option maxHeartbeats 16000000 in
theorem streamDone (w : World) (kv : Value) (hk : Sl w 1 (fun _ => IsInt .i64) kv) (ev : Value) (he : Sl w 1 (fun _ => IsBool) ev) :
    Calls Try.prog 7 #[kv, ev] w fun e w' => e = .returned (.bool true) ∧ Below w.heap.size w w' := by
  obtain ⟨A, n, c, ks, rfl, hnc, hcm, hkl, hks, rk⟩ := ints_of_sl2 hk
  obtain ⟨C, n', c', es, rfl, hnc', hcm', hel, re⟩ := bools_of_sl he
  clear hk he
  unfold maxLen at hcm hcm'
  have hks := Lib.hid hks
  go_enter Try.func7, Try.ntmps7
  go_wp2_with (first
    | (go_at_call 8; refine (begun _).mono ?_; rintro e w1 ⟨rfl, hb1⟩)
    | (go_at_call 9; refine (new_ _).mono ?_; rintro e w' ⟨rfl, rfl⟩))
  have hsz := hb1.size
  go_loopw [7, 8] (fun dn i wr => ∃ (k : Nat) (st why : Int), i = .int .i64 k ∧ dn = .bool (st == 4) ∧ k ≤ n ∧ k ≤ 100 ∧ OkSt st why ∧ Blk wr w1.heap.size 45 #[.int .i64 st, .int .i64 why] ∧ Below w.heap.size w wr) (fun _ i _ => 100 - (intOf i).toNat)
  case atStart =>
    exact ⟨0, 0, 0, rfl, rfl, by omega, by omega, by simp [OkSt], Blk.new _ _ _, hb1.alloc hsz _⟩
  case round =>
    obtain ⟨k, st, why, rfl, rfl, hk1, hk2, ho, bd, hB⟩ := hrel
    by_cases hlt : k < n
    · by_cases hlt2 : k < 100
      · obtain ⟨b1, o1, kk, rfl, hb1', hkk, e1⟩ := kind_cell rk hkl k hlt
        have kr := hks.out kk (List.mem_of_getElem? hkk)
        rw [← hB.cell (p := ⟨b1, o1 + k, none⟩) hb1'] at e1
        obtain ⟨e2, e3⟩ := end_cell re hel k
        obtain ⟨eb, heb⟩ : ∃ eb, eb = es.getD k false := ⟨_, rfl⟩
        rw [← heb] at e2 e3
        have k0 : (0 : Int) ≤ (k : Int) := by omega
        have k1 : (k : Int) < (n : Int) := by omega
        have kr := Lib.hid kr
        clear heb hkk rk
        by_cases hlt3 : k < n'
        · obtain ⟨b2, o2, rfl, hb2', e4⟩ := e2 hlt3
          rw [← hB.cell (p := ⟨b2, o2 + k, none⟩) hb2'] at e4
          have k2 : (k : Int) < (n' : Int) := by omega
          clear e2 e3
          by_cases ht : kk < 10
          · skip
            obtain ⟨x, s', y', hF⟩ : ∃ x s' y', sendF st why kk eb = (x, s', y') := ⟨_, _, _, rfl⟩
            have ok' : OkSt s' y' := by have := sendF_ok (k := kk) (e := eb) ho; rw [hF] at this; exact this
            have hst : st = 4 → s' = 4 := fun h => by have := sendF_done (why := why) (k := kk) (e := eb); rw [← h, hF] at this; exact this.trans h
            have HF := Lib.hid hF
            have H5 : sendF st why 5 eb = (0, st, why) := by simp [sendF]
            obtain ⟨lv, hlv⟩ : ∃ lv, comeF st why 5 eb = (lv, 0, st, why) := by unfold comeF; rw [if_neg (by omega)]; by_cases h4 : st = 4 <;> simp [h4]
            have H5 := Lib.hid H5
            have HL := Lib.hid hlv
            clear hF hlv
            have ok2 := okst_iff ok'
            have hcase : (st = 4 ∧ s' = 4 ∧ (y' != 0) = true) ∨ (st ≠ 4 ∧ s' = 4 ∧ (y' != 0) = true) ∨ (st ≠ 4 ∧ s' ≠ 4 ∧ (y' != 0) = false) := by
              by_cases h4 : st = 4
              · exact .inl ⟨h4, hst h4, by simpa using ok2.1 (hst h4)⟩
              · by_cases h5 : s' = 4
                · exact .inr (.inl ⟨h4, h5, by simpa using ok2.1 h5⟩)
                · exact .inr (.inr ⟨h4, h5, by simpa using ok2.2 h5⟩)
            have Hok := Lib.hid ok'
            have Hrel : Hid ((st = 4) → (st == 4) = true) := Lib.hid (fun h => by simp [h])
            clear hst ok2 ok'
            rcases hcase with ⟨q1, q2, q3⟩ | ⟨q1, q2, q3⟩ | ⟨q1, q2, q3⟩
            all_goals
              first | (have t1 : (st == 4) = true := by simp [q1]) | (have t1 : (st == 4) = false := by simp [q1])
              first | (have t2 : (s' == 4) = true := by simp [q2]) | (have t2 : (s' == 4) = false := by simp [q2])
              first | (have t3 : (s' != 4) = false := by simp [q2]) | (have t3 : (s' != 4) = true := by simp [q2])
              clear q1 q2
              go_wp2_with (first
                | (go_at_call 11; refine (send_eq H5.out ho bd).mono ?_; rintro e w2 ⟨rfl, bd2, g2⟩; clear bd; have e1' : w2.cell? ⟨b1, o1 + k, none⟩ = some (.int .i64 kk) := (World.cell?_of_block (g2.block b1 (by have := hB.size; have := hsz; omega) (by simp; omega))).trans e1; have z2 := g2.size)
                | (go_at_call 13; refine (come_eq HL.out ho bd2).mono ?_; rintro e w3 ⟨rfl, bd3, g3⟩; clear bd2; have e1'' : w3.cell? ⟨b1, o1 + k, none⟩ = some (.int .i64 kk) := (World.cell?_of_block (g3.block b1 (by have := hB.size; have := hsz; omega) (by simp; omega))).trans e1'; have z3 := g3.size)
                | (go_at_call 11; refine (send_eq HF.out ho bd3).mono ?_; rintro e w4 ⟨rfl, bd4, g4⟩; clear bd3)
                | (go_at_call 15; refine (state_ w1.heap.size _ _ _ (by assumption)).mono ?_; rintro e w' ⟨rfl, rfl⟩)
                | (go_at_call 16; refine (why_ w1.heap.size _ _ _ (by assumption)).mono ?_; rintro e w' ⟨rfl, rfl⟩))
              go_roundw
              case rel =>
                exact ⟨k + 1, s', y', by go_num, by first | rfl | simp [t2], by omega, by omega, Hok.out, bd4, ((hB.trans (only_below g2 hsz hB.size)).trans (only_below g3 hsz (by have := hB.size; omega))).trans (only_below g4 hsz (by have := hB.size; omega))⟩
              case measure => simp [intOf]; omega
          · have ht' : ¬ kk < 10 := ht
            obtain ⟨x, y, s', y', hF⟩ : ∃ x y s' y', comeF st why (kk - 10) eb = (x, y, s', y') := ⟨_, _, _, _, rfl⟩
            have ok' : OkSt s' y' := by have := comeF_ok (k := (kk - 10)) (e := eb) ho; rw [hF] at this; exact this
            have hst : st = 4 → s' = 4 := fun h => by have := comeF_done (why := why) (k := (kk - 10)) (e := eb); rw [← h, hF] at this; exact this.trans h
            have HF := Lib.hid hF
            have H5 : sendF st why 5 eb = (0, st, why) := by simp [sendF]
            obtain ⟨lv, hlv⟩ : ∃ lv, comeF st why 5 eb = (lv, 0, st, why) := by unfold comeF; rw [if_neg (by omega)]; by_cases h4 : st = 4 <;> simp [h4]
            have H5 := Lib.hid H5
            have HL := Lib.hid hlv
            clear hF hlv
            have ok2 := okst_iff ok'
            have hcase : (st = 4 ∧ s' = 4 ∧ (y' != 0) = true) ∨ (st ≠ 4 ∧ s' = 4 ∧ (y' != 0) = true) ∨ (st ≠ 4 ∧ s' ≠ 4 ∧ (y' != 0) = false) := by
              by_cases h4 : st = 4
              · exact .inl ⟨h4, hst h4, by simpa using ok2.1 (hst h4)⟩
              · by_cases h5 : s' = 4
                · exact .inr (.inl ⟨h4, h5, by simpa using ok2.1 h5⟩)
                · exact .inr (.inr ⟨h4, h5, by simpa using ok2.2 h5⟩)
            have Hok := Lib.hid ok'
            have Hrel : Hid ((st = 4) → (st == 4) = true) := Lib.hid (fun h => by simp [h])
            clear hst ok2 ok'
            rcases hcase with ⟨q1, q2, q3⟩ | ⟨q1, q2, q3⟩ | ⟨q1, q2, q3⟩
            all_goals
              first | (have t1 : (st == 4) = true := by simp [q1]) | (have t1 : (st == 4) = false := by simp [q1])
              first | (have t2 : (s' == 4) = true := by simp [q2]) | (have t2 : (s' == 4) = false := by simp [q2])
              first | (have t3 : (s' != 4) = false := by simp [q2]) | (have t3 : (s' != 4) = true := by simp [q2])
              clear q1 q2
              go_wp2_with (first
                | (go_at_call 11; refine (send_eq H5.out ho bd).mono ?_; rintro e w2 ⟨rfl, bd2, g2⟩; clear bd; have e1' : w2.cell? ⟨b1, o1 + k, none⟩ = some (.int .i64 kk) := (World.cell?_of_block (g2.block b1 (by have := hB.size; have := hsz; omega) (by simp; omega))).trans e1; have z2 := g2.size)
                | (go_at_call 13; refine (come_eq HL.out ho bd2).mono ?_; rintro e w3 ⟨rfl, bd3, g3⟩; clear bd2; have e1'' : w3.cell? ⟨b1, o1 + k, none⟩ = some (.int .i64 kk) := (World.cell?_of_block (g3.block b1 (by have := hB.size; have := hsz; omega) (by simp; omega))).trans e1'; have z3 := g3.size)
                | (go_at_call 13; refine (come_eq HF.out ho bd3).mono ?_; rintro e w4 ⟨rfl, bd4, g4⟩; clear bd3)
                | (go_at_call 15; refine (state_ w1.heap.size _ _ _ (by assumption)).mono ?_; rintro e w' ⟨rfl, rfl⟩)
                | (go_at_call 16; refine (why_ w1.heap.size _ _ _ (by assumption)).mono ?_; rintro e w' ⟨rfl, rfl⟩))
              go_roundw
              case rel =>
                exact ⟨k + 1, s', y', by go_num, by first | rfl | simp [t2], by omega, by omega, Hok.out, bd4, ((hB.trans (only_below g2 hsz hB.size)).trans (only_below g3 hsz (by have := hB.size; omega))).trans (only_below g4 hsz (by have := hB.size; omega))⟩
              case measure => simp [intOf]; omega
        · obtain rfl := e3 hlt3
          have k2 : ¬ (k : Int) < (n' : Int) := by omega
          clear e2 e3
          by_cases ht : kk < 10
          · skip
            obtain ⟨x, s', y', hF⟩ : ∃ x s' y', sendF st why kk false = (x, s', y') := ⟨_, _, _, rfl⟩
            have ok' : OkSt s' y' := by have := sendF_ok (k := kk) (e := false) ho; rw [hF] at this; exact this
            have hst : st = 4 → s' = 4 := fun h => by have := sendF_done (why := why) (k := kk) (e := false); rw [← h, hF] at this; exact this.trans h
            have HF := Lib.hid hF
            have H5 : sendF st why 5 false = (0, st, why) := by simp [sendF]
            obtain ⟨lv, hlv⟩ : ∃ lv, comeF st why 5 false = (lv, 0, st, why) := by unfold comeF; rw [if_neg (by omega)]; by_cases h4 : st = 4 <;> simp [h4]
            have H5 := Lib.hid H5
            have HL := Lib.hid hlv
            clear hF hlv
            have ok2 := okst_iff ok'
            have hcase : (st = 4 ∧ s' = 4 ∧ (y' != 0) = true) ∨ (st ≠ 4 ∧ s' = 4 ∧ (y' != 0) = true) ∨ (st ≠ 4 ∧ s' ≠ 4 ∧ (y' != 0) = false) := by
              by_cases h4 : st = 4
              · exact .inl ⟨h4, hst h4, by simpa using ok2.1 (hst h4)⟩
              · by_cases h5 : s' = 4
                · exact .inr (.inl ⟨h4, h5, by simpa using ok2.1 h5⟩)
                · exact .inr (.inr ⟨h4, h5, by simpa using ok2.2 h5⟩)
            have Hok := Lib.hid ok'
            have Hrel : Hid ((st = 4) → (st == 4) = true) := Lib.hid (fun h => by simp [h])
            clear hst ok2 ok'
            rcases hcase with ⟨q1, q2, q3⟩ | ⟨q1, q2, q3⟩ | ⟨q1, q2, q3⟩
            all_goals
              first | (have t1 : (st == 4) = true := by simp [q1]) | (have t1 : (st == 4) = false := by simp [q1])
              first | (have t2 : (s' == 4) = true := by simp [q2]) | (have t2 : (s' == 4) = false := by simp [q2])
              first | (have t3 : (s' != 4) = false := by simp [q2]) | (have t3 : (s' != 4) = true := by simp [q2])
              clear q1 q2
              go_wp2_with (first
                | (go_at_call 11; refine (send_eq H5.out ho bd).mono ?_; rintro e w2 ⟨rfl, bd2, g2⟩; clear bd; have e1' : w2.cell? ⟨b1, o1 + k, none⟩ = some (.int .i64 kk) := (World.cell?_of_block (g2.block b1 (by have := hB.size; have := hsz; omega) (by simp; omega))).trans e1; have z2 := g2.size)
                | (go_at_call 13; refine (come_eq HL.out ho bd2).mono ?_; rintro e w3 ⟨rfl, bd3, g3⟩; clear bd2; have e1'' : w3.cell? ⟨b1, o1 + k, none⟩ = some (.int .i64 kk) := (World.cell?_of_block (g3.block b1 (by have := hB.size; have := hsz; omega) (by simp; omega))).trans e1'; have z3 := g3.size)
                | (go_at_call 11; refine (send_eq HF.out ho bd3).mono ?_; rintro e w4 ⟨rfl, bd4, g4⟩; clear bd3)
                | (go_at_call 15; refine (state_ w1.heap.size _ _ _ (by assumption)).mono ?_; rintro e w' ⟨rfl, rfl⟩)
                | (go_at_call 16; refine (why_ w1.heap.size _ _ _ (by assumption)).mono ?_; rintro e w' ⟨rfl, rfl⟩))
              go_roundw
              case rel =>
                exact ⟨k + 1, s', y', by go_num, by first | rfl | simp [t2], by omega, by omega, Hok.out, bd4, ((hB.trans (only_below g2 hsz hB.size)).trans (only_below g3 hsz (by have := hB.size; omega))).trans (only_below g4 hsz (by have := hB.size; omega))⟩
              case measure => simp [intOf]; omega
          · have ht' : ¬ kk < 10 := ht
            obtain ⟨x, y, s', y', hF⟩ : ∃ x y s' y', comeF st why (kk - 10) false = (x, y, s', y') := ⟨_, _, _, _, rfl⟩
            have ok' : OkSt s' y' := by have := comeF_ok (k := (kk - 10)) (e := false) ho; rw [hF] at this; exact this
            have hst : st = 4 → s' = 4 := fun h => by have := comeF_done (why := why) (k := (kk - 10)) (e := false); rw [← h, hF] at this; exact this.trans h
            have HF := Lib.hid hF
            have H5 : sendF st why 5 false = (0, st, why) := by simp [sendF]
            obtain ⟨lv, hlv⟩ : ∃ lv, comeF st why 5 false = (lv, 0, st, why) := by unfold comeF; rw [if_neg (by omega)]; by_cases h4 : st = 4 <;> simp [h4]
            have H5 := Lib.hid H5
            have HL := Lib.hid hlv
            clear hF hlv
            have ok2 := okst_iff ok'
            have hcase : (st = 4 ∧ s' = 4 ∧ (y' != 0) = true) ∨ (st ≠ 4 ∧ s' = 4 ∧ (y' != 0) = true) ∨ (st ≠ 4 ∧ s' ≠ 4 ∧ (y' != 0) = false) := by
              by_cases h4 : st = 4
              · exact .inl ⟨h4, hst h4, by simpa using ok2.1 (hst h4)⟩
              · by_cases h5 : s' = 4
                · exact .inr (.inl ⟨h4, h5, by simpa using ok2.1 h5⟩)
                · exact .inr (.inr ⟨h4, h5, by simpa using ok2.2 h5⟩)
            have Hok := Lib.hid ok'
            have Hrel : Hid ((st = 4) → (st == 4) = true) := Lib.hid (fun h => by simp [h])
            clear hst ok2 ok'
            rcases hcase with ⟨q1, q2, q3⟩ | ⟨q1, q2, q3⟩ | ⟨q1, q2, q3⟩
            all_goals
              first | (have t1 : (st == 4) = true := by simp [q1]) | (have t1 : (st == 4) = false := by simp [q1])
              first | (have t2 : (s' == 4) = true := by simp [q2]) | (have t2 : (s' == 4) = false := by simp [q2])
              first | (have t3 : (s' != 4) = false := by simp [q2]) | (have t3 : (s' != 4) = true := by simp [q2])
              clear q1 q2
              go_wp2_with (first
                | (go_at_call 11; refine (send_eq H5.out ho bd).mono ?_; rintro e w2 ⟨rfl, bd2, g2⟩; clear bd; have e1' : w2.cell? ⟨b1, o1 + k, none⟩ = some (.int .i64 kk) := (World.cell?_of_block (g2.block b1 (by have := hB.size; have := hsz; omega) (by simp; omega))).trans e1; have z2 := g2.size)
                | (go_at_call 13; refine (come_eq HL.out ho bd2).mono ?_; rintro e w3 ⟨rfl, bd3, g3⟩; clear bd2; have e1'' : w3.cell? ⟨b1, o1 + k, none⟩ = some (.int .i64 kk) := (World.cell?_of_block (g3.block b1 (by have := hB.size; have := hsz; omega) (by simp; omega))).trans e1'; have z3 := g3.size)
                | (go_at_call 13; refine (come_eq HF.out ho bd3).mono ?_; rintro e w4 ⟨rfl, bd4, g4⟩; clear bd3)
                | (go_at_call 15; refine (state_ w1.heap.size _ _ _ (by assumption)).mono ?_; rintro e w' ⟨rfl, rfl⟩)
                | (go_at_call 16; refine (why_ w1.heap.size _ _ _ (by assumption)).mono ?_; rintro e w' ⟨rfl, rfl⟩))
              go_roundw
              case rel =>
                exact ⟨k + 1, s', y', by go_num, by first | rfl | simp [t2], by omega, by omega, Hok.out, bd4, ((hB.trans (only_below g2 hsz hB.size)).trans (only_below g3 hsz (by have := hB.size; omega))).trans (only_below g4 hsz (by have := hB.size; omega))⟩
              case measure => simp [intOf]; omega
      · go_wp2
        go_ret
        exact ⟨rfl, hB⟩
    · go_wp2
      go_ret
      exact ⟨rfl, hB⟩
end Go.Proofs.Ytkicffapbcnkbaa
