/- stream: StreamAll. -/
import Derived.Test.YtkicffapbcnkbaaLaw1
set_option linter.all false
namespace Go.Proofs.Ytkicffapbcnkbaa
open Go.ChangeShapes Go.WideShapes Go.ChangeAt Go.RowKit
attribute [local go_sem] setCell_drewN alloc_drewN
theorem send_eq {b : Nat} {st why k x s' y' : Int} {e : Bool} {w : World} (h : sendF st why k e = (x, s', y')) (hv : OkSt st why) (hb : Blk w b 45 #[.int .i64 st, .int .i64 why]) : Calls Try.prog 11 #[.pointer (some ⟨b, 0, none⟩), .int .i64 k, .bool e] w fun e w' => e = .returned (.int .i64 x) ∧ Blk w' b 45 #[.int .i64 s', .int .i64 y'] ∧ w.grownBy w' (some b) := by
  have := send_any b st why k e w hv hb
  rw [h] at this
  exact this
theorem rsend_eq {b : Nat} {st why k x s' y' : Int} {e : Bool} {w : World} (h : sendF st why k e = (x, s', y')) (hv : OkSt st why) (hb : Blk w b 35 #[.int .i64 st, .int .i64 why]) : Calls Try.prog 12 #[.pointer (some ⟨b, 0, none⟩), .int .i64 k, .bool e] w fun e w' => e = .returned (.int .i64 x) ∧ Blk w' b 35 #[.int .i64 s', .int .i64 y'] ∧ w.grownBy w' (some b) := by
  have := rsend_any b st why k e w hv hb
  rw [h] at this
  exact this
theorem come_eq {b : Nat} {st why k x y s' y' : Int} {e : Bool} {w : World} (h : comeF st why k e = (x, y, s', y')) (hv : OkSt st why) (hb : Blk w b 45 #[.int .i64 st, .int .i64 why]) : Calls Try.prog 13 #[.pointer (some ⟨b, 0, none⟩), .int .i64 k, .bool e] w fun e w' => e = .returned (.tuple #[.int .i64 x, .int .i64 y]) ∧ Blk w' b 45 #[.int .i64 s', .int .i64 y'] ∧ w.grownBy w' (some b) := by
  have := come_any b st why k e w hv hb
  rw [h] at this
  exact this
theorem rcome_eq {b : Nat} {st why k x y s' y' : Int} {e : Bool} {w : World} (h : comeF st why k e = (x, y, s', y')) (hv : OkSt st why) (hb : Blk w b 35 #[.int .i64 st, .int .i64 why]) : Calls Try.prog 14 #[.pointer (some ⟨b, 0, none⟩), .int .i64 k, .bool e] w fun e w' => e = .returned (.tuple #[.int .i64 x, .int .i64 y]) ∧ Blk w' b 35 #[.int .i64 s', .int .i64 y'] ∧ w.grownBy w' (some b) := by
  have := rcome_any b st why k e w hv hb
  rw [h] at this
  exact this
theorem only_below {a b : World} {B g : Nat} (h : a.grownBy b (some g)) (h1 : B ≤ g) (h2 : B ≤ a.heap.size) : Below B a b := (Below.refl _ _).grown h h2 (fun k e => by injection e with e; omega)
theorem end_cell {w : World} {s n : Nat} {C : Option Addr} {es : List Bool} (h : Reads w s 1 C n (es.map (Value.bool ·))) (hl : es.length = n) (k : Nat) :
    (k < n → ∃ b o, C = some ⟨b, o, none⟩ ∧ b < s ∧ w.cell? ⟨b, o + k, none⟩ = some (.bool (es.getD k false))) ∧ (¬ k < n → es.getD k false = false) := by
  refine ⟨fun hk => ?_, fun hk => ?_⟩
  · obtain ⟨b, o, rfl, hb, h2⟩ := h.plain (by omega) (by omega)
    have hn : k < es.length := by omega
    exact ⟨b, o, rfl, hb, h2 k _ (by simp [hn])⟩
  · simp [List.getD_eq_getElem?_getD]
    rw [List.getElem?_eq_none (by omega)]
    rfl
theorem kind_cell {w : World} {s n : Nat} {A : Option Addr} {ks : List Int} (h : Reads w s 1 A n (ks.map (Value.int .i64 ·))) (hl : ks.length = n) (k : Nat) (hk : k < n) :
    ∃ b o x, A = some ⟨b, o, none⟩ ∧ b < s ∧ ks[k]? = some x ∧ w.cell? ⟨b, o + k, none⟩ = some (.int .i64 x) := by
  obtain ⟨b, o, rfl, hb, h2⟩ := h.plain (by omega) (by omega)
  have hn : k < ks.length := by omega
  exact ⟨b, o, ks[k], rfl, hb, by simp [hn], h2 k _ (by simp [hn])⟩
set_option maxRecDepth 100000 in
set_option maxHeartbeats 4000000 in
theorem streamAll (w : World) (kv : Value) (hk : Sl w 1 (fun _ => IsInt .i64) kv) (ev : Value) (he : Sl w 1 (fun _ => IsBool) ev) :
    Calls Try.prog 3 #[kv, ev] w fun e w' => e = .returned (.bool true) ∧ Below w.heap.size w w' := by
  obtain ⟨A, n, c, ks, rfl, hnc, hcm, hkl, hks, rk⟩ := ints_of_sl2 hk
  obtain ⟨C, n', c', es, rfl, hnc', hcm', hel, re⟩ := bools_of_sl he
  clear hk he
  unfold maxLen at hcm hcm'
  have hks := Lib.hid hks
  go_enter Try.func3, Try.ntmps3
  go_wp2_with (first
    | (go_at_call 8; refine (begun _).mono ?_; rintro e w1 ⟨rfl, hb1⟩)
    | (go_at_call 9; refine (new_ _).mono ?_; rintro e w' ⟨rfl, rfl⟩)
    | (go_at_call 10; refine (rnew _).mono ?_; rintro e w' ⟨rfl, rfl⟩))
  have hsz := hb1.size
  go_loopw [8] (fun i wr => ∃ (k : Nat) (st why : Int), i = .int .i64 k ∧ k ≤ n ∧ k ≤ 100 ∧ OkSt st why ∧ Blk wr w1.heap.size 45 #[.int .i64 st, .int .i64 why] ∧ Blk wr (w1.heap.size + 1) 35 #[.int .i64 st, .int .i64 why] ∧ Below w.heap.size w wr) (fun i _ => 100 - (intOf i).toNat)
  case atStart =>
    exact ⟨0, 0, 0, rfl, by omega, by omega, by simp [OkSt], (Blk.new _ _ _).alloc _, by have h := Blk.new (w1.alloc (.cells #[.int .i64 0, .int .i64 0] 45)) 35 #[.int .i64 0, .int .i64 0]; simp only [World.size_alloc] at h; exact h, (hb1.alloc hsz _).alloc (by simp; omega) _⟩
  case round =>
    obtain ⟨k, st, why, rfl, hk1, hk2, ho, bd, br, hB⟩ := hrel
    by_cases hlt : k < n
    · by_cases hlt2 : k < 100
      · obtain ⟨b1, o1, kk, rfl, hb1', hkk, e1⟩ := kind_cell rk hkl k hlt
        have kr := hks.out kk (List.mem_of_getElem? hkk)
        rw [← hB.cell (p := ⟨b1, o1 + k, none⟩) hb1'] at e1
        obtain ⟨e2, e3⟩ := end_cell re hel k
        obtain ⟨eb, heb⟩ : ∃ eb, eb = es.getD k false := ⟨_, rfl⟩
        rw [← heb] at e2 e3
        have k0 : (0 : Int) ≤ (k : Int) := by omega
        have k1 : (k : Int) < (n : Int) := by omega
        have kr := Lib.hid kr
        clear heb hkk rk
        by_cases hlt3 : k < n'
        · obtain ⟨b2, o2, rfl, hb2', e4⟩ := e2 hlt3
          rw [← hB.cell (p := ⟨b2, o2 + k, none⟩) hb2'] at e4
          have k2 : (k : Int) < (n' : Int) := by omega
          clear e2 e3
          by_cases ht : kk < 10
          · obtain ⟨x, s', y', hF⟩ : ∃ x s' y', sendF st why kk eb = (x, s', y') := ⟨_, _, _, rfl⟩
            have ok' : OkSt s' y' := by have := sendF_ok (k := kk) (e := eb) ho; rw [hF] at this; exact this
            have HF := Lib.hid hF
            clear hF
            go_wp2_with (first
              | (go_at_call 11; refine (send_eq HF.out ho bd).mono ?_; rintro e w2 ⟨rfl, bd2, g2⟩; have br2 := br.grown g2 (by simp); have e1' : w2.cell? ⟨b1, o1 + k, none⟩ = some (.int .i64 kk) := (World.cell?_of_block (g2.block b1 (by have := hB.size; omega) (by simp; omega))).trans e1)
              | (go_at_call 12; refine (rsend_eq HF.out ho br2).mono ?_; rintro e w3 ⟨rfl, br3, g3⟩; have bd3 := bd2.grown g3 (by simp)
                 have c3 := br3.cell 0
                 have c4 := br3.cell 1
                 simp at c3 c4))
            go_quiet (first
              | ((go_at_call 15; (first | refine quiet_add_left (state_ w1.heap.size s' y' _ ?_) | refine quiet_left (state_ w1.heap.size s' y' _ ?_)); exact bd3))
              | ((go_at_call 16; (first | refine quiet_add_left (why_ w1.heap.size s' y' _ ?_) | refine quiet_left (why_ w1.heap.size s' y' _ ?_)); exact bd3)))
            go_wp2
            go_roundw
            case rel =>
              have sz2 := g2.size
              exact ⟨k + 1, s', y', by go_num, by omega, by omega, ok', bd3.drewN _, br3.drewN _, below_drewN ((hB.trans (only_below g2 hsz hB.size)).trans (only_below g3 (by omega) (by have := hB.size; omega))) _⟩
            case measure => simp [intOf]; omega
          · have ht' : ¬ kk < 10 := ht
            obtain ⟨x, y, s', y', hF⟩ : ∃ x y s' y', comeF st why (kk - 10) eb = (x, y, s', y') := ⟨_, _, _, _, rfl⟩
            have ok' : OkSt s' y' := by have := comeF_ok (k := (kk - 10)) (e := eb) ho; rw [hF] at this; exact this
            have HF := Lib.hid hF
            clear hF
            go_wp2_with (first
              | (go_at_call 13; refine (come_eq HF.out ho bd).mono ?_; rintro e w2 ⟨rfl, bd2, g2⟩; have br2 := br.grown g2 (by simp); have e1' : w2.cell? ⟨b1, o1 + k, none⟩ = some (.int .i64 kk) := (World.cell?_of_block (g2.block b1 (by have := hB.size; omega) (by simp; omega))).trans e1)
              | (go_at_call 14; refine (rcome_eq HF.out ho br2).mono ?_; rintro e w3 ⟨rfl, br3, g3⟩; have bd3 := bd2.grown g3 (by simp)
                 have c3 := br3.cell 0
                 have c4 := br3.cell 1
                 simp at c3 c4))
            go_quiet (first
              | ((go_at_call 15; (first | refine quiet_add_left (state_ w1.heap.size s' y' _ ?_) | refine quiet_left (state_ w1.heap.size s' y' _ ?_)); exact bd3))
              | ((go_at_call 16; (first | refine quiet_add_left (why_ w1.heap.size s' y' _ ?_) | refine quiet_left (why_ w1.heap.size s' y' _ ?_)); exact bd3)))
            go_wp2
            go_roundw
            case rel =>
              have sz2 := g2.size
              exact ⟨k + 1, s', y', by go_num, by omega, by omega, ok', bd3.drewN _, br3.drewN _, below_drewN ((hB.trans (only_below g2 hsz hB.size)).trans (only_below g3 (by omega) (by have := hB.size; omega))) _⟩
            case measure => simp [intOf]; omega
        · obtain rfl := e3 hlt3
          have k2 : ¬ (k : Int) < (n' : Int) := by omega
          clear e2 e3
          by_cases ht : kk < 10
          · obtain ⟨x, s', y', hF⟩ : ∃ x s' y', sendF st why kk false = (x, s', y') := ⟨_, _, _, rfl⟩
            have ok' : OkSt s' y' := by have := sendF_ok (k := kk) (e := false) ho; rw [hF] at this; exact this
            have HF := Lib.hid hF
            clear hF
            go_wp2_with (first
              | (go_at_call 11; refine (send_eq HF.out ho bd).mono ?_; rintro e w2 ⟨rfl, bd2, g2⟩; have br2 := br.grown g2 (by simp); have e1' : w2.cell? ⟨b1, o1 + k, none⟩ = some (.int .i64 kk) := (World.cell?_of_block (g2.block b1 (by have := hB.size; omega) (by simp; omega))).trans e1)
              | (go_at_call 12; refine (rsend_eq HF.out ho br2).mono ?_; rintro e w3 ⟨rfl, br3, g3⟩; have bd3 := bd2.grown g3 (by simp)
                 have c3 := br3.cell 0
                 have c4 := br3.cell 1
                 simp at c3 c4))
            go_quiet (first
              | ((go_at_call 15; (first | refine quiet_add_left (state_ w1.heap.size s' y' _ ?_) | refine quiet_left (state_ w1.heap.size s' y' _ ?_)); exact bd3))
              | ((go_at_call 16; (first | refine quiet_add_left (why_ w1.heap.size s' y' _ ?_) | refine quiet_left (why_ w1.heap.size s' y' _ ?_)); exact bd3)))
            go_wp2
            go_roundw
            case rel =>
              have sz2 := g2.size
              exact ⟨k + 1, s', y', by go_num, by omega, by omega, ok', bd3.drewN _, br3.drewN _, below_drewN ((hB.trans (only_below g2 hsz hB.size)).trans (only_below g3 (by omega) (by have := hB.size; omega))) _⟩
            case measure => simp [intOf]; omega
          · have ht' : ¬ kk < 10 := ht
            obtain ⟨x, y, s', y', hF⟩ : ∃ x y s' y', comeF st why (kk - 10) false = (x, y, s', y') := ⟨_, _, _, _, rfl⟩
            have ok' : OkSt s' y' := by have := comeF_ok (k := (kk - 10)) (e := false) ho; rw [hF] at this; exact this
            have HF := Lib.hid hF
            clear hF
            go_wp2_with (first
              | (go_at_call 13; refine (come_eq HF.out ho bd).mono ?_; rintro e w2 ⟨rfl, bd2, g2⟩; have br2 := br.grown g2 (by simp); have e1' : w2.cell? ⟨b1, o1 + k, none⟩ = some (.int .i64 kk) := (World.cell?_of_block (g2.block b1 (by have := hB.size; omega) (by simp; omega))).trans e1)
              | (go_at_call 14; refine (rcome_eq HF.out ho br2).mono ?_; rintro e w3 ⟨rfl, br3, g3⟩; have bd3 := bd2.grown g3 (by simp)
                 have c3 := br3.cell 0
                 have c4 := br3.cell 1
                 simp at c3 c4))
            go_quiet (first
              | ((go_at_call 15; (first | refine quiet_add_left (state_ w1.heap.size s' y' _ ?_) | refine quiet_left (state_ w1.heap.size s' y' _ ?_)); exact bd3))
              | ((go_at_call 16; (first | refine quiet_add_left (why_ w1.heap.size s' y' _ ?_) | refine quiet_left (why_ w1.heap.size s' y' _ ?_)); exact bd3)))
            go_wp2
            go_roundw
            case rel =>
              have sz2 := g2.size
              exact ⟨k + 1, s', y', by go_num, by omega, by omega, ok', bd3.drewN _, br3.drewN _, below_drewN ((hB.trans (only_below g2 hsz hB.size)).trans (only_below g3 (by omega) (by have := hB.size; omega))) _⟩
            case measure => simp [intOf]; omega
      · go_wp2
        go_ret
        exact ⟨rfl, hB⟩
    · go_wp2
      go_ret
      exact ⟨rfl, hB⟩
end Go.Proofs.Ytkicffapbcnkbaa
