/- DrainOnce's walk. -/
import Derived.Test.YtjnjglhkfaopmaaLaw2
import Derived.Deep.DeepCutAuto
import Derived.Deep.CutBlock
set_option linter.all false
namespace Go.Proofs.Ytjnjglhkfaopmaa
open Go.ChangeShapes Go.WideShapes Go.ChangeAt Go.RowKit
attribute [local go_sem] setCell_drewN alloc_drewN
/-- going over the acts: whether it is closed, the last that was told; none: what may not be -/
def run : List (Int × Int) → Bool × Int → Option (Bool × Int)
  | [], s => some s
  | x :: xs, s => if s.1 = true ∨ (x.1 = 1 ∧ s.2 < x.2) then none else run xs (x.1 == 3, if x.1 = 1 then x.2 else s.2)
def Inv (c : Bool) (t ph : Int) : Prop := ((ph = 0 ∨ ph = 1) ∧ c = false ∧ t = 2147483647) ∨ (ph = 2 ∧ c = false) ∨ (ph = 3 ∧ c = true)
theorem run_close {c : Bool} {t l op : Int} (hc : c = false) (ht : t = 2147483647) (h1 : l ≤ 1000) : ∃ c' t', run ((1, l) :: lookA 2 op) (c, t) = some (c', t') ∧ Inv c' t' (lookP 2 op) := by
  subst hc ht
  have hl : ¬ (2147483647 < l) := by omega
  unfold lookA lookP
  by_cases h : op ≤ 0
  · simp only [h, and_self, if_true]
    refine ⟨true, l, ?_, .inr (.inr ⟨rfl, rfl⟩)⟩
    simp [run, hl]
  · simp only [h, and_false, if_false]
    refine ⟨false, l, ?_, .inr (.inl ⟨rfl, rfl⟩)⟩
    simp [run, hl]
theorem inv_begin {c : Bool} {t ph r op : Int} (h : Inv c t ph) : ∃ c' t', run (beginA r ph op) (c, t) = some (c', t') ∧ Inv c' t' (beginP r ph op) := by
  unfold beginA beginP
  by_cases h0 : ph = 0
  · subst h0
    rcases h with ⟨_, rfl, rfl⟩ | ⟨h, _⟩ | ⟨h, _⟩
    · simp only [ne_eq, not_true_eq_false, if_false]
      by_cases hr : r = 1
      · rw [if_pos hr, if_pos hr]
        exact run_close rfl rfl (by omega)
      · rw [if_neg hr, if_neg hr]
        exact ⟨false, 2147483647, by simp [run], .inl ⟨.inr rfl, rfl, rfl⟩⟩
    · omega
    · omega
  · rw [if_pos h0, if_pos h0]
    exact ⟨c, t, rfl, h⟩
theorem inv_pong {c : Bool} {t ph l op : Int} {mk : Bool} (h : Inv c t ph) (hl : l ≤ 1000) : ∃ c' t', run (pongA ph mk l op) (c, t) = some (c', t') ∧ Inv c' t' (pongP ph mk op) := by
  unfold pongA pongP
  by_cases h0 : ph = 1 ∧ mk = true
  · rw [if_pos h0, if_pos h0]
    obtain ⟨rfl, rfl⟩ := h0
    rcases h with ⟨_, rfl, rfl⟩ | ⟨h, _⟩ | ⟨h, _⟩
    · exact run_close rfl rfl hl
    · omega
    · omega
  · rw [if_neg h0, if_neg h0]
    exact ⟨c, t, rfl, h⟩
theorem inv_look {c : Bool} {t ph op : Int} (h : Inv c t ph) : ∃ c' t', run (lookA ph op) (c, t) = some (c', t') ∧ Inv c' t' (lookP ph op) := by
  unfold lookA lookP
  by_cases h0 : ph = 2 ∧ op ≤ 0
  · rw [if_pos h0, if_pos h0]
    obtain ⟨rfl, _⟩ := h0
    rcases h with ⟨h, _⟩ | ⟨_, rfl⟩ | ⟨h, _⟩
    · omega
    · exact ⟨true, t, by simp [run], .inr (.inr ⟨rfl, rfl⟩)⟩
    · omega
  · rw [if_neg h0, if_neg h0]
    exact ⟨c, t, rfl, h⟩
theorem inv_late {c : Bool} {t ph r l : Int} (h : Inv c t ph) (h0 : 0 ≤ l) (hl : l ≤ 1000) : ∃ c' t', run (lateA r ph l) (c, t) = some (c', t') ∧ Inv c' t' 3 := by
  unfold lateA
  rcases h with ⟨h, rfl, rfl⟩ | ⟨rfl, rfl⟩ | ⟨rfl, rfl⟩
  · rw [if_neg (by omega), if_neg (by omega)]
    by_cases hr : r = 1
    · rw [if_pos hr]
      exact ⟨true, 0, by simp [run], .inr (.inr ⟨rfl, rfl⟩)⟩
    · rw [if_neg hr]
      have : ¬ (2147483647 < l) := by omega
      exact ⟨true, l, by simp [run, this], .inr (.inr ⟨rfl, rfl⟩)⟩
  · rw [if_neg (by omega), if_pos rfl]
    exact ⟨true, t, by simp [run], .inr (.inr ⟨rfl, rfl⟩)⟩
  · rw [if_pos rfl]
    exact ⟨true, t, rfl, .inr (.inr ⟨rfl, rfl⟩)⟩
set_option maxRecDepth 100000 in
set_option maxHeartbeats 8000000 in
theorem drainOnce (w : World) (r : Int) (_ : (Lit.int .i64 r).wf = true) (v : Value) (hops : OpsOk w v) :
    Calls Try.prog 4 #[.int .i64 r, v] w fun e w' => e = .returned (.bool true) ∧ Below w.heap.size w w' := by
  obtain ⟨A, len, cap, rfl, hlen, hcap, hops⟩ := hops
  unfold maxLen at hcap
  by_cases hr : r = 1 ∨ r = 2
  · have hr' := Lib.hid hr
    clear hr
    go_enter Try.func4, Try.ntmps4
    go_wp2_with (first
      | (go_at_call 8; refine (begun _).mono ?_; rintro e w1 ⟨rfl, hb1⟩)
      | (go_at_call 9; refine (new_yes _ hr'.out _).mono ?_; rintro e w' ⟨rfl, rfl⟩))
    have hsz := hb1.size
    go_loopw [8, 9, 10, 11] (fun vc vt vl i wr => ∃ (k : Nat) (ph t l : Int) (c : Bool), vc = .bool c ∧ vt = .int .i64 t ∧ vl = .int .i64 l ∧ i = .int .i64 k ∧ k ≤ len ∧ k ≤ 20 ∧ 0 ≤ l ∧ l ≤ 1000 ∧ Inv c t ph ∧ Blk wr w1.heap.size 55 #[.int .i64 r, .int .i64 ph] ∧ Below w.heap.size w wr) (fun _ _ _ i _ => 20 - (intOf i).toNat)
    case atStart =>
      exact ⟨0, 0, 2147483647, 1000, false, rfl, rfl, rfl, rfl, by omega, by omega, by omega, by omega, .inl ⟨.inl rfl, rfl, rfl⟩, Blk.new _ _ _, hb1.alloc hsz _⟩
    case round =>
      obtain ⟨k, ph, t, l, c, rfl, rfl, rfl, rfl, hk1, hk2, hl0, hl1, hI, bd, hB⟩ := hrel
      by_cases hlt : k < len
      · by_cases hlt2 : k < 20
        · rcases hops with h | ⟨b, off, rfl, hb, hops⟩
          · omega
          obtain ⟨_, d1, kd, rfl, _⟩ := hops k (by omega) 0 (by omega)
          obtain ⟨_, d2, x1, rfl, _⟩ := hops k (by omega) 1 (by omega)
          obtain ⟨_, d3, x2, rfl, _⟩ := hops k (by omega) 2 (by omega)
          clear hops
          simp only [Nat.add_zero, ← Nat.add_assoc] at d1 d2 d3
          rw [← hB.cell (p := ⟨b, off + k * 4, none⟩) hb] at d1
          rw [← hB.cell (p := ⟨b, off + k * 4 + 1, none⟩) hb] at d2
          rw [← hB.cell (p := ⟨b, off + k * 4 + 2, none⟩) hb] at d3
          have HI := Lib.hid hI
          clear hI
          go_upto_region 11 with (fail)
          go_cut [47] (fun vc wx => vc = .bool (decide (0 ≤ x1 ∧ x1 < l)) ∧ wr = wx)
          case first =>
            go_wp2_with (fail)
            all_goals go_meet
            all_goals (case rel => exact ⟨congrArg Value.bool (by first | (rw [decide_eq_decide]; omega) | (symm; rw [decide_eq_false_iff_not]; omega)), rfl⟩)
          case rest =>
            obtain ⟨rfl, rfl⟩ := hcut
            go_upto_if 47 with (fail)
            go_cut [10] (fun vl wx => ∃ l' : Int, vl = .int .i64 l' ∧ 0 ≤ l' ∧ l' ≤ 1000 ∧ wr = wx)
            case first =>
              by_cases hu : 0 ≤ x1 ∧ x1 < l
              · go_wp2_with (fail)
                go_meet
                case rel => exact ⟨x1, rfl, by omega, by omega, rfl⟩
              · go_wp2_with (fail)
                go_meet
                case rel => exact ⟨l, rfl, by omega, by omega, rfl⟩
            case rest =>
              obtain ⟨l', rfl, hm0, hm1, rfl⟩ := hcut
              go_upto_block 2 with (fail)
              go_cut [12] (fun va wx => ∃ (xs : List (Int × Int)) (ph' t' : Int) (c' : Bool) (A : Option Addr) (cp : Nat), va = .slice A xs.length cp ∧ xs.length ≤ 2 ∧ Reads wx wx.heap.size 2 A xs.length (encA xs) ∧ Hid (run xs (c, t) = some (c', t')) ∧ Inv c' t' ph' ∧ Blk wx w1.heap.size 55 #[.int .i64 r, .int .i64 ph'] ∧ Below w.heap.size w wx)
              case first =>
                have d3a : ∀ O, (wr.alloc O).cell? ⟨b, off + k * 4 + 2, none⟩ = some (.int .i64 x2) := fun O => (World.cell?_alloc_lt wr O ⟨b, off + k * 4 + 2, none⟩ (by have := hB.size; simp; omega)).trans d3
                have kc := fun (w : World) (C : Array Value) (n c : Nat) => Lib.run_convert_bytes_const (P := Try.prog) w 32 5 C n c Try.underlying32 Try.underlying5
                go_wp2_with (first
                  | (go_at_call 10; refine (begin_ w1.heap.size r ph l' x2 _ bd).mono ?_; rintro e w2 ⟨A1, c1, rfl, hr1, hb1', hg1, hf1⟩)
                  | (go_at_call 12; refine (pong w1.heap.size r ph l' x2 _ _ _ _ markS true (str_mark _ _) markS_is (bd.alloc _)).mono ?_; rintro e w2 ⟨A1, c1, rfl, hr1, hb1', hg1, hf1⟩)
                  | (go_at_call 14; refine (look w1.heap.size r ph l' x2 _ bd).mono ?_; rintro e w2 ⟨A1, c1, rfl, hr1, hb1', hg1, hf1⟩)
                  | (go_at_call 16; refine (late w1.heap.size r ph l' _ bd).mono ?_; rintro e w2 ⟨A1, c1, rfl, hr1, hb1', hg1, hf1⟩))
                · go_meet
                  case rel =>
                    obtain ⟨c', t', hc, hi⟩ := inv_begin (r := r) (op := x2) HI.out
                    exact ⟨_, _, t', c', A1, c1, rfl, beginA_len _ _ _, hr1, hc, hi, hb1', hB.trans (only_below hg1 hsz hB.size)⟩
                · go_meet
                  case rel =>
                    obtain ⟨c', t', hc, hi⟩ := inv_pong (l := l') (mk := true) (op := x2) HI.out hm1
                    exact ⟨_, _, t', c', A1, c1, rfl, pongA_len _ _ _ _, hr1, hc, hi, hb1', (hB.alloc hB.size _).trans (only_below hg1 hsz (by have := hB.size; simp; omega))⟩
                · go_meet
                  case rel =>
                    obtain ⟨c', t', hc, hi⟩ := inv_look (op := x2) HI.out
                    exact ⟨_, _, t', c', A1, c1, rfl, by have := lookA_len ph x2; omega, hr1, hc, hi, hb1', hB.trans (only_below hg1 hsz hB.size)⟩
                · go_meet
                  case rel =>
                    obtain ⟨c', t', hc, hi⟩ := inv_late (r := r) HI.out hm0 hm1
                    exact ⟨_, _, t', c', A1, c1, rfl, lateA_len _ _ _, hr1, hc, hi, hb1', hB.trans (only_below hg1 hsz hB.size)⟩
                · go_meet
                  case rel => exact ⟨[], ph, t, c, none, 0, rfl, by simp, Reads.none_, rfl, HI.out, bd, hB⟩
              case rest =>
                obtain ⟨xs, ph', t', c', A, cp, rfl, hxl, hrd, hrun, hI', bd', hB'⟩ := hcut
                obtain ⟨n, hn⟩ : ∃ n, n = xs.length := ⟨_, rfl⟩
                rw [← hn] at hrd hxl ⊢
                have Hn := Lib.hid hn
                clear hn
                have HI' := Lib.hid hI'
                clear hI' HI
                go_wp2_with (fail)
                go_loop [8, 9, 13] (fun vc vt vk => ∃ (j : Nat) (c2 : Bool) (t2 : Int), vc = .bool c2 ∧ vt = .int .i64 t2 ∧ vk = .int .i64 j ∧ j ≤ n ∧ Hid (run (xs.drop j) (c2, t2) = some (c', t'))) (fun _ _ vk => n - (intOf vk).toNat)
                case atStart => exact ⟨0, c, t, rfl, rfl, rfl, by omega, hrun⟩
                case round =>
                  obtain ⟨j, c2, t2, rfl, rfl, rfl, hj, hrun2⟩ := hrel
                  by_cases hjn : j < n
                  · have hjx : j < xs.length := by rw [← Hn.out]; exact hjn
                    obtain ⟨b1, o1, rfl, _, hcells⟩ := hrd.plain (by omega) (by omega)
                    have e := encA_get xs j hjx
                    have hr2 := hrun2.out
                    rw [List.drop_eq_getElem_cons hjx] at hr2
                    obtain ⟨xk, xl, hx⟩ : ∃ xk xl, xs[j] = (xk, xl) := ⟨_, _, rfl⟩
                    rw [hx] at e hr2
                    simp only at e
                    have c1 := hcells _ _ e.1
                    have c2' := hcells _ _ e.2
                    simp only [← Nat.add_assoc] at c2'
                    clear e hx hcells
                    simp only [run] at hr2
                    by_cases hbad : c2 = true ∨ (xk = 1 ∧ t2 < xl)
                    · rw [if_pos hbad] at hr2; cases hr2
                    · rw [if_neg hbad] at hr2
                      obtain rfl : c2 = false := by
                        cases c2 with
                        | false => rfl
                        | true => exact absurd (.inl rfl) hbad
                      have k0 : (0 : Int) ≤ (j : Int) := by omega
                      have k1 : (j : Int) < (n : Int) := by omega
                      clear hrun2
                      by_cases hk1 : xk = 1
                      · subst hk1
                        have hle : xl ≤ t2 := by
                          rcases Int.lt_or_le t2 xl with h | h
                          · exact absurd (.inr ⟨rfl, h⟩) hbad
                          · exact h
                        have H2 := Lib.hid hr2
                        clear hr2 hbad
                        go_wp2
                        go_round
                        case rel => exact ⟨j + 1, _, _, rfl, rfl, by go_num, by omega, H2.out⟩
                        case measure => simp [intOf]; omega
                      · have q1 : (xk == 1) = false := by simp [hk1]
                        rw [if_neg hk1] at hr2
                        have H2 := Lib.hid hr2
                        clear hr2 hbad hk1
                        go_wp2
                        go_round
                        case rel => exact ⟨j + 1, _, _, rfl, rfl, by go_num, by omega, H2.out⟩
                        case measure => simp [intOf]; omega
                  · have hd : xs.drop j = [] := List.drop_eq_nil_of_le (by rw [← Hn.out]; omega)
                    have hr2 := hrun2.out
                    rw [hd] at hr2
                    simp only [run, Option.some.injEq, Prod.mk.injEq] at hr2
                    obtain ⟨rfl, rfl⟩ := hr2
                    clear hrun2 hd hrun
                    have hph : (!(c2 == (ph' == 3))) = false := by
                      rcases HI'.out with ⟨h | h, rfl, _⟩ | ⟨rfl, rfl⟩ | ⟨rfl, rfl⟩
                      · subst h; rfl
                      · subst h; rfl
                      · rfl
                      · rfl
                    go_wp2_with (go_at_call 19; refine (phase w1.heap.size r ph' _ bd').mono ?_; rintro e w' ⟨rfl, rfl⟩)
                    go_roundw
                    case rel => exact ⟨k + 1, ph', t2, l', c2, rfl, rfl, rfl, by go_num, by omega, by omega, hm0, hm1, HI'.out, bd', hB'⟩
                    case measure => simp [intOf]; omega
        · go_wp2
          go_ret
          exact ⟨rfl, hB⟩
      · go_wp2
        go_ret
        exact ⟨rfl, hB⟩
  · go_enter Try.func4, Try.ntmps4
    go_wp2_with (first
      | (go_at_call 8; refine (begun _).mono ?_; rintro e w1 ⟨rfl, hb1⟩)
      | (go_at_call 9; refine (new_no r hr _).mono ?_; rintro e w' ⟨rfl, rfl⟩))
    go_ret
    exact ⟨rfl, hb1⟩
end Go.Proofs.Ytjnjglhkfaopmaa
