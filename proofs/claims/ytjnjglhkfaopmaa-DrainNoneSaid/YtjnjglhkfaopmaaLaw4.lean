/- DrainNone's and DrainPeace's walks. -/
import Derived.Test.YtjnjglhkfaopmaaLaw2
import Derived.Deep.DeepCutAuto
import Derived.Deep.CutBlock
set_option linter.all false
namespace Go.Proofs.Ytjnjglhkfaopmaa
open Go.ChangeShapes Go.WideShapes Go.ChangeAt Go.RowKit
attribute [local go_sem] setCell_drewN alloc_drewN
theorem play_nil (w : World) : Calls Try.prog 21 #[.int .i64 2, .nilFunc] w fun e w' => e = .returned (.slice none 0 0) ∧ Below w.heap.size w w' := by
  have hq : ∀ w, (binOp .eql 48 .nilFunc .nilFunc).run Try.prog w = .ok (.bool true) w := fun _ => by kernel_rfl
  go_enter Try.func21, Try.ntmps21
  go_wp2
  go_step3
  go_wp2_with (go_at_call 9; refine (new_yes 2 (by omega) _).mono ?_; rintro e w' ⟨rfl, rfl⟩)
  rw [Exit.noGoto_ret]
  go_ret
  exact ⟨rfl, ((Below.refl _ _).alloc (Nat.le_refl _) _).alloc (by simp) _⟩
set_option maxHeartbeats 4000000 in
theorem drainNone (w : World) : Calls Try.prog 7 #[] w fun e w' => e = .returned (.bool true) ∧ Below w.heap.size w w' := by
  go_enter Try.func7, Try.ntmps7
  go_wp2_with (first
    | (go_at_call 8; refine (begun _).mono ?_; rintro e w1 ⟨rfl, hb1⟩)
    | (go_at_call 21; refine (play_nil _).mono ?_; rintro e w2 ⟨rfl, hb2⟩)
    | go_in)
  go_ret
  exact ⟨rfl, hb2.trans (hb1.mono hb2.size)⟩
def cnt : List (Int × Int) → Nat
  | [] => 0
  | x :: xs => cnt xs + if x.1 = 1 then 1 else 0
theorem cnt_append (a b : List (Int × Int)) : cnt (a ++ b) = cnt a + cnt b := by
  induction a with
  | nil => simp [cnt]
  | cons x a ih => simp only [List.cons_append, cnt, ih]; omega
theorem cnt_take (xs : List (Int × Int)) (k : Nat) (h : k < xs.length) : cnt (xs.take (k + 1)) = cnt (xs.take k) + if xs[k].1 = 1 then 1 else 0 := by
  rw [List.take_succ_eq_append_getElem h, cnt_append]
  simp [cnt]
theorem cnt_le (xs : List (Int × Int)) : cnt xs ≤ xs.length := by
  induction xs with
  | nil => simp [cnt]
  | cons x xs ih => simp only [cnt, List.length_cons]; split <;> omega
/-- the phases on the way, and all that is said -/
def ph1 (r op : Int) : Int := beginP r 0 op
def ph2 (r op : Int) : Int := pongP (ph1 r op) true op
def ph3 (r op : Int) : Int := lookP (ph2 r op) op
def ph4 (r op : Int) : Int := lookP (ph3 r op) 0
def L1 (r op : Int) : List (Int × Int) := beginA r 0 op
def L2 (r last op : Int) : List (Int × Int) := pongA (ph1 r op) true last op
def L3 (r op : Int) : List (Int × Int) := lookA (ph2 r op) op
def L4 (r op : Int) : List (Int × Int) := lookA (ph3 r op) 0
def tot (r last op : Int) : List (Int × Int) := L1 r op ++ (L2 r last op ++ (L3 r op ++ L4 r op))
theorem lookA_yes {op : Int} (h : op ≤ 0) : lookA 2 op = [(3, 0)] := by unfold lookA; rw [if_pos ⟨rfl, h⟩]
theorem lookA_no {op : Int} (h : ¬ op ≤ 0) : lookA 2 op = [] := by unfold lookA; rw [if_neg (fun e => h e.2)]
theorem lookP_yes {op : Int} (h : op ≤ 0) : lookP 2 op = 3 := by unfold lookP; rw [if_pos ⟨rfl, h⟩]
theorem lookP_no {op : Int} (h : ¬ op ≤ 0) : lookP 2 op = 2 := by unfold lookP; rw [if_neg (fun e => h e.2)]
theorem lookA3 (op : Int) : lookA 3 op = [] := by unfold lookA; rw [if_neg (by omega)]
theorem lookP3 (op : Int) : lookP 3 op = 3 := by unfold lookP; rw [if_neg (by omega)]
theorem tot_is {r : Int} (last op : Int) (hr : r = 1 ∨ r = 2) : ∃ (pre : List (Int × Int)) (l : Int), tot r last op = pre ++ [(3, l)] ∧ cnt (tot r last op) = (if r = 2 then 2 else 1) ∧ ph4 r op = 3 := by
  by_cases h : op ≤ 0
  · rcases hr with rfl | rfl
    · refine ⟨[(1, 0)], 0, ?_, ?_, ?_⟩ <;> simp [tot, L1, L2, L3, L4, ph1, ph2, ph3, ph4, beginA, beginP, pongA, pongP, lookA_yes h, lookP_yes h, cnt, lookA3, lookP3] <;> rfl
    · refine ⟨[(1, 2147483647), (2, 0), (1, last)], 0, ?_, ?_, ?_⟩ <;> simp [tot, L1, L2, L3, L4, ph1, ph2, ph3, ph4, beginA, beginP, pongA, pongP, lookA_yes h, lookP_yes h, cnt, lookA3, lookP3] <;> rfl
  · rcases hr with rfl | rfl
    · refine ⟨[(1, 0)], 0, ?_, ?_, ?_⟩ <;> simp [tot, L1, L2, L3, L4, ph1, ph2, ph3, ph4, beginA, beginP, pongA, pongP, lookA_no h, lookP_no h, cnt] <;> rfl
    · refine ⟨[(1, 2147483647), (2, 0), (1, last)], 0, ?_, ?_, ?_⟩ <;> simp [tot, L1, L2, L3, L4, ph1, ph2, ph3, ph4, beginA, beginP, pongA, pongP, lookA_no h, lookP_no h, cnt] <;> rfl
set_option maxRecDepth 100000 in
set_option maxHeartbeats 8000000 in
theorem drainPeace (w : World) (r : Int) (_ : (Lit.int .i64 r).wf = true) (last : Int) (_ : (Lit.int .i64 last).wf = true) (op : Int) (_ : (Lit.int .i64 op).wf = true) :
    Calls Try.prog 5 #[.int .i64 r, .int .i64 last, .int .i64 op] w fun e w' => e = .returned (.bool true) ∧ Below w.heap.size w w' := by
  by_cases hr : r = 1 ∨ r = 2
  · by_cases hl : 0 ≤ last ∧ last ≤ 2147483647
    · obtain ⟨hl0, hl1⟩ := hl
      obtain ⟨i0, hi, hz0, hz1, hz2⟩ := info_parts act_info
      have hr' := Lib.hid hr
      clear hr
      go_enter Try.func5, Try.ntmps5
      go_wp2_with (first
        | (go_at_call 8; refine (begun _).mono ?_; rintro e w1 ⟨rfl, hb1⟩)
        | (go_at_call 9; refine (new_yes _ hr'.out _).mono ?_; rintro e w' ⟨rfl, rfl⟩))
      have hsz := hb1.size
      have ln1 := beginA_len r 0 op
      have ln2 := pongA_len (ph1 r op) true last op
      have ln3 := lookA_len (ph2 r op) op
      have ln4 := lookA_len (ph3 r op) 0
      go_wp2_with (first
        | (go_at_call 10; refine (begin_ w1.heap.size r 0 last op _ (Blk.new _ _ _)).mono ?_; rintro e w2 ⟨A1, c1, rfl, hr1, hb1', hg1, hf1⟩
           have z1 : w1.heap.size + 1 ≤ w2.heap.size := by have := hg1.size; simp at this; exact this
           have B1 := (hb1.alloc hsz (.cells #[.int .i64 r, .int .i64 0] 55)).trans (only_below hg1 hsz (by simp; omega)))
        | (at_builtin
           refine wpList_append_any _ rfl (.tmp 36) (.tmp 37) _ rfl (w1.heap.size + 1) 42 i0 _ 2 16 Try.underlying31 hi hz0 hz1 hz2 rfl (by omega) (.slice none 0 0) 0 [] rfl (World.ownsRow_nil _ _ _ _) _ A1 _ c1 _ rfl hr1 (encA_one _) (by simp only [maxLen]; omega) (by omega) z1 ?_
           intro v1 u1 ho1 hgr1 _
           have hbd1 := hb1'.grown hgr1 (by simp [Value.ownBlock])
           have y1 := hgr1.size
           have B2 := B1.grown hgr1 (by omega) (fun k hk => by simp [Value.ownBlock] at hk))
        | (go_at_call 20; refine (mark _).mono ?_; rintro e w' ⟨rfl, rfl⟩)
        | (go_at_call 12; refine (pong w1.heap.size r (ph1 r op) last op _ _ _ _ markS true (str_mark _ _) markS_is (hbd1.alloc _)).mono ?_; rintro e w3 ⟨A2, c2, rfl, hr2, hb2', hg2, hf2⟩
           have z2 : u1.heap.size + 1 ≤ w3.heap.size := by have := hg2.size; simp at this; exact this
           have B3 := (B2.alloc (by omega) (.cells (encB markL).toArray 5 (8, 9))).trans (only_below hg2 hsz (by simp; omega))
           have ho1' := (ho1.alloc (.cells (encB markL).toArray 5 (8, 9))).kept hg2 (by cases hv : v1.ownBlock with | none => exact .inl rfl | some g => (right; have := (ho1.lt g hv).1; simp; omega)))
        | (at_builtin
           refine wpList_append_any _ rfl (.tmp 44) (.tmp 45) _ rfl (w1.heap.size + 1) 42 i0 _ 2 16 Try.underlying31 hi hz0 hz1 hz2 rfl (by omega) v1 _ _ rfl ho1' _ A2 _ c2 _ rfl hr2 (encA_one _) (by simp only [maxLen]; omega) (by omega) (by omega) ?_
           intro v2 u2 ho2 hgr2 _
           have hbd2 := hb2'.grown hgr2 (by cases hv : v1.ownBlock with | none => simp | some g => (have := (ho1.lt g hv).1; simp; omega))
           have y2 := hgr2.size
           have B4 := B3.grown hgr2 (by omega) (fun k hk => by have := (ho1'.lt k hk).1; omega))
        | (go_at_call 14; refine (look w1.heap.size r (ph2 r op) last op _ hbd2).mono ?_; rintro e w4 ⟨A3, c3, rfl, hr3, hb3', hg3, hf3⟩
           have z3 := hg3.size
           have B5 := B4.trans (only_below hg3 hsz (by omega))
           have ho2' := ho2.kept hg3 (by cases hv : v2.ownBlock with | none => exact .inl rfl | some g => (right; have := (ho2.lt g hv).1; simp; omega)))
        | (at_builtin
           refine wpList_append_any _ rfl (.tmp 51) (.tmp 52) _ rfl (w1.heap.size + 1) 42 i0 _ 2 16 Try.underlying31 hi hz0 hz1 hz2 rfl (by omega) v2 _ _ rfl ho2' _ A3 _ c3 _ rfl hr3 (encA_one _) (by simp only [maxLen]; omega) (by omega) (by omega) ?_
           intro v3 u3 ho3 hgr3 _
           have hbd3 := hb3'.grown hgr3 (by cases hv : v2.ownBlock with | none => simp | some g => (have := (ho2.lt g hv).1; simp; omega))
           have y3 := hgr3.size
           have B6 := B5.grown hgr3 (by omega) (fun k hk => by have := (ho2'.lt k hk).1; omega)
           clear hbd2)
        | (go_at_call 14; refine (look w1.heap.size r (ph3 r op) last 0 _ hbd3).mono ?_; rintro e w5 ⟨A4, c4, rfl, hr4, hb4', hg4, hf4⟩
           have z4 := hg4.size
           have B7 := B6.trans (only_below hg4 hsz (by omega))
           have ho3' := ho3.kept hg4 (by cases hv : v3.ownBlock with | none => exact .inl rfl | some g => (right; have := (ho3.lt g hv).1; simp; omega)))
        | (at_builtin
           refine wpList_append_any _ rfl (.tmp 57) (.tmp 58) _ rfl (w1.heap.size + 1) 42 i0 _ 2 16 Try.underlying31 hi hz0 hz1 hz2 rfl (by omega) v3 _ _ rfl ho3' _ A4 _ c4 _ rfl hr4 (encA_one _) (by simp only [maxLen]; omega) (by omega) (by omega) ?_
           intro v4 u4 ho4 hgr4 _
           have hbd4 := hb4'.grown hgr4 (by cases hv : v3.ownBlock with | none => simp | some g => (have := (ho3.lt g hv).1; simp; omega))
           have y4 := hgr4.size
           have B8 := B7.grown hgr4 (by omega) (fun k hk => by have := (ho3'.lt k hk).1; omega)))
      obtain ⟨pre, lk, htot, hcnt, hph⟩ := tot_is last op hr'.out
      have hL : [] ++ encA (beginA r 0 op) ++ encA (pongA (ph1 r op) true last op) ++ encA (lookA (ph2 r op) op) ++ encA (lookA (ph3 r op) 0) = encA (tot r last op) := by
        simp [tot, L1, L2, L3, L4, encA_append]
      have hN : 0 + (beginA r 0 op).length + (pongA (ph1 r op) true last op).length + (lookA (ph2 r op) op).length + (lookA (ph3 r op) 0).length = (tot r last op).length := by
        simp [tot, L1, L2, L3, L4]; omega
      rw [hL, hN] at ho4
      have hlen : (tot r last op).length ≤ 6 := by rw [← hN]; omega
      clear hL hN ho1 ho2 ho3 ho1' ho2' ho3' hr1 hr2 hr3 hr4 hf1 hf2 hf3 hf4 ln1 ln2 ln3 ln4
      generalize tot r last op = L at *
      obtain ⟨g, cp, rfl, hgb, hglt⟩ := ho4.form (by rw [htot]; simp)
      have hrd := Reads.of_own ho4
      obtain ⟨n, hn⟩ : ∃ n, n = L.length := ⟨_, rfl⟩
      rw [← hn] at hrd hlen ⊢
      have Hn := Lib.hid hn
      have Ht := Lib.hid htot
      have Hc := Lib.hid hcnt
      have Hp := Lib.hid hph
      clear hn htot hcnt hph
      have hbd := hbd4
      clear ho4 hbd1 hbd3 hbd4
      go_wp2_with (fail)
      go_loop [12, 13] (fun vg vi => ∃ j : Nat, vi = .int .i64 j ∧ j ≤ n ∧ vg = .int .i64 (cnt (L.take j) : Nat)) (fun _ vi => n - (intOf vi).toNat)
      case atStart => exact ⟨0, rfl, by omega, rfl⟩
      case round =>
        obtain ⟨j, rfl, hj, rfl⟩ := hrel
        by_cases hjn : j < n
        · have hjx : j < L.length := by rw [← Hn.out]; exact hjn
          obtain ⟨b1, o1, hA, _, hcells⟩ := hrd.plain (by omega) (by omega)
          injection hA with hA
          injection hA with hA1 hA2
          subst hA1 hA2
          have e := (encA_get L j hjx).1
          have c1' := hcells _ _ e
          simp only [Nat.zero_add] at c1'
          have hle := cnt_le (L.take j)
          have hle2 : (L.take j).length ≤ j := List.length_take_le _ _
          have hct := Lib.hid (cnt_take L j hjx)
          generalize cnt (L.take j) = q at *
          generalize L[j].1 = x at *
          clear e hcells
          have k0 : (0 : Int) ≤ (j : Int) := by omega
          have k1 : (j : Int) < (n : Int) := by omega
          by_cases hx : x = 1
          · subst hx
            go_wp2
            go_round
            case rel => exact ⟨j + 1, by go_num, by omega, by rw [hct.out]; simp⟩
            case measure => simp [intOf]; omega
          · have q1 : (x == 1) = false := by simp [hx]
            have hx' := Lib.hid hx
            clear hx
            go_wp2
            go_round
            case rel => exact ⟨j + 1, by go_num, by omega, by rw [hct.out, if_neg hx'.out]; simp⟩
            case measure => simp [intOf]; omega
        · obtain rfl : j = n := by omega
          have hcn : cnt (L.take j) = if r = 2 then 2 else 1 := by rw [List.take_of_length_le (by rw [← Hn.out]; exact Nat.le_refl _)]; exact Hc.out
          have hj1 : j = pre.length + 1 := by rw [Hn.out, Ht.out]; simp
          obtain ⟨b1, o1, hA, _, hcells⟩ := hrd.plain (by omega) (by omega)
          injection hA with hA
          injection hA with hA1 hA2
          subst hA1 hA2
          have e : (encA L)[pre.length * 2]? = some (.int .i64 3) := by
            rw [Ht.out, encA_append, List.getElem?_append_right (by rw [encA_len]; exact Nat.le_refl _), encA_len, Nat.sub_self]
            rfl
          have c1' := hcells _ _ e
          simp only [Nat.zero_add] at c1'
          rw [hcn]
          clear hcn e hcells hrd
          generalize pre.length = m at *
          subst hj1
          have m0 : (0 : Int) ≤ (m : Int) := by omega
          have m1 : (m : Int) < ((m + 1 : Nat) : Int) := by omega
          have hpp : ph4 r op = 3 := Hp.out
          have hbd' : Blk u4 w1.heap.size 55 #[.int .i64 r, .int .i64 3] := by rw [← hpp]; exact hbd
          clear hpp hbd
          rcases hr'.out with rfl | rfl
          all_goals
            go_wp2_with (go_at_call 19; refine (phase w1.heap.size _ 3 _ hbd').mono ?_; rintro e w' ⟨rfl, rfl⟩)
            go_ret
            exact ⟨rfl, B8⟩
    · have hr' := Lib.hid hr
      clear hr
      go_enter Try.func5, Try.ntmps5
      go_wp2_with (first
        | (go_at_call 8; refine (begun _).mono ?_; rintro e w1 ⟨rfl, hb1⟩)
        | (go_at_call 9; refine (new_yes _ hr'.out _).mono ?_; rintro e w' ⟨rfl, rfl⟩))
      all_goals (go_ret; exact ⟨rfl, hb1.alloc hb1.size _⟩)
  · go_enter Try.func5, Try.ntmps5
    go_wp2_with (first
      | (go_at_call 8; refine (begun _).mono ?_; rintro e w1 ⟨rfl, hb1⟩)
      | (go_at_call 9; refine (new_no r hr _).mono ?_; rintro e w' ⟨rfl, rfl⟩))
    go_ret
    exact ⟨rfl, hb1⟩
end Go.Proofs.Ytjnjglhkfaopmaa
