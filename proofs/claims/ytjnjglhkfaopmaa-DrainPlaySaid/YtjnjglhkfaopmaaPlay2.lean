/- The reference's Play. -/
import Derived.Test.YtjnjglhkfaopmaaPlay1
import Derived.Test.YtjnjglhkfaopmaaLaw2
import Derived.Deep.DeepCutAuto
import Derived.Deep.CutBlock
set_option linter.all false
namespace Go.Proofs.Ytjnjglhkfaopmaa
open Go.ChangeShapes Go.WideShapes Go.ChangeAt Go.RowKit
attribute [local go_sem] setCell_drewN alloc_drewN
def stepA (r ph k n : Int) : List (Int × Int) × Int :=
  if k = 1 then (beginA r ph n, beginP r ph n) else if k = 2 then (pongA ph true n n, pongP ph true n) else if k = 3 then (lookA ph n, lookP ph n) else if k = 4 then (lateA r ph n, 3) else ([], ph)
theorem stepA_len (r ph k n : Int) : (stepA r ph k n).1.length ≤ 2 := by
  unfold stepA
  split
  · exact beginA_len _ _ _
  split
  · exact pongA_len _ _ _ _
  split
  · have := lookA_len ph n; show (lookA ph n).length ≤ 2; omega
  split
  · exact lateA_len _ _ _
  · simp
theorem ret_sl_int {A : Option Addr} {n c : Nat} {k : IntKind} {a b : Int} (h : a = b) : Ending.returned (.tuple #[.slice A n c, .int k a]) = .returned (.tuple #[.slice A n c, .int k b]) := by rw [h]
def playR (r : Int) : Int → List (Int × Int) → List (Int × Int) → Nat → List (Int × Int) × Nat
  | _, acts, [], i => (acts, i)
  | ph, acts, x :: t, i => if (stepA r ph x.1 x.2).2 = 3 then (acts ++ (stepA r ph x.1 x.2).1, i + 1) else playR r (stepA r ph x.1 x.2).2 (acts ++ (stepA r ph x.1 x.2).1) t (i + 1)
set_option maxRecDepth 100000 in
set_option maxHeartbeats 8000000 in
theorem rplay (r : Int) (hr : r = 1 ∨ r = 2) (kns : List (Int × Int)) (n c c' : Nat) (A C : Option Addr) (w : World) (hn : n ≤ 100) (hl : kns.length = n)
    (hA : Reads w w.heap.size 1 A n (kns.map fun p => .int .i64 p.1)) (hC : Reads w w.heap.size 1 C n (kns.map fun p => .int .i64 p.2)) (FA : List (Int × Int)) (FC : Nat) (hF : playR r 0 [] kns 0 = (FA, FC)) :
    Calls Try.prog 23 #[.int .i64 r, .slice A n c, .slice C n c'] w fun e w' => ∃ B d, e = .returned (.tuple #[.slice B FA.length d, .int .i64 FC]) ∧ FA.length ≤ 200 ∧ Reads w' w'.heap.size 2 B FA.length (encA FA) ∧ Below w.heap.size w w' := by
  have hr' := Lib.hid hr
  have HF : Hid (playR r 0 [] (kns.drop 0) 0 = (FA, FC)) := Lib.hid hF
  clear hF
  go_enter Try.func23, Try.ntmps23
  clear hr
  go_upto_region 3 with (fail)
  go_cut [20] (fun v wx => v = .bool false ∧ wx = w.alloc (.cells #[.int .i64 r, .int .i64 0] 30))
  case first =>
    rcases hr'.out with rfl | rfl
    all_goals go_wp2
    all_goals go_meet
    all_goals (case rel => exact ⟨rfl, rfl⟩)
  case rest =>
    obtain ⟨rfl, rfl⟩ := hcut
    go_wp2
    go_loopw [9, 10] (fun vl vi wr => ∃ (k : Nat) (ph : Int) (acts : List (Int × Int)), vi = .int .i64 k ∧ k ≤ n ∧ acts.length ≤ 2 * k ∧ wr.ownsRow (w.heap.size + 1) 42 2 vl acts.length (encA acts) ∧
      Hid (playR r ph acts (kns.drop k) k = (FA, FC)) ∧ Blk wr w.heap.size 30 #[.int .i64 r, .int .i64 ph] ∧ Below w.heap.size w wr) (fun _ vi _ => n - (intOf vi).toNat)
    case atStart =>
      exact ⟨0, 0, [], rfl, by omega, by simp, World.ownsRow_nil _ _ _ _, HF, Blk.new _ _ _, (Below.refl _ w).alloc (Nat.le_refl _) _⟩
    case round =>
      obtain ⟨k, ph, acts, rfl, hk, hal, hown, hrun, bd, hB⟩ := hrel
      by_cases hlt : k < n
      · have hkl : k < kns.length := by omega
        obtain ⟨b1, o1, rfl, hb1, h1⟩ := hA.plain (by omega) (by omega)
        obtain ⟨b2, o2, rfl, hb2, h2⟩ := hC.plain (by omega) (by omega)
        have e1 := h1 k (.int .i64 kns[k].1) (by simp [hkl])
        have e2 := h2 k (.int .i64 kns[k].2) (by simp [hkl])
        have hr2 := hrun.out
        rw [List.drop_eq_getElem_cons hkl] at hr2
        obtain ⟨kk, x, hx⟩ : ∃ kk x, kns[k] = (kk, x) := ⟨_, _, rfl⟩
        rw [hx] at e1 e2 hr2
        simp only at e1 e2
        simp only [playR] at hr2
        rw [← hB.cell (p := ⟨b1, o1 + k, none⟩) hb1] at e1
        rw [← hB.cell (p := ⟨b2, o2 + k, none⟩) hb2] at e2
        clear hx h1 h2 hrun
        have HR := Lib.hid hr2
        clear hr2
        have k0 : (0 : Int) ≤ (k : Int) := by omega
        have k1 : (k : Int) < (n : Int) := by omega
        have lst := stepA_len r ph kk x
        go_upto_block 2 with (fail)
        go_cut [11] (fun va wx => ∃ (A : Option Addr) (cp : Nat), va = .slice A (stepA r ph kk x).1.length cp ∧ Reads wx wx.heap.size 2 A (stepA r ph kk x).1.length (encA (stepA r ph kk x).1) ∧ Blk wx w.heap.size 30 #[.int .i64 r, .int .i64 (stepA r ph kk x).2] ∧ wr.grownBy wx (some w.heap.size))
        case first =>
          have kc := fun (w : World) (C : Array Value) (n c : Nat) => Lib.run_convert_bytes_const (P := Try.prog) w 32 5 C n c Try.underlying32 Try.underlying5
          go_wp2_with (first
            | (go_at_call 11; refine (rbegin w.heap.size r ph x _ hr'.out bd).mono ?_; rintro e w2 ⟨A1, c1, rfl, hr1, hb1', hg1, hf1⟩)
            | (go_at_call 15; refine (rlook w.heap.size r ph x _ bd).mono ?_; rintro e w2 ⟨A1, c1, rfl, hr1, hb1', hg1, hf1⟩)
            | (go_at_call 17; refine (rlate w.heap.size r ph x _ bd).mono ?_; rintro e w2 ⟨A1, c1, rfl, hr1, hb1', hg1, hf1⟩))
          · rename_i q1
            have st : stepA r ph kk x = (beginA r ph x, beginP r ph x) := by simp at q1; simp [stepA, q1]
            go_meet
            case rel => rw [st]; exact ⟨A1, c1, rfl, hr1, hb1', hg1⟩
          · rename_i q1 q2
            have st : stepA r ph kk x = (pongA ph true x x, pongP ph true x) := by simp at q1 q2; simp [stepA, q1, q2]
            refine wpIn_wide.1 (region_rt (n := 0) [(1, true), (2, true), (11, false), (12, false)] [(0, .pointer (some ⟨w.heap.size, 0, none⟩)), (3, .slice (some ⟨b2, o2, none⟩) n c'), (4, .int .i64 k), (5, .pointer (some ⟨b2, o2 + k, none⟩)), (6, .int .i64 x),
              (7, .slice (some ⟨b2, o2, none⟩) n c'), (8, .int .i64 k), (9, .pointer (some ⟨b2, o2 + k, none⟩)), (10, .int .i64 x)] (fun W => W.cell? ⟨b2, o2 + k, none⟩ = some (.int .i64 x)) (by kernel_rfl) (by kernel_rfl) e2 ?_ ?_)
            · (simp only [evOk, putAll, List.getElem?_toArray, List.getElem?_cons_zero, List.getElem?_cons_succ, Option.bind_some, Act.put, List.setIfInBounds_toArray, List.set_cons_zero, List.set_cons_succ]; repeat' apply And.intro) <;> first | exact trivial | (rintro W rfl; simp [go_sem, *]; done) | (intro W hW; simp [go_sem, *])
            · simp only [wpTail, putAll, List.getElem?_toArray, List.getElem?_cons_zero, List.getElem?_cons_succ, Option.bind_some, Act.put, List.setIfInBounds_toArray, List.set_cons_zero, List.set_cons_succ]
              have d2a : ∀ O, (wr.alloc O).cell? ⟨b2, o2 + k, none⟩ = some (.int .i64 x) := fun O => (World.cell?_alloc_lt wr O ⟨b2, o2 + k, none⟩ (by have := hB.size; simp; omega)).trans e2
              have kd := kc wr.drew (encB markL).toArray 8 8
              simp only [show wr.drew.heap.size = wr.heap.size from rfl, show ∀ O, wr.drew.alloc O = (wr.alloc O).drew from fun _ => rfl] at kd
              have km : (encB markL).toArray = #[.int .u8 100, .int .u8 114, .int .u8 97, .int .u8 105, .int .u8 110, .int .u8 0, .int .u8 0, .int .u8 0] := by kernel_rfl
              rw [km] at kd
              simp [go_sem, d2a, kd]
              refine ⟨trivial, rfl, (callsIn_wide.2 (rpong w.heap.size r ph x x _ _ 8 8 markS true (str_mark wr.drew 8) markS_is ((bd.alloc _).drew))).mono ?_⟩
              rintro e w2 ⟨A1, c1, rfl, hr1, hb1', hg1, hf1⟩
              simp only []
              go_step
              go_meet
              case rel => rw [st]; exact ⟨A1, c1, rfl, hr1, hb1', only_trans (only_drewN (only_alloc (World.grownBy.refl wr _) _) 1) hg1 (fun i e => .inl (by injection e with e; exact e.symm))⟩
          · rename_i q1 q2 q3
            have st : stepA r ph kk x = (lookA ph x, lookP ph x) := by simp at q1 q2 q3; simp [stepA, q1, q2, q3]
            go_meet
            case rel => rw [st]; exact ⟨A1, c1, rfl, hr1, hb1', hg1⟩
          · rename_i q1 q2 q3 q4
            have st : stepA r ph kk x = (lateA r ph x, 3) := by simp at q1 q2 q3 q4; simp [stepA, q1, q2, q3, q4]
            go_meet
            case rel => rw [st]; exact ⟨A1, c1, rfl, hr1, hb1', hg1⟩
          · rename_i q1 q2 q3 q4
            have st : stepA r ph kk x = ([], ph) := by simp at q1 q2 q3 q4; simp [stepA, q1, q2, q3, q4]
            go_meet
            case rel => rw [st]; exact ⟨none, 0, rfl, Reads.none_, bd, World.grownBy.refl wr _⟩
        case rest =>
          obtain ⟨A1, c1, rfl, hr1, bd1, hg1⟩ := hcut
          obtain ⟨xs, ph', hst⟩ : ∃ xs ph', stepA r ph kk x = (xs, ph') := ⟨_, _, rfl⟩
          rw [hst] at lst hr1 bd1 HR
          rw [hst]
          simp only at lst hr1 bd1 HR ⊢
          clear hst
          have c8 := bd1.cell 1
          simp at c8
          have hlt0 := bd1.lt
          have hown1 := hown.kept hg1 (by
            cases ho : u9.ownBlock with
            | none => exact .inl rfl
            | some g => right; intro e; injection e with e; have := (hown.lt g ho).1; omega)
          obtain ⟨i0, hi, hz0, hz1, hz2⟩ := info_parts act_info
          go_upto_region 18 with (fail)
          have hmax : acts.length + xs.length ≤ maxLen := by unfold maxLen; omega
          have hr1' := hr1
          have hB1 : Below w.heap.size w wc := hB.trans (only_below hg1 (Nat.le_refl _) hB.size)
          clear hA hC e1 e2 hown hr1 HF hl hB
          have rn : ∀ a b c : Nat, c = 16 → (a + b ≤ 200) → (a + b) * c ≤ 140737488355328 := fun a b c h1 h2 => by subst h1; omega
          have hal2 : acts.length + xs.length ≤ 200 := by omega
          have HR3 := HR.out
          by_cases h3 : ph' = 3
          · rw [if_pos h3] at HR3
            have q3 : (ph' == 3) = true := by simp [h3]
            have HR4 := Lib.hid HR3
            clear HR HR3
            go_wp2_with (at_builtin; refine wpList_append_any wc rfl _ _ _ rfl (w.heap.size + 1) 42 i0 _ 2 16 Try.underlying31 hi hz0 hz1 hz2 rfl (by decide) u9 acts.length (encA acts) rfl hown1 _ A1 _ c1 _ rfl hr1' (encA_one _) hmax (rn _ _ _ rfl hal2) hlt0 ?_; intro v3 w3 hown3 hg3 hat3; have bd3 : Blk w3 w.heap.size 30 #[.int .i64 r, .int .i64 ph'] := bd1.grown hg3 (by intro e; have := (hown1.lt _ e.symm).1; omega); have c9 := bd3.cell 1; simp at c9; have hB3 : Below w.heap.size w w3 := hB1.trans ((Below.refl _ _).grown hg3 (by omega) (fun k e => by have := (hown1.lt _ e).1; omega)); clear rn hown1 hat3 hr1' hmax hz0 hz1 hz2 hi)
            obtain ⟨A3, d3, rfl⟩ := own_slice hown3 (by decide)
            have HF2 := HR4.out
            injection HF2 with e1 e2
            subst e1 e2
            have hr3 := Reads.of_own hown3
            rw [← encA_append, ← List.length_append] at hr3
            go_ret2
            rw [← List.length_append]
            exact ⟨A3, d3, ret_sl_int (by omega), by simp; omega, hr3, hB3⟩
          · rw [if_neg h3] at HR3
            have q3 : (ph' == 3) = false := by simp [h3]
            have HR4 := Lib.hid HR3
            clear HR HR3
            go_wp2_with (at_builtin; refine wpList_append_any wc rfl _ _ _ rfl (w.heap.size + 1) 42 i0 _ 2 16 Try.underlying31 hi hz0 hz1 hz2 rfl (by decide) u9 acts.length (encA acts) rfl hown1 _ A1 _ c1 _ rfl hr1' (encA_one _) hmax (rn _ _ _ rfl hal2) hlt0 ?_; intro v3 w3 hown3 hg3 hat3; have bd3 : Blk w3 w.heap.size 30 #[.int .i64 r, .int .i64 ph'] := bd1.grown hg3 (by intro e; have := (hown1.lt _ e.symm).1; omega); have c9 := bd3.cell 1; simp at c9; have hB3 : Below w.heap.size w w3 := hB1.trans ((Below.refl _ _).grown hg3 (by omega) (fun k e => by have := (hown1.lt _ e).1; omega)); clear rn hown1 hat3 hr1' hmax hz0 hz1 hz2 hi)
            go_roundw
            case rel => exact ⟨k + 1, ph', acts ++ xs, by go_num, by omega, by simp; omega, by rw [encA_append, List.length_append]; exact hown3, HR4, bd3, hB3⟩
            case measure => simp [intOf]; omega
      · have hkn : (n : Int) = k := by omega
        have hkn := Lib.hid hkn
        have hal2 : acts.length ≤ 200 := by omega
        have h1 := hrun.out
        rw [List.drop_of_length_le (by omega)] at h1
        simp only [playR] at h1
        injection h1 with e1 e2
        subst e1 e2
        obtain ⟨A3, d3, rfl⟩ := own_slice hown (by decide)
        have hr3 := Reads.of_own hown
        clear hrun hA hC HF hn
        go_wp2
        go_ret2
        exact ⟨A3, d3, ret_sl_int (by first | rfl | exact hkn.out | exact hkn.out.symm), hal2, hr3, hB⟩
end Go.Proofs.Ytjnjglhkfaopmaa
