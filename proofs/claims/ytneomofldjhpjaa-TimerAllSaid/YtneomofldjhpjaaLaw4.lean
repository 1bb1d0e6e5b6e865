/- timer: TimerAll. -/
import Derived.Test.YtneomofldjhpjaaLaw3
set_option linter.all false
namespace Go.Proofs.Ytneomofldjhpjaa
open Go.ChangeShapes Go.WideShapes Go.ChangeAt Go.RowKit
attribute [local go_sem] setCell_drewN alloc_drewN
open Classical in
noncomputable def stopD (D : List Int) (k : Int) : List Int := if 1 ≤ k ∧ k ≤ 5 then D.set k.toNat (-1) else D
theorem stopD_ok {D : List Int} (h : OkD D) (k : Int) : OkD (stopD D k) := by
  unfold stopD
  split
  · exact h.set_ (by omega) (by omega)
  · exact h
section
variable {w : World} {D : List Int} {b : Nat}
theorem stop_any (hD : OkD D) (bd : Blk w b 51 (encP D).toArray) (k : Int) : Calls Try.prog 13 #[.pointer (some ⟨b, 0, none⟩), .int .i64 k] w fun e w' => e = .returned (.tuple #[]) ∧ Blk w' b 51 (encP (stopD D k)).toArray ∧ Keep [b] w w' := by
  unfold stopD
  by_cases h : 1 ≤ k ∧ k ≤ 5
  · rw [if_pos h]
    obtain ⟨n, rfl⟩ : ∃ n : Nat, k = n := ⟨k.toNat, by omega⟩
    refine (stop_yes w hD bd (k := n) (by omega) (by omega)).mono ?_
    rintro e w' ⟨rfl, h1, h2⟩
    exact ⟨rfl, h1, Keep.of_only h2⟩
  · rw [if_neg h]
    refine (stop_no w (by omega)).mono ?_
    rintro e w' ⟨rfl, rfl⟩
    exact ⟨rfl, bd, Keep.refl _ _⟩
theorem rstop_any (hD : OkD D) (bd : Blk w b 54 (encR D).toArray) (k : Int) : Calls Try.prog 14 #[.pointer (some ⟨b, 0, none⟩), .int .i64 k] w fun e w' => e = .returned (.tuple #[]) ∧ Blk w' b 54 (encR (stopD D k)).toArray ∧ Keep [b] w w' := by
  unfold stopD
  by_cases h : 1 ≤ k ∧ k ≤ 5
  · rw [if_pos h]
    obtain ⟨n, rfl⟩ : ∃ n : Nat, k = n := ⟨k.toNat, by omega⟩
    refine (rstop_yes w hD bd (k := n) (by omega) (by omega)).mono ?_
    rintro e w' ⟨rfl, h1, h2⟩
    exact ⟨rfl, h1, Keep.of_only h2⟩
  · rw [if_neg h]
    refine (rstop_no w (by omega)).mono ?_
    rintro e w' ⟨rfl, rfl⟩
    exact ⟨rfl, bd, Keep.refl _ _⟩
end
def OpsOk (w : World) (v : Value) : Prop := Sl w 3 (fun _ => IsInt .i64) v
theorem ops_at {w : World} {A : Option Addr} {n c : Nat} (h : OpsOk w (.slice A n c)) (i : Nat) (hi : i < n) : ∃ b off wh kd x, A = some ⟨b, off, none⟩ ∧ b < w.heap.size ∧ w.cell? ⟨b, off + i * 3, none⟩ = some (.int .i64 wh) ∧ w.cell? ⟨b, off + i * 3 + 1, none⟩ = some (.int .i64 kd) ∧ w.cell? ⟨b, off + i * 3 + 2, none⟩ = some (.int .i64 x) := by
  obtain ⟨A', len, cap, e, hl, hc, h⟩ := h
  injection e with e1 e2 e3
  subst e1 e2 e3
  rcases h with h | ⟨b, off, rfl, hb, h⟩
  · omega
  · obtain ⟨_, d0, wh, rfl, _⟩ := h i (by omega) 0 (by omega)
    obtain ⟨_, d1, kd, rfl, _⟩ := h i (by omega) 1 (by omega)
    obtain ⟨_, d2, x, rfl, _⟩ := h i (by omega) 2 (by omega)
    simp only [Nat.add_zero, ← Nat.add_assoc] at d0 d1 d2
    exact ⟨b, off, wh, kd, x, rfl, hb, d0, d1, d2⟩
set_option maxRecDepth 100000 in
set_option maxHeartbeats 8000000 in
theorem timerAll (w : World) (ov : Value) (hov : OpsOk w ov) (mv : Value) (hmv : OpsOk w mv) :
    Calls Try.prog 4 #[ov, mv] w fun e w' => e = .returned (.bool true) ∧ Below w.heap.size w w' := by
  obtain ⟨A, n, c, rfl, hnc, hcm, _⟩ := id hov
  obtain ⟨M, ml, mc, rfl, hmc, hmm, _⟩ := id hmv
  unfold maxLen at hcm hmm
  have hops := ops_at hov
  have hmore : ∀ i, i < ml → ∃ b off kd x, M = some ⟨b, off, none⟩ ∧ b < w.heap.size ∧ w.cell? ⟨b, off + i * 3 + 1, none⟩ = some (.int .i64 kd) ∧ w.cell? ⟨b, off + i * 3 + 2, none⟩ = some (.int .i64 x) := fun i hi => by
    obtain ⟨b, off, _, kd, x, h1, h2, _, h3, h4⟩ := ops_at hmv i hi
    exact ⟨b, off, kd, x, h1, h2, h3, h4⟩
  have Hops := Lib.hid hops
  have Hmore := Lib.hid hmore
  clear hov hmv hops hmore
  go_enter Try.func4, Try.ntmps4
  go_wp2_with (first
    | (go_at_call 8; refine (begun _).mono ?_; rintro e w1 ⟨rfl, hb1⟩)
    | (go_at_call 9; refine (new_ _).mono ?_; rintro e w' ⟨rfl, rfl⟩)
    | (go_at_call 10; have b0 := Blk.new w1 51 (encP D6).toArray; refine (rnew _).mono ?_; rintro e w2 ⟨rfl, br0, hb2, hlt2⟩; simp only [World.size_alloc] at br0 hb2 hlt2))
  have hsz := hb1.size
  go_loopw [8] (fun i wr => ∃ (k : Nat) (D : List Int), i = .int .i64 k ∧ k ≤ n ∧ k ≤ 40 ∧ OkD D ∧ Blk wr w1.heap.size 51 (encP D).toArray ∧ Blk wr (w1.heap.size + 1) 54 (encR D).toArray ∧ Below w.heap.size w wr) (fun i _ => 40 - (intOf i).toNat)
  case atStart =>
    have hb2' : Below (w1.heap.size + 1) (w1.alloc (.cells (encP D6).toArray 51)) w2 := hb2
    exact ⟨0, D6, rfl, by omega, by omega, d6_ok, b0.below hb2' (by omega), br0, (hb1.alloc hsz _).trans (hb2'.mono (by omega))⟩
  case round =>
    obtain ⟨k, D, rfl, hk1, hk2, ho, bd, br, hB⟩ := hrel
    by_cases hlt : k < n
    · by_cases hlt2 : k < 40
      · obtain ⟨b1, o1, wh, kd, x, rfl, hb1', e0, e1, e2⟩ := Hops.out k hlt
        have hmore := Hmore.out
        rw [← hB.cell (p := ⟨b1, o1 + k * 3, none⟩) hb1'] at e0
        rw [← hB.cell (p := ⟨b1, o1 + k * 3 + 1, none⟩) hb1'] at e1
        rw [← hB.cell (p := ⟨b1, o1 + k * 3 + 2, none⟩) hb1'] at e2
        have k0 : (0 : Int) ≤ (k : Int) := by omega
        have k1 : (k : Int) < (n : Int) := by omega
        clear b0 br0 hb2
        by_cases hwh : wh = 0
        · clear hmore
          have hw0 : (wh == 0) = true := by simp [hwh]
          clear hwh
          go_wp2
          refine wpIn_wide.1 (region_rt (n := 0) [(11, false), (12, false)] [(0, .pointer (some ⟨w1.heap.size, 0, none⟩)), (1, .slice (some ⟨b1, o1, none⟩) n c), (2, .int .i64 k), (3, .pointer (some ⟨b1, o1 + k * 3, none⟩)), (4, .pointer (some ⟨b1, o1 + k * 3 + 1, none⟩)), (5, .int .i64 kd),
            (6, .slice (some ⟨b1, o1, none⟩) n c), (7, .int .i64 k), (8, .pointer (some ⟨b1, o1 + k * 3, none⟩)), (9, .pointer (some ⟨b1, o1 + k * 3 + 2, none⟩)), (10, .int .i64 x)] (fun W => W = wr.drew) (by kernel_rfl) (by kernel_rfl) rfl ?_ ?_)
          · (simp only [evOk, putAll, List.getElem?_toArray, List.getElem?_cons_zero, List.getElem?_cons_succ, Option.bind_some, Act.put, List.setIfInBounds_toArray, List.set_cons_zero, List.set_cons_succ]; repeat' apply And.intro) <;> first | exact trivial | (rintro W rfl; simp [go_sem, *]; done) | (intro W hW; simp [go_sem, *])
          simp only [putAll, List.getElem?_toArray, List.getElem?_cons_zero, List.getElem?_cons_succ, Option.bind_some, Act.put, List.setIfInBounds_toArray, List.set_cons_zero, List.set_cons_succ]
          refine tail_step rfl ?_
          simp [go_sem]
          refine ⟨trivial, rfl, (callsIn_wide.2 (arm_any ho bd.drew kd x)).mono ?_⟩
          rintro e w5 ⟨rfl, sp5, k5⟩
          have k5 := k5.undrew
          refine tail_step rfl ?_
          simp [go_sem]
          unfold wpTail
          have rb5 := br.keep k5 (by first | (simp; done) | (simp; omega))
          have e1' := (k5.cell (p := ⟨b1, o1 + k * 3 + 1, none⟩) (by have := hB.size; first | (simp; done) | (simp; omega)) (by first | (simp; done) | (simp; omega))).trans e1
          have e2' := (k5.cell (p := ⟨b1, o1 + k * 3 + 2, none⟩) (by have := hB.size; first | (simp; done) | (simp; omega)) (by first | (simp; done) | (simp; omega))).trans e2
          go_wp2
          refine wpIn_wide.1 (region_rt (n := 0) [(11, false), (12, false)] [(0, .pointer (some ⟨(w1.heap.size + 1), 0, none⟩)), (1, .slice (some ⟨b1, o1, none⟩) n c), (2, .int .i64 k), (3, .pointer (some ⟨b1, o1 + k * 3, none⟩)), (4, .pointer (some ⟨b1, o1 + k * 3 + 1, none⟩)), (5, .int .i64 kd),
            (6, .slice (some ⟨b1, o1, none⟩) n c), (7, .int .i64 k), (8, .pointer (some ⟨b1, o1 + k * 3, none⟩)), (9, .pointer (some ⟨b1, o1 + k * 3 + 2, none⟩)), (10, .int .i64 x)] (fun W => W = w5.drew) (by kernel_rfl) (by kernel_rfl) rfl ?_ ?_)
          · (simp only [evOk, putAll, List.getElem?_toArray, List.getElem?_cons_zero, List.getElem?_cons_succ, Option.bind_some, Act.put, List.setIfInBounds_toArray, List.set_cons_zero, List.set_cons_succ]; repeat' apply And.intro) <;> first | exact trivial | (rintro W rfl; simp [go_sem, *]; done) | (intro W hW; simp [go_sem, *])
          simp only [putAll, List.getElem?_toArray, List.getElem?_cons_zero, List.getElem?_cons_succ, Option.bind_some, Act.put, List.setIfInBounds_toArray, List.set_cons_zero, List.set_cons_succ]
          refine tail_step rfl ?_
          simp [go_sem]
          refine ⟨trivial, rfl, (callsIn_wide.2 (rarm_any ho rb5.drew kd x)).mono ?_⟩
          rintro e w6 ⟨rfl, rbN, k6⟩
          have k6 := k6.undrew
          refine tail_step rfl ?_
          simp [go_sem]
          unfold wpTail
          have spN := sp5.keep k6 (by simp)
          have kN : Keep [w1.heap.size, w1.heap.size + 1] wr w6 := (k5.more (by simp)).step k6 (by simp)
          have okN := armD_ok ho kd x
          clear e0 e1 e2 e1' e2' k5 k6 sp5 rb5
          go_wp2_with (go_at_call 16; refine (same_ _ okN spN rbN).mono ?_; rintro e w8 ⟨rfl, hb8⟩)
          go_roundw
          case rel =>
            have sz := kN.size
            have hb8' := Keep.of_below hb8
            exact ⟨k + 1, _, by go_num, by omega, by omega, okN, spN.keep hb8' (by simp), rbN.keep hb8' (by simp), (hB.trans (kN.below hB.size (by first | (simp; done) | (simp; omega)))).trans (hb8.mono (by have := hB.size; omega))⟩
          case measure => simp [intOf]; omega
        · have hw0' := hwh
          clear hwh
          by_cases hwh : wh = 1
          · clear hmore hw0'
            have hw0 : (wh == 0) = false := by simp [hwh]
            have hw1 : (wh == 1) = true := by simp [hwh]
            clear hwh
            go_wp2_with (first
              | (go_at_call 13; refine (stop_any ho bd kd).mono ?_; rintro e w5 ⟨rfl, sp5, k5⟩; have rb5 := br.keep k5 (by first | (simp; done) | (simp; omega)); have e1' := (k5.cell (p := ⟨b1, o1 + k * 3 + 1, none⟩) (by have := hB.size; first | (simp; done) | (simp; omega)) (by first | (simp; done) | (simp; omega))).trans e1)
              | (go_at_call 14; refine (rstop_any ho rb5 kd).mono ?_; rintro e w6 ⟨rfl, rbN, k6⟩; have spN := sp5.keep k6 (by simp); have kN : Keep [w1.heap.size, w1.heap.size + 1] wr w6 := (k5.more (by simp)).step k6 (by simp); have okN := stopD_ok ho kd)
              | (go_at_call 16; refine (same_ _ okN spN rbN).mono ?_; rintro e w8 ⟨rfl, hb8⟩))
            go_roundw
            case rel =>
              have sz := kN.size
              have hb8' := Keep.of_below hb8
              exact ⟨k + 1, _, by go_num, by omega, by omega, okN, spN.keep hb8' (by simp), rbN.keep hb8' (by simp), (hB.trans (kN.below hB.size (by first | (simp; done) | (simp; omega)))).trans (hb8.mono (by have := hB.size; omega))⟩
            case measure => simp [intOf]; omega
          · have hw1' := hwh
            clear hwh
            have hw0 : (wh == 0) = false := by simp [hw0']
            have hw1 : (wh == 1) = false := by simp [hw1']
            clear hw0' hw1'
            have hdue := due_ok (wr.drew) ho bd.drew br.drew x kd M ml mc (by omega) (B0 := w.heap.size) (fun i hi => by
              obtain ⟨b, off, kd', x', rfl, hb, m1, m2⟩ := hmore i hi
              exact ⟨b, off, kd', x', rfl, hb, (hB.cell (p := ⟨b, off + i * 3 + 1, none⟩) hb).trans m1, (hB.cell (p := ⟨b, off + i * 3 + 2, none⟩) hb).trans m2⟩) hsz (by omega)
            clear hmore
            go_wp2
            refine wpIn_wide.1 (region_rt (n := 0) [(13, false), (14, false)] [(0, .pointer (some ⟨w1.heap.size, 0, none⟩)), (1, .pointer (some ⟨w1.heap.size + 1, 0, none⟩)), (2, .slice (some ⟨b1, o1, none⟩) n c), (3, .int .i64 k), (4, .pointer (some ⟨b1, o1 + k * 3, none⟩)), (5, .pointer (some ⟨b1, o1 + k * 3 + 2, none⟩)), (6, .int .i64 x),
              (7, .slice (some ⟨b1, o1, none⟩) n c), (8, .int .i64 k), (9, .pointer (some ⟨b1, o1 + k * 3, none⟩)), (10, .pointer (some ⟨b1, o1 + k * 3 + 1, none⟩)), (11, .int .i64 kd), (12, .slice M ml mc)] (fun W => W = wr.drew) (by kernel_rfl) (by kernel_rfl) rfl ?_ ?_)
            · (simp only [evOk, putAll, List.getElem?_toArray, List.getElem?_cons_zero, List.getElem?_cons_succ, Option.bind_some, Act.put, List.setIfInBounds_toArray, List.set_cons_zero, List.set_cons_succ]; repeat' apply And.intro) <;> first | exact trivial | (rintro W rfl; simp [go_sem, *]; done) | (intro W hW; simp [go_sem, *])
            simp only [putAll, List.getElem?_toArray, List.getElem?_cons_zero, List.getElem?_cons_succ, Option.bind_some, Act.put, List.setIfInBounds_toArray, List.set_cons_zero, List.set_cons_succ]
            refine tail_step rfl ?_
            simp [go_sem]
            refine ⟨trivial, rfl, (callsIn_wide.2 hdue).mono ?_⟩
            rintro e w6 ⟨rfl, DN, okN, spN, rbN, k6⟩
            have kN : Keep [w1.heap.size, w1.heap.size + 1] wr w6 := k6.undrew
            refine tail_step rfl ?_
            simp [go_sem]
            unfold wpTail
            clear e0 e1 e2 k6 hdue
            go_wp2_with (go_at_call 16; refine (same_ _ okN spN rbN).mono ?_; rintro e w8 ⟨rfl, hb8⟩)
            go_roundw
            case rel =>
              have sz := kN.size
              have hb8' := Keep.of_below hb8
              exact ⟨k + 1, _, by go_num, by omega, by omega, okN, spN.keep hb8' (by simp), rbN.keep hb8' (by simp), (hB.trans (kN.below hB.size (by first | (simp; done) | (simp; omega)))).trans (hb8.mono (by have := hB.size; omega))⟩
            case measure => simp [intOf]; omega
      · go_wp2
        go_ret
        exact ⟨rfl, hB⟩
    · go_wp2
      go_ret
      exact ⟨rfl, hB⟩
end Go.Proofs.Ytneomofldjhpjaa
