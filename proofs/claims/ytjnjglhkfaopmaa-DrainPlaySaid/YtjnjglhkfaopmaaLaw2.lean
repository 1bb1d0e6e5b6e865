/- DrainAll's walk. -/
import Derived.Test.YtjnjglhkfaopmaaLaw1
set_option linter.all false
namespace Go.Proofs.Ytjnjglhkfaopmaa
open Go.ChangeShapes Go.WideShapes Go.ChangeAt Go.RowKit
attribute [local go_sem] setCell_drewN alloc_drewN
theorem lookA_len (ph op : Int) : (lookA ph op).length ≤ 1 := by unfold lookA; split <;> simp
theorem beginA_len (r ph op : Int) : (beginA r ph op).length ≤ 2 := by
  have := lookA_len 2 op
  unfold beginA; (repeat' split) <;> simp <;> omega
theorem pongA_len (ph : Int) (mk : Bool) (l op : Int) : (pongA ph mk l op).length ≤ 2 := by
  have := lookA_len 2 op
  unfold pongA; (repeat' split) <;> simp <;> omega
theorem lateA_len (r ph l : Int) : (lateA r ph l).length ≤ 2 := by unfold lateA; (repeat' split) <;> simp
theorem only_below {a b : World} {B g : Nat} (h : a.grownBy b (some g)) (h1 : B ≤ g) (h2 : B ≤ a.heap.size) : Below B a b := (Below.refl _ _).grown h h2 (fun k e => by injection e with e; omega)
def OpsOk (w : World) (v : Value) : Prop := Sl w 4 (fun j => if j = 0 then IsInt .i64 else if j = 1 then IsInt .i64 else if j = 2 then IsInt .i64 else Sl w 1 (fun _ => IsInt .u8)) v
set_option maxRecDepth 100000 in
set_option maxHeartbeats 4000000 in
theorem drainAll (w : World) (r : Int) (_ : (Lit.int .i64 r).wf = true) (v : Value) (hops : OpsOk w v) :
    Calls Try.prog 3 #[.int .i64 r, v] w fun e w' => e = .returned (.bool true) ∧ Below w.heap.size w w' := by
  obtain ⟨A, len, cap, rfl, hlen, hcap, hops⟩ := hops
  unfold maxLen at hcap
  by_cases hr : r = 1 ∨ r = 2
  · rcases hr with rfl | rfl
    · go_enter Try.func3, Try.ntmps3
      go_wp2_with (first
        | (go_at_call 8; refine (begun _).mono ?_; rintro e w1 ⟨rfl, hb1⟩)
        | (go_at_call 9; refine (new_yes 1 (by omega) _).mono ?_; rintro e w' ⟨rfl, rfl⟩))
      have hsz := hb1.size
      go_loopw [9] (fun i wr => ∃ (k : Nat) (ph : Int), i = .int .i64 k ∧ k ≤ len ∧ k ≤ 20 ∧ Blk wr w1.heap.size 55 #[.int .i64 1, .int .i64 ph] ∧ Blk wr (w1.heap.size + 1) 30 #[.int .i64 1, .int .i64 ph] ∧ Below w.heap.size w wr) (fun i _ => 20 - (intOf i).toNat)
      case atStart =>
        exact ⟨0, 0, rfl, by omega, by omega, (Blk.new _ _ _).alloc _, by have h := Blk.new (w1.alloc (.cells #[.int .i64 1, .int .i64 0] 55)) 30 #[.int .i64 1, .int .i64 0]; simp only [World.size_alloc] at h; exact h, (hb1.alloc hsz _).alloc (by simp; omega) _⟩
      case round =>
        obtain ⟨k, ph, rfl, hk1, hk2, bd, br, hB⟩ := hrel
        by_cases hlt : k < len
        · by_cases hlt2 : k < 20
          · rcases hops with h | ⟨b, off, rfl, hb, hops⟩
            · omega
            obtain ⟨_, d1, kd, rfl, _⟩ := hops k (by omega) 0 (by omega)
            obtain ⟨_, d2, x1, rfl, _⟩ := hops k (by omega) 1 (by omega)
            obtain ⟨_, d3, x2, rfl, _⟩ := hops k (by omega) 2 (by omega)
            obtain ⟨vb, d4, sb⟩ := hops k (by omega) 3 (by omega)
            obtain ⟨Ab, nb, cb, bs, rfl, _, _, _, rb⟩ := reads_of_sl sb
            clear hops sb
            obtain ⟨mk, hmk⟩ : ∃ mk, ((⟨bs.toArray⟩ : ByteArray).toList == [100, 114, 97, 105, 110, 0, 0, 0]) = mk := ⟨_, rfl⟩
            have Hmk := Lib.hid hmk
            clear hmk
            simp only [Nat.add_zero, ← Nat.add_assoc] at d1 d2 d3 d4
            rw [← hB.cell (p := ⟨b, off + k * 4, none⟩) hb] at d1
            rw [← hB.cell (p := ⟨b, off + k * 4 + 1, none⟩) hb] at d2
            rw [← hB.cell (p := ⟨b, off + k * 4 + 2, none⟩) hb] at d3
            rw [← hB.cell (p := ⟨b, off + k * 4 + 3, none⟩) hb] at d4
            have n0 := bd.lt
            have n1 := br.lt
            have Hst1 : strIs (wr.alloc (.cells #[.int .i64 kd, .int .i64 x1, .int .i64 x2, .slice Ab nb cb] 34)) Ab nb cb _ := str_of Try.underlying32 Try.underlying5 Try.underlying9 ((rb.below hB).alloc hB.size _)
            go_wp2_with (first
            | (go_at_call 10; refine (begin_ w1.heap.size 1 ph x1 x2 _ (bd.alloc _)).mono ?_; rintro e w2 ⟨A1, c1, rfl, hr1, hb1', hg1, hf1⟩
               have ln := beginA_len 1 ph x2
               have bo2 := (Blk.new wr 34 #[.int .i64 kd, .int .i64 x1, .int .i64 x2, .slice Ab nb cb]).grown hg1 (by simp; omega)
               have br2 := (br.alloc _).grown hg1 (by simp)
               have o1 := bo2.cell 1
               have o2 := bo2.cell 2
               have o3 := bo2.cell 3
               simp at o1 o2 o3
               simp only [World.size_alloc] at hf1)
            | (go_at_call 11; refine (rbegin (w1.heap.size + 1) 1 ph x2 _ (by omega) br2).mono ?_; rintro e w3 ⟨A2, c2, rfl, hr2, hb2, hg2, hf2⟩
               have bd3 := hb1'.grown hg2 (by simp)
               have hr1' := (hr1.only hg2 (Nat.le_refl _) (fun ad h => by have := hf1 ad h; omega)).more hg2.size)
            | (go_at_call 12; refine (pong w1.heap.size 1 ph x1 x2 _ Ab nb cb _ mk Hst1 Hmk.out (bd.alloc _)).mono ?_; rintro e w2 ⟨A1, c1, rfl, hr1, hb1', hg1, hf1⟩
               have ln := pongA_len ph mk x1 x2
               have bo2 := (Blk.new wr 34 #[.int .i64 kd, .int .i64 x1, .int .i64 x2, .slice Ab nb cb]).grown hg1 (by simp; omega)
               have br2 := (br.alloc _).grown hg1 (by simp)
               have Hst2 : strIs w2 Ab nb cb _ := str_of Try.underlying32 Try.underlying5 Try.underlying9 (((rb.below hB).alloc hB.size _).below (only_below hg1 hsz (by have := hB.size; simp; omega)))
               have o1 := bo2.cell 1
               have o2 := bo2.cell 2
               have o3 := bo2.cell 3
               simp at o1 o2 o3
               simp only [World.size_alloc] at hf1)
            | (go_at_call 13; refine (rpong (w1.heap.size + 1) 1 ph x1 x2 _ Ab nb cb _ mk Hst2 Hmk.out br2).mono ?_; rintro e w3 ⟨A2, c2, rfl, hr2, hb2, hg2, hf2⟩
               have bd3 := hb1'.grown hg2 (by simp)
               have hr1' := (hr1.only hg2 (Nat.le_refl _) (fun ad h => by have := hf1 ad h; omega)).more hg2.size)
            | (go_at_call 14; refine (look w1.heap.size 1 ph x1 x2 _ (bd.alloc _)).mono ?_; rintro e w2 ⟨A1, c1, rfl, hr1, hb1', hg1, hf1⟩
               have ln := lookA_len ph x2
               have bo2 := (Blk.new wr 34 #[.int .i64 kd, .int .i64 x1, .int .i64 x2, .slice Ab nb cb]).grown hg1 (by simp; omega)
               have br2 := (br.alloc _).grown hg1 (by simp)
               have o1 := bo2.cell 1
               have o2 := bo2.cell 2
               have o3 := bo2.cell 3
               simp at o1 o2 o3
               simp only [World.size_alloc] at hf1)
            | (go_at_call 15; refine (rlook (w1.heap.size + 1) 1 ph x2 _ br2).mono ?_; rintro e w3 ⟨A2, c2, rfl, hr2, hb2, hg2, hf2⟩
               have bd3 := hb1'.grown hg2 (by simp)
               have hr1' := (hr1.only hg2 (Nat.le_refl _) (fun ad h => by have := hf1 ad h; omega)).more hg2.size)
            | (go_at_call 16; refine (late w1.heap.size 1 ph x1 _ (bd.alloc _)).mono ?_; rintro e w2 ⟨A1, c1, rfl, hr1, hb1', hg1, hf1⟩
               have ln := lateA_len 1 ph x1
               have bo2 := (Blk.new wr 34 #[.int .i64 kd, .int .i64 x1, .int .i64 x2, .slice Ab nb cb]).grown hg1 (by simp; omega)
               have br2 := (br.alloc _).grown hg1 (by simp)
               have o1 := bo2.cell 1
               have o2 := bo2.cell 2
               have o3 := bo2.cell 3
               simp at o1 o2 o3
               simp only [World.size_alloc] at hf1)
            | (go_at_call 17; refine (rlate (w1.heap.size + 1) 1 ph x1 _ br2).mono ?_; rintro e w3 ⟨A2, c2, rfl, hr2, hb2, hg2, hf2⟩
               have bd3 := hb1'.grown hg2 (by simp)
               have hr1' := (hr1.only hg2 (Nat.le_refl _) (fun ad h => by have := hf1 ad h; omega)).more hg2.size)
            | (go_at_call 18; refine (eq_same _ A1 A2 c1 c2 _ w3.heap.size hr1' hr2 (by omega)).mono ?_; rintro e w' ⟨rfl, m, rfl⟩)
            | (go_at_call 18; refine (eq_same [] none none 0 0 _ 0 Reads.none_ Reads.none_ (by simp)).mono ?_; rintro e w' ⟨rfl, m, rfl⟩))
            · have c1' := hb2.cell 1
              simp at c1'
              go_quiet ((go_at_call 19; (first | refine quiet_add_left (phase w1.heap.size 1 (beginP 1 ph x2) _ ?_) | refine quiet_left (phase w1.heap.size 1 (beginP 1 ph x2) _ ?_)); exact bd3))
              go_wp2
              go_roundw
              case rel =>
                exact ⟨k + 1, beginP 1 ph x2, by go_num, by omega, by omega, bd3.drewN _, hb2.drewN _, below_drewN (((hB.alloc hB.size _).trans (only_below hg1 hsz (by have := hB.size; simp; omega))).trans (only_below hg2 (by omega) (by have := hg1.size; have := hB.size; simp at *; omega))) _⟩
              case measure => simp [intOf]; omega
            · have c1' := hb2.cell 1
              simp at c1'
              go_quiet ((go_at_call 19; (first | refine quiet_add_left (phase w1.heap.size 1 (pongP ph mk x2) _ ?_) | refine quiet_left (phase w1.heap.size 1 (pongP ph mk x2) _ ?_)); exact bd3))
              go_wp2
              go_roundw
              case rel =>
                exact ⟨k + 1, pongP ph mk x2, by go_num, by omega, by omega, bd3.drewN _, hb2.drewN _, below_drewN (((hB.alloc hB.size _).trans (only_below hg1 hsz (by have := hB.size; simp; omega))).trans (only_below hg2 (by omega) (by have := hg1.size; have := hB.size; simp at *; omega))) _⟩
              case measure => simp [intOf]; omega
            · have c1' := hb2.cell 1
              simp at c1'
              go_quiet ((go_at_call 19; (first | refine quiet_add_left (phase w1.heap.size 1 (lookP ph x2) _ ?_) | refine quiet_left (phase w1.heap.size 1 (lookP ph x2) _ ?_)); exact bd3))
              go_wp2
              go_roundw
              case rel =>
                exact ⟨k + 1, lookP ph x2, by go_num, by omega, by omega, bd3.drewN _, hb2.drewN _, below_drewN (((hB.alloc hB.size _).trans (only_below hg1 hsz (by have := hB.size; simp; omega))).trans (only_below hg2 (by omega) (by have := hg1.size; have := hB.size; simp at *; omega))) _⟩
              case measure => simp [intOf]; omega
            · have c1' := hb2.cell 1
              simp at c1'
              go_quiet ((go_at_call 19; (first | refine quiet_add_left (phase w1.heap.size 1 (3) _ ?_) | refine quiet_left (phase w1.heap.size 1 (3) _ ?_)); exact bd3))
              go_wp2
              go_roundw
              case rel =>
                exact ⟨k + 1, 3, by go_num, by omega, by omega, bd3.drewN _, hb2.drewN _, below_drewN (((hB.alloc hB.size _).trans (only_below hg1 hsz (by have := hB.size; simp; omega))).trans (only_below hg2 (by omega) (by have := hg1.size; have := hB.size; simp at *; omega))) _⟩
              case measure => simp [intOf]; omega
            · have c1' := (br.alloc (.cells #[.int .i64 kd, .int .i64 x1, .int .i64 x2, .slice Ab nb cb] 34)).cell 1
              simp at c1'
              go_quiet ((go_at_call 19; (first | refine quiet_add_left (phase w1.heap.size 1 ph _ ?_) | refine quiet_left (phase w1.heap.size 1 ph _ ?_)); exact (bd.alloc _)))
              go_wp2
              go_roundw
              case rel =>
                exact ⟨k + 1, ph, by go_num, by omega, by omega, (bd.alloc _).drewN _, (br.alloc _).drewN _, below_drewN (hB.alloc hB.size _) _⟩
              case measure => simp [intOf]; omega
          · go_wp2
            go_ret
            exact ⟨rfl, hB⟩
        · go_wp2
          go_ret
          exact ⟨rfl, hB⟩
    · go_enter Try.func3, Try.ntmps3
      go_wp2_with (first
        | (go_at_call 8; refine (begun _).mono ?_; rintro e w1 ⟨rfl, hb1⟩)
        | (go_at_call 9; refine (new_yes 2 (by omega) _).mono ?_; rintro e w' ⟨rfl, rfl⟩))
      have hsz := hb1.size
      go_loopw [9] (fun i wr => ∃ (k : Nat) (ph : Int), i = .int .i64 k ∧ k ≤ len ∧ k ≤ 20 ∧ Blk wr w1.heap.size 55 #[.int .i64 2, .int .i64 ph] ∧ Blk wr (w1.heap.size + 1) 30 #[.int .i64 2, .int .i64 ph] ∧ Below w.heap.size w wr) (fun i _ => 20 - (intOf i).toNat)
      case atStart =>
        exact ⟨0, 0, rfl, by omega, by omega, (Blk.new _ _ _).alloc _, by have h := Blk.new (w1.alloc (.cells #[.int .i64 2, .int .i64 0] 55)) 30 #[.int .i64 2, .int .i64 0]; simp only [World.size_alloc] at h; exact h, (hb1.alloc hsz _).alloc (by simp; omega) _⟩
      case round =>
        obtain ⟨k, ph, rfl, hk1, hk2, bd, br, hB⟩ := hrel
        by_cases hlt : k < len
        · by_cases hlt2 : k < 20
          · rcases hops with h | ⟨b, off, rfl, hb, hops⟩
            · omega
            obtain ⟨_, d1, kd, rfl, _⟩ := hops k (by omega) 0 (by omega)
            obtain ⟨_, d2, x1, rfl, _⟩ := hops k (by omega) 1 (by omega)
            obtain ⟨_, d3, x2, rfl, _⟩ := hops k (by omega) 2 (by omega)
            obtain ⟨vb, d4, sb⟩ := hops k (by omega) 3 (by omega)
            obtain ⟨Ab, nb, cb, bs, rfl, _, _, _, rb⟩ := reads_of_sl sb
            clear hops sb
            obtain ⟨mk, hmk⟩ : ∃ mk, ((⟨bs.toArray⟩ : ByteArray).toList == [100, 114, 97, 105, 110, 0, 0, 0]) = mk := ⟨_, rfl⟩
            have Hmk := Lib.hid hmk
            clear hmk
            simp only [Nat.add_zero, ← Nat.add_assoc] at d1 d2 d3 d4
            rw [← hB.cell (p := ⟨b, off + k * 4, none⟩) hb] at d1
            rw [← hB.cell (p := ⟨b, off + k * 4 + 1, none⟩) hb] at d2
            rw [← hB.cell (p := ⟨b, off + k * 4 + 2, none⟩) hb] at d3
            rw [← hB.cell (p := ⟨b, off + k * 4 + 3, none⟩) hb] at d4
            have n0 := bd.lt
            have n1 := br.lt
            have Hst1 : strIs (wr.alloc (.cells #[.int .i64 kd, .int .i64 x1, .int .i64 x2, .slice Ab nb cb] 34)) Ab nb cb _ := str_of Try.underlying32 Try.underlying5 Try.underlying9 ((rb.below hB).alloc hB.size _)
            go_wp2_with (first
            | (go_at_call 10; refine (begin_ w1.heap.size 2 ph x1 x2 _ (bd.alloc _)).mono ?_; rintro e w2 ⟨A1, c1, rfl, hr1, hb1', hg1, hf1⟩
               have ln := beginA_len 2 ph x2
               have bo2 := (Blk.new wr 34 #[.int .i64 kd, .int .i64 x1, .int .i64 x2, .slice Ab nb cb]).grown hg1 (by simp; omega)
               have br2 := (br.alloc _).grown hg1 (by simp)
               have o1 := bo2.cell 1
               have o2 := bo2.cell 2
               have o3 := bo2.cell 3
               simp at o1 o2 o3
               simp only [World.size_alloc] at hf1)
            | (go_at_call 11; refine (rbegin (w1.heap.size + 1) 2 ph x2 _ (by omega) br2).mono ?_; rintro e w3 ⟨A2, c2, rfl, hr2, hb2, hg2, hf2⟩
               have bd3 := hb1'.grown hg2 (by simp)
               have hr1' := (hr1.only hg2 (Nat.le_refl _) (fun ad h => by have := hf1 ad h; omega)).more hg2.size)
            | (go_at_call 12; refine (pong w1.heap.size 2 ph x1 x2 _ Ab nb cb _ mk Hst1 Hmk.out (bd.alloc _)).mono ?_; rintro e w2 ⟨A1, c1, rfl, hr1, hb1', hg1, hf1⟩
               have ln := pongA_len ph mk x1 x2
               have bo2 := (Blk.new wr 34 #[.int .i64 kd, .int .i64 x1, .int .i64 x2, .slice Ab nb cb]).grown hg1 (by simp; omega)
               have br2 := (br.alloc _).grown hg1 (by simp)
               have Hst2 : strIs w2 Ab nb cb _ := str_of Try.underlying32 Try.underlying5 Try.underlying9 (((rb.below hB).alloc hB.size _).below (only_below hg1 hsz (by have := hB.size; simp; omega)))
               have o1 := bo2.cell 1
               have o2 := bo2.cell 2
               have o3 := bo2.cell 3
               simp at o1 o2 o3
               simp only [World.size_alloc] at hf1)
            | (go_at_call 13; refine (rpong (w1.heap.size + 1) 2 ph x1 x2 _ Ab nb cb _ mk Hst2 Hmk.out br2).mono ?_; rintro e w3 ⟨A2, c2, rfl, hr2, hb2, hg2, hf2⟩
               have bd3 := hb1'.grown hg2 (by simp)
               have hr1' := (hr1.only hg2 (Nat.le_refl _) (fun ad h => by have := hf1 ad h; omega)).more hg2.size)
            | (go_at_call 14; refine (look w1.heap.size 2 ph x1 x2 _ (bd.alloc _)).mono ?_; rintro e w2 ⟨A1, c1, rfl, hr1, hb1', hg1, hf1⟩
               have ln := lookA_len ph x2
               have bo2 := (Blk.new wr 34 #[.int .i64 kd, .int .i64 x1, .int .i64 x2, .slice Ab nb cb]).grown hg1 (by simp; omega)
               have br2 := (br.alloc _).grown hg1 (by simp)
               have o1 := bo2.cell 1
               have o2 := bo2.cell 2
               have o3 := bo2.cell 3
               simp at o1 o2 o3
               simp only [World.size_alloc] at hf1)
            | (go_at_call 15; refine (rlook (w1.heap.size + 1) 2 ph x2 _ br2).mono ?_; rintro e w3 ⟨A2, c2, rfl, hr2, hb2, hg2, hf2⟩
               have bd3 := hb1'.grown hg2 (by simp)
               have hr1' := (hr1.only hg2 (Nat.le_refl _) (fun ad h => by have := hf1 ad h; omega)).more hg2.size)
            | (go_at_call 16; refine (late w1.heap.size 2 ph x1 _ (bd.alloc _)).mono ?_; rintro e w2 ⟨A1, c1, rfl, hr1, hb1', hg1, hf1⟩
               have ln := lateA_len 2 ph x1
               have bo2 := (Blk.new wr 34 #[.int .i64 kd, .int .i64 x1, .int .i64 x2, .slice Ab nb cb]).grown hg1 (by simp; omega)
               have br2 := (br.alloc _).grown hg1 (by simp)
               have o1 := bo2.cell 1
               have o2 := bo2.cell 2
               have o3 := bo2.cell 3
               simp at o1 o2 o3
               simp only [World.size_alloc] at hf1)
            | (go_at_call 17; refine (rlate (w1.heap.size + 1) 2 ph x1 _ br2).mono ?_; rintro e w3 ⟨A2, c2, rfl, hr2, hb2, hg2, hf2⟩
               have bd3 := hb1'.grown hg2 (by simp)
               have hr1' := (hr1.only hg2 (Nat.le_refl _) (fun ad h => by have := hf1 ad h; omega)).more hg2.size)
            | (go_at_call 18; refine (eq_same _ A1 A2 c1 c2 _ w3.heap.size hr1' hr2 (by omega)).mono ?_; rintro e w' ⟨rfl, m, rfl⟩)
            | (go_at_call 18; refine (eq_same [] none none 0 0 _ 0 Reads.none_ Reads.none_ (by simp)).mono ?_; rintro e w' ⟨rfl, m, rfl⟩))
            · have c1' := hb2.cell 1
              simp at c1'
              go_quiet ((go_at_call 19; (first | refine quiet_add_left (phase w1.heap.size 2 (beginP 2 ph x2) _ ?_) | refine quiet_left (phase w1.heap.size 2 (beginP 2 ph x2) _ ?_)); exact bd3))
              go_wp2
              go_roundw
              case rel =>
                exact ⟨k + 1, beginP 2 ph x2, by go_num, by omega, by omega, bd3.drewN _, hb2.drewN _, below_drewN (((hB.alloc hB.size _).trans (only_below hg1 hsz (by have := hB.size; simp; omega))).trans (only_below hg2 (by omega) (by have := hg1.size; have := hB.size; simp at *; omega))) _⟩
              case measure => simp [intOf]; omega
            · have c1' := hb2.cell 1
              simp at c1'
              go_quiet ((go_at_call 19; (first | refine quiet_add_left (phase w1.heap.size 2 (pongP ph mk x2) _ ?_) | refine quiet_left (phase w1.heap.size 2 (pongP ph mk x2) _ ?_)); exact bd3))
              go_wp2
              go_roundw
              case rel =>
                exact ⟨k + 1, pongP ph mk x2, by go_num, by omega, by omega, bd3.drewN _, hb2.drewN _, below_drewN (((hB.alloc hB.size _).trans (only_below hg1 hsz (by have := hB.size; simp; omega))).trans (only_below hg2 (by omega) (by have := hg1.size; have := hB.size; simp at *; omega))) _⟩
              case measure => simp [intOf]; omega
            · have c1' := hb2.cell 1
              simp at c1'
              go_quiet ((go_at_call 19; (first | refine quiet_add_left (phase w1.heap.size 2 (lookP ph x2) _ ?_) | refine quiet_left (phase w1.heap.size 2 (lookP ph x2) _ ?_)); exact bd3))
              go_wp2
              go_roundw
              case rel =>
                exact ⟨k + 1, lookP ph x2, by go_num, by omega, by omega, bd3.drewN _, hb2.drewN _, below_drewN (((hB.alloc hB.size _).trans (only_below hg1 hsz (by have := hB.size; simp; omega))).trans (only_below hg2 (by omega) (by have := hg1.size; have := hB.size; simp at *; omega))) _⟩
              case measure => simp [intOf]; omega
            · have c1' := hb2.cell 1
              simp at c1'
              go_quiet ((go_at_call 19; (first | refine quiet_add_left (phase w1.heap.size 2 (3) _ ?_) | refine quiet_left (phase w1.heap.size 2 (3) _ ?_)); exact bd3))
              go_wp2
              go_roundw
              case rel =>
                exact ⟨k + 1, 3, by go_num, by omega, by omega, bd3.drewN _, hb2.drewN _, below_drewN (((hB.alloc hB.size _).trans (only_below hg1 hsz (by have := hB.size; simp; omega))).trans (only_below hg2 (by omega) (by have := hg1.size; have := hB.size; simp at *; omega))) _⟩
              case measure => simp [intOf]; omega
            · have c1' := (br.alloc (.cells #[.int .i64 kd, .int .i64 x1, .int .i64 x2, .slice Ab nb cb] 34)).cell 1
              simp at c1'
              go_quiet ((go_at_call 19; (first | refine quiet_add_left (phase w1.heap.size 2 ph _ ?_) | refine quiet_left (phase w1.heap.size 2 ph _ ?_)); exact (bd.alloc _)))
              go_wp2
              go_roundw
              case rel =>
                exact ⟨k + 1, ph, by go_num, by omega, by omega, (bd.alloc _).drewN _, (br.alloc _).drewN _, below_drewN (hB.alloc hB.size _) _⟩
              case measure => simp [intOf]; omega
          · go_wp2
            go_ret
            exact ⟨rfl, hB⟩
        · go_wp2
          go_ret
          exact ⟨rfl, hB⟩
  · have q1 : (r != 1) = true := by simp; omega
    have q2 : (r != 2) = true := by simp; omega
    go_enter Try.func3, Try.ntmps3
    go_wp2_with (first
      | (go_at_call 8; refine (begun _).mono ?_; rintro e w1 ⟨rfl, hb1⟩)
      | (go_at_call 9; refine (new_no r hr _).mono ?_; rintro e w' ⟨rfl, rfl⟩))
    go_ret
    exact ⟨rfl, hb1⟩
end Go.Proofs.Ytjnjglhkfaopmaa
