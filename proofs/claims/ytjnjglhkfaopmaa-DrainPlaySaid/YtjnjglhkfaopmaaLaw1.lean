/- drain: the begun shutdown; the reference's Eq. -/
import Derived.Test.YtjnjglhkfaopmaaCtr
set_option linter.all false
namespace Go.Proofs.Ytjnjglhkfaopmaa
open Go.ChangeShapes Go.WideShapes Go.ChangeAt Go.RowKit
attribute [local go_sem] setCell_drewN alloc_drewN
theorem encA_get (xs : List (Int × Int)) : ∀ (k : Nat) (h : k < xs.length), (encA xs)[k * 2]? = some (.int .i64 xs[k].1) ∧ (encA xs)[k * 2 + 1]? = some (.int .i64 xs[k].2) := by
  induction xs with
  | nil => intro k h; simp at h
  | cons x xs ih =>
    intro k h
    cases k with
    | zero => exact ⟨rfl, rfl⟩
    | succ k =>
      have := ih k (by simpa using h)
      rw [show (k + 1) * 2 = k * 2 + 2 by omega]
      exact this
theorem eq_same (xs : List (Int × Int)) (A B : Option Addr) (c d : Nat) (w : World) (L : Nat) (hA : Reads w L 2 A xs.length (encA xs)) (hB : Reads w L 2 B xs.length (encA xs)) (hl : xs.length ≤ 1000000000) :
    Calls Try.prog 18 #[.slice A xs.length c, .slice B xs.length d] w fun e w' => e = .returned (.bool true) ∧ ∃ m, w' = w.drewN m := by
  obtain ⟨n, hn⟩ : ∃ n, n = xs.length := ⟨_, rfl⟩
  rw [← hn] at hA hB hl ⊢
  have Hn := Lib.hid hn
  clear hn
  go_enter Try.func18, Try.ntmps18
  go_wp2
  go_loopw [5] (fun i wr => ∃ k m : Nat, i = .int .i64 k ∧ k ≤ n ∧ wr = w.drewN m) (fun i _ => n - (intOf i).toNat)
  case atStart => exact ⟨0, 0, rfl, by omega, rfl⟩
  case round =>
    obtain ⟨k, m, rfl, hk, rfl⟩ := hrel
    by_cases hlt : k < n
    · obtain ⟨b1, o1, rfl, _, h1⟩ := hA.plain (by omega) (by omega)
      obtain ⟨b2, o2, rfl, _, h2⟩ := hB.plain (by omega) (by omega)
      have e := encA_get xs k (by rw [← Hn.out]; exact hlt)
      have c1 := h1 _ _ e.1
      have c2 := h1 _ _ e.2
      have d1 := h2 _ _ e.1
      have d2 := h2 _ _ e.2
      simp only [← Nat.add_assoc] at c2 d2
      clear e
      have k0 : (0 : Int) ≤ (k : Int) := by omega
      have k1 : (k : Int) < (n : Int) := by omega
      go_wp2
      go_quiet (fail)
      go_wp2
      go_roundw
      case rel => exact ⟨k + 1, _, by go_num, by omega, rfl⟩
      case measure => simp [intOf]; omega
    · go_wp2
      go_ret
      exact ⟨rfl, _, rfl⟩
def markS : ByteArray := ⟨markL.toArray⟩
theorem markS_is : (markS.toList == [100, 114, 97, 105, 110, 0, 0, 0]) = true := by kernel_rfl
theorem str_mark (w : World) (c : Nat) : strIs (w.alloc (.cells (encB markL).toArray 5 (8, 9))) (some ⟨w.heap.size, 0, none⟩) 8 c markS := by
  have h := reads_new w (encB markL).toArray 5 (8, 9) 1 8 rfl
  exact str_of Try.underlying32 Try.underlying5 Try.underlying9 h
set_option maxHeartbeats 2000000 in
theorem begun (w : World) : Calls Try.prog 8 #[] w fun e w' => e = .returned (.bool true) ∧ Below w.heap.size w w' := by
  have hst := fun (w : World) (c : Nat) => (show (convert 32 9 (.slice (some ⟨w.heap.size, 0, none⟩) 8 c)).run Try.prog (w.alloc (.cells (encB markL).toArray 5 (8, 9))) = .ok (.string markS) (w.alloc (.cells (encB markL).toArray 5 (8, 9))) from str_mark w c)
  have hme := markS_is
  go_enter Try.func8, Try.ntmps8
  go_wp2_with (first
    | (go_at_call 9; refine (new_yes 2 (by omega) _).mono ?_; rintro e w' ⟨rfl, rfl⟩)
    | (go_at_call 10; refine (begin_ w.heap.size 2 0 3 1 _ (Blk.new _ _ _)).mono ?_; rintro e w1 ⟨A1, c1, rfl, hr1, hb1, hg1, hf1⟩)
    | (go_at_call 20; refine (mark _).mono ?_; rintro e w' ⟨rfl, rfl⟩)
    | (go_at_call 12; refine (pong w.heap.size 2 1 5 1 _ _ _ _ markS true (str_mark _ _) markS_is (hb1.alloc _)).mono ?_; rintro e w2 ⟨A2, c2, rfl, hr2, hb2, hg2, hf2⟩)
    | (go_at_call 14; refine (look w.heap.size 2 2 5 0 _ hb2).mono ?_; rintro e w3 ⟨A3, c3, rfl, hr3, hb3, hg3, hf3⟩)
    | (go_at_call 16; refine (late w.heap.size 2 3 5 _ hb3).mono ?_; rintro e w4 ⟨A4, c4, rfl, hr4, hb4, hg4, hf4⟩
       have s1 : w.heap.size + 1 ≤ w1.heap.size := by have := hg1.size; simp at this; exact this
       have s2 : w1.heap.size + 1 ≤ w2.heap.size := by have := hg2.size; simp at this; exact this
       have s3 := hg3.size
       have s4 := hg4.size
       simp only [World.size_alloc] at hf1 hf2
       have n1 : ∀ ad, A1 = some ad → ad.block ≠ w.heap.size := fun ad h => by have := hf1 ad h; omega
       have n2 : ∀ ad, A2 = some ad → ad.block ≠ w.heap.size := fun ad h => by have := hf2 ad h; omega
       have n3 : ∀ ad, A3 = some ad → ad.block ≠ w.heap.size := fun ad h => by have := hf3 ad h; omega
       have r1 := (((hr1.alloc (Nat.le_refl _) _).only hg2 (by simp) n1).only hg3 (by omega) n1).only hg4 (by omega) n1
       have r2 := (hr2.only hg3 (by omega) n2).only hg4 (by omega) n2
       have r3 := hr3.only hg4 (by omega) n3
       obtain ⟨B1, o1, rfl, _, k1⟩ := r1.plain (by decide) (by omega)
       obtain ⟨B2, o2, rfl, _, k2⟩ := r2.plain (by decide) (by omega)
       obtain ⟨B3, o3, rfl, _, k3⟩ := r3.plain (by decide) (by omega)
       have k11 := k1 1 _ rfl
       have k21 := k2 1 _ rfl
       have k30 := k3 0 _ rfl
       simp only [Nat.add_zero] at k30
       clear k1 k2 k3 n1 n2 n3 r1 r2 r3 hf1 hf2 hf3 hf4
       simp only [show (beginA 2 0 1).length = 2 from rfl, show (pongA 1 true 5 1).length = 1 from rfl, show (lookA 2 0).length = 1 from rfl, show (lateA 2 3 5).length = 0 from rfl])
    | (go_at_call 19; refine (phase w.heap.size 2 3 _ ?_).mono ?_; (first | exact hb4 | exact hb4.drew | skip); rintro e w' ⟨rfl, rfl⟩))
  go_ret
  refine ⟨rfl, ?_⟩
  refine Below.alloc ?_ (by omega) _
  have hbl : ∀ {a b : World} {B g : Nat}, a.grownBy b (some g) → B ≤ g → B ≤ a.heap.size → Below B a b := fun h h1 h2 => (Below.refl _ _).grown h h2 (fun k e => by injection e with e; omega)
  exact ((((((Below.refl _ _).alloc (Nat.le_refl _) _).trans (hbl hg1 (Nat.le_refl _) (by simp))).alloc (by omega) _).trans (hbl hg2 (Nat.le_refl _) (by simp; omega))).trans (hbl hg3 (Nat.le_refl _) (by omega))).trans (hbl hg4 (Nat.le_refl _) (by omega))
end Go.Proofs.Ytjnjglhkfaopmaa
