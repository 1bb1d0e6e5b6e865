/- stream: small contracts; the begun stream. -/
import Derived.Test.YtkicffapbcnkbaaWalk3
import Derived.Test.YtkicffapbcnkbaaRSend
import Derived.Test.YtkicffapbcnkbaaRCome
set_option linter.all false
namespace Go.Proofs.Ytkicffapbcnkbaa
open Go.ChangeShapes Go.WideShapes Go.ChangeAt Go.RowKit
attribute [local go_sem] setCell_drewN alloc_drewN
section
variable (b : Nat) (st why k : Int) (e : Bool) (w : World)
theorem rsend_any (hv : OkSt st why) (hb : Blk w b 35 #[.int .i64 st, .int .i64 why]) : Calls Try.prog 12 #[.pointer (some ⟨b, 0, none⟩), .int .i64 k, .bool e] w (SPost w b 35 (sendF st why k e)) := by
  rcases kinds (k := k) with h | h
  · exact rsend_out b st why k e w h hb
  · exact rsend_in b st why k e w hv h hb
theorem rcome_any (hv : OkSt st why) (hb : Blk w b 35 #[.int .i64 st, .int .i64 why]) : Calls Try.prog 14 #[.pointer (some ⟨b, 0, none⟩), .int .i64 k, .bool e] w (CPost w b 35 (comeF st why k e)) := by
  rcases kinds (k := k) with h | h
  · exact rcome_out b st why k e w h hb
  · exact rcome_in b st why k e w hv h hb
theorem state_ (hb : Blk w b 45 #[.int .i64 st, .int .i64 why]) : Calls Try.prog 15 #[.pointer (some ⟨b, 0, none⟩)] w fun e w' => e = .returned (.int .i64 st) ∧ w = w' := by
  have c0 := hb.cell 0
  simp at c0
  go_enter Try.func15, Try.ntmps15
  go_wp2
  go_ret
  exact ⟨rfl, rfl⟩
theorem why_ (hb : Blk w b 45 #[.int .i64 st, .int .i64 why]) : Calls Try.prog 16 #[.pointer (some ⟨b, 0, none⟩)] w fun e w' => e = .returned (.int .i64 why) ∧ w = w' := by
  have c1 := hb.cell 1
  simp at c1
  go_enter Try.func16, Try.ntmps16
  go_wp2
  go_ret
  exact ⟨rfl, rfl⟩
theorem rnew : Calls Try.prog 10 #[] w fun e w' => e = .returned (.pointer (some ⟨w.heap.size, 0, none⟩)) ∧ w' = w.alloc (.cells #[.int .i64 0, .int .i64 0] 35) := by
  go_enter Try.func10, Try.ntmps10
  go_wp2
  go_ret
  exact ⟨rfl, rfl⟩
theorem steps_ (A C p : Option Addr) (n c n' c' : Nat) :
    Calls Try.prog 18 #[.slice A n c, .slice C n' c', .pointer p] w fun e w' =>
      e = .returned (.func (.func 25) #[] #[.pointer (some ⟨w.heap.size, 0, none⟩), .pointer (some ⟨w.heap.size + 1 + 1, 0, none⟩), .pointer (some ⟨w.heap.size + 1, 0, none⟩)]) ∧
      w' = ((w.alloc (.cells #[.slice A n c] 22)).alloc (.cells #[.slice C n' c'] 23)).alloc (.cells #[.pointer p] 42) := by
  go_enter Try.func18, Try.ntmps18
  go_wp2
  go_ret
  exact ⟨rfl, rfl⟩
end
set_option maxHeartbeats 4000000 in
theorem begun (w : World) : Calls Try.prog 8 #[] w fun e w' => e = .returned (.bool true) ∧ Below w.heap.size w w' := by
  go_enter Try.func8, Try.ntmps8
  go_wp2_with (first
    | (go_at_call 9; refine (new_ _).mono ?_; rintro e w' ⟨rfl, rfl⟩; have b0 := Blk.new w 45 #[.int .i64 0, .int .i64 0])
    | (go_at_call 15; refine (state_ w.heap.size 0 0 _ b0).mono ?_; rintro e w' ⟨rfl, rfl⟩)
    | (go_at_call 13; refine (come_any w.heap.size 0 0 1 true _ (by simp [OkSt]) b0).mono ?_; rintro e w1 ⟨rfl, b1, g1⟩; simp only [show comeF 0 0 1 true = (0, 0, 3, 0) from rfl] at b1 ⊢)
    | (go_at_call 11; refine (send_any w.heap.size 3 0 1 false _ (by simp [OkSt]) b1).mono ?_; rintro e w2 ⟨rfl, b2, g2⟩; simp only [show sendF 3 0 1 false = (0, 3, 0) from rfl] at b2 ⊢; clear b1)
    | (go_at_call 11; refine (send_any w.heap.size 3 0 2 true _ (by simp [OkSt]) b2).mono ?_; rintro e w3 ⟨rfl, b3, g3⟩; simp only [show sendF 3 0 2 true = (0, 4, 1) from rfl] at b3 ⊢; clear b2)
    | (go_at_call 18; refine (steps_ _ _ _ _ _ _ _ _).mono ?_; rintro e w' ⟨rfl, rfl⟩))
  have i0 := Blk.new w3 3 #[.int .i64 1, .int .i64 12, .int .i64 2]
  have i1 := Blk.new (w3.alloc (.cells #[.int .i64 1, .int .i64 12, .int .i64 2] 3)) 4 #[.bool true, .bool true, .bool false]
  obtain ⟨w4, hw4⟩ : ∃ w4, w4 = (w3.alloc (.cells #[.int .i64 1, .int .i64 12, .int .i64 2] 3)).alloc (.cells #[.bool true, .bool true, .bool false] 4) := ⟨_, rfl⟩
  have sz4 : w4.heap.size = w3.heap.size + 1 + 1 := by rw [hw4]; simp
  have sz4' := Lib.hid sz4
  have r0 : Reads w4 w4.heap.size 1 (some ⟨w3.heap.size, 0, none⟩) 3 ([1, 12, 2].map (Value.int .i64 ·)) := by
    rw [hw4]; exact (reads_of_blk (size := 1) (n := 3) i0 rfl (by simp [maxLen])).alloc (Nat.le_refl _) _ |>.more (by simp)
  have r1 : Reads w4 w4.heap.size 1 (some ⟨w3.heap.size + 1, 0, none⟩) 3 ([true, true, false].map (Value.bool ·)) := by
    rw [hw4]; have := reads_of_blk (size := 1) (n := 3) i1 rfl (by simp [maxLen]); simpa using this
  have B4 : Below w3.heap.size w3 w4 := by rw [hw4]; exact ((Below.refl _ _).alloc (Nat.le_refl _) _).alloc (by simp) _
  rw [← hw4, ← sz4]
  clear hw4 i0 i1 sz4
  have k0 := Blk.new w4 22 #[.slice (some ⟨w3.heap.size, 0, none⟩) 3 3]
  have k1 := Blk.new (w4.alloc (.cells #[.slice (some ⟨w3.heap.size, 0, none⟩) 3 3] 22)) 23 #[.slice (some ⟨w3.heap.size + 1, 0, none⟩) 3 3]
  have k2 := Blk.new ((w4.alloc (.cells #[.slice (some ⟨w3.heap.size, 0, none⟩) 3 3] 22)).alloc (.cells #[.slice (some ⟨w3.heap.size + 1, 0, none⟩) 3 3] 23)) 42 #[.pointer none]
  simp only [World.size_alloc] at k1 k2
  have B5 := (((Below.refl w4.heap.size w4).alloc (Nat.le_refl _) (.cells #[.slice (some ⟨w3.heap.size, 0, none⟩) 3 3] 22)).alloc (by simp) (.cells #[.slice (some ⟨w3.heap.size + 1, 0, none⟩) 3 3] 23)).alloc (by simp <;> omega) (.cells #[.pointer none] 42)
  refine (walk_ (s := w4.heap.size) (bk := w4.heap.size) (bc := w4.heap.size + 1 + 1) (bn := w4.heap.size + 1) (pc := none) (n := 3) (n' := 3) (ks := [1, 12, 2]) (es := [true, true, false]) (by omega) (by omega) rfl rfl (by simp) ⟨by simp; omega, by simp; omega, by simp <;> omega, by simp <;> omega, fun _ h => by cases h⟩
    ⟨(k0.alloc _).alloc _, k2, k1.alloc _, r0.below B5, r1.below B5, fun _ h => (by cases h), by omega, by omega, by omega, fun _ h => (by cases h)⟩ (3, 4, 1) rfl).mono ?_
  rintro e w5 ⟨rfl, -, g5⟩
  have b5 := (((b3.below B4 b3.lt).below B5 (by have := b3.lt; have := sz4'.out; omega)).grown g5 (by simp))
  go_wp2_with (first
    | (go_at_call 15; refine (state_ w.heap.size 4 1 _ b5).mono ?_; rintro e w' ⟨rfl, rfl⟩)
    | (go_at_call 16; refine (why_ w.heap.size 4 1 _ b5).mono ?_; rintro e w' ⟨rfl, rfl⟩))
  go_ret
  refine ⟨rfl, ?_⟩
  have hbl : ∀ {a b : World} {B g : Nat}, a.grownBy b (some g) → B ≤ g → B ≤ a.heap.size → Below B a b := fun h h1 h2 => (Below.refl _ _).grown h h2 (fun k e => by injection e with e; omega)
  have s1 : w.heap.size + 1 ≤ w1.heap.size := by have := g1.size; simp at this; exact this
  have s2 := g2.size
  have s3 := g3.size
  have s4 := sz4'.out
  have e1 := ((((Below.refl _ w).alloc (Nat.le_refl _) (.cells #[.int .i64 0, .int .i64 0] 45)).trans (hbl g1 (Nat.le_refl _) (by simp))).trans (hbl g2 (Nat.le_refl _) (by omega))).trans (hbl g3 (Nat.le_refl _) (by omega))
  exact ((e1.trans (B4.mono (by omega))).trans (B5.mono (by omega))).trans ((Below.refl _ _).grown g5 (by simp; omega) (fun k e => by cases e))
end Go.Proofs.Ytkicffapbcnkbaa
