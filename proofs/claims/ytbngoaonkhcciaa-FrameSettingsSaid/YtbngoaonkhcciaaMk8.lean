/- frame: Make at the frame that begun makes; what Settings gives. -/
import Derived.Test.YtbngoaonkhcciaaSetIt
set_option linter.all false
namespace Go.Proofs.Ytbngoaonkhcciaa
open Go.ChangeShapes Go.WideShapes Go.ChangeAt Go.RowKit Go.Proofs.YtbngoaonkhcciaaW.PrintWords
attribute [local go_sem] setCell_drewN alloc_drewN Oper.semAt_some
theorem settings_ (w : World) (A : Option Addr) (n c : Nat) : Calls Try.prog 20 #[.slice A n c] w fun e w' => e = .returned (.func (.func 37) #[] #[.pointer (some ⟨w.heap.size, 0, none⟩)]) ∧ w' = w.alloc (.cells #[.slice A n c] 34) := by
  go_enter Try.func20, Try.ntmps20
  go_wp2
  go_ret
  exact ⟨rfl, rfl⟩
theorem low_ (w : World) (x : Int) (h1 : 0 ≤ x) (h2 : x ≤ 2147483647) : Calls Try.prog 35 #[.int .i64 x] w fun e w' => e = .returned (.bool true) ∧ w = w' := by
  have k1 : (0 : Int) ≤ x := h1
  have k2 : decide (x ≤ 2147483647) = true := by simpa using h2
  go_enter Try.func35, Try.ntmps35
  go_wp2
  go_ret
  exact ⟨by simp [h2], rfl⟩
def mkBody : Array Value := #[.slice none 0 0, .int .i64 0, .bool false, .bool false, .int .i64 0, .int .i64 0, .int .i64 0, .int .i64 0, .int .i64 5, .slice none 0 0, .int .i64 0]
set_option maxHeartbeats 2000000 in
theorem payload_begun (w : World) : Calls Try.prog 36 #[.slice none 0 0, .int .i64 8, .int .i64 0, .agg mkBody] w fun e w' =>
    ∃ v, e = .returned (.tuple #[v, .bool true]) ∧ w'.ownsRow w.heap.size 5 1 v 4 (encB [0, 0, 0, 5]) ∧ Keep [] w w' := by
  unfold mkBody
  go_enter Try.func36, Try.ntmps36
  go_wp2_with (fail)
  obtain ⟨w1, hw1⟩ : ∃ w1, w1 = w.alloc (.cells #[.slice none 0 0, .int .i64 0, .bool false, .bool false, .int .i64 0, .int .i64 0, .int .i64 0, .int .i64 0, .int .i64 5, .slice none 0 0, .int .i64 0] 36) := ⟨_, rfl⟩
  have K1 : Keep [] w w1 := by rw [hw1]; exact (Keep.refl _ _).alloc _
  have b1 : Blk w1 w.heap.size 36 #[.slice none 0 0, .int .i64 0, .bool false, .bool false, .int .i64 0, .int .i64 0, .int .i64 0, .int .i64 0, .int .i64 5, .slice none 0 0, .int .i64 0] := by rw [hw1]; exact Blk.new _ _ _
  rw [← hw1]
  clear hw1
  have L1 := Lib.hid (lay_ w1 w1.drew (.slice none 0 0) 0 4 5 [] ((Below.refl _ _).drew) (World.ownsRow_nil _ _ _ _) (by omega) (by omega))
  refine wpIn_wide.1 (region_rtc (n := 0) [(3, true), (7, false), (8, false)] []
    [(0, .slice none 0 0), (1, .pointer (some ⟨w.heap.size, 8, none⟩)), (2, .int .i64 5), (4, .pointer (some ⟨w.heap.size, 8, none⟩)), (5, .int .i64 5), (6, .bool true)]
    (fun W => Keep [] w1 W) (by kernel_rfl) (by kernel_rfl) ((Keep.refl _ _).drew) ?_ ?_)
  · simp only [evOkC, putAll, List.getElem?_toArray, List.getElem?_cons_zero, List.getElem?_cons_succ, Option.bind_some, Act.put, List.setIfInBounds_toArray, List.set_cons_zero, List.set_cons_succ]
    repeat' apply And.intro
    all_goals first
      | exact trivial
      | (intro W hW; refine gives_read rfl ?_; have e8 := (b1.keep hW (by simp)).cell 8; simp at e8; simp [go_sem, Addr.add, e8]; done)
      | (intro W hW; unfold GivesV; simp [go_sem]; refine ⟨trivial, rfl, (callsIn_wide.2 (low_ W 5 (by omega) (by omega))).mono ?_⟩; rintro e w' ⟨rfl, rfl⟩; exact ⟨rfl, rfl⟩)
  · simp only [putAll, List.getElem?_toArray, List.getElem?_cons_zero, List.getElem?_cons_succ, Option.bind_some, Act.put, List.setIfInBounds_toArray, List.set_cons_zero, List.set_cons_succ]
    refine tail_wanted rfl rfl ?_
    simp [go_sem]
    refine ⟨trivial, rfl, (callsIn_wide.2 L1.out).mono ?_⟩
    rintro e W5 ⟨v5, rfl, o5, B5, m5, k5⟩
    have KK5 : Keep [] w1 W5 := ⟨B5.os, B5.tape, B5.output, B5.size, fun i hi _ => B5.block i hi⟩
    refine ⟨⟨KK5, gHolds_none rfl⟩, ?_⟩
    refine tail_wanted rfl rfl ?_
    simp [go_sem]
    refine ⟨gHolds_none rfl, ?_⟩
    refine tail_wanted rfl rfl ?_
    simp [go_sem]
    refine ⟨gHolds_none rfl, ?_⟩
    unfold wpTailG
    go_at_K
    go_wp2_with (fail)
    go_ret2
    exact ⟨v5, rfl, own_lower (by simpa [beB] using o5) K1.size, K1.trans KK5⟩
set_option maxHeartbeats 2000000 in
theorem make_begun (w : World) : Calls Try.prog 18 #[.int .i64 8, .int .i64 0, .int .i64 3, .agg #[.slice none 0 0, .int .i64 0, .bool false, .bool false, .int .i64 0, .int .i64 0, .int .i64 0, .int .i64 0, .int .i64 5, .slice none 0 0, .int .i64 0]] w fun e w' =>
    ∃ v, e = .returned (.tuple #[.agg #[.int .i64 8, .int .i64 0, .int .i64 3, v], .int .i64 0]) ∧ Row1 w' w.heap.size 5 v (encB [0, 0, 0, 5]) ∧ Keep [] w w' := by
  go_enter Try.func18, Try.ntmps18
  have hpd : padF 8 = false := rfl
  go_wp2_with (first
    | (go_at_call 34; refine (padded_ _ 8).mono ?_; rintro e w' ⟨rfl, rfl⟩; rw [hpd])
    | (go_at_call 35; refine (low_ _ 3 (by omega) (by omega)).mono ?_; rintro e w' ⟨rfl, rfl⟩))
  have BB := (Blk.new w 36 mkBody).alloc (.cells #[.int .i64 0, .int .i64 0, .int .i64 0, .slice none 0 0] 24)
  have BR := Blk.new (w.alloc (.cells mkBody 36)) 24 #[.int .i64 0, .int .i64 0, .int .i64 0, .slice none 0 0]
  refine (payload_begun _).mono ?_
  rintro e w3 ⟨v3, rfl, o3, k3⟩
  have BB3 := (BB.keep k3 (by simp)).cell 1
  have BR3 := BR.keep k3 (by simp)
  simp at BR3
  have q0 := BR3.cell 0
  have q1 := BR3.cell 1
  have q2 := BR3.cell 2
  have q3 := BR3.cell 3
  have g0 := BR3.frozen 0
  have g1 := BR3.frozen 1
  have g2 := BR3.frozen 2
  have g3 := BR3.frozen 3
  simp [mkBody] at BB3 q0 q1 q2 q3
  obtain ⟨gg, c3, rfl, hc3⟩ : ∃ g cap, v3 = .slice (some ⟨g, 0, none⟩) 4 cap ∧ 4 ≤ cap := by
    rcases o3.2 with ⟨_, h⟩ | ⟨g, cap, cur, h, _, _, h2, _⟩
    · cases h
    · exact ⟨g, cap, h, h2⟩
  have K3 := Lib.hid ((((Keep.refl [] w).alloc _).alloc _).trans k3)
  have HO := Lib.hid (own_lower o3 (b' := w.heap.size + 2) (by simp))
  have HBR := Lib.hid BR3
  have l3 := k3.size
  simp at l3
  clear o3 BR3 k3 BB BR
  go_wp2_with (fail)
  have FB := (((HBR.out.set_ 0 (.int .i64 8)).set_ 1 (.int .i64 0)).set_ 2 (.int .i64 3)).set_ 3 (.slice (some ⟨gg, 0, none⟩) 4 c3)
  simp only [List.setIfInBounds_toArray, List.set_cons_zero, List.set_cons_succ] at FB
  have KL := ((((Keep.refl [w.heap.size + 1] w3).setCell (p := ⟨w.heap.size + 1, 0, none⟩) (.inl (by simp)) (.int .i64 8)).setCell (p := ⟨w.heap.size + 1, 1, none⟩) (.inl (by simp)) (.int .i64 0)).setCell (p := ⟨w.heap.size + 1, 2, none⟩) (.inl (by simp)) (.int .i64 3)).setCell (p := ⟨w.heap.size + 1, 3, none⟩) (.inl (by simp)) (.slice (some ⟨gg, 0, none⟩) 4 c3)
  have KF := K3.out.step KL (by simp)
  refine bodyPost_ret (results_ct rfl _ _ (w.heap.size + 1) 24 #[.int .i64 8, .int .i64 0, .int .i64 3, .slice (some ⟨gg, 0, none⟩) 4 c3] (0, 0) _ rfl FB Try.underlying24 rfl (by kernel_rfl)) rfl ?_
  have hrow := Row1.of_own HO.out
  exact ⟨_, rfl, (hrow.keep KL (fun g hg => by have := (hrow.lt g hg).1; simp; omega)).lower (by omega), KF⟩
end Go.Proofs.Ytbngoaonkhcciaa
