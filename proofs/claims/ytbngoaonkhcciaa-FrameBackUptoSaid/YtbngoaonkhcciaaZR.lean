/- Own texts in one: PMkx5 PMkx. -/
import Derived.Test.YtbngoaonkhcciaaZP
import Derived.Test.YtbngoaonkhcciaaZQ
/-! #### PMkx5 -/
namespace Go.Proofs.Ytbngoaonkhcciaa.PMk
open Go.RowKit Go.Proofs.YtbngoaonkhcciaaW.PrintWords Go.Proofs.YtbngoaonkhcciaaW.PrintLast Go.Proofs.YtbngoaonkhcciaaW.PrintMore
attribute [local go_sem] max2_int min2_int max_two min_two max_three min_three max_four min_four   -- for this text's walks alone
set_option linter.unusedVariables false
set_option linter.unusedSimpArgs false

/-! ### frame_Make: function 18 -/
mutual
def frame_Make.j0 : Nat → Int → Int → Int → Bool → List Int → Int → Bool → Bool → Int → Int → Int → Int → Int → List (S44) → Int → Option (Int × Int × Int × List Int × Int)
  | 0, _, _, _, _, _, _, _, _, _, _, _, _, _, _, _ => none
  | k + 1, x0, x1, x2, x10, x181000, x181001, x181002, x181003, x181004, x181005, x181006, x181007, x181008, x181009, x181010 => if x0 < 0 then (frame_Make.j1 k x0 x1 x2 x10 true x181000 x181001 x181002 x181003 x181004 x181005 x181006 x181007 x181008 x181009 x181010) else (if x0 > 9 then (frame_Make.j1 k x0 x1 x2 x10 true x181000 x181001 x181002 x181003 x181004 x181005 x181006 x181007 x181008 x181009 x181010) else (if x1 < 0 then (frame_Make.j1 k x0 x1 x2 x10 true x181000 x181001 x181002 x181003 x181004 x181005 x181006 x181007 x181008 x181009 x181010) else (if x1 > 255 then (frame_Make.j1 k x0 x1 x2 x10 true x181000 x181001 x181002 x181003 x181004 x181005 x181006 x181007 x181008 x181009 x181010) else ((frame_low.f x2).bind fun t183 => (if t183 = true then (if x181001 < 0 then (frame_Make.j1 k x0 x1 x2 x10 true x181000 x181001 x181002 x181003 x181004 x181005 x181006 x181007 x181008 x181009 x181010) else (if x181001 > 255 then (frame_Make.j1 k x0 x1 x2 x10 true x181000 x181001 x181002 x181003 x181004 x181005 x181006 x181007 x181008 x181009 x181010) else (if x181001 > 0 then (frame_Make.j1 k x0 x1 x2 x10 (!x10) x181000 x181001 x181002 x181003 x181004 x181005 x181006 x181007 x181008 x181009 x181010) else (frame_Make.j1 k x0 x1 x2 x10 false x181000 x181001 x181002 x181003 x181004 x181005 x181006 x181007 x181008 x181009 x181010)))) else (frame_Make.j1 k x0 x1 x2 x10 true x181000 x181001 x181002 x181003 x181004 x181005 x181006 x181007 x181008 x181009 x181010))))))
def frame_Make.j1 : Nat → Int → Int → Int → Bool → Bool → List Int → Int → Bool → Bool → Int → Int → Int → Int → Int → List (S44) → Int → Option (Int × Int × Int × List Int × Int)
  | 0, _, _, _, _, _, _, _, _, _, _, _, _, _, _, _, _ => none
  | k + 1, x0, x1, x2, x10, x57, x181000, x181001, x181002, x181003, x181004, x181005, x181006, x181007, x181008, x181009, x181010 => if x57 = true then (some (0, 0, 0, ([] : List Int), 1)) else (if x10 = true then (if ([] : List Int).length < 140737488355328 then (frame_Make.j2 k x0 x1 x2 (([] : List Int) ++ [(x181001) % 256]) x181000 x181001 x181002 x181003 x181004 x181005 x181006 x181007 x181008 x181009 x181010) else (none)) else (frame_Make.j2 k x0 x1 x2 ([] : List Int) x181000 x181001 x181002 x181003 x181004 x181005 x181006 x181007 x181008 x181009 x181010))
def frame_Make.j2 : Nat → Int → Int → Int → List Int → List Int → Int → Bool → Bool → Int → Int → Int → Int → Int → List (S44) → Int → Option (Int × Int × Int × List Int × Int)
  | 0, _, _, _, _, _, _, _, _, _, _, _, _, _, _, _ => none
  | k + 1, x0, x1, x2, x11, x181000, x181001, x181002, x181003, x181004, x181005, x181006, x181007, x181008, x181009, x181010 => (frame_payload.f k x11 x0 x1 x181000 x181001 x181002 x181003 x181004 x181005 x181006 x181007 x181008 x181009 x181010).bind fun bt187 => (if bt187.2 = true then (if 0 ≤ x181001 then (if bt187.1.length + (x181001 : Int).toNat < 140737488355328 then ((some (bt187.1 ++ List.replicate (x181001 : Int).toNat 0 : List Int)).bind fun y191 => (if (y191.length : Int) > 16777215 then (some (0, 0, 0, ([] : List Int), 2)) else (some (x0, x1, x2, y191, 0)))) else (none)) else (none)) else (some (0, 0, 0, ([] : List Int), 1)))
end
def frame_Make.f (k : Nat) (a0 : Int) (a1 : Int) (a2 : Int) (l3_0 : List Int) (a3_1 : Int) (a3_2 : Bool) (a3_3 : Bool) (a3_4 : Int) (a3_5 : Int) (a3_6 : Int) (a3_7 : Int) (a3_8 : Int) (l3_9 : List (S44)) (a3_10 : Int) : Option (Int × Int × Int × List Int × Int) := (frame_padded.f a0).bind fun t182 => (if t182 = true then (frame_Make.j0 k a0 a1 a2 ((Go.bits .and .i64 a1 8) != 0) l3_0 a3_1 a3_2 a3_3 a3_4 a3_5 a3_6 a3_7 a3_8 l3_9 a3_10) else (frame_Make.j0 k a0 a1 a2 false l3_0 a3_1 a3_2 a3_3 a3_4 a3_5 a3_6 a3_7 a3_8 l3_9 a3_10))
theorem frame_Make.mono_l : ∀ k, (∀ y0 y1 y2 y3 y4 y5 y6 y7 y8 y9 y10 y11 y12 y13 y14, LeO (frame_Make.j0 k y0 y1 y2 y3 y4 y5 y6 y7 y8 y9 y10 y11 y12 y13 y14) (frame_Make.j0 (k + 1) y0 y1 y2 y3 y4 y5 y6 y7 y8 y9 y10 y11 y12 y13 y14)) ∧ (∀ y0 y1 y2 y3 y4 y5 y6 y7 y8 y9 y10 y11 y12 y13 y14 y15, LeO (frame_Make.j1 k y0 y1 y2 y3 y4 y5 y6 y7 y8 y9 y10 y11 y12 y13 y14 y15) (frame_Make.j1 (k + 1) y0 y1 y2 y3 y4 y5 y6 y7 y8 y9 y10 y11 y12 y13 y14 y15)) ∧ (∀ y0 y1 y2 y3 y4 y5 y6 y7 y8 y9 y10 y11 y12 y13 y14, LeO (frame_Make.j2 k y0 y1 y2 y3 y4 y5 y6 y7 y8 y9 y10 y11 y12 y13 y14) (frame_Make.j2 (k + 1) y0 y1 y2 y3 y4 y5 y6 y7 y8 y9 y10 y11 y12 y13 y14))
  | 0 => ⟨fun _ _ _ _ _ _ _ _ _ _ _ _ _ _ _ r h => by simp [frame_Make.j0] at h, fun _ _ _ _ _ _ _ _ _ _ _ _ _ _ _ _ r h => by simp [frame_Make.j1] at h, fun _ _ _ _ _ _ _ _ _ _ _ _ _ _ _ r h => by simp [frame_Make.j2] at h⟩
  | k + 1 => by
    obtain ⟨ih0, ih1, ih2⟩ := frame_Make.mono_l k
    refine ⟨?_, ?_, ?_⟩
    · intro y0 y1 y2 y3 y4 y5 y6 y7 y8 y9 y10 y11 y12 y13 y14
      unfold frame_Make.j0
      repeat' first
      | (with_reducible exact ih0 _ _ _ _ _ _ _ _ _ _ _ _ _ _ _)
      | (with_reducible exact ih1 _ _ _ _ _ _ _ _ _ _ _ _ _ _ _ _)
      | (with_reducible exact ih2 _ _ _ _ _ _ _ _ _ _ _ _ _ _ _)
      | (with_reducible exact frame_payload.mono _ _ _ _ _ _ _ _ _ _ _ _ _ _ _)
      | (with_reducible exact LeO.refl _)
      | (with_reducible exact LeO.none _)
      | (with_reducible refine LeO.ite ?_ ?_)
      | (with_reducible refine LeO.bind ?_ (fun _ => ?_))
      | exact ih0 _ _ _ _ _ _ _ _ _ _ _ _ _ _ _
      | exact ih1 _ _ _ _ _ _ _ _ _ _ _ _ _ _ _ _
      | exact ih2 _ _ _ _ _ _ _ _ _ _ _ _ _ _ _
      | exact frame_payload.mono _ _ _ _ _ _ _ _ _ _ _ _ _ _ _
      | exact LeO.none _
      | refine LeO.ite ?_ ?_
      | refine LeO.bind ?_ (fun _ => ?_)
    · intro y0 y1 y2 y3 y4 y5 y6 y7 y8 y9 y10 y11 y12 y13 y14 y15
      unfold frame_Make.j1
      repeat' first
      | (with_reducible exact ih0 _ _ _ _ _ _ _ _ _ _ _ _ _ _ _)
      | (with_reducible exact ih1 _ _ _ _ _ _ _ _ _ _ _ _ _ _ _ _)
      | (with_reducible exact ih2 _ _ _ _ _ _ _ _ _ _ _ _ _ _ _)
      | (with_reducible exact frame_payload.mono _ _ _ _ _ _ _ _ _ _ _ _ _ _ _)
      | (with_reducible exact LeO.refl _)
      | (with_reducible exact LeO.none _)
      | (with_reducible refine LeO.ite ?_ ?_)
      | (with_reducible refine LeO.bind ?_ (fun _ => ?_))
      | exact ih0 _ _ _ _ _ _ _ _ _ _ _ _ _ _ _
      | exact ih1 _ _ _ _ _ _ _ _ _ _ _ _ _ _ _ _
      | exact ih2 _ _ _ _ _ _ _ _ _ _ _ _ _ _ _
      | exact frame_payload.mono _ _ _ _ _ _ _ _ _ _ _ _ _ _ _
      | exact LeO.none _
      | refine LeO.ite ?_ ?_
      | refine LeO.bind ?_ (fun _ => ?_)
    · intro y0 y1 y2 y3 y4 y5 y6 y7 y8 y9 y10 y11 y12 y13 y14
      unfold frame_Make.j2
      repeat' first
      | (with_reducible exact ih0 _ _ _ _ _ _ _ _ _ _ _ _ _ _ _)
      | (with_reducible exact ih1 _ _ _ _ _ _ _ _ _ _ _ _ _ _ _ _)
      | (with_reducible exact ih2 _ _ _ _ _ _ _ _ _ _ _ _ _ _ _)
      | (with_reducible exact frame_payload.mono _ _ _ _ _ _ _ _ _ _ _ _ _ _ _)
      | (with_reducible exact LeO.refl _)
      | (with_reducible exact LeO.none _)
      | (with_reducible refine LeO.ite ?_ ?_)
      | (with_reducible refine LeO.bind ?_ (fun _ => ?_))
      | exact ih0 _ _ _ _ _ _ _ _ _ _ _ _ _ _ _
      | exact ih1 _ _ _ _ _ _ _ _ _ _ _ _ _ _ _ _
      | exact ih2 _ _ _ _ _ _ _ _ _ _ _ _ _ _ _
      | exact frame_payload.mono _ _ _ _ _ _ _ _ _ _ _ _ _ _ _
      | exact LeO.none _
      | refine LeO.ite ?_ ?_
      | refine LeO.bind ?_ (fun _ => ?_)
theorem frame_Make.mono : ∀ a0 a1 a2 a3 a4 a5 a6 a7 a8 a9 a10 a11 a12 a13 k, LeO (frame_Make.f k a0 a1 a2 a3 a4 a5 a6 a7 a8 a9 a10 a11 a12 a13) (frame_Make.f (k + 1) a0 a1 a2 a3 a4 a5 a6 a7 a8 a9 a10 a11 a12 a13) := by
  intro a0 a1 a2 a3 a4 a5 a6 a7 a8 a9 a10 a11 a12 a13 k
  obtain ⟨ih0, ih1, ih2⟩ := frame_Make.mono_l k
  unfold frame_Make.f
  repeat' first
      | (with_reducible exact ih0 _ _ _ _ _ _ _ _ _ _ _ _ _ _ _)
      | (with_reducible exact ih1 _ _ _ _ _ _ _ _ _ _ _ _ _ _ _ _)
      | (with_reducible exact ih2 _ _ _ _ _ _ _ _ _ _ _ _ _ _ _)
      | (with_reducible exact frame_payload.mono _ _ _ _ _ _ _ _ _ _ _ _ _ _ _)
      | (with_reducible exact LeO.refl _)
      | (with_reducible exact LeO.none _)
      | (with_reducible refine LeO.ite ?_ ?_)
      | (with_reducible refine LeO.bind ?_ (fun _ => ?_))
      | exact ih0 _ _ _ _ _ _ _ _ _ _ _ _ _ _ _
      | exact ih1 _ _ _ _ _ _ _ _ _ _ _ _ _ _ _ _
      | exact ih2 _ _ _ _ _ _ _ _ _ _ _ _ _ _ _
      | exact frame_payload.mono _ _ _ _ _ _ _ _ _ _ _ _ _ _ _
      | exact LeO.none _
      | refine LeO.ite ?_ ?_
      | refine LeO.bind ?_ (fun _ => ?_)
set_option maxHeartbeats 8000000 in
set_option maxRecDepth 100000 in
theorem frame_Make.calls (k : Nat) (a0 : Int) (a1 : Int) (a2 : Int) (A3_0 : Option Addr) (c3_0 : Nat) (l3_0 : List Int) (a3_1 : Int) (a3_2 : Bool) (a3_3 : Bool) (a3_4 : Int) (a3_5 : Int) (a3_6 : Int) (a3_7 : Int) (a3_8 : Int) (A3_9 : Option Addr) (c3_9 : Nat) (l3_9 : List (S44)) (a3_10 : Int) (r1 : Int) (r2 : Int) (r3 : Int) (r4 : List Int) (r5 : Int) (w : World) (hr3_0 : Kd.C (Kd.int .u8) w A3_0 l3_0.length l3_0) (hc3_0 : l3_0.length ≤ c3_0) (hr3_9 : Kd.C k44 w A3_9 l3_9.length l3_9) (hc3_9 : l3_9.length ≤ c3_9) (h : frame_Make.f k a0 a1 a2 l3_0 a3_1 a3_2 a3_3 a3_4 a3_5 a3_6 a3_7 a3_8 l3_9 a3_10 = some (r1, r2, r3, r4, r5)) :
    Calls Try.prog 18 #[.int .i64 a0, .int .i64 a1, .int .i64 a2, .agg #[.slice A3_0 l3_0.length c3_0, .int .i64 a3_1, .bool a3_2, .bool a3_3, .int .i64 a3_4, .int .i64 a3_5, .int .i64 a3_6, .int .i64 a3_7, .int .i64 a3_8, .slice A3_9 l3_9.length c3_9, .int .i64 a3_10]] w fun e w' => ∃ v3_ : Value, e = .returned (.tuple #[.agg #[.int .i64 r1, .int .i64 r2, .int .i64 r3, v3_], .int .i64 r5]) ∧ Kd.R (Kd.int .u8) 5 w' w.heap.size (fun _ => True) v3_ r4 ∧ Below w.heap.size w w' := by
  have hu36 := Try.underlying36
  have hu24 := Try.underlying24
  have HR3_0 := Aside0.mk hr3_0
  have HC3_0 := Aside0.mk hc3_0
  clear hr3_0 hc3_0
  have HR3_9 := Aside0.mk hr3_9
  have HC3_9 := Aside0.mk hc3_9
  clear hr3_9 hc3_9
  have HB := Aside0.mk (Below.refl w.heap.size w)
  have H : ((frame_padded.f a0).bind fun t182 => (if t182 = true then (frame_Make.j0 k a0 a1 a2 ((Go.bits .and .i64 a1 8) != 0) l3_0 a3_1 a3_2 a3_3 a3_4 a3_5 a3_6 a3_7 a3_8 l3_9 a3_10) else (frame_Make.j0 k a0 a1 a2 false l3_0 a3_1 a3_2 a3_3 a3_4 a3_5 a3_6 a3_7 a3_8 l3_9 a3_10))) = some (r1, r2, r3, r4, r5) := h
  clear h
  have HC5 := Aside0.mk H
  clear H
  go_enter Try.func18, Try.ntmps18
  go_upto_region 1 with (first | ((with_reducible refine gate_dst (N := 7) rfl ?_); refine box_event ?hg (N := 7) ?hd (cs := #[.slice A3_0 l3_0.length c3_0, .int .i64 a3_1, .bool a3_2, .bool a3_3, .int .i64 a3_4, .int .i64 a3_5, .int .i64 a3_6, .int .i64 a3_7, .int .i64 a3_8, .slice A3_9 l3_9.length c3_9, .int .i64 a3_10]) (t := 36) ?hr ?_; (case hd => rfl); (case hg => rfl); (case hr => first | (go_simp; done) | (go_simp; rfl)); intro gb180 hg w6 hbox hb; have n0_ := Aside0.mk (below_step (by repeat (first | (with_reducible first | exact HB.out | apply below_alloc | apply pw_below_drewN | apply below_drew1) | exact HB.out)) hb); have n1_ := Aside0.mk (hbox); have n2_ := Aside0.mk ((by rw [hg]; exact (below_size (by repeat (first | (with_reducible first | exact HB.out | apply below_alloc | apply pw_below_drewN | apply below_drew1) | exact HB.out))) : w.heap.size ≤ gb180)); have n3_ := Aside0.mk ((by rw [hg]; exact (below_size (by repeat (first | (with_reducible first | exact HB.out | apply below_alloc | apply pw_below_drewN | apply below_drew1) | exact HB.out))) : w.heap.size ≤ gb180)); clear HB; have HB := n0_; have BK180 := n1_; have GW180 := n2_; have GE180 := n3_; clear n0_ n1_ n2_ n3_; clear hb hbox hg) | ((with_reducible refine gate_dst (N := 8) rfl ?_); refine box_event ?hg (N := 8) ?hd (cs := #[.int .i64 0, .int .i64 0, .int .i64 0, .slice none 0 0]) (t := 24) ?hr ?_; (case hd => rfl); (case hg => rfl); (case hr => first | (go_simp; done) | (go_simp; rfl)); intro gb181 hg w7 hbox hb; have n0_ := Aside0.mk (blk_below (g := gb180) (o := .cells #[.slice A3_0 l3_0.length c3_0, .int .i64 a3_1, .bool a3_2, .bool a3_3, .int .i64 a3_4, .int .i64 a3_5, .int .i64 a3_6, .int .i64 a3_7, .int .i64 a3_8, .slice A3_9 l3_9.length c3_9, .int .i64 a3_10] 36 (0, 0)) (by (with_reducible repeat (first | refine blk_drewN ?_ _ | refine blk_drew ?_ | refine blk_alloc ?_ _)); exact BK180.out) hb); have n1_ := Aside0.mk (below_step (by repeat (first | (with_reducible first | exact HB.out | apply below_alloc | apply pw_below_drewN | apply below_drew1 | refine below_set ?_ GE180.out) | exact HB.out)) hb); have n2_ := Aside0.mk (hbox); have n3_ := Aside0.mk ((by rw [hg]; exact (below_size (by repeat (first | (with_reducible first | exact HB.out | apply below_alloc | apply pw_below_drewN | apply below_drew1 | refine below_set ?_ GE180.out) | exact HB.out))) : w.heap.size ≤ gb181)); have n4_ := Aside0.mk ((by rw [hg]; exact (below_size (by repeat (first | (with_reducible first | exact HB.out | apply below_alloc | apply pw_below_drewN | apply below_drew1 | refine below_set ?_ GE180.out) | exact HB.out))) : w.heap.size ≤ gb181)); have n5_ := Aside0.mk ((by rw [hg]; exact Nat.ne_of_lt (blk_lt (g := gb180) (o := .cells #[.slice A3_0 l3_0.length c3_0, .int .i64 a3_1, .bool a3_2, .bool a3_3, .int .i64 a3_4, .int .i64 a3_5, .int .i64 a3_6, .int .i64 a3_7, .int .i64 a3_8, .slice A3_9 l3_9.length c3_9, .int .i64 a3_10] 36 (0, 0)) (by (with_reducible repeat (first | refine blk_drewN ?_ _ | refine blk_drew ?_ | refine blk_alloc ?_ _)); exact BK180.out)) : gb180 ≠ gb181)); have n6_ := Aside0.mk ((by rw [hg]; exact Nat.ne_of_gt (blk_lt (g := gb180) (o := .cells #[.slice A3_0 l3_0.length c3_0, .int .i64 a3_1, .bool a3_2, .bool a3_3, .int .i64 a3_4, .int .i64 a3_5, .int .i64 a3_6, .int .i64 a3_7, .int .i64 a3_8, .slice A3_9 l3_9.length c3_9, .int .i64 a3_10] 36 (0, 0)) (by (with_reducible repeat (first | refine blk_drewN ?_ _ | refine blk_drew ?_ | refine blk_alloc ?_ _)); exact BK180.out)) : gb181 ≠ gb180)); clear BK180; clear HB; have BK180 := n0_; have HB := n1_; have BK181 := n2_; have GW181 := n3_; have GE181 := n4_; have NB180_181 := n5_; have NB181_180 := n6_; clear n0_ n1_ n2_ n3_ n4_ n5_ n6_; clear hb hbox hg))
  (try simp only [Act.put, List.setIfInBounds_toArray, List.set_cons_zero, List.set_cons_succ])
  go_cut [10] (fun v10 wc => ∃ (kq : Nat) (x10_4 : Bool), v10 = .bool x10_4 ∧ Aside0 (frame_Make.j0 kq a0 a1 a2 x10_4 l3_0 a3_1 a3_2 a3_3 a3_4 a3_5 a3_6 a3_7 a3_8 l3_9 a3_10 = some (r1, r2, r3, r4, r5)) ∧ Aside0 (kq ≤ k) ∧ Aside0 (wc.heap[gb180]? = some (.cells #[(.slice A3_0 l3_0.length c3_0), .int .i64 a3_1, .bool a3_2, .bool a3_3, .int .i64 a3_4, .int .i64 a3_5, .int .i64 a3_6, .int .i64 a3_7, .int .i64 a3_8, (.slice A3_9 l3_9.length c3_9), .int .i64 a3_10] 36 (0, 0))) ∧ Aside0 (wc.heap[gb181]? = some (.cells #[.int .i64 0, .int .i64 0, .int .i64 0, (.slice none 0 0)] 24 (0, 0))) ∧ Aside0 (Below w.heap.size w wc))
  case first =>
    have H := HC5.out
    clear HC5
    replace H := Option.bind_eq_some_iff.mp H
    obtain ⟨t182, A80, H⟩ := H
    replace H : (if t182 = true then (frame_Make.j0 k a0 a1 a2 ((Go.bits .and .i64 a1 8) != 0) l3_0 a3_1 a3_2 a3_3 a3_4 a3_5 a3_6 a3_7 a3_8 l3_9 a3_10) else (frame_Make.j0 k a0 a1 a2 false l3_0 a3_1 a3_2 a3_3 a3_4 a3_5 a3_6 a3_7 a3_8 l3_9 a3_10)) = some (r1, r2, r3, r4, r5) := H
    have A8 := Aside0.mk A80
    clear A80
    by_cases c9 : t182 = true
    · subst c9
      have H1 : (frame_Make.j0 k a0 a1 a2 ((Go.bits .and .i64 a1 8) != 0) l3_0 a3_1 a3_2 a3_3 a3_4 a3_5 a3_6 a3_7 a3_8 l3_9 a3_10) = some (r1, r2, r3, r4, r5) := by rw [if_pos rfl] at H; exact H
      clear H
      have H := H1
      clear H1
      have H' := Aside0.mk H
      clear H
      go_wp2_with (first | ((with_reducible refine gate_callee (f := 34) rfl ?_); refine goesL_ (some 14) rfl rfl Try.func34 (by kernel_rfl) rfl #[.int .i64 a0] rfl (by (try simp only [List.map_toArray, List.map_cons, List.map_nil]); first | done | rfl | (simp only [List.length_drop, List.length_take]; rfl)) ?_; (with_reducible refine (frame_padded.calls a0 true _ A8.out).mono ?_); rintro e w' ⟨rfl, ⟨nd, rfl⟩⟩; refine ⟨_, rfl, ?_⟩))
      go_meet
      case rel => exact ⟨_, (((Go.bits .and .i64 a1 8) != 0)), (by first | rfl | (simp; done) | (simp [*]; done)), H', ⟨by first | omega | exact Nat.le_refl _⟩, ⟨by (with_reducible repeat (first | refine blk_drewN ?_ _ | refine blk_drew ?_ | refine blk_alloc ?_ _)); exact BK180.out⟩, ⟨by (with_reducible repeat (first | refine blk_drewN ?_ _ | refine blk_drew ?_ | refine blk_alloc ?_ _)); exact BK181.out⟩, ⟨by repeat (first | (with_reducible first | exact HB.out | apply below_alloc | apply pw_below_drewN | apply below_drew1 | refine below_set ?_ GE180.out | refine below_set ?_ GE181.out) | exact HB.out)⟩⟩
    · replace c9 := Bool.eq_false_iff.mpr c9
      subst c9
      have H1 : (frame_Make.j0 k a0 a1 a2 false l3_0 a3_1 a3_2 a3_3 a3_4 a3_5 a3_6 a3_7 a3_8 l3_9 a3_10) = some (r1, r2, r3, r4, r5) := by rw [if_neg (show ¬ (false = true) by decide)] at H; exact H
      clear H
      have H := H1
      clear H1
      have H' := Aside0.mk H
      clear H
      go_wp2_with (first | ((with_reducible refine gate_callee (f := 34) rfl ?_); refine goesL_ (some 14) rfl rfl Try.func34 (by kernel_rfl) rfl #[.int .i64 a0] rfl (by (try simp only [List.map_toArray, List.map_cons, List.map_nil]); first | done | rfl | (simp only [List.length_drop, List.length_take]; rfl)) ?_; (with_reducible refine (frame_padded.calls a0 false _ A8.out).mono ?_); rintro e w' ⟨rfl, ⟨nd, rfl⟩⟩; refine ⟨_, rfl, ?_⟩))
      go_meet
      case rel => exact ⟨_, (false), (by first | rfl | (simp; done) | (simp [*]; done)), H', ⟨by first | omega | exact Nat.le_refl _⟩, ⟨by (with_reducible repeat (first | refine blk_drewN ?_ _ | refine blk_drew ?_ | refine blk_alloc ?_ _)); exact BK180.out⟩, ⟨by (with_reducible repeat (first | refine blk_drewN ?_ _ | refine blk_drew ?_ | refine blk_alloc ?_ _)); exact BK181.out⟩, ⟨by repeat (first | (with_reducible first | exact HB.out | apply below_alloc | apply pw_below_drewN | apply below_drew1 | refine below_set ?_ GE180.out | refine below_set ?_ GE181.out) | exact HB.out)⟩⟩
  case rest =>
    clear HC5
    try clear c1
    try clear p2
    try clear c3
    try clear c9
    obtain ⟨kq, x10_4, rfl, HA, HJ4, BK180, BK181, HB⟩ := hcut
    cases kq with
    | zero => exact absurd HA.out (by simp [frame_Make.j0])
    | succ kj4 =>
      have H := HA.out
      clear HA
      simp only [frame_Make.j0] at H
      have HC10 := Aside0.mk H
      clear H
      go_upto_region 2 with (fail)
      go_cut [57] (fun v57 wc => ∃ (kq : Nat) (x57_9 : Bool), v57 = .bool x57_9 ∧ Aside0 (frame_Make.j1 kq a0 a1 a2 x10_4 x57_9 l3_0 a3_1 a3_2 a3_3 a3_4 a3_5 a3_6 a3_7 a3_8 l3_9 a3_10 = some (r1, r2, r3, r4, r5)) ∧ Aside0 (kq ≤ kj4) ∧ Aside0 (wc.heap[gb180]? = some (.cells #[(.slice A3_0 l3_0.length c3_0), .int .i64 a3_1, .bool a3_2, .bool a3_3, .int .i64 a3_4, .int .i64 a3_5, .int .i64 a3_6, .int .i64 a3_7, .int .i64 a3_8, (.slice A3_9 l3_9.length c3_9), .int .i64 a3_10] 36 (0, 0))) ∧ Aside0 (wc.heap[gb181]? = some (.cells #[.int .i64 0, .int .i64 0, .int .i64 0, (.slice none 0 0)] 24 (0, 0))) ∧ Aside0 (Below w.heap.size w wc))
      case first =>
        have H := HC10.out
        clear HC10
        by_cases c11 : a0 < 0
        · rw [if_pos c11] at H
          have c11b0 : decide (a0 < 0) = true := decide_eq_true c11
          clear c11
          (first | rw [c11b0] | (simp only [i64_w, i32_w]; rw [c11b0]) | skip)
          have H' := Aside0.mk H
          clear H
          go_wp2
          go_meet
          case rel => exact ⟨_, (true), (by first | rfl | (simp; done) | (simp [*]; done)), H', ⟨by have := HJ4.out; first | omega | exact Nat.le_refl _⟩, ⟨by (with_reducible repeat (first | refine blk_drewN ?_ _ | refine blk_drew ?_ | refine blk_alloc ?_ _)); exact BK180.out⟩, ⟨by (with_reducible repeat (first | refine blk_drewN ?_ _ | refine blk_drew ?_ | refine blk_alloc ?_ _)); exact BK181.out⟩, ⟨by repeat (first | (with_reducible first | exact HB.out | apply below_alloc | apply pw_below_drewN | apply below_drew1 | refine below_set ?_ GE180.out | refine below_set ?_ GE181.out) | exact HB.out)⟩⟩
        · rw [if_neg c11] at H
          have c11b0 : decide (a0 < 0) = false := decide_eq_false c11
          clear c11
          (first | rw [c11b0] | (simp only [i64_w, i32_w]; rw [c11b0]) | skip)
          by_cases c12 : a0 > 9
          · rw [if_pos c12] at H
            have c12b0 : decide (9 < a0) = true := decide_eq_true c12
            clear c12
            have H' := Aside0.mk H
            clear H
            go_wp2
            go_meet
            case rel => exact ⟨_, (true), (by first | rfl | (simp; done) | (simp [*]; done)), H', ⟨by have := HJ4.out; first | omega | exact Nat.le_refl _⟩, ⟨by (with_reducible repeat (first | refine blk_drewN ?_ _ | refine blk_drew ?_ | refine blk_alloc ?_ _)); exact BK180.out⟩, ⟨by (with_reducible repeat (first | refine blk_drewN ?_ _ | refine blk_drew ?_ | refine blk_alloc ?_ _)); exact BK181.out⟩, ⟨by repeat (first | (with_reducible first | exact HB.out | apply below_alloc | apply pw_below_drewN | apply below_drew1 | refine below_set ?_ GE180.out | refine below_set ?_ GE181.out) | exact HB.out)⟩⟩
          · rw [if_neg c12] at H
            have c12b0 : decide (9 < a0) = false := decide_eq_false c12
            clear c12
            by_cases c13 : a1 < 0
            · rw [if_pos c13] at H
              have c13b0 : decide (a1 < 0) = true := decide_eq_true c13
              clear c13
              have H' := Aside0.mk H
              clear H
              go_wp2
              go_meet
              case rel => exact ⟨_, (true), (by first | rfl | (simp; done) | (simp [*]; done)), H', ⟨by have := HJ4.out; first | omega | exact Nat.le_refl _⟩, ⟨by (with_reducible repeat (first | refine blk_drewN ?_ _ | refine blk_drew ?_ | refine blk_alloc ?_ _)); exact BK180.out⟩, ⟨by (with_reducible repeat (first | refine blk_drewN ?_ _ | refine blk_drew ?_ | refine blk_alloc ?_ _)); exact BK181.out⟩, ⟨by repeat (first | (with_reducible first | exact HB.out | apply below_alloc | apply pw_below_drewN | apply below_drew1 | refine below_set ?_ GE180.out | refine below_set ?_ GE181.out) | exact HB.out)⟩⟩
            · rw [if_neg c13] at H
              have c13b0 : decide (a1 < 0) = false := decide_eq_false c13
              clear c13
              by_cases c14 : a1 > 255
              · rw [if_pos c14] at H
                have c14b0 : decide (255 < a1) = true := decide_eq_true c14
                clear c14
                have H' := Aside0.mk H
                clear H
                go_wp2
                go_meet
                case rel => exact ⟨_, (true), (by first | rfl | (simp; done) | (simp [*]; done)), H', ⟨by have := HJ4.out; first | omega | exact Nat.le_refl _⟩, ⟨by (with_reducible repeat (first | refine blk_drewN ?_ _ | refine blk_drew ?_ | refine blk_alloc ?_ _)); exact BK180.out⟩, ⟨by (with_reducible repeat (first | refine blk_drewN ?_ _ | refine blk_drew ?_ | refine blk_alloc ?_ _)); exact BK181.out⟩, ⟨by repeat (first | (with_reducible first | exact HB.out | apply below_alloc | apply pw_below_drewN | apply below_drew1 | refine below_set ?_ GE180.out | refine below_set ?_ GE181.out) | exact HB.out)⟩⟩
              · rw [if_neg c14] at H
                have c14b0 : decide (255 < a1) = false := decide_eq_false c14
                clear c14
                replace H := Option.bind_eq_some_iff.mp H
                obtain ⟨t183, A150, H⟩ := H
                replace H : (if t183 = true then (if a3_1 < 0 then (frame_Make.j1 kj4 a0 a1 a2 x10_4 true l3_0 a3_1 a3_2 a3_3 a3_4 a3_5 a3_6 a3_7 a3_8 l3_9 a3_10) else (if a3_1 > 255 then (frame_Make.j1 kj4 a0 a1 a2 x10_4 true l3_0 a3_1 a3_2 a3_3 a3_4 a3_5 a3_6 a3_7 a3_8 l3_9 a3_10) else (if a3_1 > 0 then (frame_Make.j1 kj4 a0 a1 a2 x10_4 (!x10_4) l3_0 a3_1 a3_2 a3_3 a3_4 a3_5 a3_6 a3_7 a3_8 l3_9 a3_10) else (frame_Make.j1 kj4 a0 a1 a2 x10_4 false l3_0 a3_1 a3_2 a3_3 a3_4 a3_5 a3_6 a3_7 a3_8 l3_9 a3_10)))) else (frame_Make.j1 kj4 a0 a1 a2 x10_4 true l3_0 a3_1 a3_2 a3_3 a3_4 a3_5 a3_6 a3_7 a3_8 l3_9 a3_10)) = some (r1, r2, r3, r4, r5) := H
                have A15 := Aside0.mk A150
                clear A150
                by_cases c16 : t183 = true
                · subst c16
                  have H1 : (if a3_1 < 0 then (frame_Make.j1 kj4 a0 a1 a2 x10_4 true l3_0 a3_1 a3_2 a3_3 a3_4 a3_5 a3_6 a3_7 a3_8 l3_9 a3_10) else (if a3_1 > 255 then (frame_Make.j1 kj4 a0 a1 a2 x10_4 true l3_0 a3_1 a3_2 a3_3 a3_4 a3_5 a3_6 a3_7 a3_8 l3_9 a3_10) else (if a3_1 > 0 then (frame_Make.j1 kj4 a0 a1 a2 x10_4 (!x10_4) l3_0 a3_1 a3_2 a3_3 a3_4 a3_5 a3_6 a3_7 a3_8 l3_9 a3_10) else (frame_Make.j1 kj4 a0 a1 a2 x10_4 false l3_0 a3_1 a3_2 a3_3 a3_4 a3_5 a3_6 a3_7 a3_8 l3_9 a3_10)))) = some (r1, r2, r3, r4, r5) := by rw [if_pos rfl] at H; exact H
                  clear H
                  have H := H1
                  clear H1
                  by_cases c17 : a3_1 < 0
                  · rw [if_pos c17] at H
                    have c17b0 : decide (a3_1 < 0) = true := decide_eq_true c17
                    clear c17
                    have H' := Aside0.mk H
                    clear H
                    go_wp2_with (first | (go_at_call 35; (with_reducible refine (frame_low.calls a2 true _ A15.out).mono ?_); rintro e w' ⟨rfl, ⟨nd, rfl⟩⟩; have hnb18 := NB180_181.out; have hnc18 := NB181_180.out; have hcz19_0 : wc.cell? ⟨gb180, 0, none⟩ = some (.slice A3_0 l3_0.length c3_0) := (blk_cell BK180.out 0).trans rfl; have hcz19_1 : wc.cell? ⟨gb180, 1, none⟩ = some (.int .i64 a3_1) := (blk_cell BK180.out 1).trans rfl; have hcz19_2 : wc.cell? ⟨gb180, 2, none⟩ = some (.bool a3_2) := (blk_cell BK180.out 2).trans rfl; have hcz19_3 : wc.cell? ⟨gb180, 3, none⟩ = some (.bool a3_3) := (blk_cell BK180.out 3).trans rfl; have hcz19_4 : wc.cell? ⟨gb180, 4, none⟩ = some (.int .i64 a3_4) := (blk_cell BK180.out 4).trans rfl; have hcz19_5 : wc.cell? ⟨gb180, 5, none⟩ = some (.int .i64 a3_5) := (blk_cell BK180.out 5).trans rfl; have hcz19_6 : wc.cell? ⟨gb180, 6, none⟩ = some (.int .i64 a3_6) := (blk_cell BK180.out 6).trans rfl; have hcz19_7 : wc.cell? ⟨gb180, 7, none⟩ = some (.int .i64 a3_7) := (blk_cell BK180.out 7).trans rfl; have hcz19_8 : wc.cell? ⟨gb180, 8, none⟩ = some (.int .i64 a3_8) := (blk_cell BK180.out 8).trans rfl; have hcz19_9 : wc.cell? ⟨gb180, 9, none⟩ = some (.slice A3_9 l3_9.length c3_9) := (blk_cell BK180.out 9).trans rfl; have hcz19_10 : wc.cell? ⟨gb180, 10, none⟩ = some (.int .i64 a3_10) := (blk_cell BK180.out 10).trans rfl; have hfz19_0 := blk_frozen BK180.out 0; have hfz19_1 := blk_frozen BK180.out 1; have hfz19_2 := blk_frozen BK180.out 2; have hfz19_3 := blk_frozen BK180.out 3; have hfz19_4 := blk_frozen BK180.out 4; have hfz19_5 := blk_frozen BK180.out 5; have hfz19_6 := blk_frozen BK180.out 6; have hfz19_7 := blk_frozen BK180.out 7; have hfz19_8 := blk_frozen BK180.out 8; have hfz19_9 := blk_frozen BK180.out 9; have hfz19_10 := blk_frozen BK180.out 10))
                    go_meet
                    case rel => exact ⟨_, (true), (by first | rfl | (simp; done) | (simp [*]; done)), H', ⟨by have := HJ4.out; first | omega | exact Nat.le_refl _⟩, ⟨by (with_reducible repeat (first | refine blk_drewN ?_ _ | refine blk_drew ?_ | refine blk_alloc ?_ _)); exact BK180.out⟩, ⟨by (with_reducible repeat (first | refine blk_drewN ?_ _ | refine blk_drew ?_ | refine blk_alloc ?_ _)); exact BK181.out⟩, ⟨by repeat (first | (with_reducible first | exact HB.out | apply below_alloc | apply pw_below_drewN | apply below_drew1 | refine below_set ?_ GE180.out | refine below_set ?_ GE181.out) | exact HB.out)⟩⟩
                  · rw [if_neg c17] at H
                    have c17b0 : decide (a3_1 < 0) = false := decide_eq_false c17
                    clear c17
                    by_cases c20 : a3_1 > 255
                    · rw [if_pos c20] at H
                      have c20b0 : decide (255 < a3_1) = true := decide_eq_true c20
                      clear c20
                      have H' := Aside0.mk H
                      clear H
                      go_wp2_with (first | (go_at_call 35; (with_reducible refine (frame_low.calls a2 true _ A15.out).mono ?_); rintro e w' ⟨rfl, ⟨nd, rfl⟩⟩; have hnb21 := NB180_181.out; have hnc21 := NB181_180.out; have hcz22_0 : wc.cell? ⟨gb180, 0, none⟩ = some (.slice A3_0 l3_0.length c3_0) := (blk_cell BK180.out 0).trans rfl; have hcz22_1 : wc.cell? ⟨gb180, 1, none⟩ = some (.int .i64 a3_1) := (blk_cell BK180.out 1).trans rfl; have hcz22_2 : wc.cell? ⟨gb180, 2, none⟩ = some (.bool a3_2) := (blk_cell BK180.out 2).trans rfl; have hcz22_3 : wc.cell? ⟨gb180, 3, none⟩ = some (.bool a3_3) := (blk_cell BK180.out 3).trans rfl; have hcz22_4 : wc.cell? ⟨gb180, 4, none⟩ = some (.int .i64 a3_4) := (blk_cell BK180.out 4).trans rfl; have hcz22_5 : wc.cell? ⟨gb180, 5, none⟩ = some (.int .i64 a3_5) := (blk_cell BK180.out 5).trans rfl; have hcz22_6 : wc.cell? ⟨gb180, 6, none⟩ = some (.int .i64 a3_6) := (blk_cell BK180.out 6).trans rfl; have hcz22_7 : wc.cell? ⟨gb180, 7, none⟩ = some (.int .i64 a3_7) := (blk_cell BK180.out 7).trans rfl; have hcz22_8 : wc.cell? ⟨gb180, 8, none⟩ = some (.int .i64 a3_8) := (blk_cell BK180.out 8).trans rfl; have hcz22_9 : wc.cell? ⟨gb180, 9, none⟩ = some (.slice A3_9 l3_9.length c3_9) := (blk_cell BK180.out 9).trans rfl; have hcz22_10 : wc.cell? ⟨gb180, 10, none⟩ = some (.int .i64 a3_10) := (blk_cell BK180.out 10).trans rfl; have hfz22_0 := blk_frozen BK180.out 0; have hfz22_1 := blk_frozen BK180.out 1; have hfz22_2 := blk_frozen BK180.out 2; have hfz22_3 := blk_frozen BK180.out 3; have hfz22_4 := blk_frozen BK180.out 4; have hfz22_5 := blk_frozen BK180.out 5; have hfz22_6 := blk_frozen BK180.out 6; have hfz22_7 := blk_frozen BK180.out 7; have hfz22_8 := blk_frozen BK180.out 8; have hfz22_9 := blk_frozen BK180.out 9; have hfz22_10 := blk_frozen BK180.out 10))
                      go_meet
                      case rel => exact ⟨_, (true), (by first | rfl | (simp; done) | (simp [*]; done)), H', ⟨by have := HJ4.out; first | omega | exact Nat.le_refl _⟩, ⟨by (with_reducible repeat (first | refine blk_drewN ?_ _ | refine blk_drew ?_ | refine blk_alloc ?_ _)); exact BK180.out⟩, ⟨by (with_reducible repeat (first | refine blk_drewN ?_ _ | refine blk_drew ?_ | refine blk_alloc ?_ _)); exact BK181.out⟩, ⟨by repeat (first | (with_reducible first | exact HB.out | apply below_alloc | apply pw_below_drewN | apply below_drew1 | refine below_set ?_ GE180.out | refine below_set ?_ GE181.out) | exact HB.out)⟩⟩
                    · rw [if_neg c20] at H
                      have c20b0 : decide (255 < a3_1) = false := decide_eq_false c20
                      clear c20
                      by_cases c23 : a3_1 > 0
                      · rw [if_pos c23] at H
                        have c23b0 : decide (0 < a3_1) = true := decide_eq_true c23
                        clear c23
                        have H' := Aside0.mk H
                        clear H
                        go_wp2_with (first | (go_at_call 35; (with_reducible refine (frame_low.calls a2 true _ A15.out).mono ?_); rintro e w' ⟨rfl, ⟨nd, rfl⟩⟩; have hnb24 := NB180_181.out; have hnc24 := NB181_180.out; have hcz25_0 : wc.cell? ⟨gb180, 0, none⟩ = some (.slice A3_0 l3_0.length c3_0) := (blk_cell BK180.out 0).trans rfl; have hcz25_1 : wc.cell? ⟨gb180, 1, none⟩ = some (.int .i64 a3_1) := (blk_cell BK180.out 1).trans rfl; have hcz25_2 : wc.cell? ⟨gb180, 2, none⟩ = some (.bool a3_2) := (blk_cell BK180.out 2).trans rfl; have hcz25_3 : wc.cell? ⟨gb180, 3, none⟩ = some (.bool a3_3) := (blk_cell BK180.out 3).trans rfl; have hcz25_4 : wc.cell? ⟨gb180, 4, none⟩ = some (.int .i64 a3_4) := (blk_cell BK180.out 4).trans rfl; have hcz25_5 : wc.cell? ⟨gb180, 5, none⟩ = some (.int .i64 a3_5) := (blk_cell BK180.out 5).trans rfl; have hcz25_6 : wc.cell? ⟨gb180, 6, none⟩ = some (.int .i64 a3_6) := (blk_cell BK180.out 6).trans rfl; have hcz25_7 : wc.cell? ⟨gb180, 7, none⟩ = some (.int .i64 a3_7) := (blk_cell BK180.out 7).trans rfl; have hcz25_8 : wc.cell? ⟨gb180, 8, none⟩ = some (.int .i64 a3_8) := (blk_cell BK180.out 8).trans rfl; have hcz25_9 : wc.cell? ⟨gb180, 9, none⟩ = some (.slice A3_9 l3_9.length c3_9) := (blk_cell BK180.out 9).trans rfl; have hcz25_10 : wc.cell? ⟨gb180, 10, none⟩ = some (.int .i64 a3_10) := (blk_cell BK180.out 10).trans rfl; have hfz25_0 := blk_frozen BK180.out 0; have hfz25_1 := blk_frozen BK180.out 1; have hfz25_2 := blk_frozen BK180.out 2; have hfz25_3 := blk_frozen BK180.out 3; have hfz25_4 := blk_frozen BK180.out 4; have hfz25_5 := blk_frozen BK180.out 5; have hfz25_6 := blk_frozen BK180.out 6; have hfz25_7 := blk_frozen BK180.out 7; have hfz25_8 := blk_frozen BK180.out 8; have hfz25_9 := blk_frozen BK180.out 9; have hfz25_10 := blk_frozen BK180.out 10))
                        go_meet
                        case rel => exact ⟨_, (!x10_4), (by first | rfl | (simp; done) | (simp [*]; done)), H', ⟨by have := HJ4.out; first | omega | exact Nat.le_refl _⟩, ⟨by (with_reducible repeat (first | refine blk_drewN ?_ _ | refine blk_drew ?_ | refine blk_alloc ?_ _)); exact BK180.out⟩, ⟨by (with_reducible repeat (first | refine blk_drewN ?_ _ | refine blk_drew ?_ | refine blk_alloc ?_ _)); exact BK181.out⟩, ⟨by repeat (first | (with_reducible first | exact HB.out | apply below_alloc | apply pw_below_drewN | apply below_drew1 | refine below_set ?_ GE180.out | refine below_set ?_ GE181.out) | exact HB.out)⟩⟩
                      · rw [if_neg c23] at H
                        have c23b0 : decide (0 < a3_1) = false := decide_eq_false c23
                        clear c23
                        have H' := Aside0.mk H
                        clear H
                        go_wp2_with (first | (go_at_call 35; (with_reducible refine (frame_low.calls a2 true _ A15.out).mono ?_); rintro e w' ⟨rfl, ⟨nd, rfl⟩⟩; have hnb26 := NB180_181.out; have hnc26 := NB181_180.out; have hcz27_0 : wc.cell? ⟨gb180, 0, none⟩ = some (.slice A3_0 l3_0.length c3_0) := (blk_cell BK180.out 0).trans rfl; have hcz27_1 : wc.cell? ⟨gb180, 1, none⟩ = some (.int .i64 a3_1) := (blk_cell BK180.out 1).trans rfl; have hcz27_2 : wc.cell? ⟨gb180, 2, none⟩ = some (.bool a3_2) := (blk_cell BK180.out 2).trans rfl; have hcz27_3 : wc.cell? ⟨gb180, 3, none⟩ = some (.bool a3_3) := (blk_cell BK180.out 3).trans rfl; have hcz27_4 : wc.cell? ⟨gb180, 4, none⟩ = some (.int .i64 a3_4) := (blk_cell BK180.out 4).trans rfl; have hcz27_5 : wc.cell? ⟨gb180, 5, none⟩ = some (.int .i64 a3_5) := (blk_cell BK180.out 5).trans rfl; have hcz27_6 : wc.cell? ⟨gb180, 6, none⟩ = some (.int .i64 a3_6) := (blk_cell BK180.out 6).trans rfl; have hcz27_7 : wc.cell? ⟨gb180, 7, none⟩ = some (.int .i64 a3_7) := (blk_cell BK180.out 7).trans rfl; have hcz27_8 : wc.cell? ⟨gb180, 8, none⟩ = some (.int .i64 a3_8) := (blk_cell BK180.out 8).trans rfl; have hcz27_9 : wc.cell? ⟨gb180, 9, none⟩ = some (.slice A3_9 l3_9.length c3_9) := (blk_cell BK180.out 9).trans rfl; have hcz27_10 : wc.cell? ⟨gb180, 10, none⟩ = some (.int .i64 a3_10) := (blk_cell BK180.out 10).trans rfl; have hfz27_0 := blk_frozen BK180.out 0; have hfz27_1 := blk_frozen BK180.out 1; have hfz27_2 := blk_frozen BK180.out 2; have hfz27_3 := blk_frozen BK180.out 3; have hfz27_4 := blk_frozen BK180.out 4; have hfz27_5 := blk_frozen BK180.out 5; have hfz27_6 := blk_frozen BK180.out 6; have hfz27_7 := blk_frozen BK180.out 7; have hfz27_8 := blk_frozen BK180.out 8; have hfz27_9 := blk_frozen BK180.out 9; have hfz27_10 := blk_frozen BK180.out 10))
                        go_meet
                        case rel => exact ⟨_, (false), (by first | rfl | (simp; done) | (simp [*]; done)), H', ⟨by have := HJ4.out; first | omega | exact Nat.le_refl _⟩, ⟨by (with_reducible repeat (first | refine blk_drewN ?_ _ | refine blk_drew ?_ | refine blk_alloc ?_ _)); exact BK180.out⟩, ⟨by (with_reducible repeat (first | refine blk_drewN ?_ _ | refine blk_drew ?_ | refine blk_alloc ?_ _)); exact BK181.out⟩, ⟨by repeat (first | (with_reducible first | exact HB.out | apply below_alloc | apply pw_below_drewN | apply below_drew1 | refine below_set ?_ GE180.out | refine below_set ?_ GE181.out) | exact HB.out)⟩⟩
                · replace c16 := Bool.eq_false_iff.mpr c16
                  subst c16
                  have H1 : (frame_Make.j1 kj4 a0 a1 a2 x10_4 true l3_0 a3_1 a3_2 a3_3 a3_4 a3_5 a3_6 a3_7 a3_8 l3_9 a3_10) = some (r1, r2, r3, r4, r5) := by rw [if_neg (show ¬ (false = true) by decide)] at H; exact H
                  clear H
                  have H := H1
                  clear H1
                  have H' := Aside0.mk H
                  clear H
                  go_wp2_with (first | (go_at_call 35; (with_reducible refine (frame_low.calls a2 false _ A15.out).mono ?_); rintro e w' ⟨rfl, ⟨nd, rfl⟩⟩))
                  go_meet
                  case rel => exact ⟨_, (true), (by first | rfl | (simp; done) | (simp [*]; done)), H', ⟨by have := HJ4.out; first | omega | exact Nat.le_refl _⟩, ⟨by (with_reducible repeat (first | refine blk_drewN ?_ _ | refine blk_drew ?_ | refine blk_alloc ?_ _)); exact BK180.out⟩, ⟨by (with_reducible repeat (first | refine blk_drewN ?_ _ | refine blk_drew ?_ | refine blk_alloc ?_ _)); exact BK181.out⟩, ⟨by repeat (first | (with_reducible first | exact HB.out | apply below_alloc | apply pw_below_drewN | apply below_drew1 | refine below_set ?_ GE180.out | refine below_set ?_ GE181.out) | exact HB.out)⟩⟩
      case rest =>
        clear HC10
        try clear c1
        try clear c2
        try clear p2
        try clear c3
        try clear c9
        try clear c11
        try clear c11b0
        try clear c12
        try clear c12b0
        try clear c13
        try clear c13b0
        try clear c14
        try clear c14b0
        try clear c16
        try clear c17
        try clear c17b0
        try clear c18
        try clear c20
        try clear c20b0
        try clear c21
        try clear c23
        try clear c23b0
        try clear c24
        try clear c26
        try clear hcz19_0
        try clear hcz19_1
        try clear hcz19_10
        try clear hcz19_2
        try clear hcz19_3
        try clear hcz19_4
        try clear hcz19_5
        try clear hcz19_6
        try clear hcz19_7
        try clear hcz19_8
        try clear hcz19_9
        try clear hcz22_0
        try clear hcz22_1
        try clear hcz22_10
        try clear hcz22_2
        try clear hcz22_3
        try clear hcz22_4
        try clear hcz22_5
        try clear hcz22_6
        try clear hcz22_7
        try clear hcz22_8
        try clear hcz22_9
        try clear hcz25_0
        try clear hcz25_1
        try clear hcz25_10
        try clear hcz25_2
        try clear hcz25_3
        try clear hcz25_4
        try clear hcz25_5
        try clear hcz25_6
        try clear hcz25_7
        try clear hcz25_8
        try clear hcz25_9
        try clear hcz27_0
        try clear hcz27_1
        try clear hcz27_10
        try clear hcz27_2
        try clear hcz27_3
        try clear hcz27_4
        try clear hcz27_5
        try clear hcz27_6
        try clear hcz27_7
        try clear hcz27_8
        try clear hcz27_9
        try clear hfz19_0
        try clear hfz19_1
        try clear hfz19_10
        try clear hfz19_2
        try clear hfz19_3
        try clear hfz19_4
        try clear hfz19_5
        try clear hfz19_6
        try clear hfz19_7
        try clear hfz19_8
        try clear hfz19_9
        try clear hfz22_0
        try clear hfz22_1
        try clear hfz22_10
        try clear hfz22_2
        try clear hfz22_3
        try clear hfz22_4
        try clear hfz22_5
        try clear hfz22_6
        try clear hfz22_7
        try clear hfz22_8
        try clear hfz22_9
        try clear hfz25_0
        try clear hfz25_1
        try clear hfz25_10
        try clear hfz25_2
        try clear hfz25_3
        try clear hfz25_4
        try clear hfz25_5
        try clear hfz25_6
        try clear hfz25_7
        try clear hfz25_8
        try clear hfz25_9
        try clear hfz27_0
        try clear hfz27_1
        try clear hfz27_10
        try clear hfz27_2
        try clear hfz27_3
        try clear hfz27_4
        try clear hfz27_5
        try clear hfz27_6
        try clear hfz27_7
        try clear hfz27_8
        try clear hfz27_9
        try clear p2
        obtain ⟨kq, x57_9, rfl, HA, HJ9, BK180, BK181, HB⟩ := hcut
        cases kq with
        | zero => exact absurd HA.out (by simp [frame_Make.j1])
        | succ kj9 =>
          have H := HA.out
          clear HA
          simp only [frame_Make.j1] at H
          by_cases c28 : x57_9 = true
          · subst c28
            have H1 : (some (0, 0, 0, ([] : List Int), 1)) = some (r1, r2, r3, r4, r5) := by rw [if_pos rfl] at H; exact H
            clear H
            have H := H1
            clear H1
            simp only [Option.some.injEq, Prod.mk.injEq] at H
            obtain ⟨rfl, rfl, rfl, rfl, rfl⟩ := H
            have hnb29 := NB181_180.out
            have hnc29 := NB180_181.out
            have hcz30_0 : wc.cell? ⟨gb181, 0, none⟩ = some (.int .i64 0) := (blk_cell BK181.out 0).trans rfl
            have hcz30_1 : wc.cell? ⟨gb181, 1, none⟩ = some (.int .i64 0) := (blk_cell BK181.out 1).trans rfl
            have hcz30_2 : wc.cell? ⟨gb181, 2, none⟩ = some (.int .i64 0) := (blk_cell BK181.out 2).trans rfl
            have hcz30_3 : wc.cell? ⟨gb181, 3, none⟩ = some (.slice none 0 0) := (blk_cell BK181.out 3).trans rfl
            have hfz30_0 := blk_frozen BK181.out 0
            have hfz30_1 := blk_frozen BK181.out 1
            have hfz30_2 := blk_frozen BK181.out 2
            have hfz30_3 := blk_frozen BK181.out 3
            go_wp2
            refine bodyPost_ret (results_ct rfl _ _ gb181 24 #[.int .i64 0, .int .i64 0, .int .i64 0, .slice none 0 0] (0, 0) _ rfl (by (with_reducible repeat (first | refine blk_drewN ?_ _ | refine blk_drew ?_ | refine blk_alloc ?_ _)); refine blk_put (cs := #[.int .i64 0, .int .i64 0, .int .i64 0, .slice none 0 0]) ?_ 3 _ rfl; (with_reducible repeat (first | refine blk_drewN ?_ _ | refine blk_drew ?_ | refine blk_alloc ?_ _)); refine blk_put (cs := #[.int .i64 0, .int .i64 0, .int .i64 0, .slice none 0 0]) ?_ 2 _ rfl; (with_reducible repeat (first | refine blk_drewN ?_ _ | refine blk_drew ?_ | refine blk_alloc ?_ _)); refine blk_put (cs := #[.int .i64 0, .int .i64 0, .int .i64 0, .slice none 0 0]) ?_ 1 _ rfl; (with_reducible repeat (first | refine blk_drewN ?_ _ | refine blk_drew ?_ | refine blk_alloc ?_ _)); refine blk_put (cs := #[.int .i64 0, .int .i64 0, .int .i64 0, .slice none 0 0]) ?_ 0 _ rfl; (with_reducible repeat (first | refine blk_drewN ?_ _ | refine blk_drew ?_ | refine blk_alloc ?_ _)); exact BK181.out) Try.underlying24 rfl (by kernel_rfl)) rfl ?_
            exact ⟨_, by first | rfl | (simp [errW_none, errW_some] <;> rfl) | (simp [*, errW_none, errW_some] <;> rfl), by first | exact Kd.R_nil _ _ _ _ _ | exact Kd.N_nil _ _ _ _ _ | exact Kd.V_nil _ _ _ _ _ | exact Kd.Q_nil _ _ _ _ _ | exact Kd.S_nil _ _ _ _ _, by repeat (first | (with_reducible first | exact HB.out | apply below_alloc | apply pw_below_drewN | apply below_drew1 | refine below_set ?_ GE180.out | refine below_set ?_ GE181.out) | exact HB.out)⟩
          · replace c28 := Bool.eq_false_iff.mpr c28
            subst c28
            have H1 : (if x10_4 = true then (if ([] : List Int).length < 140737488355328 then (frame_Make.j2 kj9 a0 a1 a2 (([] : List Int) ++ [(a3_1) % 256]) l3_0 a3_1 a3_2 a3_3 a3_4 a3_5 a3_6 a3_7 a3_8 l3_9 a3_10) else (none)) else (frame_Make.j2 kj9 a0 a1 a2 ([] : List Int) l3_0 a3_1 a3_2 a3_3 a3_4 a3_5 a3_6 a3_7 a3_8 l3_9 a3_10)) = some (r1, r2, r3, r4, r5) := by rw [if_neg (show ¬ (false = true) by decide)] at H; exact H
            clear H
            have H := H1
            clear H1
            have HC31 := Aside0.mk H
            clear H
            go_upto_if 59 with (fail)
            go_cut [11] (fun v11 wc => ∃ (kq : Nat) (x11_30 : List Int), Aside0 (frame_Make.j2 kq a0 a1 a2 x11_30 l3_0 a3_1 a3_2 a3_3 a3_4 a3_5 a3_6 a3_7 a3_8 l3_9 a3_10 = some (r1, r2, r3, r4, r5)) ∧ Aside0 (kq ≤ kj9) ∧ Aside0 (Kd.R (Kd.int .u8) 5 wc w.heap.size (fun _ => True) v11 x11_30) ∧ Aside0 (wc.heap[gb180]? = some (.cells #[(.slice A3_0 l3_0.length c3_0), .int .i64 a3_1, .bool a3_2, .bool a3_3, .int .i64 a3_4, .int .i64 a3_5, .int .i64 a3_6, .int .i64 a3_7, .int .i64 a3_8, (.slice A3_9 l3_9.length c3_9), .int .i64 a3_10] 36 (0, 0))) ∧ Aside0 (wc.heap[gb181]? = some (.cells #[.int .i64 0, .int .i64 0, .int .i64 0, (.slice none 0 0)] 24 (0, 0))) ∧ Aside0 (Below w.heap.size w wc))
            case first =>
              have H := HC31.out
              clear HC31
              by_cases c32 : x10_4 = true
              · subst c32
                have H1 : (if ([] : List Int).length < 140737488355328 then (frame_Make.j2 kj9 a0 a1 a2 (([] : List Int) ++ [(a3_1) % 256]) l3_0 a3_1 a3_2 a3_3 a3_4 a3_5 a3_6 a3_7 a3_8 l3_9 a3_10) else (none)) = some (r1, r2, r3, r4, r5) := by rw [if_pos rfl] at H; exact H
                clear H
                have H := H1
                clear H1
                by_cases c33 : ([] : List Int).length < 140737488355328
                · rw [if_pos c33] at H
                  have LMc33 := Aside0.mk c33
                  clear c33
                  obtain ⟨y184, hy184⟩ : ∃ y_ : List Int, y_ = (([] : List Int) ++ [(a3_1) % 256]) := ⟨_, rfl⟩
                  replace H : (frame_Make.j2 kj9 a0 a1 a2 y184 l3_0 a3_1 a3_2 a3_3 a3_4 a3_5 a3_6 a3_7 a3_8 l3_9 a3_10) = some (r1, r2, r3, r4, r5) := by first | (rw [hy184]; with_reducible exact H) | (have H2_ := (Option.bind_some _ _).symm.trans H; rw [hy184]; with_reducible exact H2_) | (have H2_ := (Option.bind_some _ _).symm.trans H; with_reducible exact H2_) | with_reducible exact H | (rw [hy184]; exact H) | exact H
                  have Ny184 := Aside0.mk hy184
                  clear hy184
                  have H' := Aside0.mk H
                  clear H
                  have hnb34 := NB180_181.out
                  have hnc34 := NB181_180.out
                  have hcz35_0 : wc.cell? ⟨gb180, 0, none⟩ = some (.slice A3_0 l3_0.length c3_0) := (blk_cell BK180.out 0).trans rfl
                  have hcz35_1 : wc.cell? ⟨gb180, 1, none⟩ = some (.int .i64 a3_1) := (blk_cell BK180.out 1).trans rfl
                  have hcz35_2 : wc.cell? ⟨gb180, 2, none⟩ = some (.bool a3_2) := (blk_cell BK180.out 2).trans rfl
                  have hcz35_3 : wc.cell? ⟨gb180, 3, none⟩ = some (.bool a3_3) := (blk_cell BK180.out 3).trans rfl
                  have hcz35_4 : wc.cell? ⟨gb180, 4, none⟩ = some (.int .i64 a3_4) := (blk_cell BK180.out 4).trans rfl
                  have hcz35_5 : wc.cell? ⟨gb180, 5, none⟩ = some (.int .i64 a3_5) := (blk_cell BK180.out 5).trans rfl
                  have hcz35_6 : wc.cell? ⟨gb180, 6, none⟩ = some (.int .i64 a3_6) := (blk_cell BK180.out 6).trans rfl
                  have hcz35_7 : wc.cell? ⟨gb180, 7, none⟩ = some (.int .i64 a3_7) := (blk_cell BK180.out 7).trans rfl
                  have hcz35_8 : wc.cell? ⟨gb180, 8, none⟩ = some (.int .i64 a3_8) := (blk_cell BK180.out 8).trans rfl
                  have hcz35_9 : wc.cell? ⟨gb180, 9, none⟩ = some (.slice A3_9 l3_9.length c3_9) := (blk_cell BK180.out 9).trans rfl
                  have hcz35_10 : wc.cell? ⟨gb180, 10, none⟩ = some (.int .i64 a3_10) := (blk_cell BK180.out 10).trans rfl
                  have hfz35_0 := blk_frozen BK180.out 0
                  have hfz35_1 := blk_frozen BK180.out 1
                  have hfz35_2 := blk_frozen BK180.out 2
                  have hfz35_3 := blk_frozen BK180.out 3
                  have hfz35_4 := blk_frozen BK180.out 4
                  have hfz35_5 := blk_frozen BK180.out 5
                  have hfz35_6 := blk_frozen BK180.out 6
                  have hfz35_7 := blk_frozen BK180.out 7
                  have hfz35_8 := blk_frozen BK180.out 8
                  have hfz35_9 := blk_frozen BK180.out 9
                  have hfz35_10 := blk_frozen BK180.out 10
                  go_wp2_with (first | ((with_reducible refine gate_builtin (b := .append) (xs := #[.tmp 60, .tmp 64]) rfl ?_); at_builtin; refine Kd.R_append (Kd.int .u8) (w0 := w) w.heap.size rfl (.tmp 60) (.tmp 64) 22 5 (.int .u8 0) 1 rfl Try.underlying22 info5 rfl (by decide) (by omega) (.slice none 0 0) ([] : List Int) ((a3_1) % 256) [.int .u8 ((a3_1) % 256)] (fun _ => True) (fun _ => False) rfl rfl ?aP (fun _ hk => hk.elim) ?aF ?aO ?aB ?aS ?aL ?_; (case aP => exact rfl); (case aB => exact (by repeat (first | (with_reducible first | exact HB.out | apply below_alloc | apply pw_below_drewN | apply below_drew1 | refine below_set ?_ GE180.out | refine below_set ?_ GE181.out) | exact HB.out))); (case aF => exact (fun _ _ => trivial)); (case aO => exact ((Kd.R_nil _ _ _ _ (fun _ => True)))); (case aS => exact (below_size (by repeat (first | (with_reducible first | exact HB.out | apply below_alloc | apply pw_below_drewN | apply below_drew1 | refine below_set ?_ GE180.out | refine below_set ?_ GE181.out) | exact HB.out)))); (case aL => have := LMc33.out; omega); intro v185 w36 ho hb hg hat; rw [← Ny184.out] at ho; have n0_ := Aside0.mk (blk_grown (g := gb180) (o := .cells #[.slice A3_0 l3_0.length c3_0, .int .i64 a3_1, .bool a3_2, .bool a3_3, .int .i64 a3_4, .int .i64 a3_5, .int .i64 a3_6, .int .i64 a3_7, .int .i64 a3_8, .slice A3_9 l3_9.length c3_9, .int .i64 a3_10] 36 (0, 0)) (by (with_reducible repeat (first | refine blk_drewN ?_ _ | refine blk_drew ?_ | refine blk_alloc ?_ _)); exact BK180.out) hg (by simp [Value.ownBlock])); have n1_ := Aside0.mk (blk_grown (g := gb181) (o := .cells #[.int .i64 0, .int .i64 0, .int .i64 0, .slice none 0 0] 24 (0, 0)) (by (with_reducible repeat (first | refine blk_drewN ?_ _ | refine blk_drew ?_ | refine blk_alloc ?_ _)); exact BK181.out) hg (by simp [Value.ownBlock])); have n2_ := Aside0.mk (hb); have n3_ := Aside0.mk (ho); clear BK180; clear BK181; clear HB; have BK180 := n0_; have BK181 := n1_; have HB := n2_; have HO186 := n3_; clear n0_ n1_ n2_ n3_; clear ho hb hg hat))
                  go_meet
                  case rel => exact ⟨_, (y184), H', ⟨by have := HJ4.out; have := HJ9.out; first | omega | exact Nat.le_refl _⟩, ⟨by (with_reducible repeat (first | apply Kd.R_alloc | apply Kd.R_drewN | apply Kd.R_drew)); exact HO186.out⟩, ⟨by (with_reducible repeat (first | refine blk_drewN ?_ _ | refine blk_drew ?_ | refine blk_alloc ?_ _)); exact BK180.out⟩, ⟨by (with_reducible repeat (first | refine blk_drewN ?_ _ | refine blk_drew ?_ | refine blk_alloc ?_ _)); exact BK181.out⟩, ⟨by repeat (first | (with_reducible first | exact HB.out | apply below_alloc | apply pw_below_drewN | apply below_drew1 | refine below_set ?_ GE180.out | refine below_set ?_ GE181.out) | exact HB.out)⟩⟩
                · rw [if_neg c33] at H
                  exact absurd H (by simp)
              · replace c32 := Bool.eq_false_iff.mpr c32
                subst c32
                have H1 : (frame_Make.j2 kj9 a0 a1 a2 ([] : List Int) l3_0 a3_1 a3_2 a3_3 a3_4 a3_5 a3_6 a3_7 a3_8 l3_9 a3_10) = some (r1, r2, r3, r4, r5) := by rw [if_neg (show ¬ (false = true) by decide)] at H; exact H
                clear H
                have H := H1
                clear H1
                have H' := Aside0.mk H
                clear H
                go_wp2
                go_meet
                case rel => exact ⟨_, (([] : List Int)), H', ⟨by have := HJ4.out; have := HJ9.out; first | omega | exact Nat.le_refl _⟩, ⟨by first | exact Kd.R_nil _ _ _ _ _ | exact Kd.N_nil _ _ _ _ _ | exact Kd.V_nil _ _ _ _ _ | exact Kd.Q_nil _ _ _ _ _ | exact Kd.S_nil _ _ _ _ _⟩, ⟨by (with_reducible repeat (first | refine blk_drewN ?_ _ | refine blk_drew ?_ | refine blk_alloc ?_ _)); exact BK180.out⟩, ⟨by (with_reducible repeat (first | refine blk_drewN ?_ _ | refine blk_drew ?_ | refine blk_alloc ?_ _)); exact BK181.out⟩, ⟨by repeat (first | (with_reducible first | exact HB.out | apply below_alloc | apply pw_below_drewN | apply below_drew1 | refine below_set ?_ GE180.out | refine below_set ?_ GE181.out) | exact HB.out)⟩⟩
            case rest =>
              clear HC31
              try clear c1
              try clear c2
              try clear p2
              try clear c3
              try clear c9
              try clear c11
              try clear c11b0
              try clear c12
              try clear c12b0
              try clear c13
              try clear c13b0
              try clear c14
              try clear c14b0
              try clear c16
              try clear c17
              try clear c17b0
              try clear c18
              try clear c20
              try clear c20b0
              try clear c21
              try clear c23
              try clear c23b0
              try clear c24
              try clear c26
              try clear c28
              try clear c29
              try clear c32
              try clear c33
              try clear c34
              try clear hcz19_0
              try clear hcz19_1
              try clear hcz19_10
              try clear hcz19_2
              try clear hcz19_3
              try clear hcz19_4
              try clear hcz19_5
              try clear hcz19_6
              try clear hcz19_7
              try clear hcz19_8
              try clear hcz19_9
              try clear hcz22_0
              try clear hcz22_1
              try clear hcz22_10
              try clear hcz22_2
              try clear hcz22_3
              try clear hcz22_4
              try clear hcz22_5
              try clear hcz22_6
              try clear hcz22_7
              try clear hcz22_8
              try clear hcz22_9
              try clear hcz25_0
              try clear hcz25_1
              try clear hcz25_10
              try clear hcz25_2
              try clear hcz25_3
              try clear hcz25_4
              try clear hcz25_5
              try clear hcz25_6
              try clear hcz25_7
              try clear hcz25_8
              try clear hcz25_9
              try clear hcz27_0
              try clear hcz27_1
              try clear hcz27_10
              try clear hcz27_2
              try clear hcz27_3
              try clear hcz27_4
              try clear hcz27_5
              try clear hcz27_6
              try clear hcz27_7
              try clear hcz27_8
              try clear hcz27_9
              try clear hcz30_0
              try clear hcz30_1
              try clear hcz30_2
              try clear hcz30_3
              try clear hcz35_0
              try clear hcz35_1
              try clear hcz35_10
              try clear hcz35_2
              try clear hcz35_3
              try clear hcz35_4
              try clear hcz35_5
              try clear hcz35_6
              try clear hcz35_7
              try clear hcz35_8
              try clear hcz35_9
              try clear hfz19_0
              try clear hfz19_1
              try clear hfz19_10
              try clear hfz19_2
              try clear hfz19_3
              try clear hfz19_4
              try clear hfz19_5
              try clear hfz19_6
              try clear hfz19_7
              try clear hfz19_8
              try clear hfz19_9
              try clear hfz22_0
              try clear hfz22_1
              try clear hfz22_10
              try clear hfz22_2
              try clear hfz22_3
              try clear hfz22_4
              try clear hfz22_5
              try clear hfz22_6
              try clear hfz22_7
              try clear hfz22_8
              try clear hfz22_9
              try clear hfz25_0
              try clear hfz25_1
              try clear hfz25_10
              try clear hfz25_2
              try clear hfz25_3
              try clear hfz25_4
              try clear hfz25_5
              try clear hfz25_6
              try clear hfz25_7
              try clear hfz25_8
              try clear hfz25_9
              try clear hfz27_0
              try clear hfz27_1
              try clear hfz27_10
              try clear hfz27_2
              try clear hfz27_3
              try clear hfz27_4
              try clear hfz27_5
              try clear hfz27_6
              try clear hfz27_7
              try clear hfz27_8
              try clear hfz27_9
              try clear hfz30_0
              try clear hfz30_1
              try clear hfz30_2
              try clear hfz30_3
              try clear hfz35_0
              try clear hfz35_1
              try clear hfz35_10
              try clear hfz35_2
              try clear hfz35_3
              try clear hfz35_4
              try clear hfz35_5
              try clear hfz35_6
              try clear hfz35_7
              try clear hfz35_8
              try clear hfz35_9
              try clear p2
              obtain ⟨kq, x11_30, HA, HJ30, HO_11, BK180, BK181, HB⟩ := hcut
              cases kq with
              | zero => exact absurd HA.out (by simp [frame_Make.j2])
              | succ kj30 =>
                have H := HA.out
                clear HA
                simp only [frame_Make.j2] at H
                replace H := Option.bind_eq_some_iff.mp H
                obtain ⟨⟨t187, t190⟩, A370, H⟩ := H
                replace H : (if t190 = true then (if 0 ≤ a3_1 then (if t187.length + (a3_1 : Int).toNat < 140737488355328 then ((some (t187 ++ List.replicate (a3_1 : Int).toNat 0 : List Int)).bind fun y191 => (if (y191.length : Int) > 16777215 then (some (0, 0, 0, ([] : List Int), 2)) else (some (a0, a1, a2, y191, 0)))) else (none)) else (none)) else (some (0, 0, 0, ([] : List Int), 1))) = some (r1, r2, r3, r4, r5) := H
                have A37 := Aside0.mk A370
                clear A370
                by_cases c38 : t190 = true
                · subst c38
                  have H1 : (if 0 ≤ a3_1 then (if t187.length + (a3_1 : Int).toNat < 140737488355328 then ((some (t187 ++ List.replicate (a3_1 : Int).toNat 0 : List Int)).bind fun y191 => (if (y191.length : Int) > 16777215 then (some (0, 0, 0, ([] : List Int), 2)) else (some (a0, a1, a2, y191, 0)))) else (none)) else (none)) = some (r1, r2, r3, r4, r5) := by rw [if_pos rfl] at H; exact H
                  clear H
                  have H := H1
                  clear H1
                  by_cases c39 : 0 ≤ a3_1
                  · rw [if_pos c39] at H
                    have c39b0 := eq_true c39
                    have c39b1 : decide (0 ≤ a3_1) = true := decide_eq_true c39
                    clear c39
                    by_cases c40 : t187.length + (a3_1 : Int).toNat < 140737488355328
                    · rw [if_pos c40] at H
                      have LMc40 := Aside0.mk c40
                      clear c40
                      obtain ⟨y191, hy191⟩ : ∃ y_ : List Int, y_ = (t187 ++ List.replicate (a3_1 : Int).toNat 0) := ⟨_, rfl⟩
                      replace H : (if (y191.length : Int) > 16777215 then (some (0, 0, 0, ([] : List Int), 2)) else (some (a0, a1, a2, y191, 0))) = some (r1, r2, r3, r4, r5) := by first | (rw [hy191]; with_reducible exact H) | (have H2_ := (Option.bind_some _ _).symm.trans H; rw [hy191]; with_reducible exact H2_) | (have H2_ := (Option.bind_some _ _).symm.trans H; with_reducible exact H2_) | with_reducible exact H | (rw [hy191]; exact H) | exact H
                      have Ny191 := Aside0.mk hy191
                      clear hy191
                      by_cases c41 : (y191.length : Int) > 16777215
                      · rw [if_pos c41] at H
                        have c41b0 : decide (16777215 < (y191.length : Int)) = true := decide_eq_true c41
                        have c41b1 : decide (16777215 < y191.length) = true := decide_eq_true (by omega)
                        clear c41
                        simp only [Option.some.injEq, Prod.mk.injEq] at H
                        obtain ⟨rfl, rfl, rfl, rfl, rfl⟩ := H
                        have hnb42 := NB180_181.out
                        have hnc42 := NB181_180.out
                        have hcz43_0 : wc.cell? ⟨gb180, 0, none⟩ = some (.slice A3_0 l3_0.length c3_0) := (blk_cell BK180.out 0).trans rfl
                        have hcz43_1 : wc.cell? ⟨gb180, 1, none⟩ = some (.int .i64 a3_1) := (blk_cell BK180.out 1).trans rfl
                        have hcz43_2 : wc.cell? ⟨gb180, 2, none⟩ = some (.bool a3_2) := (blk_cell BK180.out 2).trans rfl
                        have hcz43_3 : wc.cell? ⟨gb180, 3, none⟩ = some (.bool a3_3) := (blk_cell BK180.out 3).trans rfl
                        have hcz43_4 : wc.cell? ⟨gb180, 4, none⟩ = some (.int .i64 a3_4) := (blk_cell BK180.out 4).trans rfl
                        have hcz43_5 : wc.cell? ⟨gb180, 5, none⟩ = some (.int .i64 a3_5) := (blk_cell BK180.out 5).trans rfl
                        have hcz43_6 : wc.cell? ⟨gb180, 6, none⟩ = some (.int .i64 a3_6) := (blk_cell BK180.out 6).trans rfl
                        have hcz43_7 : wc.cell? ⟨gb180, 7, none⟩ = some (.int .i64 a3_7) := (blk_cell BK180.out 7).trans rfl
                        have hcz43_8 : wc.cell? ⟨gb180, 8, none⟩ = some (.int .i64 a3_8) := (blk_cell BK180.out 8).trans rfl
                        have hcz43_9 : wc.cell? ⟨gb180, 9, none⟩ = some (.slice A3_9 l3_9.length c3_9) := (blk_cell BK180.out 9).trans rfl
                        have hcz43_10 : wc.cell? ⟨gb180, 10, none⟩ = some (.int .i64 a3_10) := (blk_cell BK180.out 10).trans rfl
                        have hfz43_0 := blk_frozen BK180.out 0
                        have hfz43_1 := blk_frozen BK180.out 1
                        have hfz43_2 := blk_frozen BK180.out 2
                        have hfz43_3 := blk_frozen BK180.out 3
                        have hfz43_4 := blk_frozen BK180.out 4
                        have hfz43_5 := blk_frozen BK180.out 5
                        have hfz43_6 := blk_frozen BK180.out 6
                        have hfz43_7 := blk_frozen BK180.out 7
                        have hfz43_8 := blk_frozen BK180.out 8
                        have hfz43_9 := blk_frozen BK180.out 9
                        have hfz43_10 := blk_frozen BK180.out 10
                        obtain ⟨Ao44, co44, eo44⟩ := Kd.R_slice HO_11.out
                        subst eo44
                        go_wp2_with (first | ((with_reducible refine gate_callee (f := 36) rfl ?_); refine goesL_ (some 71) rfl rfl Try.func36 (by kernel_rfl) rfl #[.slice Ao44 x11_30.length co44, .int .i64 a0, .int .i64 a1, .agg #[.slice A3_0 l3_0.length c3_0, .int .i64 a3_1, .bool a3_2, .bool a3_3, .int .i64 a3_4, .int .i64 a3_5, .int .i64 a3_6, .int .i64 a3_7, .int .i64 a3_8, .slice A3_9 l3_9.length c3_9, .int .i64 a3_10]] rfl (by (try simp only [List.map_toArray, List.map_cons, List.map_nil]); first | done | rfl | (simp only [List.length_drop, List.length_take]; rfl)) ?_; (with_reducible refine (frame_payload.calls kj30 (fun k_ => some k_ = (.slice Ao44 x11_30.length co44 : Value).ownBlock) (.slice Ao44 x11_30.length co44) x11_30 a0 a1 _ _ l3_0 a3_1 a3_2 a3_3 a3_4 a3_5 a3_6 a3_7 a3_8 _ _ l3_9 a3_10 t187 true w _ ?side1 ?side2 ?side3 ?side4 ?side5 ?side6 A37.out).mono ?_); (case side1 => repeat (first | (with_reducible first | exact HB.out | apply below_alloc | apply pw_below_drewN | apply below_drew1 | refine below_set ?_ GE180.out | refine below_set ?_ GE181.out) | exact HB.out)); (case side2 => exact Kd.R_tight rfl HO_11.out); (case side3 => exact Kd.C_kept_came (Kd.heap_int .u8) HR3_0.out (by repeat (first | (with_reducible first | exact HB.out | apply below_alloc | apply pw_below_drewN | apply below_drew1 | refine below_set ?_ GE180.out | refine below_set ?_ GE181.out) | exact HB.out)) (fun k_ hs_ => (fun e_ => Kd.R_base HO_11.out k_ e_.symm) hs_)); (case side4 => exact HC3_0.out); (case side5 => exact Kd.C_kept_came k44_heap HR3_9.out (by repeat (first | (with_reducible first | exact HB.out | apply below_alloc | apply pw_below_drewN | apply below_drew1 | refine below_set ?_ GE180.out | refine below_set ?_ GE181.out) | exact HB.out)) (fun k_ hs_ => (fun e_ => Kd.R_base HO_11.out k_ e_.symm) hs_)); (case side6 => exact HC3_9.out); rintro e w45 ⟨v188, rfl, ho0, hb, hkp⟩; refine ⟨_, rfl, ?_⟩; have n0_ := Aside0.mk (blk_kept (by (with_reducible repeat (first | refine blk_drewN ?_ _ | refine blk_drew ?_ | refine blk_alloc ?_ _)); exact BK180.out) hkp (fun hs_ => (fun e_ => (Kd.R_ne HO_11.out BK180.out (by decide)) e_) hs_)); have n1_ := Aside0.mk (blk_kept (by (with_reducible repeat (first | refine blk_drewN ?_ _ | refine blk_drew ?_ | refine blk_alloc ?_ _)); exact BK181.out) hkp (fun hs_ => (fun e_ => (Kd.R_ne HO_11.out BK181.out (by decide)) e_) hs_)); have n2_ := Aside0.mk (Kd.R_mono (ok' := fun k_ => True) ho0 (fun k_ hk_ => trivial)); have n3_ := Aside0.mk (hb); clear BK180; clear BK181; clear HB; clear HO_11; have BK180 := n0_; have BK181 := n1_; have HO189 := n2_; have HB := n3_; clear n0_ n1_ n2_ n3_; (try clear hb); (try clear hkp); (try clear ho0); have hcz46_0 : w45.cell? ⟨gb180, 0, none⟩ = some (.slice A3_0 l3_0.length c3_0) := (blk_cell BK180.out 0).trans rfl; have hcz46_1 : w45.cell? ⟨gb180, 1, none⟩ = some (.int .i64 a3_1) := (blk_cell BK180.out 1).trans rfl; have hcz46_2 : w45.cell? ⟨gb180, 2, none⟩ = some (.bool a3_2) := (blk_cell BK180.out 2).trans rfl; have hcz46_3 : w45.cell? ⟨gb180, 3, none⟩ = some (.bool a3_3) := (blk_cell BK180.out 3).trans rfl; have hcz46_4 : w45.cell? ⟨gb180, 4, none⟩ = some (.int .i64 a3_4) := (blk_cell BK180.out 4).trans rfl; have hcz46_5 : w45.cell? ⟨gb180, 5, none⟩ = some (.int .i64 a3_5) := (blk_cell BK180.out 5).trans rfl; have hcz46_6 : w45.cell? ⟨gb180, 6, none⟩ = some (.int .i64 a3_6) := (blk_cell BK180.out 6).trans rfl; have hcz46_7 : w45.cell? ⟨gb180, 7, none⟩ = some (.int .i64 a3_7) := (blk_cell BK180.out 7).trans rfl; have hcz46_8 : w45.cell? ⟨gb180, 8, none⟩ = some (.int .i64 a3_8) := (blk_cell BK180.out 8).trans rfl; have hcz46_9 : w45.cell? ⟨gb180, 9, none⟩ = some (.slice A3_9 l3_9.length c3_9) := (blk_cell BK180.out 9).trans rfl; have hcz46_10 : w45.cell? ⟨gb180, 10, none⟩ = some (.int .i64 a3_10) := (blk_cell BK180.out 10).trans rfl; have hfz46_0 := blk_frozen BK180.out 0; have hfz46_1 := blk_frozen BK180.out 1; have hfz46_2 := blk_frozen BK180.out 2; have hfz46_3 := blk_frozen BK180.out 3; have hfz46_4 := blk_frozen BK180.out 4; have hfz46_5 := blk_frozen BK180.out 5; have hfz46_6 := blk_frozen BK180.out 6; have hfz46_7 := blk_frozen BK180.out 7; have hfz46_8 := blk_frozen BK180.out 8; have hfz46_9 := blk_frozen BK180.out 9; have hfz46_10 := blk_frozen BK180.out 10) | (at_builtin; refine Kd.R_append_zeros (Kd.int .u8) (w0 := w) w.heap.size rfl (.tmp 77) (.tmp 79) 22 3 5 (.int .u8 0) 1 rfl Try.underlying22 Try.underlying3 info5 rfl (by decide) (by omega) v188 t187 0 (a3_1 : Int) (fun _ => True) rfl rfl rfl ?aF ?aO (of_decide_eq_true (by first | (with_reducible assumption) | assumption)) ?aB ?aS ?aL ?_; (case aB => exact (by repeat (first | (with_reducible first | exact HB.out | apply below_alloc | apply pw_below_drewN | apply below_drew1 | refine below_set ?_ GE180.out | refine below_set ?_ GE181.out) | exact HB.out))); (case aF => exact (fun _ _ => trivial)); (case aO => exact (by (with_reducible repeat (first | apply Kd.R_alloc | apply Kd.R_drewN | apply Kd.R_drew)); exact HO189.out)); (case aS => exact (below_size (by repeat (first | (with_reducible first | exact HB.out | apply below_alloc | apply pw_below_drewN | apply below_drew1 | refine below_set ?_ GE180.out | refine below_set ?_ GE181.out) | exact HB.out)))); (case aL => have := LMc40.out; omega); intro v192 w47 ho hb hg hat; rw [← Ny191.out] at ho; have n0_ := Aside0.mk (blk_grown (g := gb180) (o := .cells #[.slice A3_0 l3_0.length c3_0, .int .i64 a3_1, .bool a3_2, .bool a3_3, .int .i64 a3_4, .int .i64 a3_5, .int .i64 a3_6, .int .i64 a3_7, .int .i64 a3_8, .slice A3_9 l3_9.length c3_9, .int .i64 a3_10] 36 (0, 0)) (by (with_reducible repeat (first | refine blk_drewN ?_ _ | refine blk_drew ?_ | refine blk_alloc ?_ _)); exact BK180.out) hg (Kd.R_ne HO189.out BK180.out (by decide))); have n1_ := Aside0.mk (blk_grown (g := gb181) (o := .cells #[.int .i64 0, .int .i64 0, .int .i64 0, .slice none 0 0] 24 (0, 0)) (by (with_reducible repeat (first | refine blk_drewN ?_ _ | refine blk_drew ?_ | refine blk_alloc ?_ _)); exact BK181.out) hg (Kd.R_ne HO189.out BK181.out (by decide))); have n2_ := Aside0.mk (hb); have n3_ := Aside0.mk (ho); clear BK180; clear BK181; clear HB; clear HO189; have BK180 := n0_; have BK181 := n1_; have HB := n2_; have HO193 := n3_; clear n0_ n1_ n2_ n3_; clear ho hb hg hat; obtain ⟨Ao48, co48, eo48⟩ := Kd.R_slice HO193.out; subst eo48; have hcz49_0 : w47.cell? ⟨gb181, 0, none⟩ = some (.int .i64 0) := (blk_cell BK181.out 0).trans rfl; have hcz49_1 : w47.cell? ⟨gb181, 1, none⟩ = some (.int .i64 0) := (blk_cell BK181.out 1).trans rfl; have hcz49_2 : w47.cell? ⟨gb181, 2, none⟩ = some (.int .i64 0) := (blk_cell BK181.out 2).trans rfl; have hcz49_3 : w47.cell? ⟨gb181, 3, none⟩ = some (.slice none 0 0) := (blk_cell BK181.out 3).trans rfl; have hfz49_0 := blk_frozen BK181.out 0; have hfz49_1 := blk_frozen BK181.out 1; have hfz49_2 := blk_frozen BK181.out 2; have hfz49_3 := blk_frozen BK181.out 3))
                        refine bodyPost_ret (results_ct rfl _ _ gb181 24 #[.int .i64 0, .int .i64 0, .int .i64 0, .slice none 0 0] (0, 0) _ rfl (by (with_reducible repeat (first | refine blk_drewN ?_ _ | refine blk_drew ?_ | refine blk_alloc ?_ _)); refine blk_put (cs := #[.int .i64 0, .int .i64 0, .int .i64 0, .slice none 0 0]) ?_ 3 _ rfl; (with_reducible repeat (first | refine blk_drewN ?_ _ | refine blk_drew ?_ | refine blk_alloc ?_ _)); refine blk_put (cs := #[.int .i64 0, .int .i64 0, .int .i64 0, .slice none 0 0]) ?_ 2 _ rfl; (with_reducible repeat (first | refine blk_drewN ?_ _ | refine blk_drew ?_ | refine blk_alloc ?_ _)); refine blk_put (cs := #[.int .i64 0, .int .i64 0, .int .i64 0, .slice none 0 0]) ?_ 1 _ rfl; (with_reducible repeat (first | refine blk_drewN ?_ _ | refine blk_drew ?_ | refine blk_alloc ?_ _)); refine blk_put (cs := #[.int .i64 0, .int .i64 0, .int .i64 0, .slice none 0 0]) ?_ 0 _ rfl; (with_reducible repeat (first | refine blk_drewN ?_ _ | refine blk_drew ?_ | refine blk_alloc ?_ _)); exact BK181.out) Try.underlying24 rfl (by kernel_rfl)) rfl ?_
                        exact ⟨_, by first | rfl | (simp [errW_none, errW_some] <;> rfl) | (simp [*, errW_none, errW_some] <;> rfl), by first | exact Kd.R_nil _ _ _ _ _ | exact Kd.N_nil _ _ _ _ _ | exact Kd.V_nil _ _ _ _ _ | exact Kd.Q_nil _ _ _ _ _ | exact Kd.S_nil _ _ _ _ _, by repeat (first | (with_reducible first | exact HB.out | apply below_alloc | apply pw_below_drewN | apply below_drew1 | refine below_set ?_ GE180.out | refine below_set ?_ GE181.out) | exact HB.out)⟩
                      · rw [if_neg c41] at H
                        have c41b0 : decide (16777215 < (y191.length : Int)) = false := decide_eq_false c41
                        have c41b1 : decide (16777215 < y191.length) = false := decide_eq_false (by omega)
                        clear c41
                        simp only [Option.some.injEq, Prod.mk.injEq] at H
                        obtain ⟨rfl, rfl, rfl, rfl, rfl⟩ := H
                        have hnb50 := NB180_181.out
                        have hnc50 := NB181_180.out
                        have hcz51_0 : wc.cell? ⟨gb180, 0, none⟩ = some (.slice A3_0 l3_0.length c3_0) := (blk_cell BK180.out 0).trans rfl
                        have hcz51_1 : wc.cell? ⟨gb180, 1, none⟩ = some (.int .i64 a3_1) := (blk_cell BK180.out 1).trans rfl
                        have hcz51_2 : wc.cell? ⟨gb180, 2, none⟩ = some (.bool a3_2) := (blk_cell BK180.out 2).trans rfl
                        have hcz51_3 : wc.cell? ⟨gb180, 3, none⟩ = some (.bool a3_3) := (blk_cell BK180.out 3).trans rfl
                        have hcz51_4 : wc.cell? ⟨gb180, 4, none⟩ = some (.int .i64 a3_4) := (blk_cell BK180.out 4).trans rfl
                        have hcz51_5 : wc.cell? ⟨gb180, 5, none⟩ = some (.int .i64 a3_5) := (blk_cell BK180.out 5).trans rfl
                        have hcz51_6 : wc.cell? ⟨gb180, 6, none⟩ = some (.int .i64 a3_6) := (blk_cell BK180.out 6).trans rfl
                        have hcz51_7 : wc.cell? ⟨gb180, 7, none⟩ = some (.int .i64 a3_7) := (blk_cell BK180.out 7).trans rfl
                        have hcz51_8 : wc.cell? ⟨gb180, 8, none⟩ = some (.int .i64 a3_8) := (blk_cell BK180.out 8).trans rfl
                        have hcz51_9 : wc.cell? ⟨gb180, 9, none⟩ = some (.slice A3_9 l3_9.length c3_9) := (blk_cell BK180.out 9).trans rfl
                        have hcz51_10 : wc.cell? ⟨gb180, 10, none⟩ = some (.int .i64 a3_10) := (blk_cell BK180.out 10).trans rfl
                        have hfz51_0 := blk_frozen BK180.out 0
                        have hfz51_1 := blk_frozen BK180.out 1
                        have hfz51_2 := blk_frozen BK180.out 2
                        have hfz51_3 := blk_frozen BK180.out 3
                        have hfz51_4 := blk_frozen BK180.out 4
                        have hfz51_5 := blk_frozen BK180.out 5
                        have hfz51_6 := blk_frozen BK180.out 6
                        have hfz51_7 := blk_frozen BK180.out 7
                        have hfz51_8 := blk_frozen BK180.out 8
                        have hfz51_9 := blk_frozen BK180.out 9
                        have hfz51_10 := blk_frozen BK180.out 10
                        obtain ⟨Ao52, co52, eo52⟩ := Kd.R_slice HO_11.out
                        subst eo52
                        go_wp2_with (first | ((with_reducible refine gate_callee (f := 36) rfl ?_); refine goesL_ (some 71) rfl rfl Try.func36 (by kernel_rfl) rfl #[.slice Ao52 x11_30.length co52, .int .i64 a0, .int .i64 a1, .agg #[.slice A3_0 l3_0.length c3_0, .int .i64 a3_1, .bool a3_2, .bool a3_3, .int .i64 a3_4, .int .i64 a3_5, .int .i64 a3_6, .int .i64 a3_7, .int .i64 a3_8, .slice A3_9 l3_9.length c3_9, .int .i64 a3_10]] rfl (by (try simp only [List.map_toArray, List.map_cons, List.map_nil]); first | done | rfl | (simp only [List.length_drop, List.length_take]; rfl)) ?_; (with_reducible refine (frame_payload.calls kj30 (fun k_ => some k_ = (.slice Ao52 x11_30.length co52 : Value).ownBlock) (.slice Ao52 x11_30.length co52) x11_30 a0 a1 _ _ l3_0 a3_1 a3_2 a3_3 a3_4 a3_5 a3_6 a3_7 a3_8 _ _ l3_9 a3_10 t187 true w _ ?side1 ?side2 ?side3 ?side4 ?side5 ?side6 A37.out).mono ?_); (case side1 => repeat (first | (with_reducible first | exact HB.out | apply below_alloc | apply pw_below_drewN | apply below_drew1 | refine below_set ?_ GE180.out | refine below_set ?_ GE181.out) | exact HB.out)); (case side2 => exact Kd.R_tight rfl HO_11.out); (case side3 => exact Kd.C_kept_came (Kd.heap_int .u8) HR3_0.out (by repeat (first | (with_reducible first | exact HB.out | apply below_alloc | apply pw_below_drewN | apply below_drew1 | refine below_set ?_ GE180.out | refine below_set ?_ GE181.out) | exact HB.out)) (fun k_ hs_ => (fun e_ => Kd.R_base HO_11.out k_ e_.symm) hs_)); (case side4 => exact HC3_0.out); (case side5 => exact Kd.C_kept_came k44_heap HR3_9.out (by repeat (first | (with_reducible first | exact HB.out | apply below_alloc | apply pw_below_drewN | apply below_drew1 | refine below_set ?_ GE180.out | refine below_set ?_ GE181.out) | exact HB.out)) (fun k_ hs_ => (fun e_ => Kd.R_base HO_11.out k_ e_.symm) hs_)); (case side6 => exact HC3_9.out); rintro e w53 ⟨v188, rfl, ho0, hb, hkp⟩; refine ⟨_, rfl, ?_⟩; have n0_ := Aside0.mk (blk_kept (by (with_reducible repeat (first | refine blk_drewN ?_ _ | refine blk_drew ?_ | refine blk_alloc ?_ _)); exact BK180.out) hkp (fun hs_ => (fun e_ => (Kd.R_ne HO_11.out BK180.out (by decide)) e_) hs_)); have n1_ := Aside0.mk (blk_kept (by (with_reducible repeat (first | refine blk_drewN ?_ _ | refine blk_drew ?_ | refine blk_alloc ?_ _)); exact BK181.out) hkp (fun hs_ => (fun e_ => (Kd.R_ne HO_11.out BK181.out (by decide)) e_) hs_)); have n2_ := Aside0.mk (Kd.R_mono (ok' := fun k_ => True) ho0 (fun k_ hk_ => trivial)); have n3_ := Aside0.mk (hb); clear BK180; clear BK181; clear HB; clear HO_11; have BK180 := n0_; have BK181 := n1_; have HO189 := n2_; have HB := n3_; clear n0_ n1_ n2_ n3_; (try clear hb); (try clear hkp); (try clear ho0); have hcz54_0 : w53.cell? ⟨gb180, 0, none⟩ = some (.slice A3_0 l3_0.length c3_0) := (blk_cell BK180.out 0).trans rfl; have hcz54_1 : w53.cell? ⟨gb180, 1, none⟩ = some (.int .i64 a3_1) := (blk_cell BK180.out 1).trans rfl; have hcz54_2 : w53.cell? ⟨gb180, 2, none⟩ = some (.bool a3_2) := (blk_cell BK180.out 2).trans rfl; have hcz54_3 : w53.cell? ⟨gb180, 3, none⟩ = some (.bool a3_3) := (blk_cell BK180.out 3).trans rfl; have hcz54_4 : w53.cell? ⟨gb180, 4, none⟩ = some (.int .i64 a3_4) := (blk_cell BK180.out 4).trans rfl; have hcz54_5 : w53.cell? ⟨gb180, 5, none⟩ = some (.int .i64 a3_5) := (blk_cell BK180.out 5).trans rfl; have hcz54_6 : w53.cell? ⟨gb180, 6, none⟩ = some (.int .i64 a3_6) := (blk_cell BK180.out 6).trans rfl; have hcz54_7 : w53.cell? ⟨gb180, 7, none⟩ = some (.int .i64 a3_7) := (blk_cell BK180.out 7).trans rfl; have hcz54_8 : w53.cell? ⟨gb180, 8, none⟩ = some (.int .i64 a3_8) := (blk_cell BK180.out 8).trans rfl; have hcz54_9 : w53.cell? ⟨gb180, 9, none⟩ = some (.slice A3_9 l3_9.length c3_9) := (blk_cell BK180.out 9).trans rfl; have hcz54_10 : w53.cell? ⟨gb180, 10, none⟩ = some (.int .i64 a3_10) := (blk_cell BK180.out 10).trans rfl; have hfz54_0 := blk_frozen BK180.out 0; have hfz54_1 := blk_frozen BK180.out 1; have hfz54_2 := blk_frozen BK180.out 2; have hfz54_3 := blk_frozen BK180.out 3; have hfz54_4 := blk_frozen BK180.out 4; have hfz54_5 := blk_frozen BK180.out 5; have hfz54_6 := blk_frozen BK180.out 6; have hfz54_7 := blk_frozen BK180.out 7; have hfz54_8 := blk_frozen BK180.out 8; have hfz54_9 := blk_frozen BK180.out 9; have hfz54_10 := blk_frozen BK180.out 10) | (at_builtin; refine Kd.R_append_zeros (Kd.int .u8) (w0 := w) w.heap.size rfl (.tmp 77) (.tmp 79) 22 3 5 (.int .u8 0) 1 rfl Try.underlying22 Try.underlying3 info5 rfl (by decide) (by omega) v188 t187 0 (a3_1 : Int) (fun _ => True) rfl rfl rfl ?aF ?aO (of_decide_eq_true (by first | (with_reducible assumption) | assumption)) ?aB ?aS ?aL ?_; (case aB => exact (by repeat (first | (with_reducible first | exact HB.out | apply below_alloc | apply pw_below_drewN | apply below_drew1 | refine below_set ?_ GE180.out | refine below_set ?_ GE181.out) | exact HB.out))); (case aF => exact (fun _ _ => trivial)); (case aO => exact (by (with_reducible repeat (first | apply Kd.R_alloc | apply Kd.R_drewN | apply Kd.R_drew)); exact HO189.out)); (case aS => exact (below_size (by repeat (first | (with_reducible first | exact HB.out | apply below_alloc | apply pw_below_drewN | apply below_drew1 | refine below_set ?_ GE180.out | refine below_set ?_ GE181.out) | exact HB.out)))); (case aL => have := LMc40.out; omega); intro v192 w55 ho hb hg hat; rw [← Ny191.out] at ho; have n0_ := Aside0.mk (blk_grown (g := gb180) (o := .cells #[.slice A3_0 l3_0.length c3_0, .int .i64 a3_1, .bool a3_2, .bool a3_3, .int .i64 a3_4, .int .i64 a3_5, .int .i64 a3_6, .int .i64 a3_7, .int .i64 a3_8, .slice A3_9 l3_9.length c3_9, .int .i64 a3_10] 36 (0, 0)) (by (with_reducible repeat (first | refine blk_drewN ?_ _ | refine blk_drew ?_ | refine blk_alloc ?_ _)); exact BK180.out) hg (Kd.R_ne HO189.out BK180.out (by decide))); have n1_ := Aside0.mk (blk_grown (g := gb181) (o := .cells #[.int .i64 0, .int .i64 0, .int .i64 0, .slice none 0 0] 24 (0, 0)) (by (with_reducible repeat (first | refine blk_drewN ?_ _ | refine blk_drew ?_ | refine blk_alloc ?_ _)); exact BK181.out) hg (Kd.R_ne HO189.out BK181.out (by decide))); have n2_ := Aside0.mk (hb); have n3_ := Aside0.mk (ho); clear BK180; clear BK181; clear HB; clear HO189; have BK180 := n0_; have BK181 := n1_; have HB := n2_; have HO193 := n3_; clear n0_ n1_ n2_ n3_; clear ho hb hg hat; obtain ⟨Ao56, co56, eo56⟩ := Kd.R_slice HO193.out; subst eo56; have hcz57_0 : w55.cell? ⟨gb181, 0, none⟩ = some (.int .i64 0) := (blk_cell BK181.out 0).trans rfl; have hcz57_1 : w55.cell? ⟨gb181, 1, none⟩ = some (.int .i64 0) := (blk_cell BK181.out 1).trans rfl; have hcz57_2 : w55.cell? ⟨gb181, 2, none⟩ = some (.int .i64 0) := (blk_cell BK181.out 2).trans rfl; have hcz57_3 : w55.cell? ⟨gb181, 3, none⟩ = some (.slice none 0 0) := (blk_cell BK181.out 3).trans rfl; have hfz57_0 := blk_frozen BK181.out 0; have hfz57_1 := blk_frozen BK181.out 1; have hfz57_2 := blk_frozen BK181.out 2; have hfz57_3 := blk_frozen BK181.out 3))
                        refine bodyPost_ret (results_ct rfl _ _ gb181 24 #[.int .i64 a0, .int .i64 a1, .int .i64 a2, .slice Ao56 y191.length co56] (0, 0) _ rfl (by (with_reducible repeat (first | refine blk_drewN ?_ _ | refine blk_drew ?_ | refine blk_alloc ?_ _)); refine blk_put (cs := #[.int .i64 a0, .int .i64 a1, .int .i64 a2, .slice none 0 0]) ?_ 3 _ rfl; (with_reducible repeat (first | refine blk_drewN ?_ _ | refine blk_drew ?_ | refine blk_alloc ?_ _)); refine blk_put (cs := #[.int .i64 a0, .int .i64 a1, .int .i64 0, .slice none 0 0]) ?_ 2 _ rfl; (with_reducible repeat (first | refine blk_drewN ?_ _ | refine blk_drew ?_ | refine blk_alloc ?_ _)); refine blk_put (cs := #[.int .i64 a0, .int .i64 0, .int .i64 0, .slice none 0 0]) ?_ 1 _ rfl; (with_reducible repeat (first | refine blk_drewN ?_ _ | refine blk_drew ?_ | refine blk_alloc ?_ _)); refine blk_put (cs := #[.int .i64 0, .int .i64 0, .int .i64 0, .slice none 0 0]) ?_ 0 _ rfl; (with_reducible repeat (first | refine blk_drewN ?_ _ | refine blk_drew ?_ | refine blk_alloc ?_ _)); exact BK181.out) Try.underlying24 rfl (by kernel_rfl)) rfl ?_
                        exact ⟨_, by first | rfl | (simp [errW_none, errW_some] <;> rfl) | (simp [*, errW_none, errW_some] <;> rfl), by (with_reducible repeat (first | apply Kd.R_alloc | apply Kd.R_drewN | apply Kd.R_drew)); exact Kd.R_mono (Kd.R_far (p := ⟨gb181, 3, none⟩) (Kd.R_far (p := ⟨gb181, 2, none⟩) (Kd.R_far (p := ⟨gb181, 1, none⟩) (Kd.R_far (p := ⟨gb181, 0, none⟩) (Kd.R_types HO193.out BK181.out (by decide)) (fun _ hk => hk.2) (.int .i64 a0)) (fun _ hk => hk.2) (.int .i64 a1)) (fun _ hk => hk.2) (.int .i64 a2)) (fun _ hk => hk.2) (.slice Ao56 y191.length co56)) (fun _ hk => trivial), by repeat (first | (with_reducible first | exact HB.out | apply below_alloc | apply pw_below_drewN | apply below_drew1 | refine below_set ?_ GE180.out | refine below_set ?_ GE181.out) | exact HB.out)⟩
                    · rw [if_neg c40] at H
                      exact absurd H (by simp)
                  · rw [if_neg c39] at H
                    exact absurd H (by simp)
                · replace c38 := Bool.eq_false_iff.mpr c38
                  subst c38
                  have H1 : (some (0, 0, 0, ([] : List Int), 1)) = some (r1, r2, r3, r4, r5) := by rw [if_neg (show ¬ (false = true) by decide)] at H; exact H
                  clear H
                  have H := H1
                  clear H1
                  simp only [Option.some.injEq, Prod.mk.injEq] at H
                  obtain ⟨rfl, rfl, rfl, rfl, rfl⟩ := H
                  have hnb58 := NB180_181.out
                  have hnc58 := NB181_180.out
                  have hcz59_0 : wc.cell? ⟨gb180, 0, none⟩ = some (.slice A3_0 l3_0.length c3_0) := (blk_cell BK180.out 0).trans rfl
                  have hcz59_1 : wc.cell? ⟨gb180, 1, none⟩ = some (.int .i64 a3_1) := (blk_cell BK180.out 1).trans rfl
                  have hcz59_2 : wc.cell? ⟨gb180, 2, none⟩ = some (.bool a3_2) := (blk_cell BK180.out 2).trans rfl
                  have hcz59_3 : wc.cell? ⟨gb180, 3, none⟩ = some (.bool a3_3) := (blk_cell BK180.out 3).trans rfl
                  have hcz59_4 : wc.cell? ⟨gb180, 4, none⟩ = some (.int .i64 a3_4) := (blk_cell BK180.out 4).trans rfl
                  have hcz59_5 : wc.cell? ⟨gb180, 5, none⟩ = some (.int .i64 a3_5) := (blk_cell BK180.out 5).trans rfl
                  have hcz59_6 : wc.cell? ⟨gb180, 6, none⟩ = some (.int .i64 a3_6) := (blk_cell BK180.out 6).trans rfl
                  have hcz59_7 : wc.cell? ⟨gb180, 7, none⟩ = some (.int .i64 a3_7) := (blk_cell BK180.out 7).trans rfl
                  have hcz59_8 : wc.cell? ⟨gb180, 8, none⟩ = some (.int .i64 a3_8) := (blk_cell BK180.out 8).trans rfl
                  have hcz59_9 : wc.cell? ⟨gb180, 9, none⟩ = some (.slice A3_9 l3_9.length c3_9) := (blk_cell BK180.out 9).trans rfl
                  have hcz59_10 : wc.cell? ⟨gb180, 10, none⟩ = some (.int .i64 a3_10) := (blk_cell BK180.out 10).trans rfl
                  have hfz59_0 := blk_frozen BK180.out 0
                  have hfz59_1 := blk_frozen BK180.out 1
                  have hfz59_2 := blk_frozen BK180.out 2
                  have hfz59_3 := blk_frozen BK180.out 3
                  have hfz59_4 := blk_frozen BK180.out 4
                  have hfz59_5 := blk_frozen BK180.out 5
                  have hfz59_6 := blk_frozen BK180.out 6
                  have hfz59_7 := blk_frozen BK180.out 7
                  have hfz59_8 := blk_frozen BK180.out 8
                  have hfz59_9 := blk_frozen BK180.out 9
                  have hfz59_10 := blk_frozen BK180.out 10
                  obtain ⟨Ao60, co60, eo60⟩ := Kd.R_slice HO_11.out
                  subst eo60
                  go_wp2_with (first | ((with_reducible refine gate_callee (f := 36) rfl ?_); refine goesL_ (some 71) rfl rfl Try.func36 (by kernel_rfl) rfl #[.slice Ao60 x11_30.length co60, .int .i64 a0, .int .i64 a1, .agg #[.slice A3_0 l3_0.length c3_0, .int .i64 a3_1, .bool a3_2, .bool a3_3, .int .i64 a3_4, .int .i64 a3_5, .int .i64 a3_6, .int .i64 a3_7, .int .i64 a3_8, .slice A3_9 l3_9.length c3_9, .int .i64 a3_10]] rfl (by (try simp only [List.map_toArray, List.map_cons, List.map_nil]); first | done | rfl | (simp only [List.length_drop, List.length_take]; rfl)) ?_; (with_reducible refine (frame_payload.calls kj30 (fun k_ => some k_ = (.slice Ao60 x11_30.length co60 : Value).ownBlock) (.slice Ao60 x11_30.length co60) x11_30 a0 a1 _ _ l3_0 a3_1 a3_2 a3_3 a3_4 a3_5 a3_6 a3_7 a3_8 _ _ l3_9 a3_10 t187 false w _ ?side1 ?side2 ?side3 ?side4 ?side5 ?side6 A37.out).mono ?_); (case side1 => repeat (first | (with_reducible first | exact HB.out | apply below_alloc | apply pw_below_drewN | apply below_drew1 | refine below_set ?_ GE180.out | refine below_set ?_ GE181.out) | exact HB.out)); (case side2 => exact Kd.R_tight rfl HO_11.out); (case side3 => exact Kd.C_kept_came (Kd.heap_int .u8) HR3_0.out (by repeat (first | (with_reducible first | exact HB.out | apply below_alloc | apply pw_below_drewN | apply below_drew1 | refine below_set ?_ GE180.out | refine below_set ?_ GE181.out) | exact HB.out)) (fun k_ hs_ => (fun e_ => Kd.R_base HO_11.out k_ e_.symm) hs_)); (case side4 => exact HC3_0.out); (case side5 => exact Kd.C_kept_came k44_heap HR3_9.out (by repeat (first | (with_reducible first | exact HB.out | apply below_alloc | apply pw_below_drewN | apply below_drew1 | refine below_set ?_ GE180.out | refine below_set ?_ GE181.out) | exact HB.out)) (fun k_ hs_ => (fun e_ => Kd.R_base HO_11.out k_ e_.symm) hs_)); (case side6 => exact HC3_9.out); rintro e w61 ⟨v188, rfl, ho0, hb, hkp⟩; refine ⟨_, rfl, ?_⟩; have n0_ := Aside0.mk (blk_kept (by (with_reducible repeat (first | refine blk_drewN ?_ _ | refine blk_drew ?_ | refine blk_alloc ?_ _)); exact BK180.out) hkp (fun hs_ => (fun e_ => (Kd.R_ne HO_11.out BK180.out (by decide)) e_) hs_)); have n1_ := Aside0.mk (blk_kept (by (with_reducible repeat (first | refine blk_drewN ?_ _ | refine blk_drew ?_ | refine blk_alloc ?_ _)); exact BK181.out) hkp (fun hs_ => (fun e_ => (Kd.R_ne HO_11.out BK181.out (by decide)) e_) hs_)); have n2_ := Aside0.mk (Kd.R_mono (ok' := fun k_ => True) ho0 (fun k_ hk_ => trivial)); have n3_ := Aside0.mk (hb); clear BK180; clear BK181; clear HB; clear HO_11; have BK180 := n0_; have BK181 := n1_; have HO189 := n2_; have HB := n3_; clear n0_ n1_ n2_ n3_; (try clear hb); (try clear hkp); (try clear ho0); have hcz62_0 : w61.cell? ⟨gb181, 0, none⟩ = some (.int .i64 0) := (blk_cell BK181.out 0).trans rfl; have hcz62_1 : w61.cell? ⟨gb181, 1, none⟩ = some (.int .i64 0) := (blk_cell BK181.out 1).trans rfl; have hcz62_2 : w61.cell? ⟨gb181, 2, none⟩ = some (.int .i64 0) := (blk_cell BK181.out 2).trans rfl; have hcz62_3 : w61.cell? ⟨gb181, 3, none⟩ = some (.slice none 0 0) := (blk_cell BK181.out 3).trans rfl; have hfz62_0 := blk_frozen BK181.out 0; have hfz62_1 := blk_frozen BK181.out 1; have hfz62_2 := blk_frozen BK181.out 2; have hfz62_3 := blk_frozen BK181.out 3))
                  refine bodyPost_ret (results_ct rfl _ _ gb181 24 #[.int .i64 0, .int .i64 0, .int .i64 0, .slice none 0 0] (0, 0) _ rfl (by (with_reducible repeat (first | refine blk_drewN ?_ _ | refine blk_drew ?_ | refine blk_alloc ?_ _)); refine blk_put (cs := #[.int .i64 0, .int .i64 0, .int .i64 0, .slice none 0 0]) ?_ 3 _ rfl; (with_reducible repeat (first | refine blk_drewN ?_ _ | refine blk_drew ?_ | refine blk_alloc ?_ _)); refine blk_put (cs := #[.int .i64 0, .int .i64 0, .int .i64 0, .slice none 0 0]) ?_ 2 _ rfl; (with_reducible repeat (first | refine blk_drewN ?_ _ | refine blk_drew ?_ | refine blk_alloc ?_ _)); refine blk_put (cs := #[.int .i64 0, .int .i64 0, .int .i64 0, .slice none 0 0]) ?_ 1 _ rfl; (with_reducible repeat (first | refine blk_drewN ?_ _ | refine blk_drew ?_ | refine blk_alloc ?_ _)); refine blk_put (cs := #[.int .i64 0, .int .i64 0, .int .i64 0, .slice none 0 0]) ?_ 0 _ rfl; (with_reducible repeat (first | refine blk_drewN ?_ _ | refine blk_drew ?_ | refine blk_alloc ?_ _)); exact BK181.out) Try.underlying24 rfl (by kernel_rfl)) rfl ?_
                  exact ⟨_, by first | rfl | (simp [errW_none, errW_some] <;> rfl) | (simp [*, errW_none, errW_some] <;> rfl), by first | exact Kd.R_nil _ _ _ _ _ | exact Kd.N_nil _ _ _ _ _ | exact Kd.V_nil _ _ _ _ _ | exact Kd.Q_nil _ _ _ _ _ | exact Kd.S_nil _ _ _ _ _, by repeat (first | (with_reducible first | exact HB.out | apply below_alloc | apply pw_below_drewN | apply below_drew1 | refine below_set ?_ GE180.out | refine below_set ?_ GE181.out) | exact HB.out)⟩

end Go.Proofs.Ytbngoaonkhcciaa.PMk
/-! #### PMkx -/
namespace Go.Proofs.Ytbngoaonkhcciaa.PMk
open Go.RowKit Go.Proofs.YtbngoaonkhcciaaW.PrintWords Go.Proofs.YtbngoaonkhcciaaW.PrintLast Go.Proofs.YtbngoaonkhcciaaW.PrintMore
attribute [local go_sem] max2_int min2_int max_two min_two max_three min_three max_four min_four   -- for this text's walks alone
set_option linter.unusedVariables false
set_option linter.unusedSimpArgs false

end Go.Proofs.Ytbngoaonkhcciaa.PMk
