/- Own texts in one: PRfx3 PRfx. -/
import Derived.Test.YtbngoaonkhcciaaZS
/-! #### PRfx3 -/
namespace Go.Proofs.Ytbngoaonkhcciaa.PRf
open Go.RowKit Go.Proofs.YtbngoaonkhcciaaW.PrintWords Go.Proofs.YtbngoaonkhcciaaW.PrintLast Go.Proofs.YtbngoaonkhcciaaW.PrintMore
attribute [local go_sem] max2_int min2_int max_two min_two max_three min_three max_four min_four   -- for this text's walks alone
set_option linter.unusedVariables false
set_option linter.unusedSimpArgs false

/-! ### isthmusref7_EqBody: function 17 -/
mutual
def isthmusref7_EqBody.j0 : Nat → Bool → List Int → Int → Bool → Bool → Int → Int → Int → Int → Int → List (S44) → Int → List Int → Int → Bool → Bool → Int → Int → Int → Int → Int → List (S44) → Int → Option (Bool)
  | 0, _, _, _, _, _, _, _, _, _, _, _, _, _, _, _, _, _, _, _, _, _, _, _ => none
  | k + 1, x84, x134000, x134001, x134002, x134003, x134004, x134005, x134006, x134007, x134008, x134009, x134010, x135000, x135001, x135002, x135003, x135004, x135005, x135006, x135007, x135008, x135009, x135010 => if x84 = true then (some false) else (isthmusref7_EqBody.l0 k 0 x134000 x134001 x134002 x134003 x134004 x134005 x134006 x134007 x134008 x134009 x134010 x135000 x135001 x135002 x135003 x135004 x135005 x135006 x135007 x135008 x135009 x135010)
def isthmusref7_EqBody.l0 : Nat → Int → List Int → Int → Bool → Bool → Int → Int → Int → Int → Int → List (S44) → Int → List Int → Int → Bool → Bool → Int → Int → Int → Int → Int → List (S44) → Int → Option (Bool)
  | 0, _, _, _, _, _, _, _, _, _, _, _, _, _, _, _, _, _, _, _, _, _, _, _ => none
  | k + 1, x5, x134000, x134001, x134002, x134003, x134004, x134005, x134006, x134007, x134008, x134009, x134010, x135000, x135001, x135002, x135003, x135004, x135005, x135006, x135007, x135008, x135009, x135010 => if x5 < (x134009.length : Int) then (if 0 ≤ x5 then (if x5 < (x135009.length : Int) then (if ((rd_T44 x134009 x5).f0) = ((rd_T44 x135009 x5).f0) then (if ((rd_T44 x134009 x5).f1) = ((rd_T44 x135009 x5).f1) then (isthmusref7_EqBody.l0 k (wrap64 (x5 + 1)) x134000 x134001 x134002 x134003 x134004 x134005 x134006 x134007 x134008 x134009 x134010 x135000 x135001 x135002 x135003 x135004 x135005 x135006 x135007 x135008 x135009 x135010) else (some false)) else (some false)) else (none)) else (none)) else (some true)
end
def isthmusref7_EqBody.f (k : Nat) (l0_0 : List Int) (a0_1 : Int) (a0_2 : Bool) (a0_3 : Bool) (a0_4 : Int) (a0_5 : Int) (a0_6 : Int) (a0_7 : Int) (a0_8 : Int) (l0_9 : List (S44)) (a0_10 : Int) (l1_0 : List Int) (a1_1 : Int) (a1_2 : Bool) (a1_3 : Bool) (a1_4 : Int) (a1_5 : Int) (a1_6 : Int) (a1_7 : Int) (a1_8 : Int) (l1_9 : List (S44)) (a1_10 : Int) : Option (Bool) := if (strOfNums l0_0).toList = (strOfNums l1_0).toList then (if a0_1 = a1_1 then (if (a0_2 != a1_2) = true then (isthmusref7_EqBody.j0 k true l0_0 a0_1 a0_2 a0_3 a0_4 a0_5 a0_6 a0_7 a0_8 l0_9 a0_10 l1_0 a1_1 a1_2 a1_3 a1_4 a1_5 a1_6 a1_7 a1_8 l1_9 a1_10) else (if (a0_3 != a1_3) = true then (isthmusref7_EqBody.j0 k true l0_0 a0_1 a0_2 a0_3 a0_4 a0_5 a0_6 a0_7 a0_8 l0_9 a0_10 l1_0 a1_1 a1_2 a1_3 a1_4 a1_5 a1_6 a1_7 a1_8 l1_9 a1_10) else (if a0_4 = a1_4 then (if a0_5 = a1_5 then (if a0_6 = a1_6 then (if a0_7 = a1_7 then (if a0_8 = a1_8 then (if a0_10 = a1_10 then (isthmusref7_EqBody.j0 k ((l0_9.length : Int) != (l1_9.length : Int)) l0_0 a0_1 a0_2 a0_3 a0_4 a0_5 a0_6 a0_7 a0_8 l0_9 a0_10 l1_0 a1_1 a1_2 a1_3 a1_4 a1_5 a1_6 a1_7 a1_8 l1_9 a1_10) else (isthmusref7_EqBody.j0 k true l0_0 a0_1 a0_2 a0_3 a0_4 a0_5 a0_6 a0_7 a0_8 l0_9 a0_10 l1_0 a1_1 a1_2 a1_3 a1_4 a1_5 a1_6 a1_7 a1_8 l1_9 a1_10)) else (isthmusref7_EqBody.j0 k true l0_0 a0_1 a0_2 a0_3 a0_4 a0_5 a0_6 a0_7 a0_8 l0_9 a0_10 l1_0 a1_1 a1_2 a1_3 a1_4 a1_5 a1_6 a1_7 a1_8 l1_9 a1_10)) else (isthmusref7_EqBody.j0 k true l0_0 a0_1 a0_2 a0_3 a0_4 a0_5 a0_6 a0_7 a0_8 l0_9 a0_10 l1_0 a1_1 a1_2 a1_3 a1_4 a1_5 a1_6 a1_7 a1_8 l1_9 a1_10)) else (isthmusref7_EqBody.j0 k true l0_0 a0_1 a0_2 a0_3 a0_4 a0_5 a0_6 a0_7 a0_8 l0_9 a0_10 l1_0 a1_1 a1_2 a1_3 a1_4 a1_5 a1_6 a1_7 a1_8 l1_9 a1_10)) else (isthmusref7_EqBody.j0 k true l0_0 a0_1 a0_2 a0_3 a0_4 a0_5 a0_6 a0_7 a0_8 l0_9 a0_10 l1_0 a1_1 a1_2 a1_3 a1_4 a1_5 a1_6 a1_7 a1_8 l1_9 a1_10)) else (isthmusref7_EqBody.j0 k true l0_0 a0_1 a0_2 a0_3 a0_4 a0_5 a0_6 a0_7 a0_8 l0_9 a0_10 l1_0 a1_1 a1_2 a1_3 a1_4 a1_5 a1_6 a1_7 a1_8 l1_9 a1_10)))) else (isthmusref7_EqBody.j0 k true l0_0 a0_1 a0_2 a0_3 a0_4 a0_5 a0_6 a0_7 a0_8 l0_9 a0_10 l1_0 a1_1 a1_2 a1_3 a1_4 a1_5 a1_6 a1_7 a1_8 l1_9 a1_10)) else (isthmusref7_EqBody.j0 k true l0_0 a0_1 a0_2 a0_3 a0_4 a0_5 a0_6 a0_7 a0_8 l0_9 a0_10 l1_0 a1_1 a1_2 a1_3 a1_4 a1_5 a1_6 a1_7 a1_8 l1_9 a1_10)
theorem isthmusref7_EqBody.mono_l : ∀ k, (∀ y0 y1 y2 y3 y4 y5 y6 y7 y8 y9 y10 y11 y12 y13 y14 y15 y16 y17 y18 y19 y20 y21 y22, LeO (isthmusref7_EqBody.j0 k y0 y1 y2 y3 y4 y5 y6 y7 y8 y9 y10 y11 y12 y13 y14 y15 y16 y17 y18 y19 y20 y21 y22) (isthmusref7_EqBody.j0 (k + 1) y0 y1 y2 y3 y4 y5 y6 y7 y8 y9 y10 y11 y12 y13 y14 y15 y16 y17 y18 y19 y20 y21 y22)) ∧ (∀ y0 y1 y2 y3 y4 y5 y6 y7 y8 y9 y10 y11 y12 y13 y14 y15 y16 y17 y18 y19 y20 y21 y22, LeO (isthmusref7_EqBody.l0 k y0 y1 y2 y3 y4 y5 y6 y7 y8 y9 y10 y11 y12 y13 y14 y15 y16 y17 y18 y19 y20 y21 y22) (isthmusref7_EqBody.l0 (k + 1) y0 y1 y2 y3 y4 y5 y6 y7 y8 y9 y10 y11 y12 y13 y14 y15 y16 y17 y18 y19 y20 y21 y22))
  | 0 => ⟨fun _ _ _ _ _ _ _ _ _ _ _ _ _ _ _ _ _ _ _ _ _ _ _ r h => by simp [isthmusref7_EqBody.j0] at h, fun _ _ _ _ _ _ _ _ _ _ _ _ _ _ _ _ _ _ _ _ _ _ _ r h => by simp [isthmusref7_EqBody.l0] at h⟩
  | k + 1 => by
    obtain ⟨ih0, ih1⟩ := isthmusref7_EqBody.mono_l k
    refine ⟨?_, ?_⟩
    · intro y0 y1 y2 y3 y4 y5 y6 y7 y8 y9 y10 y11 y12 y13 y14 y15 y16 y17 y18 y19 y20 y21 y22
      unfold isthmusref7_EqBody.j0
      repeat' first
      | (with_reducible exact ih0 _ _ _ _ _ _ _ _ _ _ _ _ _ _ _ _ _ _ _ _ _ _ _)
      | (with_reducible exact ih1 _ _ _ _ _ _ _ _ _ _ _ _ _ _ _ _ _ _ _ _ _ _ _)
      | (with_reducible exact LeO.refl _)
      | (with_reducible exact LeO.none _)
      | (with_reducible refine LeO.ite ?_ ?_)
      | (with_reducible refine LeO.bind ?_ (fun _ => ?_))
      | exact ih0 _ _ _ _ _ _ _ _ _ _ _ _ _ _ _ _ _ _ _ _ _ _ _
      | exact ih1 _ _ _ _ _ _ _ _ _ _ _ _ _ _ _ _ _ _ _ _ _ _ _
      | exact LeO.none _
      | refine LeO.ite ?_ ?_
      | refine LeO.bind ?_ (fun _ => ?_)
    · intro y0 y1 y2 y3 y4 y5 y6 y7 y8 y9 y10 y11 y12 y13 y14 y15 y16 y17 y18 y19 y20 y21 y22
      unfold isthmusref7_EqBody.l0
      repeat' first
      | (with_reducible exact ih0 _ _ _ _ _ _ _ _ _ _ _ _ _ _ _ _ _ _ _ _ _ _ _)
      | (with_reducible exact ih1 _ _ _ _ _ _ _ _ _ _ _ _ _ _ _ _ _ _ _ _ _ _ _)
      | (with_reducible exact LeO.refl _)
      | (with_reducible exact LeO.none _)
      | (with_reducible refine LeO.ite ?_ ?_)
      | (with_reducible refine LeO.bind ?_ (fun _ => ?_))
      | exact ih0 _ _ _ _ _ _ _ _ _ _ _ _ _ _ _ _ _ _ _ _ _ _ _
      | exact ih1 _ _ _ _ _ _ _ _ _ _ _ _ _ _ _ _ _ _ _ _ _ _ _
      | exact LeO.none _
      | refine LeO.ite ?_ ?_
      | refine LeO.bind ?_ (fun _ => ?_)
theorem isthmusref7_EqBody.mono : ∀ a0 a1 a2 a3 a4 a5 a6 a7 a8 a9 a10 a11 a12 a13 a14 a15 a16 a17 a18 a19 a20 a21 k, LeO (isthmusref7_EqBody.f k a0 a1 a2 a3 a4 a5 a6 a7 a8 a9 a10 a11 a12 a13 a14 a15 a16 a17 a18 a19 a20 a21) (isthmusref7_EqBody.f (k + 1) a0 a1 a2 a3 a4 a5 a6 a7 a8 a9 a10 a11 a12 a13 a14 a15 a16 a17 a18 a19 a20 a21) := by
  intro a0 a1 a2 a3 a4 a5 a6 a7 a8 a9 a10 a11 a12 a13 a14 a15 a16 a17 a18 a19 a20 a21 k
  obtain ⟨ih0, ih1⟩ := isthmusref7_EqBody.mono_l k
  unfold isthmusref7_EqBody.f
  repeat' first
      | (with_reducible exact ih0 _ _ _ _ _ _ _ _ _ _ _ _ _ _ _ _ _ _ _ _ _ _ _)
      | (with_reducible exact ih1 _ _ _ _ _ _ _ _ _ _ _ _ _ _ _ _ _ _ _ _ _ _ _)
      | (with_reducible exact LeO.refl _)
      | (with_reducible exact LeO.none _)
      | (with_reducible refine LeO.ite ?_ ?_)
      | (with_reducible refine LeO.bind ?_ (fun _ => ?_))
      | exact ih0 _ _ _ _ _ _ _ _ _ _ _ _ _ _ _ _ _ _ _ _ _ _ _
      | exact ih1 _ _ _ _ _ _ _ _ _ _ _ _ _ _ _ _ _ _ _ _ _ _ _
      | exact LeO.none _
      | refine LeO.ite ?_ ?_
      | refine LeO.bind ?_ (fun _ => ?_)
set_option maxHeartbeats 8000000 in
set_option maxRecDepth 100000 in
theorem isthmusref7_EqBody.calls (k : Nat) (A0_0 : Option Addr) (c0_0 : Nat) (l0_0 : List Int) (a0_1 : Int) (a0_2 : Bool) (a0_3 : Bool) (a0_4 : Int) (a0_5 : Int) (a0_6 : Int) (a0_7 : Int) (a0_8 : Int) (A0_9 : Option Addr) (c0_9 : Nat) (l0_9 : List (S44)) (a0_10 : Int) (A1_0 : Option Addr) (c1_0 : Nat) (l1_0 : List Int) (a1_1 : Int) (a1_2 : Bool) (a1_3 : Bool) (a1_4 : Int) (a1_5 : Int) (a1_6 : Int) (a1_7 : Int) (a1_8 : Int) (A1_9 : Option Addr) (c1_9 : Nat) (l1_9 : List (S44)) (a1_10 : Int) (r : Bool) (w : World) (hr0_0 : Kd.C (Kd.int .u8) w A0_0 l0_0.length l0_0) (hc0_0 : l0_0.length ≤ c0_0) (hr0_9 : Kd.C k44 w A0_9 l0_9.length l0_9) (hc0_9 : l0_9.length ≤ c0_9) (hr1_0 : Kd.C (Kd.int .u8) w A1_0 l1_0.length l1_0) (hc1_0 : l1_0.length ≤ c1_0) (hr1_9 : Kd.C k44 w A1_9 l1_9.length l1_9) (hc1_9 : l1_9.length ≤ c1_9) (h : isthmusref7_EqBody.f k l0_0 a0_1 a0_2 a0_3 a0_4 a0_5 a0_6 a0_7 a0_8 l0_9 a0_10 l1_0 a1_1 a1_2 a1_3 a1_4 a1_5 a1_6 a1_7 a1_8 l1_9 a1_10 = some r) :
    Calls Try.prog 17 #[.agg #[.slice A0_0 l0_0.length c0_0, .int .i64 a0_1, .bool a0_2, .bool a0_3, .int .i64 a0_4, .int .i64 a0_5, .int .i64 a0_6, .int .i64 a0_7, .int .i64 a0_8, .slice A0_9 l0_9.length c0_9, .int .i64 a0_10], .agg #[.slice A1_0 l1_0.length c1_0, .int .i64 a1_1, .bool a1_2, .bool a1_3, .int .i64 a1_4, .int .i64 a1_5, .int .i64 a1_6, .int .i64 a1_7, .int .i64 a1_8, .slice A1_9 l1_9.length c1_9, .int .i64 a1_10]] w fun e w' => e = .returned (.bool r) ∧ Below w.heap.size w w' := by
  have hu36 := Try.underlying36
  have HR0_0 := Aside0.mk hr0_0
  have HC0_0 := Aside0.mk hc0_0
  clear hr0_0 hc0_0
  have HR0_9 := Aside0.mk hr0_9
  have HC0_9 := Aside0.mk hc0_9
  clear hr0_9 hc0_9
  have HR1_0 := Aside0.mk hr1_0
  have HC1_0 := Aside0.mk hc1_0
  clear hr1_0 hc1_0
  have HR1_9 := Aside0.mk hr1_9
  have HC1_9 := Aside0.mk hc1_9
  clear hr1_9 hc1_9
  have HB := Aside0.mk (Below.refl w.heap.size w)
  have H : (if (strOfNums l0_0).toList = (strOfNums l1_0).toList then (if a0_1 = a1_1 then (if (a0_2 != a1_2) = true then (isthmusref7_EqBody.j0 k true l0_0 a0_1 a0_2 a0_3 a0_4 a0_5 a0_6 a0_7 a0_8 l0_9 a0_10 l1_0 a1_1 a1_2 a1_3 a1_4 a1_5 a1_6 a1_7 a1_8 l1_9 a1_10) else (if (a0_3 != a1_3) = true then (isthmusref7_EqBody.j0 k true l0_0 a0_1 a0_2 a0_3 a0_4 a0_5 a0_6 a0_7 a0_8 l0_9 a0_10 l1_0 a1_1 a1_2 a1_3 a1_4 a1_5 a1_6 a1_7 a1_8 l1_9 a1_10) else (if a0_4 = a1_4 then (if a0_5 = a1_5 then (if a0_6 = a1_6 then (if a0_7 = a1_7 then (if a0_8 = a1_8 then (if a0_10 = a1_10 then (isthmusref7_EqBody.j0 k ((l0_9.length : Int) != (l1_9.length : Int)) l0_0 a0_1 a0_2 a0_3 a0_4 a0_5 a0_6 a0_7 a0_8 l0_9 a0_10 l1_0 a1_1 a1_2 a1_3 a1_4 a1_5 a1_6 a1_7 a1_8 l1_9 a1_10) else (isthmusref7_EqBody.j0 k true l0_0 a0_1 a0_2 a0_3 a0_4 a0_5 a0_6 a0_7 a0_8 l0_9 a0_10 l1_0 a1_1 a1_2 a1_3 a1_4 a1_5 a1_6 a1_7 a1_8 l1_9 a1_10)) else (isthmusref7_EqBody.j0 k true l0_0 a0_1 a0_2 a0_3 a0_4 a0_5 a0_6 a0_7 a0_8 l0_9 a0_10 l1_0 a1_1 a1_2 a1_3 a1_4 a1_5 a1_6 a1_7 a1_8 l1_9 a1_10)) else (isthmusref7_EqBody.j0 k true l0_0 a0_1 a0_2 a0_3 a0_4 a0_5 a0_6 a0_7 a0_8 l0_9 a0_10 l1_0 a1_1 a1_2 a1_3 a1_4 a1_5 a1_6 a1_7 a1_8 l1_9 a1_10)) else (isthmusref7_EqBody.j0 k true l0_0 a0_1 a0_2 a0_3 a0_4 a0_5 a0_6 a0_7 a0_8 l0_9 a0_10 l1_0 a1_1 a1_2 a1_3 a1_4 a1_5 a1_6 a1_7 a1_8 l1_9 a1_10)) else (isthmusref7_EqBody.j0 k true l0_0 a0_1 a0_2 a0_3 a0_4 a0_5 a0_6 a0_7 a0_8 l0_9 a0_10 l1_0 a1_1 a1_2 a1_3 a1_4 a1_5 a1_6 a1_7 a1_8 l1_9 a1_10)) else (isthmusref7_EqBody.j0 k true l0_0 a0_1 a0_2 a0_3 a0_4 a0_5 a0_6 a0_7 a0_8 l0_9 a0_10 l1_0 a1_1 a1_2 a1_3 a1_4 a1_5 a1_6 a1_7 a1_8 l1_9 a1_10)))) else (isthmusref7_EqBody.j0 k true l0_0 a0_1 a0_2 a0_3 a0_4 a0_5 a0_6 a0_7 a0_8 l0_9 a0_10 l1_0 a1_1 a1_2 a1_3 a1_4 a1_5 a1_6 a1_7 a1_8 l1_9 a1_10)) else (isthmusref7_EqBody.j0 k true l0_0 a0_1 a0_2 a0_3 a0_4 a0_5 a0_6 a0_7 a0_8 l0_9 a0_10 l1_0 a1_1 a1_2 a1_3 a1_4 a1_5 a1_6 a1_7 a1_8 l1_9 a1_10)) = some r := h
  clear h
  have HC3 := Aside0.mk H
  clear H
  go_enter Try.func17, Try.ntmps17
  go_upto_region 1 with (first | ((with_reducible refine gate_dst (N := 2) rfl ?_); (try (refine gate_guard (by rfl) ?_; dsimp only)); refine box_event ?hg (N := 2) ?hd (cs := #[.slice A0_0 l0_0.length c0_0, .int .i64 a0_1, .bool a0_2, .bool a0_3, .int .i64 a0_4, .int .i64 a0_5, .int .i64 a0_6, .int .i64 a0_7, .int .i64 a0_8, .slice A0_9 l0_9.length c0_9, .int .i64 a0_10]) (t := 36) ?hr ?_; (case hd => rfl); (case hg => rfl); (case hr => first | (go_simp; done) | (go_simp; rfl)); intro gb133 hg w4 hbox hb; have n0_ := Aside0.mk (below_step (by repeat (first | (with_reducible first | exact HB.out | apply below_alloc | apply pw_below_drewN | apply below_drew1) | exact HB.out)) hb); have n1_ := Aside0.mk (hbox); have n2_ := Aside0.mk ((by rw [hg]; exact (below_size (by repeat (first | (with_reducible first | exact HB.out | apply below_alloc | apply pw_below_drewN | apply below_drew1) | exact HB.out))) : w.heap.size ≤ gb133)); have n3_ := Aside0.mk ((by rw [hg]; exact (below_size (by repeat (first | (with_reducible first | exact HB.out | apply below_alloc | apply pw_below_drewN | apply below_drew1) | exact HB.out))) : w.heap.size ≤ gb133)); clear HB; have HB := n0_; have BK133 := n1_; have GW133 := n2_; have GE133 := n3_; clear n0_ n1_ n2_ n3_; clear hb hbox hg) | ((with_reducible refine gate_dst (N := 3) rfl ?_); (try (refine gate_guard (by rfl) ?_; dsimp only)); refine box_event ?hg (N := 3) ?hd (cs := #[.slice A1_0 l1_0.length c1_0, .int .i64 a1_1, .bool a1_2, .bool a1_3, .int .i64 a1_4, .int .i64 a1_5, .int .i64 a1_6, .int .i64 a1_7, .int .i64 a1_8, .slice A1_9 l1_9.length c1_9, .int .i64 a1_10]) (t := 36) ?hr ?_; (case hd => rfl); (case hg => rfl); (case hr => first | (go_simp; done) | (go_simp; rfl)); intro gb134 hg w5 hbox hb; have n0_ := Aside0.mk (blk_below (g := gb133) (o := .cells #[.slice A0_0 l0_0.length c0_0, .int .i64 a0_1, .bool a0_2, .bool a0_3, .int .i64 a0_4, .int .i64 a0_5, .int .i64 a0_6, .int .i64 a0_7, .int .i64 a0_8, .slice A0_9 l0_9.length c0_9, .int .i64 a0_10] 36 (0, 0)) (by (with_reducible repeat (first | refine blk_drewN ?_ _ | refine blk_drew ?_ | refine blk_alloc ?_ _)); exact BK133.out) hb); have n1_ := Aside0.mk (below_step (by repeat (first | (with_reducible first | exact HB.out | apply below_alloc | apply pw_below_drewN | apply below_drew1 | refine below_set ?_ GE133.out) | exact HB.out)) hb); have n2_ := Aside0.mk (hbox); have n3_ := Aside0.mk ((by rw [hg]; exact (below_size (by repeat (first | (with_reducible first | exact HB.out | apply below_alloc | apply pw_below_drewN | apply below_drew1 | refine below_set ?_ GE133.out) | exact HB.out))) : w.heap.size ≤ gb134)); have n4_ := Aside0.mk ((by rw [hg]; exact (below_size (by repeat (first | (with_reducible first | exact HB.out | apply below_alloc | apply pw_below_drewN | apply below_drew1 | refine below_set ?_ GE133.out) | exact HB.out))) : w.heap.size ≤ gb134)); have n5_ := Aside0.mk ((by rw [hg]; exact Nat.ne_of_lt (blk_lt (g := gb133) (o := .cells #[.slice A0_0 l0_0.length c0_0, .int .i64 a0_1, .bool a0_2, .bool a0_3, .int .i64 a0_4, .int .i64 a0_5, .int .i64 a0_6, .int .i64 a0_7, .int .i64 a0_8, .slice A0_9 l0_9.length c0_9, .int .i64 a0_10] 36 (0, 0)) (by (with_reducible repeat (first | refine blk_drewN ?_ _ | refine blk_drew ?_ | refine blk_alloc ?_ _)); exact BK133.out)) : gb133 ≠ gb134)); have n6_ := Aside0.mk ((by rw [hg]; exact Nat.ne_of_gt (blk_lt (g := gb133) (o := .cells #[.slice A0_0 l0_0.length c0_0, .int .i64 a0_1, .bool a0_2, .bool a0_3, .int .i64 a0_4, .int .i64 a0_5, .int .i64 a0_6, .int .i64 a0_7, .int .i64 a0_8, .slice A0_9 l0_9.length c0_9, .int .i64 a0_10] 36 (0, 0)) (by (with_reducible repeat (first | refine blk_drewN ?_ _ | refine blk_drew ?_ | refine blk_alloc ?_ _)); exact BK133.out)) : gb134 ≠ gb133)); clear BK133; clear HB; have BK133 := n0_; have HB := n1_; have BK134 := n2_; have GW134 := n3_; have GE134 := n4_; have NB133_134 := n5_; have NB134_133 := n6_; clear n0_ n1_ n2_ n3_ n4_ n5_ n6_; clear hb hbox hg))
  repeat (go_quiet (first | ((with_reducible refine gate_dst (N := 2) rfl ?_); (try (refine gate_guard (by rfl) ?_; dsimp only)); refine box_event ?hg (N := 2) ?hd (cs := #[.slice A0_0 l0_0.length c0_0, .int .i64 a0_1, .bool a0_2, .bool a0_3, .int .i64 a0_4, .int .i64 a0_5, .int .i64 a0_6, .int .i64 a0_7, .int .i64 a0_8, .slice A0_9 l0_9.length c0_9, .int .i64 a0_10]) (t := 36) ?hr ?_; (case hd => rfl); (case hg => rfl); (case hr => first | (go_simp; done) | (go_simp; rfl)); intro gb133 hg w4 hbox hb; have n0_ := Aside0.mk (below_step (by repeat (first | (with_reducible first | exact HB.out | apply below_alloc | apply pw_below_drewN | apply below_drew1) | exact HB.out)) hb); have n1_ := Aside0.mk (hbox); have n2_ := Aside0.mk ((by rw [hg]; exact (below_size (by repeat (first | (with_reducible first | exact HB.out | apply below_alloc | apply pw_below_drewN | apply below_drew1) | exact HB.out))) : w.heap.size ≤ gb133)); have n3_ := Aside0.mk ((by rw [hg]; exact (below_size (by repeat (first | (with_reducible first | exact HB.out | apply below_alloc | apply pw_below_drewN | apply below_drew1) | exact HB.out))) : w.heap.size ≤ gb133)); clear HB; have HB := n0_; have BK133 := n1_; have GW133 := n2_; have GE133 := n3_; clear n0_ n1_ n2_ n3_; clear hb hbox hg) | ((with_reducible refine gate_dst (N := 3) rfl ?_); (try (refine gate_guard (by rfl) ?_; dsimp only)); refine box_event ?hg (N := 3) ?hd (cs := #[.slice A1_0 l1_0.length c1_0, .int .i64 a1_1, .bool a1_2, .bool a1_3, .int .i64 a1_4, .int .i64 a1_5, .int .i64 a1_6, .int .i64 a1_7, .int .i64 a1_8, .slice A1_9 l1_9.length c1_9, .int .i64 a1_10]) (t := 36) ?hr ?_; (case hd => rfl); (case hg => rfl); (case hr => first | (go_simp; done) | (go_simp; rfl)); intro gb134 hg w5 hbox hb; have n0_ := Aside0.mk (blk_below (g := gb133) (o := .cells #[.slice A0_0 l0_0.length c0_0, .int .i64 a0_1, .bool a0_2, .bool a0_3, .int .i64 a0_4, .int .i64 a0_5, .int .i64 a0_6, .int .i64 a0_7, .int .i64 a0_8, .slice A0_9 l0_9.length c0_9, .int .i64 a0_10] 36 (0, 0)) (by (with_reducible repeat (first | refine blk_drewN ?_ _ | refine blk_drew ?_ | refine blk_alloc ?_ _)); exact BK133.out) hb); have n1_ := Aside0.mk (below_step (by repeat (first | (with_reducible first | exact HB.out | apply below_alloc | apply pw_below_drewN | apply below_drew1 | refine below_set ?_ GE133.out) | exact HB.out)) hb); have n2_ := Aside0.mk (hbox); have n3_ := Aside0.mk ((by rw [hg]; exact (below_size (by repeat (first | (with_reducible first | exact HB.out | apply below_alloc | apply pw_below_drewN | apply below_drew1 | refine below_set ?_ GE133.out) | exact HB.out))) : w.heap.size ≤ gb134)); have n4_ := Aside0.mk ((by rw [hg]; exact (below_size (by repeat (first | (with_reducible first | exact HB.out | apply below_alloc | apply pw_below_drewN | apply below_drew1 | refine below_set ?_ GE133.out) | exact HB.out))) : w.heap.size ≤ gb134)); have n5_ := Aside0.mk ((by rw [hg]; exact Nat.ne_of_lt (blk_lt (g := gb133) (o := .cells #[.slice A0_0 l0_0.length c0_0, .int .i64 a0_1, .bool a0_2, .bool a0_3, .int .i64 a0_4, .int .i64 a0_5, .int .i64 a0_6, .int .i64 a0_7, .int .i64 a0_8, .slice A0_9 l0_9.length c0_9, .int .i64 a0_10] 36 (0, 0)) (by (with_reducible repeat (first | refine blk_drewN ?_ _ | refine blk_drew ?_ | refine blk_alloc ?_ _)); exact BK133.out)) : gb133 ≠ gb134)); have n6_ := Aside0.mk ((by rw [hg]; exact Nat.ne_of_gt (blk_lt (g := gb133) (o := .cells #[.slice A0_0 l0_0.length c0_0, .int .i64 a0_1, .bool a0_2, .bool a0_3, .int .i64 a0_4, .int .i64 a0_5, .int .i64 a0_6, .int .i64 a0_7, .int .i64 a0_8, .slice A0_9 l0_9.length c0_9, .int .i64 a0_10] 36 (0, 0)) (by (with_reducible repeat (first | refine blk_drewN ?_ _ | refine blk_drew ?_ | refine blk_alloc ?_ _)); exact BK133.out)) : gb134 ≠ gb133)); clear BK133; clear HB; have BK133 := n0_; have HB := n1_; have BK134 := n2_; have GW134 := n3_; have GE134 := n4_; have NB133_134 := n5_; have NB134_133 := n6_; clear n0_ n1_ n2_ n3_ n4_ n5_ n6_; clear hb hbox hg)); go_upto_region 1 with (first | ((with_reducible refine gate_dst (N := 2) rfl ?_); (try (refine gate_guard (by rfl) ?_; dsimp only)); refine box_event ?hg (N := 2) ?hd (cs := #[.slice A0_0 l0_0.length c0_0, .int .i64 a0_1, .bool a0_2, .bool a0_3, .int .i64 a0_4, .int .i64 a0_5, .int .i64 a0_6, .int .i64 a0_7, .int .i64 a0_8, .slice A0_9 l0_9.length c0_9, .int .i64 a0_10]) (t := 36) ?hr ?_; (case hd => rfl); (case hg => rfl); (case hr => first | (go_simp; done) | (go_simp; rfl)); intro gb133 hg w4 hbox hb; have n0_ := Aside0.mk (below_step (by repeat (first | (with_reducible first | exact HB.out | apply below_alloc | apply pw_below_drewN | apply below_drew1) | exact HB.out)) hb); have n1_ := Aside0.mk (hbox); have n2_ := Aside0.mk ((by rw [hg]; exact (below_size (by repeat (first | (with_reducible first | exact HB.out | apply below_alloc | apply pw_below_drewN | apply below_drew1) | exact HB.out))) : w.heap.size ≤ gb133)); have n3_ := Aside0.mk ((by rw [hg]; exact (below_size (by repeat (first | (with_reducible first | exact HB.out | apply below_alloc | apply pw_below_drewN | apply below_drew1) | exact HB.out))) : w.heap.size ≤ gb133)); clear HB; have HB := n0_; have BK133 := n1_; have GW133 := n2_; have GE133 := n3_; clear n0_ n1_ n2_ n3_; clear hb hbox hg) | ((with_reducible refine gate_dst (N := 3) rfl ?_); (try (refine gate_guard (by rfl) ?_; dsimp only)); refine box_event ?hg (N := 3) ?hd (cs := #[.slice A1_0 l1_0.length c1_0, .int .i64 a1_1, .bool a1_2, .bool a1_3, .int .i64 a1_4, .int .i64 a1_5, .int .i64 a1_6, .int .i64 a1_7, .int .i64 a1_8, .slice A1_9 l1_9.length c1_9, .int .i64 a1_10]) (t := 36) ?hr ?_; (case hd => rfl); (case hg => rfl); (case hr => first | (go_simp; done) | (go_simp; rfl)); intro gb134 hg w5 hbox hb; have n0_ := Aside0.mk (blk_below (g := gb133) (o := .cells #[.slice A0_0 l0_0.length c0_0, .int .i64 a0_1, .bool a0_2, .bool a0_3, .int .i64 a0_4, .int .i64 a0_5, .int .i64 a0_6, .int .i64 a0_7, .int .i64 a0_8, .slice A0_9 l0_9.length c0_9, .int .i64 a0_10] 36 (0, 0)) (by (with_reducible repeat (first | refine blk_drewN ?_ _ | refine blk_drew ?_ | refine blk_alloc ?_ _)); exact BK133.out) hb); have n1_ := Aside0.mk (below_step (by repeat (first | (with_reducible first | exact HB.out | apply below_alloc | apply pw_below_drewN | apply below_drew1 | refine below_set ?_ GE133.out) | exact HB.out)) hb); have n2_ := Aside0.mk (hbox); have n3_ := Aside0.mk ((by rw [hg]; exact (below_size (by repeat (first | (with_reducible first | exact HB.out | apply below_alloc | apply pw_below_drewN | apply below_drew1 | refine below_set ?_ GE133.out) | exact HB.out))) : w.heap.size ≤ gb134)); have n4_ := Aside0.mk ((by rw [hg]; exact (below_size (by repeat (first | (with_reducible first | exact HB.out | apply below_alloc | apply pw_below_drewN | apply below_drew1 | refine below_set ?_ GE133.out) | exact HB.out))) : w.heap.size ≤ gb134)); have n5_ := Aside0.mk ((by rw [hg]; exact Nat.ne_of_lt (blk_lt (g := gb133) (o := .cells #[.slice A0_0 l0_0.length c0_0, .int .i64 a0_1, .bool a0_2, .bool a0_3, .int .i64 a0_4, .int .i64 a0_5, .int .i64 a0_6, .int .i64 a0_7, .int .i64 a0_8, .slice A0_9 l0_9.length c0_9, .int .i64 a0_10] 36 (0, 0)) (by (with_reducible repeat (first | refine blk_drewN ?_ _ | refine blk_drew ?_ | refine blk_alloc ?_ _)); exact BK133.out)) : gb133 ≠ gb134)); have n6_ := Aside0.mk ((by rw [hg]; exact Nat.ne_of_gt (blk_lt (g := gb133) (o := .cells #[.slice A0_0 l0_0.length c0_0, .int .i64 a0_1, .bool a0_2, .bool a0_3, .int .i64 a0_4, .int .i64 a0_5, .int .i64 a0_6, .int .i64 a0_7, .int .i64 a0_8, .slice A0_9 l0_9.length c0_9, .int .i64 a0_10] 36 (0, 0)) (by (with_reducible repeat (first | refine blk_drewN ?_ _ | refine blk_drew ?_ | refine blk_alloc ?_ _)); exact BK133.out)) : gb134 ≠ gb133)); clear BK133; clear HB; have BK133 := n0_; have HB := n1_; have BK134 := n2_; have GW134 := n3_; have GE134 := n4_; have NB133_134 := n5_; have NB134_133 := n6_; clear n0_ n1_ n2_ n3_ n4_ n5_ n6_; clear hb hbox hg)))
  (try simp only [Act.put, List.setIfInBounds_toArray, List.set_cons_zero, List.set_cons_succ])
  go_cut [84] (fun v84 wc => ∃ (kq : Nat) (x84_2 : Bool), v84 = .bool x84_2 ∧ Aside0 (isthmusref7_EqBody.j0 kq x84_2 l0_0 a0_1 a0_2 a0_3 a0_4 a0_5 a0_6 a0_7 a0_8 l0_9 a0_10 l1_0 a1_1 a1_2 a1_3 a1_4 a1_5 a1_6 a1_7 a1_8 l1_9 a1_10 = some r) ∧ Aside0 (kq ≤ k) ∧ Aside0 (wc.heap[gb133]? = some (.cells #[(.slice A0_0 l0_0.length c0_0), .int .i64 a0_1, .bool a0_2, .bool a0_3, .int .i64 a0_4, .int .i64 a0_5, .int .i64 a0_6, .int .i64 a0_7, .int .i64 a0_8, (.slice A0_9 l0_9.length c0_9), .int .i64 a0_10] 36 (0, 0))) ∧ Aside0 (wc.heap[gb134]? = some (.cells #[(.slice A1_0 l1_0.length c1_0), .int .i64 a1_1, .bool a1_2, .bool a1_3, .int .i64 a1_4, .int .i64 a1_5, .int .i64 a1_6, .int .i64 a1_7, .int .i64 a1_8, (.slice A1_9 l1_9.length c1_9), .int .i64 a1_10] 36 (0, 0))) ∧ Aside0 (Below w.heap.size w wc))
  case first =>
    have H := HC3.out
    clear HC3
    by_cases c6 : (strOfNums l0_0).toList = (strOfNums l1_0).toList
    · rw [if_pos c6] at H
      have c6b0 : ((strOfNums l0_0).toList == (strOfNums l1_0).toList) = true := beq_iff_eq.mpr c6
      have c6b1 : ((strOfNums l0_0).toList != (strOfNums l1_0).toList) = false := bne_eq_false_iff_eq.mpr c6
      clear c6
      (first | rw [c6b0] | (simp only [i64_w, i32_w]; rw [c6b0]) | skip)
      by_cases c7 : a0_1 = a1_1
      · rw [if_pos c7] at H
        have c7b0 : (a0_1 == a1_1) = true := beq_iff_eq.mpr c7
        have c7b1 : (a0_1 != a1_1) = false := bne_eq_false_iff_eq.mpr c7
        clear c7
        by_cases c8 : (a0_2 != a1_2) = true
        · rw [if_pos c8] at H
          have c8b0 : (a0_2 != a1_2) = true := c8
          (try (have c8b1 : decide (a0_2 = a1_2) = false := by simpa using c8))
          (try (have c8b2 : (a0_2 == a1_2) = false := by simpa using c8))
          (try (have c8b3 : ¬ (a0_2 = a1_2) := by simpa using c8))
          clear c8
          have H' := Aside0.mk H
          clear H
          have hnb9 := NB133_134.out
          have hnc9 := NB134_133.out
          have hcz10_0 : w5.cell? ⟨gb133, 0, none⟩ = some (.slice A0_0 l0_0.length c0_0) := (blk_cell BK133.out 0).trans rfl
          have hcz10_1 : w5.cell? ⟨gb133, 1, none⟩ = some (.int .i64 a0_1) := (blk_cell BK133.out 1).trans rfl
          have hcz10_2 : w5.cell? ⟨gb133, 2, none⟩ = some (.bool a0_2) := (blk_cell BK133.out 2).trans rfl
          have hcz10_3 : w5.cell? ⟨gb133, 3, none⟩ = some (.bool a0_3) := (blk_cell BK133.out 3).trans rfl
          have hcz10_4 : w5.cell? ⟨gb133, 4, none⟩ = some (.int .i64 a0_4) := (blk_cell BK133.out 4).trans rfl
          have hcz10_5 : w5.cell? ⟨gb133, 5, none⟩ = some (.int .i64 a0_5) := (blk_cell BK133.out 5).trans rfl
          have hcz10_6 : w5.cell? ⟨gb133, 6, none⟩ = some (.int .i64 a0_6) := (blk_cell BK133.out 6).trans rfl
          have hcz10_7 : w5.cell? ⟨gb133, 7, none⟩ = some (.int .i64 a0_7) := (blk_cell BK133.out 7).trans rfl
          have hcz10_8 : w5.cell? ⟨gb133, 8, none⟩ = some (.int .i64 a0_8) := (blk_cell BK133.out 8).trans rfl
          have hcz10_9 : w5.cell? ⟨gb133, 9, none⟩ = some (.slice A0_9 l0_9.length c0_9) := (blk_cell BK133.out 9).trans rfl
          have hcz10_10 : w5.cell? ⟨gb133, 10, none⟩ = some (.int .i64 a0_10) := (blk_cell BK133.out 10).trans rfl
          have hfz10_0 := blk_frozen BK133.out 0
          have hfz10_1 := blk_frozen BK133.out 1
          have hfz10_2 := blk_frozen BK133.out 2
          have hfz10_3 := blk_frozen BK133.out 3
          have hfz10_4 := blk_frozen BK133.out 4
          have hfz10_5 := blk_frozen BK133.out 5
          have hfz10_6 := blk_frozen BK133.out 6
          have hfz10_7 := blk_frozen BK133.out 7
          have hfz10_8 := blk_frozen BK133.out 8
          have hfz10_9 := blk_frozen BK133.out 9
          have hfz10_10 := blk_frozen BK133.out 10
          have hcv11 := Kd.C_string (P := Try.prog) (A := A0_0) (c := c0_0) Try.underlying22 Try.underlying5 Try.underlying9 (Kd.C_below HR0_0.out HB.out)
          have hcz12_0 : w5.cell? ⟨gb134, 0, none⟩ = some (.slice A1_0 l1_0.length c1_0) := (blk_cell BK134.out 0).trans rfl
          have hcz12_1 : w5.cell? ⟨gb134, 1, none⟩ = some (.int .i64 a1_1) := (blk_cell BK134.out 1).trans rfl
          have hcz12_2 : w5.cell? ⟨gb134, 2, none⟩ = some (.bool a1_2) := (blk_cell BK134.out 2).trans rfl
          have hcz12_3 : w5.cell? ⟨gb134, 3, none⟩ = some (.bool a1_3) := (blk_cell BK134.out 3).trans rfl
          have hcz12_4 : w5.cell? ⟨gb134, 4, none⟩ = some (.int .i64 a1_4) := (blk_cell BK134.out 4).trans rfl
          have hcz12_5 : w5.cell? ⟨gb134, 5, none⟩ = some (.int .i64 a1_5) := (blk_cell BK134.out 5).trans rfl
          have hcz12_6 : w5.cell? ⟨gb134, 6, none⟩ = some (.int .i64 a1_6) := (blk_cell BK134.out 6).trans rfl
          have hcz12_7 : w5.cell? ⟨gb134, 7, none⟩ = some (.int .i64 a1_7) := (blk_cell BK134.out 7).trans rfl
          have hcz12_8 : w5.cell? ⟨gb134, 8, none⟩ = some (.int .i64 a1_8) := (blk_cell BK134.out 8).trans rfl
          have hcz12_9 : w5.cell? ⟨gb134, 9, none⟩ = some (.slice A1_9 l1_9.length c1_9) := (blk_cell BK134.out 9).trans rfl
          have hcz12_10 : w5.cell? ⟨gb134, 10, none⟩ = some (.int .i64 a1_10) := (blk_cell BK134.out 10).trans rfl
          have hfz12_0 := blk_frozen BK134.out 0
          have hfz12_1 := blk_frozen BK134.out 1
          have hfz12_2 := blk_frozen BK134.out 2
          have hfz12_3 := blk_frozen BK134.out 3
          have hfz12_4 := blk_frozen BK134.out 4
          have hfz12_5 := blk_frozen BK134.out 5
          have hfz12_6 := blk_frozen BK134.out 6
          have hfz12_7 := blk_frozen BK134.out 7
          have hfz12_8 := blk_frozen BK134.out 8
          have hfz12_9 := blk_frozen BK134.out 9
          have hfz12_10 := blk_frozen BK134.out 10
          have hcv13 := Kd.C_string (P := Try.prog) (A := A1_0) (c := c1_0) Try.underlying22 Try.underlying5 Try.underlying9 (Kd.C_below HR1_0.out HB.out)
          go_wp2
          repeat (go_quiet (fail); try go_wp2)
          go_meet
          case rel => exact ⟨_, (true), (by first | rfl | (simp; done) | (simp [*]; done)), H', ⟨by first | omega | exact Nat.le_refl _⟩, ⟨by (with_reducible repeat (first | refine blk_drewN ?_ _ | refine blk_drew ?_ | refine blk_alloc ?_ _)); exact BK133.out⟩, ⟨by (with_reducible repeat (first | refine blk_drewN ?_ _ | refine blk_drew ?_ | refine blk_alloc ?_ _)); exact BK134.out⟩, ⟨by repeat (first | (with_reducible first | exact HB.out | apply below_alloc | apply pw_below_drewN | apply below_drew1 | refine below_set ?_ GE133.out | refine below_set ?_ GE134.out) | exact HB.out)⟩⟩
        · rw [if_neg c8] at H
          have c8b0 : (a0_2 != a1_2) = false := by simpa using c8
          (try (have c8b1 : decide (a0_2 = a1_2) = true := by simpa using c8))
          (try (have c8b2 : (a0_2 == a1_2) = true := by simpa using c8))
          clear c8
          by_cases c14 : (a0_3 != a1_3) = true
          · rw [if_pos c14] at H
            have c14b0 : (a0_3 != a1_3) = true := c14
            (try (have c14b1 : decide (a0_3 = a1_3) = false := by simpa using c14))
            (try (have c14b2 : (a0_3 == a1_3) = false := by simpa using c14))
            (try (have c14b3 : ¬ (a0_3 = a1_3) := by simpa using c14))
            clear c14
            have H' := Aside0.mk H
            clear H
            have hnb15 := NB133_134.out
            have hnc15 := NB134_133.out
            have hcz16_0 : w5.cell? ⟨gb133, 0, none⟩ = some (.slice A0_0 l0_0.length c0_0) := (blk_cell BK133.out 0).trans rfl
            have hcz16_1 : w5.cell? ⟨gb133, 1, none⟩ = some (.int .i64 a0_1) := (blk_cell BK133.out 1).trans rfl
            have hcz16_2 : w5.cell? ⟨gb133, 2, none⟩ = some (.bool a0_2) := (blk_cell BK133.out 2).trans rfl
            have hcz16_3 : w5.cell? ⟨gb133, 3, none⟩ = some (.bool a0_3) := (blk_cell BK133.out 3).trans rfl
            have hcz16_4 : w5.cell? ⟨gb133, 4, none⟩ = some (.int .i64 a0_4) := (blk_cell BK133.out 4).trans rfl
            have hcz16_5 : w5.cell? ⟨gb133, 5, none⟩ = some (.int .i64 a0_5) := (blk_cell BK133.out 5).trans rfl
            have hcz16_6 : w5.cell? ⟨gb133, 6, none⟩ = some (.int .i64 a0_6) := (blk_cell BK133.out 6).trans rfl
            have hcz16_7 : w5.cell? ⟨gb133, 7, none⟩ = some (.int .i64 a0_7) := (blk_cell BK133.out 7).trans rfl
            have hcz16_8 : w5.cell? ⟨gb133, 8, none⟩ = some (.int .i64 a0_8) := (blk_cell BK133.out 8).trans rfl
            have hcz16_9 : w5.cell? ⟨gb133, 9, none⟩ = some (.slice A0_9 l0_9.length c0_9) := (blk_cell BK133.out 9).trans rfl
            have hcz16_10 : w5.cell? ⟨gb133, 10, none⟩ = some (.int .i64 a0_10) := (blk_cell BK133.out 10).trans rfl
            have hfz16_0 := blk_frozen BK133.out 0
            have hfz16_1 := blk_frozen BK133.out 1
            have hfz16_2 := blk_frozen BK133.out 2
            have hfz16_3 := blk_frozen BK133.out 3
            have hfz16_4 := blk_frozen BK133.out 4
            have hfz16_5 := blk_frozen BK133.out 5
            have hfz16_6 := blk_frozen BK133.out 6
            have hfz16_7 := blk_frozen BK133.out 7
            have hfz16_8 := blk_frozen BK133.out 8
            have hfz16_9 := blk_frozen BK133.out 9
            have hfz16_10 := blk_frozen BK133.out 10
            have hcv17 := Kd.C_string (P := Try.prog) (A := A0_0) (c := c0_0) Try.underlying22 Try.underlying5 Try.underlying9 (Kd.C_below HR0_0.out HB.out)
            have hcz18_0 : w5.cell? ⟨gb134, 0, none⟩ = some (.slice A1_0 l1_0.length c1_0) := (blk_cell BK134.out 0).trans rfl
            have hcz18_1 : w5.cell? ⟨gb134, 1, none⟩ = some (.int .i64 a1_1) := (blk_cell BK134.out 1).trans rfl
            have hcz18_2 : w5.cell? ⟨gb134, 2, none⟩ = some (.bool a1_2) := (blk_cell BK134.out 2).trans rfl
            have hcz18_3 : w5.cell? ⟨gb134, 3, none⟩ = some (.bool a1_3) := (blk_cell BK134.out 3).trans rfl
            have hcz18_4 : w5.cell? ⟨gb134, 4, none⟩ = some (.int .i64 a1_4) := (blk_cell BK134.out 4).trans rfl
            have hcz18_5 : w5.cell? ⟨gb134, 5, none⟩ = some (.int .i64 a1_5) := (blk_cell BK134.out 5).trans rfl
            have hcz18_6 : w5.cell? ⟨gb134, 6, none⟩ = some (.int .i64 a1_6) := (blk_cell BK134.out 6).trans rfl
            have hcz18_7 : w5.cell? ⟨gb134, 7, none⟩ = some (.int .i64 a1_7) := (blk_cell BK134.out 7).trans rfl
            have hcz18_8 : w5.cell? ⟨gb134, 8, none⟩ = some (.int .i64 a1_8) := (blk_cell BK134.out 8).trans rfl
            have hcz18_9 : w5.cell? ⟨gb134, 9, none⟩ = some (.slice A1_9 l1_9.length c1_9) := (blk_cell BK134.out 9).trans rfl
            have hcz18_10 : w5.cell? ⟨gb134, 10, none⟩ = some (.int .i64 a1_10) := (blk_cell BK134.out 10).trans rfl
            have hfz18_0 := blk_frozen BK134.out 0
            have hfz18_1 := blk_frozen BK134.out 1
            have hfz18_2 := blk_frozen BK134.out 2
            have hfz18_3 := blk_frozen BK134.out 3
            have hfz18_4 := blk_frozen BK134.out 4
            have hfz18_5 := blk_frozen BK134.out 5
            have hfz18_6 := blk_frozen BK134.out 6
            have hfz18_7 := blk_frozen BK134.out 7
            have hfz18_8 := blk_frozen BK134.out 8
            have hfz18_9 := blk_frozen BK134.out 9
            have hfz18_10 := blk_frozen BK134.out 10
            have hcv19 := Kd.C_string (P := Try.prog) (A := A1_0) (c := c1_0) Try.underlying22 Try.underlying5 Try.underlying9 (Kd.C_below HR1_0.out HB.out)
            go_wp2
            repeat (go_quiet (fail); try go_wp2)
            go_meet
            case rel => exact ⟨_, (true), (by first | rfl | (simp; done) | (simp [*]; done)), H', ⟨by first | omega | exact Nat.le_refl _⟩, ⟨by (with_reducible repeat (first | refine blk_drewN ?_ _ | refine blk_drew ?_ | refine blk_alloc ?_ _)); exact BK133.out⟩, ⟨by (with_reducible repeat (first | refine blk_drewN ?_ _ | refine blk_drew ?_ | refine blk_alloc ?_ _)); exact BK134.out⟩, ⟨by repeat (first | (with_reducible first | exact HB.out | apply below_alloc | apply pw_below_drewN | apply below_drew1 | refine below_set ?_ GE133.out | refine below_set ?_ GE134.out) | exact HB.out)⟩⟩
          · rw [if_neg c14] at H
            have c14b0 : (a0_3 != a1_3) = false := by simpa using c14
            (try (have c14b1 : decide (a0_3 = a1_3) = true := by simpa using c14))
            (try (have c14b2 : (a0_3 == a1_3) = true := by simpa using c14))
            clear c14
            by_cases c20 : a0_4 = a1_4
            · rw [if_pos c20] at H
              have c20b0 : (a0_4 == a1_4) = true := beq_iff_eq.mpr c20
              have c20b1 : (a0_4 != a1_4) = false := bne_eq_false_iff_eq.mpr c20
              clear c20
              by_cases c21 : a0_5 = a1_5
              · rw [if_pos c21] at H
                have c21b0 : (a0_5 == a1_5) = true := beq_iff_eq.mpr c21
                have c21b1 : (a0_5 != a1_5) = false := bne_eq_false_iff_eq.mpr c21
                clear c21
                by_cases c22 : a0_6 = a1_6
                · rw [if_pos c22] at H
                  have c22b0 : (a0_6 == a1_6) = true := beq_iff_eq.mpr c22
                  have c22b1 : (a0_6 != a1_6) = false := bne_eq_false_iff_eq.mpr c22
                  clear c22
                  by_cases c23 : a0_7 = a1_7
                  · rw [if_pos c23] at H
                    have c23b0 : (a0_7 == a1_7) = true := beq_iff_eq.mpr c23
                    have c23b1 : (a0_7 != a1_7) = false := bne_eq_false_iff_eq.mpr c23
                    clear c23
                    by_cases c24 : a0_8 = a1_8
                    · rw [if_pos c24] at H
                      have c24b0 : (a0_8 == a1_8) = true := beq_iff_eq.mpr c24
                      have c24b1 : (a0_8 != a1_8) = false := bne_eq_false_iff_eq.mpr c24
                      clear c24
                      by_cases c25 : a0_10 = a1_10
                      · rw [if_pos c25] at H
                        have c25b0 : (a0_10 == a1_10) = true := beq_iff_eq.mpr c25
                        have c25b1 : (a0_10 != a1_10) = false := bne_eq_false_iff_eq.mpr c25
                        clear c25
                        have H' := Aside0.mk H
                        clear H
                        have hnb26 := NB133_134.out
                        have hnc26 := NB134_133.out
                        have hcz27_0 : w5.cell? ⟨gb133, 0, none⟩ = some (.slice A0_0 l0_0.length c0_0) := (blk_cell BK133.out 0).trans rfl
                        have hcz27_1 : w5.cell? ⟨gb133, 1, none⟩ = some (.int .i64 a0_1) := (blk_cell BK133.out 1).trans rfl
                        have hcz27_2 : w5.cell? ⟨gb133, 2, none⟩ = some (.bool a0_2) := (blk_cell BK133.out 2).trans rfl
                        have hcz27_3 : w5.cell? ⟨gb133, 3, none⟩ = some (.bool a0_3) := (blk_cell BK133.out 3).trans rfl
                        have hcz27_4 : w5.cell? ⟨gb133, 4, none⟩ = some (.int .i64 a0_4) := (blk_cell BK133.out 4).trans rfl
                        have hcz27_5 : w5.cell? ⟨gb133, 5, none⟩ = some (.int .i64 a0_5) := (blk_cell BK133.out 5).trans rfl
                        have hcz27_6 : w5.cell? ⟨gb133, 6, none⟩ = some (.int .i64 a0_6) := (blk_cell BK133.out 6).trans rfl
                        have hcz27_7 : w5.cell? ⟨gb133, 7, none⟩ = some (.int .i64 a0_7) := (blk_cell BK133.out 7).trans rfl
                        have hcz27_8 : w5.cell? ⟨gb133, 8, none⟩ = some (.int .i64 a0_8) := (blk_cell BK133.out 8).trans rfl
                        have hcz27_9 : w5.cell? ⟨gb133, 9, none⟩ = some (.slice A0_9 l0_9.length c0_9) := (blk_cell BK133.out 9).trans rfl
                        have hcz27_10 : w5.cell? ⟨gb133, 10, none⟩ = some (.int .i64 a0_10) := (blk_cell BK133.out 10).trans rfl
                        have hfz27_0 := blk_frozen BK133.out 0
                        have hfz27_1 := blk_frozen BK133.out 1
                        have hfz27_2 := blk_frozen BK133.out 2
                        have hfz27_3 := blk_frozen BK133.out 3
                        have hfz27_4 := blk_frozen BK133.out 4
                        have hfz27_5 := blk_frozen BK133.out 5
                        have hfz27_6 := blk_frozen BK133.out 6
                        have hfz27_7 := blk_frozen BK133.out 7
                        have hfz27_8 := blk_frozen BK133.out 8
                        have hfz27_9 := blk_frozen BK133.out 9
                        have hfz27_10 := blk_frozen BK133.out 10
                        have hcv28 := Kd.C_string (P := Try.prog) (A := A0_0) (c := c0_0) Try.underlying22 Try.underlying5 Try.underlying9 (Kd.C_below HR0_0.out HB.out)
                        have hcz29_0 : w5.cell? ⟨gb134, 0, none⟩ = some (.slice A1_0 l1_0.length c1_0) := (blk_cell BK134.out 0).trans rfl
                        have hcz29_1 : w5.cell? ⟨gb134, 1, none⟩ = some (.int .i64 a1_1) := (blk_cell BK134.out 1).trans rfl
                        have hcz29_2 : w5.cell? ⟨gb134, 2, none⟩ = some (.bool a1_2) := (blk_cell BK134.out 2).trans rfl
                        have hcz29_3 : w5.cell? ⟨gb134, 3, none⟩ = some (.bool a1_3) := (blk_cell BK134.out 3).trans rfl
                        have hcz29_4 : w5.cell? ⟨gb134, 4, none⟩ = some (.int .i64 a1_4) := (blk_cell BK134.out 4).trans rfl
                        have hcz29_5 : w5.cell? ⟨gb134, 5, none⟩ = some (.int .i64 a1_5) := (blk_cell BK134.out 5).trans rfl
                        have hcz29_6 : w5.cell? ⟨gb134, 6, none⟩ = some (.int .i64 a1_6) := (blk_cell BK134.out 6).trans rfl
                        have hcz29_7 : w5.cell? ⟨gb134, 7, none⟩ = some (.int .i64 a1_7) := (blk_cell BK134.out 7).trans rfl
                        have hcz29_8 : w5.cell? ⟨gb134, 8, none⟩ = some (.int .i64 a1_8) := (blk_cell BK134.out 8).trans rfl
                        have hcz29_9 : w5.cell? ⟨gb134, 9, none⟩ = some (.slice A1_9 l1_9.length c1_9) := (blk_cell BK134.out 9).trans rfl
                        have hcz29_10 : w5.cell? ⟨gb134, 10, none⟩ = some (.int .i64 a1_10) := (blk_cell BK134.out 10).trans rfl
                        have hfz29_0 := blk_frozen BK134.out 0
                        have hfz29_1 := blk_frozen BK134.out 1
                        have hfz29_2 := blk_frozen BK134.out 2
                        have hfz29_3 := blk_frozen BK134.out 3
                        have hfz29_4 := blk_frozen BK134.out 4
                        have hfz29_5 := blk_frozen BK134.out 5
                        have hfz29_6 := blk_frozen BK134.out 6
                        have hfz29_7 := blk_frozen BK134.out 7
                        have hfz29_8 := blk_frozen BK134.out 8
                        have hfz29_9 := blk_frozen BK134.out 9
                        have hfz29_10 := blk_frozen BK134.out 10
                        have hcv30 := Kd.C_string (P := Try.prog) (A := A1_0) (c := c1_0) Try.underlying22 Try.underlying5 Try.underlying9 (Kd.C_below HR1_0.out HB.out)
                        go_wp2
                        repeat (go_quiet (fail); try go_wp2)
                        go_meet
                        case rel => exact ⟨_, (((l0_9.length : Int) != (l1_9.length : Int))), (by first | rfl | (simp; done) | (simp [*]; done)), H', ⟨by first | omega | exact Nat.le_refl _⟩, ⟨by (with_reducible repeat (first | refine blk_drewN ?_ _ | refine blk_drew ?_ | refine blk_alloc ?_ _)); exact BK133.out⟩, ⟨by (with_reducible repeat (first | refine blk_drewN ?_ _ | refine blk_drew ?_ | refine blk_alloc ?_ _)); exact BK134.out⟩, ⟨by repeat (first | (with_reducible first | exact HB.out | apply below_alloc | apply pw_below_drewN | apply below_drew1 | refine below_set ?_ GE133.out | refine below_set ?_ GE134.out) | exact HB.out)⟩⟩
                      · rw [if_neg c25] at H
                        have c25b0 : (a0_10 == a1_10) = false := beq_eq_false_iff_ne.mpr c25
                        have c25b1 : (a0_10 != a1_10) = true := bne_iff_ne.mpr c25
                        have H' := Aside0.mk H
                        clear H
                        have hnb31 := NB133_134.out
                        have hnc31 := NB134_133.out
                        have hcz32_0 : w5.cell? ⟨gb133, 0, none⟩ = some (.slice A0_0 l0_0.length c0_0) := (blk_cell BK133.out 0).trans rfl
                        have hcz32_1 : w5.cell? ⟨gb133, 1, none⟩ = some (.int .i64 a0_1) := (blk_cell BK133.out 1).trans rfl
                        have hcz32_2 : w5.cell? ⟨gb133, 2, none⟩ = some (.bool a0_2) := (blk_cell BK133.out 2).trans rfl
                        have hcz32_3 : w5.cell? ⟨gb133, 3, none⟩ = some (.bool a0_3) := (blk_cell BK133.out 3).trans rfl
                        have hcz32_4 : w5.cell? ⟨gb133, 4, none⟩ = some (.int .i64 a0_4) := (blk_cell BK133.out 4).trans rfl
                        have hcz32_5 : w5.cell? ⟨gb133, 5, none⟩ = some (.int .i64 a0_5) := (blk_cell BK133.out 5).trans rfl
                        have hcz32_6 : w5.cell? ⟨gb133, 6, none⟩ = some (.int .i64 a0_6) := (blk_cell BK133.out 6).trans rfl
                        have hcz32_7 : w5.cell? ⟨gb133, 7, none⟩ = some (.int .i64 a0_7) := (blk_cell BK133.out 7).trans rfl
                        have hcz32_8 : w5.cell? ⟨gb133, 8, none⟩ = some (.int .i64 a0_8) := (blk_cell BK133.out 8).trans rfl
                        have hcz32_9 : w5.cell? ⟨gb133, 9, none⟩ = some (.slice A0_9 l0_9.length c0_9) := (blk_cell BK133.out 9).trans rfl
                        have hcz32_10 : w5.cell? ⟨gb133, 10, none⟩ = some (.int .i64 a0_10) := (blk_cell BK133.out 10).trans rfl
                        have hfz32_0 := blk_frozen BK133.out 0
                        have hfz32_1 := blk_frozen BK133.out 1
                        have hfz32_2 := blk_frozen BK133.out 2
                        have hfz32_3 := blk_frozen BK133.out 3
                        have hfz32_4 := blk_frozen BK133.out 4
                        have hfz32_5 := blk_frozen BK133.out 5
                        have hfz32_6 := blk_frozen BK133.out 6
                        have hfz32_7 := blk_frozen BK133.out 7
                        have hfz32_8 := blk_frozen BK133.out 8
                        have hfz32_9 := blk_frozen BK133.out 9
                        have hfz32_10 := blk_frozen BK133.out 10
                        have hcv33 := Kd.C_string (P := Try.prog) (A := A0_0) (c := c0_0) Try.underlying22 Try.underlying5 Try.underlying9 (Kd.C_below HR0_0.out HB.out)
                        have hcz34_0 : w5.cell? ⟨gb134, 0, none⟩ = some (.slice A1_0 l1_0.length c1_0) := (blk_cell BK134.out 0).trans rfl
                        have hcz34_1 : w5.cell? ⟨gb134, 1, none⟩ = some (.int .i64 a1_1) := (blk_cell BK134.out 1).trans rfl
                        have hcz34_2 : w5.cell? ⟨gb134, 2, none⟩ = some (.bool a1_2) := (blk_cell BK134.out 2).trans rfl
                        have hcz34_3 : w5.cell? ⟨gb134, 3, none⟩ = some (.bool a1_3) := (blk_cell BK134.out 3).trans rfl
                        have hcz34_4 : w5.cell? ⟨gb134, 4, none⟩ = some (.int .i64 a1_4) := (blk_cell BK134.out 4).trans rfl
                        have hcz34_5 : w5.cell? ⟨gb134, 5, none⟩ = some (.int .i64 a1_5) := (blk_cell BK134.out 5).trans rfl
                        have hcz34_6 : w5.cell? ⟨gb134, 6, none⟩ = some (.int .i64 a1_6) := (blk_cell BK134.out 6).trans rfl
                        have hcz34_7 : w5.cell? ⟨gb134, 7, none⟩ = some (.int .i64 a1_7) := (blk_cell BK134.out 7).trans rfl
                        have hcz34_8 : w5.cell? ⟨gb134, 8, none⟩ = some (.int .i64 a1_8) := (blk_cell BK134.out 8).trans rfl
                        have hcz34_9 : w5.cell? ⟨gb134, 9, none⟩ = some (.slice A1_9 l1_9.length c1_9) := (blk_cell BK134.out 9).trans rfl
                        have hcz34_10 : w5.cell? ⟨gb134, 10, none⟩ = some (.int .i64 a1_10) := (blk_cell BK134.out 10).trans rfl
                        have hfz34_0 := blk_frozen BK134.out 0
                        have hfz34_1 := blk_frozen BK134.out 1
                        have hfz34_2 := blk_frozen BK134.out 2
                        have hfz34_3 := blk_frozen BK134.out 3
                        have hfz34_4 := blk_frozen BK134.out 4
                        have hfz34_5 := blk_frozen BK134.out 5
                        have hfz34_6 := blk_frozen BK134.out 6
                        have hfz34_7 := blk_frozen BK134.out 7
                        have hfz34_8 := blk_frozen BK134.out 8
                        have hfz34_9 := blk_frozen BK134.out 9
                        have hfz34_10 := blk_frozen BK134.out 10
                        have hcv35 := Kd.C_string (P := Try.prog) (A := A1_0) (c := c1_0) Try.underlying22 Try.underlying5 Try.underlying9 (Kd.C_below HR1_0.out HB.out)
                        go_wp2
                        repeat (go_quiet (fail); try go_wp2)
                        go_meet
                        case rel => exact ⟨_, (true), (by first | rfl | (simp; done) | (simp [*]; done)), H', ⟨by first | omega | exact Nat.le_refl _⟩, ⟨by (with_reducible repeat (first | refine blk_drewN ?_ _ | refine blk_drew ?_ | refine blk_alloc ?_ _)); exact BK133.out⟩, ⟨by (with_reducible repeat (first | refine blk_drewN ?_ _ | refine blk_drew ?_ | refine blk_alloc ?_ _)); exact BK134.out⟩, ⟨by repeat (first | (with_reducible first | exact HB.out | apply below_alloc | apply pw_below_drewN | apply below_drew1 | refine below_set ?_ GE133.out | refine below_set ?_ GE134.out) | exact HB.out)⟩⟩
                    · rw [if_neg c24] at H
                      have c24b0 : (a0_8 == a1_8) = false := beq_eq_false_iff_ne.mpr c24
                      have c24b1 : (a0_8 != a1_8) = true := bne_iff_ne.mpr c24
                      have H' := Aside0.mk H
                      clear H
                      have hnb36 := NB133_134.out
                      have hnc36 := NB134_133.out
                      have hcz37_0 : w5.cell? ⟨gb133, 0, none⟩ = some (.slice A0_0 l0_0.length c0_0) := (blk_cell BK133.out 0).trans rfl
                      have hcz37_1 : w5.cell? ⟨gb133, 1, none⟩ = some (.int .i64 a0_1) := (blk_cell BK133.out 1).trans rfl
                      have hcz37_2 : w5.cell? ⟨gb133, 2, none⟩ = some (.bool a0_2) := (blk_cell BK133.out 2).trans rfl
                      have hcz37_3 : w5.cell? ⟨gb133, 3, none⟩ = some (.bool a0_3) := (blk_cell BK133.out 3).trans rfl
                      have hcz37_4 : w5.cell? ⟨gb133, 4, none⟩ = some (.int .i64 a0_4) := (blk_cell BK133.out 4).trans rfl
                      have hcz37_5 : w5.cell? ⟨gb133, 5, none⟩ = some (.int .i64 a0_5) := (blk_cell BK133.out 5).trans rfl
                      have hcz37_6 : w5.cell? ⟨gb133, 6, none⟩ = some (.int .i64 a0_6) := (blk_cell BK133.out 6).trans rfl
                      have hcz37_7 : w5.cell? ⟨gb133, 7, none⟩ = some (.int .i64 a0_7) := (blk_cell BK133.out 7).trans rfl
                      have hcz37_8 : w5.cell? ⟨gb133, 8, none⟩ = some (.int .i64 a0_8) := (blk_cell BK133.out 8).trans rfl
                      have hcz37_9 : w5.cell? ⟨gb133, 9, none⟩ = some (.slice A0_9 l0_9.length c0_9) := (blk_cell BK133.out 9).trans rfl
                      have hcz37_10 : w5.cell? ⟨gb133, 10, none⟩ = some (.int .i64 a0_10) := (blk_cell BK133.out 10).trans rfl
                      have hfz37_0 := blk_frozen BK133.out 0
                      have hfz37_1 := blk_frozen BK133.out 1
                      have hfz37_2 := blk_frozen BK133.out 2
                      have hfz37_3 := blk_frozen BK133.out 3
                      have hfz37_4 := blk_frozen BK133.out 4
                      have hfz37_5 := blk_frozen BK133.out 5
                      have hfz37_6 := blk_frozen BK133.out 6
                      have hfz37_7 := blk_frozen BK133.out 7
                      have hfz37_8 := blk_frozen BK133.out 8
                      have hfz37_9 := blk_frozen BK133.out 9
                      have hfz37_10 := blk_frozen BK133.out 10
                      have hcv38 := Kd.C_string (P := Try.prog) (A := A0_0) (c := c0_0) Try.underlying22 Try.underlying5 Try.underlying9 (Kd.C_below HR0_0.out HB.out)
                      have hcz39_0 : w5.cell? ⟨gb134, 0, none⟩ = some (.slice A1_0 l1_0.length c1_0) := (blk_cell BK134.out 0).trans rfl
                      have hcz39_1 : w5.cell? ⟨gb134, 1, none⟩ = some (.int .i64 a1_1) := (blk_cell BK134.out 1).trans rfl
                      have hcz39_2 : w5.cell? ⟨gb134, 2, none⟩ = some (.bool a1_2) := (blk_cell BK134.out 2).trans rfl
                      have hcz39_3 : w5.cell? ⟨gb134, 3, none⟩ = some (.bool a1_3) := (blk_cell BK134.out 3).trans rfl
                      have hcz39_4 : w5.cell? ⟨gb134, 4, none⟩ = some (.int .i64 a1_4) := (blk_cell BK134.out 4).trans rfl
                      have hcz39_5 : w5.cell? ⟨gb134, 5, none⟩ = some (.int .i64 a1_5) := (blk_cell BK134.out 5).trans rfl
                      have hcz39_6 : w5.cell? ⟨gb134, 6, none⟩ = some (.int .i64 a1_6) := (blk_cell BK134.out 6).trans rfl
                      have hcz39_7 : w5.cell? ⟨gb134, 7, none⟩ = some (.int .i64 a1_7) := (blk_cell BK134.out 7).trans rfl
                      have hcz39_8 : w5.cell? ⟨gb134, 8, none⟩ = some (.int .i64 a1_8) := (blk_cell BK134.out 8).trans rfl
                      have hcz39_9 : w5.cell? ⟨gb134, 9, none⟩ = some (.slice A1_9 l1_9.length c1_9) := (blk_cell BK134.out 9).trans rfl
                      have hcz39_10 : w5.cell? ⟨gb134, 10, none⟩ = some (.int .i64 a1_10) := (blk_cell BK134.out 10).trans rfl
                      have hfz39_0 := blk_frozen BK134.out 0
                      have hfz39_1 := blk_frozen BK134.out 1
                      have hfz39_2 := blk_frozen BK134.out 2
                      have hfz39_3 := blk_frozen BK134.out 3
                      have hfz39_4 := blk_frozen BK134.out 4
                      have hfz39_5 := blk_frozen BK134.out 5
                      have hfz39_6 := blk_frozen BK134.out 6
                      have hfz39_7 := blk_frozen BK134.out 7
                      have hfz39_8 := blk_frozen BK134.out 8
                      have hfz39_9 := blk_frozen BK134.out 9
                      have hfz39_10 := blk_frozen BK134.out 10
                      have hcv40 := Kd.C_string (P := Try.prog) (A := A1_0) (c := c1_0) Try.underlying22 Try.underlying5 Try.underlying9 (Kd.C_below HR1_0.out HB.out)
                      go_wp2
                      repeat (go_quiet (fail); try go_wp2)
                      go_meet
                      case rel => exact ⟨_, (true), (by first | rfl | (simp; done) | (simp [*]; done)), H', ⟨by first | omega | exact Nat.le_refl _⟩, ⟨by (with_reducible repeat (first | refine blk_drewN ?_ _ | refine blk_drew ?_ | refine blk_alloc ?_ _)); exact BK133.out⟩, ⟨by (with_reducible repeat (first | refine blk_drewN ?_ _ | refine blk_drew ?_ | refine blk_alloc ?_ _)); exact BK134.out⟩, ⟨by repeat (first | (with_reducible first | exact HB.out | apply below_alloc | apply pw_below_drewN | apply below_drew1 | refine below_set ?_ GE133.out | refine below_set ?_ GE134.out) | exact HB.out)⟩⟩
                  · rw [if_neg c23] at H
                    have c23b0 : (a0_7 == a1_7) = false := beq_eq_false_iff_ne.mpr c23
                    have c23b1 : (a0_7 != a1_7) = true := bne_iff_ne.mpr c23
                    have H' := Aside0.mk H
                    clear H
                    have hnb41 := NB133_134.out
                    have hnc41 := NB134_133.out
                    have hcz42_0 : w5.cell? ⟨gb133, 0, none⟩ = some (.slice A0_0 l0_0.length c0_0) := (blk_cell BK133.out 0).trans rfl
                    have hcz42_1 : w5.cell? ⟨gb133, 1, none⟩ = some (.int .i64 a0_1) := (blk_cell BK133.out 1).trans rfl
                    have hcz42_2 : w5.cell? ⟨gb133, 2, none⟩ = some (.bool a0_2) := (blk_cell BK133.out 2).trans rfl
                    have hcz42_3 : w5.cell? ⟨gb133, 3, none⟩ = some (.bool a0_3) := (blk_cell BK133.out 3).trans rfl
                    have hcz42_4 : w5.cell? ⟨gb133, 4, none⟩ = some (.int .i64 a0_4) := (blk_cell BK133.out 4).trans rfl
                    have hcz42_5 : w5.cell? ⟨gb133, 5, none⟩ = some (.int .i64 a0_5) := (blk_cell BK133.out 5).trans rfl
                    have hcz42_6 : w5.cell? ⟨gb133, 6, none⟩ = some (.int .i64 a0_6) := (blk_cell BK133.out 6).trans rfl
                    have hcz42_7 : w5.cell? ⟨gb133, 7, none⟩ = some (.int .i64 a0_7) := (blk_cell BK133.out 7).trans rfl
                    have hcz42_8 : w5.cell? ⟨gb133, 8, none⟩ = some (.int .i64 a0_8) := (blk_cell BK133.out 8).trans rfl
                    have hcz42_9 : w5.cell? ⟨gb133, 9, none⟩ = some (.slice A0_9 l0_9.length c0_9) := (blk_cell BK133.out 9).trans rfl
                    have hcz42_10 : w5.cell? ⟨gb133, 10, none⟩ = some (.int .i64 a0_10) := (blk_cell BK133.out 10).trans rfl
                    have hfz42_0 := blk_frozen BK133.out 0
                    have hfz42_1 := blk_frozen BK133.out 1
                    have hfz42_2 := blk_frozen BK133.out 2
                    have hfz42_3 := blk_frozen BK133.out 3
                    have hfz42_4 := blk_frozen BK133.out 4
                    have hfz42_5 := blk_frozen BK133.out 5
                    have hfz42_6 := blk_frozen BK133.out 6
                    have hfz42_7 := blk_frozen BK133.out 7
                    have hfz42_8 := blk_frozen BK133.out 8
                    have hfz42_9 := blk_frozen BK133.out 9
                    have hfz42_10 := blk_frozen BK133.out 10
                    have hcv43 := Kd.C_string (P := Try.prog) (A := A0_0) (c := c0_0) Try.underlying22 Try.underlying5 Try.underlying9 (Kd.C_below HR0_0.out HB.out)
                    have hcz44_0 : w5.cell? ⟨gb134, 0, none⟩ = some (.slice A1_0 l1_0.length c1_0) := (blk_cell BK134.out 0).trans rfl
                    have hcz44_1 : w5.cell? ⟨gb134, 1, none⟩ = some (.int .i64 a1_1) := (blk_cell BK134.out 1).trans rfl
                    have hcz44_2 : w5.cell? ⟨gb134, 2, none⟩ = some (.bool a1_2) := (blk_cell BK134.out 2).trans rfl
                    have hcz44_3 : w5.cell? ⟨gb134, 3, none⟩ = some (.bool a1_3) := (blk_cell BK134.out 3).trans rfl
                    have hcz44_4 : w5.cell? ⟨gb134, 4, none⟩ = some (.int .i64 a1_4) := (blk_cell BK134.out 4).trans rfl
                    have hcz44_5 : w5.cell? ⟨gb134, 5, none⟩ = some (.int .i64 a1_5) := (blk_cell BK134.out 5).trans rfl
                    have hcz44_6 : w5.cell? ⟨gb134, 6, none⟩ = some (.int .i64 a1_6) := (blk_cell BK134.out 6).trans rfl
                    have hcz44_7 : w5.cell? ⟨gb134, 7, none⟩ = some (.int .i64 a1_7) := (blk_cell BK134.out 7).trans rfl
                    have hcz44_8 : w5.cell? ⟨gb134, 8, none⟩ = some (.int .i64 a1_8) := (blk_cell BK134.out 8).trans rfl
                    have hcz44_9 : w5.cell? ⟨gb134, 9, none⟩ = some (.slice A1_9 l1_9.length c1_9) := (blk_cell BK134.out 9).trans rfl
                    have hcz44_10 : w5.cell? ⟨gb134, 10, none⟩ = some (.int .i64 a1_10) := (blk_cell BK134.out 10).trans rfl
                    have hfz44_0 := blk_frozen BK134.out 0
                    have hfz44_1 := blk_frozen BK134.out 1
                    have hfz44_2 := blk_frozen BK134.out 2
                    have hfz44_3 := blk_frozen BK134.out 3
                    have hfz44_4 := blk_frozen BK134.out 4
                    have hfz44_5 := blk_frozen BK134.out 5
                    have hfz44_6 := blk_frozen BK134.out 6
                    have hfz44_7 := blk_frozen BK134.out 7
                    have hfz44_8 := blk_frozen BK134.out 8
                    have hfz44_9 := blk_frozen BK134.out 9
                    have hfz44_10 := blk_frozen BK134.out 10
                    have hcv45 := Kd.C_string (P := Try.prog) (A := A1_0) (c := c1_0) Try.underlying22 Try.underlying5 Try.underlying9 (Kd.C_below HR1_0.out HB.out)
                    go_wp2
                    repeat (go_quiet (fail); try go_wp2)
                    go_meet
                    case rel => exact ⟨_, (true), (by first | rfl | (simp; done) | (simp [*]; done)), H', ⟨by first | omega | exact Nat.le_refl _⟩, ⟨by (with_reducible repeat (first | refine blk_drewN ?_ _ | refine blk_drew ?_ | refine blk_alloc ?_ _)); exact BK133.out⟩, ⟨by (with_reducible repeat (first | refine blk_drewN ?_ _ | refine blk_drew ?_ | refine blk_alloc ?_ _)); exact BK134.out⟩, ⟨by repeat (first | (with_reducible first | exact HB.out | apply below_alloc | apply pw_below_drewN | apply below_drew1 | refine below_set ?_ GE133.out | refine below_set ?_ GE134.out) | exact HB.out)⟩⟩
                · rw [if_neg c22] at H
                  have c22b0 : (a0_6 == a1_6) = false := beq_eq_false_iff_ne.mpr c22
                  have c22b1 : (a0_6 != a1_6) = true := bne_iff_ne.mpr c22
                  have H' := Aside0.mk H
                  clear H
                  have hnb46 := NB133_134.out
                  have hnc46 := NB134_133.out
                  have hcz47_0 : w5.cell? ⟨gb133, 0, none⟩ = some (.slice A0_0 l0_0.length c0_0) := (blk_cell BK133.out 0).trans rfl
                  have hcz47_1 : w5.cell? ⟨gb133, 1, none⟩ = some (.int .i64 a0_1) := (blk_cell BK133.out 1).trans rfl
                  have hcz47_2 : w5.cell? ⟨gb133, 2, none⟩ = some (.bool a0_2) := (blk_cell BK133.out 2).trans rfl
                  have hcz47_3 : w5.cell? ⟨gb133, 3, none⟩ = some (.bool a0_3) := (blk_cell BK133.out 3).trans rfl
                  have hcz47_4 : w5.cell? ⟨gb133, 4, none⟩ = some (.int .i64 a0_4) := (blk_cell BK133.out 4).trans rfl
                  have hcz47_5 : w5.cell? ⟨gb133, 5, none⟩ = some (.int .i64 a0_5) := (blk_cell BK133.out 5).trans rfl
                  have hcz47_6 : w5.cell? ⟨gb133, 6, none⟩ = some (.int .i64 a0_6) := (blk_cell BK133.out 6).trans rfl
                  have hcz47_7 : w5.cell? ⟨gb133, 7, none⟩ = some (.int .i64 a0_7) := (blk_cell BK133.out 7).trans rfl
                  have hcz47_8 : w5.cell? ⟨gb133, 8, none⟩ = some (.int .i64 a0_8) := (blk_cell BK133.out 8).trans rfl
                  have hcz47_9 : w5.cell? ⟨gb133, 9, none⟩ = some (.slice A0_9 l0_9.length c0_9) := (blk_cell BK133.out 9).trans rfl
                  have hcz47_10 : w5.cell? ⟨gb133, 10, none⟩ = some (.int .i64 a0_10) := (blk_cell BK133.out 10).trans rfl
                  have hfz47_0 := blk_frozen BK133.out 0
                  have hfz47_1 := blk_frozen BK133.out 1
                  have hfz47_2 := blk_frozen BK133.out 2
                  have hfz47_3 := blk_frozen BK133.out 3
                  have hfz47_4 := blk_frozen BK133.out 4
                  have hfz47_5 := blk_frozen BK133.out 5
                  have hfz47_6 := blk_frozen BK133.out 6
                  have hfz47_7 := blk_frozen BK133.out 7
                  have hfz47_8 := blk_frozen BK133.out 8
                  have hfz47_9 := blk_frozen BK133.out 9
                  have hfz47_10 := blk_frozen BK133.out 10
                  have hcv48 := Kd.C_string (P := Try.prog) (A := A0_0) (c := c0_0) Try.underlying22 Try.underlying5 Try.underlying9 (Kd.C_below HR0_0.out HB.out)
                  have hcz49_0 : w5.cell? ⟨gb134, 0, none⟩ = some (.slice A1_0 l1_0.length c1_0) := (blk_cell BK134.out 0).trans rfl
                  have hcz49_1 : w5.cell? ⟨gb134, 1, none⟩ = some (.int .i64 a1_1) := (blk_cell BK134.out 1).trans rfl
                  have hcz49_2 : w5.cell? ⟨gb134, 2, none⟩ = some (.bool a1_2) := (blk_cell BK134.out 2).trans rfl
                  have hcz49_3 : w5.cell? ⟨gb134, 3, none⟩ = some (.bool a1_3) := (blk_cell BK134.out 3).trans rfl
                  have hcz49_4 : w5.cell? ⟨gb134, 4, none⟩ = some (.int .i64 a1_4) := (blk_cell BK134.out 4).trans rfl
                  have hcz49_5 : w5.cell? ⟨gb134, 5, none⟩ = some (.int .i64 a1_5) := (blk_cell BK134.out 5).trans rfl
                  have hcz49_6 : w5.cell? ⟨gb134, 6, none⟩ = some (.int .i64 a1_6) := (blk_cell BK134.out 6).trans rfl
                  have hcz49_7 : w5.cell? ⟨gb134, 7, none⟩ = some (.int .i64 a1_7) := (blk_cell BK134.out 7).trans rfl
                  have hcz49_8 : w5.cell? ⟨gb134, 8, none⟩ = some (.int .i64 a1_8) := (blk_cell BK134.out 8).trans rfl
                  have hcz49_9 : w5.cell? ⟨gb134, 9, none⟩ = some (.slice A1_9 l1_9.length c1_9) := (blk_cell BK134.out 9).trans rfl
                  have hcz49_10 : w5.cell? ⟨gb134, 10, none⟩ = some (.int .i64 a1_10) := (blk_cell BK134.out 10).trans rfl
                  have hfz49_0 := blk_frozen BK134.out 0
                  have hfz49_1 := blk_frozen BK134.out 1
                  have hfz49_2 := blk_frozen BK134.out 2
                  have hfz49_3 := blk_frozen BK134.out 3
                  have hfz49_4 := blk_frozen BK134.out 4
                  have hfz49_5 := blk_frozen BK134.out 5
                  have hfz49_6 := blk_frozen BK134.out 6
                  have hfz49_7 := blk_frozen BK134.out 7
                  have hfz49_8 := blk_frozen BK134.out 8
                  have hfz49_9 := blk_frozen BK134.out 9
                  have hfz49_10 := blk_frozen BK134.out 10
                  have hcv50 := Kd.C_string (P := Try.prog) (A := A1_0) (c := c1_0) Try.underlying22 Try.underlying5 Try.underlying9 (Kd.C_below HR1_0.out HB.out)
                  go_wp2
                  repeat (go_quiet (fail); try go_wp2)
                  go_meet
                  case rel => exact ⟨_, (true), (by first | rfl | (simp; done) | (simp [*]; done)), H', ⟨by first | omega | exact Nat.le_refl _⟩, ⟨by (with_reducible repeat (first | refine blk_drewN ?_ _ | refine blk_drew ?_ | refine blk_alloc ?_ _)); exact BK133.out⟩, ⟨by (with_reducible repeat (first | refine blk_drewN ?_ _ | refine blk_drew ?_ | refine blk_alloc ?_ _)); exact BK134.out⟩, ⟨by repeat (first | (with_reducible first | exact HB.out | apply below_alloc | apply pw_below_drewN | apply below_drew1 | refine below_set ?_ GE133.out | refine below_set ?_ GE134.out) | exact HB.out)⟩⟩
              · rw [if_neg c21] at H
                have c21b0 : (a0_5 == a1_5) = false := beq_eq_false_iff_ne.mpr c21
                have c21b1 : (a0_5 != a1_5) = true := bne_iff_ne.mpr c21
                have H' := Aside0.mk H
                clear H
                have hnb51 := NB133_134.out
                have hnc51 := NB134_133.out
                have hcz52_0 : w5.cell? ⟨gb133, 0, none⟩ = some (.slice A0_0 l0_0.length c0_0) := (blk_cell BK133.out 0).trans rfl
                have hcz52_1 : w5.cell? ⟨gb133, 1, none⟩ = some (.int .i64 a0_1) := (blk_cell BK133.out 1).trans rfl
                have hcz52_2 : w5.cell? ⟨gb133, 2, none⟩ = some (.bool a0_2) := (blk_cell BK133.out 2).trans rfl
                have hcz52_3 : w5.cell? ⟨gb133, 3, none⟩ = some (.bool a0_3) := (blk_cell BK133.out 3).trans rfl
                have hcz52_4 : w5.cell? ⟨gb133, 4, none⟩ = some (.int .i64 a0_4) := (blk_cell BK133.out 4).trans rfl
                have hcz52_5 : w5.cell? ⟨gb133, 5, none⟩ = some (.int .i64 a0_5) := (blk_cell BK133.out 5).trans rfl
                have hcz52_6 : w5.cell? ⟨gb133, 6, none⟩ = some (.int .i64 a0_6) := (blk_cell BK133.out 6).trans rfl
                have hcz52_7 : w5.cell? ⟨gb133, 7, none⟩ = some (.int .i64 a0_7) := (blk_cell BK133.out 7).trans rfl
                have hcz52_8 : w5.cell? ⟨gb133, 8, none⟩ = some (.int .i64 a0_8) := (blk_cell BK133.out 8).trans rfl
                have hcz52_9 : w5.cell? ⟨gb133, 9, none⟩ = some (.slice A0_9 l0_9.length c0_9) := (blk_cell BK133.out 9).trans rfl
                have hcz52_10 : w5.cell? ⟨gb133, 10, none⟩ = some (.int .i64 a0_10) := (blk_cell BK133.out 10).trans rfl
                have hfz52_0 := blk_frozen BK133.out 0
                have hfz52_1 := blk_frozen BK133.out 1
                have hfz52_2 := blk_frozen BK133.out 2
                have hfz52_3 := blk_frozen BK133.out 3
                have hfz52_4 := blk_frozen BK133.out 4
                have hfz52_5 := blk_frozen BK133.out 5
                have hfz52_6 := blk_frozen BK133.out 6
                have hfz52_7 := blk_frozen BK133.out 7
                have hfz52_8 := blk_frozen BK133.out 8
                have hfz52_9 := blk_frozen BK133.out 9
                have hfz52_10 := blk_frozen BK133.out 10
                have hcv53 := Kd.C_string (P := Try.prog) (A := A0_0) (c := c0_0) Try.underlying22 Try.underlying5 Try.underlying9 (Kd.C_below HR0_0.out HB.out)
                have hcz54_0 : w5.cell? ⟨gb134, 0, none⟩ = some (.slice A1_0 l1_0.length c1_0) := (blk_cell BK134.out 0).trans rfl
                have hcz54_1 : w5.cell? ⟨gb134, 1, none⟩ = some (.int .i64 a1_1) := (blk_cell BK134.out 1).trans rfl
                have hcz54_2 : w5.cell? ⟨gb134, 2, none⟩ = some (.bool a1_2) := (blk_cell BK134.out 2).trans rfl
                have hcz54_3 : w5.cell? ⟨gb134, 3, none⟩ = some (.bool a1_3) := (blk_cell BK134.out 3).trans rfl
                have hcz54_4 : w5.cell? ⟨gb134, 4, none⟩ = some (.int .i64 a1_4) := (blk_cell BK134.out 4).trans rfl
                have hcz54_5 : w5.cell? ⟨gb134, 5, none⟩ = some (.int .i64 a1_5) := (blk_cell BK134.out 5).trans rfl
                have hcz54_6 : w5.cell? ⟨gb134, 6, none⟩ = some (.int .i64 a1_6) := (blk_cell BK134.out 6).trans rfl
                have hcz54_7 : w5.cell? ⟨gb134, 7, none⟩ = some (.int .i64 a1_7) := (blk_cell BK134.out 7).trans rfl
                have hcz54_8 : w5.cell? ⟨gb134, 8, none⟩ = some (.int .i64 a1_8) := (blk_cell BK134.out 8).trans rfl
                have hcz54_9 : w5.cell? ⟨gb134, 9, none⟩ = some (.slice A1_9 l1_9.length c1_9) := (blk_cell BK134.out 9).trans rfl
                have hcz54_10 : w5.cell? ⟨gb134, 10, none⟩ = some (.int .i64 a1_10) := (blk_cell BK134.out 10).trans rfl
                have hfz54_0 := blk_frozen BK134.out 0
                have hfz54_1 := blk_frozen BK134.out 1
                have hfz54_2 := blk_frozen BK134.out 2
                have hfz54_3 := blk_frozen BK134.out 3
                have hfz54_4 := blk_frozen BK134.out 4
                have hfz54_5 := blk_frozen BK134.out 5
                have hfz54_6 := blk_frozen BK134.out 6
                have hfz54_7 := blk_frozen BK134.out 7
                have hfz54_8 := blk_frozen BK134.out 8
                have hfz54_9 := blk_frozen BK134.out 9
                have hfz54_10 := blk_frozen BK134.out 10
                have hcv55 := Kd.C_string (P := Try.prog) (A := A1_0) (c := c1_0) Try.underlying22 Try.underlying5 Try.underlying9 (Kd.C_below HR1_0.out HB.out)
                go_wp2
                repeat (go_quiet (fail); try go_wp2)
                go_meet
                case rel => exact ⟨_, (true), (by first | rfl | (simp; done) | (simp [*]; done)), H', ⟨by first | omega | exact Nat.le_refl _⟩, ⟨by (with_reducible repeat (first | refine blk_drewN ?_ _ | refine blk_drew ?_ | refine blk_alloc ?_ _)); exact BK133.out⟩, ⟨by (with_reducible repeat (first | refine blk_drewN ?_ _ | refine blk_drew ?_ | refine blk_alloc ?_ _)); exact BK134.out⟩, ⟨by repeat (first | (with_reducible first | exact HB.out | apply below_alloc | apply pw_below_drewN | apply below_drew1 | refine below_set ?_ GE133.out | refine below_set ?_ GE134.out) | exact HB.out)⟩⟩
            · rw [if_neg c20] at H
              have c20b0 : (a0_4 == a1_4) = false := beq_eq_false_iff_ne.mpr c20
              have c20b1 : (a0_4 != a1_4) = true := bne_iff_ne.mpr c20
              have H' := Aside0.mk H
              clear H
              have hnb56 := NB133_134.out
              have hnc56 := NB134_133.out
              have hcz57_0 : w5.cell? ⟨gb133, 0, none⟩ = some (.slice A0_0 l0_0.length c0_0) := (blk_cell BK133.out 0).trans rfl
              have hcz57_1 : w5.cell? ⟨gb133, 1, none⟩ = some (.int .i64 a0_1) := (blk_cell BK133.out 1).trans rfl
              have hcz57_2 : w5.cell? ⟨gb133, 2, none⟩ = some (.bool a0_2) := (blk_cell BK133.out 2).trans rfl
              have hcz57_3 : w5.cell? ⟨gb133, 3, none⟩ = some (.bool a0_3) := (blk_cell BK133.out 3).trans rfl
              have hcz57_4 : w5.cell? ⟨gb133, 4, none⟩ = some (.int .i64 a0_4) := (blk_cell BK133.out 4).trans rfl
              have hcz57_5 : w5.cell? ⟨gb133, 5, none⟩ = some (.int .i64 a0_5) := (blk_cell BK133.out 5).trans rfl
              have hcz57_6 : w5.cell? ⟨gb133, 6, none⟩ = some (.int .i64 a0_6) := (blk_cell BK133.out 6).trans rfl
              have hcz57_7 : w5.cell? ⟨gb133, 7, none⟩ = some (.int .i64 a0_7) := (blk_cell BK133.out 7).trans rfl
              have hcz57_8 : w5.cell? ⟨gb133, 8, none⟩ = some (.int .i64 a0_8) := (blk_cell BK133.out 8).trans rfl
              have hcz57_9 : w5.cell? ⟨gb133, 9, none⟩ = some (.slice A0_9 l0_9.length c0_9) := (blk_cell BK133.out 9).trans rfl
              have hcz57_10 : w5.cell? ⟨gb133, 10, none⟩ = some (.int .i64 a0_10) := (blk_cell BK133.out 10).trans rfl
              have hfz57_0 := blk_frozen BK133.out 0
              have hfz57_1 := blk_frozen BK133.out 1
              have hfz57_2 := blk_frozen BK133.out 2
              have hfz57_3 := blk_frozen BK133.out 3
              have hfz57_4 := blk_frozen BK133.out 4
              have hfz57_5 := blk_frozen BK133.out 5
              have hfz57_6 := blk_frozen BK133.out 6
              have hfz57_7 := blk_frozen BK133.out 7
              have hfz57_8 := blk_frozen BK133.out 8
              have hfz57_9 := blk_frozen BK133.out 9
              have hfz57_10 := blk_frozen BK133.out 10
              have hcv58 := Kd.C_string (P := Try.prog) (A := A0_0) (c := c0_0) Try.underlying22 Try.underlying5 Try.underlying9 (Kd.C_below HR0_0.out HB.out)
              have hcz59_0 : w5.cell? ⟨gb134, 0, none⟩ = some (.slice A1_0 l1_0.length c1_0) := (blk_cell BK134.out 0).trans rfl
              have hcz59_1 : w5.cell? ⟨gb134, 1, none⟩ = some (.int .i64 a1_1) := (blk_cell BK134.out 1).trans rfl
              have hcz59_2 : w5.cell? ⟨gb134, 2, none⟩ = some (.bool a1_2) := (blk_cell BK134.out 2).trans rfl
              have hcz59_3 : w5.cell? ⟨gb134, 3, none⟩ = some (.bool a1_3) := (blk_cell BK134.out 3).trans rfl
              have hcz59_4 : w5.cell? ⟨gb134, 4, none⟩ = some (.int .i64 a1_4) := (blk_cell BK134.out 4).trans rfl
              have hcz59_5 : w5.cell? ⟨gb134, 5, none⟩ = some (.int .i64 a1_5) := (blk_cell BK134.out 5).trans rfl
              have hcz59_6 : w5.cell? ⟨gb134, 6, none⟩ = some (.int .i64 a1_6) := (blk_cell BK134.out 6).trans rfl
              have hcz59_7 : w5.cell? ⟨gb134, 7, none⟩ = some (.int .i64 a1_7) := (blk_cell BK134.out 7).trans rfl
              have hcz59_8 : w5.cell? ⟨gb134, 8, none⟩ = some (.int .i64 a1_8) := (blk_cell BK134.out 8).trans rfl
              have hcz59_9 : w5.cell? ⟨gb134, 9, none⟩ = some (.slice A1_9 l1_9.length c1_9) := (blk_cell BK134.out 9).trans rfl
              have hcz59_10 : w5.cell? ⟨gb134, 10, none⟩ = some (.int .i64 a1_10) := (blk_cell BK134.out 10).trans rfl
              have hfz59_0 := blk_frozen BK134.out 0
              have hfz59_1 := blk_frozen BK134.out 1
              have hfz59_2 := blk_frozen BK134.out 2
              have hfz59_3 := blk_frozen BK134.out 3
              have hfz59_4 := blk_frozen BK134.out 4
              have hfz59_5 := blk_frozen BK134.out 5
              have hfz59_6 := blk_frozen BK134.out 6
              have hfz59_7 := blk_frozen BK134.out 7
              have hfz59_8 := blk_frozen BK134.out 8
              have hfz59_9 := blk_frozen BK134.out 9
              have hfz59_10 := blk_frozen BK134.out 10
              have hcv60 := Kd.C_string (P := Try.prog) (A := A1_0) (c := c1_0) Try.underlying22 Try.underlying5 Try.underlying9 (Kd.C_below HR1_0.out HB.out)
              go_wp2
              repeat (go_quiet (fail); try go_wp2)
              go_meet
              case rel => exact ⟨_, (true), (by first | rfl | (simp; done) | (simp [*]; done)), H', ⟨by first | omega | exact Nat.le_refl _⟩, ⟨by (with_reducible repeat (first | refine blk_drewN ?_ _ | refine blk_drew ?_ | refine blk_alloc ?_ _)); exact BK133.out⟩, ⟨by (with_reducible repeat (first | refine blk_drewN ?_ _ | refine blk_drew ?_ | refine blk_alloc ?_ _)); exact BK134.out⟩, ⟨by repeat (first | (with_reducible first | exact HB.out | apply below_alloc | apply pw_below_drewN | apply below_drew1 | refine below_set ?_ GE133.out | refine below_set ?_ GE134.out) | exact HB.out)⟩⟩
      · rw [if_neg c7] at H
        have c7b0 : (a0_1 == a1_1) = false := beq_eq_false_iff_ne.mpr c7
        have c7b1 : (a0_1 != a1_1) = true := bne_iff_ne.mpr c7
        have H' := Aside0.mk H
        clear H
        have hnb61 := NB133_134.out
        have hnc61 := NB134_133.out
        have hcz62_0 : w5.cell? ⟨gb133, 0, none⟩ = some (.slice A0_0 l0_0.length c0_0) := (blk_cell BK133.out 0).trans rfl
        have hcz62_1 : w5.cell? ⟨gb133, 1, none⟩ = some (.int .i64 a0_1) := (blk_cell BK133.out 1).trans rfl
        have hcz62_2 : w5.cell? ⟨gb133, 2, none⟩ = some (.bool a0_2) := (blk_cell BK133.out 2).trans rfl
        have hcz62_3 : w5.cell? ⟨gb133, 3, none⟩ = some (.bool a0_3) := (blk_cell BK133.out 3).trans rfl
        have hcz62_4 : w5.cell? ⟨gb133, 4, none⟩ = some (.int .i64 a0_4) := (blk_cell BK133.out 4).trans rfl
        have hcz62_5 : w5.cell? ⟨gb133, 5, none⟩ = some (.int .i64 a0_5) := (blk_cell BK133.out 5).trans rfl
        have hcz62_6 : w5.cell? ⟨gb133, 6, none⟩ = some (.int .i64 a0_6) := (blk_cell BK133.out 6).trans rfl
        have hcz62_7 : w5.cell? ⟨gb133, 7, none⟩ = some (.int .i64 a0_7) := (blk_cell BK133.out 7).trans rfl
        have hcz62_8 : w5.cell? ⟨gb133, 8, none⟩ = some (.int .i64 a0_8) := (blk_cell BK133.out 8).trans rfl
        have hcz62_9 : w5.cell? ⟨gb133, 9, none⟩ = some (.slice A0_9 l0_9.length c0_9) := (blk_cell BK133.out 9).trans rfl
        have hcz62_10 : w5.cell? ⟨gb133, 10, none⟩ = some (.int .i64 a0_10) := (blk_cell BK133.out 10).trans rfl
        have hfz62_0 := blk_frozen BK133.out 0
        have hfz62_1 := blk_frozen BK133.out 1
        have hfz62_2 := blk_frozen BK133.out 2
        have hfz62_3 := blk_frozen BK133.out 3
        have hfz62_4 := blk_frozen BK133.out 4
        have hfz62_5 := blk_frozen BK133.out 5
        have hfz62_6 := blk_frozen BK133.out 6
        have hfz62_7 := blk_frozen BK133.out 7
        have hfz62_8 := blk_frozen BK133.out 8
        have hfz62_9 := blk_frozen BK133.out 9
        have hfz62_10 := blk_frozen BK133.out 10
        have hcv63 := Kd.C_string (P := Try.prog) (A := A0_0) (c := c0_0) Try.underlying22 Try.underlying5 Try.underlying9 (Kd.C_below HR0_0.out HB.out)
        have hcz64_0 : w5.cell? ⟨gb134, 0, none⟩ = some (.slice A1_0 l1_0.length c1_0) := (blk_cell BK134.out 0).trans rfl
        have hcz64_1 : w5.cell? ⟨gb134, 1, none⟩ = some (.int .i64 a1_1) := (blk_cell BK134.out 1).trans rfl
        have hcz64_2 : w5.cell? ⟨gb134, 2, none⟩ = some (.bool a1_2) := (blk_cell BK134.out 2).trans rfl
        have hcz64_3 : w5.cell? ⟨gb134, 3, none⟩ = some (.bool a1_3) := (blk_cell BK134.out 3).trans rfl
        have hcz64_4 : w5.cell? ⟨gb134, 4, none⟩ = some (.int .i64 a1_4) := (blk_cell BK134.out 4).trans rfl
        have hcz64_5 : w5.cell? ⟨gb134, 5, none⟩ = some (.int .i64 a1_5) := (blk_cell BK134.out 5).trans rfl
        have hcz64_6 : w5.cell? ⟨gb134, 6, none⟩ = some (.int .i64 a1_6) := (blk_cell BK134.out 6).trans rfl
        have hcz64_7 : w5.cell? ⟨gb134, 7, none⟩ = some (.int .i64 a1_7) := (blk_cell BK134.out 7).trans rfl
        have hcz64_8 : w5.cell? ⟨gb134, 8, none⟩ = some (.int .i64 a1_8) := (blk_cell BK134.out 8).trans rfl
        have hcz64_9 : w5.cell? ⟨gb134, 9, none⟩ = some (.slice A1_9 l1_9.length c1_9) := (blk_cell BK134.out 9).trans rfl
        have hcz64_10 : w5.cell? ⟨gb134, 10, none⟩ = some (.int .i64 a1_10) := (blk_cell BK134.out 10).trans rfl
        have hfz64_0 := blk_frozen BK134.out 0
        have hfz64_1 := blk_frozen BK134.out 1
        have hfz64_2 := blk_frozen BK134.out 2
        have hfz64_3 := blk_frozen BK134.out 3
        have hfz64_4 := blk_frozen BK134.out 4
        have hfz64_5 := blk_frozen BK134.out 5
        have hfz64_6 := blk_frozen BK134.out 6
        have hfz64_7 := blk_frozen BK134.out 7
        have hfz64_8 := blk_frozen BK134.out 8
        have hfz64_9 := blk_frozen BK134.out 9
        have hfz64_10 := blk_frozen BK134.out 10
        have hcv65 := Kd.C_string (P := Try.prog) (A := A1_0) (c := c1_0) Try.underlying22 Try.underlying5 Try.underlying9 (Kd.C_below HR1_0.out HB.out)
        go_wp2
        repeat (go_quiet (fail); try go_wp2)
        go_meet
        case rel => exact ⟨_, (true), (by first | rfl | (simp; done) | (simp [*]; done)), H', ⟨by first | omega | exact Nat.le_refl _⟩, ⟨by (with_reducible repeat (first | refine blk_drewN ?_ _ | refine blk_drew ?_ | refine blk_alloc ?_ _)); exact BK133.out⟩, ⟨by (with_reducible repeat (first | refine blk_drewN ?_ _ | refine blk_drew ?_ | refine blk_alloc ?_ _)); exact BK134.out⟩, ⟨by repeat (first | (with_reducible first | exact HB.out | apply below_alloc | apply pw_below_drewN | apply below_drew1 | refine below_set ?_ GE133.out | refine below_set ?_ GE134.out) | exact HB.out)⟩⟩
    · rw [if_neg c6] at H
      have c6b0 : ((strOfNums l0_0).toList == (strOfNums l1_0).toList) = false := beq_eq_false_iff_ne.mpr c6
      have c6b1 : ((strOfNums l0_0).toList != (strOfNums l1_0).toList) = true := bne_iff_ne.mpr c6
      (first | rw [c6b0] | (simp only [i64_w, i32_w]; rw [c6b0]) | skip)
      have H' := Aside0.mk H
      clear H
      have hnb66 := NB133_134.out
      have hnc66 := NB134_133.out
      have hcz67_0 : w5.cell? ⟨gb133, 0, none⟩ = some (.slice A0_0 l0_0.length c0_0) := (blk_cell BK133.out 0).trans rfl
      have hcz67_1 : w5.cell? ⟨gb133, 1, none⟩ = some (.int .i64 a0_1) := (blk_cell BK133.out 1).trans rfl
      have hcz67_2 : w5.cell? ⟨gb133, 2, none⟩ = some (.bool a0_2) := (blk_cell BK133.out 2).trans rfl
      have hcz67_3 : w5.cell? ⟨gb133, 3, none⟩ = some (.bool a0_3) := (blk_cell BK133.out 3).trans rfl
      have hcz67_4 : w5.cell? ⟨gb133, 4, none⟩ = some (.int .i64 a0_4) := (blk_cell BK133.out 4).trans rfl
      have hcz67_5 : w5.cell? ⟨gb133, 5, none⟩ = some (.int .i64 a0_5) := (blk_cell BK133.out 5).trans rfl
      have hcz67_6 : w5.cell? ⟨gb133, 6, none⟩ = some (.int .i64 a0_6) := (blk_cell BK133.out 6).trans rfl
      have hcz67_7 : w5.cell? ⟨gb133, 7, none⟩ = some (.int .i64 a0_7) := (blk_cell BK133.out 7).trans rfl
      have hcz67_8 : w5.cell? ⟨gb133, 8, none⟩ = some (.int .i64 a0_8) := (blk_cell BK133.out 8).trans rfl
      have hcz67_9 : w5.cell? ⟨gb133, 9, none⟩ = some (.slice A0_9 l0_9.length c0_9) := (blk_cell BK133.out 9).trans rfl
      have hcz67_10 : w5.cell? ⟨gb133, 10, none⟩ = some (.int .i64 a0_10) := (blk_cell BK133.out 10).trans rfl
      have hfz67_0 := blk_frozen BK133.out 0
      have hfz67_1 := blk_frozen BK133.out 1
      have hfz67_2 := blk_frozen BK133.out 2
      have hfz67_3 := blk_frozen BK133.out 3
      have hfz67_4 := blk_frozen BK133.out 4
      have hfz67_5 := blk_frozen BK133.out 5
      have hfz67_6 := blk_frozen BK133.out 6
      have hfz67_7 := blk_frozen BK133.out 7
      have hfz67_8 := blk_frozen BK133.out 8
      have hfz67_9 := blk_frozen BK133.out 9
      have hfz67_10 := blk_frozen BK133.out 10
      have hcv68 := Kd.C_string (P := Try.prog) (A := A0_0) (c := c0_0) Try.underlying22 Try.underlying5 Try.underlying9 (Kd.C_below HR0_0.out HB.out)
      have hcz69_0 : w5.cell? ⟨gb134, 0, none⟩ = some (.slice A1_0 l1_0.length c1_0) := (blk_cell BK134.out 0).trans rfl
      have hcz69_1 : w5.cell? ⟨gb134, 1, none⟩ = some (.int .i64 a1_1) := (blk_cell BK134.out 1).trans rfl
      have hcz69_2 : w5.cell? ⟨gb134, 2, none⟩ = some (.bool a1_2) := (blk_cell BK134.out 2).trans rfl
      have hcz69_3 : w5.cell? ⟨gb134, 3, none⟩ = some (.bool a1_3) := (blk_cell BK134.out 3).trans rfl
      have hcz69_4 : w5.cell? ⟨gb134, 4, none⟩ = some (.int .i64 a1_4) := (blk_cell BK134.out 4).trans rfl
      have hcz69_5 : w5.cell? ⟨gb134, 5, none⟩ = some (.int .i64 a1_5) := (blk_cell BK134.out 5).trans rfl
      have hcz69_6 : w5.cell? ⟨gb134, 6, none⟩ = some (.int .i64 a1_6) := (blk_cell BK134.out 6).trans rfl
      have hcz69_7 : w5.cell? ⟨gb134, 7, none⟩ = some (.int .i64 a1_7) := (blk_cell BK134.out 7).trans rfl
      have hcz69_8 : w5.cell? ⟨gb134, 8, none⟩ = some (.int .i64 a1_8) := (blk_cell BK134.out 8).trans rfl
      have hcz69_9 : w5.cell? ⟨gb134, 9, none⟩ = some (.slice A1_9 l1_9.length c1_9) := (blk_cell BK134.out 9).trans rfl
      have hcz69_10 : w5.cell? ⟨gb134, 10, none⟩ = some (.int .i64 a1_10) := (blk_cell BK134.out 10).trans rfl
      have hfz69_0 := blk_frozen BK134.out 0
      have hfz69_1 := blk_frozen BK134.out 1
      have hfz69_2 := blk_frozen BK134.out 2
      have hfz69_3 := blk_frozen BK134.out 3
      have hfz69_4 := blk_frozen BK134.out 4
      have hfz69_5 := blk_frozen BK134.out 5
      have hfz69_6 := blk_frozen BK134.out 6
      have hfz69_7 := blk_frozen BK134.out 7
      have hfz69_8 := blk_frozen BK134.out 8
      have hfz69_9 := blk_frozen BK134.out 9
      have hfz69_10 := blk_frozen BK134.out 10
      have hcv70 := Kd.C_string (P := Try.prog) (A := A1_0) (c := c1_0) Try.underlying22 Try.underlying5 Try.underlying9 (Kd.C_below HR1_0.out HB.out)
      go_wp2
      repeat (go_quiet (fail); try go_wp2)
      go_meet
      case rel => exact ⟨_, (true), (by first | rfl | (simp; done) | (simp [*]; done)), H', ⟨by first | omega | exact Nat.le_refl _⟩, ⟨by (with_reducible repeat (first | refine blk_drewN ?_ _ | refine blk_drew ?_ | refine blk_alloc ?_ _)); exact BK133.out⟩, ⟨by (with_reducible repeat (first | refine blk_drewN ?_ _ | refine blk_drew ?_ | refine blk_alloc ?_ _)); exact BK134.out⟩, ⟨by repeat (first | (with_reducible first | exact HB.out | apply below_alloc | apply pw_below_drewN | apply below_drew1 | refine below_set ?_ GE133.out | refine below_set ?_ GE134.out) | exact HB.out)⟩⟩
  case rest =>
    clear HC3
    try clear c1
    try clear hcv1
    try clear c2
    try clear p2
    try clear hcv2
    try clear c3
    try clear hcv3
    try clear c4
    try clear hcv4
    try clear c5
    try clear hcv5
    try clear c6
    try clear c6b0
    try clear c6b1
    try clear hcv6
    try clear c7
    try clear c7b0
    try clear c7b1
    try clear hcv7
    try clear c14
    try clear c14b0
    try clear c14b1
    try clear c14b2
    try clear c15
    try clear hcv17
    try clear hcv19
    try clear c20
    try clear c20b0
    try clear c20b1
    try clear c21
    try clear c21b0
    try clear c21b1
    try clear c22
    try clear c22b0
    try clear c22b1
    try clear c23
    try clear c23b0
    try clear c23b1
    try clear c24
    try clear c24b0
    try clear c24b1
    try clear c25
    try clear c25b0
    try clear c25b1
    try clear c26
    try clear hcv28
    try clear hcv30
    try clear c31
    try clear hcv33
    try clear hcv35
    try clear c36
    try clear hcv38
    try clear hcv40
    try clear c41
    try clear hcv43
    try clear hcv45
    try clear c46
    try clear hcv48
    try clear hcv50
    try clear c51
    try clear hcv53
    try clear hcv55
    try clear c56
    try clear hcv58
    try clear hcv60
    try clear c61
    try clear hcv63
    try clear hcv65
    try clear c66
    try clear hcv68
    try clear hcv70
    try clear hcz16_0
    try clear hcz16_1
    try clear hcz16_10
    try clear hcz16_2
    try clear hcz16_3
    try clear hcz16_4
    try clear hcz16_5
    try clear hcz16_6
    try clear hcz16_7
    try clear hcz16_8
    try clear hcz16_9
    try clear hcz18_0
    try clear hcz18_1
    try clear hcz18_10
    try clear hcz18_2
    try clear hcz18_3
    try clear hcz18_4
    try clear hcz18_5
    try clear hcz18_6
    try clear hcz18_7
    try clear hcz18_8
    try clear hcz18_9
    try clear hcz27_0
    try clear hcz27_1
    try clear hcz27_10
    try clear hcz27_2
    try clear hcz27_3
    try clear hcz27_4
    try clear hcz27_5
    try clear hcz27_6
    try clear hcz27_7
    try clear hcz27_8
    try clear hcz27_9
    try clear hcz29_0
    try clear hcz29_1
    try clear hcz29_10
    try clear hcz29_2
    try clear hcz29_3
    try clear hcz29_4
    try clear hcz29_5
    try clear hcz29_6
    try clear hcz29_7
    try clear hcz29_8
    try clear hcz29_9
    try clear hcz32_0
    try clear hcz32_1
    try clear hcz32_10
    try clear hcz32_2
    try clear hcz32_3
    try clear hcz32_4
    try clear hcz32_5
    try clear hcz32_6
    try clear hcz32_7
    try clear hcz32_8
    try clear hcz32_9
    try clear hcz34_0
    try clear hcz34_1
    try clear hcz34_10
    try clear hcz34_2
    try clear hcz34_3
    try clear hcz34_4
    try clear hcz34_5
    try clear hcz34_6
    try clear hcz34_7
    try clear hcz34_8
    try clear hcz34_9
    try clear hcz37_0
    try clear hcz37_1
    try clear hcz37_10
    try clear hcz37_2
    try clear hcz37_3
    try clear hcz37_4
    try clear hcz37_5
    try clear hcz37_6
    try clear hcz37_7
    try clear hcz37_8
    try clear hcz37_9
    try clear hcz39_0
    try clear hcz39_1
    try clear hcz39_10
    try clear hcz39_2
    try clear hcz39_3
    try clear hcz39_4
    try clear hcz39_5
    try clear hcz39_6
    try clear hcz39_7
    try clear hcz39_8
    try clear hcz39_9
    try clear hcz42_0
    try clear hcz42_1
    try clear hcz42_10
    try clear hcz42_2
    try clear hcz42_3
    try clear hcz42_4
    try clear hcz42_5
    try clear hcz42_6
    try clear hcz42_7
    try clear hcz42_8
    try clear hcz42_9
    try clear hcz44_0
    try clear hcz44_1
    try clear hcz44_10
    try clear hcz44_2
    try clear hcz44_3
    try clear hcz44_4
    try clear hcz44_5
    try clear hcz44_6
    try clear hcz44_7
    try clear hcz44_8
    try clear hcz44_9
    try clear hcz47_0
    try clear hcz47_1
    try clear hcz47_10
    try clear hcz47_2
    try clear hcz47_3
    try clear hcz47_4
    try clear hcz47_5
    try clear hcz47_6
    try clear hcz47_7
    try clear hcz47_8
    try clear hcz47_9
    try clear hcz49_0
    try clear hcz49_1
    try clear hcz49_10
    try clear hcz49_2
    try clear hcz49_3
    try clear hcz49_4
    try clear hcz49_5
    try clear hcz49_6
    try clear hcz49_7
    try clear hcz49_8
    try clear hcz49_9
    try clear hcz52_0
    try clear hcz52_1
    try clear hcz52_10
    try clear hcz52_2
    try clear hcz52_3
    try clear hcz52_4
    try clear hcz52_5
    try clear hcz52_6
    try clear hcz52_7
    try clear hcz52_8
    try clear hcz52_9
    try clear hcz54_0
    try clear hcz54_1
    try clear hcz54_10
    try clear hcz54_2
    try clear hcz54_3
    try clear hcz54_4
    try clear hcz54_5
    try clear hcz54_6
    try clear hcz54_7
    try clear hcz54_8
    try clear hcz54_9
    try clear hcz57_0
    try clear hcz57_1
    try clear hcz57_10
    try clear hcz57_2
    try clear hcz57_3
    try clear hcz57_4
    try clear hcz57_5
    try clear hcz57_6
    try clear hcz57_7
    try clear hcz57_8
    try clear hcz57_9
    try clear hcz59_0
    try clear hcz59_1
    try clear hcz59_10
    try clear hcz59_2
    try clear hcz59_3
    try clear hcz59_4
    try clear hcz59_5
    try clear hcz59_6
    try clear hcz59_7
    try clear hcz59_8
    try clear hcz59_9
    try clear hcz62_0
    try clear hcz62_1
    try clear hcz62_10
    try clear hcz62_2
    try clear hcz62_3
    try clear hcz62_4
    try clear hcz62_5
    try clear hcz62_6
    try clear hcz62_7
    try clear hcz62_8
    try clear hcz62_9
    try clear hcz64_0
    try clear hcz64_1
    try clear hcz64_10
    try clear hcz64_2
    try clear hcz64_3
    try clear hcz64_4
    try clear hcz64_5
    try clear hcz64_6
    try clear hcz64_7
    try clear hcz64_8
    try clear hcz64_9
    try clear hcz67_0
    try clear hcz67_1
    try clear hcz67_10
    try clear hcz67_2
    try clear hcz67_3
    try clear hcz67_4
    try clear hcz67_5
    try clear hcz67_6
    try clear hcz67_7
    try clear hcz67_8
    try clear hcz67_9
    try clear hcz69_0
    try clear hcz69_1
    try clear hcz69_10
    try clear hcz69_2
    try clear hcz69_3
    try clear hcz69_4
    try clear hcz69_5
    try clear hcz69_6
    try clear hcz69_7
    try clear hcz69_8
    try clear hcz69_9
    try clear hfz16_0
    try clear hfz16_1
    try clear hfz16_10
    try clear hfz16_2
    try clear hfz16_3
    try clear hfz16_4
    try clear hfz16_5
    try clear hfz16_6
    try clear hfz16_7
    try clear hfz16_8
    try clear hfz16_9
    try clear hfz18_0
    try clear hfz18_1
    try clear hfz18_10
    try clear hfz18_2
    try clear hfz18_3
    try clear hfz18_4
    try clear hfz18_5
    try clear hfz18_6
    try clear hfz18_7
    try clear hfz18_8
    try clear hfz18_9
    try clear hfz27_0
    try clear hfz27_1
    try clear hfz27_10
    try clear hfz27_2
    try clear hfz27_3
    try clear hfz27_4
    try clear hfz27_5
    try clear hfz27_6
    try clear hfz27_7
    try clear hfz27_8
    try clear hfz27_9
    try clear hfz29_0
    try clear hfz29_1
    try clear hfz29_10
    try clear hfz29_2
    try clear hfz29_3
    try clear hfz29_4
    try clear hfz29_5
    try clear hfz29_6
    try clear hfz29_7
    try clear hfz29_8
    try clear hfz29_9
    try clear hfz32_0
    try clear hfz32_1
    try clear hfz32_10
    try clear hfz32_2
    try clear hfz32_3
    try clear hfz32_4
    try clear hfz32_5
    try clear hfz32_6
    try clear hfz32_7
    try clear hfz32_8
    try clear hfz32_9
    try clear hfz34_0
    try clear hfz34_1
    try clear hfz34_10
    try clear hfz34_2
    try clear hfz34_3
    try clear hfz34_4
    try clear hfz34_5
    try clear hfz34_6
    try clear hfz34_7
    try clear hfz34_8
    try clear hfz34_9
    try clear hfz37_0
    try clear hfz37_1
    try clear hfz37_10
    try clear hfz37_2
    try clear hfz37_3
    try clear hfz37_4
    try clear hfz37_5
    try clear hfz37_6
    try clear hfz37_7
    try clear hfz37_8
    try clear hfz37_9
    try clear hfz39_0
    try clear hfz39_1
    try clear hfz39_10
    try clear hfz39_2
    try clear hfz39_3
    try clear hfz39_4
    try clear hfz39_5
    try clear hfz39_6
    try clear hfz39_7
    try clear hfz39_8
    try clear hfz39_9
    try clear hfz42_0
    try clear hfz42_1
    try clear hfz42_10
    try clear hfz42_2
    try clear hfz42_3
    try clear hfz42_4
    try clear hfz42_5
    try clear hfz42_6
    try clear hfz42_7
    try clear hfz42_8
    try clear hfz42_9
    try clear hfz44_0
    try clear hfz44_1
    try clear hfz44_10
    try clear hfz44_2
    try clear hfz44_3
    try clear hfz44_4
    try clear hfz44_5
    try clear hfz44_6
    try clear hfz44_7
    try clear hfz44_8
    try clear hfz44_9
    try clear hfz47_0
    try clear hfz47_1
    try clear hfz47_10
    try clear hfz47_2
    try clear hfz47_3
    try clear hfz47_4
    try clear hfz47_5
    try clear hfz47_6
    try clear hfz47_7
    try clear hfz47_8
    try clear hfz47_9
    try clear hfz49_0
    try clear hfz49_1
    try clear hfz49_10
    try clear hfz49_2
    try clear hfz49_3
    try clear hfz49_4
    try clear hfz49_5
    try clear hfz49_6
    try clear hfz49_7
    try clear hfz49_8
    try clear hfz49_9
    try clear hfz52_0
    try clear hfz52_1
    try clear hfz52_10
    try clear hfz52_2
    try clear hfz52_3
    try clear hfz52_4
    try clear hfz52_5
    try clear hfz52_6
    try clear hfz52_7
    try clear hfz52_8
    try clear hfz52_9
    try clear hfz54_0
    try clear hfz54_1
    try clear hfz54_10
    try clear hfz54_2
    try clear hfz54_3
    try clear hfz54_4
    try clear hfz54_5
    try clear hfz54_6
    try clear hfz54_7
    try clear hfz54_8
    try clear hfz54_9
    try clear hfz57_0
    try clear hfz57_1
    try clear hfz57_10
    try clear hfz57_2
    try clear hfz57_3
    try clear hfz57_4
    try clear hfz57_5
    try clear hfz57_6
    try clear hfz57_7
    try clear hfz57_8
    try clear hfz57_9
    try clear hfz59_0
    try clear hfz59_1
    try clear hfz59_10
    try clear hfz59_2
    try clear hfz59_3
    try clear hfz59_4
    try clear hfz59_5
    try clear hfz59_6
    try clear hfz59_7
    try clear hfz59_8
    try clear hfz59_9
    try clear hfz62_0
    try clear hfz62_1
    try clear hfz62_10
    try clear hfz62_2
    try clear hfz62_3
    try clear hfz62_4
    try clear hfz62_5
    try clear hfz62_6
    try clear hfz62_7
    try clear hfz62_8
    try clear hfz62_9
    try clear hfz64_0
    try clear hfz64_1
    try clear hfz64_10
    try clear hfz64_2
    try clear hfz64_3
    try clear hfz64_4
    try clear hfz64_5
    try clear hfz64_6
    try clear hfz64_7
    try clear hfz64_8
    try clear hfz64_9
    try clear hfz67_0
    try clear hfz67_1
    try clear hfz67_10
    try clear hfz67_2
    try clear hfz67_3
    try clear hfz67_4
    try clear hfz67_5
    try clear hfz67_6
    try clear hfz67_7
    try clear hfz67_8
    try clear hfz67_9
    try clear hfz69_0
    try clear hfz69_1
    try clear hfz69_10
    try clear hfz69_2
    try clear hfz69_3
    try clear hfz69_4
    try clear hfz69_5
    try clear hfz69_6
    try clear hfz69_7
    try clear hfz69_8
    try clear hfz69_9
    obtain ⟨kq, x84_2, rfl, HA, HJ2, BK133, BK134, HB⟩ := hcut
    cases kq with
    | zero => exact absurd HA.out (by simp [isthmusref7_EqBody.j0])
    | succ kj2 =>
      have H := HA.out
      clear HA
      simp only [isthmusref7_EqBody.j0] at H
      by_cases c71 : x84_2 = true
      · subst c71
        have H1 : (some false) = some r := by rw [if_pos rfl] at H; exact H
        clear H
        have H := H1
        clear H1
        obtain rfl := Option.some.inj H
        go_wp2
        repeat (go_quiet (fail); try go_wp2)
        go_ret
        exact ⟨by first | rfl | (simp [errW_none, errW_some] <;> rfl) | (simp [*, errW_none, errW_some] <;> rfl), by repeat (first | (with_reducible first | exact HB.out | apply below_alloc | apply pw_below_drewN | apply below_drew1 | refine below_set ?_ GE133.out | refine below_set ?_ GE134.out) | exact HB.out)⟩
      · replace c71 := Bool.eq_false_iff.mpr c71
        subst c71
        have H1 : (isthmusref7_EqBody.l0 kj2 0 l0_0 a0_1 a0_2 a0_3 a0_4 a0_5 a0_6 a0_7 a0_8 l0_9 a0_10 l1_0 a1_1 a1_2 a1_3 a1_4 a1_5 a1_6 a1_7 a1_8 l1_9 a1_10) = some r := by rw [if_neg (show ¬ (false = true) by decide)] at H; exact H
        clear H
        have H := H1
        clear H1
        have H' := Aside0.mk H
        clear H
        go_wp2
        repeat (go_quiet (fail); try go_wp2)
        go_loopg [5] kj2 (fun kq v5 w' => ∃ (x5_2 : Int), v5 = .int .i64 x5_2 ∧ Aside0 (isthmusref7_EqBody.l0 kq x5_2 l0_0 a0_1 a0_2 a0_3 a0_4 a0_5 a0_6 a0_7 a0_8 l0_9 a0_10 l1_0 a1_1 a1_2 a1_3 a1_4 a1_5 a1_6 a1_7 a1_8 l1_9 a1_10 = some r) ∧ Aside0 (kq ≤ kj2) ∧ Aside0 (w'.heap[gb133]? = some (.cells #[(.slice A0_0 l0_0.length c0_0), .int .i64 a0_1, .bool a0_2, .bool a0_3, .int .i64 a0_4, .int .i64 a0_5, .int .i64 a0_6, .int .i64 a0_7, .int .i64 a0_8, (.slice A0_9 l0_9.length c0_9), .int .i64 a0_10] 36 (0, 0))) ∧ Aside0 (w'.heap[gb134]? = some (.cells #[(.slice A1_0 l1_0.length c1_0), .int .i64 a1_1, .bool a1_2, .bool a1_3, .int .i64 a1_4, .int .i64 a1_5, .int .i64 a1_6, .int .i64 a1_7, .int .i64 a1_8, (.slice A1_9 l1_9.length c1_9), .int .i64 a1_10] 36 (0, 0))) ∧ Aside0 (Below w.heap.size w w'))
        case atStart => exact ⟨(0), (by first | rfl | (simp; done) | (simp [*]; done)), H', ⟨Nat.le_refl _⟩, ⟨by (with_reducible repeat (first | refine blk_drewN ?_ _ | refine blk_drew ?_ | refine blk_alloc ?_ _)); exact BK133.out⟩, ⟨by (with_reducible repeat (first | refine blk_drewN ?_ _ | refine blk_drew ?_ | refine blk_alloc ?_ _)); exact BK134.out⟩, ⟨by repeat (first | (with_reducible first | exact HB.out | apply below_alloc | apply pw_below_drewN | apply below_drew1 | refine below_set ?_ GE133.out | refine below_set ?_ GE134.out) | exact HB.out)⟩⟩
        case round =>
          clear H'
          try clear c1
          try clear hcv1
          try clear c2
          try clear p2
          try clear hcv2
          try clear c3
          try clear hcv3
          try clear c4
          try clear hcv4
          try clear c5
          try clear hcv5
          try clear c6
          try clear c6b0
          try clear c6b1
          try clear hcv6
          try clear c7
          try clear c7b0
          try clear c7b1
          try clear hcv7
          try clear c14
          try clear c14b0
          try clear c14b1
          try clear c14b2
          try clear c15
          try clear hcv17
          try clear hcv19
          try clear c20
          try clear c20b0
          try clear c20b1
          try clear c21
          try clear c21b0
          try clear c21b1
          try clear c22
          try clear c22b0
          try clear c22b1
          try clear c23
          try clear c23b0
          try clear c23b1
          try clear c24
          try clear c24b0
          try clear c24b1
          try clear c25
          try clear c25b0
          try clear c25b1
          try clear c26
          try clear hcv28
          try clear hcv30
          try clear c31
          try clear hcv33
          try clear hcv35
          try clear c36
          try clear hcv38
          try clear hcv40
          try clear c41
          try clear hcv43
          try clear hcv45
          try clear c46
          try clear hcv48
          try clear hcv50
          try clear c51
          try clear hcv53
          try clear hcv55
          try clear c56
          try clear hcv58
          try clear hcv60
          try clear c61
          try clear hcv63
          try clear hcv65
          try clear c66
          try clear hcv68
          try clear hcv70
          try clear c71
          try clear hcz16_0
          try clear hcz16_1
          try clear hcz16_10
          try clear hcz16_2
          try clear hcz16_3
          try clear hcz16_4
          try clear hcz16_5
          try clear hcz16_6
          try clear hcz16_7
          try clear hcz16_8
          try clear hcz16_9
          try clear hcz18_0
          try clear hcz18_1
          try clear hcz18_10
          try clear hcz18_2
          try clear hcz18_3
          try clear hcz18_4
          try clear hcz18_5
          try clear hcz18_6
          try clear hcz18_7
          try clear hcz18_8
          try clear hcz18_9
          try clear hcz27_0
          try clear hcz27_1
          try clear hcz27_10
          try clear hcz27_2
          try clear hcz27_3
          try clear hcz27_4
          try clear hcz27_5
          try clear hcz27_6
          try clear hcz27_7
          try clear hcz27_8
          try clear hcz27_9
          try clear hcz29_0
          try clear hcz29_1
          try clear hcz29_10
          try clear hcz29_2
          try clear hcz29_3
          try clear hcz29_4
          try clear hcz29_5
          try clear hcz29_6
          try clear hcz29_7
          try clear hcz29_8
          try clear hcz29_9
          try clear hcz32_0
          try clear hcz32_1
          try clear hcz32_10
          try clear hcz32_2
          try clear hcz32_3
          try clear hcz32_4
          try clear hcz32_5
          try clear hcz32_6
          try clear hcz32_7
          try clear hcz32_8
          try clear hcz32_9
          try clear hcz34_0
          try clear hcz34_1
          try clear hcz34_10
          try clear hcz34_2
          try clear hcz34_3
          try clear hcz34_4
          try clear hcz34_5
          try clear hcz34_6
          try clear hcz34_7
          try clear hcz34_8
          try clear hcz34_9
          try clear hcz37_0
          try clear hcz37_1
          try clear hcz37_10
          try clear hcz37_2
          try clear hcz37_3
          try clear hcz37_4
          try clear hcz37_5
          try clear hcz37_6
          try clear hcz37_7
          try clear hcz37_8
          try clear hcz37_9
          try clear hcz39_0
          try clear hcz39_1
          try clear hcz39_10
          try clear hcz39_2
          try clear hcz39_3
          try clear hcz39_4
          try clear hcz39_5
          try clear hcz39_6
          try clear hcz39_7
          try clear hcz39_8
          try clear hcz39_9
          try clear hcz42_0
          try clear hcz42_1
          try clear hcz42_10
          try clear hcz42_2
          try clear hcz42_3
          try clear hcz42_4
          try clear hcz42_5
          try clear hcz42_6
          try clear hcz42_7
          try clear hcz42_8
          try clear hcz42_9
          try clear hcz44_0
          try clear hcz44_1
          try clear hcz44_10
          try clear hcz44_2
          try clear hcz44_3
          try clear hcz44_4
          try clear hcz44_5
          try clear hcz44_6
          try clear hcz44_7
          try clear hcz44_8
          try clear hcz44_9
          try clear hcz47_0
          try clear hcz47_1
          try clear hcz47_10
          try clear hcz47_2
          try clear hcz47_3
          try clear hcz47_4
          try clear hcz47_5
          try clear hcz47_6
          try clear hcz47_7
          try clear hcz47_8
          try clear hcz47_9
          try clear hcz49_0
          try clear hcz49_1
          try clear hcz49_10
          try clear hcz49_2
          try clear hcz49_3
          try clear hcz49_4
          try clear hcz49_5
          try clear hcz49_6
          try clear hcz49_7
          try clear hcz49_8
          try clear hcz49_9
          try clear hcz52_0
          try clear hcz52_1
          try clear hcz52_10
          try clear hcz52_2
          try clear hcz52_3
          try clear hcz52_4
          try clear hcz52_5
          try clear hcz52_6
          try clear hcz52_7
          try clear hcz52_8
          try clear hcz52_9
          try clear hcz54_0
          try clear hcz54_1
          try clear hcz54_10
          try clear hcz54_2
          try clear hcz54_3
          try clear hcz54_4
          try clear hcz54_5
          try clear hcz54_6
          try clear hcz54_7
          try clear hcz54_8
          try clear hcz54_9
          try clear hcz57_0
          try clear hcz57_1
          try clear hcz57_10
          try clear hcz57_2
          try clear hcz57_3
          try clear hcz57_4
          try clear hcz57_5
          try clear hcz57_6
          try clear hcz57_7
          try clear hcz57_8
          try clear hcz57_9
          try clear hcz59_0
          try clear hcz59_1
          try clear hcz59_10
          try clear hcz59_2
          try clear hcz59_3
          try clear hcz59_4
          try clear hcz59_5
          try clear hcz59_6
          try clear hcz59_7
          try clear hcz59_8
          try clear hcz59_9
          try clear hcz62_0
          try clear hcz62_1
          try clear hcz62_10
          try clear hcz62_2
          try clear hcz62_3
          try clear hcz62_4
          try clear hcz62_5
          try clear hcz62_6
          try clear hcz62_7
          try clear hcz62_8
          try clear hcz62_9
          try clear hcz64_0
          try clear hcz64_1
          try clear hcz64_10
          try clear hcz64_2
          try clear hcz64_3
          try clear hcz64_4
          try clear hcz64_5
          try clear hcz64_6
          try clear hcz64_7
          try clear hcz64_8
          try clear hcz64_9
          try clear hcz67_0
          try clear hcz67_1
          try clear hcz67_10
          try clear hcz67_2
          try clear hcz67_3
          try clear hcz67_4
          try clear hcz67_5
          try clear hcz67_6
          try clear hcz67_7
          try clear hcz67_8
          try clear hcz67_9
          try clear hcz69_0
          try clear hcz69_1
          try clear hcz69_10
          try clear hcz69_2
          try clear hcz69_3
          try clear hcz69_4
          try clear hcz69_5
          try clear hcz69_6
          try clear hcz69_7
          try clear hcz69_8
          try clear hcz69_9
          try clear hfz16_0
          try clear hfz16_1
          try clear hfz16_10
          try clear hfz16_2
          try clear hfz16_3
          try clear hfz16_4
          try clear hfz16_5
          try clear hfz16_6
          try clear hfz16_7
          try clear hfz16_8
          try clear hfz16_9
          try clear hfz18_0
          try clear hfz18_1
          try clear hfz18_10
          try clear hfz18_2
          try clear hfz18_3
          try clear hfz18_4
          try clear hfz18_5
          try clear hfz18_6
          try clear hfz18_7
          try clear hfz18_8
          try clear hfz18_9
          try clear hfz27_0
          try clear hfz27_1
          try clear hfz27_10
          try clear hfz27_2
          try clear hfz27_3
          try clear hfz27_4
          try clear hfz27_5
          try clear hfz27_6
          try clear hfz27_7
          try clear hfz27_8
          try clear hfz27_9
          try clear hfz29_0
          try clear hfz29_1
          try clear hfz29_10
          try clear hfz29_2
          try clear hfz29_3
          try clear hfz29_4
          try clear hfz29_5
          try clear hfz29_6
          try clear hfz29_7
          try clear hfz29_8
          try clear hfz29_9
          try clear hfz32_0
          try clear hfz32_1
          try clear hfz32_10
          try clear hfz32_2
          try clear hfz32_3
          try clear hfz32_4
          try clear hfz32_5
          try clear hfz32_6
          try clear hfz32_7
          try clear hfz32_8
          try clear hfz32_9
          try clear hfz34_0
          try clear hfz34_1
          try clear hfz34_10
          try clear hfz34_2
          try clear hfz34_3
          try clear hfz34_4
          try clear hfz34_5
          try clear hfz34_6
          try clear hfz34_7
          try clear hfz34_8
          try clear hfz34_9
          try clear hfz37_0
          try clear hfz37_1
          try clear hfz37_10
          try clear hfz37_2
          try clear hfz37_3
          try clear hfz37_4
          try clear hfz37_5
          try clear hfz37_6
          try clear hfz37_7
          try clear hfz37_8
          try clear hfz37_9
          try clear hfz39_0
          try clear hfz39_1
          try clear hfz39_10
          try clear hfz39_2
          try clear hfz39_3
          try clear hfz39_4
          try clear hfz39_5
          try clear hfz39_6
          try clear hfz39_7
          try clear hfz39_8
          try clear hfz39_9
          try clear hfz42_0
          try clear hfz42_1
          try clear hfz42_10
          try clear hfz42_2
          try clear hfz42_3
          try clear hfz42_4
          try clear hfz42_5
          try clear hfz42_6
          try clear hfz42_7
          try clear hfz42_8
          try clear hfz42_9
          try clear hfz44_0
          try clear hfz44_1
          try clear hfz44_10
          try clear hfz44_2
          try clear hfz44_3
          try clear hfz44_4
          try clear hfz44_5
          try clear hfz44_6
          try clear hfz44_7
          try clear hfz44_8
          try clear hfz44_9
          try clear hfz47_0
          try clear hfz47_1
          try clear hfz47_10
          try clear hfz47_2
          try clear hfz47_3
          try clear hfz47_4
          try clear hfz47_5
          try clear hfz47_6
          try clear hfz47_7
          try clear hfz47_8
          try clear hfz47_9
          try clear hfz49_0
          try clear hfz49_1
          try clear hfz49_10
          try clear hfz49_2
          try clear hfz49_3
          try clear hfz49_4
          try clear hfz49_5
          try clear hfz49_6
          try clear hfz49_7
          try clear hfz49_8
          try clear hfz49_9
          try clear hfz52_0
          try clear hfz52_1
          try clear hfz52_10
          try clear hfz52_2
          try clear hfz52_3
          try clear hfz52_4
          try clear hfz52_5
          try clear hfz52_6
          try clear hfz52_7
          try clear hfz52_8
          try clear hfz52_9
          try clear hfz54_0
          try clear hfz54_1
          try clear hfz54_10
          try clear hfz54_2
          try clear hfz54_3
          try clear hfz54_4
          try clear hfz54_5
          try clear hfz54_6
          try clear hfz54_7
          try clear hfz54_8
          try clear hfz54_9
          try clear hfz57_0
          try clear hfz57_1
          try clear hfz57_10
          try clear hfz57_2
          try clear hfz57_3
          try clear hfz57_4
          try clear hfz57_5
          try clear hfz57_6
          try clear hfz57_7
          try clear hfz57_8
          try clear hfz57_9
          try clear hfz59_0
          try clear hfz59_1
          try clear hfz59_10
          try clear hfz59_2
          try clear hfz59_3
          try clear hfz59_4
          try clear hfz59_5
          try clear hfz59_6
          try clear hfz59_7
          try clear hfz59_8
          try clear hfz59_9
          try clear hfz62_0
          try clear hfz62_1
          try clear hfz62_10
          try clear hfz62_2
          try clear hfz62_3
          try clear hfz62_4
          try clear hfz62_5
          try clear hfz62_6
          try clear hfz62_7
          try clear hfz62_8
          try clear hfz62_9
          try clear hfz64_0
          try clear hfz64_1
          try clear hfz64_10
          try clear hfz64_2
          try clear hfz64_3
          try clear hfz64_4
          try clear hfz64_5
          try clear hfz64_6
          try clear hfz64_7
          try clear hfz64_8
          try clear hfz64_9
          try clear hfz67_0
          try clear hfz67_1
          try clear hfz67_10
          try clear hfz67_2
          try clear hfz67_3
          try clear hfz67_4
          try clear hfz67_5
          try clear hfz67_6
          try clear hfz67_7
          try clear hfz67_8
          try clear hfz67_9
          try clear hfz69_0
          try clear hfz69_1
          try clear hfz69_10
          try clear hfz69_2
          try clear hfz69_3
          try clear hfz69_4
          try clear hfz69_5
          try clear hfz69_6
          try clear hfz69_7
          try clear hfz69_8
          try clear hfz69_9
          try clear p2
          obtain ⟨x5_2, rfl, HA, HK2, BK133, BK134, HB⟩ := hrel
          cases gk with
          | zero => exact absurd HA.out (by simp [isthmusref7_EqBody.l0])
          | succ k2 =>
            have H := HA.out
            clear HA
            simp only [isthmusref7_EqBody.l0] at H
            by_cases c72 : x5_2 < (l0_9.length : Int)
            · rw [if_pos c72] at H
              have c72b0 : decide (x5_2 < (l0_9.length : Int)) = true := decide_eq_true c72
              clear c72
              by_cases c73 : 0 ≤ x5_2
              · rw [if_pos c73] at H
                have c73b0 : decide (0 ≤ x5_2) = true := decide_eq_true c73
                clear c73
                by_cases c74 : x5_2 < (l1_9.length : Int)
                · rw [if_pos c74] at H
                  have c74b0 : decide (x5_2 < (l1_9.length : Int)) = true := decide_eq_true c74
                  clear c74
                  by_cases c75 : ((rd_T44 l0_9 x5_2).f0) = ((rd_T44 l1_9 x5_2).f0)
                  · rw [if_pos c75] at H
                    have c75b0 : (((rd_T44 l0_9 x5_2).f0) == ((rd_T44 l1_9 x5_2).f0)) = true := beq_iff_eq.mpr c75
                    have c75b1 : (((rd_T44 l0_9 x5_2).f0) != ((rd_T44 l1_9 x5_2).f0)) = false := bne_eq_false_iff_eq.mpr c75
                    clear c75
                    by_cases c76 : ((rd_T44 l0_9 x5_2).f1) = ((rd_T44 l1_9 x5_2).f1)
                    · rw [if_pos c76] at H
                      have c76b0 : (((rd_T44 l0_9 x5_2).f1) == ((rd_T44 l1_9 x5_2).f1)) = true := beq_iff_eq.mpr c76
                      have c76b1 : (((rd_T44 l0_9 x5_2).f1) != ((rd_T44 l1_9 x5_2).f1)) = false := bne_eq_false_iff_eq.mpr c76
                      clear c76
                      have H' := Aside0.mk H
                      clear H
                      have hnb77 := NB133_134.out
                      have hnc77 := NB134_133.out
                      have hcz78_0 : wr.cell? ⟨gb133, 0, none⟩ = some (.slice A0_0 l0_0.length c0_0) := (blk_cell BK133.out 0).trans rfl
                      have hcz78_1 : wr.cell? ⟨gb133, 1, none⟩ = some (.int .i64 a0_1) := (blk_cell BK133.out 1).trans rfl
                      have hcz78_2 : wr.cell? ⟨gb133, 2, none⟩ = some (.bool a0_2) := (blk_cell BK133.out 2).trans rfl
                      have hcz78_3 : wr.cell? ⟨gb133, 3, none⟩ = some (.bool a0_3) := (blk_cell BK133.out 3).trans rfl
                      have hcz78_4 : wr.cell? ⟨gb133, 4, none⟩ = some (.int .i64 a0_4) := (blk_cell BK133.out 4).trans rfl
                      have hcz78_5 : wr.cell? ⟨gb133, 5, none⟩ = some (.int .i64 a0_5) := (blk_cell BK133.out 5).trans rfl
                      have hcz78_6 : wr.cell? ⟨gb133, 6, none⟩ = some (.int .i64 a0_6) := (blk_cell BK133.out 6).trans rfl
                      have hcz78_7 : wr.cell? ⟨gb133, 7, none⟩ = some (.int .i64 a0_7) := (blk_cell BK133.out 7).trans rfl
                      have hcz78_8 : wr.cell? ⟨gb133, 8, none⟩ = some (.int .i64 a0_8) := (blk_cell BK133.out 8).trans rfl
                      have hcz78_9 : wr.cell? ⟨gb133, 9, none⟩ = some (.slice A0_9 l0_9.length c0_9) := (blk_cell BK133.out 9).trans rfl
                      have hcz78_10 : wr.cell? ⟨gb133, 10, none⟩ = some (.int .i64 a0_10) := (blk_cell BK133.out 10).trans rfl
                      have hfz78_0 := blk_frozen BK133.out 0
                      have hfz78_1 := blk_frozen BK133.out 1
                      have hfz78_2 := blk_frozen BK133.out 2
                      have hfz78_3 := blk_frozen BK133.out 3
                      have hfz78_4 := blk_frozen BK133.out 4
                      have hfz78_5 := blk_frozen BK133.out 5
                      have hfz78_6 := blk_frozen BK133.out 6
                      have hfz78_7 := blk_frozen BK133.out 7
                      have hfz78_8 := blk_frozen BK133.out 8
                      have hfz78_9 := blk_frozen BK133.out 9
                      have hfz78_10 := blk_frozen BK133.out 10
                      have p135 : 0 ≤ (x5_2 : Int) := of_decide_eq_true (by first | (with_reducible assumption) | assumption)
                      have q135 : x5_2 < (l0_9.length : Int) := of_decide_eq_true (by first | (with_reducible assumption) | assumption)
                      obtain ⟨ad135, e135, hx135_0, hx135_1⟩ := at_T44 HR0_9.out x5_2 p135 q135
                      cases e135
                      replace hx135_0 := (HB.out.cell (World.block_lt_of_cell? w _ hx135_0)).trans hx135_0
                      replace hx135_1 := (HB.out.cell (World.block_lt_of_cell? w _ hx135_1)).trans hx135_1
                      replace p135 := eq_true p135
                      replace q135 := eq_true q135
                      have hcz79_0 : wr.cell? ⟨gb134, 0, none⟩ = some (.slice A1_0 l1_0.length c1_0) := (blk_cell BK134.out 0).trans rfl
                      have hcz79_1 : wr.cell? ⟨gb134, 1, none⟩ = some (.int .i64 a1_1) := (blk_cell BK134.out 1).trans rfl
                      have hcz79_2 : wr.cell? ⟨gb134, 2, none⟩ = some (.bool a1_2) := (blk_cell BK134.out 2).trans rfl
                      have hcz79_3 : wr.cell? ⟨gb134, 3, none⟩ = some (.bool a1_3) := (blk_cell BK134.out 3).trans rfl
                      have hcz79_4 : wr.cell? ⟨gb134, 4, none⟩ = some (.int .i64 a1_4) := (blk_cell BK134.out 4).trans rfl
                      have hcz79_5 : wr.cell? ⟨gb134, 5, none⟩ = some (.int .i64 a1_5) := (blk_cell BK134.out 5).trans rfl
                      have hcz79_6 : wr.cell? ⟨gb134, 6, none⟩ = some (.int .i64 a1_6) := (blk_cell BK134.out 6).trans rfl
                      have hcz79_7 : wr.cell? ⟨gb134, 7, none⟩ = some (.int .i64 a1_7) := (blk_cell BK134.out 7).trans rfl
                      have hcz79_8 : wr.cell? ⟨gb134, 8, none⟩ = some (.int .i64 a1_8) := (blk_cell BK134.out 8).trans rfl
                      have hcz79_9 : wr.cell? ⟨gb134, 9, none⟩ = some (.slice A1_9 l1_9.length c1_9) := (blk_cell BK134.out 9).trans rfl
                      have hcz79_10 : wr.cell? ⟨gb134, 10, none⟩ = some (.int .i64 a1_10) := (blk_cell BK134.out 10).trans rfl
                      have hfz79_0 := blk_frozen BK134.out 0
                      have hfz79_1 := blk_frozen BK134.out 1
                      have hfz79_2 := blk_frozen BK134.out 2
                      have hfz79_3 := blk_frozen BK134.out 3
                      have hfz79_4 := blk_frozen BK134.out 4
                      have hfz79_5 := blk_frozen BK134.out 5
                      have hfz79_6 := blk_frozen BK134.out 6
                      have hfz79_7 := blk_frozen BK134.out 7
                      have hfz79_8 := blk_frozen BK134.out 8
                      have hfz79_9 := blk_frozen BK134.out 9
                      have hfz79_10 := blk_frozen BK134.out 10
                      have p136 : 0 ≤ (x5_2 : Int) := of_decide_eq_true (by first | (with_reducible assumption) | assumption)
                      have q136 : x5_2 < (l1_9.length : Int) := of_decide_eq_true (by first | (with_reducible assumption) | assumption)
                      obtain ⟨ad136, e136, hx136_0, hx136_1⟩ := at_T44 HR1_9.out x5_2 p136 q136
                      cases e136
                      replace hx136_0 := (HB.out.cell (World.block_lt_of_cell? w _ hx136_0)).trans hx136_0
                      replace hx136_1 := (HB.out.cell (World.block_lt_of_cell? w _ hx136_1)).trans hx136_1
                      replace p136 := eq_true p136
                      replace q136 := eq_true q136
                      have p137 : 0 ≤ (x5_2 : Int) := of_decide_eq_true (by first | (with_reducible assumption) | assumption)
                      have q137 : x5_2 < (l0_9.length : Int) := of_decide_eq_true (by first | (with_reducible assumption) | assumption)
                      obtain ⟨ad137, e137, hx137_0, hx137_1⟩ := at_T44 HR0_9.out x5_2 p137 q137
                      obtain rfl : ad135 = ad137 := (by injection e137)
                      replace hx137_0 := (HB.out.cell (World.block_lt_of_cell? w _ hx137_0)).trans hx137_0
                      replace hx137_1 := (HB.out.cell (World.block_lt_of_cell? w _ hx137_1)).trans hx137_1
                      replace p137 := eq_true p137
                      replace q137 := eq_true q137
                      have p138 : 0 ≤ (x5_2 : Int) := of_decide_eq_true (by first | (with_reducible assumption) | assumption)
                      have q138 : x5_2 < (l1_9.length : Int) := of_decide_eq_true (by first | (with_reducible assumption) | assumption)
                      obtain ⟨ad138, e138, hx138_0, hx138_1⟩ := at_T44 HR1_9.out x5_2 p138 q138
                      obtain rfl : ad136 = ad138 := (by injection e138)
                      replace hx138_0 := (HB.out.cell (World.block_lt_of_cell? w _ hx138_0)).trans hx138_0
                      replace hx138_1 := (HB.out.cell (World.block_lt_of_cell? w _ hx138_1)).trans hx138_1
                      replace p138 := eq_true p138
                      replace q138 := eq_true q138
                      go_wp2
                      repeat (go_quiet (fail); try go_wp2)
                      go_roundg k2
                      case measure => have := HJ2.out; have := HK2.out; omega
                      case rel => exact ⟨(wrap64 (x5_2 + 1)), (by first | rfl | (simp; done) | (simp [*]; done)), H', ⟨by have := HJ2.out; have := HK2.out; omega⟩, ⟨by (with_reducible repeat (first | refine blk_drewN ?_ _ | refine blk_drew ?_ | refine blk_alloc ?_ _)); exact BK133.out⟩, ⟨by (with_reducible repeat (first | refine blk_drewN ?_ _ | refine blk_drew ?_ | refine blk_alloc ?_ _)); exact BK134.out⟩, ⟨by repeat (first | (with_reducible first | exact HB.out | apply below_alloc | apply pw_below_drewN | apply below_drew1 | refine below_set ?_ GE133.out | refine below_set ?_ GE134.out) | exact HB.out)⟩⟩
                    · rw [if_neg c76] at H
                      have c76b0 : (((rd_T44 l0_9 x5_2).f1) == ((rd_T44 l1_9 x5_2).f1)) = false := beq_eq_false_iff_ne.mpr c76
                      have c76b1 : (((rd_T44 l0_9 x5_2).f1) != ((rd_T44 l1_9 x5_2).f1)) = true := bne_iff_ne.mpr c76
                      obtain rfl := Option.some.inj H
                      have hnb80 := NB133_134.out
                      have hnc80 := NB134_133.out
                      have hcz81_0 : wr.cell? ⟨gb133, 0, none⟩ = some (.slice A0_0 l0_0.length c0_0) := (blk_cell BK133.out 0).trans rfl
                      have hcz81_1 : wr.cell? ⟨gb133, 1, none⟩ = some (.int .i64 a0_1) := (blk_cell BK133.out 1).trans rfl
                      have hcz81_2 : wr.cell? ⟨gb133, 2, none⟩ = some (.bool a0_2) := (blk_cell BK133.out 2).trans rfl
                      have hcz81_3 : wr.cell? ⟨gb133, 3, none⟩ = some (.bool a0_3) := (blk_cell BK133.out 3).trans rfl
                      have hcz81_4 : wr.cell? ⟨gb133, 4, none⟩ = some (.int .i64 a0_4) := (blk_cell BK133.out 4).trans rfl
                      have hcz81_5 : wr.cell? ⟨gb133, 5, none⟩ = some (.int .i64 a0_5) := (blk_cell BK133.out 5).trans rfl
                      have hcz81_6 : wr.cell? ⟨gb133, 6, none⟩ = some (.int .i64 a0_6) := (blk_cell BK133.out 6).trans rfl
                      have hcz81_7 : wr.cell? ⟨gb133, 7, none⟩ = some (.int .i64 a0_7) := (blk_cell BK133.out 7).trans rfl
                      have hcz81_8 : wr.cell? ⟨gb133, 8, none⟩ = some (.int .i64 a0_8) := (blk_cell BK133.out 8).trans rfl
                      have hcz81_9 : wr.cell? ⟨gb133, 9, none⟩ = some (.slice A0_9 l0_9.length c0_9) := (blk_cell BK133.out 9).trans rfl
                      have hcz81_10 : wr.cell? ⟨gb133, 10, none⟩ = some (.int .i64 a0_10) := (blk_cell BK133.out 10).trans rfl
                      have hfz81_0 := blk_frozen BK133.out 0
                      have hfz81_1 := blk_frozen BK133.out 1
                      have hfz81_2 := blk_frozen BK133.out 2
                      have hfz81_3 := blk_frozen BK133.out 3
                      have hfz81_4 := blk_frozen BK133.out 4
                      have hfz81_5 := blk_frozen BK133.out 5
                      have hfz81_6 := blk_frozen BK133.out 6
                      have hfz81_7 := blk_frozen BK133.out 7
                      have hfz81_8 := blk_frozen BK133.out 8
                      have hfz81_9 := blk_frozen BK133.out 9
                      have hfz81_10 := blk_frozen BK133.out 10
                      have p135 : 0 ≤ (x5_2 : Int) := of_decide_eq_true (by first | (with_reducible assumption) | assumption)
                      have q135 : x5_2 < (l0_9.length : Int) := of_decide_eq_true (by first | (with_reducible assumption) | assumption)
                      obtain ⟨ad135, e135, hx135_0, hx135_1⟩ := at_T44 HR0_9.out x5_2 p135 q135
                      cases e135
                      replace hx135_0 := (HB.out.cell (World.block_lt_of_cell? w _ hx135_0)).trans hx135_0
                      replace hx135_1 := (HB.out.cell (World.block_lt_of_cell? w _ hx135_1)).trans hx135_1
                      replace p135 := eq_true p135
                      replace q135 := eq_true q135
                      have hcz82_0 : wr.cell? ⟨gb134, 0, none⟩ = some (.slice A1_0 l1_0.length c1_0) := (blk_cell BK134.out 0).trans rfl
                      have hcz82_1 : wr.cell? ⟨gb134, 1, none⟩ = some (.int .i64 a1_1) := (blk_cell BK134.out 1).trans rfl
                      have hcz82_2 : wr.cell? ⟨gb134, 2, none⟩ = some (.bool a1_2) := (blk_cell BK134.out 2).trans rfl
                      have hcz82_3 : wr.cell? ⟨gb134, 3, none⟩ = some (.bool a1_3) := (blk_cell BK134.out 3).trans rfl
                      have hcz82_4 : wr.cell? ⟨gb134, 4, none⟩ = some (.int .i64 a1_4) := (blk_cell BK134.out 4).trans rfl
                      have hcz82_5 : wr.cell? ⟨gb134, 5, none⟩ = some (.int .i64 a1_5) := (blk_cell BK134.out 5).trans rfl
                      have hcz82_6 : wr.cell? ⟨gb134, 6, none⟩ = some (.int .i64 a1_6) := (blk_cell BK134.out 6).trans rfl
                      have hcz82_7 : wr.cell? ⟨gb134, 7, none⟩ = some (.int .i64 a1_7) := (blk_cell BK134.out 7).trans rfl
                      have hcz82_8 : wr.cell? ⟨gb134, 8, none⟩ = some (.int .i64 a1_8) := (blk_cell BK134.out 8).trans rfl
                      have hcz82_9 : wr.cell? ⟨gb134, 9, none⟩ = some (.slice A1_9 l1_9.length c1_9) := (blk_cell BK134.out 9).trans rfl
                      have hcz82_10 : wr.cell? ⟨gb134, 10, none⟩ = some (.int .i64 a1_10) := (blk_cell BK134.out 10).trans rfl
                      have hfz82_0 := blk_frozen BK134.out 0
                      have hfz82_1 := blk_frozen BK134.out 1
                      have hfz82_2 := blk_frozen BK134.out 2
                      have hfz82_3 := blk_frozen BK134.out 3
                      have hfz82_4 := blk_frozen BK134.out 4
                      have hfz82_5 := blk_frozen BK134.out 5
                      have hfz82_6 := blk_frozen BK134.out 6
                      have hfz82_7 := blk_frozen BK134.out 7
                      have hfz82_8 := blk_frozen BK134.out 8
                      have hfz82_9 := blk_frozen BK134.out 9
                      have hfz82_10 := blk_frozen BK134.out 10
                      have p136 : 0 ≤ (x5_2 : Int) := of_decide_eq_true (by first | (with_reducible assumption) | assumption)
                      have q136 : x5_2 < (l1_9.length : Int) := of_decide_eq_true (by first | (with_reducible assumption) | assumption)
                      obtain ⟨ad136, e136, hx136_0, hx136_1⟩ := at_T44 HR1_9.out x5_2 p136 q136
                      cases e136
                      replace hx136_0 := (HB.out.cell (World.block_lt_of_cell? w _ hx136_0)).trans hx136_0
                      replace hx136_1 := (HB.out.cell (World.block_lt_of_cell? w _ hx136_1)).trans hx136_1
                      replace p136 := eq_true p136
                      replace q136 := eq_true q136
                      have p137 : 0 ≤ (x5_2 : Int) := of_decide_eq_true (by first | (with_reducible assumption) | assumption)
                      have q137 : x5_2 < (l0_9.length : Int) := of_decide_eq_true (by first | (with_reducible assumption) | assumption)
                      obtain ⟨ad137, e137, hx137_0, hx137_1⟩ := at_T44 HR0_9.out x5_2 p137 q137
                      obtain rfl : ad135 = ad137 := (by injection e137)
                      replace hx137_0 := (HB.out.cell (World.block_lt_of_cell? w _ hx137_0)).trans hx137_0
                      replace hx137_1 := (HB.out.cell (World.block_lt_of_cell? w _ hx137_1)).trans hx137_1
                      replace p137 := eq_true p137
                      replace q137 := eq_true q137
                      have p138 : 0 ≤ (x5_2 : Int) := of_decide_eq_true (by first | (with_reducible assumption) | assumption)
                      have q138 : x5_2 < (l1_9.length : Int) := of_decide_eq_true (by first | (with_reducible assumption) | assumption)
                      obtain ⟨ad138, e138, hx138_0, hx138_1⟩ := at_T44 HR1_9.out x5_2 p138 q138
                      obtain rfl : ad136 = ad138 := (by injection e138)
                      replace hx138_0 := (HB.out.cell (World.block_lt_of_cell? w _ hx138_0)).trans hx138_0
                      replace hx138_1 := (HB.out.cell (World.block_lt_of_cell? w _ hx138_1)).trans hx138_1
                      replace p138 := eq_true p138
                      replace q138 := eq_true q138
                      go_wp2
                      repeat (go_quiet (fail); try go_wp2)
                      go_ret
                      exact ⟨by first | rfl | (simp [errW_none, errW_some] <;> rfl) | (simp [*, errW_none, errW_some] <;> rfl), by repeat (first | (with_reducible first | exact HB.out | apply below_alloc | apply pw_below_drewN | apply below_drew1 | refine below_set ?_ GE133.out | refine below_set ?_ GE134.out) | exact HB.out)⟩
                  · rw [if_neg c75] at H
                    have c75b0 : (((rd_T44 l0_9 x5_2).f0) == ((rd_T44 l1_9 x5_2).f0)) = false := beq_eq_false_iff_ne.mpr c75
                    have c75b1 : (((rd_T44 l0_9 x5_2).f0) != ((rd_T44 l1_9 x5_2).f0)) = true := bne_iff_ne.mpr c75
                    obtain rfl := Option.some.inj H
                    have hnb83 := NB133_134.out
                    have hnc83 := NB134_133.out
                    have hcz84_0 : wr.cell? ⟨gb133, 0, none⟩ = some (.slice A0_0 l0_0.length c0_0) := (blk_cell BK133.out 0).trans rfl
                    have hcz84_1 : wr.cell? ⟨gb133, 1, none⟩ = some (.int .i64 a0_1) := (blk_cell BK133.out 1).trans rfl
                    have hcz84_2 : wr.cell? ⟨gb133, 2, none⟩ = some (.bool a0_2) := (blk_cell BK133.out 2).trans rfl
                    have hcz84_3 : wr.cell? ⟨gb133, 3, none⟩ = some (.bool a0_3) := (blk_cell BK133.out 3).trans rfl
                    have hcz84_4 : wr.cell? ⟨gb133, 4, none⟩ = some (.int .i64 a0_4) := (blk_cell BK133.out 4).trans rfl
                    have hcz84_5 : wr.cell? ⟨gb133, 5, none⟩ = some (.int .i64 a0_5) := (blk_cell BK133.out 5).trans rfl
                    have hcz84_6 : wr.cell? ⟨gb133, 6, none⟩ = some (.int .i64 a0_6) := (blk_cell BK133.out 6).trans rfl
                    have hcz84_7 : wr.cell? ⟨gb133, 7, none⟩ = some (.int .i64 a0_7) := (blk_cell BK133.out 7).trans rfl
                    have hcz84_8 : wr.cell? ⟨gb133, 8, none⟩ = some (.int .i64 a0_8) := (blk_cell BK133.out 8).trans rfl
                    have hcz84_9 : wr.cell? ⟨gb133, 9, none⟩ = some (.slice A0_9 l0_9.length c0_9) := (blk_cell BK133.out 9).trans rfl
                    have hcz84_10 : wr.cell? ⟨gb133, 10, none⟩ = some (.int .i64 a0_10) := (blk_cell BK133.out 10).trans rfl
                    have hfz84_0 := blk_frozen BK133.out 0
                    have hfz84_1 := blk_frozen BK133.out 1
                    have hfz84_2 := blk_frozen BK133.out 2
                    have hfz84_3 := blk_frozen BK133.out 3
                    have hfz84_4 := blk_frozen BK133.out 4
                    have hfz84_5 := blk_frozen BK133.out 5
                    have hfz84_6 := blk_frozen BK133.out 6
                    have hfz84_7 := blk_frozen BK133.out 7
                    have hfz84_8 := blk_frozen BK133.out 8
                    have hfz84_9 := blk_frozen BK133.out 9
                    have hfz84_10 := blk_frozen BK133.out 10
                    have p135 : 0 ≤ (x5_2 : Int) := of_decide_eq_true (by first | (with_reducible assumption) | assumption)
                    have q135 : x5_2 < (l0_9.length : Int) := of_decide_eq_true (by first | (with_reducible assumption) | assumption)
                    obtain ⟨ad135, e135, hx135_0, hx135_1⟩ := at_T44 HR0_9.out x5_2 p135 q135
                    cases e135
                    replace hx135_0 := (HB.out.cell (World.block_lt_of_cell? w _ hx135_0)).trans hx135_0
                    replace hx135_1 := (HB.out.cell (World.block_lt_of_cell? w _ hx135_1)).trans hx135_1
                    replace p135 := eq_true p135
                    replace q135 := eq_true q135
                    have hcz85_0 : wr.cell? ⟨gb134, 0, none⟩ = some (.slice A1_0 l1_0.length c1_0) := (blk_cell BK134.out 0).trans rfl
                    have hcz85_1 : wr.cell? ⟨gb134, 1, none⟩ = some (.int .i64 a1_1) := (blk_cell BK134.out 1).trans rfl
                    have hcz85_2 : wr.cell? ⟨gb134, 2, none⟩ = some (.bool a1_2) := (blk_cell BK134.out 2).trans rfl
                    have hcz85_3 : wr.cell? ⟨gb134, 3, none⟩ = some (.bool a1_3) := (blk_cell BK134.out 3).trans rfl
                    have hcz85_4 : wr.cell? ⟨gb134, 4, none⟩ = some (.int .i64 a1_4) := (blk_cell BK134.out 4).trans rfl
                    have hcz85_5 : wr.cell? ⟨gb134, 5, none⟩ = some (.int .i64 a1_5) := (blk_cell BK134.out 5).trans rfl
                    have hcz85_6 : wr.cell? ⟨gb134, 6, none⟩ = some (.int .i64 a1_6) := (blk_cell BK134.out 6).trans rfl
                    have hcz85_7 : wr.cell? ⟨gb134, 7, none⟩ = some (.int .i64 a1_7) := (blk_cell BK134.out 7).trans rfl
                    have hcz85_8 : wr.cell? ⟨gb134, 8, none⟩ = some (.int .i64 a1_8) := (blk_cell BK134.out 8).trans rfl
                    have hcz85_9 : wr.cell? ⟨gb134, 9, none⟩ = some (.slice A1_9 l1_9.length c1_9) := (blk_cell BK134.out 9).trans rfl
                    have hcz85_10 : wr.cell? ⟨gb134, 10, none⟩ = some (.int .i64 a1_10) := (blk_cell BK134.out 10).trans rfl
                    have hfz85_0 := blk_frozen BK134.out 0
                    have hfz85_1 := blk_frozen BK134.out 1
                    have hfz85_2 := blk_frozen BK134.out 2
                    have hfz85_3 := blk_frozen BK134.out 3
                    have hfz85_4 := blk_frozen BK134.out 4
                    have hfz85_5 := blk_frozen BK134.out 5
                    have hfz85_6 := blk_frozen BK134.out 6
                    have hfz85_7 := blk_frozen BK134.out 7
                    have hfz85_8 := blk_frozen BK134.out 8
                    have hfz85_9 := blk_frozen BK134.out 9
                    have hfz85_10 := blk_frozen BK134.out 10
                    have p136 : 0 ≤ (x5_2 : Int) := of_decide_eq_true (by first | (with_reducible assumption) | assumption)
                    have q136 : x5_2 < (l1_9.length : Int) := of_decide_eq_true (by first | (with_reducible assumption) | assumption)
                    obtain ⟨ad136, e136, hx136_0, hx136_1⟩ := at_T44 HR1_9.out x5_2 p136 q136
                    cases e136
                    replace hx136_0 := (HB.out.cell (World.block_lt_of_cell? w _ hx136_0)).trans hx136_0
                    replace hx136_1 := (HB.out.cell (World.block_lt_of_cell? w _ hx136_1)).trans hx136_1
                    replace p136 := eq_true p136
                    replace q136 := eq_true q136
                    go_wp2
                    repeat (go_quiet (fail); try go_wp2)
                    go_ret
                    exact ⟨by first | rfl | (simp [errW_none, errW_some] <;> rfl) | (simp [*, errW_none, errW_some] <;> rfl), by repeat (first | (with_reducible first | exact HB.out | apply below_alloc | apply pw_below_drewN | apply below_drew1 | refine below_set ?_ GE133.out | refine below_set ?_ GE134.out) | exact HB.out)⟩
                · rw [if_neg c74] at H
                  exact absurd H (by simp)
              · rw [if_neg c73] at H
                exact absurd H (by simp)
            · rw [if_neg c72] at H
              have c72b0 : decide (x5_2 < (l0_9.length : Int)) = false := decide_eq_false c72
              clear c72
              obtain rfl := Option.some.inj H
              have hnb86 := NB133_134.out
              have hnc86 := NB134_133.out
              have hcz87_0 : wr.cell? ⟨gb133, 0, none⟩ = some (.slice A0_0 l0_0.length c0_0) := (blk_cell BK133.out 0).trans rfl
              have hcz87_1 : wr.cell? ⟨gb133, 1, none⟩ = some (.int .i64 a0_1) := (blk_cell BK133.out 1).trans rfl
              have hcz87_2 : wr.cell? ⟨gb133, 2, none⟩ = some (.bool a0_2) := (blk_cell BK133.out 2).trans rfl
              have hcz87_3 : wr.cell? ⟨gb133, 3, none⟩ = some (.bool a0_3) := (blk_cell BK133.out 3).trans rfl
              have hcz87_4 : wr.cell? ⟨gb133, 4, none⟩ = some (.int .i64 a0_4) := (blk_cell BK133.out 4).trans rfl
              have hcz87_5 : wr.cell? ⟨gb133, 5, none⟩ = some (.int .i64 a0_5) := (blk_cell BK133.out 5).trans rfl
              have hcz87_6 : wr.cell? ⟨gb133, 6, none⟩ = some (.int .i64 a0_6) := (blk_cell BK133.out 6).trans rfl
              have hcz87_7 : wr.cell? ⟨gb133, 7, none⟩ = some (.int .i64 a0_7) := (blk_cell BK133.out 7).trans rfl
              have hcz87_8 : wr.cell? ⟨gb133, 8, none⟩ = some (.int .i64 a0_8) := (blk_cell BK133.out 8).trans rfl
              have hcz87_9 : wr.cell? ⟨gb133, 9, none⟩ = some (.slice A0_9 l0_9.length c0_9) := (blk_cell BK133.out 9).trans rfl
              have hcz87_10 : wr.cell? ⟨gb133, 10, none⟩ = some (.int .i64 a0_10) := (blk_cell BK133.out 10).trans rfl
              have hfz87_0 := blk_frozen BK133.out 0
              have hfz87_1 := blk_frozen BK133.out 1
              have hfz87_2 := blk_frozen BK133.out 2
              have hfz87_3 := blk_frozen BK133.out 3
              have hfz87_4 := blk_frozen BK133.out 4
              have hfz87_5 := blk_frozen BK133.out 5
              have hfz87_6 := blk_frozen BK133.out 6
              have hfz87_7 := blk_frozen BK133.out 7
              have hfz87_8 := blk_frozen BK133.out 8
              have hfz87_9 := blk_frozen BK133.out 9
              have hfz87_10 := blk_frozen BK133.out 10
              go_wp2
              repeat (go_quiet (fail); try go_wp2)
              go_ret
              exact ⟨by first | rfl | (simp [errW_none, errW_some] <;> rfl) | (simp [*, errW_none, errW_some] <;> rfl), by repeat (first | (with_reducible first | exact HB.out | apply below_alloc | apply pw_below_drewN | apply below_drew1 | refine below_set ?_ GE133.out | refine below_set ?_ GE134.out) | exact HB.out)⟩

end Go.Proofs.Ytbngoaonkhcciaa.PRf
/-! #### PRfx -/
namespace Go.Proofs.Ytbngoaonkhcciaa.PRf
open Go.RowKit Go.Proofs.YtbngoaonkhcciaaW.PrintWords Go.Proofs.YtbngoaonkhcciaaW.PrintLast Go.Proofs.YtbngoaonkhcciaaW.PrintMore
attribute [local go_sem] max2_int min2_int max_two min_two max_three min_three max_four min_four   -- for this text's walks alone
set_option linter.unusedVariables false
set_option linter.unusedSimpArgs false

end Go.Proofs.Ytbngoaonkhcciaa.PRf
