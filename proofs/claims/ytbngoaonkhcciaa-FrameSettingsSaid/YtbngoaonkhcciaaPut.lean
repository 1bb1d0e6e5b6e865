/- frame: Put. -/
import Derived.Test.YtbngoaonkhcciaaBr
import Derived.Test.YtbngoaonkhcciaaRng5
set_option linter.all false
namespace Go.Proofs.Ytbngoaonkhcciaa
open Go.ChangeShapes Go.WideShapes Go.ChangeAt Go.RowKit Go.Proofs.YtbngoaonkhcciaaW.PrintWords
attribute [local go_sem] setCell_drewN alloc_drewN Oper.semAt_some
theorem wpIn_made {F : Fence} {n : Nat} {P : Program} {o : Oper} {a : Act} {w w' : World} {v : Value} {K : Act → World → Prop} {Q : Exit → Act → World → Prop} {t : TypeId} {l c : Operand} (ho : o.op = .makeSlice t l c)
    (h : (Instr.makeSlice t (a.eval l) (a.eval c)).run P w = .ok v w') (hK : K (a.put o.dst v) w') : o.wpIn F n P a w K Q := by
  unfold Oper.wpIn
  have hrun : (execOp a.eval o).run P w = .ok (.value v) w' := by unfold execOp; simp only [ho, Sem.run_bind, h, Result.andThen_ok]; rfl
  rw [Oper.semAt_eq _ _ _ (fun c e => by rw [ho] at e; cases e), hrun]
  have ha : o.about P w a.eval = none := by simp [Oper.about, ho]
  rw [ha]
  refine ⟨fun f hf => (by cases hf), ?_⟩
  rw [Oper.uponIn_value]
  exact hK
section
variable (w : World) {A : Option Addr} {n c : Nat} {bs : List UInt8} {t f s : Int}
theorem put_arg (h : t < 0 ∨ 255 < t ∨ f < 0 ∨ 255 < f ∨ s < 0 ∨ 2147483647 < s) :
    Calls Try.prog 10 #[.agg #[.int .i64 t, .int .i64 f, .int .i64 s, .slice A n c]] w fun e w' => e = .returned (.tuple #[.slice none 0 0, .int .i64 1]) ∧ Keep [] w w' := by
  go_enter Try.func10, Try.ntmps10
  by_cases h1 : t < 0
  · go_wp2
    go_ret2
    exact ⟨rfl, (Keep.refl _ _).alloc _⟩
  by_cases h2 : 255 < t
  · go_wp2
    go_ret2
    exact ⟨rfl, (Keep.refl _ _).alloc _⟩
  by_cases h3 : f < 0
  · go_wp2
    go_ret2
    exact ⟨rfl, (Keep.refl _ _).alloc _⟩
  by_cases h4 : 255 < f
  · go_wp2
    go_ret2
    exact ⟨rfl, (Keep.refl _ _).alloc _⟩
  by_cases h5 : s < 0
  · go_wp2
    go_ret2
    exact ⟨rfl, (Keep.refl _ _).alloc _⟩
  have h6 : 2147483647 < s := by omega
  go_wp2
  go_ret2
  exact ⟨rfl, (Keep.refl _ _).alloc _⟩
theorem put_long (h1 : ¬ t < 0) (h2 : ¬ 255 < t) (h3 : ¬ f < 0) (h4 : ¬ 255 < f) (h5 : ¬ s < 0) (h6 : ¬ 2147483647 < s) (h : 16777215 < n) :
    Calls Try.prog 10 #[.agg #[.int .i64 t, .int .i64 f, .int .i64 s, .slice A n c]] w fun e w' => e = .returned (.tuple #[.slice none 0 0, .int .i64 2]) ∧ Keep [] w w' := by
  have h7 : (16777215 : Int) < (n : Int) := by omega
  go_enter Try.func10, Try.ntmps10
  go_wp2
  go_ret2
  exact ⟨rfl, (Keep.refl _ _).alloc _⟩
set_option maxHeartbeats 2000000 in
theorem put_ (tb fb : UInt8) (hr : Reads w w.heap.size 1 A n (encB bs)) (h5 : ¬ s < 0) (h6 : ¬ 2147483647 < s) (h : ¬ 16777215 < n) :
    Calls Try.prog 10 #[.agg #[.int .i64 tb.toNat, .int .i64 fb.toNat, .int .i64 s, .slice A n c]] w fun e w' => ∃ v, e = .returned (.tuple #[v, .int .i64 0]) ∧ Row1 w' w.heap.size 5 v (encB (beB 3 n ++ [tb, fb] ++ beB 4 s ++ bs)) ∧ Keep [] w w' := by
  have h7 : ¬ (16777215 : Int) < (n : Int) := by omega
  have ltb := tb.toNat_lt
  have lfb := fb.toNat_lt
  have h1 : ¬ (tb.toNat : Int) < 0 := by omega
  have h2 : ¬ (255 : Int) < (tb.toNat : Int) := by omega
  have h3 : ¬ (fb.toNat : Int) < 0 := by omega
  have h4 : ¬ (255 : Int) < (fb.toNat : Int) := by omega
  have e1 : IntKind.u8.wrap (tb.toNat : Int) = (tb.toNat : Int) := by rw [IntKind.wrap_u8]; omega
  have e2 : IntKind.u8.wrap (fb.toNat : Int) = (fb.toNat : Int) := by rw [IntKind.wrap_u8]; omega
  have Hr := Lib.hid hr
  clear hr
  go_enter Try.func10, Try.ntmps10
  go_wp2_with (fail)
  obtain ⟨cs, hcs⟩ : ∃ cs : Array Value, cs = #[.int .i64 tb.toNat, .int .i64 fb.toNat, .int .i64 s, .slice A n c] := ⟨_, rfl⟩
  rw [← hcs]
  obtain ⟨w1, hw1⟩ : ∃ w1, w1 = w.alloc (.cells cs 24) := ⟨_, rfl⟩
  have K1 : Keep [] w w1 := by rw [hw1]; exact (Keep.refl _ _).alloc _
  have b1 : Blk w1 w.heap.size 24 cs := by rw [hw1]; exact Blk.new _ _ _
  have sz1 : w1.heap.size = w.heap.size + 1 := by rw [hw1]; simp
  rw [← hw1]
  clear hw1
  obtain ⟨g, hg⟩ : ∃ g, g = w.heap.size := ⟨_, rfl⟩
  rw [← hg] at b1 sz1 ⊢
  have HS := Lib.hid h
  have H1 := Lib.hid (And.intro h5 h6)
  have HE1 := Lib.hid e1
  have HE2 := Lib.hid e2
  clear h h1 h2 h3 h4 h5 h6 h7 e1 e2 ltb lfb
  refine wpIn_wide.1 (region_rtc (n := 0) [(4, true), (8, false), (9, false)] []
    [(0, .pointer (some ⟨g, 3, none⟩)), (1, .slice A n c), (2, .int .i64 n), (3, .int .i64 (9 + n : Int)), (5, .pointer (some ⟨g, 3, none⟩)), (6, .slice A n c), (7, .int .i64 n)]
    (fun W => Keep [] w1 W) (by kernel_rfl) (by kernel_rfl) ((Keep.refl _ _).drew) ?_ ?_)
  · simp only [evOkC, putAll, List.getElem?_toArray, List.getElem?_cons_zero, List.getElem?_cons_succ, Option.bind_some, Act.put, List.setIfInBounds_toArray, List.set_cons_zero, List.set_cons_succ]
    repeat' apply And.intro
    all_goals first
      | exact trivial
      | (intro W hW; have hc := (b1.keep hW (by simp)).cell 3; rw [hcs] at hc; simp at hc; refine gives_read rfl ?_; simp [go_sem, hc, Addr.add]; done)
      | skip
    · intro W hW
      have e : IntKind.i64.wrap (9 + (n : Int)) = 9 + (n : Int) := by rw [IntKind.wrap_i64]; have := HS.out; omega
      exact gives_read rfl (by simp [go_sem, e]; done)
  · simp only [putAll, List.getElem?_toArray, List.getElem?_cons_zero, List.getElem?_cons_succ, Option.bind_some, Act.put, List.setIfInBounds_toArray, List.set_cons_zero, List.set_cons_succ]
    obtain ⟨i0, z0, hi, hz, hz0, hz1, hz2⟩ := u8_info
    have hmk := run_make (P := Try.prog) w1.drew 22 5 i0 z0 Try.underlying22 hi hz .i64 .i64 0 (9 + (n : Int)) (by omega) (by omega) (by rw [hz1]; have := HS.out; omega) (by have := HS.out; omega)
    refine tail_wanted rfl rfl ?_
    refine wpIn_made rfl hmk ?_
    refine ⟨rfl, ⟨fun _ => (Keep.refl _ _).drew.alloc _, gHolds_none rfl⟩, ?_⟩
    have hown : (w1.drew.alloc (.cells (madeCells z0.cells ((9 + (n : Int)).toNat * i0.size)) 5)).ownsRow w1.heap.size 5 1 (.slice (some ⟨w1.heap.size, 0, none⟩) 0 (9 + (n : Int)).toNat) 0 (encB []) := by
      refine ⟨rfl, .inr ⟨w1.heap.size, _, madeCells z0.cells ((9 + (n : Int)).toNat * i0.size), rfl, Nat.le_refl _, ?_, by omega, ?_, ?_, rfl⟩⟩
      · exact Blk.new w1.drew _ _
      · have := HS.out
        unfold maxLen
        omega
      · rw [size_madeCells, hz0]
    obtain ⟨W2, hW2⟩ : ∃ W2, W2 = w1.drew.alloc (.cells (madeCells z0.cells ((9 + (n : Int)).toNat * i0.size)) 5) := ⟨_, rfl⟩
    have K2 : Keep [] w1 W2 := by rw [hW2]; exact (Keep.refl _ _).drew.alloc _
    have L2 := Lib.hid (lay_ w1 W2 _ 0 3 n [] (K2.below (Nat.le_refl _) (by simp)) (by rw [hW2]; exact hown) (by omega) (by omega))
    rw [← hW2]
    clear hW2 hown hmk
    refine tail_wanted rfl rfl ?_
    simp [go_sem]
    refine ⟨trivial, rfl, (callsIn_wide.2 L2.out).mono ?_⟩
    rintro e W3 ⟨v3, rfl, o3, B3, m3, k3⟩
    refine ⟨gHolds_none rfl, ?_⟩
    refine tail_wanted rfl rfl ?_
    simp [go_sem]
    refine ⟨gHolds_none rfl, ?_⟩
    unfold wpTailG
    go_at_K
    have KK3 : Keep [] w1 W3 := ⟨B3.os, B3.tape, B3.output, B3.size, fun i hi _ => B3.block i hi⟩
    have c3 := b1.keep KK3 (by simp)
    have HK1 := Lib.hid K1
    rw [hcs] at c3
    have d0 := c3.cell 0
    have d1 := c3.cell 1
    simp at d0 d1
    have o3 : W3.ownsRow w1.heap.size 5 1 v3 3 (encB (beB 3 n)) := by simpa using o3
    have HCS := Lib.hid hcs
    have HO3 := Lib.hid o3
    have HHi := Lib.hid hi
    have HHz := Lib.hid (And.intro hz (And.intro hz0 (And.intro hz1 hz2)))
    have HB3 := Lib.hid B3
    have Hsz1 := Lib.hid sz1
    have Hb1 := Lib.hid b1
    have e1 := HE1.out
    have e2 := HE2.out
    clear o3 B3 m3 k3 KK3 K2 L2 hcs K1 sz1 hg b1
    clear hi hz hz0 hz1 hz2
    go_wp2_with (at_builtin; apply wpList_append_any _ rfl _ _ _ rfl w1.heap.size 5 i0 z0 1 1 Try.underlying22 HHi.out HHz.out.1 HHz.out.2.1 HHz.out.2.2.1 HHz.out.2.2.2 (by omega) v3 3 (encB (beB 3 n)) rfl (own_keep HO3.out ((Keep.refl [] W3).alloc _) (by simp)) (W3.heap.size + 1) (some ⟨W3.heap.size, 0, none⟩) 2 2 (encB [tb, fb]) rfl (reads_new W3 #[.int .u8 tb.toNat, .int .u8 fb.toNat] 5 (0, 0) 1 2 rfl) encB_one (by unfold maxLen; omega) (by omega) (by have := HB3.out.size; simp; omega); intro v4 W4 o4 g4 m4)
    rw [← encB_append] at o4
    have g4' : W3.grownBy W4 v3.ownBlock := ⟨g4.os, g4.tape, g4.output, by have := g4.size; simp at this; omega, fun i hi hne => (g4.block i (by simp; omega) hne).trans (Below.heap_alloc _ _ _ hi)⟩
    have own3 := own_lt HO3.out
    have base3 := own_base HO3.out
    have B4 : Below w1.heap.size w1 W4 := HB3.out.grown g4' HB3.out.size (fun k hk => base3 k hk)
    have KK4 : Keep [] w1 W4 := ⟨B4.os, B4.tape, B4.output, B4.size, fun i hi _ => B4.block i hi⟩
    have b4 := Hb1.out.keep KK4 (by simp)
    have HO4 := Lib.hid o4
    have HB4 := Lib.hid B4
    have Hb4 := Lib.hid b4
    have rp4 := Lib.hid (Hr.out.keeps (HK1.out.trans KK4) (Nat.le_refl _) (by simp))
    have sz4 := Lib.hid (show w1.heap.size ≤ W4.heap.size from B4.size)
    have ne4 : ∀ k, v4.ownBlock = some k → w1.heap.size ≤ k := own_base o4
    have Hne4 := Lib.hid ne4
    have L4 := Lib.hid (fun W (hB : Below w1.heap.size w1 W) (ho : W.ownsRow w1.heap.size 5 1 v4 5 (encB (beB 3 n ++ [tb, fb]))) => lay_ w1 W v4 5 4 s (beB 3 n ++ [tb, fb]) hB ho (by omega) (by omega))
    clear o4 g4 m4 g4' own3 base3 B4 KK4 b4 ne4 HO3 HB3 c3 d0 d1 e1 e2 o3
    refine wpIn_wide.1 (region_rtc (n := 0) [(3, true), (6, false), (7, false), (8, false)] []
      [(0, v4), (1, .pointer (some ⟨g, 2, none⟩)), (2, .int .i64 s), (4, .pointer (some ⟨g, 3, none⟩)), (5, .slice A n c)]
      (fun W => Keep [] w1 W) (by kernel_rfl) (by kernel_rfl) ⟨HB4.out.os, HB4.out.tape, HB4.out.output, HB4.out.size, fun i hi _ => HB4.out.block i hi⟩ ?_ ?_)
    · simp only [evOkC, putAll, List.getElem?_toArray, List.getElem?_cons_zero, List.getElem?_cons_succ, Option.bind_some, Act.put, List.setIfInBounds_toArray, List.set_cons_zero, List.set_cons_succ]
      repeat' apply And.intro
      all_goals first
        | exact trivial
        | (intro W hW; have hc := (Hb1.out.keep hW (by simp)).cell 3; have hc2 := (Hb1.out.keep hW (by simp)).cell 2; rw [HCS.out] at hc hc2; simp at hc hc2; refine gives_read rfl ?_; simp [go_sem, hc, hc2, Addr.add]; done)
    · simp only [putAll, List.getElem?_toArray, List.getElem?_cons_zero, List.getElem?_cons_succ, Option.bind_some, Act.put, List.setIfInBounds_toArray, List.set_cons_zero, List.set_cons_succ]
      refine tail_wanted rfl rfl ?_
      simp [go_sem]
      refine ⟨trivial, rfl, (callsIn_wide.2 (L4.out W4.drew HB4.out.drew (own_keep HO4.out (Keep.refl [] W4).drew (by simp)))).mono ?_⟩
      rintro e W5 ⟨v5, rfl, o5, B5, m5, k5⟩
      have KK5 : Keep [] w1 W5 := ⟨B5.os, B5.tape, B5.output, B5.size, fun i hi _ => B5.block i hi⟩
      refine ⟨⟨KK5, gHolds_none rfl⟩, ?_⟩
      rw [List.append_assoc] at o5
      refine tail_wanted rfl rfl ?_
      refine wpIn_append_any W5 _ _ _ rfl w1.heap.size 5 i0 z0 1 1 Try.underlying22 HHi.out HHz.out.1 HHz.out.2.1 HHz.out.2.2.1 HHz.out.2.2.2 (by omega) v5 9 _ rfl o5 w.heap.size A n c (encB bs) rfl (Hr.out.keeps (HK1.out.trans KK5) (Nat.le_refl _) (by simp)) encB_one (by have := HS.out; unfold maxLen; omega) (by have := HS.out; omega) B5.size ?_
      intro v6 W6 o6 g6 m6
      refine ⟨rfl, ⟨(by intro h; cases h), gHolds_none rfl⟩, ?_⟩
      rw [← encB_append] at o6
      have base5 := own_base o5
      have B6 : Below w1.heap.size w1 W6 := B5.grown g6 B5.size (fun k hk => base5 k hk)
      have KF : Keep [] w W6 := HK1.out.trans ⟨B6.os, B6.tape, B6.output, B6.size, fun i hi _ => B6.block i hi⟩
      refine tail_wanted rfl rfl ?_
      simp [go_sem]
      refine ⟨gHolds_none rfl, ?_⟩
      refine tail_wanted rfl rfl ?_
      simp [go_sem]
      refine ⟨gHolds_none rfl, ?_⟩
      unfold wpTailG
      go_at_K
      go_wp2_with (fail)
      go_ret2
      refine ⟨v6, rfl, ?_, KF⟩
      rw [List.append_assoc (beB 3 n)]
      exact (Row1.of_own o6).lower (by have := HK1.out.size; omega)
end
end Go.Proofs.Ytbngoaonkhcciaa
