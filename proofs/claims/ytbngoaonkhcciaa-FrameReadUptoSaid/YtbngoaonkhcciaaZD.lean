/- Own texts in one: SetIt Mk8 Begun PureP Body RBody LawRead FrameV LawOwn. -/
import Derived.Test.YtbngoaonkhcciaaZC
import Derived.Maps.OwnIn
import Derived.Maps.Views
import Derived.Test.YtbngoaonkhcciaaZB
import Derived.Test.YtbngoaonkhcciaaZP
import Derived.Test.YtbngoaonkhcciaaZE
import Derived.Test.YtbngoaonkhcciaaZA
import Derived.Test.YtbngoaonkhcciaaZF
import Derived.Deep.DeepCutAuto
/-! #### SetIt -/
set_option linter.all false
namespace Go.Proofs.Ytbngoaonkhcciaa
open Go.ChangeShapes Go.WideShapes Go.ChangeAt Go.RowKit
attribute [local go_sem] setCell_drewN alloc_drewN Oper.semAt_some
/-- the last place, of the first i, at which k stands; 0: none -/
def lastTo (ss : List (Int × Int)) : Nat → Int → Nat
  | 0, _ => 0
  | i + 1, k => if (ss.getD i (0, 0)).1 = k then i else lastTo ss i k
/-- the map of the last places -/
def MapIs (w : World) (mb n : Nat) (ss : List (Int × Int)) : Prop :=
  ∃ D : DataW Unit, w.ownsMap Try.prog 3 (plainElem Try.prog 3) mb n D ∧ Maps.IsMap D ∧ ∀ k, (Lit.int .i64 k).wf = true → D.atKey (.int .i64 k) (.lit (.int .i64 0)) = .lit (.int .i64 (lastTo ss n k : Nat))
theorem MapIs.same {w w' : World} {mb n : Nat} {ss : List (Int × Int)} (h : MapIs w mb n ss) (he : w'.heap[mb]? = w.heap[mb]?) : MapIs w' mb n ss := by
  obtain ⟨D, ⟨es, clock, hb, r⟩, h2⟩ := h
  exact ⟨D, ⟨es, clock, he.trans hb, r⟩, h2⟩
theorem MapIs.lt {w : World} {mb n : Nat} {ss : List (Int × Int)} (h : MapIs w mb n ss) : mb < w.heap.size := by
  obtain ⟨D, ho, _⟩ := h
  exact ho.lt
theorem MapIs.empty (w : World) (ss : List (Int × Int)) : MapIs (w.alloc (.map #[] 0)) w.heap.size 0 ss :=
  ⟨.map [], World.ownsMap_made w _ _ _, Maps.isMap_empty, fun k _ => rfl⟩
theorem zero_int (w : World) : (zeroValue 3).run Try.prog w = .ok (.int .i64 0) w := by
  obtain ⟨i, hi⟩ : ∃ i, Try.prog.info? 3 = some i := Option.isSome_iff_exists.1 (by kernel_rfl)
  have h : (Try.prog.info? 3).bind (·.zero) = some (.int .i64 0) := by kernel_rfl
  rw [hi] at h
  simp at h
  simp [zeroValue, typeInfo, hi, h, Sem.run_bind]
theorem kInt : Maps.Keyed Try.prog 3 := Maps.int_keyed (q := .i64) Try.underlying3
theorem MapIs.step {w : World} {mb n : Nat} {ss : List (Int × Int)} (h : MapIs w mb n ss) (hn : n < maxLen) (k : Int) (hk : (Lit.int .i64 k).wf = true) (hw : (Lit.int .i64 (n : Int)).wf = true) (hs : (ss.getD n (0, 0)).1 = k) :
    ∃ w', (Instr.mapUpdate 67 (.map (some mb)) (.int .i64 k) (.int .i64 n)).run Try.prog w = .ok () w' ∧ MapIs w' mb (n + 1) ss ∧ Keep [mb] w w' := by
  obtain ⟨D, ho, hm, ha⟩ := h
  have hkey : keyOf Try.prog 3 (.int .i64 k) = some (.int .i64 k) := Maps.keyOf_int_mk Try.underlying3 hk
  obtain ⟨w', hr, h1, h2⟩ := ho.update kInt Try.underlying67 hn hkey (plainElem_int Try.underlying3 hw)
  refine ⟨w', hr, ⟨_, h1, hm.put _ _, fun k' hk' => ?_⟩, Keep.of_only h2⟩
  unfold lastTo
  rw [hs]
  by_cases e : k = k'
  · subst e
    rw [if_pos rfl, Maps.atKey_put_same hm (by exact trivial)]
  · rw [if_neg e, Maps.atKey_put_other (by intro h; injection h with _ h; exact e h.symm), ha k' hk']
theorem MapIs.look {w : World} {mb n : Nat} {ss : List (Int × Int)} (h : MapIs w mb n ss) (k : Int) (hk : (Lit.int .i64 k).wf = true) : (Instr.lookup 67 (.map (some mb)) (.int .i64 k) false).run Try.prog w = .ok (.int .i64 (lastTo ss n k : Nat)) w := by
  obtain ⟨D, ho, hm, ha⟩ := h
  have hkey : keyOf Try.prog 3 (.int .i64 k) = some (.int .i64 k) := Maps.keyOf_int_mk Try.underlying3 hk
  obtain ⟨c, hr, h1, _⟩ := ho.lookup_int kInt Try.underlying67 Try.underlying3 (zero_int w) hkey
  rw [ha k hk] at h1
  injection h1 with h1
  injection h1 with _ h1
  rw [hr, h1]
/-- what the walk asks of a world: the slice's cell and its settings -/
structure SF (s : Nat) (W : World) (c1 : Nat) (A : Option Addr) (n c : Nat) (ss : List (Int × Int)) : Prop where
  b1 : Blk W c1 34 #[.slice A n c]
  rd : Reads W s 2 A n (encS ss)
  sz : s ≤ W.heap.size
theorem SF.keep {s c1 n c : Nat} {A : Option Addr} {ss : List (Int × Int)} {W W' : World} {gs : List Nat} (h : SF s W c1 A n c ss) (k : Keep gs W W') (hg : c1 ∉ gs) (hA : 0 < n → ∀ ad, A = some ad → ad.block ∉ gs) : SF s W' c1 A n c ss :=
  ⟨h.b1.keep k hg, h.rd.kept k h.sz hA, by have := h.sz; have := k.size; omega⟩
theorem encS_at {ss : List (Int × Int)} {i : Nat} (h : i < ss.length) : (encS ss)[i * 2]? = some (.int .i64 (ss.getD i (0, 0)).1) ∧ (encS ss)[i * 2 + 1]? = some (.int .i64 (ss.getD i (0, 0)).2) := by
  induction ss generalizing i with
  | nil => simp at h
  | cons a ss ih =>
    cases i with
    | zero => exact ⟨rfl, rfl⟩
    | succ i =>
      have := ih (i := i) (by simpa using h)
      have e1 : (i + 1) * 2 = i * 2 + 1 + 1 := by omega
      have e2 : encS (a :: ss) = [.int .i64 a.1, .int .i64 a.2] ++ encS ss := by simp [encS]
      rw [e1, e2]
      constructor
      · rw [List.getElem?_append_right (by simp)]
        simpa using this.1
      · rw [List.getElem?_append_right (by simp)]
        simpa using this.2
set_option maxRecDepth 100000 in
set_option maxHeartbeats 4000000 in
theorem setIt {m l s c1 : Nat} {A : Option Addr} {n c : Nat} {ss : List (Int × Int)} (hn : ss.length = n) (hnc : n ≤ c) (hcm : c ≤ 9223372036854775807) (hwf : ∀ p ∈ ss, (Lit.int .i64 p.1).wf = true)
    (J : Nat → World → Prop) (K : World → Prop) (hJ : ∀ j W, J j W → SF s W c1 A n c ss) (W0 : World)
    (hst : ∀ j W W', J j W → Keep [W0.heap.size] W W' → J j W')
    (hskip : ∀ j W, J j W → j < n → ¬ lastTo ss n (ss.getD j (0, 0)).1 = j → J (j + 1) W)
    (hround : ∀ j W, J j W → j < n → lastTo ss n (ss.getD j (0, 0)).1 = j → W0.heap.size < W.heap.size →
      YieldAt Fence.wide m Try.prog l #[.int .i64 j, .agg #[.int .i64 (ss.getD j (0, 0)).1, .int .i64 (ss.getD j (0, 0)).2]] W fun e W' => W'.heap[W0.heap.size]? = W.heap[W0.heap.size]? ∧ ((e = .returned (.bool true) ∧ J (j + 1) W') ∨ (e = .returned (.bool false) ∧ K W')))
    (h1 : c1 < W0.heap.size) (hs : s ≤ W0.heap.size) (h0 : J 0 W0) :
    CallsIn Fence.wide (m + 1) Try.prog 37 #[.func (.yield l) #[] #[], .pointer (some ⟨c1, 0, none⟩)] W0 fun e W' => (∃ v, e = .returned v) ∧ (J n W' ∨ K W') := by
  have cf0 := hJ _ _ h0
  have p1 := cf0.b1.cell 0
  simp at p1
  have Hst := Lib.hid hst
  have HR := Lib.hid hround
  have HSK := Lib.hid hskip
  have HJ := Lib.hid hJ
  have HW := Lib.hid hwf
  clear hst hround hskip hJ hwf
  refine callsIn_of_wp Try.func37 rfl trivial ?_ rfl
  simp only [Try.ntmps37, List.size_toArray, List.length_cons, List.length_nil, Nat.reduceAdd, Nat.reduceSub, Array.replicate_succ, Array.replicate_zero, List.push_toArray, List.append_toArray, List.nil_append, List.cons_append]
  have hmk : (Instr.makeMap 67 none).run Try.prog W0 = .ok (.map (some W0.heap.size)) (W0.alloc (.map #[] 0)) := rfl
  have M0 := MapIs.empty W0 ss
  gi_wp2
  have JL := Hst.out _ _ _ h0 (((Keep.refl [] W0).alloc (.map #[] 0)).more (by simp))
  obtain ⟨W1, hW1⟩ : ∃ W1, W1 = W0.alloc (.map #[] 0) := ⟨_, rfl⟩
  have s1 : W1.heap.size = W0.heap.size + 1 := by rw [hW1]; simp
  rw [← hW1] at M0 JL ⊢
  clear hW1 hmk p1 cf0 h0
  obtain ⟨mb, hmb⟩ : ∃ mb, mb = W0.heap.size := ⟨_, rfl⟩
  rw [← hmb] at M0 HR Hst h1 hs s1 ⊢
  clear hmb
  gi_loopw [11] (fun vi wr => ∃ i : Nat, vi = .int .i64 i ∧ i ≤ n ∧ MapIs wr mb i ss ∧ J 0 wr ∧ mb < wr.heap.size) (fun vi _ => n - (intOf vi).toNat)
  case atStart => exact ⟨0, rfl, by omega, M0, JL, by omega⟩
  case round =>
    obtain ⟨i, rfl, hi, hm, hj, hlt⟩ := hrel
    have cf := HJ.out _ _ hj
    by_cases hin : i < n
    · have k1 : (i : Int) < (n : Int) := by omega
      have hit : i < ss.length := by omega
      obtain ⟨q1, q2⟩ := encS_at hit
      obtain ⟨b2, o2, rfl, hbl, hcell⟩ := cf.rd.plain (by omega) (by omega)
      have hwf := HW.out _ (by
        have : ss.getD i (0, 0) = ss[i] := by rw [List.getD_eq_getElem?_getD, List.getElem?_eq_getElem hit]; rfl
        rw [this]
        exact List.getElem_mem hit : ss.getD i (0, 0) ∈ ss)
      obtain ⟨⟨id, vv⟩, hp⟩ : ∃ p, ss.getD i (0, 0) = p := ⟨_, rfl⟩
      rw [hp] at q1 q2 hwf
      have c0 := hcell _ _ q1
      have c1' := hcell _ _ q2
      rw [← Nat.add_assoc] at c1'
      clear q1 q2 hcell hit
      have HP := Lib.hid hp
      have HWF := Lib.hid hwf
      clear hp hwf
      obtain ⟨w', hup, hm', kk⟩ := (hm.same (Below.heap_alloc wr (.cells #[.int .i64 id, .int .i64 vv] 44) mb hlt)).step (by unfold maxLen; omega) id HWF.out (by simp [Lit.wf, IntKind.min, IntKind.max, IntKind.signed, IntKind.bits]; omega) (by rw [HP.out])
      have JW := Hst.out _ _ _ hj ((((Keep.refl [mb] wr).alloc (.cells #[.int .i64 id, .int .i64 vv] 44))).trans kk)
      have zk := kk.size
      simp at zk
      have HM := Lib.hid hm'
      clear hm' kk
      gi_wp2
      exact ⟨⟨i + 1, by go_num, by omega, HM.out, JW, by omega⟩, by simp [intOf]; omega⟩
    · have k1 : ¬ (i : Int) < (n : Int) := by omega
      obtain rfl : i = n := by omega
      have p1 := cf.b1.cell 0
      simp at p1
      clear cf
      gi_wp2
      clear M0 JL W1 s1 p1 k1 hin
      gi_loopw [23] (fun vi wr => ∃ j : Nat, vi = .int .i64 j ∧ j ≤ i ∧ MapIs wr mb i ss ∧ J j wr ∧ mb < wr.heap.size) (fun vi _ => i - (intOf vi).toNat)
      case atStart => exact ⟨0, rfl, by omega, hm, hj, hlt⟩
      case round =>
        obtain ⟨j, rfl, hji, hm, hj, hlt⟩ := hrel
        have cf := HJ.out _ _ hj
        by_cases hjn : j < i
        · have k1 : (j : Int) < (i : Int) := by omega
          have hit : j < ss.length := by omega
          obtain ⟨q1, q2⟩ := encS_at hit
          obtain ⟨b2, o2, rfl, hbl, hcell⟩ := cf.rd.plain (by omega) (by omega)
          have hwf := HW.out _ (by
            have : ss.getD j (0, 0) = ss[j] := by rw [List.getD_eq_getElem?_getD, List.getElem?_eq_getElem hit]; rfl
            rw [this]
            exact List.getElem_mem hit : ss.getD j (0, 0) ∈ ss)
          have hRd := fun W => HR.out j W
          have hSk := fun W => HSK.out j W
          obtain ⟨⟨id, vv⟩, hp⟩ : ∃ p, ss.getD j (0, 0) = p := ⟨_, rfl⟩
          rw [hp] at q1 q2 hwf hRd hSk
          have c0 := hcell _ _ q1
          have c1' := hcell _ _ q2
          rw [← Nat.add_assoc] at c1'
          have hlk := (hm.same (Below.heap_alloc wr (.cells #[.int .i64 id, .int .i64 vv] 44) mb hlt)).look id hwf
          have JA := Hst.out _ _ _ hj ((Keep.refl [mb] wr).alloc (.cells #[.int .i64 id, .int .i64 vv] 44))
          have MA := hm.same (Below.heap_alloc wr (.cells #[.int .i64 id, .int .i64 vv] 44) mb hlt)
          clear q1 q2 hcell hit hp hwf hm hj
          by_cases hl : lastTo ss i id = j
          · rw [hl] at hlk
            have hY := hRd _ JA hjn hl (by simp; omega)
            obtain ⟨fY, tY, aY, bY, hy, hR⟩ := hY
            have HMA := Lib.hid MA
            clear hRd hSk JA hl MA
            gi_wp2
            refine hR.mono ?_
            rintro e W' ⟨hfk, (⟨rfl, hj'⟩ | ⟨rfl, hk'⟩)⟩
            · have HMW := Lib.hid (HMA.out.same hfk)
              clear hfk
              gi_wp2
              exact ⟨⟨j + 1, by go_num, by omega, HMW.out, hj', HMW.out.lt⟩, by simp [intOf]; omega⟩
            · gi_wp2
              refine bodyPost_ret (results_none rfl _ _ _) rfl ?_
              exact ⟨⟨_, rfl⟩, .inr hk'⟩
          · have JN := Lib.hid (hSk _ JA hjn hl)
            obtain ⟨L, hL⟩ : ∃ L, L = lastTo ss i id := ⟨_, rfl⟩
            rw [← hL] at hlk hl
            have k2 : ((L : Int) == (j : Int)) = false := by rw [beq_eq_false_iff_ne]; omega
            have HMA := Lib.hid MA
            clear hRd hSk JA hl hL MA
            gi_wp2
            refine ⟨fun f hf => (by cases hf), ?_⟩
            go_at_K
            gi_wp2
            exact ⟨⟨j + 1, by go_num, by omega, HMA.out, JN.out, by simp; omega⟩, by simp [intOf]; omega⟩
        · have k1 : ¬ (j : Int) < (i : Int) := by omega
          obtain rfl : j = i := by omega
          clear cf
          gi_wp2
          refine bodyPost_end (results_none rfl _ _ _) rfl ?_
          exact ⟨⟨_, rfl⟩, .inl hj⟩
end Go.Proofs.Ytbngoaonkhcciaa
/-! #### Mk8 -/
set_option linter.all false
namespace Go.Proofs.Ytbngoaonkhcciaa
open Go.ChangeShapes Go.WideShapes Go.ChangeAt Go.RowKit Go.Proofs.YtbngoaonkhcciaaW.PrintWords
attribute [local go_sem] setCell_drewN alloc_drewN Oper.semAt_some
theorem settings_ (w : World) (A : Option Addr) (n c : Nat) : Calls Try.prog 20 #[.slice A n c] w fun e w' => e = .returned (.func (.func 37) #[] #[.pointer (some ⟨w.heap.size, 0, none⟩)]) ∧ w' = w.alloc (.cells #[.slice A n c] 34) := by
  go_enter Try.func20, Try.ntmps20
  go_wp2
  go_ret
  exact ⟨rfl, rfl⟩
theorem low_ (w : World) (x : Int) (h1 : 0 ≤ x) (h2 : x ≤ 2147483647) : Calls Try.prog 35 #[.int .i64 x] w fun e w' => e = .returned (.bool true) ∧ w = w' := by
  have k1 : (0 : Int) ≤ x := h1
  have k2 : decide (x ≤ 2147483647) = true := by simpa using h2
  go_enter Try.func35, Try.ntmps35
  go_wp2
  go_ret
  exact ⟨by simp [h2], rfl⟩
def mkBody : Array Value := #[.slice none 0 0, .int .i64 0, .bool false, .bool false, .int .i64 0, .int .i64 0, .int .i64 0, .int .i64 0, .int .i64 5, .slice none 0 0, .int .i64 0]
set_option maxHeartbeats 2000000 in
theorem payload_begun (w : World) : Calls Try.prog 36 #[.slice none 0 0, .int .i64 8, .int .i64 0, .agg mkBody] w fun e w' =>
    ∃ v, e = .returned (.tuple #[v, .bool true]) ∧ w'.ownsRow w.heap.size 5 1 v 4 (encB [0, 0, 0, 5]) ∧ Keep [] w w' := by
  unfold mkBody
  go_enter Try.func36, Try.ntmps36
  go_wp2_with (fail)
  obtain ⟨w1, hw1⟩ : ∃ w1, w1 = w.alloc (.cells #[.slice none 0 0, .int .i64 0, .bool false, .bool false, .int .i64 0, .int .i64 0, .int .i64 0, .int .i64 0, .int .i64 5, .slice none 0 0, .int .i64 0] 36) := ⟨_, rfl⟩
  have K1 : Keep [] w w1 := by rw [hw1]; exact (Keep.refl _ _).alloc _
  have b1 : Blk w1 w.heap.size 36 #[.slice none 0 0, .int .i64 0, .bool false, .bool false, .int .i64 0, .int .i64 0, .int .i64 0, .int .i64 0, .int .i64 5, .slice none 0 0, .int .i64 0] := by rw [hw1]; exact Blk.new _ _ _
  rw [← hw1]
  clear hw1
  have L1 := Lib.hid (lay_ w1 w1.drew (.slice none 0 0) 0 4 5 [] ((Below.refl _ _).drew) (World.ownsRow_nil _ _ _ _) (by omega) (by omega))
  refine wpIn_wide.1 (region_rtc (n := 0) [(3, true), (7, false), (8, false)] []
    [(0, .slice none 0 0), (1, .pointer (some ⟨w.heap.size, 8, none⟩)), (2, .int .i64 5), (4, .pointer (some ⟨w.heap.size, 8, none⟩)), (5, .int .i64 5), (6, .bool true)]
    (fun W => Keep [] w1 W) (by kernel_rfl) (by kernel_rfl) ((Keep.refl _ _).drew) ?_ ?_)
  · simp only [evOkC, putAll, List.getElem?_toArray, List.getElem?_cons_zero, List.getElem?_cons_succ, Option.bind_some, Act.put, List.setIfInBounds_toArray, List.set_cons_zero, List.set_cons_succ]
    repeat' apply And.intro
    all_goals first
      | exact trivial
      | (intro W hW; refine gives_read rfl ?_; have e8 := (b1.keep hW (by simp)).cell 8; simp at e8; simp [go_sem, Addr.add, e8]; done)
      | (intro W hW; unfold GivesV; simp [go_sem]; refine ⟨trivial, rfl, (callsIn_wide.2 (low_ W 5 (by omega) (by omega))).mono ?_⟩; rintro e w' ⟨rfl, rfl⟩; exact ⟨rfl, rfl⟩)
  · simp only [putAll, List.getElem?_toArray, List.getElem?_cons_zero, List.getElem?_cons_succ, Option.bind_some, Act.put, List.setIfInBounds_toArray, List.set_cons_zero, List.set_cons_succ]
    refine tail_wanted rfl rfl ?_
    simp [go_sem]
    refine ⟨trivial, rfl, (callsIn_wide.2 L1.out).mono ?_⟩
    rintro e W5 ⟨v5, rfl, o5, B5, m5, k5⟩
    have KK5 : Keep [] w1 W5 := ⟨B5.os, B5.tape, B5.output, B5.size, fun i hi _ => B5.block i hi⟩
    refine ⟨⟨KK5, gHolds_none rfl⟩, ?_⟩
    refine tail_wanted rfl rfl ?_
    simp [go_sem]
    refine ⟨gHolds_none rfl, ?_⟩
    refine tail_wanted rfl rfl ?_
    simp [go_sem]
    refine ⟨gHolds_none rfl, ?_⟩
    unfold wpTailG
    go_at_K
    go_wp2_with (fail)
    go_ret2
    exact ⟨v5, rfl, own_lower (by simpa [beB] using o5) K1.size, K1.trans KK5⟩
set_option maxHeartbeats 2000000 in
theorem make_begun (w : World) : Calls Try.prog 18 #[.int .i64 8, .int .i64 0, .int .i64 3, .agg #[.slice none 0 0, .int .i64 0, .bool false, .bool false, .int .i64 0, .int .i64 0, .int .i64 0, .int .i64 0, .int .i64 5, .slice none 0 0, .int .i64 0]] w fun e w' =>
    ∃ v, e = .returned (.tuple #[.agg #[.int .i64 8, .int .i64 0, .int .i64 3, v], .int .i64 0]) ∧ Row1 w' w.heap.size 5 v (encB [0, 0, 0, 5]) ∧ Keep [] w w' := by
  go_enter Try.func18, Try.ntmps18
  have hpd : padF 8 = false := rfl
  go_wp2_with (first
    | (go_at_call 34; refine (padded_ _ 8).mono ?_; rintro e w' ⟨rfl, rfl⟩; rw [hpd])
    | (go_at_call 35; refine (low_ _ 3 (by omega) (by omega)).mono ?_; rintro e w' ⟨rfl, rfl⟩))
  have BB := (Blk.new w 36 mkBody).alloc (.cells #[.int .i64 0, .int .i64 0, .int .i64 0, .slice none 0 0] 24)
  have BR := Blk.new (w.alloc (.cells mkBody 36)) 24 #[.int .i64 0, .int .i64 0, .int .i64 0, .slice none 0 0]
  refine (payload_begun _).mono ?_
  rintro e w3 ⟨v3, rfl, o3, k3⟩
  have BB3 := (BB.keep k3 (by simp)).cell 1
  have BR3 := BR.keep k3 (by simp)
  simp at BR3
  have q0 := BR3.cell 0
  have q1 := BR3.cell 1
  have q2 := BR3.cell 2
  have q3 := BR3.cell 3
  have g0 := BR3.frozen 0
  have g1 := BR3.frozen 1
  have g2 := BR3.frozen 2
  have g3 := BR3.frozen 3
  simp [mkBody] at BB3 q0 q1 q2 q3
  obtain ⟨gg, c3, rfl, hc3⟩ : ∃ g cap, v3 = .slice (some ⟨g, 0, none⟩) 4 cap ∧ 4 ≤ cap := by
    rcases o3.2 with ⟨_, h⟩ | ⟨g, cap, cur, h, _, _, h2, _⟩
    · cases h
    · exact ⟨g, cap, h, h2⟩
  have K3 := Lib.hid ((((Keep.refl [] w).alloc _).alloc _).trans k3)
  have HO := Lib.hid (own_lower o3 (b' := w.heap.size + 2) (by simp))
  have HBR := Lib.hid BR3
  have l3 := k3.size
  simp at l3
  clear o3 BR3 k3 BB BR
  go_wp2_with (fail)
  have FB := (((HBR.out.set_ 0 (.int .i64 8)).set_ 1 (.int .i64 0)).set_ 2 (.int .i64 3)).set_ 3 (.slice (some ⟨gg, 0, none⟩) 4 c3)
  simp only [List.setIfInBounds_toArray, List.set_cons_zero, List.set_cons_succ] at FB
  have KL := ((((Keep.refl [w.heap.size + 1] w3).setCell (p := ⟨w.heap.size + 1, 0, none⟩) (.inl (by simp)) (.int .i64 8)).setCell (p := ⟨w.heap.size + 1, 1, none⟩) (.inl (by simp)) (.int .i64 0)).setCell (p := ⟨w.heap.size + 1, 2, none⟩) (.inl (by simp)) (.int .i64 3)).setCell (p := ⟨w.heap.size + 1, 3, none⟩) (.inl (by simp)) (.slice (some ⟨gg, 0, none⟩) 4 c3)
  have KF := K3.out.step KL (by simp)
  refine bodyPost_ret (results_ct rfl _ _ (w.heap.size + 1) 24 #[.int .i64 8, .int .i64 0, .int .i64 3, .slice (some ⟨gg, 0, none⟩) 4 c3] (0, 0) _ rfl FB Try.underlying24 rfl (by kernel_rfl)) rfl ?_
  have hrow := Row1.of_own HO.out
  exact ⟨_, rfl, (hrow.keep KL (fun g hg => by have := (hrow.lt g hg).1; simp; omega)).lower (by omega), KF⟩
end Go.Proofs.Ytbngoaonkhcciaa
/-! #### Begun -/
set_option linter.all false
namespace Go.Proofs.Ytbngoaonkhcciaa
open Go.ChangeShapes Go.WideShapes Go.ChangeAt Go.RowKit Go.Proofs.YtbngoaonkhcciaaW.PrintWords
attribute [local go_sem] setCell_drewN alloc_drewN Oper.semAt_some
theorem head_begun : PHd.frame_Head.f 20 (ints [0, 0, 4, 8, 0, 0, 0, 0, 3, 0, 0, 0, 5]) = some (8, 0, 3, [], 4, 0) := by kernel_rfl
theorem bare_begun : bareF 8 0 [0, 0, 0, 5] = .ok 0 [0, 0, 0, 5] := by rfl
set_option maxRecDepth 100000 in
set_option maxHeartbeats 4000000 in
theorem begun (w : World) : Calls Try.prog 9 #[] w fun e w' => e = .returned (.bool true) ∧ Below w.heap.size w w' := by
  have hfe := fun (w : World) (a b : Array Value) => run_eql_func_nil (P := Try.prog) w 48 (.func 37) a b Try.underlying48
  refine rng_func Try.func9 rfl ?_
  simp only [Try.ntmps9, List.size_toArray, List.length_cons, List.length_nil, Nat.reduceAdd, Nat.reduceSub, Array.replicate_succ, Array.replicate_zero, List.push_toArray, List.append_toArray, List.nil_append, List.cons_append]
  go_wp2_with (fail)
  have r1 : Reads (w.alloc (.cells #[.int .u8 0, .int .u8 0, .int .u8 0, .int .u8 5] 5)) (w.heap.size + 1) 1 (some ⟨w.heap.size, 0, none⟩) 4 (encB [0, 0, 0, 5]) := reads_new w #[.int .u8 0, .int .u8 0, .int .u8 0, .int .u8 5] 5 (0, 0) 1 4 rfl
  refine (put_ _ (c := 4) (s := 3) 8 0 (r1.more (by simp)) (by omega) (by omega) (by omega)).mono ?_
  rintro e w1 ⟨v1, rfl, row1, k1⟩
  have K1 := Lib.hid (((Keep.refl [] w).alloc (.cells #[.int .u8 0, .int .u8 0, .int .u8 0, .int .u8 5] 5)).trans k1)
  have row1 : Row1 w1 w.heap.size 5 v1 (encB [0, 0, 4, 8, 0, 0, 0, 0, 3, 0, 0, 0, 5]) := row1.lower (by simp)
  obtain ⟨A1, c1, rfl, hc1, hcm1, rd1⟩ := row1.reads
  have rd1' := Lib.hid rd1
  have hH := PHd.frame_Head.calls 20 A1 c1 (ints [0, 0, 4, 8, 0, 0, 0, 0, 3, 0, 0, 0, 5]) 8 0 3 [] 4 0 w1 (C_of rd1 (by simp [encB])) (by simpa [encB, ints] using hc1) head_begun
  have HH := Lib.hid hH
  clear k1 r1 hH rd1 row1 hc1 hcm1
  have el : (encB [0, 0, 4, 8, 0, 0, 0, 0, 3, 0, 0, 0, 5]).length = 13 := rfl
  rw [el] at rd1' ⊢
  clear el
  go_wp2_with (fail)
  refine HH.out.mono ?_
  rintro e w2 ⟨v2, rfl, R2, B2⟩
  obtain ⟨A2, c2, hv2⟩ := Kd.R_slice R2
  subst hv2
  have k2 := Keep.of_below B2
  have s12 := B2.size
  have K2 := Lib.hid (K1.out.trans k2)
  have rd2 := Lib.hid (rd1'.out.keeps k2 (Nat.le_refl _) (by simp))
  clear HH R2 B2 k2 rd1'
  go_wp2_with (fail)
  have BH := (Blk.new w2 24 #[.int .i64 8, .int .i64 0, .int .i64 3, .slice A2 0 c2]).alloc (.cells #[.int .u8 0, .int .u8 0, .int .u8 0, .int .u8 5] 5)
  have r3 : Reads ((w2.alloc (.cells #[.int .i64 8, .int .i64 0, .int .i64 3, .slice A2 0 c2] 24)).alloc (.cells #[.int .u8 0, .int .u8 0, .int .u8 0, .int .u8 5] 5)) _ 1 (some ⟨(w2.alloc (.cells #[.int .i64 8, .int .i64 0, .int .i64 3, .slice A2 0 c2] 24)).heap.size, 0, none⟩) 4 (encB [0, 0, 0, 5]) := reads_new (w2.alloc (.cells #[.int .i64 8, .int .i64 0, .int .i64 3, .slice A2 0 c2] 24)) #[.int .u8 0, .int .u8 0, .int .u8 0, .int .u8 5] 5 (0, 0) 1 4 rfl
  have e5 : numB [0, 0, 0, 5] % 2147483648 = 5 := by decide
  have hRd := read_8 _ (s := 3) (c := 4) (r3.more (by simp)) (by omega) (by omega) (by omega) bare_begun rfl
  rw [e5] at hRd
  simp only [World.size_alloc] at hRd
  have hRd := hRd
  refine hRd.mono ?_
  rintro e w3 ⟨rfl, k3⟩
  have BH3 := BH.keep k3 (by simp)
  have kk3 := (((Keep.refl [] w2).alloc (.cells #[.int .i64 8, .int .i64 0, .int .i64 3, .slice A2 0 c2] 24)).alloc (.cells #[.int .u8 0, .int .u8 0, .int .u8 0, .int .u8 5] 5)).trans k3
  have K3 := Lib.hid (K2.out.trans kk3)
  have rd3 := Lib.hid (rd2.out.keeps kk3 s12 (by simp))
  have s23 := kk3.size
  clear hRd k3 kk3 BH r3 e5 rd2
  go_wp2_with (fail)
  have BX := Blk.new w3 36 #[.slice none 0 0, .int .i64 0, .bool false, .bool false, .int .i64 0, .int .i64 0, .int .i64 0, .int .i64 0, .int .i64 5, .slice none 0 0, .int .i64 0]
  have BH4 := BH3.alloc (.cells #[.slice none 0 0, .int .i64 0, .bool false, .bool false, .int .i64 0, .int .i64 0, .int .i64 0, .int .i64 0, .int .i64 5, .slice none 0 0, .int .i64 0] 36)
  refine (make_begun _).mono ?_
  rintro e w4 ⟨v4, rfl, row4, k4⟩
  have kk4 := ((Keep.refl [] w3).alloc (.cells #[.slice none 0 0, .int .i64 0, .bool false, .bool false, .int .i64 0, .int .i64 0, .int .i64 0, .int .i64 0, .int .i64 5, .slice none 0 0, .int .i64 0] 36)).trans k4
  have K4 := Lib.hid (K3.out.trans kk4)
  have rd4 := Lib.hid (rd3.out.keeps kk4 (by omega) (by simp))
  have BX4 := Lib.hid (BX.keep k4 (by simp))
  have BH5 := Lib.hid (BH4.keep k4 (by simp))
  have s34 := kk4.size
  obtain ⟨A4, c4, rfl, _, _, r4⟩ := row4.reads
  have rd4b := Lib.hid r4
  have el : (encB [0, 0, 0, 5]).length = 4 := rfl
  rw [el] at rd4b ⊢
  clear el row4 BX BH3 BH4 k4 kk4 rd3 r4
  go_wp2_with (fail)
  refine (settings_ _ _ _ _).mono ?_
  rintro e w' ⟨rfl, rfl⟩
  go_wp2_with (fail)
  clear hRd row1
  have a0 := Blk.new w4 24 #[.int .i64 8, .int .i64 0, .int .i64 3, .slice A4 4 c4]
  have a1 := Blk.new (w4.alloc (.cells #[.int .i64 8, .int .i64 0, .int .i64 3, .slice A4 4 c4] 24)) 3 #[.int .i64 0]
  have a2 := reads_new ((w4.alloc (.cells #[.int .i64 8, .int .i64 0, .int .i64 3, .slice A4 4 c4] 24)).alloc (.cells #[.int .i64 0] 3)) #[.int .i64 1, .int .i64 0, .int .i64 1, .int .i64 2] 44 (0, 0) 2 2 rfl
  have a3 := Blk.new (((w4.alloc (.cells #[.int .i64 8, .int .i64 0, .int .i64 3, .slice A4 4 c4] 24)).alloc (.cells #[.int .i64 0] 3)).alloc (.cells #[.int .i64 1, .int .i64 0, .int .i64 1, .int .i64 2] 44)) 34 #[.slice (some ⟨w4.heap.size + 1 + 1, 0, none⟩) 2 2]
  simp only [World.size_alloc] at a0 a1 a2 a3
  have a0 := ((a0.alloc (.cells #[.int .i64 0] 3)).alloc (.cells #[.int .i64 1, .int .i64 0, .int .i64 1, .int .i64 2] 44)).alloc (.cells #[.slice (some ⟨w4.heap.size + 1 + 1, 0, none⟩) 2 2] 34)
  have a1 := (a1.alloc (.cells #[.int .i64 1, .int .i64 0, .int .i64 1, .int .i64 2] 44)).alloc (.cells #[.slice (some ⟨w4.heap.size + 1 + 1, 0, none⟩) 2 2] 34)
  have a2 := a2.alloc (by simp) (.cells #[.slice (some ⟨w4.heap.size + 1 + 1, 0, none⟩) 2 2] 34)
  have KS : Keep [] w4 ((((w4.alloc (.cells #[.int .i64 8, .int .i64 0, .int .i64 3, .slice A4 4 c4] 24)).alloc (.cells #[.int .i64 0] 3)).alloc (.cells #[.int .i64 1, .int .i64 0, .int .i64 1, .int .i64 2] 44)).alloc (.cells #[.slice (some ⟨w4.heap.size + 1 + 1, 0, none⟩) 2 2] 34)) := ((((Keep.refl [] w4).alloc _).alloc _).alloc _).alloc _
  obtain ⟨S, hS⟩ : ∃ S, S = ((((w4.alloc (.cells #[.int .i64 8, .int .i64 0, .int .i64 3, .slice A4 4 c4] 24)).alloc (.cells #[.int .i64 0] 3)).alloc (.cells #[.int .i64 1, .int .i64 0, .int .i64 1, .int .i64 2] 44)).alloc (.cells #[.slice (some ⟨w4.heap.size + 1 + 1, 0, none⟩) 2 2] 34)) := ⟨_, rfl⟩
  have szS : w4.heap.size + 4 ≤ S.heap.size := by rw [hS]; simp
  simp only [← hS] at a0 a1 a2 a3 KS ⊢
  clear hS
  obtain ⟨kb, hkb⟩ : ∃ kb, kb = w4.heap.size := ⟨_, rfl⟩
  rw [← hkb] at a0 a1 a2 a3 szS s34 ⊢
  have Hkb := Lib.hid hkb
  have s4 := K4.out.size
  rw [← hkb] at s4
  clear hkb
  have HA0 := Lib.hid a0
  clear a0
  refine rng_stmt' (n := 5) (gf := 37) (lb := #[.pointer (some ⟨kb + 1 + 1 + 1, 0, none⟩)]) (by first | rfl | simp) (enters_of Try.func37 (by kernel_rfl) rfl) ?_
  intro rc hrc W1 hW1
  have szW1 : W1.heap.size = S.heap.size + 1 + 1 := by rw [hW1]; simp
  refine (setIt (m := 4) (s := kb + 3) (c1 := kb + 1 + 1 + 1) (A := some ⟨kb + 1 + 1, 0, none⟩) (n := 2) (c := 2) (ss := [(1, 0), (1, 2)]) rfl (by omega) (by omega) (by decide)
    (fun j W => SF (kb + 3) W (kb + 1 + 1 + 1) (some ⟨kb + 1 + 1, 0, none⟩) 2 2 [(1, 0), (1, 2)] ∧ Blk W (kb + 1) 3 #[.int .i64 (j / 2 : Nat)] ∧ Rest S W [kb + 1] (.loop (rc .ready none)))
    (fun _ => False) (fun j W h => h.1) W1 ?hst ?skip ?round (by omega) (by omega) ?start).mono ?fin
  case hst =>
    rintro j W W' ⟨hc, hk, hr⟩ k
    rw [szW1] at k
    exact ⟨hc.keep k (by simp; omega) (fun _ ad e => by injection e with e; subst e; simp; omega), hk.keep k (by simp; omega), hr.go k (by simp; omega) (by simp) (by simp; omega)⟩
  case skip =>
    rintro j W ⟨hc, hk, hr⟩ hj hl
    have : j = 0 := by
      rcases Nat.lt_or_ge j 1 with h | h
      · omega
      · obtain rfl : j = 1 := by omega
        exact absurd rfl hl
    subst this
    exact ⟨hc, hk, hr⟩
  case start =>
    have KB : Keep [] S W1 := by rw [hW1]; exact ((Keep.refl [] S).alloc _).alloc _
    have q1 : W1.heap[S.heap.size + 1]? = some (.loop (rc .ready none)) := by rw [hW1]; have := heap_alloc_new (S.alloc (.deferred (some []))) (.loop (rc .ready none)); simpa using this
    have q2 : W1.heap[S.heap.size]? = some (.deferred (some [])) := by rw [hW1]; exact (Below.heap_alloc _ _ _ (by simp)).trans (heap_alloc_new S (.deferred (some [])))
    exact ⟨⟨a3.keep KB (by simp), a2.keeps KB (by omega) (by simp), by omega⟩, a1.keep KB (by simp), ⟨q1, q2, KB.more (by simp)⟩⟩
  case round =>
    rintro j W ⟨hc, hk, hr⟩ hj hl hsz
    have : j = 1 := by
      rcases Nat.lt_or_ge j 1 with h | h
      · obtain rfl : j = 0 := by omega
        exact absurd hl (by decide)
      · omega
    subst this
    rw [szW1]
    clear hsz
    refine rng_round' hrc hr.rc rfl ?_
    clear hrc hW1
    have kp : Keep [S.heap.size + 1] W (W.putObj (S.heap.size + 1) (.loop (rc .busy none))) := (Keep.refl _ W).putObj (.inl (by simp)) _
    have L2 := Lib.hid hr.rc
    have hk3 := hk.keep kp (by simp; omega)
    have hr3 := hr.put (o' := .loop (rc .busy none))
    have cf3 := hc.keep kp (by simp; omega) (fun _ ad e => by injection e with e; subst e; simp; omega)
    have hgk : (W.putObj (S.heap.size + 1) (.loop (rc .busy none))).heap[S.heap.size + 1 + 1]? = W.heap[S.heap.size + 1 + 1]? := World.putObj_heap_other (by omega)
    gi_wp2
    refine ⟨L2.out, ?_⟩
    obtain ⟨W3, hW3⟩ : ∃ W3, W3 = W.putObj (S.heap.size + 1) (.loop (rc .busy none)) := ⟨_, rfl⟩
    rw [← hW3] at hk3 hr3 cf3 hgk ⊢
    clear hW3
    have c3 := hk3.cell 0
    have f3 := hk3.frozen 0
    simp at c3
    have k4 : Keep [kb + 1] W3 (W3.setCell ⟨kb + 1, 0, none⟩ (.int .i64 1)) := (Keep.refl _ W3).setCell (p := ⟨kb + 1, 0, none⟩) (.inl (by simp)) _
    have hk4 : Blk (W3.setCell ⟨kb + 1, 0, none⟩ (.int .i64 1)) (kb + 1) 3 #[.int .i64 1] := hk3.set_ 0 _
    have hr4 := hr3.go k4 (by simp) (by simp; omega) (by simp; omega)
    have cf4 := cf3.keep k4 (by simp; omega) (fun _ ad e => by injection e with e; subst e; first | (simp; done) | (simp; omega))
    have kz : Keep [S.heap.size + 1] (W3.setCell ⟨kb + 1, 0, none⟩ (.int .i64 1)) ((W3.setCell ⟨kb + 1, 0, none⟩ (.int .i64 1)).putObj (S.heap.size + 1) (.loop (rc .ready none))) := (Keep.refl _ _).putObj (.inl (by simp)) _
    have HR5 := Lib.hid (hr4.put (o' := .loop (rc .ready none)))
    have HK5 := Lib.hid (hk4.keep kz (by simp; omega))
    have HC5 := Lib.hid (cf4.keep kz (by simp; omega) (fun _ ad e => by injection e with e; subst e; simp; omega))
    have HG5 : Hid (((W3.setCell ⟨kb + 1, 0, none⟩ (.int .i64 1)).putObj (S.heap.size + 1) (.loop (rc .ready none))).heap[S.heap.size + 1 + 1]? = W.heap[S.heap.size + 1 + 1]?) := Lib.hid ((World.putObj_heap_other (by omega)).trans ((Below.heap_setCell W3 ⟨kb + 1, 0, none⟩ _ _ (by simp; omega)).trans hgk))
    have HL4 := Lib.hid hr4.rc
    clear hk3 hr3 cf3 k4 hk4 hr4 cf4 kz hgk hr hk hc kp
    gi_wp2
    exact ⟨HL4.out, HG5.out, HC5.out, HK5.out, HR5.out⟩
  case fin =>
    rintro e W' ⟨⟨vr, rfl⟩, h⟩
    obtain ⟨hc, hk, hr⟩ := h.resolve_right id
    refine ⟨_, .ready, none, rfl, by simp, hr.rc, ?_⟩
    have hr2 := hr.put (o' := .loop (rc .exhausted none))
    have kp : Keep [S.heap.size + 1] W' (W'.putObj (S.heap.size + 1) (.loop (rc .exhausted none))) := (Keep.refl _ W').putObj (.inl (by simp)) _
    have hk2 := hk.keep kp (by simp; omega)
    obtain ⟨W5, hW5⟩ : ∃ W5, W5 = W'.putObj (S.heap.size + 1) (.loop (rc .exhausted none)) := ⟨_, rfl⟩
    simp only [← hW5] at hr2 hk2 ⊢
    clear hW5 hW1 hrc hc hk hr kp
    have kpp : Keep [kb + 1] S W5 := hr2.kp
    have HKb := Hkb.out
    have KA : Keep [] w4 W5 := KS.step kpp (by simp; omega)
    have HKA := Lib.hid KA
    have c0 := hk2.cell 0
    have h0 := (BH5.out.keep KA (by simp)).cell 0
    have h2 := (BH5.out.keep KA (by simp)).cell 2
    have x8 := (BX4.out.keep KA (by simp)).cell 8
    have m3 := (HA0.out.keep kpp (by simp)).cell 3
    simp at c0 h0 h2 x8 m3
    have st1 := str_of (c := c1) (src := 22) (dst := 9) Try.underlying22 Try.underlying5 Try.underlying9 (rd4.out.keeps KA (by omega) (by simp))
    have st2 := str_of (c := c4) (src := 22) (dst := 9) Try.underlying22 Try.underlying5 Try.underlying9 (rd4b.out.keeps KA (by omega) (by simp))
    have hdf := Lib.hid hr2.df
    have HK4 := Lib.hid K4
    clear hk2 hr2 K4 KA rd4 rd4b BH5 BX4 HA0 KS kpp a1 a2 a3 HKb
    go_wp2_with (fail)
    refine ⟨by simp, .inl ⟨_, _, rfl, run_takeDeferred hdf.out, ?_⟩⟩
    refine ⟨_, results_tmp rfl _ _ _, rfl, ?_⟩
    exact ((HK4.out.trans HKA.out).putObj (l := S.heap.size) (.inr (by omega)) _).below (Nat.le_refl _) (by simp)
end Go.Proofs.Ytbngoaonkhcciaa
/-! #### PureP -/
set_option linter.all false
namespace Go.Proofs.Ytbngoaonkhcciaa
open Go.ChangeShapes Go.WideShapes Go.ChangeAt Go.RowKit Go.Deep Go.Proofs.YtbngoaonkhcciaaW.PrintWords
/-- an argument that is a frame -/
def FrV (w : World) (v : Value) : Prop := ∃ (t f s : Int) (u : Value), v = .agg #[.int .i64 t, .int .i64 f, .int .i64 s, u] ∧ (Lit.int .i64 t).wf = true ∧ (Lit.int .i64 f).wf = true ∧ (Lit.int .i64 s).wf = true ∧ Sl w 1 (fun _ => IsInt .u8) u
theorem frV_of {H : Type} {enc : TypeId × Value → H} {w : World} {base : Nat} {r : _} {b2 : Nat} {held : Bool} {v : Value} {d : DataW H} {p : List MemPlace} (hok : Value.okWide Try.prog w r b2 24 v) (h : DataW.Trod enc Try.prog w base (fun _ => true) held 24 v d p) : FrV w v := by
  obtain ⟨cs, rfl, hs⟩ := okWide_struct Try.underlying24 hok
  obtain ⟨m, hm⟩ := h
  have h4 : Try.prog.cellsOf 24 = 4 := by kernel_rfl
  have e1 : Try.prog.cellsOf 3 = 1 := by kernel_rfl
  have e2 : Try.prog.cellsOf 22 = 1 := by kernel_rfl
  rw [h4] at hs
  obtain ⟨c0, c1, c2, c3, rfl⟩ : ∃ c0 c1 c2 c3, cs = #[c0, c1, c2, c3] := by
    obtain ⟨l⟩ := cs
    match l, hs with
    | [a, b, c, d], _ => exact ⟨a, b, c, d, rfl⟩
  obtain ⟨ys, n', hn', hy, hlen, hyl, hf⟩ := DataW.trod_struct Try.underlying24 hm
  have g0 := hf 0 _ rfl
  have g1 := hf 1 _ rfl
  have g2 := hf 2 _ rfl
  have g3 := hf 3 _ rfl
  have q : ∀ j, j < 4 → ∃ y, ys[j]? = some y := fun j hj => ⟨ys[j]'(by rw [hyl]; exact hj), List.getElem?_eq_getElem _⟩
  obtain ⟨y0, hy0⟩ := q 0 (by omega)
  obtain ⟨y1, hy1⟩ := q 1 (by omega)
  obtain ⟨y2, hy2⟩ := q 2 (by omega)
  obtain ⟨y3, hy3⟩ := q 3 (by omega)
  rw [hy0] at g0
  rw [hy1] at g1
  rw [hy2] at g2
  rw [hy3] at g3
  simp only [e1, e2, Value.cells, List.drop_zero, List.drop_succ_cons, List.take_succ_cons, List.take_zero] at g0 g1 g2 g3
  obtain ⟨t, rfl, wt⟩ := isInt_of Try.underlying3 g0
  obtain ⟨f, rfl, wf⟩ := isInt_of Try.underlying3 g1
  obtain ⟨s, rfl, ws⟩ := isInt_of Try.underlying3 g2
  exact ⟨t, f, s, c3, rfl, wt, wf, ws, sl_plain Try.underlying22 (by kernel_rfl) (fun n u y h => isInt_of Try.underlying5 h) g3⟩
end Go.Proofs.Ytbngoaonkhcciaa
/-! #### Body -/
set_option linter.all false
namespace Go.Proofs.Ytbngoaonkhcciaa
open Go.ChangeShapes Go.WideShapes Go.ChangeAt Go.RowKit Go.Proofs.YtbngoaonkhcciaaW.PrintWords
/-- Read, whole -/
theorem read_all (w : World) {A : Option Addr} {n c : Nat} {bs : List UInt8} (t : Nat) (f : UInt8) (s : Int) (hr : Reads w w.heap.size 1 A n (encB bs)) (hc : n ≤ c) (hc2 : c ≤ 9223372036854775807) (hn : n ≤ 1099511627776) :
    Calls Try.prog 15 #[.agg #[.int .i64 t, .int .i64 f.toNat, .int .i64 s, .slice A n c]] w fun e w' => BodyR w' w.heap.size e (readF t f s bs) ∧ Keep [] w w' := by
  have hc3 : n ≤ 140737488355328 := by omega
  have hbl : bs.length = n := by have := hr.1; rw [encB_len] at this; omega
  unfold readF
  by_cases hbad : placeF t = 1 ∧ s = 0 ∨ placeF t = 0 ∧ ¬ s = 0
  · rw [if_pos hbad]
    rcases hbad with ⟨hp, rfl⟩ | ⟨hp, h1⟩
    · exact (read_bad1 w hr hc hc2 hc3 t hp).mono fun e w' ⟨h, k⟩ => ⟨bodyR_none h rfl rfl, k⟩
    · exact (read_bad0 w hr hc hc2 hc3 t hp h1).mono fun e w' ⟨h, k⟩ => ⟨bodyR_none h rfl rfl, k⟩
  · rw [if_neg hbad]
    have hp1 : placeF t = 1 → ¬ s = 0 := fun h h0 => hbad (.inl ⟨h, h0⟩)
    have hp0 : placeF t = 0 → s = 0 := fun h => Classical.not_not.1 fun h0 => hbad (.inr ⟨h, h0⟩)
    clear hbad
    cases hb : bareF t f bs with
    | bad k =>
      have hk := bare_code hb
      simp only
      rcases place_one t with hp | hp | hp
      · exact (read_bare1 w hr hc hc2 hc3 t hp (hp1 hp) k hk hb).mono fun e w' ⟨h, k⟩ => ⟨bodyR_none h rfl rfl, k⟩
      · obtain rfl := hp0 hp
        exact (read_bare0 w hr hc hc2 hc3 t hp k hk hb).mono fun e w' ⟨h, k⟩ => ⟨bodyR_none h rfl rfl, k⟩
      · exact (read_barex w hr hc hc2 hc3 t hp k hk hb).mono fun e w' ⟨h, k⟩ => ⟨bodyR_none h rfl rfl, k⟩
    | ok pad r =>
      have hrl := bare_len hb
      simp only
      by_cases hs : sizeF t f r.length = true
      · rw [if_pos hs]
        have hrl1 : r.length ≤ 140737488355328 := by omega
        have hrl2 : r.length ≤ 1099511627776 := by omega
        match t, hb, hs, hp1, hp0 with
        | 0, hb, hs, hp1, hp0 => exact (read_0 w hr hc hc2 hc3 hrl1 (hp1 rfl) hb hs).mono fun e w' ⟨v, h, hrow, k⟩ => ⟨bodyR_data h hrow rfl, k⟩
        | 1, hb, hs, hp1, hp0 =>
          by_cases hf : onF f 32 = true
          · have e : bodyF 1 f pad r = { prioB { bd0 with pad := pad } r with data := r.drop 5 } := by simp [bodyF, hf]
            rw [e]
            exact (read_1p w hr hc hc2 hc3 hrl1 (hp1 rfl) hf hb hs).mono fun e w' ⟨v, h, hrow, k⟩ => ⟨bodyR_data h hrow rfl, k⟩
          · have hf2 : onF f 32 = false := by simpa using hf
            have e : bodyF 1 f pad r = { bd0 with pad := pad, data := r } := by simp [bodyF, hf]
            rw [e]
            exact (read_1n w hr hc hc2 hc3 hrl1 (hp1 rfl) hf2 hb hs).mono fun e w' ⟨v, h, hrow, k⟩ => ⟨bodyR_data h hrow rfl, k⟩
        | 2, hb, hs, hp1, hp0 => exact (read_2 w hr hc hc2 hc3 (hp1 rfl) hb hs).mono fun e w' ⟨h, k⟩ => ⟨bodyR_none h rfl rfl, k⟩
        | 3, hb, hs, hp1, hp0 => exact (read_3 w hr hc hc2 hc3 (hp1 rfl) hb hs).mono fun e w' ⟨h, k⟩ => ⟨bodyR_none h rfl rfl, k⟩
        | 4, hb, hs, hp1, hp0 =>
          obtain rfl := hp0 rfl
          refine (read_4 w hr hc hc2 hc3 hrl2 hb hs).mono fun e w' ⟨v, h, hrow, k⟩ => ⟨⟨_, v, h, Row1.nil _ _ _, ?_⟩, k⟩
          show w'.ownsRow w.heap.size 44 2 v (setsN (r.length / 6) r).length (encS (setsN (r.length / 6) r))
          rw [setsN_len]
          exact hrow
        | 5, hb, hs, hp1, hp0 => exact (read_5 w hr hc hc2 hc3 hrl1 (hp1 rfl) hb hs).mono fun e w' ⟨v, h, hrow, k⟩ => ⟨bodyR_data h hrow rfl, k⟩
        | 6, hb, hs, hp1, hp0 =>
          obtain rfl := hp0 rfl
          exact (read_6 w hr hc hc2 hc3 hrl1 hb hs).mono fun e w' ⟨v, h, hrow, k⟩ => ⟨bodyR_data h hrow rfl, k⟩
        | 7, hb, hs, hp1, hp0 =>
          obtain rfl := hp0 rfl
          exact (read_7 w hr hc hc2 hc3 hrl1 hb hs).mono fun e w' ⟨v, h, hrow, k⟩ => ⟨bodyR_data h hrow rfl, k⟩
        | 8, hb, hs, hp1, hp0 => exact (read_8 w hr hc hc2 hc3 hb hs).mono fun e w' ⟨h, k⟩ => ⟨bodyR_none h rfl rfl, k⟩
        | 9, hb, hs, hp1, hp0 => exact (read_9 w hr hc hc2 hc3 hrl1 (hp1 rfl) hb hs).mono fun e w' ⟨v, h, hrow, k⟩ => ⟨bodyR_data h hrow rfl, k⟩
        | t + 10, hb, hs, hp1, hp0 =>
          have e : bodyF (t + 10) f pad r = { bd0 with pad := pad } := by
            simp only [bodyF]
            repeat rw [if_neg (by omega)]
          rw [e]
          exact (read_x w hr hc hc2 hc3 (t + 10) (by omega) hb hs).mono fun e w' ⟨h, k⟩ => ⟨bodyR_none h rfl rfl, k⟩
      · rw [if_neg hs]
        have hs2 : sizeF t f r.length = false := by simpa using hs
        rcases place_one t with hp | hp | hp
        · exact (read_sz1 w hr hc hc2 hc3 t hp (hp1 hp) hb hs2).mono fun e w' ⟨h, k⟩ => ⟨bodyR_none h rfl rfl, k⟩
        · obtain rfl := hp0 hp
          exact (read_sz0 w hr hc hc2 hc3 t hp hb hs2).mono fun e w' ⟨h, k⟩ => ⟨bodyR_none h rfl rfl, k⟩
        · exact (read_szx w hr hc hc2 hc3 t hp hb hs2).mono fun e w' ⟨h, k⟩ => ⟨bodyR_none h rfl rfl, k⟩
end Go.Proofs.Ytbngoaonkhcciaa
/-! #### RBody -/
set_option linter.all false
namespace Go.Proofs.Ytbngoaonkhcciaa
open Go.ChangeShapes Go.WideShapes Go.ChangeAt Go.RowKit Go.Proofs.YtbngoaonkhcciaaW.PrintWords
theorem C_r44 {w : World} {A : Option Addr} {B n : Nat} {ss : List (Int × Int)} (h : Reads w B 2 A n (encS ss)) (hn : n ≤ 9223372036854775807) : Kd.C PRf.k44 w A (r44 ss).length (r44 ss) := by
  have hl : ss.length = n := by have := h.1; rw [encS_len] at this; omega
  refine ⟨rfl, by rw [r44_len]; omega, fun h0 => ?_⟩
  rw [r44_len] at h0
  obtain ⟨ad, e, _, hc⟩ := h.2 (by omega)
  refine ⟨ad, e, fun j p hp => ⟨[.int .i64 p.f0, .int .i64 p.f1], rfl, PRf.k44_mk w p, fun i u hu => ?_⟩⟩
  have hj : j < ss.length := by have := (List.getElem?_eq_some_iff.1 hp).1; rwa [r44_len] at this
  obtain ⟨q1, q2⟩ := encS_at hj
  have hpe : p = ⟨(ss.getD j (0, 0)).1, (ss.getD j (0, 0)).2⟩ := by
    simp [r44, List.getElem?_eq_getElem hj] at hp
    rw [← hp]
    simp [List.getD_eq_getElem?_getD, List.getElem?_eq_getElem hj]
  subst hpe
  show w.cell? (ad.add (j * 2 + i)) = _
  match i, hu with
  | 0, hu => simp at hu; subst hu; exact hc _ _ q1
  | 1, hu => simp at hu; subst hu; exact hc _ _ q2
theorem eqb_l (b : Bd) (hs : b.sets.length ≤ 1099511627776) : ∀ (d i k : Nat), i + d = b.sets.length → d < k →
    PRf.isthmusref7_EqBody.l0 k (i : Int) (ints b.data) b.pad b.prio b.excl b.dep b.weight b.code b.last b.inc (r44 b.sets) b.prom (ints b.data) b.pad b.prio b.excl b.dep b.weight b.code b.last b.inc (r44 b.sets) b.prom = some true
  | 0, i, k, h, hk => by
    obtain ⟨k, rfl⟩ : ∃ m, k = m + 1 := ⟨k - 1, by omega⟩
    rw [PRf.isthmusref7_EqBody.l0, r44_len, if_neg (by omega)]
  | d + 1, i, k, h, hk => by
    obtain ⟨k, rfl⟩ : ∃ m, k = m + 1 := ⟨k - 1, by omega⟩
    rw [PRf.isthmusref7_EqBody.l0, r44_len, if_pos (by omega), if_pos (by omega), if_pos (by omega), if_pos rfl, if_pos rfl, show wrap64 ((i : Int) + 1) = ((i + 1 : Nat) : Int) by unfold wrap64; omega]
    exact eqb_l b hs d (i + 1) k (by omega) (by omega)
theorem eqb_f (b : Bd) (hs : b.sets.length ≤ 1099511627776) : PRf.isthmusref7_EqBody.f (b.sets.length + 2) (ints b.data) b.pad b.prio b.excl b.dep b.weight b.code b.last b.inc (r44 b.sets) b.prom (ints b.data) b.pad b.prio b.excl b.dep b.weight b.code b.last b.inc (r44 b.sets) b.prom = some true := by
  unfold PRf.isthmusref7_EqBody.f
  have e1 : (b.prio != b.prio) = false := by simp
  have e2 : (b.excl != b.excl) = false := by simp
  have e3 : (((r44 b.sets).length : Int) != ((r44 b.sets).length : Int)) = false := by simp
  rw [if_pos rfl, if_pos rfl, e1, if_neg (by decide), e2, if_neg (by decide), if_pos rfl, if_pos rfl, if_pos rfl, if_pos rfl, if_pos rfl, if_pos rfl, e3, PRf.isthmusref7_EqBody.j0, if_neg (by decide)]
  exact eqb_l b hs b.sets.length 0 (b.sets.length + 1) (by omega) (by omega)
theorem eqb_ (W : World) (b : Bd) {A0 A9 D0 D9 : Option Addr} {c0 c9 d0 d9 B0 B9 E0 E9 : Nat} (h0 : Reads W B0 1 A0 b.data.length (encB b.data)) (h9 : Reads W B9 2 A9 b.sets.length (encS b.sets)) (g0 : Reads W E0 1 D0 b.data.length (encB b.data)) (g9 : Reads W E9 2 D9 b.sets.length (encS b.sets))
    (l0 : b.data.length ≤ c0) (l9 : b.sets.length ≤ c9) (q0 : b.data.length ≤ d0) (q9 : b.sets.length ≤ d9) (m0 : b.data.length ≤ 1099511627776) (m9 : b.sets.length ≤ 1099511627776) :
    Calls Try.prog 17 #[.agg (b.vals (.slice A0 b.data.length c0) (.slice A9 b.sets.length c9)), .agg (b.vals (.slice D0 b.data.length d0) (.slice D9 b.sets.length d9))] W fun e w' => e = .returned (.bool true) ∧ Keep [] W w' := by
  have hc := PRf.isthmusref7_EqBody.calls (b.sets.length + 2) A0 c0 (ints b.data) b.pad b.prio b.excl b.dep b.weight b.code b.last b.inc A9 c9 (r44 b.sets) b.prom D0 d0 (ints b.data) b.pad b.prio b.excl b.dep b.weight b.code b.last b.inc D9 d9 (r44 b.sets) b.prom true W (C_of h0 (by omega)) (by rw [ints_len]; exact l0) (C_r44 h9 (by omega)) (by rw [r44_len]; exact l9) (C_of g0 (by omega)) (by rw [ints_len]; exact q0) (C_r44 g9 (by omega)) (by rw [r44_len]; exact q9) (eqb_f b m9)
  rw [ints_len, r44_len] at hc
  exact hc.mono fun e w' ⟨he, hb⟩ => ⟨he, Keep.of_below hb⟩
theorem bodyF_2 (f : UInt8) (bs : List UInt8) : bodyF 2 f 0 bs = prioB bd0 bs := rfl
theorem bodyF_3 (f : UInt8) (bs : List UInt8) : bodyF 3 f 0 bs = { bd0 with code := numB bs } := rfl
theorem bodyF_4 (f : UInt8) (bs : List UInt8) : bodyF 4 f 0 bs = { bd0 with sets := setsN (bs.length / 6) bs } := rfl
theorem bodyF_6 (f : UInt8) (bs : List UInt8) : bodyF 6 f 0 bs = { bd0 with data := bs } := rfl
theorem bodyF_7 (f : UInt8) (bs : List UInt8) : bodyF 7 f 0 bs = { bd0 with last := ((numB (bs.take 4) % 2147483648 : Nat) : Int), code := numB ((bs.drop 4).take 4), data := bs.drop 8 } := rfl
theorem bodyF_8 (f : UInt8) (bs : List UInt8) : bodyF 8 f 0 bs = { bd0 with inc := ((numB bs % 2147483648 : Nat) : Int) } := rfl
theorem bodyF_9 (f : UInt8) (bs : List UInt8) : bodyF 9 f 0 bs = { bd0 with data := bs } := rfl
set_option maxHeartbeats 1000000 in
/-- the reference's Read, whole -/
theorem rread_all (w : World) {A : Option Addr} {n c : Nat} {bs : List UInt8} (t : Nat) (f : UInt8) (s : Int) (hr : Reads w w.heap.size 1 A n (encB bs)) (hc : n ≤ c) (hc2 : c ≤ 9223372036854775807) (hlen : n ≤ 1099511627776) :
    Calls Try.prog 16 #[.agg #[.int .i64 t, .int .i64 f.toNat, .int .i64 s, .slice A n c]] w fun e w' => BodyR w' w.heap.size e (readF t f s bs) ∧ Keep [] w w' := by
  have hbl : bs.length = n := by have := hr.1; rw [encB_len] at this; omega
  unfold readF
  by_cases hbad : placeF t = 1 ∧ s = 0 ∨ placeF t = 0 ∧ ¬ s = 0
  · rw [if_pos hbad]
    rcases hbad with ⟨hp, h0⟩ | ⟨hp, h0⟩
    · exact rread_bad1 w hr hc hc2 hlen t hp h0
    · exact rread_bad2 w hr hc hc2 hlen t hp h0
  · rw [if_neg hbad]
    have hp1 : placeF t = 1 → ¬ s = 0 := fun h h0 => hbad (.inl ⟨h, h0⟩)
    have hp0 : placeF t = 0 → s = 0 := fun h => Classical.not_not.1 fun h0 => hbad (.inr ⟨h, h0⟩)
    clear hbad
    have hok : padF t = false → bareF t f bs = .ok 0 bs := fun h => by unfold bareF; rw [if_neg (by simp [h])]
    match t, hp1, hp0, hok with
    | 0, hp1, hp0, hok => exact rread_0 w hr hc hc2 hlen (hp1 rfl)
    | 1, hp1, hp0, hok => exact rread_1 w hr hc hc2 hlen (hp1 rfl)
    | 5, hp1, hp0, hok => exact rread_5 w hr hc hc2 hlen (hp1 rfl)
    | 2, hp1, hp0, hok =>
      rw [hok rfl]
      simp only [bodyF_2]
      by_cases h : n = 5
      · rw [if_pos (by simp [sizeF, hbl, h])]
        exact rread_2 w hr hc hc2 hlen (hp1 rfl) h
      · rw [if_neg (by simp [sizeF, hbl, h])]
        exact rread_2s w hr hc hc2 hlen (hp1 rfl) h
    | 3, hp1, hp0, hok =>
      rw [hok rfl]
      simp only [bodyF_3]
      by_cases h : n = 4
      · rw [if_pos (by simp [sizeF, hbl, h])]
        exact rread_3 w hr hc hc2 hlen (hp1 rfl) h
      · rw [if_neg (by simp [sizeF, hbl, h])]
        exact rread_3s w hr hc hc2 hlen (hp1 rfl) h
    | 4, hp1, hp0, hok =>
      rw [hok rfl]
      simp only [bodyF_4]
      have := rread_4 (f := f) (s := s) w hr hc hc2 hlen (hp0 rfl)
      unfold setR at this
      exact this
    | 6, hp1, hp0, hok =>
      rw [hok rfl]
      simp only [bodyF_6]
      by_cases h : n = 8
      · rw [if_pos (by simp [sizeF, hbl, h])]
        exact rread_6 w hr hc hc2 hlen (hp0 rfl) h
      · rw [if_neg (by simp [sizeF, hbl, h])]
        exact rread_6s w hr hc hc2 hlen (hp0 rfl) h
    | 7, hp1, hp0, hok =>
      rw [hok rfl]
      simp only [bodyF_7]
      by_cases h : 8 ≤ n
      · rw [if_pos (by simp [sizeF, hbl, h])]
        exact rread_7 w hr hc hc2 hlen (hp0 rfl) h
      · rw [if_neg (by simp [sizeF, hbl, h])]
        exact rread_7s w hr hc hc2 hlen (hp0 rfl) (by omega)
    | 8, hp1, hp0, hok =>
      rw [hok rfl]
      simp only [bodyF_8]
      by_cases h : n = 4
      · rw [if_pos (by simp [sizeF, hbl, h])]
        exact rread_8 w hr hc hc2 hlen h
      · rw [if_neg (by simp [sizeF, hbl, h])]
        exact rread_8s w hr hc hc2 hlen h
    | 9, hp1, hp0, hok =>
      rw [hok rfl]
      simp only [bodyF_9]
      rw [if_pos (by simp [sizeF])]
      exact rread_9 w hr hc hc2 hlen (hp1 rfl)
    | t + 10, hp1, hp0, hok =>
      rw [hok (by simp [padF])]
      simp only
      have e : bodyF (t + 10) f 0 bs = bd0 := by
        simp only [bodyF]
        repeat rw [if_neg (by omega)]
        rfl
      rw [if_pos (by simp [sizeF]), e]
      exact rread_x w hr hc hc2 hlen (t + 10) (by omega)
theorem bodyF_len2 (t : Nat) (f : UInt8) (pad : Int) (r : List UInt8) : (bodyF t f pad r).data.length ≤ r.length ∧ (bodyF t f pad r).sets.length ≤ r.length := by
  unfold bodyF
  repeat' split
  all_goals simp [bd0, prioB, setsN_len]
  all_goals omega
theorem back_len2 (t : Nat) (f : UInt8) (s : Int) (p : List UInt8) {N : Nat} (h : p.length ≤ N) : (readF t f s p).1.data.length ≤ N ∧ (readF t f s p).1.sets.length ≤ N := by
  unfold readF
  split
  · simp [bd0]
  · cases hb : bareF t f p with
    | bad k => simp [bd0]
    | ok pad r =>
      have h1 : r.length ≤ p.length := by
        unfold bareF at hb
        repeat' split at hb
        all_goals first
          | (injection hb with e1 e2; subst e2; first | exact Nat.le_refl _ | (rw [List.length_take, List.length_cons]; omega))
          | cases hb
      simp only
      split
      · have := bodyF_len2 t f pad r
        simp only
        omega
      · simp [bd0]
end Go.Proofs.Ytbngoaonkhcciaa
/-! #### LawRead -/
set_option linter.all false
namespace Go.Proofs.Ytbngoaonkhcciaa
open Go.ChangeShapes Go.WideShapes Go.ChangeAt Go.RowKit Go.Proofs.YtbngoaonkhcciaaW.PrintWords
attribute [local go_sem] setCell_drewN alloc_drewN Oper.semAt_some
def FrVU (N : Nat) (w : World) (v : Value) : Prop := FrV w v ∧ ∀ t f s A n c, v = .agg #[t, f, s, .slice A n c] → n ≤ N
set_option maxHeartbeats 4000000 in
set_option maxRecDepth 100000 in
theorem frameRead (w : World) (v : Value) (hv : FrVU 1048576 w v) : Calls Try.prog 5 #[v] w fun e w' => e = .returned (.bool true) ∧ Below w.heap.size w w' := by
  obtain ⟨⟨t, f, s, u, rfl, wt, wf, ws, hu⟩, hN⟩ := hv
  obtain ⟨A, n, c, bs, rfl, hnc, hcm, hl, hr⟩ := reads_of_sl hu
  have hn := hN _ _ _ _ _ _ rfl
  subst hl
  unfold maxLen at hcm
  have Hr := Lib.hid hr
  have HN := Lib.hid hn
  clear hr hu wt wf ws hN hn
  go_enter Try.func5, Try.ntmps5
  go_wp2_with (fail)
  have BF := Blk.new w 24 #[.int .i64 t, .int .i64 f, .int .i64 s, .slice A bs.length c]
  refine (begun _).mono ?_
  rintro e w1 ⟨rfl, B1⟩
  have k1 := Keep.of_below B1
  have BF1 := BF.keep k1 (by simp)
  have K1 := Lib.hid (((Keep.refl [] w).alloc (.cells #[.int .i64 t, .int .i64 f, .int .i64 s, .slice A bs.length c] 24)).trans k1)
  have d0 := BF1.cell 0
  have d1 := BF1.cell 1
  have d2 := BF1.cell 2
  have d3 := BF1.cell 3
  simp at d0 d1 d2 d3
  clear B1 k1 BF
  go_upto_region 2 with (fail)
  go_cut [37] from 10 to 37 (fun v37 wx => (v37 = .bool true ∨ v37 = .bool false ∧ (0 ≤ t ∧ t ≤ 255 ∧ 0 ≤ f ∧ f ≤ 255 ∧ 0 ≤ s ∧ s ≤ 2147483647)) ∧ wx = w1)
  case first =>
    by_cases g0 : t < 0
    · go_wp2_with (fail)
      go_meet
      case rel => exact ⟨.inl rfl, rfl⟩
    · by_cases g1 : 255 < t
      · go_wp2_with (fail)
        go_meet
        case rel => exact ⟨.inl rfl, rfl⟩
      · by_cases g2 : f < 0
        · go_wp2_with (fail)
          go_meet
          case rel => exact ⟨.inl rfl, rfl⟩
        · by_cases g3 : 255 < f
          · go_wp2_with (fail)
            go_meet
            case rel => exact ⟨.inl rfl, rfl⟩
          · by_cases g4 : s < 0
            · go_wp2_with (fail)
              go_meet
              case rel => exact ⟨.inl rfl, rfl⟩
            · by_cases g5 : 2147483647 < s
              · go_wp2_with (fail)
                go_meet
                case rel => exact ⟨.inl rfl, rfl⟩
              · go_wp2_with (fail)
                go_meet
                case rel => exact ⟨.inr ⟨rfl, by omega⟩, rfl⟩
  case rest =>
    obtain ⟨hg, rfl⟩ := hcut
    rcases hg with rfl | ⟨rfl, hg⟩
    · go_wp2_with (fail)
      go_ret
      exact ⟨by simp, K1.out.below (Nat.le_refl _) (by simp)⟩
    · obtain ⟨tn, rfl⟩ : ∃ n : Nat, t = n := ⟨t.toNat, by omega⟩
      obtain ⟨fb, rfl⟩ : ∃ fb : UInt8, f = fb.toNat := ⟨UInt8.ofNat f.toNat, by rw [UInt8.toNat_ofNat']; omega⟩
      clear hg
      have hrd := (Hr.out.keeps K1.out (Nat.le_refl _) (by simp)).more K1.out.size
      have HRd := Lib.hid (read_all wc tn fb s hrd hnc (by omega) (by have := HN.out; omega))
      have TF1 := Lib.hid BF1
      clear hrd BF1
      go_wp2_with (fail)
      refine HRd.out.mono ?_
      rintro e w2 ⟨hb, k2⟩
      obtain ⟨⟨bd, code⟩, hbd, hb⟩ : ∃ x, x = readF tn fb s bs ∧ BodyR w2 wc.heap.size e x := ⟨_, rfl, hb⟩
      have Hbd := Lib.hid hbd
      clear hbd
      obtain ⟨v0, v9, rfl, rw0, rw9⟩ := hb
      obtain ⟨Ad, cd, rfl, ld, _, rdd⟩ := rw0.reads
      obtain ⟨As, cs, rfl, lss, rds⟩ := own_slice2 rw9
      simp only [encB_len] at rdd ld ⊢
      unfold Bd.vals
      try simp only
      have BC := Blk.new w2 36 #[.slice Ad bd.data.length cd, .int .i64 bd.pad, .bool bd.prio, .bool bd.excl, .int .i64 bd.dep, .int .i64 bd.weight, .int .i64 bd.code, .int .i64 bd.last, .int .i64 bd.inc, .slice As bd.sets.length cs, .int .i64 bd.prom]
      obtain ⟨w3, hw3⟩ : ∃ w3, w3 = w2.alloc (.cells #[.slice Ad bd.data.length cd, .int .i64 bd.pad, .bool bd.prio, .bool bd.excl, .int .i64 bd.dep, .int .i64 bd.weight, .int .i64 bd.code, .int .i64 bd.last, .int .i64 bd.inc, .slice As bd.sets.length cs, .int .i64 bd.prom] 36) := ⟨_, rfl⟩
      have k23 : Keep [] w2 w3 := by rw [hw3]; exact (Keep.refl _ _).alloc _
      rw [← hw3] at BC
      have BF3 := TF1.out.keep (k2.trans k23) (by simp)
      have K3 := Lib.hid (K1.out.trans (k2.trans k23))
      have HRD3 := Lib.hid (And.intro (And.intro ld lss) (And.intro ((rdd.keeps k23 (Nat.le_refl _) (by simp)).more k23.size) ((rds.keeps k23 (Nat.le_refl _) (by simp)).more k23.size)))
      have HBC := Lib.hid BC
      have HW3 := Lib.hid hw3
      have hrd := (Hr.out.keeps K3.out (Nat.le_refl _) (by simp)).more K3.out.size
      have HRr := Lib.hid (rread_all w3 tn fb s hrd hnc (by omega) (by have := HN.out; omega))
      clear rw0 rw9 ld lss rdd rds hw3 k2 k23 BC d0 d1 d2 d3 HRd hrd
      have d0 := BF3.cell 0
      have d1 := BF3.cell 1
      have d2 := BF3.cell 2
      have d3 := BF3.cell 3
      simp at d0 d1 d2 d3
      go_upto_region 5 with (fail)
      rw [← HW3.out]
      go_wp2_with (fail)
      refine HRr.out.mono ?_
      rintro e w4 ⟨hb, k4⟩
      have hbd2 := Hbd.out
      rw [← hbd2] at hb
      obtain ⟨v0, v9, rfl, rw0, rw9⟩ := hb
      obtain ⟨Ae, ce, rfl, le, _, rde⟩ := rw0.reads
      obtain ⟨At, ct, rfl, lt_, rdt⟩ := own_slice2 rw9
      simp only [encB_len] at rde le ⊢
      unfold Bd.vals
      try simp only
      have BE := Blk.new w4 36 #[.slice Ae bd.data.length ce, .int .i64 bd.pad, .bool bd.prio, .bool bd.excl, .int .i64 bd.dep, .int .i64 bd.weight, .int .i64 bd.code, .int .i64 bd.last, .int .i64 bd.inc, .slice At bd.sets.length ct, .int .i64 bd.prom]
      obtain ⟨w5, hw5⟩ : ∃ w5, w5 = w4.alloc (.cells #[.slice Ae bd.data.length ce, .int .i64 bd.pad, .bool bd.prio, .bool bd.excl, .int .i64 bd.dep, .int .i64 bd.weight, .int .i64 bd.code, .int .i64 bd.last, .int .i64 bd.inc, .slice At bd.sets.length ct, .int .i64 bd.prom] 36) := ⟨_, rfl⟩
      have k45 : Keep [] w4 w5 := by rw [hw5]; exact (Keep.refl _ _).alloc _
      rw [← hw5] at BE
      have BC5 := HBC.out.keep (k4.trans k45) (by simp)
      have K5 := Lib.hid (K3.out.trans (k4.trans k45))
      have hlen := back_len2 tn fb s bs (N := 1099511627776) (by have := HN.out; omega)
      rw [← hbd2] at hlen
      have heq := eqb_ w5 bd (HRD3.out.2.1.keeps (k4.trans k45) (Nat.le_refl _) (by simp)) (HRD3.out.2.2.keeps (k4.trans k45) (Nat.le_refl _) (by simp)) (rde.keeps k45 (Nat.le_refl _) (by simp)) (rdt.keeps k45 (Nat.le_refl _) (by simp)) HRD3.out.1.1 HRD3.out.1.2 le lt_ hlen.1 hlen.2
      unfold Bd.vals at heq
      have HEQ := Lib.hid heq
      have HW5 := Lib.hid hw5
      obtain ⟨x0, x1, x2, x3, x4, x5, x6, x7, x8, x9, x10⟩ := cells11 BC5
      obtain ⟨y0, y1, y2, y3, y4, y5, y6, y7, y8, y9, y10⟩ := cells11 BE
      clear rw0 rw9 le lt_ rde rdt hw5 k4 k45 BE BC5 heq hlen hbd2 Hbd HRr HRD3 d0 d1 d2 d3
      go_upto_region 6 with (fail)
      rw [← HW5.out]
      go_wp2_with (fail)
      refine HEQ.out.mono ?_
      rintro e w6 ⟨rfl, k6⟩
      have K6 := Lib.hid (K5.out.trans k6)
      have hce : (code == code) = true := by simp
      clear k6
      go_wp2_with (fail)
      go_ret
      exact ⟨by simp, K6.out.below (Nat.le_refl _) (by simp)⟩
end Go.Proofs.Ytbngoaonkhcciaa
/-! #### FrameV -/
set_option linter.all false
namespace Go.Proofs.Ytbngoaonkhcciaa
open Go.ChangeShapes Go.WideShapes Go.ChangeAt Go.RowKit Go.Deep
theorem frVU_of {H : Type} {enc : TypeId × Value → H} {w : World} {base : Nat} {r : _} {b2 : Nat} {held : Bool} {v : Value} {d : DataW H} {p : List MemPlace} {N : Nat} (hok : Value.okWide Try.prog w r b2 24 v) (h : DataW.Trod enc Try.prog w base (fun _ => true) held 24 v d p) (hb : Rows.uptoBulk d ≤ N) : FrVU N w v := by
  refine ⟨frV_of hok h, ?_⟩
  rintro t f s A n c rfl
  obtain ⟨m, hm⟩ := h
  have e1 : Try.prog.cellsOf 3 = 1 := by kernel_rfl
  have e2 : Try.prog.cellsOf 22 = 1 := by kernel_rfl
  obtain ⟨ys, n', hn', hy, hlen, hyl, hf⟩ := DataW.trod_struct Try.underlying24 hm
  have hbig : ∀ y ∈ ys, Rows.uptoBulk y.1 ≤ N := fun y hyy => by
    have hy1 := congrArg Prod.fst hy
    simp only at hy1
    rw [hy1] at hb
    simp only [Rows.uptoBulk] at hb
    have := bulk_part (List.mem_map.2 ⟨y, hyy, rfl⟩ : y.1 ∈ ys.map (·.1))
    omega
  have g3 := hf 3 _ rfl
  obtain ⟨y3, hy3⟩ : ∃ y, ys[3]? = some y := ⟨ys[3]'(by rw [hyl]; decide), List.getElem?_eq_getElem _⟩
  rw [hy3] at g3
  simp only [e1, e2, Value.cells, List.drop_zero, List.drop_succ_cons, List.take_succ_cons, List.take_zero] at g3
  exact len_bulk Try.underlying22 g3 (hbig y3 (List.mem_of_getElem? hy3)) _ _ _ rfl
end Go.Proofs.Ytbngoaonkhcciaa
/-! #### LawOwn -/
set_option linter.all false
namespace Go.Proofs.Ytbngoaonkhcciaa
open Go.ChangeShapes Go.WideShapes Go.ChangeAt Go.RowKit Go.Proofs.YtbngoaonkhcciaaW.PrintWords
attribute [local go_sem] setCell_drewN alloc_drewN Oper.semAt_some
theorem row_store {W : World} {g off i : Nat} {t : TypeId} {cs : Array Value} (h : Blk W g t cs) (hi : off + i < cs.size) : ∃ u, W.cell? ⟨g, off + i, none⟩ = some u := ⟨cs[off + i], by rw [h.cell]; exact Array.getElem?_eq_getElem hi⟩
/-- a row of the call's own that is not empty lies in a block -/
theorem Row1.blk {W : World} {base : Nat} {e : TypeId} {A : Option Addr} {n c : Nat} {xs : List Value} (h : Row1 W base e (.slice A n c) xs) (h0 : 0 < n) : ∃ g off cs, A = some ⟨g, off, none⟩ ∧ base ≤ g ∧ Blk W g e cs ∧ off + n ≤ cs.size := by
  obtain ⟨A', cap, he, h1, _, h⟩ := h
  injection he with e1 e2 e3
  subst e1 e3
  rcases h with ⟨_, rfl, _⟩ | ⟨g, off, cs, rfl, hg, hb, hc, _⟩
  · simp at e2; omega
  · exact ⟨g, off, cs, rfl, hg, hb, by omega⟩
theorem own_blk2 {W : World} {base n c size : Nat} {e : TypeId} {A : Option Addr} {xs : List Value} (h : W.ownsRow base e size (.slice A n c) n xs) (h0 : 0 < n) : ∃ g cs, A = some ⟨g, 0, none⟩ ∧ base ≤ g ∧ Blk W g e cs ∧ n * size ≤ cs.size := by
  rcases h.2 with ⟨_, h1⟩ | ⟨g, cap, cur, he, hb, hg, hnc, _, hcs, _⟩
  · omega
  · injection he with e1 e2 e3
    subst e1 e3
    exact ⟨g, cur, rfl, hb, hg, by rw [hcs]; exact Nat.mul_le_mul_right _ hnc⟩
theorem own_mu {i n : Nat} (h : i < n) : n - (intOf (.int .i64 ((i + 1 : Nat) : Int))).toNat < n - (intOf (.int .i64 (i : Int))).toNat := by
  simp only [intOf]
  omega
/-- while the first body is overwritten: what stands of it, and that nothing else turns -/
structure OW (w8 : World) (lo hi : Nat) (Ad As : Option Addr) (n m : Nat) (W : World) : Prop where
  kp : ∃ gs : List Nat, (∀ x ∈ gs, lo ≤ x ∧ x < hi) ∧ Keep gs w8 W
  dat : 0 < n → ∃ g off cs, Ad = some ⟨g, off, none⟩ ∧ lo ≤ g ∧ g < hi ∧ Blk W g 5 cs ∧ off + n ≤ cs.size
  set_ : 0 < m → ∃ g cs, As = some ⟨g, 0, none⟩ ∧ lo ≤ g ∧ g < hi ∧ Blk W g 44 cs ∧ m * 2 ≤ cs.size
theorem OW.dstore {w8 W : World} {lo hi : Nat} {Ad As : Option Addr} {n m g off : Nat} (h : OW w8 lo hi Ad As n m W) (h0 : 0 < n) (hA : Ad = some ⟨g, off, none⟩) (i : Nat) (v : Value) : OW w8 lo hi Ad As n m (W.setCell ⟨g, off + i, none⟩ v) := by
  obtain ⟨g', off', cs, hA', h1, h2, h3, h4⟩ := h.dat h0
  rw [hA] at hA'
  injection hA' with hA'
  injection hA' with e1 e2
  subst e1 e2
  obtain ⟨gs, hgs, k⟩ := h.kp
  have kk : Keep [g] W (W.setCell ⟨g, off + i, none⟩ v) := (Keep.refl _ _).setCell (p := ⟨g, off + i, none⟩) (.inl (by simp)) _
  refine ⟨⟨g :: gs, fun x hx => (List.mem_cons.1 hx).elim (fun e => by rw [e]; exact ⟨h1, h2⟩) (hgs x), (k.more (fun x hx => .inl (by simp [hx]))).trans (kk.more (fun x hx => .inl (by simp at hx; simp [hx])))⟩, fun _ => ⟨g, off, _, hA, h1, h2, h3.set_ _ _, by simpa using h4⟩, fun hm => ?_⟩
  obtain ⟨g2, cs2, q1, q2, q3, q4, q5⟩ := h.set_ hm
  exact ⟨g2, cs2, q1, q2, q3, q4.keep kk (by simp; exact q4.ne_ h3 (by decide)), q5⟩
theorem OW.sstore {w8 W : World} {lo hi : Nat} {Ad As : Option Addr} {n m g : Nat} (h : OW w8 lo hi Ad As n m W) (h0 : 0 < m) (hA : As = some ⟨g, 0, none⟩) (i : Nat) (v : Value) : OW w8 lo hi Ad As n m (W.setCell ⟨g, i, none⟩ v) := by
  obtain ⟨g', cs, hA', h1, h2, h3, h4⟩ := h.set_ h0
  rw [hA] at hA'
  injection hA' with hA'
  injection hA' with e1 e2
  subst e1
  obtain ⟨gs, hgs, k⟩ := h.kp
  have kk : Keep [g] W (W.setCell ⟨g, i, none⟩ v) := (Keep.refl _ _).setCell (p := ⟨g, i, none⟩) (.inl (by simp)) _
  refine ⟨⟨g :: gs, fun x hx => (List.mem_cons.1 hx).elim (fun e => by rw [e]; exact ⟨h1, h2⟩) (hgs x), (k.more (fun x hx => .inl (by simp [hx]))).trans (kk.more (fun x hx => .inl (by simp at hx; simp [hx])))⟩, fun hn => ?_, fun _ => ⟨g, _, hA, h1, h2, h3.set_ _ _, by simpa using h4⟩⟩
  obtain ⟨g2, off2, cs2, q1, q2, q3, q4, q5⟩ := h.dat hn
  exact ⟨g2, off2, cs2, q1, q2, q3, q4.keep kk (by simp; exact q4.ne_ h3 (by decide)), q5⟩
set_option maxHeartbeats 8000000 in
set_option maxRecDepth 100000 in
theorem frameOwn (w : World) (v : Value) (hv : FrV w v) : Calls Try.prog 7 #[v] w fun e w' => e = .returned (.bool true) ∧ Below w.heap.size w w' := by
  obtain ⟨t, f, s, u, rfl, wt, wf, ws, hu⟩ := hv
  obtain ⟨A, n, c, bs, rfl, hnc, hcm, hl, hr⟩ := reads_of_sl hu
  subst hl
  unfold maxLen at hcm
  have Hr := Lib.hid hr
  clear hr hu wt wf ws
  go_enter Try.func7, Try.ntmps7
  go_wp2_with (fail)
  have BF := Blk.new w 24 #[.int .i64 t, .int .i64 f, .int .i64 s, .slice A bs.length c]
  refine (begun _).mono ?_
  rintro e w1 ⟨rfl, B1⟩
  have k1 := Keep.of_below B1
  have BF1 := BF.keep k1 (by simp)
  have K1 := Lib.hid (((Keep.refl [] w).alloc (.cells #[.int .i64 t, .int .i64 f, .int .i64 s, .slice A bs.length c] 24)).trans k1)
  have d0 := BF1.cell 0
  have d1 := BF1.cell 1
  have d2 := BF1.cell 2
  have d3 := BF1.cell 3
  simp at d0 d1 d2 d3
  clear B1 k1 BF
  go_upto_region 2 with (fail)
  go_cut [48] from 15 to 48 (fun v48 wx => (v48 = .bool true ∨ v48 = .bool false ∧ (0 ≤ t ∧ t ≤ 255 ∧ 0 ≤ f ∧ f ≤ 255 ∧ 0 ≤ s ∧ s ≤ 2147483647 ∧ (bs.length : Int) ≤ 100000)) ∧ wx = w1)
  case first =>
    by_cases g0 : t < 0
    · go_wp2_with (fail)
      go_meet
      case rel => exact ⟨.inl rfl, rfl⟩
    · by_cases g1 : 255 < t
      · go_wp2_with (fail)
        go_meet
        case rel => exact ⟨.inl rfl, rfl⟩
      · by_cases g2 : f < 0
        · go_wp2_with (fail)
          go_meet
          case rel => exact ⟨.inl rfl, rfl⟩
        · by_cases g3 : 255 < f
          · go_wp2_with (fail)
            go_meet
            case rel => exact ⟨.inl rfl, rfl⟩
          · by_cases g4 : s < 0
            · go_wp2_with (fail)
              go_meet
              case rel => exact ⟨.inl rfl, rfl⟩
            · by_cases g5 : 2147483647 < s
              · go_wp2_with (fail)
                go_meet
                case rel => exact ⟨.inl rfl, rfl⟩
              · by_cases g6 : (100000 : Int) < (bs.length : Int)
                · go_wp2_with (fail)
                  go_meet
                  case rel => exact ⟨.inl rfl, rfl⟩
                · go_wp2_with (fail)
                  go_meet
                  case rel => exact ⟨.inr ⟨rfl, by omega⟩, rfl⟩
  case rest =>
    obtain ⟨hg, rfl⟩ := hcut
    rcases hg with rfl | ⟨rfl, hg⟩
    · go_wp2_with (fail)
      go_ret
      exact ⟨by simp, K1.out.below (Nat.le_refl _) (by simp)⟩
    · obtain ⟨tn, rfl⟩ : ∃ n : Nat, t = n := ⟨t.toNat, by omega⟩
      obtain ⟨fb, rfl⟩ : ∃ fb : UInt8, f = fb.toNat := ⟨UInt8.ofNat f.toNat, by rw [UInt8.toNat_ofNat']; omega⟩
      have HN : Hid (bs.length ≤ 100000) := Lib.hid (by omega)
      clear hg
      obtain ⟨i0, z0, gi, gz, gz0, gz1, gz2⟩ := u8_info
      -- a frame of its own
      have HBF1 := Lib.hid BF1
      have BG := Blk.new wc 24 #[.int .i64 tn, .int .i64 fb.toNat, .int .i64 s, .slice A bs.length c]
      obtain ⟨w2, hw2⟩ : ∃ w2, w2 = wc.alloc (.cells #[.int .i64 tn, .int .i64 fb.toNat, .int .i64 s, .slice A bs.length c] 24) := ⟨_, rfl⟩
      have k12 : Keep [] wc w2 := by rw [hw2]; exact (Keep.refl _ _).alloc _
      rw [← hw2] at BG
      have BF2 := HBF1.out.keep k12 (by simp)
      have K2 := Lib.hid (K1.out.trans k12)
      have HW2 := Lib.hid hw2
      have hb1 : w.heap.size < wc.heap.size := BF1.lt
      have HB1 := Lib.hid hb1
      clear hw2 k12 BF1
      go_upto_region 5 with (fail)
      rw [← HW2.out]
      clear d0 d1 d2 d3
      have d0 := BF2.cell 0
      have d1 := BF2.cell 1
      have d2 := BF2.cell 2
      have d3 := BF2.cell 3
      simp at d0 d1 d2 d3
      have HRD := Lib.hid ((Hr.out.keeps K2.out (Nat.le_refl _) (by simp)).more K2.out.size)
      have TG := Lib.hid BG
      have TF := Lib.hid BF2
      have Hbase := Lib.hid (show w.heap.size ≤ w2.heap.size from K2.out.size)
      clear BG BF2 hb1
      go_upto_region 6 with (at_builtin; apply wpList_append_row _ rfl _ _ _ rfl w.heap.size 5 i0 z0 1 Try.underlying22 gi gz gz0 gz1 gz2 (.slice none 0 0) [] rfl (Row1.nil _ _ _) _ A bs.length c (encB bs) rfl HRD.out encB_one (by have := HN.out; unfold maxLen; simp only [List.length_nil]; omega) (by have := HN.out; simp only [List.length_nil]; omega) Hbase.out; intro v7 w3 hrow3 k3 hm3; rw [List.nil_append] at hrow3; simp only [rowBlk, Option.toList_none] at k3; obtain ⟨A7, c7, rfl, l7, m7, _⟩ := hrow3.reads; rw [encB_len] at hrow3 l7; have BG3 := TG.out.keep k3 (by simp); have BF3 := TF.out.keep k3 (by simp); have K3 := Lib.hid (K2.out.trans k3); have HROW3 := Lib.hid hrow3; have HL7 := Lib.hid (And.intro l7 m7); have hg3 := BG3.frozen 3; have hgc3 := BG3.cell 3; simp at hgc3; have TG3 := Lib.hid BG3; have TF3 := Lib.hid BF3; rw [encB_len]; clear BG3 BF3 hrow3 l7 m7 k3 hm3 HRD)
      have BG4 := TG3.out.set_ 3 (.slice A7 bs.length c7)
      simp only [List.setIfInBounds_toArray, List.set_cons_zero, List.set_cons_succ] at BG4
      have k34 : Keep [wc.heap.size] w3 (w3.setCell ⟨wc.heap.size, 3, none⟩ (.slice A7 bs.length c7)) := (Keep.refl _ _).setCell (p := ⟨wc.heap.size, 3, none⟩) (.inl (by simp)) _
      have BF4 := TF3.out.keep k34 (by have := HB1.out; simp; omega)
      have K4 := Lib.hid (K3.out.step k34 (by have := HB1.out; simp; omega))
      have row4 := HROW3.out.keep k34 (fun g hg hm => row_off_blk HROW3.out TG3.out (by decide) (by rw [show g = wc.heap.size by simpa using hm] at hg; exact hg))
      obtain ⟨w4, hw4⟩ : ∃ w4, w4 = w3.setCell ⟨wc.heap.size, 3, none⟩ (.slice A7 bs.length c7) := ⟨_, rfl⟩
      rw [← hw4] at BG4 BF4 K4 row4 ⊢
      have HL4 := Lib.hid (And.intro BG4.lt BF4.lt)
      have HRL : Hid (∀ g, rowBlk (.slice A7 bs.length c7) = some g → g < w4.heap.size) := Lib.hid (fun g hg => (row4.lt g hg).2)
      have HG4 := Lib.hid (And.intro BG4 BF4)
      have HROW4 := Lib.hid row4
      have grd : ∀ {W : World}, Row1 W w.heap.size 5 (.slice A7 bs.length c7) (encB bs) → Reads W W.heap.size 1 A7 bs.length (encB bs) := fun h => by
        obtain ⟨_, _, he, _, _, hrd⟩ := h.reads
        rw [encB_len] at he hrd
        injection he with he1 _ _
        rw [← he1] at hrd
        exact hrd
      clear hw4 k34 row4 hg3 hgc3 TG3 TF3 TG TF HROW3 d0 d1 d2 d3 gi gz gz0 gz1 gz2
      have d0 := BG4.cell 0
      have d1 := BG4.cell 1
      have d2 := BG4.cell 2
      have d3 := BG4.cell 3
      simp at d0 d1 d2 d3
      have HRd1 := Lib.hid (read_all w4 tn fb s (grd HROW4.out) HL7.out.1 (by have := HL7.out.2; unfold maxLen at this; omega) (by have := HN.out; omega))
      clear BG4 BF4
      go_wp2_with (fail)
      refine HRd1.out.mono ?_
      rintro e w5 ⟨hb, kr⟩
      obtain ⟨⟨bd, code⟩, hbd, hb⟩ : ∃ x, x = readF tn fb s bs ∧ BodyR w5 w4.heap.size e x := ⟨_, rfl, hb⟩
      have Hbd := Lib.hid hbd
      have hlen := back_len2 tn fb s bs (N := 100000) HN.out
      rw [← hbd] at hlen
      have HLEN := Lib.hid hlen
      clear hbd hlen HRd1
      obtain ⟨v0, v9, rfl, rw0, rw9⟩ := hb
      obtain ⟨Ad, cd, rfl, ld, md, rdd⟩ := rw0.reads
      obtain ⟨As, cs, rfl, lss, rds⟩ := own_slice2 rw9
      simp only [encB_len] at rw0 rdd ld ⊢
      unfold Bd.vals
      try simp only
      have BB := Blk.new w5 36 #[.slice Ad bd.data.length cd, .int .i64 bd.pad, .bool bd.prio, .bool bd.excl, .int .i64 bd.dep, .int .i64 bd.weight, .int .i64 bd.code, .int .i64 bd.last, .int .i64 bd.inc, .slice As bd.sets.length cs, .int .i64 bd.prom]
      obtain ⟨w6, hw6⟩ : ∃ w6, w6 = w5.alloc (.cells #[.slice Ad bd.data.length cd, .int .i64 bd.pad, .bool bd.prio, .bool bd.excl, .int .i64 bd.dep, .int .i64 bd.weight, .int .i64 bd.code, .int .i64 bd.last, .int .i64 bd.inc, .slice As bd.sets.length cs, .int .i64 bd.prom] 36) := ⟨_, rfl⟩
      have k56 : Keep [] w5 w6 := by rw [hw6]; exact (Keep.refl _ _).alloc _
      have e56 : w6.heap.size = w5.heap.size + 1 := by rw [hw6]; simp
      rw [← hw6] at BB
      have k46 := kr.trans k56
      have HBB := Lib.hid BB
      have HG6 := Lib.hid (And.intro (HG4.out.1.keep k46 (by simp)) (HG4.out.2.keep k46 (by simp)))
      have HROW6 := Lib.hid (HROW4.out.keep k46 (by simp))
      have HBR6 := Lib.hid (And.intro (rw0.keep k56 (by simp)) (own_keep rw9 k56 (by simp)))
      have HLD := Lib.hid (And.intro ld (And.intro lss md))
      have HOD : Hid (0 < bd.data.length → ∃ g off cs, Ad = some ⟨g, off, none⟩ ∧ w4.heap.size ≤ g ∧ g < w5.heap.size ∧ Blk w5 g 5 cs ∧ off + bd.data.length ≤ cs.size) := Lib.hid (fun h0 => by
        obtain ⟨g, off, cs, h1, h2, h3, h4⟩ := rw0.blk h0
        exact ⟨g, off, cs, h1, h2, h3.lt, h3, h4⟩)
      have HOS : Hid (0 < bd.sets.length → ∃ g cs, As = some ⟨g, 0, none⟩ ∧ w4.heap.size ≤ g ∧ g < w5.heap.size ∧ Blk w5 g 44 cs ∧ bd.sets.length * 2 ≤ cs.size) := Lib.hid (fun h0 => by
        obtain ⟨g, cs, h1, h2, h3, h4⟩ := own_blk2 rw9 h0
        exact ⟨g, cs, h1, h2, h3.lt, h3, h4⟩)
      have HK56 := Lib.hid k56
      have K6 := Lib.hid (K4.out.trans k46)
      have HS6 := Lib.hid (show w4.heap.size ≤ w5.heap.size ∧ w6.heap.size = w5.heap.size + 1 from ⟨kr.size, e56⟩)
      have HW6 := Lib.hid hw6
      clear rw0 rw9 ld lss md rdd rds BB hw6 kr k56 k46 e56 HG4 HROW4 d0 d1 d2 d3 K4
      go_upto_region 7 with (fail)
      rw [← HW6.out]
      have d0 := HG6.out.1.cell 0
      have d1 := HG6.out.1.cell 1
      have d2 := HG6.out.1.cell 2
      have d3 := HG6.out.1.cell 3
      simp at d0 d1 d2 d3
      have HRd2 := Lib.hid (read_all w6 tn fb s (grd HROW6.out) HL7.out.1 (by have := HL7.out.2; unfold maxLen at this; omega) (by have := HN.out; omega))
      go_wp2_with (fail)
      refine HRd2.out.mono ?_
      rintro e w7 ⟨hb, kr⟩
      have hbd2 := Hbd.out
      rw [← hbd2] at hb
      obtain ⟨v0, v9, rfl, rw0, rw9⟩ := hb
      obtain ⟨Ae, ce, rfl, le, me, rde⟩ := rw0.reads
      obtain ⟨At, ct, rfl, lt_, rdt⟩ := own_slice2 rw9
      simp only [encB_len] at rw0 rde le ⊢
      unfold Bd.vals
      try simp only
      have BC := Blk.new w7 36 #[.slice Ae bd.data.length ce, .int .i64 bd.pad, .bool bd.prio, .bool bd.excl, .int .i64 bd.dep, .int .i64 bd.weight, .int .i64 bd.code, .int .i64 bd.last, .int .i64 bd.inc, .slice At bd.sets.length ct, .int .i64 bd.prom]
      obtain ⟨w8, hw8⟩ : ∃ w8, w8 = w7.alloc (.cells #[.slice Ae bd.data.length ce, .int .i64 bd.pad, .bool bd.prio, .bool bd.excl, .int .i64 bd.dep, .int .i64 bd.weight, .int .i64 bd.code, .int .i64 bd.last, .int .i64 bd.inc, .slice At bd.sets.length ct, .int .i64 bd.prom] 36) := ⟨_, rfl⟩
      have k78 : Keep [] w7 w8 := by rw [hw8]; exact (Keep.refl _ _).alloc _
      have e78 : w8.heap.size = w7.heap.size + 1 := by rw [hw8]; simp
      rw [← hw8] at BC
      have k68 := kr.trans k78
      -- what stands in w8
      have HK68 := Lib.hid k68
      have HG8 := Lib.hid (And.intro (HG6.out.1.keep k68 (by simp)) (HG6.out.2.keep k68 (by simp)))
      have HROW8 := Lib.hid (HROW6.out.keep k68 (by simp))
      have HB8 := Lib.hid (And.intro (HBB.out.keep k68 (by simp)) (And.intro (HBR6.out.1.keep k68 (by simp)) (own_keep HBR6.out.2 k68 (by simp))))
      have HC8 := Lib.hid (And.intro BC (And.intro (rw0.keep k78 (by simp)) (own_keep rw9 k78 (by simp))))
      have HLE := Lib.hid (And.intro le (And.intro lt_ me))
      have K8 := Lib.hid (K6.out.trans k68)
      have HS8 := Lib.hid (show w6.heap.size ≤ w7.heap.size ∧ w8.heap.size = w7.heap.size + 1 from ⟨kr.size, e78⟩)
      have HW8 := Lib.hid hw8
      clear rw0 rw9 le lt_ me rde rdt BC hw8 kr k78 k68 e78 HG6 HROW6 HBB HBR6 hbd2 d0 d1 d2 d3 K6 HRd2
      go_upto_region 8 with (fail)
      rw [← HW8.out]
      have k58 : Keep [] w5 w8 := HK56.out.trans HK68.out
      have HO0 : Hid (OW w8 w4.heap.size w5.heap.size Ad As bd.data.length bd.sets.length w8) := Lib.hid ⟨⟨[], by simp, Keep.refl _ _⟩, fun h0 => by
        obtain ⟨g, off, cs, h1, h2, h3, h4, h5⟩ := HOD.out h0
        exact ⟨g, off, cs, h1, h2, h3, h4.keep k58 (by simp), h5⟩, fun h0 => by
        obtain ⟨g, cs, h1, h2, h3, h4, h5⟩ := HOS.out h0
        exact ⟨g, cs, h1, h2, h3, h4.keep k58 (by simp), h5⟩⟩
      obtain ⟨bb, hbb⟩ : ∃ bb, bb = w5.heap.size := ⟨_, rfl⟩
      have HBB8 : Hid (∀ W, OW w8 w4.heap.size w5.heap.size Ad As bd.data.length bd.sets.length W → Blk W bb 36 #[.slice Ad bd.data.length cd, .int .i64 bd.pad, .bool bd.prio, .bool bd.excl, .int .i64 bd.dep, .int .i64 bd.weight, .int .i64 bd.code, .int .i64 bd.last, .int .i64 bd.inc, .slice As bd.sets.length cs, .int .i64 bd.prom]) := Lib.hid (fun W h => by
        obtain ⟨gs, hgs, k⟩ := h.kp
        rw [hbb]
        exact HB8.out.1.keep k (fun hm => by have := (hgs _ hm).2; omega))
      rw [← hbb]
      have HBBE := Lib.hid hbb
      clear k58 hbb
      go_wp2_with (fail)
      go_loopw [9] (fun v9 wr => ∃ i : Nat, v9 = .int .i64 i ∧ i ≤ bd.data.length ∧ OW w8 w4.heap.size w5.heap.size Ad As bd.data.length bd.sets.length wr) (fun v9 _ => bd.data.length - (intOf v9).toNat)
      case atStart => exact ⟨0, rfl, by omega, HO0.out⟩
      case round =>
        obtain ⟨i, rfl, hi, hO⟩ := hrel
        obtain ⟨x0, x1, x2, x3, x4, x5, x6, x7, x8, x9, x10⟩ := cells11 (HBB8.out wr hO)
        clear x1 x2 x3 x4 x5 x6 x7 x8 x10
        by_cases hlt : i < bd.data.length
        · have q1 : (i : Int) < (bd.data.length : Int) := by omega
          obtain ⟨g, off, cs', hA, h1, h2, h3, h4⟩ := hO.dat (Nat.lt_of_le_of_lt (Nat.zero_le _) hlt)
          obtain ⟨u, hu⟩ := row_store h3 (i := i) (Nat.lt_of_lt_of_le (Nat.add_lt_add_left hlt off) h4)
          have hf := h3.frozen (off + i)
          have HO2 := Lib.hid (hO.dstore (Nat.lt_of_le_of_lt (Nat.zero_le _) hlt) hA i (.int .u8 99))
          have HA := Lib.hid hA
          rw [hA] at x0
          have HL := Lib.hid hlt
          have hll := HLEN.out.1
          have ew : wrap64 ((i : Int) + 1) = ((i + 1 : Nat) : Int) := by unfold wrap64; omega
          clear hA h1 h2 h3 h4 hO hlt hi x9 hll
          go_wp2_with (fail)
          rw [ew]
          exact ⟨⟨i + 1, rfl, HL.out, HO2.out⟩, own_mu HL.out⟩
        · have q1 : ¬ (i : Int) < (bd.data.length : Int) := by omega
          have HO1 := Lib.hid hO
          clear hO hlt hi
          go_wp2_with (fail)
          go_loopw [10] (fun v10 wr => ∃ i : Nat, v10 = .int .i64 i ∧ i ≤ bd.sets.length ∧ OW w8 w4.heap.size w5.heap.size Ad As bd.data.length bd.sets.length wr) (fun v10 _ => bd.sets.length - (intOf v10).toNat)
          case atStart => exact ⟨0, rfl, by omega, HO1.out⟩
          case round =>
            obtain ⟨i2, rfl, hi, hO⟩ := hrel
            obtain ⟨y0, y1, y2, y3, y4, y5, y6, y7, y8, y9, y10⟩ := cells11 (HBB8.out _ hO)
            clear y0 y1 y2 y3 y4 y5 y6 y7 y8 y10
            by_cases hlt : i2 < bd.sets.length
            · have q2 : (i2 : Int) < (bd.sets.length : Int) := by omega
              obtain ⟨g, cs', hA, h1, h2, h3, h4⟩ := hO.set_ (Nat.lt_of_le_of_lt (Nat.zero_le _) hlt)
              obtain ⟨u, hu⟩ := row_store (off := i2 * 2) h3 (i := 1) (by omega)
              have hf := h3.frozen (i2 * 2 + 1)
              have HO2 := Lib.hid (hO.sstore (Nat.lt_of_le_of_lt (Nat.zero_le _) hlt) hA (i2 * 2 + 1) (.int .i64 99))
              have HA := Lib.hid hA
              rw [hA] at y9
              have HL := Lib.hid hlt
              have hll := HLEN.out.2
              have ew : wrap64 ((i2 : Int) + 1) = ((i2 + 1 : Nat) : Int) := by unfold wrap64; omega
              clear hA h1 h2 h3 h4 hO hlt hi hll
              go_wp2_with (fail)
              rw [ew]
              exact ⟨⟨i2 + 1, rfl, HL.out, HO2.out⟩, own_mu HL.out⟩
            · have q2 : ¬ (i2 : Int) < (bd.sets.length : Int) := by omega
              have HO2 := Lib.hid hO
              clear hO hlt hi
              obtain ⟨gs, hgs, kg⟩ := HO2.out.kp
              have hs1 := HL4.out
              have hs6 := HS6.out
              have hs8 := HS8.out
              have BFW := HG8.out.2.keep kg (fun hm => by have := (hgs _ hm).1; omega)
              have BGW := HG8.out.1.keep kg (fun hm => by have := (hgs _ hm).1; omega)
              have rowW := HROW8.out.keep kg (fun g hg hm => by have := HRL.out g hg; have := (hgs _ hm).1; omega)
              have BCW := HC8.out.1.keep kg (fun hm => by have := (hgs _ hm).2; omega)
              have rcW := HC8.out.2.1.keep kg (fun g hg hm => by have := (HC8.out.2.1.lt g hg).1; have := (hgs _ hm).2; omega)
              have ocW := own_keep HC8.out.2.2 kg (fun k hk hm => by have := own_base HC8.out.2.2 k hk; have := (hgs _ hm).2; omega)
              have KW := Lib.hid (K8.out.step kg (fun x hx => .inr (by have := (hgs x hx).1; omega)))
              have hrd := (Hr.out.keeps KW.out (Nat.le_refl _) (by simp)).more KW.out.size
              have HRr := Lib.hid (rread_all wr tn fb s hrd hnc (by omega) (by have := HN.out; omega))
              have HBG := Lib.hid (And.intro BGW BFW)
              have HRO := Lib.hid rowW
              have HBC := Lib.hid (And.intro BCW (And.intro rcW ocW))
              have d0 := BFW.cell 0
              have d1 := BFW.cell 1
              have d2 := BFW.cell 2
              have d3 := BFW.cell 3
              simp at d0 d1 d2 d3
              clear hgs kg hs1 hs6 hs8 BFW BGW rowW BCW rcW ocW hrd HO2 HO1 HO0
              go_wp2_with (fail)
              refine HRr.out.mono ?_
              rintro e w9 ⟨hb, kr⟩
              have hbd2 := Hbd.out
              rw [← hbd2] at hb
              obtain ⟨v0, v9, rfl, rw0, rw9⟩ := hb
              obtain ⟨Af, cf, rfl, lf, mf, rdf⟩ := rw0.reads
              obtain ⟨Ag, cg, rfl, lg, rdg⟩ := own_slice2 rw9
              simp only [encB_len] at rw0 rdf lf ⊢
              unfold Bd.vals
              try simp only
              have BD := Blk.new w9 36 #[.slice Af bd.data.length cf, .int .i64 bd.pad, .bool bd.prio, .bool bd.excl, .int .i64 bd.dep, .int .i64 bd.weight, .int .i64 bd.code, .int .i64 bd.last, .int .i64 bd.inc, .slice Ag bd.sets.length cg, .int .i64 bd.prom]
              obtain ⟨w10, hw10⟩ : ∃ w10, w10 = w9.alloc (.cells #[.slice Af bd.data.length cf, .int .i64 bd.pad, .bool bd.prio, .bool bd.excl, .int .i64 bd.dep, .int .i64 bd.weight, .int .i64 bd.code, .int .i64 bd.last, .int .i64 bd.inc, .slice Ag bd.sets.length cg, .int .i64 bd.prom] 36) := ⟨_, rfl⟩
              have k910 : Keep [] w9 w10 := by rw [hw10]; exact (Keep.refl _ _).alloc _
              rw [← hw10] at BD
              have kw := kr.trans k910
              have BC10 := HBC.out.1.keep kw (by simp)
              have rc10 := HBC.out.2.1.keep kw (by simp)
              have oc10 := own_keep HBC.out.2.2 kw (by simp)
              have K10 := Lib.hid (KW.out.trans kw)
              obtain ⟨_, _, he, hl1, _, hrd1⟩ := rc10.reads
              rw [encB_len] at he hl1 hrd1
              injection he with he1 he2 he3
              clear he2
              rw [← he1] at hrd1
              rw [← he3] at hl1
              obtain ⟨_, _, he, hl2, hrd2⟩ := own_slice2 oc10
              injection he with he4 he5 he6
              clear he5
              rw [← he4] at hrd2
              rw [← he6] at hl2
              clear he1 he3 he4 he6
              have heq := eqb_ w10 bd hrd1 hrd2 (rdf.keeps k910 (Nat.le_refl _) (by simp)) (rdg.keeps k910 (Nat.le_refl _) (by simp)) hl1 hl2 lf lg (by have := HLEN.out; omega) (by have := HLEN.out; omega)
              unfold Bd.vals at heq
              have HEQ := Lib.hid heq
              have HBG10 := Lib.hid (And.intro (HBG.out.1.keep kw (by simp)) (HBG.out.2.keep kw (by simp)))
              have HRO10 := Lib.hid (HRO.out.keep kw (by simp))
              have HW10 := Lib.hid hw10
              obtain ⟨z0, z1, z2, z3, z4, z5, z6, z7, z8, z9, z10⟩ := cells11 BC10
              obtain ⟨t0, t1, t2, t3, t4, t5, t6, t7, t8, t9, t10⟩ := cells11 BD
              clear rw0 rw9 lf mf lg rdf rdg hw10 kr k910 kw BD BC10 rc10 oc10 hl1 hl2 hrd1 hrd2 heq hbd2 HRr HBG HRO d0 d1 d2 d3 y9 x0 x9
              go_upto_region 17 with (fail)
              rw [← HW10.out]
              go_wp2_with (fail)
              refine HEQ.out.mono ?_
              rintro e w12 ⟨rfl, k12⟩
              have K12 := Lib.hid (K10.out.trans k12)
              have BG12 := HBG10.out.1.keep k12 (by simp)
              have BF12 := HBG10.out.2.keep k12 (by simp)
              have rd12 := grd (HRO10.out.keep k12 (by simp))
              have rf12 := (Hr.out.keeps K12.out (Nat.le_refl _) (by simp))
              have st1 := str_of (c := c7) (src := 22) (dst := 9) Try.underlying22 Try.underlying5 Try.underlying9 rd12
              have st2 := str_of (c := c) (src := 22) (dst := 9) Try.underlying22 Try.underlying5 Try.underlying9 rf12
              have d3 := BF12.cell 3
              have g3 := BG12.cell 3
              simp at d3 g3
              clear BG12 BF12 rd12 rf12 k12 z0 t0 z1 t1 z2 t2 z3 t3 z4 t4 z5 t5 z6 t6 z7 t7 z8 t8 z9 t9 z10 t10
              go_wp2_with (fail)
              go_ret
              exact ⟨by simp, K12.out.below (Nat.le_refl _) (by simp)⟩
end Go.Proofs.Ytbngoaonkhcciaa
