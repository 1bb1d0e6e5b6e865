/- Own texts in one: SetIt Mk8 Begun PureH PureM PureB Body CtrB LawBack BodyV. -/
import Derived.Test.YtbngoaonkhcciaaZC
import Derived.Maps.OwnIn
import Derived.Maps.Views
import Derived.Test.YtbngoaonkhcciaaZB
import Derived.Test.YtbngoaonkhcciaaZP
import Derived.Test.YtbngoaonkhcciaaZR
import Derived.Test.YtbngoaonkhcciaaZA
/-! #### SetIt -/
set_option linter.all false
namespace Go.Proofs.Ytbngoaonkhcciaa
open Go.ChangeShapes Go.WideShapes Go.ChangeAt Go.RowKit
attribute [local go_sem] setCell_drewN alloc_drewN Oper.semAt_some
/-- the last place, of the first i, at which k stands; 0: none -/
def lastTo (ss : List (Int × Int)) : Nat → Int → Nat
  | 0, _ => 0
  | i + 1, k => if (ss.getD i (0, 0)).1 = k then i else lastTo ss i k
/-- the map of the last places -/
def MapIs (w : World) (mb n : Nat) (ss : List (Int × Int)) : Prop :=
  ∃ D : DataW Unit, w.ownsMap Try.prog 3 (plainElem Try.prog 3) mb n D ∧ Maps.IsMap D ∧ ∀ k, (Lit.int .i64 k).wf = true → D.atKey (.int .i64 k) (.lit (.int .i64 0)) = .lit (.int .i64 (lastTo ss n k : Nat))
theorem MapIs.same {w w' : World} {mb n : Nat} {ss : List (Int × Int)} (h : MapIs w mb n ss) (he : w'.heap[mb]? = w.heap[mb]?) : MapIs w' mb n ss := by
  obtain ⟨D, ⟨es, clock, hb, r⟩, h2⟩ := h
  exact ⟨D, ⟨es, clock, he.trans hb, r⟩, h2⟩
theorem MapIs.lt {w : World} {mb n : Nat} {ss : List (Int × Int)} (h : MapIs w mb n ss) : mb < w.heap.size := by
  obtain ⟨D, ho, _⟩ := h
  exact ho.lt
theorem MapIs.empty (w : World) (ss : List (Int × Int)) : MapIs (w.alloc (.map #[] 0)) w.heap.size 0 ss :=
  ⟨.map [], World.ownsMap_made w _ _ _, Maps.isMap_empty, fun k _ => rfl⟩
theorem zero_int (w : World) : (zeroValue 3).run Try.prog w = .ok (.int .i64 0) w := by
  obtain ⟨i, hi⟩ : ∃ i, Try.prog.info? 3 = some i := Option.isSome_iff_exists.1 (by kernel_rfl)
  have h : (Try.prog.info? 3).bind (·.zero) = some (.int .i64 0) := by kernel_rfl
  rw [hi] at h
  simp at h
  simp [zeroValue, typeInfo, hi, h, Sem.run_bind]
theorem kInt : Maps.Keyed Try.prog 3 := Maps.int_keyed (q := .i64) Try.underlying3
theorem MapIs.step {w : World} {mb n : Nat} {ss : List (Int × Int)} (h : MapIs w mb n ss) (hn : n < maxLen) (k : Int) (hk : (Lit.int .i64 k).wf = true) (hw : (Lit.int .i64 (n : Int)).wf = true) (hs : (ss.getD n (0, 0)).1 = k) :
    ∃ w', (Instr.mapUpdate 67 (.map (some mb)) (.int .i64 k) (.int .i64 n)).run Try.prog w = .ok () w' ∧ MapIs w' mb (n + 1) ss ∧ Keep [mb] w w' := by
  obtain ⟨D, ho, hm, ha⟩ := h
  have hkey : keyOf Try.prog 3 (.int .i64 k) = some (.int .i64 k) := Maps.keyOf_int_mk Try.underlying3 hk
  obtain ⟨w', hr, h1, h2⟩ := ho.update kInt Try.underlying67 hn hkey (plainElem_int Try.underlying3 hw)
  refine ⟨w', hr, ⟨_, h1, hm.put _ _, fun k' hk' => ?_⟩, Keep.of_only h2⟩
  unfold lastTo
  rw [hs]
  by_cases e : k = k'
  · subst e
    rw [if_pos rfl, Maps.atKey_put_same hm (by exact trivial)]
  · rw [if_neg e, Maps.atKey_put_other (by intro h; injection h with _ h; exact e h.symm), ha k' hk']
theorem MapIs.look {w : World} {mb n : Nat} {ss : List (Int × Int)} (h : MapIs w mb n ss) (k : Int) (hk : (Lit.int .i64 k).wf = true) : (Instr.lookup 67 (.map (some mb)) (.int .i64 k) false).run Try.prog w = .ok (.int .i64 (lastTo ss n k : Nat)) w := by
  obtain ⟨D, ho, hm, ha⟩ := h
  have hkey : keyOf Try.prog 3 (.int .i64 k) = some (.int .i64 k) := Maps.keyOf_int_mk Try.underlying3 hk
  obtain ⟨c, hr, h1, _⟩ := ho.lookup_int kInt Try.underlying67 Try.underlying3 (zero_int w) hkey
  rw [ha k hk] at h1
  injection h1 with h1
  injection h1 with _ h1
  rw [hr, h1]
/-- what the walk asks of a world: the slice's cell and its settings -/
structure SF (s : Nat) (W : World) (c1 : Nat) (A : Option Addr) (n c : Nat) (ss : List (Int × Int)) : Prop where
  b1 : Blk W c1 34 #[.slice A n c]
  rd : Reads W s 2 A n (encS ss)
  sz : s ≤ W.heap.size
theorem SF.keep {s c1 n c : Nat} {A : Option Addr} {ss : List (Int × Int)} {W W' : World} {gs : List Nat} (h : SF s W c1 A n c ss) (k : Keep gs W W') (hg : c1 ∉ gs) (hA : 0 < n → ∀ ad, A = some ad → ad.block ∉ gs) : SF s W' c1 A n c ss :=
  ⟨h.b1.keep k hg, h.rd.kept k h.sz hA, by have := h.sz; have := k.size; omega⟩
theorem encS_at {ss : List (Int × Int)} {i : Nat} (h : i < ss.length) : (encS ss)[i * 2]? = some (.int .i64 (ss.getD i (0, 0)).1) ∧ (encS ss)[i * 2 + 1]? = some (.int .i64 (ss.getD i (0, 0)).2) := by
  induction ss generalizing i with
  | nil => simp at h
  | cons a ss ih =>
    cases i with
    | zero => exact ⟨rfl, rfl⟩
    | succ i =>
      have := ih (i := i) (by simpa using h)
      have e1 : (i + 1) * 2 = i * 2 + 1 + 1 := by omega
      have e2 : encS (a :: ss) = [.int .i64 a.1, .int .i64 a.2] ++ encS ss := by simp [encS]
      rw [e1, e2]
      constructor
      · rw [List.getElem?_append_right (by simp)]
        simpa using this.1
      · rw [List.getElem?_append_right (by simp)]
        simpa using this.2
set_option maxRecDepth 100000 in
set_option maxHeartbeats 4000000 in
theorem setIt {m l s c1 : Nat} {A : Option Addr} {n c : Nat} {ss : List (Int × Int)} (hn : ss.length = n) (hnc : n ≤ c) (hcm : c ≤ 9223372036854775807) (hwf : ∀ p ∈ ss, (Lit.int .i64 p.1).wf = true)
    (J : Nat → World → Prop) (K : World → Prop) (hJ : ∀ j W, J j W → SF s W c1 A n c ss) (W0 : World)
    (hst : ∀ j W W', J j W → Keep [W0.heap.size] W W' → J j W')
    (hskip : ∀ j W, J j W → j < n → ¬ lastTo ss n (ss.getD j (0, 0)).1 = j → J (j + 1) W)
    (hround : ∀ j W, J j W → j < n → lastTo ss n (ss.getD j (0, 0)).1 = j → W0.heap.size < W.heap.size →
      YieldAt Fence.wide m Try.prog l #[.int .i64 j, .agg #[.int .i64 (ss.getD j (0, 0)).1, .int .i64 (ss.getD j (0, 0)).2]] W fun e W' => W'.heap[W0.heap.size]? = W.heap[W0.heap.size]? ∧ ((e = .returned (.bool true) ∧ J (j + 1) W') ∨ (e = .returned (.bool false) ∧ K W')))
    (h1 : c1 < W0.heap.size) (hs : s ≤ W0.heap.size) (h0 : J 0 W0) :
    CallsIn Fence.wide (m + 1) Try.prog 37 #[.func (.yield l) #[] #[], .pointer (some ⟨c1, 0, none⟩)] W0 fun e W' => (∃ v, e = .returned v) ∧ (J n W' ∨ K W') := by
  have cf0 := hJ _ _ h0
  have p1 := cf0.b1.cell 0
  simp at p1
  have Hst := Lib.hid hst
  have HR := Lib.hid hround
  have HSK := Lib.hid hskip
  have HJ := Lib.hid hJ
  have HW := Lib.hid hwf
  clear hst hround hskip hJ hwf
  refine callsIn_of_wp Try.func37 rfl trivial ?_ rfl
  simp only [Try.ntmps37, List.size_toArray, List.length_cons, List.length_nil, Nat.reduceAdd, Nat.reduceSub, Array.replicate_succ, Array.replicate_zero, List.push_toArray, List.append_toArray, List.nil_append, List.cons_append]
  have hmk : (Instr.makeMap 67 none).run Try.prog W0 = .ok (.map (some W0.heap.size)) (W0.alloc (.map #[] 0)) := rfl
  have M0 := MapIs.empty W0 ss
  gi_wp2
  have JL := Hst.out _ _ _ h0 (((Keep.refl [] W0).alloc (.map #[] 0)).more (by simp))
  obtain ⟨W1, hW1⟩ : ∃ W1, W1 = W0.alloc (.map #[] 0) := ⟨_, rfl⟩
  have s1 : W1.heap.size = W0.heap.size + 1 := by rw [hW1]; simp
  rw [← hW1] at M0 JL ⊢
  clear hW1 hmk p1 cf0 h0
  obtain ⟨mb, hmb⟩ : ∃ mb, mb = W0.heap.size := ⟨_, rfl⟩
  rw [← hmb] at M0 HR Hst h1 hs s1 ⊢
  clear hmb
  gi_loopw [11] (fun vi wr => ∃ i : Nat, vi = .int .i64 i ∧ i ≤ n ∧ MapIs wr mb i ss ∧ J 0 wr ∧ mb < wr.heap.size) (fun vi _ => n - (intOf vi).toNat)
  case atStart => exact ⟨0, rfl, by omega, M0, JL, by omega⟩
  case round =>
    obtain ⟨i, rfl, hi, hm, hj, hlt⟩ := hrel
    have cf := HJ.out _ _ hj
    by_cases hin : i < n
    · have k1 : (i : Int) < (n : Int) := by omega
      have hit : i < ss.length := by omega
      obtain ⟨q1, q2⟩ := encS_at hit
      obtain ⟨b2, o2, rfl, hbl, hcell⟩ := cf.rd.plain (by omega) (by omega)
      have hwf := HW.out _ (by
        have : ss.getD i (0, 0) = ss[i] := by rw [List.getD_eq_getElem?_getD, List.getElem?_eq_getElem hit]; rfl
        rw [this]
        exact List.getElem_mem hit : ss.getD i (0, 0) ∈ ss)
      obtain ⟨⟨id, vv⟩, hp⟩ : ∃ p, ss.getD i (0, 0) = p := ⟨_, rfl⟩
      rw [hp] at q1 q2 hwf
      have c0 := hcell _ _ q1
      have c1' := hcell _ _ q2
      rw [← Nat.add_assoc] at c1'
      clear q1 q2 hcell hit
      have HP := Lib.hid hp
      have HWF := Lib.hid hwf
      clear hp hwf
      obtain ⟨w', hup, hm', kk⟩ := (hm.same (Below.heap_alloc wr (.cells #[.int .i64 id, .int .i64 vv] 44) mb hlt)).step (by unfold maxLen; omega) id HWF.out (by simp [Lit.wf, IntKind.min, IntKind.max, IntKind.signed, IntKind.bits]; omega) (by rw [HP.out])
      have JW := Hst.out _ _ _ hj ((((Keep.refl [mb] wr).alloc (.cells #[.int .i64 id, .int .i64 vv] 44))).trans kk)
      have zk := kk.size
      simp at zk
      have HM := Lib.hid hm'
      clear hm' kk
      gi_wp2
      exact ⟨⟨i + 1, by go_num, by omega, HM.out, JW, by omega⟩, by simp [intOf]; omega⟩
    · have k1 : ¬ (i : Int) < (n : Int) := by omega
      obtain rfl : i = n := by omega
      have p1 := cf.b1.cell 0
      simp at p1
      clear cf
      gi_wp2
      clear M0 JL W1 s1 p1 k1 hin
      gi_loopw [23] (fun vi wr => ∃ j : Nat, vi = .int .i64 j ∧ j ≤ i ∧ MapIs wr mb i ss ∧ J j wr ∧ mb < wr.heap.size) (fun vi _ => i - (intOf vi).toNat)
      case atStart => exact ⟨0, rfl, by omega, hm, hj, hlt⟩
      case round =>
        obtain ⟨j, rfl, hji, hm, hj, hlt⟩ := hrel
        have cf := HJ.out _ _ hj
        by_cases hjn : j < i
        · have k1 : (j : Int) < (i : Int) := by omega
          have hit : j < ss.length := by omega
          obtain ⟨q1, q2⟩ := encS_at hit
          obtain ⟨b2, o2, rfl, hbl, hcell⟩ := cf.rd.plain (by omega) (by omega)
          have hwf := HW.out _ (by
            have : ss.getD j (0, 0) = ss[j] := by rw [List.getD_eq_getElem?_getD, List.getElem?_eq_getElem hit]; rfl
            rw [this]
            exact List.getElem_mem hit : ss.getD j (0, 0) ∈ ss)
          have hRd := fun W => HR.out j W
          have hSk := fun W => HSK.out j W
          obtain ⟨⟨id, vv⟩, hp⟩ : ∃ p, ss.getD j (0, 0) = p := ⟨_, rfl⟩
          rw [hp] at q1 q2 hwf hRd hSk
          have c0 := hcell _ _ q1
          have c1' := hcell _ _ q2
          rw [← Nat.add_assoc] at c1'
          have hlk := (hm.same (Below.heap_alloc wr (.cells #[.int .i64 id, .int .i64 vv] 44) mb hlt)).look id hwf
          have JA := Hst.out _ _ _ hj ((Keep.refl [mb] wr).alloc (.cells #[.int .i64 id, .int .i64 vv] 44))
          have MA := hm.same (Below.heap_alloc wr (.cells #[.int .i64 id, .int .i64 vv] 44) mb hlt)
          clear q1 q2 hcell hit hp hwf hm hj
          by_cases hl : lastTo ss i id = j
          · rw [hl] at hlk
            have hY := hRd _ JA hjn hl (by simp; omega)
            obtain ⟨fY, tY, aY, bY, hy, hR⟩ := hY
            have HMA := Lib.hid MA
            clear hRd hSk JA hl MA
            gi_wp2
            refine hR.mono ?_
            rintro e W' ⟨hfk, (⟨rfl, hj'⟩ | ⟨rfl, hk'⟩)⟩
            · have HMW := Lib.hid (HMA.out.same hfk)
              clear hfk
              gi_wp2
              exact ⟨⟨j + 1, by go_num, by omega, HMW.out, hj', HMW.out.lt⟩, by simp [intOf]; omega⟩
            · gi_wp2
              refine bodyPost_ret (results_none rfl _ _ _) rfl ?_
              exact ⟨⟨_, rfl⟩, .inr hk'⟩
          · have JN := Lib.hid (hSk _ JA hjn hl)
            obtain ⟨L, hL⟩ : ∃ L, L = lastTo ss i id := ⟨_, rfl⟩
            rw [← hL] at hlk hl
            have k2 : ((L : Int) == (j : Int)) = false := by rw [beq_eq_false_iff_ne]; omega
            have HMA := Lib.hid MA
            clear hRd hSk JA hl hL MA
            gi_wp2
            refine ⟨fun f hf => (by cases hf), ?_⟩
            go_at_K
            gi_wp2
            exact ⟨⟨j + 1, by go_num, by omega, HMA.out, JN.out, by simp; omega⟩, by simp [intOf]; omega⟩
        · have k1 : ¬ (j : Int) < (i : Int) := by omega
          obtain rfl : j = i := by omega
          clear cf
          gi_wp2
          refine bodyPost_end (results_none rfl _ _ _) rfl ?_
          exact ⟨⟨_, rfl⟩, .inl hj⟩
end Go.Proofs.Ytbngoaonkhcciaa
/-! #### Mk8 -/
set_option linter.all false
namespace Go.Proofs.Ytbngoaonkhcciaa
open Go.ChangeShapes Go.WideShapes Go.ChangeAt Go.RowKit Go.Proofs.YtbngoaonkhcciaaW.PrintWords
attribute [local go_sem] setCell_drewN alloc_drewN Oper.semAt_some
theorem settings_ (w : World) (A : Option Addr) (n c : Nat) : Calls Try.prog 20 #[.slice A n c] w fun e w' => e = .returned (.func (.func 37) #[] #[.pointer (some ⟨w.heap.size, 0, none⟩)]) ∧ w' = w.alloc (.cells #[.slice A n c] 34) := by
  go_enter Try.func20, Try.ntmps20
  go_wp2
  go_ret
  exact ⟨rfl, rfl⟩
theorem low_ (w : World) (x : Int) (h1 : 0 ≤ x) (h2 : x ≤ 2147483647) : Calls Try.prog 35 #[.int .i64 x] w fun e w' => e = .returned (.bool true) ∧ w = w' := by
  have k1 : (0 : Int) ≤ x := h1
  have k2 : decide (x ≤ 2147483647) = true := by simpa using h2
  go_enter Try.func35, Try.ntmps35
  go_wp2
  go_ret
  exact ⟨by simp [h2], rfl⟩
def mkBody : Array Value := #[.slice none 0 0, .int .i64 0, .bool false, .bool false, .int .i64 0, .int .i64 0, .int .i64 0, .int .i64 0, .int .i64 5, .slice none 0 0, .int .i64 0]
set_option maxHeartbeats 2000000 in
theorem payload_begun (w : World) : Calls Try.prog 36 #[.slice none 0 0, .int .i64 8, .int .i64 0, .agg mkBody] w fun e w' =>
    ∃ v, e = .returned (.tuple #[v, .bool true]) ∧ w'.ownsRow w.heap.size 5 1 v 4 (encB [0, 0, 0, 5]) ∧ Keep [] w w' := by
  unfold mkBody
  go_enter Try.func36, Try.ntmps36
  go_wp2_with (fail)
  obtain ⟨w1, hw1⟩ : ∃ w1, w1 = w.alloc (.cells #[.slice none 0 0, .int .i64 0, .bool false, .bool false, .int .i64 0, .int .i64 0, .int .i64 0, .int .i64 0, .int .i64 5, .slice none 0 0, .int .i64 0] 36) := ⟨_, rfl⟩
  have K1 : Keep [] w w1 := by rw [hw1]; exact (Keep.refl _ _).alloc _
  have b1 : Blk w1 w.heap.size 36 #[.slice none 0 0, .int .i64 0, .bool false, .bool false, .int .i64 0, .int .i64 0, .int .i64 0, .int .i64 0, .int .i64 5, .slice none 0 0, .int .i64 0] := by rw [hw1]; exact Blk.new _ _ _
  rw [← hw1]
  clear hw1
  have L1 := Lib.hid (lay_ w1 w1.drew (.slice none 0 0) 0 4 5 [] ((Below.refl _ _).drew) (World.ownsRow_nil _ _ _ _) (by omega) (by omega))
  refine wpIn_wide.1 (region_rtc (n := 0) [(3, true), (7, false), (8, false)] []
    [(0, .slice none 0 0), (1, .pointer (some ⟨w.heap.size, 8, none⟩)), (2, .int .i64 5), (4, .pointer (some ⟨w.heap.size, 8, none⟩)), (5, .int .i64 5), (6, .bool true)]
    (fun W => Keep [] w1 W) (by kernel_rfl) (by kernel_rfl) ((Keep.refl _ _).drew) ?_ ?_)
  · simp only [evOkC, putAll, List.getElem?_toArray, List.getElem?_cons_zero, List.getElem?_cons_succ, Option.bind_some, Act.put, List.setIfInBounds_toArray, List.set_cons_zero, List.set_cons_succ]
    repeat' apply And.intro
    all_goals first
      | exact trivial
      | (intro W hW; refine gives_read rfl ?_; have e8 := (b1.keep hW (by simp)).cell 8; simp at e8; simp [go_sem, Addr.add, e8]; done)
      | (intro W hW; unfold GivesV; simp [go_sem]; refine ⟨trivial, rfl, (callsIn_wide.2 (low_ W 5 (by omega) (by omega))).mono ?_⟩; rintro e w' ⟨rfl, rfl⟩; exact ⟨rfl, rfl⟩)
  · simp only [putAll, List.getElem?_toArray, List.getElem?_cons_zero, List.getElem?_cons_succ, Option.bind_some, Act.put, List.setIfInBounds_toArray, List.set_cons_zero, List.set_cons_succ]
    refine tail_wanted rfl rfl ?_
    simp [go_sem]
    refine ⟨trivial, rfl, (callsIn_wide.2 L1.out).mono ?_⟩
    rintro e W5 ⟨v5, rfl, o5, B5, m5, k5⟩
    have KK5 : Keep [] w1 W5 := ⟨B5.os, B5.tape, B5.output, B5.size, fun i hi _ => B5.block i hi⟩
    refine ⟨⟨KK5, gHolds_none rfl⟩, ?_⟩
    refine tail_wanted rfl rfl ?_
    simp [go_sem]
    refine ⟨gHolds_none rfl, ?_⟩
    refine tail_wanted rfl rfl ?_
    simp [go_sem]
    refine ⟨gHolds_none rfl, ?_⟩
    unfold wpTailG
    go_at_K
    go_wp2_with (fail)
    go_ret2
    exact ⟨v5, rfl, own_lower (by simpa [beB] using o5) K1.size, K1.trans KK5⟩
set_option maxHeartbeats 2000000 in
theorem make_begun (w : World) : Calls Try.prog 18 #[.int .i64 8, .int .i64 0, .int .i64 3, .agg #[.slice none 0 0, .int .i64 0, .bool false, .bool false, .int .i64 0, .int .i64 0, .int .i64 0, .int .i64 0, .int .i64 5, .slice none 0 0, .int .i64 0]] w fun e w' =>
    ∃ v, e = .returned (.tuple #[.agg #[.int .i64 8, .int .i64 0, .int .i64 3, v], .int .i64 0]) ∧ Row1 w' w.heap.size 5 v (encB [0, 0, 0, 5]) ∧ Keep [] w w' := by
  go_enter Try.func18, Try.ntmps18
  have hpd : padF 8 = false := rfl
  go_wp2_with (first
    | (go_at_call 34; refine (padded_ _ 8).mono ?_; rintro e w' ⟨rfl, rfl⟩; rw [hpd])
    | (go_at_call 35; refine (low_ _ 3 (by omega) (by omega)).mono ?_; rintro e w' ⟨rfl, rfl⟩))
  have BB := (Blk.new w 36 mkBody).alloc (.cells #[.int .i64 0, .int .i64 0, .int .i64 0, .slice none 0 0] 24)
  have BR := Blk.new (w.alloc (.cells mkBody 36)) 24 #[.int .i64 0, .int .i64 0, .int .i64 0, .slice none 0 0]
  refine (payload_begun _).mono ?_
  rintro e w3 ⟨v3, rfl, o3, k3⟩
  have BB3 := (BB.keep k3 (by simp)).cell 1
  have BR3 := BR.keep k3 (by simp)
  simp at BR3
  have q0 := BR3.cell 0
  have q1 := BR3.cell 1
  have q2 := BR3.cell 2
  have q3 := BR3.cell 3
  have g0 := BR3.frozen 0
  have g1 := BR3.frozen 1
  have g2 := BR3.frozen 2
  have g3 := BR3.frozen 3
  simp [mkBody] at BB3 q0 q1 q2 q3
  obtain ⟨gg, c3, rfl, hc3⟩ : ∃ g cap, v3 = .slice (some ⟨g, 0, none⟩) 4 cap ∧ 4 ≤ cap := by
    rcases o3.2 with ⟨_, h⟩ | ⟨g, cap, cur, h, _, _, h2, _⟩
    · cases h
    · exact ⟨g, cap, h, h2⟩
  have K3 := Lib.hid ((((Keep.refl [] w).alloc _).alloc _).trans k3)
  have HO := Lib.hid (own_lower o3 (b' := w.heap.size + 2) (by simp))
  have HBR := Lib.hid BR3
  have l3 := k3.size
  simp at l3
  clear o3 BR3 k3 BB BR
  go_wp2_with (fail)
  have FB := (((HBR.out.set_ 0 (.int .i64 8)).set_ 1 (.int .i64 0)).set_ 2 (.int .i64 3)).set_ 3 (.slice (some ⟨gg, 0, none⟩) 4 c3)
  simp only [List.setIfInBounds_toArray, List.set_cons_zero, List.set_cons_succ] at FB
  have KL := ((((Keep.refl [w.heap.size + 1] w3).setCell (p := ⟨w.heap.size + 1, 0, none⟩) (.inl (by simp)) (.int .i64 8)).setCell (p := ⟨w.heap.size + 1, 1, none⟩) (.inl (by simp)) (.int .i64 0)).setCell (p := ⟨w.heap.size + 1, 2, none⟩) (.inl (by simp)) (.int .i64 3)).setCell (p := ⟨w.heap.size + 1, 3, none⟩) (.inl (by simp)) (.slice (some ⟨gg, 0, none⟩) 4 c3)
  have KF := K3.out.step KL (by simp)
  refine bodyPost_ret (results_ct rfl _ _ (w.heap.size + 1) 24 #[.int .i64 8, .int .i64 0, .int .i64 3, .slice (some ⟨gg, 0, none⟩) 4 c3] (0, 0) _ rfl FB Try.underlying24 rfl (by kernel_rfl)) rfl ?_
  have hrow := Row1.of_own HO.out
  exact ⟨_, rfl, (hrow.keep KL (fun g hg => by have := (hrow.lt g hg).1; simp; omega)).lower (by omega), KF⟩
end Go.Proofs.Ytbngoaonkhcciaa
/-! #### Begun -/
set_option linter.all false
namespace Go.Proofs.Ytbngoaonkhcciaa
open Go.ChangeShapes Go.WideShapes Go.ChangeAt Go.RowKit Go.Proofs.YtbngoaonkhcciaaW.PrintWords
attribute [local go_sem] setCell_drewN alloc_drewN Oper.semAt_some
theorem head_begun : PHd.frame_Head.f 20 (ints [0, 0, 4, 8, 0, 0, 0, 0, 3, 0, 0, 0, 5]) = some (8, 0, 3, [], 4, 0) := by kernel_rfl
theorem bare_begun : bareF 8 0 [0, 0, 0, 5] = .ok 0 [0, 0, 0, 5] := by rfl
set_option maxRecDepth 100000 in
set_option maxHeartbeats 4000000 in
theorem begun (w : World) : Calls Try.prog 9 #[] w fun e w' => e = .returned (.bool true) ∧ Below w.heap.size w w' := by
  have hfe := fun (w : World) (a b : Array Value) => run_eql_func_nil (P := Try.prog) w 48 (.func 37) a b Try.underlying48
  refine rng_func Try.func9 rfl ?_
  simp only [Try.ntmps9, List.size_toArray, List.length_cons, List.length_nil, Nat.reduceAdd, Nat.reduceSub, Array.replicate_succ, Array.replicate_zero, List.push_toArray, List.append_toArray, List.nil_append, List.cons_append]
  go_wp2_with (fail)
  have r1 : Reads (w.alloc (.cells #[.int .u8 0, .int .u8 0, .int .u8 0, .int .u8 5] 5)) (w.heap.size + 1) 1 (some ⟨w.heap.size, 0, none⟩) 4 (encB [0, 0, 0, 5]) := reads_new w #[.int .u8 0, .int .u8 0, .int .u8 0, .int .u8 5] 5 (0, 0) 1 4 rfl
  refine (put_ _ (c := 4) (s := 3) 8 0 (r1.more (by simp)) (by omega) (by omega) (by omega)).mono ?_
  rintro e w1 ⟨v1, rfl, row1, k1⟩
  have K1 := Lib.hid (((Keep.refl [] w).alloc (.cells #[.int .u8 0, .int .u8 0, .int .u8 0, .int .u8 5] 5)).trans k1)
  have row1 : Row1 w1 w.heap.size 5 v1 (encB [0, 0, 4, 8, 0, 0, 0, 0, 3, 0, 0, 0, 5]) := row1.lower (by simp)
  obtain ⟨A1, c1, rfl, hc1, hcm1, rd1⟩ := row1.reads
  have rd1' := Lib.hid rd1
  have hH := PHd.frame_Head.calls 20 A1 c1 (ints [0, 0, 4, 8, 0, 0, 0, 0, 3, 0, 0, 0, 5]) 8 0 3 [] 4 0 w1 (C_of rd1 (by simp [encB])) (by simpa [encB, ints] using hc1) head_begun
  have HH := Lib.hid hH
  clear k1 r1 hH rd1 row1 hc1 hcm1
  have el : (encB [0, 0, 4, 8, 0, 0, 0, 0, 3, 0, 0, 0, 5]).length = 13 := rfl
  rw [el] at rd1' ⊢
  clear el
  go_wp2_with (fail)
  refine HH.out.mono ?_
  rintro e w2 ⟨v2, rfl, R2, B2⟩
  obtain ⟨A2, c2, hv2⟩ := Kd.R_slice R2
  subst hv2
  have k2 := Keep.of_below B2
  have s12 := B2.size
  have K2 := Lib.hid (K1.out.trans k2)
  have rd2 := Lib.hid (rd1'.out.keeps k2 (Nat.le_refl _) (by simp))
  clear HH R2 B2 k2 rd1'
  go_wp2_with (fail)
  have BH := (Blk.new w2 24 #[.int .i64 8, .int .i64 0, .int .i64 3, .slice A2 0 c2]).alloc (.cells #[.int .u8 0, .int .u8 0, .int .u8 0, .int .u8 5] 5)
  have r3 : Reads ((w2.alloc (.cells #[.int .i64 8, .int .i64 0, .int .i64 3, .slice A2 0 c2] 24)).alloc (.cells #[.int .u8 0, .int .u8 0, .int .u8 0, .int .u8 5] 5)) _ 1 (some ⟨(w2.alloc (.cells #[.int .i64 8, .int .i64 0, .int .i64 3, .slice A2 0 c2] 24)).heap.size, 0, none⟩) 4 (encB [0, 0, 0, 5]) := reads_new (w2.alloc (.cells #[.int .i64 8, .int .i64 0, .int .i64 3, .slice A2 0 c2] 24)) #[.int .u8 0, .int .u8 0, .int .u8 0, .int .u8 5] 5 (0, 0) 1 4 rfl
  have e5 : numB [0, 0, 0, 5] % 2147483648 = 5 := by decide
  have hRd := read_8 _ (s := 3) (c := 4) (r3.more (by simp)) (by omega) (by omega) (by omega) bare_begun rfl
  rw [e5] at hRd
  simp only [World.size_alloc] at hRd
  have hRd := hRd
  refine hRd.mono ?_
  rintro e w3 ⟨rfl, k3⟩
  have BH3 := BH.keep k3 (by simp)
  have kk3 := (((Keep.refl [] w2).alloc (.cells #[.int .i64 8, .int .i64 0, .int .i64 3, .slice A2 0 c2] 24)).alloc (.cells #[.int .u8 0, .int .u8 0, .int .u8 0, .int .u8 5] 5)).trans k3
  have K3 := Lib.hid (K2.out.trans kk3)
  have rd3 := Lib.hid (rd2.out.keeps kk3 s12 (by simp))
  have s23 := kk3.size
  clear hRd k3 kk3 BH r3 e5 rd2
  go_wp2_with (fail)
  have BX := Blk.new w3 36 #[.slice none 0 0, .int .i64 0, .bool false, .bool false, .int .i64 0, .int .i64 0, .int .i64 0, .int .i64 0, .int .i64 5, .slice none 0 0, .int .i64 0]
  have BH4 := BH3.alloc (.cells #[.slice none 0 0, .int .i64 0, .bool false, .bool false, .int .i64 0, .int .i64 0, .int .i64 0, .int .i64 0, .int .i64 5, .slice none 0 0, .int .i64 0] 36)
  refine (make_begun _).mono ?_
  rintro e w4 ⟨v4, rfl, row4, k4⟩
  have kk4 := ((Keep.refl [] w3).alloc (.cells #[.slice none 0 0, .int .i64 0, .bool false, .bool false, .int .i64 0, .int .i64 0, .int .i64 0, .int .i64 0, .int .i64 5, .slice none 0 0, .int .i64 0] 36)).trans k4
  have K4 := Lib.hid (K3.out.trans kk4)
  have rd4 := Lib.hid (rd3.out.keeps kk4 (by omega) (by simp))
  have BX4 := Lib.hid (BX.keep k4 (by simp))
  have BH5 := Lib.hid (BH4.keep k4 (by simp))
  have s34 := kk4.size
  obtain ⟨A4, c4, rfl, _, _, r4⟩ := row4.reads
  have rd4b := Lib.hid r4
  have el : (encB [0, 0, 0, 5]).length = 4 := rfl
  rw [el] at rd4b ⊢
  clear el row4 BX BH3 BH4 k4 kk4 rd3 r4
  go_wp2_with (fail)
  refine (settings_ _ _ _ _).mono ?_
  rintro e w' ⟨rfl, rfl⟩
  go_wp2_with (fail)
  clear hRd row1
  have a0 := Blk.new w4 24 #[.int .i64 8, .int .i64 0, .int .i64 3, .slice A4 4 c4]
  have a1 := Blk.new (w4.alloc (.cells #[.int .i64 8, .int .i64 0, .int .i64 3, .slice A4 4 c4] 24)) 3 #[.int .i64 0]
  have a2 := reads_new ((w4.alloc (.cells #[.int .i64 8, .int .i64 0, .int .i64 3, .slice A4 4 c4] 24)).alloc (.cells #[.int .i64 0] 3)) #[.int .i64 1, .int .i64 0, .int .i64 1, .int .i64 2] 44 (0, 0) 2 2 rfl
  have a3 := Blk.new (((w4.alloc (.cells #[.int .i64 8, .int .i64 0, .int .i64 3, .slice A4 4 c4] 24)).alloc (.cells #[.int .i64 0] 3)).alloc (.cells #[.int .i64 1, .int .i64 0, .int .i64 1, .int .i64 2] 44)) 34 #[.slice (some ⟨w4.heap.size + 1 + 1, 0, none⟩) 2 2]
  simp only [World.size_alloc] at a0 a1 a2 a3
  have a0 := ((a0.alloc (.cells #[.int .i64 0] 3)).alloc (.cells #[.int .i64 1, .int .i64 0, .int .i64 1, .int .i64 2] 44)).alloc (.cells #[.slice (some ⟨w4.heap.size + 1 + 1, 0, none⟩) 2 2] 34)
  have a1 := (a1.alloc (.cells #[.int .i64 1, .int .i64 0, .int .i64 1, .int .i64 2] 44)).alloc (.cells #[.slice (some ⟨w4.heap.size + 1 + 1, 0, none⟩) 2 2] 34)
  have a2 := a2.alloc (by simp) (.cells #[.slice (some ⟨w4.heap.size + 1 + 1, 0, none⟩) 2 2] 34)
  have KS : Keep [] w4 ((((w4.alloc (.cells #[.int .i64 8, .int .i64 0, .int .i64 3, .slice A4 4 c4] 24)).alloc (.cells #[.int .i64 0] 3)).alloc (.cells #[.int .i64 1, .int .i64 0, .int .i64 1, .int .i64 2] 44)).alloc (.cells #[.slice (some ⟨w4.heap.size + 1 + 1, 0, none⟩) 2 2] 34)) := ((((Keep.refl [] w4).alloc _).alloc _).alloc _).alloc _
  obtain ⟨S, hS⟩ : ∃ S, S = ((((w4.alloc (.cells #[.int .i64 8, .int .i64 0, .int .i64 3, .slice A4 4 c4] 24)).alloc (.cells #[.int .i64 0] 3)).alloc (.cells #[.int .i64 1, .int .i64 0, .int .i64 1, .int .i64 2] 44)).alloc (.cells #[.slice (some ⟨w4.heap.size + 1 + 1, 0, none⟩) 2 2] 34)) := ⟨_, rfl⟩
  have szS : w4.heap.size + 4 ≤ S.heap.size := by rw [hS]; simp
  simp only [← hS] at a0 a1 a2 a3 KS ⊢
  clear hS
  obtain ⟨kb, hkb⟩ : ∃ kb, kb = w4.heap.size := ⟨_, rfl⟩
  rw [← hkb] at a0 a1 a2 a3 szS s34 ⊢
  have Hkb := Lib.hid hkb
  have s4 := K4.out.size
  rw [← hkb] at s4
  clear hkb
  have HA0 := Lib.hid a0
  clear a0
  refine rng_stmt' (n := 5) (gf := 37) (lb := #[.pointer (some ⟨kb + 1 + 1 + 1, 0, none⟩)]) (by first | rfl | simp) (enters_of Try.func37 (by kernel_rfl) rfl) ?_
  intro rc hrc W1 hW1
  have szW1 : W1.heap.size = S.heap.size + 1 + 1 := by rw [hW1]; simp
  refine (setIt (m := 4) (s := kb + 3) (c1 := kb + 1 + 1 + 1) (A := some ⟨kb + 1 + 1, 0, none⟩) (n := 2) (c := 2) (ss := [(1, 0), (1, 2)]) rfl (by omega) (by omega) (by decide)
    (fun j W => SF (kb + 3) W (kb + 1 + 1 + 1) (some ⟨kb + 1 + 1, 0, none⟩) 2 2 [(1, 0), (1, 2)] ∧ Blk W (kb + 1) 3 #[.int .i64 (j / 2 : Nat)] ∧ Rest S W [kb + 1] (.loop (rc .ready none)))
    (fun _ => False) (fun j W h => h.1) W1 ?hst ?skip ?round (by omega) (by omega) ?start).mono ?fin
  case hst =>
    rintro j W W' ⟨hc, hk, hr⟩ k
    rw [szW1] at k
    exact ⟨hc.keep k (by simp; omega) (fun _ ad e => by injection e with e; subst e; simp; omega), hk.keep k (by simp; omega), hr.go k (by simp; omega) (by simp) (by simp; omega)⟩
  case skip =>
    rintro j W ⟨hc, hk, hr⟩ hj hl
    have : j = 0 := by
      rcases Nat.lt_or_ge j 1 with h | h
      · omega
      · obtain rfl : j = 1 := by omega
        exact absurd rfl hl
    subst this
    exact ⟨hc, hk, hr⟩
  case start =>
    have KB : Keep [] S W1 := by rw [hW1]; exact ((Keep.refl [] S).alloc _).alloc _
    have q1 : W1.heap[S.heap.size + 1]? = some (.loop (rc .ready none)) := by rw [hW1]; have := heap_alloc_new (S.alloc (.deferred (some []))) (.loop (rc .ready none)); simpa using this
    have q2 : W1.heap[S.heap.size]? = some (.deferred (some [])) := by rw [hW1]; exact (Below.heap_alloc _ _ _ (by simp)).trans (heap_alloc_new S (.deferred (some [])))
    exact ⟨⟨a3.keep KB (by simp), a2.keeps KB (by omega) (by simp), by omega⟩, a1.keep KB (by simp), ⟨q1, q2, KB.more (by simp)⟩⟩
  case round =>
    rintro j W ⟨hc, hk, hr⟩ hj hl hsz
    have : j = 1 := by
      rcases Nat.lt_or_ge j 1 with h | h
      · obtain rfl : j = 0 := by omega
        exact absurd hl (by decide)
      · omega
    subst this
    rw [szW1]
    clear hsz
    refine rng_round' hrc hr.rc rfl ?_
    clear hrc hW1
    have kp : Keep [S.heap.size + 1] W (W.putObj (S.heap.size + 1) (.loop (rc .busy none))) := (Keep.refl _ W).putObj (.inl (by simp)) _
    have L2 := Lib.hid hr.rc
    have hk3 := hk.keep kp (by simp; omega)
    have hr3 := hr.put (o' := .loop (rc .busy none))
    have cf3 := hc.keep kp (by simp; omega) (fun _ ad e => by injection e with e; subst e; simp; omega)
    have hgk : (W.putObj (S.heap.size + 1) (.loop (rc .busy none))).heap[S.heap.size + 1 + 1]? = W.heap[S.heap.size + 1 + 1]? := World.putObj_heap_other (by omega)
    gi_wp2
    refine ⟨L2.out, ?_⟩
    obtain ⟨W3, hW3⟩ : ∃ W3, W3 = W.putObj (S.heap.size + 1) (.loop (rc .busy none)) := ⟨_, rfl⟩
    rw [← hW3] at hk3 hr3 cf3 hgk ⊢
    clear hW3
    have c3 := hk3.cell 0
    have f3 := hk3.frozen 0
    simp at c3
    have k4 : Keep [kb + 1] W3 (W3.setCell ⟨kb + 1, 0, none⟩ (.int .i64 1)) := (Keep.refl _ W3).setCell (p := ⟨kb + 1, 0, none⟩) (.inl (by simp)) _
    have hk4 : Blk (W3.setCell ⟨kb + 1, 0, none⟩ (.int .i64 1)) (kb + 1) 3 #[.int .i64 1] := hk3.set_ 0 _
    have hr4 := hr3.go k4 (by simp) (by simp; omega) (by simp; omega)
    have cf4 := cf3.keep k4 (by simp; omega) (fun _ ad e => by injection e with e; subst e; first | (simp; done) | (simp; omega))
    have kz : Keep [S.heap.size + 1] (W3.setCell ⟨kb + 1, 0, none⟩ (.int .i64 1)) ((W3.setCell ⟨kb + 1, 0, none⟩ (.int .i64 1)).putObj (S.heap.size + 1) (.loop (rc .ready none))) := (Keep.refl _ _).putObj (.inl (by simp)) _
    have HR5 := Lib.hid (hr4.put (o' := .loop (rc .ready none)))
    have HK5 := Lib.hid (hk4.keep kz (by simp; omega))
    have HC5 := Lib.hid (cf4.keep kz (by simp; omega) (fun _ ad e => by injection e with e; subst e; simp; omega))
    have HG5 : Hid (((W3.setCell ⟨kb + 1, 0, none⟩ (.int .i64 1)).putObj (S.heap.size + 1) (.loop (rc .ready none))).heap[S.heap.size + 1 + 1]? = W.heap[S.heap.size + 1 + 1]?) := Lib.hid ((World.putObj_heap_other (by omega)).trans ((Below.heap_setCell W3 ⟨kb + 1, 0, none⟩ _ _ (by simp; omega)).trans hgk))
    have HL4 := Lib.hid hr4.rc
    clear hk3 hr3 cf3 k4 hk4 hr4 cf4 kz hgk hr hk hc kp
    gi_wp2
    exact ⟨HL4.out, HG5.out, HC5.out, HK5.out, HR5.out⟩
  case fin =>
    rintro e W' ⟨⟨vr, rfl⟩, h⟩
    obtain ⟨hc, hk, hr⟩ := h.resolve_right id
    refine ⟨_, .ready, none, rfl, by simp, hr.rc, ?_⟩
    have hr2 := hr.put (o' := .loop (rc .exhausted none))
    have kp : Keep [S.heap.size + 1] W' (W'.putObj (S.heap.size + 1) (.loop (rc .exhausted none))) := (Keep.refl _ W').putObj (.inl (by simp)) _
    have hk2 := hk.keep kp (by simp; omega)
    obtain ⟨W5, hW5⟩ : ∃ W5, W5 = W'.putObj (S.heap.size + 1) (.loop (rc .exhausted none)) := ⟨_, rfl⟩
    simp only [← hW5] at hr2 hk2 ⊢
    clear hW5 hW1 hrc hc hk hr kp
    have kpp : Keep [kb + 1] S W5 := hr2.kp
    have HKb := Hkb.out
    have KA : Keep [] w4 W5 := KS.step kpp (by simp; omega)
    have HKA := Lib.hid KA
    have c0 := hk2.cell 0
    have h0 := (BH5.out.keep KA (by simp)).cell 0
    have h2 := (BH5.out.keep KA (by simp)).cell 2
    have x8 := (BX4.out.keep KA (by simp)).cell 8
    have m3 := (HA0.out.keep kpp (by simp)).cell 3
    simp at c0 h0 h2 x8 m3
    have st1 := str_of (c := c1) (src := 22) (dst := 9) Try.underlying22 Try.underlying5 Try.underlying9 (rd4.out.keeps KA (by omega) (by simp))
    have st2 := str_of (c := c4) (src := 22) (dst := 9) Try.underlying22 Try.underlying5 Try.underlying9 (rd4b.out.keeps KA (by omega) (by simp))
    have hdf := Lib.hid hr2.df
    have HK4 := Lib.hid K4
    clear hk2 hr2 K4 KA rd4 rd4b BH5 BX4 HA0 KS kpp a1 a2 a3 HKb
    go_wp2_with (fail)
    refine ⟨by simp, .inl ⟨_, _, rfl, run_takeDeferred hdf.out, ?_⟩⟩
    refine ⟨_, results_tmp rfl _ _ _, rfl, ?_⟩
    exact ((HK4.out.trans HKA.out).putObj (l := S.heap.size) (.inr (by omega)) _).below (Nat.le_refl _) (by simp)
end Go.Proofs.Ytbngoaonkhcciaa
/-! #### PureH -/
set_option linter.all false
namespace Go.Proofs.Ytbngoaonkhcciaa
open Go.RowKit Go.Proofs.YtbngoaonkhcciaaW.PrintWords
theorem rd_ints {bs : List UInt8} {j : Nat} (h : j < bs.length) : rd (ints bs) (j : Int) = (bs[j].toNat : Int) := by
  simp [rd, ints, List.getD_eq_getElem?_getD, List.getElem?_eq_getElem h]
theorem take_snoc {bs : List UInt8} {j : Nat} (h : j < bs.length) : numB (bs.take (j + 1)) = numB (bs.take j) * 256 + bs[j].toNat := by
  rw [List.take_succ, List.getElem?_eq_getElem h]
  exact numB_snoc _ _
theorem numB_small (bs : List UInt8) (h : bs.length ≤ 4) : numB bs < 4294967296 :=
  Nat.lt_of_lt_of_le (numB_lt bs.length bs rfl) (Nat.le_trans (Nat.pow_le_pow_right (by omega) h) (by decide))
theorem number_l (bs : List UInt8) (hb : bs.length ≤ 4) : ∀ (d k j : Nat), j + d = bs.length → d < k → PHd.frame_number.l0 k (numB (bs.take j)) (ints bs) bs.length j = some (numB bs : Int)
  | 0, k, j, hj, hk => by
    obtain ⟨k, rfl⟩ : ∃ m, k = m + 1 := ⟨k - 1, by omega⟩
    simp only [PHd.frame_number.l0]
    rw [if_neg (by omega), List.take_of_length_le (by omega)]
  | d + 1, k, j, hj, hk => by
    obtain ⟨k, rfl⟩ : ∃ m, k = m + 1 := ⟨k - 1, by omega⟩
    have hlt : j < bs.length := by omega
    have h1 := numB_small (bs.take j) (by rw [List.length_take]; omega)
    have h2 := (bs[j]).toNat_lt
    simp only [PHd.frame_number.l0]
    rw [if_pos (by omega), if_pos (by omega), if_pos (by rw [ints_len]; omega), rd_ints hlt]
    have e1 : wrap64 ((numB (bs.take j) : Int) * 256) = (numB (bs.take j) : Int) * 256 := wrap64_small _ (by omega) (by omega)
    have e2 : wrap64 (bs[j].toNat : Int) = (bs[j].toNat : Int) := wrap64_small _ (by omega) (by omega)
    have e3 : wrap64 ((j : Int) + 1) = ((j + 1 : Nat) : Int) := by unfold wrap64; omega
    rw [e1, e2, e3, i64_or_byte _ _ h1 (by omega), ← take_snoc hlt]
    exact number_l bs hb d k (j + 1) (by omega) (by omega)
theorem number_f (bs : List UInt8) (hb : bs.length ≤ 4) : PHd.frame_number.f 9 (ints bs) = some (numB bs : Int) := by
  unfold PHd.frame_number.f
  rw [ints_len]
  have := number_l bs hb bs.length 9 0 (by omega) (by omega)
  simpa [numB] using this
/-- what a head tells -/
def headR (bs : List UInt8) : Int × Int × Int × List Int × Int × Int :=
  if bs.length < 9 then (0, 0, 0, [], 0, 3) else (((bs.getD 3 0).toNat : Int), ((bs.getD 4 0).toNat : Int), ((numB ((bs.drop 5).take 4) % 2147483648 : Nat) : Int), [], (numB (bs.take 3) : Int), 0)
theorem mid_ints (bs : List UInt8) : ((ints bs).take 9).drop 5 = ints ((bs.drop 5).take 4) := by
  rw [ints_take, ints_drop, List.drop_take]
theorem getD_at {bs : List UInt8} {j : Nat} (h : j < bs.length) : bs.getD j 0 = bs[j] := by simp [List.getD_eq_getElem?_getD, List.getElem?_eq_getElem h]
theorem head_f (bs : List UInt8) : PHd.frame_Head.f 9 (ints bs) = some (headR bs) := by
  unfold PHd.frame_Head.f headR
  rw [ints_len]
  by_cases h : bs.length < 9
  · rw [if_pos (by omega), if_pos h]
  · have hl : ((bs.drop 5).take 4).length = 4 := by rw [List.length_take, List.length_drop]; omega
    rw [if_neg (by omega), if_neg h, if_pos (by omega), if_pos (by omega), if_pos (by omega), if_pos (by omega), mid_ints, number_f _ (by omega), Option.bind_some, if_pos (by omega), ← ints_take, number_f _ (by rw [List.length_take]; omega), Option.bind_some]
    have r3 := rd_ints (bs := bs) (j := 3) (by omega)
    have r4 := rd_ints (bs := bs) (j := 4) (by omega)
    have e3 := wrap64_small ((bs[3]).toNat : Int) (by omega) (by have := (bs[3]).toNat_lt; omega)
    have e4 := wrap64_small ((bs[4]).toNat : Int) (by omega) (by have := (bs[4]).toNat_lt; omega)
    have := numB_small ((bs.drop 5).take 4) (by omega)
    rw [show (3 : Int) = ((3 : Nat) : Int) from rfl, show (4 : Int) = ((4 : Nat) : Int) from rfl, r3, r4, e3, e4, i64_and31 _ (by omega), getD_at (by omega), getD_at (by omega)]
theorem eqFrame_self (a b c : Int) (l : List Int) : PPt.isthmusref7_EqFrame.f a b c l a b c l = some true := by
  unfold PPt.isthmusref7_EqFrame.f
  simp
end Go.Proofs.Ytbngoaonkhcciaa
/-! #### PureM -/
set_option linter.all false
namespace Go.Proofs.Ytbngoaonkhcciaa
open Go.ChangeShapes Go.WideShapes Go.ChangeAt Go.RowKit Go.Proofs.YtbngoaonkhcciaaW.PrintWords
theorem mlay_l (n : Int) (d k : Nat) (xs : List UInt8) (hd : d ≤ 8) (hk : d < k) (hx : xs.length + d ≤ 140737488355328) : PMk.frame_lay.f k (ints xs) d n = some (ints (xs ++ beB d n)) := by
  have e : ∀ k xs n x, PMk.frame_lay.l0 k xs n x = PLay.frame_lay.l0 k xs n x := by
    intro k
    induction k with
    | zero => intro xs n x; rfl
    | succ k ih => intro xs n x; simp only [PMk.frame_lay.l0, PLay.frame_lay.l0, ih]
  unfold PMk.frame_lay.f
  rw [e, show wrap64 ((d : Int) - 1) = (d : Int) - 1 by unfold wrap64; omega, lay_l n d k _ hd hk (by rw [ints_len]; omega), ints_app, ints_be]
theorem or31 (n : Nat) (h : n < 2147483648) : bits .or .i64 (n : Int) 2147483648 = ((n + 2147483648 : Nat) : Int) := by
  have h1 := i64_or_nat n 2147483648 (by omega) (by omega)
  rw [show ((2147483648 : Nat) : Int) = 2147483648 from rfl] at h1
  rw [h1]
  congr 1
  have h2 := Nat.two_pow_add_eq_or_of_lt (i := 31) (b := n) (by simpa using h) 1
  have h3 : n ||| 2147483648 = 2147483648 ||| n := Nat.or_comm _ _
  rw [h3]
  simp at h2
  omega
def depN (b : Bd) : Int := if b.excl = true then b.dep + 2147483648 else b.dep
def prioBs (b : Bd) : List UInt8 := beB 4 (depN b) ++ [UInt8.ofNat (b.weight - 1).toNat]
def PrioOk (b : Bd) : Prop := 0 ≤ b.dep ∧ b.dep ≤ 2147483647 ∧ 1 ≤ b.weight ∧ b.weight ≤ 256
instance (b : Bd) : Decidable (PrioOk b) := by unfold PrioOk; infer_instance
theorem prio_wt (w : Int) (h1 : 1 ≤ w) (h2 : w ≤ 256) : ([wrap64 (w - 1) % 256] : List Int) = ints [UInt8.ofNat (w - 1).toNat] := by
  have e : wrap64 (w - 1) = w - 1 := by unfold wrap64; omega
  simp only [ints, List.map_cons, List.map_nil, UInt8.toNat_ofNat', e]
  congr 1
  omega
theorem mprio_f (k : Nat) (hk : 8 ≤ k) (xs : List UInt8) (hx : xs.length ≤ 4294967296) (l0 : List Int) (l9 : List PMk.S44) (b : Bd) :
    ∃ r, PMk.frame_priority.f k (ints xs) l0 b.pad b.prio b.excl b.dep b.weight b.code b.last b.inc l9 b.prom = some (r, decide (PrioOk b)) ∧ (PrioOk b → r = ints (xs ++ prioBs b)) ∧ r.length ≤ xs.length + 5 := by
  obtain ⟨k, rfl⟩ : ∃ m, k = m + 1 := ⟨k - 1, by omega⟩
  unfold PMk.frame_priority.f PMk.frame_low.f
  by_cases h1 : b.dep ≥ 0
  · rw [if_pos h1]
    by_cases h2 : b.dep ≤ 2147483647
    · by_cases h3 : b.weight < 1
      · refine ⟨[], ?_, fun h => absurd h.2.2.1 (by omega), by simp⟩
        rw [show decide (PrioOk b) = false from decide_eq_false (fun h => absurd h.2.2.1 (by omega))]
        simp [h2, h3, PMk.frame_priority.j0]
      · by_cases h4 : b.weight > 256
        · refine ⟨[], ?_, fun h => absurd h.2.2.2 (by omega), by simp⟩
          rw [show decide (PrioOk b) = false from decide_eq_false (fun h => absurd h.2.2.2 (by omega))]
          simp [h2, h3, h4, PMk.frame_priority.j0]
        · have ok : PrioOk b := ⟨h1, h2, by omega, by omega⟩
          rw [show decide (PrioOk b) = true from decide_eq_true ok]
          refine ⟨ints (xs ++ prioBs b), ?_, fun _ => rfl, by simp [ints_len, prioBs, beB_len]⟩
          have hl : ∀ n, PMk.frame_lay.f k (ints xs) 4 n = some (ints (xs ++ beB 4 n)) := fun n => mlay_l n 4 k xs (by omega) (by omega) (by omega)
          simp only [h2, h3, h4, Option.bind_some, decide_true, if_true, if_false, decide_false, PMk.frame_priority.j0, reduceIte, Bool.false_eq_true]
          obtain ⟨d, hd⟩ : ∃ d : Nat, b.dep = d := ⟨b.dep.toNat, by omega⟩
          cases he : b.excl with
          | true =>
            rw [if_pos rfl, hd, or31 d (by omega), hl]
            simp only [Option.bind_some]
            rw [if_pos (by simp [ints_len, beB_len]; omega), prio_wt _ (by omega) (by omega), ← ints_app, List.append_assoc]
            simp only [prioBs, depN, he, hd, if_true]
            rfl
          | false =>
            rw [if_neg (by decide), hl]
            simp only [Option.bind_some]
            rw [if_pos (by simp [ints_len, beB_len]; omega), prio_wt _ (by omega) (by omega), ← ints_app, List.append_assoc]
            simp only [prioBs, depN, he, if_false, Bool.false_eq_true]
    · refine ⟨[], ?_, fun h => absurd h.2.1 (by omega), by simp⟩
      rw [show decide (PrioOk b) = false from decide_eq_false (fun h => absurd h.2.1 (by omega))]
      simp [h2, PMk.frame_priority.j0]
  · refine ⟨[], ?_, fun h => absurd h.1 (by omega), by simp⟩
    rw [show decide (PrioOk b) = false from decide_eq_false (fun h => absurd h.1 (by omega))]
    simp [h1, PMk.frame_priority.j0]
/-! ### settings -/
def setB (p : Int × Int) : List UInt8 := beB 2 p.1 ++ beB 4 p.2
def SetOk (p : Int × Int) : Prop := 0 ≤ p.1 ∧ p.1 ≤ 65535 ∧ 0 ≤ p.2 ∧ p.2 < 4294967296
instance (p : Int × Int) : Decidable (SetOk p) := by unfold SetOk; infer_instance
theorem setB_len (p : Int × Int) : (setB p).length = 6 := by simp [setB, beB_len]
theorem setsB_len (ss : List (Int × Int)) : (ss.flatMap setB).length = 6 * ss.length := by
  induction ss with
  | nil => rfl
  | cons a l ih => rw [List.flatMap_cons, List.length_append, ih, setB_len, List.length_cons]; omega
def m44 (ss : List (Int × Int)) : List PMk.S44 := ss.map fun p => ⟨p.1, p.2⟩
theorem m44_len (ss : List (Int × Int)) : (m44 ss).length = ss.length := by simp [m44]
theorem rd_m44 {ss : List (Int × Int)} {i : Nat} {p : Int × Int} (h : ss[i]? = some p) : PMk.rd_T44 (m44 ss) (i : Int) = ⟨p.1, p.2⟩ := by
  simp [PMk.rd_T44, m44, List.getD_eq_getElem?_getD, h]
theorem drop_at {α : Type} {l : List α} {i : Nat} {x : α} (h : l[i]? = some x) : l.drop i = x :: l.drop (i + 1) := by
  obtain ⟨hi, hx⟩ := List.getElem?_eq_some_iff.1 h
  rw [← hx, List.drop_eq_getElem_cons hi]
theorem sets_l (ss : List (Int × Int)) (hn : ss.length ≤ 1099511627776) : ∀ (d i k : Nat) (xs : List UInt8), i + d = ss.length → 2 * d + 10 ≤ k → xs.length + 6 * d ≤ 140737488355328 →
    ∃ r, PMk.frame_payload.l0 k (ints xs) (m44 ss) (ss.length : Int) (i : Int) = some (r, decide (∀ p ∈ ss.drop i, SetOk p)) ∧ ((∀ p ∈ ss.drop i, SetOk p) → r = ints (xs ++ (ss.drop i).flatMap setB))
  | 0, i, k, xs, hd, hk, hx => by
    obtain ⟨k, rfl⟩ : ∃ m, k = m + 1 := ⟨k - 1, by omega⟩
    refine ⟨ints xs, ?_, fun _ => by rw [List.drop_of_length_le (by omega)]; simp⟩
    rw [PMk.frame_payload.l0, if_neg (by omega), List.drop_of_length_le (by omega)]
    simp
  | d + 1, i, k, xs, hd, hk, hx => by
    obtain ⟨k, rfl⟩ : ∃ m, k = m + 1 + 1 := ⟨k - 2, by omega⟩
    obtain ⟨p, hp⟩ : ∃ p, ss[i]? = some p := ⟨_, List.getElem?_eq_getElem (by omega)⟩
    have hdr := drop_at hp
    have bad : ¬ SetOk p → ¬ (∀ p ∈ ss.drop i, SetOk p) := fun h h2 => h (h2 p (by rw [hdr]; simp))
    rw [PMk.frame_payload.l0, if_pos (by omega), if_pos (by omega), m44_len, if_pos (by omega), rd_m44 hp]
    simp only
    by_cases h1 : p.1 < 0
    · have hb := bad (fun h => absurd h.1 (by omega))
      refine ⟨[], ?_, fun h => absurd h hb⟩
      rw [if_pos h1, PMk.frame_payload.j2, if_pos rfl, decide_eq_false hb]
    · rw [if_neg h1]
      by_cases h2 : p.1 > 65535
      · have hb := bad (fun h => absurd h.2.1 (by omega))
        refine ⟨[], ?_, fun h => absurd h hb⟩
        rw [if_pos h2, PMk.frame_payload.j2, if_pos rfl, decide_eq_false hb]
      · rw [if_neg h2]
        by_cases h3 : p.2 ≥ 0 ∧ p.2 < 4294967296
        · have hw : PMk.frame_word.f p.2 = some true := by unfold PMk.frame_word.f; rw [if_pos h3.1, decide_eq_true h3.2]
          have hok : SetOk p := ⟨by omega, by omega, h3.1, h3.2⟩
          rw [hw, Option.bind_some, Bool.not_true, PMk.frame_payload.j2, if_neg (by decide)]
          have e1 := mlay_l p.1 2 k xs (by omega) (by omega) (by omega)
          have e2 := mlay_l p.2 4 k (xs ++ beB 2 p.1) (by omega) (by omega) (by rw [List.length_append, beB_len]; omega)
          simp only [Int.cast_ofNat_Int] at e1 e2
          rw [e1, Option.bind_some, e2, Option.bind_some, show wrap64 ((i : Int) + 1) = ((i + 1 : Nat) : Int) by unfold wrap64; omega]
          obtain ⟨r, hr, hr2⟩ := sets_l ss hn d (i + 1) k (xs ++ beB 2 p.1 ++ beB 4 p.2) (by omega) (by omega) (by simp only [List.length_append, beB_len]; omega)
          have hiff : (∀ p ∈ ss.drop i, SetOk p) ↔ (∀ p ∈ ss.drop (i + 1), SetOk p) := by
            rw [hdr]
            simp [hok]
          refine ⟨r, ?_, fun h => ?_⟩
          · rw [hr]
            simp only [hiff]
          · rw [hr2 (hiff.1 h), hdr, List.flatMap_cons, setB]
            simp only [List.append_assoc]
        · have hw : PMk.frame_word.f p.2 = some false := by
            unfold PMk.frame_word.f
            by_cases h : p.2 ≥ 0
            · rw [if_pos h, decide_eq_false (fun h2 => h3 ⟨h, h2⟩)]
            · rw [if_neg h]
          have hb := bad (fun h => h3 ⟨h.2.2.1, h.2.2.2⟩)
          refine ⟨[], ?_, fun h => absurd h hb⟩
          rw [hw, Option.bind_some, Bool.not_false, PMk.frame_payload.j2, if_pos rfl, decide_eq_false hb]
/-! ### a payload, its padding aside -/
def LowOk (n : Int) : Prop := 0 ≤ n ∧ n ≤ 2147483647
def WordOk (n : Int) : Prop := 0 ≤ n ∧ n < 4294967296
instance (n : Int) : Decidable (LowOk n) := by unfold LowOk; infer_instance
instance (n : Int) : Decidable (WordOk n) := by unfold WordOk; infer_instance
def PayOk (t : Nat) (f : UInt8) (b : Bd) : Prop :=
  if t = 1 then (onF f 32 = true → PrioOk b) else if t = 2 then PrioOk b else if t = 3 then WordOk b.code else if t = 4 then (∀ p ∈ b.sets, SetOk p)
  else if t = 5 then LowOk b.prom else if t = 6 then b.data.length = 8 else if t = 7 then (LowOk b.last ∧ WordOk b.code) else if t = 8 then LowOk b.inc else True
def payB (t : Nat) (f : UInt8) (b : Bd) : List UInt8 :=
  if t = 1 then (if onF f 32 = true then prioBs b ++ b.data else b.data) else if t = 2 then prioBs b else if t = 3 then beB 4 b.code else if t = 4 then b.sets.flatMap setB
  else if t = 5 then beB 4 b.prom ++ b.data else if t = 7 then beB 4 b.last ++ beB 4 b.code ++ b.data else if t = 8 then beB 4 b.inc else b.data
theorem low_f (n : Int) : PMk.frame_low.f n = some (decide (LowOk n)) := by
  unfold PMk.frame_low.f LowOk
  by_cases h : n ≥ 0
  · rw [if_pos h]; simp [h]
  · rw [if_neg h]; simp [h]
theorem word_f (n : Int) : PMk.frame_word.f n = some (decide (WordOk n)) := by
  unfold PMk.frame_word.f WordOk
  by_cases h : n ≥ 0
  · rw [if_pos h]; simp [h]
  · rw [if_neg h]; simp [h]
theorem on32_iff (f : UInt8) : Go.bits .and .i64 (f.toNat : Int) 32 = 0 ↔ ¬ onF f 32 = true := by
  rw [and32]
  unfold onF
  simp
  omega
theorem on8_eq (f : UInt8) : (Go.bits .and .i64 (f.toNat : Int) 8 != 0) = onF f 8 := by
  rw [and8]
  unfold onF
  rw [Bool.eq_iff_iff]
  simp
  omega
theorem pay_f (k : Nat) (t : Nat) (f : UInt8) (b : Bd) (xs : List UInt8) (ht : t ≤ 9) (hk : 2 * b.sets.length + 20 ≤ k) (hx : xs.length ≤ 100) (hd : b.data.length ≤ 1099511627776) (hs : b.sets.length ≤ 1099511627776) :
    ∃ r ok, PMk.frame_payload.f k (ints xs) t f.toNat (ints b.data) b.pad b.prio b.excl b.dep b.weight b.code b.last b.inc (m44 b.sets) b.prom = some (r, ok) ∧ (ok = true ↔ PayOk t f b) ∧ (ok = true → r = ints (xs ++ payB t f b)) := by
  obtain ⟨k, rfl⟩ : ∃ m, k = m + 1 := ⟨k - 1, by omega⟩
  have hl : ∀ (ys : List UInt8) n, ys.length ≤ 1000 → PMk.frame_lay.f k (ints ys) 4 n = some (ints (ys ++ beB 4 n)) := fun ys n h => mlay_l n 4 k ys (by omega) (by omega) (by omega)
  have hsum : ∀ ys : List UInt8, ys.length ≤ 1000 → (ints ys).length + (ints b.data).length < 140737488355328 := fun ys h => by rw [ints_len, ints_len]; omega
  unfold PMk.frame_payload.f
  match t, ht with
  | 0, _ =>
    refine ⟨ints (xs ++ b.data), true, ?_, by simp [PayOk], fun _ => by simp [payB]⟩
    simp [PMk.frame_payload.j0, hsum xs (by omega), ints_app]
    done
  | 1, _ =>
    simp only [show ((1 : Nat) : Int) = 1 from rfl, if_neg (show ¬ (1 : Int) = 0 by decide), show ((1 : Int) == 9) = false from rfl, PMk.frame_payload.j0, if_neg (show ¬ false = true by decide), if_true]
    by_cases h : onF f 32 = true
    · rw [if_neg (fun h2 => (on32_iff f).1 h2 h)]
      obtain ⟨r, hr, hr2, hr3⟩ := mprio_f k (by omega) xs (by omega) (ints b.data) (m44 b.sets) b
      rw [hr, Option.bind_some]
      simp only
      rw [if_pos (by rw [ints_len]; omega)]
      refine ⟨_, _, rfl, by simp [PayOk, h], fun ho => ?_⟩
      rw [hr2 (of_decide_eq_true ho), ← ints_app, List.append_assoc]
      simp [payB, h]
    · rw [if_pos ((on32_iff f).2 h), if_pos (hsum xs (by omega)), ← ints_app]
      exact ⟨_, _, rfl, by simp [PayOk, h], fun _ => by simp [payB, h]⟩
  | 2, _ =>
    simp only [show ((2 : Nat) : Int) = 2 from rfl, if_neg (show ¬ (2 : Int) = 0 by decide), if_neg (show ¬ (2 : Int) = 1 by decide), show ((2 : Int) == 9) = false from rfl, PMk.frame_payload.j0, if_neg (show ¬ false = true by decide), if_true]
    obtain ⟨r, hr, hr2, hr3⟩ := mprio_f k (by omega) xs (by omega) (ints b.data) (m44 b.sets) b
    rw [hr, Option.bind_some]
    exact ⟨_, _, rfl, by simp [PayOk], fun ho => by rw [hr2 (of_decide_eq_true ho)]; simp [payB]⟩
  | 3, _ =>
    simp only [show ((3 : Nat) : Int) = 3 from rfl, if_neg (show ¬ (3 : Int) = 0 by decide), if_neg (show ¬ (3 : Int) = 1 by decide), if_neg (show ¬ (3 : Int) = 2 by decide), show ((3 : Int) == 9) = false from rfl, PMk.frame_payload.j0, if_neg (show ¬ false = true by decide), if_true]
    rw [hl xs _ (by omega), Option.bind_some, word_f, Option.bind_some]
    exact ⟨_, _, rfl, by simp [PayOk], fun _ => by simp [payB]⟩
  | 4, _ =>
    simp only [show ((4 : Nat) : Int) = 4 from rfl, if_neg (show ¬ (4 : Int) = 0 by decide), if_neg (show ¬ (4 : Int) = 1 by decide), if_neg (show ¬ (4 : Int) = 2 by decide), if_neg (show ¬ (4 : Int) = 3 by decide), show ((4 : Int) == 9) = false from rfl, PMk.frame_payload.j0, if_neg (show ¬ false = true by decide), if_true]
    obtain ⟨r, hr, hr2⟩ := sets_l b.sets hs b.sets.length 0 k xs (by omega) (by omega) (by omega)
    rw [List.drop_zero] at hr hr2
    rw [m44_len]
    exact ⟨_, _, hr, by simp [PayOk], fun ho => by rw [hr2 (of_decide_eq_true ho)]; simp [payB]⟩
  | 5, _ =>
    simp only [show ((5 : Nat) : Int) = 5 from rfl, if_neg (show ¬ (5 : Int) = 0 by decide), if_neg (show ¬ (5 : Int) = 1 by decide), if_neg (show ¬ (5 : Int) = 2 by decide), if_neg (show ¬ (5 : Int) = 3 by decide), if_neg (show ¬ (5 : Int) = 4 by decide), show ((5 : Int) == 9) = false from rfl, PMk.frame_payload.j0, if_neg (show ¬ false = true by decide), if_true]
    rw [hl xs _ (by omega), Option.bind_some, if_pos (hsum _ (by simp [beB_len]; omega)), low_f, Option.bind_some, ← ints_app, List.append_assoc]
    exact ⟨_, _, rfl, by simp [PayOk], fun _ => by simp [payB]⟩
  | 6, _ =>
    simp only [show ((6 : Nat) : Int) = 6 from rfl, if_neg (show ¬ (6 : Int) = 0 by decide), if_neg (show ¬ (6 : Int) = 1 by decide), if_neg (show ¬ (6 : Int) = 2 by decide), if_neg (show ¬ (6 : Int) = 3 by decide), if_neg (show ¬ (6 : Int) = 4 by decide), if_neg (show ¬ (6 : Int) = 5 by decide), show ((6 : Int) == 9) = false from rfl, PMk.frame_payload.j0, if_neg (show ¬ false = true by decide), if_true]
    rw [if_pos (hsum _ (by omega)), ← ints_app, ints_len]
    refine ⟨_, _, rfl, ?_, fun _ => by simp [payB]⟩
    simp [PayOk]
    omega
  | 7, _ =>
    simp only [show ((7 : Nat) : Int) = 7 from rfl, if_neg (show ¬ (7 : Int) = 0 by decide), if_neg (show ¬ (7 : Int) = 1 by decide), if_neg (show ¬ (7 : Int) = 2 by decide), if_neg (show ¬ (7 : Int) = 3 by decide), if_neg (show ¬ (7 : Int) = 4 by decide), if_neg (show ¬ (7 : Int) = 5 by decide), if_neg (show ¬ (7 : Int) = 6 by decide), show ((7 : Int) == 9) = false from rfl, PMk.frame_payload.j0, if_neg (show ¬ false = true by decide), if_true]
    rw [hl xs _ (by omega), Option.bind_some, hl _ _ (by simp [beB_len]; omega), Option.bind_some, if_pos (hsum _ (by simp [beB_len]; omega)), Option.bind_some, low_f, Option.bind_some, ← ints_app, List.append_assoc, List.append_assoc]
    by_cases h : LowOk b.last
    · rw [decide_eq_true h, if_pos rfl, word_f, Option.bind_some]
      exact ⟨_, _, rfl, by simp [PayOk, h], fun _ => by simp [payB]⟩
    · rw [decide_eq_false h, if_neg (by decide)]
      exact ⟨_, _, rfl, by simp [PayOk, h], fun _ => by simp [payB]⟩
  | 8, _ =>
    simp only [show ((8 : Nat) : Int) = 8 from rfl, if_neg (show ¬ (8 : Int) = 0 by decide), if_neg (show ¬ (8 : Int) = 1 by decide), if_neg (show ¬ (8 : Int) = 2 by decide), if_neg (show ¬ (8 : Int) = 3 by decide), if_neg (show ¬ (8 : Int) = 4 by decide), if_neg (show ¬ (8 : Int) = 5 by decide), if_neg (show ¬ (8 : Int) = 6 by decide), if_neg (show ¬ (8 : Int) = 7 by decide), show ((8 : Int) == 9) = false from rfl, PMk.frame_payload.j0, if_neg (show ¬ false = true by decide), if_true]
    rw [hl xs _ (by omega), Option.bind_some, low_f, Option.bind_some]
    exact ⟨_, _, rfl, by simp [PayOk], fun _ => by simp [payB]⟩
  | 9, _ =>
    refine ⟨ints (xs ++ b.data), true, ?_, by simp [PayOk], fun _ => by simp [payB]⟩
    simp [PMk.frame_payload.j0, hsum xs (by omega), ints_app]
/-! ### the whole frame -/
def pads (t : Nat) (f : UInt8) : Bool := padF t && onF f 8
def fullB (t : Nat) (f : UInt8) (b : Bd) : List UInt8 := (if pads t f = true then [UInt8.ofNat b.pad.toNat] else []) ++ payB t f b ++ List.replicate b.pad.toNat 0
/-- the body goes into a frame of that type, flags, stream, with that payload -/
def MkOk (t f s : Int) (b : Bd) (p : List UInt8) : Prop :=
  ∃ (tn : Nat) (fb : UInt8), t = tn ∧ f = fb.toNat ∧ tn ≤ 9 ∧ 0 ≤ s ∧ s ≤ 2147483647 ∧ 0 ≤ b.pad ∧ b.pad ≤ 255 ∧ (0 < b.pad → pads tn fb = true) ∧ PayOk tn fb b ∧ p = fullB tn fb b ∧ p.length ≤ 16777215
theorem padf_eq (t : Nat) : PMk.frame_padded.f (t : Int) = some (padF t) := by
  unfold PMk.frame_padded.f padF
  by_cases h0 : t = 0
  · subst h0; rfl
  · by_cases h1 : t = 1
    · subst h1; rfl
    · rw [if_neg (by omega), if_neg (by omega)]
      congr 1
      rw [Bool.eq_iff_iff]
      simp [h0, h1]
      omega
theorem zeros_ints (n : Nat) : (List.replicate n 0 : List Int) = ints (List.replicate n 0) := by simp [ints]
theorem pad_byte (x : Int) (h0 : 0 ≤ x) (h1 : x ≤ 255) : ([x % 256] : List Int) = ints [UInt8.ofNat x.toNat] := by
  simp only [ints, List.map_cons, List.map_nil, UInt8.toNat_ofNat']
  congr 1
  omega
/-- Make, in numbers: either the frame, or a number that is not nought -/
theorem make_f (k : Nat) (t f s : Int) (b : Bd) (hk : 2 * b.sets.length + 30 ≤ k) (hd : b.data.length ≤ 1099511627776) (hs : b.sets.length ≤ 1099511627776) :
    (∃ p, MkOk t f s b p ∧ PMk.frame_Make.f k t f s (ints b.data) b.pad b.prio b.excl b.dep b.weight b.code b.last b.inc (m44 b.sets) b.prom = some (t, f, s, ints p, 0)) ∨
    ((∀ p, ¬ MkOk t f s b p) ∧ ∃ e, e ≠ 0 ∧ PMk.frame_Make.f k t f s (ints b.data) b.pad b.prio b.excl b.dep b.weight b.code b.last b.inc (m44 b.sets) b.prom = some (0, 0, 0, [], e)) := by
  obtain ⟨k, rfl⟩ : ∃ m, k = m + 1 + 1 + 1 := ⟨k - 3, by omega⟩
  -- the first guards
  have bad1 : ∀ x10, PMk.frame_Make.j1 (k + 1 + 1) t f s x10 true (ints b.data) b.pad b.prio b.excl b.dep b.weight b.code b.last b.inc (m44 b.sets) b.prom = some (0, 0, 0, [], 1) := fun x10 => by
    rw [PMk.frame_Make.j1, if_pos rfl]
  by_cases hr : 0 ≤ t ∧ t ≤ 9 ∧ 0 ≤ f ∧ f ≤ 255 ∧ 0 ≤ s ∧ s ≤ 2147483647 ∧ 0 ≤ b.pad ∧ b.pad ≤ 255
  · obtain ⟨h1, h2, h3, h4, h5, h6, h7, h8⟩ := hr
    obtain ⟨tn, rfl⟩ : ∃ n : Nat, t = n := ⟨t.toNat, by omega⟩
    obtain ⟨fb, rfl⟩ : ∃ fb : UInt8, f = fb.toNat := ⟨UInt8.ofNat f.toNat, by rw [UInt8.toNat_ofNat']; omega⟩
    have hj0 : PMk.frame_Make.f (k + 1 + 1 + 1) tn fb.toNat s (ints b.data) b.pad b.prio b.excl b.dep b.weight b.code b.last b.inc (m44 b.sets) b.prom =
        PMk.frame_Make.j1 (k + 1 + 1) tn fb.toNat s (pads tn fb) (if 0 < b.pad then !(pads tn fb) else false) (ints b.data) b.pad b.prio b.excl b.dep b.weight b.code b.last b.inc (m44 b.sets) b.prom := by
      have hg : ∀ x10, PMk.frame_Make.j0 (k + 1 + 1 + 1) tn fb.toNat s x10 (ints b.data) b.pad b.prio b.excl b.dep b.weight b.code b.last b.inc (m44 b.sets) b.prom = PMk.frame_Make.j1 (k + 1 + 1) tn fb.toNat s x10 (if 0 < b.pad then !x10 else false) (ints b.data) b.pad b.prio b.excl b.dep b.weight b.code b.last b.inc (m44 b.sets) b.prom := fun x10 => by
        rw [PMk.frame_Make.j0, if_neg (by omega), if_neg (by omega), if_neg (by omega), if_neg (by omega), low_f, Option.bind_some, decide_eq_true (show LowOk s from ⟨h5, h6⟩), if_pos rfl, if_neg (by omega), if_neg (by omega)]
        by_cases h : b.pad > 0
        · rw [if_pos h, if_pos h]
        · rw [if_neg h, if_neg h]
      unfold PMk.frame_Make.f
      rw [padf_eq, Option.bind_some, on8_eq, hg, hg]
      unfold pads
      cases padF tn <;> simp
    rw [hj0]
    by_cases hp : 0 < b.pad ∧ pads tn fb = false
    · right
      refine ⟨?_, 1, by decide, ?_⟩
      · rintro p ⟨tn', fb', e1, e2, _, _, _, _, _, h, _⟩
        obtain rfl : tn = tn' := by omega
        obtain rfl : fb = fb' := UInt8.toNat_inj.1 (by omega)
        rw [hp.2] at h
        exact absurd (h hp.1) (by decide)
      · rw [if_pos hp.1, hp.2]
        exact bad1 _
    · have hx : (if 0 < b.pad then !(pads tn fb) else false) = false := by
        split
        · rename_i h
          cases h9 : pads tn fb with
          | true => rfl
          | false => exact absurd ⟨h, h9⟩ hp
        · rfl
      have hpp : 0 < b.pad → pads tn fb = true := fun h => by
        cases h9 : pads tn fb with
        | true => rfl
        | false => exact absurd ⟨h, h9⟩ hp
      rw [hx, PMk.frame_Make.j1, if_neg (by decide)]
      have hj2 : (if pads tn fb = true then (if ([] : List Int).length < 140737488355328 then (PMk.frame_Make.j2 (k + 1) tn fb.toNat s (([] : List Int) ++ [(b.pad) % 256]) (ints b.data) b.pad b.prio b.excl b.dep b.weight b.code b.last b.inc (m44 b.sets) b.prom) else (none)) else (PMk.frame_Make.j2 (k + 1) tn fb.toNat s ([] : List Int) (ints b.data) b.pad b.prio b.excl b.dep b.weight b.code b.last b.inc (m44 b.sets) b.prom)) =
          PMk.frame_Make.j2 (k + 1) tn fb.toNat s (ints (if pads tn fb = true then [UInt8.ofNat b.pad.toNat] else [])) (ints b.data) b.pad b.prio b.excl b.dep b.weight b.code b.last b.inc (m44 b.sets) b.prom := by
        by_cases h : pads tn fb = true
        · rw [if_pos h, if_pos h, if_pos (by simp), List.nil_append, pad_byte _ h7 h8]
        · rw [if_neg h, if_neg h]
          rfl
      rw [hj2, PMk.frame_Make.j2]
      obtain ⟨r, ok, hr, hok, hrr⟩ := pay_f k tn fb b (if pads tn fb = true then [UInt8.ofNat b.pad.toNat] else []) (by omega) (by omega) (by split <;> simp) hd hs
      rw [hr, Option.bind_some]
      simp only
      cases hk : ok with
      | false =>
        right
        refine ⟨?_, 1, by decide, by rw [if_neg (by decide)]⟩
        rintro p ⟨tn', fb', e1, e2, _, _, _, _, _, _, h, _⟩
        obtain rfl : tn = tn' := by omega
        obtain rfl : fb = fb' := UInt8.toNat_inj.1 (by omega)
        rw [hok.2 h] at hk
        cases hk
      | true =>
        have hpo := hok.1 hk
        have hre := hrr hk
        have hfull : r ++ List.replicate b.pad.toNat 0 = ints (fullB tn fb b) := by
          rw [hre, zeros_ints, ← ints_app]
          rfl
        have hplen : (payB tn fb b).length ≤ 2199023255552 * 4 := by
          unfold payB
          have := setsB_len b.sets
          repeat' split
          all_goals (try simp only [List.length_append, beB_len, prioBs, List.length_cons, List.length_nil]) <;> omega
        have hrl : r.length ≤ 2199023255552 * 4 + 1 := by
          rw [hre, ints_len, List.length_append]
          have : (if pads tn fb = true then [UInt8.ofNat b.pad.toNat] else [] : List UInt8).length ≤ 1 := by split <;> simp
          omega
        rw [if_pos rfl, if_pos h7, if_pos (by omega), Option.bind_some, hfull, ints_len]
        by_cases hlong : ((fullB tn fb b).length : Int) > 16777215
        · right
          refine ⟨?_, 2, by decide, by rw [if_pos hlong]⟩
          rintro p ⟨tn', fb', e1, e2, _, _, _, _, _, _, _, h, h2⟩
          obtain rfl : tn = tn' := by omega
          obtain rfl : fb = fb' := UInt8.toNat_inj.1 (by omega)
          rw [h] at h2
          omega
        · left
          exact ⟨fullB tn fb b, ⟨tn, fb, rfl, rfl, by omega, h5, h6, h7, h8, hpp, hpo, rfl, by omega⟩, by rw [if_neg hlong]⟩
  · right
    refine ⟨?_, 1, by decide, ?_⟩
    · rintro p ⟨tn, fb, rfl, rfl, h1, h2, h3, h4, h5, _⟩
      have := fb.toNat_lt
      exact hr ⟨by omega, by omega, by omega, by omega, h2, h3, h4, h5⟩
    · have hg : ∀ x10, PMk.frame_Make.j0 (k + 1 + 1 + 1) t f s x10 (ints b.data) b.pad b.prio b.excl b.dep b.weight b.code b.last b.inc (m44 b.sets) b.prom = some (0, 0, 0, [], 1) := fun x10 => by
        rw [PMk.frame_Make.j0, bad1, low_f, Option.bind_some]
        by_cases g1 : t < 0
        · rw [if_pos g1]
        · rw [if_neg g1]
          by_cases g2 : t > 9
          · rw [if_pos g2]
          · rw [if_neg g2]
            by_cases g3 : f < 0
            · rw [if_pos g3]
            · rw [if_neg g3]
              by_cases g4 : f > 255
              · rw [if_pos g4]
              · rw [if_neg g4]
                by_cases g5 : LowOk s
                · rw [decide_eq_true g5, if_pos rfl]
                  by_cases g6 : b.pad < 0
                  · rw [if_pos g6]
                  · rw [if_neg g6]
                    by_cases g7 : b.pad > 255
                    · rw [if_pos g7]
                    · exact absurd ⟨by omega, by omega, by omega, by omega, g5.1, g5.2, by omega, by omega⟩ hr
                · rw [decide_eq_false g5, if_neg (by decide)]
      unfold PMk.frame_Make.f
      have : ∃ pp, PMk.frame_padded.f t = some pp := by
        unfold PMk.frame_padded.f
        repeat' split
        all_goals exact ⟨_, rfl⟩
      obtain ⟨pp, hpp⟩ := this
      rw [hpp, Option.bind_some]
      split <;> exact hg _
end Go.Proofs.Ytbngoaonkhcciaa
/-! #### PureB -/
set_option linter.all false
namespace Go.Proofs.Ytbngoaonkhcciaa
open Go.ChangeShapes Go.WideShapes Go.ChangeAt Go.RowKit Go.Proofs.YtbngoaonkhcciaaW.PrintWords
theorem foldl_num (bs : List UInt8) : ∀ n : Nat, bs.foldl (fun n c => n * 256 + c.toNat) n = n * 256 ^ bs.length + numB bs := by
  induction bs with
  | nil => intro n; simp [numB]
  | cons a l ih =>
    intro n
    have h1 := ih (n * 256 + a.toNat)
    have h2 := ih (0 * 256 + a.toNat)
    simp only [List.foldl_cons, numB, List.length_cons] at h1 h2 ⊢
    rw [h1, h2, Nat.pow_succ, Nat.add_mul, Nat.add_mul, Nat.mul_assoc, Nat.mul_comm 256]
    omega
theorem numB_cons (a : UInt8) (l : List UInt8) : numB (a :: l) = a.toNat * 256 ^ l.length + numB l := by
  have h := foldl_num l (0 * 256 + a.toNat)
  simp only [Nat.zero_mul, Nat.zero_add] at h
  rw [← h]
  simp [numB]
theorem byte_of (x : Int) (a : UInt8) (h : x = a.toNat) : UInt8.ofNat x.toNat = a := by
  subst h
  rw [Int.toNat_natCast]
  exact UInt8.ofNat_toNat
theorem be_num : ∀ (bs : List UInt8) (hi : Int), beB bs.length (hi * 256 ^ bs.length + (numB bs : Int)) = bs
  | [], _ => rfl
  | a :: l, hi => by
    have hlt : numB l < 256 ^ l.length := numB_lt _ l rfl
    have hlt2 : (numB l : Int) < (256 : Int) ^ l.length := by have := Int.ofNat_lt.2 hlt; rwa [Int.natCast_pow] at this
    have ha := a.toNat_lt
    have e1 : hi * (256 : Int) ^ (l.length + 1) + ((a.toNat * 256 ^ l.length + numB l : Nat) : Int) = (hi * 256 + (a.toNat : Int)) * 256 ^ l.length + (numB l : Int) := by
      rw [Int.pow_succ, Int.natCast_add, Int.natCast_mul, Int.natCast_pow, Int.add_mul, ← Int.mul_assoc, Int.mul_right_comm, Int.add_assoc]
      rfl
    have hp : (0 : Int) < 256 ^ l.length := Int.pow_pos (by decide)
    have e2 : ((hi * 256 + (a.toNat : Int)) * 256 ^ l.length + (numB l : Int)) / 256 ^ l.length = hi * 256 + (a.toNat : Int) := by
      rw [Int.add_comm, Int.add_mul_ediv_right _ _ (by omega), Int.ediv_eq_zero_of_lt (by omega) hlt2, Int.zero_add]
    rw [numB_cons, List.length_cons, e1, beB, e2, be_num l]
    congr 1
    exact byte_of _ a (by omega)
theorem be_num0 (bs : List UInt8) (k : Nat) (h : bs.length = k) : beB k (numB bs : Int) = bs := by
  subst h
  have := be_num bs 0
  rwa [Int.zero_mul, Int.zero_add] at this
theorem num_be : ∀ (k n : Nat), numB (beB k n) = n % 256 ^ k
  | 0, n => by simp [beB, numB, Nat.mod_one]
  | k + 1, n => by
    rw [beB, numB_cons, beB_len, num_be k n]
    have e : (((n : Int) / 256 ^ k) % 256).toNat = n / 256 ^ k % 256 := by
      have : ((n : Int) / 256 ^ k) % 256 = ((n / 256 ^ k % 256 : Nat) : Int) := by rw [Int.natCast_emod, Int.natCast_ediv, Int.natCast_pow]; rfl
      rw [this]; rfl
    rw [e, UInt8.toNat_ofNat', Nat.mod_mod, Nat.pow_succ, Nat.mod_mul, Nat.add_comm, Nat.mul_comm (256 ^ k)]
theorem num_be4 (n : Int) (h0 : 0 ≤ n) (h1 : n < 4294967296) : (numB (beB 4 n) : Int) = n := by
  obtain ⟨m, rfl⟩ : ∃ m : Nat, n = m := ⟨n.toNat, by omega⟩
  rw [num_be, Nat.mod_eq_of_lt (by omega)]
theorem numB_lt2 (bs : List UInt8) (h : bs.length ≤ 2) : numB bs ≤ 65535 := by
  have h1 := numB_lt _ bs rfl
  have h2 : 256 ^ bs.length ≤ 256 ^ 2 := Nat.pow_le_pow_right (by decide) h
  omega
/-! ### the padding -/
theorem bare_full (t : Nat) (f : UInt8) (b : Bd) (h0 : 0 ≤ b.pad) (h1 : b.pad ≤ 255) (h2 : 0 < b.pad → pads t f = true) : bareF t f (fullB t f b) = .ok b.pad (payB t f b) := by
  unfold bareF fullB
  by_cases hp : pads t f = true
  · have hp2 : padF t = true ∧ onF f 8 = true := by unfold pads at hp; simpa using hp
    rw [if_pos hp2, if_pos hp]
    have hb : (UInt8.ofNat b.pad.toNat).toNat = b.pad.toNat := by rw [UInt8.toNat_ofNat']; omega
    simp only [List.cons_append, List.nil_append]
    rw [hb, if_neg (by rw [List.length_append, List.length_replicate]; omega), List.length_append, List.length_replicate, Nat.add_sub_cancel, List.take_left', Int.toNat_of_nonneg h0]
    rfl
  · have h3 : b.pad = 0 := by
      rcases Int.lt_or_eq_of_le h0 with h | h
      · exact absurd (h2 h) hp
      · exact h.symm
    have hp2 : ¬ (padF t = true ∧ onF f 8 = true) := by unfold pads at hp; simpa using hp
    rw [if_neg hp2, if_neg hp, h3]
    simp
/-! ### priorities -/
theorem prio_back (z : Bd) (r : List UInt8) (h : 5 ≤ r.length) : PrioOk (prioB z r) ∧ prioBs (prioB z r) = r.take 5 := by
  obtain ⟨N, hN⟩ : ∃ N, N = numB (r.take 4) := ⟨_, rfl⟩
  have hl4 : (r.take 4).length = 4 := by rw [List.length_take]; omega
  have hlt : N < 4294967296 := by rw [hN]; exact numB_lt4 _ hl4
  have hx := (r.getD 4 0).toNat_lt
  refine ⟨⟨?_, ?_, ?_, ?_⟩, ?_⟩
  · simp only [prioB]; omega
  · simp only [prioB]; omega
  · simp only [prioB]; omega
  · simp only [prioB]; omega
  · have hd : depN (prioB z r) = (N : Int) := by
      simp only [depN, prioB, ← hN, exclN]
      by_cases h1 : N / 2147483648 = 1
      · rw [if_pos (by simpa using h1)]; omega
      · rw [if_neg (by simpa using h1)]; omega
    have hg : r.getD 4 0 = r[4] := by simp [List.getD_eq_getElem?_getD, List.getElem?_eq_getElem (show 4 < r.length by omega)]
    have hw : ((prioB z r).weight - 1).toNat = (r.getD 4 0).toNat := by simp only [prioB]; omega
    rw [prioBs, hd, hw, hN, be_num0 _ 4 hl4, show UInt8.ofNat (r.getD 4 0).toNat = r.getD 4 0 by simp, hg]
    have e5 : r.take 5 = r.take 4 ++ [r[4]] := by rw [List.take_succ, List.getElem?_eq_getElem (show 4 < r.length by omega)]; rfl
    exact e5.symm
/-! ### settings -/
theorem sets_back (r : List UInt8) : ∀ j, 6 * j ≤ r.length → (setsN j r).flatMap setB = r.take (6 * j) ∧ ∀ p ∈ setsN j r, SetOk p
  | 0, _ => by simp [setsN]
  | j + 1, h => by
    obtain ⟨h1, h2⟩ := sets_back r j (by omega)
    have l2 : ((r.drop (6 * j)).take 2).length = 2 := by rw [List.length_take, List.length_drop]; omega
    have l4 : ((r.drop (6 * j + 2)).take 4).length = 4 := by rw [List.length_take, List.length_drop]; omega
    have b2 := numB_lt2 _ (Nat.le_of_eq l2)
    have b4 := numB_lt4 _ l4
    refine ⟨?_, fun p hp => ?_⟩
    · rw [setsN, List.flatMap_append, h1]
      simp only [List.flatMap_cons, List.flatMap_nil, List.append_nil, setB]
      rw [be_num0 _ 2 l2, be_num0 _ 4 l4, show 6 * (j + 1) = 6 * j + 2 + 4 by omega, List.take_add, List.take_add, List.append_assoc]
    · rw [setsN, List.mem_append, List.mem_singleton] at hp
      rcases hp with hp | rfl
      · exact h2 p hp
      · exact ⟨by simp only; omega, by simp only; omega, by simp only; omega, by simp only; omega⟩
/-! ### type by type -/
theorem low_back (n : Int) (h : LowOk n) (r : List UInt8) (hr : r = beB 4 n) : LowOk ((numB r % 2147483648 : Nat) : Int) ∧ beB 4 ((numB r % 2147483648 : Nat) : Int) = r := by
  have h1 := num_be4 n h.1 (by have := h.2; omega)
  subst hr
  have h2 := h.2
  have e : ((numB (beB 4 n) % 2147483648 : Nat) : Int) = n := by have := h.1; omega
  rw [e]
  exact ⟨h, rfl⟩
theorem take_app4 {a b : List UInt8} (h : a.length = 4) : (a ++ b).take 4 = a := by rw [List.take_append_of_le_length (by omega), List.take_of_length_le (by omega)]
theorem drop_app4 {a b : List UInt8} (h : a.length = 4) : (a ++ b).drop 4 = b := by rw [List.drop_append_of_le_length (by omega), List.drop_of_length_le (by omega), List.nil_append]
theorem pay_back (t : Nat) (f : UInt8) (b : Bd) (pad : Int) (ht : t ≤ 9) (h : PayOk t f b) (hs : sizeF t f (payB t f b).length = true) : PayOk t f (bodyF t f pad (payB t f b)) ∧ payB t f (bodyF t f pad (payB t f b)) = payB t f b := by
  match t, ht with
  | 0, _ => exact ⟨trivial, rfl⟩
  | 1, _ =>
    by_cases hf : onF f 32 = true
    · have e : ∀ r, bodyF 1 f pad r = { prioB { bd0 with pad := pad } r with data := r.drop 5 } := fun r => by simp [bodyF, hf]
      have e2 : ∀ b, payB 1 f b = prioBs b ++ b.data := fun b => by simp [payB, hf]
      have h5 : 5 ≤ (payB 1 f b).length := by simpa [sizeF, hf] using hs
      obtain ⟨h1, h2⟩ := prio_back { bd0 with pad := pad } (payB 1 f b) h5
      refine ⟨fun _ => by rw [e]; exact h1, ?_⟩
      rw [e2 (bodyF 1 f pad (payB 1 f b)), e]
      show prioBs (prioB { bd0 with pad := pad } (payB 1 f b)) ++ (payB 1 f b).drop 5 = _
      rw [h2, List.take_append_drop]
    · have e : ∀ r, bodyF 1 f pad r = { bd0 with pad := pad, data := r } := fun r => by simp [bodyF, hf]
      refine ⟨fun h => absurd h hf, ?_⟩
      rw [e]
      simp [payB, hf]
  | 2, _ =>
    have h5 : (payB 2 f b).length = 5 := by simpa [sizeF] using hs
    obtain ⟨h1, h2⟩ := prio_back { bd0 with pad := pad } (payB 2 f b) (by omega)
    refine ⟨h1, ?_⟩
    show prioBs (prioB { bd0 with pad := pad } (payB 2 f b)) = _
    rw [h2, List.take_of_length_le (by omega)]
  | 3, _ =>
    have h' : WordOk b.code := h
    have e := num_be4 b.code h'.1 h'.2
    refine ⟨?_, ?_⟩
    · show WordOk ((numB (beB 4 b.code) : Nat) : Int)
      rw [e]; exact h'
    · show beB 4 ((numB (beB 4 b.code) : Nat) : Int) = beB 4 b.code
      rw [e]
  | 4, _ =>
    have h6 : (payB 4 f b).length % 6 = 0 := by simp [sizeF] at hs; exact hs.1
    obtain ⟨h1, h2⟩ := sets_back (payB 4 f b) ((payB 4 f b).length / 6) (by omega)
    refine ⟨h2, ?_⟩
    show (setsN ((payB 4 f b).length / 6) (payB 4 f b)).flatMap setB = _
    rw [h1, List.take_of_length_le (by omega)]
  | 5, _ =>
    have h' : LowOk b.prom := h
    obtain ⟨h1, h2⟩ := low_back b.prom h' ((payB 5 f b).take 4) (take_app4 (beB_len 4 _))
    refine ⟨h1, ?_⟩
    show beB 4 ((numB ((payB 5 f b).take 4) % 2147483648 : Nat) : Int) ++ (payB 5 f b).drop 4 = _
    rw [h2, List.take_append_drop]
  | 6, _ => exact ⟨h, rfl⟩
  | 7, _ =>
    have h' : LowOk b.last ∧ WordOk b.code := h
    have ep : payB 7 f b = beB 4 b.last ++ (beB 4 b.code ++ b.data) := by simp [payB]
    obtain ⟨h1, h2⟩ := low_back b.last h'.1 ((payB 7 f b).take 4) (by rw [ep]; exact take_app4 (beB_len 4 _))
    have e3 : ((payB 7 f b).drop 4).take 4 = beB 4 b.code := by rw [ep, drop_app4 (beB_len 4 _), take_app4 (beB_len 4 _)]
    have e4 : (payB 7 f b).drop 8 = b.data := by rw [show 8 = 4 + 4 from rfl, ← List.drop_drop, ep, drop_app4 (beB_len 4 _), drop_app4 (beB_len 4 _)]
    have e := num_be4 b.code h'.2.1 h'.2.2
    refine ⟨⟨h1, ?_⟩, ?_⟩
    · show WordOk ((numB (((payB 7 f b).drop 4).take 4) : Nat) : Int)
      rw [e3, e]; exact h'.2
    · show beB 4 ((numB ((payB 7 f b).take 4) % 2147483648 : Nat) : Int) ++ beB 4 ((numB (((payB 7 f b).drop 4).take 4) : Nat) : Int) ++ (payB 7 f b).drop 8 = _
      rw [h2, e3, e, e4, ep, take_app4 (beB_len 4 _), List.append_assoc]
  | 8, _ =>
    have h' : LowOk b.inc := h
    exact low_back b.inc h' (payB 8 f b) rfl
  | 9, _ => exact ⟨trivial, rfl⟩
theorem bodyF_pad (t : Nat) (f : UInt8) (pad : Int) (r : List UInt8) : (bodyF t f pad r).pad = pad := by
  unfold bodyF
  repeat' split
  all_goals rfl
theorem bodyF_weight (t : Nat) (f : UInt8) (pad : Int) (r : List UInt8) (h : (bodyF t f pad r).prio = true) : (bodyF t f pad r).weight ≠ 0 := by
  unfold bodyF at h ⊢
  repeat' split at h
  all_goals first
    | (exfalso; revert h; decide)
    | (exfalso; exact Bool.false_ne_true h)
    | (simp_all [prioB]; omega)
/-- what was made, read: nothing and a number, or a body that makes it again -/
theorem back_pure (t : Nat) (f : UInt8) (s : Int) (b : Bd) (p : List UInt8) (h : MkOk t f.toNat s b p) :
    ((readF t f s p).2 ≠ 0 ∧ (readF t f s p).1 = bd0) ∨ ((readF t f s p).2 = 0 ∧ MkOk t f.toNat s (readF t f s p).1 p ∧ ((readF t f s p).1.prio = true → (readF t f s p).1.weight ≠ 0)) := by
  obtain ⟨tn, fb, e1, e2, ht, hs0, hs1, hp0, hp1, hpp, hok, rfl, hl⟩ := h
  obtain rfl : t = tn := by omega
  obtain rfl : f = fb := UInt8.toNat_inj.1 (by omega)
  have hb := bare_full t f b hp0 hp1 hpp
  unfold readF
  by_cases hbad : placeF t = 1 ∧ s = 0 ∨ placeF t = 0 ∧ ¬ s = 0
  · rw [if_pos hbad]
    exact .inl ⟨by decide, rfl⟩
  · rw [if_neg hbad, hb]
    simp only
    by_cases hs : sizeF t f (payB t f b).length = true
    · rw [if_pos hs]
      obtain ⟨h1, h2⟩ := pay_back t f b b.pad ht hok hs
      have h3 := bodyF_pad t f b.pad (payB t f b)
      refine .inr ⟨rfl, ⟨t, f, rfl, rfl, ht, hs0, hs1, by rw [h3]; exact hp0, by rw [h3]; exact hp1, by rw [h3]; exact hpp, h1, ?_, hl⟩, fun h => bodyF_weight _ _ _ _ h⟩
      simp only [fullB]
      rw [h2, h3]
    · rw [if_neg hs]
      exact .inl ⟨by decide, rfl⟩
theorem bodyF_len (t : Nat) (f : UInt8) (pad : Int) (r : List UInt8) : (bodyF t f pad r).data.length ≤ r.length ∧ (bodyF t f pad r).sets.length ≤ r.length := by
  unfold bodyF
  repeat' split
  all_goals simp [bd0, prioB, setsN_len]
  all_goals omega
theorem back_len (t : Nat) (f : UInt8) (s : Int) (p : List UInt8) {N : Nat} (h : p.length ≤ N) : (readF t f s p).1.data.length ≤ N ∧ (readF t f s p).1.sets.length ≤ N := by
  unfold readF
  split
  · simp [bd0]
  · cases hb : bareF t f p with
    | bad k => simp [bd0]
    | ok pad r =>
      have h1 : r.length ≤ p.length := by
        unfold bareF at hb
        repeat' split at hb
        all_goals first
          | (injection hb with e1 e2; subst e2; first | exact Nat.le_refl _ | (rw [List.length_take, List.length_cons]; omega))
          | cases hb
      simp only
      split
      · have := bodyF_len t f pad r
        simp only
        omega
      · simp [bd0]
end Go.Proofs.Ytbngoaonkhcciaa
/-! #### Body -/
set_option linter.all false
namespace Go.Proofs.Ytbngoaonkhcciaa
open Go.ChangeShapes Go.WideShapes Go.ChangeAt Go.RowKit Go.Proofs.YtbngoaonkhcciaaW.PrintWords
theorem bare_code {t : Nat} {f : UInt8} {bs : List UInt8} {k : Int} (h : bareF t f bs = .bad k) : ¬ k = 0 := by
  unfold bareF at h
  split at h
  · split at h
    · injection h with h; omega
    · split at h
      · injection h with h; omega
      · cases h
  · cases h
theorem bare_len {t : Nat} {f : UInt8} {bs : List UInt8} {pad : Int} {r : List UInt8} (h : bareF t f bs = .ok pad r) : r.length ≤ bs.length := by
  unfold bareF at h
  split at h
  · split at h
    · cases h
    · split at h
      · cases h
      · injection h with h1 h2
        subst h2
        rw [List.length_take, List.length_cons]
        omega
  · injection h with h1 h2
    rw [h2]
    exact Nat.le_refl _
theorem place_one (t : Nat) : placeF t = 1 ∨ placeF t = 0 ∨ placeF t = -1 := by
  unfold placeF
  split
  · exact .inl rfl
  · split
    · exact .inr (.inl rfl)
    · exact .inr (.inr rfl)
theorem bodyR_none {W : World} {base : Nat} {e : Ending} {b : Bd} {k : Int} (h : e = .returned (.tuple #[.agg (b.vals (.slice none 0 0) (.slice none 0 0)), .int .i64 k])) (hd : b.data = []) (hs : b.sets = []) : BodyR W base e (b, k) := by
  refine ⟨_, _, h, ?_, ?_⟩
  · simp only [hd]; exact Row1.nil _ _ _
  · simp only [hs]; exact World.ownsRow_nil _ _ _ _
theorem bodyR_data {W : World} {base : Nat} {e : Ending} {b : Bd} {k : Int} {v : Value} (h : e = .returned (.tuple #[.agg (b.vals v (.slice none 0 0)), .int .i64 k])) (hd : Row1 W base 5 v (encB b.data)) (hs : b.sets = []) : BodyR W base e (b, k) := by
  refine ⟨_, _, h, hd, ?_⟩
  simp only [hs]; exact World.ownsRow_nil _ _ _ _
/-- Read, whole -/
theorem read_all (w : World) {A : Option Addr} {n c : Nat} {bs : List UInt8} (t : Nat) (f : UInt8) (s : Int) (hr : Reads w w.heap.size 1 A n (encB bs)) (hc : n ≤ c) (hc2 : c ≤ 9223372036854775807) (hn : n ≤ 1099511627776) :
    Calls Try.prog 15 #[.agg #[.int .i64 t, .int .i64 f.toNat, .int .i64 s, .slice A n c]] w fun e w' => BodyR w' w.heap.size e (readF t f s bs) ∧ Keep [] w w' := by
  have hc3 : n ≤ 140737488355328 := by omega
  have hbl : bs.length = n := by have := hr.1; rw [encB_len] at this; omega
  unfold readF
  by_cases hbad : placeF t = 1 ∧ s = 0 ∨ placeF t = 0 ∧ ¬ s = 0
  · rw [if_pos hbad]
    rcases hbad with ⟨hp, rfl⟩ | ⟨hp, h1⟩
    · exact (read_bad1 w hr hc hc2 hc3 t hp).mono fun e w' ⟨h, k⟩ => ⟨bodyR_none h rfl rfl, k⟩
    · exact (read_bad0 w hr hc hc2 hc3 t hp h1).mono fun e w' ⟨h, k⟩ => ⟨bodyR_none h rfl rfl, k⟩
  · rw [if_neg hbad]
    have hp1 : placeF t = 1 → ¬ s = 0 := fun h h0 => hbad (.inl ⟨h, h0⟩)
    have hp0 : placeF t = 0 → s = 0 := fun h => Classical.not_not.1 fun h0 => hbad (.inr ⟨h, h0⟩)
    clear hbad
    cases hb : bareF t f bs with
    | bad k =>
      have hk := bare_code hb
      simp only
      rcases place_one t with hp | hp | hp
      · exact (read_bare1 w hr hc hc2 hc3 t hp (hp1 hp) k hk hb).mono fun e w' ⟨h, k⟩ => ⟨bodyR_none h rfl rfl, k⟩
      · obtain rfl := hp0 hp
        exact (read_bare0 w hr hc hc2 hc3 t hp k hk hb).mono fun e w' ⟨h, k⟩ => ⟨bodyR_none h rfl rfl, k⟩
      · exact (read_barex w hr hc hc2 hc3 t hp k hk hb).mono fun e w' ⟨h, k⟩ => ⟨bodyR_none h rfl rfl, k⟩
    | ok pad r =>
      have hrl := bare_len hb
      simp only
      by_cases hs : sizeF t f r.length = true
      · rw [if_pos hs]
        have hrl1 : r.length ≤ 140737488355328 := by omega
        have hrl2 : r.length ≤ 1099511627776 := by omega
        match t, hb, hs, hp1, hp0 with
        | 0, hb, hs, hp1, hp0 => exact (read_0 w hr hc hc2 hc3 hrl1 (hp1 rfl) hb hs).mono fun e w' ⟨v, h, hrow, k⟩ => ⟨bodyR_data h hrow rfl, k⟩
        | 1, hb, hs, hp1, hp0 =>
          by_cases hf : onF f 32 = true
          · have e : bodyF 1 f pad r = { prioB { bd0 with pad := pad } r with data := r.drop 5 } := by simp [bodyF, hf]
            rw [e]
            exact (read_1p w hr hc hc2 hc3 hrl1 (hp1 rfl) hf hb hs).mono fun e w' ⟨v, h, hrow, k⟩ => ⟨bodyR_data h hrow rfl, k⟩
          · have hf2 : onF f 32 = false := by simpa using hf
            have e : bodyF 1 f pad r = { bd0 with pad := pad, data := r } := by simp [bodyF, hf]
            rw [e]
            exact (read_1n w hr hc hc2 hc3 hrl1 (hp1 rfl) hf2 hb hs).mono fun e w' ⟨v, h, hrow, k⟩ => ⟨bodyR_data h hrow rfl, k⟩
        | 2, hb, hs, hp1, hp0 => exact (read_2 w hr hc hc2 hc3 (hp1 rfl) hb hs).mono fun e w' ⟨h, k⟩ => ⟨bodyR_none h rfl rfl, k⟩
        | 3, hb, hs, hp1, hp0 => exact (read_3 w hr hc hc2 hc3 (hp1 rfl) hb hs).mono fun e w' ⟨h, k⟩ => ⟨bodyR_none h rfl rfl, k⟩
        | 4, hb, hs, hp1, hp0 =>
          obtain rfl := hp0 rfl
          refine (read_4 w hr hc hc2 hc3 hrl2 hb hs).mono fun e w' ⟨v, h, hrow, k⟩ => ⟨⟨_, v, h, Row1.nil _ _ _, ?_⟩, k⟩
          show w'.ownsRow w.heap.size 44 2 v (setsN (r.length / 6) r).length (encS (setsN (r.length / 6) r))
          rw [setsN_len]
          exact hrow
        | 5, hb, hs, hp1, hp0 => exact (read_5 w hr hc hc2 hc3 hrl1 (hp1 rfl) hb hs).mono fun e w' ⟨v, h, hrow, k⟩ => ⟨bodyR_data h hrow rfl, k⟩
        | 6, hb, hs, hp1, hp0 =>
          obtain rfl := hp0 rfl
          exact (read_6 w hr hc hc2 hc3 hrl1 hb hs).mono fun e w' ⟨v, h, hrow, k⟩ => ⟨bodyR_data h hrow rfl, k⟩
        | 7, hb, hs, hp1, hp0 =>
          obtain rfl := hp0 rfl
          exact (read_7 w hr hc hc2 hc3 hrl1 hb hs).mono fun e w' ⟨v, h, hrow, k⟩ => ⟨bodyR_data h hrow rfl, k⟩
        | 8, hb, hs, hp1, hp0 => exact (read_8 w hr hc hc2 hc3 hb hs).mono fun e w' ⟨h, k⟩ => ⟨bodyR_none h rfl rfl, k⟩
        | 9, hb, hs, hp1, hp0 => exact (read_9 w hr hc hc2 hc3 hrl1 (hp1 rfl) hb hs).mono fun e w' ⟨v, h, hrow, k⟩ => ⟨bodyR_data h hrow rfl, k⟩
        | t + 10, hb, hs, hp1, hp0 =>
          have e : bodyF (t + 10) f pad r = { bd0 with pad := pad } := by
            simp only [bodyF]
            repeat rw [if_neg (by omega)]
          rw [e]
          exact (read_x w hr hc hc2 hc3 (t + 10) (by omega) hb hs).mono fun e w' ⟨h, k⟩ => ⟨bodyR_none h rfl rfl, k⟩
      · rw [if_neg hs]
        have hs2 : sizeF t f r.length = false := by simpa using hs
        rcases place_one t with hp | hp | hp
        · exact (read_sz1 w hr hc hc2 hc3 t hp (hp1 hp) hb hs2).mono fun e w' ⟨h, k⟩ => ⟨bodyR_none h rfl rfl, k⟩
        · obtain rfl := hp0 hp
          exact (read_sz0 w hr hc hc2 hc3 t hp hb hs2).mono fun e w' ⟨h, k⟩ => ⟨bodyR_none h rfl rfl, k⟩
        · exact (read_szx w hr hc hc2 hc3 t hp hb hs2).mono fun e w' ⟨h, k⟩ => ⟨bodyR_none h rfl rfl, k⟩
end Go.Proofs.Ytbngoaonkhcciaa
/-! #### CtrB -/
set_option linter.all false
namespace Go.Proofs.Ytbngoaonkhcciaa
open Go.ChangeShapes Go.WideShapes Go.ChangeAt Go.RowKit Go.Proofs.YtbngoaonkhcciaaW.PrintWords
theorem sets_of_sl {w : World} {v : Value} (h : Sl w 2 (fun _ => IsInt .i64) v) : ∃ (A : Option Addr) (n c : Nat) (ss : List (Int × Int)), v = .slice A n c ∧ n ≤ c ∧ c ≤ maxLen ∧ ss.length = n ∧ (∀ p ∈ ss, (Lit.int .i64 p.1).wf = true) ∧ Reads w w.heap.size 2 A n (encS ss) := by
  obtain ⟨A, len, cap, rfl, hl, hm, h⟩ := h
  rcases h with h0 | ⟨b, off, rfl, hb, hc⟩
  · have : len = 0 := by omega
    subst this
    exact ⟨A, 0, cap, [], rfl, hl, hm, rfl, by simp, by simp [encS], fun h => absurd h (by omega)⟩
  · have hx : ∀ i, ∃ p : Int × Int, (Lit.int .i64 p.1).wf = true ∧ (i < cap → w.cell? ⟨b, off + i * 2, none⟩ = some (.int .i64 p.1) ∧ w.cell? ⟨b, off + i * 2 + 1, none⟩ = some (.int .i64 p.2)) := by
      intro i
      by_cases hi : i < cap
      · obtain ⟨u, hu, n, rfl, hw⟩ := hc i hi 0 (by omega)
        obtain ⟨u2, hu2, n2, rfl, hw2⟩ := hc i hi 1 (by omega)
        exact ⟨(n, n2), hw, fun _ => ⟨hu, hu2⟩⟩
      · exact ⟨(0, 0), by decide, fun h => absurd h hi⟩
    obtain ⟨f, hf⟩ := Classical.axiomOfChoice hx
    refine ⟨_, len, cap, (List.range len).map f, rfl, hl, hm, by simp, fun p hp => (by obtain ⟨i, _, rfl⟩ := List.mem_map.1 hp; exact (hf i).1), by rw [encS_len]; simp, fun _ => ⟨_, rfl, hb, fun j u hu => ?_⟩⟩
    have hj : j < ((List.range len).map f).length * 2 := by
      rw [← encS_len]
      exact (List.getElem?_eq_some_iff.1 hu).1
    have hj2 : j / 2 < len := by simp at hj; omega
    have hj3 : j / 2 < ((List.range len).map f).length := by simp; exact hj2
    obtain ⟨q1, q2⟩ := encS_at hj3
    have hg : ((List.range len).map f).getD (j / 2) (0, 0) = f (j / 2) := by simp [List.getD_eq_getElem?_getD, List.getElem?_range hj2]
    rw [hg] at q1 q2
    obtain ⟨e1, e2⟩ := (hf (j / 2)).2 (by omega)
    have ea : (⟨b, off, none⟩ : Addr).add j = ⟨b, off + j, none⟩ := by unfold Addr.add; split <;> simp_all
    rw [ea]
    rcases Nat.mod_two_eq_zero_or_one j with h2 | h2
    · have ej : j / 2 * 2 = j := by omega
      rw [ej] at q1 e1
      rw [q1] at hu
      rw [e1, ← hu]
    · have ej : j / 2 * 2 + 1 = j := by omega
      rw [ej] at q2
      rw [Nat.add_assoc, ej] at e2
      rw [q2] at hu
      rw [e2, ← hu]
theorem C_m44 {w : World} {A : Option Addr} {B n : Nat} {ss : List (Int × Int)} (h : Reads w B 2 A n (encS ss)) (hn : n ≤ 9223372036854775807) : Kd.C PMk.k44 w A (m44 ss).length (m44 ss) := by
  have hl : ss.length = n := by have := h.1; rw [encS_len] at this; omega
  refine ⟨rfl, by rw [m44_len]; omega, fun h0 => ?_⟩
  rw [m44_len] at h0
  obtain ⟨ad, e, _, hc⟩ := h.2 (by omega)
  refine ⟨ad, e, fun j p hp => ⟨[.int .i64 p.f0, .int .i64 p.f1], rfl, PMk.k44_mk w p, fun i u hu => ?_⟩⟩
  have hj : j < ss.length := by have := (List.getElem?_eq_some_iff.1 hp).1; rwa [m44_len] at this
  obtain ⟨q1, q2⟩ := encS_at hj
  have hpe : p = ⟨(ss.getD j (0, 0)).1, (ss.getD j (0, 0)).2⟩ := by
    simp [m44, List.getElem?_eq_getElem hj] at hp
    rw [← hp]
    simp [List.getD_eq_getElem?_getD, List.getElem?_eq_getElem hj]
  subst hpe
  show w.cell? (ad.add (j * 2 + i)) = _
  match i, hu with
  | 0, hu => simp at hu; subst hu; exact hc _ _ q1
  | 1, hu => simp at hu; subst hu; exact hc _ _ q2
/-- an argument that is a body, its slices no longer than N -/
def BdV (N : Nat) (w : World) (v : Value) : Prop := ∃ (b : Bd) (A0 A9 : Option Addr) (c0 c9 : Nat), v = .agg (b.vals (.slice A0 b.data.length c0) (.slice A9 b.sets.length c9)) ∧ b.data.length ≤ N ∧ b.sets.length ≤ N ∧ b.data.length ≤ c0 ∧ b.sets.length ≤ c9 ∧ c0 ≤ maxLen ∧ c9 ≤ maxLen ∧
  Reads w w.heap.size 1 A0 b.data.length (encB b.data) ∧ Reads w w.heap.size 2 A9 b.sets.length (encS b.sets)
theorem mk_facts {t f s : Int} {b : Bd} {p : List UInt8} (h : MkOk t f s b p) : ∃ (tb fb : UInt8) (sn : Nat), t = tb.toNat ∧ f = fb.toNat ∧ s = sn ∧ p.length ≤ 16777215 ∧ tb.toNat ≤ 9 ∧ sn < 2147483648 := by
  obtain ⟨tn, fb, h1, h2, h3, h4, h5, _, _, _, _, _, h6⟩ := h
  have e : (UInt8.ofNat tn).toNat = tn := by rw [UInt8.toNat_ofNat']; omega
  exact ⟨UInt8.ofNat tn, fb, s.toNat, by rw [e]; exact h1, h2, by omega, h6, by omega, by omega⟩
theorem mk_uniq {t f s : Int} {b : Bd} {p q : List UInt8} (h : MkOk t f s b p) (h2 : MkOk t f s b q) : p = q := by
  obtain ⟨tn, fb, e1, e2, _, _, _, _, _, _, _, h6, _⟩ := h
  obtain ⟨tn', fb', e1', e2', _, _, _, _, _, _, _, h6', _⟩ := h2
  obtain rfl : tn = tn' := by omega
  obtain rfl : fb = fb' := UInt8.toNat_inj.1 (by omega)
  rw [h6, h6']
theorem own_slice2 {W : World} {base n : Nat} {v : Value} {xs : List Value} {e : TypeId} (h : W.ownsRow base e 2 v n xs) : ∃ A c, v = .slice A n c ∧ n ≤ c ∧ Reads W W.heap.size 2 A n xs := by
  rcases h.2 with ⟨rfl, h0⟩ | ⟨g, cap, cur, rfl, hb, hg, hnc, _⟩
  · subst h0
    exact ⟨none, 0, rfl, Nat.le_refl _, ⟨h.1, fun h => absurd h (by omega)⟩⟩
  · exact ⟨_, cap, rfl, hnc, Reads.of_own h⟩
theorem eq_same (W : World) (t f s : Int) (p : List UInt8) {A B : Option Addr} {c d C D : Nat} (h1 : Reads W C 1 A p.length (encB p)) (h2 : Reads W D 1 B p.length (encB p)) (l1 : p.length ≤ c) (l2 : p.length ≤ d) (hl : p.length ≤ 16777215) :
    Calls Try.prog 14 #[.agg #[.int .i64 t, .int .i64 f, .int .i64 s, .slice A p.length c], .agg #[.int .i64 t, .int .i64 f, .int .i64 s, .slice B p.length d]] W fun e w' => e = .returned (.bool true) ∧ Keep [] W w' := by
  have hh := PPt.isthmusref7_EqFrame.calls t f s A c (ints p) t f s B d (ints p) true W (C_of h1 (by omega)) (by rw [ints_len]; exact l1) (C_of h2 (by omega)) (by rw [ints_len]; exact l2) (eqFrame_self _ _ _ _)
  rw [ints_len] at hh
  exact hh.mono fun e w' ⟨he, hb⟩ => ⟨he, Keep.of_below hb⟩
theorem make_ (W : World) (t f s : Int) (b : Bd) {A0 A9 : Option Addr} {c0 c9 B0 B9 : Nat} (h0 : Reads W B0 1 A0 b.data.length (encB b.data)) (h9 : Reads W B9 2 A9 b.sets.length (encS b.sets)) (l0 : b.data.length ≤ c0) (l9 : b.sets.length ≤ c9) (m0 : b.data.length ≤ 1099511627776) (m9 : b.sets.length ≤ 1099511627776) :
    Calls Try.prog 18 #[.int .i64 t, .int .i64 f, .int .i64 s, .agg (b.vals (.slice A0 b.data.length c0) (.slice A9 b.sets.length c9))] W fun e w' =>
      ((∃ p, MkOk t f s b p ∧ ∃ A c, e = .returned (.tuple #[.agg #[.int .i64 t, .int .i64 f, .int .i64 s, .slice A p.length c], .int .i64 0]) ∧ Row1 w' W.heap.size 5 (.slice A p.length c) (encB p)) ∨
      ((∀ p, ¬ MkOk t f s b p) ∧ ∃ (k : Int) (A : Option Addr) (c : Nat), k ≠ 0 ∧ e = .returned (.tuple #[.agg #[.int .i64 0, .int .i64 0, .int .i64 0, .slice A 0 c], .int .i64 k]))) ∧ Keep [] W w' := by
  have C0 := C_of h0 (by omega)
  have C9 := C_m44 h9 (by omega)
  have e0 := ints_len b.data
  have e9 := m44_len b.sets
  rcases make_f (2 * b.sets.length + 30) t f s b (Nat.le_refl _) m0 m9 with ⟨p, hp, hf⟩ | ⟨hp, k, hk, hf⟩
  · have hc := PMk.frame_Make.calls (2 * b.sets.length + 30) t f s A0 c0 (ints b.data) b.pad b.prio b.excl b.dep b.weight b.code b.last b.inc A9 c9 (m44 b.sets) b.prom t f s (ints p) 0 W C0 (by omega) C9 (by omega) hf
    rw [e0, e9] at hc
    refine hc.mono ?_
    rintro e w' ⟨v, rfl, hr, hb⟩
    refine ⟨.inl ⟨p, hp, ?_⟩, Keep.of_below hb⟩
    have row := Row1.of_R hr
    obtain ⟨A, c, rfl, _, _, _⟩ := row.reads
    rw [encB_len] at row ⊢
    exact ⟨A, c, rfl, row⟩
  · have hc := PMk.frame_Make.calls (2 * b.sets.length + 30) t f s A0 c0 (ints b.data) b.pad b.prio b.excl b.dep b.weight b.code b.last b.inc A9 c9 (m44 b.sets) b.prom 0 0 0 [] k W C0 (by omega) C9 (by omega) hf
    rw [e0, e9] at hc
    refine hc.mono ?_
    rintro e w' ⟨v, rfl, hr, hb⟩
    obtain ⟨A, c, rfl⟩ := Kd.R_slice hr
    exact ⟨.inr ⟨hp, k, A, c, hk, rfl⟩, Keep.of_below hb⟩
theorem wire_head (p : List UInt8) (t f : UInt8) (s : Nat) (hs : s < 2147483648) (hp : p.length ≤ 16777215) : headR (beB 3 p.length ++ [t, f] ++ beB 4 s ++ p) = ((t.toNat : Int), (f.toNat : Int), (s : Int), [], (p.length : Int), 0) := by
  have l3 := beB_len 3 p.length
  have l4 := beB_len 4 s
  unfold headR
  rw [if_neg (by simp only [List.length_append, l3, l4, List.length_cons, List.length_nil]; omega)]
  have e : beB 3 p.length ++ [t, f] ++ beB 4 s ++ p = beB 3 p.length ++ ([t, f] ++ (beB 4 s ++ p)) := by simp
  have t3 : (beB 3 p.length ++ ([t, f] ++ (beB 4 s ++ p))).take 3 = beB 3 p.length := by rw [List.take_append_of_le_length (by omega), List.take_of_length_le (by omega)]
  have d5 : (beB 3 p.length ++ ([t, f] ++ (beB 4 s ++ p))).drop 5 = beB 4 s ++ p := by
    rw [show 5 = 3 + 2 from rfl, ← List.drop_drop, List.drop_append_of_le_length (by omega), List.drop_of_length_le (l := beB 3 p.length) (by omega)]
    rfl
  have g3 : (beB 3 p.length ++ ([t, f] ++ (beB 4 s ++ p))).getD 3 0 = t := by
    rw [List.getD_eq_getElem?_getD, List.getElem?_append_right (by omega), l3]; rfl
  have g4 : (beB 3 p.length ++ ([t, f] ++ (beB 4 s ++ p))).getD 4 0 = f := by
    rw [List.getD_eq_getElem?_getD, List.getElem?_append_right (by omega), l3]; rfl
  rw [e, t3, d5, g3, g4, List.take_append_of_le_length (by omega), List.take_of_length_le (l := beB 4 s) (by omega), num_be, num_be, Nat.mod_eq_of_lt (by omega), Nat.mod_eq_of_lt (by omega), Nat.mod_eq_of_lt (by omega)]
theorem wire_drop (p : List UInt8) (t f : UInt8) (s : Int) : (beB 3 p.length ++ [t, f] ++ beB 4 s ++ p).drop 9 = p := by
  have l3 := beB_len 3 p.length
  have l4 := beB_len 4 s
  rw [List.drop_append_of_le_length (by simp only [List.length_append, l3, l4, List.length_cons, List.length_nil]; omega), List.drop_of_length_le (by simp only [List.length_append, l3, l4, List.length_cons, List.length_nil]; omega), List.nil_append]
theorem wire_len9 (p : List UInt8) (t f : UInt8) (s : Int) : (beB 3 p.length ++ [t, f] ++ beB 4 s ++ p).length = 9 + p.length := by
  simp only [List.length_append, beB_len, List.length_cons, List.length_nil]
/-- Head of a frame's bytes -/
theorem head_wire (W : World) (p : List UInt8) (t f : UInt8) (s : Nat) (hs : s < 2147483648) (hp : p.length ≤ 16777215) {A : Option Addr} {c B : Nat} (h : Reads W B 1 A (9 + p.length) (encB (beB 3 p.length ++ [t, f] ++ beB 4 s ++ p))) (hc : 9 + p.length ≤ c) :
    Calls Try.prog 12 #[.slice A (9 + p.length) c] W fun e w' => ∃ A c, e = .returned (.tuple #[.agg #[.int .i64 t.toNat, .int .i64 f.toNat, .int .i64 s, .slice A 0 c], .int .i64 p.length, .int .i64 0]) ∧ Keep [] W w' := by
  have hf := head_f (beB 3 p.length ++ [t, f] ++ beB 4 s ++ p)
  rw [wire_head p t f s hs hp] at hf
  have hl := wire_len9 p t f s
  have hh := PHd.frame_Head.calls 9 A c (ints (beB 3 p.length ++ [t, f] ++ beB 4 s ++ p)) _ _ _ _ _ _ W (C_of h (by omega)) (by rw [ints_len, hl]; exact hc) hf
  rw [ints_len, hl] at hh
  refine hh.mono ?_
  rintro e w' ⟨v, rfl, hr, hb⟩
  obtain ⟨A, c, rfl⟩ := Kd.R_slice hr
  exact ⟨A, c, rfl, Keep.of_below hb⟩
end Go.Proofs.Ytbngoaonkhcciaa
/-! #### LawBack -/
set_option linter.all false
namespace Go.Proofs.Ytbngoaonkhcciaa
open Go.ChangeShapes Go.WideShapes Go.ChangeAt Go.RowKit Go.Proofs.YtbngoaonkhcciaaW.PrintWords
attribute [local go_sem] setCell_drewN alloc_drewN Oper.semAt_some
set_option maxHeartbeats 4000000 in
set_option maxRecDepth 100000 in
theorem frameBack (w : World) (t : Int) (wt : (Lit.int .i64 t).wf = true) (f : Int) (wf : (Lit.int .i64 f).wf = true) (s : Int) (ws : (Lit.int .i64 s).wf = true) (v : Value) (hv : BdV 1048576 w v) : Calls Try.prog 6 #[.int .i64 t, .int .i64 f, .int .i64 s, v] w fun e w' => e = .returned (.bool true) ∧ Below w.heap.size w w' := by
  obtain ⟨b, A0, A9, c0, c9, rfl, n0, n9, l0, l9, _, _, hr0, hr9⟩ := hv
  clear wt wf ws
  have HR0 := Lib.hid hr0
  have HR9 := Lib.hid hr9
  have HN := Lib.hid (And.intro (And.intro n0 n9) (And.intro l0 l9))
  clear hr0 hr9 n0 n9 l0 l9
  unfold Bd.vals
  go_enter Try.func6, Try.ntmps6
  go_wp2_with (fail)
  have BB := Blk.new w 36 #[.slice A0 b.data.length c0, .int .i64 b.pad, .bool b.prio, .bool b.excl, .int .i64 b.dep, .int .i64 b.weight, .int .i64 b.code, .int .i64 b.last, .int .i64 b.inc, .slice A9 b.sets.length c9, .int .i64 b.prom]
  refine (begun _).mono ?_
  rintro e w1 ⟨rfl, B1⟩
  have k1 := Keep.of_below B1
  have BB1 := BB.keep k1 (by simp)
  have K1 := Lib.hid (((Keep.refl [] w).alloc (.cells #[.slice A0 b.data.length c0, .int .i64 b.pad, .bool b.prio, .bool b.excl, .int .i64 b.dep, .int .i64 b.weight, .int .i64 b.code, .int .i64 b.last, .int .i64 b.inc, .slice A9 b.sets.length c9, .int .i64 b.prom] 36)).trans k1)
  have d0 := BB1.cell 0
  have d1 := BB1.cell 1
  have d2 := BB1.cell 2
  have d3 := BB1.cell 3
  have d4 := BB1.cell 4
  have d5 := BB1.cell 5
  have d6 := BB1.cell 6
  have d7 := BB1.cell 7
  have d8 := BB1.cell 8
  have d9 := BB1.cell 9
  have d10 := BB1.cell 10
  simp at d0 d1 d2 d3 d4 d5 d6 d7 d8 d9 d10
  clear B1 k1 BB BB1
  go_wp2_with (fail)
  have HMk := make_ w1 t f s b (c0 := c0) (c9 := c9) (HR0.out.keeps K1.out (Nat.le_refl _) (by simp)) (HR9.out.keeps K1.out (Nat.le_refl _) (by simp)) HN.out.2.1 HN.out.2.2 (by have := HN.out; omega) (by have := HN.out; omega)
  unfold Bd.vals at HMk
  refine HMk.mono ?_
  clear HMk d0 d1 d2 d3 d4 d5 d6 d7 d8 d9 d10
  rintro e w2 ⟨hm | hm, k2⟩
  rotate_left
  · obtain ⟨_, k, Ak, ck, hk, rfl⟩ := hm
    have hk2 : (k != 0) = true := by simpa using hk
    have K2 := Lib.hid ((K1.out.trans k2).alloc (.cells #[.int .i64 0, .int .i64 0, .int .i64 0, .slice Ak 0 ck] 24))
    clear k2
    go_wp2_with (fail)
    go_ret
    exact ⟨by simp, K2.out.below (Nat.le_refl _) (by simp)⟩
  · obtain ⟨p, hp, A1, c1, rfl, row1⟩ := hm
    obtain ⟨tb, fb, sn, rfl, rfl, rfl, hpl, ht9, hsn⟩ := mk_facts hp
    have HMK := Lib.hid hp
    have HPL := Lib.hid (And.intro hpl (And.intro ht9 hsn))
    have BF := Blk.new w2 24 #[.int .i64 tb.toNat, .int .i64 fb.toNat, .int .i64 sn, .slice A1 p.length c1]
    obtain ⟨w3, hw3⟩ : ∃ w3, w3 = w2.alloc (.cells #[.int .i64 tb.toNat, .int .i64 fb.toNat, .int .i64 sn, .slice A1 p.length c1] 24) := ⟨_, rfl⟩
    have k23 : Keep [] w2 w3 := by rw [hw3]; exact (Keep.refl _ _).alloc _
    have e23 : w3.heap.size = w2.heap.size + 1 := by rw [hw3]; simp
    have K3 := Lib.hid ((K1.out.trans k2).trans k23)
    have HROW := Lib.hid (row1.keep k23 (by simp))
    have HW1 := Lib.hid (show w.heap.size ≤ w1.heap.size ∧ w1.heap.size ≤ w2.heap.size from ⟨K1.out.size, k2.size⟩)
    have HW3 := Lib.hid hw3
    rw [← hw3] at BF
    clear hp hpl ht9 hsn k2 k23 row1 hw3 K1 HR0 HR9 HN
    have d0 := BF.cell 0
    have d1 := BF.cell 1
    have d2 := BF.cell 2
    have d3 := BF.cell 3
    simp at d0 d1 d2 d3
    go_wp2_with (fail)
    rw [← HW3.out]
    have h1 : Reads w3 w3.heap.size 1 A1 p.length (encB p) := by
      obtain ⟨_, _, he, _, _, hrd⟩ := HROW.out.reads
      rw [encB_len] at he hrd
      injection he with he1 he2 he3
      rw [← he1] at hrd
      exact hrd
    refine (put_ w3 tb fb h1 (by omega) (by have := HPL.out; omega) (by have := HPL.out; omega)).mono ?_
    clear h1 d0 d1 d2 d3
    rintro e w4 ⟨v4, rfl, row4, k4⟩
    obtain ⟨wi, hwi⟩ : ∃ wi, wi = beB 3 p.length ++ [tb, fb] ++ beB 4 sn ++ p := ⟨_, rfl⟩
    rw [← hwi] at row4
    have hwl : wi.length = 9 + p.length := by rw [hwi]; exact wire_len9 _ _ _ _
    have hwd : wi.drop 9 = p := by rw [hwi]; exact wire_drop _ _ _ _
    obtain ⟨A4, c4, rfl, l4, m4, rd4⟩ := row4.reads
    rw [encB_len, hwl] at row4 l4 rd4 ⊢
    have BF4 := BF.keep k4 (by simp)
    have K4 := Lib.hid (K3.out.trans k4)
    have HR4 := Lib.hid row4
    have HRD4 := Lib.hid rd4
    have HWI := Lib.hid (And.intro hwi (And.intro hwl hwd))
    have HL4 := Lib.hid (And.intro l4 m4)
    have HROW4 := Lib.hid (HROW.out.keep k4 (by simp))
    have HS4 := Lib.hid (show w3.heap.size ≤ w4.heap.size from k4.size)
    have E23 := Lib.hid e23
    clear row4 rd4 l4 m4 hwl hwd k4 BF HROW K3 HW3 e23
    go_wp2_with (fail)
    refine (head_wire w4 p tb fb sn (by have := HPL.out; omega) HPL.out.1 (A := A4) (c := c4) (by have := HRD4.out; rw [hwi] at this; exact this) HL4.out.1).mono ?_
    clear hwi
    rintro e w5 ⟨A5, c5, rfl, k5⟩
    have BF5 := BF4.keep k5 (by simp)
    have BH := Blk.new w5 24 #[.int .i64 tb.toNat, .int .i64 fb.toNat, .int .i64 sn, .slice A5 0 c5]
    obtain ⟨w6, hw6⟩ : ∃ w6, w6 = w5.alloc (.cells #[.int .i64 tb.toNat, .int .i64 fb.toNat, .int .i64 sn, .slice A5 0 c5] 24) := ⟨_, rfl⟩
    have k56 : Keep [] w5 w6 := by rw [hw6]; exact (Keep.refl _ _).alloc _
    have e56 : w6.heap.size = w5.heap.size + 1 := by rw [hw6]; simp
    have BF6 := BF5.keep k56 (by simp)
    rw [← hw6] at BH
    have k46 := k5.trans k56
    have K6 := Lib.hid (K4.out.trans k46)
    have HR6 := Lib.hid (HR4.out.keep k46 (by simp))
    have HROW6 := Lib.hid (HROW4.out.keep k46 (by simp))
    have HW6 := Lib.hid hw6
    have HS6 := Lib.hid (show w4.heap.size ≤ w5.heap.size ∧ w6.heap.size = w5.heap.size + 1 from ⟨k5.size, e56⟩)
    clear k5 k56 k46 hw6 BF4 BF5 K4 HR4 HRD4 HROW4 e56
    go_upto_region 7 with (fail)
    rw [← HW6.out]
    have HBF6 := Lib.hid BF6
    have d0 := BF6.cell 0
    have d1 := BF6.cell 1
    have d2 := BF6.cell 2
    have d3 := BF6.cell 3
    have g0 := BH.cell 0
    have g1 := BH.cell 1
    have g2 := BH.cell 2
    have g3 := BH.cell 3
    simp at d0 d1 d2 d3 g0 g1 g2 g3
    obtain ⟨m9, hm9⟩ : ∃ m9, m9 = 9 + p.length := ⟨_, rfl⟩
    rw [← hm9] at HR6 HL4 ⊢
    have ew : wrap64 (9 + (p.length : Int)) = (m9 : Int) := by have := HPL.out; unfold wrap64; omega
    have ne : ((m9 : Int) != (m9 : Int)) = false := by simp
    have HM9 := Lib.hid hm9
    clear hm9
    go_upto_region 9 with (fail)
    have hp1 : ((9 : Nat) : Int) ≤ (m9 : Int) := by have := HM9.out; omega
    have hp2 : ((9 : Nat) : Int) ≤ (c4 : Int) := by have := HL4.out; have := HM9.out; omega
    have hp3 : (m9 : Int) ≤ (c4 : Int) := by have := HL4.out; omega
    simp only [Int.cast_ofNat_Int] at hp1 hp2
    obtain ⟨A6, hA6⟩ : ∃ A6, (if c4 = 9 then A4 else A4.map (fun x : Addr => ({ block := x.block, off := x.off + 9 } : Addr))) = A6 := ⟨_, rfl⟩
    have ea : (fun x : Addr => x.add 9) = fun x : Addr => ({ block := x.block, off := x.off + 9 } : Addr) := by funext x; simp [Addr.add]
    have hm6 : m9 - 9 = p.length := by have := HM9.out; omega
    have hcut := HR6.out.cut 9 (by rw [encB_len, HWI.out.2.1]; omega) A4 m9 c4 rfl
    rw [ea, hA6, hm6, ← encB_drop, HWI.out.2.2] at hcut
    have HA6 := Lib.hid hA6
    have HM6 := Lib.hid hm6
    have h5 : w5.heap.size < w6.heap.size := BH.lt
    have hg3f := BH.frozen 3
    have BH7 := BH.set_ 3 (.slice A6 p.length (c4 - 9))
    simp only [List.setIfInBounds_toArray, List.set_cons_zero, List.set_cons_succ] at BH7
    have k67 : Keep [w5.heap.size] w6 (w6.setCell ⟨w5.heap.size, 3, none⟩ (.slice A6 p.length (c4 - 9))) := (Keep.refl _ _).setCell (p := ⟨w5.heap.size, 3, none⟩) (.inl (by simp)) _
    have nf : w2.heap.size ≠ w5.heap.size := by have := HS6.out; have := HS4.out; have := E23.out; omega
    have hs5 : w.heap.size ≤ w5.heap.size := by have := HS6.out; have := HS4.out; have := E23.out; have := HW1.out; omega
    have BF7 := HBF6.out.keep k67 (by simp; exact nf)
    have cut7 := hcut.keep k67 (fun g hg hm => row_off_blk hcut BH (by decide) (by rw [show g = w5.heap.size by simpa using hm] at hg; exact hg))
    have row7 := HROW6.out.keep k67 (fun g hg hm => row_off_blk HROW6.out BH (by decide) (by rw [show g = w5.heap.size by simpa using hm] at hg; exact hg))
    have K7 := Lib.hid (K6.out.step k67 (by simp; exact hs5))
    obtain ⟨w7, hw7⟩ : ∃ w7, w7 = w6.setCell ⟨w5.heap.size, 3, none⟩ (.slice A6 p.length (c4 - 9)) := ⟨_, rfl⟩
    rw [← hw7] at BH7 BF7 cut7 row7 K7
    have HW7 := Lib.hid hw7
    have HBF7 := Lib.hid BF7
    have HBH7 := Lib.hid BH7
    have HC7 := Lib.hid cut7
    have HROW7 := Lib.hid row7
    have HNF := Lib.hid (And.intro nf (And.intro hs5 h5))
    have e37 : w7.heap.size = w6.heap.size := by rw [hw7]; simp [World.setCell]
    have HS7 := Lib.hid e37
    clear ea hcut hA6 hm6 BF7 BH7 k67 nf hs5 cut7 row7 hw7 BF6 HR6 HROW6 HBF6 d0 d1 d2 d3 BH K6 e37 ne ew
    go_upto_region 10 with (fail)
    rw [HA6.out, HM6.out, ← HW7.out]
    clear g0 g1 g2 g3 hp1 hp2 hp3 hg3f
    have g0 := HBH7.out.cell 0
    have g1 := HBH7.out.cell 1
    have g2 := HBH7.out.cell 2
    have g3 := HBH7.out.cell 3
    simp at g0 g1 g2 g3
    obtain ⟨_, _, he, hl7, hm7, hrd7⟩ := HC7.out.reads
    rw [encB_len] at he hl7 hrd7
    injection he with he1 he2 he3
    clear he2
    rw [← he1] at hrd7
    rw [← he3] at hl7 hm7
    clear he1 he3
    have HRd := Lib.hid (read_all w7 tb.toNat fb sn hrd7 hl7 (by unfold maxLen at hm7; omega) (by have := HPL.out; omega))
    clear hrd7 hl7 hm7
    go_wp2_with (fail)
    refine HRd.out.mono ?_
    rintro e w8 ⟨hrr, k8⟩
    have hbp := back_pure tb.toNat fb sn b p HMK.out
    obtain ⟨⟨bd, code⟩, hrf⟩ : ∃ r, r = readF tb.toNat fb sn p := ⟨_, rfl⟩
    rw [← hrf] at hbp hrr
    obtain ⟨v0, v9, rfl, rw0, rw9⟩ := hrr
    obtain ⟨Ad, cd, rfl, ld, _, rdd⟩ := rw0.reads
    obtain ⟨As, cs, rfl, lss, rds⟩ := own_slice2 rw9
    simp only [encB_len] at rdd ld ⊢
    have HBP := Lib.hid hbp
    have HRF := Lib.hid hrf
    have HRD := Lib.hid (And.intro ld (And.intro lss (And.intro rdd rds)))
    unfold Bd.vals
    try simp only
    have BC := Blk.new w8 36 #[.slice Ad bd.data.length cd, .int .i64 bd.pad, .bool bd.prio, .bool bd.excl, .int .i64 bd.dep, .int .i64 bd.weight, .int .i64 bd.code, .int .i64 bd.last, .int .i64 bd.inc, .slice As bd.sets.length cs, .int .i64 bd.prom]
    obtain ⟨w9, hw9⟩ : ∃ w9, w9 = w8.alloc (.cells #[.slice Ad bd.data.length cd, .int .i64 bd.pad, .bool bd.prio, .bool bd.excl, .int .i64 bd.dep, .int .i64 bd.weight, .int .i64 bd.code, .int .i64 bd.last, .int .i64 bd.inc, .slice As bd.sets.length cs, .int .i64 bd.prom] 36) := ⟨_, rfl⟩
    have k89 : Keep [] w8 w9 := by rw [hw9]; exact (Keep.refl _ _).alloc _
    rw [← hw9] at BC
    have K9 := Lib.hid (K7.out.trans (k8.trans k89))
    have HBC := Lib.hid BC
    have HBF9 := Lib.hid (HBF7.out.keep (k8.trans k89) (by simp))
    have HROW9 := Lib.hid (HROW7.out.keep (k8.trans k89) (by simp))
    have HK89 := Lib.hid k89
    have HW9 := Lib.hid hw9
    clear g0 g1 g2 g3 HRd hrf hbp rw0 rw9 rdd rds ld lss BC hw9 k8 k89 HBF7 HBH7 HROW7 HC7 HW7
    go_upto_region 11 with (fail)
    rw [← HW9.out]
    have d0 := HBC.out.cell 0
    have d1 := HBC.out.cell 1
    have d2 := HBC.out.cell 2
    have d3 := HBC.out.cell 3
    have d4 := HBC.out.cell 4
    have d5 := HBC.out.cell 5
    have d6 := HBC.out.cell 6
    have d7 := HBC.out.cell 7
    have d8 := HBC.out.cell 8
    have d9 := HBC.out.cell 9
    have d10 := HBC.out.cell 10
    simp at d0 d1 d2 d3 d4 d5 d6 d7 d8 d9 d10
    by_cases hcode : code = 0
    · subst hcode
      obtain ⟨hmk2, hwt⟩ : MkOk tb.toNat fb.toNat sn bd p ∧ (bd.prio = true → bd.weight ≠ 0) := by
        rcases HBP.out with ⟨h, _⟩ | ⟨_, h⟩
        · exact absurd rfl h
        · exact h
      have HM2 := Lib.hid hmk2
      have hlen := back_len tb.toNat fb sn p (N := 1099511627776) (by have := HPL.out; omega)
      rw [← HRF.out] at hlen
      have HMk2 := Lib.hid (make_ w9 tb.toNat fb.toNat sn bd (c0 := cd) (c9 := cs) (HRD.out.2.2.1.keeps HK89.out (Nat.le_refl _) (by simp)) (HRD.out.2.2.2.keeps HK89.out (Nat.le_refl _) (by simp)) HRD.out.1 HRD.out.2.1 hlen.1 hlen.2)
      unfold Bd.vals at HMk2
      clear hmk2 hlen HBP HRF
      go_upto_region 13 with (fail)
      go_cut [115] from 105 to 115 (fun v115 wx => v115 = .bool false ∧ wx = w9)
      case first =>
        by_cases hpr : bd.prio = true
        · rw [hpr] at d2
          have hw0 : (bd.weight == 0) = false := by rw [beq_eq_false_iff_ne]; exact hwt hpr
          by_cases ht : (tb.toNat : Int) = 1
          · have ht1 : ((tb.toNat : Int) == 1) = true := by rw [beq_iff_eq]; exact ht
            clear ht hpr hwt
            go_wp2_with (fail)
            go_meet
            case rel => exact ⟨rfl, rfl⟩
          · have ht1 : ((tb.toNat : Int) == 1) = false := by rw [beq_eq_false_iff_ne]; exact ht
            clear ht hpr hwt
            go_wp2_with (fail)
            go_meet
            case rel => exact ⟨rfl, rfl⟩
        · have hpr2 : bd.prio = false := by simpa using hpr
          rw [hpr2] at d2
          clear hpr hpr2 hwt
          go_wp2_with (fail)
          go_meet
          case rel => exact ⟨rfl, rfl⟩
      case rest =>
        obtain ⟨rfl, rfl⟩ := hcut
        clear hwt
        go_wp2_with (fail)
        refine HMk2.out.mono ?_
        rintro e w10 ⟨hm2 | hm2, k10⟩
        rotate_left
        · exact absurd HM2.out (hm2.1 p)
        obtain ⟨p2, hp2, Am, cm, rfl, rowm⟩ := hm2
        obtain rfl := mk_uniq HM2.out hp2
        have BM := Blk.new w10 24 #[.int .i64 tb.toNat, .int .i64 fb.toNat, .int .i64 sn, .slice Am p.length cm]
        obtain ⟨w11, hw11⟩ : ∃ w11, w11 = w10.alloc (.cells #[.int .i64 tb.toNat, .int .i64 fb.toNat, .int .i64 sn, .slice Am p.length cm] 24) := ⟨_, rfl⟩
        have k1011 : Keep [] w10 w11 := by rw [hw11]; exact (Keep.refl _ _).alloc _
        rw [← hw11] at BM
        have K11 := Lib.hid (K9.out.trans (k10.trans k1011))
        have BF11 := HBF9.out.keep (k10.trans k1011) (by simp)
        have row11 := HROW9.out.keep (k10.trans k1011) (by simp)
        have rowm11 := rowm.keep k1011 (by simp)
        obtain ⟨_, _, he, hl1, _, hrd1⟩ := row11.reads
        rw [encB_len] at he hl1 hrd1
        injection he with he1 he2 he3
        clear he2
        rw [← he1] at hrd1
        rw [← he3] at hl1
        clear he1 he3
        obtain ⟨_, _, he, hl2, _, hrd2⟩ := rowm11.reads
        rw [encB_len] at he hl2 hrd2
        injection he with he1 he2 he3
        clear he2
        rw [← he1] at hrd2
        rw [← he3] at hl2
        clear he1 he3
        have HEQ := Lib.hid (eq_same w11 tb.toNat fb.toNat sn p hrd2 hrd1 hl2 hl1 HPL.out.1)
        have f0 := BF11.cell 0
        have f1 := BF11.cell 1
        have f2 := BF11.cell 2
        have f3 := BF11.cell 3
        have g0 := BM.cell 0
        have g1 := BM.cell 1
        have g2 := BM.cell 2
        have g3 := BM.cell 3
        simp at f0 f1 f2 f3 g0 g1 g2 g3
        have HW11 := Lib.hid hw11
        clear hw11 hrd1 hrd2 hl1 hl2 rowm11 row11 BF11 BM k1011 k10 rowm hp2 d0 d1 d2 d3 d4 d5 d6 d7 d8 d9 d10 HMk2
        go_upto_region 16 with (fail)
        rw [← HW11.out]
        go_wp2_with (fail)
        refine HEQ.out.mono ?_
        rintro e w12 ⟨rfl, k12⟩
        have K12 := Lib.hid (K11.out.trans k12)
        clear k12
        go_wp2_with (fail)
        go_ret
        exact ⟨by simp, K12.out.below (Nat.le_refl _) (by simp)⟩
    · have hc2 : (code != 0) = true := by simpa using hcode
      obtain ⟨_, hb0⟩ : code ≠ 0 ∧ bd = bd0 := by
        rcases HBP.out with h | ⟨h, _⟩
        · exact h
        · exact absurd h hcode
      have hi0 : bd.inc = 0 := by rw [hb0]; rfl
      have hd0 : bd.data.length = 0 := by rw [hb0]; rfl
      rw [hi0] at d8
      rw [hd0] at d0
      clear hb0 hi0 hd0 hcode
      go_wp2_with (fail)
      go_ret
      exact ⟨by simp, K9.out.below (Nat.le_refl _) (by simp)⟩
end Go.Proofs.Ytbngoaonkhcciaa
/-! #### BodyV -/
set_option linter.all false
namespace Go.Proofs.Ytbngoaonkhcciaa
open Go.ChangeShapes Go.WideShapes Go.ChangeAt Go.RowKit Go.Deep
theorem bdV_of {H : Type} {enc : TypeId × Value → H} {w : World} {base : Nat} {r : _} {b2 : Nat} {held : Bool} {v : Value} {d : DataW H} {p : List MemPlace} {N : Nat} (hok : Value.okWide Try.prog w r b2 36 v) (h : DataW.Trod enc Try.prog w base (fun _ => true) held 36 v d p) (hb : Rows.uptoBulk d ≤ N) : BdV N w v := by
  obtain ⟨cs, rfl, hs⟩ := okWide_struct Try.underlying36 hok
  obtain ⟨m, hm⟩ := h
  have h11 : Try.prog.cellsOf 36 = 11 := by kernel_rfl
  have e1 : Try.prog.cellsOf 3 = 1 := by kernel_rfl
  have e2 : Try.prog.cellsOf 2 = 1 := by kernel_rfl
  have e3 : Try.prog.cellsOf 4 = 1 := by kernel_rfl
  have e4 : Try.prog.cellsOf 22 = 1 := by kernel_rfl
  have e5 : Try.prog.cellsOf 34 = 1 := by kernel_rfl
  rw [h11] at hs
  obtain ⟨c0, c1, c2, c3, c4, c5, c6, c7, c8, c9, c10, rfl⟩ : ∃ c0 c1 c2 c3 c4 c5 c6 c7 c8 c9 c10, cs = #[c0, c1, c2, c3, c4, c5, c6, c7, c8, c9, c10] := by
    obtain ⟨l⟩ := cs
    match l, hs with
    | [c0, c1, c2, c3, c4, c5, c6, c7, c8, c9, c10], _ => exact ⟨c0, c1, c2, c3, c4, c5, c6, c7, c8, c9, c10, rfl⟩
  obtain ⟨ys, n', hn', hy, hlen, hyl, hf⟩ := DataW.trod_struct Try.underlying36 hm
  have hbig : ∀ y ∈ ys, Rows.uptoBulk y.1 ≤ N := fun y hyy => by
    have hy1 := congrArg Prod.fst hy
    simp only at hy1
    rw [hy1] at hb
    simp only [Rows.uptoBulk] at hb
    have := bulk_part (List.mem_map.2 ⟨y, hyy, rfl⟩ : y.1 ∈ ys.map (·.1))
    omega
  have q : ∀ j, j < 11 → ∃ y, ys[j]? = some y := fun j hj => ⟨ys[j]'(by rw [hyl]; exact hj), List.getElem?_eq_getElem _⟩
  have g0 := hf 0 _ rfl
  have g1 := hf 1 _ rfl
  have g2 := hf 2 _ rfl
  have g3 := hf 3 _ rfl
  have g4 := hf 4 _ rfl
  have g5 := hf 5 _ rfl
  have g6 := hf 6 _ rfl
  have g7 := hf 7 _ rfl
  have g8 := hf 8 _ rfl
  have g9 := hf 9 _ rfl
  have g10 := hf 10 _ rfl
  obtain ⟨y0, hy0⟩ := q 0 (by omega)
  rw [hy0] at g0
  obtain ⟨y1, hy1⟩ := q 1 (by omega)
  rw [hy1] at g1
  obtain ⟨y2, hy2⟩ := q 2 (by omega)
  rw [hy2] at g2
  obtain ⟨y3, hy3⟩ := q 3 (by omega)
  rw [hy3] at g3
  obtain ⟨y4, hy4⟩ := q 4 (by omega)
  rw [hy4] at g4
  obtain ⟨y5, hy5⟩ := q 5 (by omega)
  rw [hy5] at g5
  obtain ⟨y6, hy6⟩ := q 6 (by omega)
  rw [hy6] at g6
  obtain ⟨y7, hy7⟩ := q 7 (by omega)
  rw [hy7] at g7
  obtain ⟨y8, hy8⟩ := q 8 (by omega)
  rw [hy8] at g8
  obtain ⟨y9, hy9⟩ := q 9 (by omega)
  rw [hy9] at g9
  obtain ⟨y10, hy10⟩ := q 10 (by omega)
  rw [hy10] at g10
  simp only [e1, e2, e3, e4, e5, Value.cells, List.drop_zero, List.drop_succ_cons, List.take_succ_cons, List.take_zero] at g0 g1 g2 g3 g4 g5 g6 g7 g8 g9 g10
  obtain ⟨pad, rfl, _⟩ := isInt_of Try.underlying3 g1
  obtain ⟨prio, rfl⟩ := isBool_of Try.underlying4 g2
  obtain ⟨excl, rfl⟩ := isBool_of Try.underlying4 g3
  obtain ⟨dep, rfl, _⟩ := isInt_of Try.underlying3 g4
  obtain ⟨weight, rfl, _⟩ := isInt_of Try.underlying3 g5
  obtain ⟨code, rfl, _⟩ := isInt_of Try.underlying2 g6
  obtain ⟨last, rfl, _⟩ := isInt_of Try.underlying3 g7
  obtain ⟨inc, rfl, _⟩ := isInt_of Try.underlying2 g8
  obtain ⟨prom, rfl, _⟩ := isInt_of Try.underlying3 g10
  have b0 := hbig y0 (List.mem_of_getElem? hy0)
  have b9 := hbig y9 (List.mem_of_getElem? hy9)
  obtain ⟨A0, n0, c0', data, rfl, h1, h2, h3, h4⟩ := reads_of_sl (sl_plain Try.underlying22 (by kernel_rfl) (fun n u y h => isInt_of Try.underlying5 h) g0)
  obtain ⟨A9, n9, c9', sets, rfl, h5, h6, h7, _, h8⟩ := sets_of_sl (sl_struct Try.underlying34 Try.underlying44 (by kernel_rfl) (by kernel_rfl) (by decide) (fun j f hf n u y h => match j, hf with | 0, hf => (by obtain rfl := Option.some.inj hf; exact isInt_of Try.underlying3 h) | 1, hf => (by obtain rfl := Option.some.inj hf; exact isInt_of Try.underlying2 h)) g9)
  have l0 := len_bulk Try.underlying22 g0 b0 _ _ _ rfl
  have l9 := len_bulk Try.underlying34 g9 b9 _ _ _ rfl
  subst h3 h7
  exact ⟨⟨data, pad, prio, excl, dep, weight, code, last, inc, sets, prom⟩, A0, A9, c0', c9', rfl, l0, l9, h1, h5, h2, h6, h4, h8⟩
end Go.Proofs.Ytbngoaonkhcciaa
