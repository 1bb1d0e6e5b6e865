/- frame: Settings: the walk of its function as a range over a function. -/
import Derived.Test.YtbngoaonkhcciaaRead
import Derived.Maps.OwnIn
import Derived.Maps.Views
set_option linter.all false
namespace Go.Proofs.Ytbngoaonkhcciaa
open Go.ChangeShapes Go.WideShapes Go.ChangeAt Go.RowKit
attribute [local go_sem] setCell_drewN alloc_drewN Oper.semAt_some
theorem wpIn_scope {n : Nat} {P : Program} {c : Code} {Q : Exit → Act → World → Prop} {a : Act} {w : World} (h : c.wpIn Fence.wide n P (Exit.noGoto Q) a w) : (Code.scope c).wpIn Fence.wide n P Q a w := wpIn_wide.2 (wp_scope_straight (wpIn_wide.1 h))
/-- the last place, of the first i, at which k stands; 0: none -/
def lastTo (ss : List (Int × Int)) : Nat → Int → Nat
  | 0, _ => 0
  | i + 1, k => if (ss.getD i (0, 0)).1 = k then i else lastTo ss i k
theorem lastTo_le (ss : List (Int × Int)) : ∀ i k, lastTo ss i k ≤ i
  | 0, _ => Nat.le_refl _
  | i + 1, k => by
    unfold lastTo
    split
    · omega
    · have := lastTo_le ss i k; omega
/-- the map of the last places -/
def MapIs (w : World) (mb n : Nat) (ss : List (Int × Int)) : Prop :=
  ∃ D : DataW Unit, w.ownsMap Try.prog 3 (plainElem Try.prog 3) mb n D ∧ Maps.IsMap D ∧ ∀ k, (Lit.int .i64 k).wf = true → D.atKey (.int .i64 k) (.lit (.int .i64 0)) = .lit (.int .i64 (lastTo ss n k : Nat))
theorem MapIs.same {w w' : World} {mb n : Nat} {ss : List (Int × Int)} (h : MapIs w mb n ss) (he : w'.heap[mb]? = w.heap[mb]?) : MapIs w' mb n ss := by
  obtain ⟨D, ⟨es, clock, hb, r⟩, h2⟩ := h
  exact ⟨D, ⟨es, clock, he.trans hb, r⟩, h2⟩
theorem MapIs.lt {w : World} {mb n : Nat} {ss : List (Int × Int)} (h : MapIs w mb n ss) : mb < w.heap.size := by
  obtain ⟨D, ho, _⟩ := h
  exact ho.lt
theorem MapIs.empty (w : World) (ss : List (Int × Int)) : MapIs (w.alloc (.map #[] 0)) w.heap.size 0 ss :=
  ⟨.map [], World.ownsMap_made w _ _ _, Maps.isMap_empty, fun k _ => rfl⟩
theorem zero_int (w : World) : (zeroValue 3).run Try.prog w = .ok (.int .i64 0) w := by
  obtain ⟨i, hi⟩ : ∃ i, Try.prog.info? 3 = some i := Option.isSome_iff_exists.1 (by kernel_rfl)
  have h : (Try.prog.info? 3).bind (·.zero) = some (.int .i64 0) := by kernel_rfl
  rw [hi] at h
  simp at h
  simp [zeroValue, typeInfo, hi, h, Sem.run_bind]
theorem kInt : Maps.Keyed Try.prog 3 := Maps.int_keyed (q := .i64) Try.underlying3
theorem MapIs.step {w : World} {mb n : Nat} {ss : List (Int × Int)} (h : MapIs w mb n ss) (hn : n < maxLen) (k : Int) (hk : (Lit.int .i64 k).wf = true) (hw : (Lit.int .i64 (n : Int)).wf = true) (hs : (ss.getD n (0, 0)).1 = k) :
    ∃ w', (Instr.mapUpdate 67 (.map (some mb)) (.int .i64 k) (.int .i64 n)).run Try.prog w = .ok () w' ∧ MapIs w' mb (n + 1) ss ∧ Keep [mb] w w' := by
  obtain ⟨D, ho, hm, ha⟩ := h
  have hkey : keyOf Try.prog 3 (.int .i64 k) = some (.int .i64 k) := Maps.keyOf_int_mk Try.underlying3 hk
  obtain ⟨w', hr, h1, h2⟩ := ho.update kInt Try.underlying67 hn hkey (plainElem_int Try.underlying3 hw)
  refine ⟨w', hr, ⟨_, h1, hm.put _ _, fun k' hk' => ?_⟩, Keep.of_only h2⟩
  unfold lastTo
  rw [hs]
  by_cases e : k = k'
  · subst e
    rw [if_pos rfl, Maps.atKey_put_same hm (by exact trivial)]
  · rw [if_neg e, Maps.atKey_put_other (by intro h; injection h with _ h; exact e h.symm), ha k' hk']
theorem MapIs.look {w : World} {mb n : Nat} {ss : List (Int × Int)} (h : MapIs w mb n ss) (k : Int) (hk : (Lit.int .i64 k).wf = true) : (Instr.lookup 67 (.map (some mb)) (.int .i64 k) false).run Try.prog w = .ok (.int .i64 (lastTo ss n k : Nat)) w := by
  obtain ⟨D, ho, hm, ha⟩ := h
  have hkey : keyOf Try.prog 3 (.int .i64 k) = some (.int .i64 k) := Maps.keyOf_int_mk Try.underlying3 hk
  obtain ⟨c, hr, h1, _⟩ := ho.lookup_int kInt Try.underlying67 Try.underlying3 (zero_int w) hkey
  rw [ha k hk] at h1
  injection h1 with h1
  injection h1 with _ h1
  rw [hr, h1]
/-- what the walk asks of a world: the slice's cell and its settings -/
structure SF (s : Nat) (W : World) (c1 : Nat) (A : Option Addr) (n c : Nat) (ss : List (Int × Int)) : Prop where
  b1 : Blk W c1 34 #[.slice A n c]
  rd : Reads W s 2 A n (encS ss)
  sz : s ≤ W.heap.size
theorem SF.keep {s c1 n c : Nat} {A : Option Addr} {ss : List (Int × Int)} {W W' : World} {gs : List Nat} (h : SF s W c1 A n c ss) (k : Keep gs W W') (hg : c1 ∉ gs) (hA : 0 < n → ∀ ad, A = some ad → ad.block ∉ gs) : SF s W' c1 A n c ss :=
  ⟨h.b1.keep k hg, h.rd.kept k h.sz hA, by have := h.sz; have := k.size; omega⟩
theorem encS_at {ss : List (Int × Int)} {i : Nat} (h : i < ss.length) : (encS ss)[i * 2]? = some (.int .i64 (ss.getD i (0, 0)).1) ∧ (encS ss)[i * 2 + 1]? = some (.int .i64 (ss.getD i (0, 0)).2) := by
  induction ss generalizing i with
  | nil => simp at h
  | cons a ss ih =>
    cases i with
    | zero => exact ⟨rfl, rfl⟩
    | succ i =>
      have := ih (i := i) (by simpa using h)
      have e1 : (i + 1) * 2 = i * 2 + 1 + 1 := by omega
      have e2 : encS (a :: ss) = [.int .i64 a.1, .int .i64 a.2] ++ encS ss := by simp [encS]
      rw [e1, e2]
      constructor
      · rw [List.getElem?_append_right (by simp)]
        simpa using this.1
      · rw [List.getElem?_append_right (by simp)]
        simpa using this.2
set_option maxRecDepth 100000 in
set_option maxHeartbeats 4000000 in
theorem setIt {m l s c1 : Nat} {A : Option Addr} {n c : Nat} {ss : List (Int × Int)} (hn : ss.length = n) (hnc : n ≤ c) (hcm : c ≤ 9223372036854775807) (hwf : ∀ p ∈ ss, (Lit.int .i64 p.1).wf = true)
    (J : Nat → World → Prop) (K : World → Prop) (hJ : ∀ j W, J j W → SF s W c1 A n c ss) (W0 : World)
    (hst : ∀ j W W', J j W → Keep [W0.heap.size] W W' → J j W')
    (hskip : ∀ j W, J j W → j < n → ¬ lastTo ss n (ss.getD j (0, 0)).1 = j → J (j + 1) W)
    (hround : ∀ j W, J j W → j < n → lastTo ss n (ss.getD j (0, 0)).1 = j → W0.heap.size < W.heap.size →
      YieldAt Fence.wide m Try.prog l #[.int .i64 j, .agg #[.int .i64 (ss.getD j (0, 0)).1, .int .i64 (ss.getD j (0, 0)).2]] W fun e W' => W'.heap[W0.heap.size]? = W.heap[W0.heap.size]? ∧ ((e = .returned (.bool true) ∧ J (j + 1) W') ∨ (e = .returned (.bool false) ∧ K W')))
    (h1 : c1 < W0.heap.size) (hs : s ≤ W0.heap.size) (h0 : J 0 W0) :
    CallsIn Fence.wide (m + 1) Try.prog 37 #[.func (.yield l) #[] #[], .pointer (some ⟨c1, 0, none⟩)] W0 fun e W' => (∃ v, e = .returned v) ∧ (J n W' ∨ K W') := by
  have cf0 := hJ _ _ h0
  have p1 := cf0.b1.cell 0
  simp at p1
  have Hst := Lib.hid hst
  have HR := Lib.hid hround
  have HSK := Lib.hid hskip
  have HJ := Lib.hid hJ
  have HW := Lib.hid hwf
  clear hst hround hskip hJ hwf
  refine callsIn_of_wp Try.func37 rfl trivial ?_ rfl
  simp only [Try.ntmps37, List.size_toArray, List.length_cons, List.length_nil, Nat.reduceAdd, Nat.reduceSub, Array.replicate_succ, Array.replicate_zero, List.push_toArray, List.append_toArray, List.nil_append, List.cons_append]
  have hmk : (Instr.makeMap 67 none).run Try.prog W0 = .ok (.map (some W0.heap.size)) (W0.alloc (.map #[] 0)) := rfl
  have M0 := MapIs.empty W0 ss
  gi_wp2
  have JL := Hst.out _ _ _ h0 (((Keep.refl [] W0).alloc (.map #[] 0)).more (by simp))
  obtain ⟨W1, hW1⟩ : ∃ W1, W1 = W0.alloc (.map #[] 0) := ⟨_, rfl⟩
  have s1 : W1.heap.size = W0.heap.size + 1 := by rw [hW1]; simp
  rw [← hW1] at M0 JL ⊢
  clear hW1 hmk p1 cf0 h0
  obtain ⟨mb, hmb⟩ : ∃ mb, mb = W0.heap.size := ⟨_, rfl⟩
  rw [← hmb] at M0 HR Hst h1 hs s1 ⊢
  clear hmb
  gi_loopw [11] (fun vi wr => ∃ i : Nat, vi = .int .i64 i ∧ i ≤ n ∧ MapIs wr mb i ss ∧ J 0 wr ∧ mb < wr.heap.size) (fun vi _ => n - (intOf vi).toNat)
  case atStart => exact ⟨0, rfl, by omega, M0, JL, by omega⟩
  case round =>
    obtain ⟨i, rfl, hi, hm, hj, hlt⟩ := hrel
    have cf := HJ.out _ _ hj
    by_cases hin : i < n
    · have k1 : (i : Int) < (n : Int) := by omega
      have hit : i < ss.length := by omega
      obtain ⟨q1, q2⟩ := encS_at hit
      obtain ⟨b2, o2, rfl, hbl, hcell⟩ := cf.rd.plain (by omega) (by omega)
      have hwf := HW.out _ (by
        have : ss.getD i (0, 0) = ss[i] := by rw [List.getD_eq_getElem?_getD, List.getElem?_eq_getElem hit]; rfl
        rw [this]
        exact List.getElem_mem hit : ss.getD i (0, 0) ∈ ss)
      obtain ⟨⟨id, vv⟩, hp⟩ : ∃ p, ss.getD i (0, 0) = p := ⟨_, rfl⟩
      rw [hp] at q1 q2 hwf
      have c0 := hcell _ _ q1
      have c1' := hcell _ _ q2
      rw [← Nat.add_assoc] at c1'
      clear q1 q2 hcell hit
      have HP := Lib.hid hp
      have HWF := Lib.hid hwf
      clear hp hwf
      obtain ⟨w', hup, hm', kk⟩ := (hm.same (Below.heap_alloc wr (.cells #[.int .i64 id, .int .i64 vv] 44) mb hlt)).step (by unfold maxLen; omega) id HWF.out (by simp [Lit.wf, IntKind.min, IntKind.max, IntKind.signed, IntKind.bits]; omega) (by rw [HP.out])
      have JW := Hst.out _ _ _ hj ((((Keep.refl [mb] wr).alloc (.cells #[.int .i64 id, .int .i64 vv] 44))).trans kk)
      have zk := kk.size
      simp at zk
      have HM := Lib.hid hm'
      clear hm' kk
      gi_wp2
      exact ⟨⟨i + 1, by go_num, by omega, HM.out, JW, by omega⟩, by simp [intOf]; omega⟩
    · have k1 : ¬ (i : Int) < (n : Int) := by omega
      obtain rfl : i = n := by omega
      have p1 := cf.b1.cell 0
      simp at p1
      clear cf
      gi_wp2
      clear M0 JL W1 s1 p1 k1 hin
      gi_loopw [23] (fun vi wr => ∃ j : Nat, vi = .int .i64 j ∧ j ≤ i ∧ MapIs wr mb i ss ∧ J j wr ∧ mb < wr.heap.size) (fun vi _ => i - (intOf vi).toNat)
      case atStart => exact ⟨0, rfl, by omega, hm, hj, hlt⟩
      case round =>
        obtain ⟨j, rfl, hji, hm, hj, hlt⟩ := hrel
        have cf := HJ.out _ _ hj
        by_cases hjn : j < i
        · have k1 : (j : Int) < (i : Int) := by omega
          have hit : j < ss.length := by omega
          obtain ⟨q1, q2⟩ := encS_at hit
          obtain ⟨b2, o2, rfl, hbl, hcell⟩ := cf.rd.plain (by omega) (by omega)
          have hwf := HW.out _ (by
            have : ss.getD j (0, 0) = ss[j] := by rw [List.getD_eq_getElem?_getD, List.getElem?_eq_getElem hit]; rfl
            rw [this]
            exact List.getElem_mem hit : ss.getD j (0, 0) ∈ ss)
          have hRd := fun W => HR.out j W
          have hSk := fun W => HSK.out j W
          obtain ⟨⟨id, vv⟩, hp⟩ : ∃ p, ss.getD j (0, 0) = p := ⟨_, rfl⟩
          rw [hp] at q1 q2 hwf hRd hSk
          have c0 := hcell _ _ q1
          have c1' := hcell _ _ q2
          rw [← Nat.add_assoc] at c1'
          have hlk := (hm.same (Below.heap_alloc wr (.cells #[.int .i64 id, .int .i64 vv] 44) mb hlt)).look id hwf
          have JA := Hst.out _ _ _ hj ((Keep.refl [mb] wr).alloc (.cells #[.int .i64 id, .int .i64 vv] 44))
          have MA := hm.same (Below.heap_alloc wr (.cells #[.int .i64 id, .int .i64 vv] 44) mb hlt)
          clear q1 q2 hcell hit hp hwf hm hj
          by_cases hl : lastTo ss i id = j
          · rw [hl] at hlk
            have hY := hRd _ JA hjn hl (by simp; omega)
            obtain ⟨fY, tY, aY, bY, hy, hR⟩ := hY
            have HMA := Lib.hid MA
            clear hRd hSk JA hl MA
            gi_wp2
            refine hR.mono ?_
            rintro e W' ⟨hfk, (⟨rfl, hj'⟩ | ⟨rfl, hk'⟩)⟩
            · have HMW := Lib.hid (HMA.out.same hfk)
              clear hfk
              gi_wp2
              exact ⟨⟨j + 1, by go_num, by omega, HMW.out, hj', HMW.out.lt⟩, by simp [intOf]; omega⟩
            · gi_wp2
              refine bodyPost_ret (results_none rfl _ _ _) rfl ?_
              exact ⟨⟨_, rfl⟩, .inr hk'⟩
          · have JN := Lib.hid (hSk _ JA hjn hl)
            obtain ⟨L, hL⟩ : ∃ L, L = lastTo ss i id := ⟨_, rfl⟩
            rw [← hL] at hlk hl
            have k2 : ((L : Int) == (j : Int)) = false := by rw [beq_eq_false_iff_ne]; omega
            have HMA := Lib.hid MA
            clear hRd hSk JA hl hL MA
            gi_wp2
            refine ⟨fun f hf => (by cases hf), ?_⟩
            go_at_K
            gi_wp2
            exact ⟨⟨j + 1, by go_num, by omega, HMA.out, JN.out, by simp; omega⟩, by simp [intOf]; omega⟩
        · have k1 : ¬ (j : Int) < (i : Int) := by omega
          obtain rfl : j = i := by omega
          clear cf
          gi_wp2
          refine bodyPost_end (results_none rfl _ _ _) rfl ?_
          exact ⟨⟨_, rfl⟩, .inl hj⟩
end Go.Proofs.Ytbngoaonkhcciaa
