/- frame: FrameSettings. -/
import Derived.Test.YtbngoaonkhcciaaBegun
import Derived.Test.YtbngoaonkhcciaaPureS
import Derived.Deep.DeepCutAuto
import Derived.Deep.CutBlock
set_option linter.all false
namespace Go.Proofs.Ytbngoaonkhcciaa
open Go.ChangeShapes Go.WideShapes Go.ChangeAt Go.RowKit Go.Proofs.YtbngoaonkhcciaaW.PrintWords
attribute [local go_sem] setCell_drewN alloc_drewN Oper.semAt_some
theorem res_cell_bool {fn : Func} {p : Tmp} (h : fn.results = #[.cell p 4]) (tmps : Array Value) (w : World) (g : Nat) (b : Bool) (hp : tmps.getD p undef = .pointer (some ⟨g, 0, none⟩)) (hc : w.cell? ⟨g, 0, none⟩ = some (.bool b)) : (results fn tmps).run Try.prog w = .ok (.bool b) w := by
  have hp' : tmps[p]?.getD undef = .pointer (some ⟨g, 0, none⟩) := by simpa using hp
  have hu := Try.underlying4
  simp [results, h, hp', asAddr, go_sem, hc]
theorem sets_of_sl {w : World} {v : Value} (h : Sl w 2 (fun _ => IsInt .i64) v) : ∃ (A : Option Addr) (n c : Nat) (ss : List (Int × Int)), v = .slice A n c ∧ n ≤ c ∧ c ≤ maxLen ∧ ss.length = n ∧ (∀ p ∈ ss, (Lit.int .i64 p.1).wf = true) ∧ Reads w w.heap.size 2 A n (encS ss) := by
  obtain ⟨A, len, cap, rfl, hl, hm, h⟩ := h
  rcases h with h0 | ⟨b, off, rfl, hb, hc⟩
  · have : len = 0 := by omega
    subst this
    exact ⟨A, 0, cap, [], rfl, hl, hm, rfl, by simp, by simp [encS], fun h => absurd h (by omega)⟩
  · have hx : ∀ i, ∃ p : Int × Int, (Lit.int .i64 p.1).wf = true ∧ (i < cap → w.cell? ⟨b, off + i * 2, none⟩ = some (.int .i64 p.1) ∧ w.cell? ⟨b, off + i * 2 + 1, none⟩ = some (.int .i64 p.2)) := by
      intro i
      by_cases hi : i < cap
      · obtain ⟨u, hu, n, rfl, hw⟩ := hc i hi 0 (by omega)
        obtain ⟨u2, hu2, n2, rfl, hw2⟩ := hc i hi 1 (by omega)
        exact ⟨(n, n2), hw, fun _ => ⟨hu, hu2⟩⟩
      · exact ⟨(0, 0), by decide, fun h => absurd h hi⟩
    obtain ⟨f, hf⟩ := Classical.axiomOfChoice hx
    refine ⟨_, len, cap, (List.range len).map f, rfl, hl, hm, by simp, fun p hp => (by obtain ⟨i, _, rfl⟩ := List.mem_map.1 hp; exact (hf i).1), by rw [encS_len]; simp, fun _ => ⟨_, rfl, hb, fun j u hu => ?_⟩⟩
    have hj : j < ((List.range len).map f).length * 2 := by
      rw [← encS_len]
      exact (List.getElem?_eq_some_iff.1 hu).1
    have hj2 : j / 2 < len := by simp at hj; omega
    have hj3 : j / 2 < ((List.range len).map f).length := by simp; exact hj2
    obtain ⟨q1, q2⟩ := encS_at hj3
    have hg : ((List.range len).map f).getD (j / 2) (0, 0) = f (j / 2) := by simp [List.getD_eq_getElem?_getD, List.getElem?_range hj2]
    rw [hg] at q1 q2
    obtain ⟨e1, e2⟩ := (hf (j / 2)).2 (by omega)
    have ea : (⟨b, off, none⟩ : Addr).add j = ⟨b, off + j, none⟩ := by unfold Addr.add; split <;> simp_all
    rw [ea]
    rcases Nat.mod_two_eq_zero_or_one j with h2 | h2
    · have ej : j / 2 * 2 = j := by omega
      rw [ej] at q1 e1
      rw [q1] at hu
      rw [e1, ← hu]
    · have ej : j / 2 * 2 + 1 = j := by omega
      rw [ej] at q2
      rw [Nat.add_assoc, ej] at e2
      rw [q2] at hu
      rw [e2, ← hu]
theorem encS_take (ss : List (Int × Int)) : ∀ n, encS (ss.take n) = (encS ss).take (n * 2) := by
  induction ss with
  | nil => intro n; simp [encS]
  | cons a ss ih =>
    intro n
    cases n with
    | zero => simp [encS]
    | succ n =>
      have := ih n
      have e2 : ∀ l, encS (a :: l) = .int .i64 a.1 :: .int .i64 a.2 :: encS l := fun l => by simp [encS]
      rw [List.take_succ_cons, e2, e2, this, show (n + 1) * 2 = n * 2 + 1 + 1 by omega, List.take_succ_cons, List.take_succ_cons]
theorem C_sets {w : World} {A : Option Addr} {B n : Nat} {ss : List (Int × Int)} (h : Reads w B 2 A n (encS ss)) (hn : n ≤ 1000) : Kd.C PSt.k44 w A (s44 ss).length (s44 ss) := by
  have hl : ss.length = n := by have := h.1; rw [encS_len] at this; omega
  refine ⟨rfl, by rw [s44_len]; omega, fun h0 => ?_⟩
  rw [s44_len] at h0
  obtain ⟨ad, e, _, hc⟩ := h.2 (by omega)
  refine ⟨ad, e, fun j p hp => ⟨[.int .i64 p.f0, .int .i64 p.f1], rfl, PSt.k44_mk w p, fun i u hu => ?_⟩⟩
  have hj : j < ss.length := by have := (List.getElem?_eq_some_iff.1 hp).1; rwa [s44_len] at this
  obtain ⟨q1, q2⟩ := encS_at hj
  have hpe : p = ⟨(ss.getD j (0, 0)).1, (ss.getD j (0, 0)).2⟩ := by
    simp [s44, List.getElem?_eq_getElem hj] at hp
    rw [← hp]
    simp [List.getD_eq_getElem?_getD, List.getElem?_eq_getElem hj]
  subst hpe
  show w.cell? (ad.add (j * 2 + i)) = _
  match i, hu with
  | 0, hu => simp at hu; subst hu; exact hc _ _ q1
  | 1, hu => simp at hu; subst hu; exact hc _ _ q2
theorem sett1 {cnt : Nat} {most : Int} (h : (cnt : Int) + 1 = most) : 1 ≤ most := by omega
theorem sett2 {cnt m : Nat} {most : Int} (h : (cnt : Int) + 1 = most) (hc : cnt < m) : most ≤ (m : Int) := by omega
theorem sett3 {cnt k : Nat} {most : Int} (h : ¬ (cnt : Int) + 1 = most) (hk : k = cnt + 1) (hx : ¬ (1 ≤ most ∧ most ≤ (cnt : Int))) : ¬ (1 ≤ most ∧ most ≤ (k : Int)) := by omega
set_option maxRecDepth 100000 in
set_option maxHeartbeats 8000000 in
theorem frameSettings (w : World) (v : Value) (hv : Sl w 2 (fun _ => IsInt .i64) v) (most : Int) (hmo : (Lit.int .i64 most).wf = true) : Calls Try.prog 8 #[v, .int .i64 most] w fun e w' => e = .returned (.bool true) ∧ Below w.heap.size w w' := by
  have hfe := fun (w : World) (a b : Array Value) => run_eql_func_nil (P := Try.prog) w 48 (.func 37) a b Try.underlying48
  obtain ⟨A, n0, c, ss0, rfl, hnc, hcm, hl0, hwf0, hr0⟩ := sets_of_sl hv
  unfold maxLen at hcm
  refine rng_func Try.func8 rfl ?_
  simp only [Try.ntmps8, List.size_toArray, List.length_cons, List.length_nil, Nat.reduceAdd, Nat.reduceSub, Array.replicate_succ, Array.replicate_zero, List.push_toArray, List.append_toArray, List.nil_append, List.cons_append]
  go_wp2_with (fail)
  have BS := ((Blk.new w 34 #[.slice A n0 c]).alloc (.cells #[.int .i64 most] 3)).alloc (.cells #[.bool false] 4)
  have BM := (Blk.new (w.alloc (.cells #[.slice A n0 c] 34)) 3 #[.int .i64 most]).alloc (.cells #[.bool false] 4)
  have BB := Blk.new ((w.alloc (.cells #[.slice A n0 c] 34)).alloc (.cells #[.int .i64 most] 3)) 4 #[.bool false]
  simp only [World.size_alloc] at BM BB
  have k0 : Keep [] w (((w.alloc (.cells #[.slice A n0 c] 34)).alloc (.cells #[.int .i64 most] 3)).alloc (.cells #[.bool false] 4)) := (((Keep.refl _ _).alloc _).alloc _).alloc _
  refine (begun _).mono ?_
  rintro e w1 ⟨rfl, B1⟩
  have k1 := Keep.of_below B1
  have s1 := k1.size
  simp at s1
  have BS1 := BS.keep k1 (by simp)
  have BM1 := BM.keep k1 (by simp)
  have BB1 := BB.keep k1 (by simp)
  have K1 := Lib.hid (k0.trans k1)
  have d0 := BS1.cell 0
  have f0 := BS1.frozen 0
  simp at d0
  clear B1 BS BM BB k0 k1 hv
  obtain ⟨sb, hsb⟩ : ∃ sb, sb = w.heap.size := ⟨_, rfl⟩
  have HSB := Lib.hid hsb
  have hrb := Lib.hid hr0
  rw [← hsb] at BS1 BM1 BB1 d0 f0 s1 ⊢
  clear hsb hr0
  have HBS := Lib.hid BS1
  have HBM := Lib.hid BM1
  have HBB := Lib.hid BB1
  clear BS1 BM1 BB1
  go_upto_if 15 with (fail)
  go_cut [] from 12 (fun wx => ∃ (n : Nat) (ss : List (Int × Int)), n ≤ 200 ∧ n ≤ c ∧ ss.length = n ∧ (∀ p ∈ ss, (Lit.int .i64 p.1).wf = true) ∧ Blk wx sb 34 #[.slice A n c] ∧ Blk wx (sb + 1) 3 #[.int .i64 most] ∧ Blk wx (sb + 1 + 1) 4 #[.bool false] ∧ Keep [] w wx ∧ Reads wx sb 2 A n (encS ss))
  case first =>
    by_cases hbig : 200 < n0
    · have hb1 : (200 : Int) < (n0 : Int) := by omega
      have hb2 : (200 : Int) ≤ (c : Int) := by omega
      go_wp2_with (fail)
      go_meet
      case rel =>
        have kg : Keep [sb] w1 (w1.setCell ⟨sb, 0, none⟩ (.slice A 200 c)) := (Keep.refl _ _).setCell (p := ⟨sb, 0, none⟩) (.inl (by simp)) _
        have hsb := HSB.out
        have KG := K1.out.step kg (by simp; omega)
        have rdg := (hrb.out.first (m := 200) (by omega)).keeps KG (Nat.le_refl _) (by simp)
        rw [← encS_take, ← hsb] at rdg
        refine ⟨200, ss0.take 200, by omega, by omega, by rw [List.length_take]; omega, fun p hp => hwf0 p (List.mem_of_mem_take hp), ?_, HBM.out.keep kg (by simp), HBB.out.keep kg (by simp; omega), KG, rdg⟩
        have := HBS.out.set_ 0 (.slice A 200 c)
        simpa only [List.setIfInBounds_toArray, List.set_cons_zero] using this
    · have hb1 : ¬ (200 : Int) < (n0 : Int) := by omega
      go_wp2_with (fail)
      go_meet
      case rel =>
        have hsb := HSB.out
        refine ⟨n0, ss0, by omega, hnc, hl0, hwf0, HBS.out, HBM.out, HBB.out, K1.out, ?_⟩
        rw [hsb]
        exact hrb.out.keeps K1.out (Nat.le_refl _) (by simp)
  case rest =>
    obtain ⟨n, ss, hn200, hnc', hss0, hwf', BSg, BMg, BBg, KG0, rdg⟩ := hcut
    have KG := Lib.hid KG0
    have sg : sb + 3 ≤ wc.heap.size := by have := BBg.lt; omega
    have hsz0 : w.heap.size ≤ wc.heap.size := KG0.size
    clear hrb hl0 hwf0 hnc d0 f0 K1 HBS HBM HBB KG0 s1 w1
    have HWF := Lib.hid hwf'
    have HSS := Lib.hid hss0
    clear hwf' hss0
    have hRS := PSt.isthmusref7_Settings.calls ((ss.length + 1) * (ss.length + 5)) A c (s44 ss) (idx ss ss.length ss.length) wc (C_sets rdg (by omega)) (by rw [s44_len]; have := HSS.out; omega) (rsettings_f ss (by have := HSS.out; omega))
    rw [s44_len, HSS.out] at hRS
    have HRS := Lib.hid hRS
    clear hRS
    have d0 := BSg.cell 0
    simp at d0
    go_wp2_with (fail)
    refine HRS.out.mono ?_
    rintro e w2 ⟨v6, rfl, R6, B6⟩
    have o6 := Kd.own_of_R R6
    obtain ⟨A6, c6, rfl⟩ := own_slice o6 (by decide)
    have rd6 := Reads.of_own o6
    have k6 := Keep.of_below B6
    have K2 := Lib.hid (KG.out.trans k6)
    have BS2 := BSg.keep k6 (by simp)
    have BM2 := BMg.keep k6 (by simp)
    have BB2 := BBg.keep k6 (by simp)
    have rd2 := rdg.keeps k6 (by omega) (by simp)
    have s2 := k6.size
    clear R6 B6 o6 HRS k6 BSg BMg BBg rdg
    have d0 := BS2.cell 0
    simp at d0
    have l0 : sb < w2.heap.size := by omega
    obtain ⟨m, hm⟩ : ∃ m, m = (idx ss n n).length := ⟨_, rfl⟩
    rw [← hm] at rd6 ⊢
    have HM := Lib.hid hm
    clear hm
    go_wp2_with (fail)
    refine (settings_ _ _ _ _).mono ?_
    rintro e w' ⟨rfl, rfl⟩
    have a0 := Blk.new w2 45 #[.slice A6 m c6]
    have a1 := Blk.new (w2.alloc (.cells #[.slice A6 m c6] 45)) 3 #[.int .i64 0]
    have a3 := Blk.new ((w2.alloc (.cells #[.slice A6 m c6] 45)).alloc (.cells #[.int .i64 0] 3)) 34 #[.slice A n c]
    simp only [World.size_alloc] at a1 a3
    have a0 := (a0.alloc (.cells #[.int .i64 0] 3)).alloc (.cells #[.slice A n c] 34)
    have a1 := a1.alloc (.cells #[.slice A n c] 34)
    have KS : Keep [] w2 (((w2.alloc (.cells #[.slice A6 m c6] 45)).alloc (.cells #[.int .i64 0] 3)).alloc (.cells #[.slice A n c] 34)) := (((Keep.refl [] w2).alloc _).alloc _).alloc _
    go_wp2_with (fail)
    obtain ⟨S, hS⟩ : ∃ S, S = ((w2.alloc (.cells #[.slice A6 m c6] 45)).alloc (.cells #[.int .i64 0] 3)).alloc (.cells #[.slice A n c] 34) := ⟨_, rfl⟩
    have szS : w2.heap.size + 3 ≤ S.heap.size := by rw [hS]; simp
    simp only [← hS] at a0 a1 a3 KS ⊢
    clear hS d0
    have rdS := rd2.keeps KS (by omega) (by simp)
    have rd6S := rd6.keeps KS (by omega) (by simp)
    have BSS := BS2.keep KS (by simp)
    have BMS := BM2.keep KS (by simp)
    have BBS := BB2.keep KS (by simp)
    obtain ⟨kb, hkb⟩ : ∃ kb, kb = w2.heap.size := ⟨_, rfl⟩
    rw [← hkb] at a0 a1 a3 szS s2 l0 rd6S ⊢
    have HSZW : Hid (w.heap.size ≤ kb) := Lib.hid (by omega)
    have KSW := Lib.hid (K2.out.trans KS)
    clear hkb BS2 BM2 BB2 rd2 rd6 K2 KS
    refine rng_stmt' (n := 5) (gf := 37) (lb := #[.pointer (some ⟨kb + 1 + 1, 0, none⟩)]) (by first | rfl | simp) (enters_of Try.func37 (by kernel_rfl) rfl) ?_
    intro rc hrc W1 hW1
    have szW1 : W1.heap.size = S.heap.size + 1 + 1 := by rw [hW1]; simp
    refine (setIt (m := 4) (s := sb) (c1 := kb + 1 + 1) (A := A) (n := n) (c := c) (ss := ss) HSS.out hnc' (by omega) HWF.out
      (fun j W => SF sb W (kb + 1 + 1) A n c ss ∧ Blk W (kb + 1) 3 #[.int .i64 (idx ss n j).length] ∧ Rest S W [kb + 1] (.loop (rc .ready none)) ∧ ¬ (1 ≤ most ∧ most ≤ (idx ss n j).length))
      (fun W => Blk W (kb + 1) 3 #[.int .i64 most] ∧ Rest S W [kb + 1] (.loop (rc .done (some (.exit 0)))) ∧ 1 ≤ most ∧ most ≤ m) (fun j W h => h.1) W1 ?hst ?skip ?round (by omega) (by omega) ?start).mono ?fin
    case hst =>
      rintro j W W' ⟨hc, hk, hr, hx⟩ k
      rw [szW1] at k
      exact ⟨hc.keep k (by simp; omega) (fun h0 ad e => by have := hc.rd.blk_lt h0 ad e; simp; omega), hk.keep k (by simp; omega), hr.go k (by simp; omega) (by simp) (by simp; omega), hx⟩
    case skip =>
      rintro j W ⟨hc, hk, hr, hx⟩ hj hl
      have e : idx ss n (j + 1) = idx ss n j := by
        rw [idx, if_neg (by simp [isL]; exact hl)]
      rw [e]
      exact ⟨hc, hk, hr, hx⟩
    case start =>
      have KB : Keep [] S W1 := by rw [hW1]; exact ((Keep.refl [] S).alloc _).alloc _
      have q1 : W1.heap[S.heap.size + 1]? = some (.loop (rc .ready none)) := by rw [hW1]; have := heap_alloc_new (S.alloc (.deferred (some []))) (.loop (rc .ready none)); simpa using this
      have q2 : W1.heap[S.heap.size]? = some (.deferred (some [])) := by rw [hW1]; exact (Below.heap_alloc _ _ _ (by simp)).trans (heap_alloc_new S (.deferred (some [])))
      exact ⟨⟨a3.keep KB (by simp), rdS.keeps KB (by omega) (by simp), by omega⟩, a1.keep KB (by simp), ⟨q1, q2, KB.more (by simp)⟩, by simp [idx]; omega⟩
    case round =>
      clear hfe hmo
      rintro j W ⟨hc, hk, hr, hx⟩ hj hl hsz
      rw [szW1] at hsz ⊢
      have HSZ := Lib.hid hsz
      clear hsz
      have hL : isL ss n j = true := by simp [isL]; exact hl
      have hix := idx_get ss n j hL (n - (j + 1))
      rw [show j + 1 + (n - (j + 1)) = n by omega] at hix
      have hcm := (List.getElem?_eq_some_iff.1 hix).1
      rw [← HM.out] at hcm
      have hnext : (idx ss n (j + 1)).length = (idx ss n j).length + 1 := by rw [idx, if_pos hL]; simp
      obtain ⟨cnt, hcnt⟩ : ∃ cnt, cnt = (idx ss n j).length := ⟨_, rfl⟩
      rw [← hcnt] at hix hcm hnext hk hx
      have hcnt200 : cnt ≤ 200 := by have := idx_len ss n j; omega
      refine rng_round' hrc hr.rc rfl ?_
      have HNX := Lib.hid hnext
      clear hrc hW1 hcnt hnext hL hl
      obtain ⟨q1, q2⟩ := encS_at (ss := ss) (i := j) (by have := HSS.out; omega)
      obtain ⟨b9, o9, hA9, hbl9, hcell9⟩ := rdS.plain (by omega) (by omega)
      obtain ⟨b8, o8, hA8, hbl8, hcell8⟩ := rd6S.plain (by omega) (by omega)
      subst hA9 hA8
      obtain ⟨⟨id, vv⟩, hp⟩ : ∃ p, ss.getD j (0, 0) = p := ⟨_, rfl⟩
      rw [hp] at q1 q2 ⊢
      have z1 := hcell9 _ _ q1
      have z2 := hcell9 _ _ q2
      rw [← Nat.add_assoc] at z2
      have z3 := hcell8 cnt (.int .i64 j) (by simp [encs, hix])
      clear q1 q2 hcell9 hcell8 hix hp
      have kA : Keep [] W (W.alloc (.cells #[.int .i64 id, .int .i64 vv] 44)) := (Keep.refl _ _).alloc _
      have BT := Blk.new W 44 #[.int .i64 id, .int .i64 vv]
      have hkA := hk.keep kA (by simp)
      have hrA := hr.go kA (by simp) (by simp) (by simp)
      have hcA := hc.keep kA (by simp) (by simp)
      have L1 := Lib.hid hrA.rc
      have sW := hr.kp.size
      gi_wp2
      refine ⟨L1.out, ?_⟩
      obtain ⟨WA, hWA⟩ : ∃ WA, WA = W.alloc (.cells #[.int .i64 id, .int .i64 vv] 44) := ⟨_, rfl⟩
      rw [← hWA] at BT hkA hrA hcA ⊢
      have hgA : WA.heap[S.heap.size + 1 + 1]? = W.heap[S.heap.size + 1 + 1]? := by rw [hWA]; exact Below.heap_alloc _ _ _ HSZ.out
      clear hWA L1 kA
      have kp : Keep [S.heap.size + 1] WA (WA.putObj (S.heap.size + 1) (.loop (rc .busy none))) := (Keep.refl _ WA).putObj (.inl (by simp)) _
      have hk3 := hkA.keep kp (by simp; omega)
      have hr3 := hrA.put (o' := .loop (rc .busy none))
      have cf3 := hcA.keep kp (by simp; omega) (fun h0 ad e => by injection e with e; subst e; simp; omega)
      have BT3 := BT.keep kp (by have := HSZ.out; simp; omega)
      have hg3 : (WA.putObj (S.heap.size + 1) (.loop (rc .busy none))).heap[S.heap.size + 1 + 1]? = W.heap[S.heap.size + 1 + 1]? := (World.putObj_heap_other (by omega)).trans hgA
      obtain ⟨W3, hW3⟩ : ∃ W3, W3 = WA.putObj (S.heap.size + 1) (.loop (rc .busy none)) := ⟨_, rfl⟩
      rw [← hW3] at hk3 hr3 cf3 BT3 hg3 ⊢
      clear hW3 kp hkA hrA hcA BT hgA hr hk hc
      have kS := hr3.kp
      have t0 := BT3.cell 0
      have t1 := BT3.cell 1
      have kk0 := hk3.cell 0
      have kf0 := hk3.frozen 0
      have l6 := (a0.keep kS (by simp)).cell 0
      have l2 := (BSS.keep kS (by simp; omega)).cell 0
      have l3 := (BMS.keep kS (by simp; omega)).cell 0
      simp at t0 t1 kk0 l6 l2 l3
      have y1 := (kS.cell (p := ⟨b9, o9 + j * 2, none⟩) (by simp; omega) (by simp; omega)).trans z1
      have y2 := (kS.cell (p := ⟨b9, o9 + j * 2 + 1, none⟩) (by simp; omega) (by simp; omega)).trans z2
      have y3 := (kS.cell (p := ⟨b8, o8 + cnt, none⟩) (by simp; omega) (by simp; omega)).trans z3
      have n1 : ¬ (m : Int) ≤ (cnt : Int) := by omega
      have n2 : (cnt : Int) < (m : Int) := by omega
      have n3 : (j : Int) < (n : Int) := by omega
      have n4 : cnt < m := hcm
      have n5 : o8 + cnt = o8 + cnt := rfl
      have Hk3 := Lib.hid hk3
      have Hr3 := Lib.hid hr3
      have Hcf3 := Lib.hid cf3
      have Hg3 := Lib.hid hg3
      have HX := Lib.hid hx
      have HCM := Lib.hid hcm
      clear hk3 hr3 cf3 hg3 BT3 kS z1 z2 z3 hx hcm
      gi_wp2
      refine region_rtg [(4, true), (11, true), (12, true), (21, true), (22, true), (31, true)] [(4, false), (12, false), (22, false)]
        [(0, .int .i64 cnt), (1, .slice (some ⟨b8, o8, none⟩) m c6), (2, .int .i64 m), (3, .bool false), (5, .slice (some ⟨b8, o8, none⟩) m c6), (6, .int .i64 cnt), (7, .pointer (some ⟨b8, o8 + cnt, none⟩)), (8, .int .i64 j), (9, .int .i64 j), (10, .bool false),
          (13, .pointer (some ⟨W.heap.size, 0, none⟩)), (14, .int .i64 id), (15, .slice (some ⟨b9, o9, none⟩) n c), (16, .int .i64 j), (17, .pointer (some ⟨b9, o9 + j * 2, none⟩)), (18, .pointer (some ⟨b9, o9 + j * 2, none⟩)), (19, .int .i64 id), (20, .bool false),
          (23, .pointer (some ⟨W.heap.size, 1, none⟩)), (24, .int .i64 vv), (25, .slice (some ⟨b9, o9, none⟩) n c), (26, .int .i64 j), (27, .pointer (some ⟨b9, o9 + j * 2, none⟩)), (28, .pointer (some ⟨b9, o9 + j * 2 + 1, none⟩)), (29, .int .i64 vv), (30, .bool false)]
        (fun X => X = W3.drew) (by kernel_rfl) (by kernel_rfl) rfl ?_ ?_
      · (simp only [evOk, putAll, List.getElem?_toArray, List.getElem?_cons_zero, List.getElem?_cons_succ, Option.bind_some, Act.put, List.setIfInBounds_toArray, List.set_cons_zero, List.set_cons_succ]; repeat' apply And.intro) <;> first | exact trivial | (rintro X rfl; simp [go_sem, Addr.add, t0, t1, kk0, l6, l2, l3, y1, y2, y3, n1, n2, n3, n4, hj]; done) | skip
      · simp only [putAll, List.getElem?_toArray, List.getElem?_cons_zero, List.getElem?_cons_succ, Option.bind_some, Act.put, List.setIfInBounds_toArray, List.set_cons_zero, List.set_cons_succ]
        refine tail_wanted rfl rfl ?_
        simp [go_sem]
        refine ⟨fun b hb => by obtain rfl := Option.some.inj hb; rfl, ?_⟩
        refine tail_wanted rfl rfl ?_
        simp [go_sem]
        refine ⟨gHolds_none rfl, ?_⟩
        refine tail_wanted rfl rfl ?_
        simp [go_sem]
        refine ⟨fun b hb => by obtain rfl := Option.some.inj hb; rfl, ?_⟩
        refine tail_wanted rfl rfl ?_
        simp [go_sem]
        refine ⟨gHolds_none rfl, ?_⟩
        refine tail_wanted rfl rfl ?_
        simp [go_sem]
        refine ⟨fun b hb => by obtain rfl := Option.some.inj hb; rfl, ?_⟩
        refine tail_wanted rfl rfl ?_
        simp [go_sem]
        refine ⟨gHolds_none rfl, ?_⟩
        unfold wpTailG
        go_at_K
        have kd : Keep [] W3 W3.drew := (Keep.refl _ _).drew
        have hkD := Hk3.out.keep kd (by simp)
        have hrD := Hr3.out.go kd (by simp) (by simp) (by simp)
        have cfD := Hcf3.out.keep kd (by simp) (by simp)
        have hgD : W3.drew.heap[S.heap.size + 1 + 1]? = W.heap[S.heap.size + 1 + 1]? := Hg3.out
        obtain ⟨W4, hW4⟩ : ∃ W4, W4 = W3.drew := ⟨_, rfl⟩
        rw [← hW4] at hkD hrD cfD hgD ⊢
        have lz3 : W4.cell? ⟨sb + 1, 0, none⟩ = some (.int .i64 most) := by rw [hW4]; exact l3
        clear hW4 kd t0 t1 kk0 kf0 l6 l2 l3 y1 y2 y3 n1 n2 n3 Hk3 Hr3 Hcf3 Hg3
        have kk0 := hkD.cell 0
        have kf0 := hkD.frozen 0
        simp at kk0
        have ew : wrap64 ((cnt : Int) + 1) = (cnt : Int) + 1 := by unfold wrap64; omega
        have k4 : Keep [kb + 1] W4 (W4.setCell ⟨kb + 1, 0, none⟩ (.int .i64 ((cnt : Int) + 1))) := (Keep.refl _ W4).setCell (p := ⟨kb + 1, 0, none⟩) (.inl (by simp)) _
        have hk4 : Blk (W4.setCell ⟨kb + 1, 0, none⟩ (.int .i64 ((cnt : Int) + 1))) (kb + 1) 3 #[.int .i64 ((cnt : Int) + 1)] := hkD.set_ 0 _
        have hr4 := hrD.go k4 (by simp) (by simp; omega) (by simp; omega)
        have cf4 := cfD.keep k4 (by simp) (fun h0 ad e => by injection e with e; subst e; simp; omega)
        have hg4 := (Below.heap_setCell W4 ⟨kb + 1, 0, none⟩ (.int .i64 ((cnt : Int) + 1)) (S.heap.size + 1 + 1) (by simp; omega)).trans hgD
        have HL4 := Lib.hid hr4.rc
        have nb : sb ≠ kb := by omega
        by_cases hmc : (cnt : Int) + 1 = most
        · have hmb : ((cnt : Int) + 1 == most) = true := by rw [beq_iff_eq]; exact hmc
          have HMC := Lib.hid hmc
          have P1 : Hid (1 ≤ most) := Lib.hid (sett1 hmc)
          have P2 : Hid (most ≤ (m : Int)) := Lib.hid (sett2 hmc HCM.out)
          clear hmc
          have kz : Keep [S.heap.size + 1] (W4.setCell ⟨kb + 1, 0, none⟩ (.int .i64 ((cnt : Int) + 1))) ((W4.setCell ⟨kb + 1, 0, none⟩ (.int .i64 ((cnt : Int) + 1))).putObj (S.heap.size + 1) (.loop (rc .done (some (.exit 0))))) := (Keep.refl _ _).putObj (.inl (by simp)) _
          have HR5 := Lib.hid (hr4.put (o' := .loop (rc .done (some (.exit 0)))))
          have HK5 := Lib.hid (hk4.keep kz (by simp; omega))
          have HG5 : Hid (((W4.setCell ⟨kb + 1, 0, none⟩ (.int .i64 ((cnt : Int) + 1))).putObj (S.heap.size + 1) (.loop (rc .done (some (.exit 0))))).heap[S.heap.size + 1 + 1]? = W.heap[S.heap.size + 1 + 1]?) := Lib.hid ((World.putObj_heap_other (by omega)).trans hg4)
          clear hk4 hr4 cf4 hg4 k4 kz hkD hrD cfD hgD
          gi_wp2
          exact ⟨HL4.out, HG5.out, by rw [← HMC.out]; exact HK5.out, HR5.out, P1.out, P2.out⟩
        · have hmb : ((cnt : Int) + 1 == most) = false := by rw [beq_eq_false_iff_ne]; exact hmc
          have P3 : Hid (¬ (1 ≤ most ∧ most ≤ ((idx ss n (j + 1)).length : Int))) := Lib.hid (fun h => sett3 hmc HNX.out HX.out h)
          clear hmc
          have kz : Keep [S.heap.size + 1] (W4.setCell ⟨kb + 1, 0, none⟩ (.int .i64 ((cnt : Int) + 1))) ((W4.setCell ⟨kb + 1, 0, none⟩ (.int .i64 ((cnt : Int) + 1))).putObj (S.heap.size + 1) (.loop (rc .ready none))) := (Keep.refl _ _).putObj (.inl (by simp)) _
          have HR5 := Lib.hid (hr4.put (o' := .loop (rc .ready none)))
          have HK5 := Lib.hid (hk4.keep kz (by simp; omega))
          have HC5 := Lib.hid (cf4.keep kz (by simp; omega) (fun h0 ad e => by injection e with e; subst e; simp; omega))
          have HG5 : Hid (((W4.setCell ⟨kb + 1, 0, none⟩ (.int .i64 ((cnt : Int) + 1))).putObj (S.heap.size + 1) (.loop (rc .ready none))).heap[S.heap.size + 1 + 1]? = W.heap[S.heap.size + 1 + 1]?) := Lib.hid ((World.putObj_heap_other (by omega)).trans hg4)
          clear hk4 hr4 cf4 hg4 k4 kz hkD hrD cfD hgD
          gi_wp2
          exact ⟨HL4.out, HG5.out, HC5.out, by rw [HNX.out]; exact HK5.out, HR5.out, fun h1 => Int.not_le.1 (fun h2 => P3.out ⟨h1, h2⟩)⟩
    case fin =>
      rintro e W' ⟨⟨vr, rfl⟩, h⟩
      rcases h with ⟨hc, hk, hr, hx⟩ | ⟨hk, hr, hx1, hx2⟩
      · rw [← HM.out] at hk hx
        clear hc
        refine ⟨_, .ready, none, rfl, by simp, hr.rc, ?_⟩
        have hr2 := hr.put (o' := .loop (rc .exhausted none))
        have kp : Keep [S.heap.size + 1] W' (W'.putObj (S.heap.size + 1) (.loop (rc .exhausted none))) := (Keep.refl _ W').putObj (.inl (by simp)) _
        have hk2 := hk.keep kp (by simp; omega)
        obtain ⟨W5, hW5⟩ : ∃ W5, W5 = W'.putObj (S.heap.size + 1) (.loop (rc .exhausted none)) := ⟨_, rfl⟩
        simp only [← hW5] at hr2 hk2 ⊢
        clear hW5 hW1 hrc hk hr kp
        have kS := hr2.kp
        have kk0 := hk2.cell 0
        have l6 := (a0.keep kS (by simp)).cell 0
        have l3 := (BMS.keep kS (by simp; omega)).cell 0
        have B4 := BBS.keep kS (by simp; omega)
        have l4 := B4.cell 0
        have f4 := B4.frozen 0
        simp at kk0 l6 l3 l4
        have HB4 := Lib.hid B4
        have HR2 := Lib.hid hr2
        have p0 : (1 : Int) ≤ most → ¬ most < (m : Int) := fun h1 h2 => hx ⟨h1, by omega⟩
        have HP0 := Lib.hid p0
        clear hx p0
        clear B4 hr2 hk2 kS a0 a1 a3 BSS BMS BBS rdS rd6S
        by_cases h1 : (1 : Int) ≤ most
        · have h2 := HP0.out h1
          clear HP0
          go_wp2_with (fail)
          all_goals
            have hsb := HSB.out
            have hszw := HSZW.out
            refine ⟨by simp, .inl ⟨_, _, rfl, run_takeDeferred ((Below.heap_setCell W5 _ _ _ (by simp; omega)).trans HR2.out.df), ?_⟩⟩
            refine ⟨_, res_cell_bool rfl _ _ (sb + 1 + 1) true rfl ((World.cell?_of_block (World.putObj_heap_other (by simp; omega))).trans ((HB4.out.set_ 0 (.bool true)).cell 0)), rfl, ?_⟩
            exact (((KSW.out.step HR2.out.kp (by simp; omega)).setCell (p := ⟨sb + 1 + 1, 0, none⟩) (.inr (by simp; omega)) _).putObj (l := S.heap.size) (.inr (by omega)) _).below (Nat.le_refl _) (by simp)
        · clear HP0
          go_wp2_with (fail)
          all_goals
            have hsb := HSB.out
            have hszw := HSZW.out
            refine ⟨by simp, .inl ⟨_, _, rfl, run_takeDeferred ((Below.heap_setCell W5 _ _ _ (by simp; omega)).trans HR2.out.df), ?_⟩⟩
            refine ⟨_, res_cell_bool rfl _ _ (sb + 1 + 1) true rfl ((World.cell?_of_block (World.putObj_heap_other (by simp; omega))).trans ((HB4.out.set_ 0 (.bool true)).cell 0)), rfl, ?_⟩
            exact (((KSW.out.step HR2.out.kp (by simp; omega)).setCell (p := ⟨sb + 1 + 1, 0, none⟩) (.inr (by simp; omega)) _).putObj (l := S.heap.size) (.inr (by omega)) _).below (Nat.le_refl _) (by simp)
      · refine ⟨_, .done, (some (.exit 0)), rfl, by simp, hr.rc, ?_⟩
        have hr2 := hr.put (o' := .loop (rc .exhausted (some (.exit 0))))
        have kp : Keep [S.heap.size + 1] W' (W'.putObj (S.heap.size + 1) (.loop (rc .exhausted (some (.exit 0))))) := (Keep.refl _ W').putObj (.inl (by simp)) _
        have hk2 := hk.keep kp (by simp; omega)
        obtain ⟨W5, hW5⟩ : ∃ W5, W5 = W'.putObj (S.heap.size + 1) (.loop (rc .exhausted (some (.exit 0)))) := ⟨_, rfl⟩
        simp only [← hW5] at hr2 hk2 ⊢
        clear hW5 hW1 hrc hk hr kp
        have kS := hr2.kp
        have kk0 := hk2.cell 0
        have l6 := (a0.keep kS (by simp)).cell 0
        have l3 := (BMS.keep kS (by simp; omega)).cell 0
        have B4 := BBS.keep kS (by simp; omega)
        have l4 := B4.cell 0
        have f4 := B4.frozen 0
        simp at kk0 l6 l3 l4
        have HB4 := Lib.hid B4
        have HR2 := Lib.hid hr2
        clear B4 hr2 hk2 kS a0 a1 a3 BSS BMS BBS rdS rd6S
        by_cases h2 : most < (m : Int)
        · go_wp2_with (fail)
          all_goals
            have hsb := HSB.out
            have hszw := HSZW.out
            refine ⟨by simp, .inl ⟨_, _, rfl, run_takeDeferred ((Below.heap_setCell W5 _ _ _ (by simp; omega)).trans HR2.out.df), ?_⟩⟩
            refine ⟨_, res_cell_bool rfl _ _ (sb + 1 + 1) true rfl ((World.cell?_of_block (World.putObj_heap_other (by simp; omega))).trans ((HB4.out.set_ 0 (.bool true)).cell 0)), rfl, ?_⟩
            exact (((KSW.out.step HR2.out.kp (by simp; omega)).setCell (p := ⟨sb + 1 + 1, 0, none⟩) (.inr (by simp; omega)) _).putObj (l := S.heap.size) (.inr (by omega)) _).below (Nat.le_refl _) (by simp)
        · have h3 : most = (m : Int) := by omega
          subst h3
          go_wp2_with (fail)
          all_goals
            have hsb := HSB.out
            have hszw := HSZW.out
            refine ⟨by simp, .inl ⟨_, _, rfl, run_takeDeferred ((Below.heap_setCell W5 _ _ _ (by simp; omega)).trans HR2.out.df), ?_⟩⟩
            refine ⟨_, res_cell_bool rfl _ _ (sb + 1 + 1) true rfl ((World.cell?_of_block (World.putObj_heap_other (by simp; omega))).trans ((HB4.out.set_ 0 (.bool true)).cell 0)), rfl, ?_⟩
            exact (((KSW.out.step HR2.out.kp (by simp; omega)).setCell (p := ⟨sb + 1 + 1, 0, none⟩) (.inr (by simp; omega)) _).putObj (l := S.heap.size) (.inr (by omega)) _).below (Nat.le_refl _) (by simp)
end Go.Proofs.Ytbngoaonkhcciaa
