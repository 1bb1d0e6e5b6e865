/- block: BlockCut. -/
import Derived.Test.YtenegjflapppdaaMarks
import Derived.Test.YtenegjflapppdaaRCut
import Derived.Test.YtenegjflapppdaaBegun
import Derived.Test.YtenegjflapppdaaRng5
import Derived.Deep.DeepCutAuto
set_option linter.all false
namespace Go.Proofs.Ytenegjflapppdaa
open Go.ChangeShapes Go.WideShapes Go.ChangeAt Go.RowKit Go.Proofs.YtenegjflapppdaaW.PrintWords
attribute [local go_sem] setCell_drewN alloc_drewN Oper.semAt_some
set_option maxRecDepth 100000 in
set_option maxHeartbeats 8000000 in
theorem blockCut (w : World) (id : Int) (_hi : (Lit.int IntKind.i64 id).wf = true) (en : Bool) (v : Value) (hv : Sl w 1 (fun _ => IsInt .u8) v) (most : Int) (hm : (Lit.int IntKind.i64 most).wf = true) (far : Int) (hf : (Lit.int IntKind.i64 far).wf = true) :
    Calls Try.prog 4 #[.int .i64 id, .bool en, v, .int .i64 most, .int .i64 far] w fun e w' => e = .returned (.bool true) ∧ Below w.heap.size w w' := by
  clear _hi
  obtain ⟨_, hm2⟩ := in_i64 hm
  clear hm
  obtain ⟨A, n, c, bs, rfl, hnc, hcm, hbl, hrd⟩ := reads_of_sl hv
  clear hv
  unfold maxLen at hcm
  have Hrd := Lib.hid hrd
  clear hrd
  have hfe := fun (w : World) (a b : Array Value) => run_eql_func_nil (P := Try.prog) w 43 (.func 23) a b Try.underlying43
  refine rng_func Try.func4 rfl ?_
  simp only [Try.ntmps4, List.size_toArray, List.length_cons, List.length_nil, Nat.reduceAdd, Nat.reduceSub, Array.replicate_succ, Array.replicate_zero, List.push_toArray, List.append_toArray, List.nil_append, List.cons_append]
  go_upto_if 22 with (go_at_call 8; refine (begun _).mono ?_; rintro e w1 ⟨rfl, k1⟩)
  have hrd1 : Reads w1 w.heap.size 1 A n (encB bs) := Hrd.out.keeps ((((Keep.refl [] w).alloc _).alloc _).trans (Keep.of_below k1)) (Nat.le_refl _) (by simp)
  go_cut [2] from 23 to 25 (fun v2 wx => v2 = .slice A (min n 2000) c ∧ wx = w1)
  case first =>
    by_cases h : 2000 < n
    · have h1 : (2000 : Int) < (n : Int) := by omega
      have h2 : (2000 : Int) ≤ (c : Int) := by omega
      go_wp2_with (fail)
      go_meet
      case rel => exact ⟨by rw [Nat.min_eq_right (by omega)], rfl⟩
    · have h1 : ¬ (2000 : Int) < (n : Int) := by omega
      go_wp2_with (fail)
      go_meet
      case rel => exact ⟨by rw [Nat.min_eq_left (by omega)], rfl⟩
  case rest =>
    obtain ⟨rfl, hww⟩ := hcut
    have hww := hww.symm
    subst hww
    obtain ⟨m, hm⟩ : ∃ m, m = min n 2000 := ⟨_, rfl⟩
    rw [← hm]
    obtain ⟨bs2, hbs2⟩ : ∃ bs2, bs2 = bs.take m := ⟨_, rfl⟩
    have hl2 : bs2.length = m := by rw [hbs2, List.length_take]; omega
    have hr2 : Reads w1 w.heap.size 1 A m (encB bs2) := by
      have h := hrd1.first (m := m) (by omega)
      rw [Nat.mul_one, ← encB_take, ← hbs2] at h
      exact h
    have hmn : m ≤ n := by omega
    have hm2k : m ≤ 2000 := by omega
    have HL2 := Lib.hid hl2
    have HR2 := Lib.hid hr2
    have HK1 := Lib.hid (((Keep.refl [] w).alloc (.cells #[.int .i64 far] 3)).alloc (.cells #[.bool false] 4) |>.trans (Keep.of_below k1))
    clear hm hbs2 hl2 hr2 hrd1 Hrd hbl
    obtain ⟨mo, hmo⟩ : ∃ mo : Nat, (mo : Int) = max most 1 := ⟨(max most 1).toNat, by omega⟩
    have HMO := Lib.hid hmo
    have sz1 := HK1.out.size
    by_cases hid : 1 ≤ id ∧ id ≤ 2147483647
    · clear hmo
      go_upto_if 36 with (first
        | (go_at_call 18; refine (rcut_ _ id en (HR2.out.more sz1) HL2.out (by omega) (by omega) most mo HMO.out hid).mono ?_; rintro e w2 ⟨Al, cl, xs, rfl, ho2, hRL2, hx1, hx2, hx3, k2⟩)
        | (go_at_call 19; refine (cut_ _ id en A m c most mo HMO.out).mono ?_; rintro e w4 ⟨rfl, hw4⟩))
      have kw1 := HK1.out
      have BF1 : Blk w1 w.heap.size 3 #[.int .i64 far] := ((Blk.new w 3 #[.int .i64 far]).alloc (.cells #[.bool false] 4)).keep (Keep.of_below k1) (by simp)
      have BA1 : Blk w1 (w.heap.size + 1) 4 #[.bool false] := by
        have h := (Blk.new (w.alloc (.cells #[.int .i64 far] 3)) 4 #[.bool false]).keep (Keep.of_below k1) (by simp)
        simpa using h
      have BL2 := Blk.new w2 40 #[.slice Al xs.length cl]
      obtain ⟨w3, hw3⟩ : ∃ w3, w3 = w2.alloc (.cells #[.slice Al xs.length cl] 40) := ⟨_, rfl⟩
      have k3 : Keep [] w2 w3 := by rw [hw3]; exact (Keep.refl _ _).alloc _
      have e3 : w3.heap.size = w2.heap.size + 1 := by rw [hw3]; simp
      rw [← hw3] at hw4 BL2 ⊢
      rw [← hw4]
      clear hw3
      have k4 : Keep [] w3 w4 := by rw [hw4]; exact ((((Keep.refl _ _).alloc _).alloc _).alloc _).alloc _
      have cf : CF w.heap.size w4 w3.heap.size (w3.heap.size + 1) (w3.heap.size + 1 + 1) (w3.heap.size + 1 + 1 + 1) id en A m c mo bs2 := by
        subst hw4
        refine ⟨?_, ?_, ?_, ?_, HR2.out.keeps ((k2.trans k3).trans k4) sz1 (by simp), by have h1 := k2.size; have h2 := k3.size; have h3 := k4.size; omega⟩
        · exact (((Blk.new w3 3 #[.int .i64 id]).alloc _).alloc _).alloc _
        · have h := ((Blk.new (w3.alloc (.cells #[.int .i64 id] 3)) 4 #[.bool en]).alloc (.cells #[.slice A m c] 27)).alloc (.cells #[.int .i64 mo] 3)
          simpa using h
        · have h := (Blk.new ((w3.alloc (.cells #[.int .i64 id] 3)).alloc (.cells #[.bool en] 4)) 27 #[.slice A m c]).alloc (.cells #[.int .i64 mo] 3)
          simpa using h
        · have h := Blk.new (((w3.alloc (.cells #[.int .i64 id] 3)).alloc (.cells #[.bool en] 4)).alloc (.cells #[.slice A m c] 27)) 3 #[.int .i64 mo]
          simpa using h
      rw [← e3]
      have k24 := k3.trans k4
      have HS : Hid (LS w w1.heap.size w2.heap.size w3.heap.size id en A m c mo bs2 far Al cl xs w4) := Lib.hid ⟨kw1.trans (k2.trans k24), sz1, BF1.keep (k2.trans k24) (by simp), BA1.keep (k2.trans k24) (by simp), BL2.keep k4 (by simp), own_keep ho2 k24 (by simp), hRL2.keep k24 (by simp), cf⟩
      have HX1 := Lib.hid (And.intro hx1 (And.intro hx2 hx3))
      obtain ⟨lb, hlb⟩ : ∃ lb, lb = w2.heap.size := ⟨_, rfl⟩
      obtain ⟨cb, hcb⟩ : ∃ cb, cb = w3.heap.size := ⟨_, rfl⟩
      have HLT : Hid (w.heap.size + 1 < lb ∧ cb = lb + 1) := Lib.hid (by have h1 := BA1.lt; have h2 := k2.size; omega)
      rw [← hlb, ← hcb] at HS ⊢
      clear hw4 k24 cf k4 k3 e3 BL2 BA1 BF1 kw1 ho2 hRL2 hx1 hx2 hx3 k2 hlb hcb
      have HO : Hid (OutR w4 [] 0 w4) := Lib.hid ⟨Keep.refl _ _, List.nodup_nil, by simp, by omega⟩
      go_upto_block 0 with (fail)
      go_step
      refine wp_loop (fun a W => ∃ (i : Nat) (Ds : List Nat) (x15 x18 x37 x38 x39 x40 x41 x60 x61 x62 x63 x64 x65 x66 x67 x68 x69 x70 x71 x72 : Value), OutR w4 Ds i W ∧ a = ⟨#[.int .i64 id, .bool en, .slice A m c, .int .i64 most, .int .i64 far, undef, undef, undef, undef, .pointer (some ⟨w.heap.size, 0, none⟩), .pointer (some ⟨w.heap.size + 1, 0, none⟩), .bool true, .pointer (some ⟨lb, 0, none⟩), .func (.func 23) #[] #[.pointer (some ⟨cb, 0, none⟩), .pointer (some ⟨cb + 1, 0, none⟩), .pointer (some ⟨cb + 1 + 1, 0, none⟩), .pointer (some ⟨cb + 1 + 1 + 1, 0, none⟩)], .int .i64 i, x15, undef, undef, x18, .bool true, .slice A n c, .int .i64 n, .bool (decide (2000 < (n : Int))), u23, u24, .int .i64 id, .bool en, .slice A m c, .int .i64 most, .slice Al xs.length cl, .int .i64 id, .bool en, .slice A m c, .int .i64 most, .func (.func 23) #[] #[.pointer (some ⟨cb, 0, none⟩), .pointer (some ⟨cb + 1, 0, none⟩), .pointer (some ⟨cb + 1 + 1, 0, none⟩), .pointer (some ⟨cb + 1 + 1 + 1, 0, none⟩)], .func (.func 23) #[] #[.pointer (some ⟨cb, 0, none⟩), .pointer (some ⟨cb + 1, 0, none⟩), .pointer (some ⟨cb + 1 + 1, 0, none⟩), .pointer (some ⟨cb + 1 + 1 + 1, 0, none⟩)], .bool false, x37, x38, x39, x40, x41, undef, undef, undef, undef, undef, undef, undef, undef, undef, undef, undef, undef, undef, undef, undef, undef, undef, undef, x60, x61, x62, x63, x64, x65, x66, x67, x68, x69, x70, x71, x72, undef], Ds.map mark⟩) mu14 ?start ?round
      case start => exact ⟨0, [], _, _, _, _, _, _, _, _, _, _, _, _, _, _, _, _, _, _, _, _, HO.out, rfl⟩
      case round =>
        rintro a W hI
        obtain ⟨i, hI⟩ := hI
        obtain ⟨Ds, hI⟩ := hI
        obtain ⟨x15, hI⟩ := hI
        obtain ⟨x18, hI⟩ := hI
        obtain ⟨x37, hI⟩ := hI
        obtain ⟨x38, hI⟩ := hI
        obtain ⟨x39, hI⟩ := hI
        obtain ⟨x40, hI⟩ := hI
        obtain ⟨x41, hI⟩ := hI
        obtain ⟨x60, hI⟩ := hI
        obtain ⟨x61, hI⟩ := hI
        obtain ⟨x62, hI⟩ := hI
        obtain ⟨x63, hI⟩ := hI
        obtain ⟨x64, hI⟩ := hI
        obtain ⟨x65, hI⟩ := hI
        obtain ⟨x66, hI⟩ := hI
        obtain ⟨x67, hI⟩ := hI
        obtain ⟨x68, hI⟩ := hI
        obtain ⟨x69, hI⟩ := hI
        obtain ⟨x70, hI⟩ := hI
        obtain ⟨x71, hI⟩ := hI
        obtain ⟨x72, hI⟩ := hI
        obtain ⟨hO, rfl⟩ := hI
        have HO := Lib.hid hO
        by_cases hi : i < 2
        · have q0 : (i : Int) < 2 := by omega
          have HI := Lib.hid hi
          go_upto_block 2 with (fail)
          have BK := Blk.new W 3 #[.int .i64 0]
          have kA : Keep [] W (W.alloc (.cells #[.int .i64 0] 3)) := (Keep.refl _ _).alloc _
          obtain ⟨S, hS⟩ : ∃ S, S = W.alloc (.cells #[.int .i64 0] 3) := ⟨_, rfl⟩
          obtain ⟨kb, hkb⟩ : ∃ kb, kb = W.heap.size := ⟨_, rfl⟩
          have szS : kb + 1 = S.heap.size := by rw [hS, hkb]; simp
          rw [← hS, ← hkb] at BK ⊢
          rw [← hS] at kA
          have HKS : Hid (Keep [] w4 S) := Lib.hid (hO.kw.trans kA)
          have HDS : Hid (∀ D ∈ Ds, w4.heap.size ≤ D ∧ D < kb ∧ S.heap[D]? = some (.deferred (some []))) := Lib.hid (fun D hD => by
            have h := hO.at_ D hD
            exact ⟨h.1, by rw [hkb]; exact (Array.getElem?_eq_some_iff.1 h.2).1, kA.heap h.2 (by simp)⟩)
          have HKB : Hid (w4.heap.size ≤ kb ∧ kb + 1 = S.heap.size) := Lib.hid ⟨by rw [hkb]; exact hO.kw.size, szS⟩
          have HMO1 : Hid (1 ≤ mo ∧ mo ≤ 9223372036854775807) := Lib.hid (by have := HMO.out; omega)
          have HBK := Lib.hid BK
          have HN : Hid (xs.length ≤ 2001) := Lib.hid (cut_len HX1.out.2.2 HMO1.out.1 hm2k)
          clear hS hkb szS BK kA hO hi
          go_step
          refine rng_stmt' (n := 5) (gf := 23) (lb := #[.pointer (some ⟨cb, 0, none⟩), .pointer (some ⟨cb + 1, 0, none⟩), .pointer (some ⟨cb + 1 + 1, 0, none⟩), .pointer (some ⟨cb + 1 + 1 + 1, 0, none⟩)]) (by first | rfl | simp) (enters_of Try.func23 (by kernel_rfl) rfl) ?_
          intro rc hrc W1 hW1
          have KB : Keep [] S W1 := by rw [hW1]; exact ((Keep.refl [] S).alloc _).alloc _
          have szW1 : S.heap.size + 2 = W1.heap.size := by rw [hW1]; simp
          have hcbw : cb + 1 + 1 + 1 < w4.heap.size := HS.out.cf.b4.lt
          have R0 : RC w4 S.heap.size kb Ds (rc .ready none) 0 W1 := by
            have hkb := HKB.out
            have q1 : W1.heap[S.heap.size + 1]? = some (.loop (rc .ready none)) := by rw [hW1]; have := heap_alloc_new (S.alloc (.deferred (some []))) (.loop (rc .ready none)); simpa using this
            have q2 : W1.heap[S.heap.size]? = some (.deferred (some [])) := by rw [hW1]; exact (Below.heap_alloc _ _ _ (by simp)).trans (heap_alloc_new S (.deferred (some [])))
            exact ⟨HKS.out.trans KB, HBK.out.keep KB (by simp), q1, q2, fun D hD => ⟨(HDS.out D hD).1, (HDS.out D hD).2.1, KB.heap (HDS.out D hD).2.2 (by simp)⟩, hkb.1, by omega⟩
          have hlw4 : w4.heap.size + 2 ≤ W1.heap.size := by have := HKB.out; omega
          have HMC : Hid (m ≤ c) := Lib.hid (by omega)
          have HCM : Hid (c ≤ 9223372036854775807) := Lib.hid (by omega)
          refine (cutIt (m := 4) (s := w.heap.size) hid HMO1.out.1 HMO1.out.2 HL2.out HMC.out HCM.out (by omega)
            (fun j off X => RC w4 S.heap.size kb Ds (rc .ready none) j X ∧ off = min (j * mo) m ∧ j ≤ xs.length ∧ ¬ (1 ≤ far ∧ far ≤ (j : Int)))
            (fun X => ∃ q : Nat, (q : Int) = far ∧ 1 ≤ q ∧ q ≤ xs.length ∧ RC w4 S.heap.size kb Ds (rc .done (some (.exit 2))) q X)
            (fun j off X h => (HS.out.keep h.1.kw).cf) W1 ?hst ?hround (by omega) (by omega) (by omega) (by omega) ⟨R0, by simp, by omega, by omega⟩).mono ?fin
          case hst =>
            rintro j off X X' ⟨h1, h2⟩ k
            exact ⟨h1.step k (by simp; omega), h2⟩
          case hround =>
            rintro j off X k ⟨hR, ho, hjN, hfar⟩ hc hj0 hon hk hszX X2 r kk cf hrow
            have hoj : off = j * mo := by
              rcases hc with rfl | h
              · simpa using ho
              · omega
            have hjl : j < xs.length := cut_count HX1.out.1 HX1.out.2.1 HX1.out.2.2 hoj hc
            obtain ⟨x, hx⟩ : ∃ x, xs[j]? = some x := ⟨_, List.getElem?_eq_getElem hjl⟩
            have hR2 := hR.step kk (by simp; omega)
            have LS2 := HS.out.keep hR2.kw
            obtain ⟨e1, e2, e3, e4, e5⟩ := cut_same LS2.rl HL2.out hx hoj hon hk
            rw [← e4] at hrow
            obtain ⟨Ar, cr, rfl, hlr, _, _⟩ := hrow.reads
            rw [encB_len] at hlr hrow ⊢
            rw [show (#[.agg #[.int .i64 (typF j), .int .i64 (flgF j en (decide (off + k = m))), .int .i64 id, .slice Ar x.pl.length cr]] : Array Value) = #[.agg #[.int .i64 x.t, .int .i64 x.f, .int .i64 x.s, .slice Ar x.pl.length cr]] from by rw [e1, e2, e3]]
            have HPL : Hid (x.pl.length ≤ 100000) := Lib.hid (by rw [e4, List.length_take, List.length_drop, HL2.out]; omega)
            have HXR : Hid (∀ X', Keep [] w4 X' → Row1 X' w1.heap.size 5 (.slice x.A x.pl.length x.c) (encB x.pl)) := Lib.hid (fun X' k' => ((HS.out.keep k').rl.at_ j x hx).2.2.2.2)
            have HLR := Lib.hid hlr
            refine rng_round' hrc hR2.rc rfl ?_
            have HK := Lib.hid (show off + k = min ((j + 1) * mo) m by rw [Nat.succ_mul]; omega)
            have HF := Lib.hid hfar
            have HJL := Lib.hid hjl
            have HXX := Lib.hid hx
            have hszz : S.heap.size + 2 < X.heap.size := by omega
            have hrl := hrow.lt
            have ksz := kk.size
            have NE : Hid (∀ X', Keep [W1.heap.size] X2 X' → X'.heap[W1.heap.size]? = X2.heap[W1.heap.size]? → True) := Lib.hid (fun _ _ _ => trivial)
            clear NE hlr hx hrc hW1 KB R0 e1 e2 e3 e4 e5 hR kk hoj ho hc hj0 hon hk hfar hjN hfe cf hww HMC HCM hcbw hlw4 LS2
            have kA : Keep [] X2 (X2.alloc (.cells #[.int .i64 x.t, .int .i64 x.f, .int .i64 x.s, .slice Ar x.pl.length cr] 46)) := (Keep.refl _ _).alloc _
            have BT := Blk.new X2 46 #[.int .i64 x.t, .int .i64 x.f, .int .i64 x.s, .slice Ar x.pl.length cr]
            have L1 := Lib.hid (hR2.step kA (by simp)).rc
            gi_wp2
            refine ⟨L1.out, ?_⟩
            obtain ⟨X3, hX3⟩ : ∃ X3, X3 = X2.alloc (.cells #[.int .i64 x.t, .int .i64 x.f, .int .i64 x.s, .slice Ar x.pl.length cr] 46) := ⟨_, rfl⟩
            rw [← hX3] at BT kA ⊢
            obtain ⟨tb, htb⟩ : ∃ tb, tb = X2.heap.size := ⟨_, rfl⟩
            have htb2 : S.heap.size + 2 < tb := by omega
            rw [← htb] at BT ⊢
            clear hX3 htb L1
            have hR3 := (hR2.step kA (by simp)).put (rc .busy none)
            have kp : Keep [S.heap.size + 1] X3 (X3.putObj (S.heap.size + 1) (.loop (rc .busy none))) := (Keep.refl _ X3).putObj (.inl (by simp)) _
            have BT3 := BT.keep kp (by simp; omega)
            have hw3 := (hrow.keep kA (by simp)).keep kp (fun g hg => by have := hrl g hg; simp; omega)
            have hG3 : (X3.putObj (S.heap.size + 1) (.loop (rc .busy none))).heap[W1.heap.size]? = X2.heap[W1.heap.size]? := (World.putObj_heap_other (by omega)).trans (kA.block _ (by omega) (by simp))
            obtain ⟨W3, hW3⟩ : ∃ W3, W3 = X3.putObj (S.heap.size + 1) (.loop (rc .busy none)) := ⟨_, rfl⟩
            rw [← hW3] at hR3 BT3 hw3 hG3 ⊢
            have szX3 : W1.heap.size < W3.heap.size := by rw [hW3]; simp; have := kA.size; omega
            clear hW3 kp kA BT hR2 hrow hrl
            have LS3 := HS.out.keep hR3.kw
            obtain ⟨og, cw, cs, hAl, _, _, hbo, hrws⟩ := rowIs_of LS3.ow (by omega)
            injection hAl with hA1 hA2 hA3
            clear hA2
            subst hA1 hA3
            have cc : ∀ jj u, jj < 4 → x.cells[jj]? = some u → W3.cell? ⟨og, j * 4 + jj, none⟩ = some u := fun jj u hj hu => by rw [hbo.cell, hrws j x HXX.out jj hj, hu]
            have kk0 := hR3.bk.cell 0
            have e0 := LS3.bl.cell 0
            simp at kk0 e0
            have n1 : ¬ (xs.length : Int) ≤ (j : Int) := by omega
            have n2 : (j : Int) < (xs.length : Int) := by omega
            have n3 : j < xs.length := hjl
            have y0' := cc 0 _ (by omega) rfl
            have y1 := cc 1 _ (by omega) rfl
            have y2 := cc 2 _ (by omega) rfl
            have y3 := cc 3 _ (by omega) rfl
            have t0 := BT3.cell 0
            have t1 := BT3.cell 1
            have t2 := BT3.cell 2
            have t3 := BT3.cell 3
            simp at t0 t1 t2 t3 y0'
            have HR3 := Lib.hid hR3
            have HW3 := Lib.hid hw3
            have HG3 := Lib.hid hG3
            clear hR3 BT3 hw3 hG3 hjl cc hbo hrws LS3
            gi_wp2
            refine region_rtc [(5, false), (6, false)] []
              [(0, .agg #[.int .i64 x.t, .int .i64 x.f, .int .i64 x.s, .slice Ar x.pl.length cr]), (1, .slice (some ⟨og, 0, none⟩) xs.length cl), (2, .int .i64 j), (3, .pointer (some ⟨og, j * 4, none⟩)), (4, .agg #[.int .i64 x.t, .int .i64 x.f, .int .i64 x.s, .slice x.A x.pl.length x.c])]
              (fun Y => Y = W3.drew) (by kernel_rfl) (by kernel_rfl) rfl ?_ ?_
            · simp only [evOkC, putAll, List.getElem?_toArray, List.getElem?_cons_zero, List.getElem?_cons_succ, Option.bind_some, Act.put, List.setIfInBounds_toArray, List.set_cons_zero, List.set_cons_succ]
              repeat' apply And.intro
              all_goals first
                | exact trivial
                | (rintro Y rfl; refine gives_read rfl ?_; simp [go_sem, Addr.add, t0, t1, t2, t3, y0', y1, y2, y3, e0, kk0, n2, n3]; done)
                | skip
              · rintro Y rfl
                refine gives_read rfl ?_
                simp [go_sem, Addr.add, n2, n3]
                exact fun h => h.symm
            · simp only [putAll, List.getElem?_toArray, List.getElem?_cons_zero, List.getElem?_cons_succ, Option.bind_some, Act.put, List.setIfInBounds_toArray, List.set_cons_zero, List.set_cons_succ]
              refine tail_wanted rfl rfl ?_
              simp [go_sem]
              have kd : Keep [] W3 W3.drew := (Keep.refl [] W3).drew
              obtain ⟨_, _, he, hc1, _, hrd⟩ := (HW3.out.keep kd (by simp)).reads
              rw [encB_len] at hc1 hrd
              injection he with he1 he2 he3
              clear he2
              subst he1 he3
              obtain ⟨_, _, he, hc2, _, hrd2⟩ := (HXR.out W3.drew (HR3.out.kw.trans kd)).reads
              rw [encB_len] at hc2 hrd2
              injection he with he1 he2 he3
              clear he2
              rw [← he1] at hrd2
              rw [← he3] at hc2
              clear he1 he3
              refine ⟨trivial, (CallsIn.inRound _ (callsIn_wide.2 (eq_fr x hc1 hrd hc2 hrd2 HPL.out))).mono ?_⟩
              rintro e W4 ⟨rfl, k4⟩
              refine ⟨gHolds_none rfl, ?_⟩
              refine tail_wanted rfl rfl ?_
              simp [go_sem]
              refine ⟨gHolds_none rfl, ?_⟩
              unfold wpTailG
              have kd4 := kd.trans k4
              have hR4 := HR3.out.step kd4 (by simp)
              have HG4 : Hid (W4.heap[W1.heap.size]? = X2.heap[W1.heap.size]?) := Lib.hid ((kd4.block _ szX3 (by simp)).trans HG3.out)
              have HSZ4 : Hid (W1.heap.size < W4.heap.size) := Lib.hid (by have := kd4.size; omega)
              clear k4 kd4 kd HR3 HW3 HG3 t0 t1 t2 t3 y0' y1 y2 y3 e0 kk0 n1 n2 n3 hc1 hrd hc2 hrd2 szX3
              try go_at_K
              have kk0 := hR4.bk.cell 0
              have kf0 := hR4.bk.frozen 0
              have e0 := (HS.out.keep hR4.kw).bf.cell 0
              simp at kk0 e0
              have ew : wrap64 ((j : Int) + 1) = (j : Int) + 1 := by have := HN.out; have := HJL.out; unfold wrap64; omega
              have hR5 := hR4.count ((j : Int) + 1) (j + 1) (by omega)
              have HG5 : Hid ((W4.setCell ⟨kb, 0, none⟩ (.int .i64 ((j : Int) + 1))).heap[W1.heap.size]? = X2.heap[W1.heap.size]?) := Lib.hid ((Below.heap_setCell W4 ⟨kb, 0, none⟩ _ _ (by have := HKB.out; simp; omega)).trans HG4.out)
              have e5 := (HS.out.keep hR5.kw).bf.cell 0
              simp at e5
              have HR5 := Lib.hid hR5
              have HB : Hid (S.heap.size + 1 ≠ W1.heap.size) := Lib.hid (by omega)
              clear hR4 hR5
              by_cases hq : (j : Int) + 1 = far
              · have hmb : ((j : Int) + 1 == far) = true := by rw [beq_iff_eq]; exact hq
                have HQ := Lib.hid hq
                clear hq
                gi_wp2
                refine ⟨HR5.out.rc, (World.putObj_heap_other (Ne.symm HB.out)).trans HG5.out, ⟨j + 1, by have := HQ.out; omega, by omega, HJL.out, HR5.out.put _⟩⟩
              · have hmb : ((j : Int) + 1 == far) = false := by rw [beq_eq_false_iff_ne]; exact hq
                have HQ := Lib.hid hq
                clear hq
                gi_wp2
                refine ⟨HR5.out.rc, (World.putObj_heap_other (Ne.symm HB.out)).trans HG5.out, ⟨HR5.out.put _, HK.out, HJL.out, by have := HF.out; have := HQ.out; omega⟩⟩
          case fin =>
            rintro e W' ⟨⟨vr, rfl⟩, h⟩
            rcases h with ⟨jj, hR, hmin, hjN, hfar⟩ | ⟨q, hq, hq1, hqN, hR⟩
            · have hjm : m ≤ (jj + 1) * mo := by omega
              have hjN2 := cut_end HMO1.out.1 HX1.out.1 HX1.out.2.2 (by omega : 1 ≤ jj + 1) hjm
              obtain hjj : xs.length = jj + 1 := by omega
              refine ⟨_, .ready, none, rfl, by simp, hR.rc, ?_⟩
              have hR2 := hR.put (rc .exhausted none)
              obtain ⟨W5, hW5⟩ : ∃ W5, W5 = W'.putObj (S.heap.size + 1) (.loop (rc .exhausted none)) := ⟨_, rfl⟩
              simp only [← hW5] at hR2 ⊢
              have LS5 := HS.out.keep hR2.kw
              have kk0 := hR2.bk.cell 0
              have e0 := LS5.bf.cell 0
              have l0 := LS5.bl.cell 0
              simp at kk0 e0 l0
              have HO2 : Hid (OutR w4 (S.heap.size :: Ds) (i + 1) W5) := Lib.hid ⟨hR2.kw, List.nodup_cons.2 ⟨fun hm => by have := (hR2.dm _ hm).2.1; have := hR2.lt.2; omega, HO.out.nd⟩, fun D hD => (List.mem_cons.1 hD).elim (fun e => by rw [e]; exact ⟨by have := hR2.lt; omega, hR2.df⟩) (fun h => ⟨(hR2.dm D h).1, (hR2.dm D h).2.2⟩), le2 HI.out⟩
              have ew : wrap64 ((i : Int) + 1) = ((i + 1 : Nat) : Int) := wrap2 HI.out
              have hmu : Hid (2 - (i + 1) < 2 - i) := Lib.hid (mu2 HI.out)
              have kk1 : W5.cell? ⟨kb, 0, none⟩ = some (.int .i64 (xs.length : Int)) := by rw [kk0, hjj]; rfl
              clear kk0
              have p0 : (1 : Int) ≤ far → ¬ far < (xs.length : Int) := fun h1 h2 => hfar ⟨h1, by omega⟩
              clear hW5 hW1 hrc hR hR2 LS5 KB R0 szW1 hcbw hlw4
              clear hjj hjN2 hjm hmin hjN hfar
              by_cases h1 : (1 : Int) ≤ far
              · have h2 := p0 h1
                clear p0
                go_wp2_with (fail)
                refine ⟨⟨i + 1, S.heap.size :: Ds, HO2.out, rfl, by first | rfl | simp [mark]⟩, ?_⟩
                have := hmu.out
                simp [mu14, intOf]
                exact mu3 HI.out
              · clear p0
                go_wp2_with (fail)
                refine ⟨⟨i + 1, S.heap.size :: Ds, HO2.out, rfl, by first | rfl | simp [mark]⟩, ?_⟩
                have := hmu.out
                simp [mu14, intOf]
                exact mu3 HI.out
            · refine ⟨_, .done, (some (.exit 2)), rfl, by simp, hR.rc, ?_⟩
              have hR2 := hR.put (rc .exhausted (some (.exit 2)))
              obtain ⟨W5, hW5⟩ : ∃ W5, W5 = W'.putObj (S.heap.size + 1) (.loop (rc .exhausted (some (.exit 2)))) := ⟨_, rfl⟩
              simp only [← hW5] at hR2 ⊢
              have LS5 := HS.out.keep hR2.kw
              have kk0 := hR2.bk.cell 0
              have e0 := LS5.bf.cell 0
              have l0 := LS5.bl.cell 0
              simp at kk0 e0 l0
              have HO2 : Hid (OutR w4 (S.heap.size :: Ds) (i + 1) W5) := Lib.hid ⟨hR2.kw, List.nodup_cons.2 ⟨fun hm => by have := (hR2.dm _ hm).2.1; have := hR2.lt.2; omega, HO.out.nd⟩, fun D hD => (List.mem_cons.1 hD).elim (fun e => by rw [e]; exact ⟨by have := hR2.lt; omega, hR2.df⟩) (fun h => ⟨(hR2.dm D h).1, (hR2.dm D h).2.2⟩), le2 HI.out⟩
              have ew : wrap64 ((i : Int) + 1) = ((i + 1 : Nat) : Int) := wrap2 HI.out
              have hmu : Hid (2 - (i + 1) < 2 - i) := Lib.hid (mu2 HI.out)
              rw [hq] at kk0
              have h1 : (1 : Int) ≤ far := by omega
              clear hW5 hW1 hrc hR hR2 LS5 KB R0 szW1 hcbw hlw4
              by_cases h2 : far < (xs.length : Int)
              · clear hq hq1 hqN
                go_wp2_with (fail)
                refine ⟨⟨i + 1, S.heap.size :: Ds, _, _, _, _, _, _, _, _, _, _, _, _, _, _, _, _, _, _, _, _, HO2.out, rfl⟩, ?_⟩
                exact hmu.out
              · have h3 : far = (xs.length : Int) := by omega
                rw [h3] at kk0
                clear hq hq1 hqN h3
                go_wp2_with (fail)
                refine ⟨⟨i + 1, S.heap.size :: Ds, HO2.out, rfl, by first | rfl | simp [mark]⟩, ?_⟩
                have := hmu.out
                simp [mu14, intOf]
                exact mu3 HI.out
        · obtain rfl : i = 2 := by have := hO.le; omega
          have LSW := HS.out.keep HO.out.kw
          have b0 := LSW.ba.cell 0
          have bf0 := LSW.ba.frozen 0
          simp at b0
          clear hi hO
          go_wp2_with (fail)
          have hlw := HLT.out
          have hls := (HS.out.bl).lt
          refine leaves_marks Ds _ HO.out.nd (fun D hD => (Below.heap_setCell W _ _ _ (by have := (HO.out.at_ D hD).1; simp; omega)).trans (HO.out.at_ D hD).2) (fun W' kW => ?_)
          refine ⟨_, res_cell_bool rfl _ _ (w.heap.size + 1) true rfl ((kW.cell (by have := LSW.ba.lt; simp [World.setCell]; omega) (fun hm => by have := (HO.out.at_ _ hm).1; simp at this; omega)).trans ((LSW.ba.set_ 0 (.bool true)).cell 0)), rfl, ?_⟩
          exact ((LSW.kw.setCell (p := ⟨w.heap.size + 1, 0, none⟩) (.inr (by simp)) _).step kW (fun D hD => .inr (by have := (HO.out.at_ D hD).1; omega))).below (Nat.le_refl _) (by simp)
    · have hidb : id < 1 ∨ 2147483647 < id := by omega
      clear hid hmo
      go_upto_if 36 with (first
        | (go_at_call 18; refine (rcut_bad _ id en _ most hidb).mono ?_; rintro e w2 ⟨rfl, hw2⟩)
        | (go_at_call 19; refine (cut_ _ id en A m c most mo HMO.out).mono ?_; rintro e w4 ⟨rfl, hw4⟩))
      subst hw2
      have kw1 := HK1.out
      have BF1 : Blk w1 w.heap.size 3 #[.int .i64 far] := ((Blk.new w 3 #[.int .i64 far]).alloc (.cells #[.bool false] 4)).keep (Keep.of_below k1) (by simp)
      have BA1 : Blk w1 (w.heap.size + 1) 4 #[.bool false] := by
        have h := (Blk.new (w.alloc (.cells #[.int .i64 far] 3)) 4 #[.bool false]).keep (Keep.of_below k1) (by simp)
        simpa using h
      have BL2 := Blk.new w1 40 #[.slice none 0 0]
      obtain ⟨w3, hw3⟩ : ∃ w3, w3 = w1.alloc (.cells #[.slice none 0 0] 40) := ⟨_, rfl⟩
      have k3 : Keep [] w1 w3 := by rw [hw3]; exact (Keep.refl _ _).alloc _
      have e3 : w3.heap.size = w1.heap.size + 1 := by rw [hw3]; simp
      rw [← hw3] at hw4 BL2 ⊢
      rw [← hw4]
      clear hw3
      have k4 : Keep [] w3 w4 := by rw [hw4]; exact ((((Keep.refl _ _).alloc _).alloc _).alloc _).alloc _
      have cb1 : Blk w4 w3.heap.size 3 #[.int .i64 id] := by
        subst hw4
        exact (((Blk.new w3 3 #[.int .i64 id]).alloc _).alloc _).alloc _
      rw [← e3]
      obtain ⟨lb, hlb⟩ : ∃ lb, lb = w1.heap.size := ⟨_, rfl⟩
      obtain ⟨cb, hcb⟩ : ∃ cb, cb = w3.heap.size := ⟨_, rfl⟩
      have HS : Hid (Keep [] w w4 ∧ Blk w4 w.heap.size 3 #[.int .i64 far] ∧ Blk w4 (w.heap.size + 1) 4 #[.bool false] ∧ Blk w4 lb 40 #[.slice none 0 0] ∧ Blk w4 cb 3 #[.int .i64 id]) :=
        Lib.hid ⟨kw1.trans (k3.trans k4), BF1.keep (k3.trans k4) (by simp), BA1.keep (k3.trans k4) (by simp), by rw [hlb]; exact BL2.keep k4 (by simp), by rw [hcb]; exact cb1⟩
      have HLT : Hid (w.heap.size + 1 < lb ∧ cb = lb + 1) := Lib.hid (by have h1 := BA1.lt; omega)
      rw [← hlb, ← hcb]
      clear hw4 k4 k3 e3 BL2 BA1 BF1 kw1 cb1 hlb hcb
      have HO : Hid (OutR w4 [] 0 w4) := Lib.hid ⟨Keep.refl _ _, List.nodup_nil, by simp, by omega⟩
      go_upto_block 0 with (fail)
      go_step
      refine wp_loop (fun a W => ∃ (i : Nat) (Ds : List Nat) (x15 x18 x37 x38 x39 x40 x41 x60 x61 x62 x63 x64 x65 x66 x67 x68 x69 x70 x71 x72 : Value), OutR w4 Ds i W ∧ a = ⟨#[.int .i64 id, .bool en, .slice A m c, .int .i64 most, .int .i64 far, undef, undef, undef, undef, .pointer (some ⟨w.heap.size, 0, none⟩), .pointer (some ⟨w.heap.size + 1, 0, none⟩), .bool true, .pointer (some ⟨lb, 0, none⟩), .func (.func 23) #[] #[.pointer (some ⟨cb, 0, none⟩), .pointer (some ⟨cb + 1, 0, none⟩), .pointer (some ⟨cb + 1 + 1, 0, none⟩), .pointer (some ⟨cb + 1 + 1 + 1, 0, none⟩)], .int .i64 i, x15, undef, undef, x18, .bool true, .slice A n c, .int .i64 n, .bool (decide (2000 < (n : Int))), u23, u24, .int .i64 id, .bool en, .slice A m c, .int .i64 most, .slice none 0 0, .int .i64 id, .bool en, .slice A m c, .int .i64 most, .func (.func 23) #[] #[.pointer (some ⟨cb, 0, none⟩), .pointer (some ⟨cb + 1, 0, none⟩), .pointer (some ⟨cb + 1 + 1, 0, none⟩), .pointer (some ⟨cb + 1 + 1 + 1, 0, none⟩)], .func (.func 23) #[] #[.pointer (some ⟨cb, 0, none⟩), .pointer (some ⟨cb + 1, 0, none⟩), .pointer (some ⟨cb + 1 + 1, 0, none⟩), .pointer (some ⟨cb + 1 + 1 + 1, 0, none⟩)], .bool false, x37, x38, x39, x40, x41, undef, undef, undef, undef, undef, undef, undef, undef, undef, undef, undef, undef, undef, undef, undef, undef, undef, undef, x60, x61, x62, x63, x64, x65, x66, x67, x68, x69, x70, x71, x72, undef], Ds.map mark⟩) mu14 ?start ?round
      case start => exact ⟨0, [], _, _, _, _, _, _, _, _, _, _, _, _, _, _, _, _, _, _, _, _, HO.out, rfl⟩
      case round =>
        rintro a W hI
        obtain ⟨i, hI⟩ := hI
        obtain ⟨Ds, hI⟩ := hI
        obtain ⟨x15, hI⟩ := hI
        obtain ⟨x18, hI⟩ := hI
        obtain ⟨x37, hI⟩ := hI
        obtain ⟨x38, hI⟩ := hI
        obtain ⟨x39, hI⟩ := hI
        obtain ⟨x40, hI⟩ := hI
        obtain ⟨x41, hI⟩ := hI
        obtain ⟨x60, hI⟩ := hI
        obtain ⟨x61, hI⟩ := hI
        obtain ⟨x62, hI⟩ := hI
        obtain ⟨x63, hI⟩ := hI
        obtain ⟨x64, hI⟩ := hI
        obtain ⟨x65, hI⟩ := hI
        obtain ⟨x66, hI⟩ := hI
        obtain ⟨x67, hI⟩ := hI
        obtain ⟨x68, hI⟩ := hI
        obtain ⟨x69, hI⟩ := hI
        obtain ⟨x70, hI⟩ := hI
        obtain ⟨x71, hI⟩ := hI
        obtain ⟨x72, hI⟩ := hI
        obtain ⟨hO, rfl⟩ := hI
        have HO := Lib.hid hO
        by_cases hi : i < 2
        · have q0 : (i : Int) < 2 := by omega
          have HI := Lib.hid hi
          go_upto_block 2 with (fail)
          have BK := Blk.new W 3 #[.int .i64 0]
          have kA : Keep [] W (W.alloc (.cells #[.int .i64 0] 3)) := (Keep.refl _ _).alloc _
          obtain ⟨S, hS⟩ : ∃ S, S = W.alloc (.cells #[.int .i64 0] 3) := ⟨_, rfl⟩
          obtain ⟨kb, hkb⟩ : ∃ kb, kb = W.heap.size := ⟨_, rfl⟩
          have szS : kb + 1 = S.heap.size := by rw [hS, hkb]; simp
          rw [← hS, ← hkb] at BK ⊢
          rw [← hS] at kA
          have HKS : Hid (Keep [] w4 S) := Lib.hid (hO.kw.trans kA)
          have HDS : Hid (∀ D ∈ Ds, w4.heap.size ≤ D ∧ D < kb ∧ S.heap[D]? = some (.deferred (some []))) := Lib.hid (fun D hD => by
            have h := hO.at_ D hD
            exact ⟨h.1, by rw [hkb]; exact (Array.getElem?_eq_some_iff.1 h.2).1, kA.heap h.2 (by simp)⟩)
          have HKB : Hid (w4.heap.size ≤ kb ∧ kb + 1 = S.heap.size) := Lib.hid ⟨by rw [hkb]; exact hO.kw.size, szS⟩
          have HBK := Lib.hid BK
          clear hS hkb szS BK kA hO hi
          go_step
          refine rng_stmt' (n := 5) (gf := 23) (lb := #[.pointer (some ⟨cb, 0, none⟩), .pointer (some ⟨cb + 1, 0, none⟩), .pointer (some ⟨cb + 1 + 1, 0, none⟩), .pointer (some ⟨cb + 1 + 1 + 1, 0, none⟩)]) (by first | rfl | simp) (enters_of Try.func23 (by kernel_rfl) rfl) ?_
          intro rc hrc W1 hW1
          have KB : Keep [] S W1 := by rw [hW1]; exact ((Keep.refl [] S).alloc _).alloc _
          have R0 : RC w4 S.heap.size kb Ds (rc .ready none) 0 W1 := by
            have hkb := HKB.out
            have q1 : W1.heap[S.heap.size + 1]? = some (.loop (rc .ready none)) := by rw [hW1]; have := heap_alloc_new (S.alloc (.deferred (some []))) (.loop (rc .ready none)); simpa using this
            have q2 : W1.heap[S.heap.size]? = some (.deferred (some [])) := by rw [hW1]; exact (Below.heap_alloc _ _ _ (by simp)).trans (heap_alloc_new S (.deferred (some [])))
            exact ⟨HKS.out.trans KB, HBK.out.keep KB (by simp), q1, q2, fun D hD => ⟨(HDS.out D hD).1, (HDS.out D hD).2.1, KB.heap (HDS.out D hD).2.2 (by simp)⟩, hkb.1, by omega⟩
          refine (cutNo (m := 4) W1 (HS.out.2.2.2.2.keep R0.kw (by simp)) hidb).mono ?_
          rintro e W' ⟨⟨vr, rfl⟩, kq⟩
          have hR := R0.step kq (by simp)
          refine ⟨_, .ready, none, rfl, by simp, hR.rc, ?_⟩
          have hR2 := hR.put (rc .exhausted none)
          obtain ⟨W5, hW5⟩ : ∃ W5, W5 = W'.putObj (S.heap.size + 1) (.loop (rc .exhausted none)) := ⟨_, rfl⟩
          simp only [← hW5] at hR2 ⊢
          have kk0 := hR2.bk.cell 0
          have e0 := (HS.out.2.1.keep hR2.kw (by simp)).cell 0
          have l0 := (HS.out.2.2.2.1.keep hR2.kw (by simp)).cell 0
          simp at kk0 e0 l0
          have HO2 : Hid (OutR w4 (S.heap.size :: Ds) (i + 1) W5) := Lib.hid ⟨hR2.kw, List.nodup_cons.2 ⟨fun hm => by have := (hR2.dm _ hm).2.1; have := hR2.lt.2; omega, HO.out.nd⟩, fun D hD => (List.mem_cons.1 hD).elim (fun e => by rw [e]; exact ⟨by have := hR2.lt; omega, hR2.df⟩) (fun h => ⟨(hR2.dm D h).1, (hR2.dm D h).2.2⟩), le2 HI.out⟩
          have ew : wrap64 ((i : Int) + 1) = ((i + 1 : Nat) : Int) := wrap2 HI.out
          have hmu : Hid (2 - (i + 1) < 2 - i) := Lib.hid (mu2 HI.out)
          clear hW5 hW1 hrc hR hR2 KB R0 kq
          by_cases h1 : (1 : Int) ≤ far
          · have h2 : ¬ far < (0 : Int) := by omega
            go_wp2_with (fail)
            refine ⟨⟨i + 1, S.heap.size :: Ds, HO2.out, rfl, by first | rfl | simp [mark]⟩, ?_⟩
            simp [mu14, intOf]
            exact mu3 HI.out
          · go_wp2_with (fail)
            refine ⟨⟨i + 1, S.heap.size :: Ds, HO2.out, rfl, by first | rfl | simp [mark]⟩, ?_⟩
            simp [mu14, intOf]
            exact mu3 HI.out
        · obtain rfl : i = 2 := by have := hO.le; omega
          have hba := HS.out.2.2.1.keep HO.out.kw (by simp)
          have hkw := HS.out.1.trans HO.out.kw
          have b0 := hba.cell 0
          have bf0 := hba.frozen 0
          simp at b0
          clear hi hO
          go_wp2_with (fail)
          have hlw := HLT.out
          have hls := (HS.out.2.2.2.1).lt
          refine leaves_marks Ds _ HO.out.nd (fun D hD => (Below.heap_setCell W _ _ _ (by have := (HO.out.at_ D hD).1; simp; omega)).trans (HO.out.at_ D hD).2) (fun W' kW => ?_)
          refine ⟨_, res_cell_bool rfl _ _ (w.heap.size + 1) true rfl ((kW.cell (by have := hba.lt; simp [World.setCell]; omega) (fun hm => by have := (HO.out.at_ _ hm).1; simp at this; omega)).trans ((hba.set_ 0 (.bool true)).cell 0)), rfl, ?_⟩
          exact ((hkw.setCell (p := ⟨w.heap.size + 1, 0, none⟩) (.inr (by simp)) _).step kW (fun D hD => .inr (by have := (HO.out.at_ D hD).1; omega))).below (Nat.le_refl _) (by simp)
end Go.Proofs.Ytenegjflapppdaa
