/- The program's Play. -/
import Derived.Test.YtjnjglhkfaopmaaPlay2
set_option linter.all false
namespace Go.Proofs.Ytjnjglhkfaopmaa
open Go.ChangeShapes Go.WideShapes Go.ChangeAt Go.RowKit
attribute [local go_sem] setCell_drewN alloc_drewN Oper.semAt_some
/-- between two rounds -/
structure JP (w : World) (r : Int) (ks ns : List Int) (n c c' bk bc bn cb : Nat) (A C : Option Addr) (i : Nat) (ph : Int) (acts : List (Int × Int)) (v : Value) (W : World) : Prop where
  fd : Feed W bk bc bn cb A C n c c' ks ns i
  db : Blk W w.heap.size 55 #[.int .i64 r, .int .i64 ph]
  xb : Blk W (w.heap.size + 1) 24 #[.pointer (some ⟨w.heap.size, 0, none⟩)]
  lb : Blk W (w.heap.size + 1 + 1) 31 #[v]
  own : W.ownsRow (w.heap.size + 1 + 1 + 1 + 1 + 1) 42 2 v acts.length (encA acts)
  df : W.heap[w.heap.size + 1 + 1 + 1]? = some (.deferred (some []))
  only : w.grownBy W (some cb)
section
variable {w W W' : World} {r : Int} {ks ns : List Int} {n c c' bk bc bn cb : Nat} {A C : Option Addr} {i : Nat} {ph : Int} {acts : List (Int × Int)} {v : Value}
theorem JP.cb_lt (h : JP w r ks ns n c c' bk bc bn cb A C i ph acts v W) (h0 : cb < w.heap.size) : cb < W.heap.size := Nat.lt_of_lt_of_le h0 h.only.size
theorem JP.tick (h : JP w r ks ns n c c' bk bc bn cb A C i ph acts v W) (h0 : cb < w.heap.size) : JP w r ks ns n c c' bk bc bn cb A C (i + 1) ph acts v (W.setCell ⟨cb, 0, none⟩ (.int .i64 ((i : Int) + 1))).drew := by
  have hg : W.grownBy (W.setCell ⟨cb, 0, none⟩ (.int .i64 ((i : Int) + 1))).drew (some cb) := only_drewN (only_setCell (World.grownBy.refl W _) (.inl rfl) _) 1
  have hc := h.fd.cnt
  refine ⟨⟨(h.fd.kb.far (p := ⟨cb, 0, none⟩) (h.fd.kb.ne_ hc (by decide)) _).drew, (h.fd.cp.far (p := ⟨cb, 0, none⟩) (h.fd.cp.ne_ hc (by decide)) _).drew, (h.fd.nb.far (p := ⟨cb, 0, none⟩) (h.fd.nb.ne_ hc (by decide)) _).drew,
    (h.fd.kr.setCell (p := ⟨cb, 0, none⟩) (Nat.le_refl _) _).drew, (h.fd.nr.setCell (p := ⟨cb, 0, none⟩) (Nat.le_refl _) _).drew, (hc.set_ 0 _).drew⟩,
    (h.db.far (p := ⟨cb, 0, none⟩) (by first | (simp; done) | (simp; omega)) _).drew, (h.xb.far (p := ⟨cb, 0, none⟩) (by first | (simp; done) | (simp; omega)) _).drew, (h.lb.far (p := ⟨cb, 0, none⟩) (by first | (simp; done) | (simp; omega)) _).drew,
    h.own.kept hg ?_, (hg.block _ (Array.getElem?_eq_some_iff.1 h.df).1 (by first | (simp; done) | (simp; omega))).trans h.df, only_trans h.only hg (fun j e => .inl (by injection e with e; exact e.symm))⟩
  cases ho : v.ownBlock with
  | none => exact .inl rfl
  | some g => right; intro e; injection e with e; have := (h.own.lt g ho).1; omega
theorem Feed.kept {hg0 : Nat} (h : Feed W bk bc bn cb A C n c c' ks ns i) (hg : W.grownBy W' (some hg0)) (h1 : bk < hg0) (h2 : bc < hg0) (h3 : bn < hg0) (h4 : cb < hg0) : Feed W' bk bc bn cb A C n c c' ks ns i :=
  ⟨h.kb.grown hg (by first | (simp; done) | (simp; omega)), h.cp.grown hg (by first | (simp; done) | (simp; omega)), h.nb.grown hg (by first | (simp; done) | (simp; omega)), h.kr.grown hg (Nat.le_of_lt h.cnt.lt) (fun g e => by injection e with e; omega), h.nr.grown hg (Nat.le_of_lt h.cnt.lt) (fun g e => by injection e with e; omega), h.cnt.grown hg (by first | (simp; done) | (simp; omega))⟩
theorem Feed.below (h : Feed W bk bc bn cb A C n c c' ks ns i) (hb : Below W.heap.size W W') : Feed W' bk bc bn cb A C n c c' ks ns i :=
  ⟨h.kb.below hb h.kb.lt, h.cp.below hb h.cp.lt, h.nb.below hb h.nb.lt, h.kr.below (hb.mono (Nat.le_of_lt h.cnt.lt)), h.nr.below (hb.mono (Nat.le_of_lt h.cnt.lt)), h.cnt.below hb h.cnt.lt⟩
theorem JP.moved {ph' : Int} (h : JP w r ks ns n c c' bk bc bn cb A C i ph acts v W) (h1 : bk < w.heap.size) (h2 : bc < w.heap.size) (h3 : bn < w.heap.size) (h4 : cb < w.heap.size)
    (hb : Blk W' w.heap.size 55 #[.int .i64 r, .int .i64 ph']) (hg : W.grownBy W' (some w.heap.size)) : JP w r ks ns n c c' bk bc bn cb A C i ph' acts v W' := by
  refine ⟨h.fd.kept hg h1 h2 h3 h4, hb, h.xb.grown hg (by simp), h.lb.grown hg (by simp <;> omega), h.own.kept hg ?_, (hg.block _ (Array.getElem?_eq_some_iff.1 h.df).1 (by simp <;> omega)).trans h.df, only_trans h.only hg (fun j e => .inr (by injection e with e; omega))⟩
  cases ho : v.ownBlock with
  | none => exact .inl rfl
  | some g => right; intro e; injection e with e; have := (h.own.lt g ho).1; omega
theorem JP.put {o : Obj} {rr : Loop} (h : JP w r ks ns n c c' bk bc bn cb A C i ph acts v W) (h1 : bk < w.heap.size) (h2 : bc < w.heap.size) (h3 : bn < w.heap.size) (h4 : cb < w.heap.size)
    (hL : W.heap[w.heap.size + 1 + 1 + 1 + 1]? = some (.loop rr)) : JP w r ks ns n c c' bk bc bn cb A C i ph acts v (W.putObj (w.heap.size + 1 + 1 + 1 + 1) o) := by
  have hg : W.grownBy (W.putObj (w.heap.size + 1 + 1 + 1 + 1) o) (some (w.heap.size + 1 + 1 + 1 + 1)) := only_putObj (World.grownBy.refl W _) (.inl rfl)
  refine ⟨h.fd.kept hg (by omega) (by omega) (by omega) (by omega), h.db.grown hg (by first | (simp; done) | (simp; omega)), h.xb.grown hg (by first | (simp; done) | (simp; omega)), h.lb.grown hg (by simp), h.own.kept hg ?_, (hg.block _ (Array.getElem?_eq_some_iff.1 h.df).1 (by simp)).trans h.df, only_trans h.only hg (fun j e => .inr (by injection e with e; omega))⟩
  cases ho : v.ownBlock with
  | none => exact .inl rfl
  | some g => right; intro e; injection e with e; have := (h.own.lt g ho).1; omega
theorem JP.took {xs : List (Int × Int)} {v' : Value} (h : JP w r ks ns n c c' bk bc bn cb A C i ph acts v W) (h1 : bk < w.heap.size) (h2 : bc < w.heap.size) (h3 : bn < w.heap.size) (h4 : cb < w.heap.size)
    (ho : W'.ownsRow (w.heap.size + 1 + 1 + 1 + 1 + 1) 42 2 v' (acts.length + xs.length) (encA acts ++ encA xs)) (hg : W.grownBy W' v.ownBlock) (hs : w.heap.size + 1 + 1 + 1 + 1 < W.heap.size) :
    JP w r ks ns n c c' bk bc bn cb A C i ph (acts ++ xs) v' (W'.setCell ⟨w.heap.size + 1 + 1, 0, none⟩ v') := by
  have hv : ∀ g, v.ownBlock = some g → w.heap.size + 1 + 1 + 1 + 1 + 1 ≤ g := fun g e => (h.own.lt g e).1
  have ne : ∀ g, g < w.heap.size + 1 + 1 + 1 + 1 + 1 → some g ≠ v.ownBlock := fun g hg e => by have := hv g e.symm; omega
  have hg2 : W'.grownBy (W'.setCell ⟨w.heap.size + 1 + 1, 0, none⟩ v') (some (w.heap.size + 1 + 1)) := only_setCell (World.grownBy.refl W' _) (.inl rfl) _
  have fd1 : Feed W' bk bc bn cb A C n c c' ks ns i := ⟨h.fd.kb.grown hg (ne _ (by omega)), h.fd.cp.grown hg (ne _ (by omega)), h.fd.nb.grown hg (ne _ (by omega)), h.fd.kr.grown hg (Nat.le_of_lt h.fd.cnt.lt) (fun g e => by have := hv g e; omega), h.fd.nr.grown hg (Nat.le_of_lt h.fd.cnt.lt) (fun g e => by have := hv g e; omega), h.fd.cnt.grown hg (ne _ (by omega))⟩
  have df1 := (hg.block _ (Array.getElem?_eq_some_iff.1 h.df).1 (ne _ (by omega))).trans h.df
  refine ⟨fd1.kept hg2 (by omega) (by omega) (by omega) (by omega), (h.db.grown hg (ne _ (by omega))).grown hg2 (by first | (simp; done) | (simp; omega)), (h.xb.grown hg (ne _ (by omega))).grown hg2 (by simp), (h.lb.grown hg (ne _ (by omega))).set_ 0 _, ?_, (hg2.block _ (Array.getElem?_eq_some_iff.1 df1).1 (by simp)).trans df1, only_trans (only_trans h.only hg (fun j e => .inr (by have := hv j e; omega))) hg2 (fun j e => .inr (by injection e with e; omega))⟩
  rw [encA_append, List.length_append]
  refine ho.kept hg2 ?_
  cases hb : v'.ownBlock with
  | none => exact .inl rfl
  | some g => right; intro e; injection e with e; have := (ho.lt g hb).1; omega
theorem JP.out_only (W : World) (D : Nat) : W.grownBy (W.putObj D (.deferred none)) (some D) := only_putObj (World.grownBy.refl W _) (.inl rfl)
theorem JP.out_reads {B : Option Addr} {m d : Nat} (h : JP w r ks ns n c c' bk bc bn cb A C i ph acts (.slice B m d) W) : Reads (W.putObj (w.heap.size + 1 + 1 + 1) (.deferred none)) (W.putObj (w.heap.size + 1 + 1 + 1) (.deferred none)).heap.size 2 B acts.length (encA acts) := by
  have ho := h.own.kept (JP.out_only W (w.heap.size + 1 + 1 + 1)) (by
    cases hb : (Value.slice B m d).ownBlock with
    | none => exact .inl rfl
    | some g => right; intro e; injection e with e; have := (h.own.lt g hb).1; omega)
  obtain ⟨B', c', e⟩ := own_slice ho (by decide)
  injection e with e1 e2 e3
  subst e1 e2 e3
  exact Reads.of_own ho
theorem JP.out_cnt (h : JP w r ks ns n c c' bk bc bn cb A C i ph acts v W) (h0 : cb < w.heap.size) : Blk (W.putObj (w.heap.size + 1 + 1 + 1) (.deferred none)) cb 3 #[.int .i64 i] :=
  h.fd.cnt.grown (JP.out_only W _) (by simp; omega)
end
set_option maxRecDepth 100000 in
set_option maxHeartbeats 8000000 in
theorem play (r : Int) (hr : r = 1 ∨ r = 2) (ks ns : List Int) (n c c' bk bc bn cb : Nat) (A C : Option Addr) (w : World) (hn : n ≤ 100) (hk : ks.length = n) (hs : ns.length = n)
    (fd : Feed w bk bc bn cb A C n c c' ks ns 0) (FA : List (Int × Int)) (FC : Nat) (hF : playR r 0 [] (ks.zip ns) 0 = (FA, FC)) :
    Calls Try.prog 21 #[.int .i64 r, .func (.func 25) #[] #[.pointer (some ⟨bk, 0, none⟩), .pointer (some ⟨bc, 0, none⟩), .pointer (some ⟨bn, 0, none⟩)]] w fun e w' =>
      ∃ B d, e = .returned (.slice B FA.length d) ∧ Reads w' w'.heap.size 2 B FA.length (encA FA) ∧ Blk w' cb 3 #[.int .i64 FC] ∧ w.grownBy w' (some cb) := by
  have hr' := Lib.hid hr
  have hfe := fun (w : World) (a b : Array Value) => run_eql_func_nil (P := Try.prog) w 48 (.func 25) a b Try.underlying48
  clear hr
  refine rng_func Try.func21 rfl ?_
  simp only [Try.ntmps21, List.size_toArray, List.length_cons, List.length_nil, Nat.reduceAdd, Nat.reduceSub, Array.replicate_succ, Array.replicate_zero, List.push_toArray, List.append_toArray, List.nil_append, List.cons_append]
  go_wp2
  go_step3
  go_wp2_with (go_at_call 9; refine (new_yes r hr'.out _).mono ?_; rintro e w' ⟨rfl, rfl⟩)
  go_step3
  go_wp2
  refine rng_stmt' (n := 5) (gf := 25) (lb := #[.pointer (some ⟨bk, 0, none⟩), .pointer (some ⟨bc, 0, none⟩), .pointer (some ⟨bn, 0, none⟩)]) rfl (enters_of Try.func25 (by kernel_rfl) rfl) ?_
  intro rc hrc W1 hW1
  simp only [World.size_alloc] at hrc hW1 ⊢
  refine (steps1 (m := 4) hn hk hs (fun i W => ∃ ph acts v, acts.length ≤ 2 * i ∧ JP w r ks ns n c c' bk bc bn cb A C i ph acts v W ∧ playR r ph acts ((ks.zip ns).drop i) i = (FA, FC) ∧ W.heap[w.heap.size + 1 + 1 + 1 + 1]? = some (.loop (rc .ready none)))
    (fun W => ∃ v, FA.length ≤ 200 ∧ JP w r ks ns n c c' bk bc bn cb A C FC 3 FA v W ∧ W.heap[w.heap.size + 1 + 1 + 1 + 1]? = some (.loop (rc .done (some (.exit 0))))) (fun i W ⟨_, _, _, _, h, _⟩ => h.fd) ?round W1 ?start).mono ?fin
  case start =>
    subst hW1
    have a1 := (((((Below.refl w.heap.size w).alloc (Nat.le_refl _) (.cells #[.int .i64 r, .int .i64 0] 55)).alloc (by simp) (.cells #[.pointer (some ⟨w.heap.size, 0, none⟩)] 24)).alloc (by simp <;> omega) (.cells #[.slice none 0 0] 31)).alloc (by simp <;> omega) (.deferred (some []))).alloc (by simp <;> omega) (.loop (rc .ready none))
    have b0 := Blk.new w 55 #[.int .i64 r, .int .i64 0]
    have b1 := Blk.new (w.alloc (.cells #[.int .i64 r, .int .i64 0] 55)) 24 #[.pointer (some ⟨w.heap.size, 0, none⟩)]
    have b2 := Blk.new ((w.alloc (.cells #[.int .i64 r, .int .i64 0] 55)).alloc (.cells #[.pointer (some ⟨w.heap.size, 0, none⟩)] 24)) 31 #[.slice none 0 0]
    have b3 := heap_alloc_new (((w.alloc (.cells #[.int .i64 r, .int .i64 0] 55)).alloc (.cells #[.pointer (some ⟨w.heap.size, 0, none⟩)] 24)).alloc (.cells #[.slice none 0 0] 31)) (.deferred (some []))
    have b4 := heap_alloc_new ((((w.alloc (.cells #[.int .i64 r, .int .i64 0] 55)).alloc (.cells #[.pointer (some ⟨w.heap.size, 0, none⟩)] 24)).alloc (.cells #[.slice none 0 0] 31)).alloc (.deferred (some []))) (.loop (rc .ready none))
    simp only [World.size_alloc] at b0 b1 b2 b3 b4
    refine ⟨0, [], .slice none 0 0, by simp, ⟨fd.below a1, ((((b0.alloc _).alloc _).alloc _).alloc _), (((b1.alloc _).alloc _).alloc _), ((b2.alloc _).alloc _), World.ownsRow_nil _ _ _ _, (Below.heap_alloc _ _ _ (by simp)).trans b3, only_of_below a1 _⟩, by simpa using hF, b4⟩
  case fin =>
    rintro e W' ⟨⟨vr, rfl⟩, h⟩
    clear hW1 hrc
    have fin : ∀ (ph : Int) (v : Value) (st : LoopState) (pe : Option Code), JP w r ks ns n c c' bk bc bn cb A C FC ph FA v W' → W'.heap[w.heap.size + 1 + 1 + 1 + 1]? = some (.loop (rc st pe)) →
        JP w r ks ns n c c' bk bc bn cb A C FC ph FA v (W'.putObj (w.heap.size + 1 + 1 + 1 + 1) (.loop (rc .exhausted pe))) := fun ph v st pe J hL => J.put fd.kb.lt fd.cp.lt fd.nb.lt fd.cnt.lt hL
    rcases h with ⟨ph, acts, v, hlen, J, hrun, hL⟩ | ⟨v, hlen, J, hL⟩
    · rw [List.drop_of_length_le (by simp; omega)] at hrun
      simp only [playR] at hrun
      injection hrun with g1 g2
      subst g1 g2
      have J2 := fin _ _ _ _ J hL
      refine ⟨_, .ready, none, rfl, by simp, hL, ?_⟩
      obtain ⟨W2, hW2⟩ : ∃ W2, W2 = W'.putObj (w.heap.size + 1 + 1 + 1 + 1) (.loop (rc .exhausted none)) := ⟨_, rfl⟩
      rw [← hW2] at J2
      simp only [← hW2]
      clear hW2 J hL fin
      have l0 := J2.lb.cell 0
      simp at l0
      obtain ⟨A3, d3, rfl⟩ := own_slice J2.own (by decide)
      go_wp2
      rw [Exit.noGoto_ret]
      refine ⟨by simp, .inl ⟨_, _, rfl, run_takeDeferred J2.df, ?_⟩⟩
      refine ⟨_, results_tmp rfl _ _ _, A3, d3, rfl, ?_, ?_, ?_⟩
      · exact J2.out_reads
      · exact J2.out_cnt fd.cnt.lt
      · exact only_putObj J2.only (.inr (by omega))
    · have J2 := fin _ _ _ _ J hL
      refine ⟨_, .done, _, rfl, by simp, hL, ?_⟩
      obtain ⟨W2, hW2⟩ : ∃ W2, W2 = W'.putObj (w.heap.size + 1 + 1 + 1 + 1) (.loop (rc .exhausted (some (.exit 0)))) := ⟨_, rfl⟩
      rw [← hW2] at J2
      simp only [← hW2]
      clear hW2 J hL fin
      have l0 := J2.lb.cell 0
      simp at l0
      obtain ⟨A3, d3, rfl⟩ := own_slice J2.own (by decide)
      go_wp2
      rw [Exit.noGoto_ret]
      refine ⟨by simp, .inl ⟨_, _, rfl, run_takeDeferred J2.df, ?_⟩⟩
      refine ⟨_, results_tmp rfl _ _ _, A3, d3, rfl, ?_, ?_, ?_⟩
      · exact J2.out_reads
      · exact J2.out_cnt fd.cnt.lt
      · exact only_putObj J2.only (.inr (by omega))
  case round =>
    rintro i k x W ⟨ph, acts, v, hlen, J, hrun, hL⟩ hki hxi
    have J2 := J.tick fd.cnt.lt
    have hL2 : (W.setCell ⟨cb, 0, none⟩ (.int .i64 ((i : Int) + 1))).drew.heap[w.heap.size + 1 + 1 + 1 + 1]? = some (.loop (rc .ready none)) := (Below.heap_setCell W ⟨cb, 0, none⟩ _ _ (by have := fd.cnt.lt; simp; omega)).trans hL
    obtain ⟨W2, hW2⟩ : ∃ W2, W2 = (W.setCell ⟨cb, 0, none⟩ (.int .i64 ((i : Int) + 1))).drew := ⟨_, rfl⟩
    rw [← hW2] at J2 hL2 ⊢
    clear hW2
    obtain ⟨ki, hki2⟩ := List.getElem?_eq_some_iff.1 hki
    obtain ⟨xi, hxi2⟩ := List.getElem?_eq_some_iff.1 hxi
    have hz : i < (ks.zip ns).length := by simp; omega
    rw [List.drop_eq_getElem_cons hz] at hrun
    simp only [playR, List.getElem_zip, hki2, hxi2] at hrun
    clear hki2 hxi2 hki hxi hz J hL
    have HR := Lib.hid hrun
    clear hrun hW1
    refine rng_round' hrc hL2 rfl ?_
    clear hrc
    have d0 := J2.db.cell 0
    have d1 := J2.db.cell 1
    have x0 := J2.xb.cell 0
    have l0 := J2.lb.cell 0
    simp at d0 d1 x0 l0
    gi_wp2
    refine ⟨hL2, ?_⟩
    have hs5 : w.heap.size + 1 + 1 + 1 + 1 < W2.heap.size := (Array.getElem?_eq_some_iff.1 hL2).1
    have J3 := J2.put (o := .loop (rc .busy none)) fd.kb.lt fd.cp.lt fd.nb.lt fd.cnt.lt hL2
    have hL3 : (W2.putObj (w.heap.size + 1 + 1 + 1 + 1) (.loop (rc .busy none))).heap[w.heap.size + 1 + 1 + 1 + 1]? = some (.loop (rc .busy none)) := by simp [World.putObj, hs5]
    obtain ⟨W3, hW3⟩ : ∃ W3, W3 = W2.putObj (w.heap.size + 1 + 1 + 1 + 1) (.loop (rc .busy none)) := ⟨_, rfl⟩
    rw [← hW3] at J3 hL3 ⊢
    have hs6 : w.heap.size + 1 + 1 + 1 + 1 < W3.heap.size := (Array.getElem?_eq_some_iff.1 hL3).1
    clear hW3 hs5 J2 hL2 d0 d1 x0 l0
    have d0 := J3.db.cell 0
    have d1 := J3.db.cell 1
    have x0 := J3.xb.cell 0
    have l0 := J3.lb.cell 0
    simp at d0 d1 x0 l0
    obtain ⟨i0, hi, hz0, hz1, hz2⟩ := info_parts act_info
    by_cases q1 : k = 1
    · have st : stepA r ph k x = (beginA r ph x, beginP r ph x) := by simp [stepA, q1]
      have e1 : (k == 1) = true := by simp [q1]
      rw [st] at HR
      clear q1 st
      have hs6' := hs6
      gi_wp2
      refine region_rt [(4, true), (5, false), (6, false)] [(0, v), (1, .pointer (some ⟨w.heap.size, 0, none⟩)), (2, .int .i64 x), (3, .int .i64 x)] (fun W => W.cell? ⟨w.heap.size + 1, 0, none⟩ = some (.pointer (some ⟨w.heap.size, 0, none⟩)) ∧ W.cell? ⟨w.heap.size + 1 + 1, 0, none⟩ = some v) (by kernel_rfl) (by kernel_rfl) ⟨x0, l0⟩ ?_ ?_
      · (simp only [evOk, putAll, List.getElem?_toArray, List.getElem?_cons_zero, List.getElem?_cons_succ, Option.bind_some, Act.put, List.setIfInBounds_toArray, List.set_cons_zero, List.set_cons_succ]; repeat' apply And.intro) <;> first | exact trivial | (rintro W ⟨hx, hl⟩; simp [go_sem, hx, hl])
      · simp only [putAll, List.getElem?_toArray, List.getElem?_cons_zero, List.getElem?_cons_succ, Option.bind_some, Act.put, List.setIfInBounds_toArray, List.set_cons_zero, List.set_cons_succ]
        refine tail_step rfl ?_
        simp [go_sem]
        refine ⟨trivial, (CallsIn.inRound _ (callsIn_wide.2 (begin_ w.heap.size r ph x x _ J3.db.drew))).mono ?_⟩
        rintro e w2 ⟨A1, c1, rfl, hr1, hb1, hg1, hf1⟩
        have lst := beginA_len r ph x
        have sz1 : W3.heap.size ≤ w2.heap.size := hg1.size
        have hg1' : W3.grownBy w2 (some w.heap.size) := ⟨hg1.os, hg1.tape, hg1.output, hg1.size, hg1.block⟩
        have J4 := J3.moved fd.kb.lt fd.cp.lt fd.nb.lt fd.cnt.lt hb1 hg1'
        have hL4 := (hg1'.block _ hs6 (by simp; omega)).trans hL3
        have x4 := J4.xb.cell 0
        have l4 := J4.lb.cell 0
        simp at x4 l4
        refine ⟨⟨x4, l4⟩, ?_⟩
        refine tail_step rfl ?_
        refine wpIn_append_any w2 _ _ _ rfl (w.heap.size + 1 + 1 + 1 + 1 + 1) 42 i0 _ 2 16 Try.underlying31 hi hz0 hz1 hz2 rfl (by decide) v acts.length (encA acts) rfl J4.own _ A1 _ c1 _ rfl hr1 (encA_one _) (by unfold maxLen; omega) (by omega) (by omega) ?_
        intro v3 w3 hown3 hg3 hat3
        obtain ⟨A3, d3, rfl⟩ := own_slice hown3 (by decide)
        have J5 := J4.took fd.kb.lt fd.cp.lt fd.nb.lt fd.cnt.lt hown3 hg3 (by omega)
        have l5 := (J4.lb.grown hg3 (by intro e; have := (J4.own.lt _ e.symm).1; omega)).cell 0
        have f5 := (J4.lb.grown hg3 (by intro e; have := (J4.own.lt _ e.symm).1; omega)).frozen 0
        have hL5 := (Below.heap_setCell w3 ⟨w.heap.size + 1 + 1, 0, none⟩ (.slice A3 (acts.length + (beginA r ph x).length) d3) _ (by simp; omega)).trans ((hg3.block _ (by omega) (by intro e; have := (J4.own.lt _ e.symm).1; omega)).trans hL4)
        simp at l5
        refine ⟨rfl, fun h => (by cases h), ?_⟩
        refine tail_step rfl ?_
        clear hown3 hg3 hat3 J4 J3 hg1 hg1' hb1 hr1 x4 l4 hz0 hz1 hz2 hi d0 d1 x0 l0 hL4 hL3
        simp [go_sem, l5, f5]
        unfold wpTail
        obtain ⟨W5, hW5⟩ : ∃ W5, W5 = w3.setCell ⟨w.heap.size + 1 + 1, 0, none⟩ (.slice A3 (acts.length + (beginA r ph x).length) d3) := ⟨_, rfl⟩
        rw [← hW5] at J5 hL5 ⊢
        clear hW5 l5 f5
        have c5 := J5.db.cell 1
        have x5 := J5.xb.cell 0
        simp at c5 x5
        have hlL := Lib.hid (Array.getElem?_eq_some_iff.1 hL5).1
        go_at_K
        by_cases h3 : beginP r ph x = 3
        · have p3 : (beginP r ph x == 3) = true := by simp [h3]
          have HR2 := HR.out
          rw [if_pos h3] at HR2
          rw [h3] at J5
          injection HR2 with g1 g2
          subst g1 g2
          clear HR h3
          gi_wp2
          exact ⟨by first | omega | (simp; omega), ⟨_, J5.put fd.kb.lt fd.cp.lt fd.nb.lt fd.cnt.lt hL5⟩, put_heap hlL.out⟩
        · have p3 : (beginP r ph x == 3) = false := by simp [h3]
          have HR2 := HR.out
          rw [if_neg h3] at HR2
          have HR3 := Lib.hid HR2
          clear HR h3 HR2
          gi_wp2
          exact ⟨_, _, by first | omega | (simp; omega), ⟨_, J5.put fd.kb.lt fd.cp.lt fd.nb.lt fd.cnt.lt hL5⟩, HR3.out, put_heap hlL.out⟩
    by_cases q2 : k = 2
    · have st : stepA r ph k x = (pongA ph true x x, pongP ph true x) := by simp [stepA, q1, q2]
      have e1 : (k == 1) = false := by simp [q1]
      have e2 : (k == 2) = true := by simp [q2]
      rw [st] at HR
      clear q1 q2 st
      have hs6' := hs6
      gi_wp2
      refine region_rt [(2, true), (5, true), (6, false), (7, false)] [(0, v), (1, .pointer (some ⟨w.heap.size, 0, none⟩)), (3, .int .i64 x), (4, .int .i64 x)] (fun W => W.cell? ⟨w.heap.size + 1, 0, none⟩ = some (.pointer (some ⟨w.heap.size, 0, none⟩)) ∧ W.cell? ⟨w.heap.size + 1 + 1, 0, none⟩ = some v) (by kernel_rfl) (by kernel_rfl) ⟨x0, l0⟩ ?_ ?_
      · (simp only [evOk, putAll, List.getElem?_toArray, List.getElem?_cons_zero, List.getElem?_cons_succ, Option.bind_some, Act.put, List.setIfInBounds_toArray, List.set_cons_zero, List.set_cons_succ]; repeat' apply And.intro) <;> first | exact trivial | (rintro W ⟨hx, hl⟩; simp [go_sem, hx, hl])
      · simp only [putAll, List.getElem?_toArray, List.getElem?_cons_zero, List.getElem?_cons_succ, Option.bind_some, Act.put, List.setIfInBounds_toArray, List.set_cons_zero, List.set_cons_succ]
        refine tail_step rfl ?_
        simp [go_sem]
        refine ⟨trivial, (CallsIn.inRound _ (callsIn_wide.2 (mark _))).mono ?_⟩
        rintro e wm ⟨rfl, rfl⟩
        have x3 := (J3.xb.alloc (.cells (encB markL).toArray 5 (8, 9))).cell 0
        have l3 := (J3.lb.alloc (.cells (encB markL).toArray 5 (8, 9))).cell 0
        simp at x3 l3
        refine ⟨⟨x3, l3⟩, ?_⟩
        refine tail_step rfl ?_
        simp [go_sem]
        refine ⟨trivial, (CallsIn.inRound _ (callsIn_wide.2 (pong w.heap.size r ph x x _ _ 8 8 markS true (str_mark W3.drew 8) markS_is (J3.db.drew.alloc _)))).mono ?_⟩
        rintro e w2 ⟨A1, c1, rfl, hr1, hb1, hg1, hf1⟩
        have lst := pongA_len ph true x x
        have sz1 : W3.heap.size ≤ w2.heap.size := by have := hg1.size; simp at this; omega
        have hg1' : W3.grownBy w2 (some w.heap.size) := only_trans (only_drewN (only_alloc (World.grownBy.refl W3 _) _) 1) hg1 (fun j e => .inl (by injection e with e; exact e.symm))
        have J4 := J3.moved fd.kb.lt fd.cp.lt fd.nb.lt fd.cnt.lt hb1 hg1'
        have hL4 := (hg1'.block _ hs6 (by simp; omega)).trans hL3
        have x4 := J4.xb.cell 0
        have l4 := J4.lb.cell 0
        simp at x4 l4
        refine ⟨⟨x4, l4⟩, ?_⟩
        refine tail_step rfl ?_
        refine wpIn_append_any w2 _ _ _ rfl (w.heap.size + 1 + 1 + 1 + 1 + 1) 42 i0 _ 2 16 Try.underlying31 hi hz0 hz1 hz2 rfl (by decide) v acts.length (encA acts) rfl J4.own _ A1 _ c1 _ rfl hr1 (encA_one _) (by unfold maxLen; omega) (by omega) (by omega) ?_
        intro v3 w3 hown3 hg3 hat3
        obtain ⟨A3, d3, rfl⟩ := own_slice hown3 (by decide)
        have J5 := J4.took fd.kb.lt fd.cp.lt fd.nb.lt fd.cnt.lt hown3 hg3 (by omega)
        have l5 := (J4.lb.grown hg3 (by intro e; have := (J4.own.lt _ e.symm).1; omega)).cell 0
        have f5 := (J4.lb.grown hg3 (by intro e; have := (J4.own.lt _ e.symm).1; omega)).frozen 0
        have hL5 := (Below.heap_setCell w3 ⟨w.heap.size + 1 + 1, 0, none⟩ (.slice A3 (acts.length + (pongA ph true x x).length) d3) _ (by simp; omega)).trans ((hg3.block _ (by omega) (by intro e; have := (J4.own.lt _ e.symm).1; omega)).trans hL4)
        simp at l5
        refine ⟨rfl, fun h => (by cases h), ?_⟩
        refine tail_step rfl ?_
        clear hown3 hg3 hat3 J4 J3 hg1 hg1' hb1 hr1 x4 l4 hz0 hz1 hz2 hi d0 d1 x0 l0 hL4 hL3
        simp [go_sem, l5, f5]
        unfold wpTail
        obtain ⟨W5, hW5⟩ : ∃ W5, W5 = w3.setCell ⟨w.heap.size + 1 + 1, 0, none⟩ (.slice A3 (acts.length + (pongA ph true x x).length) d3) := ⟨_, rfl⟩
        rw [← hW5] at J5 hL5 ⊢
        clear hW5 l5 f5
        have c5 := J5.db.cell 1
        have x5 := J5.xb.cell 0
        simp at c5 x5
        have hlL := Lib.hid (Array.getElem?_eq_some_iff.1 hL5).1
        go_at_K
        by_cases h3 : pongP ph true x = 3
        · have p3 : (pongP ph true x == 3) = true := by simp [h3]
          have HR2 := HR.out
          rw [if_pos h3] at HR2
          rw [h3] at J5
          injection HR2 with g1 g2
          subst g1 g2
          clear HR h3
          gi_wp2
          exact ⟨by first | omega | (simp; omega), ⟨_, J5.put fd.kb.lt fd.cp.lt fd.nb.lt fd.cnt.lt hL5⟩, put_heap hlL.out⟩
        · have p3 : (pongP ph true x == 3) = false := by simp [h3]
          have HR2 := HR.out
          rw [if_neg h3] at HR2
          have HR3 := Lib.hid HR2
          clear HR h3 HR2
          gi_wp2
          exact ⟨_, _, by first | omega | (simp; omega), ⟨_, J5.put fd.kb.lt fd.cp.lt fd.nb.lt fd.cnt.lt hL5⟩, HR3.out, put_heap hlL.out⟩
    by_cases q3 : k = 3
    · have st : stepA r ph k x = (lookA ph x, lookP ph x) := by simp [stepA, q1, q2, q3]
      have e1 : (k == 1) = false := by simp [q1]
      have e2 : (k == 2) = false := by simp [q2]
      have e3 : (k == 3) = true := by simp [q3]
      rw [st] at HR
      clear q1 q2 q3 st
      have hs6' := hs6
      gi_wp2
      refine region_rt [(4, true), (5, false), (6, false)] [(0, v), (1, .pointer (some ⟨w.heap.size, 0, none⟩)), (2, .int .i64 x), (3, .int .i64 x)] (fun W => W.cell? ⟨w.heap.size + 1, 0, none⟩ = some (.pointer (some ⟨w.heap.size, 0, none⟩)) ∧ W.cell? ⟨w.heap.size + 1 + 1, 0, none⟩ = some v) (by kernel_rfl) (by kernel_rfl) ⟨x0, l0⟩ ?_ ?_
      · (simp only [evOk, putAll, List.getElem?_toArray, List.getElem?_cons_zero, List.getElem?_cons_succ, Option.bind_some, Act.put, List.setIfInBounds_toArray, List.set_cons_zero, List.set_cons_succ]; repeat' apply And.intro) <;> first | exact trivial | (rintro W ⟨hx, hl⟩; simp [go_sem, hx, hl])
      · simp only [putAll, List.getElem?_toArray, List.getElem?_cons_zero, List.getElem?_cons_succ, Option.bind_some, Act.put, List.setIfInBounds_toArray, List.set_cons_zero, List.set_cons_succ]
        refine tail_step rfl ?_
        simp [go_sem]
        refine ⟨trivial, (CallsIn.inRound _ (callsIn_wide.2 (look w.heap.size r ph x x _ J3.db.drew))).mono ?_⟩
        rintro e w2 ⟨A1, c1, rfl, hr1, hb1, hg1, hf1⟩
        have lst := lookA_len ph x
        have sz1 : W3.heap.size ≤ w2.heap.size := hg1.size
        have hg1' : W3.grownBy w2 (some w.heap.size) := ⟨hg1.os, hg1.tape, hg1.output, hg1.size, hg1.block⟩
        have J4 := J3.moved fd.kb.lt fd.cp.lt fd.nb.lt fd.cnt.lt hb1 hg1'
        have hL4 := (hg1'.block _ hs6 (by simp; omega)).trans hL3
        have x4 := J4.xb.cell 0
        have l4 := J4.lb.cell 0
        simp at x4 l4
        refine ⟨⟨x4, l4⟩, ?_⟩
        refine tail_step rfl ?_
        refine wpIn_append_any w2 _ _ _ rfl (w.heap.size + 1 + 1 + 1 + 1 + 1) 42 i0 _ 2 16 Try.underlying31 hi hz0 hz1 hz2 rfl (by decide) v acts.length (encA acts) rfl J4.own _ A1 _ c1 _ rfl hr1 (encA_one _) (by unfold maxLen; omega) (by omega) (by omega) ?_
        intro v3 w3 hown3 hg3 hat3
        obtain ⟨A3, d3, rfl⟩ := own_slice hown3 (by decide)
        have J5 := J4.took fd.kb.lt fd.cp.lt fd.nb.lt fd.cnt.lt hown3 hg3 (by omega)
        have l5 := (J4.lb.grown hg3 (by intro e; have := (J4.own.lt _ e.symm).1; omega)).cell 0
        have f5 := (J4.lb.grown hg3 (by intro e; have := (J4.own.lt _ e.symm).1; omega)).frozen 0
        have hL5 := (Below.heap_setCell w3 ⟨w.heap.size + 1 + 1, 0, none⟩ (.slice A3 (acts.length + (lookA ph x).length) d3) _ (by simp; omega)).trans ((hg3.block _ (by omega) (by intro e; have := (J4.own.lt _ e.symm).1; omega)).trans hL4)
        simp at l5
        refine ⟨rfl, fun h => (by cases h), ?_⟩
        refine tail_step rfl ?_
        clear hown3 hg3 hat3 J4 J3 hg1 hg1' hb1 hr1 x4 l4 hz0 hz1 hz2 hi d0 d1 x0 l0 hL4 hL3
        simp [go_sem, l5, f5]
        unfold wpTail
        obtain ⟨W5, hW5⟩ : ∃ W5, W5 = w3.setCell ⟨w.heap.size + 1 + 1, 0, none⟩ (.slice A3 (acts.length + (lookA ph x).length) d3) := ⟨_, rfl⟩
        rw [← hW5] at J5 hL5 ⊢
        clear hW5 l5 f5
        have c5 := J5.db.cell 1
        have x5 := J5.xb.cell 0
        simp at c5 x5
        have hlL := Lib.hid (Array.getElem?_eq_some_iff.1 hL5).1
        go_at_K
        by_cases h3 : lookP ph x = 3
        · have p3 : (lookP ph x == 3) = true := by simp [h3]
          have HR2 := HR.out
          rw [if_pos h3] at HR2
          rw [h3] at J5
          injection HR2 with g1 g2
          subst g1 g2
          clear HR h3
          gi_wp2
          exact ⟨by first | omega | (simp; omega), ⟨_, J5.put fd.kb.lt fd.cp.lt fd.nb.lt fd.cnt.lt hL5⟩, put_heap hlL.out⟩
        · have p3 : (lookP ph x == 3) = false := by simp [h3]
          have HR2 := HR.out
          rw [if_neg h3] at HR2
          have HR3 := Lib.hid HR2
          clear HR h3 HR2
          gi_wp2
          exact ⟨_, _, by first | omega | (simp; omega), ⟨_, J5.put fd.kb.lt fd.cp.lt fd.nb.lt fd.cnt.lt hL5⟩, HR3.out, put_heap hlL.out⟩
    by_cases q4 : k = 4
    · have st : stepA r ph k x = (lateA r ph x, 3) := by simp [stepA, q1, q2, q3, q4]
      have e1 : (k == 1) = false := by simp [q1]
      have e2 : (k == 2) = false := by simp [q2]
      have e3 : (k == 3) = false := by simp [q3]
      have e4 : (k == 4) = true := by simp [q4]
      rw [st] at HR
      clear q1 q2 q3 q4 st
      have hs6' := hs6
      gi_wp2
      refine region_rt [(3, true), (4, false), (5, false)] [(0, v), (1, .pointer (some ⟨w.heap.size, 0, none⟩)), (2, .int .i64 x)] (fun W => W.cell? ⟨w.heap.size + 1, 0, none⟩ = some (.pointer (some ⟨w.heap.size, 0, none⟩)) ∧ W.cell? ⟨w.heap.size + 1 + 1, 0, none⟩ = some v) (by kernel_rfl) (by kernel_rfl) ⟨x0, l0⟩ ?_ ?_
      · (simp only [evOk, putAll, List.getElem?_toArray, List.getElem?_cons_zero, List.getElem?_cons_succ, Option.bind_some, Act.put, List.setIfInBounds_toArray, List.set_cons_zero, List.set_cons_succ]; repeat' apply And.intro) <;> first | exact trivial | (rintro W ⟨hx, hl⟩; simp [go_sem, hx, hl])
      · simp only [putAll, List.getElem?_toArray, List.getElem?_cons_zero, List.getElem?_cons_succ, Option.bind_some, Act.put, List.setIfInBounds_toArray, List.set_cons_zero, List.set_cons_succ]
        refine tail_step rfl ?_
        simp [go_sem]
        refine ⟨trivial, (CallsIn.inRound _ (callsIn_wide.2 (late w.heap.size r ph x _ J3.db.drew))).mono ?_⟩
        rintro e w2 ⟨A1, c1, rfl, hr1, hb1, hg1, hf1⟩
        have lst := lateA_len r ph x
        have sz1 : W3.heap.size ≤ w2.heap.size := hg1.size
        have hg1' : W3.grownBy w2 (some w.heap.size) := ⟨hg1.os, hg1.tape, hg1.output, hg1.size, hg1.block⟩
        have J4 := J3.moved fd.kb.lt fd.cp.lt fd.nb.lt fd.cnt.lt hb1 hg1'
        have hL4 := (hg1'.block _ hs6 (by simp; omega)).trans hL3
        have x4 := J4.xb.cell 0
        have l4 := J4.lb.cell 0
        simp at x4 l4
        refine ⟨⟨x4, l4⟩, ?_⟩
        refine tail_step rfl ?_
        refine wpIn_append_any w2 _ _ _ rfl (w.heap.size + 1 + 1 + 1 + 1 + 1) 42 i0 _ 2 16 Try.underlying31 hi hz0 hz1 hz2 rfl (by decide) v acts.length (encA acts) rfl J4.own _ A1 _ c1 _ rfl hr1 (encA_one _) (by unfold maxLen; omega) (by omega) (by omega) ?_
        intro v3 w3 hown3 hg3 hat3
        obtain ⟨A3, d3, rfl⟩ := own_slice hown3 (by decide)
        have J5 := J4.took fd.kb.lt fd.cp.lt fd.nb.lt fd.cnt.lt hown3 hg3 (by omega)
        have l5 := (J4.lb.grown hg3 (by intro e; have := (J4.own.lt _ e.symm).1; omega)).cell 0
        have f5 := (J4.lb.grown hg3 (by intro e; have := (J4.own.lt _ e.symm).1; omega)).frozen 0
        have hL5 := (Below.heap_setCell w3 ⟨w.heap.size + 1 + 1, 0, none⟩ (.slice A3 (acts.length + (lateA r ph x).length) d3) _ (by simp; omega)).trans ((hg3.block _ (by omega) (by intro e; have := (J4.own.lt _ e.symm).1; omega)).trans hL4)
        simp at l5
        refine ⟨rfl, fun h => (by cases h), ?_⟩
        refine tail_step rfl ?_
        clear hown3 hg3 hat3 J4 J3 hg1 hg1' hb1 hr1 x4 l4 hz0 hz1 hz2 hi d0 d1 x0 l0 hL4 hL3
        simp [go_sem, l5, f5]
        unfold wpTail
        obtain ⟨W5, hW5⟩ : ∃ W5, W5 = w3.setCell ⟨w.heap.size + 1 + 1, 0, none⟩ (.slice A3 (acts.length + (lateA r ph x).length) d3) := ⟨_, rfl⟩
        rw [← hW5] at J5 hL5 ⊢
        clear hW5 l5 f5
        have c5 := J5.db.cell 1
        have x5 := J5.xb.cell 0
        simp at c5 x5
        have hlL := Lib.hid (Array.getElem?_eq_some_iff.1 hL5).1
        go_at_K
        have HR2 := HR.out
        first | rw [if_pos rfl] at HR2 | rw [if_pos trivial] at HR2
        injection HR2 with g1 g2
        subst g1 g2
        clear HR
        gi_wp2
        exact ⟨by first | omega | (simp; omega), ⟨_, J5.put fd.kb.lt fd.cp.lt fd.nb.lt fd.cnt.lt hL5⟩, put_heap hlL.out⟩
    · have st : stepA r ph k x = ([], ph) := by simp [stepA, q1, q2, q3, q4]
      have e1 : (k == 1) = false := by simp [q1]
      have e2 : (k == 2) = false := by simp [q2]
      have e3 : (k == 3) = false := by simp [q3]
      have e4 : (k == 4) = false := by simp [q4]
      rw [st] at HR
      simp only [List.append_nil] at HR
      clear q1 q2 q3 q4 st l0 d0 hz0 hz1 hz2 hi
      have hlL := Lib.hid (Array.getElem?_eq_some_iff.1 hL3).1
      clear hs6
      by_cases h3 : ph = 3
      · have p3 : (ph == 3) = true := by simp [h3]
        have HR2 := HR.out
        rw [if_pos h3] at HR2
        rw [h3] at J3
        injection HR2 with g1 g2
        subst g1 g2
        clear HR h3
        gi_wp2
        exact ⟨by first | omega | (simp; omega), ⟨_, J3.put fd.kb.lt fd.cp.lt fd.nb.lt fd.cnt.lt hL3⟩, put_heap hlL.out⟩
      · have p3 : (ph == 3) = false := by simp [h3]
        have HR2 := HR.out
        rw [if_neg h3] at HR2
        have HR3 := Lib.hid HR2
        clear HR h3 HR2
        gi_wp2
        exact ⟨_, _, by first | omega | (simp; omega), ⟨_, J3.put fd.kb.lt fd.cp.lt fd.nb.lt fd.cnt.lt hL3⟩, HR3.out, put_heap hlL.out⟩
end Go.Proofs.Ytjnjglhkfaopmaa
