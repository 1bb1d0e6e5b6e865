/- pipe: Chunks, over sizes. -/
import Derived.Test.YtinokgmmdmkbcaaIt1
set_option linter.all false
namespace Go.Proofs.Ytinokgmmdmkbcaa
open Go.ChangeShapes Go.WideShapes Go.ChangeAt Go.RowKit
attribute [local go_sem] setCell_drewN alloc_drewN Oper.semAt_some
theorem YieldAt.deep {m m' l : Nat} {P : Program} {args : Array Value} {W : World} {R : Ending → World → Prop} (h : YieldAt Fence.wide m P l args W R) : YieldAt Fence.wide m' P l args W R := by
  obtain ⟨f, t, a, b, hy, hR⟩ := h
  exact ⟨f, t, a, b, hy, hR.1, fun c cs _ => hR.2 c cs (room_wide _)⟩
/-- what Chunks' walk finds in a world between two rounds -/
structure CF (s base : Nat) (W : World) (pb c1 c2 bl bc : Nat) (pc : Option Nat) (A : Option Addr) (n c : Nat) (zs : List Int) (i : Nat) (v : Value) (bs : List UInt8) (en to : Bool) : Prop where
  fd : Feed s W bl bc pc A n c zs i
  pp : Pp W base pb 51 v bs en to
  b1 : Blk W c1 25 #[.pointer (some ⟨pb, 0, none⟩)]
  b2 : Blk W c2 38 #[.func (.func 25) #[] #[.pointer (some ⟨bl, 0, none⟩), .pointer (some ⟨bc, 0, none⟩)]]
  ln : bs.length ≤ 140737488355328
  off : 0 < n → ∀ ad, A = some ad → ad.block ≠ pb
/-- the walk's own blocks: yield, n, what is owed, the inner loop's record -/
structure Loc (q l j : Nat) (W : World) (rec_ : Obj) : Prop where
  yb : Blk W q 52 #[.func (.yield l) #[] #[]]
  nb : Blk W (q + 1) 3 #[.int .i64 j]
  df : W.heap[q + 1 + 1]? = some (.deferred (some []))
  rc : W.heap[q + 1 + 1 + 1]? = some rec_
theorem Loc.keep {q l j : Nat} {W W' : World} {rec_ : Obj} {gs : List Nat} (h : Loc q l j W rec_) (k : Keep gs W W') (hg : ∀ g ∈ gs, g < q ∨ q + 1 + 1 + 1 < g) : Loc q l j W' rec_ :=
  ⟨h.yb.keep k (fun x => by have := hg _ x; omega), h.nb.keep k (fun x => by have := hg _ x; omega), k.heap h.df (fun x => by have := hg _ x; omega), k.heap h.rc (fun x => by have := hg _ x; omega)⟩
theorem Loc.same {q l j : Nat} {W W' : World} {rec_ : Obj} (h : Loc q l j W rec_) (k : ∀ g, q ≤ g → g ≤ q + 1 + 1 + 1 → W'.heap[g]? = W.heap[g]?) : Loc q l j W' rec_ :=
  ⟨(k _ (by omega) (by omega)).trans h.yb, (k _ (by omega) (by omega)).trans h.nb, (k _ (by omega) (by omega)).trans h.df, (k _ (by omega) (by omega)).trans h.rc⟩
theorem Loc.put {q l j : Nat} {W : World} {o o' : Obj} (h : Loc q l j W o) : Loc q l j (W.putObj (q + 1 + 1 + 1) o') o' :=
  ⟨blk_putObj h.yb (by omega), blk_putObj h.nb (by omega), (World.putObj_heap_other (by omega)).trans h.df, put_heap (Array.getElem?_eq_some_iff.1 h.rc).1⟩
theorem CF.keep {s base : Nat} {W W' : World} {pb c1 c2 bl bc : Nat} {pc : Option Nat} {A : Option Addr} {n c : Nat} {zs : List Int} {i : Nat} {v : Value} {bs : List UInt8} {en to : Bool} {gs : List Nat} (h : CF s base W pb c1 c2 bl bc pc A n c zs i v bs en to) (k : Keep gs W W')
    (hg : ∀ g ∈ gs, (0 < n → ∀ ad, A = some ad → ad.block ≠ g) ∧ g ≠ bl ∧ g ≠ bc ∧ pc ≠ some g ∧ g ≠ pb ∧ g ≠ c1 ∧ g ≠ c2 ∧ rowBlk v ≠ some g) : CF s base W' pb c1 c2 bl bc pc A n c zs i v bs en to :=
  ⟨h.fd.keep k (fun g x => ⟨(hg g x).1, (hg g x).2.1, (hg g x).2.2.1, (hg g x).2.2.2.1⟩), h.pp.keep k (fun x => (hg _ x).2.2.2.2.1 rfl) (fun g e x => (hg g x).2.2.2.2.2.2.2 e),
   h.b1.keep k (fun x => (hg _ x).2.2.2.2.2.1 rfl), h.b2.keep k (fun x => (hg _ x).2.2.2.2.2.2.1 rfl), h.ln, h.off⟩
section
variable {s base : Nat} {W W' : World} {pb c1 c2 bl bc : Nat} {pc : Option Nat} {A : Option Addr} {n c : Nat} {zs : List Int} {i : Nat} {v v' : Value} {bs bs' : List UInt8} {en to en' to' : Bool}
theorem CF.tick (h : CF s base W pb c1 c2 bl bc pc A n c zs i v bs en to) : CF s base (tickW pc i W) pb c1 c2 bl bc pc A n c zs (i + 1) v bs en to := by
  have k := tickW_keep pc i W
  have ne : ∀ {g t cs}, Blk W g t cs → t ≠ 3 → g ∉ pc.toList := fun {g t cs} hb ht hx => by
    have hx : pc = some g := by simpa using hx
    exact hb.ne_ (h.fd.cnt _ hx) ht rfl
  refine ⟨h.fd.tick, h.pp.keep k (ne h.pp.blk (by decide)) (fun g e hx => ?_), h.b1.keep k (ne h.b1 (by decide)), h.b2.keep k (ne h.b2 (by decide)), h.ln, h.off⟩
  have hx : pc = some g := by simpa using hx
  obtain ⟨A', cap, rfl, _, _, h2⟩ := h.pp.row
  rcases h2 with ⟨rfl, _⟩ | ⟨g', off, cs, rfl, _, hb', _⟩
  · cases e
  · injection e with e
    subst e
    exact absurd rfl (hb'.ne_ (h.fd.cnt _ hx) (by decide))
theorem CF.cut (h : CF s base W pb c1 c2 bl bc pc A n c zs i v bs en to) (k : Keep [pb] W W') (hp : Pp W' base pb 51 v' bs' en' to') (hl : bs'.length ≤ bs.length) : CF s base W' pb c1 c2 bl bc pc A n c zs i v' bs' en' to' :=
  ⟨h.fd.keep k (fun g x => by
      simp at x
      subst x
      exact ⟨h.off, h.pp.blk.ne_ h.fd.lb (by decide), h.pp.blk.ne_ h.fd.cp (by decide), fun e => h.pp.blk.ne_ (h.fd.cnt _ e) (by decide) rfl⟩), hp,
    h.b1.keep k (by simp; exact h.b1.ne_ h.pp.blk (by decide)), h.b2.keep k (by simp; exact h.b2.ne_ h.pp.blk (by decide)), by have := h.ln; omega, h.off⟩
end
theorem row_off_loop {w : World} {base l : Nat} {t : TypeId} {v : Value} {xs : List Value} {r : Loop} (h : Row1 w base t v xs) (hL : w.heap[l]? = some (.loop r)) : rowBlk v ≠ some l := fun e => by
  obtain ⟨A', cap, rfl, _, _, h2⟩ := h
  rcases h2 with ⟨rfl, _⟩ | ⟨g', off, cs, rfl, _, hb', _⟩
  · cases e
  · injection e with e
    subst e
    exact loop_ne hb' hL rfl
theorem RoundIn.wide {m m' l l2 f : Nat} {P : Program} {t : Array Value} {a b : Code} {w : World} {R : Ending → World → Prop} (h : RoundIn Fence.wide m P l f t a b w R) : RoundIn (Fence.wide.inRound l2) m' P l f t a b w R :=
  ⟨h.1, fun c cs _ => h.2 c cs (room_wide _)⟩
set_option maxRecDepth 100000 in
set_option maxHeartbeats 8000000 in
theorem chunksIt {m l s base pb c1 c2 bl bc : Nat} {pc : Option Nat} {A : Option Addr} {n c : Nat} {zs : List Int} {en to : Bool} (hn : n ≤ 9223372036854775807) (hk : zs.length = n) (hcn : pc.isSome = true → n ≤ 1000)
    (J : Nat → Nat → List UInt8 → Value → World → Prop) (K : World → Prop)
    (hJ : ∀ i j bs v W, J i j bs v W → CF s base W pb c1 c2 bl bc pc A n c zs i v bs en to)
    (W0 : World)
    (hst : ∀ i j bs v W W', J i j bs v W → Keep [W0.heap.size, W0.heap.size + 1, W0.heap.size + 1 + 1, W0.heap.size + 1 + 1 + 1] W W' → J i j bs v W')
    (hstK : ∀ W W', K W → Keep [W0.heap.size, W0.heap.size + 1, W0.heap.size + 1 + 1, W0.heap.size + 1 + 1 + 1] W W' → K W')
    (hskip : ∀ i j bs v W z, J i j bs v W → zs[i]? = some z → bs ≠ [] → z < 1 → J (i + 1) j bs v (tickW pc i W))
    (hround : ∀ i j bs v W z k, J i j bs v W → zs[i]? = some z → bs ≠ [] → 1 ≤ z → k = min z.toNat bs.length → W0.heap.size + 1 + 1 + 1 < W.heap.size → ∀ W2 v2 r, Keep (pb :: (W0.heap.size + 1 + 1 + 1) :: pc.toList) W W2 → CF s base W2 pb c1 c2 bl bc pc A n c zs (i + 1) v2 (bs.drop k) en to → Row1 W2 W.heap.size 5 r (encB (bs.take k)) → Same v v2 →
      YieldAt Fence.wide m Try.prog l #[.int .i64 j, r] W2 fun e W' => (∀ g, W0.heap.size ≤ g → g ≤ W0.heap.size + 1 + 1 + 1 → W'.heap[g]? = W2.heap[g]?) ∧ ((e = .returned (.bool true) ∧ ∃ v', J (i + 1) (j + 1) (bs.drop k) v' W') ∨ (e = .returned (.bool false) ∧ K W')))
    (hc1 : c1 < W0.heap.size) (hc2 : c2 < W0.heap.size) (hpb : pb < W0.heap.size) (hbl : bl < W0.heap.size) (hbc : bc < W0.heap.size) (hpc : ∀ g, pc = some g → g < W0.heap.size)
    (bs0 : List UInt8) (v0 : Value) (hne : bs0 ≠ []) (h0 : J 0 0 bs0 v0 W0) :
    CallsIn Fence.wide m Try.prog 23 #[.func (.yield l) #[] #[], .pointer (some ⟨c1, 0, none⟩), .pointer (some ⟨c2, 0, none⟩)] W0 fun e W' => (∃ v, e = .returned v) ∧
      ((∃ i j bs v, J i j bs v W' ∧ (i = n ∨ bs = [])) ∨ K W') := by
  have hfe := fun (w : World) (a b : Array Value) => run_eql_func_nil (P := Try.prog) w 38 (.func 25) a b Try.underlying38
  have cf0 := hJ _ _ _ _ _ h0
  obtain ⟨q, hq⟩ : ∃ q, q = W0.heap.size := ⟨_, rfl⟩
  rw [← hq] at hst hstK hround
  have Hst := Lib.hid hst
  have HstK := Lib.hid hstK
  have Hskip := Lib.hid hskip
  have Hround := Lib.hid hround
  clear hst hstK hskip hround
  refine callsIn_wide.2 (rng_func Try.func23 rfl ?_)
  simp only [Try.ntmps23, List.size_toArray, List.length_cons, List.length_nil, Nat.reduceAdd, Nat.reduceSub, Array.replicate_succ, Array.replicate_zero, List.push_toArray, List.append_toArray, List.nil_append, List.cons_append]
  have p1 := (cf0.b1.alloc (.cells #[.func (.yield l) #[] #[]] 52)).cell 0
  have p2 := (cf0.b2.alloc (.cells #[.func (.yield l) #[] #[]] 52)).cell 0
  simp at p1 p2
  have pA := cf0.pp.keep ((Keep.refl [] W0).alloc (.cells #[.func (.yield l) #[] #[]] 52)) (by simp) (by simp)
  have hl0 : ((bs0.length : Int) == 0) = false := by
    cases bs0 with
    | nil => exact absurd rfl hne
    | cons _ _ => simp; omega
  go_wp2
  go_step3
  go_wp2_with (go_at_call 14; apply (len_ pA).mono; rintro e w' ⟨rfl, rfl⟩)
  go_step3
  go_wp2
  rw [← hq]
  have KA : Keep [] W0 ((W0.alloc (.cells #[.func (.yield l) #[] #[]] 52)).alloc (.cells #[.int .i64 0] 3)) := ((Keep.refl [] W0).alloc _).alloc _
  have yA := (Blk.new W0 52 #[.func (.yield l) #[] #[]]).alloc (.cells #[.int .i64 0] 3)
  have nA := Blk.new (W0.alloc (.cells #[.func (.yield l) #[] #[]] 52)) 3 #[.int .i64 0]
  simp only [World.size_alloc] at nA
  obtain ⟨WA, hWA⟩ : ∃ WA, WA = (W0.alloc (.cells #[.func (.yield l) #[] #[]] 52)).alloc (.cells #[.int .i64 0] 3) := ⟨_, rfl⟩
  have szA : WA.heap.size = q + 1 + 1 := by rw [hWA, hq]; simp
  rw [← hWA] at KA yA nA ⊢
  rw [← hq] at yA nA
  have Hq := Lib.hid hq
  clear hWA p1 p2 pA hq
  refine rng_stmt' (n := 5) (gf := 25) (lb := #[.pointer (some ⟨bl, 0, none⟩), .pointer (some ⟨bc, 0, none⟩)]) rfl (enters_of Try.func25 (by kernel_rfl) rfl) ?_
  intro rc hrc W1 hW1
  rw [szA] at hrc ⊢
  refine (sizesIt (m := 4) (l := q + 1 + 1 + 1) hn hk (fun i W => ∃ j bs v, J i j bs v W ∧ bs ≠ [] ∧ j ≤ i ∧ Loc q l j W (.loop (rc .ready none)))
    (fun W => ((∃ i j bs v, J i j bs v W ∧ bs = []) ∨ K W) ∧ W.heap[q + 1 + 1]? = some (.deferred (some [])) ∧ W.heap[q + 1 + 1 + 1]? = some (.loop (rc .done (some (.exit 0)))))
    (fun i W ⟨_, _, _, h, _⟩ => (hJ _ _ _ _ _ h).fd) hcn ?round W1 ?start).mono ?fin
  case start =>
    have KB : Keep [] WA W1 := by rw [hW1]; exact ((Keep.refl [] WA).alloc _).alloc _
    have r1 : W1.heap[WA.heap.size + 1]? = some (.loop (rc .ready none)) := by rw [hW1]; have := heap_alloc_new (WA.alloc (.deferred (some []))) (.loop (rc .ready none)); simpa using this
    have r2 : W1.heap[WA.heap.size]? = some (.deferred (some [])) := by rw [hW1]; exact (Below.heap_alloc _ _ _ (by simp)).trans (heap_alloc_new WA (.deferred (some [])))
    rw [szA] at r1 r2
    exact ⟨0, bs0, v0, Hst.out _ _ _ _ _ _ h0 ((KA.trans KB).more (by simp)), hne, by omega, ⟨yA.keep KB (by simp), nA.keep KB (by simp), r2, r1⟩⟩
  case fin =>
    rintro e W' ⟨⟨vr, rfl⟩, h⟩
    clear hW1 hrc hfe
    have h' : ∃ st pe, st ≠ .busy ∧ (pe = none ∨ pe = some (.exit 0)) ∧ ((∃ i j bs v, J i j bs v W' ∧ (i = n ∨ bs = [])) ∨ K W') ∧ W'.heap[q + 1 + 1]? = some (.deferred (some [])) ∧ W'.heap[q + 1 + 1 + 1]? = some (.loop (rc st pe)) := by
      rcases h with ⟨j, bs, v, hj, _, _, loc⟩ | ⟨hh, h2, h3⟩
      · exact ⟨_, _, by simp, .inl rfl, .inl ⟨_, _, _, _, hj, .inl rfl⟩, loc.df, loc.rc⟩
      · refine ⟨_, _, by simp, .inr rfl, ?_, h2, h3⟩
        rcases hh with ⟨i, j, bs, v, hj, hb⟩ | hh
        · exact .inl ⟨_, _, _, _, hj, .inr hb⟩
        · exact .inr hh
    clear h
    obtain ⟨st, pe, hst, hpe, hfin, hdf, hL⟩ := h'
    refine ⟨_, st, pe, rfl, hst, hL, ?_⟩
    have hdf2 : (W'.putObj (q + 1 + 1 + 1) (.loop (rc .exhausted pe))).heap[q + 1 + 1]? = some (.deferred (some [])) := (World.putObj_heap_other (by omega)).trans hdf
    have FIN : ((∃ i j bs v, J i j bs v ((W'.putObj (q + 1 + 1 + 1) (.loop (rc .exhausted pe))).putObj (q + 1 + 1) (.deferred none)) ∧ (i = n ∨ bs = [])) ∨ K ((W'.putObj (q + 1 + 1 + 1) (.loop (rc .exhausted pe))).putObj (q + 1 + 1) (.deferred none))) := by
      have kk : Keep [q, q + 1, q + 1 + 1, q + 1 + 1 + 1] W' ((W'.putObj (q + 1 + 1 + 1) (.loop (rc .exhausted pe))).putObj (q + 1 + 1) (.deferred none)) := ((Keep.refl _ W').putObj (.inl (by simp)) _).putObj (.inl (by simp)) _
      rcases hfin with ⟨i, j, bs, v, hj, hb⟩ | hh
      · exact .inl ⟨i, j, bs, v, Hst.out _ _ _ _ _ _ hj kk, hb⟩
      · exact .inr (HstK.out _ _ hh kk)
    have HF := Lib.hid FIN
    obtain ⟨W2, hW2⟩ : ∃ W2, W2 = W'.putObj (q + 1 + 1 + 1) (.loop (rc .exhausted pe)) := ⟨_, rfl⟩
    rw [← hW2] at hdf2 HF
    simp only [← hW2]
    clear hW2 FIN hL hst hfin hdf
    rcases hpe with rfl | rfl
    all_goals
      go_wp2
      try rw [Exit.noGoto_normal]
      refine ⟨by simp, .inl ⟨_, _, rfl, run_takeDeferred hdf2, ?_⟩⟩
      exact ⟨_, results_none rfl _ _ _, ⟨_, rfl⟩, HF.out⟩
  case round =>
    rintro i z W ⟨j, bs, v, hj, hb, hji, loc⟩ hzi
    have hiz : i < n := by rw [← hk]; exact (List.getElem?_eq_some_iff.1 hzi).1
    have kt := tickW_keep pc i W
    have loc2 := loc.keep kt (fun g hg => .inl (by have := hpc g (by simpa using hg); have := Hq.out; omega))
    have cf2 := (hJ _ _ _ _ _ hj).tick
    refine rng_round' hrc loc2.rc rfl ?_
    clear hrc hW1
    have szt : q + 1 + 1 + 1 < W.heap.size := (Array.getElem?_eq_some_iff.1 loc.rc).1
    have hq1 : pb < q := by rw [Hq.out]; exact hpb
    have hq2 : c1 < q := by rw [Hq.out]; exact hc1
    have hq3 : c2 < q := by rw [Hq.out]; exact hc2
    gi_wp2
    refine ⟨loc2.rc, ?_⟩
    have kb : Keep [q + 1 + 1 + 1] (tickW pc i W) ((tickW pc i W).putObj (q + 1 + 1 + 1) (.loop (rc .busy none))) := (Keep.refl _ _).putObj (.inl (by simp)) _
    have loc3 := loc2.put (o' := .loop (rc .busy none))
    have hszt := kt.size
    have hq4 : bl < q := by rw [Hq.out]; exact hbl
    have hq5 : bc < q := by rw [Hq.out]; exact hbc
    have hq6 : s ≤ q := by rw [Hq.out]; exact cf0.fd.sz
    have cf3 : CF s base ((tickW pc i W).putObj (q + 1 + 1 + 1) (.loop (rc .busy none))) pb c1 c2 bl bc pc A n c zs (i + 1) v bs en to := cf2.keep kb (fun g hg => by
      simp at hg
      subst hg
      exact ⟨fun h0 ad e => by have := cf0.fd.lr.blk_lt h0 ad e; omega, by omega, by omega, fun e => by have := hpc _ e; have := Hq.out; omega, by omega, by omega, by omega, row_off_loop cf2.pp.row loc2.rc⟩)
    by_cases hz : z < 1
    · have hj2 := Hskip.out _ _ _ _ _ _ hj hzi hb hz
      have hj3 := Lib.hid (Hst.out _ _ _ _ _ _ hj2 (((Keep.refl _ _).putObj (l := q + 1 + 1 + 1) (.inl (by simp)) (.loop (rc .busy none))).putObj (l := q + 1 + 1 + 1) (.inl (by simp)) (.loop (rc .ready none))))
      have L3 := Lib.hid loc3
      clear hj hj2 cf2 cf3 loc loc2 loc3 kt
      gi_wp2
      exact ⟨L3.out.rc, j, bs, ⟨v, hj3.out⟩, hb, by omega, L3.out.put⟩
    · obtain ⟨zn, rfl⟩ : ∃ zn : Nat, z = zn := ⟨z.toNat, by omega⟩
      have hz1 : 1 ≤ (zn : Int) := by omega
      have k13 : Keep (pb :: (q + 1 + 1 + 1) :: pc.toList) W ((tickW pc i W).putObj (q + 1 + 1 + 1) (.loop (rc .busy none))) := (kt.more (fun g hg => .inl (by simp at hg; simp [hg]))).putObj (.inl (by simp)) _
      have sz3 : ((tickW pc i W).putObj (q + 1 + 1 + 1) (.loop (rc .busy none))).heap.size = W.heap.size := by
        cases pc <;> simp [tickW, World.setCell, World.putObj]
      obtain ⟨W3, hW3⟩ : ∃ W3, W3 = (tickW pc i W).putObj (q + 1 + 1 + 1) (.loop (rc .busy none)) := ⟨_, rfl⟩
      rw [← hW3] at loc3 cf3 k13 sz3 ⊢
      clear hW3 kb loc loc2 cf2 kt hszt
      have cf4 := cf3.keep ((Keep.refl [] W3).drew) (by simp)
      have loc4 := loc3.keep ((Keep.refl [] W3).drew) (by simp)
      have k14 := k13.drew
      have sz4 : W3.drew.heap.size = W.heap.size := sz3
      have x1 := cf4.b1.cell 0
      have x2 := loc4.yb.cell 0
      have x3 := loc4.nb.cell 0
      simp at x1 x2 x3
      obtain ⟨k, hk'⟩ : ∃ k, k = min zn bs.length := ⟨_, rfl⟩
      have hcut := Lib.hid (cut2_ cf4.pp cf4.ln zn k hk')
      have HR := Lib.hid (Hround.out i j bs v W zn k hj hzi hb hz1 (by rw [hk']; rfl) szt)
      have HLen := Lib.hid (len_ cf4.pp)
      have CF4 := Lib.hid cf4
      have LO4 := Lib.hid loc4
      have hl1 : ((bs.length : Int) == 0) = false := by
        cases bs with
        | nil => exact absurd rfl hb
        | cons _ _ => simp; omega
      clear loc3 cf3 k13 sz3 hj cf4 loc4
      gi_wp2
      refine region_rtg [(1, true), (2, true), (3, true), (8, true), (9, false), (10, false), (11, false), (12, false), (13, false), (14, false), (15, false), (16, false)] [(3, false)]
        [(0, .pointer (some ⟨pb, 0, none⟩)), (4, .func (.yield l) #[] #[]), (5, .int .i64 j), (6, .pointer (some ⟨pb, 0, none⟩)), (7, .int .i64 zn)]
        (fun W => W.cell? ⟨c1, 0, none⟩ = some (.pointer (some ⟨pb, 0, none⟩)) ∧ W.cell? ⟨q, 0, none⟩ = some (.func (.yield l) #[] #[]) ∧ W.cell? ⟨q + 1, 0, none⟩ = some (.int .i64 j)) (by kernel_rfl) (by kernel_rfl) ⟨x1, x2, x3⟩ ?_ ?_
      · (simp only [evOk, putAll, List.getElem?_toArray, List.getElem?_cons_zero, List.getElem?_cons_succ, Option.bind_some, Act.put, List.setIfInBounds_toArray, List.set_cons_zero, List.set_cons_succ]; repeat' apply And.intro) <;> first | exact trivial | (rintro W ⟨hx, hl, hy⟩; simp [go_sem, hx, hl, hy])
      · simp only [putAll, List.getElem?_toArray, List.getElem?_cons_zero, List.getElem?_cons_succ, Option.bind_some, Act.put, List.setIfInBounds_toArray, List.set_cons_zero, List.set_cons_succ]
        obtain ⟨W4, hW4⟩ : ∃ W4, W4 = W3.drew := ⟨_, rfl⟩
        rw [← hW4] at hcut k14 sz4 CF4 LO4 HLen ⊢
        clear hW4 x1 x2 x3
        have x1 := CF4.out.b1.cell 0
        have x2 := LO4.out.yb.cell 0
        have x3 := LO4.out.nb.cell 0
        simp at x1 x2 x3
        refine tail_wanted rfl rfl ?_
        simp [go_sem]
        refine ⟨trivial, (CallsIn.inRound _ (callsIn_wide.2 HLen.out)).mono ?_⟩
        rintro e w2 ⟨rfl, rfl⟩
        refine ⟨⟨⟨x1, x2, x3⟩, gHolds_none rfl⟩, ?_⟩
        refine tail_wanted rfl rfl ?_
        simp [go_sem, hl1]
        refine ⟨⟨⟨x1, x2, x3⟩, gHolds_none rfl⟩, ?_⟩
        refine tail_wanted rfl rfl ?_
        simp [go_sem]
        refine ⟨⟨⟨x1, x2, x3⟩, fun b hb => by obtain rfl := Option.some.inj hb; rfl⟩, ?_⟩
        refine tail_wanted rfl rfl ?_
        simp [go_sem]
        refine ⟨trivial, (CallsIn.inRound _ (callsIn_wide.2 hcut.out)).mono ?_⟩
        rintro e W5 ⟨r, v2, rfl, hr5, hp5, k5, hm5⟩
        have cf5 := CF4.out.cut k5 hp5 (by simp)
        have loc5 := LO4.out.keep k5 (by simp; omega)
        have z1 := cf5.b1.cell 0
        have z2 := loc5.yb.cell 0
        have z3 := loc5.nb.cell 0
        simp at z1 z2 z3
        refine ⟨⟨⟨z1, z2, z3⟩, gHolds_none rfl⟩, ?_⟩
        have kw5 : Keep (pb :: (q + 1 + 1 + 1) :: pc.toList) W W5 := k14.step k5 (by simp)
        rw [sz4] at hr5
        obtain ⟨fY, tY, aY, bY, hy, hR⟩ := HR.out W5 v2 r kw5 cf5 hr5 hm5
        clear hm5 kw5 cf5 hp5 k5 hr5 x1 x2 x3 k14
        refine tail_wanted rfl rfl ?_
        simp [go_sem, hy]
        refine (RoundIn.wide hR).mono ?_
        rintro e W6 ⟨hsame, (⟨rfl, v6, hj6⟩ | ⟨rfl, hk6⟩)⟩
        · obtain ⟨D, hD⟩ : ∃ D, D = bs.drop k := ⟨_, rfl⟩
          rw [← hD] at hj6
          clear hD
          have loc6 := loc5.same hsame
          have cf6 := hJ _ _ _ _ _ hj6
          have y1 := cf6.b1.cell 0
          have y3 := loc6.nb.cell 0
          have y3f := loc6.nb.frozen 0
          simp at y1 y3
          clear z1 z2 z3 loc5 hsame hy hR hcut
          simp only []
          refine ⟨gHolds_none rfl, ?_⟩
          refine tail_wanted rfl rfl ?_
          simp [go_sem]
          refine ⟨gHolds_none rfl, ?_⟩
          refine tail_wanted rfl rfl ?_
          simp [go_sem]
          refine ⟨gHolds_none rfl, ?_⟩
          refine tail_wanted rfl rfl ?_
          simp [go_sem]
          refine ⟨gHolds_none rfl, ?_⟩
          refine tail_wanted rfl rfl ?_
          simp [go_sem, y1]
          refine ⟨gHolds_none rfl, ?_⟩
          refine tail_wanted rfl rfl ?_
          simp [go_sem]
          refine ⟨trivial, (CallsIn.inRound _ (callsIn_wide.2 (len_ cf6.pp))).mono ?_⟩
          rintro e w2 ⟨rfl, rfl⟩
          refine ⟨gHolds_none rfl, ?_⟩
          have hfin6 := Lib.hid (Array.getElem?_eq_some_iff.1 loc6.rc).1
          by_cases hd : D = []
          · have hd0 : ((D.length : Int) == 0) = true := by simp [hd]
            subst hd
            refine tail_wanted rfl rfl ?_
            simp [go_sem, hd0]
            refine ⟨gHolds_none rfl, ?_⟩
            refine tail_wanted rfl rfl ?_
            simp [go_sem]
            refine ⟨gHolds_none rfl, ?_⟩
            unfold wpTailG
            have hj7 := Lib.hid (Hst.out _ _ _ _ _ _ hj6 ((Keep.refl _ W6).putObj (l := q + 1 + 1 + 1) (.inl (by simp)) (.loop (rc .done (some (.exit 0))))))
            have L7 := Lib.hid loc6
            clear hj6 cf6 loc6
            go_at_K
            gi_wp2
            exact ⟨L7.out.rc, .inl ⟨_, _, _, hj7.out⟩, L7.out.put.df, L7.out.put.rc⟩
          · have hd0 : ((D.length : Int) == 0) = false := by
              cases D with
              | nil => exact absurd rfl hd
              | cons _ _ => simp; omega
            refine tail_wanted rfl rfl ?_
            simp [go_sem, hd0]
            refine ⟨gHolds_none rfl, ?_⟩
            refine tail_wanted rfl rfl ?_
            simp [go_sem]
            refine ⟨gHolds_none rfl, ?_⟩
            unfold wpTailG
            have k7 : Keep [q, q + 1, q + 1 + 1, q + 1 + 1 + 1] W6 ((W6.setCell ⟨q + 1, 0, none⟩ (.int .i64 ((j : Int) + 1))).putObj (q + 1 + 1 + 1) (.loop (rc .ready none))) := ((Keep.refl _ W6).setCell (p := ⟨q + 1, 0, none⟩) (.inl (by simp)) _).putObj (l := q + 1 + 1 + 1) (.inl (by simp)) (.loop (rc .ready none))
            have hj7 := Lib.hid (Hst.out _ _ _ _ _ _ hj6 k7)
            have L7 : Loc q l (j + 1) (W6.setCell ⟨q + 1, 0, none⟩ (.int .i64 ((j : Int) + 1))) (.loop (rc .busy none)) := ⟨loc6.yb.far (p := ⟨q + 1, 0, none⟩) (by simp) _, loc6.nb.set_ 0 _, (Below.heap_setCell W6 ⟨q + 1, 0, none⟩ _ _ (by first | (simp; done) | (simp; omega))).trans loc6.df, (Below.heap_setCell W6 ⟨q + 1, 0, none⟩ _ _ (by first | (simp; done) | (simp; omega))).trans loc6.rc⟩
            have L7 := Lib.hid L7
            have j0 : (0 : Int) ≤ (j : Int) := by omega
            have j1 : (j : Int) ≤ 9223372036854775806 := by omega
            clear hj6 cf6 loc6 k7
            go_at_K
            gi_wp2
            exact ⟨L7.out.rc, j + 1, D, ⟨_, hj7.out⟩, hd, by omega, L7.out.put⟩
        · have loc6 := loc5.same hsame
          clear z1 z2 z3 loc5 hsame hy hR hcut
          simp only []
          refine ⟨gHolds_none rfl, ?_⟩
          refine tail_wanted rfl rfl ?_
          simp [go_sem]
          refine ⟨gHolds_none rfl, ?_⟩
          refine tail_wanted rfl rfl ?_
          simp [go_sem]
          refine ⟨gHolds_none rfl, ?_⟩
          refine tail_wanted rfl rfl ?_
          simp [go_sem]
          refine ⟨gHolds_none rfl, ?_⟩
          refine tail_not rfl rfl (fun _ => trivial) (by simp) (gHolds_none rfl) ?_
          refine tail_not rfl rfl (fun _ => trivial) (by simp) (gHolds_none rfl) ?_
          refine tail_not rfl rfl (fun _ => trivial) (by simp) (gHolds_none rfl) ?_
          refine tail_wanted rfl rfl ?_
          simp [go_sem]
          refine ⟨gHolds_none rfl, ?_⟩
          unfold wpTailG
          have hk7 := Lib.hid (HstK.out _ _ hk6 ((Keep.refl _ W6).putObj (l := q + 1 + 1 + 1) (.inl (by simp)) (.loop (rc .done (some (.exit 0))))))
          have L7 := Lib.hid loc6
          clear loc6
          go_at_K
          gi_wp2
          exact ⟨L7.out.rc, .inr hk7.out, L7.out.put.df, L7.out.put.rc⟩
end Go.Proofs.Ytinokgmmdmkbcaa
