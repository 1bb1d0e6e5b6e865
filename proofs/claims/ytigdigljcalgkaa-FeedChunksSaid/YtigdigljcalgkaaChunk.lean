/- feed: how far the frames have come; the marks that a range over a function leaves. -/
import Derived.Test.YtigdigljcalgkaaLaw5
set_option linter.all false
namespace Go.Proofs.Ytigdigljcalgkaa
open Go.ChangeShapes Go.WideShapes Go.ChangeAt Go.RowKit Go.Proofs.YtigdigljcalgkaaW.PrintWords
attribute [local go_sem] setCell_drewN alloc_drewN Oper.semAt_some
/-- bs is held, ws is still to be put in, j frames have come out -/
def St (p : Bool) (ys : List Gf) (asks : Bool) (bs ws : List UInt8) (j : Nat) : Prop :=
  (asks = true ∧ j = 0 ∧ p = true ∧ bs ++ ws = pfB ++ encW ys) ∨ (asks = false ∧ j ≤ ys.length ∧ bs ++ ws = encW (ys.drop j))
def Quiet (asks : Bool) (bs : List UInt8) : Prop := (asks = true ∧ bs.length < 24) ∨ (asks = false ∧ (bs.length < 9 ∨ bs.length < 9 + hlen bs))
theorem St.put {p : Bool} {ys : List Gf} {asks : Bool} {bs ws : List UInt8} {j : Nat} (h : St p ys asks bs ws j) (k : Nat) : St p ys asks (bs ++ ws.take k) (ws.drop k) j := by
  have e : bs ++ ws.take k ++ ws.drop k = bs ++ ws := by rw [List.append_assoc, List.take_append_drop]
  rcases h with ⟨h1, h2, h3, h4⟩ | ⟨h1, h2, h3⟩
  · exact .inl ⟨h1, h2, h3, by rw [e]; exact h4⟩
  · exact .inr ⟨h1, h2, by rw [e]; exact h3⟩
theorem St.len {p : Bool} {ys : List Gf} {asks : Bool} {bs ws : List UInt8} {j : Nat} (h : St p ys asks bs ws j) (hy : ∀ y ∈ ys, y.good) (hl : ys.length ≤ 20) : bs.length ≤ 400000 := by
  rcases h with ⟨_, _, _, h4⟩ | ⟨_, _, h3⟩
  · have h5 := congrArg List.length h4
    have := encW_len ys hy
    simp only [List.length_append, pf_len'] at h5
    omega
  · have h5 := congrArg List.length h3
    have := encW_len (ys.drop j) (fun y hm => hy y (List.mem_of_mem_drop hm))
    have h6 : (ys.drop j).length ≤ ys.length := by rw [List.length_drop]; omega
    simp only [List.length_append] at h5
    omega
/-- all is in: all has come out -/
theorem St.done {p : Bool} {ys : List Gf} {asks : Bool} {bs : List UInt8} {j : Nat} (h : St p ys asks bs [] j) (hq : Quiet asks bs) (hy : ∀ y ∈ ys, y.good) : asks = false ∧ bs = [] ∧ j = ys.length := by
  rcases h with ⟨h1, _, _, h4⟩ | ⟨h1, h2, h3⟩
  · exfalso
    rw [List.append_nil] at h4
    rcases hq with ⟨_, hq⟩ | ⟨hq, _⟩
    · rw [h4, List.length_append, pf_len'] at hq; omega
    · rw [h1] at hq; cases hq
  · rw [List.append_nil] at h3
    refine ⟨h1, ?_⟩
    cases hd : ys.drop j with
    | nil =>
      have : ys.length ≤ j := by have := congrArg List.length hd; rw [List.length_drop] at this; simp at this; omega
      refine ⟨by rw [h3, hd]; rfl, by omega⟩
    | cons y r =>
      exfalso
      rw [hd] at h3
      have hg := hy y (List.mem_of_mem_drop (i := j) (by rw [hd]; simp))
      have e : bs = y.wire ++ encW r := by rw [h3]; simp [encW]
      have h5 := wire_hlen y hg (encW r)
      rcases hq with ⟨hq, _⟩ | ⟨_, hq⟩
      · rw [h1] at hq; cases hq
      · rw [e, h5, List.length_append, y.wire_len] at hq
        omega
theorem take_of_app {a b c : List UInt8} (h : a ++ b = c) (k : Nat) (hk : k ≤ a.length) : a.take k = c.take k := by rw [← h, List.take_append_of_le_length hk]
theorem nextSt {p : Bool} {ys : List Gf} {asks : Bool} {bs ws : List UInt8} {j fb : Nat} {W : World} (hX : FdX W fb fb asks 16384 bs 0) (h : St p ys asks bs ws j) (hy : ∀ y ∈ ys, y.good) (hl : ys.length ≤ 20) :
    Calls Try.prog 17 #[.pointer (some ⟨fb, 0, none⟩)] W fun e W' => ((e = .returned (.tuple #[zeroF, .bool false]) ∧ ∃ asks' bs', FdX W' fb fb asks' 16384 bs' 0 ∧ St p ys asks' bs' ws j ∧ Quiet asks' bs') ∨
      (∃ y A c, ys[j]? = some y ∧ e = .returned (.tuple #[.agg #[.int .i64 y.t, .int .i64 y.f, .int .i64 y.s, .slice A y.pl.length c], .bool true]) ∧ Row1 W' W.heap.size 5 (.slice A y.pl.length c) (encB y.pl) ∧ ∃ bs', FdX W' fb fb false 16384 bs' 0 ∧ St p ys false bs' ws (j + 1))) ∧ Keep [fb] W W' := by
  have hlb := h.len hy hl
  by_cases hw : asks = true ∧ bs.length < 24
  · obtain ⟨rfl, hw⟩ := hw
    have hst := h
    rcases h with ⟨_, h2, h3, h4⟩ | ⟨h1, _⟩
    · have hpre : bs.take 24 = pfB.take bs.length := by
        rw [List.take_of_length_le (by omega)]
        have := take_of_app h4 bs.length (Nat.le_refl _)
        rw [List.take_of_length_le (Nat.le_refl _), List.take_append_of_le_length (by have := pf_len'; omega)] at this
        exact this
      refine (preX hX (.inr hw) (by omega)).mono ?_
      rintro e W' ⟨rfl, hp, k⟩
      refine ⟨.inl ⟨rfl, true, bs, ?_, hst, .inl ⟨rfl, hw⟩⟩, k⟩
      rcases hp with ⟨_, h⟩ | ⟨h, _⟩
      · exact h
      · exact absurd hpre h
    · cases h1
  · -- the preface is there, or none is asked
    obtain ⟨xs, hxs, ha, hst⟩ : ∃ xs, xs = (if asks = true then bs.drop 24 else bs) ∧ (asks = true → bs.take 24 = pfB) ∧ (j ≤ ys.length ∧ xs ++ ws = encW (ys.drop j)) := by
      refine ⟨_, rfl, ?_, ?_⟩
      · intro ha
        rcases h with ⟨_, _, _, h4⟩ | ⟨h1, _⟩
        · have := take_of_app h4 24 (by have : ¬ bs.length < 24 := fun h => hw ⟨ha, h⟩; omega)
          rw [this, List.take_append_of_le_length (by have := pf_len'; omega), List.take_of_length_le (by have := pf_len'; omega)]
        · rw [ha] at h1; cases h1
      · rcases h with ⟨h1, h2, _, h4⟩ | ⟨h1, h2, h3⟩
        · rw [if_pos h1, h2]
          refine ⟨by omega, ?_⟩
          have h5 := congrArg (List.drop 24) h4
          rw [List.drop_append_of_le_length (by have : ¬ bs.length < 24 := fun h => hw ⟨h1, h⟩; omega), List.drop_append_of_le_length (l₁ := pfB) (by have := pf_len'; omega), List.drop_of_length_le (l := pfB) (by have := pf_len'; omega), List.nil_append] at h5
          simpa using h5
        · rw [h1, if_neg (by decide)]
          exact ⟨h2, h3⟩
    refine (nextX hX ha (by omega) xs (by rw [hxs])).mono ?_
    rintro e W' ⟨hn, k⟩
    refine ⟨?_, k⟩
    obtain ⟨hjl, hst⟩ := hst
    have hhead : 9 ≤ xs.length → ∃ y r, ys.drop j = y :: r ∧ ys[j]? = some y ∧ y.good ∧ hlen xs = y.pl.length ∧ xs ++ ws = y.wire ++ encW r := by
      intro h9
      cases hd : ys.drop j with
      | nil =>
        rw [hd] at hst
        have h0 : xs ++ ws = [] := by rw [hst]; rfl
        have h1 := (List.append_eq_nil_iff.1 h0).1
        rw [h1] at h9
        simp at h9
      | cons y r =>
        have hm : y ∈ ys := List.mem_of_mem_drop (i := j) (by rw [hd]; simp)
        have hyj : ys[j]? = some y := by
          have := congrArg (fun l => l[0]?) hd
          simpa [List.getElem?_drop] using this
        have he : xs ++ ws = y.wire ++ encW r := by rw [hst, hd]; simp [encW]
        refine ⟨y, r, rfl, hyj, hy y hm, ?_, he⟩
        have h3 := take_of_app he 3 (by omega)
        have h4 := wire_hlen y (hy y hm) (encW r)
        unfold hlen at h4 ⊢
        rw [h3, h4]
    rcases hn with ⟨he, hc, hX'⟩ | ⟨_, h9, hbig, _⟩ | ⟨h9, _, A, c, he, hrow, hX'⟩
    · exact .inl ⟨he, false, xs, hX', .inr ⟨rfl, hjl, hst⟩, .inr ⟨rfl, hc.imp id (fun h => h.2)⟩⟩
    · obtain ⟨y, r, _, _, hg, hh, _⟩ := hhead h9
      rw [hh] at hbig
      have := hg.2
      omega
    · obtain ⟨y, r, hd, hyj, hg, hh, heq⟩ := hhead (by omega)
      right
      rw [hh] at he hrow hX' h9
      have hxw : xs = y.wire ++ xs.drop (9 + y.pl.length) := by
        have h5 := take_of_app heq (9 + y.pl.length) h9
        rw [List.take_append_of_le_length (by rw [y.wire_len]; omega), List.take_of_length_le (l := y.wire) (by rw [y.wire_len]; omega)] at h5
        conv => lhs; rw [← List.take_append_drop (9 + y.pl.length) xs]
        rw [h5]
      obtain ⟨r2, hr2⟩ : ∃ r2, r2 = xs.drop (9 + y.pl.length) := ⟨_, rfl⟩
      rw [← hr2] at hxw hX'
      rw [hxw, wire_frV y hg] at he
      rw [hxw, (wire_part y r2).1] at hrow
      refine ⟨y, A, c, hyj, he, hrow, r2, hX', .inr ⟨rfl, ?_, ?_⟩⟩
      · have := (List.getElem?_eq_some_iff.1 hyj).1; omega
      · have h6 : r2 ++ ws = encW r := by
          rw [hxw, List.append_assoc] at heq
          exact List.append_cancel_left heq
        rw [h6]
        have h7 : ys.drop (j + 1) = r := by
          have := congrArg (List.drop 1) hd
          rw [List.drop_drop] at this
          simpa using this
        rw [h7]
/-- what lies below the feed: the result's cell, the wanted frames -/
structure GJ (w : World) (fb rb wb : Nat) (ys : List Gf) (W : World) : Prop where
  kw : Keep [] w W
  br : Blk W rb 4 #[.bool false]
  wt : ∃ A cw, Blk W wb 22 #[.slice A ys.length cw] ∧ (ys.length = 0 ∨ ∃ og cs, A = some ⟨og, 0, none⟩ ∧ Blk W og 27 cs ∧ RowIs cs ys ∧ og < fb)
  lt : w.heap.size ≤ fb ∧ rb < fb ∧ wb < fb
theorem GJ.step {w W W' : World} {fb rb wb : Nat} {ys : List Gf} {gs : List Nat} (h : GJ w fb rb wb ys W) (k : Keep gs W W') (hg : ∀ g ∈ gs, fb ≤ g) : GJ w fb rb wb ys W' := by
  obtain ⟨A, cw, h1, h2⟩ := h.wt
  refine ⟨h.kw.step k (fun g hm => .inr (by have := hg g hm; have := h.lt; omega)), h.br.keep k (fun hm => by have := hg _ hm; have := h.lt; omega), ⟨A, cw, h1.keep k (fun hm => by have := hg _ hm; have := h.lt; omega), ?_⟩, h.lt⟩
  rcases h2 with h2 | ⟨og, cs, h3, h4, h5, h6⟩
  · exact .inl h2
  · exact .inr ⟨og, cs, h3, h4.keep k (fun hm => by have := hg _ hm; omega), h5, h6⟩
/-- the marks of the ranges that are over -/
def mark (D : Nat) : Deferred := { target := .collected D, args := #[] }
structure DM (fb : Nat) (Ds : List Nat) (W : World) : Prop where
  nd : Ds.Nodup
  at_ : ∀ D ∈ Ds, fb ≤ D ∧ W.heap[D]? = some (.deferred (some []))
def NoDf (W : World) (gs : List Nat) : Prop := ∀ g ∈ gs, W.heap.size ≤ g ∨ ∃ o, W.heap[g]? = some o ∧ ∀ l, o ≠ .deferred l
theorem DM.keep {fb : Nat} {Ds : List Nat} {W W' : World} {gs : List Nat} (h : DM fb Ds W) (k : Keep gs W W') (hg : NoDf W gs) : DM fb Ds W' :=
  ⟨h.nd, fun D hD => ⟨(h.at_ D hD).1, k.heap (h.at_ D hD).2 (fun hm => by
    rcases hg D hm with h1 | ⟨o, ho, hn⟩
    · have := (Array.getElem?_eq_some_iff.1 (h.at_ D hD).2).1; omega
    · rw [(h.at_ D hD).2] at ho
      injection ho with ho
      exact hn _ ho.symm)⟩⟩
theorem NoDf.blk {W : World} {gs : List Nat} (h : ∀ g ∈ gs, ∃ t cs, Blk W g t cs) : NoDf W gs := fun g hg => by
  obtain ⟨t, cs, hb⟩ := h g hg
  exact .inr ⟨_, hb, fun l h => by cases h⟩
theorem NoDf.fb {W : World} {base fb : Nat} {asks : Bool} {most code : Int} {bs : List UInt8} (hX : FdX W base fb asks most bs code) : NoDf W [fb] := .blk (fun g hg => by
  obtain rfl : g = fb := by simpa using hg
  obtain ⟨v, hX⟩ := hX
  exact ⟨_, _, hX.blk⟩)
theorem NoDf.put {W : World} {base fb : Nat} {asks : Bool} {most code : Int} {bs : List UInt8} {gs : List Nat} (h : PutB W base fb gs) (hX : FdX W base fb asks most bs code) : NoDf W gs := .blk (fun g hg => by
  rcases h g hg with rfl | ⟨h1, cs, h2⟩
  · obtain ⟨v, hX⟩ := hX
    exact ⟨_, _, hX.blk⟩
  · exact ⟨_, _, h2⟩)
theorem NoDf.frs {W : World} {B : Nat} {gs : List Nat} (h : Frs B W gs) : NoDf W gs := .blk (fun g hg => by
  obtain ⟨_, cs, hb⟩ := h g hg
  exact ⟨_, _, hb⟩)
theorem NoDf.int {W : World} {g : Nat} {t : TypeId} {cs : Array Value} (hb : Blk W g t cs) : NoDf W [g] := .blk (fun g' hg => by
  obtain rfl : g' = g := by simpa using hg
  exact ⟨_, _, hb⟩)
theorem NoDf.loop {W : World} {g : Nat} {l : Loop} (hb : W.heap[g]? = some (.loop l)) : NoDf W [g] := fun g' hg => by
  obtain rfl : g' = g := by simpa using hg
  exact .inr ⟨_, hb, fun l h => by cases h⟩
/-- at the end each mark is taken -/
theorem leaves_marks {F : Fence} {n : Nat} {P : Program} {fn : Func} {tmps : Array Value} {R : Ending → World → Prop} : ∀ (Ds : List Nat) (W : World), Ds.Nodup → (∀ D ∈ Ds, W.heap[D]? = some (.deferred (some []))) →
    (∀ W', Keep Ds W W' → LeavesInM F n P fn tmps R [] .returning W') → LeavesInM F n P fn tmps R (Ds.map mark) .returning W
  | [], W, _, _, h => h W (Keep.refl _ _)
  | D :: Ds, W, hn, hd, h => by
    have hn2 := List.nodup_cons.1 hn
    refine ⟨by simp, .inl ⟨D, _, rfl, run_takeDeferred (hd D (by simp)), ?_⟩⟩
    refine leaves_marks Ds _ hn2.2 (fun D' hD' => ?_) (fun W' k => h W' ?_)
    · exact (World.putObj_heap_other (by rintro rfl; exact hn2.1 hD')).trans (hd D' (by simp [hD']))
    · exact ((Keep.refl (D :: Ds) W).putObj (l := D) (.inl (by simp)) _).trans (k.more (fun i hi => .inl (by simp [hi])))
def lenV : Value → Nat
  | .slice _ n _ => n
  | _ => 0
theorem chunk_le {i L k T : Nat} (h1 : i + L ≤ 100 + T) (h2 : L ≤ T) (h3 : k = 0 → i < 100) (hk : k ≤ L) : i + 1 + (L - k) ≤ 100 + T := by
  by_cases h : k = 0
  · have := h3 h; omega
  · omega
theorem chunk_mu {i L k : Nat} (h3 : k = 0 → i < 100) (hk : k ≤ L) : (L - k) * 200 + (100 - (i + 1)) < L * 200 + (100 - i) := by
  by_cases h : k = 0
  · have := h3 h; subst h; simp; omega
  · omega
theorem chunk_wrap {i L T : Nat} (h : i + L ≤ 100 + T) (hT : T ≤ 350000) : wrap64 ((i : Int) + 1) = ((i + 1 : Nat) : Int) := by unfold wrap64; omega
/-- one round of the chunks -/
def OutI (w : World) (fb rb wb kb : Nat) (p : Bool) (ys : List Gf) (T : Nat) (v8 : Value) (i : Nat) (Ds : List Nat) (W : World) : Prop :=
  ∃ (ws : List UInt8) (asks : Bool) (bs : List UInt8) (j : Nat), Row1 W w.heap.size 5 v8 (encB ws) ∧ (∀ g, rowBlk v8 = some g → g < fb) ∧ FdX W fb fb asks 16384 bs 0 ∧ St p ys asks bs ws j ∧ Quiet asks bs ∧ Blk W kb 3 #[.int .i64 (j : Nat)] ∧ GJ w fb rb wb ys W ∧ DM fb Ds W ∧ fb < kb ∧ i + ws.length ≤ 100 + T ∧ ws.length ≤ T
def mu6 (a : Act) (_ : World) : Nat := lenV (a.tmps.getD 8 undef) * 200 + (100 - (intOf (a.tmps.getD 16 undef)).toNat)
/-- what stands while one range is gone over -/
structure RJ (w : World) (S fb rb wb cb : Nat) (ys : List Gf) (Ds : List Nat) (v8 : Value) (ws : List UInt8) (l : Loop) (W : World) : Prop where
  rc : Rc S W l
  bc : Blk W cb 31 #[.pointer (some ⟨fb, 0, none⟩)]
  gj : GJ w fb rb wb ys W
  dm : DM fb Ds W
  row : Row1 W w.heap.size 5 v8 (encB ws)
  lt : ∀ g, rowBlk v8 = some g → g < fb
theorem RJ.step {w W W' : World} {S fb rb wb cb : Nat} {ys : List Gf} {Ds : List Nat} {v8 : Value} {ws : List UInt8} {l : Loop} {gs : List Nat} (h : RJ w S fb rb wb cb ys Ds v8 ws l W) (k : Keep gs W W') (h1 : ∀ g ∈ gs, fb ≤ g) (h2 : NoDf W gs) (h3 : cb ∉ gs) (h4 : ∀ g ∈ gs, g < S ∨ ∃ t cs, Blk W g t cs) : RJ w S fb rb wb cb ys Ds v8 ws l W' :=
  ⟨h.rc.keep k h4, h.bc.keep k h3, h.gj.step k h1, h.dm.keep k h2, h.row.keep k (fun g hg hm => by have := h.lt g hg; have := h1 g hm; omega), h.lt⟩
theorem RJ.put {w W : World} {S fb rb wb cb : Nat} {ys : List Gf} {Ds : List Nat} {v8 : Value} {ws : List UInt8} {l l' : Loop} (h : RJ w S fb rb wb cb ys Ds v8 ws l W) (hS : fb ≤ S) : RJ w S fb rb wb cb ys Ds v8 ws l' (W.putObj (S + 1) (.loop l')) := by
  have k : Keep [S + 1] W (W.putObj (S + 1) (.loop l')) := (Keep.refl _ W).putObj (.inl (by simp)) _
  refine ⟨h.rc.put, h.bc.keep k (fun hm => ?_), h.gj.step k (by simp; omega), h.dm.keep k (NoDf.loop h.rc.rc), h.row.keep k (fun g hg hm => ?_), h.lt⟩
  · have e : cb = S + 1 := by simpa using hm
    exact loop_ne h.bc h.rc.rc e
  · have e : g = S + 1 := by simpa using hm
    have := h.lt g hg
    omega
theorem RJ.frs {w W W' : World} {S fb rb wb cb : Nat} {ys : List Gf} {Ds : List Nat} {v8 : Value} {ws : List UInt8} {l : Loop} {gs : List Nat} (h : RJ w S fb rb wb cb ys Ds v8 ws l W) (k : Keep gs W W') (hf : Frs S W gs) (hS : fb ≤ S) : RJ w S fb rb wb cb ys Ds v8 ws l W' :=
  h.step k (fun g hg => by have := (hf g hg).1; omega) (NoDf.frs hf) (fun hm => by obtain ⟨_, cs, hb⟩ := hf _ hm; exact h.bc.ne_ hb (by decide) rfl) (frs_blk hf)
theorem RJ.nil {w W W' : World} {S fb rb wb cb : Nat} {ys : List Gf} {Ds : List Nat} {v8 : Value} {ws : List UInt8} {l : Loop} (h : RJ w S fb rb wb cb ys Ds v8 ws l W) (k : Keep [] W W') : RJ w S fb rb wb cb ys Ds v8 ws l W' :=
  h.step k (by simp) (fun g hg => by simp at hg) (by simp) (by simp)
theorem RJ.fbs {w W W' : World} {S fb rb wb cb : Nat} {ys : List Gf} {Ds : List Nat} {v8 : Value} {ws : List UInt8} {l : Loop} {asks : Bool} {most code : Int} {bs : List UInt8} {base : Nat} (h : RJ w S fb rb wb cb ys Ds v8 ws l W) (hX : FdX W base fb asks most bs code) (k : Keep [fb] W W') : RJ w S fb rb wb cb ys Ds v8 ws l W' := by
  refine h.step k (by simp) (NoDf.fb hX) (fun hm => ?_) (fb_blk hX)
  obtain ⟨v, hX⟩ := hX
  have e : cb = fb := by simpa using hm
  exact (e ▸ h.bc).ne_ hX.blk (by decide) rfl
theorem RJ.int {w W W' : World} {S fb rb wb cb kb : Nat} {ys : List Gf} {Ds : List Nat} {v8 : Value} {ws : List UInt8} {l : Loop} {cs : Array Value} (h : RJ w S fb rb wb cb ys Ds v8 ws l W) (hk : Blk W kb 3 cs) (hf : fb ≤ kb) (k : Keep [kb] W W') : RJ w S fb rb wb cb ys Ds v8 ws l W' := by
  refine h.step k (by simp; omega) (NoDf.int hk) (fun hm => ?_) (fun g hg => ?_)
  · have e : cb = kb := by simpa using hm
    exact (e ▸ h.bc).ne_ hk (by decide) rfl
  · obtain rfl : g = kb := by simpa using hg
    exact .inr ⟨_, _, hk⟩
end Go.Proofs.Ytigdigljcalgkaa
