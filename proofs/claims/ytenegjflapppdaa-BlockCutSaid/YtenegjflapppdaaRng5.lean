/- As Rng4; a call that leaves the world alone may be one of the reads. -/
import Derived.Test.YtenegjflapppdaaRng4
set_option linter.all false
namespace Go.Proofs.Ytenegjflapppdaa
open Go.RowKit
section
variable {F : Fence} {n : Nat} {P : Program} {ops : Array Oper}
/-- the operation gives v and leaves the world alone -/
def GivesV (F : Fence) (n : Nat) (P : Program) (A0 : Act) (o : Oper) (W : World) (v : Value) : Prop := o.wpIn F n P A0 W (fun a' w' => a'.defers = A0.defers ∧ (a' = A0.put o.dst v ∧ W = w')) (fun _ _ _ => False)
def evOkC (F : Fence) (n : Nat) (P : Program) (ops : Array Oper) (A0 : Act) (S : World → Prop) : List (Nat × Value) → Prop
  | [] => True
  | p :: r => (match ops[p.1]? with
    | some o => ∀ W, S W → GivesV F n P A0 o W p.2
    | none => False) ∧ evOkC F n P ops A0 S r
theorem evOkC_all {A0 : Act} {S : World → Prop} : ∀ Ev, evOkC F n P ops A0 S Ev → ∀ p ∈ Ev, ∀ o, ops[p.1]? = some o → ∀ W, S W → GivesV F n P A0 o W p.2
  | [], _, _, hp => by cases hp
  | q :: r, h, p, hp => by
    rcases List.mem_cons.1 hp with rfl | hp
    · intro o ho
      have h1 := h.1
      simp only [ho] at h1
      exact h1
    · exact evOkC_all r h.2 p hp
theorem put_same {a b : Act} {v u : Value} {o : Option Tmp} {d : Tmp} (hd : o = some d) (h : b.put o v = b.put o u) (hs : a.tmps.size = b.tmps.size) : a.put o v = a.put o u := by
  subst hd
  by_cases hlt : d < b.tmps.size
  · have := congrArg (fun x => x.tmps[d]?) h
    simp only [put_get, if_true, if_pos hlt] at this
    injection this with this
    rw [this]
  · simp only [Act.put]
    rw [Array.setIfInBounds_eq_of_size_le (by rw [hs]; exact Nat.le_of_not_lt hlt), Array.setIfInBounds_eq_of_size_le (by rw [hs]; exact Nat.le_of_not_lt hlt)]
/-- what a read gives -/
theorem gives_read {A0 : Act} {o : Oper} {W : World} {v : Value} (hr : readOp o.op = true) (h : (execOp A0.eval o).run P W = .ok (.value v) W) : GivesV F n P A0 o W v := by
  unfold GivesV Oper.wpIn
  rw [Oper.semAt_eq _ _ _ (noDefer_read hr), h, about_read hr]
  refine ⟨fun f hf => (by cases hf), ?_⟩
  rw [Oper.uponIn_value]
  exact ⟨put_defers _ _ _, rfl, rfl⟩
/-- the closed facts: every operation is a read or of the chain; a read's slot is its own; what hangs on it says so -/
def rtChkC (ops : Array Oper) (E T : List Nat) (G : List (Nat × Bool)) : Bool :=
  (List.range ops.size).all (fun i => E.contains i || T.contains i) &&
  E.all (fun i => match ops[i]? with
    | none => false
    | some o => (match o.guard with | none => true | some (g, b) => G.lookup g == some b && T.contains g && depsOn o g && (T.all fun j => j == g || (ops[j]?).bind (·.dst) != (ops[g]?).bind (·.dst))) && o.dst.isSome && tailOp o.op && !T.contains i && (E.all fun j => j == i || (ops[j]?).bind (·.dst) != o.dst) && (T.all fun j => (ops[j]?).bind (·.dst) != o.dst) &&
      (opTmps o).all (fun t => (E.all fun j => (ops[j]?).bind (·.dst) != some t || depsOn o j) && (T.all fun j => (ops[j]?).bind (·.dst) != some t || (match ops[j]? with | some q => depsOn q i | none => false)))) &&
  T.all (fun i => match ops[i]? with
    | none => false
    | some o => (match o.guard with | none => true | some (g, _) => T.contains g) && tailOp o.op && (opTmps o).all (fun t => E.all fun j => (ops[j]?).bind (·.dst) != some t || depsOn o j)) &&
  (List.range (T.length - 1)).all (fun k => match T[k]?, (T[k + 1]?).bind (ops[·]?) with
    | some i, some o => depsOn o i
    | _, _ => false) &&
  (List.range ops.size).all (fun i => match ops[i]? with
    | none => true
    | some o => o.after.all fun e => !Region.binds .any e || decide (e.on < i)) &&
  decide T.Nodup
structure RtOkC (ops : Array Oper) (E T : List Nat) (G : List (Nat × Bool)) : Prop where
  all : ∀ i, i < ops.size → i ∈ E ∨ i ∈ T
  e : ∀ i ∈ E, ∃ o d, ops[i]? = some o ∧ o.dst = some d ∧ (∀ g b, o.guard = some (g, b) → G.lookup g = some b ∧ g ∈ T ∧ depsOn o g = true ∧ ∀ j ∈ T, j = g ∨ (ops[j]?).bind (·.dst) ≠ (ops[g]?).bind (·.dst)) ∧ tailOp o.op = true ∧ i ∉ T ∧
    (∀ j ∈ E, j = i ∨ (ops[j]?).bind (·.dst) ≠ some d) ∧ (∀ j ∈ T, (ops[j]?).bind (·.dst) ≠ some d) ∧
    (∀ t ∈ opTmps o, (∀ j ∈ E, (ops[j]?).bind (·.dst) ≠ some t ∨ depsOn o j = true) ∧ ∀ j ∈ T, (ops[j]?).bind (·.dst) ≠ some t ∨ ∃ q, ops[j]? = some q ∧ depsOn q i = true)
  t : ∀ i ∈ T, ∃ o, ops[i]? = some o ∧ (∀ g b, o.guard = some (g, b) → g ∈ T) ∧ tailOp o.op = true ∧ ∀ t ∈ opTmps o, ∀ j ∈ E, (ops[j]?).bind (·.dst) ≠ some t ∨ depsOn o j = true
  chain : ∀ k i j, T[k]? = some i → T[k + 1]? = some j → ∃ o, ops[j]? = some o ∧ depsOn o i = true
  down : ∀ i o, ops[i]? = some o → ∀ e ∈ o.after, Region.binds .any e = true → e.on < i
  nodup : T.Nodup
theorem rtOkC {E T : List Nat} {G : List (Nat × Bool)} (h : rtChkC ops E T G = true) : RtOkC ops E T G := by
  simp only [rtChkC, Bool.and_eq_true, decide_eq_true_eq] at h
  obtain ⟨⟨⟨⟨⟨h1, h2⟩, h3⟩, h4⟩, h5⟩, h6⟩ := h
  refine ⟨fun i hi => ?_, fun i hi => ?_, fun i hi => ?_, fun k i j hk hj => ?_, fun i o ho e he hb => ?_, h6⟩
  · have := List.all_eq_true.1 h1 i (List.mem_range.2 hi)
    simpa using this
  · have := List.all_eq_true.1 h2 i hi
    cases ho : ops[i]? with
    | none => simp [ho] at this
    | some o =>
      simp only [ho] at this
      simp only [Bool.and_eq_true, Bool.or_eq_true, List.all_eq_true, bne_iff_ne, beq_iff_eq, ne_eq, Bool.not_eq_true', List.contains_eq_mem, decide_eq_false_iff_not] at this
      obtain ⟨⟨⟨⟨⟨⟨hg, hd⟩, hr⟩, hT⟩, hE⟩, hTd⟩, hops⟩ := this
      obtain ⟨d, hd⟩ := Option.isSome_iff_exists.1 hd
      rw [hd] at hE hTd
      refine ⟨o, d, rfl, hd, fun g b hgb => ?_, hr, hT, hE, hTd, fun t ht => ⟨(hops t ht).1, fun j hj => ?_⟩⟩
      rotate_left
      · rcases (hops t ht).2 j hj with h | h
        · exact .inl h
        · right
          cases hq : ops[j]? with
          | none => rw [hq] at h; simp at h
          | some q => rw [hq] at h; exact ⟨q, rfl, h⟩
      rw [hgb] at hg
      simp only [Bool.and_eq_true, Bool.or_eq_true, List.all_eq_true, bne_iff_ne, beq_iff_eq, ne_eq, List.contains_eq_mem, decide_eq_true_eq] at hg
      exact ⟨hg.1.1.1, hg.1.1.2, hg.1.2, hg.2⟩
  · have := List.all_eq_true.1 h3 i hi
    cases ho : ops[i]? with
    | none => simp [ho] at this
    | some o =>
      simp only [ho] at this
      simp only [Bool.and_eq_true, Bool.or_eq_true, List.all_eq_true, bne_iff_ne, ne_eq] at this
      obtain ⟨⟨hg, ht⟩, hops⟩ := this
      refine ⟨o, rfl, fun g b hgb => ?_, ht, hops⟩
      rw [hgb] at hg
      simpa using hg
  · have hl : k + 1 < T.length := (List.getElem?_eq_some_iff.1 hj).1
    have := List.all_eq_true.1 h4 k (List.mem_range.2 (by omega))
    rw [hk, hj] at this
    cases ho : ops[j]? with
    | none => simp [ho] at this
    | some o => exact ⟨o, rfl, by simpa [ho] using this⟩
  · have hi : i < ops.size := (Array.getElem?_eq_some_iff.1 ho).1
    have := List.all_eq_true.1 h5 i (List.mem_range.2 hi)
    simp only [ho] at this
    have := Array.all_eq_true'.1 this e he
    simpa [hb] using this
structure RtInvC (ops : Array Oper) (G : List (Nat × Bool)) (Ev : List (Nat × Value)) (T : List Nat) (A0 a A : Act) (k : Nat) (listed : Array Bool) : Prop where
  fed : ∀ i o, listed.getD i false = true → ops[i]? = some o → ∀ e ∈ o.after, Region.binds .any e = true → listed.getD e.on false = true
  size : listed.size = ops.size
  tmps : a.tmps.size = A.tmps.size
  defers : a.defers = A.defers
  free : ∀ t : Nat, (∀ p ∈ Ev, (ops[p.1]?).bind (·.dst) ≠ some t) → a.tmps[t]? = A.tmps[t]?
  done : ∀ t : Nat, ∀ p ∈ Ev, (ops[p.1]?).bind (·.dst) = some t → listed.getD p.1 false = true → a.tmps[t]? = A.tmps[t]?
  held : ∀ t : Nat, ∀ p ∈ Ev, (ops[p.1]?).bind (·.dst) = some t → A.tmps[t]? = if t < A.tmps.size then some p.2 else none
  base : ∀ t : Nat, (∀ m j, m < k → T[m]? = some j → (ops[j]?).bind (·.dst) ≠ some t) → A.tmps[t]? = A0.tmps[t]?
  past : ∀ m i, m < k → T[m]? = some i → listed.getD i false = true
  next : ∀ m i, k ≤ m → T[m]? = some i → listed.getD i true = false
  gs : ∀ g b, G.lookup g = some b → (∀ j ∈ T, j = g ∨ (ops[j]?).bind (·.dst) ≠ (ops[g]?).bind (·.dst)) → g ∈ T → listed.getD g false = true → yielded ops A.tmps g = some b
  sz0 : A.tmps.size = A0.tmps.size
theorem rt_finC {Q : Exit → Act → World → Prop} {S : World → Prop} {Ev : List (Nat × Value)} {T : List (Nat × Bool)} {A0 : Act} {G : List (Nat × Bool)} (ok : RtOkC ops (Ev.map (·.1)) (T.map (·.1)) G) {k : Nat} {listed : Array Bool} {a A : Act} {w : World}
    (inv : RtInvC ops G Ev (T.map (·.1)) A0 a A k listed) (hr : Region.ready .any ops listed = []) (h : wpTailG F n P ops G S (fun a w => Q .normal a w) (T.drop k) A w) : Q .normal a w := by
  have all := ready_nil ok.down hr
  have hT : T.drop k = [] := by
    cases hd : T.drop k with
    | nil => rfl
    | cons i r =>
      have hi : (T.map (·.1))[k]? = some i.1 := by have := congrArg (·[0]?) hd; simp at this; simp [this]
      obtain ⟨o, ho, _⟩ := ok.t i.1 (List.mem_of_getElem? hi)
      have h1 := inv.next k i.1 (Nat.le_refl _) hi
      rw [all i.1 (Array.getElem?_eq_some_iff.1 ho).1] at h1
      cases h1
  have hA : a = A := act_ext inv.defers fun t => by
    by_cases hx : ∃ p ∈ Ev, (ops[p.1]?).bind (·.dst) = some t
    · obtain ⟨p, hp, ht⟩ := hx
      refine inv.done t p hp ht ?_
      obtain ⟨o, d, ho, _⟩ := ok.e p.1 (List.mem_map.2 ⟨p, hp, rfl⟩)
      have hlt := (Array.getElem?_eq_some_iff.1 ho).1
      have := all p.1 hlt
      rw [← inv.size] at hlt
      simpa [hlt] using this
    · exact inv.free t fun p hp ht => hx ⟨p, hp, ht⟩
  rw [hT] at h
  rw [hA]; exact h
theorem rt_stepC {G : List (Nat × Bool)} {Q : Exit → Act → World → Prop} {S : World → Prop} {Ev : List (Nat × Value)} {T : List (Nat × Bool)} {A0 : Act} (ok : RtOkC ops (Ev.map (·.1)) (T.map (·.1)) G)
    (hE : ∀ p ∈ Ev, ∀ o, ops[p.1]? = some o → ∀ W, S W → GivesV F n P A0 o W p.2) (hD : rtDue ops (Ev.map (·.1)) T = true) :
    ∀ (fuel k : Nat) (listed : Array Bool) (a A : Act) (w : World), toGo ops.size listed ≤ fuel → RtInvC ops G Ev (T.map (·.1)) A0 a A k listed → ((∀ p ∈ Ev, listed.getD p.1 false = true) ∨ S w) →
      wpTailG F n P ops G S (fun a w => Q .normal a w) (T.drop k) A w → wpAnyIn F n P .any ops Q fuel listed a w := by
  have hfree : ∀ {k : Nat} {listed : Array Bool} {a A : Act}, RtInvC ops G Ev (T.map (·.1)) A0 a A k listed → ∀ g, g ∈ T.map (·.1) → yielded ops a.tmps g = yielded ops A.tmps g := fun inv g hg => yielded_tmps fun d hd => inv.free d fun p hp ht => by
    obtain ⟨o2, d2, ho2, hd2, _, _, _, _, hTd, _⟩ := ok.e p.1 (List.mem_map.2 ⟨p, hp, rfl⟩)
    rw [ho2] at ht
    simp only [Option.bind_some] at ht
    have := hTd g hg
    rw [hd, ← hd2, ht] at this
    exact this rfl
  intro fuel
  induction fuel with
  | zero =>
    intro k listed a A w hg inv hS h
    have hr : Region.ready .any ops listed = [] := by
      cases hr : Region.ready .any ops listed with
      | nil => rfl
      | cons i r =>
        obtain ⟨h0, o, ho, _⟩ := mem_ready.1 (show i ∈ Region.ready .any ops listed by rw [hr]; simp)
        have := toGo_set (Array.getElem?_eq_some_iff.1 ho).1 inv.size h0
        omega
    exact ⟨hr, rt_finC ok inv hr h⟩
  | succ fuel ih =>
    intro k listed a A w hg inv hS h
    refine ⟨fun hr => rt_finC ok inv hr h, fun i hi => ?_⟩
    obtain ⟨h0, o, ho, hall⟩ := mem_ready.1 hi
    have hlt := (Array.getElem?_eq_some_iff.1 ho).1
    have hgo := toGo_set hlt inv.size h0
    have h0' : listed.getD i false = false := getD_both h0
    unfold wpOpIn
    simp only [ho]
    by_cases hiT : i ∈ T.map (·.1)
    · obtain ⟨o', ho', hg1, ht1, hops⟩ := ok.t i hiT
      obtain rfl : o' = o := Option.some.inj (ho'.symm.trans ho)
      obtain ⟨m, hm⟩ := List.mem_iff_getElem?.1 hiT
      have hk : m = k := by
        rcases Nat.lt_trichotomy m k with hlt' | heq | hgt
        · have := inv.past m i hlt' hm; rw [h0'] at this; cases this
        · exact heq
        · obtain ⟨m', rfl⟩ : ∃ m', m = m' + 1 := ⟨m - 1, by omega⟩
          have hml : m' + 1 < (T.map (·.1)).length := (List.getElem?_eq_some_iff.1 hm).1
          have hm' : (T.map (·.1))[m']? = some (T.map (·.1))[m'] := by rw [List.getElem?_eq_getElem]
          obtain ⟨o2, ho2, hdep⟩ := ok.chain m' _ _ hm' hm
          obtain rfl : o2 = o' := Option.some.inj (ho2.symm.trans ho)
          have hlis := depsOn_listed hdep hall
          have := inv.next m' _ (by omega) hm'
          rw [getD_both this] at hlis; cases hlis
      subst hk
      obtain ⟨b, hb⟩ : ∃ b, T[m]? = some (i, b) := by
        rw [List.getElem?_map] at hm
        cases hx : T[m]? with
        | none => rw [hx] at hm; cases hm
        | some x => rw [hx] at hm; obtain rfl := Option.some.inj hm; exact ⟨x.2, rfl⟩
      have hml : m < T.length := (List.getElem?_eq_some_iff.1 hb).1
      have hdrop : T.drop m = (i, b) :: T.drop (m + 1) := by
        rw [List.drop_eq_getElem_cons hml]
        congr 1
        simpa [List.getElem?_eq_getElem hml] using hb
      rw [hdrop] at h
      unfold wpTailG at h
      simp only [ho] at h
      have hwant : Region.wanted o' (yielded ops a.tmps) = Region.wanted o' (yielded ops A.tmps) := wanted_same fun g b hgb => hfree inv g (hg1 g b hgb)
      rw [hwant]
      have cont : ∀ v w', (((b = true → S w') ∧ gHolds ops G i (A.put o'.dst v).tmps) ∧ wpTailG F n P ops G S (fun a w => Q .normal a w) (T.drop (m + 1)) (A.put o'.dst v) w') → wpAnyIn F n P .any ops Q fuel (listed.setIfInBounds i true) (a.put o'.dst v) w' := by
        rintro v w' ⟨⟨hS', hG⟩, h'⟩
        have hdd : ∀ d, o'.dst = some d → ∀ p ∈ Ev, (ops[p.1]?).bind (·.dst) ≠ some d := fun d hd p hp ht => by
          obtain ⟨o2, d2, ho2, hd2, _, _, _, _, hTd, _⟩ := ok.e p.1 (List.mem_map.2 ⟨p, hp, rfl⟩)
          rw [ho2] at ht
          simp only [Option.bind_some] at ht
          have := hTd i hiT
          rw [ho] at this
          simp only [Option.bind_some] at this
          rw [hd, ← hd2, ht] at this
          exact this rfl
        have hget : ∀ (b : Act) t, (b.put o'.dst v).tmps[t]? = match o'.dst with | some d => if d = t then (if t < b.tmps.size then some v else none) else b.tmps[t]? | none => b.tmps[t]? := fun b t => by
          cases hd : o'.dst with
          | none => rfl
          | some d => exact put_get b d v t
        have fed := fed_set ho hall inv.fed
        refine ih (m + 1) _ _ _ w' (by omega) ⟨fed, by simp [inv.size], by rw [put_size, put_size]; exact inv.tmps, by rw [put_defers, put_defers]; exact inv.defers, fun t ht => ?_, fun t p hp ht hl => ?_, fun t p hp ht => ?_, fun t ht => ?_, fun m' j hm' hj => ?_, fun m' j hm' hj => ?_, fun g b' hgb hdist hgT hl => ?_, by rw [put_size]; exact inv.sz0⟩ (by
          cases b with
          | true => exact .inr (hS' rfl)
          | false =>
            refine .inl fun p hp => ?_
            have h2 := List.all_eq_true.1 hD m (List.mem_range.2 hml)
            rw [hb] at h2
            have h3 := List.all_eq_true.1 h2 p.1 (List.mem_map.2 ⟨p, hp, rfl⟩)
            obtain ⟨j, hj, hdep⟩ := List.any_eq_true.1 h3
            obtain ⟨m', hm'⟩ := List.mem_iff_getElem?.1 hj
            rw [List.getElem?_take] at hm'
            split at hm'
            · rename_i hlt'
              refine waits_listed fed _ _ _ hdep ?_
              rcases Nat.lt_or_ge m' m with hlt'' | hge
              · exact getD_set_true (inv.past m' j.1 hlt'' (by rw [List.getElem?_map, hm']; rfl))
              · obtain rfl : m' = m := by omega
                rw [hb] at hm'
                obtain rfl := Option.some.inj hm'
                have : i < listed.size := by rw [inv.size]; exact hlt
                simp [this]
            · cases hm') h'
        · rw [hget, hget, inv.free t ht, inv.tmps]
        · have hne : ∀ d, o'.dst = some d → d ≠ t := fun d hd e => hdd d hd p hp (e ▸ ht)
          have hpi : i ≠ p.1 := fun e => by
            obtain ⟨_, _, _, _, _, _, hnT, _⟩ := ok.e p.1 (List.mem_map.2 ⟨p, hp, rfl⟩)
            exact hnT (e ▸ hiT)
          rw [getD_set_ne false hpi] at hl
          have := inv.done t p hp ht hl
          rw [hget, hget]
          cases hd : o'.dst with
          | none => exact this
          | some d => simp only [if_neg (hne d hd)]; exact this
        · have hne : ∀ d, o'.dst = some d → d ≠ t := fun d hd e => hdd d hd p hp (e ▸ ht)
          have := inv.held t p hp ht
          rw [hget, put_size]
          cases hd : o'.dst with
          | none => exact this
          | some d => simp only [if_neg (hne d hd)]; exact this
        · have hne : ∀ d, o'.dst = some d → d ≠ t := fun d hd e => ht m i (by omega) hm (by rw [ho]; simp [hd, e])
          have := inv.base t (fun m' j h1 h2 => ht m' j (by omega) h2)
          rw [hget]
          cases hd : o'.dst with
          | none => exact this
          | some d => simp only [if_neg (hne d hd)]; exact this
        · rcases Nat.lt_or_ge m' m with hlt' | hge
          · exact getD_set_true (inv.past m' j hlt' hj)
          · obtain rfl : m' = m := by omega
            obtain rfl : j = i := Option.some.inj (hj.symm.trans hm)
            have : j < listed.size := by rw [inv.size]; exact hlt
            simp [this]
        · have hne : i ≠ j := fun e => by
            subst e
            have h1 : m < (T.map (·.1)).length := (List.getElem?_eq_some_iff.1 hm).1
            have h2 : m' < (T.map (·.1)).length := (List.getElem?_eq_some_iff.1 hj).1
            refine List.pairwise_iff_getElem.1 ok.nodup m m' h1 h2 (by omega) ?_
            rw [List.getElem?_eq_getElem h1] at hm; rw [List.getElem?_eq_getElem h2] at hj
            rw [Option.some.inj hm, Option.some.inj hj]
          rw [getD_set_ne true hne]
          exact inv.next m' j (by omega) hj
        · by_cases hgi : g = i
          · subst hgi
            exact hG b' hgb
          · rw [getD_set_ne false (Ne.symm hgi)] at hl
            have hne := (hdist i hiT).resolve_left (Ne.symm hgi)
            rw [← inv.gs g b' hgb hdist hgT hl]
            refine yielded_tmps fun d hd => ?_
            rw [hget]
            rw [ho, hd] at hne
            simp only [Option.bind_some] at hne
            cases hdo : o'.dst with
            | none => rfl
            | some d2 =>
              rw [hdo] at hne
              have : d2 ≠ d := fun e => hne (by rw [e])
              simp only [if_neg this]
      split at h
      · rename_i hw1
        rw [if_pos hw1]
        refine wpIn_transfer (K' := fun a' w' => ((b = true → S w') ∧ gHolds ops G i a'.tmps) ∧ wpTailG F n P ops G S (fun a w => Q .normal a w) (T.drop (m + 1)) a' w') (fun x hx => eval_of_tmps fun t hxt => ?_) ht1 h cont
        subst hxt
        by_cases hex : ∃ p ∈ Ev, (ops[p.1]?).bind (·.dst) = some t
        · obtain ⟨p, hp, ht⟩ := hex
          refine inv.done t p hp ht ?_
          rcases hops t (opTmps_mem hx) p.1 (List.mem_map.2 ⟨p, hp, rfl⟩) with hne | hdep
          · exact absurd ht hne
          · exact depsOn_listed hdep hall
        · exact inv.free t fun p hp ht => hex ⟨p, hp, ht⟩
      · rename_i hw1
        rw [if_neg hw1]
        exact ⟨fun f _ => h.1 f, cont _ _ h.2⟩
    · have hiE : i ∈ Ev.map (·.1) := (ok.all i hlt).resolve_right hiT
      obtain ⟨o', d, ho', hd, hg1, hread, _, hEd, hTd, hops⟩ := ok.e i hiE
      obtain rfl : o' = o := Option.some.inj (ho'.symm.trans ho)
      obtain ⟨p, hp, rfl⟩ := List.mem_map.1 hiE
      rw [if_pos (wanted_of fun g b hgb => by
        obtain ⟨h1, h2, h3, h4⟩ := hg1 g b hgb
        rw [hfree inv g h2]
        exact inv.gs g b h1 h4 h2 (depsOn_listed h3 hall))]
      have hev : ∀ x ∈ o'.op.operands, a.eval x = A0.eval x := fun x hx => eval_of_tmps fun t hxt => by
        subst hxt
        obtain ⟨h1, h2⟩ := hops t (opTmps_mem hx)
        rw [← inv.base t (fun m j hmk hTm => by
          rcases h2 j (List.mem_of_getElem? hTm) with h | ⟨q, hq, hd'⟩
          · exact h
          · have hlj := inv.past m j hmk hTm
            have := depsOn_listed hd' (inv.fed j q hlj hq)
            rw [h0'] at this
            cases this)]
        by_cases hex : ∃ p ∈ Ev, (ops[p.1]?).bind (·.dst) = some t
        · obtain ⟨q, hq, ht⟩ := hex
          refine inv.done t q hq ht ?_
          rcases h1 q.1 (List.mem_map.2 ⟨q, hq, rfl⟩) with hne | hdep
          · exact absurd ht hne
          · exact depsOn_listed hdep hall
        · exact inv.free t fun q hq ht => hex ⟨q, hq, ht⟩
      replace hS : S w := hS.resolve_left fun hl => by have := hl p hp; rw [h0'] at this; cases this
      have hpd : (ops[p.1]?).bind (·.dst) = some d := by rw [ho]; exact hd
      refine wpIn_transfer hev hread (hE p hp _ ho w hS) (fun v w' hk => ?_)
      obtain ⟨hput, rfl⟩ := hk
      rw [put_same (by rw [hd]) hput (by rw [inv.tmps, inv.sz0]), hd]
      refine ih k _ _ A w (by omega) ⟨fed_set ho hall inv.fed, by simp [inv.size], by rw [put_size]; exact inv.tmps, by rw [put_defers]; exact inv.defers, fun t ht => ?_, fun t q hq ht hl => ?_, inv.held, inv.base, fun m' j hm' hj => getD_set_true (inv.past m' j hm' hj), fun m' j hm' hj => ?_, fun g b' hgb hdist hgT hl => inv.gs g b' hgb hdist hgT (by rwa [getD_set_ne false (fun e => hiT (by rw [e]; exact hgT))] at hl), inv.sz0⟩ (.inr hS) h
      · have hne : d ≠ t := fun e => ht p hp (e ▸ hpd)
        rw [put_get, if_neg hne]; exact inv.free t ht
      · rw [put_get]
        by_cases hdt : d = t
        · subst hdt
          rw [if_pos rfl, inv.held d p hp hpd, inv.tmps]
        · rw [if_neg hdt]
          have hpq : p.1 ≠ q.1 := fun e => hdt (by rw [← e, hpd] at ht; exact Option.some.inj ht)
          rw [getD_set_ne false hpq] at hl
          exact inv.done t q hq ht hl
      · have hne : p.1 ≠ j := fun e => hiT (e ▸ List.mem_of_getElem? hj)
        rw [getD_set_ne true hne]; exact inv.next m' j hm' hj
/-- all that is closed -/
def rtAllC (ops : Array Oper) (E : List Nat) (T : List (Nat × Bool)) (G : List (Nat × Bool)) : Bool := rtChkC ops E (T.map (·.1)) G && rtDue ops E T && decide E.Nodup
/-- a region that draws its order: reads that may come at any time, beside one chain -/
theorem region_rtc {Q : Exit → Act → World → Prop} {id : Nat} {a : Act} {w : World} (T : List (Nat × Bool)) (G : List (Nat × Bool)) (Ev : List (Nat × Value)) (S : World → Prop) (hm : P.follows .mixedOrders = true)
    (hB : rtAllC ops (Ev.map (·.1)) T G = true) (hS : S w.drew)
    (hE : evOkC F n P ops (putAll ops a Ev) S Ev)
    (hT : wpTailG F n P ops G S (fun a w => Q .normal a w) T (putAll ops a Ev) w.drew) : (Code.region id ops true).wpIn F n P Q a w := by
  unfold rtAllC at hB
  simp only [Bool.and_eq_true, decide_eq_true_eq] at hB
  obtain ⟨⟨hB1, hB2⟩, hnd⟩ := hB
  have ok := rtOkC hB1
  refine wpIn_region_any hm (rt_stepC ok (evOkC_all Ev hE) hB2 _ 0 _ a (putAll ops a Ev) _ ?_ ⟨fun i o hl => (by rw [getD_replicate_false] at hl; cases hl), by simp, (putAll_size Ev a).symm, (putAll_defers Ev a).symm, fun t ht => (putAll_free Ev a t ht).symm, fun t p _ _ hl => (by rw [getD_replicate_false] at hl; cases hl), fun t p hp ht => ?_, fun t _ => rfl, fun m i hm => absurd hm (Nat.not_lt_zero m), fun m i _ hi => ?_, fun g b _ _ _ hl => (by rw [getD_replicate_false] at hl; cases hl), rfl⟩ (.inr hS) (by simpa using hT))
  · unfold toGo
    exact Nat.le_trans List.countP_le_length (by simp)
  · rw [putAll_size]
    refine putAll_held Ev a t p hp hnd (fun q hq => ?_) ht
    obtain ⟨o, d, ho, hd, _, _, _, hu, _⟩ := ok.e p.1 (List.mem_map.2 ⟨p, hp, rfl⟩)
    rw [ho] at ht
    simp only [Option.bind_some] at ht
    rw [hd] at ht
    obtain rfl := Option.some.inj ht
    exact hu q.1 (List.mem_map.2 ⟨q, hq, rfl⟩)
  · obtain ⟨o, ho, _⟩ := ok.t i (List.mem_of_getElem? hi)
    exact getD_in (by simpa using (Array.getElem?_eq_some_iff.1 ho).1) (getD_replicate_false _ _)
end
end Go.Proofs.Ytenegjflapppdaa
