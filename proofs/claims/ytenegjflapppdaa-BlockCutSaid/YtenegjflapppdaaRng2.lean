/- A region that draws its order: reads that may come at any time, one forced chain, and reads that wait for the chain's end. -/
import Derived.Test.YtenegjflapppdaaRng
set_option linter.all false
namespace Go.Proofs.Ytenegjflapppdaa
open Go.RowKit
section
variable {F : Fence} {n : Nat} {P : Program} {ops : Array Oper}
/-- the closed facts: every operation is a read or of the chain; a read's slot is its own; what hangs on it says so -/
def rtChk3 (ops : Array Oper) (E T L : List Nat) : Bool :=
  (List.range ops.size).all (fun i => E.contains i || (T.contains i || L.contains i)) &&
  E.all (fun i => match ops[i]? with
    | none => false
    | some o => o.guard.isNone && o.dst.isSome && readOp o.op && !T.contains i && (E.all fun j => j == i || (ops[j]?).bind (·.dst) != o.dst) && (T.all fun j => (ops[j]?).bind (·.dst) != o.dst) &&
      (opTmps o).all (fun t => (E.all fun j => (ops[j]?).bind (·.dst) != some t || depsOn o j) && (T.all fun j => (ops[j]?).bind (·.dst) != some t))) &&
  T.all (fun i => match ops[i]? with
    | none => false
    | some o => o.guard.isNone && tailOp o.op && (opTmps o).all (fun t => E.all fun j => (ops[j]?).bind (·.dst) != some t || depsOn o j)) &&
  (List.range (T.length - 1)).all (fun k => match T[k]?, (T[k + 1]?).bind (ops[·]?) with
    | some i, some o => depsOn o i
    | _, _ => false) &&
  (List.range ops.size).all (fun i => match ops[i]? with
    | none => true
    | some o => o.after.all fun e => !Region.binds .any e || decide (e.on < i)) &&
  decide T.Nodup &&
  L.all (fun i => match ops[i]? with
    | none => false
    | some o => o.guard.isNone && o.dst.isSome && readOp o.op && !E.contains i && !T.contains i && (match T.getLast? with | some x => waits ops ops.size i x | none => false) && (L.all fun j => j == i || (ops[j]?).bind (·.dst) != o.dst) &&
      (opTmps o).all (fun t => L.all fun j => (ops[j]?).bind (·.dst) != some t || depsOn o j))
structure RtOk3 (ops : Array Oper) (E T L : List Nat) : Prop where
  all : ∀ i, i < ops.size → i ∈ E ∨ i ∈ T ∨ i ∈ L
  l : ∀ i ∈ L, ∃ o d, ops[i]? = some o ∧ o.dst = some d ∧ o.guard.isNone = true ∧ readOp o.op = true ∧ i ∉ E ∧ i ∉ T ∧ (∃ x, T.getLast? = some x ∧ waits ops ops.size i x = true) ∧ (∀ j ∈ L, j = i ∨ (ops[j]?).bind (·.dst) ≠ some d) ∧ (∀ t ∈ opTmps o, ∀ j ∈ L, (ops[j]?).bind (·.dst) ≠ some t ∨ depsOn o j = true)
  e : ∀ i ∈ E, ∃ o d, ops[i]? = some o ∧ o.dst = some d ∧ o.guard.isNone = true ∧ readOp o.op = true ∧ i ∉ T ∧
    (∀ j ∈ E, j = i ∨ (ops[j]?).bind (·.dst) ≠ some d) ∧ (∀ j ∈ T, (ops[j]?).bind (·.dst) ≠ some d) ∧
    (∀ t ∈ opTmps o, (∀ j ∈ E, (ops[j]?).bind (·.dst) ≠ some t ∨ depsOn o j = true) ∧ ∀ j ∈ T, (ops[j]?).bind (·.dst) ≠ some t)
  t : ∀ i ∈ T, ∃ o, ops[i]? = some o ∧ o.guard.isNone = true ∧ tailOp o.op = true ∧ ∀ t ∈ opTmps o, ∀ j ∈ E, (ops[j]?).bind (·.dst) ≠ some t ∨ depsOn o j = true
  chain : ∀ k i j, T[k]? = some i → T[k + 1]? = some j → ∃ o, ops[j]? = some o ∧ depsOn o i = true
  down : ∀ i o, ops[i]? = some o → ∀ e ∈ o.after, Region.binds .any e = true → e.on < i
  nodup : T.Nodup
theorem rtOk3 {E T L : List Nat} (h : rtChk3 ops E T L = true) : RtOk3 ops E T L := by
  simp only [rtChk3, Bool.and_eq_true, decide_eq_true_eq] at h
  obtain ⟨⟨⟨⟨⟨⟨h1, h2⟩, h3⟩, h4⟩, h5⟩, h6⟩, h7⟩ := h
  refine ⟨fun i hi => ?_, fun i hi => ?_, fun i hi => ?_, fun i hi => ?_, fun k i j hk hj => ?_, fun i o ho e he hb => ?_, h6⟩
  · have := List.all_eq_true.1 h1 i (List.mem_range.2 hi)
    simpa using this
  · have := List.all_eq_true.1 h7 i hi
    cases ho : ops[i]? with
    | none => simp [ho] at this
    | some o =>
      simp only [ho] at this
      simp only [Bool.and_eq_true, Bool.or_eq_true, List.all_eq_true, bne_iff_ne, beq_iff_eq, ne_eq, Bool.not_eq_true', List.contains_eq_mem, decide_eq_false_iff_not] at this
      obtain ⟨⟨⟨⟨⟨⟨⟨hg, hd⟩, hr⟩, hE⟩, hT⟩, hw⟩, hL⟩, hops⟩ := this
      obtain ⟨d, hd⟩ := Option.isSome_iff_exists.1 hd
      rw [hd] at hL
      refine ⟨o, d, rfl, hd, hg, hr, hE, hT, ?_, hL, hops⟩
      cases hx : T.getLast? with
      | none => rw [hx] at hw; simp at hw
      | some x => rw [hx] at hw; exact ⟨x, rfl, hw⟩
  · have := List.all_eq_true.1 h2 i hi
    cases ho : ops[i]? with
    | none => simp [ho] at this
    | some o =>
      simp only [ho] at this
      simp only [Bool.and_eq_true, Bool.or_eq_true, List.all_eq_true, bne_iff_ne, beq_iff_eq, ne_eq, Bool.not_eq_true', List.contains_eq_mem, decide_eq_false_iff_not] at this
      obtain ⟨⟨⟨⟨⟨⟨hg, hd⟩, hr⟩, hT⟩, hE⟩, hTd⟩, hops⟩ := this
      obtain ⟨d, hd⟩ := Option.isSome_iff_exists.1 hd
      rw [hd] at hE hTd
      exact ⟨o, d, rfl, hd, hg, hr, hT, hE, hTd, hops⟩
  · have := List.all_eq_true.1 h3 i hi
    cases ho : ops[i]? with
    | none => simp [ho] at this
    | some o =>
      simp only [ho] at this
      simp only [Bool.and_eq_true, Bool.or_eq_true, List.all_eq_true, bne_iff_ne, ne_eq] at this
      obtain ⟨⟨hg, ht⟩, hops⟩ := this
      exact ⟨o, rfl, hg, ht, hops⟩
  · have hl : k + 1 < T.length := (List.getElem?_eq_some_iff.1 hj).1
    have := List.all_eq_true.1 h4 k (List.mem_range.2 (by omega))
    rw [hk, hj] at this
    cases ho : ops[j]? with
    | none => simp [ho] at this
    | some o => exact ⟨o, rfl, by simpa [ho] using this⟩
  · have hi : i < ops.size := (Array.getElem?_eq_some_iff.1 ho).1
    have := List.all_eq_true.1 h5 i (List.mem_range.2 hi)
    simp only [ho] at this
    have := Array.all_eq_true'.1 this e he
    simpa [hb] using this
theorem only_undrew {w w' : World} {r : Option Nat} (h : w.drew.grownBy w' r) : w.grownBy w' r := ⟨h.os, h.tape, h.output, h.size, h.block⟩
structure LtInv (ops : Array Oper) (Lv : List (Nat × Value)) (a A : Act) (listed : Array Bool) : Prop where
  fed : ∀ i o, listed.getD i false = true → ops[i]? = some o → ∀ e ∈ o.after, Region.binds .any e = true → listed.getD e.on false = true
  size : listed.size = ops.size
  tmps : a.tmps.size = A.tmps.size
  defers : a.defers = A.defers
  free : ∀ t : Nat, (∀ p ∈ Lv, (ops[p.1]?).bind (·.dst) ≠ some t) → a.tmps[t]? = A.tmps[t]?
  done : ∀ t : Nat, ∀ p ∈ Lv, (ops[p.1]?).bind (·.dst) = some t → listed.getD p.1 false = true → a.tmps[t]? = A.tmps[t]?
  held : ∀ t : Nat, ∀ p ∈ Lv, (ops[p.1]?).bind (·.dst) = some t → A.tmps[t]? = if t < A.tmps.size then some p.2 else none
  rest : ∀ i, i < ops.size → i ∉ Lv.map (·.1) → listed.getD i false = true
theorem lt_fin {Q : Exit → Act → World → Prop} {Lv : List (Nat × Value)} {E T : List Nat} (ok : RtOk3 ops E T (Lv.map (·.1))) {listed : Array Bool} {a A : Act} {w : World}
    (inv : LtInv ops Lv a A listed) (hr : Region.ready .any ops listed = []) (h : Q .normal A w) : Q .normal a w := by
  have all := ready_nil ok.down hr
  have hA : a = A := act_ext inv.defers fun t => by
    by_cases hx : ∃ p ∈ Lv, (ops[p.1]?).bind (·.dst) = some t
    · obtain ⟨p, hp, ht⟩ := hx
      refine inv.done t p hp ht ?_
      obtain ⟨o, d, ho, _⟩ := ok.l p.1 (List.mem_map.2 ⟨p, hp, rfl⟩)
      have hlt := (Array.getElem?_eq_some_iff.1 ho).1
      have := all p.1 hlt
      rw [← inv.size] at hlt
      simpa [hlt] using this
    · exact inv.free t fun p hp ht => hx ⟨p, hp, ht⟩
  rw [hA]; exact h
theorem lt_step {Q : Exit → Act → World → Prop} {Lv : List (Nat × Value)} {E T : List Nat} (ok : RtOk3 ops E T (Lv.map (·.1))) {A : Act} {w : World}
    (hE : ∀ p ∈ Lv, ∀ o, ops[p.1]? = some o → (execOp A.eval o).run P w = .ok (.value p.2) w) (h : Q .normal A w) :
    ∀ (fuel : Nat) (listed : Array Bool) (a : Act), toGo ops.size listed ≤ fuel → LtInv ops Lv a A listed → wpAnyIn F n P .any ops Q fuel listed a w := by
  intro fuel
  induction fuel with
  | zero =>
    intro listed a hg inv
    have hr : Region.ready .any ops listed = [] := by
      cases hr : Region.ready .any ops listed with
      | nil => rfl
      | cons i r =>
        obtain ⟨h0, o, ho, _⟩ := mem_ready.1 (show i ∈ Region.ready .any ops listed by rw [hr]; simp)
        have := toGo_set (Array.getElem?_eq_some_iff.1 ho).1 inv.size h0
        omega
    exact ⟨hr, lt_fin ok inv hr h⟩
  | succ fuel ih =>
    intro listed a hg inv
    refine ⟨fun hr => lt_fin ok inv hr h, fun i hi => ?_⟩
    obtain ⟨h0, o, ho, hall⟩ := mem_ready.1 hi
    have hlt := (Array.getElem?_eq_some_iff.1 ho).1
    have hgo := toGo_set hlt inv.size h0
    have h0' : listed.getD i false = false := getD_both h0
    unfold wpOpIn
    simp only [ho]
    have hiL : i ∈ Lv.map (·.1) := by
      by_cases hx : i ∈ Lv.map (·.1)
      · exact hx
      · have := inv.rest i hlt hx; rw [h0'] at this; cases this
    obtain ⟨o', d, ho', hd, hg1, hread, _, _, _, hEd, hops⟩ := ok.l i hiL
    obtain rfl : o' = o := Option.some.inj (ho'.symm.trans ho)
    obtain ⟨p, hp, rfl⟩ := List.mem_map.1 hiL
    rw [if_pos (wanted_bare hg1 _)]
    have hev : execOp a.eval o' = execOp A.eval o' := execOp_congr o' (noSelect_read hread) fun x hx => eval_of_tmps fun t hxt => by
      subst hxt
      have h1 := hops t (opTmps_mem hx)
      by_cases hex : ∃ p ∈ Lv, (ops[p.1]?).bind (·.dst) = some t
      · obtain ⟨q, hq, ht⟩ := hex
        refine inv.done t q hq ht ?_
        rcases h1 q.1 (List.mem_map.2 ⟨q, hq, rfl⟩) with hne | hdep
        · exact absurd ht hne
        · exact depsOn_listed hdep hall
      · exact inv.free t fun q hq ht => hex ⟨q, hq, ht⟩
    unfold Oper.wpIn
    rw [Oper.semAt_eq _ _ _ (noDefer_read hread), hev, hE p hp _ ho, about_read hread]
    refine ⟨fun f hf => (by cases hf), ?_⟩
    rw [Oper.uponIn_value, hd]
    have hpd : (ops[p.1]?).bind (·.dst) = some d := by rw [ho]; exact hd
    refine ih _ _ (by omega) ⟨fed_set ho hall inv.fed, by simp [inv.size], by rw [put_size]; exact inv.tmps, by rw [put_defers]; exact inv.defers, fun t ht => ?_, fun t q hq ht hl => ?_, inv.held, fun i hi hn => getD_set_true (inv.rest i hi hn)⟩
    · have hne : d ≠ t := fun e => ht p hp (e ▸ hpd)
      rw [put_get, if_neg hne]; exact inv.free t ht
    · rw [put_get]
      by_cases hdt : d = t
      · subst hdt
        rw [if_pos rfl, inv.held d p hp hpd, inv.tmps]
      · rw [if_neg hdt]
        have hpq : p.1 ≠ q.1 := fun e => hdt (by rw [← e, hpd] at ht; exact Option.some.inj ht)
        rw [getD_set_ne false hpq] at hl
        exact inv.done t q hq ht hl
/-- what the chain's end owes: the late reads' values -/
def LateOk (P : Program) (ops : Array Oper) (L : List Nat) (Q : Exit → Act → World → Prop) (A : Act) (w : World) : Prop :=
  ∃ Lv : List (Nat × Value), Lv.map (·.1) = L ∧ evOk P ops (putAll ops A Lv) (fun W => W = w) Lv ∧ Q .normal (putAll ops A Lv) w
theorem rt_more {L : List Nat} {Ev : List (Nat × Value)} {T : List (Nat × Bool)} {A0 : Act} (ok : RtOk3 ops (Ev.map (·.1)) (T.map (·.1)) L) {k : Nat} {listed : Array Bool} {a A : Act}
    (inv : RtInv ops Ev (T.map (·.1)) A0 a A k listed) (hr : Region.ready .any ops listed = []) (hk : k < T.length) : False := by
  have all := ready_nil ok.down hr
  have hi : (T.map (·.1))[k]? = some T[k].1 := by simp [hk]
  obtain ⟨o, ho, _⟩ := ok.t T[k].1 (List.mem_of_getElem? hi)
  have h1 := inv.next k T[k].1 (Nat.le_refl _) hi
  rw [all _ (Array.getElem?_eq_some_iff.1 ho).1] at h1
  cases h1
theorem rt_late {L : List Nat} {Q : Exit → Act → World → Prop} {S : World → Prop} {Ev : List (Nat × Value)} {T : List (Nat × Bool)} {A0 : Act} (ok : RtOk3 ops (Ev.map (·.1)) (T.map (·.1)) L) (hLn : L.Nodup)
    (hD : rtDue ops (Ev.map (·.1)) T = true) (hend : ∃ x, T.getLast? = some (x, false)) {fuel k : Nat} {listed : Array Bool} {a A : Act} {w : World} (hg : toGo ops.size listed ≤ fuel)
    (inv : RtInv ops Ev (T.map (·.1)) A0 a A k listed) (hLl : ∀ i ∈ L, listed.getD i true = false) (hk : T.length ≤ k) (h : wpTail F n P ops S (LateOk P ops L Q) (T.drop k) A w) : wpAnyIn F n P .any ops Q fuel listed a w := by
  rw [List.drop_of_length_le hk] at h
  obtain ⟨Lv, rfl, hE, hQ⟩ := h
  obtain ⟨x, hx⟩ := hend
  have hlen : 0 < T.length := by
    cases T with
    | nil => simp at hx
    | cons _ _ => simp
  have hlast : T[T.length - 1]? = some (x, false) := by rw [List.getLast?_eq_getElem?] at hx; exact hx
  have hpast : ∀ p ∈ T, listed.getD p.1 false = true := fun p hp => by
    obtain ⟨m, hm⟩ := List.mem_iff_getElem?.1 hp
    have hml := (List.getElem?_eq_some_iff.1 hm).1
    exact inv.past m p.1 (by omega) (by rw [List.getElem?_map, hm]; rfl)
  have hEv : ∀ p ∈ Ev, listed.getD p.1 false = true := fun p hp => by
    have h2 := List.all_eq_true.1 hD (T.length - 1) (List.mem_range.2 (by omega))
    rw [hlast] at h2
    have h3 := List.all_eq_true.1 h2 p.1 (List.mem_map.2 ⟨p, hp, rfl⟩)
    obtain ⟨j, hj, hdep⟩ := List.any_eq_true.1 h3
    exact waits_listed inv.fed _ _ _ hdep (hpast j (List.mem_of_mem_take hj))
  have hA : a = A := act_ext inv.defers fun t => by
    by_cases hx : ∃ p ∈ Ev, (ops[p.1]?).bind (·.dst) = some t
    · obtain ⟨p, hp, ht⟩ := hx
      exact inv.done t p hp ht (hEv p hp)
    · exact inv.free t fun p hp ht => hx ⟨p, hp, ht⟩
  subst hA
  refine lt_step ok (fun p hp o ho => evOk_all Lv hE p hp o ho w rfl) hQ fuel listed a hg ⟨inv.fed, inv.size, (putAll_size Lv a).symm, (putAll_defers Lv a).symm, fun t ht => (putAll_free Lv a t ht).symm, fun t p hp ht hl => ?_, fun t p hp ht => ?_, fun i hi hn => ?_⟩
  · have := hLl p.1 (List.mem_map.2 ⟨p, hp, rfl⟩)
    rw [getD_both this] at hl
    cases hl
  · rw [putAll_size]
    refine putAll_held Lv a t p hp hLn (fun q hq => ?_) ht
    obtain ⟨o, d, ho, hd, _, _, _, _, _, hu, _⟩ := ok.l p.1 (List.mem_map.2 ⟨p, hp, rfl⟩)
    rw [ho] at ht
    simp only [Option.bind_some] at ht
    rw [hd] at ht
    obtain rfl := Option.some.inj ht
    exact hu q.1 (List.mem_map.2 ⟨q, hq, rfl⟩)
  · rcases ok.all i hi with h | h | h
    · obtain ⟨p, hp, rfl⟩ := List.mem_map.1 h; exact hEv p hp
    · obtain ⟨p, hp, rfl⟩ := List.mem_map.1 h; exact hpast p hp
    · exact absurd h hn
theorem rt_step3 {L : List Nat} {Q : Exit → Act → World → Prop} {S : World → Prop} {Ev : List (Nat × Value)} {T : List (Nat × Bool)} {A0 : Act} (ok : RtOk3 ops (Ev.map (·.1)) (T.map (·.1)) L) (hLn : L.Nodup) (hend : ∃ x, T.getLast? = some (x, false))
    (hE : ∀ p ∈ Ev, ∀ o, ops[p.1]? = some o → ∀ W, S W → (execOp A0.eval o).run P W = .ok (.value p.2) W) (hD : rtDue ops (Ev.map (·.1)) T = true) :
    ∀ (fuel k : Nat) (listed : Array Bool) (a A : Act) (w : World), toGo ops.size listed ≤ fuel → RtInv ops Ev (T.map (·.1)) A0 a A k listed → (∀ i ∈ L, listed.getD i true = false) → ((∀ p ∈ Ev, listed.getD p.1 false = true) ∨ S w) →
      wpTail F n P ops S (LateOk P ops L Q) (T.drop k) A w → wpAnyIn F n P .any ops Q fuel listed a w := by
  intro fuel
  induction fuel with
  | zero =>
    intro k listed a A w hg inv hLl hS h
    by_cases hk : T.length ≤ k
    · exact rt_late ok hLn hD hend hg inv hLl hk h
    have hr : Region.ready .any ops listed = [] := by
      cases hr : Region.ready .any ops listed with
      | nil => rfl
      | cons i r =>
        obtain ⟨h0, o, ho, _⟩ := mem_ready.1 (show i ∈ Region.ready .any ops listed by rw [hr]; simp)
        have := toGo_set (Array.getElem?_eq_some_iff.1 ho).1 inv.size h0
        omega
    exact (rt_more ok inv hr (by omega)).elim
  | succ fuel ih =>
    intro k listed a A w hg inv hLl hS h
    by_cases hk : T.length ≤ k
    · exact rt_late ok hLn hD hend hg inv hLl hk h
    refine ⟨fun hr => (rt_more ok inv hr (by omega)).elim, fun i hi => ?_⟩
    obtain ⟨h0, o, ho, hall⟩ := mem_ready.1 hi
    have hlt := (Array.getElem?_eq_some_iff.1 ho).1
    have hgo := toGo_set hlt inv.size h0
    have h0' : listed.getD i false = false := getD_both h0
    unfold wpOpIn
    simp only [ho]
    by_cases hiT : i ∈ T.map (·.1)
    · obtain ⟨o', ho', hg1, ht1, hops⟩ := ok.t i hiT
      obtain rfl : o' = o := Option.some.inj (ho'.symm.trans ho)
      rw [if_pos (wanted_bare hg1 _)]
      obtain ⟨m, hm⟩ := List.mem_iff_getElem?.1 hiT
      have hk : m = k := by
        rcases Nat.lt_trichotomy m k with hlt' | heq | hgt
        · have := inv.past m i hlt' hm; rw [h0'] at this; cases this
        · exact heq
        · obtain ⟨m', rfl⟩ : ∃ m', m = m' + 1 := ⟨m - 1, by omega⟩
          have hml : m' + 1 < (T.map (·.1)).length := (List.getElem?_eq_some_iff.1 hm).1
          have hm' : (T.map (·.1))[m']? = some (T.map (·.1))[m'] := by rw [List.getElem?_eq_getElem]
          obtain ⟨o2, ho2, hdep⟩ := ok.chain m' _ _ hm' hm
          obtain rfl : o2 = o' := Option.some.inj (ho2.symm.trans ho)
          have hlis := depsOn_listed hdep hall
          have := inv.next m' _ (by omega) hm'
          rw [getD_both this] at hlis; cases hlis
      subst hk
      obtain ⟨b, hb⟩ : ∃ b, T[m]? = some (i, b) := by
        rw [List.getElem?_map] at hm
        cases hx : T[m]? with
        | none => rw [hx] at hm; cases hm
        | some x => rw [hx] at hm; obtain rfl := Option.some.inj hm; exact ⟨x.2, rfl⟩
      have hml : m < T.length := (List.getElem?_eq_some_iff.1 hb).1
      have hdrop : T.drop m = (i, b) :: T.drop (m + 1) := by
        rw [List.drop_eq_getElem_cons hml]
        congr 1
        simpa [List.getElem?_eq_getElem hml] using hb
      rw [hdrop] at h
      unfold wpTail at h
      simp only [ho] at h
      refine wpIn_transfer (K' := fun a' w' => (b = true → S w') ∧ wpTail F n P ops S (LateOk P ops L Q) (T.drop (m + 1)) a' w') (fun x hx => eval_of_tmps fun t hxt => ?_) ht1 h (fun v w' ⟨hS', h'⟩ => ?_)
      · subst hxt
        by_cases hex : ∃ p ∈ Ev, (ops[p.1]?).bind (·.dst) = some t
        · obtain ⟨p, hp, ht⟩ := hex
          refine inv.done t p hp ht ?_
          rcases hops t (opTmps_mem hx) p.1 (List.mem_map.2 ⟨p, hp, rfl⟩) with hne | hdep
          · exact absurd ht hne
          · exact depsOn_listed hdep hall
        · exact inv.free t fun p hp ht => hex ⟨p, hp, ht⟩
      · have hdd : ∀ d, o'.dst = some d → ∀ p ∈ Ev, (ops[p.1]?).bind (·.dst) ≠ some d := fun d hd p hp ht => by
          obtain ⟨o2, d2, ho2, hd2, _, _, _, _, hTd, _⟩ := ok.e p.1 (List.mem_map.2 ⟨p, hp, rfl⟩)
          rw [ho2] at ht
          simp only [Option.bind_some] at ht
          have := hTd i hiT
          rw [ho] at this
          simp only [Option.bind_some] at this
          rw [hd, ← hd2, ht] at this
          exact this rfl
        have hget : ∀ (b : Act) t, (b.put o'.dst v).tmps[t]? = match o'.dst with | some d => if d = t then (if t < b.tmps.size then some v else none) else b.tmps[t]? | none => b.tmps[t]? := fun b t => by
          cases hd : o'.dst with
          | none => rfl
          | some d => exact put_get b d v t
        have fed := fed_set ho hall inv.fed
        refine ih (m + 1) _ _ _ w' (by omega) ⟨fed, by simp [inv.size], by rw [put_size, put_size]; exact inv.tmps, by rw [put_defers, put_defers]; exact inv.defers, fun t ht => ?_, fun t p hp ht hl => ?_, fun t p hp ht => ?_, fun t ht => ?_, fun m' j hm' hj => ?_, fun m' j hm' hj => ?_⟩ (fun j hj => by have hne : i ≠ j := fun e => (by obtain ⟨_, _, _, _, _, _, _, hnT, _⟩ := ok.l j hj; exact hnT (e ▸ hiT)); rw [getD_set_ne true hne]; exact hLl j hj) (by
          cases b with
          | true => exact .inr (hS' rfl)
          | false =>
            refine .inl fun p hp => ?_
            have h2 := List.all_eq_true.1 hD m (List.mem_range.2 hml)
            rw [hb] at h2
            have h3 := List.all_eq_true.1 h2 p.1 (List.mem_map.2 ⟨p, hp, rfl⟩)
            obtain ⟨j, hj, hdep⟩ := List.any_eq_true.1 h3
            obtain ⟨m', hm'⟩ := List.mem_iff_getElem?.1 hj
            rw [List.getElem?_take] at hm'
            split at hm'
            · rename_i hlt'
              refine waits_listed fed _ _ _ hdep ?_
              rcases Nat.lt_or_ge m' m with hlt'' | hge
              · exact getD_set_true (inv.past m' j.1 hlt'' (by rw [List.getElem?_map, hm']; rfl))
              · obtain rfl : m' = m := by omega
                rw [hb] at hm'
                obtain rfl := Option.some.inj hm'
                have : i < listed.size := by rw [inv.size]; exact hlt
                simp [this]
            · cases hm') h'
        · rw [hget, hget, inv.free t ht, inv.tmps]
        · have hne : ∀ d, o'.dst = some d → d ≠ t := fun d hd e => hdd d hd p hp (e ▸ ht)
          have hpi : i ≠ p.1 := fun e => by
            obtain ⟨_, _, _, _, _, _, hnT, _⟩ := ok.e p.1 (List.mem_map.2 ⟨p, hp, rfl⟩)
            exact hnT (e ▸ hiT)
          rw [getD_set_ne false hpi] at hl
          have := inv.done t p hp ht hl
          rw [hget, hget]
          cases hd : o'.dst with
          | none => exact this
          | some d => simp only [if_neg (hne d hd)]; exact this
        · have hne : ∀ d, o'.dst = some d → d ≠ t := fun d hd e => hdd d hd p hp (e ▸ ht)
          have := inv.held t p hp ht
          rw [hget, put_size]
          cases hd : o'.dst with
          | none => exact this
          | some d => simp only [if_neg (hne d hd)]; exact this
        · have hne : ∀ d, o'.dst = some d → d ≠ t := fun d hd e => ht i hiT (by rw [ho]; simp [hd, e])
          have := inv.base t ht
          rw [hget]
          cases hd : o'.dst with
          | none => exact this
          | some d => simp only [if_neg (hne d hd)]; exact this
        · rcases Nat.lt_or_ge m' m with hlt' | hge
          · exact getD_set_true (inv.past m' j hlt' hj)
          · obtain rfl : m' = m := by omega
            obtain rfl : j = i := Option.some.inj (hj.symm.trans hm)
            have : j < listed.size := by rw [inv.size]; exact hlt
            simp [this]
        · have hne : i ≠ j := fun e => by
            subst e
            have h1 : m < (T.map (·.1)).length := (List.getElem?_eq_some_iff.1 hm).1
            have h2 : m' < (T.map (·.1)).length := (List.getElem?_eq_some_iff.1 hj).1
            refine List.pairwise_iff_getElem.1 ok.nodup m m' h1 h2 (by omega) ?_
            rw [List.getElem?_eq_getElem h1] at hm; rw [List.getElem?_eq_getElem h2] at hj
            rw [Option.some.inj hm, Option.some.inj hj]
          rw [getD_set_ne true hne]
          exact inv.next m' j (by omega) hj
    · have hiL : i ∉ L := fun hiL => by
        obtain ⟨_, _, _, _, _, _, _, _, ⟨x, hx, hw⟩, _⟩ := ok.l i hiL
        have hxl : listed.getD x false = true := by
          have : ∀ f j e : Nat, waits ops f j e = true → (∀ o, ops[j]? = some o → ∀ e ∈ o.after, Region.binds .any e = true → listed.getD e.on false = true) → listed.getD e false = true := by
            intro f j e hwt hfd
            cases f with
            | zero => cases hwt
            | succ f =>
              unfold waits at hwt
              cases ho2 : ops[j]? with
              | none => rw [ho2] at hwt; cases hwt
              | some o2 =>
                simp only [ho2, Bool.or_eq_true] at hwt
                rcases hwt with h1 | h1
                · exact depsOn_listed h1 (hfd o2 ho2)
                · obtain ⟨y, hy, hb⟩ := Array.any_eq_true'.1 h1
                  simp only [Bool.and_eq_true] at hb
                  exact waits_listed inv.fed f y.on e hb.2 (hfd o2 ho2 y hy hb.1)
          exact this _ i x hw (fun o2 ho2 => by obtain rfl := Option.some.inj (ho2.symm.trans ho); exact hall)
        have hlast : (T.map (·.1))[T.length - 1]? = some x := by rw [List.getLast?_eq_getElem?] at hx; simpa using hx
        have := inv.next (T.length - 1) x (by omega) hlast
        rw [getD_both this] at hxl
        cases hxl
      have hiE : i ∈ Ev.map (·.1) := (ok.all i hlt).resolve_right (fun h => h.elim hiT hiL)
      obtain ⟨o', d, ho', hd, hg1, hread, _, hEd, hTd, hops⟩ := ok.e i hiE
      obtain rfl : o' = o := Option.some.inj (ho'.symm.trans ho)
      obtain ⟨p, hp, rfl⟩ := List.mem_map.1 hiE
      rw [if_pos (wanted_bare hg1 _)]
      have hev : execOp a.eval o' = execOp A0.eval o' := execOp_congr o' (noSelect_read hread) fun x hx => eval_of_tmps fun t hxt => by
        subst hxt
        obtain ⟨h1, h2⟩ := hops t (opTmps_mem hx)
        rw [← inv.base t h2]
        by_cases hex : ∃ p ∈ Ev, (ops[p.1]?).bind (·.dst) = some t
        · obtain ⟨q, hq, ht⟩ := hex
          refine inv.done t q hq ht ?_
          rcases h1 q.1 (List.mem_map.2 ⟨q, hq, rfl⟩) with hne | hdep
          · exact absurd ht hne
          · exact depsOn_listed hdep hall
        · exact inv.free t fun q hq ht => hex ⟨q, hq, ht⟩
      replace hS : S w := hS.resolve_left fun hl => by have := hl p hp; rw [h0'] at this; cases this
      unfold Oper.wpIn
      rw [Oper.semAt_eq _ _ _ (noDefer_read hread), hev, hE p hp _ ho w hS, about_read hread]
      refine ⟨fun f hf => (by cases hf), ?_⟩
      rw [Oper.uponIn_value, hd]
      have hpd : (ops[p.1]?).bind (·.dst) = some d := by rw [ho]; exact hd
      refine ih k _ _ A w (by omega) ⟨fed_set ho hall inv.fed, by simp [inv.size], by rw [put_size]; exact inv.tmps, by rw [put_defers]; exact inv.defers, fun t ht => ?_, fun t q hq ht hl => ?_, inv.held, inv.base, fun m' j hm' hj => getD_set_true (inv.past m' j hm' hj), fun m' j hm' hj => ?_⟩ (fun j hj => by have hne : p.1 ≠ j := fun e => (by obtain ⟨_, _, _, _, _, _, hnE, _⟩ := ok.l j hj; exact hnE (e ▸ hiE)); rw [getD_set_ne true hne]; exact hLl j hj) (.inr hS) h
      · have hne : d ≠ t := fun e => ht p hp (e ▸ hpd)
        rw [put_get, if_neg hne]; exact inv.free t ht
      · rw [put_get]
        by_cases hdt : d = t
        · subst hdt
          rw [if_pos rfl, inv.held d p hp hpd, inv.tmps]
        · rw [if_neg hdt]
          have hpq : p.1 ≠ q.1 := fun e => hdt (by rw [← e, hpd] at ht; exact Option.some.inj ht)
          rw [getD_set_ne false hpq] at hl
          exact inv.done t q hq ht hl
      · have hne : p.1 ≠ j := fun e => hiT (e ▸ List.mem_of_getElem? hj)
        rw [getD_set_ne true hne]; exact inv.next m' j hm' hj
/-- all that is closed -/
def rtAll3 (ops : Array Oper) (E : List Nat) (T : List (Nat × Bool)) (L : List Nat) : Bool := rtChk3 ops E (T.map (·.1)) L && rtDue ops E T && decide E.Nodup && (decide L.Nodup && (match T.getLast? with | some (_, false) => true | _ => false))
/-- a region that draws its order: reads that may come at any time, beside one chain -/
theorem region_rt3 {Q : Exit → Act → World → Prop} {id : Nat} {a : Act} {w : World} (T : List (Nat × Bool)) (L : List Nat) (Ev : List (Nat × Value)) (S : World → Prop) (hm : P.follows .mixedOrders = true)
    (hB : rtAll3 ops (Ev.map (·.1)) T L = true) (hS : S w.drew)
    (hE : evOk P ops (putAll ops a Ev) S Ev)
    (hT : wpTail F n P ops S (LateOk P ops L Q) T (putAll ops a Ev) w.drew) : (Code.region id ops true).wpIn F n P Q a w := by
  unfold rtAll3 at hB
  simp only [Bool.and_eq_true, decide_eq_true_eq] at hB
  obtain ⟨⟨⟨hB1, hB2⟩, hnd⟩, hLn, hend⟩ := hB
  have hend : ∃ x, T.getLast? = some (x, false) := by
    cases hx : T.getLast? with
    | none => rw [hx] at hend; simp at hend
    | some y =>
      obtain ⟨y1, y2⟩ := y
      rw [hx] at hend
      cases y2 with
      | true => simp at hend
      | false => exact ⟨y1, rfl⟩
  have ok := rtOk3 hB1
  refine wpIn_region_any hm (rt_step3 ok hLn hend (evOk_all Ev hE) hB2 _ 0 _ a (putAll ops a Ev) _ ?_ ⟨fun i o hl => (by rw [getD_replicate_false] at hl; cases hl), by simp, (putAll_size Ev a).symm, (putAll_defers Ev a).symm, fun t ht => (putAll_free Ev a t ht).symm, fun t p _ _ hl => (by rw [getD_replicate_false] at hl; cases hl), fun t p hp ht => ?_, fun t _ => rfl, fun m i hm => absurd hm (Nat.not_lt_zero m), fun m i _ hi => ?_⟩ (fun i hi => by obtain ⟨_, _, ho, _⟩ := ok.l i hi; exact getD_in (by simpa using (Array.getElem?_eq_some_iff.1 ho).1) (getD_replicate_false _ _)) (.inr hS) (by simpa using hT))
  · unfold toGo
    exact Nat.le_trans List.countP_le_length (by simp)
  · rw [putAll_size]
    refine putAll_held Ev a t p hp hnd (fun q hq => ?_) ht
    obtain ⟨o, d, ho, hd, _, _, _, hu, _⟩ := ok.e p.1 (List.mem_map.2 ⟨p, hp, rfl⟩)
    rw [ho] at ht
    simp only [Option.bind_some] at ht
    rw [hd] at ht
    obtain rfl := Option.some.inj ht
    exact hu q.1 (List.mem_map.2 ⟨q, hq, rfl⟩)
  · obtain ⟨o, ho, _⟩ := ok.t i (List.mem_of_getElem? hi)
    exact getD_in (by simpa using (Array.getElem?_eq_some_iff.1 ho).1) (getD_replicate_false _ _)
end
end Go.Proofs.Ytenegjflapppdaa
