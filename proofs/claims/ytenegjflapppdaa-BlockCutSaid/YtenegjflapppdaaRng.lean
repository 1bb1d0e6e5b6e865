/- A range over a function, and a region that draws its order whose reads may come at any time beside one forced chain of calls and stores. -/
import Derived.Test.YtenegjflapppdaaReads
import Derived.RangeFuncNested
import Derived.RangeFuncBound
import Derived.RangeFuncCalls
import Derived.RangeFuncRecord
import Derived.RangeFuncSeq
import Derived.RangeFuncLeaves
import Derived.OrdersIn
import Derived.StillTail
import Derived.Shelf.Abstract
import Derived.Shelf.RegionOpen
import Derived.OwnWalkIn
import Derived.TacticsInMore
import Derived.LoopNIn
import Derived.LoopIn
set_option linter.all false
namespace Go.Proofs.Ytenegjflapppdaa
open Go.RowKit
theorem own_slice {w : World} {base size n : Nat} {e : TypeId} {v : Value} {xs : List Value} (h : w.ownsRow base e size v n xs) (hs : 0 < size) : ∃ A c, v = .slice A n c := by
  rcases h.2 with ⟨hv, hx⟩ | ⟨g, cap, cur, hv, _⟩
  · have hl := h.1
    rw [hx] at hl
    have : n = 0 := by
      rcases Nat.eq_zero_or_pos n with h0 | h0
      · exact h0
      · have := Nat.mul_pos h0 hs; simp at hl; omega
    rw [this]
    exact ⟨none, 0, hv⟩
  · exact ⟨_, _, hv⟩
/-- a function value against nil -/
theorem run_equalIn_func_nil {P : Program} (w : World) (d : Nat) (t : TypeId) (f : Fn) (a b : Array Value) {ps rs : Array TypeId} {v : Bool} (h : P.underlying t = some (.func ps rs v)) : (Op.equalIn (d + 1) t (.func f a b) .nilFunc).run P w = .ok false w := by
  simp [Op.equalIn, run_underlying h]
theorem run_equalIn_nil_nil {P : Program} (w : World) (d : Nat) (t : TypeId) {ps rs : Array TypeId} {v : Bool} (h : P.underlying t = some (.func ps rs v)) : (Op.equalIn (d + 1) t .nilFunc .nilFunc).run P w = .ok true w := by
  simp [Op.equalIn, run_underlying h]
theorem run_eql_func_nil {P : Program} (w : World) (t : TypeId) (f : Fn) (a b : Array Value) {ps rs : Array TypeId} {v : Bool} (h : P.underlying t = some (.func ps rs v)) : (binOp .eql t (.func f a b) .nilFunc).run P w = .ok (.bool false) w := by
  simp only [binOp]
  simp [Op.equal, Op.maxDepth, run_equalIn_func_nil w 9999 t f a b h]
theorem run_eql_nil_nil {P : Program} (w : World) (t : TypeId) {ps rs : Array TypeId} {v : Bool} (h : P.underlying t = some (.func ps rs v)) : (binOp .eql t .nilFunc .nilFunc).run P w = .ok (.bool true) w := by
  simp only [binOp]
  simp [Op.equal, Op.maxDepth, run_equalIn_nil_nil w 9999 t h]
/-! ### arguments that are slices of numbers -/
theorem ints_of_sl {w : World} {v : Value} (h : Sl w 1 (fun _ => IsInt .i64) v) : ∃ (A : Option Addr) (n c : Nat) (zs : List Int), v = .slice A n c ∧ n ≤ c ∧ c ≤ maxLen ∧ zs.length = n ∧ Reads w w.heap.size 1 A n (zs.map (Value.int .i64 ·)) := by
  obtain ⟨A, len, cap, rfl, hl, hm, h⟩ := h
  rcases h with h0 | ⟨b, off, rfl, hb, hc⟩
  · have : len = 0 := by omega
    subst this
    exact ⟨A, 0, cap, [], rfl, hl, hm, rfl, by simp, fun h => absurd h (by omega)⟩
  · have hx : ∀ i, ∃ x : Int, i < cap → w.cell? ⟨b, off + i, none⟩ = some (.int .i64 x) := by
      intro i
      by_cases hi : i < cap
      · obtain ⟨u, hu, n, rfl, hw⟩ := hc i hi 0 (by omega)
        exact ⟨n, fun _ => by rw [show off + i = off + (i * 1 + 0) by omega, hu]⟩
      · exact ⟨0, fun h => absurd h hi⟩
    obtain ⟨f, hf⟩ := Classical.axiomOfChoice hx
    refine ⟨_, len, cap, (List.range len).map f, rfl, hl, hm, by simp, by simp, fun _ => ⟨_, rfl, hb, fun j u hu => ?_⟩⟩
    have hj : j < len := by
      have := (List.getElem?_eq_some_iff.1 hu).1
      simpa using this
    have hc' := hf j (by omega)
    have hu' : u = .int .i64 (f j) := by
      simp [List.getElem?_range hj] at hu
      exact hu.symm
    subst hu'
    unfold Addr.add
    by_cases hj0 : j = 0
    · subst hj0; simpa using hc'
    · simp only [hj0, if_false]; exact hc'
theorem ints_of_sl2 {w : World} {v : Value} (h : Sl w 1 (fun _ => IsInt .i64) v) : ∃ (A : Option Addr) (n c : Nat) (zs : List Int), v = .slice A n c ∧ n ≤ c ∧ c ≤ maxLen ∧ zs.length = n ∧ (∀ x ∈ zs, -9223372036854775808 ≤ x ∧ x ≤ 9223372036854775807) ∧ Reads w w.heap.size 1 A n (zs.map (Value.int .i64 ·)) := by
  obtain ⟨A, len, cap, rfl, hl, hm, h⟩ := h
  rcases h with h0 | ⟨b, off, rfl, hb, hc⟩
  · have : len = 0 := by omega
    subst this
    exact ⟨A, 0, cap, [], rfl, hl, hm, rfl, by simp, by simp, fun h => absurd h (by omega)⟩
  · have hx : ∀ i, ∃ x : Int, (-9223372036854775808 ≤ x ∧ x ≤ 9223372036854775807) ∧ (i < cap → w.cell? ⟨b, off + i, none⟩ = some (.int .i64 x)) := by
      intro i
      by_cases hi : i < cap
      · obtain ⟨u, hu, n, rfl, hw⟩ := hc i hi 0 (by omega)
        exact ⟨n, in_i64 hw, fun _ => by rw [show off + i = off + (i * 1 + 0) by omega, hu]⟩
      · exact ⟨0, by omega, fun h => absurd h hi⟩
    obtain ⟨f, hf⟩ := Classical.axiomOfChoice hx
    refine ⟨_, len, cap, (List.range len).map f, rfl, hl, hm, by simp, fun x hx => (by obtain ⟨i, _, rfl⟩ := List.mem_map.1 hx; exact (hf i).1), by simp, fun _ => ⟨_, rfl, hb, fun j u hu => ?_⟩⟩
    have hj : j < len := by
      have := (List.getElem?_eq_some_iff.1 hu).1
      simpa using this
    have hc' := (hf j).2 (by omega)
    have hu' : u = .int .i64 (f j) := by
      simp [List.getElem?_range hj] at hu
      exact hu.symm
    subst hu'
    unfold Addr.add
    by_cases hj0 : j = 0
    · subst hj0; simpa using hc'
    · simp only [hj0, if_false]; exact hc'
theorem Reads.first {w : World} {B size n m : Nat} {A : Option Addr} {xs : List Value} (h : Reads w B size A n xs) (hm : m ≤ n) : Reads w B size A m (xs.take (m * size)) :=
  ⟨by rw [List.length_take, h.1]; have := Nat.mul_le_mul_right size hm; omega, fun h0 => by
    obtain ⟨ad, e, hb, hc⟩ := h.2 (by omega)
    exact ⟨ad, e, hb, fun j u hu => hc j u (by rw [List.getElem?_take] at hu; split at hu <;> simp_all)⟩⟩
theorem bools_of_sl {w : World} {v : Value} (h : Sl w 1 (fun _ => IsBool) v) : ∃ (A : Option Addr) (n c : Nat) (zs : List Bool), v = .slice A n c ∧ n ≤ c ∧ c ≤ maxLen ∧ zs.length = n ∧ Reads w w.heap.size 1 A n (zs.map (Value.bool ·)) := by
  obtain ⟨A, len, cap, rfl, hl, hm, h⟩ := h
  rcases h with h0 | ⟨b, off, rfl, hb, hc⟩
  · have : len = 0 := by omega
    subst this
    exact ⟨A, 0, cap, [], rfl, hl, hm, rfl, by simp, fun h => absurd h (by omega)⟩
  · have hx : ∀ i, ∃ x : Bool, i < cap → w.cell? ⟨b, off + i, none⟩ = some (.bool x) := by
      intro i
      by_cases hi : i < cap
      · obtain ⟨u, hu, n, rfl⟩ := hc i hi 0 (by omega)
        exact ⟨n, fun _ => by rw [show off + i = off + (i * 1 + 0) by omega, hu]⟩
      · exact ⟨false, fun h => absurd h hi⟩
    obtain ⟨f, hf⟩ := Classical.axiomOfChoice hx
    refine ⟨_, len, cap, (List.range len).map f, rfl, hl, hm, by simp, by simp, fun _ => ⟨_, rfl, hb, fun j u hu => ?_⟩⟩
    have hj : j < len := by
      have := (List.getElem?_eq_some_iff.1 hu).1
      simpa using this
    have hc' := hf j (by omega)
    have hu' : u = .bool (f j) := by
      simp [List.getElem?_range hj] at hu
      exact hu.symm
    subst hu'
    unfold Addr.add
    by_cases hj0 : j = 0
    · subst hj0; simpa using hc'
    · simp only [hj0, if_false]; exact hc'
/-! ### the region -/
def opTmps (o : Oper) : List Nat := o.op.operands.toList.filterMap fun | .tmp t => some t | _ => none
def depsOn (o : Oper) (j : Nat) : Bool := o.after.any fun e => e.on == j && Region.binds .any e
def readOp : Op → Bool
  | .move _ | .load .. | .nilCheck _ | .fieldAddr .. | .indexAddr .. | .index .. | .field .. | .binOp .. | .unOp .. | .convert .. | .extract .. | .slice .. | .assign _ => true
  | .call { callee := .builtin .len, .. } => true
  | _ => false
def tailOp : Op → Bool
  | .defer _ | .select .. => false
  | _ => true
/-- the closed facts: every operation is a read or of the chain; a read's slot is its own; what hangs on it says so -/
def rtChk (ops : Array Oper) (E T : List Nat) : Bool :=
  (List.range ops.size).all (fun i => E.contains i || T.contains i) &&
  E.all (fun i => match ops[i]? with
    | none => false
    | some o => o.guard.isNone && o.dst.isSome && readOp o.op && !T.contains i && (E.all fun j => j == i || (ops[j]?).bind (·.dst) != o.dst) && (T.all fun j => (ops[j]?).bind (·.dst) != o.dst) &&
      (opTmps o).all (fun t => (E.all fun j => (ops[j]?).bind (·.dst) != some t || depsOn o j) && (T.all fun j => (ops[j]?).bind (·.dst) != some t))) &&
  T.all (fun i => match ops[i]? with
    | none => false
    | some o => o.guard.isNone && tailOp o.op && (opTmps o).all (fun t => E.all fun j => (ops[j]?).bind (·.dst) != some t || depsOn o j)) &&
  (List.range (T.length - 1)).all (fun k => match T[k]?, (T[k + 1]?).bind (ops[·]?) with
    | some i, some o => depsOn o i
    | _, _ => false) &&
  (List.range ops.size).all (fun i => match ops[i]? with
    | none => true
    | some o => o.after.all fun e => !Region.binds .any e || decide (e.on < i)) &&
  decide T.Nodup
section
variable {F : Fence} {n : Nat} {P : Program} {ops : Array Oper}
/-- the chain, one operation behind the other; S holds in each world between, as long as a read may still come (the mark) -/
def wpTail (F : Fence) (n : Nat) (P : Program) (ops : Array Oper) (S : World → Prop) (R : Act → World → Prop) : List (Nat × Bool) → Act → World → Prop
  | [], a, w => R a w
  | i :: rest, a, w => match ops[i.1]? with
    | none => False
    | some o => o.wpIn F n P a w (fun a' w' => a'.defers = a.defers ∧ (i.2 = true → S w') ∧ wpTail F n P ops S R rest a' w') (fun _ _ _ => False)
/-- i comes behind e, at one remove or more -/
def waits (ops : Array Oper) : Nat → Nat → Nat → Bool
  | 0, _, _ => false
  | f + 1, i, e => match ops[i]? with
    | none => false
    | some o => depsOn o e || o.after.any fun x => Region.binds .any x && waits ops f x.on e
/-- where the mark is off, every read was waited for -/
def rtDue (ops : Array Oper) (E : List Nat) (T : List (Nat × Bool)) : Bool :=
  (List.range T.length).all fun k => match T[k]? with
    | some (_, false) => E.all fun e => (T.take (k + 1)).any fun j => waits ops ops.size j.1 e
    | _ => true
theorem put_defers (a : Act) (d : Option Tmp) (v : Value) : (a.put d v).defers = a.defers := by cases d <;> rfl
theorem put_get (a : Act) (d : Tmp) (v : Value) (t : Nat) : (a.put (some d) v).tmps[t]? = if d = t then (if t < a.tmps.size then some v else none) else a.tmps[t]? := by
  simp only [Act.put]
  rw [Array.getElem?_setIfInBounds]
  by_cases h : d = t
  · subst h; simp
  · simp [h]
theorem put_size (a : Act) (d : Option Tmp) (v : Value) : (a.put d v).tmps.size = a.tmps.size := by cases d <;> simp [Act.put]
theorem wpIn_transfer {o : Oper} {a b : Act} {w : World} {K K' : Act → World → Prop} {Q : Exit → Act → World → Prop} (hev : ∀ x ∈ o.op.operands, a.eval x = b.eval x) (ht : tailOp o.op = true)
    (h : o.wpIn F n P b w (fun a' w' => a'.defers = b.defers ∧ K' a' w') (fun _ _ _ => False)) (hk : ∀ v w', K' (b.put o.dst v) w' → K (a.put o.dst v) w') : o.wpIn F n P a w K Q := by
  have hsel : ∀ cs c, o.op ≠ .select cs c := fun cs c e => by rw [e] at ht; simp [tailOp] at ht
  have hdef : ∀ c, o.op ≠ .defer c := fun c e => by rw [e] at ht; simp [tailOp] at ht
  have hab : o.about P w a.eval = o.about P w b.eval := by
    unfold Oper.about
    cases hop : o.op with
    | call c =>
      simp only
      rw [resolve_congr c o.type (fun x hx => hev x (by rw [hop]; exact hx))]
    | _ => rfl
  have hse : o.semAt F.round a.eval = o.semAt F.round b.eval := by
    rw [Oper.semAt_eq _ _ _ hdef, Oper.semAt_eq _ _ _ hdef, execOp_congr o hsel hev]
  unfold Oper.wpIn at h ⊢
  rw [hab, hse]
  refine ⟨h.1, ?_⟩
  have h2 := h.2
  generalize (o.semAt F.round b.eval).run P w = r at h2 ⊢
  cases r with
  | halt x w' => cases x <;> simp only [Oper.uponIn] at h2 ⊢
  | ok x w' =>
    cases x <;> simp only [Oper.uponIn] at h2 ⊢
    case value v => exact hk _ _ h2.2
    case skip => exact hk _ _ h2.2
    case defer d =>
      have := h2.1
      rw [put_defers] at this
      simp at this
    case enter f args =>
      exact ⟨h2.1, h2.2.mono (fun e w'' he => by cases e <;> first | exact hk _ _ he.2 | exact he.elim | (obtain ⟨_, _, hh⟩ := he; exact hh.elim))⟩
    case row row args => exact ⟨h2.1, h2.2.mono (fun v w'' he => hk _ _ he.2)⟩
    case round l f tmps assign body =>
      exact ⟨h2.1, h2.2.mono (fun e w'' he => by cases e <;> first | exact hk _ _ he.2 | exact he.elim | (obtain ⟨_, _, hh⟩ := he; exact hh.elim))⟩
theorem wanted_bare {o : Oper} (h : o.guard.isNone = true) (y : Nat → Option Bool) : Region.wanted o y = true := by
  unfold Region.wanted; cases hg : o.guard with
  | none => rfl
  | some g => rw [hg] at h; cases h
theorem opTmps_mem {o : Oper} {t : Nat} (h : Operand.tmp t ∈ o.op.operands) : t ∈ opTmps o :=
  List.mem_filterMap.2 ⟨.tmp t, by simpa using h, rfl⟩
theorem depsOn_listed {o : Oper} {j : Nat} {listed : Array Bool} (h : depsOn o j = true) (hall : ∀ e ∈ o.after, Region.binds .any e = true → listed.getD e.on false = true) : listed.getD j false = true := by
  unfold depsOn at h
  obtain ⟨e, he, hb⟩ := Array.any_eq_true'.1 h
  simp only [Bool.and_eq_true, beq_iff_eq] at hb
  exact hb.1 ▸ hall e he hb.2
/-- how many operations wait still -/
def toGo (m : Nat) (listed : Array Bool) : Nat := (List.range m).countP fun i => !listed.getD i true
theorem countP_lt {p q : Nat → Bool} (h : ∀ x, q x = true → p x = true) {i : Nat} (hp : p i = true) (hq : q i = false) : ∀ l : List Nat, i ∈ l → l.countP q < l.countP p
  | [], hi => by cases hi
  | x :: l, hi => by
    have le : l.countP q ≤ l.countP p := List.countP_mono_left fun y _ => h y
    rw [List.countP_cons, List.countP_cons]
    by_cases hx : i = x
    · subst hx; rw [if_pos hp, if_neg (by simp [hq])]; omega
    · have := countP_lt h hp hq l ((List.mem_cons.1 hi).resolve_left hx)
      by_cases h1 : q x = true
      · rw [if_pos h1, if_pos (h x h1)]; omega
      · rw [if_neg h1]; omega
theorem toGo_set {m i : Nat} {listed : Array Bool} (hi : i < m) (hs : listed.size = m) (h : listed.getD i true = false) : toGo m (listed.setIfInBounds i true) < toGo m listed := by
  refine countP_lt (i := i) (fun x hx => ?_) (by rw [h]; rfl) (by simp [hs, hi]) _ (List.mem_range.2 hi)
  by_cases hix : i = x
  · subst hix; simp [hs, hi] at hx
  · rw [getD_set_ne true hix] at hx; exact hx
structure RtOk (ops : Array Oper) (E T : List Nat) : Prop where
  all : ∀ i, i < ops.size → i ∈ E ∨ i ∈ T
  e : ∀ i ∈ E, ∃ o d, ops[i]? = some o ∧ o.dst = some d ∧ o.guard.isNone = true ∧ readOp o.op = true ∧ i ∉ T ∧
    (∀ j ∈ E, j = i ∨ (ops[j]?).bind (·.dst) ≠ some d) ∧ (∀ j ∈ T, (ops[j]?).bind (·.dst) ≠ some d) ∧
    (∀ t ∈ opTmps o, (∀ j ∈ E, (ops[j]?).bind (·.dst) ≠ some t ∨ depsOn o j = true) ∧ ∀ j ∈ T, (ops[j]?).bind (·.dst) ≠ some t)
  t : ∀ i ∈ T, ∃ o, ops[i]? = some o ∧ o.guard.isNone = true ∧ tailOp o.op = true ∧ ∀ t ∈ opTmps o, ∀ j ∈ E, (ops[j]?).bind (·.dst) ≠ some t ∨ depsOn o j = true
  chain : ∀ k i j, T[k]? = some i → T[k + 1]? = some j → ∃ o, ops[j]? = some o ∧ depsOn o i = true
  down : ∀ i o, ops[i]? = some o → ∀ e ∈ o.after, Region.binds .any e = true → e.on < i
  nodup : T.Nodup
theorem rtOk {E T : List Nat} (h : rtChk ops E T = true) : RtOk ops E T := by
  simp only [rtChk, Bool.and_eq_true, decide_eq_true_eq] at h
  obtain ⟨⟨⟨⟨⟨h1, h2⟩, h3⟩, h4⟩, h5⟩, h6⟩ := h
  refine ⟨fun i hi => ?_, fun i hi => ?_, fun i hi => ?_, fun k i j hk hj => ?_, fun i o ho e he hb => ?_, h6⟩
  · have := List.all_eq_true.1 h1 i (List.mem_range.2 hi)
    simpa using this
  · have := List.all_eq_true.1 h2 i hi
    cases ho : ops[i]? with
    | none => simp [ho] at this
    | some o =>
      simp only [ho] at this
      simp only [Bool.and_eq_true, Bool.or_eq_true, List.all_eq_true, bne_iff_ne, beq_iff_eq, ne_eq, Bool.not_eq_true', List.contains_eq_mem, decide_eq_false_iff_not] at this
      obtain ⟨⟨⟨⟨⟨⟨hg, hd⟩, hr⟩, hT⟩, hE⟩, hTd⟩, hops⟩ := this
      obtain ⟨d, hd⟩ := Option.isSome_iff_exists.1 hd
      rw [hd] at hE hTd
      exact ⟨o, d, rfl, hd, hg, hr, hT, hE, hTd, hops⟩
  · have := List.all_eq_true.1 h3 i hi
    cases ho : ops[i]? with
    | none => simp [ho] at this
    | some o =>
      simp only [ho] at this
      simp only [Bool.and_eq_true, Bool.or_eq_true, List.all_eq_true, bne_iff_ne, ne_eq] at this
      obtain ⟨⟨hg, ht⟩, hops⟩ := this
      exact ⟨o, rfl, hg, ht, hops⟩
  · have hl : k + 1 < T.length := (List.getElem?_eq_some_iff.1 hj).1
    have := List.all_eq_true.1 h4 k (List.mem_range.2 (by omega))
    rw [hk, hj] at this
    cases ho : ops[j]? with
    | none => simp [ho] at this
    | some o => exact ⟨o, rfl, by simpa [ho] using this⟩
  · have hi : i < ops.size := (Array.getElem?_eq_some_iff.1 ho).1
    have := List.all_eq_true.1 h5 i (List.mem_range.2 hi)
    simp only [ho] at this
    have := Array.all_eq_true'.1 this e he
    simpa [hb] using this
/-- between two operations: the frame, the frame with all reads done, what is done -/
theorem depsOn_fed {o : Oper} {j : Nat} {listed : Array Bool} (h : depsOn o j = true) (hall : ∀ e ∈ o.after, Region.binds .any e = true → listed.getD e.on false = true) : listed.getD j false = true := depsOn_listed h hall
theorem waits_listed {listed : Array Bool} (fed : ∀ i o, listed.getD i false = true → ops[i]? = some o → ∀ e ∈ o.after, Region.binds .any e = true → listed.getD e.on false = true) : ∀ (f i e : Nat), waits ops f i e = true → listed.getD i false = true → listed.getD e false = true
  | 0, _, _, h, _ => by cases h
  | f + 1, i, e, h, hl => by
    unfold waits at h
    cases ho : ops[i]? with
    | none => rw [ho] at h; cases h
    | some o =>
      simp only [ho, Bool.or_eq_true] at h
      rcases h with h | h
      · exact depsOn_listed h (fed i o hl ho)
      · obtain ⟨x, hx, hb⟩ := Array.any_eq_true'.1 h
        simp only [Bool.and_eq_true] at hb
        exact waits_listed fed f x.on e hb.2 (fed i o hl ho x hx hb.1)
theorem fed_set {listed : Array Bool} {i : Nat} {o : Oper} (hi : ops[i]? = some o) (hall : ∀ e ∈ o.after, Region.binds .any e = true → listed.getD e.on false = true)
    (fed : ∀ i o, listed.getD i false = true → ops[i]? = some o → ∀ e ∈ o.after, Region.binds .any e = true → listed.getD e.on false = true) :
    ∀ j p, (listed.setIfInBounds i true).getD j false = true → ops[j]? = some p → ∀ e ∈ p.after, Region.binds .any e = true → (listed.setIfInBounds i true).getD e.on false = true := by
  intro j p hl hj e he hb
  by_cases hij : i = j
  · subst hij
    obtain rfl : p = o := Option.some.inj (hj.symm.trans hi)
    exact getD_set_true (hall e he hb)
  · rw [getD_set_ne false hij] at hl
    exact getD_set_true (fed j p hl hj e he hb)
structure RtInv (ops : Array Oper) (Ev : List (Nat × Value)) (T : List Nat) (A0 a A : Act) (k : Nat) (listed : Array Bool) : Prop where
  fed : ∀ i o, listed.getD i false = true → ops[i]? = some o → ∀ e ∈ o.after, Region.binds .any e = true → listed.getD e.on false = true
  size : listed.size = ops.size
  tmps : a.tmps.size = A.tmps.size
  defers : a.defers = A.defers
  free : ∀ t : Nat, (∀ p ∈ Ev, (ops[p.1]?).bind (·.dst) ≠ some t) → a.tmps[t]? = A.tmps[t]?
  done : ∀ t : Nat, ∀ p ∈ Ev, (ops[p.1]?).bind (·.dst) = some t → listed.getD p.1 false = true → a.tmps[t]? = A.tmps[t]?
  held : ∀ t : Nat, ∀ p ∈ Ev, (ops[p.1]?).bind (·.dst) = some t → A.tmps[t]? = if t < A.tmps.size then some p.2 else none
  base : ∀ t : Nat, (∀ j ∈ T, (ops[j]?).bind (·.dst) ≠ some t) → A.tmps[t]? = A0.tmps[t]?
  past : ∀ m i, m < k → T[m]? = some i → listed.getD i false = true
  next : ∀ m i, k ≤ m → T[m]? = some i → listed.getD i true = false
theorem eval_of_tmps {a b : Act} {x : Operand} (h : ∀ t, x = .tmp t → a.tmps[t]? = b.tmps[t]?) : a.eval x = b.eval x := by
  cases x with
  | tmp t => simp only [Act.eval, Array.getD_eq_getD_getElem?, h t rfl]
  | _ => rfl
theorem about_read {o : Oper} {w : World} {ρ : Operand → Value} (h : readOp o.op = true) : o.about P w ρ = none := by
  unfold Oper.about
  cases ho : o.op <;> first | rfl | skip
  rename_i c
  rw [ho] at h
  unfold readOp at h
  split at h <;> first | cases h | skip
  all_goals first | (rename_i heq; cases heq; done) | skip
  rename_i heq
  cases heq
  rfl
theorem noDefer_read {o : Oper} (h : readOp o.op = true) : ∀ c, o.op ≠ .defer c := fun c e => by rw [e] at h; simp [readOp] at h
theorem noSelect_read {o : Oper} (h : readOp o.op = true) : ∀ cs b, o.op ≠ .select cs b := fun c b e => by rw [e] at h; simp [readOp] at h
theorem ready_nil {listed : Array Bool} (hd : ∀ i o, ops[i]? = some o → ∀ e ∈ o.after, Region.binds .any e = true → e.on < i) (hr : Region.ready .any ops listed = []) :
    ∀ i, i < ops.size → listed.getD i true = true := by
  intro i
  induction i using Nat.strongRecOn with
  | _ i ih =>
    intro hi
    cases h : listed.getD i true with
    | true => rfl
    | false =>
      have ho : ops[i]? = some ops[i] := by simp [hi]
      have : i ∈ Region.ready .any ops listed := mem_ready.2 ⟨h, _, ho, fun e he hb => by
        have hlt := hd i _ ho e he hb
        have := ih e.on hlt (by omega)
        rcases Nat.lt_or_ge e.on listed.size with h' | h'
        · simpa [h'] using this
        · exfalso
          have hil : listed.size ≤ i := by omega
          simp [Array.getElem?_eq_none hil] at h⟩
      rw [hr] at this; cases this
theorem act_ext {a b : Act} (hd : a.defers = b.defers) (ht : ∀ t : Nat, a.tmps[t]? = b.tmps[t]?) : a = b := by
  obtain ⟨x, y⟩ := a; obtain ⟨x', y'⟩ := b
  simp only at hd ht
  subst hd
  have := Array.ext_getElem? ht
  subst this
  rfl
theorem rt_fin {Q : Exit → Act → World → Prop} {S : World → Prop} {Ev : List (Nat × Value)} {T : List (Nat × Bool)} {A0 : Act} (ok : RtOk ops (Ev.map (·.1)) (T.map (·.1))) {k : Nat} {listed : Array Bool} {a A : Act} {w : World}
    (inv : RtInv ops Ev (T.map (·.1)) A0 a A k listed) (hr : Region.ready .any ops listed = []) (h : wpTail F n P ops S (fun a w => Q .normal a w) (T.drop k) A w) : Q .normal a w := by
  have all := ready_nil ok.down hr
  have hT : T.drop k = [] := by
    cases hd : T.drop k with
    | nil => rfl
    | cons i r =>
      have hi : (T.map (·.1))[k]? = some i.1 := by have := congrArg (·[0]?) hd; simp at this; simp [this]
      obtain ⟨o, ho, _⟩ := ok.t i.1 (List.mem_of_getElem? hi)
      have h1 := inv.next k i.1 (Nat.le_refl _) hi
      rw [all i.1 (Array.getElem?_eq_some_iff.1 ho).1] at h1
      cases h1
  have hA : a = A := act_ext inv.defers fun t => by
    by_cases hx : ∃ p ∈ Ev, (ops[p.1]?).bind (·.dst) = some t
    · obtain ⟨p, hp, ht⟩ := hx
      refine inv.done t p hp ht ?_
      obtain ⟨o, d, ho, _⟩ := ok.e p.1 (List.mem_map.2 ⟨p, hp, rfl⟩)
      have hlt := (Array.getElem?_eq_some_iff.1 ho).1
      have := all p.1 hlt
      rw [← inv.size] at hlt
      simpa [hlt] using this
    · exact inv.free t fun p hp ht => hx ⟨p, hp, ht⟩
  rw [hT] at h
  rw [hA]; exact h
theorem rt_step {Q : Exit → Act → World → Prop} {S : World → Prop} {Ev : List (Nat × Value)} {T : List (Nat × Bool)} {A0 : Act} (ok : RtOk ops (Ev.map (·.1)) (T.map (·.1)))
    (hE : ∀ p ∈ Ev, ∀ o, ops[p.1]? = some o → ∀ W, S W → (execOp A0.eval o).run P W = .ok (.value p.2) W) (hD : rtDue ops (Ev.map (·.1)) T = true) :
    ∀ (fuel k : Nat) (listed : Array Bool) (a A : Act) (w : World), toGo ops.size listed ≤ fuel → RtInv ops Ev (T.map (·.1)) A0 a A k listed → ((∀ p ∈ Ev, listed.getD p.1 false = true) ∨ S w) →
      wpTail F n P ops S (fun a w => Q .normal a w) (T.drop k) A w → wpAnyIn F n P .any ops Q fuel listed a w := by
  intro fuel
  induction fuel with
  | zero =>
    intro k listed a A w hg inv hS h
    have hr : Region.ready .any ops listed = [] := by
      cases hr : Region.ready .any ops listed with
      | nil => rfl
      | cons i r =>
        obtain ⟨h0, o, ho, _⟩ := mem_ready.1 (show i ∈ Region.ready .any ops listed by rw [hr]; simp)
        have := toGo_set (Array.getElem?_eq_some_iff.1 ho).1 inv.size h0
        omega
    exact ⟨hr, rt_fin ok inv hr h⟩
  | succ fuel ih =>
    intro k listed a A w hg inv hS h
    refine ⟨fun hr => rt_fin ok inv hr h, fun i hi => ?_⟩
    obtain ⟨h0, o, ho, hall⟩ := mem_ready.1 hi
    have hlt := (Array.getElem?_eq_some_iff.1 ho).1
    have hgo := toGo_set hlt inv.size h0
    have h0' : listed.getD i false = false := getD_both h0
    unfold wpOpIn
    simp only [ho]
    by_cases hiT : i ∈ T.map (·.1)
    · obtain ⟨o', ho', hg1, ht1, hops⟩ := ok.t i hiT
      obtain rfl : o' = o := Option.some.inj (ho'.symm.trans ho)
      rw [if_pos (wanted_bare hg1 _)]
      obtain ⟨m, hm⟩ := List.mem_iff_getElem?.1 hiT
      have hk : m = k := by
        rcases Nat.lt_trichotomy m k with hlt' | heq | hgt
        · have := inv.past m i hlt' hm; rw [h0'] at this; cases this
        · exact heq
        · obtain ⟨m', rfl⟩ : ∃ m', m = m' + 1 := ⟨m - 1, by omega⟩
          have hml : m' + 1 < (T.map (·.1)).length := (List.getElem?_eq_some_iff.1 hm).1
          have hm' : (T.map (·.1))[m']? = some (T.map (·.1))[m'] := by rw [List.getElem?_eq_getElem]
          obtain ⟨o2, ho2, hdep⟩ := ok.chain m' _ _ hm' hm
          obtain rfl : o2 = o' := Option.some.inj (ho2.symm.trans ho)
          have hlis := depsOn_listed hdep hall
          have := inv.next m' _ (by omega) hm'
          rw [getD_both this] at hlis; cases hlis
      subst hk
      obtain ⟨b, hb⟩ : ∃ b, T[m]? = some (i, b) := by
        rw [List.getElem?_map] at hm
        cases hx : T[m]? with
        | none => rw [hx] at hm; cases hm
        | some x => rw [hx] at hm; obtain rfl := Option.some.inj hm; exact ⟨x.2, rfl⟩
      have hml : m < T.length := (List.getElem?_eq_some_iff.1 hb).1
      have hdrop : T.drop m = (i, b) :: T.drop (m + 1) := by
        rw [List.drop_eq_getElem_cons hml]
        congr 1
        simpa [List.getElem?_eq_getElem hml] using hb
      rw [hdrop] at h
      unfold wpTail at h
      simp only [ho] at h
      refine wpIn_transfer (K' := fun a' w' => (b = true → S w') ∧ wpTail F n P ops S (fun a w => Q .normal a w) (T.drop (m + 1)) a' w') (fun x hx => eval_of_tmps fun t hxt => ?_) ht1 h (fun v w' ⟨hS', h'⟩ => ?_)
      · subst hxt
        by_cases hex : ∃ p ∈ Ev, (ops[p.1]?).bind (·.dst) = some t
        · obtain ⟨p, hp, ht⟩ := hex
          refine inv.done t p hp ht ?_
          rcases hops t (opTmps_mem hx) p.1 (List.mem_map.2 ⟨p, hp, rfl⟩) with hne | hdep
          · exact absurd ht hne
          · exact depsOn_listed hdep hall
        · exact inv.free t fun p hp ht => hex ⟨p, hp, ht⟩
      · have hdd : ∀ d, o'.dst = some d → ∀ p ∈ Ev, (ops[p.1]?).bind (·.dst) ≠ some d := fun d hd p hp ht => by
          obtain ⟨o2, d2, ho2, hd2, _, _, _, _, hTd, _⟩ := ok.e p.1 (List.mem_map.2 ⟨p, hp, rfl⟩)
          rw [ho2] at ht
          simp only [Option.bind_some] at ht
          have := hTd i hiT
          rw [ho] at this
          simp only [Option.bind_some] at this
          rw [hd, ← hd2, ht] at this
          exact this rfl
        have hget : ∀ (b : Act) t, (b.put o'.dst v).tmps[t]? = match o'.dst with | some d => if d = t then (if t < b.tmps.size then some v else none) else b.tmps[t]? | none => b.tmps[t]? := fun b t => by
          cases hd : o'.dst with
          | none => rfl
          | some d => exact put_get b d v t
        have fed := fed_set ho hall inv.fed
        refine ih (m + 1) _ _ _ w' (by omega) ⟨fed, by simp [inv.size], by rw [put_size, put_size]; exact inv.tmps, by rw [put_defers, put_defers]; exact inv.defers, fun t ht => ?_, fun t p hp ht hl => ?_, fun t p hp ht => ?_, fun t ht => ?_, fun m' j hm' hj => ?_, fun m' j hm' hj => ?_⟩ (by
          cases b with
          | true => exact .inr (hS' rfl)
          | false =>
            refine .inl fun p hp => ?_
            have h2 := List.all_eq_true.1 hD m (List.mem_range.2 hml)
            rw [hb] at h2
            have h3 := List.all_eq_true.1 h2 p.1 (List.mem_map.2 ⟨p, hp, rfl⟩)
            obtain ⟨j, hj, hdep⟩ := List.any_eq_true.1 h3
            obtain ⟨m', hm'⟩ := List.mem_iff_getElem?.1 hj
            rw [List.getElem?_take] at hm'
            split at hm'
            · rename_i hlt'
              refine waits_listed fed _ _ _ hdep ?_
              rcases Nat.lt_or_ge m' m with hlt'' | hge
              · exact getD_set_true (inv.past m' j.1 hlt'' (by rw [List.getElem?_map, hm']; rfl))
              · obtain rfl : m' = m := by omega
                rw [hb] at hm'
                obtain rfl := Option.some.inj hm'
                have : i < listed.size := by rw [inv.size]; exact hlt
                simp [this]
            · cases hm') h'
        · rw [hget, hget, inv.free t ht, inv.tmps]
        · have hne : ∀ d, o'.dst = some d → d ≠ t := fun d hd e => hdd d hd p hp (e ▸ ht)
          have hpi : i ≠ p.1 := fun e => by
            obtain ⟨_, _, _, _, _, _, hnT, _⟩ := ok.e p.1 (List.mem_map.2 ⟨p, hp, rfl⟩)
            exact hnT (e ▸ hiT)
          rw [getD_set_ne false hpi] at hl
          have := inv.done t p hp ht hl
          rw [hget, hget]
          cases hd : o'.dst with
          | none => exact this
          | some d => simp only [if_neg (hne d hd)]; exact this
        · have hne : ∀ d, o'.dst = some d → d ≠ t := fun d hd e => hdd d hd p hp (e ▸ ht)
          have := inv.held t p hp ht
          rw [hget, put_size]
          cases hd : o'.dst with
          | none => exact this
          | some d => simp only [if_neg (hne d hd)]; exact this
        · have hne : ∀ d, o'.dst = some d → d ≠ t := fun d hd e => ht i hiT (by rw [ho]; simp [hd, e])
          have := inv.base t ht
          rw [hget]
          cases hd : o'.dst with
          | none => exact this
          | some d => simp only [if_neg (hne d hd)]; exact this
        · rcases Nat.lt_or_ge m' m with hlt' | hge
          · exact getD_set_true (inv.past m' j hlt' hj)
          · obtain rfl : m' = m := by omega
            obtain rfl : j = i := Option.some.inj (hj.symm.trans hm)
            have : j < listed.size := by rw [inv.size]; exact hlt
            simp [this]
        · have hne : i ≠ j := fun e => by
            subst e
            have h1 : m < (T.map (·.1)).length := (List.getElem?_eq_some_iff.1 hm).1
            have h2 : m' < (T.map (·.1)).length := (List.getElem?_eq_some_iff.1 hj).1
            refine List.pairwise_iff_getElem.1 ok.nodup m m' h1 h2 (by omega) ?_
            rw [List.getElem?_eq_getElem h1] at hm; rw [List.getElem?_eq_getElem h2] at hj
            rw [Option.some.inj hm, Option.some.inj hj]
          rw [getD_set_ne true hne]
          exact inv.next m' j (by omega) hj
    · have hiE : i ∈ Ev.map (·.1) := (ok.all i hlt).resolve_right hiT
      obtain ⟨o', d, ho', hd, hg1, hread, _, hEd, hTd, hops⟩ := ok.e i hiE
      obtain rfl : o' = o := Option.some.inj (ho'.symm.trans ho)
      obtain ⟨p, hp, rfl⟩ := List.mem_map.1 hiE
      rw [if_pos (wanted_bare hg1 _)]
      have hev : execOp a.eval o' = execOp A0.eval o' := execOp_congr o' (noSelect_read hread) fun x hx => eval_of_tmps fun t hxt => by
        subst hxt
        obtain ⟨h1, h2⟩ := hops t (opTmps_mem hx)
        rw [← inv.base t h2]
        by_cases hex : ∃ p ∈ Ev, (ops[p.1]?).bind (·.dst) = some t
        · obtain ⟨q, hq, ht⟩ := hex
          refine inv.done t q hq ht ?_
          rcases h1 q.1 (List.mem_map.2 ⟨q, hq, rfl⟩) with hne | hdep
          · exact absurd ht hne
          · exact depsOn_listed hdep hall
        · exact inv.free t fun q hq ht => hex ⟨q, hq, ht⟩
      replace hS : S w := hS.resolve_left fun hl => by have := hl p hp; rw [h0'] at this; cases this
      unfold Oper.wpIn
      rw [Oper.semAt_eq _ _ _ (noDefer_read hread), hev, hE p hp _ ho w hS, about_read hread]
      refine ⟨fun f hf => (by cases hf), ?_⟩
      rw [Oper.uponIn_value, hd]
      have hpd : (ops[p.1]?).bind (·.dst) = some d := by rw [ho]; exact hd
      refine ih k _ _ A w (by omega) ⟨fed_set ho hall inv.fed, by simp [inv.size], by rw [put_size]; exact inv.tmps, by rw [put_defers]; exact inv.defers, fun t ht => ?_, fun t q hq ht hl => ?_, inv.held, inv.base, fun m' j hm' hj => getD_set_true (inv.past m' j hm' hj), fun m' j hm' hj => ?_⟩ (.inr hS) h
      · have hne : d ≠ t := fun e => ht p hp (e ▸ hpd)
        rw [put_get, if_neg hne]; exact inv.free t ht
      · rw [put_get]
        by_cases hdt : d = t
        · subst hdt
          rw [if_pos rfl, inv.held d p hp hpd, inv.tmps]
        · rw [if_neg hdt]
          have hpq : p.1 ≠ q.1 := fun e => hdt (by rw [← e, hpd] at ht; exact Option.some.inj ht)
          rw [getD_set_ne false hpq] at hl
          exact inv.done t q hq ht hl
      · have hne : p.1 ≠ j := fun e => hiT (e ▸ List.mem_of_getElem? hj)
        rw [getD_set_ne true hne]; exact inv.next m' j hm' hj
/-- the reads done beforehand, in the order of the list -/
def putAll (ops : Array Oper) (a : Act) : List (Nat × Value) → Act
  | [] => a
  | p :: r => putAll ops (a.put ((ops[p.1]?).bind (·.dst)) p.2) r
theorem putAll_defers : ∀ (Ev : List (Nat × Value)) (a : Act), (putAll ops a Ev).defers = a.defers
  | [], _ => rfl
  | p :: r, a => (putAll_defers r _).trans (put_defers _ _ _)
theorem putAll_size : ∀ (Ev : List (Nat × Value)) (a : Act), (putAll ops a Ev).tmps.size = a.tmps.size
  | [], _ => rfl
  | p :: r, a => (putAll_size r _).trans (put_size _ _ _)
theorem putAll_free : ∀ (Ev : List (Nat × Value)) (a : Act) (t : Nat), (∀ p ∈ Ev, (ops[p.1]?).bind (·.dst) ≠ some t) → (putAll ops a Ev).tmps[t]? = a.tmps[t]?
  | [], _, _, _ => rfl
  | p :: r, a, t, h => by
    rw [putAll, putAll_free r _ t fun q hq => h q (List.mem_cons_of_mem _ hq)]
    have := h p (List.mem_cons_self ..)
    cases hd : (ops[p.1]?).bind (·.dst) with
    | none => rfl
    | some d => rw [put_get, if_neg (fun e => this (by rw [hd, e]))]
theorem putAll_held : ∀ (Ev : List (Nat × Value)) (a : Act) (t : Nat) (p : Nat × Value), p ∈ Ev → (Ev.map (·.1)).Nodup → (∀ q ∈ Ev, q.1 = p.1 ∨ (ops[q.1]?).bind (·.dst) ≠ some t) → (ops[p.1]?).bind (·.dst) = some t →
    (putAll ops a Ev).tmps[t]? = if t < a.tmps.size then some p.2 else none
  | [], _, _, _, hp, _, _, _ => by cases hp
  | q :: r, a, t, p, hp, hnd, hu, hd => by
    rw [putAll]
    rw [List.map_cons, List.nodup_cons] at hnd
    by_cases hqp : q = p
    · subst hqp
      rw [putAll_free r _ t (fun s hs => (hu s (List.mem_cons_of_mem _ hs)).resolve_left fun e => hnd.1 (e ▸ List.mem_map.2 ⟨s, hs, rfl⟩)), hd, put_get, if_pos rfl]
    · have hp' : p ∈ r := (List.mem_cons.1 hp).resolve_left (Ne.symm hqp)
      rw [putAll_held r _ t p hp' hnd.2 (fun s hs => hu s (List.mem_cons_of_mem _ hs)) hd, put_size]
/-- each read, on the frame with all reads done -/
def evOk (P : Program) (ops : Array Oper) (A0 : Act) (S : World → Prop) : List (Nat × Value) → Prop
  | [] => True
  | p :: r => (match ops[p.1]? with
    | some o => ∀ W, S W → (execOp A0.eval o).run P W = .ok (.value p.2) W
    | none => False) ∧ evOk P ops A0 S r
theorem evOk_all {A0 : Act} {S : World → Prop} : ∀ Ev, evOk P ops A0 S Ev → ∀ p ∈ Ev, ∀ o, ops[p.1]? = some o → ∀ W, S W → (execOp A0.eval o).run P W = .ok (.value p.2) W
  | [], _, _, hp => by cases hp
  | q :: r, h, p, hp => by
    rcases List.mem_cons.1 hp with rfl | hp
    · intro o ho
      have h1 := h.1
      simp only [ho] at h1
      exact h1
    · exact evOk_all r h.2 p hp
/-- all that is closed -/
def rtAll (ops : Array Oper) (E : List Nat) (T : List (Nat × Bool)) : Bool := rtChk ops E (T.map (·.1)) && rtDue ops E T && decide E.Nodup
/-- a region that draws its order: reads that may come at any time, beside one chain -/
theorem region_rt {Q : Exit → Act → World → Prop} {id : Nat} {a : Act} {w : World} (T : List (Nat × Bool)) (Ev : List (Nat × Value)) (S : World → Prop) (hm : P.follows .mixedOrders = true)
    (hB : rtAll ops (Ev.map (·.1)) T = true) (hS : S w.drew)
    (hE : evOk P ops (putAll ops a Ev) S Ev)
    (hT : wpTail F n P ops S (fun a w => Q .normal a w) T (putAll ops a Ev) w.drew) : (Code.region id ops true).wpIn F n P Q a w := by
  unfold rtAll at hB
  simp only [Bool.and_eq_true, decide_eq_true_eq] at hB
  obtain ⟨⟨hB1, hB2⟩, hnd⟩ := hB
  have ok := rtOk hB1
  refine wpIn_region_any hm (rt_step ok (evOk_all Ev hE) hB2 _ 0 _ a (putAll ops a Ev) _ ?_ ⟨fun i o hl => (by rw [getD_replicate_false] at hl; cases hl), by simp, (putAll_size Ev a).symm, (putAll_defers Ev a).symm, fun t ht => (putAll_free Ev a t ht).symm, fun t p _ _ hl => (by rw [getD_replicate_false] at hl; cases hl), fun t p hp ht => ?_, fun t _ => rfl, fun m i hm => absurd hm (Nat.not_lt_zero m), fun m i _ hi => ?_⟩ (.inr hS) (by simpa using hT))
  · unfold toGo
    exact Nat.le_trans List.countP_le_length (by simp)
  · rw [putAll_size]
    refine putAll_held Ev a t p hp hnd (fun q hq => ?_) ht
    obtain ⟨o, d, ho, hd, _, _, _, hu, _⟩ := ok.e p.1 (List.mem_map.2 ⟨p, hp, rfl⟩)
    rw [ho] at ht
    simp only [Option.bind_some] at ht
    rw [hd] at ht
    obtain rfl := Option.some.inj ht
    exact hu q.1 (List.mem_map.2 ⟨q, hq, rfl⟩)
  · obtain ⟨o, ho, _⟩ := ok.t i (List.mem_of_getElem? hi)
    exact getD_in (by simpa using (Array.getElem?_eq_some_iff.1 ho).1) (getD_replicate_false _ _)
end
theorem tail_step {F : Fence} {n : Nat} {P : Program} {ops : Array Oper} {S : World → Prop} {R : Act → World → Prop} {i : Nat} {b : Bool} {rest : List (Nat × Bool)} {a : Act} {w : World} {o : Oper} (ho : ops[i]? = some o)
    (h : o.wpIn F n P a w (fun a' w' => a'.defers = a.defers ∧ (b = true → S w') ∧ wpTail F n P ops S R rest a' w') (fun _ _ _ => False)) : wpTail F n P ops S R ((i, b) :: rest) a w := by
  unfold wpTail
  simp only [ho]
  exact h
theorem wpIn_append_any {F : Fence} {n₀ : Nat} {P : Program} (w : World) {o : Oper} {a : Act} {K : Act → World → Prop} {Q : Exit → Act → World → Prop} (s x : Operand) (t : TypeId)
    (ho : o.op = .call { callee := .builtin .append, args := #[s, x], argTypes := #[t, t] })
    (base : Nat) (e : TypeId) (i : TypeInfo) (z : Value) (size bytes : Nat) (ht : P.underlying t = some (.slice e)) (hi : P.info? e = some i) (hz : i.zero = some z)
    (hsize : i.size = size) (hby : i.bytes = bytes) (hzs : z.cells.size = size) (hsz : 0 < size)
    (v : Value) (n : Nat) (xs : List Value) (hs : a.eval s = v) (hown : w.ownsRow base e size v n xs)
    (B : Nat) (A : Option Addr) (m c : Nat) (news : List Value) (hx : a.eval x = .slice A m c) (hr : Reads w B size A m news) (h1 : ∀ u ∈ news, u.oneCell' = true)
    (h63 : n + m ≤ maxLen) (hbytes : (n + m) * bytes ≤ 140737488355328) (hbase : base ≤ w.heap.size)
    (h : ∀ v' w', w'.ownsRow base e size v' (n + m) (xs ++ news) → w.grownBy w' v.ownBlock → (v'.ownBlock = v.ownBlock ∨ v'.ownBlock = some w.heap.size) → K (a.put o.dst v') w') : o.wpIn F n₀ P a w K Q := by
  obtain ⟨v', w', hrun, h2, h3, h4⟩ := run_append_any (P := P) w base t o.type e i z size bytes ht hi hz hsize hby hzs hsz v n xs hown B A m c news hr h1 h63 hbytes hbase
  have hd : ∀ c, o.op ≠ .defer c := fun c e => by rw [ho] at e; cases e
  unfold Oper.wpIn
  rw [Oper.semAt_eq _ _ _ hd]
  have hab : o.about P w a.eval = none := by unfold Oper.about; rw [ho]; rfl
  rw [hab]
  refine ⟨fun f hf => (by cases hf), ?_⟩
  unfold execOp
  simp only [ho, resolve, invoke, builtin, Sem.run_bind, Sem.run_pure, Result.andThen_ok, List.map_toArray, List.map_cons, List.map_nil, hs, hx, hrun]
  exact h v' w' h2 h3 h4
/-! ### a range over a function, in a function that no fence is put round -/
section
variable {P : Program}
/-- a loop's record -/
def mkRec (fn : Nat) (tmps : Array Value) (ps : Array Tmp) (assign body : Code) (D : Nat) (st : LoopState) (pe : Option Code) : Loop :=
  { state := st, pending := pe, fn, tmps, params := ps, assign, body, defers := D }
/-- the statement: the iterator is called once, in a world with two blocks more; it comes back with the record not busy -/
theorem rng_stmt {n : Nat} {g : Operand} {ps : Array Tmp} {assign body : Code} {Q : Exit → Act → World → Prop} {a : Act} {w : World} {gf : Nat} {lb : Array Value} (hg : a.eval g = .func (.func gf) #[] lb)
    (eg : ∀ args w, (callFunc gf args).run P w = .ok (.enter gf args) w)
    (h : ∀ fn W1, W1 = (w.alloc (.deferred (some []))).alloc (.loop (mkRec fn a.tmps ps assign body w.heap.size .ready none)) →
      CallsIn Fence.wide n P gf (#[.func (.yield (w.heap.size + 1)) #[] #[]] ++ lb) W1 (fun e W' => ∃ v st pe, e = .returned v ∧ st ≠ .busy ∧
        W'.heap[w.heap.size + 1]? = some (.loop (mkRec fn a.tmps ps assign body w.heap.size st pe)) ∧
        match pe with
        | none => Q .normal { a with defers := { target := .collected w.heap.size, args := #[] } :: a.defers } (W'.putObj (w.heap.size + 1) (.loop (mkRec fn a.tmps ps assign body w.heap.size .exhausted pe)))
        | some c => c.wp P Q { a with defers := { target := .collected w.heap.size, args := #[] } :: a.defers } (W'.putObj (w.heap.size + 1) (.loop (mkRec fn a.tmps ps assign body w.heap.size .exhausted pe))))) :
    (Code.rangeFunc g ps assign body).wp P Q a w := by
  refine (wpIn_wide (n := n + 1)).1 (wpIn_rangeFunc ?_)
  intro fn _
  obtain ⟨W1, hW1⟩ : ∃ W1, W1 = (w.alloc (.deferred (some []))).alloc (.loop (mkRec fn a.tmps ps assign body w.heap.size .ready none)) := ⟨_, rfl⟩
  refine ⟨w.heap.size + 1, [{ target := .collected w.heap.size, args := #[] }], W1, { target := .fn (.func gf) lb, args := #[.func (.yield (w.heap.size + 1)) #[] #[]] }, W1, gf,
    #[.func (.yield (w.heap.size + 1)) #[] #[]] ++ lb, W1, ?_, ?_, fun _ _ => trivial, ?_, fun _ => by omega, ?_⟩
  · rw [hW1]; exact run_enterLoop_outer _ _ _ _ _
  · simp only [resolve, hg]
    simp [go_sem]
  · simp [invoke, go_sem, eg]
  · refine (h fn _ hW1).mono ?_
    rintro e W' ⟨v, st, pe, rfl, hst, hL, hq⟩
    refine ⟨pe, _, run_endLoop hL hst, ?_⟩
    cases pe with
    | none => exact hq
    | some c => exact wpIn_wide.2 hq
/-- one round: the record stands ready; the body, walked on the frame of the loop with yield's arguments laid in -/
theorem rng_round {m l D fn : Nat} {tmps : Array Value} {ps : Array Tmp} {assign body : Code} {args : Array Value} {W : World} {R : Ending → World → Prop}
    (hL : W.heap[l]? = some (.loop (mkRec fn tmps ps assign body D .ready none))) (hs : args.size = ps.size)
    (h : assign.wpIn (Fence.wide.inRound l) m P (Exit.then (fun a₁ w₁ => w₁.heap[l]? = some (.loop (mkRec fn tmps ps assign body D .ready none)) ∧
        body.wpIn (Fence.wide.inRound l) m P (fun e a w => w.heap[l]? = some (.loop (mkRec fn tmps ps assign body D .busy none)) ∧
          match e with
          | .normal => R (.returned (.bool true)) (w.putObj l (.loop (mkRec fn tmps ps assign body D .ready none)))
          | .ret => R (.returned (.bool false)) (w.putObj l (.loop (mkRec fn tmps ps assign body D .done (some .ret))))
          | .exit id => R (.returned (.bool false)) (w.putObj l (.loop (mkRec fn tmps ps assign body D .done (some (.exit id)))))
          | _ => False) a₁ (w₁.putObj l (.loop (mkRec fn tmps ps assign body D .busy none)))) (fun _ _ _ => False))
      { tmps := (ps.zip args).foldl (fun tmps (t, a) => tmps.setIfInBounds t a) tmps, defers := [] } W) :
    YieldAt Fence.wide m P l args W R := by
  refine ⟨fn, _, assign, body, run_yield hL hs, roundIn_of_wpIn trivial (wpIn_mono h ?_)⟩
  intro e a w hq
  cases e with
  | normal =>
    obtain ⟨hl, hb⟩ := hq
    refine ⟨_, run_beginRound hl rfl, wpIn_mono hb ?_⟩
    rintro e a w ⟨hl, hr⟩
    cases e with
    | normal => exact ⟨_, _, run_endRound none hl, hr⟩
    | ret => exact ⟨_, _, run_endRound (some .ret) hl, hr⟩
    | exit id => exact ⟨_, _, run_endRound (some (.exit id)) hl, hr⟩
    | goto t => exact hr.elim
    | panic c => exact hr.elim
    | outgrown => exact hr.elim
  | _ => exact hq.elim
/-- the two once more, the record under one name -/
theorem rng_stmt' {n : Nat} {g : Operand} {ps : Array Tmp} {assign body : Code} {Q : Exit → Act → World → Prop} {a : Act} {w : World} {gf : Nat} {lb : Array Value} (hg : a.eval g = .func (.func gf) #[] lb)
    (eg : ∀ args w, (callFunc gf args).run P w = .ok (.enter gf args) w)
    (h : ∀ rc : LoopState → Option Code → Loop, (∃ fn, rc = mkRec fn a.tmps ps assign body w.heap.size) → ∀ W1, W1 = (w.alloc (.deferred (some []))).alloc (.loop (rc .ready none)) →
      CallsIn Fence.wide n P gf (#[.func (.yield (w.heap.size + 1)) #[] #[]] ++ lb) W1 (fun e W' => ∃ v st pe, e = .returned v ∧ st ≠ .busy ∧
        W'.heap[w.heap.size + 1]? = some (.loop (rc st pe)) ∧
        match pe with
        | none => Q .normal { a with defers := { target := .collected w.heap.size, args := #[] } :: a.defers } (W'.putObj (w.heap.size + 1) (.loop (rc .exhausted pe)))
        | some c => c.wp P Q { a with defers := { target := .collected w.heap.size, args := #[] } :: a.defers } (W'.putObj (w.heap.size + 1) (.loop (rc .exhausted pe))))) :
    (Code.rangeFunc g ps assign body).wp P Q a w :=
  rng_stmt hg eg fun fn W1 hW1 => h _ ⟨fn, rfl⟩ W1 hW1
theorem rng_round' {m l D : Nat} {rc : LoopState → Option Code → Loop} {tmps : Array Value} {ps : Array Tmp} {assign body : Code} {args : Array Value} {W : World} {R : Ending → World → Prop}
    (hrc : ∃ fn, rc = mkRec fn tmps ps assign body D) (hL : W.heap[l]? = some (.loop (rc .ready none))) (hs : args.size = ps.size)
    (h : assign.wpIn (Fence.wide.inRound l) m P (Exit.then (fun a₁ w₁ => w₁.heap[l]? = some (.loop (rc .ready none)) ∧
        body.wpIn (Fence.wide.inRound l) m P (fun e a w => w.heap[l]? = some (.loop (rc .busy none)) ∧
          match e with
          | .normal => R (.returned (.bool true)) (w.putObj l (.loop (rc .ready none)))
          | .ret => R (.returned (.bool false)) (w.putObj l (.loop (rc .done (some .ret))))
          | .exit id => R (.returned (.bool false)) (w.putObj l (.loop (rc .done (some (.exit id)))))
          | _ => False) a₁ (w₁.putObj l (.loop (rc .busy none)))) (fun _ _ _ => False))
      { tmps := (ps.zip args).foldl (fun tmps (t, a) => tmps.setIfInBounds t a) tmps, defers := [] } W) :
    YieldAt Fence.wide m P l args W R := by
  obtain ⟨fn, rfl⟩ := hrc
  exact rng_round hL hs h
/-- a function that holds a range over a function -/
theorem rng_func {f : FuncId} {fn : Func} {c : Code} {args : Array Value} {w : World} {R : Ending → World → Prop} (hf : P.funcs[f]? = some fn) (hb : fn.body = some c)
    (h : c.wp P (bodyPostM Fence.wide 0 P fn R) { tmps := args ++ Array.replicate (fn.ntmps - args.size) undef, defers := [] } w) : Calls P f args w R :=
  callsIn_wide.1 (callsIn_of_wp_marks hf hb trivial (wpIn_wide.2 h) rfl)
theorem put_heap {w : World} {l : Nat} {o : Obj} (h : l < w.heap.size) : (w.putObj l o).heap[l]? = some o := by simp [World.putObj, h]
theorem blk_putObj {w : World} {g l : Nat} {t : TypeId} {cs : Array Value} {o : Obj} (h : Blk w g t cs) (hne : g ≠ l) : Blk (w.putObj l o) g t cs := (World.putObj_heap_other hne).trans h
theorem loop_ne {w : World} {g l : Nat} {t : TypeId} {cs : Array Value} {r : Loop} (h : Blk w g t cs) (hL : w.heap[l]? = some (.loop r)) : g ≠ l := by
  rintro rfl; unfold Blk at h; rw [h] at hL; cases hL
theorem def_ne {w : World} {g l : Nat} {t : TypeId} {cs : Array Value} {d : Option (List Deferred)} (h : Blk w g t cs) (hL : w.heap[l]? = some (.deferred d)) : g ≠ l := by
  rintro rfl; unfold Blk at h; rw [h] at hL; cases hL
theorem only_putObj {a w : World} {g l : Nat} {o : Obj} (h : a.grownBy w (some g)) (hl : l = g ∨ a.heap.size ≤ l) : a.grownBy (w.putObj l o) (some g) :=
  ⟨h.os, h.tape, h.output, by simpa using h.size, fun i hi hne => (World.putObj_heap_other (by
    rintro rfl
    rcases hl with rfl | hl
    · exact hne rfl
    · omega)).trans (h.block i hi hne)⟩
theorem below_putObj {B l : Nat} {a w : World} {o : Obj} (h : Below B a w) (hl : B ≤ l) : Below B a (w.putObj l o) :=
  ⟨h.os, h.tape, h.output, by simpa using h.size, fun i hi => (World.putObj_heap_other (by omega)).trans (h.block i hi)⟩
end
end Go.Proofs.Ytenegjflapppdaa
