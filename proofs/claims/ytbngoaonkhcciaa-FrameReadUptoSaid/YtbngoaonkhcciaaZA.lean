/- Own texts in one: Base Open Reads Rng Rng2 Keep Row1 Rng3 Rng4 Rng5 Clone Upto. -/
import Derived.Test.YtbngoaonkhcciaaProg
import Derived.WalkKit
import Derived.KernelRfl
import Derived.Deep.QuietTactic
import Derived.BigQuiet
import Derived.Handy
import Derived.Lib.Hide
import Derived.Deep.Slices
import Derived.Deep.Fields
import Derived.ChangeSame
import Derived.ProofKit
import Derived.OpenShut
import Derived.Carry
import Derived.Laws.OwnMore
import Derived.Deep.AppendLies
import Derived.Maps.AppendAt
import Derived.RegionTactic
import Derived.OwnWalk
import Derived.Laws.BytesString
import Derived.Laws.IdiomStrings
import Derived.RangeFuncNested
import Derived.RangeFuncBound
import Derived.RangeFuncCalls
import Derived.RangeFuncRecord
import Derived.RangeFuncSeq
import Derived.RangeFuncLeaves
import Derived.OrdersIn
import Derived.StillTail
import Derived.Shelf.Abstract
import Derived.Shelf.RegionOpen
import Derived.OwnWalkIn
import Derived.TacticsInMore
import Derived.LoopNIn
import Derived.LoopIn
import Derived.ArgAppend
import Derived.Laws.IdiomCopy
import Derived.Laws.Cover3
import Derived.Lib.SlBytesConst
import Derived.Test.YtbngoaonkhcciaaRows
/-! #### Base -/
set_option linter.all false
namespace Go.Proofs.Ytbngoaonkhcciaa
open Go.ChangeShapes Go.WideShapes Go.ChangeAt Go.RowKit
theorem setCell_drewN (w : World) (n : Nat) (a : Addr) (v : Value) : (w.drewN n).setCell a v = (w.setCell a v).drewN n := rfl
theorem alloc_drewN (w : World) (n : Nat) (o : Obj) : (w.drewN n).alloc o = (w.alloc o).drewN n := rfl
/-- Block g is just the cells cs of element type t, none frozen. -/
def Blk (w : World) (g : Nat) (t : TypeId) (cs : Array Value) : Prop := w.heap[g]? = some (.cells cs t (0, 0))
section
variable {w w' : World} {g : Nat} {t : TypeId} {cs : Array Value}
theorem Blk.lt (h : Blk w g t cs) : g < w.heap.size := by
  rcases Nat.lt_or_ge g w.heap.size with hlt | hge
  · exact hlt
  · unfold Blk at h; rw [Array.getElem?_eq_none hge] at h; cases h
theorem Blk.cell (h : Blk w g t cs) (i : Nat) : w.cell? ⟨g, i, none⟩ = cs[i]? := cell_of_row w g i cs t (0, 0) h
theorem Blk.frozen (h : Blk w g t cs) (i : Nat) : w.frozen? ⟨g, i, none⟩ = false := by
  unfold Blk at h
  simp [World.frozen?, h]
theorem Blk.new (w : World) (t : TypeId) (cs : Array Value) : Blk (w.alloc (.cells cs t)) w.heap.size t cs := heap_alloc_new w _
theorem Blk.drew (h : Blk w g t cs) : Blk w.drew g t cs := h
theorem Blk.drewN (h : Blk w g t cs) (n : Nat) : Blk (w.drewN n) g t cs := h
theorem Blk.alloc (h : Blk w g t cs) (o : Obj) : Blk (w.alloc o) g t cs := (Below.heap_alloc w o g h.lt).trans h
theorem Blk.set_ (h : Blk w g t cs) (i : Nat) (u : Value) : Blk (w.setCell ⟨g, i, none⟩ u) g t (cs.setIfInBounds i u) := by
  unfold Blk at h ⊢
  simp [World.setCell, Array.getElem?_modify, h]
theorem Blk.far (h : Blk w g t cs) {p : Addr} (hp : g ≠ p.block) (u : Value) : Blk (w.setCell p u) g t cs := (Below.heap_setCell w p u g hp).trans h
theorem Blk.below {B : Nat} (h : Blk w g t cs) (hb : Below B w w') (hg : g < B) : Blk w' g t cs := (hb.block g hg).trans h
theorem Blk.grown {row : Option Nat} (h : Blk w g t cs) (hb : w.grownBy w' row) (hg : some g ≠ row) : Blk w' g t cs := (hb.block g h.lt hg).trans h
theorem Blk.ne_ {g' : Nat} {t' : TypeId} {cs' : Array Value} (h : Blk w g t cs) (h' : Blk w g' t' cs') (hne : t ≠ t') : g ≠ g' := by
  rintro rfl
  unfold Blk at h h'
  rw [h] at h'
  injection h' with h'
  injection h' with _ ht
  exact hne ht
end
/-! A contract that leaves the world alone, at a call within a region that is walked once. -/
end Go.Proofs.Ytbngoaonkhcciaa
/-! #### Open -/
set_option linter.all false
namespace Go.Proofs.Ytbngoaonkhcciaa
open Go.ChangeShapes Go.WideShapes Go.ChangeAt Go.RowKit Go.Deep
def IsInt (k : IntKind) (v : Value) : Prop := ∃ n, v = .int k n ∧ (Lit.int k n).wf = true
/-- a slice value whose cells, up to its capacity, can be read: nf cells an element, cell j of the kind R j -/
def Sl (w : World) (nf : Nat) (R : Nat → Value → Prop) (v : Value) : Prop :=
  ∃ A len cap, v = .slice A len cap ∧ len ≤ cap ∧ cap ≤ maxLen ∧
    (cap = 0 ∨ ∃ b off, A = some ⟨b, off, none⟩ ∧ b < w.heap.size ∧ ∀ i, i < cap → ∀ j, j < nf → ∃ u, w.cell? ⟨b, off + (i * nf + j), none⟩ = some u ∧ R j u)
theorem in_u8 {n : Int} (h : (Lit.int .u8 n).wf = true) : 0 ≤ n ∧ n ≤ 255 := by
  simp [Lit.wf, IntKind.min, IntKind.max, IntKind.signed, IntKind.bits] at h; omega
section
variable {H : Type} {enc : TypeId × Value → H} {P : Program} {w : World} {base : Nat} {held : Bool}
theorem isInt_of {t : TypeId} {k : IntKind} (ht : P.underlying t = some (.int k)) {fuel : Nat} {v : Value} {y : DataW H × List MemPlace} (h : DataW.trod enc P w base (fun _ => true) held fuel t [v] = some y) : IsInt k v := by
  obtain ⟨n, hv, _, hw⟩ := DataW.trod_int ht h
  exact ⟨n, by simpa using hv, hw⟩
theorem lt_of_cell {w : World} {b o : Nat} {u : Value} (h : w.cell? ⟨b, o, none⟩ = some u) : b < w.heap.size := by
  rcases Nat.lt_or_ge b w.heap.size with h' | h'
  · exact h'
  · simp [World.cell?, Array.getElem?_eq_none h'] at h
theorem sl_of_cells {a : Addr} {len cap nf : Nat} {R : Nat → Value → Prop} (hnf : 0 < nf) (hl : len ≤ cap) (hm : cap ≤ maxLen)
    (h : ∀ i, i < cap → ∀ j, j < nf → ∃ u, w.cell? (a.add (i * nf + j)) = some u ∧ R j u) : Sl w nf R (.slice (some a) len cap) := by
  refine ⟨some a, len, cap, rfl, hl, hm, ?_⟩
  rcases Nat.eq_zero_or_pos cap with h0 | h0
  · exact .inl h0
  right
  obtain ⟨b, off, spot⟩ := a
  obtain ⟨u, hc, _⟩ := h 0 h0 0 hnf
  have hsp : spot = none := by
    simp only [Addr.add, Nat.zero_mul, Nat.add_zero, if_true] at hc
    cases spot with
    | none => rfl
    | some s => simp [World.cell?] at hc; split at hc <;> simp at hc
  subst hsp
  have e : ∀ n, (⟨b, off, none⟩ : Addr).add n = ⟨b, off + n, none⟩ := fun n => by
    unfold Addr.add; by_cases hn : n = 0 <;> simp [hn]
  refine ⟨b, off, rfl, ?_, fun i hi j hj => ?_⟩
  · rw [e] at hc; exact lt_of_cell hc
  · have := h i hi j hj
    rw [e] at this
    exact this
theorem sl_plain {t e : TypeId} {fuel : Nat} {v : Value} {y : DataW H × List MemPlace} {R : Nat → Value → Prop} (ht : P.underlying t = some (.slice e)) (hC : P.cellsOf e = 1)
    (hR : ∀ n u y, DataW.trod enc P w base (fun _ => true) held n e [u] = some y → R 0 u)
    (h : DataW.trod enc P w base (fun _ => true) held fuel t [v] = some y) : Sl w 1 R v := by
  rcases open_slice ht h with ⟨h0, _⟩ | ⟨a, len, cap, m, n, D, Pl, hcs, hb, hl, hm, hmm, hx, hi⟩
  · obtain rfl : v = .slice none 0 0 := by simpa using h0
    exact ⟨none, 0, 0, rfl, by omega, by simp [maxLen], .inl rfl⟩
  · obtain rfl : v = .slice (some a) len cap := by simpa using hcs
    simp only [if_true] at hmm
    subst hmm
    refine sl_of_cells (by omega) hl hm fun i hi' j hj => ?_
    obtain rfl : j = 0 := by omega
    obtain ⟨cs', hc, ht'⟩ := hi i hi'
    rw [hC] at hc
    obtain ⟨_, hcl, hat⟩ := World.cells?_some hc
    have hcell := hat 0 (by omega)
    obtain ⟨u, rfl⟩ : ∃ u, cs' = [u] := by
      match cs', hcl with
      | [u], _ => exact ⟨u, rfl⟩
    refine ⟨u, ?_, hR _ _ _ ht'⟩
    have e : ∀ a : Addr, a.add 0 = a := fun a => by simp [Addr.add]
    simpa [hC, e] using hcell
end
end Go.Proofs.Ytbngoaonkhcciaa
/-! #### Reads -/
set_option linter.all false
namespace Go.Proofs.Ytbngoaonkhcciaa
open Go.RowKit
theorem block_of_add (a : Addr) (n : Nat) : (a.add n).block = a.block := by unfold Addr.add; split <;> rfl
theorem add_of_add (a : Addr) (i j : Nat) : (a.add i).add j = a.add (i + j) := by
  unfold Addr.add
  by_cases hi : i = 0 <;> by_cases hj : j = 0 <;> simp [hi, hj, Nat.add_assoc]

def Reads (w : World) (B size : Nat) (A : Option Addr) (n : Nat) (xs : List Value) : Prop :=
  xs.length = n * size ∧ (0 < n → ∃ ad, A = some ad ∧ ad.block < B ∧ ∀ j u, xs[j]? = some u → w.cell? (ad.add j) = some u)

section
variable {w w' : World} {B B' size n : Nat} {A : Option Addr} {xs : List Value}
theorem Reads.keep (h : Reads w B size A n xs) (hk : ∀ p : Addr, p.block < B → w'.cell? p = w.cell? p) : Reads w' B size A n xs :=
  ⟨h.1, fun hn => by
    obtain ⟨ad, e, hb, hc⟩ := h.2 hn
    exact ⟨ad, e, hb, fun j u hu => (hk _ (by rw [block_of_add]; exact hb)).trans (hc j u hu)⟩⟩
theorem Reads.more (h : Reads w B size A n xs) (hB : B ≤ B') : Reads w B' size A n xs :=
  ⟨h.1, fun hn => by
    obtain ⟨ad, e, hb, hc⟩ := h.2 hn
    exact ⟨ad, e, by omega, hc⟩⟩
theorem Reads.below (h : Reads w B size A n xs) (hb : Below B w w') : Reads w' B size A n xs := h.keep fun _ hp => hb.cell hp
theorem Reads.drew (h : Reads w B size A n xs) : Reads w.drew B size A n xs := h
theorem Reads.drewN (h : Reads w B size A n xs) (k : Nat) : Reads (w.drewN k) B size A n xs := h
theorem Reads.alloc (h : Reads w B size A n xs) (hB : B ≤ w.heap.size) (o : Obj) : Reads (w.alloc o) B size A n xs := h.keep fun p hp => World.cell?_alloc_lt w o p (by omega)
theorem Reads.setCell (h : Reads w B size A n xs) {p : Addr} (hB : B ≤ p.block) (u : Value) : Reads (w.setCell p u) B size A n xs :=
  h.keep fun q hq => World.cell?_setCell_other w p q u (fun e => by subst e; omega)
theorem Reads.grown (h : Reads w B size A n xs) {row : Option Nat} (hg : w.grownBy w' row) (hB : B ≤ w.heap.size) (hr : ∀ g, row = some g → B ≤ g) : Reads w' B size A n xs :=
  h.keep fun p hp => World.cell?_of_block (hg.block p.block (by omega) (fun e => by have := hr _ e.symm; omega))
theorem Reads.cut (h : Reads w B size A n xs) {k cap : Nat} (hk : k ≤ n) (hc : n ≤ cap) :
    Reads w B size (if cap = k then A else A.map (·.add (k * size))) (n - k) (xs.drop (k * size)) := by
  refine ⟨by rw [List.length_drop, h.1, Nat.sub_mul], fun hn => ?_⟩
  obtain ⟨ad, rfl, hb, hcell⟩ := h.2 (by omega)
  rw [if_neg (by omega)]
  refine ⟨ad.add (k * size), rfl, by rw [block_of_add]; exact hb, fun j u hu => ?_⟩
  rw [add_of_add]
  exact hcell _ u (by rw [← hu, List.getElem?_drop])
theorem Reads.of_own {base : Nat} {e : TypeId} {c : Nat} (h : w.ownsRow base e size (.slice A n c) n xs) : Reads w w.heap.size size A n xs := by
  refine ⟨h.1, fun hn => ?_⟩
  obtain ⟨g, cap, hv, _, hlt⟩ := h.form hn
  have hA : A = some ⟨g, 0, none⟩ := by injection hv
  subst hA
  exact ⟨_, rfl, hlt, h.cells (g := g) rfl⟩
end
/-! ### append onto a row of the call's own, the source nil, empty or not (the guide's page extra-words, copied as it says) -/
section
variable {P : Program} (w : World)

theorem run_append_of_nil (base : Nat) (t ty e : TypeId) (i : TypeInfo) (size : Nat) (ht : P.underlying t = some (.slice e)) (hi : P.info? e = some i)
    (v : Value) (n : Nat) (xs : List Value) (hown : w.ownsRow base e size v n xs) (c : Nat) : (Builtin.append_ #[t, t] ty #[v, .slice none 0 c]).run P w = .ok v w := by
  rcases hown.2 with ⟨rfl, rfl⟩ | ⟨g, cap, cur, rfl, _, _, hnc, _⟩
  · simp [Builtin.append_, run_underlying ht, sizeOf, typeInfo, hi, Builtin.lenOf, Builtin.firstCells]
  · simp [Builtin.append_, run_underlying ht, sizeOf, typeInfo, hi, Builtin.lenOf, Builtin.firstCells, hnc, storeCells]

theorem run_append_any (base : Nat) (t ty e : TypeId) (i : TypeInfo) (z : Value) (size bytes : Nat) (ht : P.underlying t = some (.slice e)) (hi : P.info? e = some i) (hz : i.zero = some z)
    (hsize : i.size = size) (hby : i.bytes = bytes) (hzs : z.cells.size = size) (hsz : 0 < size)
    (v : Value) (n : Nat) (xs : List Value) (hown : w.ownsRow base e size v n xs)
    (B : Nat) (A : Option Addr) (m c : Nat) (news : List Value) (hr : Reads w B size A m news) (h1 : ∀ u ∈ news, u.oneCell' = true)
    (h63 : n + m ≤ maxLen) (hbytes : (n + m) * bytes ≤ 140737488355328) (hbase : base ≤ w.heap.size) :
    ∃ v' w', (Builtin.append_ #[t, t] ty #[v, .slice A m c]).run P w = .ok v' w' ∧ w'.ownsRow base e size v' (n + m) (xs ++ news) ∧ w.grownBy w' v.ownBlock ∧
      (v'.ownBlock = v.ownBlock ∨ v'.ownBlock = some w.heap.size) := by
  rcases A with _ | ad
  · have hm : m = 0 := by
      rcases Nat.eq_zero_or_pos m with h0 | h0
      · exact h0
      · obtain ⟨ad, h, _⟩ := hr.2 h0
        cases h
    subst hm
    have hn : news = [] := List.eq_nil_of_length_eq_zero (by simpa using hr.1)
    subst hn
    exact ⟨v, w, run_append_of_nil w base t ty e i size ht hi v n xs hown c, by simpa using hown, World.grownBy.refl w _, .inl rfl⟩
  · have hcells : ∀ j u, news[j]? = some u → w.cell? (ad.add j) = some u := by
      intro j u hu
      rcases Nat.eq_zero_or_pos m with h0 | h0
      · subst h0
        have hn : news = [] := List.eq_nil_of_length_eq_zero (by simpa using hr.1)
        subst hn
        simp at hu
      · obtain ⟨ad', h, _, hc⟩ := hr.2 h0
        injection h with h
        subst h
        exact hc j u hu
    obtain ⟨v', w', hrun, h2, h3, _, h5⟩ := run_append_own_at (P := P) w base t ty e i z size bytes ht hi hz hsize hby hzs hsz v n xs hown ad m c news hr.1 hcells h1 h63 hbytes hbase
    exact ⟨v', w', hrun, h2, h3, h5⟩

theorem wp_append_any {o : Oper} {a : Act} {K : Act → World → Prop} {Q : Exit → Act → World → Prop} (s x : Operand) (t : TypeId)
    (ho : o.op = .call { callee := .builtin .append, args := #[s, x], argTypes := #[t, t] })
    (base : Nat) (e : TypeId) (i : TypeInfo) (z : Value) (size bytes : Nat) (ht : P.underlying t = some (.slice e)) (hi : P.info? e = some i) (hz : i.zero = some z)
    (hsize : i.size = size) (hby : i.bytes = bytes) (hzs : z.cells.size = size) (hsz : 0 < size)
    (v : Value) (n : Nat) (xs : List Value) (hs : a.eval s = v) (hown : w.ownsRow base e size v n xs)
    (B : Nat) (A : Option Addr) (m c : Nat) (news : List Value) (hx : a.eval x = .slice A m c) (hr : Reads w B size A m news) (h1 : ∀ u ∈ news, u.oneCell' = true)
    (h63 : n + m ≤ maxLen) (hbytes : (n + m) * bytes ≤ 140737488355328) (hbase : base ≤ w.heap.size)
    (h : ∀ v' w', w'.ownsRow base e size v' (n + m) (xs ++ news) → w.grownBy w' v.ownBlock → (v'.ownBlock = v.ownBlock ∨ v'.ownBlock = some w.heap.size) → K (a.put o.dst v') w') : o.wp P a w K Q := by
  obtain ⟨v', w', hrun, h2, h3, h4⟩ := run_append_any (P := P) w base t o.type e i z size bytes ht hi hz hsize hby hzs hsz v n xs hown B A m c news hr h1 h63 hbytes hbase
  unfold Oper.wp execOp
  simp only [ho, resolve, invoke, builtin, Sem.run_bind, Sem.run_pure, Result.andThen_ok, List.map_toArray, List.map_cons, List.map_nil, hs, hx, hrun]
  exact h v' w' h2 h3 h4

theorem wpList_append_any {ops : Array Oper} {rest : List Oper} {o : Oper} {a : Act} {Q : Exit → Act → World → Prop} (hgd : o.guard = none) (s x : Operand) (t : TypeId)
    (ho : o.op = .call { callee := .builtin .append, args := #[s, x], argTypes := #[t, t] })
    (base : Nat) (e : TypeId) (i : TypeInfo) (z : Value) (size bytes : Nat) (ht : P.underlying t = some (.slice e)) (hi : P.info? e = some i) (hz : i.zero = some z)
    (hsize : i.size = size) (hby : i.bytes = bytes) (hzs : z.cells.size = size) (hsz : 0 < size)
    (v : Value) (n : Nat) (xs : List Value) (hs : a.eval s = v) (hown : w.ownsRow base e size v n xs)
    (B : Nat) (A : Option Addr) (m c : Nat) (news : List Value) (hx : a.eval x = .slice A m c) (hr : Reads w B size A m news) (h1 : ∀ u ∈ news, u.oneCell' = true)
    (h63 : n + m ≤ maxLen) (hbytes : (n + m) * bytes ≤ 140737488355328) (hbase : base ≤ w.heap.size)
    (h : ∀ v' w', w'.ownsRow base e size v' (n + m) (xs ++ news) → w.grownBy w' v.ownBlock → (v'.ownBlock = v.ownBlock ∨ v'.ownBlock = some w.heap.size) → wpList P ops Q rest (a.put o.dst v') w') : wpList P ops Q (o :: rest) a w :=
  wpList_plain hgd fun _ hK => wp_append_any w s x t ho base e i z size bytes ht hi hz hsize hby hzs hsz v n xs hs hown B A m c news hx hr h1 h63 hbytes hbase fun v' w' h2 h3 h4 => hK _ _ (h v' w' h2 h3 h4)

end
/-! ### bytes -/
def encB (bs : List UInt8) : List Value := bs.map fun b => .int .u8 (b.toNat : Int)
theorem encB_len (bs : List UInt8) : (encB bs).length = bs.length := by simp [encB]
theorem encB_get {bs : List UInt8} {j : Nat} (h : j < bs.length) : (encB bs)[j]? = some (.int .u8 (bs[j].toNat : Int)) := by
  simp [encB, List.getElem?_eq_getElem h]
theorem encB_append (a b : List UInt8) : encB (a ++ b) = encB a ++ encB b := by simp [encB]
theorem encB_take (a : List UInt8) (n : Nat) : encB (a.take n) = (encB a).take n := by simp [encB, List.map_take]
theorem encB_drop (a : List UInt8) (n : Nat) : encB (a.drop n) = (encB a).drop n := by simp [encB, List.map_drop]
theorem encB_one {bs : List UInt8} : ∀ u ∈ encB bs, u.oneCell' = true := by
  intro u hu
  simp only [encB, List.mem_map] at hu
  obtain ⟨b, _, rfl⟩ := hu
  rfl
/-- 'string(b)' -/
theorem str_of {P : Program} {w : World} {B n c : Nat} {A : Option Addr} {bs : List UInt8} {src dst e : TypeId} (hs : P.underlying src = some (.slice e)) (he : P.underlying e = some (.int .u8)) (hd : P.underlying dst = some .string)
    (h : Reads w B 1 A n (encB bs)) : (convert src dst (.slice A n c)).run P w = .ok (.string ⟨bs.toArray⟩) w := by
  have hn : bs.length = n := by have := h.1; rw [encB_len] at this; omega
  cases A with
  | none =>
    have h0 : n = 0 := by
      rcases Nat.eq_zero_or_pos n with h0 | h0
      · exact h0
      · obtain ⟨ad, e, _⟩ := h.2 h0; cases e
    have : bs = [] := List.eq_nil_of_length_eq_zero (by omega)
    subst this
    rw [run_convert_bytes_string w src dst e none n c hs he hd]
    rfl
  | some ad =>
    subst hn
    refine run_convert_bytes_back w src dst e ad c bs hs he hd fun j hj => ?_
    obtain ⟨ad', e', _, hc⟩ := h.2 (by omega)
    injection e' with e'
    subst e'
    exact hc j _ (encB_get hj)
/-- an argument that is a slice of bytes -/
theorem reads_of_sl {w : World} {v : Value} (h : Sl w 1 (fun _ => IsInt .u8) v) : ∃ A n c bs, v = .slice A n c ∧ n ≤ c ∧ c ≤ maxLen ∧ bs.length = n ∧ Reads w w.heap.size 1 A n (encB bs) := by
  obtain ⟨A, len, cap, rfl, hl, hm, h⟩ := h
  rcases h with h0 | ⟨b, off, rfl, hb, hc⟩
  · have : len = 0 := by omega
    subst this
    exact ⟨A, 0, cap, [], rfl, hl, hm, rfl, by simp [encB], fun h => absurd h (by omega)⟩
  · have hx : ∀ i, ∃ x : UInt8, i < cap → w.cell? ⟨b, off + i, none⟩ = some (.int .u8 (x.toNat : Int)) := by
      intro i
      by_cases hi : i < cap
      · obtain ⟨u, hu, n, rfl, hw⟩ := hc i hi 0 (by omega)
        obtain ⟨h0, h1⟩ := in_u8 hw
        refine ⟨UInt8.ofNat n.toNat, fun _ => ?_⟩
        rw [show off + i = off + (i * 1 + 0) by omega, hu]
        congr 2
        simp [UInt8.toNat_ofNat']
        omega
      · exact ⟨0, fun h => absurd h hi⟩
    have hx := Classical.axiomOfChoice hx
    obtain ⟨f, hf⟩ := hx
    refine ⟨_, len, cap, (List.range len).map f, rfl, hl, hm, by simp, by simp [encB], fun _ => ⟨_, rfl, hb, fun j u hu => ?_⟩⟩
    have hj : j < len := by
      have := (List.getElem?_eq_some_iff.1 hu).1
      simpa [encB] using this
    have hc' := hf j (by omega)
    have hu' : u = .int .u8 ((f j).toNat : Int) := by
      simp [encB, List.getElem?_range hj] at hu
      exact hu.symm
    subst hu'
    unfold Addr.add
    by_cases hj0 : j = 0
    · subst hj0; simpa using hc'
    · simp only [hj0, if_false]; exact hc'
/-- where it holds something a slice's address is a plain one -/
theorem Reads.plain {w : World} {B size n : Nat} {A : Option Addr} {xs : List Value} (h : Reads w B size A n xs) (hn : 0 < n) (hs : 0 < size) :
    ∃ b off, A = some ⟨b, off, none⟩ ∧ b < B ∧ ∀ j u, xs[j]? = some u → w.cell? ⟨b, off + j, none⟩ = some u := by
  obtain ⟨ad, rfl, hb, hc⟩ := h.2 hn
  obtain ⟨b, off, spot⟩ := ad
  have hl : 0 < xs.length := by rw [h.1]; exact Nat.mul_pos hn hs
  have h0 := hc 0 _ (List.getElem?_eq_getElem hl)
  have hsp : spot = none := by
    simp only [Addr.add, if_true] at h0
    cases spot with
    | none => rfl
    | some s => simp [World.cell?] at h0; split at h0 <;> simp at h0
  subst hsp
  refine ⟨b, off, rfl, hb, fun j u hu => ?_⟩
  have := hc j u hu
  unfold Addr.add at this
  by_cases hj : j = 0
  · subst hj; simpa using this
  · simpa [hj] using this
/-- it reads as it did where another block alone has turned -/
theorem Reads.only {w w' : World} {B size n b : Nat} {A : Option Addr} {xs : List Value} (h : Reads w B size A n xs) (hg : w.grownBy w' (some b)) (hB : B ≤ w.heap.size) (hne : ∀ ad, A = some ad → ad.block ≠ b) : Reads w' B size A n xs :=
  ⟨h.1, fun hn => by
    obtain ⟨ad, e, hb, hc⟩ := h.2 hn
    refine ⟨ad, e, hb, fun j u hu => (World.cell?_of_block (hg.block _ ?_ ?_)).trans (hc j u hu)⟩
    · rw [block_of_add]; omega
    · rw [block_of_add]; have := hne ad e; intro h; injection h with h; exact this h⟩
theorem reads_new (w : World) (C : Array Value) (t : TypeId) (fr : Nat × Nat) (size n : Nat) (hn : C.size = n * size) : Reads (w.alloc (.cells C t fr)) (w.heap.size + 1) size (some ⟨w.heap.size, 0, none⟩) n C.toList :=
  ⟨by simpa using hn, fun _ => ⟨_, rfl, by simp, fun j u hu => by
    have e : (⟨w.heap.size, 0, none⟩ : Addr).add j = ⟨w.heap.size, j, none⟩ := by unfold Addr.add; split <;> simp_all
    rw [e, World.cell?_alloc_mark]
    simpa using hu⟩⟩
end Go.Proofs.Ytbngoaonkhcciaa
/-! #### Rng -/
set_option linter.all false
namespace Go.Proofs.Ytbngoaonkhcciaa
open Go.RowKit
/-- a function value against nil -/
theorem run_equalIn_func_nil {P : Program} (w : World) (d : Nat) (t : TypeId) (f : Fn) (a b : Array Value) {ps rs : Array TypeId} {v : Bool} (h : P.underlying t = some (.func ps rs v)) : (Op.equalIn (d + 1) t (.func f a b) .nilFunc).run P w = .ok false w := by
  simp [Op.equalIn, run_underlying h]
theorem run_eql_func_nil {P : Program} (w : World) (t : TypeId) (f : Fn) (a b : Array Value) {ps rs : Array TypeId} {v : Bool} (h : P.underlying t = some (.func ps rs v)) : (binOp .eql t (.func f a b) .nilFunc).run P w = .ok (.bool false) w := by
  simp only [binOp]
  simp [Op.equal, Op.maxDepth, run_equalIn_func_nil w 9999 t f a b h]
/-! ### arguments that are slices of numbers -/
theorem Reads.first {w : World} {B size n m : Nat} {A : Option Addr} {xs : List Value} (h : Reads w B size A n xs) (hm : m ≤ n) : Reads w B size A m (xs.take (m * size)) :=
  ⟨by rw [List.length_take, h.1]; have := Nat.mul_le_mul_right size hm; omega, fun h0 => by
    obtain ⟨ad, e, hb, hc⟩ := h.2 (by omega)
    exact ⟨ad, e, hb, fun j u hu => hc j u (by rw [List.getElem?_take] at hu; split at hu <;> simp_all)⟩⟩
/-! ### the region -/
def opTmps (o : Oper) : List Nat := o.op.operands.toList.filterMap fun | .tmp t => some t | _ => none
def depsOn (o : Oper) (j : Nat) : Bool := o.after.any fun e => e.on == j && Region.binds .any e
def readOp : Op → Bool
  | .move _ | .load .. | .nilCheck _ | .fieldAddr .. | .indexAddr .. | .index .. | .field .. | .binOp .. | .unOp .. | .convert .. | .extract .. | .slice .. | .assign _ => true
  | .call { callee := .builtin .len, .. } => true
  | _ => false
def tailOp : Op → Bool
  | .defer _ | .select .. => false
  | _ => true
section
variable {F : Fence} {n : Nat} {P : Program} {ops : Array Oper}
/-- i comes behind e, at one remove or more -/
def waits (ops : Array Oper) : Nat → Nat → Nat → Bool
  | 0, _, _ => false
  | f + 1, i, e => match ops[i]? with
    | none => false
    | some o => depsOn o e || o.after.any fun x => Region.binds .any x && waits ops f x.on e
/-- where the mark is off, every read was waited for -/
def rtDue (ops : Array Oper) (E : List Nat) (T : List (Nat × Bool)) : Bool :=
  (List.range T.length).all fun k => match T[k]? with
    | some (_, false) => E.all fun e => (T.take (k + 1)).any fun j => waits ops ops.size j.1 e
    | _ => true
theorem put_defers (a : Act) (d : Option Tmp) (v : Value) : (a.put d v).defers = a.defers := by cases d <;> rfl
theorem put_get (a : Act) (d : Tmp) (v : Value) (t : Nat) : (a.put (some d) v).tmps[t]? = if d = t then (if t < a.tmps.size then some v else none) else a.tmps[t]? := by
  simp only [Act.put]
  rw [Array.getElem?_setIfInBounds]
  by_cases h : d = t
  · subst h; simp
  · simp [h]
theorem put_size (a : Act) (d : Option Tmp) (v : Value) : (a.put d v).tmps.size = a.tmps.size := by cases d <;> simp [Act.put]
theorem wpIn_transfer {o : Oper} {a b : Act} {w : World} {K K' : Act → World → Prop} {Q : Exit → Act → World → Prop} (hev : ∀ x ∈ o.op.operands, a.eval x = b.eval x) (ht : tailOp o.op = true)
    (h : o.wpIn F n P b w (fun a' w' => a'.defers = b.defers ∧ K' a' w') (fun _ _ _ => False)) (hk : ∀ v w', K' (b.put o.dst v) w' → K (a.put o.dst v) w') : o.wpIn F n P a w K Q := by
  have hsel : ∀ cs c, o.op ≠ .select cs c := fun cs c e => by rw [e] at ht; simp [tailOp] at ht
  have hdef : ∀ c, o.op ≠ .defer c := fun c e => by rw [e] at ht; simp [tailOp] at ht
  have hab : o.about P w a.eval = o.about P w b.eval := by
    unfold Oper.about
    cases hop : o.op with
    | call c =>
      simp only
      rw [resolve_congr c o.type (fun x hx => hev x (by rw [hop]; exact hx))]
    | _ => rfl
  have hse : o.semAt F.round a.eval = o.semAt F.round b.eval := by
    rw [Oper.semAt_eq _ _ _ hdef, Oper.semAt_eq _ _ _ hdef, execOp_congr o hsel hev]
  unfold Oper.wpIn at h ⊢
  rw [hab, hse]
  refine ⟨h.1, ?_⟩
  have h2 := h.2
  generalize (o.semAt F.round b.eval).run P w = r at h2 ⊢
  cases r with
  | halt x w' => cases x <;> simp only [Oper.uponIn] at h2 ⊢
  | ok x w' =>
    cases x <;> simp only [Oper.uponIn] at h2 ⊢
    case value v => exact hk _ _ h2.2
    case skip => exact hk _ _ h2.2
    case defer d =>
      have := h2.1
      rw [put_defers] at this
      simp at this
    case enter f args =>
      exact ⟨h2.1, h2.2.mono (fun e w'' he => by cases e <;> first | exact hk _ _ he.2 | exact he.elim | (obtain ⟨_, _, hh⟩ := he; exact hh.elim))⟩
    case row row args => exact ⟨h2.1, h2.2.mono (fun v w'' he => hk _ _ he.2)⟩
    case round l f tmps assign body =>
      exact ⟨h2.1, h2.2.mono (fun e w'' he => by cases e <;> first | exact hk _ _ he.2 | exact he.elim | (obtain ⟨_, _, hh⟩ := he; exact hh.elim))⟩
theorem opTmps_mem {o : Oper} {t : Nat} (h : Operand.tmp t ∈ o.op.operands) : t ∈ opTmps o :=
  List.mem_filterMap.2 ⟨.tmp t, by simpa using h, rfl⟩
theorem depsOn_listed {o : Oper} {j : Nat} {listed : Array Bool} (h : depsOn o j = true) (hall : ∀ e ∈ o.after, Region.binds .any e = true → listed.getD e.on false = true) : listed.getD j false = true := by
  unfold depsOn at h
  obtain ⟨e, he, hb⟩ := Array.any_eq_true'.1 h
  simp only [Bool.and_eq_true, beq_iff_eq] at hb
  exact hb.1 ▸ hall e he hb.2
/-- how many operations wait still -/
def toGo (m : Nat) (listed : Array Bool) : Nat := (List.range m).countP fun i => !listed.getD i true
theorem countP_lt {p q : Nat → Bool} (h : ∀ x, q x = true → p x = true) {i : Nat} (hp : p i = true) (hq : q i = false) : ∀ l : List Nat, i ∈ l → l.countP q < l.countP p
  | [], hi => by cases hi
  | x :: l, hi => by
    have le : l.countP q ≤ l.countP p := List.countP_mono_left fun y _ => h y
    rw [List.countP_cons, List.countP_cons]
    by_cases hx : i = x
    · subst hx; rw [if_pos hp, if_neg (by simp [hq])]; omega
    · have := countP_lt h hp hq l ((List.mem_cons.1 hi).resolve_left hx)
      by_cases h1 : q x = true
      · rw [if_pos h1, if_pos (h x h1)]; omega
      · rw [if_neg h1]; omega
theorem toGo_set {m i : Nat} {listed : Array Bool} (hi : i < m) (hs : listed.size = m) (h : listed.getD i true = false) : toGo m (listed.setIfInBounds i true) < toGo m listed := by
  refine countP_lt (i := i) (fun x hx => ?_) (by rw [h]; rfl) (by simp [hs, hi]) _ (List.mem_range.2 hi)
  by_cases hix : i = x
  · subst hix; simp [hs, hi] at hx
  · rw [getD_set_ne true hix] at hx; exact hx
theorem waits_listed {listed : Array Bool} (fed : ∀ i o, listed.getD i false = true → ops[i]? = some o → ∀ e ∈ o.after, Region.binds .any e = true → listed.getD e.on false = true) : ∀ (f i e : Nat), waits ops f i e = true → listed.getD i false = true → listed.getD e false = true
  | 0, _, _, h, _ => by cases h
  | f + 1, i, e, h, hl => by
    unfold waits at h
    cases ho : ops[i]? with
    | none => rw [ho] at h; cases h
    | some o =>
      simp only [ho, Bool.or_eq_true] at h
      rcases h with h | h
      · exact depsOn_listed h (fed i o hl ho)
      · obtain ⟨x, hx, hb⟩ := Array.any_eq_true'.1 h
        simp only [Bool.and_eq_true] at hb
        exact waits_listed fed f x.on e hb.2 (fed i o hl ho x hx hb.1)
theorem fed_set {listed : Array Bool} {i : Nat} {o : Oper} (hi : ops[i]? = some o) (hall : ∀ e ∈ o.after, Region.binds .any e = true → listed.getD e.on false = true)
    (fed : ∀ i o, listed.getD i false = true → ops[i]? = some o → ∀ e ∈ o.after, Region.binds .any e = true → listed.getD e.on false = true) :
    ∀ j p, (listed.setIfInBounds i true).getD j false = true → ops[j]? = some p → ∀ e ∈ p.after, Region.binds .any e = true → (listed.setIfInBounds i true).getD e.on false = true := by
  intro j p hl hj e he hb
  by_cases hij : i = j
  · subst hij
    obtain rfl : p = o := Option.some.inj (hj.symm.trans hi)
    exact getD_set_true (hall e he hb)
  · rw [getD_set_ne false hij] at hl
    exact getD_set_true (fed j p hl hj e he hb)
theorem eval_of_tmps {a b : Act} {x : Operand} (h : ∀ t, x = .tmp t → a.tmps[t]? = b.tmps[t]?) : a.eval x = b.eval x := by
  cases x with
  | tmp t => simp only [Act.eval, Array.getD_eq_getD_getElem?, h t rfl]
  | _ => rfl
theorem about_read {o : Oper} {w : World} {ρ : Operand → Value} (h : readOp o.op = true) : o.about P w ρ = none := by
  unfold Oper.about
  cases ho : o.op <;> first | rfl | skip
  rename_i c
  rw [ho] at h
  unfold readOp at h
  split at h <;> first | cases h | skip
  all_goals first | (rename_i heq; cases heq; done) | skip
  rename_i heq
  cases heq
  rfl
theorem noDefer_read {o : Oper} (h : readOp o.op = true) : ∀ c, o.op ≠ .defer c := fun c e => by rw [e] at h; simp [readOp] at h
theorem ready_nil {listed : Array Bool} (hd : ∀ i o, ops[i]? = some o → ∀ e ∈ o.after, Region.binds .any e = true → e.on < i) (hr : Region.ready .any ops listed = []) :
    ∀ i, i < ops.size → listed.getD i true = true := by
  intro i
  induction i using Nat.strongRecOn with
  | _ i ih =>
    intro hi
    cases h : listed.getD i true with
    | true => rfl
    | false =>
      have ho : ops[i]? = some ops[i] := by simp [hi]
      have : i ∈ Region.ready .any ops listed := mem_ready.2 ⟨h, _, ho, fun e he hb => by
        have hlt := hd i _ ho e he hb
        have := ih e.on hlt (by omega)
        rcases Nat.lt_or_ge e.on listed.size with h' | h'
        · simpa [h'] using this
        · exfalso
          have hil : listed.size ≤ i := by omega
          simp [Array.getElem?_eq_none hil] at h⟩
      rw [hr] at this; cases this
theorem act_ext {a b : Act} (hd : a.defers = b.defers) (ht : ∀ t : Nat, a.tmps[t]? = b.tmps[t]?) : a = b := by
  obtain ⟨x, y⟩ := a; obtain ⟨x', y'⟩ := b
  simp only at hd ht
  subst hd
  have := Array.ext_getElem? ht
  subst this
  rfl
/-- the reads done beforehand, in the order of the list -/
def putAll (ops : Array Oper) (a : Act) : List (Nat × Value) → Act
  | [] => a
  | p :: r => putAll ops (a.put ((ops[p.1]?).bind (·.dst)) p.2) r
theorem putAll_defers : ∀ (Ev : List (Nat × Value)) (a : Act), (putAll ops a Ev).defers = a.defers
  | [], _ => rfl
  | p :: r, a => (putAll_defers r _).trans (put_defers _ _ _)
theorem putAll_size : ∀ (Ev : List (Nat × Value)) (a : Act), (putAll ops a Ev).tmps.size = a.tmps.size
  | [], _ => rfl
  | p :: r, a => (putAll_size r _).trans (put_size _ _ _)
theorem putAll_free : ∀ (Ev : List (Nat × Value)) (a : Act) (t : Nat), (∀ p ∈ Ev, (ops[p.1]?).bind (·.dst) ≠ some t) → (putAll ops a Ev).tmps[t]? = a.tmps[t]?
  | [], _, _, _ => rfl
  | p :: r, a, t, h => by
    rw [putAll, putAll_free r _ t fun q hq => h q (List.mem_cons_of_mem _ hq)]
    have := h p (List.mem_cons_self ..)
    cases hd : (ops[p.1]?).bind (·.dst) with
    | none => rfl
    | some d => rw [put_get, if_neg (fun e => this (by rw [hd, e]))]
theorem putAll_held : ∀ (Ev : List (Nat × Value)) (a : Act) (t : Nat) (p : Nat × Value), p ∈ Ev → (Ev.map (·.1)).Nodup → (∀ q ∈ Ev, q.1 = p.1 ∨ (ops[q.1]?).bind (·.dst) ≠ some t) → (ops[p.1]?).bind (·.dst) = some t →
    (putAll ops a Ev).tmps[t]? = if t < a.tmps.size then some p.2 else none
  | [], _, _, _, hp, _, _, _ => by cases hp
  | q :: r, a, t, p, hp, hnd, hu, hd => by
    rw [putAll]
    rw [List.map_cons, List.nodup_cons] at hnd
    by_cases hqp : q = p
    · subst hqp
      rw [putAll_free r _ t (fun s hs => (hu s (List.mem_cons_of_mem _ hs)).resolve_left fun e => hnd.1 (e ▸ List.mem_map.2 ⟨s, hs, rfl⟩)), hd, put_get, if_pos rfl]
    · have hp' : p ∈ r := (List.mem_cons.1 hp).resolve_left (Ne.symm hqp)
      rw [putAll_held r _ t p hp' hnd.2 (fun s hs => hu s (List.mem_cons_of_mem _ hs)) hd, put_size]
end
theorem wpIn_append_any {F : Fence} {n₀ : Nat} {P : Program} (w : World) {o : Oper} {a : Act} {K : Act → World → Prop} {Q : Exit → Act → World → Prop} (s x : Operand) (t : TypeId)
    (ho : o.op = .call { callee := .builtin .append, args := #[s, x], argTypes := #[t, t] })
    (base : Nat) (e : TypeId) (i : TypeInfo) (z : Value) (size bytes : Nat) (ht : P.underlying t = some (.slice e)) (hi : P.info? e = some i) (hz : i.zero = some z)
    (hsize : i.size = size) (hby : i.bytes = bytes) (hzs : z.cells.size = size) (hsz : 0 < size)
    (v : Value) (n : Nat) (xs : List Value) (hs : a.eval s = v) (hown : w.ownsRow base e size v n xs)
    (B : Nat) (A : Option Addr) (m c : Nat) (news : List Value) (hx : a.eval x = .slice A m c) (hr : Reads w B size A m news) (h1 : ∀ u ∈ news, u.oneCell' = true)
    (h63 : n + m ≤ maxLen) (hbytes : (n + m) * bytes ≤ 140737488355328) (hbase : base ≤ w.heap.size)
    (h : ∀ v' w', w'.ownsRow base e size v' (n + m) (xs ++ news) → w.grownBy w' v.ownBlock → (v'.ownBlock = v.ownBlock ∨ v'.ownBlock = some w.heap.size) → K (a.put o.dst v') w') : o.wpIn F n₀ P a w K Q := by
  obtain ⟨v', w', hrun, h2, h3, h4⟩ := run_append_any (P := P) w base t o.type e i z size bytes ht hi hz hsize hby hzs hsz v n xs hown B A m c news hr h1 h63 hbytes hbase
  have hd : ∀ c, o.op ≠ .defer c := fun c e => by rw [ho] at e; cases e
  unfold Oper.wpIn
  rw [Oper.semAt_eq _ _ _ hd]
  have hab : o.about P w a.eval = none := by unfold Oper.about; rw [ho]; rfl
  rw [hab]
  refine ⟨fun f hf => (by cases hf), ?_⟩
  unfold execOp
  simp only [ho, resolve, invoke, builtin, Sem.run_bind, Sem.run_pure, Result.andThen_ok, List.map_toArray, List.map_cons, List.map_nil, hs, hx, hrun]
  exact h v' w' h2 h3 h4
/-! ### a range over a function, in a function that no fence is put round -/
section
variable {P : Program}
/-- a loop's record -/
def mkRec (fn : Nat) (tmps : Array Value) (ps : Array Tmp) (assign body : Code) (D : Nat) (st : LoopState) (pe : Option Code) : Loop :=
  { state := st, pending := pe, fn, tmps, params := ps, assign, body, defers := D }
/-- the statement: the iterator is called once, in a world with two blocks more; it comes back with the record not busy -/
theorem rng_stmt {n : Nat} {g : Operand} {ps : Array Tmp} {assign body : Code} {Q : Exit → Act → World → Prop} {a : Act} {w : World} {gf : Nat} {lb : Array Value} (hg : a.eval g = .func (.func gf) #[] lb)
    (eg : ∀ args w, (callFunc gf args).run P w = .ok (.enter gf args) w)
    (h : ∀ fn W1, W1 = (w.alloc (.deferred (some []))).alloc (.loop (mkRec fn a.tmps ps assign body w.heap.size .ready none)) →
      CallsIn Fence.wide n P gf (#[.func (.yield (w.heap.size + 1)) #[] #[]] ++ lb) W1 (fun e W' => ∃ v st pe, e = .returned v ∧ st ≠ .busy ∧
        W'.heap[w.heap.size + 1]? = some (.loop (mkRec fn a.tmps ps assign body w.heap.size st pe)) ∧
        match pe with
        | none => Q .normal { a with defers := { target := .collected w.heap.size, args := #[] } :: a.defers } (W'.putObj (w.heap.size + 1) (.loop (mkRec fn a.tmps ps assign body w.heap.size .exhausted pe)))
        | some c => c.wp P Q { a with defers := { target := .collected w.heap.size, args := #[] } :: a.defers } (W'.putObj (w.heap.size + 1) (.loop (mkRec fn a.tmps ps assign body w.heap.size .exhausted pe))))) :
    (Code.rangeFunc g ps assign body).wp P Q a w := by
  refine (wpIn_wide (n := n + 1)).1 (wpIn_rangeFunc ?_)
  intro fn _
  obtain ⟨W1, hW1⟩ : ∃ W1, W1 = (w.alloc (.deferred (some []))).alloc (.loop (mkRec fn a.tmps ps assign body w.heap.size .ready none)) := ⟨_, rfl⟩
  refine ⟨w.heap.size + 1, [{ target := .collected w.heap.size, args := #[] }], W1, { target := .fn (.func gf) lb, args := #[.func (.yield (w.heap.size + 1)) #[] #[]] }, W1, gf,
    #[.func (.yield (w.heap.size + 1)) #[] #[]] ++ lb, W1, ?_, ?_, fun _ _ => trivial, ?_, fun _ => by omega, ?_⟩
  · rw [hW1]; exact run_enterLoop_outer _ _ _ _ _
  · simp only [resolve, hg]
    simp [go_sem]
  · simp [invoke, go_sem, eg]
  · refine (h fn _ hW1).mono ?_
    rintro e W' ⟨v, st, pe, rfl, hst, hL, hq⟩
    refine ⟨pe, _, run_endLoop hL hst, ?_⟩
    cases pe with
    | none => exact hq
    | some c => exact wpIn_wide.2 hq
/-- one round: the record stands ready; the body, walked on the frame of the loop with yield's arguments laid in -/
theorem rng_round {m l D fn : Nat} {tmps : Array Value} {ps : Array Tmp} {assign body : Code} {args : Array Value} {W : World} {R : Ending → World → Prop}
    (hL : W.heap[l]? = some (.loop (mkRec fn tmps ps assign body D .ready none))) (hs : args.size = ps.size)
    (h : assign.wpIn (Fence.wide.inRound l) m P (Exit.then (fun a₁ w₁ => w₁.heap[l]? = some (.loop (mkRec fn tmps ps assign body D .ready none)) ∧
        body.wpIn (Fence.wide.inRound l) m P (fun e a w => w.heap[l]? = some (.loop (mkRec fn tmps ps assign body D .busy none)) ∧
          match e with
          | .normal => R (.returned (.bool true)) (w.putObj l (.loop (mkRec fn tmps ps assign body D .ready none)))
          | .ret => R (.returned (.bool false)) (w.putObj l (.loop (mkRec fn tmps ps assign body D .done (some .ret))))
          | .exit id => R (.returned (.bool false)) (w.putObj l (.loop (mkRec fn tmps ps assign body D .done (some (.exit id)))))
          | _ => False) a₁ (w₁.putObj l (.loop (mkRec fn tmps ps assign body D .busy none)))) (fun _ _ _ => False))
      { tmps := (ps.zip args).foldl (fun tmps (t, a) => tmps.setIfInBounds t a) tmps, defers := [] } W) :
    YieldAt Fence.wide m P l args W R := by
  refine ⟨fn, _, assign, body, run_yield hL hs, roundIn_of_wpIn trivial (wpIn_mono h ?_)⟩
  intro e a w hq
  cases e with
  | normal =>
    obtain ⟨hl, hb⟩ := hq
    refine ⟨_, run_beginRound hl rfl, wpIn_mono hb ?_⟩
    rintro e a w ⟨hl, hr⟩
    cases e with
    | normal => exact ⟨_, _, run_endRound none hl, hr⟩
    | ret => exact ⟨_, _, run_endRound (some .ret) hl, hr⟩
    | exit id => exact ⟨_, _, run_endRound (some (.exit id)) hl, hr⟩
    | goto t => exact hr.elim
    | panic c => exact hr.elim
    | outgrown => exact hr.elim
  | _ => exact hq.elim
/-- the two once more, the record under one name -/
theorem rng_stmt' {n : Nat} {g : Operand} {ps : Array Tmp} {assign body : Code} {Q : Exit → Act → World → Prop} {a : Act} {w : World} {gf : Nat} {lb : Array Value} (hg : a.eval g = .func (.func gf) #[] lb)
    (eg : ∀ args w, (callFunc gf args).run P w = .ok (.enter gf args) w)
    (h : ∀ rc : LoopState → Option Code → Loop, (∃ fn, rc = mkRec fn a.tmps ps assign body w.heap.size) → ∀ W1, W1 = (w.alloc (.deferred (some []))).alloc (.loop (rc .ready none)) →
      CallsIn Fence.wide n P gf (#[.func (.yield (w.heap.size + 1)) #[] #[]] ++ lb) W1 (fun e W' => ∃ v st pe, e = .returned v ∧ st ≠ .busy ∧
        W'.heap[w.heap.size + 1]? = some (.loop (rc st pe)) ∧
        match pe with
        | none => Q .normal { a with defers := { target := .collected w.heap.size, args := #[] } :: a.defers } (W'.putObj (w.heap.size + 1) (.loop (rc .exhausted pe)))
        | some c => c.wp P Q { a with defers := { target := .collected w.heap.size, args := #[] } :: a.defers } (W'.putObj (w.heap.size + 1) (.loop (rc .exhausted pe))))) :
    (Code.rangeFunc g ps assign body).wp P Q a w :=
  rng_stmt hg eg fun fn W1 hW1 => h _ ⟨fn, rfl⟩ W1 hW1
theorem rng_round' {m l D : Nat} {rc : LoopState → Option Code → Loop} {tmps : Array Value} {ps : Array Tmp} {assign body : Code} {args : Array Value} {W : World} {R : Ending → World → Prop}
    (hrc : ∃ fn, rc = mkRec fn tmps ps assign body D) (hL : W.heap[l]? = some (.loop (rc .ready none))) (hs : args.size = ps.size)
    (h : assign.wpIn (Fence.wide.inRound l) m P (Exit.then (fun a₁ w₁ => w₁.heap[l]? = some (.loop (rc .ready none)) ∧
        body.wpIn (Fence.wide.inRound l) m P (fun e a w => w.heap[l]? = some (.loop (rc .busy none)) ∧
          match e with
          | .normal => R (.returned (.bool true)) (w.putObj l (.loop (rc .ready none)))
          | .ret => R (.returned (.bool false)) (w.putObj l (.loop (rc .done (some .ret))))
          | .exit id => R (.returned (.bool false)) (w.putObj l (.loop (rc .done (some (.exit id)))))
          | _ => False) a₁ (w₁.putObj l (.loop (rc .busy none)))) (fun _ _ _ => False))
      { tmps := (ps.zip args).foldl (fun tmps (t, a) => tmps.setIfInBounds t a) tmps, defers := [] } W) :
    YieldAt Fence.wide m P l args W R := by
  obtain ⟨fn, rfl⟩ := hrc
  exact rng_round hL hs h
/-- a function that holds a range over a function -/
theorem rng_func {f : FuncId} {fn : Func} {c : Code} {args : Array Value} {w : World} {R : Ending → World → Prop} (hf : P.funcs[f]? = some fn) (hb : fn.body = some c)
    (h : c.wp P (bodyPostM Fence.wide 0 P fn R) { tmps := args ++ Array.replicate (fn.ntmps - args.size) undef, defers := [] } w) : Calls P f args w R :=
  callsIn_wide.1 (callsIn_of_wp_marks hf hb trivial (wpIn_wide.2 h) rfl)
theorem put_heap {w : World} {l : Nat} {o : Obj} (h : l < w.heap.size) : (w.putObj l o).heap[l]? = some o := by simp [World.putObj, h]
end
end Go.Proofs.Ytbngoaonkhcciaa
/-! #### Rng2 -/
set_option linter.all false
namespace Go.Proofs.Ytbngoaonkhcciaa
open Go.RowKit
section
variable {F : Fence} {n : Nat} {P : Program} {ops : Array Oper}
end
end Go.Proofs.Ytbngoaonkhcciaa
/-! #### Keep -/
set_option linter.all false
namespace Go.Proofs.Ytbngoaonkhcciaa
open Go.RowKit
/-- all blocks of w but gs lie in w' as they lay -/
structure Keep (gs : List Nat) (w w' : World) : Prop where
  os : w'.os = w.os
  tape : w'.tape = w.tape
  output : w'.output = w.output
  size : w.heap.size ≤ w'.heap.size
  block : ∀ i, i < w.heap.size → i ∉ gs → w'.heap[i]? = w.heap[i]?
section
variable {gs hs : List Nat} {a b c w w' : World}
theorem Keep.refl (gs : List Nat) (w : World) : Keep gs w w := ⟨rfl, rfl, rfl, Nat.le_refl _, fun _ _ _ => rfl⟩
theorem Keep.trans (h : Keep gs a b) (k : Keep gs b c) : Keep gs a c :=
  ⟨k.os.trans h.os, k.tape.trans h.tape, k.output.trans h.output, Nat.le_trans h.size k.size, fun i hi hn => (k.block i (Nat.lt_of_lt_of_le hi h.size) hn).trans (h.block i hi hn)⟩
theorem Keep.more (h : Keep gs a b) (hh : ∀ i ∈ gs, i ∈ hs ∨ a.heap.size ≤ i) : Keep hs a b :=
  ⟨h.os, h.tape, h.output, h.size, fun i hi hn => h.block i hi (fun e => (hh i e).elim hn (fun h => by omega))⟩
/-- a step that may turn blocks that came since -/
theorem Keep.step (h : Keep gs a b) (k : Keep hs b c) (hh : ∀ i ∈ hs, i ∈ gs ∨ a.heap.size ≤ i) : Keep gs a c :=
  ⟨k.os.trans h.os, k.tape.trans h.tape, k.output.trans h.output, Nat.le_trans h.size k.size, fun i hi hn => (k.block i (Nat.lt_of_lt_of_le hi h.size) (fun e => (hh i e).elim hn (fun h => by omega))).trans (h.block i hi hn)⟩
theorem Keep.of_grown {row : Option Nat} (h : a.grownBy b row) : Keep row.toList a b :=
  ⟨h.os, h.tape, h.output, h.size, fun i hi hn => h.block i hi (fun e => hn (by rw [← e]; simp))⟩
theorem Keep.of_only {g : Nat} (h : a.grownBy b (some g)) : Keep [g] a b := Keep.of_grown h
theorem Keep.of_below (h : Below a.heap.size a b) : Keep [] a b := ⟨h.os, h.tape, h.output, h.size, fun i hi _ => h.block i hi⟩
theorem Keep.below (h : Keep gs a b) {B : Nat} (hB : B ≤ a.heap.size) (hg : ∀ i ∈ gs, B ≤ i) : Below B a b :=
  ⟨h.os, h.tape, h.output, h.size, fun i hi => h.block i (by omega) (fun e => by have := hg i e; omega)⟩
theorem Keep.drew (h : Keep gs a b) : Keep gs a b.drew := ⟨h.os, h.tape, h.output, h.size, h.block⟩
theorem Keep.undrew (h : Keep gs a.drew b) : Keep gs a b := ⟨h.os, h.tape, h.output, h.size, h.block⟩
theorem Keep.drewN (h : Keep gs a b) (n : Nat) : Keep gs a (b.drewN n) := ⟨h.os, h.tape, h.output, h.size, h.block⟩
theorem Keep.alloc (h : Keep gs a b) (o : Obj) : Keep gs a (b.alloc o) :=
  ⟨h.os, h.tape, h.output, Nat.le_trans h.size (by simp), fun i hi hn => (Below.heap_alloc b o i (Nat.lt_of_lt_of_le hi h.size)).trans (h.block i hi hn)⟩
theorem Keep.setCell (h : Keep gs a b) {p : Addr} (hp : p.block ∈ gs ∨ a.heap.size ≤ p.block) (u : Value) : Keep gs a (b.setCell p u) :=
  ⟨h.os, h.tape, h.output, by simpa [World.setCell] using h.size, fun i hi hn => (Below.heap_setCell b p u i (by
    rintro rfl
    rcases hp with hp | hp
    · exact hn hp
    · omega)).trans (h.block i hi hn)⟩
theorem Keep.putObj (h : Keep gs a b) {l : Nat} (hl : l ∈ gs ∨ a.heap.size ≤ l) (o : Obj) : Keep gs a (b.putObj l o) :=
  ⟨h.os, h.tape, h.output, by simpa using h.size, fun i hi hn => (World.putObj_heap_other (by
    rintro rfl
    rcases hl with hl | hl
    · exact hn hl
    · omega)).trans (h.block i hi hn)⟩
theorem Keep.heap {o : Obj} {g : Nat} (h : Keep gs w w') (hg : w.heap[g]? = some o) (hn : g ∉ gs) : w'.heap[g]? = some o := (h.block g (Array.getElem?_eq_some_iff.1 hg).1 hn).trans hg
theorem Keep.cell {p : Addr} (h : Keep gs w w') (hp : p.block < w.heap.size) (hn : p.block ∉ gs) : w'.cell? p = w.cell? p := World.cell?_of_block (h.block p.block hp hn)
theorem Blk.keep {g : Nat} {t : TypeId} {cs : Array Value} (hb : Blk w g t cs) (h : Keep gs w w') (hn : g ∉ gs) : Blk w' g t cs := (h.block g hb.lt hn).trans hb
theorem Reads.keeps {B size n : Nat} {A : Option Addr} {xs : List Value} (hr : Reads w B size A n xs) (h : Keep gs w w') (hB : B ≤ w.heap.size) (hn : ∀ i ∈ gs, B ≤ i) : Reads w' B size A n xs :=
  hr.keep fun p hp => h.cell (by omega) (fun e => by have := hn _ e; omega)
theorem own_keep {base size n : Nat} {e : TypeId} {v : Value} {xs : List Value} (ho : w.ownsRow base e size v n xs) (h : Keep gs w w') (hn : ∀ k, v.ownBlock = some k → k ∉ gs) : w'.ownsRow base e size v n xs := by
  refine ⟨ho.1, ?_⟩
  rcases ho.2 with hx | ⟨g, cap, cur, rfl, hb, hgg, rest⟩
  · exact .inl hx
  · refine .inr ⟨g, cap, cur, rfl, hb, ?_, rest⟩
    rw [h.block g (Array.getElem?_eq_some_iff.1 hgg).1 (hn g rfl)]
    exact hgg
end
end Go.Proofs.Ytbngoaonkhcciaa
/-! #### Row1 -/
set_option linter.all false
namespace Go.Proofs.Ytbngoaonkhcciaa
open Go.RowKit
def rowBlk : Value → Option Nat
  | .slice (some a) _ _ => some a.block
  | _ => none
/-- v reads as xs, its cells (up to its capacity) lie in a block from base on that is known whole -/
def Row1 (w : World) (base : Nat) (e : TypeId) (v : Value) (xs : List Value) : Prop :=
  ∃ A cap, v = .slice A xs.length cap ∧ xs.length ≤ cap ∧ cap ≤ maxLen ∧
    ((A = none ∧ xs = [] ∧ cap = 0) ∨ ∃ g off cs, A = some ⟨g, off, none⟩ ∧ base ≤ g ∧ Blk w g e cs ∧ off + cap ≤ cs.size ∧ ∀ j u, xs[j]? = some u → cs[off + j]? = some u)
section
variable {P : Program} {w w' : World} {base : Nat} {e : TypeId} {v : Value} {xs : List Value}
theorem Row1.nil (w : World) (base : Nat) (e : TypeId) : Row1 w base e (.slice none 0 0) [] := ⟨none, 0, rfl, by simp, by simp [maxLen], .inl ⟨rfl, rfl, rfl⟩⟩
theorem Row1.keep {gs : List Nat} (h : Row1 w base e v xs) (k : Keep gs w w') (hn : ∀ g, rowBlk v = some g → g ∉ gs) : Row1 w' base e v xs := by
  obtain ⟨A, cap, rfl, h1, h2, h⟩ := h
  refine ⟨A, cap, rfl, h1, h2, ?_⟩
  rcases h with h | ⟨g, off, cs, rfl, hg, hb, hc, hx⟩
  · exact .inl h
  · exact .inr ⟨g, off, cs, rfl, hg, hb.keep k (hn g rfl), hc, hx⟩
theorem Row1.lt (h : Row1 w base e v xs) : ∀ g, rowBlk v = some g → base ≤ g ∧ g < w.heap.size := by
  obtain ⟨A, cap, rfl, h1, h2, h⟩ := h
  rcases h with ⟨rfl, _⟩ | ⟨g, off, cs, rfl, hg, hb, hc, hx⟩
  · intro g hg; cases hg
  · intro g' hg'
    injection hg' with hg'
    subst hg'
    exact ⟨hg, hb.lt⟩
theorem Row1.reads (h : Row1 w base e v xs) : ∃ A cap, v = .slice A xs.length cap ∧ xs.length ≤ cap ∧ cap ≤ maxLen ∧ Reads w w.heap.size 1 A xs.length xs := by
  obtain ⟨A, cap, rfl, h1, h2, h⟩ := h
  refine ⟨A, cap, rfl, h1, h2, by simp, fun hn => ?_⟩
  rcases h with ⟨rfl, rfl, _⟩ | ⟨g, off, cs, rfl, hg, hb, hc, hx⟩
  · simp at hn
  · refine ⟨_, rfl, hb.lt, fun j u hu => ?_⟩
    have ea : (⟨g, off, none⟩ : Addr).add j = ⟨g, off + j, none⟩ := by unfold Addr.add; split <;> simp_all
    rw [ea, hb.cell]
    exact hx j u hu
theorem Row1.of_own {n : Nat} (h : w.ownsRow base e 1 v n xs) : Row1 w base e v xs := by
  have hl : xs.length = n := by have := h.1; omega
  subst hl
  rcases h.2 with ⟨rfl, h0⟩ | ⟨g, cap, cur, rfl, hb, hg, hnc, hcm, hcs, ht⟩
  · obtain rfl : xs = [] := List.eq_nil_of_length_eq_zero h0
    exact Row1.nil w base e
  · refine ⟨_, cap, rfl, hnc, hcm, .inr ⟨g, 0, cur, rfl, hb, hg, by omega, fun j u hu => ?_⟩⟩
    have hj : j < xs.length := (List.getElem?_eq_some_iff.1 hu).1
    rw [Nat.zero_add, ← hu, ← ht, List.getElem?_take, if_pos (by omega)]
    simp
theorem Row1.cut (h : Row1 w base e v xs) (k : Nat) (hk : k ≤ xs.length) : ∀ A n cap, v = .slice A n cap → Row1 w base e (.slice (if cap = k then A else A.map (·.add k)) (n - k) (cap - k)) (xs.drop k) := by
  intro A n cap hv
  obtain ⟨A', cap', rfl, h1, h2, h⟩ := h
  injection hv with e1 e2 e3
  subst e1 e2 e3
  refine ⟨_, _, by rw [List.length_drop], by rw [List.length_drop]; omega, by omega, ?_⟩
  rcases h with ⟨rfl, rfl, rfl⟩ | ⟨g, off, cs, rfl, hg, hb, hc, hx⟩
  · left
    refine ⟨by split <;> rfl, by simp, by omega⟩
  · right
    by_cases hck : cap' = k
    · rw [if_pos hck]
      refine ⟨g, off, cs, rfl, hg, hb, by omega, fun j u hu => ?_⟩
      rw [List.drop_of_length_le (by omega)] at hu
      simp at hu
    · rw [if_neg hck]
      refine ⟨g, off + k, cs, by simp [Addr.add], hg, hb, by omega, fun j u hu => ?_⟩
      rw [List.getElem?_drop] at hu
      rw [Nat.add_assoc]
      exact hx _ u hu
theorem blk_setCells {g : Nat} {t : TypeId} : ∀ (vs : List Value) (o : Nat) (w : World) (cs : Array Value), Blk w g t cs → ∃ cs', cs'.size = cs.size ∧ Blk (w.setCells g o vs) g t cs'
  | [], _, w, cs, h => ⟨cs, rfl, h⟩
  | v :: vs, o, w, cs, h => by
    obtain ⟨cs', h1, h2⟩ := blk_setCells vs (o + 1) (w.setCell ⟨g, o, none⟩ v) _ (h.set_ o v)
    exact ⟨cs', by simpa using h1, h2⟩
theorem keep_setCells {g : Nat} : ∀ (vs : List Value) (o : Nat) (w : World), Keep [g] w (w.setCells g o vs)
  | [], _, w => Keep.refl _ w
  | v :: vs, o, w => ((Keep.refl [g] w).setCell (p := ⟨g, o, none⟩) (.inl (by simp)) v).trans (keep_setCells vs (o + 1) _)
/-- append onto such a slice -/
theorem row_append (h : Row1 w base e v xs) (t ty : TypeId) (i : TypeInfo) (z : Value) (bytes : Nat) (ht : P.underlying t = some (.slice e)) (hi : P.info? e = some i) (hz : i.zero = some z)
    (hsize : i.size = 1) (hby : i.bytes = bytes) (hzs : z.cells.size = 1) {B : Nat} {A : Option Addr} {m c : Nat} {news : List Value} (hr : Reads w B 1 A m news) (h1 : ∀ u ∈ news, u.oneCell' = true)
    (h63 : xs.length + m ≤ maxLen) (hbytes : (xs.length + m) * bytes ≤ 140737488355328) (hbase : base ≤ w.heap.size) :
    ∃ v' w', (Builtin.append_ #[t, t] ty #[v, .slice A m c]).run P w = .ok v' w' ∧ Row1 w' base e v' (xs ++ news) ∧ Keep (rowBlk v).toList w w' ∧ (rowBlk v' = rowBlk v ∨ ∃ g, rowBlk v' = some g ∧ w.heap.size ≤ g) := by
  have hml : news.length = m := by have := hr.1; omega
  obtain ⟨A0, cap, rfl, hn, hc, hh⟩ := h
  rcases hh with ⟨rfl, rfl, rfl⟩ | ⟨g, off, cs, rfl, hg, hb, hcs, hx⟩
  · obtain ⟨v', w', hrun, h2, h3, h4⟩ := run_append_any (P := P) w base t ty e i z 1 bytes ht hi hz hsize hby hzs (by omega) (.slice none 0 0) 0 [] (World.ownsRow_nil _ _ _ _) B A m c news hr h1 (by simpa using h63) (by simpa using hbytes) hbase
    refine ⟨v', w', hrun, by simpa using Row1.of_own h2, Keep.of_grown h3, ?_⟩
    rcases h2.2 with ⟨rfl, _⟩ | ⟨g', cap', cur, rfl, hb', hg', _⟩
    · exact .inl rfl
    · right
      refine ⟨g', rfl, ?_⟩
      rcases h4 with h4 | h4
      · simp [Value.ownBlock] at h4
      · simp [Value.ownBlock] at h4; omega
  · cases A with
    | none =>
      have hm0 : m = 0 := by
        rcases Nat.eq_zero_or_pos m with h0 | h0
        · exact h0
        · obtain ⟨ad, h, _⟩ := hr.2 h0; cases h
      subst hm0
      obtain rfl : news = [] := List.eq_nil_of_length_eq_zero hml
      refine ⟨_, w, by simp [Builtin.append_, run_underlying ht, sizeOf, typeInfo, hi, Builtin.lenOf, Builtin.firstCells, hn, storeCells], ?_, Keep.refl _ w, .inl rfl⟩
      rw [List.append_nil]
      exact ⟨_, cap, rfl, hn, hc, .inr ⟨g, off, cs, rfl, hg, hb, hcs, hx⟩⟩
    | some ad =>
      have hnews : ∀ j u, news[j]? = some u → w.cell? (ad.add j) = some u := fun j u hu => by
        have hm : 0 < m := by have := (List.getElem?_eq_some_iff.1 hu).1; omega
        obtain ⟨ad', h, _, hcell⟩ := hr.2 hm
        injection h with h
        subst h
        exact hcell j u hu
      by_cases hroom : xs.length + m ≤ cap
      · have hsome : ∀ j, j < news.length → (w.cell? ⟨g, off + xs.length * i.size + j, none⟩).isSome = true := fun j hj => by
          rw [hb.cell, Array.getElem?_eq_getElem (by rw [hsize]; omega)]; rfl
        have hrun := run_append_room_cells (P := P) w t ty e i ht hi g off xs.length cap ad m c news (by rw [hsize]; omega) hnews h1 hroom hsome (fun j _ => hb.frozen _)
        refine ⟨_, _, hrun, ?_, keep_setCells _ _ _, .inl rfl⟩
        obtain ⟨cs', hs', hb'⟩ := blk_setCells news (off + xs.length * i.size) w cs hb
        refine ⟨_, cap, by rw [List.length_append, hml], by rw [List.length_append]; omega, hc, .inr ⟨g, off, cs', rfl, hg, hb', by omega, fun j u hu => ?_⟩⟩
        rw [← hb'.cell]
        by_cases hj : j < xs.length
        · rw [List.getElem?_append_left hj] at hu
          rw [World.cell?_setCells_out g news _ w ⟨g, off + j, none⟩ (fun _ _ => by rw [hsize]; simp; omega), hb.cell]
          exact hx j u hu
        · rw [List.getElem?_append_right (by omega)] at hu
          have hj2 := (List.getElem?_eq_some_iff.1 hu).1
          have h := World.cell?_setCells_in g news (off + xs.length * i.size) w hsome (j - xs.length) hj2
          rw [show off + xs.length * i.size + (j - xs.length) = off + j by rw [hsize]; omega] at h
          rw [h]
          rw [← hu, List.getElem?_eq_getElem hj2]
      · obtain ⟨v', w', hrun, h2, h3⟩ := run_append_arg_grows (P := P) w t ty e i z 1 bytes ht hi hz hsize hby hzs (by omega) ⟨g, off, none⟩ xs.length cap xs (by omega) (fun j u hu => by
          have ea : (⟨g, off, none⟩ : Addr).add j = ⟨g, off + j, none⟩ := by unfold Addr.add; split <;> simp_all
          rw [ea, hb.cell]; exact hx j u hu) ad m c news (by omega) hnews (by omega) h63 hbytes
        refine ⟨v', w', hrun, ?_, (Keep.of_grown h3).more (by simp), ?_⟩
        · have := Row1.of_own h2
          obtain ⟨A', cap', hv, a1, a2, a3⟩ := this
          refine ⟨A', cap', hv, a1, a2, ?_⟩
          rcases a3 with a3 | ⟨g', o', cs', b1, b2, b3⟩
          · exact .inl a3
          · exact .inr ⟨g', o', cs', b1, by omega, b3⟩
        · rcases h2.2 with ⟨rfl, h0⟩ | ⟨g', cap', cur, rfl, hb', hg', _⟩
          · omega
          · exact .inr ⟨g', rfl, hb'⟩
end
end Go.Proofs.Ytbngoaonkhcciaa
/-! #### Rng3 -/
set_option linter.all false
namespace Go.Proofs.Ytbngoaonkhcciaa
open Go.RowKit
section
variable {F : Fence} {n : Nat} {P : Program} {ops : Array Oper}
def gHolds (ops : Array Oper) (G : List (Nat × Bool)) (i : Nat) (tmps : Array Value) : Prop := ∀ b, G.lookup i = some b → yielded ops tmps i = some b
/-- the chain once more: an operation that its guard rules out leaves its slot undefined; what a guard asks of the chain is shown where the chain lists it -/
def wpTailG (F : Fence) (n : Nat) (P : Program) (ops : Array Oper) (G : List (Nat × Bool)) (S : World → Prop) (R : Act → World → Prop) : List (Nat × Bool) → Act → World → Prop
  | [], a, w => R a w
  | i :: rest, a, w => match ops[i.1]? with
    | none => False
    | some o => if Region.wanted o (yielded ops a.tmps) = true then o.wpIn F n P a w (fun a' w' => a'.defers = a.defers ∧ ((i.2 = true → S w') ∧ gHolds ops G i.1 a'.tmps) ∧ wpTailG F n P ops G S R rest a' w') (fun _ _ _ => False)
      else (∀ f, F.fn f) ∧ ((i.2 = true → S w) ∧ gHolds ops G i.1 (a.put o.dst undef).tmps) ∧ wpTailG F n P ops G S R rest (a.put o.dst undef) w
theorem yielded_tmps {a b : Act} {g : Nat} (h : ∀ d, (ops[g]?).bind (·.dst) = some d → a.tmps[d]? = b.tmps[d]?) : yielded ops a.tmps g = yielded ops b.tmps g := by
  unfold yielded
  cases hd : (ops[g]?).bind (·.dst) with
  | none => rfl
  | some d => simp only [Option.bind_some, h d hd]
theorem wanted_same {o : Oper} {y z : Nat → Option Bool} (h : ∀ g b, o.guard = some (g, b) → y g = z g) : Region.wanted o y = Region.wanted o z := by
  unfold Region.wanted
  cases hg : o.guard with
  | none => rfl
  | some g => obtain ⟨g, b⟩ := g; simp only [h g b hg]
theorem wanted_of {o : Oper} {y : Nat → Option Bool} (h : ∀ g b, o.guard = some (g, b) → y g = some b) : Region.wanted o y = true := by
  unfold Region.wanted
  cases hg : o.guard with
  | none => rfl
  | some g => obtain ⟨g, b⟩ := g; simp [h g b hg]
theorem tail_wanted {G : List (Nat × Bool)} {S : World → Prop} {R : Act → World → Prop} {i : Nat} {b : Bool} {rest : List (Nat × Bool)} {a : Act} {w : World} {o : Oper} (ho : ops[i]? = some o) (hw : Region.wanted o (yielded ops a.tmps) = true)
    (h : o.wpIn F n P a w (fun a' w' => a'.defers = a.defers ∧ ((b = true → S w') ∧ gHolds ops G i a'.tmps) ∧ wpTailG F n P ops G S R rest a' w') (fun _ _ _ => False)) : wpTailG F n P ops G S R ((i, b) :: rest) a w := by
  unfold wpTailG
  simp only [ho]
  rw [if_pos hw]
  exact h
theorem gHolds_none {G : List (Nat × Bool)} {i : Nat} {tmps : Array Value} (h : G.lookup i = none) : gHolds ops G i tmps := fun b hb => by rw [h] at hb; cases hb
end
end Go.Proofs.Ytbngoaonkhcciaa
/-! #### Rng4 -/
set_option linter.all false
namespace Go.Proofs.Ytbngoaonkhcciaa
open Go.RowKit
section
variable {F : Fence} {n : Nat} {P : Program} {ops : Array Oper}
end
end Go.Proofs.Ytbngoaonkhcciaa
/-! #### Rng5 -/
set_option linter.all false
namespace Go.Proofs.Ytbngoaonkhcciaa
open Go.RowKit
section
variable {F : Fence} {n : Nat} {P : Program} {ops : Array Oper}
/-- the operation gives v and leaves the world alone -/
def GivesV (F : Fence) (n : Nat) (P : Program) (A0 : Act) (o : Oper) (W : World) (v : Value) : Prop := o.wpIn F n P A0 W (fun a' w' => a'.defers = A0.defers ∧ (a' = A0.put o.dst v ∧ W = w')) (fun _ _ _ => False)
def evOkC (F : Fence) (n : Nat) (P : Program) (ops : Array Oper) (A0 : Act) (S : World → Prop) : List (Nat × Value) → Prop
  | [] => True
  | p :: r => (match ops[p.1]? with
    | some o => ∀ W, S W → GivesV F n P A0 o W p.2
    | none => False) ∧ evOkC F n P ops A0 S r
theorem evOkC_all {A0 : Act} {S : World → Prop} : ∀ Ev, evOkC F n P ops A0 S Ev → ∀ p ∈ Ev, ∀ o, ops[p.1]? = some o → ∀ W, S W → GivesV F n P A0 o W p.2
  | [], _, _, hp => by cases hp
  | q :: r, h, p, hp => by
    rcases List.mem_cons.1 hp with rfl | hp
    · intro o ho
      have h1 := h.1
      simp only [ho] at h1
      exact h1
    · exact evOkC_all r h.2 p hp
theorem put_same {a b : Act} {v u : Value} {o : Option Tmp} {d : Tmp} (hd : o = some d) (h : b.put o v = b.put o u) (hs : a.tmps.size = b.tmps.size) : a.put o v = a.put o u := by
  subst hd
  by_cases hlt : d < b.tmps.size
  · have := congrArg (fun x => x.tmps[d]?) h
    simp only [put_get, if_true, if_pos hlt] at this
    injection this with this
    rw [this]
  · simp only [Act.put]
    rw [Array.setIfInBounds_eq_of_size_le (by rw [hs]; exact Nat.le_of_not_lt hlt), Array.setIfInBounds_eq_of_size_le (by rw [hs]; exact Nat.le_of_not_lt hlt)]
/-- what a read gives -/
theorem gives_read {A0 : Act} {o : Oper} {W : World} {v : Value} (hr : readOp o.op = true) (h : (execOp A0.eval o).run P W = .ok (.value v) W) : GivesV F n P A0 o W v := by
  unfold GivesV Oper.wpIn
  rw [Oper.semAt_eq _ _ _ (noDefer_read hr), h, about_read hr]
  refine ⟨fun f hf => (by cases hf), ?_⟩
  rw [Oper.uponIn_value]
  exact ⟨put_defers _ _ _, rfl, rfl⟩
/-- the closed facts: every operation is a read or of the chain; a read's slot is its own; what hangs on it says so -/
def rtChkC (ops : Array Oper) (E T : List Nat) (G : List (Nat × Bool)) : Bool :=
  (List.range ops.size).all (fun i => E.contains i || T.contains i) &&
  E.all (fun i => match ops[i]? with
    | none => false
    | some o => (match o.guard with | none => true | some (g, b) => G.lookup g == some b && T.contains g && depsOn o g && (T.all fun j => j == g || (ops[j]?).bind (·.dst) != (ops[g]?).bind (·.dst))) && o.dst.isSome && tailOp o.op && !T.contains i && (E.all fun j => j == i || (ops[j]?).bind (·.dst) != o.dst) && (T.all fun j => (ops[j]?).bind (·.dst) != o.dst) &&
      (opTmps o).all (fun t => (E.all fun j => (ops[j]?).bind (·.dst) != some t || depsOn o j) && (T.all fun j => (ops[j]?).bind (·.dst) != some t || (match ops[j]? with | some q => depsOn q i | none => false)))) &&
  T.all (fun i => match ops[i]? with
    | none => false
    | some o => (match o.guard with | none => true | some (g, _) => T.contains g) && tailOp o.op && (opTmps o).all (fun t => E.all fun j => (ops[j]?).bind (·.dst) != some t || depsOn o j)) &&
  (List.range (T.length - 1)).all (fun k => match T[k]?, (T[k + 1]?).bind (ops[·]?) with
    | some i, some o => depsOn o i
    | _, _ => false) &&
  (List.range ops.size).all (fun i => match ops[i]? with
    | none => true
    | some o => o.after.all fun e => !Region.binds .any e || decide (e.on < i)) &&
  decide T.Nodup
structure RtOkC (ops : Array Oper) (E T : List Nat) (G : List (Nat × Bool)) : Prop where
  all : ∀ i, i < ops.size → i ∈ E ∨ i ∈ T
  e : ∀ i ∈ E, ∃ o d, ops[i]? = some o ∧ o.dst = some d ∧ (∀ g b, o.guard = some (g, b) → G.lookup g = some b ∧ g ∈ T ∧ depsOn o g = true ∧ ∀ j ∈ T, j = g ∨ (ops[j]?).bind (·.dst) ≠ (ops[g]?).bind (·.dst)) ∧ tailOp o.op = true ∧ i ∉ T ∧
    (∀ j ∈ E, j = i ∨ (ops[j]?).bind (·.dst) ≠ some d) ∧ (∀ j ∈ T, (ops[j]?).bind (·.dst) ≠ some d) ∧
    (∀ t ∈ opTmps o, (∀ j ∈ E, (ops[j]?).bind (·.dst) ≠ some t ∨ depsOn o j = true) ∧ ∀ j ∈ T, (ops[j]?).bind (·.dst) ≠ some t ∨ ∃ q, ops[j]? = some q ∧ depsOn q i = true)
  t : ∀ i ∈ T, ∃ o, ops[i]? = some o ∧ (∀ g b, o.guard = some (g, b) → g ∈ T) ∧ tailOp o.op = true ∧ ∀ t ∈ opTmps o, ∀ j ∈ E, (ops[j]?).bind (·.dst) ≠ some t ∨ depsOn o j = true
  chain : ∀ k i j, T[k]? = some i → T[k + 1]? = some j → ∃ o, ops[j]? = some o ∧ depsOn o i = true
  down : ∀ i o, ops[i]? = some o → ∀ e ∈ o.after, Region.binds .any e = true → e.on < i
  nodup : T.Nodup
theorem rtOkC {E T : List Nat} {G : List (Nat × Bool)} (h : rtChkC ops E T G = true) : RtOkC ops E T G := by
  simp only [rtChkC, Bool.and_eq_true, decide_eq_true_eq] at h
  obtain ⟨⟨⟨⟨⟨h1, h2⟩, h3⟩, h4⟩, h5⟩, h6⟩ := h
  refine ⟨fun i hi => ?_, fun i hi => ?_, fun i hi => ?_, fun k i j hk hj => ?_, fun i o ho e he hb => ?_, h6⟩
  · have := List.all_eq_true.1 h1 i (List.mem_range.2 hi)
    simpa using this
  · have := List.all_eq_true.1 h2 i hi
    cases ho : ops[i]? with
    | none => simp [ho] at this
    | some o =>
      simp only [ho] at this
      simp only [Bool.and_eq_true, Bool.or_eq_true, List.all_eq_true, bne_iff_ne, beq_iff_eq, ne_eq, Bool.not_eq_true', List.contains_eq_mem, decide_eq_false_iff_not] at this
      obtain ⟨⟨⟨⟨⟨⟨hg, hd⟩, hr⟩, hT⟩, hE⟩, hTd⟩, hops⟩ := this
      obtain ⟨d, hd⟩ := Option.isSome_iff_exists.1 hd
      rw [hd] at hE hTd
      refine ⟨o, d, rfl, hd, fun g b hgb => ?_, hr, hT, hE, hTd, fun t ht => ⟨(hops t ht).1, fun j hj => ?_⟩⟩
      rotate_left
      · rcases (hops t ht).2 j hj with h | h
        · exact .inl h
        · right
          cases hq : ops[j]? with
          | none => rw [hq] at h; simp at h
          | some q => rw [hq] at h; exact ⟨q, rfl, h⟩
      rw [hgb] at hg
      simp only [Bool.and_eq_true, Bool.or_eq_true, List.all_eq_true, bne_iff_ne, beq_iff_eq, ne_eq, List.contains_eq_mem, decide_eq_true_eq] at hg
      exact ⟨hg.1.1.1, hg.1.1.2, hg.1.2, hg.2⟩
  · have := List.all_eq_true.1 h3 i hi
    cases ho : ops[i]? with
    | none => simp [ho] at this
    | some o =>
      simp only [ho] at this
      simp only [Bool.and_eq_true, Bool.or_eq_true, List.all_eq_true, bne_iff_ne, ne_eq] at this
      obtain ⟨⟨hg, ht⟩, hops⟩ := this
      refine ⟨o, rfl, fun g b hgb => ?_, ht, hops⟩
      rw [hgb] at hg
      simpa using hg
  · have hl : k + 1 < T.length := (List.getElem?_eq_some_iff.1 hj).1
    have := List.all_eq_true.1 h4 k (List.mem_range.2 (by omega))
    rw [hk, hj] at this
    cases ho : ops[j]? with
    | none => simp [ho] at this
    | some o => exact ⟨o, rfl, by simpa [ho] using this⟩
  · have hi : i < ops.size := (Array.getElem?_eq_some_iff.1 ho).1
    have := List.all_eq_true.1 h5 i (List.mem_range.2 hi)
    simp only [ho] at this
    have := Array.all_eq_true'.1 this e he
    simpa [hb] using this
structure RtInvC (ops : Array Oper) (G : List (Nat × Bool)) (Ev : List (Nat × Value)) (T : List Nat) (A0 a A : Act) (k : Nat) (listed : Array Bool) : Prop where
  fed : ∀ i o, listed.getD i false = true → ops[i]? = some o → ∀ e ∈ o.after, Region.binds .any e = true → listed.getD e.on false = true
  size : listed.size = ops.size
  tmps : a.tmps.size = A.tmps.size
  defers : a.defers = A.defers
  free : ∀ t : Nat, (∀ p ∈ Ev, (ops[p.1]?).bind (·.dst) ≠ some t) → a.tmps[t]? = A.tmps[t]?
  done : ∀ t : Nat, ∀ p ∈ Ev, (ops[p.1]?).bind (·.dst) = some t → listed.getD p.1 false = true → a.tmps[t]? = A.tmps[t]?
  held : ∀ t : Nat, ∀ p ∈ Ev, (ops[p.1]?).bind (·.dst) = some t → A.tmps[t]? = if t < A.tmps.size then some p.2 else none
  base : ∀ t : Nat, (∀ m j, m < k → T[m]? = some j → (ops[j]?).bind (·.dst) ≠ some t) → A.tmps[t]? = A0.tmps[t]?
  past : ∀ m i, m < k → T[m]? = some i → listed.getD i false = true
  next : ∀ m i, k ≤ m → T[m]? = some i → listed.getD i true = false
  gs : ∀ g b, G.lookup g = some b → (∀ j ∈ T, j = g ∨ (ops[j]?).bind (·.dst) ≠ (ops[g]?).bind (·.dst)) → g ∈ T → listed.getD g false = true → yielded ops A.tmps g = some b
  sz0 : A.tmps.size = A0.tmps.size
theorem rt_finC {Q : Exit → Act → World → Prop} {S : World → Prop} {Ev : List (Nat × Value)} {T : List (Nat × Bool)} {A0 : Act} {G : List (Nat × Bool)} (ok : RtOkC ops (Ev.map (·.1)) (T.map (·.1)) G) {k : Nat} {listed : Array Bool} {a A : Act} {w : World}
    (inv : RtInvC ops G Ev (T.map (·.1)) A0 a A k listed) (hr : Region.ready .any ops listed = []) (h : wpTailG F n P ops G S (fun a w => Q .normal a w) (T.drop k) A w) : Q .normal a w := by
  have all := ready_nil ok.down hr
  have hT : T.drop k = [] := by
    cases hd : T.drop k with
    | nil => rfl
    | cons i r =>
      have hi : (T.map (·.1))[k]? = some i.1 := by have := congrArg (·[0]?) hd; simp at this; simp [this]
      obtain ⟨o, ho, _⟩ := ok.t i.1 (List.mem_of_getElem? hi)
      have h1 := inv.next k i.1 (Nat.le_refl _) hi
      rw [all i.1 (Array.getElem?_eq_some_iff.1 ho).1] at h1
      cases h1
  have hA : a = A := act_ext inv.defers fun t => by
    by_cases hx : ∃ p ∈ Ev, (ops[p.1]?).bind (·.dst) = some t
    · obtain ⟨p, hp, ht⟩ := hx
      refine inv.done t p hp ht ?_
      obtain ⟨o, d, ho, _⟩ := ok.e p.1 (List.mem_map.2 ⟨p, hp, rfl⟩)
      have hlt := (Array.getElem?_eq_some_iff.1 ho).1
      have := all p.1 hlt
      rw [← inv.size] at hlt
      simpa [hlt] using this
    · exact inv.free t fun p hp ht => hx ⟨p, hp, ht⟩
  rw [hT] at h
  rw [hA]; exact h
theorem rt_stepC {G : List (Nat × Bool)} {Q : Exit → Act → World → Prop} {S : World → Prop} {Ev : List (Nat × Value)} {T : List (Nat × Bool)} {A0 : Act} (ok : RtOkC ops (Ev.map (·.1)) (T.map (·.1)) G)
    (hE : ∀ p ∈ Ev, ∀ o, ops[p.1]? = some o → ∀ W, S W → GivesV F n P A0 o W p.2) (hD : rtDue ops (Ev.map (·.1)) T = true) :
    ∀ (fuel k : Nat) (listed : Array Bool) (a A : Act) (w : World), toGo ops.size listed ≤ fuel → RtInvC ops G Ev (T.map (·.1)) A0 a A k listed → ((∀ p ∈ Ev, listed.getD p.1 false = true) ∨ S w) →
      wpTailG F n P ops G S (fun a w => Q .normal a w) (T.drop k) A w → wpAnyIn F n P .any ops Q fuel listed a w := by
  have hfree : ∀ {k : Nat} {listed : Array Bool} {a A : Act}, RtInvC ops G Ev (T.map (·.1)) A0 a A k listed → ∀ g, g ∈ T.map (·.1) → yielded ops a.tmps g = yielded ops A.tmps g := fun inv g hg => yielded_tmps fun d hd => inv.free d fun p hp ht => by
    obtain ⟨o2, d2, ho2, hd2, _, _, _, _, hTd, _⟩ := ok.e p.1 (List.mem_map.2 ⟨p, hp, rfl⟩)
    rw [ho2] at ht
    simp only [Option.bind_some] at ht
    have := hTd g hg
    rw [hd, ← hd2, ht] at this
    exact this rfl
  intro fuel
  induction fuel with
  | zero =>
    intro k listed a A w hg inv hS h
    have hr : Region.ready .any ops listed = [] := by
      cases hr : Region.ready .any ops listed with
      | nil => rfl
      | cons i r =>
        obtain ⟨h0, o, ho, _⟩ := mem_ready.1 (show i ∈ Region.ready .any ops listed by rw [hr]; simp)
        have := toGo_set (Array.getElem?_eq_some_iff.1 ho).1 inv.size h0
        omega
    exact ⟨hr, rt_finC ok inv hr h⟩
  | succ fuel ih =>
    intro k listed a A w hg inv hS h
    refine ⟨fun hr => rt_finC ok inv hr h, fun i hi => ?_⟩
    obtain ⟨h0, o, ho, hall⟩ := mem_ready.1 hi
    have hlt := (Array.getElem?_eq_some_iff.1 ho).1
    have hgo := toGo_set hlt inv.size h0
    have h0' : listed.getD i false = false := getD_both h0
    unfold wpOpIn
    simp only [ho]
    by_cases hiT : i ∈ T.map (·.1)
    · obtain ⟨o', ho', hg1, ht1, hops⟩ := ok.t i hiT
      obtain rfl : o' = o := Option.some.inj (ho'.symm.trans ho)
      obtain ⟨m, hm⟩ := List.mem_iff_getElem?.1 hiT
      have hk : m = k := by
        rcases Nat.lt_trichotomy m k with hlt' | heq | hgt
        · have := inv.past m i hlt' hm; rw [h0'] at this; cases this
        · exact heq
        · obtain ⟨m', rfl⟩ : ∃ m', m = m' + 1 := ⟨m - 1, by omega⟩
          have hml : m' + 1 < (T.map (·.1)).length := (List.getElem?_eq_some_iff.1 hm).1
          have hm' : (T.map (·.1))[m']? = some (T.map (·.1))[m'] := by rw [List.getElem?_eq_getElem]
          obtain ⟨o2, ho2, hdep⟩ := ok.chain m' _ _ hm' hm
          obtain rfl : o2 = o' := Option.some.inj (ho2.symm.trans ho)
          have hlis := depsOn_listed hdep hall
          have := inv.next m' _ (by omega) hm'
          rw [getD_both this] at hlis; cases hlis
      subst hk
      obtain ⟨b, hb⟩ : ∃ b, T[m]? = some (i, b) := by
        rw [List.getElem?_map] at hm
        cases hx : T[m]? with
        | none => rw [hx] at hm; cases hm
        | some x => rw [hx] at hm; obtain rfl := Option.some.inj hm; exact ⟨x.2, rfl⟩
      have hml : m < T.length := (List.getElem?_eq_some_iff.1 hb).1
      have hdrop : T.drop m = (i, b) :: T.drop (m + 1) := by
        rw [List.drop_eq_getElem_cons hml]
        congr 1
        simpa [List.getElem?_eq_getElem hml] using hb
      rw [hdrop] at h
      unfold wpTailG at h
      simp only [ho] at h
      have hwant : Region.wanted o' (yielded ops a.tmps) = Region.wanted o' (yielded ops A.tmps) := wanted_same fun g b hgb => hfree inv g (hg1 g b hgb)
      rw [hwant]
      have cont : ∀ v w', (((b = true → S w') ∧ gHolds ops G i (A.put o'.dst v).tmps) ∧ wpTailG F n P ops G S (fun a w => Q .normal a w) (T.drop (m + 1)) (A.put o'.dst v) w') → wpAnyIn F n P .any ops Q fuel (listed.setIfInBounds i true) (a.put o'.dst v) w' := by
        rintro v w' ⟨⟨hS', hG⟩, h'⟩
        have hdd : ∀ d, o'.dst = some d → ∀ p ∈ Ev, (ops[p.1]?).bind (·.dst) ≠ some d := fun d hd p hp ht => by
          obtain ⟨o2, d2, ho2, hd2, _, _, _, _, hTd, _⟩ := ok.e p.1 (List.mem_map.2 ⟨p, hp, rfl⟩)
          rw [ho2] at ht
          simp only [Option.bind_some] at ht
          have := hTd i hiT
          rw [ho] at this
          simp only [Option.bind_some] at this
          rw [hd, ← hd2, ht] at this
          exact this rfl
        have hget : ∀ (b : Act) t, (b.put o'.dst v).tmps[t]? = match o'.dst with | some d => if d = t then (if t < b.tmps.size then some v else none) else b.tmps[t]? | none => b.tmps[t]? := fun b t => by
          cases hd : o'.dst with
          | none => rfl
          | some d => exact put_get b d v t
        have fed := fed_set ho hall inv.fed
        refine ih (m + 1) _ _ _ w' (by omega) ⟨fed, by simp [inv.size], by rw [put_size, put_size]; exact inv.tmps, by rw [put_defers, put_defers]; exact inv.defers, fun t ht => ?_, fun t p hp ht hl => ?_, fun t p hp ht => ?_, fun t ht => ?_, fun m' j hm' hj => ?_, fun m' j hm' hj => ?_, fun g b' hgb hdist hgT hl => ?_, by rw [put_size]; exact inv.sz0⟩ (by
          cases b with
          | true => exact .inr (hS' rfl)
          | false =>
            refine .inl fun p hp => ?_
            have h2 := List.all_eq_true.1 hD m (List.mem_range.2 hml)
            rw [hb] at h2
            have h3 := List.all_eq_true.1 h2 p.1 (List.mem_map.2 ⟨p, hp, rfl⟩)
            obtain ⟨j, hj, hdep⟩ := List.any_eq_true.1 h3
            obtain ⟨m', hm'⟩ := List.mem_iff_getElem?.1 hj
            rw [List.getElem?_take] at hm'
            split at hm'
            · rename_i hlt'
              refine waits_listed fed _ _ _ hdep ?_
              rcases Nat.lt_or_ge m' m with hlt'' | hge
              · exact getD_set_true (inv.past m' j.1 hlt'' (by rw [List.getElem?_map, hm']; rfl))
              · obtain rfl : m' = m := by omega
                rw [hb] at hm'
                obtain rfl := Option.some.inj hm'
                have : i < listed.size := by rw [inv.size]; exact hlt
                simp [this]
            · cases hm') h'
        · rw [hget, hget, inv.free t ht, inv.tmps]
        · have hne : ∀ d, o'.dst = some d → d ≠ t := fun d hd e => hdd d hd p hp (e ▸ ht)
          have hpi : i ≠ p.1 := fun e => by
            obtain ⟨_, _, _, _, _, _, hnT, _⟩ := ok.e p.1 (List.mem_map.2 ⟨p, hp, rfl⟩)
            exact hnT (e ▸ hiT)
          rw [getD_set_ne false hpi] at hl
          have := inv.done t p hp ht hl
          rw [hget, hget]
          cases hd : o'.dst with
          | none => exact this
          | some d => simp only [if_neg (hne d hd)]; exact this
        · have hne : ∀ d, o'.dst = some d → d ≠ t := fun d hd e => hdd d hd p hp (e ▸ ht)
          have := inv.held t p hp ht
          rw [hget, put_size]
          cases hd : o'.dst with
          | none => exact this
          | some d => simp only [if_neg (hne d hd)]; exact this
        · have hne : ∀ d, o'.dst = some d → d ≠ t := fun d hd e => ht m i (by omega) hm (by rw [ho]; simp [hd, e])
          have := inv.base t (fun m' j h1 h2 => ht m' j (by omega) h2)
          rw [hget]
          cases hd : o'.dst with
          | none => exact this
          | some d => simp only [if_neg (hne d hd)]; exact this
        · rcases Nat.lt_or_ge m' m with hlt' | hge
          · exact getD_set_true (inv.past m' j hlt' hj)
          · obtain rfl : m' = m := by omega
            obtain rfl : j = i := Option.some.inj (hj.symm.trans hm)
            have : j < listed.size := by rw [inv.size]; exact hlt
            simp [this]
        · have hne : i ≠ j := fun e => by
            subst e
            have h1 : m < (T.map (·.1)).length := (List.getElem?_eq_some_iff.1 hm).1
            have h2 : m' < (T.map (·.1)).length := (List.getElem?_eq_some_iff.1 hj).1
            refine List.pairwise_iff_getElem.1 ok.nodup m m' h1 h2 (by omega) ?_
            rw [List.getElem?_eq_getElem h1] at hm; rw [List.getElem?_eq_getElem h2] at hj
            rw [Option.some.inj hm, Option.some.inj hj]
          rw [getD_set_ne true hne]
          exact inv.next m' j (by omega) hj
        · by_cases hgi : g = i
          · subst hgi
            exact hG b' hgb
          · rw [getD_set_ne false (Ne.symm hgi)] at hl
            have hne := (hdist i hiT).resolve_left (Ne.symm hgi)
            rw [← inv.gs g b' hgb hdist hgT hl]
            refine yielded_tmps fun d hd => ?_
            rw [hget]
            rw [ho, hd] at hne
            simp only [Option.bind_some] at hne
            cases hdo : o'.dst with
            | none => rfl
            | some d2 =>
              rw [hdo] at hne
              have : d2 ≠ d := fun e => hne (by rw [e])
              simp only [if_neg this]
      split at h
      · rename_i hw1
        rw [if_pos hw1]
        refine wpIn_transfer (K' := fun a' w' => ((b = true → S w') ∧ gHolds ops G i a'.tmps) ∧ wpTailG F n P ops G S (fun a w => Q .normal a w) (T.drop (m + 1)) a' w') (fun x hx => eval_of_tmps fun t hxt => ?_) ht1 h cont
        subst hxt
        by_cases hex : ∃ p ∈ Ev, (ops[p.1]?).bind (·.dst) = some t
        · obtain ⟨p, hp, ht⟩ := hex
          refine inv.done t p hp ht ?_
          rcases hops t (opTmps_mem hx) p.1 (List.mem_map.2 ⟨p, hp, rfl⟩) with hne | hdep
          · exact absurd ht hne
          · exact depsOn_listed hdep hall
        · exact inv.free t fun p hp ht => hex ⟨p, hp, ht⟩
      · rename_i hw1
        rw [if_neg hw1]
        exact ⟨fun f _ => h.1 f, cont _ _ h.2⟩
    · have hiE : i ∈ Ev.map (·.1) := (ok.all i hlt).resolve_right hiT
      obtain ⟨o', d, ho', hd, hg1, hread, _, hEd, hTd, hops⟩ := ok.e i hiE
      obtain rfl : o' = o := Option.some.inj (ho'.symm.trans ho)
      obtain ⟨p, hp, rfl⟩ := List.mem_map.1 hiE
      rw [if_pos (wanted_of fun g b hgb => by
        obtain ⟨h1, h2, h3, h4⟩ := hg1 g b hgb
        rw [hfree inv g h2]
        exact inv.gs g b h1 h4 h2 (depsOn_listed h3 hall))]
      have hev : ∀ x ∈ o'.op.operands, a.eval x = A0.eval x := fun x hx => eval_of_tmps fun t hxt => by
        subst hxt
        obtain ⟨h1, h2⟩ := hops t (opTmps_mem hx)
        rw [← inv.base t (fun m j hmk hTm => by
          rcases h2 j (List.mem_of_getElem? hTm) with h | ⟨q, hq, hd'⟩
          · exact h
          · have hlj := inv.past m j hmk hTm
            have := depsOn_listed hd' (inv.fed j q hlj hq)
            rw [h0'] at this
            cases this)]
        by_cases hex : ∃ p ∈ Ev, (ops[p.1]?).bind (·.dst) = some t
        · obtain ⟨q, hq, ht⟩ := hex
          refine inv.done t q hq ht ?_
          rcases h1 q.1 (List.mem_map.2 ⟨q, hq, rfl⟩) with hne | hdep
          · exact absurd ht hne
          · exact depsOn_listed hdep hall
        · exact inv.free t fun q hq ht => hex ⟨q, hq, ht⟩
      replace hS : S w := hS.resolve_left fun hl => by have := hl p hp; rw [h0'] at this; cases this
      have hpd : (ops[p.1]?).bind (·.dst) = some d := by rw [ho]; exact hd
      refine wpIn_transfer hev hread (hE p hp _ ho w hS) (fun v w' hk => ?_)
      obtain ⟨hput, rfl⟩ := hk
      rw [put_same (by rw [hd]) hput (by rw [inv.tmps, inv.sz0]), hd]
      refine ih k _ _ A w (by omega) ⟨fed_set ho hall inv.fed, by simp [inv.size], by rw [put_size]; exact inv.tmps, by rw [put_defers]; exact inv.defers, fun t ht => ?_, fun t q hq ht hl => ?_, inv.held, inv.base, fun m' j hm' hj => getD_set_true (inv.past m' j hm' hj), fun m' j hm' hj => ?_, fun g b' hgb hdist hgT hl => inv.gs g b' hgb hdist hgT (by rwa [getD_set_ne false (fun e => hiT (by rw [e]; exact hgT))] at hl), inv.sz0⟩ (.inr hS) h
      · have hne : d ≠ t := fun e => ht p hp (e ▸ hpd)
        rw [put_get, if_neg hne]; exact inv.free t ht
      · rw [put_get]
        by_cases hdt : d = t
        · subst hdt
          rw [if_pos rfl, inv.held d p hp hpd, inv.tmps]
        · rw [if_neg hdt]
          have hpq : p.1 ≠ q.1 := fun e => hdt (by rw [← e, hpd] at ht; exact Option.some.inj ht)
          rw [getD_set_ne false hpq] at hl
          exact inv.done t q hq ht hl
      · have hne : p.1 ≠ j := fun e => hiT (e ▸ List.mem_of_getElem? hj)
        rw [getD_set_ne true hne]; exact inv.next m' j hm' hj
/-- all that is closed -/
def rtAllC (ops : Array Oper) (E : List Nat) (T : List (Nat × Bool)) (G : List (Nat × Bool)) : Bool := rtChkC ops E (T.map (·.1)) G && rtDue ops E T && decide E.Nodup
/-- a region that draws its order: reads that may come at any time, beside one chain -/
theorem region_rtc {Q : Exit → Act → World → Prop} {id : Nat} {a : Act} {w : World} (T : List (Nat × Bool)) (G : List (Nat × Bool)) (Ev : List (Nat × Value)) (S : World → Prop) (hm : P.follows .mixedOrders = true)
    (hB : rtAllC ops (Ev.map (·.1)) T G = true) (hS : S w.drew)
    (hE : evOkC F n P ops (putAll ops a Ev) S Ev)
    (hT : wpTailG F n P ops G S (fun a w => Q .normal a w) T (putAll ops a Ev) w.drew) : (Code.region id ops true).wpIn F n P Q a w := by
  unfold rtAllC at hB
  simp only [Bool.and_eq_true, decide_eq_true_eq] at hB
  obtain ⟨⟨hB1, hB2⟩, hnd⟩ := hB
  have ok := rtOkC hB1
  refine wpIn_region_any hm (rt_stepC ok (evOkC_all Ev hE) hB2 _ 0 _ a (putAll ops a Ev) _ ?_ ⟨fun i o hl => (by rw [getD_replicate_false] at hl; cases hl), by simp, (putAll_size Ev a).symm, (putAll_defers Ev a).symm, fun t ht => (putAll_free Ev a t ht).symm, fun t p _ _ hl => (by rw [getD_replicate_false] at hl; cases hl), fun t p hp ht => ?_, fun t _ => rfl, fun m i hm => absurd hm (Nat.not_lt_zero m), fun m i _ hi => ?_, fun g b _ _ _ hl => (by rw [getD_replicate_false] at hl; cases hl), rfl⟩ (.inr hS) (by simpa using hT))
  · unfold toGo
    exact Nat.le_trans List.countP_le_length (by simp)
  · rw [putAll_size]
    refine putAll_held Ev a t p hp hnd (fun q hq => ?_) ht
    obtain ⟨o, d, ho, hd, _, _, _, hu, _⟩ := ok.e p.1 (List.mem_map.2 ⟨p, hp, rfl⟩)
    rw [ho] at ht
    simp only [Option.bind_some] at ht
    rw [hd] at ht
    obtain rfl := Option.some.inj ht
    exact hu q.1 (List.mem_map.2 ⟨q, hq, rfl⟩)
  · obtain ⟨o, ho, _⟩ := ok.t i (List.mem_of_getElem? hi)
    exact getD_in (by simpa using (Array.getElem?_eq_some_iff.1 ho).1) (getD_replicate_false _ _)
end
end Go.Proofs.Ytbngoaonkhcciaa
/-! #### Clone -/
set_option linter.all false
namespace Go.Proofs.Ytbngoaonkhcciaa
open Go.ChangeShapes Go.WideShapes Go.ChangeAt Go.RowKit
attribute [local go_sem] setCell_drewN alloc_drewN
section
variable {P : Program} (w : World)
theorem wp_append_row {o : Oper} {a : Act} {K : Act → World → Prop} {Q : Exit → Act → World → Prop} (s x : Operand) (t : TypeId)
    (ho : o.op = .call { callee := .builtin .append, args := #[s, x], argTypes := #[t, t] })
    (base : Nat) (e : TypeId) (i : TypeInfo) (z : Value) (bytes : Nat) (ht : P.underlying t = some (.slice e)) (hi : P.info? e = some i) (hz : i.zero = some z)
    (hsize : i.size = 1) (hby : i.bytes = bytes) (hzs : z.cells.size = 1)
    (v : Value) (xs : List Value) (hs : a.eval s = v) (hown : Row1 w base e v xs)
    (B : Nat) (A : Option Addr) (m c : Nat) (news : List Value) (hx : a.eval x = .slice A m c) (hr : Reads w B 1 A m news) (h1 : ∀ u ∈ news, u.oneCell' = true)
    (h63 : xs.length + m ≤ maxLen) (hbytes : (xs.length + m) * bytes ≤ 140737488355328) (hbase : base ≤ w.heap.size)
    (h : ∀ v' w', Row1 w' base e v' (xs ++ news) → Keep (rowBlk v).toList w w' → (rowBlk v' = rowBlk v ∨ ∃ g, rowBlk v' = some g ∧ w.heap.size ≤ g) → K (a.put o.dst v') w') : o.wp P a w K Q := by
  obtain ⟨v', w', hrun, h2, h3, h4⟩ := row_append (P := P) hown t o.type i z bytes ht hi hz hsize hby hzs hr (c := c) h1 h63 hbytes hbase
  unfold Oper.wp execOp
  simp only [ho, resolve, invoke, builtin, Sem.run_bind, Sem.run_pure, Result.andThen_ok, List.map_toArray, List.map_cons, List.map_nil, hs, hx, hrun]
  exact h v' w' h2 h3 h4
theorem wpList_append_row {ops : Array Oper} {rest : List Oper} {o : Oper} {a : Act} {Q : Exit → Act → World → Prop} (hgd : o.guard = none) (s x : Operand) (t : TypeId)
    (ho : o.op = .call { callee := .builtin .append, args := #[s, x], argTypes := #[t, t] })
    (base : Nat) (e : TypeId) (i : TypeInfo) (z : Value) (bytes : Nat) (ht : P.underlying t = some (.slice e)) (hi : P.info? e = some i) (hz : i.zero = some z)
    (hsize : i.size = 1) (hby : i.bytes = bytes) (hzs : z.cells.size = 1)
    (v : Value) (xs : List Value) (hs : a.eval s = v) (hown : Row1 w base e v xs)
    (B : Nat) (A : Option Addr) (m c : Nat) (news : List Value) (hx : a.eval x = .slice A m c) (hr : Reads w B 1 A m news) (h1 : ∀ u ∈ news, u.oneCell' = true)
    (h63 : xs.length + m ≤ maxLen) (hbytes : (xs.length + m) * bytes ≤ 140737488355328) (hbase : base ≤ w.heap.size)
    (h : ∀ v' w', Row1 w' base e v' (xs ++ news) → Keep (rowBlk v).toList w w' → (rowBlk v' = rowBlk v ∨ ∃ g, rowBlk v' = some g ∧ w.heap.size ≤ g) → wpList P ops Q rest (a.put o.dst v') w') : wpList P ops Q (o :: rest) a w :=
  wpList_plain hgd fun _ hK => wp_append_row w s x t ho base e i z bytes ht hi hz hsize hby hzs v xs hs hown B A m c news hx hr h1 h63 hbytes hbase fun v' w' h2 h3 h4 => hK _ _ (h v' w' h2 h3 h4)
end
theorem u8_info : ∃ i z, Try.prog.info? 5 = some i ∧ i.zero = some z ∧ i.size = 1 ∧ i.bytes = 1 ∧ z.cells.size = 1 := by
  obtain ⟨i, hi⟩ : ∃ i, Try.prog.info? 5 = some i := Option.isSome_iff_exists.1 (by kernel_rfl)
  have h : (Try.prog.info? 5).map (fun i => (i.size, i.bytes, i.zero.map (·.cells.size))) = some (1, 1, some 1) := by kernel_rfl
  rw [hi] at h
  simp only [Option.map_some, Option.some.injEq, Prod.mk.injEq] at h
  obtain ⟨h1, h2, h3⟩ := h
  cases hz : i.zero with
  | none => rw [hz] at h3; simp at h3
  | some z =>
    rw [hz] at h3
    exact ⟨i, z, hi, hz, h1, h2, by simpa using h3⟩
theorem Row1.empty (w : World) (e : TypeId) : Row1 (w.alloc (.cells #[] e)) w.heap.size e (.slice (some ⟨w.heap.size, 0, none⟩) 0 0) [] :=
  ⟨_, 0, rfl, by simp, by simp [maxLen], .inr ⟨w.heap.size, 0, #[], rfl, Nat.le_refl _, Blk.new w e #[], by simp, fun j u h => by simp at h⟩⟩
section
variable (w : World) {A : Option Addr} {n c B : Nat} {bs : List UInt8}
theorem eql_slice_nil (a : Option Addr) (l c : Nat) : (binOp .eql 22 (.slice a l c) (.slice none 0 0)).run Try.prog w = .ok (.bool a.isNone) w := by
  simp only [binOp]
  simp [run_equal_slice_nil w 22 5 a l c Try.underlying22]
theorem clone (hr : Reads w B 1 A n (encB bs)) (hB : B ≤ w.heap.size) (hl : n ≤ 140737488355328) :
    Calls Try.prog 28 #[.slice A n c] w fun e w' => ∃ v', e = .returned v' ∧ Row1 w' w.heap.size 5 v' (encB bs) ∧ Keep [] w w' := by
  obtain ⟨i0, z0, hi, hz, hz0, hz1, hz2⟩ := u8_info
  have hlen := hr.1
  rw [encB_len] at hlen
  have Hr := Lib.hid hr
  have Hlen := Lib.hid hlen
  have hnil := fun (w : World) (a : Option Addr) (l c : Nat) => eql_slice_nil w a l c
  clear hlen
  cases A with
  | none =>
    have hn : n = 0 := by
      rcases Nat.eq_zero_or_pos n with h0 | h0
      · exact h0
      · obtain ⟨ad, h, _⟩ := hr.2 h0; cases h
    subst hn
    have hbs : bs = [] := List.eq_nil_of_length_eq_zero (by have := Hlen.out; omega)
    subst hbs
    clear hr
    go_enter Try.func28, Try.ntmps28
    go_wp2
    go_ret
    exact ⟨_, rfl, Row1.nil _ _ _, Keep.refl _ _⟩
  | some ad =>
    clear hr
    go_enter Try.func28, Try.ntmps28
    go_wp2_with (at_builtin; apply wpList_append_row _ rfl _ _ _ rfl w.heap.size 5 i0 z0 1 Try.underlying22 hi hz hz0 hz1 hz2 (.slice (some ⟨w.heap.size, 0, none⟩) 0 0) [] rfl (Row1.empty w _) _ (some ad) n c (encB bs) rfl (Hr.out.alloc hB _) encB_one (by unfold maxLen; simp; omega) (by simp; omega) (by simp); intro v1 w1 hrow1 k1 hm1; obtain ⟨A1, cap1, rfl, _⟩ := hrow1.reads)
    go_ret
    exact ⟨_, rfl, by simpa using hrow1, ((Keep.refl [] w).alloc _).step k1 (by simp [rowBlk])⟩
end
section
variable {w w' : World} {base : Nat}
theorem Row1.down {e : TypeId} {r : Value} {xs : List Value} {B : Nat} (h : Row1 w B e r xs) (hb : base ≤ B) : Row1 w base e r xs := by
  obtain ⟨A, cap, hv, h1, h2, h⟩ := h
  refine ⟨A, cap, hv, h1, h2, ?_⟩
  rcases h with h | ⟨g, off, cs, a, b, c⟩
  · exact .inl h
  · exact .inr ⟨g, off, cs, a, by omega, c⟩
end
theorem Reads.kept {w w' : World} {B size n : Nat} {A : Option Addr} {xs : List Value} {gs : List Nat} (hr : Reads w B size A n xs) (h : Keep gs w w') (hB : B ≤ w.heap.size) (hn : 0 < n → ∀ ad, A = some ad → ad.block ∉ gs) : Reads w' B size A n xs :=
  ⟨hr.1, fun h0 => by
    obtain ⟨ad, e, hb, hc⟩ := hr.2 h0
    exact ⟨ad, e, hb, fun j u hu => (h.cell (by rw [block_of_add]; omega) (by rw [block_of_add]; exact hn h0 ad e)).trans (hc j u hu)⟩⟩
theorem Reads.blk_lt {w : World} {B size n : Nat} {A : Option Addr} {xs : List Value} (hr : Reads w B size A n xs) (h0 : 0 < n) : ∀ ad, A = some ad → ad.block < B := fun ad e => by
  obtain ⟨ad', e', hb, _⟩ := hr.2 h0
  rw [e] at e'
  injection e' with e'
  subst e'
  exact hb
/-- a range over a function: its record, what is owed, the blocks that may turn -/
structure Rest (S W : World) (gs : List Nat) (rec_ : Obj) : Prop where
  rc : W.heap[S.heap.size + 1]? = some rec_
  df : W.heap[S.heap.size]? = some (.deferred (some []))
  kp : Keep gs S W
theorem Rest.go {S W W' : World} {gs hs : List Nat} {l : Loop} (h : Rest S W gs (.loop l)) (k : Keep hs W W') (h1 : ∀ i ∈ hs, i ∈ gs ∨ S.heap.size ≤ i) (h2 : S.heap.size + 1 ∉ hs) (h3 : S.heap.size ∉ hs) : Rest S W' gs (.loop l) :=
  ⟨k.heap h.rc h2, k.heap h.df h3, h.kp.step k h1⟩
theorem Rest.put {S W : World} {gs : List Nat} {o o' : Obj} (h : Rest S W gs o) : Rest S (W.putObj (S.heap.size + 1) o') gs o' :=
  ⟨put_heap (Array.getElem?_eq_some_iff.1 h.rc).1, (World.putObj_heap_other (by omega)).trans h.df, h.kp.putObj (.inr (by omega)) _⟩
theorem row_off_blk {w : World} {base g : Nat} {t u : TypeId} {v : Value} {xs : List Value} {cs : Array Value} (h : Row1 w base t v xs) (hL : Blk w g u cs) (hne : t ≠ u) : rowBlk v ≠ some g := fun e => by
  obtain ⟨A', cap, rfl, _, _, h2⟩ := h
  rcases h2 with ⟨rfl, _⟩ | ⟨g', off, cs, rfl, _, hb', _⟩
  · cases e
  · injection e with e
    exact hb'.ne_ hL hne e
end Go.Proofs.Ytbngoaonkhcciaa
/-! #### Upto -/
set_option linter.all false
namespace Go.Proofs.Ytbngoaonkhcciaa
open Go.ChangeShapes Go.WideShapes Go.ChangeAt Go.RowKit Go.Deep
theorem bulk_one {H : Type} (d : DataW H) : 1 ≤ Rows.uptoBulk d := by
  cases d with
  | lit l => cases l <;> simp [Rows.uptoBulk]
  | nil => simp [Rows.uptoBulk]
  | ptr d => simp [Rows.uptoBulk]
  | slice elems spare => simp [Rows.uptoBulk]
  | agg parts => simp [Rows.uptoBulk]
  | iface t d => simp [Rows.uptoBulk]
  | map entries => simp [Rows.uptoBulk]
  | held h => simp [Rows.uptoBulk]
theorem bulk_part {H : Type} {d : DataW H} {l : List (DataW H)} (h : d ∈ l) : Rows.uptoBulk d ≤ Rows.uptoBulkAll l := by
  induction l with
  | nil => cases h
  | cons x r ih =>
    simp only [Rows.uptoBulkAll]
    cases List.mem_cons.1 h with
    | inl e => subst e; omega
    | inr e => have := ih e; omega
theorem bulk_len {H : Type} (l : List (DataW H)) : l.length ≤ Rows.uptoBulkAll l := by
  induction l with
  | nil => simp [Rows.uptoBulkAll]
  | cons x r ih => have := bulk_one x; simp only [Rows.uptoBulkAll, List.length_cons]; omega
theorem bulk_all {H : Type} {l r : List (DataW H)} (hk : Rows.uptoSmall H (l ++ r) = true) : ∀ d ∈ l, Rows.uptoBulk d ≤ 1048576 := fun d hd => by
  have h1 : Rows.uptoBulkAll (l ++ r) ≤ 1048576 := of_decide_eq_true hk
  have := bulk_part (List.mem_append_left r hd)
  omega
section
variable {H : Type} {enc : TypeId × Value → H} {P : Program} {w : World} {base : Nat} {held : Bool} {N : Nat}
theorem len_bulk {t e : TypeId} {fuel : Nat} {v : Value} {y : DataW H × List MemPlace} (ht : P.underlying t = some (.slice e)) (h : DataW.trod enc P w base (fun _ => true) held fuel t [v] = some y) (hb : Rows.uptoBulk y.1 ≤ N) :
    ∀ A n c, v = .slice A n c → n ≤ N := by
  intro A n c hv
  rcases open_slice ht h with ⟨h0, _⟩ | ⟨a, len, cap, m', n', D, Pl, hcs, _, _, _, _, hx, _⟩
  · rw [hv] at h0
    injection h0 with h0 _
    injection h0 with _ h1 _
    omega
  · rw [hv] at hcs
    injection hcs with hcs _
    injection hcs with _ hl _
    subst hl
    subst hx
    simp only [Rows.uptoBulk] at hb
    have := bulk_len ((List.range n).map D)
    simp at this
    omega
end
end Go.Proofs.Ytbngoaonkhcciaa
