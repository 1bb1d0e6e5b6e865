/- block: what Start and More answer, of the code and of the reference. -/
import Derived.Test.YtenegjflapppdaaPart
set_option linter.all false
namespace Go.Proofs.Ytenegjflapppdaa
open Go.ChangeShapes Go.WideShapes Go.ChangeAt Go.RowKit
attribute [local go_sem] setCell_drewN alloc_drewN
structure Ans where
  out : List UInt8
  dn : Bool
  cd : Int
  id : Int
  wt : Bool
  en : Bool
  bs : List UInt8
def startA (id : Int) (wt en : Bool) (bs : List UInt8) (i : Int) (e' wh : Bool) (ps : List UInt8) : Ans :=
  if wt = true then ⟨[], false, 1, id, wt, en, bs⟩ else if 65536 < ps.length then ⟨[], false, 11, id, wt, en, bs⟩ else if wh = true then ⟨ps, true, 0, id, wt, e', bs⟩ else ⟨[], false, 0, i, true, e', ps⟩
def moreA (id : Int) (wt en : Bool) (bs : List UInt8) (i : Int) (wh : Bool) (ps : List UInt8) : Ans :=
  if wt = false then ⟨[], false, 1, id, wt, en, bs⟩ else if id ≠ i then ⟨[], false, 1, id, wt, en, bs⟩ else if 65536 < bs.length + ps.length then ⟨[], false, 11, 0, false, en, []⟩ else if wh = true then ⟨bs ++ ps, true, 0, 0, false, en, []⟩ else ⟨[], false, 0, id, true, en, bs ++ ps⟩
/-- an answer of a call on the block bb of type t; the reference's id is free where nothing waits -/
def Gives (t : TypeId) (w : World) (base bb : Nat) (v : Value) (X : Ans) (own : Bool) (e : Ending) (w' : World) : Prop :=
  ∃ r v', e = .returned (.tuple #[r, .bool X.dn, .int .i64 X.cd]) ∧ Row1 w' base 5 r (encB X.out) ∧ (∃ id', Bk w' base bb t id' X.wt X.en v' X.bs ∧ (X.wt = true → id' = X.id) ∧ (own = true → id' = X.id)) ∧ Keep (bb :: (rowBlk v).toList) w w' ∧ Moved w v v' ∧ Moved w v r
section
variable {w : World} {base bb : Nat} {id : Int} {wt en : Bool} {v : Value} {bs : List UInt8}
theorem moved_nil (w : World) (v : Value) : Moved w v (.slice none 0 0) := fun g h => by cases h
theorem moved_refl (w : World) (v : Value) : Moved w v v := fun g h => .inl h
theorem moved_new {w w' : World} {v r : Value} {e : TypeId} {xs : List Value} (h : Row1 w' w.heap.size e r xs) : Moved w v r := fun g hg => .inr (h.lt g hg).1
theorem start_ (h : Bk w base bb 52 id wt en v bs) (i : Int) (e' wh : Bool) {B : Nat} {A : Option Addr} {m : Nat} (c : Nat) {ps : List UInt8} (hr : Reads w B 1 A m (encB ps)) (hB : B ≤ w.heap.size) (hbase : base ≤ w.heap.size) (ho : 0 < m → ∀ ad, A = some ad → ad.block ≠ bb) :
    Calls Try.prog 11 #[.pointer (some ⟨bb, 0, none⟩), .int .i64 i, .bool e', .slice A m c, .bool wh] w (Gives 52 w base bb v (startA id wt en bs i e' wh ps) true) := by
  have hpl : ps.length = m := by have := hr.1; rw [encB_len] at this; omega
  unfold startA
  cases wt
  · rw [if_neg (by simp)]
    by_cases hb : 65536 < ps.length
    · rw [if_pos hb]
      refine (start_big h i e' wh A m c (by omega)).mono ?_
      rintro e w' ⟨rfl, rfl⟩
      exact ⟨_, v, rfl, Row1.nil _ _ _, ⟨_, h, fun _ => rfl, fun _ => rfl⟩, Keep.refl _ _, moved_refl _ _, moved_nil _ _⟩
    · rw [if_neg hb]
      cases wh
      · rw [if_neg (by simp)]
        refine (start_part h i e' c (by omega) hr hB hbase ho).mono ?_
        rintro e w' ⟨rfl, v', b, k, m⟩
        exact ⟨_, v', rfl, Row1.nil _ _ _, ⟨_, b, fun _ => rfl, fun _ => rfl⟩, k.more (by simp), m, moved_nil _ _⟩
      · rw [if_pos rfl]
        refine (start_whole h i e' c (by omega) hr hB ho).mono ?_
        rintro e w' ⟨r, rfl, hr', b, k⟩
        exact ⟨r, v, rfl, hr'.down hbase, ⟨_, b, fun _ => rfl, fun _ => rfl⟩, k.more (by simp), moved_refl _ _, moved_new hr'⟩
  · rw [if_pos rfl]
    refine (start_wait h i e' wh A m c).mono ?_
    rintro e w' ⟨rfl, rfl⟩
    exact ⟨_, v, rfl, Row1.nil _ _ _, ⟨_, h, fun _ => rfl, fun _ => rfl⟩, Keep.refl _ _, moved_refl _ _, moved_nil _ _⟩
theorem more_ (h : Bk w base bb 52 id wt en v bs) (i : Int) (wh : Bool) {B : Nat} {A : Option Addr} {m : Nat} (c : Nat) {ps : List UInt8} (hr : Reads w B 1 A m (encB ps)) (hbase : base ≤ w.heap.size) (hbl : bs.length ≤ 65536) (hm : m ≤ 9223372036854000000) :
    Calls Try.prog 13 #[.pointer (some ⟨bb, 0, none⟩), .int .i64 i, .slice A m c, .bool wh] w (Gives 52 w base bb v (moreA id wt en bs i wh ps) true) := by
  have hpl : ps.length = m := by have := hr.1; rw [encB_len] at this; omega
  unfold moreA
  cases wt
  · rw [if_pos rfl]
    refine (more_not h i (.inl rfl) wh A m c).mono ?_
    rintro e w' ⟨rfl, rfl⟩
    exact ⟨_, v, rfl, Row1.nil _ _ _, ⟨_, h, fun _ => rfl, fun _ => rfl⟩, Keep.refl _ _, moved_refl _ _, moved_nil _ _⟩
  · rw [if_neg (by simp)]
    by_cases hi : id ≠ i
    · rw [if_pos hi]
      refine (more_not h i (.inr ⟨rfl, by simpa using hi⟩) wh A m c).mono ?_
      rintro e w' ⟨rfl, rfl⟩
      exact ⟨_, v, rfl, Row1.nil _ _ _, ⟨_, h, fun _ => rfl, fun _ => rfl⟩, Keep.refl _ _, moved_refl _ _, moved_nil _ _⟩
    · rw [if_neg hi]
      obtain rfl : id = i := by simpa using hi
      by_cases hb : 65536 < bs.length + ps.length
      · rw [if_pos hb]
        refine (more_big h wh A m c hbl hm (by omega)).mono ?_
        rintro e w' ⟨rfl, b, k⟩
        exact ⟨_, _, rfl, Row1.nil _ _ _, ⟨_, b, fun _ => rfl, fun _ => rfl⟩, k.more (by simp), moved_nil _ _, moved_nil _ _⟩
      · rw [if_neg hb]
        cases wh
        · rw [if_neg (by simp)]
          refine (more_part h hbase c hr (by omega)).mono ?_
          rintro e w' ⟨rfl, v', b, k, m⟩
          exact ⟨_, v', rfl, Row1.nil _ _ _, ⟨_, b, fun _ => rfl, fun _ => rfl⟩, k, m, moved_nil _ _⟩
        · rw [if_pos rfl]
          refine (more_whole h hbase c hr (by omega)).mono ?_
          rintro e w' ⟨r, rfl, hr', b, k, m⟩
          exact ⟨r, _, rfl, hr', ⟨_, b, fun _ => rfl, fun _ => rfl⟩, k, moved_nil _ _, m⟩
end
end Go.Proofs.Ytenegjflapppdaa
