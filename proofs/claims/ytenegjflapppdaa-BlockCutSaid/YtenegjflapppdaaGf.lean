/- block: frames as they lie in memory (out of feed's texts by mkgf.py). -/
import Derived.Test.YtenegjflapppdaaClone
set_option linter.all false
namespace Go.Proofs.Ytenegjflapppdaa
open Go.ChangeShapes Go.WideShapes Go.ChangeAt Go.RowKit
attribute [local go_sem] setCell_drewN alloc_drewN
/-- a frame as it lies in memory: three numbers, a slice, its bytes -/
structure Gf where
  t : Int
  f : Int
  s : Int
  A : Option Addr
  c : Nat
  pl : List UInt8
def Gf.cells (x : Gf) : List Value := [.int .i64 x.t, .int .i64 x.f, .int .i64 x.s, .slice x.A x.pl.length x.c]
def Gf.ok (w : World) (x : Gf) : Prop := x.pl.length ≤ x.c ∧ x.c ≤ 9223372036854775807 ∧ Reads w w.heap.size 1 x.A x.pl.length (encB x.pl)
def encG (l : List Gf) : List Value := l.flatMap Gf.cells
theorem encG_len : ∀ l : List Gf, (encG l).length = l.length * 4
  | [] => rfl
  | a :: l => by
    have := encG_len l
    simp only [encG, List.flatMap_cons, List.length_append] at this ⊢
    rw [this]
    simp [Gf.cells]
    omega
theorem encG_app (a b : List Gf) : encG (a ++ b) = encG a ++ encG b := by simp [encG]
theorem encG_cons (a : Gf) (b : List Gf) : encG (a :: b) = a.cells ++ encG b := by simp [encG]
theorem encG_one (l : List Gf) : ∀ u ∈ encG l, u.oneCell' = true := by
  intro u hu
  simp only [encG, List.mem_flatMap] at hu
  obtain ⟨p, _, hp⟩ := hu
  simp [Gf.cells] at hp
  rcases hp with rfl | rfl | rfl | rfl <;> rfl
theorem encG_at : ∀ (l : List Gf) (i : Nat) (x : Gf), l[i]? = some x → ∀ j, j < 4 → (encG l)[i * 4 + j]? = x.cells[j]?
  | [], i, x, h, _, _ => by simp at h
  | a :: l, 0, x, h, j, hj => by
    obtain rfl : a = x := by simpa using h
    rw [encG_cons, List.getElem?_append_left (by simp [Gf.cells]; omega)]
    simp
  | a :: l, i + 1, x, h, j, hj => by
    rw [encG_cons, List.getElem?_append_right (by simp [Gf.cells]; omega)]
    have := encG_at l i x (by simpa using h) j hj
    rw [← this]
    congr 1
    simp [Gf.cells]
    omega
theorem fr_info : ∃ i z, Try.prog.info? 46 = some i ∧ i.zero = some z ∧ i.size = 4 ∧ i.bytes = 48 ∧ z.cells.size = 4 := by
  obtain ⟨i, hi⟩ : ∃ i, Try.prog.info? 46 = some i := Option.isSome_iff_exists.1 (by kernel_rfl)
  have h : (Try.prog.info? 46).map (fun i => (i.size, i.bytes, i.zero.map (·.cells.size))) = some (4, 48, some 4) := by kernel_rfl
  rw [hi] at h
  simp only [Option.map_some, Option.some.injEq, Prod.mk.injEq] at h
  obtain ⟨h1, h2, h3⟩ := h
  cases hz : i.zero with
  | none => rw [hz] at h3; simp at h3
  | some z =>
    rw [hz] at h3
    exact ⟨i, z, hi, hz, h1, h2, by simpa using h3⟩
/-- the frames' row, cell by cell -/
def RowIs (cs : Array Value) (ys : List Gf) : Prop := ∀ k x, ys[k]? = some x → ∀ j, j < 4 → cs[k * 4 + j]? = x.cells[j]?
theorem rowIs_of {W : World} {base N : Nat} {v : Value} {ys : List Gf} (ho : W.ownsRow base 46 4 v N (encG ys)) (hN : 0 < N) : ∃ og cw cs, v = .slice (some ⟨og, 0, none⟩) N cw ∧ base ≤ og ∧ N ≤ cw ∧ Blk W og 46 cs ∧ RowIs cs ys := by
  rcases ho.2 with ⟨_, h0⟩ | ⟨g, cap, cur, rfl, hb, hg, hnc, hcm, hcs, ht⟩
  · omega
  · refine ⟨g, cap, cur, rfl, hb, hnc, hg, fun k x hk j hj => ?_⟩
    have h1 := encG_at ys k x hk j hj
    rw [← ht, List.getElem?_take] at h1
    have hl := ho.1
    rw [encG_len] at hl
    have hkl : k < ys.length := (List.getElem?_eq_some_iff.1 hk).1
    rw [if_pos (by omega)] at h1
    rw [← h1]
    simp
theorem own_blk {W : World} {base n : Nat} {e : TypeId} {size : Nat} {v : Value} {xs : List Value} (h : W.ownsRow base e size v n xs) : ∀ k, v.ownBlock = some k → base ≤ k ∧ ∃ cs, Blk W k e cs := fun k hk => by
  rcases h.2 with ⟨h, _⟩ | ⟨g, cap, cur, h, hb, hg, _⟩
  · rw [h] at hk; simp [Value.ownBlock] at hk
  · rw [h] at hk
    simp [Value.ownBlock] at hk
    subst hk
    exact ⟨hb, cur, hg⟩
end Go.Proofs.Ytenegjflapppdaa
