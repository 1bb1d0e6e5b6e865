/- block: the reference's Cut. -/
import Derived.Test.YtenegjflapppdaaGf
import Derived.Test.YtenegjflapppdaaIt
import Derived.Deep.DeepCutAuto
set_option linter.all false
namespace Go.Proofs.Ytenegjflapppdaa
open Go.ChangeShapes Go.WideShapes Go.ChangeAt Go.RowKit
attribute [local go_sem] setCell_drewN alloc_drewN
/-- the first frames of a block that is cut -/
structure RList (W : World) (base : Nat) (id : Int) (en : Bool) (mo : Nat) (bs : List UInt8) (xs : List Gf) : Prop where
  at_ : ∀ i x, xs[i]? = some x → x.t = typF i ∧ x.f = flgF i en (decide (bs.length ≤ (i + 1) * mo)) ∧ x.s = id ∧ x.pl = (bs.drop (i * mo)).take mo ∧ Row1 W base 5 (.slice x.A x.pl.length x.c) (encB x.pl)
theorem RList.keep {W W' : World} {base : Nat} {id : Int} {en : Bool} {mo : Nat} {bs : List UInt8} {xs : List Gf} {gs : List Nat} (h : RList W base id en mo bs xs) (k : Keep gs W W') (hg : ∀ g ∈ gs, ∃ t cs, Blk W g t cs ∧ t ≠ 5) : RList W' base id en mo bs xs :=
  ⟨fun i x hx => by
    obtain ⟨h1, h2, h3, h4, h5⟩ := h.at_ i x hx
    refine ⟨h1, h2, h3, h4, h5.keep k (fun g hv hm => ?_)⟩
    obtain ⟨t, cs, hb, ht⟩ := hg g hm
    exact row_off_blk h5 hb (Ne.symm ht) hv⟩
theorem RList.snoc {W : World} {base : Nat} {id : Int} {en : Bool} {mo : Nat} {bs : List UInt8} {xs : List Gf} {x : Gf} (h : RList W base id en mo bs xs) (hx : x.t = typF xs.length ∧ x.f = flgF xs.length en (decide (bs.length ≤ (xs.length + 1) * mo)) ∧ x.s = id ∧ x.pl = (bs.drop (xs.length * mo)).take mo ∧ Row1 W base 5 (.slice x.A x.pl.length x.c) (encB x.pl)) : RList W base id en mo bs (xs ++ [x]) :=
  ⟨fun i y hy => by
    by_cases hi : i < xs.length
    · rw [List.getElem?_append_left hi] at hy
      exact h.at_ i y hy
    · rw [List.getElem?_append_right (by omega)] at hy
      have hi2 : i - xs.length = 0 := by
        rcases Nat.eq_zero_or_pos (i - xs.length) with h | h
        · exact h
        · rw [List.getElem?_eq_none (by simp; omega)] at hy; cases hy
      rw [hi2] at hy
      obtain rfl : x = y := by simpa using hy
      obtain rfl : i = xs.length := by omega
      exact hx⟩
/-- what a round's end holds -/
theorem rcut_step {w wr W8 WS w9 : World} {id : Int} {en : Bool} {mo j o m : Nat} {bs : List UInt8} {Al : Option Addr} {cl fb : Nat} {v9 : Value} {xs : List Gf} {x : Gf} {cs : Array Value} {Ac : Option Addr} {ys : List Value} (hxl : xs.length = j) (hoj : o = j * mo) (ho : wr.ownsRow w.heap.size 46 4 (.slice Al j cl) j (encG xs)) (hRL : RList wr w.heap.size id en mo bs xs) (hkw : Keep [] w wr) (hk8 : Keep [] wr W8) (hrow : Row1 W8 w.heap.size 5 (.slice x.A x.pl.length x.c) (encB x.pl)) (hkS : Keep [fb] W8 WS) (hbf : Blk W8 fb 46 cs) (hfb : wr.heap.size ≤ fb) (ho9 : w9.ownsRow w.heap.size 46 4 v9 (j + 1) (encG xs ++ encG [x])) (hg : Keep (Value.slice Al j cl).ownBlock.toList WS w9) (hx : x.t = typF j ∧ x.f = flgF j en (decide (bs.length ≤ (j + 1) * mo)) ∧ x.s = id ∧ x.pl = (bs.drop o).take mo) (hsuf : Reads wr w.heap.size 1 Ac m ys) : ∃ Al' cl', v9 = .slice Al' (j + 1) cl' ∧ w9.ownsRow w.heap.size 46 4 (.slice Al' (j + 1) cl') (j + 1) (encG (xs ++ [x])) ∧ RList w9 w.heap.size id en mo bs (xs ++ [x]) ∧ Keep [] w w9 ∧ Reads w9 w.heap.size 1 Ac m ys := by
  have hb := own_blk ho
  have kS : Keep [] wr WS := hk8.step hkS (by simp; omega)
  have hbS := own_blk (own_keep ho kS (by simp))
  have hb8 := own_blk (own_keep ho hk8 (by simp))
  have k9 : Keep (Value.slice Al j cl).ownBlock.toList wr w9 := (kS.more (by simp)).trans hg
  have hsz := hkw.size
  obtain ⟨Al', cl', rfl⟩ : ∃ Al' cl', v9 = .slice Al' (j + 1) cl' := by
    rcases ho9.2 with ⟨_, h⟩ | ⟨g, cap, cur, h, _⟩
    · omega
    · exact ⟨_, _, h⟩
  refine ⟨Al', cl', rfl, by rw [encG_app]; exact ho9, ?_, hkw.step k9 (fun g hm => .inr (hb g (by simpa using hm)).1), hsuf.keeps k9 hsz (fun g hm => (hb g (by simpa using hm)).1)⟩
  refine RList.snoc (RList.keep (RList.keep hRL kS (by simp)) hg (fun g hm => ?_)) ?_
  · obtain ⟨_, cs, h⟩ := hbS g (by simpa using hm)
    exact ⟨_, cs, h, by decide⟩
  · rw [hxl, ← hoj]
    refine ⟨hx.1, hx.2.1, hx.2.2.1, hx.2.2.2, ?_⟩
    have r1 := hrow.keep hkS (fun g hm => by simp; exact fun e => row_off_blk hrow hbf (by decide) (e ▸ hm))
    refine r1.keep hg (fun g hv hm => ?_)
    obtain ⟨_, cs, h⟩ := hbS g (by simpa using hm)
    exact row_off_blk r1 h (by decide) hv
end Go.Proofs.Ytenegjflapppdaa
