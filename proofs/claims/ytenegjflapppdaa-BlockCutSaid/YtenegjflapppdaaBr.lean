/- block: between the words of the printed texts and these texts' own; a number in so many bytes. -/
import Derived.Test.YtenegjflapppdaaRow1
import Derived.Test.YtenegjflapppdaaRng3
import Derived.Test.YtenegjflapppdaaClone
import Derived.Test.YtenegjflapppdaaPEqx
set_option linter.all false
namespace Go.Proofs.Ytenegjflapppdaa
open Go.ChangeShapes Go.WideShapes Go.ChangeAt Go.RowKit Go.Proofs.YtenegjflapppdaaW.PrintWords Go.Proofs.YtenegjflapppdaaW.PrintMore
attribute [local go_sem] setCell_drewN alloc_drewN
def ints (bs : List UInt8) : List Int := bs.map fun b => (b.toNat : Int)
theorem ints_len (bs : List UInt8) : (ints bs).length = bs.length := by simp [ints]
theorem ints_app (a b : List UInt8) : ints (a ++ b) = ints a ++ ints b := by simp [ints]
theorem ints_take (a : List UInt8) (n : Nat) : ints (a.take n) = (ints a).take n := by simp [ints, List.map_take]
theorem ints_drop (a : List UInt8) (n : Nat) : ints (a.drop n) = (ints a).drop n := by simp [ints, List.map_drop]
theorem ints_inj {a b : List UInt8} (h : ints a = ints b) : a = b := by
  unfold ints at h
  induction a generalizing b with
  | nil => cases b with
    | nil => rfl
    | cons => simp at h
  | cons x a ih => cases b with
    | nil => simp at h
    | cons y b =>
      simp only [List.map_cons, List.cons.injEq] at h
      rw [ih h.2, UInt8.toNat_inj.1 (show x.toNat = y.toNat by omega)]
theorem encs_ints (bs : List UInt8) : encs (Value.int .u8) (ints bs) = encB bs := by simp [encs, ints, encB]
section
variable {w : World} {A : Option Addr} {B n base : Nat} {t : TypeId} {v : Value} {bs : List UInt8}
theorem C_of (h : Reads w B 1 A n (encB bs)) (hn : n ≤ 9223372036854775807) : Kd.C (Kd.int .u8) w A (ints bs).length (ints bs) := by
  have hl : bs.length = n := by have := h.1; rw [encB_len] at this; omega
  refine ⟨rfl, by rw [ints_len]; omega, fun h0 => ?_⟩
  rw [ints_len] at h0
  obtain ⟨ad, e, _, hc⟩ := h.2 (by omega)
  refine ⟨ad, e, fun j p hp => ⟨[.int .u8 p], rfl, rfl, fun i u hu => ?_⟩⟩
  match i, hu with
  | 0, hu =>
    simp at hu
    subst hu
    show w.cell? (ad.add (j * 1 + 0)) = _
    rw [Nat.mul_one, Nat.add_zero]
    refine hc j _ ?_
    rw [← encs_ints]
    simp [encs, hp]
theorem Row1.of_R {ok : Nat → Prop} (h : Kd.R (Kd.int .u8) t w base ok v (ints bs)) : Row1 w base t v (encB bs) := by
  have := Kd.own_of_R h
  rw [encs_ints] at this
  exact Row1.of_own this
theorem R_of (h : w.ownsRow base t 1 v n (encB bs)) : Kd.R (Kd.int .u8) t w base (fun _ => True) v (ints bs) := by
  have hl : bs.length = n := by have := h.1; rw [encB_len] at this; omega
  refine Kd.R_of_own (by rw [encs_ints, ints_len, hl]; exact h) (fun _ _ => trivial)
end
end Go.Proofs.Ytenegjflapppdaa
