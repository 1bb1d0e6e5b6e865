/- frame: padding, places, sizes, priorities, bare. -/
import Derived.Test.YtbngoaonkhcciaaBr
import Derived.Test.YtbngoaonkhcciaaRng5
set_option linter.all false
namespace Go.Proofs.Ytbngoaonkhcciaa
open Go.ChangeShapes Go.WideShapes Go.ChangeAt Go.RowKit
attribute [local go_sem] setCell_drewN alloc_drewN Oper.semAt_some
theorem land8 : ∀ m : Nat, m < 256 → m &&& 8 = m / 8 % 2 * 8 := by decide +kernel
theorem land32 : ∀ m : Nat, m < 256 → m &&& 32 = m / 32 % 2 * 32 := by decide +kernel
theorem land1 : ∀ m : Nat, m < 256 → m &&& 1 = m % 2 := by decide +kernel
theorem and8 (f : UInt8) : bits .and .i64 (f.toNat : Int) 8 = ((f.toNat / 8 % 2 * 8 : Nat) : Int) := by
  have h := i64_and_nat f.toNat 8 (by have := f.toNat_lt; omega) (by omega)
  rw [land8 _ (by have := f.toNat_lt; omega)] at h
  exact h
theorem and32 (f : UInt8) : bits .and .i64 (f.toNat : Int) 32 = ((f.toNat / 32 % 2 * 32 : Nat) : Int) := by
  have h := i64_and_nat f.toNat 32 (by have := f.toNat_lt; omega) (by omega)
  rw [land32 _ (by have := f.toNat_lt; omega)] at h
  exact h
theorem and1 (f : UInt8) : bits .and .i64 (f.toNat : Int) 1 = ((f.toNat % 2 : Nat) : Int) := by
  have h := i64_and_nat f.toNat 1 (by have := f.toNat_lt; omega) (by omega)
  rw [land1 _ (by have := f.toNat_lt; omega)] at h
  exact h
/-! ### what they tell -/
def padF (t : Nat) : Bool := t == 0 || t == 1 || t == 5
def onF (f : UInt8) (k : Nat) : Bool := f.toNat / k % 2 == 1
def placeF (t : Nat) : Int := if t = 0 ∨ t = 1 ∨ t = 2 ∨ t = 3 ∨ t = 5 ∨ t = 9 then 1 else if t = 4 ∨ t = 6 ∨ t = 7 then 0 else -1
def sizeF (t : Nat) (f : UInt8) (n : Nat) : Bool :=
  if t = 1 then !onF f 32 || decide (5 ≤ n) else if t = 2 then n == 5 else if t = 3 ∨ t = 8 then n == 4 else if t = 4 then n % 6 == 0 && (!onF f 1 || n == 0)
  else if t = 5 then decide (4 ≤ n) else if t = 6 then n == 8 else if t = 7 then decide (8 ≤ n) else true
section
variable (w : World)
theorem padded_ (t : Nat) : Calls Try.prog 34 #[.int .i64 t] w fun e w' => e = .returned (.bool (padF t)) ∧ w = w' := by
  go_enter Try.func34, Try.ntmps34
  by_cases h0 : t = 0
  · subst h0
    go_wp2
    go_ret
    exact ⟨rfl, rfl⟩
  have k0 : ¬ (t : Int) = 0 := by omega
  by_cases h1 : t = 1
  · subst h1
    go_wp2
    go_ret
    exact ⟨rfl, rfl⟩
  have k1 : ¬ (t : Int) = 1 := by omega
  go_wp2
  go_ret
  refine ⟨?_, rfl⟩
  have e : ((t : Int) == 5) = (t == 5) := by rw [Bool.eq_iff_iff]; simp; omega
  have e0 : ((t : Int) == 0) = (t == 0) := by rw [Bool.eq_iff_iff]; simp
  have e1 : ((t : Int) == 1) = (t == 1) := by rw [Bool.eq_iff_iff]; simp; omega
  simp [padF, e0, e1, e]
theorem place_ (t : Nat) : Calls Try.prog 25 #[.int .i64 t] w fun e w' => e = .returned (.int .i64 (placeF t)) ∧ Keep [] w w' := by
  have q : ∀ r, PLay.frame_place.f 1 t = some r → Calls Try.prog 25 #[.int .i64 t] w fun e w' => e = .returned (.int .i64 r) ∧ Keep [] w w' := fun r h =>
    (PLay.frame_place.calls 1 t r w h).mono fun e w' ⟨he, hd⟩ => ⟨he, Keep.of_below hd.below⟩
  apply q
  unfold PLay.frame_place.f placeF
  simp only [PLay.frame_place.j0]
  repeat' split
  all_goals first | rfl | (exfalso; omega) | (exfalso; simp_all; done) | (exfalso; simp_all; omega)
theorem sized_ (t : Nat) (f : UInt8) (s : Int) {A : Option Addr} {n c : Nat} {bs : List UInt8} (hr : Reads w w.heap.size 1 A n (encB bs)) (hc : n ≤ c) (hc2 : c ≤ 9223372036854775807) (m : Nat) :
    Calls Try.prog 27 #[.agg #[.int .i64 t, .int .i64 f.toNat, .int .i64 s, .slice A n c], .int .i64 m] w fun e w' => e = .returned (.bool (sizeF t f m)) ∧ Keep [] w w' := by
  have hl : bs.length = n := by have := hr.1; rw [encB_len] at this; omega
  have q : ∀ r, PLay.frame_sized.f 1 t f.toNat s (ints bs) m = some r → Calls Try.prog 27 #[.agg #[.int .i64 t, .int .i64 f.toNat, .int .i64 s, .slice A n c], .int .i64 m] w fun e w' => e = .returned (.bool r) ∧ Keep [] w w' := fun r h => by
    have := (PLay.frame_sized.calls 1 t f.toNat s A c (ints bs) m r w (C_of hr (by omega)) (by rw [ints_len]; omega) h).mono fun e w' ⟨he, hd⟩ => (⟨he, Keep.of_below hd⟩ : _ ∧ Keep [] w w')
    rw [ints_len, hl] at this
    exact this
  apply q
  unfold PLay.frame_sized.f sizeF onF
  simp only [PLay.frame_sized.j0]
  rw [and32, and1]
  have e6 : Int.tmod (m : Int) 6 = ((m % 6 : Nat) : Int) := by rw [Int.tmod_eq_emod_of_nonneg (by omega)]; omega
  rw [e6]
  have x1 : ((t : Int) = 1) = (t = 1) := by simp; omega
  have x2 : ((t : Int) = 2) = (t = 2) := by simp; omega
  have x3 : ((t : Int) = 3) = (t = 3) := by simp; omega
  have x4 : ((t : Int) = 4) = (t = 4) := by simp; omega
  have x5 : ((t : Int) = 5) = (t = 5) := by simp; omega
  have x6 : ((t : Int) = 6) = (t = 6) := by simp; omega
  have x7 : ((t : Int) = 7) = (t = 7) := by simp; omega
  have y3 : (((t : Int) == 3) = true) = (t = 3) := by simp; omega
  have y8 : (((t : Int) == 8) = true) = (t = 8) := by simp; omega
  have z5 : ((m : Int) == 5) = (m == 5) := by rw [Bool.eq_iff_iff]; simp; omega
  have z4 : ((m : Int) == 4) = (m == 4) := by rw [Bool.eq_iff_iff]; simp; omega
  have z8 : ((m : Int) == 8) = (m == 8) := by rw [Bool.eq_iff_iff]; simp; omega
  have z0 : ((m : Int) == 0) = (m == 0) := by rw [Bool.eq_iff_iff]; simp
  have g5 : decide ((m : Int) ≥ 5) = decide (5 ≤ m) := by simp; omega
  have g4 : decide ((m : Int) ≥ 4) = decide (4 ≤ m) := by simp; omega
  have g8 : decide ((m : Int) ≥ 8) = decide (8 ≤ m) := by simp; omega
  have q32 : (((f.toNat / 32 % 2 * 32 : Nat) : Int) = 0) = ¬ (f.toNat / 32 % 2 = 1) := by simp; omega
  have q1 : (((f.toNat % 2 : Nat) : Int) = 0) = ¬ (f.toNat % 2 = 1) := by simp; omega
  have q6 : (((m % 6 : Nat) : Int) = 0) = (m % 6 = 0) := by simp; omega
  simp only [x1, x2, x3, x4, x5, x6, x7, y3, y8, z5, z4, z8, z0, g5, g4, g8, q32, q1, q6, Nat.div_one]
  clear x1 x2 x3 x4 x5 x6 x7 y3 y8 z5 z4 z8 z0 g5 g4 g8 q32 q1 q6 e6 q hr
  by_cases h1 : t = 1
  · subst h1
    by_cases hf : f.toNat / 32 % 2 = 1 <;> simp [hf]
  by_cases h2 : t = 2
  · subst h2; simp
  by_cases h3 : t = 3
  · subst h3; simp
  by_cases h8 : t = 8
  · subst h8; simp
  by_cases h4 : t = 4
  · subst h4
    by_cases hf : f.toNat % 2 = 1 <;> by_cases hm : m % 6 = 0 <;> simp [hf, hm]
  simp only [h1, h2, h3, h8, h4, if_false, or_self]
  by_cases h5 : t = 5
  · subst h5; simp
  by_cases h6 : t = 6
  · subst h6; simp
  by_cases h7 : t = 7
  · subst h7; simp
  simp [h5, h6, h7]
end
/-! ### bare, prio: what they leave in the body -/
section
variable (w : World)
theorem bare_off (t : Nat) (f : UInt8) (s : Int) (A : Option Addr) (n c ob : Nat) (h : ¬ (padF t = true ∧ onF f 8 = true)) :
    Calls Try.prog 26 #[.agg #[.int .i64 t, .int .i64 f.toNat, .int .i64 s, .slice A n c], .pointer (some ⟨ob, 0, none⟩)] w fun e w' => e = .returned (.tuple #[.slice A n c, .int .i64 0]) ∧ Keep [] w w' := by
  go_enter Try.func26, Try.ntmps26
  cases hp : padF t with
  | false =>
    go_wp2_with (go_at_call 34; refine (padded_ _ t).mono ?_; rintro e w1 ⟨rfl, rfl⟩; rw [hp])
    go_ret2
    exact ⟨rfl, (Keep.refl _ _).alloc _⟩
  | true =>
    have h8 : f.toNat / 8 % 2 * 8 = 0 := by
      have : ¬ (f.toNat / 8 % 2 = 1) := fun e => h ⟨hp, by simp [onF, e]⟩
      omega
    have ha := and8 f
    rw [h8] at ha
    go_wp2_with (go_at_call 34; refine (padded_ _ t).mono ?_; rintro e w1 ⟨rfl, rfl⟩; rw [hp])
    go_ret2
    exact ⟨rfl, (Keep.refl _ _).alloc _⟩
theorem bare_none (t : Nat) (f : UInt8) (s : Int) (A : Option Addr) (c ob : Nat) (hp : padF t = true) (hf : onF f 8 = true) :
    Calls Try.prog 26 #[.agg #[.int .i64 t, .int .i64 f.toNat, .int .i64 s, .slice A 0 c], .pointer (some ⟨ob, 0, none⟩)] w fun e w' => e = .returned (.tuple #[.slice none 0 0, .int .i64 6]) ∧ Keep [] w w' := by
  have h8 : f.toNat / 8 % 2 * 8 = 8 := by
    simp [onF] at hf
    omega
  have ha := and8 f
  rw [h8] at ha
  go_enter Try.func26, Try.ntmps26
  go_wp2_with (go_at_call 34; refine (padded_ _ t).mono ?_; rintro e w1 ⟨rfl, rfl⟩; rw [hp])
  go_ret2
  exact ⟨rfl, (Keep.refl _ _).alloc _⟩
theorem bare_on (t : Nat) (f : UInt8) (s : Int) (b off n c ob : Nat) {cs : Array Value} {ty : TypeId} {p : UInt8} {bs : List UInt8} (hp : padF t = true) (hf : onF f 8 = true) (hb : Blk w ob ty cs) (hs : cs.size = 11)
    (hr : Reads w ob 1 (some ⟨b, off, none⟩) n (encB (p :: bs))) (hc : n ≤ c) (hc2 : c ≤ 9223372036854775807) :
    Calls Try.prog 26 #[.agg #[.int .i64 t, .int .i64 f.toNat, .int .i64 s, .slice (some ⟨b, off, none⟩) n c], .pointer (some ⟨ob, 0, none⟩)] w fun e w' => e = .returned (.tuple (if bs.length < p.toNat then #[.slice none 0 0, .int .i64 1] else #[.slice (if c = 1 then some ⟨b, off, none⟩ else some ⟨b, off + 1, none⟩) (bs.length - p.toNat) (c - 1), .int .i64 0])) ∧ Blk w' ob ty (cs.setIfInBounds 1 (.int .i64 p.toNat)) ∧ Keep [ob] w w' := by
  have hl : n = bs.length + 1 := by have := hr.1; simp [encB] at this; omega
  subst hl
  have h8 : f.toNat / 8 % 2 * 8 = 8 := by
    simp [onF] at hf
    omega
  have ha := and8 f
  rw [h8] at ha
  obtain ⟨ad, e, hbl, hcell⟩ := hr.2 (by omega)
  injection e with e
  subst e
  have h0 := hcell 0 (.int .u8 p.toNat) rfl
  have hob := hb.lt
  have k1 : ¬ ((bs.length + 1 : Nat) : Int) = 0 := by omega
  have k2 : (0 : Int) < ((bs.length + 1 : Nat) : Int) := by omega
  have k3 : (1 : Int) ≤ ((bs.length + 1 : Nat) : Int) := by omega
  simp only [Addr.add, if_true] at h0 hbl
  have hcs1 : ∃ u, cs[1]? = some u := ⟨cs[1], Array.getElem?_eq_getElem (by omega)⟩
  obtain ⟨u1, hu1⟩ := hcs1
  have Hr := Lib.hid hr
  have HB := Lib.hid hb
  clear hr hcell
  have kp : wrap64 (p.toNat : Int) = (p.toNat : Int) := wrap64_small _ (by omega) (by have := p.toNat_lt; omega)
  by_cases hlt : bs.length < p.toNat
  · have k4 : (bs.length : Int) < (p.toNat : Int) := by omega
    simp only [if_pos hlt]
    go_enter Try.func26, Try.ntmps26
    go_wp2_with (go_at_call 34; refine (padded_ _ t).mono ?_; rintro e w1 ⟨rfl, rfl⟩; rw [hp]; obtain ⟨w1, hw1⟩ : ∃ w1, w1 = w.alloc (.cells #[.int .i64 t, .int .i64 f.toNat, .int .i64 s, .slice (some ⟨b, off, none⟩) (bs.length + 1) c] 24) := ⟨_, rfl⟩; have KB := Lib.hid (show Keep [] w w1 by rw [hw1]; exact (Keep.refl _ _).alloc _); have BF := Blk.new w 24 #[.int .i64 t, .int .i64 f.toNat, .int .i64 s, .slice (some ⟨b, off, none⟩) (bs.length + 1) c]; rw [← hw1] at BF ⊢; clear hw1; have d1 := BF.cell 1; simp at d1; have BO := HB.out.keep KB.out (by simp); have o1 := (BO.cell 1).trans hu1; have o1f := BO.frozen 1; have h0' := (KB.out.cell (p := ⟨b, off, none⟩) (by simp; omega) (by simp)).trans h0; clear h0)
    all_goals go_ret2
    all_goals refine ⟨rfl, ?_, ?_⟩
    all_goals first
      | exact BO.set_ 1 _
      | exact ((KB.out.more (by simp)).setCell (p := ⟨ob, 1, none⟩) (.inl (by simp)) _)
  · have k4 : ¬ (bs.length : Int) < (p.toNat : Int) := by omega
    have k5 : (0 : Int) ≤ (bs.length : Int) - (p.toNat : Int) := by omega
    have k6 : IntKind.i64.wrap ((bs.length : Int) - (p.toNat : Int)) = (bs.length : Int) - (p.toNat : Int) := by rw [IntKind.wrap_i64]; omega
    have k7 : (bs.length : Int) - (p.toNat : Int) ≤ (c - 1 : Nat) := by omega
    have k8 : ((bs.length : Int) - (p.toNat : Int)).toNat = bs.length - p.toNat := by omega
    simp only [if_neg hlt]
    go_enter Try.func26, Try.ntmps26
    go_wp2_with (go_at_call 34; refine (padded_ _ t).mono ?_; rintro e w1 ⟨rfl, rfl⟩; rw [hp]; obtain ⟨w1, hw1⟩ : ∃ w1, w1 = w.alloc (.cells #[.int .i64 t, .int .i64 f.toNat, .int .i64 s, .slice (some ⟨b, off, none⟩) (bs.length + 1) c] 24) := ⟨_, rfl⟩; have KB := Lib.hid (show Keep [] w w1 by rw [hw1]; exact (Keep.refl _ _).alloc _); have BF := Blk.new w 24 #[.int .i64 t, .int .i64 f.toNat, .int .i64 s, .slice (some ⟨b, off, none⟩) (bs.length + 1) c]; rw [← hw1] at BF ⊢; clear hw1; have d1 := BF.cell 1; simp at d1; have BO := HB.out.keep KB.out (by simp); have o1 := (BO.cell 1).trans hu1; have o1f := BO.frozen 1; have h0' := (KB.out.cell (p := ⟨b, off, none⟩) (by simp; omega) (by simp)).trans h0; clear h0)
    all_goals go_ret2
    all_goals refine ⟨rfl, ?_, ?_⟩
    all_goals first
      | exact BO.set_ 1 _
      | exact ((KB.out.more (by simp)).setCell (p := ⟨ob, 1, none⟩) (.inl (by simp)) _)
end
def prioC (cs : Array Value) (N : Nat) (x : UInt8) : Array Value :=
  let d : Int := ((N % 2147483648 : Nat) : Int)
  let e : Bool := N / 2147483648 == 1
  let y : Int := (x.toNat : Int) + 1
  (((cs.setIfInBounds 2 (.bool true)).setIfInBounds 3 (.bool e)).setIfInBounds 4 (.int .i64 d)).setIfInBounds 5 (.int .i64 y)
def exclN (N : Nat) : Bool := N / 2147483648 == 1
theorem byte_wrap (x : UInt8) : wrap64 (x.toNat : Int) = (x.toNat : Int) := wrap64_small _ (by omega) (by have := x.toNat_lt; omega)
theorem byte_wrap1 (x : UInt8) : wrap64 ((x.toNat : Int) + 1) = (x.toNat : Int) + 1 := wrap64_small _ (by omega) (by have := x.toNat_lt; omega)
theorem excl_eq (N : Nat) : (((N : Int) / 2147483648) == 1) = exclN N := by unfold exclN; rw [Bool.eq_iff_iff]; simp; omega
section
variable (w : World)
set_option maxHeartbeats 1000000 in
theorem prio_ (b off n c ob : Nat) {cs : Array Value} {ty : TypeId} {bs : List UInt8} (hb : Blk w ob ty cs) (hs : cs.size = 11) (hr : Reads w ob 1 (some ⟨b, off, none⟩) n (encB bs)) (hn : 5 ≤ n) (hc : n ≤ c) (hc2 : c ≤ 9223372036854775807) :
    Calls Try.prog 29 #[.slice (some ⟨b, off, none⟩) n c, .pointer (some ⟨ob, 0, none⟩)] w fun e w' => e = .returned (.tuple #[]) ∧ Blk w' ob ty (prioC cs (numB (bs.take 4)) (bs.getD 4 0)) ∧ Keep [ob] w w' := by
  have hl : bs.length = n := by have := hr.1; rw [encB_len] at this; omega
  have hnum := number_ (c := c) w (reads_mid hr 0 4 (by omega) (by omega)) (by omega)
  rw [List.drop_zero, Nat.add_zero] at hnum
  have hlt := numB_lt 4 (bs.take 4) (by rw [List.length_take]; omega)
  have ha := i64_and31 (numB (bs.take 4)) (by omega)
  obtain ⟨N, hN⟩ : ∃ N, N = numB (bs.take 4) := ⟨_, rfl⟩
  rw [← hN] at hnum hlt ha ⊢
  obtain ⟨ad, e, hbl, hcell⟩ := hr.2 (by omega)
  injection e with e
  subst e
  have h4 := hcell 4 _ (encB_get (by omega))
  have e4 : bs.getD 4 0 = bs[4] := by simp [List.getD_eq_getElem?_getD, List.getElem?_eq_getElem (show 4 < bs.length by omega)]
  rw [e4]
  obtain ⟨x4, hx4⟩ : ∃ x4, x4 = bs[4] := ⟨_, rfl⟩
  rw [← hx4] at h4 ⊢
  have hx := x4.toNat_lt
  simp [Addr.add] at h4 hbl
  have hob := hb.lt
  have k2 : (4 : Int) < (n : Int) := by omega
  have k3 : (4 : Int) ≤ (c : Int) := by omega
  have HN := Lib.hid hnum
  have HB := Lib.hid hb
  obtain ⟨u2, q2⟩ : ∃ u, cs[2]? = some u := ⟨cs[2], Array.getElem?_eq_getElem (by omega)⟩
  obtain ⟨u3, q3⟩ : ∃ u, cs[3]? = some u := ⟨cs[3], Array.getElem?_eq_getElem (by omega)⟩
  obtain ⟨u4, q4⟩ : ∃ u, cs[4]? = some u := ⟨cs[4], Array.getElem?_eq_getElem (by omega)⟩
  obtain ⟨u5, q5⟩ : ∃ u, cs[5]? = some u := ⟨cs[5], Array.getElem?_eq_getElem (by omega)⟩
  have c2 := (hb.cell 2).trans q2
  have c3 := (hb.cell 3).trans q3
  have c4 := (hb.cell 4).trans q4
  have c5 := (hb.cell 5).trans q5
  have f2 := hb.frozen 2
  have f3 := hb.frozen 3
  have f4 := hb.frozen 4
  have f5 := hb.frozen 5
  have kw2 := byte_wrap1 x4
  have kw := byte_wrap x4
  clear hnum hr hcell hN hx4 hb hs e4 hlt hl q2 q3 q4 q5 hn hx hob
  have ke := excl_eq N
  go_enter Try.func29, Try.ntmps29
  go_wp2_with (go_at_call 23; refine HN.out.mono ?_; rintro e w1 ⟨rfl, rfl⟩)
  have BF := (((HB.out.set_ 2 (.bool true)).set_ 3 (.bool (exclN N))).set_ 4 (.int .i64 ((N : Int) % 2147483648))).set_ 5 (.int .i64 ((x4.toNat : Int) + 1))
  clear HN HB ha h4 c2 c3 c4 c5 f2 f3 f4 f5 kw kw2 ke
  refine bodyPost_end (results_none rfl _ _ _) rfl ?_
  refine ⟨rfl, ?_, ?_⟩
  · have e : prioC cs N x4 = (((cs.setIfInBounds 2 (.bool true)).setIfInBounds 3 (.bool (exclN N))).setIfInBounds 4 (.int .i64 ((N : Int) % 2147483648))).setIfInBounds 5 (.int .i64 ((x4.toNat : Int) + 1)) := rfl
    rw [e]
    exact BF
  · exact (((((Keep.refl [ob] w).setCell (p := ⟨ob, 2, none⟩) (.inl (by simp)) _).setCell (p := ⟨ob, 3, none⟩) (.inl (by simp)) _).setCell (p := ⟨ob, 4, none⟩) (.inl (by simp)) _).setCell (p := ⟨ob, 5, none⟩) (.inl (by simp)) _)
end
inductive Bare where
  | bad (code : Int)
  | ok (pad : Int) (r : List UInt8)
def bareF (t : Nat) (f : UInt8) (bs : List UInt8) : Bare :=
  if padF t = true ∧ onF f 8 = true then
    match bs with
    | [] => .bad 6
    | p :: r => if r.length < p.toNat then .bad 1 else .ok p.toNat (r.take (r.length - p.toNat))
  else .ok 0 bs
def BareGives (ob : Nat) (ty : TypeId) (cs : Array Value) (w : World) : Bare → Ending → World → Prop
  | .bad k, e, w' => e = .returned (.tuple #[.slice none 0 0, .int .i64 k]) ∧ (∃ cs', Blk w' ob ty cs' ∧ cs'.size = 11) ∧ Keep [ob] w w'
  | .ok pad r, e, w' => ∃ A c, e = .returned (.tuple #[.slice A r.length c, .int .i64 0]) ∧ Reads w' ob 1 A r.length (encB r) ∧ r.length ≤ c ∧ c ≤ 9223372036854775807 ∧ Blk w' ob ty (cs.setIfInBounds 1 (.int .i64 pad)) ∧ Keep [ob] w w'
theorem bare_ (w : World) (t : Nat) (f : UInt8) (s : Int) (A : Option Addr) (n c ob : Nat) {cs : Array Value} {ty : TypeId} {bs : List UInt8} (hb : Blk w ob ty cs) (hs : cs.size = 11) (h1 : cs[1]? = some (.int .i64 0))
    (hr : Reads w ob 1 A n (encB bs)) (hc : n ≤ c) (hc2 : c ≤ 9223372036854775807) :
    Calls Try.prog 26 #[.agg #[.int .i64 t, .int .i64 f.toNat, .int .i64 s, .slice A n c], .pointer (some ⟨ob, 0, none⟩)] w (BareGives ob ty cs w (bareF t f bs)) := by
  have hl : bs.length = n := by have := hr.1; rw [encB_len] at this; omega
  unfold bareF
  by_cases h : padF t = true ∧ onF f 8 = true
  · rw [if_pos h]
    cases bs with
    | nil =>
      obtain rfl : n = 0 := by simpa using hl.symm
      refine (bare_none w t f s A c ob h.1 h.2).mono ?_
      rintro e w' ⟨rfl, k⟩
      exact ⟨rfl, ⟨cs, hb.keep k (by simp), hs⟩, k.more (by simp)⟩
    | cons p r =>
      obtain ⟨b, off, rfl, hbb, hcell⟩ := hr.plain (by simp at hl; omega) (by omega)
      refine (bare_on w t f s b off n c ob h.1 h.2 hb hs hr hc hc2).mono ?_
      rintro e w' ⟨rfl, hb', k⟩
      simp only [List.length_cons] at hl
      by_cases hp : r.length < p.toNat
      · simp only [if_pos hp]
        exact ⟨rfl, ⟨_, hb', by simp [hs]⟩, k⟩
      · simp only [if_neg hp]
        have hl2 : (r.take (r.length - p.toNat)).length = r.length - p.toNat := by rw [List.length_take]; omega
        refine ⟨if c = 1 then some ⟨b, off, none⟩ else some ⟨b, off + 1, none⟩, c - 1, by rw [hl2], ?_, by rw [hl2]; omega, by omega, hb', k⟩
        rw [hl2]
        by_cases h0 : r.length - p.toNat = 0
        · rw [h0]
          exact ⟨by simp [encB], fun h => absurd h (by omega)⟩
        · have hr1 := reads_mid (hr.only (b := ob) ⟨k.os, k.tape, k.output, k.size, fun i hi hn => k.block i hi (by simpa using fun e => hn (by rw [e]))⟩ (by have := hb.lt; omega) (fun ad e => by injection e with e; subst e; simp; omega)) 1 (r.length - p.toNat) (by omega) (by omega)
          rw [if_neg (by omega)]
          simpa using hr1
  · rw [if_neg h]
    refine (bare_off w t f s A n c ob h).mono ?_
    rintro e w' ⟨rfl, k⟩
    refine ⟨A, c, by rw [hl], by rw [hl]; exact hr.keeps k (by have := hb.lt; omega) (by simp), by omega, hc2, ?_, k.more (by simp)⟩
    have e : cs.setIfInBounds 1 (.int .i64 0) = cs := by
      apply Array.ext_getElem?
      intro i
      rw [Array.getElem?_setIfInBounds]
      split
      · rename_i hi
        subst hi
        rw [if_pos (by omega), h1]
      · rfl
    rw [e]
    exact hb.keep k (by simp)
end Go.Proofs.Ytbngoaonkhcciaa
