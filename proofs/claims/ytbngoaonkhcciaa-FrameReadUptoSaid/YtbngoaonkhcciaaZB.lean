/- Own texts in one: Br Aux Put Bd. -/
import Derived.Test.YtbngoaonkhcciaaZA
import Derived.Test.YtbngoaonkhcciaaZP
/-! #### Br -/
set_option linter.all false
namespace Go.Proofs.Ytbngoaonkhcciaa
open Go.ChangeShapes Go.WideShapes Go.ChangeAt Go.RowKit Go.Proofs.YtbngoaonkhcciaaW.PrintWords Go.Proofs.YtbngoaonkhcciaaW.PrintMore
attribute [local go_sem] setCell_drewN alloc_drewN
def numB (bs : List UInt8) : Nat := bs.foldl (fun n c => n * 256 + c.toNat) 0
theorem numB_snoc (bs : List UInt8) (c : UInt8) : numB (bs ++ [c]) = numB bs * 256 + c.toNat := by simp [numB]
theorem numB_lt : ∀ (k : Nat) (bs : List UInt8), bs.length = k → numB bs < 256 ^ k
  | 0, bs, h => by obtain rfl := List.eq_nil_of_length_eq_zero h; simp [numB]
  | k + 1, bs, h => by
    obtain ⟨a, c, rfl⟩ : ∃ a c, bs = a ++ [c] := ⟨bs.dropLast, bs.getLast (by intro e; rw [e] at h; simp at h), (List.dropLast_concat_getLast _).symm⟩
    rw [numB_snoc, Nat.pow_succ]
    have := numB_lt k a (by simpa using h)
    have := c.toNat_lt
    omega
theorem numB_lt4 (bs : List UInt8) (h : bs.length = 4) : numB bs < 4294967296 := Nat.lt_of_lt_of_eq (numB_lt 4 bs h) (by decide)
theorem ofInt64 (a : Nat) (h : a < 4611686018427387904) : (BitVec.ofInt 64 (a : Int)).toNat = a := by
  rw [BitVec.toNat_ofInt]; omega
theorem i64_or_nat (a b : Nat) (ha : a < 4611686018427387904) (hb : b < 4611686018427387904) : bits .or .i64 (a : Int) (b : Int) = ((a ||| b : Nat) : Int) := by
  have hx : a ||| b < 2 ^ 62 := Nat.or_lt_two_pow (by omega) (by omega)
  show IntKind.i64.wrap ((BitVec.ofInt 64 (a : Int) ||| BitVec.ofInt 64 (b : Int)).toNat : Int) = _
  rw [BitVec.toNat_or, ofInt64 a ha, ofInt64 b hb]
  simp [IntKind.wrap, IntKind.signed, IntKind.bits]
  omega
theorem i64_and_nat (a b : Nat) (ha : a < 4611686018427387904) (hb : b < 4611686018427387904) : bits .and .i64 (a : Int) (b : Int) = ((a &&& b : Nat) : Int) := by
  have hx : a &&& b < 2 ^ 62 := Nat.and_lt_two_pow _ (by omega)
  show IntKind.i64.wrap ((BitVec.ofInt 64 (a : Int) &&& BitVec.ofInt 64 (b : Int)).toNat : Int) = _
  rw [BitVec.toNat_and, ofInt64 a ha, ofInt64 b hb]
  simp [IntKind.wrap, IntKind.signed, IntKind.bits]
  omega
theorem i64_or_byte (a c : Nat) (ha : a < 4294967296) (hc : c < 256) : bits .or .i64 ((a : Int) * 256) (c : Int) = ((a * 256 + c : Nat) : Int) := by
  have h := i64_or_nat (a * 256) c (by omega) (by omega)
  have e : a * 256 ||| c = a * 256 + c := by
    have := Nat.two_pow_add_eq_or_of_lt (i := 8) (b := c) (by omega) a
    rw [show (2 : Nat) ^ 8 * a = a * 256 by omega] at this
    exact this.symm
  rw [e] at h
  rw [← h]
  simp
theorem i64_and31 (a : Nat) (ha : a < 4611686018427387904) : bits .and .i64 (a : Int) 2147483647 = ((a % 2147483648 : Nat) : Int) := by
  have h := i64_and_nat a 2147483647 ha (by omega)
  have e : a &&& 2147483647 = a % 2147483648 := by
    have := Nat.and_two_pow_sub_one_eq_mod a 31
    simpa using this
  rw [e] at h
  exact h
theorem wrap64_small (x : Int) (h1 : 0 ≤ x) (h2 : x < 4611686018427387904) : wrap64 x = x := by unfold wrap64; omega
section
variable (w : World) {A : Option Addr} {n c B : Nat} {bs : List UInt8}
theorem number_ (hr : Reads w B 1 A n (encB bs)) (hn : n ≤ 4) :
    Calls Try.prog 23 #[.slice A n c] w fun e w' => e = .returned (.int .i64 (numB bs)) ∧ w = w' := by
  have hl : bs.length = n := by have := hr.1; rw [encB_len] at this; omega
  have Hr := Lib.hid hr
  clear hr
  go_enter Try.func23, Try.ntmps23
  go_wp2
  go_loopw [3, 5, 8] (fun v3 _ vi wr => ∃ i : Nat, vi = .int .i64 i ∧ i ≤ n ∧ v3 = .int .i64 (numB (bs.take i)) ∧ wr = w) (fun _ _ vi _ => n - (intOf vi).toNat)
  case atStart => exact ⟨0, rfl, by omega, by simp [numB], rfl⟩
  case round =>
    obtain ⟨i, rfl, hi, rfl, rfl⟩ := hrel
    by_cases hlt : i < n
    · have k1 : (i : Int) < (n : Int) := by omega
      obtain ⟨ad, rfl, hb, hc⟩ := Hr.out.2 (by omega)
      have hg : (encB bs)[i]? = some (.int .u8 (bs[i].toNat : Int)) := encB_get (by omega)
      have hcell := hc i _ hg
      have hlt2 : numB (bs.take i) < 256 ^ i := numB_lt i _ (by rw [List.length_take]; omega)
      have hlt3 : numB (bs.take i) < 4294967296 := Nat.lt_of_lt_of_le hlt2 (Nat.le_trans (Nat.pow_le_pow_right (by omega) (show i ≤ 4 by omega)) (by omega))
      have hcb := (bs[i]).toNat_lt
      have htake : bs.take (i + 1) = bs.take i ++ [bs[i]] := by rw [List.take_succ, List.getElem?_eq_getElem (by omega)]; rfl
      go_wp2
      refine ⟨⟨i + 1, by simp, by omega, ?_, trivial⟩, by simp [intOf]; omega⟩
      rw [htake, numB_snoc, i64_or_byte _ _ hlt3 (by omega)]
    · have k1 : ¬ (i : Int) < (n : Int) := by omega
      have hin : i = n := by omega
      subst hin
      go_wp2
      go_ret
      rw [List.take_of_length_le (by omega)]
      exact ⟨rfl, rfl⟩
theorem reads_mid {w : World} {B n : Nat} {b o : Nat} {bs : List UInt8} (h : Reads w B 1 (some ⟨b, o, none⟩) n (encB bs)) (k m : Nat) (hk : k + m ≤ n) (hm : 0 < m) : Reads w B 1 (some ⟨b, o + k, none⟩) m (encB ((bs.drop k).take m)) := by
  have hl := h.1
  rw [encB_len] at hl
  refine ⟨by rw [encB_len, List.length_take, List.length_drop]; omega, fun _ => ?_⟩
  obtain ⟨ad, e, hb, hc⟩ := h.2 (by omega)
  injection e with e
  subst e
  refine ⟨_, rfl, hb, fun j u hu => ?_⟩
  have hj := (List.getElem?_eq_some_iff.1 hu).1
  rw [encB_len, List.length_take, List.length_drop] at hj
  have h2 := hc (k + j) u (by rw [← hu, encB_take, encB_drop, List.getElem?_take, if_pos (by omega), List.getElem?_drop])
  have ea : ∀ q, (⟨b, o, none⟩ : Addr).add q = ⟨b, o + q, none⟩ := fun q => by unfold Addr.add; split <;> simp_all
  have eb : (⟨b, o + k, none⟩ : Addr).add j = ⟨b, o + (k + j), none⟩ := by unfold Addr.add; split <;> simp_all <;> omega
  rw [eb]
  rw [ea] at h2
  exact h2
end
def ints (bs : List UInt8) : List Int := bs.map fun b => (b.toNat : Int)
theorem ints_len (bs : List UInt8) : (ints bs).length = bs.length := by simp [ints]
theorem ints_app (a b : List UInt8) : ints (a ++ b) = ints a ++ ints b := by simp [ints]
theorem ints_take (a : List UInt8) (n : Nat) : ints (a.take n) = (ints a).take n := by simp [ints, List.map_take]
theorem ints_drop (a : List UInt8) (n : Nat) : ints (a.drop n) = (ints a).drop n := by simp [ints, List.map_drop]
theorem encs_ints (bs : List UInt8) : encs (Value.int .u8) (ints bs) = encB bs := by simp [encs, ints, encB]
section
variable {w : World} {A : Option Addr} {B n base : Nat} {t : TypeId} {v : Value} {bs : List UInt8}
theorem C_of (h : Reads w B 1 A n (encB bs)) (hn : n ≤ 9223372036854775807) : Kd.C (Kd.int .u8) w A (ints bs).length (ints bs) := by
  have hl : bs.length = n := by have := h.1; rw [encB_len] at this; omega
  refine ⟨rfl, by rw [ints_len]; omega, fun h0 => ?_⟩
  rw [ints_len] at h0
  obtain ⟨ad, e, _, hc⟩ := h.2 (by omega)
  refine ⟨ad, e, fun j p hp => ⟨[.int .u8 p], rfl, rfl, fun i u hu => ?_⟩⟩
  match i, hu with
  | 0, hu =>
    simp at hu
    subst hu
    show w.cell? (ad.add (j * 1 + 0)) = _
    rw [Nat.mul_one, Nat.add_zero]
    refine hc j _ ?_
    rw [← encs_ints]
    simp [encs, hp]
theorem Row1.of_R {ok : Nat → Prop} (h : Kd.R (Kd.int .u8) t w base ok v (ints bs)) : Row1 w base t v (encB bs) := by
  have := Kd.own_of_R h
  rw [encs_ints] at this
  exact Row1.of_own this
end
theorem Row1.lower {w : World} {b b' : Nat} {t : TypeId} {v : Value} {xs : List Value} (h : Row1 w b t v xs) (hb : b' ≤ b) : Row1 w b' t v xs := by
  obtain ⟨A, cap, rfl, h1, h2, h⟩ := h
  refine ⟨A, cap, rfl, h1, h2, ?_⟩
  rcases h with h | ⟨g, off, cs, rfl, hg, r⟩
  · exact .inl h
  · exact .inr ⟨g, off, cs, rfl, by omega, r⟩
/-! ### a number in so many bytes -/
def beI : Nat → Int → List Int
  | 0, _ => []
  | k + 1, n => (n / 256 ^ k) % 256 :: beI k n
def beB : Nat → Int → List UInt8
  | 0, _ => []
  | k + 1, n => UInt8.ofNat ((n / 256 ^ k) % 256).toNat :: beB k n
theorem beB_len : ∀ k n, (beB k n).length = k
  | 0, _ => rfl
  | k + 1, n => by simp [beB, beB_len k n]
theorem ints_be : ∀ k n, ints (beB k n) = beI k n
  | 0, _ => rfl
  | k + 1, n => by
    have := ints_be k n
    have h1 : 0 ≤ (n / 256 ^ k) % 256 := Int.emod_nonneg _ (by omega)
    have h2 : (n / 256 ^ k) % 256 < 256 := Int.emod_lt_of_pos _ (by omega)
    simp only [beB, beI]
    rw [← this]
    simp only [ints, List.map_cons, UInt8.toNat_ofNat']
    congr 1
    omega
theorem shr_be (n : Int) (k : Nat) (hk : k < 8) : Go.Proofs.YtbngoaonkhcciaaW.PrintWords.shr .i64 n (8 * (k : Int)) = n / 256 ^ k := by
  have e : (256 : Int) ^ k = 2 ^ (8 * k) := by rw [Int.pow_mul]; rfl
  have e2 : min (8 * (k : Int)).toNat IntKind.i64.bits = 8 * k := by simp [IntKind.bits]; omega
  unfold Go.Proofs.YtbngoaonkhcciaaW.PrintWords.shr
  rw [e, e2]
theorem lay_l (n : Int) : ∀ (d k : Nat) (xs : List Int), d ≤ 8 → d < k → xs.length + d ≤ 140737488355328 → PLay.frame_lay.l0 k xs n ((d : Int) - 1) = some (xs ++ beI d n)
  | 0, k, xs, _, hk, _ => by
    obtain ⟨k, rfl⟩ : ∃ m, k = m + 1 := ⟨k - 1, by omega⟩
    simp only [PLay.frame_lay.l0]
    rw [if_neg (by omega)]
    simp [beI]
  | d + 1, k, xs, hd, hk, hx => by
    obtain ⟨k, rfl⟩ : ∃ m, k = m + 1 := ⟨k - 1, by omega⟩
    simp only [PLay.frame_lay.l0]
    have e1 : wrap64 (8 * (((d + 1 : Nat) : Int) - 1)) = 8 * (d : Int) := by unfold wrap64; omega
    have e2 : wrap64 (((d + 1 : Nat) : Int) - 1 - 1) = (d : Int) - 1 := by unfold wrap64; omega
    rw [if_pos (by omega), e1, e2, if_pos (by omega), if_pos (by omega), shr_be n d (by omega), lay_l n d k _ (by omega) (by omega) (by simp; omega)]
    simp [beI]
theorem lay_f (n : Int) (d : Nat) (xs : List Int) (hd : d ≤ 8) (hx : xs.length + d ≤ 140737488355328) : PLay.frame_lay.f (d + 1) xs d n = some (xs ++ beI d n) := by
  unfold PLay.frame_lay.f
  rw [show wrap64 ((d : Int) - 1) = (d : Int) - 1 by unfold wrap64; omega]
  exact lay_l n d (d + 1) xs hd (by omega) hx
/-- 'lay' onto a row of the call's own -/
theorem lay_ (w0 w : World) (v : Value) (n d : Nat) (x : Int) (bs : List UInt8) (hB : Below w0.heap.size w0 w) (ho : w.ownsRow w0.heap.size 5 1 v n (encB bs)) (hd : d ≤ 8) (hx : n + d ≤ 140737488355328) :
    Calls Try.prog 21 #[v, .int .i64 d, .int .i64 x] w fun e w' => ∃ v', e = .returned v' ∧ w'.ownsRow w0.heap.size 5 1 v' (n + d) (encB (bs ++ beB d x)) ∧ Below w0.heap.size w0 w' ∧ (v'.ownBlock = none ∨ v'.ownBlock = v.ownBlock ∨ ∃ b, v'.ownBlock = some b ∧ w.heap.size ≤ b) ∧ Keep v.ownBlock.toList w w' := by
  have hl : bs.length = n := by have := ho.1; rw [encB_len] at this; omega
  refine (PLay.frame_lay.calls (d + 1) (fun k => some k = v.ownBlock) v (ints bs) d x (ints bs ++ beI d x) w0 w hB (Kd.R_of_own (by rw [encs_ints, ints_len, hl]; exact ho) (fun k h => h.symm)) (lay_f x d _ hd (by rw [ints_len]; omega))).mono ?_
  rintro e w' ⟨v', rfl, hr, hb, hk⟩
  have h2 := Kd.own_of_R hr
  rw [← ints_be, ← ints_app, encs_ints] at h2
  refine ⟨v', rfl, ?_, hb, ?_, ?_⟩
  · have e : (ints (bs ++ beB d x)).length = n + d := by rw [ints_len, List.length_append, beB_len]; omega
    rw [← e]
    exact h2
  · cases hv : v'.ownBlock with
    | none => exact .inl rfl
    | some b =>
      right
      rcases hr.1 b hv with h | h
      · exact .inl h
      · exact .inr ⟨b, rfl, h⟩
  · refine ⟨hb.os.trans hB.os.symm, hb.tape.trans hB.tape.symm, hb.output.trans hB.output.symm, hk.1, fun i hi hn => hk.2 i hi (fun h => hn ?_)⟩
    rw [← h]
    simp
theorem reads_from {w : World} {B n : Nat} {b o : Nat} {bs : List UInt8} (h : Reads w B 1 (some ⟨b, o, none⟩) n (encB bs)) (k : Nat) (hk : k ≤ n) : Reads w B 1 (some ⟨b, o + k, none⟩) (n - k) (encB (bs.drop k)) := by
  have hl : bs.length = n := by have := h.1; rw [encB_len] at this; omega
  by_cases he : k = n
  · exact ⟨by rw [encB_len, List.length_drop]; omega, fun h => absurd h (by omega)⟩
  have := reads_mid h k (n - k) (by omega) (by omega)
  rw [List.take_of_length_le (by rw [List.length_drop]; omega)] at this
  exact this
def lenOf : Value → Nat
  | .slice _ n _ => n
  | _ => 0
def encS (l : List (Int × Int)) : List Value := l.flatMap fun p => [.int .i64 p.1, .int .i64 p.2]
theorem encS_len (l : List (Int × Int)) : (encS l).length = l.length * 2 := by induction l with
  | nil => rfl
  | cons a l ih => simp [encS] at ih ⊢; omega
theorem encS_app (a b : List (Int × Int)) : encS (a ++ b) = encS a ++ encS b := by simp [encS]
theorem encS_one (l : List (Int × Int)) : ∀ u ∈ encS l, u.oneCell' = true := by
  intro u hu
  simp only [encS, List.mem_flatMap] at hu
  obtain ⟨p, _, hp⟩ := hu
  simp at hp
  rcases hp with rfl | rfl <;> rfl
def setsN : Nat → List UInt8 → List (Int × Int)
  | 0, _ => []
  | j + 1, r => setsN j r ++ [((numB ((r.drop (6 * j)).take 2) : Int), (numB ((r.drop (6 * j + 2)).take 4) : Int))]
theorem setsN_len : ∀ j r, (setsN j r).length = j
  | 0, _ => rfl
  | j + 1, r => by simp [setsN, setsN_len j r]
theorem set_info : ∃ i z, Try.prog.info? 44 = some i ∧ i.zero = some z ∧ i.size = 2 ∧ i.bytes = 16 ∧ z.cells.size = 2 := by
  obtain ⟨i, hi⟩ : ∃ i, Try.prog.info? 44 = some i := Option.isSome_iff_exists.1 (by kernel_rfl)
  have h : (Try.prog.info? 44).map (fun i => (i.size, i.bytes, i.zero.map (·.cells.size))) = some (2, 16, some 2) := by kernel_rfl
  rw [hi] at h
  simp only [Option.map_some, Option.some.injEq, Prod.mk.injEq] at h
  obtain ⟨h1, h2, h3⟩ := h
  cases hz : i.zero with
  | none => rw [hz] at h3; simp at h3
  | some z =>
    rw [hz] at h3
    exact ⟨i, z, hi, hz, h1, h2, by simpa using h3⟩
theorem own_lower {w : World} {b b' : Nat} {e : TypeId} {size n : Nat} {v : Value} {xs : List Value} (h : w.ownsRow b e size v n xs) (hb : b' ≤ b) : w.ownsRow b' e size v n xs := by
  refine ⟨h.1, ?_⟩
  rcases h.2 with h2 | ⟨g, cap, cur, rfl, hg, r⟩
  · exact .inl h2
  · exact .inr ⟨g, cap, cur, rfl, by omega, r⟩
end Go.Proofs.Ytbngoaonkhcciaa
/-! #### Aux -/
set_option linter.all false
namespace Go.Proofs.Ytbngoaonkhcciaa
open Go.ChangeShapes Go.WideShapes Go.ChangeAt Go.RowKit
attribute [local go_sem] setCell_drewN alloc_drewN Oper.semAt_some
theorem land8 : ∀ m : Nat, m < 256 → m &&& 8 = m / 8 % 2 * 8 := by decide +kernel
theorem land32 : ∀ m : Nat, m < 256 → m &&& 32 = m / 32 % 2 * 32 := by decide +kernel
theorem land1 : ∀ m : Nat, m < 256 → m &&& 1 = m % 2 := by decide +kernel
theorem and8 (f : UInt8) : bits .and .i64 (f.toNat : Int) 8 = ((f.toNat / 8 % 2 * 8 : Nat) : Int) := by
  have h := i64_and_nat f.toNat 8 (by have := f.toNat_lt; omega) (by omega)
  rw [land8 _ (by have := f.toNat_lt; omega)] at h
  exact h
theorem and32 (f : UInt8) : bits .and .i64 (f.toNat : Int) 32 = ((f.toNat / 32 % 2 * 32 : Nat) : Int) := by
  have h := i64_and_nat f.toNat 32 (by have := f.toNat_lt; omega) (by omega)
  rw [land32 _ (by have := f.toNat_lt; omega)] at h
  exact h
theorem and1 (f : UInt8) : bits .and .i64 (f.toNat : Int) 1 = ((f.toNat % 2 : Nat) : Int) := by
  have h := i64_and_nat f.toNat 1 (by have := f.toNat_lt; omega) (by omega)
  rw [land1 _ (by have := f.toNat_lt; omega)] at h
  exact h
/-! ### what they tell -/
def padF (t : Nat) : Bool := t == 0 || t == 1 || t == 5
def onF (f : UInt8) (k : Nat) : Bool := f.toNat / k % 2 == 1
def placeF (t : Nat) : Int := if t = 0 ∨ t = 1 ∨ t = 2 ∨ t = 3 ∨ t = 5 ∨ t = 9 then 1 else if t = 4 ∨ t = 6 ∨ t = 7 then 0 else -1
def sizeF (t : Nat) (f : UInt8) (n : Nat) : Bool :=
  if t = 1 then !onF f 32 || decide (5 ≤ n) else if t = 2 then n == 5 else if t = 3 ∨ t = 8 then n == 4 else if t = 4 then n % 6 == 0 && (!onF f 1 || n == 0)
  else if t = 5 then decide (4 ≤ n) else if t = 6 then n == 8 else if t = 7 then decide (8 ≤ n) else true
section
variable (w : World)
theorem padded_ (t : Nat) : Calls Try.prog 34 #[.int .i64 t] w fun e w' => e = .returned (.bool (padF t)) ∧ w = w' := by
  go_enter Try.func34, Try.ntmps34
  by_cases h0 : t = 0
  · subst h0
    go_wp2
    go_ret
    exact ⟨rfl, rfl⟩
  have k0 : ¬ (t : Int) = 0 := by omega
  by_cases h1 : t = 1
  · subst h1
    go_wp2
    go_ret
    exact ⟨rfl, rfl⟩
  have k1 : ¬ (t : Int) = 1 := by omega
  go_wp2
  go_ret
  refine ⟨?_, rfl⟩
  have e : ((t : Int) == 5) = (t == 5) := by rw [Bool.eq_iff_iff]; simp; omega
  have e0 : ((t : Int) == 0) = (t == 0) := by rw [Bool.eq_iff_iff]; simp
  have e1 : ((t : Int) == 1) = (t == 1) := by rw [Bool.eq_iff_iff]; simp; omega
  simp [padF, e0, e1, e]
theorem place_ (t : Nat) : Calls Try.prog 25 #[.int .i64 t] w fun e w' => e = .returned (.int .i64 (placeF t)) ∧ Keep [] w w' := by
  have q : ∀ r, PLay.frame_place.f 1 t = some r → Calls Try.prog 25 #[.int .i64 t] w fun e w' => e = .returned (.int .i64 r) ∧ Keep [] w w' := fun r h =>
    (PLay.frame_place.calls 1 t r w h).mono fun e w' ⟨he, hd⟩ => ⟨he, Keep.of_below hd.below⟩
  apply q
  unfold PLay.frame_place.f placeF
  simp only [PLay.frame_place.j0]
  repeat' split
  all_goals first | rfl | (exfalso; omega) | (exfalso; simp_all; done) | (exfalso; simp_all; omega)
theorem sized_ (t : Nat) (f : UInt8) (s : Int) {A : Option Addr} {n c : Nat} {bs : List UInt8} (hr : Reads w w.heap.size 1 A n (encB bs)) (hc : n ≤ c) (hc2 : c ≤ 9223372036854775807) (m : Nat) :
    Calls Try.prog 27 #[.agg #[.int .i64 t, .int .i64 f.toNat, .int .i64 s, .slice A n c], .int .i64 m] w fun e w' => e = .returned (.bool (sizeF t f m)) ∧ Keep [] w w' := by
  have hl : bs.length = n := by have := hr.1; rw [encB_len] at this; omega
  have q : ∀ r, PLay.frame_sized.f 1 t f.toNat s (ints bs) m = some r → Calls Try.prog 27 #[.agg #[.int .i64 t, .int .i64 f.toNat, .int .i64 s, .slice A n c], .int .i64 m] w fun e w' => e = .returned (.bool r) ∧ Keep [] w w' := fun r h => by
    have := (PLay.frame_sized.calls 1 t f.toNat s A c (ints bs) m r w (C_of hr (by omega)) (by rw [ints_len]; omega) h).mono fun e w' ⟨he, hd⟩ => (⟨he, Keep.of_below hd⟩ : _ ∧ Keep [] w w')
    rw [ints_len, hl] at this
    exact this
  apply q
  unfold PLay.frame_sized.f sizeF onF
  simp only [PLay.frame_sized.j0]
  rw [and32, and1]
  have e6 : Int.tmod (m : Int) 6 = ((m % 6 : Nat) : Int) := by rw [Int.tmod_eq_emod_of_nonneg (by omega)]; omega
  rw [e6]
  have x1 : ((t : Int) = 1) = (t = 1) := by simp; omega
  have x2 : ((t : Int) = 2) = (t = 2) := by simp; omega
  have x3 : ((t : Int) = 3) = (t = 3) := by simp; omega
  have x4 : ((t : Int) = 4) = (t = 4) := by simp; omega
  have x5 : ((t : Int) = 5) = (t = 5) := by simp; omega
  have x6 : ((t : Int) = 6) = (t = 6) := by simp; omega
  have x7 : ((t : Int) = 7) = (t = 7) := by simp; omega
  have y3 : (((t : Int) == 3) = true) = (t = 3) := by simp; omega
  have y8 : (((t : Int) == 8) = true) = (t = 8) := by simp; omega
  have z5 : ((m : Int) == 5) = (m == 5) := by rw [Bool.eq_iff_iff]; simp; omega
  have z4 : ((m : Int) == 4) = (m == 4) := by rw [Bool.eq_iff_iff]; simp; omega
  have z8 : ((m : Int) == 8) = (m == 8) := by rw [Bool.eq_iff_iff]; simp; omega
  have z0 : ((m : Int) == 0) = (m == 0) := by rw [Bool.eq_iff_iff]; simp
  have g5 : decide ((m : Int) ≥ 5) = decide (5 ≤ m) := by simp; omega
  have g4 : decide ((m : Int) ≥ 4) = decide (4 ≤ m) := by simp; omega
  have g8 : decide ((m : Int) ≥ 8) = decide (8 ≤ m) := by simp; omega
  have q32 : (((f.toNat / 32 % 2 * 32 : Nat) : Int) = 0) = ¬ (f.toNat / 32 % 2 = 1) := by simp; omega
  have q1 : (((f.toNat % 2 : Nat) : Int) = 0) = ¬ (f.toNat % 2 = 1) := by simp; omega
  have q6 : (((m % 6 : Nat) : Int) = 0) = (m % 6 = 0) := by simp; omega
  simp only [x1, x2, x3, x4, x5, x6, x7, y3, y8, z5, z4, z8, z0, g5, g4, g8, q32, q1, q6, Nat.div_one]
  clear x1 x2 x3 x4 x5 x6 x7 y3 y8 z5 z4 z8 z0 g5 g4 g8 q32 q1 q6 e6 q hr
  by_cases h1 : t = 1
  · subst h1
    by_cases hf : f.toNat / 32 % 2 = 1 <;> simp [hf]
  by_cases h2 : t = 2
  · subst h2; simp
  by_cases h3 : t = 3
  · subst h3; simp
  by_cases h8 : t = 8
  · subst h8; simp
  by_cases h4 : t = 4
  · subst h4
    by_cases hf : f.toNat % 2 = 1 <;> by_cases hm : m % 6 = 0 <;> simp [hf, hm]
  simp only [h1, h2, h3, h8, h4, if_false, or_self]
  by_cases h5 : t = 5
  · subst h5; simp
  by_cases h6 : t = 6
  · subst h6; simp
  by_cases h7 : t = 7
  · subst h7; simp
  simp [h5, h6, h7]
end
/-! ### bare, prio: what they leave in the body -/
section
variable (w : World)
theorem bare_off (t : Nat) (f : UInt8) (s : Int) (A : Option Addr) (n c ob : Nat) (h : ¬ (padF t = true ∧ onF f 8 = true)) :
    Calls Try.prog 26 #[.agg #[.int .i64 t, .int .i64 f.toNat, .int .i64 s, .slice A n c], .pointer (some ⟨ob, 0, none⟩)] w fun e w' => e = .returned (.tuple #[.slice A n c, .int .i64 0]) ∧ Keep [] w w' := by
  go_enter Try.func26, Try.ntmps26
  cases hp : padF t with
  | false =>
    go_wp2_with (go_at_call 34; refine (padded_ _ t).mono ?_; rintro e w1 ⟨rfl, rfl⟩; rw [hp])
    go_ret2
    exact ⟨rfl, (Keep.refl _ _).alloc _⟩
  | true =>
    have h8 : f.toNat / 8 % 2 * 8 = 0 := by
      have : ¬ (f.toNat / 8 % 2 = 1) := fun e => h ⟨hp, by simp [onF, e]⟩
      omega
    have ha := and8 f
    rw [h8] at ha
    go_wp2_with (go_at_call 34; refine (padded_ _ t).mono ?_; rintro e w1 ⟨rfl, rfl⟩; rw [hp])
    go_ret2
    exact ⟨rfl, (Keep.refl _ _).alloc _⟩
theorem bare_none (t : Nat) (f : UInt8) (s : Int) (A : Option Addr) (c ob : Nat) (hp : padF t = true) (hf : onF f 8 = true) :
    Calls Try.prog 26 #[.agg #[.int .i64 t, .int .i64 f.toNat, .int .i64 s, .slice A 0 c], .pointer (some ⟨ob, 0, none⟩)] w fun e w' => e = .returned (.tuple #[.slice none 0 0, .int .i64 6]) ∧ Keep [] w w' := by
  have h8 : f.toNat / 8 % 2 * 8 = 8 := by
    simp [onF] at hf
    omega
  have ha := and8 f
  rw [h8] at ha
  go_enter Try.func26, Try.ntmps26
  go_wp2_with (go_at_call 34; refine (padded_ _ t).mono ?_; rintro e w1 ⟨rfl, rfl⟩; rw [hp])
  go_ret2
  exact ⟨rfl, (Keep.refl _ _).alloc _⟩
theorem bare_on (t : Nat) (f : UInt8) (s : Int) (b off n c ob : Nat) {cs : Array Value} {ty : TypeId} {p : UInt8} {bs : List UInt8} (hp : padF t = true) (hf : onF f 8 = true) (hb : Blk w ob ty cs) (hs : cs.size = 11)
    (hr : Reads w ob 1 (some ⟨b, off, none⟩) n (encB (p :: bs))) (hc : n ≤ c) (hc2 : c ≤ 9223372036854775807) :
    Calls Try.prog 26 #[.agg #[.int .i64 t, .int .i64 f.toNat, .int .i64 s, .slice (some ⟨b, off, none⟩) n c], .pointer (some ⟨ob, 0, none⟩)] w fun e w' => e = .returned (.tuple (if bs.length < p.toNat then #[.slice none 0 0, .int .i64 1] else #[.slice (if c = 1 then some ⟨b, off, none⟩ else some ⟨b, off + 1, none⟩) (bs.length - p.toNat) (c - 1), .int .i64 0])) ∧ Blk w' ob ty (cs.setIfInBounds 1 (.int .i64 p.toNat)) ∧ Keep [ob] w w' := by
  have hl : n = bs.length + 1 := by have := hr.1; simp [encB] at this; omega
  subst hl
  have h8 : f.toNat / 8 % 2 * 8 = 8 := by
    simp [onF] at hf
    omega
  have ha := and8 f
  rw [h8] at ha
  obtain ⟨ad, e, hbl, hcell⟩ := hr.2 (by omega)
  injection e with e
  subst e
  have h0 := hcell 0 (.int .u8 p.toNat) rfl
  have hob := hb.lt
  have k1 : ¬ ((bs.length + 1 : Nat) : Int) = 0 := by omega
  have k2 : (0 : Int) < ((bs.length + 1 : Nat) : Int) := by omega
  have k3 : (1 : Int) ≤ ((bs.length + 1 : Nat) : Int) := by omega
  simp only [Addr.add, if_true] at h0 hbl
  have hcs1 : ∃ u, cs[1]? = some u := ⟨cs[1], Array.getElem?_eq_getElem (by omega)⟩
  obtain ⟨u1, hu1⟩ := hcs1
  have Hr := Lib.hid hr
  have HB := Lib.hid hb
  clear hr hcell
  have kp : wrap64 (p.toNat : Int) = (p.toNat : Int) := wrap64_small _ (by omega) (by have := p.toNat_lt; omega)
  by_cases hlt : bs.length < p.toNat
  · have k4 : (bs.length : Int) < (p.toNat : Int) := by omega
    simp only [if_pos hlt]
    go_enter Try.func26, Try.ntmps26
    go_wp2_with (go_at_call 34; refine (padded_ _ t).mono ?_; rintro e w1 ⟨rfl, rfl⟩; rw [hp]; obtain ⟨w1, hw1⟩ : ∃ w1, w1 = w.alloc (.cells #[.int .i64 t, .int .i64 f.toNat, .int .i64 s, .slice (some ⟨b, off, none⟩) (bs.length + 1) c] 24) := ⟨_, rfl⟩; have KB := Lib.hid (show Keep [] w w1 by rw [hw1]; exact (Keep.refl _ _).alloc _); have BF := Blk.new w 24 #[.int .i64 t, .int .i64 f.toNat, .int .i64 s, .slice (some ⟨b, off, none⟩) (bs.length + 1) c]; rw [← hw1] at BF ⊢; clear hw1; have d1 := BF.cell 1; simp at d1; have BO := HB.out.keep KB.out (by simp); have o1 := (BO.cell 1).trans hu1; have o1f := BO.frozen 1; have h0' := (KB.out.cell (p := ⟨b, off, none⟩) (by simp; omega) (by simp)).trans h0; clear h0)
    all_goals go_ret2
    all_goals refine ⟨rfl, ?_, ?_⟩
    all_goals first
      | exact BO.set_ 1 _
      | exact ((KB.out.more (by simp)).setCell (p := ⟨ob, 1, none⟩) (.inl (by simp)) _)
  · have k4 : ¬ (bs.length : Int) < (p.toNat : Int) := by omega
    have k5 : (0 : Int) ≤ (bs.length : Int) - (p.toNat : Int) := by omega
    have k6 : IntKind.i64.wrap ((bs.length : Int) - (p.toNat : Int)) = (bs.length : Int) - (p.toNat : Int) := by rw [IntKind.wrap_i64]; omega
    have k7 : (bs.length : Int) - (p.toNat : Int) ≤ (c - 1 : Nat) := by omega
    have k8 : ((bs.length : Int) - (p.toNat : Int)).toNat = bs.length - p.toNat := by omega
    simp only [if_neg hlt]
    go_enter Try.func26, Try.ntmps26
    go_wp2_with (go_at_call 34; refine (padded_ _ t).mono ?_; rintro e w1 ⟨rfl, rfl⟩; rw [hp]; obtain ⟨w1, hw1⟩ : ∃ w1, w1 = w.alloc (.cells #[.int .i64 t, .int .i64 f.toNat, .int .i64 s, .slice (some ⟨b, off, none⟩) (bs.length + 1) c] 24) := ⟨_, rfl⟩; have KB := Lib.hid (show Keep [] w w1 by rw [hw1]; exact (Keep.refl _ _).alloc _); have BF := Blk.new w 24 #[.int .i64 t, .int .i64 f.toNat, .int .i64 s, .slice (some ⟨b, off, none⟩) (bs.length + 1) c]; rw [← hw1] at BF ⊢; clear hw1; have d1 := BF.cell 1; simp at d1; have BO := HB.out.keep KB.out (by simp); have o1 := (BO.cell 1).trans hu1; have o1f := BO.frozen 1; have h0' := (KB.out.cell (p := ⟨b, off, none⟩) (by simp; omega) (by simp)).trans h0; clear h0)
    all_goals go_ret2
    all_goals refine ⟨rfl, ?_, ?_⟩
    all_goals first
      | exact BO.set_ 1 _
      | exact ((KB.out.more (by simp)).setCell (p := ⟨ob, 1, none⟩) (.inl (by simp)) _)
end
def prioC (cs : Array Value) (N : Nat) (x : UInt8) : Array Value :=
  let d : Int := ((N % 2147483648 : Nat) : Int)
  let e : Bool := N / 2147483648 == 1
  let y : Int := (x.toNat : Int) + 1
  (((cs.setIfInBounds 2 (.bool true)).setIfInBounds 3 (.bool e)).setIfInBounds 4 (.int .i64 d)).setIfInBounds 5 (.int .i64 y)
def exclN (N : Nat) : Bool := N / 2147483648 == 1
theorem byte_wrap (x : UInt8) : wrap64 (x.toNat : Int) = (x.toNat : Int) := wrap64_small _ (by omega) (by have := x.toNat_lt; omega)
theorem byte_wrap1 (x : UInt8) : wrap64 ((x.toNat : Int) + 1) = (x.toNat : Int) + 1 := wrap64_small _ (by omega) (by have := x.toNat_lt; omega)
theorem excl_eq (N : Nat) : (((N : Int) / 2147483648) == 1) = exclN N := by unfold exclN; rw [Bool.eq_iff_iff]; simp; omega
section
variable (w : World)
set_option maxHeartbeats 1000000 in
theorem prio_ (b off n c ob : Nat) {cs : Array Value} {ty : TypeId} {bs : List UInt8} (hb : Blk w ob ty cs) (hs : cs.size = 11) (hr : Reads w ob 1 (some ⟨b, off, none⟩) n (encB bs)) (hn : 5 ≤ n) (hc : n ≤ c) (hc2 : c ≤ 9223372036854775807) :
    Calls Try.prog 29 #[.slice (some ⟨b, off, none⟩) n c, .pointer (some ⟨ob, 0, none⟩)] w fun e w' => e = .returned (.tuple #[]) ∧ Blk w' ob ty (prioC cs (numB (bs.take 4)) (bs.getD 4 0)) ∧ Keep [ob] w w' := by
  have hl : bs.length = n := by have := hr.1; rw [encB_len] at this; omega
  have hnum := number_ (c := c) w (reads_mid hr 0 4 (by omega) (by omega)) (by omega)
  rw [List.drop_zero, Nat.add_zero] at hnum
  have hlt := numB_lt 4 (bs.take 4) (by rw [List.length_take]; omega)
  have ha := i64_and31 (numB (bs.take 4)) (by omega)
  obtain ⟨N, hN⟩ : ∃ N, N = numB (bs.take 4) := ⟨_, rfl⟩
  rw [← hN] at hnum hlt ha ⊢
  obtain ⟨ad, e, hbl, hcell⟩ := hr.2 (by omega)
  injection e with e
  subst e
  have h4 := hcell 4 _ (encB_get (by omega))
  have e4 : bs.getD 4 0 = bs[4] := by simp [List.getD_eq_getElem?_getD, List.getElem?_eq_getElem (show 4 < bs.length by omega)]
  rw [e4]
  obtain ⟨x4, hx4⟩ : ∃ x4, x4 = bs[4] := ⟨_, rfl⟩
  rw [← hx4] at h4 ⊢
  have hx := x4.toNat_lt
  simp [Addr.add] at h4 hbl
  have hob := hb.lt
  have k2 : (4 : Int) < (n : Int) := by omega
  have k3 : (4 : Int) ≤ (c : Int) := by omega
  have HN := Lib.hid hnum
  have HB := Lib.hid hb
  obtain ⟨u2, q2⟩ : ∃ u, cs[2]? = some u := ⟨cs[2], Array.getElem?_eq_getElem (by omega)⟩
  obtain ⟨u3, q3⟩ : ∃ u, cs[3]? = some u := ⟨cs[3], Array.getElem?_eq_getElem (by omega)⟩
  obtain ⟨u4, q4⟩ : ∃ u, cs[4]? = some u := ⟨cs[4], Array.getElem?_eq_getElem (by omega)⟩
  obtain ⟨u5, q5⟩ : ∃ u, cs[5]? = some u := ⟨cs[5], Array.getElem?_eq_getElem (by omega)⟩
  have c2 := (hb.cell 2).trans q2
  have c3 := (hb.cell 3).trans q3
  have c4 := (hb.cell 4).trans q4
  have c5 := (hb.cell 5).trans q5
  have f2 := hb.frozen 2
  have f3 := hb.frozen 3
  have f4 := hb.frozen 4
  have f5 := hb.frozen 5
  have kw2 := byte_wrap1 x4
  have kw := byte_wrap x4
  clear hnum hr hcell hN hx4 hb hs e4 hlt hl q2 q3 q4 q5 hn hx hob
  have ke := excl_eq N
  go_enter Try.func29, Try.ntmps29
  go_wp2_with (go_at_call 23; refine HN.out.mono ?_; rintro e w1 ⟨rfl, rfl⟩)
  have BF := (((HB.out.set_ 2 (.bool true)).set_ 3 (.bool (exclN N))).set_ 4 (.int .i64 ((N : Int) % 2147483648))).set_ 5 (.int .i64 ((x4.toNat : Int) + 1))
  clear HN HB ha h4 c2 c3 c4 c5 f2 f3 f4 f5 kw kw2 ke
  refine bodyPost_end (results_none rfl _ _ _) rfl ?_
  refine ⟨rfl, ?_, ?_⟩
  · have e : prioC cs N x4 = (((cs.setIfInBounds 2 (.bool true)).setIfInBounds 3 (.bool (exclN N))).setIfInBounds 4 (.int .i64 ((N : Int) % 2147483648))).setIfInBounds 5 (.int .i64 ((x4.toNat : Int) + 1)) := rfl
    rw [e]
    exact BF
  · exact (((((Keep.refl [ob] w).setCell (p := ⟨ob, 2, none⟩) (.inl (by simp)) _).setCell (p := ⟨ob, 3, none⟩) (.inl (by simp)) _).setCell (p := ⟨ob, 4, none⟩) (.inl (by simp)) _).setCell (p := ⟨ob, 5, none⟩) (.inl (by simp)) _)
end
inductive Bare where
  | bad (code : Int)
  | ok (pad : Int) (r : List UInt8)
def bareF (t : Nat) (f : UInt8) (bs : List UInt8) : Bare :=
  if padF t = true ∧ onF f 8 = true then
    match bs with
    | [] => .bad 6
    | p :: r => if r.length < p.toNat then .bad 1 else .ok p.toNat (r.take (r.length - p.toNat))
  else .ok 0 bs
def BareGives (ob : Nat) (ty : TypeId) (cs : Array Value) (w : World) : Bare → Ending → World → Prop
  | .bad k, e, w' => e = .returned (.tuple #[.slice none 0 0, .int .i64 k]) ∧ (∃ cs', Blk w' ob ty cs' ∧ cs'.size = 11) ∧ Keep [ob] w w'
  | .ok pad r, e, w' => ∃ A c, e = .returned (.tuple #[.slice A r.length c, .int .i64 0]) ∧ Reads w' ob 1 A r.length (encB r) ∧ r.length ≤ c ∧ c ≤ 9223372036854775807 ∧ Blk w' ob ty (cs.setIfInBounds 1 (.int .i64 pad)) ∧ Keep [ob] w w'
theorem bare_ (w : World) (t : Nat) (f : UInt8) (s : Int) (A : Option Addr) (n c ob : Nat) {cs : Array Value} {ty : TypeId} {bs : List UInt8} (hb : Blk w ob ty cs) (hs : cs.size = 11) (h1 : cs[1]? = some (.int .i64 0))
    (hr : Reads w ob 1 A n (encB bs)) (hc : n ≤ c) (hc2 : c ≤ 9223372036854775807) :
    Calls Try.prog 26 #[.agg #[.int .i64 t, .int .i64 f.toNat, .int .i64 s, .slice A n c], .pointer (some ⟨ob, 0, none⟩)] w (BareGives ob ty cs w (bareF t f bs)) := by
  have hl : bs.length = n := by have := hr.1; rw [encB_len] at this; omega
  unfold bareF
  by_cases h : padF t = true ∧ onF f 8 = true
  · rw [if_pos h]
    cases bs with
    | nil =>
      obtain rfl : n = 0 := by simpa using hl.symm
      refine (bare_none w t f s A c ob h.1 h.2).mono ?_
      rintro e w' ⟨rfl, k⟩
      exact ⟨rfl, ⟨cs, hb.keep k (by simp), hs⟩, k.more (by simp)⟩
    | cons p r =>
      obtain ⟨b, off, rfl, hbb, hcell⟩ := hr.plain (by simp at hl; omega) (by omega)
      refine (bare_on w t f s b off n c ob h.1 h.2 hb hs hr hc hc2).mono ?_
      rintro e w' ⟨rfl, hb', k⟩
      simp only [List.length_cons] at hl
      by_cases hp : r.length < p.toNat
      · simp only [if_pos hp]
        exact ⟨rfl, ⟨_, hb', by simp [hs]⟩, k⟩
      · simp only [if_neg hp]
        have hl2 : (r.take (r.length - p.toNat)).length = r.length - p.toNat := by rw [List.length_take]; omega
        refine ⟨if c = 1 then some ⟨b, off, none⟩ else some ⟨b, off + 1, none⟩, c - 1, by rw [hl2], ?_, by rw [hl2]; omega, by omega, hb', k⟩
        rw [hl2]
        by_cases h0 : r.length - p.toNat = 0
        · rw [h0]
          exact ⟨by simp [encB], fun h => absurd h (by omega)⟩
        · have hr1 := reads_mid (hr.only (b := ob) ⟨k.os, k.tape, k.output, k.size, fun i hi hn => k.block i hi (by simpa using fun e => hn (by rw [e]))⟩ (by have := hb.lt; omega) (fun ad e => by injection e with e; subst e; simp; omega)) 1 (r.length - p.toNat) (by omega) (by omega)
          rw [if_neg (by omega)]
          simpa using hr1
  · rw [if_neg h]
    refine (bare_off w t f s A n c ob h).mono ?_
    rintro e w' ⟨rfl, k⟩
    refine ⟨A, c, by rw [hl], by rw [hl]; exact hr.keeps k (by have := hb.lt; omega) (by simp), by omega, hc2, ?_, k.more (by simp)⟩
    have e : cs.setIfInBounds 1 (.int .i64 0) = cs := by
      apply Array.ext_getElem?
      intro i
      rw [Array.getElem?_setIfInBounds]
      split
      · rename_i hi
        subst hi
        rw [if_pos (by omega), h1]
      · rfl
    rw [e]
    exact hb.keep k (by simp)
end Go.Proofs.Ytbngoaonkhcciaa
/-! #### Put -/
set_option linter.all false
namespace Go.Proofs.Ytbngoaonkhcciaa
open Go.ChangeShapes Go.WideShapes Go.ChangeAt Go.RowKit Go.Proofs.YtbngoaonkhcciaaW.PrintWords
attribute [local go_sem] setCell_drewN alloc_drewN Oper.semAt_some
theorem wpIn_made {F : Fence} {n : Nat} {P : Program} {o : Oper} {a : Act} {w w' : World} {v : Value} {K : Act → World → Prop} {Q : Exit → Act → World → Prop} {t : TypeId} {l c : Operand} (ho : o.op = .makeSlice t l c)
    (h : (Instr.makeSlice t (a.eval l) (a.eval c)).run P w = .ok v w') (hK : K (a.put o.dst v) w') : o.wpIn F n P a w K Q := by
  unfold Oper.wpIn
  have hrun : (execOp a.eval o).run P w = .ok (.value v) w' := by unfold execOp; simp only [ho, Sem.run_bind, h, Result.andThen_ok]; rfl
  rw [Oper.semAt_eq _ _ _ (fun c e => by rw [ho] at e; cases e), hrun]
  have ha : o.about P w a.eval = none := by simp [Oper.about, ho]
  rw [ha]
  refine ⟨fun f hf => (by cases hf), ?_⟩
  rw [Oper.uponIn_value]
  exact hK
section
variable (w : World) {A : Option Addr} {n c : Nat} {bs : List UInt8} {t f s : Int}
set_option maxHeartbeats 2000000 in
theorem put_ (tb fb : UInt8) (hr : Reads w w.heap.size 1 A n (encB bs)) (h5 : ¬ s < 0) (h6 : ¬ 2147483647 < s) (h : ¬ 16777215 < n) :
    Calls Try.prog 10 #[.agg #[.int .i64 tb.toNat, .int .i64 fb.toNat, .int .i64 s, .slice A n c]] w fun e w' => ∃ v, e = .returned (.tuple #[v, .int .i64 0]) ∧ Row1 w' w.heap.size 5 v (encB (beB 3 n ++ [tb, fb] ++ beB 4 s ++ bs)) ∧ Keep [] w w' := by
  have h7 : ¬ (16777215 : Int) < (n : Int) := by omega
  have ltb := tb.toNat_lt
  have lfb := fb.toNat_lt
  have h1 : ¬ (tb.toNat : Int) < 0 := by omega
  have h2 : ¬ (255 : Int) < (tb.toNat : Int) := by omega
  have h3 : ¬ (fb.toNat : Int) < 0 := by omega
  have h4 : ¬ (255 : Int) < (fb.toNat : Int) := by omega
  have e1 : IntKind.u8.wrap (tb.toNat : Int) = (tb.toNat : Int) := by rw [IntKind.wrap_u8]; omega
  have e2 : IntKind.u8.wrap (fb.toNat : Int) = (fb.toNat : Int) := by rw [IntKind.wrap_u8]; omega
  have Hr := Lib.hid hr
  clear hr
  go_enter Try.func10, Try.ntmps10
  go_wp2_with (fail)
  obtain ⟨cs, hcs⟩ : ∃ cs : Array Value, cs = #[.int .i64 tb.toNat, .int .i64 fb.toNat, .int .i64 s, .slice A n c] := ⟨_, rfl⟩
  rw [← hcs]
  obtain ⟨w1, hw1⟩ : ∃ w1, w1 = w.alloc (.cells cs 24) := ⟨_, rfl⟩
  have K1 : Keep [] w w1 := by rw [hw1]; exact (Keep.refl _ _).alloc _
  have b1 : Blk w1 w.heap.size 24 cs := by rw [hw1]; exact Blk.new _ _ _
  have sz1 : w1.heap.size = w.heap.size + 1 := by rw [hw1]; simp
  rw [← hw1]
  clear hw1
  obtain ⟨g, hg⟩ : ∃ g, g = w.heap.size := ⟨_, rfl⟩
  rw [← hg] at b1 sz1 ⊢
  have HS := Lib.hid h
  have H1 := Lib.hid (And.intro h5 h6)
  have HE1 := Lib.hid e1
  have HE2 := Lib.hid e2
  clear h h1 h2 h3 h4 h5 h6 h7 e1 e2 ltb lfb
  refine wpIn_wide.1 (region_rtc (n := 0) [(4, true), (8, false), (9, false)] []
    [(0, .pointer (some ⟨g, 3, none⟩)), (1, .slice A n c), (2, .int .i64 n), (3, .int .i64 (9 + n : Int)), (5, .pointer (some ⟨g, 3, none⟩)), (6, .slice A n c), (7, .int .i64 n)]
    (fun W => Keep [] w1 W) (by kernel_rfl) (by kernel_rfl) ((Keep.refl _ _).drew) ?_ ?_)
  · simp only [evOkC, putAll, List.getElem?_toArray, List.getElem?_cons_zero, List.getElem?_cons_succ, Option.bind_some, Act.put, List.setIfInBounds_toArray, List.set_cons_zero, List.set_cons_succ]
    repeat' apply And.intro
    all_goals first
      | exact trivial
      | (intro W hW; have hc := (b1.keep hW (by simp)).cell 3; rw [hcs] at hc; simp at hc; refine gives_read rfl ?_; simp [go_sem, hc, Addr.add]; done)
      | skip
    · intro W hW
      have e : IntKind.i64.wrap (9 + (n : Int)) = 9 + (n : Int) := by rw [IntKind.wrap_i64]; have := HS.out; omega
      exact gives_read rfl (by simp [go_sem, e]; done)
  · simp only [putAll, List.getElem?_toArray, List.getElem?_cons_zero, List.getElem?_cons_succ, Option.bind_some, Act.put, List.setIfInBounds_toArray, List.set_cons_zero, List.set_cons_succ]
    obtain ⟨i0, z0, hi, hz, hz0, hz1, hz2⟩ := u8_info
    have hmk := run_make (P := Try.prog) w1.drew 22 5 i0 z0 Try.underlying22 hi hz .i64 .i64 0 (9 + (n : Int)) (by omega) (by omega) (by rw [hz1]; have := HS.out; omega) (by have := HS.out; omega)
    refine tail_wanted rfl rfl ?_
    refine wpIn_made rfl hmk ?_
    refine ⟨rfl, ⟨fun _ => (Keep.refl _ _).drew.alloc _, gHolds_none rfl⟩, ?_⟩
    have hown : (w1.drew.alloc (.cells (madeCells z0.cells ((9 + (n : Int)).toNat * i0.size)) 5)).ownsRow w1.heap.size 5 1 (.slice (some ⟨w1.heap.size, 0, none⟩) 0 (9 + (n : Int)).toNat) 0 (encB []) := by
      refine ⟨rfl, .inr ⟨w1.heap.size, _, madeCells z0.cells ((9 + (n : Int)).toNat * i0.size), rfl, Nat.le_refl _, ?_, by omega, ?_, ?_, rfl⟩⟩
      · exact Blk.new w1.drew _ _
      · have := HS.out
        unfold maxLen
        omega
      · rw [size_madeCells, hz0]
    obtain ⟨W2, hW2⟩ : ∃ W2, W2 = w1.drew.alloc (.cells (madeCells z0.cells ((9 + (n : Int)).toNat * i0.size)) 5) := ⟨_, rfl⟩
    have K2 : Keep [] w1 W2 := by rw [hW2]; exact (Keep.refl _ _).drew.alloc _
    have L2 := Lib.hid (lay_ w1 W2 _ 0 3 n [] (K2.below (Nat.le_refl _) (by simp)) (by rw [hW2]; exact hown) (by omega) (by omega))
    rw [← hW2]
    clear hW2 hown hmk
    refine tail_wanted rfl rfl ?_
    simp [go_sem]
    refine ⟨trivial, rfl, (callsIn_wide.2 L2.out).mono ?_⟩
    rintro e W3 ⟨v3, rfl, o3, B3, m3, k3⟩
    refine ⟨gHolds_none rfl, ?_⟩
    refine tail_wanted rfl rfl ?_
    simp [go_sem]
    refine ⟨gHolds_none rfl, ?_⟩
    unfold wpTailG
    go_at_K
    have KK3 : Keep [] w1 W3 := ⟨B3.os, B3.tape, B3.output, B3.size, fun i hi _ => B3.block i hi⟩
    have c3 := b1.keep KK3 (by simp)
    have HK1 := Lib.hid K1
    rw [hcs] at c3
    have d0 := c3.cell 0
    have d1 := c3.cell 1
    simp at d0 d1
    have o3 : W3.ownsRow w1.heap.size 5 1 v3 3 (encB (beB 3 n)) := by simpa using o3
    have HCS := Lib.hid hcs
    have HO3 := Lib.hid o3
    have HHi := Lib.hid hi
    have HHz := Lib.hid (And.intro hz (And.intro hz0 (And.intro hz1 hz2)))
    have HB3 := Lib.hid B3
    have Hsz1 := Lib.hid sz1
    have Hb1 := Lib.hid b1
    have e1 := HE1.out
    have e2 := HE2.out
    clear o3 B3 m3 k3 KK3 K2 L2 hcs K1 sz1 hg b1
    clear hi hz hz0 hz1 hz2
    go_wp2_with (at_builtin; apply wpList_append_any _ rfl _ _ _ rfl w1.heap.size 5 i0 z0 1 1 Try.underlying22 HHi.out HHz.out.1 HHz.out.2.1 HHz.out.2.2.1 HHz.out.2.2.2 (by omega) v3 3 (encB (beB 3 n)) rfl (own_keep HO3.out ((Keep.refl [] W3).alloc _) (by simp)) (W3.heap.size + 1) (some ⟨W3.heap.size, 0, none⟩) 2 2 (encB [tb, fb]) rfl (reads_new W3 #[.int .u8 tb.toNat, .int .u8 fb.toNat] 5 (0, 0) 1 2 rfl) encB_one (by unfold maxLen; omega) (by omega) (by have := HB3.out.size; simp; omega); intro v4 W4 o4 g4 m4)
    rw [← encB_append] at o4
    have g4' : W3.grownBy W4 v3.ownBlock := ⟨g4.os, g4.tape, g4.output, by have := g4.size; simp at this; omega, fun i hi hne => (g4.block i (by simp; omega) hne).trans (Below.heap_alloc _ _ _ hi)⟩
    have own3 := own_lt HO3.out
    have base3 := own_base HO3.out
    have B4 : Below w1.heap.size w1 W4 := HB3.out.grown g4' HB3.out.size (fun k hk => base3 k hk)
    have KK4 : Keep [] w1 W4 := ⟨B4.os, B4.tape, B4.output, B4.size, fun i hi _ => B4.block i hi⟩
    have b4 := Hb1.out.keep KK4 (by simp)
    have HO4 := Lib.hid o4
    have HB4 := Lib.hid B4
    have Hb4 := Lib.hid b4
    have rp4 := Lib.hid (Hr.out.keeps (HK1.out.trans KK4) (Nat.le_refl _) (by simp))
    have sz4 := Lib.hid (show w1.heap.size ≤ W4.heap.size from B4.size)
    have ne4 : ∀ k, v4.ownBlock = some k → w1.heap.size ≤ k := own_base o4
    have Hne4 := Lib.hid ne4
    have L4 := Lib.hid (fun W (hB : Below w1.heap.size w1 W) (ho : W.ownsRow w1.heap.size 5 1 v4 5 (encB (beB 3 n ++ [tb, fb]))) => lay_ w1 W v4 5 4 s (beB 3 n ++ [tb, fb]) hB ho (by omega) (by omega))
    clear o4 g4 m4 g4' own3 base3 B4 KK4 b4 ne4 HO3 HB3 c3 d0 d1 e1 e2 o3
    refine wpIn_wide.1 (region_rtc (n := 0) [(3, true), (6, false), (7, false), (8, false)] []
      [(0, v4), (1, .pointer (some ⟨g, 2, none⟩)), (2, .int .i64 s), (4, .pointer (some ⟨g, 3, none⟩)), (5, .slice A n c)]
      (fun W => Keep [] w1 W) (by kernel_rfl) (by kernel_rfl) ⟨HB4.out.os, HB4.out.tape, HB4.out.output, HB4.out.size, fun i hi _ => HB4.out.block i hi⟩ ?_ ?_)
    · simp only [evOkC, putAll, List.getElem?_toArray, List.getElem?_cons_zero, List.getElem?_cons_succ, Option.bind_some, Act.put, List.setIfInBounds_toArray, List.set_cons_zero, List.set_cons_succ]
      repeat' apply And.intro
      all_goals first
        | exact trivial
        | (intro W hW; have hc := (Hb1.out.keep hW (by simp)).cell 3; have hc2 := (Hb1.out.keep hW (by simp)).cell 2; rw [HCS.out] at hc hc2; simp at hc hc2; refine gives_read rfl ?_; simp [go_sem, hc, hc2, Addr.add]; done)
    · simp only [putAll, List.getElem?_toArray, List.getElem?_cons_zero, List.getElem?_cons_succ, Option.bind_some, Act.put, List.setIfInBounds_toArray, List.set_cons_zero, List.set_cons_succ]
      refine tail_wanted rfl rfl ?_
      simp [go_sem]
      refine ⟨trivial, rfl, (callsIn_wide.2 (L4.out W4.drew HB4.out.drew (own_keep HO4.out (Keep.refl [] W4).drew (by simp)))).mono ?_⟩
      rintro e W5 ⟨v5, rfl, o5, B5, m5, k5⟩
      have KK5 : Keep [] w1 W5 := ⟨B5.os, B5.tape, B5.output, B5.size, fun i hi _ => B5.block i hi⟩
      refine ⟨⟨KK5, gHolds_none rfl⟩, ?_⟩
      rw [List.append_assoc] at o5
      refine tail_wanted rfl rfl ?_
      refine wpIn_append_any W5 _ _ _ rfl w1.heap.size 5 i0 z0 1 1 Try.underlying22 HHi.out HHz.out.1 HHz.out.2.1 HHz.out.2.2.1 HHz.out.2.2.2 (by omega) v5 9 _ rfl o5 w.heap.size A n c (encB bs) rfl (Hr.out.keeps (HK1.out.trans KK5) (Nat.le_refl _) (by simp)) encB_one (by have := HS.out; unfold maxLen; omega) (by have := HS.out; omega) B5.size ?_
      intro v6 W6 o6 g6 m6
      refine ⟨rfl, ⟨(by intro h; cases h), gHolds_none rfl⟩, ?_⟩
      rw [← encB_append] at o6
      have base5 := own_base o5
      have B6 : Below w1.heap.size w1 W6 := B5.grown g6 B5.size (fun k hk => base5 k hk)
      have KF : Keep [] w W6 := HK1.out.trans ⟨B6.os, B6.tape, B6.output, B6.size, fun i hi _ => B6.block i hi⟩
      refine tail_wanted rfl rfl ?_
      simp [go_sem]
      refine ⟨gHolds_none rfl, ?_⟩
      refine tail_wanted rfl rfl ?_
      simp [go_sem]
      refine ⟨gHolds_none rfl, ?_⟩
      unfold wpTailG
      go_at_K
      go_wp2_with (fail)
      go_ret2
      refine ⟨v6, rfl, ?_, KF⟩
      rw [List.append_assoc (beB 3 n)]
      exact (Row1.of_own o6).lower (by have := HK1.out.size; omega)
end
end Go.Proofs.Ytbngoaonkhcciaa
/-! #### Bd -/
set_option linter.all false
namespace Go.Proofs.Ytbngoaonkhcciaa
open Go.ChangeShapes Go.WideShapes Go.ChangeAt Go.RowKit Go.Proofs.YtbngoaonkhcciaaW.PrintWords
structure Bd where
  data : List UInt8
  pad : Int
  prio : Bool
  excl : Bool
  dep : Int
  weight : Int
  code : Int
  last : Int
  inc : Int
  sets : List (Int × Int)
  prom : Int
def bd0 : Bd := ⟨[], 0, false, false, 0, 0, 0, 0, 0, [], 0⟩
def Bd.vals (b : Bd) (v0 v9 : Value) : Array Value := #[v0, .int .i64 b.pad, .bool b.prio, .bool b.excl, .int .i64 b.dep, .int .i64 b.weight, .int .i64 b.code, .int .i64 b.last, .int .i64 b.inc, v9, .int .i64 b.prom]
/-- what a call gives: a body of its own, and a number -/
def BodyR (W : World) (base : Nat) (e : Ending) (r : Bd × Int) : Prop :=
  ∃ v0 v9, e = .returned (.tuple #[.agg (r.1.vals v0 v9), .int .i64 r.2]) ∧ Row1 W base 5 v0 (encB r.1.data) ∧ W.ownsRow base 44 2 v9 r.1.sets.length (encS r.1.sets)
def prioB (b : Bd) (r : List UInt8) : Bd := { b with prio := true, excl := exclN (numB (r.take 4)), dep := ((numB (r.take 4) % 2147483648 : Nat) : Int), weight := ((r.getD 4 0).toNat : Int) + 1 }
def bodyF (t : Nat) (f : UInt8) (pad : Int) (r : List UInt8) : Bd :=
  let z : Bd := { bd0 with pad := pad }
  if t = 0 ∨ t = 6 ∨ t = 9 then { z with data := r }
  else if t = 1 then (if onF f 32 = true then { prioB z r with data := r.drop 5 } else { z with data := r })
  else if t = 2 then prioB z r
  else if t = 3 then { z with code := numB r }
  else if t = 4 then { z with sets := setsN (r.length / 6) r }
  else if t = 5 then { z with prom := ((numB (r.take 4) % 2147483648 : Nat) : Int), data := r.drop 4 }
  else if t = 7 then { z with last := ((numB (r.take 4) % 2147483648 : Nat) : Int), code := numB ((r.drop 4).take 4), data := r.drop 8 }
  else if t = 8 then { z with inc := ((numB r % 2147483648 : Nat) : Int) }
  else z
def readF (t : Nat) (f : UInt8) (s : Int) (bs : List UInt8) : Bd × Int :=
  if placeF t = 1 ∧ s = 0 ∨ placeF t = 0 ∧ ¬ s = 0 then (bd0, 1)
  else match bareF t f bs with
    | .bad k => (bd0, k)
    | .ok pad r => if sizeF t f r.length = true then (bodyF t f pad r, 0) else (bd0, 6)
theorem bare_code {t : Nat} {f : UInt8} {bs : List UInt8} {k : Int} (h : bareF t f bs = .bad k) : ¬ k = 0 := by
  unfold bareF at h
  split at h
  · split at h
    · injection h with h; omega
    · split at h
      · injection h with h; omega
      · cases h
  · cases h
theorem bare_len {t : Nat} {f : UInt8} {bs : List UInt8} {pad : Int} {r : List UInt8} (h : bareF t f bs = .ok pad r) : r.length ≤ bs.length := by
  unfold bareF at h
  split at h
  · split at h
    · cases h
    · split at h
      · cases h
      · injection h with h1 h2
        subst h2
        rw [List.length_take, List.length_cons]
        omega
  · injection h with h1 h2
    rw [h2]
    exact Nat.le_refl _
theorem place_one (t : Nat) : placeF t = 1 ∨ placeF t = 0 ∨ placeF t = -1 := by
  unfold placeF
  split
  · exact .inl rfl
  · split
    · exact .inr (.inl rfl)
    · exact .inr (.inr rfl)
theorem bodyR_none {W : World} {base : Nat} {e : Ending} {b : Bd} {k : Int} (h : e = .returned (.tuple #[.agg (b.vals (.slice none 0 0) (.slice none 0 0)), .int .i64 k])) (hd : b.data = []) (hs : b.sets = []) : BodyR W base e (b, k) := by
  refine ⟨_, _, h, ?_, ?_⟩
  · simp only [hd]; exact Row1.nil _ _ _
  · simp only [hs]; exact World.ownsRow_nil _ _ _ _
theorem bodyR_data {W : World} {base : Nat} {e : Ending} {b : Bd} {k : Int} {v : Value} (h : e = .returned (.tuple #[.agg (b.vals v (.slice none 0 0)), .int .i64 k])) (hd : Row1 W base 5 v (encB b.data)) (hs : b.sets = []) : BodyR W base e (b, k) := by
  refine ⟨_, _, h, hd, ?_⟩
  simp only [hs]; exact World.ownsRow_nil _ _ _ _
end Go.Proofs.Ytbngoaonkhcciaa
