/- feed: between the words of the printed texts and these texts' own; a number in so many bytes. -/
import Derived.Test.YtigdigljcalgkaaRow1
import Derived.Test.YtigdigljcalgkaaRng5
import Derived.Test.YtigdigljcalgkaaRng3
import Derived.Test.YtigdigljcalgkaaClone
import Derived.Test.YtigdigljcalgkaaPFdx
set_option linter.all false
namespace Go.Proofs.Ytigdigljcalgkaa
open Go.ChangeShapes Go.WideShapes Go.ChangeAt Go.RowKit Go.Proofs.YtigdigljcalgkaaW.PrintWords Go.Proofs.YtigdigljcalgkaaW.PrintMore
attribute [local go_sem] setCell_drewN alloc_drewN
def numB (bs : List UInt8) : Nat := bs.foldl (fun n c => n * 256 + c.toNat) 0
theorem numB_snoc (bs : List UInt8) (c : UInt8) : numB (bs ++ [c]) = numB bs * 256 + c.toNat := by simp [numB]
theorem numB_lt : ∀ (k : Nat) (bs : List UInt8), bs.length = k → numB bs < 256 ^ k
  | 0, bs, h => by obtain rfl := List.eq_nil_of_length_eq_zero h; simp [numB]
  | k + 1, bs, h => by
    obtain ⟨a, c, rfl⟩ : ∃ a c, bs = a ++ [c] := ⟨bs.dropLast, bs.getLast (by intro e; rw [e] at h; simp at h), (List.dropLast_concat_getLast _).symm⟩
    rw [numB_snoc, Nat.pow_succ]
    have := numB_lt k a (by simpa using h)
    have := c.toNat_lt
    omega
theorem numB_lt4 (bs : List UInt8) (h : bs.length = 4) : numB bs < 4294967296 := Nat.lt_of_lt_of_eq (numB_lt 4 bs h) (by decide)
theorem ofInt64 (a : Nat) (h : a < 4611686018427387904) : (BitVec.ofInt 64 (a : Int)).toNat = a := by
  rw [BitVec.toNat_ofInt]; omega
theorem i64_or_nat (a b : Nat) (ha : a < 4611686018427387904) (hb : b < 4611686018427387904) : bits .or .i64 (a : Int) (b : Int) = ((a ||| b : Nat) : Int) := by
  have hx : a ||| b < 2 ^ 62 := Nat.or_lt_two_pow (by omega) (by omega)
  show IntKind.i64.wrap ((BitVec.ofInt 64 (a : Int) ||| BitVec.ofInt 64 (b : Int)).toNat : Int) = _
  rw [BitVec.toNat_or, ofInt64 a ha, ofInt64 b hb]
  simp [IntKind.wrap, IntKind.signed, IntKind.bits]
  omega
theorem i64_and_nat (a b : Nat) (ha : a < 4611686018427387904) (hb : b < 4611686018427387904) : bits .and .i64 (a : Int) (b : Int) = ((a &&& b : Nat) : Int) := by
  have hx : a &&& b < 2 ^ 62 := Nat.and_lt_two_pow _ (by omega)
  show IntKind.i64.wrap ((BitVec.ofInt 64 (a : Int) &&& BitVec.ofInt 64 (b : Int)).toNat : Int) = _
  rw [BitVec.toNat_and, ofInt64 a ha, ofInt64 b hb]
  simp [IntKind.wrap, IntKind.signed, IntKind.bits]
  omega
theorem i64_or_byte (a c : Nat) (ha : a < 4294967296) (hc : c < 256) : bits .or .i64 ((a : Int) * 256) (c : Int) = ((a * 256 + c : Nat) : Int) := by
  have h := i64_or_nat (a * 256) c (by omega) (by omega)
  have e : a * 256 ||| c = a * 256 + c := by
    have := Nat.two_pow_add_eq_or_of_lt (i := 8) (b := c) (by omega) a
    rw [show (2 : Nat) ^ 8 * a = a * 256 by omega] at this
    exact this.symm
  rw [e] at h
  rw [← h]
  simp
theorem i64_and31 (a : Nat) (ha : a < 4611686018427387904) : bits .and .i64 (a : Int) 2147483647 = ((a % 2147483648 : Nat) : Int) := by
  have h := i64_and_nat a 2147483647 ha (by omega)
  have e : a &&& 2147483647 = a % 2147483648 := by
    have := Nat.and_two_pow_sub_one_eq_mod a 31
    simpa using this
  rw [e] at h
  exact h
theorem wrap64_small (x : Int) (h1 : 0 ≤ x) (h2 : x < 4611686018427387904) : wrap64 x = x := by unfold wrap64; omega
section
variable (w : World) {A : Option Addr} {n c B : Nat} {bs : List UInt8}
theorem number_ (hr : Reads w B 1 A n (encB bs)) (hn : n ≤ 4) :
    Calls Try.prog 24 #[.slice A n c] w fun e w' => e = .returned (.int .i64 (numB bs)) ∧ w = w' := by
  have hl : bs.length = n := by have := hr.1; rw [encB_len] at this; omega
  have Hr := Lib.hid hr
  clear hr
  go_enter Try.func24, Try.ntmps24
  go_wp2
  go_loopw [3, 5, 8] (fun v3 _ vi wr => ∃ i : Nat, vi = .int .i64 i ∧ i ≤ n ∧ v3 = .int .i64 (numB (bs.take i)) ∧ wr = w) (fun _ _ vi _ => n - (intOf vi).toNat)
  case atStart => exact ⟨0, rfl, by omega, by simp [numB], rfl⟩
  case round =>
    obtain ⟨i, rfl, hi, rfl, rfl⟩ := hrel
    by_cases hlt : i < n
    · have k1 : (i : Int) < (n : Int) := by omega
      obtain ⟨ad, rfl, hb, hc⟩ := Hr.out.2 (by omega)
      have hg : (encB bs)[i]? = some (.int .u8 (bs[i].toNat : Int)) := encB_get (by omega)
      have hcell := hc i _ hg
      have hlt2 : numB (bs.take i) < 256 ^ i := numB_lt i _ (by rw [List.length_take]; omega)
      have hlt3 : numB (bs.take i) < 4294967296 := Nat.lt_of_lt_of_le hlt2 (Nat.le_trans (Nat.pow_le_pow_right (by omega) (show i ≤ 4 by omega)) (by omega))
      have hcb := (bs[i]).toNat_lt
      have htake : bs.take (i + 1) = bs.take i ++ [bs[i]] := by rw [List.take_succ, List.getElem?_eq_getElem (by omega)]; rfl
      go_wp2
      refine ⟨⟨i + 1, by simp, by omega, ?_, trivial⟩, by simp [intOf]; omega⟩
      rw [htake, numB_snoc, i64_or_byte _ _ hlt3 (by omega)]
    · have k1 : ¬ (i : Int) < (n : Int) := by omega
      have hin : i = n := by omega
      subst hin
      go_wp2
      go_ret
      rw [List.take_of_length_le (by omega)]
      exact ⟨rfl, rfl⟩
theorem reads_mid {w : World} {B n : Nat} {b o : Nat} {bs : List UInt8} (h : Reads w B 1 (some ⟨b, o, none⟩) n (encB bs)) (k m : Nat) (hk : k + m ≤ n) (hm : 0 < m) : Reads w B 1 (some ⟨b, o + k, none⟩) m (encB ((bs.drop k).take m)) := by
  have hl := h.1
  rw [encB_len] at hl
  refine ⟨by rw [encB_len, List.length_take, List.length_drop]; omega, fun _ => ?_⟩
  obtain ⟨ad, e, hb, hc⟩ := h.2 (by omega)
  injection e with e
  subst e
  refine ⟨_, rfl, hb, fun j u hu => ?_⟩
  have hj := (List.getElem?_eq_some_iff.1 hu).1
  rw [encB_len, List.length_take, List.length_drop] at hj
  have h2 := hc (k + j) u (by rw [← hu, encB_take, encB_drop, List.getElem?_take, if_pos (by omega), List.getElem?_drop])
  have ea : ∀ q, (⟨b, o, none⟩ : Addr).add q = ⟨b, o + q, none⟩ := fun q => by unfold Addr.add; split <;> simp_all
  have eb : (⟨b, o + k, none⟩ : Addr).add j = ⟨b, o + (k + j), none⟩ := by unfold Addr.add; split <;> simp_all <;> omega
  rw [eb]
  rw [ea] at h2
  exact h2
end
def ints (bs : List UInt8) : List Int := bs.map fun b => (b.toNat : Int)
theorem ints_len (bs : List UInt8) : (ints bs).length = bs.length := by simp [ints]
theorem ints_app (a b : List UInt8) : ints (a ++ b) = ints a ++ ints b := by simp [ints]
theorem ints_take (a : List UInt8) (n : Nat) : ints (a.take n) = (ints a).take n := by simp [ints, List.map_take]
theorem ints_drop (a : List UInt8) (n : Nat) : ints (a.drop n) = (ints a).drop n := by simp [ints, List.map_drop]
theorem ints_inj {a b : List UInt8} (h : ints a = ints b) : a = b := by
  unfold ints at h
  induction a generalizing b with
  | nil => cases b with
    | nil => rfl
    | cons => simp at h
  | cons x a ih => cases b with
    | nil => simp at h
    | cons y b =>
      simp only [List.map_cons, List.cons.injEq] at h
      rw [ih h.2, UInt8.toNat_inj.1 (show x.toNat = y.toNat by omega)]
theorem encs_ints (bs : List UInt8) : encs (Value.int .u8) (ints bs) = encB bs := by simp [encs, ints, encB]
section
variable {w : World} {A : Option Addr} {B n base : Nat} {t : TypeId} {v : Value} {bs : List UInt8}
theorem C_of (h : Reads w B 1 A n (encB bs)) (hn : n ≤ 9223372036854775807) : Kd.C (Kd.int .u8) w A (ints bs).length (ints bs) := by
  have hl : bs.length = n := by have := h.1; rw [encB_len] at this; omega
  refine ⟨rfl, by rw [ints_len]; omega, fun h0 => ?_⟩
  rw [ints_len] at h0
  obtain ⟨ad, e, _, hc⟩ := h.2 (by omega)
  refine ⟨ad, e, fun j p hp => ⟨[.int .u8 p], rfl, rfl, fun i u hu => ?_⟩⟩
  match i, hu with
  | 0, hu =>
    simp at hu
    subst hu
    show w.cell? (ad.add (j * 1 + 0)) = _
    rw [Nat.mul_one, Nat.add_zero]
    refine hc j _ ?_
    rw [← encs_ints]
    simp [encs, hp]
theorem Row1.of_R {ok : Nat → Prop} (h : Kd.R (Kd.int .u8) t w base ok v (ints bs)) : Row1 w base t v (encB bs) := by
  have := Kd.own_of_R h
  rw [encs_ints] at this
  exact Row1.of_own this
theorem R_of (h : w.ownsRow base t 1 v n (encB bs)) : Kd.R (Kd.int .u8) t w base (fun _ => True) v (ints bs) := by
  have hl : bs.length = n := by have := h.1; rw [encB_len] at this; omega
  refine Kd.R_of_own (by rw [encs_ints, ints_len, hl]; exact h) (fun _ _ => trivial)
end
theorem Row1.lower {w : World} {b b' : Nat} {t : TypeId} {v : Value} {xs : List Value} (h : Row1 w b t v xs) (hb : b' ≤ b) : Row1 w b' t v xs := by
  obtain ⟨A, cap, rfl, h1, h2, h⟩ := h
  refine ⟨A, cap, rfl, h1, h2, ?_⟩
  rcases h with h | ⟨g, off, cs, rfl, hg, r⟩
  · exact .inl h
  · exact .inr ⟨g, off, cs, rfl, by omega, r⟩
/-! ### a number in so many bytes -/
def beI : Nat → Int → List Int
  | 0, _ => []
  | k + 1, n => (n / 256 ^ k) % 256 :: beI k n
def beB : Nat → Int → List UInt8
  | 0, _ => []
  | k + 1, n => UInt8.ofNat ((n / 256 ^ k) % 256).toNat :: beB k n
theorem beB_len : ∀ k n, (beB k n).length = k
  | 0, _ => rfl
  | k + 1, n => by simp [beB, beB_len k n]
theorem beI_len : ∀ k n, (beI k n).length = k
  | 0, _ => rfl
  | k + 1, n => by simp [beI, beI_len k n]
theorem ints_be : ∀ k n, ints (beB k n) = beI k n
  | 0, _ => rfl
  | k + 1, n => by
    have := ints_be k n
    have h1 : 0 ≤ (n / 256 ^ k) % 256 := Int.emod_nonneg _ (by omega)
    have h2 : (n / 256 ^ k) % 256 < 256 := Int.emod_lt_of_pos _ (by omega)
    simp only [beB, beI]
    rw [← this]
    simp only [ints, List.map_cons, UInt8.toNat_ofNat']
    congr 1
    omega
theorem shr_be (n : Int) (k : Nat) (hk : k < 8) : Go.Proofs.YtigdigljcalgkaaW.PrintWords.shr .i64 n (8 * (k : Int)) = n / 256 ^ k := by
  have e : (256 : Int) ^ k = 2 ^ (8 * k) := by rw [Int.pow_mul]; rfl
  have e2 : min (8 * (k : Int)).toNat IntKind.i64.bits = 8 * k := by simp [IntKind.bits]; omega
  unfold Go.Proofs.YtigdigljcalgkaaW.PrintWords.shr
  rw [e, e2]
theorem reads_from {w : World} {B n : Nat} {b o : Nat} {bs : List UInt8} (h : Reads w B 1 (some ⟨b, o, none⟩) n (encB bs)) (k : Nat) (hk : k ≤ n) : Reads w B 1 (some ⟨b, o + k, none⟩) (n - k) (encB (bs.drop k)) := by
  have hl : bs.length = n := by have := h.1; rw [encB_len] at this; omega
  by_cases he : k = n
  · exact ⟨by rw [encB_len, List.length_drop]; omega, fun h => absurd h (by omega)⟩
  have := reads_mid h k (n - k) (by omega) (by omega)
  rw [List.take_of_length_le (by rw [List.length_drop]; omega)] at this
  exact this
def lenOf : Value → Nat
  | .slice _ n _ => n
  | _ => 0
def encS (l : List (Int × Int)) : List Value := l.flatMap fun p => [.int .i64 p.1, .int .i64 p.2]
theorem encS_len (l : List (Int × Int)) : (encS l).length = l.length * 2 := by induction l with
  | nil => rfl
  | cons a l ih => simp [encS] at ih ⊢; omega
theorem encS_app (a b : List (Int × Int)) : encS (a ++ b) = encS a ++ encS b := by simp [encS]
theorem encS_one (l : List (Int × Int)) : ∀ u ∈ encS l, u.oneCell' = true := by
  intro u hu
  simp only [encS, List.mem_flatMap] at hu
  obtain ⟨p, _, hp⟩ := hu
  simp at hp
  rcases hp with rfl | rfl <;> rfl
def setsN : Nat → List UInt8 → List (Int × Int)
  | 0, _ => []
  | j + 1, r => setsN j r ++ [((numB ((r.drop (6 * j)).take 2) : Int), (numB ((r.drop (6 * j + 2)).take 4) : Int))]
theorem setsN_len : ∀ j r, (setsN j r).length = j
  | 0, _ => rfl
  | j + 1, r => by simp [setsN, setsN_len j r]
theorem own_lower {w : World} {b b' : Nat} {e : TypeId} {size n : Nat} {v : Value} {xs : List Value} (h : w.ownsRow b e size v n xs) (hb : b' ≤ b) : w.ownsRow b' e size v n xs := by
  refine ⟨h.1, ?_⟩
  rcases h.2 with h2 | ⟨g, cap, cur, rfl, hg, r⟩
  · exact .inl h2
  · exact .inr ⟨g, cap, cur, rfl, by omega, r⟩
end Go.Proofs.Ytigdigljcalgkaa
