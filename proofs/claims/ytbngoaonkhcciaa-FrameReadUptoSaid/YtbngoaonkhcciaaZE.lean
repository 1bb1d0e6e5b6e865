/- Own texts in one: PureH RPad RNum Set11 RFrag. -/
import Derived.Test.YtbngoaonkhcciaaZB
import Derived.Test.YtbngoaonkhcciaaZP
import Derived.Test.YtbngoaonkhcciaaZT
import Derived.Test.YtbngoaonkhcciaaZA
/-! #### PureH -/
set_option linter.all false
namespace Go.Proofs.Ytbngoaonkhcciaa
open Go.RowKit Go.Proofs.YtbngoaonkhcciaaW.PrintWords
theorem rd_ints {bs : List UInt8} {j : Nat} (h : j < bs.length) : rd (ints bs) (j : Int) = (bs[j].toNat : Int) := by
  simp [rd, ints, List.getD_eq_getElem?_getD, List.getElem?_eq_getElem h]
theorem take_snoc {bs : List UInt8} {j : Nat} (h : j < bs.length) : numB (bs.take (j + 1)) = numB (bs.take j) * 256 + bs[j].toNat := by
  rw [List.take_succ, List.getElem?_eq_getElem h]
  exact numB_snoc _ _
theorem numB_small (bs : List UInt8) (h : bs.length ≤ 4) : numB bs < 4294967296 :=
  Nat.lt_of_lt_of_le (numB_lt bs.length bs rfl) (Nat.le_trans (Nat.pow_le_pow_right (by omega) h) (by decide))
end Go.Proofs.Ytbngoaonkhcciaa
/-! #### RPad -/
set_option linter.all false
namespace Go.Proofs.Ytbngoaonkhcciaa
open Go.ChangeShapes Go.WideShapes Go.ChangeAt Go.RowKit Go.Proofs.YtbngoaonkhcciaaW.PrintWords
attribute [local go_sem] setCell_drewN alloc_drewN Oper.semAt_some
section
variable (w : World)
theorem on_ (f : UInt8) (k : Nat) (hk : 0 < k) : Calls Try.prog 39 #[.int .i64 f.toNat, .int .i64 k] w fun e w' => e = .returned (.bool (onF f k)) ∧ Keep [] w w' := by
  have hlt := f.toNat_lt
  have h : PRf.isthmusref7_on.f f.toNat k = some (onF f k) := by
    unfold PRf.isthmusref7_on.f onF
    have h1 : f.toNat / k ≤ f.toNat := Nat.div_le_self _ _
    obtain ⟨q, hq⟩ : ∃ q : Nat, q = f.toNat / k := ⟨_, rfl⟩
    rw [← hq] at h1 ⊢
    have e1 : Int.tdiv (f.toNat : Int) (k : Int) = (q : Int) := by rw [hq]; exact (Int.ofNat_tdiv _ _).symm
    have e2 : wrap64 (q : Int) = (q : Int) := wrap64_small _ (by omega) (by omega)
    have hk0 : ¬ (k : Int) = 0 := by omega
    rw [if_neg hk0, e1, e2]
    congr 1
    rw [Bool.eq_iff_iff]
    have e3 : Int.tmod (q : Int) 2 = ((q % 2 : Nat) : Int) := (Int.ofNat_tmod q 2).symm
    rw [e3]
    simp
    omega
  exact (PRf.isthmusref7_on.calls f.toNat k (onF f k) w h).mono fun e w' ⟨he, hd⟩ => ⟨he, Keep.of_below hd.below⟩
/-- what padded gives -/
def PadGives (w : World) : Bare → Ending → World → Prop
  | .bad k, e, w' => e = .returned (.tuple #[.slice none 0 0, .int .i64 0, .int .i64 k]) ∧ Keep [] w w'
  | .ok pad r, e, w' => ∃ A c, e = .returned (.tuple #[.slice A r.length c, .int .i64 pad, .int .i64 0]) ∧ Reads w' w.heap.size 1 A r.length (encB r) ∧ r.length ≤ c ∧ c ≤ 9223372036854775807 ∧ Keep [] w w'
theorem rpad_off (t : Int) (f : UInt8) (s : Int) (A : Option Addr) (n c : Nat) (hf : onF f 8 = false) :
    Calls Try.prog 38 #[.agg #[.int .i64 t, .int .i64 f.toNat, .int .i64 s, .slice A n c]] w fun e w' => e = .returned (.tuple #[.slice A n c, .int .i64 0, .int .i64 0]) ∧ Keep [] w w' := by
  go_enter Try.func38, Try.ntmps38
  go_wp2_with (fail)
  have BF := Blk.new w 24 #[.int .i64 t, .int .i64 f.toNat, .int .i64 s, .slice A n c]
  refine (on_ _ f 8 (by omega)).mono ?_
  rintro e w1 ⟨rfl, k1⟩
  have BF1 := BF.keep k1 (by simp)
  have K1 := Lib.hid (((Keep.refl [] w).alloc _).trans k1)
  have d3 := BF1.cell 3
  simp at d3
  rw [hf]
  clear BF1 BF k1
  go_wp2_with (fail)
  go_ret3
  exact ⟨rfl, K1.out⟩
theorem rpad_none (t : Int) (f : UInt8) (s : Int) (A : Option Addr) (c : Nat) (hf : onF f 8 = true) :
    Calls Try.prog 38 #[.agg #[.int .i64 t, .int .i64 f.toNat, .int .i64 s, .slice A 0 c]] w fun e w' => e = .returned (.tuple #[.slice none 0 0, .int .i64 0, .int .i64 6]) ∧ Keep [] w w' := by
  go_enter Try.func38, Try.ntmps38
  go_wp2_with (fail)
  have BF := Blk.new w 24 #[.int .i64 t, .int .i64 f.toNat, .int .i64 s, .slice A 0 c]
  refine (on_ _ f 8 (by omega)).mono ?_
  rintro e w1 ⟨rfl, k1⟩
  have BF1 := BF.keep k1 (by simp)
  have K1 := Lib.hid (((Keep.refl [] w).alloc _).trans k1)
  have d3 := BF1.cell 3
  simp at d3
  rw [hf]
  clear BF1 BF k1
  go_wp2_with (fail)
  go_ret3
  exact ⟨rfl, K1.out⟩
theorem rpad_on (t : Int) (f : UInt8) (s : Int) (b off c : Nat) {p : UInt8} {bs : List UInt8} (hf : onF f 8 = true)
    (hr : Reads w w.heap.size 1 (some ⟨b, off, none⟩) (bs.length + 1) (encB (p :: bs))) (hc : bs.length + 1 ≤ c) (hc2 : c ≤ 9223372036854775807) :
    Calls Try.prog 38 #[.agg #[.int .i64 t, .int .i64 f.toNat, .int .i64 s, .slice (some ⟨b, off, none⟩) (bs.length + 1) c]] w fun e w' =>
      e = .returned (.tuple (if bs.length < p.toNat then #[.slice none 0 0, .int .i64 0, .int .i64 1] else #[.slice (if c = 1 then some ⟨b, off, none⟩ else some ⟨b, off + 1, none⟩) (bs.length - p.toNat) (c - 1), .int .i64 p.toNat, .int .i64 0])) ∧ Keep [] w w' := by
  obtain ⟨ad, e, hbl, hcell⟩ := hr.2 (by omega)
  injection e with e
  subst e
  have h0 := hcell 0 (.int .u8 p.toNat) rfl
  simp only [Addr.add, if_true] at h0 hbl
  have kp : wrap64 (p.toNat : Int) = (p.toNat : Int) := wrap64_small _ (by omega) (by have := p.toNat_lt; omega)
  clear hr hcell
  by_cases hlt : bs.length < p.toNat
  · simp only [if_pos hlt]
    go_enter Try.func38, Try.ntmps38
    go_wp2_with (fail)
    have BF := Blk.new w 24 #[.int .i64 t, .int .i64 f.toNat, .int .i64 s, .slice (some ⟨b, off, none⟩) (bs.length + 1) c]
    refine (on_ _ f 8 (by omega)).mono ?_
    rintro e w1 ⟨rfl, k1⟩
    have BF1 := BF.keep k1 (by simp)
    have K1 := Lib.hid (((Keep.refl [] w).alloc _).trans k1)
    have h0' := (K1.out.cell (p := ⟨b, off, none⟩) hbl (by simp)).trans h0
    obtain ⟨n, hn⟩ : ∃ n, n = bs.length + 1 := ⟨_, rfl⟩
    rw [← hn] at BF1 hc ⊢
    have d3 := BF1.cell 3
    simp at d3
    rw [hf]
    clear BF1 BF k1 h0 hbl
    have k1 : ¬ (n : Int) = 0 := by omega
    have k2 : (0 : Int) < (n : Int) := by omega
    have k6 : IntKind.i64.wrap ((n : Int) - 1) = (n : Int) - 1 := by rw [IntKind.wrap_i64]; omega
    have k4 : (n : Int) - 1 < (p.toNat : Int) := by omega
    have HN := Lib.hid (And.intro hn hlt)
    clear hn hlt hc
    go_wp2_with (fail)
    go_ret3
    exact ⟨rfl, K1.out⟩
  · simp only [if_neg hlt]
    go_enter Try.func38, Try.ntmps38
    go_wp2_with (fail)
    have BF := Blk.new w 24 #[.int .i64 t, .int .i64 f.toNat, .int .i64 s, .slice (some ⟨b, off, none⟩) (bs.length + 1) c]
    refine (on_ _ f 8 (by omega)).mono ?_
    rintro e w1 ⟨rfl, k1⟩
    have BF1 := BF.keep k1 (by simp)
    have K1 := Lib.hid (((Keep.refl [] w).alloc _).trans k1)
    have h0' := (K1.out.cell (p := ⟨b, off, none⟩) hbl (by simp)).trans h0
    obtain ⟨n, hn⟩ : ∃ n, n = bs.length + 1 := ⟨_, rfl⟩
    rw [← hn] at BF1 hc ⊢
    have d3 := BF1.cell 3
    simp at d3
    rw [hf]
    clear BF1 BF k1 h0 hbl
    have k1 : ¬ (n : Int) = 0 := by omega
    have k2 : (0 : Int) < (n : Int) := by omega
    have k6 : IntKind.i64.wrap ((n : Int) - 1) = (n : Int) - 1 := by rw [IntKind.wrap_i64]; omega
    have k4 : ¬ (n : Int) - 1 < (p.toNat : Int) := by omega
    have k7 : IntKind.i64.wrap ((n : Int) - (p.toNat : Int)) = (n : Int) - (p.toNat : Int) := by have := p.toNat_lt; rw [IntKind.wrap_i64]; omega
    have k8 : (1 : Int) ≤ (n : Int) - (p.toNat : Int) := by omega
    have k9 : (n : Int) - (p.toNat : Int) ≤ (c : Int) := by omega
    have k11 : (n : Int) - (p.toNat : Int) ≤ (n : Int) := by omega
    have HN := Lib.hid (And.intro hn hlt)
    clear hn hlt hc
    go_wp2_with (fail)
    all_goals go_ret3
    all_goals have e9 : n - p.toNat - 1 = bs.length - p.toNat := by have := HN.out; omega
    all_goals (refine ⟨?_, K1.out⟩; simp [e9, *]; done)
end
theorem rpad_ (w : World) (t : Nat) (ht : padF t = true) (f : UInt8) (s : Int) {A : Option Addr} {n c : Nat} {bs : List UInt8} (hr : Reads w w.heap.size 1 A n (encB bs)) (hc : n ≤ c) (hc2 : c ≤ 9223372036854775807) :
    Calls Try.prog 38 #[.agg #[.int .i64 t, .int .i64 f.toNat, .int .i64 s, .slice A n c]] w (PadGives w (bareF t f bs)) := by
  have hl : bs.length = n := by have := hr.1; rw [encB_len] at this; omega
  subst hl
  unfold bareF
  by_cases hf : onF f 8 = true
  · rw [if_pos ⟨ht, hf⟩]
    cases bs with
    | nil => exact (rpad_none w t f s A c hf).mono fun e w' h => h
    | cons p r =>
      obtain ⟨b, off, rfl, _, _⟩ := hr.plain (by simp) (by omega)
      refine (rpad_on w t f s b off c (p := p) (bs := r) hf hr hc hc2).mono ?_
      rintro e w' ⟨rfl, k⟩
      simp only [List.length_cons] at hc
      by_cases hp : r.length < p.toNat
      · simp only [if_pos hp]
        exact ⟨rfl, k⟩
      · simp only [if_neg hp]
        have hl2 : (r.take (r.length - p.toNat)).length = r.length - p.toNat := by rw [List.length_take]; omega
        refine ⟨if c = 1 then some ⟨b, off, none⟩ else some ⟨b, off + 1, none⟩, c - 1, by rw [hl2], ?_, by rw [hl2]; omega, by omega, k⟩
        rw [hl2]
        by_cases h0 : r.length - p.toNat = 0
        · rw [h0]
          exact ⟨by simp [encB], fun h => absurd h (by omega)⟩
        · have hr1 := reads_mid (hr.keeps k (Nat.le_refl _) (by simp)) 1 (r.length - p.toNat) (by simp only [List.length_cons]; omega) (by omega)
          rw [if_neg (by omega)]
          simpa using hr1
  · rw [if_neg (fun h => hf h.2)]
    refine (rpad_off w t f s A bs.length c (by simpa using hf)).mono ?_
    rintro e w' ⟨rfl, k⟩
    exact ⟨A, c, rfl, hr.keeps k (Nat.le_refl _) (by simp), hc, hc2, k⟩
end Go.Proofs.Ytbngoaonkhcciaa
/-! #### RNum -/
set_option linter.all false
namespace Go.Proofs.Ytbngoaonkhcciaa
open Go.ChangeShapes Go.WideShapes Go.ChangeAt Go.RowKit Go.Proofs.YtbngoaonkhcciaaW.PrintWords
theorem rnum_l (bs : List UInt8) (hb : bs.length ≤ 4) : ∀ (d k j : Nat), j + d = bs.length → d < k → PRf.isthmusref7_num.l0 k (ints bs) (numB (bs.take j)) j = some (numB bs : Int)
  | 0, k, j, hj, hk => by
    obtain ⟨k, rfl⟩ : ∃ m, k = m + 1 := ⟨k - 1, by omega⟩
    simp only [PRf.isthmusref7_num.l0]
    rw [ints_len, if_neg (by omega), List.take_of_length_le (by omega)]
  | d + 1, k, j, hj, hk => by
    obtain ⟨k, rfl⟩ : ∃ m, k = m + 1 := ⟨k - 1, by omega⟩
    have hlt : j < bs.length := by omega
    have h1 := numB_small (bs.take j) (by rw [List.length_take]; omega)
    have h2 := (bs[j]).toNat_lt
    simp only [PRf.isthmusref7_num.l0]
    rw [ints_len, if_pos (by omega), if_pos (by omega), rd_ints hlt]
    have e1 : wrap64 (256 * (numB (bs.take j) : Int)) = 256 * (numB (bs.take j) : Int) := wrap64_small _ (by omega) (by omega)
    have e2 : wrap64 (bs[j].toNat : Int) = (bs[j].toNat : Int) := wrap64_small _ (by omega) (by omega)
    have e3 : wrap64 ((j : Int) + 1) = ((j + 1 : Nat) : Int) := by unfold wrap64; omega
    have e4 : wrap64 (256 * (numB (bs.take j) : Int) + (bs[j].toNat : Int)) = (numB (bs.take (j + 1)) : Int) := by
      rw [take_snoc hlt, wrap64_small _ (by omega) (by omega)]; omega
    rw [e1, e2, e3, e4]
    exact rnum_l bs hb d k (j + 1) (by omega) (by omega)
theorem rnum_f (k : Nat) (hk : 9 ≤ k) (bs : List UInt8) (hb : bs.length ≤ 4) : PRf.isthmusref7_num.f k (ints bs) = some (numB bs : Int) := by
  unfold PRf.isthmusref7_num.f
  have := rnum_l bs hb bs.length k 0 (by omega) (by omega)
  simpa [numB] using this
def r44 (ss : List (Int × Int)) : List PRf.S44 := ss.map fun p => ⟨p.1, p.2⟩
theorem r44_len (ss : List (Int × Int)) : (r44 ss).length = ss.length := by simp [r44]
theorem reps_encS {R : PRf.S44 → List Value → Prop} (hR : ∀ p c, R p c → c = [.int .i64 p.f0, .int .i64 p.f1]) : ∀ (ss : List (Int × Int)) (inner : List Value), Reps R 2 (r44 ss) inner → inner = encS ss
  | [], inner, h => by
    have := h.1
    simp [r44] at this
    rw [this]; rfl
  | a :: ss, inner, h => by
    have hl := h.1
    rw [r44_len, List.length_cons] at hl
    have h0 := hR _ _ (h.2 0 ⟨a.1, a.2⟩ rfl)
    rw [Nat.zero_mul, List.drop_zero] at h0
    have ht : Reps R 2 (r44 ss) (inner.drop 2) := by
      refine ⟨by rw [List.length_drop, r44_len]; omega, fun j p hp => ?_⟩
      have := h.2 (j + 1) p (by simpa [r44] using hp)
      rwa [Nat.succ_mul, Nat.add_comm, ← List.drop_drop] at this
    have := reps_encS hR ss _ ht
    rw [← List.take_append_drop 2 inner, h0, this]
    simp [encS]
theorem own_r44 {W : World} {base : Nat} {ok : Nat → Prop} {v : Value} (ss : List (Int × Int)) (h : Kd.R PRf.k44 44 W base ok v (r44 ss)) : W.ownsRow base 44 2 v ss.length (encS ss) := by
  obtain ⟨_, inner, ho, hr⟩ := h
  have e := reps_encS (fun p c hp => PRf.k44_openM hp) ss inner hr
  rw [r44_len, e] at ho
  exact ho
theorem rnum0_ (w : World) {A : Option Addr} {n c B : Nat} {bs : List UInt8} (hr : Reads w B 1 A n (encB bs)) (hn : n ≤ 4) : Calls Try.prog 24 #[.slice A n c] w fun e w' => e = .returned (.int .i64 (numB bs)) ∧ w = w' := by
  have hl : bs.length = n := by have := hr.1; rw [encB_len] at this; omega
  have Hr := Lib.hid hr
  clear hr
  go_enter Try.func24, Try.ntmps24
  go_wp2
  go_loopw [3, 4] (fun v3 vi wr => ∃ i : Nat, vi = .int .i64 i ∧ i ≤ n ∧ v3 = .int .i64 (numB (bs.take i)) ∧ wr = w) (fun _ vi _ => n - (intOf vi).toNat)
  case atStart => exact ⟨0, rfl, by omega, by simp [numB], rfl⟩
  case round =>
    obtain ⟨i, rfl, hi, rfl, rfl⟩ := hrel
    by_cases hlt : i < n
    · have k1 : (i : Int) < (n : Int) := by omega
      obtain ⟨ad, rfl, hb, hc⟩ := Hr.out.2 (by omega)
      have hg : (encB bs)[i]? = some (.int .u8 (bs[i].toNat : Int)) := encB_get (by omega)
      have hcell := hc i _ hg
      have hlt3 := numB_small (bs.take i) (by rw [List.length_take]; omega)
      have hcb := (bs[i]).toNat_lt
      have e1 : wrap64 (256 * (numB (bs.take i) : Int)) = 256 * (numB (bs.take i) : Int) := wrap64_small _ (by omega) (by omega)
      have e2 : wrap64 (bs[i].toNat : Int) = (bs[i].toNat : Int) := wrap64_small _ (by omega) (by omega)
      have e4 : wrap64 (256 * (numB (bs.take i) : Int) + (bs[i].toNat : Int)) = (numB (bs.take (i + 1)) : Int) := by
        rw [take_snoc (by omega), wrap64_small _ (by omega) (by omega)]; omega
      go_wp2
      refine ⟨⟨i + 1, by simp, by omega, congrArg (Value.int .i64) (by rw [take_snoc (by omega)]; omega), trivial⟩, by simp [intOf]; omega⟩
    · have k1 : ¬ (i : Int) < (n : Int) := by omega
      have hin : i = n := by omega
      subst hin
      go_wp2
      go_ret
      rw [List.take_of_length_le (by omega)]
      exact ⟨rfl, rfl⟩
def setR (f : UInt8) (bs : List UInt8) : Bd × Int := if sizeF 4 f bs.length = true then ({ bd0 with sets := setsN (bs.length / 6) bs }, 0) else (bd0, 6)
section
variable (w : World)
theorem rnum_ {A : Option Addr} {n c B : Nat} {bs : List UInt8} (hr : Reads w B 1 A n (encB bs)) (hn : n ≤ 4) (hc : n ≤ c) : Calls Try.prog 24 #[.slice A n c] w fun e w' => e = .returned (.int .i64 (numB bs)) ∧ Keep [] w w' := by
  have hl : bs.length = n := by have := hr.1; rw [encB_len] at this; omega
  have h := PRf.isthmusref7_num.calls 9 A c (ints bs) _ w (C_of hr (by omega)) (by rw [ints_len]; omega) (rnum_f 9 (Nat.le_refl _) bs (by omega))
  rw [ints_len, hl] at h
  exact h.mono fun e w' ⟨he, hd⟩ => ⟨he, Keep.of_below hd.below⟩
theorem rprio_ (pad : Int) {A : Option Addr} {n c : Nat} {bs : List UInt8} (hr : Reads w w.heap.size 1 A n (encB bs)) (hn : 5 ≤ n) (hc : n ≤ c) (hn2 : n ≤ 1099511627776) :
    Calls Try.prog 32 #[.slice A n c, .agg #[.slice none 0 0, .int .i64 pad, .bool false, .bool false, .int .i64 0, .int .i64 0, .int .i64 0, .int .i64 0, .int .i64 0, .slice none 0 0, .int .i64 0]] w fun e w' =>
      ∃ A0 A9 c0 c9, e = .returned (.agg #[.slice A0 0 c0, .int .i64 pad, .bool true, .bool (exclN (numB (bs.take 4))), .int .i64 ((numB (bs.take 4) % 2147483648 : Nat) : Int), .int .i64 (((bs.getD 4 0).toNat : Int) + 1), .int .i64 0, .int .i64 0, .int .i64 0, .slice A9 0 c9, .int .i64 0]) ∧
        Row1 w' w.heap.size 5 (.slice A0 0 c0) [] ∧ w'.ownsRow w.heap.size 44 2 (.slice A9 0 c9) 0 [] ∧ Keep [] w w' := by
  have hl : bs.length = n := by have := hr.1; rw [encB_len] at this; omega
  have hlt := numB_lt4 (bs.take 4) (by rw [List.length_take]; omega)
  have hx := (bs.getD 4 0).toNat_lt
  have hg : rd (ints bs) 4 = ((bs.getD 4 0).toNat : Int) := by
    have := rd_ints (bs := bs) (j := 4) (by omega)
    rw [show ((4 : Nat) : Int) = 4 from rfl] at this
    rw [this]
    simp [List.getD_eq_getElem?_getD, List.getElem?_eq_getElem (show 4 < bs.length by omega)]
  have hf : PRf.isthmusref7_prio.f 9 (ints bs) [] pad false false 0 0 0 0 0 [] 0 = some ([], pad, true, exclN (numB (bs.take 4)), ((numB (bs.take 4) % 2147483648 : Nat) : Int), ((bs.getD 4 0).toNat : Int) + 1, 0, 0, 0, [], 0) := by
    unfold PRf.isthmusref7_prio.f
    rw [if_pos (by decide), ints_len, if_pos (by omega), List.drop_zero, ← ints_take, rnum_f 9 (Nat.le_refl _) _ (by rw [List.length_take]; omega), Option.bind_some, if_pos (by omega), hg]
    have e1 : wrap64 (((bs.getD 4 0).toNat : Nat) : Int) = ((bs.getD 4 0).toNat : Int) := wrap64_small _ (by omega) (by omega)
    have e2 : wrap64 ((((bs.getD 4 0).toNat : Nat) : Int) + 1) = ((bs.getD 4 0).toNat : Int) + 1 := wrap64_small _ (by omega) (by omega)
    have e3 : Int.tmod (numB (bs.take 4) : Int) 2147483648 = ((numB (bs.take 4) % 2147483648 : Nat) : Int) := (Int.ofNat_tmod _ 2147483648).symm
    have e4 : decide ((numB (bs.take 4) : Int) ≥ 2147483648) = exclN (numB (bs.take 4)) := by
      unfold exclN
      rw [Bool.eq_iff_iff]
      simp
      omega
    rw [e1, e2, e3, e4]
  have h := PRf.isthmusref7_prio.calls 9 A c (ints bs) (fun _ => False) (.slice none 0 0) [] pad false false 0 0 0 0 0 (fun _ => False) (.slice none 0 0) [] 0 _ _ _ _ _ _ _ _ _ _ _ w w (Below.refl _ _) (fun W hk => C_of (hr.keep fun p hp => World.cell?_of_block (hk.2 p.block hp (by simp))) (by omega)) (by rw [ints_len]; omega) (Kd.R_nil _ _ _ _ _) (Kd.R_nil _ _ _ _ _) hf
  rw [ints_len, hl] at h
  refine h.mono ?_
  rintro e w' ⟨v0, v9, rfl, r0, r9, hb, _⟩
  obtain ⟨A0, c0, rfl⟩ := Kd.R_slice r0
  obtain ⟨A9, c9, rfl⟩ := Kd.R_slice r9
  refine ⟨A0, A9, c0, c9, rfl, Row1.of_R (bs := []) r0, ?_, Keep.of_below hb⟩
  exact own_r44 [] r9
end
/-! ### settings -/
theorem rset_l (f : Int) (t s : Int) (bs : List UInt8) (hb : bs.length ≤ 1099511627776) (h6 : bs.length % 6 = 0) : ∀ (d j k : Nat), 6 * (j + d) = bs.length → d + 10 ≤ k →
    PRf.isthmusref7_settings.l0 k ((6 * j : Nat) : Int) t f s (ints bs) 0 false false 0 0 0 0 0 (r44 (setsN j bs)) 0 = some ([], 0, false, false, 0, 0, 0, 0, 0, r44 (setsN (j + d) bs), 0, 0)
  | 0, j, k, hj, hk => by
    obtain ⟨k, rfl⟩ : ∃ m, k = m + 1 := ⟨k - 1, by omega⟩
    rw [PRf.isthmusref7_settings.l0, ints_len, if_neg (by omega)]
    rfl
  | d + 1, j, k, hj, hk => by
    obtain ⟨k, rfl⟩ : ∃ m, k = m + 1 := ⟨k - 1, by omega⟩
    have e2 : wrap64 (((6 * j : Nat) : Int) + 2) = ((6 * j + 2 : Nat) : Int) := by unfold wrap64; omega
    have e6 : wrap64 (((6 * j : Nat) : Int) + 6) = ((6 * (j + 1) : Nat) : Int) := by unfold wrap64; omega
    have a1 : ((ints bs).take (((6 * j + 2 : Nat) : Int)).toNat).drop (((6 * j : Nat) : Int)).toNat = ints ((bs.drop (6 * j)).take 2) := by
      rw [Int.toNat_natCast, Int.toNat_natCast, List.take_drop, ints_drop, ints_take]
    have a2 : ((ints bs).take (((6 * (j + 1) : Nat) : Int)).toNat).drop (((6 * j + 2 : Nat) : Int)).toNat = ints ((bs.drop (6 * j + 2)).take 4) := by
      rw [Int.toNat_natCast, Int.toNat_natCast, List.take_drop, ints_drop, ints_take, show 6 * (j + 1) = 6 * j + 2 + 4 by omega]
    have l1 : (r44 (setsN j bs)).length < 8796093022208 := by rw [r44_len, setsN_len]; omega
    have f1 := rnum_f k (by omega) ((bs.drop (6 * j)).take 2) (by rw [List.length_take]; omega)
    have f2 := rnum_f k (by omega) ((bs.drop (6 * j + 2)).take 4) (by rw [List.length_take]; omega)
    rw [PRf.isthmusref7_settings.l0, ints_len, e2, e6, if_pos (by omega), if_pos (by omega), if_pos (by omega), if_pos (by omega), a1, f1, Option.bind_some, if_pos (by omega), if_pos (by omega), if_pos (by omega), a2, f2, Option.bind_some, if_pos l1]
    have hs : r44 (setsN j bs) ++ [(⟨(numB ((bs.drop (6 * j)).take 2) : Int), (numB ((bs.drop (6 * j + 2)).take 4) : Int)⟩ : PRf.S44)] = r44 (setsN (j + 1) bs) := by simp [r44, setsN]
    rw [hs, rset_l f t s bs hb h6 d (j + 1) k (by omega) (by omega), show j + 1 + d = j + (d + 1) by omega]
theorem rset_f (f : UInt8) (t s : Int) (bs : List UInt8) (hb : bs.length ≤ 1099511627776) : ∃ k, PRf.isthmusref7_settings.f k t f.toNat s (ints bs) =
    if sizeF 4 f bs.length = true then some ([], 0, false, false, 0, 0, 0, 0, 0, r44 (setsN (bs.length / 6) bs), 0, 0) else some ([], 0, false, false, 0, 0, 0, 0, 0, [], 0, 6) := by
  have hon : PRf.isthmusref7_on.f f.toNat 1 = some (onF f 1) := by
    unfold PRf.isthmusref7_on.f onF
    have hlt := f.toNat_lt
    have e1 : Int.tdiv (f.toNat : Int) 1 = (f.toNat : Int) := Int.tdiv_one _
    have e2 : wrap64 (f.toNat : Int) = (f.toNat : Int) := wrap64_small _ (by omega) (by omega)
    rw [if_neg (by decide), e1, e2, Nat.div_one]
    congr 1
    rw [Bool.eq_iff_iff]
    have e3 : Int.tmod (f.toNat : Int) 2 = ((f.toNat % 2 : Nat) : Int) := (Int.ofNat_tmod _ 2).symm
    rw [e3]
    simp
    omega
  refine ⟨bs.length + 20 + 1, ?_⟩
  unfold PRf.isthmusref7_settings.f
  rw [hon, Option.bind_some, ints_len]
  have hm : ((((bs.length : Nat) : Int) % 6) != 0) = !(bs.length % 6 == 0) := by
    have : (((bs.length : Nat) : Int) % 6) = ((bs.length % 6 : Nat) : Int) := by omega
    rw [this, Bool.eq_iff_iff]
    simp
    omega
  rw [hm]
  have bad : PRf.isthmusref7_settings.j0 (bs.length + 20 + 1) true t f.toNat s (ints bs) = some ([], 0, false, false, 0, 0, 0, 0, 0, [], 0, 6) := by rw [PRf.isthmusref7_settings.j0, if_pos rfl]
  have good : bs.length % 6 = 0 → PRf.isthmusref7_settings.j0 (bs.length + 20 + 1) false t f.toNat s (ints bs) = some ([], 0, false, false, 0, 0, 0, 0, 0, r44 (setsN (bs.length / 6) bs), 0, 0) := fun h => by
    rw [PRf.isthmusref7_settings.j0, if_neg (by decide)]
    have := rset_l f.toNat t s bs hb h (bs.length / 6) 0 (bs.length + 20) (by omega) (by omega)
    rw [show 0 + bs.length / 6 = bs.length / 6 by omega] at this
    exact this
  by_cases h6 : bs.length % 6 = 0
  · have e6 : (!(bs.length % 6 == 0)) = false := by simp [h6]
    rw [e6]
    by_cases ho : onF f 1 = true
    · rw [if_pos ho]
      by_cases h0 : bs.length = 0
      · rw [if_neg (by omega), good h6, if_pos (by simp [sizeF, ho, h0])]
      · rw [if_pos (by omega), bad, if_neg (by simp [sizeF, ho, h0])]
    · rw [if_neg ho, good h6, if_pos (by simp [sizeF, ho, h6])]
  · have e6 : (!(bs.length % 6 == 0)) = true := by simp [h6]
    rw [e6, bad]
    have hns : ¬ sizeF 4 f bs.length = true := by simp [sizeF, h6]
    rw [if_neg hns]
    split
    · split <;> rfl
    · rfl
theorem rset_ (w : World) (t s : Int) (f : UInt8) {A : Option Addr} {n c : Nat} {bs : List UInt8} (hr : Reads w w.heap.size 1 A n (encB bs)) (hc : n ≤ c) (hn : n ≤ 1099511627776) :
    Calls Try.prog 33 #[.agg #[.int .i64 t, .int .i64 f.toNat, .int .i64 s, .slice A n c]] w fun e w' =>
      BodyR w' w.heap.size e (setR f bs) ∧ Keep [] w w' := by
  unfold setR
  have hl : bs.length = n := by have := hr.1; rw [encB_len] at this; omega
  obtain ⟨k, hf⟩ := rset_f f t s bs (by omega)
  by_cases hs : sizeF 4 f bs.length = true
  · rw [if_pos hs] at hf ⊢
    have h := PRf.isthmusref7_settings.calls k t f.toNat s A c (ints bs) _ _ _ _ _ _ _ _ _ _ _ _ w (C_of hr (by omega)) (by rw [ints_len]; omega) hf
    rw [ints_len, hl] at h
    refine h.mono ?_
    rintro e w' ⟨v0, v9, rfl, r0, r9, hb⟩
    rw [← hl] at r9
    exact ⟨⟨v0, v9, rfl, Row1.of_R (bs := []) r0, own_r44 _ r9⟩, Keep.of_below hb⟩
  · rw [if_neg hs] at hf ⊢
    have h := PRf.isthmusref7_settings.calls k t f.toNat s A c (ints bs) _ _ _ _ _ _ _ _ _ _ _ _ w (C_of hr (by omega)) (by rw [ints_len]; omega) hf
    rw [ints_len, hl] at h
    refine h.mono ?_
    rintro e w' ⟨v0, v9, rfl, r0, r9, hb⟩
    exact ⟨⟨v0, v9, rfl, Row1.of_R (bs := []) r0, own_r44 [] r9⟩, Keep.of_below hb⟩
end Go.Proofs.Ytbngoaonkhcciaa
/-! #### Set11 -/
set_option linter.all false
namespace Go.Proofs.Ytbngoaonkhcciaa
open Go.ChangeShapes Go.WideShapes Go.ChangeAt Go.RowKit
theorem blk_set11 {W : World} {g : Nat} {t : TypeId} {cs : Array Value} (h : Blk W g t cs) (hs : cs.size = 11) (a0 a1 a2 a3 a4 a5 a6 a7 a8 a9 a10 : Value) : Blk (((((((((((W.setCell ⟨g, 0, none⟩ a0).setCell ⟨g, 1, none⟩ a1).setCell ⟨g, 2, none⟩ a2).setCell ⟨g, 3, none⟩ a3).setCell ⟨g, 4, none⟩ a4).setCell ⟨g, 5, none⟩ a5).setCell ⟨g, 6, none⟩ a6).setCell ⟨g, 7, none⟩ a7).setCell ⟨g, 8, none⟩ a8).setCell ⟨g, 9, none⟩ a9).setCell ⟨g, 10, none⟩ a10) g t #[a0, a1, a2, a3, a4, a5, a6, a7, a8, a9, a10] := by
  obtain ⟨l⟩ := cs
  match l, hs with
  | [c0, c1, c2, c3, c4, c5, c6, c7, c8, c9, c10], _ =>
    have := (((((((((((h.set_ 0 a0).set_ 1 a1).set_ 2 a2).set_ 3 a3).set_ 4 a4).set_ 5 a5).set_ 6 a6).set_ 7 a7).set_ 8 a8).set_ 9 a9).set_ 10 a10)
    simp only [List.setIfInBounds_toArray, List.set_cons_zero, List.set_cons_succ] at this
    exact this
theorem keep_set11 (W : World) (g : Nat) (a0 a1 a2 a3 a4 a5 a6 a7 a8 a9 a10 : Value) : Keep [g] W (((((((((((W.setCell ⟨g, 0, none⟩ a0).setCell ⟨g, 1, none⟩ a1).setCell ⟨g, 2, none⟩ a2).setCell ⟨g, 3, none⟩ a3).setCell ⟨g, 4, none⟩ a4).setCell ⟨g, 5, none⟩ a5).setCell ⟨g, 6, none⟩ a6).setCell ⟨g, 7, none⟩ a7).setCell ⟨g, 8, none⟩ a8).setCell ⟨g, 9, none⟩ a9).setCell ⟨g, 10, none⟩ a10) :=
  ((((((((((((Keep.refl [g] W).setCell (p := ⟨g, 0, none⟩) (.inl (by simp)) a0).setCell (p := ⟨g, 1, none⟩) (.inl (by simp)) a1).setCell (p := ⟨g, 2, none⟩) (.inl (by simp)) a2).setCell (p := ⟨g, 3, none⟩) (.inl (by simp)) a3).setCell (p := ⟨g, 4, none⟩) (.inl (by simp)) a4).setCell (p := ⟨g, 5, none⟩) (.inl (by simp)) a5).setCell (p := ⟨g, 6, none⟩) (.inl (by simp)) a6).setCell (p := ⟨g, 7, none⟩) (.inl (by simp)) a7).setCell (p := ⟨g, 8, none⟩) (.inl (by simp)) a8).setCell (p := ⟨g, 9, none⟩) (.inl (by simp)) a9).setCell (p := ⟨g, 10, none⟩) (.inl (by simp)) a10)
theorem cells11 {W : World} {g : Nat} {t : TypeId} {a0 a1 a2 a3 a4 a5 a6 a7 a8 a9 a10 : Value} (h : Blk W g t #[a0, a1, a2, a3, a4, a5, a6, a7, a8, a9, a10]) : W.cell? ⟨g, 0, none⟩ = some a0 ∧ W.cell? ⟨g, 1, none⟩ = some a1 ∧ W.cell? ⟨g, 2, none⟩ = some a2 ∧ W.cell? ⟨g, 3, none⟩ = some a3 ∧ W.cell? ⟨g, 4, none⟩ = some a4 ∧ W.cell? ⟨g, 5, none⟩ = some a5 ∧ W.cell? ⟨g, 6, none⟩ = some a6 ∧ W.cell? ⟨g, 7, none⟩ = some a7 ∧ W.cell? ⟨g, 8, none⟩ = some a8 ∧ W.cell? ⟨g, 9, none⟩ = some a9 ∧ W.cell? ⟨g, 10, none⟩ = some a10 :=
  ⟨h.cell 0, h.cell 1, h.cell 2, h.cell 3, h.cell 4, h.cell 5, h.cell 6, h.cell 7, h.cell 8, h.cell 9, h.cell 10⟩
theorem frozen11 {W : World} {g : Nat} {t : TypeId} {cs : Array Value} (h : Blk W g t cs) : W.frozen? ⟨g, 0, none⟩ = false ∧ W.frozen? ⟨g, 1, none⟩ = false ∧ W.frozen? ⟨g, 2, none⟩ = false ∧ W.frozen? ⟨g, 3, none⟩ = false ∧ W.frozen? ⟨g, 4, none⟩ = false ∧ W.frozen? ⟨g, 5, none⟩ = false ∧ W.frozen? ⟨g, 6, none⟩ = false ∧ W.frozen? ⟨g, 7, none⟩ = false ∧ W.frozen? ⟨g, 8, none⟩ = false ∧ W.frozen? ⟨g, 9, none⟩ = false ∧ W.frozen? ⟨g, 10, none⟩ = false :=
  ⟨h.frozen 0, h.frozen 1, h.frozen 2, h.frozen 3, h.frozen 4, h.frozen 5, h.frozen 6, h.frozen 7, h.frozen 8, h.frozen 9, h.frozen 10⟩
theorem own_off {W : World} {base n size : Nat} {e t : TypeId} {v : Value} {xs : List Value} {g : Nat} {cs : Array Value} (h : W.ownsRow base e size v n xs) (hb : Blk W g t cs) (ht : e ≠ t) : ∀ k, v.ownBlock = some k → k ∉ [g] := by
  intro k hk hm
  obtain rfl : k = g := by simpa using hm
  rcases h.2 with ⟨rfl, _⟩ | ⟨g', cap, cur, rfl, _, hg, _⟩
  · simp [Value.ownBlock] at hk
  · have : g' = k := by simpa [Value.ownBlock] using hk
    subst this
    unfold Blk at hb
    rw [hg] at hb
    injection hb with hb
    injection hb with _ hb
    exact ht hb
theorem own_slice2 {W : World} {base n : Nat} {v : Value} {xs : List Value} {e : TypeId} (h : W.ownsRow base e 2 v n xs) : ∃ A c, v = .slice A n c ∧ n ≤ c ∧ Reads W W.heap.size 2 A n xs := by
  rcases h.2 with ⟨rfl, h0⟩ | ⟨g, cap, cur, rfl, hb, hg, hnc, _⟩
  · subst h0
    exact ⟨none, 0, rfl, Nat.le_refl _, ⟨h.1, fun h => absurd h (by omega)⟩⟩
  · exact ⟨_, cap, rfl, hnc, Reads.of_own h⟩
end Go.Proofs.Ytbngoaonkhcciaa
/-! #### RFrag -/
set_option linter.all false
namespace Go.Proofs.Ytbngoaonkhcciaa
open Go.ChangeShapes Go.WideShapes Go.ChangeAt Go.RowKit Go.Proofs.YtbngoaonkhcciaaW.PrintWords
attribute [local go_sem] setCell_drewN alloc_drewN Oper.semAt_some
section
variable (w : World) {A : Option Addr} {n c : Nat} {bs r : List UInt8} {f : UInt8} {s : Int} {pad : Int}
set_option maxHeartbeats 2000000 in
theorem rfrag_bad0 (hr : Reads w w.heap.size 1 A n (encB bs)) (hc : n ≤ c) (hc2 : c ≤ 9223372036854775807) (k : Int) (hk : ¬ k = 0) (hb : bareF 0 f bs = .bad k) :
    Calls Try.prog 31 #[.agg #[.int .i64 0, .int .i64 f.toNat, .int .i64 s, .slice A n c]] w fun e w' => BodyR w' w.heap.size e (bd0, k) ∧ Keep [] w w' := by
  have Hr := Lib.hid hr
  have HB := Lib.hid hb
  clear hr hb
  go_enter Try.func31, Try.ntmps31
  go_wp2_with (fail)
  have BF := (Blk.new w 24 #[.int .i64 0, .int .i64 f.toNat, .int .i64 s, .slice A n c]).alloc (.cells #[.slice none 0 0, .int .i64 0, .bool false, .bool false, .int .i64 0, .int .i64 0, .int .i64 0, .int .i64 0, .int .i64 0, .slice none 0 0, .int .i64 0] 36)
  have BR := Blk.new (w.alloc (.cells #[.int .i64 0, .int .i64 f.toNat, .int .i64 s, .slice A n c] 24)) 36 #[.slice none 0 0, .int .i64 0, .bool false, .bool false, .int .i64 0, .int .i64 0, .int .i64 0, .int .i64 0, .int .i64 0, .slice none 0 0, .int .i64 0]
  have K0 : Keep [] w ((w.alloc (.cells #[.int .i64 0, .int .i64 f.toNat, .int .i64 s, .slice A n c] 24)).alloc (.cells #[.slice none 0 0, .int .i64 0, .bool false, .bool false, .int .i64 0, .int .i64 0, .int .i64 0, .int .i64 0, .int .i64 0, .slice none 0 0, .int .i64 0] 36)) := ((Keep.refl _ _).alloc _).alloc _
  have e0 : ((w.alloc (.cells #[.int .i64 0, .int .i64 f.toNat, .int .i64 s, .slice A n c] 24)).alloc (.cells #[.slice none 0 0, .int .i64 0, .bool false, .bool false, .int .i64 0, .int .i64 0, .int .i64 0, .int .i64 0, .int .i64 0, .slice none 0 0, .int .i64 0] 36)).heap.size = w.heap.size + 2 := by simp
  simp only [World.size_alloc] at BR
  obtain ⟨w0, hw0⟩ : ∃ w0, w0 = ((w.alloc (.cells #[.int .i64 0, .int .i64 f.toNat, .int .i64 s, .slice A n c] 24)).alloc (.cells #[.slice none 0 0, .int .i64 0, .bool false, .bool false, .int .i64 0, .int .i64 0, .int .i64 0, .int .i64 0, .int .i64 0, .slice none 0 0, .int .i64 0] 36)) := ⟨_, rfl⟩
  rw [← hw0] at BF BR K0 e0 ⊢
  have HW0 := Lib.hid hw0
  clear hw0
  have hP := rpad_ w0 0 rfl f s ((Hr.out.keeps K0 (Nat.le_refl _) (by simp)).more (by omega)) hc hc2
  rw [HB.out] at hP
  refine hP.mono ?_
  clear hP HB
  rintro e w1 ⟨rfl, k1⟩
  have BR1 := BR.keep k1 (by simp)
  have K1 := Lib.hid (K0.trans k1)
  have z1 := k1.size
  clear BF BR K0 k1
  obtain ⟨q0, q1, q2, q3, q4, q5, q6, q7, q8, q9, q10⟩ := cells11 BR1
  obtain ⟨g0, g1, g2, g3, g4, g5, g6, g7, g8, g9, g10⟩ := frozen11 BR1
  have TR := Lib.hid BR1
  clear BR1
  go_wp2_with (fail)
  have FB := blk_set11 TR.out rfl (.slice none 0 0) (.int .i64 0) (.bool false) (.bool false) (.int .i64 0) (.int .i64 0) (.int .i64 0) (.int .i64 0) (.int .i64 0) (.slice none 0 0) (.int .i64 0)
  have KL := keep_set11 w1 (w.heap.size + 1) (.slice none 0 0) (.int .i64 0) (.bool false) (.bool false) (.int .i64 0) (.int .i64 0) (.int .i64 0) (.int .i64 0) (.int .i64 0) (.slice none 0 0) (.int .i64 0)
  have KF := K1.out.step KL (by simp)
  refine bodyPost_ret (results_ct rfl _ _ (w.heap.size + 1) 36 #[.slice none 0 0, .int .i64 0, .bool false, .bool false, .int .i64 0, .int .i64 0, .int .i64 0, .int .i64 0, .int .i64 0, .slice none 0 0, .int .i64 0] (0, 0) _ rfl FB Try.underlying36 rfl (by kernel_rfl)) rfl ?_
  exact ⟨bodyR_none rfl rfl rfl, KF⟩
set_option maxHeartbeats 2000000 in
theorem rfrag_bad1 (hr : Reads w w.heap.size 1 A n (encB bs)) (hc : n ≤ c) (hc2 : c ≤ 9223372036854775807) (k : Int) (hk : ¬ k = 0) (hb : bareF 1 f bs = .bad k) :
    Calls Try.prog 31 #[.agg #[.int .i64 1, .int .i64 f.toNat, .int .i64 s, .slice A n c]] w fun e w' => BodyR w' w.heap.size e (bd0, k) ∧ Keep [] w w' := by
  have Hr := Lib.hid hr
  have HB := Lib.hid hb
  clear hr hb
  go_enter Try.func31, Try.ntmps31
  go_wp2_with (fail)
  have BF := (Blk.new w 24 #[.int .i64 1, .int .i64 f.toNat, .int .i64 s, .slice A n c]).alloc (.cells #[.slice none 0 0, .int .i64 0, .bool false, .bool false, .int .i64 0, .int .i64 0, .int .i64 0, .int .i64 0, .int .i64 0, .slice none 0 0, .int .i64 0] 36)
  have BR := Blk.new (w.alloc (.cells #[.int .i64 1, .int .i64 f.toNat, .int .i64 s, .slice A n c] 24)) 36 #[.slice none 0 0, .int .i64 0, .bool false, .bool false, .int .i64 0, .int .i64 0, .int .i64 0, .int .i64 0, .int .i64 0, .slice none 0 0, .int .i64 0]
  have K0 : Keep [] w ((w.alloc (.cells #[.int .i64 1, .int .i64 f.toNat, .int .i64 s, .slice A n c] 24)).alloc (.cells #[.slice none 0 0, .int .i64 0, .bool false, .bool false, .int .i64 0, .int .i64 0, .int .i64 0, .int .i64 0, .int .i64 0, .slice none 0 0, .int .i64 0] 36)) := ((Keep.refl _ _).alloc _).alloc _
  have e0 : ((w.alloc (.cells #[.int .i64 1, .int .i64 f.toNat, .int .i64 s, .slice A n c] 24)).alloc (.cells #[.slice none 0 0, .int .i64 0, .bool false, .bool false, .int .i64 0, .int .i64 0, .int .i64 0, .int .i64 0, .int .i64 0, .slice none 0 0, .int .i64 0] 36)).heap.size = w.heap.size + 2 := by simp
  simp only [World.size_alloc] at BR
  obtain ⟨w0, hw0⟩ : ∃ w0, w0 = ((w.alloc (.cells #[.int .i64 1, .int .i64 f.toNat, .int .i64 s, .slice A n c] 24)).alloc (.cells #[.slice none 0 0, .int .i64 0, .bool false, .bool false, .int .i64 0, .int .i64 0, .int .i64 0, .int .i64 0, .int .i64 0, .slice none 0 0, .int .i64 0] 36)) := ⟨_, rfl⟩
  rw [← hw0] at BF BR K0 e0 ⊢
  have HW0 := Lib.hid hw0
  clear hw0
  have hP := rpad_ w0 1 rfl f s ((Hr.out.keeps K0 (Nat.le_refl _) (by simp)).more (by omega)) hc hc2
  rw [HB.out] at hP
  refine hP.mono ?_
  clear hP HB
  rintro e w1 ⟨rfl, k1⟩
  have BR1 := BR.keep k1 (by simp)
  have K1 := Lib.hid (K0.trans k1)
  have z1 := k1.size
  clear BF BR K0 k1
  obtain ⟨q0, q1, q2, q3, q4, q5, q6, q7, q8, q9, q10⟩ := cells11 BR1
  obtain ⟨g0, g1, g2, g3, g4, g5, g6, g7, g8, g9, g10⟩ := frozen11 BR1
  have TR := Lib.hid BR1
  clear BR1
  go_wp2_with (fail)
  have FB := blk_set11 TR.out rfl (.slice none 0 0) (.int .i64 0) (.bool false) (.bool false) (.int .i64 0) (.int .i64 0) (.int .i64 0) (.int .i64 0) (.int .i64 0) (.slice none 0 0) (.int .i64 0)
  have KL := keep_set11 w1 (w.heap.size + 1) (.slice none 0 0) (.int .i64 0) (.bool false) (.bool false) (.int .i64 0) (.int .i64 0) (.int .i64 0) (.int .i64 0) (.int .i64 0) (.slice none 0 0) (.int .i64 0)
  have KF := K1.out.step KL (by simp)
  refine bodyPost_ret (results_ct rfl _ _ (w.heap.size + 1) 36 #[.slice none 0 0, .int .i64 0, .bool false, .bool false, .int .i64 0, .int .i64 0, .int .i64 0, .int .i64 0, .int .i64 0, .slice none 0 0, .int .i64 0] (0, 0) _ rfl FB Try.underlying36 rfl (by kernel_rfl)) rfl ?_
  exact ⟨bodyR_none rfl rfl rfl, KF⟩
set_option maxHeartbeats 2000000 in
theorem rfrag_bad5 (hr : Reads w w.heap.size 1 A n (encB bs)) (hc : n ≤ c) (hc2 : c ≤ 9223372036854775807) (k : Int) (hk : ¬ k = 0) (hb : bareF 5 f bs = .bad k) :
    Calls Try.prog 31 #[.agg #[.int .i64 5, .int .i64 f.toNat, .int .i64 s, .slice A n c]] w fun e w' => BodyR w' w.heap.size e (bd0, k) ∧ Keep [] w w' := by
  have Hr := Lib.hid hr
  have HB := Lib.hid hb
  clear hr hb
  go_enter Try.func31, Try.ntmps31
  go_wp2_with (fail)
  have BF := (Blk.new w 24 #[.int .i64 5, .int .i64 f.toNat, .int .i64 s, .slice A n c]).alloc (.cells #[.slice none 0 0, .int .i64 0, .bool false, .bool false, .int .i64 0, .int .i64 0, .int .i64 0, .int .i64 0, .int .i64 0, .slice none 0 0, .int .i64 0] 36)
  have BR := Blk.new (w.alloc (.cells #[.int .i64 5, .int .i64 f.toNat, .int .i64 s, .slice A n c] 24)) 36 #[.slice none 0 0, .int .i64 0, .bool false, .bool false, .int .i64 0, .int .i64 0, .int .i64 0, .int .i64 0, .int .i64 0, .slice none 0 0, .int .i64 0]
  have K0 : Keep [] w ((w.alloc (.cells #[.int .i64 5, .int .i64 f.toNat, .int .i64 s, .slice A n c] 24)).alloc (.cells #[.slice none 0 0, .int .i64 0, .bool false, .bool false, .int .i64 0, .int .i64 0, .int .i64 0, .int .i64 0, .int .i64 0, .slice none 0 0, .int .i64 0] 36)) := ((Keep.refl _ _).alloc _).alloc _
  have e0 : ((w.alloc (.cells #[.int .i64 5, .int .i64 f.toNat, .int .i64 s, .slice A n c] 24)).alloc (.cells #[.slice none 0 0, .int .i64 0, .bool false, .bool false, .int .i64 0, .int .i64 0, .int .i64 0, .int .i64 0, .int .i64 0, .slice none 0 0, .int .i64 0] 36)).heap.size = w.heap.size + 2 := by simp
  simp only [World.size_alloc] at BR
  obtain ⟨w0, hw0⟩ : ∃ w0, w0 = ((w.alloc (.cells #[.int .i64 5, .int .i64 f.toNat, .int .i64 s, .slice A n c] 24)).alloc (.cells #[.slice none 0 0, .int .i64 0, .bool false, .bool false, .int .i64 0, .int .i64 0, .int .i64 0, .int .i64 0, .int .i64 0, .slice none 0 0, .int .i64 0] 36)) := ⟨_, rfl⟩
  rw [← hw0] at BF BR K0 e0 ⊢
  have HW0 := Lib.hid hw0
  clear hw0
  have hP := rpad_ w0 5 rfl f s ((Hr.out.keeps K0 (Nat.le_refl _) (by simp)).more (by omega)) hc hc2
  rw [HB.out] at hP
  refine hP.mono ?_
  clear hP HB
  rintro e w1 ⟨rfl, k1⟩
  have BR1 := BR.keep k1 (by simp)
  have K1 := Lib.hid (K0.trans k1)
  have z1 := k1.size
  clear BF BR K0 k1
  obtain ⟨q0, q1, q2, q3, q4, q5, q6, q7, q8, q9, q10⟩ := cells11 BR1
  obtain ⟨g0, g1, g2, g3, g4, g5, g6, g7, g8, g9, g10⟩ := frozen11 BR1
  have TR := Lib.hid BR1
  clear BR1
  go_wp2_with (fail)
  have FB := blk_set11 TR.out rfl (.slice none 0 0) (.int .i64 0) (.bool false) (.bool false) (.int .i64 0) (.int .i64 0) (.int .i64 0) (.int .i64 0) (.int .i64 0) (.slice none 0 0) (.int .i64 0)
  have KL := keep_set11 w1 (w.heap.size + 1) (.slice none 0 0) (.int .i64 0) (.bool false) (.bool false) (.int .i64 0) (.int .i64 0) (.int .i64 0) (.int .i64 0) (.int .i64 0) (.slice none 0 0) (.int .i64 0)
  have KF := K1.out.step KL (by simp)
  refine bodyPost_ret (results_ct rfl _ _ (w.heap.size + 1) 36 #[.slice none 0 0, .int .i64 0, .bool false, .bool false, .int .i64 0, .int .i64 0, .int .i64 0, .int .i64 0, .int .i64 0, .slice none 0 0, .int .i64 0] (0, 0) _ rfl FB Try.underlying36 rfl (by kernel_rfl)) rfl ?_
  exact ⟨bodyR_none rfl rfl rfl, KF⟩
set_option maxHeartbeats 2000000 in
theorem rfrag_0 (hr : Reads w w.heap.size 1 A n (encB bs)) (hc : n ≤ c) (hc2 : c ≤ 9223372036854775807) (hlen : n ≤ 1099511627776) (hb : bareF 0 f bs = .ok pad r) :
    Calls Try.prog 31 #[.agg #[.int .i64 0, .int .i64 f.toNat, .int .i64 s, .slice A n c]] w fun e w' => BodyR w' w.heap.size e ({ bd0 with pad := pad, data := r }, 0) ∧ Keep [] w w' := by
  have HLEN : Hid (r.length ≤ 1099511627776) := Lib.hid (by have h1 := bare_len hb; have h2 := hr.1; rw [encB_len] at h2; omega)
  have Hr := Lib.hid hr
  have HB := Lib.hid hb
  clear hr hb
  go_enter Try.func31, Try.ntmps31
  go_wp2_with (fail)
  have BF := (Blk.new w 24 #[.int .i64 0, .int .i64 f.toNat, .int .i64 s, .slice A n c]).alloc (.cells #[.slice none 0 0, .int .i64 0, .bool false, .bool false, .int .i64 0, .int .i64 0, .int .i64 0, .int .i64 0, .int .i64 0, .slice none 0 0, .int .i64 0] 36)
  have BR := Blk.new (w.alloc (.cells #[.int .i64 0, .int .i64 f.toNat, .int .i64 s, .slice A n c] 24)) 36 #[.slice none 0 0, .int .i64 0, .bool false, .bool false, .int .i64 0, .int .i64 0, .int .i64 0, .int .i64 0, .int .i64 0, .slice none 0 0, .int .i64 0]
  have K0 : Keep [] w ((w.alloc (.cells #[.int .i64 0, .int .i64 f.toNat, .int .i64 s, .slice A n c] 24)).alloc (.cells #[.slice none 0 0, .int .i64 0, .bool false, .bool false, .int .i64 0, .int .i64 0, .int .i64 0, .int .i64 0, .int .i64 0, .slice none 0 0, .int .i64 0] 36)) := ((Keep.refl _ _).alloc _).alloc _
  have e0 : ((w.alloc (.cells #[.int .i64 0, .int .i64 f.toNat, .int .i64 s, .slice A n c] 24)).alloc (.cells #[.slice none 0 0, .int .i64 0, .bool false, .bool false, .int .i64 0, .int .i64 0, .int .i64 0, .int .i64 0, .int .i64 0, .slice none 0 0, .int .i64 0] 36)).heap.size = w.heap.size + 2 := by simp
  simp only [World.size_alloc] at BR
  obtain ⟨w0, hw0⟩ : ∃ w0, w0 = ((w.alloc (.cells #[.int .i64 0, .int .i64 f.toNat, .int .i64 s, .slice A n c] 24)).alloc (.cells #[.slice none 0 0, .int .i64 0, .bool false, .bool false, .int .i64 0, .int .i64 0, .int .i64 0, .int .i64 0, .int .i64 0, .slice none 0 0, .int .i64 0] 36)) := ⟨_, rfl⟩
  rw [← hw0] at BF BR K0 e0 ⊢
  have HW0 := Lib.hid hw0
  clear hw0
  have hP := rpad_ w0 0 rfl f s ((Hr.out.keeps K0 (Nat.le_refl _) (by simp)).more (by omega)) hc hc2
  rw [HB.out] at hP
  refine hP.mono ?_
  clear hP HB
  rintro e w1 ⟨A2, c2, rfl, rr, hcr, hcr2, k1⟩
  have BF1 := BF.keep k1 (by simp)
  have BR1 := BR.keep k1 (by simp)
  have K1 := Lib.hid (K0.trans k1)
  have z1 := k1.size
  have rr1 := rr.more z1
  have rb1 : Reads w1 (w.heap.size + 2) 1 A2 r.length (encB r) := by rw [← e0]; exact rr
  clear BF BR K0 k1 rr
  have d0 := BF1.cell 0
  have d1 := BF1.cell 1
  have d3 := BF1.cell 3
  simp at d0 d1 d3
  obtain ⟨ob, hob⟩ : ∃ ob, ob = w1.heap.size := ⟨_, rfl⟩
  have BO := Blk.new w1 36 #[.slice none 0 0, .int .i64 pad, .bool false, .bool false, .int .i64 0, .int .i64 0, .int .i64 0, .int .i64 0, .int .i64 0, .slice none 0 0, .int .i64 0]
  obtain ⟨w2, hw2⟩ : ∃ w2, w2 = w1.alloc (.cells #[.slice none 0 0, .int .i64 pad, .bool false, .bool false, .int .i64 0, .int .i64 0, .int .i64 0, .int .i64 0, .int .i64 0, .slice none 0 0, .int .i64 0] 36) := ⟨_, rfl⟩
  have k12 : Keep [] w1 w2 := by rw [hw2]; exact (Keep.refl _ _).alloc _
  have e2 : w2.heap.size = ob + 1 := by rw [hw2, hob]; simp
  rw [← hw2, ← hob] at BO
  have BF2 := BF1.keep k12 (by simp)
  have BR2 := BR1.keep k12 (by simp)
  have K2 := Lib.hid (K1.out.trans k12)
  have rr2 := Lib.hid ((rr1.keeps k12 (by omega) (by simp)).more k12.size)
  have rb2 := Lib.hid (rb1.keeps k12 (by omega) (by simp))
  have HW2 := Lib.hid hw2
  have HOB := Lib.hid hob
  have HE2 := Lib.hid (show w.heap.size + 2 ≤ ob ∧ w2.heap.size = ob + 1 from ⟨by omega, e2⟩)
  clear hw2 hob BF1 BR1 rr1 rb1 k12 e2 z1 d0 d1 d3
  have d0 := BF2.cell 0
  have d1 := BF2.cell 1
  have d3 := BF2.cell 3
  simp at d0 d1 d3
  go_upto_region 5 with (fail)
  rw [← HOB.out, ← HW2.out]
  obtain ⟨w3, hw3⟩ : ∃ w3, w3 = w2 := ⟨_, rfl⟩
  rw [← hw3] at BF2 BR2 BO K2 rr2 rb2 d0 d1 d3 ⊢
  have BF3 := BF2
  have BR3 := BR2
  have BO3 := BO
  have K3 := K2
  have rr3 := rr2
  have rb3 := rb2
  have HE3 := Lib.hid (show ob < w3.heap.size from BO3.lt)
  clear BF2 BR2 BO K2 rr2 rb2 hw3
  obtain ⟨i0, z0, gi, gz, gz0, gz1, gz2⟩ := u8_info
  have HRD := Lib.hid (rr3.out)
  have hbase : w.heap.size ≤ w3.heap.size := K3.out.size
  have Hbase := Lib.hid hbase
  have TBO := Lib.hid BO3
  have TBR := Lib.hid BR3
  clear BO3 BR3 hbase
  go_wp2_with (at_builtin; apply wpList_append_row _ rfl _ _ _ rfl w.heap.size 5 i0 z0 1 Try.underlying22 gi gz gz0 gz1 gz2 (.slice none 0 0) [] rfl (Row1.nil _ _ _) _ (A2) (r.length) (c2) (encB (r)) rfl HRD.out encB_one (by have := HRD.out.1; rw [encB_len] at this; have := HLEN.out; unfold maxLen; simp only [List.length_nil]; omega) (by have := HRD.out.1; rw [encB_len] at this; have := HLEN.out; simp only [List.length_nil]; omega) Hbase.out; intro v7 w7 hrow7 k7 hm7; rw [List.nil_append] at hrow7; obtain ⟨A7, m7, c7, rfl⟩ : ∃ A7 m7 c7, v7 = .slice A7 m7 c7 := (by obtain ⟨A7, c7, e, _⟩ := hrow7.reads; exact ⟨A7, _, c7, e⟩); simp only [rowBlk, Option.toList_none] at k7; have BO7 := TBO.out.keep k7 (by simp); have BR7 := TBR.out.keep k7 (by simp); have K7 := Lib.hid (K3.out.trans k7); have HROW := Lib.hid hrow7; have hob7 := BO7.lt; obtain ⟨x0, x1, x2, x3, x4, x5, x6, x7, x8, x9, x10⟩ := cells11 BO7; obtain ⟨y0, y1, y2, y3, y4, y5, y6, y7, y8, y9, y10⟩ := frozen11 BO7; obtain ⟨q0, q1, q2, q3, q4, q5, q6, q7, q8, q9, q10⟩ := cells11 BR7; obtain ⟨g0, g1, g2, g3, g4, g5, g6, g7, g8, g9, g10⟩ := frozen11 BR7; have TO7 := Lib.hid BO7; have TR7 := Lib.hid BR7; have hne : ob ≠ w.heap.size + 1 := (by have := HE2.out; omega); clear BO7 BR7 hrow7 k7 hm7 HRD)
  have KO : Keep [ob] w7 (w7.setCell ⟨ob, 0, none⟩ (.slice A7 m7 c7)) := (Keep.refl _ _).setCell (p := ⟨ob, 0, none⟩) (.inl (by simp)) _
  have BRX := TR7.out.keep KO (by simp; omega)
  have hob2 := HE2.out.1
  have KX := Lib.hid (K7.out.step KO (by simp; omega))
  have hrX := HROW.out.keep KO (fun g hg hm => by
    obtain rfl : g = ob := by simpa using hm
    exact row_off_blk HROW.out TO7.out (by decide) hg)
  have FB := blk_set11 BRX rfl (.slice A7 m7 c7) (.int .i64 pad) (.bool false) (.bool false) (.int .i64 0) (.int .i64 0) (.int .i64 0) (.int .i64 0) (.int .i64 0) (.slice none 0 0) (.int .i64 0)
  have KL := keep_set11 (w7.setCell ⟨ob, 0, none⟩ (.slice A7 m7 c7)) (w.heap.size + 1) (.slice A7 m7 c7) (.int .i64 pad) (.bool false) (.bool false) (.int .i64 0) (.int .i64 0) (.int .i64 0) (.int .i64 0) (.int .i64 0) (.slice none 0 0) (.int .i64 0)
  have KF := KX.out.step KL (by simp)
  refine bodyPost_ret (results_ct rfl _ _ (w.heap.size + 1) 36 #[.slice A7 m7 c7, .int .i64 pad, .bool false, .bool false, .int .i64 0, .int .i64 0, .int .i64 0, .int .i64 0, .int .i64 0, .slice none 0 0, .int .i64 0] (0, 0) _ rfl FB Try.underlying36 rfl (by kernel_rfl)) rfl ?_
  have hrF := hrX.keep KL (fun g hg hm => by
    obtain rfl : g = w.heap.size + 1 := by simpa using hm
    exact row_off_blk hrX BRX (by decide) hg)
  exact ⟨bodyR_data rfl hrF rfl, KF⟩
set_option maxHeartbeats 2000000 in
theorem rfrag_1n (hr : Reads w w.heap.size 1 A n (encB bs)) (hc : n ≤ c) (hc2 : c ≤ 9223372036854775807) (hlen : n ≤ 1099511627776) (hf : onF f 32 = false) (hb : bareF 1 f bs = .ok pad r) :
    Calls Try.prog 31 #[.agg #[.int .i64 1, .int .i64 f.toNat, .int .i64 s, .slice A n c]] w fun e w' => BodyR w' w.heap.size e ({ bd0 with pad := pad, data := r }, 0) ∧ Keep [] w w' := by
  have HLEN : Hid (r.length ≤ 1099511627776) := Lib.hid (by have h1 := bare_len hb; have h2 := hr.1; rw [encB_len] at h2; omega)
  have Hr := Lib.hid hr
  have HB := Lib.hid hb
  clear hr hb
  go_enter Try.func31, Try.ntmps31
  go_wp2_with (fail)
  have BF := (Blk.new w 24 #[.int .i64 1, .int .i64 f.toNat, .int .i64 s, .slice A n c]).alloc (.cells #[.slice none 0 0, .int .i64 0, .bool false, .bool false, .int .i64 0, .int .i64 0, .int .i64 0, .int .i64 0, .int .i64 0, .slice none 0 0, .int .i64 0] 36)
  have BR := Blk.new (w.alloc (.cells #[.int .i64 1, .int .i64 f.toNat, .int .i64 s, .slice A n c] 24)) 36 #[.slice none 0 0, .int .i64 0, .bool false, .bool false, .int .i64 0, .int .i64 0, .int .i64 0, .int .i64 0, .int .i64 0, .slice none 0 0, .int .i64 0]
  have K0 : Keep [] w ((w.alloc (.cells #[.int .i64 1, .int .i64 f.toNat, .int .i64 s, .slice A n c] 24)).alloc (.cells #[.slice none 0 0, .int .i64 0, .bool false, .bool false, .int .i64 0, .int .i64 0, .int .i64 0, .int .i64 0, .int .i64 0, .slice none 0 0, .int .i64 0] 36)) := ((Keep.refl _ _).alloc _).alloc _
  have e0 : ((w.alloc (.cells #[.int .i64 1, .int .i64 f.toNat, .int .i64 s, .slice A n c] 24)).alloc (.cells #[.slice none 0 0, .int .i64 0, .bool false, .bool false, .int .i64 0, .int .i64 0, .int .i64 0, .int .i64 0, .int .i64 0, .slice none 0 0, .int .i64 0] 36)).heap.size = w.heap.size + 2 := by simp
  simp only [World.size_alloc] at BR
  obtain ⟨w0, hw0⟩ : ∃ w0, w0 = ((w.alloc (.cells #[.int .i64 1, .int .i64 f.toNat, .int .i64 s, .slice A n c] 24)).alloc (.cells #[.slice none 0 0, .int .i64 0, .bool false, .bool false, .int .i64 0, .int .i64 0, .int .i64 0, .int .i64 0, .int .i64 0, .slice none 0 0, .int .i64 0] 36)) := ⟨_, rfl⟩
  rw [← hw0] at BF BR K0 e0 ⊢
  have HW0 := Lib.hid hw0
  clear hw0
  have hP := rpad_ w0 1 rfl f s ((Hr.out.keeps K0 (Nat.le_refl _) (by simp)).more (by omega)) hc hc2
  rw [HB.out] at hP
  refine hP.mono ?_
  clear hP HB
  rintro e w1 ⟨A2, c2, rfl, rr, hcr, hcr2, k1⟩
  have BF1 := BF.keep k1 (by simp)
  have BR1 := BR.keep k1 (by simp)
  have K1 := Lib.hid (K0.trans k1)
  have z1 := k1.size
  have rr1 := rr.more z1
  have rb1 : Reads w1 (w.heap.size + 2) 1 A2 r.length (encB r) := by rw [← e0]; exact rr
  clear BF BR K0 k1 rr
  have d0 := BF1.cell 0
  have d1 := BF1.cell 1
  have d3 := BF1.cell 3
  simp at d0 d1 d3
  obtain ⟨ob, hob⟩ : ∃ ob, ob = w1.heap.size := ⟨_, rfl⟩
  have BO := Blk.new w1 36 #[.slice none 0 0, .int .i64 pad, .bool false, .bool false, .int .i64 0, .int .i64 0, .int .i64 0, .int .i64 0, .int .i64 0, .slice none 0 0, .int .i64 0]
  obtain ⟨w2, hw2⟩ : ∃ w2, w2 = w1.alloc (.cells #[.slice none 0 0, .int .i64 pad, .bool false, .bool false, .int .i64 0, .int .i64 0, .int .i64 0, .int .i64 0, .int .i64 0, .slice none 0 0, .int .i64 0] 36) := ⟨_, rfl⟩
  have k12 : Keep [] w1 w2 := by rw [hw2]; exact (Keep.refl _ _).alloc _
  have e2 : w2.heap.size = ob + 1 := by rw [hw2, hob]; simp
  rw [← hw2, ← hob] at BO
  have BF2 := BF1.keep k12 (by simp)
  have BR2 := BR1.keep k12 (by simp)
  have K2 := Lib.hid (K1.out.trans k12)
  have rr2 := Lib.hid ((rr1.keeps k12 (by omega) (by simp)).more k12.size)
  have rb2 := Lib.hid (rb1.keeps k12 (by omega) (by simp))
  have HW2 := Lib.hid hw2
  have HOB := Lib.hid hob
  have HE2 := Lib.hid (show w.heap.size + 2 ≤ ob ∧ w2.heap.size = ob + 1 from ⟨by omega, e2⟩)
  clear hw2 hob BF1 BR1 rr1 rb1 k12 e2 z1 d0 d1 d3
  have d0 := BF2.cell 0
  have d1 := BF2.cell 1
  have d3 := BF2.cell 3
  simp at d0 d1 d3
  go_upto_region 5 with (fail)
  rw [← HOB.out, ← HW2.out]
  go_wp2_with (fail)
  refine (on_ w2 f 32 (by omega)).mono ?_
  rintro e w3 ⟨rfl, k3⟩
  rw [show onF f 32 = false from hf]
  have BF3 := BF2.keep k3 (by simp)
  have BR3 := BR2.keep k3 (by simp)
  have BO3 := BO.keep k3 (by simp)
  have K3 := Lib.hid (K2.out.trans k3)
  have rr3 := Lib.hid ((rr2.out.keeps k3 (Nat.le_refl _) (by simp)).more k3.size)
  have rb3 := Lib.hid (rb2.out.keeps k3 (by have := HE2.out; omega) (by simp))
  have HE3 := Lib.hid (show ob < w3.heap.size from BO3.lt)
  clear BF2 BR2 BO k3 d0 d1 d3 rr2 rb2
  have d0 := BF3.cell 0
  have d1 := BF3.cell 1
  have d3 := BF3.cell 3
  simp at d0 d1 d3
  obtain ⟨i0, z0, gi, gz, gz0, gz1, gz2⟩ := u8_info
  have HRD := Lib.hid (rr3.out)
  have hbase : w.heap.size ≤ w3.heap.size := K3.out.size
  have Hbase := Lib.hid hbase
  have TBO := Lib.hid BO3
  have TBR := Lib.hid BR3
  clear BO3 BR3 hbase
  go_wp2_with (at_builtin; apply wpList_append_row _ rfl _ _ _ rfl w.heap.size 5 i0 z0 1 Try.underlying22 gi gz gz0 gz1 gz2 (.slice none 0 0) [] rfl (Row1.nil _ _ _) _ (A2) (r.length) (c2) (encB (r)) rfl HRD.out encB_one (by have := HRD.out.1; rw [encB_len] at this; have := HLEN.out; unfold maxLen; simp only [List.length_nil]; omega) (by have := HRD.out.1; rw [encB_len] at this; have := HLEN.out; simp only [List.length_nil]; omega) Hbase.out; intro v7 w7 hrow7 k7 hm7; rw [List.nil_append] at hrow7; obtain ⟨A7, m7, c7, rfl⟩ : ∃ A7 m7 c7, v7 = .slice A7 m7 c7 := (by obtain ⟨A7, c7, e, _⟩ := hrow7.reads; exact ⟨A7, _, c7, e⟩); simp only [rowBlk, Option.toList_none] at k7; have BO7 := TBO.out.keep k7 (by simp); have BR7 := TBR.out.keep k7 (by simp); have K7 := Lib.hid (K3.out.trans k7); have HROW := Lib.hid hrow7; have hob7 := BO7.lt; obtain ⟨x0, x1, x2, x3, x4, x5, x6, x7, x8, x9, x10⟩ := cells11 BO7; obtain ⟨y0, y1, y2, y3, y4, y5, y6, y7, y8, y9, y10⟩ := frozen11 BO7; obtain ⟨q0, q1, q2, q3, q4, q5, q6, q7, q8, q9, q10⟩ := cells11 BR7; obtain ⟨g0, g1, g2, g3, g4, g5, g6, g7, g8, g9, g10⟩ := frozen11 BR7; have TO7 := Lib.hid BO7; have TR7 := Lib.hid BR7; have hne : ob ≠ w.heap.size + 1 := (by have := HE2.out; omega); clear BO7 BR7 hrow7 k7 hm7 HRD)
  have KO : Keep [ob] w7 (w7.setCell ⟨ob, 0, none⟩ (.slice A7 m7 c7)) := (Keep.refl _ _).setCell (p := ⟨ob, 0, none⟩) (.inl (by simp)) _
  have BRX := TR7.out.keep KO (by simp; omega)
  have hob2 := HE2.out.1
  have KX := Lib.hid (K7.out.step KO (by simp; omega))
  have hrX := HROW.out.keep KO (fun g hg hm => by
    obtain rfl : g = ob := by simpa using hm
    exact row_off_blk HROW.out TO7.out (by decide) hg)
  have FB := blk_set11 BRX rfl (.slice A7 m7 c7) (.int .i64 pad) (.bool false) (.bool false) (.int .i64 0) (.int .i64 0) (.int .i64 0) (.int .i64 0) (.int .i64 0) (.slice none 0 0) (.int .i64 0)
  have KL := keep_set11 (w7.setCell ⟨ob, 0, none⟩ (.slice A7 m7 c7)) (w.heap.size + 1) (.slice A7 m7 c7) (.int .i64 pad) (.bool false) (.bool false) (.int .i64 0) (.int .i64 0) (.int .i64 0) (.int .i64 0) (.int .i64 0) (.slice none 0 0) (.int .i64 0)
  have KF := KX.out.step KL (by simp)
  refine bodyPost_ret (results_ct rfl _ _ (w.heap.size + 1) 36 #[.slice A7 m7 c7, .int .i64 pad, .bool false, .bool false, .int .i64 0, .int .i64 0, .int .i64 0, .int .i64 0, .int .i64 0, .slice none 0 0, .int .i64 0] (0, 0) _ rfl FB Try.underlying36 rfl (by kernel_rfl)) rfl ?_
  have hrF := hrX.keep KL (fun g hg hm => by
    obtain rfl : g = w.heap.size + 1 := by simpa using hm
    exact row_off_blk hrX BRX (by decide) hg)
  exact ⟨bodyR_data rfl hrF rfl, KF⟩
set_option maxHeartbeats 2000000 in
theorem rfrag_1s (hr : Reads w w.heap.size 1 A n (encB bs)) (hc : n ≤ c) (hc2 : c ≤ 9223372036854775807) (hf : onF f 32 = true) (hs : r.length < 5) (hb : bareF 1 f bs = .ok pad r) :
    Calls Try.prog 31 #[.agg #[.int .i64 1, .int .i64 f.toNat, .int .i64 s, .slice A n c]] w fun e w' => BodyR w' w.heap.size e (bd0, 6) ∧ Keep [] w w' := by
  have hsh : (r.length : Int) < 5 := by omega
  have HSH := Lib.hid hs
  clear hs
  have Hr := Lib.hid hr
  have HB := Lib.hid hb
  clear hr hb
  go_enter Try.func31, Try.ntmps31
  go_wp2_with (fail)
  have BF := (Blk.new w 24 #[.int .i64 1, .int .i64 f.toNat, .int .i64 s, .slice A n c]).alloc (.cells #[.slice none 0 0, .int .i64 0, .bool false, .bool false, .int .i64 0, .int .i64 0, .int .i64 0, .int .i64 0, .int .i64 0, .slice none 0 0, .int .i64 0] 36)
  have BR := Blk.new (w.alloc (.cells #[.int .i64 1, .int .i64 f.toNat, .int .i64 s, .slice A n c] 24)) 36 #[.slice none 0 0, .int .i64 0, .bool false, .bool false, .int .i64 0, .int .i64 0, .int .i64 0, .int .i64 0, .int .i64 0, .slice none 0 0, .int .i64 0]
  have K0 : Keep [] w ((w.alloc (.cells #[.int .i64 1, .int .i64 f.toNat, .int .i64 s, .slice A n c] 24)).alloc (.cells #[.slice none 0 0, .int .i64 0, .bool false, .bool false, .int .i64 0, .int .i64 0, .int .i64 0, .int .i64 0, .int .i64 0, .slice none 0 0, .int .i64 0] 36)) := ((Keep.refl _ _).alloc _).alloc _
  have e0 : ((w.alloc (.cells #[.int .i64 1, .int .i64 f.toNat, .int .i64 s, .slice A n c] 24)).alloc (.cells #[.slice none 0 0, .int .i64 0, .bool false, .bool false, .int .i64 0, .int .i64 0, .int .i64 0, .int .i64 0, .int .i64 0, .slice none 0 0, .int .i64 0] 36)).heap.size = w.heap.size + 2 := by simp
  simp only [World.size_alloc] at BR
  obtain ⟨w0, hw0⟩ : ∃ w0, w0 = ((w.alloc (.cells #[.int .i64 1, .int .i64 f.toNat, .int .i64 s, .slice A n c] 24)).alloc (.cells #[.slice none 0 0, .int .i64 0, .bool false, .bool false, .int .i64 0, .int .i64 0, .int .i64 0, .int .i64 0, .int .i64 0, .slice none 0 0, .int .i64 0] 36)) := ⟨_, rfl⟩
  rw [← hw0] at BF BR K0 e0 ⊢
  have HW0 := Lib.hid hw0
  clear hw0
  have hP := rpad_ w0 1 rfl f s ((Hr.out.keeps K0 (Nat.le_refl _) (by simp)).more (by omega)) hc hc2
  rw [HB.out] at hP
  refine hP.mono ?_
  clear hP HB
  rintro e w1 ⟨A2, c2, rfl, rr, hcr, hcr2, k1⟩
  have BF1 := BF.keep k1 (by simp)
  have BR1 := BR.keep k1 (by simp)
  have K1 := Lib.hid (K0.trans k1)
  have z1 := k1.size
  have rr1 := rr.more z1
  have rb1 : Reads w1 (w.heap.size + 2) 1 A2 r.length (encB r) := by rw [← e0]; exact rr
  clear BF BR K0 k1 rr
  have d0 := BF1.cell 0
  have d1 := BF1.cell 1
  have d3 := BF1.cell 3
  simp at d0 d1 d3
  obtain ⟨ob, hob⟩ : ∃ ob, ob = w1.heap.size := ⟨_, rfl⟩
  have BO := Blk.new w1 36 #[.slice none 0 0, .int .i64 pad, .bool false, .bool false, .int .i64 0, .int .i64 0, .int .i64 0, .int .i64 0, .int .i64 0, .slice none 0 0, .int .i64 0]
  obtain ⟨w2, hw2⟩ : ∃ w2, w2 = w1.alloc (.cells #[.slice none 0 0, .int .i64 pad, .bool false, .bool false, .int .i64 0, .int .i64 0, .int .i64 0, .int .i64 0, .int .i64 0, .slice none 0 0, .int .i64 0] 36) := ⟨_, rfl⟩
  have k12 : Keep [] w1 w2 := by rw [hw2]; exact (Keep.refl _ _).alloc _
  have e2 : w2.heap.size = ob + 1 := by rw [hw2, hob]; simp
  rw [← hw2, ← hob] at BO
  have BF2 := BF1.keep k12 (by simp)
  have BR2 := BR1.keep k12 (by simp)
  have K2 := Lib.hid (K1.out.trans k12)
  have rr2 := Lib.hid ((rr1.keeps k12 (by omega) (by simp)).more k12.size)
  have rb2 := Lib.hid (rb1.keeps k12 (by omega) (by simp))
  have HW2 := Lib.hid hw2
  have HOB := Lib.hid hob
  have HE2 := Lib.hid (show w.heap.size + 2 ≤ ob ∧ w2.heap.size = ob + 1 from ⟨by omega, e2⟩)
  clear hw2 hob BF1 BR1 rr1 rb1 k12 e2 z1 d0 d1 d3
  have d0 := BF2.cell 0
  have d1 := BF2.cell 1
  have d3 := BF2.cell 3
  simp at d0 d1 d3
  go_upto_region 5 with (fail)
  rw [← HOB.out, ← HW2.out]
  go_wp2_with (fail)
  refine (on_ w2 f 32 (by omega)).mono ?_
  rintro e w3 ⟨rfl, k3⟩
  rw [show onF f 32 = true from hf]
  have BF3 := BF2.keep k3 (by simp)
  have BR3 := BR2.keep k3 (by simp)
  have BO3 := BO.keep k3 (by simp)
  have K3 := Lib.hid (K2.out.trans k3)
  have rr3 := Lib.hid ((rr2.out.keeps k3 (Nat.le_refl _) (by simp)).more k3.size)
  have rb3 := Lib.hid (rb2.out.keeps k3 (by have := HE2.out; omega) (by simp))
  have HE3 := Lib.hid (show ob < w3.heap.size from BO3.lt)
  clear BF2 BR2 BO k3 d0 d1 d3 rr2 rb2
  have d0 := BF3.cell 0
  have d1 := BF3.cell 1
  have d3 := BF3.cell 3
  simp at d0 d1 d3
  obtain ⟨q0, q1, q2, q3, q4, q5, q6, q7, q8, q9, q10⟩ := cells11 BR3
  obtain ⟨g0, g1, g2, g3, g4, g5, g6, g7, g8, g9, g10⟩ := frozen11 BR3
  have TR := Lib.hid BR3
  clear BR3 BO3
  go_wp2_with (fail)
  have hob2 := HE2.out.1
  have FB := blk_set11 TR.out rfl (.slice none 0 0) (.int .i64 0) (.bool false) (.bool false) (.int .i64 0) (.int .i64 0) (.int .i64 0) (.int .i64 0) (.int .i64 0) (.slice none 0 0) (.int .i64 0)
  have KL := keep_set11 w3 (w.heap.size + 1) (.slice none 0 0) (.int .i64 0) (.bool false) (.bool false) (.int .i64 0) (.int .i64 0) (.int .i64 0) (.int .i64 0) (.int .i64 0) (.slice none 0 0) (.int .i64 0)
  have KF := K3.out.step KL (by simp)
  refine bodyPost_ret (results_ct rfl _ _ (w.heap.size + 1) 36 #[.slice none 0 0, .int .i64 0, .bool false, .bool false, .int .i64 0, .int .i64 0, .int .i64 0, .int .i64 0, .int .i64 0, .slice none 0 0, .int .i64 0] (0, 0) _ rfl FB Try.underlying36 rfl (by kernel_rfl)) rfl ?_
  exact ⟨bodyR_none rfl rfl rfl, KF⟩
set_option maxHeartbeats 2000000 in
theorem rfrag_5s (hr : Reads w w.heap.size 1 A n (encB bs)) (hc : n ≤ c) (hc2 : c ≤ 9223372036854775807) (hs : r.length < 4) (hb : bareF 5 f bs = .ok pad r) :
    Calls Try.prog 31 #[.agg #[.int .i64 5, .int .i64 f.toNat, .int .i64 s, .slice A n c]] w fun e w' => BodyR w' w.heap.size e (bd0, 6) ∧ Keep [] w w' := by
  have hsh : (r.length : Int) < 4 := by omega
  have HSH := Lib.hid hs
  clear hs
  have Hr := Lib.hid hr
  have HB := Lib.hid hb
  clear hr hb
  go_enter Try.func31, Try.ntmps31
  go_wp2_with (fail)
  have BF := (Blk.new w 24 #[.int .i64 5, .int .i64 f.toNat, .int .i64 s, .slice A n c]).alloc (.cells #[.slice none 0 0, .int .i64 0, .bool false, .bool false, .int .i64 0, .int .i64 0, .int .i64 0, .int .i64 0, .int .i64 0, .slice none 0 0, .int .i64 0] 36)
  have BR := Blk.new (w.alloc (.cells #[.int .i64 5, .int .i64 f.toNat, .int .i64 s, .slice A n c] 24)) 36 #[.slice none 0 0, .int .i64 0, .bool false, .bool false, .int .i64 0, .int .i64 0, .int .i64 0, .int .i64 0, .int .i64 0, .slice none 0 0, .int .i64 0]
  have K0 : Keep [] w ((w.alloc (.cells #[.int .i64 5, .int .i64 f.toNat, .int .i64 s, .slice A n c] 24)).alloc (.cells #[.slice none 0 0, .int .i64 0, .bool false, .bool false, .int .i64 0, .int .i64 0, .int .i64 0, .int .i64 0, .int .i64 0, .slice none 0 0, .int .i64 0] 36)) := ((Keep.refl _ _).alloc _).alloc _
  have e0 : ((w.alloc (.cells #[.int .i64 5, .int .i64 f.toNat, .int .i64 s, .slice A n c] 24)).alloc (.cells #[.slice none 0 0, .int .i64 0, .bool false, .bool false, .int .i64 0, .int .i64 0, .int .i64 0, .int .i64 0, .int .i64 0, .slice none 0 0, .int .i64 0] 36)).heap.size = w.heap.size + 2 := by simp
  simp only [World.size_alloc] at BR
  obtain ⟨w0, hw0⟩ : ∃ w0, w0 = ((w.alloc (.cells #[.int .i64 5, .int .i64 f.toNat, .int .i64 s, .slice A n c] 24)).alloc (.cells #[.slice none 0 0, .int .i64 0, .bool false, .bool false, .int .i64 0, .int .i64 0, .int .i64 0, .int .i64 0, .int .i64 0, .slice none 0 0, .int .i64 0] 36)) := ⟨_, rfl⟩
  rw [← hw0] at BF BR K0 e0 ⊢
  have HW0 := Lib.hid hw0
  clear hw0
  have hP := rpad_ w0 5 rfl f s ((Hr.out.keeps K0 (Nat.le_refl _) (by simp)).more (by omega)) hc hc2
  rw [HB.out] at hP
  refine hP.mono ?_
  clear hP HB
  rintro e w1 ⟨A2, c2, rfl, rr, hcr, hcr2, k1⟩
  have BF1 := BF.keep k1 (by simp)
  have BR1 := BR.keep k1 (by simp)
  have K1 := Lib.hid (K0.trans k1)
  have z1 := k1.size
  have rr1 := rr.more z1
  have rb1 : Reads w1 (w.heap.size + 2) 1 A2 r.length (encB r) := by rw [← e0]; exact rr
  clear BF BR K0 k1 rr
  have d0 := BF1.cell 0
  have d1 := BF1.cell 1
  have d3 := BF1.cell 3
  simp at d0 d1 d3
  obtain ⟨ob, hob⟩ : ∃ ob, ob = w1.heap.size := ⟨_, rfl⟩
  have BO := Blk.new w1 36 #[.slice none 0 0, .int .i64 pad, .bool false, .bool false, .int .i64 0, .int .i64 0, .int .i64 0, .int .i64 0, .int .i64 0, .slice none 0 0, .int .i64 0]
  obtain ⟨w2, hw2⟩ : ∃ w2, w2 = w1.alloc (.cells #[.slice none 0 0, .int .i64 pad, .bool false, .bool false, .int .i64 0, .int .i64 0, .int .i64 0, .int .i64 0, .int .i64 0, .slice none 0 0, .int .i64 0] 36) := ⟨_, rfl⟩
  have k12 : Keep [] w1 w2 := by rw [hw2]; exact (Keep.refl _ _).alloc _
  have e2 : w2.heap.size = ob + 1 := by rw [hw2, hob]; simp
  rw [← hw2, ← hob] at BO
  have BF2 := BF1.keep k12 (by simp)
  have BR2 := BR1.keep k12 (by simp)
  have K2 := Lib.hid (K1.out.trans k12)
  have rr2 := Lib.hid ((rr1.keeps k12 (by omega) (by simp)).more k12.size)
  have rb2 := Lib.hid (rb1.keeps k12 (by omega) (by simp))
  have HW2 := Lib.hid hw2
  have HOB := Lib.hid hob
  have HE2 := Lib.hid (show w.heap.size + 2 ≤ ob ∧ w2.heap.size = ob + 1 from ⟨by omega, e2⟩)
  clear hw2 hob BF1 BR1 rr1 rb1 k12 e2 z1 d0 d1 d3
  have d0 := BF2.cell 0
  have d1 := BF2.cell 1
  have d3 := BF2.cell 3
  simp at d0 d1 d3
  go_upto_region 5 with (fail)
  rw [← HOB.out, ← HW2.out]
  obtain ⟨w3, hw3⟩ : ∃ w3, w3 = w2 := ⟨_, rfl⟩
  rw [← hw3] at BF2 BR2 BO K2 rr2 rb2 d0 d1 d3 ⊢
  have BF3 := BF2
  have BR3 := BR2
  have BO3 := BO
  have K3 := K2
  have rr3 := rr2
  have rb3 := rb2
  have HE3 := Lib.hid (show ob < w3.heap.size from BO3.lt)
  clear BF2 BR2 BO K2 rr2 rb2 hw3
  obtain ⟨q0, q1, q2, q3, q4, q5, q6, q7, q8, q9, q10⟩ := cells11 BR3
  obtain ⟨g0, g1, g2, g3, g4, g5, g6, g7, g8, g9, g10⟩ := frozen11 BR3
  have TR := Lib.hid BR3
  clear BR3 BO3
  go_wp2_with (fail)
  have hob2 := HE2.out.1
  have FB := blk_set11 TR.out rfl (.slice none 0 0) (.int .i64 0) (.bool false) (.bool false) (.int .i64 0) (.int .i64 0) (.int .i64 0) (.int .i64 0) (.int .i64 0) (.slice none 0 0) (.int .i64 0)
  have KL := keep_set11 w3 (w.heap.size + 1) (.slice none 0 0) (.int .i64 0) (.bool false) (.bool false) (.int .i64 0) (.int .i64 0) (.int .i64 0) (.int .i64 0) (.int .i64 0) (.slice none 0 0) (.int .i64 0)
  have KF := K3.out.step KL (by simp)
  refine bodyPost_ret (results_ct rfl _ _ (w.heap.size + 1) 36 #[.slice none 0 0, .int .i64 0, .bool false, .bool false, .int .i64 0, .int .i64 0, .int .i64 0, .int .i64 0, .int .i64 0, .slice none 0 0, .int .i64 0] (0, 0) _ rfl FB Try.underlying36 rfl (by kernel_rfl)) rfl ?_
  exact ⟨bodyR_none rfl rfl rfl, KF⟩
set_option maxHeartbeats 2000000 in
theorem rfrag_1p (hr : Reads w w.heap.size 1 A n (encB bs)) (hc : n ≤ c) (hc2 : c ≤ 9223372036854775807) (hlen : n ≤ 1099511627776) (hf : onF f 32 = true) (hs : 5 ≤ r.length) (hb : bareF 1 f bs = .ok pad r) :
    Calls Try.prog 31 #[.agg #[.int .i64 1, .int .i64 f.toNat, .int .i64 s, .slice A n c]] w fun e w' => BodyR w' w.heap.size e ({ prioB { bd0 with pad := pad } r with data := r.drop 5 }, 0) ∧ Keep [] w w' := by
  have HLEN : Hid (r.length ≤ 1099511627776) := Lib.hid (by have h1 := bare_len hb; have h2 := hr.1; rw [encB_len] at h2; omega)
  have HS5 := Lib.hid hs
  clear hs
  have Hr := Lib.hid hr
  have HB := Lib.hid hb
  clear hr hb
  go_enter Try.func31, Try.ntmps31
  go_wp2_with (fail)
  have BF := (Blk.new w 24 #[.int .i64 1, .int .i64 f.toNat, .int .i64 s, .slice A n c]).alloc (.cells #[.slice none 0 0, .int .i64 0, .bool false, .bool false, .int .i64 0, .int .i64 0, .int .i64 0, .int .i64 0, .int .i64 0, .slice none 0 0, .int .i64 0] 36)
  have BR := Blk.new (w.alloc (.cells #[.int .i64 1, .int .i64 f.toNat, .int .i64 s, .slice A n c] 24)) 36 #[.slice none 0 0, .int .i64 0, .bool false, .bool false, .int .i64 0, .int .i64 0, .int .i64 0, .int .i64 0, .int .i64 0, .slice none 0 0, .int .i64 0]
  have K0 : Keep [] w ((w.alloc (.cells #[.int .i64 1, .int .i64 f.toNat, .int .i64 s, .slice A n c] 24)).alloc (.cells #[.slice none 0 0, .int .i64 0, .bool false, .bool false, .int .i64 0, .int .i64 0, .int .i64 0, .int .i64 0, .int .i64 0, .slice none 0 0, .int .i64 0] 36)) := ((Keep.refl _ _).alloc _).alloc _
  have e0 : ((w.alloc (.cells #[.int .i64 1, .int .i64 f.toNat, .int .i64 s, .slice A n c] 24)).alloc (.cells #[.slice none 0 0, .int .i64 0, .bool false, .bool false, .int .i64 0, .int .i64 0, .int .i64 0, .int .i64 0, .int .i64 0, .slice none 0 0, .int .i64 0] 36)).heap.size = w.heap.size + 2 := by simp
  simp only [World.size_alloc] at BR
  obtain ⟨w0, hw0⟩ : ∃ w0, w0 = ((w.alloc (.cells #[.int .i64 1, .int .i64 f.toNat, .int .i64 s, .slice A n c] 24)).alloc (.cells #[.slice none 0 0, .int .i64 0, .bool false, .bool false, .int .i64 0, .int .i64 0, .int .i64 0, .int .i64 0, .int .i64 0, .slice none 0 0, .int .i64 0] 36)) := ⟨_, rfl⟩
  rw [← hw0] at BF BR K0 e0 ⊢
  have HW0 := Lib.hid hw0
  clear hw0
  have hP := rpad_ w0 1 rfl f s ((Hr.out.keeps K0 (Nat.le_refl _) (by simp)).more (by omega)) hc hc2
  rw [HB.out] at hP
  refine hP.mono ?_
  clear hP HB
  rintro e w1 ⟨A2, c2, rfl, rr, hcr, hcr2, k1⟩
  have BF1 := BF.keep k1 (by simp)
  have BR1 := BR.keep k1 (by simp)
  have K1 := Lib.hid (K0.trans k1)
  have z1 := k1.size
  have rr1 := rr.more z1
  have rb1 : Reads w1 (w.heap.size + 2) 1 A2 r.length (encB r) := by rw [← e0]; exact rr
  clear BF BR K0 k1 rr
  have d0 := BF1.cell 0
  have d1 := BF1.cell 1
  have d3 := BF1.cell 3
  simp at d0 d1 d3
  obtain ⟨ob, hob⟩ : ∃ ob, ob = w1.heap.size := ⟨_, rfl⟩
  have BO := Blk.new w1 36 #[.slice none 0 0, .int .i64 pad, .bool false, .bool false, .int .i64 0, .int .i64 0, .int .i64 0, .int .i64 0, .int .i64 0, .slice none 0 0, .int .i64 0]
  obtain ⟨w2, hw2⟩ : ∃ w2, w2 = w1.alloc (.cells #[.slice none 0 0, .int .i64 pad, .bool false, .bool false, .int .i64 0, .int .i64 0, .int .i64 0, .int .i64 0, .int .i64 0, .slice none 0 0, .int .i64 0] 36) := ⟨_, rfl⟩
  have k12 : Keep [] w1 w2 := by rw [hw2]; exact (Keep.refl _ _).alloc _
  have e2 : w2.heap.size = ob + 1 := by rw [hw2, hob]; simp
  rw [← hw2, ← hob] at BO
  have BF2 := BF1.keep k12 (by simp)
  have BR2 := BR1.keep k12 (by simp)
  have K2 := Lib.hid (K1.out.trans k12)
  have rr2 := Lib.hid ((rr1.keeps k12 (by omega) (by simp)).more k12.size)
  have rb2 := Lib.hid (rb1.keeps k12 (by omega) (by simp))
  have HW2 := Lib.hid hw2
  have HOB := Lib.hid hob
  have HE2 := Lib.hid (show w.heap.size + 2 ≤ ob ∧ w2.heap.size = ob + 1 from ⟨by omega, e2⟩)
  clear hw2 hob BF1 BR1 rr1 rb1 k12 e2 z1 d0 d1 d3
  have d0 := BF2.cell 0
  have d1 := BF2.cell 1
  have d3 := BF2.cell 3
  simp at d0 d1 d3
  go_upto_region 5 with (fail)
  rw [← HOB.out, ← HW2.out]
  go_wp2_with (fail)
  refine (on_ w2 f 32 (by omega)).mono ?_
  rintro e w3 ⟨rfl, k3⟩
  rw [show onF f 32 = true from hf]
  have BF3 := BF2.keep k3 (by simp)
  have BR3 := BR2.keep k3 (by simp)
  have BO3 := BO.keep k3 (by simp)
  have K3 := Lib.hid (K2.out.trans k3)
  have rr3 := Lib.hid ((rr2.out.keeps k3 (Nat.le_refl _) (by simp)).more k3.size)
  have rb3 := Lib.hid (rb2.out.keeps k3 (by have := HE2.out; omega) (by simp))
  have HE3 := Lib.hid (show ob < w3.heap.size from BO3.lt)
  clear BF2 BR2 BO k3 d0 d1 d3 rr2 rb2
  have d0 := BF3.cell 0
  have d1 := BF3.cell 1
  have d3 := BF3.cell 3
  simp at d0 d1 d3
  have hs5 := HS5.out
  have k5 : ¬ (r.length : Int) < 5 := by omega
  have hrd3 := rr3.out
  obtain ⟨e0, e1, e2, e3, e4, e5, e6, e7, e8, e9, e10⟩ := cells11 BO3
  obtain ⟨ef0, ef1, ef2, ef3, ef4, ef5, ef6, ef7, ef8, ef9, ef10⟩ := frozen11 BO3
  have HPr := Lib.hid (rprio_ w3 pad hrd3 hs5 hcr HLEN.out)
  have TO3 := Lib.hid BO3
  have TR3 := Lib.hid BR3
  clear hs5 hrd3 BO3 BR3
  go_wp2_with (fail)
  refine HPr.out.mono ?_
  rintro e w4 ⟨A0, A9, c0, c9, rfl, row0, own9, k4⟩
  obtain ⟨ex, hex⟩ : ∃ ex, ex = exclN (numB (r.take 4)) := ⟨_, rfl⟩
  obtain ⟨dp, hdp⟩ : ∃ dp : Int, dp = ((numB (r.take 4) % 2147483648 : Nat) : Int) := ⟨_, rfl⟩
  obtain ⟨wt, hwt⟩ : ∃ wt : Int, wt = ((r.getD 4 0).toNat : Int) + 1 := ⟨_, rfl⟩
  rw [← hex, ← hdp, ← hwt]
  have HV := Lib.hid (And.intro hex (And.intro hdp hwt))
  clear hex hdp hwt row0 HPr
  have BO4 := TO3.out.keep k4 (by simp)
  have BR4 := TR3.out.keep k4 (by simp)
  have BF4 := BF3.keep k4 (by simp)
  clear TO3 TR3 BF3 d0 d1 d3 e0 ef0 e1 ef1 e2 ef2 e3 ef3 e4 ef4 e5 ef5 e6 ef6 e7 ef7 e8 ef8 e9 ef9 e10 ef10
  obtain ⟨e0, e1, e2, e3, e4, e5, e6, e7, e8, e9, e10⟩ := cells11 BO4
  obtain ⟨ef0, ef1, ef2, ef3, ef4, ef5, ef6, ef7, ef8, ef9, ef10⟩ := frozen11 BO4
  have BO5 := blk_set11 BO4 rfl (.slice A0 0 c0) (.int .i64 pad) (.bool true) (.bool ex) (.int .i64 dp) (.int .i64 wt) (.int .i64 0) (.int .i64 0) (.int .i64 0) (.slice A9 0 c9) (.int .i64 0)
  have k45 := keep_set11 w4 ob (.slice A0 0 c0) (.int .i64 pad) (.bool true) (.bool ex) (.int .i64 dp) (.int .i64 wt) (.int .i64 0) (.int .i64 0) (.int .i64 0) (.slice A9 0 c9) (.int .i64 0)
  have hne2 : w.heap.size + 1 ≠ ob := by have := HE2.out; omega
  have hne3 : w.heap.size ≠ ob := by have := HE2.out; omega
  have hob2 := HE2.out.1
  have hob3 := HE3.out
  have BR5 := BR4.keep k45 (by simp; exact hne2)
  have BF5 := BF4.keep k45 (by simp; exact hne3)
  have K5 := Lib.hid ((K3.out.trans k4).step k45 (by simp; omega))
  have own5 := own_keep own9 k45 (own_off own9 BO4 (by decide))
  have rr5 := ((rb3.out.keeps k4 (by omega) (by simp)).keeps k45 (by have := k4.size; omega) (by simp; omega)).cut (k := 5) (cap := c2) HS5.out hcr
  have ea : (fun x : Addr => x.add (5 * 1)) = fun x : Addr => ({ block := x.block, off := x.off + 5 } : Addr) := by funext x; simp [Addr.add]
  obtain ⟨A5, hA5⟩ : ∃ A5, (if c2 = 5 then A2 else A2.map (fun x : Addr => ({ block := x.block, off := x.off + 5 } : Addr))) = A5 := ⟨_, rfl⟩
  rw [ea, hA5, Nat.mul_one, ← encB_drop] at rr5
  have HA5 := Lib.hid hA5
  have HR5 := Lib.hid rr5
  obtain ⟨w5, hw5⟩ : ∃ w5, w5 = (((((((((((w4.setCell ⟨ob, 0, none⟩ (.slice A0 0 c0)).setCell ⟨ob, 1, none⟩ (.int .i64 pad)).setCell ⟨ob, 2, none⟩ (.bool true)).setCell ⟨ob, 3, none⟩ (.bool ex)).setCell ⟨ob, 4, none⟩ (.int .i64 dp)).setCell ⟨ob, 5, none⟩ (.int .i64 wt)).setCell ⟨ob, 6, none⟩ (.int .i64 0)).setCell ⟨ob, 7, none⟩ (.int .i64 0)).setCell ⟨ob, 8, none⟩ (.int .i64 0)).setCell ⟨ob, 9, none⟩ (.slice A9 0 c9)).setCell ⟨ob, 10, none⟩ (.int .i64 0)) := ⟨_, rfl⟩
  rw [← hw5] at BO5 BR5 BF5 HR5 own5 K5
  have HW5 := Lib.hid hw5
  have z1 : ((5 : Nat) : Int) ≤ (r.length : Int) := by omega
  have z2 : ((5 : Nat) : Int) ≤ (c2 : Int) := by omega
  have z3 : (r.length : Int) ≤ (c2 : Int) := by omega
  simp only [Int.cast_ofNat_Int] at z1 z2
  clear hw5 rr5 hA5 ea BO4 BR4 BF4 own9 k4 k45
  go_upto_region 9 with (fail)
  rw [← HW5.out]
  go_upto_region 10 with (fail)
  rw [HA5.out]
  have d0 := BF5.cell 0
  simp at d0
  obtain ⟨i0, z0, gi, gz, gz0, gz1, gz2⟩ := u8_info
  have HRD := Lib.hid (HR5.out)
  have hbase : w.heap.size ≤ w5.heap.size := K5.out.size
  have Hbase := Lib.hid hbase
  have TBO := Lib.hid BO5
  have TBR := Lib.hid BR5
  clear BO5 BR5 hbase
  go_wp2_with (at_builtin; apply wpList_append_row _ rfl _ _ _ rfl w.heap.size 5 i0 z0 1 Try.underlying22 gi gz gz0 gz1 gz2 (.slice none 0 0) [] rfl (Row1.nil _ _ _) _ (A5) (r.length - 5) (c2 - 5) (encB (r.drop 5)) rfl HRD.out encB_one (by have := HRD.out.1; rw [encB_len] at this; have := HLEN.out; unfold maxLen; simp only [List.length_nil]; omega) (by have := HRD.out.1; rw [encB_len] at this; have := HLEN.out; simp only [List.length_nil]; omega) Hbase.out; intro v7 w7 hrow7 k7 hm7; rw [List.nil_append] at hrow7; obtain ⟨A7, m7, c7, rfl⟩ : ∃ A7 m7 c7, v7 = .slice A7 m7 c7 := (by obtain ⟨A7, c7, e, _⟩ := hrow7.reads; exact ⟨A7, _, c7, e⟩); simp only [rowBlk, Option.toList_none] at k7; have BO7 := TBO.out.keep k7 (by simp); have BR7 := TBR.out.keep k7 (by simp); have K7 := Lib.hid (K5.out.trans k7); have HROW := Lib.hid hrow7; have hob7 := BO7.lt; obtain ⟨x0, x1, x2, x3, x4, x5, x6, x7, x8, x9, x10⟩ := cells11 BO7; obtain ⟨y0, y1, y2, y3, y4, y5, y6, y7, y8, y9, y10⟩ := frozen11 BO7; obtain ⟨q0, q1, q2, q3, q4, q5, q6, q7, q8, q9, q10⟩ := cells11 BR7; obtain ⟨g0, g1, g2, g3, g4, g5, g6, g7, g8, g9, g10⟩ := frozen11 BR7; have TO7 := Lib.hid BO7; have TR7 := Lib.hid BR7; have hne : ob ≠ w.heap.size + 1 := (by have := HE2.out; omega); have own7 := Lib.hid (own_keep own5 k7 (by simp)); clear BO7 BR7 hrow7 k7 hm7 HRD)
  have KO : Keep [ob] w7 (w7.setCell ⟨ob, 0, none⟩ (.slice A7 m7 c7)) := (Keep.refl _ _).setCell (p := ⟨ob, 0, none⟩) (.inl (by simp)) _
  have BRX := TR7.out.keep KO (by simp; omega)
  have hob2 := HE2.out.1
  have KX := Lib.hid (K7.out.step KO (by simp; omega))
  have hrX := HROW.out.keep KO (fun g hg hm => by
    obtain rfl : g = ob := by simpa using hm
    exact row_off_blk HROW.out TO7.out (by decide) hg)
  have FB := blk_set11 BRX rfl (.slice A7 m7 c7) (.int .i64 pad) (.bool true) (.bool ex) (.int .i64 dp) (.int .i64 wt) (.int .i64 0) (.int .i64 0) (.int .i64 0) (.slice A9 0 c9) (.int .i64 0)
  have KL := keep_set11 (w7.setCell ⟨ob, 0, none⟩ (.slice A7 m7 c7)) (w.heap.size + 1) (.slice A7 m7 c7) (.int .i64 pad) (.bool true) (.bool ex) (.int .i64 dp) (.int .i64 wt) (.int .i64 0) (.int .i64 0) (.int .i64 0) (.slice A9 0 c9) (.int .i64 0)
  have KF := KX.out.step KL (by simp)
  refine bodyPost_ret (results_ct rfl _ _ (w.heap.size + 1) 36 #[.slice A7 m7 c7, .int .i64 pad, .bool true, .bool ex, .int .i64 dp, .int .i64 wt, .int .i64 0, .int .i64 0, .int .i64 0, .slice A9 0 c9, .int .i64 0] (0, 0) _ rfl FB Try.underlying36 rfl (by kernel_rfl)) rfl ?_
  have hrF := hrX.keep KL (fun g hg hm => by
    obtain rfl : g = w.heap.size + 1 := by simpa using hm
    exact row_off_blk hrX BRX (by decide) hg)
  have own8 := own_keep own7.out KO (own_off own7.out TO7.out (by decide))
  have own9 := own_lower (own_keep own8 KL (own_off own8 BRX (by decide))) (show w.heap.size ≤ w3.heap.size from K3.out.size)
  refine ⟨⟨.slice A7 m7 c7, .slice A9 0 c9, ?_, hrF, own9⟩, KF⟩
  rw [HV.out.1, HV.out.2.1, HV.out.2.2]
  rfl
set_option maxHeartbeats 2000000 in
theorem rfrag_5 (hr : Reads w w.heap.size 1 A n (encB bs)) (hc : n ≤ c) (hc2 : c ≤ 9223372036854775807) (hlen : n ≤ 1099511627776) (hs : 4 ≤ r.length) (hb : bareF 5 f bs = .ok pad r) :
    Calls Try.prog 31 #[.agg #[.int .i64 5, .int .i64 f.toNat, .int .i64 s, .slice A n c]] w fun e w' => BodyR w' w.heap.size e ({ bd0 with pad := pad, prom := ((numB (r.take 4) % 2147483648 : Nat) : Int), data := r.drop 4 }, 0) ∧ Keep [] w w' := by
  have HLEN : Hid (r.length ≤ 1099511627776) := Lib.hid (by have h1 := bare_len hb; have h2 := hr.1; rw [encB_len] at h2; omega)
  have HS5 := Lib.hid hs
  clear hs
  have Hr := Lib.hid hr
  have HB := Lib.hid hb
  clear hr hb
  go_enter Try.func31, Try.ntmps31
  go_wp2_with (fail)
  have BF := (Blk.new w 24 #[.int .i64 5, .int .i64 f.toNat, .int .i64 s, .slice A n c]).alloc (.cells #[.slice none 0 0, .int .i64 0, .bool false, .bool false, .int .i64 0, .int .i64 0, .int .i64 0, .int .i64 0, .int .i64 0, .slice none 0 0, .int .i64 0] 36)
  have BR := Blk.new (w.alloc (.cells #[.int .i64 5, .int .i64 f.toNat, .int .i64 s, .slice A n c] 24)) 36 #[.slice none 0 0, .int .i64 0, .bool false, .bool false, .int .i64 0, .int .i64 0, .int .i64 0, .int .i64 0, .int .i64 0, .slice none 0 0, .int .i64 0]
  have K0 : Keep [] w ((w.alloc (.cells #[.int .i64 5, .int .i64 f.toNat, .int .i64 s, .slice A n c] 24)).alloc (.cells #[.slice none 0 0, .int .i64 0, .bool false, .bool false, .int .i64 0, .int .i64 0, .int .i64 0, .int .i64 0, .int .i64 0, .slice none 0 0, .int .i64 0] 36)) := ((Keep.refl _ _).alloc _).alloc _
  have e0 : ((w.alloc (.cells #[.int .i64 5, .int .i64 f.toNat, .int .i64 s, .slice A n c] 24)).alloc (.cells #[.slice none 0 0, .int .i64 0, .bool false, .bool false, .int .i64 0, .int .i64 0, .int .i64 0, .int .i64 0, .int .i64 0, .slice none 0 0, .int .i64 0] 36)).heap.size = w.heap.size + 2 := by simp
  simp only [World.size_alloc] at BR
  obtain ⟨w0, hw0⟩ : ∃ w0, w0 = ((w.alloc (.cells #[.int .i64 5, .int .i64 f.toNat, .int .i64 s, .slice A n c] 24)).alloc (.cells #[.slice none 0 0, .int .i64 0, .bool false, .bool false, .int .i64 0, .int .i64 0, .int .i64 0, .int .i64 0, .int .i64 0, .slice none 0 0, .int .i64 0] 36)) := ⟨_, rfl⟩
  rw [← hw0] at BF BR K0 e0 ⊢
  have HW0 := Lib.hid hw0
  clear hw0
  have hP := rpad_ w0 5 rfl f s ((Hr.out.keeps K0 (Nat.le_refl _) (by simp)).more (by omega)) hc hc2
  rw [HB.out] at hP
  refine hP.mono ?_
  clear hP HB
  rintro e w1 ⟨A2, c2, rfl, rr, hcr, hcr2, k1⟩
  have BF1 := BF.keep k1 (by simp)
  have BR1 := BR.keep k1 (by simp)
  have K1 := Lib.hid (K0.trans k1)
  have z1 := k1.size
  have rr1 := rr.more z1
  have rb1 : Reads w1 (w.heap.size + 2) 1 A2 r.length (encB r) := by rw [← e0]; exact rr
  clear BF BR K0 k1 rr
  have d0 := BF1.cell 0
  have d1 := BF1.cell 1
  have d3 := BF1.cell 3
  simp at d0 d1 d3
  obtain ⟨ob, hob⟩ : ∃ ob, ob = w1.heap.size := ⟨_, rfl⟩
  have BO := Blk.new w1 36 #[.slice none 0 0, .int .i64 pad, .bool false, .bool false, .int .i64 0, .int .i64 0, .int .i64 0, .int .i64 0, .int .i64 0, .slice none 0 0, .int .i64 0]
  obtain ⟨w2, hw2⟩ : ∃ w2, w2 = w1.alloc (.cells #[.slice none 0 0, .int .i64 pad, .bool false, .bool false, .int .i64 0, .int .i64 0, .int .i64 0, .int .i64 0, .int .i64 0, .slice none 0 0, .int .i64 0] 36) := ⟨_, rfl⟩
  have k12 : Keep [] w1 w2 := by rw [hw2]; exact (Keep.refl _ _).alloc _
  have e2 : w2.heap.size = ob + 1 := by rw [hw2, hob]; simp
  rw [← hw2, ← hob] at BO
  have BF2 := BF1.keep k12 (by simp)
  have BR2 := BR1.keep k12 (by simp)
  have K2 := Lib.hid (K1.out.trans k12)
  have rr2 := Lib.hid ((rr1.keeps k12 (by omega) (by simp)).more k12.size)
  have rb2 := Lib.hid (rb1.keeps k12 (by omega) (by simp))
  have HW2 := Lib.hid hw2
  have HOB := Lib.hid hob
  have HE2 := Lib.hid (show w.heap.size + 2 ≤ ob ∧ w2.heap.size = ob + 1 from ⟨by omega, e2⟩)
  clear hw2 hob BF1 BR1 rr1 rb1 k12 e2 z1 d0 d1 d3
  have d0 := BF2.cell 0
  have d1 := BF2.cell 1
  have d3 := BF2.cell 3
  simp at d0 d1 d3
  go_upto_region 5 with (fail)
  rw [← HOB.out, ← HW2.out]
  obtain ⟨w3, hw3⟩ : ∃ w3, w3 = w2 := ⟨_, rfl⟩
  rw [← hw3] at BF2 BR2 BO K2 rr2 rb2 d0 d1 d3 ⊢
  have BF3 := BF2
  have BR3 := BR2
  have BO3 := BO
  have K3 := K2
  have rr3 := rr2
  have rb3 := rb2
  have HE3 := Lib.hid (show ob < w3.heap.size from BO3.lt)
  clear BF2 BR2 BO K2 rr2 rb2 hw3
  have hs5 := HS5.out
  have k5 : ¬ (r.length : Int) < 4 := by omega
  obtain ⟨b2, o2, hA2, hbl, _⟩ := rb3.out.plain (by omega) (by omega)
  subst hA2
  have hfst := rb3.out.first (m := 4) (by omega)
  rw [Nat.mul_one, ← encB_take] at hfst
  have z1 : (4 : Int) ≤ (c2 : Int) := by omega
  have z2 : (4 : Int) ≤ (r.length : Int) := by omega
  have z3 : (r.length : Int) ≤ (c2 : Int) := by omega
  have HNu := Lib.hid (rnum_ w3 (c := c2) hfst (Nat.le_refl _) (by omega))
  obtain ⟨N, hN⟩ : ∃ N, N = numB (r.take 4) := ⟨_, rfl⟩
  rw [← hN] at HNu
  have HN := Lib.hid hN
  have TO3 := Lib.hid BO3
  have TR3 := Lib.hid BR3
  clear hs5 hfst BO3 BR3 hN
  go_wp2_with (fail)
  refine HNu.out.mono ?_
  rintro e w4 ⟨rfl, k4⟩
  have hmod : Int.tmod (N : Int) 2147483648 = ((N % 2147483648 : Nat) : Int) := (Int.ofNat_tmod N 2147483648).symm
  have BO4 := TO3.out.keep k4 (by simp)
  have BR4 := TR3.out.keep k4 (by simp)
  have BF4 := BF3.keep k4 (by simp)
  have hc10 := BO4.cell 10
  have hf10 := BO4.frozen 10
  have hob2 := HE2.out.1
  have BO5 := BO4.set_ 10 (.int .i64 ((N : Int) % 2147483648))
  simp only [List.setIfInBounds_toArray, List.set_cons_zero, List.set_cons_succ] at BO5
  have k45 : Keep [ob] w4 (w4.setCell ⟨ob, 10, none⟩ (.int .i64 ((N : Int) % 2147483648))) := (Keep.refl _ _).setCell (p := ⟨ob, 10, none⟩) (.inl (by simp)) _
  have BR5 := BR4.keep k45 (by simp; omega)
  have BF5 := BF4.keep k45 (by simp; omega)
  have K5 := Lib.hid ((K3.out.trans k4).step k45 (by simp; omega))
  have rr5 := ((rb3.out.keeps k4 (by have := HE3.out; omega) (by simp)).keeps k45 (by have := k4.size; have := HE3.out; omega) (by simp; omega)).cut (k := 4) (cap := c2) HS5.out hcr
  rw [Nat.mul_one, ← encB_drop] at rr5
  have ea : (if c2 = 4 then some ⟨b2, o2, none⟩ else (some ⟨b2, o2, none⟩ : Option Addr).map (fun x => x.add 4)) = (if c2 = 4 then some ⟨b2, o2, none⟩ else some ⟨b2, o2 + 4, none⟩) := by simp [Addr.add]
  obtain ⟨A5, hA5⟩ : ∃ A5 : Option Addr, (if c2 = 4 then some ⟨b2, o2, none⟩ else some ⟨b2, o2 + 4, none⟩) = A5 := ⟨_, rfl⟩
  rw [ea, hA5] at rr5
  have HA5 := Lib.hid hA5
  have HR5 := Lib.hid rr5
  obtain ⟨w5, hw5⟩ : ∃ w5, w5 = w4.setCell ⟨ob, 10, none⟩ (.int .i64 ((N : Int) % 2147483648)) := ⟨_, rfl⟩
  rw [← hw5] at BO5 BR5 BF5 HR5 K5
  have HW5 := Lib.hid hw5
  simp at hc10
  clear hw5 rr5 hA5 ea BO4 BR4 k4 k45
  go_upto_region 14 with (fail)
  rw [← HW5.out]
  go_upto_region 15 with (fail)
  rw [HA5.out]
  obtain ⟨i0, z0, gi, gz, gz0, gz1, gz2⟩ := u8_info
  have HRD := Lib.hid (HR5.out)
  have hbase : w.heap.size ≤ w5.heap.size := K5.out.size
  have Hbase := Lib.hid hbase
  have TBO := Lib.hid BO5
  have TBR := Lib.hid BR5
  clear BO5 BR5 hbase
  go_wp2_with (at_builtin; apply wpList_append_row _ rfl _ _ _ rfl w.heap.size 5 i0 z0 1 Try.underlying22 gi gz gz0 gz1 gz2 (.slice none 0 0) [] rfl (Row1.nil _ _ _) _ (A5) (r.length - 4) (c2 - 4) (encB (r.drop 4)) rfl HRD.out encB_one (by have := HRD.out.1; rw [encB_len] at this; have := HLEN.out; unfold maxLen; simp only [List.length_nil]; omega) (by have := HRD.out.1; rw [encB_len] at this; have := HLEN.out; simp only [List.length_nil]; omega) Hbase.out; intro v7 w7 hrow7 k7 hm7; rw [List.nil_append] at hrow7; obtain ⟨A7, m7, c7, rfl⟩ : ∃ A7 m7 c7, v7 = .slice A7 m7 c7 := (by obtain ⟨A7, c7, e, _⟩ := hrow7.reads; exact ⟨A7, _, c7, e⟩); simp only [rowBlk, Option.toList_none] at k7; have BO7 := TBO.out.keep k7 (by simp); have BR7 := TBR.out.keep k7 (by simp); have K7 := Lib.hid (K5.out.trans k7); have HROW := Lib.hid hrow7; have hob7 := BO7.lt; obtain ⟨x0, x1, x2, x3, x4, x5, x6, x7, x8, x9, x10⟩ := cells11 BO7; obtain ⟨y0, y1, y2, y3, y4, y5, y6, y7, y8, y9, y10⟩ := frozen11 BO7; obtain ⟨q0, q1, q2, q3, q4, q5, q6, q7, q8, q9, q10⟩ := cells11 BR7; obtain ⟨g0, g1, g2, g3, g4, g5, g6, g7, g8, g9, g10⟩ := frozen11 BR7; have TO7 := Lib.hid BO7; have TR7 := Lib.hid BR7; have hne : ob ≠ w.heap.size + 1 := (by have := HE2.out; omega); clear BO7 BR7 hrow7 k7 hm7 HRD)
  have KO : Keep [ob] w7 (w7.setCell ⟨ob, 0, none⟩ (.slice A7 m7 c7)) := (Keep.refl _ _).setCell (p := ⟨ob, 0, none⟩) (.inl (by simp)) _
  have BRX := TR7.out.keep KO (by simp; omega)
  have hob2 := HE2.out.1
  have KX := Lib.hid (K7.out.step KO (by simp; omega))
  have hrX := HROW.out.keep KO (fun g hg hm => by
    obtain rfl : g = ob := by simpa using hm
    exact row_off_blk HROW.out TO7.out (by decide) hg)
  have FB := blk_set11 BRX rfl (.slice A7 m7 c7) (.int .i64 pad) (.bool false) (.bool false) (.int .i64 0) (.int .i64 0) (.int .i64 0) (.int .i64 0) (.int .i64 0) (.slice none 0 0) (.int .i64 ((N : Int) % 2147483648))
  have KL := keep_set11 (w7.setCell ⟨ob, 0, none⟩ (.slice A7 m7 c7)) (w.heap.size + 1) (.slice A7 m7 c7) (.int .i64 pad) (.bool false) (.bool false) (.int .i64 0) (.int .i64 0) (.int .i64 0) (.int .i64 0) (.int .i64 0) (.slice none 0 0) (.int .i64 ((N : Int) % 2147483648))
  have KF := KX.out.step KL (by simp)
  refine bodyPost_ret (results_ct rfl _ _ (w.heap.size + 1) 36 #[.slice A7 m7 c7, .int .i64 pad, .bool false, .bool false, .int .i64 0, .int .i64 0, .int .i64 0, .int .i64 0, .int .i64 0, .slice none 0 0, .int .i64 ((N : Int) % 2147483648)] (0, 0) _ rfl FB Try.underlying36 rfl (by kernel_rfl)) rfl ?_
  have hrF := hrX.keep KL (fun g hg hm => by
    obtain rfl : g = w.heap.size + 1 := by simpa using hm
    exact row_off_blk hrX BRX (by decide) hg)
  have hN := HN.out
  subst hN
  exact ⟨bodyR_data (by first | rfl | simp [Bd.vals, bd0]) hrF rfl, KF⟩
end
end Go.Proofs.Ytbngoaonkhcciaa
