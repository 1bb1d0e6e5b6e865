/- feed: frames: what one is, its bytes, the reference's Put, what Next makes of the bytes. -/
import Derived.Test.YtigdigljcalgkaaBegun
import Derived.Test.YtigdigljcalgkaaPureP
set_option linter.all false
namespace Go.Proofs.Ytigdigljcalgkaa
open Go.ChangeShapes Go.WideShapes Go.ChangeAt Go.RowKit Go.Proofs.YtigdigljcalgkaaW.PrintWords
attribute [local go_sem] setCell_drewN alloc_drewN Oper.semAt_some
/-- a frame as it lies in memory: three numbers, a slice, its bytes -/
structure Gf where
  t : Int
  f : Int
  s : Int
  A : Option Addr
  c : Nat
  pl : List UInt8
def Gf.cells (x : Gf) : List Value := [.int .i64 x.t, .int .i64 x.f, .int .i64 x.s, .slice x.A x.pl.length x.c]
def Gf.ok (w : World) (x : Gf) : Prop := x.pl.length ≤ x.c ∧ x.c ≤ 9223372036854775807 ∧ Reads w w.heap.size 1 x.A x.pl.length (encB x.pl)
def encG (l : List Gf) : List Value := l.flatMap Gf.cells
theorem encG_len : ∀ l : List Gf, (encG l).length = l.length * 4
  | [] => rfl
  | a :: l => by
    have := encG_len l
    simp only [encG, List.flatMap_cons, List.length_append] at this ⊢
    rw [this]
    simp [Gf.cells]
    omega
theorem encG_app (a b : List Gf) : encG (a ++ b) = encG a ++ encG b := by simp [encG]
theorem encG_cons (a : Gf) (b : List Gf) : encG (a :: b) = a.cells ++ encG b := by simp [encG]
theorem encG_one (l : List Gf) : ∀ u ∈ encG l, u.oneCell' = true := by
  intro u hu
  simp only [encG, List.mem_flatMap] at hu
  obtain ⟨p, _, hp⟩ := hu
  simp [Gf.cells] at hp
  rcases hp with rfl | rfl | rfl | rfl <;> rfl
theorem encG_at : ∀ (l : List Gf) (i : Nat) (x : Gf), l[i]? = some x → ∀ j, j < 4 → (encG l)[i * 4 + j]? = x.cells[j]?
  | [], i, x, h, _, _ => by simp at h
  | a :: l, 0, x, h, j, hj => by
    obtain rfl : a = x := by simpa using h
    rw [encG_cons, List.getElem?_append_left (by simp [Gf.cells]; omega)]
    simp
  | a :: l, i + 1, x, h, j, hj => by
    rw [encG_cons, List.getElem?_append_right (by simp [Gf.cells]; omega)]
    have := encG_at l i x (by simpa using h) j hj
    rw [← this]
    congr 1
    simp [Gf.cells]
    omega
theorem gfs_of_sl {w : World} {v : Value} (h : Sl w 4 (fun j => if j = 0 then IsInt .i64 else if j = 1 then IsInt .i64 else if j = 2 then IsInt .i64 else Sl w 1 (fun _ => IsInt .u8)) v) :
    ∃ (A : Option Addr) (n c : Nat) (xs : List Gf), v = .slice A n c ∧ n ≤ c ∧ c ≤ maxLen ∧ xs.length = n ∧ (∀ x ∈ xs, x.ok w) ∧ Reads w w.heap.size 4 A n (encG xs) := by
  obtain ⟨A, len, cap, rfl, hl, hm, h⟩ := h
  rcases h with h0 | ⟨b, off, rfl, hb, hc⟩
  · have : len = 0 := by omega
    subst this
    exact ⟨A, 0, cap, [], rfl, hl, hm, rfl, by simp, by simp [encG], fun h => absurd h (by omega)⟩
  · have hx : ∀ i, ∃ x : Gf, x.ok w ∧ (i < cap → ∀ j, j < 4 → w.cell? ⟨b, off + (i * 4 + j), none⟩ = x.cells[j]?) := by
      intro i
      by_cases hi : i < cap
      · obtain ⟨u0, h0, n0, rfl, _⟩ := hc i hi 0 (by omega)
        obtain ⟨u1, h1, n1, rfl, _⟩ := hc i hi 1 (by omega)
        obtain ⟨u2, h2, n2, rfl, _⟩ := hc i hi 2 (by omega)
        obtain ⟨u3, h3, hs⟩ := hc i hi 3 (by omega)
        obtain ⟨A', n', c', bs, rfl, q1, q2, q3, q4⟩ := reads_of_sl hs
        subst q3
        refine ⟨⟨n0, n1, n2, A', c', bs⟩, ⟨q1, by unfold maxLen at q2; exact q2, q4⟩, fun _ j hj => ?_⟩
        match j, hj with
        | 0, _ => exact h0
        | 1, _ => exact h1
        | 2, _ => exact h2
        | 3, _ => exact h3
      · exact ⟨⟨0, 0, 0, none, 0, []⟩, ⟨Nat.le_refl _, by simp, reads_nil⟩, fun h => absurd h hi⟩
    obtain ⟨f, hf⟩ := Classical.axiomOfChoice hx
    refine ⟨_, len, cap, (List.range len).map f, rfl, hl, hm, by simp, fun x hx => (by obtain ⟨i, _, rfl⟩ := List.mem_map.1 hx; exact (hf i).1), by rw [encG_len]; simp, fun _ => ⟨_, rfl, hb, fun j u hu => ?_⟩⟩
    have hj : j < ((List.range len).map f).length * 4 := by
      rw [← encG_len]
      exact (List.getElem?_eq_some_iff.1 hu).1
    have hj2 : j / 4 < len := by simp at hj; omega
    have he := encG_at ((List.range len).map f) (j / 4) (f (j / 4)) (by simp [List.getElem?_range hj2]) (j % 4) (by omega)
    rw [show j / 4 * 4 + j % 4 = j by omega, hu] at he
    have h2 := (hf (j / 4)).2 (by omega) (j % 4) (by omega)
    rw [show j / 4 * 4 + j % 4 = j by omega, ← he] at h2
    have ea : (⟨b, off, none⟩ : Addr).add j = ⟨b, off + j, none⟩ := by unfold Addr.add; split <;> simp_all
    rw [ea]
    exact h2
/-- one that may be written, and its bytes -/
def Gf.good (x : Gf) : Prop := ¬ badP x.t x.f x.s ∧ x.pl.length ≤ 16384
def Gf.wire (x : Gf) : List UInt8 := beB 3 x.pl.length ++ [UInt8.ofNat x.t.toNat, UInt8.ofNat x.f.toNat] ++ beB 4 x.s ++ x.pl
theorem Gf.wire_len (x : Gf) : x.wire.length = 9 + x.pl.length := by
  unfold Gf.wire
  simp only [List.length_append, beB_len, List.length_cons, List.length_nil]
theorem rput_ {w : World} (x : Gf) (h : x.ok w) {W : World} (k : Keep [] w W) : Calls Try.prog 9 #[.agg #[.int .i64 x.t, .int .i64 x.f, .int .i64 x.s, .slice x.A x.pl.length x.c]] W fun e w' =>
    ∃ A n c r, e = .returned (.tuple #[.slice A n c, .int .i64 r]) ∧ (r = 0 ↔ (¬ badP x.t x.f x.s ∧ x.pl.length ≤ 16777215)) ∧ (x.good → n = x.wire.length ∧ Row1 w' W.heap.size 5 (.slice A n c) (encB x.wire)) ∧ Keep [] W w' := by
  obtain ⟨h1, h2, h3⟩ := h
  have hr := h3.keeps k (Nat.le_refl _) (by simp)
  have key : ∀ (xs : List UInt8) (r : Int), PFd.isthmusref7_Put.f 10 x.t x.f x.s (ints x.pl) = some (ints xs, r) → (r = 0 ↔ (¬ badP x.t x.f x.s ∧ x.pl.length ≤ 16777215)) → (x.good → xs = x.wire) →
      Calls Try.prog 9 #[.agg #[.int .i64 x.t, .int .i64 x.f, .int .i64 x.s, .slice x.A x.pl.length x.c]] W fun e w' =>
      ∃ A n c r, e = .returned (.tuple #[.slice A n c, .int .i64 r]) ∧ (r = 0 ↔ (¬ badP x.t x.f x.s ∧ x.pl.length ≤ 16777215)) ∧ (x.good → n = x.wire.length ∧ Row1 w' W.heap.size 5 (.slice A n c) (encB x.wire)) ∧ Keep [] W w' := by
    intro xs r hf hr0 hg
    have hc := PFd.isthmusref7_Put.calls 10 x.t x.f x.s x.A x.c (ints x.pl) (ints xs) r W (C_of hr (by omega)) (by rw [ints_len]; exact h1) hf
    rw [ints_len] at hc
    refine hc.mono ?_
    rintro e w' ⟨v0, rfl, R, B⟩
    have hrow := Row1.of_R R
    obtain ⟨A, c, rfl, _⟩ := hrow.reads
    refine ⟨A, _, c, r, rfl, hr0, fun hgd => ?_, Keep.of_below B⟩
    rw [← hg hgd, encB_len]
    rw [encB_len] at hrow
    exact ⟨rfl, hrow⟩
  by_cases hb : badP x.t x.f x.s
  · exact key [] 1 (rput_bad hb _) ⟨fun h => absurd h (by decide), fun h => absurd hb h.1⟩ (fun h => absurd hb h.1)
  · by_cases hl : 16777215 < x.pl.length
    · refine key [] 2 (rput_long hb _ (by rw [ints_len]; exact hl)) ⟨fun h => absurd h (by decide), fun h => ?_⟩ (fun h => ?_)
      · exfalso; have := h.2; omega
      · exfalso; have := h.2; omega
    · have hb' := hb
      unfold badP at hb'
      have e1 : ((UInt8.ofNat x.t.toNat).toNat : Int) = x.t := by rw [UInt8.toNat_ofNat']; omega
      have e2 : ((UInt8.ofNat x.f.toNat).toNat : Int) = x.f := by rw [UInt8.toNat_ofNat']; omega
      have e3 : ((x.s.toNat : Nat) : Int) = x.s := by omega
      have hp := rput_ok (UInt8.ofNat x.t.toNat) (UInt8.ofNat x.f.toNat) x.s.toNat x.pl (by omega) (by omega)
      rw [e1, e2, e3] at hp
      exact key _ 0 hp ⟨fun _ => ⟨hb, by omega⟩, fun _ => rfl⟩ (fun _ => rfl)
theorem numB3 (n : Nat) (h : n < 16777216) : numB (beB 3 n) = n := by
  simp only [beB, numB, List.foldl_cons, List.foldl_nil, UInt8.toNat_ofNat']
  have e0 : (n : Int) / 256 ^ 0 = n := by simp
  have e1 : (n : Int) / 256 ^ 1 = n / 256 := by simp
  have e2 : (n : Int) / 256 ^ 2 = n / 65536 := by rw [show (256 : Int) ^ 2 = 65536 by decide]
  rw [e0, e1, e2]
  omega
theorem numB4 (n : Int) (h0 : 0 ≤ n) (h : n < 4294967296) : (numB (beB 4 n) : Int) = n := by
  simp only [beB, numB, List.foldl_cons, List.foldl_nil, UInt8.toNat_ofNat']
  have e0 : n / 256 ^ 0 = n := by simp
  have e1 : n / 256 ^ 1 = n / 256 := by simp
  have e2 : n / 256 ^ 2 = n / 65536 := by rw [show (256 : Int) ^ 2 = 65536 by decide]
  have e3 : n / 256 ^ 3 = n / 16777216 := by rw [show (256 : Int) ^ 3 = 16777216 by decide]
  rw [e0, e1, e2, e3]
  omega
theorem wire_hlen (x : Gf) (hg : x.good) (r : List UInt8) : hlen (x.wire ++ r) = x.pl.length := by
  unfold hlen Gf.wire
  rw [List.append_assoc, List.append_assoc, List.append_assoc, List.take_append_of_le_length (by rw [beB_len]; omega), List.take_of_length_le (by rw [beB_len]; omega)]
  exact numB3 _ (by have := hg.2; omega)
theorem wire_part (x : Gf) (r : List UInt8) : ((x.wire ++ r).drop 9).take x.pl.length = x.pl ∧ (x.wire ++ r).drop (9 + x.pl.length) = r := by
  constructor
  · unfold Gf.wire
    have e : (beB 3 x.pl.length ++ [UInt8.ofNat x.t.toNat, UInt8.ofNat x.f.toNat] ++ beB 4 x.s ++ x.pl ++ r) = (beB 3 x.pl.length ++ [UInt8.ofNat x.t.toNat, UInt8.ofNat x.f.toNat] ++ beB 4 x.s) ++ (x.pl ++ r) := by simp only [List.append_assoc]
    rw [e, List.drop_append_of_le_length (by simp [beB_len]), List.drop_of_length_le (by simp [beB_len]), List.nil_append, List.take_append_of_le_length (Nat.le_refl _), List.take_of_length_le (Nat.le_refl _)]
  · rw [List.drop_append_of_le_length (by rw [x.wire_len]; omega), List.drop_of_length_le (by rw [x.wire_len]; omega), List.nil_append]
theorem wire_frV (x : Gf) (hg : x.good) (r : List UInt8) (u : Value) : frV (x.wire ++ r) u = .agg #[.int .i64 x.t, .int .i64 x.f, .int .i64 x.s, u] := by
  have hb := hg.1
  unfold badP at hb
  have e : x.wire ++ r = beB 3 x.pl.length ++ ([UInt8.ofNat x.t.toNat, UInt8.ofNat x.f.toNat] ++ (beB 4 x.s ++ (x.pl ++ r))) := by unfold Gf.wire; simp only [List.append_assoc]
  have g3 : ((x.wire ++ r).getD 3 0).toNat = x.t.toNat := by
    rw [e, List.getD_eq_getElem?_getD, List.getElem?_append_right (by rw [beB_len]; omega), beB_len]
    simp only [Nat.sub_self, List.cons_append, List.getElem?_cons_zero, Option.getD_some, UInt8.toNat_ofNat']
    omega
  have g4 : ((x.wire ++ r).getD 4 0).toNat = x.f.toNat := by
    rw [e, List.getD_eq_getElem?_getD, List.getElem?_append_right (by rw [beB_len]; omega), beB_len]
    simp only [List.cons_append, show 4 - 3 = 0 + 1 from rfl, List.getElem?_cons_succ, List.getElem?_cons_zero, Option.getD_some, UInt8.toNat_ofNat']
    omega
  have g5 : numB (((x.wire ++ r).drop 5).take 4) % 2147483648 = x.s.toNat := by
    have e5 : x.wire ++ r = (beB 3 x.pl.length ++ [UInt8.ofNat x.t.toNat, UInt8.ofNat x.f.toNat]) ++ (beB 4 x.s ++ (x.pl ++ r)) := by rw [e]; simp only [List.append_assoc]
    rw [e5, List.drop_append_of_le_length (by simp [beB_len]), List.drop_of_length_le (by simp [beB_len]), List.nil_append, List.take_append_of_le_length (by rw [beB_len]; omega), List.take_of_length_le (by rw [beB_len]; omega)]
    have := numB4 x.s (by omega) (by omega)
    omega
  unfold frV
  rw [g3, g4, g5]
  have t1 : ((x.t.toNat : Nat) : Int) = x.t := by omega
  have t2 : ((x.f.toNat : Nat) : Int) = x.f := by omega
  have t3 : ((x.s.toNat : Nat) : Int) = x.s := by omega
  rw [t1, t2, t3]
/-- Next, where a frame's bytes are there -/
theorem next_fr {w : World} {base fb : Nat} {most : Int} {x : Gf} {r : List UInt8} (h : FdX w base fb false most (x.wire ++ r) 0) (hg : x.good) (hm : 16384 ≤ most) (hl : (x.wire ++ r).length ≤ 140737488355328) :
    Calls Try.prog 17 #[.pointer (some ⟨fb, 0, none⟩)] w fun e w' => ∃ A c, e = .returned (.tuple #[.agg #[.int .i64 x.t, .int .i64 x.f, .int .i64 x.s, .slice A x.pl.length c], .bool true]) ∧ Row1 w' w.heap.size 5 (.slice A x.pl.length c) (encB x.pl) ∧ FdX w' base fb false most r 0 ∧ Keep [fb] w w' := by
  refine (nextX h (by simp) hl _ rfl).mono ?_
  rintro e w' ⟨hn, k⟩
  have e1 : (if false = true then List.drop 24 (x.wire ++ r) else x.wire ++ r) = x.wire ++ r := rfl
  rw [e1] at hn
  have hh := wire_hlen x hg r
  have hll : 9 + x.pl.length ≤ (x.wire ++ r).length := by rw [List.length_append, x.wire_len]; omega
  have h16 := hg.2
  rcases hn with ⟨_, h1, _⟩ | ⟨_, _, h1, _⟩ | ⟨_, _, A, c, he, hrow, hX⟩
  · rw [hh] at h1; omega
  · rw [hh] at h1; omega
  · rw [hh] at he hrow hX
    rw [(wire_part x r).1] at hrow
    rw [(wire_part x r).2] at hX
    rw [wire_frV x hg r] at he
    exact ⟨A, c, he, hrow, hX, k⟩
end Go.Proofs.Ytigdigljcalgkaa
