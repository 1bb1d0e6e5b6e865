/- pipe: the iterators' makers; the sizes one behind the other. -/
import Derived.Test.YtinokgmmdmkbcaaCtr4
import Derived.Test.YtinokgmmdmkbcaaRng3
set_option linter.all false
namespace Go.Proofs.Ytinokgmmdmkbcaa
open Go.ChangeShapes Go.WideShapes Go.ChangeAt Go.RowKit
attribute [local go_sem] setCell_drewN alloc_drewN Oper.semAt_some
theorem sizes_ (w : World) (A : Option Addr) (n c : Nat) (p : Option Addr) : Calls Try.prog 13 #[.slice A n c, .pointer p] w fun e w' =>
      e = .returned (.func (.func 25) #[] #[.pointer (some ⟨w.heap.size, 0, none⟩), .pointer (some ⟨w.heap.size + 1, 0, none⟩)]) ∧ w' = (w.alloc (.cells #[.slice A n c] 23)).alloc (.cells #[.pointer p] 40) := by
  go_enter Try.func13, Try.ntmps13
  go_wp2
  go_ret
  exact ⟨rfl, rfl⟩
theorem chunks_ (w : World) (p : Option Addr) (f : Fn) (a b : Array Value) : Calls Try.prog 12 #[.pointer p, .func f a b] w fun e w' =>
      e = .returned (.func (.func 23) #[] #[.pointer (some ⟨w.heap.size, 0, none⟩), .pointer (some ⟨w.heap.size + 1, 0, none⟩)]) ∧ w' = (w.alloc (.cells #[.pointer p] 25)).alloc (.cells #[.func f a b] 38) := by
  go_enter Try.func12, Try.ntmps12
  go_wp2
  go_ret
  exact ⟨rfl, rfl⟩
theorem chunks_nil (w : World) (p : Option Addr) : Calls Try.prog 12 #[.pointer p, .nilFunc] w fun e w' =>
      e = .returned (.func (.func 23) #[] #[.pointer (some ⟨w.heap.size, 0, none⟩), .pointer (some ⟨w.heap.size + 1, 0, none⟩)]) ∧ w' = (w.alloc (.cells #[.pointer p] 25)).alloc (.cells #[.nilFunc] 38) := by
  go_enter Try.func12, Try.ntmps12
  go_wp2
  go_ret
  exact ⟨rfl, rfl⟩
theorem Reads.kept {w w' : World} {B size n : Nat} {A : Option Addr} {xs : List Value} {gs : List Nat} (hr : Reads w B size A n xs) (h : Keep gs w w') (hB : B ≤ w.heap.size) (hn : 0 < n → ∀ ad, A = some ad → ad.block ∉ gs) : Reads w' B size A n xs :=
  ⟨hr.1, fun h0 => by
    obtain ⟨ad, e, hb, hc⟩ := hr.2 h0
    exact ⟨ad, e, hb, fun j u hu => (h.cell (by rw [block_of_add]; omega) (by rw [block_of_add]; exact hn h0 ad e)).trans (hc j u hu)⟩⟩
theorem Reads.blk_lt {w : World} {B size n : Nat} {A : Option Addr} {xs : List Value} (hr : Reads w B size A n xs) (h0 : 0 < n) : ∀ ad, A = some ad → ad.block < B := fun ad e => by
  obtain ⟨ad', e', hb, _⟩ := hr.2 h0
  rw [e] at e'
  injection e' with e'
  subst e'
  exact hb
/-- what the sizes' iterator reads: its captures, the list, the count (if there is one) -/
structure Feed (s : Nat) (W : World) (bl bc : Nat) (pc : Option Nat) (A : Option Addr) (n c : Nat) (zs : List Int) (i : Nat) : Prop where
  lb : Blk W bl 23 #[.slice A n c]
  cp : Blk W bc 40 #[.pointer (pc.map fun cb => ⟨cb, 0, none⟩)]
  lr : Reads W s 1 A n (zs.map (.int .i64 ·))
  cnt : ∀ cb, pc = some cb → Blk W cb 3 #[.int .i64 i]
  sz : s ≤ W.heap.size
  off : 0 < n → ∀ ad, A = some ad → ∀ cb, pc = some cb → ad.block ≠ cb
def tickW (pc : Option Nat) (i : Nat) (W : World) : World := match pc with
  | none => W
  | some cb => W.setCell ⟨cb, 0, none⟩ (.int .i64 ((i : Int) + 1))
theorem tickW_keep (pc : Option Nat) (i : Nat) (W : World) : Keep pc.toList W (tickW pc i W) := by
  cases pc with
  | none => exact Keep.refl _ W
  | some cb => exact (Keep.refl _ W).setCell (p := ⟨cb, 0, none⟩) (.inl (by simp)) _
theorem Feed.tick {s : Nat} {W : World} {bl bc : Nat} {pc : Option Nat} {A : Option Addr} {n c : Nat} {zs : List Int} {i : Nat} (h : Feed s W bl bc pc A n c zs i) : Feed s (tickW pc i W) bl bc pc A n c zs (i + 1) := by
  have k := tickW_keep pc i W
  have hr := h.lr.kept k h.sz (fun h0 ad e hx => h.off h0 ad e _ (by simpa using hx) rfl)
  cases pc with
  | none => exact ⟨h.lb, h.cp, hr, fun cb e => (by cases e), Nat.le_trans h.sz k.size, h.off⟩
  | some cb =>
    have hc := h.cnt cb rfl
    exact ⟨h.lb.far (p := ⟨cb, 0, none⟩) (h.lb.ne_ hc (by decide)) _, h.cp.far (p := ⟨cb, 0, none⟩) (h.cp.ne_ hc (by decide)) _,
      hr, fun cb' e => by injection e with e; subst e; exact hc.set_ 0 _, Nat.le_trans h.sz k.size, h.off⟩
theorem Feed.keep {s : Nat} {W W' : World} {bl bc : Nat} {pc : Option Nat} {A : Option Addr} {n c : Nat} {zs : List Int} {i : Nat} {gs : List Nat} (h : Feed s W bl bc pc A n c zs i) (k : Keep gs W W') (hg : ∀ g ∈ gs, (0 < n → ∀ ad, A = some ad → ad.block ≠ g) ∧ g ≠ bl ∧ g ≠ bc ∧ pc ≠ some g) : Feed s W' bl bc pc A n c zs i :=
  ⟨h.lb.keep k (fun x => (hg _ x).2.1 rfl), h.cp.keep k (fun x => (hg _ x).2.2.1 rfl), h.lr.kept k h.sz (fun h0 ad e hx => (hg _ hx).1 h0 ad e rfl), fun cb e => (h.cnt cb e).keep k (fun x => (hg _ x).2.2.2 e), Nat.le_trans h.sz k.size, h.off⟩
set_option maxRecDepth 100000 in
set_option maxHeartbeats 8000000 in
theorem sizesIt {m l s bl bc : Nat} {pc : Option Nat} {A : Option Addr} {n c : Nat} {zs : List Int} (hn : n ≤ 9223372036854775807) (hk : zs.length = n) (J : Nat → World → Prop) (K : World → Prop)
    (hJ : ∀ i W, J i W → Feed s W bl bc pc A n c zs i) (hcn : pc.isSome = true → n ≤ 1000)
    (hround : ∀ i z W, J i W → zs[i]? = some z → YieldAt Fence.wide m Try.prog l #[.int .i64 z] (tickW pc i W) fun e W' => (e = .returned (.bool true) ∧ J (i + 1) W') ∨ (e = .returned (.bool false) ∧ K W'))
    (W : World) (h0 : J 0 W) :
    CallsIn Fence.wide (m + 1) Try.prog 25 #[.func (.yield l) #[] #[], .pointer (some ⟨bl, 0, none⟩), .pointer (some ⟨bc, 0, none⟩)] W fun e W' => (∃ v, e = .returned v) ∧ (J n W' ∨ K W') := by
  refine callsIn_of_wp Try.func25 rfl trivial ?_ rfl
  simp only [Try.ntmps25, List.size_toArray, List.length_cons, List.length_nil, Nat.reduceAdd, Nat.reduceSub, Array.replicate_succ, Array.replicate_zero, List.push_toArray, List.append_toArray, List.nil_append, List.cons_append]
  gi_wp2
  gi_loopw [4] (fun v wr => ∃ i : Nat, v = .int .i64 i ∧ i ≤ n ∧ J i wr) (fun v _ => n - (intOf v).toNat)
  case atStart => exact ⟨0, rfl, by omega, h0⟩
  case round =>
    obtain ⟨i, rfl, hi, hj⟩ := hrel
    have fd := hJ i wr hj
    have c1 := fd.lb.cell 0
    simp at c1
    by_cases hlt : i < n
    · have fd2 := fd.tick
      have hki : i < zs.length := by omega
      have hY := hround i zs[i] wr hj (List.getElem?_eq_getElem hki)
      obtain ⟨b1, o1, rfl, hb1, h1⟩ := fd2.lr.plain (by omega) (by omega)
      have e1 := h1 i (.int .i64 zs[i]) (by simp [hki])
      obtain ⟨k, hkk⟩ : ∃ k, k = zs[i] := ⟨_, rfl⟩
      rw [← hkk] at e1 hY
      clear hkk h1 hround hJ
      have k0 : (0 : Int) ≤ (i : Int) := by omega
      have k1 : (i : Int) < (n : Int) := by omega
      have c2 := fd.cp.cell 0
      simp at c2
      have g1 := fd2.lb.cell 0
      simp at g1
      cases pc with
      | none =>
        simp only [tickW, Option.map_none] at *
        obtain ⟨fY, tY, aY, bY, hy, hR⟩ := hY
        clear fd fd2 hcn
        gi_wp2
        all_goals
          refine hR.mono ?_
          rintro e W' (⟨rfl, hj'⟩ | ⟨rfl, hk'⟩)
          · gi_wp2
            go_roundw
            case rel => exact ⟨i + 1, by go_num, by omega, hj'⟩
            case measure => simp [intOf]; omega
          · gi_wp2
            refine bodyPost_ret (results_none rfl _ _ _) rfl ?_
            exact ⟨⟨_, rfl⟩, .inr hk'⟩
      | some cb =>
        have hc := fd.cnt cb rfl
        have hcs := fd.off (by omega) _ rfl cb rfl
        have hn9 := hcn rfl
        have k9 : (i : Int) ≤ 1000 := by omega
        have c4 := hc.cell 0
        have f4 := hc.frozen 0
        simp at c4
        have n1 := fd.lb.ne_ hc (by decide)
        have n2 := fd.cp.ne_ hc (by decide)
        have n4 : b1 ≠ cb := hcs
        simp only [tickW, Option.map_some] at *
        obtain ⟨fY, tY, aY, bY, hy, hR⟩ := hY
        clear fd fd2 hc
        have v1 : (wr.setCell ⟨cb, 0, none⟩ (.int .i64 ((i : Int) + 1))).cell? ⟨bl, 0, none⟩ = some (.slice (some ⟨b1, o1, none⟩) n c) := (World.cell?_setCell_other wr ⟨cb, 0, none⟩ ⟨bl, 0, none⟩ _ (by simp [n1])).trans c1
        gi_wp2
        all_goals
          refine hR.mono ?_
          rintro e W' (⟨rfl, hj'⟩ | ⟨rfl, hk'⟩)
          · gi_wp2
            go_roundw
            case rel => exact ⟨i + 1, by go_num, by omega, hj'⟩
            case measure => simp [intOf]; omega
          · gi_wp2
            refine bodyPost_ret (results_none rfl _ _ _) rfl ?_
            exact ⟨⟨_, rfl⟩, .inr hk'⟩
    · have k1 : ¬ (i : Int) < (n : Int) := by omega
      gi_wp2
      go_end0
      obtain rfl : i = n := by omega
      exact ⟨⟨_, rfl⟩, .inl hj⟩
end Go.Proofs.Ytinokgmmdmkbcaa
