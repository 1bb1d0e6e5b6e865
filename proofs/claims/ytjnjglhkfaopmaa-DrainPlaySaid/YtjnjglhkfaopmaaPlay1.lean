/- The counting iterator, over whatever its rounds do. -/
import Derived.Test.YtjnjglhkfaopmaaRng
import Derived.Test.YtjnjglhkfaopmaaLaw1
set_option linter.all false
namespace Go.Proofs.Ytjnjglhkfaopmaa
open Go.ChangeShapes Go.WideShapes Go.ChangeAt Go.RowKit
attribute [local go_sem] setCell_drewN alloc_drewN
/-- what the iterator reads: its captures, the two lists, the count -/
structure Feed (W : World) (bk bc bn cb : Nat) (A C : Option Addr) (n c c' : Nat) (ks ns : List Int) (i : Nat) : Prop where
  kb : Blk W bk 45 #[.slice A n c]
  cp : Blk W bc 50 #[.pointer (some ⟨cb, 0, none⟩)]
  nb : Blk W bn 45 #[.slice C n c']
  kr : Reads W cb 1 A n (ks.map (.int .i64 ·))
  nr : Reads W cb 1 C n (ns.map (.int .i64 ·))
  cnt : Blk W cb 3 #[.int .i64 i]
set_option maxRecDepth 100000 in
set_option maxHeartbeats 4000000 in
theorem steps1 {m l bk bc bn cb : Nat} {A C : Option Addr} {n c c' : Nat} {ks ns : List Int} (hn : n ≤ 100) (hk : ks.length = n) (hs : ns.length = n) (J : Nat → World → Prop) (K : World → Prop)
    (hJ : ∀ i W, J i W → Feed W bk bc bn cb A C n c c' ks ns i)
    (hround : ∀ i k x W, J i W → ks[i]? = some k → ns[i]? = some x → YieldAt Fence.wide m Try.prog l #[.int .i64 k, .int .i64 x] (W.setCell ⟨cb, 0, none⟩ (.int .i64 ((i : Int) + 1))).drew fun e W' => (e = .returned (.bool true) ∧ J (i + 1) W') ∨ (e = .returned (.bool false) ∧ K W'))
    (W : World) (h0 : J 0 W) :
    CallsIn Fence.wide (m + 1) Try.prog 25 #[.func (.yield l) #[] #[], .pointer (some ⟨bk, 0, none⟩), .pointer (some ⟨bc, 0, none⟩), .pointer (some ⟨bn, 0, none⟩)] W fun e W' => (∃ v, e = .returned v) ∧ (J n W' ∨ K W') := by
  refine callsIn_of_wp Try.func25 rfl trivial ?_ rfl
  simp only [Try.ntmps25, List.size_toArray, List.length_cons, List.length_nil, Nat.reduceAdd, Nat.reduceSub, Array.replicate_succ, Array.replicate_zero, List.push_toArray, List.append_toArray, List.nil_append, List.cons_append]
  gi_wp2
  gi_loopw [5] (fun v wr => ∃ i : Nat, v = .int .i64 i ∧ i ≤ n ∧ J i wr) (fun v _ => n - (intOf v).toNat)
  case atStart => exact ⟨0, rfl, by omega, h0⟩
  case round =>
    obtain ⟨i, rfl, hi, hj⟩ := hrel
    have fd := hJ i wr hj
    have c1 := fd.kb.cell 0
    simp at c1
    by_cases hlt : i < n
    · have c2 := fd.cp.cell 0
      have c3 := fd.nb.cell 0
      have c4 := fd.cnt.cell 0
      have f4 := fd.cnt.frozen 0
      simp at c2 c3 c4
      obtain ⟨b1, o1, rfl, hb1, h1⟩ := fd.kr.plain (by omega) (by omega)
      obtain ⟨b2, o2, rfl, hb2, h2⟩ := fd.nr.plain (by omega) (by omega)
      have hki : i < ks.length := by omega
      have hni : i < ns.length := by omega
      have e1 := h1 i (.int .i64 ks[i]) (by simp [hki])
      have e2 := h2 i (.int .i64 ns[i]) (by simp [hni])
      have hY := hround i ks[i] ns[i] wr hj (List.getElem?_eq_getElem hki) (List.getElem?_eq_getElem hni)
      obtain ⟨k, hkk⟩ : ∃ k, k = ks[i] := ⟨_, rfl⟩
      obtain ⟨x, hxx⟩ : ∃ x, x = ns[i] := ⟨_, rfl⟩
      rw [← hkk] at e1 hY
      rw [← hxx] at e2 hY
      clear hkk hxx h1 h2 hround hJ
      have k0 : (0 : Int) ≤ (i : Int) := by omega
      have k1 : (i : Int) < (n : Int) := by omega
      have hcb := fd.kb.ne_ fd.cnt (by decide)
      have hcn := fd.nb.ne_ fd.cnt (by decide)
      obtain ⟨W2, hW2⟩ : ∃ W2, W2 = (wr.setCell ⟨cb, 0, none⟩ (.int .i64 ((i : Int) + 1))).drew := ⟨_, rfl⟩
      have far : ∀ p : Addr, p.block ≠ cb → W2.cell? p = wr.cell? p := fun p hp => by rw [hW2]; exact World.cell?_setCell_other wr ⟨cb, 0, none⟩ p _ (fun e => hp (by subst e; rfl))
      have g1 := (far ⟨bk, 0, none⟩ hcb).trans c1
      have g3 := (far ⟨bn, 0, none⟩ hcn).trans c3
      have g4 := (far ⟨b1, o1 + i, none⟩ (by simp; omega)).trans e1
      have g5 := (far ⟨b2, o2 + i, none⟩ (by simp; omega)).trans e2
      gi_wp2
      refine region_rt [(9, false), (10, false)] [(0, .func (.yield l) #[] #[]), (1, .slice (some ⟨b1, o1, none⟩) n c), (2, .int .i64 i), (3, .pointer (some ⟨b1, o1 + i, none⟩)), (4, .int .i64 k),
        (5, .slice (some ⟨b2, o2, none⟩) n c'), (6, .int .i64 i), (7, .pointer (some ⟨b2, o2 + i, none⟩)), (8, .int .i64 x)] (fun W => W = W2) (by kernel_rfl) (by kernel_rfl) ?_ ?_ ?_
      · exact hW2.symm
      · (simp only [evOk, putAll, List.getElem?_toArray, List.getElem?_cons_zero, List.getElem?_cons_succ, Option.bind_some, Act.put, List.setIfInBounds_toArray, List.set_cons_zero, List.set_cons_succ]; repeat' apply And.intro) <;> first | exact trivial | (rintro W rfl; simp [go_sem, *]; done) | (intro W hW; simp [go_sem, *])
      · obtain ⟨fY, tY, aY, bY, hy, hR⟩ := hY
        rw [← hW2] at hy hR
        rw [← hW2]
        simp only [wpTail, putAll, List.getElem?_toArray, List.getElem?_cons_zero, List.getElem?_cons_succ, Option.bind_some, Act.put, List.setIfInBounds_toArray, List.set_cons_zero, List.set_cons_succ]
        simp [go_sem, hy]
        refine hR.mono ?_
        rintro e W' (⟨rfl, hj'⟩ | ⟨rfl, hk'⟩)
        · simp [go_sem]
          go_at_K
          gi_wp2
          go_roundw
          case rel => exact ⟨i + 1, by go_num, by omega, hj'⟩
          case measure => simp [intOf]; omega
        · simp [go_sem]
          go_at_K
          gi_wp2
          refine bodyPost_ret (results_none rfl _ _ _) rfl ?_
          exact ⟨⟨_, rfl⟩, .inr hk'⟩
    · have k1 : ¬ (i : Int) < (n : Int) := by omega
      gi_wp2
      go_end0
      obtain rfl : i = n := by omega
      exact ⟨⟨_, rfl⟩, .inl hj⟩
end Go.Proofs.Ytjnjglhkfaopmaa
