/- stream: the iterator over steps, and Walk. -/
import Derived.Test.YtkicffapbcnkbaaSend
import Derived.Test.YtkicffapbcnkbaaCome
set_option linter.all false
namespace Go.Proofs.Ytkicffapbcnkbaa
open Go.ChangeShapes Go.WideShapes Go.ChangeAt Go.RowKit
attribute [local go_sem] setCell_drewN alloc_drewN Oper.semAt_some
/-- what the iterator reads: its captures, the two lists, the count (if there is one) -/
structure Feed (s : Nat) (W : World) (bk bc bn : Nat) (pc : Option Nat) (A C : Option Addr) (n c n' c' : Nat) (ks : List Int) (es : List Bool) (i : Nat) : Prop where
  kb : Blk W bk 22 #[.slice A n c]
  cp : Blk W bc 42 #[.pointer (pc.map fun cb => ⟨cb, 0, none⟩)]
  nb : Blk W bn 23 #[.slice C n' c']
  kr : Reads W s 1 A n (ks.map (.int .i64 ·))
  nr : Reads W s 1 C n' (es.map (.bool ·))
  cnt : ∀ cb, pc = some cb → Blk W cb 3 #[.int .i64 i]
  lt : s ≤ bk ∧ s ≤ bc ∧ s ≤ bn ∧ ∀ cb, pc = some cb → s ≤ cb
def tickW (pc : Option Nat) (i : Nat) (W : World) : World := match pc with
  | none => W
  | some cb => W.setCell ⟨cb, 0, none⟩ (.int .i64 ((i : Int) + 1))
theorem tickW_only (pc : Option Nat) (i : Nat) (W : World) : W.grownBy (tickW pc i W) pc := by
  cases pc with
  | none => exact World.grownBy.refl W _
  | some cb => exact only_setCell (p := ⟨cb, 0, none⟩) (World.grownBy.refl W _) (.inl rfl) _
theorem Feed.tick {s : Nat} {W : World} {bk bc bn : Nat} {pc : Option Nat} {A C : Option Addr} {n c n' c' : Nat} {ks : List Int} {es : List Bool} {i : Nat} (h : Feed s W bk bc bn pc A C n c n' c' ks es i) :
    Feed s (tickW pc i W) bk bc bn pc A C n c n' c' ks es (i + 1) := by
  cases pc with
  | none => exact ⟨h.kb, h.cp, h.nb, h.kr, h.nr, fun cb e => (by cases e), h.lt⟩
  | some cb =>
    have hc := h.cnt cb rfl
    exact ⟨h.kb.far (p := ⟨cb, 0, none⟩) (h.kb.ne_ hc (by decide)) _, h.cp.far (p := ⟨cb, 0, none⟩) (h.cp.ne_ hc (by decide)) _, h.nb.far (p := ⟨cb, 0, none⟩) (h.nb.ne_ hc (by decide)) _,
      h.kr.setCell (p := ⟨cb, 0, none⟩) (h.lt.2.2.2 cb rfl) _, h.nr.setCell (p := ⟨cb, 0, none⟩) (h.lt.2.2.2 cb rfl) _, fun cb' e => by injection e with e; subst e; exact hc.set_ 0 _, h.lt⟩
set_option maxRecDepth 100000 in
set_option maxHeartbeats 8000000 in
theorem steps1 {m l s bk bc bn : Nat} {pc : Option Nat} {A C : Option Addr} {n c n' c' : Nat} {ks : List Int} {es : List Bool} (hn : n ≤ 1000) (hn' : n' ≤ 9223372036854775807) (hk : ks.length = n) (hs : es.length = n') (J : Nat → World → Prop) (K : World → Prop)
    (hJ : ∀ i W, J i W → Feed s W bk bc bn pc A C n c n' c' ks es i)
    (hround : ∀ i k W, J i W → ks[i]? = some k → YieldAt Fence.wide m Try.prog l #[.int .i64 k, .bool (es.getD i false)] (tickW pc i W) fun e W' => (e = .returned (.bool true) ∧ J (i + 1) W') ∨ (e = .returned (.bool false) ∧ K W'))
    (W : World) (h0 : J 0 W) :
    CallsIn Fence.wide (m + 1) Try.prog 25 #[.func (.yield l) #[] #[], .pointer (some ⟨bk, 0, none⟩), .pointer (some ⟨bc, 0, none⟩), .pointer (some ⟨bn, 0, none⟩)] W fun e W' => (∃ v, e = .returned v) ∧ (J n W' ∨ K W') := by
  refine callsIn_of_wp Try.func25 rfl trivial ?_ rfl
  simp only [Try.ntmps25, List.size_toArray, List.length_cons, List.length_nil, Nat.reduceAdd, Nat.reduceSub, Array.replicate_succ, Array.replicate_zero, List.push_toArray, List.append_toArray, List.nil_append, List.cons_append]
  gi_wp2
  gi_loopw [5] (fun v wr => ∃ i : Nat, v = .int .i64 i ∧ i ≤ n ∧ J i wr) (fun v _ => n - (intOf v).toNat)
  case atStart => exact ⟨0, rfl, by omega, h0⟩
  case round =>
    obtain ⟨i, rfl, hi, hj⟩ := hrel
    have fd := hJ i wr hj
    have c1 := fd.kb.cell 0
    simp at c1
    by_cases hlt : i < n
    · have fd2 := fd.tick
      have hki : i < ks.length := by omega
      have hY := hround i ks[i] wr hj (List.getElem?_eq_getElem hki)
      obtain ⟨b1, o1, rfl, hb1, h1⟩ := fd2.kr.plain (by omega) (by omega)
      have e1 := h1 i (.int .i64 ks[i]) (by simp [hki])
      obtain ⟨k, hkk⟩ : ∃ k, k = ks[i] := ⟨_, rfl⟩
      rw [← hkk] at e1 hY
      clear hkk h1 hround hJ
      have k0 : (0 : Int) ≤ (i : Int) := by omega
      have k1 : (i : Int) < (n : Int) := by omega
      have c2 := fd.cp.cell 0
      simp at c2
      have g1 := fd2.kb.cell 0
      have g3 := fd2.nb.cell 0
      simp at g1 g3
      have e2 : (i : Int) < (n' : Int) → ∃ b2 o2, C = some ⟨b2, o2, none⟩ ∧ b2 < s ∧ wr.cell? ⟨b2, o2 + i, none⟩ = some (.bool (es.getD i false)) := fun h => by
        obtain ⟨b2, o2, rfl, hb2, h2⟩ := fd.nr.plain (by omega) (by omega)
        have hni : i < es.length := by omega
        exact ⟨b2, o2, rfl, hb2, h2 i _ (by simp [hni])⟩
      have e3 : ¬ (i : Int) < (n' : Int) → es.getD i false = false := fun h => by simp [List.getD_eq_getElem?_getD]; rw [List.getElem?_eq_none (by omega)]; rfl
      obtain ⟨eb, heb⟩ : ∃ eb, eb = es.getD i false := ⟨_, rfl⟩
      rw [← heb] at e2 e3 hY
      clear heb
      cases pc with
      | none =>
        simp only [tickW, Option.map_none] at *
        obtain ⟨fY, tY, aY, bY, hy, hR⟩ := hY
        clear fd fd2
        by_cases hn2 : (i : Int) < (n' : Int)
        · obtain ⟨b2, o2, rfl, hb2, e4⟩ := e2 hn2
          clear e2 e3
          gi_wp2
          all_goals
            refine hR.mono ?_
            rintro e W' (⟨rfl, hj'⟩ | ⟨rfl, hk'⟩)
            · gi_wp2
              go_roundw
              case rel => exact ⟨i + 1, by go_num, by omega, hj'⟩
              case measure => simp [intOf]; omega
            · gi_wp2
              refine bodyPost_ret (results_none rfl _ _ _) rfl ?_
              exact ⟨⟨_, rfl⟩, .inr hk'⟩
        · obtain rfl := e3 hn2
          clear e2 e3
          gi_wp2
          all_goals
            refine hR.mono ?_
            rintro e W' (⟨rfl, hj'⟩ | ⟨rfl, hk'⟩)
            · gi_wp2
              go_roundw
              case rel => exact ⟨i + 1, by go_num, by omega, hj'⟩
              case measure => simp [intOf]; omega
            · gi_wp2
              refine bodyPost_ret (results_none rfl _ _ _) rfl ?_
              exact ⟨⟨_, rfl⟩, .inr hk'⟩
      | some cb =>
        have hc := fd.cnt cb rfl
        have hcs := fd.lt.2.2.2 cb rfl
        have c4 := hc.cell 0
        have f4 := hc.frozen 0
        simp at c4
        have n1 := fd.kb.ne_ hc (by decide)
        have n2 := fd.cp.ne_ hc (by decide)
        have n3 := fd.nb.ne_ hc (by decide)
        have n4 : b1 ≠ cb := by omega
        simp only [tickW, Option.map_some] at *
        obtain ⟨fY, tY, aY, bY, hy, hR⟩ := hY
        clear fd fd2 hc
        have v1 : (wr.setCell ⟨cb, 0, none⟩ (.int .i64 ((i : Int) + 1))).cell? ⟨bk, 0, none⟩ = some (.slice (some ⟨b1, o1, none⟩) n c) := (World.cell?_setCell_other wr ⟨cb, 0, none⟩ ⟨bk, 0, none⟩ _ (by simp [n1])).trans c1
        have v3 : (wr.setCell ⟨cb, 0, none⟩ (.int .i64 ((i : Int) + 1))).cell? ⟨bn, 0, none⟩ = some (.slice C n' c') := g3
        by_cases hn2 : (i : Int) < (n' : Int)
        · obtain ⟨b2, o2, rfl, hb2, e4⟩ := e2 hn2
          have v4 : (wr.setCell ⟨cb, 0, none⟩ (.int .i64 ((i : Int) + 1))).cell? ⟨b2, o2 + i, none⟩ = some (.bool eb) := (World.cell?_setCell_other wr ⟨cb, 0, none⟩ ⟨b2, o2 + i, none⟩ _ (by intro e; injection e with e1; omega)).trans e4
          clear e2 e3
          gi_wp2
          all_goals
            refine hR.mono ?_
            rintro e W' (⟨rfl, hj'⟩ | ⟨rfl, hk'⟩)
            · gi_wp2
              go_roundw
              case rel => exact ⟨i + 1, by go_num, by omega, hj'⟩
              case measure => simp [intOf]; omega
            · gi_wp2
              refine bodyPost_ret (results_none rfl _ _ _) rfl ?_
              exact ⟨⟨_, rfl⟩, .inr hk'⟩
        · obtain rfl := e3 hn2
          clear e2 e3
          gi_wp2
          all_goals
            refine hR.mono ?_
            rintro e W' (⟨rfl, hj'⟩ | ⟨rfl, hk'⟩)
            · gi_wp2
              go_roundw
              case rel => exact ⟨i + 1, by go_num, by omega, hj'⟩
              case measure => simp [intOf]; omega
            · gi_wp2
              refine bodyPost_ret (results_none rfl _ _ _) rfl ?_
              exact ⟨⟨_, rfl⟩, .inr hk'⟩
    · have k1 : ¬ (i : Int) < (n : Int) := by omega
      gi_wp2
      go_end0
      obtain rfl : i = n := by omega
      exact ⟨⟨_, rfl⟩, .inl hj⟩
end Go.Proofs.Ytkicffapbcnkbaa
