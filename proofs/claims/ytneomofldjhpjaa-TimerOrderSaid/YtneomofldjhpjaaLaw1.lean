/- timer: the reference's Due; all that is told. -/
import Derived.Test.YtneomofldjhpjaaIter
set_option linter.all false
namespace Go.Proofs.Ytneomofldjhpjaa
open Go.ChangeShapes Go.WideShapes Go.ChangeAt Go.RowKit
attribute [local go_sem] setCell_drewN alloc_drewN
section
variable (w : World) {D : List Int} {sn : List Bool} {b ob : Nat}
theorem rdue_no (hD : OkD D) (hs : sn.length = 6) (bd : Blk w b 54 (encR D).toArray) (so : Blk w ob 4 (sn.map (Value.bool ·)).toArray) (now : Int) (h : nextF D sn 5 0 = 0 ∨ now < D.getD (nextF D sn 5 0) (-1)) :
    Calls Try.prog 22 #[.pointer (some ⟨b, 0, none⟩), .int .i64 now, .slice (some ⟨ob, 0, none⟩) 6 6] w fun e w' => e = .returned (.tuple #[.int .i64 0, .int .i64 0, .bool false]) ∧ ∃ m, w' = w.drewN m := by
  have ro : Reads w w.heap.size 1 (some ⟨ob, 0, none⟩) 6 (sn.map (Value.bool ·)) := by
    have := reads_of_blk (size := 1) (n := 6) so (by simp [hs]) (by simp [maxLen])
    simpa using this
  have hn := rnext_ D sn b w hD hs bd _ 6 ro _ rfl
  obtain ⟨R, hR⟩ : ∃ R, R = nextF D sn 5 0 := ⟨_, rfl⟩
  rw [← hR] at hn h
  have hsome := nextF_some (D := D) (sn := sn) 5 0 (.inl rfl) (by omega)
  rw [← hR] at hsome
  clear hR
  by_cases hz : R = 0
  · have hz' : decide (0 < (R : Int)) = false := by simp; omega
    rw [hz'] at hn
    clear h hsome hz hz'
    go_enter Try.func22, Try.ntmps22
    go_wp2_with (go_at_call 27; refine hn.mono ?_; rintro e w1 ⟨rfl, ⟨m, rfl⟩, _⟩)
    go_ret3
    exact ⟨rfl, m, rfl⟩
  · have hz' : decide (0 < (R : Int)) = true := by simp; omega
    have hl := h.resolve_left hz
    have g0 := (hsome.resolve_left hz).2.2.1
    have hat : atF D R = D.getD R (-1) := by unfold atF; rw [if_neg (by omega)]
    rw [hz', hat] at hn
    obtain ⟨dr, hdr⟩ : ∃ dr, dr = D.getD R (-1) := ⟨_, rfl⟩
    rw [← hdr] at hn hl
    clear h hsome hz hz' hat hdr g0
    go_enter Try.func22, Try.ntmps22
    go_wp2_with (go_at_call 27; refine hn.mono ?_; rintro e w1 ⟨rfl, ⟨m, rfl⟩, _⟩)
    go_ret3
    exact ⟨rfl, m, rfl⟩
theorem rdue_yes (hD : OkD D) (hs : sn.length = 6) (bd : Blk w b 54 (encR D).toArray) (so : Blk w ob 4 (sn.map (Value.bool ·)).toArray) (now : Int) {R : Nat} (hR : nextF D sn 5 0 = R) (h1 : 1 ≤ R) (h5 : R ≤ 5) (h0 : 0 ≤ D.getD R (-1)) (hl : D.getD R (-1) ≤ now) :
    Calls Try.prog 22 #[.pointer (some ⟨b, 0, none⟩), .int .i64 now, .slice (some ⟨ob, 0, none⟩) 6 6] w fun e w' => e = .returned (.tuple #[.int .i64 R, .int .i64 (D.getD R (-1)), .bool true]) ∧
      Blk w' b 54 (encR (D.set R (-1))).toArray ∧ Blk w' ob 4 ((sn.set R true).map (Value.bool ·)).toArray ∧ Keep [b, ob] w w' := by
  have ro : Reads w w.heap.size 1 (some ⟨ob, 0, none⟩) 6 (sn.map (Value.bool ·)) := by
    have := reads_of_blk (size := 1) (n := 6) so (by simp [hs]) (by simp [maxLen])
    simpa using this
  have hn := rnext_ D sn b w hD hs bd _ 6 ro _ hR
  have hz' : decide (0 < (R : Int)) = true := by simp; omega
  have hat : atF D R = D.getD R (-1) := by unfold atF; rw [if_neg (by omega)]
  rw [hz', hat] at hn
  have c0 := cellR hD bd h5
  have f0 := bd.frozen R
  have c1 := but_cell hs so h5
  have f1 := so.frozen R
  obtain ⟨dr, hdr⟩ : ∃ dr, dr = D.getD R (-1) := ⟨_, rfl⟩
  rw [← hdr] at hn hl c0 h0 ⊢
  obtain ⟨bq, hbq⟩ : ∃ bq, bq = sn.getD R false := ⟨_, rfl⟩
  rw [← hbq] at c1
  have hne : b ≠ ob := bd.ne_ so (by decide)
  have hl' : ¬ now < dr := by omega
  have R0 : (0 : Int) ≤ (R : Int) := by omega
  have R6 : (R : Int) < 6 := by omega
  clear hz' hat hdr hbq ro
  go_enter Try.func22, Try.ntmps22
  go_wp2_with (go_at_call 27; refine hn.mono ?_; rintro e w1 ⟨rfl, ⟨m, rfl⟩, _⟩)
  go_ret3
  have s1 := setR (bd.drewN m) R (-1)
  have s2 := (so.drewN m).far (p := ⟨b, R, none⟩) (by simp; omega) (.int .i64 (-1))
  have s3 := s2.set_ R (.bool true)
  rw [List.setIfInBounds_toArray] at s3
  refine ⟨rfl, s1.far (p := ⟨ob, R, none⟩) hne _, by rw [List.map_set]; exact s3, ?_⟩
  exact (((Keep.refl [b, ob] w).setCell (p := ⟨b, R, none⟩) (.inl (by simp)) _).setCell (p := ⟨ob, R, none⟩) (.inl (by simp)) _).drewN m
def atV (D : List Int) (k : Int) : Int × Bool := if 1 ≤ k ∧ k ≤ 5 then (atF D k.toNat, decide (0 ≤ D.getD k.toNat (-1))) else (0, false)
theorem at_any (hD : OkD D) (bd : Blk w b 51 (encP D).toArray) (k : Int) : Calls Try.prog 19 #[.pointer (some ⟨b, 0, none⟩), .int .i64 k] w fun e w' => e = .returned (.tuple #[.int .i64 (atV D k).1, .bool (atV D k).2]) ∧ ∃ m, w' = w.drewN m := by
  by_cases h : 1 ≤ k ∧ k ≤ 5
  · obtain ⟨n, rfl⟩ : ∃ n : Nat, k = n := ⟨k.toNat, by omega⟩
    have := at_yes w hD bd (k := n) (by omega) (by omega)
    unfold atV
    rw [if_pos h]
    exact this
  · unfold atV
    rw [if_neg h]
    exact at_no w (by omega)
theorem rat_any (hD : OkD D) (bd : Blk w b 54 (encR D).toArray) (k : Int) : Calls Try.prog 23 #[.pointer (some ⟨b, 0, none⟩), .int .i64 k] w fun e w' => e = .returned (.tuple #[.int .i64 (atV D k).1, .bool (atV D k).2]) ∧ ∃ m, w' = w.drewN m := by
  by_cases h : 1 ≤ k ∧ k ≤ 5
  · obtain ⟨n, rfl⟩ : ∃ n : Nat, k = n := ⟨k.toNat, by omega⟩
    have := rat_yes w hD bd (k := n) (by omega) (by omega)
    unfold atV
    rw [if_pos h]
    exact this
  · unfold atV
    rw [if_neg h]
    exact rat_no w (by omega)
theorem same_ {a : Nat} (hD : OkD D) (bd : Blk w a 51 (encP D).toArray) (br : Blk w b 54 (encR D).toArray) : Calls Try.prog 16 #[.pointer (some ⟨a, 0, none⟩), .pointer (some ⟨b, 0, none⟩)] w fun e w' => e = .returned (.bool true) ∧ Below w.heap.size w w' := by
  go_enter Try.func16, Try.ntmps16
  go_wp2
  go_loopw [5] (fun vk wr => ∃ (k : Int) (m : Nat), vk = .int .i64 k ∧ -1 ≤ k ∧ k ≤ 8 ∧ wr = w.drewN m) (fun vk _ => (8 - intOf vk).toNat)
  case atStart => exact ⟨-1, 0, rfl, by omega, by omega, rfl⟩
  case round =>
    obtain ⟨k, m, rfl, h1, h8, rfl⟩ := hrel
    by_cases hlt : k < 8
    · have ha := at_any (w.drewN m) hD (bd.drewN m) k
      obtain ⟨x, o, hv⟩ : ∃ x o, atV D k = (x, o) := ⟨_, _, rfl⟩
      rw [hv] at ha
      have hb : ∀ W', (∃ m', W' = (w.drewN m).drewN m') → Calls Try.prog 23 #[.pointer (some ⟨b, 0, none⟩), .int .i64 k] W' fun e w' => e = .returned (.tuple #[.int .i64 x, .bool o]) ∧ ∃ n, w' = W'.drewN n := fun W' ⟨m', e⟩ => by
        subst e
        have := rat_any ((w.drewN m).drewN m') hD ((br.drewN m).drewN m') k
        rw [hv] at this
        exact this
      have Hb := Lib.hid hb
      clear hv hb
      go_wp2_with (first
        | (go_at_call 19; refine ha.mono ?_; rintro e w1 ⟨rfl, hm1⟩)
        | (go_at_call 23; refine (Hb.out _ hm1).mono ?_; rintro e w2 ⟨rfl, hm2⟩))
      go_roundw
      case rel =>
        obtain ⟨m1, rfl⟩ := hm1
        obtain ⟨m2, rfl⟩ := hm2
        exact ⟨k + 1, _, rfl, by omega, by omega, by rw [drewN_add, drewN_add]⟩
      case measure => simp [intOf]; omega
    · have hx := nxt (w.drewN m) hD (bd.drewN m)
      obtain ⟨R, hR⟩ : ∃ R, R = nextF D noBut 5 0 := ⟨_, rfl⟩
      rw [← hR] at hx
      have hy : ∀ w', Below w.heap.size (w.drewN m) w' → Calls Try.prog 24 #[.pointer (some ⟨b, 0, none⟩)] w' fun e w'' => e = .returned (.tuple #[.int .i64 R, .int .i64 (atF D R), .bool (decide (0 < (R : Int)))]) ∧ Below w'.heap.size w' w'' := fun w' hb => by
        have := rnxt w' hD ((br.drewN m).below hb br.lt)
        rw [← hR] at this
        exact this
      have Hy := Lib.hid hy
      obtain ⟨x, hx'⟩ : ∃ x, x = atF D R := ⟨_, rfl⟩
      obtain ⟨o, ho⟩ : ∃ o, o = decide (0 < (R : Int)) := ⟨_, rfl⟩
      rw [← hx', ← ho] at hx Hy
      clear hR hy hx' ho
      go_wp2_with (first
        | (go_at_call 18; refine hx.mono ?_; rintro e w1 ⟨rfl, hb1, _⟩)
        | (go_at_call 24; refine (Hy.out _ hb1).mono ?_; rintro e w2 ⟨rfl, hb2⟩))
      go_ret
      have hb1' : Below w.heap.size w w1 := ⟨hb1.os, hb1.tape, hb1.output, hb1.size, hb1.block⟩
      exact ⟨rfl, hb1'.trans (hb2.mono hb1'.size)⟩
end
end Go.Proofs.Ytneomofldjhpjaa
