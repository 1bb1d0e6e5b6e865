/- timer: what is due, one after the other. -/
import Derived.Test.YtneomofldjhpjaaCtr3
import Derived.Test.YtneomofldjhpjaaKeep
set_option linter.all false
namespace Go.Proofs.Ytneomofldjhpjaa
open Go.ChangeShapes Go.WideShapes Go.ChangeAt Go.RowKit
attribute [local go_sem] setCell_drewN alloc_drewN Oper.semAt_some
/-- what the iterator reads between two rounds -/
structure Feed (W : World) (sb c1 c2 q : Nat) (now : Int) (D : List Int) (sn : List Bool) : Prop where
  ok : OkD D
  len : sn.length = 6
  sp : Blk W sb 51 (encP D).toArray
  k1 : Blk W c1 27 #[.pointer (some ⟨sb, 0, none⟩)]
  k2 : Blk W c2 2 #[.int .i64 now]
  sq : Blk W q 59 (sn.map (Value.bool ·)).toArray
/-- how many kinds have not come -/
def left (W : World) (q : Nat) : Nat := match W.heap[q]? with
  | some (.cells cs _ _) => cs.toList.countP fun v => match v with | .bool false => true | _ => false
  | _ => 0
theorem left_eq {W : World} {q : Nat} {t : TypeId} {sn : List Bool} (h : Blk W q t (sn.map (Value.bool ·)).toArray) : left W q = sn.countP (! ·) := by
  unfold left
  unfold Blk at h
  rw [h]
  simp only [List.countP_map]
  congr 1
  funext b
  cases b <;> rfl
theorem left_lt {sn : List Bool} : ∀ {R : Nat}, R < sn.length → sn.getD R false = false → (sn.set R true).countP (! ·) < sn.countP (! ·) := by
  induction sn with
  | nil => intro R h; simp at h
  | cons b bs ih =>
    intro R h h0
    cases R with
    | zero =>
      simp at h0
      subst h0
      simp
    | succ R =>
      have := ih (R := R) (by simpa using h) (by simpa using h0)
      simp only [List.set_cons_succ, List.countP_cons]
      omega
theorem nextF_some {D : List Int} {sn : List Bool} : ∀ (f best : Nat), (best = 0 ∨ (1 ≤ best ∧ best ≤ 5 ∧ 0 ≤ D.getD best (-1) ∧ sn.getD best false = false)) → f ≤ 5 →
    nextF D sn f best = 0 ∨ (1 ≤ nextF D sn f best ∧ nextF D sn f best ≤ 5 ∧ 0 ≤ D.getD (nextF D sn f best) (-1) ∧ sn.getD (nextF D sn f best) false = false)
  | 0, best, h, _ => h
  | f + 1, best, h, hf => by
    simp only [nextF]
    refine nextF_some f _ ?_ (by omega)
    split
    · rename_i hc
      exact .inr ⟨by omega, by omega, hc.1, hc.2.1⟩
    · exact h
set_option maxRecDepth 100000 in
set_option maxHeartbeats 8000000 in
theorem dueIt {m l sb c1 c2 : Nat} {now : Int} (J : Nat → List Int → List Bool → World → Prop) (K : World → Prop)
    (hJ : ∀ q D sn W, J q D sn W → Feed W sb c1 c2 q now D sn)
    (hround : ∀ q D sn W R, J q D sn W → nextF D sn 5 0 = R → 1 ≤ R → R ≤ 5 → 0 ≤ D.getD R (-1) → D.getD R (-1) ≤ now → sn.getD R false = false → ∀ W2, Keep [sb, q] W W2 → Feed W2 sb c1 c2 q now (D.set R (-1)) (sn.set R true) →
      YieldAt Fence.wide m Try.prog l #[.int .i64 R, .int .i64 (D.getD R (-1))] W2 fun e W' => (e = .returned (.bool true) ∧ ∃ D', J q D' (sn.set R true) W') ∨ (e = .returned (.bool false) ∧ K W'))
    (D0 : List Int) (W : World) (hk1 : Blk W c1 27 #[.pointer (some ⟨sb, 0, none⟩)]) (h0 : J W.heap.size D0 noBut (W.alloc (.cells (noBut.map (Value.bool ·)).toArray 59))) :
    CallsIn Fence.wide (m + 1) Try.prog 25 #[.func (.yield l) #[] #[], .pointer (some ⟨c1, 0, none⟩), .pointer (some ⟨c2, 0, none⟩)] W fun e W' => (∃ v, e = .returned v) ∧
      ((∃ q D sn W1, J q D sn W1 ∧ Keep [] W1 W' ∧ (nextF D sn 5 0 = 0 ∨ now < D.getD (nextF D sn 5 0) (-1))) ∨ K W') := by
  refine callsIn_of_wp Try.func25 rfl trivial ?_ rfl
  simp only [Try.ntmps25, List.size_toArray, List.length_cons, List.length_nil, Nat.reduceAdd, Nat.reduceSub, Array.replicate_succ, Array.replicate_zero, List.push_toArray, List.append_toArray, List.nil_append, List.cons_append]
  have fd0 := hJ _ _ _ _ h0
  have k0 := hk1.cell 0
  simp at k0
  gi_wp2
  gi_loopw [5] (fun _ wr => ∃ D sn, J W.heap.size D sn wr) (fun _ wr => left wr W.heap.size)
  case atStart => exact ⟨D0, noBut, h0⟩
  case round =>
    obtain ⟨D, sn, hj⟩ := hrel
    have fd := hJ _ _ _ _ hj
    have k1 := fd.k1.cell 0
    have k2 := fd.k2.cell 0
    simp at k1 k2
    obtain ⟨s0, s1, s2, s3, s4, s5, hsn⟩ : ∃ s0 s1 s2 s3 s4 s5, sn = [s0, s1, s2, s3, s4, s5] := by
      have := fd.len
      match sn, this with
      | [s0, s1, s2, s3, s4, s5], _ => exact ⟨s0, s1, s2, s3, s4, s5, rfl⟩
    obtain ⟨R, hR⟩ : ∃ R, nextF D sn 5 0 = R := ⟨_, rfl⟩
    have hnx := next_ D sn sb wr fd.ok fd.len fd.sp R hR
    have hq0 : wr.cell? ⟨W.heap.size, 0, none⟩ = some (.bool s0) := by rw [fd.sq.cell, hsn]; rfl
    have hq1 : wr.cell? ⟨W.heap.size, 1, none⟩ = some (.bool s1) := by rw [fd.sq.cell, hsn]; rfl
    have hq2 : wr.cell? ⟨W.heap.size, 2, none⟩ = some (.bool s2) := by rw [fd.sq.cell, hsn]; rfl
    have hq3 : wr.cell? ⟨W.heap.size, 3, none⟩ = some (.bool s3) := by rw [fd.sq.cell, hsn]; rfl
    have hq4 : wr.cell? ⟨W.heap.size, 4, none⟩ = some (.bool s4) := by rw [fd.sq.cell, hsn]; rfl
    have hq5 : wr.cell? ⟨W.heap.size, 5, none⟩ = some (.bool s5) := by rw [fd.sq.cell, hsn]; rfl
    have hnx' : Calls Try.prog 26 #[.pointer (some ⟨sb, 0, none⟩), .agg #[.bool s0, .bool s1, .bool s2, .bool s3, .bool s4, .bool s5]] wr fun e w' => e = .returned (.tuple #[.int .i64 R, .int .i64 (atF D R), .bool (decide (0 < (R : Int)))]) ∧ Below wr.heap.size wr w' ∧ R ≤ 5 := by
      rw [hsn] at hnx; exact hnx
    have HR := Lib.hid hR
    have Hsn := Lib.hid hsn
    clear hnx hsn hR h0 fd0
    gi_wp2
    refine ⟨trivial, (callsIn_wide.2 hnx').mono ?_⟩
    rintro e w1 ⟨rfl, hb1, h5⟩
    clear hnx' hq0 hq1 hq2 hq3 hq4 hq5
    have kb1 := Keep.of_below hb1
    have k2' := (fd.k2.keep kb1 (by simp)).cell 0
    have k1' := (fd.k1.keep kb1 (by simp)).cell 0
    simp at k1' k2'
    have hsome := nextF_some (D := D) (sn := sn) 5 0 (.inl rfl) (by omega)
    rw [HR.out] at hsome
    by_cases hz : R = 0
    · have hz' : decide (0 < (R : Int)) = false := by simp; omega
      have hz2 := Lib.hid hz
      clear hz hsome hround hJ
      rw [hz']
      gi_wp2
      refine bodyPost_ret (results_none rfl _ _ _) rfl ?_
      exact ⟨⟨_, rfl⟩, .inl ⟨_, D, sn, wr, hj, kb1, .inl (by rw [HR.out, hz2.out])⟩⟩
    · have hz' : decide (0 < (R : Int)) = true := by simp; omega
      obtain ⟨g1, g5, g0, gs⟩ := hsome.resolve_left hz
      have hat : atF D R = D.getD R (-1) := by unfold atF; rw [if_neg (by omega)]
      rw [hz', hat]
      obtain ⟨dr, hdr⟩ : ∃ dr, dr = D.getD R (-1) := ⟨_, rfl⟩
      rw [← hdr] at g0 ⊢
      have Hdr := Lib.hid hdr
      have R0 : (0 : Int) ≤ (R : Int) := by omega
      have R6 : (R : Int) < 6 := by omega
      clear hz hz' hsome hat hdr
      by_cases hle : dr ≤ now
      · have hn : ¬ now < dr := by omega
        have sq1 := fd.sq.keep kb1 (by simp)
        have c8 := but_cell fd.len sq1 g5
        have f8 := sq1.frozen R
        have sp1 := fd.sp.keep kb1 (by simp)
        have hqs : W.heap.size ≠ sb := fd.sq.ne_ fd.sp (by decide)
        have hqk : W.heap.size ≠ c1 := fd.sq.ne_ fd.k1 (by decide)
        have hqk2 : W.heap.size ≠ c2 := fd.sq.ne_ fd.k2 (by decide)
        have hsk : sb ≠ c1 := fd.sp.ne_ fd.k1 (by decide)
        have hsk2 : sb ≠ c2 := fd.sp.ne_ fd.k2 (by decide)
        obtain ⟨bq, hbq⟩ : ∃ bq, bq = sn.getD R false := ⟨_, rfl⟩
        rw [← hbq] at c8
        clear hbq
        obtain ⟨w2, hw2⟩ : ∃ w2, w2 = w1.setCell ⟨W.heap.size, R, none⟩ (.bool true) := ⟨_, rfl⟩
        have kb2 : Keep [W.heap.size] wr w2 := by rw [hw2]; exact (kb1.more (by simp)).setCell (p := ⟨W.heap.size, R, none⟩) (.inl (by simp)) _
        have sq2 : Blk w2 W.heap.size 59 ((sn.set R true).map (Value.bool ·)).toArray := by
          have := sq1.set_ R (.bool true)
          rw [hw2]
          rw [List.setIfInBounds_toArray] at this
          simpa [List.map_set] using this
        have sp2 : Blk w2 sb 51 (encP D).toArray := fd.sp.keep kb2 (by simp; omega)
        have k1'' := (fd.k1.keep kb2 (by simp; omega)).cell 0
        simp at k1''
        have HW2 := Lib.hid hw2
        clear hw2
        gi_wp2_with (refine ⟨trivial, ?_⟩; gi_at_call 13; rw [← HW2.out]; refine (callsIn_wide.2 (stop_yes _ fd.ok sp2 g1 g5)).mono ?_; rintro e w3 ⟨rfl, sp3, g3⟩; have kb3 : Keep [sb, W.heap.size] wr w3 := (kb2.more (by simp)).step (Keep.of_only g3) (by simp); have fd3 : Feed w3 sb c1 c2 W.heap.size now (D.set R (-1)) (sn.set R true) := ⟨fd.ok.set_ g1 (by omega), by rw [List.length_set]; exact fd.len, sp3, fd.k1.keep kb3 (by simp; omega), fd.k2.keep kb3 (by simp; omega), sq2.grown g3 (by simp; omega)⟩; have hY := hround _ D sn wr R hj HR.out g1 g5 (by rw [← Hdr.out]; exact g0) (by rw [← Hdr.out]; exact hle) gs w3 kb3 fd3; rw [← Hdr.out] at hY; obtain ⟨fY, tY, aY, bY, hy, hRR⟩ := hY)
        clear hround
        refine hRR.mono ?_
        rintro e W' (⟨rfl, D', hj'⟩ | ⟨rfl, hk'⟩)
        · gi_wp2
          go_roundw
          case rel => exact ⟨D', _, hj'⟩
          case measure =>
            rw [left_eq (hJ _ _ _ _ hj').sq, left_eq fd.sq]
            exact left_lt (by rw [fd.len]; omega) gs
        · gi_wp2
          refine bodyPost_ret (results_none rfl _ _ _) rfl ?_
          exact ⟨⟨_, rfl⟩, .inr hk'⟩
      · have hn : now < dr := by omega
        clear hround hJ
        gi_wp2
        refine bodyPost_ret (results_none rfl _ _ _) rfl ?_
        exact ⟨⟨_, rfl⟩, .inl ⟨_, D, sn, wr, hj, kb1, .inr (by rw [HR.out, ← Hdr.out]; exact hn)⟩⟩
end Go.Proofs.Ytneomofldjhpjaa
