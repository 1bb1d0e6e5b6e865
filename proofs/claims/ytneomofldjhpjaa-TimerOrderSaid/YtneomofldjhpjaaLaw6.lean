/- timer: TimerOrder: what is due comes by its deadline, then by its kind. -/
import Derived.Test.YtneomofldjhpjaaLaw3
set_option linter.all false
namespace Go.Proofs.Ytneomofldjhpjaa
open Go.ChangeShapes Go.WideShapes Go.ChangeAt Go.RowKit
attribute [local go_sem] setCell_drewN alloc_drewN Oper.semAt_some
theorem getD_set_ne {α : Type} {D : List α} {R j : Nat} {x d : α} (h : j ≠ R) : (D.set R x).getD j d = D.getD j d := by
  simp [List.getD_eq_getElem?_getD, List.getElem?_set, Ne.symm h]
theorem getD_set_lt {D : List Int} {R j : Nat} (h : 0 ≤ (D.set R (-1)).getD j (-1)) : j ≠ R ∧ D.getD j (-1) = (D.set R (-1)).getD j (-1) := by
  by_cases hj : j = R
  · subst hj
    by_cases hl : j < D.length <;> simp [List.getD_eq_getElem?_getD, List.getElem?_set, hl] at h
  · exact ⟨hj, (getD_set_ne hj).symm⟩
theorem nextF_min {D : List Int} {sn : List Bool} : ∀ (f best : Nat), f ≤ 5 → (∀ j, 1 ≤ j → j + f ≤ 5 → 0 ≤ D.getD j (-1) → sn.getD j false = false → 1 ≤ best ∧ (D.getD best (-1) < D.getD j (-1) ∨ D.getD best (-1) = D.getD j (-1) ∧ best ≤ j)) →
    best + f ≤ 5 → ∀ j, 1 ≤ j → j ≤ 5 → 0 ≤ D.getD j (-1) → sn.getD j false = false → 1 ≤ nextF D sn f best ∧ (D.getD (nextF D sn f best) (-1) < D.getD j (-1) ∨ D.getD (nextF D sn f best) (-1) = D.getD j (-1) ∧ nextF D sn f best ≤ j)
  | 0, best, _, h, _ => fun j h1 h5 a b => h j h1 (by omega) a b
  | f + 1, best, hf, h, hb => by
    simp only [nextF]
    refine nextF_min f _ (by omega) ?_ ?_
    · intro j h1 h5 a b
      by_cases hj : j = 5 - f
      · subst hj
        split
        · exact ⟨by omega, .inr ⟨rfl, Nat.le_refl _⟩⟩
        · rename_i hc
          have : ¬ (best = 0 ∨ D.getD (5 - f) (-1) < D.getD best (-1)) := fun x => hc ⟨a, b, x⟩
          refine ⟨by omega, ?_⟩
          omega
      · have := h j h1 (by omega) a b
        split
        · rename_i hc
          refine ⟨by omega, ?_⟩
          omega
        · exact this
    · split <;> omega
theorem nextF_congr {D : List Int} {sn sn' : List Bool} (h : ∀ k, 0 ≤ D.getD k (-1) → sn.getD k false = sn'.getD k false) : ∀ f best, nextF D sn f best = nextF D sn' f best
  | 0, _ => rfl
  | f + 1, best => by
    simp only [nextF]
    rw [nextF_congr h f]
    congr 1
    by_cases hk : 0 ≤ D.getD (5 - f) (-1)
    · rw [h _ hk]
    · rw [if_neg (fun x => hk x.1), if_neg (fun x => hk x.1)]
theorem noBut_get (k : Nat) : noBut.getD k false = false := by
  match k with
  | 0 | 1 | 2 | 3 | 4 | 5 => rfl
  | k + 6 => simp [noBut]
def Src (w : World) (A : Option Addr) (n : Nat) (D : List Int) : Prop := ∀ j, 0 ≤ D.getD j (-1) → 1 ≤ j ∧ j ≤ n ∧ ∃ b off, A = some ⟨b, off, none⟩ ∧ b < w.heap.size ∧ w.cell? ⟨b, off + (j - 1), none⟩ = some (.int .i64 (D.getD j (-1)))
def Ord (D : List Int) (sn : List Bool) (last kind : Int) : Prop := ∀ j : Nat, 1 ≤ j → j ≤ 5 → 0 ≤ D.getD j (-1) → sn.getD j false = false → last < D.getD j (-1) ∨ last = D.getD j (-1) ∧ kind < j
def Seen (D : List Int) (sn : List Bool) : Prop := ∀ j, sn.getD j false = true → D.getD j (-1) < 0
theorem Src.set_ {w : World} {A : Option Addr} {n R : Nat} {D : List Int} (h : Src w A n D) : Src w A n (D.set R (-1)) := fun j hj => by
  obtain ⟨_, e⟩ := getD_set_lt hj
  rw [← e] at hj ⊢
  exact h j hj
theorem Ord.first {D : List Int} : Ord D noBut (-1) 0 := fun j _ _ h _ => by omega
theorem Ord.step {D : List Int} {sn : List Bool} {R : Nat} (hR : nextF D sn 5 0 = R) : Ord (D.set R (-1)) (sn.set R true) (D.getD R (-1)) R := fun j h1 h5 h0 hs => by
  obtain ⟨hj, e⟩ := getD_set_lt h0
  rw [← e] at h0 ⊢
  rw [getD_set_ne hj] at hs
  have := nextF_min (D := D) (sn := sn) 5 0 (by omega) (fun j h1 h5 => by omega) (by omega) j h1 h5 h0 hs
  rw [hR] at this
  omega
theorem Seen.step {D : List Int} {sn : List Bool} {R : Nat} (h : Seen D sn) (hR : R < D.length) : Seen (D.set R (-1)) (sn.set R true) := fun j hj => by
  by_cases e : j = R
  · subst e
    simp [List.getD_eq_getElem?_getD, List.getElem?_set, hR]
  · rw [getD_set_ne e] at hj ⊢
    exact h j hj
theorem Seen.none_ {D : List Int} : Seen D noBut := fun j hj => by rw [noBut_get] at hj; cases hj
theorem Seen.next {D : List Int} {sn : List Bool} (h : Seen D sn) : nextF D noBut 5 0 = nextF D sn 5 0 := nextF_congr (fun k hk => by
  rw [noBut_get]
  cases hs : sn.getD k false
  · rfl
  · have := h k hs
    omega) 5 0
theorem Src.arm {w : World} {b off n k c : Nat} {D : List Int} {x : Int} (h : Src w (some ⟨b, off, none⟩) n D) (hk : k < n) (hb : b < w.heap.size) (hx : w.cell? ⟨b, off + k, none⟩ = some (.int .i64 x)) : Src w (some ⟨b, off, none⟩) n (armD D (k + 1) x) := by
  unfold armD
  split
  · intro j hj
    have e1 : ((k : Int) + 1).toNat = k + 1 := by omega
    rw [e1] at hj ⊢
    by_cases e : j = k + 1
    · subst e
      refine ⟨by omega, by omega, b, off, rfl, hb, ?_⟩
      rw [show k + 1 - 1 = k by omega, hx]
      have hl : k + 1 < D.length := by
        rcases Nat.lt_or_ge (k + 1) D.length with h | h
        · exact h
        · rw [List.getD_eq_getElem?_getD, List.getElem?_eq_none (by simpa using h)] at hj
          simp at hj
      simp [List.getD_eq_getElem?_getD, List.getElem?_set, hl]
    · rw [getD_set_ne e] at hj ⊢
      exact h j hj
  · exact h
/-- the law's own blocks and what has come -/
structure DO (S W : World) (s0 sb lb : Nat) (A : Option Addr) (n c : Nat) (now last kind : Int) (rec_ : Obj) : Prop where
  p0 : Blk W s0 38 #[.slice A n c]
  p1 : Blk W (s0 + 1) 2 #[.int .i64 now]
  p2 : Blk W (s0 + 1 + 1) 4 #[.bool false]
  p8 : Blk W lb 2 #[.int .i64 last]
  p9 : Blk W (lb + 1) 3 #[.int .i64 kind]
  rs : Rest S W [sb, lb, lb + 1] rec_
set_option maxRecDepth 100000 in
set_option maxHeartbeats 8000000 in
theorem timerOrder (w : World) (v : Value) (hv : Sl w 1 (fun _ => IsInt .i64) v) (now : Int) (_hnow : (Lit.int IntKind.i64 now).wf = true) :
    Calls Try.prog 5 #[v, .int .i64 now] w fun e w' => e = .returned (.bool true) ∧ Below w.heap.size w w' := by
  clear _hnow
  obtain ⟨A, n, c, zs, rfl, hnc, hcm, hzl, hrd⟩ := ints_of_sl hv
  clear hv
  unfold maxLen at hcm
  have hat : ∀ i, i < n → ∃ b off x, A = some ⟨b, off, none⟩ ∧ b < w.heap.size ∧ w.cell? ⟨b, off + i, none⟩ = some (.int .i64 x) := fun i hi => by
    obtain ⟨b, off, rfl, hb, h⟩ := hrd.plain (by omega) (by omega)
    exact ⟨b, off, zs.getD i 0, rfl, hb, h i _ (by simp [List.getD_eq_getElem?_getD, List.getElem?_eq_getElem (show i < zs.length by omega)])⟩
  have Hat := Lib.hid hat
  clear hat hrd hzl
  have hfe := fun (w : World) (a b : Array Value) => run_eql_func_nil (P := Try.prog) w 40 (.func 25) a b Try.underlying40
  refine rng_func Try.func5 rfl ?_
  simp only [Try.ntmps5, List.size_toArray, List.length_cons, List.length_nil, Nat.reduceAdd, Nat.reduceSub, Array.replicate_succ, Array.replicate_zero, List.push_toArray, List.append_toArray, List.nil_append, List.cons_append]
  have a0 := Blk.new w 38 #[.slice A n c]
  have a1 := Blk.new (w.alloc (.cells #[.slice A n c] 38)) 2 #[.int .i64 now]
  have a2 := Blk.new ((w.alloc (.cells #[.slice A n c] 38)).alloc (.cells #[.int .i64 now] 2)) 4 #[.bool false]
  simp only [World.size_alloc] at a1 a2
  have a1 := a1.alloc (.cells #[.bool false] 4)
  have a0 := (a0.alloc (.cells #[.int .i64 now] 2)).alloc (.cells #[.bool false] 4)
  have ka := (((Keep.refl [] w).alloc (.cells #[.slice A n c] 38)).alloc (.cells #[.int .i64 now] 2)).alloc (.cells #[.bool false] 4)
  go_wp2_with (first
    | (go_at_call 8; refine (begun _).mono ?_; rintro e w1 ⟨rfl, hb1⟩)
    | (go_at_call 9; refine (new_ _).mono ?_; rintro e w' ⟨rfl, rfl⟩))
  have hb1 := Keep.of_below hb1
  have k1 : Keep [] w w1 := ka.step hb1 (by simp)
  have sz1 := hb1.size
  simp at sz1
  have b0 := Blk.new w1 51 (encP D6).toArray
  have a0 := (a0.keep hb1 (by simp)).alloc (.cells (encP D6).toArray 51)
  have a1 := (a1.keep hb1 (by simp)).alloc (.cells (encP D6).toArray 51)
  have a2 := (a2.keep hb1 (by simp)).alloc (.cells (encP D6).toArray 51)
  have k2 := k1.alloc (.cells (encP D6).toArray 51)
  clear hb1 ka
  obtain ⟨w2, hw2⟩ : ∃ w2, w2 = w1.alloc (.cells (encP D6).toArray 51) := ⟨_, rfl⟩
  have sz2 : w2.heap.size = w1.heap.size + 1 := by rw [hw2]; simp
  rw [← hw2] at a0 a1 a2 b0 k2
  rw [show ([-1, -1, -1, -1, -1, -1] : List Int) = D6 from rfl, ← hw2]
  clear hw2
  obtain ⟨sb, hsb⟩ : ∃ sb, sb = w1.heap.size := ⟨_, rfl⟩
  rw [← hsb] at b0 sz1 sz2 ⊢
  clear hsb
  go_loopw [7] (fun i wr => ∃ (k : Nat) (D : List Int), i = .int .i64 k ∧ k ≤ n ∧ k ≤ 5 ∧ OkD D ∧ Src w A n D ∧ Blk wr sb 51 (encP D).toArray ∧ Keep [sb] w2 wr) (fun i _ => 5 - (intOf i).toNat)
  case atStart =>
    refine ⟨0, D6, rfl, by omega, by omega, d6_ok, fun j hj => ?_, b0, Keep.refl _ _⟩
    exfalso
    match j, hj with
    | 0, h | 1, h | 2, h | 3, h | 4, h | 5, h => simp [D6] at h
    | k + 6, h => simp [D6] at h
  case round =>
    obtain ⟨k, D, rfl, hkn, hk5, ho, hsrc, bd, kr⟩ := hrel
    have x0 := a0.keep kr (by first | (simp; done) | (simp; omega))
    have x1 := a1.keep kr (by first | (simp; done) | (simp; omega))
    have x2 := a2.keep kr (by first | (simp; done) | (simp; omega))
    have c0 := x0.cell 0
    have c1' := x1.cell 0
    simp at c0 c1'
    have k0 : (0 : Int) ≤ (k : Int) := by omega
    have rest : ∀ (hx : ¬ (k < n ∧ k < 5)), True := fun _ => trivial
    by_cases hlt : k < n
    · by_cases hlt2 : k < 5
      · clear rest
        obtain ⟨b1, o1, x, rfl, hb1, e0⟩ := Hat.out k hlt
        have hsrc2 := Lib.hid (hsrc.arm (c := c) hlt hb1 e0)
        have e0 := (kr.cell (p := ⟨b1, o1 + k, none⟩) (by have := k2.size; simp; omega) (by have := k1.size; simp; omega)).trans ((k2.cell (p := ⟨b1, o1 + k, none⟩) hb1 (by simp)).trans e0)
        have k1' : (k : Int) < (n : Int) := by omega
        have k5' : (k : Int) < 5 := by omega
        go_wp2_with (go_at_call 11; refine (arm_any ho bd ((k : Int) + 1) x).mono ?_; rintro e w5 ⟨rfl, sp5, k5⟩)
        go_roundw
        case rel => exact ⟨k + 1, _, by go_num, by omega, by omega, armD_ok ho _ _, hsrc2.out, sp5, kr.step k5 (by simp)⟩
        case measure => simp [intOf]; omega
      · have hge : ¬ (k : Int) < 5 := by omega
        have k1' : (k : Int) < (n : Int) := by omega
        have szr := kr.size
        have z1a := (x1.alloc (.cells #[.int .i64 (-1)] 2)).alloc (.cells #[.int .i64 0] 3)
        have c1a : ((wr.alloc (.cells #[.int .i64 (-1)] 2)).alloc (.cells #[.int .i64 0] 3)).cell? ⟨w.heap.size + 1, 0, none⟩ = some (.int .i64 now) := by rw [z1a.cell]; rfl
        go_wp2_with (go_at_call 17; refine (due_ _ (some ⟨sb, 0, none⟩) now).mono ?_; rintro e w' ⟨rfl, rfl⟩)
        clear c1a z1a c0 c1' rest a0 a1 a2
        have z0 := (((x0.alloc (.cells #[.int .i64 (-1)] 2)).alloc (.cells #[.int .i64 0] 3)).alloc (.cells #[.pointer (some ⟨sb, 0, none⟩)] 27)).alloc (.cells #[.int .i64 now] 2)
        have z1 := (((x1.alloc (.cells #[.int .i64 (-1)] 2)).alloc (.cells #[.int .i64 0] 3)).alloc (.cells #[.pointer (some ⟨sb, 0, none⟩)] 27)).alloc (.cells #[.int .i64 now] 2)
        have z2 := (((x2.alloc (.cells #[.int .i64 (-1)] 2)).alloc (.cells #[.int .i64 0] 3)).alloc (.cells #[.pointer (some ⟨sb, 0, none⟩)] 27)).alloc (.cells #[.int .i64 now] 2)
        have sp := (((bd.alloc (.cells #[.int .i64 (-1)] 2)).alloc (.cells #[.int .i64 0] 3)).alloc (.cells #[.pointer (some ⟨sb, 0, none⟩)] 27)).alloc (.cells #[.int .i64 now] 2)
        have z8 := (((Blk.new wr 2 #[.int .i64 (-1)]).alloc (.cells #[.int .i64 0] 3)).alloc (.cells #[.pointer (some ⟨sb, 0, none⟩)] 27)).alloc (.cells #[.int .i64 now] 2)
        have z9 := ((Blk.new (wr.alloc (.cells #[.int .i64 (-1)] 2)) 3 #[.int .i64 0]).alloc (.cells #[.pointer (some ⟨sb, 0, none⟩)] 27)).alloc (.cells #[.int .i64 now] 2)
        have zA := (Blk.new ((wr.alloc (.cells #[.int .i64 (-1)] 2)).alloc (.cells #[.int .i64 0] 3)) 27 #[.pointer (some ⟨sb, 0, none⟩)]).alloc (.cells #[.int .i64 now] 2)
        have zB := Blk.new (((wr.alloc (.cells #[.int .i64 (-1)] 2)).alloc (.cells #[.int .i64 0] 3)).alloc (.cells #[.pointer (some ⟨sb, 0, none⟩)] 27)) 2 #[.int .i64 now]
        have KR := (((kr.alloc (.cells #[.int .i64 (-1)] 2)).alloc (.cells #[.int .i64 0] 3)).alloc (.cells #[.pointer (some ⟨sb, 0, none⟩)] 27)).alloc (.cells #[.int .i64 now] 2)
        obtain ⟨S, hS⟩ : ∃ S, S = (((wr.alloc (.cells #[.int .i64 (-1)] 2)).alloc (.cells #[.int .i64 0] 3)).alloc (.cells #[.pointer (some ⟨sb, 0, none⟩)] 27)).alloc (.cells #[.int .i64 now] 2) := ⟨_, rfl⟩
        have szS : wr.heap.size + 1 + 1 + 1 + 1 ≤ S.heap.size := by rw [hS]; simp
        rw [← hS] at z0 z1 z2 z8 z9 zA zB sp KR ⊢
        clear hS
        simp only [World.size_alloc] at z8 z9 zA zB
        obtain ⟨lb, hlb⟩ : ∃ lb, lb = wr.heap.size := ⟨_, rfl⟩
        rw [← hlb] at z8 z9 zA zB szS szr ⊢
        clear hlb x0 x1 x2 bd kr b0
        have ltA : sb < lb := by omega
        refine rng_stmt' (n := 5) (gf := 25) (lb := #[.pointer (some ⟨lb + 1 + 1, 0, none⟩), .pointer (some ⟨lb + 1 + 1 + 1, 0, none⟩)]) (by first | rfl | simp) (enters_of Try.func25 (by kernel_rfl) rfl) ?_
        intro rc hrc W1 hW1
        refine (dueIt (m := 4) (sb := sb) (c1 := lb + 1 + 1) (c2 := lb + 1 + 1 + 1) (now := now) (fun q D sn W => ∃ last kind, Ord D sn last kind ∧ Seen D sn ∧ Src w A n D ∧ Feed W sb (lb + 1 + 1) (lb + 1 + 1 + 1) q now D sn ∧ DO S W w.heap.size sb lb A n c now last kind (.loop (rc .ready none)) ∧ S.heap.size + 1 < q)
          (fun W => False) (fun q D sn W ⟨_, _, _, _, _, h, _⟩ => h) ?round D W1 ?k1 ?start).mono ?fin
        case k1 => rw [hW1]; exact (zA.alloc _).alloc _
        case start =>
          have KW : Keep [] S W1 := by rw [hW1]; exact ((Keep.refl [] S).alloc _).alloc _
          have KW2 := KW.alloc (.cells (noBut.map (Value.bool ·)).toArray 59)
          have r1 : W1.heap[S.heap.size + 1]? = some (.loop (rc .ready none)) := by rw [hW1]; have := heap_alloc_new (S.alloc (.deferred (some []))) (.loop (rc .ready none)); simpa using this
          have r2 : W1.heap[S.heap.size]? = some (.deferred (some [])) := by rw [hW1]; exact (Below.heap_alloc _ _ _ (by simp)).trans (heap_alloc_new S (.deferred (some [])))
          have sz1' : W1.heap.size = S.heap.size + 1 + 1 := by rw [hW1]; simp
          have q0 := Blk.new W1 59 (noBut.map (Value.bool ·)).toArray
          exact ⟨-1, 0, Ord.first, Seen.none_, hsrc, ⟨ho, rfl, sp.keep KW2 (by simp), zA.keep KW2 (by simp), zB.keep KW2 (by simp), q0⟩,
            ⟨z0.keep KW2 (by simp), z1.keep KW2 (by simp), z2.keep KW2 (by simp), z8.keep KW2 (by simp), z9.keep KW2 (by simp),
            ⟨(Below.heap_alloc W1 _ _ (Array.getElem?_eq_some_iff.1 r1).1).trans r1, (Below.heap_alloc W1 _ _ (Array.getElem?_eq_some_iff.1 r2).1).trans r2, KW2.more (by simp)⟩⟩, by omega⟩
        case fin =>
          rintro e W' ⟨⟨vr, rfl⟩, h⟩
          clear hrc hW1
          obtain ⟨q, D1, sn, W2, ⟨last, kind, ord, seen, src1, fd, dj, hq⟩, kW, hno⟩ := h.resolve_right id
          have rs2 := dj.rs.go kW (by simp) (by simp) (by simp)
          refine ⟨_, .ready, none, rfl, by simp, rs2.rc, ?_⟩
          have kp : Keep [S.heap.size + 1] W2 (W'.putObj (S.heap.size + 1) (.loop (rc .exhausted none))) := (kW.more (by simp)).putObj (.inl (by simp)) _
          have rs3 := rs2.put (o' := .loop (rc .exhausted none))
          obtain ⟨W5, hW5⟩ : ∃ W5, W5 = W'.putObj (S.heap.size + 1) (.loop (rc .exhausted none)) := ⟨_, rfl⟩
          rw [← hW5] at kp rs3
          simp only [← hW5]
          clear hW5 rs2
          have sp5 := fd.sp.keep kp (by first | (simp; done) | (simp; omega))
          have v1 := dj.p1.keep kp (by first | (simp; done) | (simp; omega))
          have v2 := dj.p2.keep kp (by first | (simp; done) | (simp; omega))
          have hn := nxt W5 fd.ok sp5
          rw [seen.next] at hn
          have hsome := nextF_some (D := D1) (sn := sn) 5 0 (.inl rfl) (by omega)
          obtain ⟨R0, hR0⟩ : ∃ R0, R0 = nextF D1 sn 5 0 := ⟨_, rfl⟩
          rw [← hR0] at hn hno hsome
          have hxx : R0 ≠ 0 → now < atF D1 R0 := fun hz => by
            unfold atF
            rw [if_neg (by omega)]
            omega
          obtain ⟨x, hx⟩ : ∃ x, x = atF D1 R0 := ⟨_, rfl⟩
          rw [← hx] at hn hxx
          clear hR0 hx hno hsome ord seen src1
          have KF := rs3.kp
          have FIN : ∀ w6, Keep [] W5 w6 → Below w.heap.size w ((w6.setCell ⟨w.heap.size + 1 + 1, 0, none⟩ (.bool true)).putObj S.heap.size (.deferred none)) := fun w6 g6 =>
            (((((k2.step KR (by first | (simp; done) | (simp; omega))).step KF (by first | (simp; done) | (simp; omega))).step g6 (by simp)).setCell (p := ⟨w.heap.size + 1 + 1, 0, none⟩) (.inr (by simp; omega)) _).putObj (l := S.heap.size) (.inr (by omega)) _).below (Nat.le_refl _) (by simp)
          have HF := Lib.hid FIN
          clear FIN
          by_cases hz : R0 = 0
          · have ht : decide (0 < (R0 : Int)) = false := by simp; omega
            rw [ht] at hn
            clear ht hz hxx
            go_wp2_with (go_at_call 18; refine hn.mono ?_; rintro e w6 ⟨rfl, g6, -⟩; have g6 := Keep.of_below g6; have d2 := (v2.keep g6 (by simp)).frozen 0; have d2c := (v2.keep g6 (by simp)).cell 0; simp at d2c)
            have rs6 := rs3.go g6 (by simp) (by simp) (by simp)
            have t6 := (v2.keep g6 (by simp)).set_ 0 (.bool true)
            have kD : Keep [S.heap.size] (w6.setCell ⟨w.heap.size + 1 + 1, 0, none⟩ (.bool true)) ((w6.setCell ⟨w.heap.size + 1 + 1, 0, none⟩ (.bool true)).putObj S.heap.size (.deferred none)) := (Keep.refl _ _).putObj (.inl (by simp)) _
            have hc := (t6.keep kD (by first | (simp; done) | (simp; omega))).cell 0
            simp at hc
            have df7 := ((Keep.refl [w.heap.size + 1 + 1] w6).setCell (p := ⟨w.heap.size + 1 + 1, 0, none⟩) (.inl (by simp)) (.bool true)).heap rs6.df (by first | (simp; done) | (simp; omega))
            refine ⟨by simp, .inl ⟨_, _, rfl, run_takeDeferred df7, ?_⟩⟩
            exact ⟨.bool true, by simp [results, Try.results5, go_sem, hc], rfl, HF.out w6 g6⟩
          · have ht : decide (0 < (R0 : Int)) = true := by simp; omega
            rw [ht] at hn
            have hlt9 := hxx hz
            clear ht hz hxx
            go_wp2_with (go_at_call 18; refine hn.mono ?_; rintro e w6 ⟨rfl, g6, -⟩; have g6 := Keep.of_below g6; have v1c := (v1.keep g6 (by simp)).cell 0; have d2 := (v2.keep g6 (by simp)).frozen 0; have d2c := (v2.keep g6 (by simp)).cell 0; simp at d2c v1c)
            have rs6 := rs3.go g6 (by simp) (by simp) (by simp)
            have t6 := (v2.keep g6 (by simp)).set_ 0 (.bool true)
            have kD : Keep [S.heap.size] (w6.setCell ⟨w.heap.size + 1 + 1, 0, none⟩ (.bool true)) ((w6.setCell ⟨w.heap.size + 1 + 1, 0, none⟩ (.bool true)).putObj S.heap.size (.deferred none)) := (Keep.refl _ _).putObj (.inl (by simp)) _
            have hc := (t6.keep kD (by first | (simp; done) | (simp; omega))).cell 0
            simp at hc
            have df7 := ((Keep.refl [w.heap.size + 1 + 1] w6).setCell (p := ⟨w.heap.size + 1 + 1, 0, none⟩) (.inl (by simp)) (.bool true)).heap rs6.df (by first | (simp; done) | (simp; omega))
            refine ⟨by simp, .inl ⟨_, _, rfl, run_takeDeferred df7, ?_⟩⟩
            exact ⟨.bool true, by simp [results, Try.results5, go_sem, hc], rfl, HF.out w6 g6⟩
        case round =>
          rintro q D sn W R ⟨last, kind, ord, seen, src1, fd, dj, hq⟩ hR h1' h5 h0 hle hsR W2 kW2 fd2
          have ordS := Lib.hid (Ord.step hR)
          have seenS := Lib.hid (seen.step (R := R) (by rw [fd.ok.len]; omega))
          have srcS := Lib.hid (src1.set_ (R := R))
          have ord1 := ord R h1' h5 h0 hsR
          obtain ⟨_, hRn, b1, o1, rfl, hb1, e0⟩ := src1 R h0
          clear hR ord seen src1 hsR
          have szW := dj.rs.kp.size
          have szW2 := kW2.size
          have e0 := (kW2.cell (p := ⟨b1, o1 + (R - 1), none⟩) (by first | (simp; done) | (simp; omega)) (by first | (simp; done) | (simp; omega))).trans ((dj.rs.kp.cell (p := ⟨b1, o1 + (R - 1), none⟩) (by first | (simp; done) | (simp; omega)) (by first | (simp; done) | (simp; omega))).trans ((KR.cell (p := ⟨b1, o1 + (R - 1), none⟩) (by first | (simp; done) | (simp; omega)) (by first | (simp; done) | (simp; omega))).trans ((k2.cell (p := ⟨b1, o1 + (R - 1), none⟩) hb1 (by simp)).trans e0)))
          obtain ⟨r, rfl⟩ : ∃ r, R = r + 1 := ⟨R - 1, by omega⟩
          rw [show r + 1 - 1 = r by omega] at e0
          have rs2 := dj.rs.go kW2 (by first | (simp; done) | (simp; omega)) (by first | (simp; done) | (simp; omega)) (by first | (simp; done) | (simp; omega))
          refine rng_round' hrc rs2.rc rfl ?_
          clear hrc hW1
          rw [show ((r + 1 : Nat) : Int) = (r : Int) + 1 by omega]
          have rs3 := rs2.put (o' := .loop (rc .busy none))
          have kB : Keep [sb, q, S.heap.size + 1] W (W2.putObj (S.heap.size + 1) (.loop (rc .busy none))) := (kW2.more (by first | (simp; done) | (simp; omega))).putObj (.inl (by simp)) _
          have kp : Keep [S.heap.size + 1] W2 (W2.putObj (S.heap.size + 1) (.loop (rc .busy none))) := (Keep.refl _ W2).putObj (.inl (by simp)) _
          have hL2 := rs2.rc
          obtain ⟨W3, hW3⟩ : ∃ W3, W3 = W2.putObj (S.heap.size + 1) (.loop (rc .busy none)) := ⟨_, rfl⟩
          rw [← hW3] at rs3 kB kp
          have fd3 := fd2.keep kp (by first | (simp; done) | (simp; omega)) (by first | (simp; done) | (simp; omega)) (by first | (simp; done) | (simp; omega)) (by first | (simp; done) | (simp; omega))
          have e0 := (kp.cell (p := ⟨b1, o1 + r, none⟩) (by first | (simp; done) | (simp; omega)) (by first | (simp; done) | (simp; omega))).trans e0
          have u0 := dj.p0.keep kB (by first | (simp; done) | (simp; omega))
          have u1 := dj.p1.keep kB (by first | (simp; done) | (simp; omega))
          have u2 := dj.p2.keep kB (by first | (simp; done) | (simp; omega))
          have u8 := dj.p8.keep kB (by first | (simp; done) | (simp; omega))
          have u9 := dj.p9.keep kB (by first | (simp; done) | (simp; omega))
          have hsq : sb ≠ q := fd2.sp.ne_ fd2.sq (by decide)
          obtain ⟨dr, hdr⟩ : ∃ dr, dr = D.getD (r + 1) (-1) := ⟨_, rfl⟩
          rw [← hdr] at e0 h0 hle ord1 ordS ⊢
          clear hdr kW2 fd2 fd dj rs2 kp
          have y0 := u0.cell 0
          have y1 := u1.cell 0
          have y8 := u8.cell 0
          have y9 := u9.cell 0
          have f8 := u8.frozen 0
          have f9 := u9.frozen 0
          simp at y0 y1 y8 y9
          have r0 : (0 : Int) ≤ (r : Int) := by omega
          have r5 : (r : Int) ≤ 4 := by omega
          have rn : (r : Int) < (n : Int) := by omega
          have v8 := (u8.set_ 0 (.int .i64 dr)).far (p := ⟨lb + 1, 0, none⟩) (by simp) (.int .i64 ((r : Int) + 1))
          have v9 := (u9.far (p := ⟨lb, 0, none⟩) (by simp) (.int .i64 dr)).set_ 0 (.int .i64 ((r : Int) + 1))
          have f9' := (u9.far (p := ⟨lb, 0, none⟩) (by simp) (.int .i64 dr)).frozen 0
          have k4 : Keep [lb, lb + 1] W3 ((W3.setCell ⟨lb, 0, none⟩ (.int .i64 dr)).setCell ⟨lb + 1, 0, none⟩ (.int .i64 ((r : Int) + 1))) := ((Keep.refl _ W3).setCell (p := ⟨lb, 0, none⟩) (.inl (by simp)) _).setCell (p := ⟨lb + 1, 0, none⟩) (.inl (by simp)) _
          obtain ⟨W4, hW4⟩ : ∃ W4, W4 = (W3.setCell ⟨lb, 0, none⟩ (.int .i64 dr)).setCell ⟨lb + 1, 0, none⟩ (.int .i64 ((r : Int) + 1)) := ⟨_, rfl⟩
          rw [← hW4] at v8 v9 k4
          have HW4 := Lib.hid hW4
          clear hW4
          have fd4 := fd3.keep k4 (by first | (simp; done) | (simp; omega)) (by first | (simp; done) | (simp; omega)) (by first | (simp; done) | (simp; omega)) (by first | (simp; done) | (simp; omega))
          have w0 := u0.keep k4 (by first | (simp; done) | (simp; omega))
          have w1' := u1.keep k4 (by first | (simp; done) | (simp; omega))
          have w2' := u2.keep k4 (by first | (simp; done) | (simp; omega))
          have rs4 := rs3.go k4 (by first | (simp; done) | (simp; omega)) (by first | (simp; done) | (simp; omega)) (by first | (simp; done) | (simp; omega))
          have rs5 := rs4.put (o' := .loop (rc .ready none))
          have kz : Keep [S.heap.size + 1] W4 (W4.putObj (S.heap.size + 1) (.loop (rc .ready none))) := (Keep.refl _ _).putObj (.inl (by simp)) _
          have DJ5 : Hid (DO S (W4.putObj (S.heap.size + 1) (.loop (rc .ready none))) w.heap.size sb lb (some ⟨b1, o1, none⟩) n c now dr ((r : Int) + 1) (.loop (rc .ready none))) := Lib.hid ⟨w0.keep kz (by first | (simp; done) | (simp; omega)), w1'.keep kz (by first | (simp; done) | (simp; omega)), w2'.keep kz (by first | (simp; done) | (simp; omega)), v8.keep kz (by first | (simp; done) | (simp; omega)), v9.keep kz (by first | (simp; done) | (simp; omega)), rs5⟩
          have FD5 := Lib.hid (fd4.keep kz (by first | (simp; done) | (simp; omega)) (by first | (simp; done) | (simp; omega)) (by first | (simp; done) | (simp; omega)) (by first | (simp; done) | (simp; omega)))
          have HQ := Lib.hid hq
          have HL4 := Lib.hid rs4.rc
          clear w0 w1' w2' rs4 rs5 kz fd4 u0 u1 u2 u8 u9 k4 v8 v9 fd3 kB rs3
          gi_wp2
          refine ⟨hL2, ?_⟩
          rw [← hW3]
          clear hW3 hL2
          rcases ord1 with hlt | ⟨heq, hkd⟩
          · have hne : (dr == last) = false := by simp; omega
            have hnl : ¬ dr < last := by omega
            have hng : ¬ now < dr := by omega
            have hnn : ¬ (n : Int) < (r : Int) + 1 := by omega
            have hn1 : ¬ (r : Int) + 1 < 1 := by omega
            gi_wp2
            rw [← HW4.out]
            exact ⟨HL4.out, _, _, _, ordS.out, seenS.out, srcS.out, FD5.out, DJ5.out⟩
          · subst heq
            have hnk : ¬ (r : Int) + 1 ≤ kind := by omega
            have hng : ¬ now < last := by omega
            have hnn : ¬ (n : Int) < (r : Int) + 1 := by omega
            have hn1 : ¬ (r : Int) + 1 < 1 := by omega
            gi_wp2
            rw [← HW4.out]
            exact ⟨HL4.out, _, _, _, ordS.out, seenS.out, srcS.out, FD5.out, DJ5.out⟩
    · have hge : ¬ (k : Int) < (n : Int) := by omega
      have szr := kr.size
      have z1a := (x1.alloc (.cells #[.int .i64 (-1)] 2)).alloc (.cells #[.int .i64 0] 3)
      have c1a : ((wr.alloc (.cells #[.int .i64 (-1)] 2)).alloc (.cells #[.int .i64 0] 3)).cell? ⟨w.heap.size + 1, 0, none⟩ = some (.int .i64 now) := by rw [z1a.cell]; rfl
      go_wp2_with (go_at_call 17; refine (due_ _ (some ⟨sb, 0, none⟩) now).mono ?_; rintro e w' ⟨rfl, rfl⟩)
      clear c1a z1a c0 c1' rest a0 a1 a2
      have z0 := (((x0.alloc (.cells #[.int .i64 (-1)] 2)).alloc (.cells #[.int .i64 0] 3)).alloc (.cells #[.pointer (some ⟨sb, 0, none⟩)] 27)).alloc (.cells #[.int .i64 now] 2)
      have z1 := (((x1.alloc (.cells #[.int .i64 (-1)] 2)).alloc (.cells #[.int .i64 0] 3)).alloc (.cells #[.pointer (some ⟨sb, 0, none⟩)] 27)).alloc (.cells #[.int .i64 now] 2)
      have z2 := (((x2.alloc (.cells #[.int .i64 (-1)] 2)).alloc (.cells #[.int .i64 0] 3)).alloc (.cells #[.pointer (some ⟨sb, 0, none⟩)] 27)).alloc (.cells #[.int .i64 now] 2)
      have sp := (((bd.alloc (.cells #[.int .i64 (-1)] 2)).alloc (.cells #[.int .i64 0] 3)).alloc (.cells #[.pointer (some ⟨sb, 0, none⟩)] 27)).alloc (.cells #[.int .i64 now] 2)
      have z8 := (((Blk.new wr 2 #[.int .i64 (-1)]).alloc (.cells #[.int .i64 0] 3)).alloc (.cells #[.pointer (some ⟨sb, 0, none⟩)] 27)).alloc (.cells #[.int .i64 now] 2)
      have z9 := ((Blk.new (wr.alloc (.cells #[.int .i64 (-1)] 2)) 3 #[.int .i64 0]).alloc (.cells #[.pointer (some ⟨sb, 0, none⟩)] 27)).alloc (.cells #[.int .i64 now] 2)
      have zA := (Blk.new ((wr.alloc (.cells #[.int .i64 (-1)] 2)).alloc (.cells #[.int .i64 0] 3)) 27 #[.pointer (some ⟨sb, 0, none⟩)]).alloc (.cells #[.int .i64 now] 2)
      have zB := Blk.new (((wr.alloc (.cells #[.int .i64 (-1)] 2)).alloc (.cells #[.int .i64 0] 3)).alloc (.cells #[.pointer (some ⟨sb, 0, none⟩)] 27)) 2 #[.int .i64 now]
      have KR := (((kr.alloc (.cells #[.int .i64 (-1)] 2)).alloc (.cells #[.int .i64 0] 3)).alloc (.cells #[.pointer (some ⟨sb, 0, none⟩)] 27)).alloc (.cells #[.int .i64 now] 2)
      obtain ⟨S, hS⟩ : ∃ S, S = (((wr.alloc (.cells #[.int .i64 (-1)] 2)).alloc (.cells #[.int .i64 0] 3)).alloc (.cells #[.pointer (some ⟨sb, 0, none⟩)] 27)).alloc (.cells #[.int .i64 now] 2) := ⟨_, rfl⟩
      have szS : wr.heap.size + 1 + 1 + 1 + 1 ≤ S.heap.size := by rw [hS]; simp
      rw [← hS] at z0 z1 z2 z8 z9 zA zB sp KR ⊢
      clear hS
      simp only [World.size_alloc] at z8 z9 zA zB
      obtain ⟨lb, hlb⟩ : ∃ lb, lb = wr.heap.size := ⟨_, rfl⟩
      rw [← hlb] at z8 z9 zA zB szS szr ⊢
      clear hlb x0 x1 x2 bd kr b0
      have ltA : sb < lb := by omega
      refine rng_stmt' (n := 5) (gf := 25) (lb := #[.pointer (some ⟨lb + 1 + 1, 0, none⟩), .pointer (some ⟨lb + 1 + 1 + 1, 0, none⟩)]) (by first | rfl | simp) (enters_of Try.func25 (by kernel_rfl) rfl) ?_
      intro rc hrc W1 hW1
      refine (dueIt (m := 4) (sb := sb) (c1 := lb + 1 + 1) (c2 := lb + 1 + 1 + 1) (now := now) (fun q D sn W => ∃ last kind, Ord D sn last kind ∧ Seen D sn ∧ Src w A n D ∧ Feed W sb (lb + 1 + 1) (lb + 1 + 1 + 1) q now D sn ∧ DO S W w.heap.size sb lb A n c now last kind (.loop (rc .ready none)) ∧ S.heap.size + 1 < q)
        (fun W => False) (fun q D sn W ⟨_, _, _, _, _, h, _⟩ => h) ?round D W1 ?k1 ?start).mono ?fin
      case k1 => rw [hW1]; exact (zA.alloc _).alloc _
      case start =>
        have KW : Keep [] S W1 := by rw [hW1]; exact ((Keep.refl [] S).alloc _).alloc _
        have KW2 := KW.alloc (.cells (noBut.map (Value.bool ·)).toArray 59)
        have r1 : W1.heap[S.heap.size + 1]? = some (.loop (rc .ready none)) := by rw [hW1]; have := heap_alloc_new (S.alloc (.deferred (some []))) (.loop (rc .ready none)); simpa using this
        have r2 : W1.heap[S.heap.size]? = some (.deferred (some [])) := by rw [hW1]; exact (Below.heap_alloc _ _ _ (by simp)).trans (heap_alloc_new S (.deferred (some [])))
        have sz1' : W1.heap.size = S.heap.size + 1 + 1 := by rw [hW1]; simp
        have q0 := Blk.new W1 59 (noBut.map (Value.bool ·)).toArray
        exact ⟨-1, 0, Ord.first, Seen.none_, hsrc, ⟨ho, rfl, sp.keep KW2 (by simp), zA.keep KW2 (by simp), zB.keep KW2 (by simp), q0⟩,
          ⟨z0.keep KW2 (by simp), z1.keep KW2 (by simp), z2.keep KW2 (by simp), z8.keep KW2 (by simp), z9.keep KW2 (by simp),
          ⟨(Below.heap_alloc W1 _ _ (Array.getElem?_eq_some_iff.1 r1).1).trans r1, (Below.heap_alloc W1 _ _ (Array.getElem?_eq_some_iff.1 r2).1).trans r2, KW2.more (by simp)⟩⟩, by omega⟩
      case fin =>
        rintro e W' ⟨⟨vr, rfl⟩, h⟩
        clear hrc hW1
        obtain ⟨q, D1, sn, W2, ⟨last, kind, ord, seen, src1, fd, dj, hq⟩, kW, hno⟩ := h.resolve_right id
        have rs2 := dj.rs.go kW (by simp) (by simp) (by simp)
        refine ⟨_, .ready, none, rfl, by simp, rs2.rc, ?_⟩
        have kp : Keep [S.heap.size + 1] W2 (W'.putObj (S.heap.size + 1) (.loop (rc .exhausted none))) := (kW.more (by simp)).putObj (.inl (by simp)) _
        have rs3 := rs2.put (o' := .loop (rc .exhausted none))
        obtain ⟨W5, hW5⟩ : ∃ W5, W5 = W'.putObj (S.heap.size + 1) (.loop (rc .exhausted none)) := ⟨_, rfl⟩
        rw [← hW5] at kp rs3
        simp only [← hW5]
        clear hW5 rs2
        have sp5 := fd.sp.keep kp (by first | (simp; done) | (simp; omega))
        have v1 := dj.p1.keep kp (by first | (simp; done) | (simp; omega))
        have v2 := dj.p2.keep kp (by first | (simp; done) | (simp; omega))
        have hn := nxt W5 fd.ok sp5
        rw [seen.next] at hn
        have hsome := nextF_some (D := D1) (sn := sn) 5 0 (.inl rfl) (by omega)
        obtain ⟨R0, hR0⟩ : ∃ R0, R0 = nextF D1 sn 5 0 := ⟨_, rfl⟩
        rw [← hR0] at hn hno hsome
        have hxx : R0 ≠ 0 → now < atF D1 R0 := fun hz => by
          unfold atF
          rw [if_neg (by omega)]
          omega
        obtain ⟨x, hx⟩ : ∃ x, x = atF D1 R0 := ⟨_, rfl⟩
        rw [← hx] at hn hxx
        clear hR0 hx hno hsome ord seen src1
        have KF := rs3.kp
        have FIN : ∀ w6, Keep [] W5 w6 → Below w.heap.size w ((w6.setCell ⟨w.heap.size + 1 + 1, 0, none⟩ (.bool true)).putObj S.heap.size (.deferred none)) := fun w6 g6 =>
          (((((k2.step KR (by first | (simp; done) | (simp; omega))).step KF (by first | (simp; done) | (simp; omega))).step g6 (by simp)).setCell (p := ⟨w.heap.size + 1 + 1, 0, none⟩) (.inr (by simp; omega)) _).putObj (l := S.heap.size) (.inr (by omega)) _).below (Nat.le_refl _) (by simp)
        have HF := Lib.hid FIN
        clear FIN
        by_cases hz : R0 = 0
        · have ht : decide (0 < (R0 : Int)) = false := by simp; omega
          rw [ht] at hn
          clear ht hz hxx
          go_wp2_with (go_at_call 18; refine hn.mono ?_; rintro e w6 ⟨rfl, g6, -⟩; have g6 := Keep.of_below g6; have d2 := (v2.keep g6 (by simp)).frozen 0; have d2c := (v2.keep g6 (by simp)).cell 0; simp at d2c)
          have rs6 := rs3.go g6 (by simp) (by simp) (by simp)
          have t6 := (v2.keep g6 (by simp)).set_ 0 (.bool true)
          have kD : Keep [S.heap.size] (w6.setCell ⟨w.heap.size + 1 + 1, 0, none⟩ (.bool true)) ((w6.setCell ⟨w.heap.size + 1 + 1, 0, none⟩ (.bool true)).putObj S.heap.size (.deferred none)) := (Keep.refl _ _).putObj (.inl (by simp)) _
          have hc := (t6.keep kD (by first | (simp; done) | (simp; omega))).cell 0
          simp at hc
          have df7 := ((Keep.refl [w.heap.size + 1 + 1] w6).setCell (p := ⟨w.heap.size + 1 + 1, 0, none⟩) (.inl (by simp)) (.bool true)).heap rs6.df (by first | (simp; done) | (simp; omega))
          refine ⟨by simp, .inl ⟨_, _, rfl, run_takeDeferred df7, ?_⟩⟩
          exact ⟨.bool true, by simp [results, Try.results5, go_sem, hc], rfl, HF.out w6 g6⟩
        · have ht : decide (0 < (R0 : Int)) = true := by simp; omega
          rw [ht] at hn
          have hlt9 := hxx hz
          clear ht hz hxx
          go_wp2_with (go_at_call 18; refine hn.mono ?_; rintro e w6 ⟨rfl, g6, -⟩; have g6 := Keep.of_below g6; have v1c := (v1.keep g6 (by simp)).cell 0; have d2 := (v2.keep g6 (by simp)).frozen 0; have d2c := (v2.keep g6 (by simp)).cell 0; simp at d2c v1c)
          have rs6 := rs3.go g6 (by simp) (by simp) (by simp)
          have t6 := (v2.keep g6 (by simp)).set_ 0 (.bool true)
          have kD : Keep [S.heap.size] (w6.setCell ⟨w.heap.size + 1 + 1, 0, none⟩ (.bool true)) ((w6.setCell ⟨w.heap.size + 1 + 1, 0, none⟩ (.bool true)).putObj S.heap.size (.deferred none)) := (Keep.refl _ _).putObj (.inl (by simp)) _
          have hc := (t6.keep kD (by first | (simp; done) | (simp; omega))).cell 0
          simp at hc
          have df7 := ((Keep.refl [w.heap.size + 1 + 1] w6).setCell (p := ⟨w.heap.size + 1 + 1, 0, none⟩) (.inl (by simp)) (.bool true)).heap rs6.df (by first | (simp; done) | (simp; omega))
          refine ⟨by simp, .inl ⟨_, _, rfl, run_takeDeferred df7, ?_⟩⟩
          exact ⟨.bool true, by simp [results, Try.results5, go_sem, hc], rfl, HF.out w6 g6⟩
      case round =>
        rintro q D sn W R ⟨last, kind, ord, seen, src1, fd, dj, hq⟩ hR h1' h5 h0 hle hsR W2 kW2 fd2
        have ordS := Lib.hid (Ord.step hR)
        have seenS := Lib.hid (seen.step (R := R) (by rw [fd.ok.len]; omega))
        have srcS := Lib.hid (src1.set_ (R := R))
        have ord1 := ord R h1' h5 h0 hsR
        obtain ⟨_, hRn, b1, o1, rfl, hb1, e0⟩ := src1 R h0
        clear hR ord seen src1 hsR
        have szW := dj.rs.kp.size
        have szW2 := kW2.size
        have e0 := (kW2.cell (p := ⟨b1, o1 + (R - 1), none⟩) (by first | (simp; done) | (simp; omega)) (by first | (simp; done) | (simp; omega))).trans ((dj.rs.kp.cell (p := ⟨b1, o1 + (R - 1), none⟩) (by first | (simp; done) | (simp; omega)) (by first | (simp; done) | (simp; omega))).trans ((KR.cell (p := ⟨b1, o1 + (R - 1), none⟩) (by first | (simp; done) | (simp; omega)) (by first | (simp; done) | (simp; omega))).trans ((k2.cell (p := ⟨b1, o1 + (R - 1), none⟩) hb1 (by simp)).trans e0)))
        obtain ⟨r, rfl⟩ : ∃ r, R = r + 1 := ⟨R - 1, by omega⟩
        rw [show r + 1 - 1 = r by omega] at e0
        have rs2 := dj.rs.go kW2 (by first | (simp; done) | (simp; omega)) (by first | (simp; done) | (simp; omega)) (by first | (simp; done) | (simp; omega))
        refine rng_round' hrc rs2.rc rfl ?_
        clear hrc hW1
        rw [show ((r + 1 : Nat) : Int) = (r : Int) + 1 by omega]
        have rs3 := rs2.put (o' := .loop (rc .busy none))
        have kB : Keep [sb, q, S.heap.size + 1] W (W2.putObj (S.heap.size + 1) (.loop (rc .busy none))) := (kW2.more (by first | (simp; done) | (simp; omega))).putObj (.inl (by simp)) _
        have kp : Keep [S.heap.size + 1] W2 (W2.putObj (S.heap.size + 1) (.loop (rc .busy none))) := (Keep.refl _ W2).putObj (.inl (by simp)) _
        have hL2 := rs2.rc
        obtain ⟨W3, hW3⟩ : ∃ W3, W3 = W2.putObj (S.heap.size + 1) (.loop (rc .busy none)) := ⟨_, rfl⟩
        rw [← hW3] at rs3 kB kp
        have fd3 := fd2.keep kp (by first | (simp; done) | (simp; omega)) (by first | (simp; done) | (simp; omega)) (by first | (simp; done) | (simp; omega)) (by first | (simp; done) | (simp; omega))
        have e0 := (kp.cell (p := ⟨b1, o1 + r, none⟩) (by first | (simp; done) | (simp; omega)) (by first | (simp; done) | (simp; omega))).trans e0
        have u0 := dj.p0.keep kB (by first | (simp; done) | (simp; omega))
        have u1 := dj.p1.keep kB (by first | (simp; done) | (simp; omega))
        have u2 := dj.p2.keep kB (by first | (simp; done) | (simp; omega))
        have u8 := dj.p8.keep kB (by first | (simp; done) | (simp; omega))
        have u9 := dj.p9.keep kB (by first | (simp; done) | (simp; omega))
        have hsq : sb ≠ q := fd2.sp.ne_ fd2.sq (by decide)
        obtain ⟨dr, hdr⟩ : ∃ dr, dr = D.getD (r + 1) (-1) := ⟨_, rfl⟩
        rw [← hdr] at e0 h0 hle ord1 ordS ⊢
        clear hdr kW2 fd2 fd dj rs2 kp
        have y0 := u0.cell 0
        have y1 := u1.cell 0
        have y8 := u8.cell 0
        have y9 := u9.cell 0
        have f8 := u8.frozen 0
        have f9 := u9.frozen 0
        simp at y0 y1 y8 y9
        have r0 : (0 : Int) ≤ (r : Int) := by omega
        have r5 : (r : Int) ≤ 4 := by omega
        have rn : (r : Int) < (n : Int) := by omega
        have v8 := (u8.set_ 0 (.int .i64 dr)).far (p := ⟨lb + 1, 0, none⟩) (by simp) (.int .i64 ((r : Int) + 1))
        have v9 := (u9.far (p := ⟨lb, 0, none⟩) (by simp) (.int .i64 dr)).set_ 0 (.int .i64 ((r : Int) + 1))
        have f9' := (u9.far (p := ⟨lb, 0, none⟩) (by simp) (.int .i64 dr)).frozen 0
        have k4 : Keep [lb, lb + 1] W3 ((W3.setCell ⟨lb, 0, none⟩ (.int .i64 dr)).setCell ⟨lb + 1, 0, none⟩ (.int .i64 ((r : Int) + 1))) := ((Keep.refl _ W3).setCell (p := ⟨lb, 0, none⟩) (.inl (by simp)) _).setCell (p := ⟨lb + 1, 0, none⟩) (.inl (by simp)) _
        obtain ⟨W4, hW4⟩ : ∃ W4, W4 = (W3.setCell ⟨lb, 0, none⟩ (.int .i64 dr)).setCell ⟨lb + 1, 0, none⟩ (.int .i64 ((r : Int) + 1)) := ⟨_, rfl⟩
        rw [← hW4] at v8 v9 k4
        have HW4 := Lib.hid hW4
        clear hW4
        have fd4 := fd3.keep k4 (by first | (simp; done) | (simp; omega)) (by first | (simp; done) | (simp; omega)) (by first | (simp; done) | (simp; omega)) (by first | (simp; done) | (simp; omega))
        have w0 := u0.keep k4 (by first | (simp; done) | (simp; omega))
        have w1' := u1.keep k4 (by first | (simp; done) | (simp; omega))
        have w2' := u2.keep k4 (by first | (simp; done) | (simp; omega))
        have rs4 := rs3.go k4 (by first | (simp; done) | (simp; omega)) (by first | (simp; done) | (simp; omega)) (by first | (simp; done) | (simp; omega))
        have rs5 := rs4.put (o' := .loop (rc .ready none))
        have kz : Keep [S.heap.size + 1] W4 (W4.putObj (S.heap.size + 1) (.loop (rc .ready none))) := (Keep.refl _ _).putObj (.inl (by simp)) _
        have DJ5 : Hid (DO S (W4.putObj (S.heap.size + 1) (.loop (rc .ready none))) w.heap.size sb lb (some ⟨b1, o1, none⟩) n c now dr ((r : Int) + 1) (.loop (rc .ready none))) := Lib.hid ⟨w0.keep kz (by first | (simp; done) | (simp; omega)), w1'.keep kz (by first | (simp; done) | (simp; omega)), w2'.keep kz (by first | (simp; done) | (simp; omega)), v8.keep kz (by first | (simp; done) | (simp; omega)), v9.keep kz (by first | (simp; done) | (simp; omega)), rs5⟩
        have FD5 := Lib.hid (fd4.keep kz (by first | (simp; done) | (simp; omega)) (by first | (simp; done) | (simp; omega)) (by first | (simp; done) | (simp; omega)) (by first | (simp; done) | (simp; omega)))
        have HQ := Lib.hid hq
        have HL4 := Lib.hid rs4.rc
        clear w0 w1' w2' rs4 rs5 kz fd4 u0 u1 u2 u8 u9 k4 v8 v9 fd3 kB rs3
        gi_wp2
        refine ⟨hL2, ?_⟩
        rw [← hW3]
        clear hW3 hL2
        rcases ord1 with hlt | ⟨heq, hkd⟩
        · have hne : (dr == last) = false := by simp; omega
          have hnl : ¬ dr < last := by omega
          have hng : ¬ now < dr := by omega
          have hnn : ¬ (n : Int) < (r : Int) + 1 := by omega
          have hn1 : ¬ (r : Int) + 1 < 1 := by omega
          gi_wp2
          rw [← HW4.out]
          exact ⟨HL4.out, _, _, _, ordS.out, seenS.out, srcS.out, FD5.out, DJ5.out⟩
        · subst heq
          have hnk : ¬ (r : Int) + 1 ≤ kind := by omega
          have hng : ¬ now < last := by omega
          have hnn : ¬ (n : Int) < (r : Int) + 1 := by omega
          have hn1 : ¬ (r : Int) + 1 < 1 := by omega
          gi_wp2
          rw [← HW4.out]
          exact ⟨HL4.out, _, _, _, ordS.out, seenS.out, srcS.out, FD5.out, DJ5.out⟩
end Go.Proofs.Ytneomofldjhpjaa
