/- timer: the begun deadlines. -/
import Derived.Test.YtneomofldjhpjaaLaw1
set_option linter.all false
namespace Go.Proofs.Ytneomofldjhpjaa
open Go.ChangeShapes Go.WideShapes Go.ChangeAt Go.RowKit
attribute [local go_sem] setCell_drewN alloc_drewN Oper.semAt_some
def D6 : List Int := [-1, -1, -1, -1, -1, -1]
theorem d6_ok : OkD D6 := ⟨rfl, rfl, fun k => by
  match k with
  | 0 | 1 | 2 | 3 | 4 | 5 => simp [D6]
  | k + 6 => simp [D6]⟩
def DB : List Int := [-1, 5, 5, -1, -1, -1]
def BS (D : List Int) (sn : List Bool) (n : Int) : Prop := (D = DB ∧ sn = noBut ∧ n = 0) ∨ (D = [-1, -1, 5, -1, -1, -1] ∧ sn = [false, true, false, false, false, false] ∧ n = 1) ∨ (D = D6 ∧ sn = [false, true, true, false, false, false] ∧ n = 2)
theorem bs_step {D : List Int} {sn : List Bool} {n : Int} (h : BS D sn n) (h1 : 1 ≤ nextF D sn 5 0) : BS (D.set (nextF D sn 5 0) (-1)) (sn.set (nextF D sn 5 0) true) (n + 1) := by
  rcases h with ⟨rfl, rfl, rfl⟩ | ⟨rfl, rfl, rfl⟩ | ⟨rfl, rfl, rfl⟩
  · exact .inr (.inl ⟨rfl, rfl, rfl⟩)
  · exact .inr (.inr ⟨rfl, rfl, rfl⟩)
  · exact absurd h1 (by decide)
theorem bs_end {D : List Int} {sn : List Bool} {n : Int} (h : BS D sn n) (h1 : nextF D sn 5 0 = 0 ∨ 5 < D.getD (nextF D sn 5 0) (-1)) : D = D6 ∧ n = 2 := by
  rcases h with ⟨rfl, rfl, rfl⟩ | ⟨rfl, rfl, rfl⟩ | ⟨rfl, rfl, rfl⟩
  · exact absurd h1 (by decide)
  · exact absurd h1 (by decide)
  · exact ⟨rfl, rfl⟩
theorem bs_n {D : List Int} {sn : List Bool} {n : Int} (h : BS D sn n) : 0 ≤ n ∧ n ≤ 2 := by
  rcases h with ⟨_, _, rfl⟩ | ⟨_, _, rfl⟩ | ⟨_, _, rfl⟩ <;> omega
/-- what a loop over the iterator keeps of its own: the record, the block for deferred calls, all else that was there -/
structure Rest (S W : World) (gs : List Nat) (rec_ : Obj) : Prop where
  rc : W.heap[S.heap.size + 1]? = some rec_
  df : W.heap[S.heap.size]? = some (.deferred (some []))
  kp : Keep gs S W
theorem Rest.go {S W W' : World} {gs hs : List Nat} {l : Loop} (h : Rest S W gs (.loop l)) (k : Keep hs W W') (h1 : ∀ i ∈ hs, i ∈ gs ∨ S.heap.size ≤ i) (h2 : S.heap.size + 1 ∉ hs) (h3 : S.heap.size ∉ hs) : Rest S W' gs (.loop l) :=
  ⟨k.heap h.rc h2, k.heap h.df h3, h.kp.step k h1⟩
theorem Rest.put {S W : World} {gs : List Nat} {o o' : Obj} (h : Rest S W gs o) : Rest S (W.putObj (S.heap.size + 1) o') gs o' :=
  ⟨put_heap (Array.getElem?_eq_some_iff.1 h.rc).1, (World.putObj_heap_other (by omega)).trans h.df, h.kp.putObj (.inr (by omega)) _⟩
theorem Feed.keep {W W' : World} {sb c1 c2 q : Nat} {now : Int} {D : List Int} {sn : List Bool} {gs : List Nat} (h : Feed W sb c1 c2 q now D sn) (k : Keep gs W W') (h1 : sb ∉ gs) (h2 : c1 ∉ gs) (h3 : c2 ∉ gs) (h4 : q ∉ gs) : Feed W' sb c1 c2 q now D sn :=
  ⟨h.ok, h.len, h.sp.keep k h1, h.k1.keep k h2, h.k2.keep k h3, h.sq.keep k h4⟩
set_option maxRecDepth 100000 in
set_option maxHeartbeats 4000000 in
theorem begun (w : World) : Calls Try.prog 8 #[] w fun e w' => e = .returned (.bool true) ∧ Below w.heap.size w w' := by
  have hfe := fun (w : World) (a b : Array Value) => run_eql_func_nil (P := Try.prog) w 40 (.func 25) a b Try.underlying40
  refine rng_func Try.func8 rfl ?_
  simp only [Try.ntmps8, List.size_toArray, List.length_cons, List.length_nil, Nat.reduceAdd, Nat.reduceSub, Array.replicate_succ, Array.replicate_zero, List.push_toArray, List.append_toArray, List.nil_append, List.cons_append]
  go_wp2_with (go_at_call 9; refine (new_ _).mono ?_; rintro e w' ⟨rfl, rfl⟩)
  have b0 := Blk.new w 51 (encP D6).toArray
  refine (arm_yes _ d6_ok b0 (k := 2) (x := 5) (by omega) (by omega) (by omega) (by omega)).mono ?_
  rintro e w1 ⟨rfl, b1, g1⟩
  have g1 := Keep.of_only g1
  have o1 := d6_ok.set_ (k := 2) (x := 5) (by omega) (by omega)
  go_wp2_with (fail)
  refine (arm_yes _ o1 b1 (k := 1) (x := 5) (by omega) (by omega) (by omega) (by omega)).mono ?_
  rintro e w2 ⟨rfl, b2, g2⟩
  have g2 := Keep.of_only g2
  have o2 : OkD DB := o1.set_ (k := 1) (x := 5) (by omega) (by omega)
  have b2 : Blk w2 w.heap.size 51 (encP DB).toArray := b2
  go_wp2_with (fail)
  refine (nxt _ o2 b2).mono ?_
  rintro e w3 ⟨rfl, g3, -⟩
  have g3 := Keep.of_below g3
  have b3 := b2.keep g3 (by simp)
  simp only [show nextF DB noBut 5 0 = 1 from rfl, show atF DB 1 = 5 from rfl]
  go_wp2_with (go_at_call 17; refine (due_ _ (some ⟨w.heap.size, 0, none⟩) 5).mono ?_; rintro e w' ⟨rfl, rfl⟩)
  have sz3 := g3.size
  have lt3 := b3.lt
  have n0 := Blk.new w3 3 #[.int .i64 0]
  have k1 := Blk.new (w3.alloc (.cells #[.int .i64 0] 3)) 27 #[.pointer (some ⟨w.heap.size, 0, none⟩)]
  have k2 := Blk.new ((w3.alloc (.cells #[.int .i64 0] 3)).alloc (.cells #[.pointer (some ⟨w.heap.size, 0, none⟩)] 27)) 2 #[.int .i64 5]
  simp only [World.size_alloc] at n0 k1 k2
  have K4 := (((Keep.refl [] w3).alloc (.cells #[.int .i64 0] 3)).alloc (.cells #[.pointer (some ⟨w.heap.size, 0, none⟩)] 27)).alloc (.cells #[.int .i64 5] 2)
  have n4 := (n0.alloc (.cells #[.pointer (some ⟨w.heap.size, 0, none⟩)] 27)).alloc (.cells #[.int .i64 5] 2)
  have k14 := k1.alloc (.cells #[.int .i64 5] 2)
  obtain ⟨S, hS⟩ : ∃ S, S = ((w3.alloc (.cells #[.int .i64 0] 3)).alloc (.cells #[.pointer (some ⟨w.heap.size, 0, none⟩)] 27)).alloc (.cells #[.int .i64 5] 2) := ⟨_, rfl⟩
  have szS : w3.heap.size + 1 + 1 + 1 ≤ S.heap.size := by rw [hS]; simp
  rw [← hS] at K4 n4 k14 k2 ⊢
  clear hS
  have b4 := b3.keep K4 (by simp)
  refine rng_stmt' (n := 5) (gf := 25) (lb := #[.pointer (some ⟨w3.heap.size + 1, 0, none⟩), .pointer (some ⟨w3.heap.size + 1 + 1, 0, none⟩)]) (by first | rfl | simp) (enters_of Try.func25 (by kernel_rfl) rfl) ?_
  intro rc hrc W1 hW1
  have hsb : w.heap.size < S.heap.size := b4.lt
  have hnb : w3.heap.size < S.heap.size := n4.lt
  have hsn : w.heap.size ≠ w3.heap.size := b4.ne_ n4 (by decide)
  refine (dueIt (m := 4) (sb := w.heap.size) (c1 := w3.heap.size + 1) (c2 := w3.heap.size + 1 + 1) (now := 5) (fun q D sn W => ∃ n, BS D sn n ∧ Feed W w.heap.size (w3.heap.size + 1) (w3.heap.size + 1 + 1) q 5 D sn ∧ Blk W w3.heap.size 3 #[.int .i64 n] ∧ Rest S W [w.heap.size, w3.heap.size] (.loop (rc .ready none)) ∧ S.heap.size + 1 < q)
    (fun W => False) (fun q D sn W ⟨n, _, h, _⟩ => h) ?round DB W1 ?k1 ?start).mono ?fin
  case k1 =>
    rw [hW1]; exact (k14.alloc _).alloc _
  case start =>
    have KW : Keep [] S W1 := by rw [hW1]; exact ((Keep.refl [] S).alloc _).alloc _
    have KW2 := KW.alloc (.cells (noBut.map (Value.bool ·)).toArray 59)
    have r1 : W1.heap[S.heap.size + 1]? = some (.loop (rc .ready none)) := by rw [hW1]; have := heap_alloc_new (S.alloc (.deferred (some []))) (.loop (rc .ready none)); simpa using this
    have r2 : W1.heap[S.heap.size]? = some (.deferred (some [])) := by rw [hW1]; exact (Below.heap_alloc _ _ _ (by simp)).trans (heap_alloc_new S (.deferred (some [])))
    have sz1 : W1.heap.size = S.heap.size + 1 + 1 := by rw [hW1]; simp
    have q0 := Blk.new W1 59 (noBut.map (Value.bool ·)).toArray
    exact ⟨0, .inl ⟨rfl, rfl, rfl⟩, ⟨o2, rfl, b4.keep KW2 (by simp), k14.keep KW2 (by simp), k2.keep KW2 (by simp), q0⟩, n4.keep KW2 (by simp),
      ⟨(Below.heap_alloc W1 _ _ (Array.getElem?_eq_some_iff.1 r1).1).trans r1, (Below.heap_alloc W1 _ _ (Array.getElem?_eq_some_iff.1 r2).1).trans r2, KW2.more (by simp)⟩, by omega⟩
  case fin =>
    rintro e W' ⟨⟨vr, rfl⟩, h⟩
    obtain ⟨q, D, sn, W, ⟨n, hbs, fd, nb, rs, hq⟩, kW, hno⟩ := h.resolve_right id
    obtain ⟨rfl, rfl⟩ := bs_end hbs hno
    have rs2 := rs.go kW (by simp) (by simp) (by simp)
    have nb2 := nb.keep kW (by simp)
    have sb2 := fd.sp.keep kW (by simp)
    refine ⟨_, .ready, none, rfl, by simp, rs2.rc, ?_⟩
    have rs3 := rs2.put (o' := .loop (rc .exhausted none))
    have kp : Keep [S.heap.size + 1] W' (W'.putObj (S.heap.size + 1) (.loop (rc .exhausted none))) := (Keep.refl _ W').putObj (.inl (by simp)) _
    have nb3 := nb2.keep kp (by simp; omega)
    have sb3 := sb2.keep kp (by simp; omega)
    obtain ⟨W5, hW5⟩ : ∃ W5, W5 = W'.putObj (S.heap.size + 1) (.loop (rc .exhausted none)) := ⟨_, rfl⟩
    simp only [← hW5] at rs3 nb3 sb3 ⊢
    clear hW5 hW1 hrc
    have c0 := nb3.cell 0
    simp at c0
    go_wp2_with (fail)
    refine (stop_yes _ d6_ok sb3 (k := 3) (by omega) (by omega)).mono ?_
    rintro e w6 ⟨rfl, sb6, g6⟩
    have sb6 : Blk w6 w.heap.size 51 (encP D6).toArray := sb6
    have g6 := Keep.of_only g6
    have nb6 := nb3.keep g6 (by simp; omega)
    have rs6 := rs3.go g6 (by simp) (by simp; omega) (by simp; omega)
    go_wp2_with (fail)
    refine (at_yes _ d6_ok sb6 (k := 2) (by omega) (by omega)).mono ?_
    rintro e w7 ⟨rfl, m7, rfl⟩
    simp only [show atF D6 2 = 0 from rfl, show decide (0 ≤ D6.getD 2 (-1)) = false from rfl]
    have c6 := nb6.cell 0
    simp at c6
    go_wp2_with (fail)
    refine ⟨by simp, .inl ⟨_, _, rfl, run_takeDeferred (show (w6.drewN m7).heap[S.heap.size]? = some (.deferred (some [])) from rs6.df), ?_⟩⟩
    refine ⟨_, results_tmp rfl _ _ _, rfl, ?_⟩
    have kS : Keep [w.heap.size, w3.heap.size] S (w6.drewN m7) := rs6.kp.drewN m7
    have kS2 := kS.putObj (l := S.heap.size) (.inr (Nat.le_refl _)) (.deferred none)
    have s1 := g1.size
    have s2 := g2.size
    simp at s1
    have e1 : Keep [] w w3 := ((((Keep.refl [] w).alloc (.cells (encP D6).toArray 51)).step g1 (by simp)).step g2 (by simp)).step g3 (by simp)
    have e2 := e1.step K4 (by simp)
    have e3 := e2.step kS2 (by simp; omega)
    exact e3.below (Nat.le_refl _) (by simp)
  case round =>
    rintro q D sn W R ⟨n, hbs, fd, nb, rs, hq⟩ hR h1 h5 h0 hle hsR W2 kW2 fd2
    subst hR
    have hb2 := bs_step hbs h1
    have hn := bs_n hbs
    have nb2 := nb.keep kW2 (by simp; omega)
    have rs2 := rs.go kW2 (by simp; omega) (by simp; omega) (by simp; omega)
    refine rng_round' hrc rs2.rc rfl ?_
    clear hrc hW1
    have rs3 := rs2.put (o' := .loop (rc .busy none))
    have kp : Keep [S.heap.size + 1] W2 (W2.putObj (S.heap.size + 1) (.loop (rc .busy none))) := (Keep.refl _ W2).putObj (.inl (by simp)) _
    have nb3 := nb2.keep kp (by simp; omega)
    have fd3 := fd2.keep kp (by simp; omega) (by simp; omega) (by simp; omega) (by simp; omega)
    have hL2 := rs2.rc
    obtain ⟨W3, hW3⟩ : ∃ W3, W3 = W2.putObj (S.heap.size + 1) (.loop (rc .busy none)) := ⟨_, rfl⟩
    rw [← hW3] at rs3 nb3 fd3
    gi_wp2
    refine ⟨hL2, ?_⟩
    rw [← hW3]
    clear hW3 rs2 nb2 fd2 kp hL2
    have c3 := nb3.cell 0
    have f3 := nb3.frozen 0
    simp at c3
    have n0' : 0 ≤ n := hn.1
    have n2' : n ≤ 2 := hn.2
    have nb4 := nb3.set_ 0 (.int .i64 (n + 1))
    have k4 : Keep [w3.heap.size] W3 (W3.setCell ⟨w3.heap.size, 0, none⟩ (.int .i64 (n + 1))) := (Keep.refl _ W3).setCell (p := ⟨w3.heap.size, 0, none⟩) (.inl (by simp)) _
    have fd4 := fd3.keep k4 (by simp; omega) (by simp) (by simp; omega) (by simp; omega)
    have rs4 := rs3.go k4 (by simp) (by simp; omega) (by simp; omega)
    have rs5 := rs4.put (o' := .loop (rc .ready none))
    have kp : Keep [S.heap.size + 1] (W3.setCell ⟨w3.heap.size, 0, none⟩ (.int .i64 (n + 1))) ((W3.setCell ⟨w3.heap.size, 0, none⟩ (.int .i64 (n + 1))).putObj (S.heap.size + 1) (.loop (rc .ready none))) := (Keep.refl _ _).putObj (.inl (by simp)) _
    have nb5 := nb4.keep kp (by simp; omega)
    have fd5 := fd4.keep kp (by simp; omega) (by simp; omega) (by simp; omega) (by simp; omega)
    have hL4 := rs4.rc
    gi_wp2
    exact ⟨_, _, hb2, fd5, nb5⟩
end Go.Proofs.Ytneomofldjhpjaa
