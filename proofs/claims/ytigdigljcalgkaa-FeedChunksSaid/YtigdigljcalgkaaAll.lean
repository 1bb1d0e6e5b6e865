/- feed: All's function as a range over a function. -/
import Derived.Test.YtigdigljcalgkaaNext2
set_option linter.all false
namespace Go.Proofs.Ytigdigljcalgkaa
open Go.ChangeShapes Go.WideShapes Go.ChangeAt Go.RowKit Go.Proofs.YtigdigljcalgkaaW.PrintWords
attribute [local go_sem] setCell_drewN alloc_drewN Oper.semAt_some
/-- the blocks of frames from B on stand as they stood -/
def XK (B : Nat) (W W' : World) : Prop := W.heap.size ≤ W'.heap.size ∧ ∀ g cs, B ≤ g → Blk W g 27 cs → Blk W' g 27 cs
theorem XK.of_keep {B : Nat} {gs : List Nat} {W W' : World} (k : Keep gs W W') (h : ∀ g ∈ gs, g < B ∨ ∃ t cs, t ≠ 27 ∧ Blk W g t cs) : XK B W W' :=
  ⟨k.size, fun g cs hg hb => hb.keep k (fun hm => by
    rcases h g hm with h | ⟨t, cs', ht, hb'⟩
    · omega
    · exact hb'.ne_ hb ht rfl)⟩
theorem XK.trans {B : Nat} {a b c : World} (h : XK B a b) (k : XK B b c) : XK B a c := ⟨Nat.le_trans h.1 k.1, fun g cs hg hb => k.2 g cs hg (h.2 g cs hg hb)⟩
theorem XK.of_keep' {B : Nat} {gs : List Nat} {W W' : World} (k : Keep gs W W') (h : ∀ g ∈ gs, g < B ∨ W.heap.size ≤ g ∨ ∃ l, W.heap[g]? = some (.loop l)) : XK B W W' :=
  ⟨k.size, fun g cs hg hb => hb.keep k (fun hm => by
    rcases h g hm with h | h | ⟨l, h⟩
    · omega
    · have := hb.lt; omega
    · exact loop_ne hb h rfl)⟩
def mu4 (N : Nat) (μ : World → Nat) (v : Value) (w : World) : Nat := match v with
  | .bool true => N - μ w + 1
  | _ => 0
set_option maxRecDepth 100000 in
set_option maxHeartbeats 4000000 in
theorem allIt {m l B c1 : Nat} {p : Option Addr} (N : Nat) (μ : World → Nat) (J : Nat → World → Prop) (M : Nat → Int → Int → Int → Value → World → Prop) (D K : World → Prop) (W0 : World) (hB : B ≤ W0.heap.size)
    (hc : ∀ j W, J j W → W.cell? ⟨c1, 0, none⟩ = some (.pointer p))
    (hnext : ∀ j W, J j W → Calls Try.prog 17 #[.pointer p] W fun e W' => ((e = .returned (.tuple #[zeroF, .bool false]) ∧ D W') ∨ (∃ t f s A n c, e = .returned (.tuple #[.agg #[.int .i64 t, .int .i64 f, .int .i64 s, .slice A n c], .bool true]) ∧ M j t f s (.slice A n c) W')) ∧ XK B W W')
    (hyield : ∀ j t f s u W, M j t f s u W → YieldAt Fence.wide m Try.prog l #[.agg #[.int .i64 t, .int .i64 f, .int .i64 s, u]] W fun e W' => XK B W W' ∧ ((e = .returned (.bool true) ∧ J (j + 1) W') ∨ (e = .returned (.bool false) ∧ K W')))
    (hmu : ∀ j t f s u W, M j t f s u W → j < N ∧ μ W = j)
    (hJ : ∀ j W W', J j W → Keep [] W W' → J j W')
    (hM : ∀ j t f s u W W' gs, M j t f s u W → (∀ g ∈ gs, B ≤ g ∧ ∃ cs, Blk W g 27 cs) → Keep gs W W' → M j t f s u W')
    (hD : ∀ W W' gs, D W → (∀ g ∈ gs, B ≤ g ∧ ∃ cs, Blk W g 27 cs) → Keep gs W W' → D W')
    (h0 : J 0 W0) :
    CallsIn Fence.wide (m + 1) Try.prog 20 #[.func (.yield l) #[] #[], .pointer (some ⟨c1, 0, none⟩)] W0 fun e W' => (∃ v, e = .returned v) ∧ (D W' ∨ K W') := by
  have p1 := hc _ _ h0
  have HC := Lib.hid hc
  have HN := Lib.hid hnext
  have HY := Lib.hid hyield
  have HU := Lib.hid hmu
  have HJ := Lib.hid hJ
  have HM := Lib.hid hM
  have HD := Lib.hid hD
  have H0 := Lib.hid h0
  clear hc hnext hyield hmu hJ hM hD h0
  refine callsIn_of_wp Try.func20 rfl trivial ?_ rfl
  simp only [Try.ntmps20, List.size_toArray, List.length_cons, List.length_nil, Nat.reduceAdd, Nat.reduceSub, Array.replicate_succ, Array.replicate_zero, List.push_toArray, List.append_toArray, List.nil_append, List.cons_append]
  gi_wp2
  refine ⟨trivial, (callsIn_wide.2 (HN.out 0 W0 H0.out)).mono ?_⟩
  rintro e w1 ⟨hres, xk1⟩
  have sz1 := xk1.1
  clear p1 H0 xk1
  obtain ⟨t, f, s, A, n, c, ok, he, hx⟩ : ∃ (t f s : Int) (A : Option Addr) (n c : Nat) (ok : Bool), e = .returned (.tuple #[.agg #[.int .i64 t, .int .i64 f, .int .i64 s, .slice A n c], .bool ok]) ∧ Hid ((ok = false ∧ D w1) ∨ ∃ j, ok = true ∧ M j t f s (.slice A n c) w1) := by
    rcases hres with ⟨he, hd⟩ | ⟨t, f, s, A, n, c, he, hm⟩
    · exact ⟨0, 0, 0, none, 0, 0, false, he, Lib.hid (.inl ⟨rfl, hd⟩)⟩
    · exact ⟨t, f, s, A, n, c, true, he, Lib.hid (.inr ⟨_, rfl, hm⟩)⟩
  subst he
  clear hres
  gi_wp2
  have BX := Blk.new w1 27 #[.int .i64 t, .int .i64 f, .int .i64 s, .slice A n c]
  have ka : Keep [] w1 (w1.alloc (.cells #[.int .i64 t, .int .i64 f, .int .i64 s, .slice A n c] 27)) := (Keep.refl [] w1).alloc _
  obtain ⟨xb, hxb⟩ : ∃ xb, xb = w1.heap.size := ⟨_, rfl⟩
  obtain ⟨W, hW⟩ : ∃ W, W = w1.alloc (.cells #[.int .i64 t, .int .i64 f, .int .i64 s, .slice A n c] 27) := ⟨_, rfl⟩
  rw [← hxb, ← hW] at BX ⊢
  rw [← hW] at ka
  have hxB : B ≤ xb := by omega
  have HX : Hid ((ok = false ∧ D W) ∨ ∃ j, ok = true ∧ M j t f s (.slice A n c) W) := Lib.hid (by
    rcases hx.out with ⟨h1, h2⟩ | ⟨j, h1, h2⟩
    · exact .inl ⟨h1, HD.out w1 W [] h2 (by simp) ka⟩
    · exact .inr ⟨j, h1, HM.out _ _ _ _ _ _ _ [] h2 (by simp) ka⟩)
  clear hx hxb hW ka sz1
  gi_loopw [3, 4] (fun v3 v4 wr => ∃ (t f s : Int) (A : Option Addr) (n c : Nat) (ok : Bool) (xb : Nat), v3 = .pointer (some ⟨xb, 0, none⟩) ∧ v4 = .bool ok ∧ B ≤ xb ∧ Blk wr xb 27 #[.int .i64 t, .int .i64 f, .int .i64 s, .slice A n c] ∧ Hid ((ok = false ∧ D wr) ∨ ∃ j, ok = true ∧ M j t f s (.slice A n c) wr)) (fun _ v4 wr => mu4 N μ v4 wr)
  case atStart => exact ⟨t, f, s, A, n, c, ok, xb, rfl, rfl, hxB, BX, HX⟩
  case round =>
    obtain ⟨t, f, s, A, n, c, ok, xb, rfl, rfl, hxB, BX, hx⟩ := hrel
    have x0 := BX.cell 0
    have x1 := BX.cell 1
    have x2 := BX.cell 2
    have x3 := BX.cell 3
    simp at x0 x1 x2 x3
    cases ok with
    | false =>
      have hd : D wr := by
        rcases hx.out with ⟨_, h⟩ | ⟨_, h, _⟩
        · exact h
        · cases h
      clear hx
      gi_wp2
      refine bodyPost_end (results_none rfl _ _ _) rfl ?_
      exact ⟨⟨_, rfl⟩, .inl hd⟩
    | true =>
      obtain ⟨j, hm⟩ : ∃ j, M j t f s (.slice A n c) wr := by
        rcases hx.out with ⟨h, _⟩ | ⟨j, _, h⟩
        · cases h
        · exact ⟨j, h⟩
      obtain ⟨hjN, hmj⟩ := HU.out _ _ _ _ _ _ hm
      have hY := HY.out _ _ _ _ _ _ hm
      obtain ⟨fY, tY, aY, bY, hy, hR⟩ := hY
      have HMJ := Lib.hid hmj
      clear hx hm hmj
      gi_wp2
      refine hR.mono ?_
      rintro e W' ⟨xk, (⟨rfl, hj'⟩ | ⟨rfl, hk'⟩)⟩
      · have BX' := xk.2 xb _ hxB BX
        have sx := xk.1
        have q0 := BX'.cell 0
        have q1 := BX'.cell 1
        have q2 := BX'.cell 2
        have q3 := BX'.cell 3
        simp at q0 q1 q2 q3
        have ka : Keep [] W' (W'.alloc (.cells #[.int .i64 t, .int .i64 f, .int .i64 s, .slice A n c] 27)) := (Keep.refl [] W').alloc _
        have BY := Blk.new W' 27 #[.int .i64 t, .int .i64 f, .int .i64 s, .slice A n c]
        have jA := HJ.out _ _ _ hj' ka
        have pA := HC.out _ _ jA
        have HJA := Lib.hid jA
        have szB := BX.lt
        clear jA BX BX' xk hj' hR hy x0 x1 x2 x3
        gi_wp2
        refine ⟨trivial, (callsIn_wide.2 (HN.out _ _ HJA.out)).mono ?_⟩
        rintro e w2 ⟨hres, xk2⟩
        have hyB : B ≤ W'.heap.size := by omega
        have BZ := xk2.2 _ _ hyB BY
        obtain ⟨t', f', s', A', n', c', ok', he, hx⟩ : ∃ (t' f' s' : Int) (A' : Option Addr) (n' c' : Nat) (ok' : Bool), e = .returned (.tuple #[.agg #[.int .i64 t', .int .i64 f', .int .i64 s', .slice A' n' c'], .bool ok']) ∧ Hid ((ok' = false ∧ D w2) ∨ (ok' = true ∧ M (j + 1) t' f' s' (.slice A' n' c') w2)) := by
          rcases hres with ⟨he, hd⟩ | ⟨t, f, s, A, n, c, he, hm⟩
          · exact ⟨0, 0, 0, none, 0, 0, false, he, Lib.hid (.inl ⟨rfl, hd⟩)⟩
          · exact ⟨t, f, s, A, n, c, true, he, Lib.hid (.inr ⟨rfl, hm⟩)⟩
        subst he
        obtain ⟨yb, hyb⟩ : ∃ yb, yb = W'.heap.size := ⟨_, rfl⟩
        rw [← hyb] at BZ hyB ⊢
        have y0 := BZ.cell 0
        have y1 := BZ.cell 1
        have y2 := BZ.cell 2
        have y3 := BZ.cell 3
        have z0 := BZ.frozen 0
        have z1 := BZ.frozen 1
        have z2 := BZ.frozen 2
        have z3 := BZ.frozen 3
        simp at y0 y1 y2 y3
        have HBZ := Lib.hid BZ
        clear BZ BY hres xk2 pA q0 q1 q2 q3 ka HJA hyb sx
        gi_wp2
        have FB := (((HBZ.out.set_ 0 (.int .i64 t')).set_ 1 (.int .i64 f')).set_ 2 (.int .i64 s')).set_ 3 (.slice A' n' c')
        simp only [List.setIfInBounds_toArray, List.set_cons_zero, List.set_cons_succ] at FB
        have KL := ((((Keep.refl [yb] w2).setCell (p := ⟨yb, 0, none⟩) (.inl (by simp)) (.int .i64 t')).setCell (p := ⟨yb, 1, none⟩) (.inl (by simp)) (.int .i64 f')).setCell (p := ⟨yb, 2, none⟩) (.inl (by simp)) (.int .i64 s')).setCell (p := ⟨yb, 3, none⟩) (.inl (by simp)) (.slice A' n' c')
        have hgs : ∀ g ∈ [yb], B ≤ g ∧ ∃ cs, Blk w2 g 27 cs := fun g hg => by
          obtain rfl : g = yb := by simpa using hg
          exact ⟨hyB, _, HBZ.out⟩
        rcases hx.out with ⟨rfl, hd⟩ | ⟨rfl, hm⟩
        · exact ⟨⟨t', f', s', A', n', c', false, yb, rfl, rfl, hyB, FB, Lib.hid (.inl ⟨rfl, HD.out _ _ _ hd hgs KL⟩)⟩, by simp [mu4]⟩
        · have hm' := HM.out _ _ _ _ _ _ _ _ hm hgs KL
          refine ⟨⟨t', f', s', A', n', c', true, yb, rfl, rfl, hyB, FB, Lib.hid (.inr ⟨_, rfl, hm'⟩)⟩, ?_⟩
          have h1 := HU.out _ _ _ _ _ _ hm'
          have h2 := HMJ.out
          simp only [mu4]
          omega
      · gi_wp2
        refine bodyPost_ret (results_none rfl _ _ _) rfl ?_
        exact ⟨⟨_, rfl⟩, .inr hk'⟩
end Go.Proofs.Ytigdigljcalgkaa
