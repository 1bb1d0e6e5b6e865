/- feed: begun. -/
import Derived.Test.YtigdigljcalgkaaFx
set_option linter.all false
namespace Go.Proofs.Ytigdigljcalgkaa
open Go.ChangeShapes Go.WideShapes Go.ChangeAt Go.RowKit Go.Proofs.YtigdigljcalgkaaW.PrintWords
attribute [local go_sem] setCell_drewN alloc_drewN Oper.semAt_some
def b9 : List UInt8 := [0, 0, 1, 0, 1, 0, 0, 0, 1]
def bff : List UInt8 := [255, 255, 255, 0, 0, 0, 0, 0, 0]
theorem hlen9 : hlen b9 = 1 := by decide
theorem hlen9a : hlen (b9 ++ [97]) = 1 := by decide
theorem hlenff : hlen bff = 16777215 := by decide
set_option maxRecDepth 100000 in
set_option maxHeartbeats 4000000 in
theorem begun (w : World) : Calls Try.prog 8 #[] w fun e w' => e = .returned (.bool true) ∧ Below w.heap.size w w' := by
  have hfe := fun (w : World) (a b : Array Value) => run_eql_func_nil (P := Try.prog) w 36 (.func 20) a b Try.underlying36
  refine rng_func Try.func8 rfl ?_
  simp only [Try.ntmps8, List.size_toArray, List.length_cons, List.length_nil, Nat.reduceAdd, Nat.reduceSub, Array.replicate_succ, Array.replicate_zero, List.push_toArray, List.append_toArray, List.nil_append, List.cons_append]
  go_wp2_with (fail)
  have BR := Blk.new w 4 #[.bool false]
  have k0 : Keep [] w (w.alloc (.cells #[.bool false] 4)) := (Keep.refl _ _).alloc _
  obtain ⟨w0, hw0⟩ : ∃ w0, w0 = w.alloc (.cells #[.bool false] 4) := ⟨_, rfl⟩
  have s0 : w0.heap.size = w.heap.size + 1 := by rw [hw0]; simp
  rw [← hw0] at BR k0 ⊢
  clear hw0
  obtain ⟨rb, hrb⟩ : ∃ rb, rb = w.heap.size := ⟨_, rfl⟩
  have HRB := Lib.hid hrb
  rw [← hrb] at BR s0 ⊢
  clear hrb
  refine (new_ _ false 16384 (by omega) (by omega)).mono ?_
  rintro e w1 ⟨rfl, h1, k1, s1⟩
  obtain ⟨fb, hfb⟩ : ∃ fb, fb = w0.heap.size := ⟨_, rfl⟩
  rw [← hfb] at h1 s1 s0 ⊢
  have lt0 : rb < fb := by omega
  have lt1 : fb < w1.heap.size := by omega
  have hX1 : FdX w1 fb fb false 16384 [] 0 := ⟨_, h1⟩
  have BR1 := BR.keep k1 (by simp)
  have K1 := Lib.hid (k0.trans k1)
  clear h1 k1 BR k0 s0 s1 hfb
  go_wp2_with (fail)
  have kA : Keep [] w1 (w1.alloc (.cells #[.int .u8 0, .int .u8 0, .int .u8 1, .int .u8 0, .int .u8 1, .int .u8 0, .int .u8 0, .int .u8 0, .int .u8 1] 5)) := (Keep.refl _ _).alloc _
  have rd1 : Reads (w1.alloc (.cells #[.int .u8 0, .int .u8 0, .int .u8 1, .int .u8 0, .int .u8 1, .int .u8 0, .int .u8 0, .int .u8 0, .int .u8 1] 5)) (w1.heap.size + 1) 1 (some ⟨w1.heap.size, 0, none⟩) 9 (encB b9) := reads_w _ _ _ _ rfl rfl
  refine (putX (hX1.alloc _) (by simp; omega) rd1 (by simp)).mono ?_
  rintro e w2 ⟨rfl, hX2, gs, k2, hg⟩
  rw [List.nil_append] at hX2
  have K2 : Hid (Keep [] w w2) := Lib.hid ((K1.out.trans kA).step k2 (fun g hm => by have := HRB.out; have := hg.ge (Nat.le_refl _) g hm; right; omega))
  have BR2 := (BR1.keep kA (by simp)).keep k2 (hg.blk (BR1.keep kA (by simp)) (by decide) (by omega))
  have sz2 := k2.size
  simp at sz2
  have lt2 : fb < w2.heap.size := by omega
  clear kA rd1 k2 hg gs hX1 BR1 K1 sz2 lt1
  go_wp2_with (fail)
  refine (nextX hX2 (by simp) (by decide) b9 rfl).mono ?_
  rintro e w3 ⟨hn, k3⟩
  obtain ⟨rfl, hX3⟩ : e = .returned (.tuple #[zeroF, .bool false]) ∧ FdX w3 fb fb false 16384 b9 0 := by
    rcases hn with ⟨h1, _, h3⟩ | ⟨_, _, h3, _⟩ | ⟨h1, _⟩
    · exact ⟨h1, h3⟩
    · rw [hlen9] at h3; omega
    · rw [hlen9] at h1; exact absurd h1 (by decide)
  have K3 : Hid (Keep [] w w3) := Lib.hid (K2.out.step k3 (by have := HRB.out; simp; omega))
  have BR3 := BR2.keep k3 (by simp; omega)
  have lt3 : fb < w3.heap.size := hX3.lt
  clear hn k3 hX2 BR2 K2 lt2
  unfold zeroF
  go_wp2_with (fail)
  have kA : Keep [] w3 ((w3.alloc (.cells #[.int .i64 0, .int .i64 0, .int .i64 0, .slice none 0 0] 27)).alloc (.cells #[.int .u8 97] 5)) := ((Keep.refl _ _).alloc _).alloc _
  have rd1 : Reads ((w3.alloc (.cells #[.int .i64 0, .int .i64 0, .int .i64 0, .slice none 0 0] 27)).alloc (.cells #[.int .u8 97] 5)) ((w3.alloc (.cells #[.int .i64 0, .int .i64 0, .int .i64 0, .slice none 0 0] 27)).heap.size + 1) 1 (some ⟨(w3.alloc (.cells #[.int .i64 0, .int .i64 0, .int .i64 0, .slice none 0 0] 27)).heap.size, 0, none⟩) 1 (encB [97]) := reads_w _ _ _ _ rfl rfl
  simp only [World.size_alloc] at rd1
  refine (putX ((hX3.alloc _).alloc _) (by simp; omega) rd1 (by decide)).mono ?_
  rintro e w4 ⟨rfl, hX4, gs, k4, hg⟩
  have K4 : Hid (Keep [] w w4) := Lib.hid ((K3.out.trans kA).step k4 (fun g hm => by have := HRB.out; have := hg.ge (Nat.le_refl _) g hm; right; omega))
  have BR4 := (BR3.keep kA (by simp)).keep k4 (hg.blk (BR3.keep kA (by simp)) (by decide) (by omega))
  have lt4 : fb < w4.heap.size := hX4.lt
  clear kA rd1 k4 hg gs hX3 BR3 K3 lt3
  go_wp2_with (fail)
  refine (heldX hX4).mono ?_
  rintro e w4' ⟨rfl, rfl⟩
  have el : (b9 ++ [97]).length = 10 := rfl
  rw [el]
  go_wp2_with (fail)
  have BK := Blk.new w4 3 #[.int .i64 0]
  have kA : Keep [] w4 (w4.alloc (.cells #[.int .i64 0] 3)) := (Keep.refl _ _).alloc _
  refine (all_ _ _).mono ?_
  rintro e w5 ⟨rfl, rfl⟩
  have BC := Blk.new (w4.alloc (.cells #[.int .i64 0] 3)) 31 #[.pointer (some ⟨fb, 0, none⟩)]
  simp only [World.size_alloc] at BC
  have BK5 := BK.alloc (.cells #[.pointer (some ⟨fb, 0, none⟩)] 31)
  have hX5 := (hX4.alloc (.cells #[.int .i64 0] 3)).alloc (.cells #[.pointer (some ⟨fb, 0, none⟩)] 31)
  have BR5 := (BR4.alloc (.cells #[.int .i64 0] 3)).alloc (.cells #[.pointer (some ⟨fb, 0, none⟩)] 31)
  have k5 := kA.alloc (.cells #[.pointer (some ⟨fb, 0, none⟩)] 31)
  obtain ⟨S, hS⟩ : ∃ S, S = (w4.alloc (.cells #[.int .i64 0] 3)).alloc (.cells #[.pointer (some ⟨fb, 0, none⟩)] 31) := ⟨_, rfl⟩
  have szS : w4.heap.size + 2 ≤ S.heap.size := by rw [hS]; simp
  rw [← hS] at BC BK5 hX5 BR5 k5 ⊢
  clear hS
  have K5 := Lib.hid (K4.out.trans k5)
  clear BK kA hX4 BR4 K4 k5
  go_wp2_with (fail)
  obtain ⟨kb, hkb⟩ : ∃ kb, kb = w4.heap.size := ⟨_, rfl⟩
  rw [← hkb] at BC BK5 szS lt4 ⊢
  clear hkb el
  refine rng_stmt' (n := 5) (gf := 20) (lb := #[.pointer (some ⟨kb + 1, 0, none⟩)]) (by first | rfl | simp) (enters_of Try.func20 (by kernel_rfl) rfl) ?_
  intro rc hrc W1 hW1
  have szW1 : S.heap.size ≤ W1.heap.size := by rw [hW1]; simp; omega
  refine (allIt (m := 4) (B := S.heap.size) (c1 := kb + 1) (p := some ⟨fb, 0, none⟩) 1 (fun _ => 0)
    (fun j W => j ≤ 1 ∧ FdX W fb fb false 16384 (if j = 0 then b9 ++ [97] else []) 0 ∧ Blk W kb 3 #[.int .i64 (j : Nat)] ∧ Rest S W [kb, fb] (.loop (rc .ready none)))
    (fun j t f s u W => j = 0 ∧ t = 0 ∧ f = 1 ∧ s = 1 ∧ (∃ A c, u = .slice A 1 c ∧ Row1 W fb 5 (.slice A 1 c) (encB [97])) ∧ FdX W fb fb false 16384 [] 0 ∧ Blk W kb 3 #[.int .i64 0] ∧ Rest S W [kb, fb] (.loop (rc .ready none)))
    (fun W => FdX W fb fb false 16384 [] 0 ∧ Blk W kb 3 #[.int .i64 1] ∧ Rest S W [kb, fb] (.loop (rc .ready none)))
    (fun _ => False) W1 szW1 ?hc ?hnext ?hyield ?hmu ?hJ ?hM ?hD ?start).mono ?fin
  case hc =>
    rintro j W ⟨_, _, _, hr⟩
    have := (BC.keep hr.kp (by simp; omega)).cell 0
    simpa using this
  case hnext =>
    rintro j W ⟨hj, hX, hk, hr⟩
    refine (nextX hX (by simp) (by split <;> decide) _ rfl).mono ?_
    rintro e W' ⟨hn, k⟩
    refine ⟨?_, XK.fb hX k⟩
    have hk' := hk.keep k (by simp; omega)
    have hr' := hr.go k (by simp) (by have := szS; have := lt4; simp; omega) (by have := szS; have := lt4; simp; omega)
    have e1 : ∀ (q : List UInt8), (if false = true then List.drop 24 q else q) = q := fun q => rfl
    rw [e1] at hn
    by_cases h0 : j = 0
    · subst h0
      right
      rw [if_pos rfl] at hn
      rcases hn with ⟨_, h1, _⟩ | ⟨_, _, h1, _⟩ | ⟨_, _, A, c, he, hrow, hX'⟩
      · exact absurd h1 (by rw [hlen9a]; decide)
      · exact absurd h1 (by rw [hlen9a]; decide)
      · rw [hlen9a] at he hrow hX'
        refine ⟨_, _, _, A, 1, c, he, rfl, rfl, rfl, rfl, ⟨A, c, rfl, ?_⟩, ?_, by simpa using hk', hr'⟩
        · exact Row1.lower hrow (by have := hr.kp.size; omega)
        · exact hX'
    · left
      obtain rfl : j = 1 := by omega
      rw [if_neg (by decide)] at hn
      rcases hn with ⟨he, _, hX'⟩ | ⟨_, h1, _⟩ | ⟨h1, _⟩
      · exact ⟨he, hX', by simpa using hk', hr'⟩
      · exact absurd h1 (by decide)
      · exact absurd h1 (by simp)
  case hmu =>
    rintro j t f s u W ⟨rfl, _⟩
    exact ⟨by omega, rfl⟩
  case hJ =>
    rintro j W W' ⟨hj, hX, hk, hr⟩ k
    exact ⟨hj, hX.keep k (by simp), hk.keep k (by simp), hr.go k (by simp) (by simp) (by simp)⟩
  case hM =>
    rintro j t f s u W W' gs ⟨h0, h1, h2, h3, ⟨A, c, h4, h5⟩, hX, hk, hr⟩ hf k
    exact ⟨h0, h1, h2, h3, ⟨A, c, h4, h5.frames hf k⟩, hX.frames hf k, hk.frames (by decide) hf k, hr.frames hf k⟩
  case hD =>
    rintro W W' gs ⟨hX, hk, hr⟩ hf k
    exact ⟨hX.frames hf k, hk.frames (by decide) hf k, hr.frames hf k⟩
  case start =>
    have KB : Keep [] S W1 := by rw [hW1]; exact ((Keep.refl [] S).alloc _).alloc _
    have q1 : W1.heap[S.heap.size + 1]? = some (.loop (rc .ready none)) := by rw [hW1]; have := heap_alloc_new (S.alloc (.deferred (some []))) (.loop (rc .ready none)); simpa using this
    have q2 : W1.heap[S.heap.size]? = some (.deferred (some [])) := by rw [hW1]; exact (Below.heap_alloc _ _ _ (by simp)).trans (heap_alloc_new S (.deferred (some [])))
    exact ⟨by omega, hX5.keep KB (by simp), BK5.keep KB (by simp), ⟨q1, q2, KB.more (by simp)⟩⟩
  case hyield =>
    rintro j t f s u W ⟨rfl, rfl, rfl, rfl, ⟨A, c, rfl, hrow⟩, hX, hk, hr⟩
    have hszr : S.heap.size + 1 < W.heap.size := (Array.getElem?_eq_some_iff.1 hr.rc).1
    refine rng_round' hrc hr.rc rfl ?_
    clear hrc hW1 BC BK5 hX5 BR5 hfe K5 szW1
    have kA : Keep [] W (W.alloc (.cells #[.int .i64 0, .int .i64 1, .int .i64 1, .slice A 1 c] 27)) := (Keep.refl _ _).alloc _
    have BT := Blk.new W 27 #[.int .i64 0, .int .i64 1, .int .i64 1, .slice A 1 c]
    have hkA := hk.keep kA (by simp)
    have hrA := hr.go kA (by simp) (by simp) (by simp)
    have hXA := hX.alloc (.cells #[.int .i64 0, .int .i64 1, .int .i64 1, .slice A 1 c] 27)
    have hwA := hrow.keep kA (by simp)
    have L1 := Lib.hid hrA.rc
    gi_wp2
    refine ⟨L1.out, ?_⟩
    obtain ⟨WA, hWA⟩ : ∃ WA, WA = W.alloc (.cells #[.int .i64 0, .int .i64 1, .int .i64 1, .slice A 1 c] 27) := ⟨_, rfl⟩
    rw [← hWA] at BT hkA hrA hXA hwA kA ⊢
    clear hWA L1
    obtain ⟨tb, htb⟩ : ∃ tb, tb = W.heap.size := ⟨_, rfl⟩
    rw [← htb] at BT hszr ⊢
    have kp : Keep [S.heap.size + 1] WA (WA.putObj (S.heap.size + 1) (.loop (rc .busy none))) := (Keep.refl _ WA).putObj (.inl (by simp)) _
    have hk3 := hkA.keep kp (by simp; omega)
    have hr3 := hrA.put (o' := .loop (rc .busy none))
    have hX3 := FdX.loop hXA (o := .loop (rc .busy none)) hrA.rc
    have BT3 := BT.keep kp (by simp; omega)
    have hw3 := hwA.keep kp (fun g hg => by simp; rintro rfl; exact row_obj hwA hrA.rc hg)
    have k3 := (kA.more (hs := [S.heap.size + 1]) (by simp)).trans kp
    obtain ⟨W3, hW3⟩ : ∃ W3, W3 = WA.putObj (S.heap.size + 1) (.loop (rc .busy none)) := ⟨_, rfl⟩
    rw [← hW3] at hk3 hr3 hX3 BT3 hw3 k3 ⊢
    clear hW3 kp hkA hrA hXA hwA BT hX hk hrow kA
    have kk0 := hk3.cell 0
    have kf0 := hk3.frozen 0
    have t1 := BT3.cell 1
    have t2 := BT3.cell 2
    have t3 := BT3.cell 3
    simp at kk0 t1 t2 t3
    have hk4 : Blk (W3.setCell ⟨kb, 0, none⟩ (.int .i64 1)) kb 3 #[.int .i64 1] := hk3.set_ 0 _
    have k4 : Keep [kb] W3 (W3.setCell ⟨kb, 0, none⟩ (.int .i64 1)) := (Keep.refl _ W3).setCell (p := ⟨kb, 0, none⟩) (.inl (by simp)) _
    have hr4 := hr3.go k4 (by simp) (by simp; omega) (by simp; omega)
    have hX4 := hX3.keep k4 (fun g hg => by
      obtain rfl : g = kb := by simpa using hg
      exact .inr (.inr ⟨_, hk3, fun _ _ => ⟨(by intro h; injection h with _ h; exact absurd h (by decide)), (by intro h; injection h with _ h; exact absurd h (by decide))⟩⟩))
    have hw4 := hw3.keep k4 (fun g hg => by simp; exact row_ne hw3 hk3 (by decide) g hg)
    have hrd4 := hw4.reads
    obtain ⟨A', c', he, _, _, hrd⟩ := hrd4
    injection he with he1 he2 he3
    subst he1 he3
    have hst := str_of (c := c) (src := 25) (dst := 9) Try.underlying25 Try.underlying5 Try.underlying9 hrd
    rw [show (encB [97]).length = 1 from rfl] at hst
    have KW := (k3.more (hs := [S.heap.size + 1, kb]) (by simp)).trans (k4.more (hs := [S.heap.size + 1, kb]) (by simp))
    have kz : Keep [S.heap.size + 1] (W3.setCell ⟨kb, 0, none⟩ (.int .i64 1)) ((W3.setCell ⟨kb, 0, none⟩ (.int .i64 1)).putObj (S.heap.size + 1) (.loop (rc .ready none))) := (Keep.refl _ _).putObj (.inl (by simp)) _
    have HR5 := Lib.hid (hr4.put (o' := .loop (rc .ready none)))
    have HK5 := Lib.hid (hk4.keep kz (by simp; omega))
    have HX5 := Lib.hid (FdX.loop hX4 (o := .loop (rc .ready none)) hr4.rc)
    have HL4 := Lib.hid hr4.rc
    have HXK : Hid (XK S.heap.size W ((W3.setCell ⟨kb, 0, none⟩ (.int .i64 1)).putObj (S.heap.size + 1) (.loop (rc .ready none)))) := Lib.hid (XK.of_keep' (KW.trans (kz.more (hs := [S.heap.size + 1, kb]) (by simp))) (fun g hg => by
      simp at hg
      rcases hg with rfl | rfl
      · exact .inr (.inr ⟨_, hr.rc⟩)
      · left; omega))
    clear KW kz hr4 hk4 hX4 hw4 hrd k4 hk3 hr3 hX3 BT3 hw3 k3 hr he2 htb
    have ntb : tb ≠ kb := by omega
    gi_wp2
    exact ⟨HL4.out, HXK.out, HX5.out, HK5.out, HR5.out⟩
  case fin =>
    rintro e W' ⟨⟨vr, rfl⟩, h⟩
    obtain ⟨hX, hk, hr⟩ := h.resolve_right id
    refine ⟨_, .ready, none, rfl, by simp, hr.rc, ?_⟩
    have hr2 := hr.put (o' := .loop (rc .exhausted none))
    have kp : Keep [S.heap.size + 1] W' (W'.putObj (S.heap.size + 1) (.loop (rc .exhausted none))) := (Keep.refl _ W').putObj (.inl (by simp)) _
    have hk2 := hk.keep kp (by simp; omega)
    have hX2 := FdX.loop hX (o := .loop (rc .exhausted none)) hr.rc
    obtain ⟨W5, hW5⟩ : ∃ W5, W5 = W'.putObj (S.heap.size + 1) (.loop (rc .exhausted none)) := ⟨_, rfl⟩
    simp only [← hW5] at hr2 hk2 hX2 ⊢
    clear hW5 hW1 hrc hX hk hr kp szW1 BC BK5 hX5
    have BR6 := BR5.keep hr2.kp (by simp; omega)
    have K6 := Lib.hid (K5.out.step hr2.kp (by have := HRB.out; simp; omega))
    have hdf := hr2.df
    have szW := hr2.kp.size
    obtain ⟨db, hdb⟩ : ∃ db, db = S.heap.size := ⟨_, rfl⟩
    rw [← hdb] at szS szW hdf ⊢
    have HDW : Hid (w.heap.size ≤ db) := Lib.hid (by have := K5.out.size; omega)
    clear hr2 K5 BR5 hdb
    go_wp2_with (fail)
    refine (mostX hX2 20000 (by omega) (by omega)).mono ?_
    rintro e w6 ⟨rfl, hX6, k6⟩
    have BR7 := BR6.keep k6 (by simp; omega)
    have hk6 := hk2.keep k6 (by simp; omega)
    have K7 := Lib.hid (K6.out.step k6 (by have := HRB.out; simp; omega))
    have hdf6 := k6.heap hdf (by simp; omega)
    have sz6 := k6.size
    clear BR6 K6 hdf k6 hX2 hk2
    go_wp2_with (fail)
    have kA : Keep [] w6 (w6.alloc (.cells #[.int .u8 255, .int .u8 255, .int .u8 255, .int .u8 0, .int .u8 0, .int .u8 0, .int .u8 0, .int .u8 0, .int .u8 0] 5)) := (Keep.refl _ _).alloc _
    have rd1 : Reads (w6.alloc (.cells #[.int .u8 255, .int .u8 255, .int .u8 255, .int .u8 0, .int .u8 0, .int .u8 0, .int .u8 0, .int .u8 0, .int .u8 0] 5)) (w6.heap.size + 1) 1 (some ⟨w6.heap.size, 0, none⟩) 9 (encB bff) := reads_w _ _ _ _ rfl rfl
    refine (putX (hX6.alloc _) (by simp; omega) rd1 (by decide)).mono ?_
    rintro e w7 ⟨rfl, hX7, gs, k7, hg⟩
    rw [List.nil_append] at hX7
    have BR8 := (BR7.keep kA (by simp)).keep k7 (hg.blk (BR7.keep kA (by simp)) (by decide) (by omega))
    have hk7 := (hk6.keep kA (by simp)).keep k7 (hg.blk (hk6.keep kA (by simp)) (by decide) (by omega))
    have hdf7 := k7.heap (kA.heap hdf6 (by simp)) (hg.df (kA.heap hdf6 (by simp)) (by omega))
    have K8 : Hid (Keep [] w w7) := Lib.hid ((K7.out.trans kA).step k7 (fun g hm => by have := HRB.out; have := hg.ge (Nat.le_refl _) g hm; right; omega))
    have sz7 := k7.size
    simp at sz7
    clear kA rd1 k7 hg gs hX6 BR7 K7 hdf6 hk6
    go_wp2_with (fail)
    refine (nextX hX7 (by simp) (by decide) bff rfl).mono ?_
    rintro e w8 ⟨hn, k8⟩
    obtain ⟨rfl, hX8⟩ : e = .returned (.tuple #[zeroF, .bool false]) ∧ FdX w8 fb fb false 20000 [] 6 := by
      rcases hn with ⟨_, h1, _⟩ | ⟨h1, _, _, h4⟩ | ⟨h1, _⟩
      · rw [hlenff] at h1
        exfalso
        rcases h1 with h1 | h1
        · exact absurd h1 (by decide)
        · omega
      · exact ⟨h1, h4⟩
      · rw [hlenff] at h1; exact absurd h1 (by decide)
    have BR9 := BR8.keep k8 (by simp; omega)
    have hk8 := hk7.keep k8 (by simp; omega)
    have K9 : Hid (Keep [] w w8) := Lib.hid (K8.out.step k8 (by have := HRB.out; simp; omega))
    have hdf8 := k8.heap hdf7 (by simp; omega)
    have sz8 := k8.size
    have kk := hk8.cell 0
    simp at kk
    clear hn k8 hX7 BR8 K8 hdf7 hk7 hk8
    unfold zeroF
    go_wp2_with (fail)
    refine (codeX hX8).mono ?_
    rintro e w8' ⟨rfl, rfl⟩
    go_wp2_with (fail)
    refine (preface_ _).mono ?_
    rintro e w9 ⟨rfl, hw9⟩
    have kA : Keep [] w8 (w8.alloc (.cells (encB pfB).toArray 5 (24, 25))) := (Keep.refl _ _).alloc _
    have rd9 : Reads (w8.alloc (.cells (encB pfB).toArray 5 (24, 25))) (w8.heap.size + 1) 1 (some ⟨w8.heap.size, 0, none⟩) 24 (encB pfB) := reads_w _ _ _ _ rfl rfl
    rw [← hw9] at kA rd9
    clear hw9
    have hst := str_of (c := 24) (src := 25) (dst := 9) Try.underlying25 Try.underlying5 Try.underlying9 rd9
    have hpe : pfB.toArray = #[80, 82, 73, 32, 42, 32, 72, 84, 84, 80, 47, 50, 46, 48, 13, 10, 13, 10, 83, 77, 13, 10, 13, 10] := rfl
    rw [hpe] at hst
    have BRA := BR9.keep kA (by simp)
    have b0 := BRA.cell 0
    have fr0 := BRA.frozen 0
    simp at b0
    have HB := Lib.hid BRA
    have K10 := Lib.hid (K9.out.trans kA)
    have HDF := Lib.hid (kA.heap hdf8 (by simp))
    have sz9 := kA.size
    clear kA rd9 BRA BR9 K9 hdf8 hX8 kk hpe
    go_wp2_with (fail)
    refine ⟨by simp, .inl ⟨_, _, rfl, run_takeDeferred ((Below.heap_setCell w9 _ _ _ (by simp; omega)).trans HDF.out), ?_⟩⟩
    refine ⟨_, res_cell_bool rfl _ _ rb true rfl ((World.cell?_of_block (World.putObj_heap_other (by simp; omega))).trans ((HB.out.set_ 0 (.bool true)).cell 0)), rfl, ?_⟩
    have hrb := HRB.out
    have hdw := HDW.out
    exact ((K10.out.setCell (p := ⟨rb, 0, none⟩) (.inr (by simp; omega)) _).putObj (l := db) (.inr (by omega)) _).below (Nat.le_refl _) (by simp)
end Go.Proofs.Ytigdigljcalgkaa
