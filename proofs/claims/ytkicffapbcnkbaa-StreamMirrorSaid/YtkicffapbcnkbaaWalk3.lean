/- stream: Walk's walk. -/
import Derived.Test.YtkicffapbcnkbaaWalk2
set_option linter.all false
namespace Go.Proofs.Ytkicffapbcnkbaa
open Go.ChangeShapes Go.WideShapes Go.ChangeAt Go.RowKit
attribute [local go_sem] setCell_drewN alloc_drewN Oper.semAt_some
theorem new_ (w : World) : Calls Try.prog 9 #[] w fun e w' => e = .returned (.pointer (some ⟨w.heap.size, 0, none⟩)) ∧ w' = w.alloc (.cells #[.int .i64 0, .int .i64 0] 45) := by
  go_enter Try.func9, Try.ntmps9
  go_wp2
  go_ret
  exact ⟨rfl, rfl⟩
theorem ret_3int {a b c a' b' c' : Int} (h : a = a') (h' : b = b') (h'' : c = c') : Ending.returned (.tuple #[.int .i64 a, .int .i64 b, .int .i64 c]) = .returned (.tuple #[.int .i64 a', .int .i64 b', .int .i64 c']) := by rw [h, h', h'']
set_option maxRecDepth 100000 in
set_option maxHeartbeats 8000000 in
theorem walk_ {w : World} {s bk bc bn : Nat} {pc : Option Nat} {A C : Option Addr} {n c n' c' : Nat} {ks : List Int} {es : List Bool} (hn : n ≤ 1000) (hn' : n' ≤ 9223372036854775807) (hk : ks.length = n) (hs : es.length = n') (hks : ∀ x ∈ ks, -9223372036854775808 ≤ x ∧ x ≤ 9223372036854775807) (L : Lay w s bk bc bn pc)
    (fd : Feed s w bk bc bn pc A C n c n' c' ks es 0) (R : Nat × Int × Int) (hF : walkF 0 0 (items ks es) 0 = R) :
    Calls Try.prog 17 #[.func (.func 25) #[] #[.pointer (some ⟨bk, 0, none⟩), .pointer (some ⟨bc, 0, none⟩), .pointer (some ⟨bn, 0, none⟩)]] w fun e w' =>
      e = .returned (.tuple #[.int .i64 R.1, .int .i64 R.2.1, .int .i64 R.2.2]) ∧ (∀ cb, pc = some cb → Blk w' cb 3 #[.int .i64 R.1]) ∧ w.grownBy w' pc := by
  have hks := Lib.hid hks
  have hfe := fun (w : World) (a b : Array Value) => run_eql_func_nil (P := Try.prog) w 40 (.func 25) a b Try.underlying40
  refine rng_func Try.func17 rfl ?_
  simp only [Try.ntmps17, List.size_toArray, List.length_cons, List.length_nil, Nat.reduceAdd, Nat.reduceSub, Array.replicate_succ, Array.replicate_zero, List.push_toArray, List.append_toArray, List.nil_append, List.cons_append]
  go_wp2
  go_step3
  go_wp2_with (go_at_call 9; refine (new_ _).mono ?_; rintro e w' ⟨rfl, rfl⟩)
  go_step3
  go_wp2
  refine rng_stmt' (n := 5) (gf := 25) (lb := #[.pointer (some ⟨bk, 0, none⟩), .pointer (some ⟨bc, 0, none⟩), .pointer (some ⟨bn, 0, none⟩)]) rfl (enters_of Try.func25 (by kernel_rfl) rfl) ?_
  intro rc hrc W1 hW1
  simp only [World.size_alloc] at hrc hW1 ⊢
  refine (steps1 (m := 4) hn hn' hk hs (fun i W => ∃ st why, OkSt st why ∧ JW w s bk bc bn pc A C n c n' c' ks es i i st why W ∧ walkF st why ((items ks es).drop i) i = R ∧ W.heap[w.heap.size + 1 + 1 + 1 + 1]? = some (.loop (rc .ready none)))
    (fun W => JW w s bk bc bn pc A C n c n' c' ks es R.1 R.1 R.2.1 R.2.2 W ∧ W.heap[w.heap.size + 1 + 1 + 1 + 1]? = some (.loop (rc .done (some (.exit 0))))) (fun i W ⟨_, _, _, h, _⟩ => h.fd) ?round W1 ?start).mono ?fin
  case start =>
    subst hW1
    have a1 := (((((Below.refl w.heap.size w).alloc (Nat.le_refl _) (.cells #[.int .i64 0, .int .i64 0] 45)).alloc (by simp) (.cells #[.pointer (some ⟨w.heap.size, 0, none⟩)] 25)).alloc (by simp <;> omega) (.cells #[.int .i64 0] 3)).alloc (by simp <;> omega) (.deferred (some []))).alloc (by simp <;> omega) (.loop (rc .ready none))
    have b0 := Blk.new w 45 #[.int .i64 0, .int .i64 0]
    have b1 := Blk.new (w.alloc (.cells #[.int .i64 0, .int .i64 0] 45)) 25 #[.pointer (some ⟨w.heap.size, 0, none⟩)]
    have b2 := Blk.new ((w.alloc (.cells #[.int .i64 0, .int .i64 0] 45)).alloc (.cells #[.pointer (some ⟨w.heap.size, 0, none⟩)] 25)) 3 #[.int .i64 0]
    have b3 := heap_alloc_new (((w.alloc (.cells #[.int .i64 0, .int .i64 0] 45)).alloc (.cells #[.pointer (some ⟨w.heap.size, 0, none⟩)] 25)).alloc (.cells #[.int .i64 0] 3)) (.deferred (some []))
    have b4 := heap_alloc_new ((((w.alloc (.cells #[.int .i64 0, .int .i64 0] 45)).alloc (.cells #[.pointer (some ⟨w.heap.size, 0, none⟩)] 25)).alloc (.cells #[.int .i64 0] 3)).alloc (.deferred (some []))) (.loop (rc .ready none))
    simp only [World.size_alloc] at b0 b1 b2 b3 b4
    exact ⟨0, 0, by simp [OkSt], ⟨fd.below a1 L.h1 L.h2 L.h3 L.h4 L.h5, ((((b0.alloc _).alloc _).alloc _).alloc _), (((b1.alloc _).alloc _).alloc _), ((b2.alloc _).alloc _), (Below.heap_alloc _ _ _ (by simp)).trans b3, only_of_below a1 _⟩, by simpa using hF, b4⟩
  case fin =>
    rintro e W' ⟨⟨vr, rfl⟩, h⟩
    clear hW1 hrc
    have h' : ∃ st pe, st ≠ .busy ∧ (pe = none ∨ pe = some (.exit 0)) ∧ JW w s bk bc bn pc A C n c n' c' ks es R.1 R.1 R.2.1 R.2.2 W' ∧ W'.heap[w.heap.size + 1 + 1 + 1 + 1]? = some (.loop (rc st pe)) := by
      rcases h with ⟨st, why, ho, J, hrun, hL⟩ | ⟨J, hL⟩
      · rw [List.drop_of_length_le (by rw [items_len]; omega)] at hrun
        simp only [walkF] at hrun
        subst hrun
        exact ⟨_, _, by simp, .inl rfl, J, hL⟩
      · exact ⟨_, _, by simp, .inr rfl, J, hL⟩
    clear h
    obtain ⟨st, pe, hst, hpe, J, hL⟩ := h'
    have J2 := J.put (o := .loop (rc .exhausted pe)) L
    refine ⟨_, st, pe, rfl, hst, hL, ?_⟩
    obtain ⟨W2, hW2⟩ : ∃ W2, W2 = W'.putObj (w.heap.size + 1 + 1 + 1 + 1) (.loop (rc .exhausted pe)) := ⟨_, rfl⟩
    rw [← hW2] at J2
    simp only [← hW2]
    clear hW2 J hL hst
    have d0 := J2.db.cell 0
    have d1 := J2.db.cell 1
    have x0 := J2.xb.cell 0
    have n0 := J2.nb.cell 0
    simp at d0 d1 x0 n0
    obtain ⟨r0, r1, r2⟩ := R
    simp only at *
    rcases hpe with rfl | rfl
    all_goals
      go_wp2
      go_quiet (fail)
      go_wp2
      rw [Exit.noGoto_ret]
      refine ⟨by simp, .inl ⟨_, _, rfl, run_takeDeferred J2.df, ?_⟩⟩
      have hg : W2.grownBy ((W2.drewN nq).putObj (w.heap.size + 1 + 1 + 1) (.deferred none)) (some (w.heap.size + 1 + 1 + 1)) := only_putObj (only_drewN (World.grownBy.refl W2 _) nq) (.inl rfl)
      have hb : Below w.heap.size W2 ((W2.drewN nq).putObj (w.heap.size + 1 + 1 + 1) (.deferred none)) := (Below.refl _ _).grown hg J2.only.size (fun k e => by injection e with e; omega)
      refine ⟨_, results_tmp3 rfl _ _ _, rfl, fun cb e => (J2.fd.cnt cb e).below hb (L.h5 cb e), ?_⟩
      exact ⟨hg.os.trans J2.only.os, hg.tape.trans J2.only.tape, hg.output.trans J2.only.output, Nat.le_trans J2.only.size hg.size, fun k hk hne => (hb.block k hk).trans (J2.only.block k hk hne)⟩
  case round =>
    rintro i k W ⟨st, why, ho, J, hrun, hL⟩ hki
    have HK := Lib.hid (hks.out k (List.mem_of_getElem? hki))
    have J2 := J.tick L
    have hL2 := tick_rec (i := i) L hL (by omega)
    have hit := items_get (es := es) hki
    have hil : i < (items ks es).length := (List.getElem?_eq_some_iff.1 hit).1
    have hin : i < n := by rw [items_len] at hil; omega
    have hie := (List.getElem?_eq_some_iff.1 hit).2
    rw [List.drop_eq_getElem_cons hil, hie] at hrun
    obtain ⟨eb, heb⟩ : ∃ eb, eb = es.getD i false := ⟨_, rfl⟩
    rw [← heb] at hrun ⊢
    simp only [walkF] at hrun
    obtain ⟨W2, hW2⟩ : ∃ W2, W2 = tickW pc i W := ⟨_, rfl⟩
    rw [← hW2] at J2 hL2 ⊢
    have HR := Lib.hid hrun
    clear hW2 heb hie hil hit hki J hL hrun hW1
    refine rng_round' hrc hL2 rfl ?_
    clear hrc
    gi_wp2
    refine ⟨hL2, ?_⟩
    have hs5 : w.heap.size + 1 + 1 + 1 + 1 < W2.heap.size := (Array.getElem?_eq_some_iff.1 hL2).1
    have J3 := J2.put (o := .loop (rc .busy none)) L
    have hL3 : (W2.putObj (w.heap.size + 1 + 1 + 1 + 1) (.loop (rc .busy none))).heap[w.heap.size + 1 + 1 + 1 + 1]? = some (.loop (rc .busy none)) := put_heap hs5
    obtain ⟨W3, hW3⟩ : ∃ W3, W3 = W2.putObj (w.heap.size + 1 + 1 + 1 + 1) (.loop (rc .busy none)) := ⟨_, rfl⟩
    rw [← hW3] at J3 hL3 ⊢
    clear hW3 hs5 J2 hL2
    have J4 := J3.count L ((i : Int) + 1) (i + 1) (by omega)
    have hL4 : (W3.setCell ⟨w.heap.size + 1 + 1, 0, none⟩ (.int .i64 ((i : Int) + 1))).heap[w.heap.size + 1 + 1 + 1 + 1]? = some (.loop (rc .busy none)) := (Below.heap_setCell W3 ⟨w.heap.size + 1 + 1, 0, none⟩ _ _ (by simp <;> omega)).trans hL3
    have n3 := J3.nb.cell 0
    have m3 := J3.nb.frozen 0
    have x3 := J3.xb.cell 0
    simp at n3 x3
    have i0 : (0 : Int) ≤ (i : Int) := by omega
    have i1 : (i : Int) ≤ 1000 := by omega
    obtain ⟨W4, hW4⟩ : ∃ W4, W4 = W3.setCell ⟨w.heap.size + 1 + 1, 0, none⟩ (.int .i64 ((i : Int) + 1)) := ⟨_, rfl⟩
    rw [← hW4] at J4 hL4
    have HW4 := Lib.hid hW4
    clear hW4
    have x4 := J4.xb.cell 0
    have hlt4 := Lib.hid (Array.getElem?_eq_some_iff.1 hL4).1
    simp at x4
    by_cases q1 : 1 ≤ k ∧ k ≤ 5
    · have HR2 := HR.out
      rw [if_pos q1] at HR2
      obtain ⟨a1, a2⟩ := q1
      have HR3 := Lib.hid HR2
      clear HR HR2
      gi_wp2_with (first
        | (refine ⟨trivial, ?_⟩; gi_at_call 20; rw [← HW4.out]; refine (CallsIn.inRound _ (callsIn_wide.2 (told_yes k _ a1 a2))).mono ?_; rintro e w' ⟨rfl, rfl⟩)
        | (refine ⟨trivial, ?_⟩; gi_at_call 11; refine (CallsIn.inRound _ (callsIn_wide.2 (send_any w.heap.size st why k eb _ ho J4.db))).mono ?_; rintro e w5 ⟨rfl, hb5, hg5⟩; have J5 := J4.step L hb5 hg5; have hL5 := Lib.hid (JW.rec_step (w := w) hL4 hg5 (by omega)); clear hL4 hL3))
      · have hz := ‹((sendF st why k eb).1 != 0) = true›
        have HR4 := HR3.out
        rw [if_neg (by simpa using hz)] at HR4
        subst HR4
        exact ⟨hL5.out, J5.put L, put_heap (Array.getElem?_eq_some_iff.1 hL5.out).1⟩
      · have hz := ‹((sendF st why k eb).1 != 0) = false›
        have HR4 := HR3.out
        rw [if_pos (by simpa using hz)] at HR4
        exact ⟨hL5.out, _, _, sendF_ok ho, J5.put L, HR4, put_heap (Array.getElem?_eq_some_iff.1 hL5.out).1⟩
    · have HR2 := HR.out
      rw [if_neg q1] at HR2
      have q1' : k < 1 ∨ 5 < k := by omega
      have q1' := Lib.hid q1'
      clear q1 HR
      by_cases q2 : 1 ≤ k - 10 ∧ k - 10 ≤ 5
      · rw [if_pos q2] at HR2
        obtain ⟨a1, a2⟩ := q2
        have HR3 := Lib.hid HR2
        have b1 : -100 ≤ k := by omega
        have b2 : k ≤ 100 := by omega
        clear HR2
        gi_wp2_with (first
          | (refine ⟨trivial, ?_⟩; gi_at_call 20; rw [← HW4.out]; refine (CallsIn.inRound _ (callsIn_wide.2 (told_no k _ q1'.out))).mono ?_; rintro e w' ⟨rfl, rfl⟩)
          | (refine ⟨trivial, ?_⟩; gi_at_call 20; refine (CallsIn.inRound _ (callsIn_wide.2 (told_yes (k - 10) _ a1 a2))).mono ?_; rintro e w' ⟨rfl, rfl⟩)
          | (refine ⟨trivial, ?_⟩; gi_at_call 13; refine (CallsIn.inRound _ (callsIn_wide.2 (come_any w.heap.size st why (k - 10) eb _ ho J4.db))).mono ?_; rintro e w5 ⟨rfl, hb5, hg5⟩; have J5 := J4.step L hb5 hg5; have hL5 := Lib.hid (JW.rec_step (w := w) hL4 hg5 (by omega)); clear hL4 hL3))
        · have hz := ‹1 < (comeF st why (k - 10) eb).1›
          have HR4 := HR3.out
          rw [if_neg (by omega)] at HR4
          subst HR4
          exact ⟨hL5.out, J5.put L, put_heap (Array.getElem?_eq_some_iff.1 hL5.out).1⟩
        · have hz := ‹(comeF st why (k - 10) eb).1 ≤ 1›
          have HR4 := HR3.out
          rw [if_pos hz] at HR4
          exact ⟨hL5.out, _, _, comeF_ok ho, J5.put L, HR4, put_heap (Array.getElem?_eq_some_iff.1 hL5.out).1⟩
      · rw [if_neg q2] at HR2
        have q2' : k - 10 < 1 ∨ 5 < k - 10 := by omega
        have q2' := Lib.hid q2'
        have HR3 := Lib.hid HR2
        have q3 : wrap64 (k - 10) < 1 ∨ 5 < wrap64 (k - 10) := by have h1 := HK.out; have h2 := q2'.out; unfold wrap64; omega
        have q3 := Lib.hid q3
        clear HR2 q2
        have hL5 := Lib.hid hL4
        clear hL4 hL3
        gi_wp2_with (refine ⟨trivial, ?_⟩; gi_at_call 20; rw [← HW4.out]; refine (CallsIn.inRound _ (callsIn_wide.2 (told_no k _ q1'.out))).mono ?_; rintro e w' ⟨rfl, rfl⟩)
        refine ⟨trivial, ?_⟩
        refine (CallsIn.inRound _ (callsIn_wide.2 (told_no _ _ q3.out))).mono ?_
        rintro e w' ⟨rfl, rfl⟩
        gi_wp2
        exact ⟨hL5.out, _, _, ho, J4.put L, HR3.out, put_heap (Array.getElem?_eq_some_iff.1 hL5.out).1⟩
end Go.Proofs.Ytkicffapbcnkbaa
