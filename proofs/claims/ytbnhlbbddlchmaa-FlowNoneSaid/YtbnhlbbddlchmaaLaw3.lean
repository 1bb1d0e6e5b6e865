/- FlowBoth's and FlowNone's walks. -/
import Derived.Test.YtbnhlbbddlchmaaLaw2
set_option linter.all false
namespace Go.Proofs.Ytbnhlbbddlchmaa
open Go.ChangeShapes Go.WideShapes Go.ChangeAt Go.RowKit
attribute [local go_sem] setCell_drewN alloc_drewN
theorem more_eq {s l u : Int} (h : InOk s l u) (hp : 0 < agN s u) : moreE l (agN s u) = 0 ∧ moreL l (agN s u) = agL s l u := by
  have e : agN s u = u := by unfold agN at *; split at hp <;> (try split) <;> omega
  unfold agL
  rw [e] at hp ⊢
  unfold InOk moreE moreL M at *
  constructor <;> (repeat' split) <;> omega
theorem shift_eq {s l u x : Int} (h : InOk s l u) (hu : u ≤ 1073742824 ∨ u ≤ s) (h1 : -1000 ≤ x) (h2 : x ≤ 1000) (h3 : 0 ≤ s + x) (h4 : s + x ≤ 1073741824) : inShL s l x = shiftL l x ∧ inShS s x = s + x := by
  have e1 : cutP x (-2147483647) 2147483647 = x := by unfold cutP; (repeat' split) <;> omega
  have e2 : cutP (s + x) 0 2147483647 = s + x := by unfold cutP; (repeat' split) <;> omega
  unfold inShL inShS M
  rw [e1, e2]
  unfold InOk shiftL M at *
  constructor
  · (repeat' split) <;> omega
  · rfl
theorem ag_zero {s l u : Int} (h : agN s u = 0) (hu : 0 ≤ u) : agL s l u = l ∧ agU s u = u := by
  unfold agL agU agN at *
  constructor <;> (repeat' split at *) <;> omega
theorem agN_nn {s u : Int} (h : 0 ≤ u) : 0 ≤ agN s u := by unfold agN; split <;> omega
set_option maxHeartbeats 2000000 in
theorem flowNone (w : World) : Calls Try.prog 6 #[] w fun e w' => e = .returned (.bool true) ∧ Below w.heap.size w w' := by
  go_enter Try.func6, Try.ntmps6
  go_wp2_with (first | (go_at_call 7; refine (begun _).mono ?_; rintro e w1 ⟨rfl, hb1⟩) | go_in)
  go_quiet (fail)
  go_wp2
  go_ret
  exact ⟨rfl, below_drewN hb1 _⟩
set_option maxRecDepth 100000 in
set_option maxHeartbeats 4000000 in
theorem flowBoth (w : World) (n : Int) (wn : (Lit.int .i64 n).wf = true) (v : Value) (hops : Sl w 2 (fun _ => IsInt .i64) v) :
    Calls Try.prog 5 #[.int .i64 n, v] w fun e w' => e = .returned (.bool true) ∧ Below w.heap.size w w' := by
  obtain ⟨A, len, cap, rfl, hlen, hcap, hops⟩ := hops
  unfold maxLen at hcap
  by_cases hn : 0 ≤ n ∧ n ≤ 2147483647
  · obtain ⟨hn0, hn1⟩ := hn
    go_enter Try.func5, Try.ntmps5
    go_wp2_with (first | (go_at_call 7; refine (begun _).mono ?_; rintro e w1 ⟨rfl, hb1⟩) | (go_at_call 17; refine (newIn _ _).mono ?_; rintro e w' ⟨rfl, rfl⟩) | (go_at_call 8; refine (newOut _ _).mono ?_; rintro e w' ⟨rfl, rfl⟩))
    have hok := inOk_new (n := n)
    have e : cutP n 0 M = n := by unfold cutP M; (repeat' split) <;> omega
    rw [e] at hok ⊢
    clear e
    have hsz := hb1.size
    go_loopw [0, 8] (fun nn i wr => ∃ (k : Nat) (s l u : Int), nn = .int .i64 s ∧ i = .int .i64 k ∧ k ≤ len ∧ k ≤ 60 ∧ InOk s l u ∧ (u ≤ 1073742824 ∨ u ≤ s) ∧ Blk wr w1.heap.size 45 #[.int .i64 l] ∧ Blk wr (w1.heap.size + 1) 47 #[.int .i64 s, .int .i64 l, .int .i64 u] ∧ Below w.heap.size w wr) (fun _ i _ => 60 - (intOf i).toNat)
    case atStart =>
      exact ⟨0, n, n, 0, rfl, rfl, by omega, by omega, hok, by omega, (Blk.new _ _ _).alloc _, by have h := Blk.new (w1.alloc (.cells #[.int .i64 n] 45)) 47 #[.int .i64 n, .int .i64 n, .int .i64 0]; simp only [World.size_alloc] at h; exact h, ((hb1.alloc hsz _).alloc (by simp; omega) _)⟩
    case round =>
      obtain ⟨k, s, l, u, rfl, rfl, hk1, hk2, hok, hu, b1, b2, hB⟩ := hrel
      by_cases hlt : k < len
      · by_cases hlt2 : k < 60
        · rcases hops with h | ⟨b, off, rfl, hb, hops⟩
          · omega
          obtain ⟨_, d1, kd, rfl, _⟩ := hops k (by omega) 0 (by omega)
          obtain ⟨_, d2, x, rfl, wx⟩ := hops k (by omega) 1 (by omega)
          simp only [Nat.add_zero, ← Nat.add_assoc] at d1 d2
          rw [← hB.cell (p := ⟨b, off + k * 2, none⟩) hb] at d1
          rw [← hB.cell (p := ⟨b, off + k * 2 + 1, none⟩) hb] at d2
          obtain ⟨hx1, hx2⟩ := in_i64 wx
          have c0 := b1.cell 0
          have e0 := b2.cell 0
          have e1 := b2.cell 1
          have e2 := b2.cell 2
          simp at c0 e0 e1 e2
          have f0 := b1.frozen 0
          have g0 := b2.frozen 0
          have g1 := b2.frozen 1
          have g2 := b2.frozen 2
          have hok' := hok
          obtain ⟨hq, hs0, hs1, hu0, hu1⟩ := hok'
          have hl0 : -2147483647 ≤ l := by omega
          have hl1 : l ≤ 2147483647 := by omega
          have hl2 : l ≤ s := by omega
          have Q := Lib.hid hq
          clear hq
          by_cases hkd : kd = 0
          · have hkd' : (kd == 0) = true := by simp [hkd]
            clear hkd
            go_wp2_with (first
              | (go_at_call 10; (with_reducible refine (outLeft _ l _ c0).mono ?_); rintro e w' ⟨rfl, rfl⟩)
              | (go_at_call 10; (with_reducible refine (outLeft _ (takeL l x) _ ?_).mono ?_); (focus (go_simp; done)); rintro e w' ⟨rfl, rfl⟩)
              | (go_at_call 19; (with_reducible refine (inLeft _ (takeL l x) _ ?_).mono ?_); (focus (go_simp; done)); rintro e w' ⟨rfl, rfl⟩)
              | (go_at_call 11; refine (outTake _ l x _ c0 f0 hl0 hl1).mono ?_; rintro e w' ⟨rfl, rfl⟩; rw [show takeE l x = 0 from by unfold takeE; (repeat' split) <;> omega])
              | (go_at_call 20; refine (inCome _ s l u x _ (by go_simp) (by go_simp) (by go_simp) (by go_simp) hok).mono ?_; rintro e w' ⟨rfl, rfl⟩; rw [show takeE l x = 0 from by unfold takeE; (repeat' split) <;> omega]))
            all_goals first | (exact ⟨⟨k + 1, s, l, u, rfl, by go_num, by omega, by omega, hok, hu, b1, b2, hB⟩, by simp [intOf]; omega⟩) | skip
            exact ⟨⟨k + 1, s, takeL l x, comeU l u x, rfl, by go_num, by omega, by omega, inOk_come hok, by have := Q.out; unfold comeU; (repeat' split) <;> omega, (((b1.set_ 0 (.int .i64 (takeL l x))).far (p := ⟨w1.heap.size + 1, 1, none⟩) (by simp) (.int .i64 (takeL l x))).far (p := ⟨w1.heap.size + 1, 2, none⟩) (by simp) (.int .i64 (comeU l u x))), (((b2.far (p := ⟨w1.heap.size, 0, none⟩) (by simp) (.int .i64 (takeL l x))).set_ 1 (.int .i64 (takeL l x))).set_ 2 (.int .i64 (comeU l u x))), (((hB.setCell (p := ⟨w1.heap.size, 0, none⟩) hsz (.int .i64 (takeL l x))).setCell (p := ⟨w1.heap.size + 1, 1, none⟩) (by simp; omega) (.int .i64 (takeL l x))).setCell (p := ⟨w1.heap.size + 1, 2, none⟩) (by simp; omega) (.int .i64 (comeU l u x)))⟩, by simp [intOf]; omega⟩
          · have hkd' : (kd == 0) = false := by simp [hkd]
            clear hkd
            by_cases hkd : kd = 1
            · have hkd2 : (kd == 1) = true := by simp [hkd]
              clear hkd
              go_wp2_with (first
                | (go_at_call 10; (with_reducible refine (outLeft _ l _ c0).mono ?_); rintro e w' ⟨rfl, rfl⟩)
                | (go_at_call 10; (with_reducible refine (outLeft _ (shiftL l x) _ ?_).mono ?_); (focus (go_simp; done)); rintro e w' ⟨rfl, rfl⟩)
                | (go_at_call 19; (with_reducible refine (inLeft _ (shiftL l x) _ ?_).mono ?_); (focus (go_simp; done)); rintro e w' ⟨rfl, rfl⟩)
                | (go_at_call 15; refine (outShift _ l x _ c0 f0 hl0 hl1).mono ?_; rintro e w' ⟨rfl, rfl⟩; rw [show shiftE l x = 0 from by have := Q.out; unfold shiftE M; (repeat' split) <;> omega])
                | (go_at_call 22; refine (inShift _ s l u x _ (by go_simp) (by go_simp) (by go_simp) (by go_simp) hok).mono ?_; rintro e w' ⟨rfl, m, rfl⟩; rw [(shift_eq hok hu (by omega) (by omega) (by omega) (by omega)).1, (shift_eq hok hu (by omega) (by omega) (by omega) (by omega)).2]))
              all_goals first | (exact ⟨⟨k + 1, s, l, u, rfl, by go_num, by omega, by omega, hok, hu, b1, b2, hB⟩, by simp [intOf]; omega⟩) | skip
              exact ⟨⟨k + 1, s + x, shiftL l x, u, rfl, by go_num, by omega, by omega, by have h := inOk_shift (n := x) hok; rw [(shift_eq hok hu (by omega) (by omega) (by omega) (by omega)).1, (shift_eq (l := l) hok hu (by omega) (by omega) (by omega) (by omega)).2] at h; exact h, by have := Q.out; omega, (((b1.set_ 0 (.int .i64 (shiftL l x))).far (p := ⟨w1.heap.size + 1, 1, none⟩) (by simp) (.int .i64 (shiftL l x))).far (p := ⟨w1.heap.size + 1, 0, none⟩) (by simp) (.int .i64 (s + x))), (((b2.far (p := ⟨w1.heap.size, 0, none⟩) (by simp) (.int .i64 (shiftL l x))).set_ 1 (.int .i64 (shiftL l x))).set_ 0 (.int .i64 (s + x))), below_drewN (((hB.setCell (p := ⟨w1.heap.size, 0, none⟩) hsz (.int .i64 (shiftL l x))).setCell (p := ⟨w1.heap.size + 1, 1, none⟩) (by simp; omega) (.int .i64 (shiftL l x))).setCell (p := ⟨w1.heap.size + 1, 0, none⟩) (by simp; omega) (.int .i64 (s + x))) _⟩, by simp [intOf]; omega⟩
            · have hkd2 : (kd == 1) = false := by simp [hkd]
              clear hkd
              have hnn := agN_nn (s := s) hu0
              by_cases hag : 0 < agN s u
              · go_wp2_with (first
                  | (go_at_call 10; (with_reducible refine (outLeft _ (agL s l u) _ ?_).mono ?_); (focus (go_simp; done)); rintro e w' ⟨rfl, rfl⟩)
                  | (go_at_call 19; (with_reducible refine (inLeft _ (agL s l u) _ ?_).mono ?_); (focus (go_simp; done)); rintro e w' ⟨rfl, rfl⟩)
                  | (go_at_call 24; refine (inAgain _ s l u _ e0 e1 e2 g1 g2 hok).mono ?_; rintro e w' ⟨rfl, m, rfl⟩)
                  | (go_at_call 13; refine (outMore _ l (agN s u) _ (by go_simp) (by go_simp) hl0 hl1).mono ?_; rintro e w' ⟨rfl, rfl⟩; rw [(more_eq hok hag).1, (more_eq hok hag).2]))
                exact ⟨⟨k + 1, s, agL s l u, agU s u, rfl, by go_num, by omega, by omega, inOk_again hok, by unfold agU; (repeat' split) <;> omega, (((b1.far (p := ⟨w1.heap.size + 1, 1, none⟩) (by simp) (.int .i64 (agL s l u))).far (p := ⟨w1.heap.size + 1, 2, none⟩) (by simp) (.int .i64 (agU s u))).set_ 0 (.int .i64 (agL s l u))), (((b2.set_ 1 (.int .i64 (agL s l u))).set_ 2 (.int .i64 (agU s u))).far (p := ⟨w1.heap.size, 0, none⟩) (by simp) (.int .i64 (agL s l u))), below_drewN (((hB.setCell (p := ⟨w1.heap.size + 1, 1, none⟩) (by simp; omega) (.int .i64 (agL s l u))).setCell (p := ⟨w1.heap.size + 1, 2, none⟩) (by simp; omega) (.int .i64 (agU s u))).setCell (p := ⟨w1.heap.size, 0, none⟩) hsz (.int .i64 (agL s l u))) _⟩, by simp [intOf]; omega⟩
              · have hag := Lib.hid (show agN s u = 0 by omega)
                clear hnn
                go_wp2_with (first
                  | (go_at_call 999; (with_reducible refine (outLeft _ l _ c0).mono ?_); rintro e w' ⟨rfl, rfl⟩)
                  | (go_at_call 10; (with_reducible refine (outLeft _ (l) _ ?_).mono ?_); (focus (go_simp; done)); rintro e w' ⟨rfl, rfl⟩)
                  | (go_at_call 19; (with_reducible refine (inLeft _ (l) _ ?_).mono ?_); (focus (go_simp; done)); rintro e w' ⟨rfl, rfl⟩)
                  | (go_at_call 24; refine (inAgain _ s l u _ e0 e1 e2 g1 g2 hok).mono ?_; rintro e w' ⟨rfl, m, rfl⟩; rw [hag.out, (ag_zero (l := l) hag.out hu0).1, (ag_zero (l := l) hag.out hu0).2]))
                exact ⟨⟨k + 1, s, l, u, rfl, by go_num, by omega, by omega, hok, hu, ((b1.far (p := ⟨w1.heap.size + 1, 1, none⟩) (by simp) (.int .i64 (l))).far (p := ⟨w1.heap.size + 1, 2, none⟩) (by simp) (.int .i64 (u))), ((b2.set_ 1 (.int .i64 (l))).set_ 2 (.int .i64 (u))), below_drewN ((hB.setCell (p := ⟨w1.heap.size + 1, 1, none⟩) (by simp; omega) (.int .i64 (l))).setCell (p := ⟨w1.heap.size + 1, 2, none⟩) (by simp; omega) (.int .i64 (u))) _⟩, by simp [intOf]; omega⟩
        · go_wp2
          go_ret
          exact ⟨rfl, hB⟩
      · go_wp2
        go_ret
        exact ⟨rfl, hB⟩
  · go_enter Try.func5, Try.ntmps5
    go_wp2_with (first | (go_at_call 7; refine (begun _).mono ?_; rintro e w1 ⟨rfl, hb1⟩))
    all_goals (go_ret; exact ⟨rfl, hb1⟩)
end Go.Proofs.Ytbnhlbbddlchmaa
