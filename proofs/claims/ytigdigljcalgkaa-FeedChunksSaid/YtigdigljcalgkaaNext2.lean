/- feed: Next behind the preface. -/
import Derived.Test.YtigdigljcalgkaaNext
set_option linter.all false
namespace Go.Proofs.Ytigdigljcalgkaa
open Go.ChangeShapes Go.WideShapes Go.ChangeAt Go.RowKit Go.Proofs.YtigdigljcalgkaaW.PrintWords
attribute [local go_sem] setCell_drewN alloc_drewN Oper.semAt_some
/-- how long the payload is to be -/
def hlen (bs : List UInt8) : Nat := numB (bs.take 3)
def frV (bs : List UInt8) (u : Value) : Value := .agg #[.int .i64 (bs.getD 3 0).toNat, .int .i64 (bs.getD 4 0).toNat, .int .i64 (numB ((bs.drop 5).take 4) % 2147483648 : Nat), u]
/-- what Next gives behind the preface -/
def NextR (B : Nat) (w : World) (base fb : Nat) (most : Int) (v : Value) (bs : List UInt8) (e : Ending) : Prop :=
  (e = .returned (.tuple #[zeroF, .bool false]) ∧ (bs.length < 9 ∨ ((hlen bs : Int) ≤ most ∧ bs.length < 9 + hlen bs)) ∧ ∃ v', Same v v' ∧ Fd w base fb false most v' bs 0) ∨
  (e = .returned (.tuple #[zeroF, .bool false]) ∧ 9 ≤ bs.length ∧ most < (hlen bs : Int) ∧ Fd w base fb false most (.slice none 0 0) [] 6) ∨
  (9 + hlen bs ≤ bs.length ∧ (hlen bs : Int) ≤ most ∧ ∃ u, e = .returned (.tuple #[frV bs u, .bool true]) ∧ Row1 w B 5 u (encB ((bs.drop 9).take (hlen bs))) ∧ ∃ v', Same v v' ∧ Fd w base fb false most v' (bs.drop (9 + hlen bs)) 0)
theorem cut_same (A : Option Addr) (n c k : Nat) : Same (.slice A n c) (.slice (if c = k then A else A.map (·.add k)) (n - k) (c - k)) := fun g hg => by
  cases A with
  | none => simp [rowBlk] at hg
  | some ad =>
    split at hg
    · exact hg
    · simp [rowBlk, block_of_add] at hg ⊢
      exact hg
section
variable {w w' : World} {base fb : Nat} {asks : Bool} {most code : Int} {v : Value} {bs : List UInt8}
set_option maxHeartbeats 2000000 in
set_option maxRecDepth 100000 in
theorem next_ (h : Fd w base fb asks most v bs 0) (ha : asks = true → bs.take 24 = pfB) (hcap : bs.length ≤ 140737488355328) (xs : List UInt8) (hxs : xs = if asks then bs.drop 24 else bs) : Calls Try.prog 17 #[.pointer (some ⟨fb, 0, none⟩)] w fun e w' => NextR w.heap.size w' base fb most v xs e ∧ Keep [fb] w w' := by
  obtain ⟨A, cap, rfl, hc1, hc2, hr⟩ := h.slice
  have d0 := h.blk.cell 0
  have d2 := h.blk.cell 2
  have d3 := h.blk.cell 3
  simp at d0 d2 d3
  have hlt := h.blk.lt
  have ne2 : fb ≠ w.heap.size := by omega
  have HH := Lib.hid h
  clear h
  have hxl : xs.length ≤ bs.length := by rw [hxs]; split <;> simp
  have kA : Keep [] w (w.alloc (.cells #[.int .i64 0, .int .i64 0, .int .i64 0, .slice none 0 0] 27)) := (Keep.refl [] w).alloc _
  have BF := Blk.new w 27 #[.int .i64 0, .int .i64 0, .int .i64 0, .slice none 0 0]
  go_enter Try.func17, Try.ntmps17
  go_upto_if 21 with (fail)
  go_cut [4] (fun _ wx => ∃ v', Fd wx base fb false most v' xs 0 ∧ Blk wx w.heap.size 27 #[.int .i64 0, .int .i64 0, .int .i64 0, .slice none 0 0] ∧ Keep [fb] w wx ∧ Same (.slice A bs.length cap) v')
  case first =>
    cases asks with
    | false =>
      obtain rfl : xs = bs := hxs
      go_wp2
      go_meet
      case rel => exact ⟨_, HH.out.keep kA (by simp) (by simp), BF, kA.more (by simp), fun g hg => hg⟩
    | true =>
      obtain rfl : xs = bs.drop 24 := hxs
      have hpf := ha rfl
      have hn1 : 24 ≤ bs.length := by
        rcases Nat.lt_or_ge bs.length 24 with h | h
        · exfalso
          have := congrArg List.length hpf
          rw [List.length_take] at this
          have e : pfB.length = 24 := rfl
          omega
        · exact h
      have hmin : (if (24 : Int) < (bs.length : Int) then 24 else (bs.length : Int)) = 24 := by split <;> omega
      have hl1 : (24 : Int) ≤ (bs.length : Int) := by omega
      have hl2 : (24 : Int) ≤ (cap : Int) := by omega
      have hl3 : 24 ≤ cap := by omega
      have hex : (ByteArray.mk #[80, 82, 73, 32, 42, 32, 72, 84, 84, 80, 47, 50, 46, 48, 13, 10, 13, 10, 83, 77, 13, 10, 13, 10]).extract 0 24 = ⟨(bs.take 24).toArray⟩ := by rw [hpf]; rfl
      have hrd := (hr.first hn1).keeps kA.drew (Nat.le_refl _) (by simp)
      rw [Nat.mul_one, ← encB_take] at hrd
      have hst := str_of (c := cap) (src := 25) (dst := 9) Try.underlying25 Try.underlying5 Try.underlying9 hrd
      have HK := Lib.hid kA
      have HB := Lib.hid BF
      have HP := Lib.hid hpf
      clear hr hrd ha kA BF hpf
      go_wp2
      refine wpIn_wide.1 (region_rt (n := 0) [] [(0, .pointer (some ⟨fb, 0, none⟩)), (1, .pointer (some ⟨fb, 0, none⟩)), (2, .pointer (some ⟨fb, 2, none⟩)), (3, .slice A bs.length cap), (4, .int .i64 24), (5, .slice A 24 cap), (6, .string ⟨(bs.take 24).toArray⟩), (7, .int .i64 24), (8, .string ⟨(bs.take 24).toArray⟩), (9, .bool false)]
        (fun W => W = (w.alloc (.cells #[.int .i64 0, .int .i64 0, .int .i64 0, .slice none 0 0] 27)).drew) (by kernel_rfl) (by kernel_rfl) rfl ?_ ?_)
      · (simp only [evOk, putAll, List.getElem?_toArray, List.getElem?_cons_zero, List.getElem?_cons_succ, Option.bind_some, Act.put, List.setIfInBounds_toArray, List.set_cons_zero, List.set_cons_succ]; repeat' apply And.intro) <;> first | exact trivial | (rintro W rfl; simp [go_sem, *]; done) | (intro W hW; simp [go_sem, *])
      · simp only [wpTail, putAll, List.getElem?_toArray, List.getElem?_cons_zero, List.getElem?_cons_succ, Option.bind_some, Act.put, List.setIfInBounds_toArray, List.set_cons_zero, List.set_cons_succ]
        have HH1 := HH.out.keep HK.out.drew (by simp) (by simp)
        have BF1 := HB.out.drew
        have K1 := Lib.hid HK.out.drew
        obtain ⟨W1, hW1⟩ : ∃ W1, W1 = (w.alloc (.cells #[.int .i64 0, .int .i64 0, .int .i64 0, .slice none 0 0] 27)).drew := ⟨_, rfl⟩
        have s1 : W1.heap.size = w.heap.size + 1 := by rw [hW1]; simp
        rw [← hW1] at HH1 BF1 K1 ⊢
        have dd2 := HH1.blk.cell 2
        have dd0 := HH1.blk.cell 0
        have ff0 := HH1.blk.frozen 0
        have hb2 := HH1.set1 (cs := #[]) (HH1.blk.set_ 0 (.bool false))
        simp at dd2 dd0
        have BF2 := BF1.far (p := ⟨fb, 0, none⟩) (by simp; omega) (.bool false)
        have K2 := Lib.hid ((K1.out.more (hs := [fb]) (by simp)).setCell (p := ⟨fb, 0, none⟩) (.inl (by simp)) (.bool false))
        clear hmin hex hst hW1 HB HK BF1 HH1 d0 d2 d3
        try go_at_K
        go_wp2
        refine wpIn_wide.1 (region_rt (n := 0) [(10, true), (13, false)] [(0, .pointer (some ⟨fb, 0, none⟩)), (1, .pointer (some ⟨fb, 0, none⟩)), (2, .pointer (some ⟨fb, 0, none⟩)), (3, .pointer (some ⟨fb, 0, none⟩)), (4, .pointer (some ⟨fb, 2, none⟩)), (5, .slice A bs.length cap), (6, .int .i64 24), (7, .slice (if cap = 24 then A else A.map (·.add 24)) (bs.length - 24) (cap - 24)), (8, .pointer (some ⟨fb, 0, none⟩)), (9, .pointer (some ⟨fb, 0, none⟩)), (11, .pointer (some ⟨fb, 0, none⟩)), (12, .pointer (some ⟨fb, 2, none⟩))]
          (fun W => W.cell? ⟨fb, 2, none⟩ = some (.slice A bs.length cap)) (by kernel_rfl) (by kernel_rfl) dd2 ?_ ?_)
        · (simp only [evOk, putAll, List.getElem?_toArray, List.getElem?_cons_zero, List.getElem?_cons_succ, Option.bind_some, Act.put, List.setIfInBounds_toArray, List.set_cons_zero, List.set_cons_succ]; repeat' apply And.intro) <;> first | exact trivial | (rintro W rfl; simp [go_sem, *]; done) | (intro W hW; simp [go_sem, *])
          done
        · simp only [putAll, List.getElem?_toArray, List.getElem?_cons_zero, List.getElem?_cons_succ, Option.bind_some, Act.put, List.setIfInBounds_toArray, List.set_cons_zero, List.set_cons_succ]
          obtain ⟨Ac, hAc⟩ : ∃ Ac, Ac = (if cap = 24 then A else A.map (·.add 24)) := ⟨_, rfl⟩
          rw [← hAc]
          have hcut := hb2.row.cut 24 (by rw [encB_len]; exact hn1) A bs.length cap rfl
          have hsame : Same (.slice A bs.length cap) (.slice Ac (bs.length - 24) (cap - 24)) := by
            rw [hAc]
            exact cut_same _ _ _ _
          rw [← encB_drop, ← hAc] at hcut
          clear hAc
          refine tail_step rfl ?_
          simp [go_sem, dd0, ff0]
          obtain ⟨W2, hW2⟩ : ∃ W2, W2 = W1.setCell ⟨fb, 0, none⟩ (.bool false) := ⟨_, rfl⟩
          rw [← hW2] at hb2 BF2 K2 hcut ⊢
          clear hW2 dd0 ff0
          have e2 := hb2.blk.cell 2
          have g2 := hb2.blk.frozen 2
          simp at e2
          refine ⟨dd2, ?_⟩
          refine tail_step rfl ?_
          simp [go_sem, e2, g2]
          unfold wpTail
          have hb3 := hb2.blk.set_ 2 (.slice Ac (bs.length - 24) (cap - 24))
          simp at hb3
          have k3 : Keep [fb] W2 (W2.setCell ⟨fb, 2, none⟩ (.slice Ac (bs.length - 24) (cap - 24))).drew := ((Keep.refl [fb] W2).setCell (p := ⟨fb, 2, none⟩) (.inl (by simp)) _).drew
          have hne := hb2.ne
          have HB3 := Lib.hid hb3
          have HCUT := Lib.hid hcut
          have HSAME := Lib.hid hsame
          have HNE := Lib.hid hne
          clear hb3 hcut hsame hne
          try go_at_K
          go_wp2
          go_meet
          case rel =>
            refine ⟨_, ⟨HB3.out.drew, HCUT.out.keep k3 (fun g hg => by simp; exact HNE.out g (HSAME.out g hg))⟩, BF2.keep k3 (by simp; omega), K2.out.trans k3, HSAME.out⟩
  case rest =>
    obtain ⟨v', h1, BF1, K1, hs1⟩ := hcut
    obtain ⟨A1, c1, rfl, hd1, hd2, hr1⟩ := h1.slice
    have hf := head_f xs
    obtain ⟨r1, r2, r3, r5, r6, hR⟩ : ∃ r1 r2 r3 r5 r6, headR xs = (r1, r2, r3, [], r5, r6) := by
      unfold headR
      split
      · exact ⟨_, _, _, _, _, rfl⟩
      · exact ⟨_, _, _, _, _, rfl⟩
    rw [hR] at hf
    have HC := PFd.frame_Head.calls 9 A1 c1 (ints xs) r1 r2 r3 [] r5 r6 wc (C_of hr1 (by omega)) (by rw [ints_len]; exact hd1) hf
    rw [ints_len] at HC
    have HC := Lib.hid HC
    have c2' := h1.blk.cell 2
    simp at c2'
    have HR := Lib.hid hR
    clear hr ha hxs hf kA BF hR d0 d2 d3 hr1
    go_wp2_with (fail)
    refine HC.out.mono ?_
    rintro e w2 ⟨v2, rfl, R2, B2⟩
    obtain ⟨A2, c2, hv2⟩ := Kd.R_slice R2
    subst hv2
    have k2 := (Keep.of_below B2).alloc (.cells #[.int .i64 r1, .int .i64 r2, .int .i64 r3, .slice A2 0 c2] 27)
    have h3 := h1.keep k2 (by simp) (by simp)
    have BF3 := BF1.keep k2 (by simp)
    have K3 := K1.trans (k2.more (by simp))
    have BX := Blk.new w2 27 #[.int .i64 r1, .int .i64 r2, .int .i64 r3, .slice A2 0 c2]
    have s1 := BF1.lt
    have s2 := B2.size
    clear R2 B2 HC h1 BF1 K1 k2 c2'
    go_upto_if 66 with (fail)
    obtain ⟨W3, hW3⟩ : ∃ W3, W3 = w2.alloc (.cells #[.int .i64 r1, .int .i64 r2, .int .i64 r3, .slice A2 0 c2] 27) := ⟨_, rfl⟩
    rw [← hW3] at h3 BF3 K3 BX ⊢
    clear hW3
    obtain ⟨xb, hxb⟩ : ∃ xb, xb = w2.heap.size := ⟨_, rfl⟩
    obtain ⟨rb, hrb⟩ : ∃ rb, rb = w.heap.size := ⟨_, rfl⟩
    have hrbs : Hid (rb = w.heap.size) := Lib.hid hrb
    have hx : Hid (w.heap.size ≤ xb) := Lib.hid (by omega)
    have hrx : Hid (rb < W3.heap.size ∧ True) := Lib.hid ⟨by have := BX.lt; omega, trivial⟩
    rw [← hxb] at BX s2 ⊢
    rw [← hrb] at BF3 s1 hlt ⊢
    have n1 : rb ≠ xb := by omega
    have n2 : xb ≠ rb := by omega
    have n3 : fb ≠ xb := by omega
    have n4 : xb ≠ fb := by omega
    have n5 : fb ≠ rb := by omega
    have n6 : rb ≠ fb := by omega
    clear hrb hxb s1 s2 ne2
    have H3 := Lib.hid h3
    have HBF := Lib.hid BF3
    have HBX := Lib.hid BX
    have HK3 := Lib.hid K3
    have e1 := h3.blk.cell 1
    have e2 := h3.blk.cell 2
    simp at e1 e2
    have q0 := BF3.cell 0
    have q1 := BF3.cell 1
    have q2 := BF3.cell 2
    have q3 := BF3.cell 3
    have g0 := BF3.frozen 0
    have g1 := BF3.frozen 1
    have g2 := BF3.frozen 2
    have g3 := BF3.frozen 3
    simp at q0 q1 q2 q3
    clear h3 BF3 BX K3
    obtain ⟨WZ, hWZ⟩ : ∃ WZ, WZ = W3 := ⟨_, rfl⟩
    by_cases hsh : xs.length < 9
    · have hr6 : r6 = 3 := by have := HR.out; unfold headR at this; rw [if_pos hsh] at this; injection this with _ h; injection h with _ h; injection h with _ h; injection h with _ h; injection h with _ h; exact h.symm
      subst hr6
      go_wp2
      subst hWZ
      have BZ := HBF
      have FB := (((BZ.out.set_ 0 (.int .i64 0)).set_ 1 (.int .i64 0)).set_ 2 (.int .i64 0)).set_ 3 (.slice none 0 0)
      simp only [List.setIfInBounds_toArray, List.set_cons_zero, List.set_cons_succ] at FB
      have KL := ((((Keep.refl [rb] WZ).setCell (p := ⟨rb, 0, none⟩) (.inl (by simp)) (.int .i64 0)).setCell (p := ⟨rb, 1, none⟩) (.inl (by simp)) (.int .i64 0)).setCell (p := ⟨rb, 2, none⟩) (.inl (by simp)) (.int .i64 0)).setCell (p := ⟨rb, 3, none⟩) (.inl (by simp)) (.slice none 0 0)
      refine bodyPost_ret (results_ct rfl _ _ rb 27 #[.int .i64 0, .int .i64 0, .int .i64 0, .slice none 0 0] (0, 0) _ rfl FB Try.underlying27 rfl (by kernel_rfl)) rfl ?_
      refine ⟨.inl ⟨rfl, .inl hsh, _, hs1, H3.out.keep KL (by simp; omega) (fun g hg => ?_)⟩, ?_⟩
      · have := H3.out.row.lt g hg
        have := row_ne H3.out.row HBF.out (by decide) g hg
        simp; omega
      · exact HK3.out.step KL (by have := hrbs.out; simp; omega)
    · have hH : headR xs = (((xs.getD 3 0).toNat : Int), ((xs.getD 4 0).toNat : Int), ((numB ((xs.drop 5).take 4) % 2147483648 : Nat) : Int), [], (hlen xs : Int), 0) := by unfold headR; rw [if_neg hsh]; rfl
      rw [hH] at HR
      have hr := HR.out
      simp only [Prod.mk.injEq] at hr
      obtain ⟨q1, q2, q3, _, q5, q6⟩ := hr
      have hfv : ∀ u, Value.agg #[.int .i64 r1, .int .i64 r2, .int .i64 r3, u] = frV xs u := fun u => by rw [← q1, ← q2, ← q3]; rfl
      have HFV := Lib.hid hfv
      subst q5 q6
      have hl3 := numB_lt 3 (xs.take 3) (by rw [List.length_take]; omega)
      have hl4 : hlen xs < 16777216 := hl3
      clear q1 q2 q3 hH HR hl3 hfv
      obtain ⟨n, hn⟩ : ∃ n, n = hlen xs := ⟨_, rfl⟩
      have Hn := Lib.hid hn
      rw [← hn] at hl4 ⊢
      clear hn
      by_cases hbig : most < (n : Int)
      · have HB := Lib.hid (breaks_ H3.out 6)
        subst hWZ
        clear e2
        go_wp2_with (fail)
        refine HB.out.mono ?_
        rintro e WZ ⟨rfl, h4, k4⟩
        have BF4 := HBF.out.keep k4 (by simp; omega)
        have BZ := Lib.hid BF4
        have K4 := Lib.hid (HK3.out.trans k4)
        have H4 := Lib.hid h4
        have z0 := BF4.cell 0
        have z1 := BF4.cell 1
        have z2 := BF4.cell 2
        have z3 := BF4.cell 3
        have y0 := BF4.frozen 0
        have y1 := BF4.frozen 1
        have y2 := BF4.frozen 2
        have y3 := BF4.frozen 3
        simp at z0 z1 z2 z3
        clear BF4 h4 k4 HB HBF H3 HBX HK3
        go_wp2
        have FB := (((BZ.out.set_ 0 (.int .i64 0)).set_ 1 (.int .i64 0)).set_ 2 (.int .i64 0)).set_ 3 (.slice none 0 0)
        simp only [List.setIfInBounds_toArray, List.set_cons_zero, List.set_cons_succ] at FB
        have KL := ((((Keep.refl [rb] WZ).setCell (p := ⟨rb, 0, none⟩) (.inl (by simp)) (.int .i64 0)).setCell (p := ⟨rb, 1, none⟩) (.inl (by simp)) (.int .i64 0)).setCell (p := ⟨rb, 2, none⟩) (.inl (by simp)) (.int .i64 0)).setCell (p := ⟨rb, 3, none⟩) (.inl (by simp)) (.slice none 0 0)
        refine bodyPost_ret (results_ct rfl _ _ rb 27 #[.int .i64 0, .int .i64 0, .int .i64 0, .slice none 0 0] (0, 0) _ rfl FB Try.underlying27 rfl (by kernel_rfl)) rfl ?_
        refine ⟨.inr (.inl ⟨rfl, by omega, by rw [← Hn.out]; exact hbig, H4.out.keep KL (by simp; omega) (fun g hg => by cases hg)⟩), K4.out.step KL (by have := hrbs.out; simp; omega)⟩
      · by_cases hsm : xs.length < 9 + n
        · have hsm' : (xs.length : Int) < 9 + (n : Int) := by omega
          have hwr : IntKind.i64.wrap (9 + (n : Int)) = 9 + (n : Int) := by simp [IntKind.wrap, IntKind.signed, IntKind.bits]; omega
          go_wp2
          subst hWZ
          have BZ := HBF
          have FB := (((BZ.out.set_ 0 (.int .i64 0)).set_ 1 (.int .i64 0)).set_ 2 (.int .i64 0)).set_ 3 (.slice none 0 0)
          simp only [List.setIfInBounds_toArray, List.set_cons_zero, List.set_cons_succ] at FB
          have KL := ((((Keep.refl [rb] WZ).setCell (p := ⟨rb, 0, none⟩) (.inl (by simp)) (.int .i64 0)).setCell (p := ⟨rb, 1, none⟩) (.inl (by simp)) (.int .i64 0)).setCell (p := ⟨rb, 2, none⟩) (.inl (by simp)) (.int .i64 0)).setCell (p := ⟨rb, 3, none⟩) (.inl (by simp)) (.slice none 0 0)
          refine bodyPost_ret (results_ct rfl _ _ rb 27 #[.int .i64 0, .int .i64 0, .int .i64 0, .slice none 0 0] (0, 0) _ rfl FB Try.underlying27 rfl (by kernel_rfl)) rfl ?_
          refine ⟨.inl ⟨rfl, .inr ⟨by rw [← Hn.out]; omega, by rw [← Hn.out]; exact hsm⟩, _, hs1, H3.out.keep KL (by simp; omega) (fun g hg => ?_)⟩, ?_⟩
          · have := H3.out.row.lt g hg
            have := row_ne H3.out.row HBF.out (by decide) g hg
            simp; omega
          · exact HK3.out.step KL (by have := hrbs.out; simp; omega)
        · have hsm' : ¬ (xs.length : Int) < 9 + (n : Int) := by omega
          have hwr : IntKind.i64.wrap (9 + (n : Int)) = 9 + (n : Int) := by simp [IntKind.wrap, IntKind.signed, IntKind.bits]; omega
          have z1 : (9 : Int) ≤ 9 + (n : Int) := by omega
          have z2 : 9 + (n : Int) ≤ (c1 : Int) := by omega
          have hcutn := H3.out.row.cut (9 + n) (by rw [encB_len]; omega) A1 xs.length c1 rfl
          have hsamen := cut_same A1 xs.length c1 (9 + n)
          have hcut9 := H3.out.row.cut 9 (by rw [encB_len]; omega) A1 xs.length c1 rfl
          rw [← encB_drop] at hcut9 hcutn
          obtain ⟨A9, hA9⟩ : ∃ A9, (if c1 = 9 then A1 else A1.map (·.add 9)) = A9 := ⟨_, rfl⟩
          obtain ⟨An, hAn⟩ : ∃ An, (if c1 = 9 + n then A1 else A1.map (·.add (9 + n))) = An := ⟨_, rfl⟩
          rw [hA9] at hcut9
          rw [hAn] at hcutn hsamen
          obtain ⟨_, _, he, _, _, hr9⟩ := hcut9.reads
          injection he with he1 he2 he3
          subst he1
          have hl9 : (encB (xs.drop 9)).length = xs.length - 9 := by rw [encB_len, List.length_drop]
          have hr9 := hr9.first (m := n) (by omega)
          rw [Nat.mul_one, ← encB_take] at hr9
          have HC9 := Lib.hid (clone W3 (c := c1 - 9) hr9 (Nat.le_refl _) (by omega))
          have HCn := Lib.hid hcutn
          have HSn := Lib.hid hsamen
          have HAn := Lib.hid hAn
          simp [Addr.add] at hA9
          clear hAn
          clear hcutn hsamen hcut9 he2 he3 hl9 hr9
          subst hWZ
          go_wp2_with (fail)
          refine HC9.out.mono ?_
          rintro e w4 ⟨u, rfl, hu, k4⟩
          obtain ⟨Au, cu, rfl, _⟩ := hu.reads
          have h4 := H3.out.keep k4 (by simp) (by simp)
          have BF4 := HBF.out.keep k4 (by simp)
          have BX4 := HBX.out.keep k4 (by simp)
          have hcn := HCn.out.keep k4 (by simp)
          have K4 := Lib.hid (HK3.out.trans (k4.more (by simp)))
          obtain ⟨pl, hpl⟩ : ∃ pl, pl = (xs.drop 9).take n := ⟨_, rfl⟩
          have hpn : pl.length = n := by rw [hpl, List.length_take, List.length_drop]; omega
          rw [← hpl, encB_len, hpn] at hu ⊢
          have HPL := Lib.hid hpl
          have HPN := Lib.hid hpn
          have HU := Lib.hid hu
          have H4 := Lib.hid h4
          have HBF4 := Lib.hid BF4
          have HBX4 := Lib.hid BX4
          have HCN := Lib.hid hcn
          have e2 := h4.blk.cell 2
          have f2 := h4.blk.frozen 2
          have x3 := BX4.cell 3
          have y3 := BX4.frozen 3
          simp at e2 x3
          have z3 : (9 : Int) + (n : Int) ≤ (xs.length : Int) := by omega
          have z4 : (0 : Int) ≤ 9 + (n : Int) := by omega
          clear hpl hpn hu h4 BF4 BX4 hcn k4 HC9 HCn H3 HBF HBX HK3
          go_upto_if 115 with (fail)
          rw [HAn.out]
          have KA : Keep [fb, xb] w4 ((w4.setCell ⟨xb, 3, none⟩ (.slice Au n cu)).setCell ⟨fb, 2, none⟩ (.slice An (xs.length - (9 + n)) (c1 - (9 + n)))) := ((Keep.refl [fb, xb] w4).setCell (p := ⟨xb, 3, none⟩) (.inl (by simp)) _).setCell (p := ⟨fb, 2, none⟩) (.inl (by simp)) _
          have hb5 := (H4.out.blk.far (p := ⟨xb, 3, none⟩) n3 (.slice Au n cu)).set_ 2 (.slice An (xs.length - (9 + n)) (c1 - (9 + n)))
          have BX5 := (HBX4.out.set_ 3 (.slice Au n cu)).far (p := ⟨fb, 2, none⟩) n4 (.slice An (xs.length - (9 + n)) (c1 - (9 + n)))
          simp at hb5 BX5
          have hne4 := fun g hg => H4.out.ne g (HSn.out g hg)
          have hnx4 := fun g hg => row_ne H4.out.row HBX4.out (by decide) g (HSn.out g hg)
          have hu5 := HU.out.keep KA (fun g hg => by have h1 := row_ne HU.out H4.out.blk (by decide) g hg; have h2 := row_ne HU.out HBX4.out (by decide) g hg; simp; exact ⟨h1, h2⟩)
          have hcn5 := HCN.out.keep KA (fun g hg => by have h1 := hne4 g hg; have h2 := hnx4 g hg; simp; exact ⟨h1, h2⟩)
          have BF5 := HBF4.out.keep KA (by simp; omega)
          have K5 : Keep [fb] w _ := K4.out.step KA (by have := hrbs.out; have := hx.out; simp; omega)
          have hz : Hid (rb < WZ.heap.size ∧ w.heap.size ≤ WZ.heap.size) := Lib.hid ⟨hrx.out.1, by have := hrbs.out; have := hrx.out.1; omega⟩
          obtain ⟨W5, hW5⟩ : ∃ W5, W5 = (w4.setCell ⟨xb, 3, none⟩ (.slice Au n cu)).setCell ⟨fb, 2, none⟩ (.slice An (xs.length - (9 + n)) (c1 - (9 + n))) := ⟨_, rfl⟩
          rw [← hW5] at hb5 BX5 hu5 hcn5 BF5 K5 ⊢
          clear hW5 KA HU HCN HBF4 HBX4 H4 K4 e2 f2 x3 y3 g0 g1 g2 g3 q0 q1 q2 q3 e1 hne4 hnx4 hr9
          have h5 : Fd W5 base fb false most (.slice An (xs.length - (9 + n)) (c1 - (9 + n))) (xs.drop (9 + n)) 0 := ⟨hb5, hcn5⟩
          by_cases hlast : xs.length = 9 + n
          · have hl0 : (((xs.length - (9 + n) : Nat) : Int) == 0) = true := by rw [beq_iff_eq]; omega
            have hnil : xs.drop (9 + n) = [] := List.drop_of_length_le (by omega)
            have hb6 := h5.blk.set_ 2 (.slice none 0 0)
            simp at hb6
            have KB : Keep [fb] W5 (W5.setCell ⟨fb, 2, none⟩ (.slice none 0 0)) := (Keep.refl [fb] W5).setCell (p := ⟨fb, 2, none⟩) (.inl (by simp)) _
            have BX6 := BX5.keep KB (by simp; omega)
            have BF6 := BF5.keep KB (by simp; omega)
            have hu6 := hu5.keep KB (fun g hg => by simp; exact row_ne hu5 h5.blk (by decide) g hg)
            have H6K := Lib.hid (K5.trans KB)
            have w2 := h5.blk.cell 2
            have wf2 := h5.blk.frozen 2
            simp at w2
            rw [hl0]
            obtain ⟨W6, hW6⟩ : ∃ W6, W6 = W5.setCell ⟨fb, 2, none⟩ (.slice none 0 0) := ⟨_, rfl⟩
            rw [← hW6] at hb6 BX6 BF6 hu6 H6K
            have H6 : Hid (Fd W6 base fb false most (.slice none 0 0) (xs.drop (9 + n)) 0) := Lib.hid ⟨hb6, by rw [hnil]; exact Row1.nil _ _ _⟩
            have HS6 : Hid (Same (.slice A bs.length cap) (.slice none 0 0)) := Lib.hid (fun g hg => by cases hg)
            have HU6 := Lib.hid hu6
            have BZ := Lib.hid BF6
            have x0 := BX5.cell 0
            have x1 := BX5.cell 1
            have x2 := BX5.cell 2
            have x3 := BX5.cell 3
            have y0 := BX5.frozen 0
            have y1 := BX5.frozen 1
            have y2 := BX5.frozen 2
            have y3 := BX5.frozen 3
            simp at x0 x1 x2 x3
            have z0 := BF5.cell 0
            have z1 := BF5.cell 1
            have z2 := BF5.cell 2
            have z3 := BF5.cell 3
            have t0 := BF5.frozen 0
            have t1 := BF5.frozen 1
            have t2 := BF5.frozen 2
            have t3 := BF5.frozen 3
            simp at z0 z1 z2 z3
            clear hb6 BX6 BF6 hu6 hb5 BX5 BF5 hu5 hcn5 h5 K5 KB hl0 hnil
            go_wp2
            subst hW6
            have FB := (((BZ.out.set_ 0 (.int .i64 r1)).set_ 1 (.int .i64 r2)).set_ 2 (.int .i64 r3)).set_ 3 (.slice Au n cu)
            simp only [List.setIfInBounds_toArray, List.set_cons_zero, List.set_cons_succ] at FB
            have KL := ((((Keep.refl [rb] (W5.setCell ⟨fb, 2, none⟩ (.slice none 0 0))).setCell (p := ⟨rb, 0, none⟩) (.inl (by simp)) (.int .i64 r1)).setCell (p := ⟨rb, 1, none⟩) (.inl (by simp)) (.int .i64 r2)).setCell (p := ⟨rb, 2, none⟩) (.inl (by simp)) (.int .i64 r3)).setCell (p := ⟨rb, 3, none⟩) (.inl (by simp)) (.slice Au n cu)
            refine bodyPost_ret (results_ct rfl _ _ rb 27 #[.int .i64 r1, .int .i64 r2, .int .i64 r3, .slice Au n cu] (0, 0) _ rfl FB Try.underlying27 rfl (by kernel_rfl)) rfl ?_
            have hnl := Hn.out
            refine ⟨.inr (.inr ⟨by omega, by rw [← hnl]; exact hbig, .slice Au n cu, ?_, ?_, .slice none 0 0, ?_, ?_⟩), H6K.out.step KL (by have := hrbs.out; simp; omega)⟩
            · exact congrArg (fun f => Ending.returned (.tuple #[f, .bool true])) (HFV.out _)
            · rw [← hnl, ← HPL.out]
              exact (HU6.out.keep KL (fun g hg => by have := HU6.out.lt g hg; have := hz.out; simp; omega)).lower (by have := hz.out; have := hrbs.out; omega)
            · exact HS6.out
            · rw [← hnl]
              exact H6.out.keep KL (by simp; omega) (fun g hg => by have := row_ne H6.out.row BZ.out (by decide) g hg; simp; omega)
          · have hl0 : (((xs.length - (9 + n) : Nat) : Int) == 0) = false := by rw [beq_eq_false_iff_ne]; omega
            have H6K := Lib.hid K5
            rw [hl0]
            obtain ⟨W6, hW6⟩ : ∃ W6, W6 = W5 := ⟨_, rfl⟩
            subst hW6
            have H6 := Lib.hid h5
            have HS6 : Hid (Same (.slice A bs.length cap) (.slice An (xs.length - (9 + n)) (c1 - (9 + n)))) := Lib.hid (fun g hg => hs1 g (HSn.out g hg))
            have HU6 := Lib.hid hu5
            have BZ := Lib.hid BF5
            have BX6 := BX5
            have BF6 := BF5
            have x0 := BX6.cell 0
            have x1 := BX6.cell 1
            have x2 := BX6.cell 2
            have x3 := BX6.cell 3
            have y0 := BX6.frozen 0
            have y1 := BX6.frozen 1
            have y2 := BX6.frozen 2
            have y3 := BX6.frozen 3
            simp at x0 x1 x2 x3
            have z0 := BF6.cell 0
            have z1 := BF6.cell 1
            have z2 := BF6.cell 2
            have z3 := BF6.cell 3
            have t0 := BF6.frozen 0
            have t1 := BF6.frozen 1
            have t2 := BF6.frozen 2
            have t3 := BF6.frozen 3
            simp at z0 z1 z2 z3
            clear BX6 BF6 BX5 BF5 hb5 hu5 hcn5 h5 K5 hl0
            go_wp2
            have FB := (((BZ.out.set_ 0 (.int .i64 r1)).set_ 1 (.int .i64 r2)).set_ 2 (.int .i64 r3)).set_ 3 (.slice Au n cu)
            simp only [List.setIfInBounds_toArray, List.set_cons_zero, List.set_cons_succ] at FB
            have KL := ((((Keep.refl [rb] W6).setCell (p := ⟨rb, 0, none⟩) (.inl (by simp)) (.int .i64 r1)).setCell (p := ⟨rb, 1, none⟩) (.inl (by simp)) (.int .i64 r2)).setCell (p := ⟨rb, 2, none⟩) (.inl (by simp)) (.int .i64 r3)).setCell (p := ⟨rb, 3, none⟩) (.inl (by simp)) (.slice Au n cu)
            refine bodyPost_ret (results_ct rfl _ _ rb 27 #[.int .i64 r1, .int .i64 r2, .int .i64 r3, .slice Au n cu] (0, 0) _ rfl FB Try.underlying27 rfl (by kernel_rfl)) rfl ?_
            have hnl := Hn.out
            refine ⟨.inr (.inr ⟨by omega, by rw [← hnl]; exact hbig, .slice Au n cu, ?_, ?_, .slice An (xs.length - (9 + n)) (c1 - (9 + n)), ?_, ?_⟩), H6K.out.step KL (by have := hrbs.out; simp; omega)⟩
            · exact congrArg (fun f => Ending.returned (.tuple #[f, .bool true])) (HFV.out _)
            · rw [← hnl, ← HPL.out]
              exact (HU6.out.keep KL (fun g hg => by have := HU6.out.lt g hg; have := hz.out; simp; omega)).lower (by have := hz.out; have := hrbs.out; omega)
            · exact HS6.out
            · rw [← hnl]
              exact H6.out.keep KL (by simp; omega) (fun g hg => by have := row_ne H6.out.row BZ.out (by decide) g hg; simp; omega)
end
end Go.Proofs.Ytigdigljcalgkaa
