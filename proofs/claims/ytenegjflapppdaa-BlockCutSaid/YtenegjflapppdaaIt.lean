/- block: Cut: the frames in which a block goes out. -/
import Derived.Test.YtenegjflapppdaaCtr2
import Derived.Test.YtenegjflapppdaaRng4
set_option linter.all false
namespace Go.Proofs.Ytenegjflapppdaa
open Go.ChangeShapes Go.WideShapes Go.ChangeAt Go.RowKit
attribute [local go_sem] setCell_drewN alloc_drewN Oper.semAt_some
theorem reads_suf {w : World} {B n c : Nat} {A : Option Addr} {xs : List UInt8} (h : Reads w B 1 A n (encB xs)) (k : Nat) (hk : k ≤ n) (hc : n ≤ c) : Reads w B 1 (if c = k then A else A.map (·.add k)) (n - k) (encB (xs.drop k)) := by
  have hl := h.1
  rw [encB_len] at hl
  refine ⟨by rw [encB_len, List.length_drop]; omega, fun h0 => ?_⟩
  obtain ⟨ad, rfl, hb, hcell⟩ := h.2 (by omega)
  rw [if_neg (by omega)]
  refine ⟨ad.add k, rfl, by rw [block_of_add]; exact hb, fun j u hu => ?_⟩
  rw [Go.Deep.add_add]
  refine hcell _ u ?_
  rw [encB_drop, List.getElem?_drop] at hu
  exact hu
/-- what Cut's walk finds: its captures and the block's bytes -/
structure CF (s : Nat) (W : World) (c1 c2 c3 c4 : Nat) (id : Int) (en : Bool) (A : Option Addr) (n c : Nat) (most : Nat) (bs : List UInt8) : Prop where
  b1 : Blk W c1 3 #[.int .i64 id]
  b2 : Blk W c2 4 #[.bool en]
  b3 : Blk W c3 27 #[.slice A n c]
  b4 : Blk W c4 3 #[.int .i64 most]
  rd : Reads W s 1 A n (encB bs)
  sz : s ≤ W.heap.size
theorem CF.keep {s : Nat} {W W' : World} {c1 c2 c3 c4 : Nat} {id : Int} {en : Bool} {A : Option Addr} {n c most : Nat} {bs : List UInt8} {gs : List Nat} (h : CF s W c1 c2 c3 c4 id en A n c most bs) (k : Keep gs W W') (hg : ∀ g ∈ gs, (0 < n → ∀ ad, A = some ad → ad.block ≠ g) ∧ g ≠ c1 ∧ g ≠ c2 ∧ g ≠ c3 ∧ g ≠ c4) : CF s W' c1 c2 c3 c4 id en A n c most bs :=
  ⟨h.b1.keep k (fun x => (hg _ x).2.1 rfl), h.b2.keep k (fun x => (hg _ x).2.2.1 rfl), h.b3.keep k (fun x => (hg _ x).2.2.2.1 rfl), h.b4.keep k (fun x => (hg _ x).2.2.2.2 rfl), h.rd.kept k h.sz (fun h0 ad e hx => (hg _ hx).1 h0 ad e rfl), Nat.le_trans h.sz k.size⟩
theorem cut_ (w : World) (id : Int) (en : Bool) (A : Option Addr) (n c : Nat) (most : Int) (mo : Nat) (hmo : (mo : Int) = max most 1) : Calls Try.prog 19 #[.int .i64 id, .bool en, .slice A n c, .int .i64 most] w fun e w' =>
    e = .returned (.func (.func 23) #[] #[.pointer (some ⟨w.heap.size, 0, none⟩), .pointer (some ⟨w.heap.size + 1, 0, none⟩), .pointer (some ⟨w.heap.size + 1 + 1, 0, none⟩), .pointer (some ⟨w.heap.size + 1 + 1 + 1, 0, none⟩)]) ∧
    w' = (((w.alloc (.cells #[.int .i64 id] 3)).alloc (.cells #[.bool en] 4)).alloc (.cells #[.slice A n c] 27)).alloc (.cells #[.int .i64 mo] 3) := by
  go_enter Try.func19, Try.ntmps19
  go_wp2
  · go_ret
    refine ⟨rfl, ?_⟩
    rw [show max most 1 = 1 by omega]
  · go_ret
    refine ⟨rfl, ?_⟩
    rw [show max most 1 = most by omega]
theorem wpIn_scope {n : Nat} {P : Program} {c : Code} {Q : Exit → Act → World → Prop} {a : Act} {w : World} (h : c.wpIn Fence.wide n P (Exit.noGoto Q) a w) : (Code.scope c).wpIn Fence.wide n P Q a w := wpIn_wide.2 (wp_scope_straight (wpIn_wide.1 h))
theorem cutNo {m l c1 c2 c3 c4 : Nat} {id : Int} (W : World) (h1 : Blk W c1 3 #[.int .i64 id]) (hid : id < 1 ∨ 2147483647 < id) :
    CallsIn Fence.wide (m + 1) Try.prog 23 #[.func (.yield l) #[] #[], .pointer (some ⟨c1, 0, none⟩), .pointer (some ⟨c2, 0, none⟩), .pointer (some ⟨c3, 0, none⟩), .pointer (some ⟨c4, 0, none⟩)] W fun e W' => (∃ v, e = .returned v) ∧ Keep [] W W' := by
  have p1 := h1.cell 0
  simp at p1
  refine callsIn_of_wp Try.func23 rfl trivial ?_ rfl
  simp only [Try.ntmps23, List.size_toArray, List.length_cons, List.length_nil, Nat.reduceAdd, Nat.reduceSub, Array.replicate_succ, Array.replicate_zero, List.push_toArray, List.append_toArray, List.nil_append, List.cons_append]
  clear h1
  refine wpIn_scope ?_
  by_cases h : id < 1
  · gi_wp2
    rw [Exit.noGoto_ret]
    refine bodyPost_ret (results_none rfl _ _ _) rfl ?_
    exact ⟨⟨_, rfl⟩, Keep.refl _ _⟩
  · have h2 : 2147483647 < id := by omega
    gi_wp2
    refine bodyPost_ret (results_none rfl _ _ _) rfl ?_
    exact ⟨⟨_, rfl⟩, Keep.refl _ _⟩
def typF : Nat → Int
  | 0 => 1
  | _ + 1 => 9
def flgF : Nat → Bool → Bool → Int
  | 0, true, true => 5
  | 0, true, false => 1
  | _, _, true => 4
  | _, _, false => 0
set_option maxRecDepth 100000 in
set_option maxHeartbeats 8000000 in
theorem cutIt {m l s c1 c2 c3 c4 : Nat} {id : Int} {en : Bool} {A : Option Addr} {n c mo : Nat} {bs : List UInt8} (hid : 1 ≤ id ∧ id ≤ 2147483647) (hmo : 1 ≤ mo) (hmo2 : mo ≤ 9223372036854775807) (hn : bs.length = n) (hnc : n ≤ c) (hcm : c ≤ 9223372036854775807) (hn48 : n ≤ 140737488355328)
    (J : Nat → Nat → World → Prop) (K : World → Prop) (hJ : ∀ j off W, J j off W → CF s W c1 c2 c3 c4 id en A n c mo bs) (W0 : World)
    (hst : ∀ j off W W', J j off W → Keep [W0.heap.size] W W' → J j off W')
    (hround : ∀ j off W k, J j off W → (j = 0 ∨ off < n) → (j = 0 → off = 0) → off ≤ n → k = min mo (n - off) → W0.heap.size < W.heap.size → ∀ W2 r, Keep [W0.heap.size] W W2 → CF s W2 c1 c2 c3 c4 id en A n c mo bs → Row1 W2 W.heap.size 5 r (encB ((bs.drop off).take k)) →
      YieldAt Fence.wide m Try.prog l #[.agg #[.int .i64 (typF j), .int .i64 (flgF j en (decide (off + k = n))), .int .i64 id, r]] W2 fun e W' => W'.heap[W0.heap.size]? = W2.heap[W0.heap.size]? ∧ ((e = .returned (.bool true) ∧ J (j + 1) (off + k) W') ∨ (e = .returned (.bool false) ∧ K W')))
    (h1 : c1 < W0.heap.size) (h2 : c2 < W0.heap.size) (h3 : c3 < W0.heap.size) (h4 : c4 < W0.heap.size) (h0 : J 0 0 W0) :
    CallsIn Fence.wide (m + 1) Try.prog 23 #[.func (.yield l) #[] #[], .pointer (some ⟨c1, 0, none⟩), .pointer (some ⟨c2, 0, none⟩), .pointer (some ⟨c3, 0, none⟩), .pointer (some ⟨c4, 0, none⟩)] W0 fun e W' => (∃ v, e = .returned v) ∧ ((∃ j, J (j + 1) n W') ∨ K W') := by
  have cf0 := hJ _ _ _ h0
  have p1 := cf0.b1.cell 0
  have p2 := cf0.b2.cell 0
  have p3 := cf0.b3.cell 0
  have p4 := cf0.b4.cell 0
  simp at p1 p2 p3 p4
  have g1 : ¬ id < 1 := by omega
  have g2 : ¬ 2147483647 < id := by omega
  have Hst := Lib.hid hst
  have HR := Lib.hid hround
  clear hst hround
  refine callsIn_of_wp Try.func23 rfl trivial ?_ rfl
  simp only [Try.ntmps23, List.size_toArray, List.length_cons, List.length_nil, Nat.reduceAdd, Nat.reduceSub, Array.replicate_succ, Array.replicate_zero, List.push_toArray, List.append_toArray, List.nil_append, List.cons_append]
  refine wpIn_scope ?_
  cases en
  · gi_wp2
    refine wpIn_label ?_
    gi_wp2
    have KL : Keep [] W0 (W0.alloc (.cells #[.int .i64 1, .int .i64 0, .int .i64 id, .slice none 0 0] 46)) := (Keep.refl [] W0).alloc _
    have BL := Blk.new W0 46 #[.int .i64 1, .int .i64 0, .int .i64 id, .slice none 0 0]
    obtain ⟨WL, hWL⟩ : ∃ WL, WL = W0.alloc (.cells #[.int .i64 1, .int .i64 0, .int .i64 id, .slice none 0 0] 46) := ⟨_, rfl⟩
    rw [← hWL] at KL BL ⊢
    clear hWL p1 p2 p3 p4
    have jL := Hst.out _ _ _ _ h0 (KL.more (by simp))
    obtain ⟨fb, hfb⟩ : ∃ fb, fb = W0.heap.size := ⟨_, rfl⟩
    rw [← hfb] at BL HR Hst h1 h2 h3 h4 ⊢
    have sz0 := cf0.sz
    rw [← hfb] at sz0
    clear hfb
    gi_loopw [7] (fun vr wr => ∃ (j off L c' : Nat) (A' : Option Addr) (ty fl : Int), vr = .slice A' L c' ∧ off + L = n ∧ L ≤ c' ∧ c' ≤ 9223372036854775807 ∧ (∀ W, Reads W s 1 A n (encB bs) → Reads W s 1 A' L (encB (bs.drop off))) ∧ Blk wr fb 46 #[.int .i64 ty, .int .i64 fl, .int .i64 id, .slice none 0 0] ∧ ((j = 0 ∧ off = 0 ∧ ty = 1 ∧ fl = 0) ∨ (1 ≤ j ∧ off < n ∧ ty = 9 ∧ fl = 0)) ∧ J j off wr) (fun vr _ => match vr with | .slice _ n _ => n | _ => 0)
    case atStart => exact ⟨0, 0, n, c, A, 1, 0, rfl, by omega, hnc, hcm, fun W h => by rw [List.drop_zero]; exact h, BL, .inl ⟨rfl, rfl, rfl, rfl⟩, jL⟩
    case round =>
      obtain ⟨j, off, L, c', A', ty, fl, rfl, hoL, hLc, hc63, hrd, hbf, hcs, hj⟩ := hrel
      have cf := hJ _ _ _ hj
      have q4 := cf.b4.cell 0
      simp at q4
      obtain ⟨k, hk⟩ : ∃ k, k = min mo L := ⟨_, rfl⟩
      have hkL : k ≤ L := by omega
      have hpre := Lib.hid (reads_pre (hrd wr cf.rd) k hkL)
      have hsuf : Hid (∀ W, Reads W s 1 A n (encB bs) → Reads W s 1 (if c' = k then A' else A'.map (·.add k)) (L - k) (encB (bs.drop (off + k)))) := Lib.hid (fun W h => by have := reads_suf (hrd W h) k hkL hLc; rw [List.drop_drop] at this; exact this)
      have hfbr := hbf.lt
      have hszr := cf.sz
      obtain ⟨T, hT⟩ : ∃ T, T = (bs.drop off).take k := ⟨_, rfl⟩
      rw [← hT] at hpre
      have hRd := Lib.hid (HR.out j off wr k hj (by omega) (by omega) (by omega) (by rw [show n - off = L by omega]; exact hk) hfbr)
      rw [← hT] at hRd
      have HT := Lib.hid hT
      have CFr := Lib.hid cf
      clear hT cf hj hrd
      have hbits : bits BinOp.or IntKind.i64 fl 4 = fl + 4 := by rcases hcs with ⟨_, _, _, rfl⟩ | ⟨_, _, _, rfl⟩ <;> rfl
      have Hty : Hid (typF j = ty) := Lib.hid (by
        rcases hcs with ⟨rfl, _, rfl, _⟩ | ⟨h, _, rfl, _⟩
        · rfl
        · obtain ⟨j, rfl⟩ : ∃ j', j = j' + 1 := ⟨j - 1, by omega⟩
          rfl)
      have Hfl : Hid (flgF j false false = fl) := Lib.hid (by
        rcases hcs with ⟨rfl, _, _, rfl⟩ | ⟨h, _, _, rfl⟩
        · rfl
        · obtain ⟨j, rfl⟩ : ∃ j', j = j' + 1 := ⟨j - 1, by omega⟩
          rfl)
      have Hfl4 : Hid (flgF j false true = fl + 4) := Lib.hid (by
        rcases hcs with ⟨rfl, _, _, rfl⟩ | ⟨h, _, _, rfl⟩
        · rfl
        · obtain ⟨j, rfl⟩ : ∃ j', j = j' + 1 := ⟨j - 1, by omega⟩
          rfl)
      clear hcs
      by_cases hmn : mo ≤ L
      · obtain rfl : k = mo := by omega
        clear hk
        have zm : (k : Int) ≤ (L : Int) := by omega
        have zm2 : ¬ (L : Int) < (k : Int) := by omega
        by_cases hlast : k = L
        · have z0 : (0 : Int) ≤ (k : Int) := by omega
          have z1 : (k : Int) ≤ (L : Int) := by omega
          have z2 : (k : Int) ≤ (c' : Int) := by omega
          have z3 : (L : Int) ≤ (c' : Int) := by omega
          have zl : (((L - k : Nat) : Int) == 0) = true := by rw [beq_iff_eq]; omega
          have HL := Lib.hid hlast
          clear hlast
          gi_wp2
          refine region_rth [(3, true), (7, true), (8, true), (9, false)] [] [(0, .slice A' L c'), (1, .int .i64 k), (2, .slice A' k c'), (4, .slice A' L c'), (5, .int .i64 k), (6, .slice (if c' = k then A' else A'.map (·.add k)) (L - k) (c' - k))]
            (fun _ => True) (by kernel_rfl) (by kernel_rfl) trivial ?_ ?_
          · (simp only [evOk, putAll, List.getElem?_toArray, List.getElem?_cons_zero, List.getElem?_cons_succ, Option.bind_some, Act.put, List.setIfInBounds_toArray, List.set_cons_zero, List.set_cons_succ]; repeat' apply And.intro) <;> first | exact trivial | (intro W _; simp [go_sem, z0, z1, z2, z3]; done)
          · simp only [putAll, List.getElem?_toArray, List.getElem?_cons_zero, List.getElem?_cons_succ, Option.bind_some, Act.put, List.setIfInBounds_toArray, List.set_cons_zero, List.set_cons_succ]
            obtain ⟨WR, hWR⟩ : ∃ WR, WR = wr.drew := ⟨_, rfl⟩
            have kR : Keep [] wr WR := by rw [hWR]; exact (Keep.refl [] wr).drew
            have sR : WR.heap.size = wr.heap.size := by rw [hWR]; rfl
            rw [← hWR]
            clear hWR
            refine tail_wanted rfl rfl ?_
            simp [go_sem]
            refine ⟨trivial, (callsIn_wide.2 (clone _ (hpre.out.keeps kR (by omega) (by simp)) (by omega) (by omega))).mono ?_⟩
            rintro e w3 ⟨r, rfl, hr3, k3⟩
            obtain ⟨Ar, cr, rfl, _⟩ := hr3.reads
            have b3 := (hbf.keep kR (by simp)).keep k3 (by simp)
            have d3 := b3.cell 3
            have f3 := b3.frozen 3
            simp at d3
            have b4 := b3.set_ 3 (.slice Ar (encB T).length cr)
            have k4 : Keep [fb] w3 (w3.setCell ⟨fb, 3, none⟩ (.slice Ar (encB T).length cr)) := (Keep.refl _ w3).setCell (p := ⟨fb, 3, none⟩) (.inl (by simp)) _
            have hr4 := hr3.keep k4 (fun g hg => by have := (hr3.lt g hg).1; simp; omega)
            rw [sR] at hr4
            refine ⟨gHolds_none rfl, ?_⟩
            refine tail_wanted rfl rfl ?_
            simp [go_sem]
            refine ⟨gHolds_none rfl, ?_⟩
            refine tail_wanted rfl rfl ?_
            simp [go_sem, d3, f3]
            refine ⟨gHolds_none rfl, ?_⟩
            refine tail_wanted rfl rfl ?_
            simp [go_sem]
            refine ⟨gHolds_none rfl, ?_⟩
            unfold wpTailG
            obtain ⟨W4, hW4⟩ : ∃ W4, W4 = w3.setCell ⟨fb, 3, none⟩ (.slice Ar (encB T).length cr) := ⟨_, rfl⟩
            rw [← hW4] at b4 hr4 k4 ⊢
            clear hW4
            have kw4 : Keep [fb] wr W4 := ((kR.trans k3).more (by simp)).trans k4
            have n1 := b4.cell 1
            have nf1 := b4.frozen 1
            simp at n1
            have b5 := b4.set_ 1 (.int .i64 (fl + 4))
            have k5 : Keep [fb] W4 (W4.setCell ⟨fb, 1, none⟩ (.int .i64 (fl + 4))) := (Keep.refl _ W4).setCell (p := ⟨fb, 1, none⟩) (.inl (by simp)) _
            have hr5 := hr4.keep k5 (fun g hg => by have := (hr4.lt g hg).1; simp; omega)
            have kw5 := kw4.trans k5
            clear k5
            have CF5 := CFr.out.keep kw5 (fun g hg => by simp at hg; subst hg; exact ⟨fun h0 ad e => by have := CFr.out.rd.blk_lt h0 ad e; omega, by omega, by omega, by omega, by omega⟩)
            have hY := hRd.out _ _ kw5 CF5 hr5
            have HLo := HL.out
            rw [show decide (off + k = n) = true by simp; omega] at hY
            clear HLo
            rw [Hty.out, Hfl4.out] at hY
            have e0 := b5.cell 0
            have e1 := b5.cell 1
            have e2 := b5.cell 2
            have e3 := b5.cell 3
            simp at e0 e1 e2 e3
            obtain ⟨fY, tY, aY, bY, hy, hR⟩ := hY
            have B5 := Lib.hid b5
            clear CF5 b5 hr5 kw5 hr4 kw4 k4 b4 d3 f3 b3 hr3 k3 kR hpre hRd CFr hbf q4
            go_at_K
            gi_wp2
            all_goals
              refine hR.mono ?_
              rintro e W' ⟨hfk, (⟨rfl, hj'⟩ | ⟨rfl, hk'⟩)⟩
              · gi_wp2
                try rw [Exit.noGoto_normal]
                refine bodyPost_end (results_none rfl _ _ _) rfl ?_
                refine ⟨⟨_, rfl⟩, .inl ⟨j, ?_⟩⟩
                have := HL.out
                rwa [show off + k = n by omega] at hj'
              · gi_wp2
                try rw [Exit.noGoto_normal]
                refine bodyPost_end (results_none rfl _ _ _) rfl ?_
                exact ⟨⟨_, rfl⟩, .inr hk'⟩
        · have z0 : (0 : Int) ≤ (k : Int) := by omega
          have z1 : (k : Int) ≤ (L : Int) := by omega
          have z2 : (k : Int) ≤ (c' : Int) := by omega
          have z3 : (L : Int) ≤ (c' : Int) := by omega
          have zl : (((L - k : Nat) : Int) == 0) = false := by simp only [beq_eq_false_iff_ne]; omega
          have HL := Lib.hid hlast
          clear hlast
          gi_wp2
          refine region_rth [(3, true), (7, true), (8, true), (9, false)] [] [(0, .slice A' L c'), (1, .int .i64 k), (2, .slice A' k c'), (4, .slice A' L c'), (5, .int .i64 k), (6, .slice (if c' = k then A' else A'.map (·.add k)) (L - k) (c' - k))]
            (fun _ => True) (by kernel_rfl) (by kernel_rfl) trivial ?_ ?_
          · (simp only [evOk, putAll, List.getElem?_toArray, List.getElem?_cons_zero, List.getElem?_cons_succ, Option.bind_some, Act.put, List.setIfInBounds_toArray, List.set_cons_zero, List.set_cons_succ]; repeat' apply And.intro) <;> first | exact trivial | (intro W _; simp [go_sem, z0, z1, z2, z3]; done)
          · simp only [putAll, List.getElem?_toArray, List.getElem?_cons_zero, List.getElem?_cons_succ, Option.bind_some, Act.put, List.setIfInBounds_toArray, List.set_cons_zero, List.set_cons_succ]
            obtain ⟨WR, hWR⟩ : ∃ WR, WR = wr.drew := ⟨_, rfl⟩
            have kR : Keep [] wr WR := by rw [hWR]; exact (Keep.refl [] wr).drew
            have sR : WR.heap.size = wr.heap.size := by rw [hWR]; rfl
            rw [← hWR]
            clear hWR
            refine tail_wanted rfl rfl ?_
            simp [go_sem]
            refine ⟨trivial, (callsIn_wide.2 (clone _ (hpre.out.keeps kR (by omega) (by simp)) (by omega) (by omega))).mono ?_⟩
            rintro e w3 ⟨r, rfl, hr3, k3⟩
            obtain ⟨Ar, cr, rfl, _⟩ := hr3.reads
            have b3 := (hbf.keep kR (by simp)).keep k3 (by simp)
            have d3 := b3.cell 3
            have f3 := b3.frozen 3
            simp at d3
            have b4 := b3.set_ 3 (.slice Ar (encB T).length cr)
            have k4 : Keep [fb] w3 (w3.setCell ⟨fb, 3, none⟩ (.slice Ar (encB T).length cr)) := (Keep.refl _ w3).setCell (p := ⟨fb, 3, none⟩) (.inl (by simp)) _
            have hr4 := hr3.keep k4 (fun g hg => by have := (hr3.lt g hg).1; simp; omega)
            rw [sR] at hr4
            refine ⟨gHolds_none rfl, ?_⟩
            refine tail_wanted rfl rfl ?_
            simp [go_sem]
            refine ⟨gHolds_none rfl, ?_⟩
            refine tail_wanted rfl rfl ?_
            simp [go_sem, d3, f3]
            refine ⟨gHolds_none rfl, ?_⟩
            refine tail_wanted rfl rfl ?_
            simp [go_sem]
            refine ⟨gHolds_none rfl, ?_⟩
            unfold wpTailG
            obtain ⟨W4, hW4⟩ : ∃ W4, W4 = w3.setCell ⟨fb, 3, none⟩ (.slice Ar (encB T).length cr) := ⟨_, rfl⟩
            rw [← hW4] at b4 hr4 k4 ⊢
            clear hW4
            have kw4 : Keep [fb] wr W4 := ((kR.trans k3).more (by simp)).trans k4
            have b5 := b4
            have hck : ¬ c' = k := by have := HL.out; omega
            have hr5 := hr4
            have kw5 := kw4
            have CF5 := CFr.out.keep kw5 (fun g hg => by simp at hg; subst hg; exact ⟨fun h0 ad e => by have := CFr.out.rd.blk_lt h0 ad e; omega, by omega, by omega, by omega, by omega⟩)
            have hY := hRd.out _ _ kw5 CF5 hr5
            have HLo := HL.out
            rw [show decide (off + k = n) = false by simp; omega] at hY
            clear HLo
            rw [Hty.out, Hfl.out] at hY
            have e0 := b5.cell 0
            have e1 := b5.cell 1
            have e2 := b5.cell 2
            have e3 := b5.cell 3
            simp at e0 e1 e2 e3
            obtain ⟨fY, tY, aY, bY, hy, hR⟩ := hY
            have B5 := Lib.hid b5
            clear CF5 b5 hr5 kw5 hr4 kw4 k4 b4 d3 f3 b3 hr3 k3 kR hpre hRd CFr hbf q4
            go_at_K
            gi_wp2
            all_goals
              refine hR.mono ?_
              rintro e W' ⟨hfk, (⟨rfl, hj'⟩ | ⟨rfl, hk'⟩)⟩
              · have b6 : Blk W' fb 46 _ := hfk.trans B5.out
                have e5 := b6.cell 0
                have e6 := b6.cell 1
                have e7 := b6.cell 2
                have e8 := b6.cell 3
                have e9 := b6.frozen 0
                have e10 := b6.frozen 1
                have e11 := b6.frozen 2
                have e12 := b6.frozen 3
                simp at e5 e6 e7 e8
                have q1 := (hJ _ _ _ hj').b1.cell 0
                simp at q1
                have HJ' := Lib.hid hj'
                clear hj'
                have hA : (if c' = k then A' else Option.map (fun x => x.add k) A') = Option.map (fun x => x.add k) A' := if_neg hck
                have hsuf2 := hsuf.out
                rw [hA] at hsuf2
                have HS := Lib.hid hsuf2
                clear hA hsuf2
                have hnk : off + k < n := by have := HL.out; omega
                gi_wp2
                have b7 := Lib.hid ((((b6.set_ 0 (.int .i64 9)).set_ 1 (.int .i64 0)).set_ 2 (.int .i64 id)).set_ 3 (.slice none 0 0))
                go_roundw
                case rel => exact ⟨j + 1, off + k, L - k, c' - k, _, 9, 0, rfl, by omega, by omega, by omega, HS.out, b7.out, .inr ⟨by omega, hnk, rfl, rfl⟩, Hst.out _ _ _ _ HJ'.out ((((Keep.refl _ W').setCell (p := ⟨fb, 0, none⟩) (.inl (by simp)) _).setCell (p := ⟨fb, 1, none⟩) (.inl (by simp)) _).setCell (p := ⟨fb, 2, none⟩) (.inl (by simp)) _ |>.setCell (p := ⟨fb, 3, none⟩) (.inl (by simp)) _)⟩
                case measure => simp; omega
              · gi_wp2
                try rw [Exit.noGoto_normal]
                refine bodyPost_end (results_none rfl _ _ _) rfl ?_
                exact ⟨⟨_, rfl⟩, .inr hk'⟩
      · obtain rfl : k = L := by omega
        clear hk
        have zm : ¬ (mo : Int) ≤ (k : Int) := by omega
        have zm2 : (k : Int) < (mo : Int) := by omega
        have z0 : (0 : Int) ≤ (k : Int) := by omega
        have z1 : (k : Int) ≤ (k : Int) := by omega
        have z2 : (k : Int) ≤ (c' : Int) := by omega
        have z3 : (k : Int) ≤ (c' : Int) := by omega
        have zl : (((k - k : Nat) : Int) == 0) = true := by rw [beq_iff_eq]; omega
        have HL := Lib.hid (rfl : k = k)
        gi_wp2
        refine region_rth [(3, true), (7, true), (8, true), (9, false)] [] [(0, .slice A' k c'), (1, .int .i64 k), (2, .slice A' k c'), (4, .slice A' k c'), (5, .int .i64 k), (6, .slice (if c' = k then A' else A'.map (·.add k)) (k - k) (c' - k))]
          (fun _ => True) (by kernel_rfl) (by kernel_rfl) trivial ?_ ?_
        · (simp only [evOk, putAll, List.getElem?_toArray, List.getElem?_cons_zero, List.getElem?_cons_succ, Option.bind_some, Act.put, List.setIfInBounds_toArray, List.set_cons_zero, List.set_cons_succ]; repeat' apply And.intro) <;> first | exact trivial | (intro W _; simp [go_sem, z0, z1, z2, z3]; done)
        · simp only [putAll, List.getElem?_toArray, List.getElem?_cons_zero, List.getElem?_cons_succ, Option.bind_some, Act.put, List.setIfInBounds_toArray, List.set_cons_zero, List.set_cons_succ]
          obtain ⟨WR, hWR⟩ : ∃ WR, WR = wr.drew := ⟨_, rfl⟩
          have kR : Keep [] wr WR := by rw [hWR]; exact (Keep.refl [] wr).drew
          have sR : WR.heap.size = wr.heap.size := by rw [hWR]; rfl
          rw [← hWR]
          clear hWR
          refine tail_wanted rfl rfl ?_
          simp [go_sem]
          refine ⟨trivial, (callsIn_wide.2 (clone _ (hpre.out.keeps kR (by omega) (by simp)) (by omega) (by omega))).mono ?_⟩
          rintro e w3 ⟨r, rfl, hr3, k3⟩
          obtain ⟨Ar, cr, rfl, _⟩ := hr3.reads
          have b3 := (hbf.keep kR (by simp)).keep k3 (by simp)
          have d3 := b3.cell 3
          have f3 := b3.frozen 3
          simp at d3
          have b4 := b3.set_ 3 (.slice Ar (encB T).length cr)
          have k4 : Keep [fb] w3 (w3.setCell ⟨fb, 3, none⟩ (.slice Ar (encB T).length cr)) := (Keep.refl _ w3).setCell (p := ⟨fb, 3, none⟩) (.inl (by simp)) _
          have hr4 := hr3.keep k4 (fun g hg => by have := (hr3.lt g hg).1; simp; omega)
          rw [sR] at hr4
          refine ⟨gHolds_none rfl, ?_⟩
          refine tail_wanted rfl rfl ?_
          simp [go_sem]
          refine ⟨gHolds_none rfl, ?_⟩
          refine tail_wanted rfl rfl ?_
          simp [go_sem, d3, f3]
          refine ⟨gHolds_none rfl, ?_⟩
          refine tail_wanted rfl rfl ?_
          simp [go_sem]
          refine ⟨gHolds_none rfl, ?_⟩
          unfold wpTailG
          obtain ⟨W4, hW4⟩ : ∃ W4, W4 = w3.setCell ⟨fb, 3, none⟩ (.slice Ar (encB T).length cr) := ⟨_, rfl⟩
          rw [← hW4] at b4 hr4 k4 ⊢
          clear hW4
          have kw4 : Keep [fb] wr W4 := ((kR.trans k3).more (by simp)).trans k4
          have n1 := b4.cell 1
          have nf1 := b4.frozen 1
          simp at n1
          have b5 := b4.set_ 1 (.int .i64 (fl + 4))
          have k5 : Keep [fb] W4 (W4.setCell ⟨fb, 1, none⟩ (.int .i64 (fl + 4))) := (Keep.refl _ W4).setCell (p := ⟨fb, 1, none⟩) (.inl (by simp)) _
          have hr5 := hr4.keep k5 (fun g hg => by have := (hr4.lt g hg).1; simp; omega)
          have kw5 := kw4.trans k5
          clear k5
          have CF5 := CFr.out.keep kw5 (fun g hg => by simp at hg; subst hg; exact ⟨fun h0 ad e => by have := CFr.out.rd.blk_lt h0 ad e; omega, by omega, by omega, by omega, by omega⟩)
          have hY := hRd.out _ _ kw5 CF5 hr5
          have HLo := HL.out
          rw [show decide (off + k = n) = true by simp; omega] at hY
          clear HLo
          rw [Hty.out, Hfl4.out] at hY
          have e0 := b5.cell 0
          have e1 := b5.cell 1
          have e2 := b5.cell 2
          have e3 := b5.cell 3
          simp at e0 e1 e2 e3
          obtain ⟨fY, tY, aY, bY, hy, hR⟩ := hY
          have B5 := Lib.hid b5
          clear CF5 b5 hr5 kw5 hr4 kw4 k4 b4 d3 f3 b3 hr3 k3 kR hpre hRd CFr hbf q4
          go_at_K
          gi_wp2
          all_goals
            refine hR.mono ?_
            rintro e W' ⟨hfk, (⟨rfl, hj'⟩ | ⟨rfl, hk'⟩)⟩
            · gi_wp2
              try rw [Exit.noGoto_normal]
              refine bodyPost_end (results_none rfl _ _ _) rfl ?_
              refine ⟨⟨_, rfl⟩, .inl ⟨j, ?_⟩⟩
              have := HL.out
              rwa [show off + k = n by omega] at hj'
            · gi_wp2
              try rw [Exit.noGoto_normal]
              refine bodyPost_end (results_none rfl _ _ _) rfl ?_
              exact ⟨⟨_, rfl⟩, .inr hk'⟩
  · gi_wp2
    refine wpIn_label ?_
    gi_wp2
    have KL : Keep [] W0 (W0.alloc (.cells #[.int .i64 1, .int .i64 1, .int .i64 id, .slice none 0 0] 46)) := (Keep.refl [] W0).alloc _
    have BL := Blk.new W0 46 #[.int .i64 1, .int .i64 1, .int .i64 id, .slice none 0 0]
    obtain ⟨WL, hWL⟩ : ∃ WL, WL = W0.alloc (.cells #[.int .i64 1, .int .i64 1, .int .i64 id, .slice none 0 0] 46) := ⟨_, rfl⟩
    rw [← hWL] at KL BL ⊢
    clear hWL p1 p2 p3 p4
    have jL := Hst.out _ _ _ _ h0 (KL.more (by simp))
    obtain ⟨fb, hfb⟩ : ∃ fb, fb = W0.heap.size := ⟨_, rfl⟩
    rw [← hfb] at BL HR Hst h1 h2 h3 h4 ⊢
    have sz0 := cf0.sz
    rw [← hfb] at sz0
    clear hfb
    gi_loopw [7] (fun vr wr => ∃ (j off L c' : Nat) (A' : Option Addr) (ty fl : Int), vr = .slice A' L c' ∧ off + L = n ∧ L ≤ c' ∧ c' ≤ 9223372036854775807 ∧ (∀ W, Reads W s 1 A n (encB bs) → Reads W s 1 A' L (encB (bs.drop off))) ∧ Blk wr fb 46 #[.int .i64 ty, .int .i64 fl, .int .i64 id, .slice none 0 0] ∧ ((j = 0 ∧ off = 0 ∧ ty = 1 ∧ fl = 1) ∨ (1 ≤ j ∧ off < n ∧ ty = 9 ∧ fl = 0)) ∧ J j off wr) (fun vr _ => match vr with | .slice _ n _ => n | _ => 0)
    case atStart => exact ⟨0, 0, n, c, A, 1, 1, rfl, by omega, hnc, hcm, fun W h => by rw [List.drop_zero]; exact h, BL, .inl ⟨rfl, rfl, rfl, rfl⟩, jL⟩
    case round =>
      obtain ⟨j, off, L, c', A', ty, fl, rfl, hoL, hLc, hc63, hrd, hbf, hcs, hj⟩ := hrel
      have cf := hJ _ _ _ hj
      have q4 := cf.b4.cell 0
      simp at q4
      obtain ⟨k, hk⟩ : ∃ k, k = min mo L := ⟨_, rfl⟩
      have hkL : k ≤ L := by omega
      have hpre := Lib.hid (reads_pre (hrd wr cf.rd) k hkL)
      have hsuf : Hid (∀ W, Reads W s 1 A n (encB bs) → Reads W s 1 (if c' = k then A' else A'.map (·.add k)) (L - k) (encB (bs.drop (off + k)))) := Lib.hid (fun W h => by have := reads_suf (hrd W h) k hkL hLc; rw [List.drop_drop] at this; exact this)
      have hfbr := hbf.lt
      have hszr := cf.sz
      obtain ⟨T, hT⟩ : ∃ T, T = (bs.drop off).take k := ⟨_, rfl⟩
      rw [← hT] at hpre
      have hRd := Lib.hid (HR.out j off wr k hj (by omega) (by omega) (by omega) (by rw [show n - off = L by omega]; exact hk) hfbr)
      rw [← hT] at hRd
      have HT := Lib.hid hT
      have CFr := Lib.hid cf
      clear hT cf hj hrd
      have hbits : bits BinOp.or IntKind.i64 fl 4 = fl + 4 := by rcases hcs with ⟨_, _, _, rfl⟩ | ⟨_, _, _, rfl⟩ <;> rfl
      have Hty : Hid (typF j = ty) := Lib.hid (by
        rcases hcs with ⟨rfl, _, rfl, _⟩ | ⟨h, _, rfl, _⟩
        · rfl
        · obtain ⟨j, rfl⟩ : ∃ j', j = j' + 1 := ⟨j - 1, by omega⟩
          rfl)
      have Hfl : Hid (flgF j true false = fl) := Lib.hid (by
        rcases hcs with ⟨rfl, _, _, rfl⟩ | ⟨h, _, _, rfl⟩
        · rfl
        · obtain ⟨j, rfl⟩ : ∃ j', j = j' + 1 := ⟨j - 1, by omega⟩
          rfl)
      have Hfl4 : Hid (flgF j true true = fl + 4) := Lib.hid (by
        rcases hcs with ⟨rfl, _, _, rfl⟩ | ⟨h, _, _, rfl⟩
        · rfl
        · obtain ⟨j, rfl⟩ : ∃ j', j = j' + 1 := ⟨j - 1, by omega⟩
          rfl)
      clear hcs
      by_cases hmn : mo ≤ L
      · obtain rfl : k = mo := by omega
        clear hk
        have zm : (k : Int) ≤ (L : Int) := by omega
        have zm2 : ¬ (L : Int) < (k : Int) := by omega
        by_cases hlast : k = L
        · have z0 : (0 : Int) ≤ (k : Int) := by omega
          have z1 : (k : Int) ≤ (L : Int) := by omega
          have z2 : (k : Int) ≤ (c' : Int) := by omega
          have z3 : (L : Int) ≤ (c' : Int) := by omega
          have zl : (((L - k : Nat) : Int) == 0) = true := by rw [beq_iff_eq]; omega
          have HL := Lib.hid hlast
          clear hlast
          gi_wp2
          refine region_rth [(3, true), (7, true), (8, true), (9, false)] [] [(0, .slice A' L c'), (1, .int .i64 k), (2, .slice A' k c'), (4, .slice A' L c'), (5, .int .i64 k), (6, .slice (if c' = k then A' else A'.map (·.add k)) (L - k) (c' - k))]
            (fun _ => True) (by kernel_rfl) (by kernel_rfl) trivial ?_ ?_
          · (simp only [evOk, putAll, List.getElem?_toArray, List.getElem?_cons_zero, List.getElem?_cons_succ, Option.bind_some, Act.put, List.setIfInBounds_toArray, List.set_cons_zero, List.set_cons_succ]; repeat' apply And.intro) <;> first | exact trivial | (intro W _; simp [go_sem, z0, z1, z2, z3]; done)
          · simp only [putAll, List.getElem?_toArray, List.getElem?_cons_zero, List.getElem?_cons_succ, Option.bind_some, Act.put, List.setIfInBounds_toArray, List.set_cons_zero, List.set_cons_succ]
            obtain ⟨WR, hWR⟩ : ∃ WR, WR = wr.drew := ⟨_, rfl⟩
            have kR : Keep [] wr WR := by rw [hWR]; exact (Keep.refl [] wr).drew
            have sR : WR.heap.size = wr.heap.size := by rw [hWR]; rfl
            rw [← hWR]
            clear hWR
            refine tail_wanted rfl rfl ?_
            simp [go_sem]
            refine ⟨trivial, (callsIn_wide.2 (clone _ (hpre.out.keeps kR (by omega) (by simp)) (by omega) (by omega))).mono ?_⟩
            rintro e w3 ⟨r, rfl, hr3, k3⟩
            obtain ⟨Ar, cr, rfl, _⟩ := hr3.reads
            have b3 := (hbf.keep kR (by simp)).keep k3 (by simp)
            have d3 := b3.cell 3
            have f3 := b3.frozen 3
            simp at d3
            have b4 := b3.set_ 3 (.slice Ar (encB T).length cr)
            have k4 : Keep [fb] w3 (w3.setCell ⟨fb, 3, none⟩ (.slice Ar (encB T).length cr)) := (Keep.refl _ w3).setCell (p := ⟨fb, 3, none⟩) (.inl (by simp)) _
            have hr4 := hr3.keep k4 (fun g hg => by have := (hr3.lt g hg).1; simp; omega)
            rw [sR] at hr4
            refine ⟨gHolds_none rfl, ?_⟩
            refine tail_wanted rfl rfl ?_
            simp [go_sem]
            refine ⟨gHolds_none rfl, ?_⟩
            refine tail_wanted rfl rfl ?_
            simp [go_sem, d3, f3]
            refine ⟨gHolds_none rfl, ?_⟩
            refine tail_wanted rfl rfl ?_
            simp [go_sem]
            refine ⟨gHolds_none rfl, ?_⟩
            unfold wpTailG
            obtain ⟨W4, hW4⟩ : ∃ W4, W4 = w3.setCell ⟨fb, 3, none⟩ (.slice Ar (encB T).length cr) := ⟨_, rfl⟩
            rw [← hW4] at b4 hr4 k4 ⊢
            clear hW4
            have kw4 : Keep [fb] wr W4 := ((kR.trans k3).more (by simp)).trans k4
            have n1 := b4.cell 1
            have nf1 := b4.frozen 1
            simp at n1
            have b5 := b4.set_ 1 (.int .i64 (fl + 4))
            have k5 : Keep [fb] W4 (W4.setCell ⟨fb, 1, none⟩ (.int .i64 (fl + 4))) := (Keep.refl _ W4).setCell (p := ⟨fb, 1, none⟩) (.inl (by simp)) _
            have hr5 := hr4.keep k5 (fun g hg => by have := (hr4.lt g hg).1; simp; omega)
            have kw5 := kw4.trans k5
            clear k5
            have CF5 := CFr.out.keep kw5 (fun g hg => by simp at hg; subst hg; exact ⟨fun h0 ad e => by have := CFr.out.rd.blk_lt h0 ad e; omega, by omega, by omega, by omega, by omega⟩)
            have hY := hRd.out _ _ kw5 CF5 hr5
            have HLo := HL.out
            rw [show decide (off + k = n) = true by simp; omega] at hY
            clear HLo
            rw [Hty.out, Hfl4.out] at hY
            have e0 := b5.cell 0
            have e1 := b5.cell 1
            have e2 := b5.cell 2
            have e3 := b5.cell 3
            simp at e0 e1 e2 e3
            obtain ⟨fY, tY, aY, bY, hy, hR⟩ := hY
            have B5 := Lib.hid b5
            clear CF5 b5 hr5 kw5 hr4 kw4 k4 b4 d3 f3 b3 hr3 k3 kR hpre hRd CFr hbf q4
            go_at_K
            gi_wp2
            all_goals
              refine hR.mono ?_
              rintro e W' ⟨hfk, (⟨rfl, hj'⟩ | ⟨rfl, hk'⟩)⟩
              · gi_wp2
                try rw [Exit.noGoto_normal]
                refine bodyPost_end (results_none rfl _ _ _) rfl ?_
                refine ⟨⟨_, rfl⟩, .inl ⟨j, ?_⟩⟩
                have := HL.out
                rwa [show off + k = n by omega] at hj'
              · gi_wp2
                try rw [Exit.noGoto_normal]
                refine bodyPost_end (results_none rfl _ _ _) rfl ?_
                exact ⟨⟨_, rfl⟩, .inr hk'⟩
        · have z0 : (0 : Int) ≤ (k : Int) := by omega
          have z1 : (k : Int) ≤ (L : Int) := by omega
          have z2 : (k : Int) ≤ (c' : Int) := by omega
          have z3 : (L : Int) ≤ (c' : Int) := by omega
          have zl : (((L - k : Nat) : Int) == 0) = false := by simp only [beq_eq_false_iff_ne]; omega
          have HL := Lib.hid hlast
          clear hlast
          gi_wp2
          refine region_rth [(3, true), (7, true), (8, true), (9, false)] [] [(0, .slice A' L c'), (1, .int .i64 k), (2, .slice A' k c'), (4, .slice A' L c'), (5, .int .i64 k), (6, .slice (if c' = k then A' else A'.map (·.add k)) (L - k) (c' - k))]
            (fun _ => True) (by kernel_rfl) (by kernel_rfl) trivial ?_ ?_
          · (simp only [evOk, putAll, List.getElem?_toArray, List.getElem?_cons_zero, List.getElem?_cons_succ, Option.bind_some, Act.put, List.setIfInBounds_toArray, List.set_cons_zero, List.set_cons_succ]; repeat' apply And.intro) <;> first | exact trivial | (intro W _; simp [go_sem, z0, z1, z2, z3]; done)
          · simp only [putAll, List.getElem?_toArray, List.getElem?_cons_zero, List.getElem?_cons_succ, Option.bind_some, Act.put, List.setIfInBounds_toArray, List.set_cons_zero, List.set_cons_succ]
            obtain ⟨WR, hWR⟩ : ∃ WR, WR = wr.drew := ⟨_, rfl⟩
            have kR : Keep [] wr WR := by rw [hWR]; exact (Keep.refl [] wr).drew
            have sR : WR.heap.size = wr.heap.size := by rw [hWR]; rfl
            rw [← hWR]
            clear hWR
            refine tail_wanted rfl rfl ?_
            simp [go_sem]
            refine ⟨trivial, (callsIn_wide.2 (clone _ (hpre.out.keeps kR (by omega) (by simp)) (by omega) (by omega))).mono ?_⟩
            rintro e w3 ⟨r, rfl, hr3, k3⟩
            obtain ⟨Ar, cr, rfl, _⟩ := hr3.reads
            have b3 := (hbf.keep kR (by simp)).keep k3 (by simp)
            have d3 := b3.cell 3
            have f3 := b3.frozen 3
            simp at d3
            have b4 := b3.set_ 3 (.slice Ar (encB T).length cr)
            have k4 : Keep [fb] w3 (w3.setCell ⟨fb, 3, none⟩ (.slice Ar (encB T).length cr)) := (Keep.refl _ w3).setCell (p := ⟨fb, 3, none⟩) (.inl (by simp)) _
            have hr4 := hr3.keep k4 (fun g hg => by have := (hr3.lt g hg).1; simp; omega)
            rw [sR] at hr4
            refine ⟨gHolds_none rfl, ?_⟩
            refine tail_wanted rfl rfl ?_
            simp [go_sem]
            refine ⟨gHolds_none rfl, ?_⟩
            refine tail_wanted rfl rfl ?_
            simp [go_sem, d3, f3]
            refine ⟨gHolds_none rfl, ?_⟩
            refine tail_wanted rfl rfl ?_
            simp [go_sem]
            refine ⟨gHolds_none rfl, ?_⟩
            unfold wpTailG
            obtain ⟨W4, hW4⟩ : ∃ W4, W4 = w3.setCell ⟨fb, 3, none⟩ (.slice Ar (encB T).length cr) := ⟨_, rfl⟩
            rw [← hW4] at b4 hr4 k4 ⊢
            clear hW4
            have kw4 : Keep [fb] wr W4 := ((kR.trans k3).more (by simp)).trans k4
            have b5 := b4
            have hck : ¬ c' = k := by have := HL.out; omega
            have hr5 := hr4
            have kw5 := kw4
            have CF5 := CFr.out.keep kw5 (fun g hg => by simp at hg; subst hg; exact ⟨fun h0 ad e => by have := CFr.out.rd.blk_lt h0 ad e; omega, by omega, by omega, by omega, by omega⟩)
            have hY := hRd.out _ _ kw5 CF5 hr5
            have HLo := HL.out
            rw [show decide (off + k = n) = false by simp; omega] at hY
            clear HLo
            rw [Hty.out, Hfl.out] at hY
            have e0 := b5.cell 0
            have e1 := b5.cell 1
            have e2 := b5.cell 2
            have e3 := b5.cell 3
            simp at e0 e1 e2 e3
            obtain ⟨fY, tY, aY, bY, hy, hR⟩ := hY
            have B5 := Lib.hid b5
            clear CF5 b5 hr5 kw5 hr4 kw4 k4 b4 d3 f3 b3 hr3 k3 kR hpre hRd CFr hbf q4
            go_at_K
            gi_wp2
            all_goals
              refine hR.mono ?_
              rintro e W' ⟨hfk, (⟨rfl, hj'⟩ | ⟨rfl, hk'⟩)⟩
              · have b6 : Blk W' fb 46 _ := hfk.trans B5.out
                have e5 := b6.cell 0
                have e6 := b6.cell 1
                have e7 := b6.cell 2
                have e8 := b6.cell 3
                have e9 := b6.frozen 0
                have e10 := b6.frozen 1
                have e11 := b6.frozen 2
                have e12 := b6.frozen 3
                simp at e5 e6 e7 e8
                have q1 := (hJ _ _ _ hj').b1.cell 0
                simp at q1
                have HJ' := Lib.hid hj'
                clear hj'
                have hA : (if c' = k then A' else Option.map (fun x => x.add k) A') = Option.map (fun x => x.add k) A' := if_neg hck
                have hsuf2 := hsuf.out
                rw [hA] at hsuf2
                have HS := Lib.hid hsuf2
                clear hA hsuf2
                have hnk : off + k < n := by have := HL.out; omega
                gi_wp2
                have b7 := Lib.hid ((((b6.set_ 0 (.int .i64 9)).set_ 1 (.int .i64 0)).set_ 2 (.int .i64 id)).set_ 3 (.slice none 0 0))
                go_roundw
                case rel => exact ⟨j + 1, off + k, L - k, c' - k, _, 9, 0, rfl, by omega, by omega, by omega, HS.out, b7.out, .inr ⟨by omega, hnk, rfl, rfl⟩, Hst.out _ _ _ _ HJ'.out ((((Keep.refl _ W').setCell (p := ⟨fb, 0, none⟩) (.inl (by simp)) _).setCell (p := ⟨fb, 1, none⟩) (.inl (by simp)) _).setCell (p := ⟨fb, 2, none⟩) (.inl (by simp)) _ |>.setCell (p := ⟨fb, 3, none⟩) (.inl (by simp)) _)⟩
                case measure => simp; omega
              · gi_wp2
                try rw [Exit.noGoto_normal]
                refine bodyPost_end (results_none rfl _ _ _) rfl ?_
                exact ⟨⟨_, rfl⟩, .inr hk'⟩
      · obtain rfl : k = L := by omega
        clear hk
        have zm : ¬ (mo : Int) ≤ (k : Int) := by omega
        have zm2 : (k : Int) < (mo : Int) := by omega
        have z0 : (0 : Int) ≤ (k : Int) := by omega
        have z1 : (k : Int) ≤ (k : Int) := by omega
        have z2 : (k : Int) ≤ (c' : Int) := by omega
        have z3 : (k : Int) ≤ (c' : Int) := by omega
        have zl : (((k - k : Nat) : Int) == 0) = true := by rw [beq_iff_eq]; omega
        have HL := Lib.hid (rfl : k = k)
        gi_wp2
        refine region_rth [(3, true), (7, true), (8, true), (9, false)] [] [(0, .slice A' k c'), (1, .int .i64 k), (2, .slice A' k c'), (4, .slice A' k c'), (5, .int .i64 k), (6, .slice (if c' = k then A' else A'.map (·.add k)) (k - k) (c' - k))]
          (fun _ => True) (by kernel_rfl) (by kernel_rfl) trivial ?_ ?_
        · (simp only [evOk, putAll, List.getElem?_toArray, List.getElem?_cons_zero, List.getElem?_cons_succ, Option.bind_some, Act.put, List.setIfInBounds_toArray, List.set_cons_zero, List.set_cons_succ]; repeat' apply And.intro) <;> first | exact trivial | (intro W _; simp [go_sem, z0, z1, z2, z3]; done)
        · simp only [putAll, List.getElem?_toArray, List.getElem?_cons_zero, List.getElem?_cons_succ, Option.bind_some, Act.put, List.setIfInBounds_toArray, List.set_cons_zero, List.set_cons_succ]
          obtain ⟨WR, hWR⟩ : ∃ WR, WR = wr.drew := ⟨_, rfl⟩
          have kR : Keep [] wr WR := by rw [hWR]; exact (Keep.refl [] wr).drew
          have sR : WR.heap.size = wr.heap.size := by rw [hWR]; rfl
          rw [← hWR]
          clear hWR
          refine tail_wanted rfl rfl ?_
          simp [go_sem]
          refine ⟨trivial, (callsIn_wide.2 (clone _ (hpre.out.keeps kR (by omega) (by simp)) (by omega) (by omega))).mono ?_⟩
          rintro e w3 ⟨r, rfl, hr3, k3⟩
          obtain ⟨Ar, cr, rfl, _⟩ := hr3.reads
          have b3 := (hbf.keep kR (by simp)).keep k3 (by simp)
          have d3 := b3.cell 3
          have f3 := b3.frozen 3
          simp at d3
          have b4 := b3.set_ 3 (.slice Ar (encB T).length cr)
          have k4 : Keep [fb] w3 (w3.setCell ⟨fb, 3, none⟩ (.slice Ar (encB T).length cr)) := (Keep.refl _ w3).setCell (p := ⟨fb, 3, none⟩) (.inl (by simp)) _
          have hr4 := hr3.keep k4 (fun g hg => by have := (hr3.lt g hg).1; simp; omega)
          rw [sR] at hr4
          refine ⟨gHolds_none rfl, ?_⟩
          refine tail_wanted rfl rfl ?_
          simp [go_sem]
          refine ⟨gHolds_none rfl, ?_⟩
          refine tail_wanted rfl rfl ?_
          simp [go_sem, d3, f3]
          refine ⟨gHolds_none rfl, ?_⟩
          refine tail_wanted rfl rfl ?_
          simp [go_sem]
          refine ⟨gHolds_none rfl, ?_⟩
          unfold wpTailG
          obtain ⟨W4, hW4⟩ : ∃ W4, W4 = w3.setCell ⟨fb, 3, none⟩ (.slice Ar (encB T).length cr) := ⟨_, rfl⟩
          rw [← hW4] at b4 hr4 k4 ⊢
          clear hW4
          have kw4 : Keep [fb] wr W4 := ((kR.trans k3).more (by simp)).trans k4
          have n1 := b4.cell 1
          have nf1 := b4.frozen 1
          simp at n1
          have b5 := b4.set_ 1 (.int .i64 (fl + 4))
          have k5 : Keep [fb] W4 (W4.setCell ⟨fb, 1, none⟩ (.int .i64 (fl + 4))) := (Keep.refl _ W4).setCell (p := ⟨fb, 1, none⟩) (.inl (by simp)) _
          have hr5 := hr4.keep k5 (fun g hg => by have := (hr4.lt g hg).1; simp; omega)
          have kw5 := kw4.trans k5
          clear k5
          have CF5 := CFr.out.keep kw5 (fun g hg => by simp at hg; subst hg; exact ⟨fun h0 ad e => by have := CFr.out.rd.blk_lt h0 ad e; omega, by omega, by omega, by omega, by omega⟩)
          have hY := hRd.out _ _ kw5 CF5 hr5
          have HLo := HL.out
          rw [show decide (off + k = n) = true by simp; omega] at hY
          clear HLo
          rw [Hty.out, Hfl4.out] at hY
          have e0 := b5.cell 0
          have e1 := b5.cell 1
          have e2 := b5.cell 2
          have e3 := b5.cell 3
          simp at e0 e1 e2 e3
          obtain ⟨fY, tY, aY, bY, hy, hR⟩ := hY
          have B5 := Lib.hid b5
          clear CF5 b5 hr5 kw5 hr4 kw4 k4 b4 d3 f3 b3 hr3 k3 kR hpre hRd CFr hbf q4
          go_at_K
          gi_wp2
          all_goals
            refine hR.mono ?_
            rintro e W' ⟨hfk, (⟨rfl, hj'⟩ | ⟨rfl, hk'⟩)⟩
            · gi_wp2
              try rw [Exit.noGoto_normal]
              refine bodyPost_end (results_none rfl _ _ _) rfl ?_
              refine ⟨⟨_, rfl⟩, .inl ⟨j, ?_⟩⟩
              have := HL.out
              rwa [show off + k = n by omega] at hj'
            · gi_wp2
              try rw [Exit.noGoto_normal]
              refine bodyPost_end (results_none rfl _ _ _) rfl ?_
              exact ⟨⟨_, rfl⟩, .inr hk'⟩
end Go.Proofs.Ytenegjflapppdaa
