/- What each method of drain (the program's and the reference's) comes to. -/
import Derived.Test.YtjnjglhkfaopmaaReads
import Derived.Lib.SlBytesConst
set_option linter.all false
namespace Go.Proofs.Ytjnjglhkfaopmaa
open Go.ChangeShapes Go.WideShapes Go.ChangeAt Go.RowKit
attribute [local go_sem] setCell_drewN alloc_drewN
def encA (xs : List (Int × Int)) : List Value := xs.flatMap fun p => [.int .i64 p.1, .int .i64 p.2]
theorem encA_len (xs : List (Int × Int)) : (encA xs).length = xs.length * 2 := by
  induction xs with
  | nil => rfl
  | cons x xs ih => simp [encA] at *; omega
theorem encA_append (a b : List (Int × Int)) : encA (a ++ b) = encA a ++ encA b := by simp [encA]
theorem encA_one (xs : List (Int × Int)) : ∀ u ∈ encA xs, u.oneCell' = true := by
  intro u hu
  simp only [encA, List.mem_flatMap] at hu
  obtain ⟨p, _, h⟩ := hu
  simp at h
  rcases h with rfl | rfl <;> rfl
def lookA (ph op : Int) : List (Int × Int) := if ph = 2 ∧ op ≤ 0 then [(3, 0)] else []
def lookP (ph op : Int) : Int := if ph = 2 ∧ op ≤ 0 then 3 else ph
def beginA (r ph op : Int) : List (Int × Int) := if ph ≠ 0 then [] else if r = 1 then (1, 0) :: lookA 2 op else [(1, 2147483647), (2, 0)]
def beginP (r ph op : Int) : Int := if ph ≠ 0 then ph else if r = 1 then lookP 2 op else 1
def pongA (ph : Int) (mk : Bool) (last op : Int) : List (Int × Int) := if ph = 1 ∧ mk = true then (1, last) :: lookA 2 op else []
def pongP (ph : Int) (mk : Bool) (op : Int) : Int := if ph = 1 ∧ mk = true then lookP 2 op else ph
def lateA (r ph last : Int) : List (Int × Int) := if ph = 3 then [] else if ph = 2 then [(3, 0)] else [(1, if r = 1 then 0 else last), (3, 0)]
/-- acts have come back, the drain is at a phase, nothing else that was there has turned -/
def ActsPost (w : World) (b : Nat) (t : TypeId) (r : Int) (xs : List (Int × Int)) (ph : Int) (e : Ending) (w' : World) : Prop :=
  ∃ A c, e = .returned (.slice A xs.length c) ∧ Reads w' w'.heap.size 2 A xs.length (encA xs) ∧ Blk w' b t #[.int .i64 r, .int .i64 ph] ∧ w.grownBy w' (some b) ∧ ∀ ad, A = some ad → w.heap.size ≤ ad.block
theorem acts_none {w : World} {b : Nat} {t : TypeId} {r ph : Int} {xs : List (Int × Int)} {ph' : Int} (hb : Blk w b t #[.int .i64 r, .int .i64 ph]) (hx : xs = []) (hp : ph' = ph) : ActsPost w b t r xs ph' (.returned (.slice none 0 0)) w := by
  subst hx hp
  exact ⟨none, 0, rfl, Reads.none_, hb, World.grownBy.refl w _, fun _ h => by cases h⟩
theorem acts_one {w : World} {b : Nat} {t : TypeId} {r ph : Int} {xs : List (Int × Int)} {ph' q k l : Int} (hb : Blk w b t #[.int .i64 r, .int .i64 ph]) (hx : xs = [(k, l)]) (hp : q = ph') :
    ActsPost w b t r xs ph' (.returned (.slice (some ⟨w.heap.size, 0, none⟩) 1 1)) ((w.setCell ⟨b, 1, none⟩ (.int .i64 q)).alloc (.cells #[.int .i64 k, .int .i64 l] 42)) := by
  subst hx hp
  have h := reads_of_blk (size := 2) (n := 1) (Blk.new (w.setCell ⟨b, 1, none⟩ (.int .i64 q)) 42 #[.int .i64 k, .int .i64 l]) rfl (by simp [maxLen])
  have hs : (w.setCell ⟨b, 1, none⟩ (.int .i64 q)).heap.size = w.heap.size := by simp [World.setCell]
  refine ⟨_, _, rfl, ?_, (hb.set_ 1 _).alloc _, only_alloc (only_setCell (p := ⟨b, 1, none⟩) (World.grownBy.refl w _) (.inl rfl) _) _, fun _ h => by injection h with h; subst h; exact Nat.le_refl _⟩
  rw [hs] at h
  exact h
theorem acts_two {w : World} {b : Nat} {t : TypeId} {r ph : Int} {xs : List (Int × Int)} {ph' q k l k' l' : Int} (hb : Blk w b t #[.int .i64 r, .int .i64 ph]) (hx : xs = [(k, l), (k', l')]) (hp : q = ph') :
    ActsPost w b t r xs ph' (.returned (.slice (some ⟨w.heap.size, 0, none⟩) 2 2)) ((w.setCell ⟨b, 1, none⟩ (.int .i64 q)).alloc (.cells #[.int .i64 k, .int .i64 l, .int .i64 k', .int .i64 l'] 42)) := by
  subst hx hp
  have h := reads_of_blk (size := 2) (n := 2) (Blk.new (w.setCell ⟨b, 1, none⟩ (.int .i64 q)) 42 #[.int .i64 k, .int .i64 l, .int .i64 k', .int .i64 l']) rfl (by simp [maxLen])
  have hs : (w.setCell ⟨b, 1, none⟩ (.int .i64 q)).heap.size = w.heap.size := by simp [World.setCell]
  refine ⟨_, _, rfl, ?_, (hb.set_ 1 _).alloc _, only_alloc (only_setCell (p := ⟨b, 1, none⟩) (World.grownBy.refl w _) (.inl rfl) _) _, fun _ h => by injection h with h; subst h; exact Nat.le_refl _⟩
  rw [hs] at h
  exact h
section
variable (b : Nat) (r ph last op : Int) (w : World)
theorem look (hb : Blk w b 55 #[.int .i64 r, .int .i64 ph]) :
    Calls Try.prog 14 #[.pointer (some ⟨b, 0, none⟩), .int .i64 last, .int .i64 op] w (ActsPost w b 55 r (lookA ph op) (lookP ph op)) := by
  have c0 := hb.cell 0
  have c1 := hb.cell 1
  simp at c0 c1
  have f1 := hb.frozen 1
  by_cases h2 : ph = 2
  · have q : (ph != 2) = false := by simp [h2]
    go_enter Try.func14, Try.ntmps14
    go_wp2
    · go_ret
      exact acts_none hb (by unfold lookA; rw [if_neg (by omega)]) (by unfold lookP; rw [if_neg (by omega)])
    · go_ret
      exact acts_one hb (by unfold lookA; rw [if_pos (by omega)]) (by unfold lookP; rw [if_pos (by omega)])
  · have q : (ph != 2) = true := by simp [h2]
    go_enter Try.func14, Try.ntmps14
    go_wp2
    go_ret
    exact acts_none hb (by unfold lookA; rw [if_neg (by omega)]) (by unfold lookP; rw [if_neg (by omega)])
theorem rlook (hb : Blk w b 30 #[.int .i64 r, .int .i64 ph]) :
    Calls Try.prog 15 #[.pointer (some ⟨b, 0, none⟩), .int .i64 op] w (ActsPost w b 30 r (lookA ph op) (lookP ph op)) := by
  have c0 := hb.cell 0
  have c1 := hb.cell 1
  simp at c0 c1
  have f1 := hb.frozen 1
  by_cases h2 : ph = 2
  · have q : (ph != 2) = false := by simp [h2]
    go_enter Try.func15, Try.ntmps15
    go_wp2
    · go_ret
      exact acts_none hb (by unfold lookA; rw [if_neg (by omega)]) (by unfold lookP; rw [if_neg (by omega)])
    · go_ret
      exact acts_one hb (by unfold lookA; rw [if_pos (by omega)]) (by unfold lookP; rw [if_pos (by omega)])
  · have q : (ph != 2) = true := by simp [h2]
    go_enter Try.func15, Try.ntmps15
    go_wp2
    go_ret
    exact acts_none hb (by unfold lookA; rw [if_neg (by omega)]) (by unfold lookP; rw [if_neg (by omega)])
theorem act_info : (Try.prog.info? 42).map (fun i => (i.zero, i.size, i.bytes)) = some (some (.agg #[.int .i64 0, .int .i64 0]), 2, 16) := by kernel_rfl
theorem goes (hb : Blk w b 55 #[.int .i64 r, .int .i64 ph]) :
    Calls Try.prog 24 #[.pointer (some ⟨b, 0, none⟩), .int .i64 last, .int .i64 op] w (ActsPost w b 55 r ((1, last) :: lookA 2 op) (lookP 2 op)) := by
  have c0 := hb.cell 0
  have c1 := hb.cell 1
  simp at c0 c1
  have f1 := hb.frozen 1
  obtain ⟨i0, hi, hz0, hz1, hz2⟩ := info_parts act_info
  go_enter Try.func24, Try.ntmps24
  go_wp2_with (first
    | (go_at_call 14; refine (look b r 2 last op _ ((hb.set_ 1 _).alloc _)).mono ?_; rintro e w2 ⟨A, c, rfl, hr, hb2, hg, hfr⟩)
    | (at_builtin
       have hs : (w.setCell ⟨b, 1, none⟩ (.int .i64 2)).heap.size = w.heap.size := by simp [World.setCell]
       have hn := Blk.new (w.setCell ⟨b, 1, none⟩ (.int .i64 2)) 42 #[.int .i64 1, .int .i64 last]
       rw [hs] at hn
       have hlt := hb.lt
       have hn2 := hn.grown hg (by simp; omega)
       have hlen : (lookA 2 op).length ≤ 1 := by unfold lookA; split <;> simp
       refine wpList_append_any _ rfl _ _ _ rfl w.heap.size 42 i0 _ 2 16 Try.underlying31 hi hz0 hz1 hz2 rfl (by omega) (.slice (some ⟨w.heap.size, 0, none⟩) 1 1) 1 _ rfl (own_of_blk (n := 1) hn2 rfl (by simp [maxLen])) _ A _ c _ rfl hr (encA_one _) (by simp only [maxLen]; omega) (by omega) (by have := hg.size; simp at this; omega) ?_
       intro v3 w3 hown3 hg3 hat3))
  obtain ⟨g', cap', rfl, hb1, hlt'⟩ := hown3.form (by omega)
  go_ret
  have hr3 := Reads.of_own hown3
  rw [Nat.add_comm] at hr3 ⊢
  refine ⟨_, cap', rfl, hr3, hb2.grown hg3 (by simp [Value.ownBlock]; omega), only_trans (only_trans (only_alloc (only_setCell (p := ⟨b, 1, none⟩) (World.grownBy.refl w _) (.inl rfl) _) _) hg (fun i e => .inl (by injection e with e; exact e.symm))) hg3 (fun i e => .inr (by simp [Value.ownBlock] at e; omega)), fun _ h => by injection h with h; subst h; (try have hsz := hg.size); (try simp [World.setCell] at hsz); simp only []; omega⟩
theorem begin_ (hb : Blk w b 55 #[.int .i64 r, .int .i64 ph]) :
    Calls Try.prog 10 #[.pointer (some ⟨b, 0, none⟩), .int .i64 last, .int .i64 op] w (ActsPost w b 55 r (beginA r ph op) (beginP r ph op)) := by
  have c0 := hb.cell 0
  have c1 := hb.cell 1
  simp at c0 c1
  have f1 := hb.frozen 1
  by_cases h0 : ph = 0
  · have q : (ph != 0) = false := by simp [h0]
    by_cases h1 : r = 1
    · have q1 : (r == 1) = true := by simp [h1]
      go_enter Try.func10, Try.ntmps10
      go_wp2_with (go_at_call 24; refine (goes b r ph 0 op w hb).mono ?_; rintro e w2 ⟨A, c, rfl, hr, hb2, hg, hfr⟩)
      go_ret
      have e1 : beginA r ph op = (1, 0) :: lookA 2 op := by unfold beginA; rw [if_neg (by omega), if_pos h1]
      have e2 : beginP r ph op = lookP 2 op := by unfold beginP; rw [if_neg (by omega), if_pos h1]
      rw [e1, e2]
      exact ⟨A, c, rfl, hr, hb2, hg, hfr⟩
    · have q1 : (r == 1) = false := by simp [h1]
      go_enter Try.func10, Try.ntmps10
      go_wp2
      go_ret
      exact acts_two hb (by unfold beginA; rw [if_neg (by omega), if_neg h1]) (by unfold beginP; rw [if_neg (by omega), if_neg h1])
  · have q : (ph != 0) = true := by simp [h0]
    go_enter Try.func10, Try.ntmps10
    go_wp2
    go_ret
    exact acts_none hb (by unfold beginA; rw [if_pos h0]) (by unfold beginP; rw [if_pos h0])
theorem rbegin (hr12 : r = 1 ∨ r = 2) (hb : Blk w b 30 #[.int .i64 r, .int .i64 ph]) :
    Calls Try.prog 11 #[.pointer (some ⟨b, 0, none⟩), .int .i64 op] w (ActsPost w b 30 r (beginA r ph op) (beginP r ph op)) := by
  have c0 := hb.cell 0
  have c1 := hb.cell 1
  simp at c0 c1
  have f1 := hb.frozen 1
  obtain ⟨i0, hi, hz0, hz1, hz2⟩ := info_parts act_info
  by_cases h0 : ph = 0
  · by_cases h1 : r = 1
    · subst h0 h1
      have hlt := hb.lt
      go_enter Try.func11, Try.ntmps11
      go_wp2_with (first
        | (go_at_call 15; refine (rlook b _ 2 op _ (hb.set_ 1 _)).mono ?_; rintro e w2 ⟨A, c, rfl, hr, hb2, hg, hfr⟩)
        | (at_builtin
           have hlen : (lookA 2 op).length ≤ 1 := by unfold lookA; split <;> simp
           have hn2 := Blk.new w2 42 #[.int .i64 1, .int .i64 0]
           refine wpList_append_any _ rfl _ _ _ rfl w2.heap.size 42 i0 _ 2 16 Try.underlying31 hi hz0 hz1 hz2 rfl (by omega) (.slice (some ⟨w2.heap.size, 0, none⟩) 1 1) 1 _ rfl (own_of_blk (n := 1) hn2 rfl (by simp [maxLen])) _ A _ c _ rfl (hr.alloc (Nat.le_refl _) _) (encA_one _) (by simp only [maxLen]; omega) (by omega) (by simp) ?_
           intro v3 w3 hown3 hg3 hat3))
      obtain ⟨g', cap', rfl, hb1, hlt'⟩ := hown3.form (by omega)
      go_ret
      have hr3 := Reads.of_own hown3
      rw [Nat.add_comm] at hr3 ⊢
      rw [show beginA 1 0 op = (1, 0) :: lookA 2 op from rfl, show beginP 1 0 op = lookP 2 op from rfl]
      have hsz := hg.size
      simp [World.setCell] at hsz
      refine ⟨_, cap', rfl, hr3, (hb2.alloc _).grown hg3 (by have := hb2.lt; simp [Value.ownBlock]; omega), only_trans (only_alloc (only_trans (only_setCell (p := ⟨b, 1, none⟩) (World.grownBy.refl w _) (.inl rfl) _) hg (fun i e => .inl (by injection e with e; exact e.symm))) _) hg3 (fun i e => .inr (by simp [Value.ownBlock] at e; omega)), fun _ h => by injection h with h; subst h; (try have hsz := hg.size); (try simp [World.setCell] at hsz); simp only []; omega⟩
    · have q : (ph != 0) = false := by simp [h0]
      have q1 : (r == 2) = true := by simp; omega
      go_enter Try.func11, Try.ntmps11
      go_wp2
      go_ret
      exact acts_two hb (by unfold beginA; rw [if_neg (by omega), if_neg h1]) (by unfold beginP; rw [if_neg (by omega), if_neg h1])
  · have q : (ph != 0) = true := by simp [h0]
    go_enter Try.func11, Try.ntmps11
    go_wp2
    go_ret
    exact acts_none hb (by unfold beginA; rw [if_pos h0]) (by unfold beginP; rw [if_pos h0])
end
def markL : List UInt8 := [100, 114, 97, 105, 110, 0, 0, 0]
def strIs (w : World) (A : Option Addr) (n c : Nat) (s : ByteArray) : Prop := (convert 32 9 (.slice A n c)).run Try.prog w = .ok (.string s) w
section
variable (b : Nat) (r ph last op : Int) (w : World) (A : Option Addr) (n c : Nat) (s : ByteArray) (mk : Bool)
theorem pong (hs : strIs w A n c s) (hmk : (s.toList == [100, 114, 97, 105, 110, 0, 0, 0]) = mk) (hb : Blk w b 55 #[.int .i64 r, .int .i64 ph]) :
    Calls Try.prog 12 #[.pointer (some ⟨b, 0, none⟩), .slice A n c, .int .i64 last, .int .i64 op] w (ActsPost w b 55 r (pongA ph mk last op) (pongP ph mk op)) := by
  have c0 := hb.cell 0
  have c1 := hb.cell 1
  simp at c0 c1
  have f1 := hb.frozen 1
  unfold strIs at hs
  by_cases h1 : ph = 1
  · subst h1
    cases mk with
    | true =>
      go_enter Try.func12, Try.ntmps12
      go_wp2_with (go_at_call 24; refine (goes b r 1 last op w hb).mono ?_; rintro e w2 ⟨A, c, rfl, hr, hb2, hg, hfr⟩)
      go_ret
      exact ⟨A, c, rfl, hr, hb2, hg, hfr⟩
    | false =>
      go_enter Try.func12, Try.ntmps12
      go_wp2
      go_ret
      exact acts_none hb rfl rfl
  · have q : (ph != 1) = true := by simp [h1]
    have e1 : pongA ph mk last op = [] := by unfold pongA; rw [if_neg (by omega)]
    have e2 : pongP ph mk op = ph := by unfold pongP; rw [if_neg (by omega)]
    rw [e1, e2]
    clear e1 e2 hmk
    go_enter Try.func12, Try.ntmps12
    go_wp2
    go_ret
    exact acts_none hb rfl rfl
theorem rpong (hs : strIs w A n c s) (hmk : (s.toList == [100, 114, 97, 105, 110, 0, 0, 0]) = mk) (hb : Blk w b 30 #[.int .i64 r, .int .i64 ph]) :
    Calls Try.prog 13 #[.pointer (some ⟨b, 0, none⟩), .slice A n c, .int .i64 last, .int .i64 op] w (ActsPost w b 30 r (pongA ph mk last op) (pongP ph mk op)) := by
  have c0 := hb.cell 0
  have c1 := hb.cell 1
  simp at c0 c1
  have f1 := hb.frozen 1
  unfold strIs at hs
  obtain ⟨i0, hi, hz0, hz1, hz2⟩ := info_parts act_info
  have hlt := hb.lt
  by_cases h1 : ph = 1
  · subst h1
    cases mk with
    | true =>
      go_enter Try.func13, Try.ntmps13
      go_wp2_with (first
        | (go_at_call 15; refine (rlook b _ 2 op _ (hb.set_ 1 _)).mono ?_; rintro e w2 ⟨A, c, rfl, hr, hb2, hg, hfr⟩)
        | (at_builtin
           have hlen : (lookA 2 op).length ≤ 1 := by unfold lookA; split <;> simp
           have hn2 := Blk.new w2 42 #[.int .i64 1, .int .i64 last]
           refine wpList_append_any _ rfl _ _ _ rfl w2.heap.size 42 i0 _ 2 16 Try.underlying31 hi hz0 hz1 hz2 rfl (by omega) (.slice (some ⟨w2.heap.size, 0, none⟩) 1 1) 1 _ rfl (own_of_blk (n := 1) hn2 rfl (by simp [maxLen])) _ A _ c _ rfl (hr.alloc (Nat.le_refl _) _) (encA_one _) (by simp only [maxLen]; omega) (by omega) (by simp) ?_
           intro v3 w3 hown3 hg3 hat3))
      obtain ⟨g', cap', rfl, hb1, hlt'⟩ := hown3.form (by omega)
      go_ret
      have hr3 := Reads.of_own hown3
      rw [Nat.add_comm] at hr3 ⊢
      rw [show pongA 1 true last op = (1, last) :: lookA 2 op from rfl, show pongP 1 true op = lookP 2 op from rfl]
      have hsz := hg.size
      simp [World.setCell] at hsz
      refine ⟨_, cap', rfl, hr3, (hb2.alloc _).grown hg3 (by have := hb2.lt; simp [Value.ownBlock]; omega), only_trans (only_alloc (only_trans (only_setCell (p := ⟨b, 1, none⟩) (World.grownBy.refl w _) (.inl rfl) _) hg (fun i e => .inl (by injection e with e; exact e.symm))) _) hg3 (fun i e => .inr (by simp [Value.ownBlock] at e; omega)), fun _ h => by injection h with h; subst h; (try have hsz := hg.size); (try simp [World.setCell] at hsz); simp only []; omega⟩
    | false =>
      go_enter Try.func13, Try.ntmps13
      go_wp2
      go_ret
      exact acts_none hb rfl rfl
  · have q : (ph != 1) = true := by simp [h1]
    have e1 : pongA ph mk last op = [] := by unfold pongA; rw [if_neg (by omega)]
    have e2 : pongP ph mk op = ph := by unfold pongP; rw [if_neg (by omega)]
    rw [e1, e2]
    clear e1 e2 hmk
    go_enter Try.func13, Try.ntmps13
    go_wp2
    go_ret
    exact acts_none hb rfl rfl
end
section
variable (b : Nat) (r ph last : Int) (w : World)
theorem late (hb : Blk w b 55 #[.int .i64 r, .int .i64 ph]) :
    Calls Try.prog 16 #[.pointer (some ⟨b, 0, none⟩), .int .i64 last] w (ActsPost w b 55 r (lateA r ph last) 3) := by
  have c0 := hb.cell 0
  have c1 := hb.cell 1
  simp at c0 c1
  have f1 := hb.frozen 1
  by_cases h3 : ph = 3
  · subst h3
    go_enter Try.func16, Try.ntmps16
    go_wp2
    go_ret
    exact acts_none hb rfl rfl
  · have q : (ph == 3) = false := by simp [h3]
    by_cases h2 : ph = 2
    · subst h2
      go_enter Try.func16, Try.ntmps16
      go_wp2
      go_ret
      exact acts_one hb rfl rfl
    · have q2 : (ph == 2) = false := by simp [h2]
      by_cases h1 : r = 1
      · subst h1
        have e1 : lateA 1 ph last = [(1, 0), (3, 0)] := by unfold lateA; rw [if_neg h3, if_neg h2]; rfl
        rw [e1]
        clear e1 h3 h2
        go_enter Try.func16, Try.ntmps16
        go_wp2
        go_ret
        exact acts_two hb rfl rfl
      · have q3 : (r == 1) = false := by simp [h1]
        have e1 : lateA r ph last = [(1, last), (3, 0)] := by unfold lateA; rw [if_neg h3, if_neg h2, if_neg h1]
        rw [e1]
        clear e1 h3 h2 h1
        go_enter Try.func16, Try.ntmps16
        go_wp2
        go_ret
        exact acts_two hb rfl rfl
theorem rlate (hb : Blk w b 30 #[.int .i64 r, .int .i64 ph]) :
    Calls Try.prog 17 #[.pointer (some ⟨b, 0, none⟩), .int .i64 last] w (ActsPost w b 30 r (lateA r ph last) 3) := by
  have c0 := hb.cell 0
  have c1 := hb.cell 1
  simp at c0 c1
  have f1 := hb.frozen 1
  by_cases h3 : ph = 3
  · subst h3
    go_enter Try.func17, Try.ntmps17
    go_wp2
    go_ret
    exact acts_none hb rfl rfl
  · have q : (ph == 3) = false := by simp [h3]
    by_cases h2 : ph = 2
    · subst h2
      go_enter Try.func17, Try.ntmps17
      go_wp2
      go_ret
      exact acts_one hb rfl rfl
    · have q2 : (ph == 2) = false := by simp [h2]
      by_cases h1 : r = 1
      · subst h1
        have e1 : lateA 1 ph last = [(1, 0), (3, 0)] := by unfold lateA; rw [if_neg h3, if_neg h2]; rfl
        rw [e1]
        clear e1 h3 h2
        go_enter Try.func17, Try.ntmps17
        go_wp2
        go_ret
        exact acts_two hb rfl rfl
      · have q3 : (r == 1) = false := by simp [h1]
        have e1 : lateA r ph last = [(1, last), (3, 0)] := by unfold lateA; rw [if_neg h3, if_neg h2, if_neg h1]
        rw [e1]
        clear e1 h3 h2 h1
        go_enter Try.func17, Try.ntmps17
        go_wp2
        go_ret
        exact acts_two hb rfl rfl
theorem phase (hb : Blk w b 55 #[.int .i64 r, .int .i64 ph]) :
    Calls Try.prog 19 #[.pointer (some ⟨b, 0, none⟩)] w fun e w' => e = .returned (.int .i64 ph) ∧ w = w' := by
  have c1 := hb.cell 1
  simp at c1
  go_enter Try.func19, Try.ntmps19
  go_wp2
  go_ret
  exact ⟨rfl, rfl⟩
end
theorem new_yes (r : Int) (h : r = 1 ∨ r = 2) (w : World) :
    Calls Try.prog 9 #[.int .i64 r] w fun e w' => e = .returned (.tuple #[.pointer (some ⟨w.heap.size, 0, none⟩), .int .i64 0]) ∧ w' = w.alloc (.cells #[.int .i64 r, .int .i64 0] 55) := by
  rcases h with rfl | rfl
  all_goals
    go_enter Try.func9, Try.ntmps9
    go_wp2
    go_ret2
    exact ⟨rfl, rfl⟩
theorem new_no (r : Int) (h : ¬ (r = 1 ∨ r = 2)) (w : World) :
    Calls Try.prog 9 #[.int .i64 r] w fun e w' => e = .returned (.tuple #[.pointer none, .int .i64 1]) ∧ w = w' := by
  have q1 : (r != 1) = true := by simp; omega
  have q2 : (r != 2) = true := by simp; omega
  clear h
  go_enter Try.func9, Try.ntmps9
  go_wp2
  go_ret2
  exact ⟨rfl, rfl⟩
theorem mark (w : World) :
    Calls Try.prog 20 #[] w fun e w' => e = .returned (.slice (some ⟨w.heap.size, 0, none⟩) 8 8) ∧ w' = w.alloc (.cells (encB markL).toArray 5 (8, 9)) := by
  have kc := fun (w : World) (C : Array Value) (n c : Nat) => Lib.run_convert_bytes_const (P := Try.prog) w 32 5 C n c Try.underlying32 Try.underlying5
  go_enter Try.func20, Try.ntmps20
  go_wp2
  go_ret
  exact ⟨rfl, rfl⟩
end Go.Proofs.Ytjnjglhkfaopmaa
