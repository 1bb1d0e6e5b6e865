/- pipe: what a law's walk over Chunks carries; begun. -/
import Derived.Test.YtinokgmmdmkbcaaIt2
import Derived.Lib.SlBytesConst
set_option linter.all false
namespace Go.Proofs.Ytinokgmmdmkbcaa
open Go.ChangeShapes Go.WideShapes Go.ChangeAt Go.RowKit
attribute [local go_sem] setCell_drewN alloc_drewN Oper.semAt_some
/-- a range over a function: its record, what is owed, the blocks that may turn -/
structure Rest (S W : World) (gs : List Nat) (rec_ : Obj) : Prop where
  rc : W.heap[S.heap.size + 1]? = some rec_
  df : W.heap[S.heap.size]? = some (.deferred (some []))
  kp : Keep gs S W
theorem Rest.go {S W W' : World} {gs hs : List Nat} {l : Loop} (h : Rest S W gs (.loop l)) (k : Keep hs W W') (h1 : ∀ i ∈ hs, i ∈ gs ∨ S.heap.size ≤ i) (h2 : S.heap.size + 1 ∉ hs) (h3 : S.heap.size ∉ hs) : Rest S W' gs (.loop l) :=
  ⟨k.heap h.rc h2, k.heap h.df h3, h.kp.step k h1⟩
theorem Rest.put {S W : World} {gs : List Nat} {o o' : Obj} (h : Rest S W gs o) : Rest S (W.putObj (S.heap.size + 1) o') gs o' :=
  ⟨put_heap (Array.getElem?_eq_some_iff.1 h.rc).1, (World.putObj_heap_other (by omega)).trans h.df, h.kp.putObj (.inr (by omega)) _⟩
structure LJ (s base : Nat) (S W : World) (gs : List Nat) (rec_ : Loop) (pb c1 c2 bl bc : Nat) (pc : Option Nat) (A : Option Addr) (n c : Nat) (zs : List Int) (i : Nat) (v : Value) (bs : List UInt8) (en to : Bool) : Prop where
  cf : CF s base W pb c1 c2 bl bc pc A n c zs i v bs en to
  rs : Rest S W gs (.loop rec_)
  rb : ∀ g, rowBlk v = some g → g < S.heap.size
  lt : pb < S.heap.size ∧ c1 < S.heap.size ∧ c2 < S.heap.size ∧ bl < S.heap.size ∧ bc < S.heap.size ∧ s ≤ S.heap.size
  lc : ∀ cb, pc = some cb → cb < S.heap.size
section
variable {s base : Nat} {S W W' : World} {gs hs : List Nat} {rec_ rec' : Loop} {pb c1 c2 bl bc : Nat} {pc : Option Nat} {A : Option Addr} {n c : Nat} {zs : List Int} {i : Nat} {v v' : Value} {bs bs' : List UInt8} {en to : Bool}
theorem LJ.own (h : LJ s base S W gs rec_ pb c1 c2 bl bc pc A n c zs i v bs en to) (k : Keep hs W W') (hh : ∀ g ∈ hs, S.heap.size + 1 < g) : LJ s base S W' gs rec_ pb c1 c2 bl bc pc A n c zs i v bs en to := by
  obtain ⟨l1, l2, l3, l4, l5, l6⟩ := h.lt
  refine ⟨h.cf.keep k (fun g hg => ?_), h.rs.go k (fun g hg => .inr (by have := hh g hg; omega)) (fun x => by have := hh _ x; omega) (fun x => by have := hh _ x; omega), h.rb, h.lt, h.lc⟩
  have := hh g hg
  exact ⟨fun h0 ad e => by have := h.cf.fd.lr.blk_lt h0 ad e; omega, by omega, by omega, fun e => by have := h.lc g e; omega, by omega, by omega, by omega, fun e => by have := h.rb g e; omega⟩
theorem LJ.put (h : LJ s base S W gs rec_ pb c1 c2 bl bc pc A n c zs i v bs en to) : LJ s base S (W.putObj (S.heap.size + 1) (.loop rec')) gs rec' pb c1 c2 bl bc pc A n c zs i v bs en to := by
  obtain ⟨l1, l2, l3, l4, l5, l6⟩ := h.lt
  refine ⟨h.cf.keep ((Keep.refl [S.heap.size + 1] W).putObj (.inl (by simp)) _) (fun g hg => ?_), h.rs.put, h.rb, h.lt, h.lc⟩
  simp at hg
  subst hg
  exact ⟨fun h0 ad e => by have := h.cf.fd.lr.blk_lt h0 ad e; omega, by omega, by omega, fun e => by have := h.lc _ e; omega, by omega, by omega, by omega, fun e => by have := h.rb _ e; omega⟩
theorem LJ.tick (h : LJ s base S W gs rec_ pb c1 c2 bl bc pc A n c zs i v bs en to) (hg : ∀ cb, pc = some cb → cb ∈ gs) : LJ s base S (tickW pc i W) gs rec_ pb c1 c2 bl bc pc A n c zs (i + 1) v bs en to := by
  have k := tickW_keep pc i W
  exact ⟨h.cf.tick, h.rs.go k (fun g hx => .inl (hg g (by simpa using hx))) (fun x => by have := h.lc _ (by simpa using x); omega) (fun x => by have := h.lc _ (by simpa using x); omega), h.rb, h.lt, h.lc⟩
theorem LJ.step (h : LJ s base S W gs rec_ pb c1 c2 bl bc pc A n c zs i v bs en to) (k : Keep (pb :: hs) W W') (hh : ∀ g ∈ hs, S.heap.size + 1 < g ∨ pc = some g) (hp : pb ∈ gs) (hg : ∀ cb, pc = some cb → cb ∈ gs)
    (cf : CF s base W' pb c1 c2 bl bc pc A n c zs (i + 1) v' bs' en to) (hs' : Same v v') : LJ s base S W' gs rec_ pb c1 c2 bl bc pc A n c zs (i + 1) v' bs' en to := by
  obtain ⟨l1, l2, l3, l4, l5, l6⟩ := h.lt
  have hx : ∀ g ∈ pb :: hs, g < S.heap.size ∨ S.heap.size + 1 < g := fun g hm => by
    rcases List.mem_cons.1 hm with rfl | hm
    · exact .inl l1
    · rcases hh g hm with h' | h'
      · exact .inr h'
      · exact .inl (h.lc g h')
  exact ⟨cf, h.rs.go k (fun g hm => by
    rcases List.mem_cons.1 hm with rfl | hm
    · exact .inl hp
    · rcases hh g hm with h' | h'
      · exact .inr (by omega)
      · exact .inl (hg g h')) (fun x => by have := hx _ x; omega) (fun x => by have := hx _ x; omega), fun g e => h.rb g (hs' g e), h.lt, h.lc⟩
/-- the law's own blocks -/
theorem LJ.law (h : LJ s base S W gs rec_ pb c1 c2 bl bc pc A n c zs i v bs en to) (k : Keep hs W W') (hh : ∀ g ∈ hs, g ∈ gs ∧ g < S.heap.size ∧ (0 < n → ∀ ad, A = some ad → ad.block ≠ g) ∧ g ≠ bl ∧ g ≠ bc ∧ pc ≠ some g ∧ g ≠ pb ∧ g ≠ c1 ∧ g ≠ c2 ∧ rowBlk v ≠ some g) : LJ s base S W' gs rec_ pb c1 c2 bl bc pc A n c zs i v bs en to :=
  ⟨h.cf.keep k (fun g x => (hh g x).2.2), h.rs.go k (fun g x => .inl (hh g x).1) (fun x => by have := (hh _ x).2.1; omega) (fun x => by have := (hh _ x).2.1; omega), h.rb, h.lt, h.lc⟩
end
theorem row_off_blk {w : World} {base g : Nat} {t u : TypeId} {v : Value} {xs : List Value} {cs : Array Value} (h : Row1 w base t v xs) (hL : Blk w g u cs) (hne : t ≠ u) : rowBlk v ≠ some g := fun e => by
  obtain ⟨A', cap, rfl, _, _, h2⟩ := h
  rcases h2 with ⟨rfl, _⟩ | ⟨g', off, cs, rfl, _, hb', _⟩
  · cases e
  · injection e with e
    exact hb'.ne_ hL hne e
theorem reads_w (w : World) (C : Array Value) (t : TypeId) (fr : Nat × Nat) {n : Nat} {xs : List Value} (hn : C.size = n) (hx : C.toList = xs) : Reads (w.alloc (.cells C t fr)) (w.heap.size + 1) 1 (some ⟨w.heap.size, 0, none⟩) n xs := by
  subst hx
  exact reads_new w C t fr 1 n (by omega)
set_option maxRecDepth 100000 in
set_option maxHeartbeats 4000000 in
theorem begun (w : World) : Calls Try.prog 7 #[] w fun e w' => e = .returned (.bool true) ∧ Below w.heap.size w w' := by
  have hfe := fun (w : World) (a b : Array Value) => run_eql_func_nil (P := Try.prog) w 35 (.func 23) a b Try.underlying35
  refine rng_func Try.func7 rfl ?_
  simp only [Try.ntmps7, List.size_toArray, List.length_cons, List.length_nil, Nat.reduceAdd, Nat.reduceSub, Array.replicate_succ, Array.replicate_zero, List.push_toArray, List.append_toArray, List.nil_append, List.cons_append]
  have kc := Lib.run_convert_bytes_const (P := Try.prog) (w.alloc (.cells #[.slice none 0 0, .bool false, .bool false] 51)) 22 5 #[.int .u8 97, .int .u8 98, .int .u8 99, .int .u8 100, .int .u8 101] 5 5 Try.underlying22 Try.underlying5
  simp only [World.size_alloc] at kc
  have p0 : Pp (w.alloc (.cells #[.slice none 0 0, .bool false, .bool false] 51)) w.heap.size w.heap.size 51 (.slice none 0 0) [] false false := ⟨Blk.new w _ _, Row1.nil _ _ _⟩
  go_wp2_with (go_at_call 8; refine (new_ _).mono ?_; rintro e w' ⟨rfl, rfl⟩)
  have kl : Keep [] (w.alloc (.cells #[.slice none 0 0, .bool false, .bool false] 51)) ((w.alloc (.cells #[.slice none 0 0, .bool false, .bool false] 51)).alloc (.cells #[.int .u8 97, .int .u8 98, .int .u8 99, .int .u8 100, .int .u8 101] 5 (5, 6))) := (Keep.refl [] _).alloc _
  have rl : Reads ((w.alloc (.cells #[.slice none 0 0, .bool false, .bool false] 51)).alloc (.cells #[.int .u8 97, .int .u8 98, .int .u8 99, .int .u8 100, .int .u8 101] 5 (5, 6))) _ 1 _ 5 (encB [97, 98, 99, 100, 101]) := reads_w _ _ _ _ rfl rfl
  simp only [World.size_alloc] at rl
  apply (put_ (p0.keep kl (by simp) (by simp [rowBlk])) (by simp; omega) rl (by simp)).mono
  rintro e w1 ⟨rfl, v1, p1, k1, -⟩
  simp only [Bool.false_eq_true, if_false, List.nil_append, rowBlk, Option.toList_none] at p1 k1
  have K1 : Keep [] w w1 := (((Keep.refl [] w).alloc _).trans kl).step k1 (by simp)
  clear kl rl k1 p0 kc
  go_wp2_with (fail)
  have ht : Calls Try.prog 15 #[.pointer (some ⟨w.heap.size, 0, none⟩), .int .i64 2] w1 fun e w' => ∃ r v', e = .returned (.tuple #[r, .bool false]) ∧ Row1 w' w1.heap.size 5 r (encB [97, 98]) ∧ Pp w' w.heap.size w.heap.size 51 v' [99, 100, 101] false false ∧ Keep [w.heap.size] w1 w' ∧ Moved w1 v1 v' := take_ p1 (by simp) 2 2 (by omega) (by simp)
  apply ht.mono
  rintro e w2 ⟨r2, v2, rfl, hr2, p2, k2, -⟩
  have K2 : Keep [] w w2 := K1.step k2 (by simp)
  have sz1 := K1.size
  have sz12 := k2.size
  have hp1 := p1.blk.lt
  clear ht p1 k2
  obtain ⟨A2, cap2, rfl, _, _, hrd2⟩ := hr2.reads
  have hp2 : w.heap.size < w2.heap.size := p2.blk.lt
  clear K1
  go_wp2_with (go_at_call 14; apply (len_ p2).mono; rintro e w' ⟨rfl, rfl⟩)
  go_wp2_with (first
    | (go_at_call 13; refine (sizes_ _ _ _ _ none).mono ?_; rintro e w' ⟨rfl, rfl⟩)
    | (go_at_call 12; refine (chunks_ _ (some ⟨w.heap.size, 0, none⟩) _ _ _).mono ?_; rintro e w' ⟨rfl, rfl⟩))
  have a0 := Blk.new w2 3 #[.int .i64 0]
  have a1 := Blk.new (w2.alloc (.cells #[.int .i64 0] 3)) 3 #[.int .i64 2]
  have a2 := Blk.new ((w2.alloc (.cells #[.int .i64 0] 3)).alloc (.cells #[.int .i64 2] 3)) 23 #[.slice (some ⟨w2.heap.size + 1, 0, none⟩) 1 1]
  have a3 := Blk.new (((w2.alloc (.cells #[.int .i64 0] 3)).alloc (.cells #[.int .i64 2] 3)).alloc (.cells #[.slice (some ⟨w2.heap.size + 1, 0, none⟩) 1 1] 23)) 40 #[.pointer none]
  have a4 := Blk.new ((((w2.alloc (.cells #[.int .i64 0] 3)).alloc (.cells #[.int .i64 2] 3)).alloc (.cells #[.slice (some ⟨w2.heap.size + 1, 0, none⟩) 1 1] 23)).alloc (.cells #[.pointer none] 40)) 25 #[.pointer (some ⟨w.heap.size, 0, none⟩)]
  have a5 := Blk.new (((((w2.alloc (.cells #[.int .i64 0] 3)).alloc (.cells #[.int .i64 2] 3)).alloc (.cells #[.slice (some ⟨w2.heap.size + 1, 0, none⟩) 1 1] 23)).alloc (.cells #[.pointer none] 40)).alloc (.cells #[.pointer (some ⟨w.heap.size, 0, none⟩)] 25)) 38 #[.func (.func 25) #[] #[.pointer (some ⟨w2.heap.size + 1 + 1, 0, none⟩), .pointer (some ⟨w2.heap.size + 1 + 1 + 1, 0, none⟩)]]
  simp only [World.size_alloc] at a0 a1 a2 a3 a4 a5
  have a0 := (((((a0.alloc (.cells #[.int .i64 2] 3)).alloc (.cells #[.slice (some ⟨w2.heap.size + 1, 0, none⟩) 1 1] 23)).alloc (.cells #[.pointer none] 40)).alloc (.cells #[.pointer (some ⟨w.heap.size, 0, none⟩)] 25)).alloc (.cells #[.func (.func 25) #[] #[.pointer (some ⟨w2.heap.size + 1 + 1, 0, none⟩), .pointer (some ⟨w2.heap.size + 1 + 1 + 1, 0, none⟩)]] 38))
  have a1 := ((((a1.alloc (.cells #[.slice (some ⟨w2.heap.size + 1, 0, none⟩) 1 1] 23)).alloc (.cells #[.pointer none] 40)).alloc (.cells #[.pointer (some ⟨w.heap.size, 0, none⟩)] 25)).alloc (.cells #[.func (.func 25) #[] #[.pointer (some ⟨w2.heap.size + 1 + 1, 0, none⟩), .pointer (some ⟨w2.heap.size + 1 + 1 + 1, 0, none⟩)]] 38))
  have a2 := (((a2.alloc (.cells #[.pointer none] 40)).alloc (.cells #[.pointer (some ⟨w.heap.size, 0, none⟩)] 25)).alloc (.cells #[.func (.func 25) #[] #[.pointer (some ⟨w2.heap.size + 1 + 1, 0, none⟩), .pointer (some ⟨w2.heap.size + 1 + 1 + 1, 0, none⟩)]] 38))
  have a3 := ((a3.alloc (.cells #[.pointer (some ⟨w.heap.size, 0, none⟩)] 25)).alloc (.cells #[.func (.func 25) #[] #[.pointer (some ⟨w2.heap.size + 1 + 1, 0, none⟩), .pointer (some ⟨w2.heap.size + 1 + 1 + 1, 0, none⟩)]] 38))
  have a4 := (a4.alloc (.cells #[.func (.func 25) #[] #[.pointer (some ⟨w2.heap.size + 1 + 1, 0, none⟩), .pointer (some ⟨w2.heap.size + 1 + 1 + 1, 0, none⟩)]] 38))
  have KS : Keep [] w2 ((((((w2.alloc (.cells #[.int .i64 0] 3)).alloc (.cells #[.int .i64 2] 3)).alloc (.cells #[.slice (some ⟨w2.heap.size + 1, 0, none⟩) 1 1] 23)).alloc (.cells #[.pointer none] 40)).alloc (.cells #[.pointer (some ⟨w.heap.size, 0, none⟩)] 25)).alloc (.cells #[.func (.func 25) #[] #[.pointer (some ⟨w2.heap.size + 1 + 1, 0, none⟩), .pointer (some ⟨w2.heap.size + 1 + 1 + 1, 0, none⟩)]] 38)) := ((((((Keep.refl [] w2).alloc _).alloc _).alloc _).alloc _).alloc _).alloc _
  obtain ⟨S, hS⟩ : ∃ S, S = ((((((w2.alloc (.cells #[.int .i64 0] 3)).alloc (.cells #[.int .i64 2] 3)).alloc (.cells #[.slice (some ⟨w2.heap.size + 1, 0, none⟩) 1 1] 23)).alloc (.cells #[.pointer none] 40)).alloc (.cells #[.pointer (some ⟨w.heap.size, 0, none⟩)] 25)).alloc (.cells #[.func (.func 25) #[] #[.pointer (some ⟨w2.heap.size + 1 + 1, 0, none⟩), .pointer (some ⟨w2.heap.size + 1 + 1 + 1, 0, none⟩)]] 38)) := ⟨_, rfl⟩
  have szS : S.heap.size = w2.heap.size + 6 := by rw [hS]; simp
  rw [← hS] at a0 a1 a2 a3 a4 a5 KS ⊢
  clear hS
  have p3 := p2.keep KS (by simp) (by simp)
  have rl := reads_of_blk (size := 1) (n := 1) a1 rfl (by simp [maxLen])
  have hv2 : ∀ g, rowBlk v2 = some g → g < S.heap.size := fun g hg => (p3.row.lt g hg).2
  have szw2 := KS.size
  obtain ⟨kb, hkb⟩ : ∃ kb, kb = w2.heap.size := ⟨_, rfl⟩
  rw [← hkb] at a0 a1 a2 a3 a4 a5 szS rl hp2 ⊢
  have Hkb := Lib.hid hkb
  have szS2 : kb + 6 ≤ S.heap.size := by omega
  clear hkb szS
  refine rng_stmt' (n := 5) (gf := 23) (lb := #[.pointer (some ⟨kb + 1 + 1 + 1 + 1, 0, none⟩), .pointer (some ⟨kb + 1 + 1 + 1 + 1 + 1, 0, none⟩)]) (by first | rfl | simp) (enters_of Try.func23 (by kernel_rfl) rfl) ?_
  intro rc hrc W1 hW1
  have szW1 : W1.heap.size = S.heap.size + 1 + 1 := by rw [hW1]; simp
  refine (chunksIt (m := 5) (s := S.heap.size) (base := w.heap.size) (pb := w.heap.size) (c1 := kb + 1 + 1 + 1 + 1) (c2 := kb + 1 + 1 + 1 + 1 + 1) (bl := kb + 1 + 1) (bc := kb + 1 + 1 + 1) (pc := none) (A := some ⟨kb + 1, 0, none⟩) (n := 1) (c := 1) (zs := [2]) (en := false) (to := false) (by omega) rfl (by simp)
    (fun i j bs v W => LJ S.heap.size w.heap.size S W [w.heap.size, kb] (rc .ready none) w.heap.size (kb + 1 + 1 + 1 + 1) (kb + 1 + 1 + 1 + 1 + 1) (kb + 1 + 1) (kb + 1 + 1 + 1) none (some ⟨kb + 1, 0, none⟩) 1 1 [2] i v bs false false ∧ Blk W kb 3 #[.int .i64 j] ∧ ((i = 0 ∧ j = 0 ∧ bs = [99, 100, 101]) ∨ (i = 1 ∧ j = 1 ∧ bs = [101])))
    (fun _ => False) (fun i j bs v W h => h.1.cf) W1 ?hst (fun _ _ h => h.elim) ?hskip ?round (by omega) (by omega) (by omega) (by omega) (by omega) (by simp) [99, 100, 101] v2 (by simp) ?start).mono ?fin
  case hst =>
    rintro i j bs v W W' ⟨hl, hk, hh⟩ k
    rw [szW1] at k
    exact ⟨hl.own k (by first | (simp; done) | (simp; omega)), hk.keep k (by first | (simp; done) | (simp; omega)), hh⟩
  case hskip =>
    rintro i j bs v W z ⟨hl, hk, hh⟩ hz _ h1
    exfalso
    rcases hh with ⟨rfl, _⟩ | ⟨rfl, _⟩ <;> simp at hz <;> omega
  case start =>
    have KB : Keep [] S W1 := by rw [hW1]; exact ((Keep.refl [] S).alloc _).alloc _
    have r1 : W1.heap[S.heap.size + 1]? = some (.loop (rc .ready none)) := by rw [hW1]; have := heap_alloc_new (S.alloc (.deferred (some []))) (.loop (rc .ready none)); simpa using this
    have r2 : W1.heap[S.heap.size]? = some (.deferred (some [])) := by rw [hW1]; exact (Below.heap_alloc _ _ _ (by simp)).trans (heap_alloc_new S (.deferred (some [])))
    refine ⟨⟨⟨⟨a2.keep KB (by simp), a3.keep KB (by simp), rl.keeps KB (Nat.le_refl _) (by simp), by simp, by omega, by simp⟩, p3.keep KB (by simp) (by simp), a4.keep KB (by simp), a5.keep KB (by simp), by simp, fun _ ad e => by injection e with e; subst e; simp; omega⟩, ⟨r1, r2, KB.more (by simp)⟩, hv2, ⟨by omega, by omega, by omega, by omega, by omega, by omega⟩, by simp⟩, a0.keep KB (by simp), .inl ⟨rfl, rfl, rfl⟩⟩
  case round =>
    rintro i j bs v W z k ⟨hl, hk, hh⟩ hzi hne h1 hk' hsz W2' v2' r kk cf hr hs
    rw [szW1] at hsz kk ⊢
    rcases hh with ⟨rfl, rfl, rfl⟩ | ⟨rfl, _⟩
    · simp at hzi
      subst hzi
      obtain rfl : k = 2 := by rw [hk']; rfl
      have lj := hl.step kk (by simp) (by simp) (by simp) cf hs
      have hk2 := hk.keep kk (by first | (simp; done) | (simp; omega))
      refine rng_round' hrc lj.rs.rc rfl ?_
      clear hrc hW1 hk' h1 hne
      gi_wp2
      refine ⟨lj.rs.rc, ?_⟩
      have kp : Keep [S.heap.size + 1] W2' (W2'.putObj (S.heap.size + 1) (.loop (rc .busy none))) := (Keep.refl _ W2').putObj (.inl (by simp)) _
      have lj3 := lj.put (rec' := rc .busy none)
      have hk3 := hk2.keep kp (by first | (simp; done) | (simp; omega))
      have hgk : ∀ g, S.heap.size + 1 + 1 ≤ g → (W2'.putObj (S.heap.size + 1) (.loop (rc .busy none))).heap[g]? = W2'.heap[g]? := fun g hg => World.putObj_heap_other (by omega)
      obtain ⟨W3, hW3⟩ : ∃ W3, W3 = W2'.putObj (S.heap.size + 1) (.loop (rc .busy none)) := ⟨_, rfl⟩
      rw [← hW3] at lj3 hk3 hgk ⊢
      have c3 := hk3.cell 0
      have f3 := hk3.frozen 0
      simp at c3
      have k4 : Keep [kb] W3 (W3.setCell ⟨kb, 0, none⟩ (.int .i64 1)) := (Keep.refl _ W3).setCell (p := ⟨kb, 0, none⟩) (.inl (by simp)) _
      have hkb2 : kb < S.heap.size := by omega
      have lj4 := lj3.law k4 (fun g hg => by
        simp at hg
        subst hg
        exact ⟨by simp, by omega, fun _ ad e => by injection e with e; subst e; simp, by omega, by omega, by simp, by omega, by omega, by omega, row_off_blk lj3.cf.pp.row hk3 (by decide)⟩)
      have hk4 := hk3.set_ 0 (.int .i64 1)
      have LJ5 := Lib.hid (lj4.put (rec' := rc .ready none))
      have kz : Keep [S.heap.size + 1] (W3.setCell ⟨kb, 0, none⟩ (.int .i64 1)) ((W3.setCell ⟨kb, 0, none⟩ (.int .i64 1)).putObj (S.heap.size + 1) (.loop (rc .ready none))) := (Keep.refl _ _).putObj (.inl (by simp)) _
      have HK5 := Lib.hid (hk4.keep kz (by first | (simp; done) | (simp; omega)))
      have HG5 : Hid (∀ g, S.heap.size + 1 + 1 ≤ g → ((W3.setCell ⟨kb, 0, none⟩ (.int .i64 1)).putObj (S.heap.size + 1) (.loop (rc .ready none))).heap[g]? = W2'.heap[g]?) := Lib.hid (fun g hg => (World.putObj_heap_other (by omega)).trans ((Below.heap_setCell W3 ⟨kb, 0, none⟩ _ _ (by simp; omega)).trans (hgk g hg)))
      have HL4 := Lib.hid lj4.rs.rc
      clear lj hl hk hk2 lj3 hk3 lj4 hk4 kz k4 kp hgk hW3
      gi_wp2
      exact ⟨HL4.out, fun g h1 _ => HG5.out g h1, ⟨_, LJ5.out⟩, HK5.out⟩
    · simp at hzi
  case fin =>
    rintro e W' ⟨⟨vr, rfl⟩, h⟩
    obtain ⟨i, j, bs, v, ⟨hl, hk, hh⟩, hib⟩ := h.resolve_right id
    obtain ⟨rfl, rfl, rfl⟩ : i = 1 ∧ j = 1 ∧ bs = [101] := by
      rcases hh with ⟨rfl, rfl, rfl⟩ | h
      · rcases hib with h | h <;> simp at h
      · exact h
    refine ⟨_, .ready, none, rfl, by simp, hl.rs.rc, ?_⟩
    have hl2 := hl.put (rec' := rc .exhausted none)
    have kp : Keep [S.heap.size + 1] W' (W'.putObj (S.heap.size + 1) (.loop (rc .exhausted none))) := (Keep.refl _ W').putObj (.inl (by simp)) _
    have hk2 := hk.keep kp (by first | (simp; done) | (simp; omega))
    obtain ⟨W5, hW5⟩ : ∃ W5, W5 = W'.putObj (S.heap.size + 1) (.loop (rc .exhausted none)) := ⟨_, rfl⟩
    simp only [← hW5] at hl2 hk2 ⊢
    clear hW5 hW1 hrc hl hk kp
    have c0 := hk2.cell 0
    simp at c0
    have P5 := hl2.cf.pp
    go_wp2_with (go_at_call 16; apply (end_ P5).mono; rintro e w6 ⟨rfl, rfl⟩)
    have ht : Calls Try.prog 15 #[.pointer (some ⟨w.heap.size, 0, none⟩), .int .i64 9] (W5.setCell ⟨w.heap.size, 1, none⟩ (.bool true)) fun e w' => ∃ r v', e = .returned (.tuple #[r, .bool true]) ∧ Row1 w' (W5.setCell ⟨w.heap.size, 1, none⟩ (.bool true)).heap.size 5 r (encB [101]) ∧ Pp w' w.heap.size w.heap.size 51 v' [] true true ∧ Keep [w.heap.size] (W5.setCell ⟨w.heap.size, 1, none⟩ (.bool true)) w' ∧ Moved (W5.setCell ⟨w.heap.size, 1, none⟩ (.bool true)) v v' := take_ (P5.setEnds (by decide) true) (by simp) 9 1 (by omega) (by simp)
    have k6 : Keep [w.heap.size] W5 (W5.setCell ⟨w.heap.size, 1, none⟩ (.bool true)) := (Keep.refl _ W5).setCell (p := ⟨w.heap.size, 1, none⟩) (.inl (by simp)) _
    obtain ⟨W6, hW6⟩ : ∃ W6, W6 = W5.setCell ⟨w.heap.size, 1, none⟩ (.bool true) := ⟨_, rfl⟩
    rw [← hW6] at ht k6 ⊢
    clear hW6
    apply ht.mono
    rintro e w8 ⟨r8, v8, rfl, hr8, p8, k8, -⟩
    have k58 := k6.trans k8
    have rs8 := hl2.rs.go k58 (by simp) (by simp; omega) (by simp; omega)
    have hk8 := hk2.keep k58 (by first | (simp; done) | (simp; omega))
    have K28 : Keep [w.heap.size] w2 w8 := (KS.more (hs := [w.heap.size]) (by simp)).step rs8.kp (by simp; have := Hkb.out; omega)
    have hr2' := hr2.keep K28 (fun g hg => by have := (hr2.lt g hg).1; simp; omega)
    obtain ⟨A3, cap3, e3, _, _, hrd3⟩ := hr2'.reads
    injection e3 with e31 e32 e33
    subst e31 e33
    obtain ⟨A8, cap8, rfl, _, _, hrd8⟩ := hr8.reads
    have st1 := str_of (c := cap2) (src := 22) (dst := 9) Try.underlying22 Try.underlying5 Try.underlying9 hrd3
    have st2 := str_of (c := cap8) (src := 22) (dst := 9) Try.underlying22 Try.underlying5 Try.underlying9 hrd8
    have c8 := hk8.cell 0
    simp at c8
    have HF8 := Lib.hid rs8
    have HK2 := Lib.hid K2
    have HKS := Lib.hid KS
    clear ht k6 k8 k58 rs8 hk8 K28 hr2 hr2' hr8 hrd2 hrd3 hrd8 hl2 hk2 P5 c0 K2 p2 p3 KS
    go_wp2_with (go_at_call 21; apply (over_ p8).mono; rintro e w9 ⟨rfl, rfl⟩)
    have hdf := HF8.out.df
    refine ⟨by simp, .inl ⟨_, _, rfl, run_takeDeferred hdf, ?_⟩⟩
    refine ⟨_, results_tmp rfl _ _ _, rfl, ?_⟩
    have hK := HK2.out
    have hKS := HKS.out
    have szk := hKS.size
    have szk2 := hK.size
    have h0 := Hkb.out
    exact (((hK.step hKS (by simp)).step HF8.out.kp (by simp; omega)).putObj (l := S.heap.size) (.inr (by omega)) _).below (Nat.le_refl _) (by simp)
end Go.Proofs.Ytinokgmmdmkbcaa
