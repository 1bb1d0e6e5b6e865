/- pipe: PipeChunks: over any sizes, and no further than it is needed. -/
import Derived.Test.YtinokgmmdmkbcaaCtr5
set_option linter.all false
namespace Go.Proofs.Ytinokgmmdmkbcaa
open Go.ChangeShapes Go.WideShapes Go.ChangeAt Go.RowKit
attribute [local go_sem] setCell_drewN alloc_drewN Oper.semAt_some
theorem drop_get {α : Type} {l : List α} {j : Nat} {x : α} {r : List α} (h : l.drop j = x :: r) : j < l.length ∧ l[j]? = some x ∧ l.drop (j + 1) = r := by
  have hl : j < l.length := by
    rcases Nat.lt_or_ge j l.length with h' | h'
    · exact h'
    · rw [List.drop_of_length_le h'] at h; cases h
  rw [List.drop_eq_getElem_cons hl] at h
  injection h with h1 h2
  exact ⟨hl, by rw [List.getElem?_eq_getElem hl, h1], h2⟩
/-- between two rounds -/
structure CJ (s base : Nat) (S W : World) (rec_ : Loop) (pb c1 c2 bl bc cb kb lb : Nat) (A : Option Addr) (n c : Nat) (zs : List Int) (most : Int) (C : List (List UInt8)) (fin : List UInt8) (ask i j : Nat) (v : Value) (bs : List UInt8) : Prop where
  lj : LJ s base S W [pb, cb, kb, lb] rec_ pb c1 c2 bl bc (some cb) A n c zs i v bs false false
  kk : Blk W kb 3 #[.int .i64 j]
  ll : Blk W lb 3 #[.int .i64 bs.length]
  ch : (chop (zs.drop i) bs).1 = C.drop j
  fi : (chop (zs.drop i) bs).2.1 = fin
  ak : i + (chop (zs.drop i) bs).2.2 = ask
  jc : j ≤ C.length
  ji : j ≤ i
  ni : i ≤ n
section
variable {s base : Nat} {S W W' : World} {hs : List Nat} {rec_ rec' : Loop} {pb c1 c2 bl bc cb kb lb : Nat} {A : Option Addr} {n c : Nat} {zs : List Int} {most : Int} {C : List (List UInt8)} {fin : List UInt8} {ask i j : Nat} {v : Value} {bs : List UInt8}
theorem CJ.own (h : CJ s base S W rec_ pb c1 c2 bl bc cb kb lb A n c zs most C fin ask i j v bs) (k : Keep hs W W') (hh : ∀ g ∈ hs, S.heap.size + 1 < g) (hk : kb < S.heap.size) (hl : lb < S.heap.size) : CJ s base S W' rec_ pb c1 c2 bl bc cb kb lb A n c zs most C fin ask i j v bs :=
  ⟨h.lj.own k hh, h.kk.keep k (fun x => by have := hh _ x; omega), h.ll.keep k (fun x => by have := hh _ x; omega), h.ch, h.fi, h.ak, h.jc, h.ji, h.ni⟩
theorem CJ.put (h : CJ s base S W rec_ pb c1 c2 bl bc cb kb lb A n c zs most C fin ask i j v bs) (hk : kb < S.heap.size) (hl : lb < S.heap.size) : CJ s base S (W.putObj (S.heap.size + 1) (.loop rec')) rec' pb c1 c2 bl bc cb kb lb A n c zs most C fin ask i j v bs :=
  ⟨h.lj.put, blk_putObj h.kk (by omega), blk_putObj h.ll (by omega), h.ch, h.fi, h.ak, h.jc, h.ji, h.ni⟩
end
set_option maxRecDepth 100000 in
theorem it_empty {m l c1 c2 base pb : Nat} {v : Value} {en to : Bool} (W : World) (h1 : Blk W c1 25 #[.pointer (some ⟨pb, 0, none⟩)]) (hp : Pp W base pb 51 v [] en to) :
    CallsIn Fence.wide m Try.prog 23 #[.func (.yield l) #[] #[], .pointer (some ⟨c1, 0, none⟩), .pointer (some ⟨c2, 0, none⟩)] W fun e W' => (∃ v, e = .returned v) ∧ Keep [] W W' := by
  refine callsIn_wide.2 (rng_func Try.func23 rfl ?_)
  simp only [Try.ntmps23, List.size_toArray, List.length_cons, List.length_nil, Nat.reduceAdd, Nat.reduceSub, Array.replicate_succ, Array.replicate_zero, List.push_toArray, List.append_toArray, List.nil_append, List.cons_append]
  have p1 := (h1.alloc (.cells #[.func (.yield l) #[] #[]] 52)).cell 0
  simp at p1
  have pA := hp.keep ((Keep.refl [] W).alloc (.cells #[.func (.yield l) #[] #[]] 52)) (by simp) (by simp)
  clear h1 hp
  go_wp2
  go_step3
  go_wp2_with (go_at_call 14; apply (len_ pA).mono; rintro e w' ⟨rfl, rfl⟩)
  try rw [Exit.noGoto_ret]
  exact ⟨_, results_none rfl _ _ _, ⟨_, rfl⟩, (Keep.refl _ _).alloc _⟩
set_option maxRecDepth 100000 in
set_option maxHeartbeats 8000000 in
theorem pipeChunks (w : World) (v : Value) (hv : Sl w 1 (fun _ => IsInt .u8) v) (hlen : ∀ A n c, v = .slice A n c → n ≤ 140737488355328) (u : Value) (hu : Sl w 1 (fun _ => IsInt .i64) u) (most : Int) (_hm : (Lit.int IntKind.i64 most).wf = true) :
    Calls Try.prog 3 #[v, u, .int .i64 most] w fun e w' => e = .returned (.bool true) ∧ Below w.heap.size w w' := by
  clear _hm
  obtain ⟨Ab, nb, cb', bs0, rfl, hbc, hbm, hbl, hbr⟩ := reads_of_sl hv
  have hlen := hlen _ _ _ rfl
  obtain ⟨A, n, c, zs, rfl, hnc, hcm, hzl, hzr⟩ := ints_of_sl hu
  clear hv hu
  unfold maxLen at hcm hbm
  have Hbr := Lib.hid hbr
  have Hzr := Lib.hid hzr
  clear hbr hzr
  have hfe := fun (w : World) (a b : Array Value) => run_eql_func_nil (P := Try.prog) w 35 (.func 23) a b Try.underlying35
  refine rng_func Try.func3 rfl ?_
  simp only [Try.ntmps3, List.size_toArray, List.length_cons, List.length_nil, Nat.reduceAdd, Nat.reduceSub, Array.replicate_succ, Array.replicate_zero, List.push_toArray, List.append_toArray, List.nil_append, List.cons_append]
  have a0 := (Blk.new w 3 #[.int .i64 most]).alloc (.cells #[.bool false] 4)
  have a1 := Blk.new (w.alloc (.cells #[.int .i64 most] 3)) 4 #[.bool false]
  simp only [World.size_alloc] at a1
  have ka := ((Keep.refl [] w).alloc (.cells #[.int .i64 most] 3)).alloc (.cells #[.bool false] 4)
  by_cases hbig : 1000 < n
  · have hbig' : (1000 : Int) < (n : Int) := by omega
    go_wp2_with (first
      | (go_at_call 7; refine (begun _).mono ?_; rintro e w1 ⟨rfl, hb1⟩; have hb1 := Keep.of_below hb1; have z1 := ((a1.keep hb1 (by simp)).alloc (.cells #[.slice none 0 0, .bool false, .bool false] 51)).alloc (.cells #[.slice none 0 0, .bool false, .bool false] 29); have z1c := z1.cell 0; have z1f := z1.frozen 0; simp at z1c)
      | (go_at_call 8; refine (new_ _).mono ?_; rintro e w' ⟨rfl, rfl⟩))
    have z2 := (z1.set_ 0 (.bool true)).cell 0
    simp at z2
    have sz1 := hb1.size
    refine ⟨_, by simp [results, Try.results3, go_sem, z2], rfl, ?_⟩
    exact ((((ka.trans hb1).alloc _).alloc _).setCell (p := ⟨w.heap.size + 1, 0, none⟩) (.inr (by simp)) _).below (Nat.le_refl _) (by simp)
  · have hbig' : ¬ (1000 : Int) < (n : Int) := by omega
    go_wp2_with (first
      | (go_at_call 7; refine (begun _).mono ?_; rintro e w1 ⟨rfl, hb1⟩; have hb1 := Keep.of_below hb1; have z1 := ((a1.keep hb1 (by simp)).alloc (.cells #[.slice none 0 0, .bool false, .bool false] 51)).alloc (.cells #[.slice none 0 0, .bool false, .bool false] 29); have z1c := z1.cell 0; have z1f := z1.frozen 0; simp at z1c)
      | (go_at_call 8; refine (new_ _).mono ?_; rintro e w' ⟨rfl, rfl⟩))
    have sz1 := hb1.size
    simp at sz1
    have p2 : Pp ((w1.alloc (.cells #[.slice none 0 0, .bool false, .bool false] 51)).alloc (.cells #[.slice none 0 0, .bool false, .bool false] 29)) w1.heap.size w1.heap.size 51 (.slice none 0 0) [] false false := ⟨(Blk.new w1 _ _).alloc _, Row1.nil _ _ _⟩
    have r2 : Pp ((w1.alloc (.cells #[.slice none 0 0, .bool false, .bool false] 51)).alloc (.cells #[.slice none 0 0, .bool false, .bool false] 29)) w1.heap.size (w1.heap.size + 1) 29 (.slice none 0 0) [] false false := ⟨by have := Blk.new (w1.alloc (.cells #[.slice none 0 0, .bool false, .bool false] 51)) 29 #[.slice none 0 0, .bool false, .bool false]; simpa using this, Row1.nil _ _ _⟩
    have K2 : Keep [] w ((w1.alloc (.cells #[.slice none 0 0, .bool false, .bool false] 51)).alloc (.cells #[.slice none 0 0, .bool false, .bool false] 29)) := ((ka.trans hb1).alloc _).alloc _
    have x0 := ((a0.keep hb1 (by simp)).alloc (.cells #[.slice none 0 0, .bool false, .bool false] 51)).alloc (.cells #[.slice none 0 0, .bool false, .bool false] 29)
    obtain ⟨W2, hW2⟩ : ∃ W2, W2 = (w1.alloc (.cells #[.slice none 0 0, .bool false, .bool false] 51)).alloc (.cells #[.slice none 0 0, .bool false, .bool false] 29) := ⟨_, rfl⟩
    have sz2 : w1.heap.size + 2 ≤ W2.heap.size := by rw [hW2]; simp
    rw [← hW2] at p2 r2 K2 x0 z1 ⊢
    clear hW2 z1c z1f a0 a1 ka hb1
    obtain ⟨pb, hpb⟩ : ∃ pb, pb = w1.heap.size := ⟨_, rfl⟩
    rw [← hpb] at p2 r2 sz1 sz2 ⊢
    clear hpb
    apply (put_ p2 (by omega) (Hbr.out.keeps K2 (Nat.le_refl _) (by simp)) (by simpa using hlen)).mono
    rintro e w3 ⟨rfl, v3, p3, k3, -⟩
    simp only [Bool.false_eq_true, if_false, List.nil_append, rowBlk, Option.toList_none] at p3 k3
    have r3 := r2.keep k3 (by simp) (by simp [rowBlk])
    have x3 := x0.keep k3 (by simp; omega)
    have z3 := z1.keep k3 (by simp; omega)
    have K3 : Keep [] w w3 := K2.step k3 (by simp; omega)
    have sz3 := k3.size
    clear p2 r2 x0 z1 k3
    go_wp2_with (fail)
    apply (rput_ r3 (by omega) (Hbr.out.keeps K3 (Nat.le_refl _) (by simp)) (by simpa using hlen)).mono
    rintro e w4 ⟨rfl, v4, r4, k4, -⟩
    simp only [Bool.false_eq_true, if_false, List.nil_append, rowBlk, Option.toList_none] at r4 k4
    have p4 := p3.keep k4 (by simp) (fun g hg => by simp; rintro rfl; exact row_off_blk p3.row r3.blk (by decide) hg)
    have x4 := x3.keep k4 (by simp; omega)
    have z4 := z3.keep k4 (by simp; omega)
    have K4 : Keep [] w w4 := K3.step k4 (by simp; omega)
    have sz4 := k4.size
    clear p3 r3 x3 z3 k4 K2 K3
    go_wp2_with (fail)
    have e5 := Blk.new w4 3 #[.int .i64 0]
    have p5 := p4.keep ((Keep.refl [] w4).alloc (.cells #[.int .i64 0] 3)) (by simp) (by simp)
    have r5 := r4.keep ((Keep.refl [] w4).alloc (.cells #[.int .i64 0] 3)) (by simp) (by simp)
    have x5 := x4.alloc (.cells #[.int .i64 0] 3)
    have z5 := z4.alloc (.cells #[.int .i64 0] 3)
    have K5 := K4.alloc (.cells #[.int .i64 0] 3)
    obtain ⟨w5, hw5⟩ : ∃ w5, w5 = w4.alloc (.cells #[.int .i64 0] 3) := ⟨_, rfl⟩
    have sz5 : w5.heap.size = w4.heap.size + 1 := by rw [hw5]; simp
    rw [← hw5] at p5 r5 x5 z5 K5 e5 ⊢
    clear hw5 p4 r4 x4 z4 K4
    obtain ⟨cb, hcb⟩ : ∃ cb, cb = w4.heap.size := ⟨_, rfl⟩
    rw [← hcb] at e5 sz4 sz5 ⊢
    clear hcb
    have hoffA : 0 < n → ∀ ad, A = some ad → ad.block < w.heap.size := Hzr.out.blk_lt
    apply (rchunks_ r5 (by omega) (by omega) (by omega) hzl (Hzr.out.keeps K5 (Nat.le_refl _) (by simp)) K5.size (fun h0 ad e => by have := hoffA h0 ad e; omega)).mono
    obtain ⟨R, hR⟩ : ∃ R, R = chop zs bs0 := ⟨_, rfl⟩
    rw [← hR]
    obtain ⟨C, fin, ask⟩ := R
    simp only
    rintro e w6 ⟨lv, vals, v6, rfl, hwt, r6, k6, -⟩
    obtain ⟨Al, capl, rfl, hl1, hl2, _⟩ := hwt.row.reads
    have p6 := p5.keep k6 (by simp) (fun g hg => by simp; rintro rfl; exact row_off_blk p5.row r5.blk (by decide) hg)
    have x6 := x5.keep k6 (by simp; omega)
    have z6 := z5.keep k6 (by simp; omega)
    have e6 := e5.keep k6 (by simp; omega)
    have K6 : Keep [] w w6 := K5.step k6 (by simp; omega)
    have sz6 := k6.size
    clear p5 r5 x5 z5 e5 k6 K5
    have HR := Lib.hid hR
    clear hR
    go_wp2_with (first
      | (go_at_call 13; refine (sizes_ _ _ _ _ (some ⟨cb, 0, none⟩)).mono ?_; rintro e w' ⟨rfl, rfl⟩)
      | (go_at_call 12; refine (chunks_ _ (some ⟨pb, 0, none⟩) _ _ _).mono ?_; rintro e w' ⟨rfl, rfl⟩))
    have a0 := Blk.new w6 31 #[.slice Al vals.length capl]
    have a1 := Blk.new (w6.alloc (.cells #[.slice Al vals.length capl] 31)) 3 #[.int .i64 0]
    have a2 := Blk.new ((w6.alloc (.cells #[.slice Al vals.length capl] 31)).alloc (.cells #[.int .i64 0] 3)) 3 #[.int .i64 nb]
    have a3 := Blk.new (((w6.alloc (.cells #[.slice Al vals.length capl] 31)).alloc (.cells #[.int .i64 0] 3)).alloc (.cells #[.int .i64 nb] 3)) 23 #[.slice A n c]
    have a4 := Blk.new ((((w6.alloc (.cells #[.slice Al vals.length capl] 31)).alloc (.cells #[.int .i64 0] 3)).alloc (.cells #[.int .i64 nb] 3)).alloc (.cells #[.slice A n c] 23)) 40 #[.pointer (some ⟨cb, 0, none⟩)]
    have a5 := Blk.new (((((w6.alloc (.cells #[.slice Al vals.length capl] 31)).alloc (.cells #[.int .i64 0] 3)).alloc (.cells #[.int .i64 nb] 3)).alloc (.cells #[.slice A n c] 23)).alloc (.cells #[.pointer (some ⟨cb, 0, none⟩)] 40)) 25 #[.pointer (some ⟨pb, 0, none⟩)]
    have a6 := Blk.new ((((((w6.alloc (.cells #[.slice Al vals.length capl] 31)).alloc (.cells #[.int .i64 0] 3)).alloc (.cells #[.int .i64 nb] 3)).alloc (.cells #[.slice A n c] 23)).alloc (.cells #[.pointer (some ⟨cb, 0, none⟩)] 40)).alloc (.cells #[.pointer (some ⟨pb, 0, none⟩)] 25)) 38 #[.func (.func 25) #[] #[.pointer (some ⟨w6.heap.size + 1 + 1 + 1, 0, none⟩), .pointer (some ⟨w6.heap.size + 1 + 1 + 1 + 1, 0, none⟩)]]
    simp only [World.size_alloc] at a0 a1 a2 a3 a4 a5 a6
    have a0 := ((((((a0.alloc (.cells #[.int .i64 0] 3)).alloc (.cells #[.int .i64 nb] 3)).alloc (.cells #[.slice A n c] 23)).alloc (.cells #[.pointer (some ⟨cb, 0, none⟩)] 40)).alloc (.cells #[.pointer (some ⟨pb, 0, none⟩)] 25)).alloc (.cells #[.func (.func 25) #[] #[.pointer (some ⟨w6.heap.size + 1 + 1 + 1, 0, none⟩), .pointer (some ⟨w6.heap.size + 1 + 1 + 1 + 1, 0, none⟩)]] 38))
    have a1 := (((((a1.alloc (.cells #[.int .i64 nb] 3)).alloc (.cells #[.slice A n c] 23)).alloc (.cells #[.pointer (some ⟨cb, 0, none⟩)] 40)).alloc (.cells #[.pointer (some ⟨pb, 0, none⟩)] 25)).alloc (.cells #[.func (.func 25) #[] #[.pointer (some ⟨w6.heap.size + 1 + 1 + 1, 0, none⟩), .pointer (some ⟨w6.heap.size + 1 + 1 + 1 + 1, 0, none⟩)]] 38))
    have a2 := ((((a2.alloc (.cells #[.slice A n c] 23)).alloc (.cells #[.pointer (some ⟨cb, 0, none⟩)] 40)).alloc (.cells #[.pointer (some ⟨pb, 0, none⟩)] 25)).alloc (.cells #[.func (.func 25) #[] #[.pointer (some ⟨w6.heap.size + 1 + 1 + 1, 0, none⟩), .pointer (some ⟨w6.heap.size + 1 + 1 + 1 + 1, 0, none⟩)]] 38))
    have a3 := (((a3.alloc (.cells #[.pointer (some ⟨cb, 0, none⟩)] 40)).alloc (.cells #[.pointer (some ⟨pb, 0, none⟩)] 25)).alloc (.cells #[.func (.func 25) #[] #[.pointer (some ⟨w6.heap.size + 1 + 1 + 1, 0, none⟩), .pointer (some ⟨w6.heap.size + 1 + 1 + 1 + 1, 0, none⟩)]] 38))
    have a4 := ((a4.alloc (.cells #[.pointer (some ⟨pb, 0, none⟩)] 25)).alloc (.cells #[.func (.func 25) #[] #[.pointer (some ⟨w6.heap.size + 1 + 1 + 1, 0, none⟩), .pointer (some ⟨w6.heap.size + 1 + 1 + 1 + 1, 0, none⟩)]] 38))
    have a5 := (a5.alloc (.cells #[.func (.func 25) #[] #[.pointer (some ⟨w6.heap.size + 1 + 1 + 1, 0, none⟩), .pointer (some ⟨w6.heap.size + 1 + 1 + 1 + 1, 0, none⟩)]] 38))
    have KS : Keep [] w6 (((((((w6.alloc (.cells #[.slice Al vals.length capl] 31)).alloc (.cells #[.int .i64 0] 3)).alloc (.cells #[.int .i64 nb] 3)).alloc (.cells #[.slice A n c] 23)).alloc (.cells #[.pointer (some ⟨cb, 0, none⟩)] 40)).alloc (.cells #[.pointer (some ⟨pb, 0, none⟩)] 25)).alloc (.cells #[.func (.func 25) #[] #[.pointer (some ⟨w6.heap.size + 1 + 1 + 1, 0, none⟩), .pointer (some ⟨w6.heap.size + 1 + 1 + 1 + 1, 0, none⟩)]] 38)) := (((((((Keep.refl [] w6).alloc _).alloc _).alloc _).alloc _).alloc _).alloc _).alloc _
    obtain ⟨S, hS⟩ : ∃ S, S = (((((((w6.alloc (.cells #[.slice Al vals.length capl] 31)).alloc (.cells #[.int .i64 0] 3)).alloc (.cells #[.int .i64 nb] 3)).alloc (.cells #[.slice A n c] 23)).alloc (.cells #[.pointer (some ⟨cb, 0, none⟩)] 40)).alloc (.cells #[.pointer (some ⟨pb, 0, none⟩)] 25)).alloc (.cells #[.func (.func 25) #[] #[.pointer (some ⟨w6.heap.size + 1 + 1 + 1, 0, none⟩), .pointer (some ⟨w6.heap.size + 1 + 1 + 1 + 1, 0, none⟩)]] 38)) := ⟨_, rfl⟩
    have szS : w6.heap.size + 7 ≤ S.heap.size := by rw [hS]; simp
    rw [← hS] at a0 a1 a2 a3 a4 a5 a6 KS ⊢
    clear hS
    have p7 := p6.keep KS (by simp) (by simp)
    have r7 := r6.keep KS (by simp) (by simp)
    have x7 := x6.keep KS (by simp)
    have z7 := z6.keep KS (by simp)
    have e7 := e6.keep KS (by simp)
    have hwt7 := hwt.keep KS (by simp) (by simp)
    have K7 := K6.trans KS
    have hwtl := hwt7.len
    have hv7 : ∀ g, rowBlk v3 = some g → g < S.heap.size := fun g hg => (p7.row.lt g hg).2
    clear p6 r6 x6 z6 e6 hwt K6 KS
    obtain ⟨wb, hwb⟩ : ∃ wb, wb = w6.heap.size := ⟨_, rfl⟩
    rw [← hwb] at a0 a1 a2 a3 a4 a5 a6 szS sz6 ⊢
    clear hwb
    have hwbS : wb + 7 ≤ S.heap.size := szS
    have hcbw : cb < wb := by omega
    have hpbc : pb + 1 < cb := by omega
    clear szS
    refine rng_stmt' (n := 5) (gf := 23) (lb := #[.pointer (some ⟨wb + 1 + 1 + 1 + 1 + 1, 0, none⟩), .pointer (some ⟨wb + 1 + 1 + 1 + 1 + 1 + 1, 0, none⟩)]) (by first | rfl | simp) (enters_of Try.func23 (by kernel_rfl) rfl) ?_
    intro rc hrc W1 hW1
    have szW1 : W1.heap.size = S.heap.size + 1 + 1 := by rw [hW1]; simp
    have KW : Keep [] S W1 := by rw [hW1]; exact ((Keep.refl [] S).alloc _).alloc _
    have q1 : W1.heap[S.heap.size + 1]? = some (.loop (rc .ready none)) := by rw [hW1]; have := heap_alloc_new (S.alloc (.deferred (some []))) (.loop (rc .ready none)); simpa using this
    have q2 : W1.heap[S.heap.size]? = some (.deferred (some [])) := by rw [hW1]; exact (Below.heap_alloc _ _ _ (by simp)).trans (heap_alloc_new S (.deferred (some [])))
    have start : CJ w.heap.size pb S W1 (rc .ready none) pb (wb + 1 + 1 + 1 + 1 + 1) (wb + 1 + 1 + 1 + 1 + 1 + 1) (wb + 1 + 1 + 1) (wb + 1 + 1 + 1 + 1) cb (wb + 1) (wb + 1 + 1) A n c zs most C fin ask 0 0 v3 bs0 :=
      ⟨⟨⟨⟨a3.keep KW (by simp), a4.keep KW (by simp), (Hzr.out.keeps K7 (Nat.le_refl _) (by simp)).keeps KW (by omega) (by simp), fun g hg => by injection hg with hg; subst hg; exact e7.keep KW (by simp), by omega, fun h0 ad e g hg => by injection hg with hg; have := hoffA h0 ad e; omega⟩, p7.keep KW (by simp) (by simp), a5.keep KW (by simp), a6.keep KW (by simp), by omega, fun h0 ad e => by have := hoffA h0 ad e; omega⟩,
        ⟨q1, q2, KW.more (by simp)⟩, hv7, ⟨by omega, by omega, by omega, by omega, by omega, by omega⟩, fun g hg => by injection hg with hg; omega⟩,
        a1.keep KW (by simp), by rw [hbl]; exact a2.keep KW (by simp), by rw [List.drop_zero, ← HR.out]; rfl, by rw [List.drop_zero, ← HR.out], by rw [List.drop_zero, ← HR.out]; simp, by omega, by omega, by omega⟩
    refine (show CallsIn Fence.wide 5 Try.prog 23 (#[.func (.yield (S.heap.size + 1)) #[] #[]] ++ #[.pointer (some ⟨wb + 1 + 1 + 1 + 1 + 1, 0, none⟩), .pointer (some ⟨wb + 1 + 1 + 1 + 1 + 1 + 1, 0, none⟩)]) W1 (fun e W => (∃ v, e = .returned v) ∧
      ((∃ i j bs v, (CJ w.heap.size pb S W (rc .ready none) pb (wb + 1 + 1 + 1 + 1 + 1) (wb + 1 + 1 + 1 + 1 + 1 + 1) (wb + 1 + 1 + 1) (wb + 1 + 1 + 1 + 1) cb (wb + 1) (wb + 1 + 1) A n c zs most C fin ask i j v bs ∧ (1 ≤ most → (j : Int) ≠ most)) ∧ (i = n ∨ bs = [])) ∨ ∃ i j bs v, CJ w.heap.size pb S W (rc .done (some (.exit 0))) pb (wb + 1 + 1 + 1 + 1 + 1) (wb + 1 + 1 + 1 + 1 + 1 + 1) (wb + 1 + 1 + 1) (wb + 1 + 1 + 1 + 1) cb (wb + 1) (wb + 1 + 1) A n c zs most C fin ask i j v bs ∧ (j : Int) = most ∧ 1 ≤ j)) from ?it).mono ?fin
    case it =>
      by_cases hbe : bs0 = []
      · subst hbe
        refine (it_empty W1 (a5.keep KW (by simp)) (p7.keep KW (by simp) (by simp))).mono ?_
        rintro e W' ⟨hr, k⟩
        exact ⟨hr, .inl ⟨0, 0, [], v3, ⟨start.own k (by simp) (by omega) (by omega), fun h => by omega⟩, .inr rfl⟩⟩
      · refine chunksIt (m := 5) (s := w.heap.size) (base := pb) (pb := pb) (c1 := wb + 1 + 1 + 1 + 1 + 1) (c2 := wb + 1 + 1 + 1 + 1 + 1 + 1) (bl := wb + 1 + 1 + 1) (bc := wb + 1 + 1 + 1 + 1) (pc := some cb) (A := A) (n := n) (c := c) (zs := zs) (en := false) (to := false) (by omega) hzl (fun _ => by omega)
          (fun i j bs v W => CJ w.heap.size pb S W (rc .ready none) pb (wb + 1 + 1 + 1 + 1 + 1) (wb + 1 + 1 + 1 + 1 + 1 + 1) (wb + 1 + 1 + 1) (wb + 1 + 1 + 1 + 1) cb (wb + 1) (wb + 1 + 1) A n c zs most C fin ask i j v bs ∧ (1 ≤ most → (j : Int) ≠ most)) (fun W => ∃ i j bs v, CJ w.heap.size pb S W (rc .done (some (.exit 0))) pb (wb + 1 + 1 + 1 + 1 + 1) (wb + 1 + 1 + 1 + 1 + 1 + 1) (wb + 1 + 1 + 1) (wb + 1 + 1 + 1 + 1) cb (wb + 1) (wb + 1 + 1) A n c zs most C fin ask i j v bs ∧ (j : Int) = most ∧ 1 ≤ j) (fun i j bs v W h => h.1.lj.cf) W1 ?hst ?hstK ?hskip ?round (by omega) (by omega) (by omega) (by omega) (by omega) (fun g hg => by injection hg with hg; omega) bs0 v3 hbe ⟨start, fun h => by omega⟩
        case hst =>
          rintro i j bs v W W' ⟨cj, hm⟩ k
          rw [szW1] at k
          exact ⟨cj.own k (by first | (simp; done) | (simp; omega)) (by omega) (by omega), hm⟩
        case hstK =>
          rintro W W' ⟨i, j, bs, v, cj, hm⟩ k
          rw [szW1] at k
          exact ⟨i, j, bs, v, cj.own k (by first | (simp; done) | (simp; omega)) (by omega) (by omega), hm⟩
        case hskip =>
          rintro i j bs v W z ⟨cj, hm⟩ hz hbn h1
          have hd : zs.drop i = z :: zs.drop (i + 1) := by
            obtain ⟨hl, e⟩ := List.getElem?_eq_some_iff.1 hz
            rw [List.drop_eq_getElem_cons hl, e]
          have k := tickW_keep (some cb) i W
          have hch := cj.ch
          have hfi := cj.fi
          have hak := cj.ak
          have hji := cj.ji
          rw [hd, chop_skip hbn h1] at hch hfi hak
          exact ⟨⟨cj.lj.tick (by simp), cj.kk.keep k (by simp; omega), cj.ll.keep k (by simp; omega), hch, hfi, by simp at hak; omega, cj.jc, by omega, by rw [← hzl]; have := (List.getElem?_eq_some_iff.1 hz).1; omega⟩, hm⟩
        case round =>
          rintro i j bs v W z k ⟨cj, hmj⟩ hzi hne h1 hk' hsz W2' v2' r kk cf hr hs
          rw [szW1] at hsz kk ⊢
          have hd : zs.drop i = z :: zs.drop (i + 1) := by
            obtain ⟨hl, e⟩ := List.getElem?_eq_some_iff.1 hzi
            rw [List.drop_eq_getElem_cons hl, e]
          have hch := cj.ch
          have hfi := cj.fi
          have hak := cj.ak
          have hji := cj.ji
          rw [hd, chop_take (k := k) hne (by omega) hk'] at hch hfi hak
          obtain ⟨hjl, hCj, hCd⟩ := drop_get hch.symm
          have lj2 := cj.lj.step kk (by first | (simp; done) | (simp; omega)) (by simp) (by simp) cf hs
          have kk2 := cj.kk.keep kk (by simp; omega)
          have ll2 := cj.ll.keep kk (by simp; omega)
          have rbs := hwt7.len
          obtain ⟨u, huj⟩ : ∃ u, vals[j]? = some u := ⟨vals[j]'(by omega), List.getElem?_eq_getElem (by omega)⟩
          have ru := hwt7.all j u (bs.take k) huj hCj
          have lj3 := lj2.put (rec' := rc .busy none)
          have kp : Keep [S.heap.size + 1] W2' (W2'.putObj (S.heap.size + 1) (.loop (rc .busy none))) := (Keep.refl _ W2').putObj (.inl (by simp)) _
          have hgk : ∀ g, S.heap.size + 1 + 1 ≤ g → (W2'.putObj (S.heap.size + 1) (.loop (rc .busy none))).heap[g]? = W2'.heap[g]? := fun g hg => World.putObj_heap_other (by omega)
          have kk3 := kk2.keep kp (by simp; omega)
          have ll3 := ll2.keep kp (by simp; omega)
          have hr3 := hr.keep kp (fun g hg => by have := (hr.lt g hg).1; simp; omega)
          obtain ⟨W3, hW3⟩ : ∃ W3, W3 = W2'.putObj (S.heap.size + 1) (.loop (rc .busy none)) := ⟨_, rfl⟩
          rw [← hW3] at lj3 kk3 ll3 hgk hr3
          have K3 := lj3.rs.kp
          have ru3 := ru.keep K3 (fun g hg hx => by
            simp at hx
            rcases hx with rfl | rfl | rfl | rfl
            · exact row_off_blk ru p7.blk (by decide) hg
            · exact row_off_blk ru e7 (by decide) hg
            · exact row_off_blk ru a1 (by decide) hg
            · exact row_off_blk ru a2 (by decide) hg)
          have hlv3 := hwt7.row.keep K3 (fun g hg hx => by
            simp at hx
            rcases hx with rfl | rfl | rfl | rfl
            · exact row_off_blk hwt7.row p7.blk (by decide) hg
            · exact row_off_blk hwt7.row e7 (by decide) hg
            · exact row_off_blk hwt7.row a1 (by decide) hg
            · exact row_off_blk hwt7.row a2 (by decide) hg)
          have wb3 := (a0.keep K3 (by simp; omega)).cell 0
          have mb3 := (x7.keep K3 (by simp; omega)).cell 0
          have kl : k ≤ bs.length := by omega
          have lT : (encB (bs.take k)).length = k := by rw [encB_len, List.length_take]; omega
          have lD : (bs.drop k).length = bs.length - k := List.length_drop
          have cflen := cj.lj.cf.ln
          have hin : i < n := by rw [← hzl]; exact (List.getElem?_eq_some_iff.1 hzi).1
          obtain ⟨T, hT⟩ : ∃ T, T = bs.take k := ⟨_, rfl⟩
          rw [← hT] at ru3 hr3 lT
          have hr4 : ∃ Ar capr, r = .slice Ar k capr ∧ Reads W3 W3.heap.size 1 Ar k (encB T) := by
            obtain ⟨Ar, capr, e, _, _, h⟩ := hr3.reads
            rw [lT] at e h
            exact ⟨Ar, capr, e, h⟩
          have hu4 : ∃ Au capu, u = .slice Au k capu ∧ Reads W3 W3.heap.size 1 Au k (encB T) := by
            obtain ⟨Au, capu, e, _, _, h⟩ := ru3.reads
            rw [lT] at e h
            exact ⟨Au, capu, e, h⟩
          obtain ⟨Ar, capr, rfl, hr4⟩ := hr4
          obtain ⟨Au, capu, rfl, hu4⟩ := hu4
          have st1 := str_of (c := capr) (src := 22) (dst := 9) Try.underlying22 Try.underlying5 Try.underlying9 (hr4.kept (gs := []) ((Keep.refl [] W3).drew) (Nat.le_refl _) (by simp))
          have st2 := str_of (c := capu) (src := 22) (dst := 9) Try.underlying22 Try.underlying5 Try.underlying9 (hu4.kept (gs := []) ((Keep.refl [] W3).drew) (Nat.le_refl _) (by simp))
          obtain ⟨Al', capl', el, _, _, hlr⟩ := hlv3.reads
          injection el with el1 el2 el3
          subst el1 el3
          obtain ⟨gl, ol, hAl, _, hlc⟩ := hlr.plain (by omega) (by omega)
          have lj := hlc j _ huj
          refine rng_round' hrc lj2.rs.rc rfl ?_
          clear hrc hW1
          have LJ3 := Lib.hid lj3
          have L2 := Lib.hid lj2.rs.rc
          have HGK := Lib.hid hgk
          have HD := Lib.hid hd
          have HCD := Lib.hid hCd
          have HFI := Lib.hid hfi
          have HAK := Lib.hid hak
          have HT := Lib.hid hT
          have HK' := Lib.hid hk'
          have HJ' : Hid (j + 1 ≤ i + 1) := Lib.hid (by omega)
          clear hd hch hfi hak hCj hCd lj2 kk2 ll2 lj3 kp hr hr3 ru ru3 hlv3 hr4 hu4 hlr hlc hT hk' hgk cf hs kk cj start KW q1 q2
          gi_wp2
          refine ⟨L2.out, ?_⟩
          rw [← hW3]
          clear hW3
          subst hAl
          have jl : ¬ (vals.length : Int) ≤ (j : Int) := by omega
          have y0 := kk3.cell 0
          have y1 := ll3.cell 0
          have yf0 := kk3.frozen 0
          have yf1 := ll3.frozen 0
          simp at y0 y1 wb3 mb3
          gi_wp2
          refine region_rtg [(3, true), (8, true), (9, true), (18, false)] [(3, false), (9, false)]
            [(0, .int .i64 j), (1, .int .i64 j), (2, .bool false), (4, .int .i64 j), (5, .slice (some ⟨gl, ol, none⟩) vals.length capl), (6, .int .i64 vals.length), (7, .bool false), (10, .slice Ar k capr), (11, .string ⟨T.toArray⟩), (12, .slice (some ⟨gl, ol, none⟩) vals.length capl), (13, .int .i64 j), (14, .pointer (some ⟨gl, ol + j, none⟩)), (15, .slice Au k capu), (16, .string ⟨T.toArray⟩), (17, .bool false)]
            (fun W => W = W3.drew) (by kernel_rfl) (by kernel_rfl) rfl ?_ ?_
          · have jl2 : (j : Int) < (vals.length : Int) := by omega
            have jl0 : (0 : Int) ≤ (j : Int) := by omega
            have jl3 : j < vals.length := by omega
            (simp only [evOk, putAll, List.getElem?_toArray, List.getElem?_cons_zero, List.getElem?_cons_succ, Option.bind_some, Act.put, List.setIfInBounds_toArray, List.set_cons_zero, List.set_cons_succ]; repeat' apply And.intro) <;> first | exact trivial | (rintro W rfl; simp [go_sem, y0, wb3, lj, st1, st2, jl, jl2, jl0, jl3]; done)
          · simp only [putAll, List.getElem?_toArray, List.getElem?_cons_zero, List.getElem?_cons_succ, Option.bind_some, Act.put, List.setIfInBounds_toArray, List.set_cons_zero, List.set_cons_succ]
            refine tail_wanted rfl rfl ?_
            simp [go_sem]
            refine ⟨fun b hb => by obtain rfl := Option.some.inj hb; rfl, ?_⟩
            refine tail_wanted rfl rfl ?_
            simp [go_sem]
            refine ⟨gHolds_none rfl, ?_⟩
            refine tail_wanted rfl rfl ?_
            simp [go_sem]
            refine ⟨fun b hb => by obtain rfl := Option.some.inj hb; rfl, ?_⟩
            refine tail_wanted rfl rfl ?_
            simp [go_sem]
            refine ⟨gHolds_none rfl, ?_⟩
            unfold wpTailG
            have kz0 : (0 : Int) ≤ (k : Int) := by omega
            have kz1 : (k : Int) ≤ (bs.length : Int) := by omega
            have kz2 : (bs.length : Int) ≤ 140737488355328 := by have := LJ3.out.cf.ln; have := cflen; omega
            have jz0 : (0 : Int) ≤ (j : Int) := by omega
            have jz1 : (j : Int) ≤ 1000 := by omega
            have k4 : Keep [wb + 1 + 1, wb + 1] W3 ((W3.setCell ⟨wb + 1 + 1, 0, none⟩ (.int .i64 ((bs.length : Int) - (k : Int)))).setCell ⟨wb + 1, 0, none⟩ (.int .i64 ((j : Int) + 1))).drew := (((Keep.refl _ W3).setCell (p := ⟨wb + 1 + 1, 0, none⟩) (.inl (by simp)) _).setCell (p := ⟨wb + 1, 0, none⟩) (.inl (by simp)) _).drew
            have lj4 := LJ3.out.law k4 (fun g hg => by
              simp at hg
              have hrow := LJ3.out.cf.pp.row
              rcases hg with rfl | rfl
              · exact ⟨by simp, by omega, fun h0 ad e => by have := hoffA h0 ad e; omega, by omega, by omega, by simp; omega, by omega, by omega, by omega, row_off_blk hrow ll3 (by decide)⟩
              · exact ⟨by simp, by omega, fun h0 ad e => by have := hoffA h0 ad e; omega, by omega, by omega, by simp; omega, by omega, by omega, by omega, row_off_blk hrow kk3 (by decide)⟩)
            have kk4 : Blk ((W3.setCell ⟨wb + 1 + 1, 0, none⟩ (.int .i64 ((bs.length : Int) - (k : Int)))).setCell ⟨wb + 1, 0, none⟩ (.int .i64 ((j : Int) + 1))).drew (wb + 1) 3 #[.int .i64 ((j + 1 : Nat) : Int)] := ((kk3.far (p := ⟨wb + 1 + 1, 0, none⟩) (by simp) (.int .i64 ((bs.length : Int) - (k : Int)))).set_ 0 (.int .i64 ((j : Int) + 1))).keep ((Keep.refl [] _).drew) (by simp)
            have ll4 : Blk ((W3.setCell ⟨wb + 1 + 1, 0, none⟩ (.int .i64 ((bs.length : Int) - (k : Int)))).setCell ⟨wb + 1, 0, none⟩ (.int .i64 ((j : Int) + 1))).drew (wb + 1 + 1) 3 #[.int .i64 ((bs.drop k).length : Nat)] := by
              rw [show (((bs.drop k).length : Nat) : Int) = (bs.length : Int) - (k : Int) by rw [lD]; omega]
              exact ((ll3.set_ 0 (.int .i64 ((bs.length : Int) - (k : Int)))).far (p := ⟨wb + 1, 0, none⟩) (by simp) (.int .i64 ((j : Int) + 1))).keep ((Keep.refl [] _).drew) (by simp)
            have CJ4 := Lib.hid (show CJ w.heap.size pb S _ (rc .busy none) pb (wb + 1 + 1 + 1 + 1 + 1) (wb + 1 + 1 + 1 + 1 + 1 + 1) (wb + 1 + 1 + 1) (wb + 1 + 1 + 1 + 1) cb (wb + 1) (wb + 1 + 1) A n c zs most C fin ask (i + 1) (j + 1) v2' (bs.drop k) from ⟨lj4, kk4, ll4, HCD.out.symm, HFI.out, by have := HAK.out; omega, by omega, HJ'.out, by omega⟩)
            have HG4 : Hid (∀ (o : Obj) g, S.heap.size + 1 + 1 ≤ g → (((W3.setCell ⟨wb + 1 + 1, 0, none⟩ (.int .i64 ((bs.length : Int) - (k : Int)))).setCell ⟨wb + 1, 0, none⟩ (.int .i64 ((j : Int) + 1))).drew.putObj (S.heap.size + 1) o).heap[g]? = W2'.heap[g]?) := Lib.hid (fun o g hg => (World.putObj_heap_other (by omega)).trans ((Below.heap_setCell _ ⟨wb + 1, 0, none⟩ _ _ (by simp; omega)).trans ((Below.heap_setCell W3 ⟨wb + 1 + 1, 0, none⟩ _ _ (by simp; omega)).trans (HGK.out g hg))))
            have hjm := HJ'
            clear lj4 kk4 ll4 k4
            go_at_K
            gi_wp2
            · have hq := ‹((j : Int) + 1 == most) = true›
              exact ⟨CJ4.out.lj.rs.rc, fun g h1 _ => HG4.out _ g h1, i + 1, j + 1, ⟨_, _, CJ4.out.put (by omega) (by omega)⟩, by simp at hq; omega, by omega⟩
            · have hq := ‹((j : Int) + 1 == most) = false›
              exact ⟨CJ4.out.lj.rs.rc, fun g h1 _ => HG4.out _ g h1, ⟨_, CJ4.out.put (by omega) (by omega)⟩, fun _ => by simp at hq; omega⟩
    case fin =>
      rintro e W' ⟨⟨vr, rfl⟩, h⟩
      clear hW1 KW q1 q2 start
      rcases h with ⟨i, j, bs, v, ⟨cj, hmj⟩, hib⟩ | ⟨i, j, bs, v, cj, hjm, hj1⟩
      · have hc0 : chop (zs.drop i) bs = ([], bs, 0) := by
          rcases hib with rfl | rfl
          · rw [List.drop_of_length_le (by omega)]; rfl
          · exact chop_nil _
        have hch := cj.ch
        have hfi := cj.fi
        have hak := cj.ak
        have hjc := cj.jc
        rw [hc0] at hch hfi hak
        simp only at hch hfi hak
        have hjC : j = C.length := by
          have := congrArg List.length hch
          simp at this
          omega
        refine ⟨_, .ready, none, rfl, by simp, cj.lj.rs.rc, ?_⟩
        have cj5 := cj.put (rec' := rc .exhausted none) (by omega) (by omega)
        obtain ⟨W5, hW5⟩ : ∃ W5, W5 = W'.putObj (S.heap.size + 1) (.loop (rc .exhausted none)) := ⟨_, rfl⟩
        simp only [← hW5] at cj5 ⊢
        clear hW5 cj hrc
        have K5 := cj5.lj.rs.kp
        have x5 := (x7.keep K5 (by simp; omega)).cell 0
        have z5 := z7.keep K5 (by simp; omega)
        have w5b := (a0.keep K5 (by simp; omega)).cell 0
        have kc5 := cj5.kk.cell 0
        have lc5 := cj5.ll.cell 0
        have cc5 := (cj5.lj.cf.fd.cnt cb rfl).cell 0
        have z5c := z5.cell 0
        have z5f := z5.frozen 0
        have pp5 := cj5.lj.cf.pp
        have r8 := r7.keep K5 (by simp; omega) (fun g hg hx => by
          simp at hx
          rcases hx with rfl | rfl | rfl | rfl
          · exact row_off_blk r7.row p7.blk (by decide) hg
          · exact row_off_blk r7.row e7 (by decide) hg
          · exact row_off_blk r7.row a1 (by decide) hg
          · exact row_off_blk r7.row a2 (by decide) hg)
        obtain ⟨A6, cap6, rfl, _, _, _⟩ := r8.slice
        have rc5 := r8.blk.cell 0
        have hdf5 := cj5.lj.rs.df
        simp at x5 w5b kc5 lc5 cc5 z5c rc5
        have KF : Keep [] w (((W5.setCell ⟨w.heap.size + 1, 0, none⟩ (.bool true)).drew).putObj S.heap.size (.deferred none)) := (((K7.step K5 (by simp; omega)).setCell (p := ⟨w.heap.size + 1, 0, none⟩) (.inr (by simp)) _).drew).putObj (.inr (by omega)) _
        have HKF := Lib.hid KF
        have z6 := ((((z5.set_ 0 (.bool true)).keep ((Keep.refl [] _).drew) (by simp)).keep ((Keep.refl [S.heap.size] _).putObj (l := S.heap.size) (.inl (by simp)) (.deferred none)) (by simp; omega))).cell 0
        simp at z6
        have hdf6 : ((W5.setCell ⟨w.heap.size + 1, 0, none⟩ (.bool true)).drew).heap[S.heap.size]? = some (.deferred (some [])) := (Below.heap_setCell W5 ⟨w.heap.size + 1, 0, none⟩ _ _ (by simp; omega)).trans hdf5
        have Hdf6 := Lib.hid hdf6
        have PPD := Lib.hid (pp5.keep ((Keep.refl [] W5).drew) (by simp) (by simp))
        clear K5 KF hdf6 hdf5 z5 r8 r7 x7 z7 a0 a1 a2 a3 a4 a5 a6 e7 p7 hwt7 K7 pp5
        have hvC := hjC
        have hne1 : ((j : Int) == most) = false ∨ ¬ (1 : Int) ≤ most := by
          by_cases h1 : 1 ≤ most
          · exact .inl (by simp; exact hmj h1)
          · exact .inr h1
        have hqv : ((j : Int) == (vals.length : Int)) = true := by simp; have := hwtl; omega
        have hqi : (i : Int) ≤ (ask : Int) + 1 := by omega
        have hqb : ((bs.length : Int) == (fin.length : Int)) = true := by simp [hfi]
        have ask0 : (0 : Int) ≤ (ask : Int) := by omega
        have ask1 : (ask : Int) ≤ 1000 := by have := cj5.ni; omega
        have ask2 : IntKind.i64.wrap ((ask : Int) + 1) = (ask : Int) + 1 := by simp [IntKind.wrap, IntKind.signed, IntKind.bits]; omega
        clear hmj
        rcases hne1 with h1 | h1
        · by_cases h2 : (1 : Int) ≤ most
          · go_wp2
            refine wpIn_wide.1 (region_rtg (n := 0) [(1, true), (6, true), (7, true), (9, true), (15, true), (16, true), (17, true), (22, false), (23, false)] [(1, true), (7, true), (17, true)]
              [(0, .bool true), (2, .int .i64 j), (3, .slice Al vals.length capl), (4, .int .i64 vals.length), (5, .bool true), (8, .pointer (some ⟨pb, 0, none⟩)), (10, .pointer (some ⟨pb + 1, 0, none⟩)), (11, .pointer (some ⟨pb + 1, 0, none⟩)), (12, .pointer (some ⟨pb + 1, 0, none⟩)), (13, .slice A6 fin.length cap6), (14, .int .i64 fin.length), (18, .int .i64 i), (19, .int .i64 ask), (20, .int .i64 ((ask : Int) + 1)), (21, .bool true)]
              (fun W => W = W5.drew) (by kernel_rfl) (by kernel_rfl) rfl ?_ ?_)
            · (simp only [evOk, putAll, List.getElem?_toArray, List.getElem?_cons_zero, List.getElem?_cons_succ, Option.bind_some, Act.put, List.setIfInBounds_toArray, List.set_cons_zero, List.set_cons_succ]; repeat' apply And.intro) <;> first | exact trivial | (rintro W rfl; simp [go_sem, kc5, w5b, cc5, rc5, hqv, hqi, ask0, ask1, ask2]; done)
            · simp only [putAll, List.getElem?_toArray, List.getElem?_cons_zero, List.getElem?_cons_succ, Option.bind_some, Act.put, List.setIfInBounds_toArray, List.set_cons_zero, List.set_cons_succ]
              refine tail_wanted rfl rfl ?_
              simp [go_sem]
              refine ⟨fun b hb => by obtain rfl := Option.some.inj hb; rfl, ?_⟩
              refine tail_wanted rfl rfl ?_
              simp [go_sem]
              refine ⟨gHolds_none rfl, ?_⟩
              refine tail_wanted rfl rfl ?_
              simp [go_sem]
              refine ⟨fun b hb => by obtain rfl := Option.some.inj hb; rfl, ?_⟩
              refine tail_wanted rfl rfl ?_
              simp [go_sem]
              refine ⟨trivial, rfl, (callsIn_wide.2 (len_ PPD.out)).mono ?_⟩
              rintro e w9 ⟨rfl, rfl⟩
              refine ⟨⟨rfl, gHolds_none rfl⟩, ?_⟩
              refine tail_wanted rfl rfl ?_
              simp [go_sem, hqb]
              refine ⟨gHolds_none rfl, ?_⟩
              refine tail_wanted rfl rfl ?_
              simp [go_sem]
              refine ⟨gHolds_none rfl, ?_⟩
              refine tail_wanted rfl rfl ?_
              simp [go_sem]
              refine ⟨fun b hb => by obtain rfl := Option.some.inj hb; rfl, ?_⟩
              refine tail_wanted rfl rfl ?_
              simp [go_sem]
              refine ⟨gHolds_none rfl, ?_⟩
              refine tail_wanted rfl rfl ?_
              simp [go_sem, z5c, z5f]
              refine ⟨gHolds_none rfl, ?_⟩
              unfold wpTailG
              go_at_K
              go_wp2
              refine ⟨by simp, .inl ⟨_, _, rfl, run_takeDeferred Hdf6.out, ?_⟩⟩
              exact ⟨.bool true, by simp [results, Try.results3, go_sem, z6], rfl, HKF.out.below (Nat.le_refl _) (by simp)⟩
          · go_wp2
            refine wpIn_wide.1 (region_rtg (n := 0) [(1, true), (6, true), (7, true), (9, true), (15, true), (16, true), (17, true), (22, false), (23, false)] [(1, true), (7, true), (17, true)]
              [(0, .bool true), (2, .int .i64 j), (3, .slice Al vals.length capl), (4, .int .i64 vals.length), (5, .bool true), (8, .pointer (some ⟨pb, 0, none⟩)), (10, .pointer (some ⟨pb + 1, 0, none⟩)), (11, .pointer (some ⟨pb + 1, 0, none⟩)), (12, .pointer (some ⟨pb + 1, 0, none⟩)), (13, .slice A6 fin.length cap6), (14, .int .i64 fin.length), (18, .int .i64 i), (19, .int .i64 ask), (20, .int .i64 ((ask : Int) + 1)), (21, .bool true)]
              (fun W => W = W5.drew) (by kernel_rfl) (by kernel_rfl) rfl ?_ ?_)
            · (simp only [evOk, putAll, List.getElem?_toArray, List.getElem?_cons_zero, List.getElem?_cons_succ, Option.bind_some, Act.put, List.setIfInBounds_toArray, List.set_cons_zero, List.set_cons_succ]; repeat' apply And.intro) <;> first | exact trivial | (rintro W rfl; simp [go_sem, kc5, w5b, cc5, rc5, hqv, hqi, ask0, ask1, ask2]; done)
            · simp only [putAll, List.getElem?_toArray, List.getElem?_cons_zero, List.getElem?_cons_succ, Option.bind_some, Act.put, List.setIfInBounds_toArray, List.set_cons_zero, List.set_cons_succ]
              refine tail_wanted rfl rfl ?_
              simp [go_sem]
              refine ⟨fun b hb => by obtain rfl := Option.some.inj hb; rfl, ?_⟩
              refine tail_wanted rfl rfl ?_
              simp [go_sem]
              refine ⟨gHolds_none rfl, ?_⟩
              refine tail_wanted rfl rfl ?_
              simp [go_sem]
              refine ⟨fun b hb => by obtain rfl := Option.some.inj hb; rfl, ?_⟩
              refine tail_wanted rfl rfl ?_
              simp [go_sem]
              refine ⟨trivial, rfl, (callsIn_wide.2 (len_ PPD.out)).mono ?_⟩
              rintro e w9 ⟨rfl, rfl⟩
              refine ⟨⟨rfl, gHolds_none rfl⟩, ?_⟩
              refine tail_wanted rfl rfl ?_
              simp [go_sem, hqb]
              refine ⟨gHolds_none rfl, ?_⟩
              refine tail_wanted rfl rfl ?_
              simp [go_sem]
              refine ⟨gHolds_none rfl, ?_⟩
              refine tail_wanted rfl rfl ?_
              simp [go_sem]
              refine ⟨fun b hb => by obtain rfl := Option.some.inj hb; rfl, ?_⟩
              refine tail_wanted rfl rfl ?_
              simp [go_sem]
              refine ⟨gHolds_none rfl, ?_⟩
              refine tail_wanted rfl rfl ?_
              simp [go_sem, z5c, z5f]
              refine ⟨gHolds_none rfl, ?_⟩
              unfold wpTailG
              go_at_K
              go_wp2
              refine ⟨by simp, .inl ⟨_, _, rfl, run_takeDeferred Hdf6.out, ?_⟩⟩
              exact ⟨.bool true, by simp [results, Try.results3, go_sem, z6], rfl, HKF.out.below (Nat.le_refl _) (by simp)⟩
        · go_wp2
          refine wpIn_wide.1 (region_rtg (n := 0) [(1, true), (6, true), (7, true), (9, true), (15, true), (16, true), (17, true), (22, false), (23, false)] [(1, true), (7, true), (17, true)]
            [(0, .bool true), (2, .int .i64 j), (3, .slice Al vals.length capl), (4, .int .i64 vals.length), (5, .bool true), (8, .pointer (some ⟨pb, 0, none⟩)), (10, .pointer (some ⟨pb + 1, 0, none⟩)), (11, .pointer (some ⟨pb + 1, 0, none⟩)), (12, .pointer (some ⟨pb + 1, 0, none⟩)), (13, .slice A6 fin.length cap6), (14, .int .i64 fin.length), (18, .int .i64 i), (19, .int .i64 ask), (20, .int .i64 ((ask : Int) + 1)), (21, .bool true)]
            (fun W => W = W5.drew) (by kernel_rfl) (by kernel_rfl) rfl ?_ ?_)
          · (simp only [evOk, putAll, List.getElem?_toArray, List.getElem?_cons_zero, List.getElem?_cons_succ, Option.bind_some, Act.put, List.setIfInBounds_toArray, List.set_cons_zero, List.set_cons_succ]; repeat' apply And.intro) <;> first | exact trivial | (rintro W rfl; simp [go_sem, kc5, w5b, cc5, rc5, hqv, hqi, ask0, ask1, ask2]; done)
          · simp only [putAll, List.getElem?_toArray, List.getElem?_cons_zero, List.getElem?_cons_succ, Option.bind_some, Act.put, List.setIfInBounds_toArray, List.set_cons_zero, List.set_cons_succ]
            refine tail_wanted rfl rfl ?_
            simp [go_sem]
            refine ⟨fun b hb => by obtain rfl := Option.some.inj hb; rfl, ?_⟩
            refine tail_wanted rfl rfl ?_
            simp [go_sem]
            refine ⟨gHolds_none rfl, ?_⟩
            refine tail_wanted rfl rfl ?_
            simp [go_sem]
            refine ⟨fun b hb => by obtain rfl := Option.some.inj hb; rfl, ?_⟩
            refine tail_wanted rfl rfl ?_
            simp [go_sem]
            refine ⟨trivial, rfl, (callsIn_wide.2 (len_ PPD.out)).mono ?_⟩
            rintro e w9 ⟨rfl, rfl⟩
            refine ⟨⟨rfl, gHolds_none rfl⟩, ?_⟩
            refine tail_wanted rfl rfl ?_
            simp [go_sem, hqb]
            refine ⟨gHolds_none rfl, ?_⟩
            refine tail_wanted rfl rfl ?_
            simp [go_sem]
            refine ⟨gHolds_none rfl, ?_⟩
            refine tail_wanted rfl rfl ?_
            simp [go_sem]
            refine ⟨fun b hb => by obtain rfl := Option.some.inj hb; rfl, ?_⟩
            refine tail_wanted rfl rfl ?_
            simp [go_sem]
            refine ⟨gHolds_none rfl, ?_⟩
            refine tail_wanted rfl rfl ?_
            simp [go_sem, z5c, z5f]
            refine ⟨gHolds_none rfl, ?_⟩
            unfold wpTailG
            go_at_K
            go_wp2
            refine ⟨by simp, .inl ⟨_, _, rfl, run_takeDeferred Hdf6.out, ?_⟩⟩
            exact ⟨.bool true, by simp [results, Try.results3, go_sem, z6], rfl, HKF.out.below (Nat.le_refl _) (by simp)⟩
      · refine ⟨_, .done, some (.exit 0), rfl, by simp, cj.lj.rs.rc, ?_⟩
        have cj5 := cj.put (rec' := rc .exhausted (some (.exit 0))) (by omega) (by omega)
        obtain ⟨W5, hW5⟩ : ∃ W5, W5 = W'.putObj (S.heap.size + 1) (.loop (rc .exhausted (some (.exit 0)))) := ⟨_, rfl⟩
        simp only [← hW5] at cj5 ⊢
        clear hW5 cj hrc
        have K5 := cj5.lj.rs.kp
        have x5 := (x7.keep K5 (by simp; omega)).cell 0
        have z5 := z7.keep K5 (by simp; omega)
        have w5b := (a0.keep K5 (by simp; omega)).cell 0
        have kc5 := cj5.kk.cell 0
        have lc5 := cj5.ll.cell 0
        have cc5 := (cj5.lj.cf.fd.cnt cb rfl).cell 0
        have z5c := z5.cell 0
        have z5f := z5.frozen 0
        have pp5 := cj5.lj.cf.pp
        have r8 := r7.keep K5 (by simp; omega) (fun g hg hx => by
          simp at hx
          rcases hx with rfl | rfl | rfl | rfl
          · exact row_off_blk r7.row p7.blk (by decide) hg
          · exact row_off_blk r7.row e7 (by decide) hg
          · exact row_off_blk r7.row a1 (by decide) hg
          · exact row_off_blk r7.row a2 (by decide) hg)
        obtain ⟨A6, cap6, rfl, _, _, _⟩ := r8.slice
        have rc5 := r8.blk.cell 0
        have hdf5 := cj5.lj.rs.df
        simp at x5 w5b kc5 lc5 cc5 z5c rc5
        have KF : Keep [] w (((W5.setCell ⟨w.heap.size + 1, 0, none⟩ (.bool true)).drew).putObj S.heap.size (.deferred none)) := (((K7.step K5 (by simp; omega)).setCell (p := ⟨w.heap.size + 1, 0, none⟩) (.inr (by simp)) _).drew).putObj (.inr (by omega)) _
        have HKF := Lib.hid KF
        have z6 := ((((z5.set_ 0 (.bool true)).keep ((Keep.refl [] _).drew) (by simp)).keep ((Keep.refl [S.heap.size] _).putObj (l := S.heap.size) (.inl (by simp)) (.deferred none)) (by simp; omega))).cell 0
        simp at z6
        have hdf6 : ((W5.setCell ⟨w.heap.size + 1, 0, none⟩ (.bool true)).drew).heap[S.heap.size]? = some (.deferred (some [])) := (Below.heap_setCell W5 ⟨w.heap.size + 1, 0, none⟩ _ _ (by simp; omega)).trans hdf5
        have Hdf6 := Lib.hid hdf6
        have PPD := Lib.hid (pp5.keep ((Keep.refl [] W5).drew) (by simp) (by simp))
        clear K5 KF hdf6 hdf5 z5 r8 r7 x7 z7 a0 a1 a2 a3 a4 a5 a6 e7 p7 hwt7 K7 pp5
        have hm1 : (1 : Int) ≤ most := by omega
        have hq : ((j : Int) == most) = true := by simp; omega
        go_wp2
        refine wpIn_wide.1 (region_rtg (n := 0) [(1, true), (3, true), (5, false), (6, false), (7, false)] [(1, true)]
          [(0, .bool true), (2, .pointer (some ⟨pb, 0, none⟩)), (4, .int .i64 bs.length)]
          (fun W => W = W5.drew) (by kernel_rfl) (by kernel_rfl) rfl ?_ ?_)
        · (simp only [evOk, putAll, List.getElem?_toArray, List.getElem?_cons_zero, List.getElem?_cons_succ, Option.bind_some, Act.put, List.setIfInBounds_toArray, List.set_cons_zero, List.set_cons_succ]; repeat' apply And.intro) <;> first | exact trivial | (rintro W rfl; simp [go_sem, lc5]; done)
        · simp only [putAll, List.getElem?_toArray, List.getElem?_cons_zero, List.getElem?_cons_succ, Option.bind_some, Act.put, List.setIfInBounds_toArray, List.set_cons_zero, List.set_cons_succ]
          refine tail_wanted rfl rfl ?_
          simp [go_sem]
          refine ⟨fun b hb => by obtain rfl := Option.some.inj hb; rfl, ?_⟩
          refine tail_wanted rfl rfl ?_
          simp [go_sem]
          refine ⟨trivial, rfl, (callsIn_wide.2 (len_ PPD.out)).mono ?_⟩
          rintro e w9 ⟨rfl, rfl⟩
          refine ⟨⟨rfl, gHolds_none rfl⟩, ?_⟩
          refine tail_wanted rfl rfl ?_
          simp [go_sem]
          refine ⟨gHolds_none rfl, ?_⟩
          refine tail_wanted rfl rfl ?_
          simp [go_sem]
          refine ⟨gHolds_none rfl, ?_⟩
          refine tail_wanted rfl rfl ?_
          simp [go_sem, z5c, z5f]
          refine ⟨gHolds_none rfl, ?_⟩
          unfold wpTailG
          go_at_K
          go_wp2
          refine ⟨by simp, .inl ⟨_, _, rfl, run_takeDeferred Hdf6.out, ?_⟩⟩
          exact ⟨.bool true, by simp [results, Try.results3, go_sem, z6], rfl, HKF.out.below (Nat.le_refl _) (by simp)⟩
end Go.Proofs.Ytinokgmmdmkbcaa
