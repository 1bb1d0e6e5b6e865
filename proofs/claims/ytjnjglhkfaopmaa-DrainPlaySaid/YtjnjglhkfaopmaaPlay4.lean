/- DrainPlay's walk. -/
import Derived.Test.YtjnjglhkfaopmaaPlay3
import Derived.Laws.CopyOwn
import Derived.Deep.OwnRows
set_option linter.all false
namespace Go.Proofs.Ytjnjglhkfaopmaa
open Go.ChangeShapes Go.WideShapes Go.ChangeAt Go.RowKit
attribute [local go_sem] setCell_drewN alloc_drewN
theorem steps_ (A C : Option Addr) (n c n' c' cb : Nat) (w : World) :
    Calls Try.prog 22 #[.slice A n c, .slice C n' c', .pointer (some ⟨cb, 0, none⟩)] w fun e w' =>
      e = .returned (.func (.func 25) #[] #[.pointer (some ⟨w.heap.size, 0, none⟩), .pointer (some ⟨w.heap.size + 1 + 1, 0, none⟩), .pointer (some ⟨w.heap.size + 1, 0, none⟩)]) ∧
      w' = ((w.alloc (.cells #[.slice A n c] 45)).alloc (.cells #[.slice C n' c'] 45)).alloc (.cells #[.pointer (some ⟨cb, 0, none⟩)] 50) := by
  go_enter Try.func22, Try.ntmps22
  go_wp2
  go_ret
  exact ⟨rfl, rfl⟩
theorem play_no (r : Int) (h : ¬ (r = 1 ∨ r = 2)) (f : Fn) (a b : Array Value) (w : World) :
    Calls Try.prog 21 #[.int .i64 r, .func f a b] w fun e w' => e = .returned (.slice none 0 0) ∧ Below w.heap.size w w' := by
  have h' := Lib.hid h
  clear h
  refine rng_func Try.func21 rfl ?_
  simp only [Try.ntmps21, List.size_toArray, List.length_cons, List.length_nil, Nat.reduceAdd, Nat.reduceSub, Array.replicate_succ, Array.replicate_zero, List.push_toArray, List.append_toArray, List.nil_append, List.cons_append]
  go_wp2
  go_step3
  go_wp2_with (go_at_call 9; refine (new_no r h'.out _).mono ?_; rintro e w' ⟨rfl, rfl⟩)
  rw [Exit.noGoto_ret]
  exact ⟨_, results_tmp rfl _ _ _, rfl, (Below.refl _ w).alloc (Nat.le_refl _) _⟩
theorem rplay_no (r : Int) (h : ¬ (r = 1 ∨ r = 2)) (A C : Option Addr) (n c n' c' : Nat) (w : World) :
    Calls Try.prog 23 #[.int .i64 r, .slice A n c, .slice C n' c'] w fun e w' => e = .returned (.tuple #[.slice none 0 0, .int .i64 0]) ∧ Below w.heap.size w w' := by
  have q1 : (r != 1) = true := by simp; omega
  have q2 : (r != 2) = true := by simp; omega
  clear h
  go_enter Try.func23, Try.ntmps23
  go_wp2
  go_ret2
  exact ⟨rfl, (Below.refl _ w).alloc (Nat.le_refl _) _⟩
theorem int_info : (Try.prog.info? 3).map (fun i => (i.zero, i.size, i.bytes)) = some (some (.int .i64 0), 1, 8) := by kernel_rfl
def pad (m : Nat) (xs : List Int) : List Int := splice (List.replicate m 0) 0 (xs.take m)
theorem pad_len (m : Nat) (xs : List Int) : (pad m xs).length = m := by simp [pad, splice]; omega
theorem pad_map (m : Nat) (xs : List Int) : (pad m xs).map (Value.int .i64 ·) = splice (List.replicate m (Value.int .i64 0)) 0 ((xs.take m).map (Value.int .i64 ·)) := by
  simp [pad, splice, List.map_take, List.map_drop]
set_option maxRecDepth 100000 in
set_option maxHeartbeats 8000000 in
theorem drainPlay (w : World) (r : Int) (_ : (Lit.int .i64 r).wf = true) (kv : Value) (hk : Sl w 1 (fun _ => IsInt .i64) kv) (nv : Value) (hn : Sl w 1 (fun _ => IsInt .i64) nv) :
    Calls Try.prog 6 #[.int .i64 r, kv, nv] w fun e w' => e = .returned (.bool true) ∧ Below w.heap.size w w' := by
  obtain ⟨A, n, c, ks, rfl, hnc, hcm, hkl, rk⟩ := ints_of_sl hk
  obtain ⟨C, n', c', ns, rfl, hnc', hcm', hnl, rn⟩ := ints_of_sl hn
  clear hk hn
  unfold maxLen at hcm hcm'
  obtain ⟨m, ks', hm, hmn, hkl', rk'⟩ : ∃ (m : Nat) (ks' : List Int), m = min n 100 ∧ m ≤ n ∧ ks'.length = m ∧ Reads w w.heap.size 1 A m (ks'.map (Value.int .i64 ·)) :=
    ⟨min n 100, ks.take (min n 100), rfl, by omega, by simp; omega, by have := rk.first (m := min n 100) (by omega); rwa [Nat.mul_one, ← List.map_take] at this⟩
  have hm100 : m ≤ 100 := by omega
  have hmc : madeCells #[Value.int .i64 0] m = (List.replicate m (Value.int .i64 0)).toArray := by apply Array.toList_inj.1; rw [toList_madeCells_one]
  have hmk := fun (w : World) => run_make_row' (P := Try.prog) 45 3 (.int .i64 0) 8 Try.underlying45 int_info rfl .i64 .i64 m (by omega) (by omega) w
  simp only [hmc] at hmk
  clear hmc
  have Hm := Lib.hid hm
  clear hm
  go_enter Try.func6, Try.ntmps6
  obtain ⟨FA, FC, hF⟩ : ∃ FA FC, playR r 0 [] (ks'.zip (pad m ns)) 0 = (FA, FC) := ⟨_, _, rfl⟩
  have HF := Lib.hid hF
  clear hF
  have hcs : ∀ u ∈ (ns.take m).map (Value.int .i64 ·), u.oneCell' = true := by
    intro u hu
    obtain ⟨x, _, rfl⟩ := List.mem_map.1 hu
    rfl
  have hcl : ((ns.take m).map (Value.int .i64 ·)).length = Nat.min n' m := by rw [List.length_map, List.length_take, hnl]; exact Nat.min_comm _ _
  have hcp : 0 < ((ns.take m).map (Value.int .i64 ·)).length → ∃ ad, C = some ad ∧ ad.block < w.heap.size ∧ ∀ (j : Nat) v, ((ns.take m).map (Value.int .i64 ·))[j]? = some v → w.cell? (ad.add j) = some v := fun h0 => by
    obtain ⟨ad, e, hb, hc⟩ := rn.2 (by simp at h0; omega)
    refine ⟨ad, e, hb, fun j v hv => hc j v ?_⟩
    rw [List.map_take, List.getElem?_take] at hv
    split at hv
    · exact hv
    · cases hv
  obtain ⟨cs, hcsd⟩ : ∃ cs, cs = (ns.take m).map (Value.int .i64 ·) := ⟨_, rfl⟩
  have hpm := pad_map m ns
  rw [← hcsd] at hcs hcl hcp hpm
  clear hcsd
  have hpl := pad_len m ns
  obtain ⟨ns', hns'⟩ : ∃ ns', ns' = pad m ns := ⟨_, rfl⟩
  rw [← hns'] at HF hpm hpl
  clear hns'
  have Hpm := Lib.hid hpm
  have Hcl := Lib.hid hcl
  clear hpm hcl
  by_cases hr : r = 1 ∨ r = 2
  · have hr' := Lib.hid hr
    clear hr
    by_cases hlt : 100 < n
    all_goals
      go_upto_if 17 with (go_at_call 8; refine (begun _).mono ?_; rintro e w1 ⟨rfl, hb1⟩)
      go_cut [1] (fun v wx => v = .slice A m c ∧ wx = w1)
      case first =>
        have h100 := Hm.out
        go_wp2
        go_meet
        case rel => exact ⟨by rw [h100]; first | rw [Nat.min_eq_right (by omega)] | rw [Nat.min_eq_left (by omega)], rfl⟩
      case rest =>
        obtain ⟨rfl, rfl⟩ := hcut
        have hsz := hb1.size
        have hpos : 0 < cs.length → (some (⟨wc.heap.size, 0, none⟩ : Addr) = some ⟨wc.heap.size, 0, none⟩ ∧ ∃ ad, C = some ad ∧ ∀ j v, cs[j]? = some v → (wc.alloc (.cells (List.replicate m (Value.int .i64 0)).toArray 3)).cell? (ad.add j) = some v) := fun h0 => ⟨rfl, by
          obtain ⟨ad, e, hb, hc⟩ := hcp h0
          exact ⟨ad, e, fun j v hv => (World.cell?_alloc_lt _ _ _ (by rw [block_of_add]; omega)).trans ((hb1.cell (by rw [block_of_add]; exact hb)).trans (hc j v hv))⟩⟩
        have hfit : 0 + cs.length ≤ (List.replicate m (Value.int .i64 0)).length := by have := Hcl.out; rw [Nat.zero_add, this, List.length_replicate]; exact Nat.min_le_right _ _
        have Hpos := Lib.hid hpos
        clear hpos
        go_wp2_with (refine wpList_copy_splice rfl (.tmp 23) (.tmp 24) 45 45 rfl 3 Try.underlying45 (by kernel_rfl) _ _ _ _ _ _ rfl rfl wc.heap.size 0 (List.replicate m (.int .i64 0)) 3 (heap_alloc_new _ _) cs Hcl.out Hpos.out hfit hcs wc.heap.size wc ((Below.refl _ _).alloc (Nat.le_refl _) _) (Nat.le_refl _) ?_; intro w2 hg2 hB2)
        have g1 := hB2.size
        have g2 := (hg2.out)
        rw [← Hpm.out] at g2
        have lt2 : wc.heap.size < w2.heap.size := (Array.getElem?_eq_some_iff.1 g2).1
        go_wp2_with (first
          | (go_at_call 22; refine (steps_ A (some ⟨wc.heap.size, 0, none⟩) m c m m w2.heap.size _).mono ?_; rintro e w' ⟨rfl, rfl⟩)
          | (go_at_call 21
             have b0 := Blk.new w2 3 #[.int .i64 0]
             have b1 := Blk.new (w2.alloc (.cells #[.int .i64 0] 3)) 45 #[.slice A m c]
             have b2 := Blk.new ((w2.alloc (.cells #[.int .i64 0] 3)).alloc (.cells #[.slice A m c] 45)) 45 #[.slice (some ⟨wc.heap.size, 0, none⟩) m m]
             have b3 := Blk.new (((w2.alloc (.cells #[.int .i64 0] 3)).alloc (.cells #[.slice A m c] 45)).alloc (.cells #[.slice (some ⟨wc.heap.size, 0, none⟩) m m] 45)) 50 #[.pointer (some ⟨w2.heap.size, 0, none⟩)]
             simp only [World.size_alloc] at b0 b1 b2 b3
             have B3 := (((Below.refl w2.heap.size w2).alloc (Nat.le_refl _) (.cells #[.int .i64 0] 3)).alloc (by simp) (.cells #[.slice A m c] 45)).alloc (by simp <;> omega) (.cells #[.slice (some ⟨wc.heap.size, 0, none⟩) m m] 45)
             have B3 := B3.alloc (by simp <;> omega) (.cells #[.pointer (some ⟨w2.heap.size, 0, none⟩)] 50)
             have ra := (((rk'.below hb1).below (hB2.mono hsz)).below (B3.mono (by omega))).more (show w.heap.size ≤ w2.heap.size by omega)
             have rb0 : Reads w2 w2.heap.size 1 (some ⟨wc.heap.size, 0, none⟩) m (ns'.map (Value.int .i64 ·)) := by
               have := reads_of_blk (size := 1) (n := m) (show Blk w2 wc.heap.size 3 (ns'.map (Value.int .i64 ·)).toArray from g2) (by simp [hpl]) (by unfold maxLen; omega)
               simpa using this
             have rb := rb0.below B3
             refine (play r hr'.out ks' ns' m c m (w2.heap.size + 1) (w2.heap.size + 1 + 1 + 1) (w2.heap.size + 1 + 1) w2.heap.size A (some ⟨wc.heap.size, 0, none⟩) _ hm100 hkl' hpl
               ⟨(b1.alloc _).alloc _, b3, b2.alloc _, ra, rb, ((b0.alloc _).alloc _).alloc _⟩ FA FC HF.out).mono ?_
             rintro e w3 ⟨RA, rc, rfl, hrA, hcnt, hg3⟩
             have sz3 := hg3.size
             simp only [World.size_alloc] at sz3
             have cc := hcnt.cell 0
             simp at cc)
          | (go_at_call 23
             have rA := (ra.grown hg3 (by simp; omega) (fun g e => by injection e with e; omega)).more (show w2.heap.size ≤ w3.heap.size by omega)
             have rB := (rb.grown hg3 (by simp; omega) (fun g e => by injection e with e; omega)).more (show w2.heap.size ≤ w3.heap.size by omega)
             have hz1 : (ks'.zip ns').map Prod.fst = ks' := List.map_fst_zip (by omega)
             have hz2 : (ks'.zip ns').map Prod.snd = ns' := List.map_snd_zip (by omega)
             refine (rplay r hr'.out (ks'.zip ns') m c m A (some ⟨wc.heap.size, 0, none⟩) w3 hm100 (by simp; omega)
               (by rw [← hz1, List.map_map] at rA; exact rA) (by rw [← hz2, List.map_map] at rB; exact rB) FA FC HF.out).mono ?_
             rintro e w4 ⟨RB, rd, rfl, hFA, hrB, hb4⟩
             have c4 := (hb4.cell (p := ⟨w2.heap.size, 0, none⟩) (by simp; omega)).trans cc)
          | (go_at_call 18; refine (eq_same FA RA RB rc rd _ _ ((hrA.below hb4).more hb4.size) hrB (by omega)).mono ?_; rintro e w5 ⟨rfl, q, rfl⟩))
        go_ret
        refine ⟨rfl, below_drewN ?_ _⟩
        have e1 := ((hb1.trans (hB2.mono hsz)).trans (B3.mono (by omega)))
        exact (e1.trans ((Below.refl _ _).grown hg3 (by simp; omega) (fun k e => by injection e with e; omega))).trans (hb4.mono (by omega))
  · have hr' := Lib.hid hr
    clear hr
    by_cases hlt : 100 < n
    all_goals
      go_upto_if 17 with (go_at_call 8; refine (begun _).mono ?_; rintro e w1 ⟨rfl, hb1⟩)
      go_cut [1] (fun v wx => v = .slice A m c ∧ wx = w1)
      case first =>
        have h100 := Hm.out
        go_wp2
        go_meet
        case rel => exact ⟨by rw [h100]; first | rw [Nat.min_eq_right (by omega)] | rw [Nat.min_eq_left (by omega)], rfl⟩
      case rest =>
        obtain ⟨rfl, rfl⟩ := hcut
        have hsz := hb1.size
        have hpos : 0 < cs.length → (some (⟨wc.heap.size, 0, none⟩ : Addr) = some ⟨wc.heap.size, 0, none⟩ ∧ ∃ ad, C = some ad ∧ ∀ j v, cs[j]? = some v → (wc.alloc (.cells (List.replicate m (Value.int .i64 0)).toArray 3)).cell? (ad.add j) = some v) := fun h0 => ⟨rfl, by
          obtain ⟨ad, e, hb, hc⟩ := hcp h0
          exact ⟨ad, e, fun j v hv => (World.cell?_alloc_lt _ _ _ (by rw [block_of_add]; omega)).trans ((hb1.cell (by rw [block_of_add]; exact hb)).trans (hc j v hv))⟩⟩
        have hfit : 0 + cs.length ≤ (List.replicate m (Value.int .i64 0)).length := by have := Hcl.out; rw [Nat.zero_add, this, List.length_replicate]; exact Nat.min_le_right _ _
        have Hpos := Lib.hid hpos
        clear hpos
        go_wp2_with (refine wpList_copy_splice rfl (.tmp 23) (.tmp 24) 45 45 rfl 3 Try.underlying45 (by kernel_rfl) _ _ _ _ _ _ rfl rfl wc.heap.size 0 (List.replicate m (.int .i64 0)) 3 (heap_alloc_new _ _) cs Hcl.out Hpos.out hfit hcs wc.heap.size wc ((Below.refl _ _).alloc (Nat.le_refl _) _) (Nat.le_refl _) ?_; intro w2 hg2 hB2)
        have g1 := hB2.size
        go_wp2_with (first
          | (go_at_call 22; refine (steps_ A (some ⟨wc.heap.size, 0, none⟩) m c m m w2.heap.size _).mono ?_; rintro e w' ⟨rfl, rfl⟩)
          | (go_at_call 21
             have b0 := Blk.new w2 3 #[.int .i64 0]
             have B3 := (((Below.refl w2.heap.size w2).alloc (Nat.le_refl _) (.cells #[.int .i64 0] 3)).alloc (by simp) (.cells #[.slice A m c] 45)).alloc (by simp <;> omega) (.cells #[.slice (some ⟨wc.heap.size, 0, none⟩) m m] 45)
             have B3 := B3.alloc (by simp <;> omega) (.cells #[.pointer (some ⟨w2.heap.size, 0, none⟩)] 50)
             refine (play_no r hr'.out _ _ _ _).mono ?_
             rintro e w3 ⟨rfl, hb3⟩
             have sz3 := hb3.size
             simp only [World.size_alloc] at sz3 hb3
             have cc := ((((b0.alloc _).alloc _).alloc _).below hb3 (by omega)).cell 0
             simp at cc)
          | (go_at_call 23
             refine (rplay_no r hr'.out A _ m c m m w3).mono ?_
             rintro e w4 ⟨rfl, hb4⟩
             have c4 := (hb4.cell (p := ⟨w2.heap.size, 0, none⟩) (by simp; omega)).trans cc)
          | (go_at_call 18; refine (eq_same [] none none 0 0 _ 0 Reads.none_ Reads.none_ (by simp)).mono ?_; rintro e w5 ⟨rfl, q, rfl⟩))
        go_ret
        refine ⟨rfl, below_drewN ?_ _⟩
        have e1 := ((hb1.trans (hB2.mono hsz)).trans (B3.mono (by omega)))
        exact (e1.trans (hb3.mono (by omega))).trans (hb4.mono (by omega))
end Go.Proofs.Ytjnjglhkfaopmaa
