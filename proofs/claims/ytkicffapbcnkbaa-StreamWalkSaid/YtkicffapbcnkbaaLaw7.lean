/- stream: StreamWalk's walk. -/
import Derived.Test.YtkicffapbcnkbaaLaw5
import Derived.Laws.CopyOwn
import Derived.Deep.OwnRows
import Derived.Deep.DeepCutAuto
import Derived.Deep.CutBlock
set_option linter.all false
namespace Go.Proofs.Ytkicffapbcnkbaa
open Go.ChangeShapes Go.WideShapes Go.ChangeAt Go.RowKit
attribute [local go_sem] setCell_drewN alloc_drewN
theorem bool_info : (Try.prog.info? 4).map (fun i => (i.zero, i.size, i.bytes)) = some (some (.bool false), 1, 1) := by kernel_rfl
def pad (m : Nat) (xs : List Bool) : List Bool := splice (List.replicate m false) 0 (xs.take m)
theorem pad_len (m : Nat) (xs : List Bool) : (pad m xs).length = m := by simp [pad, splice]; omega
theorem pad_map (m : Nat) (xs : List Bool) : (pad m xs).map (Value.bool ·) = splice (List.replicate m (Value.bool false)) 0 ((xs.take m).map (Value.bool ·)) := by
  simp [pad, splice, List.map_take, List.map_drop]
set_option maxRecDepth 100000 in
set_option maxHeartbeats 8000000 in
theorem streamWalk (w : World) (kv : Value) (hk : Sl w 1 (fun _ => IsInt .i64) kv) (nv : Value) (hn : Sl w 1 (fun _ => IsBool) nv) :
    Calls Try.prog 4 #[kv, nv] w fun e w' => e = .returned (.bool true) ∧ Below w.heap.size w w' := by
  obtain ⟨A, n, c, ks, rfl, hnc, hcm, hkl, hkr, rk⟩ := ints_of_sl2 hk
  obtain ⟨C, n', c', ns, rfl, hnc', hcm', hnl, rn⟩ := bools_of_sl hn
  clear hk hn
  unfold maxLen at hcm hcm'
  obtain ⟨m, ks', hm, hmn, hkl', hks', rk'⟩ : ∃ (m : Nat) (ks' : List Int), m = min n 200 ∧ m ≤ n ∧ ks'.length = m ∧ (∀ x ∈ ks', -9223372036854775808 ≤ x ∧ x ≤ 9223372036854775807) ∧ Reads w w.heap.size 1 A m (ks'.map (Value.int .i64 ·)) :=
    ⟨min n 200, ks.take (min n 200), rfl, by omega, by simp; omega, fun x hx => hkr x (List.mem_of_mem_take hx), by have := rk.first (m := min n 200) (by omega); rwa [Nat.mul_one, ← List.map_take] at this⟩
  have hm100 : m ≤ 200 := by omega
  have hmc : madeCells #[Value.bool false] m = (List.replicate m (Value.bool false)).toArray := by apply Array.toList_inj.1; rw [toList_madeCells_one]
  have hmk := fun (w : World) => run_make_row' (P := Try.prog) 23 4 (.bool false) 1 Try.underlying23 bool_info rfl .i64 .i64 m (by omega) (by omega) w
  simp only [hmc] at hmk
  clear hmc
  have Hm := Lib.hid hm
  have Hks := Lib.hid hks'
  clear hm hkr hks'
  obtain ⟨F0, F1, F2, hF⟩ : ∃ F0 F1 F2, walkF 0 0 (items ks' (pad m ns)) 0 = (F0, F1, F2) := ⟨_, _, _, rfl⟩
  have HF := Lib.hid hF
  clear hF
  have hcs : ∀ u ∈ (ns.take m).map (Value.bool ·), u.oneCell' = true := by
    intro u hu
    obtain ⟨x, _, rfl⟩ := List.mem_map.1 hu
    rfl
  have hcl : ((ns.take m).map (Value.bool ·)).length = Nat.min n' m := by rw [List.length_map, List.length_take, hnl]; exact Nat.min_comm _ _
  have hcp : 0 < ((ns.take m).map (Value.bool ·)).length → ∃ ad, C = some ad ∧ ad.block < w.heap.size ∧ ∀ (j : Nat) v, ((ns.take m).map (Value.bool ·))[j]? = some v → w.cell? (ad.add j) = some v := fun h0 => by
    obtain ⟨ad, e, hb, hc⟩ := rn.2 (by simp at h0; omega)
    refine ⟨ad, e, hb, fun j v hv => hc j v ?_⟩
    rw [List.map_take, List.getElem?_take] at hv
    split at hv
    · exact hv
    · cases hv
  obtain ⟨cs, hcsd⟩ : ∃ cs, cs = (ns.take m).map (Value.bool ·) := ⟨_, rfl⟩
  have hpm := pad_map m ns
  rw [← hcsd] at hcs hcl hcp hpm
  clear hcsd
  have hpl := pad_len m ns
  obtain ⟨ns', hns'⟩ : ∃ ns', ns' = pad m ns := ⟨_, rfl⟩
  rw [← hns'] at HF hpm hpl
  clear hns'
  have Hpm := Lib.hid hpm
  have Hcl := Lib.hid hcl
  clear hpm hcl
  by_cases hlt : 200 < n
  all_goals
    go_enter Try.func4, Try.ntmps4
    go_upto_if 17 with (go_at_call 8; refine (begun _).mono ?_; rintro e w1 ⟨rfl, hb1⟩)
    go_cut [0] (fun v wx => v = .slice A m c ∧ wx = w1)
    case first =>
      have h100 := Hm.out
      go_wp2
      go_meet
      case rel => exact ⟨by rw [h100]; first | rw [Nat.min_eq_right (by omega)] | rw [Nat.min_eq_left (by omega)], rfl⟩
    case rest =>
      obtain ⟨rfl, rfl⟩ := hcut
      have hsz := hb1.size
      have hpos : 0 < cs.length → (some (⟨wc.heap.size, 0, none⟩ : Addr) = some ⟨wc.heap.size, 0, none⟩ ∧ ∃ ad, C = some ad ∧ ∀ j v, cs[j]? = some v → (wc.alloc (.cells (List.replicate m (Value.bool false)).toArray 4)).cell? (ad.add j) = some v) := fun h0 => ⟨rfl, by
        obtain ⟨ad, e, hb, hc⟩ := hcp h0
        exact ⟨ad, e, fun j v hv => (World.cell?_alloc_lt _ _ _ (by rw [block_of_add]; omega)).trans ((hb1.cell (by rw [block_of_add]; exact hb)).trans (hc j v hv))⟩⟩
      have hfit : 0 + cs.length ≤ (List.replicate m (Value.bool false)).length := by have := Hcl.out; rw [Nat.zero_add, this, List.length_replicate]; exact Nat.min_le_right _ _
      have Hpos := Lib.hid hpos
      clear hpos
      go_wp2_with (refine wpList_copy_splice rfl (.tmp 23) (.tmp 24) 23 23 rfl 4 Try.underlying23 (by kernel_rfl) _ _ _ _ _ _ rfl rfl wc.heap.size 0 (List.replicate m (.bool false)) 4 (heap_alloc_new _ _) cs Hcl.out Hpos.out hfit hcs wc.heap.size wc ((Below.refl _ _).alloc (Nat.le_refl _) _) (Nat.le_refl _) ?_; intro w2 hg2 hB2)
      have g1 := hB2.size
      have g2 := (hg2.out)
      rw [← Hpm.out] at g2
      have lt2 : wc.heap.size < w2.heap.size := (Array.getElem?_eq_some_iff.1 g2).1
      go_wp2_with (go_at_call 18; refine (steps_ _ A (some ⟨wc.heap.size, 0, none⟩) (some ⟨w2.heap.size, 0, none⟩) m c m m).mono ?_; rintro e w' ⟨rfl, rfl⟩)
      have b0 := Blk.new w2 3 #[.int .i64 0]
      have b1 := Blk.new (w2.alloc (.cells #[.int .i64 0] 3)) 22 #[.slice A m c]
      have b2 := Blk.new ((w2.alloc (.cells #[.int .i64 0] 3)).alloc (.cells #[.slice A m c] 22)) 23 #[.slice (some ⟨wc.heap.size, 0, none⟩) m m]
      have b3 := Blk.new (((w2.alloc (.cells #[.int .i64 0] 3)).alloc (.cells #[.slice A m c] 22)).alloc (.cells #[.slice (some ⟨wc.heap.size, 0, none⟩) m m] 23)) 42 #[.pointer (some ⟨w2.heap.size, 0, none⟩)]
      simp only [World.size_alloc] at b0 b1 b2 b3
      have B3 := (((Below.refl w2.heap.size w2).alloc (Nat.le_refl _) (.cells #[.int .i64 0] 3)).alloc (by simp) (.cells #[.slice A m c] 22)).alloc (by simp <;> omega) (.cells #[.slice (some ⟨wc.heap.size, 0, none⟩) m m] 23)
      have B3 := B3.alloc (by simp <;> omega) (.cells #[.pointer (some ⟨w2.heap.size, 0, none⟩)] 42)
      have ra := (((rk'.below hb1).below (hB2.mono hsz)).below (B3.mono (by omega))).more (show w.heap.size ≤ w2.heap.size by omega)
      have rb0 : Reads w2 w2.heap.size 1 (some ⟨wc.heap.size, 0, none⟩) m (ns'.map (Value.bool ·)) := by
        have := reads_of_blk (size := 1) (n := m) (show Blk w2 wc.heap.size 4 (ns'.map (Value.bool ·)).toArray from g2) (by simp [hpl]) (by unfold maxLen; omega)
        simpa using this
      have rb := rb0.below B3
      refine (walk_ (s := w2.heap.size) (bk := w2.heap.size + 1) (bc := w2.heap.size + 1 + 1 + 1) (bn := w2.heap.size + 1 + 1) (pc := some w2.heap.size) (n := m) (n' := m) (ks := ks') (es := ns') (by omega) (by omega) hkl' hpl Hks.out ⟨by simp <;> omega, by simp <;> omega, by simp <;> omega, by simp <;> omega, fun _ h => by injection h with h; subst h; simp <;> omega⟩
        ⟨(b1.alloc _).alloc _, b3, b2.alloc _, ra, rb, fun _ h => (by injection h with h; subst h; exact ((b0.alloc _).alloc _).alloc _), by omega, by omega, by omega, fun _ h => (by injection h with h; omega)⟩ (F0, F1, F2) HF.out).mono ?_
      rintro e w3 ⟨rfl, hcnt, hg3⟩
      have sz3 := hg3.size
      simp only [World.size_alloc] at sz3
      have cc := (hcnt _ rfl).cell 0
      simp at cc
      have rA := (ra.grown hg3 (by simp; omega) (fun g e => by injection e with e; omega)).more (show w2.heap.size ≤ w3.heap.size by omega)
      have rB := (rb.grown hg3 (by simp; omega) (fun g e => by injection e with e; omega)).more (show w2.heap.size ≤ w3.heap.size by omega)
      simp only
      clear hcnt
      go_wp2_with (go_at_call 19; refine (rwalk (n := m) (ks := ks') (es := ns') (by omega) hkl' hpl Hks.out rA rB (F0, F1, F2) HF.out).mono ?_; rintro e w4 ⟨rfl, hb4⟩; have c4 := (hb4.cell (p := ⟨w2.heap.size, 0, none⟩) (by simp; omega)).trans cc)
      go_ret
      refine ⟨rfl, ?_⟩
      have e1 := ((hb1.trans (hB2.mono hsz)).trans (B3.mono (by omega)))
      exact (e1.trans ((Below.refl _ _).grown hg3 (by simp; omega) (fun k e => by injection e with e; omega))).trans (hb4.mono (by omega))
end Go.Proofs.Ytkicffapbcnkbaa
