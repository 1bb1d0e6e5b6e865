/- block: BlockMost. -/
import Derived.Test.YtenegjflapppdaaBegun
import Derived.Deep.OwnRows
set_option linter.all false
namespace Go.Proofs.Ytenegjflapppdaa
open Go.ChangeShapes Go.WideShapes Go.ChangeAt Go.RowKit
attribute [local go_sem] setCell_drewN alloc_drewN
theorem made_u8 (n : Nat) : (madeCells #[.int .u8 0] n).toList = encB (List.replicate n 0) := by
  rw [toList_madeCells_one]
  simp [encB]
theorem u8_make : (Try.prog.info? 5).map (fun i => (i.zero, i.size, i.bytes)) = some (some (.int .u8 0), 1, 1) := by kernel_rfl
set_option maxRecDepth 100000 in
set_option maxHeartbeats 4000000 in
theorem blockMost (w : World) (x : Int) (hx : (Lit.int IntKind.i64 x).wf = true) (y : Int) (hy : (Lit.int IntKind.i64 y).wf = true) :
    Calls Try.prog 7 #[.int .i64 x, .int .i64 y] w fun e w' => e = .returned (.bool true) ∧ Below w.heap.size w w' := by
  clear hx hy
  by_cases hok : 0 ≤ x ∧ x ≤ 70000 ∧ 0 ≤ y ∧ y ≤ x
  · obtain ⟨h1, h2, h3, h4⟩ := hok
    obtain ⟨n, rfl⟩ : ∃ n : Nat, x = n := ⟨x.toNat, by omega⟩
    obtain ⟨k, rfl⟩ : ∃ k : Nat, y = k := ⟨y.toNat, by omega⟩
    have hmk := fun (w : World) => run_make_row' (P := Try.prog) 27 5 (.int .u8 0) 1 Try.underlying27 u8_make rfl .i64 .i64 n (by omega) (by omega) w
    go_enter Try.func7, Try.ntmps7
    have z0 : ¬ (n : Int) < 0 := by omega
    have z1 : ¬ (70000 : Int) < (n : Int) := by omega
    have z2 : ¬ (k : Int) < 0 := by omega
    have z3 : ¬ (n : Int) < (k : Int) := by omega
    have z4 : (0 : Int) ≤ (k : Int) := by omega
    have z5 : (k : Int) ≤ (n : Int) := by omega
    go_wp2_with (first
      | (go_at_call 8; refine (begun _).mono ?_; rintro e w1 ⟨rfl, hb1⟩; have hb1 := Keep.of_below hb1)
      | (go_at_call 9; refine (new_ _).mono ?_; rintro e w' ⟨rfl, rfl⟩))
    have rp := reads_w w1 (madeCells #[.int .u8 0] n) 5 (0, 0) (n := n) (size_madeCells _ _) (made_u8 n)
    have g0 : Bk ((w1.alloc (.cells (madeCells #[.int .u8 0] n) 5)).alloc (.cells #[.int .i64 0, .bool false, .bool false, .slice none 0 0] 52)) w1.heap.size (w1.heap.size + 1) 52 0 false false (.slice none 0 0) [] := ⟨by have := Blk.new (w1.alloc (.cells (madeCells #[.int .u8 0] n) 5)) 52 #[.int .i64 0, .bool false, .bool false, .slice none 0 0]; simpa using this, Row1.nil _ _ _⟩
    have g1 : Bk (((w1.alloc (.cells (madeCells #[.int .u8 0] n) 5)).alloc (.cells #[.int .i64 0, .bool false, .bool false, .slice none 0 0] 52)).alloc (.cells #[.int .i64 0, .bool false, .bool false, .slice none 0 0] 52)) w1.heap.size (w1.heap.size + 1 + 1) 52 0 false false (.slice none 0 0) [] := ⟨by have := Blk.new ((w1.alloc (.cells (madeCells #[.int .u8 0] n) 5)).alloc (.cells #[.int .i64 0, .bool false, .bool false, .slice none 0 0] 52)) 52 #[.int .i64 0, .bool false, .bool false, .slice none 0 0]; simpa using this, Row1.nil _ _ _⟩
    have g0 := g0.keep ((Keep.refl [] _).alloc (.cells #[.int .i64 0, .bool false, .bool false, .slice none 0 0] 52)) (by simp) (by simp)
    have rp := rp.keeps (((Keep.refl [] _).alloc (.cells #[.int .i64 0, .bool false, .bool false, .slice none 0 0] 52)).alloc (.cells #[.int .i64 0, .bool false, .bool false, .slice none 0 0] 52)) (by simp) (by simp)
    have K2 : Keep [] w (((w1.alloc (.cells (madeCells #[.int .u8 0] n) 5)).alloc (.cells #[.int .i64 0, .bool false, .bool false, .slice none 0 0] 52)).alloc (.cells #[.int .i64 0, .bool false, .bool false, .slice none 0 0] 52)) := ((hb1.alloc _).alloc _).alloc _
    obtain ⟨W2, hW2⟩ : ∃ W2, W2 = ((w1.alloc (.cells (madeCells #[.int .u8 0] n) 5)).alloc (.cells #[.int .i64 0, .bool false, .bool false, .slice none 0 0] 52)).alloc (.cells #[.int .i64 0, .bool false, .bool false, .slice none 0 0] 52) := ⟨_, rfl⟩
    have sz2 : w1.heap.size + 3 ≤ W2.heap.size := by rw [hW2]; simp
    have sz1 := hb1.size
    rw [← hW2] at g0 g1 rp K2 ⊢
    clear hW2 hb1 hmk
    obtain ⟨gb, hgb⟩ : ∃ gb, gb = w1.heap.size := ⟨_, rfl⟩
    rw [← hgb] at g0 g1 rp sz1 sz2 ⊢
    clear hgb
    obtain ⟨Z, hZ⟩ : ∃ Z : List UInt8, Z = List.replicate n 0 := ⟨_, rfl⟩
    have hZl : Z.length = n := by rw [hZ]; simp
    rw [← hZ] at rp
    clear hZ
    by_cases hbig : 65536 < n
    · have b0 : (65536 : Int) < (n : Int) := by omega
      apply (start_big g0 1 true true (some ⟨gb, 0, none⟩) n n hbig).mono
      rintro e w' ⟨rfl, rfl⟩
      by_cases hk : 65536 < k
      · have b1 : (65536 : Int) < (k : Int) := by omega
        have b2 : ¬ (k : Int) ≤ 65536 := by omega
        go_wp2_with (go_at_call 11; apply (start_big g1 1 true false (some ⟨gb, 0, none⟩) k n hk).mono; rintro e w' ⟨rfl, rfl⟩)
        go_ret
        exact ⟨rfl, K2.below (Nat.le_refl _) (by simp)⟩
      · have b1 : ¬ (65536 : Int) < (k : Int) := by omega
        have b2 : (k : Int) ≤ 65536 := by omega
        have hck : ¬ n = k := by omega
        have KK := Lib.hid K2
        go_wp2_with (first
          | (go_at_call 11; apply (start_part g1 1 true n (by omega) (reads_pre rp k (by omega)) (by omega) (by omega) (fun _ ad e => by injection e with e; subst e; first | (simp; done) | (simp; omega))).mono; rintro e w3 ⟨rfl, v3, p3, k3, m3⟩)
          | (go_at_call 13; apply (more_big p3 true _ (n - k) (n - k) (by simp; omega) (by omega) (by simp; omega)).mono; rintro e w4 ⟨rfl, p4, k4⟩)
          | (go_at_call 15; apply (waits_ p4).mono; rintro e w5 ⟨rfl, k5⟩; have p5 := p4.keep k5 (by simp) (by simp [rowBlk]))
          | (go_at_call 17; apply (held_ p5).mono; rintro e w' ⟨rfl, rfl⟩))
        go_ret
        exact ⟨rfl, (((KK.out.step k3 (by simp; omega)).step k4 (by simp; omega)).trans k5).below (Nat.le_refl _) (by simp)⟩
    · have b0 : ¬ (65536 : Int) < (n : Int) := by omega
      apply (start_whole g0 1 true n (by omega) rp (by omega) (fun _ ad e => by injection e with e; subst e; first | (simp; done) | (simp; omega))).mono
      rintro e w3 ⟨r3, rfl, hr3, p3, k3⟩
      obtain ⟨A3, c3, rfl, _⟩ := hr3.reads
      have g3 := g1.keep k3 (by simp) (by simp [rowBlk])
      have rp3 := rp.kept k3 (by omega) (fun _ ad e => by injection e with e; subst e; first | (simp; done) | (simp; omega))
      have lr3 : (encB Z).length = n := by rw [encB_len, hZl]
      have KK := Lib.hid (K2.step k3 (by simp; omega))
      have s3 := k3.size
      have rsuf := Lib.hid (reads_suf rp3 k (by omega) (Nat.le_refl n))
      have rpre := Lib.hid (reads_pre rp3 k (by omega))
      clear hr3 p3 k3 g0 g1 rp K2
      have HR1 := Lib.hid rp3
      clear rp3
      clear hZl
      by_cases hnk : n = k
      · subst hnk
        have HLR := Lib.hid lr3
        have HB := Lib.hid hbig
        clear lr3 hbig h1 h2 h3 z0 z1 z2 z3
        have ST := Lib.hid (start_part g3 1 true n (by omega) rpre.out (by omega) (by omega) (fun _ ad e => by injection e with e; subst e; first | (simp; done) | (simp; omega)))
        clear g3
        go_wp2_with (go_at_call 11; apply ST.out.mono; rintro e w4 ⟨rfl, v4, p4, k4, m4⟩)
        have hlr := HLR.out
        have rp4 := HR1.out.kept k4 (by omega) (fun _ ad e => by injection e with e; subst e; first | (simp; done) | (simp; omega))
        have rs4 := reads_suf rp4 n (by omega) (Nat.le_refl n)
        rw [if_pos rfl, Nat.sub_self] at rs4
        have s4 := k4.size
        have hZ2 : Z.length = n := by rw [← hlr, encB_len]
        apply (more_whole p4 (by omega) 0 rs4 (by simp; omega)).mono
        rintro e w5 ⟨v5, rfl, r5, p5, k5, m5⟩
        rw [List.take_append_drop] at r5
        obtain ⟨A5, c5, rfl, _⟩ := r5.reads
        rw [hlr]
        have KF := Lib.hid (show Keep [] w w5 from (KK.out.step k4 (by simp; omega)).step k5 (fun g hg => by
          rcases List.mem_cons.1 hg with rfl | hg
          · exact .inr (by omega)
          · have := (p4.row.lt g (by simpa using hg)).1
            exact .inr (by omega)))
        clear rp4 rs4 k4 k5 m4 m5 p4 p5 r5 hZ2 hlr HR1 ST KK rsuf rpre sz2 sz1 s3 s4 h4 z4 z5
        go_wp2_with (fail)
        go_ret
        exact ⟨by simp, KF.out.below (Nat.le_refl _) (by simp)⟩
      · have HNK := Lib.hid hnk
        have HLR := Lib.hid lr3
        have HB := Lib.hid hbig
        clear hnk lr3 hbig h1 h2 h3 z0 z1 z2 z3
        have ST := Lib.hid (start_part g3 1 true n (by omega) rpre.out (by omega) (by omega) (fun _ ad e => by injection e with e; subst e; first | (simp; done) | (simp; omega)))
        clear g3
        go_wp2_with (go_at_call 11; apply ST.out.mono; rintro e w4 ⟨rfl, v4, p4, k4, m4⟩)
        have hlr := HLR.out
        have rp4 := HR1.out.kept k4 (by omega) (fun _ ad e => by injection e with e; subst e; first | (simp; done) | (simp; omega))
        have rs4 := reads_suf rp4 k (by omega) (Nat.le_refl n)
        rw [if_neg HNK.out] at rs4
        have rs4 : Reads w4 (gb + 1) 1 (some ⟨gb, k, none⟩) (n - k) (encB (List.drop k Z)) := by
          have e : (if k = 0 then (⟨gb, 0, none⟩ : Addr) else ⟨gb, k, none⟩) = ⟨gb, k, none⟩ := by split <;> simp_all
          simpa [Addr.add, e] using rs4
        have s4 := k4.size
        have hZ2 : Z.length = n := by rw [← hlr, encB_len]
        apply (more_whole p4 (by omega) (n - k) rs4 (by simp; omega)).mono
        rintro e w5 ⟨v5, rfl, r5, p5, k5, m5⟩
        rw [List.take_append_drop] at r5
        obtain ⟨A5, c5, rfl, _⟩ := r5.reads
        rw [hlr]
        have KF := Lib.hid (show Keep [] w w5 from (KK.out.step k4 (by simp; omega)).step k5 (fun g hg => by
          rcases List.mem_cons.1 hg with rfl | hg
          · exact .inr (by omega)
          · have := (p4.row.lt g (by simpa using hg)).1
            exact .inr (by omega)))
        clear rp4 rs4 k4 k5 m4 m5 p4 p5 r5 hZ2 hlr HR1 ST KK rsuf rpre sz2 sz1 s3 s4 h4 z4 z5
        go_wp2_with (fail)
        go_ret
        exact ⟨by simp, KF.out.below (Nat.le_refl _) (by simp)⟩
  · go_enter Try.func7, Try.ntmps7
    have fin : ∀ w1, Below w.heap.size w w1 → Ending.returned (.bool true) = Ending.returned (.bool true) ∧ Below w.heap.size w w1 := fun w1 h => ⟨rfl, h⟩
    by_cases q1 : x < 0
    · go_wp2_with (go_at_call 8; refine (begun _).mono ?_; rintro e w1 ⟨rfl, hb1⟩)
      go_ret
      exact ⟨rfl, hb1⟩
    · by_cases q2 : 70000 < x
      · go_wp2_with (go_at_call 8; refine (begun _).mono ?_; rintro e w1 ⟨rfl, hb1⟩)
        go_ret
        exact ⟨rfl, hb1⟩
      · by_cases q3 : y < 0
        · go_wp2_with (go_at_call 8; refine (begun _).mono ?_; rintro e w1 ⟨rfl, hb1⟩)
          go_ret
          exact ⟨rfl, hb1⟩
        · have q4 : x < y := by omega
          go_wp2_with (go_at_call 8; refine (begun _).mono ?_; rintro e w1 ⟨rfl, hb1⟩)
          go_ret
          exact ⟨rfl, hb1⟩
end Go.Proofs.Ytenegjflapppdaa
