/- stream: StreamMirror. -/
import Derived.Test.YtkicffapbcnkbaaLaw2
import Derived.Deep.DeepCutAuto
import Derived.Deep.CutBlock
import Derived.LaidEql
set_option linter.all false
namespace Go.Proofs.Ytkicffapbcnkbaa
open Go.ChangeShapes Go.WideShapes Go.ChangeAt Go.RowKit
attribute [local go_sem] setCell_drewN alloc_drewN
theorem ptr_same {P : Program} (w : World) (t : TypeId) {te : TypeId} {j : TypeInfo} (a : Addr) (hp : P.underlying t = some (.pointer te)) (hte : P.info? te = some j) (hsz : j.size ≠ 0) : (binOp .eql t (.pointer (some a)) (.pointer (some a))).run P w = .ok (.bool true) w := by
  have h : ∀ d : Nat, (Op.equalIn (d + 1) t (.pointer (some a)) (.pointer (some a))).run P w = .ok true w := fun d => by simp [Op.equalIn, run_underlying hp, sizeOf, typeInfo, hte, hsz, run_sameAddr_same]
  simp only [binOp]
  simp [Op.equal, Op.maxDepth, h 9999]
theorem ptr_other {P : Program} (w : World) (t : TypeId) {te : TypeId} {j : TypeInfo} {a b : Addr} (hp : P.underlying t = some (.pointer te)) (hte : P.info? te = some j) (hsz : j.size ≠ 0) {ca cb : Array Value} {ta tb : TypeId} (hne : a ≠ b) (ha : Blk w a.block ta ca) (hb : Blk w b.block tb cb) : (binOp .eql t (.pointer (some a)) (.pointer (some b))).run P w = .ok (.bool false) w := by
  have h : ∀ d : Nat, (Op.equalIn (d + 1) t (.pointer (some a)) (.pointer (some b))).run P w = .ok false w := fun d => by simp [Op.equalIn, run_underlying hp, sizeOf, typeInfo, hte, hsz, run_sameAddr_other w hne ha hb]
  simp only [binOp]
  simp [Op.equal, Op.maxDepth, h 9999]
theorem st_info : (Try.prog.info? 45).map (fun i => (i.zero, i.size, i.bytes)) = some (some (.agg #[.int .i64 0, .int .i64 0]), 2, 16) := by kernel_rfl
/-- the states in which the two ends can be -/
def Mir (a x b y : Int) : Prop := (a = 0 ∧ x = 0 ∧ b = 0 ∧ y = 0) ∨ (a = 1 ∧ x = 0 ∧ b = 1 ∧ y = 0) ∨ (a = 2 ∧ x = 0 ∧ b = 3 ∧ y = 0) ∨ (a = 3 ∧ x = 0 ∧ b = 2 ∧ y = 0) ∨
  (a = 4 ∧ x = 1 ∧ b = 4 ∧ y = 1) ∨ (a = 4 ∧ x = 2 ∧ b = 4 ∧ y = 3) ∨ (a = 4 ∧ x = 3 ∧ b = 4 ∧ y = 2) ∨ (a = 4 ∧ x = 3 ∧ b = 4 ∧ y = 3)
theorem mir_swap {a x b y : Int} (h : Mir a x b y) : Mir b y a x := by
  unfold Mir at h
  rcases h with ⟨rfl, rfl, rfl, rfl⟩ | ⟨rfl, rfl, rfl, rfl⟩ | ⟨rfl, rfl, rfl, rfl⟩ | ⟨rfl, rfl, rfl, rfl⟩ | ⟨rfl, rfl, rfl, rfl⟩ | ⟨rfl, rfl, rfl, rfl⟩ | ⟨rfl, rfl, rfl, rfl⟩ | ⟨rfl, rfl, rfl, rfl⟩ <;> simp [Mir]
theorem mir_a {a x b y : Int} (h : Mir a x b y) : OkSt a x := by
  unfold Mir at h
  rcases h with ⟨rfl, rfl, rfl, rfl⟩ | ⟨rfl, rfl, rfl, rfl⟩ | ⟨rfl, rfl, rfl, rfl⟩ | ⟨rfl, rfl, rfl, rfl⟩ | ⟨rfl, rfl, rfl, rfl⟩ | ⟨rfl, rfl, rfl, rfl⟩ | ⟨rfl, rfl, rfl, rfl⟩ | ⟨rfl, rfl, rfl, rfl⟩ <;> simp [OkSt]
theorem mir_done {a x b y : Int} (h : Mir a x b y) : (a = 4 → b = 4) ∧ (x = 1 ↔ y = 1) := by
  unfold Mir at h
  rcases h with ⟨rfl, rfl, rfl, rfl⟩ | ⟨rfl, rfl, rfl, rfl⟩ | ⟨rfl, rfl, rfl, rfl⟩ | ⟨rfl, rfl, rfl, rfl⟩ | ⟨rfl, rfl, rfl, rfl⟩ | ⟨rfl, rfl, rfl, rfl⟩ | ⟨rfl, rfl, rfl, rfl⟩ | ⟨rfl, rfl, rfl, rfl⟩ <;> simp
theorem mir_step {a x b y k f1 f2 : Int} {e : Bool} (h : Mir a x b y) (h1 : 1 ≤ k) (h3 : k ≤ 3) (hS : sendF a x k e = (0, f1, f2)) :
    ∃ lv c t1 t2, comeF b y k (e && k != 3) = (lv, c, t1, t2) ∧ lv ≤ 1 ∧ Mir f1 f2 t1 t2 := by
  obtain rfl | rfl | rfl : k = 1 ∨ k = 2 ∨ k = 3 := by omega
  all_goals
    unfold Mir at h
    rcases h with ⟨rfl, rfl, rfl, rfl⟩ | ⟨rfl, rfl, rfl, rfl⟩ | ⟨rfl, rfl, rfl, rfl⟩ | ⟨rfl, rfl, rfl, rfl⟩ | ⟨rfl, rfl, rfl, rfl⟩ | ⟨rfl, rfl, rfl, rfl⟩ | ⟨rfl, rfl, rfl, rfl⟩ | ⟨rfl, rfl, rfl, rfl⟩
    all_goals
      cases e
      all_goals
        simp [sendF] at hS
        try
          obtain ⟨rfl, rfl⟩ := hS
          exact ⟨_, _, _, _, rfl, by decide, by simp [Mir]⟩
theorem send_err {st why k x s y : Int} {e : Bool} (h : sendF st why k e = (x, s, y)) (hx : x ≠ 0) : s = st ∧ y = why := by
  unfold sendF at h
  (repeat' split at h) <;> (injection h with h1 h2; injection h2 with h2 h3; first | exact ⟨h2.symm, h3.symm⟩ | exact absurd h1.symm hx)
set_option maxRecDepth 100000 in
set_option maxHeartbeats 16000000 in
theorem streamMirror (w : World) (kv : Value) (hk : Sl w 1 (fun _ => IsInt .i64) kv) (ev : Value) (he : Sl w 1 (fun _ => IsBool) ev) :
    Calls Try.prog 5 #[kv, ev] w fun e w' => e = .returned (.bool true) ∧ Below w.heap.size w w' := by
  obtain ⟨A, n, c, ks, rfl, hnc, hcm, hkl, hks, rk⟩ := ints_of_sl2 hk
  obtain ⟨C, n', c', es, rfl, hnc', hcm', hel, re⟩ := bools_of_sl he
  clear hk he
  unfold maxLen at hcm hcm'
  have hks := Lib.hid hks
  go_enter Try.func5, Try.ntmps5
  go_wp2_with (first
    | (go_at_call 8; refine (begun _).mono ?_; rintro e w1 ⟨rfl, hb1⟩)
    | (go_at_call 9; refine (new_ _).mono ?_; rintro e w' ⟨rfl, rfl⟩))
  have hsz := hb1.size
  go_loopw [8] (fun i wr => ∃ (k : Nat) (a x b y : Int), i = .int .i64 k ∧ k ≤ n ∧ k ≤ 100 ∧ Mir a x b y ∧ Blk wr w1.heap.size 45 #[.int .i64 a, .int .i64 x] ∧ Blk wr (w1.heap.size + 1) 45 #[.int .i64 b, .int .i64 y] ∧ Below w.heap.size w wr) (fun i _ => 100 - (intOf i).toNat)
  case atStart =>
    exact ⟨0, 0, 0, 0, 0, rfl, by omega, by omega, by simp [Mir], (Blk.new _ _ _).alloc _, by have h := Blk.new (w1.alloc (.cells #[.int .i64 0, .int .i64 0] 45)) 45 #[.int .i64 0, .int .i64 0]; simp only [World.size_alloc] at h; exact h, (hb1.alloc hsz _).alloc (by simp; omega) _⟩
  case round =>
    obtain ⟨k, a, x, b, y, rfl, hk1, hk2, hM, ba_, bb_, hB⟩ := hrel
    have hfin : ∀ (_ : True), True := fun h => h
    by_cases hgo : k < n ∧ k < 100
    · obtain ⟨hlt, hlt2⟩ := hgo
      obtain ⟨b1, o1, kk, rfl, hb1', hkk, e1⟩ := kind_cell rk hkl k hlt
      have kr := hks.out kk (List.mem_of_getElem? hkk)
      rw [← hB.cell (p := ⟨b1, o1 + k, none⟩) hb1'] at e1
      obtain ⟨e2, e3⟩ := end_cell re hel k
      obtain ⟨eb, heb⟩ : ∃ eb, eb = es.getD k false := ⟨_, rfl⟩
      rw [← heb] at e2 e3
      have k0 : (0 : Int) ≤ (k : Int) := by omega
      have k1 : (k : Int) < (n : Int) := by omega
      have kr := Lib.hid kr
      have hoka := mir_a hM
      have hokb := mir_a (mir_swap hM)
      clear heb hkk rk hfin
      go_upto_region 9 with (fail)
      go_cut [9] (fun v wx => v = .bool eb ∧ wx = wr)
      case first =>
        by_cases hlt3 : k < n'
        · obtain ⟨b2, o2, rfl, hb2', e4⟩ := e2 hlt3
          rw [← hB.cell (p := ⟨b2, o2 + k, none⟩) hb2'] at e4
          have k2 : (k : Int) < (n' : Int) := by omega
          clear e2 e3
          go_wp2
          go_meet
          case rel => exact ⟨rfl, rfl⟩
        · obtain rfl := e3 hlt3
          have k2 : ¬ (k : Int) < (n' : Int) := by omega
          clear e2 e3
          go_wp2
          go_meet
          case rel => exact ⟨rfl, rfl⟩
      case rest =>
        obtain ⟨rfl, rfl⟩ := hcut
        clear e2 e3
        obtain ⟨i0, hi, hz0, hz1, hz2⟩ := info_parts st_info
        have hp1 := ptr_same (P := Try.prog) wc 25 ⟨w1.heap.size + 1, 0, none⟩ Try.underlying25 hi (by omega)
        have hp2 := ptr_other (P := Try.prog) wc 25 (a := ⟨w1.heap.size, 0, none⟩) (b := ⟨w1.heap.size + 1, 0, none⟩) Try.underlying25 hi (by omega) (by simp) ba_ bb_
        clear hi hz0 hz1 hz2
        have hcase : kk < 1 ∨ kk = 1 ∨ kk = 2 ∨ kk = 3 ∨ (3 < kk ∧ kk ≤ 10) ∨ kk = 11 ∨ kk = 12 ∨ kk = 13 ∨ 13 < kk := by omega
        rcases hcase with q | rfl | rfl | rfl | ⟨q, q'⟩ | rfl | rfl | rfl | q
        · have q1 : ¬ 10 < kk := by omega
          skip
          go_wp2_with (go_at_call 15; refine (state_ _ _ _ _ (by assumption)).mono ?_; rintro e w' ⟨rfl, rfl⟩)
          go_roundw
          case rel => exact ⟨k + 1, a, x, b, y, by go_num, by omega, by omega, hM, ba_, bb_, hB⟩
          case measure => simp [intOf]; omega
        · cases eb
          · skip
            obtain ⟨er, f1, f2, hS⟩ : ∃ er f1 f2, sendF a x 1 false = (er, f1, f2) := ⟨_, _, _, rfl⟩
            have HS := Lib.hid hS
            by_cases her : er = 0
            · have her' : (er != 0) = false := by simp [her]
              obtain ⟨lv, cd, t1, t2, hC, hlv, hM2⟩ := mir_step hM (by omega : (1 : Int) ≤ 1) (by omega : (1 : Int) ≤ 3) (by rw [hS, her] : sendF a x 1 false = (0, f1, f2))
              simp only [show (false && (1 : Int) != 3) = false from rfl] at hC
              have HC := Lib.hid hC
              have HM2 := Lib.hid hM2
              clear hS hC her hM2
              go_wp2_with (first
                | (go_at_call 15; refine (state_ _ _ _ _ (by assumption)).mono ?_; rintro e w' ⟨rfl, rfl⟩)
                | (go_at_call 11; refine (send_eq (b := w1.heap.size) HS.out (hoka) ba_).mono ?_; rintro e w2 ⟨rfl, bf1, g2⟩; have bt1 := bb_.grown g2 (by simp))
                | (go_at_call 13; refine (come_eq (b := (w1.heap.size + 1)) HC.out (hokb) bt1).mono ?_; rintro e w3 ⟨rfl, bt2, g3⟩; have bf2 := bf1.grown g3 (by simp); have sz2 := g2.size; have hlv' := hlv))
              go_roundw
              case rel => exact ⟨k + 1, f1, f2, t1, t2, by go_num, by omega, by omega, HM2.out, bf2, bt2, (hB.trans (only_below g2 (by omega) hB.size)).trans (only_below g3 (by omega) (by have := hB.size; omega))⟩
              case measure => simp [intOf]; omega
            · have her' : (er != 0) = true := by simp [her]
              have hsame := send_err hS her
              rw [hsame.1, hsame.2] at hS
              have HS := Lib.hid hS
              clear hS her hsame
              go_wp2_with (first
                | (go_at_call 15; refine (state_ _ _ _ _ (by assumption)).mono ?_; rintro e w' ⟨rfl, rfl⟩)
                | (go_at_call 11; refine (send_eq (b := w1.heap.size) HS.out (hoka) ba_).mono ?_; rintro e w2 ⟨rfl, bf1, g2⟩; have bt1 := bb_.grown g2 (by simp)))
              go_roundw
              case rel => exact ⟨k + 1, a, x, b, y, by go_num, by omega, by omega, hM, bf1, bt1, hB.trans (only_below g2 (by omega) hB.size)⟩
              case measure => simp [intOf]; omega
          · skip
            obtain ⟨er, f1, f2, hS⟩ : ∃ er f1 f2, sendF a x 1 true = (er, f1, f2) := ⟨_, _, _, rfl⟩
            have HS := Lib.hid hS
            by_cases her : er = 0
            · have her' : (er != 0) = false := by simp [her]
              obtain ⟨lv, cd, t1, t2, hC, hlv, hM2⟩ := mir_step hM (by omega : (1 : Int) ≤ 1) (by omega : (1 : Int) ≤ 3) (by rw [hS, her] : sendF a x 1 true = (0, f1, f2))
              simp only [show (true && (1 : Int) != 3) = true from rfl] at hC
              have HC := Lib.hid hC
              have HM2 := Lib.hid hM2
              clear hS hC her hM2
              go_wp2_with (first
                | (go_at_call 15; refine (state_ _ _ _ _ (by assumption)).mono ?_; rintro e w' ⟨rfl, rfl⟩)
                | (go_at_call 11; refine (send_eq (b := w1.heap.size) HS.out (hoka) ba_).mono ?_; rintro e w2 ⟨rfl, bf1, g2⟩; have bt1 := bb_.grown g2 (by simp))
                | (go_at_call 13; refine (come_eq (b := (w1.heap.size + 1)) HC.out (hokb) bt1).mono ?_; rintro e w3 ⟨rfl, bt2, g3⟩; have bf2 := bf1.grown g3 (by simp); have sz2 := g2.size; have hlv' := hlv))
              go_roundw
              case rel => exact ⟨k + 1, f1, f2, t1, t2, by go_num, by omega, by omega, HM2.out, bf2, bt2, (hB.trans (only_below g2 (by omega) hB.size)).trans (only_below g3 (by omega) (by have := hB.size; omega))⟩
              case measure => simp [intOf]; omega
            · have her' : (er != 0) = true := by simp [her]
              have hsame := send_err hS her
              rw [hsame.1, hsame.2] at hS
              have HS := Lib.hid hS
              clear hS her hsame
              go_wp2_with (first
                | (go_at_call 15; refine (state_ _ _ _ _ (by assumption)).mono ?_; rintro e w' ⟨rfl, rfl⟩)
                | (go_at_call 11; refine (send_eq (b := w1.heap.size) HS.out (hoka) ba_).mono ?_; rintro e w2 ⟨rfl, bf1, g2⟩; have bt1 := bb_.grown g2 (by simp)))
              go_roundw
              case rel => exact ⟨k + 1, a, x, b, y, by go_num, by omega, by omega, hM, bf1, bt1, hB.trans (only_below g2 (by omega) hB.size)⟩
              case measure => simp [intOf]; omega
        · cases eb
          · skip
            obtain ⟨er, f1, f2, hS⟩ : ∃ er f1 f2, sendF a x 2 false = (er, f1, f2) := ⟨_, _, _, rfl⟩
            have HS := Lib.hid hS
            by_cases her : er = 0
            · have her' : (er != 0) = false := by simp [her]
              obtain ⟨lv, cd, t1, t2, hC, hlv, hM2⟩ := mir_step hM (by omega : (1 : Int) ≤ 2) (by omega : (2 : Int) ≤ 3) (by rw [hS, her] : sendF a x 2 false = (0, f1, f2))
              simp only [show (false && (2 : Int) != 3) = false from rfl] at hC
              have HC := Lib.hid hC
              have HM2 := Lib.hid hM2
              clear hS hC her hM2
              go_wp2_with (first
                | (go_at_call 15; refine (state_ _ _ _ _ (by assumption)).mono ?_; rintro e w' ⟨rfl, rfl⟩)
                | (go_at_call 11; refine (send_eq (b := w1.heap.size) HS.out (hoka) ba_).mono ?_; rintro e w2 ⟨rfl, bf1, g2⟩; have bt1 := bb_.grown g2 (by simp))
                | (go_at_call 13; refine (come_eq (b := (w1.heap.size + 1)) HC.out (hokb) bt1).mono ?_; rintro e w3 ⟨rfl, bt2, g3⟩; have bf2 := bf1.grown g3 (by simp); have sz2 := g2.size; have hlv' := hlv))
              go_roundw
              case rel => exact ⟨k + 1, f1, f2, t1, t2, by go_num, by omega, by omega, HM2.out, bf2, bt2, (hB.trans (only_below g2 (by omega) hB.size)).trans (only_below g3 (by omega) (by have := hB.size; omega))⟩
              case measure => simp [intOf]; omega
            · have her' : (er != 0) = true := by simp [her]
              have hsame := send_err hS her
              rw [hsame.1, hsame.2] at hS
              have HS := Lib.hid hS
              clear hS her hsame
              go_wp2_with (first
                | (go_at_call 15; refine (state_ _ _ _ _ (by assumption)).mono ?_; rintro e w' ⟨rfl, rfl⟩)
                | (go_at_call 11; refine (send_eq (b := w1.heap.size) HS.out (hoka) ba_).mono ?_; rintro e w2 ⟨rfl, bf1, g2⟩; have bt1 := bb_.grown g2 (by simp)))
              go_roundw
              case rel => exact ⟨k + 1, a, x, b, y, by go_num, by omega, by omega, hM, bf1, bt1, hB.trans (only_below g2 (by omega) hB.size)⟩
              case measure => simp [intOf]; omega
          · skip
            obtain ⟨er, f1, f2, hS⟩ : ∃ er f1 f2, sendF a x 2 true = (er, f1, f2) := ⟨_, _, _, rfl⟩
            have HS := Lib.hid hS
            by_cases her : er = 0
            · have her' : (er != 0) = false := by simp [her]
              obtain ⟨lv, cd, t1, t2, hC, hlv, hM2⟩ := mir_step hM (by omega : (1 : Int) ≤ 2) (by omega : (2 : Int) ≤ 3) (by rw [hS, her] : sendF a x 2 true = (0, f1, f2))
              simp only [show (true && (2 : Int) != 3) = true from rfl] at hC
              have HC := Lib.hid hC
              have HM2 := Lib.hid hM2
              clear hS hC her hM2
              go_wp2_with (first
                | (go_at_call 15; refine (state_ _ _ _ _ (by assumption)).mono ?_; rintro e w' ⟨rfl, rfl⟩)
                | (go_at_call 11; refine (send_eq (b := w1.heap.size) HS.out (hoka) ba_).mono ?_; rintro e w2 ⟨rfl, bf1, g2⟩; have bt1 := bb_.grown g2 (by simp))
                | (go_at_call 13; refine (come_eq (b := (w1.heap.size + 1)) HC.out (hokb) bt1).mono ?_; rintro e w3 ⟨rfl, bt2, g3⟩; have bf2 := bf1.grown g3 (by simp); have sz2 := g2.size; have hlv' := hlv))
              go_roundw
              case rel => exact ⟨k + 1, f1, f2, t1, t2, by go_num, by omega, by omega, HM2.out, bf2, bt2, (hB.trans (only_below g2 (by omega) hB.size)).trans (only_below g3 (by omega) (by have := hB.size; omega))⟩
              case measure => simp [intOf]; omega
            · have her' : (er != 0) = true := by simp [her]
              have hsame := send_err hS her
              rw [hsame.1, hsame.2] at hS
              have HS := Lib.hid hS
              clear hS her hsame
              go_wp2_with (first
                | (go_at_call 15; refine (state_ _ _ _ _ (by assumption)).mono ?_; rintro e w' ⟨rfl, rfl⟩)
                | (go_at_call 11; refine (send_eq (b := w1.heap.size) HS.out (hoka) ba_).mono ?_; rintro e w2 ⟨rfl, bf1, g2⟩; have bt1 := bb_.grown g2 (by simp)))
              go_roundw
              case rel => exact ⟨k + 1, a, x, b, y, by go_num, by omega, by omega, hM, bf1, bt1, hB.trans (only_below g2 (by omega) hB.size)⟩
              case measure => simp [intOf]; omega
        · cases eb
          · skip
            obtain ⟨er, f1, f2, hS⟩ : ∃ er f1 f2, sendF a x 3 false = (er, f1, f2) := ⟨_, _, _, rfl⟩
            have HS := Lib.hid hS
            by_cases her : er = 0
            · have her' : (er != 0) = false := by simp [her]
              obtain ⟨lv, cd, t1, t2, hC, hlv, hM2⟩ := mir_step hM (by omega : (1 : Int) ≤ 3) (by omega : (3 : Int) ≤ 3) (by rw [hS, her] : sendF a x 3 false = (0, f1, f2))
              simp only [show (false && (3 : Int) != 3) = false from rfl] at hC
              have HC := Lib.hid hC
              have HM2 := Lib.hid hM2
              clear hS hC her hM2
              go_wp2_with (first
                | (go_at_call 15; refine (state_ _ _ _ _ (by assumption)).mono ?_; rintro e w' ⟨rfl, rfl⟩)
                | (go_at_call 11; refine (send_eq (b := w1.heap.size) HS.out (hoka) ba_).mono ?_; rintro e w2 ⟨rfl, bf1, g2⟩; have bt1 := bb_.grown g2 (by simp))
                | (go_at_call 13; refine (come_eq (b := (w1.heap.size + 1)) HC.out (hokb) bt1).mono ?_; rintro e w3 ⟨rfl, bt2, g3⟩; have bf2 := bf1.grown g3 (by simp); have sz2 := g2.size; have hlv' := hlv))
              go_roundw
              case rel => exact ⟨k + 1, f1, f2, t1, t2, by go_num, by omega, by omega, HM2.out, bf2, bt2, (hB.trans (only_below g2 (by omega) hB.size)).trans (only_below g3 (by omega) (by have := hB.size; omega))⟩
              case measure => simp [intOf]; omega
            · have her' : (er != 0) = true := by simp [her]
              have hsame := send_err hS her
              rw [hsame.1, hsame.2] at hS
              have HS := Lib.hid hS
              clear hS her hsame
              go_wp2_with (first
                | (go_at_call 15; refine (state_ _ _ _ _ (by assumption)).mono ?_; rintro e w' ⟨rfl, rfl⟩)
                | (go_at_call 11; refine (send_eq (b := w1.heap.size) HS.out (hoka) ba_).mono ?_; rintro e w2 ⟨rfl, bf1, g2⟩; have bt1 := bb_.grown g2 (by simp)))
              go_roundw
              case rel => exact ⟨k + 1, a, x, b, y, by go_num, by omega, by omega, hM, bf1, bt1, hB.trans (only_below g2 (by omega) hB.size)⟩
              case measure => simp [intOf]; omega
          · skip
            obtain ⟨er, f1, f2, hS⟩ : ∃ er f1 f2, sendF a x 3 true = (er, f1, f2) := ⟨_, _, _, rfl⟩
            have HS := Lib.hid hS
            by_cases her : er = 0
            · have her' : (er != 0) = false := by simp [her]
              obtain ⟨lv, cd, t1, t2, hC, hlv, hM2⟩ := mir_step hM (by omega : (1 : Int) ≤ 3) (by omega : (3 : Int) ≤ 3) (by rw [hS, her] : sendF a x 3 true = (0, f1, f2))
              simp only [show (true && (3 : Int) != 3) = false from rfl] at hC
              have HC := Lib.hid hC
              have HM2 := Lib.hid hM2
              clear hS hC her hM2
              go_wp2_with (first
                | (go_at_call 15; refine (state_ _ _ _ _ (by assumption)).mono ?_; rintro e w' ⟨rfl, rfl⟩)
                | (go_at_call 11; refine (send_eq (b := w1.heap.size) HS.out (hoka) ba_).mono ?_; rintro e w2 ⟨rfl, bf1, g2⟩; have bt1 := bb_.grown g2 (by simp))
                | (go_at_call 13; refine (come_eq (b := (w1.heap.size + 1)) HC.out (hokb) bt1).mono ?_; rintro e w3 ⟨rfl, bt2, g3⟩; have bf2 := bf1.grown g3 (by simp); have sz2 := g2.size; have hlv' := hlv))
              go_roundw
              case rel => exact ⟨k + 1, f1, f2, t1, t2, by go_num, by omega, by omega, HM2.out, bf2, bt2, (hB.trans (only_below g2 (by omega) hB.size)).trans (only_below g3 (by omega) (by have := hB.size; omega))⟩
              case measure => simp [intOf]; omega
            · have her' : (er != 0) = true := by simp [her]
              have hsame := send_err hS her
              rw [hsame.1, hsame.2] at hS
              have HS := Lib.hid hS
              clear hS her hsame
              go_wp2_with (first
                | (go_at_call 15; refine (state_ _ _ _ _ (by assumption)).mono ?_; rintro e w' ⟨rfl, rfl⟩)
                | (go_at_call 11; refine (send_eq (b := w1.heap.size) HS.out (hoka) ba_).mono ?_; rintro e w2 ⟨rfl, bf1, g2⟩; have bt1 := bb_.grown g2 (by simp)))
              go_roundw
              case rel => exact ⟨k + 1, a, x, b, y, by go_num, by omega, by omega, hM, bf1, bt1, hB.trans (only_below g2 (by omega) hB.size)⟩
              case measure => simp [intOf]; omega
        · have q1 : ¬ 10 < kk := by omega
          have q2 : ¬ kk < 1 := by omega
          skip
          go_wp2_with (go_at_call 15; refine (state_ _ _ _ _ (by assumption)).mono ?_; rintro e w' ⟨rfl, rfl⟩)
          go_roundw
          case rel => exact ⟨k + 1, a, x, b, y, by go_num, by omega, by omega, hM, ba_, bb_, hB⟩
          case measure => simp [intOf]; omega
        · by_cases hidle : b = 0
          · have hidle' : (b == 0) = true := by simp [hidle]
            skip
            go_wp2_with (go_at_call 15; refine (state_ _ _ _ _ (by assumption)).mono ?_; rintro e w' ⟨rfl, rfl⟩)
            go_roundw
            case rel => exact ⟨k + 1, a, x, b, y, by go_num, by omega, by omega, hM, ba_, bb_, hB⟩
            case measure => simp [intOf]; omega
          · cases eb
            · skip
              have hidle' : (b == 0) = false := by simp [hidle]
              obtain ⟨er, f1, f2, hS⟩ : ∃ er f1 f2, sendF b y 1 false = (er, f1, f2) := ⟨_, _, _, rfl⟩
              have HS := Lib.hid hS
              by_cases her : er = 0
              · have her' : (er != 0) = false := by simp [her]
                obtain ⟨lv, cd, t1, t2, hC, hlv, hM2⟩ := mir_step (mir_swap hM) (by omega : (1 : Int) ≤ 1) (by omega : (1 : Int) ≤ 3) (by rw [hS, her] : sendF b y 1 false = (0, f1, f2))
                simp only [show (false && (1 : Int) != 3) = false from rfl] at hC
                have HC := Lib.hid hC
                have HM2 := Lib.hid hM2
                clear hS hC her hM2
                go_wp2_with (first
                  | (go_at_call 15; refine (state_ _ _ _ _ (by assumption)).mono ?_; rintro e w' ⟨rfl, rfl⟩)
                  | (go_at_call 11; refine (send_eq (b := (w1.heap.size + 1)) HS.out (hokb) bb_).mono ?_; rintro e w2 ⟨rfl, bf1, g2⟩; have bt1 := ba_.grown g2 (by simp))
                  | (go_at_call 13; refine (come_eq (b := w1.heap.size) HC.out (hoka) bt1).mono ?_; rintro e w3 ⟨rfl, bt2, g3⟩; have bf2 := bf1.grown g3 (by simp); have sz2 := g2.size; have hlv' := hlv))
                go_roundw
                case rel => exact ⟨k + 1, t1, t2, f1, f2, by go_num, by omega, by omega, mir_swap HM2.out, bt2, bf2, (hB.trans (only_below g2 (by omega) hB.size)).trans (only_below g3 (by omega) (by have := hB.size; omega))⟩
                case measure => simp [intOf]; omega
              · have her' : (er != 0) = true := by simp [her]
                have hsame := send_err hS her
                rw [hsame.1, hsame.2] at hS
                have HS := Lib.hid hS
                clear hS her hsame
                go_wp2_with (first
                  | (go_at_call 15; refine (state_ _ _ _ _ (by assumption)).mono ?_; rintro e w' ⟨rfl, rfl⟩)
                  | (go_at_call 11; refine (send_eq (b := (w1.heap.size + 1)) HS.out (hokb) bb_).mono ?_; rintro e w2 ⟨rfl, bf1, g2⟩; have bt1 := ba_.grown g2 (by simp)))
                go_roundw
                case rel => exact ⟨k + 1, a, x, b, y, by go_num, by omega, by omega, hM, bt1, bf1, hB.trans (only_below g2 (by omega) hB.size)⟩
                case measure => simp [intOf]; omega
            · skip
              have hidle' : (b == 0) = false := by simp [hidle]
              obtain ⟨er, f1, f2, hS⟩ : ∃ er f1 f2, sendF b y 1 true = (er, f1, f2) := ⟨_, _, _, rfl⟩
              have HS := Lib.hid hS
              by_cases her : er = 0
              · have her' : (er != 0) = false := by simp [her]
                obtain ⟨lv, cd, t1, t2, hC, hlv, hM2⟩ := mir_step (mir_swap hM) (by omega : (1 : Int) ≤ 1) (by omega : (1 : Int) ≤ 3) (by rw [hS, her] : sendF b y 1 true = (0, f1, f2))
                simp only [show (true && (1 : Int) != 3) = true from rfl] at hC
                have HC := Lib.hid hC
                have HM2 := Lib.hid hM2
                clear hS hC her hM2
                go_wp2_with (first
                  | (go_at_call 15; refine (state_ _ _ _ _ (by assumption)).mono ?_; rintro e w' ⟨rfl, rfl⟩)
                  | (go_at_call 11; refine (send_eq (b := (w1.heap.size + 1)) HS.out (hokb) bb_).mono ?_; rintro e w2 ⟨rfl, bf1, g2⟩; have bt1 := ba_.grown g2 (by simp))
                  | (go_at_call 13; refine (come_eq (b := w1.heap.size) HC.out (hoka) bt1).mono ?_; rintro e w3 ⟨rfl, bt2, g3⟩; have bf2 := bf1.grown g3 (by simp); have sz2 := g2.size; have hlv' := hlv))
                go_roundw
                case rel => exact ⟨k + 1, t1, t2, f1, f2, by go_num, by omega, by omega, mir_swap HM2.out, bt2, bf2, (hB.trans (only_below g2 (by omega) hB.size)).trans (only_below g3 (by omega) (by have := hB.size; omega))⟩
                case measure => simp [intOf]; omega
              · have her' : (er != 0) = true := by simp [her]
                have hsame := send_err hS her
                rw [hsame.1, hsame.2] at hS
                have HS := Lib.hid hS
                clear hS her hsame
                go_wp2_with (first
                  | (go_at_call 15; refine (state_ _ _ _ _ (by assumption)).mono ?_; rintro e w' ⟨rfl, rfl⟩)
                  | (go_at_call 11; refine (send_eq (b := (w1.heap.size + 1)) HS.out (hokb) bb_).mono ?_; rintro e w2 ⟨rfl, bf1, g2⟩; have bt1 := ba_.grown g2 (by simp)))
                go_roundw
                case rel => exact ⟨k + 1, a, x, b, y, by go_num, by omega, by omega, hM, bt1, bf1, hB.trans (only_below g2 (by omega) hB.size)⟩
                case measure => simp [intOf]; omega
        · by_cases hidle : b = 0
          · have hidle' : (b == 0) = true := by simp [hidle]
            skip
            go_wp2_with (go_at_call 15; refine (state_ _ _ _ _ (by assumption)).mono ?_; rintro e w' ⟨rfl, rfl⟩)
            go_roundw
            case rel => exact ⟨k + 1, a, x, b, y, by go_num, by omega, by omega, hM, ba_, bb_, hB⟩
            case measure => simp [intOf]; omega
          · cases eb
            · skip
              have hidle' : (b == 0) = false := by simp [hidle]
              obtain ⟨er, f1, f2, hS⟩ : ∃ er f1 f2, sendF b y 2 false = (er, f1, f2) := ⟨_, _, _, rfl⟩
              have HS := Lib.hid hS
              by_cases her : er = 0
              · have her' : (er != 0) = false := by simp [her]
                obtain ⟨lv, cd, t1, t2, hC, hlv, hM2⟩ := mir_step (mir_swap hM) (by omega : (1 : Int) ≤ 2) (by omega : (2 : Int) ≤ 3) (by rw [hS, her] : sendF b y 2 false = (0, f1, f2))
                simp only [show (false && (2 : Int) != 3) = false from rfl] at hC
                have HC := Lib.hid hC
                have HM2 := Lib.hid hM2
                clear hS hC her hM2
                go_wp2_with (first
                  | (go_at_call 15; refine (state_ _ _ _ _ (by assumption)).mono ?_; rintro e w' ⟨rfl, rfl⟩)
                  | (go_at_call 11; refine (send_eq (b := (w1.heap.size + 1)) HS.out (hokb) bb_).mono ?_; rintro e w2 ⟨rfl, bf1, g2⟩; have bt1 := ba_.grown g2 (by simp))
                  | (go_at_call 13; refine (come_eq (b := w1.heap.size) HC.out (hoka) bt1).mono ?_; rintro e w3 ⟨rfl, bt2, g3⟩; have bf2 := bf1.grown g3 (by simp); have sz2 := g2.size; have hlv' := hlv))
                go_roundw
                case rel => exact ⟨k + 1, t1, t2, f1, f2, by go_num, by omega, by omega, mir_swap HM2.out, bt2, bf2, (hB.trans (only_below g2 (by omega) hB.size)).trans (only_below g3 (by omega) (by have := hB.size; omega))⟩
                case measure => simp [intOf]; omega
              · have her' : (er != 0) = true := by simp [her]
                have hsame := send_err hS her
                rw [hsame.1, hsame.2] at hS
                have HS := Lib.hid hS
                clear hS her hsame
                go_wp2_with (first
                  | (go_at_call 15; refine (state_ _ _ _ _ (by assumption)).mono ?_; rintro e w' ⟨rfl, rfl⟩)
                  | (go_at_call 11; refine (send_eq (b := (w1.heap.size + 1)) HS.out (hokb) bb_).mono ?_; rintro e w2 ⟨rfl, bf1, g2⟩; have bt1 := ba_.grown g2 (by simp)))
                go_roundw
                case rel => exact ⟨k + 1, a, x, b, y, by go_num, by omega, by omega, hM, bt1, bf1, hB.trans (only_below g2 (by omega) hB.size)⟩
                case measure => simp [intOf]; omega
            · skip
              have hidle' : (b == 0) = false := by simp [hidle]
              obtain ⟨er, f1, f2, hS⟩ : ∃ er f1 f2, sendF b y 2 true = (er, f1, f2) := ⟨_, _, _, rfl⟩
              have HS := Lib.hid hS
              by_cases her : er = 0
              · have her' : (er != 0) = false := by simp [her]
                obtain ⟨lv, cd, t1, t2, hC, hlv, hM2⟩ := mir_step (mir_swap hM) (by omega : (1 : Int) ≤ 2) (by omega : (2 : Int) ≤ 3) (by rw [hS, her] : sendF b y 2 true = (0, f1, f2))
                simp only [show (true && (2 : Int) != 3) = true from rfl] at hC
                have HC := Lib.hid hC
                have HM2 := Lib.hid hM2
                clear hS hC her hM2
                go_wp2_with (first
                  | (go_at_call 15; refine (state_ _ _ _ _ (by assumption)).mono ?_; rintro e w' ⟨rfl, rfl⟩)
                  | (go_at_call 11; refine (send_eq (b := (w1.heap.size + 1)) HS.out (hokb) bb_).mono ?_; rintro e w2 ⟨rfl, bf1, g2⟩; have bt1 := ba_.grown g2 (by simp))
                  | (go_at_call 13; refine (come_eq (b := w1.heap.size) HC.out (hoka) bt1).mono ?_; rintro e w3 ⟨rfl, bt2, g3⟩; have bf2 := bf1.grown g3 (by simp); have sz2 := g2.size; have hlv' := hlv))
                go_roundw
                case rel => exact ⟨k + 1, t1, t2, f1, f2, by go_num, by omega, by omega, mir_swap HM2.out, bt2, bf2, (hB.trans (only_below g2 (by omega) hB.size)).trans (only_below g3 (by omega) (by have := hB.size; omega))⟩
                case measure => simp [intOf]; omega
              · have her' : (er != 0) = true := by simp [her]
                have hsame := send_err hS her
                rw [hsame.1, hsame.2] at hS
                have HS := Lib.hid hS
                clear hS her hsame
                go_wp2_with (first
                  | (go_at_call 15; refine (state_ _ _ _ _ (by assumption)).mono ?_; rintro e w' ⟨rfl, rfl⟩)
                  | (go_at_call 11; refine (send_eq (b := (w1.heap.size + 1)) HS.out (hokb) bb_).mono ?_; rintro e w2 ⟨rfl, bf1, g2⟩; have bt1 := ba_.grown g2 (by simp)))
                go_roundw
                case rel => exact ⟨k + 1, a, x, b, y, by go_num, by omega, by omega, hM, bt1, bf1, hB.trans (only_below g2 (by omega) hB.size)⟩
                case measure => simp [intOf]; omega
        · by_cases hidle : b = 0
          · have hidle' : (b == 0) = true := by simp [hidle]
            skip
            go_wp2_with (go_at_call 15; refine (state_ _ _ _ _ (by assumption)).mono ?_; rintro e w' ⟨rfl, rfl⟩)
            go_roundw
            case rel => exact ⟨k + 1, a, x, b, y, by go_num, by omega, by omega, hM, ba_, bb_, hB⟩
            case measure => simp [intOf]; omega
          · cases eb
            · skip
              have hidle' : (b == 0) = false := by simp [hidle]
              obtain ⟨er, f1, f2, hS⟩ : ∃ er f1 f2, sendF b y 3 false = (er, f1, f2) := ⟨_, _, _, rfl⟩
              have HS := Lib.hid hS
              by_cases her : er = 0
              · have her' : (er != 0) = false := by simp [her]
                obtain ⟨lv, cd, t1, t2, hC, hlv, hM2⟩ := mir_step (mir_swap hM) (by omega : (1 : Int) ≤ 3) (by omega : (3 : Int) ≤ 3) (by rw [hS, her] : sendF b y 3 false = (0, f1, f2))
                simp only [show (false && (3 : Int) != 3) = false from rfl] at hC
                have HC := Lib.hid hC
                have HM2 := Lib.hid hM2
                clear hS hC her hM2
                go_wp2_with (first
                  | (go_at_call 15; refine (state_ _ _ _ _ (by assumption)).mono ?_; rintro e w' ⟨rfl, rfl⟩)
                  | (go_at_call 11; refine (send_eq (b := (w1.heap.size + 1)) HS.out (hokb) bb_).mono ?_; rintro e w2 ⟨rfl, bf1, g2⟩; have bt1 := ba_.grown g2 (by simp))
                  | (go_at_call 13; refine (come_eq (b := w1.heap.size) HC.out (hoka) bt1).mono ?_; rintro e w3 ⟨rfl, bt2, g3⟩; have bf2 := bf1.grown g3 (by simp); have sz2 := g2.size; have hlv' := hlv))
                go_roundw
                case rel => exact ⟨k + 1, t1, t2, f1, f2, by go_num, by omega, by omega, mir_swap HM2.out, bt2, bf2, (hB.trans (only_below g2 (by omega) hB.size)).trans (only_below g3 (by omega) (by have := hB.size; omega))⟩
                case measure => simp [intOf]; omega
              · have her' : (er != 0) = true := by simp [her]
                have hsame := send_err hS her
                rw [hsame.1, hsame.2] at hS
                have HS := Lib.hid hS
                clear hS her hsame
                go_wp2_with (first
                  | (go_at_call 15; refine (state_ _ _ _ _ (by assumption)).mono ?_; rintro e w' ⟨rfl, rfl⟩)
                  | (go_at_call 11; refine (send_eq (b := (w1.heap.size + 1)) HS.out (hokb) bb_).mono ?_; rintro e w2 ⟨rfl, bf1, g2⟩; have bt1 := ba_.grown g2 (by simp)))
                go_roundw
                case rel => exact ⟨k + 1, a, x, b, y, by go_num, by omega, by omega, hM, bt1, bf1, hB.trans (only_below g2 (by omega) hB.size)⟩
                case measure => simp [intOf]; omega
            · skip
              have hidle' : (b == 0) = false := by simp [hidle]
              obtain ⟨er, f1, f2, hS⟩ : ∃ er f1 f2, sendF b y 3 true = (er, f1, f2) := ⟨_, _, _, rfl⟩
              have HS := Lib.hid hS
              by_cases her : er = 0
              · have her' : (er != 0) = false := by simp [her]
                obtain ⟨lv, cd, t1, t2, hC, hlv, hM2⟩ := mir_step (mir_swap hM) (by omega : (1 : Int) ≤ 3) (by omega : (3 : Int) ≤ 3) (by rw [hS, her] : sendF b y 3 true = (0, f1, f2))
                simp only [show (true && (3 : Int) != 3) = false from rfl] at hC
                have HC := Lib.hid hC
                have HM2 := Lib.hid hM2
                clear hS hC her hM2
                go_wp2_with (first
                  | (go_at_call 15; refine (state_ _ _ _ _ (by assumption)).mono ?_; rintro e w' ⟨rfl, rfl⟩)
                  | (go_at_call 11; refine (send_eq (b := (w1.heap.size + 1)) HS.out (hokb) bb_).mono ?_; rintro e w2 ⟨rfl, bf1, g2⟩; have bt1 := ba_.grown g2 (by simp))
                  | (go_at_call 13; refine (come_eq (b := w1.heap.size) HC.out (hoka) bt1).mono ?_; rintro e w3 ⟨rfl, bt2, g3⟩; have bf2 := bf1.grown g3 (by simp); have sz2 := g2.size; have hlv' := hlv))
                go_roundw
                case rel => exact ⟨k + 1, t1, t2, f1, f2, by go_num, by omega, by omega, mir_swap HM2.out, bt2, bf2, (hB.trans (only_below g2 (by omega) hB.size)).trans (only_below g3 (by omega) (by have := hB.size; omega))⟩
                case measure => simp [intOf]; omega
              · have her' : (er != 0) = true := by simp [her]
                have hsame := send_err hS her
                rw [hsame.1, hsame.2] at hS
                have HS := Lib.hid hS
                clear hS her hsame
                go_wp2_with (first
                  | (go_at_call 15; refine (state_ _ _ _ _ (by assumption)).mono ?_; rintro e w' ⟨rfl, rfl⟩)
                  | (go_at_call 11; refine (send_eq (b := (w1.heap.size + 1)) HS.out (hokb) bb_).mono ?_; rintro e w2 ⟨rfl, bf1, g2⟩; have bt1 := ba_.grown g2 (by simp)))
                go_roundw
                case rel => exact ⟨k + 1, a, x, b, y, by go_num, by omega, by omega, hM, bt1, bf1, hB.trans (only_below g2 (by omega) hB.size)⟩
                case measure => simp [intOf]; omega
        · have q1 : 10 < kk := by omega
          have q2 : 3 < kk - 10 := by omega
          have q3 : ¬ kk - 10 < 1 := by omega
          skip
          go_wp2_with (go_at_call 15; refine (state_ _ _ _ _ (by assumption)).mono ?_; rintro e w' ⟨rfl, rfl⟩)
          go_roundw
          case rel => exact ⟨k + 1, a, x, b, y, by go_num, by omega, by omega, hM, ba_, bb_, hB⟩
          case measure => simp [intOf]; omega
    · have hd := mir_done hM
      have t1 : (a == 4) = true → (b != 4) = false := fun h => by have := hd.1 (by simpa using h); simp [this]
      have t2 : ((x == 1) == (y == 1)) = true := by
        have h2 := hd.2
        by_cases h : x = 1
        · simp [h, h2.1 h]
        · have : y ≠ 1 := fun e => h (h2.2 e)
          have e1 : (x == 1) = false := by simpa using h
          have e2 : (y == 1) = false := by simpa using this
          rw [e1, e2]; rfl
      clear hd hfin
      by_cases hlt : k < n
      · have hlt2 : ¬ k < 100 := fun h => hgo ⟨hlt, h⟩
        clear hgo
        by_cases h4 : (a == 4) = true
        · have t3 := t1 h4
          go_wp2_with (first | (go_at_call 15; refine (state_ _ _ _ _ (by assumption)).mono ?_; rintro e w' ⟨rfl, rfl⟩) | (go_at_call 16; refine (why_ _ _ _ _ (by assumption)).mono ?_; rintro e w' ⟨rfl, rfl⟩))
          go_ret
          exact ⟨rfl, hB⟩
        · have h4 : (a == 4) = false := by simpa using h4
          go_wp2_with (first | (go_at_call 15; refine (state_ _ _ _ _ (by assumption)).mono ?_; rintro e w' ⟨rfl, rfl⟩) | (go_at_call 16; refine (why_ _ _ _ _ (by assumption)).mono ?_; rintro e w' ⟨rfl, rfl⟩))
          go_ret
          exact ⟨rfl, hB⟩
      · clear hgo
        by_cases h4 : (a == 4) = true
        · have t3 := t1 h4
          go_wp2_with (first | (go_at_call 15; refine (state_ _ _ _ _ (by assumption)).mono ?_; rintro e w' ⟨rfl, rfl⟩) | (go_at_call 16; refine (why_ _ _ _ _ (by assumption)).mono ?_; rintro e w' ⟨rfl, rfl⟩))
          go_ret
          exact ⟨rfl, hB⟩
        · have h4 : (a == 4) = false := by simpa using h4
          go_wp2_with (first | (go_at_call 15; refine (state_ _ _ _ _ (by assumption)).mono ?_; rintro e w' ⟨rfl, rfl⟩) | (go_at_call 16; refine (why_ _ _ _ _ (by assumption)).mono ?_; rintro e w' ⟨rfl, rfl⟩))
          go_ret
          exact ⟨rfl, hB⟩
end Go.Proofs.Ytkicffapbcnkbaa
