/- Names: the names' numbers. -/
import Derived.Test.YtneomofldjhpjaaKeep
import Derived.Test.YtneomofldjhpjaaRng
import Derived.Great.BuildSlice
set_option linter.all false
namespace Go.Proofs.Ytneomofldjhpjaa
open Go.ChangeShapes Go.WideShapes Go.ChangeAt Go.RowKit
attribute [local go_sem] setCell_drewN alloc_drewN
theorem num_ (x : Int) (w : World) : Calls Try.prog 7 #[.int .i64 x] w fun e w' => e = .returned (.int .i64 x) ∧ w = w' := by
  go_enter Try.func7, Try.ntmps7
  go_wp2
  go_ret
  exact ⟨rfl, rfl⟩
def L1 : List Int := [0, 1, 2, 3, 4, 5, 6, 7, 8, 9, 10, 11, 12, 13]
def L2 : List Int := 0 :: 1 :: 2 :: 3 :: 4 :: 5 :: 6 :: 7 :: 8 :: 9 :: 10 :: 11 :: 12 :: 13 :: 0 :: 1 :: 2 :: 3 :: 4 :: 5 :: 6 :: 7 :: 8 :: 9 :: 10 :: 11 :: 12 :: 13 :: 0 :: 1 :: 2 :: 3 :: 4 :: 5 :: 6 :: 7 :: 8 :: 9 :: 1 :: 1 :: 4 :: 8 :: 32 :: 1 :: 2 :: 3 :: 4 :: 5 :: 6 :: 1 :: 2 :: 2147483647 :: 65536 :: 4096 :: 16384 :: 16777215 :: 65536 :: 65536 :: 32768 :: 1048576 :: 16 :: 4 :: 100 :: 65535 :: 1099511627776 :: 4096 :: 1048576 :: 1048576 :: 0 :: 1 :: 2 :: 3 :: 4 :: 0 :: 1 :: 2 :: 3 :: 1 :: 2 :: 3 :: 4 :: 5 :: 0 :: 1 :: 2 :: 3 :: 0 :: 1 :: 2 :: 3 :: 1 :: 2 :: 3 :: 4 :: 5 :: 6 :: 7 :: 8 :: 9 :: 10 :: 11 :: 12 :: 1 :: 2 :: 3 :: 4 :: 5 :: 0 :: 1 :: 2 :: 3 :: 1 :: 2 :: 3 :: 13 :: 14 :: 15 :: 16 :: 17 :: 0 :: 1 :: 2 :: 3 :: 4 :: 5 :: 6 :: 0 :: 1 :: 2 :: 3 :: 4 :: 5 :: 6 :: 0 :: 1 :: 1 :: 2 :: 3 :: 4 :: 5 :: 6 :: 7 :: 8 :: 9 :: []
theorem at_ {w : World} {b : Nat} {t : TypeId} {L : List Int} (h : Blk w b t (L.map (Value.int .i64 ·)).toArray) (k : Nat) (hk : k < L.length) : w.cell? ⟨b, k, none⟩ = some (.int .i64 (L.getD k 0)) := by
  rw [h.cell k]
  simp [List.getD_eq_getElem?_getD, List.getElem?_eq_getElem hk]
theorem wp_flat {P : Program} {o : Oper} {a : Act} {w : World} {K : Act → World → Prop} {Q : Exit → Act → World → Prop} (t e : TypeId) (len : Nat) (parts : Array (Nat × Operand)) (ho : o.op = .buildSlice t len parts)
    (k : IntKind) (zs : List Int)
    (hu : P.underlying t = some (.slice e)) (hsz : (P.info? e).map (·.size) = some 1) (hz : ((P.info? e).bind (·.zero)).isSome = true)
    (hlen : len = zs.length) (hpos : 0 < len) (hsmall : len ≤ 2 ^ 24)
    (hparts : parts.toList = (zs.zipIdx 0).map fun x => (x.2, Operand.const (Value.int k x.1)))
    (h : K (a.put o.dst (.slice (some ⟨w.heap.size, 0, none⟩) len len)) (w.alloc (.cells (zs.map (Value.int k)).toArray e))) : o.wp P a w K Q := by
  cases hie : P.info? e with
  | none => simp [hie] at hsz
  | some ie =>
    simp only [hie, Option.map_some, Option.some.injEq, Option.bind_some] at hsz hz
    obtain ⟨z, hzz⟩ := Option.isSome_iff_exists.1 hz
    refine wp_buildSlice t e len parts ho _ ie z hu hie hzz (by rw [hsz]; omega) (by rw [hsz]; omega) ?_ h
    rw [parts_eval a parts k zs hparts, hsz]
    exact Great.fill_flat _ _ (fun v hv => by obtain ⟨n, _, rfl⟩ := List.mem_map.1 hv; rfl) (by simp [hlen])
set_option maxRecDepth 100000 in
set_option maxHeartbeats 8000000 in
theorem names (w : World) : Calls Try.prog 3 #[] w fun e w' => e = .returned (.bool true) ∧ Below w.heap.size w w' := by
  go_enter Try.func3, Try.ntmps3
  go_wp2_with (go_at_call 7; refine (num_ _ _).mono ?_; rintro e w' ⟨rfl, rfl⟩)
  have y0 := Blk.new w 3 (List.toArray (Value.int .i64 0 :: Value.int .i64 1 :: Value.int .i64 2 :: Value.int .i64 3 :: Value.int .i64 4 :: Value.int .i64 5 :: Value.int .i64 6 :: Value.int .i64 7 :: Value.int .i64 8 :: Value.int .i64 9 :: Value.int .i64 10 :: Value.int .i64 11 :: Value.int .i64 12 :: Value.int .i64 13 :: []))
  have y1 := Blk.new (World.alloc w (.cells (List.toArray (Value.int .i64 0 :: Value.int .i64 1 :: Value.int .i64 2 :: Value.int .i64 3 :: Value.int .i64 4 :: Value.int .i64 5 :: Value.int .i64 6 :: Value.int .i64 7 :: Value.int .i64 8 :: Value.int .i64 9 :: Value.int .i64 10 :: Value.int .i64 11 :: Value.int .i64 12 :: Value.int .i64 13 :: [])) 3)) 3 (List.toArray (Value.int .i64 0 :: Value.int .i64 1 :: Value.int .i64 2 :: Value.int .i64 3 :: Value.int .i64 4 :: Value.int .i64 5 :: Value.int .i64 6 :: Value.int .i64 7 :: Value.int .i64 8 :: Value.int .i64 9 :: Value.int .i64 10 :: Value.int .i64 11 :: Value.int .i64 12 :: Value.int .i64 13 :: []))
  have y0 := y0.alloc (.cells (List.toArray (Value.int .i64 0 :: Value.int .i64 1 :: Value.int .i64 2 :: Value.int .i64 3 :: Value.int .i64 4 :: Value.int .i64 5 :: Value.int .i64 6 :: Value.int .i64 7 :: Value.int .i64 8 :: Value.int .i64 9 :: Value.int .i64 10 :: Value.int .i64 11 :: Value.int .i64 12 :: Value.int .i64 13 :: [])) 3)
  have kk := ((Keep.refl [] w).alloc (.cells (List.toArray (Value.int .i64 0 :: Value.int .i64 1 :: Value.int .i64 2 :: Value.int .i64 3 :: Value.int .i64 4 :: Value.int .i64 5 :: Value.int .i64 6 :: Value.int .i64 7 :: Value.int .i64 8 :: Value.int .i64 9 :: Value.int .i64 10 :: Value.int .i64 11 :: Value.int .i64 12 :: Value.int .i64 13 :: [])) 3)).alloc (.cells (List.toArray (Value.int .i64 0 :: Value.int .i64 1 :: Value.int .i64 2 :: Value.int .i64 3 :: Value.int .i64 4 :: Value.int .i64 5 :: Value.int .i64 6 :: Value.int .i64 7 :: Value.int .i64 8 :: Value.int .i64 9 :: Value.int .i64 10 :: Value.int .i64 11 :: Value.int .i64 12 :: Value.int .i64 13 :: [])) 3)
  obtain ⟨S1, hS⟩ : ∃ S, S = (World.alloc (World.alloc w (.cells (List.toArray (Value.int .i64 0 :: Value.int .i64 1 :: Value.int .i64 2 :: Value.int .i64 3 :: Value.int .i64 4 :: Value.int .i64 5 :: Value.int .i64 6 :: Value.int .i64 7 :: Value.int .i64 8 :: Value.int .i64 9 :: Value.int .i64 10 :: Value.int .i64 11 :: Value.int .i64 12 :: Value.int .i64 13 :: [])) 3)) (.cells (List.toArray (Value.int .i64 0 :: Value.int .i64 1 :: Value.int .i64 2 :: Value.int .i64 3 :: Value.int .i64 4 :: Value.int .i64 5 :: Value.int .i64 6 :: Value.int .i64 7 :: Value.int .i64 8 :: Value.int .i64 9 :: Value.int .i64 10 :: Value.int .i64 11 :: Value.int .i64 12 :: Value.int .i64 13 :: [])) 3)) := ⟨_, rfl⟩
  rw [← hS] at y0 y1 kk ⊢
  clear hS
  simp only [World.size_alloc] at y1
  have at0 := fun k (hk : k < 14) => at_ (L := L1) y0 k hk
  have at1 := fun k (hk : k < 14) => at_ (L := L1) y1 k hk
  clear y0 y1
  have at0 := Lib.hid at0
  have at1 := Lib.hid at1
  have kb1 := kk
  clear kk
  go_loopw [3] (fun i wr => ∃ k m : Nat, i = .int .i64 k ∧ k ≤ 14 ∧ wr = S1.drewN m) (fun i _ => 14 - (intOf i).toNat)
  case atStart => exact ⟨0, 0, rfl, by omega, rfl⟩
  case round =>
    obtain ⟨k, m1, rfl, hk, rfl⟩ := hrel
    by_cases hlt : k < 14
    · have e0 := at0.out k hlt
      have e1 := at1.out k hlt
      have k0 : (0 : Int) ≤ (k : Int) := by omega
      have k1 : (k : Int) < 14 := by omega
      obtain ⟨x, hx⟩ : ∃ x, x = L1.getD k 0 := ⟨_, rfl⟩
      rw [← hx] at e0 e1
      clear hx
      go_wp2
      go_quiet (fail)
      go_wp2
      go_roundw
      case rel => exact ⟨k + 1, _, by go_num, by omega, rfl⟩
      case measure => simp [intOf]; omega
    · go_wp2
      refine wp_flat 24 3 144 _ rfl .i64 L2 Try.underlying24 (by kernel_rfl) (by kernel_rfl) rfl (by omega) (by omega) (by kernel_rfl) ?_
      go_wp2
      refine wp_flat 24 3 144 _ rfl .i64 L2 Try.underlying24 (by kernel_rfl) (by kernel_rfl) rfl (by omega) (by omega) (by kernel_rfl) ?_
      go_wp2
      have y0 := Blk.new S1 3 (L2.map (Value.int .i64)).toArray
      have y1 := Blk.new (World.alloc S1 (.cells (L2.map (Value.int .i64)).toArray 3)) 3 (L2.map (Value.int .i64)).toArray
      have y0 := y0.alloc (.cells (L2.map (Value.int .i64)).toArray 3)
      have kk := ((Keep.refl [] S1).alloc (.cells (L2.map (Value.int .i64)).toArray 3)).alloc (.cells (L2.map (Value.int .i64)).toArray 3)
      obtain ⟨S2, hS⟩ : ∃ S, S = (World.alloc (World.alloc S1 (.cells (L2.map (Value.int .i64)).toArray 3)) (.cells (L2.map (Value.int .i64)).toArray 3)) := ⟨_, rfl⟩
      rw [← hS] at y0 y1 kk ⊢
      clear hS
      simp only [World.size_alloc] at y1
      have at0 := fun k (hk : k < 144) => at_ (L := L2) y0 k hk
      have at1 := fun k (hk : k < 144) => at_ (L := L2) y1 k hk
      clear y0 y1
      have at0 := Lib.hid at0
      have at1 := Lib.hid at1
      have kb2 := (kb1.step kk (by simp))
      clear kk kb1
      go_loopw [6] (fun i wr => ∃ k m : Nat, i = .int .i64 k ∧ k ≤ 144 ∧ wr = S2.drewN m) (fun i _ => 144 - (intOf i).toNat)
      case atStart => exact ⟨0, m1, rfl, by omega, rfl⟩
      case round =>
        obtain ⟨k, m2, rfl, hk, rfl⟩ := hrel
        by_cases hlt : k < 144
        · have e0 := at0.out k hlt
          have e1 := at1.out k hlt
          have k0 : (0 : Int) ≤ (k : Int) := by omega
          have k1 : (k : Int) < 144 := by omega
          obtain ⟨x, hx⟩ : ∃ x, x = L2.getD k 0 := ⟨_, rfl⟩
          rw [← hx] at e0 e1
          clear hx
          go_wp2
          go_quiet (fail)
          go_wp2
          go_roundw
          case rel => exact ⟨k + 1, _, by go_num, by omega, rfl⟩
          case measure => simp [intOf]; omega
        · go_wp2
          go_ret
          exact ⟨rfl, (kb2.drewN _).below (Nat.le_refl _) (by simp)⟩
end Go.Proofs.Ytneomofldjhpjaa
