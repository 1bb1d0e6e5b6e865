/- timer: both go over what is due, arming on the way. -/
import Derived.Test.YtneomofldjhpjaaLaw2
import Derived.Laws.ResultCell
set_option linter.all false
namespace Go.Proofs.Ytneomofldjhpjaa
open Go.ChangeShapes Go.WideShapes Go.ChangeAt Go.RowKit
attribute [local go_sem] setCell_drewN alloc_drewN Oper.semAt_some
open Classical in
noncomputable def armE (k x : Int) : Int := if ArmOk k x then 0 else 1
open Classical in
noncomputable def armD (D : List Int) (k x : Int) : List Int := if ArmOk k x then D.set k.toNat x else D
theorem armD_ok {D : List Int} (h : OkD D) (k x : Int) : OkD (armD D k x) := by
  unfold armD
  split
  · rename_i ha
    unfold ArmOk at ha
    exact h.set_ (by omega) (by omega)
  · exact h
section
variable {w : World} {D : List Int} {b : Nat}
theorem arm_any (hD : OkD D) (bd : Blk w b 51 (encP D).toArray) (k x : Int) :
    Calls Try.prog 11 #[.pointer (some ⟨b, 0, none⟩), .int .i64 k, .int .i64 x] w fun e w' => e = .returned (.int .i64 (armE k x)) ∧ Blk w' b 51 (encP (armD D k x)).toArray ∧ Keep [b] w w' := by
  unfold armE armD
  by_cases h : ArmOk k x
  · rw [if_pos h, if_pos h]
    unfold ArmOk at h
    obtain ⟨n, rfl⟩ : ∃ n : Nat, k = n := ⟨k.toNat, by omega⟩
    refine (arm_yes w hD bd (k := n) (x := x) (by omega) (by omega) (by omega) (by omega)).mono ?_
    rintro e w' ⟨rfl, h1, h2⟩
    exact ⟨rfl, h1, Keep.of_only h2⟩
  · rw [if_neg h, if_neg h]
    refine (arm_no w bd h).mono ?_
    rintro e w' ⟨rfl, rfl⟩
    exact ⟨rfl, bd, Keep.refl _ _⟩
theorem rarm_any (hD : OkD D) (bd : Blk w b 54 (encR D).toArray) (k x : Int) :
    Calls Try.prog 12 #[.pointer (some ⟨b, 0, none⟩), .int .i64 k, .int .i64 x] w fun e w' => e = .returned (.int .i64 (armE k x)) ∧ Blk w' b 54 (encR (armD D k x)).toArray ∧ Keep [b] w w' := by
  unfold armE armD
  by_cases h : ArmOk k x
  · rw [if_pos h, if_pos h]
    unfold ArmOk at h
    obtain ⟨n, rfl⟩ : ∃ n : Nat, k = n := ⟨k.toNat, by omega⟩
    refine (rarm_yes w hD bd (k := n) (x := x) (by omega) (by omega) (by omega) (by omega)).mono ?_
    rintro e w' ⟨rfl, h1, h2⟩
    exact ⟨rfl, h1, Keep.of_only h2⟩
  · rw [if_neg h, if_neg h]
    refine (rarm_no w bd h).mono ?_
    rintro e w' ⟨rfl, rfl⟩
    exact ⟨rfl, bd, Keep.refl _ _⟩
end
theorem cnt_set {sn : List Bool} : ∀ {R : Nat}, R < sn.length → sn.getD R false = false → (sn.set R true).countP (·) = sn.countP (·) + 1 := by
  induction sn with
  | nil => intro R h; simp at h
  | cons b bs ih =>
    intro R h h0
    cases R with
    | zero => simp at h0; subst h0; simp
    | succ R =>
      have := ih (R := R) (by simpa using h) (by simpa using h0)
      simp only [List.set_cons_succ, List.countP_cons]
      omega
/-- the two sets, what has come, and the loop's own blocks -/
structure DJ (S W : World) (s0 sb rb : Nat) (now most : Int) (M : Option Addr) (ml mc : Nat) (D : List Int) (sn : List Bool) (rec_ : Obj) : Prop where
  rbk : Blk W rb 54 (encR D).toArray
  p5 : Blk W s0 27 #[.pointer (some ⟨sb, 0, none⟩)]
  p6 : Blk W (s0 + 1) 29 #[.pointer (some ⟨rb, 0, none⟩)]
  p7 : Blk W (s0 + 1 + 1) 2 #[.int .i64 now]
  p8 : Blk W (s0 + 1 + 1 + 1) 3 #[.int .i64 most]
  p9 : Blk W (s0 + 1 + 1 + 1 + 1) 26 #[.slice M ml mc]
  p10 : Blk W (s0 + 1 + 1 + 1 + 1 + 1) 4 #[.bool false]
  came : Blk W (s0 + 1 + 1 + 1 + 1 + 1 + 1) 4 (sn.map (Value.bool ·)).toArray
  p11 : Blk W (s0 + 1 + 1 + 1 + 1 + 1 + 1 + 1) 56 #[.slice (some ⟨s0 + 1 + 1 + 1 + 1 + 1 + 1, 0, none⟩) 6 6]
  p12 : Blk W (s0 + 1 + 1 + 1 + 1 + 1 + 1 + 1 + 1) 3 #[.int .i64 (sn.countP (·) : Nat)]
  rs : Rest S W [sb, rb, s0 + 1 + 1 + 1 + 1 + 1, s0 + 1 + 1 + 1 + 1 + 1 + 1, s0 + 1 + 1 + 1 + 1 + 1 + 1 + 1 + 1] rec_
set_option maxRecDepth 100000 in
set_option maxHeartbeats 8000000 in
theorem due_ok (w : World) {D : List Int} {sb rb B0 : Nat} (hD : OkD D) (bd : Blk w sb 51 (encP D).toArray) (br : Blk w rb 54 (encR D).toArray) (now most : Int) (M : Option Addr) (ml mc : Nat) (hml : ml ≤ 9223372036854775807)
    (hm : ∀ i, i < ml → ∃ b off kd x, M = some ⟨b, off, none⟩ ∧ b < B0 ∧ w.cell? ⟨b, off + i * 3 + 1, none⟩ = some (.int .i64 kd) ∧ w.cell? ⟨b, off + i * 3 + 2, none⟩ = some (.int .i64 x)) (h1 : B0 ≤ sb) (h2 : B0 ≤ rb) :
    Calls Try.prog 15 #[.pointer (some ⟨sb, 0, none⟩), .pointer (some ⟨rb, 0, none⟩), .int .i64 now, .int .i64 most, .slice M ml mc] w fun e w' => e = .returned (.bool true) ∧ ∃ D', OkD D' ∧ Blk w' sb 51 (encP D').toArray ∧ Blk w' rb 54 (encR D').toArray ∧ Keep [sb, rb] w w' := by
  have hfe := fun (w : World) (a b : Array Value) => run_eql_func_nil (P := Try.prog) w 40 (.func 25) a b Try.underlying40
  have hmk : ∀ w, (Instr.makeSlice 56 (.int .i64 6) (.int .i64 6)).run Try.prog w = .ok (.slice (some ⟨w.heap.size, 0, none⟩) 6 6) (w.alloc (.cells #[.bool false, .bool false, .bool false, .bool false, .bool false, .bool false] 4)) := fun _ => by kernel_rfl
  refine rng_func Try.func15 rfl ?_
  simp only [Try.ntmps15, List.size_toArray, List.length_cons, List.length_nil, Nat.reduceAdd, Nat.reduceSub, Array.replicate_succ, Array.replicate_zero, List.push_toArray, List.append_toArray, List.nil_append, List.cons_append]
  go_wp2_with (go_at_call 17; refine (due_ _ (some ⟨sb, 0, none⟩) now).mono ?_; rintro e w' ⟨rfl, rfl⟩)
  have y0 := Blk.new w 27 #[.pointer (some ⟨sb, 0, none⟩)]
  have y1 := Blk.new (w.alloc (.cells #[.pointer (some ⟨sb, 0, none⟩)] 27)) 29 #[.pointer (some ⟨rb, 0, none⟩)]
  have y2 := Blk.new ((w.alloc (.cells #[.pointer (some ⟨sb, 0, none⟩)] 27)).alloc (.cells #[.pointer (some ⟨rb, 0, none⟩)] 29)) 2 #[.int .i64 now]
  have y3 := Blk.new (((w.alloc (.cells #[.pointer (some ⟨sb, 0, none⟩)] 27)).alloc (.cells #[.pointer (some ⟨rb, 0, none⟩)] 29)).alloc (.cells #[.int .i64 now] 2)) 3 #[.int .i64 most]
  have y4 := Blk.new ((((w.alloc (.cells #[.pointer (some ⟨sb, 0, none⟩)] 27)).alloc (.cells #[.pointer (some ⟨rb, 0, none⟩)] 29)).alloc (.cells #[.int .i64 now] 2)).alloc (.cells #[.int .i64 most] 3)) 26 #[.slice M ml mc]
  have y5 := Blk.new (((((w.alloc (.cells #[.pointer (some ⟨sb, 0, none⟩)] 27)).alloc (.cells #[.pointer (some ⟨rb, 0, none⟩)] 29)).alloc (.cells #[.int .i64 now] 2)).alloc (.cells #[.int .i64 most] 3)).alloc (.cells #[.slice M ml mc] 26)) 4 #[.bool false]
  have y6 := Blk.new ((((((w.alloc (.cells #[.pointer (some ⟨sb, 0, none⟩)] 27)).alloc (.cells #[.pointer (some ⟨rb, 0, none⟩)] 29)).alloc (.cells #[.int .i64 now] 2)).alloc (.cells #[.int .i64 most] 3)).alloc (.cells #[.slice M ml mc] 26)).alloc (.cells #[.bool false] 4)) 4 #[.bool false, .bool false, .bool false, .bool false, .bool false, .bool false]
  have y7 := Blk.new (((((((w.alloc (.cells #[.pointer (some ⟨sb, 0, none⟩)] 27)).alloc (.cells #[.pointer (some ⟨rb, 0, none⟩)] 29)).alloc (.cells #[.int .i64 now] 2)).alloc (.cells #[.int .i64 most] 3)).alloc (.cells #[.slice M ml mc] 26)).alloc (.cells #[.bool false] 4)).alloc (.cells #[.bool false, .bool false, .bool false, .bool false, .bool false, .bool false] 4)) 56 #[.slice (some ⟨w.heap.size + 1 + 1 + 1 + 1 + 1 + 1, 0, none⟩) 6 6]
  have y8 := Blk.new ((((((((w.alloc (.cells #[.pointer (some ⟨sb, 0, none⟩)] 27)).alloc (.cells #[.pointer (some ⟨rb, 0, none⟩)] 29)).alloc (.cells #[.int .i64 now] 2)).alloc (.cells #[.int .i64 most] 3)).alloc (.cells #[.slice M ml mc] 26)).alloc (.cells #[.bool false] 4)).alloc (.cells #[.bool false, .bool false, .bool false, .bool false, .bool false, .bool false] 4)).alloc (.cells #[.slice (some ⟨w.heap.size + 1 + 1 + 1 + 1 + 1 + 1, 0, none⟩) 6 6] 56)) 3 #[.int .i64 0]
  have y9 := Blk.new (((((((((w.alloc (.cells #[.pointer (some ⟨sb, 0, none⟩)] 27)).alloc (.cells #[.pointer (some ⟨rb, 0, none⟩)] 29)).alloc (.cells #[.int .i64 now] 2)).alloc (.cells #[.int .i64 most] 3)).alloc (.cells #[.slice M ml mc] 26)).alloc (.cells #[.bool false] 4)).alloc (.cells #[.bool false, .bool false, .bool false, .bool false, .bool false, .bool false] 4)).alloc (.cells #[.slice (some ⟨w.heap.size + 1 + 1 + 1 + 1 + 1 + 1, 0, none⟩) 6 6] 56)).alloc (.cells #[.int .i64 0] 3)) 27 #[.pointer (some ⟨sb, 0, none⟩)]
  have y10 := Blk.new ((((((((((w.alloc (.cells #[.pointer (some ⟨sb, 0, none⟩)] 27)).alloc (.cells #[.pointer (some ⟨rb, 0, none⟩)] 29)).alloc (.cells #[.int .i64 now] 2)).alloc (.cells #[.int .i64 most] 3)).alloc (.cells #[.slice M ml mc] 26)).alloc (.cells #[.bool false] 4)).alloc (.cells #[.bool false, .bool false, .bool false, .bool false, .bool false, .bool false] 4)).alloc (.cells #[.slice (some ⟨w.heap.size + 1 + 1 + 1 + 1 + 1 + 1, 0, none⟩) 6 6] 56)).alloc (.cells #[.int .i64 0] 3)).alloc (.cells #[.pointer (some ⟨sb, 0, none⟩)] 27)) 2 #[.int .i64 now]
  simp only [World.size_alloc] at y0 y1 y2 y3 y4 y5 y6 y7 y8 y9 y10
  have z0 := ((((((((((y0.alloc (.cells #[.pointer (some ⟨rb, 0, none⟩)] 29)).alloc (.cells #[.int .i64 now] 2)).alloc (.cells #[.int .i64 most] 3)).alloc (.cells #[.slice M ml mc] 26)).alloc (.cells #[.bool false] 4)).alloc (.cells #[.bool false, .bool false, .bool false, .bool false, .bool false, .bool false] 4)).alloc (.cells #[.slice (some ⟨w.heap.size + 1 + 1 + 1 + 1 + 1 + 1, 0, none⟩) 6 6] 56)).alloc (.cells #[.int .i64 0] 3)).alloc (.cells #[.pointer (some ⟨sb, 0, none⟩)] 27)).alloc (.cells #[.int .i64 now] 2))
  have z1 := (((((((((y1.alloc (.cells #[.int .i64 now] 2)).alloc (.cells #[.int .i64 most] 3)).alloc (.cells #[.slice M ml mc] 26)).alloc (.cells #[.bool false] 4)).alloc (.cells #[.bool false, .bool false, .bool false, .bool false, .bool false, .bool false] 4)).alloc (.cells #[.slice (some ⟨w.heap.size + 1 + 1 + 1 + 1 + 1 + 1, 0, none⟩) 6 6] 56)).alloc (.cells #[.int .i64 0] 3)).alloc (.cells #[.pointer (some ⟨sb, 0, none⟩)] 27)).alloc (.cells #[.int .i64 now] 2))
  have z2 := ((((((((y2.alloc (.cells #[.int .i64 most] 3)).alloc (.cells #[.slice M ml mc] 26)).alloc (.cells #[.bool false] 4)).alloc (.cells #[.bool false, .bool false, .bool false, .bool false, .bool false, .bool false] 4)).alloc (.cells #[.slice (some ⟨w.heap.size + 1 + 1 + 1 + 1 + 1 + 1, 0, none⟩) 6 6] 56)).alloc (.cells #[.int .i64 0] 3)).alloc (.cells #[.pointer (some ⟨sb, 0, none⟩)] 27)).alloc (.cells #[.int .i64 now] 2))
  have z3 := (((((((y3.alloc (.cells #[.slice M ml mc] 26)).alloc (.cells #[.bool false] 4)).alloc (.cells #[.bool false, .bool false, .bool false, .bool false, .bool false, .bool false] 4)).alloc (.cells #[.slice (some ⟨w.heap.size + 1 + 1 + 1 + 1 + 1 + 1, 0, none⟩) 6 6] 56)).alloc (.cells #[.int .i64 0] 3)).alloc (.cells #[.pointer (some ⟨sb, 0, none⟩)] 27)).alloc (.cells #[.int .i64 now] 2))
  have z4 := ((((((y4.alloc (.cells #[.bool false] 4)).alloc (.cells #[.bool false, .bool false, .bool false, .bool false, .bool false, .bool false] 4)).alloc (.cells #[.slice (some ⟨w.heap.size + 1 + 1 + 1 + 1 + 1 + 1, 0, none⟩) 6 6] 56)).alloc (.cells #[.int .i64 0] 3)).alloc (.cells #[.pointer (some ⟨sb, 0, none⟩)] 27)).alloc (.cells #[.int .i64 now] 2))
  have z5 := (((((y5.alloc (.cells #[.bool false, .bool false, .bool false, .bool false, .bool false, .bool false] 4)).alloc (.cells #[.slice (some ⟨w.heap.size + 1 + 1 + 1 + 1 + 1 + 1, 0, none⟩) 6 6] 56)).alloc (.cells #[.int .i64 0] 3)).alloc (.cells #[.pointer (some ⟨sb, 0, none⟩)] 27)).alloc (.cells #[.int .i64 now] 2))
  have z6 := ((((y6.alloc (.cells #[.slice (some ⟨w.heap.size + 1 + 1 + 1 + 1 + 1 + 1, 0, none⟩) 6 6] 56)).alloc (.cells #[.int .i64 0] 3)).alloc (.cells #[.pointer (some ⟨sb, 0, none⟩)] 27)).alloc (.cells #[.int .i64 now] 2))
  have z7 := (((y7.alloc (.cells #[.int .i64 0] 3)).alloc (.cells #[.pointer (some ⟨sb, 0, none⟩)] 27)).alloc (.cells #[.int .i64 now] 2))
  have z8 := ((y8.alloc (.cells #[.pointer (some ⟨sb, 0, none⟩)] 27)).alloc (.cells #[.int .i64 now] 2))
  have z9 := (y9.alloc (.cells #[.int .i64 now] 2))
  have z10 := y10
  have KS := ((((((((((((Keep.refl [] w).alloc (.cells #[.pointer (some ⟨sb, 0, none⟩)] 27)).alloc (.cells #[.pointer (some ⟨rb, 0, none⟩)] 29)).alloc (.cells #[.int .i64 now] 2)).alloc (.cells #[.int .i64 most] 3)).alloc (.cells #[.slice M ml mc] 26)).alloc (.cells #[.bool false] 4)).alloc (.cells #[.bool false, .bool false, .bool false, .bool false, .bool false, .bool false] 4)).alloc (.cells #[.slice (some ⟨w.heap.size + 1 + 1 + 1 + 1 + 1 + 1, 0, none⟩) 6 6] 56)).alloc (.cells #[.int .i64 0] 3)).alloc (.cells #[.pointer (some ⟨sb, 0, none⟩)] 27)).alloc (.cells #[.int .i64 now] 2))
  obtain ⟨S, hS⟩ : ∃ S, S = (((((((((((w.alloc (.cells #[.pointer (some ⟨sb, 0, none⟩)] 27)).alloc (.cells #[.pointer (some ⟨rb, 0, none⟩)] 29)).alloc (.cells #[.int .i64 now] 2)).alloc (.cells #[.int .i64 most] 3)).alloc (.cells #[.slice M ml mc] 26)).alloc (.cells #[.bool false] 4)).alloc (.cells #[.bool false, .bool false, .bool false, .bool false, .bool false, .bool false] 4)).alloc (.cells #[.slice (some ⟨w.heap.size + 1 + 1 + 1 + 1 + 1 + 1, 0, none⟩) 6 6] 56)).alloc (.cells #[.int .i64 0] 3)).alloc (.cells #[.pointer (some ⟨sb, 0, none⟩)] 27)).alloc (.cells #[.int .i64 now] 2)) := ⟨_, rfl⟩
  have szS : w.heap.size + 1 + 1 + 1 + 1 + 1 + 1 + 1 + 1 + 1 + 1 + 1 ≤ S.heap.size := by rw [hS]; simp
  rw [← hS] at KS z0 z1 z2 z3 z4 z5 z6 z7 z8 z9 z10 ⊢
  clear hS y0 y1 y2 y3 y4 y5 y6 y7 y8 y9 y10
  have hsbw := bd.lt
  have hrbw := br.lt
  have bdS := bd.keep KS (by simp)
  have brS := br.keep KS (by simp)
  have hsr : sb ≠ rb := bd.ne_ br (by decide)
  obtain ⟨c1, hc1⟩ : ∃ c, c = w.heap.size + 1 + 1 + 1 + 1 + 1 + 1 + 1 + 1 + 1 := ⟨_, rfl⟩
  have hc1' : w.heap.size + 1 + 1 + 1 + 1 + 1 + 1 + 1 + 1 < c1 := by omega
  have hc1s : c1 + 1 < S.heap.size := by omega
  rw [← hc1] at z9 z10 ⊢
  clear hc1
  refine rng_stmt' (n := 5) (gf := 25) (lb := #[.pointer (some ⟨c1, 0, none⟩), .pointer (some ⟨c1 + 1, 0, none⟩)]) (by first | rfl | simp) (enters_of Try.func25 (by kernel_rfl) rfl) ?_
  intro rc hrc W1 hW1
  have hmS : ∀ i, i < ml → ∃ b off kd x, M = some ⟨b, off, none⟩ ∧ b < B0 ∧ w.cell? ⟨b, off + i * 3 + 1, none⟩ = some (.int .i64 kd) ∧ w.cell? ⟨b, off + i * 3 + 2, none⟩ = some (.int .i64 x) := hm
  refine (dueIt (m := 4) (sb := sb) (c1 := c1) (c2 := c1 + 1) (now := now) (fun q D sn W => Feed W sb c1 (c1 + 1) q now D sn ∧ DJ S W w.heap.size sb rb now most M ml mc D sn (.loop (rc .ready none)) ∧ S.heap.size + 1 < q)
    (fun W => (∃ D', OkD D' ∧ Blk W sb 51 (encP D').toArray ∧ Blk W rb 54 (encR D').toArray) ∧ Blk W (w.heap.size + 1 + 1 + 1 + 1 + 1) 4 #[.bool true] ∧ Rest S W [sb, rb, w.heap.size + 1 + 1 + 1 + 1 + 1, w.heap.size + 1 + 1 + 1 + 1 + 1 + 1, w.heap.size + 1 + 1 + 1 + 1 + 1 + 1 + 1 + 1] (.loop (rc .done (some .ret)))) (fun q D sn W ⟨h, _⟩ => h) ?round D W1 ?k1 ?start).mono ?fin
  case k1 =>
    rw [hW1]; exact (z9.alloc _).alloc _
  case start =>
    have KW : Keep [] S W1 := by rw [hW1]; exact ((Keep.refl [] S).alloc _).alloc _
    have KW2 := KW.alloc (.cells (noBut.map (Value.bool ·)).toArray 59)
    have r1 : W1.heap[S.heap.size + 1]? = some (.loop (rc .ready none)) := by rw [hW1]; have := heap_alloc_new (S.alloc (.deferred (some []))) (.loop (rc .ready none)); simpa using this
    have r2 : W1.heap[S.heap.size]? = some (.deferred (some [])) := by rw [hW1]; exact (Below.heap_alloc _ _ _ (by simp)).trans (heap_alloc_new S (.deferred (some [])))
    have sz1 : W1.heap.size = S.heap.size + 1 + 1 := by rw [hW1]; simp
    have q0 := Blk.new W1 59 (noBut.map (Value.bool ·)).toArray
    exact ⟨⟨hD, rfl, bdS.keep KW2 (by simp), z9.keep KW2 (by simp), z10.keep KW2 (by simp), q0⟩,
      ⟨brS.keep KW2 (by simp), z0.keep KW2 (by simp), z1.keep KW2 (by simp), z2.keep KW2 (by simp), z3.keep KW2 (by simp), z4.keep KW2 (by simp), z5.keep KW2 (by simp), z6.keep KW2 (by simp), z7.keep KW2 (by simp), z8.keep KW2 (by simp),
      ⟨(Below.heap_alloc W1 _ _ (Array.getElem?_eq_some_iff.1 r1).1).trans r1, (Below.heap_alloc W1 _ _ (Array.getElem?_eq_some_iff.1 r2).1).trans r2, KW2.more (by simp)⟩⟩, by omega⟩
  case fin =>
    rintro e W' ⟨⟨vr, rfl⟩, h⟩
    clear hrc hW1
    have fin : ∀ (W5 : World) (D' : List Int), OkD D' → Blk W5 sb 51 (encP D').toArray → Blk W5 rb 54 (encR D').toArray → Keep [sb, rb, w.heap.size + 1 + 1 + 1 + 1 + 1, w.heap.size + 1 + 1 + 1 + 1 + 1 + 1, w.heap.size + 1 + 1 + 1 + 1 + 1 + 1 + 1 + 1] S W5 →
        ∃ D', OkD D' ∧ Blk (W5.putObj S.heap.size (.deferred none)) sb 51 (encP D').toArray ∧ Blk (W5.putObj S.heap.size (.deferred none)) rb 54 (encR D').toArray ∧ Keep [sb, rb] w (W5.putObj S.heap.size (.deferred none)) := fun W5 D' o a b k =>
      have kp : Keep [S.heap.size] W5 (W5.putObj S.heap.size (.deferred none)) := (Keep.refl _ W5).putObj (.inl (by simp)) _
      ⟨D', o, a.keep kp (by simp; omega), b.keep kp (by simp; omega), ((KS.more (hs := [sb, rb]) (by simp)).step k (by simp; omega)).step kp (by simp; omega)⟩
    rcases h with ⟨q, D1, sn, W2, ⟨fd, dj, hq⟩, kW, hno⟩ | ⟨⟨D1, o1, sp1, rb1⟩, t1, rs⟩
    · have rs2 := dj.rs.go kW (by simp) (by simp) (by simp)
      refine ⟨_, .ready, none, rfl, by simp, rs2.rc, ?_⟩
      have kp : Keep [S.heap.size + 1] W2 (W'.putObj (S.heap.size + 1) (.loop (rc .exhausted none))) := (kW.more (by simp)).putObj (.inl (by simp)) _
      have rs3 := rs2.put (o' := .loop (rc .exhausted none))
      obtain ⟨W5, hW5⟩ : ∃ W5, W5 = W'.putObj (S.heap.size + 1) (.loop (rc .exhausted none)) := ⟨_, rfl⟩
      rw [← hW5] at kp rs3
      simp only [← hW5]
      clear hW5 rs2
      have y6 := (dj.p6.keep kp (by simp; omega)).cell 0
      have y7 := (dj.p7.keep kp (by simp; omega)).cell 0
      have y11 := (dj.p11.keep kp (by simp; omega)).cell 0
      have y10 := dj.p10.keep kp (by simp; omega)
      have c10 := y10.cell 0
      have f10 := y10.frozen 0
      simp at y6 y7 y11 c10
      have sp5 := fd.sp.keep kp (by simp; omega)
      have rb5 := dj.rbk.keep kp (by simp; omega)
      have cm5 := dj.came.keep kp (by simp; omega)
      go_wp2_with (go_at_call 22; refine (rdue_no _ fd.ok fd.len rb5 cm5 now hno).mono ?_; rintro e w6 ⟨rfl, m6, rfl⟩)
      have k6 : Keep [w.heap.size + 1 + 1 + 1 + 1 + 1] W5 ((W5.setCell ⟨w.heap.size + 1 + 1 + 1 + 1 + 1, 0, none⟩ (.bool true)).drewN m6) := ((Keep.refl _ W5).setCell (p := ⟨w.heap.size + 1 + 1 + 1 + 1 + 1, 0, none⟩) (.inl (by simp)) _).drewN m6
      have y6' := (y10.set_ 0 (.bool true)).drewN m6
      have sp6 := sp5.keep k6 (by simp; omega)
      have rb6 := rb5.keep k6 (by simp; omega)
      have rs6 := rs3.go k6 (by simp) (by simp; omega) (by simp; omega)
      obtain ⟨W6, hW6⟩ : ∃ W6, W6 = (W5.setCell ⟨w.heap.size + 1 + 1 + 1 + 1 + 1, 0, none⟩ (.bool true)).drewN m6 := ⟨_, rfl⟩
      rw [← hW6] at y6' sp6 rb6 rs6 ⊢
      clear hW6 k6
      have kD : Keep [S.heap.size] W6 (W6.putObj S.heap.size (.deferred none)) := (Keep.refl _ W6).putObj (.inl (by simp)) _
      have hc := (y6'.keep kD (by simp; omega)).cell 0
      simp at hc
      refine ⟨by simp, .inl ⟨_, _, rfl, run_takeDeferred rs6.df, ?_⟩⟩
      exact ⟨.bool true, by simp [results, Try.results15, go_sem, hc], rfl, fin W6 _ fd.ok sp6 rb6 rs6.kp⟩
    · refine ⟨_, .done, some .ret, rfl, by simp, rs.rc, ?_⟩
      have rs3 := rs.put (o' := .loop (rc .exhausted (some .ret)))
      have kp : Keep [S.heap.size + 1] W' (W'.putObj (S.heap.size + 1) (.loop (rc .exhausted (some .ret)))) := (Keep.refl _ W').putObj (.inl (by simp)) _
      have t5' := t1.keep kp (by simp; omega)
      have sp5 := sp1.keep kp (by simp; omega)
      have rb5 := rb1.keep kp (by simp; omega)
      obtain ⟨W5, hW5⟩ : ∃ W5, W5 = W'.putObj (S.heap.size + 1) (.loop (rc .exhausted (some .ret))) := ⟨_, rfl⟩
      rw [← hW5] at kp rs3 t5' sp5 rb5
      simp only [← hW5]
      clear hW5
      go_wp2
      have t5 : Blk W5 (w.heap.size + 1 + 1 + 1 + 1 + 1) 4 #[.bool true] := t5'
      have kD : Keep [S.heap.size] W5 (W5.putObj S.heap.size (.deferred none)) := (Keep.refl _ W5).putObj (.inl (by simp)) _
      have hc := (t5.keep kD (by simp; omega)).cell 0
      simp at hc
      refine ⟨by simp, .inl ⟨_, _, rfl, run_takeDeferred rs3.df, ?_⟩⟩
      exact ⟨.bool true, by simp [results, Try.results15, go_sem, hc], rfl, fin W5 _ o1 sp5 rb5 rs3.kp⟩
  case round =>
    rintro q D sn W R ⟨fd, dj, hq⟩ hR h1' h5 h0 hle hsR W2 kW2 fd2
    have hd2 : OkD (D.set R (-1)) := fd2.ok
    have rs2 := dj.rs.go kW2 (by first | (simp; done) | (simp; omega)) (by first | (simp; done) | (simp; omega)) (by first | (simp; done) | (simp; omega))
    refine rng_round' hrc rs2.rc rfl ?_
    clear hrc hW1
    have rs3 := rs2.put (o' := .loop (rc .busy none))
    have kB : Keep [sb, q, S.heap.size + 1] W (W2.putObj (S.heap.size + 1) (.loop (rc .busy none))) := (kW2.more (by first | (simp; done) | (simp; omega))).putObj (.inl (by simp)) _
    have kp : Keep [S.heap.size + 1] W2 (W2.putObj (S.heap.size + 1) (.loop (rc .busy none))) := (Keep.refl _ W2).putObj (.inl (by simp)) _
    have hL2 := rs2.rc
    obtain ⟨W3, hW3⟩ : ∃ W3, W3 = W2.putObj (S.heap.size + 1) (.loop (rc .busy none)) := ⟨_, rfl⟩
    rw [← hW3] at rs3 kB kp
    have fd3 := fd2.keep kp (by first | (simp; done) | (simp; omega)) (by first | (simp; done) | (simp; omega)) (by first | (simp; done) | (simp; omega)) (by first | (simp; done) | (simp; omega))
    have rb3 := dj.rbk.keep kB (by first | (simp; done) | (simp; omega))
    have u5 := dj.p5.keep kB (by first | (simp; done) | (simp; omega))
    have u6 := dj.p6.keep kB (by first | (simp; done) | (simp; omega))
    have u7 := dj.p7.keep kB (by first | (simp; done) | (simp; omega))
    have u8 := dj.p8.keep kB (by first | (simp; done) | (simp; omega))
    have u9 := dj.p9.keep kB (by first | (simp; done) | (simp; omega))
    have u10 := dj.p10.keep kB (by first | (simp; done) | (simp; omega))
    have uc := dj.came.keep kB (by first | (simp; done) | (simp; omega))
    have u11 := dj.p11.keep kB (by first | (simp; done) | (simp; omega))
    have u12 := dj.p12.keep kB (by first | (simp; done) | (simp; omega))
    have hcn := cnt_set (R := R) (by rw [fd.len]; omega) hsR
    have hcl : (sn.set R true).countP (·) ≤ 6 := by have := List.countP_le_length (p := (·)) (l := sn.set R true); rw [List.length_set, fd.len] at this; exact this
    obtain ⟨cn, hcnd⟩ : ∃ cn, cn = sn.countP (·) := ⟨_, rfl⟩
    rw [← hcnd] at u12 hcn
    have hlen := fd.len
    have okD := fd.ok
    have hsq : sb ≠ q := fd2.sp.ne_ fd2.sq (by decide)
    have hc1q : c1 ≠ q := fd2.k1.ne_ fd2.sq (by decide)
    have hrq : rb ≠ q := dj.rbk.ne_ fd.sq (by decide)
    have hpq : S.heap.size < q := by omega
    have cn0 : (0 : Int) ≤ (cn : Int) := by omega
    have cn6 : (cn : Int) ≤ 5 := by omega
    have Hcn := Lib.hid hcn
    have hR' := Lib.hid hR
    clear hcn hcl hcnd kW2 fd2 fd dj rs2 kp hR
    have y6 := u6.cell 0
    have y7 := u7.cell 0
    have y11 := u11.cell 0
    simp at y6 y7 y11
    gi_wp2
    refine ⟨hL2, ?_⟩
    rw [← hW3]
    clear hW3 hL2
    by_cases hk : cn < ml
    · obtain ⟨mb, mo, kd, x, rfl, hmb, m1, m2⟩ := hm cn hk
      have hk' : (cn : Int) < (ml : Int) := by omega
      have hszW := rs3.kp.size
      have m1' : W3.cell? ⟨mb, mo + cn * 3 + 1, none⟩ = some (.int .i64 kd) := (rs3.kp.cell (p := ⟨mb, mo + cn * 3 + 1, none⟩) (by simp; omega) (by simp; omega)).trans ((KS.cell (p := ⟨mb, mo + cn * 3 + 1, none⟩) (by simp; omega) (by simp)).trans m1)
      have m2' : W3.cell? ⟨mb, mo + cn * 3 + 2, none⟩ = some (.int .i64 x) := (rs3.kp.cell (p := ⟨mb, mo + cn * 3 + 2, none⟩) (by simp; omega) (by simp; omega)).trans ((KS.cell (p := ⟨mb, mo + cn * 3 + 2, none⟩) (by simp; omega) (by simp)).trans m2)
      by_cases hmm : (cn : Int) + 1 = most
      · skip
        have hmq : (((cn : Int) + 1) == most) = true := by simp [hmm]
        clear hmm
        gi_wp2_with (refine ⟨trivial, ?_⟩; gi_at_call 22; refine (CallsIn.inRound _ (callsIn_wide.2 (rdue_yes _ okD hlen rb3 uc now hR'.out h1' h5 h0 hle))).mono ?_; rintro e w4 ⟨rfl, rb4, uc4, k4⟩; have y12 := (u12.keep k4 (by first | (simp; done) | (simp; omega))).cell 0; have f12 := (u12.keep k4 (by first | (simp; done) | (simp; omega))).frozen 0; have y9 := (u9.keep k4 (by first | (simp; done) | (simp; omega))).cell 0; have y8 := (u8.keep k4 (by first | (simp; done) | (simp; omega))).cell 0; simp at y12 y9 y8)
        have m1' := (k4.cell (p := ⟨mb, mo + cn * 3 + 1, none⟩) (by simp; omega) (by simp; omega)).trans m1'
        have m2' := (k4.cell (p := ⟨mb, mo + cn * 3 + 2, none⟩) (by simp; omega) (by simp; omega)).trans m2'
        have y5 := (u5.keep k4 (by first | (simp; done) | (simp; omega))).cell 0
        simp at y5
        have sp4 := fd3.sp.keep k4 (by first | (simp; done) | (simp; omega))
        refine region_rt [(11, false), (12, false)] [(0, .pointer (some ⟨sb, 0, none⟩)), (1, .slice (some ⟨mb, mo, none⟩) ml mc), (2, .int .i64 cn), (3, .pointer (some ⟨mb, mo + cn * 3, none⟩)), (4, .pointer (some ⟨mb, mo + cn * 3 + 1, none⟩)), (5, .int .i64 kd),
          (6, .slice (some ⟨mb, mo, none⟩) ml mc), (7, .int .i64 cn), (8, .pointer (some ⟨mb, mo + cn * 3, none⟩)), (9, .pointer (some ⟨mb, mo + cn * 3 + 2, none⟩)), (10, .int .i64 x)] (fun W => W = w4.drew) (by kernel_rfl) (by kernel_rfl) rfl ?_ ?_
        · (simp only [evOk, putAll, List.getElem?_toArray, List.getElem?_cons_zero, List.getElem?_cons_succ, Option.bind_some, Act.put, List.setIfInBounds_toArray, List.set_cons_zero, List.set_cons_succ]; repeat' apply And.intro) <;> first | exact trivial | (rintro W rfl; simp [go_sem, *]; done) | (intro W hW; simp [go_sem, *])
        simp only [putAll, List.getElem?_toArray, List.getElem?_cons_zero, List.getElem?_cons_succ, Option.bind_some, Act.put, List.setIfInBounds_toArray, List.set_cons_zero, List.set_cons_succ]
        refine tail_step rfl ?_
        simp [go_sem]
        refine ⟨trivial, (CallsIn.inRound _ (callsIn_wide.2 (arm_any hd2 (sp4.drew) kd x))).mono ?_⟩
        rintro e w5 ⟨rfl, sp5, k5⟩
        have k5 := k5.undrew
        refine tail_step rfl ?_
        simp [go_sem]
        unfold wpTail
        have k45 : Keep [rb, w.heap.size + 1 + 1 + 1 + 1 + 1 + 1, sb] W3 w5 := (k4.more (by first | (simp; done) | (simp; omega))).step k5 (by first | (simp; done) | (simp; omega))
        have y6' := (u6.keep k45 (by first | (simp; done) | (simp; omega))).cell 0
        have y9' := (u9.keep k45 (by first | (simp; done) | (simp; omega))).cell 0
        have y12' := (u12.keep k45 (by first | (simp; done) | (simp; omega))).cell 0
        simp at y6' y9' y12'
        have rb5 := rb4.keep k5 (by first | (simp; done) | (simp; omega))
        have m1'' := (k5.cell (p := ⟨mb, mo + cn * 3 + 1, none⟩) (by have := k4.size; simp; omega) (by simp; omega)).trans m1'
        have m2'' := (k5.cell (p := ⟨mb, mo + cn * 3 + 2, none⟩) (by have := k4.size; simp; omega) (by simp; omega)).trans m2'
        gi_wp2
        refine region_rt [(11, false), (12, false)] [(0, .pointer (some ⟨rb, 0, none⟩)), (1, .slice (some ⟨mb, mo, none⟩) ml mc), (2, .int .i64 cn), (3, .pointer (some ⟨mb, mo + cn * 3, none⟩)), (4, .pointer (some ⟨mb, mo + cn * 3 + 1, none⟩)), (5, .int .i64 kd),
          (6, .slice (some ⟨mb, mo, none⟩) ml mc), (7, .int .i64 cn), (8, .pointer (some ⟨mb, mo + cn * 3, none⟩)), (9, .pointer (some ⟨mb, mo + cn * 3 + 2, none⟩)), (10, .int .i64 x)] (fun W => W = w5.drew) (by kernel_rfl) (by kernel_rfl) rfl ?_ ?_
        · (simp only [evOk, putAll, List.getElem?_toArray, List.getElem?_cons_zero, List.getElem?_cons_succ, Option.bind_some, Act.put, List.setIfInBounds_toArray, List.set_cons_zero, List.set_cons_succ]; repeat' apply And.intro) <;> first | exact trivial | (rintro W rfl; simp [go_sem, *]; done) | (intro W hW; simp [go_sem, *])
        simp only [putAll, List.getElem?_toArray, List.getElem?_cons_zero, List.getElem?_cons_succ, Option.bind_some, Act.put, List.setIfInBounds_toArray, List.set_cons_zero, List.set_cons_succ]
        refine tail_step rfl ?_
        simp [go_sem]
        refine ⟨trivial, (CallsIn.inRound _ (callsIn_wide.2 (rarm_any hd2 (rb5.drew) kd x))).mono ?_⟩
        rintro e w6 ⟨rfl, rb6, k6⟩
        have k6 := k6.undrew
        refine tail_step rfl ?_
        simp [go_sem]
        unfold wpTail
        have k46 : Keep [rb, w.heap.size + 1 + 1 + 1 + 1 + 1 + 1, sb] W3 w6 := k45.step k6 (by first | (simp; done) | (simp; omega))
        have hdA := armD_ok hd2 kd x
        have sp6 := sp5.keep k6 (by first | (simp; done) | (simp; omega))
        have uc6 := (uc4.keep k5 (by first | (simp; done) | (simp; omega))).keep k6 (by first | (simp; done) | (simp; omega))
        have y12'' := (u12.keep k46 (by first | (simp; done) | (simp; omega))).cell 0
        have f12'' := (u12.keep k46 (by first | (simp; done) | (simp; omega))).frozen 0
        have y8'' := (u8.keep k46 (by first | (simp; done) | (simp; omega))).cell 0
        have y10'' := (u10.keep k46 (by first | (simp; done) | (simp; omega))).cell 0
        have f10'' := (u10.keep k46 (by first | (simp; done) | (simp; omega))).frozen 0
        simp at y12'' y8'' y10''
        have u12s := (u12.keep k46 (by first | (simp; done) | (simp; omega))).set_ 0 (.int .i64 ((cn : Int) + 1))
        have k7 : Keep [w.heap.size + 1 + 1 + 1 + 1 + 1 + 1 + 1 + 1] w6 (w6.setCell ⟨w.heap.size + 1 + 1 + 1 + 1 + 1 + 1 + 1 + 1, 0, none⟩ (.int .i64 ((cn : Int) + 1))) := (Keep.refl _ w6).setCell (p := ⟨w.heap.size + 1 + 1 + 1 + 1 + 1 + 1 + 1 + 1, 0, none⟩) (.inl (by simp)) _
        have k47 : Keep [rb, w.heap.size + 1 + 1 + 1 + 1 + 1 + 1, sb, w.heap.size + 1 + 1 + 1 + 1 + 1 + 1 + 1 + 1] W3 (w6.setCell ⟨w.heap.size + 1 + 1 + 1 + 1 + 1 + 1 + 1 + 1, 0, none⟩ (.int .i64 ((cn : Int) + 1))) := (k46.more (by first | (simp; done) | (simp; omega))).step k7 (by first | (simp; done) | (simp; omega))
        have k8 : Keep [w.heap.size + 1 + 1 + 1 + 1 + 1] (w6.setCell ⟨w.heap.size + 1 + 1 + 1 + 1 + 1 + 1 + 1 + 1, 0, none⟩ (.int .i64 ((cn : Int) + 1))) ((w6.setCell ⟨w.heap.size + 1 + 1 + 1 + 1 + 1 + 1 + 1 + 1, 0, none⟩ (.int .i64 ((cn : Int) + 1))).setCell ⟨w.heap.size + 1 + 1 + 1 + 1 + 1, 0, none⟩ (.bool true)) := (Keep.refl _ _).setCell (p := ⟨w.heap.size + 1 + 1 + 1 + 1 + 1, 0, none⟩) (.inl (by simp)) _
        have u10s := ((u10.keep k47 (by first | (simp; done) | (simp; omega))).set_ 0 (.bool true))
        have k49 : Keep [rb, w.heap.size + 1 + 1 + 1 + 1 + 1 + 1, sb, w.heap.size + 1 + 1 + 1 + 1 + 1 + 1 + 1 + 1, w.heap.size + 1 + 1 + 1 + 1 + 1] W3 ((w6.setCell ⟨w.heap.size + 1 + 1 + 1 + 1 + 1 + 1 + 1 + 1, 0, none⟩ (.int .i64 ((cn : Int) + 1))).setCell ⟨w.heap.size + 1 + 1 + 1 + 1 + 1, 0, none⟩ (.bool true)) := (k47.more (by first | (simp; done) | (simp; omega))).step k8 (by first | (simp; done) | (simp; omega))
        have rs7 := rs3.go k49 (by first | (simp; done) | (simp; omega)) (by first | (simp; done) | (simp; omega)) (by first | (simp; done) | (simp; omega))
        have rs8 := rs7.put (o' := .loop (rc .done (some .ret)))
        have kz : Keep [S.heap.size + 1] ((w6.setCell ⟨w.heap.size + 1 + 1 + 1 + 1 + 1 + 1 + 1 + 1, 0, none⟩ (.int .i64 ((cn : Int) + 1))).setCell ⟨w.heap.size + 1 + 1 + 1 + 1 + 1, 0, none⟩ (.bool true)) (((w6.setCell ⟨w.heap.size + 1 + 1 + 1 + 1 + 1 + 1 + 1 + 1, 0, none⟩ (.int .i64 ((cn : Int) + 1))).setCell ⟨w.heap.size + 1 + 1 + 1 + 1 + 1, 0, none⟩ (.bool true)).putObj (S.heap.size + 1) (.loop (rc .done (some .ret)))) := (Keep.refl _ _).putObj (.inl (by simp)) _
        have hL7 := Lib.hid rs7.rc
        have sp8 := ((sp6.keep k7 (by first | (simp; done) | (simp; omega))).keep k8 (by first | (simp; done) | (simp; omega))).keep kz (by first | (simp; done) | (simp; omega))
        have rb8 := ((rb6.keep k7 (by first | (simp; done) | (simp; omega))).keep k8 (by first | (simp; done) | (simp; omega))).keep kz (by first | (simp; done) | (simp; omega))
        have v10 := u10s.keep kz (by first | (simp; done) | (simp; omega))
        clear rs7
        gi_wp2
        exact ⟨hL7.out, ⟨armD (D.set R (-1)) kd x, hdA, sp8, rb8⟩, v10⟩
      · skip
        have hmq : (((cn : Int) + 1) == most) = false := by simp [hmm]
        clear hmm
        gi_wp2_with (refine ⟨trivial, ?_⟩; gi_at_call 22; refine (CallsIn.inRound _ (callsIn_wide.2 (rdue_yes _ okD hlen rb3 uc now hR'.out h1' h5 h0 hle))).mono ?_; rintro e w4 ⟨rfl, rb4, uc4, k4⟩; have y12 := (u12.keep k4 (by first | (simp; done) | (simp; omega))).cell 0; have f12 := (u12.keep k4 (by first | (simp; done) | (simp; omega))).frozen 0; have y9 := (u9.keep k4 (by first | (simp; done) | (simp; omega))).cell 0; have y8 := (u8.keep k4 (by first | (simp; done) | (simp; omega))).cell 0; simp at y12 y9 y8)
        have m1' := (k4.cell (p := ⟨mb, mo + cn * 3 + 1, none⟩) (by simp; omega) (by simp; omega)).trans m1'
        have m2' := (k4.cell (p := ⟨mb, mo + cn * 3 + 2, none⟩) (by simp; omega) (by simp; omega)).trans m2'
        have y5 := (u5.keep k4 (by first | (simp; done) | (simp; omega))).cell 0
        simp at y5
        have sp4 := fd3.sp.keep k4 (by first | (simp; done) | (simp; omega))
        refine region_rt [(11, false), (12, false)] [(0, .pointer (some ⟨sb, 0, none⟩)), (1, .slice (some ⟨mb, mo, none⟩) ml mc), (2, .int .i64 cn), (3, .pointer (some ⟨mb, mo + cn * 3, none⟩)), (4, .pointer (some ⟨mb, mo + cn * 3 + 1, none⟩)), (5, .int .i64 kd),
          (6, .slice (some ⟨mb, mo, none⟩) ml mc), (7, .int .i64 cn), (8, .pointer (some ⟨mb, mo + cn * 3, none⟩)), (9, .pointer (some ⟨mb, mo + cn * 3 + 2, none⟩)), (10, .int .i64 x)] (fun W => W = w4.drew) (by kernel_rfl) (by kernel_rfl) rfl ?_ ?_
        · (simp only [evOk, putAll, List.getElem?_toArray, List.getElem?_cons_zero, List.getElem?_cons_succ, Option.bind_some, Act.put, List.setIfInBounds_toArray, List.set_cons_zero, List.set_cons_succ]; repeat' apply And.intro) <;> first | exact trivial | (rintro W rfl; simp [go_sem, *]; done) | (intro W hW; simp [go_sem, *])
        simp only [putAll, List.getElem?_toArray, List.getElem?_cons_zero, List.getElem?_cons_succ, Option.bind_some, Act.put, List.setIfInBounds_toArray, List.set_cons_zero, List.set_cons_succ]
        refine tail_step rfl ?_
        simp [go_sem]
        refine ⟨trivial, (CallsIn.inRound _ (callsIn_wide.2 (arm_any hd2 (sp4.drew) kd x))).mono ?_⟩
        rintro e w5 ⟨rfl, sp5, k5⟩
        have k5 := k5.undrew
        refine tail_step rfl ?_
        simp [go_sem]
        unfold wpTail
        have k45 : Keep [rb, w.heap.size + 1 + 1 + 1 + 1 + 1 + 1, sb] W3 w5 := (k4.more (by first | (simp; done) | (simp; omega))).step k5 (by first | (simp; done) | (simp; omega))
        have y6' := (u6.keep k45 (by first | (simp; done) | (simp; omega))).cell 0
        have y9' := (u9.keep k45 (by first | (simp; done) | (simp; omega))).cell 0
        have y12' := (u12.keep k45 (by first | (simp; done) | (simp; omega))).cell 0
        simp at y6' y9' y12'
        have rb5 := rb4.keep k5 (by first | (simp; done) | (simp; omega))
        have m1'' := (k5.cell (p := ⟨mb, mo + cn * 3 + 1, none⟩) (by have := k4.size; simp; omega) (by simp; omega)).trans m1'
        have m2'' := (k5.cell (p := ⟨mb, mo + cn * 3 + 2, none⟩) (by have := k4.size; simp; omega) (by simp; omega)).trans m2'
        gi_wp2
        refine region_rt [(11, false), (12, false)] [(0, .pointer (some ⟨rb, 0, none⟩)), (1, .slice (some ⟨mb, mo, none⟩) ml mc), (2, .int .i64 cn), (3, .pointer (some ⟨mb, mo + cn * 3, none⟩)), (4, .pointer (some ⟨mb, mo + cn * 3 + 1, none⟩)), (5, .int .i64 kd),
          (6, .slice (some ⟨mb, mo, none⟩) ml mc), (7, .int .i64 cn), (8, .pointer (some ⟨mb, mo + cn * 3, none⟩)), (9, .pointer (some ⟨mb, mo + cn * 3 + 2, none⟩)), (10, .int .i64 x)] (fun W => W = w5.drew) (by kernel_rfl) (by kernel_rfl) rfl ?_ ?_
        · (simp only [evOk, putAll, List.getElem?_toArray, List.getElem?_cons_zero, List.getElem?_cons_succ, Option.bind_some, Act.put, List.setIfInBounds_toArray, List.set_cons_zero, List.set_cons_succ]; repeat' apply And.intro) <;> first | exact trivial | (rintro W rfl; simp [go_sem, *]; done) | (intro W hW; simp [go_sem, *])
        simp only [putAll, List.getElem?_toArray, List.getElem?_cons_zero, List.getElem?_cons_succ, Option.bind_some, Act.put, List.setIfInBounds_toArray, List.set_cons_zero, List.set_cons_succ]
        refine tail_step rfl ?_
        simp [go_sem]
        refine ⟨trivial, (CallsIn.inRound _ (callsIn_wide.2 (rarm_any hd2 (rb5.drew) kd x))).mono ?_⟩
        rintro e w6 ⟨rfl, rb6, k6⟩
        have k6 := k6.undrew
        refine tail_step rfl ?_
        simp [go_sem]
        unfold wpTail
        have k46 : Keep [rb, w.heap.size + 1 + 1 + 1 + 1 + 1 + 1, sb] W3 w6 := k45.step k6 (by first | (simp; done) | (simp; omega))
        have hdA := armD_ok hd2 kd x
        have sp6 := sp5.keep k6 (by first | (simp; done) | (simp; omega))
        have uc6 := (uc4.keep k5 (by first | (simp; done) | (simp; omega))).keep k6 (by first | (simp; done) | (simp; omega))
        have y12'' := (u12.keep k46 (by first | (simp; done) | (simp; omega))).cell 0
        have f12'' := (u12.keep k46 (by first | (simp; done) | (simp; omega))).frozen 0
        have y8'' := (u8.keep k46 (by first | (simp; done) | (simp; omega))).cell 0
        have y10'' := (u10.keep k46 (by first | (simp; done) | (simp; omega))).cell 0
        have f10'' := (u10.keep k46 (by first | (simp; done) | (simp; omega))).frozen 0
        simp at y12'' y8'' y10''
        have u12s := (u12.keep k46 (by first | (simp; done) | (simp; omega))).set_ 0 (.int .i64 ((cn : Int) + 1))
        have k7 : Keep [w.heap.size + 1 + 1 + 1 + 1 + 1 + 1 + 1 + 1] w6 (w6.setCell ⟨w.heap.size + 1 + 1 + 1 + 1 + 1 + 1 + 1 + 1, 0, none⟩ (.int .i64 ((cn : Int) + 1))) := (Keep.refl _ w6).setCell (p := ⟨w.heap.size + 1 + 1 + 1 + 1 + 1 + 1 + 1 + 1, 0, none⟩) (.inl (by simp)) _
        have k47 : Keep [rb, w.heap.size + 1 + 1 + 1 + 1 + 1 + 1, sb, w.heap.size + 1 + 1 + 1 + 1 + 1 + 1 + 1 + 1] W3 (w6.setCell ⟨w.heap.size + 1 + 1 + 1 + 1 + 1 + 1 + 1 + 1, 0, none⟩ (.int .i64 ((cn : Int) + 1))) := (k46.more (by first | (simp; done) | (simp; omega))).step k7 (by first | (simp; done) | (simp; omega))
        have rs7 := rs3.go k47 (by first | (simp; done) | (simp; omega)) (by first | (simp; done) | (simp; omega)) (by first | (simp; done) | (simp; omega))
        have rs8 := rs7.put (o' := .loop (rc .ready none))
        have kz : Keep [S.heap.size + 1] (w6.setCell ⟨w.heap.size + 1 + 1 + 1 + 1 + 1 + 1 + 1 + 1, 0, none⟩ (.int .i64 ((cn : Int) + 1))) ((w6.setCell ⟨w.heap.size + 1 + 1 + 1 + 1 + 1 + 1 + 1 + 1, 0, none⟩ (.int .i64 ((cn : Int) + 1))).putObj (S.heap.size + 1) (.loop (rc .ready none))) := (Keep.refl _ _).putObj (.inl (by simp)) _
        have k48 : Keep [rb, w.heap.size + 1 + 1 + 1 + 1 + 1 + 1, sb, w.heap.size + 1 + 1 + 1 + 1 + 1 + 1 + 1 + 1, S.heap.size + 1] W3 ((w6.setCell ⟨w.heap.size + 1 + 1 + 1 + 1 + 1 + 1 + 1 + 1, 0, none⟩ (.int .i64 ((cn : Int) + 1))).putObj (S.heap.size + 1) (.loop (rc .ready none))) := (k47.more (by first | (simp; done) | (simp; omega))).step kz (by first | (simp; done) | (simp; omega))
        have hL7 := Lib.hid rs7.rc
        have sp8 := (sp6.keep k7 (by first | (simp; done) | (simp; omega))).keep kz (by first | (simp; done) | (simp; omega))
        have rb8 := (rb6.keep k7 (by first | (simp; done) | (simp; omega))).keep kz (by first | (simp; done) | (simp; omega))
        have uc8 := (uc6.keep k7 (by first | (simp; done) | (simp; omega))).keep kz (by first | (simp; done) | (simp; omega))
        have v12 := u12s.keep kz (by first | (simp; done) | (simp; omega))
        clear rs7
        gi_wp2
        exact ⟨hL7.out, armD (D.set R (-1)) kd x, ⟨hdA, by rw [List.length_set]; exact hlen, sp8, fd3.k1.keep k48 (by first | (simp; done) | (simp; omega)), fd3.k2.keep k48 (by first | (simp; done) | (simp; omega)), fd3.sq.keep k48 (by first | (simp; done) | (simp; omega))⟩,
          ⟨rb8, u5.keep k48 (by first | (simp; done) | (simp; omega)), u6.keep k48 (by first | (simp; done) | (simp; omega)), u7.keep k48 (by first | (simp; done) | (simp; omega)), u8.keep k48 (by first | (simp; done) | (simp; omega)), u9.keep k48 (by first | (simp; done) | (simp; omega)), u10.keep k48 (by first | (simp; done) | (simp; omega)), uc8, u11.keep k48 (by first | (simp; done) | (simp; omega)), by rw [Hcn.out]; exact v12, rs8⟩⟩
    · have hk' : ¬ (cn : Int) < (ml : Int) := by omega
      by_cases hmm : (cn : Int) + 1 = most
      · skip
        have hmq : (((cn : Int) + 1) == most) = true := by simp [hmm]
        clear hmm
        gi_wp2_with (fail)
        refine ⟨trivial, (CallsIn.inRound _ (callsIn_wide.2 (rdue_yes _ okD hlen rb3 uc now hR'.out h1' h5 h0 hle))).mono ?_⟩
        rintro e w6 ⟨rfl, rb6, uc6, k4⟩
        have y9 := (u9.keep k4 (by first | (simp; done) | (simp; omega))).cell 0
        simp at y9
        have k46 : Keep [rb, w.heap.size + 1 + 1 + 1 + 1 + 1 + 1, sb] W3 w6 := k4.more (by first | (simp; done) | (simp; omega))
        have hdA := hd2
        have sp6 := fd3.sp.keep k4 (by first | (simp; done) | (simp; omega))
        have y12'' := (u12.keep k46 (by first | (simp; done) | (simp; omega))).cell 0
        have f12'' := (u12.keep k46 (by first | (simp; done) | (simp; omega))).frozen 0
        have y8'' := (u8.keep k46 (by first | (simp; done) | (simp; omega))).cell 0
        have y10'' := (u10.keep k46 (by first | (simp; done) | (simp; omega))).cell 0
        have f10'' := (u10.keep k46 (by first | (simp; done) | (simp; omega))).frozen 0
        simp at y12'' y8'' y10''
        have u12s := (u12.keep k46 (by first | (simp; done) | (simp; omega))).set_ 0 (.int .i64 ((cn : Int) + 1))
        have k7 : Keep [w.heap.size + 1 + 1 + 1 + 1 + 1 + 1 + 1 + 1] w6 (w6.setCell ⟨w.heap.size + 1 + 1 + 1 + 1 + 1 + 1 + 1 + 1, 0, none⟩ (.int .i64 ((cn : Int) + 1))) := (Keep.refl _ w6).setCell (p := ⟨w.heap.size + 1 + 1 + 1 + 1 + 1 + 1 + 1 + 1, 0, none⟩) (.inl (by simp)) _
        have k47 : Keep [rb, w.heap.size + 1 + 1 + 1 + 1 + 1 + 1, sb, w.heap.size + 1 + 1 + 1 + 1 + 1 + 1 + 1 + 1] W3 (w6.setCell ⟨w.heap.size + 1 + 1 + 1 + 1 + 1 + 1 + 1 + 1, 0, none⟩ (.int .i64 ((cn : Int) + 1))) := (k46.more (by first | (simp; done) | (simp; omega))).step k7 (by first | (simp; done) | (simp; omega))
        have k8 : Keep [w.heap.size + 1 + 1 + 1 + 1 + 1] (w6.setCell ⟨w.heap.size + 1 + 1 + 1 + 1 + 1 + 1 + 1 + 1, 0, none⟩ (.int .i64 ((cn : Int) + 1))) ((w6.setCell ⟨w.heap.size + 1 + 1 + 1 + 1 + 1 + 1 + 1 + 1, 0, none⟩ (.int .i64 ((cn : Int) + 1))).setCell ⟨w.heap.size + 1 + 1 + 1 + 1 + 1, 0, none⟩ (.bool true)) := (Keep.refl _ _).setCell (p := ⟨w.heap.size + 1 + 1 + 1 + 1 + 1, 0, none⟩) (.inl (by simp)) _
        have u10s := ((u10.keep k47 (by first | (simp; done) | (simp; omega))).set_ 0 (.bool true))
        have k49 : Keep [rb, w.heap.size + 1 + 1 + 1 + 1 + 1 + 1, sb, w.heap.size + 1 + 1 + 1 + 1 + 1 + 1 + 1 + 1, w.heap.size + 1 + 1 + 1 + 1 + 1] W3 ((w6.setCell ⟨w.heap.size + 1 + 1 + 1 + 1 + 1 + 1 + 1 + 1, 0, none⟩ (.int .i64 ((cn : Int) + 1))).setCell ⟨w.heap.size + 1 + 1 + 1 + 1 + 1, 0, none⟩ (.bool true)) := (k47.more (by first | (simp; done) | (simp; omega))).step k8 (by first | (simp; done) | (simp; omega))
        have rs7 := rs3.go k49 (by first | (simp; done) | (simp; omega)) (by first | (simp; done) | (simp; omega)) (by first | (simp; done) | (simp; omega))
        have rs8 := rs7.put (o' := .loop (rc .done (some .ret)))
        have kz : Keep [S.heap.size + 1] ((w6.setCell ⟨w.heap.size + 1 + 1 + 1 + 1 + 1 + 1 + 1 + 1, 0, none⟩ (.int .i64 ((cn : Int) + 1))).setCell ⟨w.heap.size + 1 + 1 + 1 + 1 + 1, 0, none⟩ (.bool true)) (((w6.setCell ⟨w.heap.size + 1 + 1 + 1 + 1 + 1 + 1 + 1 + 1, 0, none⟩ (.int .i64 ((cn : Int) + 1))).setCell ⟨w.heap.size + 1 + 1 + 1 + 1 + 1, 0, none⟩ (.bool true)).putObj (S.heap.size + 1) (.loop (rc .done (some .ret)))) := (Keep.refl _ _).putObj (.inl (by simp)) _
        have hL7 := Lib.hid rs7.rc
        have sp8 := ((sp6.keep k7 (by first | (simp; done) | (simp; omega))).keep k8 (by first | (simp; done) | (simp; omega))).keep kz (by first | (simp; done) | (simp; omega))
        have rb8 := ((rb6.keep k7 (by first | (simp; done) | (simp; omega))).keep k8 (by first | (simp; done) | (simp; omega))).keep kz (by first | (simp; done) | (simp; omega))
        have v10 := u10s.keep kz (by first | (simp; done) | (simp; omega))
        clear rs7
        gi_wp2
        exact ⟨hL7.out, ⟨D.set R (-1), hdA, sp8, rb8⟩, v10⟩
      · skip
        have hmq : (((cn : Int) + 1) == most) = false := by simp [hmm]
        clear hmm
        gi_wp2_with (fail)
        refine ⟨trivial, (CallsIn.inRound _ (callsIn_wide.2 (rdue_yes _ okD hlen rb3 uc now hR'.out h1' h5 h0 hle))).mono ?_⟩
        rintro e w6 ⟨rfl, rb6, uc6, k4⟩
        have y9 := (u9.keep k4 (by first | (simp; done) | (simp; omega))).cell 0
        simp at y9
        have k46 : Keep [rb, w.heap.size + 1 + 1 + 1 + 1 + 1 + 1, sb] W3 w6 := k4.more (by first | (simp; done) | (simp; omega))
        have hdA := hd2
        have sp6 := fd3.sp.keep k4 (by first | (simp; done) | (simp; omega))
        have y12'' := (u12.keep k46 (by first | (simp; done) | (simp; omega))).cell 0
        have f12'' := (u12.keep k46 (by first | (simp; done) | (simp; omega))).frozen 0
        have y8'' := (u8.keep k46 (by first | (simp; done) | (simp; omega))).cell 0
        have y10'' := (u10.keep k46 (by first | (simp; done) | (simp; omega))).cell 0
        have f10'' := (u10.keep k46 (by first | (simp; done) | (simp; omega))).frozen 0
        simp at y12'' y8'' y10''
        have u12s := (u12.keep k46 (by first | (simp; done) | (simp; omega))).set_ 0 (.int .i64 ((cn : Int) + 1))
        have k7 : Keep [w.heap.size + 1 + 1 + 1 + 1 + 1 + 1 + 1 + 1] w6 (w6.setCell ⟨w.heap.size + 1 + 1 + 1 + 1 + 1 + 1 + 1 + 1, 0, none⟩ (.int .i64 ((cn : Int) + 1))) := (Keep.refl _ w6).setCell (p := ⟨w.heap.size + 1 + 1 + 1 + 1 + 1 + 1 + 1 + 1, 0, none⟩) (.inl (by simp)) _
        have k47 : Keep [rb, w.heap.size + 1 + 1 + 1 + 1 + 1 + 1, sb, w.heap.size + 1 + 1 + 1 + 1 + 1 + 1 + 1 + 1] W3 (w6.setCell ⟨w.heap.size + 1 + 1 + 1 + 1 + 1 + 1 + 1 + 1, 0, none⟩ (.int .i64 ((cn : Int) + 1))) := (k46.more (by first | (simp; done) | (simp; omega))).step k7 (by first | (simp; done) | (simp; omega))
        have rs7 := rs3.go k47 (by first | (simp; done) | (simp; omega)) (by first | (simp; done) | (simp; omega)) (by first | (simp; done) | (simp; omega))
        have rs8 := rs7.put (o' := .loop (rc .ready none))
        have kz : Keep [S.heap.size + 1] (w6.setCell ⟨w.heap.size + 1 + 1 + 1 + 1 + 1 + 1 + 1 + 1, 0, none⟩ (.int .i64 ((cn : Int) + 1))) ((w6.setCell ⟨w.heap.size + 1 + 1 + 1 + 1 + 1 + 1 + 1 + 1, 0, none⟩ (.int .i64 ((cn : Int) + 1))).putObj (S.heap.size + 1) (.loop (rc .ready none))) := (Keep.refl _ _).putObj (.inl (by simp)) _
        have k48 : Keep [rb, w.heap.size + 1 + 1 + 1 + 1 + 1 + 1, sb, w.heap.size + 1 + 1 + 1 + 1 + 1 + 1 + 1 + 1, S.heap.size + 1] W3 ((w6.setCell ⟨w.heap.size + 1 + 1 + 1 + 1 + 1 + 1 + 1 + 1, 0, none⟩ (.int .i64 ((cn : Int) + 1))).putObj (S.heap.size + 1) (.loop (rc .ready none))) := (k47.more (by first | (simp; done) | (simp; omega))).step kz (by first | (simp; done) | (simp; omega))
        have hL7 := Lib.hid rs7.rc
        have sp8 := (sp6.keep k7 (by first | (simp; done) | (simp; omega))).keep kz (by first | (simp; done) | (simp; omega))
        have rb8 := (rb6.keep k7 (by first | (simp; done) | (simp; omega))).keep kz (by first | (simp; done) | (simp; omega))
        have uc8 := (uc6.keep k7 (by first | (simp; done) | (simp; omega))).keep kz (by first | (simp; done) | (simp; omega))
        have v12 := u12s.keep kz (by first | (simp; done) | (simp; omega))
        clear rs7
        gi_wp2
        exact ⟨hL7.out, D.set R (-1), ⟨hdA, by rw [List.length_set]; exact hlen, sp8, fd3.k1.keep k48 (by first | (simp; done) | (simp; omega)), fd3.k2.keep k48 (by first | (simp; done) | (simp; omega)), fd3.sq.keep k48 (by first | (simp; done) | (simp; omega))⟩,
          ⟨rb8, u5.keep k48 (by first | (simp; done) | (simp; omega)), u6.keep k48 (by first | (simp; done) | (simp; omega)), u7.keep k48 (by first | (simp; done) | (simp; omega)), u8.keep k48 (by first | (simp; done) | (simp; omega)), u9.keep k48 (by first | (simp; done) | (simp; omega)), u10.keep k48 (by first | (simp; done) | (simp; omega)), uc8, u11.keep k48 (by first | (simp; done) | (simp; omega)), by rw [Hcn.out]; exact v12, rs8⟩⟩
end Go.Proofs.Ytneomofldjhpjaa
