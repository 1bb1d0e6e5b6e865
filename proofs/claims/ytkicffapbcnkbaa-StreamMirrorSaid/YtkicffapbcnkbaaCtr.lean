/- stream: what each method of a stream (the program's and the reference's) comes to. -/
import Derived.Test.YtkicffapbcnkbaaRng
set_option linter.all false
namespace Go.Proofs.Ytkicffapbcnkbaa
open Go.ChangeShapes Go.WideShapes Go.ChangeAt Go.RowKit
attribute [local go_sem] setCell_drewN alloc_drewN
def sendF (st why k : Int) (e : Bool) : Int × Int × Int :=
  if k < 1 ∨ 5 < k then (1, st, why) else if k = 5 then (0, st, why)
  else if st = 0 then (if k = 1 then (0, if e = true then 2 else 1, why) else (8, st, why))
  else if st = 4 then (if k = 3 ∧ why = 2 then (0, 4, 3) else (11, st, why))
  else if k = 3 then (0, 4, 3) else if k = 4 then (0, st, why) else if st = 2 then (8, st, why)
  else if e = true then (if st = 1 then (0, 2, why) else (0, 4, 1)) else (0, st, why)
def comeF (st why k : Int) (e : Bool) : Int × Int × Int × Int :=
  if k < 1 ∨ 5 < k then (3, 1, st, why)
  else if st = 4 then (if (k = 1 ∨ k = 2) ∧ why = 1 then (3, 5, st, why) else if (k = 1 ∨ k = 2) ∧ why = 2 then (2, 5, st, why) else (1, 0, st, why))
  else if k = 5 then (0, 0, st, why)
  else if st = 0 then (if k = 1 then (0, 0, if e = true then 3 else 1, why) else (3, 1, st, why))
  else if k = 3 then (0, 0, 4, 2) else if k = 4 then (0, 0, st, why) else if st = 3 then (2, 5, st, why)
  else if e = true then (if st = 1 then (0, 0, 3, why) else (0, 0, 4, 1)) else (0, 0, st, why)
def OkSt (st why : Int) : Prop := (st = 0 ∧ why = 0) ∨ (st = 1 ∧ why = 0) ∨ (st = 2 ∧ why = 0) ∨ (st = 3 ∧ why = 0) ∨ (st = 4 ∧ why = 1) ∨ (st = 4 ∧ why = 2) ∨ (st = 4 ∧ why = 3)
theorem sendF_ok {st why k : Int} {e : Bool} (h : OkSt st why) : OkSt (sendF st why k e).2.1 (sendF st why k e).2.2 := by
  unfold OkSt at h
  unfold sendF
  rcases h with ⟨rfl, rfl⟩ | ⟨rfl, rfl⟩ | ⟨rfl, rfl⟩ | ⟨rfl, rfl⟩ | ⟨rfl, rfl⟩ | ⟨rfl, rfl⟩ | ⟨rfl, rfl⟩ <;> cases e <;> simp <;> (repeat' split) <;> simp [OkSt]
theorem comeF_ok {st why k : Int} {e : Bool} (h : OkSt st why) : OkSt (comeF st why k e).2.2.1 (comeF st why k e).2.2.2 := by
  unfold OkSt at h
  unfold comeF
  rcases h with ⟨rfl, rfl⟩ | ⟨rfl, rfl⟩ | ⟨rfl, rfl⟩ | ⟨rfl, rfl⟩ | ⟨rfl, rfl⟩ | ⟨rfl, rfl⟩ | ⟨rfl, rfl⟩ <;> cases e <;> simp <;> (repeat' split) <;> simp [OkSt]
/-- a number has come back, the stream is in a state, nothing else has turned -/
def SPost (w : World) (b : Nat) (t : TypeId) (r : Int × Int × Int) (e : Ending) (w' : World) : Prop :=
  e = .returned (.int .i64 r.1) ∧ Blk w' b t #[.int .i64 r.2.1, .int .i64 r.2.2] ∧ w.grownBy w' (some b)
def CPost (w : World) (b : Nat) (t : TypeId) (r : Int × Int × Int × Int) (e : Ending) (w' : World) : Prop :=
  e = .returned (.tuple #[.int .i64 r.1, .int .i64 r.2.1]) ∧ Blk w' b t #[.int .i64 r.2.2.1, .int .i64 r.2.2.2] ∧ w.grownBy w' (some b)
theorem kinds {k : Int} : (k < 1 ∨ 5 < k) ∨ k = 1 ∨ k = 2 ∨ k = 3 ∨ k = 4 ∨ k = 5 := by omega
section
variable (b : Nat) (st why k : Int) (e : Bool) (w : World)
theorem told_no (h : k < 1 ∨ 5 < k) : Calls Try.prog 20 #[.int .i64 k] w fun e w' => e = .returned (.bool false) ∧ w = w' := by
  rcases h with h | h
  · have h' : ¬ (1 ≤ k) := by omega
    go_enter Try.func20, Try.ntmps20
    go_wp2
    all_goals (go_ret; exact ⟨by first | rfl | (refine ret_bool ?_; simp; omega), rfl⟩)
  · have h' : ¬ (k ≤ 5) := by omega
    have h1 : 1 ≤ k := by omega
    go_enter Try.func20, Try.ntmps20
    go_wp2
    all_goals (go_ret; exact ⟨by first | rfl | (refine ret_bool ?_; simp; omega), rfl⟩)
theorem told_yes (h : 1 ≤ k) (h5 : k ≤ 5) : Calls Try.prog 20 #[.int .i64 k] w fun e w' => e = .returned (.bool true) ∧ w = w' := by
  go_enter Try.func20, Try.ntmps20
  go_wp2
  all_goals (go_ret; exact ⟨by first | rfl | (refine ret_bool ?_; simp; omega), rfl⟩)
theorem sendF_out (h : k < 1 ∨ 5 < k) : sendF st why k e = (1, st, why) := by unfold sendF; rw [if_pos h]
theorem comeF_out (h : k < 1 ∨ 5 < k) : comeF st why k e = (3, 1, st, why) := by unfold comeF; rw [if_pos h]
theorem done_ (hb : Blk w b 45 #[.int .i64 st, .int .i64 why]) : Calls Try.prog 22 #[.pointer (some ⟨b, 0, none⟩), .int .i64 k] w fun e w' => e = .returned (.tuple #[]) ∧ w' = (w.setCell ⟨b, 0, none⟩ (.int .i64 4)).setCell ⟨b, 1, none⟩ (.int .i64 k) := by
  have c0 := hb.cell 0
  have c1 := hb.cell 1
  simp at c0 c1
  have f0 := hb.frozen 0
  have f1 := hb.frozen 1
  go_enter Try.func22, Try.ntmps22
  go_wp2
  go_end0
  exact ⟨rfl, rfl⟩
theorem rdone (hb : Blk w b 35 #[.int .i64 st, .int .i64 why]) : Calls Try.prog 23 #[.pointer (some ⟨b, 0, none⟩), .int .i64 k] w fun e w' => e = .returned (.tuple #[]) ∧ w' = (w.setCell ⟨b, 0, none⟩ (.int .i64 4)).setCell ⟨b, 1, none⟩ (.int .i64 k) := by
  have c0 := hb.cell 0
  have c1 := hb.cell 1
  simp at c0 c1
  have f0 := hb.frozen 0
  have f1 := hb.frozen 1
  go_enter Try.func23, Try.ntmps23
  go_wp2
  go_end0
  exact ⟨rfl, rfl⟩
end
end Go.Proofs.Ytkicffapbcnkbaa
