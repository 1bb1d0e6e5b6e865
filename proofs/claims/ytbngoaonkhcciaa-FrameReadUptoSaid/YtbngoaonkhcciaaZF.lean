/- Own texts in one: RRead. -/
import Derived.Test.YtbngoaonkhcciaaZE
/-! #### RRead -/
set_option linter.all false
namespace Go.Proofs.Ytbngoaonkhcciaa
open Go.ChangeShapes Go.WideShapes Go.ChangeAt Go.RowKit Go.Proofs.YtbngoaonkhcciaaW.PrintWords
attribute [local go_sem] setCell_drewN alloc_drewN Oper.semAt_some
theorem rstream_ (w : World) (t : Int) (v : Int) (h : PRf.isthmusref7_stream.f 2 t = some v) : Calls Try.prog 30 #[.int .i64 t] w fun e w' => e = .returned (.int .i64 v) ∧ Keep [] w w' :=
  (PRf.isthmusref7_stream.calls 2 t v w h).mono fun e w' ⟨he, hd⟩ => ⟨he, Keep.of_below hd.below⟩
def frF (t : Nat) (f : UInt8) (bs : List UInt8) : Bd × Int := match bareF t f bs with
  | .bad k => (bd0, k)
  | .ok pad r => if sizeF t f r.length = true then (bodyF t f pad r, 0) else (bd0, 6)
theorem rfrag_all (w : World) {A : Option Addr} {n c : Nat} {bs : List UInt8} {f : UInt8} {s : Int} (t : Nat) (ht : padF t = true) (hr : Reads w w.heap.size 1 A n (encB bs)) (hc : n ≤ c) (hc2 : c ≤ 9223372036854775807) (hlen : n ≤ 1099511627776) :
    Calls Try.prog 31 #[.agg #[.int .i64 t, .int .i64 f.toNat, .int .i64 s, .slice A n c]] w fun e w' => BodyR w' w.heap.size e (frF t f bs) ∧ Keep [] w w' := by
  unfold frF
  have h015 : t = 0 ∨ t = 1 ∨ t = 5 := by simpa [padF, or_assoc] using ht
  cases hb : bareF t f bs with
  | bad k =>
    have hk := bare_code hb
    simp only
    rcases h015 with rfl | rfl | rfl
    · exact rfrag_bad0 w hr hc hc2 k hk hb
    · exact rfrag_bad1 w hr hc hc2 k hk hb
    · exact rfrag_bad5 w hr hc hc2 k hk hb
  | ok pad r =>
    simp only
    rcases h015 with rfl | rfl | rfl
    · exact rfrag_0 w hr hc hc2 hlen hb
    · by_cases hf : onF f 32 = true
      · by_cases hs : 5 ≤ r.length
        · rw [if_pos (by simp [sizeF, hs])]
          have e : bodyF 1 f pad r = { prioB { bd0 with pad := pad } r with data := r.drop 5 } := by simp [bodyF, hf]
          rw [e]
          exact rfrag_1p w hr hc hc2 hlen hf hs hb
        · rw [if_neg (by simp [sizeF, hs, hf])]
          exact rfrag_1s w hr hc hc2 hf (by omega) hb
      · have hf2 : onF f 32 = false := by simpa using hf
        rw [if_pos (by simp [sizeF, hf2])]
        have e : bodyF 1 f pad r = { bd0 with pad := pad, data := r } := by simp [bodyF, hf]
        rw [e]
        exact rfrag_1n w hr hc hc2 hlen hf2 hb
    · by_cases hs : 4 ≤ r.length
      · rw [if_pos (by simp [sizeF, hs])]
        exact rfrag_5 w hr hc hc2 hlen hs hb
      · rw [if_neg (by simp [sizeF, hs])]
        exact rfrag_5s w hr hc hc2 (by omega) hb
theorem stream_of (t : Nat) : PRf.isthmusref7_stream.f 2 t = some (if placeF t = 1 then 1 else if placeF t = 0 then 2 else 0) := by
  unfold PRf.isthmusref7_stream.f placeF
  simp only [PRf.isthmusref7_stream.j0]
  repeat' split
  all_goals first | rfl | (exfalso; omega) | (exfalso; simp_all; done) | (exfalso; simp_all; omega)
section
variable (w : World) {A : Option Addr} {n c : Nat} {bs r : List UInt8} {f : UInt8} {s : Int} {pad : Int}
set_option maxHeartbeats 2000000 in
theorem rread_bad1 (hr : Reads w w.heap.size 1 A n (encB bs)) (hc : n ≤ c) (hc2 : c ≤ 9223372036854775807) (hlen : n ≤ 1099511627776) (t : Nat) (hp : placeF t = 1) (h0 : s = 0) :
    Calls Try.prog 16 #[.agg #[.int .i64 t, .int .i64 f.toNat, .int .i64 s, .slice A n c]] w fun e w' => BodyR w' w.heap.size e (bd0, 1) ∧ Keep [] w w' := by
  have hst := stream_of t
  rw [hp] at hst
  subst h0
  have Hr := Lib.hid hr
  clear hr
  go_enter Try.func16, Try.ntmps16
  go_wp2_with (fail)
  have BF := (Blk.new w 24 #[.int .i64 t, .int .i64 f.toNat, .int .i64 0, .slice A n c]).alloc (.cells #[.slice none 0 0, .int .i64 0, .bool false, .bool false, .int .i64 0, .int .i64 0, .int .i64 0, .int .i64 0, .int .i64 0, .slice none 0 0, .int .i64 0] 36)
  have BR := Blk.new (w.alloc (.cells #[.int .i64 t, .int .i64 f.toNat, .int .i64 0, .slice A n c] 24)) 36 #[.slice none 0 0, .int .i64 0, .bool false, .bool false, .int .i64 0, .int .i64 0, .int .i64 0, .int .i64 0, .int .i64 0, .slice none 0 0, .int .i64 0]
  have K0 : Keep [] w ((w.alloc (.cells #[.int .i64 t, .int .i64 f.toNat, .int .i64 0, .slice A n c] 24)).alloc (.cells #[.slice none 0 0, .int .i64 0, .bool false, .bool false, .int .i64 0, .int .i64 0, .int .i64 0, .int .i64 0, .int .i64 0, .slice none 0 0, .int .i64 0] 36)) := ((Keep.refl _ _).alloc _).alloc _
  have e0 : ((w.alloc (.cells #[.int .i64 t, .int .i64 f.toNat, .int .i64 0, .slice A n c] 24)).alloc (.cells #[.slice none 0 0, .int .i64 0, .bool false, .bool false, .int .i64 0, .int .i64 0, .int .i64 0, .int .i64 0, .int .i64 0, .slice none 0 0, .int .i64 0] 36)).heap.size = w.heap.size + 2 := by simp
  simp only [World.size_alloc] at BR
  obtain ⟨w0, hw0⟩ : ∃ w0, w0 = ((w.alloc (.cells #[.int .i64 t, .int .i64 f.toNat, .int .i64 0, .slice A n c] 24)).alloc (.cells #[.slice none 0 0, .int .i64 0, .bool false, .bool false, .int .i64 0, .int .i64 0, .int .i64 0, .int .i64 0, .int .i64 0, .slice none 0 0, .int .i64 0] 36)) := ⟨_, rfl⟩
  rw [← hw0] at BF BR K0 e0 ⊢
  clear hw0
  refine (rstream_ w0 t 1 hst).mono ?_
  rintro e w1 ⟨rfl, k1⟩
  have BF1 := BF.keep k1 (by simp)
  have BR1 := BR.keep k1 (by simp)
  have K1 := Lib.hid (K0.trans k1)
  have z1 : w.heap.size + 2 ≤ w1.heap.size := by have := k1.size; omega
  have Hz1 := Lib.hid z1
  have hrd := (Hr.out.keeps K1.out (Nat.le_refl _) (by simp)).more K1.out.size
  have HRD := Lib.hid hrd
  clear BF BR K0 k1 e0 Hr hrd z1
  have d0 := BF1.cell 0
  have d1 := BF1.cell 1
  have d2 := BF1.cell 2
  have d3 := BF1.cell 3
  simp at d0 d1 d2 d3
  obtain ⟨q0, q1, q2, q3, q4, q5, q6, q7, q8, q9, q10⟩ := cells11 BR1
  obtain ⟨g0, g1, g2, g3, g4, g5, g6, g7, g8, g9, g10⟩ := frozen11 BR1
  have TR := Lib.hid BR1
  clear BR1
  go_wp2_with (fail)
  have FB := blk_set11 TR.out rfl (.slice none 0 0) (.int .i64 0) (.bool false) (.bool false) (.int .i64 0) (.int .i64 0) (.int .i64 0) (.int .i64 0) (.int .i64 0) (.slice none 0 0) (.int .i64 0)
  have KL := keep_set11 w1 (w.heap.size + 1) (.slice none 0 0) (.int .i64 0) (.bool false) (.bool false) (.int .i64 0) (.int .i64 0) (.int .i64 0) (.int .i64 0) (.int .i64 0) (.slice none 0 0) (.int .i64 0)
  have KF := K1.out.step KL (by simp)
  refine bodyPost_ret (results_ct rfl _ _ (w.heap.size + 1) 36 #[.slice none 0 0, .int .i64 0, .bool false, .bool false, .int .i64 0, .int .i64 0, .int .i64 0, .int .i64 0, .int .i64 0, .slice none 0 0, .int .i64 0] (0, 0) _ rfl FB Try.underlying36 rfl (by kernel_rfl)) rfl ?_
  exact ⟨bodyR_none rfl rfl rfl, KF⟩
set_option maxHeartbeats 2000000 in
theorem rread_bad2 (hr : Reads w w.heap.size 1 A n (encB bs)) (hc : n ≤ c) (hc2 : c ≤ 9223372036854775807) (hlen : n ≤ 1099511627776) (t : Nat) (hp : placeF t = 0) (h0 : ¬ s = 0) :
    Calls Try.prog 16 #[.agg #[.int .i64 t, .int .i64 f.toNat, .int .i64 s, .slice A n c]] w fun e w' => BodyR w' w.heap.size e (bd0, 1) ∧ Keep [] w w' := by
  have hst := stream_of t
  rw [hp] at hst
  have Hr := Lib.hid hr
  clear hr
  go_enter Try.func16, Try.ntmps16
  go_wp2_with (fail)
  have BF := (Blk.new w 24 #[.int .i64 t, .int .i64 f.toNat, .int .i64 s, .slice A n c]).alloc (.cells #[.slice none 0 0, .int .i64 0, .bool false, .bool false, .int .i64 0, .int .i64 0, .int .i64 0, .int .i64 0, .int .i64 0, .slice none 0 0, .int .i64 0] 36)
  have BR := Blk.new (w.alloc (.cells #[.int .i64 t, .int .i64 f.toNat, .int .i64 s, .slice A n c] 24)) 36 #[.slice none 0 0, .int .i64 0, .bool false, .bool false, .int .i64 0, .int .i64 0, .int .i64 0, .int .i64 0, .int .i64 0, .slice none 0 0, .int .i64 0]
  have K0 : Keep [] w ((w.alloc (.cells #[.int .i64 t, .int .i64 f.toNat, .int .i64 s, .slice A n c] 24)).alloc (.cells #[.slice none 0 0, .int .i64 0, .bool false, .bool false, .int .i64 0, .int .i64 0, .int .i64 0, .int .i64 0, .int .i64 0, .slice none 0 0, .int .i64 0] 36)) := ((Keep.refl _ _).alloc _).alloc _
  have e0 : ((w.alloc (.cells #[.int .i64 t, .int .i64 f.toNat, .int .i64 s, .slice A n c] 24)).alloc (.cells #[.slice none 0 0, .int .i64 0, .bool false, .bool false, .int .i64 0, .int .i64 0, .int .i64 0, .int .i64 0, .int .i64 0, .slice none 0 0, .int .i64 0] 36)).heap.size = w.heap.size + 2 := by simp
  simp only [World.size_alloc] at BR
  obtain ⟨w0, hw0⟩ : ∃ w0, w0 = ((w.alloc (.cells #[.int .i64 t, .int .i64 f.toNat, .int .i64 s, .slice A n c] 24)).alloc (.cells #[.slice none 0 0, .int .i64 0, .bool false, .bool false, .int .i64 0, .int .i64 0, .int .i64 0, .int .i64 0, .int .i64 0, .slice none 0 0, .int .i64 0] 36)) := ⟨_, rfl⟩
  rw [← hw0] at BF BR K0 e0 ⊢
  clear hw0
  refine (rstream_ w0 t 2 hst).mono ?_
  rintro e w1 ⟨rfl, k1⟩
  have BF1 := BF.keep k1 (by simp)
  have BR1 := BR.keep k1 (by simp)
  have K1 := Lib.hid (K0.trans k1)
  have z1 : w.heap.size + 2 ≤ w1.heap.size := by have := k1.size; omega
  have Hz1 := Lib.hid z1
  have hrd := (Hr.out.keeps K1.out (Nat.le_refl _) (by simp)).more K1.out.size
  have HRD := Lib.hid hrd
  clear BF BR K0 k1 e0 Hr hrd z1
  have d0 := BF1.cell 0
  have d1 := BF1.cell 1
  have d2 := BF1.cell 2
  have d3 := BF1.cell 3
  simp at d0 d1 d2 d3
  obtain ⟨q0, q1, q2, q3, q4, q5, q6, q7, q8, q9, q10⟩ := cells11 BR1
  obtain ⟨g0, g1, g2, g3, g4, g5, g6, g7, g8, g9, g10⟩ := frozen11 BR1
  have TR := Lib.hid BR1
  clear BR1
  go_wp2_with (fail)
  have FB := blk_set11 TR.out rfl (.slice none 0 0) (.int .i64 0) (.bool false) (.bool false) (.int .i64 0) (.int .i64 0) (.int .i64 0) (.int .i64 0) (.int .i64 0) (.slice none 0 0) (.int .i64 0)
  have KL := keep_set11 w1 (w.heap.size + 1) (.slice none 0 0) (.int .i64 0) (.bool false) (.bool false) (.int .i64 0) (.int .i64 0) (.int .i64 0) (.int .i64 0) (.int .i64 0) (.slice none 0 0) (.int .i64 0)
  have KF := K1.out.step KL (by simp)
  refine bodyPost_ret (results_ct rfl _ _ (w.heap.size + 1) 36 #[.slice none 0 0, .int .i64 0, .bool false, .bool false, .int .i64 0, .int .i64 0, .int .i64 0, .int .i64 0, .int .i64 0, .slice none 0 0, .int .i64 0] (0, 0) _ rfl FB Try.underlying36 rfl (by kernel_rfl)) rfl ?_
  exact ⟨bodyR_none rfl rfl rfl, KF⟩
set_option maxHeartbeats 2000000 in
theorem rread_0 (hr : Reads w w.heap.size 1 A n (encB bs)) (hc : n ≤ c) (hc2 : c ≤ 9223372036854775807) (hlen : n ≤ 1099511627776) (h1 : ¬ s = 0)  :
    Calls Try.prog 16 #[.agg #[.int .i64 0, .int .i64 f.toNat, .int .i64 s, .slice A n c]] w fun e w' => BodyR w' w.heap.size e (frF 0 f bs) ∧ Keep [] w w' := by
  have Hr := Lib.hid hr
  clear hr
  go_enter Try.func16, Try.ntmps16
  go_wp2_with (fail)
  have BF := (Blk.new w 24 #[.int .i64 0, .int .i64 f.toNat, .int .i64 s, .slice A n c]).alloc (.cells #[.slice none 0 0, .int .i64 0, .bool false, .bool false, .int .i64 0, .int .i64 0, .int .i64 0, .int .i64 0, .int .i64 0, .slice none 0 0, .int .i64 0] 36)
  have BR := Blk.new (w.alloc (.cells #[.int .i64 0, .int .i64 f.toNat, .int .i64 s, .slice A n c] 24)) 36 #[.slice none 0 0, .int .i64 0, .bool false, .bool false, .int .i64 0, .int .i64 0, .int .i64 0, .int .i64 0, .int .i64 0, .slice none 0 0, .int .i64 0]
  have K0 : Keep [] w ((w.alloc (.cells #[.int .i64 0, .int .i64 f.toNat, .int .i64 s, .slice A n c] 24)).alloc (.cells #[.slice none 0 0, .int .i64 0, .bool false, .bool false, .int .i64 0, .int .i64 0, .int .i64 0, .int .i64 0, .int .i64 0, .slice none 0 0, .int .i64 0] 36)) := ((Keep.refl _ _).alloc _).alloc _
  have e0 : ((w.alloc (.cells #[.int .i64 0, .int .i64 f.toNat, .int .i64 s, .slice A n c] 24)).alloc (.cells #[.slice none 0 0, .int .i64 0, .bool false, .bool false, .int .i64 0, .int .i64 0, .int .i64 0, .int .i64 0, .int .i64 0, .slice none 0 0, .int .i64 0] 36)).heap.size = w.heap.size + 2 := by simp
  simp only [World.size_alloc] at BR
  obtain ⟨w0, hw0⟩ : ∃ w0, w0 = ((w.alloc (.cells #[.int .i64 0, .int .i64 f.toNat, .int .i64 s, .slice A n c] 24)).alloc (.cells #[.slice none 0 0, .int .i64 0, .bool false, .bool false, .int .i64 0, .int .i64 0, .int .i64 0, .int .i64 0, .int .i64 0, .slice none 0 0, .int .i64 0] 36)) := ⟨_, rfl⟩
  rw [← hw0] at BF BR K0 e0 ⊢
  clear hw0
  refine (rstream_ w0 0 1 rfl).mono ?_
  rintro e w1 ⟨rfl, k1⟩
  have BF1 := BF.keep k1 (by simp)
  have BR1 := BR.keep k1 (by simp)
  have K1 := Lib.hid (K0.trans k1)
  have z1 : w.heap.size + 2 ≤ w1.heap.size := by have := k1.size; omega
  have Hz1 := Lib.hid z1
  have hrd := (Hr.out.keeps K1.out (Nat.le_refl _) (by simp)).more K1.out.size
  have HRD := Lib.hid hrd
  clear BF BR K0 k1 e0 Hr hrd z1
  have d0 := BF1.cell 0
  have d1 := BF1.cell 1
  have d2 := BF1.cell 2
  have d3 := BF1.cell 3
  simp at d0 d1 d2 d3
  go_wp2_with (fail)
  have hF := rfrag_all w1 (s := s) (f := f) 0 rfl HRD.out hc hc2 hlen
  refine hF.mono ?_
  rintro e w2 ⟨hb, k2⟩
  clear hF
  obtain ⟨⟨bd, code⟩, hbd, hb⟩ : ∃ x, x = frF 0 f bs ∧ BodyR w2 w1.heap.size e x := ⟨_, rfl, hb⟩
  have Hbd := Lib.hid hbd
  clear hbd
  obtain ⟨v0, v9, rfl, row0, own9⟩ := hb
  obtain ⟨Ad, cd, rfl, _, _, _⟩ := row0.reads
  obtain ⟨As, cs, rfl, _, _⟩ := own_slice2 own9
  simp only [encB_len] at row0 ⊢
  have BR2 := BR1.keep k2 (by simp)
  have K2 := Lib.hid (K1.out.trans k2)
  have HRW := Lib.hid (And.intro row0 own9)
  unfold Bd.vals
  try simp only
  clear BR1 k2 row0 own9 d0 d1 d2 d3 BF1 HRD
  obtain ⟨q0, q1, q2, q3, q4, q5, q6, q7, q8, q9, q10⟩ := cells11 BR2
  obtain ⟨g0, g1, g2, g3, g4, g5, g6, g7, g8, g9, g10⟩ := frozen11 BR2
  have TR := Lib.hid BR2
  clear BR2
  go_wp2_with (fail)
  have FB := blk_set11 TR.out rfl (.slice Ad bd.data.length cd) (.int .i64 bd.pad) (.bool bd.prio) (.bool bd.excl) (.int .i64 bd.dep) (.int .i64 bd.weight) (.int .i64 bd.code) (.int .i64 bd.last) (.int .i64 bd.inc) (.slice As bd.sets.length cs) (.int .i64 bd.prom)
  have KL := keep_set11 w2 (w.heap.size + 1) (.slice Ad bd.data.length cd) (.int .i64 bd.pad) (.bool bd.prio) (.bool bd.excl) (.int .i64 bd.dep) (.int .i64 bd.weight) (.int .i64 bd.code) (.int .i64 bd.last) (.int .i64 bd.inc) (.slice As bd.sets.length cs) (.int .i64 bd.prom)
  have KF := K2.out.step KL (by simp)
  refine bodyPost_ret (results_ct rfl _ _ (w.heap.size + 1) 36 #[.slice Ad bd.data.length cd, .int .i64 bd.pad, .bool bd.prio, .bool bd.excl, .int .i64 bd.dep, .int .i64 bd.weight, .int .i64 bd.code, .int .i64 bd.last, .int .i64 bd.inc, .slice As bd.sets.length cs, .int .i64 bd.prom] (0, 0) _ rfl FB Try.underlying36 rfl (by kernel_rfl)) rfl ?_
  have hz := Hz1.out
  have hrw := HRW.out.1.keep KL (fun g hg hm => row_off_blk HRW.out.1 TR.out (by decide) (by rw [show g = w.heap.size + 1 by simpa using hm] at hg; exact hg))
  have how := own_keep HRW.out.2 KL (own_off HRW.out.2 TR.out (by decide))
  have hbd2 := Hbd.out
  refine ⟨?_, KF⟩
  rw [← hbd2]
  refine ⟨.slice Ad bd.data.length cd, .slice As bd.sets.length cs, rfl, ?_, own_lower how (show w.heap.size ≤ w1.heap.size by omega)⟩
  simp only
  exact hrw.lower (by omega)
set_option maxHeartbeats 2000000 in
theorem rread_1 (hr : Reads w w.heap.size 1 A n (encB bs)) (hc : n ≤ c) (hc2 : c ≤ 9223372036854775807) (hlen : n ≤ 1099511627776) (h1 : ¬ s = 0)  :
    Calls Try.prog 16 #[.agg #[.int .i64 1, .int .i64 f.toNat, .int .i64 s, .slice A n c]] w fun e w' => BodyR w' w.heap.size e (frF 1 f bs) ∧ Keep [] w w' := by
  have Hr := Lib.hid hr
  clear hr
  go_enter Try.func16, Try.ntmps16
  go_wp2_with (fail)
  have BF := (Blk.new w 24 #[.int .i64 1, .int .i64 f.toNat, .int .i64 s, .slice A n c]).alloc (.cells #[.slice none 0 0, .int .i64 0, .bool false, .bool false, .int .i64 0, .int .i64 0, .int .i64 0, .int .i64 0, .int .i64 0, .slice none 0 0, .int .i64 0] 36)
  have BR := Blk.new (w.alloc (.cells #[.int .i64 1, .int .i64 f.toNat, .int .i64 s, .slice A n c] 24)) 36 #[.slice none 0 0, .int .i64 0, .bool false, .bool false, .int .i64 0, .int .i64 0, .int .i64 0, .int .i64 0, .int .i64 0, .slice none 0 0, .int .i64 0]
  have K0 : Keep [] w ((w.alloc (.cells #[.int .i64 1, .int .i64 f.toNat, .int .i64 s, .slice A n c] 24)).alloc (.cells #[.slice none 0 0, .int .i64 0, .bool false, .bool false, .int .i64 0, .int .i64 0, .int .i64 0, .int .i64 0, .int .i64 0, .slice none 0 0, .int .i64 0] 36)) := ((Keep.refl _ _).alloc _).alloc _
  have e0 : ((w.alloc (.cells #[.int .i64 1, .int .i64 f.toNat, .int .i64 s, .slice A n c] 24)).alloc (.cells #[.slice none 0 0, .int .i64 0, .bool false, .bool false, .int .i64 0, .int .i64 0, .int .i64 0, .int .i64 0, .int .i64 0, .slice none 0 0, .int .i64 0] 36)).heap.size = w.heap.size + 2 := by simp
  simp only [World.size_alloc] at BR
  obtain ⟨w0, hw0⟩ : ∃ w0, w0 = ((w.alloc (.cells #[.int .i64 1, .int .i64 f.toNat, .int .i64 s, .slice A n c] 24)).alloc (.cells #[.slice none 0 0, .int .i64 0, .bool false, .bool false, .int .i64 0, .int .i64 0, .int .i64 0, .int .i64 0, .int .i64 0, .slice none 0 0, .int .i64 0] 36)) := ⟨_, rfl⟩
  rw [← hw0] at BF BR K0 e0 ⊢
  clear hw0
  refine (rstream_ w0 1 1 rfl).mono ?_
  rintro e w1 ⟨rfl, k1⟩
  have BF1 := BF.keep k1 (by simp)
  have BR1 := BR.keep k1 (by simp)
  have K1 := Lib.hid (K0.trans k1)
  have z1 : w.heap.size + 2 ≤ w1.heap.size := by have := k1.size; omega
  have Hz1 := Lib.hid z1
  have hrd := (Hr.out.keeps K1.out (Nat.le_refl _) (by simp)).more K1.out.size
  have HRD := Lib.hid hrd
  clear BF BR K0 k1 e0 Hr hrd z1
  have d0 := BF1.cell 0
  have d1 := BF1.cell 1
  have d2 := BF1.cell 2
  have d3 := BF1.cell 3
  simp at d0 d1 d2 d3
  go_wp2_with (fail)
  have hF := rfrag_all w1 (s := s) (f := f) 1 rfl HRD.out hc hc2 hlen
  refine hF.mono ?_
  rintro e w2 ⟨hb, k2⟩
  clear hF
  obtain ⟨⟨bd, code⟩, hbd, hb⟩ : ∃ x, x = frF 1 f bs ∧ BodyR w2 w1.heap.size e x := ⟨_, rfl, hb⟩
  have Hbd := Lib.hid hbd
  clear hbd
  obtain ⟨v0, v9, rfl, row0, own9⟩ := hb
  obtain ⟨Ad, cd, rfl, _, _, _⟩ := row0.reads
  obtain ⟨As, cs, rfl, _, _⟩ := own_slice2 own9
  simp only [encB_len] at row0 ⊢
  have BR2 := BR1.keep k2 (by simp)
  have K2 := Lib.hid (K1.out.trans k2)
  have HRW := Lib.hid (And.intro row0 own9)
  unfold Bd.vals
  try simp only
  clear BR1 k2 row0 own9 d0 d1 d2 d3 BF1 HRD
  obtain ⟨q0, q1, q2, q3, q4, q5, q6, q7, q8, q9, q10⟩ := cells11 BR2
  obtain ⟨g0, g1, g2, g3, g4, g5, g6, g7, g8, g9, g10⟩ := frozen11 BR2
  have TR := Lib.hid BR2
  clear BR2
  go_wp2_with (fail)
  have FB := blk_set11 TR.out rfl (.slice Ad bd.data.length cd) (.int .i64 bd.pad) (.bool bd.prio) (.bool bd.excl) (.int .i64 bd.dep) (.int .i64 bd.weight) (.int .i64 bd.code) (.int .i64 bd.last) (.int .i64 bd.inc) (.slice As bd.sets.length cs) (.int .i64 bd.prom)
  have KL := keep_set11 w2 (w.heap.size + 1) (.slice Ad bd.data.length cd) (.int .i64 bd.pad) (.bool bd.prio) (.bool bd.excl) (.int .i64 bd.dep) (.int .i64 bd.weight) (.int .i64 bd.code) (.int .i64 bd.last) (.int .i64 bd.inc) (.slice As bd.sets.length cs) (.int .i64 bd.prom)
  have KF := K2.out.step KL (by simp)
  refine bodyPost_ret (results_ct rfl _ _ (w.heap.size + 1) 36 #[.slice Ad bd.data.length cd, .int .i64 bd.pad, .bool bd.prio, .bool bd.excl, .int .i64 bd.dep, .int .i64 bd.weight, .int .i64 bd.code, .int .i64 bd.last, .int .i64 bd.inc, .slice As bd.sets.length cs, .int .i64 bd.prom] (0, 0) _ rfl FB Try.underlying36 rfl (by kernel_rfl)) rfl ?_
  have hz := Hz1.out
  have hrw := HRW.out.1.keep KL (fun g hg hm => row_off_blk HRW.out.1 TR.out (by decide) (by rw [show g = w.heap.size + 1 by simpa using hm] at hg; exact hg))
  have how := own_keep HRW.out.2 KL (own_off HRW.out.2 TR.out (by decide))
  have hbd2 := Hbd.out
  refine ⟨?_, KF⟩
  rw [← hbd2]
  refine ⟨.slice Ad bd.data.length cd, .slice As bd.sets.length cs, rfl, ?_, own_lower how (show w.heap.size ≤ w1.heap.size by omega)⟩
  simp only
  exact hrw.lower (by omega)
set_option maxHeartbeats 2000000 in
theorem rread_5 (hr : Reads w w.heap.size 1 A n (encB bs)) (hc : n ≤ c) (hc2 : c ≤ 9223372036854775807) (hlen : n ≤ 1099511627776) (h1 : ¬ s = 0)  :
    Calls Try.prog 16 #[.agg #[.int .i64 5, .int .i64 f.toNat, .int .i64 s, .slice A n c]] w fun e w' => BodyR w' w.heap.size e (frF 5 f bs) ∧ Keep [] w w' := by
  have Hr := Lib.hid hr
  clear hr
  go_enter Try.func16, Try.ntmps16
  go_wp2_with (fail)
  have BF := (Blk.new w 24 #[.int .i64 5, .int .i64 f.toNat, .int .i64 s, .slice A n c]).alloc (.cells #[.slice none 0 0, .int .i64 0, .bool false, .bool false, .int .i64 0, .int .i64 0, .int .i64 0, .int .i64 0, .int .i64 0, .slice none 0 0, .int .i64 0] 36)
  have BR := Blk.new (w.alloc (.cells #[.int .i64 5, .int .i64 f.toNat, .int .i64 s, .slice A n c] 24)) 36 #[.slice none 0 0, .int .i64 0, .bool false, .bool false, .int .i64 0, .int .i64 0, .int .i64 0, .int .i64 0, .int .i64 0, .slice none 0 0, .int .i64 0]
  have K0 : Keep [] w ((w.alloc (.cells #[.int .i64 5, .int .i64 f.toNat, .int .i64 s, .slice A n c] 24)).alloc (.cells #[.slice none 0 0, .int .i64 0, .bool false, .bool false, .int .i64 0, .int .i64 0, .int .i64 0, .int .i64 0, .int .i64 0, .slice none 0 0, .int .i64 0] 36)) := ((Keep.refl _ _).alloc _).alloc _
  have e0 : ((w.alloc (.cells #[.int .i64 5, .int .i64 f.toNat, .int .i64 s, .slice A n c] 24)).alloc (.cells #[.slice none 0 0, .int .i64 0, .bool false, .bool false, .int .i64 0, .int .i64 0, .int .i64 0, .int .i64 0, .int .i64 0, .slice none 0 0, .int .i64 0] 36)).heap.size = w.heap.size + 2 := by simp
  simp only [World.size_alloc] at BR
  obtain ⟨w0, hw0⟩ : ∃ w0, w0 = ((w.alloc (.cells #[.int .i64 5, .int .i64 f.toNat, .int .i64 s, .slice A n c] 24)).alloc (.cells #[.slice none 0 0, .int .i64 0, .bool false, .bool false, .int .i64 0, .int .i64 0, .int .i64 0, .int .i64 0, .int .i64 0, .slice none 0 0, .int .i64 0] 36)) := ⟨_, rfl⟩
  rw [← hw0] at BF BR K0 e0 ⊢
  clear hw0
  refine (rstream_ w0 5 1 rfl).mono ?_
  rintro e w1 ⟨rfl, k1⟩
  have BF1 := BF.keep k1 (by simp)
  have BR1 := BR.keep k1 (by simp)
  have K1 := Lib.hid (K0.trans k1)
  have z1 : w.heap.size + 2 ≤ w1.heap.size := by have := k1.size; omega
  have Hz1 := Lib.hid z1
  have hrd := (Hr.out.keeps K1.out (Nat.le_refl _) (by simp)).more K1.out.size
  have HRD := Lib.hid hrd
  clear BF BR K0 k1 e0 Hr hrd z1
  have d0 := BF1.cell 0
  have d1 := BF1.cell 1
  have d2 := BF1.cell 2
  have d3 := BF1.cell 3
  simp at d0 d1 d2 d3
  go_wp2_with (fail)
  have hF := rfrag_all w1 (s := s) (f := f) 5 rfl HRD.out hc hc2 hlen
  refine hF.mono ?_
  rintro e w2 ⟨hb, k2⟩
  clear hF
  obtain ⟨⟨bd, code⟩, hbd, hb⟩ : ∃ x, x = frF 5 f bs ∧ BodyR w2 w1.heap.size e x := ⟨_, rfl, hb⟩
  have Hbd := Lib.hid hbd
  clear hbd
  obtain ⟨v0, v9, rfl, row0, own9⟩ := hb
  obtain ⟨Ad, cd, rfl, _, _, _⟩ := row0.reads
  obtain ⟨As, cs, rfl, _, _⟩ := own_slice2 own9
  simp only [encB_len] at row0 ⊢
  have BR2 := BR1.keep k2 (by simp)
  have K2 := Lib.hid (K1.out.trans k2)
  have HRW := Lib.hid (And.intro row0 own9)
  unfold Bd.vals
  try simp only
  clear BR1 k2 row0 own9 d0 d1 d2 d3 BF1 HRD
  obtain ⟨q0, q1, q2, q3, q4, q5, q6, q7, q8, q9, q10⟩ := cells11 BR2
  obtain ⟨g0, g1, g2, g3, g4, g5, g6, g7, g8, g9, g10⟩ := frozen11 BR2
  have TR := Lib.hid BR2
  clear BR2
  go_wp2_with (fail)
  have FB := blk_set11 TR.out rfl (.slice Ad bd.data.length cd) (.int .i64 bd.pad) (.bool bd.prio) (.bool bd.excl) (.int .i64 bd.dep) (.int .i64 bd.weight) (.int .i64 bd.code) (.int .i64 bd.last) (.int .i64 bd.inc) (.slice As bd.sets.length cs) (.int .i64 bd.prom)
  have KL := keep_set11 w2 (w.heap.size + 1) (.slice Ad bd.data.length cd) (.int .i64 bd.pad) (.bool bd.prio) (.bool bd.excl) (.int .i64 bd.dep) (.int .i64 bd.weight) (.int .i64 bd.code) (.int .i64 bd.last) (.int .i64 bd.inc) (.slice As bd.sets.length cs) (.int .i64 bd.prom)
  have KF := K2.out.step KL (by simp)
  refine bodyPost_ret (results_ct rfl _ _ (w.heap.size + 1) 36 #[.slice Ad bd.data.length cd, .int .i64 bd.pad, .bool bd.prio, .bool bd.excl, .int .i64 bd.dep, .int .i64 bd.weight, .int .i64 bd.code, .int .i64 bd.last, .int .i64 bd.inc, .slice As bd.sets.length cs, .int .i64 bd.prom] (0, 0) _ rfl FB Try.underlying36 rfl (by kernel_rfl)) rfl ?_
  have hz := Hz1.out
  have hrw := HRW.out.1.keep KL (fun g hg hm => row_off_blk HRW.out.1 TR.out (by decide) (by rw [show g = w.heap.size + 1 by simpa using hm] at hg; exact hg))
  have how := own_keep HRW.out.2 KL (own_off HRW.out.2 TR.out (by decide))
  have hbd2 := Hbd.out
  refine ⟨?_, KF⟩
  rw [← hbd2]
  refine ⟨.slice Ad bd.data.length cd, .slice As bd.sets.length cs, rfl, ?_, own_lower how (show w.heap.size ≤ w1.heap.size by omega)⟩
  simp only
  exact hrw.lower (by omega)
set_option maxHeartbeats 2000000 in
theorem rread_4 (hr : Reads w w.heap.size 1 A n (encB bs)) (hc : n ≤ c) (hc2 : c ≤ 9223372036854775807) (hlen : n ≤ 1099511627776) (h0 : s = 0)  :
    Calls Try.prog 16 #[.agg #[.int .i64 4, .int .i64 f.toNat, .int .i64 s, .slice A n c]] w fun e w' => BodyR w' w.heap.size e (setR f bs) ∧ Keep [] w w' := by
  subst h0
  have Hr := Lib.hid hr
  clear hr
  go_enter Try.func16, Try.ntmps16
  go_wp2_with (fail)
  have BF := (Blk.new w 24 #[.int .i64 4, .int .i64 f.toNat, .int .i64 0, .slice A n c]).alloc (.cells #[.slice none 0 0, .int .i64 0, .bool false, .bool false, .int .i64 0, .int .i64 0, .int .i64 0, .int .i64 0, .int .i64 0, .slice none 0 0, .int .i64 0] 36)
  have BR := Blk.new (w.alloc (.cells #[.int .i64 4, .int .i64 f.toNat, .int .i64 0, .slice A n c] 24)) 36 #[.slice none 0 0, .int .i64 0, .bool false, .bool false, .int .i64 0, .int .i64 0, .int .i64 0, .int .i64 0, .int .i64 0, .slice none 0 0, .int .i64 0]
  have K0 : Keep [] w ((w.alloc (.cells #[.int .i64 4, .int .i64 f.toNat, .int .i64 0, .slice A n c] 24)).alloc (.cells #[.slice none 0 0, .int .i64 0, .bool false, .bool false, .int .i64 0, .int .i64 0, .int .i64 0, .int .i64 0, .int .i64 0, .slice none 0 0, .int .i64 0] 36)) := ((Keep.refl _ _).alloc _).alloc _
  have e0 : ((w.alloc (.cells #[.int .i64 4, .int .i64 f.toNat, .int .i64 0, .slice A n c] 24)).alloc (.cells #[.slice none 0 0, .int .i64 0, .bool false, .bool false, .int .i64 0, .int .i64 0, .int .i64 0, .int .i64 0, .int .i64 0, .slice none 0 0, .int .i64 0] 36)).heap.size = w.heap.size + 2 := by simp
  simp only [World.size_alloc] at BR
  obtain ⟨w0, hw0⟩ : ∃ w0, w0 = ((w.alloc (.cells #[.int .i64 4, .int .i64 f.toNat, .int .i64 0, .slice A n c] 24)).alloc (.cells #[.slice none 0 0, .int .i64 0, .bool false, .bool false, .int .i64 0, .int .i64 0, .int .i64 0, .int .i64 0, .int .i64 0, .slice none 0 0, .int .i64 0] 36)) := ⟨_, rfl⟩
  rw [← hw0] at BF BR K0 e0 ⊢
  clear hw0
  refine (rstream_ w0 4 2 rfl).mono ?_
  rintro e w1 ⟨rfl, k1⟩
  have BF1 := BF.keep k1 (by simp)
  have BR1 := BR.keep k1 (by simp)
  have K1 := Lib.hid (K0.trans k1)
  have z1 : w.heap.size + 2 ≤ w1.heap.size := by have := k1.size; omega
  have Hz1 := Lib.hid z1
  have hrd := (Hr.out.keeps K1.out (Nat.le_refl _) (by simp)).more K1.out.size
  have HRD := Lib.hid hrd
  clear BF BR K0 k1 e0 Hr hrd z1
  have d0 := BF1.cell 0
  have d1 := BF1.cell 1
  have d2 := BF1.cell 2
  have d3 := BF1.cell 3
  simp at d0 d1 d2 d3
  go_wp2_with (fail)
  have hF := rset_ w1 4 0 f HRD.out hc hlen
  refine hF.mono ?_
  rintro e w2 ⟨hb, k2⟩
  clear hF
  obtain ⟨⟨bd, code⟩, hbd, hb⟩ : ∃ x, x = (setR f bs) ∧ BodyR w2 w1.heap.size e x := ⟨_, rfl, hb⟩
  have Hbd := Lib.hid hbd
  clear hbd
  obtain ⟨v0, v9, rfl, row0, own9⟩ := hb
  obtain ⟨Ad, cd, rfl, _, _, _⟩ := row0.reads
  obtain ⟨As, cs, rfl, _, _⟩ := own_slice2 own9
  simp only [encB_len] at row0 ⊢
  have BR2 := BR1.keep k2 (by simp)
  have K2 := Lib.hid (K1.out.trans k2)
  have HRW := Lib.hid (And.intro row0 own9)
  unfold Bd.vals
  try simp only
  clear BR1 k2 row0 own9 d0 d1 d2 d3 BF1 HRD
  obtain ⟨q0, q1, q2, q3, q4, q5, q6, q7, q8, q9, q10⟩ := cells11 BR2
  obtain ⟨g0, g1, g2, g3, g4, g5, g6, g7, g8, g9, g10⟩ := frozen11 BR2
  have TR := Lib.hid BR2
  clear BR2
  go_wp2_with (fail)
  have FB := blk_set11 TR.out rfl (.slice Ad bd.data.length cd) (.int .i64 bd.pad) (.bool bd.prio) (.bool bd.excl) (.int .i64 bd.dep) (.int .i64 bd.weight) (.int .i64 bd.code) (.int .i64 bd.last) (.int .i64 bd.inc) (.slice As bd.sets.length cs) (.int .i64 bd.prom)
  have KL := keep_set11 w2 (w.heap.size + 1) (.slice Ad bd.data.length cd) (.int .i64 bd.pad) (.bool bd.prio) (.bool bd.excl) (.int .i64 bd.dep) (.int .i64 bd.weight) (.int .i64 bd.code) (.int .i64 bd.last) (.int .i64 bd.inc) (.slice As bd.sets.length cs) (.int .i64 bd.prom)
  have KF := K2.out.step KL (by simp)
  refine bodyPost_ret (results_ct rfl _ _ (w.heap.size + 1) 36 #[.slice Ad bd.data.length cd, .int .i64 bd.pad, .bool bd.prio, .bool bd.excl, .int .i64 bd.dep, .int .i64 bd.weight, .int .i64 bd.code, .int .i64 bd.last, .int .i64 bd.inc, .slice As bd.sets.length cs, .int .i64 bd.prom] (0, 0) _ rfl FB Try.underlying36 rfl (by kernel_rfl)) rfl ?_
  have hz := Hz1.out
  have hrw := HRW.out.1.keep KL (fun g hg hm => row_off_blk HRW.out.1 TR.out (by decide) (by rw [show g = w.heap.size + 1 by simpa using hm] at hg; exact hg))
  have how := own_keep HRW.out.2 KL (own_off HRW.out.2 TR.out (by decide))
  have hbd2 := Hbd.out
  refine ⟨?_, KF⟩
  rw [← hbd2]
  refine ⟨.slice Ad bd.data.length cd, .slice As bd.sets.length cs, rfl, ?_, own_lower how (show w.heap.size ≤ w1.heap.size by omega)⟩
  simp only
  exact hrw.lower (by omega)
set_option maxHeartbeats 2000000 in
theorem rread_2s (hr : Reads w w.heap.size 1 A n (encB bs)) (hc : n ≤ c) (hc2 : c ≤ 9223372036854775807) (hlen : n ≤ 1099511627776) (h1 : ¬ s = 0) (hs : ¬ n = 5)  :
    Calls Try.prog 16 #[.agg #[.int .i64 2, .int .i64 f.toNat, .int .i64 s, .slice A n c]] w fun e w' => BodyR w' w.heap.size e (bd0, 6) ∧ Keep [] w w' := by
  have hne : ((n : Int) == 5) = false := by rw [beq_eq_false_iff_ne]; omega
  have hne2 : ((n : Int) != 5) = true := by simp; omega
  have HS := Lib.hid hs
  clear hs
  have Hr := Lib.hid hr
  clear hr
  go_enter Try.func16, Try.ntmps16
  go_wp2_with (fail)
  have BF := (Blk.new w 24 #[.int .i64 2, .int .i64 f.toNat, .int .i64 s, .slice A n c]).alloc (.cells #[.slice none 0 0, .int .i64 0, .bool false, .bool false, .int .i64 0, .int .i64 0, .int .i64 0, .int .i64 0, .int .i64 0, .slice none 0 0, .int .i64 0] 36)
  have BR := Blk.new (w.alloc (.cells #[.int .i64 2, .int .i64 f.toNat, .int .i64 s, .slice A n c] 24)) 36 #[.slice none 0 0, .int .i64 0, .bool false, .bool false, .int .i64 0, .int .i64 0, .int .i64 0, .int .i64 0, .int .i64 0, .slice none 0 0, .int .i64 0]
  have K0 : Keep [] w ((w.alloc (.cells #[.int .i64 2, .int .i64 f.toNat, .int .i64 s, .slice A n c] 24)).alloc (.cells #[.slice none 0 0, .int .i64 0, .bool false, .bool false, .int .i64 0, .int .i64 0, .int .i64 0, .int .i64 0, .int .i64 0, .slice none 0 0, .int .i64 0] 36)) := ((Keep.refl _ _).alloc _).alloc _
  have e0 : ((w.alloc (.cells #[.int .i64 2, .int .i64 f.toNat, .int .i64 s, .slice A n c] 24)).alloc (.cells #[.slice none 0 0, .int .i64 0, .bool false, .bool false, .int .i64 0, .int .i64 0, .int .i64 0, .int .i64 0, .int .i64 0, .slice none 0 0, .int .i64 0] 36)).heap.size = w.heap.size + 2 := by simp
  simp only [World.size_alloc] at BR
  obtain ⟨w0, hw0⟩ : ∃ w0, w0 = ((w.alloc (.cells #[.int .i64 2, .int .i64 f.toNat, .int .i64 s, .slice A n c] 24)).alloc (.cells #[.slice none 0 0, .int .i64 0, .bool false, .bool false, .int .i64 0, .int .i64 0, .int .i64 0, .int .i64 0, .int .i64 0, .slice none 0 0, .int .i64 0] 36)) := ⟨_, rfl⟩
  rw [← hw0] at BF BR K0 e0 ⊢
  clear hw0
  refine (rstream_ w0 2 1 rfl).mono ?_
  rintro e w1 ⟨rfl, k1⟩
  have BF1 := BF.keep k1 (by simp)
  have BR1 := BR.keep k1 (by simp)
  have K1 := Lib.hid (K0.trans k1)
  have z1 : w.heap.size + 2 ≤ w1.heap.size := by have := k1.size; omega
  have Hz1 := Lib.hid z1
  have hrd := (Hr.out.keeps K1.out (Nat.le_refl _) (by simp)).more K1.out.size
  have HRD := Lib.hid hrd
  clear BF BR K0 k1 e0 Hr hrd z1
  have d0 := BF1.cell 0
  have d1 := BF1.cell 1
  have d2 := BF1.cell 2
  have d3 := BF1.cell 3
  simp at d0 d1 d2 d3
  obtain ⟨q0, q1, q2, q3, q4, q5, q6, q7, q8, q9, q10⟩ := cells11 BR1
  obtain ⟨g0, g1, g2, g3, g4, g5, g6, g7, g8, g9, g10⟩ := frozen11 BR1
  have TR := Lib.hid BR1
  clear BR1
  go_wp2_with (fail)
  have FB := blk_set11 TR.out rfl (.slice none 0 0) (.int .i64 0) (.bool false) (.bool false) (.int .i64 0) (.int .i64 0) (.int .i64 0) (.int .i64 0) (.int .i64 0) (.slice none 0 0) (.int .i64 0)
  have KL := keep_set11 w1 (w.heap.size + 1) (.slice none 0 0) (.int .i64 0) (.bool false) (.bool false) (.int .i64 0) (.int .i64 0) (.int .i64 0) (.int .i64 0) (.int .i64 0) (.slice none 0 0) (.int .i64 0)
  have KF := K1.out.step KL (by simp)
  refine bodyPost_ret (results_ct rfl _ _ (w.heap.size + 1) 36 #[.slice none 0 0, .int .i64 0, .bool false, .bool false, .int .i64 0, .int .i64 0, .int .i64 0, .int .i64 0, .int .i64 0, .slice none 0 0, .int .i64 0] (0, 0) _ rfl FB Try.underlying36 rfl (by kernel_rfl)) rfl ?_
  exact ⟨bodyR_none rfl rfl rfl, KF⟩
set_option maxHeartbeats 2000000 in
theorem rread_3s (hr : Reads w w.heap.size 1 A n (encB bs)) (hc : n ≤ c) (hc2 : c ≤ 9223372036854775807) (hlen : n ≤ 1099511627776) (h1 : ¬ s = 0) (hs : ¬ n = 4)  :
    Calls Try.prog 16 #[.agg #[.int .i64 3, .int .i64 f.toNat, .int .i64 s, .slice A n c]] w fun e w' => BodyR w' w.heap.size e (bd0, 6) ∧ Keep [] w w' := by
  have hne : ((n : Int) == 4) = false := by rw [beq_eq_false_iff_ne]; omega
  have hne2 : ((n : Int) != 4) = true := by simp; omega
  have HS := Lib.hid hs
  clear hs
  have Hr := Lib.hid hr
  clear hr
  go_enter Try.func16, Try.ntmps16
  go_wp2_with (fail)
  have BF := (Blk.new w 24 #[.int .i64 3, .int .i64 f.toNat, .int .i64 s, .slice A n c]).alloc (.cells #[.slice none 0 0, .int .i64 0, .bool false, .bool false, .int .i64 0, .int .i64 0, .int .i64 0, .int .i64 0, .int .i64 0, .slice none 0 0, .int .i64 0] 36)
  have BR := Blk.new (w.alloc (.cells #[.int .i64 3, .int .i64 f.toNat, .int .i64 s, .slice A n c] 24)) 36 #[.slice none 0 0, .int .i64 0, .bool false, .bool false, .int .i64 0, .int .i64 0, .int .i64 0, .int .i64 0, .int .i64 0, .slice none 0 0, .int .i64 0]
  have K0 : Keep [] w ((w.alloc (.cells #[.int .i64 3, .int .i64 f.toNat, .int .i64 s, .slice A n c] 24)).alloc (.cells #[.slice none 0 0, .int .i64 0, .bool false, .bool false, .int .i64 0, .int .i64 0, .int .i64 0, .int .i64 0, .int .i64 0, .slice none 0 0, .int .i64 0] 36)) := ((Keep.refl _ _).alloc _).alloc _
  have e0 : ((w.alloc (.cells #[.int .i64 3, .int .i64 f.toNat, .int .i64 s, .slice A n c] 24)).alloc (.cells #[.slice none 0 0, .int .i64 0, .bool false, .bool false, .int .i64 0, .int .i64 0, .int .i64 0, .int .i64 0, .int .i64 0, .slice none 0 0, .int .i64 0] 36)).heap.size = w.heap.size + 2 := by simp
  simp only [World.size_alloc] at BR
  obtain ⟨w0, hw0⟩ : ∃ w0, w0 = ((w.alloc (.cells #[.int .i64 3, .int .i64 f.toNat, .int .i64 s, .slice A n c] 24)).alloc (.cells #[.slice none 0 0, .int .i64 0, .bool false, .bool false, .int .i64 0, .int .i64 0, .int .i64 0, .int .i64 0, .int .i64 0, .slice none 0 0, .int .i64 0] 36)) := ⟨_, rfl⟩
  rw [← hw0] at BF BR K0 e0 ⊢
  clear hw0
  refine (rstream_ w0 3 1 rfl).mono ?_
  rintro e w1 ⟨rfl, k1⟩
  have BF1 := BF.keep k1 (by simp)
  have BR1 := BR.keep k1 (by simp)
  have K1 := Lib.hid (K0.trans k1)
  have z1 : w.heap.size + 2 ≤ w1.heap.size := by have := k1.size; omega
  have Hz1 := Lib.hid z1
  have hrd := (Hr.out.keeps K1.out (Nat.le_refl _) (by simp)).more K1.out.size
  have HRD := Lib.hid hrd
  clear BF BR K0 k1 e0 Hr hrd z1
  have d0 := BF1.cell 0
  have d1 := BF1.cell 1
  have d2 := BF1.cell 2
  have d3 := BF1.cell 3
  simp at d0 d1 d2 d3
  obtain ⟨q0, q1, q2, q3, q4, q5, q6, q7, q8, q9, q10⟩ := cells11 BR1
  obtain ⟨g0, g1, g2, g3, g4, g5, g6, g7, g8, g9, g10⟩ := frozen11 BR1
  have TR := Lib.hid BR1
  clear BR1
  go_wp2_with (fail)
  have FB := blk_set11 TR.out rfl (.slice none 0 0) (.int .i64 0) (.bool false) (.bool false) (.int .i64 0) (.int .i64 0) (.int .i64 0) (.int .i64 0) (.int .i64 0) (.slice none 0 0) (.int .i64 0)
  have KL := keep_set11 w1 (w.heap.size + 1) (.slice none 0 0) (.int .i64 0) (.bool false) (.bool false) (.int .i64 0) (.int .i64 0) (.int .i64 0) (.int .i64 0) (.int .i64 0) (.slice none 0 0) (.int .i64 0)
  have KF := K1.out.step KL (by simp)
  refine bodyPost_ret (results_ct rfl _ _ (w.heap.size + 1) 36 #[.slice none 0 0, .int .i64 0, .bool false, .bool false, .int .i64 0, .int .i64 0, .int .i64 0, .int .i64 0, .int .i64 0, .slice none 0 0, .int .i64 0] (0, 0) _ rfl FB Try.underlying36 rfl (by kernel_rfl)) rfl ?_
  exact ⟨bodyR_none rfl rfl rfl, KF⟩
set_option maxHeartbeats 2000000 in
theorem rread_8s (hr : Reads w w.heap.size 1 A n (encB bs)) (hc : n ≤ c) (hc2 : c ≤ 9223372036854775807) (hlen : n ≤ 1099511627776) (hs : ¬ n = 4)  :
    Calls Try.prog 16 #[.agg #[.int .i64 8, .int .i64 f.toNat, .int .i64 s, .slice A n c]] w fun e w' => BodyR w' w.heap.size e (bd0, 6) ∧ Keep [] w w' := by
  have hne : ((n : Int) == 4) = false := by rw [beq_eq_false_iff_ne]; omega
  have hne2 : ((n : Int) != 4) = true := by simp; omega
  have HS := Lib.hid hs
  clear hs
  have Hr := Lib.hid hr
  clear hr
  go_enter Try.func16, Try.ntmps16
  go_wp2_with (fail)
  have BF := (Blk.new w 24 #[.int .i64 8, .int .i64 f.toNat, .int .i64 s, .slice A n c]).alloc (.cells #[.slice none 0 0, .int .i64 0, .bool false, .bool false, .int .i64 0, .int .i64 0, .int .i64 0, .int .i64 0, .int .i64 0, .slice none 0 0, .int .i64 0] 36)
  have BR := Blk.new (w.alloc (.cells #[.int .i64 8, .int .i64 f.toNat, .int .i64 s, .slice A n c] 24)) 36 #[.slice none 0 0, .int .i64 0, .bool false, .bool false, .int .i64 0, .int .i64 0, .int .i64 0, .int .i64 0, .int .i64 0, .slice none 0 0, .int .i64 0]
  have K0 : Keep [] w ((w.alloc (.cells #[.int .i64 8, .int .i64 f.toNat, .int .i64 s, .slice A n c] 24)).alloc (.cells #[.slice none 0 0, .int .i64 0, .bool false, .bool false, .int .i64 0, .int .i64 0, .int .i64 0, .int .i64 0, .int .i64 0, .slice none 0 0, .int .i64 0] 36)) := ((Keep.refl _ _).alloc _).alloc _
  have e0 : ((w.alloc (.cells #[.int .i64 8, .int .i64 f.toNat, .int .i64 s, .slice A n c] 24)).alloc (.cells #[.slice none 0 0, .int .i64 0, .bool false, .bool false, .int .i64 0, .int .i64 0, .int .i64 0, .int .i64 0, .int .i64 0, .slice none 0 0, .int .i64 0] 36)).heap.size = w.heap.size + 2 := by simp
  simp only [World.size_alloc] at BR
  obtain ⟨w0, hw0⟩ : ∃ w0, w0 = ((w.alloc (.cells #[.int .i64 8, .int .i64 f.toNat, .int .i64 s, .slice A n c] 24)).alloc (.cells #[.slice none 0 0, .int .i64 0, .bool false, .bool false, .int .i64 0, .int .i64 0, .int .i64 0, .int .i64 0, .int .i64 0, .slice none 0 0, .int .i64 0] 36)) := ⟨_, rfl⟩
  rw [← hw0] at BF BR K0 e0 ⊢
  clear hw0
  refine (rstream_ w0 8 0 rfl).mono ?_
  rintro e w1 ⟨rfl, k1⟩
  have BF1 := BF.keep k1 (by simp)
  have BR1 := BR.keep k1 (by simp)
  have K1 := Lib.hid (K0.trans k1)
  have z1 : w.heap.size + 2 ≤ w1.heap.size := by have := k1.size; omega
  have Hz1 := Lib.hid z1
  have hrd := (Hr.out.keeps K1.out (Nat.le_refl _) (by simp)).more K1.out.size
  have HRD := Lib.hid hrd
  clear BF BR K0 k1 e0 Hr hrd z1
  have d0 := BF1.cell 0
  have d1 := BF1.cell 1
  have d2 := BF1.cell 2
  have d3 := BF1.cell 3
  simp at d0 d1 d2 d3
  obtain ⟨q0, q1, q2, q3, q4, q5, q6, q7, q8, q9, q10⟩ := cells11 BR1
  obtain ⟨g0, g1, g2, g3, g4, g5, g6, g7, g8, g9, g10⟩ := frozen11 BR1
  have TR := Lib.hid BR1
  clear BR1
  go_wp2_with (fail)
  have FB := blk_set11 TR.out rfl (.slice none 0 0) (.int .i64 0) (.bool false) (.bool false) (.int .i64 0) (.int .i64 0) (.int .i64 0) (.int .i64 0) (.int .i64 0) (.slice none 0 0) (.int .i64 0)
  have KL := keep_set11 w1 (w.heap.size + 1) (.slice none 0 0) (.int .i64 0) (.bool false) (.bool false) (.int .i64 0) (.int .i64 0) (.int .i64 0) (.int .i64 0) (.int .i64 0) (.slice none 0 0) (.int .i64 0)
  have KF := K1.out.step KL (by simp)
  refine bodyPost_ret (results_ct rfl _ _ (w.heap.size + 1) 36 #[.slice none 0 0, .int .i64 0, .bool false, .bool false, .int .i64 0, .int .i64 0, .int .i64 0, .int .i64 0, .int .i64 0, .slice none 0 0, .int .i64 0] (0, 0) _ rfl FB Try.underlying36 rfl (by kernel_rfl)) rfl ?_
  exact ⟨bodyR_none rfl rfl rfl, KF⟩
set_option maxHeartbeats 2000000 in
theorem rread_6s (hr : Reads w w.heap.size 1 A n (encB bs)) (hc : n ≤ c) (hc2 : c ≤ 9223372036854775807) (hlen : n ≤ 1099511627776) (h0 : s = 0) (hs : ¬ n = 8)  :
    Calls Try.prog 16 #[.agg #[.int .i64 6, .int .i64 f.toNat, .int .i64 s, .slice A n c]] w fun e w' => BodyR w' w.heap.size e (bd0, 6) ∧ Keep [] w w' := by
  subst h0
  have hne : ((n : Int) == 8) = false := by rw [beq_eq_false_iff_ne]; omega
  have hne2 : ((n : Int) != 8) = true := by simp; omega
  have HS := Lib.hid hs
  clear hs
  have Hr := Lib.hid hr
  clear hr
  go_enter Try.func16, Try.ntmps16
  go_wp2_with (fail)
  have BF := (Blk.new w 24 #[.int .i64 6, .int .i64 f.toNat, .int .i64 0, .slice A n c]).alloc (.cells #[.slice none 0 0, .int .i64 0, .bool false, .bool false, .int .i64 0, .int .i64 0, .int .i64 0, .int .i64 0, .int .i64 0, .slice none 0 0, .int .i64 0] 36)
  have BR := Blk.new (w.alloc (.cells #[.int .i64 6, .int .i64 f.toNat, .int .i64 0, .slice A n c] 24)) 36 #[.slice none 0 0, .int .i64 0, .bool false, .bool false, .int .i64 0, .int .i64 0, .int .i64 0, .int .i64 0, .int .i64 0, .slice none 0 0, .int .i64 0]
  have K0 : Keep [] w ((w.alloc (.cells #[.int .i64 6, .int .i64 f.toNat, .int .i64 0, .slice A n c] 24)).alloc (.cells #[.slice none 0 0, .int .i64 0, .bool false, .bool false, .int .i64 0, .int .i64 0, .int .i64 0, .int .i64 0, .int .i64 0, .slice none 0 0, .int .i64 0] 36)) := ((Keep.refl _ _).alloc _).alloc _
  have e0 : ((w.alloc (.cells #[.int .i64 6, .int .i64 f.toNat, .int .i64 0, .slice A n c] 24)).alloc (.cells #[.slice none 0 0, .int .i64 0, .bool false, .bool false, .int .i64 0, .int .i64 0, .int .i64 0, .int .i64 0, .int .i64 0, .slice none 0 0, .int .i64 0] 36)).heap.size = w.heap.size + 2 := by simp
  simp only [World.size_alloc] at BR
  obtain ⟨w0, hw0⟩ : ∃ w0, w0 = ((w.alloc (.cells #[.int .i64 6, .int .i64 f.toNat, .int .i64 0, .slice A n c] 24)).alloc (.cells #[.slice none 0 0, .int .i64 0, .bool false, .bool false, .int .i64 0, .int .i64 0, .int .i64 0, .int .i64 0, .int .i64 0, .slice none 0 0, .int .i64 0] 36)) := ⟨_, rfl⟩
  rw [← hw0] at BF BR K0 e0 ⊢
  clear hw0
  refine (rstream_ w0 6 2 rfl).mono ?_
  rintro e w1 ⟨rfl, k1⟩
  have BF1 := BF.keep k1 (by simp)
  have BR1 := BR.keep k1 (by simp)
  have K1 := Lib.hid (K0.trans k1)
  have z1 : w.heap.size + 2 ≤ w1.heap.size := by have := k1.size; omega
  have Hz1 := Lib.hid z1
  have hrd := (Hr.out.keeps K1.out (Nat.le_refl _) (by simp)).more K1.out.size
  have HRD := Lib.hid hrd
  clear BF BR K0 k1 e0 Hr hrd z1
  have d0 := BF1.cell 0
  have d1 := BF1.cell 1
  have d2 := BF1.cell 2
  have d3 := BF1.cell 3
  simp at d0 d1 d2 d3
  obtain ⟨q0, q1, q2, q3, q4, q5, q6, q7, q8, q9, q10⟩ := cells11 BR1
  obtain ⟨g0, g1, g2, g3, g4, g5, g6, g7, g8, g9, g10⟩ := frozen11 BR1
  have TR := Lib.hid BR1
  clear BR1
  go_wp2_with (fail)
  have FB := blk_set11 TR.out rfl (.slice none 0 0) (.int .i64 0) (.bool false) (.bool false) (.int .i64 0) (.int .i64 0) (.int .i64 0) (.int .i64 0) (.int .i64 0) (.slice none 0 0) (.int .i64 0)
  have KL := keep_set11 w1 (w.heap.size + 1) (.slice none 0 0) (.int .i64 0) (.bool false) (.bool false) (.int .i64 0) (.int .i64 0) (.int .i64 0) (.int .i64 0) (.int .i64 0) (.slice none 0 0) (.int .i64 0)
  have KF := K1.out.step KL (by simp)
  refine bodyPost_ret (results_ct rfl _ _ (w.heap.size + 1) 36 #[.slice none 0 0, .int .i64 0, .bool false, .bool false, .int .i64 0, .int .i64 0, .int .i64 0, .int .i64 0, .int .i64 0, .slice none 0 0, .int .i64 0] (0, 0) _ rfl FB Try.underlying36 rfl (by kernel_rfl)) rfl ?_
  exact ⟨bodyR_none rfl rfl rfl, KF⟩
set_option maxHeartbeats 2000000 in
theorem rread_7s (hr : Reads w w.heap.size 1 A n (encB bs)) (hc : n ≤ c) (hc2 : c ≤ 9223372036854775807) (hlen : n ≤ 1099511627776) (h0 : s = 0) (hs : n < 8)  :
    Calls Try.prog 16 #[.agg #[.int .i64 7, .int .i64 f.toNat, .int .i64 s, .slice A n c]] w fun e w' => BodyR w' w.heap.size e (bd0, 6) ∧ Keep [] w w' := by
  subst h0
  have hlt : (n : Int) < 8 := by omega
  have HS := Lib.hid hs
  clear hs
  have Hr := Lib.hid hr
  clear hr
  go_enter Try.func16, Try.ntmps16
  go_wp2_with (fail)
  have BF := (Blk.new w 24 #[.int .i64 7, .int .i64 f.toNat, .int .i64 0, .slice A n c]).alloc (.cells #[.slice none 0 0, .int .i64 0, .bool false, .bool false, .int .i64 0, .int .i64 0, .int .i64 0, .int .i64 0, .int .i64 0, .slice none 0 0, .int .i64 0] 36)
  have BR := Blk.new (w.alloc (.cells #[.int .i64 7, .int .i64 f.toNat, .int .i64 0, .slice A n c] 24)) 36 #[.slice none 0 0, .int .i64 0, .bool false, .bool false, .int .i64 0, .int .i64 0, .int .i64 0, .int .i64 0, .int .i64 0, .slice none 0 0, .int .i64 0]
  have K0 : Keep [] w ((w.alloc (.cells #[.int .i64 7, .int .i64 f.toNat, .int .i64 0, .slice A n c] 24)).alloc (.cells #[.slice none 0 0, .int .i64 0, .bool false, .bool false, .int .i64 0, .int .i64 0, .int .i64 0, .int .i64 0, .int .i64 0, .slice none 0 0, .int .i64 0] 36)) := ((Keep.refl _ _).alloc _).alloc _
  have e0 : ((w.alloc (.cells #[.int .i64 7, .int .i64 f.toNat, .int .i64 0, .slice A n c] 24)).alloc (.cells #[.slice none 0 0, .int .i64 0, .bool false, .bool false, .int .i64 0, .int .i64 0, .int .i64 0, .int .i64 0, .int .i64 0, .slice none 0 0, .int .i64 0] 36)).heap.size = w.heap.size + 2 := by simp
  simp only [World.size_alloc] at BR
  obtain ⟨w0, hw0⟩ : ∃ w0, w0 = ((w.alloc (.cells #[.int .i64 7, .int .i64 f.toNat, .int .i64 0, .slice A n c] 24)).alloc (.cells #[.slice none 0 0, .int .i64 0, .bool false, .bool false, .int .i64 0, .int .i64 0, .int .i64 0, .int .i64 0, .int .i64 0, .slice none 0 0, .int .i64 0] 36)) := ⟨_, rfl⟩
  rw [← hw0] at BF BR K0 e0 ⊢
  clear hw0
  refine (rstream_ w0 7 2 rfl).mono ?_
  rintro e w1 ⟨rfl, k1⟩
  have BF1 := BF.keep k1 (by simp)
  have BR1 := BR.keep k1 (by simp)
  have K1 := Lib.hid (K0.trans k1)
  have z1 : w.heap.size + 2 ≤ w1.heap.size := by have := k1.size; omega
  have Hz1 := Lib.hid z1
  have hrd := (Hr.out.keeps K1.out (Nat.le_refl _) (by simp)).more K1.out.size
  have HRD := Lib.hid hrd
  clear BF BR K0 k1 e0 Hr hrd z1
  have d0 := BF1.cell 0
  have d1 := BF1.cell 1
  have d2 := BF1.cell 2
  have d3 := BF1.cell 3
  simp at d0 d1 d2 d3
  obtain ⟨q0, q1, q2, q3, q4, q5, q6, q7, q8, q9, q10⟩ := cells11 BR1
  obtain ⟨g0, g1, g2, g3, g4, g5, g6, g7, g8, g9, g10⟩ := frozen11 BR1
  have TR := Lib.hid BR1
  clear BR1
  go_wp2_with (fail)
  have FB := blk_set11 TR.out rfl (.slice none 0 0) (.int .i64 0) (.bool false) (.bool false) (.int .i64 0) (.int .i64 0) (.int .i64 0) (.int .i64 0) (.int .i64 0) (.slice none 0 0) (.int .i64 0)
  have KL := keep_set11 w1 (w.heap.size + 1) (.slice none 0 0) (.int .i64 0) (.bool false) (.bool false) (.int .i64 0) (.int .i64 0) (.int .i64 0) (.int .i64 0) (.int .i64 0) (.slice none 0 0) (.int .i64 0)
  have KF := K1.out.step KL (by simp)
  refine bodyPost_ret (results_ct rfl _ _ (w.heap.size + 1) 36 #[.slice none 0 0, .int .i64 0, .bool false, .bool false, .int .i64 0, .int .i64 0, .int .i64 0, .int .i64 0, .int .i64 0, .slice none 0 0, .int .i64 0] (0, 0) _ rfl FB Try.underlying36 rfl (by kernel_rfl)) rfl ?_
  exact ⟨bodyR_none rfl rfl rfl, KF⟩
set_option maxHeartbeats 2000000 in
theorem rread_x (hr : Reads w w.heap.size 1 A n (encB bs)) (hc : n ≤ c) (hc2 : c ≤ 9223372036854775807) (hlen : n ≤ 1099511627776) (t : Nat) (ht : 9 < t)  :
    Calls Try.prog 16 #[.agg #[.int .i64 t, .int .i64 f.toNat, .int .i64 s, .slice A n c]] w fun e w' => BodyR w' w.heap.size e (bd0, 0) ∧ Keep [] w w' := by
  have hst := stream_of t
  have hpl : placeF t = -1 := by unfold placeF; rw [if_neg (by omega), if_neg (by omega)]
  rw [hpl] at hst
  have x0 : ¬ (t : Int) = 0 := by omega
  have x1 : ¬ (t : Int) = 1 := by omega
  have x2 : ¬ (t : Int) = 2 := by omega
  have x3 : ¬ (t : Int) = 3 := by omega
  have x4 : ¬ (t : Int) = 4 := by omega
  have x5 : ¬ (t : Int) = 5 := by omega
  have x6 : ¬ (t : Int) = 6 := by omega
  have x7 : ¬ (t : Int) = 7 := by omega
  have x8 : ¬ (t : Int) = 8 := by omega
  have x9 : ¬ (t : Int) = 9 := by omega
  clear ht hpl
  have Hr := Lib.hid hr
  clear hr
  go_enter Try.func16, Try.ntmps16
  go_wp2_with (fail)
  have BF := (Blk.new w 24 #[.int .i64 t, .int .i64 f.toNat, .int .i64 s, .slice A n c]).alloc (.cells #[.slice none 0 0, .int .i64 0, .bool false, .bool false, .int .i64 0, .int .i64 0, .int .i64 0, .int .i64 0, .int .i64 0, .slice none 0 0, .int .i64 0] 36)
  have BR := Blk.new (w.alloc (.cells #[.int .i64 t, .int .i64 f.toNat, .int .i64 s, .slice A n c] 24)) 36 #[.slice none 0 0, .int .i64 0, .bool false, .bool false, .int .i64 0, .int .i64 0, .int .i64 0, .int .i64 0, .int .i64 0, .slice none 0 0, .int .i64 0]
  have K0 : Keep [] w ((w.alloc (.cells #[.int .i64 t, .int .i64 f.toNat, .int .i64 s, .slice A n c] 24)).alloc (.cells #[.slice none 0 0, .int .i64 0, .bool false, .bool false, .int .i64 0, .int .i64 0, .int .i64 0, .int .i64 0, .int .i64 0, .slice none 0 0, .int .i64 0] 36)) := ((Keep.refl _ _).alloc _).alloc _
  have e0 : ((w.alloc (.cells #[.int .i64 t, .int .i64 f.toNat, .int .i64 s, .slice A n c] 24)).alloc (.cells #[.slice none 0 0, .int .i64 0, .bool false, .bool false, .int .i64 0, .int .i64 0, .int .i64 0, .int .i64 0, .int .i64 0, .slice none 0 0, .int .i64 0] 36)).heap.size = w.heap.size + 2 := by simp
  simp only [World.size_alloc] at BR
  obtain ⟨w0, hw0⟩ : ∃ w0, w0 = ((w.alloc (.cells #[.int .i64 t, .int .i64 f.toNat, .int .i64 s, .slice A n c] 24)).alloc (.cells #[.slice none 0 0, .int .i64 0, .bool false, .bool false, .int .i64 0, .int .i64 0, .int .i64 0, .int .i64 0, .int .i64 0, .slice none 0 0, .int .i64 0] 36)) := ⟨_, rfl⟩
  rw [← hw0] at BF BR K0 e0 ⊢
  clear hw0
  refine (rstream_ w0 t 0 hst).mono ?_
  rintro e w1 ⟨rfl, k1⟩
  have BF1 := BF.keep k1 (by simp)
  have BR1 := BR.keep k1 (by simp)
  have K1 := Lib.hid (K0.trans k1)
  have z1 : w.heap.size + 2 ≤ w1.heap.size := by have := k1.size; omega
  have Hz1 := Lib.hid z1
  have hrd := (Hr.out.keeps K1.out (Nat.le_refl _) (by simp)).more K1.out.size
  have HRD := Lib.hid hrd
  clear BF BR K0 k1 e0 Hr hrd z1
  have d0 := BF1.cell 0
  have d1 := BF1.cell 1
  have d2 := BF1.cell 2
  have d3 := BF1.cell 3
  simp at d0 d1 d2 d3
  obtain ⟨q0, q1, q2, q3, q4, q5, q6, q7, q8, q9, q10⟩ := cells11 BR1
  obtain ⟨g0, g1, g2, g3, g4, g5, g6, g7, g8, g9, g10⟩ := frozen11 BR1
  have TR := Lib.hid BR1
  clear BR1
  go_wp2_with (fail)
  have FB := blk_set11 TR.out rfl (.slice none 0 0) (.int .i64 0) (.bool false) (.bool false) (.int .i64 0) (.int .i64 0) (.int .i64 0) (.int .i64 0) (.int .i64 0) (.slice none 0 0) (.int .i64 0)
  have KL := keep_set11 w1 (w.heap.size + 1) (.slice none 0 0) (.int .i64 0) (.bool false) (.bool false) (.int .i64 0) (.int .i64 0) (.int .i64 0) (.int .i64 0) (.int .i64 0) (.slice none 0 0) (.int .i64 0)
  have KF := K1.out.step KL (by simp)
  refine bodyPost_ret (results_ct rfl _ _ (w.heap.size + 1) 36 #[.slice none 0 0, .int .i64 0, .bool false, .bool false, .int .i64 0, .int .i64 0, .int .i64 0, .int .i64 0, .int .i64 0, .slice none 0 0, .int .i64 0] (0, 0) _ rfl FB Try.underlying36 rfl (by kernel_rfl)) rfl ?_
  exact ⟨bodyR_none rfl rfl rfl, KF⟩
set_option maxHeartbeats 2000000 in
theorem rread_3 (hr : Reads w w.heap.size 1 A n (encB bs)) (hc : n ≤ c) (hc2 : c ≤ 9223372036854775807) (hlen : n ≤ 1099511627776) (h1 : ¬ s = 0) (hs : n = 4)  :
    Calls Try.prog 16 #[.agg #[.int .i64 3, .int .i64 f.toNat, .int .i64 s, .slice A n c]] w fun e w' => BodyR w' w.heap.size e ({ bd0 with code := numB bs }, 0) ∧ Keep [] w w' := by
  have hne2 : ((n : Int) != 4) = false := by simp; omega
  have HS := Lib.hid hs
  clear hs
  have Hr := Lib.hid hr
  clear hr
  go_enter Try.func16, Try.ntmps16
  go_wp2_with (fail)
  have BF := (Blk.new w 24 #[.int .i64 3, .int .i64 f.toNat, .int .i64 s, .slice A n c]).alloc (.cells #[.slice none 0 0, .int .i64 0, .bool false, .bool false, .int .i64 0, .int .i64 0, .int .i64 0, .int .i64 0, .int .i64 0, .slice none 0 0, .int .i64 0] 36)
  have BR := Blk.new (w.alloc (.cells #[.int .i64 3, .int .i64 f.toNat, .int .i64 s, .slice A n c] 24)) 36 #[.slice none 0 0, .int .i64 0, .bool false, .bool false, .int .i64 0, .int .i64 0, .int .i64 0, .int .i64 0, .int .i64 0, .slice none 0 0, .int .i64 0]
  have K0 : Keep [] w ((w.alloc (.cells #[.int .i64 3, .int .i64 f.toNat, .int .i64 s, .slice A n c] 24)).alloc (.cells #[.slice none 0 0, .int .i64 0, .bool false, .bool false, .int .i64 0, .int .i64 0, .int .i64 0, .int .i64 0, .int .i64 0, .slice none 0 0, .int .i64 0] 36)) := ((Keep.refl _ _).alloc _).alloc _
  have e0 : ((w.alloc (.cells #[.int .i64 3, .int .i64 f.toNat, .int .i64 s, .slice A n c] 24)).alloc (.cells #[.slice none 0 0, .int .i64 0, .bool false, .bool false, .int .i64 0, .int .i64 0, .int .i64 0, .int .i64 0, .int .i64 0, .slice none 0 0, .int .i64 0] 36)).heap.size = w.heap.size + 2 := by simp
  simp only [World.size_alloc] at BR
  obtain ⟨w0, hw0⟩ : ∃ w0, w0 = ((w.alloc (.cells #[.int .i64 3, .int .i64 f.toNat, .int .i64 s, .slice A n c] 24)).alloc (.cells #[.slice none 0 0, .int .i64 0, .bool false, .bool false, .int .i64 0, .int .i64 0, .int .i64 0, .int .i64 0, .int .i64 0, .slice none 0 0, .int .i64 0] 36)) := ⟨_, rfl⟩
  rw [← hw0] at BF BR K0 e0 ⊢
  clear hw0
  refine (rstream_ w0 3 1 rfl).mono ?_
  rintro e w1 ⟨rfl, k1⟩
  have BF1 := BF.keep k1 (by simp)
  have BR1 := BR.keep k1 (by simp)
  have K1 := Lib.hid (K0.trans k1)
  have z1 : w.heap.size + 2 ≤ w1.heap.size := by have := k1.size; omega
  have Hz1 := Lib.hid z1
  have hrd := (Hr.out.keeps K1.out (Nat.le_refl _) (by simp)).more K1.out.size
  have HRD := Lib.hid hrd
  clear BF BR K0 k1 e0 Hr hrd z1
  have d0 := BF1.cell 0
  have d1 := BF1.cell 1
  have d2 := BF1.cell 2
  have d3 := BF1.cell 3
  simp at d0 d1 d2 d3
  have HNu := Lib.hid (rnum0_ w1 (c := c) HRD.out (by have := HS.out; omega))
  obtain ⟨N, hN⟩ : ∃ N, N = numB bs := ⟨_, rfl⟩
  rw [← hN] at HNu
  have HN := Lib.hid hN
  have hmod : Int.tmod (N : Int) 2147483648 = (N : Int) % 2147483648 := Int.tmod_eq_emod_of_nonneg (by omega)
  clear hN
  go_wp2_with (fail)
  refine HNu.out.mono ?_
  rintro e w2 ⟨rfl, rfl⟩
  obtain ⟨q0, q1, q2, q3, q4, q5, q6, q7, q8, q9, q10⟩ := cells11 BR1
  obtain ⟨g0, g1, g2, g3, g4, g5, g6, g7, g8, g9, g10⟩ := frozen11 BR1
  have TR := Lib.hid BR1
  clear BR1
  go_wp2_with (fail)
  have FB := blk_set11 TR.out rfl (.slice none 0 0) (.int .i64 0) (.bool false) (.bool false) (.int .i64 0) (.int .i64 0) (.int .i64 N) (.int .i64 0) (.int .i64 0) (.slice none 0 0) (.int .i64 0)
  have KL := keep_set11 w1 (w.heap.size + 1) (.slice none 0 0) (.int .i64 0) (.bool false) (.bool false) (.int .i64 0) (.int .i64 0) (.int .i64 N) (.int .i64 0) (.int .i64 0) (.slice none 0 0) (.int .i64 0)
  have KF := K1.out.step KL (by simp)
  refine bodyPost_ret (results_ct rfl _ _ (w.heap.size + 1) 36 #[.slice none 0 0, .int .i64 0, .bool false, .bool false, .int .i64 0, .int .i64 0, .int .i64 N, .int .i64 0, .int .i64 0, .slice none 0 0, .int .i64 0] (0, 0) _ rfl FB Try.underlying36 rfl (by kernel_rfl)) rfl ?_
  have hN := HN.out
  subst hN
  exact ⟨bodyR_none (by first | rfl | simp [Bd.vals, bd0]) rfl rfl, KF⟩
set_option maxHeartbeats 2000000 in
theorem rread_8 (hr : Reads w w.heap.size 1 A n (encB bs)) (hc : n ≤ c) (hc2 : c ≤ 9223372036854775807) (hlen : n ≤ 1099511627776) (hs : n = 4)  :
    Calls Try.prog 16 #[.agg #[.int .i64 8, .int .i64 f.toNat, .int .i64 s, .slice A n c]] w fun e w' => BodyR w' w.heap.size e ({ bd0 with inc := ((numB bs % 2147483648 : Nat) : Int) }, 0) ∧ Keep [] w w' := by
  have hne2 : ((n : Int) != 4) = false := by simp; omega
  have HS := Lib.hid hs
  clear hs
  have Hr := Lib.hid hr
  clear hr
  go_enter Try.func16, Try.ntmps16
  go_wp2_with (fail)
  have BF := (Blk.new w 24 #[.int .i64 8, .int .i64 f.toNat, .int .i64 s, .slice A n c]).alloc (.cells #[.slice none 0 0, .int .i64 0, .bool false, .bool false, .int .i64 0, .int .i64 0, .int .i64 0, .int .i64 0, .int .i64 0, .slice none 0 0, .int .i64 0] 36)
  have BR := Blk.new (w.alloc (.cells #[.int .i64 8, .int .i64 f.toNat, .int .i64 s, .slice A n c] 24)) 36 #[.slice none 0 0, .int .i64 0, .bool false, .bool false, .int .i64 0, .int .i64 0, .int .i64 0, .int .i64 0, .int .i64 0, .slice none 0 0, .int .i64 0]
  have K0 : Keep [] w ((w.alloc (.cells #[.int .i64 8, .int .i64 f.toNat, .int .i64 s, .slice A n c] 24)).alloc (.cells #[.slice none 0 0, .int .i64 0, .bool false, .bool false, .int .i64 0, .int .i64 0, .int .i64 0, .int .i64 0, .int .i64 0, .slice none 0 0, .int .i64 0] 36)) := ((Keep.refl _ _).alloc _).alloc _
  have e0 : ((w.alloc (.cells #[.int .i64 8, .int .i64 f.toNat, .int .i64 s, .slice A n c] 24)).alloc (.cells #[.slice none 0 0, .int .i64 0, .bool false, .bool false, .int .i64 0, .int .i64 0, .int .i64 0, .int .i64 0, .int .i64 0, .slice none 0 0, .int .i64 0] 36)).heap.size = w.heap.size + 2 := by simp
  simp only [World.size_alloc] at BR
  obtain ⟨w0, hw0⟩ : ∃ w0, w0 = ((w.alloc (.cells #[.int .i64 8, .int .i64 f.toNat, .int .i64 s, .slice A n c] 24)).alloc (.cells #[.slice none 0 0, .int .i64 0, .bool false, .bool false, .int .i64 0, .int .i64 0, .int .i64 0, .int .i64 0, .int .i64 0, .slice none 0 0, .int .i64 0] 36)) := ⟨_, rfl⟩
  rw [← hw0] at BF BR K0 e0 ⊢
  clear hw0
  refine (rstream_ w0 8 0 rfl).mono ?_
  rintro e w1 ⟨rfl, k1⟩
  have BF1 := BF.keep k1 (by simp)
  have BR1 := BR.keep k1 (by simp)
  have K1 := Lib.hid (K0.trans k1)
  have z1 : w.heap.size + 2 ≤ w1.heap.size := by have := k1.size; omega
  have Hz1 := Lib.hid z1
  have hrd := (Hr.out.keeps K1.out (Nat.le_refl _) (by simp)).more K1.out.size
  have HRD := Lib.hid hrd
  clear BF BR K0 k1 e0 Hr hrd z1
  have d0 := BF1.cell 0
  have d1 := BF1.cell 1
  have d2 := BF1.cell 2
  have d3 := BF1.cell 3
  simp at d0 d1 d2 d3
  have HNu := Lib.hid (rnum0_ w1 (c := c) HRD.out (by have := HS.out; omega))
  obtain ⟨N, hN⟩ : ∃ N, N = numB bs := ⟨_, rfl⟩
  rw [← hN] at HNu
  have HN := Lib.hid hN
  have hmod : Int.tmod (N : Int) 2147483648 = (N : Int) % 2147483648 := Int.tmod_eq_emod_of_nonneg (by omega)
  clear hN
  go_wp2_with (fail)
  refine HNu.out.mono ?_
  rintro e w2 ⟨rfl, rfl⟩
  obtain ⟨q0, q1, q2, q3, q4, q5, q6, q7, q8, q9, q10⟩ := cells11 BR1
  obtain ⟨g0, g1, g2, g3, g4, g5, g6, g7, g8, g9, g10⟩ := frozen11 BR1
  have TR := Lib.hid BR1
  clear BR1
  go_wp2_with (fail)
  have FB := blk_set11 TR.out rfl (.slice none 0 0) (.int .i64 0) (.bool false) (.bool false) (.int .i64 0) (.int .i64 0) (.int .i64 0) (.int .i64 0) (.int .i64 ((N : Int) % 2147483648)) (.slice none 0 0) (.int .i64 0)
  have KL := keep_set11 w1 (w.heap.size + 1) (.slice none 0 0) (.int .i64 0) (.bool false) (.bool false) (.int .i64 0) (.int .i64 0) (.int .i64 0) (.int .i64 0) (.int .i64 ((N : Int) % 2147483648)) (.slice none 0 0) (.int .i64 0)
  have KF := K1.out.step KL (by simp)
  refine bodyPost_ret (results_ct rfl _ _ (w.heap.size + 1) 36 #[.slice none 0 0, .int .i64 0, .bool false, .bool false, .int .i64 0, .int .i64 0, .int .i64 0, .int .i64 0, .int .i64 ((N : Int) % 2147483648), .slice none 0 0, .int .i64 0] (0, 0) _ rfl FB Try.underlying36 rfl (by kernel_rfl)) rfl ?_
  have hN := HN.out
  subst hN
  exact ⟨bodyR_none (by first | rfl | simp [Bd.vals, bd0]) rfl rfl, KF⟩
set_option maxHeartbeats 2000000 in
theorem rread_6 (hr : Reads w w.heap.size 1 A n (encB bs)) (hc : n ≤ c) (hc2 : c ≤ 9223372036854775807) (hlen : n ≤ 1099511627776) (h0 : s = 0) (hs : n = 8)  :
    Calls Try.prog 16 #[.agg #[.int .i64 6, .int .i64 f.toNat, .int .i64 s, .slice A n c]] w fun e w' => BodyR w' w.heap.size e ({ bd0 with data := bs }, 0) ∧ Keep [] w w' := by
  subst h0
  have hne2 : ((n : Int) != 8) = false := by simp; omega
  have HS := Lib.hid hs
  clear hs
  have Hr := Lib.hid hr
  clear hr
  go_enter Try.func16, Try.ntmps16
  go_wp2_with (fail)
  have BF := (Blk.new w 24 #[.int .i64 6, .int .i64 f.toNat, .int .i64 0, .slice A n c]).alloc (.cells #[.slice none 0 0, .int .i64 0, .bool false, .bool false, .int .i64 0, .int .i64 0, .int .i64 0, .int .i64 0, .int .i64 0, .slice none 0 0, .int .i64 0] 36)
  have BR := Blk.new (w.alloc (.cells #[.int .i64 6, .int .i64 f.toNat, .int .i64 0, .slice A n c] 24)) 36 #[.slice none 0 0, .int .i64 0, .bool false, .bool false, .int .i64 0, .int .i64 0, .int .i64 0, .int .i64 0, .int .i64 0, .slice none 0 0, .int .i64 0]
  have K0 : Keep [] w ((w.alloc (.cells #[.int .i64 6, .int .i64 f.toNat, .int .i64 0, .slice A n c] 24)).alloc (.cells #[.slice none 0 0, .int .i64 0, .bool false, .bool false, .int .i64 0, .int .i64 0, .int .i64 0, .int .i64 0, .int .i64 0, .slice none 0 0, .int .i64 0] 36)) := ((Keep.refl _ _).alloc _).alloc _
  have e0 : ((w.alloc (.cells #[.int .i64 6, .int .i64 f.toNat, .int .i64 0, .slice A n c] 24)).alloc (.cells #[.slice none 0 0, .int .i64 0, .bool false, .bool false, .int .i64 0, .int .i64 0, .int .i64 0, .int .i64 0, .int .i64 0, .slice none 0 0, .int .i64 0] 36)).heap.size = w.heap.size + 2 := by simp
  simp only [World.size_alloc] at BR
  obtain ⟨w0, hw0⟩ : ∃ w0, w0 = ((w.alloc (.cells #[.int .i64 6, .int .i64 f.toNat, .int .i64 0, .slice A n c] 24)).alloc (.cells #[.slice none 0 0, .int .i64 0, .bool false, .bool false, .int .i64 0, .int .i64 0, .int .i64 0, .int .i64 0, .int .i64 0, .slice none 0 0, .int .i64 0] 36)) := ⟨_, rfl⟩
  rw [← hw0] at BF BR K0 e0 ⊢
  clear hw0
  refine (rstream_ w0 6 2 rfl).mono ?_
  rintro e w1 ⟨rfl, k1⟩
  have BF1 := BF.keep k1 (by simp)
  have BR1 := BR.keep k1 (by simp)
  have K1 := Lib.hid (K0.trans k1)
  have z1 : w.heap.size + 2 ≤ w1.heap.size := by have := k1.size; omega
  have Hz1 := Lib.hid z1
  have hrd := (Hr.out.keeps K1.out (Nat.le_refl _) (by simp)).more K1.out.size
  have HRD := Lib.hid hrd
  clear BF BR K0 k1 e0 Hr hrd z1
  have d0 := BF1.cell 0
  have d1 := BF1.cell 1
  have d2 := BF1.cell 2
  have d3 := BF1.cell 3
  simp at d0 d1 d2 d3
  obtain ⟨i0, z0, gi, gz, gz0, gz1, gz2⟩ := u8_info
  have HRX := Lib.hid (HRD.out)
  have hbase : w.heap.size ≤ w1.heap.size := K1.out.size
  have Hbase := Lib.hid hbase
  have HLEN := Lib.hid hlen
  have TBR := Lib.hid BR1
  clear BR1 hbase HRD
  go_wp2_with (at_builtin; apply wpList_append_row _ rfl _ _ _ rfl w.heap.size 5 i0 z0 1 Try.underlying22 gi gz gz0 gz1 gz2 (.slice none 0 0) [] rfl (Row1.nil _ _ _) _ (A) (n) (c) (encB (bs)) rfl HRX.out encB_one (by have := HLEN.out; unfold maxLen; simp only [List.length_nil]; omega) (by have := HLEN.out; simp only [List.length_nil]; omega) Hbase.out; intro v7 w7 hrow7 k7 hm7; rw [List.nil_append] at hrow7; obtain ⟨A7, m7, c7, rfl⟩ : ∃ A7 m7 c7, v7 = .slice A7 m7 c7 := (by obtain ⟨A7, c7, e, _⟩ := hrow7.reads; exact ⟨A7, _, c7, e⟩); simp only [rowBlk, Option.toList_none] at k7; have BR7 := TBR.out.keep k7 (by simp); have K7 := Lib.hid (K1.out.trans k7); have HROW := Lib.hid hrow7; obtain ⟨q0, q1, q2, q3, q4, q5, q6, q7, q8, q9, q10⟩ := cells11 BR7; obtain ⟨g0, g1, g2, g3, g4, g5, g6, g7, g8, g9, g10⟩ := frozen11 BR7; have TR7 := Lib.hid BR7; clear BR7 hrow7 k7 hm7 HRX)
  have FB := blk_set11 TR7.out rfl (.slice A7 m7 c7) (.int .i64 0) (.bool false) (.bool false) (.int .i64 0) (.int .i64 0) (.int .i64 0) (.int .i64 0) (.int .i64 0) (.slice none 0 0) (.int .i64 0)
  have KL := keep_set11 w7 (w.heap.size + 1) (.slice A7 m7 c7) (.int .i64 0) (.bool false) (.bool false) (.int .i64 0) (.int .i64 0) (.int .i64 0) (.int .i64 0) (.int .i64 0) (.slice none 0 0) (.int .i64 0)
  have KF := K7.out.step KL (by simp)
  refine bodyPost_ret (results_ct rfl _ _ (w.heap.size + 1) 36 #[.slice A7 m7 c7, .int .i64 0, .bool false, .bool false, .int .i64 0, .int .i64 0, .int .i64 0, .int .i64 0, .int .i64 0, .slice none 0 0, .int .i64 0] (0, 0) _ rfl FB Try.underlying36 rfl (by kernel_rfl)) rfl ?_
  have hrF := HROW.out.keep KL (fun g hg hm => row_off_blk HROW.out TR7.out (by decide) (by rw [show g = w.heap.size + 1 by simpa using hm] at hg; exact hg))
  exact ⟨bodyR_data rfl hrF rfl, KF⟩
set_option maxHeartbeats 2000000 in
theorem rread_9 (hr : Reads w w.heap.size 1 A n (encB bs)) (hc : n ≤ c) (hc2 : c ≤ 9223372036854775807) (hlen : n ≤ 1099511627776) (h1 : ¬ s = 0)  :
    Calls Try.prog 16 #[.agg #[.int .i64 9, .int .i64 f.toNat, .int .i64 s, .slice A n c]] w fun e w' => BodyR w' w.heap.size e ({ bd0 with data := bs }, 0) ∧ Keep [] w w' := by
  have Hr := Lib.hid hr
  clear hr
  go_enter Try.func16, Try.ntmps16
  go_wp2_with (fail)
  have BF := (Blk.new w 24 #[.int .i64 9, .int .i64 f.toNat, .int .i64 s, .slice A n c]).alloc (.cells #[.slice none 0 0, .int .i64 0, .bool false, .bool false, .int .i64 0, .int .i64 0, .int .i64 0, .int .i64 0, .int .i64 0, .slice none 0 0, .int .i64 0] 36)
  have BR := Blk.new (w.alloc (.cells #[.int .i64 9, .int .i64 f.toNat, .int .i64 s, .slice A n c] 24)) 36 #[.slice none 0 0, .int .i64 0, .bool false, .bool false, .int .i64 0, .int .i64 0, .int .i64 0, .int .i64 0, .int .i64 0, .slice none 0 0, .int .i64 0]
  have K0 : Keep [] w ((w.alloc (.cells #[.int .i64 9, .int .i64 f.toNat, .int .i64 s, .slice A n c] 24)).alloc (.cells #[.slice none 0 0, .int .i64 0, .bool false, .bool false, .int .i64 0, .int .i64 0, .int .i64 0, .int .i64 0, .int .i64 0, .slice none 0 0, .int .i64 0] 36)) := ((Keep.refl _ _).alloc _).alloc _
  have e0 : ((w.alloc (.cells #[.int .i64 9, .int .i64 f.toNat, .int .i64 s, .slice A n c] 24)).alloc (.cells #[.slice none 0 0, .int .i64 0, .bool false, .bool false, .int .i64 0, .int .i64 0, .int .i64 0, .int .i64 0, .int .i64 0, .slice none 0 0, .int .i64 0] 36)).heap.size = w.heap.size + 2 := by simp
  simp only [World.size_alloc] at BR
  obtain ⟨w0, hw0⟩ : ∃ w0, w0 = ((w.alloc (.cells #[.int .i64 9, .int .i64 f.toNat, .int .i64 s, .slice A n c] 24)).alloc (.cells #[.slice none 0 0, .int .i64 0, .bool false, .bool false, .int .i64 0, .int .i64 0, .int .i64 0, .int .i64 0, .int .i64 0, .slice none 0 0, .int .i64 0] 36)) := ⟨_, rfl⟩
  rw [← hw0] at BF BR K0 e0 ⊢
  clear hw0
  refine (rstream_ w0 9 1 rfl).mono ?_
  rintro e w1 ⟨rfl, k1⟩
  have BF1 := BF.keep k1 (by simp)
  have BR1 := BR.keep k1 (by simp)
  have K1 := Lib.hid (K0.trans k1)
  have z1 : w.heap.size + 2 ≤ w1.heap.size := by have := k1.size; omega
  have Hz1 := Lib.hid z1
  have hrd := (Hr.out.keeps K1.out (Nat.le_refl _) (by simp)).more K1.out.size
  have HRD := Lib.hid hrd
  clear BF BR K0 k1 e0 Hr hrd z1
  have d0 := BF1.cell 0
  have d1 := BF1.cell 1
  have d2 := BF1.cell 2
  have d3 := BF1.cell 3
  simp at d0 d1 d2 d3
  obtain ⟨i0, z0, gi, gz, gz0, gz1, gz2⟩ := u8_info
  have HRX := Lib.hid (HRD.out)
  have hbase : w.heap.size ≤ w1.heap.size := K1.out.size
  have Hbase := Lib.hid hbase
  have HLEN := Lib.hid hlen
  have TBR := Lib.hid BR1
  clear BR1 hbase HRD
  go_wp2_with (at_builtin; apply wpList_append_row _ rfl _ _ _ rfl w.heap.size 5 i0 z0 1 Try.underlying22 gi gz gz0 gz1 gz2 (.slice none 0 0) [] rfl (Row1.nil _ _ _) _ (A) (n) (c) (encB (bs)) rfl HRX.out encB_one (by have := HLEN.out; unfold maxLen; simp only [List.length_nil]; omega) (by have := HLEN.out; simp only [List.length_nil]; omega) Hbase.out; intro v7 w7 hrow7 k7 hm7; rw [List.nil_append] at hrow7; obtain ⟨A7, m7, c7, rfl⟩ : ∃ A7 m7 c7, v7 = .slice A7 m7 c7 := (by obtain ⟨A7, c7, e, _⟩ := hrow7.reads; exact ⟨A7, _, c7, e⟩); simp only [rowBlk, Option.toList_none] at k7; have BR7 := TBR.out.keep k7 (by simp); have K7 := Lib.hid (K1.out.trans k7); have HROW := Lib.hid hrow7; obtain ⟨q0, q1, q2, q3, q4, q5, q6, q7, q8, q9, q10⟩ := cells11 BR7; obtain ⟨g0, g1, g2, g3, g4, g5, g6, g7, g8, g9, g10⟩ := frozen11 BR7; have TR7 := Lib.hid BR7; clear BR7 hrow7 k7 hm7 HRX)
  have FB := blk_set11 TR7.out rfl (.slice A7 m7 c7) (.int .i64 0) (.bool false) (.bool false) (.int .i64 0) (.int .i64 0) (.int .i64 0) (.int .i64 0) (.int .i64 0) (.slice none 0 0) (.int .i64 0)
  have KL := keep_set11 w7 (w.heap.size + 1) (.slice A7 m7 c7) (.int .i64 0) (.bool false) (.bool false) (.int .i64 0) (.int .i64 0) (.int .i64 0) (.int .i64 0) (.int .i64 0) (.slice none 0 0) (.int .i64 0)
  have KF := K7.out.step KL (by simp)
  refine bodyPost_ret (results_ct rfl _ _ (w.heap.size + 1) 36 #[.slice A7 m7 c7, .int .i64 0, .bool false, .bool false, .int .i64 0, .int .i64 0, .int .i64 0, .int .i64 0, .int .i64 0, .slice none 0 0, .int .i64 0] (0, 0) _ rfl FB Try.underlying36 rfl (by kernel_rfl)) rfl ?_
  have hrF := HROW.out.keep KL (fun g hg hm => row_off_blk HROW.out TR7.out (by decide) (by rw [show g = w.heap.size + 1 by simpa using hm] at hg; exact hg))
  exact ⟨bodyR_data rfl hrF rfl, KF⟩
set_option maxHeartbeats 2000000 in
theorem rread_2 (hr : Reads w w.heap.size 1 A n (encB bs)) (hc : n ≤ c) (hc2 : c ≤ 9223372036854775807) (hlen : n ≤ 1099511627776) (h1 : ¬ s = 0) (hs : n = 5)  :
    Calls Try.prog 16 #[.agg #[.int .i64 2, .int .i64 f.toNat, .int .i64 s, .slice A n c]] w fun e w' => BodyR w' w.heap.size e (prioB bd0 bs, 0) ∧ Keep [] w w' := by
  have hne2 : ((n : Int) != 5) = false := by simp; omega
  have HS := Lib.hid hs
  clear hs
  have Hr := Lib.hid hr
  clear hr
  go_enter Try.func16, Try.ntmps16
  go_wp2_with (fail)
  have BF := (Blk.new w 24 #[.int .i64 2, .int .i64 f.toNat, .int .i64 s, .slice A n c]).alloc (.cells #[.slice none 0 0, .int .i64 0, .bool false, .bool false, .int .i64 0, .int .i64 0, .int .i64 0, .int .i64 0, .int .i64 0, .slice none 0 0, .int .i64 0] 36)
  have BR := Blk.new (w.alloc (.cells #[.int .i64 2, .int .i64 f.toNat, .int .i64 s, .slice A n c] 24)) 36 #[.slice none 0 0, .int .i64 0, .bool false, .bool false, .int .i64 0, .int .i64 0, .int .i64 0, .int .i64 0, .int .i64 0, .slice none 0 0, .int .i64 0]
  have K0 : Keep [] w ((w.alloc (.cells #[.int .i64 2, .int .i64 f.toNat, .int .i64 s, .slice A n c] 24)).alloc (.cells #[.slice none 0 0, .int .i64 0, .bool false, .bool false, .int .i64 0, .int .i64 0, .int .i64 0, .int .i64 0, .int .i64 0, .slice none 0 0, .int .i64 0] 36)) := ((Keep.refl _ _).alloc _).alloc _
  have e0 : ((w.alloc (.cells #[.int .i64 2, .int .i64 f.toNat, .int .i64 s, .slice A n c] 24)).alloc (.cells #[.slice none 0 0, .int .i64 0, .bool false, .bool false, .int .i64 0, .int .i64 0, .int .i64 0, .int .i64 0, .int .i64 0, .slice none 0 0, .int .i64 0] 36)).heap.size = w.heap.size + 2 := by simp
  simp only [World.size_alloc] at BR
  obtain ⟨w0, hw0⟩ : ∃ w0, w0 = ((w.alloc (.cells #[.int .i64 2, .int .i64 f.toNat, .int .i64 s, .slice A n c] 24)).alloc (.cells #[.slice none 0 0, .int .i64 0, .bool false, .bool false, .int .i64 0, .int .i64 0, .int .i64 0, .int .i64 0, .int .i64 0, .slice none 0 0, .int .i64 0] 36)) := ⟨_, rfl⟩
  rw [← hw0] at BF BR K0 e0 ⊢
  clear hw0
  refine (rstream_ w0 2 1 rfl).mono ?_
  rintro e w1 ⟨rfl, k1⟩
  have BF1 := BF.keep k1 (by simp)
  have BR1 := BR.keep k1 (by simp)
  have K1 := Lib.hid (K0.trans k1)
  have z1 : w.heap.size + 2 ≤ w1.heap.size := by have := k1.size; omega
  have Hz1 := Lib.hid z1
  have hrd := (Hr.out.keeps K1.out (Nat.le_refl _) (by simp)).more K1.out.size
  have HRD := Lib.hid hrd
  clear BF BR K0 k1 e0 Hr hrd z1
  have d0 := BF1.cell 0
  have d1 := BF1.cell 1
  have d2 := BF1.cell 2
  have d3 := BF1.cell 3
  simp at d0 d1 d2 d3
  have HPr := Lib.hid (rprio_ w1 0 HRD.out (by have := HS.out; omega) hc hlen)
  go_wp2_with (fail)
  refine HPr.out.mono ?_
  rintro e w2 ⟨A0, A9, c0, c9, rfl, row0, own9, k2⟩
  obtain ⟨ex, hex⟩ : ∃ ex, ex = exclN (numB (bs.take 4)) := ⟨_, rfl⟩
  obtain ⟨dp, hdp⟩ : ∃ dp : Int, dp = ((numB (bs.take 4) % 2147483648 : Nat) : Int) := ⟨_, rfl⟩
  obtain ⟨wt, hwt⟩ : ∃ wt : Int, wt = ((bs.getD 4 0).toNat : Int) + 1 := ⟨_, rfl⟩
  rw [← hex, ← hdp, ← hwt]
  have HV := Lib.hid (And.intro hex (And.intro hdp hwt))
  have BR2 := BR1.keep k2 (by simp)
  have K2 := Lib.hid (K1.out.trans k2)
  have HRW := Lib.hid (And.intro row0 own9)
  clear hex hdp hwt row0 own9 HPr BR1 k2 d0 d1 d2 d3 BF1 HRD
  obtain ⟨q0, q1, q2, q3, q4, q5, q6, q7, q8, q9, q10⟩ := cells11 BR2
  obtain ⟨g0, g1, g2, g3, g4, g5, g6, g7, g8, g9, g10⟩ := frozen11 BR2
  have TR := Lib.hid BR2
  clear BR2
  go_wp2_with (fail)
  have FB := blk_set11 TR.out rfl (.slice A0 0 c0) (.int .i64 0) (.bool true) (.bool ex) (.int .i64 dp) (.int .i64 wt) (.int .i64 0) (.int .i64 0) (.int .i64 0) (.slice A9 0 c9) (.int .i64 0)
  have KL := keep_set11 w2 (w.heap.size + 1) (.slice A0 0 c0) (.int .i64 0) (.bool true) (.bool ex) (.int .i64 dp) (.int .i64 wt) (.int .i64 0) (.int .i64 0) (.int .i64 0) (.slice A9 0 c9) (.int .i64 0)
  have KF := K2.out.step KL (by simp)
  refine bodyPost_ret (results_ct rfl _ _ (w.heap.size + 1) 36 #[.slice A0 0 c0, .int .i64 0, .bool true, .bool ex, .int .i64 dp, .int .i64 wt, .int .i64 0, .int .i64 0, .int .i64 0, .slice A9 0 c9, .int .i64 0] (0, 0) _ rfl FB Try.underlying36 rfl (by kernel_rfl)) rfl ?_
  have hz := Hz1.out
  have hrw := HRW.out.1.keep KL (fun g hg hm => row_off_blk HRW.out.1 TR.out (by decide) (by rw [show g = w.heap.size + 1 by simpa using hm] at hg; exact hg))
  have how := own_keep HRW.out.2 KL (own_off HRW.out.2 TR.out (by decide))
  refine ⟨⟨.slice A0 0 c0, .slice A9 0 c9, ?_, hrw.lower (by omega), own_lower how (show w.heap.size ≤ w1.heap.size by omega)⟩, KF⟩
  rw [HV.out.1, HV.out.2.1, HV.out.2.2]
  rfl
set_option maxHeartbeats 2000000 in
theorem rread_7 (hr : Reads w w.heap.size 1 A n (encB bs)) (hc : n ≤ c) (hc2 : c ≤ 9223372036854775807) (hlen : n ≤ 1099511627776) (h0 : s = 0) (hs : 8 ≤ n)  :
    Calls Try.prog 16 #[.agg #[.int .i64 7, .int .i64 f.toNat, .int .i64 s, .slice A n c]] w fun e w' => BodyR w' w.heap.size e ({ bd0 with last := ((numB (bs.take 4) % 2147483648 : Nat) : Int), code := numB ((bs.drop 4).take 4), data := bs.drop 8 }, 0) ∧ Keep [] w w' := by
  subst h0
  have hlt : ¬ (n : Int) < 8 := by omega
  obtain ⟨b2, o2, hA2, hb2, _⟩ := hr.plain (by omega) (by omega)
  subst hA2
  have Hr := Lib.hid hr
  clear hr
  go_enter Try.func16, Try.ntmps16
  go_wp2_with (fail)
  have BF := (Blk.new w 24 #[.int .i64 7, .int .i64 f.toNat, .int .i64 0, .slice (some ⟨b2, o2, none⟩) n c]).alloc (.cells #[.slice none 0 0, .int .i64 0, .bool false, .bool false, .int .i64 0, .int .i64 0, .int .i64 0, .int .i64 0, .int .i64 0, .slice none 0 0, .int .i64 0] 36)
  have BR := Blk.new (w.alloc (.cells #[.int .i64 7, .int .i64 f.toNat, .int .i64 0, .slice (some ⟨b2, o2, none⟩) n c] 24)) 36 #[.slice none 0 0, .int .i64 0, .bool false, .bool false, .int .i64 0, .int .i64 0, .int .i64 0, .int .i64 0, .int .i64 0, .slice none 0 0, .int .i64 0]
  have K0 : Keep [] w ((w.alloc (.cells #[.int .i64 7, .int .i64 f.toNat, .int .i64 0, .slice (some ⟨b2, o2, none⟩) n c] 24)).alloc (.cells #[.slice none 0 0, .int .i64 0, .bool false, .bool false, .int .i64 0, .int .i64 0, .int .i64 0, .int .i64 0, .int .i64 0, .slice none 0 0, .int .i64 0] 36)) := ((Keep.refl _ _).alloc _).alloc _
  have e0 : ((w.alloc (.cells #[.int .i64 7, .int .i64 f.toNat, .int .i64 0, .slice (some ⟨b2, o2, none⟩) n c] 24)).alloc (.cells #[.slice none 0 0, .int .i64 0, .bool false, .bool false, .int .i64 0, .int .i64 0, .int .i64 0, .int .i64 0, .int .i64 0, .slice none 0 0, .int .i64 0] 36)).heap.size = w.heap.size + 2 := by simp
  simp only [World.size_alloc] at BR
  obtain ⟨w0, hw0⟩ : ∃ w0, w0 = ((w.alloc (.cells #[.int .i64 7, .int .i64 f.toNat, .int .i64 0, .slice (some ⟨b2, o2, none⟩) n c] 24)).alloc (.cells #[.slice none 0 0, .int .i64 0, .bool false, .bool false, .int .i64 0, .int .i64 0, .int .i64 0, .int .i64 0, .int .i64 0, .slice none 0 0, .int .i64 0] 36)) := ⟨_, rfl⟩
  rw [← hw0] at BF BR K0 e0 ⊢
  clear hw0
  refine (rstream_ w0 7 2 rfl).mono ?_
  rintro e w1 ⟨rfl, k1⟩
  have BF1 := BF.keep k1 (by simp)
  have BR1 := BR.keep k1 (by simp)
  have K1 := Lib.hid (K0.trans k1)
  have z1 : w.heap.size + 2 ≤ w1.heap.size := by have := k1.size; omega
  have Hz1 := Lib.hid z1
  have hrd := (Hr.out.keeps K1.out (Nat.le_refl _) (by simp)).more K1.out.size
  have HRD := Lib.hid hrd
  clear BF BR K0 k1 e0 Hr hrd z1
  have d0 := BF1.cell 0
  have d1 := BF1.cell 1
  have d2 := BF1.cell 2
  have d3 := BF1.cell 3
  simp at d0 d1 d2 d3
  have hbl : bs.length = n := by have := HRD.out.1; rw [encB_len] at this; omega
  have hb3 : b2 ≠ w.heap.size + 1 := by omega
  have hnu := fun (W : World) (k : Keep [w.heap.size + 1] w1 W) => rnum0_ (c := c) W (reads_mid (HRD.out.kept k (Nat.le_refl _) (fun _ ad e => by injection e with e; subst e; simpa using hb3)) 0 4 (by omega) (by omega)) (by omega)
  have hnm := fun (W : World) (k : Keep [w.heap.size + 1] w1 W) => rnum0_ (c := c - 4) W (reads_mid (HRD.out.kept k (Nat.le_refl _) (fun _ ad e => by injection e with e; subst e; simpa using hb3)) 4 4 (by omega) (by omega)) (by omega)
  have hnu : ∀ (W : World), Keep [w.heap.size + 1] w1 W → Calls Try.prog 24 #[.slice (some ⟨b2, o2, none⟩) 4 c] W fun e w' => e = .returned (.int .i64 (numB (bs.take 4))) ∧ W = w' := hnu
  obtain ⟨N, hN⟩ : ∃ N, N = numB (bs.take 4) := ⟨_, rfl⟩
  obtain ⟨M, hM⟩ : ∃ M, M = numB ((bs.drop 4).take 4) := ⟨_, rfl⟩
  rw [← hN] at hnu
  rw [← hM] at hnm
  have HNU := Lib.hid hnu
  have HNM := Lib.hid hnm
  have HN := Lib.hid (And.intro hN hM)
  have hmod : Int.tmod (N : Int) 2147483648 = (N : Int) % 2147483648 := Int.tmod_eq_emod_of_nonneg (by omega)
  have k41 : (4 : Int) ≤ (n : Int) := by omega
  have k42 : (4 : Int) ≤ (c : Int) := by omega
  have k43 : (8 : Int) ≤ (n : Int) := by omega
  have k44 : (8 : Int) ≤ (c : Int) := by omega
  have hc4 : ¬ c = 4 := by omega
  obtain ⟨i0, z0, gi, gz, gz0, gz1, gz2⟩ := u8_info
  have HS := Lib.hid hs
  have HBL := Lib.hid hbl
  clear hnu hnm hN hM hs hbl
  by_cases hc8 : c = 8
  · have rd : Reads w1.drew w1.heap.size 1 (some ⟨b2, o2, none⟩) (n - 8) (encB (bs.drop 8)) := ⟨by rw [encB_len, List.length_drop]; have := HBL.out; omega, fun h => absurd h (by have := HS.out; omega)⟩
    go_upto_region 30 with (fail)
    refine wpIn_wide.1 (region_rtc (n := 0) [(9, true), (10, true), (11, true), (12, false)] []
      [(0, .slice (some ⟨b2, o2, none⟩) n c), (1, .slice (some ⟨b2, o2, none⟩) 4 c), (2, .int .i64 N), (3, .int .i64 ((N : Int) % 2147483648)), (4, .slice (some ⟨b2, o2, none⟩) n c), (5, .slice (some ⟨b2, o2 + 4, none⟩) 4 (c - 4)), (6, .int .i64 M), (7, .slice (some ⟨b2, o2, none⟩) n c), (8, .slice (some ⟨b2, o2, none⟩) (n - 8) (0))]
      (fun W => Keep [w.heap.size + 1] w1 W) (by kernel_rfl) (by kernel_rfl) ((Keep.refl _ _).drew) ?_ ?_)
    · simp only [evOkC, putAll, List.getElem?_toArray, List.getElem?_cons_zero, List.getElem?_cons_succ, Option.bind_some, Act.put, List.setIfInBounds_toArray, List.set_cons_zero, List.set_cons_succ]
      repeat' apply And.intro
      all_goals first
        | exact trivial
        | (intro W hW; refine gives_read rfl ?_; simp [go_sem, Addr.add, hmod, k41, k42, k43, k44, hc4, hc8]; done)
        | skip
      · intro W hW
        unfold GivesV
        simp [go_sem]
        refine ⟨trivial, rfl, (callsIn_wide.2 (HNU.out W hW)).mono ?_⟩
        rintro e w' ⟨rfl, rfl⟩
        exact ⟨rfl, rfl⟩
      · intro W hW
        unfold GivesV
        simp [go_sem]
        refine ⟨trivial, rfl, (callsIn_wide.2 (HNM.out W hW)).mono ?_⟩
        rintro e w' ⟨rfl, rfl⟩
        exact ⟨rfl, rfl⟩
    · simp only [putAll, List.getElem?_toArray, List.getElem?_cons_zero, List.getElem?_cons_succ, Option.bind_some, Act.put, List.setIfInBounds_toArray, List.set_cons_zero, List.set_cons_succ]
      refine tail_wanted rfl rfl ?_
      refine wpIn_append_any w1.drew _ _ _ rfl w.heap.size 5 i0 z0 1 1 Try.underlying22 gi gz gz0 gz1 gz2 (by omega) (.slice none 0 0) 0 [] rfl (World.ownsRow_nil _ _ _ _) _ (some ⟨b2, o2, none⟩) (n - 8) (0) (encB (bs.drop 8)) rfl rd encB_one (by unfold maxLen; omega) (by omega) (by have := Hz1.out; simp; omega) ?_
      intro v7 w2 o7 gr7 mr7
      have k2 : Keep [] w1 w2 := (Keep.of_grown (row := none) gr7).undrew
      have hrow := Row1.of_own o7
      rw [List.nil_append] at hrow
      obtain ⟨A7, m7, c7, rfl⟩ : ∃ A7 m7 c7, v7 = .slice A7 m7 c7 := by
        obtain ⟨A7, c7, e, _⟩ := hrow.reads
        exact ⟨A7, _, c7, e⟩
      refine ⟨rfl, ⟨fun _ => k2.more (by simp), gHolds_none rfl⟩, ?_⟩
      have BR2 := BR1.keep k2 (by simp)
      obtain ⟨q0, q1, q2, q3, q4, q5, q6, q7, q8, q9, q10⟩ := cells11 BR2
      obtain ⟨g0, g1, g2, g3, g4, g5, g6, g7, g8, g9, g10⟩ := frozen11 BR2
      refine tail_wanted rfl rfl ?_
      simp [go_sem]
      refine ⟨⟨k2.more (by simp), gHolds_none rfl⟩, ?_⟩
      refine tail_wanted rfl rfl ?_
      simp [go_sem, q0, g0, q1, g1, q2, g2, q3, g3, q4, g4, q5, g5, q6, g6, q7, g7, q8, g8, q9, g9, q10, g10]
      refine ⟨⟨k2.more (by simp) |>.trans (keep_set11 w2 (w.heap.size + 1) (.slice A7 m7 c7) (.int .i64 0) (.bool false) (.bool false) (.int .i64 0) (.int .i64 0) (.int .i64 M) (.int .i64 ((N : Int) % 2147483648)) (.int .i64 0) (.slice none 0 0) (.int .i64 0)), gHolds_none rfl⟩, ?_⟩
      refine tail_wanted rfl rfl ?_
      simp [go_sem]
      refine ⟨gHolds_none rfl, ?_⟩
      unfold wpTailG
      go_at_K
      have HROW := Lib.hid hrow
      have TR7 := Lib.hid BR2
      have K7 := Lib.hid (K1.out.trans k2)
      clear q0 g0 q1 g1 q2 g2 q3 g3 q4 g4 q5 g5 q6 g6 q7 g7 q8 g8 q9 g9 q10 g10 hrow BR2 k2 o7 gr7 mr7 BR1 HNU HNM hmod rd gi gz gz0 gz1 gz2
      go_wp2_with (fail)
      have FB := blk_set11 TR7.out rfl (.slice A7 m7 c7) (.int .i64 0) (.bool false) (.bool false) (.int .i64 0) (.int .i64 0) (.int .i64 M) (.int .i64 ((N : Int) % 2147483648)) (.int .i64 0) (.slice none 0 0) (.int .i64 0)
      have KL := keep_set11 w2 (w.heap.size + 1) (.slice A7 m7 c7) (.int .i64 0) (.bool false) (.bool false) (.int .i64 0) (.int .i64 0) (.int .i64 M) (.int .i64 ((N : Int) % 2147483648)) (.int .i64 0) (.slice none 0 0) (.int .i64 0)
      have KF := K7.out.step KL (by simp)
      refine bodyPost_ret (results_ct rfl _ _ (w.heap.size + 1) 36 #[.slice A7 m7 c7, .int .i64 0, .bool false, .bool false, .int .i64 0, .int .i64 0, .int .i64 M, .int .i64 ((N : Int) % 2147483648), .int .i64 0, .slice none 0 0, .int .i64 0] (0, 0) _ rfl FB Try.underlying36 rfl (by kernel_rfl)) rfl ?_
      have hrF := HROW.out.keep KL (fun g hg hm => row_off_blk HROW.out TR7.out (by decide) (by rw [show g = w.heap.size + 1 by simpa using hm] at hg; exact hg))
      have hN := HN.out.1
      have hM := HN.out.2
      subst hN hM
      exact ⟨bodyR_data (by first | rfl | simp [Bd.vals, bd0]) hrF rfl, KF⟩
  · have rd := reads_from HRD.out.drew 8 HS.out
    go_upto_region 30 with (fail)
    refine wpIn_wide.1 (region_rtc (n := 0) [(9, true), (10, true), (11, true), (12, false)] []
      [(0, .slice (some ⟨b2, o2, none⟩) n c), (1, .slice (some ⟨b2, o2, none⟩) 4 c), (2, .int .i64 N), (3, .int .i64 ((N : Int) % 2147483648)), (4, .slice (some ⟨b2, o2, none⟩) n c), (5, .slice (some ⟨b2, o2 + 4, none⟩) 4 (c - 4)), (6, .int .i64 M), (7, .slice (some ⟨b2, o2, none⟩) n c), (8, .slice (some ⟨b2, o2 + 8, none⟩) (n - 8) (c - 8))]
      (fun W => Keep [w.heap.size + 1] w1 W) (by kernel_rfl) (by kernel_rfl) ((Keep.refl _ _).drew) ?_ ?_)
    · simp only [evOkC, putAll, List.getElem?_toArray, List.getElem?_cons_zero, List.getElem?_cons_succ, Option.bind_some, Act.put, List.setIfInBounds_toArray, List.set_cons_zero, List.set_cons_succ]
      repeat' apply And.intro
      all_goals first
        | exact trivial
        | (intro W hW; refine gives_read rfl ?_; simp [go_sem, Addr.add, hmod, k41, k42, k43, k44, hc4, hc8]; done)
        | skip
      · intro W hW
        unfold GivesV
        simp [go_sem]
        refine ⟨trivial, rfl, (callsIn_wide.2 (HNU.out W hW)).mono ?_⟩
        rintro e w' ⟨rfl, rfl⟩
        exact ⟨rfl, rfl⟩
      · intro W hW
        unfold GivesV
        simp [go_sem]
        refine ⟨trivial, rfl, (callsIn_wide.2 (HNM.out W hW)).mono ?_⟩
        rintro e w' ⟨rfl, rfl⟩
        exact ⟨rfl, rfl⟩
    · simp only [putAll, List.getElem?_toArray, List.getElem?_cons_zero, List.getElem?_cons_succ, Option.bind_some, Act.put, List.setIfInBounds_toArray, List.set_cons_zero, List.set_cons_succ]
      refine tail_wanted rfl rfl ?_
      refine wpIn_append_any w1.drew _ _ _ rfl w.heap.size 5 i0 z0 1 1 Try.underlying22 gi gz gz0 gz1 gz2 (by omega) (.slice none 0 0) 0 [] rfl (World.ownsRow_nil _ _ _ _) _ (some ⟨b2, o2 + 8, none⟩) (n - 8) (c - 8) (encB (bs.drop 8)) rfl rd encB_one (by unfold maxLen; omega) (by omega) (by have := Hz1.out; simp; omega) ?_
      intro v7 w2 o7 gr7 mr7
      have k2 : Keep [] w1 w2 := (Keep.of_grown (row := none) gr7).undrew
      have hrow := Row1.of_own o7
      rw [List.nil_append] at hrow
      obtain ⟨A7, m7, c7, rfl⟩ : ∃ A7 m7 c7, v7 = .slice A7 m7 c7 := by
        obtain ⟨A7, c7, e, _⟩ := hrow.reads
        exact ⟨A7, _, c7, e⟩
      refine ⟨rfl, ⟨fun _ => k2.more (by simp), gHolds_none rfl⟩, ?_⟩
      have BR2 := BR1.keep k2 (by simp)
      obtain ⟨q0, q1, q2, q3, q4, q5, q6, q7, q8, q9, q10⟩ := cells11 BR2
      obtain ⟨g0, g1, g2, g3, g4, g5, g6, g7, g8, g9, g10⟩ := frozen11 BR2
      refine tail_wanted rfl rfl ?_
      simp [go_sem]
      refine ⟨⟨k2.more (by simp), gHolds_none rfl⟩, ?_⟩
      refine tail_wanted rfl rfl ?_
      simp [go_sem, q0, g0, q1, g1, q2, g2, q3, g3, q4, g4, q5, g5, q6, g6, q7, g7, q8, g8, q9, g9, q10, g10]
      refine ⟨⟨k2.more (by simp) |>.trans (keep_set11 w2 (w.heap.size + 1) (.slice A7 m7 c7) (.int .i64 0) (.bool false) (.bool false) (.int .i64 0) (.int .i64 0) (.int .i64 M) (.int .i64 ((N : Int) % 2147483648)) (.int .i64 0) (.slice none 0 0) (.int .i64 0)), gHolds_none rfl⟩, ?_⟩
      refine tail_wanted rfl rfl ?_
      simp [go_sem]
      refine ⟨gHolds_none rfl, ?_⟩
      unfold wpTailG
      go_at_K
      have HROW := Lib.hid hrow
      have TR7 := Lib.hid BR2
      have K7 := Lib.hid (K1.out.trans k2)
      clear q0 g0 q1 g1 q2 g2 q3 g3 q4 g4 q5 g5 q6 g6 q7 g7 q8 g8 q9 g9 q10 g10 hrow BR2 k2 o7 gr7 mr7 BR1 HNU HNM hmod rd gi gz gz0 gz1 gz2
      go_wp2_with (fail)
      have FB := blk_set11 TR7.out rfl (.slice A7 m7 c7) (.int .i64 0) (.bool false) (.bool false) (.int .i64 0) (.int .i64 0) (.int .i64 M) (.int .i64 ((N : Int) % 2147483648)) (.int .i64 0) (.slice none 0 0) (.int .i64 0)
      have KL := keep_set11 w2 (w.heap.size + 1) (.slice A7 m7 c7) (.int .i64 0) (.bool false) (.bool false) (.int .i64 0) (.int .i64 0) (.int .i64 M) (.int .i64 ((N : Int) % 2147483648)) (.int .i64 0) (.slice none 0 0) (.int .i64 0)
      have KF := K7.out.step KL (by simp)
      refine bodyPost_ret (results_ct rfl _ _ (w.heap.size + 1) 36 #[.slice A7 m7 c7, .int .i64 0, .bool false, .bool false, .int .i64 0, .int .i64 0, .int .i64 M, .int .i64 ((N : Int) % 2147483648), .int .i64 0, .slice none 0 0, .int .i64 0] (0, 0) _ rfl FB Try.underlying36 rfl (by kernel_rfl)) rfl ?_
      have hrF := HROW.out.keep KL (fun g hg hm => row_off_blk HROW.out TR7.out (by decide) (by rw [show g = w.heap.size + 1 by simpa using hm] at hg; exact hg))
      have hN := HN.out.1
      have hM := HN.out.2
      subst hN hM
      exact ⟨bodyR_data (by first | rfl | simp [Bd.vals, bd0]) hrF rfl, KF⟩
end
end Go.Proofs.Ytbngoaonkhcciaa
