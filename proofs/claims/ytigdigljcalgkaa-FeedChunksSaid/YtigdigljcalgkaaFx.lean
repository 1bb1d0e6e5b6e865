/- feed: a feed, wherever its bytes are. -/
import Derived.Test.YtigdigljcalgkaaAll
set_option linter.all false
namespace Go.Proofs.Ytigdigljcalgkaa
open Go.ChangeShapes Go.WideShapes Go.ChangeAt Go.RowKit Go.Proofs.YtigdigljcalgkaaW.PrintWords
attribute [local go_sem] setCell_drewN alloc_drewN Oper.semAt_some
theorem res_cell_bool {fn : Func} {p : Tmp} (h : fn.results = #[.cell p 4]) (tmps : Array Value) (w : World) (g : Nat) (b : Bool) (hp : tmps.getD p undef = .pointer (some ⟨g, 0, none⟩)) (hc : w.cell? ⟨g, 0, none⟩ = some (.bool b)) : (results fn tmps).run Try.prog w = .ok (.bool b) w := by
  have hp' : tmps[p]?.getD undef = .pointer (some ⟨g, 0, none⟩) := by simpa using hp
  have hu := Try.underlying4
  simp [results, h, hp', asAddr, go_sem, hc]
/-- a feed, wherever its bytes are -/
def FdX (w : World) (base fb : Nat) (asks : Bool) (most : Int) (bs : List UInt8) (code : Int) : Prop := ∃ v, Fd w base fb asks most v bs code
theorem FdX.lt {w : World} {base fb : Nat} {asks : Bool} {most code : Int} {bs : List UInt8} (h : FdX w base fb asks most bs code) : fb < w.heap.size := by
  obtain ⟨v, h⟩ := h; exact h.blk.lt
/-- it stands where what turns is no row of bytes and not its own block -/
theorem FdX.keep {w w' : World} {base fb : Nat} {asks : Bool} {most code : Int} {bs : List UInt8} {gs : List Nat} (h : FdX w base fb asks most bs code) (k : Keep gs w w') (hg : ∀ g ∈ gs, w.heap.size ≤ g ∨ (g ≠ fb ∧ g < base) ∨ (∃ o, w.heap[g]? = some o ∧ ∀ cs fr, o ≠ .cells cs 5 fr ∧ o ≠ .cells cs 50 fr)) : FdX w' base fb asks most bs code := by
  obtain ⟨v, h⟩ := h
  refine ⟨v, h.keep k (fun hm => ?_) (fun g hv hm => ?_)⟩
  · rcases hg _ hm with h1 | h1 | ⟨o, ho, h1⟩
    · have := h.blk.lt; omega
    · exact h1.1 rfl
    · have hb := h.blk
      unfold Blk at hb
      rw [hb] at ho
      injection ho with ho
      exact (h1 _ _).2 ho.symm
  · rcases hg _ hm with h1 | h1 | ⟨o, ho, h1⟩
    · have := (h.row.lt g hv).2; omega
    · have := (h.row.lt g hv).1; omega
    · obtain ⟨A, cap, rfl, _, _, hr⟩ := h.row
      rcases hr with ⟨rfl, _⟩ | ⟨g', off, cs, rfl, _, hb, _⟩
      · cases hv
      · injection hv with hv
        subst hv
        unfold Blk at hb
        rw [hb] at ho
        injection ho with ho
        exact (h1 _ _).1 ho.symm
theorem FdX.alloc {w : World} {base fb : Nat} {asks : Bool} {most code : Int} {bs : List UInt8} (h : FdX w base fb asks most bs code) (o : Obj) : FdX (w.alloc o) base fb asks most bs code :=
  h.keep ((Keep.refl [] w).alloc o) (by simp)
/-- what Put may turn: the feed's block, a row of bytes -/
def PutB (w : World) (base fb : Nat) (gs : List Nat) : Prop := ∀ g ∈ gs, g = fb ∨ (base ≤ g ∧ ∃ cs, Blk w g 5 cs)
theorem PutB.ge {w : World} {base fb : Nat} {gs : List Nat} (h : PutB w base fb gs) (hb : base ≤ fb) : ∀ g ∈ gs, base ≤ g := fun g hg => by
  rcases h g hg with rfl | h
  · exact hb
  · exact h.1
theorem PutB.blk {w : World} {base fb : Nat} {gs : List Nat} (h : PutB w base fb gs) {g : Nat} {t : TypeId} {cs : Array Value} (hb : Blk w g t cs) (ht : t ≠ 5) (hne : g ≠ fb) : g ∉ gs := fun hg => by
  rcases h g hg with rfl | ⟨_, cs', hb'⟩
  · exact hne rfl
  · exact hb.ne_ hb' ht rfl
theorem PutB.loop {w : World} {base fb : Nat} {gs : List Nat} (h : PutB w base fb gs) {g : Nat} {l : Loop} (hb : w.heap[g]? = some (.loop l)) (hne : g ≠ fb) : g ∉ gs := fun hg => by
  rcases h g hg with rfl | ⟨_, cs', hb'⟩
  · exact hne rfl
  · exact loop_ne hb' hb rfl
theorem PutB.df {w : World} {base fb : Nat} {gs : List Nat} (h : PutB w base fb gs) {g : Nat} {l : Option (List Deferred)} (hb : w.heap[g]? = some (.deferred l)) (hne : g ≠ fb) : g ∉ gs := fun hg => by
  rcases h g hg with rfl | ⟨_, cs', hb'⟩
  · exact hne rfl
  · exact def_ne hb' hb rfl
theorem row_blk {w : World} {base g : Nat} {t : TypeId} {v : Value} {xs : List Value} (h : Row1 w base t v xs) (hg : rowBlk v = some g) : ∃ cs, Blk w g t cs := by
  obtain ⟨A, cap, rfl, _, _, hr⟩ := h
  rcases hr with ⟨rfl, _⟩ | ⟨g', off, cs, rfl, _, hb, _⟩
  · cases hg
  · injection hg with hg
    subst hg
    exact ⟨_, hb⟩
theorem putX {w : World} {base fb : Nat} {asks : Bool} {most : Int} {bs : List UInt8} (h : FdX w base fb asks most bs 0) (hb : base ≤ w.heap.size) {B : Nat} {A : Option Addr} {m c : Nat} {news : List UInt8} (hr : Reads w B 1 A m (encB news)) (hl : bs.length + m ≤ 140737488355328) :
    Calls Try.prog 11 #[.pointer (some ⟨fb, 0, none⟩), .slice A m c] w fun e w' => e = .returned (.tuple #[]) ∧ FdX w' base fb asks most (bs ++ news) 0 ∧ ∃ gs, Keep gs w w' ∧ PutB w base fb gs := by
  obtain ⟨v, h⟩ := h
  refine (put_ h hb hr hl).mono ?_
  rintro e w' ⟨rfl, v', h', k, mv⟩
  refine ⟨rfl, ⟨v', by simpa using h'⟩, _, k, fun g hg => ?_⟩
  rcases List.mem_cons.1 hg with rfl | hg
  · exact .inl rfl
  · right
    have hg' : rowBlk v = some g := by simpa using hg
    exact ⟨(h.row.lt g hg').1, row_blk h.row hg'⟩
theorem XK.fb {B : Nat} {base fb : Nat} {asks : Bool} {most code : Int} {bs : List UInt8} {w w' : World} (h : FdX w base fb asks most bs code) (k : Keep [fb] w w') : XK B w w' := by
  obtain ⟨v, h⟩ := h
  refine .of_keep k (fun g hg => ?_)
  obtain rfl : g = fb := by simpa using hg
  exact .inr ⟨50, _, by decide, h.blk⟩
theorem heldX {w : World} {base fb : Nat} {asks : Bool} {most code : Int} {bs : List UInt8} (h : FdX w base fb asks most bs code) : Calls Try.prog 15 #[.pointer (some ⟨fb, 0, none⟩)] w fun e w' => e = .returned (.int .i64 (bs.length : Nat)) ∧ w = w' := by
  obtain ⟨v, h⟩ := h; exact held_ h
theorem codeX {w : World} {base fb : Nat} {asks : Bool} {most code : Int} {bs : List UInt8} (h : FdX w base fb asks most bs code) : Calls Try.prog 14 #[.pointer (some ⟨fb, 0, none⟩)] w fun e w' => e = .returned (.int .i64 code) ∧ w = w' := by
  obtain ⟨v, h⟩ := h; exact code_ h
theorem mostX {w : World} {base fb : Nat} {asks : Bool} {most code : Int} {bs : List UInt8} (h : FdX w base fb asks most bs code) (n : Int) (h1 : 16384 ≤ n) (h2 : n ≤ 16777215) : Calls Try.prog 16 #[.pointer (some ⟨fb, 0, none⟩), .int .i64 n] w fun e w' => e = .returned (.int .i64 0) ∧ FdX w' base fb asks n bs code ∧ Keep [fb] w w' := by
  obtain ⟨v, h⟩ := h
  refine (most_ _ h n h1 h2).mono ?_
  rintro e w' ⟨rfl, h', k, _⟩
  exact ⟨rfl, ⟨v, h'⟩, k⟩
def NextX (B : Nat) (w : World) (base fb : Nat) (most : Int) (bs : List UInt8) (e : Ending) : Prop :=
  (e = .returned (.tuple #[zeroF, .bool false]) ∧ (bs.length < 9 ∨ ((hlen bs : Int) ≤ most ∧ bs.length < 9 + hlen bs)) ∧ FdX w base fb false most bs 0) ∨
  (e = .returned (.tuple #[zeroF, .bool false]) ∧ 9 ≤ bs.length ∧ most < (hlen bs : Int) ∧ FdX w base fb false most [] 6) ∨
  (9 + hlen bs ≤ bs.length ∧ (hlen bs : Int) ≤ most ∧ ∃ A c, e = .returned (.tuple #[frV bs (.slice A (hlen bs) c), .bool true]) ∧ Row1 w B 5 (.slice A (hlen bs) c) (encB ((bs.drop 9).take (hlen bs))) ∧ FdX w base fb false most (bs.drop (9 + hlen bs)) 0)
theorem nextX {w : World} {base fb : Nat} {asks : Bool} {most : Int} {bs : List UInt8} (h : FdX w base fb asks most bs 0) (ha : asks = true → bs.take 24 = pfB) (hcap : bs.length ≤ 140737488355328) (xs : List UInt8) (hxs : xs = if asks then bs.drop 24 else bs) : Calls Try.prog 17 #[.pointer (some ⟨fb, 0, none⟩)] w fun e w' => NextX w.heap.size w' base fb most xs e ∧ Keep [fb] w w' := by
  obtain ⟨v, h⟩ := h
  refine (next_ h ha hcap xs hxs).mono ?_
  rintro e w' ⟨hr, k⟩
  refine ⟨?_, k⟩
  rcases hr with ⟨h1, h2, v', _, h3⟩ | ⟨h1, h2, h3, h4⟩ | ⟨h1, h2, u, h3, h4, v', _, h5⟩
  · exact .inl ⟨h1, h2, v', h3⟩
  · exact .inr (.inl ⟨h1, h2, h3, _, h4⟩)
  · obtain ⟨A, c, rfl, _⟩ := h4.reads
    have hl : (encB ((xs.drop 9).take (hlen xs))).length = hlen xs := by rw [encB_len, List.length_take, List.length_drop]; omega
    rw [hl] at h3 h4
    exact .inr (.inr ⟨h1, h2, A, c, h3, h4, v', h5⟩)
/-- blocks of frames, from B on -/
def Frs (B : Nat) (W : World) (gs : List Nat) : Prop := ∀ g ∈ gs, B ≤ g ∧ ∃ cs, Blk W g 27 cs
theorem FdX.frames {B : Nat} {w w' : World} {base fb : Nat} {asks : Bool} {most code : Int} {bs : List UInt8} {gs : List Nat} (h : FdX w base fb asks most bs code) (hf : Frs B w gs) (k : Keep gs w w') : FdX w' base fb asks most bs code :=
  h.keep k (fun g hg => by
    obtain ⟨_, cs, hb⟩ := hf g hg
    exact .inr (.inr ⟨_, hb, fun cs' fr => ⟨fun e => by injection e with _ e; exact absurd e (by decide), fun e => by injection e with _ e; exact absurd e (by decide)⟩⟩))
theorem Row1.frames {B : Nat} {w w' : World} {base : Nat} {v : Value} {xs : List Value} {gs : List Nat} (h : Row1 w base 5 v xs) (hf : Frs B w gs) (k : Keep gs w w') : Row1 w' base 5 v xs :=
  h.keep k (fun g hv hg => by
    obtain ⟨_, cs, hb⟩ := hf g hg
    exact row_ne h hb (by decide) g hv rfl)
theorem Blk.frames {B : Nat} {w w' : World} {g : Nat} {t : TypeId} {cs : Array Value} {gs : List Nat} (h : Blk w g t cs) (ht : t ≠ 27) (hf : Frs B w gs) (k : Keep gs w w') : Blk w' g t cs :=
  h.keep k (fun hg => by
    obtain ⟨_, cs, hb⟩ := hf g hg
    exact h.ne_ hb ht rfl)
theorem Rest.frames {S W W' : World} {gs hs : List Nat} {l : Loop} (h : Rest S W gs (.loop l)) (hf : Frs S.heap.size W hs) (k : Keep hs W W') : Rest S W' gs (.loop l) :=
  h.go k (fun g hg => .inr (hf g hg).1) (fun hg => by obtain ⟨_, cs, hb⟩ := hf _ hg; exact loop_ne hb h.rc rfl) (fun hg => by obtain ⟨_, cs, hb⟩ := hf _ hg; exact def_ne hb h.df rfl)
theorem row_obj {w : World} {base g : Nat} {t : TypeId} {v : Value} {xs : List Value} {l : Loop} (h : Row1 w base t v xs) (ho : w.heap[g]? = some (.loop l)) (hg : rowBlk v = some g) : False := by
  obtain ⟨A, cap, rfl, _, _, hr⟩ := h
  rcases hr with ⟨rfl, _⟩ | ⟨g', off, cs, rfl, _, hb, _⟩
  · cases hg
  · injection hg with hg
    subst hg
    exact loop_ne hb ho rfl
theorem FdX.loop {w : World} {base fb : Nat} {asks : Bool} {most code : Int} {bs : List UInt8} {l : Loop} {g : Nat} {o : Obj} (h : FdX w base fb asks most bs code) (ho : w.heap[g]? = some (.loop l)) : FdX (w.putObj g o) base fb asks most bs code := by
  refine h.keep ((Keep.refl [g] w).putObj (.inl (by simp)) o) (fun g' hg => ?_)
  obtain rfl : g' = g := by simpa using hg
  exact .inr (.inr ⟨_, ho, fun _ _ => ⟨(by intro h; cases h), (by intro h; cases h)⟩⟩)
/-- '[]byte(s)' -/
theorem bytes_of (w : World) (l : List UInt8) : ∃ cap w', (convert 9 25 (.string ⟨l.toArray⟩)).run Try.prog w = .ok (.slice (some ⟨w.heap.size, 0, none⟩) l.length cap) w' ∧ Reads w' w'.heap.size 1 (some ⟨w.heap.size, 0, none⟩) l.length (encB l) ∧ Keep [] w w' := by
  have h := run_bytes_of_string (P := Try.prog) w 9 25 5 ⟨l.toArray⟩ Try.underlying9 Try.underlying25 Try.underlying5
  have hs : (ByteArray.mk l.toArray).size = l.length := by simp [ByteArray.size]
  rw [hs] at h
  refine ⟨_, _, h, ⟨by rw [encB_len]; omega, fun _ => ⟨_, rfl, by rw [World.size_alloc]; exact Nat.lt_succ_self _, fun j u hu => ?_⟩⟩, ((Keep.refl [] w).drew).alloc _⟩
  have e : (⟨w.heap.size, 0, none⟩ : Addr).add j = ⟨w.heap.size, j, none⟩ := by unfold Addr.add; split <;> simp_all
  have hj : j < l.length := by have := (List.getElem?_eq_some_iff.1 hu).1; rwa [encB_len] at this
  have hc := bytesRow_at ⟨l.toArray⟩ (grownCap w l.length 0 5) j (by simpa using hj)
  have h2 := encB_get hj
  rw [hu] at h2
  rw [e]
  have hm : ∀ (C : Array Value) (t : TypeId) (fr : Nat × Nat), (w.drew.alloc (.cells C t fr)).cell? ⟨w.heap.size, j, none⟩ = C[j]? := fun C t fr => by
    have := World.cell?_alloc_mark w.drew C t fr j
    simpa using this
  rw [hm, hc, h2]
  simp
def PreX (w : World) (base fb : Nat) (most : Int) (bs : List UInt8) : Prop := (bs.take 24 = pfB.take bs.length ∧ FdX w base fb true most bs 0) ∨ (bs.take 24 ≠ pfB.take bs.length ∧ FdX w base fb true most [] 1)
theorem preX {w : World} {base fb : Nat} {most : Int} {bs : List UInt8} (h : FdX w base fb true most bs 0) (hb : bs.take 24 ≠ pfB.take bs.length ∨ bs.length < 24) (hcap : bs.length ≤ 140737488355328) : Calls Try.prog 17 #[.pointer (some ⟨fb, 0, none⟩)] w fun e w' => e = .returned (.tuple #[zeroF, .bool false]) ∧ PreX w' base fb most bs ∧ Keep [fb] w w' := by
  obtain ⟨v, h⟩ := h
  refine (next_pre h hb hcap).mono ?_
  rintro e w' ⟨rfl, hp, k⟩
  exact ⟨rfl, hp.imp (fun ⟨h1, h2⟩ => ⟨h1, _, h2⟩) (fun ⟨h1, h2⟩ => ⟨h1, _, h2⟩), k⟩
theorem newX (w : World) (asks : Bool) (n : Int) (h1 : 16384 ≤ n) (h2 : n ≤ 16777215) : Calls Try.prog 10 #[.bool asks, .int .i64 n] w fun e w' => e = .returned (.tuple #[.pointer (some ⟨w.heap.size, 0, none⟩), .int .i64 0]) ∧ FdX w' w.heap.size w.heap.size asks n [] 0 ∧ Keep [] w w' := by
  refine (new_ w asks n h1 h2).mono ?_
  rintro e w' ⟨rfl, h, k, _⟩
  exact ⟨rfl, ⟨_, h⟩, k⟩
end Go.Proofs.Ytigdigljcalgkaa
