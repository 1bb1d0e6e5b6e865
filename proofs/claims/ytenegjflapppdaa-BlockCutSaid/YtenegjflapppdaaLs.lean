/- block: what stands while BlockCut's law compares. -/
import Derived.Test.YtenegjflapppdaaEqf
set_option linter.all false
namespace Go.Proofs.Ytenegjflapppdaa
open Go.ChangeShapes Go.WideShapes Go.ChangeAt Go.RowKit
/-- the law's cells: far, the answer, the list; the reference's frames; the program's cells -/
structure LS (w : World) (s lb cb : Nat) (id : Int) (en : Bool) (A : Option Addr) (m c mo : Nat) (bs : List UInt8) (far : Int) (Al : Option Addr) (cl : Nat) (xs : List Gf) (W : World) : Prop where
  kw : Keep [] w W
  sz : w.heap.size ≤ s
  bf : Blk W w.heap.size 3 #[.int .i64 far]
  ba : Blk W (w.heap.size + 1) 4 #[.bool false]
  bl : Blk W lb 40 #[.slice Al xs.length cl]
  ow : W.ownsRow s 46 4 (.slice Al xs.length cl) xs.length (encG xs)
  rl : RList W s id en mo bs xs
  cf : CF w.heap.size W cb (cb + 1) (cb + 1 + 1) (cb + 1 + 1 + 1) id en A m c mo bs
theorem LS.keep {w W W' : World} {s lb cb : Nat} {id : Int} {en : Bool} {A : Option Addr} {m c mo : Nat} {bs : List UInt8} {far : Int} {Al : Option Addr} {cl : Nat} {xs : List Gf} (h : LS w s lb cb id en A m c mo bs far Al cl xs W) (k : Keep [] W W') : LS w s lb cb id en A m c mo bs far Al cl xs W' :=
  ⟨h.kw.trans k, h.sz, h.bf.keep k (by simp), h.ba.keep k (by simp), h.bl.keep k (by simp), own_keep h.ow k (by simp), h.rl.keep k (by simp), h.cf.keep k (by simp)⟩
end Go.Proofs.Ytenegjflapppdaa
