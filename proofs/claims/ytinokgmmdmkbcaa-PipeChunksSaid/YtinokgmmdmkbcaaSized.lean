/- A slice of bytes that comes in is no longer than the form reaches. -/
import Derived.Test.YtinokgmmdmkbcaaOpen
import Derived.SizedLaws
set_option linter.all false
namespace Go.Proofs.Ytinokgmmdmkbcaa
open Go.ChangeShapes Go.WideShapes Go.ChangeAt Go.RowKit Go.Deep
theorem len_sized {H : Type} {enc : TypeId × Value → H} {P : Program} {w : World} {base : Nat} {held : Bool} {ts : List TypeId} {ds : List (DataW H)} {j : Nat} {t e : TypeId} {d : DataW H} {v : Value} {p : List MemPlace}
    (h : (DataW.weightsEach P ts ds).all (· ≤ reachBytes) = true) (ht : ts[j]? = some t) (hd : ds[j]? = some d) (hu : P.underlying t = some (.slice e)) (hb : P.bytesOf e = 1)
    (hm : DataW.Trod enc P w base (fun _ => true) held t v d p) : ∀ A n c, v = .slice A n c → n ≤ 140737488355328 := by
  obtain ⟨m, hm⟩ := hm
  intro A n c hv
  rcases open_slice hu hm with ⟨h0, _⟩ | ⟨a, len, cap, m', n', D, Pl, hcs, _, _, _, _, hx, _⟩
  · rw [hv] at h0
    injection h0 with h0 _
    injection h0 with _ h1 _
    omega
  · rw [hv] at hcs
    injection hcs with hcs _
    injection hcs with _ hl _
    subst hl
    injection hx with hx _
    subst hx
    have := sized_slice h ht hd hu
    rw [hb] at this
    have hr := reachBytes_lt
    simp at this hr
    omega
end Go.Proofs.Ytinokgmmdmkbcaa
