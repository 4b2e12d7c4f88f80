/- Contracts of package rational's operations on small canonical texts. -/
import Derived.Test.YtblelgmedononaaZrt
namespace Go.Proofs.Ytblelgmedononaa
open Go.RowKit

/-- An operation on two texts, in whatever world. -/
def QC (F : Nat) (A B r : ByteArray) (k : Int) : Prop := ∀ W : World, HasV W → Calls Try.prog F #[.string A, .string B] W fun e w' => e = .returned (.tuple #[.string r, .int .i64 k]) ∧ Below W.heap.size W w'
theorem qC_add {n m : Nat} {x y z : Rat} (h : Z.Rt n x) (g : Z.Rt m y) (h0 : 0 < n) (g0 : 0 < m) (hm : n + m + 1 ≤ 1000) (e : x + y = z) : QC 21 (Z.Q x) (Z.Q y) (Z.Q z) 0 := by
  subst e
  intro W hv
  have a1 := h.size h0 (by omega)
  have a2 := g.size g0 (by omega)
  have := qadd_any (Z.Q x) (Z.Q y) W hv (by omega) (by omega)
  unfold RopRet at this
  rwa [(Z.add_S h g h0 g0 hm).1, (Z.add_S h g h0 g0 hm).2] at this
end Go.Proofs.Ytblelgmedononaa
