/- Words for the laws' frames: a calendar that came in; an argument that stays. -/
import Derived.Test.YtmbbpimihnojeaaCmem
import Derived.ProofKit
import Derived.OpenShut
import Derived.ShutString
import Derived.Lib.SmallJoins
namespace Go.Proofs.Ytmbbpimihnojeaa
open Go.ChangeShapes Go.WideShapes Go.ChangeAt Go.RowKit Go.Joins

theorem laidOut : laidOutB Try.prog = true := by kernel_rfl
theorem arg_stays {H : Type} {enc : TypeId × Value → H} {W W' : World} {t : TypeId} {v : Value} {d : DataW H} {p : List MemPlace} (hr : Try.prog.readableRec t = true) (hrow : t < Try.prog.types.size)
    (h : DataW.Trod enc Try.prog W 0 (fun _ => true) true t v d p) (hb : Below W.heap.size W W') : DataW.Trod enc Try.prog W' 0 (fun b => decide (b < W.heap.size)) true t v d p := by
  have h2 := h
  obtain ⟨n, hn⟩ := h
  exact Below.trod laidOut hr hrow h2 hb (DataW.trod_lt n t _ _ hn)
theorem cells_int : Try.prog.cellsOf 3 = 1 := by kernel_rfl
theorem cells_cal : Try.prog.cellsOf 24 = 2 := by kernel_rfl
theorem si_open {H : Type} {enc : TypeId × Value → H} {W : World} {n : Nat} {v : Value} {y : DataW H × List MemPlace}
    (h : DataW.trod enc Try.prog W 0 (fun _ => true) true n 22 [v] = some y) : ∃ hs, SI W v hs := by
  have hpl := DataW.trod_lt n 22 _ _ h
  rcases open_ints Try.underlying22 Try.underlying3 cells_int h with ⟨hcs, _⟩ | ⟨a, len, cap, zs, hcs, _, hl, hm, hz, hx, hcell, _⟩
  · injection hcs with hcs _
    subst hcs
    exact ⟨[], SI.nil_⟩
  · injection hcs with hcs _
    subst hcs
    simp only [if_true] at hz
    have hlen : (zs.take len).length = len := by rw [List.length_take]; omega
    refine ⟨zs.take len, some a, cap, by rw [hlen], by omega, hm, fun hp => ?_⟩
    obtain ⟨b, off, rfl, hc⟩ := ints_at hcell (by omega)
    refine ⟨b, off, rfl, ?_, fun i d hd => ?_⟩
    · rw [hx] at hpl
      exact hpl (.cell b off) (MemPlace.mem_row.2 ⟨0, by omega, by simp⟩)
    · have hi : i < (zs.take len).length := (List.getElem?_eq_some_iff.1 hd).1
      have := hc i (by omega)
      rw [List.getElem?_take_of_lt (by omega)] at hd
      rw [this]
      simp [List.getD_eq_getElem?_getD, hd]
theorem cal_open {H : Type} {enc : TypeId × Value → H} {W : World} {r : Reach} {b0 : Nat} {v : Value} {d : DataW H} {p : List MemPlace} (hv : Value.okWide Try.prog W r b0 24 v)
    (h : DataW.Trod enc Try.prog W 0 (fun _ => true) true 24 v d p) : ∃ (wk : Int) (u : Value) (hs : List Int), v = .agg #[.int .u8 wk, u] ∧ 0 ≤ wk ∧ wk ≤ 255 ∧ SI W u hs := by
  obtain ⟨c0, c1, y0, y1, m, rfl, rfl, rfl, hy0, hy1⟩ := open_agg2 Try.underlying24 (by kernel_rfl) cells_cal hv h
  obtain ⟨a, e0, _, wa⟩ := DataW.trod_int Try.underlying5 hy0
  injection e0 with e0 _
  subst e0
  obtain ⟨hs, hsi⟩ := si_open hy1
  have := bounds_u8 wa
  exact ⟨a, c1, hs, rfl, this.1, this.2, hsi⟩
end Go.Proofs.Ytmbbpimihnojeaa
