/- Walks: whether an expression is the zero one, in the program and in the reference. -/
import Derived.Test.YtifafmomkpkgdaaDoorOta
namespace Go.Proofs.YtifafmomkpkgdaaDoor
open Go.RowKit
namespace Z
theorem eqS (a b : ByteArray) : (a.toList == b.toList) = decide (a = b) := by
  rw [Bool.eq_iff_iff, beq_iff_eq, decide_eq_true_iff]
  exact ⟨fun h => ba_of (by rw [← Lib.toList_data, ← Lib.toList_data, h]), fun h => by rw [h]⟩
theorem isE (s : ByteArray) : s.toList.isEmpty = decide (s = e0) := by
  rw [Bool.eq_iff_iff, List.isEmpty_iff, decide_eq_true_iff]
  refine ⟨fun h => ba_of ?_, fun h => by rw [h, Lib.toList_data]; rfl⟩
  rw [← Lib.toList_data, h]; rfl
theorem eqI (a b : Int) : (a == b) = decide (a = b) := rfl
theorem eqN (n : Nat) : ((n : Int) == 0) = decide (n = 0) := by
  rw [Bool.eq_iff_iff, beq_iff_eq, decide_eq_true_iff]; omega
end Z
set_option maxRecDepth 100000 in
theorem cbare_any (n : Nat) (x : Z.Ex (n + 1)) (u : Value) (w : World) (hx : XV w (n + 1) x (x.top, u)) :
    Calls Tryd.prog 51 #[.agg #[.int .u8 x.top.k, .string x.top.rat, .string x.top.name, .int .i64 x.top.date, u]] w fun e w' => e = .returned (.bool (Z.bareX x)) ∧ Below w.heap.size w w' := by
  obtain ⟨_, hS⟩ := hx.open_
  obtain ⟨A, cp, rfl, hlc, hcm⟩ := hS.shape
  have hb0 := (Below.refl _ w).alloc (Nat.le_refl w.heap.size) (.cells #[.int .u8 x.top.k, .string x.top.rat, .string x.top.name, .int .i64 x.top.date, .slice A x.sub.length cp] 25)
  have BX := Blk.new w 25 #[.int .u8 x.top.k, .string x.top.rat, .string x.top.name, .int .i64 x.top.date, .slice A x.sub.length cp]
  have c0 := BX.cell 0
  have c1 := BX.cell 1
  have c2 := BX.cell 2
  have c3 := BX.cell 3
  have c4 := BX.cell 4
  have h0 := Z.eqI x.top.k 0
  have h1 := Z.isE x.top.rat
  have h2 := Z.isE x.top.name
  have h3 := Z.eqI x.top.date 0
  have h4 := Z.eqN x.sub.length
  unfold Z.bareX
  clear hS hx BX
  generalize x.sub.length = n at *
  generalize x.top = t at *
  generalize decide (t.k = 0) = b0 at *
  generalize decide (t.rat = Z.e0) = b1 at *
  generalize decide (t.name = Z.e0) = b2 at *
  generalize decide (t.date = 0) = b3 at *
  generalize decide (n = 0) = b4 at *
  cases b0
  · (skip)
    go_enter Tryd.func51, Tryd.ntmps51
    go_wp2_with fail
    go_ret
    exact ⟨rfl, hb0⟩
  cases b1
  · (skip)
    go_enter Tryd.func51, Tryd.ntmps51
    go_wp2_with fail
    go_ret
    exact ⟨rfl, hb0⟩
  cases b2
  · (skip)
    go_enter Tryd.func51, Tryd.ntmps51
    go_wp2_with fail
    go_ret
    exact ⟨rfl, hb0⟩
  cases b3
  · (skip)
    go_enter Tryd.func51, Tryd.ntmps51
    go_wp2_with fail
    go_ret
    exact ⟨rfl, hb0⟩
  cases b4
  · (skip)
    go_enter Tryd.func51, Tryd.ntmps51
    go_wp2_with fail
    go_ret
    exact ⟨rfl, hb0⟩
  go_enter Tryd.func51, Tryd.ntmps51
  go_wp2_with fail
  go_ret
  exact ⟨rfl, hb0⟩
set_option maxRecDepth 100000 in
theorem rbare_any (n : Nat) (x : Z.Ex (n + 1)) (u : Value) (w : World) (hx : XV w (n + 1) x (x.top, u)) :
    Calls Tryd.prog 60 #[.agg #[.int .u8 x.top.k, .string x.top.rat, .string x.top.name, .int .i64 x.top.date, u]] w fun e w' => e = .returned (.bool (Z.bareX x)) ∧ Below w.heap.size w w' := by
  obtain ⟨_, hS⟩ := hx.open_
  obtain ⟨A, cp, rfl, hlc, hcm⟩ := hS.shape
  have hb0 := (Below.refl _ w).alloc (Nat.le_refl w.heap.size) (.cells #[.int .u8 x.top.k, .string x.top.rat, .string x.top.name, .int .i64 x.top.date, .slice A x.sub.length cp] 25)
  have BX := Blk.new w 25 #[.int .u8 x.top.k, .string x.top.rat, .string x.top.name, .int .i64 x.top.date, .slice A x.sub.length cp]
  have c0 := BX.cell 0
  have c1 := BX.cell 1
  have c2 := BX.cell 2
  have c3 := BX.cell 3
  have c4 := BX.cell 4
  have h0 := Z.eqI x.top.k 0
  have h1 := Z.isE x.top.rat
  have h2 := Z.isE x.top.name
  have h3 := Z.eqI x.top.date 0
  have h4 := Z.eqN x.sub.length
  unfold Z.bareX
  clear hS hx BX
  generalize x.sub.length = n at *
  generalize x.top = t at *
  generalize decide (t.k = 0) = b0 at *
  generalize decide (t.rat = Z.e0) = b1 at *
  generalize decide (t.name = Z.e0) = b2 at *
  generalize decide (t.date = 0) = b3 at *
  generalize decide (n = 0) = b4 at *
  cases b0
  · (skip)
    go_enter Tryd.func60, Tryd.ntmps60
    go_wp2_with fail
    go_ret
    exact ⟨rfl, hb0⟩
  cases b1
  · (skip)
    go_enter Tryd.func60, Tryd.ntmps60
    go_wp2_with fail
    go_ret
    exact ⟨rfl, hb0⟩
  cases b2
  · (skip)
    go_enter Tryd.func60, Tryd.ntmps60
    go_wp2_with fail
    go_ret
    exact ⟨rfl, hb0⟩
  cases b3
  · (skip)
    go_enter Tryd.func60, Tryd.ntmps60
    go_wp2_with fail
    go_ret
    exact ⟨rfl, hb0⟩
  cases b4
  · (skip)
    go_enter Tryd.func60, Tryd.ntmps60
    go_wp2_with fail
    go_ret
    exact ⟨rfl, hb0⟩
  go_enter Tryd.func60, Tryd.ntmps60
  go_wp2_with fail
  go_ret
  exact ⟨rfl, hb0⟩
end Go.Proofs.YtifafmomkpkgdaaDoor
