/- Walks: integer.Compare, Gcd. -/
import Derived.Test.YthafdckomhdlbaaIdvm
namespace Go.Proofs.Ythafdckomhdlbaa
open Go.RowKit

def CmpVRet (a b : ByteArray) (w : World) (e : Ending) (w' : World) : Prop := e = .returned (.tuple #[.int .i64 (Z.cmpV a b), .int .i64 (Z.bothE a b)]) ∧ Below w.heap.size w w'
theorem cmpv_bad {a b : ByteArray} {w w' : World} (h : Z.bothE a b ≠ 0) (hb : Below w.heap.size w w') : CmpVRet a b w (.returned (.tuple #[.int .i64 0, .int .i64 (Z.bothE a b)])) w' := by
  unfold CmpVRet Z.cmpV
  rw [if_neg h]
  exact ⟨rfl, hb⟩
theorem cmpv_ok {a b : ByteArray} {w w' : World} {c : Int} (h : Z.bothE a b = 0) (hc : Z.cmpI (Z.ival a.data.toList) (Z.ival b.data.toList) = c) (hb : Below w.heap.size w w') : CmpVRet a b w (.returned (.tuple #[.int .i64 c, .int .i64 0])) w' := by
  subst hc
  unfold CmpVRet Z.cmpV
  rw [if_pos h, h]
  exact ⟨rfl, hb⟩
theorem cmp_pp {x y : Int} (hx : ¬ x < 0) (hy : ¬ y < 0) : Z.cmpI x y = Z.cmp x.natAbs y.natAbs := by
  rw [← Z.cmpI_abs]
  congr 1 <;> omega
theorem cmp_nn {x y : Int} (hx : x < 0) (hy : y < 0) : Z.cmpI x y = Z.cmp y.natAbs x.natAbs := by
  rw [← Z.cmpI_abs, ← Z.cmpI_neg]
  congr 1 <;> omega
theorem cmp_np {x y : Int} (hx : x < 0) (hy : ¬ y < 0) : Z.cmpI x y = -1 := by unfold Z.cmpI; rw [if_pos (by omega)]
theorem cmp_pn {x y : Int} (hx : ¬ x < 0) (hy : y < 0) : Z.cmpI x y = 1 := by unfold Z.cmpI; rw [if_neg (by omega), if_neg (by omega)]
theorem cmp_bd (n m : Nat) : -1 ≤ Z.cmp n m ∧ Z.cmp n m ≤ 1 := by unfold Z.cmp; split <;> (first | omega | (split <;> omega))

set_option maxHeartbeats 1000000 in
theorem icompare_any (a b : ByteArray) (w : World) (ha : a.size ≤ maxLen) (hb : b.size ≤ maxLen) :
    Calls Try.prog 59 #[.string a, .string b] w (CmpVRet a b w) := by
  by_cases h : Z.bothE a b = 0
  · have P := Lib.hid (fun W : World => pair_ok a b W h)
    obtain ⟨hx, hy⟩ := both_len h
    have HF := Lib.hid (fun (c : Int) (hc : _ = c) (w' : World) (hw : Below w.heap.size w w') => cmpv_ok h hc hw)
    clear h
    generalize Z.ival a.data.toList = x at *
    generalize Z.ival b.data.toList = y at *
    have C1 := Lib.hid (fun (W : World) v u hS hT => compareN v u x.natAbs y.natAbs W hS hT (by omega) (by omega))
    have C2 := Lib.hid (fun (W : World) v u hS hT => compareN v u y.natAbs x.natAbs W hS hT (by omega) (by omega))
    have B1 := cmp_bd x.natAbs y.natAbs
    have B2 := cmp_bd y.natAbs x.natAbs
    clear hx hy
    by_cases hx0 : x < 0 <;> by_cases hy0 : y < 0
    · have HFF := Lib.hid (HF.out _ (cmp_nn hx0 hy0))
      clear HF
      generalize Z.cmp x.natAbs y.natAbs = c1 at *
      generalize Z.cmp y.natAbs x.natAbs = c2 at *
      go_enter Try.func59, Try.ntmps59
      go_wp2_with fail
      refine (P.out _).mono ?_
      rintro e w1 ⟨A, c, A', c', rfl, hs, ht, hb1⟩
      rw [decide_eq_true hx0, decide_eq_true hy0]
      clear hx0 hy0
      have hbA := (Below.refl w1.heap.size w1).alloc (Nat.le_refl _) (.cells #[.bool true, .slice A (Z.dg 1000000000 x.natAbs).length c] 91)
      have hbB := hbA.alloc hbA.size (.cells #[.bool true, .slice A' (Z.dg 1000000000 y.natAbs).length c'] 91)
      have hS0 := hs.below hbB
      have hT0 := ht.below hbB
      have hbE := hb1.trans (hbB.mono hb1.size)
      go_wp2_with fail
      refine (C2.out _ _ _ hT0 hS0).mono ?_
      rintro e w2 ⟨rfl, n2, rfl⟩
      go_wp2_with fail
      go_ret2
      exact HFF.out _ (hbE.trans (below_of_drewN _ _ _))

    · have HFF := Lib.hid (HF.out _ (cmp_np hx0 hy0))
      clear HF
      generalize Z.cmp x.natAbs y.natAbs = c1 at *
      generalize Z.cmp y.natAbs x.natAbs = c2 at *
      go_enter Try.func59, Try.ntmps59
      go_wp2_with fail
      refine (P.out _).mono ?_
      rintro e w1 ⟨A, c, A', c', rfl, hs, ht, hb1⟩
      rw [decide_eq_true hx0, decide_eq_false (show ¬ y < 0 by omega)]
      clear hx0 hy0
      have hbA := (Below.refl w1.heap.size w1).alloc (Nat.le_refl _) (.cells #[.bool true, .slice A (Z.dg 1000000000 x.natAbs).length c] 91)
      have hbB := hbA.alloc hbA.size (.cells #[.bool false, .slice A' (Z.dg 1000000000 y.natAbs).length c'] 91)
      have hS0 := hs.below hbB
      have hT0 := ht.below hbB
      have hbE := hb1.trans (hbB.mono hb1.size)
      go_wp2_with fail
      go_ret2
      exact HFF.out _ hbE

    · have HFF := Lib.hid (HF.out _ (cmp_pn hx0 hy0))
      clear HF
      generalize Z.cmp x.natAbs y.natAbs = c1 at *
      generalize Z.cmp y.natAbs x.natAbs = c2 at *
      go_enter Try.func59, Try.ntmps59
      go_wp2_with fail
      refine (P.out _).mono ?_
      rintro e w1 ⟨A, c, A', c', rfl, hs, ht, hb1⟩
      rw [decide_eq_false (show ¬ x < 0 by omega), decide_eq_true hy0]
      clear hx0 hy0
      have hbA := (Below.refl w1.heap.size w1).alloc (Nat.le_refl _) (.cells #[.bool false, .slice A (Z.dg 1000000000 x.natAbs).length c] 91)
      have hbB := hbA.alloc hbA.size (.cells #[.bool true, .slice A' (Z.dg 1000000000 y.natAbs).length c'] 91)
      have hS0 := hs.below hbB
      have hT0 := ht.below hbB
      have hbE := hb1.trans (hbB.mono hb1.size)
      go_wp2_with fail
      go_ret2
      exact HFF.out _ hbE

    · have HFF := Lib.hid (HF.out _ (cmp_pp hx0 hy0))
      clear HF
      generalize Z.cmp x.natAbs y.natAbs = c1 at *
      generalize Z.cmp y.natAbs x.natAbs = c2 at *
      go_enter Try.func59, Try.ntmps59
      go_wp2_with fail
      refine (P.out _).mono ?_
      rintro e w1 ⟨A, c, A', c', rfl, hs, ht, hb1⟩
      rw [decide_eq_false (show ¬ x < 0 by omega), decide_eq_false (show ¬ y < 0 by omega)]
      clear hx0 hy0
      have hbA := (Below.refl w1.heap.size w1).alloc (Nat.le_refl _) (.cells #[.bool false, .slice A (Z.dg 1000000000 x.natAbs).length c] 91)
      have hbB := hbA.alloc hbA.size (.cells #[.bool false, .slice A' (Z.dg 1000000000 y.natAbs).length c'] 91)
      have hS0 := hs.below hbB
      have hT0 := ht.below hbB
      have hbE := hb1.trans (hbB.mono hb1.size)
      go_wp2_with fail
      refine (C1.out _ _ _ hS0 hT0).mono ?_
      rintro e w2 ⟨rfl, n2, rfl⟩
      go_wp2_with fail
      go_ret2
      exact HFF.out _ (hbE.trans (below_of_drewN _ _ _))

  · have hne : (Z.bothE a b == 0) = false := by simpa using h
    have P := Lib.hid (fun W : World => pair_bad a b W ha hb h)
    have HF := Lib.hid (fun (w' : World) (hw : Below w.heap.size w w') => cmpv_bad h hw)
    clear h
    generalize Z.bothE a b = k at *
    go_enter Try.func59, Try.ntmps59
    go_wp2_with fail
    refine (P.out _).mono ?_
    rintro e w1 ⟨rfl, hb1⟩
    go_wp2_with fail
    go_ret2
    exact HF.out _ ((hb1.alloc hb1.size _).alloc (by have := hb1.size; simp; omega) _)
end Go.Proofs.Ythafdckomhdlbaa
