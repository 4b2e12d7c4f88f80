/- Walks: magnitudes: divide. -/
import Derived.Test.YthafdckomhdlbaaIshort
import Derived.Test.YthafdckomhdlbaaZdiv
import Derived.OneCell
namespace Go.Proofs.Ythafdckomhdlbaa
open Go.RowKit

/-- trim, of whatever slice. -/
def TrimSN (w : World) (n : Nat) (e : Ending) (w' : World) : Prop := ∃ v, e = .returned v ∧ SN .u32 w v (Z.dg 1000000000 n) ∧ w = w'
theorem trim_sn (v : Value) (ms : List Nat) (w : World) (hS : SN .u32 w v ms) (hb : ∀ d ∈ ms, d < 1000000000) (hl : ms.length ≤ 1000000000) :
    Calls Try.prog 84 #[v] w (TrimSN w (Z.ofDg 1000000000 ms)) := by
  have hS' := hS
  obtain ⟨A, c, rfl, hc, hm, hcell⟩ := hS
  refine (trim_any _ _ ms _ hS' hl).mono ?_
  rintro e w' ⟨k, hk, rfl, ht, rfl⟩
  refine ⟨_, rfl, ?_, rfl⟩
  rw [← ht 1000000000 (by omega) hb]
  have hlen : (ms.take k).length = k := by rw [List.length_take]; omega
  refine ⟨A, c, by rw [hlen], by omega, hm, fun h0 => ?_⟩
  obtain ⟨b, o, hA, hlt, hc⟩ := hcell (by omega)
  refine ⟨b, o, hA, hlt, fun i d hd => hc i d ?_⟩
  rw [List.getElem?_take] at hd
  split at hd
  · exact hd
  · cases hd
/-- A new slice of one digit reads as it. -/
theorem sn_one (w : World) (d : Nat) (y : Int) (h : y = (d : Int)) (e : TypeId) : SN .u32 (w.alloc (.cells #[.int .u32 y] e)) (.slice (some ⟨w.heap.size, 0, none⟩) 1 1) [d] := by
  subst h
  refine ⟨_, 1, rfl, Nat.le_refl _, by simp [maxLen], fun _ => ⟨w.heap.size, 0, rfl, by simp, fun i x hi => ?_⟩⟩
  have hlt := (List.getElem?_eq_some_iff.1 hi).1
  simp at hlt
  subst hlt
  simp at hi
  subst hi
  simp

/-- The quotient and the rest, as slices that read as their digits. -/
def DivRet (w : World) (q r : Nat) (e : Ending) (w' : World) : Prop := ∃ v u, e = .returned (.tuple #[v, u]) ∧ SN .u32 w' v (Z.dg 1000000000 q) ∧ SN .u32 w' u (Z.dg 1000000000 r) ∧ Below w.heap.size w w'

set_option maxRecDepth 100000 in
set_option maxHeartbeats 800000 in
theorem divide_small (v u : Value) (xs ys : List Nat) (w : World) (hS : SN .u32 w v xs) (hT : SN .u32 w u ys) (hx : Z.Can 1000000000 xs) (hy : Z.Can 1000000000 ys)
    (hl : xs.length ≤ 10000000) (hl' : ys.length ≤ 10000000) (hlt : Z.ofDg 1000000000 xs < Z.ofDg 1000000000 ys) :
    Calls Try.prog 64 #[v, u] w (DivRet w (Z.ofDg 1000000000 xs / Z.ofDg 1000000000 ys) (Z.ofDg 1000000000 xs % Z.ofDg 1000000000 ys)) := by
  have C := compare_any v u 1000000000 (by omega) xs ys w hS hT hx hy (by omega) (by omega)
  rw [Z.cmp_lt hlt] at C
  have C' := Lib.hid C
  clear C
  obtain ⟨A, c, rfl, hc, hm, hcell⟩ := hS
  go_enter Try.func64, Try.ntmps64
  go_wp2_with fail
  refine C'.out.mono ?_
  rintro e w1 ⟨rfl, n, rfl⟩
  go_wp2_with fail
  go_ret2
  refine ⟨_, _, rfl, ?_, ?_, below_of_drewN _ _ _⟩
  · rw [Nat.div_eq_of_lt hlt]
    exact SN.nil_
  · rw [Nat.mod_eq_of_lt hlt, Z.dg_ofDg 1000000000 (by omega) xs hx]
    exact ⟨A, c, rfl, hc, hm, hcell⟩

set_option maxRecDepth 100000 in
set_option maxHeartbeats 800000 in
theorem divide_one (v u : Value) (xs : List Nat) (d : Nat) (w : World) (hS : SN .u32 w v xs) (hT : SN .u32 w u [d]) (hx : Z.Can 1000000000 xs) (hd0 : 0 < d) (hd1 : d < 1000000000)
    (hl : xs.length ≤ 10000000) (hge : d ≤ Z.ofDg 1000000000 xs) :
    Calls Try.prog 64 #[v, u] w (DivRet w (Z.ofDg 1000000000 xs / d) (Z.ofDg 1000000000 xs % d)) := by
  have hy : Z.Can 1000000000 [d] := ⟨by simp; exact hd1, by simp; omega⟩
  have hyv : Z.ofDg 1000000000 [d] = d := by simp [Z.ofDg]
  have C := compare_any v u 1000000000 (by omega) xs [d] w hS hT hx hy (by omega) (by simp)
  have hcmp : Z.cmp (Z.ofDg 1000000000 xs) (Z.ofDg 1000000000 [d]) = 0 ∨ Z.cmp (Z.ofDg 1000000000 xs) (Z.ofDg 1000000000 [d]) = 1 := by
    rw [hyv]
    rcases Nat.eq_or_lt_of_le hge with h | h
    · exact .inl (Z.cmp_eq h.symm)
    · exact .inr (Z.cmp_gt h)
  generalize Z.cmp (Z.ofDg 1000000000 xs) (Z.ofDg 1000000000 [d]) = cv at *
  have hcv : 0 ≤ cv := by omega
  have C' := Lib.hid C
  have HX := Lib.hid hx
  clear C hcmp hy hyv hge hx
  have hS' := hS
  obtain ⟨A', c', rfl, hc', hm', hcell'⟩ := hT
  obtain ⟨g, o, rfl, hg, hcl⟩ := hcell' (by simp)
  have hr := hcl 0 d rfl
  clear hcl hcell'
  simp only [List.length_singleton, Nat.add_zero] at *
  go_enter Try.func64, Try.ntmps64
  go_wp2_with fail
  refine C'.out.mono ?_
  rintro e w1 ⟨rfl, n, rfl⟩
  go_wp2_with fail
  refine (short_any v xs d _ (hS'.drewN n) HX.out.1 (by omega) hd0 hd1).mono ?_
  rintro e w2 ⟨v2, rfl, hown2, hb2⟩
  go_wp2_with fail
  refine (trim_sn _ [Z.ofDg 1000000000 xs % d] _ (sn_one _ _ _ rfl _) ?_ (by simp)).mono ?_
  · have := Nat.mod_lt (Z.ofDg 1000000000 xs) hd0
    simp; omega
  rintro e w3 ⟨v3, rfl, hs3, rfl⟩
  go_wp2_with fail
  go_ret2
  have e1 : Z.ofDg 1000000000 [Z.ofDg 1000000000 xs % d] = Z.ofDg 1000000000 xs % d := by simp [Z.ofDg]
  rw [e1] at hs3
  exact ⟨v2, v3, rfl, hown2.sn.below ((Below.refl _ _).alloc (Nat.le_refl _) _), hs3, ((below_of_drewN w n _).trans hb2).alloc hb2.size _⟩
end Go.Proofs.Ythafdckomhdlbaa
