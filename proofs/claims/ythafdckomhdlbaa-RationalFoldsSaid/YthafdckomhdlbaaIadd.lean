/- Walks: magnitudes: plus. -/
import Derived.Test.YthafdckomhdlbaaImag
namespace Go.Proofs.Ythafdckomhdlbaa
open Go.RowKit

theorem elem32 : ElemInt Try.prog .u32 98 4 := by unfold ElemInt; kernel_rfl

/-- A new slice of the call's own reads as the digits of a number. -/
def MagRet (w : World) (n : Nat) (e : Ending) (w' : World) : Prop := ∃ v, e = .returned v ∧ Ow .u32 98 w' w.heap.size v (Z.dg 1000000000 n) ∧ Below w.heap.size w w'

def TrimOwn (w : World) (B n : Nat) (e : Ending) (w' : World) : Prop := ∃ v, e = .returned v ∧ Ow .u32 98 w B v (Z.dg 1000000000 n) ∧ w = w'
theorem trim_own (v : Value) (ms : List Nat) (w : World) (B : Nat) (hown : Ow .u32 98 w B v ms) (hb : ∀ d ∈ ms, d < 1000000000) (hl : ms.length ≤ 1000000000) :
    Calls Try.prog 84 #[v] w (TrimOwn w B (Z.ofDg 1000000000 ms)) := by
  have hS := hown.sn
  by_cases h0 : 0 < ms.length
  · obtain ⟨g, cap, rfl, _, _, _, _⟩ := hown.form h0
    refine (trim_any _ _ _ _ hS hl).mono ?_
    rintro e w' ⟨k, hk, rfl, ht, rfl⟩
    refine ⟨_, rfl, ?_, rfl⟩
    rw [← ht 1000000000 (by omega) hb]
    exact hown.cut hk
  · have hms : ms = [] := List.eq_nil_of_length_eq_zero (by omega)
    subst hms
    rcases hown.2 with ⟨rfl, _⟩ | ⟨g, cap, cur, rfl, h⟩
    · refine (trim_any _ _ [] _ hS hl).mono ?_
      rintro e w' ⟨k, hk, rfl, ht, rfl⟩
      obtain rfl : k = 0 := by simpa using hk
      exact ⟨_, rfl, Ow.nil_ _, rfl⟩
    · refine (trim_any _ _ [] _ hS hl).mono ?_
      rintro e w' ⟨k, hk, rfl, ht, rfl⟩
      obtain rfl : k = 0 := by simpa using hk
      exact ⟨_, rfl, hown, rfl⟩

set_option maxHeartbeats 400000 in
theorem plus_any (v u : Value) (xs ys : List Nat) (w : World) (hS : SN .u32 w v xs) (hT : SN .u32 w u ys) (hx : Z.Can 1000000000 xs) (hy : Z.Can 1000000000 ys)
    (hl : xs.length ≤ 100000000) (hl' : ys.length ≤ 100000000) :
    Calls Try.prog 66 #[v, u] w (MagRet w (Z.ofDg 1000000000 xs + Z.ofDg 1000000000 ys)) := by
  obtain ⟨A, c, rfl, hc, hm, hcell⟩ := hS
  obtain ⟨A', c', rfl, hc', hm', hcell'⟩ := hT
  go_enter Try.func66, Try.ntmps66
  go_upto_if 14 with fail
  go_cut [0, 1] (fun v0 v1 wx => ∃ (A A' : Option Addr) (c c' : Nat) (xs' ys' : List Nat), v0 = .slice A xs'.length c ∧ v1 = .slice A' ys'.length c' ∧ SN .u32 w (.slice A xs'.length c) xs' ∧ SN .u32 w (.slice A' ys'.length c') ys' ∧ ys'.length ≤ xs'.length ∧ xs'.length ≤ 100000000 ∧
      Hid (Z.Can 1000000000 xs' ∧ Z.Can 1000000000 ys' ∧ Z.ofDg 1000000000 xs' + Z.ofDg 1000000000 ys' = Z.ofDg 1000000000 xs + Z.ofDg 1000000000 ys) ∧ w = wx)
  case first =>
    go_wp2_with fail
    · have h1 : xs.length < ys.length := by assumption
      go_meet
      exact ⟨A', A, c', c, ys, xs, rfl, rfl, ⟨_, _, rfl, hc', hm', hcell'⟩, ⟨_, _, rfl, hc, hm, hcell⟩, by omega, hl', ⟨hy, hx, Nat.add_comm _ _⟩, rfl⟩
    · have h1 : ¬ xs.length < ys.length := by assumption
      go_meet
      exact ⟨A, A', c, c', xs, ys, rfl, rfl, ⟨_, _, rfl, hc, hm, hcell⟩, ⟨_, _, rfl, hc', hm', hcell'⟩, by omega, hl, ⟨hx, hy, rfl⟩, rfl⟩
  case rest =>
    clear hcell hcell' hc hc' hm hm' hx hy hl hl'
    obtain ⟨A, A', c, c', xs', ys', rfl, rfl, hS, hT, hle, hl, HV, rfl⟩ := hcut
    go_wp2_with (at_make; refine mk0 rfl _ _ _ rfl elem32 Try.underlying89 (by omega) w w.heap.size _ (xs'.length + 1) rfl rfl (by omega) (by omega) (Nat.le_refl _) ?_; intro w1 hown1 hb1 hs1)
    go_loopw [5, 6, 23] (fun out ca i wr => ∃ (k cy : Nat) (os : List Nat), k ≤ xs'.length ∧ i = .int .i64 k ∧ ca = .int .u32 cy ∧ cy ≤ 1 ∧ Ow .u32 98 wr w.heap.size out os ∧ Below w.heap.size w wr ∧
      Hid (os.length = k ∧ (∀ d ∈ os, d < 1000000000) ∧ Z.ofDg 1000000000 os + 1000000000 ^ k * cy = Z.ofDg 1000000000 (xs'.take k) + Z.ofDg 1000000000 (ys'.take k))) (fun _ _ i _ => xs'.length - (intOf i).toNat)
    case atStart => exact ⟨0, 0, [], by omega, rfl, rfl, by omega, hown1, hb1, ⟨rfl, by simp, by simp [Z.ofDg]⟩⟩
    case round =>
      obtain ⟨k, cy, os, hk, rfl, rfl, hcy, hown, hb, HI⟩ := hrel
      clear hown1 hb1
      have hos : os.length ≤ k := by rw [HI.out.1]; omega
      by_cases hlt : k < xs'.length
      · obtain ⟨A0, c0, hv0, hc0, hm0, hcell0⟩ := hS
        simp only [Value.slice.injEq, true_and] at hv0
        obtain ⟨rfl, rfl⟩ := hv0
        obtain ⟨g, o, rfl, hg, hcl⟩ := hcell0 (by omega)
        obtain ⟨d, hd⟩ : ∃ d, xs'[k]? = some d := ⟨_, List.getElem?_eq_getElem (by omega)⟩
        have hr0 : wr.cell? ⟨g, o + k, none⟩ = some (.int .u32 (d : Int)) := (hb.cell (p := ⟨g, o + k, none⟩) hg).trans (hcl _ _ hd)
        have hd1 : d < 1000000000 := HV.out.1.1 d (List.mem_of_getElem? hd)
        have HD := Lib.hid hd
        clear hcl hd hcell0
        by_cases hlt' : k < ys'.length
        · obtain ⟨A1, c1, hv1, hc1, hm1, hcell1⟩ := hT
          simp only [Value.slice.injEq, true_and] at hv1
          obtain ⟨rfl, rfl⟩ := hv1
          obtain ⟨g', o', rfl, hg', hcl'⟩ := hcell1 (by omega)
          obtain ⟨d', hd'⟩ : ∃ d, ys'[k]? = some d := ⟨_, List.getElem?_eq_getElem (by omega)⟩
          have hr1 : wr.cell? ⟨g', o' + k, none⟩ = some (.int .u32 (d' : Int)) := (hb.cell (p := ⟨g', o' + k, none⟩) hg').trans (hcl' _ _ hd')
          have hd1' : d' < 1000000000 := HV.out.2.1.1 d' (List.mem_of_getElem? hd')
          have HD' := Lib.hid hd'
          clear hcl' hd' hcell1
          go_wp2_with (at_builtin; refine app1 rfl _ _ _ rfl elem32 Try.underlying89 (by omega) wr w.heap.size _ os _ ((d + d' + cy) % 1000000000) (by omega) rfl hown rfl (by omega) hb.size ?_; intro v2 w2 hown2 hb2 hs2)
          go_roundw
          case rel =>
            have hst := Z.plus_step 1000000000 (by omega) xs' ys' os k cy HV.out.1.1 HV.out.2.1.1 hcy HI.out.1 HI.out.2.2
            rw [Z.dAt_some HD.out, Z.dAt_some HD'.out] at hst
            refine ⟨k + 1, (d + d' + cy) / 1000000000, os ++ [(d + d' + cy) % 1000000000], by omega, by go_num, ret_v (by omega), hst.2, hown2, hb.trans hb2, by simp [HI.out.1], ?_, hst.1⟩
            intro x hx
            rcases List.mem_append.1 hx with hx | hx
            · exact HI.out.2.1 x hx
            · have : x = (d + d' + cy) % 1000000000 := by simpa using hx
              omega
          case measure => simp [intOf]; omega
        · have HD' : Hid (Z.dAt ys' k = 0) := Z.dAt_none (by omega)
          go_wp2_with (at_builtin; refine app1 rfl _ _ _ rfl elem32 Try.underlying89 (by omega) wr w.heap.size _ os _ ((d + 0 + cy) % 1000000000) (by omega) rfl hown rfl (by omega) hb.size ?_; intro v2 w2 hown2 hb2 hs2)
          go_roundw
          case rel =>
            have hst := Z.plus_step 1000000000 (by omega) xs' ys' os k cy HV.out.1.1 HV.out.2.1.1 hcy HI.out.1 HI.out.2.2
            rw [Z.dAt_some HD.out, HD'.out] at hst
            refine ⟨k + 1, (d + 0 + cy) / 1000000000, os ++ [(d + 0 + cy) % 1000000000], by omega, by go_num, ret_v (by omega), hst.2, hown2, hb.trans hb2, by simp [HI.out.1], ?_, hst.1⟩
            intro x hx
            rcases List.mem_append.1 hx with hx | hx
            · exact HI.out.2.1 x hx
            · have : x = (d + 0 + cy) % 1000000000 := by simpa using hx
              omega
          case measure => simp [intOf]; omega
      · obtain rfl : k = xs'.length := by omega
        go_wp2_with (at_builtin; refine app1 rfl _ _ _ rfl elem32 Try.underlying89 (by omega) wr w.heap.size u5 os _ cy (by omega) rfl hown rfl (by omega) hb.size ?_; intro v2 w2 hown2 hb2 hs2)
        have hbd : ∀ d ∈ os ++ [cy], d < 1000000000 := by
          intro x hx
          rcases List.mem_append.1 hx with hx | hx
          · exact HI.out.2.1 x hx
          · have : x = cy := by simpa using hx
            omega
        refine (trim_own _ _ _ _ hown2 hbd (by simp; omega)).mono ?_
        rintro e w3 ⟨v3, rfl, hown3, rfl⟩
        go_wp2_with fail
        go_ret
        refine ⟨v3, rfl, ?_, hb.trans hb2⟩
        have hv : Z.ofDg 1000000000 (os ++ [cy]) = Z.ofDg 1000000000 xs + Z.ofDg 1000000000 ys := by
          rw [Z.ofDg_snoc, HI.out.1, HI.out.2.2, List.take_of_length_le (Nat.le_refl _), List.take_of_length_le hle, HV.out.2.2]
        rw [← hv]
        exact hown3
end Go.Proofs.Ythafdckomhdlbaa
