/- Walks: the statements' helper alive of chapter 2: the chapter's examples. -/
import Derived.Test.YthafdckomhdlbaaDoorRlaw
import Derived.Test.YthafdckomhdlbaaDoorRd3
namespace Go.Proofs.YthafdckomhdlbaaDoor
open Go.RowKit

theorem alive_add : QC 14 ⟨#[49, 47, 54]⟩ ⟨#[49, 47, 51]⟩ ⟨#[49, 47, 50]⟩ 0 := by
  intro W hv
  have := qadd_any ⟨#[49, 47, 54]⟩ ⟨#[49, 47, 51]⟩ W hv (by decide) (by decide)
  unfold RopRet at this
  rwa [show Z.ropS (Z.lAdd ⟨#[49, 47, 54]⟩ ⟨#[49, 47, 51]⟩) (Z.rq ⟨#[49, 47, 54]⟩ + Z.rq ⟨#[49, 47, 51]⟩) ⟨#[49, 47, 54]⟩ ⟨#[49, 47, 51]⟩ = ⟨#[49, 47, 50]⟩ from by decide +kernel, show Z.ropE (Z.lAdd ⟨#[49, 47, 54]⟩ ⟨#[49, 47, 51]⟩) ⟨#[49, 47, 54]⟩ ⟨#[49, 47, 51]⟩ = 0 from by decide +kernel] at this
theorem alive_div : QC 17 ⟨#[45, 50]⟩ ⟨#[52, 47, 51]⟩ ⟨#[45, 51, 47, 50]⟩ 0 := by
  intro W hv
  have := qdiv_any ⟨#[45, 50]⟩ ⟨#[52, 47, 51]⟩ W hv (by decide) (by decide)
  unfold DivQ at this
  rwa [show Z.rdivS ⟨#[45, 50]⟩ ⟨#[52, 47, 51]⟩ = ⟨#[45, 51, 47, 50]⟩ from by decide +kernel, show Z.rdivE ⟨#[45, 50]⟩ ⟨#[52, 47, 51]⟩ = 0 from by decide +kernel] at this
/-- Round on one text. -/
def RC (A : ByteArray) (m : Int) (r : ByteArray) (k : Int) : Prop := ∀ W : World, HasV W → Away W → Calls Tryd.prog 10 #[.string A, .int .u8 m] W fun e w' => e = .returned (.tuple #[.string r, .int .i64 k]) ∧ Below W.heap.size W w'
theorem rC_of {A r : ByteArray} {m k : Int} (hA : A.size ≤ 100000) (h0 : 0 ≤ m) (hr : Z.rndS m A = r) (hk : Z.rndE m A = k) : RC A m r k := by
  subst hr hk
  intro W hv hA'
  have := round_any A m W h0 hv hA' hA
  unfold RndRet at this
  exact this
theorem alive_p0 : RC ⟨#[53, 47, 50]⟩ 0 ⟨#[50]⟩ 0 := rC_of (by decide) (by decide) (by decide +kernel) (by decide +kernel)
theorem alive_m0 : RC ⟨#[45, 53, 47, 50]⟩ 0 ⟨#[45, 50]⟩ 0 := rC_of (by decide) (by decide) (by decide +kernel) (by decide +kernel)
theorem alive_p1 : RC ⟨#[53, 47, 50]⟩ 1 ⟨#[51]⟩ 0 := rC_of (by decide) (by decide) (by decide +kernel) (by decide +kernel)
theorem alive_m1 : RC ⟨#[45, 53, 47, 50]⟩ 1 ⟨#[45, 51]⟩ 0 := rC_of (by decide) (by decide) (by decide +kernel) (by decide +kernel)
theorem alive_p2 : RC ⟨#[53, 47, 50]⟩ 2 ⟨#[51]⟩ 0 := rC_of (by decide) (by decide) (by decide +kernel) (by decide +kernel)
theorem alive_m2 : RC ⟨#[45, 53, 47, 50]⟩ 2 ⟨#[45, 51]⟩ 0 := rC_of (by decide) (by decide) (by decide +kernel) (by decide +kernel)
theorem alive_p3 : RC ⟨#[53, 47, 50]⟩ 3 ⟨#[50]⟩ 0 := rC_of (by decide) (by decide) (by decide +kernel) (by decide +kernel)
theorem alive_m3 : RC ⟨#[45, 53, 47, 50]⟩ 3 ⟨#[45, 50]⟩ 0 := rC_of (by decide) (by decide) (by decide +kernel) (by decide +kernel)
theorem alive_p4 : RC ⟨#[53, 47, 50]⟩ 4 ⟨#[50]⟩ 0 := rC_of (by decide) (by decide) (by decide +kernel) (by decide +kernel)
theorem alive_m4 : RC ⟨#[45, 53, 47, 50]⟩ 4 ⟨#[45, 51]⟩ 0 := rC_of (by decide) (by decide) (by decide +kernel) (by decide +kernel)
set_option maxRecDepth 100000 in
set_option maxHeartbeats 2000000 in
theorem ralive_any (w : World) (hv : HasV w) (hA : Away w) : Calls Tryd.prog 12 #[] w fun e w' => e = .returned (.bool true) ∧ Below w.heap.size w w' := by
  have HV := Lib.hid hv
  have HA := Lib.hid hA
  clear hv hA
  have H1 := Lib.hid alive_add
  have H2 := Lib.hid alive_div
  unfold QC at *
  go_enter Tryd.func12, Tryd.ntmps12
  go_wp2_with fail
  refine (H1.out _ HV.out).mono ?_
  rintro e w1 ⟨rfl, hb1⟩
  go_wp2_with fail
  refine (H2.out _ (HV.out.below hb1)).mono ?_
  rintro e w2 ⟨rfl, hb2⟩
  have c2 := hb1.trans (hb2.mono hb1.size)
  clear hb1 hb2
  go_wp2_with fail
  have hb0 : Below w.heap.size w (w2.alloc (.cells #[.string ⟨#[50]⟩, .string ⟨#[51]⟩, .string ⟨#[51]⟩, .string ⟨#[50]⟩, .string ⟨#[50]⟩, .string ⟨#[45, 50]⟩, .string ⟨#[45, 51]⟩, .string ⟨#[45, 51]⟩, .string ⟨#[45, 50]⟩, .string ⟨#[45, 51]⟩] 65)) := c2.alloc c2.size _
  have hcl : ∀ i : Nat, (w2.alloc (.cells #[.string ⟨#[50]⟩, .string ⟨#[51]⟩, .string ⟨#[51]⟩, .string ⟨#[50]⟩, .string ⟨#[50]⟩, .string ⟨#[45, 50]⟩, .string ⟨#[45, 51]⟩, .string ⟨#[45, 51]⟩, .string ⟨#[45, 50]⟩, .string ⟨#[45, 51]⟩] 65)).cell? ⟨w2.heap.size, i, none⟩ = (#[.string ⟨#[50]⟩, .string ⟨#[51]⟩, .string ⟨#[51]⟩, .string ⟨#[50]⟩, .string ⟨#[50]⟩, .string ⟨#[45, 50]⟩, .string ⟨#[45, 51]⟩, .string ⟨#[45, 51]⟩, .string ⟨#[45, 50]⟩, .string ⟨#[45, 51]⟩] : Array Value)[i]? := fun i => cell_of_row _ w2.heap.size i _ 65 (0, 0) (heap_alloc_new w2 _)
  have hsz : w2.heap.size < (w2.alloc (.cells #[.string ⟨#[50]⟩, .string ⟨#[51]⟩, .string ⟨#[51]⟩, .string ⟨#[50]⟩, .string ⟨#[50]⟩, .string ⟨#[45, 50]⟩, .string ⟨#[45, 51]⟩, .string ⟨#[45, 51]⟩, .string ⟨#[45, 50]⟩, .string ⟨#[45, 51]⟩] 65)).heap.size := by simp
  generalize w2.alloc (.cells #[.string ⟨#[50]⟩, .string ⟨#[51]⟩, .string ⟨#[51]⟩, .string ⟨#[50]⟩, .string ⟨#[50]⟩, .string ⟨#[45, 50]⟩, .string ⟨#[45, 51]⟩, .string ⟨#[45, 51]⟩, .string ⟨#[45, 50]⟩, .string ⟨#[45, 51]⟩] 65) = w0 at *
  generalize w2.heap.size = B at *
  clear c2 H1 H2
  have HCL := Lib.hid hcl
  clear hcl
  have HP0 := Lib.hid alive_p0
  have HM0 := Lib.hid alive_m0
  have HP1 := Lib.hid alive_p1
  have HM1 := Lib.hid alive_m1
  have HP2 := Lib.hid alive_p2
  have HM2 := Lib.hid alive_m2
  have HP3 := Lib.hid alive_p3
  have HM3 := Lib.hid alive_m3
  have HP4 := Lib.hid alive_p4
  have HM4 := Lib.hid alive_m4
  unfold RC at *
  go_loopw [6] (fun iv wr => ∃ j : Nat, j ≤ 5 ∧ iv = .int .i64 j ∧ Below w0.heap.size w0 wr) (fun iv _ => 5 - (intOf iv).toNat)
  case atStart => exact ⟨0, by omega, rfl, Below.refl _ _⟩
  case round =>
    obtain ⟨j, hj, rfl, hbr⟩ := hrel
    by_cases hlt : j < 5
    · have hj5 : j = 0 ∨ j = 1 ∨ j = 2 ∨ j = 3 ∨ j = 4 := by omega
      clear hj hlt
      have c2 := hb0.trans (hbr.mono hb0.size)
      rcases hj5 with rfl | rfl | rfl | rfl | rfl
      · go_wp2_with fail
        refine (HP0.out _ (HV.out.below c2) (HA.out.below c2)).mono ?_
        rintro e w3 ⟨rfl, hb3⟩
        have c3 := c2.trans (hb3.mono c2.size)
        have d3 := hbr.trans (hb3.mono hbr.size)
        clear c2 hbr hb3
        go_wp2_with fail
        refine (HM0.out _ (HV.out.below c3) (HA.out.below c3)).mono ?_
        rintro e w4 ⟨rfl, hb4⟩
        have d4 := d3.trans (hb4.mono d3.size)
        clear c3 d3 hb4
        have q0 : w4.cell? ⟨B, 0, none⟩ = some (.string ⟨#[50]⟩) := (d4.cell (p := ⟨B, 0, none⟩) hsz).trans (HCL.out 0)
        have q1 : w4.cell? ⟨B, 5, none⟩ = some (.string ⟨#[45, 50]⟩) := (d4.cell (p := ⟨B, 5, none⟩) hsz).trans (HCL.out 5)
        go_wp2_with fail
        go_roundw
        case rel => exact ⟨1, by omega, by go_num, d4⟩
        case measure => simp [intOf]
      · go_wp2_with fail
        refine (HP1.out _ (HV.out.below c2) (HA.out.below c2)).mono ?_
        rintro e w3 ⟨rfl, hb3⟩
        have c3 := c2.trans (hb3.mono c2.size)
        have d3 := hbr.trans (hb3.mono hbr.size)
        clear c2 hbr hb3
        go_wp2_with fail
        refine (HM1.out _ (HV.out.below c3) (HA.out.below c3)).mono ?_
        rintro e w4 ⟨rfl, hb4⟩
        have d4 := d3.trans (hb4.mono d3.size)
        clear c3 d3 hb4
        have q0 : w4.cell? ⟨B, 1, none⟩ = some (.string ⟨#[51]⟩) := (d4.cell (p := ⟨B, 1, none⟩) hsz).trans (HCL.out 1)
        have q1 : w4.cell? ⟨B, 6, none⟩ = some (.string ⟨#[45, 51]⟩) := (d4.cell (p := ⟨B, 6, none⟩) hsz).trans (HCL.out 6)
        go_wp2_with fail
        go_roundw
        case rel => exact ⟨2, by omega, by go_num, d4⟩
        case measure => simp [intOf]
      · go_wp2_with fail
        refine (HP2.out _ (HV.out.below c2) (HA.out.below c2)).mono ?_
        rintro e w3 ⟨rfl, hb3⟩
        have c3 := c2.trans (hb3.mono c2.size)
        have d3 := hbr.trans (hb3.mono hbr.size)
        clear c2 hbr hb3
        go_wp2_with fail
        refine (HM2.out _ (HV.out.below c3) (HA.out.below c3)).mono ?_
        rintro e w4 ⟨rfl, hb4⟩
        have d4 := d3.trans (hb4.mono d3.size)
        clear c3 d3 hb4
        have q0 : w4.cell? ⟨B, 2, none⟩ = some (.string ⟨#[51]⟩) := (d4.cell (p := ⟨B, 2, none⟩) hsz).trans (HCL.out 2)
        have q1 : w4.cell? ⟨B, 7, none⟩ = some (.string ⟨#[45, 51]⟩) := (d4.cell (p := ⟨B, 7, none⟩) hsz).trans (HCL.out 7)
        go_wp2_with fail
        go_roundw
        case rel => exact ⟨3, by omega, by go_num, d4⟩
        case measure => simp [intOf]
      · go_wp2_with fail
        refine (HP3.out _ (HV.out.below c2) (HA.out.below c2)).mono ?_
        rintro e w3 ⟨rfl, hb3⟩
        have c3 := c2.trans (hb3.mono c2.size)
        have d3 := hbr.trans (hb3.mono hbr.size)
        clear c2 hbr hb3
        go_wp2_with fail
        refine (HM3.out _ (HV.out.below c3) (HA.out.below c3)).mono ?_
        rintro e w4 ⟨rfl, hb4⟩
        have d4 := d3.trans (hb4.mono d3.size)
        clear c3 d3 hb4
        have q0 : w4.cell? ⟨B, 3, none⟩ = some (.string ⟨#[50]⟩) := (d4.cell (p := ⟨B, 3, none⟩) hsz).trans (HCL.out 3)
        have q1 : w4.cell? ⟨B, 8, none⟩ = some (.string ⟨#[45, 50]⟩) := (d4.cell (p := ⟨B, 8, none⟩) hsz).trans (HCL.out 8)
        go_wp2_with fail
        go_roundw
        case rel => exact ⟨4, by omega, by go_num, d4⟩
        case measure => simp [intOf]
      · go_wp2_with fail
        refine (HP4.out _ (HV.out.below c2) (HA.out.below c2)).mono ?_
        rintro e w3 ⟨rfl, hb3⟩
        have c3 := c2.trans (hb3.mono c2.size)
        have d3 := hbr.trans (hb3.mono hbr.size)
        clear c2 hbr hb3
        go_wp2_with fail
        refine (HM4.out _ (HV.out.below c3) (HA.out.below c3)).mono ?_
        rintro e w4 ⟨rfl, hb4⟩
        have d4 := d3.trans (hb4.mono d3.size)
        clear c3 d3 hb4
        have q0 : w4.cell? ⟨B, 4, none⟩ = some (.string ⟨#[50]⟩) := (d4.cell (p := ⟨B, 4, none⟩) hsz).trans (HCL.out 4)
        have q1 : w4.cell? ⟨B, 9, none⟩ = some (.string ⟨#[45, 51]⟩) := (d4.cell (p := ⟨B, 9, none⟩) hsz).trans (HCL.out 9)
        go_wp2_with fail
        go_roundw
        case rel => exact ⟨5, by omega, by go_num, d4⟩
        case measure => simp [intOf]
    · obtain rfl : j = 5 := by omega
      go_wp2_with fail
      go_ret
      exact ⟨rfl, hb0.trans (hbr.mono hb0.size)⟩
end Go.Proofs.YthafdckomhdlbaaDoor
