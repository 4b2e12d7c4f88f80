/- Walks: the calendar laws' example and alive. -/
import Derived.Test.YtmbbpimihnojeaaCroll
import Derived.Test.YtmbbpimihnojeaaDtext
namespace Go.Proofs.Ytmbbpimihnojeaa
open Go.RowKit

theorem example_any (w : World) :
    Calls Try.prog 27 #[] w fun e w' => ∃ v, e = .returned (.agg #[.int .u8 96, v]) ∧ SI w' v [46413] ∧ Below w.heap.size w w' := by
  go_enter Try.func27, Try.ntmps27
  go_wp2_with fail
  refine bodyPost_ret (v := .agg #[.int .u8 96, .slice (some ⟨w.heap.size + 1, 0, none⟩) 1 1]) (by simp [results, Try.results27, go_sem]) rfl ⟨_, rfl, ?_, ((Below.refl _ w).alloc (Nat.le_refl _) _).alloc (by simp) _⟩
  refine ⟨_, 1, rfl, Nat.le_refl _, by decide, fun _ => ⟨_, 0, rfl, by simp, fun i d hd => ?_⟩⟩
  match i, hd with
  | 0, hd =>
    injection hd with hd
    subst hd
    simp [go_sem]
  | i + 1, hd => simp at hd

namespace Z
def exP : Int → Bool := opn 96 [46413]
theorem ex_ok : calB 96 [46413] = true := by decide
theorem ex_next : nth exP 46416 1 1 = (46417, 0) := nth_at (k := 1) (by decide +kernel) (by decide +kernel) (by decide) (by decide +kernel)
theorem ex_prev : nth exP 46416 (-1) 1 = (46414, 0) := nth_at (k := 2) (by decide +kernel) (by decide +kernel) (by decide) (by decide +kernel)
theorem ex_add : nth exP 46413 1 1 = (46414, 0) := nth_at (k := 1) (by decide +kernel) (by decide +kernel) (by decide) (by decide +kernel)
theorem ex_count : F exP 46418 - F exP 46411 = 4 := by
  have := pre_up (P := exP) 46411 (by decide) 7
  have h2 : ((pre exP 46411 1 7).length : Int) = 4 := by decide +kernel
  have e : (46411 : Int) + ((7 : Nat) : Int) = 46418 := by decide
  rw [e] at this
  omega
theorem ex_d1 : Dt 46416 2027 1 31 := ⟨by decide, by decide, by decide, by decide, by decide, by decide, by decide⟩
theorem ex_d2 : Dt 46417 2027 2 1 := ⟨by decide, by decide, by decide, by decide, by decide, by decide, by decide⟩
theorem ex_d3 : Dt 46413 2027 1 28 := ⟨by decide, by decide, by decide, by decide, by decide, by decide, by decide⟩
theorem ex_roll1 : roll 96 [46413] 46416 1 = (46417, 0) := by rw [roll_ok ex_ok (by decide) (by decide), rollS_1]; exact ex_next
theorem ex_roll2 : roll 96 [46413] 46416 2 = (46414, 0) := by rw [roll_ok ex_ok (by decide) (by decide), rollS_2]; exact ex_prev
theorem ex_roll3 : roll 96 [46413] 46416 3 = (46414, 0) := by
  rw [roll_ok ex_ok (by decide) (by decide), rollS_3b (P := opn 96 [46413]) ex_next (by rw [sameM_mk ex_d2 ex_d1]; decide)]
  exact ex_prev
theorem ex_add1 : add 96 [46413] 46412 1 = (46414, 0) := by
  rw [add_ok ex_ok (by decide) (by decide) (by decide)]
  unfold addS
  rw [if_pos (by decide), show (46412 : Int) + 1 = 46413 by decide]
  exact ex_add
theorem ex_count1 : count 96 [46413] 46411 46418 = (4, 0) := by
  unfold count
  rw [if_neg (by rw [ex_ok]; decide), if_neg (by decide)]
  rw [show F (opn 96 [46413]) 46418 - F (opn 96 [46413]) 46411 = 4 from ex_count]
theorem ex_text : dtext 2027 1 28 = ⟨#[50, 48, 50, 55, 45, 48, 49, 45, 50, 56]⟩ := by decide +kernel
end Z
theorem Z.Dt.same {day y m d p q r : Int} (h : Z.Dt day y m d) (k : Z.Dt day p q r) : y = p ∧ m = q ∧ d = r := by
  have := h.pts.symm.trans k.pts
  simpa using this
set_option maxRecDepth 100000 in
set_option maxHeartbeats 1000000 in
theorem alive_any (w : World) :
    Calls Try.prog 18 #[] w fun e w' => e = .returned (.bool true) ∧ Below w.heap.size w w' := by
  go_enter Try.func18, Try.ntmps18
  go_wp2_with fail
  refine (example_any _).mono ?_
  rintro e w1 ⟨v, rfl, hSI, hb1⟩
  obtain ⟨A, c, hv, hcl, hcm, hcell⟩ := hSI
  have hv : v = .slice A 1 c := hv
  subst hv
  have hSI : SI w1 (.slice A 1 c) [46413] := ⟨A, c, rfl, hcl, hcm, hcell⟩
  clear hcell hcl hcm
  have bC := Blk.new w1 24 #[.int .u8 96, .slice A 1 c]
  have hbA := hb1.alloc hb1.size (.cells #[.int .u8 96, .slice A 1 c] 24)
  have hSI := hSI.alloc (.cells #[.int .u8 96, .slice A 1 c] 24)
  have h1 : ∀ (r : Int) (x : Int × Int) (W : World), 0 ≤ r → Z.roll 96 [46413] 46416 r = x → Below _ (w1.alloc (.cells #[.int .u8 96, .slice A 1 c] 24)) W → _ := fun r x W hr hx hS => hx ▸ croll_any 96 (.slice A 1 c) [46413] 46416 r W (hSI.below hS) (by omega) hr
  have H1 := Lib.hid h1
  clear h1
  have H2 := Lib.hid (fun (W : World) (hS : Below _ (w1.alloc (.cells #[.int .u8 96, .slice A 1 c] 24)) W) => Z.ex_add1 ▸ cadd_any 96 (.slice A 1 c) [46413] 46412 1 W (hSI.below hS) (by omega))
  have H3 := Lib.hid (fun (W : World) (hS : Below _ (w1.alloc (.cells #[.int .u8 96, .slice A 1 c] 24)) W) => ccount_any 96 (.slice A 1 c) [46413] 46411 46418 W (hSI.below hS) (by omega))
  unfold CountRet at H3
  rw [Z.ex_count1] at H3
  go_wp2_with fail
  generalize (w1.alloc (.cells #[.int .u8 96, .slice A 1 c] 24)) = W0 at *
  refine (H1.out 1 _ _ (by omega) Z.ex_roll1 (Below.refl _ _)).mono ?_
  rintro e w2 ⟨rfl, hb2⟩
  have bC2 := bC.below hb2
  have c0 := bC2.cell 0
  have c1 := bC2.cell 1
  go_wp2_with fail
  refine (H1.out 3 _ _ (by omega) Z.ex_roll3 hb2).mono ?_
  rintro e w3 ⟨rfl, hb⟩
  have hb3 := hb2.trans (hb.mono hb2.size)
  clear hb c0 c1 bC2
  have bC2 := bC.below hb3
  have c0 := bC2.cell 0
  have c1 := bC2.cell 1
  go_wp2_with fail
  refine (H1.out 2 _ _ (by omega) Z.ex_roll2 hb3).mono ?_
  rintro e w4 ⟨rfl, hb⟩
  have hb4 := hb3.trans (hb.mono hb3.size)
  clear hb c0 c1 bC2
  have bC2 := bC.below hb4
  have c0 := bC2.cell 0
  have c1 := bC2.cell 1
  go_wp2_with fail
  refine (H2.out _ hb4).mono ?_
  rintro e w5 ⟨rfl, hb⟩
  have hb5 := hb4.trans (hb.mono hb4.size)
  clear hb c0 c1 bC2
  have bC2 := bC.below hb5
  have c0 := bC2.cell 0
  have c1 := bC2.cell 1
  go_wp2_with fail
  refine (H3.out _ hb5).mono ?_
  rintro e w6 ⟨rfl, hb⟩
  have hb6 := hb5.trans (hb.mono hb5.size)
  clear hb c0 c1 bC2
  go_wp2_with fail
  refine (text_date 46413 _ (by omega) (by omega)).mono ?_
  rintro e w7 ⟨y, m, d, hD, rfl, hb⟩
  have hb7 := hb6.trans (hb.mono hb6.size)
  clear hb
  obtain ⟨rfl, rfl, rfl⟩ := hD.same Z.ex_d3
  rw [Z.ex_text]
  clear hD
  go_wp2_with fail
  go_ret
  exact ⟨rfl, hbA.trans (hb7.mono hbA.size)⟩
end Go.Proofs.Ytmbbpimihnojeaa
