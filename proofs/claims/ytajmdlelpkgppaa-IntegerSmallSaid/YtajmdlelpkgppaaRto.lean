/- Walks: the reference: To. -/
import Derived.Test.YtajmdlelpkgppaaIto
namespace Go.Proofs.Ytajmdlelpkgppaa
open Go.RowKit

def top63 : ByteArray := ⟨#[57, 50, 50, 51, 51, 55, 50, 48, 51, 54, 56, 53, 52, 55, 55, 53, 56, 48, 55]⟩
def low63 : ByteArray := ⟨#[57, 50, 50, 51, 51, 55, 50, 48, 51, 54, 56, 53, 52, 55, 55, 53, 56, 48, 56]⟩
theorem top_canon : Z.canon top63.data.toList = true := by decide +kernel
theorem low_canon : Z.canon low63.data.toList = true := by decide +kernel
theorem top_val : Z.ofDg 10 (Z.rdg (Z.mags top63.data.toList)) = 9223372036854775807 := by decide +kernel
theorem low_val : Z.ofDg 10 (Z.rdg (Z.mags low63.data.toList)) = 9223372036854775808 := by decide +kernel
theorem top_len : (Z.rdg (Z.mags top63.data.toList)).length = 19 := by decide +kernel
theorem low_len : (Z.rdg (Z.mags low63.data.toList)).length = 19 := by decide +kernel

theorem top_any (w : World) : Calls Try.prog 35 #[.string top63] w fun e w' => ∃ v os, e = .returned v ∧ Ow .i64 3 w' w.heap.size v os ∧ (∀ d ∈ os, d < 10) ∧ (Z.ofDg 10 os : Int) = 9223372036854775807 ∧ os.length = 19 ∧ Below w.heap.size w w' := by
  refine (ds_any top63 w (by decide +kernel)).mono ?_
  rintro e w' ⟨v, rfl, hown, hb⟩
  rw [top_canon] at hown
  simp only [↓reduceIte] at hown
  exact ⟨v, _, rfl, hown, Z.rdg_lt (Z.canon_parts top_canon).all, by rw [top_val]; rfl, top_len, hb⟩
theorem low_any (w : World) : Calls Try.prog 35 #[.string low63] w fun e w' => ∃ v os, e = .returned v ∧ Ow .i64 3 w' w.heap.size v os ∧ (∀ d ∈ os, d < 10) ∧ (Z.ofDg 10 os : Int) = 9223372036854775808 ∧ os.length = 19 ∧ Below w.heap.size w w' := by
  refine (ds_any low63 w (by decide +kernel)).mono ?_
  rintro e w' ⟨v, rfl, hown, hb⟩
  rw [low_canon] at hown
  simp only [↓reduceIte] at hown
  exact ⟨v, _, rfl, hown, Z.rdg_lt (Z.canon_parts low_canon).all, by rw [low_val]; rfl, low_len, hb⟩

set_option maxHeartbeats 800000 in
theorem rto_any (s : ByteArray) (w : World) (hs : s.size ≤ 1000000) :
    Calls Try.prog 13 #[.string s] w (ToRet w s.data.toList) := by
  have C := rcheck_any s w hs
  by_cases hc : Z.chk s.data.toList = 0
  · unfold ChkRet at C
    rw [hc] at C
    have hcan := (Z.chk_zero_iff.1 hc).1
    have hcl := (Z.chk_zero_iff.1 hc).2
    have hall := (Z.canon_parts hcan).all
    have HC := Lib.hid hc
    have HCAN := Lib.hid hcan
    have HCL := Lib.hid hcl
    have HA := Lib.hid (Z.rdg_lt hall)
    have HV := Lib.hid (Z.natOf_rdg (Z.mags s.data.toList))
    have HL := Lib.hid (Z.rdg_length (Z.mags s.data.toList))
    clear hc hcan hcl hall
    go_enter Try.func13, Try.ntmps13
    go_wp2_with fail
    refine C.mono ?_
    rintro e w1 ⟨rfl, hb1⟩
    clear C
    go_wp2_with fail
    refine (digits_any s w1 hs).mono ?_
    rintro e w2 ⟨v2, rfl, hown2, hb2⟩
    rw [HCAN.out] at hown2 ⊢
    simp only [↓reduceIte, Bool.true_and] at hown2 ⊢
    generalize Z.rdg (Z.mags s.data.toList) = ds at *
    generalize hn : Z.isNeg s.data.toList = ng at *
    have HN := Lib.hid hn
    clear hn
    have hbw2 : Below w.heap.size w w2 := hb1.trans (hb2.mono hb1.size)
    have hdl : ds.length ≤ 1000 := by have := HL.out; have := HCL.out; omega
    go_wp2_with fail
    refine (top_any w2).mono ?_
    rintro e w3 ⟨v3, os, rfl, hown3, hos9, hosv, hosl, hb3⟩
    have HO9 := Lib.hid hos9
    have HOV := Lib.hid hosv
    have HOL := Lib.hid hosl
    clear hos9 hosv hosl
    have hbw3 : Below w.heap.size w w3 := hbw2.trans (hb3.mono hbw2.size)
    have hown2' := hown2.below hb3
    cases ng
    · go_wp2_with fail
      refine (greater_any v2 v3 10 (by omega) ds os w3 hown2'.sn hown3.sn HA.out HO9.out (by omega) (by have := HOL.out; omega)).mono ?_
      rintro e w4 ⟨rfl, rfl⟩
      by_cases hbig : Z.ofDg 10 os < Z.ofDg 10 ds
      · rw [Z.cmp_gt hbig]
        go_wp2_with fail
        go_ret2
        refine to_big HC.out ?_ hbw3
        have h1 := HV.out
        have h2 := HOV.out
        unfold Z.fits64
        rw [Z.ival_cases, HN.out]
        simp; omega
      · have hcm : ¬ 0 < Z.cmp (Z.ofDg 10 ds) (Z.ofDg 10 os) := by
          rcases Nat.lt_or_ge (Z.ofDg 10 ds) (Z.ofDg 10 os) with h | h
          · rw [Z.cmp_lt h]; omega
          · rw [Z.cmp_eq (by omega)]; omega
        generalize Z.cmp (Z.ofDg 10 ds) (Z.ofDg 10 os) = cv at *
        have hsm : (Z.ofDg 10 ds : Int) ≤ 9223372036854775807 := by have := HOV.out; omega
        have HSM := Lib.hid hsm
        clear hsm hbig
        obtain ⟨A, c, rfl, hc1, hc2, hcell⟩ := hown2'.sn
        go_wp2_with fail
        go_loop [9, 10] (fun nv iv => ∃ (k : Nat) (N : Int), k ≤ ds.length ∧ iv = .int .i64 ((k : Int) - 1) ∧ nv = .int .i64 N ∧ 0 ≤ N ∧ N ≤ 9223372036854775807 ∧ Hid (N = (Z.ofDg 10 (ds.drop k) : Int))) (fun _ iv => (intOf iv + 1).toNat)
        case atStart => exact ⟨ds.length, 0, by omega, rfl, rfl, by omega, by omega, by rw [List.drop_of_length_le (Nat.le_refl _)]; rfl⟩
        case round =>
          obtain ⟨k, N, hk, rfl, rfl, hN0, hN1, HNN⟩ := hrel
          by_cases hk0 : 0 < k
          · obtain ⟨k, rfl⟩ : ∃ j, k = j + 1 := ⟨k - 1, by omega⟩
            obtain ⟨g, o, rfl, hg, hcl⟩ := hcell (by omega)
            obtain ⟨d, hd⟩ : ∃ d, ds[k]? = some d := ⟨_, List.getElem?_eq_getElem (by omega)⟩
            have hr := hcl _ _ hd
            have hd9 : d < 10 := HA.out d (List.mem_of_getElem? hd)
            have e1 := Z.ofDg_drop 10 ds k
            rw [Z.dAt_some hd] at e1
            have e2 := Z.ofDg_split 10 ds k
            have e3 : 1 * Z.ofDg 10 (ds.drop k) ≤ 10 ^ k * Z.ofDg 10 (ds.drop k) := Nat.mul_le_mul_right _ (Nat.pow_pos (by omega))
            rw [Nat.one_mul] at e3
            have hS := HSM.out
            have hst : (Z.ofDg 10 (ds.drop k) : Int) = 10 * N + (d : Int) := by rw [HNN.out]; omega
            have hbd : 10 * N + (d : Int) ≤ 9223372036854775807 := by rw [← hst]; omega
            have HST := Lib.hid hst
            have hi : ((k + 1 : Nat) : Int) - 1 = (k : Int) := by omega
            have hkl : (k : Int) < (ds.length : Int) := by omega
            rw [hi]
            clear hcl hd e1 e2 e3 hS hst hi hcell
            go_wp2_with fail
            go_round
            case rel => exact ⟨k, 10 * N + (d : Int), by omega, rfl, rfl, by omega, by omega, HST.out.symm⟩
            case measure => simp [intOf]
          · obtain rfl : k = 0 := by omega
            go_wp2_with fail
            go_ret2
            have h0 := HNN.out
            rw [List.drop_zero] at h0
            have h1 := HV.out
            have h2 := HSM.out
            refine to_ok HC.out ?_ ?_ hbw3
            · unfold Z.fits64
              rw [Z.ival_cases, HN.out]
              simp; omega
            · rw [Z.ival_cases, HN.out]
              simp; omega
    · go_wp2_with fail
      refine (low_any w3).mono ?_
      rintro e w5 ⟨v5, os5, rfl, hown5, hos5, hosv5, hosl5, hb5⟩
      have HO5 := Lib.hid hos5
      have HOV5 := Lib.hid hosv5
      have HOL5 := Lib.hid hosl5
      clear hos5 hosv5 hosl5
      have hown6 := hown2'.below hb5
      have hbw6 : Below w.heap.size w w5 := hbw3.trans (hb5.mono hbw3.size)
      go_wp2_with fail
      refine (greater_any v2 v5 10 (by omega) ds os5 w5 hown6.sn hown5.sn HA.out HO5.out (by omega) (by have := HOL5.out; omega)).mono ?_
      rintro e w6 ⟨rfl, rfl⟩
      by_cases hbig : Z.ofDg 10 os5 < Z.ofDg 10 ds
      · rw [Z.cmp_gt hbig]
        go_wp2_with fail
        go_ret2
        refine to_big HC.out (Z.fits_false ?_) hbw6
        have h1 := HV.out
        have h2 := HOV5.out
        omega
      · have hcm : ¬ 0 < Z.cmp (Z.ofDg 10 ds) (Z.ofDg 10 os5) := by
          rcases Nat.lt_or_ge (Z.ofDg 10 ds) (Z.ofDg 10 os5) with h | h
          · rw [Z.cmp_lt h]; omega
          · rw [Z.cmp_eq (by omega)]; omega
        generalize Z.cmp (Z.ofDg 10 ds) (Z.ofDg 10 os5) = cv at *
        have hsm : (Z.ofDg 10 ds : Int) ≤ 9223372036854775808 := by have := HOV5.out; omega
        have HSM := Lib.hid hsm
        clear hsm hbig
        obtain ⟨A, c, rfl, hc1, hc2, hcell⟩ := hown6.sn
        go_wp2_with fail
        go_loop [9, 10] (fun nv iv => ∃ (k : Nat) (N : Int), k ≤ ds.length ∧ iv = .int .i64 ((k : Int) - 1) ∧ nv = .int .i64 N ∧ N ≤ 0 ∧ -9223372036854775808 ≤ N ∧ Hid (N = -(Z.ofDg 10 (ds.drop k) : Int))) (fun _ iv => (intOf iv + 1).toNat)
        case atStart => exact ⟨ds.length, 0, by omega, rfl, rfl, by omega, by omega, by rw [List.drop_of_length_le (Nat.le_refl _)]; rfl⟩
        case round =>
          obtain ⟨k, N, hk, rfl, rfl, hN0, hN1, HNN⟩ := hrel
          by_cases hk0 : 0 < k
          · obtain ⟨k, rfl⟩ : ∃ j, k = j + 1 := ⟨k - 1, by omega⟩
            obtain ⟨g, o, rfl, hg, hcl⟩ := hcell (by omega)
            obtain ⟨d, hd⟩ : ∃ d, ds[k]? = some d := ⟨_, List.getElem?_eq_getElem (by omega)⟩
            have hr := hcl _ _ hd
            have hd9 : d < 10 := HA.out d (List.mem_of_getElem? hd)
            have e1 := Z.ofDg_drop 10 ds k
            rw [Z.dAt_some hd] at e1
            have e2 := Z.ofDg_split 10 ds k
            have e3 : 1 * Z.ofDg 10 (ds.drop k) ≤ 10 ^ k * Z.ofDg 10 (ds.drop k) := Nat.mul_le_mul_right _ (Nat.pow_pos (by omega))
            rw [Nat.one_mul] at e3
            have hS := HSM.out
            have hst : -(Z.ofDg 10 (ds.drop k) : Int) = 10 * N - (d : Int) := by rw [HNN.out]; omega
            have hbd : -9223372036854775808 ≤ 10 * N - (d : Int) := by rw [← hst]; omega
            have HST := Lib.hid hst
            have hi : ((k + 1 : Nat) : Int) - 1 = (k : Int) := by omega
            have hkl : (k : Int) < (ds.length : Int) := by omega
            rw [hi]
            clear hcl hd e1 e2 e3 hS hst hi hcell
            go_wp2_with fail
            go_round
            case rel => exact ⟨k, 10 * N - (d : Int), by omega, rfl, rfl, by omega, by omega, HST.out.symm⟩
            case measure => simp [intOf]
          · obtain rfl : k = 0 := by omega
            go_wp2_with fail
            go_ret2
            have h0 := HNN.out
            rw [List.drop_zero] at h0
            have h1 := HV.out
            have h2 := HSM.out
            refine to_ok HC.out ?_ ?_ hbw6
            · unfold Z.fits64
              rw [Z.ival_cases, HN.out]
              simp; omega
            · rw [Z.ival_cases, HN.out]
              simp; omega
  · have hb : (Z.chk s.data.toList != 0) = true := by simp [hc]
    have HC := Lib.hid hc
    clear hc
    go_enter Try.func13, Try.ntmps13
    go_wp2_with fail
    refine C.mono ?_
    rintro e w1 ⟨rfl, hb1⟩
    clear C
    go_wp2_with fail
    go_ret2
    exact to_bad HC.out hb1
end Go.Proofs.Ytajmdlelpkgppaa
