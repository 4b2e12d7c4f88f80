/- Walks: the reference's Day and Days. -/
import Derived.Test.YtifafmomkpkgdaaGreatDoorOna
import Derived.Test.YtifafmomkpkgdaaGreatDoorAbv
namespace Go.Proofs.YtifafmomkpkgdaaGreatDoor
open Go.RowKit
theorem rday_any (d : Int) (w : World) : Calls Tryz.prog 48 #[.int .i64 d] w fun e w' => e = .returned (.bool (Z.dayC d)) ∧ w = w' := by
  go_enter Tryz.func48, Tryz.ntmps48
  go_wp2_with fail
  all_goals (go_ret; refine ⟨ret_bool ?_, rfl⟩; rw [Bool.eq_iff_iff]; simp [Z.dayC]; try omega)
set_option maxRecDepth 100000 in
set_option maxHeartbeats 2000000 in
theorem rdays_any (v : Value) (l : List Int) (w : World) (h : SD w v l) : Calls Tryz.prog 45 #[v] w fun e w' => e = .returned (.bool (Z.daysB l)) ∧ Below w.heap.size w w' := by
  obtain ⟨A, cp, rfl, hlc, hcm⟩ := h.shape
  unfold maxLen at hcm
  have hR : Z.daysB l = (decide (1 ≤ l.length) && (decide (l.length ≤ 100) && (l.all Z.dayC && Z.ascO l))) := rfl
  have HS := Lib.hid h
  have HR := Lib.hid hR
  clear h hR
  generalize Z.daysB l = R at *
  go_enter Tryz.func45, Tryz.ntmps45
  go_wp2_with fail
  go_loopw [3] (fun iv wr => ∃ (k : Nat), k ≤ l.length ∧ iv = .int .i64 k ∧ Hid (∀ j, j < k → Z.dayK l j = true) ∧ Below w.heap.size w wr) (fun iv _ => l.length - (intOf iv).toNat)
  case atStart => exact ⟨0, by omega, rfl, Lib.hid (fun j h => absurd h (Nat.not_lt_zero j)), Below.refl _ _⟩
  case round =>
    obtain ⟨k, hk, rfl, HI, hbr⟩ := hrel
    by_cases hlt : k < l.length
    · have hz : l[k]? = some l[k] := List.getElem?_eq_getElem hlt
      obtain ⟨b, o, rfl, hbl, q0⟩ := SL.cell1 (SL.below HS.out hbr) hz rfl
      have hi0 : (0 : Int) ≤ (k : Int) := by omega
      have hi1 : (k : Int) < (l.length : Int) := by omega
      have y0 : ∀ q : Ab wr, q.1.cell? ⟨b, o + k, none⟩ = some (.int .i64 l[k]) := fun q => q.cell q0 hbl
      have HW := Lib.hid (fun (d : Int) (q : Ab wr) => rday_any d q.1)
      cases k with
      | zero =>
        rw [Nat.add_zero] at y0
        have HK : Hid (Z.dayK l 0 = (Z.dayC l[0] && true)) := Lib.hid (by unfold Z.dayK; rw [hz])
        clear hz q0
        generalize l[0] = d at *
        cases hd : Z.dayC d
        · rw [hd, Bool.false_and] at HK
          have hb := Z.days_bad HK.out
          go_upto_region 4 with fail
          refine wp_region_above (by kernel_rfl) (by kernel_rfl) ?_
          repeat (go_big_quiet_step (first | (go_at_call 48; with_reducible exact Ab.same (HW.out _ _))))
          refine wpQuiet_nil ?_
          rintro _ ⟨q', rfl⟩
          go_wp2_with fail
          go_ret
          exact ⟨ret_bool (by rw [HR.out, hb, Bool.and_false, Bool.and_false]), hbr.trans (q'.2.mono hbr.size)⟩
        · rw [hd, Bool.and_true] at HK
          have HI2 : Hid (∀ j, j < 0 + 1 → Z.dayK l j = true) := Lib.hid (fun j hj => by
            have hj0 : j = 0 := by omega
            subst hj0
            exact HK.out)
          clear HI
          go_upto_region 4 with fail
          refine wp_region_above (by kernel_rfl) (by kernel_rfl) ?_
          repeat (go_big_quiet_step (first | (go_at_call 48; with_reducible exact Ab.same (HW.out _ _))))
          refine wpQuiet_nil ?_
          rintro _ ⟨q', rfl⟩
          have hbn := hbr.trans (q'.2.mono hbr.size)
          clear y0
          go_wp2_with fail
          go_roundw
          case rel => exact ⟨0 + 1, by omega, by go_num, HI2, hbn⟩
          case measure => simp [intOf]; omega
      | succ k =>
        have hy : l[k]? = some l[k] := List.getElem?_eq_getElem (by omega : k < l.length)
        have HK : Hid (Z.dayK l (k + 1) = (Z.dayC l[k + 1] && decide (l[k] < l[k + 1]))) := Lib.hid (by unfold Z.dayK; rw [hz]; simp only [hy])
        obtain ⟨b', o', he, _, q1⟩ := SL.cell1 (SL.below HS.out hbr) hy rfl
        obtain ⟨rfl, rfl⟩ : b = b' ∧ o = o' := by simpa using he
        have y1 : ∀ q : Ab wr, q.1.cell? ⟨b, o + k, none⟩ = some (.int .i64 l[k]) := fun q => q.cell q1 hbl
        have hi2 : (0 : Int) ≤ (k : Int) := by omega
        have hi3 : (k : Int) < (l.length : Int) := by omega
        have hi4 : (k : Int) + 1 > 0 := by omega
        have hi4' : decide ((k : Int) + 1 > 0) = true := decide_eq_true hi4
        have hi6 : decide ((0 : Int) < (k : Int) + 1) = true := decide_eq_true (by omega)
        have hi5 : ((k : Int) + 1) - 1 = k := by omega
        clear hz hy he q0 q1
        generalize l[k + 1] = d at *
        generalize l[k] = c at *
        cases hd : Z.dayC d
        · rw [hd, Bool.false_and] at HK
          have hb := Z.days_bad HK.out
          go_upto_region 4 with fail
          refine wp_region_above (by kernel_rfl) (by kernel_rfl) ?_
          repeat (go_big_quiet_step (first | (go_at_call 48; with_reducible exact Ab.same (HW.out _ _))))
          refine wpQuiet_nil ?_
          rintro _ ⟨q', rfl⟩
          go_wp2_with fail
          go_ret
          exact ⟨ret_bool (by rw [HR.out, hb, Bool.and_false, Bool.and_false]), hbr.trans (q'.2.mono hbr.size)⟩
        · rw [hd, Bool.true_and] at HK
          by_cases hcd : c < d
          · have hcd' : ¬ d ≤ c := by omega
            rw [decide_eq_true hcd] at HK
            have HI2 : Hid (∀ j, j < (k + 1) + 1 → Z.dayK l j = true) := Lib.hid (fun j hj => by
              rcases Nat.lt_or_eq_of_le (Nat.lt_succ_iff.1 hj) with hj | rfl
              · exact HI.out j hj
              · exact HK.out)
            clear HI hcd
            go_upto_region 4 with fail
            refine wp_region_above (by kernel_rfl) (by kernel_rfl) ?_
            repeat (go_big_quiet_step (first | (go_at_call 48; with_reducible exact Ab.same (HW.out _ _))))
            refine wpQuiet_nil ?_
            rintro _ ⟨q', rfl⟩
            have hbn := hbr.trans (q'.2.mono hbr.size)
            clear y0 y1
            go_wp2_with fail
            go_roundw
            case rel => exact ⟨(k + 1) + 1, by omega, by go_num, HI2, hbn⟩
            case measure => simp [intOf]; omega
          · have hcd' : d ≤ c := by omega
            rw [decide_eq_false hcd] at HK
            have hb := Z.days_bad HK.out
            clear hcd
            go_upto_region 4 with fail
            refine wp_region_above (by kernel_rfl) (by kernel_rfl) ?_
            repeat (go_big_quiet_step (first | (go_at_call 48; with_reducible exact Ab.same (HW.out _ _))))
            refine wpQuiet_nil ?_
            rintro _ ⟨q', rfl⟩
            go_wp2_with fail
            go_ret
            exact ⟨ret_bool (by rw [HR.out, hb, Bool.and_false, Bool.and_false]), hbr.trans (q'.2.mono hbr.size)⟩
    · obtain rfl : k = l.length := by omega
      have hb := Z.days_ok HI.out
      by_cases h1 : 1 ≤ l.length
      · have g1 : (l.length : Int) ≥ 1 := by omega
        have HR2 : Hid (R = decide ((l.length : Int) ≤ 100)) := Lib.hid (by
          rw [HR.out, hb, decide_eq_true h1, Bool.true_and, Bool.and_true, Bool.eq_iff_iff, decide_eq_true_iff, decide_eq_true_iff]
          omega)
        clear h1
        go_wp2_with fail
        go_ret
        exact ⟨ret_bool HR2.out.symm, hbr⟩
      · have g1 : ¬ (l.length : Int) ≥ 1 := by omega
        have HR2 : Hid (R = false) := Lib.hid (by rw [HR.out, decide_eq_false h1, Bool.false_and])
        clear h1
        go_wp2_with fail
        go_ret
        exact ⟨ret_bool HR2.out.symm, hbr⟩
end Go.Proofs.YtifafmomkpkgdaaGreatDoor
