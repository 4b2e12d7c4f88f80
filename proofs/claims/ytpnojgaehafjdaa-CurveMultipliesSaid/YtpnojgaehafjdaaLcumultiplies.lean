/-
  Factors between days multiply, and the factor on a day is that between the base day and this day.
-/
import Derived.Test.YtpnojgaehafjdaaRows
import Derived.Test.YtpnojgaehafjdaaCva
import Derived.Test.YtpnojgaehafjdaaCvfr
import Derived.HandedShaped
import Derived.ProofKit
import Derived.OpenShut
import Derived.ShutString
namespace Go.Proofs.Ytpnojgaehafjdaa.lawMultiplies
open Go.ChangeShapes Go.WideShapes Go.ChangeAt Go.RowKit
open Go.ChangeMaps (open_string shut_string)

theorem own : ownKnob Try.prog.godebug = none := by kernel_rfl

set_option maxRecDepth 100000 in
set_option maxHeartbeats 16000000 in
theorem walk (u : Value) (c : Z.Cu) (x y z : Int) (w : World) (hS : SP w u c.pts) (_e0 : -9223372036854775808 ≤ x) (_e1 : x ≤ 9223372036854775807) (_e2 : -9223372036854775808 ≤ y) (_e3 : y ≤ 9223372036854775807) (_e4 : -9223372036854775808 ≤ z) (_e5 : z ≤ 9223372036854775807) (hV : HasV w) :
    Calls Try.prog 6 #[.agg #[.int .i64 c.base, u], .int .i64 x, .int .i64 y, .int .i64 z] w fun e w' => e = .returned (.bool true) ∧ Below w.heap.size w w' := by
  have h0 := (Below.refl _ w).alloc (Nat.le_refl w.heap.size) (.cells #[.int .i64 c.base, u] 27)
  have BC0 := Blk.new w 27 #[.int .i64 c.base, u]
  have c0 := BC0.cell 0
  have c1 := BC0.cell 1
  have HS := Lib.hid hS
  have HV := Lib.hid hV
  clear hS hV
  go_enter Try.func6, Try.ntmps6
  go_wp2_with fail
  generalize (w.alloc (.cells #[.int .i64 c.base, u] 27)) = W0 at *
  refine (cualive_any W0 (HV.out.below h0)).mono ?_
  rintro e W1 ⟨rfl, hb⟩
  have h1 := h0.trans (hb.mono h0.size)
  have BC1 := BC0.below hb
  clear hb c0 c1 BC0
  have c0 := BC1.cell 0
  have c1 := BC1.cell 1
  go_wp2_with fail
  refine (greatcu_any c u W1 (HS.out.below h1)).mono ?_
  rintro e W2 ⟨rfl, hb⟩
  have h2 := h1.trans (hb.mono h1.size)
  have BC2 := BC1.below hb
  clear hb c0 c1 BC1
  have c0 := BC2.cell 0
  have c1 := BC2.cell 1
  cases hg : Z.greatC c
  case true =>
    go_wp2_with fail
    go_ret
    exact ⟨rfl, h2⟩
  obtain ⟨hgl, hgs⟩ := greatc_csm hg
  have HCS : Hid (CSm c) := Lib.hid (fun p hp => by have := hgs p hp; omega)
  clear hg hgl hgs _e0 _e1 _e2 _e3 _e4 _e5
  obtain ⟨pA, hA⟩ : ∃ p, p = Z.betweenR c x y := ⟨_, rfl⟩
  obtain ⟨pB, hB⟩ : ∃ p, p = Z.betweenR c y z := ⟨_, rfl⟩
  obtain ⟨pD, hD⟩ : ∃ p, p = Z.betweenR c x z := ⟨_, rfl⟩
  obtain ⟨pH, hH⟩ : ∃ p, p = Z.betweenR c c.base x := ⟨_, rfl⟩
  obtain ⟨pK, hK⟩ : ∃ p, p = Z.factorR c x := ⟨_, rfl⟩
  have HBB : Hid (pH = pK ∨ (pH.2 ≠ 0 ∧ pK.2 ≠ 0)) := Lib.hid (by rw [hH, hK]; exact Z.between_base c x)
  have HMM : Hid (pA.2 = 0 → pB.2 = 0 → pD.2 = 0 → ((Z.mulP pA.1 pB.1).2 = 14 ∨ Z.mulP pA.1 pB.1 = (pD.1, 0)) ∧ pA.1.size ≤ 2100 ∧ pB.1.size ≤ 2100) := Lib.hid (fun a b d => by
    have ha : Z.betweenR c x y = (pA.1, 0) := by rw [← hA]; exact Prod.ext rfl a
    have hb : Z.betweenR c y z = (pB.1, 0) := by rw [← hB]; exact Prod.ext rfl b
    have hd : Z.betweenR c x z = (pD.1, 0) := by rw [← hD]; exact Prod.ext rfl d
    refine ⟨Z.multiplies ha hb hd, ?_, ?_⟩
    · rw [(Z.between_ok ha).2.1]; exact Z.Q_size (Z.between_ok ha).2.2.1
    · rw [(Z.between_ok hb).2.1]; exact Z.Q_size (Z.between_ok hb).2.2.1)
  have CA1 : Hid (∀ W, Below w.heap.size w W → Calls Try.prog 19 #[.agg #[.int .i64 c.base, u], .int .i64 x, .int .i64 y] W (RRet pA W)) := Lib.hid fun W h => by rw [hA]; exact between_any c u x y W (HS.out.below h) (HV.out.below h) HCS.out
  have CB1 : Hid (∀ W, Below w.heap.size w W → Calls Try.prog 19 #[.agg #[.int .i64 c.base, u], .int .i64 y, .int .i64 z] W (RRet pB W)) := Lib.hid fun W h => by rw [hB]; exact between_any c u y z W (HS.out.below h) (HV.out.below h) HCS.out
  have CD1 : Hid (∀ W, Below w.heap.size w W → Calls Try.prog 19 #[.agg #[.int .i64 c.base, u], .int .i64 x, .int .i64 z] W (RRet pD W)) := Lib.hid fun W h => by rw [hD]; exact between_any c u x z W (HS.out.below h) (HV.out.below h) HCS.out
  have CH1 : Hid (∀ W, Below w.heap.size w W → Calls Try.prog 19 #[.agg #[.int .i64 c.base, u], .int .i64 c.base, .int .i64 x] W (RRet pH W)) := Lib.hid fun W h => by rw [hH]; exact between_any c u c.base x W (HS.out.below h) (HV.out.below h) HCS.out
  have CK1 : Hid (∀ W, Below w.heap.size w W → Calls Try.prog 15 #[.agg #[.int .i64 c.base, u], .int .i64 x] W (RRet pK W)) := Lib.hid fun W h => by rw [hK]; exact factorF_any c u x W (HS.out.below h) (HV.out.below h) HCS.out
  clear hA hB hD hH hK
  go_wp2_with fail
  refine (CA1.out W2 h2).mono ?_
  rintro e W3 ⟨rfl, hb⟩
  have h3 := h2.trans (hb.mono h2.size)
  have BC3 := BC2.below hb
  clear hb c0 c1 BC2
  have c0 := BC3.cell 0
  have c1 := BC3.cell 1
  go_wp2_with fail
  refine (CB1.out W3 h3).mono ?_
  rintro e W4 ⟨rfl, hb⟩
  have h4 := h3.trans (hb.mono h3.size)
  have BC4 := BC3.below hb
  clear hb c0 c1 BC3
  have c0 := BC4.cell 0
  have c1 := BC4.cell 1
  go_wp2_with fail
  refine (CD1.out W4 h4).mono ?_
  rintro e W5 ⟨rfl, hb⟩
  have h5 := h4.trans (hb.mono h4.size)
  have BC5 := BC4.below hb
  clear hb c0 c1 BC4
  have c0 := BC5.cell 0
  have c1 := BC5.cell 1
  go_wp2_with fail
  refine (CH1.out W5 h5).mono ?_
  rintro e W6 ⟨rfl, hb⟩
  have h6 := h5.trans (hb.mono h5.size)
  have BC6 := BC5.below hb
  clear hb c0 c1 BC5
  have c0 := BC6.cell 0
  have c1 := BC6.cell 1
  go_wp2_with fail
  refine (CK1.out W6 h6).mono ?_
  rintro e W7 ⟨rfl, hb⟩
  have h7 := h6.trans (hb.mono h6.size)
  have BC7 := BC6.below hb
  clear hb c0 c1 BC6
  have c0 := BC7.cell 0
  have c1 := BC7.cell 1
  rcases HBB.out with rfl | ⟨n1, n2⟩
  · have hss := Z.eqS pH.1 pH.1
    rw [decide_eq_true rfl] at hss
    cases he : (pH.2 == 0)
    · by_cases ha : pA.2 = 0
      case neg =>
        have hab := ne_bne ha
        go_wp2_with fail
        go_ret
        exact ⟨rfl, h7⟩
      by_cases hb : pB.2 = 0
      case neg =>
        have hbb := ne_bne hb
        rw [ha]
        go_wp2_with fail
        go_ret
        exact ⟨rfl, h7⟩
      by_cases hd : pD.2 = 0
      case neg =>
        have hdb := ne_bne hd
        rw [ha, hb]
        go_wp2_with fail
        go_ret
        exact ⟨rfl, h7⟩
      obtain ⟨hm, za, zb⟩ := HMM.out ha hb hd
      have HQ : Hid (Calls Try.prog 20 #[.string pA.1, .string pB.1] W7 (RRet (Z.mulP pA.1 pB.1) W7)) := Lib.hid (qmul_any pA.1 pB.1 W7 (HV.out.below h7) (by omega) (by omega))
      have HM2 := Lib.hid hm
      rw [ha, hb, hd]
      clear hm ha hb hd
      generalize Z.mulP pA.1 pB.1 = pM at *
      go_wp2_with fail
      refine HQ.out.mono ?_
      rintro e W8 ⟨rfl, hb8⟩
      have h8 := h7.trans (hb8.mono h7.size)
      by_cases h14 : pM.2 = 14
      · have h14b : (pM.2 == 14) = true := by rw [beq_iff_eq]; exact h14
        rw [h14]
        clear h14 h14b HM2
        go_wp2_with fail
        go_ret
        exact ⟨rfl, h8⟩
      · have hpm := HM2.out.resolve_left h14
        subst hpm
        clear h14 HM2
        go_wp2_with fail
        refine (is_any _ _ _ _).mono ?_
        rintro e w2 ⟨rfl, rfl⟩
        rw [decide_eq_true (by exact ⟨rfl, rfl⟩)]
        go_wp2_with fail
        go_ret
        exact ⟨rfl, h8⟩

    · by_cases ha : pA.2 = 0
      case neg =>
        have hab := ne_bne ha
        go_wp2_with fail
        go_ret
        exact ⟨rfl, h7⟩
      by_cases hb : pB.2 = 0
      case neg =>
        have hbb := ne_bne hb
        rw [ha]
        go_wp2_with fail
        go_ret
        exact ⟨rfl, h7⟩
      by_cases hd : pD.2 = 0
      case neg =>
        have hdb := ne_bne hd
        rw [ha, hb]
        go_wp2_with fail
        go_ret
        exact ⟨rfl, h7⟩
      obtain ⟨hm, za, zb⟩ := HMM.out ha hb hd
      have HQ : Hid (Calls Try.prog 20 #[.string pA.1, .string pB.1] W7 (RRet (Z.mulP pA.1 pB.1) W7)) := Lib.hid (qmul_any pA.1 pB.1 W7 (HV.out.below h7) (by omega) (by omega))
      have HM2 := Lib.hid hm
      rw [ha, hb, hd]
      clear hm ha hb hd
      generalize Z.mulP pA.1 pB.1 = pM at *
      go_wp2_with fail
      refine HQ.out.mono ?_
      rintro e W8 ⟨rfl, hb8⟩
      have h8 := h7.trans (hb8.mono h7.size)
      by_cases h14 : pM.2 = 14
      · have h14b : (pM.2 == 14) = true := by rw [beq_iff_eq]; exact h14
        rw [h14]
        clear h14 h14b HM2
        go_wp2_with fail
        go_ret
        exact ⟨rfl, h8⟩
      · have hpm := HM2.out.resolve_left h14
        subst hpm
        clear h14 HM2
        go_wp2_with fail
        refine (is_any _ _ _ _).mono ?_
        rintro e w2 ⟨rfl, rfl⟩
        rw [decide_eq_true (by exact ⟨rfl, rfl⟩)]
        go_wp2_with fail
        go_ret
        exact ⟨rfl, h8⟩

  · have m1 := ne_beq0 n1
    have m2 := ne_beq0 n2
    clear n1 n2
    by_cases ha : pA.2 = 0
    case neg =>
      have hab := ne_bne ha
      go_wp2_with fail
      go_ret
      exact ⟨rfl, h7⟩
    by_cases hb : pB.2 = 0
    case neg =>
      have hbb := ne_bne hb
      rw [ha]
      go_wp2_with fail
      go_ret
      exact ⟨rfl, h7⟩
    by_cases hd : pD.2 = 0
    case neg =>
      have hdb := ne_bne hd
      rw [ha, hb]
      go_wp2_with fail
      go_ret
      exact ⟨rfl, h7⟩
    obtain ⟨hm, za, zb⟩ := HMM.out ha hb hd
    have HQ : Hid (Calls Try.prog 20 #[.string pA.1, .string pB.1] W7 (RRet (Z.mulP pA.1 pB.1) W7)) := Lib.hid (qmul_any pA.1 pB.1 W7 (HV.out.below h7) (by omega) (by omega))
    have HM2 := Lib.hid hm
    rw [ha, hb, hd]
    clear hm ha hb hd
    generalize Z.mulP pA.1 pB.1 = pM at *
    go_wp2_with fail
    refine HQ.out.mono ?_
    rintro e W8 ⟨rfl, hb8⟩
    have h8 := h7.trans (hb8.mono h7.size)
    by_cases h14 : pM.2 = 14
    · have h14b : (pM.2 == 14) = true := by rw [beq_iff_eq]; exact h14
      rw [h14]
      clear h14 h14b HM2
      go_wp2_with fail
      go_ret
      exact ⟨rfl, h8⟩
    · have hpm := HM2.out.resolve_left h14
      subst hpm
      clear h14 HM2
      go_wp2_with fail
      refine (is_any _ _ _ _).mono ?_
      rintro e w2 ⟨rfl, rfl⟩
      rw [decide_eq_true (by exact ⟨rfl, rfl⟩)]
      go_wp2_with fail
      go_ret
      exact ⟨rfl, h8⟩

set_option maxRecDepth 100000 in
theorem lifted (os : Os) (started : os.Started) (H : Type) (enc : TypeId × Value → H) :
    ReturnsInHanded {} Try.checked os 6 .any (Rows.curveMultipliesSpec.pre6 enc Try.prog Try.f6 Rows.curveMultipliesRow.domain false) (Rows.curveMultipliesSpec.post enc Try.prog Try.f6 false true false false) := by
  refine returnsInHanded_of_change_shaped (C := Try.checked) own started (by kernel_rfl) Try.func6
    (ChangeSpec.witness6 (enc := enc) (C := Try.checked) false ⟨#[], #[.agg #[.int .i64 0, .slice none 0 0], .int .i64 0, .int .i64 0, .int .i64 0], []⟩ 8 (by kernel_rfl) (by kernel_rfl) (by kernel_rfl) (by kernel_rfl)) ?_
  intro W base args ds gs before hval0 hW hcnd _ hsh _
  have hval : ∀ (j : Nat) t v, Try.f6.params[j]? = some t → args[j]? = some v → Value.okWide Try.prog W .any base t v := hval0
  have hW' := hW
  obtain ⟨p, q, hA0, hV, rfl, hfz, hnd⟩ := hW
  have hA : DataW.TrodAll enc Try.prog W 0 (fun _ => true) true Try.f6.params.toList args.toList ds p := hA0
  rw [Try.params6] at hA hval
  obtain ⟨v0, vs0, d0, ds0, p0, q0, hargs, rfl, rfl, h0, r0⟩ := trodAll_cons hA
  obtain ⟨v1, vs1, d1, ds1, p1, q1, rfl, rfl, rfl, h1, r1⟩ := trodAll_cons r0
  obtain ⟨v2, vs2, d2, ds2, p2, q2, rfl, rfl, rfl, h2, r2⟩ := trodAll_cons r1
  obtain ⟨v3, vs3, d3, ds3, p3, q3, rfl, rfl, rfl, h3, r3⟩ := trodAll_cons r2
  obtain ⟨rfl, rfl, rfl⟩ := trodAll_nil r3
  obtain rfl : args = #[v0, v1, v2, v3] := by cases args; simp_all
  obtain ⟨rfl, rfl⟩ := trodVars_none hV
  have k0 := h0
  obtain ⟨u0, l0, rfl, si0⟩ := curve_open (hval 0 27 v0 rfl rfl) h0
  obtain ⟨a1, rfl, rfl, rfl, w1⟩ := open_int Try.underlying3 (hval 1 3 v1 rfl rfl) h1
  obtain ⟨a2, rfl, rfl, rfl, w2⟩ := open_int Try.underlying3 (hval 2 3 v2 rfl rfl) h2
  obtain ⟨a3, rfl, rfl, rfl, w3⟩ := open_int Try.underlying3 (hval 3 3 v3 rfl rfl) h3
  clear hA0 hval0
  have bd1 := bounds_i64 w1
  have bd2 := bounds_i64 w2
  have bd3 := bounds_i64 w3
  refine (walk u0 l0 a1 a2 a3 W si0 bd1.1 bd1.2 bd2.1 bd2.2 bd3.1 bd3.2 (Try.laysM145.s1_3 W hsh)).mono fun e W' ⟨he, bel⟩ => ?_
  subst he
  exact ⟨_, rfl, _, _, _, [], _, [], hW', trodAll_mk1 (shut_bool Try.underlying4 _), (trodAll_cons_mk (arg_stays (by kernel_rfl) (of_decide_eq_true (by kernel_rfl)) k0 bel) (trodAll_cons_mk (shut_int Try.underlying3 w1) (trodAll_cons_mk (shut_int Try.underlying3 w2) (trodAll_cons_mk (shut_int Try.underlying3 w3) trodAll_mk0)))), rfl, bel.frame _, fun h => by cases h⟩

theorem over : Rows.curveMultipliesRow.holds Try.pinned (OpenSpec.ofChange Rows.curveMultipliesSpec) :=
  OpenClaim.holds_of_wide 6 Try.f6 rfl rfl rfl rfl rfl rfl rfl ⟨rfl, rfl, rfl, rfl, rfl⟩ rfl rfl rfl rfl rfl (by kernel_rfl) Try.func6 (by kernel_rfl)
    (of_decide_eq_true (by kernel_rfl)) (by unfold Func.isWrapper; first | (rw [if_pos (by decide +kernel)]; kernel_rfl) | (rw [if_neg (by decide +kernel)]; exact ⟨rfl, rfl⟩))
    (fun os started H enc _ => lifted os started H enc)

theorem proved : Rows.CurveMultipliesSaid := over
#print axioms proved
