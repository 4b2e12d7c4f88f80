/-
  Days and fractions of adjacent periods add up, by every rule but CountBond.
-/
import Derived.Test.YtblelgmedononaaRows
import Derived.Test.YtblelgmedononaaDgives
import Derived.Test.YtblelgmedononaaQct
import Derived.Test.YtblelgmedononaaShelf
import Derived.HandedShaped
import Derived.ProofKit
import Derived.OpenShut
import Derived.ShutString
namespace Go.Proofs.Ytblelgmedononaa.lawAdds
open Go.ChangeShapes Go.WideShapes Go.ChangeAt Go.RowKit
open Go.ChangeMaps (open_string shut_string)

theorem own : ownKnob Try.prog.godebug = none := by kernel_rfl

theorem not_ok {rule a b : Int} (h : (Z.days rule a b).2 ≠ 0) : (Z.days rule a b).1 = 0 ∧ (Z.days rule a b).2 = 2 ∧ Z.yrS rule a b = ⟨#[]⟩ := by
  obtain ⟨e1, e2⟩ := days_err h
  exact ⟨e2, e1, by unfold Z.yrS; rw [if_neg h]⟩
theorem is_ok {rule a b : Int} (h : (Z.days rule a b).2 = 0) : Z.yrS rule a b = Z.Q (Z.frac rule a b) := by unfold Z.yrS; rw [if_pos h]
set_option maxRecDepth 100000 in
set_option maxHeartbeats 16000000 in
theorem walk (rule a b c : Int) (w : World) (h0 : 0 ≤ rule) (h1 : rule ≤ 255) (_ha0 : -9223372036854775808 ≤ a) (_ha1 : a ≤ 9223372036854775807) (_hb0 : -9223372036854775808 ≤ b) (_hb1 : b ≤ 9223372036854775807) (_hc0 : -9223372036854775808 ≤ c) (_hc1 : c ≤ 9223372036854775807) (hv : HasV w) :
    Calls Try.prog 8 #[.int .u8 rule, .int .i64 a, .int .i64 b, .int .i64 c] w fun e w' => e = .returned (.bool true) ∧ Below w.heap.size w w' := by
  have AL := Lib.hid (dalive_any w)
  have HV := Lib.hid hv
  clear hv
  have D1 := Lib.hid (fun W : World => days_any rule a b W h0 h1)
  have D2 := Lib.hid (fun W : World => days_any rule b c W h0 h1)
  have D3 := Lib.hid (fun W : World => days_any rule a c W h0 h1)
  have F1 := Lib.hid (fun W : World => fraction_any rule a b W h0 h1)
  have F2 := Lib.hid (fun W : World => fraction_any rule b c W h0 h1)
  have F3 := Lib.hid (fun W : World => fraction_any rule a c W h0 h1)
  unfold DaysRet FracRet at *
  by_cases e1 : (Z.days rule a b).2 = 0
  · by_cases e2 : (Z.days rule b c).2 = 0
    · have e3 : (Z.days rule a c).2 = 0 := Z.days_dom.2 ⟨(Z.days_dom.1 e1).1, (Z.days_dom.1 e1).2.1, (Z.days_dom.1 e2).2.2⟩
      have r1 := Z.rt_frac e1 (days_ok e1).2.2.2
      have r2 := Z.rt_frac e2 (days_ok e2).2.2.2
      have b1 := (days_ok e1).2.2.2
      have b2 := (days_ok e2).2.2.2
      have r4 := (days_ok e1).1
      have QA := Lib.hid (qC_add r1 r2 (by omega) (by omega) (by omega) rfl)
      have K := Lib.hid (fun h4 : rule ≠ 4 => Z.frac_add e1 e2 e3 h4)
      have KK := Lib.hid (fun h4 : rule ≠ 4 => And.intro (Z.days_K e1 h4) (And.intro (Z.days_K e2 h4) (Z.days_K e3 h4)))
      rw [is_ok e1, e1] at F1
      rw [is_ok e2, e2] at F2
      rw [is_ok e3, e3] at F3
      rw [e1] at D1
      rw [e2] at D2
      rw [e3] at D3
      unfold QC at QA
      clear e1 e2 e3 r1 r2
      by_cases h4 : rule = 4
      · subst h4
        clear K KK
        generalize Z.Q (Z.frac 4 a b + Z.frac 4 b c) = S at *
        generalize Z.Q (Z.frac 4 a b) = P1 at *
        generalize Z.Q (Z.frac 4 b c) = P2 at *
        generalize Z.Q (Z.frac 4 a c) = P3 at *
        generalize (Z.days 4 a b).1 = x at *
        generalize (Z.days 4 b c).1 = y at *
        generalize (Z.days 4 a c).1 = z at *
        go_enter Try.func8, Try.ntmps8
        go_wp2_with fail
        refine (AL.out).mono ?_
        rintro e w1 ⟨rfl, hb1⟩
        have c1 := hb1
        clear hb1
        go_wp2_with fail
        refine (D1.out _).mono ?_
        rintro e w2 ⟨rfl, hb2⟩
        have c2 := c1.trans (hb2.mono c1.size)
        clear c1 hb2
        go_wp2_with fail
        refine (D2.out _).mono ?_
        rintro e w3 ⟨rfl, hb3⟩
        have c3 := c2.trans (hb3.mono c2.size)
        clear c2 hb3
        go_wp2_with fail
        refine (D3.out _).mono ?_
        rintro e w4 ⟨rfl, hb4⟩
        have c4 := c3.trans (hb4.mono c3.size)
        clear c3 hb4
        go_wp2_with fail
        refine (F1.out _).mono ?_
        rintro e w5 ⟨rfl, hb5⟩
        have c5 := c4.trans (hb5.mono c4.size)
        clear c4 hb5
        go_wp2_with fail
        refine (F2.out _).mono ?_
        rintro e w6 ⟨rfl, hb6⟩
        have c6 := c5.trans (hb6.mono c5.size)
        clear c5 hb6
        go_wp2_with fail
        refine (F3.out _).mono ?_
        rintro e w7 ⟨rfl, hb7⟩
        have c7 := c6.trans (hb7.mono c6.size)
        clear c6 hb7
        go_wp2_with fail
        refine (QA.out _ (HV.out.below c7)).mono ?_
        rintro e w8 ⟨rfl, hb8⟩
        have c8 := c7.trans (hb8.mono c7.size)
        clear c7 hb8
        go_wp2_with fail
        all_goals (go_ret; refine ⟨ret_bool ?_, c8⟩; first | rfl | (simp; done) | (simp; omega))
      · have k := K.out h4
        have kk := KK.out h4
        rw [k] at QA
        have hr : (rule == 4) = false := by simp [h4]
        have hxy : (Z.days rule a b).1 + (Z.days rule b c).1 = (Z.days rule a c).1 := by omega
        clear K KK k kk
        generalize Z.Q (Z.frac rule a b) = P1 at *
        generalize Z.Q (Z.frac rule b c) = P2 at *
        generalize Z.Q (Z.frac rule a c) = P3 at *
        rw [← hxy] at D3
        generalize (Z.days rule a b).1 = x at *
        generalize (Z.days rule b c).1 = y at *
        clear hxy h4
        go_enter Try.func8, Try.ntmps8
        go_wp2_with fail
        refine (AL.out).mono ?_
        rintro e w1 ⟨rfl, hb1⟩
        have c1 := hb1
        clear hb1
        go_wp2_with fail
        refine (D1.out _).mono ?_
        rintro e w2 ⟨rfl, hb2⟩
        have c2 := c1.trans (hb2.mono c1.size)
        clear c1 hb2
        go_wp2_with fail
        refine (D2.out _).mono ?_
        rintro e w3 ⟨rfl, hb3⟩
        have c3 := c2.trans (hb3.mono c2.size)
        clear c2 hb3
        go_wp2_with fail
        refine (D3.out _).mono ?_
        rintro e w4 ⟨rfl, hb4⟩
        have c4 := c3.trans (hb4.mono c3.size)
        clear c3 hb4
        go_wp2_with fail
        refine (F1.out _).mono ?_
        rintro e w5 ⟨rfl, hb5⟩
        have c5 := c4.trans (hb5.mono c4.size)
        clear c4 hb5
        go_wp2_with fail
        refine (F2.out _).mono ?_
        rintro e w6 ⟨rfl, hb6⟩
        have c6 := c5.trans (hb6.mono c5.size)
        clear c5 hb6
        go_wp2_with fail
        refine (F3.out _).mono ?_
        rintro e w7 ⟨rfl, hb7⟩
        have c7 := c6.trans (hb7.mono c6.size)
        clear c6 hb7
        go_wp2_with fail
        refine (QA.out _ (HV.out.below c7)).mono ?_
        rintro e w8 ⟨rfl, hb8⟩
        have c8 := c7.trans (hb8.mono c7.size)
        clear c7 hb8
        go_wp2_with fail
        all_goals (go_ret; refine ⟨ret_bool ?_, c8⟩; first | rfl | (simp; done) | (simp; omega))
    · skip
      rw [e1] at D1 F1
      obtain ⟨x1, x2, x3⟩ := not_ok e2
      rw [x1, x2] at D2
      rw [x2, x3] at F2
      clear x1 x2 x3
      clear e1 e2
      generalize Z.yrS rule a b = P1 at *
      generalize Z.yrS rule b c = P2 at *
      generalize Z.yrS rule a c = P3 at *
      generalize (Z.days rule a b).1 = x at *
      generalize (Z.days rule b c).1 = y at *
      generalize (Z.days rule a c).1 = z at *
      generalize (Z.days rule a c).2 = k at *
      go_enter Try.func8, Try.ntmps8
      go_wp2_with fail
      refine (AL.out).mono ?_
      rintro e w1 ⟨rfl, hb1⟩
      have c1 := hb1
      clear hb1
      go_wp2_with fail
      refine (D1.out _).mono ?_
      rintro e w2 ⟨rfl, hb2⟩
      have c2 := c1.trans (hb2.mono c1.size)
      clear c1 hb2
      go_wp2_with fail
      refine (D2.out _).mono ?_
      rintro e w3 ⟨rfl, hb3⟩
      have c3 := c2.trans (hb3.mono c2.size)
      clear c2 hb3
      go_wp2_with fail
      refine (D3.out _).mono ?_
      rintro e w4 ⟨rfl, hb4⟩
      have c4 := c3.trans (hb4.mono c3.size)
      clear c3 hb4
      go_wp2_with fail
      refine (F1.out _).mono ?_
      rintro e w5 ⟨rfl, hb5⟩
      have c5 := c4.trans (hb5.mono c4.size)
      clear c4 hb5
      go_wp2_with fail
      refine (F2.out _).mono ?_
      rintro e w6 ⟨rfl, hb6⟩
      have c6 := c5.trans (hb6.mono c5.size)
      clear c5 hb6
      go_wp2_with fail
      refine (F3.out _).mono ?_
      rintro e w7 ⟨rfl, hb7⟩
      have c7 := c6.trans (hb7.mono c6.size)
      clear c6 hb7
      go_wp2_with fail
      all_goals (go_ret; refine ⟨ret_bool ?_, c7⟩; first | rfl | (simp; done) | (simp; omega))
  · by_cases e2 : (Z.days rule b c).2 = 0
    · skip
      obtain ⟨x1, x2, x3⟩ := not_ok e1
      rw [x1, x2] at D1
      rw [x2, x3] at F1
      clear x1 x2 x3
      rw [e2] at D2 F2
      clear e1 e2
      generalize Z.yrS rule a b = P1 at *
      generalize Z.yrS rule b c = P2 at *
      generalize Z.yrS rule a c = P3 at *
      generalize (Z.days rule a b).1 = x at *
      generalize (Z.days rule b c).1 = y at *
      generalize (Z.days rule a c).1 = z at *
      generalize (Z.days rule a c).2 = k at *
      go_enter Try.func8, Try.ntmps8
      go_wp2_with fail
      refine (AL.out).mono ?_
      rintro e w1 ⟨rfl, hb1⟩
      have c1 := hb1
      clear hb1
      go_wp2_with fail
      refine (D1.out _).mono ?_
      rintro e w2 ⟨rfl, hb2⟩
      have c2 := c1.trans (hb2.mono c1.size)
      clear c1 hb2
      go_wp2_with fail
      refine (D2.out _).mono ?_
      rintro e w3 ⟨rfl, hb3⟩
      have c3 := c2.trans (hb3.mono c2.size)
      clear c2 hb3
      go_wp2_with fail
      refine (D3.out _).mono ?_
      rintro e w4 ⟨rfl, hb4⟩
      have c4 := c3.trans (hb4.mono c3.size)
      clear c3 hb4
      go_wp2_with fail
      refine (F1.out _).mono ?_
      rintro e w5 ⟨rfl, hb5⟩
      have c5 := c4.trans (hb5.mono c4.size)
      clear c4 hb5
      go_wp2_with fail
      refine (F2.out _).mono ?_
      rintro e w6 ⟨rfl, hb6⟩
      have c6 := c5.trans (hb6.mono c5.size)
      clear c5 hb6
      go_wp2_with fail
      refine (F3.out _).mono ?_
      rintro e w7 ⟨rfl, hb7⟩
      have c7 := c6.trans (hb7.mono c6.size)
      clear c6 hb7
      go_wp2_with fail
      all_goals (go_ret; refine ⟨ret_bool ?_, c7⟩; first | rfl | (simp; done) | (simp; omega))
    · skip
      obtain ⟨x1, x2, x3⟩ := not_ok e1
      rw [x1, x2] at D1
      rw [x2, x3] at F1
      clear x1 x2 x3
      obtain ⟨x1, x2, x3⟩ := not_ok e2
      rw [x1, x2] at D2
      rw [x2, x3] at F2
      clear x1 x2 x3
      clear e1 e2
      generalize Z.yrS rule a b = P1 at *
      generalize Z.yrS rule b c = P2 at *
      generalize Z.yrS rule a c = P3 at *
      generalize (Z.days rule a b).1 = x at *
      generalize (Z.days rule b c).1 = y at *
      generalize (Z.days rule a c).1 = z at *
      generalize (Z.days rule a c).2 = k at *
      go_enter Try.func8, Try.ntmps8
      go_wp2_with fail
      refine (AL.out).mono ?_
      rintro e w1 ⟨rfl, hb1⟩
      have c1 := hb1
      clear hb1
      go_wp2_with fail
      refine (D1.out _).mono ?_
      rintro e w2 ⟨rfl, hb2⟩
      have c2 := c1.trans (hb2.mono c1.size)
      clear c1 hb2
      go_wp2_with fail
      refine (D2.out _).mono ?_
      rintro e w3 ⟨rfl, hb3⟩
      have c3 := c2.trans (hb3.mono c2.size)
      clear c2 hb3
      go_wp2_with fail
      refine (D3.out _).mono ?_
      rintro e w4 ⟨rfl, hb4⟩
      have c4 := c3.trans (hb4.mono c3.size)
      clear c3 hb4
      go_wp2_with fail
      refine (F1.out _).mono ?_
      rintro e w5 ⟨rfl, hb5⟩
      have c5 := c4.trans (hb5.mono c4.size)
      clear c4 hb5
      go_wp2_with fail
      refine (F2.out _).mono ?_
      rintro e w6 ⟨rfl, hb6⟩
      have c6 := c5.trans (hb6.mono c5.size)
      clear c5 hb6
      go_wp2_with fail
      refine (F3.out _).mono ?_
      rintro e w7 ⟨rfl, hb7⟩
      have c7 := c6.trans (hb7.mono c6.size)
      clear c6 hb7
      go_wp2_with fail
      all_goals (go_ret; refine ⟨ret_bool ?_, c7⟩; first | rfl | (simp; done) | (simp; omega))

set_option maxRecDepth 100000 in
theorem lifted (os : Os) (started : os.Started) (H : Type) (enc : TypeId × Value → H) :
    ReturnsInHanded {} Try.checked os 8 .any (Rows.daycountAddsSpec.pre6 enc Try.prog Try.f8 Rows.daycountAddsRow.domain false) (Rows.daycountAddsSpec.post enc Try.prog Try.f8 false true false false) := by
  refine returnsInHanded_of_change_shaped (C := Try.checked) own started (by kernel_rfl) Try.func8
    (ChangeSpec.witness6 (enc := enc) (C := Try.checked) false ⟨#[], #[.int .u8 0, .int .i64 0, .int .i64 0, .int .i64 0], []⟩ 8 (by kernel_rfl) (by kernel_rfl) (by kernel_rfl) (by kernel_rfl)) ?_
  intro W base args ds gs before hval0 hW hcnd _ hsh _
  have hval : ∀ (j : Nat) t v, Try.f8.params[j]? = some t → args[j]? = some v → Value.okWide Try.prog W .any base t v := hval0
  have hW' := hW
  obtain ⟨p, q, hA0, hV, rfl, hfz, hnd⟩ := hW
  have hA : DataW.TrodAll enc Try.prog W 0 (fun _ => true) true Try.f8.params.toList args.toList ds p := hA0
  rw [Try.params8] at hA hval
  obtain ⟨v0, vs0, d0, ds0, p0, q0, hargs, rfl, rfl, h0, r0⟩ := trodAll_cons hA
  obtain ⟨v1, vs1, d1, ds1, p1, q1, rfl, rfl, rfl, h1, r1⟩ := trodAll_cons r0
  obtain ⟨v2, vs2, d2, ds2, p2, q2, rfl, rfl, rfl, h2, r2⟩ := trodAll_cons r1
  obtain ⟨v3, vs3, d3, ds3, p3, q3, rfl, rfl, rfl, h3, r3⟩ := trodAll_cons r2
  obtain ⟨rfl, rfl, rfl⟩ := trodAll_nil r3
  obtain rfl : args = #[v0, v1, v2, v3] := by cases args; simp_all
  obtain ⟨rfl, rfl⟩ := trodVars_none hV
  obtain ⟨a0, rfl, rfl, rfl, w0⟩ := open_int Try.underlying5 (hval 0 5 v0 rfl rfl) h0
  obtain ⟨a1, rfl, rfl, rfl, w1⟩ := open_int Try.underlying3 (hval 1 3 v1 rfl rfl) h1
  obtain ⟨a2, rfl, rfl, rfl, w2⟩ := open_int Try.underlying3 (hval 2 3 v2 rfl rfl) h2
  obtain ⟨a3, rfl, rfl, rfl, w3⟩ := open_int Try.underlying3 (hval 3 3 v3 rfl rfl) h3
  clear hA0 hval0
  have bd0 := bounds_u8 w0
  have bd1 := bounds_i64 w1
  have bd2 := bounds_i64 w2
  have bd3 := bounds_i64 w3
  refine (walk a0 a1 a2 a3 W bd0.1 bd0.2 bd1.1 bd1.2 bd2.1 bd2.2 bd3.1 bd3.2 (Try.laysM145.s1_3 W hsh)).mono fun e W' ⟨he, bel⟩ => ?_
  subst he
  exact ⟨_, rfl, _, _, _, [], _, [], hW', trodAll_mk1 (shut_bool Try.underlying4 _), (trodAll_cons_mk (shut_int Try.underlying5 w0) (trodAll_cons_mk (shut_int Try.underlying3 w1) (trodAll_cons_mk (shut_int Try.underlying3 w2) (trodAll_cons_mk (shut_int Try.underlying3 w3) trodAll_mk0)))), rfl, bel.frame _, fun h => by cases h⟩

theorem over : Rows.daycountAddsRow.holds Try.pinned (OpenSpec.ofChange Rows.daycountAddsSpec) :=
  OpenClaim.holds_of_wide 8 Try.f8 rfl rfl rfl rfl rfl rfl rfl ⟨rfl, rfl, rfl, rfl, rfl⟩ rfl rfl rfl rfl rfl (by kernel_rfl) Try.func8 (by kernel_rfl)
    (of_decide_eq_true (by kernel_rfl)) (by unfold Func.isWrapper; first | (rw [if_pos (by decide +kernel)]; kernel_rfl) | (rw [if_neg (by decide +kernel)]; exact ⟨rfl, rfl⟩))
    (fun os started H enc _ => lifted os started H enc)

theorem proved : Rows.DaycountAddsSaid := over
#print axioms proved
