/-
  Exchanging the days changes the sign of days and fractions.
-/
import Derived.Test.YtblelgmedononaaRows
import Derived.Test.YtblelgmedononaaDgives
import Derived.Test.YtblelgmedononaaQct
import Derived.Test.YtblelgmedononaaShelf
import Derived.HandedShaped
import Derived.ProofKit
import Derived.OpenShut
import Derived.ShutString
namespace Go.Proofs.Ytblelgmedononaa.lawSigns
open Go.ChangeShapes Go.WideShapes Go.ChangeAt Go.RowKit
open Go.ChangeMaps (open_string shut_string)

theorem own : ownKnob Try.prog.godebug = none := by kernel_rfl

theorem not_ok {rule a b : Int} (h : (Z.days rule a b).2 ≠ 0) : (Z.days rule a b).1 = 0 ∧ (Z.days rule a b).2 = 2 ∧ Z.yrS rule a b = ⟨#[]⟩ := by
  obtain ⟨e1, e2⟩ := days_err h
  exact ⟨e2, e1, by unfold Z.yrS; rw [if_neg h]⟩
theorem is_ok {rule a b : Int} (h : (Z.days rule a b).2 = 0) : Z.yrS rule a b = Z.Q (Z.frac rule a b) := by unfold Z.yrS; rw [if_pos h]
set_option maxRecDepth 100000 in
set_option maxHeartbeats 16000000 in
theorem walk (rule a b : Int) (w : World) (h0 : 0 ≤ rule) (h1 : rule ≤ 255) (_ha0 : -9223372036854775808 ≤ a) (_ha1 : a ≤ 9223372036854775807) (_hb0 : -9223372036854775808 ≤ b) (_hb1 : b ≤ 9223372036854775807) (hv : HasV w) :
    Calls Try.prog 9 #[.int .u8 rule, .int .i64 a, .int .i64 b] w fun e w' => e = .returned (.bool true) ∧ Below w.heap.size w w' := by
  have AL := Lib.hid (dalive_any w)
  have HV := Lib.hid hv
  clear hv
  have D1 := Lib.hid (fun W : World => days_any rule a b W h0 h1)
  have D2 := Lib.hid (fun W : World => days_any rule b a W h0 h1)
  have F1 := Lib.hid (fun W : World => fraction_any rule a b W h0 h1)
  have F2 := Lib.hid (fun W : World => fraction_any rule b a W h0 h1)
  obtain ⟨sw1, sw2⟩ := Z.days_swap rule a b
  unfold DaysRet FracRet at *
  rw [sw1, sw2] at D2
  by_cases e1 : (Z.days rule a b).2 = 0
  · have e2 : (Z.days rule b a).2 = 0 := sw2.trans e1
    have r1 := Z.rt_frac e1 (days_ok e1).2.2.2
    have r2 := Z.rt_frac e2 (days_ok e2).2.2.2
    have b1 := (days_ok e1).2.2.2
    have QA := Lib.hid (qC_add r1 r2 (by omega) (by omega) (by omega) Z.frac_swap)
    rw [Z.Q_zero] at QA
    rw [is_ok e1, e1] at F1
    rw [is_ok e2, e2] at F2
    rw [e1] at D1 D2
    unfold QC at QA
    by_cases hab : a = b
    · subst hab
      have hx : (Z.days rule a a).1 = 0 := by omega
      rw [Z.frac_self, Z.Q_zero] at F1 F2 QA
      rw [hx] at D1 D2
      rw [Int.neg_zero] at D2
      clear e1 e2 sw1 sw2 b1 hx r1 r2
      go_enter Try.func9, Try.ntmps9
      go_wp2_with fail
      refine (AL.out).mono ?_
      rintro e w1 ⟨rfl, hb1⟩
      have c1 := hb1
      clear hb1
      go_wp2_with fail
      refine (D1.out _).mono ?_
      rintro e w2 ⟨rfl, hb2⟩
      have c2 := c1.trans (hb2.mono c1.size)
      clear c1 hb2
      go_wp2_with fail
      refine (D2.out _).mono ?_
      rintro e w3 ⟨rfl, hb3⟩
      have c3 := c2.trans (hb3.mono c2.size)
      clear c2 hb3
      go_wp2_with fail
      refine (F1.out _).mono ?_
      rintro e w4 ⟨rfl, hb4⟩
      have c4 := c3.trans (hb4.mono c3.size)
      clear c3 hb4
      go_wp2_with fail
      refine (F2.out _).mono ?_
      rintro e w5 ⟨rfl, hb5⟩
      have c5 := c4.trans (hb5.mono c4.size)
      clear c4 hb5
      go_wp2_with fail
      refine (QA.out _ (HV.out.below c5)).mono ?_
      rintro e w6 ⟨rfl, hb6⟩
      have c6 := c5.trans (hb6.mono c5.size)
      clear c5 hb6
      go_wp2_with fail
      all_goals (go_ret; refine ⟨ret_bool ?_, c6⟩; first | rfl | (simp; done) | (simp; omega))
    · have hab2 : (a == b) = false := by simp [hab]
      have hab3 : (a != b) = true := by simp [hab]
      clear e1 e2 sw1 sw2 r1 r2
      generalize Z.Q (Z.frac rule a b) = P1 at *
      generalize Z.Q (Z.frac rule b a) = P2 at *
      generalize (Z.days rule a b).1 = x at *
      go_enter Try.func9, Try.ntmps9
      go_wp2_with fail
      refine (AL.out).mono ?_
      rintro e w1 ⟨rfl, hb1⟩
      have c1 := hb1
      clear hb1
      go_wp2_with fail
      refine (D1.out _).mono ?_
      rintro e w2 ⟨rfl, hb2⟩
      have c2 := c1.trans (hb2.mono c1.size)
      clear c1 hb2
      go_wp2_with fail
      refine (D2.out _).mono ?_
      rintro e w3 ⟨rfl, hb3⟩
      have c3 := c2.trans (hb3.mono c2.size)
      clear c2 hb3
      go_wp2_with fail
      refine (F1.out _).mono ?_
      rintro e w4 ⟨rfl, hb4⟩
      have c4 := c3.trans (hb4.mono c3.size)
      clear c3 hb4
      go_wp2_with fail
      refine (F2.out _).mono ?_
      rintro e w5 ⟨rfl, hb5⟩
      have c5 := c4.trans (hb5.mono c4.size)
      clear c4 hb5
      go_wp2_with fail
      refine (QA.out _ (HV.out.below c5)).mono ?_
      rintro e w6 ⟨rfl, hb6⟩
      have c6 := c5.trans (hb6.mono c5.size)
      clear c5 hb6
      go_wp2_with fail
      all_goals (go_ret; refine ⟨ret_bool ?_, c6⟩; first | rfl | (simp; done) | (simp; omega))
  · obtain ⟨x1, x2, x3⟩ := not_ok e1
    obtain ⟨y1, y2, y3⟩ := not_ok (rule := rule) (a := b) (b := a) (by rw [sw2]; exact e1)
    rw [x1, x2] at D1 D2
    rw [x2, x3] at F1
    rw [y2, y3] at F2
    rw [Int.neg_zero] at D2
    clear e1 sw1 sw2 x1 x2 x3 y1 y2 y3
    go_enter Try.func9, Try.ntmps9
    go_wp2_with fail
    refine (AL.out).mono ?_
    rintro e w1 ⟨rfl, hb1⟩
    have c1 := hb1
    clear hb1
    go_wp2_with fail
    refine (D1.out _).mono ?_
    rintro e w2 ⟨rfl, hb2⟩
    have c2 := c1.trans (hb2.mono c1.size)
    clear c1 hb2
    go_wp2_with fail
    refine (D2.out _).mono ?_
    rintro e w3 ⟨rfl, hb3⟩
    have c3 := c2.trans (hb3.mono c2.size)
    clear c2 hb3
    go_wp2_with fail
    refine (F1.out _).mono ?_
    rintro e w4 ⟨rfl, hb4⟩
    have c4 := c3.trans (hb4.mono c3.size)
    clear c3 hb4
    go_wp2_with fail
    refine (F2.out _).mono ?_
    rintro e w5 ⟨rfl, hb5⟩
    have c5 := c4.trans (hb5.mono c4.size)
    clear c4 hb5
    go_wp2_with fail
    all_goals (go_ret; refine ⟨ret_bool ?_, c5⟩; first | rfl | (simp; done) | (simp; omega))

set_option maxRecDepth 100000 in
theorem lifted (os : Os) (started : os.Started) (H : Type) (enc : TypeId × Value → H) :
    ReturnsInHanded {} Try.checked os 9 .any (Rows.daycountSignsSpec.pre6 enc Try.prog Try.f9 Rows.daycountSignsRow.domain false) (Rows.daycountSignsSpec.post enc Try.prog Try.f9 false true false false) := by
  refine returnsInHanded_of_change_shaped (C := Try.checked) own started (by kernel_rfl) Try.func9
    (ChangeSpec.witness6 (enc := enc) (C := Try.checked) false ⟨#[], #[.int .u8 0, .int .i64 0, .int .i64 0], []⟩ 8 (by kernel_rfl) (by kernel_rfl) (by kernel_rfl) (by kernel_rfl)) ?_
  intro W base args ds gs before hval0 hW hcnd _ hsh _
  have hval : ∀ (j : Nat) t v, Try.f9.params[j]? = some t → args[j]? = some v → Value.okWide Try.prog W .any base t v := hval0
  have hW' := hW
  obtain ⟨p, q, hA0, hV, rfl, hfz, hnd⟩ := hW
  have hA : DataW.TrodAll enc Try.prog W 0 (fun _ => true) true Try.f9.params.toList args.toList ds p := hA0
  rw [Try.params9] at hA hval
  obtain ⟨v0, vs0, d0, ds0, p0, q0, hargs, rfl, rfl, h0, r0⟩ := trodAll_cons hA
  obtain ⟨v1, vs1, d1, ds1, p1, q1, rfl, rfl, rfl, h1, r1⟩ := trodAll_cons r0
  obtain ⟨v2, vs2, d2, ds2, p2, q2, rfl, rfl, rfl, h2, r2⟩ := trodAll_cons r1
  obtain ⟨rfl, rfl, rfl⟩ := trodAll_nil r2
  obtain rfl : args = #[v0, v1, v2] := by cases args; simp_all
  obtain ⟨rfl, rfl⟩ := trodVars_none hV
  obtain ⟨a0, rfl, rfl, rfl, w0⟩ := open_int Try.underlying5 (hval 0 5 v0 rfl rfl) h0
  obtain ⟨a1, rfl, rfl, rfl, w1⟩ := open_int Try.underlying3 (hval 1 3 v1 rfl rfl) h1
  obtain ⟨a2, rfl, rfl, rfl, w2⟩ := open_int Try.underlying3 (hval 2 3 v2 rfl rfl) h2
  clear hA0 hval0
  have bd0 := bounds_u8 w0
  have bd1 := bounds_i64 w1
  have bd2 := bounds_i64 w2
  refine (walk a0 a1 a2 W bd0.1 bd0.2 bd1.1 bd1.2 bd2.1 bd2.2 (Try.laysM145.s1_3 W hsh)).mono fun e W' ⟨he, bel⟩ => ?_
  subst he
  exact ⟨_, rfl, _, _, _, [], _, [], hW', trodAll_mk1 (shut_bool Try.underlying4 _), (trodAll_cons_mk (shut_int Try.underlying5 w0) (trodAll_cons_mk (shut_int Try.underlying3 w1) (trodAll_cons_mk (shut_int Try.underlying3 w2) trodAll_mk0))), rfl, bel.frame _, fun h => by cases h⟩

theorem over : Rows.daycountSignsRow.holds Try.pinned (OpenSpec.ofChange Rows.daycountSignsSpec) :=
  OpenClaim.holds_of_wide 9 Try.f9 rfl rfl rfl rfl rfl rfl rfl ⟨rfl, rfl, rfl, rfl, rfl⟩ rfl rfl rfl rfl rfl (by kernel_rfl) Try.func9 (by kernel_rfl)
    (of_decide_eq_true (by kernel_rfl)) (by unfold Func.isWrapper; first | (rw [if_pos (by decide +kernel)]; kernel_rfl) | (rw [if_neg (by decide +kernel)]; exact ⟨rfl, rfl⟩))
    (fun os started H enc _ => lifted os started H enc)

theorem proved : Rows.DaycountSignsSaid := over
#print axioms proved
