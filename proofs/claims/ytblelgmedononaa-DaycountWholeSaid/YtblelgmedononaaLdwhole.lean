/-
  Whole calendar years count 1 each by CountActAct, and n months count n / 12 of a year by CountThirty and CountBond.
-/
import Derived.Test.YtblelgmedononaaRows
import Derived.Test.YtblelgmedononaaDgives
import Derived.ProofKit
import Derived.OpenShut
import Derived.ShutString
namespace Go.Proofs.Ytblelgmedononaa.lawWhole
open Go.ChangeShapes Go.WideShapes Go.ChangeAt Go.RowKit
open Go.ChangeMaps (open_string shut_string)

theorem own : ownKnob Try.prog.godebug = none := by kernel_rfl

theorem whole_months {a v n y m d p q : Int} (ha : Z.inR a = true) (hv : Z.inR v = true) (h : Z.Dt a y m d) (k : Z.Dt v p q d) (hd : d ≤ 28) (hn : 12 * p + q = 12 * y + m + n) :
    Z.frac 2 a v = Rat.divInt n 12 ∧ Z.frac 4 a v = Rat.divInt n 12 := by
  obtain ⟨m1, m2, m3, m4⟩ := Z.months_eq h k hd hn
  have r2 : ∀ x y : Int, Z.ruled 2 x y = Z.thirty false x y := fun x y => by unfold Z.ruled; rw [if_pos rfl]
  have r4 : ∀ x y : Int, Z.ruled 4 x y = Z.thirty true x y := fun x y => by unfold Z.ruled; rw [if_neg (by omega), if_pos rfl]
  have e2 : (Z.days 2 a v).1 = 30 * n := by
    unfold Z.days
    rw [if_pos ⟨by omega, ha, hv⟩]
    dsimp only
    rw [r2, r2]
    split <;> omega
  have e4 : (Z.days 4 a v).1 = 30 * n := by
    unfold Z.days
    rw [if_pos ⟨by omega, ha, hv⟩]
    dsimp only
    rw [r4, r4]
    split <;> omega
  unfold Z.frac
  rw [if_neg (by omega), if_neg (by omega), if_neg (by omega), if_neg (by omega), e2, e4, Z.months_frac]
  exact ⟨rfl, rfl⟩
theorem whole_years {a b : Int} (ha : Z.okD a 1 1) (hb : Z.okD b 1 1) : GV 3 (Z.fst a) (Z.fst b) (Z.S (b - a)) := by
  have da := ha.dt
  have db := hb.dt
  rw [(Z.of_ok ha).1, Z.cum_one, show Z.fst a + 0 + 1 - 1 = Z.fst a by omega] at da
  rw [(Z.of_ok hb).1, Z.cum_one, show Z.fst b + 0 + 1 - 1 = Z.fst b by omega] at db
  have ra := Z.fst_in da.y0 da.y1
  have rb := Z.fst_in db.y0 db.y1
  obtain ⟨_, _, _, xa⟩ := ha
  obtain ⟨_, _, _, xb⟩ := hb
  rw [Z.cum_one] at xa xb
  refine gv3 da db ((inR_iff _).2 (by omega)) ((inR_iff _).2 (by omega)) ?_
  rw [Int.sub_self, Int.sub_self, Z.years_frac, Z.Q_int]
set_option maxRecDepth 100000 in
set_option maxHeartbeats 16000000 in
theorem walk (a b day n : Int) (w : World) (ha0 : -9223372036854775808 ≤ a) (ha1 : a ≤ 9223372036854775807) (hb0 : -9223372036854775808 ≤ b) (hb1 : b ≤ 9223372036854775807) (hd0 : -9223372036854775808 ≤ day) (hd1 : day ≤ 9223372036854775807) (hn0 : -9223372036854775808 ≤ n) (hn1 : n ≤ 9223372036854775807) :
    Calls Try.prog 7 #[.int .i64 a, .int .i64 b, .int .i64 day, .int .i64 n] w fun e w' => e = .returned (.bool true) ∧ Below w.heap.size w w' := by
  have AL := Lib.hid (dalive_any w)
  have O1 := Lib.hid (fun W : World => dof_any a 1 1 W ha0 ha1 (by omega) (by omega) (by omega) (by omega))
  have O2 := Lib.hid (fun W : World => dof_any b 1 1 W hb0 hb1 (by omega) (by omega) (by omega) (by omega))
  have AM := Lib.hid (fun W : World => addm_any day n W hd0 hd1 hn0 hn1)
  unfold AddmRet at AM
  by_cases oa : Z.okD a 1 1
  · by_cases ob : Z.okD b 1 1
    · have G := Lib.hid (whole_years oa ob)
      have ya := oa.1
      have yb := ob.1
      unfold Z.okY at ya yb
      have QO := Lib.hid (fun W : World => qof_any (b - a) W (by omega) (by omega))
      unfold StrRet at QO
      rw [(Z.of_ok oa).1, (Z.of_ok oa).2, Z.cum_one, show Z.fst a + 0 + 1 - 1 = Z.fst a by omega] at O1
      rw [(Z.of_ok ob).1, (Z.of_ok ob).2, Z.cum_one, show Z.fst b + 0 + 1 - 1 = Z.fst b by omega] at O2
      change Hid (∀ W : World, Calls Try.prog 18 #[.int .i64 (b - a)] W fun e w' => e = .returned (.string (Z.S (b - a))) ∧ Below W.heap.size W w') at QO
      unfold GV at G
      clear oa ob
      generalize Z.fst a = fa at *
      generalize Z.fst b = fb at *
      cases iday : Z.inR day
      · have PO := Lib.hid (parts_out day · (by have := inR_iff day; rw [iday] at this; simp at this; omega))
        go_enter Try.func7, Try.ntmps7
        go_wp2_with fail
        refine (AL.out).mono ?_
        rintro e w1 ⟨rfl, hb1⟩
        have c1 := hb1
        clear hb1
        go_wp2_with fail
        refine (O1.out _).mono ?_
        rintro e w2 ⟨rfl, hb2⟩
        have c2 := c1.trans (hb2.mono c1.size)
        clear c1 hb2
        go_wp2_with fail
        refine (O2.out _).mono ?_
        rintro e w3 ⟨rfl, hb3⟩
        have c3 := c2.trans (hb3.mono c2.size)
        clear c2 hb3
        go_wp2_with fail
        refine (QO.out _).mono ?_
        rintro e w4 ⟨rfl, hb4⟩
        have c4 := c3.trans (hb4.mono c3.size)
        clear c3 hb4
        go_wp2_with fail
        refine (G.out _).mono ?_
        rintro e w5 ⟨rfl, hb5⟩
        have c5 := c4.trans (hb5.mono c4.size)
        clear c4 hb5
        go_wp2_with fail
        refine (PO.out _).mono ?_
        rintro e w20 ⟨rfl, rfl⟩
        go_wp2_with fail
        refine (AM.out _).mono ?_
        rintro e w21 ⟨v, k, rfl, hb20, hk⟩
        have cc := c5.trans (hb20.mono c5.size)
        clear hk
        go_wp2_with fail
        all_goals (go_ret; refine ⟨ret_bool ?_, cc⟩; first | rfl | (simp; done) | (simp; omega))
      · have PO := Lib.hid (parts_any day · ((inR_iff day).1 iday).1 ((inR_iff day).1 iday).2)
        unfold PartsRet at PO
        go_enter Try.func7, Try.ntmps7
        go_wp2_with fail
        refine (AL.out).mono ?_
        rintro e w1 ⟨rfl, hb1⟩
        have c1 := hb1
        clear hb1
        go_wp2_with fail
        refine (O1.out _).mono ?_
        rintro e w2 ⟨rfl, hb2⟩
        have c2 := c1.trans (hb2.mono c1.size)
        clear c1 hb2
        go_wp2_with fail
        refine (O2.out _).mono ?_
        rintro e w3 ⟨rfl, hb3⟩
        have c3 := c2.trans (hb3.mono c2.size)
        clear c2 hb3
        go_wp2_with fail
        refine (QO.out _).mono ?_
        rintro e w4 ⟨rfl, hb4⟩
        have c4 := c3.trans (hb4.mono c3.size)
        clear c3 hb4
        go_wp2_with fail
        refine (G.out _).mono ?_
        rintro e w5 ⟨rfl, hb5⟩
        have c5 := c4.trans (hb5.mono c4.size)
        clear c4 hb5
        go_wp2_with fail
        refine (PO.out _).mono ?_
        rintro e w20 ⟨y, m, d, hD, rfl, hb20⟩
        have c20 := c5.trans (hb20.mono c5.size)
        clear c5 hb20
        have HD := Lib.hid hD
        clear hD
        go_wp2_with fail
        refine (AM.out _).mono ?_
        rintro e w21 ⟨v, k, rfl, hb21, hk⟩
        have cc := c20.trans (hb21.mono c20.size)
        clear c20 hb21
        by_cases hk0 : k = 0
        · obtain ⟨iv, y', m', d', p, q, h1, h2, h3, h4, h5⟩ := hk hk0
          subst hk0
          obtain ⟨rfl, rfl, rfl⟩ := h1.eq HD.out
          by_cases hd : 28 < d'
          · clear iv h1 h2 h3 h4 h5
            go_wp2_with fail
            all_goals (go_ret; refine ⟨ret_bool ?_, cc⟩; first | rfl | (simp; done) | (simp; omega))
          · have hl := Z.len_ge p q
            rw [show min d' (Z.len p q) = d' by omega] at h2
            obtain ⟨f1, f2⟩ := whole_months iday iv h1 h2 (by omega) h3
            have g1 := Lib.hid (gv (by omega) (by omega) iday iv f1 rfl)
            have g2 := Lib.hid (gv (by omega) (by omega) iday iv f2 rfl)
            have RT := ratC (n := n) (m := 12) (by omega) (by omega) (by omega) rfl
            unfold GV at g1 g2
            clear iv h1 h2 h3 f1 f2 hk
            go_wp2_with fail
            refine (RT.out _).mono ?_
            rintro e w30 ⟨rfl, hb30⟩
            have c30 := cc.trans (hb30.mono cc.size)
            clear cc hb30
            go_wp2_with fail
            refine (g1.out _).mono ?_
            rintro e w31 ⟨rfl, hb31⟩
            have c31 := c30.trans (hb31.mono c30.size)
            clear c30 hb31
            go_wp2_with fail
            refine (g2.out _).mono ?_
            rintro e w32 ⟨rfl, hb32⟩
            have c32 := c31.trans (hb32.mono c31.size)
            clear c31 hb32
            go_wp2_with fail
            all_goals (go_ret; refine ⟨ret_bool ?_, c32⟩; first | rfl | (simp; done) | (simp; omega))
        · have hkb : (k != 0) = true := by simp [hk0]
          clear hk hk0
          go_wp2_with fail
          all_goals (go_ret; refine ⟨ret_bool ?_, cc⟩; first | rfl | (simp; done) | (simp; omega))
    · rw [(Z.of_ok oa).1, (Z.of_ok oa).2] at O1
      rw [(Z.of_no ob).1, (Z.of_no ob).2] at O2
      clear oa ob
      generalize Z.fst a + Z.cum a 1 + 1 - 1 = fa at *
      cases iday : Z.inR day
      · have PO := Lib.hid (parts_out day · (by have := inR_iff day; rw [iday] at this; simp at this; omega))
        go_enter Try.func7, Try.ntmps7
        go_wp2_with fail
        refine (AL.out).mono ?_
        rintro e w1 ⟨rfl, hb1⟩
        have c1 := hb1
        clear hb1
        go_wp2_with fail
        refine (O1.out _).mono ?_
        rintro e w2 ⟨rfl, hb2⟩
        have c2 := c1.trans (hb2.mono c1.size)
        clear c1 hb2
        go_wp2_with fail
        refine (O2.out _).mono ?_
        rintro e w3 ⟨rfl, hb3⟩
        have c3 := c2.trans (hb3.mono c2.size)
        clear c2 hb3
        go_wp2_with fail
        refine (PO.out _).mono ?_
        rintro e w20 ⟨rfl, rfl⟩
        go_wp2_with fail
        refine (AM.out _).mono ?_
        rintro e w21 ⟨v, k, rfl, hb20, hk⟩
        have cc := c3.trans (hb20.mono c3.size)
        clear hk
        go_wp2_with fail
        all_goals (go_ret; refine ⟨ret_bool ?_, cc⟩; first | rfl | (simp; done) | (simp; omega))
      · have PO := Lib.hid (parts_any day · ((inR_iff day).1 iday).1 ((inR_iff day).1 iday).2)
        unfold PartsRet at PO
        go_enter Try.func7, Try.ntmps7
        go_wp2_with fail
        refine (AL.out).mono ?_
        rintro e w1 ⟨rfl, hb1⟩
        have c1 := hb1
        clear hb1
        go_wp2_with fail
        refine (O1.out _).mono ?_
        rintro e w2 ⟨rfl, hb2⟩
        have c2 := c1.trans (hb2.mono c1.size)
        clear c1 hb2
        go_wp2_with fail
        refine (O2.out _).mono ?_
        rintro e w3 ⟨rfl, hb3⟩
        have c3 := c2.trans (hb3.mono c2.size)
        clear c2 hb3
        go_wp2_with fail
        refine (PO.out _).mono ?_
        rintro e w20 ⟨y, m, d, hD, rfl, hb20⟩
        have c20 := c3.trans (hb20.mono c3.size)
        clear c3 hb20
        have HD := Lib.hid hD
        clear hD
        go_wp2_with fail
        refine (AM.out _).mono ?_
        rintro e w21 ⟨v, k, rfl, hb21, hk⟩
        have cc := c20.trans (hb21.mono c20.size)
        clear c20 hb21
        by_cases hk0 : k = 0
        · obtain ⟨iv, y', m', d', p, q, h1, h2, h3, h4, h5⟩ := hk hk0
          subst hk0
          obtain ⟨rfl, rfl, rfl⟩ := h1.eq HD.out
          by_cases hd : 28 < d'
          · clear iv h1 h2 h3 h4 h5
            go_wp2_with fail
            all_goals (go_ret; refine ⟨ret_bool ?_, cc⟩; first | rfl | (simp; done) | (simp; omega))
          · have hl := Z.len_ge p q
            rw [show min d' (Z.len p q) = d' by omega] at h2
            obtain ⟨f1, f2⟩ := whole_months iday iv h1 h2 (by omega) h3
            have g1 := Lib.hid (gv (by omega) (by omega) iday iv f1 rfl)
            have g2 := Lib.hid (gv (by omega) (by omega) iday iv f2 rfl)
            have RT := ratC (n := n) (m := 12) (by omega) (by omega) (by omega) rfl
            unfold GV at g1 g2
            clear iv h1 h2 h3 f1 f2 hk
            go_wp2_with fail
            refine (RT.out _).mono ?_
            rintro e w30 ⟨rfl, hb30⟩
            have c30 := cc.trans (hb30.mono cc.size)
            clear cc hb30
            go_wp2_with fail
            refine (g1.out _).mono ?_
            rintro e w31 ⟨rfl, hb31⟩
            have c31 := c30.trans (hb31.mono c30.size)
            clear c30 hb31
            go_wp2_with fail
            refine (g2.out _).mono ?_
            rintro e w32 ⟨rfl, hb32⟩
            have c32 := c31.trans (hb32.mono c31.size)
            clear c31 hb32
            go_wp2_with fail
            all_goals (go_ret; refine ⟨ret_bool ?_, c32⟩; first | rfl | (simp; done) | (simp; omega))
        · have hkb : (k != 0) = true := by simp [hk0]
          clear hk hk0
          go_wp2_with fail
          all_goals (go_ret; refine ⟨ret_bool ?_, cc⟩; first | rfl | (simp; done) | (simp; omega))
  · rw [(Z.of_no oa).1, (Z.of_no oa).2] at O1
    clear oa
    generalize Z.ofV b 1 1 = vb at *
    generalize Z.ofE b 1 1 = eb at *
    cases iday : Z.inR day
    · have PO := Lib.hid (parts_out day · (by have := inR_iff day; rw [iday] at this; simp at this; omega))
      go_enter Try.func7, Try.ntmps7
      go_wp2_with fail
      refine (AL.out).mono ?_
      rintro e w1 ⟨rfl, hb1⟩
      have c1 := hb1
      clear hb1
      go_wp2_with fail
      refine (O1.out _).mono ?_
      rintro e w2 ⟨rfl, hb2⟩
      have c2 := c1.trans (hb2.mono c1.size)
      clear c1 hb2
      go_wp2_with fail
      refine (O2.out _).mono ?_
      rintro e w3 ⟨rfl, hb3⟩
      have c3 := c2.trans (hb3.mono c2.size)
      clear c2 hb3
      go_wp2_with fail
      refine (PO.out _).mono ?_
      rintro e w20 ⟨rfl, rfl⟩
      go_wp2_with fail
      refine (AM.out _).mono ?_
      rintro e w21 ⟨v, k, rfl, hb20, hk⟩
      have cc := c3.trans (hb20.mono c3.size)
      clear hk
      go_wp2_with fail
      all_goals (go_ret; refine ⟨ret_bool ?_, cc⟩; first | rfl | (simp; done) | (simp; omega))
    · have PO := Lib.hid (parts_any day · ((inR_iff day).1 iday).1 ((inR_iff day).1 iday).2)
      unfold PartsRet at PO
      go_enter Try.func7, Try.ntmps7
      go_wp2_with fail
      refine (AL.out).mono ?_
      rintro e w1 ⟨rfl, hb1⟩
      have c1 := hb1
      clear hb1
      go_wp2_with fail
      refine (O1.out _).mono ?_
      rintro e w2 ⟨rfl, hb2⟩
      have c2 := c1.trans (hb2.mono c1.size)
      clear c1 hb2
      go_wp2_with fail
      refine (O2.out _).mono ?_
      rintro e w3 ⟨rfl, hb3⟩
      have c3 := c2.trans (hb3.mono c2.size)
      clear c2 hb3
      go_wp2_with fail
      refine (PO.out _).mono ?_
      rintro e w20 ⟨y, m, d, hD, rfl, hb20⟩
      have c20 := c3.trans (hb20.mono c3.size)
      clear c3 hb20
      have HD := Lib.hid hD
      clear hD
      go_wp2_with fail
      refine (AM.out _).mono ?_
      rintro e w21 ⟨v, k, rfl, hb21, hk⟩
      have cc := c20.trans (hb21.mono c20.size)
      clear c20 hb21
      by_cases hk0 : k = 0
      · obtain ⟨iv, y', m', d', p, q, h1, h2, h3, h4, h5⟩ := hk hk0
        subst hk0
        obtain ⟨rfl, rfl, rfl⟩ := h1.eq HD.out
        by_cases hd : 28 < d'
        · clear iv h1 h2 h3 h4 h5
          go_wp2_with fail
          all_goals (go_ret; refine ⟨ret_bool ?_, cc⟩; first | rfl | (simp; done) | (simp; omega))
        · have hl := Z.len_ge p q
          rw [show min d' (Z.len p q) = d' by omega] at h2
          obtain ⟨f1, f2⟩ := whole_months iday iv h1 h2 (by omega) h3
          have g1 := Lib.hid (gv (by omega) (by omega) iday iv f1 rfl)
          have g2 := Lib.hid (gv (by omega) (by omega) iday iv f2 rfl)
          have RT := ratC (n := n) (m := 12) (by omega) (by omega) (by omega) rfl
          unfold GV at g1 g2
          clear iv h1 h2 h3 f1 f2 hk
          go_wp2_with fail
          refine (RT.out _).mono ?_
          rintro e w30 ⟨rfl, hb30⟩
          have c30 := cc.trans (hb30.mono cc.size)
          clear cc hb30
          go_wp2_with fail
          refine (g1.out _).mono ?_
          rintro e w31 ⟨rfl, hb31⟩
          have c31 := c30.trans (hb31.mono c30.size)
          clear c30 hb31
          go_wp2_with fail
          refine (g2.out _).mono ?_
          rintro e w32 ⟨rfl, hb32⟩
          have c32 := c31.trans (hb32.mono c31.size)
          clear c31 hb32
          go_wp2_with fail
          all_goals (go_ret; refine ⟨ret_bool ?_, c32⟩; first | rfl | (simp; done) | (simp; omega))
      · have hkb : (k != 0) = true := by simp [hk0]
        clear hk hk0
        go_wp2_with fail
        all_goals (go_ret; refine ⟨ret_bool ?_, cc⟩; first | rfl | (simp; done) | (simp; omega))

set_option maxRecDepth 100000 in
theorem lifted (os : Os) (started : os.Started) (H : Type) (enc : TypeId × Value → H) :
    ReturnsInHanded {} Try.checked os 7 .any (Rows.daycountWholeSpec.pre6 enc Try.prog Try.f7 Rows.daycountWholeRow.domain false) (Rows.daycountWholeSpec.post enc Try.prog Try.f7 false true false false) := by
  refine returnsInHanded_of_change (C := Try.checked) own started (by kernel_rfl) Try.func7
    (ChangeSpec.witness6 (enc := enc) (C := Try.checked) false ⟨#[], #[.int .i64 0, .int .i64 0, .int .i64 0, .int .i64 0], []⟩ 8 (by kernel_rfl) (by kernel_rfl) (by kernel_rfl) (by kernel_rfl)) ?_
  intro W base args ds gs before hval0 hW hcnd _
  have hval : ∀ (j : Nat) t v, Try.f7.params[j]? = some t → args[j]? = some v → Value.okWide Try.prog W .any base t v := hval0
  have hW' := hW
  obtain ⟨p, q, hA0, hV, rfl, hfz, hnd⟩ := hW
  have hA : DataW.TrodAll enc Try.prog W 0 (fun _ => true) true Try.f7.params.toList args.toList ds p := hA0
  rw [Try.params7] at hA hval
  obtain ⟨v0, vs0, d0, ds0, p0, q0, hargs, rfl, rfl, h0, r0⟩ := trodAll_cons hA
  obtain ⟨v1, vs1, d1, ds1, p1, q1, rfl, rfl, rfl, h1, r1⟩ := trodAll_cons r0
  obtain ⟨v2, vs2, d2, ds2, p2, q2, rfl, rfl, rfl, h2, r2⟩ := trodAll_cons r1
  obtain ⟨v3, vs3, d3, ds3, p3, q3, rfl, rfl, rfl, h3, r3⟩ := trodAll_cons r2
  obtain ⟨rfl, rfl, rfl⟩ := trodAll_nil r3
  obtain rfl : args = #[v0, v1, v2, v3] := by cases args; simp_all
  obtain ⟨rfl, rfl⟩ := trodVars_none hV
  obtain ⟨a0, rfl, rfl, rfl, w0⟩ := open_int Try.underlying3 (hval 0 3 v0 rfl rfl) h0
  obtain ⟨a1, rfl, rfl, rfl, w1⟩ := open_int Try.underlying3 (hval 1 3 v1 rfl rfl) h1
  obtain ⟨a2, rfl, rfl, rfl, w2⟩ := open_int Try.underlying3 (hval 2 3 v2 rfl rfl) h2
  obtain ⟨a3, rfl, rfl, rfl, w3⟩ := open_int Try.underlying3 (hval 3 3 v3 rfl rfl) h3
  clear hA0 hval0
  have bd0 := bounds_i64 w0
  have bd1 := bounds_i64 w1
  have bd2 := bounds_i64 w2
  have bd3 := bounds_i64 w3
  refine (walk a0 a1 a2 a3 W bd0.1 bd0.2 bd1.1 bd1.2 bd2.1 bd2.2 bd3.1 bd3.2).mono fun e W' ⟨he, bel⟩ => ?_
  subst he
  exact ⟨_, rfl, _, _, _, [], _, [], hW', trodAll_mk1 (shut_bool Try.underlying4 _), (trodAll_cons_mk (shut_int Try.underlying3 w0) (trodAll_cons_mk (shut_int Try.underlying3 w1) (trodAll_cons_mk (shut_int Try.underlying3 w2) (trodAll_cons_mk (shut_int Try.underlying3 w3) trodAll_mk0)))), rfl, bel.frame _, fun h => by cases h⟩

theorem over : Rows.daycountWholeRow.holds Try.pinned (OpenSpec.ofChange Rows.daycountWholeSpec) :=
  OpenClaim.holds_of_wide 7 Try.f7 rfl rfl rfl rfl rfl rfl rfl ⟨rfl, rfl, rfl, rfl, rfl⟩ rfl rfl rfl rfl rfl (by kernel_rfl) Try.func7 (by kernel_rfl)
    (of_decide_eq_true (by kernel_rfl)) (by unfold Func.isWrapper; first | (rw [if_pos (by decide +kernel)]; kernel_rfl) | (rw [if_neg (by decide +kernel)]; exact ⟨rfl, rfl⟩))
    (fun os started H enc _ => lifted os started H enc)

theorem proved : Rows.DaycountWholeSaid := over
#print axioms proved
