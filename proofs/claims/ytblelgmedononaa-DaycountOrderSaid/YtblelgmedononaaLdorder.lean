/-
  Later ends do not give fewer days, by any rule, and CountBond gives at most one day more than CountThirty.
-/
import Derived.Test.YtblelgmedononaaRows
import Derived.Test.YtblelgmedononaaDgives
import Derived.ProofKit
import Derived.OpenShut
import Derived.ShutString
namespace Go.Proofs.Ytblelgmedononaa.lawOrder
open Go.ChangeShapes Go.WideShapes Go.ChangeAt Go.RowKit
open Go.ChangeMaps (open_string shut_string)

theorem own : ownKnob Try.prog.godebug = none := by kernel_rfl

set_option maxRecDepth 100000 in
set_option maxHeartbeats 16000000 in
theorem walk (rule a b more : Int) (w : World) (h0 : 0 ≤ rule) (h1 : rule ≤ 255) (_ha0 : -9223372036854775808 ≤ a) (_ha1 : a ≤ 9223372036854775807) (_hb0 : -9223372036854775808 ≤ b) (_hb1 : b ≤ 9223372036854775807) (_hm0 : -9223372036854775808 ≤ more) (_hm1 : more ≤ 9223372036854775807) :
    Calls Try.prog 6 #[.int .u8 rule, .int .i64 a, .int .i64 b, .int .i64 more] w fun e w' => e = .returned (.bool true) ∧ Below w.heap.size w w' := by
  have AL := Lib.hid (dalive_any w)
  obtain ⟨t, ht⟩ : ∃ t, wrap64 (b + more) = t := ⟨_, rfl⟩
  have D1 := Lib.hid (fun W : World => days_any rule a b W h0 h1)
  have D2 := Lib.hid (fun W : World => days_any rule a t W h0 h1)
  have D3 := Lib.hid (fun W : World => days_any 2 a b W (by omega) (by omega))
  have D4 := Lib.hid (fun W : World => days_any 4 a b W (by omega) (by omega))
  unfold DaysRet at *
  have hmono : (Z.days rule a b).2 = 0 → (Z.days rule a t).2 = 0 → a ≤ b → b ≤ t → (Z.days rule a b).1 ≤ (Z.days rule a t).1 := fun e1 e2 h1 h2 => by
    obtain ⟨k1, k2, k3⟩ := Z.days_dom.1 e1
    obtain ⟨_, _, k4⟩ := Z.days_dom.1 e2
    rw [days_ruled k1 k2 k3 h1, days_ruled k1 k2 k4 (by omega)]
    exact Z.ruled_mono k2 k3 k4 h1 h2
  have htb : 0 ≤ more → more ≤ 99999 → 0 ≤ b → b ≤ 99999 → t = b + more := fun g1 g2 g3 g4 => by rw [← ht]; unfold wrap64; omega
  cases ia : Z.inR a
  · have e1 : (Z.days rule a b).2 ≠ 0 := fun h => by have := (Z.days_dom.1 h).2.1; rw [ia] at this; cases this
    have e3 : (Z.days 2 a b).2 ≠ 0 := fun h => by have := (Z.days_dom.1 h).2.1; rw [ia] at this; cases this
    have e4 : (Z.days 4 a b).2 ≠ 0 := fun h => by have := (Z.days_dom.1 h).2.1; rw [ia] at this; cases this
    have P1 := Lib.hid (parts_out a · (by have := inR_iff a; rw [ia] at this; simp at this; omega))
    rw [(days_err e1).1, (days_err e1).2] at D1
    rw [(days_err e3).1, (days_err e3).2] at D3
    rw [(days_err e4).1, (days_err e4).2] at D4
    clear e1 e3 e4 hmono htb
    generalize (Z.days rule a t).1 = y at *
    generalize (Z.days rule a t).2 = f at *
    cases ib : Z.inR b
    · have P2 := Lib.hid (parts_out b · (by have := inR_iff b; rw [ib] at this; simp at this; omega))
      clear ia ib
      by_cases hm : more < 0
      · skip
        go_enter Try.func6, Try.ntmps6
        go_wp2_with fail
        refine (AL.out).mono ?_
        rintro e w1 ⟨rfl, hb1⟩
        have c1 := hb1
        clear hb1
        go_wp2_with fail
        refine (D1.out _).mono ?_
        rintro e w2 ⟨rfl, hb2⟩
        have c2 := c1.trans (hb2.mono c1.size)
        clear c1 hb2
        go_wp2_with fail
        refine (D2.out _).mono ?_
        rintro e w3 ⟨rfl, hb3⟩
        have c3 := c2.trans (hb3.mono c2.size)
        clear c2 hb3
        go_wp2_with fail
        refine (D3.out _).mono ?_
        rintro e w4 ⟨rfl, hb4⟩
        have c4 := c3.trans (hb4.mono c3.size)
        clear c3 hb4
        go_wp2_with fail
        refine (D4.out _).mono ?_
        rintro e w5 ⟨rfl, hb5⟩
        have c5 := c4.trans (hb5.mono c4.size)
        clear c4 hb5
        go_wp2_with fail
        refine (P1.out _).mono ?_
        rintro e w6 ⟨rfl, rfl⟩
        go_wp2_with fail
        refine (P2.out _).mono ?_
        rintro e w7 ⟨rfl, rfl⟩
        go_wp2_with fail
        all_goals (go_ret; refine ⟨ret_bool ?_, c5⟩; first | rfl | (simp; done) | (simp; omega))
      by_cases hm : 99999 < more
      · skip
        go_enter Try.func6, Try.ntmps6
        go_wp2_with fail
        refine (AL.out).mono ?_
        rintro e w1 ⟨rfl, hb1⟩
        have c1 := hb1
        clear hb1
        go_wp2_with fail
        refine (D1.out _).mono ?_
        rintro e w2 ⟨rfl, hb2⟩
        have c2 := c1.trans (hb2.mono c1.size)
        clear c1 hb2
        go_wp2_with fail
        refine (D2.out _).mono ?_
        rintro e w3 ⟨rfl, hb3⟩
        have c3 := c2.trans (hb3.mono c2.size)
        clear c2 hb3
        go_wp2_with fail
        refine (D3.out _).mono ?_
        rintro e w4 ⟨rfl, hb4⟩
        have c4 := c3.trans (hb4.mono c3.size)
        clear c3 hb4
        go_wp2_with fail
        refine (D4.out _).mono ?_
        rintro e w5 ⟨rfl, hb5⟩
        have c5 := c4.trans (hb5.mono c4.size)
        clear c4 hb5
        go_wp2_with fail
        refine (P1.out _).mono ?_
        rintro e w6 ⟨rfl, rfl⟩
        go_wp2_with fail
        refine (P2.out _).mono ?_
        rintro e w7 ⟨rfl, rfl⟩
        go_wp2_with fail
        all_goals (go_ret; refine ⟨ret_bool ?_, c5⟩; first | rfl | (simp; done) | (simp; omega))
      have hm0 : 0 ≤ more := by omega
      have hm1 : more ≤ 99999 := by omega
      go_enter Try.func6, Try.ntmps6
      go_wp2_with fail
      refine (AL.out).mono ?_
      rintro e w1 ⟨rfl, hb1⟩
      have c1 := hb1
      clear hb1
      go_wp2_with fail
      refine (D1.out _).mono ?_
      rintro e w2 ⟨rfl, hb2⟩
      have c2 := c1.trans (hb2.mono c1.size)
      clear c1 hb2
      go_wp2_with fail
      refine (D2.out _).mono ?_
      rintro e w3 ⟨rfl, hb3⟩
      have c3 := c2.trans (hb3.mono c2.size)
      clear c2 hb3
      go_wp2_with fail
      refine (D3.out _).mono ?_
      rintro e w4 ⟨rfl, hb4⟩
      have c4 := c3.trans (hb4.mono c3.size)
      clear c3 hb4
      go_wp2_with fail
      refine (D4.out _).mono ?_
      rintro e w5 ⟨rfl, hb5⟩
      have c5 := c4.trans (hb5.mono c4.size)
      clear c4 hb5
      go_wp2_with fail
      refine (P1.out _).mono ?_
      rintro e w6 ⟨rfl, rfl⟩
      go_wp2_with fail
      refine (P2.out _).mono ?_
      rintro e w7 ⟨rfl, rfl⟩
      go_wp2_with fail
      all_goals (go_ret; refine ⟨ret_bool ?_, c5⟩; first | rfl | (simp; done) | (simp; omega))
    · have P2 := Lib.hid (parts_any b · ((inR_iff b).1 ib).1 ((inR_iff b).1 ib).2)
      unfold PartsRet at P2
      clear ia ib
      by_cases hm : more < 0
      · skip
        go_enter Try.func6, Try.ntmps6
        go_wp2_with fail
        refine (AL.out).mono ?_
        rintro e w1 ⟨rfl, hb1⟩
        have c1 := hb1
        clear hb1
        go_wp2_with fail
        refine (D1.out _).mono ?_
        rintro e w2 ⟨rfl, hb2⟩
        have c2 := c1.trans (hb2.mono c1.size)
        clear c1 hb2
        go_wp2_with fail
        refine (D2.out _).mono ?_
        rintro e w3 ⟨rfl, hb3⟩
        have c3 := c2.trans (hb3.mono c2.size)
        clear c2 hb3
        go_wp2_with fail
        refine (D3.out _).mono ?_
        rintro e w4 ⟨rfl, hb4⟩
        have c4 := c3.trans (hb4.mono c3.size)
        clear c3 hb4
        go_wp2_with fail
        refine (D4.out _).mono ?_
        rintro e w5 ⟨rfl, hb5⟩
        have c5 := c4.trans (hb5.mono c4.size)
        clear c4 hb5
        go_wp2_with fail
        refine (P1.out _).mono ?_
        rintro e w6 ⟨rfl, rfl⟩
        go_wp2_with fail
        refine (P2.out _).mono ?_
        rintro e w7 ⟨p1, q1, r1, dB, rfl, hb7⟩
        have dB := Lib.hid dB
        have c7 := c5.trans (hb7.mono c5.size)
        clear c5 hb7
        go_wp2_with fail
        all_goals (go_ret; refine ⟨ret_bool ?_, c7⟩; first | rfl | (simp; done) | (simp; omega))
      by_cases hm : 99999 < more
      · skip
        go_enter Try.func6, Try.ntmps6
        go_wp2_with fail
        refine (AL.out).mono ?_
        rintro e w1 ⟨rfl, hb1⟩
        have c1 := hb1
        clear hb1
        go_wp2_with fail
        refine (D1.out _).mono ?_
        rintro e w2 ⟨rfl, hb2⟩
        have c2 := c1.trans (hb2.mono c1.size)
        clear c1 hb2
        go_wp2_with fail
        refine (D2.out _).mono ?_
        rintro e w3 ⟨rfl, hb3⟩
        have c3 := c2.trans (hb3.mono c2.size)
        clear c2 hb3
        go_wp2_with fail
        refine (D3.out _).mono ?_
        rintro e w4 ⟨rfl, hb4⟩
        have c4 := c3.trans (hb4.mono c3.size)
        clear c3 hb4
        go_wp2_with fail
        refine (D4.out _).mono ?_
        rintro e w5 ⟨rfl, hb5⟩
        have c5 := c4.trans (hb5.mono c4.size)
        clear c4 hb5
        go_wp2_with fail
        refine (P1.out _).mono ?_
        rintro e w6 ⟨rfl, rfl⟩
        go_wp2_with fail
        refine (P2.out _).mono ?_
        rintro e w7 ⟨p1, q1, r1, dB, rfl, hb7⟩
        have dB := Lib.hid dB
        have c7 := c5.trans (hb7.mono c5.size)
        clear c5 hb7
        go_wp2_with fail
        all_goals (go_ret; refine ⟨ret_bool ?_, c7⟩; first | rfl | (simp; done) | (simp; omega))
      have hm0 : 0 ≤ more := by omega
      have hm1 : more ≤ 99999 := by omega
      go_enter Try.func6, Try.ntmps6
      go_wp2_with fail
      refine (AL.out).mono ?_
      rintro e w1 ⟨rfl, hb1⟩
      have c1 := hb1
      clear hb1
      go_wp2_with fail
      refine (D1.out _).mono ?_
      rintro e w2 ⟨rfl, hb2⟩
      have c2 := c1.trans (hb2.mono c1.size)
      clear c1 hb2
      go_wp2_with fail
      refine (D2.out _).mono ?_
      rintro e w3 ⟨rfl, hb3⟩
      have c3 := c2.trans (hb3.mono c2.size)
      clear c2 hb3
      go_wp2_with fail
      refine (D3.out _).mono ?_
      rintro e w4 ⟨rfl, hb4⟩
      have c4 := c3.trans (hb4.mono c3.size)
      clear c3 hb4
      go_wp2_with fail
      refine (D4.out _).mono ?_
      rintro e w5 ⟨rfl, hb5⟩
      have c5 := c4.trans (hb5.mono c4.size)
      clear c4 hb5
      go_wp2_with fail
      refine (P1.out _).mono ?_
      rintro e w6 ⟨rfl, rfl⟩
      go_wp2_with fail
      refine (P2.out _).mono ?_
      rintro e w7 ⟨p1, q1, r1, dB, rfl, hb7⟩
      have dB := Lib.hid dB
      have c7 := c5.trans (hb7.mono c5.size)
      clear c5 hb7
      go_wp2_with fail
      all_goals (go_ret; refine ⟨ret_bool ?_, c7⟩; first | rfl | (simp; done) | (simp; omega))
  · cases ib : Z.inR b
    · have e1 : (Z.days rule a b).2 ≠ 0 := fun h => by have := (Z.days_dom.1 h).2.2; rw [ib] at this; cases this
      have e3 : (Z.days 2 a b).2 ≠ 0 := fun h => by have := (Z.days_dom.1 h).2.2; rw [ib] at this; cases this
      have e4 : (Z.days 4 a b).2 ≠ 0 := fun h => by have := (Z.days_dom.1 h).2.2; rw [ib] at this; cases this
      have P1 := Lib.hid (parts_any a · ((inR_iff a).1 ia).1 ((inR_iff a).1 ia).2)
      have P2 := Lib.hid (parts_out b · (by have := inR_iff b; rw [ib] at this; simp at this; omega))
      unfold PartsRet at P1
      rw [(days_err e1).1, (days_err e1).2] at D1
      rw [(days_err e3).1, (days_err e3).2] at D3
      rw [(days_err e4).1, (days_err e4).2] at D4
      clear e1 e3 e4 hmono htb ia ib
      generalize (Z.days rule a t).1 = y at *
      generalize (Z.days rule a t).2 = f at *
      by_cases hm : more < 0
      · skip
        go_enter Try.func6, Try.ntmps6
        go_wp2_with fail
        refine (AL.out).mono ?_
        rintro e w1 ⟨rfl, hb1⟩
        have c1 := hb1
        clear hb1
        go_wp2_with fail
        refine (D1.out _).mono ?_
        rintro e w2 ⟨rfl, hb2⟩
        have c2 := c1.trans (hb2.mono c1.size)
        clear c1 hb2
        go_wp2_with fail
        refine (D2.out _).mono ?_
        rintro e w3 ⟨rfl, hb3⟩
        have c3 := c2.trans (hb3.mono c2.size)
        clear c2 hb3
        go_wp2_with fail
        refine (D3.out _).mono ?_
        rintro e w4 ⟨rfl, hb4⟩
        have c4 := c3.trans (hb4.mono c3.size)
        clear c3 hb4
        go_wp2_with fail
        refine (D4.out _).mono ?_
        rintro e w5 ⟨rfl, hb5⟩
        have c5 := c4.trans (hb5.mono c4.size)
        clear c4 hb5
        go_wp2_with fail
        refine (P1.out _).mono ?_
        rintro e w6 ⟨y1, m1, d1, dA, rfl, hb6⟩
        have dA := Lib.hid dA
        have c6 := c5.trans (hb6.mono c5.size)
        clear c5 hb6
        go_wp2_with fail
        refine (P2.out _).mono ?_
        rintro e w7 ⟨rfl, rfl⟩
        go_wp2_with fail
        all_goals (go_ret; refine ⟨ret_bool ?_, c6⟩; first | rfl | (simp; done) | (simp; omega))
      by_cases hm : 99999 < more
      · skip
        go_enter Try.func6, Try.ntmps6
        go_wp2_with fail
        refine (AL.out).mono ?_
        rintro e w1 ⟨rfl, hb1⟩
        have c1 := hb1
        clear hb1
        go_wp2_with fail
        refine (D1.out _).mono ?_
        rintro e w2 ⟨rfl, hb2⟩
        have c2 := c1.trans (hb2.mono c1.size)
        clear c1 hb2
        go_wp2_with fail
        refine (D2.out _).mono ?_
        rintro e w3 ⟨rfl, hb3⟩
        have c3 := c2.trans (hb3.mono c2.size)
        clear c2 hb3
        go_wp2_with fail
        refine (D3.out _).mono ?_
        rintro e w4 ⟨rfl, hb4⟩
        have c4 := c3.trans (hb4.mono c3.size)
        clear c3 hb4
        go_wp2_with fail
        refine (D4.out _).mono ?_
        rintro e w5 ⟨rfl, hb5⟩
        have c5 := c4.trans (hb5.mono c4.size)
        clear c4 hb5
        go_wp2_with fail
        refine (P1.out _).mono ?_
        rintro e w6 ⟨y1, m1, d1, dA, rfl, hb6⟩
        have dA := Lib.hid dA
        have c6 := c5.trans (hb6.mono c5.size)
        clear c5 hb6
        go_wp2_with fail
        refine (P2.out _).mono ?_
        rintro e w7 ⟨rfl, rfl⟩
        go_wp2_with fail
        all_goals (go_ret; refine ⟨ret_bool ?_, c6⟩; first | rfl | (simp; done) | (simp; omega))
      have hm0 : 0 ≤ more := by omega
      have hm1 : more ≤ 99999 := by omega
      go_enter Try.func6, Try.ntmps6
      go_wp2_with fail
      refine (AL.out).mono ?_
      rintro e w1 ⟨rfl, hb1⟩
      have c1 := hb1
      clear hb1
      go_wp2_with fail
      refine (D1.out _).mono ?_
      rintro e w2 ⟨rfl, hb2⟩
      have c2 := c1.trans (hb2.mono c1.size)
      clear c1 hb2
      go_wp2_with fail
      refine (D2.out _).mono ?_
      rintro e w3 ⟨rfl, hb3⟩
      have c3 := c2.trans (hb3.mono c2.size)
      clear c2 hb3
      go_wp2_with fail
      refine (D3.out _).mono ?_
      rintro e w4 ⟨rfl, hb4⟩
      have c4 := c3.trans (hb4.mono c3.size)
      clear c3 hb4
      go_wp2_with fail
      refine (D4.out _).mono ?_
      rintro e w5 ⟨rfl, hb5⟩
      have c5 := c4.trans (hb5.mono c4.size)
      clear c4 hb5
      go_wp2_with fail
      refine (P1.out _).mono ?_
      rintro e w6 ⟨y1, m1, d1, dA, rfl, hb6⟩
      have dA := Lib.hid dA
      have c6 := c5.trans (hb6.mono c5.size)
      clear c5 hb6
      go_wp2_with fail
      refine (P2.out _).mono ?_
      rintro e w7 ⟨rfl, rfl⟩
      go_wp2_with fail
      all_goals (go_ret; refine ⟨ret_bool ?_, c6⟩; first | rfl | (simp; done) | (simp; omega))
    · have e3 : (Z.days 2 a b).2 = 0 := Z.days_dom.2 ⟨by omega, ia, ib⟩
      have e4 : (Z.days 4 a b).2 = 0 := Z.days_dom.2 ⟨by omega, ia, ib⟩
      rw [e3] at D3
      rw [e4] at D4
      obtain ⟨g1, g2⟩ := (inR_iff a).1 ia
      obtain ⟨g3, g4⟩ := (inR_iff b).1 ib
      have B3 := (days_ok e3).2.2.2
      have B4 := (days_ok e4).2.2.2
      have P1 := Lib.hid (parts_any a · g1 g2)
      have P2 := Lib.hid (parts_any b · g3 g4)
      unfold PartsRet at P1 P2
      have HB : Hid (a ≤ b → ∀ y m d p q r, Z.Dt a y m d → Z.Dt b p q r → (Z.days 4 a b).1 = (Z.days 2 a b).1 + (if r = 31 ∧ d < 30 then 1 else 0)) := fun hab y m d p q r h k => by
        rw [days_ruled (by omega) ia ib hab, days_ruled (by omega) ia ib hab]
        unfold Z.ruled
        rw [if_neg (by omega), if_pos rfl, if_pos rfl]
        exact Z.bond_eq h k
      have hx : (Z.days rule a b).2 = 0 → (Z.days rule a t).2 = 0 → 0 ≤ more → more ≤ 99999 → a ≤ b → (Z.days rule a b).1 ≤ (Z.days rule a t).1 := fun e1 e2 m0 m1 hab => hmono e1 e2 hab (by rw [htb m0 m1 g3 g4]; omega)
      clear ia ib e3 e4 hmono htb g1 g2 g3 g4
      generalize (Z.days rule a b).1 = x at *
      generalize (Z.days rule a b).2 = e0 at *
      generalize (Z.days rule a t).1 = y at *
      generalize (Z.days rule a t).2 = f0 at *
      generalize (Z.days 2 a b).1 = u at *
      generalize (Z.days 4 a b).1 = v at *
      by_cases hm : more < 0
      · skip
        by_cases hab : b < a
        · clear HB hx
          go_enter Try.func6, Try.ntmps6
          go_wp2_with fail
          refine (AL.out).mono ?_
          rintro e w1 ⟨rfl, hb1⟩
          have c1 := hb1
          clear hb1
          go_wp2_with fail
          refine (D1.out _).mono ?_
          rintro e w2 ⟨rfl, hb2⟩
          have c2 := c1.trans (hb2.mono c1.size)
          clear c1 hb2
          go_wp2_with fail
          refine (D2.out _).mono ?_
          rintro e w3 ⟨rfl, hb3⟩
          have c3 := c2.trans (hb3.mono c2.size)
          clear c2 hb3
          go_wp2_with fail
          refine (D3.out _).mono ?_
          rintro e w4 ⟨rfl, hb4⟩
          have c4 := c3.trans (hb4.mono c3.size)
          clear c3 hb4
          go_wp2_with fail
          refine (D4.out _).mono ?_
          rintro e w5 ⟨rfl, hb5⟩
          have c5 := c4.trans (hb5.mono c4.size)
          clear c4 hb5
          go_wp2_with fail
          refine (P1.out _).mono ?_
          rintro e w6 ⟨y1, m1, d1, dA, rfl, hb6⟩
          have dA := Lib.hid dA
          have c6 := c5.trans (hb6.mono c5.size)
          clear c5 hb6
          go_wp2_with fail
          refine (P2.out _).mono ?_
          rintro e w7 ⟨p1, q1, r1, dB, rfl, hb7⟩
          have dB := Lib.hid dB
          have c7 := c6.trans (hb7.mono c6.size)
          clear c6 hb7
          go_wp2_with fail
          all_goals (go_ret; refine ⟨ret_bool ?_, c7⟩; first | rfl | (simp; done) | (simp; omega))
        · clear hx
          go_enter Try.func6, Try.ntmps6
          go_wp2_with fail
          refine (AL.out).mono ?_
          rintro e w1 ⟨rfl, hb1⟩
          have c1 := hb1
          clear hb1
          go_wp2_with fail
          refine (D1.out _).mono ?_
          rintro e w2 ⟨rfl, hb2⟩
          have c2 := c1.trans (hb2.mono c1.size)
          clear c1 hb2
          go_wp2_with fail
          refine (D2.out _).mono ?_
          rintro e w3 ⟨rfl, hb3⟩
          have c3 := c2.trans (hb3.mono c2.size)
          clear c2 hb3
          go_wp2_with fail
          refine (D3.out _).mono ?_
          rintro e w4 ⟨rfl, hb4⟩
          have c4 := c3.trans (hb4.mono c3.size)
          clear c3 hb4
          go_wp2_with fail
          refine (D4.out _).mono ?_
          rintro e w5 ⟨rfl, hb5⟩
          have c5 := c4.trans (hb5.mono c4.size)
          clear c4 hb5
          go_wp2_with fail
          refine (P1.out _).mono ?_
          rintro e w6 ⟨y1, m1, d1, dA, rfl, hb6⟩
          have dA := Lib.hid dA
          have c6 := c5.trans (hb6.mono c5.size)
          clear c5 hb6
          go_wp2_with fail
          refine (P2.out _).mono ?_
          rintro e w7 ⟨p1, q1, r1, dB, rfl, hb7⟩
          have dB := Lib.hid dB
          have c7 := c6.trans (hb7.mono c6.size)
          clear c6 hb7
          have HB2 := HB.out (by omega) _ _ _ _ _ _ dA.out dB.out
          clear HB
          go_wp2_with fail
          all_goals (go_ret; refine ⟨ret_bool ?_, c7⟩; first | rfl | (simp; done) | (simp; omega) | (split at HB2 <;> simp <;> omega) | (split at HB2 <;> omega))
      by_cases hm' : 99999 < more
      · skip
        by_cases hab : b < a
        · clear HB hx
          go_enter Try.func6, Try.ntmps6
          go_wp2_with fail
          refine (AL.out).mono ?_
          rintro e w1 ⟨rfl, hb1⟩
          have c1 := hb1
          clear hb1
          go_wp2_with fail
          refine (D1.out _).mono ?_
          rintro e w2 ⟨rfl, hb2⟩
          have c2 := c1.trans (hb2.mono c1.size)
          clear c1 hb2
          go_wp2_with fail
          refine (D2.out _).mono ?_
          rintro e w3 ⟨rfl, hb3⟩
          have c3 := c2.trans (hb3.mono c2.size)
          clear c2 hb3
          go_wp2_with fail
          refine (D3.out _).mono ?_
          rintro e w4 ⟨rfl, hb4⟩
          have c4 := c3.trans (hb4.mono c3.size)
          clear c3 hb4
          go_wp2_with fail
          refine (D4.out _).mono ?_
          rintro e w5 ⟨rfl, hb5⟩
          have c5 := c4.trans (hb5.mono c4.size)
          clear c4 hb5
          go_wp2_with fail
          refine (P1.out _).mono ?_
          rintro e w6 ⟨y1, m1, d1, dA, rfl, hb6⟩
          have dA := Lib.hid dA
          have c6 := c5.trans (hb6.mono c5.size)
          clear c5 hb6
          go_wp2_with fail
          refine (P2.out _).mono ?_
          rintro e w7 ⟨p1, q1, r1, dB, rfl, hb7⟩
          have dB := Lib.hid dB
          have c7 := c6.trans (hb7.mono c6.size)
          clear c6 hb7
          go_wp2_with fail
          all_goals (go_ret; refine ⟨ret_bool ?_, c7⟩; first | rfl | (simp; done) | (simp; omega))
        · clear hx
          go_enter Try.func6, Try.ntmps6
          go_wp2_with fail
          refine (AL.out).mono ?_
          rintro e w1 ⟨rfl, hb1⟩
          have c1 := hb1
          clear hb1
          go_wp2_with fail
          refine (D1.out _).mono ?_
          rintro e w2 ⟨rfl, hb2⟩
          have c2 := c1.trans (hb2.mono c1.size)
          clear c1 hb2
          go_wp2_with fail
          refine (D2.out _).mono ?_
          rintro e w3 ⟨rfl, hb3⟩
          have c3 := c2.trans (hb3.mono c2.size)
          clear c2 hb3
          go_wp2_with fail
          refine (D3.out _).mono ?_
          rintro e w4 ⟨rfl, hb4⟩
          have c4 := c3.trans (hb4.mono c3.size)
          clear c3 hb4
          go_wp2_with fail
          refine (D4.out _).mono ?_
          rintro e w5 ⟨rfl, hb5⟩
          have c5 := c4.trans (hb5.mono c4.size)
          clear c4 hb5
          go_wp2_with fail
          refine (P1.out _).mono ?_
          rintro e w6 ⟨y1, m1, d1, dA, rfl, hb6⟩
          have dA := Lib.hid dA
          have c6 := c5.trans (hb6.mono c5.size)
          clear c5 hb6
          go_wp2_with fail
          refine (P2.out _).mono ?_
          rintro e w7 ⟨p1, q1, r1, dB, rfl, hb7⟩
          have dB := Lib.hid dB
          have c7 := c6.trans (hb7.mono c6.size)
          clear c6 hb7
          have HB2 := HB.out (by omega) _ _ _ _ _ _ dA.out dB.out
          clear HB
          go_wp2_with fail
          all_goals (go_ret; refine ⟨ret_bool ?_, c7⟩; first | rfl | (simp; done) | (simp; omega) | (split at HB2 <;> simp <;> omega) | (split at HB2 <;> omega))
      have hm0 : 0 ≤ more := by omega
      have hm1 : more ≤ 99999 := by omega
      by_cases he : e0 = 0
      · subst he
        by_cases hf : f0 = 0
        · subst hf
          by_cases hab : b < a
          · clear HB hx
            go_enter Try.func6, Try.ntmps6
            go_wp2_with fail
            refine (AL.out).mono ?_
            rintro e w1 ⟨rfl, hb1⟩
            have c1 := hb1
            clear hb1
            go_wp2_with fail
            refine (D1.out _).mono ?_
            rintro e w2 ⟨rfl, hb2⟩
            have c2 := c1.trans (hb2.mono c1.size)
            clear c1 hb2
            go_wp2_with fail
            refine (D2.out _).mono ?_
            rintro e w3 ⟨rfl, hb3⟩
            have c3 := c2.trans (hb3.mono c2.size)
            clear c2 hb3
            go_wp2_with fail
            refine (D3.out _).mono ?_
            rintro e w4 ⟨rfl, hb4⟩
            have c4 := c3.trans (hb4.mono c3.size)
            clear c3 hb4
            go_wp2_with fail
            refine (D4.out _).mono ?_
            rintro e w5 ⟨rfl, hb5⟩
            have c5 := c4.trans (hb5.mono c4.size)
            clear c4 hb5
            go_wp2_with fail
            refine (P1.out _).mono ?_
            rintro e w6 ⟨y1, m1, d1, dA, rfl, hb6⟩
            have dA := Lib.hid dA
            have c6 := c5.trans (hb6.mono c5.size)
            clear c5 hb6
            go_wp2_with fail
            refine (P2.out _).mono ?_
            rintro e w7 ⟨p1, q1, r1, dB, rfl, hb7⟩
            have dB := Lib.hid dB
            have c7 := c6.trans (hb7.mono c6.size)
            clear c6 hb7
            go_wp2_with fail
            all_goals (go_ret; refine ⟨ret_bool ?_, c7⟩; first | rfl | (simp; done) | (simp; omega))
          · have hxy : x ≤ y := hx rfl rfl hm0 hm1 (by omega)
            clear hx
            go_enter Try.func6, Try.ntmps6
            go_wp2_with fail
            refine (AL.out).mono ?_
            rintro e w1 ⟨rfl, hb1⟩
            have c1 := hb1
            clear hb1
            go_wp2_with fail
            refine (D1.out _).mono ?_
            rintro e w2 ⟨rfl, hb2⟩
            have c2 := c1.trans (hb2.mono c1.size)
            clear c1 hb2
            go_wp2_with fail
            refine (D2.out _).mono ?_
            rintro e w3 ⟨rfl, hb3⟩
            have c3 := c2.trans (hb3.mono c2.size)
            clear c2 hb3
            go_wp2_with fail
            refine (D3.out _).mono ?_
            rintro e w4 ⟨rfl, hb4⟩
            have c4 := c3.trans (hb4.mono c3.size)
            clear c3 hb4
            go_wp2_with fail
            refine (D4.out _).mono ?_
            rintro e w5 ⟨rfl, hb5⟩
            have c5 := c4.trans (hb5.mono c4.size)
            clear c4 hb5
            go_wp2_with fail
            refine (P1.out _).mono ?_
            rintro e w6 ⟨y1, m1, d1, dA, rfl, hb6⟩
            have dA := Lib.hid dA
            have c6 := c5.trans (hb6.mono c5.size)
            clear c5 hb6
            go_wp2_with fail
            refine (P2.out _).mono ?_
            rintro e w7 ⟨p1, q1, r1, dB, rfl, hb7⟩
            have dB := Lib.hid dB
            have c7 := c6.trans (hb7.mono c6.size)
            clear c6 hb7
            have HB2 := HB.out (by omega) _ _ _ _ _ _ dA.out dB.out
            clear HB
            go_wp2_with fail
            all_goals (go_ret; refine ⟨ret_bool ?_, c7⟩; first | rfl | (simp; done) | (simp; omega) | (split at HB2 <;> simp <;> omega) | (split at HB2 <;> omega))
        · have hf2 : (f0 == 0) = false := by simp [hf]
          by_cases hab : b < a
          · clear HB hx
            go_enter Try.func6, Try.ntmps6
            go_wp2_with fail
            refine (AL.out).mono ?_
            rintro e w1 ⟨rfl, hb1⟩
            have c1 := hb1
            clear hb1
            go_wp2_with fail
            refine (D1.out _).mono ?_
            rintro e w2 ⟨rfl, hb2⟩
            have c2 := c1.trans (hb2.mono c1.size)
            clear c1 hb2
            go_wp2_with fail
            refine (D2.out _).mono ?_
            rintro e w3 ⟨rfl, hb3⟩
            have c3 := c2.trans (hb3.mono c2.size)
            clear c2 hb3
            go_wp2_with fail
            refine (D3.out _).mono ?_
            rintro e w4 ⟨rfl, hb4⟩
            have c4 := c3.trans (hb4.mono c3.size)
            clear c3 hb4
            go_wp2_with fail
            refine (D4.out _).mono ?_
            rintro e w5 ⟨rfl, hb5⟩
            have c5 := c4.trans (hb5.mono c4.size)
            clear c4 hb5
            go_wp2_with fail
            refine (P1.out _).mono ?_
            rintro e w6 ⟨y1, m1, d1, dA, rfl, hb6⟩
            have dA := Lib.hid dA
            have c6 := c5.trans (hb6.mono c5.size)
            clear c5 hb6
            go_wp2_with fail
            refine (P2.out _).mono ?_
            rintro e w7 ⟨p1, q1, r1, dB, rfl, hb7⟩
            have dB := Lib.hid dB
            have c7 := c6.trans (hb7.mono c6.size)
            clear c6 hb7
            go_wp2_with fail
            all_goals (go_ret; refine ⟨ret_bool ?_, c7⟩; first | rfl | (simp; done) | (simp; omega))
          · clear hx
            go_enter Try.func6, Try.ntmps6
            go_wp2_with fail
            refine (AL.out).mono ?_
            rintro e w1 ⟨rfl, hb1⟩
            have c1 := hb1
            clear hb1
            go_wp2_with fail
            refine (D1.out _).mono ?_
            rintro e w2 ⟨rfl, hb2⟩
            have c2 := c1.trans (hb2.mono c1.size)
            clear c1 hb2
            go_wp2_with fail
            refine (D2.out _).mono ?_
            rintro e w3 ⟨rfl, hb3⟩
            have c3 := c2.trans (hb3.mono c2.size)
            clear c2 hb3
            go_wp2_with fail
            refine (D3.out _).mono ?_
            rintro e w4 ⟨rfl, hb4⟩
            have c4 := c3.trans (hb4.mono c3.size)
            clear c3 hb4
            go_wp2_with fail
            refine (D4.out _).mono ?_
            rintro e w5 ⟨rfl, hb5⟩
            have c5 := c4.trans (hb5.mono c4.size)
            clear c4 hb5
            go_wp2_with fail
            refine (P1.out _).mono ?_
            rintro e w6 ⟨y1, m1, d1, dA, rfl, hb6⟩
            have dA := Lib.hid dA
            have c6 := c5.trans (hb6.mono c5.size)
            clear c5 hb6
            go_wp2_with fail
            refine (P2.out _).mono ?_
            rintro e w7 ⟨p1, q1, r1, dB, rfl, hb7⟩
            have dB := Lib.hid dB
            have c7 := c6.trans (hb7.mono c6.size)
            clear c6 hb7
            have HB2 := HB.out (by omega) _ _ _ _ _ _ dA.out dB.out
            clear HB
            go_wp2_with fail
            all_goals (go_ret; refine ⟨ret_bool ?_, c7⟩; first | rfl | (simp; done) | (simp; omega) | (split at HB2 <;> simp <;> omega) | (split at HB2 <;> omega))
      · have he2 : (e0 == 0) = false := by simp [he]
        by_cases hab : b < a
        · clear HB hx
          go_enter Try.func6, Try.ntmps6
          go_wp2_with fail
          refine (AL.out).mono ?_
          rintro e w1 ⟨rfl, hb1⟩
          have c1 := hb1
          clear hb1
          go_wp2_with fail
          refine (D1.out _).mono ?_
          rintro e w2 ⟨rfl, hb2⟩
          have c2 := c1.trans (hb2.mono c1.size)
          clear c1 hb2
          go_wp2_with fail
          refine (D2.out _).mono ?_
          rintro e w3 ⟨rfl, hb3⟩
          have c3 := c2.trans (hb3.mono c2.size)
          clear c2 hb3
          go_wp2_with fail
          refine (D3.out _).mono ?_
          rintro e w4 ⟨rfl, hb4⟩
          have c4 := c3.trans (hb4.mono c3.size)
          clear c3 hb4
          go_wp2_with fail
          refine (D4.out _).mono ?_
          rintro e w5 ⟨rfl, hb5⟩
          have c5 := c4.trans (hb5.mono c4.size)
          clear c4 hb5
          go_wp2_with fail
          refine (P1.out _).mono ?_
          rintro e w6 ⟨y1, m1, d1, dA, rfl, hb6⟩
          have dA := Lib.hid dA
          have c6 := c5.trans (hb6.mono c5.size)
          clear c5 hb6
          go_wp2_with fail
          refine (P2.out _).mono ?_
          rintro e w7 ⟨p1, q1, r1, dB, rfl, hb7⟩
          have dB := Lib.hid dB
          have c7 := c6.trans (hb7.mono c6.size)
          clear c6 hb7
          go_wp2_with fail
          all_goals (go_ret; refine ⟨ret_bool ?_, c7⟩; first | rfl | (simp; done) | (simp; omega))
        · clear hx
          go_enter Try.func6, Try.ntmps6
          go_wp2_with fail
          refine (AL.out).mono ?_
          rintro e w1 ⟨rfl, hb1⟩
          have c1 := hb1
          clear hb1
          go_wp2_with fail
          refine (D1.out _).mono ?_
          rintro e w2 ⟨rfl, hb2⟩
          have c2 := c1.trans (hb2.mono c1.size)
          clear c1 hb2
          go_wp2_with fail
          refine (D2.out _).mono ?_
          rintro e w3 ⟨rfl, hb3⟩
          have c3 := c2.trans (hb3.mono c2.size)
          clear c2 hb3
          go_wp2_with fail
          refine (D3.out _).mono ?_
          rintro e w4 ⟨rfl, hb4⟩
          have c4 := c3.trans (hb4.mono c3.size)
          clear c3 hb4
          go_wp2_with fail
          refine (D4.out _).mono ?_
          rintro e w5 ⟨rfl, hb5⟩
          have c5 := c4.trans (hb5.mono c4.size)
          clear c4 hb5
          go_wp2_with fail
          refine (P1.out _).mono ?_
          rintro e w6 ⟨y1, m1, d1, dA, rfl, hb6⟩
          have dA := Lib.hid dA
          have c6 := c5.trans (hb6.mono c5.size)
          clear c5 hb6
          go_wp2_with fail
          refine (P2.out _).mono ?_
          rintro e w7 ⟨p1, q1, r1, dB, rfl, hb7⟩
          have dB := Lib.hid dB
          have c7 := c6.trans (hb7.mono c6.size)
          clear c6 hb7
          have HB2 := HB.out (by omega) _ _ _ _ _ _ dA.out dB.out
          clear HB
          go_wp2_with fail
          all_goals (go_ret; refine ⟨ret_bool ?_, c7⟩; first | rfl | (simp; done) | (simp; omega) | (split at HB2 <;> simp <;> omega) | (split at HB2 <;> omega))

set_option maxRecDepth 100000 in
theorem lifted (os : Os) (started : os.Started) (H : Type) (enc : TypeId × Value → H) :
    ReturnsInHanded {} Try.checked os 6 .any (Rows.daycountOrderSpec.pre6 enc Try.prog Try.f6 Rows.daycountOrderRow.domain false) (Rows.daycountOrderSpec.post enc Try.prog Try.f6 false true false false) := by
  refine returnsInHanded_of_change (C := Try.checked) own started (by kernel_rfl) Try.func6
    (ChangeSpec.witness6 (enc := enc) (C := Try.checked) false ⟨#[], #[.int .u8 0, .int .i64 0, .int .i64 0, .int .i64 0], []⟩ 8 (by kernel_rfl) (by kernel_rfl) (by kernel_rfl) (by kernel_rfl)) ?_
  intro W base args ds gs before hval0 hW hcnd _
  have hval : ∀ (j : Nat) t v, Try.f6.params[j]? = some t → args[j]? = some v → Value.okWide Try.prog W .any base t v := hval0
  have hW' := hW
  obtain ⟨p, q, hA0, hV, rfl, hfz, hnd⟩ := hW
  have hA : DataW.TrodAll enc Try.prog W 0 (fun _ => true) true Try.f6.params.toList args.toList ds p := hA0
  rw [Try.params6] at hA hval
  obtain ⟨v0, vs0, d0, ds0, p0, q0, hargs, rfl, rfl, h0, r0⟩ := trodAll_cons hA
  obtain ⟨v1, vs1, d1, ds1, p1, q1, rfl, rfl, rfl, h1, r1⟩ := trodAll_cons r0
  obtain ⟨v2, vs2, d2, ds2, p2, q2, rfl, rfl, rfl, h2, r2⟩ := trodAll_cons r1
  obtain ⟨v3, vs3, d3, ds3, p3, q3, rfl, rfl, rfl, h3, r3⟩ := trodAll_cons r2
  obtain ⟨rfl, rfl, rfl⟩ := trodAll_nil r3
  obtain rfl : args = #[v0, v1, v2, v3] := by cases args; simp_all
  obtain ⟨rfl, rfl⟩ := trodVars_none hV
  obtain ⟨a0, rfl, rfl, rfl, w0⟩ := open_int Try.underlying5 (hval 0 5 v0 rfl rfl) h0
  obtain ⟨a1, rfl, rfl, rfl, w1⟩ := open_int Try.underlying3 (hval 1 3 v1 rfl rfl) h1
  obtain ⟨a2, rfl, rfl, rfl, w2⟩ := open_int Try.underlying3 (hval 2 3 v2 rfl rfl) h2
  obtain ⟨a3, rfl, rfl, rfl, w3⟩ := open_int Try.underlying3 (hval 3 3 v3 rfl rfl) h3
  clear hA0 hval0
  have bd0 := bounds_u8 w0
  have bd1 := bounds_i64 w1
  have bd2 := bounds_i64 w2
  have bd3 := bounds_i64 w3
  refine (walk a0 a1 a2 a3 W bd0.1 bd0.2 bd1.1 bd1.2 bd2.1 bd2.2 bd3.1 bd3.2).mono fun e W' ⟨he, bel⟩ => ?_
  subst he
  exact ⟨_, rfl, _, _, _, [], _, [], hW', trodAll_mk1 (shut_bool Try.underlying4 _), (trodAll_cons_mk (shut_int Try.underlying5 w0) (trodAll_cons_mk (shut_int Try.underlying3 w1) (trodAll_cons_mk (shut_int Try.underlying3 w2) (trodAll_cons_mk (shut_int Try.underlying3 w3) trodAll_mk0)))), rfl, bel.frame _, fun h => by cases h⟩

theorem over : Rows.daycountOrderRow.holds Try.pinned (OpenSpec.ofChange Rows.daycountOrderSpec) :=
  OpenClaim.holds_of_wide 6 Try.f6 rfl rfl rfl rfl rfl rfl rfl ⟨rfl, rfl, rfl, rfl, rfl⟩ rfl rfl rfl rfl rfl (by kernel_rfl) Try.func6 (by kernel_rfl)
    (of_decide_eq_true (by kernel_rfl)) (by unfold Func.isWrapper; first | (rw [if_pos (by decide +kernel)]; kernel_rfl) | (rw [if_neg (by decide +kernel)]; exact ⟨rfl, rfl⟩))
    (fun os started H enc _ => lifted os started H enc)

theorem proved : Rows.DaycountOrderSaid := over
#print axioms proved
