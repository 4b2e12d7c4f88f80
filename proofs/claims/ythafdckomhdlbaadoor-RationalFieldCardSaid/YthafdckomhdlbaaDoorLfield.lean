/-
  The rationals of at most 100 bytes are a field under package rational's operations (a tied card: the table of ways lies as the text says).
-/
import Derived.Test.YthafdckomhdlbaaDoorRows
import Derived.Test.YthafdckomhdlbaaDoorRalive
import Derived.Test.YthafdckomhdlbaaDoorShelf
import Derived.HandedShaped
import Derived.Test.YthafdckomhdlbaaDoorCards
import Derived.Test.YthafdckomhdlbaaDoorTie
import Derived.Test.YthafdckomhdlbaaDoorRd1
import Derived.SevenTiedAt
import Derived.ProofKit
import Derived.OpenShut
import Derived.ShutString
namespace Go.Proofs.YthafdckomhdlbaaDoor.lawField
open Go.ChangeShapes Go.WideShapes Go.ChangeAt Go.RowKit
open Go.ChangeMaps (open_string shut_string)

set_option maxRecDepth 100000 in
set_option maxHeartbeats 16000000 in
theorem walk (a b c : ByteArray) (w : World) (hv : HasV w) (hA : Away w) :
    Calls Tryd.prog 4 #[.string a, .string b, .string c] w fun e w' => e = .returned (.bool true) ∧ Below w.heap.size w w' := by
  have AL := Lib.hid (ralive_any w hv hA)
  have HV := Lib.hid hv
  clear hv hA
  have FT := Lib.hid (fun W v hS => qfits_any 100 v [a, b, c] W hS (by omega) (by simp))
  cases hfit : qfitsB 100 [a, b, c]
  · rw [hfit] at FT
    clear hfit
    go_enter Tryd.func4, Tryd.ntmps4
    go_wp2_with fail
    refine AL.out.mono ?_
    rintro e w1 ⟨rfl, hb1⟩
    go_wp2_with fail
    have hal := (Below.refl w1.heap.size w1).alloc (Nat.le_refl _) (.cells #[.string a, .string b, .string c] 22)
    refine (FT.out _ _ (ss_new w1 [a, b, c] 22 (by simp))).mono ?_
    rintro e w2 ⟨rfl, hb2⟩
    have c2 := hb1.trans ((hal.trans (hb2.mono hal.size)).mono hb1.size)
    clear hb1 hal hb2 AL FT
    go_wp2_with fail
    go_ret
    exact ⟨rfl, c2⟩
  · obtain ⟨x, rfl, hx⟩ := qfits_get hfit (s := a) (by simp) (by omega)
    obtain ⟨y, rfl, hy⟩ := qfits_get hfit (s := b) (by simp) (by omega)
    obtain ⟨z, rfl, hz⟩ := qfits_get hfit (s := c) (by simp) (by omega)
    rw [hfit] at FT
    clear hfit
    obtain ⟨s, hs⟩ : ∃ s, x + y = s := ⟨_, rfl⟩
    obtain ⟨p, hp⟩ : ∃ p, x * y = p := ⟨_, rfl⟩
    obtain ⟨u, hu⟩ : ∃ u, y + z = u := ⟨_, rfl⟩
    obtain ⟨v, hv⟩ : ∃ v, x * z = v := ⟨_, rfl⟩
    obtain ⟨r, hr⟩ : ∃ r, y * z = r := ⟨_, rfl⟩
    obtain ⟨t, ht⟩ : ∃ t, s + z = t := ⟨_, rfl⟩
    obtain ⟨q, hq⟩ : ∃ q, p * z = q := ⟨_, rfl⟩
    obtain ⟨l, hl⟩ : ∃ l, x * u = l := ⟨_, rfl⟩
    have ls : Z.Rt 201 s := by rw [← hs]; exact hx.add hy
    have lp : Z.Rt 200 p := by rw [← hp]; exact hx.mul hy
    have lu : Z.Rt 201 u := by rw [← hu]; exact hy.add hz
    have lv : Z.Rt 200 v := by rw [← hv]; exact hx.mul hz
    have lr : Z.Rt 200 r := by rw [← hr]; exact hy.mul hz
    have lt : Z.Rt 302 t := by rw [← ht]; exact ls.add hz
    have lq : Z.Rt 300 q := by rw [← hq]; exact lp.mul hz
    have ll : Z.Rt 301 l := by rw [← hl]; exact hx.mul lu
    have C1 := Lib.hid (qop_add (qC_add hx hy (by omega) (by omega) (by omega) hs))
    have C2 := Lib.hid (qop_mul (qC_mul hx hy (by omega) (by omega) (by omega) hp))
    have C3 := Lib.hid (qop_add (qC_add (z := s) hy hx (by omega) (by omega) (by omega) (by rw [Rat.add_comm]; exact hs)))
    have C4 := Lib.hid (qop_mul (qC_mul (z := p) hy hx (by omega) (by omega) (by omega) (by rw [Rat.mul_comm]; exact hp)))
    have C5 := Lib.hid (qop_sub (qC_sub (z := x) ls hy (by omega) (by omega) (by omega) (by rw [← hs]; exact Rat.add_sub_cancel)))
    have C6 := Lib.hid (qop_add (qC_add hx Z.rt_zero (by omega) (by omega) (by omega) (Rat.add_zero x)))
    have C7 := Lib.hid (qop_mul (qC_mul hx Z.rt_one (by omega) (by omega) (by omega) (Rat.mul_one x)))
    have C8 := Lib.hid (qop_sub (qC_sub hx hx (by omega) (by omega) (by omega) (Rat.sub_self)))
    have C9 := Lib.hid (qop_add (qC_add ls hz (by omega) (by omega) (by omega) ht))
    have C10 := Lib.hid (qop_mul (qC_mul lp hz (by omega) (by omega) (by omega) hq))
    have C11 := Lib.hid (qop_add (qC_add hy hz (by omega) (by omega) (by omega) hu))
    have C12 := Lib.hid (qop_mul (qC_mul hx lu (by omega) (by omega) (by omega) hl))
    have C13 := Lib.hid (qop_add (qC_add (z := t) hx lu (by omega) (by omega) (by omega) (by rw [← hu, ← ht, ← hs, Rat.add_assoc])))
    have C14 := Lib.hid (qop_mul (qC_mul hy hz (by omega) (by omega) (by omega) hr))
    have C15 := Lib.hid (qop_mul (qC_mul (z := q) hx lr (by omega) (by omega) (by omega) (by rw [← hr, ← hq, ← hp, Rat.mul_assoc])))
    have C16 := Lib.hid (qop_mul (qC_mul hx hz (by omega) (by omega) (by omega) hv))
    have C17 := Lib.hid (qop_add (qC_add (z := l) lp lv (by omega) (by omega) (by omega) (by rw [← hp, ← hv, ← hl, ← hu, Rat.mul_add])))
    rw [Z.Q_zero] at C6 C8
    rw [Z.Q_1] at C7
    have nes := Z.Q_ne s
    have nep := Z.Q_ne p
    have net := Z.Q_ne t
    have neq := Z.Q_ne q
    have nel := Z.Q_ne l
    by_cases h0 : y = 0
    · subst h0
      have D1 := Lib.hid (qC_div0 hx (by omega) (by omega))
      unfold QO QC at *
      clear hs hp hu hv hr ht hq hl ls lp lu lv lr lt lq ll hx hy hz
      rw [Z.Q_zero] at C1 C2 C3 C4 C5 C11 C14 D1 FT ⊢
      generalize Z.Q x = X at *
      generalize Z.Q z = Z' at *
      generalize Z.Q s = S' at *
      generalize Z.Q u = U' at *
      generalize Z.Q v = V' at *
      generalize Z.Q r = R' at *
      generalize Z.Q t = T' at *
      generalize Z.Q q = Q' at *
      generalize Z.Q l = L' at *
      generalize Z.Q p = P' at *
      go_enter Tryd.func4, Tryd.ntmps4
      go_wp2_with fail
      refine AL.out.mono ?_
      rintro e w1 ⟨rfl, hb1⟩
      go_wp2_with fail
      have hal := (Below.refl w1.heap.size w1).alloc (Nat.le_refl _) (.cells #[.string X, .string ⟨#[48]⟩, .string Z'] 22)
      refine (FT.out _ _ (ss_new w1 [X, ⟨#[48]⟩, Z'] 22 (by simp))).mono ?_
      rintro e w2 ⟨rfl, hb2⟩
      have c2 := hb1.trans ((hal.trans (hb2.mono hal.size)).mono hb1.size)
      clear hb1 hal hb2 AL FT
      go_wp2_with fail
      refine (C1.out _ (HV.out.below c2)).mono ?_
      rintro e w3 ⟨rfl, hb3⟩
      have c3 := c2.trans (hb3.mono c2.size)
      clear c2 hb3
      go_wp2_with fail
      refine (C2.out _ (HV.out.below c3)).mono ?_
      rintro e w4 ⟨rfl, hb4⟩
      have c4 := c3.trans (hb4.mono c3.size)
      clear c3 hb4
      go_wp2_with fail
      refine (C3.out _ (HV.out.below c4)).mono ?_
      rintro e w5 ⟨rfl, hb5⟩
      have c5 := c4.trans (hb5.mono c4.size)
      clear c4 hb5
      go_wp2_with fail
      refine (C4.out _ (HV.out.below c5)).mono ?_
      rintro e w6 ⟨rfl, hb6⟩
      have c6 := c5.trans (hb6.mono c5.size)
      clear c5 hb6
      go_wp2_with fail
      refine (C5.out _ (HV.out.below c6)).mono ?_
      rintro e w7 ⟨rfl, hb7⟩
      have c7 := c6.trans (hb7.mono c6.size)
      clear c6 hb7
      go_wp2_with fail
      refine (C6.out _ (HV.out.below c7)).mono ?_
      rintro e w8 ⟨rfl, hb8⟩
      have c8 := c7.trans (hb8.mono c7.size)
      clear c7 hb8
      go_wp2_with fail
      refine (C7.out _ (HV.out.below c8)).mono ?_
      rintro e w9 ⟨rfl, hb9⟩
      have c9 := c8.trans (hb9.mono c8.size)
      clear c8 hb9
      go_wp2_with fail
      refine (C8.out _ (HV.out.below c9)).mono ?_
      rintro e w10 ⟨rfl, hb10⟩
      have c10 := c9.trans (hb10.mono c9.size)
      clear c9 hb10
      go_wp2_with fail
      refine (C9.out _ (HV.out.below c10)).mono ?_
      rintro e w11 ⟨rfl, hb11⟩
      have c11 := c10.trans (hb11.mono c10.size)
      clear c10 hb11
      go_wp2_with fail
      refine (C10.out _ (HV.out.below c11)).mono ?_
      rintro e w12 ⟨rfl, hb12⟩
      have c12 := c11.trans (hb12.mono c11.size)
      clear c11 hb12
      go_wp2_with fail
      refine (C11.out _ (HV.out.below c12)).mono ?_
      rintro e w13 ⟨rfl, hb13⟩
      have c13 := c12.trans (hb13.mono c12.size)
      clear c12 hb13
      go_wp2_with fail
      refine (C12.out _ (HV.out.below c13)).mono ?_
      rintro e w14 ⟨rfl, hb14⟩
      have c14 := c13.trans (hb14.mono c13.size)
      clear c13 hb14
      go_wp2_with fail
      refine (C11.out _ (HV.out.below c14)).mono ?_
      rintro e w15 ⟨rfl, hb15⟩
      have c15 := c14.trans (hb15.mono c14.size)
      clear c14 hb15
      go_wp2_with fail
      refine (C13.out _ (HV.out.below c15)).mono ?_
      rintro e w16 ⟨rfl, hb16⟩
      have c16 := c15.trans (hb16.mono c15.size)
      clear c15 hb16
      go_wp2_with fail
      refine (C14.out _ (HV.out.below c16)).mono ?_
      rintro e w17 ⟨rfl, hb17⟩
      have c17 := c16.trans (hb17.mono c16.size)
      clear c16 hb17
      go_wp2_with fail
      refine (C15.out _ (HV.out.below c17)).mono ?_
      rintro e w18 ⟨rfl, hb18⟩
      have c18 := c17.trans (hb18.mono c17.size)
      clear c17 hb18
      go_wp2_with fail
      refine (C16.out _ (HV.out.below c18)).mono ?_
      rintro e w19 ⟨rfl, hb19⟩
      have c19 := c18.trans (hb19.mono c18.size)
      clear c18 hb19
      go_wp2_with fail
      refine (C17.out _ (HV.out.below c19)).mono ?_
      rintro e w20 ⟨rfl, hb20⟩
      have c20 := c19.trans (hb20.mono c19.size)
      clear c19 hb20
      go_wp2_with fail
      refine (D1.out _ (HV.out.below c20)).mono ?_
      rintro e w21 ⟨rfl, hb21⟩
      have c21 := c20.trans (hb21.mono c20.size)
      clear c20 hb21
      go_wp2_with fail
      go_ret
      refine ⟨ret_bool ?_, c21⟩
      first | rfl | (simp; done) | (simp; omega)
    · obtain ⟨k, hk⟩ : ∃ k, x / y = k := ⟨_, rfl⟩
      have lk : Z.Rt 200 k := by rw [← hk]; exact hx.div hy h0
      have D1 := Lib.hid (qop_div (qC_div (z := x) lp hy h0 (by omega) (by omega) (by omega) (by rw [← hp]; exact Rat.mul_div_cancel h0)))
      have D2 := Lib.hid (qop_div (qC_div hx hy h0 (by omega) (by omega) (by omega) hk))
      have D3 := Lib.hid (qop_mul (qC_mul (z := x) lk hy (by omega) (by omega) (by omega) (by rw [← hk]; exact Rat.div_mul_cancel h0)))
      have D4 := Lib.hid (qop_div (qC_div (z := 1) hy hy h0 (by omega) (by omega) (by omega) (by rw [Rat.div_def]; exact Rat.mul_inv_cancel y h0)))
      have y0 := Z.Q_beq h0
      rw [Z.Q_zero, Lib.toList_data ⟨#[48]⟩] at y0
      change ((Z.Q y).toList == [48]) = false at y0
      rw [Z.Q_1] at D4
      unfold QO at *
      clear h0 hk lk hs hp hu hv hr ht hq hl ls lp lu lv lr lt lq ll hx hy hz
      generalize Z.Q x = X at *
      generalize Z.Q z = Z' at *
      generalize Z.Q s = S' at *
      generalize Z.Q u = U' at *
      generalize Z.Q v = V' at *
      generalize Z.Q r = R' at *
      generalize Z.Q t = T' at *
      generalize Z.Q q = Q' at *
      generalize Z.Q l = L' at *
      generalize Z.Q y = Y at *
      generalize Z.Q p = P' at *
      generalize Z.Q k = K' at *
      go_enter Tryd.func4, Tryd.ntmps4
      go_wp2_with fail
      refine AL.out.mono ?_
      rintro e w1 ⟨rfl, hb1⟩
      go_wp2_with fail
      have hal := (Below.refl w1.heap.size w1).alloc (Nat.le_refl _) (.cells #[.string X, .string Y, .string Z'] 22)
      refine (FT.out _ _ (ss_new w1 [X, Y, Z'] 22 (by simp))).mono ?_
      rintro e w2 ⟨rfl, hb2⟩
      have c2 := hb1.trans ((hal.trans (hb2.mono hal.size)).mono hb1.size)
      clear hb1 hal hb2 AL FT
      go_wp2_with fail
      refine (C1.out _ (HV.out.below c2)).mono ?_
      rintro e w3 ⟨rfl, hb3⟩
      have c3 := c2.trans (hb3.mono c2.size)
      clear c2 hb3
      go_wp2_with fail
      refine (C2.out _ (HV.out.below c3)).mono ?_
      rintro e w4 ⟨rfl, hb4⟩
      have c4 := c3.trans (hb4.mono c3.size)
      clear c3 hb4
      go_wp2_with fail
      refine (C3.out _ (HV.out.below c4)).mono ?_
      rintro e w5 ⟨rfl, hb5⟩
      have c5 := c4.trans (hb5.mono c4.size)
      clear c4 hb5
      go_wp2_with fail
      refine (C4.out _ (HV.out.below c5)).mono ?_
      rintro e w6 ⟨rfl, hb6⟩
      have c6 := c5.trans (hb6.mono c5.size)
      clear c5 hb6
      go_wp2_with fail
      refine (C5.out _ (HV.out.below c6)).mono ?_
      rintro e w7 ⟨rfl, hb7⟩
      have c7 := c6.trans (hb7.mono c6.size)
      clear c6 hb7
      go_wp2_with fail
      refine (C6.out _ (HV.out.below c7)).mono ?_
      rintro e w8 ⟨rfl, hb8⟩
      have c8 := c7.trans (hb8.mono c7.size)
      clear c7 hb8
      go_wp2_with fail
      refine (C7.out _ (HV.out.below c8)).mono ?_
      rintro e w9 ⟨rfl, hb9⟩
      have c9 := c8.trans (hb9.mono c8.size)
      clear c8 hb9
      go_wp2_with fail
      refine (C8.out _ (HV.out.below c9)).mono ?_
      rintro e w10 ⟨rfl, hb10⟩
      have c10 := c9.trans (hb10.mono c9.size)
      clear c9 hb10
      go_wp2_with fail
      refine (C9.out _ (HV.out.below c10)).mono ?_
      rintro e w11 ⟨rfl, hb11⟩
      have c11 := c10.trans (hb11.mono c10.size)
      clear c10 hb11
      go_wp2_with fail
      refine (C10.out _ (HV.out.below c11)).mono ?_
      rintro e w12 ⟨rfl, hb12⟩
      have c12 := c11.trans (hb12.mono c11.size)
      clear c11 hb12
      go_wp2_with fail
      refine (C11.out _ (HV.out.below c12)).mono ?_
      rintro e w13 ⟨rfl, hb13⟩
      have c13 := c12.trans (hb13.mono c12.size)
      clear c12 hb13
      go_wp2_with fail
      refine (C12.out _ (HV.out.below c13)).mono ?_
      rintro e w14 ⟨rfl, hb14⟩
      have c14 := c13.trans (hb14.mono c13.size)
      clear c13 hb14
      go_wp2_with fail
      refine (C11.out _ (HV.out.below c14)).mono ?_
      rintro e w15 ⟨rfl, hb15⟩
      have c15 := c14.trans (hb15.mono c14.size)
      clear c14 hb15
      go_wp2_with fail
      refine (C13.out _ (HV.out.below c15)).mono ?_
      rintro e w16 ⟨rfl, hb16⟩
      have c16 := c15.trans (hb16.mono c15.size)
      clear c15 hb16
      go_wp2_with fail
      refine (C14.out _ (HV.out.below c16)).mono ?_
      rintro e w17 ⟨rfl, hb17⟩
      have c17 := c16.trans (hb17.mono c16.size)
      clear c16 hb17
      go_wp2_with fail
      refine (C15.out _ (HV.out.below c17)).mono ?_
      rintro e w18 ⟨rfl, hb18⟩
      have c18 := c17.trans (hb18.mono c17.size)
      clear c17 hb18
      go_wp2_with fail
      refine (C16.out _ (HV.out.below c18)).mono ?_
      rintro e w19 ⟨rfl, hb19⟩
      have c19 := c18.trans (hb19.mono c18.size)
      clear c18 hb19
      go_wp2_with fail
      refine (C17.out _ (HV.out.below c19)).mono ?_
      rintro e w20 ⟨rfl, hb20⟩
      have c20 := c19.trans (hb20.mono c19.size)
      clear c19 hb20
      go_wp2_with fail
      refine (D1.out _ (HV.out.below c20)).mono ?_
      rintro e w21 ⟨rfl, hb21⟩
      have c21 := c20.trans (hb21.mono c20.size)
      clear c20 hb21
      go_wp2_with fail
      refine (D2.out _ (HV.out.below c21)).mono ?_
      rintro e w22 ⟨rfl, hb22⟩
      have c22 := c21.trans (hb22.mono c21.size)
      clear c21 hb22
      go_wp2_with fail
      refine (D3.out _ (HV.out.below c22)).mono ?_
      rintro e w23 ⟨rfl, hb23⟩
      have c23 := c22.trans (hb23.mono c22.size)
      clear c22 hb23
      go_wp2_with fail
      refine (D4.out _ (HV.out.below c23)).mono ?_
      rintro e w24 ⟨rfl, hb24⟩
      have c24 := c23.trans (hb24.mono c23.size)
      clear c23 hb24
      go_wp2_with fail
      go_ret
      refine ⟨ret_bool ?_, c24⟩
      first | rfl | (simp; done) | (simp; omega)

set_option maxRecDepth 100000 in
theorem lifted (os : Os) (started : os.Started) (H : Type) (enc : TypeId × Value → H) :
    ReturnsInHanded {} Tryd.checked os 4 .any (fun w args => (Rows.rationalFieldSpec.pre enc Tryd.prog Tryd.f4 [] false w args ∧ laidMetH Tryd.prog laidL w) ∧ sizedMet enc Tryd.prog Tryd.f4 (OpenSpec.ofChange Rows.rationalFieldSpec) false w args) (Rows.rationalFieldSpec.post enc Tryd.prog Tryd.f4 false true false false) := by
  refine door_wrap (C := Tryd.checked) (laid := laidL) own started (by kernel_rfl) Tryd.func4
    (ChangeSpec.witness_shaped (enc := enc) (C := Tryd.checked) (os := os) (X := fun w _ => laidMetH Tryd.prog laidL w) false (World.doorLaid Tryd.prog 600 os) #[.string ByteArray.empty, .string ByteArray.empty, .string ByteArray.empty] 8 rfl (World.shaped_of_RefB (by kernel_rfl) (by kernel_rfl)) (by kernel_rfl) (by kernel_rfl) (by kernel_rfl) (door_met os _)) ?_
  intro W base args ds gs before hval0 hW _ hL hsh
  have hval : ∀ (j : Nat) t v, Tryd.f4.params[j]? = some t → args[j]? = some v → Value.okWide Tryd.prog W .any base t v := hval0
  have hW' := hW
  obtain ⟨p, q, hA0, hV, rfl, hfz, hnd⟩ := hW
  have hA : DataW.TrodAll enc Tryd.prog W 0 (fun _ => true) true Tryd.f4.params.toList args.toList ds p := hA0
  rw [Tryd.params4] at hA hval
  obtain ⟨v0, vs0, d0, ds0, p0, q0, hargs, rfl, rfl, h0, r0⟩ := trodAll_cons hA
  obtain ⟨v1, vs1, d1, ds1, p1, q1, rfl, rfl, rfl, h1, r1⟩ := trodAll_cons r0
  obtain ⟨v2, vs2, d2, ds2, p2, q2, rfl, rfl, rfl, h2, r2⟩ := trodAll_cons r1
  obtain ⟨rfl, rfl, rfl⟩ := trodAll_nil r2
  obtain rfl : args = #[v0, v1, v2] := by cases args; simp_all
  obtain ⟨rfl, rfl⟩ := trodVars_none hV
  obtain ⟨a0, rfl, rfl, rfl, w0⟩ := open_string Tryd.underlying22 (hval 0 22 v0 rfl rfl) h0
  obtain ⟨a1, rfl, rfl, rfl, w1⟩ := open_string Tryd.underlying22 (hval 1 22 v1 rfl rfl) h1
  obtain ⟨a2, rfl, rfl, rfl, w2⟩ := open_string Tryd.underlying22 (hval 2 22 v2 rfl rfl) h2
  clear hA0 hval0
  refine (walk a0 a1 a2 W (Tryd.laysM145.s1_3 W hsh) (of_laid hL)).mono fun e W' ⟨he, bel⟩ => ?_
  subst he
  exact ⟨_, rfl, _, _, _, [], _, [], hW', trodAll_mk1 (shut_bool Tryd.underlying4 _), (trodAll_cons_mk (shut_string Tryd.underlying22 w0) (trodAll_cons_mk (shut_string Tryd.underlying22 w1) (trodAll_cons_mk (shut_string Tryd.underlying22 w2) trodAll_mk0))), rfl, bel.frame _, fun h => by cases h⟩

theorem over : Rows.rationalFieldRow.holds Tryd.pinned (OpenSpec.ofChange Rows.rationalFieldSpec) :=
  OpenClaim.holds_of_wide 4 Tryd.f4 rfl rfl rfl rfl rfl rfl rfl ⟨rfl, rfl, rfl, rfl, rfl⟩ rfl rfl rfl rfl rfl (by kernel_rfl) Tryd.func4 (by kernel_rfl)
    (of_decide_eq_true (by kernel_rfl)) (by unfold Func.isWrapper; first | (rw [if_pos (by decide +kernel)]; kernel_rfl) | (rw [if_neg (by decide +kernel)]; exact ⟨rfl, rfl⟩))
    (fun os started H enc _ => lifted os started H enc)

theorem proved : Rows.RationalFieldCardSaid :=
  Claim7.holds_tied_plain_at .later [] [.funcs] true (true, "a18686d7ce9dac20472b8cafde1c95bf318b18ce38aaf4bc5c3d5f2f05446804") false
    over (fun _ h => by cases h) (by kernel_rfl) (fun _ h => by cases h) rationalField_row_tie rfl ⟨rfl, rfl⟩ (by kernel_rfl) rfl
    (fun f fn hf hfn => by
      obtain rfl : f = 4 := Option.some.inj ((show Tryd.prog.funcNamed "novation/novationlaw02.RationalField" = some 4 by kernel_rfl).symm.trans hf) |>.symm
      obtain rfl : fn = Tryd.f4 := (Option.some.inj (Tryd.func4.symm.trans hfn)).symm
      exact ⟨by kernel_rfl, fun j t ht => by
        rw [Tryd.params4] at ht
        have hm : t ∈ [22, 22, 22] := by simpa using Array.mem_of_getElem? ht
        have hall : ([22, 22, 22].all fun u => !Tryd.prog.wantsStandIn u) = true := by kernel_rfl
        exact (show Tryd.prog.wantsStandIn t = false by simpa using List.all_eq_true.1 hall t hm)⟩)
    (by kernel_rfl)
#print axioms proved
