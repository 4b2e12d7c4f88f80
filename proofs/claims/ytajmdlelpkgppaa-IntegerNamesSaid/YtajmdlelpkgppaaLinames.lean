/-
  The limits and errors of package integer are as the statement names them; no condition.
-/
import Derived.Test.YtajmdlelpkgppaaRows
import Derived.Test.YtajmdlelpkgppaaInin
import Derived.Test.YtajmdlelpkgppaaIto
import Derived.ProofKit
import Derived.OpenShut
import Derived.ShutString
namespace Go.Proofs.Ytajmdlelpkgppaa.lawNames
open Go.ChangeShapes Go.WideShapes Go.ChangeAt Go.RowKit
open Go.ChangeMaps (open_string shut_string)

theorem own : ownKnob Try.prog.godebug = none := by kernel_rfl

def badForms : List ByteArray := [⟨#[]⟩, ⟨#[45]⟩, ⟨#[45, 48]⟩, ⟨#[48, 48]⟩, ⟨#[48, 49]⟩, ⟨#[45, 48, 49]⟩, ⟨#[43, 49]⟩, ⟨#[49, 32]⟩, ⟨#[32, 49]⟩, ⟨#[49, 46, 48]⟩, ⟨#[49, 101, 51]⟩, ⟨#[45, 45, 49]⟩, ⟨#[0]⟩]
theorem badForms_chk : ∀ s ∈ badForms, Z.chk s.data.toList = 12 ∧ s.size ≤ 100 := by decide +kernel
set_option maxRecDepth 100000 in
set_option maxHeartbeats 8000000 in
theorem walk (w : World) :
    Calls Try.prog 10 #[] w fun e w' => e = .returned (.bool true) ∧ Below w.heap.size w w' := by
  obtain ⟨k, hk⟩ : ∃ k, k = 1000 := ⟨_, rfl⟩
  have K := Z.nines_facts hk
  have cn := Z.chk_nin (n := 1000) (by omega) (by omega)
  have cm := Z.chk_mnin (n := 1000) (by omega) (by omega)
  have cb := Z.chk_nin_big (n := 1001) (by omega)
  have sz1 : (nin 1000).size ≤ maxLen := by rw [Z.nin_size]; unfold maxLen; omega
  have sz2 : (nin 1001).size ≤ maxLen := by rw [Z.nin_size]; unfold maxLen; omega
  have sz3 : (Z.mnin 1000).size ≤ maxLen := by rw [Lib.size_eq, Z.mnin_data]; unfold maxLen; simp
  subst hk
  obtain ⟨k1, k2, k3, k4, k5⟩ := K
  have bx1 : Z.bothE ⟨#[120]⟩ (nin 1001) = 12 := by unfold Z.bothE; rw [if_neg (by decide +kernel)]; decide +kernel
  have bx2 : Z.bothE (nin 1001) ⟨#[120]⟩ = 14 := by unfold Z.bothE; rw [if_neg (by rw [cb]; omega)]; exact cb
  have H1 := Lib.hid (fun W : World => nines_any 1000 W (by omega))
  have H2 := Lib.hid (fun W : World => add_any (nin 1000) ⟨#[49]⟩ W sz1 (by decide))
  have H3 := Lib.hid (fun W : World => sub_any (nin 1000) ⟨#[49]⟩ W sz1 (by decide))
  have H4 := Lib.hid (fun W : World => sub_any (Z.mnin 1000) ⟨#[49]⟩ W sz3 (by decide))
  have H5 := Lib.hid (fun W : World => mul_any (nin 1000) ⟨#[50]⟩ W sz1 (by decide))
  have H6 := Lib.hid (fun W : World => nines_any 1001 W (by omega))
  have H7 := Lib.hid (fun W : World => add_any ⟨#[120]⟩ (nin 1001) W (by decide) sz2)
  have H8 := Lib.hid (fun W : World => add_any (nin 1001) ⟨#[120]⟩ W sz2 (by decide))
  have H9 := Lib.hid (fun W : World => divmod_any ⟨#[49]⟩ ⟨#[48]⟩ W (by decide) (by decide))
  have H10 := Lib.hid (fun W : World => divmod_any ⟨#[48]⟩ ⟨#[48, 48]⟩ W (by decide) (by decide))
  have H11 := Lib.hid (fun W : World => gcd_any ⟨#[48]⟩ ⟨#[48]⟩ W (by decide) (by decide))
  have H12 := Lib.hid (fun W : World => to_any ⟨#[57, 50, 50, 51, 51, 55, 50, 48, 51, 54, 56, 53, 52, 55, 55, 53, 56, 48, 55]⟩ W (by decide))
  have H13 := Lib.hid (fun W : World => to_any ⟨#[45, 57, 50, 50, 51, 51, 55, 50, 48, 51, 54, 56, 53, 52, 55, 55, 53, 56, 48, 56]⟩ W (by decide))
  have H14 := Lib.hid (fun W : World => to_any ⟨#[57, 50, 50, 51, 51, 55, 50, 48, 51, 54, 56, 53, 52, 55, 55, 53, 56, 48, 56]⟩ W (by decide))
  have H15 := Lib.hid (fun W : World => to_any ⟨#[45, 57, 50, 50, 51, 51, 55, 50, 48, 51, 54, 56, 53, 52, 55, 55, 53, 56, 48, 57]⟩ W (by decide))
  have H16 := Lib.hid (fun W : World => icompare_any ⟨#[45, 50]⟩ ⟨#[45, 49, 48]⟩ W (by decide) (by decide))
  have H17 := Lib.hid alive_any
  have H18 := Lib.hid (fun W : World => check_any (nin 1000) W sz1)
  have H19 := Lib.hid (fun W : World => check_any (Z.mnin 1000) W sz3)
  have H20 := Lib.hid (fun W : World => check_any (nin 1001) W sz2)
  have H21 := Lib.hid (fun W : World => of_any (-9223372036854775808) W (by omega) (by omega))
  have H22 := Lib.hid (fun W : World => of_any 0 W (by omega) (by omega))
  unfold StrIs OpRet DmRet GcdRet ToRet CmpVRet StrRet at *
  rw [k1] at H2
  rw [k2] at H3
  rw [k4] at H4
  rw [k5] at H5
  unfold Z.opE at H7 H8
  rw [bx1, if_neg (by omega)] at H7
  rw [bx2, if_neg (by omega)] at H8
  rw [show Z.divE ⟨#[49]⟩ ⟨#[48]⟩ = 16 from by decide +kernel] at H9
  rw [show Z.divE ⟨#[48]⟩ ⟨#[48, 48]⟩ = 12 from by decide +kernel] at H10
  rw [show Z.opS Z.gcdI ⟨#[48]⟩ ⟨#[48]⟩ = ⟨#[48]⟩ from by decide +kernel, show Z.bothE ⟨#[48]⟩ ⟨#[48]⟩ = 0 from by decide +kernel] at H11
  rw [show Z.toV (⟨#[57, 50, 50, 51, 51, 55, 50, 48, 51, 54, 56, 53, 52, 55, 55, 53, 56, 48, 55]⟩ : ByteArray).data.toList = 9223372036854775807 from by decide +kernel, show Z.toE (⟨#[57, 50, 50, 51, 51, 55, 50, 48, 51, 54, 56, 53, 52, 55, 55, 53, 56, 48, 55]⟩ : ByteArray).data.toList = 0 from by decide +kernel] at H12
  rw [show Z.toV (⟨#[45, 57, 50, 50, 51, 51, 55, 50, 48, 51, 54, 56, 53, 52, 55, 55, 53, 56, 48, 56]⟩ : ByteArray).data.toList = -9223372036854775808 from by decide +kernel, show Z.toE (⟨#[45, 57, 50, 50, 51, 51, 55, 50, 48, 51, 54, 56, 53, 52, 55, 55, 53, 56, 48, 56]⟩ : ByteArray).data.toList = 0 from by decide +kernel] at H13
  rw [show Z.toE (⟨#[57, 50, 50, 51, 51, 55, 50, 48, 51, 54, 56, 53, 52, 55, 55, 53, 56, 48, 56]⟩ : ByteArray).data.toList = 14 from by decide +kernel] at H14
  rw [show Z.toE (⟨#[45, 57, 50, 50, 51, 51, 55, 50, 48, 51, 54, 56, 53, 52, 55, 55, 53, 56, 48, 57]⟩ : ByteArray).data.toList = 14 from by decide +kernel] at H15
  rw [show Z.cmpV ⟨#[45, 50]⟩ ⟨#[45, 49, 48]⟩ = 1 from by decide +kernel, show Z.bothE ⟨#[45, 50]⟩ ⟨#[45, 49, 48]⟩ = 0 from by decide +kernel] at H16
  rw [cn] at H18
  rw [cm] at H19
  rw [cb] at H20
  rw [show (⟨(Z.txt (-9223372036854775808)).toArray⟩ : ByteArray) = ⟨#[45, 57, 50, 50, 51, 51, 55, 50, 48, 51, 54, 56, 53, 52, 55, 55, 53, 56, 48, 56]⟩ from by decide +kernel] at H21
  rw [show (⟨(Z.txt 0).toArray⟩ : ByteArray) = ⟨#[48]⟩ from by decide +kernel] at H22
  have hm : Hid ((⟨#[45]⟩ : ByteArray) ++ nin 1000 = Z.mnin 1000) := rfl
  generalize Z.opS (fun x y => x + y) (nin 1000) ⟨#[49]⟩ = s2 at *
  generalize Z.opS (fun x y => x + -y) (nin 1000) ⟨#[49]⟩ = s3 at *
  generalize Z.opS (fun x y => x + -y) (Z.mnin 1000) ⟨#[49]⟩ = s4 at *
  generalize Z.opS (fun x y => x * y) (nin 1000) ⟨#[50]⟩ = s5 at *
  generalize Z.opS (fun x y => x + y) ⟨#[120]⟩ (nin 1001) = s7 at *
  generalize Z.opS (fun x y => x + y) (nin 1001) ⟨#[120]⟩ = s8 at *
  generalize Z.divS (fun x y => x / y) ⟨#[49]⟩ ⟨#[48]⟩ = s9 at *
  generalize Z.divS (fun x y => x % y) ⟨#[49]⟩ ⟨#[48]⟩ = t9 at *
  generalize Z.divS (fun x y => x / y) ⟨#[48]⟩ ⟨#[48, 48]⟩ = s10 at *
  generalize Z.divS (fun x y => x % y) ⟨#[48]⟩ ⟨#[48, 48]⟩ = t10 at *
  generalize Z.toV (⟨#[57, 50, 50, 51, 51, 55, 50, 48, 51, 54, 56, 53, 52, 55, 55, 53, 56, 48, 56]⟩ : ByteArray).data.toList = v14 at *
  generalize Z.toV (⟨#[45, 57, 50, 50, 51, 51, 55, 50, 48, 51, 54, 56, 53, 52, 55, 55, 53, 56, 48, 57]⟩ : ByteArray).data.toList = v15 at *
  clear k1 k2 k4 k5 cn cm cb sz1 sz2 sz3 bx1 bx2
  have hN : (nin 1000).size ≤ 1000 := by rw [Z.nin_size]; omega
  generalize Z.mnin 1000 = M at *
  generalize nin 1000 = N at *
  generalize nin 1001 = N1 at *
  have SSN := fun W : World => ss_new W badForms 22 (by decide)
  have HSN : Hid (∀ W : World, SS (W.alloc (.cells #[.string ⟨#[]⟩, .string ⟨#[45]⟩, .string ⟨#[45, 48]⟩, .string ⟨#[48, 48]⟩, .string ⟨#[48, 49]⟩, .string ⟨#[45, 48, 49]⟩, .string ⟨#[43, 49]⟩, .string ⟨#[49, 32]⟩, .string ⟨#[32, 49]⟩, .string ⟨#[49, 46, 48]⟩, .string ⟨#[49, 101, 51]⟩, .string ⟨#[45, 45, 49]⟩, .string ⟨#[0]⟩] 22)) (.slice (some ⟨W.heap.size, 0, none⟩) 13 13) badForms) := SSN
  clear SSN
  go_enter Try.func10, Try.ntmps10
  go_wp2_with fail
  have hb0 : Below w.heap.size w (w.alloc (.cells #[.string ⟨#[]⟩, .string ⟨#[45]⟩, .string ⟨#[45, 48]⟩, .string ⟨#[48, 48]⟩, .string ⟨#[48, 49]⟩, .string ⟨#[45, 48, 49]⟩, .string ⟨#[43, 49]⟩, .string ⟨#[49, 32]⟩, .string ⟨#[32, 49]⟩, .string ⟨#[49, 46, 48]⟩, .string ⟨#[49, 101, 51]⟩, .string ⟨#[45, 45, 49]⟩, .string ⟨#[0]⟩] 22)) := (Below.refl _ _).alloc (Nat.le_refl _) _
  have hss := HSN.out w
  generalize w.alloc (.cells #[.string ⟨#[]⟩, .string ⟨#[45]⟩, .string ⟨#[45, 48]⟩, .string ⟨#[48, 48]⟩, .string ⟨#[48, 49]⟩, .string ⟨#[45, 48, 49]⟩, .string ⟨#[43, 49]⟩, .string ⟨#[49, 32]⟩, .string ⟨#[32, 49]⟩, .string ⟨#[49, 46, 48]⟩, .string ⟨#[49, 101, 51]⟩, .string ⟨#[45, 45, 49]⟩, .string ⟨#[0]⟩] 22) = w0 at *
  obtain ⟨A0, c0, hv0, _, _, hcell⟩ := hss
  obtain ⟨g, o, rfl, hg, hcl⟩ := hcell (by decide)
  have hA : (⟨w.heap.size, 0, none⟩ : Addr) = ⟨g, o, none⟩ := by
    simp only [Value.slice.injEq, Option.some.injEq] at hv0
    exact hv0.1
  simp only [Addr.mk.injEq, and_true] at hA
  obtain ⟨rfl, rfl⟩ := hA
  have HCL := Lib.hid hcl
  clear hcl hcell hv0 HSN
  go_loop [37] (fun iv => ∃ j : Nat, j ≤ 13 ∧ iv = .int .i64 j) (fun iv => 13 - (intOf iv).toNat)
  case atStart => exact ⟨0, by omega, rfl⟩
  case round =>
    obtain ⟨j, hj, rfl⟩ := hrel
    by_cases hlt : j < 13
    · obtain ⟨s, hs⟩ : ∃ s, badForms[j]? = some s := ⟨_, List.getElem?_eq_getElem (show j < badForms.length from hlt)⟩
      have hr := HCL.out j s hs
      have hck := badForms_chk s (List.mem_of_getElem? hs)
      have C := Lib.hid (check_any s w0 (by unfold maxLen; omega))
      rw [hck.1] at C
      clear hs hck
      rw [Nat.zero_add] at hr
      go_wp2_with fail
      refine C.out.mono ?_
      rintro e w' ⟨rfl, rfl⟩
      go_wp2_with fail
      go_round
      case rel => exact ⟨j + 1, by omega, by go_num⟩
      case measure => (simp [intOf]) <;> omega
    · obtain rfl : j = 13 := by omega
      go_wp2_with fail
      refine (H1.out _).mono ?_
      rintro e w1 ⟨rfl, hb1⟩
      have c1 := hb0.trans (hb1.mono hb0.size)
      clear hb0 hb1
      go_wp2_with fail
      refine (H2.out _).mono ?_
      rintro e w2 ⟨rfl, hb2⟩
      have c2 := c1.trans (hb2.mono c1.size)
      clear c1 hb2
      go_wp2_with fail
      refine (H3.out _).mono ?_
      rintro e w3 ⟨rfl, hb3⟩
      have c3 := c2.trans (hb3.mono c2.size)
      clear c2 hb3
      go_wp2_with fail
      rw [hm.out]
      refine (H4.out _).mono ?_
      rintro e w4 ⟨rfl, hb4⟩
      have c4 := c3.trans (hb4.mono c3.size)
      clear c3 hb4
      go_wp2_with fail
      refine (H5.out _).mono ?_
      rintro e w5 ⟨rfl, hb5⟩
      have c5 := c4.trans (hb5.mono c4.size)
      clear c4 hb5
      go_wp2_with fail
      refine (H6.out _).mono ?_
      rintro e w6 ⟨rfl, hb6⟩
      have c6 := c5.trans (hb6.mono c5.size)
      clear c5 hb6
      go_wp2_with fail
      refine (H7.out _).mono ?_
      rintro e w7 ⟨rfl, hb7⟩
      have c7 := c6.trans (hb7.mono c6.size)
      clear c6 hb7
      go_wp2_with fail
      refine (H6.out _).mono ?_
      rintro e w8 ⟨rfl, hb8⟩
      have c8 := c7.trans (hb8.mono c7.size)
      clear c7 hb8
      go_wp2_with fail
      refine (H8.out _).mono ?_
      rintro e w9 ⟨rfl, hb9⟩
      have c9 := c8.trans (hb9.mono c8.size)
      clear c8 hb9
      go_wp2_with fail
      refine (H9.out _).mono ?_
      rintro e w10 ⟨rfl, hb10⟩
      have c10 := c9.trans (hb10.mono c9.size)
      clear c9 hb10
      go_wp2_with fail
      refine (H10.out _).mono ?_
      rintro e w11 ⟨rfl, hb11⟩
      have c11 := c10.trans (hb11.mono c10.size)
      clear c10 hb11
      go_wp2_with fail
      refine (H11.out _).mono ?_
      rintro e w12 ⟨rfl, hb12⟩
      have c12 := c11.trans (hb12.mono c11.size)
      clear c11 hb12
      go_wp2_with fail
      refine (H12.out _).mono ?_
      rintro e w13 ⟨rfl, hb13⟩
      have c13 := c12.trans (hb13.mono c12.size)
      clear c12 hb13
      go_wp2_with fail
      refine (H13.out _).mono ?_
      rintro e w14 ⟨rfl, hb14⟩
      have c14 := c13.trans (hb14.mono c13.size)
      clear c13 hb14
      go_wp2_with fail
      refine (H14.out _).mono ?_
      rintro e w15 ⟨rfl, hb15⟩
      have c15 := c14.trans (hb15.mono c14.size)
      clear c14 hb15
      go_wp2_with fail
      refine (H15.out _).mono ?_
      rintro e w16 ⟨rfl, hb16⟩
      have c16 := c15.trans (hb16.mono c15.size)
      clear c15 hb16
      go_wp2_with fail
      refine (H16.out _).mono ?_
      rintro e w17 ⟨rfl, hb17⟩
      have c17 := c16.trans (hb17.mono c16.size)
      clear c16 hb17
      go_wp2_with fail
      refine (H17.out _).mono ?_
      rintro e w18 ⟨rfl, hb18⟩
      have c18 := c17.trans (hb18.mono c17.size)
      clear c17 hb18
      go_wp2_with fail
      refine (H18.out _).mono ?_
      rintro e w19 ⟨rfl, rfl⟩
      go_wp2_with fail
      rw [hm.out]
      refine (H19.out _).mono ?_
      rintro e w20 ⟨rfl, rfl⟩
      go_wp2_with fail
      refine (H6.out _).mono ?_
      rintro e w21 ⟨rfl, hb21⟩
      have c21 := c18.trans (hb21.mono c18.size)
      clear c18 hb21
      go_wp2_with fail
      refine (H20.out _).mono ?_
      rintro e w22 ⟨rfl, rfl⟩
      go_wp2_with fail
      refine (H21.out _).mono ?_
      rintro e w23 ⟨rfl, hb23⟩
      have c23 := c21.trans (hb23.mono c21.size)
      clear c21 hb23
      go_wp2_with fail
      refine (H22.out _).mono ?_
      rintro e w24 ⟨rfl, hb24⟩
      have c24 := c23.trans (hb24.mono c23.size)
      clear c23 hb24
      go_wp2_with fail
      go_ret
      exact ⟨rfl, c24⟩

set_option maxRecDepth 100000 in
theorem lifted (os : Os) (started : os.Started) (H : Type) (enc : TypeId × Value → H) :
    ReturnsInHanded {} Try.checked os 10 .any (Rows.integerNamesSpec.pre6 enc Try.prog Try.f10 Rows.integerNamesRow.domain false) (Rows.integerNamesSpec.post enc Try.prog Try.f10 false true false false) := by
  refine returnsInHanded_of_change (C := Try.checked) own started (by kernel_rfl) Try.func10
    (ChangeSpec.witness6 (enc := enc) (C := Try.checked) false ⟨#[], #[], []⟩ 8 (by kernel_rfl) (by kernel_rfl) (by kernel_rfl) (by kernel_rfl)) ?_
  intro W base args ds gs before hval0 hW hcnd _
  have hval : ∀ (j : Nat) t v, Try.f10.params[j]? = some t → args[j]? = some v → Value.okWide Try.prog W .any base t v := hval0
  have hW' := hW
  obtain ⟨p, q, hA0, hV, rfl, hfz, hnd⟩ := hW
  have hA : DataW.TrodAll enc Try.prog W 0 (fun _ => true) true Try.f10.params.toList args.toList ds p := hA0
  rw [Try.params10] at hA hval
  obtain ⟨hargs, rfl, rfl⟩ := trodAll_nil hA
  obtain rfl : args = #[] := by cases args; simp_all
  obtain ⟨rfl, rfl⟩ := trodVars_none hV
  clear hA0 hval0
  simp only [List.append_nil] at hW'
  refine (walk W).mono fun e W' ⟨he, bel⟩ => ?_
  subst he
  exact ⟨_, rfl, _, _, _, [], _, [], hW', trodAll_mk1 (shut_bool Try.underlying4 _), trodAll_mk0, rfl, bel.frame _, fun h => by cases h⟩

theorem over : Rows.integerNamesRow.holds Try.pinned (OpenSpec.ofChange Rows.integerNamesSpec) :=
  OpenClaim.holds_of_wide 10 Try.f10 rfl rfl rfl rfl rfl rfl rfl ⟨rfl, rfl, rfl, rfl, rfl⟩ rfl rfl rfl rfl rfl (by kernel_rfl) Try.func10 (by kernel_rfl)
    (of_decide_eq_true (by kernel_rfl)) (by unfold Func.isWrapper; first | (rw [if_pos (by decide +kernel)]; kernel_rfl) | (rw [if_neg (by decide +kernel)]; exact ⟨rfl, rfl⟩))
    (fun os started H enc _ => lifted os started H enc)

theorem proved : Rows.IntegerNamesSaid := over
#print axioms proved
