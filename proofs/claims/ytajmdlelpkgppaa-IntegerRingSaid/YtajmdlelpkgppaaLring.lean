/-
  Sums and products of package integer are commutative, associative and distributive, 0 and 1 are neutral, and subtracting undoes adding, whatever three strings; no condition (where a string is no canonical integer of at most 300 bytes, the statement is true by its first lines).
-/
import Derived.Test.YtajmdlelpkgppaaRows
import Derived.Test.YtajmdlelpkgppaaIlaw
import Derived.ProofKit
import Derived.OpenShut
import Derived.ShutString
namespace Go.Proofs.Ytajmdlelpkgppaa.lawRing
open Go.ChangeShapes Go.WideShapes Go.ChangeAt Go.RowKit
open Go.ChangeMaps (open_string shut_string)

theorem own : ownKnob Try.prog.godebug = none := by kernel_rfl

set_option maxRecDepth 100000 in
set_option maxHeartbeats 4000000 in
theorem walk (a b c : ByteArray) (w : World) :
    Calls Try.prog 6 #[.string a, .string b, .string c] w fun e w' => e = .returned (.bool true) ∧ Below w.heap.size w w' := by
  have AL := Lib.hid alive_any
  have FT := Lib.hid (fun W v hS => fits_any 300 v [a, b, c] W hS (by omega) (by simp))
  unfold FitsRet at FT
  cases hfit : fitsB 300 [a, b, c]
  · rw [hfit] at FT
    clear hfit
    go_enter Try.func6, Try.ntmps6
    go_wp2_with fail
    refine (AL.out _).mono ?_
    rintro e w1 ⟨rfl, hb1⟩
    go_wp2_with fail
    have hal := (Below.refl w1.heap.size w1).alloc (Nat.le_refl _) (.cells #[.string a, .string b, .string c] 22)
    refine (FT.out _ _ (ss_new w1 [a, b, c] 22 (by simp))).mono ?_
    rintro e w2 ⟨rfl, hb2⟩
    go_wp2_with fail
    go_ret
    exact ⟨rfl, hb1.trans ((hal.trans (hb2.mono hal.size)).mono hb1.size)⟩
  · obtain ⟨x, rfl, hx⟩ := fits_get hfit (s := a) (by simp)
    obtain ⟨y, rfl, hy⟩ := fits_get hfit (s := b) (by simp)
    obtain ⟨z, rfl, hz⟩ := fits_get hfit (s := c) (by simp)
    rw [hfit] at FT
    clear hfit
    obtain ⟨s, hs⟩ : ∃ s, s = x + y := ⟨_, rfl⟩
    obtain ⟨p, hp⟩ : ∃ p, p = x * y := ⟨_, rfl⟩
    obtain ⟨u, hu⟩ : ∃ u, u = y + z := ⟨_, rfl⟩
    obtain ⟨v, hv⟩ : ∃ v, v = x * z := ⟨_, rfl⟩
    obtain ⟨r, hr⟩ : ∃ r, r = y * z := ⟨_, rfl⟩
    obtain ⟨t, ht⟩ : ∃ t, t = s + z := ⟨_, rfl⟩
    obtain ⟨q, hq⟩ : ∃ q, q = p * z := ⟨_, rfl⟩
    obtain ⟨l, hl⟩ : ∃ l, l = x * u := ⟨_, rfl⟩
    have ls : Z.Lt 301 s := by rw [hs]; exact hx.add hy
    have lp : Z.Lt 600 p := by rw [hp]; exact hx.mul hy
    have lu : Z.Lt 301 u := by rw [hu]; exact hy.add hz
    have lv : Z.Lt 600 v := by rw [hv]; exact hx.mul hz
    have lr : Z.Lt 600 r := by rw [hr]; exact hy.mul hz
    have lt : Z.Lt 302 t := by rw [ht]; exact ls.add (hz.mono (by omega))
    have lq : Z.Lt 900 q := by rw [hq]; exact lp.mul hz
    have ll : Z.Lt 601 l := by rw [hl]; exact hx.mul lu
    have C1 := opC_add hx hy ls hs.symm (by omega) (by omega) (by omega) (by omega) (by omega) (by omega)
    have C2 := opC_mul hx hy lp hp.symm (by omega) (by omega) (by omega) (by omega) (by omega) (by omega)
    have C3 := opC_add hy hx ls (by rw [hs, Int.add_comm]) (by omega) (by omega) (by omega) (by omega) (by omega) (by omega)
    have C4 := opC_mul hy hx lp (by rw [hp, Int.mul_comm]) (by omega) (by omega) (by omega) (by omega) (by omega) (by omega)
    have C5 := opC_sub ls hy hx (by omega) (by omega) (by omega) (by omega) (by omega) (by omega) (by omega)
    have C6 := opC_sub hx hx Z.lt_zero (by omega) (by omega) (by omega) (by omega) (by omega) (by omega) (by omega)
    have C7 := opC_add hx Z.lt_zero hx (by omega) (by omega) (by omega) (by omega) (by omega) (by omega) (by omega)
    have C8 := opC_mul hx Z.lt_one hx (by omega) (by omega) (by omega) (by omega) (by omega) (by omega) (by omega)
    have C9 := opC_mul hx Z.lt_zero Z.lt_zero (by omega) (by omega) (by omega) (by omega) (by omega) (by omega) (by omega)
    have C10 := opC_add ls hz lt ht.symm (by omega) (by omega) (by omega) (by omega) (by omega) (by omega)
    have C11 := opC_mul lp hz lq hq.symm (by omega) (by omega) (by omega) (by omega) (by omega) (by omega)
    have C12 := opC_add hy hz lu hu.symm (by omega) (by omega) (by omega) (by omega) (by omega) (by omega)
    have C13 := opC_mul hx lu ll hl.symm (by omega) (by omega) (by omega) (by omega) (by omega) (by omega)
    have C14 := opC_mul hx hz lv hv.symm (by omega) (by omega) (by omega) (by omega) (by omega) (by omega)
    have C15 := opC_add lp lv ll (by rw [hp, hv, hl, hu, Int.mul_add]) (by omega) (by omega) (by omega) (by omega) (by omega) (by omega)
    have C16 := opC_add hx lu lt (by omega) (by omega) (by omega) (by omega) (by omega) (by omega) (by omega)
    have C17 := opC_mul hy hz lr hr.symm (by omega) (by omega) (by omega) (by omega) (by omega) (by omega)
    have C18 := opC_mul hx lr lq (by rw [hr, hq, hp, Int.mul_assoc]) (by omega) (by omega) (by omega) (by omega) (by omega) (by omega)
    rw [Z.S_zero] at C6 C7 C9
    rw [Z.S_one] at C8
    have nes := Z.S_ne s
    have nep := Z.S_ne p
    have net := Z.S_ne t
    have neq := Z.S_ne q
    have nel := Z.S_ne l
    unfold OpStr at *
    clear hs hp hu hv hr ht hq hl ls lp lu lv lr lt lq ll hx hy hz
    generalize Z.S x = X at *
    generalize Z.S y = Y at *
    generalize Z.S z = Z' at *
    generalize Z.S s = S' at *
    generalize Z.S p = P' at *
    generalize Z.S u = U' at *
    generalize Z.S v = V' at *
    generalize Z.S r = R' at *
    generalize Z.S t = T' at *
    generalize Z.S q = Q' at *
    generalize Z.S l = L' at *
    go_enter Try.func6, Try.ntmps6
    go_wp2_with fail
    refine (AL.out _).mono ?_
    rintro e w1 ⟨rfl, hb1⟩
    go_wp2_with fail
    have hal := (Below.refl w1.heap.size w1).alloc (Nat.le_refl _) (.cells #[.string X, .string Y, .string Z'] 22)
    refine (FT.out _ _ (ss_new w1 [X, Y, Z'] 22 (by simp))).mono ?_
    rintro e w2 ⟨rfl, hb2⟩
    have c2 := hb1.trans ((hal.trans (hb2.mono hal.size)).mono hb1.size)
    clear hb1 hal hb2 AL FT
    go_wp2_with fail
    refine (C1.out _).mono ?_
    rintro e w3 ⟨rfl, hb3⟩
    have c3 := c2.trans (hb3.mono c2.size)
    clear c2 hb3
    go_wp2_with fail
    refine (C2.out _).mono ?_
    rintro e w4 ⟨rfl, hb4⟩
    have c4 := c3.trans (hb4.mono c3.size)
    clear c3 hb4
    go_wp2_with fail
    refine (C3.out _).mono ?_
    rintro e w5 ⟨rfl, hb5⟩
    have c5 := c4.trans (hb5.mono c4.size)
    clear c4 hb5
    go_wp2_with fail
    refine (C4.out _).mono ?_
    rintro e w6 ⟨rfl, hb6⟩
    have c6 := c5.trans (hb6.mono c5.size)
    clear c5 hb6
    go_wp2_with fail
    refine (C5.out _).mono ?_
    rintro e w7 ⟨rfl, hb7⟩
    have c7 := c6.trans (hb7.mono c6.size)
    clear c6 hb7
    go_wp2_with fail
    refine (C6.out _).mono ?_
    rintro e w8 ⟨rfl, hb8⟩
    have c8 := c7.trans (hb8.mono c7.size)
    clear c7 hb8
    go_wp2_with fail
    refine (C7.out _).mono ?_
    rintro e w9 ⟨rfl, hb9⟩
    have c9 := c8.trans (hb9.mono c8.size)
    clear c8 hb9
    go_wp2_with fail
    refine (C8.out _).mono ?_
    rintro e w10 ⟨rfl, hb10⟩
    have c10 := c9.trans (hb10.mono c9.size)
    clear c9 hb10
    go_wp2_with fail
    refine (C9.out _).mono ?_
    rintro e w11 ⟨rfl, hb11⟩
    have c11 := c10.trans (hb11.mono c10.size)
    clear c10 hb11
    go_wp2_with fail
    refine (C10.out _).mono ?_
    rintro e w12 ⟨rfl, hb12⟩
    have c12 := c11.trans (hb12.mono c11.size)
    clear c11 hb12
    go_wp2_with fail
    refine (C11.out _).mono ?_
    rintro e w13 ⟨rfl, hb13⟩
    have c13 := c12.trans (hb13.mono c12.size)
    clear c12 hb13
    go_wp2_with fail
    refine (C12.out _).mono ?_
    rintro e w14 ⟨rfl, hb14⟩
    have c14 := c13.trans (hb14.mono c13.size)
    clear c13 hb14
    go_wp2_with fail
    refine (C13.out _).mono ?_
    rintro e w15 ⟨rfl, hb15⟩
    have c15 := c14.trans (hb15.mono c14.size)
    clear c14 hb15
    go_wp2_with fail
    refine (C14.out _).mono ?_
    rintro e w16 ⟨rfl, hb16⟩
    have c16 := c15.trans (hb16.mono c15.size)
    clear c15 hb16
    go_wp2_with fail
    refine (C15.out _).mono ?_
    rintro e w17 ⟨rfl, hb17⟩
    have c17 := c16.trans (hb17.mono c16.size)
    clear c16 hb17
    go_wp2_with fail
    refine (C12.out _).mono ?_
    rintro e w18 ⟨rfl, hb18⟩
    have c18 := c17.trans (hb18.mono c17.size)
    clear c17 hb18
    go_wp2_with fail
    refine (C16.out _).mono ?_
    rintro e w19 ⟨rfl, hb19⟩
    have c19 := c18.trans (hb19.mono c18.size)
    clear c18 hb19
    go_wp2_with fail
    refine (C17.out _).mono ?_
    rintro e w20 ⟨rfl, hb20⟩
    have c20 := c19.trans (hb20.mono c19.size)
    clear c19 hb20
    go_wp2_with fail
    refine (C18.out _).mono ?_
    rintro e w21 ⟨rfl, hb21⟩
    have c21 := c20.trans (hb21.mono c20.size)
    clear c20 hb21
    go_wp2_with fail
    go_ret
    exact ⟨rfl, c21⟩

set_option maxRecDepth 100000 in
theorem lifted (os : Os) (started : os.Started) (H : Type) (enc : TypeId × Value → H) :
    ReturnsInHanded {} Try.checked os 6 .any (Rows.integerRingSpec.pre6 enc Try.prog Try.f6 Rows.integerRingRow.domain false) (Rows.integerRingSpec.post enc Try.prog Try.f6 false true false false) := by
  refine returnsInHanded_of_change (C := Try.checked) own started (by kernel_rfl) Try.func6
    (ChangeSpec.witness6 (enc := enc) (C := Try.checked) false ⟨#[], #[.string ByteArray.empty, .string ByteArray.empty, .string ByteArray.empty], []⟩ 8 (by kernel_rfl) (by kernel_rfl) (by kernel_rfl) (by kernel_rfl)) ?_
  intro W base args ds gs before hval0 hW hcnd _
  have hval : ∀ (j : Nat) t v, Try.f6.params[j]? = some t → args[j]? = some v → Value.okWide Try.prog W .any base t v := hval0
  have hW' := hW
  obtain ⟨p, q, hA0, hV, rfl, hfz, hnd⟩ := hW
  have hA : DataW.TrodAll enc Try.prog W 0 (fun _ => true) true Try.f6.params.toList args.toList ds p := hA0
  rw [Try.params6] at hA hval
  obtain ⟨v0, vs0, d0, ds0, p0, q0, hargs, rfl, rfl, h0, r0⟩ := trodAll_cons hA
  obtain ⟨v1, vs1, d1, ds1, p1, q1, rfl, rfl, rfl, h1, r1⟩ := trodAll_cons r0
  obtain ⟨v2, vs2, d2, ds2, p2, q2, rfl, rfl, rfl, h2, r2⟩ := trodAll_cons r1
  obtain ⟨rfl, rfl, rfl⟩ := trodAll_nil r2
  obtain rfl : args = #[v0, v1, v2] := by cases args; simp_all
  obtain ⟨rfl, rfl⟩ := trodVars_none hV
  obtain ⟨a0, rfl, rfl, rfl, w0⟩ := open_string Try.underlying22 (hval 0 22 v0 rfl rfl) h0
  obtain ⟨a1, rfl, rfl, rfl, w1⟩ := open_string Try.underlying22 (hval 1 22 v1 rfl rfl) h1
  obtain ⟨a2, rfl, rfl, rfl, w2⟩ := open_string Try.underlying22 (hval 2 22 v2 rfl rfl) h2
  clear hA0 hval0
  refine (walk a0 a1 a2 W).mono fun e W' ⟨he, bel⟩ => ?_
  subst he
  exact ⟨_, rfl, _, _, _, [], _, [], hW', trodAll_mk1 (shut_bool Try.underlying4 _), (trodAll_cons_mk (shut_string Try.underlying22 w0) (trodAll_cons_mk (shut_string Try.underlying22 w1) (trodAll_cons_mk (shut_string Try.underlying22 w2) trodAll_mk0))), rfl, bel.frame _, fun h => by cases h⟩

theorem over : Rows.integerRingRow.holds Try.pinned (OpenSpec.ofChange Rows.integerRingSpec) :=
  OpenClaim.holds_of_wide 6 Try.f6 rfl rfl rfl rfl rfl rfl rfl ⟨rfl, rfl, rfl, rfl, rfl⟩ rfl rfl rfl rfl rfl (by kernel_rfl) Try.func6 (by kernel_rfl)
    (of_decide_eq_true (by kernel_rfl)) (by unfold Func.isWrapper; first | (rw [if_pos (by decide +kernel)]; kernel_rfl) | (rw [if_neg (by decide +kernel)]; exact ⟨rfl, rfl⟩))
    (fun os started H enc _ => lifted os started H enc)

theorem proved : Rows.IntegerRingSaid := over
#print axioms proved
