/-
  Check, Add, Sub, Mul and Compare of package integer return what the reference returns, whatever two strings; no condition (longer strings than 1,100 bytes: the statement is true by its first line).
-/
import Derived.Test.YtajmdlelpkgppaaRows
import Derived.Test.YtajmdlelpkgppaaRgreat
import Derived.Test.YtajmdlelpkgppaaRops
import Derived.ProofKit
import Derived.OpenShut
import Derived.ShutString
namespace Go.Proofs.Ytajmdlelpkgppaa.lawTells
open Go.ChangeShapes Go.WideShapes Go.ChangeAt Go.RowKit
open Go.ChangeMaps (open_string shut_string)

theorem own : ownKnob Try.prog.godebug = none := by kernel_rfl

theorem any_great {l : List ByteArray} (h : ∀ s ∈ l, s.size ≤ 1100) : (l.any fun s => decide (1100 < s.size)) = false := by
  rw [List.any_eq_false]
  intro s hs
  have := h s hs
  simp; omega
set_option maxRecDepth 100000 in
set_option maxHeartbeats 2000000 in
theorem walk (a b : ByteArray) (w : World) :
    Calls Try.prog 4 #[.string a, .string b] w fun e w' => e = .returned (.bool true) ∧ Below w.heap.size w w' := by
  by_cases hbig : 1100 < a.size ∨ 1100 < b.size
  · have hany : ([a, b].any fun s => decide (1100 < s.size)) = true := by simpa using hbig
    clear hbig
    go_enter Try.func4, Try.ntmps4
    go_wp2_with fail
    have hg := great_any _ [a, b] (w.alloc (.cells #[.string a, .string b] 22)) (ss_new w [a, b] 22 (by simp)) (by simp)
    rw [hany] at hg
    refine hg.mono ?_
    rintro e w1 ⟨rfl, rfl⟩
    clear hg hany
    have hb1 : Below w.heap.size w (w.alloc (.cells #[.string a, .string b] 22)) := (Below.refl _ _).alloc (Nat.le_refl _) _
    go_wp2_with fail
    go_ret
    exact ⟨rfl, hb1⟩
  · have hany : ([a, b].any fun s => decide (1100 < s.size)) = false := any_great (by simp; omega)
    have hma : a.size ≤ 1100 := by omega
    have hmb : b.size ≤ 1100 := by omega
    clear hbig
    have mA : a.size ≤ maxLen := by unfold maxLen; omega
    have mB : b.size ≤ maxLen := by unfold maxLen; omega
    have K1 := Lib.hid (fun W : World => add_any a b W mA mB)
    have L1 := Lib.hid (fun W : World => radd_any a b W (by omega) (by omega))
    have K2 := Lib.hid (fun W : World => sub_any a b W mA mB)
    have L2 := Lib.hid (fun W : World => rsub_any a b W (by omega) (by omega))
    have K3 := Lib.hid (fun W : World => mul_any a b W mA mB)
    have L3 := Lib.hid (fun W : World => rmul_any a b W (by omega) (by omega))
    have K4 := Lib.hid (fun W : World => icompare_any a b W mA mB)
    have L4 := Lib.hid (fun W : World => rcompare_any a b W (by omega) (by omega))
    have K5 := Lib.hid (fun W : World => check_any a W mA)
    have L5 := Lib.hid (fun W : World => rcheck_any a W (by omega))
    unfold OpRet CmpVRet ChkRet at *

    generalize Z.opS (fun x y => x + y) a b = s1 at *
    generalize Z.opE (fun x y => x + y) a b = e1 at *
    generalize Z.opS (fun x y => x + -y) a b = s2 at *
    generalize Z.opE (fun x y => x + -y) a b = e2 at *
    generalize Z.opS (fun x y => x * y) a b = s3 at *
    generalize Z.opE (fun x y => x * y) a b = e3 at *
    generalize Z.cmpV a b = d4 at *
    generalize Z.bothE a b = e4 at *
    generalize Z.chk a.data.toList = e5 at *
    go_enter Try.func4, Try.ntmps4
    go_wp2_with fail
    have hg := great_any _ [a, b] (w.alloc (.cells #[.string a, .string b] 22)) (ss_new w [a, b] 22 (by simp)) (by simp)
    rw [hany] at hg
    refine hg.mono ?_
    rintro e w1 ⟨rfl, rfl⟩
    clear hg hany
    have hb1 : Below w.heap.size w (w.alloc (.cells #[.string a, .string b] 22)) := (Below.refl _ _).alloc (Nat.le_refl _) _
    generalize w.alloc (.cells #[.string a, .string b] 22) = w1 at *
    go_wp2_with fail
    refine (K1.out _).mono ?_
    rintro e w2 ⟨rfl, hb2⟩
    have c2 := hb1.trans (hb2.mono hb1.size)
    clear hb1 hb2
    go_wp2_with fail
    refine (L1.out _).mono ?_
    rintro e w3 ⟨rfl, hb3⟩
    have c3 := c2.trans (hb3.mono c2.size)
    clear c2 hb3
    go_wp2_with fail
    refine (K2.out _).mono ?_
    rintro e w4 ⟨rfl, hb4⟩
    have c4 := c3.trans (hb4.mono c3.size)
    clear c3 hb4
    go_wp2_with fail
    refine (L2.out _).mono ?_
    rintro e w5 ⟨rfl, hb5⟩
    have c5 := c4.trans (hb5.mono c4.size)
    clear c4 hb5
    go_wp2_with fail
    refine (K3.out _).mono ?_
    rintro e w6 ⟨rfl, hb6⟩
    have c6 := c5.trans (hb6.mono c5.size)
    clear c5 hb6
    go_wp2_with fail
    refine (L3.out _).mono ?_
    rintro e w7 ⟨rfl, hb7⟩
    have c7 := c6.trans (hb7.mono c6.size)
    clear c6 hb7
    go_wp2_with fail
    refine (K4.out _).mono ?_
    rintro e w8 ⟨rfl, hb8⟩
    have c8 := c7.trans (hb8.mono c7.size)
    clear c7 hb8
    go_wp2_with fail
    refine (L4.out _).mono ?_
    rintro e w9 ⟨rfl, hb9⟩
    have c9 := c8.trans (hb9.mono c8.size)
    clear c8 hb9
    go_wp2_with fail
    refine (K5.out _).mono ?_
    rintro e w10 ⟨rfl, rfl⟩
    go_wp2_with fail
    refine (L5.out _).mono ?_
    rintro e w11 ⟨rfl, hb11⟩
    have c11 := c9.trans (hb11.mono c9.size)
    go_wp2_with fail
    go_ret
    exact ⟨rfl, c11⟩

set_option maxRecDepth 100000 in
theorem lifted (os : Os) (started : os.Started) (H : Type) (enc : TypeId × Value → H) :
    ReturnsInHanded {} Try.checked os 4 .any (Rows.integerTellsSpec.pre6 enc Try.prog Try.f4 Rows.integerTellsRow.domain false) (Rows.integerTellsSpec.post enc Try.prog Try.f4 false true false false) := by
  refine returnsInHanded_of_change (C := Try.checked) own started (by kernel_rfl) Try.func4
    (ChangeSpec.witness6 (enc := enc) (C := Try.checked) false ⟨#[], #[.string ByteArray.empty, .string ByteArray.empty], []⟩ 8 (by kernel_rfl) (by kernel_rfl) (by kernel_rfl) (by kernel_rfl)) ?_
  intro W base args ds gs before hval0 hW hcnd _
  have hval : ∀ (j : Nat) t v, Try.f4.params[j]? = some t → args[j]? = some v → Value.okWide Try.prog W .any base t v := hval0
  have hW' := hW
  obtain ⟨p, q, hA0, hV, rfl, hfz, hnd⟩ := hW
  have hA : DataW.TrodAll enc Try.prog W 0 (fun _ => true) true Try.f4.params.toList args.toList ds p := hA0
  rw [Try.params4] at hA hval
  obtain ⟨v0, vs0, d0, ds0, p0, q0, hargs, rfl, rfl, h0, r0⟩ := trodAll_cons hA
  obtain ⟨v1, vs1, d1, ds1, p1, q1, rfl, rfl, rfl, h1, r1⟩ := trodAll_cons r0
  obtain ⟨rfl, rfl, rfl⟩ := trodAll_nil r1
  obtain rfl : args = #[v0, v1] := by cases args; simp_all
  obtain ⟨rfl, rfl⟩ := trodVars_none hV
  obtain ⟨a0, rfl, rfl, rfl, w0⟩ := open_string Try.underlying22 (hval 0 22 v0 rfl rfl) h0
  obtain ⟨a1, rfl, rfl, rfl, w1⟩ := open_string Try.underlying22 (hval 1 22 v1 rfl rfl) h1
  clear hA0 hval0
  refine (walk a0 a1 W).mono fun e W' ⟨he, bel⟩ => ?_
  subst he
  exact ⟨_, rfl, _, _, _, [], _, [], hW', trodAll_mk1 (shut_bool Try.underlying4 _), (trodAll_cons_mk (shut_string Try.underlying22 w0) (trodAll_cons_mk (shut_string Try.underlying22 w1) trodAll_mk0)), rfl, bel.frame _, fun h => by cases h⟩

theorem over : Rows.integerTellsRow.holds Try.pinned (OpenSpec.ofChange Rows.integerTellsSpec) :=
  OpenClaim.holds_of_wide 4 Try.f4 rfl rfl rfl rfl rfl rfl rfl ⟨rfl, rfl, rfl, rfl, rfl⟩ rfl rfl rfl rfl rfl (by kernel_rfl) Try.func4 (by kernel_rfl)
    (of_decide_eq_true (by kernel_rfl)) (by unfold Func.isWrapper; first | (rw [if_pos (by decide +kernel)]; kernel_rfl) | (rw [if_neg (by decide +kernel)]; exact ⟨rfl, rfl⟩))
    (fun os started H enc _ => lifted os started H enc)

theorem proved : Rows.IntegerTellsSaid := over
#print axioms proved
