/-
  DivMod and Gcd of package integer return what the reference returns, whatever two strings; no condition (longer strings than 1,100 bytes: the statement is true by its first line).
-/
import Derived.Test.YtajmdlelpkgppaaRows
import Derived.Test.YtajmdlelpkgppaaRgreat
import Derived.Test.YtajmdlelpkgppaaRops
import Derived.ProofKit
import Derived.OpenShut
import Derived.ShutString
namespace Go.Proofs.Ytajmdlelpkgppaa.lawDivides
open Go.ChangeShapes Go.WideShapes Go.ChangeAt Go.RowKit
open Go.ChangeMaps (open_string shut_string)

theorem own : ownKnob Try.prog.godebug = none := by kernel_rfl

theorem any_great {l : List ByteArray} (h : ∀ s ∈ l, s.size ≤ 1100) : (l.any fun s => decide (1100 < s.size)) = false := by
  rw [List.any_eq_false]
  intro s hs
  have := h s hs
  simp; omega
set_option maxRecDepth 100000 in
set_option maxHeartbeats 2000000 in
theorem walk (a b : ByteArray) (w : World) :
    Calls Try.prog 5 #[.string a, .string b] w fun e w' => e = .returned (.bool true) ∧ Below w.heap.size w w' := by
  by_cases hbig : 1100 < a.size ∨ 1100 < b.size
  · have hany : ([a, b].any fun s => decide (1100 < s.size)) = true := by simpa using hbig
    clear hbig
    go_enter Try.func5, Try.ntmps5
    go_wp2_with fail
    have hg := great_any _ [a, b] (w.alloc (.cells #[.string a, .string b] 22)) (ss_new w [a, b] 22 (by simp)) (by simp)
    rw [hany] at hg
    refine hg.mono ?_
    rintro e w1 ⟨rfl, rfl⟩
    clear hg hany
    have hb1 : Below w.heap.size w (w.alloc (.cells #[.string a, .string b] 22)) := (Below.refl _ _).alloc (Nat.le_refl _) _
    go_wp2_with fail
    go_ret
    exact ⟨rfl, hb1⟩
  · have hany : ([a, b].any fun s => decide (1100 < s.size)) = false := any_great (by simp; omega)
    have hma : a.size ≤ 1100 := by omega
    have hmb : b.size ≤ 1100 := by omega
    clear hbig
    have mA : a.size ≤ maxLen := by unfold maxLen; omega
    have mB : b.size ≤ maxLen := by unfold maxLen; omega
    have K1 := Lib.hid (fun W : World => divmod_any a b W mA mB)
    have L1 := Lib.hid (fun W : World => rdivmod_any a b W (by omega) (by omega))
    have K2 := Lib.hid (fun W : World => gcd_any a b W mA mB)
    have L2 := Lib.hid (fun W : World => rgcd_any a b W (by omega) (by omega))
    unfold DmRet GcdRet at *

    generalize Z.divS (fun x y => x / y) a b = s1 at *
    generalize Z.divS (fun x y => x % y) a b = s2 at *
    generalize Z.divE a b = e1 at *
    generalize Z.opS Z.gcdI a b = s3 at *
    generalize Z.bothE a b = e3 at *
    go_enter Try.func5, Try.ntmps5
    go_wp2_with fail
    have hg := great_any _ [a, b] (w.alloc (.cells #[.string a, .string b] 22)) (ss_new w [a, b] 22 (by simp)) (by simp)
    rw [hany] at hg
    refine hg.mono ?_
    rintro e w1 ⟨rfl, rfl⟩
    clear hg hany
    have hb1 : Below w.heap.size w (w.alloc (.cells #[.string a, .string b] 22)) := (Below.refl _ _).alloc (Nat.le_refl _) _
    generalize w.alloc (.cells #[.string a, .string b] 22) = w1 at *
    go_wp2_with fail
    refine (K1.out _).mono ?_
    rintro e w2 ⟨rfl, hb2⟩
    have c2 := hb1.trans (hb2.mono hb1.size)
    clear hb1 hb2
    go_wp2_with fail
    refine (L1.out _).mono ?_
    rintro e w3 ⟨rfl, hb3⟩
    have c3 := c2.trans (hb3.mono c2.size)
    clear c2 hb3
    go_wp2_with fail
    refine (K2.out _).mono ?_
    rintro e w4 ⟨rfl, hb4⟩
    have c4 := c3.trans (hb4.mono c3.size)
    clear c3 hb4
    go_wp2_with fail
    refine (L2.out _).mono ?_
    rintro e w5 ⟨rfl, hb5⟩
    have c5 := c4.trans (hb5.mono c4.size)
    clear c4 hb5
    go_wp2_with fail
    go_ret
    exact ⟨rfl, c5⟩

set_option maxRecDepth 100000 in
theorem lifted (os : Os) (started : os.Started) (H : Type) (enc : TypeId × Value → H) :
    ReturnsInHanded {} Try.checked os 5 .any (Rows.integerDividesSpec.pre6 enc Try.prog Try.f5 Rows.integerDividesRow.domain false) (Rows.integerDividesSpec.post enc Try.prog Try.f5 false true false false) := by
  refine returnsInHanded_of_change (C := Try.checked) own started (by kernel_rfl) Try.func5
    (ChangeSpec.witness6 (enc := enc) (C := Try.checked) false ⟨#[], #[.string ByteArray.empty, .string ByteArray.empty], []⟩ 8 (by kernel_rfl) (by kernel_rfl) (by kernel_rfl) (by kernel_rfl)) ?_
  intro W base args ds gs before hval0 hW hcnd _
  have hval : ∀ (j : Nat) t v, Try.f5.params[j]? = some t → args[j]? = some v → Value.okWide Try.prog W .any base t v := hval0
  have hW' := hW
  obtain ⟨p, q, hA0, hV, rfl, hfz, hnd⟩ := hW
  have hA : DataW.TrodAll enc Try.prog W 0 (fun _ => true) true Try.f5.params.toList args.toList ds p := hA0
  rw [Try.params5] at hA hval
  obtain ⟨v0, vs0, d0, ds0, p0, q0, hargs, rfl, rfl, h0, r0⟩ := trodAll_cons hA
  obtain ⟨v1, vs1, d1, ds1, p1, q1, rfl, rfl, rfl, h1, r1⟩ := trodAll_cons r0
  obtain ⟨rfl, rfl, rfl⟩ := trodAll_nil r1
  obtain rfl : args = #[v0, v1] := by cases args; simp_all
  obtain ⟨rfl, rfl⟩ := trodVars_none hV
  obtain ⟨a0, rfl, rfl, rfl, w0⟩ := open_string Try.underlying22 (hval 0 22 v0 rfl rfl) h0
  obtain ⟨a1, rfl, rfl, rfl, w1⟩ := open_string Try.underlying22 (hval 1 22 v1 rfl rfl) h1
  clear hA0 hval0
  refine (walk a0 a1 W).mono fun e W' ⟨he, bel⟩ => ?_
  subst he
  exact ⟨_, rfl, _, _, _, [], _, [], hW', trodAll_mk1 (shut_bool Try.underlying4 _), (trodAll_cons_mk (shut_string Try.underlying22 w0) (trodAll_cons_mk (shut_string Try.underlying22 w1) trodAll_mk0)), rfl, bel.frame _, fun h => by cases h⟩

theorem over : Rows.integerDividesRow.holds Try.pinned (OpenSpec.ofChange Rows.integerDividesSpec) :=
  OpenClaim.holds_of_wide 5 Try.f5 rfl rfl rfl rfl rfl rfl rfl ⟨rfl, rfl, rfl, rfl, rfl⟩ rfl rfl rfl rfl rfl (by kernel_rfl) Try.func5 (by kernel_rfl)
    (of_decide_eq_true (by kernel_rfl)) (by unfold Func.isWrapper; first | (rw [if_pos (by decide +kernel)]; kernel_rfl) | (rw [if_neg (by decide +kernel)]; exact ⟨rfl, rfl⟩))
    (fun os started H enc _ => lifted os started H enc)

theorem proved : Rows.IntegerDividesSaid := over
#print axioms proved
