/-
  Check, Add, Sub, Mul, Div and Compare of package rational return what the reference returns.
-/
import Derived.Test.YthafdckomhdlbaaRows
import Derived.Test.YthafdckomhdlbaaQ4
import Derived.Test.YthafdckomhdlbaaShelf
import Derived.HandedShaped
import Derived.ProofKit
import Derived.OpenShut
import Derived.ShutString
namespace Go.Proofs.Ythafdckomhdlbaa.lawTells
open Go.ChangeShapes Go.WideShapes Go.ChangeAt Go.RowKit
open Go.ChangeMaps (open_string shut_string)

theorem own : ownKnob Try.prog.godebug = none := by kernel_rfl

theorem any_great2 {l : List ByteArray} (h : ∀ s ∈ l, s.size ≤ 2100) : (l.any fun s => decide (2100 < s.size)) = false := by
  rw [List.any_eq_false]
  intro s hs
  have := h s hs
  simp; omega
set_option maxRecDepth 100000 in
set_option maxHeartbeats 2000000 in
theorem walk1 (a b : ByteArray) (w : World) (hbig : 2100 < a.size ∨ 2100 < b.size) :
    Calls Try.prog 4 #[.string a, .string b] w fun e w' => e = .returned (.bool true) ∧ Below w.heap.size w w' := by
  have G1 := Lib.hid (fun W : World => qgreat_any _ [a, b] (W.alloc (.cells #[.string a, .string b] 23)) (ss_new W [a, b] 23 (by simp)) (by simp))
  have hb1 : Below w.heap.size w (w.alloc (.cells #[.string a, .string b] 23)) := (Below.refl _ _).alloc (Nat.le_refl _) _
  have hany : ([a, b].any fun s => decide (2100 < s.size)) = true := by simpa using hbig
  rw [hany] at G1
  clear hbig hany
  go_enter Try.func4, Try.ntmps4
  go_wp2_with fail
  refine (G1.out _).mono ?_
  rintro e w1 ⟨rfl, rfl⟩
  go_wp2_with fail
  go_ret
  exact ⟨rfl, hb1⟩
set_option maxRecDepth 100000 in
set_option maxHeartbeats 2000000 in
theorem walk2 (a b : ByteArray) (w : World) (hma : a.size ≤ 2100) (hmb : b.size ≤ 2100) (hv : HasV w) :
    Calls Try.prog 4 #[.string a, .string b] w fun e w' => e = .returned (.bool true) ∧ Below w.heap.size w w' := by
  have G1 := Lib.hid (fun W : World => qgreat_any _ [a, b] (W.alloc (.cells #[.string a, .string b] 23)) (ss_new W [a, b] 23 (by simp)) (by simp))
  have hb1 : Below w.heap.size w (w.alloc (.cells #[.string a, .string b] 23)) := (Below.refl _ _).alloc (Nat.le_refl _) _
  have hany : ([a, b].any fun s => decide (2100 < s.size)) = false := any_great2 (by simp; omega)
  rw [hany] at G1
  clear hany
  have mA : a.size ≤ 100000 := by omega
  have mB : b.size ≤ 100000 := by omega
  have K1 := Lib.hid (fun (W : World) (h : HasV W) => qadd_any a b W h mA mB)
  have L1 := Lib.hid (fun W : World => rqadd_any a b W mA mB)
  have K2 := Lib.hid (fun (W : World) (h : HasV W) => qsub_any a b W h mA mB)
  have L2 := Lib.hid (fun W : World => rqsub_any a b W mA mB)
  have K3 := Lib.hid (fun (W : World) (h : HasV W) => qmul_any a b W h mA mB)
  have L3 := Lib.hid (fun W : World => rqmul_any a b W mA mB)
  have K4 := Lib.hid (fun (W : World) (h : HasV W) => qdiv_any a b W h mA mB)
  have L4 := Lib.hid (fun W : World => rqdiv_any a b W mA mB)
  have K5 := Lib.hid (fun (W : World) (h : HasV W) => qcompare_any a b W h mA mB)
  have L5 := Lib.hid (fun W : World => rqcompare_any a b W mA mB)
  have K6 := Lib.hid (fun (W : World) (h : HasV W) => qcheck_any a W h mA)
  have L6 := Lib.hid (fun W : World => rqcheck_any a W mA)
  have HV := Lib.hid hv
  clear mA mB hma hmb hv
  unfold RopRet DivQ CmpQ QchkRet at *
  generalize Z.ropS (Z.lAdd a b) (Z.rq a + Z.rq b) a b = s1 at *
  generalize Z.ropE (Z.lAdd a b) a b = e1 at *
  generalize Z.ropS (Z.lSub a b) (Z.rq a - Z.rq b) a b = s2 at *
  generalize Z.ropE (Z.lSub a b) a b = e2 at *
  generalize Z.ropS (Z.lMul a b) (Z.rq a * Z.rq b) a b = s3 at *
  generalize Z.ropE (Z.lMul a b) a b = e3 at *
  generalize Z.rdivS a b = s4 at *
  generalize Z.rdivE a b = e4 at *
  generalize Z.rcmpV a b = v5 at *
  generalize Z.rcmpE a b = e5 at *
  generalize Z.rchk a = e6 at *
  go_enter Try.func4, Try.ntmps4
  go_wp2_with fail
  refine (G1.out _).mono ?_
  rintro e w1 ⟨rfl, rfl⟩
  clear G1
  generalize w.alloc (.cells #[.string a, .string b] 23) = u0 at *
  have c0 := hb1
  clear hb1
  go_wp2_with fail
  refine (K1.out _ (HV.out.below c0)).mono ?_
  rintro e u1 ⟨rfl, h1⟩
  have c1 := c0.trans (h1.mono c0.size)
  clear h1
  go_wp2_with fail
  refine (L1.out _).mono ?_
  rintro e u2 ⟨rfl, h2⟩
  have c2 := c1.trans (h2.mono c1.size)
  clear h2
  go_wp2_with fail
  refine (K2.out _ (HV.out.below c2)).mono ?_
  rintro e u3 ⟨rfl, h3⟩
  have c3 := c2.trans (h3.mono c2.size)
  clear h3
  go_wp2_with fail
  refine (L2.out _).mono ?_
  rintro e u4 ⟨rfl, h4⟩
  have c4 := c3.trans (h4.mono c3.size)
  clear h4
  go_wp2_with fail
  refine (K6.out _ (HV.out.below c4)).mono ?_
  rintro e u5 ⟨rfl, h5⟩
  have c5 := c4.trans (h5.mono c4.size)
  clear h5
  go_wp2_with fail
  refine (L6.out _).mono ?_
  rintro e u6 ⟨rfl, h6⟩
  have c6 := c5.trans (h6.mono c5.size)
  clear h6
  go_wp2_with fail
  refine (K3.out _ (HV.out.below c6)).mono ?_
  rintro e u7 ⟨rfl, h7⟩
  have c7 := c6.trans (h7.mono c6.size)
  clear h7
  go_wp2_with fail
  refine (L3.out _).mono ?_
  rintro e u8 ⟨rfl, h8⟩
  have c8 := c7.trans (h8.mono c7.size)
  clear h8
  go_wp2_with fail
  refine (K4.out _ (HV.out.below c8)).mono ?_
  rintro e u9 ⟨rfl, h9⟩
  have c9 := c8.trans (h9.mono c8.size)
  clear h9
  go_wp2_with fail
  refine (L4.out _).mono ?_
  rintro e u10 ⟨rfl, h10⟩
  have c10 := c9.trans (h10.mono c9.size)
  clear h10
  go_wp2_with fail
  refine (K5.out _ (HV.out.below c10)).mono ?_
  rintro e u11 ⟨rfl, h11⟩
  have c11 := c10.trans (h11.mono c10.size)
  clear h11
  go_wp2_with fail
  refine (L5.out _).mono ?_
  rintro e u12 ⟨rfl, h12⟩
  have c12 := c11.trans (h12.mono c11.size)
  clear h12
  go_wp2_with fail
  go_ret
  exact ⟨rfl, c12⟩
theorem walk (a b : ByteArray) (w : World) (hv : HasV w) :
    Calls Try.prog 4 #[.string a, .string b] w fun e w' => e = .returned (.bool true) ∧ Below w.heap.size w w' := by
  by_cases h1 : 2100 < a.size ∨ 2100 < b.size
  · exact walk1 a b w h1
  · exact walk2 a b w (by omega) (by omega) hv

set_option maxRecDepth 100000 in
theorem lifted (os : Os) (started : os.Started) (H : Type) (enc : TypeId × Value → H) :
    ReturnsInHanded {} Try.checked os 4 .any (Rows.rationalTellsSpec.pre6 enc Try.prog Try.f4 Rows.rationalTellsRow.domain false) (Rows.rationalTellsSpec.post enc Try.prog Try.f4 false true false false) := by
  refine returnsInHanded_of_change_shaped (C := Try.checked) own started (by kernel_rfl) Try.func4
    (ChangeSpec.witness6 (enc := enc) (C := Try.checked) false ⟨#[], #[.string ByteArray.empty, .string ByteArray.empty], []⟩ 8 (by kernel_rfl) (by kernel_rfl) (by kernel_rfl) (by kernel_rfl)) ?_
  intro W base args ds gs before hval0 hW hcnd _ hsh _
  have hval : ∀ (j : Nat) t v, Try.f4.params[j]? = some t → args[j]? = some v → Value.okWide Try.prog W .any base t v := hval0
  have hW' := hW
  obtain ⟨p, q, hA0, hV, rfl, hfz, hnd⟩ := hW
  have hA : DataW.TrodAll enc Try.prog W 0 (fun _ => true) true Try.f4.params.toList args.toList ds p := hA0
  rw [Try.params4] at hA hval
  obtain ⟨v0, vs0, d0, ds0, p0, q0, hargs, rfl, rfl, h0, r0⟩ := trodAll_cons hA
  obtain ⟨v1, vs1, d1, ds1, p1, q1, rfl, rfl, rfl, h1, r1⟩ := trodAll_cons r0
  obtain ⟨rfl, rfl, rfl⟩ := trodAll_nil r1
  obtain rfl : args = #[v0, v1] := by cases args; simp_all
  obtain ⟨rfl, rfl⟩ := trodVars_none hV
  obtain ⟨a0, rfl, rfl, rfl, w0⟩ := open_string Try.underlying23 (hval 0 23 v0 rfl rfl) h0
  obtain ⟨a1, rfl, rfl, rfl, w1⟩ := open_string Try.underlying23 (hval 1 23 v1 rfl rfl) h1
  clear hA0 hval0
  refine (walk a0 a1 W (Try.laysM145.s1_3 W hsh)).mono fun e W' ⟨he, bel⟩ => ?_
  subst he
  exact ⟨_, rfl, _, _, _, [], _, [], hW', trodAll_mk1 (shut_bool Try.underlying4 _), (trodAll_cons_mk (shut_string Try.underlying23 w0) (trodAll_cons_mk (shut_string Try.underlying23 w1) trodAll_mk0)), rfl, bel.frame _, fun h => by cases h⟩

theorem over : Rows.rationalTellsRow.holds Try.pinned (OpenSpec.ofChange Rows.rationalTellsSpec) :=
  OpenClaim.holds_of_wide 4 Try.f4 rfl rfl rfl rfl rfl rfl rfl ⟨rfl, rfl, rfl, rfl, rfl⟩ rfl rfl rfl rfl rfl (by kernel_rfl) Try.func4 (by kernel_rfl)
    (of_decide_eq_true (by kernel_rfl)) (by unfold Func.isWrapper; first | (rw [if_pos (by decide +kernel)]; kernel_rfl) | (rw [if_neg (by decide +kernel)]; exact ⟨rfl, rfl⟩))
    (fun os started H enc _ => lifted os started H enc)

theorem proved : Rows.RationalTellsSaid := over
#print axioms proved
