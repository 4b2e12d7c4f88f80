/-
  Make, Ratio, Of and Parts of package rational return what the reference returns.
-/
import Derived.Test.YthafdckomhdlbaaRows
import Derived.Test.YthafdckomhdlbaaQt
import Derived.Test.YthafdckomhdlbaaQgreat
import Derived.Test.YthafdckomhdlbaaShelf
import Derived.HandedShaped
import Derived.ProofKit
import Derived.OpenShut
import Derived.ShutString
namespace Go.Proofs.Ythafdckomhdlbaa.lawMakes
open Go.ChangeShapes Go.WideShapes Go.ChangeAt Go.RowKit
open Go.ChangeMaps (open_string shut_string)

theorem own : ownKnob Try.prog.godebug = none := by kernel_rfl

theorem any_great1 {l : List ByteArray} (h : ∀ s ∈ l, s.size ≤ 1100) : (l.any fun s => decide (1100 < s.size)) = false := by
  rw [List.any_eq_false]
  intro s hs
  have := h s hs
  simp; omega
theorem any_great2 {l : List ByteArray} (h : ∀ s ∈ l, s.size ≤ 2100) : (l.any fun s => decide (2100 < s.size)) = false := by
  rw [List.any_eq_false]
  intro s hs
  have := h s hs
  simp; omega
def PartC (a x y : ByteArray) (k : Int) : Prop := ∀ W : World, HasV W → Calls Try.prog 12 #[.string a] W fun e w' => e = .returned (.tuple #[.string x, .string y, .int .i64 k]) ∧ Below W.heap.size W w'
def FourC (a b x y u v : ByteArray) (k : Int) : Prop := ∀ W : World, Calls Try.prog 13 #[.string a, .string b] W fun e w' => e = .returned (.tuple #[.string x, .string y, .string u, .string v, .int .i64 k]) ∧ Below W.heap.size W w'
theorem four_parts (a : ByteArray) (ha : a.size ≤ 100000) : ∃ x y u v k, PartC a x y k ∧ FourC a ⟨#[48]⟩ x y u v k := by
  have h0 : Z.rchk ⟨#[48]⟩ = 0 := by decide +kernel
  have hz : (⟨#[48]⟩ : ByteArray).size ≤ 100000 := by decide
  have hb : Z.rbothE a ⟨#[48]⟩ = Z.rchk a := by
    unfold Z.rbothE; split
    · rename_i h; rw [h, h0]
    · rfl
  by_cases h : Z.rchk a = 0
  · exact ⟨_, _, _, _, _, fun W hv => parts_ok a W hv ha h, fun W => four_ok a _ W ha hz (hb.trans h)⟩
  · refine ⟨_, _, ⟨#[]⟩, ⟨#[]⟩, _, fun W hv => parts_bad a W hv ha h, fun W => ?_⟩
    have := four_bad a ⟨#[48]⟩ W ha hz (by rw [hb]; exact h)
    rw [hb] at this
    exact this
set_option maxRecDepth 100000 in
set_option maxHeartbeats 2000000 in
theorem walk1 (n d a : ByteArray) (x y : Int) (w : World) (hbig : 1100 < n.size ∨ 1100 < d.size) :
    Calls Try.prog 3 #[.string n, .string d, .string a, .int .i64 x, .int .i64 y] w fun e w' => e = .returned (.bool true) ∧ Below w.heap.size w w' := by
  have G1 := Lib.hid (fun W : World => great_any _ [n, d] (W.alloc (.cells #[.string n, .string d] 22)) (ss_new W [n, d] 22 (by simp)) (by simp))
  have hb1 : Below w.heap.size w (w.alloc (.cells #[.string n, .string d] 22)) := (Below.refl _ _).alloc (Nat.le_refl _) _
  have hany : ([n, d].any fun s => decide (1100 < s.size)) = true := by simpa using hbig
  rw [hany] at G1
  clear hbig hany
  go_enter Try.func3, Try.ntmps3
  go_wp2_with fail
  refine (G1.out _).mono ?_
  rintro e w1 ⟨rfl, rfl⟩
  go_wp2_with fail
  go_ret
  exact ⟨rfl, hb1⟩
set_option maxRecDepth 100000 in
set_option maxHeartbeats 2000000 in
theorem walk2 (n d a : ByteArray) (x y : Int) (w : World) (hmn : n.size ≤ 1100) (hmd : d.size ≤ 1100) (hbig : 2100 < a.size) :
    Calls Try.prog 3 #[.string n, .string d, .string a, .int .i64 x, .int .i64 y] w fun e w' => e = .returned (.bool true) ∧ Below w.heap.size w w' := by
  have G1 := Lib.hid (fun W : World => great_any _ [n, d] (W.alloc (.cells #[.string n, .string d] 22)) (ss_new W [n, d] 22 (by simp)) (by simp))
  have hb1 : Below w.heap.size w (w.alloc (.cells #[.string n, .string d] 22)) := (Below.refl _ _).alloc (Nat.le_refl _) _
  have G2 := Lib.hid (fun W : World => qgreat_any _ [a] (W.alloc (.cells #[.string a] 23)) (ss_new W [a] 23 (by simp)) (by simp))
  have hany : ([n, d].any fun s => decide (1100 < s.size)) = false := any_great1 (by simp; omega)
  rw [hany] at G1
  clear hany
  have hany : ([a].any fun s => decide (2100 < s.size)) = true := by simpa using hbig
  rw [hany] at G2
  clear hbig hany
  go_enter Try.func3, Try.ntmps3
  go_wp2_with fail
  refine (G1.out _).mono ?_
  rintro e w2 ⟨rfl, rfl⟩
  generalize w.alloc (.cells #[.string n, .string d] 22) = w1 at *
  go_wp2_with fail
  refine (G2.out _).mono ?_
  rintro e w3 ⟨rfl, rfl⟩
  go_wp2_with fail
  go_ret
  exact ⟨rfl, hb1.alloc hb1.size _⟩
set_option maxRecDepth 100000 in
set_option maxHeartbeats 2000000 in
theorem walk3 (n d a : ByteArray) (x y : Int) (w : World) (hx0 : -9223372036854775808 ≤ x) (hx1 : x ≤ 9223372036854775807) (hy0 : -9223372036854775808 ≤ y) (hy1 : y ≤ 9223372036854775807) (hmn : n.size ≤ 1100) (hmd : d.size ≤ 1100) (hma0 : a.size ≤ 2100) (hv : HasV w) :
    Calls Try.prog 3 #[.string n, .string d, .string a, .int .i64 x, .int .i64 y] w fun e w' => e = .returned (.bool true) ∧ Below w.heap.size w w' := by
  have G1 := Lib.hid (fun W : World => great_any _ [n, d] (W.alloc (.cells #[.string n, .string d] 22)) (ss_new W [n, d] 22 (by simp)) (by simp))
  have hb1 : Below w.heap.size w (w.alloc (.cells #[.string n, .string d] 22)) := (Below.refl _ _).alloc (Nat.le_refl _) _
  have G2 := Lib.hid (fun W : World => qgreat_any _ [a] (W.alloc (.cells #[.string a] 23)) (ss_new W [a] 23 (by simp)) (by simp))
  have hany : ([n, d].any fun s => decide (1100 < s.size)) = false := any_great1 (by simp; omega)
  rw [hany] at G1
  clear hany
  have hany : ([a].any fun s => decide (2100 < s.size)) = false := any_great2 (by simp; omega)
  rw [hany] at G2
  have hma : a.size ≤ 100000 := by omega
  clear hany hma0
  obtain ⟨px, py, pu, pv, pk, PP, FF⟩ := four_parts a hma
  have PP := Lib.hid PP
  have FF := Lib.hid FF
  have lx := Z.txt_length x 19 (by omega)
  have ly := Z.txt_length y 19 (by omega)
  have sx : (Z.S x).size ≤ 1000000 := by rw [Z.S_size]; omega
  have sy : (Z.S y).size ≤ 1000000 := by rw [Z.S_size]; omega
  have K1 := Lib.hid (fun W : World => make_any n d W (by unfold maxLen; omega) (by unfold maxLen; omega))
  have K2 := Lib.hid (fun W : World => rmake_any n d W (by omega) (by omega))
  have K3 := Lib.hid (fun W : World => ratio_any x y W hx0 hx1 hy0 hy1)
  have K4 : Hid (∀ W : World, Calls Try.prog 11 #[.int .i64 x] W fun e w' => e = .returned (.string (Z.S x)) ∧ Below W.heap.size W w') := Lib.hid (fun W => rof_any x W hx0 hx1)
  have K5 : Hid (∀ W : World, Calls Try.prog 11 #[.int .i64 y] W fun e w' => e = .returned (.string (Z.S y)) ∧ Below W.heap.size W w') := Lib.hid (fun W => rof_any y W hy0 hy1)
  have K6 := Lib.hid (fun W : World => rmake_any (Z.S x) (Z.S y) W sx sy)
  have K7 : Hid (∀ W : World, Calls Try.prog 14 #[.int .i64 x] W fun e w' => e = .returned (.string (Z.S x)) ∧ Below W.heap.size W w') := Lib.hid (fun W => qof_any x W hx0 hx1)
  have HV := Lib.hid hv
  unfold MakeRet at *
  unfold PartC at PP
  unfold FourC at FF
  clear lx ly sx sy hmn hmd hma hv
  generalize Z.makeS n d = s1 at *
  generalize Z.makeE n d = e1 at *
  generalize Z.makeS (Z.S x) (Z.S y) = s2 at *
  generalize Z.makeE (Z.S x) (Z.S y) = e2 at *
  generalize Z.S x = tx at *
  generalize Z.S y = ty at *
  go_enter Try.func3, Try.ntmps3
  go_wp2_with fail
  refine (G1.out _).mono ?_
  rintro e w2 ⟨rfl, rfl⟩
  generalize w.alloc (.cells #[.string n, .string d] 22) = w1 at *
  have hb2 : Below w.heap.size w (w1.alloc (.cells #[.string a] 23)) := hb1.alloc hb1.size _
  go_wp2_with fail
  refine (G2.out _).mono ?_
  rintro e w3 ⟨rfl, rfl⟩
  generalize w1.alloc (.cells #[.string a] 23) = u0 at *
  have c0 := hb2
  clear hb1 hb2
  go_wp2_with fail
  refine (K1.out _).mono ?_
  rintro e u1 ⟨rfl, h1⟩
  have c1 := c0.trans (h1.mono c0.size)
  clear h1
  go_wp2_with fail
  refine (K2.out _).mono ?_
  rintro e u2 ⟨rfl, h2⟩
  have c2 := c1.trans (h2.mono c1.size)
  clear h2
  go_wp2_with fail
  refine (K3.out _).mono ?_
  rintro e u3 ⟨rfl, h3⟩
  have c3 := c2.trans (h3.mono c2.size)
  clear h3
  go_wp2_with fail
  refine (K4.out _).mono ?_
  rintro e u4 ⟨rfl, h4⟩
  have c4 := c3.trans (h4.mono c3.size)
  clear h4
  go_wp2_with fail
  refine (K5.out _).mono ?_
  rintro e u5 ⟨rfl, h5⟩
  have c5 := c4.trans (h5.mono c4.size)
  clear h5
  go_wp2_with fail
  refine (K6.out _).mono ?_
  rintro e u6 ⟨rfl, h6⟩
  have c6 := c5.trans (h6.mono c5.size)
  clear h6
  go_wp2_with fail
  refine (PP.out _ (HV.out.below c6)).mono ?_
  rintro e u7 ⟨rfl, h7⟩
  have c7 := c6.trans (h7.mono c6.size)
  clear h7
  go_wp2_with fail
  refine (FF.out _).mono ?_
  rintro e u8 ⟨rfl, h8⟩
  have c8 := c7.trans (h8.mono c7.size)
  clear h8
  go_wp2_with fail
  refine (K7.out _).mono ?_
  rintro e u9 ⟨rfl, h9⟩
  have c9 := c8.trans (h9.mono c8.size)
  clear h9
  go_wp2_with fail
  refine (K4.out _).mono ?_
  rintro e u10 ⟨rfl, h10⟩
  have c10 := c9.trans (h10.mono c9.size)
  clear h10
  go_wp2_with fail
  go_ret
  exact ⟨rfl, c10⟩
theorem walk (n d a : ByteArray) (x y : Int) (w : World) (hx0 : -9223372036854775808 ≤ x) (hx1 : x ≤ 9223372036854775807) (hy0 : -9223372036854775808 ≤ y) (hy1 : y ≤ 9223372036854775807) (hv : HasV w) :
    Calls Try.prog 3 #[.string n, .string d, .string a, .int .i64 x, .int .i64 y] w fun e w' => e = .returned (.bool true) ∧ Below w.heap.size w w' := by
  by_cases h1 : 1100 < n.size ∨ 1100 < d.size
  · exact walk1 n d a x y w h1
  · by_cases h2 : 2100 < a.size
    · exact walk2 n d a x y w (by omega) (by omega) h2
    · exact walk3 n d a x y w hx0 hx1 hy0 hy1 (by omega) (by omega) (by omega) hv


set_option maxRecDepth 100000 in
theorem lifted (os : Os) (started : os.Started) (H : Type) (enc : TypeId × Value → H) :
    ReturnsInHanded {} Try.checked os 3 .any (Rows.rationalMakesSpec.pre6 enc Try.prog Try.f3 Rows.rationalMakesRow.domain false) (Rows.rationalMakesSpec.post enc Try.prog Try.f3 false true false false) := by
  refine returnsInHanded_of_change_shaped (C := Try.checked) own started (by kernel_rfl) Try.func3
    (ChangeSpec.witness6 (enc := enc) (C := Try.checked) false ⟨#[], #[.string ByteArray.empty, .string ByteArray.empty, .string ByteArray.empty, .int .i64 0, .int .i64 0], []⟩ 8 (by kernel_rfl) (by kernel_rfl) (by kernel_rfl) (by kernel_rfl)) ?_
  intro W base args ds gs before hval0 hW hcnd _ hsh _
  have hval : ∀ (j : Nat) t v, Try.f3.params[j]? = some t → args[j]? = some v → Value.okWide Try.prog W .any base t v := hval0
  have hW' := hW
  obtain ⟨p, q, hA0, hV, rfl, hfz, hnd⟩ := hW
  have hA : DataW.TrodAll enc Try.prog W 0 (fun _ => true) true Try.f3.params.toList args.toList ds p := hA0
  rw [Try.params3] at hA hval
  obtain ⟨v0, vs0, d0, ds0, p0, q0, hargs, rfl, rfl, h0, r0⟩ := trodAll_cons hA
  obtain ⟨v1, vs1, d1, ds1, p1, q1, rfl, rfl, rfl, h1, r1⟩ := trodAll_cons r0
  obtain ⟨v2, vs2, d2, ds2, p2, q2, rfl, rfl, rfl, h2, r2⟩ := trodAll_cons r1
  obtain ⟨v3, vs3, d3, ds3, p3, q3, rfl, rfl, rfl, h3, r3⟩ := trodAll_cons r2
  obtain ⟨v4, vs4, d4, ds4, p4, q4, rfl, rfl, rfl, h4, r4⟩ := trodAll_cons r3
  obtain ⟨rfl, rfl, rfl⟩ := trodAll_nil r4
  obtain rfl : args = #[v0, v1, v2, v3, v4] := by cases args; simp_all
  obtain ⟨rfl, rfl⟩ := trodVars_none hV
  obtain ⟨a0, rfl, rfl, rfl, w0⟩ := open_string Try.underlying22 (hval 0 22 v0 rfl rfl) h0
  obtain ⟨a1, rfl, rfl, rfl, w1⟩ := open_string Try.underlying22 (hval 1 22 v1 rfl rfl) h1
  obtain ⟨a2, rfl, rfl, rfl, w2⟩ := open_string Try.underlying23 (hval 2 23 v2 rfl rfl) h2
  obtain ⟨a3, rfl, rfl, rfl, w3⟩ := open_int Try.underlying3 (hval 3 3 v3 rfl rfl) h3
  obtain ⟨a4, rfl, rfl, rfl, w4⟩ := open_int Try.underlying3 (hval 4 3 v4 rfl rfl) h4
  clear hA0 hval0
  have bd3 := bounds_i64 w3
  have bd4 := bounds_i64 w4
  refine (walk a0 a1 a2 a3 a4 W bd3.1 bd3.2 bd4.1 bd4.2 (Try.laysM145.s1_3 W hsh)).mono fun e W' ⟨he, bel⟩ => ?_
  subst he
  exact ⟨_, rfl, _, _, _, [], _, [], hW', trodAll_mk1 (shut_bool Try.underlying4 _), (trodAll_cons_mk (shut_string Try.underlying22 w0) (trodAll_cons_mk (shut_string Try.underlying22 w1) (trodAll_cons_mk (shut_string Try.underlying23 w2) (trodAll_cons_mk (shut_int Try.underlying3 w3) (trodAll_cons_mk (shut_int Try.underlying3 w4) trodAll_mk0))))), rfl, bel.frame _, fun h => by cases h⟩

theorem over : Rows.rationalMakesRow.holds Try.pinned (OpenSpec.ofChange Rows.rationalMakesSpec) :=
  OpenClaim.holds_of_wide 3 Try.f3 rfl rfl rfl rfl rfl rfl rfl ⟨rfl, rfl, rfl, rfl, rfl⟩ rfl rfl rfl rfl rfl (by kernel_rfl) Try.func3 (by kernel_rfl)
    (of_decide_eq_true (by kernel_rfl)) (by unfold Func.isWrapper; first | (rw [if_pos (by decide +kernel)]; kernel_rfl) | (rw [if_neg (by decide +kernel)]; exact ⟨rfl, rfl⟩))
    (fun os started H enc _ => lifted os started H enc)

theorem proved : Rows.RationalMakesSaid := over
#print axioms proved
