/-
  IntegerSmall: for every int and every string the law returns true: Of and To return what the reference returns, and undo each other. Conditions: none.
-/
import Derived.Test.YtajmdlelpkgppaaRows
import Derived.Test.YtajmdlelpkgppaaRto
import Derived.Test.YtajmdlelpkgppaaRgreat
import Derived.ProofKit
import Derived.OpenShut
import Derived.ShutString
namespace Go.Proofs.Ytajmdlelpkgppaa.lawSmall
open Go.ChangeShapes Go.WideShapes Go.ChangeAt Go.RowKit
open Go.ChangeMaps (open_string shut_string)

theorem own : ownKnob Try.prog.godebug = none := by kernel_rfl

theorem toE_txt (n : Int) (h0 : -9223372036854775808 ≤ n) (h1 : n ≤ 9223372036854775807) : Z.toE (Z.txt n) = 0 ∧ Z.toV (Z.txt n) = n := by
  have hl := Z.decB_length n.natAbs 19 (by omega)
  have hc : Z.chk (Z.txt n) = 0 := Z.chk_ok (Z.canon_txt n) (by rw [Z.mags_txt]; omega)
  have hf : Z.fits64 (Z.ival (Z.txt n)) = true := by
    rw [Z.ival_txt]; unfold Z.fits64; simp; omega
  exact ⟨by unfold Z.toE; rw [if_pos hc, if_pos hf], by unfold Z.toV; rw [if_pos ⟨hc, hf⟩, Z.ival_txt]⟩
theorem toV_bd (l : List UInt8) : -9223372036854775808 ≤ Z.toV l ∧ Z.toV l ≤ 9223372036854775807 := by
  unfold Z.toV
  split
  · rename_i h
    have := h.2
    unfold Z.fits64 at this
    simp at this
    omega
  · omega
theorem back (s : ByteArray) (h : Z.toE s.data.toList = 0) : (⟨(Z.txt (Z.toV s.data.toList)).toArray⟩ : ByteArray) = s := by
  unfold Z.toE at h
  split at h
  · rename_i hc
    split at h
    · rename_i hf
      have e : Z.toV s.data.toList = Z.ival s.data.toList := by simp [Z.toV, hc, hf]
      rw [e, Z.txt_ival (Z.chk_zero_iff.1 hc).1]
    · cases h
  · rename_i hc
    exact absurd h hc

set_option maxHeartbeats 800000 in
theorem walk (n : Int) (s : ByteArray) (w : World) (h0 : -9223372036854775808 ≤ n) (h1 : n ≤ 9223372036854775807) :
    Calls Try.prog 3 #[.int .i64 n, .string s] w fun e w' => e = .returned (.bool true) ∧ Below w.heap.size w w' := by
  by_cases hbig : 1100 < s.size
  · go_enter Try.func3, Try.ntmps3
    go_wp2_with fail
    have hg := great_any _ [s] (w.alloc (.cells #[.string s] 22)) (ss_new w [s] 22 (by simp)) (by simp)
    have hany : ([s].any fun s => decide (1100 < s.size)) = true := by simpa using hbig
    rw [hany] at hg
    refine hg.mono ?_
    rintro e w1 ⟨rfl, rfl⟩
    clear hg hany
    go_wp2_with fail
    go_ret
    exact ⟨rfl, (Below.refl _ _).alloc (Nat.le_refl _) _⟩
  · go_enter Try.func3, Try.ntmps3
    go_wp2_with fail
    have hg := great_any _ [s] (w.alloc (.cells #[.string s] 22)) (ss_new w [s] 22 (by simp)) (by simp)
    have hany : ([s].any fun s => decide (1100 < s.size)) = false := by simpa using hbig
    rw [hany] at hg
    refine hg.mono ?_
    rintro e w1 ⟨rfl, rfl⟩
    clear hg hany
    have hb1 : Below w.heap.size w (w.alloc (.cells #[.string s] 22)) := (Below.refl _ _).alloc (Nat.le_refl _) _
    have hbd := toV_bd s.data.toList
    have hbk := back s
    have htx := toE_txt n h0 h1
    have htl := Z.txt_length n 19 (by omega)
    have H1 := Lib.hid (fun W : World => to_any s W (by omega))
    have H2 := Lib.hid (fun W : World => rto_any s W (by omega))
    have H3 := Lib.hid (fun W : World => of_any n W h0 h1)
    have H4 := Lib.hid (fun W : World => rof_any n W h0 h1)
    have H5 : Hid (∀ W : World, Calls Try.prog 12 #[.string ⟨(Z.txt n).toArray⟩] W fun e W' => e = .returned (.tuple #[.int .i64 n, .int .i64 0]) ∧ Below W.heap.size W W') := fun W => by
      have C := to_any ⟨(Z.txt n).toArray⟩ W (by rw [size_mk]; omega)
      unfold ToRet at C
      rw [data_mk, htx.1, htx.2] at C
      exact C
    have H6 := Lib.hid (fun W : World => of_any (Z.toV s.data.toList) W hbd.1 hbd.2)
    unfold ToRet at H1 H2
    generalize Z.toV s.data.toList = x at *
    generalize Z.toE s.data.toList = y at *
    have HBK := Lib.hid hbk
    clear hbk htx htl hbig
    generalize w.alloc (.cells #[.string s] 22) = w1 at *
    go_wp2_with fail
    refine (H1.out _).mono ?_
    rintro e w2 ⟨rfl, hb2⟩
    have c2 := hb1.trans (hb2.mono hb1.size)
    clear hb1 hb2
    go_wp2_with fail
    refine (H2.out _).mono ?_
    rintro e w3 ⟨rfl, hb3⟩
    have c3 := c2.trans (hb3.mono c2.size)
    clear c2 hb3
    go_wp2_with fail
    refine (H3.out _).mono ?_
    rintro e w4 ⟨rfl, hb4⟩
    have c4 := c3.trans (hb4.mono c3.size)
    clear c3 hb4
    go_wp2_with fail
    refine (H5.out _).mono ?_
    rintro e w5 ⟨rfl, hb5⟩
    have c5 := c4.trans (hb5.mono c4.size)
    clear c4 hb5
    go_wp2_with fail
    refine (H3.out _).mono ?_
    rintro e w6 ⟨rfl, hb6⟩
    have c6 := c5.trans (hb6.mono c5.size)
    clear c5 hb6
    go_wp2_with fail
    refine (H4.out _).mono ?_
    rintro e w7 ⟨rfl, hb7⟩
    have c7 := c6.trans (hb7.mono c6.size)
    clear c6 hb7
    by_cases hy : y = 0
    · have hyb : (y != 0) = false := by simp [hy]
      have hbs := HBK.out hy
      have HBS := Lib.hid hbs
      clear hy hbs
      go_wp2_with fail
      refine (H6.out _).mono ?_
      rintro e w8 ⟨rfl, hb8⟩
      rw [HBS.out]
      have c8 := c7.trans (hb8.mono c7.size)
      clear c7 hb8
      go_wp2_with fail
      go_ret
      exact ⟨rfl, c8⟩
    · have hyb : (y != 0) = true := by simp [hy]
      go_wp2_with fail
      go_ret
      exact ⟨rfl, c7⟩

set_option maxRecDepth 100000 in
theorem lifted (os : Os) (started : os.Started) (H : Type) (enc : TypeId × Value → H) :
    ReturnsInHanded {} Try.checked os 3 .any (Rows.integerSmallSpec.pre6 enc Try.prog Try.f3 Rows.integerSmallRow.domain false) (Rows.integerSmallSpec.post enc Try.prog Try.f3 false true false false) := by
  refine returnsInHanded_of_change (C := Try.checked) own started (by kernel_rfl) Try.func3
    (ChangeSpec.witness6 (enc := enc) (C := Try.checked) false ⟨#[], #[.int .i64 0, .string ByteArray.empty], []⟩ 8 (by kernel_rfl) (by kernel_rfl) (by kernel_rfl) (by kernel_rfl)) ?_
  intro W base args ds gs before hval0 hW hcnd _
  have hval : ∀ (j : Nat) t v, Try.f3.params[j]? = some t → args[j]? = some v → Value.okWide Try.prog W .any base t v := hval0
  have hW' := hW
  obtain ⟨p, q, hA0, hV, rfl, hfz, hnd⟩ := hW
  have hA : DataW.TrodAll enc Try.prog W 0 (fun _ => true) true Try.f3.params.toList args.toList ds p := hA0
  rw [Try.params3] at hA hval
  obtain ⟨v0, vs0, d0, ds0, p0, q0, hargs, rfl, rfl, h0, r0⟩ := trodAll_cons hA
  obtain ⟨v1, vs1, d1, ds1, p1, q1, rfl, rfl, rfl, h1, r1⟩ := trodAll_cons r0
  obtain ⟨rfl, rfl, rfl⟩ := trodAll_nil r1
  obtain rfl : args = #[v0, v1] := by cases args; simp_all
  obtain ⟨rfl, rfl⟩ := trodVars_none hV
  obtain ⟨a0, rfl, rfl, rfl, w0⟩ := open_int Try.underlying3 (hval 0 3 v0 rfl rfl) h0
  obtain ⟨a1, rfl, rfl, rfl, w1⟩ := open_string Try.underlying22 (hval 1 22 v1 rfl rfl) h1
  clear hA0 hval0
  have bd : -9223372036854775808 ≤ a0 ∧ a0 ≤ 9223372036854775807 := by
    have h := w0
    simp only [Lit.wf, IntKind.min, IntKind.max, IntKind.signed, IntKind.bits, Bool.and_eq_true, decide_eq_true_eq, if_true] at h
    omega
  refine (walk a0 a1 W bd.1 bd.2).mono fun e W' ⟨he, bel⟩ => ?_
  subst he
  exact ⟨_, rfl, _, _, _, [], _, [], hW', trodAll_mk1 (shut_bool Try.underlying4 _), (trodAll_cons_mk (shut_int Try.underlying3 w0) (trodAll_cons_mk (shut_string Try.underlying22 w1) trodAll_mk0)), rfl, bel.frame _, fun h => by cases h⟩

theorem over : Rows.integerSmallRow.holds Try.pinned (OpenSpec.ofChange Rows.integerSmallSpec) :=
  OpenClaim.holds_of_wide 3 Try.f3 rfl rfl rfl rfl rfl rfl rfl ⟨rfl, rfl, rfl, rfl, rfl⟩ rfl rfl rfl rfl rfl (by kernel_rfl) Try.func3 (by kernel_rfl)
    (of_decide_eq_true (by kernel_rfl)) (by unfold Func.isWrapper; first | (rw [if_pos (by decide +kernel)]; kernel_rfl) | (rw [if_neg (by decide +kernel)]; exact ⟨rfl, rfl⟩))
    (fun os started H enc _ => lifted os started H enc)

theorem proved : Rows.IntegerSmallSaid := over
#print axioms proved
end Go.Proofs.Ytajmdlelpkgppaa.lawSmall
