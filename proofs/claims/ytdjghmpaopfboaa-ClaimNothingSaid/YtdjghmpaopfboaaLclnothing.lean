/-
  An update without flows reverses all open claims, so that every net is 0.
-/
import Derived.Test.YtdjghmpaopfboaaRows
import Derived.Test.YtdjghmpaopfboaaClah
import Derived.Test.YtdjghmpaopfboaaClframe
import Derived.Test.YtdjghmpaopfboaaClsame
import Derived.HandedShaped
import Derived.ProofKit
import Derived.OpenShut
import Derived.ShutString
namespace Go.Proofs.Ytdjghmpaopfboaa.lawNothing
open Go.ChangeShapes Go.WideShapes Go.ChangeAt Go.RowKit
open Go.ChangeMaps (open_string shut_string)

theorem own : ownKnob Try.prog.godebug = none := by kernel_rfl

set_option maxRecDepth 100000 in
set_option maxHeartbeats 8000000 in
theorem walk (u : Value) (l : List Z.Cl) (en : Int) (p c : ByteArray) (w : World) (hS : SC w u l) (_e0 : -9223372036854775808 ≤ en) (_e1 : en ≤ 9223372036854775807) (hV : HasV w) :
    Calls Try.prog 9 #[.agg #[u], .int .i64 en, .string p, .string c] w fun e w' => e = .returned (.bool true) ∧ Below w.heap.size w w' := by
  have hb0 := (Below.refl _ w).alloc (Nat.le_refl w.heap.size) (.cells #[u] 24)
  have BL := Blk.new w 24 #[u]
  have hl0 := BL.cell 0
  have HS := Lib.hid hS
  have HV := Lib.hid hV
  clear hS hV
  have AL := Lib.hid (fun W (h : Below w.heap.size w W) => alive_any W (HV.out.below h))
  have GR := Lib.hid (fun W (h : Below w.heap.size w W) => great_any u l W (HS.out.below h))
  go_enter Try.func9, Try.ntmps9
  go_wp2_with fail
  generalize (w.alloc (.cells #[u] 24)) = W0 at *
  refine (AL.out _ hb0).mono ?_
  rintro e W1 ⟨rfl, hb1⟩
  have h1 := hb0.trans (hb1.mono hb0.size)
  have BL1 := BL.below hb1
  clear BL hl0 hb0 hb1 AL
  have hl1 := BL1.cell 0
  go_wp2_with fail
  refine (GR.out _ h1).mono ?_
  rintro e W2 ⟨rfl, hb1⟩
  have h2 := h1.trans (hb1.mono h1.size)
  have BL2 := BL1.below hb1
  clear BL1 hl1 h1 hb1 GR
  have hl2 := BL2.cell 0
  cases hg : Z.greatB l
  case true =>
    go_wp2_with fail
    go_ret
    exact ⟨rfl, h2⟩
  obtain ⟨hlen, hsm⟩ := Z.great_no hg
  have HSM : Hid (∀ x ∈ l, x.fl.small) := Lib.hid (fun x hx => by have := hsm x hx; unfold Z.Fl.small; omega)
  clear hsm hg
  have h3 := h2
  have BL3 := BL2
  have hl3 := hl2
  clear h2 BL2 hl2
  by_cases hp : 1000 < p.size
  · go_wp2_with fail
    go_ret
    exact ⟨rfl, h3⟩
  by_cases hc : 1000 < c.size
  · go_wp2_with fail
    go_ret
    exact ⟨rfl, h3⟩
  clear _e0 _e1
  obtain ⟨A0, c0, rfl, _, hc0, _⟩ := HS.out
  unfold maxLen at hc0
  have UP := Lib.hid (fun W (h : Below w.heap.size w W) => update_any (.slice A0 l.length c0) (.slice none 0 0) l [] en W (HS.out.below h) SL.nil_ (HV.out.below h) HSM.out (fun x hx => by cases hx))
  go_wp2_with fail
  refine (UP.out _ h3).mono ?_
  intro e W4 hr
  obtain ⟨hb4, ⟨hE, rfl⟩ | ⟨hE, vn, rfl, hO⟩⟩ := hr
  · have h4 := h3.trans (hb4.mono h3.size)
    have hn5 := (Blk.new W4 24 #[.slice none 0 0]).cell 0
    have h5 := h4.alloc h4.size (.cells #[.slice none 0 0] 24)
    have hes : (Z.updE l [] en != 0) = true := by rw [bne_iff_ne]; exact hE
    clear hb4 h4 h3 hl3 BL3 UP hE
    generalize Z.updE l [] en = E at *
    go_wp2_with fail
    go_ret
    exact ⟨rfl, h5⟩
  have h4 := h3.trans (hb4.mono h3.size)
  have BL4 := BL3.below hb4
  have HE := Lib.hid hE
  have hsL := upd_small (fs := []) HSM.out (fun x hx => by cases hx) en
  have HL : Hid (∀ x ∈ Z.updL l [] en, x.fl.small) := Lib.hid hsL
  have hln : (Z.updL l [] en).length ≤ 5000 := (Z.upd_ok hE).2.2.2.2.2
  obtain ⟨A, cp, rfl⟩ := hO.shape
  have hLH := Lib.hid (rfl : Z.updL l [] en = Z.updL l [] en)
  have BN5 := Blk.new W4 24 #[.slice A (Z.updL l [] en).length cp]
  have BL5 := BL4.alloc (.cells #[.slice A (Z.updL l [] en).length cp] 24)
  have h5 := h4.alloc h4.size (.cells #[.slice A (Z.updL l [] en).length cp] 24)
  have HO5 := Lib.hid ((hO.mono h3.size).alloc (.cells #[.slice A (Z.updL l [] en).length cp] 24))
  clear hE hsL hb4 h4 h3 hl3 BL3 UP BL4 hO
  have HOP := Lib.hid (none_open HE.out)
  have hLN := none_len HE.out
  have HNN := Lib.hid (none_net HE.out p c)
  have HVL := Lib.hid (Z.valid_upd HE.out)
  have HVl := Lib.hid (Z.upd_ok HE.out).1
  have hol : (Z.openL l).length ≤ 100 := Nat.le_trans (List.length_filter_le _ _) hlen
  clear hLH
  generalize Z.updL l [] en = L at *
  rw [hLN] at BN5 BL5 h5 HO5 ⊢
  have HSL := Lib.hid (OL.sl Z.Cl.vs_len HO5.out)
  have hn5 := BN5.cell 0
  clear hLN HE HO5
  go_wp2_with fail
  generalize (W4.alloc (.cells #[.slice A (l.length + (Z.openL l).length) cp] 24)) = W5 at *
  refine (open_any _ L W5 HSL.out (HV.out.below h5) HL.out).mono ?_
  intro e W6 hr
  obtain ⟨hb6, va, rfl, sa⟩ := open_uni hr
  rw [HVL.out, if_pos rfl, HOP.out] at sa
  rw [show Z.clE L = 0 by unfold Z.clE; rw [HVL.out]; rfl]
  obtain ⟨A6, c6, rfl, _⟩ := sa
  have h6 := h5.trans (hb6.mono h5.size)
  have BN6 := BN5.below hb6
  have BL6 := BL5.below hb6
  have HSL6 := Lib.hid (HSL.out.below hb6)
  have hl6 := BL6.cell 0
  clear hr hb6 BN5 BL5 HSL hn5 h5 HOP
  go_wp2_with fail
  refine (open_any _ l W6 (HS.out.below h6) (HV.out.below h6) HSM.out).mono ?_
  intro e W7 hr
  obtain ⟨hb7, va, rfl, sa⟩ := open_uni hr
  rw [HVl.out, if_pos rfl] at sa
  rw [show Z.clE l = 0 by unfold Z.clE; rw [HVl.out]; rfl]
  obtain ⟨A7, c7, rfl, _⟩ := sa
  have h7 := h6.trans (hb7.mono h6.size)
  have BN7 := BN6.below hb7
  have BL7 := BL6.below hb7
  have HSL7 := Lib.hid (HSL6.out.below hb7)
  have hn7 := BN7.cell 0
  clear hr hb7 BN6 BL6 HSL6 hl6 h6
  go_wp2_with fail
  refine (net_any _ L p c W7 HSL7.out (HV.out.below h7) HL.out (by omega) (by omega)).mono ?_
  rintro e W8 ⟨rfl, hb8⟩
  have h8 := h7.trans (hb8.mono h7.size)
  have BN8 := BN7.below hb8
  have BL8 := BL7.below hb8
  have hn8 := BN8.cell 0
  have hl8 := BL8.cell 0
  have HN := HNN.out
  clear hb8 BN7 BL7 HSL7 hn7 h7 HNN HVL HVl HL
  have CF : Hid (∀ W : World, Calls Try.prog 28 #[.slice none 0 0] W fun e w' => e = .returned (.int .i64 0) ∧ Below W.heap.size W w') := Lib.hid (fun W => rflows_nil W)
  generalize Z.netR L p c = R at *
  rcases HN with rfl | rfl | rfl
  all_goals
    go_wp2_with fail
    refine (CF.out _).mono ?_
    rintro e W9 ⟨rfl, hb9⟩
    have h9 := h8.trans (hb9.mono h8.size)
    go_wp2_with fail
    go_ret
    exact ⟨rfl, h9⟩

set_option maxRecDepth 100000 in
theorem lifted (os : Os) (started : os.Started) (H : Type) (enc : TypeId × Value → H) :
    ReturnsInHanded {} Try.checked os 9 .any (Rows.claimNothingSpec.pre6 enc Try.prog Try.f9 Rows.claimNothingRow.domain false) (Rows.claimNothingSpec.post enc Try.prog Try.f9 false true false false) := by
  refine returnsInHanded_of_change_shaped (C := Try.checked) own started (by kernel_rfl) Try.func9
    (ChangeSpec.witness6 (enc := enc) (C := Try.checked) false ⟨#[], #[.agg #[.slice none 0 0], .int .i64 0, .string ByteArray.empty, .string ByteArray.empty], []⟩ 8 (by kernel_rfl) (by kernel_rfl) (by kernel_rfl) (by kernel_rfl)) ?_
  intro W base args ds gs before hval0 hW hcnd _ hsh _
  have hval : ∀ (j : Nat) t v, Try.f9.params[j]? = some t → args[j]? = some v → Value.okWide Try.prog W .any base t v := hval0
  have hW' := hW
  obtain ⟨p, q, hA0, hV, rfl, hfz, hnd⟩ := hW
  have hA : DataW.TrodAll enc Try.prog W 0 (fun _ => true) true Try.f9.params.toList args.toList ds p := hA0
  rw [Try.params9] at hA hval
  obtain ⟨v0, vs0, d0, ds0, p0, q0, hargs, rfl, rfl, h0, r0⟩ := trodAll_cons hA
  obtain ⟨v1, vs1, d1, ds1, p1, q1, rfl, rfl, rfl, h1, r1⟩ := trodAll_cons r0
  obtain ⟨v2, vs2, d2, ds2, p2, q2, rfl, rfl, rfl, h2, r2⟩ := trodAll_cons r1
  obtain ⟨v3, vs3, d3, ds3, p3, q3, rfl, rfl, rfl, h3, r3⟩ := trodAll_cons r2
  obtain ⟨rfl, rfl, rfl⟩ := trodAll_nil r3
  obtain rfl : args = #[v0, v1, v2, v3] := by cases args; simp_all
  obtain ⟨rfl, rfl⟩ := trodVars_none hV
  have k0 := h0
  obtain ⟨u0, l0, rfl, si0⟩ := claims_open (hval 0 24 v0 rfl rfl) h0
  obtain ⟨a1, rfl, rfl, rfl, w1⟩ := open_int Try.underlying3 (hval 1 3 v1 rfl rfl) h1
  obtain ⟨a2, rfl, rfl, rfl, w2⟩ := open_string Try.underlying9 (hval 2 9 v2 rfl rfl) h2
  obtain ⟨a3, rfl, rfl, rfl, w3⟩ := open_string Try.underlying9 (hval 3 9 v3 rfl rfl) h3
  clear hA0 hval0
  have bd1 := bounds_i64 w1
  refine (walk u0 l0 a1 a2 a3 W si0 bd1.1 bd1.2 (Try.laysM145.s1_3 W hsh)).mono fun e W' ⟨he, bel⟩ => ?_
  subst he
  exact ⟨_, rfl, _, _, _, [], _, [], hW', trodAll_mk1 (shut_bool Try.underlying4 _), (trodAll_cons_mk (arg_stays (by kernel_rfl) (of_decide_eq_true (by kernel_rfl)) k0 bel) (trodAll_cons_mk (shut_int Try.underlying3 w1) (trodAll_cons_mk (shut_string Try.underlying9 w2) (trodAll_cons_mk (shut_string Try.underlying9 w3) trodAll_mk0)))), rfl, bel.frame _, fun h => by cases h⟩

theorem over : Rows.claimNothingRow.holds Try.pinned (OpenSpec.ofChange Rows.claimNothingSpec) :=
  OpenClaim.holds_of_wide 9 Try.f9 rfl rfl rfl rfl rfl rfl rfl ⟨rfl, rfl, rfl, rfl, rfl⟩ rfl rfl rfl rfl rfl (by kernel_rfl) Try.func9 (by kernel_rfl)
    (of_decide_eq_true (by kernel_rfl)) (by unfold Func.isWrapper; first | (rw [if_pos (by decide +kernel)]; kernel_rfl) | (rw [if_neg (by decide +kernel)]; exact ⟨rfl, rfl⟩))
    (fun os started H enc _ => lifted os started H enc)

theorem proved : Rows.ClaimNothingSaid := over
#print axioms proved
