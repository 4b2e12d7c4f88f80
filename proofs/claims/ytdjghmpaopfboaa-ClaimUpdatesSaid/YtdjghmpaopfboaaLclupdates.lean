/-
  Update returns the reference's result and error, and shares no memory with the claims that came in.
-/
import Derived.Test.YtdjghmpaopfboaaRows
import Derived.Test.YtdjghmpaopfboaaClupd
import Derived.Test.YtdjghmpaopfboaaClupr
import Derived.Test.YtdjghmpaopfboaaClapp
import Derived.Test.YtdjghmpaopfboaaClgf
import Derived.Test.YtdjghmpaopfboaaClframe
import Derived.Test.YtdjghmpaopfboaaClsame
import Derived.HandedShaped
import Derived.ProofKit
import Derived.OpenShut
import Derived.ShutString
namespace Go.Proofs.Ytdjghmpaopfboaa.lawUpdates
open Go.ChangeShapes Go.WideShapes Go.ChangeAt Go.RowKit
open Go.ChangeMaps (open_string shut_string)

theorem own : ownKnob Try.prog.godebug = none := by kernel_rfl

theorem upd_uni {l : List Z.Cl} {fs : List Z.Fl} {en : Int} {w w' : World} {e : Ending} (h : UpdRet l fs en w e w') :
    Below w.heap.size w w' ∧ ∃ A c, e = .returned (.tuple #[.agg #[.slice A (if Z.updE l fs en = 0 then Z.updL l fs en else []).length c], .int .i64 (Z.updE l fs en)]) ∧ OC w' w.heap.size (.slice A (if Z.updE l fs en = 0 then Z.updL l fs en else []).length c) (if Z.updE l fs en = 0 then Z.updL l fs en else []) := by
  obtain ⟨hb, ⟨h0, rfl⟩ | ⟨h0, v, rfl, hO⟩⟩ := h
  · rw [if_neg h0]
    exact ⟨hb, none, 0, rfl, OL.nil_⟩
  · rw [if_pos h0, h0]
    obtain ⟨A, c, rfl⟩ := hO.shape
    exact ⟨hb, A, c, rfl, hO⟩
set_option maxRecDepth 100000 in
set_option maxHeartbeats 8000000 in
theorem walk (u : Value) (l : List Z.Cl) (v : Value) (fs : List Z.Fl) (en : Int) (w : World) (hS : SC w u l) (hF : SF w v fs) (_e0 : -9223372036854775808 ≤ en) (_e1 : en ≤ 9223372036854775807) (hV : HasV w) :
    Calls Try.prog 3 #[.agg #[u], v, .int .i64 en] w fun e w' => e = .returned (.bool true) ∧ Below w.heap.size w w' := by
  have hb0 := (Below.refl _ w).alloc (Nat.le_refl w.heap.size) (.cells #[u] 24)
  have BL := Blk.new w 24 #[u]
  have hl0 := BL.cell 0
  have HS := Lib.hid hS
  have HF := Lib.hid hF
  have HV := Lib.hid hV
  clear hS hF hV _e0 _e1
  have GR := Lib.hid (fun W (h : Below w.heap.size w W) => great_any u l W (HS.out.below h))
  have GF := Lib.hid (fun W (h : Below w.heap.size w W) => greatf_any v fs W (HF.out.below h))
  go_enter Try.func3, Try.ntmps3
  go_wp2_with fail
  generalize (w.alloc (.cells #[u] 24)) = W0 at *
  refine (GR.out _ hb0).mono ?_
  rintro e W1 ⟨rfl, hb1⟩
  have h1 := hb0.trans (hb1.mono hb0.size)
  have BL1 := BL.below hb1
  clear BL hl0 hb0 hb1 GR
  have hl1 := BL1.cell 0
  cases hg : Z.greatB l
  case true =>
    go_wp2_with fail
    go_ret
    exact ⟨rfl, h1⟩
  go_wp2_with fail
  refine (GF.out _ h1).mono ?_
  rintro e W2 ⟨rfl, hb1⟩
  have h2 := h1.trans (hb1.mono h1.size)
  have BL2 := BL1.below hb1
  clear BL1 hl1 h1 hb1 GF
  have hl2 := BL2.cell 0
  cases hgf : Z.greatF fs
  case true =>
    go_wp2_with fail
    go_ret
    exact ⟨rfl, h2⟩
  obtain ⟨hlen, hsm⟩ := Z.great_no hg
  obtain ⟨_, _, hsmf⟩ := Z.greatF_no hgf
  have HSM : Hid (∀ x ∈ l, x.fl.small) := Lib.hid (fun x hx => by have := hsm x hx; unfold Z.Fl.small; omega)
  have HSF : Hid (∀ x ∈ fs, x.small) := Lib.hid (fun x hx => by have := hsmf x hx; unfold Z.Fl.small; omega)
  clear hsm hg hgf hsmf
  have UP := Lib.hid (fun W (h : Below w.heap.size w W) => update_any u v l fs en W (HS.out.below h) (HF.out.below h) (HV.out.below h) HSM.out HSF.out)
  have RU := Lib.hid (fun W (h : Below w.heap.size w W) => rupdate_any u v l fs en W (HS.out.below h) (HF.out.below h) HSM.out HSF.out)
  have HS2 := Lib.hid (HS.out.below h2)
  have BA2 := BL2.alloc (.cells #[] 38)
  have ha2 := BA2.cell 0
  have hw2 : w.heap.size < W2.heap.size := BL2.lt
  go_wp2_with (at_builtin; go_loud (refine appAll rfl _ _ rfl W2 _ l HS2.out (by omega) rfl rfl ?_; intro A3 n3 c3 W3 hn3 hC3 hb3; have HN3 := Lib.hid hn3; clear hn3; have BL3 := BL2.below hb3; have hl3 := BL3.cell 0))
  have h3 := h2.trans (hb3.mono h2.size)
  have hW23 : W2.heap.size ≤ W3.heap.size := hb3.size
  have HC3 := Lib.hid (OL.sl Z.Cl.vs_len hC3)
  clear BL2 BA2 ha2 hl2 h2 hC3 HS2
  refine (UP.out _ h3).mono ?_
  intro e W4 hr
  obtain ⟨hb4, A4, c4, rfl, hC4⟩ := upd_uni hr
  have HO4 := Lib.hid hC4
  have h4 := h3.trans (hb4.mono h3.size)
  have BL4 := BL3.below hb4
  have hE := Lib.hid (rfl : Z.updE l fs en = Z.updE l fs en)
  generalize hRL : (if Z.updE l fs en = 0 then Z.updL l fs en else []) = RL at *
  have HRL := Lib.hid hRL
  have hBW : W3.heap.size ≤ W4.heap.size := hb4.size
  have k4 := hb4
  clear hr UP BL3 hl3 hC4 hRL hb4
  have BN4 := Blk.new W4 24 #[.slice A4 RL.length c4]
  have BL5 := BL4.alloc (.cells #[.slice A4 RL.length c4] 24)
  have hl5 := BL5.cell 0
  have hn5 := BN4.cell 0
  have h5 := h4.alloc h4.size (.cells #[.slice A4 RL.length c4] 24)
  have HO5 := Lib.hid (HO4.out.alloc (.cells #[.slice A4 RL.length c4] 24))
  have hB5 := (Below.refl _ W4).alloc (Nat.le_refl W4.heap.size) (.cells #[.slice A4 RL.length c4] 24)
  have k5 := k4.alloc hBW (.cells #[.slice A4 RL.length c4] 24)
  clear h4 HO4 BL4 hB5 k4
  go_wp2_with fail
  generalize (W4.alloc (.cells #[.slice A4 RL.length c4] 24)) = W5 at *
  refine (RU.out _ h5).mono ?_
  intro e W6 hr
  obtain ⟨hb6, A6, c6, rfl, hC6⟩ := upd_uni hr
  rw [HRL.out] at hC6 ⊢
  clear hr RU HRL
  generalize Z.updE l fs en = E at *
  have s1 : (E == E) = true := by simp
  have h6 := h5.trans (hb6.mono h5.size)
  have k6 := k5.trans (hb6.mono k5.size)
  have BL6 := BL5.below hb6
  have BN6 := BN4.below hb6
  have HO6 := Lib.hid (HO5.out.below hb6)
  have BL7 := BL6.alloc (.cells #[.slice A6 RL.length c6] 24)
  have BN7 := BN6.alloc (.cells #[.slice A6 RL.length c6] 24)
  have BM7 := Blk.new W6 24 #[.slice A6 RL.length c6]
  have h7 := h6.alloc h6.size (.cells #[.slice A6 RL.length c6] 24)
  have k7 := k6.alloc k6.size (.cells #[.slice A6 RL.length c6] 24)
  have HO7 := Lib.hid (HO6.out.alloc (.cells #[.slice A6 RL.length c6] 24))
  have SB7 := (OL.sl Z.Cl.vs_len hC6).alloc (.cells #[.slice A6 RL.length c6] 24)
  have hn7 := BN7.cell 0
  have hm7 := BM7.cell 0
  have SM := Lib.hid (rsame_claims (.slice A4 RL.length c4) (.slice A6 RL.length c6) RL _ (OL.sl Z.Cl.vs_len HO7.out) SB7)
  clear hC6 hb6 BL5 hl5 hn5 h5 k5 HO5 BL6 BN6 HO6 h6 k6 SB7 BN4
  go_wp2_with fail
  generalize (W6.alloc (.cells #[.slice A6 RL.length c6] 24)) = W7 at *
  refine SM.out.mono ?_
  rintro e W8 ⟨rfl, hb8⟩
  have h8 := h7.trans (hb8.mono h7.size)
  have k8 := k7.trans (hb8.mono k7.size)
  have BL8 := BL7.below hb8
  have BN8 := BN7.below hb8
  have HO8 := Lib.hid (HO7.out.below hb8)
  have HW0 := Lib.hid (WrC.start BN8 HO8.out)
  have hRB : RL.length ≤ 9223372036854775807 := by
    obtain ⟨_, _, hv, h1, h2, _⟩ := OL.sl Z.Cl.vs_len HO8.out
    unfold maxLen at h2
    omega
  clear SM BL7 BN7 BM7 h7 k7 HO7 hn7 hm7 hb8 BN8 HO8
  go_wp2_with fail
  go_loopw [13] (fun iv wr => ∃ k : Nat, k ≤ RL.length ∧ iv = .int .i64 k ∧ Hid (WrC W3.heap.size W8 W4.heap.size 24 #[.slice A4 RL.length c4] A4 RL.length wr)) (fun iv _ => RL.length - (intOf iv).toNat)
  case atStart => exact ⟨0, by omega, rfl, HW0⟩
  case round =>
    obtain ⟨k, hk, rfl, HW⟩ := hrel
    clear HW0
    have hA := HW.out.2.1.cell 0
    by_cases hlt : k < RL.length
    · obtain ⟨g, x, rfl, hcell, hfr, hP⟩ := HW.out.at_ (by decide) (.int .i64 (-7)) hlt
      have HP := Lib.hid hP
      clear hP HW
      go_wp2_with fail
      go_roundw
      case rel => exact ⟨k + 1, by omega, by go_num, HP⟩
      case measure => simp [intOf]; omega
    · obtain rfl : k = RL.length := by omega
      have hb9 := HW.out.1
      have h9 := h8.trans (hb9.mono h3.size)
      have k9 := k8.trans hb9
      have hL9 : wr.cell? ⟨w.heap.size, 0, none⟩ = some u := (hb9.cell (p := ⟨w.heap.size, 0, none⟩) (Nat.lt_of_lt_of_le hw2 hW23)).trans (BL8.cell 0)
      have SM := Lib.hid (rsame_claims u (.slice A3 n3 c3) l wr (HS.out.below h9) (HC3.out.below k9))
      clear hb9 hlt hk HW
      go_wp2_with fail
      refine SM.out.mono ?_
      rintro e W10 ⟨rfl, hb10⟩
      have h10 := h9.trans (hb10.mono h9.size)
      go_wp2_with fail
      go_ret
      exact ⟨rfl, h10⟩

set_option maxRecDepth 100000 in
theorem lifted (os : Os) (started : os.Started) (H : Type) (enc : TypeId × Value → H) :
    ReturnsInHanded {} Try.checked os 3 .any (Rows.claimUpdatesSpec.pre6 enc Try.prog Try.f3 Rows.claimUpdatesRow.domain false) (Rows.claimUpdatesSpec.post enc Try.prog Try.f3 false true false false) := by
  refine returnsInHanded_of_change_shaped (C := Try.checked) own started (by kernel_rfl) Try.func3
    (ChangeSpec.witness6 (enc := enc) (C := Try.checked) false ⟨#[], #[.agg #[.slice none 0 0], .slice none 0 0, .int .i64 0], []⟩ 8 (by kernel_rfl) (by kernel_rfl) (by kernel_rfl) (by kernel_rfl)) ?_
  intro W base args ds gs before hval0 hW hcnd _ hsh _
  have hval : ∀ (j : Nat) t v, Try.f3.params[j]? = some t → args[j]? = some v → Value.okWide Try.prog W .any base t v := hval0
  have hW' := hW
  obtain ⟨p, q, hA0, hV, rfl, hfz, hnd⟩ := hW
  have hA : DataW.TrodAll enc Try.prog W 0 (fun _ => true) true Try.f3.params.toList args.toList ds p := hA0
  rw [Try.params3] at hA hval
  obtain ⟨v0, vs0, d0, ds0, p0, q0, hargs, rfl, rfl, h0, r0⟩ := trodAll_cons hA
  obtain ⟨v1, vs1, d1, ds1, p1, q1, rfl, rfl, rfl, h1, r1⟩ := trodAll_cons r0
  obtain ⟨v2, vs2, d2, ds2, p2, q2, rfl, rfl, rfl, h2, r2⟩ := trodAll_cons r1
  obtain ⟨rfl, rfl, rfl⟩ := trodAll_nil r2
  obtain rfl : args = #[v0, v1, v2] := by cases args; simp_all
  obtain ⟨rfl, rfl⟩ := trodVars_none hV
  have k0 := h0
  obtain ⟨u0, l0, rfl, si0⟩ := claims_open (hval 0 24 v0 rfl rfl) h0
  have k1 := h1
  obtain ⟨l1, si1⟩ := flows_open (hval 1 25 v1 rfl rfl) h1
  obtain ⟨a2, rfl, rfl, rfl, w2⟩ := open_int Try.underlying3 (hval 2 3 v2 rfl rfl) h2
  clear hA0 hval0
  have bd2 := bounds_i64 w2
  refine (walk u0 l0 v1 l1 a2 W si0 si1 bd2.1 bd2.2 (Try.laysM145.s1_3 W hsh)).mono fun e W' ⟨he, bel⟩ => ?_
  subst he
  exact ⟨_, rfl, _, _, _, [], _, [], hW', trodAll_mk1 (shut_bool Try.underlying4 _), (trodAll_cons_mk (arg_stays (by kernel_rfl) (of_decide_eq_true (by kernel_rfl)) k0 bel) (trodAll_cons_mk (arg_stays (by kernel_rfl) (of_decide_eq_true (by kernel_rfl)) k1 bel) (trodAll_cons_mk (shut_int Try.underlying3 w2) trodAll_mk0))), rfl, bel.frame _, fun h => by cases h⟩

theorem over : Rows.claimUpdatesRow.holds Try.pinned (OpenSpec.ofChange Rows.claimUpdatesSpec) :=
  OpenClaim.holds_of_wide 3 Try.f3 rfl rfl rfl rfl rfl rfl rfl ⟨rfl, rfl, rfl, rfl, rfl⟩ rfl rfl rfl rfl rfl (by kernel_rfl) Try.func3 (by kernel_rfl)
    (of_decide_eq_true (by kernel_rfl)) (by unfold Func.isWrapper; first | (rw [if_pos (by decide +kernel)]; kernel_rfl) | (rw [if_neg (by decide +kernel)]; exact ⟨rfl, rfl⟩))
    (fun os started H enc _ => lifted os started H enc)

theorem proved : Rows.ClaimUpdatesSaid := over
#print axioms proved
