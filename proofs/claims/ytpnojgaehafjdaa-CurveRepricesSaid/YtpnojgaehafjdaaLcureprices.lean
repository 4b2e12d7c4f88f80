/-
  The quotes from which a curve was built are repriced on it.
-/
import Derived.Test.YtpnojgaehafjdaaRows
import Derived.Test.YtpnojgaehafjdaaCva
import Derived.Test.YtpnojgaehafjdaaCvfr
import Derived.HandedShaped
import Derived.ProofKit
import Derived.OpenShut
import Derived.ShutString
namespace Go.Proofs.Ytpnojgaehafjdaa.lawReprices
open Go.ChangeShapes Go.WideShapes Go.ChangeAt Go.RowKit
open Go.ChangeMaps (open_string shut_string)

theorem own : ownKnob Try.prog.godebug = none := by kernel_rfl

set_option maxRecDepth 100000 in
set_option maxHeartbeats 16000000 in
theorem walk (base : Int) (v : Value) (l : List Z.Qt) (w : World) (_e0 : -9223372036854775808 ≤ base) (_e1 : base ≤ 9223372036854775807) (hQ : SQ w v l) (hV : HasV w) :
    Calls Try.prog 7 #[.int .i64 base, v] w fun e w' => e = .returned (.bool true) ∧ Below w.heap.size w w' := by
  have HQ := Lib.hid hQ
  have HV := Lib.hid hV
  obtain ⟨A, cp, rfl, hlc, hcm⟩ := hQ.shape
  unfold maxLen at hcm
  clear hQ hV
  go_enter Try.func7, Try.ntmps7
  go_wp2_with fail
  refine (cualive_any w HV.out).mono ?_
  rintro e W1 ⟨rfl, h1⟩
  go_wp2_with fail
  refine (greatq_any _ l W1 (HQ.out.below h1)).mono ?_
  rintro e W2 ⟨rfl, hb⟩
  have h2 := h1.trans (hb.mono h1.size)
  clear hb h1
  cases hg : Z.greatQ l
  case true =>
    go_wp2_with fail
    go_ret
    exact ⟨rfl, h2⟩
  have hgq := (greatq_qsm hg).2
  have HQS : Hid (∀ q ∈ l, QSm q) := Lib.hid hgq
  clear hgq
  clear hg _e0 _e1
  have HB : Hid (Calls Try.prog 11 #[.int .i64 base, .slice A l.length cp] W2 (BootRet (Z.bootR base l) W2)) := Lib.hid (boot_any base _ l W2 (HQ.out.below h2) (HV.out.below h2) HQS.out)
  obtain ⟨p, hp⟩ : ∃ p, p = Z.bootR base l := ⟨_, rfl⟩
  rw [← hp] at HB
  have HE : Hid (p.2 ≠ 0 → p.1 = ⟨0, []⟩) := Lib.hid (by rw [hp]; exact Z.boot_err)
  have HF : Hid (p.2 = 0 → (Z.cuE p.1 = 0 ∧ p.1.base = base ∧ p.1.pts.length = l.length) ∧ ∀ (i : Nat) (q : Z.Qt), l[i]? = some q → (Z.priceR p.1 q = (Z.z48, 0) ∨ (Z.priceR p.1 q).2 = 14) ∧ (Z.parR p.1 q = (q.rate, 0) ∨ (Z.parR p.1 q).2 = 14 ∨ (Z.parR p.1 q).2 = 16)) := Lib.hid (fun h0 => by
    have hb : Z.bootR base l = (p.1, 0) := by rw [← hp]; exact Prod.ext rfl h0
    obtain ⟨f1, f2, f3, _⟩ := Z.boot_facts hb
    exact ⟨⟨f1, f2, f3⟩, fun i q hi => Z.reprice hb hi⟩)
  clear hp
  go_wp2_with fail
  refine HB.out.mono ?_
  rintro e W3 ⟨u, rfl, ho, hb3⟩
  have h3 := h2.trans (hb3.mono h2.size)
  obtain ⟨Au, cu, rfl⟩ := ho.shape
  have BC := Blk.new W3 27 #[.int .i64 p.1.base, .slice Au p.1.pts.length cu]
  have h4 := h3.alloc h3.size (.cells #[.int .i64 p.1.base, .slice Au p.1.pts.length cu] 27)
  have HSP := Lib.hid (OL.sl Z.Pt.vs_len (OL.alloc ho (.cells #[.int .i64 p.1.base, .slice Au p.1.pts.length cu] 27)))
  have c0 := BC.cell 0
  have c1 := BC.cell 1
  clear HB hb3 ho
  by_cases h0 : p.2 = 0
  case neg =>
    have hpe := HE.out h0
    have hpb := ne_bne h0
    have SA := Lib.hid (same_any ⟨0, []⟩ (.slice Au p.1.pts.length cu) (.slice none 0 0) (W3.alloc (.cells #[.int .i64 p.1.base, .slice Au p.1.pts.length cu] 27)) (by rw [hpe] at HSP ⊢; exact HSP.out) SL.nil_)
    have SA2 : Hid (Calls Try.prog 12 #[.agg #[.int .i64 p.1.base, .slice Au p.1.pts.length cu], .agg #[.int .i64 0, .slice none 0 0]] (W3.alloc (.cells #[.int .i64 p.1.base, .slice Au p.1.pts.length cu] 27)) fun e w' => e = .returned (.bool true) ∧ Below (W3.alloc (.cells #[.int .i64 p.1.base, .slice Au p.1.pts.length cu] 27)).heap.size (W3.alloc (.cells #[.int .i64 p.1.base, .slice Au p.1.pts.length cu] 27)) w') := Lib.hid (by
      have := SA.out
      rw [hpe] at this ⊢
      exact this)
    clear SA hpe HF HE h0
    go_wp2_with fail
    refine SA2.out.mono ?_
    rintro e W5 ⟨rfl, hb5⟩
    have h5 := h4.trans (hb5.mono h4.size)
    go_wp2_with fail
    go_ret
    exact ⟨rfl, h5⟩
  obtain ⟨⟨f1, f2, f3⟩, f4⟩ := HF.out h0
  have HL := Lib.hid f4
  have HC1 := Lib.hid (cucheck_any p.1 _ (W3.alloc (.cells #[.int .i64 p.1.base, .slice Au p.1.pts.length cu] 27)) HSP.out (HV.out.below h4) (csm_of f1))
  rw [f1] at HC1
  have HCS := Lib.hid (csm_of f1)
  rw [h0]
  rw [f2, f3] at BC h4 HSP c0 c1 HC1 ⊢
  have BCx := BC
  clear HF HE f1 f4 h0
  have h3z := h3.size
  go_wp2_with fail
  generalize (W3.alloc (.cells #[.int .i64 base, .slice Au l.length cu] 27)) = W4 at *
  refine HC1.out.mono ?_
  rintro e W5 ⟨rfl, hb5⟩
  have h5 := h4.trans (hb5.mono h4.size)
  have BC5 := BC.below hb5
  have HS5 := Lib.hid (HSP.out.below hb5)
  have c0 := BC5.cell 0
  have c1 := BC5.cell 1
  have HF2 := Lib.hid f2
  have HF3 := Lib.hid f3
  clear hb5 BC BCx HSP HC1 f2 f3 h4 h3
  generalize W3.heap.size = Bc at *
  go_wp2_with fail
  go_loopw [8] (fun iv wr => ∃ k : Nat, k ≤ l.length ∧ iv = .int .i64 k ∧ Below W5.heap.size W5 wr) (fun iv _ => l.length - (intOf iv).toNat)
  case atStart => exact ⟨0, by omega, rfl, Below.refl _ _⟩
  case round =>
    obtain ⟨k, hk, rfl, hbr⟩ := hrel
    have hbw := h5.trans (hbr.mono h5.size)
    have BCr := BC5.below hbr
    have HSr := Lib.hid (HS5.out.below hbr)
    by_cases hlt : k < l.length
    · have hz : l[k]? = some l[k] := List.getElem?_eq_getElem hlt
      obtain ⟨b, o, r, rfl, hbl, q0, q1, q2, hqk⟩ := (HQ.out.below hbw).at_ hz
      obtain ⟨hpr, hpa⟩ := HL.out k _ hz
      have hsm := HQS.out _ (List.mem_of_getElem? hz)
      clear hz
      generalize l[k] = q at *
      obtain ⟨dv, pv, rate⟩ := r
      obtain ⟨A1, d1, e1, _, _⟩ := hqk.1.shape
      obtain ⟨A2, d2, e2, _, _⟩ := hqk.2.1.shape
      have e1 : dv = .slice A1 q.dates.length d1 := e1
      have e2 : pv = .slice A2 q.parts.length d2 := e2
      have e3 : rate = q.rate := hqk.2.2
      subst e1 e2 e3
      have k0 : (0 : Int) ≤ (k : Int) := by omega
      have k1 : (k : Int) < (l.length : Int) := by omega
      have f0 : ∀ y : Ab wr, y.1.cell? ⟨Bc, 0, none⟩ = some (.int .i64 base) := fun y => (Ab.cells (x := y) BCr).cell 0
      have f1 : ∀ y : Ab wr, y.1.cell? ⟨Bc, 1, none⟩ = some (.slice Au l.length cu) := fun y => (Ab.cells (x := y) BCr).cell 1
      have g0 : ∀ y : Ab wr, y.1.cell? ⟨b, o + k * 3, none⟩ = some (.slice A1 q.dates.length d1) := fun y => (y.2.cell (p := ⟨b, o + k * 3, none⟩) hbl).trans q0
      have g1 : ∀ y : Ab wr, y.1.cell? ⟨b, o + k * 3 + 1, none⟩ = some (.slice A2 q.parts.length d2) := fun y => (y.2.cell (p := ⟨b, o + k * 3 + 1, none⟩) hbl).trans q1
      have g2 : ∀ y : Ab wr, y.1.cell? ⟨b, o + k * 3 + 2, none⟩ = some (.string q.rate) := fun y => (y.2.cell (p := ⟨b, o + k * 3 + 2, none⟩) hbl).trans q2
      have CP : Hid (∀ W, Below wr.heap.size wr W → Calls Try.prog 21 #[.agg #[.int .i64 base, .slice Au l.length cu], .agg #[.slice A1 q.dates.length d1, .slice A2 q.parts.length d2, .string q.rate]] W (RRet (Z.priceR p.1 q) W)) := Lib.hid fun W h => by
        have := price_any p.1 (.slice Au l.length cu) ⟨_, _, _⟩ q W (HSr.out.below h) (hqk.below h) ((HV.out.below hbw).below h) HCS.out hsm
        rw [HF2.out] at this
        exact this
      have CR : Hid (∀ W, Below wr.heap.size wr W → Calls Try.prog 22 #[.agg #[.int .i64 base, .slice Au l.length cu], .agg #[.slice A1 q.dates.length d1, .slice A2 q.parts.length d2, .string q.rate]] W (RRet (Z.parR p.1 q) W)) := Lib.hid fun W h => by
        have := par_any p.1 (.slice Au l.length cu) ⟨_, _, _⟩ q W (HSr.out.below h) (hqk.below h) ((HV.out.below hbw).below h) HCS.out hsm
        rw [HF2.out] at this
        exact this
      clear q0 q1 q2 hqk hsm
      generalize Z.priceR p.1 q = pP at *
      generalize Z.parR p.1 q = pR at *
      have HPR := Lib.hid hpr
      have HPA := Lib.hid hpa
      clear hpr hpa
      go_wp2_with fail
      refine wp_region_stages 11 [([0, 1, 2, 3, 4], [5]), ([6, 7, 8, 9, 10], [])] [] (fun w' => ∃ y : Ab wr, w' = y.1) (by kernel_rfl) (by kernel_rfl) ⟨⟨wr.drew, (Below.refl _ wr).drew⟩, rfl⟩ ?_
      simp only [fxS, opsAt, List.filterMap_cons, List.filterMap_nil, List.getElem?_toArray, List.getElem?_cons_succ, List.getElem?_cons_zero]
      show wpQuiet _ _ _ _ [_, _, _, _, _] _
      repeat (go_big_quiet_step (fail))
      refine wpQuiet_nil ?_
      refine fxp_enter (f := 21) (args := #[.agg #[.int .i64 base, .slice Au l.length cu], .agg #[.slice A1 q.dates.length d1, .slice A2 q.parts.length d2, .string q.rate]]) (w' := wr.drew) rfl (by simp [go_sem]) ?_
      refine (CP.out wr.drew (Below.refl _ wr).drew).mono ?_
      rintro e X1 ⟨rfl, x1⟩
      have hx1 : Below wr.heap.size wr X1 := (Below.refl _ wr).drew.trans x1
      refine ⟨_, rfl, ⟨⟨X1, hx1⟩, rfl⟩, ?_⟩
      refine fxp_nil ?_
      show wpQuiet _ _ _ _ [_, _, _, _, _] _
      simp only [Act.put, List.setIfInBounds_toArray, List.set_cons_succ, List.set_cons_zero]
      repeat (go_big_quiet_step (fail))
      refine wpQuiet_nil ?_
      refine fxp_nil (fxl_nil ?_)
      have f0' : ∀ y : Ab X1, y.1.cell? ⟨Bc, 0, none⟩ = some (.int .i64 base) := fun y => f0 ⟨y.1, hx1.trans (y.2.mono hx1.size)⟩
      have f1' : ∀ y : Ab X1, y.1.cell? ⟨Bc, 1, none⟩ = some (.slice Au l.length cu) := fun y => f1 ⟨y.1, hx1.trans (y.2.mono hx1.size)⟩
      have g0' : ∀ y : Ab X1, y.1.cell? ⟨b, o + k * 3, none⟩ = some (.slice A1 q.dates.length d1) := fun y => g0 ⟨y.1, hx1.trans (y.2.mono hx1.size)⟩
      have g1' : ∀ y : Ab X1, y.1.cell? ⟨b, o + k * 3 + 1, none⟩ = some (.slice A2 q.parts.length d2) := fun y => g1 ⟨y.1, hx1.trans (y.2.mono hx1.size)⟩
      have g2' : ∀ y : Ab X1, y.1.cell? ⟨b, o + k * 3 + 2, none⟩ = some (.string q.rate) := fun y => g2 ⟨y.1, hx1.trans (y.2.mono hx1.size)⟩
      have HG2 := Lib.hid g2
      clear f0 f1 g0 g1 g2 CP x1
      go_wp2_with fail
      refine wp_region_stages 11 [([0, 1, 2, 3, 4], [5]), ([6, 7, 8, 9, 10], [])] [] (fun w' => ∃ y : Ab X1, w' = y.1) (by kernel_rfl) (by kernel_rfl) ⟨⟨X1.drew, (Below.refl _ X1).drew⟩, rfl⟩ ?_
      simp only [fxS, opsAt, List.filterMap_cons, List.filterMap_nil, List.getElem?_toArray, List.getElem?_cons_succ, List.getElem?_cons_zero]
      show wpQuiet _ _ _ _ [_, _, _, _, _] _
      repeat (go_big_quiet_step (fail))
      refine wpQuiet_nil ?_
      refine fxp_enter (f := 22) (args := #[.agg #[.int .i64 base, .slice Au l.length cu], .agg #[.slice A1 q.dates.length d1, .slice A2 q.parts.length d2, .string q.rate]]) (w' := X1.drew) rfl (by simp [go_sem]) ?_
      refine (CR.out X1.drew hx1.drew).mono ?_
      rintro e X2 ⟨rfl, x2⟩
      have hx2 : Below wr.heap.size wr X2 := hx1.drew.trans (x2.mono hx1.size)
      refine ⟨_, rfl, ⟨⟨X2, (Below.refl _ X1).drew.trans x2⟩, rfl⟩, ?_⟩
      refine fxp_nil ?_
      show wpQuiet _ _ _ _ [_, _, _, _, _] _
      simp only [Act.put, List.setIfInBounds_toArray, List.set_cons_succ, List.set_cons_zero]
      repeat (go_big_quiet_step (fail))
      refine wpQuiet_nil ?_
      refine fxp_nil (fxl_nil ?_)
      have rt : X2.cell? ⟨b, o + k * 3 + 2, none⟩ = some (.string q.rate) := HG2.out ⟨X2, hx2⟩
      have hbn := hbr.trans (hx2.mono hbr.size)
      have hbe := h5.trans (hbn.mono h5.size)
      clear f0' f1' g0' g1' g2' HG2 CR x2 hx1 hx2
      rcases HPR.out with rfl | h1
      · go_wp2_with fail
        refine (is_any _ _ _ _).mono ?_
        rintro e w2 ⟨rfl, rfl⟩
        rw [decide_eq_true (by exact ⟨rfl, rfl⟩)]
        rcases HPA.out with rfl | h2 | h2
        · go_wp2_with fail
          refine (is_any _ _ _ _).mono ?_
          rintro e w2 ⟨rfl, rfl⟩
          rw [decide_eq_true (by exact ⟨rfl, rfl⟩)]
          go_wp2_with fail
          go_roundw
          case rel => exact ⟨k + 1, by omega, by go_num, hbn⟩
          case measure => simp [intOf]; omega
        · rw [h2]
          clear h2 HPA
          go_wp2_with fail
          go_roundw
          case rel => exact ⟨k + 1, by omega, by go_num, hbn⟩
          case measure => simp [intOf]; omega
        · rw [h2]
          clear h2 HPA
          go_wp2_with fail
          go_roundw
          case rel => exact ⟨k + 1, by omega, by go_num, hbn⟩
          case measure => simp [intOf]; omega
      · rw [h1]
        clear h1 HPR
        rcases HPA.out with rfl | h2 | h2
        · go_wp2_with fail
          refine (is_any _ _ _ _).mono ?_
          rintro e w2 ⟨rfl, rfl⟩
          rw [decide_eq_true (by exact ⟨rfl, rfl⟩)]
          go_wp2_with fail
          go_roundw
          case rel => exact ⟨k + 1, by omega, by go_num, hbn⟩
          case measure => simp [intOf]; omega
        · rw [h2]
          clear h2 HPA
          go_wp2_with fail
          go_roundw
          case rel => exact ⟨k + 1, by omega, by go_num, hbn⟩
          case measure => simp [intOf]; omega
        · rw [h2]
          clear h2 HPA
          go_wp2_with fail
          go_roundw
          case rel => exact ⟨k + 1, by omega, by go_num, hbn⟩
          case measure => simp [intOf]; omega
    · obtain rfl : k = l.length := by omega
      go_wp2_with fail
      go_ret
      exact ⟨rfl, hbw⟩

set_option maxRecDepth 100000 in
theorem lifted (os : Os) (started : os.Started) (H : Type) (enc : TypeId × Value → H) :
    ReturnsInHanded {} Try.checked os 7 .any (Rows.curveRepricesSpec.pre6 enc Try.prog Try.f7 Rows.curveRepricesRow.domain false) (Rows.curveRepricesSpec.post enc Try.prog Try.f7 false true false false) := by
  refine returnsInHanded_of_change_shaped (C := Try.checked) own started (by kernel_rfl) Try.func7
    (ChangeSpec.witness6 (enc := enc) (C := Try.checked) false ⟨#[], #[.int .i64 0, .slice none 0 0], []⟩ 8 (by kernel_rfl) (by kernel_rfl) (by kernel_rfl) (by kernel_rfl)) ?_
  intro W base args ds gs before hval0 hW hcnd _ hsh _
  have hval : ∀ (j : Nat) t v, Try.f7.params[j]? = some t → args[j]? = some v → Value.okWide Try.prog W .any base t v := hval0
  have hW' := hW
  obtain ⟨p, q, hA0, hV, rfl, hfz, hnd⟩ := hW
  have hA : DataW.TrodAll enc Try.prog W 0 (fun _ => true) true Try.f7.params.toList args.toList ds p := hA0
  rw [Try.params7] at hA hval
  obtain ⟨v0, vs0, d0, ds0, p0, q0, hargs, rfl, rfl, h0, r0⟩ := trodAll_cons hA
  obtain ⟨v1, vs1, d1, ds1, p1, q1, rfl, rfl, rfl, h1, r1⟩ := trodAll_cons r0
  obtain ⟨rfl, rfl, rfl⟩ := trodAll_nil r1
  obtain rfl : args = #[v0, v1] := by cases args; simp_all
  obtain ⟨rfl, rfl⟩ := trodVars_none hV
  obtain ⟨a0, rfl, rfl, rfl, w0⟩ := open_int Try.underlying3 (hval 0 3 v0 rfl rfl) h0
  have k1 := h1
  obtain ⟨l1, si1⟩ := quotes_open (hval 1 22 v1 rfl rfl) h1
  clear hA0 hval0
  have bd0 := bounds_i64 w0
  refine (walk a0 v1 l1 W bd0.1 bd0.2 si1 (Try.laysM145.s1_3 W hsh)).mono fun e W' ⟨he, bel⟩ => ?_
  subst he
  exact ⟨_, rfl, _, _, _, [], _, [], hW', trodAll_mk1 (shut_bool Try.underlying4 _), (trodAll_cons_mk (shut_int Try.underlying3 w0) (trodAll_cons_mk (arg_stays (by kernel_rfl) (of_decide_eq_true (by kernel_rfl)) k1 bel) trodAll_mk0)), rfl, bel.frame _, fun h => by cases h⟩

theorem over : Rows.curveRepricesRow.holds Try.pinned (OpenSpec.ofChange Rows.curveRepricesSpec) :=
  OpenClaim.holds_of_wide 7 Try.f7 rfl rfl rfl rfl rfl rfl rfl ⟨rfl, rfl, rfl, rfl, rfl⟩ rfl rfl rfl rfl rfl (by kernel_rfl) Try.func7 (by kernel_rfl)
    (of_decide_eq_true (by kernel_rfl)) (by unfold Func.isWrapper; first | (rw [if_pos (by decide +kernel)]; kernel_rfl) | (rw [if_neg (by decide +kernel)]; exact ⟨rfl, rfl⟩))
    (fun os started H enc _ => lifted os started H enc)

theorem proved : Rows.CurveRepricesSaid := over
#print axioms proved
