/-
  Moving the base day and all days of the quotes moves the curve.
-/
import Derived.Test.YtpnojgaehafjdaaRows
import Derived.Test.YtpnojgaehafjdaaCva
import Derived.Test.YtpnojgaehafjdaaCvfr
import Derived.Test.YtpnojgaehafjdaaCvmv
import Derived.HandedShaped
import Derived.ProofKit
import Derived.OpenShut
import Derived.ShutString
namespace Go.Proofs.Ytpnojgaehafjdaa.lawMoves
open Go.ChangeShapes Go.WideShapes Go.ChangeAt Go.RowKit
open Go.ChangeMaps (open_string shut_string)

theorem own : ownKnob Try.prog.godebug = none := by kernel_rfl

theorem Z.endK_at : ∀ (l : List Z.Pt) (d : Int) (f : ByteArray) (k : Nat) (p : Z.Pt), l.length = k + 1 → l[k]? = some p → Z.endK d f l = (p.d, p.f)
  | [], _, _, _, _, h, _ => by cases h
  | [x], _, _, k, p, h, hk => by
    have : k = 0 := by simpa using h.symm
    subst this
    injection hk with hk
    subst hk
    rfl
  | x :: y :: r, _, _, k, p, h, hk => by
    cases k with
    | zero => simp at h
    | succ j => exact endK_at (y :: r) x.d x.f j p (by simpa using h) hk
set_option maxRecDepth 100000 in
set_option maxHeartbeats 16000000 in
theorem walk (base : Int) (v : Value) (l : List Z.Qt) (n : Int) (w : World) (_e0 : -9223372036854775808 ≤ base) (_e1 : base ≤ 9223372036854775807) (hQ : SQ w v l) (_e2 : -9223372036854775808 ≤ n) (_e3 : n ≤ 9223372036854775807) (hV : HasV w) :
    Calls Try.prog 5 #[.int .i64 base, v, .int .i64 n] w fun e w' => e = .returned (.bool true) ∧ Below w.heap.size w w' := by
  have HQ := Lib.hid hQ
  have HV := Lib.hid hV
  obtain ⟨A, cp, rfl, hlc, hcm⟩ := hQ.shape
  unfold maxLen at hcm
  clear hQ hV
  go_enter Try.func5, Try.ntmps5
  go_wp2_with fail
  refine (cualive_any w HV.out).mono ?_
  rintro e W1 ⟨rfl, h1⟩
  go_wp2_with fail
  refine (greatq_any _ l W1 (HQ.out.below h1)).mono ?_
  rintro e W2 ⟨rfl, hb⟩
  have h2 := h1.trans (hb.mono h1.size)
  clear hb h1
  cases hg : Z.greatQ l
  case true =>
    go_wp2_with fail
    go_ret
    exact ⟨rfl, h2⟩
  have hgq := (greatq_qsm hg).2
  have HQS : Hid (∀ q ∈ l, QSm q) := Lib.hid hgq
  clear hgq
  clear hg _e0 _e1
  by_cases hn0 : n < 0
  · go_wp2_with fail
    go_ret
    exact ⟨rfl, h2⟩
  by_cases hn1 : 99999 < n
  · go_wp2_with fail
    go_ret
    exact ⟨rfl, h2⟩
  have hb0 : 0 ≤ n := by omega
  have hb1 : n ≤ 99999 := by omega
  have HB : Hid (Calls Try.prog 11 #[.int .i64 base, .slice A l.length cp] W2 (BootRet (Z.bootR base l) W2)) := Lib.hid (boot_any base _ l W2 (HQ.out.below h2) (HV.out.below h2) HQS.out)
  obtain ⟨p, hp⟩ : ∃ p, p = Z.bootR base l := ⟨_, rfl⟩
  rw [← hp] at HB
  have HF : Hid (p.2 = 0 → (p.1.base = base ∧ p.1.pts.length = l.length ∧ 0 ≤ base ∧ base ≤ 99999 ∧ l.length ≤ 20000) ∧ (∀ q ∈ l, q.dates.length ≤ 20000 ∧ ∀ d ∈ q.dates, 0 ≤ d ∧ d ≤ 99999) ∧ (∀ x ∈ p.1.pts, 0 ≤ x.d ∧ x.d ≤ 99999) ∧ (p.1.endK.1 + n ≤ 99999 → Z.bootR (base + n) (l.map (Z.Qt.mv n)) = (p.1.mv n, 0))) := Lib.hid (fun h0 => by
    have hb : Z.bootR base l = (p.1, 0) := by rw [← hp]; exact Prod.ext rfl h0
    obtain ⟨f1, f2, f3, f4⟩ := Z.boot_facts hb
    obtain ⟨g1, g2, g3, g4, g5⟩ := Z.boot_ok hb
    obtain ⟨_, c2, c3⟩ := Z.cuE_ok f1
    rw [f2] at c2
    refine ⟨⟨f2, f3, c2.1, c2.2, by omega⟩, fun q hq => ?_, fun x hx => ?_, fun hl => Z.moves hb hb0 hl⟩
    · have hqq := Z.qts_ok l base g3 q hq
      obtain ⟨_, k2, k3, k4⟩ := Z.qt_last hqq
      exact ⟨by have := (Z.qt_ok hqq).1; omega, fun d hd => by have := k4 d hd; omega⟩
    · obtain ⟨i, hi⟩ := List.getElem?_of_mem hx
      have hil : i < l.length := by rw [← f3]; exact (List.getElem?_eq_some_iff.1 hi).1
      obtain ⟨y, h5, _⟩ := f4 i _ (List.getElem?_eq_getElem hil)
      rw [hi] at h5
      injection h5 with h5
      subst h5
      have hqq := Z.qts_ok l base g3 _ (List.getElem_mem hil)
      exact ⟨(Z.qt_last hqq).2.1, (Z.qt_last hqq).2.2.1⟩)
  clear hp
  go_wp2_with fail
  refine HB.out.mono ?_
  rintro e W3 ⟨u, rfl, ho, hb3⟩
  have h3 := h2.trans (hb3.mono h2.size)
  obtain ⟨Au, cu, rfl⟩ := ho.shape
  have BC := Blk.new W3 27 #[.int .i64 p.1.base, .slice Au p.1.pts.length cu]
  have h4 := h3.alloc h3.size (.cells #[.int .i64 p.1.base, .slice Au p.1.pts.length cu] 27)
  have HSP := Lib.hid (OL.sl Z.Pt.vs_len (OL.alloc ho (.cells #[.int .i64 p.1.base, .slice Au p.1.pts.length cu] 27)))
  have h3z := h3.size
  clear HB hb3 ho
  by_cases h0 : p.2 = 0
  case neg =>
    have hpb := ne_bne h0
    clear HF h0 HSP
    go_wp2_with fail
    go_ret
    exact ⟨rfl, h4⟩
  obtain ⟨⟨f2, f3, hbs0, hbs1, hll⟩, fd, fp, fm⟩ := HF.out h0
  rw [h0]
  have HFD := Lib.hid fd
  have HFP := Lib.hid fp
  have HFM : Hid (p.1.endK.1 + n ≤ 99999 → Z.bootR (base + n) (l.map (Z.Qt.mv n)) = (⟨base + n, p.1.pts.map (Z.Pt.mv n)⟩, 0)) := Lib.hid (fun h => by
    have := fm h
    unfold Z.Cu.mv at this
    rw [f2] at this
    exact this)
  have HF3 := Lib.hid f3
  have HEK : Hid (∀ k q, l.length = k + 1 → p.1.pts[k]? = some q → p.1.endK.1 = q.d) := Lib.hid (fun k q hk hq => congrArg Prod.fst (Z.endK_at p.1.pts p.1.base Z.z49 k q (by rw [f3]; exact hk) hq))
  have HE0 : Hid (l.length = 0 → p.1.endK.1 = base) := Lib.hid (fun hk => by
    have : p.1.pts = [] := List.eq_nil_of_length_eq_zero (by rw [f3]; exact hk)
    show (Z.endK p.1.base Z.z49 p.1.pts).1 = base
    rw [this, f2]; rfl)
  rw [f2, f3] at BC h4 HSP ⊢
  clear HF fd fp fm f2 f3 h0
  have c0 := BC.cell 0
  have c1 := BC.cell 1
  go_upto_if 49 with fail
  generalize (W3.alloc (.cells #[.int .i64 base, .slice Au l.length cu] 27)) = W4 at *
  generalize W3.heap.size = Bc at *
  clear h3
  -- the last day, and whether it may be moved
  have hmid : ∀ (X : Act → World → Prop), True := fun _ => trivial
  clear hmid
  generalize hlast : p.1.endK.1 = last at *
  go_cut [10] (fun lv wx => lv = .int .i64 last ∧ wx = W4)
  case first =>
    by_cases hk : l.length = 0
    · have hl9 := HE0.out hk
      have hk0 : ¬ 0 < l.length := by omega
      have HK := Lib.hid hk
      clear HF3 HFD HEK HE0 HFM hk
      go_wp2_with fail
      go_meet
      exact ⟨by rw [hl9], rfl⟩
    · have hk0 : 0 < l.length := by omega
      have k0 : (0 : Int) ≤ (l.length : Int) - 1 := by omega
      have k1 : (l.length : Int) - 1 < (l.length : Int) := by omega
      have hne : ¬ l = [] := fun e => by rw [e] at hk0; exact absurd hk0 (Nat.lt_irrefl 0)
      obtain ⟨m, hm⟩ : ∃ m : Nat, l.length = m + 1 := ⟨l.length - 1, by omega⟩
      have hml : m < p.1.pts.length := by rw [HF3.out, hm]; exact Nat.lt_succ_self m
      have hq : p.1.pts[m]? = some p.1.pts[m] := List.getElem?_eq_getElem hml
      have hqe := HEK.out m _ hm hq
      obtain ⟨b, o, hA, hbl, hc0, -⟩ := SP.cells HSP.out hq
      rw [← hqe] at hc0
      subst hA
      have hm2 : m = l.length - 1 := by omega
      rw [hm2] at hc0
      clear hk hm hml hq hqe hm2
      go_wp2_with fail
      go_meet
      exact ⟨rfl, rfl⟩
  case rest =>
    obtain ⟨rfl, hw⟩ := hcut
    subst hw
    by_cases hbig : 99999 - n < last
    · clear HF3 HFD HEK HE0 HFM
      go_wp2_with fail
      go_ret
      exact ⟨rfl, h4⟩
    have hl9 : ¬ 99999 - n < last := hbig
    have HM := Lib.hid (HFM.out (by omega))
    have HB2 : Hid (∀ X u, SQ X u (l.map (Z.Qt.mv n)) → Below w.heap.size w X → Calls Try.prog 11 #[.int .i64 (base + n), u] X fun e w' => ∃ Av cv, e = .returned (.tuple #[.agg #[.int .i64 (base + n), .slice Av l.length cv], .int .i64 0]) ∧ SP w' (.slice Av l.length cv) (p.1.pts.map (Z.Pt.mv n)) ∧ Below X.heap.size X w') := Lib.hid fun X u hs h => (boot_any (base + n) u (l.map (Z.Qt.mv n)) X hs (HV.out.below h) (fun q hq => by
      obtain ⟨q0, hq0, rfl⟩ := List.mem_map.1 hq
      exact HQS.out q0 hq0)).mono fun e w' hr => by
        rw [HM.out] at hr
        obtain ⟨u2, he, ho2, hb5⟩ := hr
        obtain ⟨Av, cv, rfl⟩ := ho2.shape
        have hs := OL.sl Z.Pt.vs_len ho2
        have hlm : (p.1.pts.map (Z.Pt.mv n)).length = l.length := by rw [List.length_map, HF3.out]
        have he : e = .returned (.tuple #[.agg #[.int .i64 (base + n), .slice Av (p.1.pts.map (Z.Pt.mv n)).length cv], .int .i64 0]) := he
        have hs : SP w' (.slice Av (p.1.pts.map (Z.Pt.mv n)).length cv) (p.1.pts.map (Z.Pt.mv n)) := hs
        rw [hlm] at he hs
        exact ⟨Av, cv, he, hs, hb5⟩
    have HMV := Lib.hid (moved_any (.slice A l.length cp) l n _ (HQ.out.below h4) hll HFD.out hb0 hb1)
    clear HFM HM hbig HEK HE0 HFD
    go_wp2_with fail
    refine HMV.out.mono ?_
    rintro e W5 ⟨u, rfl, hsq, hb5⟩
    have h5 := h4.trans (hb5.mono h4.size)
    have HB3 := Lib.hid (HB2.out W5 u hsq h5)
    have BC5 := BC.below hb5
    have HS5 := Lib.hid (HSP.out.below hb5)
    clear HB2 HMV hsq hb5 BC HSP c0 c1
    go_wp2_with fail
    refine HB3.out.mono ?_
    rintro e W6 ⟨Av, cv, rfl, hs2, hb6⟩
    have h6 := h5.trans (hb6.mono h5.size)
    have BC6 := (BC5.below hb6).alloc (.cells #[.int .i64 (base + n), .slice Av l.length cv] 27)
    have HS6 := Lib.hid (SL.alloc (HS5.out.below hb6) (.cells #[.int .i64 (base + n), .slice Av l.length cv] 27))
    have BD := Blk.new W6 27 #[.int .i64 (base + n), .slice Av l.length cv]
    have HT6 := Lib.hid (SL.alloc hs2 (.cells #[.int .i64 (base + n), .slice Av l.length cv] 27))
    have h7 := h6.alloc h6.size (.cells #[.int .i64 (base + n), .slice Av l.length cv] 27)
    have c0 := BC6.cell 0
    have c1 := BC6.cell 1
    have d0 := BD.cell 0
    have d1 := BD.cell 1
    clear HB3 hs2 hb6 BC5 HS5
    go_wp2_with fail
    generalize (W6.alloc (.cells #[.int .i64 (base + n), .slice Av l.length cv] 27)) = W7 at *
    generalize W6.heap.size = Bd at *
    go_loopw [13] (fun iv wr => ∃ k : Nat, k ≤ l.length ∧ iv = .int .i64 k ∧ Below W7.heap.size W7 wr) (fun iv _ => l.length - (intOf iv).toNat)
    case atStart => exact ⟨0, by omega, rfl, Below.refl _ _⟩
    case round =>
      obtain ⟨k, hk, rfl, hbr⟩ := hrel
      have BCr := BC6.below hbr
      have BDr := BD.below hbr
      have c0 := BCr.cell 0
      have c1 := BCr.cell 1
      have hbw := h7.trans (hbr.mono h7.size)
      by_cases hlt : k < l.length
      · have hkp : k < p.1.pts.length := by rw [HF3.out]; exact hlt
        have hz : p.1.pts[k]? = some p.1.pts[k] := List.getElem?_eq_getElem hkp
        have hz2 : (p.1.pts.map (Z.Pt.mv n))[k]? = some (Z.Pt.mv n p.1.pts[k]) := by rw [List.getElem?_map, hz]; rfl
        obtain ⟨b, o, hA, hbl, q0, q1⟩ := SP.cells (HS6.out.below hbr) hz
        obtain ⟨b2, o2, hA2, hbl2, r0, r1⟩ := SP.cells (HT6.out.below hbr) hz2
        obtain ⟨x0, x1⟩ := HFP.out _ (List.mem_of_getElem? hz)
        clear hz hz2
        generalize p.1.pts[k] = q at *
        clear hkp
        have r0 : wr.cell? ⟨b2, o2 + k * 2, none⟩ = some (.int .i64 (q.d + n)) := r0
        have r1 : wr.cell? ⟨b2, o2 + k * 2 + 1, none⟩ = some (.string q.f) := r1
        subst hA hA2
        have k0 : (0 : Int) ≤ (k : Int) := by omega
        have k1 : (k : Int) < (l.length : Int) := by omega
        have f0 : ∀ y : Ab wr, y.1.cell? ⟨Bc, 1, none⟩ = some (.slice (some ⟨b, o, none⟩) l.length cu) := fun y => (Ab.cells (x := y) BCr).cell 1
        have f1 : ∀ y : Ab wr, y.1.cell? ⟨Bd, 1, none⟩ = some (.slice (some ⟨b2, o2, none⟩) l.length cv) := fun y => (Ab.cells (x := y) BDr).cell 1
        have f2 : ∀ y : Ab wr, y.1.cell? ⟨b, o + k * 2, none⟩ = some (.int .i64 q.d) := fun y => (y.2.cell (p := ⟨b, o + k * 2, none⟩) hbl).trans q0
        have f3 : ∀ y : Ab wr, y.1.cell? ⟨b, o + k * 2 + 1, none⟩ = some (.string q.f) := fun y => (y.2.cell (p := ⟨b, o + k * 2 + 1, none⟩) hbl).trans q1
        have f4 : ∀ y : Ab wr, y.1.cell? ⟨b2, o2 + k * 2, none⟩ = some (.int .i64 (q.d + n)) := fun y => (y.2.cell (p := ⟨b2, o2 + k * 2, none⟩) hbl2).trans r0
        have f5 : ∀ y : Ab wr, y.1.cell? ⟨b2, o2 + k * 2 + 1, none⟩ = some (.string q.f) := fun y => (y.2.cell (p := ⟨b2, o2 + k * 2 + 1, none⟩) hbl2).trans r1
        clear q0 q1 r0 r1
        go_upto_region 20 with fail
        refine wp_region_above (by kernel_rfl) (by kernel_rfl) ?_
        repeat (go_big_quiet_step (fail))
        refine wpQuiet_nil ?_
        rintro _ ⟨x, rfl⟩
        have hx := hbr.trans (x.2.mono hbr.size)
        clear f0 f1 f2 f3 f4 f5
        go_wp2_with fail
        go_roundw
        case rel => exact ⟨k + 1, by omega, by go_num, hx⟩
        case measure => simp [intOf]; omega
      · obtain rfl : k = l.length := by omega
        go_wp2_with fail
        go_ret
        exact ⟨rfl, hbw⟩

set_option maxRecDepth 100000 in
theorem lifted (os : Os) (started : os.Started) (H : Type) (enc : TypeId × Value → H) :
    ReturnsInHanded {} Try.checked os 5 .any (Rows.curveMovesSpec.pre6 enc Try.prog Try.f5 Rows.curveMovesRow.domain false) (Rows.curveMovesSpec.post enc Try.prog Try.f5 false true false false) := by
  refine returnsInHanded_of_change_shaped (C := Try.checked) own started (by kernel_rfl) Try.func5
    (ChangeSpec.witness6 (enc := enc) (C := Try.checked) false ⟨#[], #[.int .i64 0, .slice none 0 0, .int .i64 0], []⟩ 8 (by kernel_rfl) (by kernel_rfl) (by kernel_rfl) (by kernel_rfl)) ?_
  intro W base args ds gs before hval0 hW hcnd _ hsh _
  have hval : ∀ (j : Nat) t v, Try.f5.params[j]? = some t → args[j]? = some v → Value.okWide Try.prog W .any base t v := hval0
  have hW' := hW
  obtain ⟨p, q, hA0, hV, rfl, hfz, hnd⟩ := hW
  have hA : DataW.TrodAll enc Try.prog W 0 (fun _ => true) true Try.f5.params.toList args.toList ds p := hA0
  rw [Try.params5] at hA hval
  obtain ⟨v0, vs0, d0, ds0, p0, q0, hargs, rfl, rfl, h0, r0⟩ := trodAll_cons hA
  obtain ⟨v1, vs1, d1, ds1, p1, q1, rfl, rfl, rfl, h1, r1⟩ := trodAll_cons r0
  obtain ⟨v2, vs2, d2, ds2, p2, q2, rfl, rfl, rfl, h2, r2⟩ := trodAll_cons r1
  obtain ⟨rfl, rfl, rfl⟩ := trodAll_nil r2
  obtain rfl : args = #[v0, v1, v2] := by cases args; simp_all
  obtain ⟨rfl, rfl⟩ := trodVars_none hV
  obtain ⟨a0, rfl, rfl, rfl, w0⟩ := open_int Try.underlying3 (hval 0 3 v0 rfl rfl) h0
  have k1 := h1
  obtain ⟨l1, si1⟩ := quotes_open (hval 1 22 v1 rfl rfl) h1
  obtain ⟨a2, rfl, rfl, rfl, w2⟩ := open_int Try.underlying3 (hval 2 3 v2 rfl rfl) h2
  clear hA0 hval0
  have bd0 := bounds_i64 w0
  have bd2 := bounds_i64 w2
  refine (walk a0 v1 l1 a2 W bd0.1 bd0.2 si1 bd2.1 bd2.2 (Try.laysM145.s1_3 W hsh)).mono fun e W' ⟨he, bel⟩ => ?_
  subst he
  exact ⟨_, rfl, _, _, _, [], _, [], hW', trodAll_mk1 (shut_bool Try.underlying4 _), (trodAll_cons_mk (shut_int Try.underlying3 w0) (trodAll_cons_mk (arg_stays (by kernel_rfl) (of_decide_eq_true (by kernel_rfl)) k1 bel) (trodAll_cons_mk (shut_int Try.underlying3 w2) trodAll_mk0))), rfl, bel.frame _, fun h => by cases h⟩

theorem over : Rows.curveMovesRow.holds Try.pinned (OpenSpec.ofChange Rows.curveMovesSpec) :=
  OpenClaim.holds_of_wide 5 Try.f5 rfl rfl rfl rfl rfl rfl rfl ⟨rfl, rfl, rfl, rfl, rfl⟩ rfl rfl rfl rfl rfl (by kernel_rfl) Try.func5 (by kernel_rfl)
    (of_decide_eq_true (by kernel_rfl)) (by unfold Func.isWrapper; first | (rw [if_pos (by decide +kernel)]; kernel_rfl) | (rw [if_neg (by decide +kernel)]; exact ⟨rfl, rfl⟩))
    (fun os started H enc _ => lifted os started H enc)

theorem proved : Rows.CurveMovesSaid := over
#print axioms proved
