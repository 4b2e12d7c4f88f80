/-
  Between two neighbouring knots equal steps change the factor by equal amounts.
-/
import Derived.Test.YtpnojgaehafjdaaRows
import Derived.Test.YtpnojgaehafjdaaCva
import Derived.Test.YtpnojgaehafjdaaCvfr
import Derived.HandedShaped
import Derived.ProofKit
import Derived.OpenShut
import Derived.ShutString
namespace Go.Proofs.Ytpnojgaehafjdaa.lawStraight
open Go.ChangeShapes Go.WideShapes Go.ChangeAt Go.RowKit
open Go.ChangeMaps (open_string shut_string)

theorem own : ownKnob Try.prog.godebug = none := by kernel_rfl

theorem pts_chk : ∀ (l : List Z.Pt) (a : Int), Z.ptsE a l = 0 → ∀ p ∈ l, Z.rchk p.f = 0
  | [], _, _, p, hp => by cases hp
  | q :: r, a, h, p, hp => by
    obtain ⟨_, _, g3, _, g5⟩ := Z.ptsE_cons h
    rcases List.mem_cons.1 hp with rfl | hp
    · exact g3
    · exact pts_chk r q.d g5 p hp
theorem fromD_zero (c : Z.Cu) : Z.fromD c 0 = c.base := rfl
theorem fromD_succ {c : Z.Cu} {j : Nat} {q : Z.Pt} (h : c.pts[j]? = some q) : Z.fromD c (j + 1) = q.d := by
  have : c.pts.take (j + 1) = c.pts.take j ++ [q] := by rw [List.take_add_one, h]; rfl
  unfold Z.fromD
  rw [this]
  exact congrArg Prod.fst (Z.endK_snoc _ _ _ _)
set_option maxRecDepth 100000 in
set_option maxHeartbeats 16000000 in
theorem walk (u : Value) (c : Z.Cu) (i day step : Int) (w : World) (hS : SP w u c.pts) (_e0 : -9223372036854775808 ≤ i) (_e1 : i ≤ 9223372036854775807) (_e2 : -9223372036854775808 ≤ day) (_e3 : day ≤ 9223372036854775807) (_e4 : -9223372036854775808 ≤ step) (_e5 : step ≤ 9223372036854775807) (hV : HasV w) :
    Calls Try.prog 4 #[.agg #[.int .i64 c.base, u], .int .i64 i, .int .i64 day, .int .i64 step] w fun e w' => e = .returned (.bool true) ∧ Below w.heap.size w w' := by
  have h0 := (Below.refl _ w).alloc (Nat.le_refl w.heap.size) (.cells #[.int .i64 c.base, u] 27)
  have BC0 := Blk.new w 27 #[.int .i64 c.base, u]
  have c0 := BC0.cell 0
  have c1 := BC0.cell 1
  have HS := Lib.hid hS
  have HV := Lib.hid hV
  clear hS hV
  go_enter Try.func4, Try.ntmps4
  go_wp2_with fail
  generalize (w.alloc (.cells #[.int .i64 c.base, u] 27)) = W0 at *
  refine (cualive_any W0 (HV.out.below h0)).mono ?_
  rintro e W1 ⟨rfl, hb⟩
  have h1 := h0.trans (hb.mono h0.size)
  have BC1 := BC0.below hb
  clear hb c0 c1 BC0
  have c0 := BC1.cell 0
  have c1 := BC1.cell 1
  go_wp2_with fail
  refine (greatcu_any c u W1 (HS.out.below h1)).mono ?_
  rintro e W2 ⟨rfl, hb⟩
  have h2 := h1.trans (hb.mono h1.size)
  have BC2 := BC1.below hb
  clear hb c0 c1 BC1
  have c0 := BC2.cell 0
  have c1 := BC2.cell 1
  cases hg : Z.greatC c
  case true =>
    go_wp2_with fail
    go_ret
    exact ⟨rfl, h2⟩
  obtain ⟨hgl, hgs⟩ := greatc_csm hg
  have HCS : Hid (CSm c) := Lib.hid (fun p hp => by have := hgs p hp; omega)
  have HGS := Lib.hid hgs
  clear hg hgl hgs _e0 _e1 _e2 _e3 _e4 _e5
  go_wp2_with fail
  refine (cucheck_any c u W2 (HS.out.below h2) (HV.out.below h2) HCS.out).mono ?_
  rintro e W3 ⟨rfl, hb⟩
  have h3 := h2.trans (hb.mono h2.size)
  have BC3 := BC2.below hb
  clear hb c0 c1 BC2
  have c0 := BC3.cell 0
  have c1 := BC3.cell 1
  by_cases hc : Z.cuE c = 0
  case neg =>
    have hcb := ne_bne hc
    go_wp2_with fail
    go_ret
    exact ⟨rfl, h3⟩
  rw [hc]
  obtain ⟨A, cp, rfl, hlc, hcm⟩ := HS.out.shape
  unfold maxLen at hcm
  by_cases hi0 : i < 0
  · go_wp2_with fail
    go_ret
    exact ⟨rfl, h3⟩
  by_cases hi1 : (c.pts.length : Int) ≤ i
  · go_wp2_with fail
    go_ret
    exact ⟨rfl, h3⟩
  obtain ⟨k, rfl⟩ : ∃ k : Nat, i = k := ⟨i.toNat, by omega⟩
  have hkl : k < c.pts.length := by omega
  have hz : c.pts[k]? = some c.pts[k] := List.getElem?_eq_getElem hkl
  obtain ⟨b, o, rfl, hbl, q0, q1⟩ := SP.cells (HS.out.below h3) hz
  have HST := Lib.hid (fun (h1 : Z.fromD c k ≤ day) (h2 : 0 ≤ step) (h3 : day + 2 * step ≤ c.pts[k].d) => Z.straight hc (fun p hp => by
    obtain ⟨x, hx, hr⟩ := Z.rt_of_size (s := p.f) (n := 100) (pts_chk _ _ (Z.cuE_ok hc).2.2 p hp) (HGS.out p hp) (by omega)
    rw [hx, Z.rq_Q]; exact hr) hz h1 h2 h3)
  have hpd := (Z.pts_ok _ _ (Z.cuE_ok hc).2.2 _ (List.getElem_mem hkl)).1
  have hfr := (Z.on_line hc hz).1
  have hcb0 := (Z.cuE_ok hc).2.1
  clear hz hc
  generalize c.pts[k] = p at *
  obtain ⟨pd0, pd1⟩ := hpd
  cases k with
  | zero =>
    have HFR := Lib.hid (fromD_zero c)
    rw [HFR.out] at hfr
    simp only [Nat.zero_mul, Nat.add_zero] at q0 q1
    have hpne : ¬ c.pts = [] := fun h => by rw [h] at hkl; exact absurd hkl (by decide)
    by_cases g1 : day < c.base
    · go_wp2_with fail
      go_ret
      exact ⟨rfl, h3⟩
    by_cases g2 : step < 0
    · go_wp2_with fail
      go_ret
      exact ⟨rfl, h3⟩
    by_cases g3 : p.d < step
    · go_wp2_with fail
      go_ret
      exact ⟨rfl, h3⟩
    by_cases g4 : p.d - 2 * step < day
    · go_wp2_with fail
      go_ret
      exact ⟨rfl, h3⟩
    obtain ⟨a, b', d, x, ha, hb', hd, hs1, hs2, za, zb, zd⟩ := HST.out (by rw [HFR.out]; omega) (by omega) (by omega)
    have y0 : 0 ≤ day := by omega
    have y1 : day ≤ 99999 := by omega
    have y2 : step ≤ 99999 := by omega
    have CA1 : Hid (∀ W, Below w.heap.size w W → Calls Try.prog 15 #[.agg #[.int .i64 c.base, .slice (some ⟨b, o, none⟩) c.pts.length cp], .int .i64 day] W (RRet (a, 0) W)) := Lib.hid fun W h => by rw [← ha]; exact factorF_any c _ day W (HS.out.below h) (HV.out.below h) HCS.out
    have CB1 : Hid (∀ W, Below w.heap.size w W → Calls Try.prog 15 #[.agg #[.int .i64 c.base, .slice (some ⟨b, o, none⟩) c.pts.length cp], .int .i64 (day + step)] W (RRet (b', 0) W)) := Lib.hid fun W h => by rw [← hb']; exact factorF_any c _ (day + step) W (HS.out.below h) (HV.out.below h) HCS.out
    have CD1 : Hid (∀ W, Below w.heap.size w W → Calls Try.prog 15 #[.agg #[.int .i64 c.base, .slice (some ⟨b, o, none⟩) c.pts.length cp], .int .i64 (day + 2 * step)] W (RRet (d, 0) W)) := Lib.hid fun W h => by rw [← hd]; exact factorF_any c _ (day + 2 * step) W (HS.out.below h) (HV.out.below h) HCS.out
    have CS1 : Hid (∀ W, Below w.heap.size w W → Calls Try.prog 16 #[.string b', .string a] W (RRet (x, 0) W)) := Lib.hid fun W h => by rw [← hs1]; exact qsub_any b' a W (HV.out.below h) (by omega) (by omega)
    have CS2 : Hid (∀ W, Below w.heap.size w W → Calls Try.prog 16 #[.string d, .string b'] W (RRet (x, 0) W)) := Lib.hid fun W h => by rw [← hs2]; exact qsub_any d b' W (HV.out.below h) (by omega) (by omega)
    clear ha hb' hd hs1 hs2 za zb zd HST
    go_wp2_with fail
    refine (CA1.out W3 h3).mono ?_
    rintro e W4 ⟨rfl, hb⟩
    have h4 := h3.trans (hb.mono h3.size)
    have BC4 := BC3.below hb
    clear hb c0 c1
    have c0 := BC4.cell 0
    have c1 := BC4.cell 1
    go_wp2_with fail
    refine (CB1.out W4 h4).mono ?_
    rintro e W5 ⟨rfl, hb⟩
    have h5 := h4.trans (hb.mono h4.size)
    have BC5 := BC4.below hb
    clear hb c0 c1
    have c0 := BC5.cell 0
    have c1 := BC5.cell 1
    go_wp2_with fail
    refine (CD1.out W5 h5).mono ?_
    rintro e W6 ⟨rfl, hb⟩
    have h6 := h5.trans (hb.mono h5.size)
    clear hb c0 c1
    go_wp2_with fail
    refine (CS1.out W6 h6).mono ?_
    rintro e W7 ⟨rfl, hb⟩
    have h7 := h6.trans (hb.mono h6.size)
    clear hb
    go_wp2_with fail
    refine (CS2.out W7 h7).mono ?_
    rintro e W8 ⟨rfl, hb⟩
    have h8 := h7.trans (hb.mono h7.size)
    clear hb
    go_wp2_with fail
    refine (is_any _ _ _ _).mono ?_
    rintro e w2 ⟨rfl, rfl⟩
    rw [decide_eq_true (by exact ⟨rfl, rfl⟩)]
    go_wp2_with fail
    go_ret
    exact ⟨rfl, h8⟩
  | succ j =>
    have hzj : c.pts[j]? = some c.pts[j] := List.getElem?_eq_getElem (by omega)
    obtain ⟨b2, o2, hA2, hbl2, p0, p1⟩ := SP.cells (HS.out.below h3) hzj
    injection hA2 with hA2
    injection hA2 with hA2 hA3 _
    subst hA2 hA3
    have HFR := Lib.hid (fromD_succ hzj)
    rw [HFR.out] at hfr
    clear hzj
    generalize c.pts[j] = pj at *
    have j0 : (0 : Int) ≤ (j : Int) := by omega
    have j1 : (j : Int) + 1 < (c.pts.length : Int) := by omega
    have j2 : (j : Int) < (c.pts.length : Int) := by omega
    have j3 : (0 : Int) < (j : Int) + 1 := by omega
    by_cases g1 : day < pj.d
    · go_wp2_with fail
      go_ret
      exact ⟨rfl, h3⟩
    by_cases g2 : step < 0
    · go_wp2_with fail
      go_ret
      exact ⟨rfl, h3⟩
    by_cases g3 : p.d < step
    · go_wp2_with fail
      go_ret
      exact ⟨rfl, h3⟩
    by_cases g4 : p.d - 2 * step < day
    · go_wp2_with fail
      go_ret
      exact ⟨rfl, h3⟩
    obtain ⟨a, b', d, x, ha, hb', hd, hs1, hs2, za, zb, zd⟩ := HST.out (by rw [HFR.out]; omega) (by omega) (by omega)
    have y0 : 0 ≤ day := by omega
    have y1 : day ≤ 99999 := by omega
    have y2 : step ≤ 99999 := by omega
    have CA1 : Hid (∀ W, Below w.heap.size w W → Calls Try.prog 15 #[.agg #[.int .i64 c.base, .slice (some ⟨b, o, none⟩) c.pts.length cp], .int .i64 day] W (RRet (a, 0) W)) := Lib.hid fun W h => by rw [← ha]; exact factorF_any c _ day W (HS.out.below h) (HV.out.below h) HCS.out
    have CB1 : Hid (∀ W, Below w.heap.size w W → Calls Try.prog 15 #[.agg #[.int .i64 c.base, .slice (some ⟨b, o, none⟩) c.pts.length cp], .int .i64 (day + step)] W (RRet (b', 0) W)) := Lib.hid fun W h => by rw [← hb']; exact factorF_any c _ (day + step) W (HS.out.below h) (HV.out.below h) HCS.out
    have CD1 : Hid (∀ W, Below w.heap.size w W → Calls Try.prog 15 #[.agg #[.int .i64 c.base, .slice (some ⟨b, o, none⟩) c.pts.length cp], .int .i64 (day + 2 * step)] W (RRet (d, 0) W)) := Lib.hid fun W h => by rw [← hd]; exact factorF_any c _ (day + 2 * step) W (HS.out.below h) (HV.out.below h) HCS.out
    have CS1 : Hid (∀ W, Below w.heap.size w W → Calls Try.prog 16 #[.string b', .string a] W (RRet (x, 0) W)) := Lib.hid fun W h => by rw [← hs1]; exact qsub_any b' a W (HV.out.below h) (by omega) (by omega)
    have CS2 : Hid (∀ W, Below w.heap.size w W → Calls Try.prog 16 #[.string d, .string b'] W (RRet (x, 0) W)) := Lib.hid fun W h => by rw [← hs2]; exact qsub_any d b' W (HV.out.below h) (by omega) (by omega)
    clear ha hb' hd hs1 hs2 za zb zd HST
    go_wp2_with fail
    refine (CA1.out W3 h3).mono ?_
    rintro e W4 ⟨rfl, hb⟩
    have h4 := h3.trans (hb.mono h3.size)
    have BC4 := BC3.below hb
    clear hb c0 c1
    have c0 := BC4.cell 0
    have c1 := BC4.cell 1
    go_wp2_with fail
    refine (CB1.out W4 h4).mono ?_
    rintro e W5 ⟨rfl, hb⟩
    have h5 := h4.trans (hb.mono h4.size)
    have BC5 := BC4.below hb
    clear hb c0 c1
    have c0 := BC5.cell 0
    have c1 := BC5.cell 1
    go_wp2_with fail
    refine (CD1.out W5 h5).mono ?_
    rintro e W6 ⟨rfl, hb⟩
    have h6 := h5.trans (hb.mono h5.size)
    clear hb c0 c1
    go_wp2_with fail
    refine (CS1.out W6 h6).mono ?_
    rintro e W7 ⟨rfl, hb⟩
    have h7 := h6.trans (hb.mono h6.size)
    clear hb
    go_wp2_with fail
    refine (CS2.out W7 h7).mono ?_
    rintro e W8 ⟨rfl, hb⟩
    have h8 := h7.trans (hb.mono h7.size)
    clear hb
    go_wp2_with fail
    refine (is_any _ _ _ _).mono ?_
    rintro e w2 ⟨rfl, rfl⟩
    rw [decide_eq_true (by exact ⟨rfl, rfl⟩)]
    go_wp2_with fail
    go_ret
    exact ⟨rfl, h8⟩

set_option maxRecDepth 100000 in
theorem lifted (os : Os) (started : os.Started) (H : Type) (enc : TypeId × Value → H) :
    ReturnsInHanded {} Try.checked os 4 .any (Rows.curveStraightSpec.pre6 enc Try.prog Try.f4 Rows.curveStraightRow.domain false) (Rows.curveStraightSpec.post enc Try.prog Try.f4 false true false false) := by
  refine returnsInHanded_of_change_shaped (C := Try.checked) own started (by kernel_rfl) Try.func4
    (ChangeSpec.witness6 (enc := enc) (C := Try.checked) false ⟨#[], #[.agg #[.int .i64 0, .slice none 0 0], .int .i64 0, .int .i64 0, .int .i64 0], []⟩ 8 (by kernel_rfl) (by kernel_rfl) (by kernel_rfl) (by kernel_rfl)) ?_
  intro W base args ds gs before hval0 hW hcnd _ hsh _
  have hval : ∀ (j : Nat) t v, Try.f4.params[j]? = some t → args[j]? = some v → Value.okWide Try.prog W .any base t v := hval0
  have hW' := hW
  obtain ⟨p, q, hA0, hV, rfl, hfz, hnd⟩ := hW
  have hA : DataW.TrodAll enc Try.prog W 0 (fun _ => true) true Try.f4.params.toList args.toList ds p := hA0
  rw [Try.params4] at hA hval
  obtain ⟨v0, vs0, d0, ds0, p0, q0, hargs, rfl, rfl, h0, r0⟩ := trodAll_cons hA
  obtain ⟨v1, vs1, d1, ds1, p1, q1, rfl, rfl, rfl, h1, r1⟩ := trodAll_cons r0
  obtain ⟨v2, vs2, d2, ds2, p2, q2, rfl, rfl, rfl, h2, r2⟩ := trodAll_cons r1
  obtain ⟨v3, vs3, d3, ds3, p3, q3, rfl, rfl, rfl, h3, r3⟩ := trodAll_cons r2
  obtain ⟨rfl, rfl, rfl⟩ := trodAll_nil r3
  obtain rfl : args = #[v0, v1, v2, v3] := by cases args; simp_all
  obtain ⟨rfl, rfl⟩ := trodVars_none hV
  have k0 := h0
  obtain ⟨u0, l0, rfl, si0⟩ := curve_open (hval 0 27 v0 rfl rfl) h0
  obtain ⟨a1, rfl, rfl, rfl, w1⟩ := open_int Try.underlying3 (hval 1 3 v1 rfl rfl) h1
  obtain ⟨a2, rfl, rfl, rfl, w2⟩ := open_int Try.underlying3 (hval 2 3 v2 rfl rfl) h2
  obtain ⟨a3, rfl, rfl, rfl, w3⟩ := open_int Try.underlying3 (hval 3 3 v3 rfl rfl) h3
  clear hA0 hval0
  have bd1 := bounds_i64 w1
  have bd2 := bounds_i64 w2
  have bd3 := bounds_i64 w3
  refine (walk u0 l0 a1 a2 a3 W si0 bd1.1 bd1.2 bd2.1 bd2.2 bd3.1 bd3.2 (Try.laysM145.s1_3 W hsh)).mono fun e W' ⟨he, bel⟩ => ?_
  subst he
  exact ⟨_, rfl, _, _, _, [], _, [], hW', trodAll_mk1 (shut_bool Try.underlying4 _), (trodAll_cons_mk (arg_stays (by kernel_rfl) (of_decide_eq_true (by kernel_rfl)) k0 bel) (trodAll_cons_mk (shut_int Try.underlying3 w1) (trodAll_cons_mk (shut_int Try.underlying3 w2) (trodAll_cons_mk (shut_int Try.underlying3 w3) trodAll_mk0)))), rfl, bel.frame _, fun h => by cases h⟩

theorem over : Rows.curveStraightRow.holds Try.pinned (OpenSpec.ofChange Rows.curveStraightSpec) :=
  OpenClaim.holds_of_wide 4 Try.f4 rfl rfl rfl rfl rfl rfl rfl ⟨rfl, rfl, rfl, rfl, rfl⟩ rfl rfl rfl rfl rfl (by kernel_rfl) Try.func4 (by kernel_rfl)
    (of_decide_eq_true (by kernel_rfl)) (by unfold Func.isWrapper; first | (rw [if_pos (by decide +kernel)]; kernel_rfl) | (rw [if_neg (by decide +kernel)]; exact ⟨rfl, rfl⟩))
    (fun os started H enc _ => lifted os started H enc)

theorem proved : Rows.CurveStraightSaid := over
#print axioms proved
