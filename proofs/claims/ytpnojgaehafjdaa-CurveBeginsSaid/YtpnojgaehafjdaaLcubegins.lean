/-
  The curve of the first quotes is the beginning of the curve of all.
-/
import Derived.Test.YtpnojgaehafjdaaRows
import Derived.Test.YtpnojgaehafjdaaCva
import Derived.Test.YtpnojgaehafjdaaCvfr
import Derived.HandedShaped
import Derived.ProofKit
import Derived.OpenShut
import Derived.ShutString
namespace Go.Proofs.Ytpnojgaehafjdaa.lawBegins
open Go.ChangeShapes Go.WideShapes Go.ChangeAt Go.RowKit
open Go.ChangeMaps (open_string shut_string)

theorem own : ownKnob Try.prog.godebug = none := by kernel_rfl

theorem sl_first {α : Type} {k : Nat} {enc : α → List Value} {w : World} {A : Option Addr} {n c m : Nat} {zs : List α} (h : SL k enc w (.slice A n c) zs) (hm : m ≤ zs.length) : SL k enc w (.slice A m c) (zs.take m) := by
  obtain ⟨A', c', hv, h1, h2, h3⟩ := h
  injection hv with e1 e2 e3
  subst e1 e3
  refine ⟨A, c, by rw [List.length_take, Nat.min_eq_left hm], by rw [List.length_take]; omega, h2, fun hp => ?_⟩
  rw [List.length_take] at hp
  obtain ⟨b, o, hA, hlt, hc⟩ := h3 (by omega)
  refine ⟨b, o, hA, hlt, fun i d hd j x hx => hc i d ?_ j x hx⟩
  rw [List.getElem?_take] at hd
  split at hd
  · exact hd
  · cases hd
theorem sq_first {w : World} {A : Option Addr} {n c m : Nat} {l : List Z.Qt} (h : SQ w (.slice A n c) l) (hm : m ≤ l.length) : SQ w (.slice A m c) (l.take m) := by
  obtain ⟨raws, h1, h2, h3⟩ := h
  refine ⟨raws.take m, sl_first h1 (by omega), by rw [List.length_take, List.length_take, h2], fun i r q hr hq => ?_⟩
  rw [List.getElem?_take] at hr hq
  split at hr
  · rename_i hi
    rw [if_pos hi] at hq
    exact h3 i r q hr hq
  · cases hr
set_option maxRecDepth 100000 in
set_option maxHeartbeats 16000000 in
theorem walk (base : Int) (v : Value) (l : List Z.Qt) (n : Int) (w : World) (_e0 : -9223372036854775808 ≤ base) (_e1 : base ≤ 9223372036854775807) (hQ : SQ w v l) (_e2 : -9223372036854775808 ≤ n) (_e3 : n ≤ 9223372036854775807) (hV : HasV w) :
    Calls Try.prog 3 #[.int .i64 base, v, .int .i64 n] w fun e w' => e = .returned (.bool true) ∧ Below w.heap.size w w' := by
  have HQ := Lib.hid hQ
  have HV := Lib.hid hV
  obtain ⟨A, cp, rfl, hlc, hcm⟩ := hQ.shape
  unfold maxLen at hcm
  clear hQ hV
  go_enter Try.func3, Try.ntmps3
  go_wp2_with fail
  refine (cualive_any w HV.out).mono ?_
  rintro e W1 ⟨rfl, h1⟩
  go_wp2_with fail
  refine (greatq_any _ l W1 (HQ.out.below h1)).mono ?_
  rintro e W2 ⟨rfl, hb⟩
  have h2 := h1.trans (hb.mono h1.size)
  clear hb h1
  cases hg : Z.greatQ l
  case true =>
    go_wp2_with fail
    go_ret
    exact ⟨rfl, h2⟩
  have hgq := (greatq_qsm hg).2
  have HQS : Hid (∀ q ∈ l, QSm q) := Lib.hid hgq
  clear hgq
  clear hg _e0 _e1
  by_cases hn0 : n < 0
  · go_wp2_with fail
    go_ret
    exact ⟨rfl, h2⟩
  by_cases hn1 : (l.length : Int) < n
  · go_wp2_with fail
    go_ret
    exact ⟨rfl, h2⟩
  obtain ⟨m, rfl⟩ : ∃ m : Nat, n = m := ⟨n.toNat, by omega⟩
  have hml : m ≤ l.length := by omega
  have HB : Hid (Calls Try.prog 11 #[.int .i64 base, .slice A l.length cp] W2 (BootRet (Z.bootR base l) W2)) := Lib.hid (boot_any base _ l W2 (HQ.out.below h2) (HV.out.below h2) HQS.out)
  have HB2 : Hid (∀ W, Below w.heap.size w W → Calls Try.prog 11 #[.int .i64 base, .slice A m cp] W (BootRet (Z.bootR base (l.take m)) W)) := Lib.hid fun W h => boot_any base _ (l.take m) W (sq_first (HQ.out.below h) hml) (HV.out.below h) (fun q hq => HQS.out q (List.mem_of_mem_take hq))
  obtain ⟨p, hp⟩ : ∃ p, p = Z.bootR base l := ⟨_, rfl⟩
  obtain ⟨p2, hp2⟩ : ∃ p, p = Z.bootR base (l.take m) := ⟨_, rfl⟩
  rw [← hp] at HB
  rw [← hp2] at HB2
  have HF : Hid (p.2 = 0 → p2 = (⟨base, p.1.pts.take m⟩, 0) ∧ p.1.base = base ∧ p.1.pts.length = l.length) := Lib.hid (fun h0 => by
    have hb : Z.bootR base l = (p.1, 0) := by rw [← hp]; exact Prod.ext rfl h0
    obtain ⟨f1, f2, f3⟩ := Z.begins hb hml
    rw [f2] at f1
    exact ⟨hp2.trans f1, f2, f3⟩)
  clear hp hp2 HQ
  go_wp2_with fail
  refine HB.out.mono ?_
  rintro e W3 ⟨u, rfl, ho, hb3⟩
  have h3 := h2.trans (hb3.mono h2.size)
  obtain ⟨Au, cu, rfl⟩ := ho.shape
  have BC := Blk.new W3 27 #[.int .i64 p.1.base, .slice Au p.1.pts.length cu]
  have h4 := h3.alloc h3.size (.cells #[.int .i64 p.1.base, .slice Au p.1.pts.length cu] 27)
  have HSP := Lib.hid (OL.sl Z.Pt.vs_len (OL.alloc ho (.cells #[.int .i64 p.1.base, .slice Au p.1.pts.length cu] 27)))
  have c0 := BC.cell 0
  have c1 := BC.cell 1
  have HO := Lib.hid (OL.alloc ho (.cells #[.int .i64 p.1.base, .slice Au p.1.pts.length cu] 27))
  clear HB hb3 ho
  have m0 : (0 : Int) ≤ (m : Int) := by omega
  have m1 : (m : Int) ≤ (cp : Int) := by omega
  have h3z := h3.size
  by_cases h0 : p.2 = 0
  case neg =>
    go_upto_region 5 with fail
    generalize (W3.alloc (.cells #[.int .i64 p.1.base, .slice Au p.1.pts.length cu] 27)) = W4 at *
    go_wp2_with fail
    refine (HB2.out W4 h4).mono ?_
    rintro e W5 ⟨u2, rfl, ho2, hb5⟩
    have h5 := h4.trans (hb5.mono h4.size)
    obtain ⟨Av, cv, rfl⟩ := ho2.shape
    have h6 := h5.alloc h5.size (.cells #[.int .i64 p2.1.base, .slice Av p2.1.pts.length cv] 27)
    have hpb := ne_bne h0
    clear HF h0 HB2 hb5 ho2
    go_wp2_with fail
    go_ret
    exact ⟨rfl, h6⟩
  obtain ⟨e2, f2, f3⟩ := HF.out h0
  have hlt : (p.1.pts.take m).length = m := by rw [List.length_take, f3]; omega
  have HB3 : Hid (∀ W, Below w.heap.size w W → Calls Try.prog 11 #[.int .i64 base, .slice A m cp] W fun e w' => ∃ Av cv, e = .returned (.tuple #[.agg #[.int .i64 base, .slice Av m cv], .int .i64 0]) ∧ SP w' (.slice Av m cv) (p.1.pts.take m) ∧ Below W.heap.size W w') := Lib.hid fun W h => (HB2.out W h).mono fun e w' hr => by
    rw [e2] at hr
    obtain ⟨u2, he, ho2, hb5⟩ := hr
    obtain ⟨Av, cv, rfl⟩ := ho2.shape
    have hs := OL.sl Z.Pt.vs_len ho2
    have he : e = .returned (.tuple #[.agg #[.int .i64 base, .slice Av (p.1.pts.take m).length cv], .int .i64 0]) := he
    have hs : SP w' (.slice Av (p.1.pts.take m).length cv) (p.1.pts.take m) := hs
    rw [hlt] at he hs
    exact ⟨Av, cv, he, hs, hb5⟩
  have HM : Hid (m ≤ p.1.pts.length) := Lib.hid (by rw [f3]; exact hml)
  rw [h0]
  rw [f2, f3] at BC h4 HSP c0 c1 ⊢
  clear HO HB2 HF e2 f2 f3 h0 hlt
  go_upto_region 5 with fail
  generalize (W3.alloc (.cells #[.int .i64 base, .slice Au l.length cu] 27)) = W4 at *
  generalize W3.heap.size = Bc at *
  go_wp2_with fail
  refine (HB3.out W4 h4).mono ?_
  rintro e W5 ⟨Av, cv, rfl, hs2, hb5⟩
  have h5 := h4.trans (hb5.mono h4.size)
  have BC5 := (BC.below hb5).alloc (.cells #[.int .i64 base, .slice Av m cv] 27)
  have HS5 := Lib.hid (SL.alloc (HSP.out.below hb5) (.cells #[.int .i64 base, .slice Av m cv] 27))
  have BD := Blk.new W5 27 #[.int .i64 base, .slice Av m cv]
  have HS6 := Lib.hid (SL.alloc hs2 (.cells #[.int .i64 base, .slice Av m cv] 27))
  have h6 := h5.alloc h5.size (.cells #[.int .i64 base, .slice Av m cv] 27)
  have c0 := BC5.cell 0
  have c1 := BC5.cell 1
  have d0 := BD.cell 0
  have d1 := BD.cell 1
  obtain ⟨_, _, hAu, hAl, hAm⟩ := HS5.out.shape
  have hcu : (m : Int) ≤ (cu : Int) := by
    injection hAu with _ _ e3
    have := HM.out
    omega
  clear HB3 hb5 hs2 BC HSP hAu hAl hAm
  have C : Hid (∀ x : Ab (W5.alloc (.cells #[.int .i64 base, .slice Av m cv] 27)), Calls Try.prog 12 #[.agg #[.int .i64 base, .slice Av m cv], .agg #[.int .i64 base, .slice Au m cu]] x.1 fun e w' => e = .returned (.bool true) ∧ Below x.1.heap.size x.1 w') := Lib.hid fun x => same_any ⟨base, p.1.pts.take m⟩ _ _ x.1 (HS6.out.below x.2) (sl_first (HS5.out.below x.2) HM.out)
  have f0 : ∀ x : Ab (W5.alloc (.cells #[.int .i64 base, .slice Av m cv] 27)), x.1.cell? ⟨Bc, 0, none⟩ = some (.int .i64 base) := fun x => (Ab.cells (x := x) BC5).cell 0
  have f1 : ∀ x : Ab (W5.alloc (.cells #[.int .i64 base, .slice Av m cv] 27)), x.1.cell? ⟨Bc, 1, none⟩ = some (.slice Au l.length cu) := fun x => (Ab.cells (x := x) BC5).cell 1
  have g0 : ∀ x : Ab (W5.alloc (.cells #[.int .i64 base, .slice Av m cv] 27)), x.1.cell? ⟨W5.heap.size, 0, none⟩ = some (.int .i64 base) := fun x => (Ab.cells (x := x) BD).cell 0
  have g1 : ∀ x : Ab (W5.alloc (.cells #[.int .i64 base, .slice Av m cv] 27)), x.1.cell? ⟨W5.heap.size, 1, none⟩ = some (.slice Av m cv) := fun x => (Ab.cells (x := x) BD).cell 1
  go_upto_region 10 with fail
  refine wp_region_above (by kernel_rfl) (by kernel_rfl) ?_
  repeat (go_big_quiet_step (first | (go_at_call 12; with_reducible exact Ab.step (C.out _))))
  refine wpQuiet_nil ?_
  rintro _ ⟨x, rfl⟩
  have hx := h6.trans (x.2.mono h6.size)
  clear f0 f1 g0 g1 C
  go_wp2_with fail
  go_ret
  exact ⟨rfl, hx⟩

set_option maxRecDepth 100000 in
theorem lifted (os : Os) (started : os.Started) (H : Type) (enc : TypeId × Value → H) :
    ReturnsInHanded {} Try.checked os 3 .any (Rows.curveBeginsSpec.pre6 enc Try.prog Try.f3 Rows.curveBeginsRow.domain false) (Rows.curveBeginsSpec.post enc Try.prog Try.f3 false true false false) := by
  refine returnsInHanded_of_change_shaped (C := Try.checked) own started (by kernel_rfl) Try.func3
    (ChangeSpec.witness6 (enc := enc) (C := Try.checked) false ⟨#[], #[.int .i64 0, .slice none 0 0, .int .i64 0], []⟩ 8 (by kernel_rfl) (by kernel_rfl) (by kernel_rfl) (by kernel_rfl)) ?_
  intro W base args ds gs before hval0 hW hcnd _ hsh _
  have hval : ∀ (j : Nat) t v, Try.f3.params[j]? = some t → args[j]? = some v → Value.okWide Try.prog W .any base t v := hval0
  have hW' := hW
  obtain ⟨p, q, hA0, hV, rfl, hfz, hnd⟩ := hW
  have hA : DataW.TrodAll enc Try.prog W 0 (fun _ => true) true Try.f3.params.toList args.toList ds p := hA0
  rw [Try.params3] at hA hval
  obtain ⟨v0, vs0, d0, ds0, p0, q0, hargs, rfl, rfl, h0, r0⟩ := trodAll_cons hA
  obtain ⟨v1, vs1, d1, ds1, p1, q1, rfl, rfl, rfl, h1, r1⟩ := trodAll_cons r0
  obtain ⟨v2, vs2, d2, ds2, p2, q2, rfl, rfl, rfl, h2, r2⟩ := trodAll_cons r1
  obtain ⟨rfl, rfl, rfl⟩ := trodAll_nil r2
  obtain rfl : args = #[v0, v1, v2] := by cases args; simp_all
  obtain ⟨rfl, rfl⟩ := trodVars_none hV
  obtain ⟨a0, rfl, rfl, rfl, w0⟩ := open_int Try.underlying3 (hval 0 3 v0 rfl rfl) h0
  have k1 := h1
  obtain ⟨l1, si1⟩ := quotes_open (hval 1 22 v1 rfl rfl) h1
  obtain ⟨a2, rfl, rfl, rfl, w2⟩ := open_int Try.underlying3 (hval 2 3 v2 rfl rfl) h2
  clear hA0 hval0
  have bd0 := bounds_i64 w0
  have bd2 := bounds_i64 w2
  refine (walk a0 v1 l1 a2 W bd0.1 bd0.2 si1 bd2.1 bd2.2 (Try.laysM145.s1_3 W hsh)).mono fun e W' ⟨he, bel⟩ => ?_
  subst he
  exact ⟨_, rfl, _, _, _, [], _, [], hW', trodAll_mk1 (shut_bool Try.underlying4 _), (trodAll_cons_mk (shut_int Try.underlying3 w0) (trodAll_cons_mk (arg_stays (by kernel_rfl) (of_decide_eq_true (by kernel_rfl)) k1 bel) (trodAll_cons_mk (shut_int Try.underlying3 w2) trodAll_mk0))), rfl, bel.frame _, fun h => by cases h⟩

theorem over : Rows.curveBeginsRow.holds Try.pinned (OpenSpec.ofChange Rows.curveBeginsSpec) :=
  OpenClaim.holds_of_wide 3 Try.f3 rfl rfl rfl rfl rfl rfl rfl ⟨rfl, rfl, rfl, rfl, rfl⟩ rfl rfl rfl rfl rfl (by kernel_rfl) Try.func3 (by kernel_rfl)
    (of_decide_eq_true (by kernel_rfl)) (by unfold Func.isWrapper; first | (rw [if_pos (by decide +kernel)]; kernel_rfl) | (rw [if_neg (by decide +kernel)]; exact ⟨rfl, rfl⟩))
    (fun os started H enc _ => lifted os started H enc)

theorem proved : Rows.CurveBeginsSaid := over
#print axioms proved
