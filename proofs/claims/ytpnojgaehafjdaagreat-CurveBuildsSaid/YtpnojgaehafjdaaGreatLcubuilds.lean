/-
  Bootstrap returns the curve and the error of the reference, and does not modify the quotes.
-/
import Derived.Test.YtpnojgaehafjdaaGreatRows
import Derived.Test.YtpnojgaehafjdaaGreatCvfr
import Derived.Test.YtpnojgaehafjdaaGreatCvh
import Derived.Test.YtpnojgaehafjdaaGreatCvrd
import Derived.HandedShaped
import Derived.ProofKit
import Derived.OpenShut
import Derived.ShutString
namespace Go.Proofs.YtpnojgaehafjdaaGreat.lawBuilds
open Go.ChangeShapes Go.WideShapes Go.ChangeAt Go.RowKit
open Go.ChangeMaps (open_string shut_string)

theorem own : ownKnob Tryz.prog.godebug = none := by kernel_rfl

theorem flat_dE (xs : List Int) : xs.flatMap dE = xs.map (Value.int .i64) := by
  induction xs with
  | nil => rfl
  | cons x r ih => rw [List.flatMap_cons, ih]; rfl
theorem infoD : ∃ i, Tryz.prog.info? 3 = some i ∧ i.zero = some (.int .i64 0) ∧ i.size = 1 ∧ i.bytes = 8 := by
  have h : (Tryz.prog.info? 3).map (fun i => (i.zero, i.size, i.bytes)) = some (some (.int .i64 0), 1, 8) := by kernel_rfl
  rw [Option.map_eq_some_iff] at h
  obtain ⟨i, hi, he⟩ := h
  simp only [Prod.mk.injEq] at he
  exact ⟨i, hi, he.1, he.2.1, he.2.2⟩
/-- append of nothing. -/
theorem app_none {P : Program} {w : World} {ops : Array Oper} {rest : List Oper} {o : Oper} {a : Act} {Q : Exit → Act → World → Prop} (hgd : o.guard = none) (s x : Operand) (t : TypeId)
    (ho : o.op = .call { callee := .builtin .append, args := #[s, x], argTypes := #[t, t] })
    (base : Nat) (e : TypeId) (i : TypeInfo) (size : Nat) (ht : P.underlying t = some (.slice e)) (hi : P.info? e = some i)
    (v : Value) (n c : Nat) (xs : List Value) (hs : a.eval s = v) (hown : w.ownsRow base e size v n xs) (hx : a.eval x = .slice none 0 c)
    (h : wpList P ops Q rest (a.put o.dst v) w) : wpList P ops Q (o :: rest) a w := by
  refine wpList_plain hgd fun K hK => ?_
  have hrun : (Builtin.append_ #[t, t] o.type #[v, .slice none 0 c]).run P w = .ok v w := by
    rcases hown.2 with ⟨rfl, rfl⟩ | ⟨g, cap, cur, rfl, _, _, hnc, _⟩
    · simp [Builtin.append_, run_underlying ht, sizeOf, typeInfo, hi, Builtin.lenOf, Builtin.firstCells]
    · simp [Builtin.append_, run_underlying ht, sizeOf, typeInfo, hi, Builtin.lenOf, Builtin.firstCells, hnc, storeCells]
  unfold Oper.wp
  simp [execOp, ho, resolve, invoke, builtin, hs, hx, hrun, Result.andThen]
  exact hK _ _ h
abbrev OD := OL 1 dE 3
/-- 'append(own, days...)'. -/
theorem appD {P : Program} {ops : Array Oper} {rest : List Oper} {o : Oper} {a : Act} {Q : Exit → Act → World → Prop} (hgd : o.guard = none) (s x : Operand) (t : TypeId)
    (ho : o.op = .call { callee := .builtin .append, args := #[s, x], argTypes := #[t, t] }) (hI : ∃ i, P.info? 3 = some i ∧ i.zero = some (.int .i64 0) ∧ i.size = 1 ∧ i.bytes = 8) (ht : P.underlying t = some (.slice 3))
    (w : World) (B : Nat) (v vx : Value) (zs xs : List Int) (hs : a.eval s = v) (hx : a.eval x = vx) (hown : OD w B v zs) (hS : SD w vx xs)
    (hB : B ≤ w.heap.size) (hl1 : zs.length ≤ 10000) (hl2 : xs.length ≤ 10000)
    (h : ∀ v' w', OD w' B v' (zs ++ xs) → Below B w w' → wpList P ops Q rest (a.put o.dst v') w') : wpList P ops Q (o :: rest) a w := by
  obtain ⟨i, hi, hz, h1, h2⟩ := hI
  obtain ⟨A, c, rfl, hc1, hc2, hc3⟩ := hS
  cases A with
  | none =>
    have hx0 : xs = [] := by
      cases xs with
      | nil => rfl
      | cons y r =>
        obtain ⟨b, o, h, _⟩ := hc3 (by simp)
        cases h
    subst hx0
    refine app_none hgd s x t ho B 3 i 1 ht hi v zs.length c (zs.flatMap dE) hs hown hx ?_
    refine h _ _ ?_ (Below.refl _ _)
    rw [List.append_nil]; exact hown
  | some ad =>
    refine wpList_append_own _ hgd s x t ho B 3 i (.int .i64 0) 1 8 ht hi hz h1 h2 rfl (by omega) v zs.length (zs.flatMap dE) hs hown ad xs.length c (xs.flatMap dE) hx (by rw [flat_dE, List.length_map, Nat.mul_one]) ?_ (by
      intro y hy
      rw [flat_dE] at hy
      obtain ⟨z, _, rfl⟩ := List.mem_map.1 hy
      rfl) (by unfold maxLen; omega) (by omega) hB ?_
    · intro j y hj
      rw [flat_dE, List.getElem?_map, Option.map_eq_some_iff] at hj
      obtain ⟨u, hu, rfl⟩ := hj
      have hjl := (List.getElem?_eq_some_iff.1 hu).1
      obtain ⟨b, off, hbo, hlt, hcl⟩ := hc3 (by omega)
      injection hbo with hbo
      subst hbo
      rw [Go.WideShapes.add_plain]
      have := hcl j u hu 0 _ rfl
      rwa [Nat.mul_one, Nat.add_zero] at this
    · intro v' w' hown' hg _
      refine h v' w' ?_ ((Below.refl _ _).grown hg hB (fun k hk => (World.ownsRow.lt hown k hk).1))
      unfold OD OL
      rw [List.length_append, List.flatMap_append]
      exact hown'
theorem greatq_dates {l : List Z.Qt} (h : Z.greatQ l = false) : l.length ≤ 60 ∧ ∀ q ∈ l, q.dates.length ≤ 50 := by
  unfold Z.greatQ at h
  rw [Bool.or_eq_false_iff, decide_eq_false_iff_not, List.any_eq_false] at h
  refine ⟨by omega, fun q hq => ?_⟩
  have := h.2 q hq
  unfold Z.greatQ0 Z.greatQ1 at this
  rw [Bool.not_eq_true, Bool.or_eq_false_iff, Bool.or_eq_false_iff, Bool.or_eq_false_iff, decide_eq_false_iff_not, decide_eq_false_iff_not, decide_eq_false_iff_not] at this
  omega
/-- The dates of the first k quotes. -/
def dsT (l : List Z.Qt) (k : Nat) : List Int := (l.take k).flatMap Z.Qt.dates
theorem dsT_next {l : List Z.Qt} {k : Nat} {q : Z.Qt} (h : l[k]? = some q) : dsT l (k + 1) = dsT l k ++ q.dates := by
  unfold dsT
  rw [List.take_add_one, h, List.flatMap_append]
  simp
theorem dsT_len {l : List Z.Qt} (h : ∀ q ∈ l, q.dates.length ≤ 50) : ∀ k, (dsT l k).length ≤ 50 * k
  | 0 => by simp [dsT]
  | k + 1 => by
    have ih := dsT_len h k
    by_cases hk : k < l.length
    · have hz : l[k]? = some l[k] := List.getElem?_eq_getElem hk
      rw [dsT_next hz, List.length_append]
      have := h _ (List.mem_of_getElem? hz)
      omega
    · have : dsT l (k + 1) = dsT l k := by unfold dsT; rw [List.take_of_length_le (by omega), List.take_of_length_le (by omega)]
      rw [this]; omega
theorem dsT_at {l : List Z.Qt} {k j : Nat} {q : Z.Qt} {d : Int} (h : l[k]? = some q) (hj : q.dates[j]? = some d) : (dsT l l.length)[(dsT l k).length + j]? = some d := by
  have hk := (List.getElem?_eq_some_iff.1 h).1
  have e : dsT l l.length = dsT l k ++ (q.dates ++ (l.drop (k + 1)).flatMap Z.Qt.dates) := by
    unfold dsT
    rw [List.take_length]
    conv => lhs; rw [← List.take_append_drop k l]
    rw [List.flatMap_append, List.drop_eq_getElem_cons hk, List.flatMap_cons]
    have : l[k] = q := (List.getElem?_eq_some_iff.1 h).2
    rw [this]
  rw [e, List.getElem?_append_right (by omega), Nat.add_sub_cancel_left, List.getElem?_append_left (List.getElem?_eq_some_iff.1 hj).1]
  exact hj
set_option maxRecDepth 100000 in
set_option maxHeartbeats 16000000 in
theorem walk (base : Int) (v : Value) (l : List Z.Qt) (w : World) (_e0 : -9223372036854775808 ≤ base) (_e1 : base ≤ 9223372036854775807) (hQ : SQ w v l) (hV : HasV w) :
    Calls Tryz.prog 4 #[.int .i64 base, v] w fun e w' => e = .returned (.bool true) ∧ Below w.heap.size w w' := by
  have HQ := Lib.hid hQ
  have HV := Lib.hid hV
  obtain ⟨A, cp, rfl, hlc, hcm⟩ := hQ.shape
  unfold maxLen at hcm
  clear hQ hV _e0 _e1
  go_enter Tryz.func4, Tryz.ntmps4
  go_wp2_with fail
  refine (greatq_any _ l w HQ.out).mono ?_
  rintro e W2 ⟨rfl, h2⟩
  cases hg : Z.greatQ l
  case true =>
    go_wp2_with fail
    go_ret
    exact ⟨rfl, h2⟩
  have HQS : Hid (∀ q ∈ l, QSm q) := Lib.hid (greatq_qsm hg).2
  obtain ⟨hl60, hd50⟩ := greatq_dates hg
  have HD50 := Lib.hid hd50
  have HDL : Hid (∀ k, (dsT l k).length ≤ 50 * k) := Lib.hid (dsT_len hd50)
  have H0 : Hid (OD W2 W2.heap.size (.slice none 0 0) (dsT l 0)) := Lib.hid OL.nil_
  clear hg hd50
  go_wp2_with fail
  go_loopw [5, 6] (fun vv iv wr => ∃ k : Nat, k ≤ l.length ∧ iv = .int .i64 k ∧ Hid (OD wr W2.heap.size vv (dsT l k) ∧ Below W2.heap.size W2 wr)) (fun _ iv _ => l.length - (intOf iv).toNat)
  case atStart => exact ⟨0, by omega, rfl, Lib.hid ⟨H0.out, Below.refl _ _⟩⟩
  case round =>
    obtain ⟨k, hk, rfl, HI⟩ := hrel
    clear H0
    have hbw := h2.trans (HI.out.2.mono h2.size)
    by_cases hlt : k < l.length
    · have hz : l[k]? = some l[k] := List.getElem?_eq_getElem hlt
      obtain ⟨b, o, r, rfl, hbl, q0, q1, q2, hqk⟩ := (HQ.out.below hbw).at_ hz
      have HN := Lib.hid (dsT_next hz)
      have hq50 := HD50.out _ (List.mem_of_getElem? hz)
      clear hz
      generalize l[k] = q at *
      obtain ⟨dv, pv, rate⟩ := r
      obtain ⟨A1, d1, e1, h1c, h1m⟩ := hqk.1.shape
      obtain ⟨A2, d2, e2, _, _⟩ := hqk.2.1.shape
      have e1 : dv = .slice A1 q.dates.length d1 := e1
      have e2 : pv = .slice A2 q.parts.length d2 := e2
      have e3 : rate = q.rate := hqk.2.2
      subst e1 e2 e3
      have HSD := Lib.hid hqk.1
      have hi0 : (0 : Int) ≤ (k : Int) := by omega
      have hi1 : (k : Int) < (l.length : Int) := by omega
      have HLK : Hid ((dsT l k).length ≤ 10000) := Lib.hid (by have := HDL.out k; omega)
      clear hqk q1 q2
      go_wp2_with (at_builtin; go_loud (refine appD rfl _ _ _ rfl infoD Tryz.underlying39 wr W2.heap.size u5 (.slice A1 q.dates.length d1) (dsT l k) q.dates rfl rfl HI.out.1 HSD.out HI.out.2.size HLK.out (by omega) ?_; intro v' w' hO' hb'))
      go_roundw
      case rel => exact ⟨k + 1, by omega, by go_num, Lib.hid ⟨by rw [HN.out]; exact hO', HI.out.2.trans hb'⟩⟩
      case measure => simp [intOf]; omega
    · obtain rfl : k = l.length := by omega
      have HO := Lib.hid HI.out.1
      have hB := HI.out.2
      have HB1 : Hid (∀ W, Below w.heap.size w W → Calls Tryz.prog 13 #[.int .i64 base, .slice A l.length cp] W (BootRet (Z.bootR base l) W)) := Lib.hid fun W h => boot_any base _ l W (HQ.out.below h) (HV.out.below h) HQS.out
      have HB2 : Hid (∀ W, Below w.heap.size w W → Calls Tryz.prog 14 #[.int .i64 base, .slice A l.length cp] W (BootRet (Z.bootR base l) W)) := Lib.hid fun W h => rboot_any base _ l W (HQ.out.below h) HQS.out
      generalize Z.bootR base l = p at *
      clear HI
      go_wp2_with fail
      refine (HB1.out wr hbw).mono ?_
      rintro e W3 ⟨u, rfl, ho, hb3⟩
      obtain ⟨Au, cu, rfl⟩ := ho.shape
      have HO3 := Lib.hid ((OL.below HO.out hb3).alloc (.cells #[.int .i64 p.1.base, .slice Au p.1.pts.length cu] 24))
      have h3 := hbw.trans ((hb3.alloc hb3.size (.cells #[.int .i64 p.1.base, .slice Au p.1.pts.length cu] 24)).mono hbw.size)
      have B3 := Blk.new W3 24 #[.int .i64 p.1.base, .slice Au p.1.pts.length cu]
      have HS3 := Lib.hid (OL.sl Z.Pt.vs_len (OL.alloc ho (.cells #[.int .i64 p.1.base, .slice Au p.1.pts.length cu] 24)))
      clear HO ho hb3
      go_upto_region 9 with fail
      generalize (W3.alloc (.cells #[.int .i64 p.1.base, .slice Au p.1.pts.length cu] 24)) = W4 at *
      generalize W3.heap.size = g1 at *
      go_wp2_with fail
      refine (HB2.out W4 h3).mono ?_
      rintro e W5 ⟨u, rfl, ho, hb5⟩
      obtain ⟨Av, cv, rfl⟩ := ho.shape
      have HO5 := Lib.hid ((OL.below HO3.out hb5).alloc (.cells #[.int .i64 p.1.base, .slice Av p.1.pts.length cv] 24))
      have h5 := h3.trans ((hb5.alloc hb5.size (.cells #[.int .i64 p.1.base, .slice Av p.1.pts.length cv] 24)).mono h3.size)
      have B5 := (B3.below hb5).alloc (.cells #[.int .i64 p.1.base, .slice Av p.1.pts.length cv] 24)
      have BV := Blk.new W5 24 #[.int .i64 p.1.base, .slice Av p.1.pts.length cv]
      have HS5 := Lib.hid (SL.alloc (HS3.out.below hb5) (.cells #[.int .i64 p.1.base, .slice Av p.1.pts.length cv] 24))
      have HT5 := Lib.hid (OL.sl Z.Pt.vs_len (OL.alloc ho (.cells #[.int .i64 p.1.base, .slice Av p.1.pts.length cv] 24)))
      clear HO3 ho hb5 B3 HS3 HB1 HB2
      go_upto_region 10 with fail
      generalize (W5.alloc (.cells #[.int .i64 p.1.base, .slice Av p.1.pts.length cv] 24)) = W6 at *
      generalize W5.heap.size = g2 at *
      obtain ⟨Ad, cd, hcd⟩ := HO5.out.shape
      have HSO := Lib.hid (OL.sl dE_len HO5.out)
      rw [hcd] at HSO ⊢
      have hdt := HDL.out l.length
      have HDT := Lib.hid hdt
      clear HO5 hcd hdt
      have HLN : Hid ((dsT l 0).length = 0) := Lib.hid rfl
      go_wp2_with fail
      go_loopw [11, 12] (fun nv iv wr => ∃ k : Nat, k ≤ l.length ∧ iv = .int .i64 k ∧ nv = .int .i64 ((dsT l k).length : Nat) ∧ Below W6.heap.size W6 wr) (fun _ iv _ => l.length - (intOf iv).toNat)
      case atStart => exact ⟨0, by omega, rfl, rfl, Below.refl _ _⟩
      case round =>
        obtain ⟨k, hk, rfl, rfl, hbr⟩ := hrel
        have hbz := h5.trans (hbr.mono h5.size)
        by_cases hlt : k < l.length
        · have hz : l[k]? = some l[k] := List.getElem?_eq_getElem hlt
          have HN := Lib.hid (dsT_next hz)
          have hq50 := HD50.out _ (List.mem_of_getElem? hz)
          have HAT := Lib.hid (fun (j : Nat) (d : Int) => dsT_at (j := j) (d := d) hz)
          have HZ := Lib.hid hz
          clear hz
          generalize l[k] = q at *
          obtain ⟨nn, hnn⟩ : ∃ nn, nn = (dsT l k).length := ⟨_, rfl⟩
          have HNN := Lib.hid hnn
          rw [← hnn]
          have hn5 : nn ≤ 3000 := by have := HDL.out k; omega
          clear hnn
          go_wp2_with fail
          go_loopw [11, 13] (fun nv jv ws => ∃ j : Nat, j ≤ q.dates.length ∧ jv = .int .i64 j ∧ nv = .int .i64 ((nn + j : Nat) : Int) ∧ Below W6.heap.size W6 ws) (fun _ jv _ => q.dates.length - (intOf jv).toNat)
          case atStart => exact ⟨0, by omega, rfl, by go_num, hbr⟩
          case round =>
            obtain ⟨j, hj, rfl, rfl, hbs⟩ := hrel
            have hbt := h5.trans (hbs.mono h5.size)
            obtain ⟨b, o, r, rfl, hbl, q0, q1, q2, hqk⟩ := (HQ.out.below hbt).at_ HZ.out
            obtain ⟨dv, pv, rate⟩ := r
            obtain ⟨A1, d1, e1, h1c, h1m⟩ := hqk.1.shape
            obtain ⟨A2, d2, e2, _, _⟩ := hqk.2.1.shape
            have e1 : dv = .slice A1 q.dates.length d1 := e1
            have e2 : pv = .slice A2 q.parts.length d2 := e2
            have e3 : rate = q.rate := hqk.2.2
            subst e1 e2 e3
            clear q1 q2
            have hi0 : (0 : Int) ≤ (k : Int) := by omega
            have hi1 : (k : Int) < (l.length : Int) := by omega
            by_cases hlj : j < q.dates.length
            · have hy : q.dates[j]? = some q.dates[j] := List.getElem?_eq_getElem hlj
              obtain ⟨b1, o1, rfl, hb1, p0⟩ := hqk.1.cell1 hy rfl
              have hat := HAT.out j _ hy
              have hnl := (List.getElem?_eq_some_iff.1 hat).1
              rw [← HNN.out] at hat hnl
              obtain ⟨b2, o2, rfl, hb2, p1⟩ := (HSO.out.below hbs).cell1 hat rfl
              clear hy hat
              generalize q.dates[j] = d at *
              have hj0 : (0 : Int) ≤ (j : Int) := by omega
              have hj1 : (j : Int) < (q.dates.length : Int) := by omega
              have hn0 : (0 : Int) ≤ ((nn + j : Nat) : Int) := by omega
              have hn1 : ((nn + j : Nat) : Int) < ((dsT l l.length).length : Int) := by omega
              have hn2 : ((nn + j : Nat) : Int) ≤ 3100 := by have := HDT.out; omega
              have f0 : ∀ y : Ab wr, y.1.cell? ⟨b, o + k * 3, none⟩ = some (.slice (some ⟨b1, o1, none⟩) q.dates.length d1) := fun y => (y.2.cell (p := ⟨b, o + k * 3, none⟩) hbl).trans q0
              have f1 : ∀ y : Ab wr, y.1.cell? ⟨b1, o1 + j, none⟩ = some (.int .i64 d) := fun y => (y.2.cell (p := ⟨b1, o1 + j, none⟩) hb1).trans p0
              have f2 : ∀ y : Ab wr, y.1.cell? ⟨b2, o2 + (nn + j), none⟩ = some (.int .i64 d) := fun y => (y.2.cell (p := ⟨b2, o2 + (nn + j), none⟩) hb2).trans p1
              have HNJ : Hid ((nn + j) + 1 = nn + (j + 1)) := Lib.hid (by omega)
              generalize hNJ : nn + j = nj at *
              clear hNJ hnl p0 p1
              go_upto_region 17 with fail
              refine wp_region_above (by kernel_rfl) (by kernel_rfl) ?_
              repeat (go_big_quiet_step (fail))
              refine wpQuiet_nil ?_
              rintro _ ⟨x, rfl⟩
              have hbx := hbs.trans (x.2.mono hbs.size)
              clear f0 f1 f2 q0 hqk
              go_wp2_with fail
              go_roundw
              case rel => exact ⟨j + 1, by omega, by go_num, by rw [← HNJ.out]; go_num, hbx⟩
              case measure => simp [intOf]; omega
            · obtain rfl : j = q.dates.length := by omega
              have HL : Hid (nn + q.dates.length = (dsT l (k + 1)).length) := Lib.hid (by rw [HN.out, List.length_append, ← HNN.out])
              clear hqk
              go_wp2_with fail
              go_roundw
              case rel => exact ⟨k + 1, by omega, by go_num, by rw [HL.out], hbs⟩
              case measure => simp [intOf]; omega
        · obtain rfl : k = l.length := by omega
          have c0 := (B5.below hbr).cell 0
          have c1 := (B5.below hbr).cell 1
          have d0 := (BV.below hbr).cell 0
          have d1 := (BV.below hbr).cell 1
          have HSM := Lib.hid (same_any p.1 (.slice Au p.1.pts.length cu) (.slice Av p.1.pts.length cv) wr (HS5.out.below hbr) (HT5.out.below hbr))
          go_wp2_with fail
          refine HSM.out.mono ?_
          rintro e W9 ⟨rfl, hb9⟩
          have h9 := hbz.trans (hb9.mono hbz.size)
          go_wp2_with fail
          go_ret
          exact ⟨rfl, h9⟩

set_option maxRecDepth 100000 in
theorem lifted (os : Os) (started : os.Started) (H : Type) (enc : TypeId × Value → H) :
    ReturnsInHanded {} Tryz.checked os 4 .any (Rows.curveBuildsSpec.pre6 enc Tryz.prog Tryz.f4 Rows.curveBuildsRow.domain false) (Rows.curveBuildsSpec.post enc Tryz.prog Tryz.f4 false true false false) := by
  refine returnsInHanded_of_change_shaped (C := Tryz.checked) own started (by kernel_rfl) Tryz.func4
    (ChangeSpec.witness6 (enc := enc) (C := Tryz.checked) false ⟨#[], #[.int .i64 0, .slice none 0 0], []⟩ 8 (by kernel_rfl) (by kernel_rfl) (by kernel_rfl) (by kernel_rfl)) ?_
  intro W base args ds gs before hval0 hW hcnd _ hsh _
  have hval : ∀ (j : Nat) t v, Tryz.f4.params[j]? = some t → args[j]? = some v → Value.okWide Tryz.prog W .any base t v := hval0
  have hW' := hW
  obtain ⟨p, q, hA0, hV, rfl, hfz, hnd⟩ := hW
  have hA : DataW.TrodAll enc Tryz.prog W 0 (fun _ => true) true Tryz.f4.params.toList args.toList ds p := hA0
  rw [Tryz.params4] at hA hval
  obtain ⟨v0, vs0, d0, ds0, p0, q0, hargs, rfl, rfl, h0, r0⟩ := trodAll_cons hA
  obtain ⟨v1, vs1, d1, ds1, p1, q1, rfl, rfl, rfl, h1, r1⟩ := trodAll_cons r0
  obtain ⟨rfl, rfl, rfl⟩ := trodAll_nil r1
  obtain rfl : args = #[v0, v1] := by cases args; simp_all
  obtain ⟨rfl, rfl⟩ := trodVars_none hV
  obtain ⟨a0, rfl, rfl, rfl, w0⟩ := open_int Tryz.underlying3 (hval 0 3 v0 rfl rfl) h0
  have k1 := h1
  obtain ⟨l1, si1⟩ := quotes_open (hval 1 37 v1 rfl rfl) h1
  clear hA0 hval0
  have bd0 := bounds_i64 w0
  refine (walk a0 v1 l1 W bd0.1 bd0.2 si1 (Tryz.laysM145.s1_3 W hsh)).mono fun e W' ⟨he, bel⟩ => ?_
  subst he
  exact ⟨_, rfl, _, _, _, [], _, [], hW', trodAll_mk1 (shut_bool Tryz.underlying4 _), (trodAll_cons_mk (shut_int Tryz.underlying3 w0) (trodAll_cons_mk (arg_stays (by kernel_rfl) (of_decide_eq_true (by kernel_rfl)) k1 bel) trodAll_mk0)), rfl, bel.frame _, fun h => by cases h⟩

theorem over : Rows.curveBuildsRow.holds Tryz.pinned (OpenSpec.ofChange Rows.curveBuildsSpec) :=
  OpenClaim.holds_of_wide 4 Tryz.f4 rfl rfl rfl rfl rfl rfl rfl ⟨rfl, rfl, rfl, rfl, rfl⟩ rfl rfl rfl rfl rfl (by kernel_rfl) Tryz.func4 (by kernel_rfl)
    (of_decide_eq_true (by kernel_rfl)) (by unfold Func.isWrapper; first | (rw [if_pos (by decide +kernel)]; kernel_rfl) | (rw [if_neg (by decide +kernel)]; exact ⟨rfl, rfl⟩))
    (fun os started H enc _ => lifted os started H enc)

theorem proved : Rows.CurveBuildsSaid := over
#print axioms proved
