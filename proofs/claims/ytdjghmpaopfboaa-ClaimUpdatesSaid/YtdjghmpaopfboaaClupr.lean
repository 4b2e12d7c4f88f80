/- Walk: the reference's Update. -/
import Derived.Test.YtdjghmpaopfboaaClupd
import Derived.Test.YtdjghmpaopfboaaClopenr
import Derived.Test.YtdjghmpaopfboaaClfxr
import Derived.Test.YtdjghmpaopfboaaClapp
import Derived.Test.YtdjghmpaopfboaaZclv
import Derived.Test.YtdjghmpaopfboaaCleq
namespace Go.Proofs.Ytdjghmpaopfboaa
open Go.RowKit
attribute [local go_sem ↓] eql_flow
set_option maxRecDepth 100000 in
set_option maxHeartbeats 4000000 in
theorem rupdate_any (v u : Value) (l : List Z.Cl) (fs : List Z.Fl) (en : Int) (w : World) (hS : SC w v l) (hF : SF w u fs) (hs : ∀ x ∈ l, x.fl.small) (hs2 : ∀ x ∈ fs, x.small) :
    Calls Try.prog 14 #[.agg #[v], u, .int .i64 en] w (UpdRet l fs en w) := by
  have hs1 : (w.alloc (.cells #[v] 24)).heap.size = w.heap.size + 1 := Array.size_push _
  have BL0 := Blk.new w 24 #[v]
  have BR := Blk.new (w.alloc (.cells #[v] 24)) 24 #[.slice none 0 0]
  rw [hs1] at BR
  have BL := BL0.alloc (.cells #[.slice none 0 0] 24)
  have hb0 := ((Below.refl _ w).alloc (Nat.le_refl w.heap.size) (.cells #[v] 24)).alloc (by show w.heap.size ≤ _; rw [hs1]; omega) (.cells #[.slice none 0 0] 24)
  have hl0 := BL.cell 0
  have RB : Hid (∀ W', Blk W' (w.heap.size + 1) 24 #[.slice none 0 0] → (W'.setCell ⟨w.heap.size + 1, 0, none⟩ (.slice none 0 0)).cell? ⟨w.heap.size + 1, 0, none⟩ = some (.slice none 0 0)) := Lib.hid (fun W' h => (h.set 0 (.slice none 0 0)).cell 0)
  clear BL0 hs1
  have HS := Lib.hid hS
  have HF := Lib.hid hF
  have OP := Lib.hid (fun W (h : Below w.heap.size w W) => ropen_any v l W (hS.below h) hs)
  unfold OpenRet at OP
  have CF := Lib.hid (fun W (h : Below w.heap.size w W) => rflows_any u fs W (hF.below h) hs2)
  obtain ⟨A, c, rfl, hlc, hcm, _⟩ := hS
  obtain ⟨A2, c2, rfl, hlc2, hcm2, _⟩ := hF
  unfold maxLen at hcm hcm2
  go_enter Try.func14, Try.ntmps14
  go_wp2_with fail
  generalize ((w.alloc (.cells #[.slice A l.length c] 24)).alloc (.cells #[.slice none 0 0] 24)) = W0 at *
  refine (OP.out _ hb0).mono ?_
  rintro e W1 ⟨hb1, ⟨hv, rfl⟩ | ⟨hv, vo, rfl, hO⟩⟩
  · have h1 := hb0.trans (hb1.mono hb0.size)
    have BR1 := BR.below hb1
    have hE8 : Z.updE l fs en = 8 := by unfold Z.updE; rw [if_neg (by rw [hv]; decide)]
    have r0 := BR1.cell 0
    have rf := BR1.frozen 0
    have q0 := RB.out _ BR1
    go_wp2_with fail
    refine bodyPost_ret (v := .tuple #[.agg #[.slice none 0 0], .int .i64 8]) (by simp [results, Try.results14, go_sem, q0]) rfl ?_
    exact UpdRet.bad h1 hE8 (by decide)
  · have h1 := hb0.trans (hb1.mono hb0.size)
    have BL1 := BL.below hb1
    have BR1 := BR.below hb1
    clear BL BR hl0 hb0 hb1 OP
    go_wp2_with fail
    refine (CF.out _ h1).mono ?_
    rintro e W2 ⟨rfl, hb2⟩
    have h2 := h1.trans (hb2.mono h1.size)
    have BL2 := BL1.below hb2
    have BR2 := BR1.below hb2
    have hO2 := (OL.below hO hb2).mono (Nat.le_refl _)
    clear BL1 BR1 h1 hb2 hO CF
    by_cases hfe : Z.flE fs = 0
    case neg =>
      have hEf : Z.updE l fs en = Z.flE fs := by unfold Z.updE; rw [if_pos hv, if_neg hfe]
      have r0 := BR2.cell 0
      have rf := BR2.frozen 0
      have q0 := RB.out _ BR2
      go_wp2_with fail
      refine bodyPost_ret (v := .tuple #[.agg #[.slice none 0 0], .int .i64 (Z.flE fs)]) (by simp [results, Try.results14, go_sem, q0]) rfl ?_
      exact UpdRet.bad h2 hEf hfe
    rw [hfe]
    have hl2 := BL2.cell 0
    by_cases he0 : en < 0
    case pos =>
      have hE2 : Z.updE l fs en = 2 := by unfold Z.updE; rw [if_pos hv, if_pos hfe, if_pos (.inl he0)]
      have r0 := BR2.cell 0
      have rf := BR2.frozen 0
      have q0 := RB.out _ BR2
      go_wp2_with fail
      refine bodyPost_ret (v := .tuple #[.agg #[.slice none 0 0], .int .i64 2]) (by simp [results, Try.results14, go_sem, q0]) rfl ?_
      exact UpdRet.bad h2 hE2 (by decide)
    by_cases he1 : 1125899906842624 < en
    case pos =>
      have hE2 : Z.updE l fs en = 2 := by unfold Z.updE; rw [if_pos hv, if_pos hfe, if_pos (.inr he1)]
      have r0 := BR2.cell 0
      have rf := BR2.frozen 0
      have q0 := RB.out _ BR2
      go_wp2_with fail
      refine bodyPost_ret (v := .tuple #[.agg #[.slice none 0 0], .int .i64 2]) (by simp [results, Try.results14, go_sem, q0]) rfl ?_
      exact UpdRet.bad h2 hE2 (by decide)
    have hprev : 0 < l.length → ∃ b o, A = some ⟨b, o, none⟩ ∧ W2.cell? ⟨b, o + (l.length - 1) * 8 + 2, none⟩ = some (.int .i64 (Z.prevE l l.length)) := by
      intro hp
      obtain ⟨b, o, hA, hbl, hcj⟩ := (HS.out.below h2).at_ hp
      have hj : l[l.length - 1]? = some l[l.length - 1] := List.getElem?_eq_getElem (by omega)
      refine ⟨b, o, hA, ?_⟩
      have := hcj _ _ hj 2 _ rfl
      rw [show Z.prevE l l.length = l[l.length - 1].e by
        obtain ⟨k, hk⟩ : ∃ k, l.length = k + 1 := ⟨l.length - 1, by omega⟩
        simp only [hk]
        show (match l[k]? with | some x => x.e | none => 0) = _
        rw [List.getElem?_eq_getElem (by omega)]
        simp]
      exact this
    go_upto_region 10 with fail
    have HX := Lib.hid (And.intro h2 BR2)
    go_cut [57] (fun bv wx => bv = .bool (decide (0 < l.length ∧ en < Z.prevE l l.length)) ∧ W2 = wx)
    case first =>
      by_cases hp : 0 < l.length
      · obtain ⟨b, o, rfl, hpc⟩ := hprev hp
        clear hprev
        go_wp2_with fail
        go_meet
        exact ⟨by simp [hp], rfl⟩
      · have hp0 : l.length = 0 := by omega
        clear hprev
        go_wp2_with fail
        go_meet
        exact ⟨by simp [hp], rfl⟩
    case rest =>
    obtain ⟨rfl, rfl⟩ := hcut
    by_cases hst : 0 < l.length ∧ en < Z.prevE l l.length
    case pos =>
      rw [decide_eq_true hst]
      have hE21 : Z.updE l fs en = 21 := by unfold Z.updE; rw [if_pos hv, if_pos hfe, if_neg (by omega), if_pos hst]
      have r0 := BR2.cell 0
      have rf := BR2.frozen 0
      have q0 := RB.out _ BR2
      go_wp2_with fail
      refine bodyPost_ret (v := .tuple #[.agg #[.slice none 0 0], .int .i64 21]) (by simp [results, Try.results14, go_sem, q0]) rfl ?_
      exact UpdRet.bad h2 hE21 (by decide)
    rw [decide_eq_false hst]
    have HE0 : Hid (Z.updE l fs en = if 5000 < (Z.updL l fs en).length then 22 else 0) := Lib.hid (by unfold Z.updE; rw [if_pos hv, if_pos hfe, if_neg (by omega), if_neg hst])
    clear hprev
    obtain ⟨vl, vc, hO⟩ := (show ∃ (vl : Option Addr) (vc : Nat), vo = .slice vl (Z.openL l).length vc from by
      obtain ⟨A', c', hv', _⟩ := OL.sl Z.Cl.vs_len hO2
      exact ⟨A', c', hv'⟩)
    subst hO
    have HO := Lib.hid (OL.sl Z.Cl.vs_len hO2)
    have HSW2 := Lib.hid (HS.out.below h2)
    have HBL2 := Lib.hid BL2
    have hw2 : w.heap.size + 1 < W2.heap.size := BR2.lt
    have hln : l.length ≤ 5000 := by have hv' := hv; unfold Z.valid at hv'; rw [Bool.and_eq_true, decide_eq_true_iff] at hv'; exact hv'.1
    have hol : (Z.openL l).length ≤ 5000 := Nat.le_trans (Z.openL_len l) hln
    have hfs : fs.length ≤ 5000 := (Z.flE_len hfe).1
    have HF2 := Lib.hid (HF.out.below h2)
    have HUL : Hid (Z.updL l fs en = (Z.fr (Z.openL l) fs fs.length).foldl (Z.addF en) ((Z.rm (Z.openL l) (Z.cnt fs) (Z.openL l).length).foldl (Z.addR en) l)) := Lib.hid rfl
    clear hO2
    generalize Z.openL l = op at *
    go_wp2_with (at_make; go_loud (refine mkB rfl _ _ rfl W2 _ op.length rfl rfl (by omega) (by omega) ?_; intro W3 hO3 hb3))
    obtain ⟨D, hD⟩ : ∃ D, D = W2.heap.size := ⟨_, rfl⟩
    rw [← hD] at hO3 hb3 ⊢
    have HI0 : Hid (OB W3 D (Z.kr op (Z.cnt (fs.take 0))) ∧ OFl W3 D (.slice none 0 0) (Z.fr op fs 0) ∧ Below D W2 W3) := Lib.hid ⟨by rw [show Z.cnt (fs.take 0) = fun _ => 0 from by funext f; simp [Z.cnt], Z.kr_zero]; exact hO3, OL.nil_, hb3⟩
    have HD := Lib.hid hD
    have hwD : w.heap.size + 1 < D := by rw [hD]; exact hw2
    clear hO3 hb3 hD hw2
    go_wp2_with fail
    go_loopw [13, 14] (fun fw iv wx => ∃ k : Nat, k ≤ fs.length ∧ iv = .int .i64 k ∧ Hid (OB wx D (Z.kr op (Z.cnt (fs.take k))) ∧ OFl wx D fw (Z.fr op fs k) ∧ Below D W2 wx)) (fun _ iv _ => fs.length - (intOf iv).toNat)
    case atStart => exact ⟨0, by omega, rfl, HI0⟩
    case round =>
      obtain ⟨k, hk, rfl, HI⟩ := hrel
      clear HI0
      by_cases hlt : k < fs.length
      · have hz : fs[k]? = some fs[k] := List.getElem?_eq_getElem hlt
        have HLT := Lib.hid hlt
        have HZ := Lib.hid hz
        have HC := Lib.hid (Z.cnt_snoc hz)
        have hfrl : (Z.fr op fs k).length ≤ 20000 := by have := Z.fr_len op fs k; omega
        have HFRL := Lib.hid hfrl
        obtain ⟨b, o, rfl, hbl, hcj⟩ := HF2.out.at_ (by omega)
        have HFC := Lib.hid (fc_of (hcj k _ hz))
        rw [← HD.out] at hbl
        clear hcj hz
        generalize fs[k] = f at *
        go_wp2_with fail
        go_loopw [15, 16] (fun av jv wx => ∃ (j : Nat) (v : Int), j ≤ op.length ∧ jv = .int .i64 ((j : Int) - 1) ∧ av = .int .i64 v ∧ Hid (Z.At (Z.wants op (Z.cnt (fs.take k)) f) op.length j v) ∧ Hid (OB wx D (Z.kr op (Z.cnt (fs.take k))) ∧ OFl wx D u13 (Z.fr op fs k) ∧ Below D W2 wx)) (fun _ jv _ => (intOf jv + 1).toNat)
        case atStart => exact ⟨op.length, -1, by omega, by go_num, rfl, Lib.hid (Z.At.start _ _), HI⟩
        case round =>
          obtain ⟨j, v, hj, rfl, rfl, HA, HI⟩ := hrel
          cases j with
          | zero =>
            clear hj
            by_cases hv1 : v = -1
            · subst hv1
              have HGE := Lib.hid (Z.at_none HA.out rfl)
              clear HA
              obtain ⟨hO, hF, hbr⟩ := HI.out
              have hfc := HFC.out.below (by rw [← HD.out]; exact hbr) (by rw [← HD.out]; exact hbl)
              obtain ⟨y0, y1, y2, y3, y4⟩ := hfc
              have HP := Lib.hid (And.intro hO (And.intro hF hbr))
              have hDw : D < wr.heap.size := hO.lt
              clear hO hF hbr HI
              go_wp2_with (at_builtin; go_loud (refine appL Z.Fl.vs_len Z.Fl.one rfl _ _ rfl infoF (by omega) (by omega) Try.underlying25 wr D u13 (Z.fr op fs k) f _ rfl rfl HP.out.2.1 rfl HFRL.out (Nat.le_of_lt hDw) ?_; intro v' w' hO' hb' hg'))
              go_roundw
              case rel => exact ⟨k + 1, by have := HLT.out; omega, by go_num, Lib.hid ⟨by rw [Z.kr_full HC.out HGE.out]; exact HP.out.1.kept hg' (HP.out.1.not_row (by decide) HP.out.2.1), by rw [Z.fr_new HZ.out HGE.out]; exact hO', HP.out.2.2.trans hb'⟩⟩
              case measure => have := HLT.out; simp [intOf]; omega
            · obtain ⟨i, rfl, hi, hnf, hset⟩ := Z.at_some HC.out HA.out hv1
              have HS1 := Lib.hid hset
              have HNF := Lib.hid hnf
              clear HA hv1 hnf hset
              obtain ⟨hO, hF, hbr⟩ := HI.out
              have hi0 := hO.at_ (Z.kr_at (c := Z.cnt (fs.take k)) (List.getElem?_eq_getElem hi))
              have hif := Blk.frozen hO i
              have hset2 := grownBy_setAt wr D i (.bool true)
              have HP := Lib.hid (And.intro (hO.set i true) (And.intro (OFl.kept_blk hF hO (by decide) hset2) (hbr.setCell (p := ⟨D, i, none⟩) (Nat.le_refl D) (.bool true))))
              clear hO hF hbr HI hset2
              go_wp2_with fail
              go_roundw
              case rel => exact ⟨k + 1, by have := HLT.out; omega, by go_num, Lib.hid ⟨by rw [HS1.out]; exact HP.out.1, by rw [Z.fr_old HZ.out HNF.out]; exact HP.out.2.1, HP.out.2.2⟩⟩
              case measure => have := HLT.out; simp [intOf]; omega
          | succ j =>
            have hz : op[j]? = some op[j] := List.getElem?_eq_getElem (by omega)
            have HJ := Lib.hid hj
            have HW : Hid (Z.wants op (Z.cnt (fs.take k)) f j = (!decide (Z.cntO (op.take j) op[j].fl < Z.cnt (fs.take k) op[j].fl) && decide (op[j].fl = f))) := Lib.hid (by unfold Z.wants; rw [hz]; first | done | rfl)
            obtain ⟨hO, hF, hbr⟩ := HI.out
            have hbr' : Below W2.heap.size W2 wr := by rw [← HD.out]; exact hbr
            obtain ⟨b', o', rfl, hbl', hcj⟩ := HO.out.at_ (by omega)
            have HCC := Lib.hid ((cc_of (hcj j _ hz)).below hbr' hbl')
            have HFW := Lib.hid (HFC.out.below hbr' (by rw [← HD.out]; exact hbl))
            have hba : b' < wr.heap.size := Nat.lt_of_lt_of_le hbl' hbr'.size
            have hbb : b < wr.heap.size := Nat.lt_of_lt_of_le (by rw [← HD.out]; exact hbl) hbr'.size
            have hkp := hO.at_ (Z.kr_at (c := Z.cnt (fs.take k)) hz)
            have hDw : D < wr.heap.size := hO.lt
            clear hcj hz hbr'
            generalize op[j] = x at *
            generalize hkb : decide (Z.cntO (op.take j) x.fl < Z.cnt (fs.take k) x.fl) = kb at *
            have q0 : ∀ q : Ab wr, q.1.cell? ⟨D, j, none⟩ = some (.bool kb) := fun q => q.cell hkp hDw
            have HRN : Hid (∀ q : Ab wr, OB q.1 D (Z.kr op (Z.cnt (fs.take k))) ∧ OFl q.1 D u13 (Z.fr op fs k) ∧ Below D W2 q.1) := Lib.hid (fun q => ⟨OB.below hO q.2, OL.below hF q.2, hbr.trans (q.2.mono (Nat.le_of_lt hDw))⟩)
            clear hkp hO hF hbr HI hkb
            have hj5 : j ≤ 5000 := by omega
            cases kb with
            | true =>
              go_upto_region 21 with fail
              refine wp_region_above (by kernel_rfl) (by kernel_rfl) ?_
              repeat (go_big_quiet_step (fail))
              refine wpQuiet_nil ?_
              rintro _ ⟨q', rfl⟩
              go_wp2_with fail
              go_roundw
              case rel => exact ⟨j, v, by have := HJ.out; omega, by go_num, rfl, Lib.hid (HA.out.no (by rw [HW.out]; rfl)), Lib.hid (HRN.out q')⟩
              case measure => simp [intOf] <;> omega
            | false =>
              have x3 : ∀ q : Ab wr, q.1.cell? ⟨b', o' + j * 8 + 3, none⟩ = some (.int .i64 x.fl.d) := fun q => q.cell HCC.out.2.2.2.1 hba
              have x4 : ∀ q : Ab wr, q.1.cell? ⟨b', o' + j * 8 + 4, none⟩ = some (.string x.fl.f) := fun q => q.cell HCC.out.2.2.2.2.1 hba
              have x5 : ∀ q : Ab wr, q.1.cell? ⟨b', o' + j * 8 + 5, none⟩ = some (.string x.fl.t) := fun q => q.cell HCC.out.2.2.2.2.2.1 hba
              have x6 : ∀ q : Ab wr, q.1.cell? ⟨b', o' + j * 8 + 6, none⟩ = some (.string x.fl.c) := fun q => q.cell HCC.out.2.2.2.2.2.2.1 hba
              have x7 : ∀ q : Ab wr, q.1.cell? ⟨b', o' + j * 8 + 7, none⟩ = some (.string x.fl.a) := fun q => q.cell HCC.out.2.2.2.2.2.2.2 hba
              have y0 : ∀ q : Ab wr, q.1.cell? ⟨b, o + k * 5, none⟩ = some (.int .i64 f.d) := fun q => q.cell HFW.out.1 hbb
              have y1 : ∀ q : Ab wr, q.1.cell? ⟨b, o + k * 5 + 1, none⟩ = some (.string f.f) := fun q => q.cell HFW.out.2.1 hbb
              have y2 : ∀ q : Ab wr, q.1.cell? ⟨b, o + k * 5 + 2, none⟩ = some (.string f.t) := fun q => q.cell HFW.out.2.2.1 hbb
              have y3 : ∀ q : Ab wr, q.1.cell? ⟨b, o + k * 5 + 3, none⟩ = some (.string f.c) := fun q => q.cell HFW.out.2.2.2.1 hbb
              have y4 : ∀ q : Ab wr, q.1.cell? ⟨b, o + k * 5 + 4, none⟩ = some (.string f.a) := fun q => q.cell HFW.out.2.2.2.2 hbb
              have HSM : Hid (Z.same (Z.Fl.mk x.fl.d x.fl.f x.fl.t x.fl.c x.fl.a) (Z.Fl.mk f.d f.f f.t f.c f.a) = decide (x.fl = f)) := Lib.hid rfl
              go_upto_region 21 with fail
              refine wp_region_above (by kernel_rfl) (by kernel_rfl) ?_
              repeat (go_big_quiet_step (fail))
              refine wpQuiet_nil ?_
              rintro _ ⟨q', rfl⟩
              rw [HSM.out]
              clear x3 x4 x5 x6 x7 y0 y1 y2 y3 y4
              by_cases hsf : x.fl = f
              · rw [decide_eq_true hsf] at HW ⊢
                clear hsf
                go_wp2_with fail
                go_roundw
                case rel => exact ⟨j, j, by have := HJ.out; omega, by go_num, (by first | rfl | go_num | (congr 1; push_cast; omega)), Lib.hid (Z.At.yes (by have := HJ.out; omega) (by rw [HW.out]; rfl)), Lib.hid (HRN.out q')⟩
                case measure => simp [intOf] <;> omega
              · rw [decide_eq_false hsf] at HW ⊢
                clear hsf
                go_wp2_with fail
                go_roundw
                case rel => exact ⟨j, v, by have := HJ.out; omega, by go_num, rfl, Lib.hid (HA.out.no (by rw [HW.out]; rfl)), Lib.hid (HRN.out q')⟩
                case measure => simp [intOf] <;> omega
      · obtain rfl : k = fs.length := by omega
        rw [List.take_length] at HI
        obtain ⟨hO, hF, hbr⟩ := HI.out
        have hbr' : Below W2.heap.size W2 wr := by rw [← HD.out]; exact hbr
        have hl3 := ((HBL2.out.below hbr').alloc (.cells #[] 38)).cell 0
        have HSW := Lib.hid (HSW2.out.below hbr')
        have hDw : D < wr.heap.size := hO.lt
        have HP := Lib.hid (And.intro hO (And.intro hF hbr))
        clear hO hF hbr hbr' HI hlt hk
        go_wp2_with (at_builtin; go_loud (refine appAll rfl _ _ rfl wr _ l HSW.out (by omega) rfl rfl ?_; intro A3 n3 c3 w10 hn3 hC10 hb10; have HN3 := Lib.hid hn3; clear hn3))
        have HP2 := Lib.hid (And.intro (hC10.mono (Nat.le_of_lt hDw)) (And.intro (OB.below HP.out.1 hb10) (And.intro (OL.below HP.out.2.1 hb10) (HP.out.2.2.trans (hb10.mono (Nat.le_of_lt hDw))))))
        clear hC10 hb10 HP hl3 hDw
        go_wp2_with fail
        go_loopw [17, 18] (fun ov iv wx => ∃ (k : Nat) (A3 : Option Addr) (n3 c3 : Nat), k ≤ op.length ∧ ov = .slice A3 n3 c3 ∧ iv = .int .i64 k ∧ Hid (n3 = ((Z.rm op (Z.cnt fs) k).foldl (Z.addR en) l).length) ∧ Hid (OC wx D (.slice A3 n3 c3) ((Z.rm op (Z.cnt fs) k).foldl (Z.addR en) l) ∧ OB wx D (Z.kr op (Z.cnt fs)) ∧ OFl wx D u13 (Z.fr op fs fs.length) ∧ Below D W2 wx)) (fun _ iv _ => op.length - (intOf iv).toNat)
        case atStart => exact ⟨0, A3, n3, c3, by omega, rfl, rfl, HN3, HP2⟩
        case round =>
          obtain ⟨k, A3, n3, c3, hk, rfl, rfl, HN3, HI⟩ := hrel
          clear HP2
          by_cases hlt : k < op.length
          · have hz : op[k]? = some op[k] := List.getElem?_eq_getElem hlt
            have HLT := Lib.hid hlt
            obtain ⟨hC, hO, hF, hbr⟩ := HI.out
            have hbr' : Below W2.heap.size W2 wr := by rw [← HD.out]; exact hbr
            obtain ⟨b, o, rfl, hbl, hcj⟩ := HO.out.at_ (by omega)
            have HCC := Lib.hid (cc_of (hcj k _ hz))
            have HRK := Lib.hid (Z.rm_kept (c := Z.cnt fs) hz)
            have HRN := Lib.hid (Z.rm_not (c := Z.cnt fs) hz)
            have hgc := hO.at_ (Z.kr_at (c := Z.cnt fs) hz)
            have hDw : D < wr.heap.size := hO.lt
            have HP := Lib.hid (And.intro hC (And.intro hO (And.intro hF hbr)))
            clear hcj hz hC hO hF hbr hbr'
            generalize op[k] = x at *
            by_cases hkp : Z.cntO (op.take k) x.fl < Z.cnt fs x.fl
            · rw [decide_eq_true hkp] at hgc
              go_wp2_with fail
              go_roundw
              case rel => exact ⟨k + 1, A3, n3, c3, by have := HLT.out; omega, rfl, by go_num, Lib.hid (by rw [HRK.out hkp]; exact HN3.out), Lib.hid ⟨by rw [HRK.out hkp]; exact HP.out.1, HP.out.2⟩⟩
              case measure => have := HLT.out; simp [intOf]; omega
            · rw [decide_eq_false hkp] at hgc
              have hn3b : n3 ≤ 20000 := by rw [HN3.out, Z.foldR_len]; have := Z.rm_len op (Z.cnt fs) k; have := HLT.out; omega
              have HNB := Lib.hid hn3b
              have HFE : Hid (∀ w', Below D W2 w' → CC w' b (o + k * 8) x) := Lib.hid (fun w' h => HCC.out.below (by rw [← HD.out]; exact h) hbl)
              have HF0 : Hid (Below D W2 wr.drew) := Lib.hid HP.out.2.2.2.drew
              have y0 : ∀ y : Cl (Below D W2), y.1.cell? ⟨b, o + k * 8, none⟩ = some (.int .i64 x.n) := fun y => (HFE.out y.1 y.2).1
              have y3 : ∀ y : Cl (Below D W2), y.1.cell? ⟨b, o + k * 8 + 3, none⟩ = some (.int .i64 x.fl.d) := fun y => (HFE.out y.1 y.2).2.2.2.1
              have y4 : ∀ y : Cl (Below D W2), y.1.cell? ⟨b, o + k * 8 + 4, none⟩ = some (.string x.fl.f) := fun y => (HFE.out y.1 y.2).2.2.2.2.1
              have y5 : ∀ y : Cl (Below D W2), y.1.cell? ⟨b, o + k * 8 + 5, none⟩ = some (.string x.fl.t) := fun y => (HFE.out y.1 y.2).2.2.2.2.2.1
              have y6 : ∀ y : Cl (Below D W2), y.1.cell? ⟨b, o + k * 8 + 6, none⟩ = some (.string x.fl.c) := fun y => (HFE.out y.1 y.2).2.2.2.2.2.2.1
              have y7 : ∀ y : Cl (Below D W2), y.1.cell? ⟨b, o + k * 8 + 7, none⟩ = some (.string x.fl.a) := fun y => (HFE.out y.1 y.2).2.2.2.2.2.2.2
              haveI : Nonempty (Cl (Below D W2)) := Cl.some_ HF0.out
              go_upto_region 31 with fail
              clear hgc
              refine wp_region_calm 15 20 (fun w' => ∃ y : Cl (Below D W2), w' = y.1) (by kernel_rfl) (by kernel_rfl) ⟨⟨wr.drew, HF0.out⟩, rfl⟩ ?_
              simp only [List.take_succ_cons, List.take_zero, List.drop_succ_cons, List.drop_zero]
              repeat (go_big_quiet_step (fail))
              refine wpQuiet_nil ?_
              refine fx31 rfl rfl rfl rfl rfl rfl rfl rfl rfl rfl rfl rfl rfl rfl rfl (Nat.le_of_ble_eq_true (by kernel_rfl)) rfl rfl rfl rfl rfl (fun w9 h9 => ⟨⟨w9, h9⟩, rfl⟩) HP.out.2.2.2 HP.out.1 (by rw [← HN3.out]; exact HNB.out) (Nat.le_of_lt hDw) ?_
              intro A' m' c' w9 w12 v1 v2 v3 v4 hb9 hC9 hOC hm' hbB hgB
              have HEQ : Hid ((Z.rm op (Z.cnt fs) (k + 1)).foldl (Z.addR en) l = (Z.rm op (Z.cnt fs) k).foldl (Z.addR en) l ++ [⟨(n3 : Int) + 1, x.n, en, Z.opp x.fl⟩]) := Lib.hid (by
                rw [HRN.out hkp, List.foldl_append]
                show Z.addR en _ x = _
                rw [show ∀ o : List Z.Cl, Z.addR en o x = o ++ [⟨(o.length : Int) + 1, x.n, en, Z.opp x.fl⟩] from fun _ => rfl, ← HN3.out])
              have hO9 := OB.below HP.out.2.1 hb9
              have hF9 := OL.below HP.out.2.2.1 hb9
              have HR12 := Lib.hid (And.intro hOC (And.intro (hO9.kept hgB (hO9.not_row (by decide) hC9)) (And.intro (OL.kept hF9 hgB (OL.ne_row hF9 hC9 (by decide))) ((HP.out.2.2.2.trans (hb9.mono (Nat.le_of_lt hDw))).trans hbB))))
              have HM' := Lib.hid hm'
              clear hOC hm' hbB hgB hb9 hC9 y0 y3 y4 y5 y6 y7 hO9 hF9
              go_wp2_with fail
              go_roundw
              case rel => exact ⟨k + 1, A', m', c', by have := HLT.out; omega, rfl, by go_num, Lib.hid (by rw [HEQ.out, HM'.out, List.length_append]; rfl), Lib.hid ⟨by rw [HEQ.out]; exact HR12.out.1, HR12.out.2⟩⟩
              case measure => have := HLT.out; simp [intOf]; omega
          · obtain rfl : k = op.length := by omega
            obtain ⟨hC, hO, hF, hbr⟩ := HI.out
            have HP := Lib.hid (And.intro hC (And.intro hF hbr))
            have hDw : D < wr.heap.size := hO.lt
            have hfn : (Z.fr op fs fs.length).length ≤ 5000 := Nat.le_trans (Z.fr_len op fs fs.length) hfs
            have hrl : ((Z.rm op (Z.cnt fs) op.length).foldl (Z.addR en) l).length ≤ 10000 := by rw [Z.foldR_len]; have := Z.rm_len op (Z.cnt fs) op.length; omega
            clear hC hO hF hbr HI hlt hk
            generalize Z.fr op fs fs.length = FR at *
            generalize (Z.rm op (Z.cnt fs) op.length).foldl (Z.addR en) l = LR at *
            have HRL := Lib.hid hrl
            have HDL : Hid (D ≤ wr.heap.size) := Lib.hid (Nat.le_of_lt hDw)
            clear hrl
            obtain ⟨A4, c4, rfl⟩ := HP.out.2.1.shape
            go_wp2_with fail
            go_loopw [17, 19] (fun ov iv wx => ∃ (k : Nat) (A3 : Option Addr) (n3 c3 : Nat), k ≤ FR.length ∧ ov = .slice A3 n3 c3 ∧ iv = .int .i64 k ∧ Hid (n3 = ((FR.take k).foldl (Z.addF en) LR).length) ∧ Hid (OC wx D (.slice A3 n3 c3) ((FR.take k).foldl (Z.addF en) LR) ∧ OFl wx D (.slice A4 FR.length c4) FR ∧ Below D W2 wx ∧ D ≤ wx.heap.size)) (fun _ iv _ => FR.length - (intOf iv).toNat)
            case atStart => exact ⟨0, A3, n3, c3, by omega, rfl, rfl, HN3, Lib.hid ⟨HP.out.1, HP.out.2.1, HP.out.2.2, HDL.out⟩⟩
            case round =>
              obtain ⟨k, A3, n3, c3, hk, rfl, rfl, HN3, HI⟩ := hrel
              clear HP hDw
              have hn3b : n3 ≤ 20000 := by rw [HN3.out, Z.foldF_len, List.length_take]; have := HRL.out; omega
              have HNB := Lib.hid hn3b
              by_cases hlt : k < FR.length
              · have hz : FR[k]? = some FR[k] := List.getElem?_eq_getElem hlt
                have HLT := Lib.hid hlt
                obtain ⟨hC, hF, hbr, hDw⟩ := HI.out
                obtain ⟨b, o, rfl, hbl, hcj⟩ := (OL.sl Z.Fl.vs_len hF).at_ (by omega)
                have hcc := fc_of (hcj k _ hz)
                have HTK : Hid ((FR.take (k + 1)).foldl (Z.addF en) LR = Z.addF en ((FR.take k).foldl (Z.addF en) LR) FR[k]) := Lib.hid (by rw [List.take_succ_eq_append_getElem hlt, List.foldl_append]; rfl)
                clear hcj hz
                generalize FR[k] = x at *
                obtain ⟨k0, k1, k2, k3, k4⟩ := hcc
                have HP := Lib.hid (And.intro hC (And.intro hF hbr))
                clear hC hF hbr HI
                go_wp2_with (at_builtin; go_loud (refine appL Z.Cl.vs_len Z.Cl.one rfl _ _ rfl infoC (by omega) (by omega) Try.underlying22 wr D (.slice A3 n3 c3) ((FR.take k).foldl (Z.addF en) LR) ⟨(n3 : Int) + 1, 0, en, x⟩ _ rfl rfl HP.out.1 rfl (by rw [← HN3.out]; exact HNB.out) hDw ?_; intro v' w' hO' hb' hg'; obtain ⟨A', m', c', hm', rfl⟩ := hO'.shape'; replace hm' := Lib.hid hm'))
                have HEQ : Hid ((FR.take (k + 1)).foldl (Z.addF en) LR = (FR.take k).foldl (Z.addF en) LR ++ [⟨(n3 : Int) + 1, 0, en, x⟩]) := Lib.hid (by
                  rw [HTK.out, show ∀ o : List Z.Cl, Z.addF en o x = o ++ [⟨(o.length : Int) + 1, 0, en, x⟩] from fun _ => rfl, ← HN3.out])
                go_roundw
                case rel => exact ⟨k + 1, A', m', c', by have := HLT.out; omega, rfl, by go_num, Lib.hid (by rw [HEQ.out]; exact hm'.out), Lib.hid ⟨by rw [HEQ.out]; exact hO', OL.kept HP.out.2.1 hg' (OL.ne_row HP.out.2.1 HP.out.1 (by decide)), HP.out.2.2.trans hb', Nat.le_trans hDw hb'.size⟩⟩
                case measure => have := HLT.out; simp [intOf]; omega
              · obtain rfl : k = FR.length := by omega
                rw [List.take_length, ← HUL.out] at HI HN3
                obtain ⟨hC, hF, hbr, hDw⟩ := HI.out
                have hw3 := HX.out.1.trans (hbr.mono (by omega))
                have BR3 := HX.out.2.below (by rw [← HD.out]; exact hbr)
                have r0 := BR3.cell 0
                have rf := BR3.frozen 0
                by_cases h5 : 5000 < n3
                · have hE22 : Z.updE l fs en = 22 := by rw [HE0.out, ← HN3.out, if_pos h5]
                  have q0 := RB.out _ BR3
                  clear hF hlt hk
                  go_wp2_with fail
                  refine bodyPost_ret (v := .tuple #[.agg #[.slice none 0 0], .int .i64 22]) (by simp [results, Try.results14, go_sem, q0]) rfl ?_
                  exact UpdRet.bad hw3 hE22 (by decide)
                · have hE22 : Z.updE l fs en = 0 := by rw [HE0.out, ← HN3.out, if_neg h5]
                  have q0 : (wr.setCell ⟨w.heap.size + 1, 0, none⟩ (.slice A3 n3 c3)).cell? ⟨w.heap.size + 1, 0, none⟩ = some (.slice A3 n3 c3) := (BR3.set 0 (.slice A3 n3 c3)).cell 0
                  clear hF hlt hk
                  go_wp2_with fail
                  refine bodyPost_ret (v := .tuple #[.agg #[.slice A3 n3 c3], .int .i64 0]) (by simp [results, Try.results14, go_sem, q0]) rfl ?_
                  have hset := grownBy_setAt wr (w.heap.size + 1) 0 (.slice A3 n3 c3)
                  exact ⟨hw3.setCell (p := ⟨w.heap.size + 1, 0, none⟩) (Nat.le_succ _) _, .inr ⟨hE22, _, rfl, (OL.kept hC hset (fun j hj e => by injection e with e; have := hC.base j hj; omega)).mono (by omega)⟩⟩
end Go.Proofs.Ytdjghmpaopfboaa
