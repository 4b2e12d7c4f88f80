/- Walk: claim.Update. -/
import Derived.Test.YtdjghmpaopfboaaClopen
import Derived.Test.YtdjghmpaopfboaaClclone
import Derived.Test.YtdjghmpaopfboaaClfx
namespace Go.Proofs.Ytdjghmpaopfboaa
open Go.RowKit
theorem OL.shape' {α : Type} {k : Nat} {enc : α → List Value} {e : TypeId} {w : World} {B : Nat} {v : Value} {l : List α} (h : OL k enc e w B v l) : ∃ A m c, m = l.length ∧ v = .slice A m c := by
  obtain ⟨A, c, h⟩ := h.shape
  exact ⟨A, _, c, rfl, h⟩
/-- What Update answers. -/
def UpdRet (l : List Z.Cl) (fs : List Z.Fl) (en : Int) (w : World) (e : Ending) (w' : World) : Prop :=
  Below w.heap.size w w' ∧ ((Z.updE l fs en ≠ 0 ∧ e = .returned (.tuple #[.agg #[.slice none 0 0], .int .i64 (Z.updE l fs en)])) ∨
    (Z.updE l fs en = 0 ∧ ∃ v, e = .returned (.tuple #[.agg #[v], .int .i64 0]) ∧ OC w' w.heap.size v (Z.updL l fs en)))
theorem UpdRet.bad {l : List Z.Cl} {fs : List Z.Fl} {en E : Int} {w W : World} (hb : Below w.heap.size w W) (hE : Z.updE l fs en = E) (h0 : E ≠ 0) :
    UpdRet l fs en w (.returned (.tuple #[.agg #[.slice none 0 0], .int .i64 E])) (W.setCell ⟨w.heap.size + 1, 0, none⟩ (.slice none 0 0)) :=
  ⟨hb.setCell (p := ⟨w.heap.size + 1, 0, none⟩) (Nat.le_succ _) _, .inl ⟨by rw [hE]; exact h0, by rw [hE]⟩⟩
set_option maxRecDepth 100000 in
set_option maxHeartbeats 4000000 in
theorem update_any (v u : Value) (l : List Z.Cl) (fs : List Z.Fl) (en : Int) (w : World) (hS : SC w v l) (hF : SF w u fs) (hV : HasV w) (hs : ∀ x ∈ l, x.fl.small) (hs2 : ∀ x ∈ fs, x.small) :
    Calls Try.prog 13 #[.agg #[v], u, .int .i64 en] w (UpdRet l fs en w) := by
  have hs1 : (w.alloc (.cells #[v] 24)).heap.size = w.heap.size + 1 := Array.size_push _
  have BL0 := Blk.new w 24 #[v]
  have BR := Blk.new (w.alloc (.cells #[v] 24)) 24 #[.slice none 0 0]
  rw [hs1] at BR
  have BL := BL0.alloc (.cells #[.slice none 0 0] 24)
  have hb0 := ((Below.refl _ w).alloc (Nat.le_refl w.heap.size) (.cells #[v] 24)).alloc (by show w.heap.size ≤ _; rw [hs1]; omega) (.cells #[.slice none 0 0] 24)
  have hl0 := BL.cell 0
  have RB : Hid (∀ W', Blk W' (w.heap.size + 1) 24 #[.slice none 0 0] → (W'.setCell ⟨w.heap.size + 1, 0, none⟩ (.slice none 0 0)).cell? ⟨w.heap.size + 1, 0, none⟩ = some (.slice none 0 0)) := Lib.hid (fun W' h => (h.set 0 (.slice none 0 0)).cell 0)
  clear BL0 hs1
  have HS := Lib.hid hS
  have HF := Lib.hid hF
  have HV := Lib.hid hV
  have OP := Lib.hid (fun W (h : Below w.heap.size w W) => open_any v l W (hS.below h) (hV.below h) hs)
  unfold OpenRet at OP
  have CF := Lib.hid (fun W (h : Below w.heap.size w W) => flows_any u fs W (hF.below h) (hV.below h) hs2)
  obtain ⟨A, c, rfl, hlc, hcm, _⟩ := hS
  obtain ⟨A2, c2, rfl, hlc2, hcm2, _⟩ := hF
  unfold maxLen at hcm hcm2
  clear hV
  go_enter Try.func13, Try.ntmps13
  go_wp2_with fail
  generalize ((w.alloc (.cells #[.slice A l.length c] 24)).alloc (.cells #[.slice none 0 0] 24)) = W0 at *
  refine (OP.out _ hb0).mono ?_
  rintro e W1 ⟨hb1, ⟨hv, rfl⟩ | ⟨hv, vo, rfl, hO⟩⟩
  · have h1 := hb0.trans (hb1.mono hb0.size)
    have BR1 := BR.below hb1
    have hE8 : Z.updE l fs en = 8 := by unfold Z.updE; rw [if_neg (by rw [hv]; decide)]
    have r0 := BR1.cell 0
    have rf := BR1.frozen 0
    have q0 := RB.out _ BR1
    go_wp2_with fail
    refine bodyPost_ret (v := .tuple #[.agg #[.slice none 0 0], .int .i64 8]) (by simp [results, Try.results13, go_sem, q0]) rfl ?_
    exact UpdRet.bad h1 hE8 (by decide)
  · have h1 := hb0.trans (hb1.mono hb0.size)
    have BL1 := BL.below hb1
    have BR1 := BR.below hb1
    clear BL BR hl0 hb0 hb1 OP
    go_wp2_with fail
    refine (CF.out _ h1).mono ?_
    rintro e W2 ⟨rfl, hb2⟩
    have h2 := h1.trans (hb2.mono h1.size)
    have BL2 := BL1.below hb2
    have BR2 := BR1.below hb2
    have hO2 := (OL.below hO hb2).mono (Nat.le_refl _)
    clear BL1 BR1 h1 hb2 hO CF
    by_cases hfe : Z.flE fs = 0
    case neg =>
      have hEf : Z.updE l fs en = Z.flE fs := by unfold Z.updE; rw [if_pos hv, if_neg hfe]
      have r0 := BR2.cell 0
      have rf := BR2.frozen 0
      have q0 := RB.out _ BR2
      go_wp2_with fail
      refine bodyPost_ret (v := .tuple #[.agg #[.slice none 0 0], .int .i64 (Z.flE fs)]) (by simp [results, Try.results13, go_sem, q0]) rfl ?_
      exact UpdRet.bad h2 hEf hfe
    rw [hfe]
    have hl2 := BL2.cell 0
    by_cases he0 : en < 0
    case pos =>
      have hE2 : Z.updE l fs en = 2 := by unfold Z.updE; rw [if_pos hv, if_pos hfe, if_pos (.inl he0)]
      have r0 := BR2.cell 0
      have rf := BR2.frozen 0
      have q0 := RB.out _ BR2
      go_wp2_with fail
      refine bodyPost_ret (v := .tuple #[.agg #[.slice none 0 0], .int .i64 2]) (by simp [results, Try.results13, go_sem, q0]) rfl ?_
      exact UpdRet.bad h2 hE2 (by decide)
    by_cases he1 : 1125899906842624 < en
    case pos =>
      have hE2 : Z.updE l fs en = 2 := by unfold Z.updE; rw [if_pos hv, if_pos hfe, if_pos (.inr he1)]
      have r0 := BR2.cell 0
      have rf := BR2.frozen 0
      have q0 := RB.out _ BR2
      go_wp2_with fail
      refine bodyPost_ret (v := .tuple #[.agg #[.slice none 0 0], .int .i64 2]) (by simp [results, Try.results13, go_sem, q0]) rfl ?_
      exact UpdRet.bad h2 hE2 (by decide)
    have hprev : 0 < l.length → ∃ b o, A = some ⟨b, o, none⟩ ∧ W2.cell? ⟨b, o + (l.length - 1) * 8 + 2, none⟩ = some (.int .i64 (Z.prevE l l.length)) := by
      intro hp
      obtain ⟨b, o, hA, hbl, hcj⟩ := (HS.out.below h2).at_ hp
      have hj : l[l.length - 1]? = some l[l.length - 1] := List.getElem?_eq_getElem (by omega)
      refine ⟨b, o, hA, ?_⟩
      have := hcj _ _ hj 2 _ rfl
      rw [show Z.prevE l l.length = l[l.length - 1].e by
        obtain ⟨k, hk⟩ : ∃ k, l.length = k + 1 := ⟨l.length - 1, by omega⟩
        simp only [hk]
        show (match l[k]? with | some x => x.e | none => 0) = _
        rw [List.getElem?_eq_getElem (by omega)]
        simp]
      exact this
    go_upto_region 10 with fail
    have HX := Lib.hid (And.intro h2 BR2)
    go_cut [53] (fun bv wx => bv = .bool (decide (0 < l.length ∧ en < Z.prevE l l.length)) ∧ W2 = wx)
    case first =>
      by_cases hp : 0 < l.length
      · obtain ⟨b, o, rfl, hpc⟩ := hprev hp
        clear hprev
        go_wp2_with fail
        go_meet
        exact ⟨by simp [hp], rfl⟩
      · have hp0 : l.length = 0 := by omega
        clear hprev
        go_wp2_with fail
        go_meet
        exact ⟨by simp [hp], rfl⟩
    case rest =>
    obtain ⟨rfl, rfl⟩ := hcut
    by_cases hst : 0 < l.length ∧ en < Z.prevE l l.length
    case pos =>
      rw [decide_eq_true hst]
      have hE21 : Z.updE l fs en = 21 := by unfold Z.updE; rw [if_pos hv, if_pos hfe, if_neg (by omega), if_pos hst]
      have r0 := BR2.cell 0
      have rf := BR2.frozen 0
      have q0 := RB.out _ BR2
      go_wp2_with fail
      refine bodyPost_ret (v := .tuple #[.agg #[.slice none 0 0], .int .i64 21]) (by simp [results, Try.results13, go_sem, q0]) rfl ?_
      exact UpdRet.bad h2 hE21 (by decide)
    rw [decide_eq_false hst]
    have HE0 : Hid (Z.updE l fs en = if 5000 < (Z.updL l fs en).length then 22 else 0) := Lib.hid (by unfold Z.updE; rw [if_pos hv, if_pos hfe, if_neg (by omega), if_neg hst])
    clear hprev
    go_upto_region 12 with fail
    have hM0 := MF.made W2
    have hbm := (Below.refl _ W2).alloc (Nat.le_refl W2.heap.size) (.map #[] 0)
    have hmk : (Instr.makeMap 65 none).run Try.prog W2 = .ok (.map (some W2.heap.size)) (W2.alloc (.map #[] 0)) := by simp [run_makeMap]
    go_upto_region 13 with fail
    clear hmk
    obtain ⟨vl, vc, hO⟩ := (show ∃ (vl : Option Addr) (vc : Nat), vo = .slice vl (Z.openL l).length vc from by
      obtain ⟨A', c', hv', _⟩ := OL.sl Z.Cl.vs_len hO2
      exact ⟨A', c', hv'⟩)
    subst hO
    have HO := Lib.hid (OL.sl Z.Cl.vs_len hO2)
    have HKO : Hid (∀ x ∈ Z.openL l, KO x.fl) := Lib.hid (open_ko hv hs)
    have HAP : Hid (Z.Apart (Z.openL l)) := Lib.hid (open_apart hv)
    have HON : Hid (∀ x ∈ Z.openL l, ∃ m : Nat, x.n = m ∧ m ≤ l.length) := Lib.hid (open_num hv)
    have HQ0 : Hid (MF (W2.alloc (.map #[] 0)) W2.heap.size 0 (fun _ => none) ∧ Below W2.heap.size W2 (W2.alloc (.map #[] 0))) := Lib.hid ⟨hM0, hbm⟩
    have HBL2 := Lib.hid (And.intro BL2 BR2)
    have HSW2 := Lib.hid (HS.out.below h2)
    have hw2 : w.heap.size + 1 < W2.heap.size := BR2.lt
    have HLL : Hid (l.length ≤ 5000) := Lib.hid (by have hv' := hv; unfold Z.valid at hv'; rw [Bool.and_eq_true, decide_eq_true_iff] at hv'; exact hv'.1)
    have HOL : Hid ((Z.openL l).length ≤ 5000) := Lib.hid (Nat.le_trans (Z.openL_len l) HLL.out)
    have HFS : Hid (fs.length ≤ 5000) := Lib.hid (Z.flE_len hfe).1
    have HNM : Hid (∀ (f : Z.Fl) (j : Nat) (num : Int), (qk (Z.openL l) (Z.openL l).length f)[j]? = some num → ∃ m : Nat, num = m ∧ m ≤ l.length) := Lib.hid (qk_num hv)
    have HKF : Hid (∀ x ∈ fs, KO x) := Lib.hid (flows_ko hfe hs2)
    have HF2 := Lib.hid (HF.out.below h2)
    clear hO2 hM0 hbm
    go_wp2_with fail
    generalize (W2.alloc (.map #[] 0)) = W3 at *
    have HUL : Hid (Z.updL l fs en = (Z.fr (Z.openL l) fs fs.length).foldl (Z.addF en) ((Z.rm (Z.openL l) (Z.cnt fs) (Z.openL l).length).foldl (Z.addR en) l)) := Lib.hid rfl
    generalize Z.openL l = op at *
    obtain ⟨D, hD⟩ : ∃ D, D = W2.heap.size := ⟨_, rfl⟩
    rw [← hD] at HQ0 ⊢
    have HD := Lib.hid hD
    clear hD
    go_loopw [71] (fun iv wr => ∃ (k : Nat) (φ : Z.Fl → Option Nat) (ψ : Z.Fl → Value), k ≤ op.length ∧ iv = .int .i64 k ∧ Hid (MF wr D k φ ∧ QI wr D φ ψ (qk op k) ∧ Below D W2 wr)) (fun iv _ => op.length - (intOf iv).toNat)
    case atStart => exact ⟨0, _, fun _ => .pointer none, by omega, rfl, Lib.hid ⟨HQ0.out.1, QI.nil_ _ _ _, HQ0.out.2⟩⟩
    case round =>
      obtain ⟨k, φ, ψ, hk, rfl, HI⟩ := hrel
      by_cases hlt : k < op.length
      · have hz : op[k]? = some op[k] := List.getElem?_eq_getElem hlt
        have HLT := Lib.hid hlt
        obtain ⟨hM, hQ, hbr⟩ := HI.out
        obtain ⟨b, o, rfl, hbl, hcj⟩ := (HO.out.below (by rw [← HD.out]; exact hbr)).at_ (by omega)
        have hcc := cc_of (hcj k _ hz)
        have hko := HKO.out _ (List.mem_of_getElem? hz)
        have HQK := Lib.hid (qk_step hz)
        have hql := qk_len op k
        clear hcj hz
        generalize op[k] = x at *
        obtain ⟨c0, c1, c2, c3, c4, c5, c6, c7⟩ := hcc
        have BX := Blk.new wr 38 #[.int .i64 x.n, .int .i64 x.r, .int .i64 x.e, .int .i64 x.fl.d, .string x.fl.f, .string x.fl.t, .string x.fl.c, .string x.fl.a]
        have hba := (Below.refl _ wr).alloc (Nat.le_refl wr.heap.size) (.cells #[.int .i64 x.n, .int .i64 x.r, .int .i64 x.e, .int .i64 x.fl.d, .string x.fl.f, .string x.fl.t, .string x.fl.c, .string x.fl.a] 38)
        have hM1 := hM.below hba
        have hQ1 := hQ.below hba
        have hDl : D < wr.heap.size := hM.lt
        have hDw : D ≤ wr.heap.size := Nat.le_of_lt hDl
        have hb1 := hbr.trans (hba.mono hDw)
        go_upto_region 16 with fail
        clear c0 c1 c2 c3 c4 c5 c6 c7 hM hQ hbr HI hba
        generalize (wr.alloc (.cells #[.int .i64 x.n, .int .i64 x.r, .int .i64 x.e, .int .i64 x.fl.d, .string x.fl.f, .string x.fl.t, .string x.fl.c, .string x.fl.a] 38)) = W5 at *
        have hDw5 : D ≤ W5.heap.size := Nat.le_of_lt hM1.lt
        have hx3 := BX.cell 3
        have hx4 := BX.cell 4
        have hx5 := BX.cell 5
        have hx6 := BX.cell 6
        have hx7 := BX.cell 7
        have hlk := hM1.look hko
        unfold fv at hlk
        have hg1 : ∀ o : Option Nat, (eqGuard .eql 66 (.tmp 78) (.const (.pointer none)) (ptrV o) (.pointer none)).run Try.prog W5 = .ok () W5 := by intro o; cases o <;> simp [ptrV, go_sem]
        have hg2 : ∀ o : Option Nat, (binOp .eql 66 (ptrV o) (.pointer none)).run Try.prog W5 = .ok (.bool o.isNone) W5 := by intro o; cases o <;> simp [ptrV, go_sem]
        have hg1 := hg1 (φ x.fl)
        have hg2 := hg2 (φ x.fl)
        go_upto_if 79 with fail
        clear hg1 hg2
        generalize hφ : φ x.fl = fo at *
        go_cut [75] (fun _ wx => ∃ (φ' : Z.Fl → Option Nat) (ψ' : Z.Fl → Value) (b1 : Nat), Hid (MF wx D (k + 1) φ' ∧ φ' x.fl = some b1 ∧ QI wx D φ' ψ' (qk op k) ∧ Below D W2 wx ∧ Blk wx wr.heap.size 38 #[.int .i64 x.n, .int .i64 x.r, .int .i64 x.e, .int .i64 x.fl.d, .string x.fl.f, .string x.fl.t, .string x.fl.c, .string x.fl.a]))
        case first =>
          have HP := Lib.hid (And.intro hM1 (And.intro hQ1 (And.intro hb1 BX)))
          clear hM1 hQ1 hb1 BX
          cases fo with
          | none =>
            replace hlk : (Instr.lookup 65 (.map (some D)) (.agg #[.int .i64 x.fl.d, .string x.fl.f, .string x.fl.t, .string x.fl.c, .string x.fl.a]) false).run Try.prog W5 = .ok (.pointer none) W5 := hlk
            have hs1 : (W5.alloc (.cells #[] 3)).heap.size = W5.heap.size + 1 := Array.size_push _
            have hb2 := ((Below.refl _ W5).alloc (Nat.le_refl W5.heap.size) (.cells #[] 3)).alloc (by rw [hs1]; omega) (.cells #[.slice (some ⟨W5.heap.size, 0, none⟩) 0 0] 68)
            have HM2 := Lib.hid (HP.out.1.below hb2)
            have HQ2 := Lib.hid (QI.add HP.out.2.1 hDw5 hφ)
            have HB2 := Lib.hid (HP.out.2.2.1.trans (hb2.mono hDw5))
            have HBX := Lib.hid (HP.out.2.2.2.below hb2)
            clear hb2 hs1 HP
            go_wp2_with (at_mapUpdate; go_loud (refine mapUpd rfl _ _ _ rfl rfl HM2.out (by have := HOL.out; omega) hko (W5.heap.size + 1) rfl rfl ?_; intro w9 hM9 hg9))
            go_meet
            have hsD : D ≤ ((W5.alloc (.cells #[] 3)).alloc (.cells #[.slice (some ⟨W5.heap.size, 0, none⟩) 0 0] 68)).heap.size := Nat.le_of_lt HM2.out.lt
            exact ⟨fun g => if g = x.fl then some (W5.heap.size + 1) else φ g, fun g => if g = x.fl then .slice (some ⟨W5.heap.size, 0, none⟩) 0 0 else ψ g, W5.heap.size + 1, Lib.hid ⟨hM9, by simp, HQ2.out.map HM2.out.at_ hg9, HB2.out.grown hg9 hsD (fun k hk => by injection hk with hk; omega), HBX.out.kept hg9 (fun e => by injection e with e; omega)⟩⟩
          | some b1 =>
            replace hlk : (Instr.lookup 65 (.map (some D)) (.agg #[.int .i64 x.fl.d, .string x.fl.f, .string x.fl.t, .string x.fl.c, .string x.fl.a]) false).run Try.prog W5 = .ok (.pointer (some ⟨b1, 0, none⟩)) W5 := hlk
            go_wp2_with fail
            go_meet
            exact ⟨φ, ψ, b1, Lib.hid ⟨HP.out.1.mono (by omega), hφ, HP.out.2.1, HP.out.2.2.1, HP.out.2.2.2⟩⟩
        case rest =>
          obtain ⟨φ', ψ', b1, HR⟩ := hcut
          clear hlk hφ hx3 hx4 hx5 hx6 hx7 hM1 hQ1 hb1 BX φ ψ fo
          obtain ⟨hM, hφ, hQ, hbW, BX⟩ := HR.out
          obtain ⟨hB1, BQ, OQ1⟩ := hQ.1 _ _ hφ
          have hDc : D < wc.heap.size := hM.lt
          have HLN : Hid ((qk op k x.fl).length ≤ 20000) := Lib.hid (by have := qk_len op k x.fl; have := HOL.out; omega)
          have hne1 := BQ.not_row (by decide) OQ1
          have hne2 := BX.not_row (by decide) OQ1
          have hne3 := hM.at_.ne_row OQ1
          obtain ⟨F, hFe⟩ : ∃ F : World → Prop, F = fun w' => MF w' D (k + 1) φ' ∧ Blk w' b1 68 #[ψ' x.fl] ∧ Blk w' wr.heap.size 38 #[.int .i64 x.n, .int .i64 x.r, .int .i64 x.e, .int .i64 x.fl.d, .string x.fl.f, .string x.fl.t, .string x.fl.c, .string x.fl.a] := ⟨_, rfl⟩
          have HF0 : Hid (F wc.drew) := Lib.hid (by rw [hFe]; exact ⟨hM, BQ, BX⟩)
          have HF1 : Hid (F (wc.alloc (.cells #[.int .i64 x.n] 3)).drew) := Lib.hid (by
            have hbb := (Below.refl _ wc).alloc (Nat.le_refl wc.heap.size) (.cells #[.int .i64 x.n] 3)
            rw [hFe]
            exact ⟨hM.below hbb.drew, BQ.below hbb.drew, BX.below hbb.drew⟩)
          have HFA : Hid (∀ w', wc.grownBy w' (ψ' x.fl).ownBlock → F w') := Lib.hid (fun w' hg => by
            rw [hFe]
            exact ⟨hM.kept hg hne3, BQ.kept hg hne1, BX.kept hg hne2⟩)
          have HFE : Hid (∀ w', F w' → MF w' D (k + 1) φ' ∧ Blk w' b1 68 #[ψ' x.fl] ∧ Blk w' wr.heap.size 38 #[.int .i64 x.n, .int .i64 x.r, .int .i64 x.e, .int .i64 x.fl.d, .string x.fl.f, .string x.fl.t, .string x.fl.c, .string x.fl.a]) := Lib.hid (fun w' h => by rw [hFe] at h; exact h)
          have hlk : ∀ y : Cl F, (Instr.lookup 65 (.map (some D)) (.agg #[.int .i64 x.fl.d, .string x.fl.f, .string x.fl.t, .string x.fl.c, .string x.fl.a]) false).run Try.prog y.1 = .ok (.pointer (some ⟨b1, 0, none⟩)) y.1 := fun y => by
            have q := (HFE.out y.1 y.2).1.look hko
            rw [hφ] at q
            exact q
          have hx0 : ∀ y : Cl F, y.1.cell? ⟨wr.heap.size, 0, none⟩ = some (.int .i64 x.n) := fun y => (HFE.out y.1 y.2).2.2.cell 0
          have hx3 : ∀ y : Cl F, y.1.cell? ⟨wr.heap.size, 3, none⟩ = some (.int .i64 x.fl.d) := fun y => (HFE.out y.1 y.2).2.2.cell 3
          have hx4 : ∀ y : Cl F, y.1.cell? ⟨wr.heap.size, 4, none⟩ = some (.string x.fl.f) := fun y => (HFE.out y.1 y.2).2.2.cell 4
          have hx5 : ∀ y : Cl F, y.1.cell? ⟨wr.heap.size, 5, none⟩ = some (.string x.fl.t) := fun y => (HFE.out y.1 y.2).2.2.cell 5
          have hx6 : ∀ y : Cl F, y.1.cell? ⟨wr.heap.size, 6, none⟩ = some (.string x.fl.c) := fun y => (HFE.out y.1 y.2).2.2.cell 6
          have hx7 : ∀ y : Cl F, y.1.cell? ⟨wr.heap.size, 7, none⟩ = some (.string x.fl.a) := fun y => (HFE.out y.1 y.2).2.2.cell 7
          have hqc : ∀ y : Cl F, y.1.cell? ⟨b1, 0, none⟩ = some (ψ' x.fl) := fun y => (HFE.out y.1 y.2).2.1.cell 0
          have LQ := Lib.hid OQ1
          have HMM := Lib.hid hM
          have HHQ := Lib.hid hQ
          clear hM BX hQ OQ1 BQ HR hFe
          haveI : Nonempty (Cl F) := Cl.some_ HF0.out
          go_upto_region 18 with fail
          refine wp_region_calm 12 14 (fun w' => ∃ y : Cl F, w' = y.1) (by kernel_rfl) (by kernel_rfl) ⟨⟨wc.drew, HF0.out⟩, rfl⟩ ?_
          simp only [List.take_succ_cons, List.take_zero, List.drop_succ_cons, List.drop_zero]
          repeat (go_big_quiet_step (fail))
          refine wpQuiet_nil ?_
          refine fx_value (u := .slice (some ⟨wc.heap.size, 0, none⟩) 1 1) (w' := (wc.alloc (.cells #[.int .i64 x.n] 3)).drew) rfl ?_ (fun _ => ⟨⟨_, HF1.out⟩, rfl⟩) ?_
          · simp [go_sem]
          refine fx_appQ rfl (.tmp 94) (.tmp 97) rfl wc D (ψ' x.fl) (qk op k x.fl) x.n rfl LQ.out rfl HLN.out (Nat.le_of_lt hDc) ?_
          intro A' m' c' w3 hO hbB hgB hat
          refine ⟨fun _ => ⟨⟨w3, HFA.out _ hgB⟩, rfl⟩, ?_⟩
          have kb := (HFE.out w3 (HFA.out _ hgB)).2.1
          have kb0 := kb.cell 0
          have kf0 := kb.frozen 0
          refine fx_value (u := .pointer (some ⟨b1, 0, none⟩)) (w' := w3) rfl ?_ (fun h => absurd h (by omega)) ?_
          · simp [go_sem]
          refine fx_skip (w' := w3.setCell ⟨b1, 0, none⟩ (.slice A' m' c')) rfl ?_ (fun h => absurd h (by omega)) ?_
          · simp [go_sem, kb0, kf0]
          refine fx_nil ?_
          have HQN := Lib.hid (HHQ.out.app hφ hO hgB hat)
          have hDb1 : D ≠ b1 := by
            rintro rfl
            exact (HMM.out.at_.ne_blk ((HFE.out _ HF0.out).2.1 : Blk wc D _ _)) rfl
          have HMN : Hid (MF (w3.setCell ⟨b1, 0, none⟩ (.slice A' m' c')) D (k + 1) φ') := Lib.hid (((HFE.out w3 (HFA.out _ hgB)).1).kept (grownBy_setAt w3 b1 0 _) (fun e => hDb1 (Option.some.inj e)))
          have HBN : Hid (Below D W2 (w3.setCell ⟨b1, 0, none⟩ (.slice A' m' c'))) := Lib.hid ((hbW.trans hbB).setCell (p := ⟨b1, 0, none⟩) hB1 _)
          clear hlk hx0 hx3 hx4 hx5 hx6 hx7 hqc kb kb0 kf0
          have hol5 := HOL.out
          go_wp2_with fail
          go_roundw
          case rel => exact ⟨k + 1, φ', _, by have := HLT.out; omega, by go_num, Lib.hid ⟨HMN.out, by rw [HQK.out]; exact HQN.out, HBN.out⟩⟩
          case measure => have := HLT.out; simp [intOf]; omega
      · obtain rfl : k = op.length := by omega
        obtain ⟨hM, hQ, hbr⟩ := HI.out
        have hDl : D < wr.heap.size := hM.lt
        have hln : l.length ≤ 5000 := HLL.out
        have HQ1 := Lib.hid hQ.qj
        have HM1 := Lib.hid hM
        have HB1 := Lib.hid hbr
        clear HI hM hQ hbr hlt hk
        go_wp2_with (at_make; go_loud (refine mkB rfl _ _ rfl wr _ (l.length + 1) rfl rfl (by omega) (by omega) ?_; intro W6 hO6 hb6))
        have hb7 := hb6.alloc hb6.size (.cells #[] 36)
        have HS7 : Hid (MF (W6.alloc (.cells #[] 36)) D op.length φ ∧ QJ (W6.alloc (.cells #[] 36)) D φ ψ (qk op op.length) (fun _ => 0) ψ ∧ OB (W6.alloc (.cells #[] 36)) wr.heap.size (Z.kb op l.length (fun _ => 0)) ∧ OFl (W6.alloc (.cells #[] 36)) D (.slice (some ⟨W6.heap.size, 0, none⟩) 0 0) [] ∧ Below D W2 (W6.alloc (.cells #[] 36))) := Lib.hid (by
          refine ⟨HM1.out.below hb7, HQ1.out.below hb7, ?_, ?_, HB1.out.trans (hb7.mono (Nat.le_of_lt hDl))⟩
          · rw [Z.kb_zero]; exact OB.below hO6 ((Below.refl _ W6).alloc (Nat.le_refl _) _)
          · exact ⟨rfl, .inr ⟨W6.heap.size, 0, #[], rfl, by have := hb6.size; omega, Blk.new W6 36 #[], Nat.zero_le _, Nat.zero_le _, rfl, rfl⟩⟩)
        have hgD : D ≤ wr.heap.size := Nat.le_of_lt hDl
        clear hb7 hO6 hb6 HQ1 HM1 HB1 hDl
        generalize wr.heap.size = g at *
        go_wp2_with fail
        generalize (W6.alloc (.cells #[] 36)) = W7 at *
        go_loopw [16, 107] (fun fw iv wx => ∃ (k : Nat) (J : Z.Fl → Nat) (uq : Z.Fl → Value), k ≤ fs.length ∧ iv = .int .i64 k ∧ Hid (MF wx D op.length φ ∧ QJ wx D φ ψ (qk op op.length) J uq ∧ OB wx g (Z.kb op l.length (Z.cnt (fs.take k))) ∧ OFl wx D fw (Z.fr op fs k) ∧ Below D W2 wx) ∧ Hid (∀ f, J f = min (Z.cnt (fs.take k) f) (qk op op.length f).length)) (fun _ iv _ => fs.length - (intOf iv).toNat)
        case atStart => exact ⟨0, fun _ => 0, ψ, by omega, rfl, HS7, Lib.hid (fun f => by simp [Z.cnt])⟩
        case round =>
          obtain ⟨k, J, uq, hk, rfl, HI, HJ⟩ := hrel
          clear HS7
          by_cases hlt : k < fs.length
          · have hz : fs[k]? = some fs[k] := List.getElem?_eq_getElem hlt
            have HLT := Lib.hid hlt
            obtain ⟨hM, hQ, hO, hF, hbr⟩ := HI.out
            obtain ⟨b, o, rfl, hbl, hcj⟩ := (HF2.out.below (by rw [← HD.out]; exact hbr)).at_ (by omega)
            have hcc := fc_of (hcj k _ hz)
            have hko := HKF.out _ (List.mem_of_getElem? hz)
            have HZ := Lib.hid hz
            clear hcj hz
            generalize fs[k] = x at *
            obtain ⟨c0, c1, c2, c3, c4⟩ := hcc
            have BX := Blk.new wr 36 #[.int .i64 x.d, .string x.f, .string x.t, .string x.c, .string x.a]
            have hba := (Below.refl _ wr).alloc (Nat.le_refl wr.heap.size) (.cells #[.int .i64 x.d, .string x.f, .string x.t, .string x.c, .string x.a] 36)
            have hDw : D < wr.heap.size := hM.lt
            have hM1 := hM.below hba
            have hQ1 := hQ.below hba
            have hO1 := OB.below hO hba
            have hF1 := OL.below hF hba
            have hb1 := hbr.trans (hba.mono (Nat.le_of_lt hDw))
            clear hM hQ hO hF hbr HI
            go_upto_region 24 with fail
            clear c0 c1 c2 c3 c4 hba
            generalize (wr.alloc (.cells #[.int .i64 x.d, .string x.f, .string x.t, .string x.c, .string x.a] 36)) = W5 at *
            have hx0 := BX.cell 0
            have hx1 := BX.cell 1
            have hx2 := BX.cell 2
            have hx3 := BX.cell 3
            have hx4 := BX.cell 4
            have hlk := hM1.look hko
            unfold fv at hlk
            have HP := Lib.hid (And.intro hM1 (And.intro hQ1 (And.intro hO1 (And.intro hF1 (And.intro hb1 BX)))))
            have HC := Lib.hid (Z.cnt_snoc HZ.out)
            have HLX := Lib.hid (qk_cnt op x)
            have HFL : Hid ((Z.fr op fs k).length ≤ 20000) := Lib.hid (by have := Z.fr_len op fs k; have := HFS.out; have := HLT.out; omega)
            have hfs5 := HFS.out
            have hD5 : D < W5.heap.size := hM1.lt
            have hbx5 : wr.heap.size < W5.heap.size := BX.lt
            clear hM1 hQ1 hO1 hF1 hb1 BX
            cases hφ : φ x with
            | none =>
              rw [hφ] at hlk
              replace hlk : (Instr.lookup 65 (.map (some D)) (.agg #[.int .i64 x.d, .string x.f, .string x.t, .string x.c, .string x.a]) false).run Try.prog W5 = .ok (.pointer none) W5 := hlk
              have hQ0 := HP.out.2.1.2.1 x hφ
              have HGE : Hid (Z.cntO op x ≤ Z.cnt (fs.take k) x) := Lib.hid (by rw [← HLX.out, hQ0]; exact Nat.zero_le _)
              have hs1 : (W5.alloc (.cells #[] 3)).heap.size = W5.heap.size + 1 := Array.size_push _
              have hb2 := ((Below.refl _ W5).alloc (Nat.le_refl W5.heap.size) (.cells #[] 3)).alloc (by rw [hs1]; omega) (.cells #[.slice (some ⟨W5.heap.size, 0, none⟩) 0 0] 68)
              have BN := Blk.new (W5.alloc (.cells #[] 3)) 68 #[.slice (some ⟨W5.heap.size, 0, none⟩) 0 0]
              rw [hs1] at BN
              have ON : OQ ((W5.alloc (.cells #[] 3)).alloc (.cells #[.slice (some ⟨W5.heap.size, 0, none⟩) 0 0] 68)) 0 (.slice (some ⟨W5.heap.size, 0, none⟩) 0 0) [] := ⟨rfl, .inr ⟨W5.heap.size, 0, #[], rfl, Nat.zero_le _, (Blk.new W5 3 #[]).alloc _, Nat.zero_le _, Nat.zero_le _, rfl, rfl⟩⟩
              have TK := Lib.hid (take_none (W5.heap.size + 1) _ _ [] 0 _ BN ON (SubV.zero ON))
              have HP2 := Lib.hid (And.intro (HP.out.1.below hb2) (And.intro (HP.out.2.1.below hb2) (And.intro (OB.below HP.out.2.2.1 hb2) (And.intro (OL.below HP.out.2.2.2.1 hb2) (And.intro (HP.out.2.2.2.2.1.trans (hb2.mono (Nat.le_of_lt hD5))) (HP.out.2.2.2.2.2.below hb2))))))
              clear hb2 hs1 BN ON HP
              go_wp2_with fail
              clear hlk hx0 hx1 hx2 hx3 hx4
              generalize ((W5.alloc (.cells #[] 3)).alloc (.cells #[.slice (some ⟨W5.heap.size, 0, none⟩) 0 0] 68)) = W8 at *
              refine TK.out.mono ?_
              rintro e w9 ⟨rfl, rfl⟩
              have BX := HP2.out.2.2.2.2.2
              have hx0 := BX.cell 0
              have hx1 := BX.cell 1
              have hx2 := BX.cell 2
              have hx3 := BX.cell 3
              have hx4 := BX.cell 4
              clear BX
              go_wp2_with (at_builtin; go_loud (refine appL Z.Fl.vs_len Z.Fl.one rfl _ _ rfl infoF (by omega) (by omega) Try.underlying25 W8 D u16 (Z.fr op fs k) x _ rfl rfl HP2.out.2.2.2.1 rfl HFL.out (Nat.le_of_lt HP2.out.1.lt) ?_; intro v' w' hO' hb' hg'))
              go_roundw
              case rel => exact ⟨k + 1, J, uq, by have := HLT.out; omega, by go_num, Lib.hid ⟨HP2.out.1.kept hg' (HP2.out.1.at_.ne_rowF HP2.out.2.2.2.1), HP2.out.2.1.flow HP2.out.2.2.2.1 hg', by rw [Z.kb_full HC.out HGE.out]; exact HP2.out.2.2.1.kept hg' (HP2.out.2.2.1.not_row (by decide) HP2.out.2.2.2.1), by rw [Z.fr_new HZ.out HGE.out]; exact hO', HP2.out.2.2.2.2.1.trans hb'⟩, Lib.hid (fun f => by
                rw [HJ.out f, HC.out f]
                by_cases e : x = f
                · subst e
                  rw [hQ0]
                  simp
                · rw [if_neg e, Nat.add_zero])⟩
              case measure => have := HLT.out; simp [intOf]; omega
            | some b1 =>
              rw [hφ] at hlk
              replace hlk : (Instr.lookup 65 (.map (some D)) (.agg #[.int .i64 x.d, .string x.f, .string x.t, .string x.c, .string x.a]) false).run Try.prog W5 = .ok (.pointer (some ⟨b1, 0, none⟩)) W5 := hlk
              obtain ⟨hB1, hBQ, hOQ, hSV⟩ := HP.out.2.1.1 x b1 hφ
              by_cases hfull : Z.cntO op x ≤ Z.cnt (fs.take k) x
              · have hJ : J x = (qk op op.length x).length := by rw [HJ.out x, HLX.out]; omega
                rw [hJ] at hSV
                have TK := Lib.hid (take_none b1 _ _ _ D _ hBQ hOQ hSV)
                clear hBQ hOQ hSV
                go_wp2_with fail
                refine TK.out.mono ?_
                rintro e w9 ⟨rfl, rfl⟩
                go_wp2_with (at_builtin; go_loud (refine appL Z.Fl.vs_len Z.Fl.one rfl _ _ rfl infoF (by omega) (by omega) Try.underlying25 W5 D u16 (Z.fr op fs k) x _ rfl rfl HP.out.2.2.2.1 rfl HFL.out (Nat.le_of_lt HP.out.1.lt) ?_; intro v' w' hO' hb' hg'))
                go_roundw
                case rel => exact ⟨k + 1, J, uq, by have := HLT.out; omega, by go_num, Lib.hid ⟨HP.out.1.kept hg' (HP.out.1.at_.ne_rowF HP.out.2.2.2.1), HP.out.2.1.flow HP.out.2.2.2.1 hg', by rw [Z.kb_full HC.out hfull]; exact HP.out.2.2.1.kept hg' (HP.out.2.2.1.not_row (by decide) HP.out.2.2.2.1), by rw [Z.fr_new HZ.out hfull]; exact hO', HP.out.2.2.2.2.1.trans hb'⟩, Lib.hid (fun f => by
                  rw [HJ.out f, HC.out f]
                  by_cases e : x = f
                  · subst e
                    rw [if_pos rfl, HLX.out]
                    omega
                  · rw [if_neg e, Nat.add_zero])⟩
                case measure => have := HLT.out; simp [intOf]; omega
              · have hJ : J x = Z.cnt (fs.take k) x := by rw [HJ.out x, HLX.out]; omega
                obtain ⟨num, hnum⟩ : ∃ num, (qk op op.length x)[J x]? = some num := ⟨_, List.getElem?_eq_getElem (by rw [HLX.out]; omega)⟩
                obtain ⟨mm, rfl, hmm⟩ := HNM.out _ _ _ hnum
                have TK := Lib.hid (take_some b1 _ _ _ _ D _ _ hBQ hOQ hnum hSV)
                have HKB := Lib.hid (Z.kb_take (op := op) (N := l.length) HC.out (by rw [← qk_full, ← hJ]; exact hnum))
                have hQB := Lib.hid hBQ
                clear hBQ hOQ hSV
                go_wp2_with fail
                refine TK.out.mono ?_
                rintro e w9 ⟨rfl, u', hu', rfl⟩
                have hset := grownBy_setAt W5 b1 0 u'
                have hgb : g ≠ b1 := by
                  rintro rfl
                  exact absurd (blk_blk hQB.out (show Blk W5 g 4 _ from HP.out.2.2.1)) (by decide)
                have hO9 : OB (W5.setCell ⟨b1, 0, none⟩ u') g (Z.kb op l.length (Z.cnt (fs.take k))) := HP.out.2.2.1.kept hset (fun e => hgb (Option.some.inj e))
                have hgc := hO9.at_ (Z.kb_at (op := op) (c := Z.cnt (fs.take k)) hmm)
                have hgf := Blk.frozen hO9 mm
                have hset2 := grownBy_setAt (W5.setCell ⟨b1, 0, none⟩ u') g mm (.bool true)
                have HM9 := Lib.hid ((HP.out.1.kept hset (fun e => HP.out.1.at_.ne_blk hQB.out (Option.some.inj e).symm)).kept hset2 (fun e => (HP.out.1.kept hset (fun e => HP.out.1.at_.ne_blk hQB.out (Option.some.inj e).symm)).at_.ne_g hO9 (Option.some.inj e)))
                have HQ9 := Lib.hid ((HP.out.2.1.take hφ hu').bool hO9 hset2)
                have HO9 := Lib.hid (hO9.set mm true)
                have HF9 := Lib.hid (OFl.kept_blk (OFl.kept_blk HP.out.2.2.2.1 hQB.out (by decide) hset) hO9 (by decide) hset2)
                have HB9 := Lib.hid ((HP.out.2.2.2.2.1.setCell (p := ⟨b1, 0, none⟩) hB1 u').setCell (p := ⟨g, mm, none⟩) hgD (.bool true))
                have HFO := Lib.hid (Z.fr_old HZ.out hfull)
                clear hO9 hset hset2
                go_wp2_with fail
                go_roundw
                case rel => exact ⟨k + 1, _, _, by have := HLT.out; omega, by go_num, Lib.hid ⟨HM9.out, HQ9.out, by rw [HKB.out]; exact HO9.out, by rw [HFO.out]; exact HF9.out, HB9.out⟩, Lib.hid (fun f => by
                  rw [HC.out f]
                  by_cases e : f = x
                  · subst e
                    rw [if_pos rfl, if_pos rfl, hJ, HLX.out]
                    omega
                  · rw [if_neg e, if_neg (fun h => e h.symm), Nat.add_zero]
                    exact HJ.out f)⟩
                case measure => have := HLT.out; simp [intOf]; omega
          · obtain rfl : k = fs.length := by omega
            obtain ⟨hM, hQ, hO, hF, hbr⟩ := HI.out
            rw [List.take_length] at hO
            have hbr' : Below W2.heap.size W2 wr := by rw [← HD.out]; exact hbr
            have hwD : w.heap.size + 1 < D := by rw [HD.out]; exact hw2
            have hl3 := (HBL2.out.1.below hbr').cell 0
            have CLN := Lib.hid (clone_any _ l wr (HSW2.out.below hbr') (by have := HLL.out; omega))
            have hDw : D < wr.heap.size := hM.lt
            have HP := Lib.hid (And.intro hO (And.intro hF hbr))
            clear hM hQ hO hF hbr hbr' HI HJ hlt hk
            go_wp2_with fail
            refine CLN.out.mono ?_
            rintro e w10 ⟨vc1, rfl, hC10, hb10⟩
            obtain ⟨A3, c3, rfl⟩ := hC10.shape
            have hb11 := hb10.alloc hb10.size (.cells #[.slice A3 l.length c3] 24)
            have BO := Blk.new w10 24 #[.slice A3 l.length c3]
            have hwob : wr.heap.size ≤ w10.heap.size := hb10.size
            have HP2 := Lib.hid (And.intro BO (And.intro ((OL.alloc hC10 (.cells #[.slice A3 l.length c3] 24)).mono (Nat.le_of_lt hDw)) (And.intro (OB.below HP.out.1 hb11) (And.intro (OL.below HP.out.2.1 hb11) (HP.out.2.2.trans (hb11.mono (Nat.le_of_lt hDw)))))))
            clear hb11 BO hC10 hb10 CLN HP hl3
            go_wp2_with fail
            obtain ⟨ob, hob⟩ : ∃ ob, ob = w10.heap.size := ⟨_, rfl⟩
            have hobD : D ≤ ob := by omega
            rw [← hob] at HP2 ⊢
            generalize (w10.alloc (.cells #[.slice A3 l.length c3] 24)) = W11 at *
            clear hob hwob hDw
            go_loopw [138] (fun iv wx => ∃ (k : Nat) (A3 : Option Addr) (n3 c3 : Nat), k ≤ op.length ∧ iv = .int .i64 k ∧ n3 = ((Z.rm op (Z.cnt fs) k).foldl (Z.addR en) l).length ∧ Hid (Blk wx ob 24 #[.slice A3 n3 c3] ∧ OC wx D (.slice A3 n3 c3) ((Z.rm op (Z.cnt fs) k).foldl (Z.addR en) l) ∧ OB wx g (Z.kb op l.length (Z.cnt fs)) ∧ OFl wx D u16 (Z.fr op fs fs.length) ∧ Below D W2 wx)) (fun iv _ => op.length - (intOf iv).toNat)
            case atStart => exact ⟨0, A3, l.length, c3, by omega, rfl, rfl, HP2⟩
            case round =>
              obtain ⟨k, A3, n3, c3, hk, rfl, hn3, HI⟩ := hrel
              have HN3 := Lib.hid hn3
              clear HP2 hn3
              by_cases hlt : k < op.length
              · have hz : op[k]? = some op[k] := List.getElem?_eq_getElem hlt
                have HLT := Lib.hid hlt
                obtain ⟨hQ, hC, hO, hF, hbr⟩ := HI.out
                obtain ⟨b, o, rfl, hbl, hcj⟩ := (HO.out.below (by rw [← HD.out]; exact hbr)).at_ (by omega)
                have hcc := cc_of (hcj k _ hz)
                obtain ⟨mm, hmn, hmm⟩ := HON.out _ (List.mem_of_getElem? hz)
                have HKN := Lib.hid (Z.keptN_at (c := Z.cnt fs) HAP.out hz)
                have HRK := Lib.hid (Z.rm_kept (c := Z.cnt fs) hz)
                have HRN := Lib.hid (Z.rm_not (c := Z.cnt fs) hz)
                clear hcj hz
                generalize op[k] = x at *
                obtain ⟨k0, k1, k2, k3, k4, k5, k6, k7⟩ := hcc
                rw [hmn] at k0 HKN
                have BX := Blk.new wr 38 #[.int .i64 (mm : Int), .int .i64 x.r, .int .i64 x.e, .int .i64 x.fl.d, .string x.fl.f, .string x.fl.t, .string x.fl.c, .string x.fl.a]
                have hba := (Below.refl _ wr).alloc (Nat.le_refl wr.heap.size) (.cells #[.int .i64 (mm : Int), .int .i64 x.r, .int .i64 x.e, .int .i64 x.fl.d, .string x.fl.f, .string x.fl.t, .string x.fl.c, .string x.fl.a] 38)
                have hobw : ob < wr.heap.size := hQ.lt
                have HRB : Hid (some wr.heap.size ≠ (Value.slice A3 n3 c3).ownBlock) := Lib.hid (fun e => absurd (World.ownsRow.lt hC _ e.symm).2 (Nat.lt_irrefl _))
                have HP := Lib.hid (And.intro (hQ.below hba) (And.intro (OL.below hC hba) (And.intro (OB.below hO hba) (And.intro (OL.below hF hba) (And.intro (hbr.trans (hba.mono (by omega))) BX)))))
                have hgc := (OB.below hO hba).at_ (Z.kb_at (op := op) (c := Z.cnt fs) hmm)
                clear hQ hC hO hF hbr HI
                go_upto_region 36 with fail
                clear k0 k1 k2 k3 k4 k5 k6 k7 hba BX
                generalize (wr.alloc (.cells #[.int .i64 (mm : Int), .int .i64 x.r, .int .i64 x.e, .int .i64 x.fl.d, .string x.fl.f, .string x.fl.t, .string x.fl.c, .string x.fl.a] 38)) = W5 at *
                have hx0 := HP.out.2.2.2.2.2.cell 0
                have hln := HLL.out
                have hol5 := HOL.out
                by_cases hkp : Z.cntO (op.take k) x.fl < Z.cnt fs x.fl
                · have hkn : Z.keptN op (Z.cnt fs) mm = true := by rw [HKN.out, decide_eq_true hkp]
                  rw [hkn] at hgc
                  clear hkn
                  go_wp2_with fail
                  go_roundw
                  case rel => exact ⟨k + 1, A3, n3, c3, by have := HLT.out; omega, by go_num, by rw [HRK.out hkp]; exact HN3.out, Lib.hid ⟨HP.out.1, by rw [HRK.out hkp]; exact HP.out.2.1, HP.out.2.2.1, HP.out.2.2.2.1, HP.out.2.2.2.2.1⟩⟩
                  case measure => have := HLT.out; simp [intOf]; omega
                · have hkn : Z.keptN op (Z.cnt fs) mm = false := by rw [HKN.out, decide_eq_false hkp]
                  rw [hkn] at hgc
                  clear hkn
                  have hn3b : n3 ≤ 20000 := by rw [HN3.out, Z.foldR_len]; have := Z.rm_len op (Z.cnt fs) k; have := HLT.out; omega
                  have HNB := Lib.hid hn3b
                  obtain ⟨hQ5, hC5, hO5, hF5, hbr5, hX5⟩ := HP.out
                  obtain ⟨F, hFe⟩ : ∃ F : World → Prop, F = fun w' => Blk w' ob 24 #[.slice A3 n3 c3] ∧ Blk w' wr.heap.size 38 #[.int .i64 (mm : Int), .int .i64 x.r, .int .i64 x.e, .int .i64 x.fl.d, .string x.fl.f, .string x.fl.t, .string x.fl.c, .string x.fl.a] := ⟨_, rfl⟩
                  have HFI : Hid (∀ w', Blk w' ob 24 #[.slice A3 n3 c3] → Blk w' wr.heap.size 38 #[.int .i64 (mm : Int), .int .i64 x.r, .int .i64 x.e, .int .i64 x.fl.d, .string x.fl.f, .string x.fl.t, .string x.fl.c, .string x.fl.a] → F w') := Lib.hid (fun w' h1 h2 => by rw [hFe]; exact ⟨h1, h2⟩)
                  have HFE : Hid (∀ w', F w' → Blk w' ob 24 #[.slice A3 n3 c3] ∧ Blk w' wr.heap.size 38 #[.int .i64 (mm : Int), .int .i64 x.r, .int .i64 x.e, .int .i64 x.fl.d, .string x.fl.f, .string x.fl.t, .string x.fl.c, .string x.fl.a]) := Lib.hid (fun w' h => by rw [hFe] at h; exact h)
                  have HF0 : Hid (F W5.drew) := Lib.hid (HFI.out _ hQ5 hX5)
                  have hq0 : ∀ y : Cl F, y.1.cell? ⟨ob, 0, none⟩ = some (.slice A3 n3 c3) := fun y => (HFE.out y.1 y.2).1.cell 0
                  have hy0 : ∀ y : Cl F, y.1.cell? ⟨wr.heap.size, 0, none⟩ = some (.int .i64 (mm : Int)) := fun y => (HFE.out y.1 y.2).2.cell 0
                  have hy3 : ∀ y : Cl F, y.1.cell? ⟨wr.heap.size, 3, none⟩ = some (.int .i64 x.fl.d) := fun y => (HFE.out y.1 y.2).2.cell 3
                  have hy4 : ∀ y : Cl F, y.1.cell? ⟨wr.heap.size, 4, none⟩ = some (.string x.fl.f) := fun y => (HFE.out y.1 y.2).2.cell 4
                  have hy5 : ∀ y : Cl F, y.1.cell? ⟨wr.heap.size, 5, none⟩ = some (.string x.fl.t) := fun y => (HFE.out y.1 y.2).2.cell 5
                  have hy6 : ∀ y : Cl F, y.1.cell? ⟨wr.heap.size, 6, none⟩ = some (.string x.fl.c) := fun y => (HFE.out y.1 y.2).2.cell 6
                  have hy7 : ∀ y : Cl F, y.1.cell? ⟨wr.heap.size, 7, none⟩ = some (.string x.fl.a) := fun y => (HFE.out y.1 y.2).2.cell 7
                  clear hQ5 hC5 hO5 hF5 hbr5 hX5 hFe
                  haveI : Nonempty (Cl F) := Cl.some_ HF0.out
                  go_upto_region 37 with fail
                  clear hgc hx0
                  refine wp_region_calm 11 15 (fun w' => ∃ y : Cl F, w' = y.1) (by kernel_rfl) (by kernel_rfl) ⟨⟨W5.drew, HF0.out⟩, rfl⟩ ?_
                  simp only [List.take_succ_cons, List.take_zero, List.drop_succ_cons, List.drop_zero]
                  repeat (go_big_quiet_step (fail))
                  refine wpQuiet_nil ?_
                  refine fx37 rfl rfl rfl rfl rfl rfl rfl rfl rfl rfl rfl rfl rfl rfl rfl rfl rfl rfl (Nat.le_of_ble_eq_true (by kernel_rfl)) rfl rfl rfl rfl rfl rfl (fun w9 h1 h2 => ⟨⟨w9, HFI.out w9 h1 h2⟩, rfl⟩) HP.out.1 HP.out.2.2.2.2.2 HP.out.2.1 (by rw [← HN3.out]; exact HNB.out) (Nat.le_of_lt (Nat.lt_of_le_of_lt hobD HP.out.1.lt)) HRB.out ?_
                  intro A' m' c' w9 w12 v1 v2 v3 v4 v5 hb9 hC9 hOC hm' hbB hgB kQ
                  have HP9 := Lib.hid (And.intro (OB.below HP.out.2.2.1 hb9) (And.intro (OL.below HP.out.2.2.2.1 hb9) (HP.out.2.2.2.2.1.trans (hb9.mono (Nat.le_of_lt (Nat.lt_of_le_of_lt hobD HP.out.1.lt))))))
                  have hset := grownBy_setAt w12 ob 0 (.slice A' m' c')
                  have hO12 : OB w12 g (Z.kb op l.length (Z.cnt fs)) := HP9.out.1.kept hgB (HP9.out.1.not_row (by decide) hC9)
                  have hgob : g ≠ ob := by
                    rintro rfl
                    exact absurd (blk_blk kQ (show Blk w12 g 4 _ from hO12)) (by decide)
                  have HEQ : Hid ((Z.rm op (Z.cnt fs) (k + 1)).foldl (Z.addR en) l = (Z.rm op (Z.cnt fs) k).foldl (Z.addR en) l ++ [⟨(n3 : Int) + 1, (mm : Int), en, Z.opp x.fl⟩]) := Lib.hid (by
                    rw [HRN.out hkp, List.foldl_append]
                    show Z.addR en _ x = _
                    rw [show ∀ o : List Z.Cl, Z.addR en o x = o ++ [⟨(o.length : Int) + 1, x.n, en, Z.opp x.fl⟩] from fun _ => rfl, ← HN3.out, hmn])
                  have HR12 := Lib.hid (And.intro (kQ.set 0 (.slice A' m' c')) (And.intro (OL.kept hOC hset (fun j hj e => by injection e with e; subst e; exact kQ.not_row (by decide) hOC hj.symm)) (And.intro (Blk.kept hO12 hset (fun e => hgob (Option.some.inj e))) (And.intro (OFl.kept_blk (OL.kept HP9.out.2.1 hgB (OL.ne_row HP9.out.2.1 hC9 (by decide))) kQ (by decide) hset) ((HP9.out.2.2.trans hbB).setCell (p := ⟨ob, 0, none⟩) hobD (.slice A' m' c'))))))
                  have HM' := Lib.hid hm'
                  clear hOC hm' hbB hgB kQ hset hO12 hgob hb9 hC9 hq0 hy0 hy3 hy4 hy5 hy6 hy7
                  go_wp2_with fail
                  go_roundw
                  case rel => exact ⟨k + 1, A', m', c', by have := HLT.out; omega, by go_num, by rw [HEQ.out, HM'.out, List.length_append]; rfl, Lib.hid ⟨HR12.out.1, by rw [HEQ.out]; exact HR12.out.2.1, HR12.out.2.2.1, HR12.out.2.2.2.1, HR12.out.2.2.2.2⟩⟩
                  case measure => have := HLT.out; simp [intOf]; omega
              · obtain rfl : k = op.length := by omega
                obtain ⟨hQ, hC, hO, hF, hbr⟩ := HI.out
                have HP := Lib.hid (And.intro hQ (And.intro hC (And.intro hF hbr)))
                have HFN : Hid ((Z.fr op fs fs.length).length ≤ 5000) := Lib.hid (Nat.le_trans (Z.fr_len op fs fs.length) HFS.out)
                have HRL : Hid (((Z.rm op (Z.cnt fs) op.length).foldl (Z.addR en) l).length ≤ 10000) := Lib.hid (by rw [Z.foldR_len]; have := Z.rm_len op (Z.cnt fs) op.length; have := HOL.out; have := HLL.out; omega)
                clear hQ hC hO hF hbr HI hlt hk
                generalize Z.fr op fs fs.length = FR at *
                generalize (Z.rm op (Z.cnt fs) op.length).foldl (Z.addR en) l = LR at *
                obtain ⟨A4, c4, rfl⟩ := HP.out.2.2.1.shape
                go_wp2_with fail
                go_loopw [167] (fun iv wx => ∃ (k : Nat) (A3 : Option Addr) (n3 c3 : Nat), k ≤ FR.length ∧ iv = .int .i64 k ∧ n3 = ((FR.take k).foldl (Z.addF en) LR).length ∧ Hid (Blk wx ob 24 #[.slice A3 n3 c3] ∧ OC wx D (.slice A3 n3 c3) ((FR.take k).foldl (Z.addF en) LR) ∧ OFl wx D (.slice A4 FR.length c4) FR ∧ Below D W2 wx)) (fun iv _ => FR.length - (intOf iv).toNat)
                case atStart => exact ⟨0, A3, n3, c3, by omega, rfl, by rw [HN3.out]; rfl, HP⟩
                case round =>
                  obtain ⟨k, A3, n3, c3, hk, rfl, hn3, HI⟩ := hrel
                  have HN3 := Lib.hid hn3
                  clear HP hn3
                  by_cases hlt : k < FR.length
                  · have hz : FR[k]? = some FR[k] := List.getElem?_eq_getElem hlt
                    have HLT := Lib.hid hlt
                    obtain ⟨hQ, hC, hF, hbr⟩ := HI.out
                    obtain ⟨b, o, rfl, hbl, hcj⟩ := (OL.sl Z.Fl.vs_len hF).at_ (by omega)
                    have hcc := fc_of (hcj k _ hz)
                    have HTK : Hid ((FR.take (k + 1)).foldl (Z.addF en) LR = Z.addF en ((FR.take k).foldl (Z.addF en) LR) FR[k]) := Lib.hid (by rw [List.take_succ_eq_append_getElem hlt, List.foldl_append]; rfl)
                    clear hcj hz
                    generalize FR[k] = x at *
                    obtain ⟨k0, k1, k2, k3, k4⟩ := hcc
                    have BX := Blk.new wr 36 #[.int .i64 x.d, .string x.f, .string x.t, .string x.c, .string x.a]
                    have hba := (Below.refl _ wr).alloc (Nat.le_refl wr.heap.size) (.cells #[.int .i64 x.d, .string x.f, .string x.t, .string x.c, .string x.a] 36)
                    have hobw : ob < wr.heap.size := hQ.lt
                    have HP := Lib.hid (And.intro (hQ.below hba) (And.intro (OL.below hC hba) (And.intro (OL.below hF hba) (hbr.trans (hba.mono (by omega))))))
                    clear hQ hC hF hbr HI
                    go_upto_region 42 with fail
                    clear k0 k1 k2 k3 k4 hba
                    generalize (wr.alloc (.cells #[.int .i64 x.d, .string x.f, .string x.t, .string x.c, .string x.a] 36)) = W5 at *
                    have hx0 := BX.cell 0
                    have hx1 := BX.cell 1
                    have hx2 := BX.cell 2
                    have hx3 := BX.cell 3
                    have hx4 := BX.cell 4
                    have hq0 := HP.out.1.cell 0
                    have HNB : Hid (n3 ≤ 20000) := Lib.hid (by rw [HN3.out, Z.foldF_len, List.length_take]; have := HRL.out; have := HFN.out; omega)
                    have hn3b := HNB.out
                    have hfr5 := HFN.out
                    have hD5 : D ≤ W5.heap.size := by have := HP.out.1.lt; omega
                    clear BX
                    go_wp2_with (at_builtin; go_loud (refine appL Z.Cl.vs_len Z.Cl.one rfl _ _ rfl infoC (by omega) (by omega) Try.underlying22 W5 D (.slice A3 n3 c3) ((FR.take k).foldl (Z.addF en) LR) ⟨(n3 : Int) + 1, 0, en, x⟩ _ rfl rfl HP.out.2.1 rfl (by rw [← HN3.out]; exact HNB.out) hD5 ?_; intro v' w' hO' hb' hg'; obtain ⟨A', m', c', hm', rfl⟩ := hO'.shape'; replace hm' := Lib.hid hm'; clear hq0; have hq0 := (HP.out.1.kept hg' (HP.out.1.not_row (by decide) HP.out.2.1)).cell 0; have hqf := (HP.out.1.kept hg' (HP.out.1.not_row (by decide) HP.out.2.1)).frozen 0))
                    have hset := grownBy_setAt w' ob 0 (.slice A' m' c')
                    have kQ := HP.out.1.kept hg' (HP.out.1.not_row (by decide) HP.out.2.1)
                    have HEQ : Hid ((FR.take (k + 1)).foldl (Z.addF en) LR = (FR.take k).foldl (Z.addF en) LR ++ [⟨(n3 : Int) + 1, 0, en, x⟩]) := Lib.hid (by
                      rw [HTK.out, show ∀ o : List Z.Cl, Z.addF en o x = o ++ [⟨(o.length : Int) + 1, 0, en, x⟩] from fun _ => rfl, ← HN3.out])
                    go_roundw
                    case rel => exact ⟨k + 1, A', m', c', by have := HLT.out; omega, by go_num, by rw [HEQ.out]; exact hm'.out, Lib.hid ⟨kQ.set 0 _, by rw [HEQ.out]; exact OL.kept hO' hset (fun j hj e => by injection e with e; subst e; exact kQ.not_row (by decide) hO' hj.symm), OFl.kept_blk (OL.kept HP.out.2.2.1 hg' (OL.ne_row HP.out.2.2.1 HP.out.2.1 (by decide))) kQ (by decide) hset, (HP.out.2.2.2.trans hb').setCell (p := ⟨ob, 0, none⟩) hobD _⟩⟩
                    case measure => have := HLT.out; simp [intOf]; omega
                  · obtain rfl : k = FR.length := by omega
                    rw [List.take_length, ← HUL.out] at HI HN3
                    obtain ⟨hQ, hC, hF, hbr⟩ := HI.out
                    have hw3 := HX.out.1.trans (hbr.mono (by omega))
                    have BR3 := HX.out.2.below (by rw [← HD.out]; exact hbr)
                    have hq0 := hQ.cell 0
                    have r0 := BR3.cell 0
                    have rf := BR3.frozen 0
                    have hn3b : n3 ≤ 20000 := by
                      have := HFN.out
                      have := HRL.out
                      rw [HN3.out, HUL.out, Z.foldF_len]
                      omega
                    by_cases h5 : 5000 < n3
                    · have hE22 : Z.updE l fs en = 22 := by rw [HE0.out, ← HN3.out, if_pos h5]
                      have q0 := RB.out _ BR3
                      clear hF hlt hk
                      go_wp2_with fail
                      refine bodyPost_ret (v := .tuple #[.agg #[.slice none 0 0], .int .i64 22]) (by simp [results, Try.results13, go_sem, q0]) rfl ?_
                      exact UpdRet.bad hw3 hE22 (by decide)
                    · have hE22 : Z.updE l fs en = 0 := by rw [HE0.out, ← HN3.out, if_neg h5]
                      have q0 : (wr.setCell ⟨w.heap.size + 1, 0, none⟩ (.slice A3 n3 c3)).cell? ⟨w.heap.size + 1, 0, none⟩ = some (.slice A3 n3 c3) := (BR3.set 0 (.slice A3 n3 c3)).cell 0
                      clear hF hlt hk
                      go_wp2_with fail
                      refine bodyPost_ret (v := .tuple #[.agg #[.slice A3 n3 c3], .int .i64 0]) (by simp [results, Try.results13, go_sem, q0]) rfl ?_
                      have hset := grownBy_setAt wr (w.heap.size + 1) 0 (.slice A3 n3 c3)
                      exact ⟨hw3.setCell (p := ⟨w.heap.size + 1, 0, none⟩) (Nat.le_succ _) _, .inr ⟨hE22, _, rfl, (OL.kept hC hset (fun j hj e => by injection e with e; have := hC.base j hj; omega)).mono (by omega)⟩⟩
end Go.Proofs.Ytdjghmpaopfboaa
