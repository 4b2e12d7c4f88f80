/- Walks: whether a node is well formed. -/
import Derived.Test.YtifafmomkpkgdaaDoorOna
import Derived.Test.YtifafmomkpkgdaaDoorOsb
import Derived.Test.YtifafmomkpkgdaaDoorOnv
import Derived.Deep.CutBlock
namespace Go.Proofs.YtifafmomkpkgdaaDoor
open Go.RowKit
namespace Z
theorem fin5 (a b c d : Bool) : (a && b && c && d) = (a && (b && (c && d))) := by rw [Bool.and_assoc, Bool.and_assoc]
end Z
set_option maxRecDepth 100000 in
set_option maxHeartbeats 8000000 in
theorem node_any {m : Nat} (t : Z.CN m) (ns : Nat) (u dv sv : Value) (w : World) (hc : NV w t ns u dv sv) (hL : Lay w) (hV : HasV w) (hs : Z.NSm t) :
    Calls Tryd.prog 43 #[.agg #[.int .u8 t.k, .string t.fr, .string t.tu, .string t.nm, .int .u8 t.ex.top.k, .string t.ex.top.rat, .string t.ex.top.name, .int .i64 t.ex.top.date, u, .int .i64 t.date, dv, sv]] w fun e w' => e = .returned (.bool (Z.nodeB (t, ns))) ∧ Below w.heap.size w w' := by
  obtain ⟨hkk, hX, hD, hS⟩ := hc
  obtain ⟨Au, ku, cu, rfl⟩ := hX.shape
  obtain ⟨Ad, cd, rfl, _, _⟩ := hD.shape
  obtain ⟨As, cs, rfl⟩ := hS
  obtain ⟨bm, hg, hglt, hlook⟩ := hL.parts
  have hb0 := (Below.refl _ w).alloc (Nat.le_refl w.heap.size) (.cells #[.int .u8 t.k, .string t.fr, .string t.tu, .string t.nm, .int .u8 t.ex.top.k, .string t.ex.top.rat, .string t.ex.top.name, .int .i64 t.ex.top.date, .slice Au ku cu, .int .i64 t.date, .slice Ad t.dates.length cd, .slice As ns cs] 29)
  have BX := Blk.new w 29 #[.int .u8 t.k, .string t.fr, .string t.tu, .string t.nm, .int .u8 t.ex.top.k, .string t.ex.top.rat, .string t.ex.top.name, .int .i64 t.ex.top.date, .slice Au ku cu, .int .i64 t.date, .slice Ad t.dates.length cd, .slice As ns cs]
  have g0 := (hb0.cell (p := ⟨0, 0, none⟩) hglt).trans hg
  have hlk := hlook _ t.k hb0 hkk.1 hkk.2
  have hR : Z.nodeB (t, ns) = match Z.pas t.k with | none => false | some p => Z.partB p t ns := rfl
  have c0 := BX.cell 0
  cases hp : Z.pas t.k with
  | none =>
    rw [hp] at hR
    have h2 := Z.pas_none hp
    rw [h2] at hlk
    generalize (Z.ptI t.k).1 = pv at *
    rw [hR]
    clear hp h2 hX hD hlook hL hV hs hR
    go_enter Tryd.func43, Tryd.ntmps43
    go_wp2_with fail
    go_ret
    exact ⟨rfl, (hb0.alloc (by simp) _)⟩
  | some P =>
    rw [hp] at hR
    obtain ⟨h2, hP, hsub⟩ := Z.pas_some hp
    rw [h2] at hlk
    generalize (Z.ptI t.k).1 = pv at *
    replace hR : Z.nodeB (t, ns) = Z.partB P t ns := hR
    unfold Z.partB at hR
    have HP := Lib.hid hP
    have HX := Lib.hid hX
    have HD := Lib.hid hD
    have HL := Lib.hid hL
    have HV := Lib.hid hV
    have HS := Lib.hid hs
    clear hp h2 hX hD hlook hL hV hs hP
    obtain ⟨R, hRR⟩ : ∃ R, R = Z.nodeB (t, ns) := ⟨_, rfl⟩
    rw [← hRR] at hR ⊢
    clear hRR
    have HR := Lib.hid hR
    clear hR
    go_enter Tryd.func43, Tryd.ntmps43
    go_upto_region 6 with fail
    have hs1 : (w.alloc (.cells #[.int .u8 t.k, .string t.fr, .string t.tu, .string t.nm, .int .u8 t.ex.top.k, .string t.ex.top.rat, .string t.ex.top.name, .int .i64 t.ex.top.date, .slice Au ku cu, .int .i64 t.date, .slice Ad t.dates.length cd, .slice As ns cs] 29)).heap.size = w.heap.size + 1 := by simp
    have hs2 : ((w.alloc (.cells #[.int .u8 t.k, .string t.fr, .string t.tu, .string t.nm, .int .u8 t.ex.top.k, .string t.ex.top.rat, .string t.ex.top.name, .int .i64 t.ex.top.date, .slice Au ku cu, .int .i64 t.date, .slice Ad t.dates.length cd, .slice As ns cs] 29)).alloc (.cells #[.int .i64 pv] 3)).heap.size = w.heap.size + 1 + 1 := by simp
    have BP := (Blk.new (w.alloc (.cells #[.int .u8 t.k, .string t.fr, .string t.tu, .string t.nm, .int .u8 t.ex.top.k, .string t.ex.top.rat, .string t.ex.top.name, .int .i64 t.ex.top.date, .slice Au ku cu, .int .i64 t.date, .slice Ad t.dates.length cd, .slice As ns cs] 29)) 3 #[.int .i64 pv]).alloc (.cells #[.func (.func 69) #[] #[.pointer (some ⟨w.heap.size + 1, 0, none⟩)]] 63)
    rw [hs1] at BP
    have BH := Blk.new ((w.alloc (.cells #[.int .u8 t.k, .string t.fr, .string t.tu, .string t.nm, .int .u8 t.ex.top.k, .string t.ex.top.rat, .string t.ex.top.name, .int .i64 t.ex.top.date, .slice Au ku cu, .int .i64 t.date, .slice Ad t.dates.length cd, .slice As ns cs] 29)).alloc (.cells #[.int .i64 pv] 3)) 63 #[.func (.func 69) #[] #[.pointer (some ⟨w.heap.size + 1, 0, none⟩)]]
    rw [hs2] at BH
    have BX := (BX.alloc (.cells #[.int .i64 pv] 3)).alloc (.cells #[.func (.func 69) #[] #[.pointer (some ⟨w.heap.size + 1, 0, none⟩)]] 63)
    have hb2 := (hb0.alloc (by simp) (.cells #[.int .i64 pv] 3)).alloc (by simp; omega) (.cells #[.func (.func 69) #[] #[.pointer (some ⟨w.heap.size + 1, 0, none⟩)]] 63)
    have hlt2 : w.heap.size + 1 + 1 < (((w.alloc (.cells #[.int .u8 t.k, .string t.fr, .string t.tu, .string t.nm, .int .u8 t.ex.top.k, .string t.ex.top.rat, .string t.ex.top.name, .int .i64 t.ex.top.date, .slice Au ku cu, .int .i64 t.date, .slice Ad t.dates.length cd, .slice As ns cs] 29)).alloc (.cells #[.int .i64 pv] 3)).alloc (.cells #[.func (.func 69) #[] #[.pointer (some ⟨w.heap.size + 1, 0, none⟩)]] 63)).heap.size := BH.lt
    clear hb0 hs1 hs2 g0 c0 hlk hg
    generalize (((w.alloc (.cells #[.int .u8 t.k, .string t.fr, .string t.tu, .string t.nm, .int .u8 t.ex.top.k, .string t.ex.top.rat, .string t.ex.top.name, .int .i64 t.ex.top.date, .slice Au ku cu, .int .i64 t.date, .slice Ad t.dates.length cd, .slice As ns cs] 29)).alloc (.cells #[.int .i64 pv] 3)).alloc (.cells #[.func (.func 69) #[] #[.pointer (some ⟨w.heap.size + 1, 0, none⟩)]] 63)) = W2 at *
    have p0 := BP.cell 0
    have q0 := BH.cell 0
    have h1 := Lib.hid (word_any pv 1 t.fr (w.heap.size + 1) (w.heap.size + 1 + 1) W2 p0 q0 (by have := HS.out.fr; omega))
    have h2 := Lib.hid (word_any pv 2 t.tu (w.heap.size + 1) (w.heap.size + 1 + 1) W2 p0 q0 (by have := HS.out.tu; omega))
    have h3 := Lib.hid (word_any pv 4 t.nm (w.heap.size + 1) (w.heap.size + 1 + 1) W2 p0 q0 (by have := HS.out.nm; omega))
    have h4 := Lib.hid (has_any pv 2 (w.heap.size + 1) W2 p0)
    rw [HP.out.1] at h1
    rw [HP.out.2.1] at h2 h4
    rw [HP.out.2.2.1] at h3
    have h5 := Z.eqS t.fr t.tu
    generalize Z.wordB P.fr t.fr = a1 at *
    generalize Z.wordB P.tu t.tu = a2 at *
    generalize Z.wordB P.nm t.nm = a3 at *
    generalize P.tu = tu at *
    generalize decide (t.fr = t.tu) = eq at *
    have c0 := BX.cell 0
    have c1 := BX.cell 1
    have c2 := BX.cell 2
    have c3 := BX.cell 3
    have c4 := BX.cell 4
    have c5 := BX.cell 5
    have c6 := BX.cell 6
    have c7 := BX.cell 7
    have c8 := BX.cell 8
    have c9 := BX.cell 9
    have c10 := BX.cell 10
    have c11 := BX.cell 11
    obtain ⟨bad, hbad⟩ : ∃ o, o = !(a1 && (a2 && (a3 && !(tu && eq)))) := ⟨_, rfl⟩
    have HB := Lib.hid hbad
    clear hbad
    go_cut [50] (fun bv wx => bv = .bool bad ∧ W2 = wx)
    case first =>
      cases a1
      · go_wp2_with fail
        refine h1.out.mono ?_
        rintro e W3 ⟨rfl, rfl⟩
        go_wp2_with fail
        go_meet
        exact ⟨by rw [HB.out]; rfl, rfl⟩
      go_wp2_with fail
      refine h1.out.mono ?_
      rintro e W3 ⟨rfl, rfl⟩
      cases a2
      · go_wp2_with fail
        refine h2.out.mono ?_
        rintro e W3 ⟨rfl, rfl⟩
        go_wp2_with fail
        go_meet
        exact ⟨by rw [HB.out]; rfl, rfl⟩
      go_wp2_with fail
      refine h2.out.mono ?_
      rintro e W3 ⟨rfl, rfl⟩
      cases a3
      · go_wp2_with fail
        refine h3.out.mono ?_
        rintro e W3 ⟨rfl, rfl⟩
        go_wp2_with fail
        go_meet
        exact ⟨by rw [HB.out]; rfl, rfl⟩
      go_wp2_with fail
      refine h3.out.mono ?_
      rintro e W3 ⟨rfl, rfl⟩
      go_wp2_with fail
      refine h4.out.mono ?_
      rintro e W3 ⟨rfl, rfl⟩
      cases tu
      · (skip)
        go_wp2_with fail
        go_meet
        exact ⟨by rw [HB.out]; rfl, rfl⟩
      · cases eq
        · (skip)
          go_wp2_with fail
          go_meet
          exact ⟨by rw [HB.out]; rfl, rfl⟩
        go_wp2_with fail
        go_meet
        exact ⟨by rw [HB.out]; rfl, rfl⟩
    case rest =>
    obtain ⟨rfl, rfl⟩ := hcut
    cases bad
    rotate_left
    · have e : R = false := by
        rw [HR.out]
        have := HB.out
        revert this
        cases a1 <;> cases a2 <;> cases a3 <;> cases tu <;> cases eq <;> simp
      clear HR HB
      subst e
      go_wp2_with fail
      go_ret
      exact ⟨rfl, hb2⟩
    have hR2 := HR.out
    rw [show (∀ x, (a1 && (a2 && (a3 && (!(tu && eq) && x)))) = x) from fun x => (by
      have := HB.out
      revert this
      cases a1 <;> cases a2 <;> cases a3 <;> cases tu <;> cases eq <;> simp)] at hR2
    have HQ := Lib.hid hR2
    clear hR2 HB HR
    have h6 := Lib.hid (has_any pv 8 (w.heap.size + 1) W2 p0)
    have h7 := Lib.hid (has_any pv 16 (w.heap.size + 1) W2 p0)
    rw [HP.out.2.2.2.1] at h6
    rw [HP.out.2.2.2.2.1] at h7
    have HX2 := Lib.hid (XV.below hb2 _ HX.out)
    have HL2 := Lib.hid (HL.out.below hb2)
    have HV2 := Lib.hid (HV.out.below hb2)
    have HNU := Lib.hid (xnumber_any m t.ex _ W2 HX2.out HL2.out HV2.out HS.out.ex)
    have HTR := Lib.hid (xtruth_any m t.ex _ W2 HX2.out HL2.out HV2.out HS.out.ex)
    have HBA := Lib.hid (cbare_any m t.ex _ W2 HX2.out)
    obtain ⟨ok, hok⟩ : ∃ o, o = (if P.num = true then Z.numB (m + 1) t.ex else if P.tru = true then Z.truB (m + 1) t.ex else Z.bareX t.ex) := ⟨_, rfl⟩
    rw [← hok] at HQ
    have HOK := Lib.hid hok
    clear hok h1 h2 h3 h4
    generalize P.num = nu at *
    generalize P.tru = tr at *
    generalize Z.numB (m + 1) t.ex = xn at *
    generalize Z.truB (m + 1) t.ex = xt at *
    generalize Z.bareX t.ex = xb at *
    go_upto_block 0 with fail
    go_cut [4] (fun ov wx => ov = .bool ok ∧ Below W2.heap.size W2 wx)
    case first =>
      go_wp2_with fail
      refine h6.out.mono ?_
      rintro e W3 ⟨rfl, rfl⟩
      cases nu
      · go_wp2_with fail
        refine h7.out.mono ?_
        rintro e W3 ⟨rfl, rfl⟩
        cases tr
        · go_wp2_with fail
          refine HBA.out.mono ?_
          rintro e W3 ⟨rfl, hb⟩
          go_wp2_with fail
          go_meet
          exact ⟨by rw [HOK.out]; rfl, hb⟩
        · go_wp2_with fail
          refine HTR.out.mono ?_
          rintro e W3 ⟨rfl, hb⟩
          go_wp2_with fail
          go_meet
          exact ⟨by rw [HOK.out]; rfl, hb⟩
      · go_wp2_with fail
        refine HNU.out.mono ?_
        rintro e W3 ⟨rfl, hb⟩
        go_wp2_with fail
        go_meet
        exact ⟨by rw [HOK.out]; rfl, hb⟩
    case rest =>
    obtain ⟨rfl, hb⟩ := hcut
    have hb3 := hb2.trans (hb.mono hb2.size)
    have BX := BX.below hb
    have p0 := (BP.below hb).cell 0
    have q0 := (BH.below hb).cell 0
    rename World => W3
    clear hb HOK HNU HTR HBA h6 h7 HX2 HL2 HV2 BP BH c0 c1 c2 c3 c4 c5 c6 c7 c8
    have c9 := BX.cell 9
    have c10 := BX.cell 10
    have c11 := BX.cell 11
    have h1 := Lib.hid (has_any pv 128 (w.heap.size + 1) W3 p0)
    have h2 := Lib.hid (has_any pv 256 (w.heap.size + 1) W3 p0)
    have h3 := Lib.hid (has_any pv 32 (w.heap.size + 1) W3 p0)
    have h4 := Lib.hid (has_any pv 64 (w.heap.size + 1) W3 p0)
    rw [HP.out.2.2.2.2.2.2.2.1] at h1
    rw [HP.out.2.2.2.2.2.2.2.2] at h2
    rw [HP.out.2.2.2.2.2.1] at h3
    rw [HP.out.2.2.2.2.2.2.1] at h4
    have HWI := Lib.hid (cwithin_any t.date W3)
    have HDA := Lib.hid (days_any _ t.dates W3 (SL.below HD.out hb3))
    have hsv : (P.subs = 0 ∨ P.subs = 1) ∨ P.subs = 2 := by omega
    obtain ⟨rt, hrt⟩ : ∃ o, o = (if P.date = true then Z.dayC t.date else decide (t.date = 0)) := ⟨_, rfl⟩
    obtain ⟨ls, hls⟩ : ∃ o, o = (if P.dates = true then Z.daysB t.dates else decide (t.dates.length = 0)) := ⟨_, rfl⟩
    obtain ⟨sb, hsb⟩ : ∃ o, o = decide (ns = P.subs) := ⟨_, rfl⟩
    rw [← hrt, ← hls, ← hsb] at HQ
    have HRT := Lib.hid hrt
    have HLS := Lib.hid hls
    have HSB := Lib.hid hsb
    clear hrt hls hsb hsub HP
    have e0 := Z.eqI t.date 0
    have e1 := Z.eqN t.dates.length
    have e2 : ((ns : Int) == (P.subs : Int)) = sb := by rw [HSB.out, Bool.eq_iff_iff, beq_iff_eq, decide_eq_true_iff]; omega
    generalize P.subs = ps at *
    generalize P.date = dt at *
    generalize P.dates = dts at *
    generalize Z.dayC t.date = dc at *
    generalize decide (t.date = 0) = d0 at *
    generalize Z.daysB t.dates = ds at *
    generalize decide (t.dates.length = 0) = l0 at *
    obtain ⟨k1, hk1⟩ : ∃ b, b = decide (ps = 1) := ⟨_, rfl⟩
    obtain ⟨k2, hk2⟩ : ∃ b, b = decide (ps = 2) := ⟨_, rfl⟩
    rw [← hk1] at h1
    rw [← hk2] at h2
    have HK1 := Lib.hid hk1
    have HK2 := Lib.hid hk2
    have HSV := Lib.hid hsv
    clear hk1 hk2 hsv
    have HE2 := Lib.hid e2
    clear e2
    obtain ⟨s1, hs1⟩ : ∃ s : Int, s = if k1 = true then 1 else 0 := ⟨_, rfl⟩
    have HS1 := Lib.hid hs1
    clear hs1
    go_upto_region 14 with fail
    go_wp2_with fail
    refine h1.out.mono ?_
    rintro e W4 ⟨rfl, rfl⟩
    go_upto_if 67 with fail
    go_cut [7] (fun sv wx => sv = .int .i64 s1 ∧ W3 = wx)
    case first =>
      cases k1
      · go_wp2_with fail
        go_meet
        exact ⟨by rw [HS1.out]; rfl, rfl⟩
      · go_wp2_with fail
        go_meet
        exact ⟨by rw [HS1.out]; rfl, rfl⟩
    case rest =>
    obtain ⟨rfl, rfl⟩ := hcut
    have HPS : Hid ((if k2 = true then 2 else s1) = (ps : Int)) := Lib.hid (by
      rw [HS1.out, HK1.out, HK2.out]
      rcases HSV.out with (h | h) | h <;> rw [h] <;> simp)
    clear h1 HS1 HK1 HK2 HSV
    go_wp2_with fail
    refine h2.out.mono ?_
    rintro e W4 ⟨rfl, rfl⟩
    go_upto_if 69 with fail
    go_cut [7] (fun sv wx => sv = .int .i64 (ps : Int) ∧ W3 = wx)
    case first =>
      cases k2
      · go_wp2_with fail
        go_meet
        exact ⟨by rw [← HPS.out]; rfl, rfl⟩
      · go_wp2_with fail
        go_meet
        exact ⟨by rw [← HPS.out]; rfl, rfl⟩
    case rest =>
    obtain ⟨rfl, rfl⟩ := hcut
    clear h2 HPS
    go_upto_region 18 with fail
    go_cut [8] (fun bv wx => bv = .bool rt ∧ W3 = wx)
    case first =>
      go_wp2_with fail
      refine h3.out.mono ?_
      rintro e W4 ⟨rfl, rfl⟩
      cases dt
      · go_wp2_with fail
        refine h3.out.mono ?_
        rintro e W4 ⟨rfl, rfl⟩
        go_wp2_with fail
        go_meet
        exact ⟨by rw [HRT.out]; rfl, rfl⟩
      · go_wp2_with fail
        refine HWI.out.mono ?_
        rintro e W4 ⟨rfl, rfl⟩
        cases dc
        · go_wp2_with fail
          refine h3.out.mono ?_
          rintro e W4 ⟨rfl, rfl⟩
          go_wp2_with fail
          go_meet
          exact ⟨by rw [HRT.out]; rfl, rfl⟩
        · go_wp2_with fail
          go_meet
          exact ⟨by rw [HRT.out]; rfl, rfl⟩
    case rest =>
    obtain ⟨rfl, rfl⟩ := hcut
    clear h3 HWI HRT
    go_upto_region 19 with fail
    go_cut [9] (fun bv wx => bv = .bool ls ∧ W3 = wx)
    case first =>
      go_wp2_with fail
      refine h4.out.mono ?_
      rintro e W4 ⟨rfl, rfl⟩
      cases dts
      · go_wp2_with fail
        refine h4.out.mono ?_
        rintro e W4 ⟨rfl, rfl⟩
        go_wp2_with fail
        go_meet
        exact ⟨by rw [HLS.out]; rfl, rfl⟩
      · go_wp2_with fail
        refine HDA.out.mono ?_
        rintro e W4 ⟨rfl, rfl⟩
        cases ds
        · go_wp2_with fail
          refine h4.out.mono ?_
          rintro e W4 ⟨rfl, rfl⟩
          go_wp2_with fail
          go_meet
          exact ⟨by rw [HLS.out]; rfl, rfl⟩
        · go_wp2_with fail
          go_meet
          exact ⟨by rw [HLS.out]; rfl, rfl⟩
    case rest =>
    obtain ⟨rfl, rfl⟩ := hcut
    clear h4 HDA HLS
    have e2 := HE2.out
    cases ok
    · go_wp2_with fail
      go_ret
      exact ⟨ret_bool (by rw [HQ.out]; rfl), hb3⟩
    cases rt
    · go_wp2_with fail
      go_ret
      exact ⟨ret_bool (by rw [HQ.out]; rfl), hb3⟩
    cases ls
    · go_wp2_with fail
      go_ret
      exact ⟨ret_bool (by rw [HQ.out]; rfl), hb3⟩
    go_wp2_with fail
    go_ret
    exact ⟨ret_bool (by rw [HQ.out]; rfl), hb3⟩
end Go.Proofs.YtifafmomkpkgdaaDoor
