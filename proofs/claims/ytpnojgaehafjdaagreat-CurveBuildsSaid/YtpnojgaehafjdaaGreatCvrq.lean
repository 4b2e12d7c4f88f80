/- Walks: CheckQuote of the reference of curves. -/
import Derived.Test.YtpnojgaehafjdaaGreatCvrc
import Derived.Test.YtpnojgaehafjdaaGreatCvq
namespace Go.Proofs.YtpnojgaehafjdaaGreat
open Go.RowKit
set_option maxRecDepth 100000 in
set_option maxHeartbeats 8000000 in
theorem rcquote_any (r : QV) (q : Z.Qt) (base : Int) (w : World) (hq : QOk w r q) (hr : q.rate.size ≤ 100000) (hs : ∀ p ∈ q.parts, p.size ≤ 100000) :
    Calls Tryz.prog 33 #[.agg #[r.dv, r.pv, .string r.rate], .int .i64 base] w fun e w' => e = .returned (.int .i64 (Z.qtE q base)) ∧ Below w.heap.size w w' := by
  obtain ⟨h1, h2, h3⟩ := hq
  obtain ⟨dv, pv, rate⟩ := r
  have h3 : rate = q.rate := h3
  subst h3
  have HS1 := Lib.hid h1
  have HS2 := Lib.hid h2
  obtain ⟨A, cp, e1, hlc, hcm⟩ := h1.shape
  obtain ⟨A2, cp2, e2, hlc2, hcm2⟩ := h2.shape
  have e1 : dv = .slice A q.dates.length cp := e1
  have e2 : pv = .slice A2 q.parts.length cp2 := e2
  subst e1 e2
  unfold maxLen at hcm hcm2
  have hb0 := (Below.refl _ w).alloc (Nat.le_refl w.heap.size) (.cells #[.slice A q.dates.length cp, .slice A2 q.parts.length cp2, .string q.rate] 42)
  have BL := Blk.new w 42 #[.slice A q.dates.length cp, .slice A2 q.parts.length cp2, .string q.rate]
  have hl0 := BL.cell 0
  have hl1 := BL.cell 1
  have hl2 := BL.cell 2
  clear h1 h2
  by_cases hm : 40 < q.dates.length
  · have HE : Z.qtE q base = 4 := if_pos hm
    rw [HE]
    go_enter Tryz.func33, Tryz.ntmps33
    go_wp2_with fail
    go_ret
    exact ⟨rfl, hb0⟩
  have HE := Lib.hid (Z.qtE_eq q base hm)
  have HO : Hid (q.ok0 base = (Z.dayB base && decide (0 < q.dates.length) && decide (q.parts.length = q.dates.length) && decide (Z.rchk q.rate = 0))) := Lib.hid rfl
  generalize Z.qtE q base = E at *
  generalize q.ok0 base = ok0 at *
  have H8 : Hid (ok0 = false → E = 8) := Lib.hid (fun h => by rw [HE.out, h]; rfl)
  go_enter Tryz.func33, Tryz.ntmps33
  go_upto_region 3 with fail
  generalize (w.alloc (.cells #[.slice A q.dates.length cp, .slice A2 q.parts.length cp2, .string q.rate] 42)) = W0 at *
  have QC : Hid (Calls Tryz.prog 28 #[.string q.rate] W0 fun e w' => e = .returned (.int .i64 (Z.rchk q.rate)) ∧ Below W0.heap.size W0 w') := Lib.hid (rqcheck_any q.rate W0 hr)
  go_wp2_with fail
  refine (rday_any _ _).mono ?_
  rintro e w2 ⟨rfl, rfl⟩
  cases hd : Z.dayB base
  · have HE8 := Lib.hid (H8.out (by rw [HO.out, hd]; rfl))
    go_wp2_with fail
    go_ret
    exact ⟨ret_int HE8.out.symm, hb0⟩
  by_cases h0 : 0 < q.dates.length
  case neg =>
    have HE8 := Lib.hid (H8.out (by rw [HO.out, hd, decide_eq_false h0]; rfl))
    have hz0 : ((q.dates.length : Int) == 0) = true := by rw [beq_iff_eq]; omega
    go_wp2_with fail
    go_ret
    exact ⟨ret_int HE8.out.symm, hb0⟩
  have hz0 : ((q.dates.length : Int) == 0) = false := by rw [beq_eq_false_iff_ne]; omega
  have hz1 : ¬ q.dates = [] := fun e => by rw [e] at h0; exact absurd h0 (Nat.lt_irrefl 0)
  by_cases he : q.parts.length = q.dates.length
  case neg =>
    have HE8 := Lib.hid (H8.out (by rw [HO.out, hd, decide_eq_false he]; simp))
    have he1 : ((q.parts.length : Int) != (q.dates.length : Int)) = true := by rw [bne_iff_ne]; omega
    have he2 : ((q.parts.length : Int) == (q.dates.length : Int)) = false := by rw [beq_eq_false_iff_ne]; omega
    go_wp2_with fail
    go_ret
    exact ⟨ret_int HE8.out.symm, hb0⟩
  have he1 : ((q.parts.length : Int) != (q.dates.length : Int)) = false := by rw [bne_eq_false_iff_eq]; omega
  have he2 : ((q.parts.length : Int) == (q.dates.length : Int)) = true := by rw [beq_iff_eq]; omega
  have HPL := Lib.hid he
  have HQ : Hid (ok0 = decide (Z.rchk q.rate = 0)) := Lib.hid (by rw [HO.out, hd, decide_eq_true h0, decide_eq_true he]; rfl)
  clear he HO
  go_wp2_with fail
  refine QC.out.mono ?_
  rintro e W1 ⟨rfl, hb1⟩
  have hbw := hb0.trans (hb1.mono hb0.size)
  have BL1 := BL.below hb1
  have hl0 := BL1.cell 0
  have hl1 := BL1.cell 1
  by_cases hk : Z.rchk q.rate = 0
  case neg =>
    have HE8 := Lib.hid (H8.out (by rw [HQ.out, decide_eq_false hk]))
    have hk1 := ne_bne hk
    go_wp2_with fail
    go_ret
    exact ⟨ret_int HE8.out.symm, hbw⟩
  have HI0 : Hid (E = if (Z.datesB base (q.dates.drop 0) && (q.parts.drop 0).all Z.pOk) = true then 0 else 8) := Lib.hid (by rw [HE.out, HQ.out, decide_eq_true hk]; rfl)
  rw [hk]
  clear BL hl2 HQ QC hb1 hm hr HE H8 hk hd
  go_wp2_with fail
  go_loopw [5, 6] (fun lv iv wr => ∃ (k : Nat) (last : Int), k ≤ q.dates.length ∧ iv = .int .i64 k ∧ lv = .int .i64 last ∧ Hid (E = if (Z.datesB last (q.dates.drop k) && (q.parts.drop k).all Z.pOk) = true then 0 else 8) ∧ Below W1.heap.size W1 wr) (fun _ iv _ => q.dates.length - (intOf iv).toNat)
  case atStart => exact ⟨0, base, by omega, rfl, rfl, HI0, Below.refl _ _⟩
  case round =>
    obtain ⟨k, last, hk, rfl, rfl, HI, hbr⟩ := hrel
    clear HI0
    have hbwr := hbw.trans (hbr.mono hbw.size)
    have BLr := BL1.below hbr
    have hl0 := BLr.cell 0
    have hl1 := BLr.cell 1
    have hk0 : (0 : Int) ≤ (k : Int) := by omega
    by_cases hlt : k < q.dates.length
    · have hz : q.dates[k]? = some q.dates[k] := List.getElem?_eq_getElem hlt
      have hk2 : k < q.parts.length := by rw [HPL.out]; exact hlt
      have hz2 : q.parts[k]? = some q.parts[k] := List.getElem?_eq_getElem hk2
      obtain ⟨b, o, rfl, hbl, q0⟩ := (HS1.out.below hbwr).cell1 hz rfl
      obtain ⟨b2, o2, rfl, hbl2, q2⟩ := (HS2.out.below hbwr).cell1 hz2 rfl
      have HD := Lib.hid (Z.datesB_drop last hz)
      have HD2 := Lib.hid (Z.allR_drop (f := Z.pOk) hz2)
      have hsz := hs _ (List.mem_of_getElem? hz2)
      have hi1 : (k : Int) < (q.dates.length : Int) := by omega
      have hi2 : (k : Int) < (q.parts.length : Int) := by omega
      clear hz hz2
      generalize q.dates[k] = d at *
      generalize q.parts[k] = p at *
      have HN : Hid (E = if (Z.dayB d && decide (last < d) && Z.datesB d (q.dates.drop (k + 1)) && (Z.pOk p && (q.parts.drop (k + 1)).all Z.pOk)) = true then 0 else 8) := Lib.hid (by rw [HI.out, HD.out, HD2.out])
      clear HI HD HD2
      have QC : Hid (Calls Tryz.prog 28 #[.string p] wr fun e w' => e = .returned (.int .i64 (Z.rchk p)) ∧ Below wr.heap.size wr w') := Lib.hid (rqcheck_any p wr hsz)
      go_wp2_with fail
      refine (rday_any _ _).mono ?_
      rintro e w2 ⟨rfl, rfl⟩
      cases hd : Z.dayB d
      · rw [hd] at HN
        have HE8 : Hid (E = 8) := HN
        go_wp2_with fail
        go_ret
        exact ⟨ret_int HE8.out.symm, hbwr⟩
      rw [hd] at HN
      by_cases hl : last < d
      case neg =>
        rw [decide_eq_false hl] at HN
        have HE8 : Hid (E = 8) := HN
        go_wp2_with fail
        go_ret
        exact ⟨ret_int HE8.out.symm, hbwr⟩
      rw [decide_eq_true hl] at HN
      go_wp2_with fail
      refine QC.out.mono ?_
      rintro e w2 ⟨rfl, hb2⟩
      have hb3 := hbr.trans (hb2.mono hbr.size)
      have hbw3 := hbw.trans (hb3.mono hbw.size)
      have BL2 := BLr.below hb2
      have hl0 := BL2.cell 0
      have q0 := (hb2.cell (p := ⟨b, o + k, none⟩) hbl).trans q0
      by_cases hk : Z.rchk p = 0
      · rw [show Z.pOk p = true from decide_eq_true hk] at HN
        have HN2 : Hid (E = if (Z.datesB d (q.dates.drop (k + 1)) && (q.parts.drop (k + 1)).all Z.pOk) = true then 0 else 8) := HN
        rw [hk]
        clear hk QC HN
        go_wp2_with fail
        go_roundw
        case rel => exact ⟨k + 1, d, by omega, by go_num, rfl, HN2, hb3⟩
        case measure => simp [intOf]; omega
      · rw [show Z.pOk p = false from decide_eq_false hk] at HN
        have HE8 : Hid (E = 8) := Lib.hid (by rw [HN.out]; simp)
        have hk1 := ne_bne hk
        go_wp2_with fail
        go_ret
        exact ⟨ret_int HE8.out.symm, hbw3⟩
    · obtain rfl : k = q.dates.length := by omega
      have HN : Hid (E = 0) := Lib.hid (by
        rw [HI.out, List.drop_length, ← HPL.out, List.drop_length]; rfl)
      go_wp2_with fail
      go_ret
      exact ⟨ret_int HN.out.symm, hbwr⟩
end Go.Proofs.YtpnojgaehafjdaaGreat
