/- Walks: curve.CheckQuote, both. -/
import Derived.Test.YtpnojgaehafjdaaCvc
namespace Go.Proofs.Ytpnojgaehafjdaa
open Go.RowKit
namespace Z
theorem datesB_drop {l : List Int} {k : Nat} {d : Int} (last : Int) (h : l[k]? = some d) : datesB last (l.drop k) = (dayB d && decide (last < d) && datesB d (l.drop (k + 1))) := by
  obtain ⟨hlt, rfl⟩ := List.getElem?_eq_some_iff.1 h
  rw [List.drop_eq_getElem_cons hlt]
  rfl
theorem allR_drop {f : ByteArray → Bool} {l : List ByteArray} {k : Nat} {d : ByteArray} (h : l[k]? = some d) : (l.drop k).all f = (f d && (l.drop (k + 1)).all f) := by
  obtain ⟨hlt, rfl⟩ := List.getElem?_eq_some_iff.1 h
  rw [List.drop_eq_getElem_cons hlt]
  rfl
/-- The first part of the test of a quote. -/
def Qt.ok0 (q : Qt) (base : Int) : Bool := dayB base && decide (0 < q.dates.length) && decide (q.parts.length = q.dates.length) && decide (rchk q.rate = 0)
def pOk (p : ByteArray) : Bool := decide (rchk p = 0)
theorem qtE_eq (q : Qt) (base : Int) (h : ¬ 40 < q.dates.length) : qtE q base = if (q.ok0 base && datesB base q.dates && q.parts.all pOk) = true then 0 else 8 := if_neg h
end Z
set_option maxRecDepth 100000 in
set_option maxHeartbeats 8000000 in
theorem cquote_any (r : QV) (q : Z.Qt) (base : Int) (w : World) (hq : QOk w r q) (hV : HasV w) (hr : q.rate.size ≤ 100000) (hs : ∀ p ∈ q.parts, p.size ≤ 100000) :
    Calls Try.prog 24 #[.agg #[r.dv, r.pv, .string r.rate], .int .i64 base] w fun e w' => e = .returned (.int .i64 (Z.qtE q base)) ∧ Below w.heap.size w w' := by
  obtain ⟨h1, h2, h3⟩ := hq
  obtain ⟨dv, pv, rate⟩ := r
  have h3 : rate = q.rate := h3
  subst h3
  have HS1 := Lib.hid h1
  have HS2 := Lib.hid h2
  obtain ⟨A, cp, e1, hlc, hcm⟩ := h1.shape
  obtain ⟨A2, cp2, e2, hlc2, hcm2⟩ := h2.shape
  have e1 : dv = .slice A q.dates.length cp := e1
  have e2 : pv = .slice A2 q.parts.length cp2 := e2
  subst e1 e2
  unfold maxLen at hcm hcm2
  have HV := Lib.hid hV
  have hb0 := (Below.refl _ w).alloc (Nat.le_refl w.heap.size) (.cells #[.slice A q.dates.length cp, .slice A2 q.parts.length cp2, .string q.rate] 49)
  have BL := Blk.new w 49 #[.slice A q.dates.length cp, .slice A2 q.parts.length cp2, .string q.rate]
  have hl0 := BL.cell 0
  have hl1 := BL.cell 1
  have hl2 := BL.cell 2
  clear hV h1 h2
  by_cases hm : 40 < q.dates.length
  · have HE : Z.qtE q base = 4 := if_pos hm
    rw [HE]
    go_enter Try.func24, Try.ntmps24
    go_wp2_with fail
    go_ret
    exact ⟨rfl, hb0⟩
  have HE := Lib.hid (Z.qtE_eq q base hm)
  have HO : Hid (q.ok0 base = (Z.dayB base && decide (0 < q.dates.length) && decide (q.parts.length = q.dates.length) && decide (Z.rchk q.rate = 0))) := Lib.hid rfl
  generalize Z.qtE q base = E at *
  generalize q.ok0 base = ok0 at *
  go_enter Try.func24, Try.ntmps24
  go_upto_region 3 with fail
  generalize (w.alloc (.cells #[.slice A q.dates.length cp, .slice A2 q.parts.length cp2, .string q.rate] 49)) = W0 at *
  have QC : Hid (∀ W : World, Below W0.heap.size W0 W → Calls Try.prog 28 #[.string q.rate] W fun e w' => e = .returned (.int .i64 (Z.rchk q.rate)) ∧ Below W.heap.size W w') := Lib.hid fun W h => qcheck_any q.rate W ((HV.out.below hb0).below h) hr
  go_cut [5] (fun ov wx => ov = .bool ok0 ∧ Below W0.heap.size W0 wx)
  case first =>
    go_wp2_with fail
    refine (day_any _ _).mono ?_
    rintro e w2 ⟨rfl, rfl⟩
    cases hd : Z.dayB base
    · go_wp2_with fail
      go_meet
      exact ⟨by rw [HO.out, hd]; rfl, Below.refl _ _⟩
    by_cases h0 : 0 < q.dates.length
    case neg =>
      go_wp2_with fail
      go_meet
      exact ⟨by rw [HO.out, hd, decide_eq_false h0]; rfl, Below.refl _ _⟩
    by_cases he : q.parts.length = q.dates.length
    case neg =>
      have he1 : ((q.parts.length : Int) == (q.dates.length : Int)) = false := by rw [beq_eq_false_iff_ne]; omega
      go_wp2_with fail
      go_meet
      exact ⟨by rw [HO.out, hd, decide_eq_false he]; simp, Below.refl _ _⟩
    have he1 : ((q.parts.length : Int) == (q.dates.length : Int)) = true := by rw [beq_iff_eq]; omega
    have HQ : Hid (ok0 = decide (Z.rchk q.rate = 0)) := Lib.hid (by rw [HO.out, hd, decide_eq_true h0, decide_eq_true he]; rfl)
    clear he HO
    go_wp2_with fail
    refine (QC.out _ (Below.refl _ _)).mono ?_
    rintro e w2 ⟨rfl, hb2⟩
    by_cases hk : Z.rchk q.rate = 0
    · rw [hk]
      go_wp2_with fail
      go_meet
      exact ⟨by rw [HQ.out, decide_eq_true hk], hb2⟩
    · have hk1 := ne_beq0 hk
      go_wp2_with fail
      go_meet
      exact ⟨by rw [HQ.out, decide_eq_false hk], hb2⟩
  case rest =>
  obtain ⟨rfl, hb1⟩ := hcut
  rename World => W1
  have hbw := hb0.trans (hb1.mono hb0.size)
  have BL1 := Lib.hid (BL.below hb1)
  have hl0 := BL1.out.cell 0
  have hl1 := BL1.out.cell 1
  clear BL hl2 HO QC hb1 hm hr
  have HI0 : Hid (E = if (ok0 && Z.datesB base (q.dates.drop 0) && q.parts.all Z.pOk) = true then 0 else 8) := HE
  clear HE
  go_wp2_with fail
  go_loop [5, 6, 42] (fun ov lv iv => ∃ (k : Nat) (ok : Bool) (last : Int), k ≤ q.dates.length ∧ iv = .int .i64 k ∧ ov = .bool ok ∧ lv = .int .i64 last ∧ Hid (E = if (ok && Z.datesB last (q.dates.drop k) && q.parts.all Z.pOk) = true then 0 else 8)) (fun _ _ iv => q.dates.length - (intOf iv).toNat)
  case atStart => exact ⟨0, ok0, base, by omega, rfl, rfl, rfl, HI0⟩
  case round =>
    obtain ⟨k, ok, last, hk, rfl, rfl, rfl, HI⟩ := hrel
    clear HI0
    by_cases hlt : k < q.dates.length
    · have hz : q.dates[k]? = some q.dates[k] := List.getElem?_eq_getElem hlt
      obtain ⟨b, o, rfl, hbl, q0⟩ := (HS1.out.below hbw).cell1 hz rfl
      have HD := Lib.hid (Z.datesB_drop last hz)
      clear hz
      generalize q.dates[k] = d at *
      cases ok
      · have HN : Hid (E = if (false && Z.datesB d (q.dates.drop (k + 1)) && q.parts.all Z.pOk) = true then 0 else 8) := HI
        go_wp2_with fail
        go_round
        case rel => exact ⟨k + 1, false, d, by omega, by go_num, rfl, rfl, HN⟩
        case measure => simp [intOf]; omega
      · go_wp2_with fail
        refine (day_any _ _).mono ?_
        rintro e w2 ⟨rfl, rfl⟩
        have HN : Hid (E = if ((Z.dayB d && decide (last < d)) && Z.datesB d (q.dates.drop (k + 1)) && q.parts.all Z.pOk) = true then 0 else 8) := Lib.hid (by rw [HI.out, HD.out]; rfl)
        cases hd : Z.dayB d
        · rw [hd] at HN
          go_wp2_with fail
          go_round
          case rel => exact ⟨k + 1, false, d, by omega, by go_num, rfl, rfl, HN⟩
          case measure => simp [intOf]; omega
        · rw [hd] at HN
          by_cases hl : last < d
          · rw [decide_eq_true hl] at HN
            go_wp2_with fail
            go_round
            case rel => exact ⟨k + 1, true, d, by omega, by go_num, rfl, rfl, HN⟩
            case measure => simp [intOf]; omega
          · rw [decide_eq_false hl] at HN
            go_wp2_with fail
            go_round
            case rel => exact ⟨k + 1, false, d, by omega, by go_num, by rw [decide_eq_false (Int.not_lt.2 hl)], rfl, HN⟩
            case measure => simp [intOf]; omega
    · obtain rfl : k = q.dates.length := by omega
      have HI1 : Hid (E = if (ok && (q.parts.drop 0).all Z.pOk) = true then 0 else 8) := Lib.hid (by
        rw [HI.out, List.drop_length]
        show (if (ok && true && q.parts.all Z.pOk) = true then (0 : Int) else 8) = _
        rw [Bool.and_true]; rfl)
      clear HI hl0
      go_wp2_with fail
      go_loopw [5, 61] (fun ov iv wr => ∃ (k : Nat) (ok : Bool), k ≤ q.parts.length ∧ iv = .int .i64 k ∧ ov = .bool ok ∧ Hid (E = if (ok && (q.parts.drop k).all Z.pOk) = true then 0 else 8) ∧ Below W1.heap.size W1 wr) (fun _ iv _ => q.parts.length - (intOf iv).toNat)
      case atStart => exact ⟨0, ok, by omega, rfl, rfl, HI1, Below.refl _ _⟩
      case round =>
        obtain ⟨j, ok2, hj, rfl, rfl, HJ, hbr⟩ := hrel
        clear HI1
        have hbwr := hbw.trans (hbr.mono hbw.size)
        by_cases hlt2 : j < q.parts.length
        · have hz : q.parts[j]? = some q.parts[j] := List.getElem?_eq_getElem hlt2
          obtain ⟨b, o, rfl, hbl, q0⟩ := (HS2.out.below hbwr).cell1 hz rfl
          have HD := Lib.hid (Z.allR_drop (f := Z.pOk) hz)
          have hsz := hs _ (List.mem_of_getElem? hz)
          clear hz
          generalize q.parts[j] = p at *
          cases ok2
          · have HN : Hid (E = if (false && (q.parts.drop (j + 1)).all Z.pOk) = true then 0 else 8) := HJ
            go_wp2_with fail
            go_roundw
            case rel => exact ⟨j + 1, false, by omega, by go_num, rfl, HN, hbr⟩
            case measure => simp [intOf]; omega
          · have HN : Hid (E = if (Z.pOk p && (q.parts.drop (j + 1)).all Z.pOk) = true then 0 else 8) := Lib.hid (by rw [HJ.out, HD.out]; rfl)
            have QC : Hid (Calls Try.prog 28 #[.string p] wr fun e w' => e = .returned (.int .i64 (Z.rchk p)) ∧ Below wr.heap.size wr w') := Lib.hid (qcheck_any p wr (HV.out.below hbwr) hsz)
            go_wp2_with fail
            refine QC.out.mono ?_
            rintro e w2 ⟨rfl, hb2⟩
            have hb3 := hbr.trans (hb2.mono hbr.size)
            by_cases hk : Z.rchk p = 0
            · rw [show Z.pOk p = true from decide_eq_true hk] at HN
              rw [hk]
              go_wp2_with fail
              go_roundw
              case rel => exact ⟨j + 1, true, by omega, by go_num, rfl, HN, hb3⟩
              case measure => simp [intOf]; omega
            · rw [show Z.pOk p = false from decide_eq_false hk] at HN
              have hk1 := ne_beq0 hk
              go_wp2_with fail
              go_roundw
              case rel => exact ⟨j + 1, false, by omega, by go_num, rfl, HN, hb3⟩
              case measure => simp [intOf]; omega
        · obtain rfl : j = q.parts.length := by omega
          have HN : Hid (E = if ok2 = true then 0 else 8) := Lib.hid (by
            rw [HJ.out, List.drop_length]
            show (if (ok2 && true) = true then (0 : Int) else 8) = _
            rw [Bool.and_true])
          cases ok2
          · go_wp2_with fail
            go_ret
            exact ⟨ret_int HN.out.symm, hbwr⟩
          · go_wp2_with fail
            go_ret
            exact ⟨ret_int HN.out.symm, hbwr⟩
end Go.Proofs.Ytpnojgaehafjdaa
