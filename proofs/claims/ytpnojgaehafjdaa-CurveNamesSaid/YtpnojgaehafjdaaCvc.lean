/- Walks: curve.Check, last, CheckQuote, both. -/
import Derived.Test.YtpnojgaehafjdaaCve
import Derived.Test.YtpnojgaehafjdaaFlo
namespace Go.Proofs.Ytpnojgaehafjdaa
open Go.RowKit
namespace Z
theorem rchk_pos {s : ByteArray} (h : rchk s = 0) : 0 < s.size := by
  have h1 := Q_ne (rq s)
  rw [(rok h).text, Lib.toList_data] at h1
  rw [Lib.size_eq]
  cases hd : s.data.toList with
  | nil => rw [hd] at h1; cases h1
  | cons a l => simp
theorem ptsE_drop {l : List Pt} {k : Nat} {p : Pt} (last : Int) (h : l[k]? = some p) : ptsE last (l.drop k) = if dayB p.d = true ∧ last < p.d ∧ rchk p.f = 0 ∧ posB p.f = true then ptsE p.d (l.drop (k + 1)) else 8 := by
  obtain ⟨hlt, rfl⟩ := List.getElem?_eq_some_iff.1 h
  rw [List.drop_eq_getElem_cons hlt]
  conv => lhs; unfold ptsE
end Z
theorem eq_beq0 {e : Int} (h : e = 0) : (e == 0) = true := by subst h; rfl
theorem ne_beq0 {e : Int} (h : e ≠ 0) : (e == 0) = false := by rw [beq_eq_false_iff_ne]; exact h
set_option maxRecDepth 100000 in
set_option maxHeartbeats 4000000 in
theorem cucheck_any (c : Z.Cu) (v : Value) (w : World) (hSP : SP w v c.pts) (hV : HasV w) (hs : ∀ p ∈ c.pts, p.f.size ≤ 100000) :
    Calls Try.prog 14 #[.agg #[.int .i64 c.base, v]] w fun e w' => e = .returned (.int .i64 (Z.cuE c)) ∧ Below w.heap.size w w' := by
  have hb0 := (Below.refl _ w).alloc (Nat.le_refl w.heap.size) (.cells #[.int .i64 c.base, v] 27)
  have BL := Blk.new w 27 #[.int .i64 c.base, v]
  have hl0 := BL.cell 0
  have hl1 := BL.cell 1
  have HS := Lib.hid hSP
  have HV := Lib.hid hV
  obtain ⟨A, cp, rfl, hlc, hcm⟩ := hSP.shape
  unfold maxLen at hcm
  clear hSP hV BL
  have HR : Hid (Z.cuE c = if 100 < c.pts.length then 4 else if Z.dayB c.base = true then Z.ptsE c.base c.pts else 8) := Lib.hid rfl
  generalize Z.cuE c = R at *
  by_cases hm : 100 < c.pts.length
  · have HR4 : Hid (R = 4) := Lib.hid (by rw [HR.out, if_pos hm])
    go_enter Try.func14, Try.ntmps14
    go_wp2_with fail
    go_ret
    exact ⟨ret_int HR4.out.symm, hb0⟩
  have HRa : Hid (R = if Z.dayB c.base = true then Z.ptsE c.base c.pts else 8) := Lib.hid (by rw [HR.out, if_neg hm])
  clear HR
  go_enter Try.func14, Try.ntmps14
  go_wp2_with fail
  generalize (w.alloc (.cells #[.int .i64 c.base, .slice A c.pts.length cp] 27)) = W0 at *
  refine (day_any _ _).mono ?_
  rintro e w2 ⟨rfl, rfl⟩
  cases hd : Z.dayB c.base
  · have HR8 : Hid (R = 8) := Lib.hid (by rw [HRa.out, hd]; rfl)
    go_wp2_with fail
    go_ret
    exact ⟨ret_int HR8.out.symm, hb0⟩
  have HI0 : Hid (R = Z.ptsE c.base (c.pts.drop 0)) := Lib.hid (by rw [HRa.out, hd]; rfl)
  clear HRa
  go_wp2_with fail
  go_loopw [3, 19] (fun lv iv wr => ∃ (k : Nat) (last : Int), k ≤ c.pts.length ∧ iv = .int .i64 k ∧ lv = .int .i64 last ∧ Hid (R = Z.ptsE last (c.pts.drop k)) ∧ Below W0.heap.size W0 wr) (fun _ iv _ => c.pts.length - (intOf iv).toNat)
  case atStart => exact ⟨0, _, by omega, rfl, rfl, HI0, Below.refl _ _⟩
  case round =>
    obtain ⟨k, last, hk, rfl, rfl, HI, hbr⟩ := hrel
    clear HI0
    have hbwr := hb0.trans (hbr.mono hb0.size)
    by_cases hlt : k < c.pts.length
    · have hz : c.pts[k]? = some c.pts[k] := List.getElem?_eq_getElem hlt
      obtain ⟨b, o, rfl, hbl, q0, q1⟩ := SP.cells (HS.out.below hbwr) hz
      have HD := Lib.hid (Z.ptsE_drop last hz)
      have hsz := hs _ (List.mem_of_getElem? hz)
      clear hz
      generalize c.pts[k] = p at *
      have HD2 : Hid (R = if Z.dayB p.d = true ∧ last < p.d ∧ Z.rchk p.f = 0 ∧ Z.posB p.f = true then Z.ptsE p.d (c.pts.drop (k + 1)) else 8) := Lib.hid (by rw [HI.out, HD.out])
      clear HI HD
      have BX := Blk.new wr 37 #[.int .i64 p.d, .string p.f]
      have z0 := BX.cell 0
      have z1 := BX.cell 1
      have hba := (Below.refl _ wr).alloc (Nat.le_refl wr.heap.size) (.cells #[.int .i64 p.d, .string p.f] 37)
      have hb5 := hbr.trans (hba.mono hbr.size)
      have HV5 := Lib.hid (HV.out.below (hb0.trans (hb5.mono hb0.size)))
      have hbX := BX.lt
      go_wp2_with fail
      generalize (wr.alloc (.cells #[.int .i64 p.d, .string p.f] 37)) = W5 at *
      clear q0 q1 hba
      refine (day_any _ _).mono ?_
      rintro e w2 ⟨rfl, rfl⟩
      cases h1 : Z.dayB p.d
      · rw [h1, if_neg (by simp)] at HD2
        go_wp2_with fail
        go_ret
        exact ⟨ret_int HD2.out.symm, hb0.trans (hb5.mono hb0.size)⟩
      rw [h1] at HD2
      by_cases h2 : last < p.d
      case neg =>
        rw [if_neg (fun h => h2 h.2.1)] at HD2
        go_wp2_with fail
        go_ret
        exact ⟨ret_int HD2.out.symm, hb0.trans (hb5.mono hb0.size)⟩
      have QC : Hid (∀ W : World, Below W5.heap.size W5 W → Calls Try.prog 28 #[.string p.f] W fun e w' => e = .returned (.int .i64 (Z.rchk p.f)) ∧ Below W.heap.size W w') := Lib.hid fun W h => qcheck_any p.f W (HV5.out.below h) hsz
      go_wp2_with fail
      refine (QC.out _ (Below.refl _ _)).mono ?_
      rintro e W6 ⟨rfl, hb6⟩
      have hbw6 := hb5.trans (hb6.mono hb5.size)
      have z1 := (BX.below hb6).cell 1
      have z0 := (BX.below hb6).cell 0
      clear QC BX HV5 hb6 hbX
      by_cases h3 : Z.rchk p.f = 0
      case neg =>
        rw [if_neg (fun h => h3 h.2.2.1)] at HD2
        have h3b := ne_bne h3
        go_wp2_with fail
        go_ret
        exact ⟨ret_int HD2.out.symm, hb0.trans (hbw6.mono hb0.size)⟩
      have hpos := Z.rchk_pos h3
      have HP : Hid (∀ W : World, Calls Try.prog 29 #[.string p.f] W fun e w' => e = .returned (.bool (Z.posB p.f)) ∧ W = w') := Lib.hid fun W => pos_any p.f W hpos (by unfold maxLen; omega)
      rw [h3]
      go_wp2_with fail
      refine (HP.out _).mono ?_
      rintro e w2 ⟨rfl, rfl⟩
      cases h4 : Z.posB p.f
      · rw [h4, if_neg (by simp)] at HD2
        go_wp2_with fail
        go_ret
        exact ⟨ret_int HD2.out.symm, hb0.trans (hbw6.mono hb0.size)⟩
      rw [if_pos ⟨by first | rfl | trivial, h2, h3, h4⟩] at HD2
      clear HP h3 h4
      go_wp2_with fail
      go_roundw
      case rel => exact ⟨k + 1, p.d, by omega, by go_num, rfl, HD2, hbw6⟩
      case measure => simp [intOf]; omega
    · obtain rfl : k = c.pts.length := by omega
      have hR0 := HI.out
      rw [List.drop_length] at hR0
      have HR0 := Lib.hid hR0
      clear hR0 HI
      go_wp2_with fail
      go_ret
      exact ⟨ret_int HR0.out.symm, hb0.trans (hbr.mono hb0.size)⟩
theorem getLastD_at {l : List Int} (h : 0 < l.length) : l[l.length - 1]? = some (l.getLastD 0) := by
  rw [← List.getLast?_eq_getElem?, List.getLastD_eq_getLast?]
  cases l with
  | nil => cases h
  | cons a r => rw [List.getLast?_cons]; rfl
theorem last_any (r : QV) (q : Z.Qt) (w : World) (hq : QOk w r q) (h0 : 0 < q.dates.length) :
    Calls Try.prog 26 #[.agg #[r.dv, r.pv, .string r.rate]] w fun e w' => e = .returned (.int .i64 q.last) ∧ Below w.heap.size w w' := by
  obtain ⟨h1, h2, h3⟩ := hq
  obtain ⟨dv, pv, rate⟩ := r
  have hd := h1
  obtain ⟨A, cp, e1, hlc, hcm⟩ := h1.shape
  obtain ⟨A2, cp2, e2, _, _⟩ := h2.shape
  have e1 : dv = .slice A q.dates.length cp := e1
  have e2 : pv = .slice A2 q.parts.length cp2 := e2
  subst e1 e2
  have hz := getLastD_at h0
  have hb0 := (Below.refl _ w).alloc (Nat.le_refl w.heap.size) (.cells #[.slice A q.dates.length cp, .slice A2 q.parts.length cp2, .string rate] 49)
  have BL := Blk.new w 49 #[.slice A q.dates.length cp, .slice A2 q.parts.length cp2, .string rate]
  have hl0 := BL.cell 0
  obtain ⟨b, o, rfl, hb, hc⟩ := (hd.alloc (.cells #[.slice A q.dates.length cp, .slice A2 q.parts.length cp2, .string rate] 49)).cell1 hz rfl
  have hlast : q.dates.getLastD 0 = q.last := rfl
  rw [hlast] at hc
  generalize q.last = L at *
  obtain ⟨n, hn⟩ : ∃ n, q.dates.length = n + 1 := ⟨q.dates.length - 1, by omega⟩
  have hc : (w.alloc (.cells #[.slice (some ⟨b, o, none⟩) (n + 1) cp, .slice A2 q.parts.length cp2, .string rate] 49)).cell? ⟨b, o + n, none⟩ = some (.int .i64 L) := by
    rw [hn, Nat.add_sub_cancel] at hc
    exact hc
  rw [hn] at hl0 hb0 hlc
  unfold maxLen at hcm
  have hn2 : n < 9223372036854775807 := by omega
  rw [hn]
  clear h1 h2 h3 hd hz hlast hn BL h0 hb
  go_enter Try.func26, Try.ntmps26
  go_wp2_with fail
  go_ret
  exact ⟨rfl, hb0⟩
end Go.Proofs.Ytpnojgaehafjdaa
