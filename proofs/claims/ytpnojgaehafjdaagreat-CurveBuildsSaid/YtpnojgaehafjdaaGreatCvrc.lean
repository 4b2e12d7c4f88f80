/- Walks: Check, Last and has of the reference of curves. -/
import Derived.Test.YtpnojgaehafjdaaGreatCvrs
import Derived.Test.YtpnojgaehafjdaaGreatCvc
import Derived.BigQuiet
namespace Go.Proofs.YtpnojgaehafjdaaGreat
open Go.RowKit
set_option maxRecDepth 100000 in
set_option maxHeartbeats 4000000 in
theorem rcucheck_any (c : Z.Cu) (v : Value) (w : World) (hSP : SP w v c.pts) (hs : ∀ p ∈ c.pts, p.f.size ≤ 100000) :
    Calls Tryz.prog 11 #[.agg #[.int .i64 c.base, v]] w fun e w' => e = .returned (.int .i64 (Z.cuE c)) ∧ Below w.heap.size w w' := by
  have hb0 := (Below.refl _ w).alloc (Nat.le_refl w.heap.size) (.cells #[.int .i64 c.base, v] 24)
  have BL := Blk.new w 24 #[.int .i64 c.base, v]
  have hl0 := BL.cell 0
  have hl1 := BL.cell 1
  have HS := Lib.hid hSP
  obtain ⟨A, cp, rfl, hlc, hcm⟩ := hSP.shape
  unfold maxLen at hcm
  clear hSP
  have HR : Hid (Z.cuE c = if 100 < c.pts.length then 4 else if Z.dayB c.base = true then Z.ptsE c.base c.pts else 8) := Lib.hid rfl
  generalize Z.cuE c = R at *
  by_cases hm : 100 < c.pts.length
  · have HR4 : Hid (R = 4) := Lib.hid (by rw [HR.out, if_pos hm])
    go_enter Tryz.func11, Tryz.ntmps11
    go_wp2_with fail
    go_ret
    exact ⟨ret_int HR4.out.symm, hb0⟩
  have HRa : Hid (R = if Z.dayB c.base = true then Z.ptsE c.base c.pts else 8) := Lib.hid (by rw [HR.out, if_neg hm])
  clear HR
  go_enter Tryz.func11, Tryz.ntmps11
  go_wp2_with fail
  generalize (w.alloc (.cells #[.int .i64 c.base, .slice A c.pts.length cp] 24)) = W0 at *
  refine (rday_any _ _).mono ?_
  rintro e w2 ⟨rfl, rfl⟩
  cases hd : Z.dayB c.base
  · have HR8 : Hid (R = 8) := Lib.hid (by rw [HRa.out, hd]; rfl)
    go_wp2_with fail
    go_ret
    exact ⟨ret_int HR8.out.symm, hb0⟩
  have HI0 : Hid (R = Z.ptsE c.base (c.pts.drop 0)) := Lib.hid (by rw [HRa.out, hd]; rfl)
  clear HRa
  go_wp2_with fail
  go_loopw [3, 4] (fun lv iv wr => ∃ (k : Nat) (last : Int), k ≤ c.pts.length ∧ iv = .int .i64 k ∧ lv = .int .i64 last ∧ Hid (R = Z.ptsE last (c.pts.drop k)) ∧ Below W0.heap.size W0 wr) (fun _ iv _ => c.pts.length - (intOf iv).toNat)
  case atStart => exact ⟨0, _, by omega, rfl, rfl, HI0, Below.refl _ _⟩
  case round =>
    obtain ⟨k, last, hk, rfl, rfl, HI, hbr⟩ := hrel
    clear HI0
    have hbwr := hb0.trans (hbr.mono hb0.size)
    have BLr := BL.below hbr
    have hl0 := BLr.cell 0
    have hl1 := BLr.cell 1
    have hk0 : (0 : Int) ≤ (k : Int) := by omega
    by_cases hlt : k < c.pts.length
    · have hz : c.pts[k]? = some c.pts[k] := List.getElem?_eq_getElem hlt
      have hk1 : (k : Int) < (c.pts.length : Int) := by omega
      obtain ⟨b, o, rfl, hbl, q0, q1⟩ := SP.cells (HS.out.below hbwr) hz
      have HD := Lib.hid (Z.ptsE_drop last hz)
      have hsz := hs _ (List.mem_of_getElem? hz)
      clear hz
      generalize c.pts[k] = p at *
      have HD2 : Hid (R = if Z.dayB p.d = true ∧ last < p.d ∧ Z.rchk p.f = 0 ∧ Z.posB p.f = true then Z.ptsE p.d (c.pts.drop (k + 1)) else 8) := Lib.hid (by rw [HI.out, HD.out])
      clear HI HD
      have BX := Blk.new wr 50 #[.int .i64 p.d, .string p.f]
      have z0 := BX.cell 0
      have z1 := BX.cell 1
      have hba := (Below.refl _ wr).alloc (Nat.le_refl wr.heap.size) (.cells #[.int .i64 p.d, .string p.f] 50)
      have hb5 := hbr.trans (hba.mono hbr.size)
      have hbX := BX.lt
      go_wp2_with fail
      generalize (wr.alloc (.cells #[.int .i64 p.d, .string p.f] 50)) = W5 at *
      clear q0 q1 hba
      refine (rday_any _ _).mono ?_
      rintro e w2 ⟨rfl, rfl⟩
      cases h1 : Z.dayB p.d
      · rw [h1, if_neg (by simp)] at HD2
        go_wp2_with fail
        go_ret
        exact ⟨ret_int HD2.out.symm, hb0.trans (hb5.mono hb0.size)⟩
      rw [h1] at HD2
      by_cases h2 : last < p.d
      case neg =>
        rw [if_neg (fun h => h2 h.2.1)] at HD2
        go_wp2_with fail
        go_ret
        exact ⟨ret_int HD2.out.symm, hb0.trans (hb5.mono hb0.size)⟩
      have QC : Hid (∀ W : World, Below W5.heap.size W5 W → Calls Tryz.prog 28 #[.string p.f] W fun e w' => e = .returned (.int .i64 (Z.rchk p.f)) ∧ Below W.heap.size W w') := Lib.hid fun W h => rqcheck_any p.f W hsz
      go_wp2_with fail
      refine (QC.out _ (Below.refl _ _)).mono ?_
      rintro e W6 ⟨rfl, hb6⟩
      have hbw6 := hb5.trans (hb6.mono hb5.size)
      have z1 := (BX.below hb6).cell 1
      have z0 := (BX.below hb6).cell 0
      clear QC BX hb6 hbX
      by_cases h3 : Z.rchk p.f = 0
      case neg =>
        rw [if_neg (fun h => h3 h.2.2.1)] at HD2
        have h3b := ne_bne h3
        go_wp2_with fail
        go_ret
        exact ⟨ret_int HD2.out.symm, hb0.trans (hbw6.mono hb0.size)⟩
      have hpos := Z.rchk_pos h3
      have HP : Hid (∀ W : World, Calls Tryz.prog 29 #[.string p.f] W fun e w' => e = .returned (.bool (Z.posB p.f)) ∧ W = w') := Lib.hid fun W => rpos_any p.f W hpos (by unfold maxLen; omega)
      rw [h3]
      go_wp2_with fail
      refine (HP.out _).mono ?_
      rintro e w2 ⟨rfl, rfl⟩
      cases h4 : Z.posB p.f
      · rw [h4, if_neg (by simp)] at HD2
        go_wp2_with fail
        go_ret
        exact ⟨ret_int HD2.out.symm, hb0.trans (hbw6.mono hb0.size)⟩
      rw [if_pos ⟨by first | rfl | trivial, h2, h3, h4⟩] at HD2
      clear HP h3 h4
      go_wp2_with fail
      go_roundw
      case rel => exact ⟨k + 1, p.d, by omega, by go_num, rfl, HD2, hbw6⟩
      case measure => simp [intOf]; omega
    · obtain rfl : k = c.pts.length := by omega
      have hR0 := HI.out
      rw [List.drop_length] at hR0
      have HR0 := Lib.hid hR0
      clear hR0 HI
      go_wp2_with fail
      go_ret
      exact ⟨ret_int HR0.out.symm, hb0.trans (hbr.mono hb0.size)⟩
theorem Z.endK_last : ∀ (l : List Z.Pt) (d : Int) (f : ByteArray) (k : Nat) (p : Z.Pt), l.length = k + 1 → l[k]? = some p → Z.endK d f l = (p.d, p.f)
  | [], _, _, _, _, h, _ => by cases h
  | [x], _, _, k, p, h, hk => by
    have : k = 0 := by simpa using h.symm
    subst this
    injection hk with hk
    subst hk
    rfl
  | x :: y :: r, _, _, k, p, h, hk => by
    cases k with
    | zero => simp at h
    | succ j => exact endK_last (y :: r) x.d x.f j p (by simpa using h) hk
set_option maxRecDepth 100000 in
set_option maxHeartbeats 4000000 in
theorem rlast_any (c : Z.Cu) (v : Value) (w : World) (hSP : SP w v c.pts) :
    Calls Tryz.prog 41 #[.agg #[.int .i64 c.base, v]] w fun e w' => e = .returned (.tuple #[.int .i64 c.endK.1, .string c.endK.2]) ∧ Below w.heap.size w w' := by
  have hb0 := (Below.refl _ w).alloc (Nat.le_refl w.heap.size) (.cells #[.int .i64 c.base, v] 24)
  have BL := Blk.new w 24 #[.int .i64 c.base, v]
  have hl0 := BL.cell 0
  have hl1 := BL.cell 1
  have HS := Lib.hid (SL.alloc hSP (.cells #[.int .i64 c.base, v] 24))
  obtain ⟨A, cp, rfl, hlc, hcm⟩ := hSP.shape
  unfold maxLen at hcm
  clear hSP
  by_cases hl : c.pts.length = 0
  · have hE : c.endK = (c.base, Z.z49) := by
      have : c.pts = [] := List.eq_nil_of_length_eq_zero hl
      show Z.endK c.base Z.z49 c.pts = _
      rw [this]; rfl
    rw [hE]
    rw [hl] at hl0 hl1 hb0 ⊢
    go_enter Tryz.func41, Tryz.ntmps41
    go_wp2_with fail
    go_ret2
    exact ⟨rfl, hb0⟩
  · obtain ⟨n, hn⟩ : ∃ n, c.pts.length = n + 1 := ⟨c.pts.length - 1, by omega⟩
    have hnl : n < c.pts.length := by omega
    have hq : c.pts[n]? = some c.pts[n] := List.getElem?_eq_getElem hnl
    have hE : c.endK = (c.pts[n].d, c.pts[n].f) := Z.endK_last c.pts c.base Z.z49 n _ hn hq
    rw [hE]
    obtain ⟨b, o, rfl, hbl, q0, q1⟩ := SP.cells HS.out hq
    clear hE hq HS
    generalize c.pts[n] = p at *
    have hn3 : n < 9223372036854775807 := by omega
    clear hnl
    rw [hn] at *
    have hn0 : ¬ (n : Int) + 1 = 0 := by omega
    have hn1 : (n : Int) < (n : Int) + 1 := by omega
    have hn2 : (0 : Int) ≤ (n : Int) := by omega
    clear hn hl
    have BX := Blk.new (w.alloc (.cells #[.int .i64 c.base, .slice (some ⟨b, o, none⟩) (n + 1) cp] 24)) 50 #[.int .i64 p.d, .string p.f]
    have hb2 := hb0.alloc hb0.size (.cells #[.int .i64 p.d, .string p.f] 50)
    have z0 := BX.cell 0
    have z1 := BX.cell 1
    go_enter Tryz.func41, Tryz.ntmps41
    go_wp2_with fail
    go_quiet (fail)
    go_wp2_with fail
    go_ret2
    exact ⟨rfl, below_drewN hb2 _⟩
set_option maxRecDepth 100000 in
set_option maxHeartbeats 4000000 in
theorem rhas_any (c : Z.Cu) (v : Value) (d : Int) (w : World) (hSP : SP w v c.pts) :
    Calls Tryz.prog 19 #[.agg #[.int .i64 c.base, v], .int .i64 d] w fun e w' => e = .returned (.bool (c.has d)) ∧ Below w.heap.size w w' := by
  have hb0 := (Below.refl _ w).alloc (Nat.le_refl w.heap.size) (.cells #[.int .i64 c.base, v] 24)
  have BL := Blk.new w 24 #[.int .i64 c.base, v]
  have hl0 := BL.cell 0
  have hl1 := BL.cell 1
  have H1 := Lib.hid (rlast_any c v _ (SL.alloc hSP (.cells #[.int .i64 c.base, v] 24)))
  have HH : Hid (c.has d = (decide (c.base ≤ d) && decide (d ≤ c.endK.1))) := Lib.hid rfl
  generalize c.has d = R at *
  generalize c.endK = E at *
  clear hSP
  go_enter Tryz.func19, Tryz.ntmps19
  go_wp2_with fail
  refine H1.out.mono ?_
  rintro e W1 ⟨rfl, hb1⟩
  have c0 := (BL.below hb1).cell 0
  have hbw := hb0.trans (hb1.mono hb0.size)
  clear H1 BL hl0 hl1
  by_cases h1 : c.base ≤ d
  · rw [decide_eq_true h1, Bool.true_and] at HH
    go_wp2_with fail
    go_ret
    exact ⟨ret_bool HH.out.symm, hbw⟩
  · rw [decide_eq_false h1] at HH
    go_wp2_with fail
    go_ret
    exact ⟨ret_bool HH.out.symm, hbw⟩
end Go.Proofs.YtpnojgaehafjdaaGreat
