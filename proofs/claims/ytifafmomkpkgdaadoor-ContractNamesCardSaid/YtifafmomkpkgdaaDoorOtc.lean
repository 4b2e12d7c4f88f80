/- Walks: sizes and depths of contracts; the program's Depth, the reference's Size and Depth. -/
import Derived.Test.YtifafmomkpkgdaaDoorOtb
import Derived.Deep.DeepCutAuto
namespace Go.Proofs.YtifafmomkpkgdaaDoor
open Go.RowKit
namespace Z
theorem exDepth_le : ∀ (n : Nat) (e : Ex n), exDepth n e ≤ exSize n e
  | 0, e => e.no
  | n + 1, e => by
    rw [exDepth, exSize]
    have : ∀ l : List (Ex n), maxL (exDepth n) l ≤ sumL (exSize n) l := by
      intro l
      induction l with
      | nil => exact Nat.le_refl _
      | cons x r ih =>
        rw [maxL, sumL]
        have := exDepth_le n x
        omega
    have := this e.sub
    omega
theorem exD_le {m : Nat} (e : Ex (m + 1)) : exD e ≤ exZ e := by
  unfold exD exZ
  split
  · exact Nat.le_refl _
  · exact exDepth_le (m + 1) e
theorem coDepth_le {m : Nat} : ∀ (n : Nat) (c : Co m n), coDepth n c ≤ coSize n c
  | 0, c => c.no
  | n + 1, c => by
    rw [coDepth, coSize]
    have : ∀ l : List (Co m n), maxL (coDepth n) l ≤ sumL (coSize n) l := by
      intro l
      induction l with
      | nil => exact Nat.le_refl _
      | cons x r ih =>
        rw [maxL, sumL]
        have := coDepth_le n x
        omega
    have := this c.sub
    have := exD_le c.top.ex
    omega
theorem CSm.depth {m n : Nat} {c : Co m (n + 1)} (h : CSm (n + 1) c) : coDepth (n + 1) c ≤ 1000000 := by
  have := CSm.size h
  have := coDepth_le (n + 1) c
  omega
end Z
set_option maxRecDepth 100000 in
set_option maxHeartbeats 4000000 in
theorem rcsize_any {m : Nat} : ∀ (n : Nat) (c : Z.Co m n) (a : Z.CN m) (u dv sv : Value) (w : World), CV w n c ⟨a, u, dv, sv⟩ → Z.CSm n c → Calls Tryd.prog 28 #[.agg #[.int .u8 a.k, .string a.fr, .string a.tu, .string a.nm, .int .u8 a.ex.top.k, .string a.ex.top.rat, .string a.ex.top.name, .int .i64 a.ex.top.date, u, .int .i64 a.date, dv, sv]] w fun e w' => e = .returned (.int .i64 (Z.coSize n c : Nat)) ∧ Below w.heap.size w w' := by
  intro n
  induction n with
  | zero => intro c; exact c.no
  | succ n ih =>
    intro c a u dv sv w hc hsm
    have HKS := Lib.hid hc.shape
    obtain ⟨rfl, hX, hD, hS⟩ := hc.open_
    obtain ⟨⟨Au, ku, cu, rfl⟩, ⟨Ad, kd, cd, rfl⟩, _⟩ := HKS.out
    obtain ⟨A, cp, rfl, hlc, hcm⟩ := hS.shape
    unfold maxLen at hcm
    have hb0 := (Below.refl _ w).alloc (Nat.le_refl w.heap.size) (.cells #[.int .u8 c.top.k, .string c.top.fr, .string c.top.tu, .string c.top.nm, .int .u8 c.top.ex.top.k, .string c.top.ex.top.rat, .string c.top.ex.top.name, .int .i64 c.top.ex.top.date, .slice Au ku cu, .int .i64 c.top.date, .slice Ad kd cd, .slice A c.sub.length cp] 29)
    have BX := Blk.new w 29 #[.int .u8 c.top.k, .string c.top.fr, .string c.top.tu, .string c.top.nm, .int .u8 c.top.ex.top.k, .string c.top.ex.top.rat, .string c.top.ex.top.name, .int .i64 c.top.ex.top.date, .slice Au ku cu, .int .i64 c.top.date, .slice Ad kd cd, .slice A c.sub.length cp]
    have HS := Lib.hid (CS.below hb0 hS)
    have HX := Lib.hid (XV.below hb0 (m + 1) hX)
    have HSUB := Lib.hid hsm.sub
    have HES := Lib.hid hsm.top.ex
    have hsz := Z.CSm.size hsm
    have hb1 : (1 + Z.exZ c.top.ex) + Z.sumL (Z.coSize n) (c.sub.drop 0) ≤ 1000000 := by rw [List.drop_zero]; exact hsz
    obtain ⟨R, hR⟩ : ∃ R, R = ((1 + Z.exZ c.top.ex) + Z.sumL (Z.coSize n) (c.sub.drop 0)) := ⟨_, rfl⟩
    have HR : Hid (R = (1 + Z.exZ c.top.ex) + Z.sumL (Z.coSize n) (c.sub.drop 0)) := Lib.hid hR
    have HRR : Hid (Z.coSize (n + 1) c = R) := Lib.hid (by rw [hR]; rw [List.drop_zero]; rfl)
    have HB : Hid (R ≤ 1000000) := Lib.hid (by rw [hR]; exact hb1)
    generalize Z.coSize (n + 1) c = RR at *
    clear hR hsz hb1 hsm hc hX hD hS HKS
    generalize c.sub = l at *
    generalize c.top = t at *
    have c4 := BX.cell 4
    have c5 := BX.cell 5
    have c6 := BX.cell 6
    have c7 := BX.cell 7
    have c8 := BX.cell 8
    have c11 := BX.cell 11
    have HBR := Lib.hid (rbare_any m t.ex (.slice Au ku cu) _ HX.out)
    go_enter Tryd.func28, Tryd.ntmps28
    go_wp2_with fail
    generalize (w.alloc (.cells #[.int .u8 t.k, .string t.fr, .string t.tu, .string t.nm, .int .u8 t.ex.top.k, .string t.ex.top.rat, .string t.ex.top.name, .int .i64 t.ex.top.date, .slice Au ku cu, .int .i64 t.date, .slice Ad kd cd, .slice A l.length cp] 29)) = W0 at *
    refine HBR.out.mono ?_
    rintro e W2 ⟨rfl, hb2⟩
    have BX2 := BX.below hb2
    have h02 := hb0.trans (hb2.mono hb0.size)
    clear HBR c4 c5 c6 c7 c8 c11
    have c4 := BX2.cell 4
    have c5 := BX2.cell 5
    have c6 := BX2.cell 6
    have c7 := BX2.cell 7
    have c8 := BX2.cell 8
    have c11 := BX2.cell 11
    obtain ⟨b, hb⟩ : ∃ b, b = Z.bareX t.ex := ⟨_, rfl⟩
    have HE0 : Hid (b = true → Z.exZ t.ex = 0) := Lib.hid (fun h => by unfold Z.exZ; rw [← hb, if_pos h])
    have HE1 : Hid (b = false → Z.exZ t.ex = Z.exSize (m + 1) t.ex) := Lib.hid (fun h => by unfold Z.exZ; rw [← hb, h]; rfl)
    rw [← hb]
    clear hb
    have HX2 := Lib.hid (XV.below hb2 (m + 1) HX.out)
    generalize Z.exZ t.ex = z0 at *
    go_upto_if 8 with fail
    go_cut [3] (fun sv wx => sv = .int .i64 ((1 + z0 : Nat) : Int) ∧ Below W2.heap.size W2 wx)
    case first =>
      cases b
      · have hz0 := HE1.out rfl
        have HSZ := Lib.hid (rxsize_any (m + 1) t.ex t.ex.top (.slice Au ku cu) W2 HX2.out (by have := HES.out.1; omega))
        rw [← hz0] at HSZ
        have hzb : (z0 : Int) ≤ 1000000 := by have := HES.out.1; have := Z.exDepth_le (m + 1) t.ex; omega
        clear hz0 HE0 HE1
        go_wp2_with fail
        refine HSZ.out.mono ?_
        rintro e W3 ⟨rfl, hb3⟩
        go_wp2_with fail
        go_meet
        exact ⟨by go_num, hb3⟩
      · have hz0 := HE0.out rfl
        subst hz0
        go_wp2_with fail
        go_meet
        exact ⟨rfl, Below.refl _ _⟩
    case rest =>
    obtain ⟨rfl, hb3⟩ := hcut
    rename World => W3
    have BX3 := BX2.below hb3
    have h03 := h02.trans (hb3.mono h02.size)
    have HS3 := Lib.hid (CS.below hb3 (CS.below hb2 HS.out))
    have c11 := BX3.cell 11
    clear c4 c5 c6 c7 c8 HE0 HE1 HX2 HX hb3 hb2 BX2 BX h02 hb0
    go_wp2_with fail
    go_loopw [3, 4] (fun sv iv wr => ∃ (k s : Nat), k ≤ l.length ∧ iv = .int .i64 k ∧ sv = .int .i64 s ∧ Hid (R = s + Z.sumL (Z.coSize n) (l.drop k)) ∧ Below W3.heap.size W3 wr) (fun _ iv _ => l.length - (intOf iv).toNat)
    case atStart => exact ⟨0, _, by omega, rfl, rfl, HR, Below.refl _ _⟩
    case round =>
      obtain ⟨k, s, hk, rfl, rfl, HI, hbr⟩ := hrel
      clear HR
      have hbw := h03.trans (hbr.mono h03.size)
      have c11 := (BX3.below hbr).cell 11
      by_cases hlt : k < l.length
      · have hz : l[k]? = some l[k] := List.getElem?_eq_getElem hlt
        obtain ⟨b, o, ax, ux, dx, sx, rfl, hbl, q0, q1, q2, q3, q4, q5, q6, q7, q8, q9, q10, q11, hv⟩ := CS.cells (CS.below hbr HS3.out) hz
        have HD := Lib.hid (Z.sumL_drop (f := (Z.coSize n)) hz)
        have HY := Lib.hid (HSUB.out _ (List.mem_of_getElem? hz))
        clear hz
        generalize l[k] = y at *
        have hi0 : (0 : Int) ≤ (k : Int) := by omega
        have hi1 : (k : Int) < (l.length : Int) := by omega
        have HC := Lib.hid (ih y ax ux dx sx wr hv HY.out)
        clear hv ih
        generalize Z.coSize n y = z at *
        have HN : Hid (R = (s + z) + Z.sumL (Z.coSize n) (l.drop (k + 1))) := Lib.hid (by rw [HI.out, HD.out]; omega)
        have hz1 : (s : Int) + (z : Int) ≤ 1000000 := by have := HN.out; have := HB.out; omega
        clear HI HD
        go_wp2_with fail
        refine HC.out.mono ?_
        rintro e W1 ⟨rfl, hb⟩
        have hbn := hbr.trans (hb.mono hbr.size)
        clear HC hb q0 q1 q2 q3 q4 q5 q6 q7 q8 q9 q10 q11 hbw
        go_wp2_with fail
        go_roundw
        case rel => first | exact ⟨k + 1, s + z, by omega, by go_num, by go_num, HN, hbn⟩ | ((repeat apply Exists.intro); exact ⟨⟨k + 1, s + z, by omega, by go_num, by go_num, HN, hbn⟩, rfl⟩)
        case measure => simp [intOf]; omega
      · obtain rfl : k = l.length := by omega
        have HN : Hid (R = s) := Lib.hid (by rw [HI.out, List.drop_length]; rfl)
        have hsb : (s : Int) ≤ 1000000 := by have := HN.out; have := HB.out; omega
        go_wp2_with fail
        go_ret
        exact ⟨ret_int (by rw [HRR.out, HN.out]), hbw⟩
set_option maxRecDepth 100000 in
set_option maxHeartbeats 4000000 in
theorem ccdepth_any {m : Nat} : ∀ (n : Nat) (c : Z.Co m n) (a : Z.CN m) (u dv sv : Value) (w : World), CV w n c ⟨a, u, dv, sv⟩ → Z.CSm n c → Calls Tryd.prog 21 #[.agg #[.int .u8 a.k, .string a.fr, .string a.tu, .string a.nm, .int .u8 a.ex.top.k, .string a.ex.top.rat, .string a.ex.top.name, .int .i64 a.ex.top.date, u, .int .i64 a.date, dv, sv]] w fun e w' => e = .returned (.int .i64 (Z.coDepth n c : Nat)) ∧ Below w.heap.size w w' := by
  intro n
  induction n with
  | zero => intro c; exact c.no
  | succ n ih =>
    intro c a u dv sv w hc hsm
    have HKS := Lib.hid hc.shape
    obtain ⟨rfl, hX, hD, hS⟩ := hc.open_
    obtain ⟨⟨Au, ku, cu, rfl⟩, ⟨Ad, kd, cd, rfl⟩, _⟩ := HKS.out
    obtain ⟨A, cp, rfl, hlc, hcm⟩ := hS.shape
    unfold maxLen at hcm
    have hb0 := (Below.refl _ w).alloc (Nat.le_refl w.heap.size) (.cells #[.int .u8 c.top.k, .string c.top.fr, .string c.top.tu, .string c.top.nm, .int .u8 c.top.ex.top.k, .string c.top.ex.top.rat, .string c.top.ex.top.name, .int .i64 c.top.ex.top.date, .slice Au ku cu, .int .i64 c.top.date, .slice Ad kd cd, .slice A c.sub.length cp] 29)
    have BX := Blk.new w 29 #[.int .u8 c.top.k, .string c.top.fr, .string c.top.tu, .string c.top.nm, .int .u8 c.top.ex.top.k, .string c.top.ex.top.rat, .string c.top.ex.top.name, .int .i64 c.top.ex.top.date, .slice Au ku cu, .int .i64 c.top.date, .slice Ad kd cd, .slice A c.sub.length cp]
    have HS := Lib.hid (CS.below hb0 hS)
    have HX := Lib.hid (XV.below hb0 (m + 1) hX)
    have HSUB := Lib.hid hsm.sub
    have HES := Lib.hid hsm.top.ex
    have hsz := Z.CSm.depth hsm
    have hb1 : max (Z.exD c.top.ex) (Z.maxL (Z.coDepth n) (c.sub.drop 0)) ≤ 1000000 := by rw [List.drop_zero]; rw [Z.coDepth] at hsz; omega
    obtain ⟨R, hR⟩ : ∃ R, R = (max (Z.exD c.top.ex) (Z.maxL (Z.coDepth n) (c.sub.drop 0))) := ⟨_, rfl⟩
    have HR : Hid (R = max (Z.exD c.top.ex) (Z.maxL (Z.coDepth n) (c.sub.drop 0))) := Lib.hid hR
    have HRR : Hid (Z.coDepth (n + 1) c = R + 1) := Lib.hid (by rw [hR]; rw [List.drop_zero]; rfl)
    have HB : Hid (R ≤ 1000000) := Lib.hid (by rw [hR]; exact hb1)
    generalize Z.coDepth (n + 1) c = RR at *
    clear hR hsz hb1 hsm hc hX hD hS HKS
    generalize c.sub = l at *
    generalize c.top = t at *
    have c4 := BX.cell 4
    have c5 := BX.cell 5
    have c6 := BX.cell 6
    have c7 := BX.cell 7
    have c8 := BX.cell 8
    have c11 := BX.cell 11
    have HBR := Lib.hid (cbare_any m t.ex (.slice Au ku cu) _ HX.out)
    go_enter Tryd.func21, Tryd.ntmps21
    go_wp2_with fail
    generalize (w.alloc (.cells #[.int .u8 t.k, .string t.fr, .string t.tu, .string t.nm, .int .u8 t.ex.top.k, .string t.ex.top.rat, .string t.ex.top.name, .int .i64 t.ex.top.date, .slice Au ku cu, .int .i64 t.date, .slice Ad kd cd, .slice A l.length cp] 29)) = W0 at *
    refine HBR.out.mono ?_
    rintro e W2 ⟨rfl, hb2⟩
    have BX2 := BX.below hb2
    have h02 := hb0.trans (hb2.mono hb0.size)
    clear HBR c4 c5 c6 c7 c8 c11
    have c4 := BX2.cell 4
    have c5 := BX2.cell 5
    have c6 := BX2.cell 6
    have c7 := BX2.cell 7
    have c8 := BX2.cell 8
    have c11 := BX2.cell 11
    obtain ⟨b, hb⟩ : ∃ b, b = Z.bareX t.ex := ⟨_, rfl⟩
    have HE0 : Hid (b = true → Z.exD t.ex = 0) := Lib.hid (fun h => by unfold Z.exD; rw [← hb, if_pos h])
    have HE1 : Hid (b = false → Z.exD t.ex = Z.exDepth (m + 1) t.ex) := Lib.hid (fun h => by unfold Z.exD; rw [← hb, h]; rfl)
    rw [← hb]
    clear hb
    have HX2 := Lib.hid (XV.below hb2 (m + 1) HX.out)
    generalize Z.exD t.ex = z0 at *
    go_upto_if 9 with fail
    go_cut [3] (fun sv wx => sv = .int .i64 ((z0 : Nat) : Int) ∧ Below W2.heap.size W2 wx)
    case first =>
      cases b
      · have hz0 := HE1.out rfl
        have HSZ := Lib.hid (cxdepth_any (m + 1) t.ex t.ex.top (.slice Au ku cu) W2 HX2.out (by have := HES.out.1; have := Z.exDepth_le (m + 1) t.ex; omega))
        rw [← hz0] at HSZ
        have hzb : (z0 : Int) ≤ 1000000 := by have := HES.out.1; have := Z.exDepth_le (m + 1) t.ex; omega
        clear hz0 HE0 HE1
        go_wp2_with fail
        refine HSZ.out.mono ?_
        rintro e W3 ⟨rfl, hb3⟩
        go_wp2_with fail
        go_meet
        exact ⟨by go_num, hb3⟩
      · have hz0 := HE0.out rfl
        subst hz0
        go_wp2_with fail
        go_meet
        exact ⟨rfl, Below.refl _ _⟩
    case rest =>
    obtain ⟨rfl, hb3⟩ := hcut
    rename World => W3
    have BX3 := BX2.below hb3
    have h03 := h02.trans (hb3.mono h02.size)
    have HS3 := Lib.hid (CS.below hb3 (CS.below hb2 HS.out))
    have c11 := BX3.cell 11
    clear c4 c5 c6 c7 c8 HE0 HE1 HX2 HX hb3 hb2 BX2 BX h02 hb0
    go_wp2_with fail
    go_loopw [3, 16] (fun sv iv wr => ∃ (k s : Nat), k ≤ l.length ∧ iv = .int .i64 k ∧ sv = .int .i64 s ∧ Hid (R = max s (Z.maxL (Z.coDepth n) (l.drop k))) ∧ Below W3.heap.size W3 wr) (fun _ iv _ => l.length - (intOf iv).toNat)
    case atStart => exact ⟨0, _, by omega, rfl, rfl, HR, Below.refl _ _⟩
    case round =>
      obtain ⟨k, s, hk, rfl, rfl, HI, hbr⟩ := hrel
      clear HR
      have hbw := h03.trans (hbr.mono h03.size)
      have c11 := (BX3.below hbr).cell 11
      by_cases hlt : k < l.length
      · have hz : l[k]? = some l[k] := List.getElem?_eq_getElem hlt
        obtain ⟨b, o, ax, ux, dx, sx, rfl, hbl, q0, q1, q2, q3, q4, q5, q6, q7, q8, q9, q10, q11, hv⟩ := CS.cells (CS.below hbr HS3.out) hz
        have HD := Lib.hid (Z.maxL_drop (f := (Z.coDepth n)) hz)
        have HY := Lib.hid (HSUB.out _ (List.mem_of_getElem? hz))
        clear hz
        generalize l[k] = y at *
        have hi0 : (0 : Int) ≤ (k : Int) := by omega
        have hi1 : (k : Int) < (l.length : Int) := by omega
        obtain ⟨⟨A1, k1, c1, rfl⟩, ⟨A2, k2, c2, rfl⟩, ⟨A3, k3, c3, rfl⟩⟩ := hv.shape
        have hba := (Below.refl _ wr).alloc (Nat.le_refl wr.heap.size) (.cells #[.int .u8 ax.k, .string ax.fr, .string ax.tu, .string ax.nm, .int .u8 ax.ex.top.k, .string ax.ex.top.rat, .string ax.ex.top.name, .int .i64 ax.ex.top.date, .slice A1 k1 c1, .int .i64 ax.date, .slice A2 k2 c2, .slice A3 k3 c3] 29)
        have BY := Blk.new wr 29 #[.int .u8 ax.k, .string ax.fr, .string ax.tu, .string ax.nm, .int .u8 ax.ex.top.k, .string ax.ex.top.rat, .string ax.ex.top.name, .int .i64 ax.ex.top.date, .slice A1 k1 c1, .int .i64 ax.date, .slice A2 k2 c2, .slice A3 k3 c3]
        have z0 := BY.cell 0
        have z1 := BY.cell 1
        have z2 := BY.cell 2
        have z3 := BY.cell 3
        have z4 := BY.cell 4
        have z5 := BY.cell 5
        have z6 := BY.cell 6
        have z7 := BY.cell 7
        have z8 := BY.cell 8
        have z9 := BY.cell 9
        have z10 := BY.cell 10
        have z11 := BY.cell 11
        have HC := Lib.hid (ih y ax (.slice A1 k1 c1) (.slice A2 k2 c2) (.slice A3 k3 c3) (wr.alloc (.cells #[.int .u8 ax.k, .string ax.fr, .string ax.tu, .string ax.nm, .int .u8 ax.ex.top.k, .string ax.ex.top.rat, .string ax.ex.top.name, .int .i64 ax.ex.top.date, .slice A1 k1 c1, .int .i64 ax.date, .slice A2 k2 c2, .slice A3 k3 c3] 29)) (CV.below hba n hv) HY.out)
        clear hv ih
        generalize Z.coDepth n y = z at *
        have HN : Hid (R = max (max s z) (Z.maxL (Z.coDepth n) (l.drop (k + 1)))) := Lib.hid (by rw [HI.out, HD.out]; omega)
        clear HI HD
        go_wp2_with fail
        refine HC.out.mono ?_
        rintro e W1 ⟨rfl, hb⟩
        have hbn := hbr.trans ((hba.trans (hb.mono hba.size)).mono hbr.size)
        clear HC hb q0 q1 q2 q3 q4 q5 q6 q7 q8 q9 q10 q11 BY hba z0 z1 z2 z3 z4 z5 z6 z7 z8 z9 z10 z11 hbw
        by_cases hsz : s < z
        · have hcc : (s : Int) < (z : Int) := by omega
          have HN2 := HN.out
          rw [Nat.max_eq_right (Nat.le_of_lt hsz)] at HN2
          have HN3 := Lib.hid HN2
          clear HN HN2
          go_wp2_with fail
          go_roundw
          case rel => first | exact ⟨k + 1, z, by omega, by go_num, rfl, HN3, hbn⟩ | ((repeat apply Exists.intro); exact ⟨⟨k + 1, z, by omega, by go_num, rfl, HN3, hbn⟩, rfl⟩)
          case measure => simp [intOf]; omega
        · have hcc : ¬ (s : Int) < (z : Int) := by omega
          have HN2 := HN.out
          rw [Nat.max_eq_left (show z ≤ s by omega)] at HN2
          have HN3 := Lib.hid HN2
          clear HN HN2
          go_wp2_with fail
          go_roundw
          case rel => first | exact ⟨k + 1, s, by omega, by go_num, rfl, HN3, hbn⟩ | ((repeat apply Exists.intro); exact ⟨⟨k + 1, s, by omega, by go_num, rfl, HN3, hbn⟩, rfl⟩)
          case measure => simp [intOf]; omega
      · obtain rfl : k = l.length := by omega
        have HN : Hid (R = s) := Lib.hid (by rw [HI.out, List.drop_length]; exact Nat.max_zero s)
        have hsb : (s : Int) ≤ 1000000 := by have := HN.out; have := HB.out; omega
        go_wp2_with fail
        go_ret
        exact ⟨ret_int (by rw [HRR.out, HN.out]; omega), hbw⟩
set_option maxRecDepth 100000 in
set_option maxHeartbeats 4000000 in
theorem rcdepth_any {m : Nat} : ∀ (n : Nat) (c : Z.Co m n) (a : Z.CN m) (u dv sv : Value) (w : World), CV w n c ⟨a, u, dv, sv⟩ → Z.CSm n c → Calls Tryd.prog 29 #[.agg #[.int .u8 a.k, .string a.fr, .string a.tu, .string a.nm, .int .u8 a.ex.top.k, .string a.ex.top.rat, .string a.ex.top.name, .int .i64 a.ex.top.date, u, .int .i64 a.date, dv, sv]] w fun e w' => e = .returned (.int .i64 (Z.coDepth n c : Nat)) ∧ Below w.heap.size w w' := by
  intro n
  induction n with
  | zero => intro c; exact c.no
  | succ n ih =>
    intro c a u dv sv w hc hsm
    have HKS := Lib.hid hc.shape
    obtain ⟨rfl, hX, hD, hS⟩ := hc.open_
    obtain ⟨⟨Au, ku, cu, rfl⟩, ⟨Ad, kd, cd, rfl⟩, _⟩ := HKS.out
    obtain ⟨A, cp, rfl, hlc, hcm⟩ := hS.shape
    unfold maxLen at hcm
    have hb0 := (Below.refl _ w).alloc (Nat.le_refl w.heap.size) (.cells #[.int .u8 c.top.k, .string c.top.fr, .string c.top.tu, .string c.top.nm, .int .u8 c.top.ex.top.k, .string c.top.ex.top.rat, .string c.top.ex.top.name, .int .i64 c.top.ex.top.date, .slice Au ku cu, .int .i64 c.top.date, .slice Ad kd cd, .slice A c.sub.length cp] 29)
    have BX := Blk.new w 29 #[.int .u8 c.top.k, .string c.top.fr, .string c.top.tu, .string c.top.nm, .int .u8 c.top.ex.top.k, .string c.top.ex.top.rat, .string c.top.ex.top.name, .int .i64 c.top.ex.top.date, .slice Au ku cu, .int .i64 c.top.date, .slice Ad kd cd, .slice A c.sub.length cp]
    have HS := Lib.hid (CS.below hb0 hS)
    have HX := Lib.hid (XV.below hb0 (m + 1) hX)
    have HSUB := Lib.hid hsm.sub
    have HES := Lib.hid hsm.top.ex
    have hsz := Z.CSm.depth hsm
    have hb1 : max (Z.exD c.top.ex) (Z.maxL (Z.coDepth n) (c.sub.drop 0)) ≤ 1000000 := by rw [List.drop_zero]; rw [Z.coDepth] at hsz; omega
    obtain ⟨R, hR⟩ : ∃ R, R = (max (Z.exD c.top.ex) (Z.maxL (Z.coDepth n) (c.sub.drop 0))) := ⟨_, rfl⟩
    have HR : Hid (R = max (Z.exD c.top.ex) (Z.maxL (Z.coDepth n) (c.sub.drop 0))) := Lib.hid hR
    have HRR : Hid (Z.coDepth (n + 1) c = R + 1) := Lib.hid (by rw [hR]; rw [List.drop_zero]; rfl)
    have HB : Hid (R ≤ 1000000) := Lib.hid (by rw [hR]; exact hb1)
    generalize Z.coDepth (n + 1) c = RR at *
    clear hR hsz hb1 hsm hc hX hD hS HKS
    generalize c.sub = l at *
    generalize c.top = t at *
    have c4 := BX.cell 4
    have c5 := BX.cell 5
    have c6 := BX.cell 6
    have c7 := BX.cell 7
    have c8 := BX.cell 8
    have c11 := BX.cell 11
    have HBR := Lib.hid (rbare_any m t.ex (.slice Au ku cu) _ HX.out)
    go_enter Tryd.func29, Tryd.ntmps29
    go_wp2_with fail
    generalize (w.alloc (.cells #[.int .u8 t.k, .string t.fr, .string t.tu, .string t.nm, .int .u8 t.ex.top.k, .string t.ex.top.rat, .string t.ex.top.name, .int .i64 t.ex.top.date, .slice Au ku cu, .int .i64 t.date, .slice Ad kd cd, .slice A l.length cp] 29)) = W0 at *
    refine HBR.out.mono ?_
    rintro e W2 ⟨rfl, hb2⟩
    have BX2 := BX.below hb2
    have h02 := hb0.trans (hb2.mono hb0.size)
    clear HBR c4 c5 c6 c7 c8 c11
    have c4 := BX2.cell 4
    have c5 := BX2.cell 5
    have c6 := BX2.cell 6
    have c7 := BX2.cell 7
    have c8 := BX2.cell 8
    have c11 := BX2.cell 11
    obtain ⟨b, hb⟩ : ∃ b, b = Z.bareX t.ex := ⟨_, rfl⟩
    have HE0 : Hid (b = true → Z.exD t.ex = 0) := Lib.hid (fun h => by unfold Z.exD; rw [← hb, if_pos h])
    have HE1 : Hid (b = false → Z.exD t.ex = Z.exDepth (m + 1) t.ex) := Lib.hid (fun h => by unfold Z.exD; rw [← hb, h]; rfl)
    rw [← hb]
    clear hb
    have HX2 := Lib.hid (XV.below hb2 (m + 1) HX.out)
    generalize Z.exD t.ex = z0 at *
    go_upto_if 8 with fail
    go_cut [3] (fun sv wx => sv = .int .i64 ((z0 : Nat) : Int) ∧ Below W2.heap.size W2 wx)
    case first =>
      cases b
      · have hz0 := HE1.out rfl
        have HSZ := Lib.hid (rxdepth_any (m + 1) t.ex t.ex.top (.slice Au ku cu) W2 HX2.out (by have := HES.out.1; have := Z.exDepth_le (m + 1) t.ex; omega))
        rw [← hz0] at HSZ
        have hzb : (z0 : Int) ≤ 1000000 := by have := HES.out.1; have := Z.exDepth_le (m + 1) t.ex; omega
        clear hz0 HE0 HE1
        go_wp2_with fail
        refine HSZ.out.mono ?_
        rintro e W3 ⟨rfl, hb3⟩
        go_wp2_with fail
        go_meet
        exact ⟨by go_num, hb3⟩
      · have hz0 := HE0.out rfl
        subst hz0
        go_wp2_with fail
        go_meet
        exact ⟨rfl, Below.refl _ _⟩
    case rest =>
    obtain ⟨rfl, hb3⟩ := hcut
    rename World => W3
    have BX3 := BX2.below hb3
    have h03 := h02.trans (hb3.mono h02.size)
    have HS3 := Lib.hid (CS.below hb3 (CS.below hb2 HS.out))
    have c11 := BX3.cell 11
    clear c4 c5 c6 c7 c8 HE0 HE1 HX2 HX hb3 hb2 BX2 BX h02 hb0
    go_wp2_with fail
    go_loopw [3, 4] (fun sv iv wr => ∃ (k s : Nat), k ≤ l.length ∧ iv = .int .i64 k ∧ sv = .int .i64 s ∧ Hid (R = max s (Z.maxL (Z.coDepth n) (l.drop k))) ∧ Below W3.heap.size W3 wr) (fun _ iv _ => l.length - (intOf iv).toNat)
    case atStart => exact ⟨0, _, by omega, rfl, rfl, HR, Below.refl _ _⟩
    case round =>
      obtain ⟨k, s, hk, rfl, rfl, HI, hbr⟩ := hrel
      clear HR
      have hbw := h03.trans (hbr.mono h03.size)
      have c11 := (BX3.below hbr).cell 11
      by_cases hlt : k < l.length
      · have hz : l[k]? = some l[k] := List.getElem?_eq_getElem hlt
        obtain ⟨b, o, ax, ux, dx, sx, rfl, hbl, q0, q1, q2, q3, q4, q5, q6, q7, q8, q9, q10, q11, hv⟩ := CS.cells (CS.below hbr HS3.out) hz
        have HD := Lib.hid (Z.maxL_drop (f := (Z.coDepth n)) hz)
        have HY := Lib.hid (HSUB.out _ (List.mem_of_getElem? hz))
        clear hz
        generalize l[k] = y at *
        have hi0 : (0 : Int) ≤ (k : Int) := by omega
        have hi1 : (k : Int) < (l.length : Int) := by omega
        have HC := Lib.hid (ih y ax ux dx sx wr hv HY.out)
        clear hv ih
        generalize Z.coDepth n y = z at *
        have HN : Hid (R = max (max s z) (Z.maxL (Z.coDepth n) (l.drop (k + 1)))) := Lib.hid (by rw [HI.out, HD.out]; omega)
        clear HI HD
        go_wp2_with fail
        refine HC.out.mono ?_
        rintro e W1 ⟨rfl, hb⟩
        have hbn := hbr.trans (hb.mono hbr.size)
        clear HC hb q0 q1 q2 q3 q4 q5 q6 q7 q8 q9 q10 q11 hbw
        by_cases hsz : s < z
        · have hcc : (s : Int) < (z : Int) := by omega
          have HN2 := HN.out
          rw [Nat.max_eq_right (Nat.le_of_lt hsz)] at HN2
          have HN3 := Lib.hid HN2
          clear HN HN2
          go_wp2_with fail
          go_roundw
          case rel => first | exact ⟨k + 1, z, by omega, by go_num, rfl, HN3, hbn⟩ | ((repeat apply Exists.intro); exact ⟨⟨k + 1, z, by omega, by go_num, rfl, HN3, hbn⟩, rfl⟩)
          case measure => simp [intOf]; omega
        · have hcc : ¬ (s : Int) < (z : Int) := by omega
          have HN2 := HN.out
          rw [Nat.max_eq_left (show z ≤ s by omega)] at HN2
          have HN3 := Lib.hid HN2
          clear HN HN2
          go_wp2_with fail
          go_roundw
          case rel => first | exact ⟨k + 1, s, by omega, by go_num, rfl, HN3, hbn⟩ | ((repeat apply Exists.intro); exact ⟨⟨k + 1, s, by omega, by go_num, rfl, HN3, hbn⟩, rfl⟩)
          case measure => simp [intOf]; omega
      · obtain rfl : k = l.length := by omega
        have HN : Hid (R = s) := Lib.hid (by rw [HI.out, List.drop_length]; exact Nat.max_zero s)
        have hsb : (s : Int) ≤ 1000000 := by have := HN.out; have := HB.out; omega
        go_wp2_with fail
        go_ret
        exact ⟨ret_int (by rw [HRR.out, HN.out]; omega), hbw⟩
end Go.Proofs.YtifafmomkpkgdaaDoor
