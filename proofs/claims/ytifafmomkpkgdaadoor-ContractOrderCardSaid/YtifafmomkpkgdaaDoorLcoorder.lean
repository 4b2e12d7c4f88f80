/-
  The lists of parties and currencies are in strictly increasing order, consist of names, and hold the parties of all parts (a tied card: the tables of kinds lie as the text says).
-/
import Derived.Test.YtifafmomkpkgdaaDoorRows
import Derived.Test.YtifafmomkpkgdaaDoorOal
import Derived.Test.YtifafmomkpkgdaaDoorOopn
import Derived.Test.YtifafmomkpkgdaaDoorZco
import Derived.HandedShaped
import Derived.Test.YtifafmomkpkgdaaDoorCards
import Derived.Test.YtifafmomkpkgdaaDoorTie
import Derived.Test.YtifafmomkpkgdaaDoorOlay
import Derived.SevenTiedAt
import Derived.ProofKit
import Derived.OpenShut
import Derived.ShutString
namespace Go.Proofs.YtifafmomkpkgdaaDoor.lawOrder
open Go.ChangeShapes Go.WideShapes Go.ChangeAt Go.RowKit
open Go.ChangeMaps (open_string shut_string)

set_option maxRecDepth 100000 in
set_option maxHeartbeats 2000000 in
theorem walk (F : Nat) (c : Z.Co (F + 1) (F + 1 + 1)) (r : CR (F + 1)) (w : World) (hc : CV w (F + 1 + 1) c r) (hle : Z.CLe 140737488355328 (F + 1 + 1) c) (hV : HasV w) (hL : Lay w) :
    Calls Tryd.prog 7 #[.agg r.vs.toArray] w fun e w' => e = .returned (.bool true) ∧ Below w.heap.size w w' := by
  obtain ⟨t, u, dv, sv⟩ := r
  obtain ⟨Au, ku, cu, rfl⟩ := hc.shape.1
  obtain ⟨Ad, kd, cd, rfl⟩ := hc.shape.2.1
  obtain ⟨As, cs, hsv, hlc, hcm⟩ := Dp.shape hc.2.2.2.2
  simp only at hsv
  subst hsv
  unfold maxLen at hcm
  have HC := Lib.hid hc
  have HS := Lib.hid hc.open_.2.2.2
  obtain rfl : t = c.top := hc.1
  have HG := Lib.hid (fun W (h : Below w.heap.size w W) => cgreat_any (F + 1) c c.top _ _ _ W (CV.below h _ hc) hle)
  have HA := Lib.hid (fun W (h : Below w.heap.size w W) => lalive_any W (hL.below h) (hV.below h))
  have HLL := Lib.hid (fun W (h : Below w.heap.size w W) => hL.below h)
  have HVV := Lib.hid (fun W (h : Below w.heap.size w W) => hV.below h)
  have HSM := Lib.hid (fun h => Z.coG_sm (n := F + 1 + 1) (c := c) h)
  have HVS : Hid (CR.vs (m := F + 1) ⟨c.top, .slice Au ku cu, .slice Ad kd cd, .slice As c.sub.length cs⟩ = [.int .u8 c.top.k, .string c.top.fr, .string c.top.tu, .string c.top.nm, .int .u8 c.top.ex.top.k, .string c.top.ex.top.rat, .string c.top.ex.top.name, .int .i64 c.top.ex.top.date, .slice Au ku cu, .int .i64 c.top.date, .slice Ad kd cd, .slice As c.sub.length cs]) := Lib.hid rfl
  rw [HVS.out]
  clear hc hV hL hle HVS
  have hb0 := (Below.refl _ w).alloc (Nat.le_refl w.heap.size) (.cells #[.int .u8 c.top.k, .string c.top.fr, .string c.top.tu, .string c.top.nm, .int .u8 c.top.ex.top.k, .string c.top.ex.top.rat, .string c.top.ex.top.name, .int .i64 c.top.ex.top.date, .slice Au ku cu, .int .i64 c.top.date, .slice Ad kd cd, .slice As c.sub.length cs] 29)
  have BX := Blk.new w 29 #[.int .u8 c.top.k, .string c.top.fr, .string c.top.tu, .string c.top.nm, .int .u8 c.top.ex.top.k, .string c.top.ex.top.rat, .string c.top.ex.top.name, .int .i64 c.top.ex.top.date, .slice Au ku cu, .int .i64 c.top.date, .slice Ad kd cd, .slice As c.sub.length cs]
  have HP := Lib.hid (fun W (h : Below w.heap.size w W) hs => cparties_any (F + 1) c ⟨c.top, .slice Au ku cu, .slice Ad kd cd, .slice As c.sub.length cs⟩ W (CV.below h _ HC.out) (HLL.out W h) (HVV.out W h) hs)
  have HM := Lib.hid (fun W (h : Below w.heap.size w W) hs => cmoneys_any (F + 1) c ⟨c.top, .slice Au ku cu, .slice Ad kd cd, .slice As c.sub.length cs⟩ W (CV.below h _ HC.out) (HLL.out W h) (HVV.out W h) hs)
  unfold CR.ag at HP HM
  simp only at HP HM
  have HPW : Hid (Z.wordsL Z.pw (F + 1 + 1) c = if Z.coE (F + 1 + 1) c = 0 then Z.uniqW (Z.allW Z.pw (F + 1 + 1) c) else []) := Lib.hid rfl
  have HMW : Hid (Z.wordsL Z.mw (F + 1 + 1) c = if Z.coE (F + 1 + 1) c = 0 then Z.uniqW (Z.allW Z.mw (F + 1 + 1) c) else []) := Lib.hid rfl
  have HPN : Hid (Z.coE (F + 1 + 1) c = 0 → ∀ x ∈ Z.uniqW (Z.allW Z.pw (F + 1 + 1) c), Z.nameB (Z.ofW x) = true) := Lib.hid (fun h => Z.allW_names Z.pw_names h)
  have HMN : Hid (Z.coE (F + 1 + 1) c = 0 → ∀ x ∈ Z.uniqW (Z.allW Z.mw (F + 1 + 1) c), Z.nameB (Z.ofW x) = true) := Lib.hid (fun h => Z.allW_names Z.mw_names h)
  have HPA := Lib.hid (Z.uniqW_asc (Z.allW Z.pw (F + 1 + 1) c))
  have HMA := Lib.hid (Z.uniqW_asc (Z.allW Z.mw (F + 1 + 1) c))
  have HOWN := Lib.hid (Z.words_parts Z.pw (F + 1) c)
  have HSE : Hid (Z.coE (F + 1 + 1) c = 0 → ∀ x ∈ c.sub, Z.coE (F + 1) x = 0) := Lib.hid (fun h => Z.coE_sub h)
  have HSS : Hid (Z.CSm (F + 1 + 1) c → ∀ x ∈ c.sub, Z.CSm (F + 1) x) := Lib.hid (fun h => h.sub)
  have HPL : Hid (Z.CSm (F + 1 + 1) c → (Z.uniqW (Z.allW Z.pw (F + 1 + 1) c)).length ≤ 1200) := Lib.hid (fun h => Z.words_len Z.pw_len h)
  have HML : Hid (Z.CSm (F + 1 + 1) c → (Z.uniqW (Z.allW Z.mw (F + 1 + 1) c)).length ≤ 1200) := Lib.hid (fun h => Z.words_len Z.mw_len h)
  have HSL : Hid (Z.CSm (F + 1 + 1) c → c.sub.length ≤ 600) := Lib.hid (fun h => h.len)
  generalize Z.wordsL Z.pw (F + 1 + 1) c = lp at *
  generalize Z.wordsL Z.mw (F + 1 + 1) c = lm at *
  generalize Z.uniqW (Z.allW Z.pw (F + 1 + 1) c) = up at *
  generalize Z.uniqW (Z.allW Z.mw (F + 1 + 1) c) = um at *
  generalize Z.coE (F + 1 + 1) c = E at *
  generalize c.sub = l at *
  generalize Z.coG (F + 1 + 1) c = G at *
  generalize c.top = t at *
  have z0 := BX.cell 0
  have z1 := BX.cell 1
  have z2 := BX.cell 2
  have z3 := BX.cell 3
  have z4 := BX.cell 4
  have z5 := BX.cell 5
  have z6 := BX.cell 6
  have z7 := BX.cell 7
  have z8 := BX.cell 8
  have z9 := BX.cell 9
  have z10 := BX.cell 10
  have z11 := BX.cell 11
  go_enter Tryd.func7, Tryd.ntmps7
  go_wp2_with fail
  refine (HA.out _ hb0).mono ?_
  rintro e W1 ⟨rfl, hb⟩
  have h1 := hb0.trans (hb.mono hb0.size)
  have BX := BX.below hb
  clear z0 z1 z2 z3 z4 z5 z6 z7 z8 z9 z10 z11 hb HA hb0
  have z0 := BX.cell 0
  have z1 := BX.cell 1
  have z2 := BX.cell 2
  have z3 := BX.cell 3
  have z4 := BX.cell 4
  have z5 := BX.cell 5
  have z6 := BX.cell 6
  have z7 := BX.cell 7
  have z8 := BX.cell 8
  have z9 := BX.cell 9
  have z10 := BX.cell 10
  have z11 := BX.cell 11
  go_wp2_with fail
  refine (HG.out W1 h1).mono ?_
  rintro e W2 ⟨rfl, hb⟩
  have h2 := h1.trans (hb.mono h1.size)
  have BX := BX.below hb
  clear z0 z1 z2 z3 z4 z5 z6 z7 z8 z9 z10 z11 hb HG h1
  have z0 := BX.cell 0
  have z1 := BX.cell 1
  have z2 := BX.cell 2
  have z3 := BX.cell 3
  have z4 := BX.cell 4
  have z5 := BX.cell 5
  have z6 := BX.cell 6
  have z7 := BX.cell 7
  have z8 := BX.cell 8
  have z9 := BX.cell 9
  have z10 := BX.cell 10
  have z11 := BX.cell 11
  rcases G with _ | _
  rotate_left
  · go_wp2_with fail
    go_ret
    exact ⟨rfl, h2⟩
  have hs := HSM.out rfl
  go_wp2_with fail
  refine (HP.out W2 h2 hs).mono ?_
  rintro e W3 ⟨v, rfl, hO, hb⟩
  obtain ⟨Alp, clp, rfl⟩ := OL.shape hO
  have h3 := h2.trans (hb.mono h2.size)
  have BX := BX.below hb
  have Hlp := Lib.hid (OL.mono hO h2.size)
  clear z0 z1 z2 z3 z4 z5 z6 z7 z8 z9 z10 z11 hb HP h2 hO
  have z0 := BX.cell 0
  have z1 := BX.cell 1
  have z2 := BX.cell 2
  have z3 := BX.cell 3
  have z4 := BX.cell 4
  have z5 := BX.cell 5
  have z6 := BX.cell 6
  have z7 := BX.cell 7
  have z8 := BX.cell 8
  have z9 := BX.cell 9
  have z10 := BX.cell 10
  have z11 := BX.cell 11
  go_wp2_with fail
  refine (HM.out W3 h3 hs).mono ?_
  rintro e W4 ⟨v, rfl, hO, hb⟩
  obtain ⟨Alm, clm, rfl⟩ := OL.shape hO
  have h4 := h3.trans (hb.mono h3.size)
  have BX := BX.below hb
  have Hlp := Lib.hid (OL.below Hlp.out hb)
  have Hlm := Lib.hid (OL.mono hO h3.size)
  clear z0 z1 z2 z3 z4 z5 z6 z7 z8 z9 z10 z11 hb HM h3 hO
  by_cases hE : E = 0
  rotate_left
  · have e1 : lp = [] := HPW.out.trans (if_neg hE)
    have e2 : lm = [] := HMW.out.trans (if_neg hE)
    subst e1 e2
    have hE' : (E == 0) = false := by rw [beq_eq_false_iff_ne]; exact hE
    have hz : (([] : List Z.BS).length : Int) = 0 := rfl
    clear hE
    go_wp2_with fail
    go_ret
    exact ⟨rfl, h4⟩
  subst hE
  obtain rfl : lp = up := HPW.out.trans (if_pos rfl)
  obtain rfl : lm = um := HMW.out.trans (if_pos rfl)
  replace HPN := Lib.hid (HPN.out rfl)
  replace HMN := Lib.hid (HMN.out rfl)
  replace HSE := Lib.hid (HSE.out rfl)
  replace HSS := Lib.hid (HSS.out hs)
  replace HPL := Lib.hid (HPL.out hs)
  replace HML := Lib.hid (HML.out hs)
  replace HSL := Lib.hid (HSL.out hs)
  clear HPW HMW HSM hs
  go_wp2_with fail
  go_loopw [8] (fun iv wr => ∃ k : Nat, k ≤ lp.length ∧ iv = .int .i64 k ∧ Below W4.heap.size W4 wr) (fun iv _ => lp.length - (intOf iv).toNat)
  case atStart => exact ⟨0, by omega, rfl, Below.refl _ _⟩
  case round =>
    obtain ⟨k, hk, rfl, hbr⟩ := hrel
    by_cases hlt : k < lp.length
    · have hz : lp[k]? = some lp[k] := List.getElem?_eq_getElem hlt
      obtain ⟨b, o, hA, hbl, q0⟩ := SL.cell1 (OL.sl bE_len (OL.below Hlp.out hbr)) hz rfl
      subst hA
      have hi0 : (0 : Int) ≤ (k : Int) := by omega
      have hi1 : (k : Int) < (lp.length : Int) := by omega
      have hll := HPL.out
      have hn := HPN.out _ (List.mem_of_getElem? hz)
      have y0 : ∀ q : Ab wr, q.1.cell? ⟨b, o + k, none⟩ = some (.string (Z.ofW lp[k])) := fun q => q.cell q0 hbl
      have HW := Lib.hid (fun q : Ab wr => name_any (Z.ofW lp[k]) q.1 (by have := Z.nameB_le hn; unfold maxLen; omega))
      rw [hn] at HW
      cases k with
      | zero =>
        rw [Nat.add_zero] at y0
        clear hz q0 hn
        generalize lp[0] = d at *
        go_upto_region 11 with fail
        refine wp_region_above (by kernel_rfl) (by kernel_rfl) ?_
        repeat (go_big_quiet_step (first | (go_at_call 15; with_reducible exact Ab.same (HW.out _))))
        refine wpQuiet_nil ?_
        rintro _ ⟨q', rfl⟩
        have hbn := hbr.trans (q'.2.mono hbr.size)
        clear y0
        go_wp2_with fail
        go_roundw
        case rel => exact ⟨0 + 1, by omega, by go_num, hbn⟩
        case measure => simp [intOf]; omega
      | succ k =>
        have hy : lp[k]? = some lp[k] := List.getElem?_eq_getElem (by omega : k < lp.length)
        have hlt2 := Z.ltW lp[k] lp[k + 1]
        rw [decide_eq_true (List.pairwise_iff_getElem.1 HPA.out k (k + 1) (by omega) hlt (by omega))] at hlt2
        obtain ⟨b', o', he, _, q1⟩ := SL.cell1 (OL.sl bE_len (OL.below Hlp.out hbr)) hy rfl
        obtain ⟨rfl, rfl⟩ : b = b' ∧ o = o' := by simpa using he
        have y1 : ∀ q : Ab wr, q.1.cell? ⟨b, o + k, none⟩ = some (.string (Z.ofW lp[k])) := fun q => q.cell q1 hbl
        have hi2 : (0 : Int) ≤ (k : Int) := by omega
        have hi3 : (k : Int) < (lp.length : Int) := by omega
        have hi4 : (k : Int) + 1 > 0 := by omega
        have hi4' : decide ((k : Int) + 1 > 0) = true := decide_eq_true hi4
        have hi6 : decide ((0 : Int) < (k : Int) + 1) = true := decide_eq_true (by omega)
        have hi5 : ((k : Int) + 1) - 1 = k := by omega
        clear hz hy he q0 q1 hn
        generalize lp[k + 1] = d at *
        generalize lp[k] = e at *
        go_upto_region 11 with fail
        refine wp_region_above (by kernel_rfl) (by kernel_rfl) ?_
        repeat (go_big_quiet_step (first | (go_at_call 15; with_reducible exact Ab.same (HW.out _))))
        refine wpQuiet_nil ?_
        rintro _ ⟨q', rfl⟩
        have hbn := hbr.trans (q'.2.mono hbr.size)
        clear y0 y1
        go_wp2_with fail
        go_roundw
        case rel => exact ⟨(k + 1) + 1, by omega, by go_num, hbn⟩
        case measure => simp [intOf]; omega
    · obtain rfl : k = lp.length := by omega
      have h5 := h4.trans (hbr.mono h4.size)
      have Hlp := Lib.hid (OL.below Hlp.out hbr)
      have Hlm := Lib.hid (OL.below Hlm.out hbr)
      have BX := BX.below hbr
      clear hbr hk hlt h4
      generalize wr = W5 at *
      go_wp2_with fail
      go_loopw [9] (fun iv wr => ∃ k : Nat, k ≤ lm.length ∧ iv = .int .i64 k ∧ Below W5.heap.size W5 wr) (fun iv _ => lm.length - (intOf iv).toNat)
      case atStart => exact ⟨0, by omega, rfl, Below.refl _ _⟩
      case round =>
        obtain ⟨k, hk, rfl, hbr⟩ := hrel
        by_cases hlt : k < lm.length
        · have hz : lm[k]? = some lm[k] := List.getElem?_eq_getElem hlt
          obtain ⟨b, o, hA, hbl, q0⟩ := SL.cell1 (OL.sl bE_len (OL.below Hlm.out hbr)) hz rfl
          subst hA
          have hi0 : (0 : Int) ≤ (k : Int) := by omega
          have hi1 : (k : Int) < (lm.length : Int) := by omega
          have hll := HML.out
          have hn := HMN.out _ (List.mem_of_getElem? hz)
          have y0 : ∀ q : Ab wr, q.1.cell? ⟨b, o + k, none⟩ = some (.string (Z.ofW lm[k])) := fun q => q.cell q0 hbl
          have HW := Lib.hid (fun q : Ab wr => name_any (Z.ofW lm[k]) q.1 (by have := Z.nameB_le hn; unfold maxLen; omega))
          rw [hn] at HW
          cases k with
          | zero =>
            rw [Nat.add_zero] at y0
            clear hz q0 hn
            generalize lm[0] = d at *
            go_upto_region 16 with fail
            refine wp_region_above (by kernel_rfl) (by kernel_rfl) ?_
            repeat (go_big_quiet_step (first | (go_at_call 15; with_reducible exact Ab.same (HW.out _))))
            refine wpQuiet_nil ?_
            rintro _ ⟨q', rfl⟩
            have hbn := hbr.trans (q'.2.mono hbr.size)
            clear y0
            go_wp2_with fail
            go_roundw
            case rel => exact ⟨0 + 1, by omega, by go_num, hbn⟩
            case measure => simp [intOf]; omega
          | succ k =>
            have hy : lm[k]? = some lm[k] := List.getElem?_eq_getElem (by omega : k < lm.length)
            have hlt2 := Z.ltW lm[k] lm[k + 1]
            rw [decide_eq_true (List.pairwise_iff_getElem.1 HMA.out k (k + 1) (by omega) hlt (by omega))] at hlt2
            obtain ⟨b', o', he, _, q1⟩ := SL.cell1 (OL.sl bE_len (OL.below Hlm.out hbr)) hy rfl
            obtain ⟨rfl, rfl⟩ : b = b' ∧ o = o' := by simpa using he
            have y1 : ∀ q : Ab wr, q.1.cell? ⟨b, o + k, none⟩ = some (.string (Z.ofW lm[k])) := fun q => q.cell q1 hbl
            have hi2 : (0 : Int) ≤ (k : Int) := by omega
            have hi3 : (k : Int) < (lm.length : Int) := by omega
            have hi4 : (k : Int) + 1 > 0 := by omega
            have hi4' : decide ((k : Int) + 1 > 0) = true := decide_eq_true hi4
            have hi6 : decide ((0 : Int) < (k : Int) + 1) = true := decide_eq_true (by omega)
            have hi5 : ((k : Int) + 1) - 1 = k := by omega
            clear hz hy he q0 q1 hn
            generalize lm[k + 1] = d at *
            generalize lm[k] = e at *
            go_upto_region 16 with fail
            refine wp_region_above (by kernel_rfl) (by kernel_rfl) ?_
            repeat (go_big_quiet_step (first | (go_at_call 15; with_reducible exact Ab.same (HW.out _))))
            refine wpQuiet_nil ?_
            rintro _ ⟨q', rfl⟩
            have hbn := hbr.trans (q'.2.mono hbr.size)
            clear y0 y1
            go_wp2_with fail
            go_roundw
            case rel => exact ⟨(k + 1) + 1, by omega, by go_num, hbn⟩
            case measure => simp [intOf]; omega
        · obtain rfl : k = lm.length := by omega
          have h6 := h5.trans (hbr.mono h5.size)
          have Hlp := Lib.hid (OL.below Hlp.out hbr)
          have Hlm := Lib.hid (OL.below Hlm.out hbr)
          have BX := BX.below hbr
          clear hbr hk hlt h5
          generalize wr = W6 at *
          have HOW : Hid (l.foldl (fun o x => (Z.uniqW (Z.allW Z.pw (F + 1) x)).foldl Z.withB o) (if Z.ne0 t.tu = true then Z.withB (if Z.ne0 t.fr = true then Z.withB [] (Z.bytesW t.fr) else []) (Z.bytesW t.tu) else (if Z.ne0 t.fr = true then Z.withB [] (Z.bytesW t.fr) else [])) = lp) := Lib.hid (by rw [← Z.pw_fold]; exact HOWN.out)
          clear HOWN
          have hO0 : OB (W6.alloc (.cells #[] 9)) W6.heap.size (.slice (some ⟨W6.heap.size, 0, none⟩) 0 0) [] := OL.lit0 W6
          have h7 := h6.alloc h6.size (.cells #[] 9)
          have BX7 := BX.alloc (.cells #[] 9)
          have Hlp7 := Lib.hid (OL.alloc Hlp.out (.cells #[] 9))
          have hO1 := OL.mono hO0 h6.size
          obtain ⟨o1, ho1⟩ : ∃ o1, o1 = (if Z.ne0 t.fr = true then Z.withB [] (Z.bytesW t.fr) else []) := ⟨_, rfl⟩
          obtain ⟨o2, ho2⟩ : ∃ o2, o2 = (if Z.ne0 t.tu = true then Z.withB o1 (Z.bytesW t.tu) else o1) := ⟨_, rfl⟩
          rw [← ho1, ← ho2] at HOW
          have HO1 := Lib.hid ho1
          have HO2 := Lib.hid ho2
          clear ho1 ho2 hO0 BX h6
          have ef := Z.isE t.fr
          have et := Z.isE t.tu
          have HNF : Hid (Z.ne0 t.fr = !decide (t.fr = Z.e0)) := Lib.hid rfl
          have HNT : Hid (Z.ne0 t.tu = !decide (t.tu = Z.e0)) := Lib.hid rfl
          generalize decide (t.fr = Z.e0) = bf at *
          generalize decide (t.tu = Z.e0) = bt at *
          have z1 := BX7.cell 1
          go_upto_if 109 with fail
          generalize (W6.alloc (.cells #[] 9)) = W7 at *
          generalize W6.heap.size = b6 at *
          go_cut [10] (fun ov wx => OB wx w.heap.size ov o1 ∧ Below W7.heap.size W7 wx)
          case first =>
            rcases bf with _ | _
            rotate_left
            · have HE1 : Hid (o1 = []) := Lib.hid (by rw [HO1.out, HNF.out]; rfl)
              go_wp2_with fail
              go_meet
              exact ⟨by rw [HE1.out]; exact hO1, Below.refl _ _⟩
            · have e1 : o1 = Z.withB [] (Z.bytesW t.fr) := by rw [HO1.out, HNF.out]; rfl
              have HWI := Lib.hid (rwith_any (.slice (some ⟨b6, 0, none⟩) 0 0) [] (Z.bytesW t.fr) W7 (hO1.sl bE_len) (by simp))
              rw [Z.ofW_bytes, ← e1] at HWI
              clear e1
              go_wp2_with fail
              refine HWI.out.mono ?_
              rintro e W8 ⟨v8, rfl, hO8, hb⟩
              have HO8 := Lib.hid (OL.mono hO8 h7.size)
              clear hO8 HWI
              go_wp2_with fail
              go_meet
              exact ⟨HO8.out, hb⟩
          case rest =>
          obtain ⟨hO8, hb8⟩ := hcut
          rename World => W8
          have h8 := h7.trans (hb8.mono h7.size)
          have BX8 := BX7.below hb8
          have Hlp8 := Lib.hid (OL.below Hlp7.out hb8)
          have HO8 := Lib.hid hO8
          clear z1 ef hO1 BX7 Hlp7 hb8 h7 hO8
          have z2 := BX8.cell 2
          go_upto_if 116 with fail
          go_cut [10] (fun ov wx => OB wx w.heap.size ov o2 ∧ Below W8.heap.size W8 wx)
          case first =>
            rcases bt with _ | _
            rotate_left
            · have HE1 : Hid (o2 = o1) := Lib.hid (by rw [HO2.out, HNT.out]; rfl)
              go_wp2_with fail
              go_meet
              exact ⟨by rw [HE1.out]; exact HO8.out, Below.refl _ _⟩
            · have e1 : o2 = Z.withB o1 (Z.bytesW t.tu) := by rw [HO2.out, HNT.out]; rfl
              have HL1 : Hid (o1.length ≤ 10000) := Lib.hid (by
                rw [HO1.out]
                split
                · have := Z.withB_len (Z.bytesW t.fr) []
                  simp only [List.length_nil] at this
                  omega
                · simp)
              have HWI := Lib.hid (rwith_any _ o1 (Z.bytesW t.tu) W8 (HO8.out.sl bE_len) HL1.out)
              rw [Z.ofW_bytes, ← e1] at HWI
              clear e1
              go_wp2_with fail
              refine HWI.out.mono ?_
              rintro e W9 ⟨v9, rfl, hO9, hb⟩
              have HO9 := Lib.hid (OL.mono hO9 h8.size)
              clear hO9 HWI
              go_wp2_with fail
              go_meet
              exact ⟨HO9.out, hb⟩
          case rest =>
          obtain ⟨hO9, hb9⟩ := hcut
          rename World => W9
          have h9 := h8.trans (hb9.mono h8.size)
          have BX9 := BX8.below hb9
          have Hlp9 := Lib.hid (OL.below Hlp8.out hb9)
          have HO9 := Lib.hid hO9
          have HCUM : Hid (∀ k, ((l.take k).foldl (fun o x => (Z.uniqW (Z.allW Z.pw (F + 1) x)).foldl Z.withB o) o2).length ≤ 4000) := Lib.hid (fun k => by
            have h1 := Z.foldU_cum (fun x => Z.uniqW (Z.allW Z.pw (F + 1) x)) l o2 (by rw [HO2.out, HO1.out, ← Z.pw_fold]; exact Z.foldW_asc _ _ List.Pairwise.nil) k
            rw [HOW.out] at h1
            have := HPL.out
            omega)
          clear z2 et BX8 Hlp8 hb9 h8 hO9 HO8
          go_wp2_with fail
          go_loopw [10, 11] (fun ov iv wr => ∃ k : Nat, k ≤ l.length ∧ iv = .int .i64 k ∧ Hid (OB wr w.heap.size ov ((l.take k).foldl (fun o x => (Z.uniqW (Z.allW Z.pw (F + 1) x)).foldl Z.withB o) o2)) ∧ Below W9.heap.size W9 wr) (fun _ iv _ => l.length - (intOf iv).toNat)
          case atStart => exact ⟨0, by omega, rfl, HO9, Below.refl _ _⟩
          case round =>
            obtain ⟨k, hk, rfl, hO, hbr⟩ := hrel
            have hwr := h9.trans (hbr.mono h9.size)
            have BXr := BX9.below hbr
            have z0 := BXr.cell 0
            have z1 := BXr.cell 1
            have z2 := BXr.cell 2
            have z3 := BXr.cell 3
            have z4 := BXr.cell 4
            have z5 := BXr.cell 5
            have z6 := BXr.cell 6
            have z7 := BXr.cell 7
            have z8 := BXr.cell 8
            have z9 := BXr.cell 9
            have z10 := BXr.cell 10
            have z11 := BXr.cell 11
            by_cases hlt : k < l.length
            · have hz : l[k]? = some l[k] := List.getElem?_eq_getElem hlt
              obtain ⟨b, o, ax, ux, dx, sx, hA, hbl, q0, q1, q2, q3, q4, q5, q6, q7, q8, q9, q10, q11, hv⟩ := CS.cells (CS.below hwr HS.out) hz
              subst hA
              have hmm := List.mem_of_getElem? hz
              have HT : Hid ((l.take (k + 1)).foldl (fun o x => (Z.uniqW (Z.allW Z.pw (F + 1) x)).foldl Z.withB o) o2 = (Z.uniqW (Z.allW Z.pw (F + 1) l[k])).foldl Z.withB ((l.take k).foldl (fun o x => (Z.uniqW (Z.allW Z.pw (F + 1) x)).foldl Z.withB o) o2)) := Lib.hid (by rw [List.take_add_one, hz, Option.toList_some, List.foldl_append]; rfl)
              have hys := HSS.out _ hmm
              have hye := HSE.out _ hmm
              have HYL := Lib.hid (Z.words_len Z.pw_len hys)
              have HCL := Lib.hid (HCUM.out k)
              clear hz hmm
              generalize l[k] = y at *
              generalize (l.take k).foldl (fun o x => (Z.uniqW (Z.allW Z.pw (F + 1) x)).foldl Z.withB o) o2 = cur at *
              obtain ⟨Ax, kx, cx, rfl⟩ := hv.shape.1
              obtain ⟨Ay, ky, cy, rfl⟩ := hv.shape.2.1
              obtain ⟨Az, kz, cz, rfl⟩ := hv.shape.2.2
              have HPY := Lib.hid (cparties_any F y ⟨ax, .slice Ax kx cx, .slice Ay ky cy, .slice Az kz cz⟩ wr hv (HLL.out wr hwr) (HVV.out wr hwr) hys)
              have hwy : Z.wordsL Z.pw (F + 1) y = Z.uniqW (Z.allW Z.pw (F + 1) y) := if_pos hye
              rw [hye, hwy] at HPY
              unfold CR.ag at HPY
              simp only at HPY
              clear hv hys hye hwy
              generalize Z.uniqW (Z.allW Z.pw (F + 1) y) = uy at *
              have hi0 : (0 : Int) ≤ (k : Int) := by omega
              have hi1 : (k : Int) < (l.length : Int) := by omega
              go_wp2_with fail
              refine HPY.out.mono ?_
              rintro e W10 ⟨v10, rfl, hO10, hb⟩
              obtain ⟨A10, c10, rfl⟩ := OL.shape hO10
              have hb10 := hbr.trans (hb.mono hbr.size)
              have hw10 := hwr.trans (hb.mono hwr.size)
              have HUN := Lib.hid (lunion_any u10 (.slice A10 uy.length c10) cur uy W10 ((OL.below hO.out hb).sl bE_len) (hO10.sl bE_len) HCL.out (by have := HYL.out; omega))
              clear HPY hb z0 z1 z2 z3 z4 z5 z6 z7 z8 z9 z10 z11 q0 q1 q2 q3 q4 q5 q6 q7 q8 q9 q10 q11 hO10
              go_wp2_with fail
              refine HUN.out.mono ?_
              rintro e W11 ⟨v11, rfl, hO11, hb⟩
              have HO11 := Lib.hid (OL.mono hO11 hw10.size)
              have hb11 := hb10.trans (hb.mono hb10.size)
              clear HUN hb hO11
              go_wp2_with fail
              go_roundw
              case rel => exact ⟨k + 1, by omega, by go_num, Lib.hid (by rw [HT.out]; exact HO11.out), hb11⟩
              case measure => simp [intOf]; omega
            · obtain rfl : k = l.length := by omega
              rw [List.take_length, HOW.out] at hO
              have HSAME := Lib.hid (samestr_any u10 (.slice Alp lp.length clp) lp lp wr (hO.out.sl bE_len) ((OL.below Hlp9.out hbr).sl bE_len))
              rw [(Z.eqB_iff lp lp).2 rfl] at HSAME
              go_wp2_with fail
              refine HSAME.out.mono ?_
              rintro e W10 ⟨rfl, hb⟩
              have hw10 := hwr.trans (hb.mono hwr.size)
              go_wp2_with fail
              go_ret
              exact ⟨rfl, hw10⟩

set_option maxRecDepth 100000 in
theorem lifted (os : Go.Os) (started : os.Started) (H : Type) (enc : TypeId × Value → H) :
    ReturnsInHanded {} Tryd.checked os 7 .any (fun w args => (Rows.contractOrderSpec.pre enc Tryd.prog Tryd.f7 [] false w args ∧ laidMetH Tryd.prog laidL w) ∧ sizedMet enc Tryd.prog Tryd.f7 (OpenSpec.ofChange Rows.contractOrderSpec) false w args) (Rows.contractOrderSpec.post enc Tryd.prog Tryd.f7 false true false false) := by
  refine door_wrap (C := Tryd.checked) (laid := laidL) own started (by kernel_rfl) Tryd.func7
    (ChangeSpec.witness_shaped (enc := enc) (C := Tryd.checked) (os := os) (X := fun w _ => laidMetH Tryd.prog laidL w) false (World.doorLaid Tryd.prog 600 os) #[.agg #[.int .u8 0, .string ByteArray.empty, .string ByteArray.empty, .string ByteArray.empty, .int .u8 0, .string ByteArray.empty, .string ByteArray.empty, .int .i64 0, .slice none 0 0, .int .i64 0, .slice none 0 0, .slice none 0 0]] 8 rfl (World.shaped_of_RefB (by kernel_rfl) (by kernel_rfl)) (by kernel_rfl) (by kernel_rfl) (by kernel_rfl) (door_met os _)) ?_
  intro W base args ds gs before hval0 hW hWt hL hsh
  have hval : ∀ (j : Nat) t v, Tryd.f7.params[j]? = some t → args[j]? = some v → Value.okWide Tryd.prog W .any base t v := hval0
  have hW' := hW
  obtain ⟨p, q, hA0, hV, rfl, hfz, hnd⟩ := hW
  have hA : DataW.TrodAll enc Tryd.prog W 0 (fun _ => true) true Tryd.f7.params.toList args.toList ds p := hA0
  rw [Tryd.params7] at hA hval
  obtain ⟨v0, vs0, d0, ds0, p0, q0, hargs, rfl, rfl, h0, r0⟩ := trodAll_cons hA
  obtain ⟨rfl, rfl, rfl⟩ := trodAll_nil r0
  obtain rfl : args = #[v0] := by cases args; simp_all
  obtain ⟨rfl, rfl⟩ := trodVars_none hV
  have hWm := fun q hq => Nat.le_trans (of_decide_eq_true (List.all_eq_true.1 hWt q hq)) (show reachBytes ≤ 140737488355328 by decide)
  have hM0 : ∀ q ∈ d0.weights Tryd.prog 29, q ≤ 140737488355328 := fun q hq => hWm q (DataW.weights_mem_each (j := 0) (by rfl) (by rfl) q hq)
  have k0 := h0
  obtain ⟨N0, o0⟩ := contract_open (hval 0 29 v0 rfl rfl) h0 hM0
  obtain ⟨F, hF⟩ : ∃ F, F = N0 := ⟨_, rfl⟩
  obtain ⟨r0c, c0, rfl, cv0, cl0⟩ := o0 (F + 1) (by omega)
  clear hA0 hval0
  refine (walk F c0 r0c W cv0 cl0 (Tryd.laysM145.s1_3 W hsh) (of_laid hL)).mono fun e W' ⟨he, bel⟩ => ?_
  subst he
  exact ⟨_, rfl, _, _, _, [], _, [], hW', trodAll_mk1 (shut_bool Tryd.underlying4 _), (trodAll_cons_mk (arg_stays (by kernel_rfl) (of_decide_eq_true (by kernel_rfl)) k0 bel) trodAll_mk0), rfl, bel.frame _, fun h => by cases h⟩

theorem over : Rows.contractOrderRow.holds Tryd.pinned (OpenSpec.ofChange Rows.contractOrderSpec) :=
  OpenClaim.holds_of_wide 7 Tryd.f7 rfl rfl rfl rfl rfl rfl rfl ⟨rfl, rfl, rfl, rfl, rfl⟩ rfl rfl rfl rfl rfl (by kernel_rfl) Tryd.func7 (by kernel_rfl)
    (of_decide_eq_true (by kernel_rfl)) (by unfold Func.isWrapper; first | (rw [if_pos (by decide +kernel)]; kernel_rfl) | (rw [if_neg (by decide +kernel)]; exact ⟨rfl, rfl⟩))
    (fun os started H enc _ => lifted os started H enc)

theorem proved : Rows.ContractOrderCardSaid :=
  Claim7.holds_tied_plain_at .later [] [.mappedDeep, .mapped] true (true, "18ee430487cca9eca090e431cb604d3d491d61f539cb3f6dc50aa057bdde380e") false
    over (fun _ h => by cases h) (by kernel_rfl) (fun _ h => by cases h) contractOrder_row_tie rfl ⟨rfl, rfl⟩ (by kernel_rfl) rfl
    (fun f fn hf hfn => by
      obtain rfl : f = 7 := Option.some.inj ((show Tryd.prog.funcNamed "novation/novationlaw09.ContractOrder" = some 7 by kernel_rfl).symm.trans hf) |>.symm
      obtain rfl : fn = Tryd.f7 := (Option.some.inj (Tryd.func7.symm.trans hfn)).symm
      exact ⟨by kernel_rfl, fun j t ht => by
        rw [Tryd.params7] at ht
        have hm : t ∈ [29] := by simpa using Array.mem_of_getElem? ht
        have hall : ([29].all fun u => !Tryd.prog.wantsStandIn u) = true := by kernel_rfl
        exact (show Tryd.prog.wantsStandIn t = false by simpa using List.all_eq_true.1 hall t hm)⟩)
    (by kernel_rfl)
#print axioms proved
