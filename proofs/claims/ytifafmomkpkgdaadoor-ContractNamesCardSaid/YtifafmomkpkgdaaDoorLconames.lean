/-
  Limits, a contract of each kind, and each kind with something missing or too much (a tied card: the tables of kinds lie as the text says).
-/
import Derived.Test.YtifafmomkpkgdaaDoorRows
import Derived.Test.YtifafmomkpkgdaaDoorOal
import Derived.Test.YtifafmomkpkgdaaDoorNmx
import Derived.HandedShaped
import Derived.Test.YtifafmomkpkgdaaDoorCards
import Derived.Test.YtifafmomkpkgdaaDoorTie
import Derived.Test.YtifafmomkpkgdaaDoorOlay
import Derived.SevenTiedAt
import Derived.ProofKit
import Derived.OpenShut
import Derived.ShutString
namespace Go.Proofs.YtifafmomkpkgdaaDoor.lawNames
open Go.ChangeShapes Go.WideShapes Go.ChangeAt Go.RowKit
open Go.ChangeMaps (open_string shut_string)

theorem sd_take {w : World} {A : Option Addr} {n c j : Nat} {l m : List Int} (h : SD w (.slice A n c) l) (hj : j ≤ n) (hm : l.take j = m) : SD w (.slice A j c) m := by
  obtain ⟨A', c', hv, h1, h2, h3⟩ := h
  obtain ⟨rfl, rfl, rfl⟩ := hv
  subst hm
  have hl : (l.take j).length = j := by rw [List.length_take]; omega
  refine ⟨_, _, by rw [hl], by rw [hl]; omega, h2, fun hp => ?_⟩
  obtain ⟨b, o, rfl, hb, hc⟩ := h3 (by omega)
  refine ⟨b, o, rfl, hb, fun i d hd k x hx => hc i d ?_ k x hx⟩
  rw [List.getElem?_take] at hd
  split at hd
  · exact hd
  · cases hd
theorem Z.days_take : (Z.daysN 101).take 100 = Z.daysN 100 := by decide +kernel
set_option maxRecDepth 100000 in
set_option maxHeartbeats 8000000 in
theorem walk (w : World) (hV : HasV w) (hL : Lay w) : Calls Tryd.prog 8 #[] w fun e w' => e = .returned (.bool true) ∧ Below w.heap.size w w' := by
  have HALL := Lib.hid (lall_any w)
  have HLL := Lib.hid (fun W (h : Below w.heap.size w W) => hL.below h)
  have HVV := Lib.hid (fun W (h : Below w.heap.size w W) => hV.below h)
  clear hV hL
  go_enter Tryd.func8, Tryd.ntmps8
  go_wp2_with fail
  refine HALL.out.mono ?_
  rintro e W1 ⟨g, rfl, hCS, hb1⟩
  have HCS := Lib.hid hCS
  clear HALL hCS
  go_wp2_with fail
  go_loopw [2] (fun iv wr => ∃ i : Nat, i ≤ 10 ∧ iv = .int .i64 i ∧ Below W1.heap.size W1 wr) (fun iv _ => 10 - (intOf iv).toNat)
  case atStart => exact ⟨0, by omega, rfl, Below.refl _ _⟩
  case round =>
    obtain ⟨i, hi, rfl, hbr⟩ := hrel
    have h1 := hb1.trans (hbr.mono hb1.size)
    by_cases hlt : i < 10
    · have hlA : i < Z.allC.length := hlt
      have hz : Z.allC[i]? = some Z.allC[i] := List.getElem?_eq_getElem hlA
      obtain ⟨b, o, ax, ux, dx, sx, hA, hbl, q0, q1, q2, q3, q4, q5, q6, q7, q8, q9, q10, q11, hv⟩ := CS.cells (CS.below hbr HCS.out) hz
      obtain ⟨rfl, rfl⟩ : g = b ∧ 0 = o := by injection hA with hA; injection hA with e1 e2; exact ⟨e1, e2⟩
      simp only [Nat.zero_add] at q0 q1 q2 q3 q4 q5 q6 q7 q8 q9 q10 q11
      have HM := Lib.hid (List.mem_of_getElem? hz)
      clear hz hA
      generalize Z.allC[i] = y at *
      clear hlA
      obtain ⟨⟨Au, ku, cu, rfl⟩, ⟨Ad, kd, cd, rfl⟩, ⟨As, ks, cs, rfl⟩⟩ := hv.shape
      obtain ⟨rfl, _, _, _⟩ := hv.open_
      have HC := Lib.hid (ccheck_any 1 y ⟨y.top, .slice Au ku cu, .slice Ad kd cd, .slice As ks cs⟩ wr hv (HLL.out wr h1) (HVV.out wr h1) (Z.all_sm HM.out))
      rw [Z.all_E y HM.out] at HC
      unfold CR.ag at HC
      simp only at HC
      have HV := Lib.hid hv
      have hi0 : (0 : Int) ≤ (i : Int) := by omega
      have hi1 : (i : Int) < 10 := by omega
      clear hv
      go_wp2_with fail
      refine HC.out.mono ?_
      rintro e W2 ⟨rfl, hb2⟩
      have HV2 := Lib.hid (CV.below hb2 _ HV.out)
      have hbr2 := hbr.trans (hb2.mono hbr.size)
      have hg2 := Nat.lt_of_lt_of_le hbl hb2.size
      have s0 := (hb2.cell (p := ⟨g, i * 12, none⟩) hbl).trans q0
      have s1 := (hb2.cell (p := ⟨g, i * 12 + 1, none⟩) hbl).trans q1
      have s2 := (hb2.cell (p := ⟨g, i * 12 + 2, none⟩) hbl).trans q2
      have s3 := (hb2.cell (p := ⟨g, i * 12 + 3, none⟩) hbl).trans q3
      have s4 := (hb2.cell (p := ⟨g, i * 12 + 4, none⟩) hbl).trans q4
      have s5 := (hb2.cell (p := ⟨g, i * 12 + 5, none⟩) hbl).trans q5
      have s6 := (hb2.cell (p := ⟨g, i * 12 + 6, none⟩) hbl).trans q6
      have s7 := (hb2.cell (p := ⟨g, i * 12 + 7, none⟩) hbl).trans q7
      have s8 := (hb2.cell (p := ⟨g, i * 12 + 8, none⟩) hbl).trans q8
      have s9 := (hb2.cell (p := ⟨g, i * 12 + 9, none⟩) hbl).trans q9
      have s10 := (hb2.cell (p := ⟨g, i * 12 + 10, none⟩) hbl).trans q10
      have s11 := (hb2.cell (p := ⟨g, i * 12 + 11, none⟩) hbl).trans q11
      have h2 := h1.trans (hb2.mono h1.size)
      clear q0 q1 q2 q3 q4 q5 q6 q7 q8 q9 q10 q11 HC HV hbr hbl hb2 h1
      go_wp2_with fail
      go_loopw [3] (fun kv wr => ∃ k : Nat, k ≤ 8 ∧ kv = .int .i64 k ∧ Below W2.heap.size W2 wr) (fun kv _ => 8 - (intOf kv).toNat)
      case atStart => exact ⟨0, by omega, rfl, Below.refl _ _⟩
      case round =>
        obtain ⟨k, hk, rfl, hbi⟩ := hrel
        by_cases hlk : k < 8
        · skip
          have q0 := (hbi.cell (p := ⟨g, i * 12, none⟩) hg2).trans s0
          have q1 := (hbi.cell (p := ⟨g, i * 12 + 1, none⟩) hg2).trans s1
          have q2 := (hbi.cell (p := ⟨g, i * 12 + 2, none⟩) hg2).trans s2
          have q3 := (hbi.cell (p := ⟨g, i * 12 + 3, none⟩) hg2).trans s3
          have q4 := (hbi.cell (p := ⟨g, i * 12 + 4, none⟩) hg2).trans s4
          have q5 := (hbi.cell (p := ⟨g, i * 12 + 5, none⟩) hg2).trans s5
          have q6 := (hbi.cell (p := ⟨g, i * 12 + 6, none⟩) hg2).trans s6
          have q7 := (hbi.cell (p := ⟨g, i * 12 + 7, none⟩) hg2).trans s7
          have q8 := (hbi.cell (p := ⟨g, i * 12 + 8, none⟩) hg2).trans s8
          have q9 := (hbi.cell (p := ⟨g, i * 12 + 9, none⟩) hg2).trans s9
          have q10 := (hbi.cell (p := ⟨g, i * 12 + 10, none⟩) hg2).trans s10
          have q11 := (hbi.cell (p := ⟨g, i * 12 + 11, none⟩) hg2).trans s11
          have HT := Lib.hid (rctwin_top 1 y y.top _ _ _ wr (CV.below hbi _ HV2.out) (Z.all_sm HM.out))
          have hk0 : (k : Int) < 8 := by omega
          clear s0 s1 s2 s3 s4 s5 s6 s7 s8 s9 s10 s11
          go_wp2_with fail
          refine HT.out.mono ?_
          rintro e W4 ⟨A1, A2, A3, k1, k3, c1, c2, c3, N1, N2, r3, rfl, hb4, hN1, hN2, hN3, hX, hD, hd, hR⟩
          have HLY : Hid (y.top.fr.size ≤ 3 ∧ y.top.tu.size ≤ 3 ∧ y.top.nm.size ≤ 3 ∧ y.top.dates.length ≤ 2 ∧ r3.length ≤ 2) := Lib.hid (by
            obtain ⟨e1, e2, e3, e4, e5⟩ := Z.all_str y HM.out
            exact ⟨e1, e2, e3, e4, by rw [hR.len]; exact e5⟩)
          have HP : Hid (Pt y wr.heap.size N1 N2 W4 A1 A2 A3 k1 k3 c1 c2 c3 r3) := Lib.hid ⟨hN1, hN2, hN3, hX, hD, hd, hR, HV2.out.kind.1, HV2.out.kind.2⟩
          have HB := Lib.hid hb4.size
          clear q0 q1 q2 q3 q4 q5 q6 q7 q8 q9 q10 q11 HT hN1 hN2 hN3 hX hD hd hR
          go_upto_block 4 with fail
          have bx := Blk.new W4 29 #[.int .u8 y.top.k, .string y.top.fr, .string y.top.tu, .string y.top.nm, .int .u8 y.top.ex.top.k, .string y.top.ex.top.rat, .string y.top.ex.top.name, .int .i64 y.top.ex.top.date, .slice A1 k1 c1, .int .i64 y.top.date, .slice A2 y.top.dates.length c2, .slice A3 k3 c3]
          have hW := (Below.refl W4.heap.size W4).alloc (Nat.le_refl _) (.cells #[.int .u8 y.top.k, .string y.top.fr, .string y.top.tu, .string y.top.nm, .int .u8 y.top.ex.top.k, .string y.top.ex.top.rat, .string y.top.ex.top.name, .int .i64 y.top.ex.top.date, .slice A1 k1 c1, .int .i64 y.top.date, .slice A2 y.top.dates.length c2, .slice A3 k3 c3] 29)
          generalize (W4.alloc (.cells #[.int .u8 y.top.k, .string y.top.fr, .string y.top.tu, .string y.top.nm, .int .u8 y.top.ex.top.k, .string y.top.ex.top.rat, .string y.top.ex.top.name, .int .i64 y.top.ex.top.date, .slice A1 k1 c1, .int .i64 y.top.date, .slice A2 y.top.dates.length c2, .slice A3 k3 c3] 29)) = W5 at *
          go_cut [92] from 50 to 91 (fun _ wx => ∃ r : CR 1, Blk wx W4.heap.size 29 r.vs.toArray ∧ Hid (CV wx 2 (Z.modC k y) r) ∧ Below wr.heap.size W4 wx)
          case first =>
            have hk8 : k = 0 ∨ k = 1 ∨ k = 2 ∨ k = 3 ∨ k = 4 ∨ k = 5 ∨ k = 6 ∨ k = 7 := by omega
            clear hlk hk hk0
            rcases hk8 with rfl | rfl | rfl | rfl | rfl | rfl | rfl | rfl
            · refine nm_sw0 HP hW bx HB HLY ?_
              intro u50' u51' u52' u53' u54' u55' u56' u57' u58' u59' u60' u61' u62' u63' u64' u65' u66' u67' u68' u69' u70' u71' u72' u73' u74' u75' u76' u77' u78' u79' u80' u81' u82' u83' u84' u85' u86' u87' u88' u89' u90' u91' u92' W6 r6 hr6 hc6 hl6
              go_wp2_with fail
              go_meet
              exact ⟨r6, hr6, Lib.hid hc6, hl6⟩
            · refine nm_sw1 HP hW bx HB HLY ?_
              intro u50' u51' u52' u53' u54' u55' u56' u57' u58' u59' u60' u61' u62' u63' u64' u65' u66' u67' u68' u69' u70' u71' u72' u73' u74' u75' u76' u77' u78' u79' u80' u81' u82' u83' u84' u85' u86' u87' u88' u89' u90' u91' u92' W6 r6 hr6 hc6 hl6
              go_wp2_with fail
              go_meet
              exact ⟨r6, hr6, Lib.hid hc6, hl6⟩
            · refine nm_sw2 HP hW bx HB HLY ?_
              intro u50' u51' u52' u53' u54' u55' u56' u57' u58' u59' u60' u61' u62' u63' u64' u65' u66' u67' u68' u69' u70' u71' u72' u73' u74' u75' u76' u77' u78' u79' u80' u81' u82' u83' u84' u85' u86' u87' u88' u89' u90' u91' u92' W6 r6 hr6 hc6 hl6
              go_wp2_with fail
              go_meet
              exact ⟨r6, hr6, Lib.hid hc6, hl6⟩
            · refine nm_sw3 HP hW bx HB HLY ?_
              intro u50' u51' u52' u53' u54' u55' u56' u57' u58' u59' u60' u61' u62' u63' u64' u65' u66' u67' u68' u69' u70' u71' u72' u73' u74' u75' u76' u77' u78' u79' u80' u81' u82' u83' u84' u85' u86' u87' u88' u89' u90' u91' u92' W6 r6 hr6 hc6 hl6
              go_wp2_with fail
              go_meet
              exact ⟨r6, hr6, Lib.hid hc6, hl6⟩
            · refine nm_sw4 HP hW bx HB HLY ?_
              intro u50' u51' u52' u53' u54' u55' u56' u57' u58' u59' u60' u61' u62' u63' u64' u65' u66' u67' u68' u69' u70' u71' u72' u73' u74' u75' u76' u77' u78' u79' u80' u81' u82' u83' u84' u85' u86' u87' u88' u89' u90' u91' u92' W6 r6 hr6 hc6 hl6
              go_wp2_with fail
              go_meet
              exact ⟨r6, hr6, Lib.hid hc6, hl6⟩
            · refine nm_sw5 HP hW bx HB HLY ?_
              intro u50' u51' u52' u53' u54' u55' u56' u57' u58' u59' u60' u61' u62' u63' u64' u65' u66' u67' u68' u69' u70' u71' u72' u73' u74' u75' u76' u77' u78' u79' u80' u81' u82' u83' u84' u85' u86' u87' u88' u89' u90' u91' u92' W6 r6 hr6 hc6 hl6
              go_wp2_with fail
              go_meet
              exact ⟨r6, hr6, Lib.hid hc6, hl6⟩
            · refine nm_sw6 HP hW bx HB HLY ?_
              intro u50' u51' u52' u53' u54' u55' u56' u57' u58' u59' u60' u61' u62' u63' u64' u65' u66' u67' u68' u69' u70' u71' u72' u73' u74' u75' u76' u77' u78' u79' u80' u81' u82' u83' u84' u85' u86' u87' u88' u89' u90' u91' u92' W6 r6 hr6 hc6 hl6
              go_wp2_with fail
              go_meet
              exact ⟨r6, hr6, Lib.hid hc6, hl6⟩
            · refine nm_sw7 HP hW bx HB HLY ?_
              intro u50' u51' u52' u53' u54' u55' u56' u57' u58' u59' u60' u61' u62' u63' u64' u65' u66' u67' u68' u69' u70' u71' u72' u73' u74' u75' u76' u77' u78' u79' u80' u81' u82' u83' u84' u85' u86' u87' u88' u89' u90' u91' u92' W6 r6 hr6 hc6 hl6
              go_wp2_with fail
              go_meet
              exact ⟨r6, hr6, Lib.hid hc6, hl6⟩
          case rest =>
          obtain ⟨⟨a6, u6, d6, s6⟩, hr6, HC6, hl6⟩ := hcut
          rename World => W6
          have hb6 := hbi.trans ((hb4.trans hl6).mono hbi.size)
          have h6 := h2.trans (hb6.mono h2.size)
          obtain ⟨⟨Eu, eu1, eu2, rfl⟩, ⟨Ed, ed1, ed2, rfl⟩, ⟨Es, es1, es2, rfl⟩⟩ := HC6.out.shape
          have HCK := Lib.hid (ccheck_any 1 (Z.modC k y) ⟨a6, .slice Eu eu1 eu2, .slice Ed ed1 ed2, .slice Es es1 es2⟩ W6 HC6.out (HLL.out W6 h6) (HVV.out W6 h6) (Z.mod_sm HM.out hlk))
          rw [Z.mod_E y HM.out k hlk] at HCK
          unfold CR.ag at HCK
          simp only at HCK
          have hr6 : Blk W6 W4.heap.size 29 #[.int .u8 a6.k, .string a6.fr, .string a6.tu, .string a6.nm, .int .u8 a6.ex.top.k, .string a6.ex.top.rat, .string a6.ex.top.name, .int .i64 a6.ex.top.date, .slice Eu eu1 eu2, .int .i64 a6.date, .slice Ed ed1 ed2, .slice Es es1 es2] := hr6
          have q0 := hr6.cell 0
          have q1 := hr6.cell 1
          have q2 := hr6.cell 2
          have q3 := hr6.cell 3
          have q4 := hr6.cell 4
          have q5 := hr6.cell 5
          have q6 := hr6.cell 6
          have q7 := hr6.cell 7
          have q8 := hr6.cell 8
          have q9 := hr6.cell 9
          have q10 := hr6.cell 10
          have q11 := hr6.cell 11
          clear bx hW HP HLY HB hb4 hl6 HC6 hr6
          go_wp2_with fail
          refine HCK.out.mono ?_
          rintro e W7 ⟨rfl, hb7⟩
          have h7 := hb6.trans (hb7.mono hb6.size)
          clear q0 q1 q2 q3 q4 q5 q6 q7 q8 q9 q10 q11 HCK hb7 hb6 h6 hbi
          go_wp2_with fail
          go_roundw
          case rel => exact ⟨k + 1, by omega, by go_num, h7⟩
          case measure => simp [intOf]; omega
        · obtain rfl : k = 8 := by omega
          have h7 := hbr2.trans (hbi.mono hbr2.size)
          clear s0 s1 s2 s3 s4 s5 s6 s7 s8 s9 s10 s11 hbi
          go_wp2_with fail
          go_roundw
          case rel => exact ⟨i + 1, by omega, by go_num, h7⟩
          case measure => simp [intOf]; omega
    · obtain rfl : i = 10 := by omega
      rename World => V1
      have HCV := Lib.hid (CS.below hbr HCS.out)
      clear HCS hbr hlt hi hb1
      go_wp2_with fail
      refine (lpay_any ⟨#[65, 110, 110]⟩ ⟨#[65, 110, 110]⟩ ⟨#[85, 83, 68]⟩ V1).mono ?_
      rintro e X1 ⟨rfl, kb⟩
      go_upto_region 31 with fail
      have ks : Below X1.heap.size X1 (X1.alloc (.cells #[.int .u8 2, .string ⟨#[65, 110, 110]⟩, .string ⟨#[65, 110, 110]⟩, .string ⟨#[85, 83, 68]⟩, .int .u8 1, .string Z.z1, .string Z.e0, .int .i64 0, .slice none 0 0, .int .i64 0, .slice none 0 0, .slice none 0 0] 29)) := (Below.refl _ X1).alloc (Nat.le_refl _) (.cells #[.int .u8 2, .string ⟨#[65, 110, 110]⟩, .string ⟨#[65, 110, 110]⟩, .string ⟨#[85, 83, 68]⟩, .int .u8 1, .string Z.z1, .string Z.e0, .int .i64 0, .slice none 0 0, .int .i64 0, .slice none 0 0, .slice none 0 0] 29)
      have bS : Blk (X1.alloc (.cells #[.int .u8 2, .string ⟨#[65, 110, 110]⟩, .string ⟨#[65, 110, 110]⟩, .string ⟨#[85, 83, 68]⟩, .int .u8 1, .string Z.z1, .string Z.e0, .int .i64 0, .slice none 0 0, .int .i64 0, .slice none 0 0, .slice none 0 0] 29)) (X1.heap.size) 29 #[.int .u8 2, .string ⟨#[65, 110, 110]⟩, .string ⟨#[65, 110, 110]⟩, .string ⟨#[85, 83, 68]⟩, .int .u8 1, .string Z.z1, .string Z.e0, .int .i64 0, .slice none 0 0, .int .i64 0, .slice none 0 0, .slice none 0 0] := by
        have h := Blk.new X1 29 #[.int .u8 2, .string ⟨#[65, 110, 110]⟩, .string ⟨#[65, 110, 110]⟩, .string ⟨#[85, 83, 68]⟩, .int .u8 1, .string Z.z1, .string Z.e0, .int .i64 0, .slice none 0 0, .int .i64 0, .slice none 0 0, .slice none 0 0]
        first | exact h | rwa [World.size_alloc] at h | simpa using h

      generalize (X1.alloc (.cells #[.int .u8 2, .string ⟨#[65, 110, 110]⟩, .string ⟨#[65, 110, 110]⟩, .string ⟨#[85, 83, 68]⟩, .int .u8 1, .string Z.z1, .string Z.e0, .int .i64 0, .slice none 0 0, .int .i64 0, .slice none 0 0, .slice none 0 0] 29)) = Y1 at *
      have kt := kb.trans (ks.mono kb.size)
      clear kb ks
      replace HCV := Lib.hid (CS.below kt HCV.out)
      have hw1 := h1.trans (kt.mono h1.size)
      clear h1
      clear kt
      go_wp2_with fail
      refine (lzero_any Y1).mono ?_
      rintro e X2 ⟨rfl, kb⟩
      go_upto_region 32 with fail
      have ks : Below X2.heap.size X2 ((X2.alloc (.cells #[.int .u8 1, .string Z.e0, .string Z.e0, .string Z.e0, .int .u8 0, .string Z.e0, .string Z.e0, .int .i64 0, .slice none 0 0, .int .i64 0, .slice none 0 0, .slice none 0 0] 29)).alloc (.cells #[.int .u8 3, .string ⟨#[]⟩, .string ⟨#[]⟩, .string ⟨#[]⟩, .int .u8 0, .string ⟨#[]⟩, .string ⟨#[]⟩, .int .i64 0, .slice none 0 0, .int .i64 0, .slice none 0 0, .slice (some ⟨X2.heap.size, 0, none⟩) 1 1] 29)) := ((Below.refl _ X2).alloc (Nat.le_refl _) (.cells #[.int .u8 1, .string Z.e0, .string Z.e0, .string Z.e0, .int .u8 0, .string Z.e0, .string Z.e0, .int .i64 0, .slice none 0 0, .int .i64 0, .slice none 0 0, .slice none 0 0] 29)).alloc (by simp) (.cells #[.int .u8 3, .string ⟨#[]⟩, .string ⟨#[]⟩, .string ⟨#[]⟩, .int .u8 0, .string ⟨#[]⟩, .string ⟨#[]⟩, .int .i64 0, .slice none 0 0, .int .i64 0, .slice none 0 0, .slice (some ⟨X2.heap.size, 0, none⟩) 1 1] 29)
      have bL : Blk ((X2.alloc (.cells #[.int .u8 1, .string Z.e0, .string Z.e0, .string Z.e0, .int .u8 0, .string Z.e0, .string Z.e0, .int .i64 0, .slice none 0 0, .int .i64 0, .slice none 0 0, .slice none 0 0] 29)).alloc (.cells #[.int .u8 3, .string ⟨#[]⟩, .string ⟨#[]⟩, .string ⟨#[]⟩, .int .u8 0, .string ⟨#[]⟩, .string ⟨#[]⟩, .int .i64 0, .slice none 0 0, .int .i64 0, .slice none 0 0, .slice (some ⟨X2.heap.size, 0, none⟩) 1 1] 29)) (X2.heap.size + 1) 29 #[.int .u8 3, .string ⟨#[]⟩, .string ⟨#[]⟩, .string ⟨#[]⟩, .int .u8 0, .string ⟨#[]⟩, .string ⟨#[]⟩, .int .i64 0, .slice none 0 0, .int .i64 0, .slice none 0 0, .slice (some ⟨X2.heap.size, 0, none⟩) 1 1] := by
        have h := Blk.new (X2.alloc (.cells #[.int .u8 1, .string Z.e0, .string Z.e0, .string Z.e0, .int .u8 0, .string Z.e0, .string Z.e0, .int .i64 0, .slice none 0 0, .int .i64 0, .slice none 0 0, .slice none 0 0] 29)) 29 #[.int .u8 3, .string ⟨#[]⟩, .string ⟨#[]⟩, .string ⟨#[]⟩, .int .u8 0, .string ⟨#[]⟩, .string ⟨#[]⟩, .int .i64 0, .slice none 0 0, .int .i64 0, .slice none 0 0, .slice (some ⟨X2.heap.size, 0, none⟩) 1 1]
        first | exact h | rwa [World.size_alloc] at h | simpa using h
      have hO : OL 12 (CR.vs (m := 1)) 29 ((X2.alloc (.cells #[.int .u8 1, .string Z.e0, .string Z.e0, .string Z.e0, .int .u8 0, .string Z.e0, .string Z.e0, .int .i64 0, .slice none 0 0, .int .i64 0, .slice none 0 0, .slice none 0 0] 29)).alloc (.cells #[.int .u8 3, .string ⟨#[]⟩, .string ⟨#[]⟩, .string ⟨#[]⟩, .int .u8 0, .string ⟨#[]⟩, .string ⟨#[]⟩, .int .i64 0, .slice none 0 0, .int .i64 0, .slice none 0 0, .slice (some ⟨X2.heap.size, 0, none⟩) 1 1] 29)) X2.heap.size (.slice (some ⟨X2.heap.size, 0, none⟩) 1 1) [⟨Z.zeroN, .slice none 0 0, .slice none 0 0, .slice none 0 0⟩] := OL.alloc (OL.lit CR.vs_len X2 [⟨Z.zeroN, .slice none 0 0, .slice none 0 0, .slice none 0 0⟩] 1 _ rfl rfl (by decide)) _
      have hZ := cs_one hO (CV.zero (m := 1) (n := 0) _)
      have HL1 := Lib.hid (cv_of (t := (⟨3, Z.e0, Z.e0, Z.e0, Z.noX, 0, []⟩ : Z.CN 1)) (x := ⟨0, Z.e0, Z.e0, 0⟩) (by show (0 : Int) ≤ 3; decide) (by show (3 : Int) ≤ 255; decide) rfl (by show (0 : Int) ≤ 0; decide) (by show (0 : Int) ≤ 255; decide) SL.nil_ hZ : CV ((X2.alloc (.cells #[.int .u8 1, .string Z.e0, .string Z.e0, .string Z.e0, .int .u8 0, .string Z.e0, .string Z.e0, .int .i64 0, .slice none 0 0, .int .i64 0, .slice none 0 0, .slice none 0 0] 29)).alloc (.cells #[.int .u8 3, .string ⟨#[]⟩, .string ⟨#[]⟩, .string ⟨#[]⟩, .int .u8 0, .string ⟨#[]⟩, .string ⟨#[]⟩, .int .i64 0, .slice none 0 0, .int .i64 0, .slice none 0 0, .slice (some ⟨X2.heap.size, 0, none⟩) 1 1] 29)) 2 Z.loneC ⟨(⟨3, Z.e0, Z.e0, Z.e0, Z.noX, 0, []⟩ : Z.CN 1), .slice none 0 0, .slice none 0 0, .slice (some ⟨X2.heap.size, 0, none⟩) 1 1⟩)
      generalize ((X2.alloc (.cells #[.int .u8 1, .string Z.e0, .string Z.e0, .string Z.e0, .int .u8 0, .string Z.e0, .string Z.e0, .int .i64 0, .slice none 0 0, .int .i64 0, .slice none 0 0, .slice none 0 0] 29)).alloc (.cells #[.int .u8 3, .string ⟨#[]⟩, .string ⟨#[]⟩, .string ⟨#[]⟩, .int .u8 0, .string ⟨#[]⟩, .string ⟨#[]⟩, .int .i64 0, .slice none 0 0, .int .i64 0, .slice none 0 0, .slice (some ⟨X2.heap.size, 0, none⟩) 1 1] 29)) = Y2 at *
      have kt := kb.trans (ks.mono kb.size)
      clear kb ks hO hZ
      replace HCV := Lib.hid (CS.below kt HCV.out)
      replace bS := bS.below kt
      have hw2 := hw1.trans (kt.mono hw1.size)
      clear hw1
      clear kt
      go_wp2_with fail
      refine (lzero_any Y2).mono ?_
      rintro e X3 ⟨rfl, kb⟩
      go_upto_region 33 with fail
      have ks : Below X3.heap.size X3 ((X3.alloc (.cells #[.int .u8 1, .string Z.e0, .string Z.e0, .string Z.e0, .int .u8 0, .string Z.e0, .string Z.e0, .int .i64 0, .slice none 0 0, .int .i64 0, .slice none 0 0, .slice none 0 0] 29)).alloc (.cells #[.int .u8 6, .string ⟨#[]⟩, .string ⟨#[]⟩, .string ⟨#[]⟩, .int .u8 0, .string ⟨#[]⟩, .string ⟨#[]⟩, .int .i64 0, .slice none 0 0, .int .i64 100000, .slice none 0 0, .slice (some ⟨X3.heap.size, 0, none⟩) 1 1] 29)) := ((Below.refl _ X3).alloc (Nat.le_refl _) (.cells #[.int .u8 1, .string Z.e0, .string Z.e0, .string Z.e0, .int .u8 0, .string Z.e0, .string Z.e0, .int .i64 0, .slice none 0 0, .int .i64 0, .slice none 0 0, .slice none 0 0] 29)).alloc (by simp) (.cells #[.int .u8 6, .string ⟨#[]⟩, .string ⟨#[]⟩, .string ⟨#[]⟩, .int .u8 0, .string ⟨#[]⟩, .string ⟨#[]⟩, .int .i64 0, .slice none 0 0, .int .i64 100000, .slice none 0 0, .slice (some ⟨X3.heap.size, 0, none⟩) 1 1] 29)
      have bT : Blk ((X3.alloc (.cells #[.int .u8 1, .string Z.e0, .string Z.e0, .string Z.e0, .int .u8 0, .string Z.e0, .string Z.e0, .int .i64 0, .slice none 0 0, .int .i64 0, .slice none 0 0, .slice none 0 0] 29)).alloc (.cells #[.int .u8 6, .string ⟨#[]⟩, .string ⟨#[]⟩, .string ⟨#[]⟩, .int .u8 0, .string ⟨#[]⟩, .string ⟨#[]⟩, .int .i64 0, .slice none 0 0, .int .i64 100000, .slice none 0 0, .slice (some ⟨X3.heap.size, 0, none⟩) 1 1] 29)) (X3.heap.size + 1) 29 #[.int .u8 6, .string ⟨#[]⟩, .string ⟨#[]⟩, .string ⟨#[]⟩, .int .u8 0, .string ⟨#[]⟩, .string ⟨#[]⟩, .int .i64 0, .slice none 0 0, .int .i64 100000, .slice none 0 0, .slice (some ⟨X3.heap.size, 0, none⟩) 1 1] := by
        have h := Blk.new (X3.alloc (.cells #[.int .u8 1, .string Z.e0, .string Z.e0, .string Z.e0, .int .u8 0, .string Z.e0, .string Z.e0, .int .i64 0, .slice none 0 0, .int .i64 0, .slice none 0 0, .slice none 0 0] 29)) 29 #[.int .u8 6, .string ⟨#[]⟩, .string ⟨#[]⟩, .string ⟨#[]⟩, .int .u8 0, .string ⟨#[]⟩, .string ⟨#[]⟩, .int .i64 0, .slice none 0 0, .int .i64 100000, .slice none 0 0, .slice (some ⟨X3.heap.size, 0, none⟩) 1 1]
        first | exact h | rwa [World.size_alloc] at h | simpa using h
      have hO : OL 12 (CR.vs (m := 1)) 29 ((X3.alloc (.cells #[.int .u8 1, .string Z.e0, .string Z.e0, .string Z.e0, .int .u8 0, .string Z.e0, .string Z.e0, .int .i64 0, .slice none 0 0, .int .i64 0, .slice none 0 0, .slice none 0 0] 29)).alloc (.cells #[.int .u8 6, .string ⟨#[]⟩, .string ⟨#[]⟩, .string ⟨#[]⟩, .int .u8 0, .string ⟨#[]⟩, .string ⟨#[]⟩, .int .i64 0, .slice none 0 0, .int .i64 100000, .slice none 0 0, .slice (some ⟨X3.heap.size, 0, none⟩) 1 1] 29)) X3.heap.size (.slice (some ⟨X3.heap.size, 0, none⟩) 1 1) [⟨Z.zeroN, .slice none 0 0, .slice none 0 0, .slice none 0 0⟩] := OL.alloc (OL.lit CR.vs_len X3 [⟨Z.zeroN, .slice none 0 0, .slice none 0 0, .slice none 0 0⟩] 1 _ rfl rfl (by decide)) _
      have hZ := cs_one hO (CV.zero (m := 1) (n := 0) _)
      have HT1 := Lib.hid (cv_of (t := (⟨6, Z.e0, Z.e0, Z.e0, Z.noX, 100000, []⟩ : Z.CN 1)) (x := ⟨0, Z.e0, Z.e0, 0⟩) (by show (0 : Int) ≤ 6; decide) (by show (6 : Int) ≤ 255; decide) rfl (by show (0 : Int) ≤ 0; decide) (by show (0 : Int) ≤ 255; decide) SL.nil_ hZ : CV ((X3.alloc (.cells #[.int .u8 1, .string Z.e0, .string Z.e0, .string Z.e0, .int .u8 0, .string Z.e0, .string Z.e0, .int .i64 0, .slice none 0 0, .int .i64 0, .slice none 0 0, .slice none 0 0] 29)).alloc (.cells #[.int .u8 6, .string ⟨#[]⟩, .string ⟨#[]⟩, .string ⟨#[]⟩, .int .u8 0, .string ⟨#[]⟩, .string ⟨#[]⟩, .int .i64 0, .slice none 0 0, .int .i64 100000, .slice none 0 0, .slice (some ⟨X3.heap.size, 0, none⟩) 1 1] 29)) 2 Z.lateC ⟨(⟨6, Z.e0, Z.e0, Z.e0, Z.noX, 100000, []⟩ : Z.CN 1), .slice none 0 0, .slice none 0 0, .slice (some ⟨X3.heap.size, 0, none⟩) 1 1⟩)
      generalize ((X3.alloc (.cells #[.int .u8 1, .string Z.e0, .string Z.e0, .string Z.e0, .int .u8 0, .string Z.e0, .string Z.e0, .int .i64 0, .slice none 0 0, .int .i64 0, .slice none 0 0, .slice none 0 0] 29)).alloc (.cells #[.int .u8 6, .string ⟨#[]⟩, .string ⟨#[]⟩, .string ⟨#[]⟩, .int .u8 0, .string ⟨#[]⟩, .string ⟨#[]⟩, .int .i64 0, .slice none 0 0, .int .i64 100000, .slice none 0 0, .slice (some ⟨X3.heap.size, 0, none⟩) 1 1] 29)) = Y3 at *
      have kt := kb.trans (ks.mono kb.size)
      clear kb ks hO hZ
      replace HCV := Lib.hid (CS.below kt HCV.out)
      replace bS := bS.below kt
      replace bL := bL.below kt
      replace HL1 := Lib.hid (CV.below kt _ HL1.out)
      have hw3 := hw2.trans (kt.mono hw2.size)
      clear hw2
      clear kt
      go_wp2_with fail
      refine (lzero_any Y3).mono ?_
      rintro e X4 ⟨rfl, kb⟩
      go_upto_region 34 with fail
      have ks : Below X4.heap.size X4 ((X4.alloc (.cells #[.int .u8 1, .string Z.e0, .string Z.e0, .string Z.e0, .int .u8 0, .string Z.e0, .string Z.e0, .int .i64 0, .slice none 0 0, .int .i64 0, .slice none 0 0, .slice none 0 0] 29)).alloc (.cells #[.int .u8 8, .string ⟨#[65]⟩, .string ⟨#[]⟩, .string ⟨#[120]⟩, .int .u8 0, .string ⟨#[]⟩, .string ⟨#[]⟩, .int .i64 0, .slice none 0 0, .int .i64 0, .slice none 0 0, .slice (some ⟨X4.heap.size, 0, none⟩) 1 1] 29)) := ((Below.refl _ X4).alloc (Nat.le_refl _) (.cells #[.int .u8 1, .string Z.e0, .string Z.e0, .string Z.e0, .int .u8 0, .string Z.e0, .string Z.e0, .int .i64 0, .slice none 0 0, .int .i64 0, .slice none 0 0, .slice none 0 0] 29)).alloc (by simp) (.cells #[.int .u8 8, .string ⟨#[65]⟩, .string ⟨#[]⟩, .string ⟨#[120]⟩, .int .u8 0, .string ⟨#[]⟩, .string ⟨#[]⟩, .int .i64 0, .slice none 0 0, .int .i64 0, .slice none 0 0, .slice (some ⟨X4.heap.size, 0, none⟩) 1 1] 29)
      have bN : Blk ((X4.alloc (.cells #[.int .u8 1, .string Z.e0, .string Z.e0, .string Z.e0, .int .u8 0, .string Z.e0, .string Z.e0, .int .i64 0, .slice none 0 0, .int .i64 0, .slice none 0 0, .slice none 0 0] 29)).alloc (.cells #[.int .u8 8, .string ⟨#[65]⟩, .string ⟨#[]⟩, .string ⟨#[120]⟩, .int .u8 0, .string ⟨#[]⟩, .string ⟨#[]⟩, .int .i64 0, .slice none 0 0, .int .i64 0, .slice none 0 0, .slice (some ⟨X4.heap.size, 0, none⟩) 1 1] 29)) (X4.heap.size + 1) 29 #[.int .u8 8, .string ⟨#[65]⟩, .string ⟨#[]⟩, .string ⟨#[120]⟩, .int .u8 0, .string ⟨#[]⟩, .string ⟨#[]⟩, .int .i64 0, .slice none 0 0, .int .i64 0, .slice none 0 0, .slice (some ⟨X4.heap.size, 0, none⟩) 1 1] := by
        have h := Blk.new (X4.alloc (.cells #[.int .u8 1, .string Z.e0, .string Z.e0, .string Z.e0, .int .u8 0, .string Z.e0, .string Z.e0, .int .i64 0, .slice none 0 0, .int .i64 0, .slice none 0 0, .slice none 0 0] 29)) 29 #[.int .u8 8, .string ⟨#[65]⟩, .string ⟨#[]⟩, .string ⟨#[120]⟩, .int .u8 0, .string ⟨#[]⟩, .string ⟨#[]⟩, .int .i64 0, .slice none 0 0, .int .i64 0, .slice none 0 0, .slice (some ⟨X4.heap.size, 0, none⟩) 1 1]
        first | exact h | rwa [World.size_alloc] at h | simpa using h
      have hO : OL 12 (CR.vs (m := 1)) 29 ((X4.alloc (.cells #[.int .u8 1, .string Z.e0, .string Z.e0, .string Z.e0, .int .u8 0, .string Z.e0, .string Z.e0, .int .i64 0, .slice none 0 0, .int .i64 0, .slice none 0 0, .slice none 0 0] 29)).alloc (.cells #[.int .u8 8, .string ⟨#[65]⟩, .string ⟨#[]⟩, .string ⟨#[120]⟩, .int .u8 0, .string ⟨#[]⟩, .string ⟨#[]⟩, .int .i64 0, .slice none 0 0, .int .i64 0, .slice none 0 0, .slice (some ⟨X4.heap.size, 0, none⟩) 1 1] 29)) X4.heap.size (.slice (some ⟨X4.heap.size, 0, none⟩) 1 1) [⟨Z.zeroN, .slice none 0 0, .slice none 0 0, .slice none 0 0⟩] := OL.alloc (OL.lit CR.vs_len X4 [⟨Z.zeroN, .slice none 0 0, .slice none 0 0, .slice none 0 0⟩] 1 _ rfl rfl (by decide)) _
      have hZ := cs_one hO (CV.zero (m := 1) (n := 0) _)
      have HN1 := Lib.hid (cv_of (t := (⟨8, Z.sA, Z.e0, Z.sx, Z.noX, 0, []⟩ : Z.CN 1)) (x := ⟨0, Z.e0, Z.e0, 0⟩) (by show (0 : Int) ≤ 8; decide) (by show (8 : Int) ≤ 255; decide) rfl (by show (0 : Int) ≤ 0; decide) (by show (0 : Int) ≤ 255; decide) SL.nil_ hZ : CV ((X4.alloc (.cells #[.int .u8 1, .string Z.e0, .string Z.e0, .string Z.e0, .int .u8 0, .string Z.e0, .string Z.e0, .int .i64 0, .slice none 0 0, .int .i64 0, .slice none 0 0, .slice none 0 0] 29)).alloc (.cells #[.int .u8 8, .string ⟨#[65]⟩, .string ⟨#[]⟩, .string ⟨#[120]⟩, .int .u8 0, .string ⟨#[]⟩, .string ⟨#[]⟩, .int .i64 0, .slice none 0 0, .int .i64 0, .slice none 0 0, .slice (some ⟨X4.heap.size, 0, none⟩) 1 1] 29)) 2 (Z.callC []) ⟨(⟨8, Z.sA, Z.e0, Z.sx, Z.noX, 0, []⟩ : Z.CN 1), .slice none 0 0, .slice none 0 0, .slice (some ⟨X4.heap.size, 0, none⟩) 1 1⟩)
      generalize ((X4.alloc (.cells #[.int .u8 1, .string Z.e0, .string Z.e0, .string Z.e0, .int .u8 0, .string Z.e0, .string Z.e0, .int .i64 0, .slice none 0 0, .int .i64 0, .slice none 0 0, .slice none 0 0] 29)).alloc (.cells #[.int .u8 8, .string ⟨#[65]⟩, .string ⟨#[]⟩, .string ⟨#[120]⟩, .int .u8 0, .string ⟨#[]⟩, .string ⟨#[]⟩, .int .i64 0, .slice none 0 0, .int .i64 0, .slice none 0 0, .slice (some ⟨X4.heap.size, 0, none⟩) 1 1] 29)) = Y4 at *
      have kt := kb.trans (ks.mono kb.size)
      clear kb ks hO hZ
      replace HCV := Lib.hid (CS.below kt HCV.out)
      replace bS := bS.below kt
      replace bL := bL.below kt
      replace HL1 := Lib.hid (CV.below kt _ HL1.out)
      replace bT := bT.below kt
      replace HT1 := Lib.hid (CV.below kt _ HT1.out)
      have hw4 := hw3.trans (kt.mono hw3.size)
      clear hw3
      clear kt
      go_wp2_with fail
      go_loopw [9, 10] (fun mv iv wr => ∃ (n : Nat) (A : Option Addr) (c : Nat), n ≤ 101 ∧ iv = .int .i64 n ∧ mv = .slice A n c ∧ Hid (OL 1 dE 3 wr Y4.heap.size (.slice A n c) (Z.daysN n)) ∧ Below Y4.heap.size Y4 wr) (fun _ iv _ => 101 - (intOf iv).toNat)
      case atStart => exact ⟨0, none, 0, by omega, rfl, rfl, Lib.hid OL.nil_, Below.refl _ _⟩
      case round =>
        obtain ⟨n, A, c, hn, rfl, rfl, HO, hbr⟩ := hrel
        by_cases hlt : n < 101
        · have hn1 : (n : Int) < 101 := by omega
          have HLN : Hid ((Z.daysN n).length ≤ 20000) := Lib.hid (by rw [Z.daysN_len]; omega)
          go_wp2_with (at_builtin; go_loud (refine appAt (n : Int) (dE_cell _) (dE_len _) rfl _ _ rfl infoI (by omega) (by omega) Tryd.underlying26 wr Y4.heap.size (.slice A n c) (Z.daysN n) _ rfl rfl HO.out rfl HLN.out hbr.size ?_; intro A9 m9 c9 W9 hm9 hO9 hb9 _ _; rw [Z.daysN_len] at hm9; subst hm9; rw [← Z.daysN_succ] at hO9; have HO9 := Lib.hid hO9; have hb10 := hbr.trans hb9; clear hO9 hb9))
          go_roundw
          case rel => exact ⟨n + 1, A9, c9, by omega, by go_num, rfl, HO9, hb10⟩
          case measure => simp [intOf]; omega
        · obtain rfl : n = 101 := by omega
          rename World => V2
          have HO := Lib.hid (OL.mono HO.out (Nat.zero_le _))
          have hc9 : 101 ≤ c := by
            obtain ⟨A', c', hv, h1, h2⟩ := SL.shape (OL.sl dE_len HO.out)
            injection hv with _ e2 e3
            rw [e3, e2]
            exact h1
          clear hlt hn
          replace HCV := Lib.hid (CS.below hbr HCV.out)
          replace bS := bS.below hbr
          replace bL := bL.below hbr
          replace HL1 := Lib.hid (CV.below hbr _ HL1.out)
          replace bT := bT.below hbr
          replace HT1 := Lib.hid (CV.below hbr _ HT1.out)
          replace bN := bN.below hbr
          replace HN1 := Lib.hid (CV.below hbr _ HN1.out)
          have hw5 := hw4.trans (hbr.mono hw4.size)
          clear hw4
          clear hbr
          go_wp2_with fail
          refine (lzero_any V2).mono ?_
          rintro e X5 ⟨rfl, kb⟩
          go_upto_region 40 with fail
          have ks : Below X5.heap.size X5 ((X5.alloc (.cells #[.int .u8 1, .string Z.e0, .string Z.e0, .string Z.e0, .int .u8 0, .string Z.e0, .string Z.e0, .int .i64 0, .slice none 0 0, .int .i64 0, .slice none 0 0, .slice none 0 0] 29)).alloc (.cells #[.int .u8 8, .string ⟨#[65]⟩, .string ⟨#[]⟩, .string ⟨#[120]⟩, .int .u8 0, .string ⟨#[]⟩, .string ⟨#[]⟩, .int .i64 0, .slice none 0 0, .int .i64 0, .slice A 101 c, .slice (some ⟨X5.heap.size, 0, none⟩) 1 1] 29)) := ((Below.refl _ X5).alloc (Nat.le_refl _) (.cells #[.int .u8 1, .string Z.e0, .string Z.e0, .string Z.e0, .int .u8 0, .string Z.e0, .string Z.e0, .int .i64 0, .slice none 0 0, .int .i64 0, .slice none 0 0, .slice none 0 0] 29)).alloc (by simp) (.cells #[.int .u8 8, .string ⟨#[65]⟩, .string ⟨#[]⟩, .string ⟨#[120]⟩, .int .u8 0, .string ⟨#[]⟩, .string ⟨#[]⟩, .int .i64 0, .slice none 0 0, .int .i64 0, .slice A 101 c, .slice (some ⟨X5.heap.size, 0, none⟩) 1 1] 29)
          have bF : Blk ((X5.alloc (.cells #[.int .u8 1, .string Z.e0, .string Z.e0, .string Z.e0, .int .u8 0, .string Z.e0, .string Z.e0, .int .i64 0, .slice none 0 0, .int .i64 0, .slice none 0 0, .slice none 0 0] 29)).alloc (.cells #[.int .u8 8, .string ⟨#[65]⟩, .string ⟨#[]⟩, .string ⟨#[120]⟩, .int .u8 0, .string ⟨#[]⟩, .string ⟨#[]⟩, .int .i64 0, .slice none 0 0, .int .i64 0, .slice A 101 c, .slice (some ⟨X5.heap.size, 0, none⟩) 1 1] 29)) (X5.heap.size + 1) 29 #[.int .u8 8, .string ⟨#[65]⟩, .string ⟨#[]⟩, .string ⟨#[120]⟩, .int .u8 0, .string ⟨#[]⟩, .string ⟨#[]⟩, .int .i64 0, .slice none 0 0, .int .i64 0, .slice A 101 c, .slice (some ⟨X5.heap.size, 0, none⟩) 1 1] := by
            have h := Blk.new (X5.alloc (.cells #[.int .u8 1, .string Z.e0, .string Z.e0, .string Z.e0, .int .u8 0, .string Z.e0, .string Z.e0, .int .i64 0, .slice none 0 0, .int .i64 0, .slice none 0 0, .slice none 0 0] 29)) 29 #[.int .u8 8, .string ⟨#[65]⟩, .string ⟨#[]⟩, .string ⟨#[120]⟩, .int .u8 0, .string ⟨#[]⟩, .string ⟨#[]⟩, .int .i64 0, .slice none 0 0, .int .i64 0, .slice A 101 c, .slice (some ⟨X5.heap.size, 0, none⟩) 1 1]
            first | exact h | rwa [World.size_alloc] at h | simpa using h
          have hO : OL 12 (CR.vs (m := 1)) 29 ((X5.alloc (.cells #[.int .u8 1, .string Z.e0, .string Z.e0, .string Z.e0, .int .u8 0, .string Z.e0, .string Z.e0, .int .i64 0, .slice none 0 0, .int .i64 0, .slice none 0 0, .slice none 0 0] 29)).alloc (.cells #[.int .u8 8, .string ⟨#[65]⟩, .string ⟨#[]⟩, .string ⟨#[120]⟩, .int .u8 0, .string ⟨#[]⟩, .string ⟨#[]⟩, .int .i64 0, .slice none 0 0, .int .i64 0, .slice A 101 c, .slice (some ⟨X5.heap.size, 0, none⟩) 1 1] 29)) X5.heap.size (.slice (some ⟨X5.heap.size, 0, none⟩) 1 1) [⟨Z.zeroN, .slice none 0 0, .slice none 0 0, .slice none 0 0⟩] := OL.alloc (OL.lit CR.vs_len X5 [⟨Z.zeroN, .slice none 0 0, .slice none 0 0, .slice none 0 0⟩] 1 _ rfl rfl (by decide)) _
          have hZ := cs_one hO (CV.zero (m := 1) (n := 0) _)
          have HF1 := Lib.hid (cv_of (t := (⟨8, Z.sA, Z.e0, Z.sx, Z.noX, 0, Z.daysN 101⟩ : Z.CN 1)) (x := ⟨0, Z.e0, Z.e0, 0⟩) (by show (0 : Int) ≤ 8; decide) (by show (8 : Int) ≤ 255; decide) rfl (by show (0 : Int) ≤ 0; decide) (by show (0 : Int) ≤ 255; decide) (OL.sl dE_len (OL.below (OL.below HO.out kb) ks)) hZ : CV ((X5.alloc (.cells #[.int .u8 1, .string Z.e0, .string Z.e0, .string Z.e0, .int .u8 0, .string Z.e0, .string Z.e0, .int .i64 0, .slice none 0 0, .int .i64 0, .slice none 0 0, .slice none 0 0] 29)).alloc (.cells #[.int .u8 8, .string ⟨#[65]⟩, .string ⟨#[]⟩, .string ⟨#[120]⟩, .int .u8 0, .string ⟨#[]⟩, .string ⟨#[]⟩, .int .i64 0, .slice none 0 0, .int .i64 0, .slice A 101 c, .slice (some ⟨X5.heap.size, 0, none⟩) 1 1] 29)) 2 (Z.callC (Z.daysN 101)) ⟨⟨8, Z.sA, Z.e0, Z.sx, Z.noX, 0, Z.daysN 101⟩, .slice none 0 0, .slice A 101 c, .slice (some ⟨X5.heap.size, 0, none⟩) 1 1⟩)
          generalize ((X5.alloc (.cells #[.int .u8 1, .string Z.e0, .string Z.e0, .string Z.e0, .int .u8 0, .string Z.e0, .string Z.e0, .int .i64 0, .slice none 0 0, .int .i64 0, .slice none 0 0, .slice none 0 0] 29)).alloc (.cells #[.int .u8 8, .string ⟨#[65]⟩, .string ⟨#[]⟩, .string ⟨#[120]⟩, .int .u8 0, .string ⟨#[]⟩, .string ⟨#[]⟩, .int .i64 0, .slice none 0 0, .int .i64 0, .slice A 101 c, .slice (some ⟨X5.heap.size, 0, none⟩) 1 1] 29)) = Y5 at *
          have kt := kb.trans (ks.mono kb.size)
          clear kb ks hO hZ
          replace HCV := Lib.hid (CS.below kt HCV.out)
          replace bS := bS.below kt
          replace bL := bL.below kt
          replace HL1 := Lib.hid (CV.below kt _ HL1.out)
          replace bT := bT.below kt
          replace HT1 := Lib.hid (CV.below kt _ HT1.out)
          replace bN := bN.below kt
          replace HN1 := Lib.hid (CV.below kt _ HN1.out)
          replace HO := Lib.hid (OL.below HO.out kt)
          have hw6 := hw5.trans (kt.mono hw5.size)
          clear hw5
          clear kt
          go_cut [12] from 118 to 122 (fun bv wx => ∃ bb gr : Nat, bv = .pointer (some ⟨bb, 0, none⟩) ∧ Blk wx bb 29 #[.int .u8 8, .string ⟨#[65]⟩, .string ⟨#[]⟩, .string ⟨#[120]⟩, .int .u8 0, .string ⟨#[]⟩, .string ⟨#[]⟩, .int .i64 0, .slice none 0 0, .int .i64 0, .slice A 100 c, .slice (some ⟨gr, 0, none⟩) 1 1] ∧ Hid (CS wx 1 (.slice (some ⟨gr, 0, none⟩) 1 1) [(Z.zeroC : Z.Co 1 1)]) ∧ Below Y5.heap.size Y5 wx)
          case first =>
            have hdr := (Below.refl Y5.heap.size Y5).drew
            have kX := Below.refl Y5.drew.heap.size Y5.drew
            have HXX : Hid (∀ Y, Below Y5.drew.heap.size Y5.drew Y → Below Y5.heap.size Y5 Y) := Lib.hid (fun Y h => hdr.trans (h.mono hdr.size))
            have hc8 : (100 : Int) ≤ (c : Int) := by omega
            have hc7 : 100 ≤ c := by omega
            refine wp_region_fx 6 (fun w' => ∃ y : Ab Y5.drew, w' = y.1) (by kernel_rfl) ?_
            show fxAny _ _ _ _ 6 _ 7 _ _ _
            clear hdr
            generalize Y5.drew = X at *
            refine fx_reads (n := 5) [0, 1] rfl (by kernel_rfl) ⟨⟨X, kX⟩, rfl⟩ ?_
            simp only [opsAt, List.filterMap_cons, List.filterMap_nil, List.getElem?_toArray, List.getElem?_cons_succ, List.getElem?_cons_zero]
            show wpQuiet _ _ _ _ [_, _] _
            repeat (go_big_quiet_step (fail))
            refine wpQuiet_nil ?_
            skip
            refine fx_two (k := 2) (l := 5) (by kernel_rfl) ?_ ?_
            · skip
              simp only [opsAt, List.filterMap_cons, List.filterMap_nil, List.getElem?_toArray, List.getElem?_cons_succ, List.getElem?_cons_zero]
              refine fxp_enter (f := 36) (args := #[]) (w' := X) rfl (by simp [go_sem]) ?_
              refine (lzero_any X).mono ?_
              rintro e Xc ⟨rfl, kb⟩
              have kXc := kX.trans (kb.mono kX.size)
              refine ⟨_, rfl, ⟨⟨Xc, kXc⟩, rfl⟩, ?_⟩
              refine fxp_nil ?_
              simp only [Act.put, List.setIfInBounds_toArray, List.set_cons_succ, List.set_cons_zero]
              clear kb
              skip
              refine fx_two (k := 3) (l := 5) (by kernel_rfl) ?_ ?_
              · skip
                simp only [opsAt, List.filterMap_cons, List.filterMap_nil, List.getElem?_toArray, List.getElem?_cons_succ, List.getElem?_cons_zero]
                refine fxp_value (u := .slice (some ⟨Xc.heap.size, 0, none⟩) 1 1) (w' := (Xc.alloc (.cells #[.int .u8 1, .string Z.e0, .string Z.e0, .string Z.e0, .int .u8 0, .string Z.e0, .string Z.e0, .int .i64 0, .slice none 0 0, .int .i64 0, .slice none 0 0, .slice none 0 0] 29))) rfl (by simp [go_sem]) ⟨⟨_, kXc.alloc kXc.size _⟩, rfl⟩ ?_
                refine fxp_nil ?_
                simp only [Act.put, List.setIfInBounds_toArray, List.set_cons_succ, List.set_cons_zero]
                have kXcr := kXc.alloc kXc.size (.cells #[.int .u8 1, .string Z.e0, .string Z.e0, .string Z.e0, .int .u8 0, .string Z.e0, .string Z.e0, .int .i64 0, .slice none 0 0, .int .i64 0, .slice none 0 0, .slice none 0 0] 29)
                have HR : Hid (OL 12 (CR.vs (m := 1)) 29 (Xc.alloc (.cells #[.int .u8 1, .string Z.e0, .string Z.e0, .string Z.e0, .int .u8 0, .string Z.e0, .string Z.e0, .int .i64 0, .slice none 0 0, .int .i64 0, .slice none 0 0, .slice none 0 0] 29)) Xc.heap.size (.slice (some ⟨Xc.heap.size, 0, none⟩) 1 1) [⟨Z.zeroN, .slice none 0 0, .slice none 0 0, .slice none 0 0⟩]) := Lib.hid (OL.lit CR.vs_len Xc [⟨Z.zeroN, .slice none 0 0, .slice none 0 0, .slice none 0 0⟩] 1 _ rfl rfl (by decide))
                have hrl : Xc.heap.size < (Xc.alloc (.cells #[.int .u8 1, .string Z.e0, .string Z.e0, .string Z.e0, .int .u8 0, .string Z.e0, .string Z.e0, .int .i64 0, .slice none 0 0, .int .i64 0, .slice none 0 0, .slice none 0 0] 29)).heap.size := by simp
                generalize (Xc.alloc (.cells #[.int .u8 1, .string Z.e0, .string Z.e0, .string Z.e0, .int .u8 0, .string Z.e0, .string Z.e0, .int .i64 0, .slice none 0 0, .int .i64 0, .slice none 0 0, .slice none 0 0] 29)) = Xcr at *
                refine fx_reads (n := 2) [4] rfl (by kernel_rfl) ⟨⟨Xcr, kXcr⟩, rfl⟩ ?_
                simp only [opsAt, List.filterMap_cons, List.filterMap_nil, List.getElem?_toArray, List.getElem?_cons_succ, List.getElem?_cons_zero]
                show wpQuiet _ _ _ _ [_] _
                repeat (go_big_quiet_step (fail))
                refine wpQuiet_nil ?_
                skip
                refine fx_one (k := 5) (by kernel_rfl) ?_
                simp only [opsAt, List.filterMap_cons, List.filterMap_nil, List.getElem?_toArray, List.getElem?_cons_succ, List.getElem?_cons_zero]
                refine fxp_value (u := .pointer (some ⟨Xcr.heap.size, 0, none⟩)) (w' := (Xcr.alloc (.cells #[.int .u8 0, .string ⟨#[]⟩, .string ⟨#[]⟩, .string ⟨#[]⟩, .int .u8 0, .string ⟨#[]⟩, .string ⟨#[]⟩, .int .i64 0, .slice none 0 0, .int .i64 0, .slice none 0 0, .slice none 0 0] 29))) rfl (by simp [go_sem]) ⟨⟨_, kXcr.alloc kXcr.size _⟩, rfl⟩ ?_
                refine fxp_nil ?_
                simp only [Act.put, List.setIfInBounds_toArray, List.set_cons_succ, List.set_cons_zero]
                have kXcra := kXcr.alloc kXcr.size (.cells #[.int .u8 0, .string ⟨#[]⟩, .string ⟨#[]⟩, .string ⟨#[]⟩, .int .u8 0, .string ⟨#[]⟩, .string ⟨#[]⟩, .int .i64 0, .slice none 0 0, .int .i64 0, .slice none 0 0, .slice none 0 0] 29)
                have kb := (Below.refl _ Xcr).alloc (Nat.le_refl Xcr.heap.size) (.cells #[.int .u8 0, .string ⟨#[]⟩, .string ⟨#[]⟩, .string ⟨#[]⟩, .int .u8 0, .string ⟨#[]⟩, .string ⟨#[]⟩, .int .i64 0, .slice none 0 0, .int .i64 0, .slice none 0 0, .slice none 0 0] 29)
                have bA := Blk.new Xcr 29 #[.int .u8 0, .string ⟨#[]⟩, .string ⟨#[]⟩, .string ⟨#[]⟩, .int .u8 0, .string ⟨#[]⟩, .string ⟨#[]⟩, .int .i64 0, .slice none 0 0, .int .i64 0, .slice none 0 0, .slice none 0 0]
                have hgA : X.heap.size ≤ Xcr.heap.size := kXcr.size
                replace HR := Lib.hid (OL.below HR.out kb)
                have hne : Xc.heap.size ≠ Xcr.heap.size := Nat.ne_of_lt hrl
                clear kb
                generalize (Xcr.alloc (.cells #[.int .u8 0, .string ⟨#[]⟩, .string ⟨#[]⟩, .string ⟨#[]⟩, .int .u8 0, .string ⟨#[]⟩, .string ⟨#[]⟩, .int .i64 0, .slice none 0 0, .int .i64 0, .slice none 0 0, .slice none 0 0] 29)) = Xcra at *
                skip
                have z0 := bA.cell 0
                have y0 := bA.frozen 0
                have z1 := bA.cell 1
                have y1 := bA.frozen 1
                have z2 := bA.cell 2
                have y2 := bA.frozen 2
                have z3 := bA.cell 3
                have y3 := bA.frozen 3
                have z4 := bA.cell 4
                have y4 := bA.frozen 4
                have z5 := bA.cell 5
                have y5 := bA.frozen 5
                have z6 := bA.cell 6
                have y6 := bA.frozen 6
                have z7 := bA.cell 7
                have y7 := bA.frozen 7
                have z8 := bA.cell 8
                have y8 := bA.frozen 8
                have z9 := bA.cell 9
                have y9 := bA.frozen 9
                have z10 := bA.cell 10
                have y10 := bA.frozen 10
                have z11 := bA.cell 11
                have y11 := bA.frozen 11
                refine fx_late (k := 6) (by decide) (by kernel_rfl) ?_
                simp only [opsAt, List.filterMap_cons, List.filterMap_nil, List.getElem?_toArray, List.getElem?_cons_succ, List.getElem?_cons_zero]
                refine fxl_skip (w' := ((((((((((((Xcra.setCell ⟨Xcr.heap.size, 0, none⟩ (.int .u8 8)).setCell ⟨Xcr.heap.size, 1, none⟩ (.string ⟨#[65]⟩)).setCell ⟨Xcr.heap.size, 2, none⟩ (.string ⟨#[]⟩)).setCell ⟨Xcr.heap.size, 3, none⟩ (.string ⟨#[120]⟩)).setCell ⟨Xcr.heap.size, 4, none⟩ (.int .u8 0)).setCell ⟨Xcr.heap.size, 5, none⟩ (.string ⟨#[]⟩)).setCell ⟨Xcr.heap.size, 6, none⟩ (.string ⟨#[]⟩)).setCell ⟨Xcr.heap.size, 7, none⟩ (.int .i64 0)).setCell ⟨Xcr.heap.size, 8, none⟩ (.slice none 0 0)).setCell ⟨Xcr.heap.size, 9, none⟩ (.int .i64 0)).setCell ⟨Xcr.heap.size, 10, none⟩ (.slice A 100 c)).setCell ⟨Xcr.heap.size, 11, none⟩ (.slice (some ⟨Xc.heap.size, 0, none⟩) 1 1))) rfl (by simp [go_sem, z0, y0, z1, y1, z2, y2, z3, y3, z4, y4, z5, y5, z6, y6, z7, y7, z8, y8, z9, y9, z10, y10, z11, y11]) ?_
                refine fxl_nil ?_
                simp only [Act.put]
                refine fx_end (by kernel_rfl) ?_
                have BF := bA.store12 (.int .u8 8) (.string ⟨#[65]⟩) (.string ⟨#[]⟩) (.string ⟨#[120]⟩) (.int .u8 0) (.string ⟨#[]⟩) (.string ⟨#[]⟩) (.int .i64 0) (.slice none 0 0) (.int .i64 0) (.slice A 100 c) (.slice (some ⟨Xc.heap.size, 0, none⟩) 1 1)
                have hbF := Below.store12 kXcra hgA (.int .u8 8) (.string ⟨#[65]⟩) (.string ⟨#[]⟩) (.string ⟨#[120]⟩) (.int .u8 0) (.string ⟨#[]⟩) (.string ⟨#[]⟩) (.int .i64 0) (.slice none 0 0) (.int .i64 0) (.slice A 100 c) (.slice (some ⟨Xc.heap.size, 0, none⟩) 1 1)
                have HRF := Lib.hid (cs_one (OL.kept HR.out (grown_store12 Xcra (Xcr.heap.size) (.int .u8 8) (.string ⟨#[65]⟩) (.string ⟨#[]⟩) (.string ⟨#[120]⟩) (.int .u8 0) (.string ⟨#[]⟩) (.string ⟨#[]⟩) (.int .i64 0) (.slice none 0 0) (.int .i64 0) (.slice A 100 c) (.slice (some ⟨Xc.heap.size, 0, none⟩) 1 1)) (.inr (fun e => hne (by injection e)))) (CV.zero (m := 1) (n := 0) _))
                clear z0 y0 z1 y1 z2 y2 z3 y3 z4 y4 z5 y5 z6 y6 z7 y7 z8 y8 z9 y9 z10 y10 z11 y11
                go_wp2_with fail
                go_meet
                exact ⟨_, _, rfl, BF, HRF, HXX.out _ hbF⟩
              · skip
                simp only [opsAt, List.filterMap_cons, List.filterMap_nil, List.getElem?_toArray, List.getElem?_cons_succ, List.getElem?_cons_zero]
                refine fxp_value (u := .pointer (some ⟨Xc.heap.size, 0, none⟩)) (w' := (Xc.alloc (.cells #[.int .u8 0, .string ⟨#[]⟩, .string ⟨#[]⟩, .string ⟨#[]⟩, .int .u8 0, .string ⟨#[]⟩, .string ⟨#[]⟩, .int .i64 0, .slice none 0 0, .int .i64 0, .slice none 0 0, .slice none 0 0] 29))) rfl (by simp [go_sem]) ⟨⟨_, kXc.alloc kXc.size _⟩, rfl⟩ ?_
                refine fxp_nil ?_
                simp only [Act.put, List.setIfInBounds_toArray, List.set_cons_succ, List.set_cons_zero]
                have kXca := kXc.alloc kXc.size (.cells #[.int .u8 0, .string ⟨#[]⟩, .string ⟨#[]⟩, .string ⟨#[]⟩, .int .u8 0, .string ⟨#[]⟩, .string ⟨#[]⟩, .int .i64 0, .slice none 0 0, .int .i64 0, .slice none 0 0, .slice none 0 0] 29)
                have kb := (Below.refl _ Xc).alloc (Nat.le_refl Xc.heap.size) (.cells #[.int .u8 0, .string ⟨#[]⟩, .string ⟨#[]⟩, .string ⟨#[]⟩, .int .u8 0, .string ⟨#[]⟩, .string ⟨#[]⟩, .int .i64 0, .slice none 0 0, .int .i64 0, .slice none 0 0, .slice none 0 0] 29)
                have bA := Blk.new Xc 29 #[.int .u8 0, .string ⟨#[]⟩, .string ⟨#[]⟩, .string ⟨#[]⟩, .int .u8 0, .string ⟨#[]⟩, .string ⟨#[]⟩, .int .i64 0, .slice none 0 0, .int .i64 0, .slice none 0 0, .slice none 0 0]
                have hgA : X.heap.size ≤ Xc.heap.size := kXc.size
                clear kb
                generalize (Xc.alloc (.cells #[.int .u8 0, .string ⟨#[]⟩, .string ⟨#[]⟩, .string ⟨#[]⟩, .int .u8 0, .string ⟨#[]⟩, .string ⟨#[]⟩, .int .i64 0, .slice none 0 0, .int .i64 0, .slice none 0 0, .slice none 0 0] 29)) = Xca at *
                skip
                refine fx_one (k := 3) (by kernel_rfl) ?_
                simp only [opsAt, List.filterMap_cons, List.filterMap_nil, List.getElem?_toArray, List.getElem?_cons_succ, List.getElem?_cons_zero]
                refine fxp_value (u := .slice (some ⟨Xca.heap.size, 0, none⟩) 1 1) (w' := (Xca.alloc (.cells #[.int .u8 1, .string Z.e0, .string Z.e0, .string Z.e0, .int .u8 0, .string Z.e0, .string Z.e0, .int .i64 0, .slice none 0 0, .int .i64 0, .slice none 0 0, .slice none 0 0] 29))) rfl (by simp [go_sem]) ⟨⟨_, kXca.alloc kXca.size _⟩, rfl⟩ ?_
                refine fxp_nil ?_
                simp only [Act.put, List.setIfInBounds_toArray, List.set_cons_succ, List.set_cons_zero]
                have kXcar := kXca.alloc kXca.size (.cells #[.int .u8 1, .string Z.e0, .string Z.e0, .string Z.e0, .int .u8 0, .string Z.e0, .string Z.e0, .int .i64 0, .slice none 0 0, .int .i64 0, .slice none 0 0, .slice none 0 0] 29)
                have HR : Hid (OL 12 (CR.vs (m := 1)) 29 (Xca.alloc (.cells #[.int .u8 1, .string Z.e0, .string Z.e0, .string Z.e0, .int .u8 0, .string Z.e0, .string Z.e0, .int .i64 0, .slice none 0 0, .int .i64 0, .slice none 0 0, .slice none 0 0] 29)) Xca.heap.size (.slice (some ⟨Xca.heap.size, 0, none⟩) 1 1) [⟨Z.zeroN, .slice none 0 0, .slice none 0 0, .slice none 0 0⟩]) := Lib.hid (OL.lit CR.vs_len Xca [⟨Z.zeroN, .slice none 0 0, .slice none 0 0, .slice none 0 0⟩] 1 _ rfl rfl (by decide))
                have hrl : Xca.heap.size < (Xca.alloc (.cells #[.int .u8 1, .string Z.e0, .string Z.e0, .string Z.e0, .int .u8 0, .string Z.e0, .string Z.e0, .int .i64 0, .slice none 0 0, .int .i64 0, .slice none 0 0, .slice none 0 0] 29)).heap.size := by simp
                have hne : Xca.heap.size ≠ Xc.heap.size := Nat.ne_of_gt bA.lt
                replace bA := bA.alloc (.cells #[.int .u8 1, .string Z.e0, .string Z.e0, .string Z.e0, .int .u8 0, .string Z.e0, .string Z.e0, .int .i64 0, .slice none 0 0, .int .i64 0, .slice none 0 0, .slice none 0 0] 29)
                generalize (Xca.alloc (.cells #[.int .u8 1, .string Z.e0, .string Z.e0, .string Z.e0, .int .u8 0, .string Z.e0, .string Z.e0, .int .i64 0, .slice none 0 0, .int .i64 0, .slice none 0 0, .slice none 0 0] 29)) = Xcar at *
                refine fx_reads (n := 1) [4] rfl (by kernel_rfl) ⟨⟨Xcar, kXcar⟩, rfl⟩ ?_
                simp only [opsAt, List.filterMap_cons, List.filterMap_nil, List.getElem?_toArray, List.getElem?_cons_succ, List.getElem?_cons_zero]
                show wpQuiet _ _ _ _ [_] _
                repeat (go_big_quiet_step (fail))
                refine wpQuiet_nil ?_
                skip
                have z0 := bA.cell 0
                have y0 := bA.frozen 0
                have z1 := bA.cell 1
                have y1 := bA.frozen 1
                have z2 := bA.cell 2
                have y2 := bA.frozen 2
                have z3 := bA.cell 3
                have y3 := bA.frozen 3
                have z4 := bA.cell 4
                have y4 := bA.frozen 4
                have z5 := bA.cell 5
                have y5 := bA.frozen 5
                have z6 := bA.cell 6
                have y6 := bA.frozen 6
                have z7 := bA.cell 7
                have y7 := bA.frozen 7
                have z8 := bA.cell 8
                have y8 := bA.frozen 8
                have z9 := bA.cell 9
                have y9 := bA.frozen 9
                have z10 := bA.cell 10
                have y10 := bA.frozen 10
                have z11 := bA.cell 11
                have y11 := bA.frozen 11
                refine fx_late (k := 6) (by decide) (by kernel_rfl) ?_
                simp only [opsAt, List.filterMap_cons, List.filterMap_nil, List.getElem?_toArray, List.getElem?_cons_succ, List.getElem?_cons_zero]
                refine fxl_skip (w' := ((((((((((((Xcar.setCell ⟨Xc.heap.size, 0, none⟩ (.int .u8 8)).setCell ⟨Xc.heap.size, 1, none⟩ (.string ⟨#[65]⟩)).setCell ⟨Xc.heap.size, 2, none⟩ (.string ⟨#[]⟩)).setCell ⟨Xc.heap.size, 3, none⟩ (.string ⟨#[120]⟩)).setCell ⟨Xc.heap.size, 4, none⟩ (.int .u8 0)).setCell ⟨Xc.heap.size, 5, none⟩ (.string ⟨#[]⟩)).setCell ⟨Xc.heap.size, 6, none⟩ (.string ⟨#[]⟩)).setCell ⟨Xc.heap.size, 7, none⟩ (.int .i64 0)).setCell ⟨Xc.heap.size, 8, none⟩ (.slice none 0 0)).setCell ⟨Xc.heap.size, 9, none⟩ (.int .i64 0)).setCell ⟨Xc.heap.size, 10, none⟩ (.slice A 100 c)).setCell ⟨Xc.heap.size, 11, none⟩ (.slice (some ⟨Xca.heap.size, 0, none⟩) 1 1))) rfl (by simp [go_sem, z0, y0, z1, y1, z2, y2, z3, y3, z4, y4, z5, y5, z6, y6, z7, y7, z8, y8, z9, y9, z10, y10, z11, y11]) ?_
                refine fxl_nil ?_
                simp only [Act.put]
                refine fx_end (by kernel_rfl) ?_
                have BF := bA.store12 (.int .u8 8) (.string ⟨#[65]⟩) (.string ⟨#[]⟩) (.string ⟨#[120]⟩) (.int .u8 0) (.string ⟨#[]⟩) (.string ⟨#[]⟩) (.int .i64 0) (.slice none 0 0) (.int .i64 0) (.slice A 100 c) (.slice (some ⟨Xca.heap.size, 0, none⟩) 1 1)
                have hbF := Below.store12 kXcar hgA (.int .u8 8) (.string ⟨#[65]⟩) (.string ⟨#[]⟩) (.string ⟨#[120]⟩) (.int .u8 0) (.string ⟨#[]⟩) (.string ⟨#[]⟩) (.int .i64 0) (.slice none 0 0) (.int .i64 0) (.slice A 100 c) (.slice (some ⟨Xca.heap.size, 0, none⟩) 1 1)
                have HRF := Lib.hid (cs_one (OL.kept HR.out (grown_store12 Xcar (Xc.heap.size) (.int .u8 8) (.string ⟨#[65]⟩) (.string ⟨#[]⟩) (.string ⟨#[120]⟩) (.int .u8 0) (.string ⟨#[]⟩) (.string ⟨#[]⟩) (.int .i64 0) (.slice none 0 0) (.int .i64 0) (.slice A 100 c) (.slice (some ⟨Xca.heap.size, 0, none⟩) 1 1)) (.inr (fun e => hne (by injection e)))) (CV.zero (m := 1) (n := 0) _))
                clear z0 y0 z1 y1 z2 y2 z3 y3 z4 y4 z5 y5 z6 y6 z7 y7 z8 y8 z9 y9 z10 y10 z11 y11
                go_wp2_with fail
                go_meet
                exact ⟨_, _, rfl, BF, HRF, HXX.out _ hbF⟩
            · skip
              simp only [opsAt, List.filterMap_cons, List.filterMap_nil, List.getElem?_toArray, List.getElem?_cons_succ, List.getElem?_cons_zero]
              refine fxp_value (u := .pointer (some ⟨X.heap.size, 0, none⟩)) (w' := (X.alloc (.cells #[.int .u8 0, .string ⟨#[]⟩, .string ⟨#[]⟩, .string ⟨#[]⟩, .int .u8 0, .string ⟨#[]⟩, .string ⟨#[]⟩, .int .i64 0, .slice none 0 0, .int .i64 0, .slice none 0 0, .slice none 0 0] 29))) rfl (by simp [go_sem]) ⟨⟨_, kX.alloc kX.size _⟩, rfl⟩ ?_
              refine fxp_nil ?_
              simp only [Act.put, List.setIfInBounds_toArray, List.set_cons_succ, List.set_cons_zero]
              have kXa := kX.alloc kX.size (.cells #[.int .u8 0, .string ⟨#[]⟩, .string ⟨#[]⟩, .string ⟨#[]⟩, .int .u8 0, .string ⟨#[]⟩, .string ⟨#[]⟩, .int .i64 0, .slice none 0 0, .int .i64 0, .slice none 0 0, .slice none 0 0] 29)
              have kb := (Below.refl _ X).alloc (Nat.le_refl X.heap.size) (.cells #[.int .u8 0, .string ⟨#[]⟩, .string ⟨#[]⟩, .string ⟨#[]⟩, .int .u8 0, .string ⟨#[]⟩, .string ⟨#[]⟩, .int .i64 0, .slice none 0 0, .int .i64 0, .slice none 0 0, .slice none 0 0] 29)
              have bA := Blk.new X 29 #[.int .u8 0, .string ⟨#[]⟩, .string ⟨#[]⟩, .string ⟨#[]⟩, .int .u8 0, .string ⟨#[]⟩, .string ⟨#[]⟩, .int .i64 0, .slice none 0 0, .int .i64 0, .slice none 0 0, .slice none 0 0]
              have hgA : X.heap.size ≤ X.heap.size := kX.size
              clear kb
              generalize (X.alloc (.cells #[.int .u8 0, .string ⟨#[]⟩, .string ⟨#[]⟩, .string ⟨#[]⟩, .int .u8 0, .string ⟨#[]⟩, .string ⟨#[]⟩, .int .i64 0, .slice none 0 0, .int .i64 0, .slice none 0 0, .slice none 0 0] 29)) = Xa at *
              skip
              refine fx_one (k := 2) (by kernel_rfl) ?_
              simp only [opsAt, List.filterMap_cons, List.filterMap_nil, List.getElem?_toArray, List.getElem?_cons_succ, List.getElem?_cons_zero]
              refine fxp_enter (f := 36) (args := #[]) (w' := Xa) rfl (by simp [go_sem]) ?_
              refine (lzero_any Xa).mono ?_
              rintro e Xac ⟨rfl, kb⟩
              have kXac := kXa.trans (kb.mono kXa.size)
              refine ⟨_, rfl, ⟨⟨Xac, kXac⟩, rfl⟩, ?_⟩
              refine fxp_nil ?_
              simp only [Act.put, List.setIfInBounds_toArray, List.set_cons_succ, List.set_cons_zero]
              replace bA := bA.below kb
              clear kb
              skip
              refine fx_one (k := 3) (by kernel_rfl) ?_
              simp only [opsAt, List.filterMap_cons, List.filterMap_nil, List.getElem?_toArray, List.getElem?_cons_succ, List.getElem?_cons_zero]
              refine fxp_value (u := .slice (some ⟨Xac.heap.size, 0, none⟩) 1 1) (w' := (Xac.alloc (.cells #[.int .u8 1, .string Z.e0, .string Z.e0, .string Z.e0, .int .u8 0, .string Z.e0, .string Z.e0, .int .i64 0, .slice none 0 0, .int .i64 0, .slice none 0 0, .slice none 0 0] 29))) rfl (by simp [go_sem]) ⟨⟨_, kXac.alloc kXac.size _⟩, rfl⟩ ?_
              refine fxp_nil ?_
              simp only [Act.put, List.setIfInBounds_toArray, List.set_cons_succ, List.set_cons_zero]
              have kXacr := kXac.alloc kXac.size (.cells #[.int .u8 1, .string Z.e0, .string Z.e0, .string Z.e0, .int .u8 0, .string Z.e0, .string Z.e0, .int .i64 0, .slice none 0 0, .int .i64 0, .slice none 0 0, .slice none 0 0] 29)
              have HR : Hid (OL 12 (CR.vs (m := 1)) 29 (Xac.alloc (.cells #[.int .u8 1, .string Z.e0, .string Z.e0, .string Z.e0, .int .u8 0, .string Z.e0, .string Z.e0, .int .i64 0, .slice none 0 0, .int .i64 0, .slice none 0 0, .slice none 0 0] 29)) Xac.heap.size (.slice (some ⟨Xac.heap.size, 0, none⟩) 1 1) [⟨Z.zeroN, .slice none 0 0, .slice none 0 0, .slice none 0 0⟩]) := Lib.hid (OL.lit CR.vs_len Xac [⟨Z.zeroN, .slice none 0 0, .slice none 0 0, .slice none 0 0⟩] 1 _ rfl rfl (by decide))
              have hrl : Xac.heap.size < (Xac.alloc (.cells #[.int .u8 1, .string Z.e0, .string Z.e0, .string Z.e0, .int .u8 0, .string Z.e0, .string Z.e0, .int .i64 0, .slice none 0 0, .int .i64 0, .slice none 0 0, .slice none 0 0] 29)).heap.size := by simp
              have hne : Xac.heap.size ≠ X.heap.size := Nat.ne_of_gt bA.lt
              replace bA := bA.alloc (.cells #[.int .u8 1, .string Z.e0, .string Z.e0, .string Z.e0, .int .u8 0, .string Z.e0, .string Z.e0, .int .i64 0, .slice none 0 0, .int .i64 0, .slice none 0 0, .slice none 0 0] 29)
              generalize (Xac.alloc (.cells #[.int .u8 1, .string Z.e0, .string Z.e0, .string Z.e0, .int .u8 0, .string Z.e0, .string Z.e0, .int .i64 0, .slice none 0 0, .int .i64 0, .slice none 0 0, .slice none 0 0] 29)) = Xacr at *
              refine fx_reads (n := 1) [4] rfl (by kernel_rfl) ⟨⟨Xacr, kXacr⟩, rfl⟩ ?_
              simp only [opsAt, List.filterMap_cons, List.filterMap_nil, List.getElem?_toArray, List.getElem?_cons_succ, List.getElem?_cons_zero]
              show wpQuiet _ _ _ _ [_] _
              repeat (go_big_quiet_step (fail))
              refine wpQuiet_nil ?_
              skip
              have z0 := bA.cell 0
              have y0 := bA.frozen 0
              have z1 := bA.cell 1
              have y1 := bA.frozen 1
              have z2 := bA.cell 2
              have y2 := bA.frozen 2
              have z3 := bA.cell 3
              have y3 := bA.frozen 3
              have z4 := bA.cell 4
              have y4 := bA.frozen 4
              have z5 := bA.cell 5
              have y5 := bA.frozen 5
              have z6 := bA.cell 6
              have y6 := bA.frozen 6
              have z7 := bA.cell 7
              have y7 := bA.frozen 7
              have z8 := bA.cell 8
              have y8 := bA.frozen 8
              have z9 := bA.cell 9
              have y9 := bA.frozen 9
              have z10 := bA.cell 10
              have y10 := bA.frozen 10
              have z11 := bA.cell 11
              have y11 := bA.frozen 11
              refine fx_late (k := 6) (by decide) (by kernel_rfl) ?_
              simp only [opsAt, List.filterMap_cons, List.filterMap_nil, List.getElem?_toArray, List.getElem?_cons_succ, List.getElem?_cons_zero]
              refine fxl_skip (w' := ((((((((((((Xacr.setCell ⟨X.heap.size, 0, none⟩ (.int .u8 8)).setCell ⟨X.heap.size, 1, none⟩ (.string ⟨#[65]⟩)).setCell ⟨X.heap.size, 2, none⟩ (.string ⟨#[]⟩)).setCell ⟨X.heap.size, 3, none⟩ (.string ⟨#[120]⟩)).setCell ⟨X.heap.size, 4, none⟩ (.int .u8 0)).setCell ⟨X.heap.size, 5, none⟩ (.string ⟨#[]⟩)).setCell ⟨X.heap.size, 6, none⟩ (.string ⟨#[]⟩)).setCell ⟨X.heap.size, 7, none⟩ (.int .i64 0)).setCell ⟨X.heap.size, 8, none⟩ (.slice none 0 0)).setCell ⟨X.heap.size, 9, none⟩ (.int .i64 0)).setCell ⟨X.heap.size, 10, none⟩ (.slice A 100 c)).setCell ⟨X.heap.size, 11, none⟩ (.slice (some ⟨Xac.heap.size, 0, none⟩) 1 1))) rfl (by simp [go_sem, z0, y0, z1, y1, z2, y2, z3, y3, z4, y4, z5, y5, z6, y6, z7, y7, z8, y8, z9, y9, z10, y10, z11, y11]) ?_
              refine fxl_nil ?_
              simp only [Act.put]
              refine fx_end (by kernel_rfl) ?_
              have BF := bA.store12 (.int .u8 8) (.string ⟨#[65]⟩) (.string ⟨#[]⟩) (.string ⟨#[120]⟩) (.int .u8 0) (.string ⟨#[]⟩) (.string ⟨#[]⟩) (.int .i64 0) (.slice none 0 0) (.int .i64 0) (.slice A 100 c) (.slice (some ⟨Xac.heap.size, 0, none⟩) 1 1)
              have hbF := Below.store12 kXacr hgA (.int .u8 8) (.string ⟨#[65]⟩) (.string ⟨#[]⟩) (.string ⟨#[120]⟩) (.int .u8 0) (.string ⟨#[]⟩) (.string ⟨#[]⟩) (.int .i64 0) (.slice none 0 0) (.int .i64 0) (.slice A 100 c) (.slice (some ⟨Xac.heap.size, 0, none⟩) 1 1)
              have HRF := Lib.hid (cs_one (OL.kept HR.out (grown_store12 Xacr (X.heap.size) (.int .u8 8) (.string ⟨#[65]⟩) (.string ⟨#[]⟩) (.string ⟨#[120]⟩) (.int .u8 0) (.string ⟨#[]⟩) (.string ⟨#[]⟩) (.int .i64 0) (.slice none 0 0) (.int .i64 0) (.slice A 100 c) (.slice (some ⟨Xac.heap.size, 0, none⟩) 1 1)) (.inr (fun e => hne (by injection e)))) (CV.zero (m := 1) (n := 0) _))
              clear z0 y0 z1 y1 z2 y2 z3 y3 z4 y4 z5 y5 z6 y6 z7 y7 z8 y8 z9 y9 z10 y10 z11 y11
              go_wp2_with fail
              go_meet
              exact ⟨_, _, rfl, BF, HRF, HXX.out _ hbF⟩
          case rest =>
          obtain ⟨gM, gR, rfl, bM, HM1, hb5⟩ := hcut
          rename World => Y6
          replace HCV := Lib.hid (CS.below hb5 HCV.out)
          replace bS := bS.below hb5
          replace bL := bL.below hb5
          replace HL1 := Lib.hid (CV.below hb5 _ HL1.out)
          replace bT := bT.below hb5
          replace HT1 := Lib.hid (CV.below hb5 _ HT1.out)
          replace bN := bN.below hb5
          replace HN1 := Lib.hid (CV.below hb5 _ HN1.out)
          replace HO := Lib.hid (OL.below HO.out hb5)
          replace bF := bF.below hb5
          replace HF1 := Lib.hid (CV.below hb5 _ HF1.out)
          have hw7 := hw6.trans (hb5.mono hw6.size)
          clear hw6
          clear hb5
          have HM2 := Lib.hid (cv_of (t := (⟨8, Z.sA, Z.e0, Z.sx, Z.noX, 0, Z.daysN 100⟩ : Z.CN 1)) (x := ⟨0, Z.e0, Z.e0, 0⟩) (by show (0 : Int) ≤ 8; decide) (by show (8 : Int) ≤ 255; decide) rfl (by show (0 : Int) ≤ 0; decide) (by show (0 : Int) ≤ 255; decide) (sd_take (j := 100) (OL.sl dE_len HO.out) (by omega) Z.days_take) HM1.out : CV Y6 2 (Z.callC (Z.daysN 100)) ⟨⟨8, Z.sA, Z.e0, Z.sx, Z.noX, 0, Z.daysN 100⟩, .slice none 0 0, .slice A 100 c, .slice (some ⟨gR, 0, none⟩) 1 1⟩)
          clear HM1 HO
          go_wp2_with fail
          refine (lzero_any Y6).mono ?_
          rintro e X7 ⟨rfl, kb⟩
          replace HCV := Lib.hid (CS.below kb HCV.out)
          replace bS := bS.below kb
          replace bL := bL.below kb
          replace HL1 := Lib.hid (CV.below kb _ HL1.out)
          replace bT := bT.below kb
          replace HT1 := Lib.hid (CV.below kb _ HT1.out)
          replace bN := bN.below kb
          replace HN1 := Lib.hid (CV.below kb _ HN1.out)
          replace bF := bF.below kb
          replace HF1 := Lib.hid (CV.below kb _ HF1.out)
          replace bM := bM.below kb
          replace HM2 := Lib.hid (CV.below kb _ HM2.out)
          have hw8 := hw7.trans (kb.mono hw7.size)
          clear hw7
          clear kb
          have bD := Blk.new X7 29 #[.int .u8 1, .string Z.e0, .string Z.e0, .string Z.e0, .int .u8 0, .string Z.e0, .string Z.e0, .int .i64 0, .slice none 0 0, .int .i64 0, .slice none 0 0, .slice none 0 0]
          have kd := (Below.refl X7.heap.size X7).alloc (Nat.le_refl _) (.cells #[.int .u8 1, .string Z.e0, .string Z.e0, .string Z.e0, .int .u8 0, .string Z.e0, .string Z.e0, .int .i64 0, .slice none 0 0, .int .i64 0, .slice none 0 0, .slice none 0 0] 29)
          have hsd : X7.heap.size < (X7.alloc (.cells #[.int .u8 1, .string Z.e0, .string Z.e0, .string Z.e0, .int .u8 0, .string Z.e0, .string Z.e0, .int .i64 0, .slice none 0 0, .int .i64 0, .slice none 0 0, .slice none 0 0] 29)).heap.size := by simp
          go_wp2_with fail
          generalize (X7.alloc (.cells #[.int .u8 1, .string Z.e0, .string Z.e0, .string Z.e0, .int .u8 0, .string Z.e0, .string Z.e0, .int .i64 0, .slice none 0 0, .int .i64 0, .slice none 0 0, .slice none 0 0] 29)) = Y7 at *
          go_loopw [14] (fun iv wr => ∃ (i : Nat) (a : Z.CN 1) (E : Option Addr) (n d : Nat), i ≤ 59 ∧ iv = .int .i64 i ∧ Blk wr X7.heap.size 29 #[.int .u8 a.k, .string a.fr, .string a.tu, .string a.nm, .int .u8 a.ex.top.k, .string a.ex.top.rat, .string a.ex.top.name, .int .i64 a.ex.top.date, .slice none 0 0, .int .i64 a.date, .slice none 0 0, .slice E n d] ∧ Hid (∀ W, Fr (X7.heap.size + 1) wr.heap.size wr W → CV W (i + 1) (Z.deepC i) ⟨a, .slice none 0 0, .slice none 0 0, .slice E n d⟩) ∧ Below X7.heap.size X7 wr ∧ X7.heap.size < wr.heap.size) (fun iv _ => 59 - (intOf iv).toNat)
          case atStart => exact ⟨0, Z.zeroN, none, 0, 0, by omega, rfl, bD, Lib.hid (fun W _ => CV.zero W), kd, hsd⟩
          case round =>
            clear bD kd hsd
            obtain ⟨i, a, E, n, d, hi, rfl, bD, HD, hbr, hlt0⟩ := hrel
            by_cases hlt : i < 59
            · have hi1 : (i : Int) < 59 := by omega
              have bo2 := (bD.store12 (.int .u8 6) (.string ⟨#[]⟩) (.string ⟨#[]⟩) (.string ⟨#[]⟩) (.int .u8 0) (.string ⟨#[]⟩) (.string ⟨#[]⟩) (.int .i64 0) (.slice none 0 0) (.int .i64 (i : Int)) (.slice none 0 0) (.slice (some ⟨wr.heap.size, 0, none⟩) 1 1)).alloc (.cells #[.int .u8 a.k, .string a.fr, .string a.tu, .string a.nm, .int .u8 a.ex.top.k, .string a.ex.top.rat, .string a.ex.top.name, .int .i64 a.ex.top.date, .slice none 0 0, .int .i64 a.date, .slice none 0 0, .slice E n d] 29)
              have hsz : ((((((((((((wr.setCell ⟨X7.heap.size, 0, none⟩ (.int .u8 6)).setCell ⟨X7.heap.size, 1, none⟩ (.string ⟨#[]⟩)).setCell ⟨X7.heap.size, 2, none⟩ (.string ⟨#[]⟩)).setCell ⟨X7.heap.size, 3, none⟩ (.string ⟨#[]⟩)).setCell ⟨X7.heap.size, 4, none⟩ (.int .u8 0)).setCell ⟨X7.heap.size, 5, none⟩ (.string ⟨#[]⟩)).setCell ⟨X7.heap.size, 6, none⟩ (.string ⟨#[]⟩)).setCell ⟨X7.heap.size, 7, none⟩ (.int .i64 0)).setCell ⟨X7.heap.size, 8, none⟩ (.slice none 0 0)).setCell ⟨X7.heap.size, 9, none⟩ (.int .i64 (i : Int))).setCell ⟨X7.heap.size, 10, none⟩ (.slice none 0 0)).setCell ⟨X7.heap.size, 11, none⟩ (.slice (some ⟨wr.heap.size, 0, none⟩) 1 1)).heap.size = wr.heap.size := by simp
              have hb2 := (Below.store12 hbr (Nat.le_refl X7.heap.size) (.int .u8 6) (.string ⟨#[]⟩) (.string ⟨#[]⟩) (.string ⟨#[]⟩) (.int .u8 0) (.string ⟨#[]⟩) (.string ⟨#[]⟩) (.int .i64 0) (.slice none 0 0) (.int .i64 (i : Int)) (.slice none 0 0) (.slice (some ⟨wr.heap.size, 0, none⟩) 1 1)).alloc (by rw [hsz]; exact Nat.le_of_lt hlt0) (.cells #[.int .u8 a.k, .string a.fr, .string a.tu, .string a.nm, .int .u8 a.ex.top.k, .string a.ex.top.rat, .string a.ex.top.name, .int .i64 a.ex.top.date, .slice none 0 0, .int .i64 a.date, .slice none 0 0, .slice E n d] 29)
              have gs : wr.grownBy (((((((((((((wr.setCell ⟨X7.heap.size, 0, none⟩ (.int .u8 6)).setCell ⟨X7.heap.size, 1, none⟩ (.string ⟨#[]⟩)).setCell ⟨X7.heap.size, 2, none⟩ (.string ⟨#[]⟩)).setCell ⟨X7.heap.size, 3, none⟩ (.string ⟨#[]⟩)).setCell ⟨X7.heap.size, 4, none⟩ (.int .u8 0)).setCell ⟨X7.heap.size, 5, none⟩ (.string ⟨#[]⟩)).setCell ⟨X7.heap.size, 6, none⟩ (.string ⟨#[]⟩)).setCell ⟨X7.heap.size, 7, none⟩ (.int .i64 0)).setCell ⟨X7.heap.size, 8, none⟩ (.slice none 0 0)).setCell ⟨X7.heap.size, 9, none⟩ (.int .i64 (i : Int))).setCell ⟨X7.heap.size, 10, none⟩ (.slice none 0 0)).setCell ⟨X7.heap.size, 11, none⟩ (.slice (some ⟨wr.heap.size, 0, none⟩) 1 1)).alloc (.cells #[.int .u8 a.k, .string a.fr, .string a.tu, .string a.nm, .int .u8 a.ex.top.k, .string a.ex.top.rat, .string a.ex.top.name, .int .i64 a.ex.top.date, .slice none 0 0, .int .i64 a.date, .slice none 0 0, .slice E n d] 29)) (some X7.heap.size) := (grown_store12 wr X7.heap.size (.int .u8 6) (.string ⟨#[]⟩) (.string ⟨#[]⟩) (.string ⟨#[]⟩) (.int .u8 0) (.string ⟨#[]⟩) (.string ⟨#[]⟩) (.int .i64 0) (.slice none 0 0) (.int .i64 (i : Int)) (.slice none 0 0) (.slice (some ⟨wr.heap.size, 0, none⟩) 1 1)).trans (World.grownBy_alloc _ _ _)
              have hO : OL 12 (CR.vs (m := 1)) 29 (((((((((((((wr.setCell ⟨X7.heap.size, 0, none⟩ (.int .u8 6)).setCell ⟨X7.heap.size, 1, none⟩ (.string ⟨#[]⟩)).setCell ⟨X7.heap.size, 2, none⟩ (.string ⟨#[]⟩)).setCell ⟨X7.heap.size, 3, none⟩ (.string ⟨#[]⟩)).setCell ⟨X7.heap.size, 4, none⟩ (.int .u8 0)).setCell ⟨X7.heap.size, 5, none⟩ (.string ⟨#[]⟩)).setCell ⟨X7.heap.size, 6, none⟩ (.string ⟨#[]⟩)).setCell ⟨X7.heap.size, 7, none⟩ (.int .i64 0)).setCell ⟨X7.heap.size, 8, none⟩ (.slice none 0 0)).setCell ⟨X7.heap.size, 9, none⟩ (.int .i64 (i : Int))).setCell ⟨X7.heap.size, 10, none⟩ (.slice none 0 0)).setCell ⟨X7.heap.size, 11, none⟩ (.slice (some ⟨wr.heap.size, 0, none⟩) 1 1)).alloc (.cells #[.int .u8 a.k, .string a.fr, .string a.tu, .string a.nm, .int .u8 a.ex.top.k, .string a.ex.top.rat, .string a.ex.top.name, .int .i64 a.ex.top.date, .slice none 0 0, .int .i64 a.date, .slice none 0 0, .slice E n d] 29)) ((((((((((((wr.setCell ⟨X7.heap.size, 0, none⟩ (.int .u8 6)).setCell ⟨X7.heap.size, 1, none⟩ (.string ⟨#[]⟩)).setCell ⟨X7.heap.size, 2, none⟩ (.string ⟨#[]⟩)).setCell ⟨X7.heap.size, 3, none⟩ (.string ⟨#[]⟩)).setCell ⟨X7.heap.size, 4, none⟩ (.int .u8 0)).setCell ⟨X7.heap.size, 5, none⟩ (.string ⟨#[]⟩)).setCell ⟨X7.heap.size, 6, none⟩ (.string ⟨#[]⟩)).setCell ⟨X7.heap.size, 7, none⟩ (.int .i64 0)).setCell ⟨X7.heap.size, 8, none⟩ (.slice none 0 0)).setCell ⟨X7.heap.size, 9, none⟩ (.int .i64 (i : Int))).setCell ⟨X7.heap.size, 10, none⟩ (.slice none 0 0)).setCell ⟨X7.heap.size, 11, none⟩ (.slice (some ⟨wr.heap.size, 0, none⟩) 1 1)).heap.size (.slice (some ⟨((((((((((((wr.setCell ⟨X7.heap.size, 0, none⟩ (.int .u8 6)).setCell ⟨X7.heap.size, 1, none⟩ (.string ⟨#[]⟩)).setCell ⟨X7.heap.size, 2, none⟩ (.string ⟨#[]⟩)).setCell ⟨X7.heap.size, 3, none⟩ (.string ⟨#[]⟩)).setCell ⟨X7.heap.size, 4, none⟩ (.int .u8 0)).setCell ⟨X7.heap.size, 5, none⟩ (.string ⟨#[]⟩)).setCell ⟨X7.heap.size, 6, none⟩ (.string ⟨#[]⟩)).setCell ⟨X7.heap.size, 7, none⟩ (.int .i64 0)).setCell ⟨X7.heap.size, 8, none⟩ (.slice none 0 0)).setCell ⟨X7.heap.size, 9, none⟩ (.int .i64 (i : Int))).setCell ⟨X7.heap.size, 10, none⟩ (.slice none 0 0)).setCell ⟨X7.heap.size, 11, none⟩ (.slice (some ⟨wr.heap.size, 0, none⟩) 1 1)).heap.size, 0, none⟩) 1 1) [⟨a, .slice none 0 0, .slice none 0 0, .slice E n d⟩] := OL.lit CR.vs_len _ [⟨a, .slice none 0 0, .slice none 0 0, .slice E n d⟩] 1 _ rfl rfl (by simp)
              rw [hsz] at hO
              have HDn : Hid (∀ W, Fr (X7.heap.size + 1) (((((((((((((wr.setCell ⟨X7.heap.size, 0, none⟩ (.int .u8 6)).setCell ⟨X7.heap.size, 1, none⟩ (.string ⟨#[]⟩)).setCell ⟨X7.heap.size, 2, none⟩ (.string ⟨#[]⟩)).setCell ⟨X7.heap.size, 3, none⟩ (.string ⟨#[]⟩)).setCell ⟨X7.heap.size, 4, none⟩ (.int .u8 0)).setCell ⟨X7.heap.size, 5, none⟩ (.string ⟨#[]⟩)).setCell ⟨X7.heap.size, 6, none⟩ (.string ⟨#[]⟩)).setCell ⟨X7.heap.size, 7, none⟩ (.int .i64 0)).setCell ⟨X7.heap.size, 8, none⟩ (.slice none 0 0)).setCell ⟨X7.heap.size, 9, none⟩ (.int .i64 (i : Int))).setCell ⟨X7.heap.size, 10, none⟩ (.slice none 0 0)).setCell ⟨X7.heap.size, 11, none⟩ (.slice (some ⟨wr.heap.size, 0, none⟩) 1 1)).alloc (.cells #[.int .u8 a.k, .string a.fr, .string a.tu, .string a.nm, .int .u8 a.ex.top.k, .string a.ex.top.rat, .string a.ex.top.name, .int .i64 a.ex.top.date, .slice none 0 0, .int .i64 a.date, .slice none 0 0, .slice E n d] 29)).heap.size (((((((((((((wr.setCell ⟨X7.heap.size, 0, none⟩ (.int .u8 6)).setCell ⟨X7.heap.size, 1, none⟩ (.string ⟨#[]⟩)).setCell ⟨X7.heap.size, 2, none⟩ (.string ⟨#[]⟩)).setCell ⟨X7.heap.size, 3, none⟩ (.string ⟨#[]⟩)).setCell ⟨X7.heap.size, 4, none⟩ (.int .u8 0)).setCell ⟨X7.heap.size, 5, none⟩ (.string ⟨#[]⟩)).setCell ⟨X7.heap.size, 6, none⟩ (.string ⟨#[]⟩)).setCell ⟨X7.heap.size, 7, none⟩ (.int .i64 0)).setCell ⟨X7.heap.size, 8, none⟩ (.slice none 0 0)).setCell ⟨X7.heap.size, 9, none⟩ (.int .i64 (i : Int))).setCell ⟨X7.heap.size, 10, none⟩ (.slice none 0 0)).setCell ⟨X7.heap.size, 11, none⟩ (.slice (some ⟨wr.heap.size, 0, none⟩) 1 1)).alloc (.cells #[.int .u8 a.k, .string a.fr, .string a.tu, .string a.nm, .int .u8 a.ex.top.k, .string a.ex.top.rat, .string a.ex.top.name, .int .i64 a.ex.top.date, .slice none 0 0, .int .i64 a.date, .slice none 0 0, .slice E n d] 29)) W → CV W (i + 1 + 1) (Z.deepC (i + 1)) ⟨(⟨6, Z.e0, Z.e0, Z.e0, Z.noX, (i : Int), []⟩ : Z.CN 1), .slice none 0 0, .slice none 0 0, .slice (some ⟨wr.heap.size, 0, none⟩) 1 1⟩) := Lib.hid (fun W hW => cv_of (t := (⟨6, Z.e0, Z.e0, Z.e0, Z.noX, (i : Int), []⟩ : Z.CN 1)) (x := ⟨0, Z.e0, Z.e0, 0⟩) (by show (0 : Int) ≤ 6; decide) (by show (6 : Int) ≤ 255; decide) rfl (by show (0 : Int) ≤ 0; decide) (by show (0 : Int) ≤ 255; decide) SL.nil_ (cs_one (OL.at_ hO fun j hj => hW j (by have := (OL.lt_ hO j hj).1; omega) (OL.lt_ hO j hj).2) (HD.out W (fun j j1 j2 => (hW j j1 (Nat.lt_of_lt_of_le j2 gs.size)).trans (gs.block j j2 (fun e => by injection e with e; omega))))))
              have hlt2 : X7.heap.size < (((((((((((((wr.setCell ⟨X7.heap.size, 0, none⟩ (.int .u8 6)).setCell ⟨X7.heap.size, 1, none⟩ (.string ⟨#[]⟩)).setCell ⟨X7.heap.size, 2, none⟩ (.string ⟨#[]⟩)).setCell ⟨X7.heap.size, 3, none⟩ (.string ⟨#[]⟩)).setCell ⟨X7.heap.size, 4, none⟩ (.int .u8 0)).setCell ⟨X7.heap.size, 5, none⟩ (.string ⟨#[]⟩)).setCell ⟨X7.heap.size, 6, none⟩ (.string ⟨#[]⟩)).setCell ⟨X7.heap.size, 7, none⟩ (.int .i64 0)).setCell ⟨X7.heap.size, 8, none⟩ (.slice none 0 0)).setCell ⟨X7.heap.size, 9, none⟩ (.int .i64 (i : Int))).setCell ⟨X7.heap.size, 10, none⟩ (.slice none 0 0)).setCell ⟨X7.heap.size, 11, none⟩ (.slice (some ⟨wr.heap.size, 0, none⟩) 1 1)).alloc (.cells #[.int .u8 a.k, .string a.fr, .string a.tu, .string a.nm, .int .u8 a.ex.top.k, .string a.ex.top.rat, .string a.ex.top.name, .int .i64 a.ex.top.date, .slice none 0 0, .int .i64 a.date, .slice none 0 0, .slice E n d] 29)).heap.size := Nat.lt_of_lt_of_le hlt0 gs.size
              have z0 := bD.cell 0
              have y0 := bD.frozen 0
              have z1 := bD.cell 1
              have y1 := bD.frozen 1
              have z2 := bD.cell 2
              have y2 := bD.frozen 2
              have z3 := bD.cell 3
              have y3 := bD.frozen 3
              have z4 := bD.cell 4
              have y4 := bD.frozen 4
              have z5 := bD.cell 5
              have y5 := bD.frozen 5
              have z6 := bD.cell 6
              have y6 := bD.frozen 6
              have z7 := bD.cell 7
              have y7 := bD.frozen 7
              have z8 := bD.cell 8
              have y8 := bD.frozen 8
              have z9 := bD.cell 9
              have y9 := bD.frozen 9
              have z10 := bD.cell 10
              have y10 := bD.frozen 10
              have z11 := bD.cell 11
              have y11 := bD.frozen 11
              go_wp2_with fail
              clear z0 y0 z1 y1 z2 y2 z3 y3 z4 y4 z5 y5 z6 y6 z7 y7 z8 y8 z9 y9 z10 y10 z11 y11 hO gs hsz HD bD hbr
              generalize (((((((((((((wr.setCell ⟨X7.heap.size, 0, none⟩ (.int .u8 6)).setCell ⟨X7.heap.size, 1, none⟩ (.string ⟨#[]⟩)).setCell ⟨X7.heap.size, 2, none⟩ (.string ⟨#[]⟩)).setCell ⟨X7.heap.size, 3, none⟩ (.string ⟨#[]⟩)).setCell ⟨X7.heap.size, 4, none⟩ (.int .u8 0)).setCell ⟨X7.heap.size, 5, none⟩ (.string ⟨#[]⟩)).setCell ⟨X7.heap.size, 6, none⟩ (.string ⟨#[]⟩)).setCell ⟨X7.heap.size, 7, none⟩ (.int .i64 0)).setCell ⟨X7.heap.size, 8, none⟩ (.slice none 0 0)).setCell ⟨X7.heap.size, 9, none⟩ (.int .i64 (i : Int))).setCell ⟨X7.heap.size, 10, none⟩ (.slice none 0 0)).setCell ⟨X7.heap.size, 11, none⟩ (.slice (some ⟨wr.heap.size, 0, none⟩) 1 1)).alloc (.cells #[.int .u8 a.k, .string a.fr, .string a.tu, .string a.nm, .int .u8 a.ex.top.k, .string a.ex.top.rat, .string a.ex.top.name, .int .i64 a.ex.top.date, .slice none 0 0, .int .i64 a.date, .slice none 0 0, .slice E n d] 29)) = W9 at *
              generalize wr.heap.size = gE at *
              go_roundw
              case rel => exact ⟨i + 1, (⟨6, Z.e0, Z.e0, Z.e0, Z.noX, (i : Int), []⟩ : Z.CN 1), some ⟨gE, 0, none⟩, 1, 1, by omega, by go_num, bo2, HDn, hb2, hlt2⟩
              case measure => simp [intOf]; omega
            · obtain rfl : i = 59 := by omega
              rename World => V4
              have HD4 : Hid (CV V4 60 (Z.deepC 59) ⟨a, .slice none 0 0, .slice none 0 0, .slice E n d⟩) := Lib.hid (HD.out V4 (fun _ _ _ => rfl))
              clear hlt hi HD hlt0
              replace HCV := Lib.hid (CS.below hbr HCV.out)
              replace bS := bS.below hbr
              replace bL := bL.below hbr
              replace HL1 := Lib.hid (CV.below hbr _ HL1.out)
              replace bT := bT.below hbr
              replace HT1 := Lib.hid (CV.below hbr _ HT1.out)
              replace bN := bN.below hbr
              replace HN1 := Lib.hid (CV.below hbr _ HN1.out)
              replace bF := bF.below hbr
              replace HF1 := Lib.hid (CV.below hbr _ HF1.out)
              replace bM := bM.below hbr
              replace HM2 := Lib.hid (CV.below hbr _ HM2.out)
              have hw9 := hw8.trans (hbr.mono hw8.size)
              clear hw8
              clear hbr
              have z0 := bD.cell 0
              have z1 := bD.cell 1
              have z2 := bD.cell 2
              have z3 := bD.cell 3
              have z4 := bD.cell 4
              have z5 := bD.cell 5
              have z6 := bD.cell 6
              have z7 := bD.cell 7
              have z8 := bD.cell 8
              have z9 := bD.cell 9
              have z10 := bD.cell 10
              have z11 := bD.cell 11
              go_upto_region 47 with fail
              clear z0 z1 z2 z3 z4 z5 z6 z7 z8 z9 z10 z11
              have ks : Below V4.heap.size V4 ((V4.alloc (.cells #[.int .u8 a.k, .string a.fr, .string a.tu, .string a.nm, .int .u8 a.ex.top.k, .string a.ex.top.rat, .string a.ex.top.name, .int .i64 a.ex.top.date, .slice none 0 0, .int .i64 a.date, .slice none 0 0, .slice E n d] 29)).alloc (.cells #[.int .u8 6, .string ⟨#[]⟩, .string ⟨#[]⟩, .string ⟨#[]⟩, .int .u8 0, .string ⟨#[]⟩, .string ⟨#[]⟩, .int .i64 0, .slice none 0 0, .int .i64 0, .slice none 0 0, .slice (some ⟨V4.heap.size, 0, none⟩) 1 1] 29)) := ((Below.refl _ V4).alloc (Nat.le_refl _) (.cells #[.int .u8 a.k, .string a.fr, .string a.tu, .string a.nm, .int .u8 a.ex.top.k, .string a.ex.top.rat, .string a.ex.top.name, .int .i64 a.ex.top.date, .slice none 0 0, .int .i64 a.date, .slice none 0 0, .slice E n d] 29)).alloc (by simp) (.cells #[.int .u8 6, .string ⟨#[]⟩, .string ⟨#[]⟩, .string ⟨#[]⟩, .int .u8 0, .string ⟨#[]⟩, .string ⟨#[]⟩, .int .i64 0, .slice none 0 0, .int .i64 0, .slice none 0 0, .slice (some ⟨V4.heap.size, 0, none⟩) 1 1] 29)
              have bO : Blk ((V4.alloc (.cells #[.int .u8 a.k, .string a.fr, .string a.tu, .string a.nm, .int .u8 a.ex.top.k, .string a.ex.top.rat, .string a.ex.top.name, .int .i64 a.ex.top.date, .slice none 0 0, .int .i64 a.date, .slice none 0 0, .slice E n d] 29)).alloc (.cells #[.int .u8 6, .string ⟨#[]⟩, .string ⟨#[]⟩, .string ⟨#[]⟩, .int .u8 0, .string ⟨#[]⟩, .string ⟨#[]⟩, .int .i64 0, .slice none 0 0, .int .i64 0, .slice none 0 0, .slice (some ⟨V4.heap.size, 0, none⟩) 1 1] 29)) (V4.heap.size + 1) 29 #[.int .u8 6, .string ⟨#[]⟩, .string ⟨#[]⟩, .string ⟨#[]⟩, .int .u8 0, .string ⟨#[]⟩, .string ⟨#[]⟩, .int .i64 0, .slice none 0 0, .int .i64 0, .slice none 0 0, .slice (some ⟨V4.heap.size, 0, none⟩) 1 1] := by
                have h := Blk.new (V4.alloc (.cells #[.int .u8 a.k, .string a.fr, .string a.tu, .string a.nm, .int .u8 a.ex.top.k, .string a.ex.top.rat, .string a.ex.top.name, .int .i64 a.ex.top.date, .slice none 0 0, .int .i64 a.date, .slice none 0 0, .slice E n d] 29)) 29 #[.int .u8 6, .string ⟨#[]⟩, .string ⟨#[]⟩, .string ⟨#[]⟩, .int .u8 0, .string ⟨#[]⟩, .string ⟨#[]⟩, .int .i64 0, .slice none 0 0, .int .i64 0, .slice none 0 0, .slice (some ⟨V4.heap.size, 0, none⟩) 1 1]
                rwa [World.size_alloc] at h
              have hO : OL 12 (CR.vs (m := 1)) 29 ((V4.alloc (.cells #[.int .u8 a.k, .string a.fr, .string a.tu, .string a.nm, .int .u8 a.ex.top.k, .string a.ex.top.rat, .string a.ex.top.name, .int .i64 a.ex.top.date, .slice none 0 0, .int .i64 a.date, .slice none 0 0, .slice E n d] 29)).alloc (.cells #[.int .u8 6, .string ⟨#[]⟩, .string ⟨#[]⟩, .string ⟨#[]⟩, .int .u8 0, .string ⟨#[]⟩, .string ⟨#[]⟩, .int .i64 0, .slice none 0 0, .int .i64 0, .slice none 0 0, .slice (some ⟨V4.heap.size, 0, none⟩) 1 1] 29)) V4.heap.size (.slice (some ⟨V4.heap.size, 0, none⟩) 1 1) [⟨a, .slice none 0 0, .slice none 0 0, .slice E n d⟩] := OL.alloc (OL.lit CR.vs_len V4 [⟨a, .slice none 0 0, .slice none 0 0, .slice E n d⟩] 1 _ rfl rfl (by simp)) _
              have HO4 := Lib.hid (cv_of (t := (⟨6, Z.e0, Z.e0, Z.e0, Z.noX, 0, []⟩ : Z.CN 1)) (x := ⟨0, Z.e0, Z.e0, 0⟩) (by show (0 : Int) ≤ 6; decide) (by show (6 : Int) ≤ 255; decide) rfl (by show (0 : Int) ≤ 0; decide) (by show (0 : Int) ≤ 255; decide) SL.nil_ (cs_one hO (CV.below ks _ HD4.out)) : CV ((V4.alloc (.cells #[.int .u8 a.k, .string a.fr, .string a.tu, .string a.nm, .int .u8 a.ex.top.k, .string a.ex.top.rat, .string a.ex.top.name, .int .i64 a.ex.top.date, .slice none 0 0, .int .i64 a.date, .slice none 0 0, .slice E n d] 29)).alloc (.cells #[.int .u8 6, .string ⟨#[]⟩, .string ⟨#[]⟩, .string ⟨#[]⟩, .int .u8 0, .string ⟨#[]⟩, .string ⟨#[]⟩, .int .i64 0, .slice none 0 0, .int .i64 0, .slice none 0 0, .slice (some ⟨V4.heap.size, 0, none⟩) 1 1] 29)) 61 Z.overC ⟨(⟨6, Z.e0, Z.e0, Z.e0, Z.noX, 0, []⟩ : Z.CN 1), .slice none 0 0, .slice none 0 0, .slice (some ⟨V4.heap.size, 0, none⟩) 1 1⟩)
              clear hO
              generalize ((V4.alloc (.cells #[.int .u8 a.k, .string a.fr, .string a.tu, .string a.nm, .int .u8 a.ex.top.k, .string a.ex.top.rat, .string a.ex.top.name, .int .i64 a.ex.top.date, .slice none 0 0, .int .i64 a.date, .slice none 0 0, .slice E n d] 29)).alloc (.cells #[.int .u8 6, .string ⟨#[]⟩, .string ⟨#[]⟩, .string ⟨#[]⟩, .int .u8 0, .string ⟨#[]⟩, .string ⟨#[]⟩, .int .i64 0, .slice none 0 0, .int .i64 0, .slice none 0 0, .slice (some ⟨V4.heap.size, 0, none⟩) 1 1] 29)) = Y8 at *
              replace HCV := Lib.hid (CS.below ks HCV.out)
              replace bS := bS.below ks
              replace bL := bL.below ks
              replace HL1 := Lib.hid (CV.below ks _ HL1.out)
              replace bT := bT.below ks
              replace HT1 := Lib.hid (CV.below ks _ HT1.out)
              replace bN := bN.below ks
              replace HN1 := Lib.hid (CV.below ks _ HN1.out)
              replace bF := bF.below ks
              replace HF1 := Lib.hid (CV.below ks _ HF1.out)
              replace bM := bM.below ks
              replace HM2 := Lib.hid (CV.below ks _ HM2.out)
              replace bD := bD.below ks
              replace HD4 := Lib.hid (CV.below ks _ HD4.out)
              have hw10 := hw9.trans (ks.mono hw9.size)
              clear hw9
              clear ks
              go_wp2_with fail
              refine (lzero_any Y8).mono ?_
              rintro e X8 ⟨rfl, kb⟩
              replace HCV := Lib.hid (CS.below kb HCV.out)
              replace bS := bS.below kb
              replace bL := bL.below kb
              replace HL1 := Lib.hid (CV.below kb _ HL1.out)
              replace bT := bT.below kb
              replace HT1 := Lib.hid (CV.below kb _ HT1.out)
              replace bN := bN.below kb
              replace HN1 := Lib.hid (CV.below kb _ HN1.out)
              replace bF := bF.below kb
              replace HF1 := Lib.hid (CV.below kb _ HF1.out)
              replace bM := bM.below kb
              replace HM2 := Lib.hid (CV.below kb _ HM2.out)
              replace bD := bD.below kb
              replace HD4 := Lib.hid (CV.below kb _ HD4.out)
              replace bO := bO.below kb
              replace HO4 := Lib.hid (CV.below kb _ HO4.out)
              have hw11 := hw10.trans (kb.mono hw10.size)
              clear hw10
              clear kb
              have bW := Blk.new X8 29 #[.int .u8 1, .string Z.e0, .string Z.e0, .string Z.e0, .int .u8 0, .string Z.e0, .string Z.e0, .int .i64 0, .slice none 0 0, .int .i64 0, .slice none 0 0, .slice none 0 0]
              have kd := (Below.refl X8.heap.size X8).alloc (Nat.le_refl _) (.cells #[.int .u8 1, .string Z.e0, .string Z.e0, .string Z.e0, .int .u8 0, .string Z.e0, .string Z.e0, .int .i64 0, .slice none 0 0, .int .i64 0, .slice none 0 0, .slice none 0 0] 29)
              have hsd : X8.heap.size < (X8.alloc (.cells #[.int .u8 1, .string Z.e0, .string Z.e0, .string Z.e0, .int .u8 0, .string Z.e0, .string Z.e0, .int .i64 0, .slice none 0 0, .int .i64 0, .slice none 0 0, .slice none 0 0] 29)).heap.size := by simp
              go_wp2_with fail
              generalize (X8.alloc (.cells #[.int .u8 1, .string Z.e0, .string Z.e0, .string Z.e0, .int .u8 0, .string Z.e0, .string Z.e0, .int .i64 0, .slice none 0 0, .int .i64 0, .slice none 0 0, .slice none 0 0] 29)) = Y9 at *
              go_loopw [17] (fun iv wr => ∃ (i : Nat) (a2 : Z.CN 1) (E2 : Option Addr) (n2 d2 : Nat), i ≤ 8 ∧ iv = .int .i64 i ∧ Blk wr X8.heap.size 29 #[.int .u8 a2.k, .string a2.fr, .string a2.tu, .string a2.nm, .int .u8 a2.ex.top.k, .string a2.ex.top.rat, .string a2.ex.top.name, .int .i64 a2.ex.top.date, .slice none 0 0, .int .i64 a2.date, .slice none 0 0, .slice E2 n2 d2] ∧ Hid (∀ W, Fr (X8.heap.size + 1) wr.heap.size wr W → CV W (i + 1) (Z.wideC i) ⟨a2, .slice none 0 0, .slice none 0 0, .slice E2 n2 d2⟩) ∧ Below X8.heap.size X8 wr ∧ X8.heap.size < wr.heap.size) (fun iv _ => 8 - (intOf iv).toNat)
              case atStart => exact ⟨0, Z.zeroN, none, 0, 0, by omega, rfl, bW, Lib.hid (fun W _ => CV.zero W), kd, hsd⟩
              case round =>
                clear bW kd hsd
                obtain ⟨i, a2, E2, n2, d2, hi, rfl, bW, HD, hbr, hlt0⟩ := hrel
                by_cases hlt : i < 8
                · have hi1 : (i : Int) < 8 := by omega
                  have bo2 := (bW.store12 (.int .u8 3) (.string ⟨#[]⟩) (.string ⟨#[]⟩) (.string ⟨#[]⟩) (.int .u8 0) (.string ⟨#[]⟩) (.string ⟨#[]⟩) (.int .i64 0) (.slice none 0 0) (.int .i64 0) (.slice none 0 0) (.slice (some ⟨wr.heap.size, 0, none⟩) 2 2)).alloc (.cells #[.int .u8 a2.k, .string a2.fr, .string a2.tu, .string a2.nm, .int .u8 a2.ex.top.k, .string a2.ex.top.rat, .string a2.ex.top.name, .int .i64 a2.ex.top.date, .slice none 0 0, .int .i64 a2.date, .slice none 0 0, .slice E2 n2 d2, .int .u8 a2.k, .string a2.fr, .string a2.tu, .string a2.nm, .int .u8 a2.ex.top.k, .string a2.ex.top.rat, .string a2.ex.top.name, .int .i64 a2.ex.top.date, .slice none 0 0, .int .i64 a2.date, .slice none 0 0, .slice E2 n2 d2] 29)
                  have hsz : ((((((((((((wr.setCell ⟨X8.heap.size, 0, none⟩ (.int .u8 3)).setCell ⟨X8.heap.size, 1, none⟩ (.string ⟨#[]⟩)).setCell ⟨X8.heap.size, 2, none⟩ (.string ⟨#[]⟩)).setCell ⟨X8.heap.size, 3, none⟩ (.string ⟨#[]⟩)).setCell ⟨X8.heap.size, 4, none⟩ (.int .u8 0)).setCell ⟨X8.heap.size, 5, none⟩ (.string ⟨#[]⟩)).setCell ⟨X8.heap.size, 6, none⟩ (.string ⟨#[]⟩)).setCell ⟨X8.heap.size, 7, none⟩ (.int .i64 0)).setCell ⟨X8.heap.size, 8, none⟩ (.slice none 0 0)).setCell ⟨X8.heap.size, 9, none⟩ (.int .i64 0)).setCell ⟨X8.heap.size, 10, none⟩ (.slice none 0 0)).setCell ⟨X8.heap.size, 11, none⟩ (.slice (some ⟨wr.heap.size, 0, none⟩) 2 2)).heap.size = wr.heap.size := by simp
                  have hb2 := (Below.store12 hbr (Nat.le_refl X8.heap.size) (.int .u8 3) (.string ⟨#[]⟩) (.string ⟨#[]⟩) (.string ⟨#[]⟩) (.int .u8 0) (.string ⟨#[]⟩) (.string ⟨#[]⟩) (.int .i64 0) (.slice none 0 0) (.int .i64 0) (.slice none 0 0) (.slice (some ⟨wr.heap.size, 0, none⟩) 2 2)).alloc (by rw [hsz]; exact Nat.le_of_lt hlt0) (.cells #[.int .u8 a2.k, .string a2.fr, .string a2.tu, .string a2.nm, .int .u8 a2.ex.top.k, .string a2.ex.top.rat, .string a2.ex.top.name, .int .i64 a2.ex.top.date, .slice none 0 0, .int .i64 a2.date, .slice none 0 0, .slice E2 n2 d2, .int .u8 a2.k, .string a2.fr, .string a2.tu, .string a2.nm, .int .u8 a2.ex.top.k, .string a2.ex.top.rat, .string a2.ex.top.name, .int .i64 a2.ex.top.date, .slice none 0 0, .int .i64 a2.date, .slice none 0 0, .slice E2 n2 d2] 29)
                  have gs : wr.grownBy (((((((((((((wr.setCell ⟨X8.heap.size, 0, none⟩ (.int .u8 3)).setCell ⟨X8.heap.size, 1, none⟩ (.string ⟨#[]⟩)).setCell ⟨X8.heap.size, 2, none⟩ (.string ⟨#[]⟩)).setCell ⟨X8.heap.size, 3, none⟩ (.string ⟨#[]⟩)).setCell ⟨X8.heap.size, 4, none⟩ (.int .u8 0)).setCell ⟨X8.heap.size, 5, none⟩ (.string ⟨#[]⟩)).setCell ⟨X8.heap.size, 6, none⟩ (.string ⟨#[]⟩)).setCell ⟨X8.heap.size, 7, none⟩ (.int .i64 0)).setCell ⟨X8.heap.size, 8, none⟩ (.slice none 0 0)).setCell ⟨X8.heap.size, 9, none⟩ (.int .i64 0)).setCell ⟨X8.heap.size, 10, none⟩ (.slice none 0 0)).setCell ⟨X8.heap.size, 11, none⟩ (.slice (some ⟨wr.heap.size, 0, none⟩) 2 2)).alloc (.cells #[.int .u8 a2.k, .string a2.fr, .string a2.tu, .string a2.nm, .int .u8 a2.ex.top.k, .string a2.ex.top.rat, .string a2.ex.top.name, .int .i64 a2.ex.top.date, .slice none 0 0, .int .i64 a2.date, .slice none 0 0, .slice E2 n2 d2, .int .u8 a2.k, .string a2.fr, .string a2.tu, .string a2.nm, .int .u8 a2.ex.top.k, .string a2.ex.top.rat, .string a2.ex.top.name, .int .i64 a2.ex.top.date, .slice none 0 0, .int .i64 a2.date, .slice none 0 0, .slice E2 n2 d2] 29)) (some X8.heap.size) := (grown_store12 wr X8.heap.size (.int .u8 3) (.string ⟨#[]⟩) (.string ⟨#[]⟩) (.string ⟨#[]⟩) (.int .u8 0) (.string ⟨#[]⟩) (.string ⟨#[]⟩) (.int .i64 0) (.slice none 0 0) (.int .i64 0) (.slice none 0 0) (.slice (some ⟨wr.heap.size, 0, none⟩) 2 2)).trans (World.grownBy_alloc _ _ _)
                  have hO : OL 12 (CR.vs (m := 1)) 29 (((((((((((((wr.setCell ⟨X8.heap.size, 0, none⟩ (.int .u8 3)).setCell ⟨X8.heap.size, 1, none⟩ (.string ⟨#[]⟩)).setCell ⟨X8.heap.size, 2, none⟩ (.string ⟨#[]⟩)).setCell ⟨X8.heap.size, 3, none⟩ (.string ⟨#[]⟩)).setCell ⟨X8.heap.size, 4, none⟩ (.int .u8 0)).setCell ⟨X8.heap.size, 5, none⟩ (.string ⟨#[]⟩)).setCell ⟨X8.heap.size, 6, none⟩ (.string ⟨#[]⟩)).setCell ⟨X8.heap.size, 7, none⟩ (.int .i64 0)).setCell ⟨X8.heap.size, 8, none⟩ (.slice none 0 0)).setCell ⟨X8.heap.size, 9, none⟩ (.int .i64 0)).setCell ⟨X8.heap.size, 10, none⟩ (.slice none 0 0)).setCell ⟨X8.heap.size, 11, none⟩ (.slice (some ⟨wr.heap.size, 0, none⟩) 2 2)).alloc (.cells #[.int .u8 a2.k, .string a2.fr, .string a2.tu, .string a2.nm, .int .u8 a2.ex.top.k, .string a2.ex.top.rat, .string a2.ex.top.name, .int .i64 a2.ex.top.date, .slice none 0 0, .int .i64 a2.date, .slice none 0 0, .slice E2 n2 d2, .int .u8 a2.k, .string a2.fr, .string a2.tu, .string a2.nm, .int .u8 a2.ex.top.k, .string a2.ex.top.rat, .string a2.ex.top.name, .int .i64 a2.ex.top.date, .slice none 0 0, .int .i64 a2.date, .slice none 0 0, .slice E2 n2 d2] 29)) ((((((((((((wr.setCell ⟨X8.heap.size, 0, none⟩ (.int .u8 3)).setCell ⟨X8.heap.size, 1, none⟩ (.string ⟨#[]⟩)).setCell ⟨X8.heap.size, 2, none⟩ (.string ⟨#[]⟩)).setCell ⟨X8.heap.size, 3, none⟩ (.string ⟨#[]⟩)).setCell ⟨X8.heap.size, 4, none⟩ (.int .u8 0)).setCell ⟨X8.heap.size, 5, none⟩ (.string ⟨#[]⟩)).setCell ⟨X8.heap.size, 6, none⟩ (.string ⟨#[]⟩)).setCell ⟨X8.heap.size, 7, none⟩ (.int .i64 0)).setCell ⟨X8.heap.size, 8, none⟩ (.slice none 0 0)).setCell ⟨X8.heap.size, 9, none⟩ (.int .i64 0)).setCell ⟨X8.heap.size, 10, none⟩ (.slice none 0 0)).setCell ⟨X8.heap.size, 11, none⟩ (.slice (some ⟨wr.heap.size, 0, none⟩) 2 2)).heap.size (.slice (some ⟨((((((((((((wr.setCell ⟨X8.heap.size, 0, none⟩ (.int .u8 3)).setCell ⟨X8.heap.size, 1, none⟩ (.string ⟨#[]⟩)).setCell ⟨X8.heap.size, 2, none⟩ (.string ⟨#[]⟩)).setCell ⟨X8.heap.size, 3, none⟩ (.string ⟨#[]⟩)).setCell ⟨X8.heap.size, 4, none⟩ (.int .u8 0)).setCell ⟨X8.heap.size, 5, none⟩ (.string ⟨#[]⟩)).setCell ⟨X8.heap.size, 6, none⟩ (.string ⟨#[]⟩)).setCell ⟨X8.heap.size, 7, none⟩ (.int .i64 0)).setCell ⟨X8.heap.size, 8, none⟩ (.slice none 0 0)).setCell ⟨X8.heap.size, 9, none⟩ (.int .i64 0)).setCell ⟨X8.heap.size, 10, none⟩ (.slice none 0 0)).setCell ⟨X8.heap.size, 11, none⟩ (.slice (some ⟨wr.heap.size, 0, none⟩) 2 2)).heap.size, 0, none⟩) 2 2) [⟨a2, .slice none 0 0, .slice none 0 0, .slice E2 n2 d2⟩, ⟨a2, .slice none 0 0, .slice none 0 0, .slice E2 n2 d2⟩] := OL.lit CR.vs_len _ [⟨a2, .slice none 0 0, .slice none 0 0, .slice E2 n2 d2⟩, ⟨a2, .slice none 0 0, .slice none 0 0, .slice E2 n2 d2⟩] 2 _ rfl rfl (by simp)
                  rw [hsz] at hO
                  have HDn : Hid (∀ W, Fr (X8.heap.size + 1) (((((((((((((wr.setCell ⟨X8.heap.size, 0, none⟩ (.int .u8 3)).setCell ⟨X8.heap.size, 1, none⟩ (.string ⟨#[]⟩)).setCell ⟨X8.heap.size, 2, none⟩ (.string ⟨#[]⟩)).setCell ⟨X8.heap.size, 3, none⟩ (.string ⟨#[]⟩)).setCell ⟨X8.heap.size, 4, none⟩ (.int .u8 0)).setCell ⟨X8.heap.size, 5, none⟩ (.string ⟨#[]⟩)).setCell ⟨X8.heap.size, 6, none⟩ (.string ⟨#[]⟩)).setCell ⟨X8.heap.size, 7, none⟩ (.int .i64 0)).setCell ⟨X8.heap.size, 8, none⟩ (.slice none 0 0)).setCell ⟨X8.heap.size, 9, none⟩ (.int .i64 0)).setCell ⟨X8.heap.size, 10, none⟩ (.slice none 0 0)).setCell ⟨X8.heap.size, 11, none⟩ (.slice (some ⟨wr.heap.size, 0, none⟩) 2 2)).alloc (.cells #[.int .u8 a2.k, .string a2.fr, .string a2.tu, .string a2.nm, .int .u8 a2.ex.top.k, .string a2.ex.top.rat, .string a2.ex.top.name, .int .i64 a2.ex.top.date, .slice none 0 0, .int .i64 a2.date, .slice none 0 0, .slice E2 n2 d2, .int .u8 a2.k, .string a2.fr, .string a2.tu, .string a2.nm, .int .u8 a2.ex.top.k, .string a2.ex.top.rat, .string a2.ex.top.name, .int .i64 a2.ex.top.date, .slice none 0 0, .int .i64 a2.date, .slice none 0 0, .slice E2 n2 d2] 29)).heap.size (((((((((((((wr.setCell ⟨X8.heap.size, 0, none⟩ (.int .u8 3)).setCell ⟨X8.heap.size, 1, none⟩ (.string ⟨#[]⟩)).setCell ⟨X8.heap.size, 2, none⟩ (.string ⟨#[]⟩)).setCell ⟨X8.heap.size, 3, none⟩ (.string ⟨#[]⟩)).setCell ⟨X8.heap.size, 4, none⟩ (.int .u8 0)).setCell ⟨X8.heap.size, 5, none⟩ (.string ⟨#[]⟩)).setCell ⟨X8.heap.size, 6, none⟩ (.string ⟨#[]⟩)).setCell ⟨X8.heap.size, 7, none⟩ (.int .i64 0)).setCell ⟨X8.heap.size, 8, none⟩ (.slice none 0 0)).setCell ⟨X8.heap.size, 9, none⟩ (.int .i64 0)).setCell ⟨X8.heap.size, 10, none⟩ (.slice none 0 0)).setCell ⟨X8.heap.size, 11, none⟩ (.slice (some ⟨wr.heap.size, 0, none⟩) 2 2)).alloc (.cells #[.int .u8 a2.k, .string a2.fr, .string a2.tu, .string a2.nm, .int .u8 a2.ex.top.k, .string a2.ex.top.rat, .string a2.ex.top.name, .int .i64 a2.ex.top.date, .slice none 0 0, .int .i64 a2.date, .slice none 0 0, .slice E2 n2 d2, .int .u8 a2.k, .string a2.fr, .string a2.tu, .string a2.nm, .int .u8 a2.ex.top.k, .string a2.ex.top.rat, .string a2.ex.top.name, .int .i64 a2.ex.top.date, .slice none 0 0, .int .i64 a2.date, .slice none 0 0, .slice E2 n2 d2] 29)) W → CV W (i + 1 + 1) (Z.wideC (i + 1)) ⟨(⟨3, Z.e0, Z.e0, Z.e0, Z.noX, 0, []⟩ : Z.CN 1), .slice none 0 0, .slice none 0 0, .slice (some ⟨wr.heap.size, 0, none⟩) 2 2⟩) := Lib.hid (fun W hW => cv_of (t := (⟨3, Z.e0, Z.e0, Z.e0, Z.noX, 0, []⟩ : Z.CN 1)) (x := ⟨0, Z.e0, Z.e0, 0⟩) (by show (0 : Int) ≤ 3; decide) (by show (3 : Int) ≤ 255; decide) rfl (by show (0 : Int) ≤ 0; decide) (by show (0 : Int) ≤ 255; decide) SL.nil_ (cs_two (OL.at_ hO fun j hj => hW j (by have := (OL.lt_ hO j hj).1; omega) (OL.lt_ hO j hj).2) (HD.out W (fun j j1 j2 => (hW j j1 (Nat.lt_of_lt_of_le j2 gs.size)).trans (gs.block j j2 (fun e => by injection e with e; omega)))) (HD.out W (fun j j1 j2 => (hW j j1 (Nat.lt_of_lt_of_le j2 gs.size)).trans (gs.block j j2 (fun e => by injection e with e; omega))))))
                  have hlt2 : X8.heap.size < (((((((((((((wr.setCell ⟨X8.heap.size, 0, none⟩ (.int .u8 3)).setCell ⟨X8.heap.size, 1, none⟩ (.string ⟨#[]⟩)).setCell ⟨X8.heap.size, 2, none⟩ (.string ⟨#[]⟩)).setCell ⟨X8.heap.size, 3, none⟩ (.string ⟨#[]⟩)).setCell ⟨X8.heap.size, 4, none⟩ (.int .u8 0)).setCell ⟨X8.heap.size, 5, none⟩ (.string ⟨#[]⟩)).setCell ⟨X8.heap.size, 6, none⟩ (.string ⟨#[]⟩)).setCell ⟨X8.heap.size, 7, none⟩ (.int .i64 0)).setCell ⟨X8.heap.size, 8, none⟩ (.slice none 0 0)).setCell ⟨X8.heap.size, 9, none⟩ (.int .i64 0)).setCell ⟨X8.heap.size, 10, none⟩ (.slice none 0 0)).setCell ⟨X8.heap.size, 11, none⟩ (.slice (some ⟨wr.heap.size, 0, none⟩) 2 2)).alloc (.cells #[.int .u8 a2.k, .string a2.fr, .string a2.tu, .string a2.nm, .int .u8 a2.ex.top.k, .string a2.ex.top.rat, .string a2.ex.top.name, .int .i64 a2.ex.top.date, .slice none 0 0, .int .i64 a2.date, .slice none 0 0, .slice E2 n2 d2, .int .u8 a2.k, .string a2.fr, .string a2.tu, .string a2.nm, .int .u8 a2.ex.top.k, .string a2.ex.top.rat, .string a2.ex.top.name, .int .i64 a2.ex.top.date, .slice none 0 0, .int .i64 a2.date, .slice none 0 0, .slice E2 n2 d2] 29)).heap.size := Nat.lt_of_lt_of_le hlt0 gs.size
                  have z0 := bW.cell 0
                  have y0 := bW.frozen 0
                  have z1 := bW.cell 1
                  have y1 := bW.frozen 1
                  have z2 := bW.cell 2
                  have y2 := bW.frozen 2
                  have z3 := bW.cell 3
                  have y3 := bW.frozen 3
                  have z4 := bW.cell 4
                  have y4 := bW.frozen 4
                  have z5 := bW.cell 5
                  have y5 := bW.frozen 5
                  have z6 := bW.cell 6
                  have y6 := bW.frozen 6
                  have z7 := bW.cell 7
                  have y7 := bW.frozen 7
                  have z8 := bW.cell 8
                  have y8 := bW.frozen 8
                  have z9 := bW.cell 9
                  have y9 := bW.frozen 9
                  have z10 := bW.cell 10
                  have y10 := bW.frozen 10
                  have z11 := bW.cell 11
                  have y11 := bW.frozen 11
                  go_wp2_with fail
                  clear z0 y0 z1 y1 z2 y2 z3 y3 z4 y4 z5 y5 z6 y6 z7 y7 z8 y8 z9 y9 z10 y10 z11 y11 hO gs hsz HD bW hbr
                  generalize (((((((((((((wr.setCell ⟨X8.heap.size, 0, none⟩ (.int .u8 3)).setCell ⟨X8.heap.size, 1, none⟩ (.string ⟨#[]⟩)).setCell ⟨X8.heap.size, 2, none⟩ (.string ⟨#[]⟩)).setCell ⟨X8.heap.size, 3, none⟩ (.string ⟨#[]⟩)).setCell ⟨X8.heap.size, 4, none⟩ (.int .u8 0)).setCell ⟨X8.heap.size, 5, none⟩ (.string ⟨#[]⟩)).setCell ⟨X8.heap.size, 6, none⟩ (.string ⟨#[]⟩)).setCell ⟨X8.heap.size, 7, none⟩ (.int .i64 0)).setCell ⟨X8.heap.size, 8, none⟩ (.slice none 0 0)).setCell ⟨X8.heap.size, 9, none⟩ (.int .i64 0)).setCell ⟨X8.heap.size, 10, none⟩ (.slice none 0 0)).setCell ⟨X8.heap.size, 11, none⟩ (.slice (some ⟨wr.heap.size, 0, none⟩) 2 2)).alloc (.cells #[.int .u8 a2.k, .string a2.fr, .string a2.tu, .string a2.nm, .int .u8 a2.ex.top.k, .string a2.ex.top.rat, .string a2.ex.top.name, .int .i64 a2.ex.top.date, .slice none 0 0, .int .i64 a2.date, .slice none 0 0, .slice E2 n2 d2, .int .u8 a2.k, .string a2.fr, .string a2.tu, .string a2.nm, .int .u8 a2.ex.top.k, .string a2.ex.top.rat, .string a2.ex.top.name, .int .i64 a2.ex.top.date, .slice none 0 0, .int .i64 a2.date, .slice none 0 0, .slice E2 n2 d2] 29)) = W9 at *
                  generalize wr.heap.size = gE at *
                  go_roundw
                  case rel => exact ⟨i + 1, (⟨3, Z.e0, Z.e0, Z.e0, Z.noX, 0, []⟩ : Z.CN 1), some ⟨gE, 0, none⟩, 2, 2, by omega, by go_num, bo2, HDn, hb2, hlt2⟩
                  case measure => simp [intOf]; omega
                · obtain rfl : i = 8 := by omega
                  rename World => V5
                  have HW5 : Hid (CV V5 9 (Z.wideC 8) ⟨a2, .slice none 0 0, .slice none 0 0, .slice E2 n2 d2⟩) := Lib.hid (HD.out V5 (fun _ _ _ => rfl))
                  clear hlt hi HD hlt0
                  replace HCV := Lib.hid (CS.below hbr HCV.out)
                  replace bS := bS.below hbr
                  replace bL := bL.below hbr
                  replace HL1 := Lib.hid (CV.below hbr _ HL1.out)
                  replace bT := bT.below hbr
                  replace HT1 := Lib.hid (CV.below hbr _ HT1.out)
                  replace bN := bN.below hbr
                  replace HN1 := Lib.hid (CV.below hbr _ HN1.out)
                  replace bF := bF.below hbr
                  replace HF1 := Lib.hid (CV.below hbr _ HF1.out)
                  replace bM := bM.below hbr
                  replace HM2 := Lib.hid (CV.below hbr _ HM2.out)
                  replace bD := bD.below hbr
                  replace HD4 := Lib.hid (CV.below hbr _ HD4.out)
                  replace bO := bO.below hbr
                  replace HO4 := Lib.hid (CV.below hbr _ HO4.out)
                  have hw12 := hw11.trans (hbr.mono hw11.size)
                  clear hw11
                  clear hbr
                  have z0 := bD.cell 0
                  have z1 := bD.cell 1
                  have z2 := bD.cell 2
                  have z3 := bD.cell 3
                  have z4 := bD.cell 4
                  have z5 := bD.cell 5
                  have z6 := bD.cell 6
                  have z7 := bD.cell 7
                  have z8 := bD.cell 8
                  have z9 := bD.cell 9
                  have z10 := bD.cell 10
                  have z11 := bD.cell 11
                  have HC : Hid (Calls Tryd.prog 18 #[.agg #[.int .u8 a.k, .string a.fr, .string a.tu, .string a.nm, .int .u8 a.ex.top.k, .string a.ex.top.rat, .string a.ex.top.name, .int .i64 a.ex.top.date, .slice none 0 0, .int .i64 a.date, .slice none 0 0, .slice E n d]] V5 fun e w' => e = .returned (.tuple #[.int .i64 58, .int .i64 0]) ∧ Below V5.heap.size V5 w') := Lib.hid (by
                    have h := chor_any 59 (Z.deepC 59) ⟨a, .slice none 0 0, .slice none 0 0, .slice E n d⟩ V5 HD4.out (HLL.out _ hw12) (HVV.out _ hw12) Z.deep_sm
                    have e1 : Z.horZ (59 + 1) (Z.deepC 59) = 58 := Z.hor_deep
                    have e2 : Z.coE (59 + 1) (Z.deepC 59) = 0 := Z.deep_E
                    rw [e1, e2] at h
                    exact h)
                  go_wp2_with fail
                  refine HC.out.mono ?_
                  rintro e T1 ⟨rfl, kb⟩
                  clear HC z0 z1 z2 z3 z4 z5 z6 z7 z8 z9 z10 z11
                  replace HCV := Lib.hid (CS.below kb HCV.out)
                  replace bS := bS.below kb
                  replace bL := bL.below kb
                  replace HL1 := Lib.hid (CV.below kb _ HL1.out)
                  replace bT := bT.below kb
                  replace HT1 := Lib.hid (CV.below kb _ HT1.out)
                  replace bN := bN.below kb
                  replace HN1 := Lib.hid (CV.below kb _ HN1.out)
                  replace bF := bF.below kb
                  replace HF1 := Lib.hid (CV.below kb _ HF1.out)
                  replace bM := bM.below kb
                  replace HM2 := Lib.hid (CV.below kb _ HM2.out)
                  replace bD := bD.below kb
                  replace HD4 := Lib.hid (CV.below kb _ HD4.out)
                  replace bO := bO.below kb
                  replace HO4 := Lib.hid (CV.below kb _ HO4.out)
                  replace bW := bW.below kb
                  replace HW5 := Lib.hid (CV.below kb _ HW5.out)
                  have hw13 := hw12.trans (kb.mono hw12.size)
                  clear hw12
                  clear kb
                  obtain ⟨yp, hyp⟩ : ∃ y, Z.allC[4]? = some y := ⟨_, rfl⟩
                  obtain ⟨bb, oo, ax, ux, dx, sx, hA, _, z0, z1, z2, z3, z4, z5, z6, z7, z8, z9, z10, z11, hv⟩ := CS.cells HCV.out hyp
                  obtain ⟨rfl, rfl⟩ : g = bb ∧ 0 = oo := by injection hA with hA; injection hA with e1 e2; exact ⟨e1, e2⟩
                  simp only [Nat.zero_add, Nat.reduceMul, Nat.reduceAdd] at z0 z1 z2 z3 z4 z5 z6 z7 z8 z9 z10 z11
                  obtain ⟨⟨Au, ku, cu, rfl⟩, ⟨Ad, kd, cd, rfl⟩, ⟨As, ks, cs, rfl⟩⟩ := hv.shape
                  obtain ⟨rfl, _, _, _⟩ := hv.open_
                  have HM := Lib.hid (List.mem_of_getElem? hyp)
                  clear hA
                  have HC : Hid (Calls Tryd.prog 18 #[.agg #[.int .u8 yp.top.k, .string yp.top.fr, .string yp.top.tu, .string yp.top.nm, .int .u8 yp.top.ex.top.k, .string yp.top.ex.top.rat, .string yp.top.ex.top.name, .int .i64 yp.top.ex.top.date, .slice Au ku cu, .int .i64 yp.top.date, .slice Ad kd cd, .slice As ks cs]] T1 fun e w' => e = .returned (.tuple #[.int .i64 40, .int .i64 0]) ∧ Below T1.heap.size T1 w') := Lib.hid (by
                    have h := chor_any 1 yp ⟨yp.top, .slice Au ku cu, .slice Ad kd cd, .slice As ks cs⟩ T1 hv (HLL.out _ hw13) (HVV.out _ hw13) (Z.all_sm HM.out)
                    have e1 : Z.horZ (1 + 1) yp = 40 := Z.hor_4 _ hyp
                    have e2 : Z.coE (1 + 1) yp = 0 := Z.all_E _ HM.out
                    rw [e1, e2] at h
                    exact h)
                  go_wp2_with fail
                  refine HC.out.mono ?_
                  rintro e T2 ⟨rfl, kb⟩
                  clear HC
                  replace HCV := Lib.hid (CS.below kb HCV.out)
                  replace bS := bS.below kb
                  replace bL := bL.below kb
                  replace HL1 := Lib.hid (CV.below kb _ HL1.out)
                  replace bT := bT.below kb
                  replace HT1 := Lib.hid (CV.below kb _ HT1.out)
                  replace bN := bN.below kb
                  replace HN1 := Lib.hid (CV.below kb _ HN1.out)
                  replace bF := bF.below kb
                  replace HF1 := Lib.hid (CV.below kb _ HF1.out)
                  replace bM := bM.below kb
                  replace HM2 := Lib.hid (CV.below kb _ HM2.out)
                  replace bD := bD.below kb
                  replace HD4 := Lib.hid (CV.below kb _ HD4.out)
                  replace bO := bO.below kb
                  replace HO4 := Lib.hid (CV.below kb _ HO4.out)
                  replace bW := bW.below kb
                  replace HW5 := Lib.hid (CV.below kb _ HW5.out)
                  have hw14 := hw13.trans (kb.mono hw13.size)
                  clear hw13
                  clear kb
                  clear z0 z1 z2 z3 z4 z5 z6 z7 z8 z9 z10 z11 hv HM hyp
                  obtain ⟨yq, hyq⟩ : ∃ y, Z.allC[9]? = some y := ⟨_, rfl⟩
                  obtain ⟨bb, oo, ax, ux, dx, sx, hA, _, z0, z1, z2, z3, z4, z5, z6, z7, z8, z9, z10, z11, hv⟩ := CS.cells HCV.out hyq
                  obtain ⟨rfl, rfl⟩ : g = bb ∧ 0 = oo := by injection hA with hA; injection hA with e1 e2; exact ⟨e1, e2⟩
                  simp only [Nat.zero_add, Nat.reduceMul, Nat.reduceAdd] at z0 z1 z2 z3 z4 z5 z6 z7 z8 z9 z10 z11
                  obtain ⟨⟨Au, ku, cu, rfl⟩, ⟨Ad, kd, cd, rfl⟩, ⟨As, ks, cs, rfl⟩⟩ := hv.shape
                  obtain ⟨rfl, _, _, _⟩ := hv.open_
                  have HM := Lib.hid (List.mem_of_getElem? hyq)
                  clear hA
                  have HC : Hid (Calls Tryd.prog 18 #[.agg #[.int .u8 yq.top.k, .string yq.top.fr, .string yq.top.tu, .string yq.top.nm, .int .u8 yq.top.ex.top.k, .string yq.top.ex.top.rat, .string yq.top.ex.top.name, .int .i64 yq.top.ex.top.date, .slice Au ku cu, .int .i64 yq.top.date, .slice Ad kd cd, .slice As ks cs]] T2 fun e w' => e = .returned (.tuple #[.int .i64 40, .int .i64 0]) ∧ Below T2.heap.size T2 w') := Lib.hid (by
                    have h := chor_any 1 yq ⟨yq.top, .slice Au ku cu, .slice Ad kd cd, .slice As ks cs⟩ T2 hv (HLL.out _ hw14) (HVV.out _ hw14) (Z.all_sm HM.out)
                    have e1 : Z.horZ (1 + 1) yq = 40 := Z.hor_9 _ hyq
                    have e2 : Z.coE (1 + 1) yq = 0 := Z.all_E _ HM.out
                    rw [e1, e2] at h
                    exact h)
                  go_wp2_with fail
                  refine HC.out.mono ?_
                  rintro e T3 ⟨rfl, kb⟩
                  clear HC
                  replace HCV := Lib.hid (CS.below kb HCV.out)
                  replace bS := bS.below kb
                  replace bL := bL.below kb
                  replace HL1 := Lib.hid (CV.below kb _ HL1.out)
                  replace bT := bT.below kb
                  replace HT1 := Lib.hid (CV.below kb _ HT1.out)
                  replace bN := bN.below kb
                  replace HN1 := Lib.hid (CV.below kb _ HN1.out)
                  replace bF := bF.below kb
                  replace HF1 := Lib.hid (CV.below kb _ HF1.out)
                  replace bM := bM.below kb
                  replace HM2 := Lib.hid (CV.below kb _ HM2.out)
                  replace bD := bD.below kb
                  replace HD4 := Lib.hid (CV.below kb _ HD4.out)
                  replace bO := bO.below kb
                  replace HO4 := Lib.hid (CV.below kb _ HO4.out)
                  replace bW := bW.below kb
                  replace HW5 := Lib.hid (CV.below kb _ HW5.out)
                  have hw15 := hw14.trans (kb.mono hw14.size)
                  clear hw14
                  clear kb
                  clear z0 z1 z2 z3 z4 z5 z6 z7 z8 z9 z10 z11 hv HM hyq
                  have z0 := bS.cell 0
                  have z1 := bS.cell 1
                  have z2 := bS.cell 2
                  have z3 := bS.cell 3
                  have z4 := bS.cell 4
                  have z5 := bS.cell 5
                  have z6 := bS.cell 6
                  have z7 := bS.cell 7
                  have z8 := bS.cell 8
                  have z9 := bS.cell 9
                  have z10 := bS.cell 10
                  have z11 := bS.cell 11
                  have HC : Hid (Calls Tryd.prog 18 #[.agg #[.int .u8 2, .string ⟨#[65, 110, 110]⟩, .string ⟨#[65, 110, 110]⟩, .string ⟨#[85, 83, 68]⟩, .int .u8 1, .string Z.z1, .string Z.e0, .int .i64 0, .slice none 0 0, .int .i64 0, .slice none 0 0, .slice none 0 0]] T3 fun e w' => e = .returned (.tuple #[.int .i64 0, .int .i64 8]) ∧ Below T3.heap.size T3 w') := Lib.hid (by
                    have h := chor_any 0 Z.sameC ⟨Z.payN Z.ann Z.ann Z.usd, .slice none 0 0, .slice none 0 0, .slice none 0 0⟩ T3 (CV.pay _ _ _ _) (HLL.out _ hw15) (HVV.out _ hw15) Z.same_sm
                    have e1 : Z.horZ (0 + 1) Z.sameC = 0 := Z.hor_same
                    have e2 : Z.coE (0 + 1) Z.sameC = 8 := Z.same_E
                    rw [e1, e2] at h
                    exact h)
                  go_wp2_with fail
                  refine HC.out.mono ?_
                  rintro e T4 ⟨rfl, kb⟩
                  clear HC z0 z1 z2 z3 z4 z5 z6 z7 z8 z9 z10 z11
                  replace HCV := Lib.hid (CS.below kb HCV.out)
                  replace bS := bS.below kb
                  replace bL := bL.below kb
                  replace HL1 := Lib.hid (CV.below kb _ HL1.out)
                  replace bT := bT.below kb
                  replace HT1 := Lib.hid (CV.below kb _ HT1.out)
                  replace bN := bN.below kb
                  replace HN1 := Lib.hid (CV.below kb _ HN1.out)
                  replace bF := bF.below kb
                  replace HF1 := Lib.hid (CV.below kb _ HF1.out)
                  replace bM := bM.below kb
                  replace HM2 := Lib.hid (CV.below kb _ HM2.out)
                  replace bD := bD.below kb
                  replace HD4 := Lib.hid (CV.below kb _ HD4.out)
                  replace bO := bO.below kb
                  replace HO4 := Lib.hid (CV.below kb _ HO4.out)
                  replace bW := bW.below kb
                  replace HW5 := Lib.hid (CV.below kb _ HW5.out)
                  have hw16 := hw15.trans (kb.mono hw15.size)
                  clear hw15
                  clear kb
                  have z0 := bS.cell 0
                  have z1 := bS.cell 1
                  have z2 := bS.cell 2
                  have z3 := bS.cell 3
                  have z4 := bS.cell 4
                  have z5 := bS.cell 5
                  have z6 := bS.cell 6
                  have z7 := bS.cell 7
                  have z8 := bS.cell 8
                  have z9 := bS.cell 9
                  have z10 := bS.cell 10
                  have z11 := bS.cell 11
                  have HC : Hid (Calls Tryd.prog 12 #[.agg #[.int .u8 2, .string ⟨#[65, 110, 110]⟩, .string ⟨#[65, 110, 110]⟩, .string ⟨#[85, 83, 68]⟩, .int .u8 1, .string Z.z1, .string Z.e0, .int .i64 0, .slice none 0 0, .int .i64 0, .slice none 0 0, .slice none 0 0]] T4 fun e w' => e = .returned (.int .i64 8) ∧ Below T4.heap.size T4 w') := Lib.hid (by
                    have h := ccheck_any 0 Z.sameC ⟨Z.payN Z.ann Z.ann Z.usd, .slice none 0 0, .slice none 0 0, .slice none 0 0⟩ T4 (CV.pay _ _ _ _) (HLL.out _ hw16) (HVV.out _ hw16) Z.same_sm
                    have e2 : Z.coE (0 + 1) Z.sameC = 8 := Z.same_E
                    rw [e2] at h
                    exact h)
                  go_wp2_with fail
                  refine HC.out.mono ?_
                  rintro e T5 ⟨rfl, kb⟩
                  clear HC z0 z1 z2 z3 z4 z5 z6 z7 z8 z9 z10 z11
                  replace HCV := Lib.hid (CS.below kb HCV.out)
                  replace bS := bS.below kb
                  replace bL := bL.below kb
                  replace HL1 := Lib.hid (CV.below kb _ HL1.out)
                  replace bT := bT.below kb
                  replace HT1 := Lib.hid (CV.below kb _ HT1.out)
                  replace bN := bN.below kb
                  replace HN1 := Lib.hid (CV.below kb _ HN1.out)
                  replace bF := bF.below kb
                  replace HF1 := Lib.hid (CV.below kb _ HF1.out)
                  replace bM := bM.below kb
                  replace HM2 := Lib.hid (CV.below kb _ HM2.out)
                  replace bD := bD.below kb
                  replace HD4 := Lib.hid (CV.below kb _ HD4.out)
                  replace bO := bO.below kb
                  replace HO4 := Lib.hid (CV.below kb _ HO4.out)
                  replace bW := bW.below kb
                  replace HW5 := Lib.hid (CV.below kb _ HW5.out)
                  have hw17 := hw16.trans (kb.mono hw16.size)
                  clear hw16
                  clear kb
                  have z0 := bL.cell 0
                  have z1 := bL.cell 1
                  have z2 := bL.cell 2
                  have z3 := bL.cell 3
                  have z4 := bL.cell 4
                  have z5 := bL.cell 5
                  have z6 := bL.cell 6
                  have z7 := bL.cell 7
                  have z8 := bL.cell 8
                  have z9 := bL.cell 9
                  have z10 := bL.cell 10
                  have z11 := bL.cell 11
                  have HC : Hid (Calls Tryd.prog 12 #[.agg #[.int .u8 3, .string ⟨#[]⟩, .string ⟨#[]⟩, .string ⟨#[]⟩, .int .u8 0, .string ⟨#[]⟩, .string ⟨#[]⟩, .int .i64 0, .slice none 0 0, .int .i64 0, .slice none 0 0, .slice (some ⟨X2.heap.size, 0, none⟩) 1 1]] T5 fun e w' => e = .returned (.int .i64 8) ∧ Below T5.heap.size T5 w') := Lib.hid (by
                    have h := ccheck_any 1 Z.loneC ⟨⟨3, Z.e0, Z.e0, Z.e0, Z.noX, 0, []⟩, .slice none 0 0, .slice none 0 0, .slice (some ⟨X2.heap.size, 0, none⟩) 1 1⟩ T5 HL1.out (HLL.out _ hw17) (HVV.out _ hw17) Z.lone_sm
                    have e2 : Z.coE (1 + 1) Z.loneC = 8 := Z.lone_E
                    rw [e2] at h
                    exact h)
                  go_wp2_with fail
                  refine HC.out.mono ?_
                  rintro e T6 ⟨rfl, kb⟩
                  clear HC z0 z1 z2 z3 z4 z5 z6 z7 z8 z9 z10 z11
                  replace HCV := Lib.hid (CS.below kb HCV.out)
                  replace bS := bS.below kb
                  replace bL := bL.below kb
                  replace HL1 := Lib.hid (CV.below kb _ HL1.out)
                  replace bT := bT.below kb
                  replace HT1 := Lib.hid (CV.below kb _ HT1.out)
                  replace bN := bN.below kb
                  replace HN1 := Lib.hid (CV.below kb _ HN1.out)
                  replace bF := bF.below kb
                  replace HF1 := Lib.hid (CV.below kb _ HF1.out)
                  replace bM := bM.below kb
                  replace HM2 := Lib.hid (CV.below kb _ HM2.out)
                  replace bD := bD.below kb
                  replace HD4 := Lib.hid (CV.below kb _ HD4.out)
                  replace bO := bO.below kb
                  replace HO4 := Lib.hid (CV.below kb _ HO4.out)
                  replace bW := bW.below kb
                  replace HW5 := Lib.hid (CV.below kb _ HW5.out)
                  have hw18 := hw17.trans (kb.mono hw17.size)
                  clear hw17
                  clear kb
                  have z0 := bT.cell 0
                  have z1 := bT.cell 1
                  have z2 := bT.cell 2
                  have z3 := bT.cell 3
                  have z4 := bT.cell 4
                  have z5 := bT.cell 5
                  have z6 := bT.cell 6
                  have z7 := bT.cell 7
                  have z8 := bT.cell 8
                  have z9 := bT.cell 9
                  have z10 := bT.cell 10
                  have z11 := bT.cell 11
                  have HC : Hid (Calls Tryd.prog 12 #[.agg #[.int .u8 6, .string ⟨#[]⟩, .string ⟨#[]⟩, .string ⟨#[]⟩, .int .u8 0, .string ⟨#[]⟩, .string ⟨#[]⟩, .int .i64 0, .slice none 0 0, .int .i64 100000, .slice none 0 0, .slice (some ⟨X3.heap.size, 0, none⟩) 1 1]] T6 fun e w' => e = .returned (.int .i64 8) ∧ Below T6.heap.size T6 w') := Lib.hid (by
                    have h := ccheck_any 1 Z.lateC ⟨⟨6, Z.e0, Z.e0, Z.e0, Z.noX, 100000, []⟩, .slice none 0 0, .slice none 0 0, .slice (some ⟨X3.heap.size, 0, none⟩) 1 1⟩ T6 HT1.out (HLL.out _ hw18) (HVV.out _ hw18) Z.late_sm
                    have e2 : Z.coE (1 + 1) Z.lateC = 8 := Z.late_E
                    rw [e2] at h
                    exact h)
                  go_wp2_with fail
                  refine HC.out.mono ?_
                  rintro e T7 ⟨rfl, kb⟩
                  clear HC z0 z1 z2 z3 z4 z5 z6 z7 z8 z9 z10 z11
                  replace HCV := Lib.hid (CS.below kb HCV.out)
                  replace bS := bS.below kb
                  replace bL := bL.below kb
                  replace HL1 := Lib.hid (CV.below kb _ HL1.out)
                  replace bT := bT.below kb
                  replace HT1 := Lib.hid (CV.below kb _ HT1.out)
                  replace bN := bN.below kb
                  replace HN1 := Lib.hid (CV.below kb _ HN1.out)
                  replace bF := bF.below kb
                  replace HF1 := Lib.hid (CV.below kb _ HF1.out)
                  replace bM := bM.below kb
                  replace HM2 := Lib.hid (CV.below kb _ HM2.out)
                  replace bD := bD.below kb
                  replace HD4 := Lib.hid (CV.below kb _ HD4.out)
                  replace bO := bO.below kb
                  replace HO4 := Lib.hid (CV.below kb _ HO4.out)
                  replace bW := bW.below kb
                  replace HW5 := Lib.hid (CV.below kb _ HW5.out)
                  have hw19 := hw18.trans (kb.mono hw18.size)
                  clear hw18
                  clear kb
                  have z0 := bN.cell 0
                  have z1 := bN.cell 1
                  have z2 := bN.cell 2
                  have z3 := bN.cell 3
                  have z4 := bN.cell 4
                  have z5 := bN.cell 5
                  have z6 := bN.cell 6
                  have z7 := bN.cell 7
                  have z8 := bN.cell 8
                  have z9 := bN.cell 9
                  have z10 := bN.cell 10
                  have z11 := bN.cell 11
                  have HC : Hid (Calls Tryd.prog 12 #[.agg #[.int .u8 8, .string ⟨#[65]⟩, .string ⟨#[]⟩, .string ⟨#[120]⟩, .int .u8 0, .string ⟨#[]⟩, .string ⟨#[]⟩, .int .i64 0, .slice none 0 0, .int .i64 0, .slice none 0 0, .slice (some ⟨X4.heap.size, 0, none⟩) 1 1]] T7 fun e w' => e = .returned (.int .i64 8) ∧ Below T7.heap.size T7 w') := Lib.hid (by
                    have h := ccheck_any 1 (Z.callC []) ⟨⟨8, Z.sA, Z.e0, Z.sx, Z.noX, 0, []⟩, .slice none 0 0, .slice none 0 0, .slice (some ⟨X4.heap.size, 0, none⟩) 1 1⟩ T7 HN1.out (HLL.out _ hw19) (HVV.out _ hw19) Z.none_sm
                    have e2 : Z.coE (1 + 1) (Z.callC []) = 8 := Z.none_E
                    rw [e2] at h
                    exact h)
                  go_wp2_with fail
                  refine HC.out.mono ?_
                  rintro e T8 ⟨rfl, kb⟩
                  clear HC z0 z1 z2 z3 z4 z5 z6 z7 z8 z9 z10 z11
                  replace HCV := Lib.hid (CS.below kb HCV.out)
                  replace bS := bS.below kb
                  replace bL := bL.below kb
                  replace HL1 := Lib.hid (CV.below kb _ HL1.out)
                  replace bT := bT.below kb
                  replace HT1 := Lib.hid (CV.below kb _ HT1.out)
                  replace bN := bN.below kb
                  replace HN1 := Lib.hid (CV.below kb _ HN1.out)
                  replace bF := bF.below kb
                  replace HF1 := Lib.hid (CV.below kb _ HF1.out)
                  replace bM := bM.below kb
                  replace HM2 := Lib.hid (CV.below kb _ HM2.out)
                  replace bD := bD.below kb
                  replace HD4 := Lib.hid (CV.below kb _ HD4.out)
                  replace bO := bO.below kb
                  replace HO4 := Lib.hid (CV.below kb _ HO4.out)
                  replace bW := bW.below kb
                  replace HW5 := Lib.hid (CV.below kb _ HW5.out)
                  have hw20 := hw19.trans (kb.mono hw19.size)
                  clear hw19
                  clear kb
                  have z0 := bF.cell 0
                  have z1 := bF.cell 1
                  have z2 := bF.cell 2
                  have z3 := bF.cell 3
                  have z4 := bF.cell 4
                  have z5 := bF.cell 5
                  have z6 := bF.cell 6
                  have z7 := bF.cell 7
                  have z8 := bF.cell 8
                  have z9 := bF.cell 9
                  have z10 := bF.cell 10
                  have z11 := bF.cell 11
                  have HC : Hid (Calls Tryd.prog 12 #[.agg #[.int .u8 8, .string ⟨#[65]⟩, .string ⟨#[]⟩, .string ⟨#[120]⟩, .int .u8 0, .string ⟨#[]⟩, .string ⟨#[]⟩, .int .i64 0, .slice none 0 0, .int .i64 0, .slice A 101 c, .slice (some ⟨X5.heap.size, 0, none⟩) 1 1]] T8 fun e w' => e = .returned (.int .i64 8) ∧ Below T8.heap.size T8 w') := Lib.hid (by
                    have h := ccheck_any 1 (Z.callC (Z.daysN 101)) ⟨⟨8, Z.sA, Z.e0, Z.sx, Z.noX, 0, Z.daysN 101⟩, .slice none 0 0, .slice A 101 c, .slice (some ⟨X5.heap.size, 0, none⟩) 1 1⟩ T8 HF1.out (HLL.out _ hw20) (HVV.out _ hw20) Z.full_sm
                    have e2 : Z.coE (1 + 1) (Z.callC (Z.daysN 101)) = 8 := Z.full_E
                    rw [e2] at h
                    exact h)
                  go_wp2_with fail
                  refine HC.out.mono ?_
                  rintro e T9 ⟨rfl, kb⟩
                  clear HC z0 z1 z2 z3 z4 z5 z6 z7 z8 z9 z10 z11
                  replace HCV := Lib.hid (CS.below kb HCV.out)
                  replace bS := bS.below kb
                  replace bL := bL.below kb
                  replace HL1 := Lib.hid (CV.below kb _ HL1.out)
                  replace bT := bT.below kb
                  replace HT1 := Lib.hid (CV.below kb _ HT1.out)
                  replace bN := bN.below kb
                  replace HN1 := Lib.hid (CV.below kb _ HN1.out)
                  replace bF := bF.below kb
                  replace HF1 := Lib.hid (CV.below kb _ HF1.out)
                  replace bM := bM.below kb
                  replace HM2 := Lib.hid (CV.below kb _ HM2.out)
                  replace bD := bD.below kb
                  replace HD4 := Lib.hid (CV.below kb _ HD4.out)
                  replace bO := bO.below kb
                  replace HO4 := Lib.hid (CV.below kb _ HO4.out)
                  replace bW := bW.below kb
                  replace HW5 := Lib.hid (CV.below kb _ HW5.out)
                  have hw21 := hw20.trans (kb.mono hw20.size)
                  clear hw20
                  clear kb
                  have HC : Hid (Calls Tryd.prog 12 #[.agg #[.int .u8 0, .string ⟨#[]⟩, .string ⟨#[]⟩, .string ⟨#[]⟩, .int .u8 0, .string ⟨#[]⟩, .string ⟨#[]⟩, .int .i64 0, .slice none 0 0, .int .i64 0, .slice none 0 0, .slice none 0 0]] T9 fun e w' => e = .returned (.int .i64 8) ∧ Below T9.heap.size T9 w') := Lib.hid (by
                    have h := ccheck_any 0 Z.nullC ⟨⟨0, Z.e0, Z.e0, Z.e0, Z.noX, 0, []⟩, .slice none 0 0, .slice none 0 0, .slice none 0 0⟩ T9 (cv_of (t := ⟨0, Z.e0, Z.e0, Z.e0, Z.noX, 0, []⟩) (x := ⟨0, Z.e0, Z.e0, 0⟩) (by show (0 : Int) ≤ 0; decide) (by show (0 : Int) ≤ 255; decide) rfl (by show (0 : Int) ≤ 0; decide) (by show (0 : Int) ≤ 255; decide) SL.nil_ Dp.nil_) (HLL.out _ hw21) (HVV.out _ hw21) Z.null_sm
                    have e2 : Z.coE (0 + 1) Z.nullC = 8 := Z.null_E
                    rw [e2] at h
                    exact h)
                  go_wp2_with fail
                  refine HC.out.mono ?_
                  rintro e T10 ⟨rfl, kb⟩
                  clear HC
                  replace HCV := Lib.hid (CS.below kb HCV.out)
                  replace bS := bS.below kb
                  replace bL := bL.below kb
                  replace HL1 := Lib.hid (CV.below kb _ HL1.out)
                  replace bT := bT.below kb
                  replace HT1 := Lib.hid (CV.below kb _ HT1.out)
                  replace bN := bN.below kb
                  replace HN1 := Lib.hid (CV.below kb _ HN1.out)
                  replace bF := bF.below kb
                  replace HF1 := Lib.hid (CV.below kb _ HF1.out)
                  replace bM := bM.below kb
                  replace HM2 := Lib.hid (CV.below kb _ HM2.out)
                  replace bD := bD.below kb
                  replace HD4 := Lib.hid (CV.below kb _ HD4.out)
                  replace bO := bO.below kb
                  replace HO4 := Lib.hid (CV.below kb _ HO4.out)
                  replace bW := bW.below kb
                  replace HW5 := Lib.hid (CV.below kb _ HW5.out)
                  have hw22 := hw21.trans (kb.mono hw21.size)
                  clear hw21
                  clear kb
                  have z0 := bO.cell 0
                  have z1 := bO.cell 1
                  have z2 := bO.cell 2
                  have z3 := bO.cell 3
                  have z4 := bO.cell 4
                  have z5 := bO.cell 5
                  have z6 := bO.cell 6
                  have z7 := bO.cell 7
                  have z8 := bO.cell 8
                  have z9 := bO.cell 9
                  have z10 := bO.cell 10
                  have z11 := bO.cell 11
                  have HC : Hid (Calls Tryd.prog 12 #[.agg #[.int .u8 6, .string ⟨#[]⟩, .string ⟨#[]⟩, .string ⟨#[]⟩, .int .u8 0, .string ⟨#[]⟩, .string ⟨#[]⟩, .int .i64 0, .slice none 0 0, .int .i64 0, .slice none 0 0, .slice (some ⟨V4.heap.size, 0, none⟩) 1 1]] T10 fun e w' => e = .returned (.int .i64 4) ∧ Below T10.heap.size T10 w') := Lib.hid (by
                    have h := ccheck_any 60 Z.overC ⟨(⟨6, Z.e0, Z.e0, Z.e0, Z.noX, 0, []⟩ : Z.CN 1), .slice none 0 0, .slice none 0 0, .slice (some ⟨V4.heap.size, 0, none⟩) 1 1⟩ T10 HO4.out (HLL.out _ hw22) (HVV.out _ hw22) Z.over_sm
                    have e2 : Z.coE (60 + 1) Z.overC = 4 := Z.over_E
                    rw [e2] at h
                    exact h)
                  go_wp2_with fail
                  refine HC.out.mono ?_
                  rintro e T11 ⟨rfl, kb⟩
                  clear HC z0 z1 z2 z3 z4 z5 z6 z7 z8 z9 z10 z11
                  replace HCV := Lib.hid (CS.below kb HCV.out)
                  replace bS := bS.below kb
                  replace bL := bL.below kb
                  replace HL1 := Lib.hid (CV.below kb _ HL1.out)
                  replace bT := bT.below kb
                  replace HT1 := Lib.hid (CV.below kb _ HT1.out)
                  replace bN := bN.below kb
                  replace HN1 := Lib.hid (CV.below kb _ HN1.out)
                  replace bF := bF.below kb
                  replace HF1 := Lib.hid (CV.below kb _ HF1.out)
                  replace bM := bM.below kb
                  replace HM2 := Lib.hid (CV.below kb _ HM2.out)
                  replace bD := bD.below kb
                  replace HD4 := Lib.hid (CV.below kb _ HD4.out)
                  replace bO := bO.below kb
                  replace HO4 := Lib.hid (CV.below kb _ HO4.out)
                  replace bW := bW.below kb
                  replace HW5 := Lib.hid (CV.below kb _ HW5.out)
                  have hw23 := hw22.trans (kb.mono hw22.size)
                  clear hw22
                  clear kb
                  have z0 := bW.cell 0
                  have z1 := bW.cell 1
                  have z2 := bW.cell 2
                  have z3 := bW.cell 3
                  have z4 := bW.cell 4
                  have z5 := bW.cell 5
                  have z6 := bW.cell 6
                  have z7 := bW.cell 7
                  have z8 := bW.cell 8
                  have z9 := bW.cell 9
                  have z10 := bW.cell 10
                  have z11 := bW.cell 11
                  have HC : Hid (Calls Tryd.prog 12 #[.agg #[.int .u8 a2.k, .string a2.fr, .string a2.tu, .string a2.nm, .int .u8 a2.ex.top.k, .string a2.ex.top.rat, .string a2.ex.top.name, .int .i64 a2.ex.top.date, .slice none 0 0, .int .i64 a2.date, .slice none 0 0, .slice E2 n2 d2]] T11 fun e w' => e = .returned (.int .i64 4) ∧ Below T11.heap.size T11 w') := Lib.hid (by
                    have h := ccheck_any 8 (Z.wideC 8) ⟨a2, .slice none 0 0, .slice none 0 0, .slice E2 n2 d2⟩ T11 HW5.out (HLL.out _ hw23) (HVV.out _ hw23) Z.wide_sm
                    have e2 : Z.coE (8 + 1) (Z.wideC 8) = 4 := Z.wide_E
                    rw [e2] at h
                    exact h)
                  go_wp2_with fail
                  refine HC.out.mono ?_
                  rintro e T12 ⟨rfl, kb⟩
                  clear HC z0 z1 z2 z3 z4 z5 z6 z7 z8 z9 z10 z11
                  replace HCV := Lib.hid (CS.below kb HCV.out)
                  replace bS := bS.below kb
                  replace bL := bL.below kb
                  replace HL1 := Lib.hid (CV.below kb _ HL1.out)
                  replace bT := bT.below kb
                  replace HT1 := Lib.hid (CV.below kb _ HT1.out)
                  replace bN := bN.below kb
                  replace HN1 := Lib.hid (CV.below kb _ HN1.out)
                  replace bF := bF.below kb
                  replace HF1 := Lib.hid (CV.below kb _ HF1.out)
                  replace bM := bM.below kb
                  replace HM2 := Lib.hid (CV.below kb _ HM2.out)
                  replace bD := bD.below kb
                  replace HD4 := Lib.hid (CV.below kb _ HD4.out)
                  replace bO := bO.below kb
                  replace HO4 := Lib.hid (CV.below kb _ HO4.out)
                  replace bW := bW.below kb
                  replace HW5 := Lib.hid (CV.below kb _ HW5.out)
                  have hw24 := hw23.trans (kb.mono hw23.size)
                  clear hw23
                  clear kb
                  have HC := Lib.hid (lalive_any T12 (HLL.out _ hw24) (HVV.out _ hw24))
                  go_wp2_with fail
                  refine HC.out.mono ?_
                  rintro e T13 ⟨rfl, kb⟩
                  clear HC
                  replace HCV := Lib.hid (CS.below kb HCV.out)
                  replace bS := bS.below kb
                  replace bL := bL.below kb
                  replace HL1 := Lib.hid (CV.below kb _ HL1.out)
                  replace bT := bT.below kb
                  replace HT1 := Lib.hid (CV.below kb _ HT1.out)
                  replace bN := bN.below kb
                  replace HN1 := Lib.hid (CV.below kb _ HN1.out)
                  replace bF := bF.below kb
                  replace HF1 := Lib.hid (CV.below kb _ HF1.out)
                  replace bM := bM.below kb
                  replace HM2 := Lib.hid (CV.below kb _ HM2.out)
                  replace bD := bD.below kb
                  replace HD4 := Lib.hid (CV.below kb _ HD4.out)
                  replace bO := bO.below kb
                  replace HO4 := Lib.hid (CV.below kb _ HO4.out)
                  replace bW := bW.below kb
                  replace HW5 := Lib.hid (CV.below kb _ HW5.out)
                  have hw25 := hw24.trans (kb.mono hw24.size)
                  clear hw24
                  clear kb
                  have z0 := bM.cell 0
                  have z1 := bM.cell 1
                  have z2 := bM.cell 2
                  have z3 := bM.cell 3
                  have z4 := bM.cell 4
                  have z5 := bM.cell 5
                  have z6 := bM.cell 6
                  have z7 := bM.cell 7
                  have z8 := bM.cell 8
                  have z9 := bM.cell 9
                  have z10 := bM.cell 10
                  have z11 := bM.cell 11
                  have HC : Hid (Calls Tryd.prog 12 #[.agg #[.int .u8 8, .string ⟨#[65]⟩, .string ⟨#[]⟩, .string ⟨#[120]⟩, .int .u8 0, .string ⟨#[]⟩, .string ⟨#[]⟩, .int .i64 0, .slice none 0 0, .int .i64 0, .slice A 100 c, .slice (some ⟨gR, 0, none⟩) 1 1]] T13 fun e w' => e = .returned (.int .i64 0) ∧ Below T13.heap.size T13 w') := Lib.hid (by
                    have h := ccheck_any 1 (Z.callC (Z.daysN 100)) ⟨⟨8, Z.sA, Z.e0, Z.sx, Z.noX, 0, Z.daysN 100⟩, .slice none 0 0, .slice A 100 c, .slice (some ⟨gR, 0, none⟩) 1 1⟩ T13 HM2.out (HLL.out _ hw25) (HVV.out _ hw25) Z.most_sm
                    have e2 : Z.coE (1 + 1) (Z.callC (Z.daysN 100)) = 0 := Z.most_E
                    rw [e2] at h
                    exact h)
                  go_wp2_with fail
                  refine HC.out.mono ?_
                  rintro e T14 ⟨rfl, kb⟩
                  clear HC z0 z1 z2 z3 z4 z5 z6 z7 z8 z9 z10 z11
                  replace HCV := Lib.hid (CS.below kb HCV.out)
                  replace bS := bS.below kb
                  replace bL := bL.below kb
                  replace HL1 := Lib.hid (CV.below kb _ HL1.out)
                  replace bT := bT.below kb
                  replace HT1 := Lib.hid (CV.below kb _ HT1.out)
                  replace bN := bN.below kb
                  replace HN1 := Lib.hid (CV.below kb _ HN1.out)
                  replace bF := bF.below kb
                  replace HF1 := Lib.hid (CV.below kb _ HF1.out)
                  replace bM := bM.below kb
                  replace HM2 := Lib.hid (CV.below kb _ HM2.out)
                  replace bD := bD.below kb
                  replace HD4 := Lib.hid (CV.below kb _ HD4.out)
                  replace bO := bO.below kb
                  replace HO4 := Lib.hid (CV.below kb _ HO4.out)
                  replace bW := bW.below kb
                  replace HW5 := Lib.hid (CV.below kb _ HW5.out)
                  have hw26 := hw25.trans (kb.mono hw25.size)
                  clear hw25
                  clear kb
                  have z0 := bD.cell 0
                  have z1 := bD.cell 1
                  have z2 := bD.cell 2
                  have z3 := bD.cell 3
                  have z4 := bD.cell 4
                  have z5 := bD.cell 5
                  have z6 := bD.cell 6
                  have z7 := bD.cell 7
                  have z8 := bD.cell 8
                  have z9 := bD.cell 9
                  have z10 := bD.cell 10
                  have z11 := bD.cell 11
                  have HC : Hid (Calls Tryd.prog 12 #[.agg #[.int .u8 a.k, .string a.fr, .string a.tu, .string a.nm, .int .u8 a.ex.top.k, .string a.ex.top.rat, .string a.ex.top.name, .int .i64 a.ex.top.date, .slice none 0 0, .int .i64 a.date, .slice none 0 0, .slice E n d]] T14 fun e w' => e = .returned (.int .i64 0) ∧ Below T14.heap.size T14 w') := Lib.hid (by
                    have h := ccheck_any 59 (Z.deepC 59) ⟨a, .slice none 0 0, .slice none 0 0, .slice E n d⟩ T14 HD4.out (HLL.out _ hw26) (HVV.out _ hw26) Z.deep_sm
                    have e2 : Z.coE (59 + 1) (Z.deepC 59) = 0 := Z.deep_E
                    rw [e2] at h
                    exact h)
                  go_wp2_with fail
                  refine HC.out.mono ?_
                  rintro e T15 ⟨rfl, kb⟩
                  clear HC z0 z1 z2 z3 z4 z5 z6 z7 z8 z9 z10 z11
                  replace HCV := Lib.hid (CS.below kb HCV.out)
                  replace bS := bS.below kb
                  replace bL := bL.below kb
                  replace HL1 := Lib.hid (CV.below kb _ HL1.out)
                  replace bT := bT.below kb
                  replace HT1 := Lib.hid (CV.below kb _ HT1.out)
                  replace bN := bN.below kb
                  replace HN1 := Lib.hid (CV.below kb _ HN1.out)
                  replace bF := bF.below kb
                  replace HF1 := Lib.hid (CV.below kb _ HF1.out)
                  replace bM := bM.below kb
                  replace HM2 := Lib.hid (CV.below kb _ HM2.out)
                  replace bD := bD.below kb
                  replace HD4 := Lib.hid (CV.below kb _ HD4.out)
                  replace bO := bO.below kb
                  replace HO4 := Lib.hid (CV.below kb _ HO4.out)
                  replace bW := bW.below kb
                  replace HW5 := Lib.hid (CV.below kb _ HW5.out)
                  have hw27 := hw26.trans (kb.mono hw26.size)
                  clear hw26
                  clear kb
                  go_wp2_with fail
                  go_ret
                  exact ⟨rfl, hw27⟩

set_option maxRecDepth 100000 in
theorem lifted (os : Go.Os) (started : os.Started) (H : Type) (enc : TypeId × Value → H) :
    ReturnsInHanded {} Tryd.checked os 8 .any (fun w args => (Rows.contractNamesSpec.pre enc Tryd.prog Tryd.f8 [] false w args ∧ laidMetH Tryd.prog laidL w) ∧ sizedMet enc Tryd.prog Tryd.f8 (OpenSpec.ofChange Rows.contractNamesSpec) false w args) (Rows.contractNamesSpec.post enc Tryd.prog Tryd.f8 false true false false) := by
  refine door_wrap (C := Tryd.checked) (laid := laidL) own started (by kernel_rfl) Tryd.func8
    (ChangeSpec.witness_shaped (enc := enc) (C := Tryd.checked) (os := os) (X := fun w _ => laidMetH Tryd.prog laidL w) false (World.doorLaid Tryd.prog 600 os) #[] 8 rfl (World.shaped_of_RefB (by kernel_rfl) (by kernel_rfl)) (by kernel_rfl) (by kernel_rfl) (by kernel_rfl) (door_met os _)) ?_
  intro W base args ds gs before hval0 hW _ hL hsh
  have hval : ∀ (j : Nat) t v, Tryd.f8.params[j]? = some t → args[j]? = some v → Value.okWide Tryd.prog W .any base t v := hval0
  have hW' := hW
  obtain ⟨p, q, hA0, hV, rfl, hfz, hnd⟩ := hW
  have hA : DataW.TrodAll enc Tryd.prog W 0 (fun _ => true) true Tryd.f8.params.toList args.toList ds p := hA0
  rw [Tryd.params8] at hA hval
  obtain ⟨hargs, rfl, rfl⟩ := trodAll_nil hA
  obtain rfl : args = #[] := by cases args; simp_all
  obtain ⟨rfl, rfl⟩ := trodVars_none hV
  clear hA0 hval0
  simp only [List.append_nil] at hW'
  refine (walk W (Tryd.laysM145.s1_3 W hsh) (of_laid hL)).mono fun e W' ⟨he, bel⟩ => ?_
  subst he
  exact ⟨_, rfl, _, _, _, [], _, [], hW', trodAll_mk1 (shut_bool Tryd.underlying4 _), trodAll_mk0, rfl, bel.frame _, fun h => by cases h⟩

theorem over : Rows.contractNamesRow.holds Tryd.pinned (OpenSpec.ofChange Rows.contractNamesSpec) :=
  OpenClaim.holds_of_wide 8 Tryd.f8 rfl rfl rfl rfl rfl rfl rfl ⟨rfl, rfl, rfl, rfl, rfl⟩ rfl rfl rfl rfl rfl (by kernel_rfl) Tryd.func8 (by kernel_rfl)
    (of_decide_eq_true (by kernel_rfl)) (by unfold Func.isWrapper; first | (rw [if_pos (by decide +kernel)]; kernel_rfl) | (rw [if_neg (by decide +kernel)]; exact ⟨rfl, rfl⟩))
    (fun os started H enc _ => lifted os started H enc)

theorem proved : Rows.ContractNamesCardSaid :=
  Claim7.holds_tied_plain_at .later [] [.mappedDeep, .mapped] true (true, "18ee430487cca9eca090e431cb604d3d491d61f539cb3f6dc50aa057bdde380e") false
    over (fun _ h => by cases h) (by kernel_rfl) (fun _ h => by cases h) contractNames_row_tie rfl ⟨rfl, rfl⟩ (by kernel_rfl) rfl
    (fun f fn hf hfn => by
      obtain rfl : f = 8 := Option.some.inj ((show Tryd.prog.funcNamed "novation/novationlaw09.ContractNames" = some 8 by kernel_rfl).symm.trans hf) |>.symm
      obtain rfl : fn = Tryd.f8 := (Option.some.inj (Tryd.func8.symm.trans hfn)).symm
      exact ⟨by kernel_rfl, fun j t ht => by
        rw [Tryd.params8] at ht
        simp at ht⟩)
    (by kernel_rfl)
#print axioms proved
