/-
  The parts of a valid contract are valid, sizes add up, and the depth is one more than that of the deepest part (a tied card: the tables of kinds lie as the text says).
-/
import Derived.Test.YtifafmomkpkgdaaDoorRows
import Derived.Test.YtifafmomkpkgdaaDoorOal
import Derived.Test.YtifafmomkpkgdaaDoorOopn
import Derived.Test.YtifafmomkpkgdaaDoorZco
import Derived.HandedShaped
import Derived.Test.YtifafmomkpkgdaaDoorCards
import Derived.Test.YtifafmomkpkgdaaDoorTie
import Derived.Test.YtifafmomkpkgdaaDoorOlay
import Derived.SevenTiedAt
import Derived.ProofKit
import Derived.OpenShut
import Derived.ShutString
namespace Go.Proofs.YtifafmomkpkgdaaDoor.lawParts
open Go.ChangeShapes Go.WideShapes Go.ChangeAt Go.RowKit
open Go.ChangeMaps (open_string shut_string)

theorem walk (F : Nat) (c : Z.Co (F + 1) (F + 1 + 1)) (r : CR (F + 1)) (w : World) (hc : CV w (F + 1 + 1) c r) (hle : Z.CLe 140737488355328 (F + 1 + 1) c) (hV : HasV w) (hL : Lay w) :
    Calls Tryd.prog 6 #[.agg r.vs.toArray] w fun e w' => e = .returned (.bool true) ∧ Below w.heap.size w w' := by
  obtain ⟨t, u, dv, sv⟩ := r
  obtain ⟨Au, ku, cu, rfl⟩ := hc.shape.1
  obtain ⟨Ad, kd, cd, rfl⟩ := hc.shape.2.1
  obtain ⟨As, cs, hsv, hlc, hcm⟩ := Dp.shape hc.2.2.2.2
  simp only at hsv
  subst hsv
  unfold maxLen at hcm
  have HC := Lib.hid hc
  have HX := Lib.hid hc.open_.2.1
  have HS := Lib.hid hc.open_.2.2.2
  obtain rfl : t = c.top := hc.1
  have HG := Lib.hid (fun W (h : Below w.heap.size w W) => cgreat_any (F + 1) c c.top _ _ _ W (CV.below h _ hc) hle)
  have HA := Lib.hid (fun W (h : Below w.heap.size w W) => lalive_any W (hL.below h) (hV.below h))
  have HLL := Lib.hid (fun W (h : Below w.heap.size w W) => hL.below h)
  have HVV := Lib.hid (fun W (h : Below w.heap.size w W) => hV.below h)
  have HSM := Lib.hid (fun h => Z.coG_sm (n := F + 1 + 1) (c := c) h)
  have HVS : Hid (CR.vs (m := F + 1) ⟨c.top, .slice Au ku cu, .slice Ad kd cd, .slice As c.sub.length cs⟩ = [.int .u8 c.top.k, .string c.top.fr, .string c.top.tu, .string c.top.nm, .int .u8 c.top.ex.top.k, .string c.top.ex.top.rat, .string c.top.ex.top.name, .int .i64 c.top.ex.top.date, .slice Au ku cu, .int .i64 c.top.date, .slice Ad kd cd, .slice As c.sub.length cs]) := Lib.hid rfl
  rw [HVS.out]
  clear hc hV hL hle HVS
  have hb0 := (Below.refl _ w).alloc (Nat.le_refl w.heap.size) (.cells #[.int .u8 c.top.k, .string c.top.fr, .string c.top.tu, .string c.top.nm, .int .u8 c.top.ex.top.k, .string c.top.ex.top.rat, .string c.top.ex.top.name, .int .i64 c.top.ex.top.date, .slice Au ku cu, .int .i64 c.top.date, .slice Ad kd cd, .slice As c.sub.length cs] 29)
  have BX := Blk.new w 29 #[.int .u8 c.top.k, .string c.top.fr, .string c.top.tu, .string c.top.nm, .int .u8 c.top.ex.top.k, .string c.top.ex.top.rat, .string c.top.ex.top.name, .int .i64 c.top.ex.top.date, .slice Au ku cu, .int .i64 c.top.date, .slice Ad kd cd, .slice As c.sub.length cs]
  have HE : Hid (Z.coE (F + 1 + 1) c = 0 → (∀ x ∈ c.sub, Z.coE (F + 1) x = 0) ∧ ((Z.bareX c.top.ex = true ∧ c.top.ex.top.k = 0) ∨ (Z.bareX c.top.ex = false ∧ c.top.ex.top.k ≠ 0 ∧ Z.exE (F + 1 + 1) c.top.ex = 0))) := Lib.hid (fun h => ⟨Z.coE_sub h, Z.node_ex (Z.coFormed_top (Z.coE_ok.1 h).2.2)⟩)
  have HSZ : Hid (Z.coSize (F + 1 + 1) c = 1 + Z.exZ c.top.ex + Z.sumL (Z.coSize (F + 1)) (c.sub.drop 0)) := Lib.hid rfl
  have HDP : Hid (Z.coDepth (F + 1 + 1) c = max (Z.exD c.top.ex) (Z.maxL (Z.coDepth (F + 1)) (c.sub.drop 0)) + 1) := Lib.hid rfl
  have HXZ : Hid (Z.bareX c.top.ex = true → Z.exZ c.top.ex = 0 ∧ Z.exD c.top.ex = 0) := Lib.hid (fun h => by unfold Z.exZ Z.exD; rw [h]; exact ⟨rfl, rfl⟩)
  have HXN : Hid (Z.bareX c.top.ex = false → Z.exZ c.top.ex = Z.exSize (F + 1 + 1) c.top.ex ∧ Z.exD c.top.ex = Z.exDepth (F + 1 + 1) c.top.ex) := Lib.hid (fun h => by unfold Z.exZ Z.exD; rw [h]; exact ⟨rfl, rfl⟩)
  have HCK := Lib.hid (fun W (h : Below w.heap.size w W) hs => ccheck_any (F + 1) c ⟨c.top, .slice Au ku cu, .slice Ad kd cd, .slice As c.sub.length cs⟩ W (CV.below h _ HC.out) (HLL.out W h) (HVV.out W h) hs)
  have HCS := Lib.hid (fun W (h : Below w.heap.size w W) hs => csize_any (F + 1) c ⟨c.top, .slice Au ku cu, .slice Ad kd cd, .slice As c.sub.length cs⟩ W (CV.below h _ HC.out) hs)
  have HCD := Lib.hid (fun W (h : Below w.heap.size w W) hs => ccdepth_any (F + 1 + 1) c c.top _ _ _ W (CV.below h _ HC.out) hs)
  have HXC := Lib.hid (fun W (h : Below w.heap.size w W) hs => xcheck_any (F + 1) c.top.ex _ W (XV.below h _ HX.out) (HLL.out W h) (HVV.out W h) hs)
  have HXS := Lib.hid (fun W (h : Below w.heap.size w W) hs => xsize_any (F + 1 + 1) c.top.ex c.top.ex.top _ W (XV.below h _ HX.out) hs)
  have HXD := Lib.hid (fun W (h : Below w.heap.size w W) hs => rxdepth_any (F + 1 + 1) c.top.ex c.top.ex.top _ W (XV.below h _ HX.out) hs)
  have HEX := Lib.hid (fun h => Z.coE_ok.1 (show Z.coE (F + 1 + 1) c = 0 from h))
  have HSUB := Lib.hid (fun (hs : Z.CSm (F + 1 + 1) c) => hs.sub)
  have HXM := Lib.hid (fun (hs : Z.CSm (F + 1 + 1) c) => hs.top.ex)
  have HES := Lib.hid (fun h => Z.exE_ok (n := F + 1 + 1) (e := c.top.ex) h)
  unfold CR.ag at HCK HCS
  simp only at HCK HCS
  clear HC
  generalize Z.coE (F + 1 + 1) c = E at *
  generalize Z.coSize (F + 1 + 1) c = SZ at *
  generalize Z.coDepth (F + 1 + 1) c = DP at *
  generalize c.sub = l at *
  generalize Z.exZ c.top.ex = ez at *
  generalize Z.exD c.top.ex = ed at *
  generalize Z.exSize (F + 1 + 1) c.top.ex = es at *
  generalize Z.exDepth (F + 1 + 1) c.top.ex = eh at *
  generalize Z.exE (F + 1 + 1) c.top.ex = ee at *
  generalize Z.coG (F + 1 + 1) c = G at *
  generalize c.top = t at *
  have z0 := BX.cell 0
  have z1 := BX.cell 1
  have z2 := BX.cell 2
  have z3 := BX.cell 3
  have z4 := BX.cell 4
  have z5 := BX.cell 5
  have z6 := BX.cell 6
  have z7 := BX.cell 7
  have z8 := BX.cell 8
  have z9 := BX.cell 9
  have z10 := BX.cell 10
  have z11 := BX.cell 11
  go_enter Tryd.func6, Tryd.ntmps6
  go_wp2_with fail
  refine (HA.out _ hb0).mono ?_
  rintro e W1 ⟨rfl, hb⟩
  have h1 := hb0.trans (hb.mono hb0.size)
  have BX := BX.below hb
  clear z0 z1 z2 z3 z4 z5 z6 z7 z8 z9 z10 z11 hb HA hb0
  have z0 := BX.cell 0
  have z1 := BX.cell 1
  have z2 := BX.cell 2
  have z3 := BX.cell 3
  have z4 := BX.cell 4
  have z5 := BX.cell 5
  have z6 := BX.cell 6
  have z7 := BX.cell 7
  have z8 := BX.cell 8
  have z9 := BX.cell 9
  have z10 := BX.cell 10
  have z11 := BX.cell 11
  go_wp2_with fail
  refine (HG.out W1 h1).mono ?_
  rintro e W2 ⟨rfl, hb⟩
  have h2 := h1.trans (hb.mono h1.size)
  have BX := BX.below hb
  clear z0 z1 z2 z3 z4 z5 z6 z7 z8 z9 z10 z11 hb HG h1
  have z0 := BX.cell 0
  have z1 := BX.cell 1
  have z2 := BX.cell 2
  have z3 := BX.cell 3
  have z4 := BX.cell 4
  have z5 := BX.cell 5
  have z6 := BX.cell 6
  have z7 := BX.cell 7
  have z8 := BX.cell 8
  have z9 := BX.cell 9
  have z10 := BX.cell 10
  have z11 := BX.cell 11
  rcases G with _ | _
  rotate_left
  · go_wp2_with fail
    go_ret
    exact ⟨rfl, h2⟩
  have hs := HSM.out rfl
  go_wp2_with fail
  refine (HCK.out W2 h2 hs).mono ?_
  rintro e W3 ⟨rfl, hb⟩
  have h3 := h2.trans (hb.mono h2.size)
  have BX := BX.below hb
  clear z0 z1 z2 z3 z4 z5 z6 z7 z8 z9 z10 z11 hb HCK h2
  have z0 := BX.cell 0
  have z1 := BX.cell 1
  have z2 := BX.cell 2
  have z3 := BX.cell 3
  have z4 := BX.cell 4
  have z5 := BX.cell 5
  have z6 := BX.cell 6
  have z7 := BX.cell 7
  have z8 := BX.cell 8
  have z9 := BX.cell 9
  have z10 := BX.cell 10
  have z11 := BX.cell 11
  by_cases hE : E = 0
  rotate_left
  · have hE' : (E == 0) = false := by rw [beq_eq_false_iff_ne]; exact hE
    clear hE
    go_wp2_with fail
    go_ret
    exact ⟨rfl, h3⟩
  subst hE
  obtain ⟨hsub, hex⟩ := HE.out rfl
  have HSUBE := Lib.hid hsub
  obtain ⟨hb1, hb2, _⟩ := HEX.out rfl
  have HB1 := Lib.hid hb1
  have HB2 := Lib.hid hb2
  have HSS := Lib.hid (HSUB.out hs)
  have HCS := Lib.hid (fun W h => HCS.out W h hs)
  have HCD := Lib.hid (fun W h => HCD.out W h hs)
  have HXM := Lib.hid (HXM.out hs)
  clear hsub hb1 hb2 HE HEX HSUB HSM hs
  go_upto_if 23 with fail
  go_cut [4, 5] (fun sv dv wx => sv = .int .i64 ((1 + ez : Nat) : Int) ∧ dv = .int .i64 (ed : Int) ∧ Blk wx w.heap.size 29 #[.int .u8 t.k, .string t.fr, .string t.tu, .string t.nm, .int .u8 t.ex.top.k, .string t.ex.top.rat, .string t.ex.top.name, .int .i64 t.ex.top.date, .slice Au ku cu, .int .i64 t.date, .slice Ad kd cd, .slice As l.length cs] ∧ Below w.heap.size w wx)
  case first =>
    rcases hex with ⟨hbx, hk⟩ | ⟨hbx, hk, hee⟩
    · obtain ⟨e1, e2⟩ := HXZ.out hbx
      subst e1 e2
      have hk' : (t.ex.top.k == 0) = true := by rw [beq_iff_eq]; exact hk
      clear hk hbx
      go_wp2_with fail
      go_meet
      exact ⟨rfl, rfl, BX, h3⟩
    · obtain ⟨e1, e2⟩ := HXN.out hbx
      subst e1 e2 hee
      have hk' : (t.ex.top.k == 0) = false := by rw [beq_eq_false_iff_ne]; exact hk
      obtain ⟨hes, heh⟩ := HES.out rfl
      clear hk hbx HSZ HDP
      go_wp2_with fail
      refine (HXC.out _ h3 HXM.out).mono ?_
      rintro e W4 ⟨rfl, hb⟩
      have h4 := h3.trans (hb.mono h3.size)
      have BX := BX.below hb
      clear z0 z1 z2 z3 z4 z5 z6 z7 z8 z9 z10 z11 hb HXC h3
      have z0 := BX.cell 0
      have z1 := BX.cell 1
      have z2 := BX.cell 2
      have z3 := BX.cell 3
      have z4 := BX.cell 4
      have z5 := BX.cell 5
      have z6 := BX.cell 6
      have z7 := BX.cell 7
      have z8 := BX.cell 8
      have z9 := BX.cell 9
      have z10 := BX.cell 10
      have z11 := BX.cell 11
      go_wp2_with fail
      refine (HXS.out _ h4 (by omega)).mono ?_
      rintro e W5 ⟨rfl, hb⟩
      have h5 := h4.trans (hb.mono h4.size)
      have BX := BX.below hb
      clear z0 z1 z2 z3 z4 z5 z6 z7 z8 z9 z10 z11 hb HXS h4
      have z0 := BX.cell 0
      have z1 := BX.cell 1
      have z2 := BX.cell 2
      have z3 := BX.cell 3
      have z4 := BX.cell 4
      have z5 := BX.cell 5
      have z6 := BX.cell 6
      have z7 := BX.cell 7
      have z8 := BX.cell 8
      have z9 := BX.cell 9
      have z10 := BX.cell 10
      have z11 := BX.cell 11
      go_wp2_with fail
      refine (HXD.out _ h5 (by omega)).mono ?_
      rintro e W6 ⟨rfl, hb⟩
      have h6 := h5.trans (hb.mono h5.size)
      have BX := BX.below hb
      clear z0 z1 z2 z3 z4 z5 z6 z7 z8 z9 z10 z11 hb HXD h5
      go_wp2_with fail
      go_meet
      exact ⟨by go_num, rfl, BX, h6⟩
  case rest =>
  obtain ⟨rfl, rfl, BX, h4⟩ := hcut
  have HEZ : Hid (1 + ez ≤ 500) := Lib.hid (by have := HSZ.out; have := HB1.out; omega)
  have HED : Hid (ed ≤ 60) := Lib.hid (by have := HDP.out; have := HB2.out; omega)
  have HSZ1 : Hid (SZ = (1 + ez) + Z.sumL (Z.coSize (F + 1)) (l.drop 0)) := HSZ
  have HDP1 : Hid (DP = max ed (Z.maxL (Z.coDepth (F + 1)) (l.drop 0)) + 1) := HDP
  clear HSZ HDP HXZ HXN HXC HXS HXD hex h3 HES
  generalize 1 + ez = s0 at *
  go_wp2_with fail
  go_loopw [4, 5, 6] (fun sv dv iv wr => ∃ (k s d : Nat), k ≤ l.length ∧ iv = .int .i64 k ∧ sv = .int .i64 s ∧ dv = .int .i64 d ∧ Hid (SZ = s + Z.sumL (Z.coSize (F + 1)) (l.drop k)) ∧ Hid (DP = max d (Z.maxL (Z.coDepth (F + 1)) (l.drop k)) + 1) ∧ Below w.heap.size w wr ∧ Blk wr w.heap.size 29 #[.int .u8 t.k, .string t.fr, .string t.tu, .string t.nm, .int .u8 t.ex.top.k, .string t.ex.top.rat, .string t.ex.top.name, .int .i64 t.ex.top.date, .slice Au ku cu, .int .i64 t.date, .slice Ad kd cd, .slice As l.length cs]) (fun _ _ iv _ => l.length - (intOf iv).toNat)
  case atStart => exact ⟨0, s0, ed, Nat.zero_le _, rfl, rfl, rfl, HSZ1, HDP1, h4, BX⟩
  case round =>
    obtain ⟨k, s, d, hk, rfl, rfl, rfl, HI, HJ, hbr, BX⟩ := hrel
    clear HSZ1 HDP1 h4
    have z0 := BX.cell 0
    have z1 := BX.cell 1
    have z2 := BX.cell 2
    have z3 := BX.cell 3
    have z4 := BX.cell 4
    have z5 := BX.cell 5
    have z6 := BX.cell 6
    have z7 := BX.cell 7
    have z8 := BX.cell 8
    have z9 := BX.cell 9
    have z10 := BX.cell 10
    have z11 := BX.cell 11
    by_cases hlt : k < l.length
    · have hz : l[k]? = some l[k] := List.getElem?_eq_getElem hlt
      obtain ⟨b, o, ax, ux, dx, sx, hA, hbl, q0, q1, q2, q3, q4, q5, q6, q7, q8, q9, q10, q11, hv⟩ := CS.cells (CS.below hbr HS.out) hz
      subst hA
      have HM := Lib.hid (List.mem_of_getElem? hz)
      have HI2 := Lib.hid (Z.sumL_drop (f := Z.coSize (F + 1)) hz)
      have HJ2 := Lib.hid (Z.maxL_drop (f := Z.coDepth (F + 1)) hz)
      clear hz
      generalize l[k] = y at *
      obtain ⟨Ax, kx, cx, rfl⟩ := hv.shape.1
      obtain ⟨Ay, ky, cy, rfl⟩ := hv.shape.2.1
      obtain ⟨Az, kz, cz, rfl⟩ := hv.shape.2.2
      have hys := HSS.out y HM.out
      have hye := HSUBE.out y HM.out
      have HC1 := Lib.hid (fun W (h : Below wr.heap.size wr W) => ccheck_any F y ⟨ax, .slice Ax kx cx, .slice Ay ky cy, .slice Az kz cz⟩ W (CV.below h _ hv) (HLL.out W (hbr.trans (h.mono hbr.size))) (HVV.out W (hbr.trans (h.mono hbr.size))) hys)
      have HC2 := Lib.hid (fun W (h : Below wr.heap.size wr W) => csize_any F y ⟨ax, .slice Ax kx cx, .slice Ay ky cy, .slice Az kz cz⟩ W (CV.below h _ hv) hys)
      have HC3 := Lib.hid (fun W (h : Below wr.heap.size wr W) => ccdepth_any (F + 1) y ax _ _ _ W (CV.below h _ hv) hys)
      rw [hye] at HC1
      unfold CR.ag at HC1 HC2
      simp only at HC1 HC2
      clear hv hys hye
      generalize Z.coSize (F + 1) y = s1 at *
      generalize Z.coDepth (F + 1) y = d1 at *
      have hi0 : (0 : Int) ≤ (k : Int) := by omega
      have hi1 : (k : Int) < (l.length : Int) := by omega
      have hs1 : s + s1 ≤ 500 := by have := HI.out; have := HI2.out; have := HB1.out; omega
      have hd1 : d1 ≤ 60 ∧ d ≤ 60 := by have := HJ.out; have := HJ2.out; have := HB2.out; omega
      have HIN : Hid (SZ = (s + s1) + Z.sumL (Z.coSize (F + 1)) (l.drop (k + 1))) := Lib.hid (by rw [HI.out, HI2.out]; omega)
      have HJN : Hid (DP = max (max d d1) (Z.maxL (Z.coDepth (F + 1)) (l.drop (k + 1))) + 1) := Lib.hid (by rw [HJ.out, HJ2.out]; omega)
      clear HI HJ HI2 HJ2
      go_wp2_with fail
      refine (HC1.out wr (Below.refl _ _)).mono ?_
      rintro e W5 ⟨rfl, hb⟩
      have g5 := hb
      have h5 := hbr.trans (hb.mono hbr.size)
      have BX := BX.below hb
      have q0 := (hb.cell (p := ⟨b, o + k * 12, none⟩) hbl).trans q0
      have q1 := (hb.cell (p := ⟨b, o + k * 12 + 1, none⟩) hbl).trans q1
      have q2 := (hb.cell (p := ⟨b, o + k * 12 + 2, none⟩) hbl).trans q2
      have q3 := (hb.cell (p := ⟨b, o + k * 12 + 3, none⟩) hbl).trans q3
      have q4 := (hb.cell (p := ⟨b, o + k * 12 + 4, none⟩) hbl).trans q4
      have q5 := (hb.cell (p := ⟨b, o + k * 12 + 5, none⟩) hbl).trans q5
      have q6 := (hb.cell (p := ⟨b, o + k * 12 + 6, none⟩) hbl).trans q6
      have q7 := (hb.cell (p := ⟨b, o + k * 12 + 7, none⟩) hbl).trans q7
      have q8 := (hb.cell (p := ⟨b, o + k * 12 + 8, none⟩) hbl).trans q8
      have q9 := (hb.cell (p := ⟨b, o + k * 12 + 9, none⟩) hbl).trans q9
      have q10 := (hb.cell (p := ⟨b, o + k * 12 + 10, none⟩) hbl).trans q10
      have q11 := (hb.cell (p := ⟨b, o + k * 12 + 11, none⟩) hbl).trans q11
      have hbl := Nat.lt_of_lt_of_le hbl hb.size
      clear hb z0 z1 z2 z3 z4 z5 z6 z7 z8 z9 z10 z11 HC1
      have z0 := BX.cell 0
      have z1 := BX.cell 1
      have z2 := BX.cell 2
      have z3 := BX.cell 3
      have z4 := BX.cell 4
      have z5 := BX.cell 5
      have z6 := BX.cell 6
      have z7 := BX.cell 7
      have z8 := BX.cell 8
      have z9 := BX.cell 9
      have z10 := BX.cell 10
      have z11 := BX.cell 11
      go_wp2_with fail
      refine (HC2.out W5 g5).mono ?_
      rintro e W6 ⟨rfl, hb⟩
      have g6 := g5.trans (hb.mono g5.size)
      have h6 := h5.trans (hb.mono h5.size)
      have BX := BX.below hb
      have q0 := (hb.cell (p := ⟨b, o + k * 12, none⟩) hbl).trans q0
      have q1 := (hb.cell (p := ⟨b, o + k * 12 + 1, none⟩) hbl).trans q1
      have q2 := (hb.cell (p := ⟨b, o + k * 12 + 2, none⟩) hbl).trans q2
      have q3 := (hb.cell (p := ⟨b, o + k * 12 + 3, none⟩) hbl).trans q3
      have q4 := (hb.cell (p := ⟨b, o + k * 12 + 4, none⟩) hbl).trans q4
      have q5 := (hb.cell (p := ⟨b, o + k * 12 + 5, none⟩) hbl).trans q5
      have q6 := (hb.cell (p := ⟨b, o + k * 12 + 6, none⟩) hbl).trans q6
      have q7 := (hb.cell (p := ⟨b, o + k * 12 + 7, none⟩) hbl).trans q7
      have q8 := (hb.cell (p := ⟨b, o + k * 12 + 8, none⟩) hbl).trans q8
      have q9 := (hb.cell (p := ⟨b, o + k * 12 + 9, none⟩) hbl).trans q9
      have q10 := (hb.cell (p := ⟨b, o + k * 12 + 10, none⟩) hbl).trans q10
      have q11 := (hb.cell (p := ⟨b, o + k * 12 + 11, none⟩) hbl).trans q11
      have hbl := Nat.lt_of_lt_of_le hbl hb.size
      clear hb z0 z1 z2 z3 z4 z5 z6 z7 z8 z9 z10 z11 HC2 h5
      have z0 := BX.cell 0
      have z1 := BX.cell 1
      have z2 := BX.cell 2
      have z3 := BX.cell 3
      have z4 := BX.cell 4
      have z5 := BX.cell 5
      have z6 := BX.cell 6
      have z7 := BX.cell 7
      have z8 := BX.cell 8
      have z9 := BX.cell 9
      have z10 := BX.cell 10
      have z11 := BX.cell 11
      go_wp2_with fail
      refine (HC3.out W6 g6).mono ?_
      rintro e W7 ⟨rfl, hb⟩
      have h7 := h6.trans (hb.mono h6.size)
      have BX := BX.below hb
      clear hb z0 z1 z2 z3 z4 z5 z6 z7 z8 z9 z10 z11 q0 q1 q2 q3 q4 q5 q6 q7 q8 q9 q10 q11 HC3 h6 g5 g6
      by_cases hsz : d < d1
      · have HJM := HJN
        rw [Nat.max_eq_right (Nat.le_of_lt hsz)] at HJM
        have hsz' : (d : Int) < (d1 : Int) := by omega
        clear HJN hsz
        go_wp2_with fail
        go_roundw
        case rel => exact ⟨k + 1, s + s1, d1, by omega, by go_num, by go_num, (by first | rfl | (congr 1; omega)), HIN, HJM, h7, BX⟩
        case measure => simp [intOf]; omega
      · have HJM := HJN
        rw [Nat.max_eq_left (show d1 ≤ d by omega)] at HJM
        have hsz' : ¬ (d : Int) < (d1 : Int) := by omega
        clear HJN hsz
        go_wp2_with fail
        go_roundw
        case rel => exact ⟨k + 1, s + s1, d, by omega, by go_num, by go_num, (by first | rfl | (congr 1; omega)), HIN, HJM, h7, BX⟩
        case measure => simp [intOf]; omega
    · obtain rfl : k = l.length := by omega
      obtain rfl : SZ = s := by have := HI.out; rw [List.drop_length] at this; simpa [Z.sumL] using this
      obtain rfl : DP = d + 1 := by have := HJ.out; rw [List.drop_length] at this; simpa [Z.maxL] using this
      have hd1 : d ≤ 60 := by have := HB2.out; omega
      go_wp2_with fail
      refine (HCS.out wr hbr).mono ?_
      rintro e W5 ⟨rfl, hb⟩
      have h5 := hbr.trans (hb.mono hbr.size)
      have BX := BX.below hb
      clear hb z0 z1 z2 z3 z4 z5 z6 z7 z8 z9 z10 z11 HCS hbr
      have z0 := BX.cell 0
      have z1 := BX.cell 1
      have z2 := BX.cell 2
      have z3 := BX.cell 3
      have z4 := BX.cell 4
      have z5 := BX.cell 5
      have z6 := BX.cell 6
      have z7 := BX.cell 7
      have z8 := BX.cell 8
      have z9 := BX.cell 9
      have z10 := BX.cell 10
      have z11 := BX.cell 11
      go_wp2_with fail
      refine (HCD.out W5 h5).mono ?_
      rintro e W6 ⟨rfl, hb⟩
      have h6 := h5.trans (hb.mono h5.size)
      have hdd : (((d + 1 : Nat) : Int) == (d : Int) + 1) = true := by rw [beq_iff_eq]; omega
      clear hb z0 z1 z2 z3 z4 z5 z6 z7 z8 z9 z10 z11 HCD h5
      go_wp2_with fail
      go_ret
      exact ⟨rfl, h6⟩

set_option maxRecDepth 100000 in
theorem lifted (os : Go.Os) (started : os.Started) (H : Type) (enc : TypeId × Value → H) :
    ReturnsInHanded {} Tryd.checked os 6 .any (fun w args => (Rows.contractPartsSpec.pre enc Tryd.prog Tryd.f6 [] false w args ∧ laidMetH Tryd.prog laidL w) ∧ sizedMet enc Tryd.prog Tryd.f6 (OpenSpec.ofChange Rows.contractPartsSpec) false w args) (Rows.contractPartsSpec.post enc Tryd.prog Tryd.f6 false true false false) := by
  refine door_wrap (C := Tryd.checked) (laid := laidL) own started (by kernel_rfl) Tryd.func6
    (ChangeSpec.witness_shaped (enc := enc) (C := Tryd.checked) (os := os) (X := fun w _ => laidMetH Tryd.prog laidL w) false (World.doorLaid Tryd.prog 600 os) #[.agg #[.int .u8 0, .string ByteArray.empty, .string ByteArray.empty, .string ByteArray.empty, .int .u8 0, .string ByteArray.empty, .string ByteArray.empty, .int .i64 0, .slice none 0 0, .int .i64 0, .slice none 0 0, .slice none 0 0]] 8 rfl (World.shaped_of_RefB (by kernel_rfl) (by kernel_rfl)) (by kernel_rfl) (by kernel_rfl) (by kernel_rfl) (door_met os _)) ?_
  intro W base args ds gs before hval0 hW hWt hL hsh
  have hval : ∀ (j : Nat) t v, Tryd.f6.params[j]? = some t → args[j]? = some v → Value.okWide Tryd.prog W .any base t v := hval0
  have hW' := hW
  obtain ⟨p, q, hA0, hV, rfl, hfz, hnd⟩ := hW
  have hA : DataW.TrodAll enc Tryd.prog W 0 (fun _ => true) true Tryd.f6.params.toList args.toList ds p := hA0
  rw [Tryd.params6] at hA hval
  obtain ⟨v0, vs0, d0, ds0, p0, q0, hargs, rfl, rfl, h0, r0⟩ := trodAll_cons hA
  obtain ⟨rfl, rfl, rfl⟩ := trodAll_nil r0
  obtain rfl : args = #[v0] := by cases args; simp_all
  obtain ⟨rfl, rfl⟩ := trodVars_none hV
  have hWm := fun q hq => Nat.le_trans (of_decide_eq_true (List.all_eq_true.1 hWt q hq)) (show reachBytes ≤ 140737488355328 by decide)
  have hM0 : ∀ q ∈ d0.weights Tryd.prog 29, q ≤ 140737488355328 := fun q hq => hWm q (DataW.weights_mem_each (j := 0) (by rfl) (by rfl) q hq)
  have k0 := h0
  obtain ⟨N0, o0⟩ := contract_open (hval 0 29 v0 rfl rfl) h0 hM0
  obtain ⟨F, hF⟩ : ∃ F, F = N0 := ⟨_, rfl⟩
  obtain ⟨r0c, c0, rfl, cv0, cl0⟩ := o0 (F + 1) (by omega)
  clear hA0 hval0
  refine (walk F c0 r0c W cv0 cl0 (Tryd.laysM145.s1_3 W hsh) (of_laid hL)).mono fun e W' ⟨he, bel⟩ => ?_
  subst he
  exact ⟨_, rfl, _, _, _, [], _, [], hW', trodAll_mk1 (shut_bool Tryd.underlying4 _), (trodAll_cons_mk (arg_stays (by kernel_rfl) (of_decide_eq_true (by kernel_rfl)) k0 bel) trodAll_mk0), rfl, bel.frame _, fun h => by cases h⟩

theorem over : Rows.contractPartsRow.holds Tryd.pinned (OpenSpec.ofChange Rows.contractPartsSpec) :=
  OpenClaim.holds_of_wide 6 Tryd.f6 rfl rfl rfl rfl rfl rfl rfl ⟨rfl, rfl, rfl, rfl, rfl⟩ rfl rfl rfl rfl rfl (by kernel_rfl) Tryd.func6 (by kernel_rfl)
    (of_decide_eq_true (by kernel_rfl)) (by unfold Func.isWrapper; first | (rw [if_pos (by decide +kernel)]; kernel_rfl) | (rw [if_neg (by decide +kernel)]; exact ⟨rfl, rfl⟩))
    (fun os started H enc _ => lifted os started H enc)

theorem proved : Rows.ContractPartsCardSaid :=
  Claim7.holds_tied_plain_at .later [] [.mappedDeep, .mapped] true (true, "18ee430487cca9eca090e431cb604d3d491d61f539cb3f6dc50aa057bdde380e") false
    over (fun _ h => by cases h) (by kernel_rfl) (fun _ h => by cases h) contractParts_row_tie rfl ⟨rfl, rfl⟩ (by kernel_rfl) rfl
    (fun f fn hf hfn => by
      obtain rfl : f = 6 := Option.some.inj ((show Tryd.prog.funcNamed "novation/novationlaw09.ContractParts" = some 6 by kernel_rfl).symm.trans hf) |>.symm
      obtain rfl : fn = Tryd.f6 := (Option.some.inj (Tryd.func6.symm.trans hfn)).symm
      exact ⟨by kernel_rfl, fun j t ht => by
        rw [Tryd.params6] at ht
        have hm : t ∈ [29] := by simpa using Array.mem_of_getElem? ht
        have hall : ([29].all fun u => !Tryd.prog.wantsStandIn u) = true := by kernel_rfl
        exact (show Tryd.prog.wantsStandIn t = false by simpa using List.all_eq_true.1 hall t hm)⟩)
    (by kernel_rfl)
#print axioms proved
