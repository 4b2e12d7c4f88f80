/- Walks: at of the reference of curves: the factor on a day, with a running error. -/
import Derived.Test.YtpnojgaehafjdaaGreatCvrc
import Derived.Test.YtpnojgaehafjdaaGreatCvp
namespace Go.Proofs.YtpnojgaehafjdaaGreat
open Go.RowKit
namespace Z
theorem facL_drop {l : List Pt} {k : Nat} {p : Pt} (e day a : Int) (f : ByteArray) (h : l[k]? = some p) : facL e day a f (l.drop k) = if p.d = day then (p.f, e) else if day < p.d then cOp addP (cOp mulP (cOp subP (cRat e (day - a) (p.d - a)).2 p.f f).2 (cOp subP (cRat e (day - a) (p.d - a)).2 p.f f).1 (cRat e (day - a) (p.d - a)).1).2 f (cOp mulP (cOp subP (cRat e (day - a) (p.d - a)).2 p.f f).2 (cOp subP (cRat e (day - a) (p.d - a)).2 p.f f).1 (cRat e (day - a) (p.d - a)).1).1 else facL e day p.d p.f (l.drop (k + 1)) := by
  obtain ⟨hlt, rfl⟩ := List.getElem?_eq_some_iff.1 h
  rw [List.drop_eq_getElem_cons hlt]
  conv => lhs; unfold facL
theorem ptsE_at {l : List Pt} {k : Nat} {p : Pt} {a : Int} (hp : ptsE a (l.drop k) = 0) (h : l[k]? = some p) : (0 ≤ p.d ∧ p.d ≤ 99999) ∧ a < p.d ∧ rchk p.f = 0 ∧ ptsE p.d (l.drop (k + 1)) = 0 := by
  obtain ⟨hlt, rfl⟩ := List.getElem?_eq_some_iff.1 h
  rw [List.drop_eq_getElem_cons hlt] at hp
  obtain ⟨h1, h2, h3, _, h5⟩ := ptsE_cons hp
  exact ⟨h1, h2, h3, h5⟩
end Z
theorem RCRet.of {B : Nat} {r : ByteArray × Int} {s : ByteArray} {k : Int} {w w' : World} (h : r = (s, k)) (hb : RB w' B k) (hg : w.grownBy w' (some B)) : RCRet B r w (.returned (.string s)) w' := by
  subst h
  exact ⟨rfl, hb, hg⟩
set_option maxRecDepth 100000 in
set_option maxHeartbeats 4000000 in
theorem rat_any (c : Z.Cu) (v : Value) (day e : Int) (B : Nat) (w0 w : World) (hSP : SP w0 v c.pts) (hw : Below w0.heap.size w0 w) (hs : RB w B e) (hc : Z.cuE c = 0) (h1 : c.base ≤ day) (h2 : day ≤ 99999) :
    Calls Tryz.prog 21 #[.pointer (some ⟨B, 0, none⟩), .agg #[.int .i64 c.base, v], .int .i64 day] w (RCRet B (Z.fac e c day) w) := by
  obtain ⟨_, hb0, hpt⟩ := Z.cuE_ok hc
  have HS := Lib.hid hSP
  have HPT := Lib.hid (Z.pts_ok _ _ hpt)
  obtain ⟨A, cp, rfl, hlc, hcm⟩ := hSP.shape
  unfold maxLen at hcm
  have hbl := hs.lt
  have hba := (Below.refl _ w).alloc (Nat.le_refl w.heap.size) (.cells #[.int .i64 c.base, .slice A c.pts.length cp] 24)
  have BL := Blk.new w 24 #[.int .i64 c.base, .slice A c.pts.length cp]
  have hl0 := BL.cell 0
  have hl1 := BL.cell 1
  have HF : Hid (Z.fac e c day = if day = c.base then (Z.z49, e) else Z.facL e day c.base Z.z49 c.pts) := Lib.hid rfl
  generalize Z.fac e c day = R at *
  clear hSP
  by_cases hd : day = c.base
  · rw [if_pos hd] at HF
    have hdb : (day == c.base) = true := by rw [beq_iff_eq]; exact hd
    have hs2 := hs.alloc (.cells #[.int .i64 c.base, .slice A c.pts.length cp] 24)
    have hg2 := grown_of_below hba (some B)
    clear hd
    go_enter Tryz.func21, Tryz.ntmps21
    go_wp2_with fail
    go_ret
    exact RCRet.of HF.out hs2 hg2
  rw [if_neg hd] at HF
  have hdb : (day == c.base) = false := by rw [beq_eq_false_iff_ne]; exact hd
  have HI0 : Hid (R = Z.facL e day c.base Z.z49 (c.pts.drop 0) ∧ Z.ptsE c.base (c.pts.drop 0) = 0) := Lib.hid ⟨HF.out, hpt⟩
  have hlt0 : c.base < day := by omega
  have hs0 := Lib.hid (hs.alloc (.cells #[.int .i64 c.base, .slice A c.pts.length cp] 24))
  clear HF hd hpt hs
  go_enter Tryz.func21, Tryz.ntmps21
  go_wp2_with fail
  generalize (w.alloc (.cells #[.int .i64 c.base, .slice A c.pts.length cp] 24)) = W0 at *
  have hz9 : Z.z49.size ≤ 2100 := by decide
  go_loopw [7, 8, 9] (fun av fv iv wr => ∃ (k : Nat) (a : Int) (f : ByteArray), k ≤ c.pts.length ∧ av = .int .i64 a ∧ fv = .string f ∧ iv = .int .i64 k ∧ Hid (R = Z.facL e day a f (c.pts.drop k) ∧ Z.ptsE a (c.pts.drop k) = 0) ∧ 0 ≤ a ∧ a < day ∧ f.size ≤ 2100 ∧ Below W0.heap.size W0 wr) (fun _ _ iv _ => c.pts.length - (intOf iv).toNat)
  case atStart => exact ⟨0, c.base, Z.z49, by omega, rfl, rfl, rfl, HI0, by omega, hlt0, hz9, Below.refl _ _⟩
  case round =>
    obtain ⟨k, a, f, hk, rfl, rfl, rfl, HI, ha0, had, hfs, hbr⟩ := hrel
    clear HI0 hlt0 hz9
    have hbw := hba.trans (hbr.mono hba.size)
    have BLr := BL.below hbr
    have hl0 := BLr.cell 0
    have hl1 := BLr.cell 1
    have HSr := Lib.hid (hs0.out.below hbr)
    have hk0 : (0 : Int) ≤ (k : Int) := by omega
    by_cases hlt : k < c.pts.length
    · have hz : c.pts[k]? = some c.pts[k] := List.getElem?_eq_getElem hlt
      have hk1 : (k : Int) < (c.pts.length : Int) := by omega
      obtain ⟨b, o, rfl, hbl2, q0, q1⟩ := SP.cells (HS.out.below (hw.trans (hbw.mono hw.size))) hz
      have HD := Lib.hid (Z.facL_drop e day a f hz)
      obtain ⟨hpd, hap, hchk, hpn⟩ := Z.ptsE_at HI.out.2 hz
      have hps : c.pts[k].f.size ≤ 2100 := (HPT.out _ (List.mem_of_getElem? hz)).2
      clear hz
      generalize c.pts[k] = p at *
      have HK : Hid (R = if p.d = day then (p.f, e) else if day < p.d then Z.cOp Z.addP (Z.cOp Z.mulP (Z.cOp Z.subP (Z.cRat e (day - a) (p.d - a)).2 p.f f).2 (Z.cOp Z.subP (Z.cRat e (day - a) (p.d - a)).2 p.f f).1 (Z.cRat e (day - a) (p.d - a)).1).2 f (Z.cOp Z.mulP (Z.cOp Z.subP (Z.cRat e (day - a) (p.d - a)).2 p.f f).2 (Z.cOp Z.subP (Z.cRat e (day - a) (p.d - a)).2 p.f f).1 (Z.cRat e (day - a) (p.d - a)).1).1 else Z.facL e day p.d p.f (c.pts.drop (k + 1))) := Lib.hid (by rw [HI.out.1, HD.out])
      clear HI HD
      have BX := Blk.new wr 50 #[.int .i64 p.d, .string p.f]
      have z0 := BX.cell 0
      have z1 := BX.cell 1
      have hbx := (Below.refl _ wr).alloc (Nat.le_refl wr.heap.size) (.cells #[.int .i64 p.d, .string p.f] 50)
      have hb5 := hbr.trans (hbx.mono hbr.size)
      have hbw5 := hba.trans (hb5.mono hba.size)
      have hs5 := Lib.hid (HSr.out.below hbx)
      have hne : wr.heap.size ≠ B := fun e => by have := hbw.size; omega
      have hg5 := grown_of_below hbw5 (some B)
      by_cases hd1 : p.d = day
      · have hd1b : (day == p.d) = true := by rw [beq_iff_eq]; exact hd1.symm
        rw [if_pos hd1] at HK
        clear hd1
        go_wp2_with fail
        go_ret
        exact RCRet.of HK.out hs5.out hg5
      have hd1b : (day == p.d) = false := by rw [beq_eq_false_iff_ne]; exact fun e => hd1 e.symm
      rw [if_neg hd1] at HK
      by_cases hd2 : day < p.d
      case neg =>
        rw [if_neg hd2] at HK
        have hd3 : p.d < day := by omega
        have hp0 := hpd.1
        clear hd1
        go_wp2_with fail
        go_roundw
        case rel => exact ⟨k + 1, p.d, p.f, by omega, rfl, rfl, by go_num, Lib.hid ⟨HK.out, hpn⟩, hp0, hd3, hps, hb5⟩
        case measure => simp [intOf]; omega
      rw [if_pos hd2] at HK
      have hp1 := hpd.2
      go_upto_region 11 with fail
      generalize (wr.alloc (.cells #[.int .i64 p.d, .string p.f] 50)) = W5 at *
      generalize wr.heap.size = Bx at *
      have f0 : ∀ y : Gb W5 B, y.1.cell? ⟨Bx, 0, none⟩ = some (.int .i64 p.d) := fun y => Gb.cell (j := 0) BX hne y
      have zw := Z.cRat_sz (e := e) (a := day - a) (b := p.d - a) (by omega) (by omega) (by omega) (by omega)
      refine wp_region_stages 12 [([0, 1, 2, 3, 5, 6, 7, 8], [4, 9, 10]), ([11], [])] [] (fun w' => ∃ y : Gb W5 B, w' = y.1) (by kernel_rfl) (by kernel_rfl) ⟨⟨W5.drew, grown_drew (grown_refl _ _)⟩, rfl⟩ ?_
      simp only [fxS, opsAt, List.filterMap_cons, List.filterMap_nil, List.getElem?_toArray, List.getElem?_cons_succ, List.getElem?_cons_zero]
      show wpQuiet _ _ _ _ [_, _, _, _, _, _, _, _] _
      repeat (go_big_quiet_step (fail))
      refine wpQuiet_nil ?_
      have G0 := grown_drew (grown_refl W5 (some B))
      refine fxp_enter (f := 42) (args := #[.int .i64 (day - a)]) (w' := W5.drew) rfl (by simp [go_sem]) ?_
      refine (whole_any (day - a) W5.drew (by omega) (by omega)).mono ?_
      rintro e1 X1 ⟨rfl, b1⟩
      have G1 := G0.trans (grown_of_below b1 (some B))
      refine ⟨_, rfl, ⟨⟨X1, G1⟩, rfl⟩, ?_⟩
      refine fxp_enter (f := 42) (args := #[.int .i64 (p.d - a)]) (w' := X1) rfl (by simp [go_sem]) ?_
      refine (whole_any (p.d - a) X1 (by omega) (by omega)).mono ?_
      rintro e2 X2 ⟨rfl, b2⟩
      have G2 := G1.trans (grown_of_below b2 (some B))
      refine ⟨_, rfl, ⟨⟨X2, G2⟩, rfl⟩, ?_⟩
      refine fxp_enter (f := 23) (args := #[.pointer (some ⟨B, 0, none⟩), .string (Z.S (day - a)), .string (Z.S (p.d - a))]) (w' := X2) rfl (by simp [go_sem]) ?_
      refine (rcrat_any B e (day - a) (p.d - a) X2 ((hs5.out.below (Below.refl _ W5).drew).below b1 |>.below b2) (by omega) (by omega) (by omega) (by omega)).mono ?_
      rintro e3 X3 ⟨rfl, s3, g3⟩
      have G3 := G2.trans g3
      refine ⟨_, rfl, ⟨⟨X3, G3⟩, rfl⟩, ?_⟩
      refine fxp_nil ?_
      generalize Z.cRat e (day - a) (p.d - a) = p3 at *
      show wpQuiet _ _ _ _ [_] _
      simp only [Act.put, List.setIfInBounds_toArray, List.set_cons_succ, List.set_cons_zero]
      repeat (go_big_quiet_step (fail))
      refine wpQuiet_nil ?_
      refine fxp_nil (fxl_nil ?_)
      have GX := Lib.hid (hg5.trans G3)
      have x0 : X3.cell? ⟨Bx, 1, none⟩ = some (.string p.f) := Gb.cell (j := 1) BX hne ⟨X3, G3⟩
      clear f0 BX G0 G1 G2 G3 g3 b1 b2 hd1 hd2
      have H4 := Lib.hid (rcsub_any B p3.2 p.f f X3 s3 (by omega) (by omega))
      go_wp2_with fail
      refine H4.out.mono ?_
      rintro e4 X4 ⟨rfl, s4, g4⟩
      have z4 := Z.cOp_sz Z.sz_sub p3.2 p.f f
      generalize Z.cOp Z.subP p3.2 p.f f = p4 at *
      have H5 := Lib.hid (rcmul_any B p4.2 p4.1 p3.1 X4 s4 (by omega) (by omega))
      go_wp2_with fail
      refine H5.out.mono ?_
      rintro e5 X5 ⟨rfl, s5, g5⟩
      have z5 := Z.cOp_sz Z.sz_mul p4.2 p4.1 p3.1
      generalize Z.cOp Z.mulP p4.2 p4.1 p3.1 = p5 at *
      have H6 := Lib.hid (rcadd_any B p5.2 f p5.1 X5 s5 (by omega) (by omega))
      go_wp2_with fail
      refine H6.out.mono ?_
      rintro e6 X6 ⟨rfl, s6, g6⟩
      have GF := (GX.out.trans (g4.trans g5)).trans g6
      generalize Z.cOp Z.addP p5.2 f p5.1 = p6 at *
      go_wp2_with fail
      go_ret
      exact RCRet.of HK.out s6 GF
    · obtain rfl : k = c.pts.length := by omega
      have HR : Hid (R = (f, e)) := Lib.hid (by rw [HI.out.1, List.drop_length]; rfl)
      have hg := grown_of_below hbw (some B)
      clear HI
      go_wp2_with fail
      go_ret
      exact RCRet.of HR.out HSr.out hg
end Go.Proofs.YtpnojgaehafjdaaGreat
