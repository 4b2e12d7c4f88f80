/- Walks: solve of the reference of curves. -/
import Derived.Test.YtpnojgaehafjdaaGreatCvra
import Derived.Test.YtpnojgaehafjdaaGreatCvx
namespace Go.Proofs.YtpnojgaehafjdaaGreat
open Go.RowKit
theorem Z.nextEnd_err {s : Z.Nx} (h : s.e ≠ 0) : Z.nextEnd s = (⟨#[]⟩, s.e) := by
  rw [Z.nextEnd_else (fun g => h g.1)]
  simp only [Z.cOp_err _ h]
  rw [if_neg h]
theorem Z.nextEnd_val {s : Z.Nx} (h : s.e = 0) (hb : s.b ≠ Z.z48) : Z.nextEnd s = if (Z.cOp Z.divP (Z.cOp Z.subP 0 Z.z48 s.a).2 (Z.cOp Z.subP 0 Z.z48 s.a).1 s.b).2 = 0 then (if Z.posB (Z.cOp Z.divP (Z.cOp Z.subP 0 Z.z48 s.a).2 (Z.cOp Z.subP 0 Z.z48 s.a).1 s.b).1 = true then ((Z.cOp Z.divP (Z.cOp Z.subP 0 Z.z48 s.a).2 (Z.cOp Z.subP 0 Z.z48 s.a).1 s.b).1, 0) else (⟨#[]⟩, 60)) else (⟨#[]⟩, (Z.cOp Z.divP (Z.cOp Z.subP 0 Z.z48 s.a).2 (Z.cOp Z.subP 0 Z.z48 s.a).1 s.b).2) := by
  rw [Z.nextEnd_else (fun g => hb g.2), h]
theorem Z.knownS_eq (c : Z.Cu) (s : Z.Nx) (e d : Int) (k : ByteArray) : Z.knownS c s e k d = ⟨(Z.cOp Z.addP (Z.cOp Z.mulP (Z.fac e c d).2 k (Z.fac e c d).1).2 s.a (Z.cOp Z.mulP (Z.fac e c d).2 k (Z.fac e c d).1).1).2, (Z.cOp Z.addP (Z.cOp Z.mulP (Z.fac e c d).2 k (Z.fac e c d).1).2 s.a (Z.cOp Z.mulP (Z.fac e c d).2 k (Z.fac e c d).1).1).1, s.b⟩ := rfl
theorem Z.openS_eq (fr : Int) (f : ByteArray) (L : Int) (s : Z.Nx) (e d : Int) (k : ByteArray) {w g h m t n u : ByteArray × Int} (hw : w = Z.cRat e (d - fr) (L - fr)) (hg : g = Z.cOp Z.subP w.2 Z.z49 w.1) (hh : h = Z.cOp Z.mulP g.2 f g.1) (hm : m = Z.cOp Z.mulP h.2 k h.1) (ht : t = Z.cOp Z.addP m.2 s.a m.1) (hn : n = Z.cOp Z.mulP t.2 k w.1) (hu : u = Z.cOp Z.addP n.2 s.b n.1) : Z.openS fr f L s e k d = ⟨u.2, t.1, u.1⟩ := by
  subst hu hn ht hm hh hg hw
  rfl
set_option maxRecDepth 100000 in
set_option maxHeartbeats 8000000 in
theorem solve_any (c : Z.Cu) (v : Value) (r : QV) (q : Z.Qt) (w : World) (hSP : SP w v c.pts) (hq : QOk w r q) (hc : Z.cuE c = 0) (hqt : Z.qtE q c.base = 0) :
    Calls Tryz.prog 34 #[.agg #[.int .i64 c.base, v], .agg #[r.dv, r.pv, .string r.rate]] w (RRet (Z.nextR c q) w) := by
  obtain ⟨N, hN0⟩ : ∃ N, N = Z.nextL c q.rate q.last ⟨0, Z.zm1, Z.z49⟩ q.legs := ⟨_, rfl⟩
  have HN := Lib.hid hN0
  have HR : Hid (Z.nextR c q = Z.nextEnd N) := Lib.hid (by rw [hN0]; rfl)
  clear hN0
  generalize Z.nextR c q = R at *
  obtain ⟨dv, pv, rate⟩ := r
  obtain ⟨A, cp, e1, hlc, hcm⟩ := hq.1.shape
  obtain ⟨A2, cp2, e2, hlc2, hcm2⟩ := hq.2.1.shape
  have e1 : dv = .slice A q.dates.length cp := e1
  have e2 : pv = .slice A2 q.parts.length cp2 := e2
  have e3 : rate = q.rate := hq.2.2
  subst e1 e2 e3
  unfold maxLen at hcm hcm2
  obtain ⟨_, _, hd0, hpl, hrk, _, _⟩ := Z.qt_ok hqt
  obtain ⟨l1, l2, l3, _⟩ := Z.qt_last hqt
  have hrz := chk_sz hrk
  have HPL := Lib.hid hpl
  have HC := Lib.hid hc
  have HLG := Lib.hid (Z.qt_legs hqt)
  obtain ⟨_, hcb, hcp⟩ := Z.cuE_ok hc
  have hge : c.base ≤ c.endK.1 := Z.endK_ge c.pts c.base Z.z49 hcp
  have hfz : c.endK.2.size ≤ 2100 := chk_sz (Z.endK_chk c.pts c.base Z.z49 hcp Z.chk_49.1 Z.chk_49.2).1
  have hb0 := (((Below.refl _ w).alloc (Nat.le_refl w.heap.size) (.cells #[.int .i64 c.base, v] 24)).alloc (by simp) (.cells #[.slice A q.dates.length cp, .slice A2 q.parts.length cp2, .string q.rate] 42)).alloc (by simp; omega) (.cells #[.int .i64 0] 59)
  have BC := ((Blk.new w 24 #[.int .i64 c.base, v]).alloc (.cells #[.slice A q.dates.length cp, .slice A2 q.parts.length cp2, .string q.rate] 42)).alloc (.cells #[.int .i64 0] 59)
  have BQ := (Blk.new (w.alloc (.cells #[.int .i64 c.base, v] 24)) 42 #[.slice A q.dates.length cp, .slice A2 q.parts.length cp2, .string q.rate]).alloc (.cells #[.int .i64 0] 59)
  rw [World.size_alloc] at BQ
  have BS := Blk.new ((w.alloc (.cells #[.int .i64 c.base, v] 24)).alloc (.cells #[.slice A q.dates.length cp, .slice A2 q.parts.length cp2, .string q.rate] 42)) 59 #[.int .i64 0]
  rw [World.size_alloc, World.size_alloc] at BS
  have HE := Lib.hid (rlast_any c v _ (hSP.below hb0))
  have c0 := BC.cell 0
  have c1 := BC.cell 1
  have HEN : Hid (∀ (s : Z.Nx) (l : Int × ByteArray), (l.1 ≤ c.endK.1 → Z.nextS c q.rate q.last s l = Z.knownS c s (Z.cOp Z.mulP s.e q.rate l.2).2 (Z.cOp Z.mulP s.e q.rate l.2).1 l.1) ∧ (¬ l.1 ≤ c.endK.1 → Z.nextS c q.rate q.last s l = Z.openS c.endK.1 c.endK.2 q.last s (Z.cOp Z.mulP s.e q.rate l.2).2 (Z.cOp Z.mulP s.e q.rate l.2).1 l.1)) := Lib.hid fun s l => ⟨fun h => if_pos h, fun h => if_neg h⟩
  generalize c.endK = en at *
  -- the last day
  have hz := getLastD_at hd0
  have hlast : q.dates.getLastD 0 = q.last := rfl
  rw [hlast] at hz
  obtain ⟨bd, od, hA, hbd, hcd⟩ := hq.1.cell1 hz rfl
  have hA : A = some ⟨bd, od, none⟩ := hA
  subst hA
  clear hz hlast
  generalize hLq : q.last = L at *
  have hn0 : (0 : Int) ≤ (q.dates.length : Int) - 1 := by omega
  have hn1 : (q.dates.length : Int) - 1 < (q.dates.length : Int) := by omega
  have hdn : ¬ q.dates = [] := fun e => by rw [e] at hd0; exact absurd hd0 (Nat.lt_irrefl 0)
  clear hc hqt hpl hrk hcp
  go_enter Tryz.func34, Tryz.ntmps34
  go_wp2_with fail
  refine HE.out.mono ?_
  rintro e W1 ⟨rfl, hb1⟩
  have hbw := hb0.trans (hb1.mono hb0.size)
  have BC1 := BC.below hb1
  have BQ1 := BQ.below hb1
  have BS1 := BS.below hb1
  have q0 := BQ1.cell 0
  have hcd1 := (hbw.cell (p := ⟨bd, od + (q.dates.length - 1), none⟩) hbd).trans hcd
  clear HE hb0 hb1 BC BQ BS c0 c1
  go_wp2_with fail
  generalize hB : w.heap.size + 1 + 1 = B at *
  have hwz := hbw.size
  have n1 : w.heap.size ≠ B := by omega
  have n2 : w.heap.size + 1 ≠ B := by omega
  have hwB : w.heap.size ≤ B := by omega
  have hbG : ∀ X, W1.grownBy X (some B) → Below w.heap.size w X := fun X g => hbw.grown g hbw.size (fun k hk => by injection hk with hk; omega)
  have HL0 : Hid (N = Z.nextL c q.rate L ⟨0, Z.zm1, Z.z49⟩ (q.legs.drop 0) ∧ RB W1 B 0) := Lib.hid ⟨HN.out, BS1⟩
  clear hB HN hcd1 BS1 q0 hn0 hn1
  go_loopw [10, 11, 12] (fun av bv iv wr => ∃ (k : Nat) (s : Z.Nx), k ≤ q.dates.length ∧ iv = .int .i64 k ∧ av = .string s.a ∧ bv = .string s.b ∧ Hid (N = Z.nextL c q.rate L s (q.legs.drop k) ∧ RB wr B s.e ∧ W1.grownBy wr (some B)) ∧ s.a.size ≤ 2100 ∧ s.b.size ≤ 2100) (fun _ _ iv _ => q.dates.length - (intOf iv).toNat)
  case atStart => exact ⟨0, ⟨0, Z.zm1, Z.z49⟩, by omega, rfl, rfl, rfl, Lib.hid ⟨HL0.out.1, HL0.out.2, grown_refl _ _⟩, by show Z.zm1.size ≤ 2100; decide, by show Z.z49.size ≤ 2100; decide⟩
  case round =>
    obtain ⟨k, s, hk, rfl, rfl, rfl, HI, hsa, hsb⟩ := hrel
    clear HL0
    obtain ⟨hT, hS, hg⟩ := HI.out
    have HTk := Lib.hid hT
    have HSk := Lib.hid hS
    have BCr := Lib.hid (BC1.kept hg (fun e => n1 (by injection e)))
    have BQr := Lib.hid (BQ1.kept hg (fun e => n2 (by injection e)))
    clear HI hT hS
    have q0 := BQr.out.cell 0
    by_cases hlt : k < q.dates.length
    · have hz : q.dates[k]? = some q.dates[k] := List.getElem?_eq_getElem hlt
      have hk2 : k < q.parts.length := by have := HPL.out; omega
      have hz2 : q.parts[k]? = some q.parts[k] := List.getElem?_eq_getElem hk2
      obtain ⟨hld, hmem⟩ := legs_drop hz hz2
      obtain ⟨bd2, od2, hA, hbd2, qd⟩ := hq.1.cell1 hz rfl
      injection hA with hA
      injection hA with hA1 hA2 _
      subst hA1 hA2
      obtain ⟨bp, op, rfl, hbp, qp⟩ := hq.2.1.cell1 hz2 rfl
      obtain ⟨m1, m2, m3⟩ := HLG.out _ hmem
      have m1 : c.base < q.dates[k] := m1
      have m2 : q.dates[k] ≤ L := m2
      have m3 : Z.rchk q.parts[k] = 0 := m3
      have hpz := chk_sz m3
      have HLD := Lib.hid hld
      generalize q.dates[k] = d at *
      generalize q.parts[k] = p at *
      have qd := ((hbG _ hg).cell (p := ⟨bd, od + k, none⟩) hbd).trans qd
      have hk0 : (0 : Int) ≤ (k : Int) := by omega
      have hk1 : (k : Int) < (q.parts.length : Int) := by omega
      have hk3 : (k : Int) < (q.dates.length : Int) := by omega
      have qpy : ∀ y : Gb wr B, y.1.cell? ⟨bp, op + k, none⟩ = some (.string p) := fun y => ((hbG y.1 (hg.trans y.2)).cell (p := ⟨bp, op + k, none⟩) hbp).trans qp
      have g1 : ∀ y : Gb wr B, y.1.cell? ⟨w.heap.size + 1, 1, none⟩ = some (.slice (some ⟨bp, op, none⟩) q.parts.length cp2) := fun y => Gb.cell (j := 1) BQr.out n2 y
      have g2 : ∀ y : Gb wr B, y.1.cell? ⟨w.heap.size + 1, 2, none⟩ = some (.string q.rate) := fun y => Gb.cell (j := 2) BQr.out n2 y
      have HSTP := Lib.hid (HEN.out s (d, p))
      have HSTEP : Hid (N = Z.nextL c q.rate L (Z.nextS c q.rate L s (d, p)) (q.legs.drop (k + 1))) := Lib.hid (by rw [HTk.out, HLD.out]; rfl)
      clear hz hz2 hld hmem qp m3 HTk HLD
      go_wp2_with fail
      refine wp_region_stages 10 [([0, 1, 2, 3, 4, 5, 6, 7], [8]), ([9], [])] [] (fun w' => ∃ y : Gb wr B, w' = y.1) (by kernel_rfl) (by kernel_rfl) ⟨⟨wr.drew, grown_drew (grown_refl _ _)⟩, rfl⟩ ?_
      simp only [fxS, opsAt, List.filterMap_cons, List.filterMap_nil, List.getElem?_toArray, List.getElem?_cons_succ, List.getElem?_cons_zero]
      show wpQuiet _ _ _ _ [_, _, _, _, _, _, _, _] _
      repeat (go_big_quiet_step (fail))
      refine wpQuiet_nil ?_
      refine fxp_enter (f := 44) (args := #[.pointer (some ⟨B, 0, none⟩), .string q.rate, .string p]) (w' := wr.drew) rfl (by simp [go_sem]) ?_
      refine (rcmul_any B s.e q.rate p wr.drew HSk.out (by omega) (by omega)).mono ?_
      rintro e1 X1 ⟨rfl, s1, y1⟩
      have G1 := (grown_drew (grown_refl wr (some B))).trans y1
      refine ⟨_, rfl, ⟨⟨X1, G1⟩, rfl⟩, ?_⟩
      have z1 := Z.cOp_sz Z.sz_mul s.e q.rate p
      obtain ⟨p1, hp1⟩ : ∃ x, x = Z.cOp Z.mulP s.e q.rate p := ⟨_, rfl⟩
      have hstep : (d ≤ en.1 → Z.nextS c q.rate L s (d, p) = Z.knownS c s p1.2 p1.1 d) ∧ (en.1 < d → Z.nextS c q.rate L s (d, p) = Z.openS en.1 en.2 L s p1.2 p1.1 d) := by rw [hp1]; exact HSTP.out
      rw [← hp1] at s1 z1 ⊢
      clear hp1 HSTP
      refine fxp_nil ?_
      show wpQuiet _ _ _ _ [_] _
      simp only [Act.put, List.setIfInBounds_toArray, List.set_cons_succ, List.set_cons_zero]
      repeat (go_big_quiet_step (fail))
      refine wpQuiet_nil ?_
      refine fxp_nil (fxl_nil ?_)
      clear g1 g2 qpy qd y1
      have hbr : ∀ X, wr.grownBy X (some B) → Below w.heap.size w X := fun X g => hbG X (hg.trans g)
      have BCx := BCr.out.kept G1 (fun e => n1 (by injection e))
      have c0 := BCx.cell 0
      have c1 := BCx.cell 1
      by_cases hdf : d ≤ en.1
      · have HS2 := Lib.hid (hstep.1 hdf)
        clear hstep
        have H2 := Lib.hid (rat_any c v d p1.2 B w X1 hSP (hbr _ G1) s1 HC.out (by omega) (by omega))
        go_wp2_with fail
        refine H2.out.mono ?_
        rintro e2 X2 ⟨rfl, s2, g2⟩
        have z2 := fac_sz HC.out p1.2 d
        have G2 := G1.trans g2
        obtain ⟨p2, hp2⟩ : ∃ x, x = Z.fac p1.2 c d := ⟨_, rfl⟩
        rw [← hp2] at s2 z2 ⊢
        have HP2 := Lib.hid hp2
        clear H2 g2 hp2
        have H3 := Lib.hid (rcmul_any B p2.2 p1.1 p2.1 X2 s2 (by omega) (by omega))
        go_wp2_with fail
        refine H3.out.mono ?_
        rintro e3 X3 ⟨rfl, s3, g3⟩
        have z3 := Z.cOp_sz Z.sz_mul p2.2 p1.1 p2.1
        have G3 := G2.trans g3
        obtain ⟨p3, hp3⟩ : ∃ x, x = Z.cOp Z.mulP p2.2 p1.1 p2.1 := ⟨_, rfl⟩
        rw [← hp3] at s3 z3 ⊢
        have HP3 := Lib.hid hp3
        clear H3 g3 hp3
        have H4 := Lib.hid (rcadd_any B p3.2 s.a p3.1 X3 s3 (by omega) (by omega))
        go_wp2_with fail
        refine H4.out.mono ?_
        rintro e4 X4 ⟨rfl, s4, g4⟩
        have z4 := Z.cOp_sz Z.sz_add p3.2 s.a p3.1
        have G4 := G3.trans g4
        obtain ⟨p4, hp4⟩ : ∃ x, x = Z.cOp Z.addP p3.2 s.a p3.1 := ⟨_, rfl⟩
        rw [← hp4] at s4 z4 ⊢
        have HP4 := Lib.hid hp4
        clear H4 g4 hp4
        have HNN : Hid (N = Z.nextL c q.rate L ⟨p4.2, p4.1, s.b⟩ (q.legs.drop (k + 1))) := Lib.hid (by rw [HSTEP.out, HS2.out, HP4.out, HP3.out, HP2.out]; rfl)
        clear HP2 HP3 HP4 hdf c0 c1
        go_wp2_with fail
        go_roundw
        case rel => exact ⟨k + 1, ⟨p4.2, p4.1, s.b⟩, by omega, by go_num, rfl, rfl, Lib.hid ⟨HNN.out, s4, hg.trans G4⟩, z4, hsb⟩
        case measure => simp [intOf]; omega
      · have hdf2 : en.1 < d := by omega
        have HS2 := Lib.hid (hstep.2 hdf2)
        clear hstep c0 c1 BCx
        go_wp2_with fail
        refine (whole_any (d - en.1) X1 (by omega) (by omega)).mono ?_
        rintro e2 Y1 ⟨rfl, b1⟩
        have GY1 := G1.trans (grown_of_below b1 (some B))
        go_wp2_with fail
        refine (whole_any (L - en.1) Y1 (by omega) (by omega)).mono ?_
        rintro e3 Y2 ⟨rfl, b2⟩
        have GY2 := GY1.trans (grown_of_below b2 (some B))
        have sY := (s1.below b1).below b2
        clear G1 GY1 b1 b2 s1
        have H2 := Lib.hid (rcrat_any B p1.2 (d - en.1) (L - en.1) Y2 sY (by omega) (by omega) (by omega) (by omega))
        go_wp2_with fail
        refine H2.out.mono ?_
        rintro e2 X2 ⟨rfl, s2, g2⟩
        have z2 := Z.cRat_sz (e := p1.2) (a := d - en.1) (b := L - en.1) (by omega) (by omega) (by omega) (by omega)
        have G2 := GY2.trans g2
        obtain ⟨p2, hp2⟩ : ∃ x, x = Z.cRat p1.2 (d - en.1) (L - en.1) := ⟨_, rfl⟩
        rw [← hp2] at s2 z2 ⊢
        have HP2 := Lib.hid hp2
        clear H2 g2 hp2
        have H3 := Lib.hid (rcsub_any B p2.2 Z.z49 p2.1 X2 s2 (by decide) (by omega))
        go_wp2_with fail
        refine H3.out.mono ?_
        rintro e3 X3 ⟨rfl, s3, g3⟩
        have z3 := Z.cOp_sz Z.sz_sub p2.2 Z.z49 p2.1
        have G3 := G2.trans g3
        obtain ⟨p3, hp3⟩ : ∃ x, x = Z.cOp Z.subP p2.2 Z.z49 p2.1 := ⟨_, rfl⟩
        rw [← hp3] at s3 z3 ⊢
        have HP3 := Lib.hid hp3
        clear H3 g3 hp3
        have H4 := Lib.hid (rcmul_any B p3.2 en.2 p3.1 X3 s3 (by omega) (by omega))
        go_wp2_with fail
        refine H4.out.mono ?_
        rintro e4 X4 ⟨rfl, s4, g4⟩
        have z4 := Z.cOp_sz Z.sz_mul p3.2 en.2 p3.1
        have G4 := G3.trans g4
        obtain ⟨p4, hp4⟩ : ∃ x, x = Z.cOp Z.mulP p3.2 en.2 p3.1 := ⟨_, rfl⟩
        rw [← hp4] at s4 z4 ⊢
        have HP4 := Lib.hid hp4
        clear H4 g4 hp4
        have H5 := Lib.hid (rcmul_any B p4.2 p1.1 p4.1 X4 s4 (by omega) (by omega))
        go_wp2_with fail
        refine H5.out.mono ?_
        rintro e5 X5 ⟨rfl, s5, g5⟩
        have z5 := Z.cOp_sz Z.sz_mul p4.2 p1.1 p4.1
        have G5 := G4.trans g5
        obtain ⟨p5, hp5⟩ : ∃ x, x = Z.cOp Z.mulP p4.2 p1.1 p4.1 := ⟨_, rfl⟩
        rw [← hp5] at s5 z5 ⊢
        have HP5 := Lib.hid hp5
        clear H5 g5 hp5
        have H6 := Lib.hid (rcadd_any B p5.2 s.a p5.1 X5 s5 (by omega) (by omega))
        go_wp2_with fail
        refine H6.out.mono ?_
        rintro e6 X6 ⟨rfl, s6, g6⟩
        have z6 := Z.cOp_sz Z.sz_add p5.2 s.a p5.1
        have G6 := G5.trans g6
        obtain ⟨p6, hp6⟩ : ∃ x, x = Z.cOp Z.addP p5.2 s.a p5.1 := ⟨_, rfl⟩
        rw [← hp6] at s6 z6 ⊢
        have HP6 := Lib.hid hp6
        clear H6 g6 hp6
        have H7 := Lib.hid (rcmul_any B p6.2 p1.1 p2.1 X6 s6 (by omega) (by omega))
        go_wp2_with fail
        refine H7.out.mono ?_
        rintro e7 X7 ⟨rfl, s7, g7⟩
        have z7 := Z.cOp_sz Z.sz_mul p6.2 p1.1 p2.1
        have G7 := G6.trans g7
        obtain ⟨p7, hp7⟩ : ∃ x, x = Z.cOp Z.mulP p6.2 p1.1 p2.1 := ⟨_, rfl⟩
        rw [← hp7] at s7 z7 ⊢
        have HP7 := Lib.hid hp7
        clear H7 g7 hp7
        have H8 := Lib.hid (rcadd_any B p7.2 s.b p7.1 X7 s7 (by omega) (by omega))
        go_wp2_with fail
        refine H8.out.mono ?_
        rintro e8 X8 ⟨rfl, s8, g8⟩
        have z8 := Z.cOp_sz Z.sz_add p7.2 s.b p7.1
        have G8 := G7.trans g8
        obtain ⟨p8, hp8⟩ : ∃ x, x = Z.cOp Z.addP p7.2 s.b p7.1 := ⟨_, rfl⟩
        rw [← hp8] at s8 z8 ⊢
        have HP8 := Lib.hid hp8
        clear H8 g8 hp8
        have HNN : Hid (N = Z.nextL c q.rate L ⟨p8.2, p6.1, p8.1⟩ (q.legs.drop (k + 1))) := Lib.hid (by rw [HSTEP.out, HS2.out, Z.openS_eq en.1 en.2 L s p1.2 d p1.1 HP2.out HP3.out HP4.out HP5.out HP6.out HP7.out HP8.out])
        clear HP2 HP3 HP4 HP5 HP6 HP7 HP8 hdf hdf2
        go_wp2_with fail
        go_roundw
        case rel => exact ⟨k + 1, ⟨p8.2, p6.1, p8.1⟩, by omega, by go_num, rfl, rfl, Lib.hid ⟨HNN.out, s8, hg.trans G8⟩, z6, z8⟩
        case measure => simp [intOf]; omega
    · obtain rfl : k = q.dates.length := by omega
      have hTe : N = s := HTk.out.trans (by rw [legs_end HPL.out]; rfl)
      subst hTe
      have cs := HSk.out.cell 0
      have h48 := z48_eq N.b
      have hbf := hbG _ hg
      clear HTk HEN
      by_cases he : N.e = 0
      case neg =>
        have HR1 : Hid (R = (⟨#[]⟩, N.e)) := Lib.hid (by rw [HR.out]; exact Z.nextEnd_err he)
        have heb := ne_bne he
        clear he h48
        go_wp2_with fail
        go_region
        go_wp2_with fail
        go_ret2
        exact rret HR1.out hbf.drew
      rw [he] at cs
      by_cases hy : N.b = Z.z48
      · have HR1 : Hid (R = (⟨#[]⟩, 60)) := Lib.hid (by rw [HR.out]; exact Z.nextEnd_zero ⟨he, hy⟩)
        rw [decide_eq_true hy] at h48
        clear hy he
        go_wp2_with fail
        go_ret2
        exact rret HR1.out hbf
      have HR1 := Lib.hid (HR.out.trans (Z.nextEnd_val he hy))
      rw [decide_eq_false hy] at h48
      have hs0 : RB wr B 0 := by rw [← he]; exact HSk.out
      have hbr : ∀ X, wr.grownBy X (some B) → Below w.heap.size w X := fun X g => hbG X (hg.trans g)
      clear hy he HR HSk
      have H1 := Lib.hid (rcsub_any B 0 Z.z48 N.a wr hs0 (by decide) (by omega))
      go_wp2_with fail
      refine H1.out.mono ?_
      rintro e1 X1 ⟨rfl, s1, y1⟩
      have z1 := Z.cOp_sz Z.sz_sub 0 Z.z48 N.a
      generalize Z.cOp Z.subP 0 Z.z48 N.a = p1 at *
      have H2 := Lib.hid (rcdiv_any B p1.2 p1.1 N.b X1 s1 (by omega) (by omega))
      go_wp2_with fail
      refine H2.out.mono ?_
      rintro e2 X2 ⟨rfl, s2, y2⟩
      have hpos := @Z.cdiv_pos p1.2 p1.1 N.b
      have z2 := Z.cOp_sz Z.sz_div p1.2 p1.1 N.b
      generalize Z.cOp Z.divP p1.2 p1.1 N.b = p2 at *
      have hbf2 := hbr _ (y1.trans y2)
      have cs := s2.cell 0
      clear H1 H2 y1 y2
      by_cases he2 : p2.2 = 0
      case neg =>
        rw [if_neg he2] at HR1
        have heb := ne_bne he2
        clear he2 hpos
        go_wp2_with fail
        go_region
        go_wp2_with fail
        go_ret2
        exact rret HR1.out hbf2.drew
      rw [if_pos he2] at HR1
      rw [he2] at cs
      have hpp := hpos he2
      have HP : Hid (∀ W : World, Calls Tryz.prog 29 #[.string p2.1] W fun e w' => e = .returned (.bool (Z.posB p2.1)) ∧ W = w') := Lib.hid fun W => rpos_any p2.1 W hpp (by unfold maxLen; omega)
      clear he2 hpos hpp
      go_wp2_with fail
      refine (HP.out _).mono ?_
      rintro e w2 ⟨rfl, rfl⟩
      cases hps : Z.posB p2.1
      · rw [hps] at HR1
        have HR2 : Hid (R = (⟨#[]⟩, 60)) := HR1
        go_wp2_with fail
        go_ret2
        exact rret HR2.out hbf2
      · rw [hps] at HR1
        have HR2 : Hid (R = (p2.1, 0)) := HR1
        go_wp2_with fail
        go_ret2
        exact rret HR2.out hbf2
end Go.Proofs.YtpnojgaehafjdaaGreat
