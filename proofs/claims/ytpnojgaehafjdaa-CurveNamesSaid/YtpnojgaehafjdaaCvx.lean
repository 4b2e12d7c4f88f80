/- Walks: curve.next. -/
import Derived.Test.YtpnojgaehafjdaaCvn
namespace Go.Proofs.Ytpnojgaehafjdaa
open Go.RowKit
/-- The worlds that have grown from W, but for some boxes, as a class. -/
def Gs (S : Nat → Prop) (W : World) : Type := {w' : World // GrS S W w'}
instance (S : Nat → Prop) (W : World) : Nonempty (Gs S W) := ⟨⟨W, GrS.refl S W⟩⟩
theorem GrS.drew {S : Nat → Prop} {a b : World} (h : GrS S a b) : GrS S a b.drew := ⟨h.os, h.tape, h.output, h.size, h.block⟩
theorem Gs.cell {W : World} {S : Nat → Prop} {b j : Nat} {t : TypeId} {cs : Array Value} (h : Blk W b t cs) (hn : ¬ S b) (y : Gs S W) : y.1.cell? ⟨b, j, none⟩ = cs[j]? := (y.2.blk h hn).cell j
theorem Z.nextEnd_zero {s : Z.Nx} (h : s.e = 0 ∧ s.b = Z.z48) : Z.nextEnd s = (⟨#[]⟩, 60) := if_pos h
theorem Z.nextEnd_else {s : Z.Nx} (h : ¬ (s.e = 0 ∧ s.b = Z.z48)) : Z.nextEnd s = (let n := Z.cOp Z.subP s.e Z.z48 s.a; let x := Z.cOp Z.divP n.2 n.1 s.b; if x.2 = 0 then (if Z.posB x.1 = true then (x.1, 0) else (⟨#[]⟩, 60)) else (⟨#[]⟩, x.2)) := if_neg h
theorem Z.cdiv_pos {e : Int} {a b : ByteArray} (h : (Z.cOp Z.divP e a b).2 = 0) : 0 < (Z.cOp Z.divP e a b).1.size := by
  by_cases he : e = 0
  · subst he
    rw [Z.cOp_ok] at h ⊢
    rw [(Z.div_ex h).1]
    exact Z.rchk_pos (Z.rchk_Q (Z.div_ex h).2.1)
  · rw [Z.cOp_err _ he] at h
    exact absurd h he
theorem z48_eq (t : ByteArray) : (t.toList == [48]) = decide (t = Z.z48) := by
  rw [Bool.eq_iff_iff, beq_iff_eq, decide_eq_true_iff]
  constructor
  · intro h
    exact Z.ba_of (by rw [← Lib.toList_data, ← Lib.toList_data, h]; decide +kernel)
  · rintro rfl
    decide +kernel
set_option maxRecDepth 100000 in
set_option maxHeartbeats 8000000 in
theorem next_any (c : Z.Cu) (v : Value) (r : QV) (q : Z.Qt) (w : World) (hSP : SP w v c.pts) (hq : QOk w r q) (hV : HasV w) (hc : Z.cuE c = 0) (hqt : Z.qtE q c.base = 0) :
    Calls Try.prog 27 #[.agg #[.int .i64 c.base, v], .agg #[r.dv, r.pv, .string r.rate]] w (RRet (Z.nextR c q) w) := by
  have hmf : ∀ (fn : Fn) (first cap : Array Value) (w : World), (Instr.makeFunc fn first cap).run Try.prog w = .ok (.func fn first cap) w := fun _ _ _ _ => rfl
  obtain ⟨N, hN0⟩ : ∃ N, N = Z.nextL c q.rate q.last ⟨0, Z.zm1, Z.z49⟩ q.legs := ⟨_, rfl⟩
  have HN := Lib.hid hN0
  have HR : Hid (Z.nextR c q = Z.nextEnd N) := Lib.hid (by rw [hN0]; rfl)
  clear hN0
  generalize Z.nextR c q = R at *
  obtain ⟨dv, pv, rate⟩ := r
  obtain ⟨A, cp, e1, hlc, hcm⟩ := hq.1.shape
  obtain ⟨A2, cp2, e2, hlc2, hcm2⟩ := hq.2.1.shape
  have e1 : dv = .slice A q.dates.length cp := e1
  have e2 : pv = .slice A2 q.parts.length cp2 := e2
  have e3 : rate = q.rate := hq.2.2
  subst e1 e2 e3
  unfold maxLen at hcm hcm2
  obtain ⟨_, _, hd0, hpl, hrk, _, _⟩ := Z.qt_ok hqt
  obtain ⟨l1, l2, l3, _⟩ := Z.qt_last hqt
  have hrz := chk_sz hrk
  have HPL := Lib.hid hpl
  have HC := Lib.hid hc
  have HLG := Lib.hid (Z.qt_legs hqt)
  obtain ⟨_, hcb, hcp⟩ := Z.cuE_ok hc
  have hge : c.base ≤ c.endK.1 := Z.endK_ge c.pts c.base Z.z49 hcp
  have hfz : c.endK.2.size ≤ 2100 := chk_sz (Z.endK_chk c.pts c.base Z.z49 hcp Z.chk_49.1 Z.chk_49.2).1
  have hb0 := (((Below.refl _ w).alloc (Nat.le_refl w.heap.size) (.cells #[.int .i64 c.base, v] 27)).alloc (by simp) (.cells #[.slice A q.dates.length cp, .slice A2 q.parts.length cp2, .string q.rate] 49)).alloc (by simp; omega) (.cells #[.int .i64 0] 59)
  have BC := ((Blk.new w 27 #[.int .i64 c.base, v]).alloc (.cells #[.slice A q.dates.length cp, .slice A2 q.parts.length cp2, .string q.rate] 49)).alloc (.cells #[.int .i64 0] 59)
  have BQ := (Blk.new (w.alloc (.cells #[.int .i64 c.base, v] 27)) 49 #[.slice A q.dates.length cp, .slice A2 q.parts.length cp2, .string q.rate]).alloc (.cells #[.int .i64 0] 59)
  rw [World.size_alloc] at BQ
  have BS := Blk.new ((w.alloc (.cells #[.int .i64 c.base, v] 27)).alloc (.cells #[.slice A q.dates.length cp, .slice A2 q.parts.length cp2, .string q.rate] 49)) 59 #[.int .i64 0]
  rw [World.size_alloc, World.size_alloc] at BS
  have HE := Lib.hid (end_any c v _ (hSP.below hb0))
  have c0 := BC.cell 0
  have c1 := BC.cell 1
  have HEN : Hid (∀ (s : Z.Nx) (l : Int × ByteArray), (l.1 ≤ c.endK.1 → Z.nextS c q.rate q.last s l = Z.knownS c s (Z.cOp Z.mulP s.e q.rate l.2).2 (Z.cOp Z.mulP s.e q.rate l.2).1 l.1) ∧ (¬ l.1 ≤ c.endK.1 → Z.nextS c q.rate q.last s l = Z.openS c.endK.1 c.endK.2 q.last s (Z.cOp Z.mulP s.e q.rate l.2).2 (Z.cOp Z.mulP s.e q.rate l.2).1 l.1)) := Lib.hid fun s l => ⟨fun h => if_pos h, fun h => if_neg h⟩
  generalize c.endK = en at *
  clear hc hqt hpl hrk hcp
  go_enter Try.func27, Try.ntmps27
  go_wp2_with fail
  refine HE.out.mono ?_
  rintro e W1 ⟨rfl, hb1⟩
  have hbw := hb0.trans (hb1.mono hb0.size)
  have BC1 := ((((BC.below hb1).alloc (.cells #[.int .i64 en.1] 3)).alloc (.cells #[.string en.2] 35)).alloc (.cells #[.string ⟨#[45, 49]⟩] 35)).alloc (.cells #[.string ⟨#[49]⟩] 35)
  have BQ1 := ((((BQ.below hb1).alloc (.cells #[.int .i64 en.1] 3)).alloc (.cells #[.string en.2] 35)).alloc (.cells #[.string ⟨#[45, 49]⟩] 35)).alloc (.cells #[.string ⟨#[49]⟩] 35)
  have BS1 := ((((BS.below hb1).alloc (.cells #[.int .i64 en.1] 3)).alloc (.cells #[.string en.2] 35)).alloc (.cells #[.string ⟨#[45, 49]⟩] 35)).alloc (.cells #[.string ⟨#[49]⟩] 35)
  have BFR := (((Blk.new W1 3 #[.int .i64 en.1]).alloc (.cells #[.string en.2] 35)).alloc (.cells #[.string ⟨#[45, 49]⟩] 35)).alloc (.cells #[.string ⟨#[49]⟩] 35)
  have BF := ((Blk.new (W1.alloc (.cells #[.int .i64 en.1] 3)) 35 #[.string en.2]).alloc (.cells #[.string ⟨#[45, 49]⟩] 35)).alloc (.cells #[.string ⟨#[49]⟩] 35)
  rw [World.size_alloc] at BF
  have BA := (Blk.new ((W1.alloc (.cells #[.int .i64 en.1] 3)).alloc (.cells #[.string en.2] 35)) 35 #[.string ⟨#[45, 49]⟩]).alloc (.cells #[.string ⟨#[49]⟩] 35)
  rw [World.size_alloc, World.size_alloc] at BA
  have BB := Blk.new (((W1.alloc (.cells #[.int .i64 en.1] 3)).alloc (.cells #[.string en.2] 35)).alloc (.cells #[.string ⟨#[45, 49]⟩] 35)) 35 #[.string ⟨#[49]⟩]
  rw [World.size_alloc, World.size_alloc, World.size_alloc] at BB
  have hb2 := (((hbw.alloc hbw.size (.cells #[.int .i64 en.1] 3)).alloc (by simp; have := hbw.size; omega) (.cells #[.string en.2] 35)).alloc (by simp; have := hbw.size; omega) (.cells #[.string ⟨#[45, 49]⟩] 35)).alloc (by simp; have := hbw.size; omega) (.cells #[.string ⟨#[49]⟩] 35)
  have hsW := (BS.below hb1).lt
  have q0 := BQ1.cell 0
  clear HE hb0 hb1 BC BQ BS c0 c1
  go_wp2_with fail
  generalize ((((W1.alloc (.cells #[.int .i64 en.1] 3)).alloc (.cells #[.string en.2] 35)).alloc (.cells #[.string ⟨#[45, 49]⟩] 35)).alloc (.cells #[.string ⟨#[49]⟩] 35)) = W2 at *
  generalize hB : w.heap.size + 1 + 1 = B at *
  have hwz := hbw.size
  generalize hFr : W1.heap.size = Bfr at *
  generalize hBb : Bfr + 1 + 1 + 1 = Bb at *
  generalize hBa : Bfr + 1 + 1 = Ba at *
  generalize hBf : Bfr + 1 = Bf at *
  have o1 : Bfr < Bf := by omega
  have o2 : Bf < Ba := by omega
  have o3 : Ba < Bb := by omega
  have o4 : B < Bfr := by omega
  have o5 : w.heap.size + 1 < B := by omega
  have n1 : B ≠ Ba := by omega
  have n2 : B ≠ Bb := by omega
  have n3 : Ba ≠ Bb := by omega
  have n4 : ¬ N3 B Ba Bb Bfr := fun h => by rcases h with h | h | h <;> omega
  have n5 : ¬ N3 B Ba Bb (w.heap.size + 1) := fun h => by rcases h with h | h | h <;> omega
  have n6 : ¬ N3 B Ba Bb Bf := fun h => by rcases h with h | h | h <;> omega
  have n7 : ¬ N3 B Ba Bb w.heap.size := fun h => by rcases h with h | h | h <;> omega
  have nge : ∀ k, N3 B Ba Bb k → w.heap.size ≤ k := fun k h => by rcases h with h | h | h <;> omega
  have hbG : ∀ X, GrS (N3 B Ba Bb) W2 X → Below w.heap.size w X := fun X g => g.below hb2 nge hb2.size
  have HL0 : Hid (N = Z.nextL c q.rate q.last ⟨0, Z.zm1, Z.z49⟩ (q.legs.drop 0) ∧ NxB W2 B Ba Bb ⟨0, Z.zm1, Z.z49⟩) := Lib.hid ⟨HN.out, BS1, BA, BB⟩
  clear hB hFr hBf hBa hBb HN hsW hbw BS1 BA BB
  go_loopw [28] (fun iv wr => ∃ (k : Nat) (s : Z.Nx), k ≤ q.dates.length ∧ iv = .int .i64 k ∧ Hid (N = Z.nextL c q.rate q.last s (q.legs.drop k) ∧ NxB wr B Ba Bb s ∧ GrS (N3 B Ba Bb) W2 wr) ∧ s.a.size ≤ 2100 ∧ s.b.size ≤ 2100) (fun iv _ => q.dates.length - (intOf iv).toNat)
  case atStart => exact ⟨0, _, by omega, rfl, Lib.hid ⟨HL0.out.1, HL0.out.2, GrS.refl _ _⟩, by show Z.zm1.size ≤ 2100; decide, by show Z.z49.size ≤ 2100; decide⟩
  case round =>
    obtain ⟨k, s, hk, rfl, HI, hsa, hsb⟩ := hrel
    clear HL0
    obtain ⟨hT, hN, hg⟩ := HI.out
    have HTk := Lib.hid hT
    have HNk := Lib.hid hN
    have BCr := Lib.hid (hg.blk BC1 n7)
    have BQr := Lib.hid (hg.blk BQ1 n5)
    have BFRr := Lib.hid (hg.blk BFR n4)
    have BFr := Lib.hid (hg.blk BF n6)
    have HGr := Lib.hid hg
    clear HI hT hN
    by_cases hlt : k < q.dates.length
    · have hz : q.dates[k]? = some q.dates[k] := List.getElem?_eq_getElem hlt
      have hk2 : k < q.parts.length := by have := HPL.out; omega
      have hz2 : q.parts[k]? = some q.parts[k] := List.getElem?_eq_getElem hk2
      obtain ⟨hld, hmem⟩ := legs_drop hz hz2
      obtain ⟨bd, od, rfl, hbd, qd⟩ := hq.1.cell1 hz rfl
      obtain ⟨bp, op, rfl, hbp, qp⟩ := hq.2.1.cell1 hz2 rfl
      obtain ⟨m1, m2, m3⟩ := HLG.out _ hmem
      have m1 : c.base < q.dates[k] := m1
      have m2 : q.dates[k] ≤ q.last := m2
      have m3 : Z.rchk q.parts[k] = 0 := m3
      have hpz := chk_sz m3
      have HLD := Lib.hid hld
      generalize q.dates[k] = d at *
      generalize q.parts[k] = p at *
      have qd := ((hbG _ hg).cell (p := ⟨bd, od + k, none⟩) hbd).trans qd
      have cfr := BFRr.out.cell 0
      have hk0 : (0 : Int) ≤ (k : Int) := by omega
      have hk1 : (k : Int) < (q.parts.length : Int) := by omega
      have qpy : ∀ y : Gs (N3 B Ba Bb) wr, y.1.cell? ⟨bp, op + k, none⟩ = some (.string p) := fun y => ((hbG y.1 (hg.trans y.2)).cell (p := ⟨bp, op + k, none⟩) hbp).trans qp
      have g1 : ∀ y : Gs (N3 B Ba Bb) wr, y.1.cell? ⟨w.heap.size + 1, 1, none⟩ = some (.slice (some ⟨bp, op, none⟩) q.parts.length cp2) := fun y => Gs.cell (j := 1) BQr.out n5 y
      have g2 : ∀ y : Gs (N3 B Ba Bb) wr, y.1.cell? ⟨w.heap.size + 1, 2, none⟩ = some (.string q.rate) := fun y => Gs.cell (j := 2) BQr.out n5 y
      have hstep := HEN.out s (d, p)
      have HSTEP : Hid (N = Z.nextL c q.rate q.last (Z.nextS c q.rate q.last s (d, p)) (q.legs.drop (k + 1))) := Lib.hid (by rw [HTk.out, HLD.out]; rfl)
      clear hz hz2 hld hmem qp m3 HTk HLD
      obtain ⟨p1, hp1⟩ : ∃ x, x = Z.cOp Z.mulP s.e q.rate p := ⟨_, rfl⟩
      have zp1 : p1.1.size ≤ 2100 := by rw [hp1]; exact Z.cOp_sz Z.sz_mul _ _ _
      have hbr : ∀ X, GrS (N3 B Ba Bb) wr X → Below w.heap.size w X := fun X g => hbG X (hg.trans g)
      have C1 : Hid (Calls Try.prog 41 #[.pointer (some ⟨B, 0, none⟩), .string q.rate, .string p] wr.drew (CalcRet B p1 wr.drew)) := Lib.hid (by rw [hp1]; exact smul_any B s.e q.rate p wr.drew HNk.out.1 (hV.below (hbr _ (GrS.refl _ _).drew)) (by omega) (by omega))
      by_cases hdf : d ≤ en.1
      · have HS2 : Hid (Z.nextS c q.rate q.last s (d, p) = Z.knownS c s p1.2 p1.1 d) := Lib.hid (by rw [hp1]; exact hstep.1 hdf)
        have zk := Z.cOp_sz Z.sz_add (Z.cOp Z.mulP (Z.fac p1.2 c d).2 p1.1 (Z.fac p1.2 c d).1).2 s.a (Z.cOp Z.mulP (Z.fac p1.2 c d).2 p1.1 (Z.fac p1.2 c d).1).1
        have zk : (Z.knownS c s p1.2 p1.1 d).a.size ≤ 2100 := zk
        have zl : (Z.knownS c s p1.2 p1.1 d).b.size ≤ 2100 := hsb
        clear hstep hp1
        go_wp2_with fail
        refine wp_region_stages 11 [([0, 1, 2, 3, 4, 5, 6, 7, 9], [8, 10])] [] (fun w' => ∃ y : Gs (N3 B Ba Bb) wr, w' = y.1) (by kernel_rfl) (by kernel_rfl) ⟨⟨wr.drew, (GrS.refl _ _).drew⟩, rfl⟩ ?_
        simp only [fxS, opsAt, List.filterMap_cons, List.filterMap_nil, List.getElem?_toArray, List.getElem?_cons_succ, List.getElem?_cons_zero]
        show wpQuiet _ _ _ _ [_, _, _, _, _, _, _, _, _] _
        repeat (go_big_quiet_step (fail))
        refine wpQuiet_nil ?_
        refine fxp_enter (f := 41) (args := #[.pointer (some ⟨B, 0, none⟩), .string q.rate, .string p]) (w' := wr.drew) rfl (by simp [go_sem]) ?_
        refine C1.out.mono ?_
        rintro e1 X1 ⟨rfl, s1, y1⟩
        have G1 : GrS (N3 B Ba Bb) wr X1 := (GrS.refl _ _).drew.trans (GrS.of_grown y1 (.inl rfl))
        have hN1 : NxB X1 B Ba Bb ⟨p1.2, s.a, s.b⟩ := ⟨s1, (show Blk wr.drew Ba _ _ from HNk.out.2.1).kept y1 (fun e => n1 (by injection e with e; exact e.symm)), (show Blk wr.drew Bb _ _ from HNk.out.2.2).kept y1 (fun e => n2 (by injection e with e; exact e.symm))⟩
        refine ⟨_, rfl, ⟨⟨X1, G1⟩, rfl⟩, ?_⟩
        refine fxp_enter (f := 44) (args := #[.string p1.1, .int .i64 d, .pointer (some ⟨B, 0, none⟩), .pointer (some ⟨Ba, 0, none⟩), .pointer (some ⟨w.heap.size, 0, none⟩)]) (w' := X1) rfl (by simp [go_sem]) ?_
        refine (known_any c v B Ba Bb w.heap.size s p1.2 d p1.1 w X1 hV hSP (hbr _ G1) (nge B (.inl rfl)) hN1 (G1.blk BCr.out n7) n1 n2 n3 (fun e => n7 (.inl e)) HC.out (by omega) (by omega) zp1 hsa).mono ?_
        rintro e2 X2 ⟨⟨u, rfl⟩, hN2, g3⟩
        have G2 := G1.trans g3
        refine ⟨_, rfl, ⟨⟨X2, G2⟩, rfl⟩, ?_⟩
        refine fxp_nil (fxl_nil ?_)
        have HNN := Lib.hid hN2
        have HGN := Lib.hid (hg.trans G2)
        clear g1 g2 qpy qd cfr
        go_wp2_with fail
        go_roundw
        case rel => exact ⟨k + 1, _, by omega, by go_num, Lib.hid ⟨by rw [HSTEP.out, HS2.out], HNN.out, HGN.out⟩, zk, zl⟩
        case measure => simp [intOf]; omega
      · have HS2 : Hid (Z.nextS c q.rate q.last s (d, p) = Z.openS en.1 en.2 q.last s p1.2 p1.1 d) := Lib.hid (by rw [hp1]; exact hstep.2 (Int.not_le.1 hdf))
        have zk : (Z.openS en.1 en.2 q.last s p1.2 p1.1 d).a.size ≤ 2100 := Z.cOp_sz Z.sz_add _ _ _
        have zl : (Z.openS en.1 en.2 q.last s p1.2 p1.1 d).b.size ≤ 2100 := Z.cOp_sz Z.sz_add _ _ _
        clear hstep hp1
        go_wp2_with fail
        refine wp_region_stages 11 [([0, 1, 2, 3, 4, 5, 6, 7, 9], [8, 10])] [] (fun w' => ∃ y : Gs (N3 B Ba Bb) wr, w' = y.1) (by kernel_rfl) (by kernel_rfl) ⟨⟨wr.drew, (GrS.refl _ _).drew⟩, rfl⟩ ?_
        simp only [fxS, opsAt, List.filterMap_cons, List.filterMap_nil, List.getElem?_toArray, List.getElem?_cons_succ, List.getElem?_cons_zero]
        show wpQuiet _ _ _ _ [_, _, _, _, _, _, _, _, _] _
        repeat (go_big_quiet_step (fail))
        refine wpQuiet_nil ?_
        refine fxp_enter (f := 41) (args := #[.pointer (some ⟨B, 0, none⟩), .string q.rate, .string p]) (w' := wr.drew) rfl (by simp [go_sem]) ?_
        refine C1.out.mono ?_
        rintro e1 X1 ⟨rfl, s1, y1⟩
        have G1 : GrS (N3 B Ba Bb) wr X1 := (GrS.refl _ _).drew.trans (GrS.of_grown y1 (.inl rfl))
        have hN1 : NxB X1 B Ba Bb ⟨p1.2, s.a, s.b⟩ := ⟨s1, (show Blk wr.drew Ba _ _ from HNk.out.2.1).kept y1 (fun e => n1 (by injection e with e; exact e.symm)), (show Blk wr.drew Bb _ _ from HNk.out.2.2).kept y1 (fun e => n2 (by injection e with e; exact e.symm))⟩
        refine ⟨_, rfl, ⟨⟨X1, G1⟩, rfl⟩, ?_⟩
        refine fxp_enter (f := 45) (args := #[.string p1.1, .int .i64 d, .pointer (some ⟨B, 0, none⟩), .pointer (some ⟨Bfr, 0, none⟩), .pointer (some ⟨w.heap.size + 1, 0, none⟩), .pointer (some ⟨Ba, 0, none⟩), .pointer (some ⟨Bf, 0, none⟩), .pointer (some ⟨Bb, 0, none⟩)]) (w' := X1) rfl (by simp [go_sem]) ?_
        refine (open_any en.1 q.last en.2 ⟨_, _, _⟩ q B Ba Bb Bfr (w.heap.size + 1) Bf s p1.2 d p1.1 w X1 hV hq hd0 rfl (hbr _ G1) (nge B (.inl rfl)) (nge Ba (.inr (.inl rfl))) (nge Bb (.inr (.inr rfl))) hN1 (G1.blk BFRr.out n4) (G1.blk BQr.out n5) (G1.blk BFr.out n6) n1 n2 n3 n4 n5 n6 (by omega) (by omega) m2 l3 zp1 hsa hsb hfz).mono ?_
        rintro e2 X2 ⟨⟨u, rfl⟩, hN2, g3⟩
        have G2 := G1.trans g3
        refine ⟨_, rfl, ⟨⟨X2, G2⟩, rfl⟩, ?_⟩
        refine fxp_nil (fxl_nil ?_)
        have HNN := Lib.hid hN2
        have HGN := Lib.hid (hg.trans G2)
        clear g1 g2 qpy qd cfr
        go_wp2_with fail
        go_roundw
        case rel => exact ⟨k + 1, _, by omega, by go_num, Lib.hid ⟨by rw [HSTEP.out, HS2.out], HNN.out, HGN.out⟩, zk, zl⟩
        case measure => simp [intOf]; omega
    · obtain rfl : k = q.dates.length := by omega
      have hTe : N = s := HTk.out.trans (by rw [legs_end HPL.out]; rfl)
      subst hTe
      have cs := HNk.out.1.cell 0
      have cb := HNk.out.2.2.cell 0
      have h48 := z48_eq N.b
      have hbf := hbG _ hg
      clear q0 HTk HEN
      by_cases hz : N.e = 0 ∧ N.b = Z.z48
      · have HR1 : Hid (R = (⟨#[]⟩, 60)) := Lib.hid (by rw [HR.out]; exact Z.nextEnd_zero hz)
        have he0 := eq_beq0 hz.1
        rw [decide_eq_true hz.2] at h48
        clear hz
        go_wp2_with fail
        go_ret2
        exact rret HR1.out hbf
      have HR1 : Hid (R = if (Z.cOp Z.divP (Z.cOp Z.subP N.e Z.z48 N.a).2 (Z.cOp Z.subP N.e Z.z48 N.a).1 N.b).2 = 0 then (if Z.posB (Z.cOp Z.divP (Z.cOp Z.subP N.e Z.z48 N.a).2 (Z.cOp Z.subP N.e Z.z48 N.a).1 N.b).1 = true then ((Z.cOp Z.divP (Z.cOp Z.subP N.e Z.z48 N.a).2 (Z.cOp Z.subP N.e Z.z48 N.a).1 N.b).1, 0) else (⟨#[]⟩, 60)) else (⟨#[]⟩, (Z.cOp Z.divP (Z.cOp Z.subP N.e Z.z48 N.a).2 (Z.cOp Z.subP N.e Z.z48 N.a).1 N.b).2)) := Lib.hid (by rw [HR.out]; exact Z.nextEnd_else hz)
      have hcond : (N.e == 0 && (N.b.toList == [48])) = false := by
        rw [h48]
        cases he : (N.e == 0)
        · rfl
        · rw [beq_iff_eq] at he
          rw [Bool.true_and, decide_eq_false (fun h => hz ⟨he, h⟩)]
      clear h48 hz HR
      go_upto_region 14 with fail
      go_cut [56] (fun bv wx => bv = .bool false ∧ wr = wx)
      case first =>
        cases he : (N.e == 0)
        · go_wp2_with fail
          go_meet
          exact ⟨rfl, rfl⟩
        · rw [he, Bool.true_and] at hcond
          go_wp2_with fail
          go_meet
          exact ⟨by first | rfl | rw [hcond], rfl⟩
      case rest =>
      obtain ⟨rfl, rfl⟩ := hcut
      clear hcond cs cb
      have k0 : ∀ y : Gb wr B, y.1.cell? ⟨Ba, 0, none⟩ = some (.string N.a) := fun y => Gb.cell (j := 0) HNk.out.2.1 (fun e => n1 e.symm) y
      have k1 : ∀ y : Gb wr B, y.1.cell? ⟨Bb, 0, none⟩ = some (.string N.b) := fun y => Gb.cell (j := 0) HNk.out.2.2 (fun e => n2 e.symm) y
      have hbr : ∀ X, wr.grownBy X (some B) → Below w.heap.size w X := fun X g => hbf.grown g hbf.size (fun k hk => by injection hk with hk; omega)
      go_wp2_with fail
      refine wp_region_stages 10 [([0, 2], [1, 3, 4]), ([5, 6, 7, 8, 9], [])] [] (fun w' => ∃ y : Gb wr B, w' = y.1) (by kernel_rfl) (by kernel_rfl) ⟨⟨wr.drew, grown_drew (grown_refl _ _)⟩, rfl⟩ ?_
      simp only [fxS, opsAt, List.filterMap_cons, List.filterMap_nil, List.getElem?_toArray, List.getElem?_cons_succ, List.getElem?_cons_zero]
      show wpQuiet _ _ _ _ [_, _] _
      repeat (go_big_quiet_step (fail))
      refine wpQuiet_nil ?_
      have G0 := grown_drew (grown_refl wr (some B))
      refine fxp_enter (f := 42) (args := #[.pointer (some ⟨B, 0, none⟩), .string ⟨#[48]⟩, .string N.a]) (w' := wr.drew) rfl (by simp [go_sem]) ?_
      refine (ssub_any B N.e Z.z48 N.a wr.drew HNk.out.1 (hV.below (hbr _ G0)) (by decide) (by omega)).mono ?_
      rintro e1 X1 ⟨rfl, s1, y1⟩
      have G1 := G0.trans y1
      refine ⟨_, rfl, ⟨⟨X1, G1⟩, rfl⟩, ?_⟩
      have z1 := Z.cOp_sz Z.sz_sub N.e Z.z48 N.a
      generalize Z.cOp Z.subP N.e Z.z48 N.a = p1 at *
      refine fxp_enter (f := 38) (args := #[.pointer (some ⟨B, 0, none⟩), .string p1.1, .string N.b]) (w' := X1) rfl (by simp [go_sem]) ?_
      refine (sdiv_any B p1.2 p1.1 N.b X1 s1 (hV.below (hbr _ G1)) (by omega) (by omega)).mono ?_
      rintro e2 X2 ⟨rfl, s2, y2⟩
      have G2 := G1.trans y2
      refine ⟨_, rfl, ⟨⟨X2, G2⟩, rfl⟩, ?_⟩
      have hpos := @Z.cdiv_pos p1.2 p1.1 N.b
      have z2 := Z.cOp_sz Z.sz_div p1.2 p1.1 N.b
      generalize Z.cOp Z.divP p1.2 p1.1 N.b = p2 at *
      refine fxp_enter (f := 31) (args := #[.pointer (some ⟨B, 0, none⟩), .string p2.1]) (w' := X2) rfl (by simp [go_sem]) ?_
      refine (done_any B p2.2 p2.1 X2 s2).mono ?_
      rintro e3 X3 ⟨rfl, y3⟩
      have G3 := G2.trans (grown_of_below y3 (some B))
      refine ⟨_, rfl, ⟨⟨X3, G3⟩, rfl⟩, ?_⟩
      have hbf4 := hbr _ G3
      clear k0 k1
      by_cases he : p2.2 = 0
      · have hd4 : Z.done (p2.1, p2.2) = (p2.1, 0) := by unfold Z.done; rw [if_pos he]; exact Prod.ext rfl he
        rw [hd4]
        rw [if_pos he] at HR1
        have hpp := hpos he
        have HP : Hid (∀ W : World, Calls Try.prog 29 #[.string p2.1] W fun e w' => e = .returned (.bool (Z.posB p2.1)) ∧ W = w') := Lib.hid fun W => pos_any p2.1 W hpp (by unfold maxLen; omega)
        clear he hd4 hpos hpp
        refine fxp_nil ?_
        show wpQuiet _ _ _ _ [_, _, _, _, _] _
        simp only [Act.put, List.setIfInBounds_toArray, List.set_cons_succ, List.set_cons_zero]
        repeat (go_big_quiet_step (fail))
        refine wpQuiet_nil ?_
        refine fxp_nil (fxl_nil ?_)
        go_wp2_with fail
        refine (HP.out _).mono ?_
        rintro e w2 ⟨rfl, rfl⟩
        cases hps : Z.posB p2.1
        · rw [hps] at HR1
          have HR2 : Hid (R = (⟨#[]⟩, 60)) := HR1
          go_wp2_with fail
          go_ret2
          exact rret HR2.out hbf4
        · rw [hps] at HR1
          have HR2 : Hid (R = (p2.1, 0)) := HR1
          go_wp2_with fail
          go_ret2
          exact rret HR2.out hbf4
      · have hd4 : Z.done (p2.1, p2.2) = (⟨#[]⟩, p2.2) := if_neg he
        rw [hd4]
        rw [if_neg he] at HR1
        have heb := ne_beq0 he
        clear he hd4 hpos
        refine fxp_nil ?_
        show wpQuiet _ _ _ _ [_, _, _, _, _] _
        simp only [Act.put, List.setIfInBounds_toArray, List.set_cons_succ, List.set_cons_zero]
        repeat (go_big_quiet_step (fail))
        refine wpQuiet_nil ?_
        refine fxp_nil (fxl_nil ?_)
        go_wp2_with fail
        go_ret2
        exact rret HR1.out hbf4
end Go.Proofs.Ytpnojgaehafjdaa
