/- Walks: curve.next and the two functions within it. -/
import Derived.Test.YtpnojgaehafjdaaCvp
namespace Go.Proofs.Ytpnojgaehafjdaa
open Go.RowKit
/-- The worlds that have grown from W, but for some boxes. -/
structure GrS (S : Nat → Prop) (w w' : World) : Prop where
  os : w'.os = w.os
  tape : w'.tape = w.tape
  output : w'.output = w.output
  size : w.heap.size ≤ w'.heap.size
  block : ∀ k, k < w.heap.size → ¬ S k → w'.heap[k]? = w.heap[k]?
theorem GrS.refl (S : Nat → Prop) (w : World) : GrS S w w := ⟨rfl, rfl, rfl, Nat.le_refl _, fun _ _ _ => rfl⟩
theorem GrS.trans {S : Nat → Prop} {a b c : World} (h : GrS S a b) (k : GrS S b c) : GrS S a c :=
  ⟨k.os.trans h.os, k.tape.trans h.tape, k.output.trans h.output, Nat.le_trans h.size k.size, fun i hi hn => (k.block i (Nat.lt_of_lt_of_le hi h.size) hn).trans (h.block i hi hn)⟩
theorem GrS.of_grown {S : Nat → Prop} {a b : World} {B : Nat} (h : a.grownBy b (some B)) (hB : S B) : GrS S a b :=
  ⟨h.os, h.tape, h.output, h.size, fun k hk hn => h.block k hk (fun e => hn (by injection e with e; rw [e]; exact hB))⟩
theorem GrS.set {S : Nat → Prop} {a b : World} {n j : Nat} (h : GrS S a b) (hn : S n) (v : Value) : GrS S a (b.setCell ⟨n, j, none⟩ v) :=
  ⟨h.os, h.tape, h.output, Nat.le_trans h.size (grownBy_setAt b n j v).size, fun k hk hk2 => (Below.heap_setCell _ _ _ k (fun e => hk2 (by rw [e]; exact hn))).trans (h.block k hk hk2)⟩
theorem GrS.blk {S : Nat → Prop} {a b : World} {n : Nat} {t : TypeId} {cs : Array Value} (h : GrS S a b) (hb : Blk a n t cs) (hn : ¬ S n) : Blk b n t cs := (h.block n hb.lt hn).trans hb
theorem GrS.below {S : Nat → Prop} {a b w : World} {n : Nat} (h : GrS S a b) (hw : Below n w a) (hn : ∀ k, S k → n ≤ k) (hna : n ≤ a.heap.size) : Below n w b :=
  hw.trans ⟨h.os, h.tape, h.output, h.size, fun k hk => h.block k (by omega) (fun hs => by have := hn k hs; omega)⟩
/-- The boxes of next: of its calculation, of the known part, of the open part's factor. -/
def NxB (w : World) (B Ba Bb : Nat) (s : Z.Nx) : Prop := SB w B s.e ∧ Blk w Ba 35 #[.string s.a] ∧ Blk w Bb 35 #[.string s.b]
def N3 (B Ba Bb : Nat) : Nat → Prop := fun k => k = B ∨ k = Ba ∨ k = Bb
set_option maxRecDepth 100000 in
set_option maxHeartbeats 4000000 in
theorem known_any (c : Z.Cu) (v : Value) (B Ba Bb Bc : Nat) (s : Z.Nx) (e d : Int) (k : ByteArray) (w0 w : World) (hV : HasV w0) (hSP : SP w0 v c.pts) (hw : Below w0.heap.size w0 w) (hwB : w0.heap.size ≤ B) (hN : NxB w B Ba Bb ⟨e, s.a, s.b⟩) (hbc : Blk w Bc 27 #[.int .i64 c.base, v])
    (h1 : B ≠ Ba) (h2 : B ≠ Bb) (h3 : Ba ≠ Bb) (h4 : Bc ≠ B) (hc : Z.cuE c = 0) (hd : c.base ≤ d) (hd2 : d ≤ 99999) (hk : k.size ≤ 2100) (ha : s.a.size ≤ 2100) :
    Calls Try.prog 44 #[.string k, .int .i64 d, .pointer (some ⟨B, 0, none⟩), .pointer (some ⟨Ba, 0, none⟩), .pointer (some ⟨Bc, 0, none⟩)] w fun en w' => (∃ u, en = .returned u) ∧ NxB w' B Ba Bb (Z.knownS c s e k d) ∧ GrS (N3 B Ba Bb) w w' := by
  obtain ⟨hs, hba, hbb⟩ := hN
  have HS := Lib.hid hs
  have HBA := Lib.hid hba
  have HBB := Lib.hid hbb
  have f0 : ∀ y : Gb w B, y.1.cell? ⟨Bc, 0, none⟩ = some (.int .i64 c.base) := fun y => Gb.cell (j := 0) hbc h4 y
  have f1 : ∀ y : Gb w B, y.1.cell? ⟨Bc, 1, none⟩ = some v := fun y => Gb.cell (j := 1) hbc h4 y
  have f2 : ∀ y : Gb w B, y.1.cell? ⟨Ba, 0, none⟩ = some (.string s.a) := fun y => Gb.cell (j := 0) hba (fun e => h1 e.symm) y
  have HK : Hid (Z.knownS c s e k d = ⟨(Z.cOp Z.addP (Z.cOp Z.mulP (Z.fac e c d).2 k (Z.fac e c d).1).2 s.a (Z.cOp Z.mulP (Z.fac e c d).2 k (Z.fac e c d).1).1).2, (Z.cOp Z.addP (Z.cOp Z.mulP (Z.fac e c d).2 k (Z.fac e c d).1).2 s.a (Z.cOp Z.mulP (Z.fac e c d).2 k (Z.fac e c d).1).1).1, s.b⟩) := Lib.hid rfl
  generalize Z.knownS c s e k d = R at *
  clear hs hba hbb hbc
  go_enter Try.func44, Try.ntmps44
  go_wp2_with fail
  refine wp_region_stages 7 [([0, 1, 2, 3], [4, 5, 6])] [7] (fun w' => ∃ y : Gb w B, w' = y.1) (by kernel_rfl) (by kernel_rfl) ⟨⟨w.drew, grown_drew (grown_refl _ _)⟩, rfl⟩ ?_
  simp only [fxS, opsAt, List.filterMap_cons, List.filterMap_nil, List.getElem?_toArray, List.getElem?_cons_succ, List.getElem?_cons_zero]
  show wpQuiet _ _ _ _ [_, _, _, _] _
  repeat (go_big_quiet_step (fail))
  refine wpQuiet_nil ?_
  have G0 := grown_drew (grown_refl w (some B))
  have hbr : ∀ X, w.grownBy X (some B) → Below w0.heap.size w0 X := fun X g => hw.grown g hw.size (fun k hk => by injection hk with hk; omega)
  refine fxp_enter (f := 32) (args := #[.pointer (some ⟨B, 0, none⟩), .agg #[.int .i64 c.base, v], .int .i64 d]) (w' := w.drew) rfl (by simp [go_sem]) ?_
  refine (factor_any c v d e B w0 w.drew hV hSP (hbr _ G0) hwB HS.out hc hd hd2).mono ?_
  rintro e1 X1 ⟨rfl, s1, g1⟩
  have G1 := G0.trans g1
  refine ⟨_, rfl, ⟨⟨X1, G1⟩, rfl⟩, ?_⟩
  have z1 := fac_sz hc e d
  generalize Z.fac e c d = p1 at *
  refine fxp_enter (f := 41) (args := #[.pointer (some ⟨B, 0, none⟩), .string k, .string p1.1]) (w' := X1) rfl (by simp [go_sem]) ?_
  refine (smul_any B p1.2 k p1.1 X1 s1 (hV.below (hbr _ G1)) (by omega) (by omega)).mono ?_
  rintro e2 X2 ⟨rfl, s2, g2⟩
  have G2 := G1.trans g2
  refine ⟨_, rfl, ⟨⟨X2, G2⟩, rfl⟩, ?_⟩
  have z2 := Z.cOp_sz Z.sz_mul p1.2 k p1.1
  generalize Z.cOp Z.mulP p1.2 k p1.1 = p2 at *
  refine fxp_enter (f := 40) (args := #[.pointer (some ⟨B, 0, none⟩), .string s.a, .string p2.1]) (w' := X2) rfl (by simp [go_sem]) ?_
  refine (sadd_any B p2.2 s.a p2.1 X2 s2 (hV.below (hbr _ G2)) (by omega) (by omega)).mono ?_
  rintro e3 X3 ⟨rfl, s3, g3⟩
  have G3 := G2.trans g3
  refine ⟨_, rfl, ⟨⟨X3, G3⟩, rfl⟩, ?_⟩
  generalize Z.cOp Z.addP p2.2 s.a p2.1 = p3 at *
  have ba3 := HBA.out.kept G3 (fun e => h1 (by injection e with e; exact e.symm))
  have bb3 := HBB.out.kept G3 (fun e => h2 (by injection e with e; exact e.symm))
  have c3 := ba3.cell 0
  have r3 := ba3.frozen 0
  refine fxp_nil ?_
  refine fxl_skip (w' := X3.setCell ⟨Ba, 0, none⟩ (.string p3.1)) rfl (by simp [go_sem, c3, r3]) ?_
  refine fxl_nil ?_
  clear f0 f1 f2 c3 r3
  go_wp2_with fail
  go_end0
  rw [HK.out]
  exact ⟨⟨_, rfl⟩, ⟨s3.other h1 _, ba3.set 0 _, bb3.other (fun e => h3 e.symm) _⟩, (GrS.of_grown G3 (.inl rfl)).set (.inr (.inl rfl)) _⟩
set_option maxRecDepth 100000 in
set_option maxHeartbeats 8000000 in
theorem open_any (fr L : Int) (f : ByteArray) (r : QV) (q : Z.Qt) (B Ba Bb Bfr Bq Bf : Nat) (s : Z.Nx) (e d : Int) (k : ByteArray) (w0 w : World) (hV : HasV w0) (hq : QOk w0 r q) (hd0 : 0 < q.dates.length) (hL : q.last = L) (hw : Below w0.heap.size w0 w) (hwB : w0.heap.size ≤ B) (hwA : w0.heap.size ≤ Ba) (hwb : w0.heap.size ≤ Bb)
    (hN : NxB w B Ba Bb ⟨e, s.a, s.b⟩) (hfr : Blk w Bfr 3 #[.int .i64 fr]) (hbq : Blk w Bq 49 #[r.dv, r.pv, .string r.rate]) (hbf : Blk w Bf 35 #[.string f])
    (h1 : B ≠ Ba) (h2 : B ≠ Bb) (h3 : Ba ≠ Bb) (h4 : ¬ N3 B Ba Bb Bfr) (h5 : ¬ N3 B Ba Bb Bq) (h6 : ¬ N3 B Ba Bb Bf) (hr0 : 0 ≤ fr) (hd1 : fr < d) (hd2 : d ≤ L) (hL2 : L ≤ 99999) (hk : k.size ≤ 2100) (ha : s.a.size ≤ 2100) (hb : s.b.size ≤ 2100) (hf : f.size ≤ 2100) :
    Calls Try.prog 45 #[.string k, .int .i64 d, .pointer (some ⟨B, 0, none⟩), .pointer (some ⟨Bfr, 0, none⟩), .pointer (some ⟨Bq, 0, none⟩), .pointer (some ⟨Ba, 0, none⟩), .pointer (some ⟨Bf, 0, none⟩), .pointer (some ⟨Bb, 0, none⟩)] w fun en w' => (∃ u, en = .returned u) ∧ NxB w' B Ba Bb (Z.openS fr f L s e k d) ∧ GrS (N3 B Ba Bb) w w' := by
  obtain ⟨hs, hba, hbb⟩ := hN
  obtain ⟨dv, pv, rate⟩ := r
  obtain ⟨A, cp, e1, hlc, hcm⟩ := hq.1.shape
  obtain ⟨A2, cp2, e2, hlc2, hcm2⟩ := hq.2.1.shape
  have e1 : dv = .slice A q.dates.length cp := e1
  have e2 : pv = .slice A2 q.parts.length cp2 := e2
  subst e1 e2
  have hb4 : Bfr ≠ B ∧ Bfr ≠ Ba := ⟨fun e => h4 (.inl e), fun e => h4 (.inr (.inl e))⟩
  have hb5 : Bq ≠ B := fun e => h5 (.inl e)
  have hb6 : Bf ≠ B ∧ Bf ≠ Ba := ⟨fun e => h6 (.inl e), fun e => h6 (.inr (.inl e))⟩
  have HS := Lib.hid hs
  have HBA := Lib.hid hba
  have HBB := Lib.hid hbb
  have HBF := Lib.hid hbf
  have f0 : ∀ y : Gb w B, y.1.cell? ⟨Bfr, 0, none⟩ = some (.int .i64 fr) := fun y => Gb.cell (j := 0) hfr hb4.1 y
  have g0 : ∀ y : Gb w B, y.1.cell? ⟨Bq, 0, none⟩ = some (.slice A q.dates.length cp) := fun y => Gb.cell (j := 0) hbq hb5 y
  have g1 : ∀ y : Gb w B, y.1.cell? ⟨Bq, 1, none⟩ = some (.slice A2 q.parts.length cp2) := fun y => Gb.cell (j := 1) hbq hb5 y
  have g2 : ∀ y : Gb w B, y.1.cell? ⟨Bq, 2, none⟩ = some (.string rate) := fun y => Gb.cell (j := 2) hbq hb5 y
  obtain ⟨p1, hp1⟩ : ∃ p, p = Z.cRat e (d - fr) (L - fr) := ⟨_, rfl⟩
  obtain ⟨p2, hp2⟩ : ∃ p, p = Z.cOp Z.subP p1.2 Z.z49 p1.1 := ⟨_, rfl⟩
  obtain ⟨p3, hp3⟩ : ∃ p, p = Z.cOp Z.mulP p2.2 f p2.1 := ⟨_, rfl⟩
  obtain ⟨p4, hp4⟩ : ∃ p, p = Z.cOp Z.mulP p3.2 k p3.1 := ⟨_, rfl⟩
  obtain ⟨p5, hp5⟩ : ∃ p, p = Z.cOp Z.addP p4.2 s.a p4.1 := ⟨_, rfl⟩
  obtain ⟨p6, hp6⟩ : ∃ p, p = Z.cOp Z.mulP p5.2 k p1.1 := ⟨_, rfl⟩
  obtain ⟨p7, hp7⟩ : ∃ p, p = Z.cOp Z.addP p6.2 s.b p6.1 := ⟨_, rfl⟩
  have HK : Hid (Z.openS fr f L s e k d = ⟨p7.2, p5.1, p7.1⟩) := Lib.hid (by rw [hp7, hp6, hp5, hp4, hp3, hp2, hp1]; rfl)
  have z1 : p1.1.size ≤ 2100 := by rw [hp1]; exact Z.cRat_sz (by omega) (by omega) (by omega) (by omega)
  have z2 : p2.1.size ≤ 2100 := by rw [hp2]; exact Z.cOp_sz Z.sz_sub _ _ _
  have z3 : p3.1.size ≤ 2100 := by rw [hp3]; exact Z.cOp_sz Z.sz_mul _ _ _
  have z4 : p4.1.size ≤ 2100 := by rw [hp4]; exact Z.cOp_sz Z.sz_mul _ _ _
  have z6 : p6.1.size ≤ 2100 := by rw [hp6]; exact Z.cOp_sz Z.sz_mul _ _ _
  have hbr : ∀ X, w.grownBy X (some B) → Below w0.heap.size w0 X := fun X g => hw.grown g hw.size (fun k hk => by injection hk with hk; omega)
  have C1 : Hid (∀ X, w.grownBy X (some B) → SB X B e → Calls Try.prog 46 #[.pointer (some ⟨B, 0, none⟩), .int .i64 (d - fr), .int .i64 (L - fr)] X (CalcRet B p1 X)) := Lib.hid fun X _ hs => by rw [hp1]; exact share_any B e X (d - fr) (L - fr) hs (by omega) (by omega) (by omega) (by omega)
  have C2 : Hid (∀ X, w.grownBy X (some B) → SB X B p1.2 → Calls Try.prog 42 #[.pointer (some ⟨B, 0, none⟩), .string ⟨#[49]⟩, .string p1.1] X (CalcRet B p2 X)) := Lib.hid fun X g hs => by rw [hp2]; exact ssub_any B p1.2 Z.z49 p1.1 X hs (hV.below (hbr X g)) (by decide) (by omega)
  have C3 : Hid (∀ X, w.grownBy X (some B) → SB X B p2.2 → Calls Try.prog 41 #[.pointer (some ⟨B, 0, none⟩), .string f, .string p2.1] X (CalcRet B p3 X)) := Lib.hid fun X g hs => by rw [hp3]; exact smul_any B p2.2 f p2.1 X hs (hV.below (hbr X g)) (by omega) (by omega)
  have C4 : Hid (∀ X, w.grownBy X (some B) → SB X B p3.2 → Calls Try.prog 41 #[.pointer (some ⟨B, 0, none⟩), .string k, .string p3.1] X (CalcRet B p4 X)) := Lib.hid fun X g hs => by rw [hp4]; exact smul_any B p3.2 k p3.1 X hs (hV.below (hbr X g)) (by omega) (by omega)
  have C5 : Hid (∀ X, w.grownBy X (some B) → SB X B p4.2 → Calls Try.prog 40 #[.pointer (some ⟨B, 0, none⟩), .string s.a, .string p4.1] X (CalcRet B p5 X)) := Lib.hid fun X g hs => by rw [hp5]; exact sadd_any B p4.2 s.a p4.1 X hs (hV.below (hbr X g)) (by omega) (by omega)
  have C6 : Hid (∀ X, Below w0.heap.size w0 X → SB X B p5.2 → Calls Try.prog 41 #[.pointer (some ⟨B, 0, none⟩), .string k, .string p1.1] X (CalcRet B p6 X)) := Lib.hid fun X g hs => by rw [hp6]; exact smul_any B p5.2 k p1.1 X hs (hV.below g) (by omega) (by omega)
  have C7 : Hid (∀ X, Below w0.heap.size w0 X → SB X B p6.2 → Calls Try.prog 40 #[.pointer (some ⟨B, 0, none⟩), .string s.b, .string p6.1] X (CalcRet B p7 X)) := Lib.hid fun X g hs => by rw [hp7]; exact sadd_any B p6.2 s.b p6.1 X hs (hV.below g) (by omega) (by omega)
  generalize Z.openS fr f L s e k d = R at *
  clear hs hba hbb hbq hbf hp1 hp2 hp3 hp4 hp5 hp6 hp7 hfr
  have HQ := Lib.hid hq
  clear hq
  go_enter Try.func45, Try.ntmps45
  go_wp2_with fail
  refine wp_region_stages 9 [([0, 1, 2, 3, 5], [4]), ([6], [7]), ([8], [])] [] (fun w' => ∃ y : Gb w B, w' = y.1) (by kernel_rfl) (by kernel_rfl) ⟨⟨w.drew, grown_drew (grown_refl _ _)⟩, rfl⟩ ?_
  simp only [fxS, opsAt, List.filterMap_cons, List.filterMap_nil, List.getElem?_toArray, List.getElem?_cons_succ, List.getElem?_cons_zero]
  show wpQuiet _ _ _ _ [_, _, _, _, _] _
  repeat (go_big_quiet_step (fail))
  refine wpQuiet_nil ?_
  have G0 := grown_drew (grown_refl w (some B))
  refine fxp_enter (f := 26) (args := #[.agg #[.slice A q.dates.length cp, .slice A2 q.parts.length cp2, .string rate]]) (w' := w.drew) rfl (by simp [go_sem]) ?_
  refine (last_any ⟨_, _, _⟩ q w.drew (HQ.out.below (hbr _ G0)) hd0).mono ?_
  rintro e1 X1 ⟨rfl, y1⟩
  have G1 := G0.trans (grown_of_below y1 (some B))
  refine ⟨_, rfl, ⟨⟨X1, G1⟩, rfl⟩, ?_⟩
  rw [hL]
  have s1 : SB X1 B e := (show SB w.drew B e from HS.out).below y1
  refine fxp_nil ?_
  show wpQuiet _ _ _ _ [_] _
  simp only [Act.put, List.setIfInBounds_toArray, List.set_cons_succ, List.set_cons_zero]
  repeat (go_big_quiet_step (fail))
  refine wpQuiet_nil ?_
  refine fxp_enter (f := 46) (args := #[.pointer (some ⟨B, 0, none⟩), .int .i64 (d - fr), .int .i64 (L - fr)]) (w' := X1) rfl (by simp [go_sem]) ?_
  refine (C1.out X1 G1 s1).mono ?_
  rintro e2 X2 ⟨rfl, s2, g2⟩
  have G2 := G1.trans g2
  refine ⟨_, rfl, ⟨⟨X2, G2⟩, rfl⟩, ?_⟩
  refine fxp_nil ?_
  show wpQuiet _ _ _ _ [_] _
  simp only [Act.put, List.setIfInBounds_toArray, List.set_cons_succ, List.set_cons_zero]
  repeat (go_big_quiet_step (fail))
  refine wpQuiet_nil ?_
  refine fxp_nil (fxl_nil ?_)
  have ba2 := Lib.hid (HBA.out.kept G2 (fun e => h1 (by injection e with e; exact e.symm)))
  have bb2 := Lib.hid (HBB.out.kept G2 (fun e => h2 (by injection e with e; exact e.symm)))
  have bf2 := Lib.hid (HBF.out.kept G2 (fun e => hb6.1 (by injection e)))
  clear f0 g0 g1 g2
  have k0 : ∀ y : Gb X2 B, y.1.cell? ⟨Ba, 0, none⟩ = some (.string s.a) := fun y => Gb.cell (j := 0) ba2.out (fun e => h1 e.symm) y
  have k1 : ∀ y : Gb X2 B, y.1.cell? ⟨Bf, 0, none⟩ = some (.string f) := fun y => Gb.cell (j := 0) bf2.out hb6.1 y
  have HG2 := Lib.hid G2
  have HS2 := Lib.hid s2
  clear G1 G0 y1 s1 hL
  go_wp2_with fail
  refine wp_region_stages 8 [([0, 1, 2, 3], [4, 5, 6, 7])] [8] (fun w' => ∃ y : Gb X2 B, w' = y.1) (by kernel_rfl) (by kernel_rfl) ⟨⟨X2.drew, grown_drew (grown_refl _ _)⟩, rfl⟩ ?_
  simp only [fxS, opsAt, List.filterMap_cons, List.filterMap_nil, List.getElem?_toArray, List.getElem?_cons_succ, List.getElem?_cons_zero]
  show wpQuiet _ _ _ _ [_, _, _, _] _
  repeat (go_big_quiet_step (fail))
  refine wpQuiet_nil ?_
  have G3 := grown_drew (grown_refl X2 (some B))
  refine fxp_enter (f := 42) (args := #[.pointer (some ⟨B, 0, none⟩), .string ⟨#[49]⟩, .string p1.1]) (w' := X2.drew) rfl (by simp [go_sem]) ?_
  refine (C2.out X2.drew (grown_drew HG2.out) HS2.out).mono ?_
  rintro e3 X3 ⟨rfl, s3, g3⟩
  have G4 := G3.trans g3
  refine ⟨_, rfl, ⟨⟨X3, G4⟩, rfl⟩, ?_⟩
  refine fxp_enter (f := 41) (args := #[.pointer (some ⟨B, 0, none⟩), .string f, .string p2.1]) (w' := X3) rfl (by simp [go_sem]) ?_
  refine (C3.out X3 (HG2.out.trans G4) s3).mono ?_
  rintro e4 X4 ⟨rfl, s4, g4⟩
  have G5 := G4.trans g4
  refine ⟨_, rfl, ⟨⟨X4, G5⟩, rfl⟩, ?_⟩
  refine fxp_enter (f := 41) (args := #[.pointer (some ⟨B, 0, none⟩), .string k, .string p3.1]) (w' := X4) rfl (by simp [go_sem]) ?_
  refine (C4.out X4 (HG2.out.trans G5) s4).mono ?_
  rintro e5 X5 ⟨rfl, s5, g5⟩
  have G6 := G5.trans g5
  refine ⟨_, rfl, ⟨⟨X5, G6⟩, rfl⟩, ?_⟩
  refine fxp_enter (f := 40) (args := #[.pointer (some ⟨B, 0, none⟩), .string s.a, .string p4.1]) (w' := X5) rfl (by simp [go_sem]) ?_
  refine (C5.out X5 (HG2.out.trans G6) s5).mono ?_
  rintro e6 X6 ⟨rfl, s6, g6⟩
  have G7 := G6.trans g6
  refine ⟨_, rfl, ⟨⟨X6, G7⟩, rfl⟩, ?_⟩
  have ba6 := ba2.out.kept G7 (fun e => h1 (by injection e with e; exact e.symm))
  have bb6 := bb2.out.kept G7 (fun e => h2 (by injection e with e; exact e.symm))
  have c6 := ba6.cell 0
  have r6 := ba6.frozen 0
  refine fxp_nil ?_
  refine fxl_skip (w' := X6.setCell ⟨Ba, 0, none⟩ (.string p5.1)) rfl (by simp [go_sem, c6, r6]) ?_
  refine fxl_nil ?_
  have HG7 := Lib.hid ((GrS.of_grown (S := N3 B Ba Bb) (HG2.out.trans G7) (.inl rfl)).set (n := Ba) (j := 0) (.inr (.inl rfl)) (.string p5.1))
  have s7 := Lib.hid (s6.other (C := Ba) (j := 0) h1 (.string p5.1))
  have ba7 := Lib.hid (ba6.set 0 (.string p5.1))
  have bb7 := Lib.hid (bb6.other (C := Ba) (j := 0) (fun e => h3 e.symm) (.string p5.1))
  clear k0 k1 c6 r6 ba6 bb6 G3 G4 G5 G6 G7 g3 g4 g5 g6 s3 s4 s5 s6
  generalize (X6.setCell ⟨Ba, 0, none⟩ (.string p5.1)) = Y at *
  have hbY : ∀ X, Y.grownBy X (some B) → Below w0.heap.size w0 X := fun X g => (HG7.out.below hw (fun k hk => by rcases hk with rfl | rfl | rfl <;> omega) hw.size).grown g (Nat.le_trans hw.size HG7.out.size) (fun k hk => by injection hk with hk; omega)
  have k2 : ∀ y : Gb Y B, y.1.cell? ⟨Bb, 0, none⟩ = some (.string s.b) := fun y => Gb.cell (j := 0) bb7.out (fun e => h2 e.symm) y
  go_wp2_with fail
  refine wp_region_stages 5 [([0, 1, 2], [3, 4])] [5] (fun w' => ∃ y : Gb Y B, w' = y.1) (by kernel_rfl) (by kernel_rfl) ⟨⟨Y.drew, grown_drew (grown_refl _ _)⟩, rfl⟩ ?_
  simp only [fxS, opsAt, List.filterMap_cons, List.filterMap_nil, List.getElem?_toArray, List.getElem?_cons_succ, List.getElem?_cons_zero]
  show wpQuiet _ _ _ _ [_, _, _] _
  simp only [Act.put, List.setIfInBounds_toArray, List.set_cons_succ, List.set_cons_zero]
  repeat (go_big_quiet_step (fail))
  refine wpQuiet_nil ?_
  have G3 := grown_drew (grown_refl Y (some B))
  refine fxp_enter (f := 41) (args := #[.pointer (some ⟨B, 0, none⟩), .string k, .string p1.1]) (w' := Y.drew) rfl (by simp [go_sem]) ?_
  refine (C6.out Y.drew (hbY _ G3) s7.out).mono ?_
  rintro e7 X7 ⟨rfl, s8, g7⟩
  have G4 := G3.trans g7
  refine ⟨_, rfl, ⟨⟨X7, G4⟩, rfl⟩, ?_⟩
  refine fxp_enter (f := 40) (args := #[.pointer (some ⟨B, 0, none⟩), .string s.b, .string p6.1]) (w' := X7) rfl (by simp [go_sem]) ?_
  refine (C7.out X7 (hbY _ G4) s8).mono ?_
  rintro e8 X8 ⟨rfl, s9, g8⟩
  have G5 := G4.trans g8
  refine ⟨_, rfl, ⟨⟨X8, G5⟩, rfl⟩, ?_⟩
  have ba8 := ba7.out.kept G5 (fun e => h1 (by injection e with e; exact e.symm))
  have bb8 := bb7.out.kept G5 (fun e => h2 (by injection e with e; exact e.symm))
  have c8 := bb8.cell 0
  have r8 := bb8.frozen 0
  refine fxp_nil ?_
  refine fxl_skip (w' := X8.setCell ⟨Bb, 0, none⟩ (.string p7.1)) rfl (by simp [go_sem, c8, r8]) ?_
  refine fxl_nil ?_
  clear k2 c8 r8
  go_wp2_with fail
  go_end0
  rw [HK.out]
  exact ⟨⟨_, rfl⟩, ⟨s9.other h2 _, ba8.other h3 _, bb8.set 0 _⟩, (HG7.out.trans (GrS.of_grown G5 (.inl rfl))).set (.inr (.inr rfl)) _⟩
end Go.Proofs.Ytpnojgaehafjdaa
