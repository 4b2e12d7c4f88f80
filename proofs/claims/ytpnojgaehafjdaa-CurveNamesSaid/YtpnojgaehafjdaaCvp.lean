/- Walks: curve.both, Factor, Between, Price, Par. -/
import Derived.Test.YtpnojgaehafjdaaCvf
import Derived.Test.YtpnojgaehafjdaaFls
import Derived.Test.YtpnojgaehafjdaaZcurd
namespace Go.Proofs.Ytpnojgaehafjdaa
open Go.RowKit
/-- The worlds that have grown from W, but for the box B. -/
def Gb (W : World) (B : Nat) : Type := {w' : World // W.grownBy w' (some B)}
theorem grown_refl (W : World) (row : Option Nat) : W.grownBy W row := grown_of_below (Below.refl _ W) row
instance (W : World) (B : Nat) : Nonempty (Gb W B) := ⟨⟨W, grown_refl W _⟩⟩
theorem Gb.cell {W : World} {B b j : Nat} {t : TypeId} {cs : Array Value} (h : Blk W b t cs) (hne : b ≠ B) (y : Gb W B) : y.1.cell? ⟨b, j, none⟩ = cs[j]? := (h.kept y.2 (fun e => hne (by injection e))).cell j
theorem sd_one (W : World) (d : Int) : SD (W.alloc (.cells #[.int .i64 d] 3)) (.slice (some ⟨W.heap.size, 0, none⟩) 1 1) [d] :=
  ⟨_, 1, rfl, Nat.le_refl _, by unfold maxLen; omega, fun _ => ⟨W.heap.size, 0, rfl, by simp, fun i x hx j y hy => by
    have hi : i = 0 := by have := (List.getElem?_eq_some_iff.1 hx).1; simpa using this
    subst hi
    have hj : j = 0 := by have := (List.getElem?_eq_some_iff.1 hy).1; simpa [dE] using this
    subst hj
    simp only [List.getElem?_cons_zero, Option.some.injEq] at hx
    subst hx
    simp only [dE, List.getElem?_cons_zero, Option.some.injEq] at hy
    subst hy
    exact (Blk.new W 3 #[.int .i64 d]).cell 0⟩⟩
theorem sd_two (W : World) (d f : Int) : SD (W.alloc (.cells #[.int .i64 d, .int .i64 f] 3)) (.slice (some ⟨W.heap.size, 0, none⟩) 2 2) [d, f] :=
  ⟨_, 2, rfl, Nat.le_refl _, by unfold maxLen; omega, fun _ => ⟨W.heap.size, 0, rfl, by simp, fun i x hx j y hy => by
    have hi : i < 2 := by have := (List.getElem?_eq_some_iff.1 hx).1; simpa using this
    have hj : j = 0 := by have := (List.getElem?_eq_some_iff.1 hy).1; simpa [dE] using this
    subst hj
    simp only [dE, List.getElem?_cons_zero, Option.some.injEq] at hy
    subst hy
    have hB := Blk.new W 3 #[.int .i64 d, .int .i64 f]
    rcases (by omega : i = 0 ∨ i = 1) with rfl | rfl
    · simp only [List.getElem?_cons_zero, Option.some.injEq] at hx
      subst hx
      exact hB.cell 0
    · simp only [List.getElem?_cons_succ, List.getElem?_cons_zero, Option.some.injEq] at hx
      subst hx
      exact hB.cell 1⟩⟩
/-- Sizes that the calls within can take. -/
def CSm (c : Z.Cu) : Prop := ∀ p ∈ c.pts, p.f.size ≤ 100000
def QSm (q : Z.Qt) : Prop := q.rate.size ≤ 100000 ∧ ∀ p ∈ q.parts, p.size ≤ 100000
theorem cqE_1 {c : Z.Cu} {q : Z.Qt} (h : Z.cuE c ≠ 0) : Z.cqE c q = Z.cuE c := if_neg h
theorem cqE_2 {c : Z.Cu} {q : Z.Qt} (h : Z.cuE c = 0) (h2 : Z.qtE q c.base ≠ 0) : Z.cqE c q = Z.qtE q c.base := by unfold Z.cqE; rw [if_pos h, if_neg h2]
theorem cqE_3 {c : Z.Cu} {q : Z.Qt} (h : Z.cuE c = 0) (h2 : Z.qtE q c.base = 0) : Z.cqE c q = if c.has q.last = true then 0 else 6 := by unfold Z.cqE; rw [if_pos h, if_pos h2]
set_option maxRecDepth 100000 in
set_option maxHeartbeats 4000000 in
theorem cqboth_any (c : Z.Cu) (v : Value) (r : QV) (q : Z.Qt) (w : World) (hSP : SP w v c.pts) (hq : QOk w r q) (hV : HasV w) (hc : CSm c) (hs : QSm q) :
    Calls Try.prog 39 #[.agg #[.int .i64 c.base, v], .agg #[r.dv, r.pv, .string r.rate]] w fun e w' => e = .returned (.int .i64 (Z.cqE c q)) ∧ Below w.heap.size w w' := by
  have hb0 := ((Below.refl _ w).alloc (Nat.le_refl w.heap.size) (.cells #[.int .i64 c.base, v] 27)).alloc (by simp) (.cells #[r.dv, r.pv, .string r.rate] 49)
  have BC := (Blk.new w 27 #[.int .i64 c.base, v]).alloc (.cells #[r.dv, r.pv, .string r.rate] 49)
  have BQ := Blk.new (w.alloc (.cells #[.int .i64 c.base, v] 27)) 49 #[r.dv, r.pv, .string r.rate]
  rw [World.size_alloc] at BQ
  have c0 := BC.cell 0
  have c1 := BC.cell 1
  have H1 := Lib.hid (cucheck_any c v _ (hSP.below hb0) (hV.below hb0) hc)
  go_enter Try.func39, Try.ntmps39
  go_wp2_with fail
  generalize ((w.alloc (.cells #[.int .i64 c.base, v] 27)).alloc (.cells #[r.dv, r.pv, .string r.rate] 49)) = W0 at *
  refine H1.out.mono ?_
  rintro e W1 ⟨rfl, hb1⟩
  have hbw := hb0.trans (hb1.mono hb0.size)
  by_cases h1 : Z.cuE c = 0
  case neg =>
    have HE := Lib.hid (cqE_1 (q := q) h1)
    have h1b := ne_bne h1
    go_wp2_with fail
    go_ret
    exact ⟨ret_int HE.out.symm, hbw⟩
  rw [h1]
  have BC1 := BC.below hb1
  have BQ1 := BQ.below hb1
  have c0 := BC1.cell 0
  have q0 := BQ1.cell 0
  have q1 := BQ1.cell 1
  have q2 := BQ1.cell 2
  have HSP1 := Lib.hid (hSP.below hbw)
  have HQ1 := Lib.hid (hq.below hbw)
  have HV1 := Lib.hid (hV.below hbw)
  have H2 := Lib.hid (cquote_any r q c.base W1 HQ1.out HV1.out hs.1 hs.2)
  clear H1 hb0 hb1 BC BQ hSP hq hV
  go_wp2_with fail
  refine H2.out.mono ?_
  rintro e W2 ⟨rfl, hb2⟩
  have hbw2 := hbw.trans (hb2.mono hbw.size)
  by_cases h2 : Z.qtE q c.base = 0
  case neg =>
    have HE := Lib.hid (cqE_2 h1 h2)
    have h2b := ne_bne h2
    go_wp2_with fail
    go_ret
    exact ⟨ret_int HE.out.symm, hbw2⟩
  have HE := Lib.hid (cqE_3 h1 h2)
  rw [h2]
  have hd0 := (Z.qt_ok h2).2.2.1
  have BC2 := BC1.below hb2
  have BQ2 := BQ1.below hb2
  have HSP2 := Lib.hid (HSP1.out.below hb2)
  have HQ2 := Lib.hid (HQ1.out.below hb2)
  have f0 : ∀ y : Ab W2, y.1.cell? ⟨w.heap.size, 0, none⟩ = some (.int .i64 c.base) := fun y => (Ab.cells (x := y) BC2).cell 0
  have f1 : ∀ y : Ab W2, y.1.cell? ⟨w.heap.size, 1, none⟩ = some v := fun y => (Ab.cells (x := y) BC2).cell 1
  have g0 : ∀ y : Ab W2, y.1.cell? ⟨w.heap.size + 1, 0, none⟩ = some r.dv := fun y => (Ab.cells (x := y) BQ2).cell 0
  have g1 : ∀ y : Ab W2, y.1.cell? ⟨w.heap.size + 1, 1, none⟩ = some r.pv := fun y => (Ab.cells (x := y) BQ2).cell 1
  have g2 : ∀ y : Ab W2, y.1.cell? ⟨w.heap.size + 1, 2, none⟩ = some (.string r.rate) := fun y => (Ab.cells (x := y) BQ2).cell 2
  clear c0 c1 q0 q1 q2 H2 HSP1 HQ1 HV1 h1 h2 hb2 BC1 BQ1
  go_wp2_with fail
  refine wp_region_stages 6 [([0, 1], [2, 3, 4, 5])] [] (fun w' => ∃ y : Ab W2, w' = y.1) (by kernel_rfl) (by kernel_rfl) ⟨⟨W2.drew, (Below.refl _ W2).drew⟩, rfl⟩ ?_
  simp only [fxS, opsAt, List.filterMap_cons, List.filterMap_nil, List.getElem?_toArray, List.getElem?_cons_succ, List.getElem?_cons_zero]
  show wpQuiet _ _ _ _ [_, _] _
  repeat (go_big_quiet_step (fail))
  refine wpQuiet_nil ?_
  refine fxp_enter (f := 26) (args := #[.agg #[r.dv, r.pv, .string r.rate]]) (w' := W2.drew) rfl (by simp [go_sem]) ?_
  refine (last_any r q W2.drew HQ2.out hd0).mono ?_
  rintro e W3 ⟨rfl, hb3⟩
  have hb3' : Below W2.heap.size W2 W3 := (Below.refl _ W2).drew.trans hb3
  have hb4 := hb3'.alloc hb3'.size (.cells #[.int .i64 q.last] 3)
  refine ⟨_, rfl, ⟨⟨W3, hb3'⟩, rfl⟩, ?_⟩
  refine fxp_value (u := .slice (some ⟨W3.heap.size, 0, none⟩) 1 1) (w' := W3.alloc (.cells #[.int .i64 q.last] 3)) rfl (by simp [go_sem]) ⟨⟨_, hb4⟩, rfl⟩ ?_
  refine fxp_enter (f := 30) (args := #[.agg #[.int .i64 c.base, v], .slice (some ⟨W3.heap.size, 0, none⟩) 1 1]) (w' := W3.alloc (.cells #[.int .i64 q.last] 3)) rfl (by simp [go_sem]) ?_
  refine (covers_any c v _ [q.last] _ (HSP2.out.below hb4) (sd_one W3 q.last)).mono ?_
  rintro e W4 ⟨rfl, hb5⟩
  have hb5' := hb4.trans (hb5.mono hb4.size)
  have hbw5 := hbw2.trans (hb5'.mono hbw2.size)
  refine ⟨_, rfl, ⟨⟨W4, hb5'⟩, rfl⟩, ?_⟩
  have ha : [q.last].all c.has = c.has q.last := by simp
  rw [ha]
  clear f0 f1 g0 g1 g2 ha
  cases hh : c.has q.last
  · refine fxp_value (u := .bool true) (w' := W4) rfl (by simp [go_sem]) ⟨⟨_, hb5'⟩, rfl⟩ ?_
    refine fxp_nil (fxl_nil ?_)
    have HE6 : Hid (Z.cqE c q = 6) := Lib.hid (by rw [HE.out, hh]; rfl)
    go_wp2_with fail
    go_ret
    exact ⟨ret_int HE6.out.symm, hbw5⟩
  · refine fxp_value (u := .bool false) (w' := W4) rfl (by simp [go_sem]) ⟨⟨_, hb5'⟩, rfl⟩ ?_
    refine fxp_nil (fxl_nil ?_)
    have HE0 : Hid (Z.cqE c q = 0) := Lib.hid (by rw [HE.out, hh]; rfl)
    go_wp2_with fail
    go_ret
    exact ⟨ret_int HE0.out.symm, hbw5⟩
def RRet (p : ByteArray × Int) (w : World) (e : Ending) (w' : World) : Prop := e = .returned (.tuple #[.string p.1, .int .i64 p.2]) ∧ Below w.heap.size w w'
theorem rret {p : ByteArray × Int} {s : ByteArray} {k : Int} {w w' : World} (h : p = (s, k)) (hb : Below w.heap.size w w') : RRet p w (.returned (.tuple #[.string s, .int .i64 k])) w' := by subst h; exact ⟨rfl, hb⟩
theorem has_ok {c : Z.Cu} {d : Int} (hc : Z.cuE c = 0) (h : c.has d = true) : c.base ≤ d ∧ d ≤ 99999 := by
  obtain ⟨_, hb, hp⟩ := Z.cuE_ok hc
  unfold Z.Cu.has at h
  rw [Bool.and_eq_true, decide_eq_true_iff, decide_eq_true_iff] at h
  exact ⟨h.1, Int.le_trans h.2 (Z.endK_le c.pts c.base Z.z49 hp (by omega))⟩
theorem csm_of {c : Z.Cu} (hc : Z.cuE c = 0) : CSm c := fun p hp => by have := (Z.pts_ok _ _ (Z.cuE_ok hc).2.2 p hp).2; omega
set_option maxRecDepth 100000 in
set_option maxHeartbeats 4000000 in
theorem factorF_any (c : Z.Cu) (v : Value) (day : Int) (w : World) (hSP : SP w v c.pts) (hV : HasV w) (hc : CSm c) :
    Calls Try.prog 15 #[.agg #[.int .i64 c.base, v], .int .i64 day] w (RRet (Z.factorR c day) w) := by
  have HR : Hid (Z.factorR c day = if Z.cuE c = 0 then (if c.has day = true then Z.done (Z.fac 0 c day) else (⟨#[]⟩, 6)) else (⟨#[]⟩, Z.cuE c)) := Lib.hid rfl
  generalize Z.factorR c day = R at *
  have hb0 := (Below.refl _ w).alloc (Nat.le_refl w.heap.size) (.cells #[.int .i64 c.base, v] 27)
  have BC := Blk.new w 27 #[.int .i64 c.base, v]
  have c0 := BC.cell 0
  have c1 := BC.cell 1
  have H1 := Lib.hid (cucheck_any c v _ (hSP.below hb0) (hV.below hb0) hc)
  go_enter Try.func15, Try.ntmps15
  go_wp2_with fail
  generalize (w.alloc (.cells #[.int .i64 c.base, v] 27)) = W0 at *
  refine H1.out.mono ?_
  rintro e W1 ⟨rfl, hb1⟩
  have hbw := hb0.trans (hb1.mono hb0.size)
  by_cases h1 : Z.cuE c = 0
  case neg =>
    rw [if_neg h1] at HR
    have h1b := ne_bne h1
    go_wp2_with fail
    go_ret2
    exact rret HR.out hbw
  rw [if_pos h1] at HR
  have BC1 := BC.below hb1
  have c0 := BC1.cell 0
  have c1 := BC1.cell 1
  have hb2 := hbw.alloc hbw.size (.cells #[.int .i64 day] 3)
  have H2 := Lib.hid (covers_any c v (.slice (some ⟨W1.heap.size, 0, none⟩) 1 1) [day] (W1.alloc (.cells #[.int .i64 day] 3)) (hSP.below hb2) (sd_one W1 day))
  rw [h1]
  have HC := Lib.hid h1
  clear H1 hb0 hb1 BC h1
  go_wp2_with fail
  refine H2.out.mono ?_
  rintro e W2 ⟨rfl, hb3⟩
  have hbw2 := hb2.trans (hb3.mono hb2.size)
  have BC2 := (BC1.alloc (.cells #[.int .i64 day] 3)).below hb3
  rw [show [day].all c.has = c.has day by simp]
  clear H2 hb2 hb3 c0 c1 BC1 hbw
  cases hh : c.has day
  · rw [hh] at HR
    have HR6 : Hid (R = (⟨#[]⟩, 6)) := HR
    go_wp2_with fail
    go_ret2
    exact rret HR6.out hbw2
  rw [hh] at HR
  have HR0 : Hid (R = Z.done (Z.fac 0 c day)) := HR
  obtain ⟨d1, d2⟩ := has_ok HC.out hh
  have hb4 := hbw2.alloc hbw2.size (.cells #[.int .i64 0] 59)
  have bs : SB (W2.alloc (.cells #[.int .i64 0] 59)) W2.heap.size 0 := Blk.new W2 _ _
  have BC3 := BC2.alloc (.cells #[.int .i64 0] 59)
  have c0 := BC3.cell 0
  have c1 := BC3.cell 1
  have H3 := Lib.hid (factor_any c v day 0 W2.heap.size w (W2.alloc (.cells #[.int .i64 0] 59)) hV hSP hb4 hbw2.size bs HC.out d1 d2)
  clear HR hh BC2 bs d1 d2
  go_wp2_with fail
  refine H3.out.mono ?_
  rintro e W3 ⟨rfl, s3, g3⟩
  have hb5 := hb4.grown g3 hb4.size (fun k hk => by injection hk with hk; have := hbw2.size; omega)
  have H4 := Lib.hid (done_any W2.heap.size _ (Z.fac 0 c day).1 W3 s3)
  go_wp2_with fail
  refine H4.out.mono ?_
  rintro e W4 ⟨rfl, hb6⟩
  have hb7 := hb5.trans (hb6.mono hb5.size)
  go_wp2_with fail
  go_ret2
  exact rret HR0.out hb7
set_option maxRecDepth 100000 in
set_option maxHeartbeats 4000000 in
theorem between_any (c : Z.Cu) (v : Value) (x y : Int) (w : World) (hSP : SP w v c.pts) (hV : HasV w) (hc : CSm c) :
    Calls Try.prog 19 #[.agg #[.int .i64 c.base, v], .int .i64 x, .int .i64 y] w (RRet (Z.betweenR c x y) w) := by
  have HR : Hid (Z.betweenR c x y = if Z.cuE c = 0 then (if y < x then (⟨#[]⟩, 2) else if c.has x = true ∧ c.has y = true then Z.done (Z.cOp Z.divP (Z.fac (Z.fac 0 c y).2 c x).2 (Z.fac 0 c y).1 (Z.fac (Z.fac 0 c y).2 c x).1) else (⟨#[]⟩, 6)) else (⟨#[]⟩, Z.cuE c)) := Lib.hid rfl
  generalize Z.betweenR c x y = R at *
  have hb0 := (Below.refl _ w).alloc (Nat.le_refl w.heap.size) (.cells #[.int .i64 c.base, v] 27)
  have BC := Blk.new w 27 #[.int .i64 c.base, v]
  have c0 := BC.cell 0
  have c1 := BC.cell 1
  have H1 := Lib.hid (cucheck_any c v _ (hSP.below hb0) (hV.below hb0) hc)
  go_enter Try.func19, Try.ntmps19
  go_wp2_with fail
  generalize (w.alloc (.cells #[.int .i64 c.base, v] 27)) = W0 at *
  refine H1.out.mono ?_
  rintro e W1 ⟨rfl, hb1⟩
  have hbw := hb0.trans (hb1.mono hb0.size)
  by_cases h1 : Z.cuE c = 0
  case neg =>
    rw [if_neg h1] at HR
    have h1b := ne_bne h1
    go_wp2_with fail
    go_ret2
    exact rret HR.out hbw
  rw [if_pos h1] at HR
  by_cases h2 : y < x
  · rw [if_pos h2] at HR
    rw [h1]
    go_wp2_with fail
    go_ret2
    exact rret HR.out hbw
  rw [if_neg h2] at HR
  have BC1 := BC.below hb1
  have c0 := BC1.cell 0
  have c1 := BC1.cell 1
  have hb2 := hbw.alloc hbw.size (.cells #[.int .i64 x, .int .i64 y] 3)
  have H2 := Lib.hid (covers_any c v (.slice (some ⟨W1.heap.size, 0, none⟩) 2 2) [x, y] (W1.alloc (.cells #[.int .i64 x, .int .i64 y] 3)) (hSP.below hb2) (sd_two W1 x y))
  rw [h1]
  have HC := Lib.hid h1
  clear H1 hb0 hb1 BC h1
  go_wp2_with fail
  refine H2.out.mono ?_
  rintro e W2 ⟨rfl, hb3⟩
  have hbw2 := hb2.trans (hb3.mono hb2.size)
  have BC2 := (BC1.alloc (.cells #[.int .i64 x, .int .i64 y] 3)).below hb3
  rw [show [x, y].all c.has = (c.has x && c.has y) by simp]
  clear H2 hb2 hb3 c0 c1 BC1 hbw
  by_cases hh : c.has x = true ∧ c.has y = true
  case neg =>
    rw [if_neg hh] at HR
    have hf : (c.has x && c.has y) = false := by
      cases hx : c.has x
      · rfl
      · cases hy : c.has y
        · rfl
        · exact absurd ⟨hx, hy⟩ hh
    rw [hf]
    clear hh hf
    go_wp2_with fail
    go_ret2
    exact rret HR.out hbw2
  rw [if_pos hh] at HR
  rw [hh.1, hh.2]
  obtain ⟨d1, d2⟩ := has_ok HC.out hh.1
  obtain ⟨d3, d4⟩ := has_ok HC.out hh.2
  have hb4 := hbw2.alloc hbw2.size (.cells #[.int .i64 0] 59)
  have bs : SB (W2.alloc (.cells #[.int .i64 0] 59)) W2.heap.size 0 := Blk.new W2 _ _
  have hne : w.heap.size ≠ W2.heap.size := Nat.ne_of_lt BC2.lt
  have BC3 := BC2.alloc (.cells #[.int .i64 0] 59)
  have hwB := hbw2.size
  clear hh BC2
  go_wp2_with fail
  generalize (W2.alloc (.cells #[.int .i64 0] 59)) = W3 at *
  generalize W2.heap.size = B at *
  have f0 : ∀ y : Gb W3 B, y.1.cell? ⟨w.heap.size, 0, none⟩ = some (.int .i64 c.base) := fun y => Gb.cell (j := 0) BC3 hne y
  have f1 : ∀ y : Gb W3 B, y.1.cell? ⟨w.heap.size, 1, none⟩ = some v := fun y => Gb.cell (j := 1) BC3 hne y
  have zf := fac_sz HC.out 0 y
  have zg := fac_sz HC.out (Z.fac 0 c y).2 x
  refine wp_region_stages 12 [([0, 1, 3, 4], [2, 5, 6, 7]), ([8, 9, 10, 11], [])] [] (fun w' => ∃ y : Gb W3 B, w' = y.1) (by kernel_rfl) (by kernel_rfl) ⟨⟨W3.drew, grown_drew (grown_refl _ _)⟩, rfl⟩ ?_
  simp only [fxS, opsAt, List.filterMap_cons, List.filterMap_nil, List.getElem?_toArray, List.getElem?_cons_succ, List.getElem?_cons_zero]
  show wpQuiet _ _ _ _ [_, _, _, _] _
  repeat (go_big_quiet_step (fail))
  refine wpQuiet_nil ?_
  have G0 := grown_drew (grown_refl W3 (some B))
  have hbG : ∀ X, W3.grownBy X (some B) → Below w.heap.size w X := fun X g => hb4.grown g hb4.size (fun k hk => by injection hk with hk; omega)
  refine fxp_enter (f := 32) (args := #[.pointer (some ⟨B, 0, none⟩), .agg #[.int .i64 c.base, v], .int .i64 y]) (w' := W3.drew) rfl (by simp [go_sem]) ?_
  refine (factor_any c v y 0 B w W3.drew hV hSP (hbG _ G0) hwB bs HC.out d3 d4).mono ?_
  rintro e X1 ⟨rfl, s1, g1⟩
  have G1 := G0.trans g1
  refine ⟨_, rfl, ⟨⟨X1, G1⟩, rfl⟩, ?_⟩
  generalize Z.fac 0 c y = p1 at *
  refine fxp_enter (f := 32) (args := #[.pointer (some ⟨B, 0, none⟩), .agg #[.int .i64 c.base, v], .int .i64 x]) (w' := X1) rfl (by simp [go_sem]) ?_
  refine (factor_any c v x p1.2 B w X1 hV hSP (hbG _ G1) hwB s1 HC.out d1 d2).mono ?_
  rintro e X2 ⟨rfl, s2, g2⟩
  have G2 := G1.trans g2
  refine ⟨_, rfl, ⟨⟨X2, G2⟩, rfl⟩, ?_⟩
  generalize Z.fac p1.2 c x = p2 at *
  refine fxp_enter (f := 38) (args := #[.pointer (some ⟨B, 0, none⟩), .string p1.1, .string p2.1]) (w' := X2) rfl (by simp [go_sem]) ?_
  refine (sdiv_any B p2.2 p1.1 p2.1 X2 s2 (hV.below (hbG _ G2)) (by omega) (by omega)).mono ?_
  rintro e X3 ⟨rfl, s3, g3⟩
  have G3 := G2.trans g3
  refine ⟨_, rfl, ⟨⟨X3, G3⟩, rfl⟩, ?_⟩
  generalize Z.cOp Z.divP p2.2 p1.1 p2.1 = p3 at *
  refine fxp_enter (f := 31) (args := #[.pointer (some ⟨B, 0, none⟩), .string p3.1]) (w' := X3) rfl (by simp [go_sem]) ?_
  refine (done_any B p3.2 p3.1 X3 s3).mono ?_
  rintro e X4 ⟨rfl, hb9⟩
  have G4 := G3.trans (grown_of_below hb9 (some B))
  refine ⟨_, rfl, ⟨⟨X4, G4⟩, rfl⟩, ?_⟩
  have HR3 : Hid (R = Z.done p3) := HR
  clear f0 f1 HR
  generalize Z.done (p3.1, p3.2) = p4 at *
  refine fxp_nil ?_
  show wpQuiet _ _ _ _ [_, _, _, _] _
  simp only [Act.put, List.setIfInBounds_toArray, List.set_cons_succ, List.set_cons_zero]
  repeat (go_big_quiet_step (fail))
  refine wpQuiet_nil ?_
  refine fxp_nil (fxl_nil ?_)
  have hbf := hbG _ G4
  go_wp2_with fail
  go_ret2
  exact rret HR3.out hbf

theorem legs_drop {q : Z.Qt} {k : Nat} {d : Int} {p : ByteArray} (h1 : q.dates[k]? = some d) (h2 : q.parts[k]? = some p) : q.legs.drop k = (d, p) :: q.legs.drop (k + 1) ∧ (d, p) ∈ q.legs := by
  have h : q.legs[k]? = some (d, p) := List.getElem?_zip_eq_some.2 ⟨h1, h2⟩
  obtain ⟨hlt, he⟩ := List.getElem?_eq_some_iff.1 h
  exact ⟨by rw [List.drop_eq_getElem_cons hlt, he], List.mem_of_getElem? h⟩
theorem legs_end {q : Z.Qt} (h : q.parts.length = q.dates.length) : q.legs.drop q.dates.length = [] := by
  apply List.drop_eq_nil_of_le
  unfold Z.Qt.legs
  rw [List.length_zip, h, Nat.min_self]
  exact Nat.le_refl _
theorem chk_sz {s : ByteArray} (h : Z.rchk s = 0) : s.size ≤ 2100 := by
  rw [← (Z.rok h).text]
  exact Z.Q_size (Z.rok h).fit
theorem cqE_ok {c : Z.Cu} {q : Z.Qt} (h : Z.cqE c q = 0) : Z.cuE c = 0 ∧ Z.qtE q c.base = 0 ∧ c.has q.last = true := by
  unfold Z.cqE at h
  split at h
  · rename_i h1
    split at h
    · rename_i h2
      split at h
      · rename_i h3
        exact ⟨h1, h2, h3⟩
      · cases h
    · rename_i h2
      exact absurd h h2
  · rename_i h1
    exact absurd h h1
set_option maxRecDepth 100000 in
set_option maxHeartbeats 8000000 in
theorem price_any (c : Z.Cu) (v : Value) (r : QV) (q : Z.Qt) (w : World) (hSP : SP w v c.pts) (hq : QOk w r q) (hV : HasV w) (hc : CSm c) (hs : QSm q) :
    Calls Try.prog 21 #[.agg #[.int .i64 c.base, v], .agg #[r.dv, r.pv, .string r.rate]] w (RRet (Z.priceR c q) w) := by
  obtain ⟨T, hT0⟩ : ∃ T, T = Z.priceL c q.rate 0 Z.zm1 q.legs := ⟨_, rfl⟩
  have HT := Lib.hid hT0
  have HR : Hid (Z.priceR c q = if Z.cqE c q = 0 then Z.done (Z.cOp Z.addP (Z.fac T.2 c q.last).2 T.1 (Z.fac T.2 c q.last).1) else (⟨#[]⟩, Z.cqE c q)) := Lib.hid (by rw [hT0]; rfl)
  clear hT0
  generalize Z.priceR c q = R at *
  obtain ⟨dv, pv, rate⟩ := r
  obtain ⟨A, cp, e1, hlc, hcm⟩ := hq.1.shape
  obtain ⟨A2, cp2, e2, hlc2, hcm2⟩ := hq.2.1.shape
  have e1 : dv = .slice A q.dates.length cp := e1
  have e2 : pv = .slice A2 q.parts.length cp2 := e2
  have e3 : rate = q.rate := hq.2.2
  subst e1 e2 e3
  unfold maxLen at hcm hcm2
  have hb0 := ((Below.refl _ w).alloc (Nat.le_refl w.heap.size) (.cells #[.int .i64 c.base, v] 27)).alloc (by simp) (.cells #[.slice A q.dates.length cp, .slice A2 q.parts.length cp2, .string q.rate] 49)
  have BC := (Blk.new w 27 #[.int .i64 c.base, v]).alloc (.cells #[.slice A q.dates.length cp, .slice A2 q.parts.length cp2, .string q.rate] 49)
  have BQ := Blk.new (w.alloc (.cells #[.int .i64 c.base, v] 27)) 49 #[.slice A q.dates.length cp, .slice A2 q.parts.length cp2, .string q.rate]
  rw [World.size_alloc] at BQ
  have c0 := BC.cell 0
  have c1 := BC.cell 1
  have q0 := BQ.cell 0
  have q1 := BQ.cell 1
  have q2 := BQ.cell 2
  have H1 := Lib.hid (cqboth_any c v ⟨_, _, _⟩ q _ (hSP.below hb0) (hq.below hb0) (hV.below hb0) hc hs)
  go_enter Try.func21, Try.ntmps21
  go_wp2_with fail
  generalize ((w.alloc (.cells #[.int .i64 c.base, v] 27)).alloc (.cells #[.slice A q.dates.length cp, .slice A2 q.parts.length cp2, .string q.rate] 49)) = W0 at *
  refine H1.out.mono ?_
  rintro e W1 ⟨rfl, hb1⟩
  have hbw := hb0.trans (hb1.mono hb0.size)
  by_cases h1 : Z.cqE c q = 0
  case neg =>
    rw [if_neg h1] at HR
    have h1b := ne_bne h1
    go_wp2_with fail
    go_ret2
    exact rret HR.out hbw
  rw [if_pos h1] at HR
  rw [h1]
  obtain ⟨h2, h3, h4⟩ := cqE_ok h1
  obtain ⟨_, _, hd0, hpl, hrk, _, hpk⟩ := Z.qt_ok h3
  obtain ⟨l1, l2, l3, _⟩ := Z.qt_last h3
  have hrz := chk_sz hrk
  have HPL := Lib.hid hpl
  have HC := Lib.hid h2
  have HLG := Lib.hid (Z.qt_legs h3)
  have BC1 := (BC.below hb1).alloc (.cells #[.int .i64 0] 59)
  have BQ1 := (BQ.below hb1).alloc (.cells #[.int .i64 0] 59)
  have hneC : w.heap.size ≠ W1.heap.size := Nat.ne_of_lt (BC.below hb1).lt
  have hneQ : w.heap.size + 1 ≠ W1.heap.size := Nat.ne_of_lt (BQ.below hb1).lt
  have hb2 := hbw.alloc hbw.size (.cells #[.int .i64 0] 59)
  have bs : SB (W1.alloc (.cells #[.int .i64 0] 59)) W1.heap.size 0 := Blk.new W1 _ _
  have hwB := hbw.size
  have q0 := BQ1.cell 0
  clear H1 hb0 hb1 BC BQ h1 h2 h3 h4 hrk c0 c1 q1 q2 hpl
  go_wp2_with fail
  generalize hW2 : (W1.alloc (.cells #[.int .i64 0] 59)) = W2 at *
  generalize W1.heap.size = B at *
  clear hW2
  have hbG : ∀ X, W2.grownBy X (some B) → Below w.heap.size w X := fun X g => hb2.grown g hb2.size (fun k hk => by injection hk with hk; omega)
  have HL0 : Hid (T = Z.priceL c q.rate 0 Z.zm1 (q.legs.drop 0)) := HT
  go_loopw [8, 20] (fun tv iv wr => ∃ (k : Nat) (e : Int) (t : ByteArray), k ≤ q.dates.length ∧ iv = .int .i64 k ∧ tv = .string t ∧ Hid (T = Z.priceL c q.rate e t (q.legs.drop k) ∧ SB wr B e ∧ W2.grownBy wr (some B)) ∧ t.size ≤ 2100) (fun _ iv _ => q.dates.length - (intOf iv).toNat)
  case atStart => exact ⟨0, 0, _, by omega, rfl, rfl, Lib.hid ⟨HL0.out, bs, grown_refl _ _⟩, by decide⟩
  case round =>
    obtain ⟨k, e, t, hk, rfl, rfl, HI, ht⟩ := hrel
    clear HL0
    obtain ⟨hT, sr, hg⟩ := HI.out
    have HTk := Lib.hid hT
    have HSr := Lib.hid sr
    have HGr := Lib.hid hg
    have BCr := BC1.kept hg (fun e => hneC (by injection e))
    have BQr := BQ1.kept hg (fun e => hneQ (by injection e))
    clear HI hT sr
    by_cases hlt : k < q.dates.length
    · have hz : q.dates[k]? = some q.dates[k] := List.getElem?_eq_getElem hlt
      have hk2 : k < q.parts.length := by have := HPL.out; omega
      have hz2 : q.parts[k]? = some q.parts[k] := List.getElem?_eq_getElem hk2
      obtain ⟨hld, hmem⟩ := legs_drop hz hz2
      obtain ⟨bd, od, rfl, hbd, qd⟩ := hq.1.cell1 hz rfl
      obtain ⟨bp, op, rfl, hbp, qp⟩ := hq.2.1.cell1 hz2 rfl
      obtain ⟨m1, m2, m3⟩ := HLG.out _ hmem
      have m1 : c.base < q.dates[k] := m1
      have m2 : q.dates[k] ≤ q.last := m2
      have m3 : Z.rchk q.parts[k] = 0 := m3
      have hpz := chk_sz m3
      have HLD := Lib.hid hld
      generalize q.dates[k] = d at *
      generalize q.parts[k] = p at *
      have qd := ((hbG _ hg).cell (p := ⟨bd, od + k, none⟩) hbd).trans qd
      have hk0 : (0 : Int) ≤ (k : Int) := by omega
      have hk1 : (k : Int) < (q.parts.length : Int) := by have := HPL.out; omega
      have qpy : ∀ y : Gb wr B, y.1.cell? ⟨bp, op + k, none⟩ = some (.string p) := fun y => ((hbG y.1 (hg.trans y.2)).cell (p := ⟨bp, op + k, none⟩) hbp).trans qp
      have f0 : ∀ y : Gb wr B, y.1.cell? ⟨w.heap.size, 0, none⟩ = some (.int .i64 c.base) := fun y => Gb.cell (j := 0) BCr hneC y
      have f1 : ∀ y : Gb wr B, y.1.cell? ⟨w.heap.size, 1, none⟩ = some v := fun y => Gb.cell (j := 1) BCr hneC y
      have g0 : ∀ y : Gb wr B, y.1.cell? ⟨w.heap.size + 1, 0, none⟩ = some (.slice (some ⟨bd, od, none⟩) q.dates.length cp) := fun y => Gb.cell (j := 0) BQr hneQ y
      have g1 : ∀ y : Gb wr B, y.1.cell? ⟨w.heap.size + 1, 1, none⟩ = some (.slice (some ⟨bp, op, none⟩) q.parts.length cp2) := fun y => Gb.cell (j := 1) BQr hneQ y
      have g2 : ∀ y : Gb wr B, y.1.cell? ⟨w.heap.size + 1, 2, none⟩ = some (.string q.rate) := fun y => Gb.cell (j := 2) BQr hneQ y
      have HSTEP : Hid (T = (Z.priceL c q.rate (Z.cOp Z.addP (Z.cOp Z.mulP (Z.fac (Z.cOp Z.mulP e q.rate p).2 c d).2 (Z.cOp Z.mulP e q.rate p).1 (Z.fac (Z.cOp Z.mulP e q.rate p).2 c d).1).2 t (Z.cOp Z.mulP (Z.fac (Z.cOp Z.mulP e q.rate p).2 c d).2 (Z.cOp Z.mulP e q.rate p).1 (Z.fac (Z.cOp Z.mulP e q.rate p).2 c d).1).1).2 (Z.cOp Z.addP (Z.cOp Z.mulP (Z.fac (Z.cOp Z.mulP e q.rate p).2 c d).2 (Z.cOp Z.mulP e q.rate p).1 (Z.fac (Z.cOp Z.mulP e q.rate p).2 c d).1).2 t (Z.cOp Z.mulP (Z.fac (Z.cOp Z.mulP e q.rate p).2 c d).2 (Z.cOp Z.mulP e q.rate p).1 (Z.fac (Z.cOp Z.mulP e q.rate p).2 c d).1).1).1 (q.legs.drop (k + 1)))) := Lib.hid (by rw [HTk.out, HLD.out]; rfl)
      clear hz hz2 hld hmem qp m3 HTk HLD
      go_wp2_with fail
      refine wp_region_stages 15 [([0, 1, 2, 3, 4, 5, 6, 7, 9, 10], [8, 11, 12, 13]), ([14], [])] [] (fun w' => ∃ y : Gb wr B, w' = y.1) (by kernel_rfl) (by kernel_rfl) ⟨⟨wr.drew, grown_drew (grown_refl _ _)⟩, rfl⟩ ?_
      simp only [fxS, opsAt, List.filterMap_cons, List.filterMap_nil, List.getElem?_toArray, List.getElem?_cons_succ, List.getElem?_cons_zero]
      show wpQuiet _ _ _ _ [_, _, _, _, _, _, _, _, _, _] _
      repeat (go_big_quiet_step (fail))
      refine wpQuiet_nil ?_
      have G0 := grown_drew (grown_refl wr (some B))
      have hbr : ∀ X, wr.grownBy X (some B) → Below w.heap.size w X := fun X g => hbG X (hg.trans g)
      refine fxp_enter (f := 41) (args := #[.pointer (some ⟨B, 0, none⟩), .string q.rate, .string p]) (w' := wr.drew) rfl (by simp [go_sem]) ?_
      refine (smul_any B e q.rate p wr.drew HSr.out (hV.below (hbr _ G0)) (by omega) (by omega)).mono ?_
      rintro e1 X1 ⟨rfl, s1, y1⟩
      have G1 := G0.trans y1
      refine ⟨_, rfl, ⟨⟨X1, G1⟩, rfl⟩, ?_⟩
      have z1 := Z.cOp_sz Z.sz_mul e q.rate p
      generalize Z.cOp Z.mulP e q.rate p = p1 at *
      refine fxp_enter (f := 32) (args := #[.pointer (some ⟨B, 0, none⟩), .agg #[.int .i64 c.base, v], .int .i64 d]) (w' := X1) rfl (by simp [go_sem]) ?_
      refine (factor_any c v d p1.2 B w X1 hV hSP (hbr _ G1) hwB s1 HC.out (by omega) (by omega)).mono ?_
      rintro e2 X2 ⟨rfl, s2, y2⟩
      have G2 := G1.trans y2
      refine ⟨_, rfl, ⟨⟨X2, G2⟩, rfl⟩, ?_⟩
      have z2 := fac_sz HC.out p1.2 d
      generalize Z.fac p1.2 c d = p2 at *
      refine fxp_enter (f := 41) (args := #[.pointer (some ⟨B, 0, none⟩), .string p1.1, .string p2.1]) (w' := X2) rfl (by simp [go_sem]) ?_
      refine (smul_any B p2.2 p1.1 p2.1 X2 s2 (hV.below (hbr _ G2)) (by omega) (by omega)).mono ?_
      rintro e3 X3 ⟨rfl, s3, y3⟩
      have G3 := G2.trans y3
      refine ⟨_, rfl, ⟨⟨X3, G3⟩, rfl⟩, ?_⟩
      have z3 := Z.cOp_sz Z.sz_mul p2.2 p1.1 p2.1
      generalize Z.cOp Z.mulP p2.2 p1.1 p2.1 = p3 at *
      refine fxp_enter (f := 40) (args := #[.pointer (some ⟨B, 0, none⟩), .string t, .string p3.1]) (w' := X3) rfl (by simp [go_sem]) ?_
      refine (sadd_any B p3.2 t p3.1 X3 s3 (hV.below (hbr _ G3)) (by omega) (by omega)).mono ?_
      rintro e4 X4 ⟨rfl, s4, y4⟩
      have G4 := G3.trans y4
      refine ⟨_, rfl, ⟨⟨X4, G4⟩, rfl⟩, ?_⟩
      have z4 := Z.cOp_sz Z.sz_add p3.2 t p3.1
      generalize Z.cOp Z.addP p3.2 t p3.1 = p4 at *
      refine fxp_nil ?_
      show wpQuiet _ _ _ _ [_] _
      simp only [Act.put, List.setIfInBounds_toArray, List.set_cons_succ, List.set_cons_zero]
      repeat (go_big_quiet_step (fail))
      refine wpQuiet_nil ?_
      refine fxp_nil (fxl_nil ?_)
      have HSN := Lib.hid s4
      have HGN := Lib.hid (hg.trans G4)
      clear f0 f1 g0 g1 g2 qpy qd
      go_wp2_with fail
      go_roundw
      case rel => exact ⟨k + 1, p4.2, p4.1, by omega, by go_num, rfl, Lib.hid ⟨HSTEP.out, HSN.out, HGN.out⟩, z4⟩
      case measure => simp [intOf]; omega
    · obtain rfl : k = q.dates.length := by omega
      have hTe := HTk.out
      rw [legs_end HPL.out] at hTe
      have hTe : T = (t, e) := hTe
      rw [hTe] at HR
      have HR1 : Hid (R = Z.done (Z.cOp Z.addP (Z.fac e c q.last).2 t (Z.fac e c q.last).1)) := HR
      clear hTe HTk HT HR
      have f0 : ∀ y : Gb wr B, y.1.cell? ⟨w.heap.size, 0, none⟩ = some (.int .i64 c.base) := fun y => Gb.cell (j := 0) BCr hneC y
      have f1 : ∀ y : Gb wr B, y.1.cell? ⟨w.heap.size, 1, none⟩ = some v := fun y => Gb.cell (j := 1) BCr hneC y
      have g0 : ∀ y : Gb wr B, y.1.cell? ⟨w.heap.size + 1, 0, none⟩ = some (.slice A q.dates.length cp) := fun y => Gb.cell (j := 0) BQr hneQ y
      have g1 : ∀ y : Gb wr B, y.1.cell? ⟨w.heap.size + 1, 1, none⟩ = some (.slice A2 q.parts.length cp2) := fun y => Gb.cell (j := 1) BQr hneQ y
      have g2 : ∀ y : Gb wr B, y.1.cell? ⟨w.heap.size + 1, 2, none⟩ = some (.string q.rate) := fun y => Gb.cell (j := 2) BQr hneQ y
      clear q0
      go_wp2_with fail
      refine wp_region_stages 11 [([0, 1, 2], [3, 4, 5, 6]), ([7, 8, 9, 10], [])] [] (fun w' => ∃ y : Gb wr B, w' = y.1) (by kernel_rfl) (by kernel_rfl) ⟨⟨wr.drew, grown_drew (grown_refl _ _)⟩, rfl⟩ ?_
      simp only [fxS, opsAt, List.filterMap_cons, List.filterMap_nil, List.getElem?_toArray, List.getElem?_cons_succ, List.getElem?_cons_zero]
      show wpQuiet _ _ _ _ [_, _, _] _
      repeat (go_big_quiet_step (fail))
      refine wpQuiet_nil ?_
      have G0 := grown_drew (grown_refl wr (some B))
      have hbr : ∀ X, wr.grownBy X (some B) → Below w.heap.size w X := fun X g => hbG X (hg.trans g)
      refine fxp_enter (f := 26) (args := #[.agg #[.slice A q.dates.length cp, .slice A2 q.parts.length cp2, .string q.rate]]) (w' := wr.drew) rfl (by simp [go_sem]) ?_
      refine (last_any ⟨_, _, _⟩ q wr.drew (hq.below (hbr _ G0)) hd0).mono ?_
      rintro e1 X1 ⟨rfl, y1⟩
      have G1 := G0.trans (grown_of_below y1 (some B))
      refine ⟨_, rfl, ⟨⟨X1, G1⟩, rfl⟩, ?_⟩
      have s1 : SB X1 B e := (show SB wr.drew B e from HSr.out).below y1
      refine fxp_enter (f := 32) (args := #[.pointer (some ⟨B, 0, none⟩), .agg #[.int .i64 c.base, v], .int .i64 q.last]) (w' := X1) rfl (by simp [go_sem]) ?_
      refine (factor_any c v q.last e B w X1 hV hSP (hbr _ G1) hwB s1 HC.out (by omega) l3).mono ?_
      rintro e2 X2 ⟨rfl, s2, y2⟩
      have G2 := G1.trans y2
      refine ⟨_, rfl, ⟨⟨X2, G2⟩, rfl⟩, ?_⟩
      have z2 := fac_sz HC.out e q.last
      generalize Z.fac e c q.last = p2 at *
      refine fxp_enter (f := 40) (args := #[.pointer (some ⟨B, 0, none⟩), .string t, .string p2.1]) (w' := X2) rfl (by simp [go_sem]) ?_
      refine (sadd_any B p2.2 t p2.1 X2 s2 (hV.below (hbr _ G2)) (by omega) (by omega)).mono ?_
      rintro e3 X3 ⟨rfl, s3, y3⟩
      have G3 := G2.trans y3
      refine ⟨_, rfl, ⟨⟨X3, G3⟩, rfl⟩, ?_⟩
      generalize Z.cOp Z.addP p2.2 t p2.1 = p3 at *
      refine fxp_enter (f := 31) (args := #[.pointer (some ⟨B, 0, none⟩), .string p3.1]) (w' := X3) rfl (by simp [go_sem]) ?_
      refine (done_any B p3.2 p3.1 X3 s3).mono ?_
      rintro e4 X4 ⟨rfl, y4⟩
      have G4 := G3.trans (grown_of_below y4 (some B))
      refine ⟨_, rfl, ⟨⟨X4, G4⟩, rfl⟩, ?_⟩
      have HR3 : Hid (R = Z.done p3) := HR1
      clear f0 f1 g0 g1 g2 HR1
      generalize Z.done (p3.1, p3.2) = p4 at *
      refine fxp_nil ?_
      show wpQuiet _ _ _ _ [_, _, _, _] _
      simp only [Act.put, List.setIfInBounds_toArray, List.set_cons_succ, List.set_cons_zero]
      repeat (go_big_quiet_step (fail))
      refine wpQuiet_nil ?_
      refine fxp_nil (fxl_nil ?_)
      have hbf := hbr _ G4
      go_wp2_with fail
      go_ret2
      exact rret HR3.out hbf
set_option maxRecDepth 100000 in
set_option maxHeartbeats 8000000 in
theorem par_any (c : Z.Cu) (v : Value) (r : QV) (q : Z.Qt) (w : World) (hSP : SP w v c.pts) (hq : QOk w r q) (hV : HasV w) (hc : CSm c) (hs : QSm q) :
    Calls Try.prog 22 #[.agg #[.int .i64 c.base, v], .agg #[r.dv, r.pv, .string r.rate]] w (RRet (Z.parR c q) w) := by
  obtain ⟨T, hT0⟩ : ∃ T, T = Z.annL c 0 Z.z48 q.legs := ⟨_, rfl⟩
  have HT := Lib.hid hT0
  have HR : Hid (Z.parR c q = if Z.cqE c q = 0 then (if T.2 = 0 ∧ T.1 = Z.z48 then (⟨#[]⟩, 16) else Z.done (Z.cOp Z.divP (Z.cOp Z.subP (Z.fac T.2 c q.last).2 Z.z49 (Z.fac T.2 c q.last).1).2 (Z.cOp Z.subP (Z.fac T.2 c q.last).2 Z.z49 (Z.fac T.2 c q.last).1).1 T.1)) else (⟨#[]⟩, Z.cqE c q)) := Lib.hid (by rw [hT0]; rfl)
  clear hT0
  generalize Z.parR c q = R at *
  obtain ⟨dv, pv, rate⟩ := r
  obtain ⟨A, cp, e1, hlc, hcm⟩ := hq.1.shape
  obtain ⟨A2, cp2, e2, hlc2, hcm2⟩ := hq.2.1.shape
  have e1 : dv = .slice A q.dates.length cp := e1
  have e2 : pv = .slice A2 q.parts.length cp2 := e2
  have e3 : rate = q.rate := hq.2.2
  subst e1 e2 e3
  unfold maxLen at hcm hcm2
  have hb0 := ((Below.refl _ w).alloc (Nat.le_refl w.heap.size) (.cells #[.int .i64 c.base, v] 27)).alloc (by simp) (.cells #[.slice A q.dates.length cp, .slice A2 q.parts.length cp2, .string q.rate] 49)
  have BC := (Blk.new w 27 #[.int .i64 c.base, v]).alloc (.cells #[.slice A q.dates.length cp, .slice A2 q.parts.length cp2, .string q.rate] 49)
  have BQ := Blk.new (w.alloc (.cells #[.int .i64 c.base, v] 27)) 49 #[.slice A q.dates.length cp, .slice A2 q.parts.length cp2, .string q.rate]
  rw [World.size_alloc] at BQ
  have c0 := BC.cell 0
  have c1 := BC.cell 1
  have q0 := BQ.cell 0
  have q1 := BQ.cell 1
  have q2 := BQ.cell 2
  have H1 := Lib.hid (cqboth_any c v ⟨_, _, _⟩ q _ (hSP.below hb0) (hq.below hb0) (hV.below hb0) hc hs)
  go_enter Try.func22, Try.ntmps22
  go_wp2_with fail
  generalize ((w.alloc (.cells #[.int .i64 c.base, v] 27)).alloc (.cells #[.slice A q.dates.length cp, .slice A2 q.parts.length cp2, .string q.rate] 49)) = W0 at *
  refine H1.out.mono ?_
  rintro e W1 ⟨rfl, hb1⟩
  have hbw := hb0.trans (hb1.mono hb0.size)
  by_cases h1 : Z.cqE c q = 0
  case neg =>
    rw [if_neg h1] at HR
    have h1b := ne_bne h1
    go_wp2_with fail
    go_ret2
    exact rret HR.out hbw
  rw [if_pos h1] at HR
  rw [h1]
  obtain ⟨h2, h3, h4⟩ := cqE_ok h1
  obtain ⟨_, _, hd0, hpl, hrk, _, hpk⟩ := Z.qt_ok h3
  obtain ⟨l1, l2, l3, _⟩ := Z.qt_last h3
  have hrz := chk_sz hrk
  have HPL := Lib.hid hpl
  have HC := Lib.hid h2
  have HLG := Lib.hid (Z.qt_legs h3)
  have BC1 := (BC.below hb1).alloc (.cells #[.int .i64 0] 59)
  have BQ1 := (BQ.below hb1).alloc (.cells #[.int .i64 0] 59)
  have hneC : w.heap.size ≠ W1.heap.size := Nat.ne_of_lt (BC.below hb1).lt
  have hneQ : w.heap.size + 1 ≠ W1.heap.size := Nat.ne_of_lt (BQ.below hb1).lt
  have hb2 := hbw.alloc hbw.size (.cells #[.int .i64 0] 59)
  have bs : SB (W1.alloc (.cells #[.int .i64 0] 59)) W1.heap.size 0 := Blk.new W1 _ _
  have hwB := hbw.size
  have q0 := BQ1.cell 0
  clear H1 hb0 hb1 BC BQ h1 h2 h3 h4 hrk c0 c1 q1 q2 hpl
  go_wp2_with fail
  generalize hW2 : (W1.alloc (.cells #[.int .i64 0] 59)) = W2 at *
  generalize W1.heap.size = B at *
  clear hW2
  have hbG : ∀ X, W2.grownBy X (some B) → Below w.heap.size w X := fun X g => hb2.grown g hb2.size (fun k hk => by injection hk with hk; omega)
  have HL0 : Hid (T = Z.annL c 0 Z.z48 (q.legs.drop 0)) := HT
  go_loopw [8, 20] (fun tv iv wr => ∃ (k : Nat) (e : Int) (t : ByteArray), k ≤ q.dates.length ∧ iv = .int .i64 k ∧ tv = .string t ∧ Hid (T = Z.annL c e t (q.legs.drop k) ∧ SB wr B e ∧ W2.grownBy wr (some B)) ∧ t.size ≤ 2100) (fun _ iv _ => q.dates.length - (intOf iv).toNat)
  case atStart => exact ⟨0, 0, _, by omega, rfl, rfl, Lib.hid ⟨HL0.out, bs, grown_refl _ _⟩, by decide⟩
  case round =>
    obtain ⟨k, e, t, hk, rfl, rfl, HI, ht⟩ := hrel
    clear HL0
    obtain ⟨hT, sr, hg⟩ := HI.out
    have HTk := Lib.hid hT
    have HSr := Lib.hid sr
    have HGr := Lib.hid hg
    have BCr := BC1.kept hg (fun e => hneC (by injection e))
    have BQr := BQ1.kept hg (fun e => hneQ (by injection e))
    clear HI hT sr
    by_cases hlt : k < q.dates.length
    · have hz : q.dates[k]? = some q.dates[k] := List.getElem?_eq_getElem hlt
      have hk2 : k < q.parts.length := by have := HPL.out; omega
      have hz2 : q.parts[k]? = some q.parts[k] := List.getElem?_eq_getElem hk2
      obtain ⟨hld, hmem⟩ := legs_drop hz hz2
      obtain ⟨bd, od, rfl, hbd, qd⟩ := hq.1.cell1 hz rfl
      obtain ⟨bp, op, rfl, hbp, qp⟩ := hq.2.1.cell1 hz2 rfl
      obtain ⟨m1, m2, m3⟩ := HLG.out _ hmem
      have m1 : c.base < q.dates[k] := m1
      have m2 : q.dates[k] ≤ q.last := m2
      have m3 : Z.rchk q.parts[k] = 0 := m3
      have hpz := chk_sz m3
      have HLD := Lib.hid hld
      generalize q.dates[k] = d at *
      generalize q.parts[k] = p at *
      have qd := ((hbG _ hg).cell (p := ⟨bd, od + k, none⟩) hbd).trans qd
      have hk0 : (0 : Int) ≤ (k : Int) := by omega
      have hk1 : (k : Int) < (q.parts.length : Int) := by have := HPL.out; omega
      have qpy : ∀ y : Gb wr B, y.1.cell? ⟨bp, op + k, none⟩ = some (.string p) := fun y => ((hbG y.1 (hg.trans y.2)).cell (p := ⟨bp, op + k, none⟩) hbp).trans qp
      have f0 : ∀ y : Gb wr B, y.1.cell? ⟨w.heap.size, 0, none⟩ = some (.int .i64 c.base) := fun y => Gb.cell (j := 0) BCr hneC y
      have f1 : ∀ y : Gb wr B, y.1.cell? ⟨w.heap.size, 1, none⟩ = some v := fun y => Gb.cell (j := 1) BCr hneC y
      have g0 : ∀ y : Gb wr B, y.1.cell? ⟨w.heap.size + 1, 0, none⟩ = some (.slice (some ⟨bd, od, none⟩) q.dates.length cp) := fun y => Gb.cell (j := 0) BQr hneQ y
      have g1 : ∀ y : Gb wr B, y.1.cell? ⟨w.heap.size + 1, 1, none⟩ = some (.slice (some ⟨bp, op, none⟩) q.parts.length cp2) := fun y => Gb.cell (j := 1) BQr hneQ y
      have g2 : ∀ y : Gb wr B, y.1.cell? ⟨w.heap.size + 1, 2, none⟩ = some (.string q.rate) := fun y => Gb.cell (j := 2) BQr hneQ y
      have HSTEP : Hid (T = (Z.annL c (Z.cOp Z.addP (Z.cOp Z.mulP (Z.fac e c d).2 p (Z.fac e c d).1).2 t (Z.cOp Z.mulP (Z.fac e c d).2 p (Z.fac e c d).1).1).2 (Z.cOp Z.addP (Z.cOp Z.mulP (Z.fac e c d).2 p (Z.fac e c d).1).2 t (Z.cOp Z.mulP (Z.fac e c d).2 p (Z.fac e c d).1).1).1 (q.legs.drop (k + 1)))) := Lib.hid (by rw [HTk.out, HLD.out]; rfl)
      clear hz hz2 hld hmem qp m3 HTk HLD
      go_wp2_with fail
      refine wp_region_stages 12 [([0, 1, 2, 3, 4, 5, 6, 7], [8, 9, 10]), ([11], [])] [] (fun w' => ∃ y : Gb wr B, w' = y.1) (by kernel_rfl) (by kernel_rfl) ⟨⟨wr.drew, grown_drew (grown_refl _ _)⟩, rfl⟩ ?_
      simp only [fxS, opsAt, List.filterMap_cons, List.filterMap_nil, List.getElem?_toArray, List.getElem?_cons_succ, List.getElem?_cons_zero]
      show wpQuiet _ _ _ _ [_, _, _, _, _, _, _, _] _
      repeat (go_big_quiet_step (fail))
      refine wpQuiet_nil ?_
      have G0 := grown_drew (grown_refl wr (some B))
      have hbr : ∀ X, wr.grownBy X (some B) → Below w.heap.size w X := fun X g => hbG X (hg.trans g)
      refine fxp_enter (f := 32) (args := #[.pointer (some ⟨B, 0, none⟩), .agg #[.int .i64 c.base, v], .int .i64 d]) (w' := wr.drew) rfl (by simp [go_sem]) ?_
      refine (factor_any c v d e B w wr.drew hV hSP (hbr _ G0) hwB HSr.out HC.out (by omega) (by omega)).mono ?_
      rintro e2 X2 ⟨rfl, s2, y2⟩
      have G2 := G0.trans y2
      refine ⟨_, rfl, ⟨⟨X2, G2⟩, rfl⟩, ?_⟩
      have z2 := fac_sz HC.out e d
      generalize Z.fac e c d = p2 at *
      refine fxp_enter (f := 41) (args := #[.pointer (some ⟨B, 0, none⟩), .string p, .string p2.1]) (w' := X2) rfl (by simp [go_sem]) ?_
      refine (smul_any B p2.2 p p2.1 X2 s2 (hV.below (hbr _ G2)) (by omega) (by omega)).mono ?_
      rintro e3 X3 ⟨rfl, s3, y3⟩
      have G3 := G2.trans y3
      refine ⟨_, rfl, ⟨⟨X3, G3⟩, rfl⟩, ?_⟩
      have z3 := Z.cOp_sz Z.sz_mul p2.2 p p2.1
      generalize Z.cOp Z.mulP p2.2 p p2.1 = p3 at *
      refine fxp_enter (f := 40) (args := #[.pointer (some ⟨B, 0, none⟩), .string t, .string p3.1]) (w' := X3) rfl (by simp [go_sem]) ?_
      refine (sadd_any B p3.2 t p3.1 X3 s3 (hV.below (hbr _ G3)) (by omega) (by omega)).mono ?_
      rintro e4 X4 ⟨rfl, s4, y4⟩
      have G4 := G3.trans y4
      refine ⟨_, rfl, ⟨⟨X4, G4⟩, rfl⟩, ?_⟩
      have z4 := Z.cOp_sz Z.sz_add p3.2 t p3.1
      generalize Z.cOp Z.addP p3.2 t p3.1 = p4 at *
      refine fxp_nil ?_
      show wpQuiet _ _ _ _ [_] _
      simp only [Act.put, List.setIfInBounds_toArray, List.set_cons_succ, List.set_cons_zero]
      repeat (go_big_quiet_step (fail))
      refine wpQuiet_nil ?_
      refine fxp_nil (fxl_nil ?_)
      have HSN := Lib.hid s4
      have HGN := Lib.hid (hg.trans G4)
      clear f0 f1 g0 g1 g2 qpy qd
      go_wp2_with fail
      go_roundw
      case rel => exact ⟨k + 1, p4.2, p4.1, by omega, by go_num, rfl, Lib.hid ⟨HSTEP.out, HSN.out, HGN.out⟩, z4⟩
      case measure => simp [intOf]; omega
    · obtain rfl : k = q.dates.length := by omega
      have hTe := HTk.out
      rw [legs_end HPL.out] at hTe
      have hTe : T = (t, e) := hTe
      rw [hTe] at HR
      have HR1 : Hid (R = if e = 0 ∧ t = Z.z48 then (⟨#[]⟩, 16) else Z.done (Z.cOp Z.divP (Z.cOp Z.subP (Z.fac e c q.last).2 Z.z49 (Z.fac e c q.last).1).2 (Z.cOp Z.subP (Z.fac e c q.last).2 Z.z49 (Z.fac e c q.last).1).1 t)) := HR
      clear hTe HTk HT HR
      have cs0 : wr.cell? ⟨B, 0, none⟩ = some (.int .i64 e) := HSr.out.cell 0
      have ht48 : (t.toList == [48]) = decide (t = Z.z48) := by
        rw [Bool.eq_iff_iff, beq_iff_eq, decide_eq_true_iff]
        constructor
        · intro h
          exact Z.ba_of (by rw [← Lib.toList_data, ← Lib.toList_data, h]; decide +kernel)
        · rintro rfl
          decide +kernel
      clear q0
      by_cases hz : e = 0 ∧ t = Z.z48
      · rw [if_pos hz] at HR1
        obtain ⟨rfl, h48⟩ := hz
        rw [decide_eq_true h48] at ht48
        clear h48
        have hbf := hbG _ hg
        go_wp2_with fail
        go_ret2
        exact rret HR1.out hbf
      rw [if_neg hz] at HR1
      have hcond : (e == 0 && (t.toList == [48])) = false := by
        rw [ht48]
        cases he : (e == 0)
        · rfl
        · rw [beq_iff_eq] at he
          rw [Bool.true_and, decide_eq_false (fun h => hz ⟨he, h⟩)]
      clear ht48
      go_upto_region 11 with fail
      go_cut [43] (fun bv wx => bv = .bool false ∧ wr = wx)
      case first =>
        cases he : (e == 0)
        · go_wp2_with fail
          go_meet
          exact ⟨rfl, rfl⟩
        · rw [he, Bool.true_and] at hcond
          go_wp2_with fail
          go_meet
          exact ⟨by first | rfl | rw [hcond], rfl⟩
      case rest =>
      obtain ⟨rfl, rfl⟩ := hcut
      clear hz hcond cs0
      have f0 : ∀ y : Gb wr B, y.1.cell? ⟨w.heap.size, 0, none⟩ = some (.int .i64 c.base) := fun y => Gb.cell (j := 0) BCr hneC y
      have f1 : ∀ y : Gb wr B, y.1.cell? ⟨w.heap.size, 1, none⟩ = some v := fun y => Gb.cell (j := 1) BCr hneC y
      have g0 : ∀ y : Gb wr B, y.1.cell? ⟨w.heap.size + 1, 0, none⟩ = some (.slice A q.dates.length cp) := fun y => Gb.cell (j := 0) BQr hneQ y
      have g1 : ∀ y : Gb wr B, y.1.cell? ⟨w.heap.size + 1, 1, none⟩ = some (.slice A2 q.parts.length cp2) := fun y => Gb.cell (j := 1) BQr hneQ y
      have g2 : ∀ y : Gb wr B, y.1.cell? ⟨w.heap.size + 1, 2, none⟩ = some (.string q.rate) := fun y => Gb.cell (j := 2) BQr hneQ y
      go_wp2_with fail
      refine wp_region_stages 12 [([0, 1, 5], [2, 3, 4, 6, 7]), ([8, 9, 10, 11], [])] [] (fun w' => ∃ y : Gb wr B, w' = y.1) (by kernel_rfl) (by kernel_rfl) ⟨⟨wr.drew, grown_drew (grown_refl _ _)⟩, rfl⟩ ?_
      simp only [fxS, opsAt, List.filterMap_cons, List.filterMap_nil, List.getElem?_toArray, List.getElem?_cons_succ, List.getElem?_cons_zero]
      show wpQuiet _ _ _ _ [_, _, _] _
      repeat (go_big_quiet_step (fail))
      refine wpQuiet_nil ?_
      have G0 := grown_drew (grown_refl wr (some B))
      have hbr : ∀ X, wr.grownBy X (some B) → Below w.heap.size w X := fun X g => hbG X (hg.trans g)
      refine fxp_enter (f := 26) (args := #[.agg #[.slice A q.dates.length cp, .slice A2 q.parts.length cp2, .string q.rate]]) (w' := wr.drew) rfl (by simp [go_sem]) ?_
      refine (last_any ⟨_, _, _⟩ q wr.drew (hq.below (hbr _ G0)) hd0).mono ?_
      rintro e1 X1 ⟨rfl, y1⟩
      have G1 := G0.trans (grown_of_below y1 (some B))
      refine ⟨_, rfl, ⟨⟨X1, G1⟩, rfl⟩, ?_⟩
      have s1 : SB X1 B e := (show SB wr.drew B e from HSr.out).below y1
      refine fxp_enter (f := 32) (args := #[.pointer (some ⟨B, 0, none⟩), .agg #[.int .i64 c.base, v], .int .i64 q.last]) (w' := X1) rfl (by simp [go_sem]) ?_
      refine (factor_any c v q.last e B w X1 hV hSP (hbr _ G1) hwB s1 HC.out (by omega) l3).mono ?_
      rintro e2 X2 ⟨rfl, s2, y2⟩
      have G2 := G1.trans y2
      refine ⟨_, rfl, ⟨⟨X2, G2⟩, rfl⟩, ?_⟩
      have z2 := fac_sz HC.out e q.last
      generalize Z.fac e c q.last = p2 at *
      refine fxp_enter (f := 42) (args := #[.pointer (some ⟨B, 0, none⟩), .string ⟨#[49]⟩, .string p2.1]) (w' := X2) rfl (by simp [go_sem]) ?_
      refine (ssub_any B p2.2 Z.z49 p2.1 X2 s2 (hV.below (hbr _ G2)) (by decide) (by omega)).mono ?_
      rintro e3 X3 ⟨rfl, s3, y3⟩
      have G3 := G2.trans y3
      refine ⟨_, rfl, ⟨⟨X3, G3⟩, rfl⟩, ?_⟩
      have z3 := Z.cOp_sz Z.sz_sub p2.2 Z.z49 p2.1
      generalize Z.cOp Z.subP p2.2 Z.z49 p2.1 = p3 at *
      refine fxp_enter (f := 38) (args := #[.pointer (some ⟨B, 0, none⟩), .string p3.1, .string t]) (w' := X3) rfl (by simp [go_sem]) ?_
      refine (sdiv_any B p3.2 p3.1 t X3 s3 (hV.below (hbr _ G3)) (by omega) (by omega)).mono ?_
      rintro e4 X4 ⟨rfl, s4, y4⟩
      have G4 := G3.trans y4
      refine ⟨_, rfl, ⟨⟨X4, G4⟩, rfl⟩, ?_⟩
      generalize Z.cOp Z.divP p3.2 p3.1 t = p4 at *
      refine fxp_enter (f := 31) (args := #[.pointer (some ⟨B, 0, none⟩), .string p4.1]) (w' := X4) rfl (by simp [go_sem]) ?_
      refine (done_any B p4.2 p4.1 X4 s4).mono ?_
      rintro e5 X5 ⟨rfl, y5⟩
      have G5 := G4.trans (grown_of_below y5 (some B))
      refine ⟨_, rfl, ⟨⟨X5, G5⟩, rfl⟩, ?_⟩
      have HR3 : Hid (R = Z.done p4) := HR1
      clear f0 f1 g0 g1 g2 HR1
      generalize Z.done (p4.1, p4.2) = p5 at *
      refine fxp_nil ?_
      show wpQuiet _ _ _ _ [_, _, _, _] _
      simp only [Act.put, List.setIfInBounds_toArray, List.set_cons_succ, List.set_cons_zero]
      repeat (go_big_quiet_step (fail))
      refine wpQuiet_nil ?_
      refine fxp_nil (fxl_nil ?_)
      have hbf := hbr _ G5
      go_wp2_with fail
      go_ret2
      exact rret HR3.out hbf
end Go.Proofs.Ytpnojgaehafjdaa
