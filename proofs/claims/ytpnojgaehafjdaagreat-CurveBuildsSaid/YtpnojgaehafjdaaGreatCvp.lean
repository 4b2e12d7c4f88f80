/- Walks: curve.both, Factor, Between, Price, Par. -/
import Derived.Test.YtpnojgaehafjdaaGreatCvf
import Derived.Test.YtpnojgaehafjdaaGreatFls
import Derived.Test.YtpnojgaehafjdaaGreatZcurd
namespace Go.Proofs.YtpnojgaehafjdaaGreat
open Go.RowKit
/-- The worlds that have grown from W, but for the box B. -/
def Gb (W : World) (B : Nat) : Type := {w' : World // W.grownBy w' (some B)}
theorem grown_refl (W : World) (row : Option Nat) : W.grownBy W row := grown_of_below (Below.refl _ W) row
instance (W : World) (B : Nat) : Nonempty (Gb W B) := ⟨⟨W, grown_refl W _⟩⟩
theorem Gb.cell {W : World} {B b j : Nat} {t : TypeId} {cs : Array Value} (h : Blk W b t cs) (hne : b ≠ B) (y : Gb W B) : y.1.cell? ⟨b, j, none⟩ = cs[j]? := (h.kept y.2 (fun e => hne (by injection e))).cell j
theorem sd_one (W : World) (d : Int) : SD (W.alloc (.cells #[.int .i64 d] 3)) (.slice (some ⟨W.heap.size, 0, none⟩) 1 1) [d] :=
  ⟨_, 1, rfl, Nat.le_refl _, by unfold maxLen; omega, fun _ => ⟨W.heap.size, 0, rfl, by simp, fun i x hx j y hy => by
    have hi : i = 0 := by have := (List.getElem?_eq_some_iff.1 hx).1; simpa using this
    subst hi
    have hj : j = 0 := by have := (List.getElem?_eq_some_iff.1 hy).1; simpa [dE] using this
    subst hj
    simp only [List.getElem?_cons_zero, Option.some.injEq] at hx
    subst hx
    simp only [dE, List.getElem?_cons_zero, Option.some.injEq] at hy
    subst hy
    exact (Blk.new W 3 #[.int .i64 d]).cell 0⟩⟩
theorem sd_two (W : World) (d f : Int) : SD (W.alloc (.cells #[.int .i64 d, .int .i64 f] 3)) (.slice (some ⟨W.heap.size, 0, none⟩) 2 2) [d, f] :=
  ⟨_, 2, rfl, Nat.le_refl _, by unfold maxLen; omega, fun _ => ⟨W.heap.size, 0, rfl, by simp, fun i x hx j y hy => by
    have hi : i < 2 := by have := (List.getElem?_eq_some_iff.1 hx).1; simpa using this
    have hj : j = 0 := by have := (List.getElem?_eq_some_iff.1 hy).1; simpa [dE] using this
    subst hj
    simp only [dE, List.getElem?_cons_zero, Option.some.injEq] at hy
    subst hy
    have hB := Blk.new W 3 #[.int .i64 d, .int .i64 f]
    rcases (by omega : i = 0 ∨ i = 1) with rfl | rfl
    · simp only [List.getElem?_cons_zero, Option.some.injEq] at hx
      subst hx
      exact hB.cell 0
    · simp only [List.getElem?_cons_succ, List.getElem?_cons_zero, Option.some.injEq] at hx
      subst hx
      exact hB.cell 1⟩⟩
/-- Sizes that the calls within can take. -/
def CSm (c : Z.Cu) : Prop := ∀ p ∈ c.pts, p.f.size ≤ 100000
def QSm (q : Z.Qt) : Prop := q.rate.size ≤ 100000 ∧ ∀ p ∈ q.parts, p.size ≤ 100000
theorem cqE_1 {c : Z.Cu} {q : Z.Qt} (h : Z.cuE c ≠ 0) : Z.cqE c q = Z.cuE c := if_neg h
theorem cqE_2 {c : Z.Cu} {q : Z.Qt} (h : Z.cuE c = 0) (h2 : Z.qtE q c.base ≠ 0) : Z.cqE c q = Z.qtE q c.base := by unfold Z.cqE; rw [if_pos h, if_neg h2]
theorem cqE_3 {c : Z.Cu} {q : Z.Qt} (h : Z.cuE c = 0) (h2 : Z.qtE q c.base = 0) : Z.cqE c q = if c.has q.last = true then 0 else 6 := by unfold Z.cqE; rw [if_pos h, if_pos h2]
def RRet (p : ByteArray × Int) (w : World) (e : Ending) (w' : World) : Prop := e = .returned (.tuple #[.string p.1, .int .i64 p.2]) ∧ Below w.heap.size w w'
theorem rret {p : ByteArray × Int} {s : ByteArray} {k : Int} {w w' : World} (h : p = (s, k)) (hb : Below w.heap.size w w') : RRet p w (.returned (.tuple #[.string s, .int .i64 k])) w' := by subst h; exact ⟨rfl, hb⟩
theorem has_ok {c : Z.Cu} {d : Int} (hc : Z.cuE c = 0) (h : c.has d = true) : c.base ≤ d ∧ d ≤ 99999 := by
  obtain ⟨_, hb, hp⟩ := Z.cuE_ok hc
  unfold Z.Cu.has at h
  rw [Bool.and_eq_true, decide_eq_true_iff, decide_eq_true_iff] at h
  exact ⟨h.1, Int.le_trans h.2 (Z.endK_le c.pts c.base Z.z49 hp (by omega))⟩
theorem csm_of {c : Z.Cu} (hc : Z.cuE c = 0) : CSm c := fun p hp => by have := (Z.pts_ok _ _ (Z.cuE_ok hc).2.2 p hp).2; omega
set_option maxRecDepth 100000 in
set_option maxHeartbeats 4000000 in
theorem factorF_any (c : Z.Cu) (v : Value) (day : Int) (w : World) (hSP : SP w v c.pts) (hV : HasV w) (hc : CSm c) :
    Calls Tryz.prog 6 #[.agg #[.int .i64 c.base, v], .int .i64 day] w (RRet (Z.factorR c day) w) := by
  have HR : Hid (Z.factorR c day = if Z.cuE c = 0 then (if c.has day = true then Z.done (Z.fac 0 c day) else (⟨#[]⟩, 6)) else (⟨#[]⟩, Z.cuE c)) := Lib.hid rfl
  generalize Z.factorR c day = R at *
  have hb0 := (Below.refl _ w).alloc (Nat.le_refl w.heap.size) (.cells #[.int .i64 c.base, v] 24)
  have BC := Blk.new w 24 #[.int .i64 c.base, v]
  have c0 := BC.cell 0
  have c1 := BC.cell 1
  have H1 := Lib.hid (cucheck_any c v _ (hSP.below hb0) (hV.below hb0) hc)
  go_enter Tryz.func6, Tryz.ntmps6
  go_wp2_with fail
  generalize (w.alloc (.cells #[.int .i64 c.base, v] 24)) = W0 at *
  refine H1.out.mono ?_
  rintro e W1 ⟨rfl, hb1⟩
  have hbw := hb0.trans (hb1.mono hb0.size)
  by_cases h1 : Z.cuE c = 0
  case neg =>
    rw [if_neg h1] at HR
    have h1b := ne_bne h1
    go_wp2_with fail
    go_ret2
    exact rret HR.out hbw
  rw [if_pos h1] at HR
  have BC1 := BC.below hb1
  have c0 := BC1.cell 0
  have c1 := BC1.cell 1
  have hb2 := hbw.alloc hbw.size (.cells #[.int .i64 day] 3)
  have H2 := Lib.hid (covers_any c v (.slice (some ⟨W1.heap.size, 0, none⟩) 1 1) [day] (W1.alloc (.cells #[.int .i64 day] 3)) (hSP.below hb2) (sd_one W1 day))
  rw [h1]
  have HC := Lib.hid h1
  clear H1 hb0 hb1 BC h1
  go_wp2_with fail
  refine H2.out.mono ?_
  rintro e W2 ⟨rfl, hb3⟩
  have hbw2 := hb2.trans (hb3.mono hb2.size)
  have BC2 := (BC1.alloc (.cells #[.int .i64 day] 3)).below hb3
  rw [show [day].all c.has = c.has day by simp]
  clear H2 hb2 hb3 c0 c1 BC1 hbw
  cases hh : c.has day
  · rw [hh] at HR
    have HR6 : Hid (R = (⟨#[]⟩, 6)) := HR
    go_wp2_with fail
    go_ret2
    exact rret HR6.out hbw2
  rw [hh] at HR
  have HR0 : Hid (R = Z.done (Z.fac 0 c day)) := HR
  obtain ⟨d1, d2⟩ := has_ok HC.out hh
  have hb4 := hbw2.alloc hbw2.size (.cells #[.int .i64 0] 53)
  have bs : SB (W2.alloc (.cells #[.int .i64 0] 53)) W2.heap.size 0 := Blk.new W2 _ _
  have BC3 := BC2.alloc (.cells #[.int .i64 0] 53)
  have c0 := BC3.cell 0
  have c1 := BC3.cell 1
  have H3 := Lib.hid (factor_any c v day 0 W2.heap.size w (W2.alloc (.cells #[.int .i64 0] 53)) hV hSP hb4 hbw2.size bs HC.out d1 d2)
  clear HR hh BC2 bs d1 d2
  go_wp2_with fail
  refine H3.out.mono ?_
  rintro e W3 ⟨rfl, s3, g3⟩
  have hb5 := hb4.grown g3 hb4.size (fun k hk => by injection hk with hk; have := hbw2.size; omega)
  have H4 := Lib.hid (done_any W2.heap.size _ (Z.fac 0 c day).1 W3 s3)
  go_wp2_with fail
  refine H4.out.mono ?_
  rintro e W4 ⟨rfl, hb6⟩
  have hb7 := hb5.trans (hb6.mono hb5.size)
  go_wp2_with fail
  go_ret2
  exact rret HR0.out hb7
set_option maxRecDepth 100000 in
set_option maxHeartbeats 4000000 in
theorem between_any (c : Z.Cu) (v : Value) (x y : Int) (w : World) (hSP : SP w v c.pts) (hV : HasV w) (hc : CSm c) :
    Calls Tryz.prog 8 #[.agg #[.int .i64 c.base, v], .int .i64 x, .int .i64 y] w (RRet (Z.betweenR c x y) w) := by
  have HR : Hid (Z.betweenR c x y = if Z.cuE c = 0 then (if y < x then (⟨#[]⟩, 2) else if c.has x = true ∧ c.has y = true then Z.done (Z.cOp Z.divP (Z.fac (Z.fac 0 c y).2 c x).2 (Z.fac 0 c y).1 (Z.fac (Z.fac 0 c y).2 c x).1) else (⟨#[]⟩, 6)) else (⟨#[]⟩, Z.cuE c)) := Lib.hid rfl
  generalize Z.betweenR c x y = R at *
  have hb0 := (Below.refl _ w).alloc (Nat.le_refl w.heap.size) (.cells #[.int .i64 c.base, v] 24)
  have BC := Blk.new w 24 #[.int .i64 c.base, v]
  have c0 := BC.cell 0
  have c1 := BC.cell 1
  have H1 := Lib.hid (cucheck_any c v _ (hSP.below hb0) (hV.below hb0) hc)
  go_enter Tryz.func8, Tryz.ntmps8
  go_wp2_with fail
  generalize (w.alloc (.cells #[.int .i64 c.base, v] 24)) = W0 at *
  refine H1.out.mono ?_
  rintro e W1 ⟨rfl, hb1⟩
  have hbw := hb0.trans (hb1.mono hb0.size)
  by_cases h1 : Z.cuE c = 0
  case neg =>
    rw [if_neg h1] at HR
    have h1b := ne_bne h1
    go_wp2_with fail
    go_ret2
    exact rret HR.out hbw
  rw [if_pos h1] at HR
  by_cases h2 : y < x
  · rw [if_pos h2] at HR
    rw [h1]
    go_wp2_with fail
    go_ret2
    exact rret HR.out hbw
  rw [if_neg h2] at HR
  have BC1 := BC.below hb1
  have c0 := BC1.cell 0
  have c1 := BC1.cell 1
  have hb2 := hbw.alloc hbw.size (.cells #[.int .i64 x, .int .i64 y] 3)
  have H2 := Lib.hid (covers_any c v (.slice (some ⟨W1.heap.size, 0, none⟩) 2 2) [x, y] (W1.alloc (.cells #[.int .i64 x, .int .i64 y] 3)) (hSP.below hb2) (sd_two W1 x y))
  rw [h1]
  have HC := Lib.hid h1
  clear H1 hb0 hb1 BC h1
  go_wp2_with fail
  refine H2.out.mono ?_
  rintro e W2 ⟨rfl, hb3⟩
  have hbw2 := hb2.trans (hb3.mono hb2.size)
  have BC2 := (BC1.alloc (.cells #[.int .i64 x, .int .i64 y] 3)).below hb3
  rw [show [x, y].all c.has = (c.has x && c.has y) by simp]
  clear H2 hb2 hb3 c0 c1 BC1 hbw
  by_cases hh : c.has x = true ∧ c.has y = true
  case neg =>
    rw [if_neg hh] at HR
    have hf : (c.has x && c.has y) = false := by
      cases hx : c.has x
      · rfl
      · cases hy : c.has y
        · rfl
        · exact absurd ⟨hx, hy⟩ hh
    rw [hf]
    clear hh hf
    go_wp2_with fail
    go_ret2
    exact rret HR.out hbw2
  rw [if_pos hh] at HR
  rw [hh.1, hh.2]
  obtain ⟨d1, d2⟩ := has_ok HC.out hh.1
  obtain ⟨d3, d4⟩ := has_ok HC.out hh.2
  have hb4 := hbw2.alloc hbw2.size (.cells #[.int .i64 0] 53)
  have bs : SB (W2.alloc (.cells #[.int .i64 0] 53)) W2.heap.size 0 := Blk.new W2 _ _
  have hne : w.heap.size ≠ W2.heap.size := Nat.ne_of_lt BC2.lt
  have BC3 := BC2.alloc (.cells #[.int .i64 0] 53)
  have hwB := hbw2.size
  clear hh BC2
  go_wp2_with fail
  generalize (W2.alloc (.cells #[.int .i64 0] 53)) = W3 at *
  generalize W2.heap.size = B at *
  have f0 : ∀ y : Gb W3 B, y.1.cell? ⟨w.heap.size, 0, none⟩ = some (.int .i64 c.base) := fun y => Gb.cell (j := 0) BC3 hne y
  have f1 : ∀ y : Gb W3 B, y.1.cell? ⟨w.heap.size, 1, none⟩ = some v := fun y => Gb.cell (j := 1) BC3 hne y
  have zf := fac_sz HC.out 0 y
  have zg := fac_sz HC.out (Z.fac 0 c y).2 x
  refine wp_region_stages 12 [([0, 1, 3, 4], [2, 5, 6, 7]), ([8, 9, 10, 11], [])] [] (fun w' => ∃ y : Gb W3 B, w' = y.1) (by kernel_rfl) (by kernel_rfl) ⟨⟨W3.drew, grown_drew (grown_refl _ _)⟩, rfl⟩ ?_
  simp only [fxS, opsAt, List.filterMap_cons, List.filterMap_nil, List.getElem?_toArray, List.getElem?_cons_succ, List.getElem?_cons_zero]
  show wpQuiet _ _ _ _ [_, _, _, _] _
  repeat (go_big_quiet_step (fail))
  refine wpQuiet_nil ?_
  have G0 := grown_drew (grown_refl W3 (some B))
  have hbG : ∀ X, W3.grownBy X (some B) → Below w.heap.size w X := fun X g => hb4.grown g hb4.size (fun k hk => by injection hk with hk; omega)
  refine fxp_enter (f := 18) (args := #[.pointer (some ⟨B, 0, none⟩), .agg #[.int .i64 c.base, v], .int .i64 y]) (w' := W3.drew) rfl (by simp [go_sem]) ?_
  refine (factor_any c v y 0 B w W3.drew hV hSP (hbG _ G0) hwB bs HC.out d3 d4).mono ?_
  rintro e X1 ⟨rfl, s1, g1⟩
  have G1 := G0.trans g1
  refine ⟨_, rfl, ⟨⟨X1, G1⟩, rfl⟩, ?_⟩
  generalize Z.fac 0 c y = p1 at *
  refine fxp_enter (f := 18) (args := #[.pointer (some ⟨B, 0, none⟩), .agg #[.int .i64 c.base, v], .int .i64 x]) (w' := X1) rfl (by simp [go_sem]) ?_
  refine (factor_any c v x p1.2 B w X1 hV hSP (hbG _ G1) hwB s1 HC.out d1 d2).mono ?_
  rintro e X2 ⟨rfl, s2, g2⟩
  have G2 := G1.trans g2
  refine ⟨_, rfl, ⟨⟨X2, G2⟩, rfl⟩, ?_⟩
  generalize Z.fac p1.2 c x = p2 at *
  refine fxp_enter (f := 22) (args := #[.pointer (some ⟨B, 0, none⟩), .string p1.1, .string p2.1]) (w' := X2) rfl (by simp [go_sem]) ?_
  refine (sdiv_any B p2.2 p1.1 p2.1 X2 s2 (hV.below (hbG _ G2)) (by omega) (by omega)).mono ?_
  rintro e X3 ⟨rfl, s3, g3⟩
  have G3 := G2.trans g3
  refine ⟨_, rfl, ⟨⟨X3, G3⟩, rfl⟩, ?_⟩
  generalize Z.cOp Z.divP p2.2 p1.1 p2.1 = p3 at *
  refine fxp_enter (f := 17) (args := #[.pointer (some ⟨B, 0, none⟩), .string p3.1]) (w' := X3) rfl (by simp [go_sem]) ?_
  refine (done_any B p3.2 p3.1 X3 s3).mono ?_
  rintro e X4 ⟨rfl, hb9⟩
  have G4 := G3.trans (grown_of_below hb9 (some B))
  refine ⟨_, rfl, ⟨⟨X4, G4⟩, rfl⟩, ?_⟩
  have HR3 : Hid (R = Z.done p3) := HR
  clear f0 f1 HR
  generalize Z.done (p3.1, p3.2) = p4 at *
  refine fxp_nil ?_
  show wpQuiet _ _ _ _ [_, _, _, _] _
  simp only [Act.put, List.setIfInBounds_toArray, List.set_cons_succ, List.set_cons_zero]
  repeat (go_big_quiet_step (fail))
  refine wpQuiet_nil ?_
  refine fxp_nil (fxl_nil ?_)
  have hbf := hbG _ G4
  go_wp2_with fail
  go_ret2
  exact rret HR3.out hbf

theorem legs_drop {q : Z.Qt} {k : Nat} {d : Int} {p : ByteArray} (h1 : q.dates[k]? = some d) (h2 : q.parts[k]? = some p) : q.legs.drop k = (d, p) :: q.legs.drop (k + 1) ∧ (d, p) ∈ q.legs := by
  have h : q.legs[k]? = some (d, p) := List.getElem?_zip_eq_some.2 ⟨h1, h2⟩
  obtain ⟨hlt, he⟩ := List.getElem?_eq_some_iff.1 h
  exact ⟨by rw [List.drop_eq_getElem_cons hlt, he], List.mem_of_getElem? h⟩
theorem legs_end {q : Z.Qt} (h : q.parts.length = q.dates.length) : q.legs.drop q.dates.length = [] := by
  apply List.drop_eq_nil_of_le
  unfold Z.Qt.legs
  rw [List.length_zip, h, Nat.min_self]
  exact Nat.le_refl _
theorem chk_sz {s : ByteArray} (h : Z.rchk s = 0) : s.size ≤ 2100 := by
  rw [← (Z.rok h).text]
  exact Z.Q_size (Z.rok h).fit
theorem cqE_ok {c : Z.Cu} {q : Z.Qt} (h : Z.cqE c q = 0) : Z.cuE c = 0 ∧ Z.qtE q c.base = 0 ∧ c.has q.last = true := by
  unfold Z.cqE at h
  split at h
  · rename_i h1
    split at h
    · rename_i h2
      split at h
      · rename_i h3
        exact ⟨h1, h2, h3⟩
      · cases h
    · rename_i h2
      exact absurd h h2
  · rename_i h1
    exact absurd h h1
end Go.Proofs.YtpnojgaehafjdaaGreat
