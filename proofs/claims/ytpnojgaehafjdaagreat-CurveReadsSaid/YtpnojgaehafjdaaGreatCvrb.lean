/- Walks: Factor and Between of the reference of curves. -/
import Derived.Test.YtpnojgaehafjdaaGreatCvra
namespace Go.Proofs.YtpnojgaehafjdaaGreat
open Go.RowKit
set_option maxRecDepth 100000 in
set_option maxHeartbeats 4000000 in
theorem rfactor_any (c : Z.Cu) (v : Value) (day : Int) (w : World) (hSP : SP w v c.pts) (hc : CSm c) :
    Calls Tryz.prog 7 #[.agg #[.int .i64 c.base, v], .int .i64 day] w (RRet (Z.factorR c day) w) := by
  have HR : Hid (Z.factorR c day = if Z.cuE c = 0 then (if c.has day = true then Z.done (Z.fac 0 c day) else (⟨#[]⟩, 6)) else (⟨#[]⟩, Z.cuE c)) := Lib.hid rfl
  generalize Z.factorR c day = R at *
  have hb0 := (Below.refl _ w).alloc (Nat.le_refl w.heap.size) (.cells #[.int .i64 c.base, v] 24)
  have BC := Blk.new w 24 #[.int .i64 c.base, v]
  have c0 := BC.cell 0
  have c1 := BC.cell 1
  have H1 := Lib.hid (rcucheck_any c v _ (hSP.below hb0) hc)
  go_enter Tryz.func7, Tryz.ntmps7
  go_wp2_with fail
  generalize (w.alloc (.cells #[.int .i64 c.base, v] 24)) = W0 at *
  refine H1.out.mono ?_
  rintro e W1 ⟨rfl, hb1⟩
  have hbw := hb0.trans (hb1.mono hb0.size)
  by_cases h1 : Z.cuE c = 0
  case neg =>
    rw [if_neg h1] at HR
    have h1b := ne_bne h1
    have h1c := ne_beq0 h1
    go_wp2_with fail
    go_ret2
    exact rret HR.out hbw
  rw [if_pos h1] at HR
  have BC1 := BC.below hb1
  have c0 := BC1.cell 0
  have c1 := BC1.cell 1
  have H2 := Lib.hid (rhas_any c v day W1 (hSP.below hbw))
  rw [h1]
  have HC := Lib.hid h1
  clear H1 hb0 hb1 BC h1
  go_wp2_with fail
  refine H2.out.mono ?_
  rintro e W2 ⟨rfl, hb3⟩
  have hbw2 := hbw.trans (hb3.mono hbw.size)
  have BC2 := BC1.below hb3
  have c0 := BC2.cell 0
  have c1 := BC2.cell 1
  clear H2 hb3 BC1 hbw
  cases hh : c.has day
  · rw [hh] at HR
    have HR6 : Hid (R = (⟨#[]⟩, 6)) := HR
    go_wp2_with fail
    go_ret2
    exact rret HR6.out hbw2
  rw [hh] at HR
  have HR0 : Hid (R = Z.done (Z.fac 0 c day)) := HR
  obtain ⟨d1, d2⟩ := has_ok HC.out hh
  have hb4 := hbw2.alloc hbw2.size (.cells #[.int .i64 0] 59)
  have bs : RB (W2.alloc (.cells #[.int .i64 0] 59)) W2.heap.size 0 := Blk.new W2 _ _
  have BC3 := BC2.alloc (.cells #[.int .i64 0] 59)
  have c0 := BC3.cell 0
  have c1 := BC3.cell 1
  have H3 := Lib.hid (rat_any c v day 0 W2.heap.size w (W2.alloc (.cells #[.int .i64 0] 59)) hSP hb4 bs HC.out d1 d2)
  clear HR hh BC2 bs d1 d2
  go_wp2_with fail
  refine H3.out.mono ?_
  rintro e W3 ⟨rfl, s3, g3⟩
  have hb5 := hb4.grown g3 hb4.size (fun k hk => by injection hk with hk; have := hbw2.size; omega)
  have H4 := Lib.hid (ended_any W2.heap.size _ (Z.fac 0 c day).1 W3 s3)
  go_wp2_with fail
  refine H4.out.mono ?_
  rintro e W4 ⟨rfl, hb6⟩
  have hb7 := hb5.trans (hb6.mono hb5.size)
  go_wp2_with fail
  go_ret2
  exact rret HR0.out hb7
set_option maxRecDepth 100000 in
set_option maxHeartbeats 4000000 in
theorem rbetween_any (c : Z.Cu) (v : Value) (x y : Int) (w : World) (hSP : SP w v c.pts) (hc : CSm c) :
    Calls Tryz.prog 9 #[.agg #[.int .i64 c.base, v], .int .i64 x, .int .i64 y] w (RRet (Z.betweenR c x y) w) := by
  have HR : Hid (Z.betweenR c x y = if Z.cuE c = 0 then (if y < x then (⟨#[]⟩, 2) else if c.has x = true ∧ c.has y = true then Z.done (Z.cOp Z.divP (Z.fac (Z.fac 0 c y).2 c x).2 (Z.fac 0 c y).1 (Z.fac (Z.fac 0 c y).2 c x).1) else (⟨#[]⟩, 6)) else (⟨#[]⟩, Z.cuE c)) := Lib.hid rfl
  generalize Z.betweenR c x y = R at *
  have hb0 := (Below.refl _ w).alloc (Nat.le_refl w.heap.size) (.cells #[.int .i64 c.base, v] 24)
  have BC := Blk.new w 24 #[.int .i64 c.base, v]
  have c0 := BC.cell 0
  have c1 := BC.cell 1
  have H1 := Lib.hid (rcucheck_any c v _ (hSP.below hb0) hc)
  go_enter Tryz.func9, Tryz.ntmps9
  go_wp2_with fail
  generalize (w.alloc (.cells #[.int .i64 c.base, v] 24)) = W0 at *
  refine H1.out.mono ?_
  rintro e W1 ⟨rfl, hb1⟩
  have hbw := hb0.trans (hb1.mono hb0.size)
  by_cases h1 : Z.cuE c = 0
  case neg =>
    rw [if_neg h1] at HR
    have h1b := ne_bne h1
    have h1c := ne_beq0 h1
    go_wp2_with fail
    go_ret2
    exact rret HR.out hbw
  rw [if_pos h1] at HR
  by_cases h2 : y < x
  · rw [if_pos h2] at HR
    rw [h1]
    go_wp2_with fail
    go_ret2
    exact rret HR.out hbw
  rw [if_neg h2] at HR
  have BC1 := BC.below hb1
  have c0 := BC1.cell 0
  have c1 := BC1.cell 1
  have H2 := Lib.hid (rhas_any c v x W1 (hSP.below hbw))
  rw [h1]
  have HC := Lib.hid h1
  clear H1 hb0 hb1 BC h1
  go_wp2_with fail
  refine H2.out.mono ?_
  rintro e W2 ⟨rfl, hb3⟩
  have hbw2 := hbw.trans (hb3.mono hbw.size)
  have BC2 := BC1.below hb3
  have c0 := BC2.cell 0
  have c1 := BC2.cell 1
  clear H2 hb3 BC1 hbw
  cases hx : c.has x
  · rw [hx, if_neg (by simp)] at HR
    go_wp2_with fail
    go_ret2
    exact rret HR.out hbw2
  have H2 := Lib.hid (rhas_any c v y W2 (hSP.below hbw2))
  go_wp2_with fail
  refine H2.out.mono ?_
  rintro e W3 ⟨rfl, hb3⟩
  have hbw3 := hbw2.trans (hb3.mono hbw2.size)
  have BC3 := BC2.below hb3
  have c0 := BC3.cell 0
  have c1 := BC3.cell 1
  clear H2 hb3 BC2 hbw2
  cases hy : c.has y
  · rw [hy, if_neg (by simp)] at HR
    go_wp2_with fail
    go_ret2
    exact rret HR.out hbw3
  rw [if_pos ⟨hx, hy⟩] at HR
  obtain ⟨d1, d2⟩ := has_ok HC.out hx
  obtain ⟨d3, d4⟩ := has_ok HC.out hy
  have hb4 := hbw3.alloc hbw3.size (.cells #[.int .i64 0] 59)
  have bs : RB (W3.alloc (.cells #[.int .i64 0] 59)) W3.heap.size 0 := Blk.new W3 _ _
  have hne : w.heap.size ≠ W3.heap.size := Nat.ne_of_lt BC3.lt
  have BC4 := BC3.alloc (.cells #[.int .i64 0] 59)
  have c0 := BC4.cell 0
  have c1 := BC4.cell 1
  have hwB := hbw3.size
  have H3 := Lib.hid (rat_any c v y 0 W3.heap.size w (W3.alloc (.cells #[.int .i64 0] 59)) hSP hb4 bs HC.out d3 d4)
  clear hx hy BC3 bs
  go_wp2_with fail
  refine H3.out.mono ?_
  rintro e X1 ⟨rfl, s1, g1⟩
  have hb5 := hb4.grown g1 hb4.size (fun k hk => by injection hk with hk; omega)
  have BC5 := BC4.kept g1 (fun e => hne (by injection e))
  have c0 := BC5.cell 0
  have c1 := BC5.cell 1
  have z1 := fac_sz HC.out 0 y
  generalize Z.fac 0 c y = p1 at *
  have H4 := Lib.hid (rat_any c v x p1.2 W3.heap.size w X1 hSP hb5 s1 HC.out d1 d2)
  go_wp2_with fail
  refine H4.out.mono ?_
  rintro e X2 ⟨rfl, s2, g2⟩
  have hb6 := hb5.grown g2 hb5.size (fun k hk => by injection hk with hk; omega)
  have z2 := fac_sz HC.out p1.2 x
  generalize Z.fac p1.2 c x = p2 at *
  have H5 := Lib.hid (rcdiv_any W3.heap.size p2.2 p1.1 p2.1 X2 s2 (by omega) (by omega))
  go_wp2_with fail
  refine H5.out.mono ?_
  rintro e X3 ⟨rfl, s3, g3⟩
  have hb7 := hb6.grown g3 hb6.size (fun k hk => by injection hk with hk; omega)
  have HR3 : Hid (R = Z.done (Z.cOp Z.divP p2.2 p1.1 p2.1)) := HR
  generalize Z.cOp Z.divP p2.2 p1.1 p2.1 = p3 at *
  have H6 := Lib.hid (ended_any W3.heap.size p3.2 p3.1 X3 s3)
  go_wp2_with fail
  refine H6.out.mono ?_
  rintro e X4 ⟨rfl, hb8⟩
  have hb9 := hb7.trans (hb8.mono hb7.size)
  go_wp2_with fail
  go_ret2
  exact rret HR3.out hb9
end Go.Proofs.YtpnojgaehafjdaaGreat
