/- Walks: Horizon of a contract. -/
import Derived.Test.YtifafmomkpkgdaaDoorOck
namespace Go.Proofs.YtifafmomkpkgdaaDoor
open Go.RowKit Go.Shelf
attribute [local go_sem] Oper.semAt_some
namespace Z
def horZ {m : Nat} (n : Nat) (c : Co m n) : Int := if coE n c = 0 then (coNodes n c).foldl hStep 0 else 0
end Z
section
variable {m : Nat}
/-- The greatest day of the nodes so far. -/
def hzN {w : World} (pre : List (On (Os (m := m) w))) : Int := pre.foldl (fun a x => Z.hStep a (x.1.r.a, x.1.ns)) 0
theorem hzN_all {w : World} {n : Nat} {c : Z.Co m n} {r : CR m} (hc : CV w n c r) {ys : List (On (Os (m := m) w))} (h : ys.map Subtype.val = enum w n c r) : hzN ys = (Z.coNodes n c).foldl Z.hStep 0 := by
  rw [← enum_map n c r hc, ← h, List.foldl_map, List.foldl_map]
  rfl
theorem hzN_snoc {w : World} (pre : List (On (Os (m := m) w))) (x : On (Os (m := m) w)) : hzN (pre ++ [x]) = Z.hStep (hzN pre) (x.1.r.a, x.1.ns) := by
  unfold hzN
  rw [List.foldl_append]
  rfl
set_option maxRecDepth 100000 in
set_option maxHeartbeats 4000000 in
theorem chor_any (n : Nat) (c : Z.Co m (n + 1)) (r : CR m) (w : World) (hc : CV w (n + 1) c r) (hL : Lay w) (hV : HasV w) (hs : Z.CSm (n + 1) c) :
    Calls Tryd.prog 18 #[r.ag] w fun e w' => e = .returned (.tuple #[.int .i64 (Z.horZ (n + 1) c), .int .i64 (Z.coE (n + 1) c)]) ∧ Below w.heap.size w w' := by
  obtain ⟨a, u, dv, sv⟩ := r
  obtain ⟨Au, ku, cu, rfl⟩ := hc.shape.1
  obtain ⟨Ad, kd, cd, rfl⟩ := hc.shape.2.1
  obtain ⟨As, ks, cs, rfl⟩ := hc.shape.2.2
  have HCK := Lib.hid (fun W (h : Below w.heap.size w W) => ccheck_any n c ⟨a, .slice Au ku cu, .slice Ad kd cd, .slice As ks cs⟩ W (CV.below h _ hc) (hL.below h) (hV.below h) hs)
  unfold CR.ag at HCK ⊢
  simp only at HCK ⊢
  have hWL : Z.horZ (n + 1) c = if Z.coE (n + 1) c = 0 then (Z.coNodes (n + 1) c).foldl Z.hStep 0 else 0 := rfl
  have HWL := Lib.hid hWL
  clear hWL
  generalize Z.horZ (n + 1) c = L at *
  generalize Z.coE (n + 1) c = E at *
  have hB2 := (Below.refl _ w).alloc (Nat.le_refl w.heap.size) (.cells #[.int .u8 a.k, .string a.fr, .string a.tu, .string a.nm, .int .u8 a.ex.top.k, .string a.ex.top.rat, .string a.ex.top.name, .int .i64 a.ex.top.date, .slice Au ku cu, .int .i64 a.date, .slice Ad kd cd, .slice As ks cs] 29)
  have bx := Blk.new w 29 #[.int .u8 a.k, .string a.fr, .string a.tu, .string a.nm, .int .u8 a.ex.top.k, .string a.ex.top.rat, .string a.ex.top.name, .int .i64 a.ex.top.date, .slice Au ku cu, .int .i64 a.date, .slice Ad kd cd, .slice As ks cs]
  refine (callsIn_wide (n := 6)).1 ?_
  refine callsIn_of_wp_marks Tryd.func18 rfl trivial ?_ rfl
  simp only [Tryd.ntmps18, List.size_toArray, List.length_cons, List.length_nil, Nat.reduceAdd, Nat.reduceSub, Array.replicate_succ, Array.replicate_zero, List.push_toArray, List.append_toArray, List.nil_append, List.cons_append]
  have d0 := bx.cell 0
  have d1 := bx.cell 1
  have d2 := bx.cell 2
  have d3 := bx.cell 3
  have d4 := bx.cell 4
  have d5 := bx.cell 5
  have d6 := bx.cell 6
  have d7 := bx.cell 7
  have d8 := bx.cell 8
  have d9 := bx.cell 9
  have d10 := bx.cell 10
  have d11 := bx.cell 11
  gi_wp2_with fail
  refine ⟨trivial, (callsIn_wide.2 (HCK.out _ hB2)).mono ?_⟩
  rintro e W3 ⟨rfl, hb3⟩
  have bx3 := bx.below hb3
  have hB3 := hB2.trans (hb3.mono hB2.size)
  clear d0 d1 d2 d3 d4 d5 d6 d7 d8 d9 d10 d11 bx hb3 hB2 HCK
  by_cases hE : E = 0
  rotate_left
  · have HR : Hid (L = 0) := Lib.hid (HWL.out.trans (if_neg hE))
    have hE' : (E == 0) = false := by rw [beq_eq_false_iff_ne]; exact hE
    clear hE HWL
    gi_wp2_with fail
    exact ⟨.tuple #[.int .i64 0, .int .i64 E], by simp [results, Tryd.f18, go_sem], by rw [HR.out], hB3⟩
  subst hE
  have HR : Hid (L = (Z.coNodes (n + 1) c).foldl Z.hStep 0) := Lib.hid (HWL.out.trans (if_pos rfl))
  clear HWL
  have bx4 := bx3.alloc (.cells #[.int .i64 0] 3)
  have d0 := bx4.cell 0
  have d1 := bx4.cell 1
  have d2 := bx4.cell 2
  have d3 := bx4.cell 3
  have d4 := bx4.cell 4
  have d5 := bx4.cell 5
  have d6 := bx4.cell 6
  have d7 := bx4.cell 7
  have d8 := bx4.cell 8
  have d9 := bx4.cell 9
  have d10 := bx4.cell 10
  have d11 := bx4.cell 11
  gi_wp2_with fail
  refine ⟨trivial, (callsIn_wide.2 (nodes_any a _ _ _ _ ⟨_, _, _, rfl⟩ ⟨_, _, _, rfl⟩ ⟨_, _, _, rfl⟩)).mono ?_⟩
  rintro e W0 ⟨rfl, rfl⟩
  have hl3 := bx3.lt
  clear d0 d1 d2 d3 d4 d5 d6 d7 d8 d9 d10 d11 bx3 bx4
  gi_wp2_with fail
  have hB0 : Below w.heap.size w ((W3.alloc (.cells #[.int .i64 0] 3)).alloc (.cells #[.int .u8 a.k, .string a.fr, .string a.tu, .string a.nm, .int .u8 a.ex.top.k, .string a.ex.top.rat, .string a.ex.top.name, .int .i64 a.ex.top.date, .slice Au ku cu, .int .i64 a.date, .slice Ad kd cd, .slice As ks cs] 29)) := (hB3.alloc hB3.size _).alloc (by rw [World.size_alloc]; exact Nat.le_succ_of_le hB3.size) _
  have bl := (Blk.new W3 3 #[.int .i64 0]).alloc (.cells #[.int .u8 a.k, .string a.fr, .string a.tu, .string a.nm, .int .u8 a.ex.top.k, .string a.ex.top.rat, .string a.ex.top.name, .int .i64 a.ex.top.date, .slice Au ku cu, .int .i64 a.date, .slice Ad kd cd, .slice As ks cs] 29)
  have bc : Blk ((W3.alloc (.cells #[.int .i64 0] 3)).alloc (.cells #[.int .u8 a.k, .string a.fr, .string a.tu, .string a.nm, .int .u8 a.ex.top.k, .string a.ex.top.rat, .string a.ex.top.name, .int .i64 a.ex.top.date, .slice Au ku cu, .int .i64 a.date, .slice Ad kd cd, .slice As ks cs] 29)) (W3.heap.size + 1) 29 #[.int .u8 a.k, .string a.fr, .string a.tu, .string a.nm, .int .u8 a.ex.top.k, .string a.ex.top.rat, .string a.ex.top.name, .int .i64 a.ex.top.date, .slice Au ku cu, .int .i64 a.date, .slice Ad kd cd, .slice As ks cs] := by
    have h := Blk.new (W3.alloc (.cells #[.int .i64 0] 3)) 29 #[.int .u8 a.k, .string a.fr, .string a.tu, .string a.nm, .int .u8 a.ex.top.k, .string a.ex.top.rat, .string a.ex.top.name, .int .i64 a.ex.top.date, .slice Au ku cu, .int .i64 a.date, .slice Ad kd cd, .slice As ks cs]
    rwa [World.size_alloc] at h
  generalize ((W3.alloc (.cells #[.int .i64 0] 3)).alloc (.cells #[.int .u8 a.k, .string a.fr, .string a.tu, .string a.nm, .int .u8 a.ex.top.k, .string a.ex.top.rat, .string a.ex.top.name, .int .i64 a.ex.top.date, .slice Au ku cu, .int .i64 a.date, .slice Ad kd cd, .slice As ks cs] 29)) = W0 at *
  have lc := bc.lt
  have hst := nodes_stops (E := fun k => k = W3.heap.size) (n + 1) (6 - 1) w W0 c ⟨a, .slice Au ku cu, .slice Ad kd cd, .slice As ks cs⟩ (W3.heap.size + 1) hc (os_of hc hs) ((AG.refl w).of_below hB0) (fun k hk => by omega) bc
  have HALL := Lib.hid (fun ys h => hzN_all hc (ys := ys) h)
  refine rangeFunc_asg (F := Fence.wide) rfl (by omega) (gf := 67) (lb := #[.pointer (some ⟨W3.heap.size + 1, 0, none⟩)]) rfl trivial (enters_of Tryd.func67 (by kernel_rfl) rfl)
    hst (fun h k => Kq.trans h k) (Kq.put hB0.size) (Below.refl _ _) (fun _ => rfl)
    (fun pre W => Blk W W3.heap.size 3 #[.int .i64 (hzN pre)] ∧ Below w.heap.size w W)
    (OwnFrom.and (Own.from (blk_own W3.heap.size 3 (fun pre : List (On (Os (m := m) w)) => #[.int .i64 (hzN pre)])) _) (ownFrom_below (Nat.le_refl _) hB0.size))
    ⟨bl, hB0⟩
    (fun pre x a' W => ∃ bx s0 s1 s2 s3 s4 s7 s8 s9 s10 s11 s12 s13 s14 s15 s16 s17 s18 s19 s20 s21 s22 s23 s24 s25 s26 s27 s28 s29 s30 s31 s32 s33 s34 s35 s36, a' = { tmps := #[s0, s1, s2, s3, s4, .pointer (some ⟨W3.heap.size, 0, none⟩), .pointer (some ⟨bx, 0, none⟩), s7, s8, s9, s10, s11, s12, s13, s14, s15, s16, s17, s18, s19, s20, s21, s22, s23, s24, s25, s26, s27, s28, s29, s30, s31, s32, s33, s34, s35, s36], defers := [] } ∧ (Blk W bx 29 #[.int .u8 x.1.r.a.k, .string x.1.r.a.fr, .string x.1.r.a.tu, .string x.1.r.a.nm, .int .u8 x.1.r.a.ex.top.k, .string x.1.r.a.ex.top.rat, .string x.1.r.a.ex.top.name, .int .i64 x.1.r.a.ex.top.date, x.1.r.u, .int .i64 x.1.r.a.date, x.1.r.dv, x.1.r.sv] ∧ Blk W W3.heap.size 3 #[.int .i64 (hzN pre)] ∧ Below w.heap.size w W) ∧ bx ≠ W3.heap.size)
    (fun pre x a' s X Y row h hg hr => by
      obtain ⟨bx, s0, s1, s2, s3, s4, s7, s8, s9, s10, s11, s12, s13, s14, s15, s16, s17, s18, s19, s20, s21, s22, s23, s24, s25, s26, s27, s28, s29, s30, s31, s32, s33, s34, s35, s36, h1, h2, h3⟩ := h
      exact ⟨bx, s0, s1, s2, s3, s4, s7, s8, s9, s10, s11, s12, s13, s14, s15, s16, s17, s18, s19, s20, s21, s22, s23, s24, s25, s26, s27, s28, s29, s30, s31, s32, s33, s34, s35, s36, h1, OwnFrom.and (Own.from (blk_own bx 29 (fun _ : Unit => #[.int .u8 x.1.r.a.k, .string x.1.r.a.fr, .string x.1.r.a.tu, .string x.1.r.a.nm, .int .u8 x.1.r.a.ex.top.k, .string x.1.r.a.ex.top.rat, .string x.1.r.a.ex.top.name, .int .i64 x.1.r.a.ex.top.date, x.1.r.u, .int .i64 x.1.r.a.date, x.1.r.dv, x.1.r.sv])) _) (OwnFrom.and (Own.from (blk_own W3.heap.size 3 (fun _ : Unit => #[.int .i64 (hzN pre)])) _) (ownFrom_below (Nat.le_refl _) hB0.size)) () X Y row h2 hg hr, h3⟩) ?assign ?body ?done
  case assign =>
    rintro l pre ⟨⟨⟨t, u', dv', sv'⟩, ns⟩, hok, hsm⟩ W K ⟨v1, hBW⟩ hK
    have hx1 : XV w (m + 1) t.ex (t.ex.top, u') := hok.ex
    have hx2 : SD w dv' t.dates := hok.dates
    obtain ⟨A3, c3, hx3⟩ := hok.sub
    have hx3' : sv' = .slice A3 ns c3 := hx3
    clear hx3
    obtain ⟨Au', ku', cu', rfl⟩ := hx1.shape
    obtain ⟨Ad', cd', rfl, _⟩ := hx2.shape
    subst hx3'
    have hl1 := v1.lt
    gi_wp2_with fail
    exact hK _ _ ((KeepsOthers.alloc _ _).from _) (Kq.of_below hBW.size ((Below.refl _ W).alloc (Nat.le_refl _) _)) ⟨W.heap.size, _, _, _, _, _, _, _, _, _, _, _, _, _, _, _, _, _, _, _, _, _, _, _, _, _, _, _, _, _, _, _, _, _, _, _, rfl, ⟨Blk.new W 29 _, v1.alloc _, hBW.alloc hBW.size _⟩, by omega⟩
  case body =>
    rintro l pre ⟨⟨⟨t, u', dv', sv'⟩, ns⟩, hok, hsm⟩ a' W ⟨bx, s0, s1, s2, s3, s4, s7, s8, s9, s10, s11, s12, s13, s14, s15, s16, s17, s18, s19, s20, s21, s22, s23, s24, s25, s26, s27, s28, s29, s30, s31, s32, s33, s34, s35, s36, rfl, ⟨vx, v1, hBW⟩, hne⟩ hpl
    have hx1 : XV w (m + 1) t.ex (t.ex.top, u') := hok.ex
    have hx2 : SD w dv' t.dates := hok.dates
    obtain ⟨A3, c3, hx3⟩ := hok.sub
    have hx3' : sv' = .slice A3 ns c3 := hx3
    clear hx3
    obtain ⟨Au', ku', cu', rfl⟩ := hx1.shape
    obtain ⟨Ad', cd', rfl, hdl, hdm⟩ := hx2.shape
    subst hx3'
    unfold maxLen at hdm
    have HSN : Hid (hzN (pre ++ [(⟨⟨⟨t, .slice Au' ku' cu', .slice Ad' t.dates.length cd', .slice A3 ns c3⟩, ns⟩, hok, hsm⟩ : On (Os (m := m) w))]) = Z.hStep (hzN pre) (t, ns)) := Lib.hid (hzN_snoc _ _)
    generalize hzN pre = h0 at *
    have HLS := Lib.hid (fun X (h : AG w X) => cxlast_any (m + 1) t.ex t.ex.top _ X (XV.ag h _ hx1))
    have hAW : AG w W := (AG.refl w).of_below hBW
    have HD := Lib.hid hx2
    have hHS : Z.hStep h0 (t, ns) = if 0 < t.dates.length then max (max (max h0 t.date) (Z.exLast (m + 1) t.ex)) (t.dates.getLastD 0) else max (max h0 t.date) (Z.exLast (m + 1) t.ex) := rfl
    have HHS := Lib.hid hHS
    clear hHS
    have hdr := (Below.refl W.heap.size W).drew
    have x4 : ∀ q : Ab W.drew, q.1.cell? ⟨bx, 4, none⟩ = some (.int .u8 t.ex.top.k) := fun q => ((vx.below hdr).below q.2).cell 4
    have x5 : ∀ q : Ab W.drew, q.1.cell? ⟨bx, 5, none⟩ = some (.string t.ex.top.rat) := fun q => ((vx.below hdr).below q.2).cell 5
    have x6 : ∀ q : Ab W.drew, q.1.cell? ⟨bx, 6, none⟩ = some (.string t.ex.top.name) := fun q => ((vx.below hdr).below q.2).cell 6
    have x7 : ∀ q : Ab W.drew, q.1.cell? ⟨bx, 7, none⟩ = some (.int .i64 t.ex.top.date) := fun q => ((vx.below hdr).below q.2).cell 7
    have x8 : ∀ q : Ab W.drew, q.1.cell? ⟨bx, 8, none⟩ = some (.slice Au' ku' cu') := fun q => ((vx.below hdr).below q.2).cell 8
    have x9 : ∀ q : Ab W.drew, q.1.cell? ⟨bx, 9, none⟩ = some (.int .i64 t.date) := fun q => ((vx.below hdr).below q.2).cell 9
    have xn : ∀ q : Ab W.drew, q.1.cell? ⟨W3.heap.size, 0, none⟩ = some (.int .i64 h0) := fun q => ((v1.below hdr).below q.2).cell 0
    gi_wp2_with fail
    refine wpIn_region_fx 7 (fun w' => ∃ y : Ab W.drew, w' = y.1) (by kernel_rfl) (by kernel_rfl) ?_
    show fxAny _ _ _ _ 7 _ 8 _ _ _
    refine fx_reads (n := 3) [0, 1, 2, 3, 4] rfl (by kernel_rfl) ⟨⟨W.drew, Below.refl _ _⟩, rfl⟩ ?_
    simp only [opsAt, List.filterMap_cons, List.filterMap_nil, List.getElem?_toArray, List.getElem?_cons_succ, List.getElem?_cons_zero]
    show wpQuiet _ _ _ _ [_, _, _, _, _] _
    repeat (go_big_quiet_step (fail))
    refine wpQuiet_nil ?_
    refine fx_one (k := 5) (by kernel_rfl) ?_
    simp only [opsAt, List.filterMap_cons, List.filterMap_nil, List.getElem?_toArray, List.getElem?_cons_succ, List.getElem?_cons_zero]
    refine fxp_enter (f := 49) (args := #[.agg #[.int .u8 t.ex.top.k, .string t.ex.top.rat, .string t.ex.top.name, .int .i64 t.ex.top.date, .slice Au' ku' cu']]) (w' := W.drew) rfl (by simp [go_sem]) ?_
    refine (HLS.out W.drew (hAW.of_below hdr)).mono ?_
    rintro e W4 ⟨rfl, hb4⟩
    refine ⟨_, rfl, ⟨⟨W4, hb4⟩, rfl⟩, ?_⟩
    refine fxp_nil ?_
    simp only [Act.put, List.setIfInBounds_toArray, List.set_cons_succ, List.set_cons_zero]
    generalize Z.exLast (m + 1) t.ex = el at *
    refine fx_one (k := 6) (by kernel_rfl) ?_
    simp only [opsAt, List.filterMap_cons, List.filterMap_nil, List.getElem?_toArray, List.getElem?_cons_succ, List.getElem?_cons_zero]
    refine fxp_value (w' := W4) (u := .int .i64 (max (max h0 t.date) el)) rfl (by simp [go_sem] <;> ((repeat' split) <;> omega)) ⟨⟨W4, hb4⟩, rfl⟩ ?_
    refine fxp_nil ?_
    simp only [Act.put, List.setIfInBounds_toArray, List.set_cons_succ, List.set_cons_zero]
    have v4 := (v1.below hdr).below hb4
    have y4 := (vx.below hdr).below hb4
    have c4 := v4.cell 0
    have f4 := v4.frozen 0
    generalize hm1 : max (max h0 t.date) el = m1 at *
    refine fx_late (k := 7) (by decide) (by kernel_rfl) ?_
    simp only [opsAt, List.filterMap_cons, List.filterMap_nil, List.getElem?_toArray, List.getElem?_cons_succ, List.getElem?_cons_zero]
    refine fxl_skip (w' := W4.setCell ⟨W3.heap.size, 0, none⟩ (.int .i64 m1)) rfl (by simp [go_sem, c4, f4]) ?_
    refine fxl_nil ?_
    simp only [Act.put]
    refine fx_end (by kernel_rfl) ?_
    have hb4' := hdr.trans (hb4.mono hdr.size)
    have hk4 := (Kq.of_below (E := fun k => k = W3.heap.size) (B := w.heap.size) hBW.size hb4').trans (Kq.set (E := fun k => k = W3.heap.size) (b := W3.heap.size) (j := 0) rfl hB3.size (.int .i64 m1))
    have ho4 := (keeps_below hb4').trans (KeepsOthers.setCell W4 ⟨W3.heap.size, 0, none⟩ (.int .i64 m1))
    have hB5 := (hBW.trans (hb4'.mono hBW.size)).setCell (p := ⟨W3.heap.size, 0, none⟩) hB3.size (.int .i64 m1)
    have v5 := v4.set 0 (.int .i64 m1)
    have y5 := y4.oth hne (j := 0) (.int .i64 m1)
    have hAW5 : AG w (W4.setCell ⟨W3.heap.size, 0, none⟩ (.int .i64 m1)) := (AG.refl w).of_below hB5
    have hlt5 := v5.lt
    clear c4 f4 xn x4 x5 x6 x7 x8 x9 hdr hb4 hb4' v4 y4 hAW vx v1 hBW hx1 HLS
    generalize W4.setCell ⟨W3.heap.size, 0, none⟩ (.int .i64 m1) = W5 at *
    have x10 := y5.cell 10
    by_cases hdp : 0 < t.dates.length
    · have HH : Hid (Z.hStep h0 (t, ns) = max m1 (t.dates.getLastD 0)) := Lib.hid (by rw [HHS.out, if_pos hdp])
      have hz : t.dates[t.dates.length - 1]? = some (t.dates.getLastD 0) := by
        rw [List.getElem?_eq_getElem (by omega)]
        congr 1
        rw [List.getLastD_eq_getLast?, List.getLast?_eq_getElem?, List.getElem?_eq_getElem (by omega)]
        rfl
      obtain ⟨b, o, hA, hbl, q0⟩ := SL.cell1 (SL.ag HD.out hAW5) hz rfl
      subst hA
      have hdr5 := (Below.refl W5.heap.size W5).drew
      have z0 : ∀ q : Ab W5.drew, q.1.cell? ⟨W3.heap.size, 0, none⟩ = some (.int .i64 m1) := fun q => ((v5.below hdr5).below q.2).cell 0
      have z1 : ∀ q : Ab W5.drew, q.1.cell? ⟨bx, 10, none⟩ = some (.slice (some ⟨b, o, none⟩) t.dates.length cd') := fun q => ((y5.below hdr5).below q.2).cell 10
      have z2 : ∀ q : Ab W5.drew, q.1.cell? ⟨b, o + (t.dates.length - 1), none⟩ = some (.int .i64 (t.dates.getLastD 0)) := fun q => (q.2.cell (p := ⟨b, o + (t.dates.length - 1), none⟩) (by have := hdr5.size; exact Nat.lt_of_lt_of_le hbl this)).trans ((hdr5.cell (p := ⟨b, o + (t.dates.length - 1), none⟩) hbl).trans q0)
      generalize t.dates.getLastD 0 = dl at *
      have hdp' : (t.dates.length : Int) > 0 := by omega
      have hi0 : (0 : Int) ≤ (t.dates.length : Int) - 1 := by omega
      have hi1 : (t.dates.length : Int) - 1 < (t.dates.length : Int) := by omega
      have hi2 : ((t.dates.length : Int) - 1).toNat = t.dates.length - 1 := by omega
      clear hz q0 hm1
      gi_wp2_with fail
      refine wpIn_region_fx 8 (fun w' => ∃ y : Ab W5.drew, w' = y.1) (by kernel_rfl) (by kernel_rfl) ?_
      show fxAny _ _ _ _ 8 _ 9 _ _ _
      refine fx_reads (n := 2) [0, 1, 2, 3, 4, 5, 6] rfl (by kernel_rfl) ⟨⟨W5.drew, Below.refl _ _⟩, rfl⟩ ?_
      simp only [opsAt, List.filterMap_cons, List.filterMap_nil, List.getElem?_toArray, List.getElem?_cons_succ, List.getElem?_cons_zero]
      show wpQuiet _ _ _ _ [_, _, _, _, _, _, _] _
      repeat (go_big_quiet_step (fail))
      refine wpQuiet_nil ?_
      refine fx_one (k := 7) (by kernel_rfl) ?_
      simp only [opsAt, List.filterMap_cons, List.filterMap_nil, List.getElem?_toArray, List.getElem?_cons_succ, List.getElem?_cons_zero]
      refine fxp_value (w' := W5.drew) (u := .int .i64 (max m1 dl)) rfl (by simp [go_sem] <;> ((repeat' split) <;> omega)) ⟨⟨W5.drew, Below.refl _ _⟩, rfl⟩ ?_
      refine fxp_nil ?_
      simp only [Act.put, List.setIfInBounds_toArray, List.set_cons_succ, List.set_cons_zero]
      have v6 := v5.below hdr5
      have c6 := v6.cell 0
      have f6 := v6.frozen 0
      generalize max m1 dl = m2 at *
      refine fx_late (k := 8) (by decide) (by kernel_rfl) ?_
      simp only [opsAt, List.filterMap_cons, List.filterMap_nil, List.getElem?_toArray, List.getElem?_cons_succ, List.getElem?_cons_zero]
      refine fxl_skip (w' := W5.drew.setCell ⟨W3.heap.size, 0, none⟩ (.int .i64 m2)) rfl (by simp [go_sem, c6, f6]) ?_
      refine fxl_nil ?_
      simp only [Act.put]
      refine fx_end (by kernel_rfl) ?_
      clear c6 f6 z0 z1 z2 x10
      gi_wp2_with fail
      refine ⟨((ho4.trans (keeps_below hdr5)).trans (KeepsOthers.setCell _ _ _)).from _, (hk4.trans (Kq.of_below hB5.size hdr5)).trans (Kq.set (E := fun k => k = W3.heap.size) (b := W3.heap.size) (j := 0) rfl hB3.size _), ?_, (hB5.trans (hdr5.mono hB5.size)).setCell (p := ⟨W3.heap.size, 0, none⟩) hB3.size _⟩
      rw [HSN.out, HH.out]
      exact v6.set 0 _
    · have HH : Hid (Z.hStep h0 (t, ns) = m1) := Lib.hid (by rw [HHS.out, if_neg hdp])
      have hdp' : ¬ (t.dates.length : Int) > 0 := by omega
      clear hdp hm1
      gi_wp2_with fail
      refine ⟨ho4.from _, hk4, ?_, hB5⟩
      rw [HSN.out, HH.out]
      exact v5
  case done =>
    rintro D2 ys W hD hys ⟨v1, hBW⟩ hK
    rw [HALL.out ys hys] at v1
    have c1 := v1.cell 0
    gi_wp2_with fail
    refine ⟨by simp, .inl ⟨_, _, rfl, run_takeDeferred hK, ?_⟩⟩
    refine ⟨.tuple #[.int .i64 ((Z.coNodes (n + 1) c).foldl Z.hStep 0), .int .i64 0], by simp [results, Tryd.f18, go_sem], by rw [HR.out], hBW.trans (belowK_b (w := W0) hB0.size W D2 _ _ hD hK rfl rfl)⟩
end
end Go.Proofs.YtifafmomkpkgdaaDoor
