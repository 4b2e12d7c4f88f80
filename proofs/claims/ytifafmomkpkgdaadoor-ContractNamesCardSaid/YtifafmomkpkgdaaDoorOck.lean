/- Walks: Check of a contract. -/
import Derived.Test.YtifafmomkpkgdaaDoorOsz
import Derived.Test.YtifafmomkpkgdaaDoorOnb
import Derived.Test.YtifafmomkpkgdaaDoorOtc
namespace Go.Proofs.YtifafmomkpkgdaaDoor
open Go.RowKit Go.Shelf
attribute [local go_sem] Oper.semAt_some
section
variable {m : Nat}
set_option maxRecDepth 100000 in
set_option maxHeartbeats 4000000 in
theorem ccheck_any (n : Nat) (c : Z.Co m (n + 1)) (r : CR m) (w : World) (hc : CV w (n + 1) c r) (hL : Lay w) (hV : HasV w) (hs : Z.CSm (n + 1) c) :
    Calls Tryd.prog 12 #[r.ag] w fun e w' => e = .returned (.int .i64 (Z.coE (n + 1) c)) ∧ Below w.heap.size w w' := by
  obtain ⟨a, u, dv, sv⟩ := r
  obtain ⟨Au, ku, cu, rfl⟩ := hc.shape.1
  obtain ⟨Ad, kd, cd, rfl⟩ := hc.shape.2.1
  obtain ⟨As, ks, cs, rfl⟩ := hc.shape.2.2
  have HSZ := Lib.hid (fun W (h : Below w.heap.size w W) => csize_any n c ⟨a, .slice Au ku cu, .slice Ad kd cd, .slice As ks cs⟩ W (CV.below h _ hc) hs)
  have HDP := Lib.hid (fun W (h : Below w.heap.size w W) => ccdepth_any (n + 1) c a _ _ _ W (CV.below h _ hc) hs)
  unfold CR.ag at HSZ ⊢
  simp only at HSZ ⊢
  have hE : Z.coE (n + 1) c = if 500 < Z.coSize (n + 1) c ∨ 60 < Z.coDepth (n + 1) c then 4 else if Z.coFormed (n + 1) c = true then 0 else 8 := rfl
  have HE := Lib.hid hE
  clear hE
  generalize Z.coE (n + 1) c = R at *
  have hB2 : Below w.heap.size w ((w.alloc (.cells #[.int .u8 a.k, .string a.fr, .string a.tu, .string a.nm, .int .u8 a.ex.top.k, .string a.ex.top.rat, .string a.ex.top.name, .int .i64 a.ex.top.date, .slice Au ku cu, .int .i64 a.date, .slice Ad kd cd, .slice As ks cs] 29)).alloc (.cells #[.int .i64 0] 33)) := ((Below.refl _ w).alloc (Nat.le_refl _) _).alloc (by simp) _
  have bx := (Blk.new w 29 #[.int .u8 a.k, .string a.fr, .string a.tu, .string a.nm, .int .u8 a.ex.top.k, .string a.ex.top.rat, .string a.ex.top.name, .int .i64 a.ex.top.date, .slice Au ku cu, .int .i64 a.date, .slice Ad kd cd, .slice As ks cs]).alloc (.cells #[.int .i64 0] 33)
  have br : Blk ((w.alloc (.cells #[.int .u8 a.k, .string a.fr, .string a.tu, .string a.nm, .int .u8 a.ex.top.k, .string a.ex.top.rat, .string a.ex.top.name, .int .i64 a.ex.top.date, .slice Au ku cu, .int .i64 a.date, .slice Ad kd cd, .slice As ks cs] 29)).alloc (.cells #[.int .i64 0] 33)) (w.heap.size + 1) 33 #[.int .i64 0] := by
    have h := Blk.new (w.alloc (.cells #[.int .u8 a.k, .string a.fr, .string a.tu, .string a.nm, .int .u8 a.ex.top.k, .string a.ex.top.rat, .string a.ex.top.name, .int .i64 a.ex.top.date, .slice Au ku cu, .int .i64 a.date, .slice Ad kd cd, .slice As ks cs] 29)) 33 #[.int .i64 0]
    rwa [World.size_alloc] at h
  refine (callsIn_wide (n := 6)).1 ?_
  refine callsIn_of_wp_marks Tryd.func12 rfl trivial ?_ rfl
  simp only [Tryd.ntmps12, List.size_toArray, List.length_cons, List.length_nil, Nat.reduceAdd, Nat.reduceSub, Array.replicate_succ, Array.replicate_zero, List.push_toArray, List.append_toArray, List.nil_append, List.cons_append]
  have d0 := bx.cell 0
  have d1 := bx.cell 1
  have d2 := bx.cell 2
  have d3 := bx.cell 3
  have d4 := bx.cell 4
  have d5 := bx.cell 5
  have d6 := bx.cell 6
  have d7 := bx.cell 7
  have d8 := bx.cell 8
  have d9 := bx.cell 9
  have d10 := bx.cell 10
  have d11 := bx.cell 11
  gi_wp2_with fail
  refine ⟨trivial, (callsIn_wide.2 (HSZ.out _ hB2)).mono ?_⟩
  rintro e W3 ⟨rfl, hb3⟩
  have bx3 := bx.below hb3
  have br3 := br.below hb3
  have hB3 := hB2.trans (hb3.mono hB2.size)
  have hN := hs.size
  clear d0 d1 d2 d3 d4 d5 d6 d7 d8 d9 d10 d11 bx br hb3 hB2 HSZ
  obtain ⟨N, hNe⟩ : ∃ N, N = Z.coSize (n + 1) c := ⟨_, rfl⟩
  obtain ⟨D, hDe⟩ : ∃ N, N = Z.coDepth (n + 1) c := ⟨_, rfl⟩
  rw [← hNe] at HE hN ⊢
  rw [← hDe] at HE HDP
  clear hNe hDe
  have d0 := bx3.cell 0
  have d1 := bx3.cell 1
  have d2 := bx3.cell 2
  have d3 := bx3.cell 3
  have d4 := bx3.cell 4
  have d5 := bx3.cell 5
  have d6 := bx3.cell 6
  have d7 := bx3.cell 7
  have d8 := bx3.cell 8
  have d9 := bx3.cell 9
  have d10 := bx3.cell 10
  have d11 := bx3.cell 11
  have r0 := br3.cell 0
  have r1 := br3.frozen 0
  by_cases h5 : 500 < N
  · have h5' : (N : Int) > 500 := by omega
    have HR : Hid (R = 4) := Lib.hid (HE.out.trans (if_pos (Or.inl h5)))
    clear h5
    gi_wp2_with fail
    refine ⟨trivial, ?_⟩
    gi_wp2_with fail
    have k1 := (br3.set 0 (.int .i64 4)).cell 0
    refine ⟨.int .i64 4, ?_, by rw [HR.out], hB3.setCell (p := ⟨w.heap.size + 1, 0, none⟩) (by simp) _⟩
    simp [results, Tryd.f12, go_sem, k1]
  · have h5' : ¬ (N : Int) > 500 := by omega
    gi_wp2_with fail
    refine ⟨trivial, (callsIn_wide.2 (HDP.out _ hB3)).mono ?_⟩
    rintro e W4 ⟨rfl, hb4⟩
    have bx4 := bx3.below hb4
    have br4 := br3.below hb4
    have hB4 := hB3.trans (hb4.mono hB3.size)
    clear d0 d1 d2 d3 d4 d5 d6 d7 d8 d9 d10 d11 bx3 br3 hb4 HDP r0 r1 hB3
    have d0 := bx4.cell 0
    have d1 := bx4.cell 1
    have d2 := bx4.cell 2
    have d3 := bx4.cell 3
    have d4 := bx4.cell 4
    have d5 := bx4.cell 5
    have d6 := bx4.cell 6
    have d7 := bx4.cell 7
    have d8 := bx4.cell 8
    have d9 := bx4.cell 9
    have d10 := bx4.cell 10
    have d11 := bx4.cell 11
    have r0 := br4.cell 0
    have r1 := br4.frozen 0
    by_cases h6 : 60 < D
    · have h6' : (D : Int) > 60 := by omega
      have HR : Hid (R = 4) := Lib.hid (HE.out.trans (if_pos (Or.inr h6)))
      clear h6 h5
      gi_wp2_with fail
      refine ⟨.int .i64 4, ?_, by rw [HR.out], hB4.setCell (p := ⟨w.heap.size + 1, 0, none⟩) (by simp) _⟩
      have k1 := (br4.set 0 (.int .i64 4)).cell 0
      simp [results, Tryd.f12, go_sem, k1]
    · have h6' : ¬ (D : Int) > 60 := by omega
      have HR : Hid (R = if Z.coFormed (n + 1) c = true then 0 else 8) := Lib.hid (HE.out.trans (if_neg (by omega)))
      clear h6 h5 HE
      gi_wp2_with fail
      refine ⟨trivial, (callsIn_wide.2 (nodes_any a _ _ _ _ ⟨_, _, _, rfl⟩ ⟨_, _, _, rfl⟩ ⟨_, _, _, rfl⟩)).mono ?_⟩
      rintro e W0 ⟨rfl, rfl⟩
      clear d0 d1 d2 d3 d4 d5 d6 d7 d8 d9 d10 d11 r0 r1
      gi_wp2_with fail
      have hB0 := hB4.alloc hB4.size (.cells #[.int .u8 a.k, .string a.fr, .string a.tu, .string a.nm, .int .u8 a.ex.top.k, .string a.ex.top.rat, .string a.ex.top.name, .int .i64 a.ex.top.date, .slice Au ku cu, .int .i64 a.date, .slice Ad kd cd, .slice As ks cs] 29)
      have bc := Blk.new W4 29 #[.int .u8 a.k, .string a.fr, .string a.tu, .string a.nm, .int .u8 a.ex.top.k, .string a.ex.top.rat, .string a.ex.top.name, .int .i64 a.ex.top.date, .slice Au ku cu, .int .i64 a.date, .slice Ad kd cd, .slice As ks cs]
      have br0 := br4.alloc (.cells #[.int .u8 a.k, .string a.fr, .string a.tu, .string a.nm, .int .u8 a.ex.top.k, .string a.ex.top.rat, .string a.ex.top.name, .int .i64 a.ex.top.date, .slice Au ku cu, .int .i64 a.date, .slice Ad kd cd, .slice As ks cs] 29)
      have hl4 := br4.lt
      have hz4 : W4.heap.size < (W4.alloc (.cells #[.int .u8 a.k, .string a.fr, .string a.tu, .string a.nm, .int .u8 a.ex.top.k, .string a.ex.top.rat, .string a.ex.top.name, .int .i64 a.ex.top.date, .slice Au ku cu, .int .i64 a.date, .slice Ad kd cd, .slice As ks cs] 29)).heap.size := bc.lt
      generalize (W4.alloc (.cells #[.int .u8 a.k, .string a.fr, .string a.tu, .string a.nm, .int .u8 a.ex.top.k, .string a.ex.top.rat, .string a.ex.top.name, .int .i64 a.ex.top.date, .slice Au ku cu, .int .i64 a.date, .slice Ad kd cd, .slice As ks cs] 29)) = W0 at *
      have hst := nodes_stops (E := fun k => k = w.heap.size + 1) (n + 1) (6 - 1) w W0 c ⟨a, .slice Au ku cu, .slice Ad kd cd, .slice As ks cs⟩ W4.heap.size hc (os_of hc hs) ((AG.refl w).of_below hB0) (fun k hk => by omega) bc
      have HFO : Hid (∀ ys : List (On (Os (m := m) w)), ys.map Subtype.val = enum w (n + 1) c ⟨a, .slice Au ku cu, .slice Ad kd cd, .slice As ks cs⟩ → (∀ x ∈ ys, Z.nodeB (x.1.r.a, x.1.ns) = true) → R = 0) := Lib.hid (fun ys hys hall => by
        rw [HR.out, if_pos]
        rw [Z.coFormed_nodes, ← enum_map (n + 1) c _ hc, ← hys, List.map_map, List.all_map, List.all_eq_true]
        exact hall)
      have HFB : Hid (∀ ys : List (On (Os (m := m) w)), ys.map Subtype.val <+: enum w (n + 1) c ⟨a, .slice Au ku cu, .slice Ad kd cd, .slice As ks cs⟩ → (∃ x ∈ ys, Z.nodeB (x.1.r.a, x.1.ns) = false) → R = 8) := Lib.hid (fun ys hys ⟨x, hx, hxb⟩ => by
        rw [HR.out, if_neg]
        rw [Z.coFormed_nodes, ← enum_map (n + 1) c _ hc, List.all_map, List.all_eq_true]
        intro hall
        have := hall x.1 (hys.subset (List.mem_map_of_mem hx))
        rw [show ((Z.nodeB (m := m)) ∘ fun d : Nd m => (d.r.a, d.ns)) x.1 = Z.nodeB (x.1.r.a, x.1.ns) from rfl, hxb] at this
        cases this)
      refine wpIn_rangeFunc_ownH (F := Fence.wide) rfl (by omega) (gf := 67) (lb := #[.pointer (some ⟨W4.heap.size, 0, none⟩)]) rfl trivial (enters_of Tryd.func67 (by kernel_rfl) rfl)
        hst (fun h k => Kq.trans h k) (Kq.put hB0.size) (Below.refl _ _) (fun _ => rfl)
        (fun pre W => (Blk W (w.heap.size + 1) 33 #[.int .i64 0] ∧ Below w.heap.size w W) ∧ ∀ x ∈ pre, Z.nodeB (x.1.r.a, x.1.ns) = true)
        (fun cd pre W => cd = .ret ∧ ((Blk W (w.heap.size + 1) 33 #[.int .i64 8] ∧ Below w.heap.size w W) ∧ ∃ x ∈ pre, Z.nodeB (x.1.r.a, x.1.ns) = false))
        (OwnFrom.and (OwnFrom.and (Own.from (blk_own (w.heap.size + 1) 33 (fun _ : List (On (Os (m := m) w)) => #[.int .i64 0])) _) (ownFrom_below (Nat.le_refl _) hB0.size)) (ownFrom_pure _ (fun pre : List (On (Os (m := m) w)) => ∀ x ∈ pre, Z.nodeB (x.1.r.a, x.1.ns) = true)))
        (fun cd => OwnFrom.and (ownFrom_pure _ (fun _ : List (On (Os (m := m) w)) => cd = .ret)) (OwnFrom.and (OwnFrom.and (Own.from (blk_own (w.heap.size + 1) 33 (fun _ : List (On (Os (m := m) w)) => #[.int .i64 8])) _) (ownFrom_below (Nat.le_refl _) hB0.size)) (ownFrom_pure _ (fun pre : List (On (Os (m := m) w)) => ∃ x ∈ pre, Z.nodeB (x.1.r.a, x.1.ns) = false))))
        ⟨⟨br0, hB0⟩, fun x hx => absurd hx (by simp)⟩
        (fun x a' W => ∃ bx s0 s1 s4 s5 s6 s7 s8 s9 s10 s11 s12 s13 s14 s15 s16 s17, a' = { tmps := #[s0, s1, .pointer (some ⟨w.heap.size + 1, 0, none⟩), .pointer (some ⟨bx, 0, none⟩), s4, s5, s6, s7, s8, s9, s10, s11, s12, s13, s14, s15, s16, s17], defers := [] } ∧ Blk W bx 29 #[.int .u8 x.1.r.a.k, .string x.1.r.a.fr, .string x.1.r.a.tu, .string x.1.r.a.nm, .int .u8 x.1.r.a.ex.top.k, .string x.1.r.a.ex.top.rat, .string x.1.r.a.ex.top.name, .int .i64 x.1.r.a.ex.top.date, x.1.r.u, .int .i64 x.1.r.a.date, x.1.r.dv, x.1.r.sv] ∧ bx ≠ w.heap.size + 1)
        (fun x a' s X Y row h hg hr => by
          obtain ⟨bx, s0, s1, s4, s5, s6, s7, s8, s9, s10, s11, s12, s13, s14, s15, s16, s17, h1, h2, h3⟩ := h
          exact ⟨bx, s0, s1, s4, s5, s6, s7, s8, s9, s10, s11, s12, s13, s14, s15, s16, s17, h1, Own.from (blk_own bx 29 (fun _ : Unit => #[.int .u8 x.1.r.a.k, .string x.1.r.a.fr, .string x.1.r.a.tu, .string x.1.r.a.nm, .int .u8 x.1.r.a.ex.top.k, .string x.1.r.a.ex.top.rat, .string x.1.r.a.ex.top.name, .int .i64 x.1.r.a.ex.top.date, x.1.r.u, .int .i64 x.1.r.a.date, x.1.r.dv, x.1.r.sv])) _ () X Y row h2 hg hr, h3⟩) ?assign ?body ?done ?stop
      case assign =>
        rintro l pre ⟨⟨⟨t, u', dv', sv'⟩, ns⟩, hok, hsm⟩ W K ⟨⟨vr, hBW⟩, hall⟩ hK
        have hx1 : XV w (m + 1) t.ex (t.ex.top, u') := hok.ex
        have hx2 : SD w dv' t.dates := hok.dates
        obtain ⟨A3, c3, hx3⟩ := hok.sub
        have hx3' : sv' = .slice A3 ns c3 := hx3
        clear hx3
        obtain ⟨Au', ku', cu', rfl⟩ := hx1.shape
        obtain ⟨Ad', cd', rfl, _⟩ := hx2.shape
        subst hx3'
        have hl1 := vr.lt
        gi_wp2_with fail
        exact hK _ _ ((KeepsOthers.alloc _ _).from _) (Kq.of_below hBW.size ((Below.refl _ W).alloc (Nat.le_refl _) _)) ⟨⟨vr.alloc _, hBW.alloc hBW.size _⟩, hall⟩ ⟨W.heap.size, _, _, _, _, _, _, _, _, _, _, _, _, _, _, _, _, rfl, Blk.new W 29 _, by omega⟩
      case body =>
        rintro l pre ⟨⟨⟨t, u', dv', sv'⟩, ns⟩, hok, hsm⟩ a' W hwl hlp ⟨⟨vr, hBW⟩, hall⟩ ⟨bx, s0, s1, s4, s5, s6, s7, s8, s9, s10, s11, s12, s13, s14, s15, s16, s17, rfl, vx, hne⟩ hpl
        have hx1 : XV w (m + 1) t.ex (t.ex.top, u') := hok.ex
        have hx2 : SD w dv' t.dates := hok.dates
        obtain ⟨A3, c3, hx3⟩ := hok.sub
        have hx3' : sv' = .slice A3 ns c3 := hx3
        clear hx3
        obtain ⟨Au', ku', cu', rfl⟩ := hx1.shape
        obtain ⟨Ad', cd', rfl, _⟩ := hx2.shape
        subst hx3'
        have HN := Lib.hid (node_any t ns _ _ _ W (NV.ag (w := w) hok ((AG.refl w).of_below hBW)) (hL.below hBW) (hV.below hBW) hsm)
        have x0 := vx.cell 0
        have x1 := vx.cell 1
        have x2 := vx.cell 2
        have x3 := vx.cell 3
        have x4 := vx.cell 4
        have x5 := vx.cell 5
        have x6 := vx.cell 6
        have x7 := vx.cell 7
        have x8 := vx.cell 8
        have x9 := vx.cell 9
        have x10 := vx.cell 10
        have x11 := vx.cell 11
        gi_wp2_with fail
        refine ⟨trivial, (callsIn_wide.2 HN.out).mono ?_⟩
        rintro e W2 ⟨rfl, hb⟩
        have vr2 := vr.below hb
        have hB5 := hBW.trans (hb.mono hBW.size)
        have k1 := vr2.cell 0
        have k2 := vr2.frozen 0
        clear x0 x1 x2 x3 x4 x5 x6 x7 x8 x9 x10 x11 HN
        cases hnb : Z.nodeB (t, ns)
        · gi_wp2_with fail
          exact ⟨((keeps_below hb).trans (KeepsOthers.setCell _ _ _)).from _, rfl, ⟨vr2.set 0 _, hB5.setCell (p := ⟨w.heap.size + 1, 0, none⟩) (by simp) _⟩, _, List.mem_append_right _ (List.mem_singleton.2 rfl), hnb⟩
        · gi_wp2_with fail
          refine ⟨(keeps_below hb).from _, Kq.of_below hBW.size hb, ⟨vr2, hB5⟩, fun x hx => ?_⟩
          rcases List.mem_append.1 hx with hx | hx
          · exact hall x hx
          · rw [List.mem_singleton.1 hx]; exact hnb
      case done =>
        rintro D2 ys W hD hys ⟨⟨vr, hBW⟩, hall⟩ hK
        have e0 := HFO.out ys hys hall
        have k1 := vr.cell 0
        have k2 := vr.frozen 0
        gi_wp2_with fail
        have hK2 : (W.setCell ⟨w.heap.size + 1, 0, none⟩ (.int .i64 0)).heap[D2]? = some (.deferred (some [])) := (KeepsOthers.setCell W ⟨w.heap.size + 1, 0, none⟩ (.int .i64 0)).same D2 _ hK rfl
        refine ⟨by simp, .inl ⟨_, _, rfl, run_takeDeferred hK2, ?_⟩⟩
        have k3 := cell_kept ((vr.set 0 (.int .i64 0)).cell 0) (grownBy_putObj' _ D2 (.deferred none)) (fun r e => by cases e; exact ⟨_, hK2, rfl⟩)
        refine ⟨.int .i64 0, ?_, by rw [e0], (hBW.setCell (p := ⟨w.heap.size + 1, 0, none⟩) (by simp) _).trans (belowK_b (w := W0) hB0.size _ D2 _ _ hD hK2 rfl rfl)⟩
        simp [results, Tryd.f12, go_sem, k3]
      case stop =>
        rintro D2 cd2 pre W hD hpre ⟨rfl, ⟨vr, hBW⟩, hex⟩ hK
        have e0 := HFB.out pre hpre hex
        have k1 := vr.cell 0
        gi_wp2_with fail
        refine ⟨by simp, .inl ⟨_, _, rfl, run_takeDeferred hK, ?_⟩⟩
        have k3 := cell_kept (vr.cell 0) (grownBy_putObj' _ D2 (.deferred none)) (fun r e => by cases e; exact ⟨_, hK, rfl⟩)
        refine ⟨.int .i64 8, ?_, by rw [e0], hBW.trans (belowK_b (w := W0) hB0.size _ D2 _ _ hD hK rfl rfl)⟩
        simp [results, Tryd.f12, go_sem, k3]
end
end Go.Proofs.YtifafmomkpkgdaaDoor
