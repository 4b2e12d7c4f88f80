/- Walks: the size of a contract. -/
import Derived.Test.YtifafmomkpkgdaaDoorOnod
import Derived.Test.YtifafmomkpkgdaaDoorOta
import Derived.Test.YtifafmomkpkgdaaDoorOtb
import Derived.Test.YtifafmomkpkgdaaDoorFla
import Derived.RegionIn
namespace Go.Proofs.YtifafmomkpkgdaaDoor
open Go.RowKit Go.Shelf
attribute [local go_sem] Oper.semAt_some
theorem wpIn_region_fx {P : Program} {lo n id : Nat} {Q : Exit → Act → World → Prop} {a : Act} {w : World} {l : List Oper} (m : Nat) (C : World → Prop) (hm : P.follows .mixedOrders = true) (hd : noDeferB l.toArray = true)
    (h : fxAny P .any l.toArray C m (fun a' w' => Q .normal a' w') l.toArray.size (Array.replicate l.toArray.size false) a w.drew) : (Code.region id l.toArray true).wpIn (Fence.wide.inRound lo) n P Q a w := by
  refine wpIn_region_any hm ?_
  exact wpAnyIn_of_fx (Q' := Q) hd (fun _ _ h => h) _ _ _ _ h
theorem Blk.oth {W : World} {B C j : Nat} {t : TypeId} {cs : Array Value} (h : Blk W B t cs) (hne : B ≠ C) (v : Value) : Blk (W.setCell ⟨C, j, none⟩ v) B t cs :=
  (Below.heap_setCell W ⟨C, j, none⟩ v B hne).trans h
namespace Z
theorem sumL_snoc {α : Type} (f : α → Nat) : ∀ (l : List α) (x : α), sumL f (l ++ [x]) = sumL f l + f x
  | [], x => by simp [sumL]
  | y :: r, x => by rw [List.cons_append, sumL, sumL_snoc f r x, sumL]; omega
theorem sumL_app {α : Type} (f : α → Nat) : ∀ (l k : List α), sumL f (l ++ k) = sumL f l + sumL f k
  | [], k => by simp [sumL]
  | y :: r, k => by rw [List.cons_append, sumL, sumL_app f r k, sumL]; omega
theorem sumL_map {α β : Type} (f : β → Nat) (g : α → β) : ∀ l : List α, sumL f (l.map g) = sumL (fun x => f (g x)) l
  | [] => rfl
  | y :: r => by rw [List.map_cons, sumL, sumL_map f g r, sumL]
theorem sumL_flat {α β : Type} (f : β → Nat) (g : α → List β) : ∀ l : List α, sumL f (l.flatMap g) = sumL (fun x => sumL f (g x)) l
  | [] => rfl
  | y :: r => by rw [List.flatMap_cons, sumL_app, sumL_flat f g r, sumL]
theorem sumL_eq {α : Type} {f g : α → Nat} : ∀ l : List α, (∀ x ∈ l, f x = g x) → sumL f l = sumL g l
  | [], _ => rfl
  | y :: r, h => by rw [sumL, sumL, h y (List.mem_cons_self ..), sumL_eq r fun x hx => h x (List.mem_cons_of_mem _ hx)]
theorem coSize_nodes {m : Nat} : ∀ (n : Nat) (c : Co m n), coSize n c = sumL (fun x => 1 + exZ x.1.ex) (coNodes n c)
  | 0, c => c.no
  | n + 1, c => by
    rw [coSize, coNodes, sumL, sumL_flat, sumL_eq c.sub fun x _ => coSize_nodes n x]
end Z
section
variable {m : Nat}
theorem CR.ag_shape {w : World} {d : Nd m} (h : d.ok w) : ∃ (t : Z.CN m) (Au Ad As : Option Addr) (ku cu kd cd ks cs : Nat), d.r = ⟨t, .slice Au ku cu, .slice Ad kd cd, .slice As ks cs⟩ := by
  obtain ⟨⟨a, u, dv, sv⟩, ns⟩ := d
  obtain ⟨_, h1, h2, A, c, h3⟩ := h
  have h1' : XV w (m + 1) a.ex (a.ex.top, u) := h1
  have h2' : SD w dv a.dates := h2
  have h3' : sv = .slice A ns c := h3
  clear h1 h2 h3
  obtain ⟨Au, ku, cu, rfl⟩ := h1'.shape
  obtain ⟨Ad, cd, rfl, _⟩ := h2'.shape
  subst h3'
  exact ⟨_, _, _, _, _, _, _, _, _, _, rfl⟩
theorem keeps_below {W W' : World} (hb : Below W.heap.size W W') : KeepsOthers W W' := ⟨hb.size, fun k _ hk _ => (hb.block k (Array.getElem?_eq_some_iff.1 hk).1).trans hk⟩
/-- A node that reads so, and is small. -/
abbrev Os (w : World) (d : Nd m) : Prop := d.ok w ∧ Z.NSm d.r.a
theorem os_of {w : World} {n : Nat} {c : Z.Co m n} {r : CR m} (hc : CV w n c r) (hs : Z.CSm n c) : ∀ d ∈ enum w n c r, Os w d := fun d hd =>
  ⟨enum_ok n c r hc d hd, Z.CSm.nodes n c hs (d.r.a, d.ns) (by rw [← enum_map n c r hc]; exact List.mem_map_of_mem (f := fun d => (d.r.a, d.ns)) hd)⟩
def szN {w : World} (pre : List (On (Os (m := m) w))) : Nat := Z.sumL (fun x => 1 + Z.exZ x.1.r.a.ex) pre
theorem szN_le {w : World} : ∀ pre : List (On (Os (m := m) w)), szN pre ≤ 601 * pre.length
  | [] => by simp [szN, Z.sumL]
  | x :: r => by
    have h1 := szN_le r
    have h2 := Z.exZ_le x.1.r.a.ex
    have h3 := x.2.2.ex.1
    unfold szN at h1 ⊢
    rw [Z.sumL, List.length_cons]
    omega
theorem szN_all {w : World} {n : Nat} {c : Z.Co m n} {r : CR m} (hc : CV w n c r) {ys : List (On (Os (m := m) w))} (h : ys.map Subtype.val = enum w n c r) : szN ys = Z.coSize n c := by
  rw [Z.coSize_nodes, ← enum_map n c r hc, ← h, Z.sumL_map, Z.sumL_map]
  rfl
set_option maxRecDepth 100000 in
set_option maxHeartbeats 4000000 in
theorem csize_any (n : Nat) (c : Z.Co m (n + 1)) (r : CR m) (w : World) (hc : CV w (n + 1) c r) (hs : Z.CSm (n + 1) c) :
    Calls Tryd.prog 20 #[r.ag] w fun e w' => e = .returned (.int .i64 (Z.coSize (n + 1) c : Nat)) ∧ Below w.heap.size w w' := by
  obtain ⟨a, u, dv, sv⟩ := r
  obtain ⟨Au, ku, cu, rfl⟩ := hc.shape.1
  obtain ⟨Ad, kd, cd, rfl⟩ := hc.shape.2.1
  obtain ⟨As, ks, cs, rfl⟩ := hc.shape.2.2
  have hlen : (enum w (n + 1) c ⟨a, .slice Au ku cu, .slice Ad kd cd, .slice As ks cs⟩).length ≤ 1500 := by rw [enum_len hc, Z.coNodes_len]; exact hs.cnt
  unfold CR.ag
  simp only
  refine (callsIn_wide (n := 6)).1 ?_
  refine callsIn_of_wp_marks Tryd.func20 rfl trivial ?_ rfl
  simp only [Tryd.ntmps20, List.size_toArray, List.length_cons, List.length_nil, Nat.reduceAdd, Nat.reduceSub, Array.replicate_succ, Array.replicate_zero, List.push_toArray, List.append_toArray, List.nil_append, List.cons_append]
  have c0 := (Blk.new w 29 #[.int .u8 a.k, .string a.fr, .string a.tu, .string a.nm, .int .u8 a.ex.top.k, .string a.ex.top.rat, .string a.ex.top.name, .int .i64 a.ex.top.date, .slice Au ku cu, .int .i64 a.date, .slice Ad kd cd, .slice As ks cs]).alloc (.cells #[.int .i64 0] 3)
  have d0 := c0.cell 0
  have d1 := c0.cell 1
  have d2 := c0.cell 2
  have d3 := c0.cell 3
  have d4 := c0.cell 4
  have d5 := c0.cell 5
  have d6 := c0.cell 6
  have d7 := c0.cell 7
  have d8 := c0.cell 8
  have d9 := c0.cell 9
  have d10 := c0.cell 10
  have d11 := c0.cell 11
  gi_wp2_with fail
  refine ⟨trivial, (callsIn_wide.2 (nodes_any a _ _ _ _ ⟨_, _, _, rfl⟩ ⟨_, _, _, rfl⟩ ⟨_, _, _, rfl⟩)).mono ?_⟩
  rintro e W0 ⟨rfl, rfl⟩
  clear d0 d1 d2 d3 d4 d5 d6 d7 d8 d9 d10 d11 c0
  gi_wp2_with fail
  have hB0 : Below w.heap.size w (((w.alloc (.cells #[.int .u8 a.k, .string a.fr, .string a.tu, .string a.nm, .int .u8 a.ex.top.k, .string a.ex.top.rat, .string a.ex.top.name, .int .i64 a.ex.top.date, .slice Au ku cu, .int .i64 a.date, .slice Ad kd cd, .slice As ks cs] 29)).alloc (.cells #[.int .i64 0] 3)).alloc (.cells #[.int .u8 a.k, .string a.fr, .string a.tu, .string a.nm, .int .u8 a.ex.top.k, .string a.ex.top.rat, .string a.ex.top.name, .int .i64 a.ex.top.date, .slice Au ku cu, .int .i64 a.date, .slice Ad kd cd, .slice As ks cs] 29)) := (((Below.refl _ w).alloc (Nat.le_refl _) _).alloc (by simp) _).alloc (by simp; omega) _
  have bd : Blk (((w.alloc (.cells #[.int .u8 a.k, .string a.fr, .string a.tu, .string a.nm, .int .u8 a.ex.top.k, .string a.ex.top.rat, .string a.ex.top.name, .int .i64 a.ex.top.date, .slice Au ku cu, .int .i64 a.date, .slice Ad kd cd, .slice As ks cs] 29)).alloc (.cells #[.int .i64 0] 3)).alloc (.cells #[.int .u8 a.k, .string a.fr, .string a.tu, .string a.nm, .int .u8 a.ex.top.k, .string a.ex.top.rat, .string a.ex.top.name, .int .i64 a.ex.top.date, .slice Au ku cu, .int .i64 a.date, .slice Ad kd cd, .slice As ks cs] 29)) (w.heap.size + 1) 3 #[.int .i64 0] := by
    have h := (Blk.new (w.alloc (.cells #[.int .u8 a.k, .string a.fr, .string a.tu, .string a.nm, .int .u8 a.ex.top.k, .string a.ex.top.rat, .string a.ex.top.name, .int .i64 a.ex.top.date, .slice Au ku cu, .int .i64 a.date, .slice Ad kd cd, .slice As ks cs] 29)) 3 #[.int .i64 0]).alloc (.cells #[.int .u8 a.k, .string a.fr, .string a.tu, .string a.nm, .int .u8 a.ex.top.k, .string a.ex.top.rat, .string a.ex.top.name, .int .i64 a.ex.top.date, .slice Au ku cu, .int .i64 a.date, .slice Ad kd cd, .slice As ks cs] 29)
    rwa [World.size_alloc] at h
  have bc : Blk (((w.alloc (.cells #[.int .u8 a.k, .string a.fr, .string a.tu, .string a.nm, .int .u8 a.ex.top.k, .string a.ex.top.rat, .string a.ex.top.name, .int .i64 a.ex.top.date, .slice Au ku cu, .int .i64 a.date, .slice Ad kd cd, .slice As ks cs] 29)).alloc (.cells #[.int .i64 0] 3)).alloc (.cells #[.int .u8 a.k, .string a.fr, .string a.tu, .string a.nm, .int .u8 a.ex.top.k, .string a.ex.top.rat, .string a.ex.top.name, .int .i64 a.ex.top.date, .slice Au ku cu, .int .i64 a.date, .slice Ad kd cd, .slice As ks cs] 29)) (w.heap.size + 1 + 1) 29 #[.int .u8 a.k, .string a.fr, .string a.tu, .string a.nm, .int .u8 a.ex.top.k, .string a.ex.top.rat, .string a.ex.top.name, .int .i64 a.ex.top.date, .slice Au ku cu, .int .i64 a.date, .slice Ad kd cd, .slice As ks cs] := by
    have h := Blk.new ((w.alloc (.cells #[.int .u8 a.k, .string a.fr, .string a.tu, .string a.nm, .int .u8 a.ex.top.k, .string a.ex.top.rat, .string a.ex.top.name, .int .i64 a.ex.top.date, .slice Au ku cu, .int .i64 a.date, .slice Ad kd cd, .slice As ks cs] 29)).alloc (.cells #[.int .i64 0] 3)) 29 #[.int .u8 a.k, .string a.fr, .string a.tu, .string a.nm, .int .u8 a.ex.top.k, .string a.ex.top.rat, .string a.ex.top.name, .int .i64 a.ex.top.date, .slice Au ku cu, .int .i64 a.date, .slice Ad kd cd, .slice As ks cs]
    rwa [World.size_alloc, World.size_alloc] at h
  generalize (((w.alloc (.cells #[.int .u8 a.k, .string a.fr, .string a.tu, .string a.nm, .int .u8 a.ex.top.k, .string a.ex.top.rat, .string a.ex.top.name, .int .i64 a.ex.top.date, .slice Au ku cu, .int .i64 a.date, .slice Ad kd cd, .slice As ks cs] 29)).alloc (.cells #[.int .i64 0] 3)).alloc (.cells #[.int .u8 a.k, .string a.fr, .string a.tu, .string a.nm, .int .u8 a.ex.top.k, .string a.ex.top.rat, .string a.ex.top.name, .int .i64 a.ex.top.date, .slice Au ku cu, .int .i64 a.date, .slice Ad kd cd, .slice As ks cs] 29)) = W0 at *
  have hle : w.heap.size ≤ W0.heap.size := hB0.size
  have lc := bc.lt
  have hst := nodes_stops (E := fun k => k = w.heap.size + 1) (n + 1) (6 - 1) w W0 c ⟨a, .slice Au ku cu, .slice Ad kd cd, .slice As ks cs⟩ (w.heap.size + 1 + 1) hc (os_of hc hs) ((AG.refl w).of_below hB0) (fun k hk => by omega) bc
  have HALL := Lib.hid (fun ys h => szN_all hc (ys := ys) h)
  have hAG := (AG.refl w).of_below hB0
  generalize hw : w.heap.size = B0 at *
  refine rangeFunc_asg (F := Fence.wide) rfl (by omega) (gf := 67) (lb := #[.pointer (some ⟨B0 + 1 + 1, 0, none⟩)]) rfl trivial (enters_of Tryd.func67 (by kernel_rfl) rfl)
    hst (fun h k => Kq.trans h k) (Kq.put hle) (Below.refl _ _) (fun _ => rfl)
    (fun pre W => Blk W (B0 + 1) 3 #[.int .i64 (szN pre : Nat)] ∧ Below B0 w W)
    (OwnFrom.and (Own.from (blk_own (B0 + 1) 3 (fun pre : List (On (Os (m := m) w)) => #[.int .i64 (szN pre : Nat)])) _) (ownFrom_below (by omega) hle))
    ⟨bd, hB0⟩
    (fun pre x a' W => ∃ bx, a' = { tmps := #[.agg #[.int .u8 a.k, .string a.fr, .string a.tu, .string a.nm, .int .u8 a.ex.top.k, .string a.ex.top.rat, .string a.ex.top.name, .int .i64 a.ex.top.date, .slice Au ku cu, .int .i64 a.date, .slice Ad kd cd, .slice As ks cs], .pointer (some ⟨B0, 0, none⟩), .int .i64 0, .pointer (some ⟨B0 + 1, 0, none⟩), .pointer (some ⟨bx, 0, none⟩), .agg #[.int .u8 a.k, .string a.fr, .string a.tu, .string a.nm, .int .u8 a.ex.top.k, .string a.ex.top.rat, .string a.ex.top.name, .int .i64 a.ex.top.date, .slice Au ku cu, .int .i64 a.date, .slice Ad kd cd, .slice As ks cs], .func (.func 67) #[] #[.pointer (some ⟨B0 + 1 + 1, 0, none⟩)], .agg #[.int .u8 x.1.r.a.k, .string x.1.r.a.fr, .string x.1.r.a.tu, .string x.1.r.a.nm, .int .u8 x.1.r.a.ex.top.k, .string x.1.r.a.ex.top.rat, .string x.1.r.a.ex.top.name, .int .i64 x.1.r.a.ex.top.date, x.1.r.u, .int .i64 x.1.r.a.date, x.1.r.dv, x.1.r.sv], undef, undef, undef, undef, undef, undef, undef, undef, undef, undef, undef, undef], defers := [] } ∧ (Blk W bx 29 #[.int .u8 x.1.r.a.k, .string x.1.r.a.fr, .string x.1.r.a.tu, .string x.1.r.a.nm, .int .u8 x.1.r.a.ex.top.k, .string x.1.r.a.ex.top.rat, .string x.1.r.a.ex.top.name, .int .i64 x.1.r.a.ex.top.date, x.1.r.u, .int .i64 x.1.r.a.date, x.1.r.dv, x.1.r.sv] ∧ (Blk W (B0 + 1) 3 #[.int .i64 (szN pre : Nat)] ∧ Below B0 w W)) ∧ bx ≠ B0 + 1)
    (fun pre x a' s X Y row h hg hr => h.elim fun bx h => ⟨bx, h.1, OwnFrom.and (Own.from (blk_own bx 29 (fun _ : Unit => #[.int .u8 x.1.r.a.k, .string x.1.r.a.fr, .string x.1.r.a.tu, .string x.1.r.a.nm, .int .u8 x.1.r.a.ex.top.k, .string x.1.r.a.ex.top.rat, .string x.1.r.a.ex.top.name, .int .i64 x.1.r.a.ex.top.date, x.1.r.u, .int .i64 x.1.r.a.date, x.1.r.dv, x.1.r.sv])) _) (OwnFrom.and (Own.from (blk_own (B0 + 1) 3 (fun _ : Unit => #[.int .i64 (szN pre : Nat)])) _) (ownFrom_below (by omega) hle)) () X Y row h.2.1 hg hr, h.2.2⟩) ?assign ?body ?done
  case assign =>
    rintro l pre ⟨⟨⟨t, u', dv', sv'⟩, ns⟩, hok, hsm⟩ W K ⟨v1, hBW⟩ hK
    have hx1 : XV w (m + 1) t.ex (t.ex.top, u') := hok.ex
    have hx2 : SD w dv' t.dates := hok.dates
    obtain ⟨A3, c3, hx3⟩ := hok.sub
    have hx3' : sv' = .slice A3 ns c3 := hx3
    clear hx3
    obtain ⟨Au', ku', cu', rfl⟩ := hx1.shape
    obtain ⟨Ad', cd', rfl, _⟩ := hx2.shape
    subst hx3'
    have hl1 := v1.lt
    gi_wp2_with fail
    exact hK _ _ ((KeepsOthers.alloc _ _).from _) (Kq.of_below (by omega) ((Below.refl _ W).alloc (Nat.le_refl _) _)) ⟨W.heap.size, rfl, ⟨Blk.new W 29 _, v1.alloc _, hBW.alloc (by omega) _⟩, by omega⟩
  case body =>
    rintro l pre ⟨⟨⟨t, u', dv', sv'⟩, ns⟩, hok, hsm⟩ a' W ⟨bx, rfl, ⟨vx, v1, hBW⟩, hne⟩ hpl
    have hx1 : XV w (m + 1) t.ex (t.ex.top, u') := hok.ex
    have hx2 : SD w dv' t.dates := hok.dates
    obtain ⟨A3, c3, hx3⟩ := hok.sub
    have hx3' : sv' = .slice A3 ns c3 := hx3
    clear hx3
    obtain ⟨Au', ku', cu', rfl⟩ := hx1.shape
    obtain ⟨Ad', cd', rfl, _⟩ := hx2.shape
    subst hx3'
    have hsz := szN_le pre
    have hzx := Z.exZ_le t.ex
    have hsx : Z.exSize (m + 1) t.ex ≤ 600 := hsm.ex.1
    have hAW : AG w W := ⟨hBW.size, fun k hk => hBW.block k (by rw [← hw]; exact hk)⟩
    have hl1 := v1.lt
    have hlx := vx.lt
    have hsn : szN (pre ++ [(⟨⟨⟨t, .slice Au' ku' cu', .slice Ad' t.dates.length cd', .slice A3 ns c3⟩, ns⟩, hok, hsm⟩ : On (Os (m := m) w))]) = szN pre + (1 + Z.exZ t.ex) := Z.sumL_snoc _ _ _
    have HSN := Lib.hid hsn
    have hszb : szN pre ≤ 1000000 := by omega
    clear hsn
    generalize hs0 : szN pre = s0 at *
    clear hs0 hsz hzx
    have hzx := Z.exZ_le t.ex
    have hs1 : (s0 : Int) ≤ 1000000 := by omega
    have hs2 : (0 : Int) ≤ (s0 : Int) := by omega
    have hk1 : Kq (fun k => k = B0 + 1) w.heap.size W (W.setCell ⟨B0 + 1, 0, none⟩ (.int .i64 ((s0 : Int) + 1))) := Kq.set (E := fun k => k = B0 + 1) (b := B0 + 1) (j := 0) rfl (by omega) _
    have vn := v1.set 0 (.int .i64 ((s0 : Int) + 1))
    have vy := vx.oth (show bx ≠ B0 + 1 from hne) (j := 0) (.int .i64 ((s0 : Int) + 1))
    have hbn := hBW.setCell (p := ⟨B0 + 1, 0, none⟩) (by simp) (.int .i64 ((s0 : Int) + 1))
    have HBA := Lib.hid (cbare_any m t.ex _ _ (XV.ag (hAW.kq hk1) _ hx1))
    have HXS := Lib.hid (fun X (h : AG w X) => xsize_any (m + 1) t.ex t.ex.top _ X (XV.ag h _ hx1) (by omega))
    have hko := (KeepsOthers.setCell W ⟨B0 + 1, 0, none⟩ (.int .i64 ((s0 : Int) + 1)))
    have HZ : Hid (Z.exZ t.ex = if Z.bareX t.ex = true then 0 else Z.exSize (m + 1) t.ex) := Lib.hid rfl
    have c1 := v1.cell 0
    have f1 := v1.frozen 0
    have x4 := vy.cell 4
    have x5 := vy.cell 5
    have x6 := vy.cell 6
    have x7 := vy.cell 7
    have x8 := vy.cell 8
    generalize hW1 : W.setCell ⟨B0 + 1, 0, none⟩ (.int .i64 ((s0 : Int) + 1)) = W1 at *
    have hAW1 := hAW.kq hk1
    gi_wp2_with fail
    refine ⟨trivial, (callsIn_wide.2 HBA.out).mono ?_⟩
    rintro e W2 ⟨rfl, hb⟩
    have vy := vy.below hb
    have vn := vn.below hb
    have hbn := hbn.trans (hb.mono (by have := hbn.size; omega))
    have hk2 := hk1.trans (Kq.of_below hAW1.1 hb)
    have hko2 := hko.trans (keeps_below hb)
    have hAW2 := hAW1.of_below hb
    rw [hw] at hk2
    clear hb hk1 hko hAW1 c1 f1 x4 x5 x6 x7 x8 HBA hW1
    cases hbx : Z.bareX t.ex
    · have hz : Z.exZ t.ex = Z.exSize (m + 1) t.ex := by rw [HZ.out, hbx]; rfl
      have HZ2 := Lib.hid hz
      clear hz HZ hbx
      have x4 : ∀ q : Ab W2.drew, q.1.cell? ⟨bx, 4, none⟩ = some (.int .u8 t.ex.top.k) := fun q => ((vy.below (Below.refl _ W2).drew).below q.2).cell 4
      have x5 : ∀ q : Ab W2.drew, q.1.cell? ⟨bx, 5, none⟩ = some (.string t.ex.top.rat) := fun q => ((vy.below (Below.refl _ W2).drew).below q.2).cell 5
      have x6 : ∀ q : Ab W2.drew, q.1.cell? ⟨bx, 6, none⟩ = some (.string t.ex.top.name) := fun q => ((vy.below (Below.refl _ W2).drew).below q.2).cell 6
      have x7 : ∀ q : Ab W2.drew, q.1.cell? ⟨bx, 7, none⟩ = some (.int .i64 t.ex.top.date) := fun q => ((vy.below (Below.refl _ W2).drew).below q.2).cell 7
      have x8 : ∀ q : Ab W2.drew, q.1.cell? ⟨bx, 8, none⟩ = some (.slice Au' ku' cu') := fun q => ((vy.below (Below.refl _ W2).drew).below q.2).cell 8
      have xn : ∀ q : Ab W2.drew, q.1.cell? ⟨B0 + 1, 0, none⟩ = some (.int .i64 ((s0 : Int) + 1)) := fun q => ((vn.below (Below.refl _ W2).drew).below q.2).cell 0
      gi_wp2_with fail
      refine wpIn_region_fx 5 (fun w' => ∃ y : Ab W2.drew, w' = y.1) (by kernel_rfl) (by kernel_rfl) ?_
      show fxAny _ _ _ _ 5 _ 6 _ _ _
      refine fx_reads (n := 3) [0, 1, 2] rfl (by kernel_rfl) ⟨⟨W2.drew, Below.refl _ _⟩, rfl⟩ ?_
      simp only [opsAt, List.filterMap_cons, List.filterMap_nil, List.getElem?_toArray, List.getElem?_cons_succ, List.getElem?_cons_zero]
      show wpQuiet _ _ _ _ [_, _, _] _
      repeat (go_big_quiet_step (fail))
      refine wpQuiet_nil ?_
      refine fx_one (k := 3) (by kernel_rfl) ?_
      simp only [opsAt, List.filterMap_cons, List.filterMap_nil, List.getElem?_toArray, List.getElem?_cons_succ, List.getElem?_cons_zero]
      refine fxp_enter (f := 32) (args := #[.agg #[.int .u8 t.ex.top.k, .string t.ex.top.rat, .string t.ex.top.name, .int .i64 t.ex.top.date, .slice Au' ku' cu']]) (w' := W2.drew) rfl (by simp [go_sem]) ?_
      refine (HXS.out W2.drew (hAW2.of_below (Below.refl _ W2).drew)).mono ?_
      rintro e W4 ⟨rfl, hb4⟩
      refine ⟨_, rfl, ⟨⟨W4, hb4⟩, rfl⟩, ?_⟩
      refine fxp_nil ?_
      simp only [Act.put, List.setIfInBounds_toArray, List.set_cons_succ, List.set_cons_zero]
      rw [← HZ2.out]
      generalize Z.exZ t.ex = z0 at *
      have hz1 : (s0 : Int) + 1 + (z0 : Int) ≤ 1100000 := by have := HZ2.out; omega
      refine fx_reads (n := 1) [4] rfl (by kernel_rfl) ⟨⟨W4, hb4⟩, rfl⟩ ?_
      simp only [opsAt, List.filterMap_cons, List.filterMap_nil, List.getElem?_toArray, List.getElem?_cons_succ, List.getElem?_cons_zero]
      show wpQuiet _ _ _ _ [_] _
      repeat (go_big_quiet_step (fail))
      refine wpQuiet_nil ?_
      have hdr := (Below.refl W2.heap.size W2).drew
      have vn4 := (vn.below hdr).below hb4
      have c4 := vn4.cell 0
      have f4 := vn4.frozen 0
      refine fx_late (k := 5) (by decide) (by kernel_rfl) ?_
      simp only [opsAt, List.filterMap_cons, List.filterMap_nil, List.getElem?_toArray, List.getElem?_cons_succ, List.getElem?_cons_zero]
      refine fxl_skip (w' := W4.setCell ⟨B0 + 1, 0, none⟩ (.int .i64 ((s0 : Int) + 1 + (z0 : Int)))) rfl (by simp [go_sem, c4, f4]) ?_
      refine fxl_nil ?_
      simp only [Act.put]
      refine fx_end (by kernel_rfl) ?_
      have hb4' := hdr.trans (hb4.mono hdr.size)
      clear c4 f4 xn x4 x5 x6 x7 x8
      gi_wp2_with fail
      refine ⟨((hko2.trans (keeps_below hb4')).trans (KeepsOthers.setCell _ _ _)).from _, (hk2.trans (Kq.of_below (by have := hbn.size; omega) hb4')).trans (Kq.set (E := fun k => k = B0 + 1) (b := B0 + 1) (j := 0) rfl (by omega) _), ?_, (hbn.trans (hb4'.mono (by have := hbn.size; omega))).setCell (p := ⟨B0 + 1, 0, none⟩) (by simp) _⟩
      rw [HSN.out]
      have e : ((s0 : Int) + 1 + (z0 : Int)) = ((s0 + (1 + z0) : Nat) : Int) := by omega
      rw [← e]
      exact vn4.set 0 _
    · have hz : Z.exZ t.ex = 0 := by rw [HZ.out, hbx]; rfl
      rw [hz] at HSN
      clear hz HZ
      gi_wp2_with fail
      refine ⟨hko2.from _, hk2, ?_, hbn⟩
      rw [HSN.out]
      exact vn
  case done =>
    rintro D ys W hD hys ⟨v1, hBW⟩ hK
    rw [HALL.out ys hys] at v1
    have c1 := v1.cell 0
    gi_wp2_with fail
    refine ⟨by simp, .inl ⟨_, _, rfl, run_takeDeferred hK, ?_⟩⟩
    refine ⟨.int .i64 (Z.coSize (n + 1) c : Nat), ?_, rfl, by rw [hw]; exact hBW.trans (belowK_b (w := W0) hle W D _ _ hD hK rfl rfl)⟩
    simp [results, Tryd.f20, go_sem]
end
end Go.Proofs.YtifafmomkpkgdaaDoor
