/- Walks: the iterator over the nodes of a contract, as a loop takes it. -/
import Derived.Test.YtifafmomkpkgdaaDoorOvis
namespace Go.Proofs.YtifafmomkpkgdaaDoor
open Go.RowKit Go.Shelf
attribute [local go_sem] Oper.semAt_some
section
variable {m : Nat}
theorem nodes_any (a : Z.CN m) (u dv sv : Value) (w : World) (hu : ∃ A k c, u = .slice A k c) (hd : ∃ A k c, dv = .slice A k c) (hs : ∃ A k c, sv = .slice A k c) :
    Calls Tryd.prog 42 #[.agg #[.int .u8 a.k, .string a.fr, .string a.tu, .string a.nm, .int .u8 a.ex.top.k, .string a.ex.top.rat, .string a.ex.top.name, .int .i64 a.ex.top.date, u, .int .i64 a.date, dv, sv]] w fun e w' => e = .returned (.func (.func 67) #[] #[.pointer (some ⟨w.heap.size, 0, none⟩)]) ∧ w' = w.alloc (.cells #[.int .u8 a.k, .string a.fr, .string a.tu, .string a.nm, .int .u8 a.ex.top.k, .string a.ex.top.rat, .string a.ex.top.name, .int .i64 a.ex.top.date, u, .int .i64 a.date, dv, sv] 29) := by
  obtain ⟨Au, ku, cu, rfl⟩ := hu
  obtain ⟨Ad, kd, cd, rfl⟩ := hd
  obtain ⟨As, ks, cs, rfl⟩ := hs
  have hmf : ∀ (fn : Fn) (first cap : Array Value) (w : World), (Instr.makeFunc fn first cap).run Tryd.prog w = .ok (.func fn first cap) w := fun _ _ _ _ => rfl
  go_enter Tryd.func42, Tryd.ntmps42
  go_wp2_with fail
  go_ret
  exact ⟨rfl, rfl⟩
/-- A node of which Pn holds. -/
abbrev On (Pn : Nd m → Prop) : Type := {d : Nd m // Pn d}
set_option maxRecDepth 100000 in
theorem nodes_stops {E : Nat → Prop} {Pn : Nd m → Prop} (n k : Nat) (w W0 : World) (c : Z.Co m n) (r : CR m) (Bc : Nat) (hc : CV w n c r) (hmem : ∀ d ∈ enum w n c r, Pn d) (hA : AG w W0) (hE : ∀ k, E k → k < W0.heap.size) (hB : Blk W0 Bc 29 #[.int .u8 r.a.k, .string r.a.fr, .string r.a.tu, .string r.a.nm, .int .u8 r.a.ex.top.k, .string r.a.ex.top.rat, .string r.a.ex.top.name, .int .i64 r.a.ex.top.date, r.u, .int .i64 r.a.date, r.dv, r.sv]) :
    SeqStopsK Fence.wide k Tryd.prog 67 #[.pointer (some ⟨Bc, 0, none⟩)] (fun x : On Pn => #[.agg #[.int .u8 x.1.r.a.k, .string x.1.r.a.fr, .string x.1.r.a.tu, .string x.1.r.a.nm, .int .u8 x.1.r.a.ex.top.k, .string x.1.r.a.ex.top.rat, .string x.1.r.a.ex.top.name, .int .i64 x.1.r.a.ex.top.date, x.1.r.u, .int .i64 x.1.r.a.date, x.1.r.dv, x.1.r.sv]]) (Kq E w.heap.size) (fun ys => ys.map Subtype.val = enum w n c r) (fun p => p.map Subtype.val <+: enum w n c r) (enum w n c r).length W0 := by
  intro l J Jx W hW hJ _ hY h0
  obtain ⟨a, u, dv, sv⟩ := r
  obtain ⟨Au, ku, cu, rfl⟩ := hc.shape.1
  obtain ⟨Ad, kd, cd, rfl⟩ := hc.shape.2.1
  obtain ⟨As, ks, cs, rfl⟩ := hc.shape.2.2
  have BX := hB.below hW
  simp only at BX
  have HC := Lib.hid (visit_in w l (enum w n c ⟨a, .slice Au ku cu, .slice Ad kd cd, .slice As ks cs⟩).length (fun p X => ∃ q : List (On Pn), q.map Subtype.val = p ∧ J q X ∧ W.heap.size ≤ X.heap.size) (fun p X => ∃ q : List (On Pn), q.map Subtype.val = p ∧ Jx q X)
    (fun p X Y ⟨q, h1, h2, h3⟩ hb => ⟨q, h1, hJ q X Y none h2 (grown_of_below hb none) (fun r e => by cases e), Nat.le_trans h3 hb.size⟩)
    (fun p X ⟨q, _, _, h3⟩ i hi => Nat.lt_of_lt_of_le (hE i hi) (Nat.le_trans hW.size h3))
    (fun p x X hx ⟨q, h1, h2, h3⟩ hl => by
      subst h1
      rw [List.length_map] at hl
      obtain ⟨fn, t, asg, b, e, hr⟩ := yieldAt_any (k := 1) (hY q ⟨x, hx⟩ X h2 hl)
      refine ⟨fn, t, asg, b, e, hr.mono ?_⟩
      rintro e W' (⟨he, h4, h5⟩ | ⟨he, h4⟩)
      · exact .inl ⟨he, ⟨_, by simp, h4, Nat.le_trans h3 h5.size⟩, h5⟩
      · exact .inr ⟨he, _, by simp, h4⟩)
    n (k - 1) c ⟨a, .slice Au ku cu, .slice Ad kd cd, .slice As ks cs⟩ hc hmem [] W (hA.of_below hW) ⟨[], rfl, h0, Nat.le_refl _⟩ (by simp))
  unfold CR.ag at HC
  simp only at HC
  have c0 := BX.cell 0
  have c1 := BX.cell 1
  have c2 := BX.cell 2
  have c3 := BX.cell 3
  have c4 := BX.cell 4
  have c5 := BX.cell 5
  have c6 := BX.cell 6
  have c7 := BX.cell 7
  have c8 := BX.cell 8
  have c9 := BX.cell 9
  have c10 := BX.cell 10
  have c11 := BX.cell 11
  clear BX hY h0 hJ hB
  show CallsIn Fence.wide k Tryd.prog 67 #[.func (.yield l) #[] #[], .pointer (some ⟨Bc, 0, none⟩)] W _
  refine callsIn_of_wp Tryd.func67 rfl trivial ?_ rfl
  simp only [Tryd.ntmps67, List.size_toArray, List.length_cons, List.length_nil, Nat.reduceAdd, Nat.reduceSub, Array.replicate_succ, Array.replicate_zero, List.push_toArray, List.append_toArray, List.nil_append, List.cons_append]
  gi_wp2_with fail
  refine ⟨trivial, fun h => (by simp [Fence.wide] at h), HC.out.mono ?_⟩
  rintro e W4 (⟨rfl, ⟨q, hq, hJ4, _⟩, hA4⟩ | ⟨rfl, p, hp, q, hq, hJx4⟩)
  · gi_wp2_with fail
    go_end0
    exact ⟨⟨_, rfl⟩, .inl ⟨q, hq, hJ4⟩⟩
  · gi_wp2_with fail
    go_end0
    exact ⟨⟨_, rfl⟩, .inr ⟨q, by rw [hq]; exact hp, hJx4⟩⟩
end
end Go.Proofs.YtifafmomkpkgdaaDoor
