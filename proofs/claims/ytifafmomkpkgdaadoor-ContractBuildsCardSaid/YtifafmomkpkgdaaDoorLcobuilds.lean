/-
  Contracts put together from valid parts are valid as far as size and depth allow, and have the parties, currencies and horizon of their parts together with their own (a tied card: the tables of kinds lie as the text says).
-/
import Derived.Test.YtifafmomkpkgdaaDoorRows
import Derived.Test.YtifafmomkpkgdaaDoorOal
import Derived.Test.YtifafmomkpkgdaaDoorOopn
import Derived.Test.YtifafmomkpkgdaaDoorZco
import Derived.Test.YtifafmomkpkgdaaDoorZcb
import Derived.Test.YtifafmomkpkgdaaDoorOrd
import Derived.Test.YtifafmomkpkgdaaDoorLcr
import Derived.HandedShaped
import Derived.Test.YtifafmomkpkgdaaDoorCards
import Derived.Test.YtifafmomkpkgdaaDoorTie
import Derived.Test.YtifafmomkpkgdaaDoorOlay
import Derived.SevenTiedAt
import Derived.ProofKit
import Derived.OpenShut
import Derived.ShutString
namespace Go.Proofs.YtifafmomkpkgdaaDoor.lawBuilds
open Go.ChangeShapes Go.WideShapes Go.ChangeAt Go.RowKit
open Go.ChangeMaps (open_string shut_string)

/-- A row of one, of two elements. -/
theorem al_one {α β : Type} {k : Nat} {enc : α → List Value} {R : α → β → Prop} {w : World} {v : Value} {a : α} {x : β} (_ : ∀ y, (enc y).length = k) (h : SL k enc w v [a]) (h1 : R a x) : Dp k enc R w v [x] :=
  ⟨[a], h, rfl, fun i r y hr hy => by
    match i, hr, hy with
    | 0, hr, hy => cases hr; cases hy; exact h1
    | i + 1, hr, _ => cases hr⟩
theorem al_two {α β : Type} {k : Nat} {enc : α → List Value} {R : α → β → Prop} {w : World} {v : Value} {a b : α} {x y : β} (_ : ∀ y, (enc y).length = k) (h : SL k enc w v [a, b]) (h1 : R a x) (h2 : R b y) : Dp k enc R w v [x, y] :=
  ⟨[a, b], h, rfl, fun i r z hr hz => by
    match i, hr, hz with
    | 0, hr, hz => cases hr; cases hz; exact h1
    | 1, hr, hz => cases hr; cases hz; exact h2
    | i + 2, hr, _ => cases hr⟩
theorem cell_old {W : World} {b k : Nat} (o : Obj) (h : b < W.heap.size) : (W.alloc o).cell? ⟨b, k, none⟩ = W.cell? ⟨b, k, none⟩ := ((Below.refl W.heap.size W).alloc (Nat.le_refl _) o).cell (p := ⟨b, k, none⟩) h
theorem lt_more {a b : Nat} (h : a < b) : a < b + 1 := Nat.lt_succ_of_lt h
attribute [local go_sem] cell_old
set_option maxRecDepth 100000 in
set_option maxHeartbeats 8000000 in
theorem walk (F : Nat) (c : Z.Co (F + 1) (F + 1 + 1)) (r : CR (F + 1)) (c' : Z.Co (F + 1) (F + 1 + 1)) (r' : CR (F + 1)) (x : Z.Ex (F + 1 + 1)) (ux : Value) (p : Z.Ex (F + 1 + 1)) (up : Value) (who what : ByteArray) (day : Int) (v : Value) (l : List Int) (w : World)
    (hc : CV w (F + 1 + 1) c r) (hle : Z.CLe 140737488355328 (F + 1 + 1) c) (hc' : CV w (F + 1 + 1) c' r') (hle' : Z.CLe 140737488355328 (F + 1 + 1) c') (hx : XV w (F + 1 + 1) x (x.top, ux)) (hlx : Z.XLe 140737488355328 (F + 1 + 1) x) (hp : XV w (F + 1 + 1) p (p.top, up)) (hlp : Z.XLe 140737488355328 (F + 1 + 1) p)
    (hwho : who.size ≤ 140737488355328) (hwhat : what.size ≤ 140737488355328) (hd1 : -9223372036854775808 ≤ day) (hd2 : day ≤ 9223372036854775807) (hv : SD w v l) (hvl : l.length * 8 ≤ 140737488355328) (hV : HasV w) (hL : Lay w) :
    Calls Tryd.prog 3 #[.agg r.vs.toArray, .agg r'.vs.toArray, .agg #[.int .u8 x.top.k, .string x.top.rat, .string x.top.name, .int .i64 x.top.date, ux], .agg #[.int .u8 p.top.k, .string p.top.rat, .string p.top.name, .int .i64 p.top.date, up], .string who, .string what, .int .i64 day, v] w fun e w' => e = .returned (.bool true) ∧ Below w.heap.size w w' := by
  obtain ⟨t, u, dv, sv⟩ := r
  obtain ⟨t', u', dv', sv'⟩ := r'
  obtain ⟨Au, ku, cu, rfl⟩ := hc.shape.1
  obtain ⟨Ad, kd, cd, rfl⟩ := hc.shape.2.1
  obtain ⟨As, ks, cs, rfl⟩ := hc.shape.2.2
  obtain ⟨Au', ku', cu', rfl⟩ := hc'.shape.1
  obtain ⟨Ad', kd', cd', rfl⟩ := hc'.shape.2.1
  obtain ⟨As', ks', cs', rfl⟩ := hc'.shape.2.2
  obtain ⟨Ax, kx, cx, rfl⟩ := hx.shape
  obtain ⟨Ap, kp, cp, rfl⟩ := hp.shape
  obtain ⟨Av, cv, rfl, _, _⟩ := hv.shape
  have HC := Lib.hid hc
  have HC' := Lib.hid hc'
  have HXV := Lib.hid hx
  have HPV := Lib.hid hp
  have HDV := Lib.hid hv
  have HG := Lib.hid (fun W (h : Below w.heap.size w W) => cgreat_any (F + 1) c t _ _ _ W (CV.below h _ hc) hle)
  have HG' := Lib.hid (fun W (h : Below w.heap.size w W) => cgreat_any (F + 1) c' t' _ _ _ W (CV.below h _ hc') hle')
  have HGX := Lib.hid (fun W (h : Below w.heap.size w W) => xgreat_any (F + 1) x x.top _ W (XV.below h _ hx) hlx)
  have HGP := Lib.hid (fun W (h : Below w.heap.size w W) => xgreat_any (F + 1) p p.top _ W (XV.below h _ hp) hlp)
  have HA := Lib.hid (fun W (h : Below w.heap.size w W) => lalive_any W (hL.below h) (hV.below h))
  have HLL := Lib.hid (fun W (h : Below w.heap.size w W) => hL.below h)
  have HVV := Lib.hid (fun W (h : Below w.heap.size w W) => hV.below h)
  have HSM := Lib.hid (fun h => Z.coG_sm (n := F + 1 + 1) (c := c) h)
  have HSM' := Lib.hid (fun h => Z.coG_sm (n := F + 1 + 1) (c := c') h)
  have HSX := Lib.hid (fun h => Z.exG_sm (n := F + 1 + 1) (e := x) h)
  have HSP := Lib.hid (fun h => Z.exG_sm (n := F + 1 + 1) (e := p) h)
  have HVS : Hid (CR.vs (m := F + 1) ⟨t, .slice Au ku cu, .slice Ad kd cd, .slice As ks cs⟩ = [.int .u8 t.k, .string t.fr, .string t.tu, .string t.nm, .int .u8 t.ex.top.k, .string t.ex.top.rat, .string t.ex.top.name, .int .i64 t.ex.top.date, .slice Au ku cu, .int .i64 t.date, .slice Ad kd cd, .slice As ks cs]) := Lib.hid rfl
  have HVS' : Hid (CR.vs (m := F + 1) ⟨t', .slice Au' ku' cu', .slice Ad' kd' cd', .slice As' ks' cs'⟩ = [.int .u8 t'.k, .string t'.fr, .string t'.tu, .string t'.nm, .int .u8 t'.ex.top.k, .string t'.ex.top.rat, .string t'.ex.top.name, .int .i64 t'.ex.top.date, .slice Au' ku' cu', .int .i64 t'.date, .slice Ad' kd' cd', .slice As' ks' cs']) := Lib.hid rfl
  rw [HVS.out, HVS'.out]
  clear hc hc' hV hL hle hle' HVS HVS' hx hlx hp hlp hv
  have hb0 : Below w.heap.size w ((((w.alloc (.cells #[.int .u8 t.k, .string t.fr, .string t.tu, .string t.nm, .int .u8 t.ex.top.k, .string t.ex.top.rat, .string t.ex.top.name, .int .i64 t.ex.top.date, .slice Au ku cu, .int .i64 t.date, .slice Ad kd cd, .slice As ks cs] 29)).alloc (.cells #[.int .u8 t'.k, .string t'.fr, .string t'.tu, .string t'.nm, .int .u8 t'.ex.top.k, .string t'.ex.top.rat, .string t'.ex.top.name, .int .i64 t'.ex.top.date, .slice Au' ku' cu', .int .i64 t'.date, .slice Ad' kd' cd', .slice As' ks' cs'] 29)).alloc (.cells #[.int .u8 x.top.k, .string x.top.rat, .string x.top.name, .int .i64 x.top.date, .slice Ax kx cx] 25)).alloc (.cells #[.int .u8 p.top.k, .string p.top.rat, .string p.top.name, .int .i64 p.top.date, .slice Ap kp cp] 25)) := (((((Below.refl _ w).alloc (Nat.le_refl _) _).alloc (by simp) _).alloc (by simp; omega) _).alloc (by simp; omega) _)
  have BX := (((Blk.new w 29 #[.int .u8 t.k, .string t.fr, .string t.tu, .string t.nm, .int .u8 t.ex.top.k, .string t.ex.top.rat, .string t.ex.top.name, .int .i64 t.ex.top.date, .slice Au ku cu, .int .i64 t.date, .slice Ad kd cd, .slice As ks cs]).alloc (.cells #[.int .u8 t'.k, .string t'.fr, .string t'.tu, .string t'.nm, .int .u8 t'.ex.top.k, .string t'.ex.top.rat, .string t'.ex.top.name, .int .i64 t'.ex.top.date, .slice Au' ku' cu', .int .i64 t'.date, .slice Ad' kd' cd', .slice As' ks' cs'] 29)).alloc (.cells #[.int .u8 x.top.k, .string x.top.rat, .string x.top.name, .int .i64 x.top.date, .slice Ax kx cx] 25)).alloc (.cells #[.int .u8 p.top.k, .string p.top.rat, .string p.top.name, .int .i64 p.top.date, .slice Ap kp cp] 25)
  have BY : Blk ((((w.alloc (.cells #[.int .u8 t.k, .string t.fr, .string t.tu, .string t.nm, .int .u8 t.ex.top.k, .string t.ex.top.rat, .string t.ex.top.name, .int .i64 t.ex.top.date, .slice Au ku cu, .int .i64 t.date, .slice Ad kd cd, .slice As ks cs] 29)).alloc (.cells #[.int .u8 t'.k, .string t'.fr, .string t'.tu, .string t'.nm, .int .u8 t'.ex.top.k, .string t'.ex.top.rat, .string t'.ex.top.name, .int .i64 t'.ex.top.date, .slice Au' ku' cu', .int .i64 t'.date, .slice Ad' kd' cd', .slice As' ks' cs'] 29)).alloc (.cells #[.int .u8 x.top.k, .string x.top.rat, .string x.top.name, .int .i64 x.top.date, .slice Ax kx cx] 25)).alloc (.cells #[.int .u8 p.top.k, .string p.top.rat, .string p.top.name, .int .i64 p.top.date, .slice Ap kp cp] 25)) (w.heap.size + 1) 29 #[.int .u8 t'.k, .string t'.fr, .string t'.tu, .string t'.nm, .int .u8 t'.ex.top.k, .string t'.ex.top.rat, .string t'.ex.top.name, .int .i64 t'.ex.top.date, .slice Au' ku' cu', .int .i64 t'.date, .slice Ad' kd' cd', .slice As' ks' cs'] := by
    have h := ((Blk.new (w.alloc (.cells #[.int .u8 t.k, .string t.fr, .string t.tu, .string t.nm, .int .u8 t.ex.top.k, .string t.ex.top.rat, .string t.ex.top.name, .int .i64 t.ex.top.date, .slice Au ku cu, .int .i64 t.date, .slice Ad kd cd, .slice As ks cs] 29)) 29 #[.int .u8 t'.k, .string t'.fr, .string t'.tu, .string t'.nm, .int .u8 t'.ex.top.k, .string t'.ex.top.rat, .string t'.ex.top.name, .int .i64 t'.ex.top.date, .slice Au' ku' cu', .int .i64 t'.date, .slice Ad' kd' cd', .slice As' ks' cs']).alloc (.cells #[.int .u8 x.top.k, .string x.top.rat, .string x.top.name, .int .i64 x.top.date, .slice Ax kx cx] 25)).alloc (.cells #[.int .u8 p.top.k, .string p.top.rat, .string p.top.name, .int .i64 p.top.date, .slice Ap kp cp] 25)
    rwa [World.size_alloc] at h
  have BE : Blk ((((w.alloc (.cells #[.int .u8 t.k, .string t.fr, .string t.tu, .string t.nm, .int .u8 t.ex.top.k, .string t.ex.top.rat, .string t.ex.top.name, .int .i64 t.ex.top.date, .slice Au ku cu, .int .i64 t.date, .slice Ad kd cd, .slice As ks cs] 29)).alloc (.cells #[.int .u8 t'.k, .string t'.fr, .string t'.tu, .string t'.nm, .int .u8 t'.ex.top.k, .string t'.ex.top.rat, .string t'.ex.top.name, .int .i64 t'.ex.top.date, .slice Au' ku' cu', .int .i64 t'.date, .slice Ad' kd' cd', .slice As' ks' cs'] 29)).alloc (.cells #[.int .u8 x.top.k, .string x.top.rat, .string x.top.name, .int .i64 x.top.date, .slice Ax kx cx] 25)).alloc (.cells #[.int .u8 p.top.k, .string p.top.rat, .string p.top.name, .int .i64 p.top.date, .slice Ap kp cp] 25)) (w.heap.size + 1 + 1) 25 #[.int .u8 x.top.k, .string x.top.rat, .string x.top.name, .int .i64 x.top.date, .slice Ax kx cx] := by
    have h := (Blk.new ((w.alloc (.cells #[.int .u8 t.k, .string t.fr, .string t.tu, .string t.nm, .int .u8 t.ex.top.k, .string t.ex.top.rat, .string t.ex.top.name, .int .i64 t.ex.top.date, .slice Au ku cu, .int .i64 t.date, .slice Ad kd cd, .slice As ks cs] 29)).alloc (.cells #[.int .u8 t'.k, .string t'.fr, .string t'.tu, .string t'.nm, .int .u8 t'.ex.top.k, .string t'.ex.top.rat, .string t'.ex.top.name, .int .i64 t'.ex.top.date, .slice Au' ku' cu', .int .i64 t'.date, .slice Ad' kd' cd', .slice As' ks' cs'] 29)) 25 #[.int .u8 x.top.k, .string x.top.rat, .string x.top.name, .int .i64 x.top.date, .slice Ax kx cx]).alloc (.cells #[.int .u8 p.top.k, .string p.top.rat, .string p.top.name, .int .i64 p.top.date, .slice Ap kp cp] 25)
    rwa [World.size_alloc, World.size_alloc] at h
  have BP : Blk ((((w.alloc (.cells #[.int .u8 t.k, .string t.fr, .string t.tu, .string t.nm, .int .u8 t.ex.top.k, .string t.ex.top.rat, .string t.ex.top.name, .int .i64 t.ex.top.date, .slice Au ku cu, .int .i64 t.date, .slice Ad kd cd, .slice As ks cs] 29)).alloc (.cells #[.int .u8 t'.k, .string t'.fr, .string t'.tu, .string t'.nm, .int .u8 t'.ex.top.k, .string t'.ex.top.rat, .string t'.ex.top.name, .int .i64 t'.ex.top.date, .slice Au' ku' cu', .int .i64 t'.date, .slice Ad' kd' cd', .slice As' ks' cs'] 29)).alloc (.cells #[.int .u8 x.top.k, .string x.top.rat, .string x.top.name, .int .i64 x.top.date, .slice Ax kx cx] 25)).alloc (.cells #[.int .u8 p.top.k, .string p.top.rat, .string p.top.name, .int .i64 p.top.date, .slice Ap kp cp] 25)) (w.heap.size + 1 + 1 + 1) 25 #[.int .u8 p.top.k, .string p.top.rat, .string p.top.name, .int .i64 p.top.date, .slice Ap kp cp] := by
    have h := Blk.new (((w.alloc (.cells #[.int .u8 t.k, .string t.fr, .string t.tu, .string t.nm, .int .u8 t.ex.top.k, .string t.ex.top.rat, .string t.ex.top.name, .int .i64 t.ex.top.date, .slice Au ku cu, .int .i64 t.date, .slice Ad kd cd, .slice As ks cs] 29)).alloc (.cells #[.int .u8 t'.k, .string t'.fr, .string t'.tu, .string t'.nm, .int .u8 t'.ex.top.k, .string t'.ex.top.rat, .string t'.ex.top.name, .int .i64 t'.ex.top.date, .slice Au' ku' cu', .int .i64 t'.date, .slice Ad' kd' cd', .slice As' ks' cs'] 29)).alloc (.cells #[.int .u8 x.top.k, .string x.top.rat, .string x.top.name, .int .i64 x.top.date, .slice Ax kx cx] 25)) 25 #[.int .u8 p.top.k, .string p.top.rat, .string p.top.name, .int .i64 p.top.date, .slice Ap kp cp]
    rwa [World.size_alloc, World.size_alloc, World.size_alloc] at h
  generalize hG : Z.coG (F + 1 + 1) c = G at *
  generalize hG' : Z.coG (F + 1 + 1) c' = G' at *
  generalize hGX : Z.exG (F + 1 + 1) x = GX at *
  generalize hGP : Z.exG (F + 1 + 1) p = GP at *
  clear hG hG' hGX hGP
  have z0 := BX.cell 0
  have z1 := BX.cell 1
  have z2 := BX.cell 2
  have z3 := BX.cell 3
  have z4 := BX.cell 4
  have z5 := BX.cell 5
  have z6 := BX.cell 6
  have z7 := BX.cell 7
  have z8 := BX.cell 8
  have z9 := BX.cell 9
  have z10 := BX.cell 10
  have z11 := BX.cell 11
  have y0 := BY.cell 0
  have y1 := BY.cell 1
  have y2 := BY.cell 2
  have y3 := BY.cell 3
  have y4 := BY.cell 4
  have y5 := BY.cell 5
  have y6 := BY.cell 6
  have y7 := BY.cell 7
  have y8 := BY.cell 8
  have y9 := BY.cell 9
  have y10 := BY.cell 10
  have y11 := BY.cell 11
  have x0 := BE.cell 0
  have x1 := BE.cell 1
  have x2 := BE.cell 2
  have x3 := BE.cell 3
  have x4 := BE.cell 4
  have p0 := BP.cell 0
  have p1 := BP.cell 1
  have p2 := BP.cell 2
  have p3 := BP.cell 3
  have p4 := BP.cell 4
  go_enter Tryd.func3, Tryd.ntmps3
  go_wp2_with fail
  refine (HA.out _ hb0).mono ?_
  rintro e W1 ⟨rfl, hb⟩
  have h1 := hb0.trans (hb.mono hb0.size)
  replace BX := BX.below hb
  replace BY := BY.below hb
  replace BE := BE.below hb
  replace BP := BP.below hb
  clear z0 z1 z2 z3 z4 z5 z6 z7 z8 z9 z10 z11 y0 y1 y2 y3 y4 y5 y6 y7 y8 y9 y10 y11 x0 x1 x2 x3 x4 p0 p1 p2 p3 p4 hb hb0 HA
  have z0 := BX.cell 0
  have z1 := BX.cell 1
  have z2 := BX.cell 2
  have z3 := BX.cell 3
  have z4 := BX.cell 4
  have z5 := BX.cell 5
  have z6 := BX.cell 6
  have z7 := BX.cell 7
  have z8 := BX.cell 8
  have z9 := BX.cell 9
  have z10 := BX.cell 10
  have z11 := BX.cell 11
  have y0 := BY.cell 0
  have y1 := BY.cell 1
  have y2 := BY.cell 2
  have y3 := BY.cell 3
  have y4 := BY.cell 4
  have y5 := BY.cell 5
  have y6 := BY.cell 6
  have y7 := BY.cell 7
  have y8 := BY.cell 8
  have y9 := BY.cell 9
  have y10 := BY.cell 10
  have y11 := BY.cell 11
  have x0 := BE.cell 0
  have x1 := BE.cell 1
  have x2 := BE.cell 2
  have x3 := BE.cell 3
  have x4 := BE.cell 4
  have p0 := BP.cell 0
  have p1 := BP.cell 1
  have p2 := BP.cell 2
  have p3 := BP.cell 3
  have p4 := BP.cell 4
  go_wp2_with fail
  refine (HG.out W1 h1).mono ?_
  rintro e W2 ⟨rfl, hb⟩
  have h2 := h1.trans (hb.mono h1.size)
  replace BX := BX.below hb
  replace BY := BY.below hb
  replace BE := BE.below hb
  replace BP := BP.below hb
  clear z0 z1 z2 z3 z4 z5 z6 z7 z8 z9 z10 z11 y0 y1 y2 y3 y4 y5 y6 y7 y8 y9 y10 y11 x0 x1 x2 x3 x4 p0 p1 p2 p3 p4 hb h1 HG
  have z0 := BX.cell 0
  have z1 := BX.cell 1
  have z2 := BX.cell 2
  have z3 := BX.cell 3
  have z4 := BX.cell 4
  have z5 := BX.cell 5
  have z6 := BX.cell 6
  have z7 := BX.cell 7
  have z8 := BX.cell 8
  have z9 := BX.cell 9
  have z10 := BX.cell 10
  have z11 := BX.cell 11
  have y0 := BY.cell 0
  have y1 := BY.cell 1
  have y2 := BY.cell 2
  have y3 := BY.cell 3
  have y4 := BY.cell 4
  have y5 := BY.cell 5
  have y6 := BY.cell 6
  have y7 := BY.cell 7
  have y8 := BY.cell 8
  have y9 := BY.cell 9
  have y10 := BY.cell 10
  have y11 := BY.cell 11
  have x0 := BE.cell 0
  have x1 := BE.cell 1
  have x2 := BE.cell 2
  have x3 := BE.cell 3
  have x4 := BE.cell 4
  have p0 := BP.cell 0
  have p1 := BP.cell 1
  have p2 := BP.cell 2
  have p3 := BP.cell 3
  have p4 := BP.cell 4
  rcases G with _ | _
  rotate_left
  · skip
    go_wp2_with fail
    go_ret
    exact ⟨rfl, h2⟩
  go_wp2_with fail
  refine (HG'.out W2 h2).mono ?_
  rintro e W3 ⟨rfl, hb⟩
  have h3 := h2.trans (hb.mono h2.size)
  replace BX := BX.below hb
  replace BY := BY.below hb
  replace BE := BE.below hb
  replace BP := BP.below hb
  clear z0 z1 z2 z3 z4 z5 z6 z7 z8 z9 z10 z11 y0 y1 y2 y3 y4 y5 y6 y7 y8 y9 y10 y11 x0 x1 x2 x3 x4 p0 p1 p2 p3 p4 hb h2 HG'
  have z0 := BX.cell 0
  have z1 := BX.cell 1
  have z2 := BX.cell 2
  have z3 := BX.cell 3
  have z4 := BX.cell 4
  have z5 := BX.cell 5
  have z6 := BX.cell 6
  have z7 := BX.cell 7
  have z8 := BX.cell 8
  have z9 := BX.cell 9
  have z10 := BX.cell 10
  have z11 := BX.cell 11
  have y0 := BY.cell 0
  have y1 := BY.cell 1
  have y2 := BY.cell 2
  have y3 := BY.cell 3
  have y4 := BY.cell 4
  have y5 := BY.cell 5
  have y6 := BY.cell 6
  have y7 := BY.cell 7
  have y8 := BY.cell 8
  have y9 := BY.cell 9
  have y10 := BY.cell 10
  have y11 := BY.cell 11
  have x0 := BE.cell 0
  have x1 := BE.cell 1
  have x2 := BE.cell 2
  have x3 := BE.cell 3
  have x4 := BE.cell 4
  have p0 := BP.cell 0
  have p1 := BP.cell 1
  have p2 := BP.cell 2
  have p3 := BP.cell 3
  have p4 := BP.cell 4
  rcases G' with _ | _
  rotate_left
  · skip
    go_wp2_with fail
    go_ret
    exact ⟨rfl, h3⟩
  go_wp2_with fail
  refine (HGX.out W3 h3).mono ?_
  rintro e W4 ⟨rfl, hb⟩
  have h4 := h3.trans (hb.mono h3.size)
  replace BX := BX.below hb
  replace BY := BY.below hb
  replace BE := BE.below hb
  replace BP := BP.below hb
  clear z0 z1 z2 z3 z4 z5 z6 z7 z8 z9 z10 z11 y0 y1 y2 y3 y4 y5 y6 y7 y8 y9 y10 y11 x0 x1 x2 x3 x4 p0 p1 p2 p3 p4 hb h3 HGX
  have z0 := BX.cell 0
  have z1 := BX.cell 1
  have z2 := BX.cell 2
  have z3 := BX.cell 3
  have z4 := BX.cell 4
  have z5 := BX.cell 5
  have z6 := BX.cell 6
  have z7 := BX.cell 7
  have z8 := BX.cell 8
  have z9 := BX.cell 9
  have z10 := BX.cell 10
  have z11 := BX.cell 11
  have y0 := BY.cell 0
  have y1 := BY.cell 1
  have y2 := BY.cell 2
  have y3 := BY.cell 3
  have y4 := BY.cell 4
  have y5 := BY.cell 5
  have y6 := BY.cell 6
  have y7 := BY.cell 7
  have y8 := BY.cell 8
  have y9 := BY.cell 9
  have y10 := BY.cell 10
  have y11 := BY.cell 11
  have x0 := BE.cell 0
  have x1 := BE.cell 1
  have x2 := BE.cell 2
  have x3 := BE.cell 3
  have x4 := BE.cell 4
  have p0 := BP.cell 0
  have p1 := BP.cell 1
  have p2 := BP.cell 2
  have p3 := BP.cell 3
  have p4 := BP.cell 4
  rcases GX with _ | _
  rotate_left
  · skip
    go_wp2_with fail
    go_ret
    exact ⟨rfl, h4⟩
  go_wp2_with fail
  refine (HGP.out W4 h4).mono ?_
  rintro e W5 ⟨rfl, hb⟩
  have h5 := h4.trans (hb.mono h4.size)
  replace BX := BX.below hb
  replace BY := BY.below hb
  replace BE := BE.below hb
  replace BP := BP.below hb
  clear z0 z1 z2 z3 z4 z5 z6 z7 z8 z9 z10 z11 y0 y1 y2 y3 y4 y5 y6 y7 y8 y9 y10 y11 x0 x1 x2 x3 x4 p0 p1 p2 p3 p4 hb h4 HGP
  have z0 := BX.cell 0
  have z1 := BX.cell 1
  have z2 := BX.cell 2
  have z3 := BX.cell 3
  have z4 := BX.cell 4
  have z5 := BX.cell 5
  have z6 := BX.cell 6
  have z7 := BX.cell 7
  have z8 := BX.cell 8
  have z9 := BX.cell 9
  have z10 := BX.cell 10
  have z11 := BX.cell 11
  have y0 := BY.cell 0
  have y1 := BY.cell 1
  have y2 := BY.cell 2
  have y3 := BY.cell 3
  have y4 := BY.cell 4
  have y5 := BY.cell 5
  have y6 := BY.cell 6
  have y7 := BY.cell 7
  have y8 := BY.cell 8
  have y9 := BY.cell 9
  have y10 := BY.cell 10
  have y11 := BY.cell 11
  have x0 := BE.cell 0
  have x1 := BE.cell 1
  have x2 := BE.cell 2
  have x3 := BE.cell 3
  have x4 := BE.cell 4
  have p0 := BP.cell 0
  have p1 := BP.cell 1
  have p2 := BP.cell 2
  have p3 := BP.cell 3
  have p4 := BP.cell 4
  rcases GP with _ | _
  rotate_left
  · skip
    go_wp2_with fail
    go_ret
    exact ⟨rfl, h5⟩
  have HS := Lib.hid (HSM.out (by first | rfl | trivial))
  have HS' := Lib.hid (HSM'.out (by first | rfl | trivial))
  have HX := Lib.hid (HSX.out (by first | rfl | trivial))
  have HP := Lib.hid (HSP.out (by first | rfl | trivial))
  clear HSM HSM' HSX HSP
  by_cases hww : who.size + what.size ≤ 100
  rotate_left
  · have hww' : (who.size : Int) + (what.size : Int) > 100 := by omega
    go_wp2_with fail
    go_ret
    exact ⟨rfl, h5⟩
  have hww' : ¬ (who.size : Int) + (what.size : Int) > 100 := by omega
  by_cases hdl : l.length ≤ 120
  rotate_left
  · have hdl' : (l.length : Int) > 120 := by omega
    go_wp2_with fail
    go_ret
    exact ⟨rfl, h5⟩
  have hdl' : ¬ (l.length : Int) > 120 := by omega
  have HWW := Lib.hid hww
  have HDL := Lib.hid hdl
  clear hww hdl
  have HCK := Lib.hid (fun W (h : Below w.heap.size w W) => ccheck_any (F + 1) c ⟨t, .slice Au ku cu, .slice Ad kd cd, .slice As ks cs⟩ W (CV.below h _ HC.out) (HLL.out W h) (HVV.out W h) HS.out)
  have HCK' := Lib.hid (fun W (h : Below w.heap.size w W) => ccheck_any (F + 1) c' ⟨t', .slice Au' ku' cu', .slice Ad' kd' cd', .slice As' ks' cs'⟩ W (CV.below h _ HC'.out) (HLL.out W h) (HVV.out W h) HS'.out)
  have HNU := Lib.hid (fun W (h : Below w.heap.size w W) => xnumber_any (F + 1) x _ W (XV.below h _ HXV.out) (HLL.out W h) (HVV.out W h) HX.out)
  have HTR := Lib.hid (fun W (h : Below w.heap.size w W) => xtruth_any (F + 1) p _ W (XV.below h _ HPV.out) (HLL.out W h) (HVV.out W h) HP.out)
  have HN1 := Lib.hid (fun W => name_any who W (by have := HWW.out; unfold maxLen; omega))
  have HN2 := Lib.hid (fun W => name_any what W (by have := HWW.out; unfold maxLen; omega))
  have HDY := Lib.hid (fun W (h : Below w.heap.size w W) => rdays_any _ l W (SL.below HDV.out h))
  unfold CR.ag at HCK HCK'
  simp only at HCK HCK'
  obtain ⟨E, HE⟩ : ∃ E, Hid (E = Z.coE (F + 1 + 1) c) := ⟨_, Lib.hid rfl⟩
  obtain ⟨E', HE'⟩ : ∃ E, Hid (E = Z.coE (F + 1 + 1) c') := ⟨_, Lib.hid rfl⟩
  obtain ⟨NU, HNUE⟩ : ∃ b, Hid (b = Z.numB (F + 1 + 1) x) := ⟨_, Lib.hid rfl⟩
  obtain ⟨TR, HTRE⟩ : ∃ b, Hid (b = Z.truB (F + 1 + 1) p) := ⟨_, Lib.hid rfl⟩
  obtain ⟨B1, HB1⟩ : ∃ b, Hid (b = Z.nameB who) := ⟨_, Lib.hid rfl⟩
  obtain ⟨B2, HB2⟩ : ∃ b, Hid (b = Z.nameB what) := ⟨_, Lib.hid rfl⟩
  obtain ⟨DY, HDYE⟩ : ∃ b, Hid (b = Z.daysB l) := ⟨_, Lib.hid rfl⟩
  rw [← HE.out] at HCK
  rw [← HE'.out] at HCK'
  rw [← HNUE.out] at HNU
  rw [← HTRE.out] at HTR
  rw [← HB1.out] at HN1
  rw [← HB2.out] at HN2
  rw [← HDYE.out] at HDY
  go_wp2_with fail
  refine (HCK.out W5 h5).mono ?_
  rintro e W6 ⟨rfl, hb⟩
  have h6 := h5.trans (hb.mono h5.size)
  replace BX := BX.below hb
  replace BY := BY.below hb
  replace BE := BE.below hb
  replace BP := BP.below hb
  clear z0 z1 z2 z3 z4 z5 z6 z7 z8 z9 z10 z11 y0 y1 y2 y3 y4 y5 y6 y7 y8 y9 y10 y11 x0 x1 x2 x3 x4 p0 p1 p2 p3 p4 hb h5 HCK
  have z0 := BX.cell 0
  have z1 := BX.cell 1
  have z2 := BX.cell 2
  have z3 := BX.cell 3
  have z4 := BX.cell 4
  have z5 := BX.cell 5
  have z6 := BX.cell 6
  have z7 := BX.cell 7
  have z8 := BX.cell 8
  have z9 := BX.cell 9
  have z10 := BX.cell 10
  have z11 := BX.cell 11
  have y0 := BY.cell 0
  have y1 := BY.cell 1
  have y2 := BY.cell 2
  have y3 := BY.cell 3
  have y4 := BY.cell 4
  have y5 := BY.cell 5
  have y6 := BY.cell 6
  have y7 := BY.cell 7
  have y8 := BY.cell 8
  have y9 := BY.cell 9
  have y10 := BY.cell 10
  have y11 := BY.cell 11
  have x0 := BE.cell 0
  have x1 := BE.cell 1
  have x2 := BE.cell 2
  have x3 := BE.cell 3
  have x4 := BE.cell 4
  have p0 := BP.cell 0
  have p1 := BP.cell 1
  have p2 := BP.cell 2
  have p3 := BP.cell 3
  have p4 := BP.cell 4
  by_cases he : E = 0
  rotate_left
  · have he' : (E == 0) = false := by rw [beq_eq_false_iff_ne]; exact he
    go_wp2_with fail
    go_ret
    exact ⟨rfl, h6⟩
  subst he
  go_wp2_with fail
  refine (HCK'.out W6 h6).mono ?_
  rintro e W7 ⟨rfl, hb⟩
  have h7 := h6.trans (hb.mono h6.size)
  replace BX := BX.below hb
  replace BY := BY.below hb
  replace BE := BE.below hb
  replace BP := BP.below hb
  clear z0 z1 z2 z3 z4 z5 z6 z7 z8 z9 z10 z11 y0 y1 y2 y3 y4 y5 y6 y7 y8 y9 y10 y11 x0 x1 x2 x3 x4 p0 p1 p2 p3 p4 hb h6 HCK'
  have z0 := BX.cell 0
  have z1 := BX.cell 1
  have z2 := BX.cell 2
  have z3 := BX.cell 3
  have z4 := BX.cell 4
  have z5 := BX.cell 5
  have z6 := BX.cell 6
  have z7 := BX.cell 7
  have z8 := BX.cell 8
  have z9 := BX.cell 9
  have z10 := BX.cell 10
  have z11 := BX.cell 11
  have y0 := BY.cell 0
  have y1 := BY.cell 1
  have y2 := BY.cell 2
  have y3 := BY.cell 3
  have y4 := BY.cell 4
  have y5 := BY.cell 5
  have y6 := BY.cell 6
  have y7 := BY.cell 7
  have y8 := BY.cell 8
  have y9 := BY.cell 9
  have y10 := BY.cell 10
  have y11 := BY.cell 11
  have x0 := BE.cell 0
  have x1 := BE.cell 1
  have x2 := BE.cell 2
  have x3 := BE.cell 3
  have x4 := BE.cell 4
  have p0 := BP.cell 0
  have p1 := BP.cell 1
  have p2 := BP.cell 2
  have p3 := BP.cell 3
  have p4 := BP.cell 4
  by_cases he : E' = 0
  rotate_left
  · have he' : (E' == 0) = false := by rw [beq_eq_false_iff_ne]; exact he
    go_wp2_with fail
    go_ret
    exact ⟨rfl, h7⟩
  subst he
  go_wp2_with fail
  refine (HNU.out W7 h7).mono ?_
  rintro e W8 ⟨rfl, hb⟩
  have h8 := h7.trans (hb.mono h7.size)
  replace BX := BX.below hb
  replace BY := BY.below hb
  replace BE := BE.below hb
  replace BP := BP.below hb
  clear z0 z1 z2 z3 z4 z5 z6 z7 z8 z9 z10 z11 y0 y1 y2 y3 y4 y5 y6 y7 y8 y9 y10 y11 x0 x1 x2 x3 x4 p0 p1 p2 p3 p4 hb h7 HNU
  have z0 := BX.cell 0
  have z1 := BX.cell 1
  have z2 := BX.cell 2
  have z3 := BX.cell 3
  have z4 := BX.cell 4
  have z5 := BX.cell 5
  have z6 := BX.cell 6
  have z7 := BX.cell 7
  have z8 := BX.cell 8
  have z9 := BX.cell 9
  have z10 := BX.cell 10
  have z11 := BX.cell 11
  have y0 := BY.cell 0
  have y1 := BY.cell 1
  have y2 := BY.cell 2
  have y3 := BY.cell 3
  have y4 := BY.cell 4
  have y5 := BY.cell 5
  have y6 := BY.cell 6
  have y7 := BY.cell 7
  have y8 := BY.cell 8
  have y9 := BY.cell 9
  have y10 := BY.cell 10
  have y11 := BY.cell 11
  have x0 := BE.cell 0
  have x1 := BE.cell 1
  have x2 := BE.cell 2
  have x3 := BE.cell 3
  have x4 := BE.cell 4
  have p0 := BP.cell 0
  have p1 := BP.cell 1
  have p2 := BP.cell 2
  have p3 := BP.cell 3
  have p4 := BP.cell 4
  rcases NU with _ | _
  · skip
    go_wp2_with fail
    go_ret
    exact ⟨rfl, h8⟩
  go_wp2_with fail
  refine (HTR.out W8 h8).mono ?_
  rintro e W9 ⟨rfl, hb⟩
  have h9 := h8.trans (hb.mono h8.size)
  replace BX := BX.below hb
  replace BY := BY.below hb
  replace BE := BE.below hb
  replace BP := BP.below hb
  clear z0 z1 z2 z3 z4 z5 z6 z7 z8 z9 z10 z11 y0 y1 y2 y3 y4 y5 y6 y7 y8 y9 y10 y11 x0 x1 x2 x3 x4 p0 p1 p2 p3 p4 hb h8 HTR
  have z0 := BX.cell 0
  have z1 := BX.cell 1
  have z2 := BX.cell 2
  have z3 := BX.cell 3
  have z4 := BX.cell 4
  have z5 := BX.cell 5
  have z6 := BX.cell 6
  have z7 := BX.cell 7
  have z8 := BX.cell 8
  have z9 := BX.cell 9
  have z10 := BX.cell 10
  have z11 := BX.cell 11
  have y0 := BY.cell 0
  have y1 := BY.cell 1
  have y2 := BY.cell 2
  have y3 := BY.cell 3
  have y4 := BY.cell 4
  have y5 := BY.cell 5
  have y6 := BY.cell 6
  have y7 := BY.cell 7
  have y8 := BY.cell 8
  have y9 := BY.cell 9
  have y10 := BY.cell 10
  have y11 := BY.cell 11
  have x0 := BE.cell 0
  have x1 := BE.cell 1
  have x2 := BE.cell 2
  have x3 := BE.cell 3
  have x4 := BE.cell 4
  have p0 := BP.cell 0
  have p1 := BP.cell 1
  have p2 := BP.cell 2
  have p3 := BP.cell 3
  have p4 := BP.cell 4
  rcases TR with _ | _
  · skip
    go_wp2_with fail
    go_ret
    exact ⟨rfl, h9⟩
  go_wp2_with fail
  refine (HN1.out W9).mono ?_
  rintro e W10 ⟨rfl, rfl⟩
  rcases B1 with _ | _
  · skip
    go_wp2_with fail
    go_ret
    exact ⟨rfl, h9⟩
  go_wp2_with fail
  refine (HN2.out W9).mono ?_
  rintro e W10 ⟨rfl, rfl⟩
  rcases B2 with _ | _
  · skip
    go_wp2_with fail
    go_ret
    exact ⟨rfl, h9⟩
  by_cases hda : day < 0
  · skip
    go_wp2_with fail
    go_ret
    exact ⟨rfl, h9⟩
  by_cases hdb : day > 99999
  · skip
    go_wp2_with fail
    go_ret
    exact ⟨rfl, h9⟩
  have HDC : Hid (Z.dayC day = true) := Lib.hid (by unfold Z.dayC; simp; omega)
  go_wp2_with fail
  refine (HDY.out W9 h9).mono ?_
  rintro e W10 ⟨rfl, hb⟩
  have h10 := h9.trans (hb.mono h9.size)
  replace BX := BX.below hb
  replace BY := BY.below hb
  replace BE := BE.below hb
  replace BP := BP.below hb
  clear z0 z1 z2 z3 z4 z5 z6 z7 z8 z9 z10 z11 y0 y1 y2 y3 y4 y5 y6 y7 y8 y9 y10 y11 x0 x1 x2 x3 x4 p0 p1 p2 p3 p4 hb h9 HDY
  have z0 := BX.cell 0
  have z1 := BX.cell 1
  have z2 := BX.cell 2
  have z3 := BX.cell 3
  have z4 := BX.cell 4
  have z5 := BX.cell 5
  have z6 := BX.cell 6
  have z7 := BX.cell 7
  have z8 := BX.cell 8
  have z9 := BX.cell 9
  have z10 := BX.cell 10
  have z11 := BX.cell 11
  have y0 := BY.cell 0
  have y1 := BY.cell 1
  have y2 := BY.cell 2
  have y3 := BY.cell 3
  have y4 := BY.cell 4
  have y5 := BY.cell 5
  have y6 := BY.cell 6
  have y7 := BY.cell 7
  have y8 := BY.cell 8
  have y9 := BY.cell 9
  have y10 := BY.cell 10
  have y11 := BY.cell 11
  have x0 := BE.cell 0
  have x1 := BE.cell 1
  have x2 := BE.cell 2
  have x3 := BE.cell 3
  have x4 := BE.cell 4
  have p0 := BP.cell 0
  have p1 := BP.cell 1
  have p2 := BP.cell 2
  have p3 := BP.cell 3
  have p4 := BP.cell 4
  rcases DY with _ | _
  · skip
    go_wp2_with fail
    go_ret
    exact ⟨rfl, h10⟩
  have HM := Lib.hid (Z.mdL_made (a := c) (b := c') (x := x) (p := p) (who := who) (what := what) (day := day) (days := l) HNUE.out.symm HTRE.out.symm HB1.out.symm HB2.out.symm HDC.out HDYE.out.symm HX.out HP.out (by have := HWW.out; omega) (by have := HWW.out; omega))
  have HPA := Lib.hid (fun W (h : Below w.heap.size w W) => cparties_any (F + 1) c ⟨t, .slice Au ku cu, .slice Ad kd cd, .slice As ks cs⟩ W (CV.below h _ HC.out) (HLL.out W h) (HVV.out W h) HS.out)
  have HPB := Lib.hid (fun W (h : Below w.heap.size w W) => cparties_any (F + 1) c' ⟨t', .slice Au' ku' cu', .slice Ad' kd' cd', .slice As' ks' cs'⟩ W (CV.below h _ HC'.out) (HLL.out W h) (HVV.out W h) HS'.out)
  have HHA := Lib.hid (fun W (h : Below w.heap.size w W) => chor_any (F + 1) c ⟨t, .slice Au ku cu, .slice Ad kd cd, .slice As ks cs⟩ W (CV.below h _ HC.out) (HLL.out W h) (HVV.out W h) HS.out)
  have HMA := Lib.hid (fun W (h : Below w.heap.size w W) => cmoneys_any (F + 1) c ⟨t, .slice Au ku cu, .slice Ad kd cd, .slice As ks cs⟩ W (CV.below h _ HC.out) (HLL.out W h) (HVV.out W h) HS.out)
  have hwa : Z.wordsL Z.pw (F + 1 + 1) c = Z.uniqW (Z.allW Z.pw (F + 1 + 1) c) := if_pos HE.out.symm
  have hwb : Z.wordsL Z.pw (F + 1 + 1) c' = Z.uniqW (Z.allW Z.pw (F + 1 + 1) c') := if_pos HE'.out.symm
  have hwm : Z.wordsL Z.mw (F + 1 + 1) c = Z.uniqW (Z.allW Z.mw (F + 1 + 1) c) := if_pos HE.out.symm
  rw [← HE.out, hwa] at HPA
  rw [← HE'.out, hwb] at HPB
  rw [← HE.out] at HHA
  rw [← HE.out, hwm] at HMA
  unfold CR.ag at HPA HPB HHA HMA
  simp only at HPA HPB HHA HMA
  clear hwa hwb hwm HNUE HTRE HB1 HB2 hww' hdl'
  obtain ⟨pa, hpa⟩ : ∃ q, q = Z.uniqW (Z.allW Z.pw (F + 1 + 1) c) := ⟨_, rfl⟩
  obtain ⟨pb, hpb⟩ : ∃ q, q = Z.uniqW (Z.allW Z.pw (F + 1 + 1) c') := ⟨_, rfl⟩
  obtain ⟨ma, hma⟩ : ∃ q, q = Z.uniqW (Z.allW Z.mw (F + 1 + 1) c) := ⟨_, rfl⟩
  obtain ⟨ho, hho⟩ : ∃ q, q = Z.horZ (F + 1 + 1) c := ⟨_, rfl⟩
  rw [← hpa] at HPA
  rw [← hpb] at HPB
  rw [← hma] at HMA
  rw [← hho] at HHA
  have HPAE := Lib.hid hpa
  have HPBE := Lib.hid hpb
  have HMAE := Lib.hid hma
  have HHOE := Lib.hid hho
  clear hpa hpb hma hho
  go_wp2_with fail
  clear hda hdb
  refine (HPA.out W10 h10).mono ?_
  rintro e W11 ⟨v11, rfl, hO1, hb⟩
  obtain ⟨A11, c11, rfl⟩ := OL.shape hO1
  have HO1 := Lib.hid hO1
  clear hO1
  have h11 := h10.trans (hb.mono h10.size)
  replace BX := BX.below hb
  replace BY := BY.below hb
  replace BE := BE.below hb
  replace BP := BP.below hb
  clear z0 z1 z2 z3 z4 z5 z6 z7 z8 z9 z10 z11 y0 y1 y2 y3 y4 y5 y6 y7 y8 y9 y10 y11 x0 x1 x2 x3 x4 p0 p1 p2 p3 p4 hb h10 HPA
  have z0 := BX.cell 0
  have z1 := BX.cell 1
  have z2 := BX.cell 2
  have z3 := BX.cell 3
  have z4 := BX.cell 4
  have z5 := BX.cell 5
  have z6 := BX.cell 6
  have z7 := BX.cell 7
  have z8 := BX.cell 8
  have z9 := BX.cell 9
  have z10 := BX.cell 10
  have z11 := BX.cell 11
  have y0 := BY.cell 0
  have y1 := BY.cell 1
  have y2 := BY.cell 2
  have y3 := BY.cell 3
  have y4 := BY.cell 4
  have y5 := BY.cell 5
  have y6 := BY.cell 6
  have y7 := BY.cell 7
  have y8 := BY.cell 8
  have y9 := BY.cell 9
  have y10 := BY.cell 10
  have y11 := BY.cell 11
  have x0 := BE.cell 0
  have x1 := BE.cell 1
  have x2 := BE.cell 2
  have x3 := BE.cell 3
  have x4 := BE.cell 4
  have p0 := BP.cell 0
  have p1 := BP.cell 1
  have p2 := BP.cell 2
  have p3 := BP.cell 3
  have p4 := BP.cell 4
  go_wp2_with fail
  refine (HPB.out W11 h11).mono ?_
  rintro e W12 ⟨v12, rfl, hO2, hb⟩
  obtain ⟨A12, c12, rfl⟩ := OL.shape hO2
  replace HO1 := Lib.hid (OL.below HO1.out hb)
  have HO2 := Lib.hid hO2
  clear hO2
  have h12 := h11.trans (hb.mono h11.size)
  replace BX := BX.below hb
  replace BY := BY.below hb
  replace BE := BE.below hb
  replace BP := BP.below hb
  clear z0 z1 z2 z3 z4 z5 z6 z7 z8 z9 z10 z11 y0 y1 y2 y3 y4 y5 y6 y7 y8 y9 y10 y11 x0 x1 x2 x3 x4 p0 p1 p2 p3 p4 hb h11 HPB
  have z0 := BX.cell 0
  have z1 := BX.cell 1
  have z2 := BX.cell 2
  have z3 := BX.cell 3
  have z4 := BX.cell 4
  have z5 := BX.cell 5
  have z6 := BX.cell 6
  have z7 := BX.cell 7
  have z8 := BX.cell 8
  have z9 := BX.cell 9
  have z10 := BX.cell 10
  have z11 := BX.cell 11
  have y0 := BY.cell 0
  have y1 := BY.cell 1
  have y2 := BY.cell 2
  have y3 := BY.cell 3
  have y4 := BY.cell 4
  have y5 := BY.cell 5
  have y6 := BY.cell 6
  have y7 := BY.cell 7
  have y8 := BY.cell 8
  have y9 := BY.cell 9
  have y10 := BY.cell 10
  have y11 := BY.cell 11
  have x0 := BE.cell 0
  have x1 := BE.cell 1
  have x2 := BE.cell 2
  have x3 := BE.cell 3
  have x4 := BE.cell 4
  have p0 := BP.cell 0
  have p1 := BP.cell 1
  have p2 := BP.cell 2
  have p3 := BP.cell 3
  have p4 := BP.cell 4
  go_wp2_with fail
  refine (HHA.out W12 h12).mono ?_
  rintro e W13 ⟨rfl, hb⟩
  replace HO1 := Lib.hid (OL.below HO1.out hb)
  replace HO2 := Lib.hid (OL.below HO2.out hb)
  have h13 := h12.trans (hb.mono h12.size)
  replace BX := BX.below hb
  replace BY := BY.below hb
  replace BE := BE.below hb
  replace BP := BP.below hb
  clear z0 z1 z2 z3 z4 z5 z6 z7 z8 z9 z10 z11 y0 y1 y2 y3 y4 y5 y6 y7 y8 y9 y10 y11 x0 x1 x2 x3 x4 p0 p1 p2 p3 p4 hb h12 HHA
  have z0 := BX.cell 0
  have z1 := BX.cell 1
  have z2 := BX.cell 2
  have z3 := BX.cell 3
  have z4 := BX.cell 4
  have z5 := BX.cell 5
  have z6 := BX.cell 6
  have z7 := BX.cell 7
  have z8 := BX.cell 8
  have z9 := BX.cell 9
  have z10 := BX.cell 10
  have z11 := BX.cell 11
  have y0 := BY.cell 0
  have y1 := BY.cell 1
  have y2 := BY.cell 2
  have y3 := BY.cell 3
  have y4 := BY.cell 4
  have y5 := BY.cell 5
  have y6 := BY.cell 6
  have y7 := BY.cell 7
  have y8 := BY.cell 8
  have y9 := BY.cell 9
  have y10 := BY.cell 10
  have y11 := BY.cell 11
  have x0 := BE.cell 0
  have x1 := BE.cell 1
  have x2 := BE.cell 2
  have x3 := BE.cell 3
  have x4 := BE.cell 4
  have p0 := BP.cell 0
  have p1 := BP.cell 1
  have p2 := BP.cell 2
  have p3 := BP.cell 3
  have p4 := BP.cell 4
  go_wp2_with fail
  refine (HMA.out W13 h13).mono ?_
  rintro e W ⟨v14, rfl, hO3, hb⟩
  obtain ⟨A14, c14, rfl⟩ := OL.shape hO3
  replace HO1 := Lib.hid (OL.below HO1.out hb)
  replace HO2 := Lib.hid (OL.below HO2.out hb)
  have HO3 := Lib.hid hO3
  clear hO3
  have h14 := h13.trans (hb.mono h13.size)
  replace BX := BX.below hb
  replace BY := BY.below hb
  replace BE := BE.below hb
  replace BP := BP.below hb
  clear z0 z1 z2 z3 z4 z5 z6 z7 z8 z9 z10 z11 y0 y1 y2 y3 y4 y5 y6 y7 y8 y9 y10 y11 x0 x1 x2 x3 x4 p0 p1 p2 p3 p4 hb h13 HMA
  have z0 := BX.cell 0
  have z1 := BX.cell 1
  have z2 := BX.cell 2
  have z3 := BX.cell 3
  have z4 := BX.cell 4
  have z5 := BX.cell 5
  have z6 := BX.cell 6
  have z7 := BX.cell 7
  have z8 := BX.cell 8
  have z9 := BX.cell 9
  have z10 := BX.cell 10
  have z11 := BX.cell 11
  have y0 := BY.cell 0
  have y1 := BY.cell 1
  have y2 := BY.cell 2
  have y3 := BY.cell 3
  have y4 := BY.cell 4
  have y5 := BY.cell 5
  have y6 := BY.cell 6
  have y7 := BY.cell 7
  have y8 := BY.cell 8
  have y9 := BY.cell 9
  have y10 := BY.cell 10
  have y11 := BY.cell 11
  have x0 := BE.cell 0
  have x1 := BE.cell 1
  have x2 := BE.cell 2
  have x3 := BE.cell 3
  have x4 := BE.cell 4
  have p0 := BP.cell 0
  have p1 := BP.cell 1
  have p2 := BP.cell 2
  have p3 := BP.cell 3
  have p4 := BP.cell 4
  have lt0 := BX.lt
  have lt1 := BY.lt
  have lt2 := BE.lt
  have lt3 := BP.lt
  have lt0_1 : w.heap.size < W.heap.size + 1 := by omega
  have lt0_2 : w.heap.size < W.heap.size + 1 + 1 := by omega
  have lt0_3 : w.heap.size < W.heap.size + 1 + 1 + 1 := by omega
  have lt0_4 : w.heap.size < W.heap.size + 1 + 1 + 1 + 1 := by omega
  have lt0_5 : w.heap.size < W.heap.size + 1 + 1 + 1 + 1 + 1 := by omega
  have lt0_6 : w.heap.size < W.heap.size + 1 + 1 + 1 + 1 + 1 + 1 := by omega
  have lt0_7 : w.heap.size < W.heap.size + 1 + 1 + 1 + 1 + 1 + 1 + 1 := by omega
  have lt1_1 : w.heap.size + 1 < W.heap.size + 1 := by omega
  have lt1_2 : w.heap.size + 1 < W.heap.size + 1 + 1 := by omega
  have lt1_3 : w.heap.size + 1 < W.heap.size + 1 + 1 + 1 := by omega
  have lt1_4 : w.heap.size + 1 < W.heap.size + 1 + 1 + 1 + 1 := by omega
  have lt1_5 : w.heap.size + 1 < W.heap.size + 1 + 1 + 1 + 1 + 1 := by omega
  have lt1_6 : w.heap.size + 1 < W.heap.size + 1 + 1 + 1 + 1 + 1 + 1 := by omega
  have lt1_7 : w.heap.size + 1 < W.heap.size + 1 + 1 + 1 + 1 + 1 + 1 + 1 := by omega
  have lt2_1 : w.heap.size + 1 + 1 < W.heap.size + 1 := by omega
  have lt2_2 : w.heap.size + 1 + 1 < W.heap.size + 1 + 1 := by omega
  have lt2_3 : w.heap.size + 1 + 1 < W.heap.size + 1 + 1 + 1 := by omega
  have lt2_4 : w.heap.size + 1 + 1 < W.heap.size + 1 + 1 + 1 + 1 := by omega
  have lt2_5 : w.heap.size + 1 + 1 < W.heap.size + 1 + 1 + 1 + 1 + 1 := by omega
  have lt2_6 : w.heap.size + 1 + 1 < W.heap.size + 1 + 1 + 1 + 1 + 1 + 1 := by omega
  have lt2_7 : w.heap.size + 1 + 1 < W.heap.size + 1 + 1 + 1 + 1 + 1 + 1 + 1 := by omega
  have lt3_1 : w.heap.size + 1 + 1 + 1 < W.heap.size + 1 := by omega
  have lt3_2 : w.heap.size + 1 + 1 + 1 < W.heap.size + 1 + 1 := by omega
  have lt3_3 : w.heap.size + 1 + 1 + 1 < W.heap.size + 1 + 1 + 1 := by omega
  have lt3_4 : w.heap.size + 1 + 1 + 1 < W.heap.size + 1 + 1 + 1 + 1 := by omega
  have lt3_5 : w.heap.size + 1 + 1 + 1 < W.heap.size + 1 + 1 + 1 + 1 + 1 := by omega
  have lt3_6 : w.heap.size + 1 + 1 + 1 < W.heap.size + 1 + 1 + 1 + 1 + 1 + 1 := by omega
  have lt3_7 : w.heap.size + 1 + 1 + 1 < W.heap.size + 1 + 1 + 1 + 1 + 1 + 1 + 1 := by omega
  go_wp2_with fail
  clear z0 z1 z2 z3 z4 z5 z6 z7 z8 z9 z10 z11 y0 y1 y2 y3 y4 y5 y6 y7 y8 y9 y10 y11 x0 x1 x2 x3 x4 p0 p1 p2 p3 p4 lt0 lt1 lt2 lt3 lt0_1 lt0_2 lt0_3 lt0_4 lt0_5 lt0_6 lt0_7 lt1_1 lt1_2 lt1_3 lt1_4 lt1_5 lt1_6 lt1_7 lt2_1 lt2_2 lt2_3 lt2_4 lt2_5 lt2_6 lt2_7 lt3_1 lt3_2 lt3_3 lt3_4 lt3_5 lt3_6 lt3_7
  have hM := Below.refl W.heap.size W
  have o0 := OL.lit (e := 29) (enc := CR.vs (m := F + 1)) CR.vs_len W [⟨t, .slice Au ku cu, .slice Ad kd cd, .slice As ks cs⟩, ⟨t', .slice Au' ku' cu', .slice Ad' kd' cd', .slice As' ks' cs'⟩] 2 #[.int .u8 t.k, .string t.fr, .string t.tu, .string t.nm, .int .u8 t.ex.top.k, .string t.ex.top.rat, .string t.ex.top.name, .int .i64 t.ex.top.date, .slice Au ku cu, .int .i64 t.date, .slice Ad kd cd, .slice As ks cs, .int .u8 t'.k, .string t'.fr, .string t'.tu, .string t'.nm, .int .u8 t'.ex.top.k, .string t'.ex.top.rat, .string t'.ex.top.name, .int .i64 t'.ex.top.date, .slice Au' ku' cu', .int .i64 t'.date, .slice Ad' kd' cd', .slice As' ks' cs'] rfl rfl (by simp)
  have kb := (Below.refl W.heap.size W).alloc (Nat.le_refl _) (.cells #[.int .u8 t.k, .string t.fr, .string t.tu, .string t.nm, .int .u8 t.ex.top.k, .string t.ex.top.rat, .string t.ex.top.name, .int .i64 t.ex.top.date, .slice Au ku cu, .int .i64 t.date, .slice Ad kd cd, .slice As ks cs, .int .u8 t'.k, .string t'.fr, .string t'.tu, .string t'.nm, .int .u8 t'.ex.top.k, .string t'.ex.top.rat, .string t'.ex.top.name, .int .i64 t'.ex.top.date, .slice Au' ku' cu', .int .i64 t'.date, .slice Ad' kd' cd', .slice As' ks' cs'] 29)
  have hs0 : (W.alloc (.cells #[.int .u8 t.k, .string t.fr, .string t.tu, .string t.nm, .int .u8 t.ex.top.k, .string t.ex.top.rat, .string t.ex.top.name, .int .i64 t.ex.top.date, .slice Au ku cu, .int .i64 t.date, .slice Ad kd cd, .slice As ks cs, .int .u8 t'.k, .string t'.fr, .string t'.tu, .string t'.nm, .int .u8 t'.ex.top.k, .string t'.ex.top.rat, .string t'.ex.top.name, .int .i64 t'.ex.top.date, .slice Au' ku' cu', .int .i64 t'.date, .slice Ad' kd' cd', .slice As' ks' cs'] 29)).heap.size = W.heap.size + 1 := by rw [World.size_alloc]
  generalize (W.alloc (.cells #[.int .u8 t.k, .string t.fr, .string t.tu, .string t.nm, .int .u8 t.ex.top.k, .string t.ex.top.rat, .string t.ex.top.name, .int .i64 t.ex.top.date, .slice Au ku cu, .int .i64 t.date, .slice Ad kd cd, .slice As ks cs, .int .u8 t'.k, .string t'.fr, .string t'.tu, .string t'.nm, .int .u8 t'.ex.top.k, .string t'.ex.top.rat, .string t'.ex.top.name, .int .i64 t'.ex.top.date, .slice Au' ku' cu', .int .i64 t'.date, .slice Ad' kd' cd', .slice As' ks' cs'] 29)) = M0 at *
  replace hM := hM.trans (kb.mono hM.size)
  clear kb
  have o1 := OL.lit (e := 29) (enc := CR.vs (m := F + 1)) CR.vs_len M0 [⟨t, .slice Au ku cu, .slice Ad kd cd, .slice As ks cs⟩] 1 #[.int .u8 t.k, .string t.fr, .string t.tu, .string t.nm, .int .u8 t.ex.top.k, .string t.ex.top.rat, .string t.ex.top.name, .int .i64 t.ex.top.date, .slice Au ku cu, .int .i64 t.date, .slice Ad kd cd, .slice As ks cs] rfl rfl (by simp)
  rw [hs0] at o1
  have kb := (Below.refl M0.heap.size M0).alloc (Nat.le_refl _) (.cells #[.int .u8 t.k, .string t.fr, .string t.tu, .string t.nm, .int .u8 t.ex.top.k, .string t.ex.top.rat, .string t.ex.top.name, .int .i64 t.ex.top.date, .slice Au ku cu, .int .i64 t.date, .slice Ad kd cd, .slice As ks cs] 29)
  have hs1 : (M0.alloc (.cells #[.int .u8 t.k, .string t.fr, .string t.tu, .string t.nm, .int .u8 t.ex.top.k, .string t.ex.top.rat, .string t.ex.top.name, .int .i64 t.ex.top.date, .slice Au ku cu, .int .i64 t.date, .slice Ad kd cd, .slice As ks cs] 29)).heap.size = W.heap.size + 1 + 1 := by rw [World.size_alloc, hs0]
  generalize (M0.alloc (.cells #[.int .u8 t.k, .string t.fr, .string t.tu, .string t.nm, .int .u8 t.ex.top.k, .string t.ex.top.rat, .string t.ex.top.name, .int .i64 t.ex.top.date, .slice Au ku cu, .int .i64 t.date, .slice Ad kd cd, .slice As ks cs] 29)) = M1 at *
  replace o0 := OL.below o0 kb
  replace hM := hM.trans (kb.mono hM.size)
  clear kb
  have o2 := OL.lit (e := 29) (enc := CR.vs (m := F + 1)) CR.vs_len M1 [⟨t, .slice Au ku cu, .slice Ad kd cd, .slice As ks cs⟩, ⟨t', .slice Au' ku' cu', .slice Ad' kd' cd', .slice As' ks' cs'⟩] 2 #[.int .u8 t.k, .string t.fr, .string t.tu, .string t.nm, .int .u8 t.ex.top.k, .string t.ex.top.rat, .string t.ex.top.name, .int .i64 t.ex.top.date, .slice Au ku cu, .int .i64 t.date, .slice Ad kd cd, .slice As ks cs, .int .u8 t'.k, .string t'.fr, .string t'.tu, .string t'.nm, .int .u8 t'.ex.top.k, .string t'.ex.top.rat, .string t'.ex.top.name, .int .i64 t'.ex.top.date, .slice Au' ku' cu', .int .i64 t'.date, .slice Ad' kd' cd', .slice As' ks' cs'] rfl rfl (by simp)
  rw [hs1] at o2
  have kb := (Below.refl M1.heap.size M1).alloc (Nat.le_refl _) (.cells #[.int .u8 t.k, .string t.fr, .string t.tu, .string t.nm, .int .u8 t.ex.top.k, .string t.ex.top.rat, .string t.ex.top.name, .int .i64 t.ex.top.date, .slice Au ku cu, .int .i64 t.date, .slice Ad kd cd, .slice As ks cs, .int .u8 t'.k, .string t'.fr, .string t'.tu, .string t'.nm, .int .u8 t'.ex.top.k, .string t'.ex.top.rat, .string t'.ex.top.name, .int .i64 t'.ex.top.date, .slice Au' ku' cu', .int .i64 t'.date, .slice Ad' kd' cd', .slice As' ks' cs'] 29)
  have hs2 : (M1.alloc (.cells #[.int .u8 t.k, .string t.fr, .string t.tu, .string t.nm, .int .u8 t.ex.top.k, .string t.ex.top.rat, .string t.ex.top.name, .int .i64 t.ex.top.date, .slice Au ku cu, .int .i64 t.date, .slice Ad kd cd, .slice As ks cs, .int .u8 t'.k, .string t'.fr, .string t'.tu, .string t'.nm, .int .u8 t'.ex.top.k, .string t'.ex.top.rat, .string t'.ex.top.name, .int .i64 t'.ex.top.date, .slice Au' ku' cu', .int .i64 t'.date, .slice Ad' kd' cd', .slice As' ks' cs'] 29)).heap.size = W.heap.size + 1 + 1 + 1 := by rw [World.size_alloc, hs1]
  generalize (M1.alloc (.cells #[.int .u8 t.k, .string t.fr, .string t.tu, .string t.nm, .int .u8 t.ex.top.k, .string t.ex.top.rat, .string t.ex.top.name, .int .i64 t.ex.top.date, .slice Au ku cu, .int .i64 t.date, .slice Ad kd cd, .slice As ks cs, .int .u8 t'.k, .string t'.fr, .string t'.tu, .string t'.nm, .int .u8 t'.ex.top.k, .string t'.ex.top.rat, .string t'.ex.top.name, .int .i64 t'.ex.top.date, .slice Au' ku' cu', .int .i64 t'.date, .slice Ad' kd' cd', .slice As' ks' cs'] 29)) = M2 at *
  replace o0 := OL.below o0 kb
  replace o1 := OL.below o1 kb
  replace hM := hM.trans (kb.mono hM.size)
  clear kb
  have o3 := OL.lit (e := 29) (enc := CR.vs (m := F + 1)) CR.vs_len M2 [⟨t, .slice Au ku cu, .slice Ad kd cd, .slice As ks cs⟩] 1 #[.int .u8 t.k, .string t.fr, .string t.tu, .string t.nm, .int .u8 t.ex.top.k, .string t.ex.top.rat, .string t.ex.top.name, .int .i64 t.ex.top.date, .slice Au ku cu, .int .i64 t.date, .slice Ad kd cd, .slice As ks cs] rfl rfl (by simp)
  rw [hs2] at o3
  have kb := (Below.refl M2.heap.size M2).alloc (Nat.le_refl _) (.cells #[.int .u8 t.k, .string t.fr, .string t.tu, .string t.nm, .int .u8 t.ex.top.k, .string t.ex.top.rat, .string t.ex.top.name, .int .i64 t.ex.top.date, .slice Au ku cu, .int .i64 t.date, .slice Ad kd cd, .slice As ks cs] 29)
  have hs3 : (M2.alloc (.cells #[.int .u8 t.k, .string t.fr, .string t.tu, .string t.nm, .int .u8 t.ex.top.k, .string t.ex.top.rat, .string t.ex.top.name, .int .i64 t.ex.top.date, .slice Au ku cu, .int .i64 t.date, .slice Ad kd cd, .slice As ks cs] 29)).heap.size = W.heap.size + 1 + 1 + 1 + 1 := by rw [World.size_alloc, hs2]
  generalize (M2.alloc (.cells #[.int .u8 t.k, .string t.fr, .string t.tu, .string t.nm, .int .u8 t.ex.top.k, .string t.ex.top.rat, .string t.ex.top.name, .int .i64 t.ex.top.date, .slice Au ku cu, .int .i64 t.date, .slice Ad kd cd, .slice As ks cs] 29)) = M3 at *
  replace o0 := OL.below o0 kb
  replace o1 := OL.below o1 kb
  replace o2 := OL.below o2 kb
  replace hM := hM.trans (kb.mono hM.size)
  clear kb
  have o4 := OL.lit (e := 29) (enc := CR.vs (m := F + 1)) CR.vs_len M3 [⟨t, .slice Au ku cu, .slice Ad kd cd, .slice As ks cs⟩, ⟨t', .slice Au' ku' cu', .slice Ad' kd' cd', .slice As' ks' cs'⟩] 2 #[.int .u8 t.k, .string t.fr, .string t.tu, .string t.nm, .int .u8 t.ex.top.k, .string t.ex.top.rat, .string t.ex.top.name, .int .i64 t.ex.top.date, .slice Au ku cu, .int .i64 t.date, .slice Ad kd cd, .slice As ks cs, .int .u8 t'.k, .string t'.fr, .string t'.tu, .string t'.nm, .int .u8 t'.ex.top.k, .string t'.ex.top.rat, .string t'.ex.top.name, .int .i64 t'.ex.top.date, .slice Au' ku' cu', .int .i64 t'.date, .slice Ad' kd' cd', .slice As' ks' cs'] rfl rfl (by simp)
  rw [hs3] at o4
  have kb := (Below.refl M3.heap.size M3).alloc (Nat.le_refl _) (.cells #[.int .u8 t.k, .string t.fr, .string t.tu, .string t.nm, .int .u8 t.ex.top.k, .string t.ex.top.rat, .string t.ex.top.name, .int .i64 t.ex.top.date, .slice Au ku cu, .int .i64 t.date, .slice Ad kd cd, .slice As ks cs, .int .u8 t'.k, .string t'.fr, .string t'.tu, .string t'.nm, .int .u8 t'.ex.top.k, .string t'.ex.top.rat, .string t'.ex.top.name, .int .i64 t'.ex.top.date, .slice Au' ku' cu', .int .i64 t'.date, .slice Ad' kd' cd', .slice As' ks' cs'] 29)
  have hs4 : (M3.alloc (.cells #[.int .u8 t.k, .string t.fr, .string t.tu, .string t.nm, .int .u8 t.ex.top.k, .string t.ex.top.rat, .string t.ex.top.name, .int .i64 t.ex.top.date, .slice Au ku cu, .int .i64 t.date, .slice Ad kd cd, .slice As ks cs, .int .u8 t'.k, .string t'.fr, .string t'.tu, .string t'.nm, .int .u8 t'.ex.top.k, .string t'.ex.top.rat, .string t'.ex.top.name, .int .i64 t'.ex.top.date, .slice Au' ku' cu', .int .i64 t'.date, .slice Ad' kd' cd', .slice As' ks' cs'] 29)).heap.size = W.heap.size + 1 + 1 + 1 + 1 + 1 := by rw [World.size_alloc, hs3]
  generalize (M3.alloc (.cells #[.int .u8 t.k, .string t.fr, .string t.tu, .string t.nm, .int .u8 t.ex.top.k, .string t.ex.top.rat, .string t.ex.top.name, .int .i64 t.ex.top.date, .slice Au ku cu, .int .i64 t.date, .slice Ad kd cd, .slice As ks cs, .int .u8 t'.k, .string t'.fr, .string t'.tu, .string t'.nm, .int .u8 t'.ex.top.k, .string t'.ex.top.rat, .string t'.ex.top.name, .int .i64 t'.ex.top.date, .slice Au' ku' cu', .int .i64 t'.date, .slice Ad' kd' cd', .slice As' ks' cs'] 29)) = M4 at *
  replace o0 := OL.below o0 kb
  replace o1 := OL.below o1 kb
  replace o2 := OL.below o2 kb
  replace o3 := OL.below o3 kb
  replace hM := hM.trans (kb.mono hM.size)
  clear kb
  have o5 := OL.lit (e := 29) (enc := CR.vs (m := F + 1)) CR.vs_len M4 [⟨t, .slice Au ku cu, .slice Ad kd cd, .slice As ks cs⟩] 1 #[.int .u8 t.k, .string t.fr, .string t.tu, .string t.nm, .int .u8 t.ex.top.k, .string t.ex.top.rat, .string t.ex.top.name, .int .i64 t.ex.top.date, .slice Au ku cu, .int .i64 t.date, .slice Ad kd cd, .slice As ks cs] rfl rfl (by simp)
  rw [hs4] at o5
  have kb := (Below.refl M4.heap.size M4).alloc (Nat.le_refl _) (.cells #[.int .u8 t.k, .string t.fr, .string t.tu, .string t.nm, .int .u8 t.ex.top.k, .string t.ex.top.rat, .string t.ex.top.name, .int .i64 t.ex.top.date, .slice Au ku cu, .int .i64 t.date, .slice Ad kd cd, .slice As ks cs] 29)
  have hs5 : (M4.alloc (.cells #[.int .u8 t.k, .string t.fr, .string t.tu, .string t.nm, .int .u8 t.ex.top.k, .string t.ex.top.rat, .string t.ex.top.name, .int .i64 t.ex.top.date, .slice Au ku cu, .int .i64 t.date, .slice Ad kd cd, .slice As ks cs] 29)).heap.size = W.heap.size + 1 + 1 + 1 + 1 + 1 + 1 := by rw [World.size_alloc, hs4]
  generalize (M4.alloc (.cells #[.int .u8 t.k, .string t.fr, .string t.tu, .string t.nm, .int .u8 t.ex.top.k, .string t.ex.top.rat, .string t.ex.top.name, .int .i64 t.ex.top.date, .slice Au ku cu, .int .i64 t.date, .slice Ad kd cd, .slice As ks cs] 29)) = M5 at *
  replace o0 := OL.below o0 kb
  replace o1 := OL.below o1 kb
  replace o2 := OL.below o2 kb
  replace o3 := OL.below o3 kb
  replace o4 := OL.below o4 kb
  replace hM := hM.trans (kb.mono hM.size)
  clear kb
  have o6 := OL.lit (e := 29) (enc := CR.vs (m := F + 1)) CR.vs_len M5 [⟨t, .slice Au ku cu, .slice Ad kd cd, .slice As ks cs⟩] 1 #[.int .u8 t.k, .string t.fr, .string t.tu, .string t.nm, .int .u8 t.ex.top.k, .string t.ex.top.rat, .string t.ex.top.name, .int .i64 t.ex.top.date, .slice Au ku cu, .int .i64 t.date, .slice Ad kd cd, .slice As ks cs] rfl rfl (by simp)
  rw [hs5] at o6
  have kb := (Below.refl M5.heap.size M5).alloc (Nat.le_refl _) (.cells #[.int .u8 t.k, .string t.fr, .string t.tu, .string t.nm, .int .u8 t.ex.top.k, .string t.ex.top.rat, .string t.ex.top.name, .int .i64 t.ex.top.date, .slice Au ku cu, .int .i64 t.date, .slice Ad kd cd, .slice As ks cs] 29)
  have hs6 : (M5.alloc (.cells #[.int .u8 t.k, .string t.fr, .string t.tu, .string t.nm, .int .u8 t.ex.top.k, .string t.ex.top.rat, .string t.ex.top.name, .int .i64 t.ex.top.date, .slice Au ku cu, .int .i64 t.date, .slice Ad kd cd, .slice As ks cs] 29)).heap.size = W.heap.size + 1 + 1 + 1 + 1 + 1 + 1 + 1 := by rw [World.size_alloc, hs5]
  generalize (M5.alloc (.cells #[.int .u8 t.k, .string t.fr, .string t.tu, .string t.nm, .int .u8 t.ex.top.k, .string t.ex.top.rat, .string t.ex.top.name, .int .i64 t.ex.top.date, .slice Au ku cu, .int .i64 t.date, .slice Ad kd cd, .slice As ks cs] 29)) = M6 at *
  replace o0 := OL.below o0 kb
  replace o1 := OL.below o1 kb
  replace o2 := OL.below o2 kb
  replace o3 := OL.below o3 kb
  replace o4 := OL.below o4 kb
  replace o5 := OL.below o5 kb
  replace hM := hM.trans (kb.mono hM.size)
  clear kb
  have o7 := OL.lit (e := 29) (enc := CR.vs (m := F + 1)) CR.vs_len M6 [⟨t, .slice Au ku cu, .slice Ad kd cd, .slice As ks cs⟩] 1 #[.int .u8 t.k, .string t.fr, .string t.tu, .string t.nm, .int .u8 t.ex.top.k, .string t.ex.top.rat, .string t.ex.top.name, .int .i64 t.ex.top.date, .slice Au ku cu, .int .i64 t.date, .slice Ad kd cd, .slice As ks cs] rfl rfl (by simp)
  rw [hs6] at o7
  have kb := (Below.refl M6.heap.size M6).alloc (Nat.le_refl _) (.cells #[.int .u8 t.k, .string t.fr, .string t.tu, .string t.nm, .int .u8 t.ex.top.k, .string t.ex.top.rat, .string t.ex.top.name, .int .i64 t.ex.top.date, .slice Au ku cu, .int .i64 t.date, .slice Ad kd cd, .slice As ks cs] 29)
  have hs7 : (M6.alloc (.cells #[.int .u8 t.k, .string t.fr, .string t.tu, .string t.nm, .int .u8 t.ex.top.k, .string t.ex.top.rat, .string t.ex.top.name, .int .i64 t.ex.top.date, .slice Au ku cu, .int .i64 t.date, .slice Ad kd cd, .slice As ks cs] 29)).heap.size = W.heap.size + 1 + 1 + 1 + 1 + 1 + 1 + 1 + 1 := by rw [World.size_alloc, hs6]
  generalize (M6.alloc (.cells #[.int .u8 t.k, .string t.fr, .string t.tu, .string t.nm, .int .u8 t.ex.top.k, .string t.ex.top.rat, .string t.ex.top.name, .int .i64 t.ex.top.date, .slice Au ku cu, .int .i64 t.date, .slice Ad kd cd, .slice As ks cs] 29)) = M7 at *
  replace o0 := OL.below o0 kb
  replace o1 := OL.below o1 kb
  replace o2 := OL.below o2 kb
  replace o3 := OL.below o3 kb
  replace o4 := OL.below o4 kb
  replace o5 := OL.below o5 kb
  replace o6 := OL.below o6 kb
  replace hM := hM.trans (kb.mono hM.size)
  clear kb
  have o8 := OL.lit (e := 29) (enc := CR.vs (m := F + 1)) CR.vs_len M7 [⟨Z.mdN x p who what day l 0, .slice none 0 0, .slice none 0 0, .slice (some ⟨W.heap.size, 0, none⟩) 2 2⟩, ⟨Z.mdN x p who what day l 1, .slice Ax kx cx, .slice none 0 0, .slice (some ⟨W.heap.size + 1, 0, none⟩) 1 1⟩, ⟨Z.mdN x p who what day l 2, .slice Ap kp cp, .slice none 0 0, .slice (some ⟨W.heap.size + 1 + 1, 0, none⟩) 2 2⟩, ⟨Z.mdN x p who what day l 3, .slice none 0 0, .slice none 0 0, .slice (some ⟨W.heap.size + 1 + 1 + 1, 0, none⟩) 1 1⟩, ⟨Z.mdN x p who what day l 4, .slice none 0 0, .slice none 0 0, .slice (some ⟨W.heap.size + 1 + 1 + 1 + 1, 0, none⟩) 2 2⟩, ⟨Z.mdN x p who what day l 5, .slice none 0 0, .slice Av l.length cv, .slice (some ⟨W.heap.size + 1 + 1 + 1 + 1 + 1, 0, none⟩) 1 1⟩, ⟨Z.mdN x p who what day l 6, .slice Ap kp cp, .slice Av l.length cv, .slice (some ⟨W.heap.size + 1 + 1 + 1 + 1 + 1 + 1, 0, none⟩) 1 1⟩, ⟨Z.mdN x p who what day l 7, .slice Ap kp cp, .slice Av l.length cv, .slice (some ⟨W.heap.size + 1 + 1 + 1 + 1 + 1 + 1 + 1, 0, none⟩) 1 1⟩] 8 #[.int .u8 3, .string ⟨#[]⟩, .string ⟨#[]⟩, .string ⟨#[]⟩, .int .u8 0, .string ⟨#[]⟩, .string ⟨#[]⟩, .int .i64 0, .slice none 0 0, .int .i64 0, .slice none 0 0, .slice (some ⟨W.heap.size, 0, none⟩) 2 2, .int .u8 4, .string ⟨#[]⟩, .string ⟨#[]⟩, .string ⟨#[]⟩, .int .u8 x.top.k, .string x.top.rat, .string x.top.name, .int .i64 x.top.date, .slice Ax kx cx, .int .i64 0, .slice none 0 0, .slice (some ⟨W.heap.size + 1, 0, none⟩) 1 1, .int .u8 5, .string ⟨#[]⟩, .string ⟨#[]⟩, .string ⟨#[]⟩, .int .u8 p.top.k, .string p.top.rat, .string p.top.name, .int .i64 p.top.date, .slice Ap kp cp, .int .i64 0, .slice none 0 0, .slice (some ⟨W.heap.size + 1 + 1, 0, none⟩) 2 2, .int .u8 6, .string ⟨#[]⟩, .string ⟨#[]⟩, .string ⟨#[]⟩, .int .u8 0, .string ⟨#[]⟩, .string ⟨#[]⟩, .int .i64 0, .slice none 0 0, .int .i64 day, .slice none 0 0, .slice (some ⟨W.heap.size + 1 + 1 + 1, 0, none⟩) 1 1, .int .u8 7, .string who, .string ⟨#[]⟩, .string what, .int .u8 0, .string ⟨#[]⟩, .string ⟨#[]⟩, .int .i64 0, .slice none 0 0, .int .i64 0, .slice none 0 0, .slice (some ⟨W.heap.size + 1 + 1 + 1 + 1, 0, none⟩) 2 2, .int .u8 8, .string who, .string ⟨#[]⟩, .string what, .int .u8 0, .string ⟨#[]⟩, .string ⟨#[]⟩, .int .i64 0, .slice none 0 0, .int .i64 0, .slice Av l.length cv, .slice (some ⟨W.heap.size + 1 + 1 + 1 + 1 + 1, 0, none⟩) 1 1, .int .u8 9, .string ⟨#[]⟩, .string ⟨#[]⟩, .string ⟨#[]⟩, .int .u8 p.top.k, .string p.top.rat, .string p.top.name, .int .i64 p.top.date, .slice Ap kp cp, .int .i64 0, .slice Av l.length cv, .slice (some ⟨W.heap.size + 1 + 1 + 1 + 1 + 1 + 1, 0, none⟩) 1 1, .int .u8 10, .string ⟨#[]⟩, .string ⟨#[]⟩, .string ⟨#[]⟩, .int .u8 p.top.k, .string p.top.rat, .string p.top.name, .int .i64 p.top.date, .slice Ap kp cp, .int .i64 0, .slice Av l.length cv, .slice (some ⟨W.heap.size + 1 + 1 + 1 + 1 + 1 + 1 + 1, 0, none⟩) 1 1] rfl rfl (by simp)
  rw [hs7] at o8
  have kb := (Below.refl M7.heap.size M7).alloc (Nat.le_refl _) (.cells #[.int .u8 3, .string ⟨#[]⟩, .string ⟨#[]⟩, .string ⟨#[]⟩, .int .u8 0, .string ⟨#[]⟩, .string ⟨#[]⟩, .int .i64 0, .slice none 0 0, .int .i64 0, .slice none 0 0, .slice (some ⟨W.heap.size, 0, none⟩) 2 2, .int .u8 4, .string ⟨#[]⟩, .string ⟨#[]⟩, .string ⟨#[]⟩, .int .u8 x.top.k, .string x.top.rat, .string x.top.name, .int .i64 x.top.date, .slice Ax kx cx, .int .i64 0, .slice none 0 0, .slice (some ⟨W.heap.size + 1, 0, none⟩) 1 1, .int .u8 5, .string ⟨#[]⟩, .string ⟨#[]⟩, .string ⟨#[]⟩, .int .u8 p.top.k, .string p.top.rat, .string p.top.name, .int .i64 p.top.date, .slice Ap kp cp, .int .i64 0, .slice none 0 0, .slice (some ⟨W.heap.size + 1 + 1, 0, none⟩) 2 2, .int .u8 6, .string ⟨#[]⟩, .string ⟨#[]⟩, .string ⟨#[]⟩, .int .u8 0, .string ⟨#[]⟩, .string ⟨#[]⟩, .int .i64 0, .slice none 0 0, .int .i64 day, .slice none 0 0, .slice (some ⟨W.heap.size + 1 + 1 + 1, 0, none⟩) 1 1, .int .u8 7, .string who, .string ⟨#[]⟩, .string what, .int .u8 0, .string ⟨#[]⟩, .string ⟨#[]⟩, .int .i64 0, .slice none 0 0, .int .i64 0, .slice none 0 0, .slice (some ⟨W.heap.size + 1 + 1 + 1 + 1, 0, none⟩) 2 2, .int .u8 8, .string who, .string ⟨#[]⟩, .string what, .int .u8 0, .string ⟨#[]⟩, .string ⟨#[]⟩, .int .i64 0, .slice none 0 0, .int .i64 0, .slice Av l.length cv, .slice (some ⟨W.heap.size + 1 + 1 + 1 + 1 + 1, 0, none⟩) 1 1, .int .u8 9, .string ⟨#[]⟩, .string ⟨#[]⟩, .string ⟨#[]⟩, .int .u8 p.top.k, .string p.top.rat, .string p.top.name, .int .i64 p.top.date, .slice Ap kp cp, .int .i64 0, .slice Av l.length cv, .slice (some ⟨W.heap.size + 1 + 1 + 1 + 1 + 1 + 1, 0, none⟩) 1 1, .int .u8 10, .string ⟨#[]⟩, .string ⟨#[]⟩, .string ⟨#[]⟩, .int .u8 p.top.k, .string p.top.rat, .string p.top.name, .int .i64 p.top.date, .slice Ap kp cp, .int .i64 0, .slice Av l.length cv, .slice (some ⟨W.heap.size + 1 + 1 + 1 + 1 + 1 + 1 + 1, 0, none⟩) 1 1] 29)
  generalize (M7.alloc (.cells #[.int .u8 3, .string ⟨#[]⟩, .string ⟨#[]⟩, .string ⟨#[]⟩, .int .u8 0, .string ⟨#[]⟩, .string ⟨#[]⟩, .int .i64 0, .slice none 0 0, .int .i64 0, .slice none 0 0, .slice (some ⟨W.heap.size, 0, none⟩) 2 2, .int .u8 4, .string ⟨#[]⟩, .string ⟨#[]⟩, .string ⟨#[]⟩, .int .u8 x.top.k, .string x.top.rat, .string x.top.name, .int .i64 x.top.date, .slice Ax kx cx, .int .i64 0, .slice none 0 0, .slice (some ⟨W.heap.size + 1, 0, none⟩) 1 1, .int .u8 5, .string ⟨#[]⟩, .string ⟨#[]⟩, .string ⟨#[]⟩, .int .u8 p.top.k, .string p.top.rat, .string p.top.name, .int .i64 p.top.date, .slice Ap kp cp, .int .i64 0, .slice none 0 0, .slice (some ⟨W.heap.size + 1 + 1, 0, none⟩) 2 2, .int .u8 6, .string ⟨#[]⟩, .string ⟨#[]⟩, .string ⟨#[]⟩, .int .u8 0, .string ⟨#[]⟩, .string ⟨#[]⟩, .int .i64 0, .slice none 0 0, .int .i64 day, .slice none 0 0, .slice (some ⟨W.heap.size + 1 + 1 + 1, 0, none⟩) 1 1, .int .u8 7, .string who, .string ⟨#[]⟩, .string what, .int .u8 0, .string ⟨#[]⟩, .string ⟨#[]⟩, .int .i64 0, .slice none 0 0, .int .i64 0, .slice none 0 0, .slice (some ⟨W.heap.size + 1 + 1 + 1 + 1, 0, none⟩) 2 2, .int .u8 8, .string who, .string ⟨#[]⟩, .string what, .int .u8 0, .string ⟨#[]⟩, .string ⟨#[]⟩, .int .i64 0, .slice none 0 0, .int .i64 0, .slice Av l.length cv, .slice (some ⟨W.heap.size + 1 + 1 + 1 + 1 + 1, 0, none⟩) 1 1, .int .u8 9, .string ⟨#[]⟩, .string ⟨#[]⟩, .string ⟨#[]⟩, .int .u8 p.top.k, .string p.top.rat, .string p.top.name, .int .i64 p.top.date, .slice Ap kp cp, .int .i64 0, .slice Av l.length cv, .slice (some ⟨W.heap.size + 1 + 1 + 1 + 1 + 1 + 1, 0, none⟩) 1 1, .int .u8 10, .string ⟨#[]⟩, .string ⟨#[]⟩, .string ⟨#[]⟩, .int .u8 p.top.k, .string p.top.rat, .string p.top.name, .int .i64 p.top.date, .slice Ap kp cp, .int .i64 0, .slice Av l.length cv, .slice (some ⟨W.heap.size + 1 + 1 + 1 + 1 + 1 + 1 + 1, 0, none⟩) 1 1] 29)) = M8 at *
  replace o0 := OL.below o0 kb
  replace o1 := OL.below o1 kb
  replace o2 := OL.below o2 kb
  replace o3 := OL.below o3 kb
  replace o4 := OL.below o4 kb
  replace o5 := OL.below o5 kb
  replace o6 := OL.below o6 kb
  replace o7 := OL.below o7 kb
  replace hM := hM.trans (kb.mono hM.size)
  clear kb hs0 hs1 hs2 hs3 hs4 hs5 hs6 hs7
  have hwM := h14.trans (hM.mono h14.size)
  have HMS : Hid (CS M8 (F + 1 + 1 + 1) (.slice (some ⟨W.heap.size + 1 + 1 + 1 + 1 + 1 + 1 + 1 + 1, 0, none⟩) 8 8) (Z.mdL c c' x p who what day l)) := Lib.hid ⟨_, OL.sl CR.vs_len o8, rfl, fun i r y hr hy => by
    have hi : i < 8 := (List.getElem?_eq_some_iff.1 hr).1
    match i, hi with
    | 0, _ => cases hr; cases hy; exact ⟨rfl, ⟨by show (0 : Int) ≤ 3; decide, by show (3 : Int) ≤ 255; decide⟩, (XV.leaf (t := ⟨0, Z.e0, Z.e0, 0⟩) (by show (0 : Int) ≤ 0; decide) (by show (0 : Int) ≤ 255; decide)), SL.nil_, (al_two CR.vs_len (OL.sl CR.vs_len o0) (CV.below hwM _ HC.out) (CV.below hwM _ HC'.out))⟩
    | 1, _ => cases hr; cases hy; exact ⟨rfl, ⟨by show (0 : Int) ≤ 4; decide, by show (4 : Int) ≤ 255; decide⟩, (XV.below hwM _ HXV.out), SL.nil_, (al_one CR.vs_len (OL.sl CR.vs_len o1) (CV.below hwM _ HC.out))⟩
    | 2, _ => cases hr; cases hy; exact ⟨rfl, ⟨by show (0 : Int) ≤ 5; decide, by show (5 : Int) ≤ 255; decide⟩, (XV.below hwM _ HPV.out), SL.nil_, (al_two CR.vs_len (OL.sl CR.vs_len o2) (CV.below hwM _ HC.out) (CV.below hwM _ HC'.out))⟩
    | 3, _ => cases hr; cases hy; exact ⟨rfl, ⟨by show (0 : Int) ≤ 6; decide, by show (6 : Int) ≤ 255; decide⟩, (XV.leaf (t := ⟨0, Z.e0, Z.e0, 0⟩) (by show (0 : Int) ≤ 0; decide) (by show (0 : Int) ≤ 255; decide)), SL.nil_, (al_one CR.vs_len (OL.sl CR.vs_len o3) (CV.below hwM _ HC.out))⟩
    | 4, _ => cases hr; cases hy; exact ⟨rfl, ⟨by show (0 : Int) ≤ 7; decide, by show (7 : Int) ≤ 255; decide⟩, (XV.leaf (t := ⟨0, Z.e0, Z.e0, 0⟩) (by show (0 : Int) ≤ 0; decide) (by show (0 : Int) ≤ 255; decide)), SL.nil_, (al_two CR.vs_len (OL.sl CR.vs_len o4) (CV.below hwM _ HC.out) (CV.below hwM _ HC'.out))⟩
    | 5, _ => cases hr; cases hy; exact ⟨rfl, ⟨by show (0 : Int) ≤ 8; decide, by show (8 : Int) ≤ 255; decide⟩, (XV.leaf (t := ⟨0, Z.e0, Z.e0, 0⟩) (by show (0 : Int) ≤ 0; decide) (by show (0 : Int) ≤ 255; decide)), (SL.below HDV.out hwM), (al_one CR.vs_len (OL.sl CR.vs_len o5) (CV.below hwM _ HC.out))⟩
    | 6, _ => cases hr; cases hy; exact ⟨rfl, ⟨by show (0 : Int) ≤ 9; decide, by show (9 : Int) ≤ 255; decide⟩, (XV.below hwM _ HPV.out), (SL.below HDV.out hwM), (al_one CR.vs_len (OL.sl CR.vs_len o6) (CV.below hwM _ HC.out))⟩
    | 7, _ => cases hr; cases hy; exact ⟨rfl, ⟨by show (0 : Int) ≤ 10; decide, by show (10 : Int) ≤ 255; decide⟩, (XV.below hwM _ HPV.out), (SL.below HDV.out hwM), (al_one CR.vs_len (OL.sl CR.vs_len o7) (CV.below hwM _ HC.out))⟩
    | i + 8, h => omega⟩
  have HLM : Hid ((Z.mdL c c' x p who what day l).length = 8) := Lib.hid (by unfold Z.mdL; rw [List.length_map, List.length_range])
  replace HO1 := Lib.hid (OL.below HO1.out hM)
  replace HO2 := Lib.hid (OL.below HO2.out hM)
  replace HO3 := Lib.hid (OL.below HO3.out hM)
  clear o0 o1 o2 o3 o4 o5 o6 o7 o8 BX BY BE BP
  generalize Z.mdL c c' x p who what day l = ml at *
  generalize W.heap.size + 1 + 1 + 1 + 1 + 1 + 1 + 1 + 1 = bm at *
  refine rounds hvl hwM HMS HM HLM HE HE' HS HS' HLL HVV HDC HDYE HDV HPAE HPBE HMAE HHOE HO1 HO2 HO3 ?_
  intro u16 u27 u28 u29 u30 u31 u32 u33 u34 u35 u36 u186 u187 u188 u189 u190 u191 u192 u193 u194 u195 u196 u197 u198 u199 u200 u201 u202 u203 u204 u205 u206 u207 u208 u209 u210 u211 u212 u213 u214 u215 u216 u217 u218 u219 u220 u221 u222 u223 u224 u225 u226 u227 u228 u229 u230 u231 u232 u233 u234 u235 u236 u237 u238 u239 u240 u241 u242 u243 u244 u245 u246 u247 u248 u249 u250 u251 u252 u253 u254 u255 u256 u257 u258 u259 u260 u261 u262 u263 u264 u265 u266 u267 u268 u269 u270 u271 u272 u273 u274 u275 u276 u277 u278 u279 u280 u281 u282 u283 u284 u285 u286 u287 u288 u289 u290 u291 u292 u293 u294 u295 u296 u297 u298 u299 u300 u301 u302 u303 u304 u305 u306 u307 u308 u309 u310 u311 W' hb'
  go_wp2_with fail
  go_ret
  exact ⟨rfl, hwM.trans (hb'.mono hwM.size)⟩

set_option maxRecDepth 100000 in
theorem lifted (os : Go.Os) (started : os.Started) (H : Type) (enc : TypeId × Value → H) :
    ReturnsInHanded {} Tryd.checked os 3 .any (fun w args => (Rows.contractBuildsSpec.pre enc Tryd.prog Tryd.f3 [] false w args ∧ laidMetH Tryd.prog laidL w) ∧ sizedMet enc Tryd.prog Tryd.f3 (OpenSpec.ofChange Rows.contractBuildsSpec) false w args) (Rows.contractBuildsSpec.post enc Tryd.prog Tryd.f3 false true false false) := by
  refine door_wrap (C := Tryd.checked) (laid := laidL) own started (by kernel_rfl) Tryd.func3
    (ChangeSpec.witness_shaped (enc := enc) (C := Tryd.checked) (os := os) (X := fun w _ => laidMetH Tryd.prog laidL w) false (World.doorLaid Tryd.prog 600 os) #[.agg #[.int .u8 0, .string ByteArray.empty, .string ByteArray.empty, .string ByteArray.empty, .int .u8 0, .string ByteArray.empty, .string ByteArray.empty, .int .i64 0, .slice none 0 0, .int .i64 0, .slice none 0 0, .slice none 0 0], .agg #[.int .u8 0, .string ByteArray.empty, .string ByteArray.empty, .string ByteArray.empty, .int .u8 0, .string ByteArray.empty, .string ByteArray.empty, .int .i64 0, .slice none 0 0, .int .i64 0, .slice none 0 0, .slice none 0 0], .agg #[.int .u8 0, .string ByteArray.empty, .string ByteArray.empty, .int .i64 0, .slice none 0 0], .agg #[.int .u8 0, .string ByteArray.empty, .string ByteArray.empty, .int .i64 0, .slice none 0 0], .string ByteArray.empty, .string ByteArray.empty, .int .i64 0, .slice none 0 0] 8 rfl (World.shaped_of_RefB (by kernel_rfl) (by kernel_rfl)) (by kernel_rfl) (by kernel_rfl) (by kernel_rfl) (door_met os _)) ?_
  intro W base args ds gs before hval0 hW hWt hL hsh
  have hval : ∀ (j : Nat) t v, Tryd.f3.params[j]? = some t → args[j]? = some v → Value.okWide Tryd.prog W .any base t v := hval0
  have hW' := hW
  obtain ⟨p, q, hA0, hV, rfl, hfz, hnd⟩ := hW
  have hA : DataW.TrodAll enc Tryd.prog W 0 (fun _ => true) true Tryd.f3.params.toList args.toList ds p := hA0
  rw [Tryd.params3] at hA hval
  obtain ⟨v0, vs0, d0, ds0, p0, q0, hargs, rfl, rfl, h0, r0⟩ := trodAll_cons hA
  obtain ⟨v1, vs1, d1, ds1, p1, q1, rfl, rfl, rfl, h1, r1⟩ := trodAll_cons r0
  obtain ⟨v2, vs2, d2, ds2, p2, q2, rfl, rfl, rfl, h2, r2⟩ := trodAll_cons r1
  obtain ⟨v3, vs3, d3, ds3, p3, q3, rfl, rfl, rfl, h3, r3⟩ := trodAll_cons r2
  obtain ⟨v4, vs4, d4, ds4, p4, q4, rfl, rfl, rfl, h4, r4⟩ := trodAll_cons r3
  obtain ⟨v5, vs5, d5, ds5, p5, q5, rfl, rfl, rfl, h5, r5⟩ := trodAll_cons r4
  obtain ⟨v6, vs6, d6, ds6, p6, q6, rfl, rfl, rfl, h6, r6⟩ := trodAll_cons r5
  obtain ⟨v7, vs7, d7, ds7, p7, q7, rfl, rfl, rfl, h7, r7⟩ := trodAll_cons r6
  obtain ⟨rfl, rfl, rfl⟩ := trodAll_nil r7
  obtain rfl : args = #[v0, v1, v2, v3, v4, v5, v6, v7] := by cases args; simp_all
  obtain ⟨rfl, rfl⟩ := trodVars_none hV
  have hWm := fun q hq => Nat.le_trans (of_decide_eq_true (List.all_eq_true.1 hWt q hq)) (show reachBytes ≤ 140737488355328 by decide)
  have hM0 : ∀ q ∈ d0.weights Tryd.prog 29, q ≤ 140737488355328 := fun q hq => hWm q (DataW.weights_mem_each (j := 0) (by rfl) (by rfl) q hq)
  have hM1 : ∀ q ∈ d1.weights Tryd.prog 29, q ≤ 140737488355328 := fun q hq => hWm q (DataW.weights_mem_each (j := 1) (by rfl) (by rfl) q hq)
  have hM2 : ∀ q ∈ d2.weights Tryd.prog 25, q ≤ 140737488355328 := fun q hq => hWm q (DataW.weights_mem_each (j := 2) (by rfl) (by rfl) q hq)
  have hM3 : ∀ q ∈ d3.weights Tryd.prog 25, q ≤ 140737488355328 := fun q hq => hWm q (DataW.weights_mem_each (j := 3) (by rfl) (by rfl) q hq)
  have hM4 : ∀ q ∈ d4.weights Tryd.prog 9, q ≤ 140737488355328 := fun q hq => hWm q (DataW.weights_mem_each (j := 4) (by rfl) (by rfl) q hq)
  have hM5 : ∀ q ∈ d5.weights Tryd.prog 9, q ≤ 140737488355328 := fun q hq => hWm q (DataW.weights_mem_each (j := 5) (by rfl) (by rfl) q hq)
  have hM6 : ∀ q ∈ d6.weights Tryd.prog 3, q ≤ 140737488355328 := fun q hq => hWm q (DataW.weights_mem_each (j := 6) (by rfl) (by rfl) q hq)
  have hM7 : ∀ q ∈ d7.weights Tryd.prog 26, q ≤ 140737488355328 := fun q hq => hWm q (DataW.weights_mem_each (j := 7) (by rfl) (by rfl) q hq)
  have k0 := h0
  obtain ⟨N0, o0⟩ := contract_open (hval 0 29 v0 rfl rfl) h0 hM0
  have k1 := h1
  obtain ⟨N1, o1⟩ := contract_open (hval 1 29 v1 rfl rfl) h1 hM1
  have k2 := h2
  obtain ⟨N2, o2⟩ := expr_open (hval 2 25 v2 rfl rfl) h2 hM2
  have k3 := h3
  obtain ⟨N3, o3⟩ := expr_open (hval 3 25 v3 rfl rfl) h3 hM3
  obtain ⟨a4, rfl, rfl, rfl, w4⟩ := open_string Tryd.underlying9 (hval 4 9 v4 rfl rfl) h4
  obtain ⟨a5, rfl, rfl, rfl, w5⟩ := open_string Tryd.underlying9 (hval 5 9 v5 rfl rfl) h5
  obtain ⟨a6, rfl, rfl, rfl, w6⟩ := open_int Tryd.underlying3 (hval 6 3 v6 rfl rfl) h6
  have k7 := h7
  obtain ⟨l7, si7, sl7⟩ := ints_open (hval 7 26 v7 rfl rfl) h7 hM7
  have sz4 : a4.size ≤ 140737488355328 := by
    have := hM4 _ (by unfold DataW.weights; exact List.mem_singleton.2 rfl)
    simpa using this
  have sz5 : a5.size ≤ 140737488355328 := by
    have := hM5 _ (by unfold DataW.weights; exact List.mem_singleton.2 rfl)
    simpa using this
  obtain ⟨F, hF⟩ : ∃ F, F = N0 + N1 + N2 + N3 := ⟨_, rfl⟩
  obtain ⟨r0c, c0, rfl, cv0, cl0⟩ := o0 (F + 1) (by omega)
  obtain ⟨r1c, c1, rfl, cv1, cl1⟩ := o1 (F + 1) (by omega)
  obtain ⟨u2, x2, rfl, cv2, cl2⟩ := o2 (F + 1) (by omega)
  obtain ⟨u3, x3, rfl, cv3, cl3⟩ := o3 (F + 1) (by omega)
  clear hA0 hval0
  have bd6 := bounds_i64 w6
  refine (walk F c0 r0c c1 r1c x2 u2 x3 u3 a4 a5 a6 v7 l7 W cv0 cl0 cv1 cl1 cv2 cl2 cv3 cl3 sz4 sz5 bd6.1 bd6.2 si7 sl7 (Tryd.laysM145.s1_3 W hsh) (of_laid hL)).mono fun e W' ⟨he, bel⟩ => ?_
  subst he
  exact ⟨_, rfl, _, _, _, [], _, [], hW', trodAll_mk1 (shut_bool Tryd.underlying4 _), (trodAll_cons_mk (arg_stays (by kernel_rfl) (of_decide_eq_true (by kernel_rfl)) k0 bel) (trodAll_cons_mk (arg_stays (by kernel_rfl) (of_decide_eq_true (by kernel_rfl)) k1 bel) (trodAll_cons_mk (arg_stays (by kernel_rfl) (of_decide_eq_true (by kernel_rfl)) k2 bel) (trodAll_cons_mk (arg_stays (by kernel_rfl) (of_decide_eq_true (by kernel_rfl)) k3 bel) (trodAll_cons_mk (shut_string Tryd.underlying9 w4) (trodAll_cons_mk (shut_string Tryd.underlying9 w5) (trodAll_cons_mk (shut_int Tryd.underlying3 w6) (trodAll_cons_mk (arg_stays (by kernel_rfl) (of_decide_eq_true (by kernel_rfl)) k7 bel) trodAll_mk0)))))))), rfl, bel.frame _, fun h => by cases h⟩

theorem over : Rows.contractBuildsRow.holds Tryd.pinned (OpenSpec.ofChange Rows.contractBuildsSpec) :=
  OpenClaim.holds_of_wide 3 Tryd.f3 rfl rfl rfl rfl rfl rfl rfl ⟨rfl, rfl, rfl, rfl, rfl⟩ rfl rfl rfl rfl rfl (by kernel_rfl) Tryd.func3 (by kernel_rfl)
    (of_decide_eq_true (by kernel_rfl)) (by unfold Func.isWrapper; first | (rw [if_pos (by decide +kernel)]; kernel_rfl) | (rw [if_neg (by decide +kernel)]; exact ⟨rfl, rfl⟩))
    (fun os started H enc _ => lifted os started H enc)

theorem proved : Rows.ContractBuildsCardSaid :=
  Claim7.holds_tied_plain_at .later [] [.mappedDeep, .mapped] true (true, "18ee430487cca9eca090e431cb604d3d491d61f539cb3f6dc50aa057bdde380e") false
    over (fun _ h => by cases h) (by kernel_rfl) (fun _ h => by cases h) contractBuilds_row_tie rfl ⟨rfl, rfl⟩ (by kernel_rfl) rfl
    (fun f fn hf hfn => by
      obtain rfl : f = 3 := Option.some.inj ((show Tryd.prog.funcNamed "novation/novationlaw09.ContractBuilds" = some 3 by kernel_rfl).symm.trans hf) |>.symm
      obtain rfl : fn = Tryd.f3 := (Option.some.inj (Tryd.func3.symm.trans hfn)).symm
      exact ⟨by kernel_rfl, fun j t ht => by
        rw [Tryd.params3] at ht
        have hm : t ∈ [29, 29, 25, 25, 9, 9, 3, 26] := by simpa using Array.mem_of_getElem? ht
        have hall : ([29, 29, 25, 25, 9, 9, 3, 26].all fun u => !Tryd.prog.wantsStandIn u) = true := by kernel_rfl
        exact (show Tryd.prog.wantsStandIn t = false by simpa using List.all_eq_true.1 hall t hm)⟩)
    (by kernel_rfl)
#print axioms proved
