/-
  Same is an equality, and contracts that are the same have the same size, parties and horizon (a tied card: the tables of kinds lie as the text says).
-/
import Derived.Test.YtifafmomkpkgdaaDoorRows
import Derived.Test.YtifafmomkpkgdaaDoorOal
import Derived.Test.YtifafmomkpkgdaaDoorOopn
import Derived.Test.YtifafmomkpkgdaaDoorZco
import Derived.Test.YtifafmomkpkgdaaDoorOtw
import Derived.HandedShaped
import Derived.Test.YtifafmomkpkgdaaDoorCards
import Derived.Test.YtifafmomkpkgdaaDoorTie
import Derived.Test.YtifafmomkpkgdaaDoorOlay
import Derived.SevenTiedAt
import Derived.ProofKit
import Derived.OpenShut
import Derived.ShutString
namespace Go.Proofs.YtifafmomkpkgdaaDoor.lawSame
open Go.ChangeShapes Go.WideShapes Go.ChangeAt Go.RowKit
open Go.ChangeMaps (open_string shut_string)

set_option maxRecDepth 100000 in
set_option maxHeartbeats 4000000 in
theorem walk (F : Nat) (c : Z.Co (F + 1) (F + 1 + 1)) (r : CR (F + 1)) (c' : Z.Co (F + 1) (F + 1 + 1)) (r' : CR (F + 1)) (w : World) (hc : CV w (F + 1 + 1) c r) (hle : Z.CLe 140737488355328 (F + 1 + 1) c) (hc' : CV w (F + 1 + 1) c' r') (hle' : Z.CLe 140737488355328 (F + 1 + 1) c') (hV : HasV w) (hL : Lay w) :
    Calls Tryd.prog 4 #[.agg r.vs.toArray, .agg r'.vs.toArray] w fun e w' => e = .returned (.bool true) ∧ Below w.heap.size w w' := by
  obtain ⟨t, u, dv, sv⟩ := r
  obtain ⟨t', u', dv', sv'⟩ := r'
  obtain ⟨Au, ku, cu, rfl⟩ := hc.shape.1
  obtain ⟨Ad, kd, cd, rfl⟩ := hc.shape.2.1
  obtain ⟨As, ks, cs, rfl⟩ := hc.shape.2.2
  obtain ⟨Au', ku', cu', rfl⟩ := hc'.shape.1
  obtain ⟨Ad', kd', cd', rfl⟩ := hc'.shape.2.1
  obtain ⟨As', ks', cs', rfl⟩ := hc'.shape.2.2
  have HC := Lib.hid hc
  have HC' := Lib.hid hc'
  have HG := Lib.hid (fun W (h : Below w.heap.size w W) => cgreat_any (F + 1) c t _ _ _ W (CV.below h _ hc) hle)
  have HG' := Lib.hid (fun W (h : Below w.heap.size w W) => cgreat_any (F + 1) c' t' _ _ _ W (CV.below h _ hc') hle')
  have HA := Lib.hid (fun W (h : Below w.heap.size w W) => lalive_any W (hL.below h) (hV.below h))
  have HLL := Lib.hid (fun W (h : Below w.heap.size w W) => hL.below h)
  have HVV := Lib.hid (fun W (h : Below w.heap.size w W) => hV.below h)
  have HSM := Lib.hid (fun h => Z.coG_sm (n := F + 1 + 1) (c := c) h)
  have HSM' := Lib.hid (fun h => Z.coG_sm (n := F + 1 + 1) (c := c') h)
  have HVS : Hid (CR.vs (m := F + 1) ⟨t, .slice Au ku cu, .slice Ad kd cd, .slice As ks cs⟩ = [.int .u8 t.k, .string t.fr, .string t.tu, .string t.nm, .int .u8 t.ex.top.k, .string t.ex.top.rat, .string t.ex.top.name, .int .i64 t.ex.top.date, .slice Au ku cu, .int .i64 t.date, .slice Ad kd cd, .slice As ks cs]) := Lib.hid rfl
  have HVS' : Hid (CR.vs (m := F + 1) ⟨t', .slice Au' ku' cu', .slice Ad' kd' cd', .slice As' ks' cs'⟩ = [.int .u8 t'.k, .string t'.fr, .string t'.tu, .string t'.nm, .int .u8 t'.ex.top.k, .string t'.ex.top.rat, .string t'.ex.top.name, .int .i64 t'.ex.top.date, .slice Au' ku' cu', .int .i64 t'.date, .slice Ad' kd' cd', .slice As' ks' cs']) := Lib.hid rfl
  rw [HVS.out, HVS'.out]
  clear hc hc' hV hL hle hle' HVS HVS'
  have hb0 : Below w.heap.size w ((w.alloc (.cells #[.int .u8 t.k, .string t.fr, .string t.tu, .string t.nm, .int .u8 t.ex.top.k, .string t.ex.top.rat, .string t.ex.top.name, .int .i64 t.ex.top.date, .slice Au ku cu, .int .i64 t.date, .slice Ad kd cd, .slice As ks cs] 29)).alloc (.cells #[.int .u8 t'.k, .string t'.fr, .string t'.tu, .string t'.nm, .int .u8 t'.ex.top.k, .string t'.ex.top.rat, .string t'.ex.top.name, .int .i64 t'.ex.top.date, .slice Au' ku' cu', .int .i64 t'.date, .slice Ad' kd' cd', .slice As' ks' cs'] 29)) := ((Below.refl _ w).alloc (Nat.le_refl _) _).alloc (by simp) _
  have BX := (Blk.new w 29 #[.int .u8 t.k, .string t.fr, .string t.tu, .string t.nm, .int .u8 t.ex.top.k, .string t.ex.top.rat, .string t.ex.top.name, .int .i64 t.ex.top.date, .slice Au ku cu, .int .i64 t.date, .slice Ad kd cd, .slice As ks cs]).alloc (.cells #[.int .u8 t'.k, .string t'.fr, .string t'.tu, .string t'.nm, .int .u8 t'.ex.top.k, .string t'.ex.top.rat, .string t'.ex.top.name, .int .i64 t'.ex.top.date, .slice Au' ku' cu', .int .i64 t'.date, .slice Ad' kd' cd', .slice As' ks' cs'] 29)
  have BY : Blk ((w.alloc (.cells #[.int .u8 t.k, .string t.fr, .string t.tu, .string t.nm, .int .u8 t.ex.top.k, .string t.ex.top.rat, .string t.ex.top.name, .int .i64 t.ex.top.date, .slice Au ku cu, .int .i64 t.date, .slice Ad kd cd, .slice As ks cs] 29)).alloc (.cells #[.int .u8 t'.k, .string t'.fr, .string t'.tu, .string t'.nm, .int .u8 t'.ex.top.k, .string t'.ex.top.rat, .string t'.ex.top.name, .int .i64 t'.ex.top.date, .slice Au' ku' cu', .int .i64 t'.date, .slice Ad' kd' cd', .slice As' ks' cs'] 29)) (w.heap.size + 1) 29 #[.int .u8 t'.k, .string t'.fr, .string t'.tu, .string t'.nm, .int .u8 t'.ex.top.k, .string t'.ex.top.rat, .string t'.ex.top.name, .int .i64 t'.ex.top.date, .slice Au' ku' cu', .int .i64 t'.date, .slice Ad' kd' cd', .slice As' ks' cs'] := by
    have h := Blk.new (w.alloc (.cells #[.int .u8 t.k, .string t.fr, .string t.tu, .string t.nm, .int .u8 t.ex.top.k, .string t.ex.top.rat, .string t.ex.top.name, .int .i64 t.ex.top.date, .slice Au ku cu, .int .i64 t.date, .slice Ad kd cd, .slice As ks cs] 29)) 29 #[.int .u8 t'.k, .string t'.fr, .string t'.tu, .string t'.nm, .int .u8 t'.ex.top.k, .string t'.ex.top.rat, .string t'.ex.top.name, .int .i64 t'.ex.top.date, .slice Au' ku' cu', .int .i64 t'.date, .slice Ad' kd' cd', .slice As' ks' cs']
    rwa [World.size_alloc] at h
  have HAA : Hid (∀ W, Below w.heap.size w W → Calls Tryd.prog 24 #[.agg #[.int .u8 t.k, .string t.fr, .string t.tu, .string t.nm, .int .u8 t.ex.top.k, .string t.ex.top.rat, .string t.ex.top.name, .int .i64 t.ex.top.date, .slice Au ku cu, .int .i64 t.date, .slice Ad kd cd, .slice As ks cs], .agg #[.int .u8 t.k, .string t.fr, .string t.tu, .string t.nm, .int .u8 t.ex.top.k, .string t.ex.top.rat, .string t.ex.top.name, .int .i64 t.ex.top.date, .slice Au ku cu, .int .i64 t.date, .slice Ad kd cd, .slice As ks cs]] W fun e w' => e = .returned (.bool true) ∧ Below W.heap.size W w') := Lib.hid (fun W h => (csame_any _ c c t t _ _ _ _ _ _ W (CV.below h _ HC.out) (CV.below h _ HC.out)).mono (fun e w' ⟨he, hb⟩ => ⟨by rw [he, (Z.coSame_iff _ c c).2 rfl], hb⟩))
  have HAB : Hid (∀ W, Below w.heap.size w W → Calls Tryd.prog 24 #[.agg #[.int .u8 t.k, .string t.fr, .string t.tu, .string t.nm, .int .u8 t.ex.top.k, .string t.ex.top.rat, .string t.ex.top.name, .int .i64 t.ex.top.date, .slice Au ku cu, .int .i64 t.date, .slice Ad kd cd, .slice As ks cs], .agg #[.int .u8 t'.k, .string t'.fr, .string t'.tu, .string t'.nm, .int .u8 t'.ex.top.k, .string t'.ex.top.rat, .string t'.ex.top.name, .int .i64 t'.ex.top.date, .slice Au' ku' cu', .int .i64 t'.date, .slice Ad' kd' cd', .slice As' ks' cs']] W fun e w' => e = .returned (.bool (Z.coSame (F + 1 + 1) c c')) ∧ Below W.heap.size W w') := Lib.hid (fun W h => csame_any _ c c' t t' _ _ _ _ _ _ W (CV.below h _ HC.out) (CV.below h _ HC'.out))
  have hsy : Z.coSame (F + 1 + 1) c' c = Z.coSame (F + 1 + 1) c c' := by
    rw [Bool.eq_iff_iff, Z.coSame_iff, Z.coSame_iff]
    exact eq_comm
  have HBA : Hid (∀ W, Below w.heap.size w W → Calls Tryd.prog 24 #[.agg #[.int .u8 t'.k, .string t'.fr, .string t'.tu, .string t'.nm, .int .u8 t'.ex.top.k, .string t'.ex.top.rat, .string t'.ex.top.name, .int .i64 t'.ex.top.date, .slice Au' ku' cu', .int .i64 t'.date, .slice Ad' kd' cd', .slice As' ks' cs'], .agg #[.int .u8 t.k, .string t.fr, .string t.tu, .string t.nm, .int .u8 t.ex.top.k, .string t.ex.top.rat, .string t.ex.top.name, .int .i64 t.ex.top.date, .slice Au ku cu, .int .i64 t.date, .slice Ad kd cd, .slice As ks cs]] W fun e w' => e = .returned (.bool (Z.coSame (F + 1 + 1) c c')) ∧ Below W.heap.size W w') := Lib.hid (fun W h => by rw [← hsy]; exact csame_any _ c' c t' t _ _ _ _ _ _ W (CV.below h _ HC'.out) (CV.below h _ HC.out))
  have HAT : Hid (∀ W, Below w.heap.size w W → ∀ u1 d1 s1, CV W (F + 1 + 1) c ⟨t, u1, d1, s1⟩ → Calls Tryd.prog 24 #[.agg #[.int .u8 t.k, .string t.fr, .string t.tu, .string t.nm, .int .u8 t.ex.top.k, .string t.ex.top.rat, .string t.ex.top.name, .int .i64 t.ex.top.date, .slice Au ku cu, .int .i64 t.date, .slice Ad kd cd, .slice As ks cs], .agg #[.int .u8 t.k, .string t.fr, .string t.tu, .string t.nm, .int .u8 t.ex.top.k, .string t.ex.top.rat, .string t.ex.top.name, .int .i64 t.ex.top.date, u1, .int .i64 t.date, d1, s1]] W fun e w' => e = .returned (.bool true) ∧ Below W.heap.size W w') := Lib.hid (fun W h u1 d1 s1 h1 => (csame_any _ c c t t _ _ _ _ _ _ W (CV.below h _ HC.out) h1).mono (fun e w' ⟨he, hb⟩ => ⟨by rw [he, (Z.coSame_iff _ c c).2 rfl], hb⟩))
  have HTB : Hid (∀ W, Below w.heap.size w W → ∀ u1 d1 s1, CV W (F + 1 + 1) c ⟨t, u1, d1, s1⟩ → Calls Tryd.prog 24 #[.agg #[.int .u8 t.k, .string t.fr, .string t.tu, .string t.nm, .int .u8 t.ex.top.k, .string t.ex.top.rat, .string t.ex.top.name, .int .i64 t.ex.top.date, u1, .int .i64 t.date, d1, s1], .agg #[.int .u8 t'.k, .string t'.fr, .string t'.tu, .string t'.nm, .int .u8 t'.ex.top.k, .string t'.ex.top.rat, .string t'.ex.top.name, .int .i64 t'.ex.top.date, .slice Au' ku' cu', .int .i64 t'.date, .slice Ad' kd' cd', .slice As' ks' cs']] W fun e w' => e = .returned (.bool (Z.coSame (F + 1 + 1) c c')) ∧ Below W.heap.size W w') := Lib.hid (fun W h u1 d1 s1 h1 => csame_any _ c c' t t' _ _ _ _ _ _ W h1 (CV.below h _ HC'.out))
  have HTW := Lib.hid (fun hs W (h : Below w.heap.size w W) => ctwin_any _ c t _ _ _ W (CV.below h _ HC.out) hs)
  have HEQ : Hid (Z.coSame (F + 1 + 1) c c' = true → c = c') := Lib.hid (Z.coSame_iff _ c c').1
  generalize Z.coG (F + 1 + 1) c = G at *
  generalize Z.coG (F + 1 + 1) c' = G' at *
  generalize Z.coSame (F + 1 + 1) c c' = S at *
  clear hsy
  have z0 := BX.cell 0
  have z1 := BX.cell 1
  have z2 := BX.cell 2
  have z3 := BX.cell 3
  have z4 := BX.cell 4
  have z5 := BX.cell 5
  have z6 := BX.cell 6
  have z7 := BX.cell 7
  have z8 := BX.cell 8
  have z9 := BX.cell 9
  have z10 := BX.cell 10
  have z11 := BX.cell 11
  have y0 := BY.cell 0
  have y1 := BY.cell 1
  have y2 := BY.cell 2
  have y3 := BY.cell 3
  have y4 := BY.cell 4
  have y5 := BY.cell 5
  have y6 := BY.cell 6
  have y7 := BY.cell 7
  have y8 := BY.cell 8
  have y9 := BY.cell 9
  have y10 := BY.cell 10
  have y11 := BY.cell 11
  go_enter Tryd.func4, Tryd.ntmps4
  go_wp2_with fail
  refine (HA.out _ hb0).mono ?_
  rintro e W1 ⟨rfl, hb⟩
  have h1 := hb0.trans (hb.mono hb0.size)
  have BX := BX.below hb
  have BY := BY.below hb
  clear z0 z1 z2 z3 z4 z5 z6 z7 z8 z9 z10 z11 y0 y1 y2 y3 y4 y5 y6 y7 y8 y9 y10 y11 hb hb0 HA
  have z0 := BX.cell 0
  have z1 := BX.cell 1
  have z2 := BX.cell 2
  have z3 := BX.cell 3
  have z4 := BX.cell 4
  have z5 := BX.cell 5
  have z6 := BX.cell 6
  have z7 := BX.cell 7
  have z8 := BX.cell 8
  have z9 := BX.cell 9
  have z10 := BX.cell 10
  have z11 := BX.cell 11
  have y0 := BY.cell 0
  have y1 := BY.cell 1
  have y2 := BY.cell 2
  have y3 := BY.cell 3
  have y4 := BY.cell 4
  have y5 := BY.cell 5
  have y6 := BY.cell 6
  have y7 := BY.cell 7
  have y8 := BY.cell 8
  have y9 := BY.cell 9
  have y10 := BY.cell 10
  have y11 := BY.cell 11
  go_wp2_with fail
  refine (HG.out W1 h1).mono ?_
  rintro e W2 ⟨rfl, hb⟩
  have h2 := h1.trans (hb.mono h1.size)
  have BX := BX.below hb
  have BY := BY.below hb
  clear z0 z1 z2 z3 z4 z5 z6 z7 z8 z9 z10 z11 y0 y1 y2 y3 y4 y5 y6 y7 y8 y9 y10 y11 hb h1 HG
  have z0 := BX.cell 0
  have z1 := BX.cell 1
  have z2 := BX.cell 2
  have z3 := BX.cell 3
  have z4 := BX.cell 4
  have z5 := BX.cell 5
  have z6 := BX.cell 6
  have z7 := BX.cell 7
  have z8 := BX.cell 8
  have z9 := BX.cell 9
  have z10 := BX.cell 10
  have z11 := BX.cell 11
  have y0 := BY.cell 0
  have y1 := BY.cell 1
  have y2 := BY.cell 2
  have y3 := BY.cell 3
  have y4 := BY.cell 4
  have y5 := BY.cell 5
  have y6 := BY.cell 6
  have y7 := BY.cell 7
  have y8 := BY.cell 8
  have y9 := BY.cell 9
  have y10 := BY.cell 10
  have y11 := BY.cell 11
  rcases G with _ | _
  rotate_left
  · go_wp2_with fail
    go_ret
    exact ⟨rfl, h2⟩
  go_wp2_with fail
  refine (HG'.out W2 h2).mono ?_
  rintro e W3 ⟨rfl, hb⟩
  have h3 := h2.trans (hb.mono h2.size)
  have BX := BX.below hb
  have BY := BY.below hb
  clear z0 z1 z2 z3 z4 z5 z6 z7 z8 z9 z10 z11 y0 y1 y2 y3 y4 y5 y6 y7 y8 y9 y10 y11 hb h2 HG'
  have z0 := BX.cell 0
  have z1 := BX.cell 1
  have z2 := BX.cell 2
  have z3 := BX.cell 3
  have z4 := BX.cell 4
  have z5 := BX.cell 5
  have z6 := BX.cell 6
  have z7 := BX.cell 7
  have z8 := BX.cell 8
  have z9 := BX.cell 9
  have z10 := BX.cell 10
  have z11 := BX.cell 11
  have y0 := BY.cell 0
  have y1 := BY.cell 1
  have y2 := BY.cell 2
  have y3 := BY.cell 3
  have y4 := BY.cell 4
  have y5 := BY.cell 5
  have y6 := BY.cell 6
  have y7 := BY.cell 7
  have y8 := BY.cell 8
  have y9 := BY.cell 9
  have y10 := BY.cell 10
  have y11 := BY.cell 11
  rcases G' with _ | _
  rotate_left
  · go_wp2_with fail
    go_ret
    exact ⟨rfl, h3⟩
  have hs := HSM.out (by first | rfl | trivial)
  have hs' := HSM'.out (by first | rfl | trivial)
  have HTW := Lib.hid (HTW.out hs)
  have HS := Lib.hid hs
  have HS' := Lib.hid hs'
  clear hs hs' HSM HSM'
  go_wp2_with fail
  refine (HAB.out W3 h3).mono ?_
  rintro e W4 ⟨rfl, hb⟩
  have h4 := h3.trans (hb.mono h3.size)
  have BX := BX.below hb
  have BY := BY.below hb
  clear z0 z1 z2 z3 z4 z5 z6 z7 z8 z9 z10 z11 y0 y1 y2 y3 y4 y5 y6 y7 y8 y9 y10 y11 hb h3 HAB
  have z0 := BX.cell 0
  have z1 := BX.cell 1
  have z2 := BX.cell 2
  have z3 := BX.cell 3
  have z4 := BX.cell 4
  have z5 := BX.cell 5
  have z6 := BX.cell 6
  have z7 := BX.cell 7
  have z8 := BX.cell 8
  have z9 := BX.cell 9
  have z10 := BX.cell 10
  have z11 := BX.cell 11
  have y0 := BY.cell 0
  have y1 := BY.cell 1
  have y2 := BY.cell 2
  have y3 := BY.cell 3
  have y4 := BY.cell 4
  have y5 := BY.cell 5
  have y6 := BY.cell 6
  have y7 := BY.cell 7
  have y8 := BY.cell 8
  have y9 := BY.cell 9
  have y10 := BY.cell 10
  have y11 := BY.cell 11
  clear z0 z1 z2 z3 z4 z5 z6 z7 z8 z9 z10 z11 y0 y1 y2 y3 y4 y5 y6 y7 y8 y9 y10 y11
  rcases S with _ | _
  · go_upto_region 5 with fail
    have hdr := (Below.refl W4.heap.size W4).drew
    have BXd := BX.below hdr
    have BYd := BY.below hdr
    have HX0 : Hid (∀ X, Below W4.drew.heap.size W4.drew X → Below w.heap.size w X) := Lib.hid (fun X h => h4.trans ((hdr.trans (h.mono hdr.size)).mono h4.size))
    have kX0 := Below.refl W4.drew.heap.size W4.drew
    refine wp_region_fx 26 (fun w' => ∃ y : Ab W4.drew, w' = y.1) (by kernel_rfl) ?_
    show fxAny _ _ _ _ 26 _ 26 _ _ _
    have z0 : ∀ q : Ab W4.drew, q.1.cell? ⟨w.heap.size, 0, none⟩ = some (.int .u8 t.k) := fun q => (BXd.below q.2).cell 0
    have z1 : ∀ q : Ab W4.drew, q.1.cell? ⟨w.heap.size, 1, none⟩ = some (.string t.fr) := fun q => (BXd.below q.2).cell 1
    have z2 : ∀ q : Ab W4.drew, q.1.cell? ⟨w.heap.size, 2, none⟩ = some (.string t.tu) := fun q => (BXd.below q.2).cell 2
    have z3 : ∀ q : Ab W4.drew, q.1.cell? ⟨w.heap.size, 3, none⟩ = some (.string t.nm) := fun q => (BXd.below q.2).cell 3
    have z4 : ∀ q : Ab W4.drew, q.1.cell? ⟨w.heap.size, 4, none⟩ = some (.int .u8 t.ex.top.k) := fun q => (BXd.below q.2).cell 4
    have z5 : ∀ q : Ab W4.drew, q.1.cell? ⟨w.heap.size, 5, none⟩ = some (.string t.ex.top.rat) := fun q => (BXd.below q.2).cell 5
    have z6 : ∀ q : Ab W4.drew, q.1.cell? ⟨w.heap.size, 6, none⟩ = some (.string t.ex.top.name) := fun q => (BXd.below q.2).cell 6
    have z7 : ∀ q : Ab W4.drew, q.1.cell? ⟨w.heap.size, 7, none⟩ = some (.int .i64 t.ex.top.date) := fun q => (BXd.below q.2).cell 7
    have z8 : ∀ q : Ab W4.drew, q.1.cell? ⟨w.heap.size, 8, none⟩ = some (.slice Au ku cu) := fun q => (BXd.below q.2).cell 8
    have z9 : ∀ q : Ab W4.drew, q.1.cell? ⟨w.heap.size, 9, none⟩ = some (.int .i64 t.date) := fun q => (BXd.below q.2).cell 9
    have z10 : ∀ q : Ab W4.drew, q.1.cell? ⟨w.heap.size, 10, none⟩ = some (.slice Ad kd cd) := fun q => (BXd.below q.2).cell 10
    have z11 : ∀ q : Ab W4.drew, q.1.cell? ⟨w.heap.size, 11, none⟩ = some (.slice As ks cs) := fun q => (BXd.below q.2).cell 11
    have y0 : ∀ q : Ab W4.drew, q.1.cell? ⟨w.heap.size + 1, 0, none⟩ = some (.int .u8 t'.k) := fun q => (BYd.below q.2).cell 0
    have y1 : ∀ q : Ab W4.drew, q.1.cell? ⟨w.heap.size + 1, 1, none⟩ = some (.string t'.fr) := fun q => (BYd.below q.2).cell 1
    have y2 : ∀ q : Ab W4.drew, q.1.cell? ⟨w.heap.size + 1, 2, none⟩ = some (.string t'.tu) := fun q => (BYd.below q.2).cell 2
    have y3 : ∀ q : Ab W4.drew, q.1.cell? ⟨w.heap.size + 1, 3, none⟩ = some (.string t'.nm) := fun q => (BYd.below q.2).cell 3
    have y4 : ∀ q : Ab W4.drew, q.1.cell? ⟨w.heap.size + 1, 4, none⟩ = some (.int .u8 t'.ex.top.k) := fun q => (BYd.below q.2).cell 4
    have y5 : ∀ q : Ab W4.drew, q.1.cell? ⟨w.heap.size + 1, 5, none⟩ = some (.string t'.ex.top.rat) := fun q => (BYd.below q.2).cell 5
    have y6 : ∀ q : Ab W4.drew, q.1.cell? ⟨w.heap.size + 1, 6, none⟩ = some (.string t'.ex.top.name) := fun q => (BYd.below q.2).cell 6
    have y7 : ∀ q : Ab W4.drew, q.1.cell? ⟨w.heap.size + 1, 7, none⟩ = some (.int .i64 t'.ex.top.date) := fun q => (BYd.below q.2).cell 7
    have y8 : ∀ q : Ab W4.drew, q.1.cell? ⟨w.heap.size + 1, 8, none⟩ = some (.slice Au' ku' cu') := fun q => (BYd.below q.2).cell 8
    have y9 : ∀ q : Ab W4.drew, q.1.cell? ⟨w.heap.size + 1, 9, none⟩ = some (.int .i64 t'.date) := fun q => (BYd.below q.2).cell 9
    have y10 : ∀ q : Ab W4.drew, q.1.cell? ⟨w.heap.size + 1, 10, none⟩ = some (.slice Ad' kd' cd') := fun q => (BYd.below q.2).cell 10
    have y11 : ∀ q : Ab W4.drew, q.1.cell? ⟨w.heap.size + 1, 11, none⟩ = some (.slice As' ks' cs') := fun q => (BYd.below q.2).cell 11
    generalize W4.drew = X0 at *
    refine fx_reads (n := 24) [0, 1] rfl (by kernel_rfl) ⟨⟨X0, kX0⟩, rfl⟩ ?_
    simp only [opsAt, List.filterMap_cons, List.filterMap_nil, List.getElem?_toArray, List.getElem?_cons_succ, List.getElem?_cons_zero]
    show wpQuiet _ _ _ _ [_, _] _
    repeat (go_big_quiet_step (fail))
    refine wpQuiet_nil ?_
    refine fx_one (k := 2) (by kernel_rfl) ?_
    simp only [opsAt, List.filterMap_cons, List.filterMap_nil, List.getElem?_toArray, List.getElem?_cons_succ, List.getElem?_cons_zero]
    refine fxp_enter (f := 24) (args := #[.agg #[.int .u8 t.k, .string t.fr, .string t.tu, .string t.nm, .int .u8 t.ex.top.k, .string t.ex.top.rat, .string t.ex.top.name, .int .i64 t.ex.top.date, .slice Au ku cu, .int .i64 t.date, .slice Ad kd cd, .slice As ks cs], .agg #[.int .u8 t.k, .string t.fr, .string t.tu, .string t.nm, .int .u8 t.ex.top.k, .string t.ex.top.rat, .string t.ex.top.name, .int .i64 t.ex.top.date, .slice Au ku cu, .int .i64 t.date, .slice Ad kd cd, .slice As ks cs]]) (w' := X0) rfl (by simp [go_sem]) ?_
    refine (HAA.out X0 (HX0.out X0 kX0)).mono ?_
    rintro e X' ⟨rfl, kb⟩
    have kX' := kX0.trans (kb.mono kX0.size)
    refine ⟨_, rfl, ⟨⟨X', kX'⟩, rfl⟩, ?_⟩
    refine fxp_nil ?_
    simp only [Act.put, List.setIfInBounds_toArray, List.set_cons_succ, List.set_cons_zero]
    skip
    obtain ⟨X, rfl⟩ : ∃ Y, Y = X' := ⟨_, rfl⟩
    have kX := kX'
    clear kX'
    clear kb
    refine fx_reads (n := 21) [3, 4] rfl (by kernel_rfl) ⟨⟨X, kX⟩, rfl⟩ ?_
    simp only [opsAt, List.filterMap_cons, List.filterMap_nil, List.getElem?_toArray, List.getElem?_cons_succ, List.getElem?_cons_zero]
    show wpQuiet _ _ _ _ [_, _] _
    repeat (go_big_quiet_step (fail))
    refine wpQuiet_nil ?_
    refine fx_reads (n := 19) [5, 6] rfl (by kernel_rfl) ⟨⟨X, kX⟩, rfl⟩ ?_
    simp only [opsAt, List.filterMap_cons, List.filterMap_nil, List.getElem?_toArray, List.getElem?_cons_succ, List.getElem?_cons_zero]
    show wpQuiet _ _ _ _ [_, _] _
    repeat (go_big_quiet_step (fail))
    refine wpQuiet_nil ?_
    refine fx_one (k := 7) (by kernel_rfl) ?_
    simp only [opsAt, List.filterMap_cons, List.filterMap_nil, List.getElem?_toArray, List.getElem?_cons_succ, List.getElem?_cons_zero]
    refine fxp_enterW (f := 25) (args := #[.agg #[.int .u8 t.k, .string t.fr, .string t.tu, .string t.nm, .int .u8 t.ex.top.k, .string t.ex.top.rat, .string t.ex.top.name, .int .i64 t.ex.top.date, .slice Au ku cu, .int .i64 t.date, .slice Ad kd cd, .slice As ks cs]]) (w' := X) (by rfl) (by simp [go_sem]) ?_
    refine (HTW.out X (HX0.out X kX)).mono ?_
    rintro e X' ⟨D1, D2, D3, p1, p2, p3, e1, e2, e3, _, _, rfl, kb, _, hfr⟩
    have kX' := kX.trans (kb.mono kX.size)
    refine ⟨_, rfl, ⟨⟨X', kX'⟩, rfl⟩, ?_⟩
    refine fxp_nil ?_
    simp only [Act.put, List.setIfInBounds_toArray, List.set_cons_succ, List.set_cons_zero]
    clear kX
    obtain ⟨X, rfl⟩ : ∃ Y, Y = X' := ⟨_, rfl⟩
    have kX := kX'
    clear kX'
    have hcv := hfr X (fun _ _ _ => rfl)
    clear hfr kb
    refine fx_one (k := 8) (by kernel_rfl) ?_
    simp only [opsAt, List.filterMap_cons, List.filterMap_nil, List.getElem?_toArray, List.getElem?_cons_succ, List.getElem?_cons_zero]
    refine fxp_enterW (f := 24) (args := #[.agg #[.int .u8 t.k, .string t.fr, .string t.tu, .string t.nm, .int .u8 t.ex.top.k, .string t.ex.top.rat, .string t.ex.top.name, .int .i64 t.ex.top.date, .slice Au ku cu, .int .i64 t.date, .slice Ad kd cd, .slice As ks cs], .agg #[.int .u8 t.k, .string t.fr, .string t.tu, .string t.nm, .int .u8 t.ex.top.k, .string t.ex.top.rat, .string t.ex.top.name, .int .i64 t.ex.top.date, .slice D1 p1 e1, .int .i64 t.date, .slice D2 p2 e2, .slice D3 p3 e3]]) (w' := X) (by rfl) (by simp [go_sem]) ?_
    refine (HAT.out X (HX0.out X kX) _ _ _ hcv).mono ?_
    rintro e X' ⟨rfl, kb⟩
    have kX' := kX.trans (kb.mono kX.size)
    refine ⟨_, rfl, ⟨⟨X', kX'⟩, rfl⟩, ?_⟩
    refine fxp_nil ?_
    simp only [Act.put, List.setIfInBounds_toArray, List.set_cons_succ, List.set_cons_zero]
    clear kX
    obtain ⟨X, rfl⟩ : ∃ Y, Y = X' := ⟨_, rfl⟩
    have kX := kX'
    clear kX'
    clear kb hcv
    refine fx_reads (n := 16) [9] rfl (by kernel_rfl) ⟨⟨X, kX⟩, rfl⟩ ?_
    simp only [opsAt, List.filterMap_cons, List.filterMap_nil, List.getElem?_toArray, List.getElem?_cons_succ, List.getElem?_cons_zero]
    show wpQuiet _ _ _ _ [_] _
    repeat (go_big_quiet_step (fail))
    refine wpQuiet_nil ?_
    refine fx_one (k := 10) (by kernel_rfl) ?_
    simp only [opsAt, List.filterMap_cons, List.filterMap_nil, List.getElem?_toArray, List.getElem?_cons_succ, List.getElem?_cons_zero]
    refine fxp_value (w' := X) (u := .bool false) rfl (by simp [go_sem]) ⟨⟨X, kX⟩, rfl⟩ ?_
    refine fxp_nil ?_
    simp only [Act.put, List.setIfInBounds_toArray, List.set_cons_succ, List.set_cons_zero]
    refine fx_reads (n := 14) [11] rfl (by kernel_rfl) ⟨⟨X, kX⟩, rfl⟩ ?_
    simp only [opsAt, List.filterMap_cons, List.filterMap_nil, List.getElem?_toArray, List.getElem?_cons_succ, List.getElem?_cons_zero]
    show wpQuiet _ _ _ _ [_] _
    repeat (go_big_quiet_step (fail))
    refine wpQuiet_nil ?_
    refine fx_reads (n := 11) [12, 13, 14] rfl (by kernel_rfl) ⟨⟨X, kX⟩, rfl⟩ ?_
    simp only [opsAt, List.filterMap_cons, List.filterMap_nil, List.getElem?_toArray, List.getElem?_cons_succ, List.getElem?_cons_zero]
    show wpQuiet _ _ _ _ [_, _, _] _
    repeat (go_big_quiet_step (fail))
    refine wpQuiet_nil ?_
    refine fx_one (k := 15) (by kernel_rfl) ?_
    simp only [opsAt, List.filterMap_cons, List.filterMap_nil, List.getElem?_toArray, List.getElem?_cons_succ, List.getElem?_cons_zero]
    refine fxp_enterW (f := 24) (args := #[.agg #[.int .u8 t'.k, .string t'.fr, .string t'.tu, .string t'.nm, .int .u8 t'.ex.top.k, .string t'.ex.top.rat, .string t'.ex.top.name, .int .i64 t'.ex.top.date, .slice Au' ku' cu', .int .i64 t'.date, .slice Ad' kd' cd', .slice As' ks' cs'], .agg #[.int .u8 t.k, .string t.fr, .string t.tu, .string t.nm, .int .u8 t.ex.top.k, .string t.ex.top.rat, .string t.ex.top.name, .int .i64 t.ex.top.date, .slice Au ku cu, .int .i64 t.date, .slice Ad kd cd, .slice As ks cs]]) (w' := X) (by rfl) (by simp [go_sem]) ?_
    refine (HBA.out X (HX0.out X kX)).mono ?_
    rintro e X' ⟨rfl, kb⟩
    have kX' := kX.trans (kb.mono kX.size)
    refine ⟨_, rfl, ⟨⟨X', kX'⟩, rfl⟩, ?_⟩
    refine fxp_nil ?_
    simp only [Act.put, List.setIfInBounds_toArray, List.set_cons_succ, List.set_cons_zero]
    clear kX
    obtain ⟨X, rfl⟩ : ∃ Y, Y = X' := ⟨_, rfl⟩
    have kX := kX'
    clear kX'
    clear kb
    refine fx_reads (n := 9) [16] rfl (by kernel_rfl) ⟨⟨X, kX⟩, rfl⟩ ?_
    simp only [opsAt, List.filterMap_cons, List.filterMap_nil, List.getElem?_toArray, List.getElem?_cons_succ, List.getElem?_cons_zero]
    show wpQuiet _ _ _ _ [_] _
    repeat (go_big_quiet_step (fail))
    refine wpQuiet_nil ?_
    refine fx_one (k := 17) (by kernel_rfl) ?_
    simp only [opsAt, List.filterMap_cons, List.filterMap_nil, List.getElem?_toArray, List.getElem?_cons_succ, List.getElem?_cons_zero]
    refine fxp_value (w' := X) (u := .bool false) rfl (by simp [go_sem]) ⟨⟨X, kX⟩, rfl⟩ ?_
    refine fxp_nil ?_
    simp only [Act.put, List.setIfInBounds_toArray, List.set_cons_succ, List.set_cons_zero]
    refine fx_reads (n := 7) [18] rfl (by kernel_rfl) ⟨⟨X, kX⟩, rfl⟩ ?_
    simp only [opsAt, List.filterMap_cons, List.filterMap_nil, List.getElem?_toArray, List.getElem?_cons_succ, List.getElem?_cons_zero]
    show wpQuiet _ _ _ _ [_] _
    repeat (go_big_quiet_step (fail))
    refine wpQuiet_nil ?_
    refine fx_reads (n := 4) [19, 20, 22] rfl (by kernel_rfl) ⟨⟨X, kX⟩, rfl⟩ ?_
    simp only [opsAt, List.filterMap_cons, List.filterMap_nil, List.getElem?_toArray, List.getElem?_cons_succ, List.getElem?_cons_zero]
    show wpQuiet _ _ _ _ [_, _, _] _
    repeat (go_big_quiet_step (fail))
    refine wpQuiet_nil ?_
    refine fx_one (k := 21) (by kernel_rfl) ?_
    simp only [opsAt, List.filterMap_cons, List.filterMap_nil, List.getElem?_toArray, List.getElem?_cons_succ, List.getElem?_cons_zero]
    refine fxp_enterW (f := 25) (args := #[.agg #[.int .u8 t.k, .string t.fr, .string t.tu, .string t.nm, .int .u8 t.ex.top.k, .string t.ex.top.rat, .string t.ex.top.name, .int .i64 t.ex.top.date, .slice Au ku cu, .int .i64 t.date, .slice Ad kd cd, .slice As ks cs]]) (w' := X) (by rfl) (by simp [go_sem]) ?_
    refine (HTW.out X (HX0.out X kX)).mono ?_
    rintro e X' ⟨D1', D2', D3', p1', p2', p3', e1', e2', e3', _, _, rfl, kb, _, hfr⟩
    have kX' := kX.trans (kb.mono kX.size)
    refine ⟨_, rfl, ⟨⟨X', kX'⟩, rfl⟩, ?_⟩
    refine fxp_nil ?_
    simp only [Act.put, List.setIfInBounds_toArray, List.set_cons_succ, List.set_cons_zero]
    clear kX
    obtain ⟨X, rfl⟩ : ∃ Y, Y = X' := ⟨_, rfl⟩
    have kX := kX'
    clear kX'
    have hcv := hfr X (fun _ _ _ => rfl)
    clear hfr kb
    refine fx_one (k := 23) (by kernel_rfl) ?_
    simp only [opsAt, List.filterMap_cons, List.filterMap_nil, List.getElem?_toArray, List.getElem?_cons_succ, List.getElem?_cons_zero]
    refine fxp_enterW (f := 24) (args := #[.agg #[.int .u8 t.k, .string t.fr, .string t.tu, .string t.nm, .int .u8 t.ex.top.k, .string t.ex.top.rat, .string t.ex.top.name, .int .i64 t.ex.top.date, .slice D1' p1' e1', .int .i64 t.date, .slice D2' p2' e2', .slice D3' p3' e3'], .agg #[.int .u8 t'.k, .string t'.fr, .string t'.tu, .string t'.nm, .int .u8 t'.ex.top.k, .string t'.ex.top.rat, .string t'.ex.top.name, .int .i64 t'.ex.top.date, .slice Au' ku' cu', .int .i64 t'.date, .slice Ad' kd' cd', .slice As' ks' cs']]) (w' := X) (by rfl) (by simp [go_sem]) ?_
    refine (HTB.out X (HX0.out X kX) _ _ _ hcv).mono ?_
    rintro e X' ⟨rfl, kb⟩
    have kX' := kX.trans (kb.mono kX.size)
    refine ⟨_, rfl, ⟨⟨X', kX'⟩, rfl⟩, ?_⟩
    refine fxp_nil ?_
    simp only [Act.put, List.setIfInBounds_toArray, List.set_cons_succ, List.set_cons_zero]
    clear kX
    obtain ⟨X, rfl⟩ : ∃ Y, Y = X' := ⟨_, rfl⟩
    have kX := kX'
    clear kX'
    clear kb hcv
    refine fx_reads (n := 1) [24] rfl (by kernel_rfl) ⟨⟨X, kX⟩, rfl⟩ ?_
    simp only [opsAt, List.filterMap_cons, List.filterMap_nil, List.getElem?_toArray, List.getElem?_cons_succ, List.getElem?_cons_zero]
    show wpQuiet _ _ _ _ [_] _
    repeat (go_big_quiet_step (fail))
    refine wpQuiet_nil ?_
    refine fx_one (k := 25) (by kernel_rfl) ?_
    simp only [opsAt, List.filterMap_cons, List.filterMap_nil, List.getElem?_toArray, List.getElem?_cons_succ, List.getElem?_cons_zero]
    refine fxp_value (w' := X) (u := .bool false) rfl (by simp [go_sem]) ⟨⟨X, kX⟩, rfl⟩ ?_
    refine fxp_nil ?_
    simp only [Act.put, List.setIfInBounds_toArray, List.set_cons_succ, List.set_cons_zero]
    refine fx_end (by kernel_rfl) ?_
    have hX := HX0.out X kX
    clear z0 z1 z2 z3 z4 z5 z6 z7 z8 z9 z10 z11 y0 y1 y2 y3 y4 y5 y6 y7 y8 y9 y10 y11
    go_wp2_with fail
    go_ret
    exact ⟨rfl, hX⟩
  · go_upto_region 5 with fail
    have hdr := (Below.refl W4.heap.size W4).drew
    have BXd := BX.below hdr
    have BYd := BY.below hdr
    have HX0 : Hid (∀ X, Below W4.drew.heap.size W4.drew X → Below w.heap.size w X) := Lib.hid (fun X h => h4.trans ((hdr.trans (h.mono hdr.size)).mono h4.size))
    have kX0 := Below.refl W4.drew.heap.size W4.drew
    refine wp_region_fx 26 (fun w' => ∃ y : Ab W4.drew, w' = y.1) (by kernel_rfl) ?_
    show fxAny _ _ _ _ 26 _ 26 _ _ _
    have z0 : ∀ q : Ab W4.drew, q.1.cell? ⟨w.heap.size, 0, none⟩ = some (.int .u8 t.k) := fun q => (BXd.below q.2).cell 0
    have z1 : ∀ q : Ab W4.drew, q.1.cell? ⟨w.heap.size, 1, none⟩ = some (.string t.fr) := fun q => (BXd.below q.2).cell 1
    have z2 : ∀ q : Ab W4.drew, q.1.cell? ⟨w.heap.size, 2, none⟩ = some (.string t.tu) := fun q => (BXd.below q.2).cell 2
    have z3 : ∀ q : Ab W4.drew, q.1.cell? ⟨w.heap.size, 3, none⟩ = some (.string t.nm) := fun q => (BXd.below q.2).cell 3
    have z4 : ∀ q : Ab W4.drew, q.1.cell? ⟨w.heap.size, 4, none⟩ = some (.int .u8 t.ex.top.k) := fun q => (BXd.below q.2).cell 4
    have z5 : ∀ q : Ab W4.drew, q.1.cell? ⟨w.heap.size, 5, none⟩ = some (.string t.ex.top.rat) := fun q => (BXd.below q.2).cell 5
    have z6 : ∀ q : Ab W4.drew, q.1.cell? ⟨w.heap.size, 6, none⟩ = some (.string t.ex.top.name) := fun q => (BXd.below q.2).cell 6
    have z7 : ∀ q : Ab W4.drew, q.1.cell? ⟨w.heap.size, 7, none⟩ = some (.int .i64 t.ex.top.date) := fun q => (BXd.below q.2).cell 7
    have z8 : ∀ q : Ab W4.drew, q.1.cell? ⟨w.heap.size, 8, none⟩ = some (.slice Au ku cu) := fun q => (BXd.below q.2).cell 8
    have z9 : ∀ q : Ab W4.drew, q.1.cell? ⟨w.heap.size, 9, none⟩ = some (.int .i64 t.date) := fun q => (BXd.below q.2).cell 9
    have z10 : ∀ q : Ab W4.drew, q.1.cell? ⟨w.heap.size, 10, none⟩ = some (.slice Ad kd cd) := fun q => (BXd.below q.2).cell 10
    have z11 : ∀ q : Ab W4.drew, q.1.cell? ⟨w.heap.size, 11, none⟩ = some (.slice As ks cs) := fun q => (BXd.below q.2).cell 11
    have y0 : ∀ q : Ab W4.drew, q.1.cell? ⟨w.heap.size + 1, 0, none⟩ = some (.int .u8 t'.k) := fun q => (BYd.below q.2).cell 0
    have y1 : ∀ q : Ab W4.drew, q.1.cell? ⟨w.heap.size + 1, 1, none⟩ = some (.string t'.fr) := fun q => (BYd.below q.2).cell 1
    have y2 : ∀ q : Ab W4.drew, q.1.cell? ⟨w.heap.size + 1, 2, none⟩ = some (.string t'.tu) := fun q => (BYd.below q.2).cell 2
    have y3 : ∀ q : Ab W4.drew, q.1.cell? ⟨w.heap.size + 1, 3, none⟩ = some (.string t'.nm) := fun q => (BYd.below q.2).cell 3
    have y4 : ∀ q : Ab W4.drew, q.1.cell? ⟨w.heap.size + 1, 4, none⟩ = some (.int .u8 t'.ex.top.k) := fun q => (BYd.below q.2).cell 4
    have y5 : ∀ q : Ab W4.drew, q.1.cell? ⟨w.heap.size + 1, 5, none⟩ = some (.string t'.ex.top.rat) := fun q => (BYd.below q.2).cell 5
    have y6 : ∀ q : Ab W4.drew, q.1.cell? ⟨w.heap.size + 1, 6, none⟩ = some (.string t'.ex.top.name) := fun q => (BYd.below q.2).cell 6
    have y7 : ∀ q : Ab W4.drew, q.1.cell? ⟨w.heap.size + 1, 7, none⟩ = some (.int .i64 t'.ex.top.date) := fun q => (BYd.below q.2).cell 7
    have y8 : ∀ q : Ab W4.drew, q.1.cell? ⟨w.heap.size + 1, 8, none⟩ = some (.slice Au' ku' cu') := fun q => (BYd.below q.2).cell 8
    have y9 : ∀ q : Ab W4.drew, q.1.cell? ⟨w.heap.size + 1, 9, none⟩ = some (.int .i64 t'.date) := fun q => (BYd.below q.2).cell 9
    have y10 : ∀ q : Ab W4.drew, q.1.cell? ⟨w.heap.size + 1, 10, none⟩ = some (.slice Ad' kd' cd') := fun q => (BYd.below q.2).cell 10
    have y11 : ∀ q : Ab W4.drew, q.1.cell? ⟨w.heap.size + 1, 11, none⟩ = some (.slice As' ks' cs') := fun q => (BYd.below q.2).cell 11
    generalize W4.drew = X0 at *
    refine fx_reads (n := 24) [0, 1] rfl (by kernel_rfl) ⟨⟨X0, kX0⟩, rfl⟩ ?_
    simp only [opsAt, List.filterMap_cons, List.filterMap_nil, List.getElem?_toArray, List.getElem?_cons_succ, List.getElem?_cons_zero]
    show wpQuiet _ _ _ _ [_, _] _
    repeat (go_big_quiet_step (fail))
    refine wpQuiet_nil ?_
    refine fx_one (k := 2) (by kernel_rfl) ?_
    simp only [opsAt, List.filterMap_cons, List.filterMap_nil, List.getElem?_toArray, List.getElem?_cons_succ, List.getElem?_cons_zero]
    refine fxp_enter (f := 24) (args := #[.agg #[.int .u8 t.k, .string t.fr, .string t.tu, .string t.nm, .int .u8 t.ex.top.k, .string t.ex.top.rat, .string t.ex.top.name, .int .i64 t.ex.top.date, .slice Au ku cu, .int .i64 t.date, .slice Ad kd cd, .slice As ks cs], .agg #[.int .u8 t.k, .string t.fr, .string t.tu, .string t.nm, .int .u8 t.ex.top.k, .string t.ex.top.rat, .string t.ex.top.name, .int .i64 t.ex.top.date, .slice Au ku cu, .int .i64 t.date, .slice Ad kd cd, .slice As ks cs]]) (w' := X0) rfl (by simp [go_sem]) ?_
    refine (HAA.out X0 (HX0.out X0 kX0)).mono ?_
    rintro e X' ⟨rfl, kb⟩
    have kX' := kX0.trans (kb.mono kX0.size)
    refine ⟨_, rfl, ⟨⟨X', kX'⟩, rfl⟩, ?_⟩
    refine fxp_nil ?_
    simp only [Act.put, List.setIfInBounds_toArray, List.set_cons_succ, List.set_cons_zero]
    skip
    obtain ⟨X, rfl⟩ : ∃ Y, Y = X' := ⟨_, rfl⟩
    have kX := kX'
    clear kX'
    clear kb
    refine fx_reads (n := 21) [3, 4] rfl (by kernel_rfl) ⟨⟨X, kX⟩, rfl⟩ ?_
    simp only [opsAt, List.filterMap_cons, List.filterMap_nil, List.getElem?_toArray, List.getElem?_cons_succ, List.getElem?_cons_zero]
    show wpQuiet _ _ _ _ [_, _] _
    repeat (go_big_quiet_step (fail))
    refine wpQuiet_nil ?_
    refine fx_reads (n := 19) [5, 6] rfl (by kernel_rfl) ⟨⟨X, kX⟩, rfl⟩ ?_
    simp only [opsAt, List.filterMap_cons, List.filterMap_nil, List.getElem?_toArray, List.getElem?_cons_succ, List.getElem?_cons_zero]
    show wpQuiet _ _ _ _ [_, _] _
    repeat (go_big_quiet_step (fail))
    refine wpQuiet_nil ?_
    refine fx_one (k := 7) (by kernel_rfl) ?_
    simp only [opsAt, List.filterMap_cons, List.filterMap_nil, List.getElem?_toArray, List.getElem?_cons_succ, List.getElem?_cons_zero]
    refine fxp_enterW (f := 25) (args := #[.agg #[.int .u8 t.k, .string t.fr, .string t.tu, .string t.nm, .int .u8 t.ex.top.k, .string t.ex.top.rat, .string t.ex.top.name, .int .i64 t.ex.top.date, .slice Au ku cu, .int .i64 t.date, .slice Ad kd cd, .slice As ks cs]]) (w' := X) (by rfl) (by simp [go_sem]) ?_
    refine (HTW.out X (HX0.out X kX)).mono ?_
    rintro e X' ⟨D1, D2, D3, p1, p2, p3, e1, e2, e3, _, _, rfl, kb, _, hfr⟩
    have kX' := kX.trans (kb.mono kX.size)
    refine ⟨_, rfl, ⟨⟨X', kX'⟩, rfl⟩, ?_⟩
    refine fxp_nil ?_
    simp only [Act.put, List.setIfInBounds_toArray, List.set_cons_succ, List.set_cons_zero]
    clear kX
    obtain ⟨X, rfl⟩ : ∃ Y, Y = X' := ⟨_, rfl⟩
    have kX := kX'
    clear kX'
    have hcv := hfr X (fun _ _ _ => rfl)
    clear hfr kb
    refine fx_one (k := 8) (by kernel_rfl) ?_
    simp only [opsAt, List.filterMap_cons, List.filterMap_nil, List.getElem?_toArray, List.getElem?_cons_succ, List.getElem?_cons_zero]
    refine fxp_enterW (f := 24) (args := #[.agg #[.int .u8 t.k, .string t.fr, .string t.tu, .string t.nm, .int .u8 t.ex.top.k, .string t.ex.top.rat, .string t.ex.top.name, .int .i64 t.ex.top.date, .slice Au ku cu, .int .i64 t.date, .slice Ad kd cd, .slice As ks cs], .agg #[.int .u8 t.k, .string t.fr, .string t.tu, .string t.nm, .int .u8 t.ex.top.k, .string t.ex.top.rat, .string t.ex.top.name, .int .i64 t.ex.top.date, .slice D1 p1 e1, .int .i64 t.date, .slice D2 p2 e2, .slice D3 p3 e3]]) (w' := X) (by rfl) (by simp [go_sem]) ?_
    refine (HAT.out X (HX0.out X kX) _ _ _ hcv).mono ?_
    rintro e X' ⟨rfl, kb⟩
    have kX' := kX.trans (kb.mono kX.size)
    refine ⟨_, rfl, ⟨⟨X', kX'⟩, rfl⟩, ?_⟩
    refine fxp_nil ?_
    simp only [Act.put, List.setIfInBounds_toArray, List.set_cons_succ, List.set_cons_zero]
    clear kX
    obtain ⟨X, rfl⟩ : ∃ Y, Y = X' := ⟨_, rfl⟩
    have kX := kX'
    clear kX'
    clear kb hcv
    refine fx_reads (n := 16) [9] rfl (by kernel_rfl) ⟨⟨X, kX⟩, rfl⟩ ?_
    simp only [opsAt, List.filterMap_cons, List.filterMap_nil, List.getElem?_toArray, List.getElem?_cons_succ, List.getElem?_cons_zero]
    show wpQuiet _ _ _ _ [_] _
    repeat (go_big_quiet_step (fail))
    refine wpQuiet_nil ?_
    refine fx_one (k := 10) (by kernel_rfl) ?_
    simp only [opsAt, List.filterMap_cons, List.filterMap_nil, List.getElem?_toArray, List.getElem?_cons_succ, List.getElem?_cons_zero]
    refine fxp_value (w' := X) (u := .bool false) rfl (by simp [go_sem]) ⟨⟨X, kX⟩, rfl⟩ ?_
    refine fxp_nil ?_
    simp only [Act.put, List.setIfInBounds_toArray, List.set_cons_succ, List.set_cons_zero]
    refine fx_reads (n := 14) [11] rfl (by kernel_rfl) ⟨⟨X, kX⟩, rfl⟩ ?_
    simp only [opsAt, List.filterMap_cons, List.filterMap_nil, List.getElem?_toArray, List.getElem?_cons_succ, List.getElem?_cons_zero]
    show wpQuiet _ _ _ _ [_] _
    repeat (go_big_quiet_step (fail))
    refine wpQuiet_nil ?_
    refine fx_reads (n := 11) [12, 13, 14] rfl (by kernel_rfl) ⟨⟨X, kX⟩, rfl⟩ ?_
    simp only [opsAt, List.filterMap_cons, List.filterMap_nil, List.getElem?_toArray, List.getElem?_cons_succ, List.getElem?_cons_zero]
    show wpQuiet _ _ _ _ [_, _, _] _
    repeat (go_big_quiet_step (fail))
    refine wpQuiet_nil ?_
    refine fx_one (k := 15) (by kernel_rfl) ?_
    simp only [opsAt, List.filterMap_cons, List.filterMap_nil, List.getElem?_toArray, List.getElem?_cons_succ, List.getElem?_cons_zero]
    refine fxp_enterW (f := 24) (args := #[.agg #[.int .u8 t'.k, .string t'.fr, .string t'.tu, .string t'.nm, .int .u8 t'.ex.top.k, .string t'.ex.top.rat, .string t'.ex.top.name, .int .i64 t'.ex.top.date, .slice Au' ku' cu', .int .i64 t'.date, .slice Ad' kd' cd', .slice As' ks' cs'], .agg #[.int .u8 t.k, .string t.fr, .string t.tu, .string t.nm, .int .u8 t.ex.top.k, .string t.ex.top.rat, .string t.ex.top.name, .int .i64 t.ex.top.date, .slice Au ku cu, .int .i64 t.date, .slice Ad kd cd, .slice As ks cs]]) (w' := X) (by rfl) (by simp [go_sem]) ?_
    refine (HBA.out X (HX0.out X kX)).mono ?_
    rintro e X' ⟨rfl, kb⟩
    have kX' := kX.trans (kb.mono kX.size)
    refine ⟨_, rfl, ⟨⟨X', kX'⟩, rfl⟩, ?_⟩
    refine fxp_nil ?_
    simp only [Act.put, List.setIfInBounds_toArray, List.set_cons_succ, List.set_cons_zero]
    clear kX
    obtain ⟨X, rfl⟩ : ∃ Y, Y = X' := ⟨_, rfl⟩
    have kX := kX'
    clear kX'
    clear kb
    refine fx_reads (n := 9) [16] rfl (by kernel_rfl) ⟨⟨X, kX⟩, rfl⟩ ?_
    simp only [opsAt, List.filterMap_cons, List.filterMap_nil, List.getElem?_toArray, List.getElem?_cons_succ, List.getElem?_cons_zero]
    show wpQuiet _ _ _ _ [_] _
    repeat (go_big_quiet_step (fail))
    refine wpQuiet_nil ?_
    refine fx_one (k := 17) (by kernel_rfl) ?_
    simp only [opsAt, List.filterMap_cons, List.filterMap_nil, List.getElem?_toArray, List.getElem?_cons_succ, List.getElem?_cons_zero]
    refine fxp_value (w' := X) (u := .bool false) rfl (by simp [go_sem]) ⟨⟨X, kX⟩, rfl⟩ ?_
    refine fxp_nil ?_
    simp only [Act.put, List.setIfInBounds_toArray, List.set_cons_succ, List.set_cons_zero]
    refine fx_reads (n := 7) [18] rfl (by kernel_rfl) ⟨⟨X, kX⟩, rfl⟩ ?_
    simp only [opsAt, List.filterMap_cons, List.filterMap_nil, List.getElem?_toArray, List.getElem?_cons_succ, List.getElem?_cons_zero]
    show wpQuiet _ _ _ _ [_] _
    repeat (go_big_quiet_step (fail))
    refine wpQuiet_nil ?_
    refine fx_reads (n := 4) [19, 20, 22] rfl (by kernel_rfl) ⟨⟨X, kX⟩, rfl⟩ ?_
    simp only [opsAt, List.filterMap_cons, List.filterMap_nil, List.getElem?_toArray, List.getElem?_cons_succ, List.getElem?_cons_zero]
    show wpQuiet _ _ _ _ [_, _, _] _
    repeat (go_big_quiet_step (fail))
    refine wpQuiet_nil ?_
    refine fx_one (k := 21) (by kernel_rfl) ?_
    simp only [opsAt, List.filterMap_cons, List.filterMap_nil, List.getElem?_toArray, List.getElem?_cons_succ, List.getElem?_cons_zero]
    refine fxp_enterW (f := 25) (args := #[.agg #[.int .u8 t.k, .string t.fr, .string t.tu, .string t.nm, .int .u8 t.ex.top.k, .string t.ex.top.rat, .string t.ex.top.name, .int .i64 t.ex.top.date, .slice Au ku cu, .int .i64 t.date, .slice Ad kd cd, .slice As ks cs]]) (w' := X) (by rfl) (by simp [go_sem]) ?_
    refine (HTW.out X (HX0.out X kX)).mono ?_
    rintro e X' ⟨D1', D2', D3', p1', p2', p3', e1', e2', e3', _, _, rfl, kb, _, hfr⟩
    have kX' := kX.trans (kb.mono kX.size)
    refine ⟨_, rfl, ⟨⟨X', kX'⟩, rfl⟩, ?_⟩
    refine fxp_nil ?_
    simp only [Act.put, List.setIfInBounds_toArray, List.set_cons_succ, List.set_cons_zero]
    clear kX
    obtain ⟨X, rfl⟩ : ∃ Y, Y = X' := ⟨_, rfl⟩
    have kX := kX'
    clear kX'
    have hcv := hfr X (fun _ _ _ => rfl)
    clear hfr kb
    refine fx_one (k := 23) (by kernel_rfl) ?_
    simp only [opsAt, List.filterMap_cons, List.filterMap_nil, List.getElem?_toArray, List.getElem?_cons_succ, List.getElem?_cons_zero]
    refine fxp_enterW (f := 24) (args := #[.agg #[.int .u8 t.k, .string t.fr, .string t.tu, .string t.nm, .int .u8 t.ex.top.k, .string t.ex.top.rat, .string t.ex.top.name, .int .i64 t.ex.top.date, .slice D1' p1' e1', .int .i64 t.date, .slice D2' p2' e2', .slice D3' p3' e3'], .agg #[.int .u8 t'.k, .string t'.fr, .string t'.tu, .string t'.nm, .int .u8 t'.ex.top.k, .string t'.ex.top.rat, .string t'.ex.top.name, .int .i64 t'.ex.top.date, .slice Au' ku' cu', .int .i64 t'.date, .slice Ad' kd' cd', .slice As' ks' cs']]) (w' := X) (by rfl) (by simp [go_sem]) ?_
    refine (HTB.out X (HX0.out X kX) _ _ _ hcv).mono ?_
    rintro e X' ⟨rfl, kb⟩
    have kX' := kX.trans (kb.mono kX.size)
    refine ⟨_, rfl, ⟨⟨X', kX'⟩, rfl⟩, ?_⟩
    refine fxp_nil ?_
    simp only [Act.put, List.setIfInBounds_toArray, List.set_cons_succ, List.set_cons_zero]
    clear kX
    obtain ⟨X, rfl⟩ : ∃ Y, Y = X' := ⟨_, rfl⟩
    have kX := kX'
    clear kX'
    clear kb hcv
    refine fx_reads (n := 1) [24] rfl (by kernel_rfl) ⟨⟨X, kX⟩, rfl⟩ ?_
    simp only [opsAt, List.filterMap_cons, List.filterMap_nil, List.getElem?_toArray, List.getElem?_cons_succ, List.getElem?_cons_zero]
    show wpQuiet _ _ _ _ [_] _
    repeat (go_big_quiet_step (fail))
    refine wpQuiet_nil ?_
    refine fx_one (k := 25) (by kernel_rfl) ?_
    simp only [opsAt, List.filterMap_cons, List.filterMap_nil, List.getElem?_toArray, List.getElem?_cons_succ, List.getElem?_cons_zero]
    refine fxp_value (w' := X) (u := .bool false) rfl (by simp [go_sem]) ⟨⟨X, kX⟩, rfl⟩ ?_
    refine fxp_nil ?_
    simp only [Act.put, List.setIfInBounds_toArray, List.set_cons_succ, List.set_cons_zero]
    refine fx_end (by kernel_rfl) ?_
    have hX := HX0.out X kX
    have BX := BXd.below kX
    have BY := BYd.below kX
    clear z0 z1 z2 z3 z4 z5 z6 z7 z8 z9 z10 z11 y0 y1 y2 y3 y4 y5 y6 y7 y8 y9 y10 y11 kX kX0 HX0 BXd BYd hdr HAA HAT HTB HTW HBA
    obtain rfl := HEQ.out (by first | rfl | trivial)
    have HHA : Hid (∀ W, Below w.heap.size w W → Calls Tryd.prog 18 #[.agg #[.int .u8 t.k, .string t.fr, .string t.tu, .string t.nm, .int .u8 t.ex.top.k, .string t.ex.top.rat, .string t.ex.top.name, .int .i64 t.ex.top.date, .slice Au ku cu, .int .i64 t.date, .slice Ad kd cd, .slice As ks cs]] W fun e w' => e = .returned (.tuple #[.int .i64 (Z.horZ (F + 1 + 1) c), .int .i64 (Z.coE (F + 1 + 1) c)]) ∧ Below W.heap.size W w') := Lib.hid (fun W h => chor_any (F + 1) c ⟨t, .slice Au ku cu, .slice Ad kd cd, .slice As ks cs⟩ W (CV.below h _ HC.out) (HLL.out W h) (HVV.out W h) HS.out)
    have HHB : Hid (∀ W, Below w.heap.size w W → Calls Tryd.prog 18 #[.agg #[.int .u8 t'.k, .string t'.fr, .string t'.tu, .string t'.nm, .int .u8 t'.ex.top.k, .string t'.ex.top.rat, .string t'.ex.top.name, .int .i64 t'.ex.top.date, .slice Au' ku' cu', .int .i64 t'.date, .slice Ad' kd' cd', .slice As' ks' cs']] W fun e w' => e = .returned (.tuple #[.int .i64 (Z.horZ (F + 1 + 1) c), .int .i64 (Z.coE (F + 1 + 1) c)]) ∧ Below W.heap.size W w') := Lib.hid (fun W h => chor_any (F + 1) c ⟨t', .slice Au' ku' cu', .slice Ad' kd' cd', .slice As' ks' cs'⟩ W (CV.below h _ HC'.out) (HLL.out W h) (HVV.out W h) HS.out)
    have HPA : Hid (∀ W, Below w.heap.size w W → Calls Tryd.prog 17 #[.agg #[.int .u8 t.k, .string t.fr, .string t.tu, .string t.nm, .int .u8 t.ex.top.k, .string t.ex.top.rat, .string t.ex.top.name, .int .i64 t.ex.top.date, .slice Au ku cu, .int .i64 t.date, .slice Ad kd cd, .slice As ks cs]] W fun e w' => ∃ v, e = .returned (.tuple #[v, .int .i64 (Z.coE (F + 1 + 1) c)]) ∧ OB w' W.heap.size v (Z.wordsL Z.pw (F + 1 + 1) c) ∧ Below W.heap.size W w') := Lib.hid (fun W h => cparties_any (F + 1) c ⟨t, .slice Au ku cu, .slice Ad kd cd, .slice As ks cs⟩ W (CV.below h _ HC.out) (HLL.out W h) (HVV.out W h) HS.out)
    have HPB : Hid (∀ W, Below w.heap.size w W → Calls Tryd.prog 17 #[.agg #[.int .u8 t'.k, .string t'.fr, .string t'.tu, .string t'.nm, .int .u8 t'.ex.top.k, .string t'.ex.top.rat, .string t'.ex.top.name, .int .i64 t'.ex.top.date, .slice Au' ku' cu', .int .i64 t'.date, .slice Ad' kd' cd', .slice As' ks' cs']] W fun e w' => ∃ v, e = .returned (.tuple #[v, .int .i64 (Z.coE (F + 1 + 1) c)]) ∧ OB w' W.heap.size v (Z.wordsL Z.pw (F + 1 + 1) c) ∧ Below W.heap.size W w') := Lib.hid (fun W h => cparties_any (F + 1) c ⟨t', .slice Au' ku' cu', .slice Ad' kd' cd', .slice As' ks' cs'⟩ W (CV.below h _ HC'.out) (HLL.out W h) (HVV.out W h) HS.out)
    have HCA : Hid (∀ W, Below w.heap.size w W → Calls Tryd.prog 12 #[.agg #[.int .u8 t.k, .string t.fr, .string t.tu, .string t.nm, .int .u8 t.ex.top.k, .string t.ex.top.rat, .string t.ex.top.name, .int .i64 t.ex.top.date, .slice Au ku cu, .int .i64 t.date, .slice Ad kd cd, .slice As ks cs]] W fun e w' => e = .returned (.int .i64 (Z.coE (F + 1 + 1) c)) ∧ Below W.heap.size W w') := Lib.hid (fun W h => ccheck_any (F + 1) c ⟨t, .slice Au ku cu, .slice Ad kd cd, .slice As ks cs⟩ W (CV.below h _ HC.out) (HLL.out W h) (HVV.out W h) HS.out)
    have HCB : Hid (∀ W, Below w.heap.size w W → Calls Tryd.prog 12 #[.agg #[.int .u8 t'.k, .string t'.fr, .string t'.tu, .string t'.nm, .int .u8 t'.ex.top.k, .string t'.ex.top.rat, .string t'.ex.top.name, .int .i64 t'.ex.top.date, .slice Au' ku' cu', .int .i64 t'.date, .slice Ad' kd' cd', .slice As' ks' cs']] W fun e w' => e = .returned (.int .i64 (Z.coE (F + 1 + 1) c)) ∧ Below W.heap.size W w') := Lib.hid (fun W h => ccheck_any (F + 1) c ⟨t', .slice Au' ku' cu', .slice Ad' kd' cd', .slice As' ks' cs'⟩ W (CV.below h _ HC'.out) (HLL.out W h) (HVV.out W h) HS.out)
    have HSA : Hid (∀ W, Below w.heap.size w W → Calls Tryd.prog 20 #[.agg #[.int .u8 t.k, .string t.fr, .string t.tu, .string t.nm, .int .u8 t.ex.top.k, .string t.ex.top.rat, .string t.ex.top.name, .int .i64 t.ex.top.date, .slice Au ku cu, .int .i64 t.date, .slice Ad kd cd, .slice As ks cs]] W fun e w' => e = .returned (.int .i64 (Z.coSize (F + 1 + 1) c : Nat)) ∧ Below W.heap.size W w') := Lib.hid (fun W h => csize_any (F + 1) c ⟨t, .slice Au ku cu, .slice Ad kd cd, .slice As ks cs⟩ W (CV.below h _ HC.out) HS.out)
    have HSB : Hid (∀ W, Below w.heap.size w W → Calls Tryd.prog 20 #[.agg #[.int .u8 t'.k, .string t'.fr, .string t'.tu, .string t'.nm, .int .u8 t'.ex.top.k, .string t'.ex.top.rat, .string t'.ex.top.name, .int .i64 t'.ex.top.date, .slice Au' ku' cu', .int .i64 t'.date, .slice Ad' kd' cd', .slice As' ks' cs']] W fun e w' => e = .returned (.int .i64 (Z.coSize (F + 1 + 1) c : Nat)) ∧ Below W.heap.size W w') := Lib.hid (fun W h => csize_any (F + 1) c ⟨t', .slice Au' ku' cu', .slice Ad' kd' cd', .slice As' ks' cs'⟩ W (CV.below h _ HC'.out) HS.out)
    generalize Z.horZ (F + 1 + 1) c = HZ at *
    generalize Z.coE (F + 1 + 1) c = E at *
    generalize Z.wordsL Z.pw (F + 1 + 1) c = wl at *
    generalize Z.coSize (F + 1 + 1) c = SZ at *
    clear HC HC' HLL HVV HS HS' HEQ
    have z0 := BX.cell 0
    have z1 := BX.cell 1
    have z2 := BX.cell 2
    have z3 := BX.cell 3
    have z4 := BX.cell 4
    have z5 := BX.cell 5
    have z6 := BX.cell 6
    have z7 := BX.cell 7
    have z8 := BX.cell 8
    have z9 := BX.cell 9
    have z10 := BX.cell 10
    have z11 := BX.cell 11
    have y0 := BY.cell 0
    have y1 := BY.cell 1
    have y2 := BY.cell 2
    have y3 := BY.cell 3
    have y4 := BY.cell 4
    have y5 := BY.cell 5
    have y6 := BY.cell 6
    have y7 := BY.cell 7
    have y8 := BY.cell 8
    have y9 := BY.cell 9
    have y10 := BY.cell 10
    have y11 := BY.cell 11
    go_wp2_with fail
    refine (HHA.out X hX).mono ?_
    rintro e W5 ⟨rfl, hb⟩
    have h5 := hX.trans (hb.mono hX.size)
    have BX := BX.below hb
    have BY := BY.below hb
    clear z0 z1 z2 z3 z4 z5 z6 z7 z8 z9 z10 z11 y0 y1 y2 y3 y4 y5 y6 y7 y8 y9 y10 y11 hb hX HHA
    have z0 := BX.cell 0
    have z1 := BX.cell 1
    have z2 := BX.cell 2
    have z3 := BX.cell 3
    have z4 := BX.cell 4
    have z5 := BX.cell 5
    have z6 := BX.cell 6
    have z7 := BX.cell 7
    have z8 := BX.cell 8
    have z9 := BX.cell 9
    have z10 := BX.cell 10
    have z11 := BX.cell 11
    have y0 := BY.cell 0
    have y1 := BY.cell 1
    have y2 := BY.cell 2
    have y3 := BY.cell 3
    have y4 := BY.cell 4
    have y5 := BY.cell 5
    have y6 := BY.cell 6
    have y7 := BY.cell 7
    have y8 := BY.cell 8
    have y9 := BY.cell 9
    have y10 := BY.cell 10
    have y11 := BY.cell 11
    go_wp2_with fail
    refine (HHB.out W5 h5).mono ?_
    rintro e W6 ⟨rfl, hb⟩
    have h6 := h5.trans (hb.mono h5.size)
    have BX := BX.below hb
    have BY := BY.below hb
    clear z0 z1 z2 z3 z4 z5 z6 z7 z8 z9 z10 z11 y0 y1 y2 y3 y4 y5 y6 y7 y8 y9 y10 y11 hb h5 HHB
    have z0 := BX.cell 0
    have z1 := BX.cell 1
    have z2 := BX.cell 2
    have z3 := BX.cell 3
    have z4 := BX.cell 4
    have z5 := BX.cell 5
    have z6 := BX.cell 6
    have z7 := BX.cell 7
    have z8 := BX.cell 8
    have z9 := BX.cell 9
    have z10 := BX.cell 10
    have z11 := BX.cell 11
    have y0 := BY.cell 0
    have y1 := BY.cell 1
    have y2 := BY.cell 2
    have y3 := BY.cell 3
    have y4 := BY.cell 4
    have y5 := BY.cell 5
    have y6 := BY.cell 6
    have y7 := BY.cell 7
    have y8 := BY.cell 8
    have y9 := BY.cell 9
    have y10 := BY.cell 10
    have y11 := BY.cell 11
    go_wp2_with fail
    refine (HPA.out W6 h6).mono ?_
    rintro e W7 ⟨v7, rfl, hO7, hb⟩
    obtain ⟨A7, c7, rfl⟩ := OL.shape hO7
    have HO7 := Lib.hid hO7
    clear hO7
    have h7 := h6.trans (hb.mono h6.size)
    have BX := BX.below hb
    have BY := BY.below hb
    clear z0 z1 z2 z3 z4 z5 z6 z7 z8 z9 z10 z11 y0 y1 y2 y3 y4 y5 y6 y7 y8 y9 y10 y11 hb h6 HPA
    have z0 := BX.cell 0
    have z1 := BX.cell 1
    have z2 := BX.cell 2
    have z3 := BX.cell 3
    have z4 := BX.cell 4
    have z5 := BX.cell 5
    have z6 := BX.cell 6
    have z7 := BX.cell 7
    have z8 := BX.cell 8
    have z9 := BX.cell 9
    have z10 := BX.cell 10
    have z11 := BX.cell 11
    have y0 := BY.cell 0
    have y1 := BY.cell 1
    have y2 := BY.cell 2
    have y3 := BY.cell 3
    have y4 := BY.cell 4
    have y5 := BY.cell 5
    have y6 := BY.cell 6
    have y7 := BY.cell 7
    have y8 := BY.cell 8
    have y9 := BY.cell 9
    have y10 := BY.cell 10
    have y11 := BY.cell 11
    go_wp2_with fail
    refine (HPB.out W7 h7).mono ?_
    rintro e W8 ⟨v8, rfl, hO8, hb⟩
    obtain ⟨A8, c8, rfl⟩ := OL.shape hO8
    have HO7 := Lib.hid (OL.below HO7.out hb)
    have HO8 := Lib.hid hO8
    clear hO8
    have h8 := h7.trans (hb.mono h7.size)
    have BX := BX.below hb
    have BY := BY.below hb
    clear z0 z1 z2 z3 z4 z5 z6 z7 z8 z9 z10 z11 y0 y1 y2 y3 y4 y5 y6 y7 y8 y9 y10 y11 hb h7 HPB
    have z0 := BX.cell 0
    have z1 := BX.cell 1
    have z2 := BX.cell 2
    have z3 := BX.cell 3
    have z4 := BX.cell 4
    have z5 := BX.cell 5
    have z6 := BX.cell 6
    have z7 := BX.cell 7
    have z8 := BX.cell 8
    have z9 := BX.cell 9
    have z10 := BX.cell 10
    have z11 := BX.cell 11
    have y0 := BY.cell 0
    have y1 := BY.cell 1
    have y2 := BY.cell 2
    have y3 := BY.cell 3
    have y4 := BY.cell 4
    have y5 := BY.cell 5
    have y6 := BY.cell 6
    have y7 := BY.cell 7
    have y8 := BY.cell 8
    have y9 := BY.cell 9
    have y10 := BY.cell 10
    have y11 := BY.cell 11
    clear z0 z1 z2 z3 z4 z5 z6 z7 z8 z9 z10 z11 y0 y1 y2 y3 y4 y5 y6 y7 y8 y9 y10 y11
    go_upto_region 13 with fail
    have z0 : ∀ q : Ab W8, q.1.cell? ⟨w.heap.size, 0, none⟩ = some (.int .u8 t.k) := fun q => (BX.below q.2).cell 0
    have z1 : ∀ q : Ab W8, q.1.cell? ⟨w.heap.size, 1, none⟩ = some (.string t.fr) := fun q => (BX.below q.2).cell 1
    have z2 : ∀ q : Ab W8, q.1.cell? ⟨w.heap.size, 2, none⟩ = some (.string t.tu) := fun q => (BX.below q.2).cell 2
    have z3 : ∀ q : Ab W8, q.1.cell? ⟨w.heap.size, 3, none⟩ = some (.string t.nm) := fun q => (BX.below q.2).cell 3
    have z4 : ∀ q : Ab W8, q.1.cell? ⟨w.heap.size, 4, none⟩ = some (.int .u8 t.ex.top.k) := fun q => (BX.below q.2).cell 4
    have z5 : ∀ q : Ab W8, q.1.cell? ⟨w.heap.size, 5, none⟩ = some (.string t.ex.top.rat) := fun q => (BX.below q.2).cell 5
    have z6 : ∀ q : Ab W8, q.1.cell? ⟨w.heap.size, 6, none⟩ = some (.string t.ex.top.name) := fun q => (BX.below q.2).cell 6
    have z7 : ∀ q : Ab W8, q.1.cell? ⟨w.heap.size, 7, none⟩ = some (.int .i64 t.ex.top.date) := fun q => (BX.below q.2).cell 7
    have z8 : ∀ q : Ab W8, q.1.cell? ⟨w.heap.size, 8, none⟩ = some (.slice Au ku cu) := fun q => (BX.below q.2).cell 8
    have z9 : ∀ q : Ab W8, q.1.cell? ⟨w.heap.size, 9, none⟩ = some (.int .i64 t.date) := fun q => (BX.below q.2).cell 9
    have z10 : ∀ q : Ab W8, q.1.cell? ⟨w.heap.size, 10, none⟩ = some (.slice Ad kd cd) := fun q => (BX.below q.2).cell 10
    have z11 : ∀ q : Ab W8, q.1.cell? ⟨w.heap.size, 11, none⟩ = some (.slice As ks cs) := fun q => (BX.below q.2).cell 11
    have y0 : ∀ q : Ab W8, q.1.cell? ⟨w.heap.size + 1, 0, none⟩ = some (.int .u8 t'.k) := fun q => (BY.below q.2).cell 0
    have y1 : ∀ q : Ab W8, q.1.cell? ⟨w.heap.size + 1, 1, none⟩ = some (.string t'.fr) := fun q => (BY.below q.2).cell 1
    have y2 : ∀ q : Ab W8, q.1.cell? ⟨w.heap.size + 1, 2, none⟩ = some (.string t'.tu) := fun q => (BY.below q.2).cell 2
    have y3 : ∀ q : Ab W8, q.1.cell? ⟨w.heap.size + 1, 3, none⟩ = some (.string t'.nm) := fun q => (BY.below q.2).cell 3
    have y4 : ∀ q : Ab W8, q.1.cell? ⟨w.heap.size + 1, 4, none⟩ = some (.int .u8 t'.ex.top.k) := fun q => (BY.below q.2).cell 4
    have y5 : ∀ q : Ab W8, q.1.cell? ⟨w.heap.size + 1, 5, none⟩ = some (.string t'.ex.top.rat) := fun q => (BY.below q.2).cell 5
    have y6 : ∀ q : Ab W8, q.1.cell? ⟨w.heap.size + 1, 6, none⟩ = some (.string t'.ex.top.name) := fun q => (BY.below q.2).cell 6
    have y7 : ∀ q : Ab W8, q.1.cell? ⟨w.heap.size + 1, 7, none⟩ = some (.int .i64 t'.ex.top.date) := fun q => (BY.below q.2).cell 7
    have y8 : ∀ q : Ab W8, q.1.cell? ⟨w.heap.size + 1, 8, none⟩ = some (.slice Au' ku' cu') := fun q => (BY.below q.2).cell 8
    have y9 : ∀ q : Ab W8, q.1.cell? ⟨w.heap.size + 1, 9, none⟩ = some (.int .i64 t'.date) := fun q => (BY.below q.2).cell 9
    have y10 : ∀ q : Ab W8, q.1.cell? ⟨w.heap.size + 1, 10, none⟩ = some (.slice Ad' kd' cd') := fun q => (BY.below q.2).cell 10
    have y11 : ∀ q : Ab W8, q.1.cell? ⟨w.heap.size + 1, 11, none⟩ = some (.slice As' ks' cs') := fun q => (BY.below q.2).cell 11
    have HQ := Lib.hid (fun q : Ab W8 => h8.trans (q.2.mono h8.size))
    have HCA := Lib.hid (fun q : Ab W8 => HCA.out q.1 (HQ.out q))
    have HCB := Lib.hid (fun q : Ab W8 => HCB.out q.1 (HQ.out q))
    have HSA := Lib.hid (fun q : Ab W8 => HSA.out q.1 (HQ.out q))
    have HSB := Lib.hid (fun q : Ab W8 => HSB.out q.1 (HQ.out q))
    have HST : Hid (∀ q : Ab W8, Calls Tryd.prog 23 #[.slice A7 wl.length c7, .slice A8 wl.length c8] q.1 fun e w' => e = .returned (.bool true) ∧ Below q.1.heap.size q.1 w') := Lib.hid (fun q => (samestr_any _ _ wl wl q.1 (OL.sl bE_len (OL.below HO7.out q.2)) (OL.sl bE_len (OL.below HO8.out q.2))).mono (fun e w' ⟨he, hb⟩ => ⟨by rw [he, (Z.eqB_iff wl wl).2 rfl], hb⟩))
    refine wp_region_above (by kernel_rfl) (by kernel_rfl) ?_
    repeat (go_big_quiet_step (first | (go_at_call 12; first | (with_reducible exact Ab.step (HCA.out _)) | (with_reducible exact Ab.step (HCB.out _))) | (go_at_call 20; first | (with_reducible exact Ab.step (HSA.out _)) | (with_reducible exact Ab.step (HSB.out _))) | (go_at_call 23; with_reducible exact Ab.step (HST.out _))))
    refine wpQuiet_nil ?_
    rintro _ ⟨q', rfl⟩
    have h9 := HQ.out q'
    clear z0 z1 z2 z3 z4 z5 z6 z7 z8 z9 z10 z11 y0 y1 y2 y3 y4 y5 y6 y7 y8 y9 y10 y11
    go_wp2_with fail
    go_ret
    exact ⟨rfl, h9⟩

set_option maxRecDepth 100000 in
theorem lifted (os : Go.Os) (started : os.Started) (H : Type) (enc : TypeId × Value → H) :
    ReturnsInHanded {} Tryd.checked os 4 .any (fun w args => (Rows.contractSameSpec.pre enc Tryd.prog Tryd.f4 [] false w args ∧ laidMetH Tryd.prog laidL w) ∧ sizedMet enc Tryd.prog Tryd.f4 (OpenSpec.ofChange Rows.contractSameSpec) false w args) (Rows.contractSameSpec.post enc Tryd.prog Tryd.f4 false true false false) := by
  refine door_wrap (C := Tryd.checked) (laid := laidL) own started (by kernel_rfl) Tryd.func4
    (ChangeSpec.witness_shaped (enc := enc) (C := Tryd.checked) (os := os) (X := fun w _ => laidMetH Tryd.prog laidL w) false (World.doorLaid Tryd.prog 600 os) #[.agg #[.int .u8 0, .string ByteArray.empty, .string ByteArray.empty, .string ByteArray.empty, .int .u8 0, .string ByteArray.empty, .string ByteArray.empty, .int .i64 0, .slice none 0 0, .int .i64 0, .slice none 0 0, .slice none 0 0], .agg #[.int .u8 0, .string ByteArray.empty, .string ByteArray.empty, .string ByteArray.empty, .int .u8 0, .string ByteArray.empty, .string ByteArray.empty, .int .i64 0, .slice none 0 0, .int .i64 0, .slice none 0 0, .slice none 0 0]] 8 rfl (World.shaped_of_RefB (by kernel_rfl) (by kernel_rfl)) (by kernel_rfl) (by kernel_rfl) (by kernel_rfl) (door_met os _)) ?_
  intro W base args ds gs before hval0 hW hWt hL hsh
  have hval : ∀ (j : Nat) t v, Tryd.f4.params[j]? = some t → args[j]? = some v → Value.okWide Tryd.prog W .any base t v := hval0
  have hW' := hW
  obtain ⟨p, q, hA0, hV, rfl, hfz, hnd⟩ := hW
  have hA : DataW.TrodAll enc Tryd.prog W 0 (fun _ => true) true Tryd.f4.params.toList args.toList ds p := hA0
  rw [Tryd.params4] at hA hval
  obtain ⟨v0, vs0, d0, ds0, p0, q0, hargs, rfl, rfl, h0, r0⟩ := trodAll_cons hA
  obtain ⟨v1, vs1, d1, ds1, p1, q1, rfl, rfl, rfl, h1, r1⟩ := trodAll_cons r0
  obtain ⟨rfl, rfl, rfl⟩ := trodAll_nil r1
  obtain rfl : args = #[v0, v1] := by cases args; simp_all
  obtain ⟨rfl, rfl⟩ := trodVars_none hV
  have hWm := fun q hq => Nat.le_trans (of_decide_eq_true (List.all_eq_true.1 hWt q hq)) (show reachBytes ≤ 140737488355328 by decide)
  have hM0 : ∀ q ∈ d0.weights Tryd.prog 29, q ≤ 140737488355328 := fun q hq => hWm q (DataW.weights_mem_each (j := 0) (by rfl) (by rfl) q hq)
  have hM1 : ∀ q ∈ d1.weights Tryd.prog 29, q ≤ 140737488355328 := fun q hq => hWm q (DataW.weights_mem_each (j := 1) (by rfl) (by rfl) q hq)
  have k0 := h0
  obtain ⟨N0, o0⟩ := contract_open (hval 0 29 v0 rfl rfl) h0 hM0
  have k1 := h1
  obtain ⟨N1, o1⟩ := contract_open (hval 1 29 v1 rfl rfl) h1 hM1
  obtain ⟨F, hF⟩ : ∃ F, F = N0 + N1 := ⟨_, rfl⟩
  obtain ⟨r0c, c0, rfl, cv0, cl0⟩ := o0 (F + 1) (by omega)
  obtain ⟨r1c, c1, rfl, cv1, cl1⟩ := o1 (F + 1) (by omega)
  clear hA0 hval0
  refine (walk F c0 r0c c1 r1c W cv0 cl0 cv1 cl1 (Tryd.laysM145.s1_3 W hsh) (of_laid hL)).mono fun e W' ⟨he, bel⟩ => ?_
  subst he
  exact ⟨_, rfl, _, _, _, [], _, [], hW', trodAll_mk1 (shut_bool Tryd.underlying4 _), (trodAll_cons_mk (arg_stays (by kernel_rfl) (of_decide_eq_true (by kernel_rfl)) k0 bel) (trodAll_cons_mk (arg_stays (by kernel_rfl) (of_decide_eq_true (by kernel_rfl)) k1 bel) trodAll_mk0)), rfl, bel.frame _, fun h => by cases h⟩

theorem over : Rows.contractSameRow.holds Tryd.pinned (OpenSpec.ofChange Rows.contractSameSpec) :=
  OpenClaim.holds_of_wide 4 Tryd.f4 rfl rfl rfl rfl rfl rfl rfl ⟨rfl, rfl, rfl, rfl, rfl⟩ rfl rfl rfl rfl rfl (by kernel_rfl) Tryd.func4 (by kernel_rfl)
    (of_decide_eq_true (by kernel_rfl)) (by unfold Func.isWrapper; first | (rw [if_pos (by decide +kernel)]; kernel_rfl) | (rw [if_neg (by decide +kernel)]; exact ⟨rfl, rfl⟩))
    (fun os started H enc _ => lifted os started H enc)

theorem proved : Rows.ContractSameCardSaid :=
  Claim7.holds_tied_plain_at .later [] [.mappedDeep, .mapped] true (true, "18ee430487cca9eca090e431cb604d3d491d61f539cb3f6dc50aa057bdde380e") false
    over (fun _ h => by cases h) (by kernel_rfl) (fun _ h => by cases h) contractSame_row_tie rfl ⟨rfl, rfl⟩ (by kernel_rfl) rfl
    (fun f fn hf hfn => by
      obtain rfl : f = 4 := Option.some.inj ((show Tryd.prog.funcNamed "novation/novationlaw09.ContractSame" = some 4 by kernel_rfl).symm.trans hf) |>.symm
      obtain rfl : fn = Tryd.f4 := (Option.some.inj (Tryd.func4.symm.trans hfn)).symm
      exact ⟨by kernel_rfl, fun j t ht => by
        rw [Tryd.params4] at ht
        have hm : t ∈ [29, 29] := by simpa using Array.mem_of_getElem? ht
        have hall : ([29, 29].all fun u => !Tryd.prog.wantsStandIn u) = true := by kernel_rfl
        exact (show Tryd.prog.wantsStandIn t = false by simpa using List.all_eq_true.1 hall t hm)⟩)
    (by kernel_rfl)
#print axioms proved
