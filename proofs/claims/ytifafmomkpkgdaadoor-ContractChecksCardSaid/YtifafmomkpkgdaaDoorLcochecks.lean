/-
  Check, Size, Depth, Same and Twin return what the reference returns, and a copy shares no memory with the contract (a tied card: the tables of kinds lie as the text says).
-/
import Derived.Test.YtifafmomkpkgdaaDoorRows
import Derived.Test.YtifafmomkpkgdaaDoorOopn
import Derived.Test.YtifafmomkpkgdaaDoorTw
import Derived.Test.YtifafmomkpkgdaaDoorRf
import Derived.Test.YtifafmomkpkgdaaDoorOsr
import Derived.Test.YtifafmomkpkgdaaDoorOck
import Derived.HandedShaped
import Derived.Test.YtifafmomkpkgdaaDoorCards
import Derived.Test.YtifafmomkpkgdaaDoorTie
import Derived.Test.YtifafmomkpkgdaaDoorOlay
import Derived.SevenTiedAt
import Derived.ProofKit
import Derived.OpenShut
import Derived.ShutString
namespace Go.Proofs.YtifafmomkpkgdaaDoor.lawChecks
open Go.ChangeShapes Go.WideShapes Go.ChangeAt Go.RowKit
open Go.ChangeMaps (open_string shut_string)

/-- An own row of n elements of k cells lies in a block from B to N. -/
def RowC (e : TypeId) (k B N n : Nat) (A : Option Addr) (w : World) : Prop := 0 < n → ∃ g cur, A = some ⟨g, 0, none⟩ ∧ B ≤ g ∧ g < N ∧ Blk w g e cur ∧ n * k ≤ cur.size
theorem RowC.of {α : Type} {k n c B : Nat} {enc : α → List Value} {e : TypeId} {w : World} {A : Option Addr} {l : List α} (h : OL k enc e w B (.slice A n c) l) : RowC e k B w.heap.size n A w := fun hp => by
  rcases h.2 with ⟨hv, h0⟩ | ⟨g, cap, cur, hv, hg, hh, hn, _, hs, _⟩
  · injection hv with _ h2 _
    omega
  · injection hv with h1 h2 h3
    exact ⟨g, cur, h1, hg, (Array.getElem?_eq_some_iff.1 hh).1, hh, by rw [hs, h2]; exact Nat.mul_le_mul_right k hn⟩
theorem RowC.below {e : TypeId} {k B N n : Nat} {A : Option Addr} {w w' : World} (h : RowC e k B N n A w) (hb : Below w.heap.size w w') : RowC e k B N n A w' := fun hp => by
  obtain ⟨g, cur, h0, h1, h2, h3, h4⟩ := h hp
  exact ⟨g, cur, h0, h1, h2, h3.below hb, h4⟩
theorem RowC.set {e : TypeId} {k B N n : Nat} {A : Option Addr} {w : World} (h : RowC e k B N n A w) (b j : Nat) (u : Value) : RowC e k B N n A (w.setCell ⟨b, j, none⟩ u) := fun hp => by
  obtain ⟨g, cur, h0, h1, h2, h3, h4⟩ := h hp
  by_cases hb : g = b
  · subst hb
    exact ⟨g, _, h0, h1, h2, h3.set j u, by rw [Array.size_setIfInBounds]; exact h4⟩
  · exact ⟨g, cur, h0, h1, h2, (Below.heap_setCell _ _ _ g hb).trans h3, h4⟩
/-- While the copy's rows are written. -/
structure WS (B N : Nat) (w0 : World) (gc : Nat) (cs : Array Value) (A1 : Option Addr) (n1 : Nat) (A2 : Option Addr) (n2 : Nat) (A3 : Option Addr) (n3 : Nat) (w : World) : Prop where
  bel : Below B w0 w
  box : Blk w gc 29 cs
  lt : N ≤ gc
  r1 : RowC 25 5 B N n1 A1 w
  r2 : RowC 3 1 B N n2 A2 w
  r3 : RowC 29 12 B N n3 A3 w
section
variable {B N gc n1 n2 n3 k : Nat} {w0 w : World} {cs : Array Value} {A1 A2 A3 : Option Addr}
theorem WS.put (h : WS B N w0 gc cs A1 n1 A2 n2 A3 n3 w) {g j : Nat} (hB : B ≤ g) (hN : g < N) (u : Value) : WS B N w0 gc cs A1 n1 A2 n2 A3 n3 (w.setCell ⟨g, j, none⟩ u) :=
  ⟨h.bel.setCell (p := ⟨g, j, none⟩) hB u, (Below.heap_setCell _ _ _ gc (by have := h.lt; show gc ≠ g; omega)).trans h.box, h.lt, h.r1.set g j u, h.r2.set g j u, h.r3.set g j u⟩
theorem WS.set1 (h : WS B N w0 gc cs A1 n1 A2 n2 A3 n3 w) (hk : k < n1) (u : Value) : ∃ g x, A1 = some ⟨g, 0, none⟩ ∧ w.cell? ⟨g, k * 5, none⟩ = some x ∧ w.frozen? ⟨g, k * 5, none⟩ = false ∧ WS B N w0 gc cs A1 n1 A2 n2 A3 n3 (w.setCell ⟨g, k * 5, none⟩ u) := by
  obtain ⟨g, cur, h0, hB, hN, hb, hn⟩ := h.r1 (by omega)
  exact ⟨g, cur[k * 5]'(by omega), h0, (hb.cell (k * 5)).trans (Array.getElem?_eq_getElem (by omega)), hb.frozen (k * 5), h.put hB hN u⟩
theorem WS.set2 (h : WS B N w0 gc cs A1 n1 A2 n2 A3 n3 w) (hk : k < n2) (u : Value) : ∃ g x, A2 = some ⟨g, 0, none⟩ ∧ w.cell? ⟨g, k, none⟩ = some x ∧ w.frozen? ⟨g, k, none⟩ = false ∧ WS B N w0 gc cs A1 n1 A2 n2 A3 n3 (w.setCell ⟨g, k, none⟩ u) := by
  obtain ⟨g, cur, h0, hB, hN, hb, hn⟩ := h.r2 (by omega)
  exact ⟨g, cur[k]'(by omega), h0, (hb.cell k).trans (Array.getElem?_eq_getElem (by omega)), hb.frozen k, h.put hB hN u⟩
theorem WS.set3 (h : WS B N w0 gc cs A1 n1 A2 n2 A3 n3 w) (hk : k < n3) (u : Value) : ∃ g x, A3 = some ⟨g, 0, none⟩ ∧ w.cell? ⟨g, k * 12, none⟩ = some x ∧ w.frozen? ⟨g, k * 12, none⟩ = false ∧ WS B N w0 gc cs A1 n1 A2 n2 A3 n3 (w.setCell ⟨g, k * 12, none⟩ u) := by
  obtain ⟨g, cur, h0, hB, hN, hb, hn⟩ := h.r3 (by omega)
  exact ⟨g, cur[k * 12]'(by omega), h0, (hb.cell (k * 12)).trans (Array.getElem?_eq_getElem (by omega)), hb.frozen (k * 12), h.put hB hN u⟩
end
theorem row_max {α : Type} {k n c B : Nat} {enc : α → List Value} {e : TypeId} {w : World} {A : Option Addr} {l : List α} (hk : ∀ y, (enc y).length = k) (h : OL k enc e w B (.slice A n c) l) : n ≤ 9223372036854775807 := by
  obtain ⟨A', c', hv, h1, h2⟩ := SL.shape (OL.sl hk h)
  injection hv with _ e2 _
  unfold maxLen at h2
  omega
set_option maxRecDepth 100000 in
set_option maxHeartbeats 4000000 in
theorem walk (F : Nat) (c : Z.Co (F + 1) (F + 1 + 1)) (r : CR (F + 1)) (c' : Z.Co (F + 1) (F + 1 + 1)) (r' : CR (F + 1)) (w : World) (hc : CV w (F + 1 + 1) c r) (hle : Z.CLe 140737488355328 (F + 1 + 1) c) (hc' : CV w (F + 1 + 1) c' r') (hle' : Z.CLe 140737488355328 (F + 1 + 1) c') (hV : HasV w) (hL : Lay w) :
    Calls Tryd.prog 5 #[.agg r.vs.toArray, .agg r'.vs.toArray] w fun e w' => e = .returned (.bool true) ∧ Below w.heap.size w w' := by
  obtain ⟨t, u, dv, sv⟩ := r
  obtain ⟨t', u', dv', sv'⟩ := r'
  obtain ⟨Au, ku, cu, rfl⟩ := hc.shape.1
  obtain ⟨Ad, kd, cd, rfl⟩ := hc.shape.2.1
  obtain ⟨As, ks, cs, rfl⟩ := hc.shape.2.2
  obtain ⟨Au', ku', cu', rfl⟩ := hc'.shape.1
  obtain ⟨Ad', kd', cd', rfl⟩ := hc'.shape.2.1
  obtain ⟨As', ks', cs', rfl⟩ := hc'.shape.2.2
  have HC := Lib.hid hc
  have HC' := Lib.hid hc'
  have HG := Lib.hid (fun W (h : Below w.heap.size w W) => cgreat_any (F + 1) c t _ _ _ W (CV.below h _ hc) hle)
  have HG' := Lib.hid (fun W (h : Below w.heap.size w W) => cgreat_any (F + 1) c' t' _ _ _ W (CV.below h _ hc') hle')
  have HLL := Lib.hid (fun W (h : Below w.heap.size w W) => hL.below h)
  have HVV := Lib.hid (fun W (h : Below w.heap.size w W) => hV.below h)
  have HSM := Lib.hid (fun h => Z.coG_sm (n := F + 1 + 1) (c := c) h)
  have HVS : Hid (CR.vs (m := F + 1) ⟨t, .slice Au ku cu, .slice Ad kd cd, .slice As ks cs⟩ = [.int .u8 t.k, .string t.fr, .string t.tu, .string t.nm, .int .u8 t.ex.top.k, .string t.ex.top.rat, .string t.ex.top.name, .int .i64 t.ex.top.date, .slice Au ku cu, .int .i64 t.date, .slice Ad kd cd, .slice As ks cs]) := Lib.hid rfl
  have HVS' : Hid (CR.vs (m := F + 1) ⟨t', .slice Au' ku' cu', .slice Ad' kd' cd', .slice As' ks' cs'⟩ = [.int .u8 t'.k, .string t'.fr, .string t'.tu, .string t'.nm, .int .u8 t'.ex.top.k, .string t'.ex.top.rat, .string t'.ex.top.name, .int .i64 t'.ex.top.date, .slice Au' ku' cu', .int .i64 t'.date, .slice Ad' kd' cd', .slice As' ks' cs']) := Lib.hid rfl
  rw [HVS.out, HVS'.out]
  clear hc hc' hV hL hle hle' HVS HVS'
  have hb0 : Below w.heap.size w ((w.alloc (.cells #[.int .u8 t.k, .string t.fr, .string t.tu, .string t.nm, .int .u8 t.ex.top.k, .string t.ex.top.rat, .string t.ex.top.name, .int .i64 t.ex.top.date, .slice Au ku cu, .int .i64 t.date, .slice Ad kd cd, .slice As ks cs] 29)).alloc (.cells #[.int .u8 t'.k, .string t'.fr, .string t'.tu, .string t'.nm, .int .u8 t'.ex.top.k, .string t'.ex.top.rat, .string t'.ex.top.name, .int .i64 t'.ex.top.date, .slice Au' ku' cu', .int .i64 t'.date, .slice Ad' kd' cd', .slice As' ks' cs'] 29)) := ((Below.refl _ w).alloc (Nat.le_refl _) _).alloc (by simp) _
  have BX := (Blk.new w 29 #[.int .u8 t.k, .string t.fr, .string t.tu, .string t.nm, .int .u8 t.ex.top.k, .string t.ex.top.rat, .string t.ex.top.name, .int .i64 t.ex.top.date, .slice Au ku cu, .int .i64 t.date, .slice Ad kd cd, .slice As ks cs]).alloc (.cells #[.int .u8 t'.k, .string t'.fr, .string t'.tu, .string t'.nm, .int .u8 t'.ex.top.k, .string t'.ex.top.rat, .string t'.ex.top.name, .int .i64 t'.ex.top.date, .slice Au' ku' cu', .int .i64 t'.date, .slice Ad' kd' cd', .slice As' ks' cs'] 29)
  have BY : Blk ((w.alloc (.cells #[.int .u8 t.k, .string t.fr, .string t.tu, .string t.nm, .int .u8 t.ex.top.k, .string t.ex.top.rat, .string t.ex.top.name, .int .i64 t.ex.top.date, .slice Au ku cu, .int .i64 t.date, .slice Ad kd cd, .slice As ks cs] 29)).alloc (.cells #[.int .u8 t'.k, .string t'.fr, .string t'.tu, .string t'.nm, .int .u8 t'.ex.top.k, .string t'.ex.top.rat, .string t'.ex.top.name, .int .i64 t'.ex.top.date, .slice Au' ku' cu', .int .i64 t'.date, .slice Ad' kd' cd', .slice As' ks' cs'] 29)) (w.heap.size + 1) 29 #[.int .u8 t'.k, .string t'.fr, .string t'.tu, .string t'.nm, .int .u8 t'.ex.top.k, .string t'.ex.top.rat, .string t'.ex.top.name, .int .i64 t'.ex.top.date, .slice Au' ku' cu', .int .i64 t'.date, .slice Ad' kd' cd', .slice As' ks' cs'] := by
    have h := Blk.new (w.alloc (.cells #[.int .u8 t.k, .string t.fr, .string t.tu, .string t.nm, .int .u8 t.ex.top.k, .string t.ex.top.rat, .string t.ex.top.name, .int .i64 t.ex.top.date, .slice Au ku cu, .int .i64 t.date, .slice Ad kd cd, .slice As ks cs] 29)) 29 #[.int .u8 t'.k, .string t'.fr, .string t'.tu, .string t'.nm, .int .u8 t'.ex.top.k, .string t'.ex.top.rat, .string t'.ex.top.name, .int .i64 t'.ex.top.date, .slice Au' ku' cu', .int .i64 t'.date, .slice Ad' kd' cd', .slice As' ks' cs']
    rwa [World.size_alloc] at h
  have HMAB : Hid (∀ W, Below w.heap.size w W → Calls Tryd.prog 24 #[.agg #[.int .u8 t.k, .string t.fr, .string t.tu, .string t.nm, .int .u8 t.ex.top.k, .string t.ex.top.rat, .string t.ex.top.name, .int .i64 t.ex.top.date, .slice Au ku cu, .int .i64 t.date, .slice Ad kd cd, .slice As ks cs], .agg #[.int .u8 t'.k, .string t'.fr, .string t'.tu, .string t'.nm, .int .u8 t'.ex.top.k, .string t'.ex.top.rat, .string t'.ex.top.name, .int .i64 t'.ex.top.date, .slice Au' ku' cu', .int .i64 t'.date, .slice Ad' kd' cd', .slice As' ks' cs']] W fun e w' => e = .returned (.bool (Z.coSame (F + 1 + 1) c c')) ∧ Below W.heap.size W w') := Lib.hid (fun W h => csame_any _ c c' t t' _ _ _ _ _ _ W (CV.below h _ HC.out) (CV.below h _ HC'.out))
  have HRAB : Hid (∀ W, Below w.heap.size w W → Calls Tryd.prog 30 #[.agg #[.int .u8 t.k, .string t.fr, .string t.tu, .string t.nm, .int .u8 t.ex.top.k, .string t.ex.top.rat, .string t.ex.top.name, .int .i64 t.ex.top.date, .slice Au ku cu, .int .i64 t.date, .slice Ad kd cd, .slice As ks cs], .agg #[.int .u8 t'.k, .string t'.fr, .string t'.tu, .string t'.nm, .int .u8 t'.ex.top.k, .string t'.ex.top.rat, .string t'.ex.top.name, .int .i64 t'.ex.top.date, .slice Au' ku' cu', .int .i64 t'.date, .slice Ad' kd' cd', .slice As' ks' cs']] W fun e w' => e = .returned (.bool (Z.coSame (F + 1 + 1) c c')) ∧ Below W.heap.size W w') := Lib.hid (fun W h => rcsame_any _ c c' t t' _ _ _ _ _ _ W (CV.below h _ HC.out) (CV.below h _ HC'.out))
  have HRTA : Hid (∀ W, Below w.heap.size w W → ∀ u1 dd1 s1, CV W (F + 1 + 1) c ⟨t, u1, dd1, s1⟩ → Calls Tryd.prog 30 #[.agg #[.int .u8 t.k, .string t.fr, .string t.tu, .string t.nm, .int .u8 t.ex.top.k, .string t.ex.top.rat, .string t.ex.top.name, .int .i64 t.ex.top.date, u1, .int .i64 t.date, dd1, s1], .agg #[.int .u8 t.k, .string t.fr, .string t.tu, .string t.nm, .int .u8 t.ex.top.k, .string t.ex.top.rat, .string t.ex.top.name, .int .i64 t.ex.top.date, .slice Au ku cu, .int .i64 t.date, .slice Ad kd cd, .slice As ks cs]] W fun e w' => e = .returned (.bool true) ∧ Below W.heap.size W w') := Lib.hid (fun W h u1 dd1 s1 h1 => (rcsame_any _ c c t t _ _ _ _ _ _ W h1 (CV.below h _ HC.out)).mono (fun e w' ⟨he, hb⟩ => ⟨by rw [he, (Z.coSame_iff _ c c).2 rfl], hb⟩))
  have HTW := Lib.hid (fun hs W (h : Below w.heap.size w W) => ctwin_any _ c t _ _ _ W (CV.below h _ HC.out) hs)
  have HRTW := Lib.hid (fun hs W (h : Below w.heap.size w W) => rctwin_any _ c t _ _ _ W (CV.below h _ HC.out) hs)
  have HCA : Hid (Z.CSm (F + 1 + 1) c → ∀ W, Below w.heap.size w W → Calls Tryd.prog 12 #[.agg #[.int .u8 t.k, .string t.fr, .string t.tu, .string t.nm, .int .u8 t.ex.top.k, .string t.ex.top.rat, .string t.ex.top.name, .int .i64 t.ex.top.date, .slice Au ku cu, .int .i64 t.date, .slice Ad kd cd, .slice As ks cs]] W fun e w' => e = .returned (.int .i64 (Z.coE (F + 1 + 1) c)) ∧ Below W.heap.size W w') := Lib.hid (fun hs W h => ccheck_any (F + 1) c ⟨t, .slice Au ku cu, .slice Ad kd cd, .slice As ks cs⟩ W (CV.below h _ HC.out) (HLL.out W h) (HVV.out W h) hs)
  have HRC : Hid (Z.CSm (F + 1 + 1) c → ∀ W, Below w.heap.size w W → Calls Tryd.prog 27 #[.agg #[.int .u8 t.k, .string t.fr, .string t.tu, .string t.nm, .int .u8 t.ex.top.k, .string t.ex.top.rat, .string t.ex.top.name, .int .i64 t.ex.top.date, .slice Au ku cu, .int .i64 t.date, .slice Ad kd cd, .slice As ks cs]] W fun e w' => e = .returned (.int .i64 (Z.coE (F + 1 + 1) c)) ∧ Below W.heap.size W w') := Lib.hid (fun hs W h => rccheck_any (F + 1) c t _ _ _ W (CV.below h _ HC.out) (HVV.out W h) hs)
  have HSA : Hid (Z.CSm (F + 1 + 1) c → ∀ W, Below w.heap.size w W → Calls Tryd.prog 20 #[.agg #[.int .u8 t.k, .string t.fr, .string t.tu, .string t.nm, .int .u8 t.ex.top.k, .string t.ex.top.rat, .string t.ex.top.name, .int .i64 t.ex.top.date, .slice Au ku cu, .int .i64 t.date, .slice Ad kd cd, .slice As ks cs]] W fun e w' => e = .returned (.int .i64 (Z.coSize (F + 1 + 1) c : Nat)) ∧ Below W.heap.size W w') := Lib.hid (fun hs W h => csize_any (F + 1) c ⟨t, .slice Au ku cu, .slice Ad kd cd, .slice As ks cs⟩ W (CV.below h _ HC.out) hs)
  have HSR : Hid (Z.CSm (F + 1 + 1) c → ∀ W, Below w.heap.size w W → Calls Tryd.prog 28 #[.agg #[.int .u8 t.k, .string t.fr, .string t.tu, .string t.nm, .int .u8 t.ex.top.k, .string t.ex.top.rat, .string t.ex.top.name, .int .i64 t.ex.top.date, .slice Au ku cu, .int .i64 t.date, .slice Ad kd cd, .slice As ks cs]] W fun e w' => e = .returned (.int .i64 (Z.coSize (F + 1 + 1) c : Nat)) ∧ Below W.heap.size W w') := Lib.hid (fun hs W h => rcsize_any (F + 1 + 1) c t _ _ _ W (CV.below h _ HC.out) hs)
  have HDA : Hid (Z.CSm (F + 1 + 1) c → ∀ W, Below w.heap.size w W → Calls Tryd.prog 21 #[.agg #[.int .u8 t.k, .string t.fr, .string t.tu, .string t.nm, .int .u8 t.ex.top.k, .string t.ex.top.rat, .string t.ex.top.name, .int .i64 t.ex.top.date, .slice Au ku cu, .int .i64 t.date, .slice Ad kd cd, .slice As ks cs]] W fun e w' => e = .returned (.int .i64 (Z.coDepth (F + 1 + 1) c : Nat)) ∧ Below W.heap.size W w') := Lib.hid (fun hs W h => ccdepth_any (F + 1 + 1) c t _ _ _ W (CV.below h _ HC.out) hs)
  have HDR : Hid (Z.CSm (F + 1 + 1) c → ∀ W, Below w.heap.size w W → Calls Tryd.prog 29 #[.agg #[.int .u8 t.k, .string t.fr, .string t.tu, .string t.nm, .int .u8 t.ex.top.k, .string t.ex.top.rat, .string t.ex.top.name, .int .i64 t.ex.top.date, .slice Au ku cu, .int .i64 t.date, .slice Ad kd cd, .slice As ks cs]] W fun e w' => e = .returned (.int .i64 (Z.coDepth (F + 1 + 1) c : Nat)) ∧ Below W.heap.size W w') := Lib.hid (fun hs W h => rcdepth_any (F + 1 + 1) c t _ _ _ W (CV.below h _ HC.out) hs)
  have HBE : Hid (∀ W W', Below W.heap.size W W' → ∀ u1 dd1 s1, CV W (F + 1 + 1) c ⟨t, u1, dd1, s1⟩ → CV W' (F + 1 + 1) c ⟨t, u1, dd1, s1⟩) := Lib.hid (fun W W' h u1 dd1 s1 h1 => CV.below h _ h1)
  generalize Z.coG (F + 1 + 1) c = G at *
  generalize Z.coG (F + 1 + 1) c' = G' at *
  generalize Z.coSame (F + 1 + 1) c c' = S at *
  generalize Z.coE (F + 1 + 1) c = E at *
  generalize Z.coSize (F + 1 + 1) c = SZ at *
  generalize Z.coDepth (F + 1 + 1) c = DP at *
  have z0 := BX.cell 0
  have z1 := BX.cell 1
  have z2 := BX.cell 2
  have z3 := BX.cell 3
  have z4 := BX.cell 4
  have z5 := BX.cell 5
  have z6 := BX.cell 6
  have z7 := BX.cell 7
  have z8 := BX.cell 8
  have z9 := BX.cell 9
  have z10 := BX.cell 10
  have z11 := BX.cell 11
  have y0 := BY.cell 0
  have y1 := BY.cell 1
  have y2 := BY.cell 2
  have y3 := BY.cell 3
  have y4 := BY.cell 4
  have y5 := BY.cell 5
  have y6 := BY.cell 6
  have y7 := BY.cell 7
  have y8 := BY.cell 8
  have y9 := BY.cell 9
  have y10 := BY.cell 10
  have y11 := BY.cell 11
  go_enter Tryd.func5, Tryd.ntmps5
  go_wp2_with fail
  refine (HG.out _ hb0).mono ?_
  rintro e W1 ⟨rfl, hb⟩
  have h1 := hb0.trans (hb.mono hb0.size)
  replace BX := BX.below hb
  replace BY := BY.below hb
  clear z0 z1 z2 z3 z4 z5 z6 z7 z8 z9 z10 z11 y0 y1 y2 y3 y4 y5 y6 y7 y8 y9 y10 y11 hb hb0 HG
  have z0 := BX.cell 0
  have z1 := BX.cell 1
  have z2 := BX.cell 2
  have z3 := BX.cell 3
  have z4 := BX.cell 4
  have z5 := BX.cell 5
  have z6 := BX.cell 6
  have z7 := BX.cell 7
  have z8 := BX.cell 8
  have z9 := BX.cell 9
  have z10 := BX.cell 10
  have z11 := BX.cell 11
  have y0 := BY.cell 0
  have y1 := BY.cell 1
  have y2 := BY.cell 2
  have y3 := BY.cell 3
  have y4 := BY.cell 4
  have y5 := BY.cell 5
  have y6 := BY.cell 6
  have y7 := BY.cell 7
  have y8 := BY.cell 8
  have y9 := BY.cell 9
  have y10 := BY.cell 10
  have y11 := BY.cell 11
  rcases G with _ | _
  rotate_left
  · go_wp2_with fail
    go_ret
    exact ⟨rfl, h1⟩
  go_wp2_with fail
  refine (HG'.out W1 h1).mono ?_
  rintro e W2 ⟨rfl, hb⟩
  have h2 := h1.trans (hb.mono h1.size)
  replace BX := BX.below hb
  replace BY := BY.below hb
  clear z0 z1 z2 z3 z4 z5 z6 z7 z8 z9 z10 z11 y0 y1 y2 y3 y4 y5 y6 y7 y8 y9 y10 y11 hb h1 HG'
  have z0 := BX.cell 0
  have z1 := BX.cell 1
  have z2 := BX.cell 2
  have z3 := BX.cell 3
  have z4 := BX.cell 4
  have z5 := BX.cell 5
  have z6 := BX.cell 6
  have z7 := BX.cell 7
  have z8 := BX.cell 8
  have z9 := BX.cell 9
  have z10 := BX.cell 10
  have z11 := BX.cell 11
  have y0 := BY.cell 0
  have y1 := BY.cell 1
  have y2 := BY.cell 2
  have y3 := BY.cell 3
  have y4 := BY.cell 4
  have y5 := BY.cell 5
  have y6 := BY.cell 6
  have y7 := BY.cell 7
  have y8 := BY.cell 8
  have y9 := BY.cell 9
  have y10 := BY.cell 10
  have y11 := BY.cell 11
  rcases G' with _ | _
  rotate_left
  · go_wp2_with fail
    go_ret
    exact ⟨rfl, h2⟩
  have hs := HSM.out (by first | rfl | trivial)
  replace HTW := Lib.hid (HTW.out hs)
  replace HRTW := Lib.hid (HRTW.out hs)
  replace HCA := Lib.hid (HCA.out hs)
  replace HRC := Lib.hid (HRC.out hs)
  replace HSA := Lib.hid (HSA.out hs)
  replace HSR := Lib.hid (HSR.out hs)
  replace HDA := Lib.hid (HDA.out hs)
  replace HDR := Lib.hid (HDR.out hs)
  clear hs HSM HC HC' HLL HVV
  go_wp2_with fail
  refine (HRTW.out W2 h2).mono ?_
  rintro e W3 ⟨O1, O2, O3, p1, p2, p3, e1, e2, e3, _, rfl, hb, _, hfo⟩
  have HCO := Lib.hid (hfo W3 (fun _ _ _ => rfl))
  clear hfo
  have h3 := h2.trans (hb.mono h2.size)
  replace BX := BX.below hb
  replace BY := BY.below hb
  clear z0 z1 z2 z3 z4 z5 z6 z7 z8 z9 z10 z11 y0 y1 y2 y3 y4 y5 y6 y7 y8 y9 y10 y11 hb h2 HRTW
  have z0 := BX.cell 0
  have z1 := BX.cell 1
  have z2 := BX.cell 2
  have z3 := BX.cell 3
  have z4 := BX.cell 4
  have z5 := BX.cell 5
  have z6 := BX.cell 6
  have z7 := BX.cell 7
  have z8 := BX.cell 8
  have z9 := BX.cell 9
  have z10 := BX.cell 10
  have z11 := BX.cell 11
  have y0 := BY.cell 0
  have y1 := BY.cell 1
  have y2 := BY.cell 2
  have y3 := BY.cell 3
  have y4 := BY.cell 4
  have y5 := BY.cell 5
  have y6 := BY.cell 6
  have y7 := BY.cell 7
  have y8 := BY.cell 8
  have y9 := BY.cell 9
  have y10 := BY.cell 10
  have y11 := BY.cell 11
  have BO := Blk.new W3 29 #[.int .u8 t.k, .string t.fr, .string t.tu, .string t.nm, .int .u8 t.ex.top.k, .string t.ex.top.rat, .string t.ex.top.name, .int .i64 t.ex.top.date, .slice O1 p1 e1, .int .i64 t.date, .slice O2 p2 e2, .slice O3 p3 e3]
  have hb := (Below.refl W3.heap.size W3).alloc (Nat.le_refl _) (.cells #[.int .u8 t.k, .string t.fr, .string t.tu, .string t.nm, .int .u8 t.ex.top.k, .string t.ex.top.rat, .string t.ex.top.name, .int .i64 t.ex.top.date, .slice O1 p1 e1, .int .i64 t.date, .slice O2 p2 e2, .slice O3 p3 e3] 29)
  have hl3 : w.heap.size ≤ W3.heap.size := h3.size
  have hO3 := Lib.hid hb
  clear z0 z1 z2 z3 z4 z5 z6 z7 z8 z9 z10 z11 y0 y1 y2 y3 y4 y5 y6 y7 y8 y9 y10 y11
  replace BX := BX.below hb
  replace BY := BY.below hb
  have h4 := h3.trans (hb.mono h3.size)
  have z0 := BX.cell 0
  have z1 := BX.cell 1
  have z2 := BX.cell 2
  have z3 := BX.cell 3
  have z4 := BX.cell 4
  have z5 := BX.cell 5
  have z6 := BX.cell 6
  have z7 := BX.cell 7
  have z8 := BX.cell 8
  have z9 := BX.cell 9
  have z10 := BX.cell 10
  have z11 := BX.cell 11
  go_wp2_with fail
  have hs4 : (W3.alloc (.cells #[.int .u8 t.k, .string t.fr, .string t.tu, .string t.nm, .int .u8 t.ex.top.k, .string t.ex.top.rat, .string t.ex.top.name, .int .i64 t.ex.top.date, .slice O1 p1 e1, .int .i64 t.date, .slice O2 p2 e2, .slice O3 p3 e3] 29)).heap.size = W3.heap.size + 1 := World.size_alloc _ _
  have HRTA9 := HRTA
  generalize (W3.alloc (.cells #[.int .u8 t.k, .string t.fr, .string t.tu, .string t.nm, .int .u8 t.ex.top.k, .string t.ex.top.rat, .string t.ex.top.name, .int .i64 t.ex.top.date, .slice O1 p1 e1, .int .i64 t.date, .slice O2 p2 e2, .slice O3 p3 e3] 29)) = W4 at *
  refine (HTW.out W4 h4).mono ?_
  rintro e W5 ⟨B1, B2, B3, n1, n2, n3, d1, d2, d3, r1, r3, rfl, hb5, ⟨hO1, hO2, hO3'⟩, hft⟩
  have HCT := Lib.hid (hft W5 (fun _ _ _ => rfl))
  have m1 := row_max xvs_len hO1
  have m2 := row_max dE_len hO2
  have m3 := row_max CR.vs_len hO3'
  have HR1 := Lib.hid (RowC.of hO1)
  have HR2 := Lib.hid (RowC.of hO2)
  have HR3 := Lib.hid (RowC.of hO3')
  have HB5 := Lib.hid hb5
  clear z0 z1 z2 z3 z4 z5 z6 z7 z8 z9 z10 z11 hft hO1 hO2 hO3' HTW hb
  have BT := Blk.new W5 29 #[.int .u8 t.k, .string t.fr, .string t.tu, .string t.nm, .int .u8 t.ex.top.k, .string t.ex.top.rat, .string t.ex.top.name, .int .i64 t.ex.top.date, .slice B1 n1 d1, .int .i64 t.date, .slice B2 n2 d2, .slice B3 n3 d3]
  have hb6 := (Below.refl W5.heap.size W5).alloc (Nat.le_refl _) (.cells #[.int .u8 t.k, .string t.fr, .string t.tu, .string t.nm, .int .u8 t.ex.top.k, .string t.ex.top.rat, .string t.ex.top.name, .int .i64 t.ex.top.date, .slice B1 n1 d1, .int .i64 t.date, .slice B2 n2 d2, .slice B3 n3 d3] 29)
  have HB6 := Lib.hid hb6
  replace BX := (BX.below hb5).below hb6
  replace BY := (BY.below hb5).below hb6
  replace BO := (BO.below hb5).below hb6
  have h6 := (h4.trans (hb5.mono h4.size)).trans (hb6.mono (Nat.le_trans h4.size hb5.size))
  clear hb5 hb6 h4
  go_upto_region 5 with fail
  generalize (W5.alloc (.cells #[.int .u8 t.k, .string t.fr, .string t.tu, .string t.nm, .int .u8 t.ex.top.k, .string t.ex.top.rat, .string t.ex.top.name, .int .i64 t.ex.top.date, .slice B1 n1 d1, .int .i64 t.date, .slice B2 n2 d2, .slice B3 n3 d3] 29)) = W6 at *
  go_cut [7] from 21 to 53 (fun pv wx => pv = .bool true ∧ Below W6.heap.size W6 wx)
  case first =>
    have HQ := Lib.hid (fun q : Ab W6 => h6.trans (q.2.mono h6.size))
    have z0 : ∀ q : Ab W6, q.1.cell? ⟨w.heap.size, 0, none⟩ = some (.int .u8 t.k) := fun q => (BX.below q.2).cell 0
    have z1 : ∀ q : Ab W6, q.1.cell? ⟨w.heap.size, 1, none⟩ = some (.string t.fr) := fun q => (BX.below q.2).cell 1
    have z2 : ∀ q : Ab W6, q.1.cell? ⟨w.heap.size, 2, none⟩ = some (.string t.tu) := fun q => (BX.below q.2).cell 2
    have z3 : ∀ q : Ab W6, q.1.cell? ⟨w.heap.size, 3, none⟩ = some (.string t.nm) := fun q => (BX.below q.2).cell 3
    have z4 : ∀ q : Ab W6, q.1.cell? ⟨w.heap.size, 4, none⟩ = some (.int .u8 t.ex.top.k) := fun q => (BX.below q.2).cell 4
    have z5 : ∀ q : Ab W6, q.1.cell? ⟨w.heap.size, 5, none⟩ = some (.string t.ex.top.rat) := fun q => (BX.below q.2).cell 5
    have z6 : ∀ q : Ab W6, q.1.cell? ⟨w.heap.size, 6, none⟩ = some (.string t.ex.top.name) := fun q => (BX.below q.2).cell 6
    have z7 : ∀ q : Ab W6, q.1.cell? ⟨w.heap.size, 7, none⟩ = some (.int .i64 t.ex.top.date) := fun q => (BX.below q.2).cell 7
    have z8 : ∀ q : Ab W6, q.1.cell? ⟨w.heap.size, 8, none⟩ = some (.slice Au ku cu) := fun q => (BX.below q.2).cell 8
    have z9 : ∀ q : Ab W6, q.1.cell? ⟨w.heap.size, 9, none⟩ = some (.int .i64 t.date) := fun q => (BX.below q.2).cell 9
    have z10 : ∀ q : Ab W6, q.1.cell? ⟨w.heap.size, 10, none⟩ = some (.slice Ad kd cd) := fun q => (BX.below q.2).cell 10
    have z11 : ∀ q : Ab W6, q.1.cell? ⟨w.heap.size, 11, none⟩ = some (.slice As ks cs) := fun q => (BX.below q.2).cell 11
    have y0 : ∀ q : Ab W6, q.1.cell? ⟨w.heap.size + 1, 0, none⟩ = some (.int .u8 t'.k) := fun q => (BY.below q.2).cell 0
    have y1 : ∀ q : Ab W6, q.1.cell? ⟨w.heap.size + 1, 1, none⟩ = some (.string t'.fr) := fun q => (BY.below q.2).cell 1
    have y2 : ∀ q : Ab W6, q.1.cell? ⟨w.heap.size + 1, 2, none⟩ = some (.string t'.tu) := fun q => (BY.below q.2).cell 2
    have y3 : ∀ q : Ab W6, q.1.cell? ⟨w.heap.size + 1, 3, none⟩ = some (.string t'.nm) := fun q => (BY.below q.2).cell 3
    have y4 : ∀ q : Ab W6, q.1.cell? ⟨w.heap.size + 1, 4, none⟩ = some (.int .u8 t'.ex.top.k) := fun q => (BY.below q.2).cell 4
    have y5 : ∀ q : Ab W6, q.1.cell? ⟨w.heap.size + 1, 5, none⟩ = some (.string t'.ex.top.rat) := fun q => (BY.below q.2).cell 5
    have y6 : ∀ q : Ab W6, q.1.cell? ⟨w.heap.size + 1, 6, none⟩ = some (.string t'.ex.top.name) := fun q => (BY.below q.2).cell 6
    have y7 : ∀ q : Ab W6, q.1.cell? ⟨w.heap.size + 1, 7, none⟩ = some (.int .i64 t'.ex.top.date) := fun q => (BY.below q.2).cell 7
    have y8 : ∀ q : Ab W6, q.1.cell? ⟨w.heap.size + 1, 8, none⟩ = some (.slice Au' ku' cu') := fun q => (BY.below q.2).cell 8
    have y9 : ∀ q : Ab W6, q.1.cell? ⟨w.heap.size + 1, 9, none⟩ = some (.int .i64 t'.date) := fun q => (BY.below q.2).cell 9
    have y10 : ∀ q : Ab W6, q.1.cell? ⟨w.heap.size + 1, 10, none⟩ = some (.slice Ad' kd' cd') := fun q => (BY.below q.2).cell 10
    have y11 : ∀ q : Ab W6, q.1.cell? ⟨w.heap.size + 1, 11, none⟩ = some (.slice As' ks' cs') := fun q => (BY.below q.2).cell 11
    have t0 : ∀ q : Ab W6, q.1.cell? ⟨W5.heap.size, 0, none⟩ = some (.int .u8 t.k) := fun q => (BT.below q.2).cell 0
    have t1 : ∀ q : Ab W6, q.1.cell? ⟨W5.heap.size, 1, none⟩ = some (.string t.fr) := fun q => (BT.below q.2).cell 1
    have t2 : ∀ q : Ab W6, q.1.cell? ⟨W5.heap.size, 2, none⟩ = some (.string t.tu) := fun q => (BT.below q.2).cell 2
    have t3 : ∀ q : Ab W6, q.1.cell? ⟨W5.heap.size, 3, none⟩ = some (.string t.nm) := fun q => (BT.below q.2).cell 3
    have t4 : ∀ q : Ab W6, q.1.cell? ⟨W5.heap.size, 4, none⟩ = some (.int .u8 t.ex.top.k) := fun q => (BT.below q.2).cell 4
    have t5 : ∀ q : Ab W6, q.1.cell? ⟨W5.heap.size, 5, none⟩ = some (.string t.ex.top.rat) := fun q => (BT.below q.2).cell 5
    have t6 : ∀ q : Ab W6, q.1.cell? ⟨W5.heap.size, 6, none⟩ = some (.string t.ex.top.name) := fun q => (BT.below q.2).cell 6
    have t7 : ∀ q : Ab W6, q.1.cell? ⟨W5.heap.size, 7, none⟩ = some (.int .i64 t.ex.top.date) := fun q => (BT.below q.2).cell 7
    have t8 : ∀ q : Ab W6, q.1.cell? ⟨W5.heap.size, 8, none⟩ = some (.slice B1 n1 d1) := fun q => (BT.below q.2).cell 8
    have t9 : ∀ q : Ab W6, q.1.cell? ⟨W5.heap.size, 9, none⟩ = some (.int .i64 t.date) := fun q => (BT.below q.2).cell 9
    have t10 : ∀ q : Ab W6, q.1.cell? ⟨W5.heap.size, 10, none⟩ = some (.slice B2 n2 d2) := fun q => (BT.below q.2).cell 10
    have t11 : ∀ q : Ab W6, q.1.cell? ⟨W5.heap.size, 11, none⟩ = some (.slice B3 n3 d3) := fun q => (BT.below q.2).cell 11
    replace HCA := Lib.hid (fun q : Ab W6 => HCA.out q.1 (HQ.out q))
    replace HRC := Lib.hid (fun q : Ab W6 => HRC.out q.1 (HQ.out q))
    replace HSA := Lib.hid (fun q : Ab W6 => HSA.out q.1 (HQ.out q))
    replace HSR := Lib.hid (fun q : Ab W6 => HSR.out q.1 (HQ.out q))
    replace HDA := Lib.hid (fun q : Ab W6 => HDA.out q.1 (HQ.out q))
    replace HDR := Lib.hid (fun q : Ab W6 => HDR.out q.1 (HQ.out q))
    replace HMAB := Lib.hid (fun q : Ab W6 => HMAB.out q.1 (HQ.out q))
    replace HRAB := Lib.hid (fun q : Ab W6 => HRAB.out q.1 (HQ.out q))
    replace HRTA := Lib.hid (fun q : Ab W6 => HRTA.out q.1 (HQ.out q) _ _ _ (HBE.out _ _ q.2 _ _ _ (HBE.out _ _ HB6.out _ _ _ HCT.out)))
    clear BX BY BO BT HCO HCT
    refine wp_region_above (by kernel_rfl) (by kernel_rfl) ?_
    repeat (go_big_quiet_step (first | (go_at_call 12; with_reducible exact Ab.step (HCA.out _)) | (go_at_call 27; with_reducible exact Ab.step (HRC.out _)) | (go_at_call 20; with_reducible exact Ab.step (HSA.out _)) | (go_at_call 28; with_reducible exact Ab.step (HSR.out _)) | (go_at_call 21; with_reducible exact Ab.step (HDA.out _)) | (go_at_call 29; with_reducible exact Ab.step (HDR.out _)) | (go_at_call 24; with_reducible exact Ab.step (HMAB.out _)) | (go_at_call 30; first | (with_reducible exact Ab.step (HRAB.out _)) | (with_reducible exact Ab.step (HRTA.out _)))))
    refine wpQuiet_nil ?_
    rintro _ ⟨q', rfl⟩
    have hq := q'.2
    clear z0 z1 z2 z3 z4 z5 z6 z7 z8 z9 z10 z11 y0 y1 y2 y3 y4 y5 y6 y7 y8 y9 y10 y11 t0 t1 t2 t3 t4 t5 t6 t7 t8 t9 t10 t11
    go_wp2_with fail
    go_meet
    exact ⟨rfl, hq⟩
  case rest =>
  obtain ⟨rfl, hb⟩ := hcut
  rename World => W7
  clear HCA HRC HSA HSR HDA HDR HMAB HRAB
  have hl6 := HB6.out.size
  have hl5 := HB5.out.size
  have H47 := Lib.hid (HB5.out.trans ((HB6.out.mono hl5).trans (hb.mono (Nat.le_trans hl5 hl6))))
  have hl4 : W3.heap.size ≤ W4.heap.size := hO3.out.size
  have HWS : Hid (WS W4.heap.size W5.heap.size W7 W5.heap.size #[.int .u8 t.k, .string t.fr, .string t.tu, .string t.nm, .int .u8 t.ex.top.k, .string t.ex.top.rat, .string t.ex.top.name, .int .i64 t.ex.top.date, .slice B1 n1 d1, .int .i64 t.date, .slice B2 n2 d2, .slice B3 n3 d3] B1 n1 B2 n2 B3 n3 W7) := Lib.hid ⟨Below.refl _ _, BT.below hb, Nat.le_refl _, (HR1.out.below HB6.out).below hb, (HR2.out.below HB6.out).below hb, (HR3.out.below HB6.out).below hb⟩
  replace BX := BX.below hb
  replace BO := BO.below hb
  have hx0 : w.heap.size < W4.heap.size := by omega
  have ho0 : W3.heap.size < W4.heap.size := by omega
  have h7 := h6.trans (hb.mono h6.size)
  clear hb BY BT HR1 HR2 HR3
  have t11 := HWS.out.box.cell 11
  go_wp2_with fail
  clear t11
  go_loopw [8] (fun iv wr => ∃ k : Nat, k ≤ n3 ∧ iv = .int .i64 k ∧ Hid (WS W4.heap.size W5.heap.size W7 W5.heap.size #[.int .u8 t.k, .string t.fr, .string t.tu, .string t.nm, .int .u8 t.ex.top.k, .string t.ex.top.rat, .string t.ex.top.name, .int .i64 t.ex.top.date, .slice B1 n1 d1, .int .i64 t.date, .slice B2 n2 d2, .slice B3 n3 d3] B1 n1 B2 n2 B3 n3 wr)) (fun iv _ => n3 - (intOf iv).toNat)
  case atStart => exact ⟨0, by omega, rfl, HWS⟩
  case round =>
    obtain ⟨k, hk, rfl, HW⟩ := hrel
    have t11 := HW.out.box.cell 11
    by_cases hlt : k < n3
    · have hi0 : (0 : Int) ≤ (k : Int) := by omega
      have hi1 : (k : Int) < (n3 : Int) := by omega
      obtain ⟨g, x, rfl, hx, hf, hset⟩ := HW.out.set3 hlt (.int .u8 77)
      have HSET := Lib.hid hset
      clear hset
      go_wp2_with fail
      go_roundw
      case rel => exact ⟨k + 1, by omega, by go_num, HSET⟩
      case measure => simp [intOf]; omega
    · obtain rfl : n3 = k := by omega
      rename World => V1
      have HW1 := HW
      clear HW
      have t10 := HW1.out.box.cell 10
      go_wp2_with fail
      clear t11 t10
      go_loopw [9] (fun iv wr => ∃ k : Nat, k ≤ n2 ∧ iv = .int .i64 k ∧ Hid (WS W4.heap.size W5.heap.size W7 W5.heap.size #[.int .u8 t.k, .string t.fr, .string t.tu, .string t.nm, .int .u8 t.ex.top.k, .string t.ex.top.rat, .string t.ex.top.name, .int .i64 t.ex.top.date, .slice B1 n1 d1, .int .i64 t.date, .slice B2 n2 d2, .slice B3 n3 d3] B1 n1 B2 n2 B3 n3 wr)) (fun iv _ => n2 - (intOf iv).toNat)
      case atStart => exact ⟨0, by omega, rfl, HW1⟩
      case round =>
        obtain ⟨k, hk, rfl, HW⟩ := hrel
        have t10 := HW.out.box.cell 10
        by_cases hlt : k < n2
        · have hi0 : (0 : Int) ≤ (k : Int) := by omega
          have hi1 : (k : Int) < (n2 : Int) := by omega
          obtain ⟨g, x, rfl, hx, hf, hset⟩ := HW.out.set2 hlt (.int .i64 (-7))
          have HSET := Lib.hid hset
          clear hset
          go_wp2_with fail
          go_roundw
          case rel => exact ⟨k + 1, by omega, by go_num, HSET⟩
          case measure => simp [intOf]; omega
        · obtain rfl : n2 = k := by omega
          rename World => V2
          have HW2 := HW
          clear HW
          have t8 := HW2.out.box.cell 8
          go_wp2_with fail
          clear t10 t8
          go_loopw [10] (fun iv wr => ∃ k : Nat, k ≤ n1 ∧ iv = .int .i64 k ∧ Hid (WS W4.heap.size W5.heap.size W7 W5.heap.size #[.int .u8 t.k, .string t.fr, .string t.tu, .string t.nm, .int .u8 t.ex.top.k, .string t.ex.top.rat, .string t.ex.top.name, .int .i64 t.ex.top.date, .slice B1 n1 d1, .int .i64 t.date, .slice B2 n2 d2, .slice B3 n3 d3] B1 n1 B2 n2 B3 n3 wr)) (fun iv _ => n1 - (intOf iv).toNat)
          case atStart => exact ⟨0, by omega, rfl, HW2⟩
          case round =>
            obtain ⟨k, hk, rfl, HW⟩ := hrel
            have t8 := HW.out.box.cell 8
            by_cases hlt : k < n1
            · have hi0 : (0 : Int) ≤ (k : Int) := by omega
              have hi1 : (k : Int) < (n1 : Int) := by omega
              obtain ⟨g, x, rfl, hx, hf, hset⟩ := HW.out.set1 hlt (.int .u8 77)
              have HSET := Lib.hid hset
              clear hset
              go_wp2_with fail
              go_roundw
              case rel => exact ⟨k + 1, by omega, by go_num, HSET⟩
              case measure => simp [intOf]; omega
            · obtain rfl : n1 = k := by omega
              rename World => V3
              have HV := HW.out.bel
              have bx := (HV.block _ hx0).trans BX
              have bo := (HV.block _ ho0).trans BO
              have bx : Blk V3 w.heap.size 29 #[.int .u8 t.k, .string t.fr, .string t.tu, .string t.nm, .int .u8 t.ex.top.k, .string t.ex.top.rat, .string t.ex.top.name, .int .i64 t.ex.top.date, .slice Au ku cu, .int .i64 t.date, .slice Ad kd cd, .slice As ks cs] := bx
              have bo : Blk V3 W3.heap.size 29 #[.int .u8 t.k, .string t.fr, .string t.tu, .string t.nm, .int .u8 t.ex.top.k, .string t.ex.top.rat, .string t.ex.top.name, .int .i64 t.ex.top.date, .slice O1 p1 e1, .int .i64 t.date, .slice O2 p2 e2, .slice O3 p3 e3] := bo
              have h8 := h7.trans (HV.mono (show w.heap.size ≤ W4.heap.size by omega))
              have HC9 := Lib.hid (HRTA9.out V3 h8 _ _ _ (HBE.out _ _ ((hO3.out.trans (H47.out.mono (show W3.heap.size ≤ W4.heap.size by omega))).trans (HV.mono (show W3.heap.size ≤ W4.heap.size by omega))) _ _ _ HCO.out))
              clear HW HV
              have z0 := bx.cell 0
              have z1 := bx.cell 1
              have z2 := bx.cell 2
              have z3 := bx.cell 3
              have z4 := bx.cell 4
              have z5 := bx.cell 5
              have z6 := bx.cell 6
              have z7 := bx.cell 7
              have z8 := bx.cell 8
              have z9 := bx.cell 9
              have z10 := bx.cell 10
              have z11 := bx.cell 11
              have o0 := bo.cell 0
              have o1 := bo.cell 1
              have o2 := bo.cell 2
              have o3 := bo.cell 3
              have o4 := bo.cell 4
              have o5 := bo.cell 5
              have o6 := bo.cell 6
              have o7 := bo.cell 7
              have o8 := bo.cell 8
              have o9 := bo.cell 9
              have o10 := bo.cell 10
              have o11 := bo.cell 11
              go_wp2_with fail
              refine HC9.out.mono ?_
              rintro e V4 ⟨rfl, hb⟩
              have h9 := h8.trans (hb.mono h8.size)
              clear z0 z1 z2 z3 z4 z5 z6 z7 z8 z9 z10 z11 o0 o1 o2 o3 o4 o5 o6 o7 o8 o9 o10 o11 t8
              go_wp2_with fail
              go_ret
              exact ⟨rfl, h9⟩

set_option maxRecDepth 100000 in
theorem lifted (os : Go.Os) (started : os.Started) (H : Type) (enc : TypeId × Value → H) :
    ReturnsInHanded {} Tryd.checked os 5 .any (fun w args => (Rows.contractChecksSpec.pre enc Tryd.prog Tryd.f5 [] false w args ∧ laidMetH Tryd.prog laidL w) ∧ sizedMet enc Tryd.prog Tryd.f5 (OpenSpec.ofChange Rows.contractChecksSpec) false w args) (Rows.contractChecksSpec.post enc Tryd.prog Tryd.f5 false true false false) := by
  refine door_wrap (C := Tryd.checked) (laid := laidL) own started (by kernel_rfl) Tryd.func5
    (ChangeSpec.witness_shaped (enc := enc) (C := Tryd.checked) (os := os) (X := fun w _ => laidMetH Tryd.prog laidL w) false (World.doorLaid Tryd.prog 600 os) #[.agg #[.int .u8 0, .string ByteArray.empty, .string ByteArray.empty, .string ByteArray.empty, .int .u8 0, .string ByteArray.empty, .string ByteArray.empty, .int .i64 0, .slice none 0 0, .int .i64 0, .slice none 0 0, .slice none 0 0], .agg #[.int .u8 0, .string ByteArray.empty, .string ByteArray.empty, .string ByteArray.empty, .int .u8 0, .string ByteArray.empty, .string ByteArray.empty, .int .i64 0, .slice none 0 0, .int .i64 0, .slice none 0 0, .slice none 0 0]] 8 rfl (World.shaped_of_RefB (by kernel_rfl) (by kernel_rfl)) (by kernel_rfl) (by kernel_rfl) (by kernel_rfl) (door_met os _)) ?_
  intro W base args ds gs before hval0 hW hWt hL hsh
  have hval : ∀ (j : Nat) t v, Tryd.f5.params[j]? = some t → args[j]? = some v → Value.okWide Tryd.prog W .any base t v := hval0
  have hW' := hW
  obtain ⟨p, q, hA0, hV, rfl, hfz, hnd⟩ := hW
  have hA : DataW.TrodAll enc Tryd.prog W 0 (fun _ => true) true Tryd.f5.params.toList args.toList ds p := hA0
  rw [Tryd.params5] at hA hval
  obtain ⟨v0, vs0, d0, ds0, p0, q0, hargs, rfl, rfl, h0, r0⟩ := trodAll_cons hA
  obtain ⟨v1, vs1, d1, ds1, p1, q1, rfl, rfl, rfl, h1, r1⟩ := trodAll_cons r0
  obtain ⟨rfl, rfl, rfl⟩ := trodAll_nil r1
  obtain rfl : args = #[v0, v1] := by cases args; simp_all
  obtain ⟨rfl, rfl⟩ := trodVars_none hV
  have hWm := fun q hq => Nat.le_trans (of_decide_eq_true (List.all_eq_true.1 hWt q hq)) (show reachBytes ≤ 140737488355328 by decide)
  have hM0 : ∀ q ∈ d0.weights Tryd.prog 29, q ≤ 140737488355328 := fun q hq => hWm q (DataW.weights_mem_each (j := 0) (by rfl) (by rfl) q hq)
  have hM1 : ∀ q ∈ d1.weights Tryd.prog 29, q ≤ 140737488355328 := fun q hq => hWm q (DataW.weights_mem_each (j := 1) (by rfl) (by rfl) q hq)
  have k0 := h0
  obtain ⟨N0, o0⟩ := contract_open (hval 0 29 v0 rfl rfl) h0 hM0
  have k1 := h1
  obtain ⟨N1, o1⟩ := contract_open (hval 1 29 v1 rfl rfl) h1 hM1
  obtain ⟨F, hF⟩ : ∃ F, F = N0 + N1 := ⟨_, rfl⟩
  obtain ⟨r0c, c0, rfl, cv0, cl0⟩ := o0 (F + 1) (by omega)
  obtain ⟨r1c, c1, rfl, cv1, cl1⟩ := o1 (F + 1) (by omega)
  clear hA0 hval0
  refine (walk F c0 r0c c1 r1c W cv0 cl0 cv1 cl1 (Tryd.laysM145.s1_3 W hsh) (of_laid hL)).mono fun e W' ⟨he, bel⟩ => ?_
  subst he
  exact ⟨_, rfl, _, _, _, [], _, [], hW', trodAll_mk1 (shut_bool Tryd.underlying4 _), (trodAll_cons_mk (arg_stays (by kernel_rfl) (of_decide_eq_true (by kernel_rfl)) k0 bel) (trodAll_cons_mk (arg_stays (by kernel_rfl) (of_decide_eq_true (by kernel_rfl)) k1 bel) trodAll_mk0)), rfl, bel.frame _, fun h => by cases h⟩

theorem over : Rows.contractChecksRow.holds Tryd.pinned (OpenSpec.ofChange Rows.contractChecksSpec) :=
  OpenClaim.holds_of_wide 5 Tryd.f5 rfl rfl rfl rfl rfl rfl rfl ⟨rfl, rfl, rfl, rfl, rfl⟩ rfl rfl rfl rfl rfl (by kernel_rfl) Tryd.func5 (by kernel_rfl)
    (of_decide_eq_true (by kernel_rfl)) (by unfold Func.isWrapper; first | (rw [if_pos (by decide +kernel)]; kernel_rfl) | (rw [if_neg (by decide +kernel)]; exact ⟨rfl, rfl⟩))
    (fun os started H enc _ => lifted os started H enc)

theorem proved : Rows.ContractChecksCardSaid :=
  Claim7.holds_tied_plain_at .later [] [.mappedDeep, .mapped] true (true, "18ee430487cca9eca090e431cb604d3d491d61f539cb3f6dc50aa057bdde380e") false
    over (fun _ h => by cases h) (by kernel_rfl) (fun _ h => by cases h) contractChecks_row_tie rfl ⟨rfl, rfl⟩ (by kernel_rfl) rfl
    (fun f fn hf hfn => by
      obtain rfl : f = 5 := Option.some.inj ((show Tryd.prog.funcNamed "novation/novationlaw09.ContractChecks" = some 5 by kernel_rfl).symm.trans hf) |>.symm
      obtain rfl : fn = Tryd.f5 := (Option.some.inj (Tryd.func5.symm.trans hfn)).symm
      exact ⟨by kernel_rfl, fun j t ht => by
        rw [Tryd.params5] at ht
        have hm : t ∈ [29, 29] := by simpa using Array.mem_of_getElem? ht
        have hall : ([29, 29].all fun u => !Tryd.prog.wantsStandIn u) = true := by kernel_rfl
        exact (show Tryd.prog.wantsStandIn t = false by simpa using List.all_eq_true.1 hall t hm)⟩)
    (by kernel_rfl)
#print axioms proved
