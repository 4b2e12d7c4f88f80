/- Walks: the laws' helpers one, pay, zero, less: the contracts of the examples. -/
import Derived.Test.YtifafmomkpkgdaaDoorOwd
import Derived.Test.YtifafmomkpkgdaaDoorOhz
import Derived.Test.YtifafmomkpkgdaaDoorOst
namespace Go.Proofs.YtifafmomkpkgdaaDoor
open Go.RowKit
namespace Z
def leafX {m : Nat} (t : XN) : Ex (m + 1) := Ex.mk t []
def noX {m : Nat} : Ex (m + 1) := leafX ⟨0, e0, e0, 0⟩
def z1 : ByteArray := ⟨#[49]⟩
def oneX {m : Nat} : Ex (m + 1) := leafX ⟨1, z1, e0, 0⟩
def payN {m : Nat} (f t c : ByteArray) : CN m := ⟨2, f, t, c, oneX, 0, []⟩
def payC {m n : Nat} (f t c : ByteArray) : Co m (n + 1) := Co.mk (payN f t c) []
def zeroN {m : Nat} : CN m := ⟨1, e0, e0, e0, noX, 0, []⟩
def zeroC {m n : Nat} : Co m (n + 1) := Co.mk zeroN []
end Z
/-- An expression without parts. -/
theorem XV.leaf {m : Nat} {w : World} {t : Z.XN} (h0 : 0 ≤ t.k) (h1 : t.k ≤ 255) : XV w (m + 1) (Z.leafX t) (t, .slice none 0 0) := ⟨rfl, ⟨h0, h1⟩, Dp.nil_⟩
/-- A contract without parts and days, whose expression has none. -/
theorem CV.leaf {m n : Nat} {w : World} {t : Z.CN m} {x : Z.XN} (h0 : 0 ≤ t.k) (h1 : t.k ≤ 255) (hx : t.ex = Z.leafX x) (hd : t.dates = []) (h2 : 0 ≤ x.k) (h3 : x.k ≤ 255) : CV w (n + 1) (Z.Co.mk t []) ⟨t, .slice none 0 0, .slice none 0 0, .slice none 0 0⟩ :=
  ⟨rfl, ⟨h0, h1⟩, by rw [hx]; exact XV.leaf h2 h3, by rw [hd]; exact SL.nil_, Dp.nil_⟩
theorem CV.pay {m n : Nat} (w : World) (f t c : ByteArray) : CV w (n + 1) (Z.payC (m := m) f t c) ⟨Z.payN f t c, .slice none 0 0, .slice none 0 0, .slice none 0 0⟩ := CV.leaf (x := ⟨1, Z.z1, Z.e0, 0⟩) (by show (0 : Int) ≤ 2; decide) (by show (2 : Int) ≤ 255; decide) rfl rfl (by show (0 : Int) ≤ 1; decide) (by show (1 : Int) ≤ 255; decide)
theorem CV.zero {m n : Nat} (w : World) : CV w (n + 1) (Z.zeroC (m := m)) ⟨Z.zeroN, .slice none 0 0, .slice none 0 0, .slice none 0 0⟩ := CV.leaf (x := ⟨0, Z.e0, Z.e0, 0⟩) (by show (0 : Int) ≤ 1; decide) (by show (1 : Int) ≤ 255; decide) rfl rfl (by show (0 : Int) ≤ 0; decide) (by show (0 : Int) ≤ 255; decide)
set_option maxRecDepth 100000 in
theorem Blk.store5 {W : World} {B : Nat} {t : TypeId} {c0 c1 c2 c3 c4 : Value} (h : Blk W B t #[c0, c1, c2, c3, c4]) (v0 v1 v2 v3 v4 : Value) : Blk (((((W.setCell ⟨B, 0, none⟩ v0).setCell ⟨B, 1, none⟩ v1).setCell ⟨B, 2, none⟩ v2).setCell ⟨B, 3, none⟩ v3).setCell ⟨B, 4, none⟩ v4) B t #[v0, v1, v2, v3, v4] := by
  have h0 : Blk (W.setCell ⟨B, 0, none⟩ v0) B t #[v0, c1, c2, c3, c4] := h.set 0 v0
  have h1 : Blk ((W.setCell ⟨B, 0, none⟩ v0).setCell ⟨B, 1, none⟩ v1) B t #[v0, v1, c2, c3, c4] := h0.set 1 v1
  have h2 : Blk (((W.setCell ⟨B, 0, none⟩ v0).setCell ⟨B, 1, none⟩ v1).setCell ⟨B, 2, none⟩ v2) B t #[v0, v1, v2, c3, c4] := h1.set 2 v2
  have h3 : Blk ((((W.setCell ⟨B, 0, none⟩ v0).setCell ⟨B, 1, none⟩ v1).setCell ⟨B, 2, none⟩ v2).setCell ⟨B, 3, none⟩ v3) B t #[v0, v1, v2, v3, c4] := h2.set 3 v3
  have h4 : Blk (((((W.setCell ⟨B, 0, none⟩ v0).setCell ⟨B, 1, none⟩ v1).setCell ⟨B, 2, none⟩ v2).setCell ⟨B, 3, none⟩ v3).setCell ⟨B, 4, none⟩ v4) B t #[v0, v1, v2, v3, v4] := h3.set 4 v4
  exact h4
theorem Below.store5 {w W : World} {n₀ B : Nat} (hb : Below n₀ w W) (hB : n₀ ≤ B) (v0 v1 v2 v3 v4 : Value) : Below n₀ w (((((W.setCell ⟨B, 0, none⟩ v0).setCell ⟨B, 1, none⟩ v1).setCell ⟨B, 2, none⟩ v2).setCell ⟨B, 3, none⟩ v3).setCell ⟨B, 4, none⟩ v4) := (((((hb.setCell (p := ⟨B, 0, none⟩) hB v0).setCell (p := ⟨B, 1, none⟩) hB v1).setCell (p := ⟨B, 2, none⟩) hB v2).setCell (p := ⟨B, 3, none⟩) hB v3).setCell (p := ⟨B, 4, none⟩) hB v4)
set_option maxRecDepth 100000 in
theorem Blk.store12 {W : World} {B : Nat} {t : TypeId} {c0 c1 c2 c3 c4 c5 c6 c7 c8 c9 c10 c11 : Value} (h : Blk W B t #[c0, c1, c2, c3, c4, c5, c6, c7, c8, c9, c10, c11]) (v0 v1 v2 v3 v4 v5 v6 v7 v8 v9 v10 v11 : Value) : Blk ((((((((((((W.setCell ⟨B, 0, none⟩ v0).setCell ⟨B, 1, none⟩ v1).setCell ⟨B, 2, none⟩ v2).setCell ⟨B, 3, none⟩ v3).setCell ⟨B, 4, none⟩ v4).setCell ⟨B, 5, none⟩ v5).setCell ⟨B, 6, none⟩ v6).setCell ⟨B, 7, none⟩ v7).setCell ⟨B, 8, none⟩ v8).setCell ⟨B, 9, none⟩ v9).setCell ⟨B, 10, none⟩ v10).setCell ⟨B, 11, none⟩ v11) B t #[v0, v1, v2, v3, v4, v5, v6, v7, v8, v9, v10, v11] := by
  have h0 : Blk (W.setCell ⟨B, 0, none⟩ v0) B t #[v0, c1, c2, c3, c4, c5, c6, c7, c8, c9, c10, c11] := h.set 0 v0
  have h1 : Blk ((W.setCell ⟨B, 0, none⟩ v0).setCell ⟨B, 1, none⟩ v1) B t #[v0, v1, c2, c3, c4, c5, c6, c7, c8, c9, c10, c11] := h0.set 1 v1
  have h2 : Blk (((W.setCell ⟨B, 0, none⟩ v0).setCell ⟨B, 1, none⟩ v1).setCell ⟨B, 2, none⟩ v2) B t #[v0, v1, v2, c3, c4, c5, c6, c7, c8, c9, c10, c11] := h1.set 2 v2
  have h3 : Blk ((((W.setCell ⟨B, 0, none⟩ v0).setCell ⟨B, 1, none⟩ v1).setCell ⟨B, 2, none⟩ v2).setCell ⟨B, 3, none⟩ v3) B t #[v0, v1, v2, v3, c4, c5, c6, c7, c8, c9, c10, c11] := h2.set 3 v3
  have h4 : Blk (((((W.setCell ⟨B, 0, none⟩ v0).setCell ⟨B, 1, none⟩ v1).setCell ⟨B, 2, none⟩ v2).setCell ⟨B, 3, none⟩ v3).setCell ⟨B, 4, none⟩ v4) B t #[v0, v1, v2, v3, v4, c5, c6, c7, c8, c9, c10, c11] := h3.set 4 v4
  have h5 : Blk ((((((W.setCell ⟨B, 0, none⟩ v0).setCell ⟨B, 1, none⟩ v1).setCell ⟨B, 2, none⟩ v2).setCell ⟨B, 3, none⟩ v3).setCell ⟨B, 4, none⟩ v4).setCell ⟨B, 5, none⟩ v5) B t #[v0, v1, v2, v3, v4, v5, c6, c7, c8, c9, c10, c11] := h4.set 5 v5
  have h6 : Blk (((((((W.setCell ⟨B, 0, none⟩ v0).setCell ⟨B, 1, none⟩ v1).setCell ⟨B, 2, none⟩ v2).setCell ⟨B, 3, none⟩ v3).setCell ⟨B, 4, none⟩ v4).setCell ⟨B, 5, none⟩ v5).setCell ⟨B, 6, none⟩ v6) B t #[v0, v1, v2, v3, v4, v5, v6, c7, c8, c9, c10, c11] := h5.set 6 v6
  have h7 : Blk ((((((((W.setCell ⟨B, 0, none⟩ v0).setCell ⟨B, 1, none⟩ v1).setCell ⟨B, 2, none⟩ v2).setCell ⟨B, 3, none⟩ v3).setCell ⟨B, 4, none⟩ v4).setCell ⟨B, 5, none⟩ v5).setCell ⟨B, 6, none⟩ v6).setCell ⟨B, 7, none⟩ v7) B t #[v0, v1, v2, v3, v4, v5, v6, v7, c8, c9, c10, c11] := h6.set 7 v7
  have h8 : Blk (((((((((W.setCell ⟨B, 0, none⟩ v0).setCell ⟨B, 1, none⟩ v1).setCell ⟨B, 2, none⟩ v2).setCell ⟨B, 3, none⟩ v3).setCell ⟨B, 4, none⟩ v4).setCell ⟨B, 5, none⟩ v5).setCell ⟨B, 6, none⟩ v6).setCell ⟨B, 7, none⟩ v7).setCell ⟨B, 8, none⟩ v8) B t #[v0, v1, v2, v3, v4, v5, v6, v7, v8, c9, c10, c11] := h7.set 8 v8
  have h9 : Blk ((((((((((W.setCell ⟨B, 0, none⟩ v0).setCell ⟨B, 1, none⟩ v1).setCell ⟨B, 2, none⟩ v2).setCell ⟨B, 3, none⟩ v3).setCell ⟨B, 4, none⟩ v4).setCell ⟨B, 5, none⟩ v5).setCell ⟨B, 6, none⟩ v6).setCell ⟨B, 7, none⟩ v7).setCell ⟨B, 8, none⟩ v8).setCell ⟨B, 9, none⟩ v9) B t #[v0, v1, v2, v3, v4, v5, v6, v7, v8, v9, c10, c11] := h8.set 9 v9
  have h10 : Blk (((((((((((W.setCell ⟨B, 0, none⟩ v0).setCell ⟨B, 1, none⟩ v1).setCell ⟨B, 2, none⟩ v2).setCell ⟨B, 3, none⟩ v3).setCell ⟨B, 4, none⟩ v4).setCell ⟨B, 5, none⟩ v5).setCell ⟨B, 6, none⟩ v6).setCell ⟨B, 7, none⟩ v7).setCell ⟨B, 8, none⟩ v8).setCell ⟨B, 9, none⟩ v9).setCell ⟨B, 10, none⟩ v10) B t #[v0, v1, v2, v3, v4, v5, v6, v7, v8, v9, v10, c11] := h9.set 10 v10
  have h11 : Blk ((((((((((((W.setCell ⟨B, 0, none⟩ v0).setCell ⟨B, 1, none⟩ v1).setCell ⟨B, 2, none⟩ v2).setCell ⟨B, 3, none⟩ v3).setCell ⟨B, 4, none⟩ v4).setCell ⟨B, 5, none⟩ v5).setCell ⟨B, 6, none⟩ v6).setCell ⟨B, 7, none⟩ v7).setCell ⟨B, 8, none⟩ v8).setCell ⟨B, 9, none⟩ v9).setCell ⟨B, 10, none⟩ v10).setCell ⟨B, 11, none⟩ v11) B t #[v0, v1, v2, v3, v4, v5, v6, v7, v8, v9, v10, v11] := h10.set 11 v11
  exact h11
theorem Below.store12 {w W : World} {n₀ B : Nat} (hb : Below n₀ w W) (hB : n₀ ≤ B) (v0 v1 v2 v3 v4 v5 v6 v7 v8 v9 v10 v11 : Value) : Below n₀ w ((((((((((((W.setCell ⟨B, 0, none⟩ v0).setCell ⟨B, 1, none⟩ v1).setCell ⟨B, 2, none⟩ v2).setCell ⟨B, 3, none⟩ v3).setCell ⟨B, 4, none⟩ v4).setCell ⟨B, 5, none⟩ v5).setCell ⟨B, 6, none⟩ v6).setCell ⟨B, 7, none⟩ v7).setCell ⟨B, 8, none⟩ v8).setCell ⟨B, 9, none⟩ v9).setCell ⟨B, 10, none⟩ v10).setCell ⟨B, 11, none⟩ v11) := ((((((((((((hb.setCell (p := ⟨B, 0, none⟩) hB v0).setCell (p := ⟨B, 1, none⟩) hB v1).setCell (p := ⟨B, 2, none⟩) hB v2).setCell (p := ⟨B, 3, none⟩) hB v3).setCell (p := ⟨B, 4, none⟩) hB v4).setCell (p := ⟨B, 5, none⟩) hB v5).setCell (p := ⟨B, 6, none⟩) hB v6).setCell (p := ⟨B, 7, none⟩) hB v7).setCell (p := ⟨B, 8, none⟩) hB v8).setCell (p := ⟨B, 9, none⟩) hB v9).setCell (p := ⟨B, 10, none⟩) hB v10).setCell (p := ⟨B, 11, none⟩) hB v11)
theorem grown_store5 (W : World) (B : Nat) (v0 v1 v2 v3 v4 : Value) : W.grownBy (((((W.setCell ⟨B, 0, none⟩ v0).setCell ⟨B, 1, none⟩ v1).setCell ⟨B, 2, none⟩ v2).setCell ⟨B, 3, none⟩ v3).setCell ⟨B, 4, none⟩ v4) (some B) := (((((grownBy_setAt W B 0 v0).trans (grownBy_setAt _ B 1 v1)).trans (grownBy_setAt _ B 2 v2)).trans (grownBy_setAt _ B 3 v3)).trans (grownBy_setAt _ B 4 v4))
theorem grown_store12 (W : World) (B : Nat) (v0 v1 v2 v3 v4 v5 v6 v7 v8 v9 v10 v11 : Value) : W.grownBy ((((((((((((W.setCell ⟨B, 0, none⟩ v0).setCell ⟨B, 1, none⟩ v1).setCell ⟨B, 2, none⟩ v2).setCell ⟨B, 3, none⟩ v3).setCell ⟨B, 4, none⟩ v4).setCell ⟨B, 5, none⟩ v5).setCell ⟨B, 6, none⟩ v6).setCell ⟨B, 7, none⟩ v7).setCell ⟨B, 8, none⟩ v8).setCell ⟨B, 9, none⟩ v9).setCell ⟨B, 10, none⟩ v10).setCell ⟨B, 11, none⟩ v11) (some B) := ((((((((((((grownBy_setAt W B 0 v0).trans (grownBy_setAt _ B 1 v1)).trans (grownBy_setAt _ B 2 v2)).trans (grownBy_setAt _ B 3 v3)).trans (grownBy_setAt _ B 4 v4)).trans (grownBy_setAt _ B 5 v5)).trans (grownBy_setAt _ B 6 v6)).trans (grownBy_setAt _ B 7 v7)).trans (grownBy_setAt _ B 8 v8)).trans (grownBy_setAt _ B 9 v9)).trans (grownBy_setAt _ B 10 v10)).trans (grownBy_setAt _ B 11 v11))
theorem lone_any (w : World) : Calls Tryd.prog 65 #[] w fun e w' => e = .returned (.agg #[.int .u8 1, .string Z.z1, .string Z.e0, .int .i64 0, .slice none 0 0]) ∧ Below w.heap.size w w' := by
  have hb := (Below.refl _ w).alloc (Nat.le_refl w.heap.size) (.cells #[.int .u8 1, .string ⟨#[49]⟩, .string ⟨#[]⟩, .int .i64 0, .slice none 0 0] 25)
  have BY := Blk.new w 25 #[.int .u8 1, .string ⟨#[49]⟩, .string ⟨#[]⟩, .int .i64 0, .slice none 0 0]
  have q0 := BY.cell 0
  have q1 := BY.cell 1
  have q2 := BY.cell 2
  have q3 := BY.cell 3
  have q4 := BY.cell 4
  clear BY
  go_enter Tryd.func65, Tryd.ntmps65
  go_wp2_with fail
  generalize (w.alloc (.cells #[.int .u8 1, .string ⟨#[49]⟩, .string ⟨#[]⟩, .int .i64 0, .slice none 0 0] 25)) = W at *
  refine bodyPost_ret (v := .agg #[.int .u8 1, .string ⟨#[49]⟩, .string ⟨#[]⟩, .int .i64 0, .slice none 0 0]) (by simp [results, Tryd.results65, go_sem, q0, q1, q2, q3, q4]) rfl ?_
  exact ⟨rfl, hb⟩
theorem lzero_any (w : World) : Calls Tryd.prog 36 #[] w fun e w' => e = .returned (.agg #[.int .u8 1, .string Z.e0, .string Z.e0, .string Z.e0, .int .u8 0, .string Z.e0, .string Z.e0, .int .i64 0, .slice none 0 0, .int .i64 0, .slice none 0 0, .slice none 0 0]) ∧ Below w.heap.size w w' := by
  have hb := (Below.refl _ w).alloc (Nat.le_refl w.heap.size) (.cells #[.int .u8 1, .string ⟨#[]⟩, .string ⟨#[]⟩, .string ⟨#[]⟩, .int .u8 0, .string ⟨#[]⟩, .string ⟨#[]⟩, .int .i64 0, .slice none 0 0, .int .i64 0, .slice none 0 0, .slice none 0 0] 29)
  have BY := Blk.new w 29 #[.int .u8 1, .string ⟨#[]⟩, .string ⟨#[]⟩, .string ⟨#[]⟩, .int .u8 0, .string ⟨#[]⟩, .string ⟨#[]⟩, .int .i64 0, .slice none 0 0, .int .i64 0, .slice none 0 0, .slice none 0 0]
  have q0 := BY.cell 0
  have q1 := BY.cell 1
  have q2 := BY.cell 2
  have q3 := BY.cell 3
  have q4 := BY.cell 4
  have q5 := BY.cell 5
  have q6 := BY.cell 6
  have q7 := BY.cell 7
  have q8 := BY.cell 8
  have q9 := BY.cell 9
  have q10 := BY.cell 10
  have q11 := BY.cell 11
  clear BY
  go_enter Tryd.func36, Tryd.ntmps36
  go_wp2_with fail
  generalize (w.alloc (.cells #[.int .u8 1, .string ⟨#[]⟩, .string ⟨#[]⟩, .string ⟨#[]⟩, .int .u8 0, .string ⟨#[]⟩, .string ⟨#[]⟩, .int .i64 0, .slice none 0 0, .int .i64 0, .slice none 0 0, .slice none 0 0] 29)) = W at *
  refine bodyPost_ret (v := .agg #[.int .u8 1, .string ⟨#[]⟩, .string ⟨#[]⟩, .string ⟨#[]⟩, .int .u8 0, .string ⟨#[]⟩, .string ⟨#[]⟩, .int .i64 0, .slice none 0 0, .int .i64 0, .slice none 0 0, .slice none 0 0]) (by simp [results, Tryd.results36, go_sem, q0, q1, q2, q3, q4, q5, q6, q7, q8, q9, q10, q11]) rfl ?_
  exact ⟨rfl, hb⟩
set_option maxRecDepth 100000 in
theorem lpay_any (f t c : ByteArray) (w : World) : Calls Tryd.prog 37 #[.string f, .string t, .string c] w fun e w' => e = .returned (.agg #[.int .u8 2, .string f, .string t, .string c, .int .u8 1, .string Z.z1, .string Z.e0, .int .i64 0, .slice none 0 0, .int .i64 0, .slice none 0 0, .slice none 0 0]) ∧ Below w.heap.size w w' := by
  have hb := (Below.refl _ w).alloc (Nat.le_refl w.heap.size) (.cells #[.int .u8 0, .string ⟨#[]⟩, .string ⟨#[]⟩, .string ⟨#[]⟩, .int .u8 0, .string ⟨#[]⟩, .string ⟨#[]⟩, .int .i64 0, .slice none 0 0, .int .i64 0, .slice none 0 0, .slice none 0 0] 29)
  have BY := Blk.new w 29 #[.int .u8 0, .string ⟨#[]⟩, .string ⟨#[]⟩, .string ⟨#[]⟩, .int .u8 0, .string ⟨#[]⟩, .string ⟨#[]⟩, .int .i64 0, .slice none 0 0, .int .i64 0, .slice none 0 0, .slice none 0 0]
  have HO := Lib.hid (lone_any (w.alloc (.cells #[.int .u8 0, .string ⟨#[]⟩, .string ⟨#[]⟩, .string ⟨#[]⟩, .int .u8 0, .string ⟨#[]⟩, .string ⟨#[]⟩, .int .i64 0, .slice none 0 0, .int .i64 0, .slice none 0 0, .slice none 0 0] 29)))
  go_enter Tryd.func37, Tryd.ntmps37
  go_wp2_with fail
  refine HO.out.mono ?_
  rintro e W1 ⟨rfl, hb1⟩
  have BZ := BY.below hb1
  have hb2 := hb.trans (hb1.mono hb.size)
  clear HO BY hb hb1
  have q0 := BZ.cell 0
  have f0 := BZ.frozen 0
  have q1 := BZ.cell 1
  have f1 := BZ.frozen 1
  have q2 := BZ.cell 2
  have f2 := BZ.frozen 2
  have q3 := BZ.cell 3
  have f3 := BZ.frozen 3
  have q4 := BZ.cell 4
  have f4 := BZ.frozen 4
  have q5 := BZ.cell 5
  have f5 := BZ.frozen 5
  have q6 := BZ.cell 6
  have f6 := BZ.frozen 6
  have q7 := BZ.cell 7
  have f7 := BZ.frozen 7
  have q8 := BZ.cell 8
  have f8 := BZ.frozen 8
  have q9 := BZ.cell 9
  have f9 := BZ.frozen 9
  have q10 := BZ.cell 10
  have f10 := BZ.frozen 10
  have q11 := BZ.cell 11
  have f11 := BZ.frozen 11
  go_wp2_with fail
  have BF := BZ.store12 (.int .u8 2) (.string f) (.string t) (.string c) (.int .u8 1) (.string Z.z1) (.string Z.e0) (.int .i64 0) (.slice none 0 0) (.int .i64 0) (.slice none 0 0) (.slice none 0 0)
  have hb3 := Below.store12 hb2 (Nat.le_refl w.heap.size) (.int .u8 2) (.string f) (.string t) (.string c) (.int .u8 1) (.string Z.z1) (.string Z.e0) (.int .i64 0) (.slice none 0 0) (.int .i64 0) (.slice none 0 0) (.slice none 0 0)
  clear q0 f0 q1 f1 q2 f2 q3 f3 q4 f4 q5 f5 q6 f6 q7 f7 q8 f8 q9 f9 q10 f10 q11 f11 BZ hb2
  generalize ((((((((((((W1.setCell ⟨w.heap.size, 0, none⟩ (.int .u8 2)).setCell ⟨w.heap.size, 1, none⟩ (.string f)).setCell ⟨w.heap.size, 2, none⟩ (.string t)).setCell ⟨w.heap.size, 3, none⟩ (.string c)).setCell ⟨w.heap.size, 4, none⟩ (.int .u8 1)).setCell ⟨w.heap.size, 5, none⟩ (.string Z.z1)).setCell ⟨w.heap.size, 6, none⟩ (.string Z.e0)).setCell ⟨w.heap.size, 7, none⟩ (.int .i64 0)).setCell ⟨w.heap.size, 8, none⟩ (.slice none 0 0)).setCell ⟨w.heap.size, 9, none⟩ (.int .i64 0)).setCell ⟨w.heap.size, 10, none⟩ (.slice none 0 0)).setCell ⟨w.heap.size, 11, none⟩ (.slice none 0 0)) = W2 at *
  have q0 := BF.cell 0
  have q1 := BF.cell 1
  have q2 := BF.cell 2
  have q3 := BF.cell 3
  have q4 := BF.cell 4
  have q5 := BF.cell 5
  have q6 := BF.cell 6
  have q7 := BF.cell 7
  have q8 := BF.cell 8
  have q9 := BF.cell 9
  have q10 := BF.cell 10
  have q11 := BF.cell 11
  refine bodyPost_ret (v := .agg #[.int .u8 2, .string f, .string t, .string c, .int .u8 1, .string Z.z1, .string Z.e0, .int .i64 0, .slice none 0 0, .int .i64 0, .slice none 0 0, .slice none 0 0]) (by simp [results, Tryd.results37, go_sem, q0, q1, q2, q3, q4, q5, q6, q7, q8, q9, q10, q11]) rfl ?_
  exact ⟨rfl, hb3⟩
end Go.Proofs.YtifafmomkpkgdaaDoor
