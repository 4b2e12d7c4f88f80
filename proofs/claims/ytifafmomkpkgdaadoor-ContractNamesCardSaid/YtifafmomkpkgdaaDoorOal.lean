/- Walk: the chapter's examples. -/
import Derived.Test.YtifafmomkpkgdaaDoorOlh
namespace Go.Proofs.YtifafmomkpkgdaaDoor
open Go.RowKit
namespace Z
def ann : ByteArray := ⟨#[65, 110, 110]⟩
def bob : ByteArray := ⟨#[66, 111, 98]⟩
def usd : ByteArray := ⟨#[85, 83, 68]⟩
abbrev alP : Co 0 1 := payC ann bob usd
def alB : Co 0 2 := Co.mk ⟨3, e0, e0, e0, noX, 0, []⟩ [payC ann bob usd, zeroC]
theorem alP_size : coSize 1 alP = 2 := by decide +kernel
theorem alP_depth : coDepth 1 alP = 2 := by decide +kernel
theorem alB_size : coSize 2 alB = 4 := by decide +kernel
theorem alB_depth : coDepth 2 alB = 3 := by decide +kernel
theorem alB_E : coE 2 alB = 0 := by decide +kernel
theorem alB_W : wordsL pw 2 alB = [bytesW ann, bytesW bob] := by
  unfold wordsL
  rw [if_pos alB_E, ← foldW_uniq]
  decide +kernel
theorem alP_sm : CSm 1 alP := csm_of 1 alP (by decide +kernel) (by decide +kernel)
theorem alB_sm : CSm 2 alB := csm_of 2 alB (by decide +kernel) (by decide +kernel)
end Z
def al_rows : List (CR 0) := [⟨Z.payN Z.ann Z.bob Z.usd, .slice none 0 0, .slice none 0 0, .slice none 0 0⟩, ⟨Z.zeroN, .slice none 0 0, .slice none 0 0, .slice none 0 0⟩]
theorem al_sub {w : World} {B : Nat} {v : Value} (h : OL 12 (CR.vs (m := 0)) 29 w B v al_rows) : CS w 1 v Z.alB.sub := by
  refine ⟨al_rows, OL.sl CR.vs_len h, rfl, fun i r x hr hx => ?_⟩
  match i, hr, hx with
  | 0, hr, hx =>
    cases hr; cases hx
    exact CV.pay w _ _ _
  | 1, hr, hx =>
    cases hr; cases hx
    exact CV.zero w
  | i + 2, hr, _ => cases hr
/-- The both-contract of the example. -/
theorem al_both {w : World} {s : Value} (h : CS w 1 s Z.alB.sub) : CV w 2 Z.alB ⟨⟨3, Z.e0, Z.e0, Z.e0, Z.noX, 0, []⟩, .slice none 0 0, .slice none 0 0, s⟩ :=
  ⟨rfl, ⟨by show (0 : Int) ≤ 3; decide, by show (3 : Int) ≤ 255; decide⟩, XV.leaf (t := ⟨0, Z.e0, Z.e0, 0⟩) (by show (0 : Int) ≤ 0; decide) (by show (0 : Int) ≤ 255; decide), SL.nil_, h⟩
set_option maxRecDepth 100000 in
set_option maxHeartbeats 4000000 in
theorem lalive_any (w : World) (hL : Lay w) (hV : HasV w) : Calls Tryd.prog 9 #[] w fun e w' => e = .returned (.bool true) ∧ Below w.heap.size w w' := by
  have HPAY := Lib.hid (lpay_any ⟨#[65, 110, 110]⟩ ⟨#[66, 111, 98]⟩ ⟨#[85, 83, 68]⟩ w)
  have HLAY := Lib.hid hL
  have HHV := Lib.hid hV
  clear hL hV
  go_enter Tryd.func9, Tryd.ntmps9
  go_wp2_with fail
  refine HPAY.out.mono ?_
  rintro e W1 ⟨rfl, hb1⟩
  clear HPAY
  go_upto_region 2 with fail
  have BP := Blk.new W1 29 #[.int .u8 2, .string ⟨#[65, 110, 110]⟩, .string ⟨#[66, 111, 98]⟩, .string ⟨#[85, 83, 68]⟩, .int .u8 1, .string Z.z1, .string Z.e0, .int .i64 0, .slice none 0 0, .int .i64 0, .slice none 0 0, .slice none 0 0]
  have hb2 := hb1.alloc hb1.size (.cells #[.int .u8 2, .string ⟨#[65, 110, 110]⟩, .string ⟨#[66, 111, 98]⟩, .string ⟨#[85, 83, 68]⟩, .int .u8 1, .string Z.z1, .string Z.e0, .int .i64 0, .slice none 0 0, .int .i64 0, .slice none 0 0, .slice none 0 0] 29)
  have hle1 := hb1.size
  generalize W1.heap.size = bp at *
  generalize (W1.alloc (.cells #[.int .u8 2, .string ⟨#[65, 110, 110]⟩, .string ⟨#[66, 111, 98]⟩, .string ⟨#[85, 83, 68]⟩, .int .u8 1, .string Z.z1, .string Z.e0, .int .i64 0, .slice none 0 0, .int .i64 0, .slice none 0 0, .slice none 0 0] 29)) = W2 at *
  clear hb1
  have hdr := (Below.refl W2.heap.size W2).drew
  have BPd := BP.below hdr
  have hb2d := hb2.trans (hdr.mono hb2.size)
  go_cut [2] (fun bv wx => ∃ (bb : Nat) (A : Option Addr) (k c : Nat), bv = .pointer (some ⟨bb, 0, none⟩) ∧ Blk wx bb 29 #[.int .u8 3, .string ⟨#[]⟩, .string ⟨#[]⟩, .string ⟨#[]⟩, .int .u8 0, .string ⟨#[]⟩, .string ⟨#[]⟩, .int .i64 0, .slice none 0 0, .int .i64 0, .slice none 0 0, .slice A k c] ∧ Hid (CS wx 1 (.slice A k c) Z.alB.sub) ∧ Below W2.heap.size W2 wx)
  case first =>
    have kX := Below.refl W2.drew.heap.size W2.drew
    refine wp_region_fx 5 (fun w' => ∃ y : Ab W2.drew, w' = y.1) (by kernel_rfl) ?_
    show fxAny _ _ _ _ 5 _ 6 _ _ _
    have HX : Hid (∀ Y, Below W2.drew.heap.size W2.drew Y → Below W2.heap.size W2 Y) := Lib.hid (fun Y h => hdr.trans (h.mono hdr.size))
    generalize W2.drew = X at *
    have p0 : ∀ y : Ab X, y.1.cell? ⟨bp, 0, none⟩ = some (.int .u8 2) := fun y => (BPd.below y.2).cell 0
    have p1 : ∀ y : Ab X, y.1.cell? ⟨bp, 1, none⟩ = some (.string ⟨#[65, 110, 110]⟩) := fun y => (BPd.below y.2).cell 1
    have p2 : ∀ y : Ab X, y.1.cell? ⟨bp, 2, none⟩ = some (.string ⟨#[66, 111, 98]⟩) := fun y => (BPd.below y.2).cell 2
    have p3 : ∀ y : Ab X, y.1.cell? ⟨bp, 3, none⟩ = some (.string ⟨#[85, 83, 68]⟩) := fun y => (BPd.below y.2).cell 3
    have p4 : ∀ y : Ab X, y.1.cell? ⟨bp, 4, none⟩ = some (.int .u8 1) := fun y => (BPd.below y.2).cell 4
    have p5 : ∀ y : Ab X, y.1.cell? ⟨bp, 5, none⟩ = some (.string Z.z1) := fun y => (BPd.below y.2).cell 5
    have p6 : ∀ y : Ab X, y.1.cell? ⟨bp, 6, none⟩ = some (.string Z.e0) := fun y => (BPd.below y.2).cell 6
    have p7 : ∀ y : Ab X, y.1.cell? ⟨bp, 7, none⟩ = some (.int .i64 0) := fun y => (BPd.below y.2).cell 7
    have p8 : ∀ y : Ab X, y.1.cell? ⟨bp, 8, none⟩ = some (.slice none 0 0) := fun y => (BPd.below y.2).cell 8
    have p9 : ∀ y : Ab X, y.1.cell? ⟨bp, 9, none⟩ = some (.int .i64 0) := fun y => (BPd.below y.2).cell 9
    have p10 : ∀ y : Ab X, y.1.cell? ⟨bp, 10, none⟩ = some (.slice none 0 0) := fun y => (BPd.below y.2).cell 10
    have p11 : ∀ y : Ab X, y.1.cell? ⟨bp, 11, none⟩ = some (.slice none 0 0) := fun y => (BPd.below y.2).cell 11
    refine fx_reads (n := 5) [0] rfl (by kernel_rfl) ⟨⟨X, kX⟩, rfl⟩ ?_
    simp only [opsAt, List.filterMap_cons, List.filterMap_nil, List.getElem?_toArray, List.getElem?_cons_zero]
    show wpQuiet _ _ _ _ [_] _
    repeat (go_big_quiet_step (fail))
    refine wpQuiet_nil ?_
    clear p0 p1 p2 p3 p4 p5 p6 p7 p8 p9 p10 p11
    refine fx_two (k := 1) (l := 4) (by kernel_rfl) ?_ ?_
    rotate_left
    · skip
      simp only [opsAt, List.filterMap_cons, List.filterMap_nil, List.getElem?_toArray, List.getElem?_cons_succ, List.getElem?_cons_zero]
      refine fxp_value (u := .pointer (some ⟨X.heap.size, 0, none⟩)) (w' := (X.alloc (.cells #[.int .u8 0, .string ⟨#[]⟩, .string ⟨#[]⟩, .string ⟨#[]⟩, .int .u8 0, .string ⟨#[]⟩, .string ⟨#[]⟩, .int .i64 0, .slice none 0 0, .int .i64 0, .slice none 0 0, .slice none 0 0] 29))) rfl (by simp [go_sem]) ⟨⟨(X.alloc (.cells #[.int .u8 0, .string ⟨#[]⟩, .string ⟨#[]⟩, .string ⟨#[]⟩, .int .u8 0, .string ⟨#[]⟩, .string ⟨#[]⟩, .int .i64 0, .slice none 0 0, .int .i64 0, .slice none 0 0, .slice none 0 0] 29)), kX.alloc kX.size _⟩, rfl⟩ ?_
      have kZX := kX.alloc kX.size (.cells #[.int .u8 0, .string ⟨#[]⟩, .string ⟨#[]⟩, .string ⟨#[]⟩, .int .u8 0, .string ⟨#[]⟩, .string ⟨#[]⟩, .int .i64 0, .slice none 0 0, .int .i64 0, .slice none 0 0, .slice none 0 0] 29)
      refine fxp_nil ?_
      simp only [Act.put, List.setIfInBounds_toArray, List.set_cons_succ, List.set_cons_zero]
      have BZ := Blk.new X 29 #[.int .u8 0, .string ⟨#[]⟩, .string ⟨#[]⟩, .string ⟨#[]⟩, .int .u8 0, .string ⟨#[]⟩, .string ⟨#[]⟩, .int .i64 0, .slice none 0 0, .int .i64 0, .slice none 0 0, .slice none 0 0]
      have hgX : X.heap.size ≤ X.heap.size := kX.size
      generalize (X.alloc (.cells #[.int .u8 0, .string ⟨#[]⟩, .string ⟨#[]⟩, .string ⟨#[]⟩, .int .u8 0, .string ⟨#[]⟩, .string ⟨#[]⟩, .int .i64 0, .slice none 0 0, .int .i64 0, .slice none 0 0, .slice none 0 0] 29)) = ZX at *
      refine fx_one (k := 1) (by kernel_rfl) ?_
      simp only [opsAt, List.filterMap_cons, List.filterMap_nil, List.getElem?_toArray, List.getElem?_cons_succ, List.getElem?_cons_zero]
      refine fxp_enter (f := 36) (args := #[]) (w' := ZX) rfl (by simp [go_sem]) ?_
      refine (lzero_any ZX).mono ?_
      rintro e ZXe ⟨rfl, kb⟩
      have kZXe := kZX.trans (kb.mono kZX.size)
      refine ⟨_, rfl, ⟨⟨ZXe, kZXe⟩, rfl⟩, ?_⟩
      refine fxp_nil ?_
      simp only [Act.put, List.setIfInBounds_toArray, List.set_cons_succ, List.set_cons_zero]
      have BZ := BZ.below kb
      clear kb
      refine fx_one (k := 2) (by kernel_rfl) ?_
      simp only [opsAt, List.filterMap_cons, List.filterMap_nil, List.getElem?_toArray, List.getElem?_cons_succ, List.getElem?_cons_zero]
      refine fxp_value (u := .slice (some ⟨ZXe.heap.size, 0, none⟩) 2 2) (w' := (ZXe.alloc (.cells #[.int .u8 2, .string ⟨#[65, 110, 110]⟩, .string ⟨#[66, 111, 98]⟩, .string ⟨#[85, 83, 68]⟩, .int .u8 1, .string Z.z1, .string Z.e0, .int .i64 0, .slice none 0 0, .int .i64 0, .slice none 0 0, .slice none 0 0, .int .u8 1, .string Z.e0, .string Z.e0, .string Z.e0, .int .u8 0, .string Z.e0, .string Z.e0, .int .i64 0, .slice none 0 0, .int .i64 0, .slice none 0 0, .slice none 0 0] 29))) rfl (by simp [go_sem]) ⟨⟨(ZXe.alloc (.cells #[.int .u8 2, .string ⟨#[65, 110, 110]⟩, .string ⟨#[66, 111, 98]⟩, .string ⟨#[85, 83, 68]⟩, .int .u8 1, .string Z.z1, .string Z.e0, .int .i64 0, .slice none 0 0, .int .i64 0, .slice none 0 0, .slice none 0 0, .int .u8 1, .string Z.e0, .string Z.e0, .string Z.e0, .int .u8 0, .string Z.e0, .string Z.e0, .int .i64 0, .slice none 0 0, .int .i64 0, .slice none 0 0, .slice none 0 0] 29)), kZXe.alloc kZXe.size _⟩, rfl⟩ ?_
      have kRZXe := kZXe.alloc kZXe.size (.cells #[.int .u8 2, .string ⟨#[65, 110, 110]⟩, .string ⟨#[66, 111, 98]⟩, .string ⟨#[85, 83, 68]⟩, .int .u8 1, .string Z.z1, .string Z.e0, .int .i64 0, .slice none 0 0, .int .i64 0, .slice none 0 0, .slice none 0 0, .int .u8 1, .string Z.e0, .string Z.e0, .string Z.e0, .int .u8 0, .string Z.e0, .string Z.e0, .int .i64 0, .slice none 0 0, .int .i64 0, .slice none 0 0, .slice none 0 0] 29)
      refine fxp_nil ?_
      simp only [Act.put, List.setIfInBounds_toArray, List.set_cons_succ, List.set_cons_zero]
      have BR : OL 12 (CR.vs (m := 0)) 29 (ZXe.alloc (.cells #[.int .u8 2, .string ⟨#[65, 110, 110]⟩, .string ⟨#[66, 111, 98]⟩, .string ⟨#[85, 83, 68]⟩, .int .u8 1, .string Z.z1, .string Z.e0, .int .i64 0, .slice none 0 0, .int .i64 0, .slice none 0 0, .slice none 0 0, .int .u8 1, .string Z.e0, .string Z.e0, .string Z.e0, .int .u8 0, .string Z.e0, .string Z.e0, .int .i64 0, .slice none 0 0, .int .i64 0, .slice none 0 0, .slice none 0 0] 29)) X.heap.size (.slice (some ⟨ZXe.heap.size, 0, none⟩) 2 2) al_rows := OL.mono (OL.lit CR.vs_len ZXe al_rows 2 #[.int .u8 2, .string ⟨#[65, 110, 110]⟩, .string ⟨#[66, 111, 98]⟩, .string ⟨#[85, 83, 68]⟩, .int .u8 1, .string Z.z1, .string Z.e0, .int .i64 0, .slice none 0 0, .int .i64 0, .slice none 0 0, .slice none 0 0, .int .u8 1, .string Z.e0, .string Z.e0, .string Z.e0, .int .u8 0, .string Z.e0, .string Z.e0, .int .i64 0, .slice none 0 0, .int .i64 0, .slice none 0 0, .slice none 0 0] rfl rfl (by decide)) kZXe.size
      have hne : ZXe.heap.size ≠ X.heap.size := Nat.ne_of_gt BZ.lt
      have BZ := BZ.alloc (.cells #[.int .u8 2, .string ⟨#[65, 110, 110]⟩, .string ⟨#[66, 111, 98]⟩, .string ⟨#[85, 83, 68]⟩, .int .u8 1, .string Z.z1, .string Z.e0, .int .i64 0, .slice none 0 0, .int .i64 0, .slice none 0 0, .slice none 0 0, .int .u8 1, .string Z.e0, .string Z.e0, .string Z.e0, .int .u8 0, .string Z.e0, .string Z.e0, .int .i64 0, .slice none 0 0, .int .i64 0, .slice none 0 0, .slice none 0 0] 29)
      generalize (ZXe.alloc (.cells #[.int .u8 2, .string ⟨#[65, 110, 110]⟩, .string ⟨#[66, 111, 98]⟩, .string ⟨#[85, 83, 68]⟩, .int .u8 1, .string Z.z1, .string Z.e0, .int .i64 0, .slice none 0 0, .int .i64 0, .slice none 0 0, .slice none 0 0, .int .u8 1, .string Z.e0, .string Z.e0, .string Z.e0, .int .u8 0, .string Z.e0, .string Z.e0, .int .i64 0, .slice none 0 0, .int .i64 0, .slice none 0 0, .slice none 0 0] 29)) = RZXe at *
      refine fx_reads (n := 1) [3] rfl (by kernel_rfl) ⟨⟨RZXe, kRZXe⟩, rfl⟩ ?_
      simp only [opsAt, List.filterMap_cons, List.filterMap_nil, List.getElem?_toArray, List.getElem?_cons_succ, List.getElem?_cons_zero]
      show wpQuiet _ _ _ _ [_] _
      repeat (go_big_quiet_step (fail))
      refine wpQuiet_nil ?_
      have z0 := BZ.cell 0
      have y0 := BZ.frozen 0
      have z1 := BZ.cell 1
      have y1 := BZ.frozen 1
      have z2 := BZ.cell 2
      have y2 := BZ.frozen 2
      have z3 := BZ.cell 3
      have y3 := BZ.frozen 3
      have z4 := BZ.cell 4
      have y4 := BZ.frozen 4
      have z5 := BZ.cell 5
      have y5 := BZ.frozen 5
      have z6 := BZ.cell 6
      have y6 := BZ.frozen 6
      have z7 := BZ.cell 7
      have y7 := BZ.frozen 7
      have z8 := BZ.cell 8
      have y8 := BZ.frozen 8
      have z9 := BZ.cell 9
      have y9 := BZ.frozen 9
      have z10 := BZ.cell 10
      have y10 := BZ.frozen 10
      have z11 := BZ.cell 11
      have y11 := BZ.frozen 11
      refine fx_late (k := 5) (by decide) (by kernel_rfl) ?_
      simp only [opsAt, List.filterMap_cons, List.filterMap_nil, List.getElem?_toArray, List.getElem?_cons_succ, List.getElem?_cons_zero]
      refine fxl_skip (w' := ((((((((((((RZXe.setCell ⟨X.heap.size, 0, none⟩ (.int .u8 3)).setCell ⟨X.heap.size, 1, none⟩ (.string ⟨#[]⟩)).setCell ⟨X.heap.size, 2, none⟩ (.string ⟨#[]⟩)).setCell ⟨X.heap.size, 3, none⟩ (.string ⟨#[]⟩)).setCell ⟨X.heap.size, 4, none⟩ (.int .u8 0)).setCell ⟨X.heap.size, 5, none⟩ (.string ⟨#[]⟩)).setCell ⟨X.heap.size, 6, none⟩ (.string ⟨#[]⟩)).setCell ⟨X.heap.size, 7, none⟩ (.int .i64 0)).setCell ⟨X.heap.size, 8, none⟩ (.slice none 0 0)).setCell ⟨X.heap.size, 9, none⟩ (.int .i64 0)).setCell ⟨X.heap.size, 10, none⟩ (.slice none 0 0)).setCell ⟨X.heap.size, 11, none⟩ (.slice (some ⟨ZXe.heap.size, 0, none⟩) 2 2))) rfl (by simp [go_sem, z0, y0, z1, y1, z2, y2, z3, y3, z4, y4, z5, y5, z6, y6, z7, y7, z8, y8, z9, y9, z10, y10, z11, y11]) ?_
      refine fxl_nil ?_
      simp only [Act.put]
      refine fx_end (by kernel_rfl) ?_
      have BF := BZ.store12 (.int .u8 3) (.string ⟨#[]⟩) (.string ⟨#[]⟩) (.string ⟨#[]⟩) (.int .u8 0) (.string ⟨#[]⟩) (.string ⟨#[]⟩) (.int .i64 0) (.slice none 0 0) (.int .i64 0) (.slice none 0 0) (.slice (some ⟨ZXe.heap.size, 0, none⟩) 2 2)
      have hbF := Below.store12 kRZXe hgX (.int .u8 3) (.string ⟨#[]⟩) (.string ⟨#[]⟩) (.string ⟨#[]⟩) (.int .u8 0) (.string ⟨#[]⟩) (.string ⟨#[]⟩) (.int .i64 0) (.slice none 0 0) (.int .i64 0) (.slice none 0 0) (.slice (some ⟨ZXe.heap.size, 0, none⟩) 2 2)
      have BRF := Lib.hid (al_sub (OL.kept BR (grown_store12 RZXe (X.heap.size) (.int .u8 3) (.string ⟨#[]⟩) (.string ⟨#[]⟩) (.string ⟨#[]⟩) (.int .u8 0) (.string ⟨#[]⟩) (.string ⟨#[]⟩) (.int .i64 0) (.slice none 0 0) (.int .i64 0) (.slice none 0 0) (.slice (some ⟨ZXe.heap.size, 0, none⟩) 2 2)) (.inr (fun e => hne (by injection e)))))
      clear z0 y0 z1 y1 z2 y2 z3 y3 z4 y4 z5 y5 z6 y6 z7 y7 z8 y8 z9 y9 z10 y10 z11 y11
      go_step
      go_step
      go_meet
      exact ⟨_, _, _, _, rfl, BF, BRF, HX.out _ hbF⟩
    simp only [opsAt, List.filterMap_cons, List.filterMap_nil, List.getElem?_toArray, List.getElem?_cons_succ, List.getElem?_cons_zero]
    refine fxp_enter (f := 36) (args := #[]) (w' := X) rfl (by simp [go_sem]) ?_
    refine (lzero_any X).mono ?_
    rintro e Xe ⟨rfl, kb⟩
    have kXe := kX.trans (kb.mono kX.size)
    refine ⟨_, rfl, ⟨⟨Xe, kXe⟩, rfl⟩, ?_⟩
    refine fxp_nil ?_
    simp only [Act.put, List.setIfInBounds_toArray, List.set_cons_succ, List.set_cons_zero]
    clear kb
    refine fx_two (k := 2) (l := 4) (by kernel_rfl) ?_ ?_
    rotate_left
    · skip
      simp only [opsAt, List.filterMap_cons, List.filterMap_nil, List.getElem?_toArray, List.getElem?_cons_succ, List.getElem?_cons_zero]
      refine fxp_value (u := .pointer (some ⟨Xe.heap.size, 0, none⟩)) (w' := (Xe.alloc (.cells #[.int .u8 0, .string ⟨#[]⟩, .string ⟨#[]⟩, .string ⟨#[]⟩, .int .u8 0, .string ⟨#[]⟩, .string ⟨#[]⟩, .int .i64 0, .slice none 0 0, .int .i64 0, .slice none 0 0, .slice none 0 0] 29))) rfl (by simp [go_sem]) ⟨⟨(Xe.alloc (.cells #[.int .u8 0, .string ⟨#[]⟩, .string ⟨#[]⟩, .string ⟨#[]⟩, .int .u8 0, .string ⟨#[]⟩, .string ⟨#[]⟩, .int .i64 0, .slice none 0 0, .int .i64 0, .slice none 0 0, .slice none 0 0] 29)), kXe.alloc kXe.size _⟩, rfl⟩ ?_
      have kZXe := kXe.alloc kXe.size (.cells #[.int .u8 0, .string ⟨#[]⟩, .string ⟨#[]⟩, .string ⟨#[]⟩, .int .u8 0, .string ⟨#[]⟩, .string ⟨#[]⟩, .int .i64 0, .slice none 0 0, .int .i64 0, .slice none 0 0, .slice none 0 0] 29)
      refine fxp_nil ?_
      simp only [Act.put, List.setIfInBounds_toArray, List.set_cons_succ, List.set_cons_zero]
      have BZ := Blk.new Xe 29 #[.int .u8 0, .string ⟨#[]⟩, .string ⟨#[]⟩, .string ⟨#[]⟩, .int .u8 0, .string ⟨#[]⟩, .string ⟨#[]⟩, .int .i64 0, .slice none 0 0, .int .i64 0, .slice none 0 0, .slice none 0 0]
      have hgX : X.heap.size ≤ Xe.heap.size := kXe.size
      generalize (Xe.alloc (.cells #[.int .u8 0, .string ⟨#[]⟩, .string ⟨#[]⟩, .string ⟨#[]⟩, .int .u8 0, .string ⟨#[]⟩, .string ⟨#[]⟩, .int .i64 0, .slice none 0 0, .int .i64 0, .slice none 0 0, .slice none 0 0] 29)) = ZXe at *
      refine fx_one (k := 2) (by kernel_rfl) ?_
      simp only [opsAt, List.filterMap_cons, List.filterMap_nil, List.getElem?_toArray, List.getElem?_cons_succ, List.getElem?_cons_zero]
      refine fxp_value (u := .slice (some ⟨ZXe.heap.size, 0, none⟩) 2 2) (w' := (ZXe.alloc (.cells #[.int .u8 2, .string ⟨#[65, 110, 110]⟩, .string ⟨#[66, 111, 98]⟩, .string ⟨#[85, 83, 68]⟩, .int .u8 1, .string Z.z1, .string Z.e0, .int .i64 0, .slice none 0 0, .int .i64 0, .slice none 0 0, .slice none 0 0, .int .u8 1, .string Z.e0, .string Z.e0, .string Z.e0, .int .u8 0, .string Z.e0, .string Z.e0, .int .i64 0, .slice none 0 0, .int .i64 0, .slice none 0 0, .slice none 0 0] 29))) rfl (by simp [go_sem]) ⟨⟨(ZXe.alloc (.cells #[.int .u8 2, .string ⟨#[65, 110, 110]⟩, .string ⟨#[66, 111, 98]⟩, .string ⟨#[85, 83, 68]⟩, .int .u8 1, .string Z.z1, .string Z.e0, .int .i64 0, .slice none 0 0, .int .i64 0, .slice none 0 0, .slice none 0 0, .int .u8 1, .string Z.e0, .string Z.e0, .string Z.e0, .int .u8 0, .string Z.e0, .string Z.e0, .int .i64 0, .slice none 0 0, .int .i64 0, .slice none 0 0, .slice none 0 0] 29)), kZXe.alloc kZXe.size _⟩, rfl⟩ ?_
      have kRZXe := kZXe.alloc kZXe.size (.cells #[.int .u8 2, .string ⟨#[65, 110, 110]⟩, .string ⟨#[66, 111, 98]⟩, .string ⟨#[85, 83, 68]⟩, .int .u8 1, .string Z.z1, .string Z.e0, .int .i64 0, .slice none 0 0, .int .i64 0, .slice none 0 0, .slice none 0 0, .int .u8 1, .string Z.e0, .string Z.e0, .string Z.e0, .int .u8 0, .string Z.e0, .string Z.e0, .int .i64 0, .slice none 0 0, .int .i64 0, .slice none 0 0, .slice none 0 0] 29)
      refine fxp_nil ?_
      simp only [Act.put, List.setIfInBounds_toArray, List.set_cons_succ, List.set_cons_zero]
      have BR : OL 12 (CR.vs (m := 0)) 29 (ZXe.alloc (.cells #[.int .u8 2, .string ⟨#[65, 110, 110]⟩, .string ⟨#[66, 111, 98]⟩, .string ⟨#[85, 83, 68]⟩, .int .u8 1, .string Z.z1, .string Z.e0, .int .i64 0, .slice none 0 0, .int .i64 0, .slice none 0 0, .slice none 0 0, .int .u8 1, .string Z.e0, .string Z.e0, .string Z.e0, .int .u8 0, .string Z.e0, .string Z.e0, .int .i64 0, .slice none 0 0, .int .i64 0, .slice none 0 0, .slice none 0 0] 29)) X.heap.size (.slice (some ⟨ZXe.heap.size, 0, none⟩) 2 2) al_rows := OL.mono (OL.lit CR.vs_len ZXe al_rows 2 #[.int .u8 2, .string ⟨#[65, 110, 110]⟩, .string ⟨#[66, 111, 98]⟩, .string ⟨#[85, 83, 68]⟩, .int .u8 1, .string Z.z1, .string Z.e0, .int .i64 0, .slice none 0 0, .int .i64 0, .slice none 0 0, .slice none 0 0, .int .u8 1, .string Z.e0, .string Z.e0, .string Z.e0, .int .u8 0, .string Z.e0, .string Z.e0, .int .i64 0, .slice none 0 0, .int .i64 0, .slice none 0 0, .slice none 0 0] rfl rfl (by decide)) kZXe.size
      have hne : ZXe.heap.size ≠ Xe.heap.size := Nat.ne_of_gt BZ.lt
      have BZ := BZ.alloc (.cells #[.int .u8 2, .string ⟨#[65, 110, 110]⟩, .string ⟨#[66, 111, 98]⟩, .string ⟨#[85, 83, 68]⟩, .int .u8 1, .string Z.z1, .string Z.e0, .int .i64 0, .slice none 0 0, .int .i64 0, .slice none 0 0, .slice none 0 0, .int .u8 1, .string Z.e0, .string Z.e0, .string Z.e0, .int .u8 0, .string Z.e0, .string Z.e0, .int .i64 0, .slice none 0 0, .int .i64 0, .slice none 0 0, .slice none 0 0] 29)
      generalize (ZXe.alloc (.cells #[.int .u8 2, .string ⟨#[65, 110, 110]⟩, .string ⟨#[66, 111, 98]⟩, .string ⟨#[85, 83, 68]⟩, .int .u8 1, .string Z.z1, .string Z.e0, .int .i64 0, .slice none 0 0, .int .i64 0, .slice none 0 0, .slice none 0 0, .int .u8 1, .string Z.e0, .string Z.e0, .string Z.e0, .int .u8 0, .string Z.e0, .string Z.e0, .int .i64 0, .slice none 0 0, .int .i64 0, .slice none 0 0, .slice none 0 0] 29)) = RZXe at *
      refine fx_reads (n := 1) [3] rfl (by kernel_rfl) ⟨⟨RZXe, kRZXe⟩, rfl⟩ ?_
      simp only [opsAt, List.filterMap_cons, List.filterMap_nil, List.getElem?_toArray, List.getElem?_cons_succ, List.getElem?_cons_zero]
      show wpQuiet _ _ _ _ [_] _
      repeat (go_big_quiet_step (fail))
      refine wpQuiet_nil ?_
      have z0 := BZ.cell 0
      have y0 := BZ.frozen 0
      have z1 := BZ.cell 1
      have y1 := BZ.frozen 1
      have z2 := BZ.cell 2
      have y2 := BZ.frozen 2
      have z3 := BZ.cell 3
      have y3 := BZ.frozen 3
      have z4 := BZ.cell 4
      have y4 := BZ.frozen 4
      have z5 := BZ.cell 5
      have y5 := BZ.frozen 5
      have z6 := BZ.cell 6
      have y6 := BZ.frozen 6
      have z7 := BZ.cell 7
      have y7 := BZ.frozen 7
      have z8 := BZ.cell 8
      have y8 := BZ.frozen 8
      have z9 := BZ.cell 9
      have y9 := BZ.frozen 9
      have z10 := BZ.cell 10
      have y10 := BZ.frozen 10
      have z11 := BZ.cell 11
      have y11 := BZ.frozen 11
      refine fx_late (k := 5) (by decide) (by kernel_rfl) ?_
      simp only [opsAt, List.filterMap_cons, List.filterMap_nil, List.getElem?_toArray, List.getElem?_cons_succ, List.getElem?_cons_zero]
      refine fxl_skip (w' := ((((((((((((RZXe.setCell ⟨Xe.heap.size, 0, none⟩ (.int .u8 3)).setCell ⟨Xe.heap.size, 1, none⟩ (.string ⟨#[]⟩)).setCell ⟨Xe.heap.size, 2, none⟩ (.string ⟨#[]⟩)).setCell ⟨Xe.heap.size, 3, none⟩ (.string ⟨#[]⟩)).setCell ⟨Xe.heap.size, 4, none⟩ (.int .u8 0)).setCell ⟨Xe.heap.size, 5, none⟩ (.string ⟨#[]⟩)).setCell ⟨Xe.heap.size, 6, none⟩ (.string ⟨#[]⟩)).setCell ⟨Xe.heap.size, 7, none⟩ (.int .i64 0)).setCell ⟨Xe.heap.size, 8, none⟩ (.slice none 0 0)).setCell ⟨Xe.heap.size, 9, none⟩ (.int .i64 0)).setCell ⟨Xe.heap.size, 10, none⟩ (.slice none 0 0)).setCell ⟨Xe.heap.size, 11, none⟩ (.slice (some ⟨ZXe.heap.size, 0, none⟩) 2 2))) rfl (by simp [go_sem, z0, y0, z1, y1, z2, y2, z3, y3, z4, y4, z5, y5, z6, y6, z7, y7, z8, y8, z9, y9, z10, y10, z11, y11]) ?_
      refine fxl_nil ?_
      simp only [Act.put]
      refine fx_end (by kernel_rfl) ?_
      have BF := BZ.store12 (.int .u8 3) (.string ⟨#[]⟩) (.string ⟨#[]⟩) (.string ⟨#[]⟩) (.int .u8 0) (.string ⟨#[]⟩) (.string ⟨#[]⟩) (.int .i64 0) (.slice none 0 0) (.int .i64 0) (.slice none 0 0) (.slice (some ⟨ZXe.heap.size, 0, none⟩) 2 2)
      have hbF := Below.store12 kRZXe hgX (.int .u8 3) (.string ⟨#[]⟩) (.string ⟨#[]⟩) (.string ⟨#[]⟩) (.int .u8 0) (.string ⟨#[]⟩) (.string ⟨#[]⟩) (.int .i64 0) (.slice none 0 0) (.int .i64 0) (.slice none 0 0) (.slice (some ⟨ZXe.heap.size, 0, none⟩) 2 2)
      have BRF := Lib.hid (al_sub (OL.kept BR (grown_store12 RZXe (Xe.heap.size) (.int .u8 3) (.string ⟨#[]⟩) (.string ⟨#[]⟩) (.string ⟨#[]⟩) (.int .u8 0) (.string ⟨#[]⟩) (.string ⟨#[]⟩) (.int .i64 0) (.slice none 0 0) (.int .i64 0) (.slice none 0 0) (.slice (some ⟨ZXe.heap.size, 0, none⟩) 2 2)) (.inr (fun e => hne (by injection e)))))
      clear z0 y0 z1 y1 z2 y2 z3 y3 z4 y4 z5 y5 z6 y6 z7 y7 z8 y8 z9 y9 z10 y10 z11 y11
      go_step
      go_step
      go_meet
      exact ⟨_, _, _, _, rfl, BF, BRF, HX.out _ hbF⟩
    simp only [opsAt, List.filterMap_cons, List.filterMap_nil, List.getElem?_toArray, List.getElem?_cons_succ, List.getElem?_cons_zero]
    refine fxp_value (u := .slice (some ⟨Xe.heap.size, 0, none⟩) 2 2) (w' := (Xe.alloc (.cells #[.int .u8 2, .string ⟨#[65, 110, 110]⟩, .string ⟨#[66, 111, 98]⟩, .string ⟨#[85, 83, 68]⟩, .int .u8 1, .string Z.z1, .string Z.e0, .int .i64 0, .slice none 0 0, .int .i64 0, .slice none 0 0, .slice none 0 0, .int .u8 1, .string Z.e0, .string Z.e0, .string Z.e0, .int .u8 0, .string Z.e0, .string Z.e0, .int .i64 0, .slice none 0 0, .int .i64 0, .slice none 0 0, .slice none 0 0] 29))) rfl (by simp [go_sem]) ⟨⟨(Xe.alloc (.cells #[.int .u8 2, .string ⟨#[65, 110, 110]⟩, .string ⟨#[66, 111, 98]⟩, .string ⟨#[85, 83, 68]⟩, .int .u8 1, .string Z.z1, .string Z.e0, .int .i64 0, .slice none 0 0, .int .i64 0, .slice none 0 0, .slice none 0 0, .int .u8 1, .string Z.e0, .string Z.e0, .string Z.e0, .int .u8 0, .string Z.e0, .string Z.e0, .int .i64 0, .slice none 0 0, .int .i64 0, .slice none 0 0, .slice none 0 0] 29)), kXe.alloc kXe.size _⟩, rfl⟩ ?_
    have kRXe := kXe.alloc kXe.size (.cells #[.int .u8 2, .string ⟨#[65, 110, 110]⟩, .string ⟨#[66, 111, 98]⟩, .string ⟨#[85, 83, 68]⟩, .int .u8 1, .string Z.z1, .string Z.e0, .int .i64 0, .slice none 0 0, .int .i64 0, .slice none 0 0, .slice none 0 0, .int .u8 1, .string Z.e0, .string Z.e0, .string Z.e0, .int .u8 0, .string Z.e0, .string Z.e0, .int .i64 0, .slice none 0 0, .int .i64 0, .slice none 0 0, .slice none 0 0] 29)
    refine fxp_nil ?_
    simp only [Act.put, List.setIfInBounds_toArray, List.set_cons_succ, List.set_cons_zero]
    have BR : OL 12 (CR.vs (m := 0)) 29 (Xe.alloc (.cells #[.int .u8 2, .string ⟨#[65, 110, 110]⟩, .string ⟨#[66, 111, 98]⟩, .string ⟨#[85, 83, 68]⟩, .int .u8 1, .string Z.z1, .string Z.e0, .int .i64 0, .slice none 0 0, .int .i64 0, .slice none 0 0, .slice none 0 0, .int .u8 1, .string Z.e0, .string Z.e0, .string Z.e0, .int .u8 0, .string Z.e0, .string Z.e0, .int .i64 0, .slice none 0 0, .int .i64 0, .slice none 0 0, .slice none 0 0] 29)) X.heap.size (.slice (some ⟨Xe.heap.size, 0, none⟩) 2 2) al_rows := OL.mono (OL.lit CR.vs_len Xe al_rows 2 #[.int .u8 2, .string ⟨#[65, 110, 110]⟩, .string ⟨#[66, 111, 98]⟩, .string ⟨#[85, 83, 68]⟩, .int .u8 1, .string Z.z1, .string Z.e0, .int .i64 0, .slice none 0 0, .int .i64 0, .slice none 0 0, .slice none 0 0, .int .u8 1, .string Z.e0, .string Z.e0, .string Z.e0, .int .u8 0, .string Z.e0, .string Z.e0, .int .i64 0, .slice none 0 0, .int .i64 0, .slice none 0 0, .slice none 0 0] rfl rfl (by decide)) kXe.size
    generalize (Xe.alloc (.cells #[.int .u8 2, .string ⟨#[65, 110, 110]⟩, .string ⟨#[66, 111, 98]⟩, .string ⟨#[85, 83, 68]⟩, .int .u8 1, .string Z.z1, .string Z.e0, .int .i64 0, .slice none 0 0, .int .i64 0, .slice none 0 0, .slice none 0 0, .int .u8 1, .string Z.e0, .string Z.e0, .string Z.e0, .int .u8 0, .string Z.e0, .string Z.e0, .int .i64 0, .slice none 0 0, .int .i64 0, .slice none 0 0, .slice none 0 0] 29)) = RXe at *
    refine fx_reads (n := 2) [3] rfl (by kernel_rfl) ⟨⟨RXe, kRXe⟩, rfl⟩ ?_
    simp only [opsAt, List.filterMap_cons, List.filterMap_nil, List.getElem?_toArray, List.getElem?_cons_succ, List.getElem?_cons_zero]
    show wpQuiet _ _ _ _ [_] _
    repeat (go_big_quiet_step (fail))
    refine wpQuiet_nil ?_
    refine fx_one (k := 4) (by kernel_rfl) ?_
    simp only [opsAt, List.filterMap_cons, List.filterMap_nil, List.getElem?_toArray, List.getElem?_cons_succ, List.getElem?_cons_zero]
    refine fxp_value (u := .pointer (some ⟨RXe.heap.size, 0, none⟩)) (w' := (RXe.alloc (.cells #[.int .u8 0, .string ⟨#[]⟩, .string ⟨#[]⟩, .string ⟨#[]⟩, .int .u8 0, .string ⟨#[]⟩, .string ⟨#[]⟩, .int .i64 0, .slice none 0 0, .int .i64 0, .slice none 0 0, .slice none 0 0] 29))) rfl (by simp [go_sem]) ⟨⟨(RXe.alloc (.cells #[.int .u8 0, .string ⟨#[]⟩, .string ⟨#[]⟩, .string ⟨#[]⟩, .int .u8 0, .string ⟨#[]⟩, .string ⟨#[]⟩, .int .i64 0, .slice none 0 0, .int .i64 0, .slice none 0 0, .slice none 0 0] 29)), kRXe.alloc kRXe.size _⟩, rfl⟩ ?_
    have kZRXe := kRXe.alloc kRXe.size (.cells #[.int .u8 0, .string ⟨#[]⟩, .string ⟨#[]⟩, .string ⟨#[]⟩, .int .u8 0, .string ⟨#[]⟩, .string ⟨#[]⟩, .int .i64 0, .slice none 0 0, .int .i64 0, .slice none 0 0, .slice none 0 0] 29)
    refine fxp_nil ?_
    simp only [Act.put, List.setIfInBounds_toArray, List.set_cons_succ, List.set_cons_zero]
    have BZ := Blk.new RXe 29 #[.int .u8 0, .string ⟨#[]⟩, .string ⟨#[]⟩, .string ⟨#[]⟩, .int .u8 0, .string ⟨#[]⟩, .string ⟨#[]⟩, .int .i64 0, .slice none 0 0, .int .i64 0, .slice none 0 0, .slice none 0 0]
    have hne : Xe.heap.size ≠ RXe.heap.size := Nat.ne_of_lt (OL.lt_ BR _ rfl).2
    have BR := OL.alloc BR (.cells #[.int .u8 0, .string ⟨#[]⟩, .string ⟨#[]⟩, .string ⟨#[]⟩, .int .u8 0, .string ⟨#[]⟩, .string ⟨#[]⟩, .int .i64 0, .slice none 0 0, .int .i64 0, .slice none 0 0, .slice none 0 0] 29)
    have hgX : X.heap.size ≤ RXe.heap.size := kRXe.size
    generalize (RXe.alloc (.cells #[.int .u8 0, .string ⟨#[]⟩, .string ⟨#[]⟩, .string ⟨#[]⟩, .int .u8 0, .string ⟨#[]⟩, .string ⟨#[]⟩, .int .i64 0, .slice none 0 0, .int .i64 0, .slice none 0 0, .slice none 0 0] 29)) = ZRXe at *
    have z0 := BZ.cell 0
    have y0 := BZ.frozen 0
    have z1 := BZ.cell 1
    have y1 := BZ.frozen 1
    have z2 := BZ.cell 2
    have y2 := BZ.frozen 2
    have z3 := BZ.cell 3
    have y3 := BZ.frozen 3
    have z4 := BZ.cell 4
    have y4 := BZ.frozen 4
    have z5 := BZ.cell 5
    have y5 := BZ.frozen 5
    have z6 := BZ.cell 6
    have y6 := BZ.frozen 6
    have z7 := BZ.cell 7
    have y7 := BZ.frozen 7
    have z8 := BZ.cell 8
    have y8 := BZ.frozen 8
    have z9 := BZ.cell 9
    have y9 := BZ.frozen 9
    have z10 := BZ.cell 10
    have y10 := BZ.frozen 10
    have z11 := BZ.cell 11
    have y11 := BZ.frozen 11
    refine fx_late (k := 5) (by decide) (by kernel_rfl) ?_
    simp only [opsAt, List.filterMap_cons, List.filterMap_nil, List.getElem?_toArray, List.getElem?_cons_succ, List.getElem?_cons_zero]
    refine fxl_skip (w' := ((((((((((((ZRXe.setCell ⟨RXe.heap.size, 0, none⟩ (.int .u8 3)).setCell ⟨RXe.heap.size, 1, none⟩ (.string ⟨#[]⟩)).setCell ⟨RXe.heap.size, 2, none⟩ (.string ⟨#[]⟩)).setCell ⟨RXe.heap.size, 3, none⟩ (.string ⟨#[]⟩)).setCell ⟨RXe.heap.size, 4, none⟩ (.int .u8 0)).setCell ⟨RXe.heap.size, 5, none⟩ (.string ⟨#[]⟩)).setCell ⟨RXe.heap.size, 6, none⟩ (.string ⟨#[]⟩)).setCell ⟨RXe.heap.size, 7, none⟩ (.int .i64 0)).setCell ⟨RXe.heap.size, 8, none⟩ (.slice none 0 0)).setCell ⟨RXe.heap.size, 9, none⟩ (.int .i64 0)).setCell ⟨RXe.heap.size, 10, none⟩ (.slice none 0 0)).setCell ⟨RXe.heap.size, 11, none⟩ (.slice (some ⟨Xe.heap.size, 0, none⟩) 2 2))) rfl (by simp [go_sem, z0, y0, z1, y1, z2, y2, z3, y3, z4, y4, z5, y5, z6, y6, z7, y7, z8, y8, z9, y9, z10, y10, z11, y11]) ?_
    refine fxl_nil ?_
    simp only [Act.put]
    refine fx_end (by kernel_rfl) ?_
    have BF := BZ.store12 (.int .u8 3) (.string ⟨#[]⟩) (.string ⟨#[]⟩) (.string ⟨#[]⟩) (.int .u8 0) (.string ⟨#[]⟩) (.string ⟨#[]⟩) (.int .i64 0) (.slice none 0 0) (.int .i64 0) (.slice none 0 0) (.slice (some ⟨Xe.heap.size, 0, none⟩) 2 2)
    have hbF := Below.store12 kZRXe hgX (.int .u8 3) (.string ⟨#[]⟩) (.string ⟨#[]⟩) (.string ⟨#[]⟩) (.int .u8 0) (.string ⟨#[]⟩) (.string ⟨#[]⟩) (.int .i64 0) (.slice none 0 0) (.int .i64 0) (.slice none 0 0) (.slice (some ⟨Xe.heap.size, 0, none⟩) 2 2)
    have BRF := Lib.hid (al_sub (OL.kept BR (grown_store12 ZRXe (RXe.heap.size) (.int .u8 3) (.string ⟨#[]⟩) (.string ⟨#[]⟩) (.string ⟨#[]⟩) (.int .u8 0) (.string ⟨#[]⟩) (.string ⟨#[]⟩) (.int .i64 0) (.slice none 0 0) (.int .i64 0) (.slice none 0 0) (.slice (some ⟨Xe.heap.size, 0, none⟩) 2 2)) (.inr (fun e => hne (by injection e)))))
    clear z0 y0 z1 y1 z2 y2 z3 y3 z4 y4 z5 y5 z6 y6 z7 y7 z8 y8 z9 y9 z10 y10 z11 y11
    go_step
    go_step
    go_meet
    exact ⟨_, _, _, _, rfl, BF, BRF, HX.out _ hbF⟩
  case rest =>
  obtain ⟨bb, A, k, c, rfl, BB, HCS, hb3⟩ := hcut
  rename World => W3
  have BP3 := BP.below hb3
  have hk3 := hb2.trans (hb3.mono hb2.size)
  clear BP BPd hb2d hdr hb3 hb2 hle1
  have HCV := Lib.hid (al_both HCS.out)
  have HPT : Hid (∀ W, Below W3.heap.size W3 W → Calls Tryd.prog 17 #[.agg #[.int .u8 3, .string ⟨#[]⟩, .string ⟨#[]⟩, .string ⟨#[]⟩, .int .u8 0, .string ⟨#[]⟩, .string ⟨#[]⟩, .int .i64 0, .slice none 0 0, .int .i64 0, .slice none 0 0, .slice A k c]] W fun e w' => ∃ v, e = .returned (.tuple #[v, .int .i64 0]) ∧ OB w' W.heap.size v [Z.bytesW Z.ann, Z.bytesW Z.bob] ∧ Below W.heap.size W w') :=
    Lib.hid (fun W h => (cparties_any 1 Z.alB ⟨⟨3, Z.e0, Z.e0, Z.e0, Z.noX, 0, []⟩, .slice none 0 0, .slice none 0 0, .slice A k c⟩ W (CV.below h 2 HCV.out) (HLAY.out.below (hk3.trans (h.mono hk3.size))) (HHV.out.below (hk3.trans (h.mono hk3.size))) Z.alB_sm).mono (fun e w' ⟨v, he, h1, h2⟩ => ⟨v, by rw [he, Z.alB_E], by rw [← Z.alB_W]; exact h1, h2⟩))
  have HSP : Hid (∀ W : World, Calls Tryd.prog 20 #[.agg #[.int .u8 2, .string ⟨#[65, 110, 110]⟩, .string ⟨#[66, 111, 98]⟩, .string ⟨#[85, 83, 68]⟩, .int .u8 1, .string Z.z1, .string Z.e0, .int .i64 0, .slice none 0 0, .int .i64 0, .slice none 0 0, .slice none 0 0]] W fun e w' => e = .returned (.int .i64 2) ∧ Below W.heap.size W w') :=
    Lib.hid (fun W => (csize_any 0 Z.alP ⟨Z.payN Z.ann Z.bob Z.usd, .slice none 0 0, .slice none 0 0, .slice none 0 0⟩ W (CV.pay W _ _ _) Z.alP_sm).mono (fun e w' ⟨he, h2⟩ => ⟨by rw [he, Z.alP_size]; rfl, h2⟩))
  have HDP : Hid (∀ W : World, Calls Tryd.prog 21 #[.agg #[.int .u8 2, .string ⟨#[65, 110, 110]⟩, .string ⟨#[66, 111, 98]⟩, .string ⟨#[85, 83, 68]⟩, .int .u8 1, .string Z.z1, .string Z.e0, .int .i64 0, .slice none 0 0, .int .i64 0, .slice none 0 0, .slice none 0 0]] W fun e w' => e = .returned (.int .i64 2) ∧ Below W.heap.size W w') :=
    Lib.hid (fun W => (ccdepth_any 1 Z.alP (Z.payN Z.ann Z.bob Z.usd) _ _ _ W (CV.pay W _ _ _) Z.alP_sm).mono (fun e w' ⟨he, h2⟩ => ⟨by rw [he, Z.alP_depth]; rfl, h2⟩))
  have HSB : Hid (∀ W, Below W3.heap.size W3 W → Calls Tryd.prog 20 #[.agg #[.int .u8 3, .string ⟨#[]⟩, .string ⟨#[]⟩, .string ⟨#[]⟩, .int .u8 0, .string ⟨#[]⟩, .string ⟨#[]⟩, .int .i64 0, .slice none 0 0, .int .i64 0, .slice none 0 0, .slice A k c]] W fun e w' => e = .returned (.int .i64 4) ∧ Below W.heap.size W w') :=
    Lib.hid (fun W h => (csize_any 1 Z.alB ⟨⟨3, Z.e0, Z.e0, Z.e0, Z.noX, 0, []⟩, .slice none 0 0, .slice none 0 0, .slice A k c⟩ W (CV.below h 2 HCV.out) Z.alB_sm).mono (fun e w' ⟨he, h2⟩ => ⟨by rw [he, Z.alB_size]; rfl, h2⟩))
  have HDB : Hid (∀ W, Below W3.heap.size W3 W → Calls Tryd.prog 21 #[.agg #[.int .u8 3, .string ⟨#[]⟩, .string ⟨#[]⟩, .string ⟨#[]⟩, .int .u8 0, .string ⟨#[]⟩, .string ⟨#[]⟩, .int .i64 0, .slice none 0 0, .int .i64 0, .slice none 0 0, .slice A k c]] W fun e w' => e = .returned (.int .i64 3) ∧ Below W.heap.size W w') :=
    Lib.hid (fun W h => (ccdepth_any 2 Z.alB ⟨3, Z.e0, Z.e0, Z.e0, Z.noX, 0, []⟩ _ _ _ W (CV.below h 2 HCV.out) Z.alB_sm).mono (fun e w' ⟨he, h2⟩ => ⟨by rw [he, Z.alB_depth]; rfl, h2⟩))
  have HCB : Hid (∀ W, Below W3.heap.size W3 W → Calls Tryd.prog 12 #[.agg #[.int .u8 3, .string ⟨#[]⟩, .string ⟨#[]⟩, .string ⟨#[]⟩, .int .u8 0, .string ⟨#[]⟩, .string ⟨#[]⟩, .int .i64 0, .slice none 0 0, .int .i64 0, .slice none 0 0, .slice A k c]] W fun e w' => e = .returned (.int .i64 0) ∧ Below W.heap.size W w') :=
    Lib.hid (fun W h => (ccheck_any 1 Z.alB ⟨⟨3, Z.e0, Z.e0, Z.e0, Z.noX, 0, []⟩, .slice none 0 0, .slice none 0 0, .slice A k c⟩ W (CV.below h 2 HCV.out) (HLAY.out.below (hk3.trans (h.mono hk3.size))) (HHV.out.below (hk3.trans (h.mono hk3.size))) Z.alB_sm).mono (fun e w' ⟨he, h2⟩ => ⟨by rw [he, Z.alB_E], h2⟩))
  clear HCS HCV
  have z0 := BB.cell 0
  have z1 := BB.cell 1
  have z2 := BB.cell 2
  have z3 := BB.cell 3
  have z4 := BB.cell 4
  have z5 := BB.cell 5
  have z6 := BB.cell 6
  have z7 := BB.cell 7
  have z8 := BB.cell 8
  have z9 := BB.cell 9
  have z10 := BB.cell 10
  have z11 := BB.cell 11
  go_wp2_with fail
  refine (HPT.out W3 (Below.refl _ _)).mono ?_
  rintro e W4 ⟨v, rfl, hO, hb⟩
  obtain ⟨AV, cv, rfl⟩ := OL.shape hO
  have HO := Lib.hid hO
  have h4 := hb
  clear HPT hO
  have BB := BB.below hb
  have BP3 := BP3.below hb
  clear hb
  have z0 := BB.cell 0
  have z1 := BB.cell 1
  have z2 := BB.cell 2
  have z3 := BB.cell 3
  have z4 := BB.cell 4
  have z5 := BB.cell 5
  have z6 := BB.cell 6
  have z7 := BB.cell 7
  have z8 := BB.cell 8
  have z9 := BB.cell 9
  have z10 := BB.cell 10
  have z11 := BB.cell 11
  have p0 := BP3.cell 0
  have p1 := BP3.cell 1
  have p2 := BP3.cell 2
  have p3 := BP3.cell 3
  have p4 := BP3.cell 4
  have p5 := BP3.cell 5
  have p6 := BP3.cell 6
  have p7 := BP3.cell 7
  have p8 := BP3.cell 8
  have p9 := BP3.cell 9
  have p10 := BP3.cell 10
  have p11 := BP3.cell 11
  go_wp2_with fail
  refine (HSP.out W4).mono ?_
  rintro e W5 ⟨rfl, hb⟩
  have HO := Lib.hid (OL.below HO.out hb)
  have h5 := h4.trans (hb.mono h4.size)
  have BB := BB.below hb
  have BP3 := BP3.below hb
  clear hb
  have z0 := BB.cell 0
  have z1 := BB.cell 1
  have z2 := BB.cell 2
  have z3 := BB.cell 3
  have z4 := BB.cell 4
  have z5 := BB.cell 5
  have z6 := BB.cell 6
  have z7 := BB.cell 7
  have z8 := BB.cell 8
  have z9 := BB.cell 9
  have z10 := BB.cell 10
  have z11 := BB.cell 11
  have p0 := BP3.cell 0
  have p1 := BP3.cell 1
  have p2 := BP3.cell 2
  have p3 := BP3.cell 3
  have p4 := BP3.cell 4
  have p5 := BP3.cell 5
  have p6 := BP3.cell 6
  have p7 := BP3.cell 7
  have p8 := BP3.cell 8
  have p9 := BP3.cell 9
  have p10 := BP3.cell 10
  have p11 := BP3.cell 11
  go_wp2_with fail
  refine (HDP.out W5).mono ?_
  rintro e W6 ⟨rfl, hb⟩
  have HO := Lib.hid (OL.below HO.out hb)
  have h6 := h5.trans (hb.mono h5.size)
  have BB := BB.below hb
  have BP3 := BP3.below hb
  clear hb
  have z0 := BB.cell 0
  have z1 := BB.cell 1
  have z2 := BB.cell 2
  have z3 := BB.cell 3
  have z4 := BB.cell 4
  have z5 := BB.cell 5
  have z6 := BB.cell 6
  have z7 := BB.cell 7
  have z8 := BB.cell 8
  have z9 := BB.cell 9
  have z10 := BB.cell 10
  have z11 := BB.cell 11
  have p0 := BP3.cell 0
  have p1 := BP3.cell 1
  have p2 := BP3.cell 2
  have p3 := BP3.cell 3
  have p4 := BP3.cell 4
  have p5 := BP3.cell 5
  have p6 := BP3.cell 6
  have p7 := BP3.cell 7
  have p8 := BP3.cell 8
  have p9 := BP3.cell 9
  have p10 := BP3.cell 10
  have p11 := BP3.cell 11
  go_wp2_with fail
  refine (HSB.out W6 h6).mono ?_
  rintro e W7 ⟨rfl, hb⟩
  have HO := Lib.hid (OL.below HO.out hb)
  have h7 := h6.trans (hb.mono h6.size)
  have BB := BB.below hb
  have BP3 := BP3.below hb
  clear hb
  have z0 := BB.cell 0
  have z1 := BB.cell 1
  have z2 := BB.cell 2
  have z3 := BB.cell 3
  have z4 := BB.cell 4
  have z5 := BB.cell 5
  have z6 := BB.cell 6
  have z7 := BB.cell 7
  have z8 := BB.cell 8
  have z9 := BB.cell 9
  have z10 := BB.cell 10
  have z11 := BB.cell 11
  have p0 := BP3.cell 0
  have p1 := BP3.cell 1
  have p2 := BP3.cell 2
  have p3 := BP3.cell 3
  have p4 := BP3.cell 4
  have p5 := BP3.cell 5
  have p6 := BP3.cell 6
  have p7 := BP3.cell 7
  have p8 := BP3.cell 8
  have p9 := BP3.cell 9
  have p10 := BP3.cell 10
  have p11 := BP3.cell 11
  go_wp2_with fail
  refine (HDB.out W7 h7).mono ?_
  rintro e W8 ⟨rfl, hb⟩
  have HO := Lib.hid (OL.below HO.out hb)
  have h8 := h7.trans (hb.mono h7.size)
  have BB := BB.below hb
  have BP3 := BP3.below hb
  clear hb
  have z0 := BB.cell 0
  have z1 := BB.cell 1
  have z2 := BB.cell 2
  have z3 := BB.cell 3
  have z4 := BB.cell 4
  have z5 := BB.cell 5
  have z6 := BB.cell 6
  have z7 := BB.cell 7
  have z8 := BB.cell 8
  have z9 := BB.cell 9
  have z10 := BB.cell 10
  have z11 := BB.cell 11
  have p0 := BP3.cell 0
  have p1 := BP3.cell 1
  have p2 := BP3.cell 2
  have p3 := BP3.cell 3
  have p4 := BP3.cell 4
  have p5 := BP3.cell 5
  have p6 := BP3.cell 6
  have p7 := BP3.cell 7
  have p8 := BP3.cell 8
  have p9 := BP3.cell 9
  have p10 := BP3.cell 10
  have p11 := BP3.cell 11
  go_wp2_with fail
  refine (HCB.out W8 h8).mono ?_
  rintro e W9 ⟨rfl, hb⟩
  have HO := Lib.hid (OL.below HO.out hb)
  have h9 := h8.trans (hb.mono h8.size)
  clear hb z0 p0 z1 p1 z2 p2 z3 p3 z4 p4 z5 p5 z6 p6 z7 p7 z8 p8 z9 p9 z10 p10 z11 p11 BB BP3
  go_wp2_with fail
  have hlit := OL.lit (e := 9) bE_len W9 [Z.bytesW Z.ann, Z.bytesW Z.bob] 2 #[.string ⟨#[65, 110, 110]⟩, .string ⟨#[66, 111, 98]⟩] rfl rfl (by simp)
  have hba := (Below.refl _ W9).alloc (Nat.le_refl W9.heap.size) (.cells #[.string ⟨#[65, 110, 110]⟩, .string ⟨#[66, 111, 98]⟩] 9)
  refine (samestr_any _ _ _ _ _ ((OL.below HO.out hba).sl bE_len) (hlit.sl bE_len)).mono ?_
  rintro e W10 ⟨rfl, hb⟩
  have hev : Z.eqB [Z.bytesW Z.ann, Z.bytesW Z.bob] [Z.bytesW Z.ann, Z.bytesW Z.bob] = true := (Z.eqB_iff _ _).2 rfl
  rw [hev]
  have h10 := hk3.trans ((h9.trans ((hba.trans (hb.mono hba.size)).mono h9.size)).mono hk3.size)
  clear hlit hba hb h9 h8 h7 h6 h5 h4 HO
  go_wp2_with fail
  go_ret
  exact ⟨rfl, h10⟩
end Go.Proofs.YtifafmomkpkgdaaDoor
