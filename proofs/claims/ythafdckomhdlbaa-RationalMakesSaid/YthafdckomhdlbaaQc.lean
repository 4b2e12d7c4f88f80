/- Walks: rational.both, and the operations that keep the first error. -/
import Derived.Test.YthafdckomhdlbaaQb
import Derived.Deep.RegionHeld3
import Derived.Laws.EntriesVeiled
namespace Go.Proofs.Ythafdckomhdlbaa
open Go.RowKit

/-- A pair of rationals in memory. -/
def PB (W : World) (B : Nat) (n0 n1 d0 d1 : ByteArray) (e : Int) : Prop := Blk W B 78 #[.string n0, .string n1, .string d0, .string d1, .int .i64 e]
def PartsC (a x y : ByteArray) (k : Int) : Prop := ∀ W : World, HasV W → Calls Try.prog 12 #[.string a] W fun e w' => e = .returned (.tuple #[.string x, .string y, .int .i64 k]) ∧ Below W.heap.size W w'
def BothP (n0 n1 d0 d1 : ByteArray) (k : Int) (w : World) (e : Ending) (w' : World) : Prop := e = .returned (.pointer (some ⟨w.heap.size, 0, none⟩)) ∧ PB w' w.heap.size n0 n1 d0 d1 k ∧ Below w.heap.size w w' ∧ w.heap.size < w'.heap.size
/-- The loop's state, before its round k. -/
def BSt (B : Nat) (x1 y1 x2 y2 : ByteArray) (k1 k2 : Int) (k : Nat) (W : World) : Prop :=
  match k with
  | 0 => PB W B ⟨#[]⟩ ⟨#[]⟩ ⟨#[]⟩ ⟨#[]⟩ 0
  | 1 => PB W B x1 ⟨#[]⟩ y1 ⟨#[]⟩ k1
  | _ => PB W B x1 x2 y1 y2 k2
def BRel (w : World) (x1 y1 x2 y2 : ByteArray) (k1 k2 : Int) (iv : Value) (wr : World) : Prop := ∃ k : Nat, k ≤ 2 ∧ iv = .int .i64 k ∧ BSt w.heap.size x1 y1 x2 y2 k1 k2 k wr ∧ Below w.heap.size w wr ∧ w.heap.size < wr.heap.size
theorem BRel.cases {w : World} {x1 y1 x2 y2 : ByteArray} {k1 k2 : Int} {iv : Value} {wr : World} (h : BRel w x1 y1 x2 y2 k1 k2 iv wr) : (Below w.heap.size w wr ∧ w.heap.size < wr.heap.size) ∧
    ((iv = .int .i64 0 ∧ PB wr w.heap.size ⟨#[]⟩ ⟨#[]⟩ ⟨#[]⟩ ⟨#[]⟩ 0) ∨ (iv = .int .i64 1 ∧ PB wr w.heap.size x1 ⟨#[]⟩ y1 ⟨#[]⟩ k1) ∨ (iv = .int .i64 2 ∧ PB wr w.heap.size x1 x2 y1 y2 k2)) := by
  obtain ⟨k, hk, hi, hs, hb, hl⟩ := h
  refine ⟨⟨hb, hl⟩, ?_⟩
  match k, hk, hs with
  | 0, _, hs => exact .inl ⟨hi, hs⟩
  | 1, _, hs => exact .inr (.inl ⟨hi, hs⟩)
  | 2, _, hs => exact .inr (.inr ⟨hi, hs⟩)
set_option maxRecDepth 100000 in
set_option maxHeartbeats 4000000 in
theorem both_gen0 (a b x1 y1 x2 y2 : ByteArray) (k2 : Int) (w : World) (hv : HasV w) (P1 : PartsC a x1 y1 0) (P2 : PartsC b x2 y2 k2) :
    Calls Try.prog 44 #[.string a, .string b] w (BothP x1 x2 y1 y2 k2 w) := by
  have HP1 : Hid (PartsC a x1 y1 0) := P1
  have HP2 : Hid (PartsC b x2 y2 k2) := P2
  clear P1 P2
  have HV := Lib.hid hv
  clear hv
  have i0 : ∀ W, (Instr.index 108 (.agg #[.string a, .string b]) (.int .i64 0)).run Try.prog W = .ok (.string a) W := fun _ => by kernel_rfl
  have i1 : ∀ W, (Instr.index 108 (.agg #[.string a, .string b]) (.int .i64 1)).run Try.prog W = .ok (.string b) W := fun _ => by kernel_rfl
  go_enter Try.func44, Try.ntmps44
  go_wp2_with fail
  have hst : BRel w x1 y1 x2 y2 0 k2 (.int .i64 0) (w.alloc (.cells #[.string ⟨#[]⟩, .string ⟨#[]⟩, .string ⟨#[]⟩, .string ⟨#[]⟩, .int .i64 0] 78)) :=
    ⟨0, by omega, rfl, Blk.new w _ _, (Below.refl _ _).alloc (Nat.le_refl _) _, by simp⟩
  have HST := Lib.hid hst
  clear hst
  go_loopw [13] (fun iv wr => BRel w x1 y1 x2 y2 0 k2 iv wr) (fun iv _ => 2 - (intOf iv).toNat)
  case atStart => exact HST.out
  case round =>
    clear HST
    obtain ⟨⟨hb, hl⟩, ⟨rfl, hB⟩ | ⟨rfl, hB⟩ | ⟨rfl, hB⟩⟩ := hrel.cases
    · clear hrel
      have c4 : wr.cell? ⟨w.heap.size, 4, none⟩ = some (.int .i64 0) := hB.cell 4
      have hvr := Lib.hid (HV.out.below hb)
      go_wp2_with fail
      go_region_held3 (fun W => True)
        (trivial)
        (first
          | (go_at_call 12; refine (HP1.out _ (by exact hvr.out)).mono ?_; rintro e w1 ⟨rfl, hb1⟩; have hb2 : Below wr.heap.size wr w1 := (below_of_drewN wr 1 _).trans hb1; have q := hB.below hb2; have d0 := q.cell 0; have d2 := q.cell 2; have d4 := q.cell 4; have f0 := q.frozen 0; have f2 := q.frozen 2; have f4 := q.frozen 4))
      go_wp2_with fail
      have qs := ((q.set 0 (.string x1)).set 2 (.string y1)).set 4 (.int .i64 0)
      have hb3 := hb.trans (hb2.mono hb.size)
      clear d0 d2 d4 f0 f2 f4
      go_roundw
      case rel => exact ⟨1, by omega, rfl, qs, ((hb3.setCell (p := ⟨w.heap.size, 0, none⟩) (Nat.le_refl _) _).setCell (p := ⟨w.heap.size, 2, none⟩) (Nat.le_refl _) _).setCell (p := ⟨w.heap.size, 4, none⟩) (Nat.le_refl _) _, qs.lt⟩
      case measure => simp [intOf]
    · clear hrel
      have c4 : wr.cell? ⟨w.heap.size, 4, none⟩ = some (.int .i64 0) := hB.cell 4
      have hvr := Lib.hid (HV.out.below hb)
      go_wp2_with fail
      go_region_held3 (fun W => True)
        (trivial)
        (first
          | (go_at_call 12; refine (HP2.out _ (by exact hvr.out)).mono ?_; rintro e w1 ⟨rfl, hb1⟩; have hb2 : Below wr.heap.size wr w1 := (below_of_drewN wr 1 _).trans hb1; have q := hB.below hb2; have d0 := q.cell 1; have d2 := q.cell 3; have d4 := q.cell 4; have f0 := q.frozen 1; have f2 := q.frozen 3; have f4 := q.frozen 4))
      go_wp2_with fail
      have qs := ((q.set 1 (.string x2)).set 3 (.string y2)).set 4 (.int .i64 k2)
      have hb3 := hb.trans (hb2.mono hb.size)
      clear d0 d2 d4 f0 f2 f4
      go_roundw
      case rel => exact ⟨2, by omega, rfl, qs, ((hb3.setCell (p := ⟨w.heap.size, 1, none⟩) (Nat.le_refl _) _).setCell (p := ⟨w.heap.size, 3, none⟩) (Nat.le_refl _) _).setCell (p := ⟨w.heap.size, 4, none⟩) (Nat.le_refl _) _, qs.lt⟩
      case measure => simp [intOf]
    · clear hrel
      go_wp2_with fail
      go_ret
      exact ⟨rfl, hB, hb, hl⟩
set_option maxRecDepth 100000 in
set_option maxHeartbeats 4000000 in
theorem both_gen1 (a b x1 y1 : ByteArray) (k1 : Int) (w : World) (hv : HasV w) (P1 : PartsC a x1 y1 k1) (hk : k1 ≠ 0) :
    Calls Try.prog 44 #[.string a, .string b] w (BothP x1 ⟨#[]⟩ y1 ⟨#[]⟩ k1 w) := by
  have HP1 : Hid (PartsC a x1 y1 k1) := P1
  have hkb : (k1 == 0) = false := by simpa using hk
  clear P1 hk
  have HV := Lib.hid hv
  clear hv
  have i0 : ∀ W, (Instr.index 108 (.agg #[.string a, .string b]) (.int .i64 0)).run Try.prog W = .ok (.string a) W := fun _ => by kernel_rfl
  have i1 : ∀ W, (Instr.index 108 (.agg #[.string a, .string b]) (.int .i64 1)).run Try.prog W = .ok (.string b) W := fun _ => by kernel_rfl
  go_enter Try.func44, Try.ntmps44
  go_wp2_with fail
  have hst : BRel w x1 y1 ⟨#[]⟩ ⟨#[]⟩ k1 k1 (.int .i64 0) (w.alloc (.cells #[.string ⟨#[]⟩, .string ⟨#[]⟩, .string ⟨#[]⟩, .string ⟨#[]⟩, .int .i64 0] 78)) :=
    ⟨0, by omega, rfl, Blk.new w _ _, (Below.refl _ _).alloc (Nat.le_refl _) _, by simp⟩
  have HST := Lib.hid hst
  clear hst
  go_loopw [13] (fun iv wr => BRel w x1 y1 ⟨#[]⟩ ⟨#[]⟩ k1 k1 iv wr) (fun iv _ => 2 - (intOf iv).toNat)
  case atStart => exact HST.out
  case round =>
    clear HST
    obtain ⟨⟨hb, hl⟩, ⟨rfl, hB⟩ | ⟨rfl, hB⟩ | ⟨rfl, hB⟩⟩ := hrel.cases
    · clear hrel
      have c4 : wr.cell? ⟨w.heap.size, 4, none⟩ = some (.int .i64 0) := hB.cell 4
      have hvr := Lib.hid (HV.out.below hb)
      go_wp2_with fail
      go_region_held3 (fun W => True)
        (trivial)
        (first
          | (go_at_call 12; refine (HP1.out _ (by exact hvr.out)).mono ?_; rintro e w1 ⟨rfl, hb1⟩; have hb2 : Below wr.heap.size wr w1 := (below_of_drewN wr 1 _).trans hb1; have q := hB.below hb2; have d0 := q.cell 0; have d2 := q.cell 2; have d4 := q.cell 4; have f0 := q.frozen 0; have f2 := q.frozen 2; have f4 := q.frozen 4))
      go_wp2_with fail
      have qs := ((q.set 0 (.string x1)).set 2 (.string y1)).set 4 (.int .i64 k1)
      have hb3 := hb.trans (hb2.mono hb.size)
      clear d0 d2 d4 f0 f2 f4
      go_roundw
      case rel => exact ⟨1, by omega, rfl, qs, ((hb3.setCell (p := ⟨w.heap.size, 0, none⟩) (Nat.le_refl _) _).setCell (p := ⟨w.heap.size, 2, none⟩) (Nat.le_refl _) _).setCell (p := ⟨w.heap.size, 4, none⟩) (Nat.le_refl _) _, qs.lt⟩
      case measure => simp [intOf]
    · clear hrel
      have c4 : wr.cell? ⟨w.heap.size, 4, none⟩ = some (.int .i64 k1) := hB.cell 4
      go_wp2_with fail
      go_roundw
      case rel => exact ⟨2, by omega, rfl, hB, hb, hl⟩
      case measure => simp [intOf]
    · clear hrel
      go_wp2_with fail
      go_ret
      exact ⟨rfl, hB, hb, hl⟩
/-- The first error of two rationals. -/
def Z.rbothE (a b : ByteArray) : Int := if Z.rchk a = 0 then Z.rchk b else Z.rchk a
theorem both_ok (a b : ByteArray) (w : World) (hv : HasV w) (ha : a.size ≤ 100000) (hb : b.size ≤ 100000) (h : Z.rbothE a b = 0) :
    Calls Try.prog 44 #[.string a, .string b] w (BothP (Z.rN a) (Z.rN b) (Z.rD1 a) (Z.rD1 b) 0 w) := by
  unfold Z.rbothE at h
  by_cases h1 : Z.rchk a = 0
  · rw [if_pos h1] at h
    exact both_gen0 a b _ _ _ _ 0 w hv (fun W hw => parts_ok a W hw ha h1) (fun W hw => parts_ok b W hw hb h)
  · rw [if_neg h1] at h; exact absurd h h1
def BothBad (k : Int) (w : World) (e : Ending) (w' : World) : Prop := ∃ n0 n1 d0 d1, BothP n0 n1 d0 d1 k w e w'
theorem both_bad (a b : ByteArray) (w : World) (hv : HasV w) (ha : a.size ≤ 100000) (hb : b.size ≤ 100000) (h : Z.rbothE a b ≠ 0) :
    Calls Try.prog 44 #[.string a, .string b] w (BothBad (Z.rbothE a b) w) := by
  unfold Z.rbothE at *
  by_cases h1 : Z.rchk a = 0
  · rw [if_pos h1] at h ⊢
    exact (both_gen0 a b _ _ _ _ _ w hv (fun W hw => parts_ok a W hw ha h1) (fun W hw => parts_bad b W hw hb h)).mono fun e w' hh => ⟨_, _, _, _, hh⟩
  · rw [if_neg h1] at h ⊢
    exact (both_gen1 a b _ _ _ w hv (fun W hw => parts_bad a W hw ha h) h).mono fun e w' hh => ⟨_, _, _, _, hh⟩
end Go.Proofs.Ythafdckomhdlbaa
