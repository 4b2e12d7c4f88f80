/- Walks: integer.pair. -/
import Derived.Test.YthafdckomhdlbaaIsum
import Derived.Test.YthafdckomhdlbaaIreadn
import Derived.Test.YthafdckomhdlbaaIwrite
import Derived.Test.YthafdckomhdlbaaZref
namespace Go.Proofs.Ythafdckomhdlbaa
open Go.RowKit

theorem Z.dg_len_le_size {l : List UInt8} (h : Z.canon l = true) : (Z.dg 1000000000 (Z.ival l).natAbs).length ≤ l.length := by
  have hp := Z.canon_parts h
  have h1 : Z.natOf (Z.mags l) < 10 ^ (Z.mags l).length := Z.natOf_lt (List.all_eq_true.1 hp.all)
  have h2 : 10 ^ (Z.mags l).length ≤ 1000000000 ^ (Z.mags l).length := Nat.pow_le_pow_left (by omega) _
  rw [Z.natAbs_ival]
  have h3 := Z.dg_len_of_lt 1000000000 (by omega) (Z.natOf (Z.mags l)) (Z.mags l).length (by omega)
  have h4 : (Z.mags l).length ≤ l.length := by
    unfold Z.mags
    split
    · rw [List.length_tail]; omega
    · omega
  omega
/-- The value is a number's struct: its sign, and a slice that reads as its digits. -/
def NumIn (w : World) (x : Value) (z : Int) : Prop := ∃ A c, x = .agg #[.bool (decide (z < 0)), .slice A (Z.dg 1000000000 z.natAbs).length c] ∧ SN .u32 w (.slice A (Z.dg 1000000000 z.natAbs).length c) (Z.dg 1000000000 z.natAbs)
def PairBad (w : World) (k : Int) (e : Ending) (w' : World) : Prop := e = .returned (.tuple #[.agg #[.bool false, .slice none 0 0], .agg #[.bool false, .slice none 0 0], .int .i64 k]) ∧ Below w.heap.size w w'
def PairOk (w : World) (a b : Int) (e : Ending) (w' : World) : Prop := ∃ A c A' c', e = .returned (.tuple #[.agg #[.bool (decide (a < 0)), .slice A (Z.dg 1000000000 a.natAbs).length c], .agg #[.bool (decide (b < 0)), .slice A' (Z.dg 1000000000 b.natAbs).length c'], .int .i64 0]) ∧
  SN .u32 w' (.slice A (Z.dg 1000000000 a.natAbs).length c) (Z.dg 1000000000 a.natAbs) ∧ SN .u32 w' (.slice A' (Z.dg 1000000000 b.natAbs).length c') (Z.dg 1000000000 b.natAbs) ∧ Below w.heap.size w w'

theorem pair_bad (a b : ByteArray) (w : World) (ha : a.size ≤ maxLen) (hb : b.size ≤ maxLen) (h : Z.bothE a b ≠ 0) :
    Calls Try.prog 63 #[.string a, .string b] w (PairBad w (Z.bothE a b)) := by
  have C1 := Lib.hid (fun W : World => check_any a W ha)
  have C2 := Lib.hid (fun W : World => check_any b W hb)
  unfold Z.bothE at *
  generalize Z.chk a.data.toList = ca at *
  generalize Z.chk b.data.toList = cb at *
  go_enter Try.func63, Try.ntmps63
  by_cases h1 : ca = 0
  · rw [if_pos h1] at h
    subst h1
    have hcb : (cb == 0) = false := by simpa using h
    rw [if_pos rfl]
    clear h
    go_wp2_with fail
    refine (C1.out _).mono ?_
    rintro e w' ⟨rfl, rfl⟩
    go_wp2_with fail
    refine (C2.out _).mono ?_
    rintro e w' ⟨rfl, rfl⟩
    go_wp2_with fail
    go_region
    go_wp2_with fail
    exact bodyPost_ret (v := .tuple #[.agg #[.bool false, .slice none 0 0], .agg #[.bool false, .slice none 0 0], .int .i64 cb]) (by simp [results, Try.results63, go_sem]) rfl ⟨rfl, (((Below.refl _ w).alloc (Nat.le_refl _) _).alloc (by simp) _).drew⟩
  · rw [if_neg h1] at h
    have hca : (ca == 0) = false := by simpa using h
    rw [if_neg h1]
    clear h h1
    go_wp2_with fail
    refine (C1.out _).mono ?_
    rintro e w' ⟨rfl, rfl⟩
    go_wp2_with fail
    go_region
    go_wp2_with fail
    exact bodyPost_ret (v := .tuple #[.agg #[.bool false, .slice none 0 0], .agg #[.bool false, .slice none 0 0], .int .i64 ca]) (by simp [results, Try.results63, go_sem]) rfl ⟨rfl, (((Below.refl _ w).alloc (Nat.le_refl _) _).alloc (by simp) _).drew⟩

theorem pair_ok (a b : ByteArray) (w : World) (h : Z.bothE a b = 0) :
    Calls Try.prog 63 #[.string a, .string b] w (PairOk w (Z.ival a.data.toList) (Z.ival b.data.toList)) := by
  obtain ⟨ha, hb⟩ := Z.bothE_zero h
  have za : a.size ≤ 1001 := by rw [Lib.size_eq]; exact Z.chk_size ha
  have zb : b.size ≤ 1001 := by rw [Lib.size_eq]; exact Z.chk_size hb
  have pa : 0 < a.size := by
    rcases Nat.eq_zero_or_pos a.size with h1 | h1
    · rw [Z.empty_of (by omega)] at ha; exact absurd ha (by decide)
    · exact h1
  have pb : 0 < b.size := by
    rcases Nat.eq_zero_or_pos b.size with h1 | h1
    · rw [Z.empty_of (by omega)] at hb; exact absurd hb (by decide)
    · exact h1
  have C1 := Lib.hid (fun W : World => check_any a W (by unfold maxLen; omega))
  have C2 := Lib.hid (fun W : World => check_any b W (by unfold maxLen; omega))
  have R1 := Lib.hid (fun W : World => read_any a W (Z.chk_zero_iff.1 ha).1 (by omega) pa)
  have R2 := Lib.hid (fun W : World => read_any b W (Z.chk_zero_iff.1 hb).1 (by omega) pb)
  rw [ha] at C1
  rw [hb] at C2
  clear ha hb h za zb pa pb
  generalize Z.ival a.data.toList = x at *
  generalize Z.ival b.data.toList = y at *
  go_enter Try.func63, Try.ntmps63
  go_wp2_with fail
  have b1 := (Blk.new w 91 #[.bool false, .slice none 0 0]).alloc (.cells #[.bool false, .slice none 0 0] 91)
  have b2 : Blk ((w.alloc (.cells #[.bool false, .slice none 0 0] 91)).alloc (.cells #[.bool false, .slice none 0 0] 91)) (w.heap.size + 1) 91 #[.bool false, .slice none 0 0] := by
    have h := Blk.new (w.alloc (.cells #[.bool false, .slice none 0 0] 91)) 91 #[.bool false, .slice none 0 0]
    rwa [World.size_alloc] at h
  have hB0 : Below w.heap.size w ((w.alloc (.cells #[.bool false, .slice none 0 0] 91)).alloc (.cells #[.bool false, .slice none 0 0] 91)) := ((Below.refl _ w).alloc (Nat.le_refl _) _).alloc (by simp) _
  generalize ((w.alloc (.cells #[.bool false, .slice none 0 0] 91)).alloc (.cells #[.bool false, .slice none 0 0] 91)) = W0 at *
  refine (C1.out _).mono ?_
  rintro e w' ⟨rfl, rfl⟩
  go_wp2_with fail
  refine (C2.out _).mono ?_
  rintro e w' ⟨rfl, rfl⟩
  go_wp2_with fail
  refine (R1.out _).mono ?_
  rintro e w1 ⟨v1, rfl, ho1, hb1⟩
  obtain ⟨A, c, rfl⟩ := ho1.shape
  go_wp2_with fail
  refine (R2.out _).mono ?_
  rintro e w2 ⟨v2, rfl, ho2, hb2⟩
  obtain ⟨A', c', rfl⟩ := ho2.shape
  have hb12 := hb1.trans (hb2.mono hb1.size)
  have q1 := b1.below hb12
  have q2 := b2.below hb12
  have l2 := b2.lt
  have hs := hb1.size
  have o1 := ho1.below hb2
  have c0 := q1.cell 0
  have c1 := q1.cell 1
  have c2 := q2.cell 0
  have c3 := q2.cell 1
  have f0 := q1.frozen 0
  have f1 := q1.frozen 1
  have f2 := q2.frozen 0
  have f3 := q2.frozen 1
  go_wp2_with fail
  obtain ⟨n1, m1⟩ := store_num (decide (x < 0)) q1 o1
  have n2 := World.ownsRow.kept ho2 (grownBy_setAt w2 w.heap.size 0 (.bool (decide (x < 0)))) (.inr (q1.not_row (by decide) ho2).symm)
  have n3 := World.ownsRow.kept n2 (grownBy_setAt _ w.heap.size 1 (.slice A (Z.dg 1000000000 x.natAbs).length c)) (.inr ((q1.set 0 (.bool (decide (x < 0)))).not_row (by decide) n2).symm)
  have q3 := (q2.other (C := w.heap.size) (j := 0) (by omega) (.bool (decide (x < 0)))).other (C := w.heap.size) (j := 1) (by omega) (.slice A (Z.dg 1000000000 x.natAbs).length c)
  obtain ⟨n4, m4⟩ := store_num (decide (y < 0)) q3 n3
  have n5 := World.ownsRow.kept n1 (grownBy_setAt _ (w.heap.size + 1) 0 (.bool (decide (y < 0)))) (.inr (q3.not_row (by decide) n1).symm)
  have n6 := World.ownsRow.kept n5 (grownBy_setAt _ (w.heap.size + 1) 1 (.slice A' (Z.dg 1000000000 y.natAbs).length c')) (.inr ((q3.set 0 (.bool (decide (y < 0)))).not_row (by decide) n5).symm)
  have m5 := (m1.other (C := w.heap.size + 1) (j := 0) (by omega) (.bool (decide (y < 0)))).other (C := w.heap.size + 1) (j := 1) (by omega) (.slice A' (Z.dg 1000000000 y.natAbs).length c')
  have x0 := m5.cell 0
  have x1 := m5.cell 1
  have x2 := m4.cell 0
  have x3 := m4.cell 1
  refine bodyPost_ret (v := .tuple #[.agg #[.bool (decide (x < 0)), .slice A (Z.dg 1000000000 x.natAbs).length c], .agg #[.bool (decide (y < 0)), .slice A' (Z.dg 1000000000 y.natAbs).length c'], .int .i64 0]) (by simp [results, Try.results63, go_sem, x0, x1, x2, x3]) rfl ⟨A, c, A', c', rfl, Ow.sn n6, Ow.sn n4, ?_⟩
  exact ((((hB0.trans (hb12.mono hB0.size)).setCell (p := ⟨w.heap.size, 0, none⟩) (Nat.le_refl _) _).setCell (p := ⟨w.heap.size, 1, none⟩) (Nat.le_refl _) _).setCell (p := ⟨w.heap.size + 1, 0, none⟩) (by show w.heap.size ≤ w.heap.size + 1; omega) _).setCell (p := ⟨w.heap.size + 1, 1, none⟩) (by show w.heap.size ≤ w.heap.size + 1; omega) _
end Go.Proofs.Ythafdckomhdlbaa
