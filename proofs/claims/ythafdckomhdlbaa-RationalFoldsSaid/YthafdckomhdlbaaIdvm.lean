/- Walks: integer.DivMod. -/
import Derived.Test.YthafdckomhdlbaaIdm
namespace Go.Proofs.Ythafdckomhdlbaa
open Go.RowKit

def DmRet (a b : ByteArray) (w : World) (e : Ending) (w' : World) : Prop := e = .returned (.tuple #[.string (Z.divS (fun x y => x / y) a b), .string (Z.divS (fun x y => x % y) a b), .int .i64 (Z.divE a b)]) ∧ Below w.heap.size w w'
theorem dm_bad {a b : ByteArray} {w w' : World} (h : Z.bothE a b ≠ 0) (hb : Below w.heap.size w w') : DmRet a b w (.returned (.tuple #[.string ⟨#[]⟩, .string ⟨#[]⟩, .int .i64 (Z.bothE a b)])) w' := by
  unfold DmRet Z.divS Z.divE
  rw [if_neg h, if_neg h, if_neg h]
  exact ⟨rfl, hb⟩
theorem dm_zero {a b : ByteArray} {w w' : World} (h : Z.bothE a b = 0) (hy : Z.ival b.data.toList = 0) (hb : Below w.heap.size w w') : DmRet a b w (.returned (.tuple #[.string ⟨#[]⟩, .string ⟨#[]⟩, .int .i64 16])) w' := by
  unfold DmRet Z.divS Z.divE
  rw [if_pos h, if_pos hy]
  exact ⟨rfl, hb⟩
theorem dm_ok {a b : ByteArray} {w w' : World} {q r : Int} (h : Z.bothE a b = 0) (hy : Z.ival b.data.toList ≠ 0) (hq : Z.ival a.data.toList / Z.ival b.data.toList = q) (hr : Z.ival a.data.toList % Z.ival b.data.toList = r) (hb : Below w.heap.size w w') :
    DmRet a b w (.returned (.tuple #[.string ⟨(Z.txt q).toArray⟩, .string ⟨(Z.txt r).toArray⟩, .int .i64 0])) w' := by
  subst hq hr
  unfold DmRet Z.divS Z.divE
  rw [if_pos h, if_neg hy, if_pos rfl, if_pos rfl]
  exact ⟨rfl, hb⟩
def TxtRet (z : Int) (w : World) (e : Ending) (w' : World) : Prop := e = .returned (.tuple #[.string ⟨(Z.txt z).toArray⟩, .int .i64 0]) ∧ Below w.heap.size w w'
theorem writeT (ng : Bool) (v : Value) (n : Nat) (z : Int) (w : World) (hS : SN .u32 w v (Z.dg 1000000000 n)) (hl : (Z.dg 1000000000 n).length ≤ 1000000) (hz : sgn ng n = z) (hs : (Z.decB z.natAbs).length ≤ 1000) :
    Calls Try.prog 65 #[.agg #[.bool ng, v]] w (TxtRet z w) := by
  have := writeN ng v n z w hS hl hz
  unfold ResRet Z.resS Z.resE at this
  rw [if_neg (by omega), if_neg (by omega)] at this
  exact this

theorem dg_one : Z.dg 1000000000 1 = [1] := by rw [Z.dg_pos _ _ (by omega) (by omega)]; rfl
set_option maxHeartbeats 2000000 in
theorem divmod_any (a b : ByteArray) (w : World) (ha : a.size ≤ maxLen) (hb : b.size ≤ maxLen) :
    Calls Try.prog 32 #[.string a, .string b] w (DmRet a b w) := by
  by_cases h : Z.bothE a b = 0
  · have P := Lib.hid (fun W : World => pair_ok a b W h)
    obtain ⟨hx, hy⟩ := both_len h
    by_cases h0 : Z.ival b.data.toList = 0
    · have HF := Lib.hid (fun (w' : World) (hw : Below w.heap.size w w') => dm_zero h h0 hw)
      rw [h0] at P
      clear h h0 hx hy
      generalize Z.ival a.data.toList = x at *
      go_enter Try.func32, Try.ntmps32
      go_wp2_with fail
      refine (P.out _).mono ?_
      rintro e w1 ⟨A, c, A', c', rfl, hs, ht, hb1⟩
      have e0 : (Z.dg 1000000000 (Int.natAbs 0)).length = 0 := rfl
      rw [e0]
      go_wp2_with fail
      go_ret3
      exact HF.out _ ((hb1.alloc hb1.size _).alloc (by have := hb1.size; simp; omega) _)
    · have hsz := Z.div_size h h0
      have HF := Lib.hid (fun (q r : Int) (hq : _ = q) (hr : _ = r) (w' : World) (hw : Below w.heap.size w w') => dm_ok h h0 hq hr hw)
      clear h
      generalize Z.ival a.data.toList = x at *
      generalize Z.ival b.data.toList = y at *
      by_cases hcase : 0 ≤ x ∨ x.natAbs % y.natAbs = 0
      · obtain ⟨e1, e2⟩ := Z.div_same h0 hcase
        have hyl : 0 < (Z.dg 1000000000 y.natAbs).length := by
          rcases Nat.eq_zero_or_pos (Z.dg 1000000000 y.natAbs).length with hh | hh
          · have := (Z.dg_eq_nil 1000000000 (by omega) _).1 (List.eq_nil_of_length_eq_zero hh); omega
          · exact hh
        have hyz : (((Z.dg 1000000000 y.natAbs).length : Int) == 0) = false := by rw [beq_eq_false_iff_ne]; omega
        have HD := Lib.hid (fun (W : World) v u hS hT => divideN v u x.natAbs y.natAbs W hS hT (by omega) (by omega) (by omega))
        have hql : (Z.dg 1000000000 (x.natAbs / y.natAbs)).length ≤ 100000 := Nat.le_trans (Z.dg_len_le 1000000000 (by omega) (show x.natAbs / y.natAbs ≤ x.natAbs by have := Z.div_abs_le (x := x) h0; rw [e1, sgn_abs] at this; exact this)) (by omega)
        have hrl : (Z.dg 1000000000 (x.natAbs % y.natAbs)).length ≤ 100000 := Nat.le_trans (Z.dg_len_le 1000000000 (by omega) (show x.natAbs % y.natAbs ≤ y.natAbs by have := Z.mod_abs_le (x := x) h0; rw [e2, Int.natAbs_natCast] at this; exact this)) (by omega)
        have HW := Lib.hid (fun (W : World) (ng : Bool) v (hng : ng = (decide (x < 0) != decide (y < 0))) hS => writeT ng v (x.natAbs / y.natAbs) (x / y) W hS (by omega) (by rw [e1, hng]) hsz.1)
        have HV := Lib.hid (fun (W : World) v hS => writeT false v (x.natAbs % y.natAbs) (x % y) W hS (by omega) (by rw [e2]; rfl) hsz.2)
        have HFF := Lib.hid (HF.out (x / y) (x % y) rfl rfl)
        have hcond : decide (x < 0) = true → (Z.dg 1000000000 (x.natAbs % y.natAbs)).length = 0 := by
          intro hh
          have : x.natAbs % y.natAbs = 0 := by simp at hh; omega
          rw [this]; rfl
        clear hcase
        clear hsz e1 e2 HF
        clear hx hy
        go_enter Try.func32, Try.ntmps32
        go_wp2_with fail
        refine (P.out _).mono ?_
        rintro e w1 ⟨A, c, A', c', rfl, hs, ht, hb1⟩
        have hlX := hs.bound
        have hlY := ht.bound
        generalize decide (x < 0) = p at *
        generalize decide (y < 0) = q at *
        go_wp2_with fail
        have hbA := (Below.refl w1.heap.size w1).alloc (Nat.le_refl _) (.cells #[.bool p, .slice A (Z.dg 1000000000 x.natAbs).length c] 91)
        have hbB := hbA.alloc hbA.size (.cells #[.bool q, .slice A' (Z.dg 1000000000 y.natAbs).length c'] 91)
        have hS0 := hs.below hbB
        have hT0 := ht.below hbB
        have b1 := (Blk.new w1 91 #[.bool p, .slice A (Z.dg 1000000000 x.natAbs).length c]).alloc (.cells #[.bool q, .slice A' (Z.dg 1000000000 y.natAbs).length c'] 91)
        have b2 : Blk ((w1.alloc (.cells #[.bool p, .slice A (Z.dg 1000000000 x.natAbs).length c] 91)).alloc (.cells #[.bool q, .slice A' (Z.dg 1000000000 y.natAbs).length c'] 91)) (w1.heap.size + 1) 91 #[.bool q, .slice A' (Z.dg 1000000000 y.natAbs).length c'] := by
          have h := Blk.new (w1.alloc (.cells #[.bool p, .slice A (Z.dg 1000000000 x.natAbs).length c] 91)) 91 #[.bool q, .slice A' (Z.dg 1000000000 y.natAbs).length c']
          rwa [World.size_alloc] at h
        have hbE := hb1.trans (hbB.mono hb1.size)
        refine (HD.out _ _ _ hS0 hT0).mono ?_
        rintro e w2 ⟨v2, u2, rfl, hq, hr, hb2⟩
        obtain ⟨Aq, cq, rfl⟩ := hq.shape
        obtain ⟨Ar, cr, rfl⟩ := hr.shape
        have hlr := hr.bound
        have q1 := b1.below hb2
        have q2 := b2.below hb2
        have hT2 := hT0.below hb2
        have hbF := hbE.trans (hb2.mono hbE.size)
        clear hs ht hbA hb1 hbE b1 b2 hS0 hT0 hbB hb2
        have l2 := q2.lt
        generalize w1.heap.size = B at *
        have c0 : w2.cell? ⟨B, 0, none⟩ = some (.bool p) := q1.cell 0
        have c2 : w2.cell? ⟨B + 1, 0, none⟩ = some (.bool q) := q2.cell 0
        have c3 : w2.cell? ⟨B + 1, 1, none⟩ = some (.slice A' (Z.dg 1000000000 y.natAbs).length c') := q2.cell 1
        generalize (Z.dg 1000000000 (x.natAbs % y.natAbs)) = rs at *
        cases p
        · clear hcond
          go_wp2_with fail
          refine (HW.out _ _ _ (by simp) hq).mono ?_
          rintro e w3 ⟨rfl, hb3⟩
          go_wp2_with fail
          refine (HV.out _ _ (hr.below hb3)).mono ?_
          rintro e w4 ⟨rfl, hb4⟩
          go_wp2_with fail
          go_ret3
          exact HFF.out _ (hbF.trans ((hb3.trans (hb4.mono hb3.size)).mono hbF.size))
        · have hl0 := hcond rfl
          have hl1 : ¬ 0 < rs.length := by omega
          clear hcond hl0
          go_wp2_with fail
          refine (HW.out _ _ _ (by simp) hq).mono ?_
          rintro e w3 ⟨rfl, hb3⟩
          go_wp2_with fail
          refine (HV.out _ _ (hr.below hb3)).mono ?_
          rintro e w4 ⟨rfl, hb4⟩
          go_wp2_with fail
          go_ret3
          exact HFF.out _ (hbF.trans ((hb3.trans (hb4.mono hb3.size)).mono hbF.size))
      · have hx0 : x < 0 := by omega
        have hr0 : 0 < x.natAbs % y.natAbs := by omega
        obtain ⟨e1, e2⟩ := Z.div_next h0 hx0 hr0
        have hyl : 0 < (Z.dg 1000000000 y.natAbs).length := by
          rcases Nat.eq_zero_or_pos (Z.dg 1000000000 y.natAbs).length with hh | hh
          · have := (Z.dg_eq_nil 1000000000 (by omega) _).1 (List.eq_nil_of_length_eq_zero hh); omega
          · exact hh
        have hyz : (((Z.dg 1000000000 y.natAbs).length : Int) == 0) = false := by rw [beq_eq_false_iff_ne]; omega
        have HD := Lib.hid (fun (W : World) v u hS hT => divideN v u x.natAbs y.natAbs W hS hT (by omega) (by omega) (by omega))
        have hql : (Z.dg 1000000000 (x.natAbs / y.natAbs + 1)).length ≤ 100000 := Nat.le_trans (Z.dg_len_le 1000000000 (by omega) (show x.natAbs / y.natAbs + 1 ≤ x.natAbs by have := Z.div_abs_le (x := x) h0; rw [e1, sgn_abs] at this; exact this)) (by omega)
        have hrl : (Z.dg 1000000000 (y.natAbs - x.natAbs % y.natAbs)).length ≤ 100000 := Nat.le_trans (Z.dg_len_le 1000000000 (by omega) (show y.natAbs - x.natAbs % y.natAbs ≤ y.natAbs by have := Z.mod_abs_le (x := x) h0; rw [e2, Int.natAbs_natCast] at this; exact this)) (by omega)
        have HW := Lib.hid (fun (W : World) (ng : Bool) v (hng : ng = (decide (x < 0) != decide (y < 0))) hS => writeT ng v (x.natAbs / y.natAbs + 1) (x / y) W hS (by omega) (by rw [e1, hng]) hsz.1)
        have HV := Lib.hid (fun (W : World) v hS => writeT false v (y.natAbs - x.natAbs % y.natAbs) (x % y) W hS (by omega) (by rw [e2]; rfl) hsz.2)
        have HFF := Lib.hid (HF.out (x / y) (x % y) rfl rfl)
        have hp : decide (x < 0) = true := by simpa using hx0
        have hmlt := Nat.mod_lt x.natAbs (show 0 < y.natAbs by omega)
        have hrs : 0 < (Z.dg 1000000000 (x.natAbs % y.natAbs)).length := by
          rcases Nat.eq_zero_or_pos (Z.dg 1000000000 (x.natAbs % y.natAbs)).length with hh | hh
          · have := (Z.dg_eq_nil 1000000000 (by omega) _).1 (List.eq_nil_of_length_eq_zero hh); omega
          · exact hh
        have hml : (Z.dg 1000000000 (x.natAbs / y.natAbs)).length ≤ 100000 := Nat.le_trans (Z.dg_len_le 1000000000 (by omega) (Nat.div_le_self _ _)) (by omega)
        have hmr : (Z.dg 1000000000 (x.natAbs % y.natAbs)).length ≤ 100000 := Nat.le_trans (Z.dg_len_le 1000000000 (by omega) (Nat.le_of_lt hmlt)) (by omega)
        have HP := Lib.hid (fun (W : World) v u hS hT => plusN v u (x.natAbs / y.natAbs) 1 W hS hT hml (by rw [dg_one]; simp))
        have HM := Lib.hid (fun (W : World) v u hS hT => minusN v u y.natAbs (x.natAbs % y.natAbs) W hS hT (by omega) (Nat.le_of_lt hmlt))
        have HPP := Lib.hid hp
        clear hcase hx0 hr0 hmlt hml hmr hp
        clear hsz e1 e2 HF
        clear hx hy
        go_enter Try.func32, Try.ntmps32
        go_wp2_with fail
        refine (P.out _).mono ?_
        rintro e w1 ⟨A, c, A', c', rfl, hs, ht, hb1⟩
        have hlX := hs.bound
        have hlY := ht.bound
        generalize decide (x < 0) = p at *
        generalize decide (y < 0) = q at *
        go_wp2_with fail
        have hbA := (Below.refl w1.heap.size w1).alloc (Nat.le_refl _) (.cells #[.bool p, .slice A (Z.dg 1000000000 x.natAbs).length c] 91)
        have hbB := hbA.alloc hbA.size (.cells #[.bool q, .slice A' (Z.dg 1000000000 y.natAbs).length c'] 91)
        have hS0 := hs.below hbB
        have hT0 := ht.below hbB
        have b1 := (Blk.new w1 91 #[.bool p, .slice A (Z.dg 1000000000 x.natAbs).length c]).alloc (.cells #[.bool q, .slice A' (Z.dg 1000000000 y.natAbs).length c'] 91)
        have b2 : Blk ((w1.alloc (.cells #[.bool p, .slice A (Z.dg 1000000000 x.natAbs).length c] 91)).alloc (.cells #[.bool q, .slice A' (Z.dg 1000000000 y.natAbs).length c'] 91)) (w1.heap.size + 1) 91 #[.bool q, .slice A' (Z.dg 1000000000 y.natAbs).length c'] := by
          have h := Blk.new (w1.alloc (.cells #[.bool p, .slice A (Z.dg 1000000000 x.natAbs).length c] 91)) 91 #[.bool q, .slice A' (Z.dg 1000000000 y.natAbs).length c']
          rwa [World.size_alloc] at h
        have hbE := hb1.trans (hbB.mono hb1.size)
        refine (HD.out _ _ _ hS0 hT0).mono ?_
        rintro e w2 ⟨v2, u2, rfl, hq, hr, hb2⟩
        obtain ⟨Aq, cq, rfl⟩ := hq.shape
        obtain ⟨Ar, cr, rfl⟩ := hr.shape
        have hlr := hr.bound
        have q1 := b1.below hb2
        have q2 := b2.below hb2
        have hT2 := hT0.below hb2
        have hbF := hbE.trans (hb2.mono hbE.size)
        clear hs ht hbA hb1 hbE b1 b2 hS0 hT0 hbB hb2
        have l2 := q2.lt
        generalize w1.heap.size = B at *
        have c0 : w2.cell? ⟨B, 0, none⟩ = some (.bool p) := q1.cell 0
        have c2 : w2.cell? ⟨B + 1, 0, none⟩ = some (.bool q) := q2.cell 0
        have c3 : w2.cell? ⟨B + 1, 1, none⟩ = some (.slice A' (Z.dg 1000000000 y.natAbs).length c') := q2.cell 1
        obtain rfl : p = true := HPP.out
        generalize Z.dg 1000000000 (x.natAbs / y.natAbs) = ms at *
        generalize Z.dg 1000000000 (x.natAbs % y.natAbs) = rs at *
        generalize Z.dg 1000000000 y.natAbs = ys at *
        go_wp2_with fail
        have n0 := sn_one w2 1 1 rfl 98
        have ha := (Below.refl w2.heap.size w2).alloc (Nat.le_refl _) (.cells #[.int .u32 1] 98)
        have hM3 := hq.below ha
        go_region_held3 (fun W => W.cell? ⟨B + 1, 1, none⟩ = some (.slice A' ys.length c'))
          (first
            | exact c3
            | exact k3
            | exact m3
            | exact (ha.cell (p := ⟨B + 1, 1, none⟩) (by show B + 1 < w2.heap.size; omega)).trans c3)
          (first
            | (go_at_call 66; refine (HP.out _ _ _ (by exact hM3) (by rw [dg_one]; exact n0)).mono ?_; rintro e w3 ⟨v3, rfl, ho3, hb3⟩; obtain ⟨A3, c9, rfl⟩ := ho3.shape; have hb3' := ha.trans ((below_of_drewN (w2.alloc (.cells #[.int .u32 1] 98)) 1 _).trans (hb3.mono (by simp))); have k3 := (hb3'.cell (p := ⟨B + 1, 1, none⟩) (by show B + 1 < w2.heap.size; omega)).trans c3)
            | (go_at_call 67; refine (HM.out _ _ _ (hT2.below hb3') (hr.below hb3')).mono ?_; rintro e w4 ⟨v4, rfl, ho4, hb4⟩; obtain ⟨A4, c8, rfl⟩ := ho4.shape; have hb4' := hb3'.trans (hb4.mono hb3'.size); have m3 := (hb4'.cell (p := ⟨B + 1, 1, none⟩) (by show B + 1 < w2.heap.size; omega)).trans c3))
        have m0 := (hb4'.cell (p := ⟨B, 0, none⟩) (by show B < w2.heap.size; omega)).trans c0
        have m2 := (hb4'.cell (p := ⟨B + 1, 0, none⟩) (by show B + 1 < w2.heap.size; omega)).trans c2
        go_wp2_with fail
        refine (HW.out _ _ _ (by simp) (ho3.sn.below hb4)).mono ?_
        rintro e w5 ⟨rfl, hb5⟩
        go_wp2_with fail
        refine (HV.out _ _ (ho4.sn.below hb5)).mono ?_
        rintro e w6 ⟨rfl, hb6⟩
        go_wp2_with fail
        go_ret3
        exact HFF.out _ (hbF.trans ((hb4'.trans ((hb5.trans (hb6.mono hb5.size)).mono hb4'.size)).mono hbF.size))
  · have hne : (Z.bothE a b == 0) = false := by simpa using h
    have P := Lib.hid (fun W : World => pair_bad a b W ha hb h)
    have HF := Lib.hid (fun (w' : World) (hw : Below w.heap.size w w') => dm_bad h hw)
    clear h
    generalize Z.bothE a b = k at *
    go_enter Try.func32, Try.ntmps32
    go_wp2_with fail
    refine (P.out _).mono ?_
    rintro e w1 ⟨rfl, hb1⟩
    go_wp2_with fail
    go_ret3
    exact HF.out _ ((hb1.alloc hb1.size _).alloc (by have := hb1.size; simp; omega) _)
end Go.Proofs.Ythafdckomhdlbaa
