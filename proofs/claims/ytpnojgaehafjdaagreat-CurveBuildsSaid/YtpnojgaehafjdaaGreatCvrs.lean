/- Walks: small functions of the reference of curves, and its calculations up to the first error. -/
import Derived.Test.YtpnojgaehafjdaaGreatCvw
import Derived.Test.YtpnojgaehafjdaaGreatCvs
namespace Go.Proofs.YtpnojgaehafjdaaGreat
open Go.RowKit
theorem rday_any (d : Int) (w : World) : Calls Tryz.prog 27 #[.int .i64 d] w fun e w' => e = .returned (.bool (Z.dayB d)) ∧ w = w' := by
  go_enter Tryz.func27, Tryz.ntmps27
  go_wp2_with fail
  all_goals (go_ret; refine ⟨ret_bool ?_, rfl⟩; rw [Bool.eq_iff_iff]; simp [Z.dayB]; try omega)
theorem rpos_any (r : ByteArray) (w : World) (h : 0 < r.size) (hm : r.size ≤ maxLen) : Calls Tryz.prog 29 #[.string r] w fun e w' => e = .returned (.bool (Z.posB r)) ∧ w = w' := by
  have hn := Z.neg_of r h
  unfold Z.posB
  unfold maxLen at hm
  have h0 : (0 : Int) < (r.size : Int) := by omega
  cases h1 : (r.toList == [48]) <;> cases h2 : ((r[0].toNat : Int) == 45)
  all_goals
    have h3 : ((r[0].toNat : Int) != 45) = !((r[0].toNat : Int) == 45) := rfl
    rw [h2] at hn h3
    rw [hn]
    clear hn
    go_enter Tryz.func29, Tryz.ntmps29
    go_wp2_with fail
    go_ret
    exact ⟨rfl, rfl⟩
/-- The box of a calculation of the reference holds this error. -/
abbrev RB (w : World) (B : Nat) (e : Int) : Prop := Blk w B 59 #[.int .i64 e]
/-- Behind a calculation of the reference: its text, its error, nothing else written. -/
def RCRet (B : Nat) (r : ByteArray × Int) (w : World) (e : Ending) (w' : World) : Prop := e = .returned (.string r.1) ∧ RB w' B r.2 ∧ w.grownBy w' (some B)
theorem rcadd_any (B : Nat) (e : Int) (a b : ByteArray) (w : World) (hs : RB w B e) (ha : a.size ≤ 100000) (hb : b.size ≤ 100000) :
    Calls Tryz.prog 43 #[.pointer (some ⟨B, 0, none⟩), .string a, .string b] w (RCRet B (Z.cOp Z.addP e a b) w) := by
  have hc : w.cell? ⟨B, 0, none⟩ = some (.int .i64 e) := hs.cell 0
  by_cases he : e = 0
  · subst he
    have HO : Hid (Calls Tryz.prog 64 #[.string a, .string b] w fun e w' => e = .returned (.tuple #[.string (Z.addP a b).1, .int .i64 (Z.addP a b).2]) ∧ Below w.heap.size w w') := Lib.hid (rqadd_any a b w ha hb)
    rw [Z.cOp_ok]
    unfold RCRet
    generalize (Z.addP a b).1 = r at *
    generalize (Z.addP a b).2 = k at *
    go_enter Tryz.func43, Tryz.ntmps43
    go_wp2_with fail
    refine HO.out.mono ?_
    rintro e w1 ⟨rfl, hb1⟩
    have q := hs.below hb1
    have d0 := q.cell 0
    have f0 := q.frozen 0
    go_wp2_with fail
    go_ret
    exact ⟨rfl, q.set 0 _, (grown_of_below hb1 (some B)).trans (grownBy_setAt w1 B 0 _)⟩
  · rw [Z.cOp_err _ he]
    have hk := ne_bne he
    unfold RCRet Z.z48
    clear he
    go_enter Tryz.func43, Tryz.ntmps43
    go_wp2_with fail
    go_ret
    exact ⟨rfl, hs, grown_of_below (Below.refl _ _) _⟩
theorem rcsub_any (B : Nat) (e : Int) (a b : ByteArray) (w : World) (hs : RB w B e) (ha : a.size ≤ 100000) (hb : b.size ≤ 100000) :
    Calls Tryz.prog 45 #[.pointer (some ⟨B, 0, none⟩), .string a, .string b] w (RCRet B (Z.cOp Z.subP e a b) w) := by
  have hc : w.cell? ⟨B, 0, none⟩ = some (.int .i64 e) := hs.cell 0
  by_cases he : e = 0
  · subst he
    have HO : Hid (Calls Tryz.prog 66 #[.string a, .string b] w fun e w' => e = .returned (.tuple #[.string (Z.subP a b).1, .int .i64 (Z.subP a b).2]) ∧ Below w.heap.size w w') := Lib.hid (rqsub_any a b w ha hb)
    rw [Z.cOp_ok]
    unfold RCRet
    generalize (Z.subP a b).1 = r at *
    generalize (Z.subP a b).2 = k at *
    go_enter Tryz.func45, Tryz.ntmps45
    go_wp2_with fail
    refine HO.out.mono ?_
    rintro e w1 ⟨rfl, hb1⟩
    have q := hs.below hb1
    have d0 := q.cell 0
    have f0 := q.frozen 0
    go_wp2_with fail
    go_ret
    exact ⟨rfl, q.set 0 _, (grown_of_below hb1 (some B)).trans (grownBy_setAt w1 B 0 _)⟩
  · rw [Z.cOp_err _ he]
    have hk := ne_bne he
    unfold RCRet Z.z48
    clear he
    go_enter Tryz.func45, Tryz.ntmps45
    go_wp2_with fail
    go_ret
    exact ⟨rfl, hs, grown_of_below (Below.refl _ _) _⟩
theorem rcmul_any (B : Nat) (e : Int) (a b : ByteArray) (w : World) (hs : RB w B e) (ha : a.size ≤ 100000) (hb : b.size ≤ 100000) :
    Calls Tryz.prog 44 #[.pointer (some ⟨B, 0, none⟩), .string a, .string b] w (RCRet B (Z.cOp Z.mulP e a b) w) := by
  have hc : w.cell? ⟨B, 0, none⟩ = some (.int .i64 e) := hs.cell 0
  by_cases he : e = 0
  · subst he
    have HO : Hid (Calls Tryz.prog 65 #[.string a, .string b] w fun e w' => e = .returned (.tuple #[.string (Z.mulP a b).1, .int .i64 (Z.mulP a b).2]) ∧ Below w.heap.size w w') := Lib.hid (rqmul_any a b w ha hb)
    rw [Z.cOp_ok]
    unfold RCRet
    generalize (Z.mulP a b).1 = r at *
    generalize (Z.mulP a b).2 = k at *
    go_enter Tryz.func44, Tryz.ntmps44
    go_wp2_with fail
    refine HO.out.mono ?_
    rintro e w1 ⟨rfl, hb1⟩
    have q := hs.below hb1
    have d0 := q.cell 0
    have f0 := q.frozen 0
    go_wp2_with fail
    go_ret
    exact ⟨rfl, q.set 0 _, (grown_of_below hb1 (some B)).trans (grownBy_setAt w1 B 0 _)⟩
  · rw [Z.cOp_err _ he]
    have hk := ne_bne he
    unfold RCRet Z.z48
    clear he
    go_enter Tryz.func44, Tryz.ntmps44
    go_wp2_with fail
    go_ret
    exact ⟨rfl, hs, grown_of_below (Below.refl _ _) _⟩
theorem rcdiv_any (B : Nat) (e : Int) (a b : ByteArray) (w : World) (hs : RB w B e) (ha : a.size ≤ 100000) (hb : b.size ≤ 100000) :
    Calls Tryz.prog 23 #[.pointer (some ⟨B, 0, none⟩), .string a, .string b] w (RCRet B (Z.cOp Z.divP e a b) w) := by
  have hc : w.cell? ⟨B, 0, none⟩ = some (.int .i64 e) := hs.cell 0
  by_cases he : e = 0
  · subst he
    have HO : Hid (Calls Tryz.prog 48 #[.string a, .string b] w fun e w' => e = .returned (.tuple #[.string (Z.divP a b).1, .int .i64 (Z.divP a b).2]) ∧ Below w.heap.size w w') := Lib.hid (rqdiv_any a b w ha hb)
    rw [Z.cOp_ok]
    unfold RCRet
    generalize (Z.divP a b).1 = r at *
    generalize (Z.divP a b).2 = k at *
    go_enter Tryz.func23, Tryz.ntmps23
    go_wp2_with fail
    refine HO.out.mono ?_
    rintro e w1 ⟨rfl, hb1⟩
    have q := hs.below hb1
    have d0 := q.cell 0
    have f0 := q.frozen 0
    go_wp2_with fail
    go_ret
    exact ⟨rfl, q.set 0 _, (grown_of_below hb1 (some B)).trans (grownBy_setAt w1 B 0 _)⟩
  · rw [Z.cOp_err _ he]
    have hk := ne_bne he
    unfold RCRet Z.z48
    clear he
    go_enter Tryz.func23, Tryz.ntmps23
    go_wp2_with fail
    go_ret
    exact ⟨rfl, hs, grown_of_below (Below.refl _ _) _⟩
/-- A quotient of small numbers. -/
theorem rcrat_any (B : Nat) (e m n : Int) (w : World) (hs : RB w B e) (h0 : -100000 < m) (h1 : m < 100000) (h2 : 0 < n) (h3 : n < 100000) :
    Calls Tryz.prog 23 #[.pointer (some ⟨B, 0, none⟩), .string (Z.S m), .string (Z.S n)] w (RCRet B (Z.cRat e m n) w) := by
  have l1 := Z.lt_days h0 h1
  have l2 := Z.lt_days (x := n) (by omega) h3
  have r1 : Z.Rt 6 (m : Rat) := ⟨by rw [Rat.num_intCast]; exact l1, by rw [Rat.den_intCast]; exact Z.lt_days (by decide) (by decide)⟩
  have r2 : Z.Rt 6 (n : Rat) := ⟨by rw [Rat.num_intCast]; exact l2, by rw [Rat.den_intCast]; exact Z.lt_days (by decide) (by decide)⟩
  have hne : (n : Rat) ≠ 0 := by
    intro h
    have := congrArg Rat.num h
    rw [Rat.num_intCast] at this
    have h5 : n = 0 := this
    omega
  obtain ⟨d1, d2⟩ := Z.qdiv_S r1 r2 hne (by omega) (by omega) (by omega)
  have s1 := r1.size (by omega) (by omega)
  have s2 := r2.size (by omega) (by omega)
  rw [Z.Q_int, Z.Q_int] at d1 d2
  rw [Z.Q_int] at s1 s2
  have he : Z.cOp Z.divP e (Z.S m) (Z.S n) = Z.cRat e m n := by
    unfold Z.cOp Z.cRat
    by_cases h : e = 0
    · rw [if_pos h, if_pos h]
      exact Prod.ext (d1.trans (by rw [Rat.divInt_eq_div])) d2
    · rw [if_neg h, if_neg h]
  rw [← he]
  exact rcdiv_any B e _ _ w hs (by omega) (by omega)
theorem ended_any (B : Nat) (e : Int) (a : ByteArray) (w : World) (hs : RB w B e) : Calls Tryz.prog 20 #[.pointer (some ⟨B, 0, none⟩), .string a] w fun en w' => en = .returned (.tuple #[.string (Z.done (a, e)).1, .int .i64 (Z.done (a, e)).2]) ∧ Below w.heap.size w w' := by
  have hc : w.cell? ⟨B, 0, none⟩ = some (.int .i64 e) := hs.cell 0
  unfold Z.done
  by_cases he : e = 0
  · subst he
    rw [if_pos rfl]
    go_enter Tryz.func20, Tryz.ntmps20
    go_wp2_with fail
    go_ret2
    exact ⟨rfl, Below.refl _ _⟩
  · rw [if_neg he]
    have hk := ne_bne he
    clear he
    go_enter Tryz.func20, Tryz.ntmps20
    go_wp2_with fail
    go_region
    go_wp2_with fail
    go_ret2
    exact ⟨rfl, (Below.refl _ _).drew⟩
end Go.Proofs.YtpnojgaehafjdaaGreat
