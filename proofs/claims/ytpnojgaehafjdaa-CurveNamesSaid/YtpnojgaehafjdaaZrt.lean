/- Plain: sizes of rationals; what the operations answer for canonical texts that are small enough. -/
import Derived.Test.YtpnojgaehafjdaaQ4
import Derived.Test.YtpnojgaehafjdaaIl
namespace Go.Proofs.Ytpnojgaehafjdaa
namespace Z
/-- Numerator and denominator of at most n digits. -/
def Rt (n : Nat) (q : Rat) : Prop := Lt n q.num ∧ Lt n (q.den : Int)
theorem Rt.mono {n m : Nat} {q : Rat} (h : Rt n q) (hm : n ≤ m) : Rt m q := ⟨h.1.mono hm, h.2.mono hm⟩
theorem Rt.fit {n : Nat} {q : Rat} (h : Rt n q) (h0 : 0 < n) (h1 : n ≤ 1000) : Fit q := by
  have a := decB_le_of h.1 h0
  have b := h.2
  unfold Lt at b
  rw [Int.natAbs_natCast] at b
  have c := decB_le_of b h0
  exact ⟨by omega, by omega⟩
theorem Rt.size {n : Nat} {q : Rat} (h : Rt n q) (h0 : 0 < n) (h1 : n ≤ 1000) : (Q q).size ≤ 2100 := Q_size (h.fit h0 h1)
theorem Rt.chk {n : Nat} {q : Rat} (h : Rt n q) (h0 : 0 < n) (h1 : n ≤ 1000) : rchk (Q q) = 0 := rchk_Q (h.fit h0 h1)
theorem Rt.both {n m : Nat} {x y : Rat} (h : Rt n x) (g : Rt m y) (h0 : 0 < n) (h1 : n ≤ 1000) (g0 : 0 < m) (g1 : m ≤ 1000) : rbothE (Q x) (Q y) = 0 := by
  unfold rbothE
  rw [if_pos (h.chk h0 h1), g.chk g0 g1]
theorem Q_n (q : Rat) : rn (Q q) = q.num := (Q_parts q).2.2.2.2.1
theorem Q_d (q : Rat) : rd (Q q) = q.den := (Q_parts q).2.2.2.1
theorem natAbs_ediv_le' (x g : Int) : (x / g).natAbs ≤ x.natAbs := Int.natAbs_ediv_le_natAbs x g
theorem rt_divInt {n : Nat} {x y : Int} (hx : Lt n x) (hy : Lt n y) (h : 0 < y) : Rt n (Rat.divInt x y) := by
  obtain ⟨h1, h2⟩ := div_num_pos (x := x) h
  refine ⟨?_, ?_⟩
  · rw [h1]; exact hx.of_le (natAbs_ediv_le' _ _)
  · rw [h2]; exact hy.of_le (natAbs_ediv_le' _ _)
theorem den_pos' (q : Rat) : (0 : Int) < q.den := by have := q.den_pos; omega
theorem self_div (q : Rat) : Rat.divInt q.num q.den = q := Rat.num_divInt_den q
theorem Rt.mul {n m : Nat} {x y : Rat} (h : Rt n x) (g : Rt m y) : Rt (n + m) (x * y) := by
  have e : x * y = Rat.divInt (x.num * y.num) ((x.den : Int) * y.den) := by
    conv => lhs; rw [← self_div x, ← self_div y]
    exact Rat.divInt_mul_divInt _ _
  rw [e]
  exact rt_divInt (h.1.mul g.1) (h.2.mul g.2) (Int.mul_pos (den_pos' x) (den_pos' y))
theorem Rt.add {n m : Nat} {x y : Rat} (h : Rt n x) (g : Rt m y) : Rt (n + m + 1) (x + y) := by
  have e : x + y = Rat.divInt (x.num * y.den + y.num * x.den) ((x.den : Int) * y.den) := by
    conv => lhs; rw [← self_div x, ← self_div y]
    have h1 := den_pos' x
    have h2 := den_pos' y
    exact Rat.divInt_add_divInt _ _ (by omega) (by omega)
  rw [e]
  have g2 : Lt (n + m) (y.num * x.den) := by rw [Nat.add_comm]; exact g.1.mul h.2
  exact rt_divInt ((h.1.mul g.2).add g2) ((h.2.mul g.2).mono (by omega)) (Int.mul_pos (den_pos' x) (den_pos' y))
theorem Rt.neg {n : Nat} {x : Rat} (h : Rt n x) : Rt n (-x) := ⟨by rw [Rat.neg_num]; exact h.1.neg, by rw [Rat.neg_den]; exact h.2⟩
theorem Rt.sub {n m : Nat} {x y : Rat} (h : Rt n x) (g : Rt m y) : Rt (n + m + 1) (x - y) := by
  rw [Rat.sub_eq_add_neg]; exact h.add g.neg
theorem Rt.inv {n : Nat} {x : Rat} (h : Rt n x) (h0 : x ≠ 0) : Rt n x⁻¹ := by
  have hn : x.num ≠ 0 := fun e => h0 (Rat.num_eq_zero.1 e)
  rw [Rat.inv_def]
  have hd := den_pos' x
  by_cases hp : 0 < x.num
  · exact rt_divInt h.2 h.1 hp
  · have e : Rat.divInt (x.den : Int) x.num = Rat.divInt (-(x.den : Int)) (-x.num) := (Rat.neg_divInt_neg _ _).symm
    rw [e]
    exact rt_divInt h.2.neg h.1.neg (by omega)
theorem Rt.div {n m : Nat} {x y : Rat} (h : Rt n x) (g : Rt m y) (h0 : y ≠ 0) : Rt (n + m) (x / y) := by
  rw [Rat.div_def]; exact h.mul (g.inv h0)
theorem rt_zero : Rt 1 0 := ⟨by unfold Lt; decide, by unfold Lt; decide⟩
theorem rt_one : Rt 1 1 := ⟨by unfold Lt; decide, by unfold Lt; decide⟩
theorem rt_int {n : Nat} {x : Int} (h : Lt n x) (h0 : 0 < n) : Rt n (x : Rat) := by
  refine ⟨by rw [Rat.num_intCast]; exact h, ?_⟩
  rw [Rat.den_intCast]
  exact lt_one.mono (by omega)
theorem Q_int (x : Int) : Q (x : Rat) = S x := by rw [Q_one (by rw [Rat.den_intCast]), Rat.num_intCast]
theorem Q_zero : Q 0 = ⟨#[48]⟩ := by have := Q_int 0; rw [S_zero] at this; exact this
theorem Q_1 : Q 1 = ⟨#[49]⟩ := by have := Q_int 1; rw [S_one] at this; exact this
theorem Q_ne (q : Rat) : (Q q).toList.isEmpty = false := by
  rw [Lib.toList_data, Q_data]
  unfold qT
  split
  · have := S_ne q.num; rwa [Lib.toList_data, S_data] at this
  · cases txt q.num <;> rfl
theorem Q_beq {x y : Rat} (h : x ≠ y) : ((Q x).toList == (Q y).toList) = false := by
  rw [beq_eq_false_iff_ne, Lib.toList_data, Lib.toList_data]
  exact fun e => h (Q_inj (ba_of e))
/-- A canonical rational of at most n bytes. -/
theorem rt_of_size {s : ByteArray} {n : Nat} (h : rchk s = 0) (hs : s.size ≤ n) (h1 : 0 < n) : ∃ x, s = Q x ∧ Rt n x := by
  have ho := rok h
  refine ⟨rq s, ho.text.symm, ?_, ?_⟩
  · rw [ho.num.1]
    exact lt_of_size (ho.cn) (Nat.le_trans (cut_size s).1 hs)
  · rw [ho.num.2, ← ho.dv]
    refine lt_of_size (chk_zero_iff.1 ho.kd).1 ?_
    unfold rD1
    split
    · exact Nat.le_trans (cut_size s).2 hs
    · exact h1
theorem lt_res {n : Nat} {x : Int} (h : Lt n x) (h0 : 0 < n) (h1 : n ≤ 1000) : resE x = 0 := (h.res h0 h1).1
theorem rop_ok' {l : List Int} {v x y : Rat} (hb : rbothE (Q x) (Q y) = 0) (hf : fitL l = true) : ropE l (Q x) (Q y) = 0 ∧ ropS l v (Q x) (Q y) = Q v := by
  have e : ropE l (Q x) (Q y) = 0 := by unfold ropE; rw [if_pos hb, hf]; rfl
  refine ⟨e, ?_⟩
  unfold ropS
  rw [if_pos e]
theorem add_S {n m : Nat} {x y : Rat} (h : Rt n x) (g : Rt m y) (h0 : 0 < n) (g0 : 0 < m) (hm : n + m + 1 ≤ 1000) : ropS (lAdd (Q x) (Q y)) (rq (Q x) + rq (Q y)) (Q x) (Q y) = Q (x + y) ∧ ropE (lAdd (Q x) (Q y)) (Q x) (Q y) = 0 := by
  have g2 : Lt (n + m) (y.num * x.den) := by rw [Nat.add_comm]; exact g.1.mul h.2
  have hf : fitL (lAdd (Q x) (Q y)) = true := by
    unfold lAdd
    rw [fit4, Q_n, Q_n, Q_d, Q_d, lt_res (h.1.mul g.2) (by omega) (by omega), lt_res g2 (by omega) (by omega), lt_res ((h.1.mul g.2).add g2) (by omega) (by omega), lt_res (h.2.mul g.2) (by omega) (by omega)]
    rfl
  have := rop_ok' (v := rq (Q x) + rq (Q y)) (h.both g h0 (by omega) g0 (by omega)) hf
  rw [rq_Q, rq_Q] at this ⊢
  exact ⟨this.2, this.1⟩
theorem sub_S {n m : Nat} {x y : Rat} (h : Rt n x) (g : Rt m y) (h0 : 0 < n) (g0 : 0 < m) (hm : n + m + 1 ≤ 1000) : ropS (lSub (Q x) (Q y)) (rq (Q x) - rq (Q y)) (Q x) (Q y) = Q (x - y) ∧ ropE (lSub (Q x) (Q y)) (Q x) (Q y) = 0 := by
  have g2 : Lt (n + m) (y.num * x.den) := by rw [Nat.add_comm]; exact g.1.mul h.2
  have hf : fitL (lSub (Q x) (Q y)) = true := by
    unfold lSub
    rw [fit4, Q_n, Q_n, Q_d, Q_d, lt_res (h.1.mul g.2) (by omega) (by omega), lt_res g2 (by omega) (by omega), lt_res ((h.1.mul g.2).sub g2) (by omega) (by omega), lt_res (h.2.mul g.2) (by omega) (by omega)]
    rfl
  have := rop_ok' (v := rq (Q x) - rq (Q y)) (h.both g h0 (by omega) g0 (by omega)) hf
  rw [rq_Q, rq_Q] at this ⊢
  exact ⟨this.2, this.1⟩
theorem mul_S {n m : Nat} {x y : Rat} (h : Rt n x) (g : Rt m y) (h0 : 0 < n) (g0 : 0 < m) (hm : n + m ≤ 1000) : ropS (lMul (Q x) (Q y)) (rq (Q x) * rq (Q y)) (Q x) (Q y) = Q (x * y) ∧ ropE (lMul (Q x) (Q y)) (Q x) (Q y) = 0 := by
  have hf : fitL (lMul (Q x) (Q y)) = true := by
    unfold lMul
    rw [fit2, Q_n, Q_n, Q_d, Q_d, lt_res (h.1.mul g.1) (by omega) (by omega), lt_res (h.2.mul g.2) (by omega) (by omega)]
    rfl
  have := rop_ok' (v := rq (Q x) * rq (Q y)) (h.both g h0 (by omega) g0 (by omega)) hf
  rw [rq_Q, rq_Q] at this ⊢
  exact ⟨this.2, this.1⟩
theorem num_ne {y : Rat} (h : y ≠ 0) : y.num ≠ 0 := fun e => h (Rat.num_eq_zero.1 e)
theorem qdiv_S {n m : Nat} {x y : Rat} (h : Rt n x) (g : Rt m y) (hy : y ≠ 0) (h0 : 0 < n) (g0 : 0 < m) (hm : n + m ≤ 1000) : rdivS (Q x) (Q y) = Q (x / y) ∧ rdivE (Q x) (Q y) = 0 := by
  have hf : fitL (lDiv (Q x) (Q y)) = true := by
    unfold lDiv
    rw [fit2, Q_n, Q_n, Q_d, Q_d, lt_res (h.1.mul g.2) (by omega) (by omega), lt_res (h.2.mul g.1) (by omega) (by omega)]
    rfl
  have e : rdivE (Q x) (Q y) = 0 := by
    unfold rdivE
    rw [Q_n, if_neg (fun hh => num_ne hy hh.2)]
    exact (rop_ok' (v := 0) (h.both g h0 (by omega) g0 (by omega)) hf).1
  refine ⟨?_, e⟩
  unfold rdivS
  rw [if_pos e, rq_Q, rq_Q]
theorem qdiv_0 {n : Nat} {x : Rat} (h : Rt n x) (h0 : 0 < n) (hm : n ≤ 1000) : rdivS (Q x) (Q 0) = ⟨#[]⟩ ∧ rdivE (Q x) (Q 0) = 16 := by
  have e : rdivE (Q x) (Q 0) = 16 := by
    unfold rdivE
    rw [if_pos ⟨h.both rt_zero h0 hm (by omega) (by omega), by rw [Q_n]; rfl⟩]
  refine ⟨?_, e⟩
  unfold rdivS
  rw [e]; rfl
/-- How two rationals compare. -/
def cmpR (x y : Rat) : Int := cmpI (x.num * y.den) (y.num * x.den)
theorem qcmp_S {n m : Nat} {x y : Rat} (h : Rt n x) (g : Rt m y) (h0 : 0 < n) (g0 : 0 < m) (hm : n + m ≤ 1000) : rcmpV (Q x) (Q y) = cmpR x y ∧ rcmpE (Q x) (Q y) = 0 := by
  have g2 : Lt (n + m) (y.num * x.den) := by rw [Nat.add_comm]; exact g.1.mul h.2
  have hf : fitL (lCmp (Q x) (Q y)) = true := by
    unfold lCmp
    rw [fit2, Q_n, Q_n, Q_d, Q_d, lt_res (h.1.mul g.2) (by omega) (by omega), lt_res g2 (by omega) (by omega)]
    rfl
  have e : rcmpE (Q x) (Q y) = 0 := (rop_ok' (v := 0) (h.both g h0 (by omega) g0 (by omega)) hf).1
  refine ⟨?_, e⟩
  unfold rcmpV
  rw [if_pos e, Q_n, Q_n, Q_d, Q_d]
  rfl
theorem cmpR_lt {x y : Rat} (h : x < y) : cmpR x y = -1 := cmpI_lt ((Rat.lt_iff x y).1 h)
theorem cmpR_eq {x y : Rat} (h : x = y) : cmpR x y = 0 := by subst h; exact cmpI_eq rfl
theorem cmpR_gt {x y : Rat} (h : y < x) : cmpR x y = 1 := cmpI_gt ((Rat.lt_iff y x).1 h)
theorem rat_tri (x y : Rat) : x < y ∨ x = y ∨ y < x := by
  by_cases h : x < y
  · exact .inl h
  · rcases Rat.le_iff_lt_or_eq.1 (Rat.not_lt.1 h) with h | h
    · exact .inr (.inr h)
    · exact .inr (.inl h.symm)
theorem lt_of_lt_le {x y z : Rat} (h : x < y) (g : y ≤ z) : x < z := by
  rcases Rat.le_iff_lt_or_eq.1 g with g | g
  · refine Rat.lt_iff_le_and_ne.2 ⟨Rat.le_trans (Rat.le_of_lt h) (Rat.le_of_lt g), ?_⟩
    rintro rfl
    exact absurd (Rat.le_antisymm (Rat.le_of_lt h) (Rat.le_of_lt g)) (Rat.ne_of_lt h)
  · subst g; exact h
theorem cmpR_swap (x y : Rat) : cmpR y x = -cmpR x y := cmpI_swap _ _
theorem cmpR_bd (x y : Rat) : -1 ≤ cmpR x y ∧ cmpR x y ≤ 1 := cmpI_bd _ _
theorem cmpR_le {x y : Rat} (h : cmpR x y ≤ 0) : x ≤ y := (Rat.le_iff x y).2 (cmpI_le h)
theorem le_cmpR {x y : Rat} (h : x ≤ y) : cmpR x y ≤ 0 := le_cmpI ((Rat.le_iff x y).1 h)
theorem cmpR_add (x y z : Rat) : cmpR (x + z) (y + z) = cmpR x y := by
  rcases rat_tri x y with h | h | h
  · rw [cmpR_lt h, cmpR_lt (Rat.add_lt_add_right.2 h)]
  · subst h; rw [cmpR_eq rfl, cmpR_eq rfl]
  · rw [cmpR_gt h, cmpR_gt (Rat.add_lt_add_right.2 h)]
theorem mul_neg_lt {x y z : Rat} (h : x < y) (hz : z < 0) : y * z < x * z := by
  have h1 : 0 < -z := by have := Rat.neg_lt_neg hz; rwa [Rat.neg_zero] at this
  have h2 := (Rat.mul_lt_mul_right h1).2 h
  rw [Rat.mul_neg, Rat.mul_neg] at h2
  exact Rat.neg_lt_neg_iff.1 h2
theorem cmpR_mul (x y z : Rat) : cmpR (x * z) (y * z) = cmpR x y * cmpR z 0 := by
  rcases rat_tri z 0 with hz | hz | hz
  · rw [cmpR_lt hz]
    rcases rat_tri x y with h | h | h
    · rw [cmpR_lt h, cmpR_gt (mul_neg_lt h hz)]; rfl
    · subst h; rw [cmpR_eq rfl, cmpR_eq rfl]; rfl
    · rw [cmpR_gt h, cmpR_lt (mul_neg_lt h hz)]; rfl
  · subst hz
    rw [Rat.mul_zero, Rat.mul_zero, cmpR_eq rfl, Int.mul_zero]
  · rw [cmpR_gt hz, Int.mul_one]
    rcases rat_tri x y with h | h | h
    · rw [cmpR_lt h, cmpR_lt ((Rat.mul_lt_mul_right hz).2 h)]
    · subst h; rw [cmpR_eq rfl, cmpR_eq rfl]
    · rw [cmpR_gt h, cmpR_gt ((Rat.mul_lt_mul_right hz).2 h)]
end Z
end Go.Proofs.Ytpnojgaehafjdaa
