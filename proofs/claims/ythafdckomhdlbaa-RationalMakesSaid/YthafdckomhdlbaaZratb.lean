/- Plain numbers: rationals' texts and the core library's rationals. -/
import Derived.Test.YthafdckomhdlbaaZrat
namespace Go.Proofs.Ythafdckomhdlbaa
namespace Z

theorem ba_of {a b : ByteArray} (h : a.data.toList = b.data.toList) : a = b := by
  cases a; cases b
  congr
  exact Array.ext' h
theorem data_ofL (l : List UInt8) : (⟨l.toArray⟩ : ByteArray).data.toList = l := by simp
theorem Q_data (q : Rat) : (Q q).data.toList = qT q := data_ofL _
/-- The error and the value of a fraction's division by the greatest common divisor. -/
theorem gcdI_dvd_left (x y : Int) : gcdI x y ∣ x := show ((Int.gcd x y : Nat) : Int) ∣ x from Int.gcd_dvd_left ..
theorem gcdI_dvd_right (x y : Int) : gcdI x y ∣ y := show ((Int.gcd x y : Nat) : Int) ∣ y from Int.gcd_dvd_right ..
theorem gcdI_nonneg (x y : Int) : 0 ≤ gcdI x y := by unfold gcdI; omega
theorem gcdI_ne {x y : Int} (h : y ≠ 0) : gcdI x y ≠ 0 := by
  intro e
  unfold gcdI at e
  have h1 : Nat.gcd x.natAbs y.natAbs = 0 := by omega
  have := Nat.eq_zero_of_gcd_eq_zero_right h1
  omega
theorem div_num_pos {x y : Int} (h : 0 < y) : (Rat.divInt x y).num = x / gcdI x y ∧ ((Rat.divInt x y).den : Int) = y / gcdI x y := by
  rw [Rat.num_divInt, Rat.den_divInt, if_neg (by omega), Int.sign_eq_one_of_pos h, Int.one_mul]
  have e : (y.gcd x : Int) = gcdI x y := by unfold gcdI Int.gcd; rw [Nat.gcd_comm]
  have e2 : y.gcd x = Nat.gcd x.natAbs y.natAbs := by unfold Int.gcd; rw [Nat.gcd_comm]
  refine ⟨by rw [e], ?_⟩
  rw [Int.natCast_ediv, e]
  congr 1
  omega
theorem div_num_neg {x y : Int} (h : y < 0) : (Rat.divInt x y).num = x / -gcdI x y ∧ ((Rat.divInt x y).den : Int) = y / -gcdI x y := by
  have h1 := div_num_pos (x := -x) (y := -y) (by omega)
  have e : Rat.divInt (-x) (-y) = Rat.divInt x y := (Rat.divInt_eq_divInt_iff (by omega) (by omega)).2 (by rw [Int.neg_mul, Int.mul_neg])
  have g : gcdI (-x) (-y) = gcdI x y := by unfold gcdI; rw [Int.natAbs_neg, Int.natAbs_neg]
  rw [e, g] at h1
  rw [Int.ediv_neg, Int.ediv_neg, h1.1, h1.2]
  exact ⟨Int.neg_ediv_of_dvd (gcdI_dvd_left x y), Int.neg_ediv_of_dvd (gcdI_dvd_right x y)⟩
theorem S_natCast (n : Nat) : txt (n : Int) = decB n := by unfold txt; rw [if_neg (by omega), Int.natAbs_natCast]
theorem Q_one {q : Rat} (h : q.den = 1) : Q q = S q.num := by unfold Q qT S; rw [if_pos h]
theorem Q_frac {q : Rat} (h : q.den ≠ 1) : Q q = S q.num ++ ⟨#[47]⟩ ++ S (q.den : Int) := by
  apply ba_of
  rw [Q_data]
  unfold qT
  rw [if_neg h, ByteArray.data_append, ByteArray.data_append, Array.toList_append, Array.toList_append, S_data, S_data, S_natCast]
  simp
structure ROk (s : ByteArray) : Prop where
  cn : canon (rN s).data.toList = true
  kn : chk (rN s).data.toList = 0
  kd : chk (rD1 s).data.toList = 0
  dv : ival (rD1 s).data.toList = rd s
  pos : 0 < rd s
  one : gcdI (rn s) (rd s) = 1
  frac : rF s = true → rd s ≠ 1
  whole : rF s = false → rd s = 1
theorem rok {s : ByteArray} (h : rchk s = 0) : ROk s := by
  unfold rchk at h
  cases hb : rbad s
  · rw [hb] at h
    cases hg : rbig s
    · rw [hg] at h
      simp only [Bool.false_eq_true, if_false] at h
      unfold rbad at hb
      unfold rbig at hg
      simp only [Bool.or_eq_false_iff, Bool.not_eq_false', Bool.and_eq_false_iff, decide_eq_true_eq, decide_eq_false_iff_not] at hb hg
      obtain ⟨hn, hd⟩ := hb
      obtain ⟨hkn, hkd⟩ := hg
      cases hf : rF s
      · have h1 : rd s = 1 := by unfold rd; rw [hf]; rfl
        refine ⟨hn, hkn, ?_, ?_, by omega, ?_, (fun h => by rw [hf] at h; cases h), fun _ => h1⟩
        · unfold rD1; rw [hf]; exact (by decide +kernel : chk (⟨#[49]⟩ : ByteArray).data.toList = 0)
        · rw [h1]; unfold rD1; rw [hf]; exact (by decide +kernel : ival (⟨#[49]⟩ : ByteArray).data.toList = 1)
        · rw [h1]; unfold gcdI; simp
      · rw [hf] at hd hkd h
        simp only [Bool.true_eq_false, false_or] at hd hkd
        obtain ⟨⟨⟨hc, hneg⟩, h0⟩, h1⟩ := hd
        have hv : rd s = ival (rD s).data.toList := by unfold rd; rw [hf]; rfl
        have hpos : 0 < rd s := by
          have := ival_pos _ hneg
          omega
        refine ⟨hn, hkn, ?_, ?_, hpos, ?_, fun _ => h1, (fun h => by rw [hf] at h; cases h)⟩
        · unfold rD1; rw [hf]; exact hkd
        · unfold rD1; rw [hf]; exact hv.symm
        · by_cases hg : gcdI (rn s) (rd s) = 1
          · exact hg
          · simp [hg] at h
    · rw [hg] at h; simp at h
  · rw [hb] at h; simp at h
theorem ROk.num {s : ByteArray} (h : ROk s) : (rq s).num = rn s ∧ ((rq s).den : Int) = rd s := by
  have := div_num_pos (x := rn s) h.pos
  rw [h.one, Int.ediv_one, Int.ediv_one] at this
  exact this
theorem ROk.text {s : ByteArray} (h : ROk s) : Q (rq s) = s := by
  obtain ⟨h1, h2⟩ := h.num
  apply ba_of
  rw [Q_data]
  unfold qT
  rw [h1]
  have hn : txt (rn s) = (rN s).data.toList := txt_ival h.cn
  cases hf : rF s
  · have hd := h.whole hf
    rw [if_pos (by omega), hn]
    unfold rN
    rw [data_ofL]
    exact cutR_whole hf
  · have hd := h.frac hf
    rw [if_neg (by omega), hn]
    have h3 : decB (rq s).den = (rD s).data.toList := by
      rw [← S_natCast, h2, ← h.dv]
      have hc : canon (rD1 s).data.toList = true := (chk_zero_iff.1 h.kd).1
      rw [txt_ival hc]
      unfold rD1; rw [hf]; rfl
    rw [h3]
    unfold rN rD
    rw [data_ofL, data_ofL]
    exact (cutR_join hf).symm
theorem ROk.n {s : ByteArray} (h : ROk s) : rN s = S (rq s).num := by
  rw [h.num.1]; exact (S_of h.cn).symm
theorem ROk.d {s : ByteArray} (h : ROk s) : rD1 s = S ((rq s).den : Int) := by
  rw [h.num.2, ← h.dv]; exact (S_of (chk_zero_iff.1 h.kd).1).symm
/-- A rational whose parts have at most 1,000 digits. -/
def Fit (q : Rat) : Prop := (decB q.num.natAbs).length ≤ 1000 ∧ (decB q.den).length ≤ 1000
theorem ROk.fit {s : ByteArray} (h : ROk s) : Fit (rq s) := by
  have h1 := (chk_zero_iff.1 h.kn)
  have h2 := (chk_zero_iff.1 h.kd)
  refine ⟨?_, ?_⟩
  · rw [h.num.1]; unfold rn; rw [decB_ival h1.1]; exact h1.2
  · have e : (rq s).den = (ival (rD1 s).data.toList).natAbs := by have := h.num.2; rw [h.dv]; omega
    rw [e, decB_ival h2.1]; exact h2.2
theorem Q_parts (q : Rat) : rN (Q q) = S q.num ∧ rD1 (Q q) = S (q.den : Int) ∧ rF (Q q) = !decide (q.den = 1) ∧ rd (Q q) = q.den ∧ rn (Q q) = q.num ∧ (q.den ≠ 1 → rD (Q q) = S (q.den : Int)) := by
  by_cases h : q.den = 1
  · have hc : cutR (qT q) = (txt q.num, [], false) := by unfold qT; rw [if_pos h]; exact cutR_none (txt_no_slash _)
    have hn : rN (Q q) = S q.num := by unfold rN; rw [Q_data, hc]; rfl
    have hf : rF (Q q) = false := by unfold rF; rw [Q_data, hc]
    refine ⟨hn, ?_, by rw [hf]; simp [h], ?_, ?_, fun hh => absurd h hh⟩
    · unfold rD1; rw [hf, h]; exact S_one.symm
    · unfold rd; rw [hf, h]; rfl
    · unfold rn; rw [hn, ival_S]
  · have hc : cutR (qT q) = (txt q.num, decB q.den, true) := by unfold qT; rw [if_neg h]; exact cutR_some (txt_no_slash _)
    have hn : rN (Q q) = S q.num := by unfold rN; rw [Q_data, hc]; rfl
    have hd : rD (Q q) = S (q.den : Int) := by unfold rD; rw [Q_data, hc]; unfold S; rw [S_natCast]
    have hf : rF (Q q) = true := by unfold rF; rw [Q_data, hc]
    refine ⟨hn, ?_, by rw [hf]; simp [h], ?_, ?_, fun _ => hd⟩
    · unfold rD1; rw [hf]; exact hd
    · unfold rd; rw [hf]; simp only [if_true]; rw [hd, ival_S]
    · unfold rn; rw [hn, ival_S]
theorem gcd_rat (q : Rat) : gcdI q.num q.den = 1 := by
  have := q.reduced
  unfold gcdI
  rw [Int.natAbs_natCast]
  unfold Nat.Coprime at this
  rw [this]; rfl
theorem rchk_Q {q : Rat} (h : Fit q) : rchk (Q q) = 0 := by
  obtain ⟨h1, h2, h3, h4, h5, h6⟩ := Q_parts q
  have hp := q.den_pos
  unfold rchk rbad rbig
  rw [h1, h3, h4, h5, gcd_rat]
  have hk : chk (S q.num).data.toList = 0 := by rw [S_data]; exact chk_txt h.1
  have hkd : chk (S (q.den : Int)).data.toList = 0 := by rw [S_data]; exact chk_txt (by rw [Int.natAbs_natCast]; exact h.2)
  rw [(chk_zero_iff.1 hk).1]
  by_cases hd : q.den = 1
  · simp [hd, hk]
  · rw [h6 hd, (chk_zero_iff.1 hkd).1]
    have hneg : isNeg (S (q.den : Int)).data.toList = false := by rw [S_data, isNeg_txt]; simp
    have hd2 : (q.den : Int) ≠ 1 := by omega
    have hd3 : (q.den : Int) ≠ 0 := by omega
    simp [hd, hk, hkd, hneg]
    omega
theorem rq_Q (q : Rat) : rq (Q q) = q := by
  obtain ⟨h1, h2, h3, h4, h5, h6⟩ := Q_parts q
  unfold rq
  rw [h4, h5, Rat.num_divInt_den]
theorem Q_inj {p q : Rat} (h : Q p = Q q) : p = q := by rw [← rq_Q p, ← rq_Q q, h]
end Z
end Go.Proofs.Ythafdckomhdlbaa
