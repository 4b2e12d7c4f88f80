/- Zr: Zlaw Zrat Zratb -/
import Derived.Test.YtifafmomkpkgdaaDoorZi
import Derived.Test.YtifafmomkpkgdaaDoorI5
import Derived.Test.YtifafmomkpkgdaaDoorR2
import Derived.Lib.IndexMore
/- Plain lists and integers: the text of an integer as a string; sizes; what the operations answer for them. -/

namespace Go.Proofs.YtifafmomkpkgdaaDoor
namespace Z

/-- The text of an integer, as a string. -/
def S (z : Int) : ByteArray := ⟨(txt z).toArray⟩
/-- At most n digits. -/
def Lt (n : Nat) (z : Int) : Prop := z.natAbs < 10 ^ n
theorem S_data (z : Int) : (S z).data.toList = txt z := by simp [S]
theorem S_size (z : Int) : (S z).size = (txt z).length := by rw [Lib.size_eq, S_data]
theorem S_inj {x y : Int} (h : S x = S y) : x = y := by
  apply txt_inj
  rw [← S_data, ← S_data, h]
theorem S_of {s : ByteArray} (h : canon s.data.toList = true) : S (ival s.data.toList) = s := by
  have := txt_ival h
  unfold S
  rw [this]
theorem ival_S (z : Int) : ival (S z).data.toList = z := by rw [S_data, ival_txt]
theorem S_ne (z : Int) : (S z).toList.isEmpty = false := by
  rw [Lib.toList_data, S_data]
  unfold txt
  split
  · rfl
  · cases h : decB z.natAbs with
    | nil => exact absurd h (decB_ne _)
    | cons => rfl
theorem decB_le_of {n k : Nat} (h : n < 10 ^ k) (hk : 0 < k) : (decB n).length ≤ k := by
  rcases Nat.eq_zero_or_pos n with h0 | h0
  · subst h0; simp [decB_zero]; omega
  · rw [decB_len n h0]
    exact dg_len_of_lt 10 (by omega) n k h
theorem Lt.mono {n m : Nat} {z : Int} (h : Lt n z) (hm : n ≤ m) : Lt m z := Nat.lt_of_lt_of_le h (Nat.pow_le_pow_right (by omega) hm)
theorem Lt.neg {n : Nat} {z : Int} (h : Lt n z) : Lt n (-z) := by unfold Lt; rw [Int.natAbs_neg]; exact h
theorem Lt.add {n : Nat} {x y : Int} (hx : Lt n x) (hy : Lt n y) : Lt (n + 1) (x + y) := by
  unfold Lt at *
  rw [Nat.pow_succ]
  omega
theorem Lt.sub {n : Nat} {x y : Int} (hx : Lt n x) (hy : Lt n y) : Lt (n + 1) (x + -y) := hx.add hy.neg
theorem Lt.mul {n m : Nat} {x y : Int} (hx : Lt n x) (hy : Lt m y) : Lt (n + m) (x * y) := by
  unfold Lt at *
  rw [Int.natAbs_mul, Nat.pow_add]
  exact Nat.mul_lt_mul_of_lt_of_le hx (Nat.le_of_lt hy) (Nat.pow_pos (by omega))
theorem Lt.of_le {n : Nat} {x y : Int} (h : Lt n y) (hle : x.natAbs ≤ y.natAbs) : Lt n x := Nat.lt_of_le_of_lt hle h
theorem Lt.chk {n : Nat} {z : Int} (h : Lt n z) (hn : 0 < n) (hn' : n ≤ 1000) : chk (S z).data.toList = 0 := by
  rw [S_data]
  exact chk_txt (Nat.le_trans (decB_le_of h hn) hn')
theorem Lt.res {n : Nat} {z : Int} (h : Lt n z) (hn : 0 < n) (hn' : n ≤ 1000) : resE z = 0 ∧ resS z = S z := by
  have := decB_le_of h hn
  unfold resE resS
  rw [if_neg (by omega), if_neg (by omega)]
  exact ⟨rfl, rfl⟩
/-- The size of a string that is a canonical integer of at most n bytes. -/
theorem lt_of_size {s : ByteArray} {n : Nat} (h : canon s.data.toList = true) (hs : s.size ≤ n) : Lt n (ival s.data.toList) := by
  unfold Lt
  have hp := canon_parts h
  have h1 : natOf (mags s.data.toList) < 10 ^ (mags s.data.toList).length := natOf_lt (List.all_eq_true.1 hp.all)
  have h2 : (mags s.data.toList).length ≤ n := by
    rw [Lib.size_eq] at hs
    unfold mags
    split
    · rw [List.length_tail]; omega
    · exact hs
  rw [natAbs_ival]
  exact Nat.lt_of_lt_of_le h1 (Nat.pow_le_pow_right (by omega) h2)
theorem opS_S {f : Int → Int → Int} {n m k : Nat} {x y : Int} (hx : Lt n x) (hy : Lt m y) (hz : Lt k (f x y)) (hn : 0 < n) (hn' : n ≤ 1000) (hm : 0 < m) (hm' : m ≤ 1000) (hk : 0 < k) (hk' : k ≤ 1000) : opS f (S x) (S y) = S (f x y) ∧ opE f (S x) (S y) = 0 := by
  have hb := bothE_ok (hx.chk hn hn') (hy.chk hm hm')
  obtain ⟨h1, h2⟩ := hz.res hk hk'
  unfold opS opE
  rw [if_pos hb, if_pos hb, ival_S, ival_S]
  exact ⟨h2, h1⟩
theorem divS_S {n m : Nat} {x y : Int} (hx : Lt n x) (hy : Lt m y) (h0 : y ≠ 0) (hn : 0 < n) (hn' : n ≤ 1000) (hm : 0 < m) (hm' : m ≤ 1000) (f : Int → Int → Int) : divS f (S x) (S y) = S (f x y) ∧ divE (S x) (S y) = 0 := by
  have hb := bothE_ok (hx.chk hn hn') (hy.chk hm hm')
  have he : divE (S x) (S y) = 0 := by
    unfold divE
    rw [if_pos hb, if_neg (by rw [ival_S]; exact h0)]
  unfold divS
  rw [if_pos he, ival_S, ival_S]
  exact ⟨rfl, he⟩
theorem divE_zero {n : Nat} {x : Int} (hx : Lt n x) (hn : 0 < n) (hn' : n ≤ 1000) (f : Int → Int → Int) : divS f (S x) (S 0) = ⟨#[]⟩ ∧ divE (S x) (S 0) = 16 := by
  have h0 : Lt 1 0 := by unfold Lt; decide
  have hb := bothE_ok (hx.chk hn hn') (h0.chk (by omega) (by omega))
  have he : divE (S x) (S 0) = 16 := by
    unfold divE
    rw [if_pos hb, if_pos (by rw [ival_S])]
  unfold divS
  rw [he]
  exact ⟨rfl, rfl⟩
theorem cmpV_S {n m : Nat} {x y : Int} (hx : Lt n x) (hy : Lt m y) (hn : 0 < n) (hn' : n ≤ 1000) (hm : 0 < m) (hm' : m ≤ 1000) : cmpV (S x) (S y) = cmpI x y ∧ bothE (S x) (S y) = 0 := by
  have hb := bothE_ok (hx.chk hn hn') (hy.chk hm hm')
  unfold cmpV
  rw [if_pos hb, ival_S, ival_S]
  exact ⟨rfl, hb⟩
theorem gcdI_le {n : Nat} {x y : Int} (hx : Lt n x) (hy : Lt n y) : Lt n (gcdI x y) := by
  unfold Lt gcdI at *
  rw [Int.natAbs_natCast]
  rcases Nat.eq_zero_or_pos x.natAbs with h | h
  · rw [h, Nat.gcd_zero_left]; exact hy
  · have := gcd_abs_le (x := x.natAbs) (y := y.natAbs) (.inl h)
    omega
theorem S_zero : S 0 = ⟨#[48]⟩ := rfl
theorem S_one : S 1 = ⟨#[49]⟩ := by decide +kernel
theorem lt_zero : Lt 1 0 := by unfold Lt; decide
theorem lt_one : Lt 1 1 := by unfold Lt; decide
end Z
end Go.Proofs.YtifafmomkpkgdaaDoor
/- Plain lists and numbers: the texts of rationals: what Check says of a string, what it stands for, fractions made canonical. -/

namespace Go.Proofs.YtifafmomkpkgdaaDoor
namespace Z

/-- The parts of a text at its first slash. -/
def cutR (l : List UInt8) : List UInt8 × List UInt8 × Bool := Lib.cut l [47]
def rN (s : ByteArray) : ByteArray := ⟨(cutR s.data.toList).1.toArray⟩
def rD (s : ByteArray) : ByteArray := ⟨(cutR s.data.toList).2.1.toArray⟩
def rF (s : ByteArray) : Bool := (cutR s.data.toList).2.2
/-- Numerator and denominator, as integers. -/
def rn (s : ByteArray) : Int := ival (rN s).data.toList
def rd (s : ByteArray) : Int := if rF s then ival (rD s).data.toList else 1
/-- The denominator as it is used. -/
def rD1 (s : ByteArray) : ByteArray := if rF s then rD s else ⟨#[49]⟩
/-- Of the wrong form, by its digits and signs. -/
def rbad (s : ByteArray) : Bool := !canon (rN s).data.toList || (rF s && (!canon (rD s).data.toList || isNeg (rD s).data.toList || decide (rd s = 0) || decide (rd s = 1)))
def rbig (s : ByteArray) : Bool := !decide (chk (rN s).data.toList = 0) || (rF s && !decide (chk (rD s).data.toList = 0))
/-- What rational.Check answers. -/
def rchk (s : ByteArray) : Int := if rbad s then 12 else if rbig s then 14 else if rF s && !decide (gcdI (rn s) (rd s) = 1) then 12 else 0
/-- What a text stands for. -/
def rq (s : ByteArray) : Rat := Rat.divInt (rn s) (rd s)
/-- The canonical text of a rational. -/
def qT (q : Rat) : List UInt8 := if q.den = 1 then txt q.num else txt q.num ++ 47 :: decB q.den
def Q (q : Rat) : ByteArray := ⟨(qT q).toArray⟩
/-- What Make answers, of two strings. -/
def makeE (a b : ByteArray) : Int := if bothE a b = 0 then if ival b.data.toList = 0 then 16 else 0 else bothE a b
def makeS (a b : ByteArray) : ByteArray := if makeE a b = 0 then Q (Rat.divInt (ival a.data.toList) (ival b.data.toList)) else ⟨#[]⟩

theorem not_slash_dig {c : UInt8} (h : isDig c = true) : c ≠ 47 := by rintro rfl; cases h
theorem txt_no_slash (z : Int) : ∀ c ∈ txt z, c ≠ 47 := by
  intro c hc
  unfold txt at hc
  split at hc
  · rcases List.mem_cons.1 hc with rfl | hc
    · decide
    · exact not_slash_dig (List.all_eq_true.1 (decB_all _) c hc)
  · exact not_slash_dig (List.all_eq_true.1 (decB_all _) c hc)
theorem indexB_none {l : List UInt8} (h : ∀ c ∈ l, c ≠ 47) : Lib.index l [47] = -1 := by
  refine Lib.index_none fun j _ => ?_
  unfold Lib.occAt
  cases e : l.drop j with
  | nil => rfl
  | cons c r =>
    have hc : c ∈ l := List.mem_of_mem_drop (by rw [e]; exact List.mem_cons_self ..)
    have : (47 : UInt8) ≠ c := fun e => h c hc e.symm
    simp [List.isPrefixOf, this]
theorem cutR_none {l : List UInt8} (h : ∀ c ∈ l, c ≠ 47) : cutR l = (l, [], false) := by
  unfold cutR Lib.cut
  rw [indexB_none h, if_neg (by omega)]
theorem indexB_some {l r : List UInt8} (h : ∀ c ∈ l, c ≠ 47) : Lib.index (l ++ 47 :: r) [47] = l.length := by
  refine Lib.index_first (i := l.length) (by simp) ?_ (fun j hj => ?_)
  · unfold Lib.occAt
    simp [List.isPrefixOf]
  · unfold Lib.occAt
    rw [List.drop_append_of_le_length (by omega)]
    cases e : l.drop j with
    | nil => have := congrArg List.length e; simp at this; omega
    | cons c r' =>
      have hc : c ∈ l := List.mem_of_mem_drop (by rw [e]; exact List.mem_cons_self ..)
      have : (47 : UInt8) ≠ c := fun e => h c hc e.symm
      simp [List.isPrefixOf, this]
theorem cutR_some {l r : List UInt8} (h : ∀ c ∈ l, c ≠ 47) : cutR (l ++ 47 :: r) = (l, r, true) := by
  unfold cutR Lib.cut
  rw [indexB_some h, if_pos (by omega)]
  simp
/-- Where there is a slash, the text is its parts. -/
theorem cutR_join {l : List UInt8} (h : (cutR l).2.2 = true) : l = (cutR l).1 ++ 47 :: (cutR l).2.1 := by
  unfold cutR Lib.cut at *
  rcases Lib.index_spec l [47] with ⟨h1, _⟩ | ⟨i, h1, h2, h3, _⟩
  · rw [h1, if_neg (by omega)] at h; cases h
  · rw [h1, if_pos (by omega)]
    simp only [Int.toNat_natCast]
    unfold Lib.occAt at h3
    have hd : l.drop i = 47 :: l.drop (i + 1) := by
      cases e : l.drop i with
      | nil => rw [e] at h3; cases h3
      | cons c r =>
        rw [e] at h3
        have hc : c = 47 := by simp [List.isPrefixOf] at h3; exact h3.symm
        have hr : l.drop (i + 1) = r := by rw [← List.tail_drop, e]; rfl
        rw [hr, hc]
    simp only [List.length_cons, List.length_nil, Nat.zero_add]
    rw [← hd, List.take_append_drop]
theorem cutR_whole {l : List UInt8} (h : (cutR l).2.2 = false) : (cutR l).1 = l := by
  unfold cutR Lib.cut at *
  split at h
  · cases h
  · rename_i hh; rw [if_neg hh]
end Z
end Go.Proofs.YtifafmomkpkgdaaDoor
/- Plain numbers: rationals' texts and the core library's rationals. -/

namespace Go.Proofs.YtifafmomkpkgdaaDoor
namespace Z

theorem ba_of {a b : ByteArray} (h : a.data.toList = b.data.toList) : a = b := by
  cases a; cases b
  congr
  exact Array.ext' h
theorem data_ofL (l : List UInt8) : (⟨l.toArray⟩ : ByteArray).data.toList = l := by simp
theorem Q_data (q : Rat) : (Q q).data.toList = qT q := data_ofL _
/-- The error and the value of a fraction's division by the greatest common divisor. -/
theorem gcdI_dvd_left (x y : Int) : gcdI x y ∣ x := show ((Int.gcd x y : Nat) : Int) ∣ x from Int.gcd_dvd_left ..
theorem gcdI_dvd_right (x y : Int) : gcdI x y ∣ y := show ((Int.gcd x y : Nat) : Int) ∣ y from Int.gcd_dvd_right ..
theorem gcdI_nonneg (x y : Int) : 0 ≤ gcdI x y := by unfold gcdI; omega
theorem gcdI_ne {x y : Int} (h : y ≠ 0) : gcdI x y ≠ 0 := by
  intro e
  unfold gcdI at e
  have h1 : Nat.gcd x.natAbs y.natAbs = 0 := by omega
  have := Nat.eq_zero_of_gcd_eq_zero_right h1
  omega
theorem div_num_pos {x y : Int} (h : 0 < y) : (Rat.divInt x y).num = x / gcdI x y ∧ ((Rat.divInt x y).den : Int) = y / gcdI x y := by
  rw [Rat.num_divInt, Rat.den_divInt, if_neg (by omega), Int.sign_eq_one_of_pos h, Int.one_mul]
  have e : (y.gcd x : Int) = gcdI x y := by unfold gcdI Int.gcd; rw [Nat.gcd_comm]
  have e2 : y.gcd x = Nat.gcd x.natAbs y.natAbs := by unfold Int.gcd; rw [Nat.gcd_comm]
  refine ⟨by rw [e], ?_⟩
  rw [Int.natCast_ediv, e]
  congr 1
  omega
theorem div_num_neg {x y : Int} (h : y < 0) : (Rat.divInt x y).num = x / -gcdI x y ∧ ((Rat.divInt x y).den : Int) = y / -gcdI x y := by
  have h1 := div_num_pos (x := -x) (y := -y) (by omega)
  have e : Rat.divInt (-x) (-y) = Rat.divInt x y := (Rat.divInt_eq_divInt_iff (by omega) (by omega)).2 (by rw [Int.neg_mul, Int.mul_neg])
  have g : gcdI (-x) (-y) = gcdI x y := by unfold gcdI; rw [Int.natAbs_neg, Int.natAbs_neg]
  rw [e, g] at h1
  rw [Int.ediv_neg, Int.ediv_neg, h1.1, h1.2]
  exact ⟨Int.neg_ediv_of_dvd (gcdI_dvd_left x y), Int.neg_ediv_of_dvd (gcdI_dvd_right x y)⟩
theorem S_natCast (n : Nat) : txt (n : Int) = decB n := by unfold txt; rw [if_neg (by omega), Int.natAbs_natCast]
theorem Q_one {q : Rat} (h : q.den = 1) : Q q = S q.num := by unfold Q qT S; rw [if_pos h]
theorem Q_frac {q : Rat} (h : q.den ≠ 1) : Q q = S q.num ++ ⟨#[47]⟩ ++ S (q.den : Int) := by
  apply ba_of
  rw [Q_data]
  unfold qT
  rw [if_neg h, ByteArray.data_append, ByteArray.data_append, Array.toList_append, Array.toList_append, S_data, S_data, S_natCast]
  simp
structure ROk (s : ByteArray) : Prop where
  cn : canon (rN s).data.toList = true
  kn : chk (rN s).data.toList = 0
  kd : chk (rD1 s).data.toList = 0
  dv : ival (rD1 s).data.toList = rd s
  pos : 0 < rd s
  one : gcdI (rn s) (rd s) = 1
  frac : rF s = true → rd s ≠ 1
  whole : rF s = false → rd s = 1
theorem rok {s : ByteArray} (h : rchk s = 0) : ROk s := by
  unfold rchk at h
  cases hb : rbad s
  · rw [hb] at h
    cases hg : rbig s
    · rw [hg] at h
      simp only [Bool.false_eq_true, if_false] at h
      unfold rbad at hb
      unfold rbig at hg
      simp only [Bool.or_eq_false_iff, Bool.not_eq_false', Bool.and_eq_false_iff, decide_eq_true_eq, decide_eq_false_iff_not] at hb hg
      obtain ⟨hn, hd⟩ := hb
      obtain ⟨hkn, hkd⟩ := hg
      cases hf : rF s
      · have h1 : rd s = 1 := by unfold rd; rw [hf]; rfl
        refine ⟨hn, hkn, ?_, ?_, by omega, ?_, (fun h => by rw [hf] at h; cases h), fun _ => h1⟩
        · unfold rD1; rw [hf]; exact (by decide +kernel : chk (⟨#[49]⟩ : ByteArray).data.toList = 0)
        · rw [h1]; unfold rD1; rw [hf]; exact (by decide +kernel : ival (⟨#[49]⟩ : ByteArray).data.toList = 1)
        · rw [h1]; unfold gcdI; simp
      · rw [hf] at hd hkd h
        simp only [Bool.true_eq_false, false_or] at hd hkd
        obtain ⟨⟨⟨hc, hneg⟩, h0⟩, h1⟩ := hd
        have hv : rd s = ival (rD s).data.toList := by unfold rd; rw [hf]; rfl
        have hpos : 0 < rd s := by
          have := ival_pos _ hneg
          omega
        refine ⟨hn, hkn, ?_, ?_, hpos, ?_, fun _ => h1, (fun h => by rw [hf] at h; cases h)⟩
        · unfold rD1; rw [hf]; exact hkd
        · unfold rD1; rw [hf]; exact hv.symm
        · by_cases hg : gcdI (rn s) (rd s) = 1
          · exact hg
          · simp [hg] at h
    · rw [hg] at h; simp at h
  · rw [hb] at h; simp at h
theorem ROk.num {s : ByteArray} (h : ROk s) : (rq s).num = rn s ∧ ((rq s).den : Int) = rd s := by
  have := div_num_pos (x := rn s) h.pos
  rw [h.one, Int.ediv_one, Int.ediv_one] at this
  exact this
theorem ROk.text {s : ByteArray} (h : ROk s) : Q (rq s) = s := by
  obtain ⟨h1, h2⟩ := h.num
  apply ba_of
  rw [Q_data]
  unfold qT
  rw [h1]
  have hn : txt (rn s) = (rN s).data.toList := txt_ival h.cn
  cases hf : rF s
  · have hd := h.whole hf
    rw [if_pos (by omega), hn]
    unfold rN
    rw [data_ofL]
    exact cutR_whole hf
  · have hd := h.frac hf
    rw [if_neg (by omega), hn]
    have h3 : decB (rq s).den = (rD s).data.toList := by
      rw [← S_natCast, h2, ← h.dv]
      have hc : canon (rD1 s).data.toList = true := (chk_zero_iff.1 h.kd).1
      rw [txt_ival hc]
      unfold rD1; rw [hf]; rfl
    rw [h3]
    unfold rN rD
    rw [data_ofL, data_ofL]
    exact (cutR_join hf).symm
theorem ROk.n {s : ByteArray} (h : ROk s) : rN s = S (rq s).num := by
  rw [h.num.1]; exact (S_of h.cn).symm
theorem ROk.d {s : ByteArray} (h : ROk s) : rD1 s = S ((rq s).den : Int) := by
  rw [h.num.2, ← h.dv]; exact (S_of (chk_zero_iff.1 h.kd).1).symm
/-- A rational whose parts have at most 1,000 digits. -/
def Fit (q : Rat) : Prop := (decB q.num.natAbs).length ≤ 1000 ∧ (decB q.den).length ≤ 1000
theorem ROk.fit {s : ByteArray} (h : ROk s) : Fit (rq s) := by
  have h1 := (chk_zero_iff.1 h.kn)
  have h2 := (chk_zero_iff.1 h.kd)
  refine ⟨?_, ?_⟩
  · rw [h.num.1]; unfold rn; rw [decB_ival h1.1]; exact h1.2
  · have e : (rq s).den = (ival (rD1 s).data.toList).natAbs := by have := h.num.2; rw [h.dv]; omega
    rw [e, decB_ival h2.1]; exact h2.2
theorem Q_parts (q : Rat) : rN (Q q) = S q.num ∧ rD1 (Q q) = S (q.den : Int) ∧ rF (Q q) = !decide (q.den = 1) ∧ rd (Q q) = q.den ∧ rn (Q q) = q.num ∧ (q.den ≠ 1 → rD (Q q) = S (q.den : Int)) := by
  by_cases h : q.den = 1
  · have hc : cutR (qT q) = (txt q.num, [], false) := by unfold qT; rw [if_pos h]; exact cutR_none (txt_no_slash _)
    have hn : rN (Q q) = S q.num := by unfold rN; rw [Q_data, hc]; rfl
    have hf : rF (Q q) = false := by unfold rF; rw [Q_data, hc]
    refine ⟨hn, ?_, by rw [hf]; simp [h], ?_, ?_, fun hh => absurd h hh⟩
    · unfold rD1; rw [hf, h]; exact S_one.symm
    · unfold rd; rw [hf, h]; rfl
    · unfold rn; rw [hn, ival_S]
  · have hc : cutR (qT q) = (txt q.num, decB q.den, true) := by unfold qT; rw [if_neg h]; exact cutR_some (txt_no_slash _)
    have hn : rN (Q q) = S q.num := by unfold rN; rw [Q_data, hc]; rfl
    have hd : rD (Q q) = S (q.den : Int) := by unfold rD; rw [Q_data, hc]; unfold S; rw [S_natCast]
    have hf : rF (Q q) = true := by unfold rF; rw [Q_data, hc]
    refine ⟨hn, ?_, by rw [hf]; simp [h], ?_, ?_, fun _ => hd⟩
    · unfold rD1; rw [hf]; exact hd
    · unfold rd; rw [hf]; simp only [if_true]; rw [hd, ival_S]
    · unfold rn; rw [hn, ival_S]
theorem gcd_rat (q : Rat) : gcdI q.num q.den = 1 := by
  have := q.reduced
  unfold gcdI
  rw [Int.natAbs_natCast]
  unfold Nat.Coprime at this
  rw [this]; rfl
theorem rchk_Q {q : Rat} (h : Fit q) : rchk (Q q) = 0 := by
  obtain ⟨h1, h2, h3, h4, h5, h6⟩ := Q_parts q
  have hp := q.den_pos
  unfold rchk rbad rbig
  rw [h1, h3, h4, h5, gcd_rat]
  have hk : chk (S q.num).data.toList = 0 := by rw [S_data]; exact chk_txt h.1
  have hkd : chk (S (q.den : Int)).data.toList = 0 := by rw [S_data]; exact chk_txt (by rw [Int.natAbs_natCast]; exact h.2)
  rw [(chk_zero_iff.1 hk).1]
  by_cases hd : q.den = 1
  · simp [hd, hk]
  · rw [h6 hd, (chk_zero_iff.1 hkd).1]
    have hneg : isNeg (S (q.den : Int)).data.toList = false := by rw [S_data, isNeg_txt]; simp
    have hd2 : (q.den : Int) ≠ 1 := by omega
    have hd3 : (q.den : Int) ≠ 0 := by omega
    simp [hd, hk, hkd, hneg]
    omega
theorem rq_Q (q : Rat) : rq (Q q) = q := by
  obtain ⟨h1, h2, h3, h4, h5, h6⟩ := Q_parts q
  unfold rq
  rw [h4, h5, Rat.num_divInt_den]
theorem Q_inj {p q : Rat} (h : Q p = Q q) : p = q := by rw [← rq_Q p, ← rq_Q q, h]
end Z
end Go.Proofs.YtifafmomkpkgdaaDoor
