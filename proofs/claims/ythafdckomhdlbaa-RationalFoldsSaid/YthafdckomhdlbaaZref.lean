/- Plain lists and integers: the reference's products and quotients, digit by digit; what the operations answer. -/
import Derived.Test.YthafdckomhdlbaaZdiv
import Derived.Test.YthafdckomhdlbaaZdec
import Derived.Test.YthafdckomhdlbaaZwr
namespace Go.Proofs.Ythafdckomhdlbaa
namespace Z

/-- A carry is moved on. -/
theorem norm_step (b : Nat) (l : List Nat) (i : Nat) (h : i + 1 < l.length) : ofDg b ((l.set (i + 1) (dAt l (i + 1) + dAt l i / b)).set i (dAt l i % b)) = ofDg b l := by
  have h1 := ofDg_set b l (i + 1) (dAt l (i + 1) + dAt l i / b) h
  have h2 := ofDg_set b (l.set (i + 1) (dAt l (i + 1) + dAt l i / b)) i (dAt l i % b) (by rw [List.length_set]; omega)
  rw [dAt_set _ _ _ _ h, if_neg (by omega)] at h2
  generalize ofDg b (l.set (i + 1) (dAt l (i + 1) + dAt l i / b)) = A at *
  generalize ofDg b ((l.set (i + 1) (dAt l (i + 1) + dAt l i / b)).set i (dAt l i % b)) = B at *
  have e := Nat.div_add_mod (dAt l i) b
  have h3 : b ^ i * dAt l i = b ^ (i + 1) * (dAt l i / b) + b ^ i * (dAt l i % b) := by
    rw [Nat.pow_succ, Nat.mul_assoc, ← Nat.mul_add, e]
  rw [Nat.mul_add] at h1
  omega
/-- The loop that moves the carries: before its round i. -/
structure NInv (M L V i : Nat) (os : List Nat) : Prop where
  len : os.length = L
  val : ofDg 10 os = V
  low : ∀ t, t < i → dAt os t < 10
  cur : dAt os i ≤ 2 * M
  high : ∀ t, i < t → dAt os t ≤ M
theorem NInv.step {M L V i : Nat} {os : List Nat} (h : NInv M L V i os) (hi : i + 1 < L) :
    NInv M L V (i + 1) ((os.set (i + 1) (dAt os (i + 1) + dAt os i / 10)).set i (dAt os i % 10)) := by
  have hl := h.len
  have hc := h.cur
  have hh := h.high (i + 1) (by omega)
  refine ⟨by simp [hl], by rw [norm_step 10 os i (by omega)]; exact h.val, fun t ht => ?_, ?_, fun t ht => ?_⟩
  · rw [dAt_set _ _ _ _ (by simp; omega)]
    by_cases e : t = i
    · rw [if_pos e]; exact Nat.mod_lt _ (by omega)
    · rw [if_neg e, dAt_set _ _ _ _ (by omega), if_neg (by omega)]
      exact h.low t (by omega)
  · rw [dAt_set _ _ _ _ (by simp; omega), if_neg (by omega), dAt_set _ _ _ _ (by omega), if_pos rfl]
    omega
  · rw [dAt_set _ _ _ _ (by simp; omega), if_neg (by omega), dAt_set _ _ _ _ (by omega), if_neg (by omega)]
    exact h.high t (by omega)
theorem NInv.done {M L V i : Nat} {os : List Nat} (h : NInv M L V i os) (hi : L ≤ i + 1) (hV : V < 10 ^ L) : ∀ d ∈ os, d < 10 := by
  intro d hd
  obtain ⟨t, ht, rfl⟩ := List.mem_iff_getElem.1 hd
  have e : os[t] = dAt os t := by simp [dAt, ht]
  rw [e]
  by_cases hlt : t < i
  · exact h.low t hlt
  · have hl := h.len
    have ht1 : t + 1 = L := by omega
    have h1 := dAt_le_ofDg 10 os t
    rw [h.val] at h1
    rw [← ht1, Nat.pow_succ] at hV
    have h2 : 10 ^ t * dAt os t < 10 ^ t * 10 := by omega
    exact Nat.lt_of_mul_lt_mul_left h2
theorem NInv.start {M L V : Nat} {os : List Nat} (hl : os.length = L) (hv : ofDg 10 os = V) (h : ∀ d ∈ os, d ≤ M) : NInv M L V 0 os := by
  have h1 : ∀ t, dAt os t ≤ M := fun t => by
    by_cases ht : t < os.length
    · have e : os[t] = dAt os t := by simp [dAt, ht]
      rw [← e]; exact h _ (List.getElem_mem _)
    · rw [dAt_none (by omega)]; omega
  exact ⟨hl, hv, fun t ht => by omega, by have := h1 0; omega, fun t _ => h1 t⟩
/-- The loop that adds the products: within its round i, before j. -/
structure TInv (X Y L i j : Nat) (xs ys os : List Nat) : Prop where
  len : os.length = L
  val : ofDg 10 os = ofDg 10 (xs.take i) * ofDg 10 ys + 10 ^ i * (dAt xs i * ofDg 10 (ys.take j))
  le : ∀ t, dAt os t ≤ 81 * (i + 1)
  high : ∀ t, i + j ≤ t → dAt os t ≤ 81 * i
theorem TInv.start {X Y L : Nat} {xs ys : List Nat} : TInv X Y L 0 0 xs ys (List.replicate L 0) :=
  ⟨by simp, by simp [ofDg_replicate, ofDg], fun t => by rw [dAt_replicate]; omega, fun t _ => by rw [dAt_replicate]; omega⟩
theorem TInv.step {X Y L i j : Nat} {xs ys os : List Nat} (h : TInv X Y L i j xs ys os) (hx : ∀ d ∈ xs, d < 10) (hy : ∀ d ∈ ys, d < 10) (hL : i + j < L) :
    TInv X Y L i (j + 1) xs ys (os.set (i + j) (dAt os (i + j) + dAt xs i * dAt ys j)) := by
  have hl := h.len
  have h1 := dAt_lt (b := 10) (by omega) hx i
  have h2 := dAt_lt (b := 10) (by omega) hy j
  have h3 : dAt xs i * dAt ys j ≤ 9 * 9 := Nat.mul_le_mul (by omega) (by omega)
  have h4 := h.high (i + j) (Nat.le_refl _)
  have hs := ofDg_set 10 os (i + j) (dAt os (i + j) + dAt xs i * dAt ys j) (by omega)
  refine ⟨by simp [hl], ?_, fun t => ?_, fun t ht => ?_⟩
  · rw [ofDg_take]
    have hv := h.val
    rw [Nat.mul_add, Nat.mul_add, ← Nat.mul_assoc (dAt xs i), Nat.mul_comm (dAt xs i) (10 ^ j), Nat.mul_assoc (10 ^ j), ← Nat.mul_assoc (10 ^ i) (10 ^ j), ← Nat.pow_add]
    rw [Nat.mul_add] at hs
    omega
  · rw [dAt_set _ _ _ _ (by omega)]
    split
    · omega
    · exact h.le t
  · rw [dAt_set _ _ _ _ (by omega), if_neg (by omega)]
    exact h.high t (by omega)
theorem TInv.next {X Y L i : Nat} {xs ys os : List Nat} (h : TInv X Y L i ys.length xs ys os) : TInv X Y L (i + 1) 0 xs ys os := by
  refine ⟨h.len, ?_, fun t => by have := h.le t; omega, fun t _ => h.le t⟩
  have hv := h.val
  rw [List.take_of_length_le (Nat.le_refl _)] at hv
  rw [hv, ofDg_take, Nat.add_mul, Nat.mul_assoc]
  simp [ofDg]
theorem TInv.done {X Y L : Nat} {xs ys os : List Nat} (h : TInv X Y L xs.length 0 xs ys os) : ofDg 10 os = ofDg 10 xs * ofDg 10 ys ∧ ∀ d ∈ os, d ≤ 81 * (xs.length + 1) := by
  refine ⟨?_, fun d hd => ?_⟩
  · have hv := h.val
    rw [List.take_of_length_le (Nat.le_refl _), dAt_none (Nat.le_refl _)] at hv
    rw [hv]; simp
  · obtain ⟨t, ht, rfl⟩ := List.mem_iff_getElem.1 hd
    have e : os[t] = dAt os t := by simp [dAt, ht]
    rw [e]; exact h.le t
theorem mul_lt_pow (b : Nat) (hb : 0 < b) (xs ys : List Nat) (hx : ∀ d ∈ xs, d < b) (hy : ∀ d ∈ ys, d < b) : ofDg b xs * ofDg b ys < b ^ (xs.length + ys.length) := by
  have h1 := ofDg_lt b hb xs hx
  have h2 := ofDg_lt b hb ys hy
  rw [Nat.pow_add]
  exact Nat.mul_lt_mul_of_lt_of_le h1 (Nat.le_of_lt h2) (Nat.pow_pos hb)
/-- Zeros at the end may go. -/
theorem ofDg_take_of_lt (b : Nat) (l : List Nat) (k : Nat) (h : ofDg b l < b ^ k) : ofDg b (l.take k) = ofDg b l := by
  have h1 := ofDg_split b l k
  rcases Nat.eq_zero_or_pos (ofDg b (l.drop k)) with h2 | h2
  · rw [h2] at h1; omega
  · have : b ^ k * 1 ≤ b ^ k * ofDg b (l.drop k) := Nat.mul_le_mul_left _ h2
    omega
/-- Long division, a digit at a time: before its round, i digits are left. -/
structure LInv (D n i : Nat) (as qs rs : List Nat) : Prop where
  len : qs.length = as.length
  rlt : ofDg 10 rs < D
  rd : ∀ d ∈ rs, d < 10
  rlen : rs.length ≤ n + 1
  qlt : ∀ d ∈ qs, d < 10
  val : ofDg 10 (as.drop i) = ofDg 10 (qs.drop i) * D + ofDg 10 rs
  zero : ∀ t, t < i → dAt qs t = 0
/-- .. within a round. -/
structure LIn (D n i : Nat) (as qs rs : List Nat) : Prop where
  len : qs.length = as.length
  rd : ∀ d ∈ rs, d < 10
  rlen : rs.length ≤ n + 1
  qlt : ∀ d ∈ qs, d < 10
  val : ofDg 10 (as.drop i) = ofDg 10 (qs.drop i) * D + ofDg 10 rs
  zero : ∀ t, t < i → dAt qs t = 0
  tot : D * dAt qs i + ofDg 10 rs < 10 * D
theorem LInv.start {D n : Nat} {as : List Nat} (hD : 0 < D) : LInv D n as.length as (List.replicate as.length 0) [] :=
  ⟨by simp, by simpa [ofDg] using hD, by simp, by simp, by intro d hd; rw [List.eq_of_mem_replicate hd]; omega, by simp [ofDg], fun t _ => dAt_replicate _ _⟩
theorem LInv.open_ {D n i : Nat} {as qs rs : List Nat} (h : LInv D n (i + 1) as qs rs) (ha : ∀ d ∈ as, d < 10) (hD : D < 10 ^ n) :
    LIn D n i as qs ((dAt as i :: rs).take (n + 1)) := by
  have hai := dAt_lt (b := 10) (by omega) ha i
  have hv : ofDg 10 (dAt as i :: rs) < 10 ^ (n + 1) := by
    rw [ofDg_cons, Nat.pow_succ]
    have := h.rlt
    omega
  have hq : dAt qs i = 0 := h.zero i (by omega)
  have hr := h.rlt
  refine ⟨h.len, fun d hd => ?_, by rw [List.length_take]; omega, h.qlt, ?_, fun t ht => h.zero t (by omega), ?_⟩
  · rcases List.mem_cons.1 (List.mem_of_mem_take hd) with rfl | hd
    · exact hai
    · exact h.rd d hd
  · rw [ofDg_take_of_lt 10 _ _ hv, ofDg_drop 10 as i, ofDg_drop 10 qs i, h.val, hq, ofDg_cons, Nat.zero_add, Nat.mul_add, Nat.mul_assoc]
    omega
  · rw [ofDg_take_of_lt 10 _ _ hv, hq, ofDg_cons]
    omega
theorem LIn.more {D n i : Nat} {as qs rs rs' : List Nat} (h : LIn D n i as qs rs) (hi : i < as.length) (hge : D ≤ ofDg 10 rs) (hd : ∀ d ∈ rs', d < 10) (hv : ofDg 10 rs' = ofDg 10 rs - D) (hl : rs'.length ≤ rs.length) :
    LIn D n i as (qs.set i (dAt qs i + 1)) rs' := by
  have hlen := h.len
  have ht := h.tot
  have hrl := h.rlen
  have hq9 : dAt qs i + 1 < 10 := by
    have h1 : D * (dAt qs i + 1) < D * 10 := by rw [Nat.mul_add]; omega
    exact Nat.lt_of_mul_lt_mul_left h1
  refine ⟨by simp [hlen], hd, by omega, set_lt h.qlt hq9, ?_, fun t ht => ?_, ?_⟩
  · rw [ofDg_drop 10 (qs.set i _) i, dAt_set _ _ _ _ (by omega), if_pos rfl, hv, h.val, ofDg_drop 10 qs i, List.drop_set_of_lt (by omega), Nat.add_mul, Nat.add_mul, Nat.add_mul]
    omega
  · rw [dAt_set _ _ _ _ (by omega), if_neg (by omega)]
    exact h.zero t ht
  · rw [dAt_set _ _ _ _ (by omega), if_pos rfl, hv, Nat.mul_add]
    omega
theorem LIn.close {D n i : Nat} {as qs rs : List Nat} (h : LIn D n i as qs rs) (hlt : ofDg 10 rs < D) : LInv D n i as qs rs :=
  ⟨h.len, hlt, h.rd, h.rlen, h.qlt, h.val, h.zero⟩
theorem LInv.done {D n : Nat} {as qs rs : List Nat} (h : LInv D n 0 as qs rs) : ofDg 10 qs = ofDg 10 as / D ∧ ofDg 10 rs = ofDg 10 as % D := by
  have := div_of (ofDg 10 as) D (ofDg 10 qs) (ofDg 10 rs) h.rlt (by have := h.val; simpa using this)
  exact ⟨this.1.symm, this.2.symm⟩

/-- The error of two arguments. -/
def bothE (a b : ByteArray) : Int := if chk a.data.toList = 0 then chk b.data.toList else chk a.data.toList
/-- What an operation on two integers answers. -/
def opS (f : Int → Int → Int) (a b : ByteArray) : ByteArray := if bothE a b = 0 then resS (f (ival a.data.toList) (ival b.data.toList)) else ⟨#[]⟩
def opE (f : Int → Int → Int) (a b : ByteArray) : Int := if bothE a b = 0 then resE (f (ival a.data.toList) (ival b.data.toList)) else bothE a b
def cmpI (x y : Int) : Int := if x < y then -1 else if x = y then 0 else 1
def cmpV (a b : ByteArray) : Int := if bothE a b = 0 then cmpI (ival a.data.toList) (ival b.data.toList) else 0
/-- The error of a division. -/
def divE (a b : ByteArray) : Int := if bothE a b = 0 then (if ival b.data.toList = 0 then 16 else 0) else bothE a b
def divS (f : Int → Int → Int) (a b : ByteArray) : ByteArray := if divE a b = 0 then ⟨(txt (f (ival a.data.toList) (ival b.data.toList))).toArray⟩ else ⟨#[]⟩
def gcdI (x y : Int) : Int := (Nat.gcd x.natAbs y.natAbs : Nat)

theorem bothE_zero {a b : ByteArray} (h : bothE a b = 0) : chk a.data.toList = 0 ∧ chk b.data.toList = 0 := by
  unfold bothE at h
  by_cases h1 : chk a.data.toList = 0
  · rw [if_pos h1] at h; exact ⟨h1, h⟩
  · rw [if_neg h1] at h; exact absurd h h1
theorem bothE_ok {a b : ByteArray} (h : chk a.data.toList = 0) (h' : chk b.data.toList = 0) : bothE a b = 0 := by unfold bothE; rw [if_pos h, h']
theorem decB_mono {n m : Nat} (h : n ≤ m) : (decB n).length ≤ (decB m).length := by
  rcases Nat.eq_zero_or_pos n with h0 | h0
  · subst h0
    have := decB_ne m
    have h1 : 0 < (decB m).length := List.length_pos_iff.2 this
    simp [decB_zero]; omega
  · rw [decB_len n h0, decB_len m (by omega)]
    exact dg_len_le 10 (by omega) h
/-- The size of a canonical integer's absolute value. -/
theorem decB_ival {l : List UInt8} (h : canon l = true) : (decB (ival l).natAbs).length = (mags l).length := by
  have h1 := txt_ival h
  rw [← mags_txt, h1]
theorem chk_txt {z : Int} (h : (decB z.natAbs).length ≤ 1000) : chk (txt z) = 0 := by
  rw [chk_zero_iff]; exact ⟨canon_txt z, by rw [mags_txt]; exact h⟩
theorem chk_size {l : List UInt8} (h : chk l = 0) : l.length ≤ 1001 := by
  have h1 := (chk_zero_iff.1 h).2
  unfold mags at h1
  split at h1
  · rw [List.length_tail] at h1; omega
  · omega
theorem resS_ok {z : Int} (h : resE z = 0) : resS z = ⟨(txt z).toArray⟩ ∧ (decB z.natAbs).length ≤ 1000 := by
  unfold resE at h
  unfold resS
  split at h
  · cases h
  · rename_i h1
    rw [if_neg h1]; exact ⟨rfl, by omega⟩
theorem resE_cases (z : Int) : resE z = 0 ∨ resE z = 14 := by unfold resE; split <;> simp
theorem resS_bad {z : Int} (h : resE z ≠ 0) : resS z = ⟨#[]⟩ := by
  unfold resE at h
  unfold resS
  split at h
  · rename_i h1; rw [if_pos h1]
  · exact absurd rfl h
theorem cmpI_abs (x y : Nat) : cmpI x y = cmp x y := by unfold cmpI cmp; simp only [Int.ofNat_lt, Int.ofNat_inj]
theorem cmpI_neg (x y : Int) : cmpI (-x) (-y) = cmpI y x := by
  unfold cmpI
  by_cases h1 : y < x
  · rw [if_pos (by omega), if_pos h1]
  · by_cases h2 : y = x
    · rw [if_neg (by omega), if_pos (by omega), if_neg h1, if_pos h2]
    · rw [if_neg (by omega), if_neg (by omega), if_neg h1, if_neg h2]
theorem ival_neg (l : List UInt8) (h : isNeg l = true) : ival l = -(natOf (mags l) : Int) := by unfold ival; rw [if_pos h]
theorem ival_pos (l : List UInt8) (h : isNeg l = false) : ival l = (natOf (mags l) : Int) := by unfold ival; rw [if_neg (by simp [h])]
/-- A canonical integer bears a sign just where it is negative. -/
theorem isNeg_ival {l : List UInt8} (h : canon l = true) : isNeg l = decide (ival l < 0) := by
  rw [← isNeg_txt, txt_ival h]
end Z
end Go.Proofs.Ythafdckomhdlbaa
