/- Plain lists and integers: digits: cut, compared, added, subtracted. -/
import Derived.Test.YthafdckomhdlbaaZnum
namespace Go.Proofs.Ythafdckomhdlbaa
namespace Z

/-- A digit, 0 beyond the end. -/
def dAt (l : List Nat) (i : Nat) : Nat := l[i]?.getD 0
theorem dAt_some {l : List Nat} {i d : Nat} (h : l[i]? = some d) : dAt l i = d := by simp [dAt, h]
theorem dAt_none {l : List Nat} {i : Nat} (h : l.length ≤ i) : dAt l i = 0 := by simp [dAt, List.getElem?_eq_none h]
theorem dAt_lt {b : Nat} (hb : 0 < b) {l : List Nat} (h : ∀ d ∈ l, d < b) (i : Nat) : dAt l i < b := by
  unfold dAt
  cases e : l[i]? with
  | none => simpa using hb
  | some d => exact h d (List.mem_of_getElem? e)
theorem ofDg_nil (b : Nat) : ofDg b [] = 0 := rfl
theorem ofDg_cons (b d : Nat) (r : List Nat) : ofDg b (d :: r) = d + b * ofDg b r := rfl
theorem ofDg_append (b : Nat) (x y : List Nat) : ofDg b (x ++ y) = ofDg b x + b ^ x.length * ofDg b y := by
  induction x with
  | nil => simp [ofDg]
  | cons d r ih =>
    simp only [List.cons_append, ofDg_cons, ih, List.length_cons, Nat.pow_succ]
    rw [Nat.mul_add, Nat.add_assoc]
    congr 2
    rw [← Nat.mul_assoc, Nat.mul_comm b]
theorem ofDg_snoc (b : Nat) (x : List Nat) (d : Nat) : ofDg b (x ++ [d]) = ofDg b x + b ^ x.length * d := by
  rw [ofDg_append]; simp [ofDg]
theorem ofDg_lt (b : Nat) (_hb : 0 < b) (x : List Nat) (h : ∀ d ∈ x, d < b) : ofDg b x < b ^ x.length := by
  induction x with
  | nil => simp [ofDg]
  | cons d r ih =>
    have h1 := ih fun y hy => h y (by simp [hy])
    have h2 : d < b := h d (by simp)
    simp only [ofDg_cons, List.length_cons, Nat.pow_succ]
    have h3 : b * (ofDg b r + 1) ≤ b * b ^ r.length := Nat.mul_le_mul_left _ h1
    rw [Nat.mul_comm (b ^ r.length) b]
    rw [Nat.mul_add] at h3
    omega
theorem ofDg_drop (b : Nat) (l : List Nat) (k : Nat) : ofDg b (l.drop k) = dAt l k + b * ofDg b (l.drop (k + 1)) := by
  rcases Nat.lt_or_ge k l.length with h | h
  · rw [List.drop_eq_getElem_cons h, ofDg_cons]
    simp [dAt, h]
  · rw [List.drop_of_length_le h, List.drop_of_length_le (by omega), dAt_none h]; simp [ofDg]
theorem ofDg_take (b : Nat) (l : List Nat) (k : Nat) : ofDg b (l.take (k + 1)) = ofDg b (l.take k) + b ^ k * dAt l k := by
  rcases Nat.lt_or_ge k l.length with h | h
  · rw [List.take_succ_eq_append_getElem h, ofDg_snoc]
    simp [dAt, h, Nat.min_eq_left (Nat.le_of_lt h)]
  · rw [List.take_of_length_le h, List.take_of_length_le (by omega), dAt_none h]; simp
theorem ofDg_split (b : Nat) (l : List Nat) (k : Nat) : ofDg b l = ofDg b (l.take k) + b ^ k * ofDg b (l.drop k) := by
  induction k with
  | zero => simp [ofDg]
  | succ k ih =>
    rw [ofDg_take, ih, ofDg_drop b l k, Nat.mul_add, Nat.pow_succ, Nat.mul_assoc, ← Nat.add_assoc]
theorem ofDg_take_lt (b : Nat) (hb : 0 < b) (l : List Nat) (h : ∀ d ∈ l, d < b) (k : Nat) : ofDg b (l.take k) < b ^ k := by
  refine Nat.lt_of_lt_of_le (ofDg_lt b hb _ fun d hd => h d (List.mem_of_mem_take hd)) ?_
  exact Nat.pow_le_pow_right hb (by rw [List.length_take]; omega)

/-- The order of two numbers: -1, 0, 1. -/
def cmp (x y : Nat) : Int := if x < y then -1 else if x = y then 0 else 1
theorem cmp_lt {x y : Nat} (h : x < y) : cmp x y = -1 := by simp [cmp, h]
theorem cmp_gt {x y : Nat} (h : y < x) : cmp x y = 1 := by
  have h1 : ¬ x < y := by omega
  have h2 : ¬ x = y := by omega
  simp [cmp, h1, h2]
theorem cmp_eq {x y : Nat} (h : x = y) : cmp x y = 0 := by simp [cmp, h]

theorem lt_of_digit (b : Nat) (hb : 0 < b) (x y : List Nat) (hx : ∀ d ∈ x, d < b) (k : Nat) (he : ofDg b (x.drop (k + 1)) = ofDg b (y.drop (k + 1))) (h : dAt x k < dAt y k) : ofDg b x < ofDg b y := by
  rw [ofDg_split b x k, ofDg_split b y k, ofDg_drop b x k, ofDg_drop b y k, he]
  have h1 := ofDg_take_lt b hb x hx k
  generalize ofDg b (y.drop (k + 1)) = t
  have h2 : b ^ k * (dAt x k + b * t + 1) ≤ b ^ k * (dAt y k + b * t) := Nat.mul_le_mul_left _ (by omega)
  rw [Nat.mul_add, Nat.mul_one] at h2
  omega
theorem eq_step (b : Nat) (x y : List Nat) (k : Nat) (he : ofDg b (x.drop (k + 1)) = ofDg b (y.drop (k + 1))) (h : dAt x k = dAt y k) : ofDg b (x.drop k) = ofDg b (y.drop k) := by
  rw [ofDg_drop b x k, ofDg_drop b y k, he, h]
/-- A canonical list of n digits is not below b to the n - 1. -/
theorem can_ge (b : Nat) (_hb : 2 ≤ b) (l : List Nat) (h : Can b l) (h0 : 0 < l.length) : b ^ (l.length - 1) ≤ ofDg b l := by
  obtain ⟨r, d, rfl⟩ : ∃ r d, l = r ++ [d] := ⟨l.dropLast, l.getLast (List.ne_nil_of_length_pos h0), (List.dropLast_concat_getLast _).symm⟩
  have hd : d ≠ 0 := by simpa using h.2
  rw [ofDg_snoc]
  simp only [List.length_append, List.length_singleton, Nat.add_sub_cancel]
  have : b ^ r.length * 1 ≤ b ^ r.length * d := Nat.mul_le_mul_left _ (by omega)
  omega
theorem lt_of_shorter (b : Nat) (hb : 2 ≤ b) (x y : List Nat) (hx : Can b x) (hy : Can b y) (h : x.length < y.length) : ofDg b x < ofDg b y := by
  have h1 := ofDg_lt b (by omega) x hx.1
  have h2 := can_ge b hb y hy (by omega)
  have h3 : b ^ x.length ≤ b ^ (y.length - 1) := Nat.pow_le_pow_right (by omega) (by omega)
  omega
theorem dg_len_le (b : Nat) (hb : 2 ≤ b) {x y : Nat} (h : x ≤ y) : (dg b x).length ≤ (dg b y).length := by
  rcases Nat.lt_or_ge (dg b y).length (dg b x).length with h1 | h1
  · have := lt_of_shorter b hb _ _ (can_dg b hb y) (can_dg b hb x) h1
    rw [ofDg_dg b hb, ofDg_dg b hb] at this
    omega
  · exact h1
theorem dg_len_of_lt (b : Nat) (hb : 2 ≤ b) (n k : Nat) (h : n < b ^ k) : (dg b n).length ≤ k := by
  rcases Nat.lt_or_ge k (dg b n).length with h1 | h1
  · have h2 := can_ge b hb _ (can_dg b hb n) (by omega)
    rw [ofDg_dg b hb] at h2
    have h3 : b ^ k ≤ b ^ ((dg b n).length - 1) := Nat.pow_le_pow_right (by omega) (by omega)
    omega
  · exact h1

/-- Zeros cut off at the end. -/
theorem trim_is (b : Nat) (hb : 2 ≤ b) (l : List Nat) (hl : ∀ d ∈ l, d < b) (k : Nat) (hk : k ≤ l.length) (hz : ∀ i, k ≤ i → i < l.length → l[i]? = some 0) (hn : k = 0 ∨ l[k - 1]? ≠ some 0) : l.take k = dg b (ofDg b l) := by
  have h0 : ofDg b (l.drop k) = 0 := by
    have : ∀ (r : List Nat), (∀ d ∈ r, d = 0) → ofDg b r = 0 := by
      intro r
      induction r with
      | nil => intro _; rfl
      | cons d r ih => intro h; rw [ofDg_cons, ih fun x hx => h x (by simp [hx]), h d (by simp)]; simp
    refine this _ fun d hd => ?_
    obtain ⟨i, hi⟩ := List.mem_iff_getElem?.1 hd
    rw [List.getElem?_drop] at hi
    have hlt : k + i < l.length := (List.getElem?_eq_some_iff.1 hi).1
    rw [hz (k + i) (by omega) hlt] at hi
    injection hi with hi
    exact hi.symm
  have hv : ofDg b l = ofDg b (l.take k) := by rw [ofDg_split b l k, h0]; simp
  rw [hv, dg_ofDg b hb]
  refine ⟨fun d hd => hl d (List.mem_of_mem_take hd), ?_⟩
  rcases hn with rfl | hn
  · simp
  · intro he
    rw [List.getLast?_eq_getElem?, List.length_take, Nat.min_eq_left hk] at he
    rcases Nat.eq_zero_or_pos k with h1 | h1
    · subst h1; simp at he
    · rw [List.getElem?_take, if_pos (by omega)] at he
      exact hn he

/-- One digit of a sum. -/
theorem plus_step (b : Nat) (hb : 2 ≤ b) (x y out : List Nat) (k carry : Nat) (hx : ∀ d ∈ x, d < b) (hy : ∀ d ∈ y, d < b) (hc : carry ≤ 1) (hlen : out.length = k)
    (hv : ofDg b out + b ^ k * carry = ofDg b (x.take k) + ofDg b (y.take k)) :
    ofDg b (out ++ [(dAt x k + dAt y k + carry) % b]) + b ^ (k + 1) * ((dAt x k + dAt y k + carry) / b) = ofDg b (x.take (k + 1)) + ofDg b (y.take (k + 1)) ∧ (dAt x k + dAt y k + carry) / b ≤ 1 := by
  have h1 := dAt_lt (b := b) (by omega) hx k
  have h2 := dAt_lt (b := b) (by omega) hy k
  refine ⟨?_, ?_⟩
  · rw [ofDg_snoc, hlen, ofDg_take, ofDg_take, Nat.pow_succ, Nat.mul_assoc, Nat.add_assoc, ← Nat.mul_add, Nat.add_comm (_ % b), Nat.div_add_mod, Nat.mul_add, Nat.mul_add]
    omega
  · have : (dAt x k + dAt y k + carry) / b < 2 := by
      rw [Nat.div_lt_iff_lt_mul (by omega)]; omega
    omega
/-- One digit of a difference. -/
theorem minus_step (b : Nat) (x y out : List Nat) (k borrow d borrow' : Nat) (hlen : out.length = k)
    (hv : ofDg b out + ofDg b (y.take k) = ofDg b (x.take k) + b ^ k * borrow) (hd : d + dAt y k + borrow = dAt x k + b * borrow') :
    ofDg b (out ++ [d]) + ofDg b (y.take (k + 1)) = ofDg b (x.take (k + 1)) + b ^ (k + 1) * borrow' := by
  rw [ofDg_snoc, hlen, ofDg_take, ofDg_take, Nat.pow_succ, Nat.mul_assoc]
  have h : b ^ k * (d + dAt y k + borrow) = b ^ k * (dAt x k + b * borrow') := by rw [hd]
  rw [Nat.mul_add, Nat.mul_add, Nat.mul_add] at h
  omega
/-- A difference's last borrow is 0, as the subtrahend is not greater. -/
theorem minus_end (b : Nat) (hb : 0 < b) (x y out : List Nat) (borrow : Nat) (hout : ∀ d ∈ out, d < b) (hlen : out.length = x.length) (hle : ofDg b y ≤ ofDg b x) (hyl : y.length ≤ x.length)
    (hv : ofDg b out + ofDg b (y.take x.length) = ofDg b (x.take x.length) + b ^ x.length * borrow) : ofDg b out = ofDg b x - ofDg b y := by
  have h1 := ofDg_lt b hb out hout
  rw [hlen] at h1
  rw [List.take_of_length_le (Nat.le_refl _), List.take_of_length_le hyl] at hv
  rcases Nat.eq_zero_or_pos borrow with h0 | h0
  · subst h0; omega
  · have : b ^ x.length * 1 ≤ b ^ x.length * borrow := Nat.mul_le_mul_left _ h0
    omega
end Z
end Go.Proofs.Ythafdckomhdlbaa
