/- Zi: Znum Zcmp Zmul Zdiv Ztxt Zdec Zwr Zgrp Zref -/
/- Plain lists and integers: decimal texts, and digits to a base. No program in sight. -/
namespace Go.Proofs.YtifafmomkpkgdaaDoor
namespace Z

/-- Digits to the base b, the least one first, none for 0. -/
def dgF (b : Nat) : Nat → Nat → List Nat
  | 0, _ => []
  | f + 1, n => if n = 0 then [] else (n % b) :: dgF b f (n / b)
def dg (b n : Nat) : List Nat := dgF b n n
/-- The number of digits, the least one first. -/
def ofDg (b : Nat) : List Nat → Nat
  | [] => 0
  | d :: r => d + b * ofDg b r
/-- Digits without zeros at the end. -/
def Can (b : Nat) (l : List Nat) : Prop := (∀ d ∈ l, d < b) ∧ l.getLast? ≠ some 0

theorem dgF_more (b : Nat) (hb : 2 ≤ b) : ∀ (f g n : Nat), n ≤ f → n ≤ g → dgF b f n = dgF b g n := by
  intro f
  induction f with
  | zero =>
    intro g n hf _
    obtain rfl : n = 0 := by omega
    cases g with
    | zero => rfl
    | succ g => simp [dgF]
  | succ f ih =>
    intro g n hf hg
    by_cases h0 : n = 0
    · subst h0
      cases g with
      | zero => simp [dgF]
      | succ g => simp [dgF]
    · cases g with
      | zero => omega
      | succ g =>
        have hlt : n / b < n := Nat.div_lt_self (by omega) (by omega)
        simp only [dgF, if_neg h0]
        rw [ih g (n / b) (by omega) (by omega)]
theorem dg_zero (b : Nat) : dg b 0 = [] := rfl
theorem dg_pos (b n : Nat) (hb : 2 ≤ b) (hn : 0 < n) : dg b n = (n % b) :: dg b (n / b) := by
  unfold dg
  obtain ⟨m, rfl⟩ : ∃ m, n = m + 1 := ⟨n - 1, by omega⟩
  have hlt : (m + 1) / b < m + 1 := Nat.div_lt_self (by omega) (by omega)
  rw [show dgF b (m + 1) (m + 1) = ((m + 1) % b) :: dgF b m ((m + 1) / b) from by simp [dgF]]
  rw [dgF_more b hb m ((m + 1) / b) ((m + 1) / b) (by omega) (by omega)]
theorem dg_ind (b : Nat) (hb : 2 ≤ b) (p : Nat → Prop) (h0 : p 0) (h1 : ∀ n, 0 < n → p (n / b) → p n) (n : Nat) : p n := by
  induction n using Nat.strongRecOn with
  | _ n ih =>
    by_cases h : n = 0
    · subst h; exact h0
    · exact h1 n (by omega) (ih (n / b) (Nat.div_lt_self (by omega) (by omega)))
theorem ofDg_dg (b : Nat) (hb : 2 ≤ b) (n : Nat) : ofDg b (dg b n) = n := by
  refine dg_ind b hb (fun n => ofDg b (dg b n) = n) rfl (fun n hn ih => ?_) n
  show ofDg b (dg b n) = n
  rw [dg_pos b n hb hn]
  show n % b + b * ofDg b (dg b (n / b)) = n
  rw [ih]
  have := Nat.div_add_mod n b
  omega
theorem dg_lt (b : Nat) (hb : 2 ≤ b) (n : Nat) : ∀ d ∈ dg b n, d < b := by
  refine dg_ind b hb (fun n => ∀ d ∈ dg b n, d < b) (by simp [dg_zero]) (fun n hn ih => ?_) n
  intro d hd
  rw [dg_pos b n hb hn] at hd
  rcases List.mem_cons.1 hd with rfl | h
  · exact Nat.mod_lt _ (by omega)
  · exact ih d h
theorem dg_eq_nil (b : Nat) (hb : 2 ≤ b) (n : Nat) : dg b n = [] ↔ n = 0 := by
  constructor
  · intro h
    by_cases h0 : n = 0
    · exact h0
    · rw [dg_pos b n hb (by omega)] at h; cases h
  · rintro rfl; rfl
theorem dg_last (b : Nat) (hb : 2 ≤ b) (n : Nat) : (dg b n).getLast? ≠ some 0 := by
  refine dg_ind b hb (fun n => (dg b n).getLast? ≠ some 0) (by simp [dg_zero]) (fun n hn ih => ?_) n
  show (dg b n).getLast? ≠ some 0
  rw [dg_pos b n hb hn]
  by_cases h : n / b = 0
  · rw [h, dg_zero]
    have hlt : n < b := by
      rcases Nat.div_eq_zero_iff.1 h with h | h <;> omega
    simp [Nat.mod_eq_of_lt hlt]
    omega
  · have hne : dg b (n / b) ≠ [] := fun e => h ((dg_eq_nil b hb _).1 e)
    rw [List.getLast?_cons_of_ne_nil hne]
    exact ih
theorem can_dg (b : Nat) (hb : 2 ≤ b) (n : Nat) : Can b (dg b n) := ⟨dg_lt b hb n, dg_last b hb n⟩
theorem dg_ofDg (b : Nat) (hb : 2 ≤ b) (l : List Nat) (h : Can b l) : dg b (ofDg b l) = l := by
  induction l with
  | nil => rfl
  | cons d r ih =>
    obtain ⟨hd, hl⟩ := h
    have hdb : d < b := hd d (by simp)
    by_cases hr : r = []
    · subst hr
      have hd0 : d ≠ 0 := by simpa using hl
      show dg b (d + b * 0) = [d]
      rw [Nat.mul_zero, Nat.add_zero, dg_pos b d hb (by omega), Nat.mod_eq_of_lt hdb, Nat.div_eq_of_lt hdb, dg_zero]
    · have hcan : Can b r := ⟨fun x hx => hd x (by simp [hx]), by rwa [List.getLast?_cons_of_ne_nil hr] at hl⟩
      have hih := ih hcan
      have hpos : 0 < ofDg b r := by
        rcases Nat.eq_zero_or_pos (ofDg b r) with h0 | h0
        · rw [h0, dg_zero] at hih; exact absurd hih.symm hr
        · exact h0
      have hp : 0 < b * ofDg b r := Nat.mul_pos (by omega) hpos
      show dg b (d + b * ofDg b r) = d :: r
      rw [dg_pos b _ hb (by omega), Nat.add_mul_mod_self_left, Nat.mod_eq_of_lt hdb, Nat.add_mul_div_left _ _ (by omega), Nat.div_eq_of_lt hdb, Nat.zero_add, hih]

end Z
end Go.Proofs.YtifafmomkpkgdaaDoor
/- Plain lists and integers: digits: cut, compared, added, subtracted. -/

namespace Go.Proofs.YtifafmomkpkgdaaDoor
namespace Z

/-- A digit, 0 beyond the end. -/
def dAt (l : List Nat) (i : Nat) : Nat := l[i]?.getD 0
theorem dAt_some {l : List Nat} {i d : Nat} (h : l[i]? = some d) : dAt l i = d := by simp [dAt, h]
theorem dAt_none {l : List Nat} {i : Nat} (h : l.length ≤ i) : dAt l i = 0 := by simp [dAt, List.getElem?_eq_none h]
theorem dAt_lt {b : Nat} (hb : 0 < b) {l : List Nat} (h : ∀ d ∈ l, d < b) (i : Nat) : dAt l i < b := by
  unfold dAt
  cases e : l[i]? with
  | none => simpa using hb
  | some d => exact h d (List.mem_of_getElem? e)
theorem ofDg_nil (b : Nat) : ofDg b [] = 0 := rfl
theorem ofDg_cons (b d : Nat) (r : List Nat) : ofDg b (d :: r) = d + b * ofDg b r := rfl
theorem ofDg_append (b : Nat) (x y : List Nat) : ofDg b (x ++ y) = ofDg b x + b ^ x.length * ofDg b y := by
  induction x with
  | nil => simp [ofDg]
  | cons d r ih =>
    simp only [List.cons_append, ofDg_cons, ih, List.length_cons, Nat.pow_succ]
    rw [Nat.mul_add, Nat.add_assoc]
    congr 2
    rw [← Nat.mul_assoc, Nat.mul_comm b]
theorem ofDg_snoc (b : Nat) (x : List Nat) (d : Nat) : ofDg b (x ++ [d]) = ofDg b x + b ^ x.length * d := by
  rw [ofDg_append]; simp [ofDg]
theorem ofDg_lt (b : Nat) (_hb : 0 < b) (x : List Nat) (h : ∀ d ∈ x, d < b) : ofDg b x < b ^ x.length := by
  induction x with
  | nil => simp [ofDg]
  | cons d r ih =>
    have h1 := ih fun y hy => h y (by simp [hy])
    have h2 : d < b := h d (by simp)
    simp only [ofDg_cons, List.length_cons, Nat.pow_succ]
    have h3 : b * (ofDg b r + 1) ≤ b * b ^ r.length := Nat.mul_le_mul_left _ h1
    rw [Nat.mul_comm (b ^ r.length) b]
    rw [Nat.mul_add] at h3
    omega
theorem ofDg_drop (b : Nat) (l : List Nat) (k : Nat) : ofDg b (l.drop k) = dAt l k + b * ofDg b (l.drop (k + 1)) := by
  rcases Nat.lt_or_ge k l.length with h | h
  · rw [List.drop_eq_getElem_cons h, ofDg_cons]
    simp [dAt, h]
  · rw [List.drop_of_length_le h, List.drop_of_length_le (by omega), dAt_none h]; simp [ofDg]
theorem ofDg_take (b : Nat) (l : List Nat) (k : Nat) : ofDg b (l.take (k + 1)) = ofDg b (l.take k) + b ^ k * dAt l k := by
  rcases Nat.lt_or_ge k l.length with h | h
  · rw [List.take_succ_eq_append_getElem h, ofDg_snoc]
    simp [dAt, h, Nat.min_eq_left (Nat.le_of_lt h)]
  · rw [List.take_of_length_le h, List.take_of_length_le (by omega), dAt_none h]; simp
theorem ofDg_split (b : Nat) (l : List Nat) (k : Nat) : ofDg b l = ofDg b (l.take k) + b ^ k * ofDg b (l.drop k) := by
  induction k with
  | zero => simp [ofDg]
  | succ k ih =>
    rw [ofDg_take, ih, ofDg_drop b l k, Nat.mul_add, Nat.pow_succ, Nat.mul_assoc, ← Nat.add_assoc]
theorem ofDg_take_lt (b : Nat) (hb : 0 < b) (l : List Nat) (h : ∀ d ∈ l, d < b) (k : Nat) : ofDg b (l.take k) < b ^ k := by
  refine Nat.lt_of_lt_of_le (ofDg_lt b hb _ fun d hd => h d (List.mem_of_mem_take hd)) ?_
  exact Nat.pow_le_pow_right hb (by rw [List.length_take]; omega)

/-- The order of two numbers: -1, 0, 1. -/
def cmp (x y : Nat) : Int := if x < y then -1 else if x = y then 0 else 1
theorem cmp_lt {x y : Nat} (h : x < y) : cmp x y = -1 := by simp [cmp, h]
theorem cmp_gt {x y : Nat} (h : y < x) : cmp x y = 1 := by
  have h1 : ¬ x < y := by omega
  have h2 : ¬ x = y := by omega
  simp [cmp, h1, h2]
theorem cmp_eq {x y : Nat} (h : x = y) : cmp x y = 0 := by simp [cmp, h]

theorem lt_of_digit (b : Nat) (hb : 0 < b) (x y : List Nat) (hx : ∀ d ∈ x, d < b) (k : Nat) (he : ofDg b (x.drop (k + 1)) = ofDg b (y.drop (k + 1))) (h : dAt x k < dAt y k) : ofDg b x < ofDg b y := by
  rw [ofDg_split b x k, ofDg_split b y k, ofDg_drop b x k, ofDg_drop b y k, he]
  have h1 := ofDg_take_lt b hb x hx k
  generalize ofDg b (y.drop (k + 1)) = t
  have h2 : b ^ k * (dAt x k + b * t + 1) ≤ b ^ k * (dAt y k + b * t) := Nat.mul_le_mul_left _ (by omega)
  rw [Nat.mul_add, Nat.mul_one] at h2
  omega
theorem eq_step (b : Nat) (x y : List Nat) (k : Nat) (he : ofDg b (x.drop (k + 1)) = ofDg b (y.drop (k + 1))) (h : dAt x k = dAt y k) : ofDg b (x.drop k) = ofDg b (y.drop k) := by
  rw [ofDg_drop b x k, ofDg_drop b y k, he, h]
/-- A canonical list of n digits is not below b to the n - 1. -/
theorem can_ge (b : Nat) (_hb : 2 ≤ b) (l : List Nat) (h : Can b l) (h0 : 0 < l.length) : b ^ (l.length - 1) ≤ ofDg b l := by
  obtain ⟨r, d, rfl⟩ : ∃ r d, l = r ++ [d] := ⟨l.dropLast, l.getLast (List.ne_nil_of_length_pos h0), (List.dropLast_concat_getLast _).symm⟩
  have hd : d ≠ 0 := by simpa using h.2
  rw [ofDg_snoc]
  simp only [List.length_append, List.length_singleton, Nat.add_sub_cancel]
  have : b ^ r.length * 1 ≤ b ^ r.length * d := Nat.mul_le_mul_left _ (by omega)
  omega
theorem lt_of_shorter (b : Nat) (hb : 2 ≤ b) (x y : List Nat) (hx : Can b x) (hy : Can b y) (h : x.length < y.length) : ofDg b x < ofDg b y := by
  have h1 := ofDg_lt b (by omega) x hx.1
  have h2 := can_ge b hb y hy (by omega)
  have h3 : b ^ x.length ≤ b ^ (y.length - 1) := Nat.pow_le_pow_right (by omega) (by omega)
  omega
theorem dg_len_le (b : Nat) (hb : 2 ≤ b) {x y : Nat} (h : x ≤ y) : (dg b x).length ≤ (dg b y).length := by
  rcases Nat.lt_or_ge (dg b y).length (dg b x).length with h1 | h1
  · have := lt_of_shorter b hb _ _ (can_dg b hb y) (can_dg b hb x) h1
    rw [ofDg_dg b hb, ofDg_dg b hb] at this
    omega
  · exact h1
theorem dg_len_of_lt (b : Nat) (hb : 2 ≤ b) (n k : Nat) (h : n < b ^ k) : (dg b n).length ≤ k := by
  rcases Nat.lt_or_ge k (dg b n).length with h1 | h1
  · have h2 := can_ge b hb _ (can_dg b hb n) (by omega)
    rw [ofDg_dg b hb] at h2
    have h3 : b ^ k ≤ b ^ ((dg b n).length - 1) := Nat.pow_le_pow_right (by omega) (by omega)
    omega
  · exact h1

/-- Zeros cut off at the end. -/
theorem trim_is (b : Nat) (hb : 2 ≤ b) (l : List Nat) (hl : ∀ d ∈ l, d < b) (k : Nat) (hk : k ≤ l.length) (hz : ∀ i, k ≤ i → i < l.length → l[i]? = some 0) (hn : k = 0 ∨ l[k - 1]? ≠ some 0) : l.take k = dg b (ofDg b l) := by
  have h0 : ofDg b (l.drop k) = 0 := by
    have : ∀ (r : List Nat), (∀ d ∈ r, d = 0) → ofDg b r = 0 := by
      intro r
      induction r with
      | nil => intro _; rfl
      | cons d r ih => intro h; rw [ofDg_cons, ih fun x hx => h x (by simp [hx]), h d (by simp)]; simp
    refine this _ fun d hd => ?_
    obtain ⟨i, hi⟩ := List.mem_iff_getElem?.1 hd
    rw [List.getElem?_drop] at hi
    have hlt : k + i < l.length := (List.getElem?_eq_some_iff.1 hi).1
    rw [hz (k + i) (by omega) hlt] at hi
    injection hi with hi
    exact hi.symm
  have hv : ofDg b l = ofDg b (l.take k) := by rw [ofDg_split b l k, h0]; simp
  rw [hv, dg_ofDg b hb]
  refine ⟨fun d hd => hl d (List.mem_of_mem_take hd), ?_⟩
  rcases hn with rfl | hn
  · simp
  · intro he
    rw [List.getLast?_eq_getElem?, List.length_take, Nat.min_eq_left hk] at he
    rcases Nat.eq_zero_or_pos k with h1 | h1
    · subst h1; simp at he
    · rw [List.getElem?_take, if_pos (by omega)] at he
      exact hn he

/-- One digit of a sum. -/
theorem plus_step (b : Nat) (hb : 2 ≤ b) (x y out : List Nat) (k carry : Nat) (hx : ∀ d ∈ x, d < b) (hy : ∀ d ∈ y, d < b) (hc : carry ≤ 1) (hlen : out.length = k)
    (hv : ofDg b out + b ^ k * carry = ofDg b (x.take k) + ofDg b (y.take k)) :
    ofDg b (out ++ [(dAt x k + dAt y k + carry) % b]) + b ^ (k + 1) * ((dAt x k + dAt y k + carry) / b) = ofDg b (x.take (k + 1)) + ofDg b (y.take (k + 1)) ∧ (dAt x k + dAt y k + carry) / b ≤ 1 := by
  have h1 := dAt_lt (b := b) (by omega) hx k
  have h2 := dAt_lt (b := b) (by omega) hy k
  refine ⟨?_, ?_⟩
  · rw [ofDg_snoc, hlen, ofDg_take, ofDg_take, Nat.pow_succ, Nat.mul_assoc, Nat.add_assoc, ← Nat.mul_add, Nat.add_comm (_ % b), Nat.div_add_mod, Nat.mul_add, Nat.mul_add]
    omega
  · have : (dAt x k + dAt y k + carry) / b < 2 := by
      rw [Nat.div_lt_iff_lt_mul (by omega)]; omega
    omega
/-- One digit of a difference. -/
theorem minus_step (b : Nat) (x y out : List Nat) (k borrow d borrow' : Nat) (hlen : out.length = k)
    (hv : ofDg b out + ofDg b (y.take k) = ofDg b (x.take k) + b ^ k * borrow) (hd : d + dAt y k + borrow = dAt x k + b * borrow') :
    ofDg b (out ++ [d]) + ofDg b (y.take (k + 1)) = ofDg b (x.take (k + 1)) + b ^ (k + 1) * borrow' := by
  rw [ofDg_snoc, hlen, ofDg_take, ofDg_take, Nat.pow_succ, Nat.mul_assoc]
  have h : b ^ k * (d + dAt y k + borrow) = b ^ k * (dAt x k + b * borrow') := by rw [hd]
  rw [Nat.mul_add, Nat.mul_add, Nat.mul_add] at h
  omega
/-- A difference's last borrow is 0, as the subtrahend is not greater. -/
theorem minus_end (b : Nat) (hb : 0 < b) (x y out : List Nat) (borrow : Nat) (hout : ∀ d ∈ out, d < b) (hlen : out.length = x.length) (hle : ofDg b y ≤ ofDg b x) (hyl : y.length ≤ x.length)
    (hv : ofDg b out + ofDg b (y.take x.length) = ofDg b (x.take x.length) + b ^ x.length * borrow) : ofDg b out = ofDg b x - ofDg b y := by
  have h1 := ofDg_lt b hb out hout
  rw [hlen] at h1
  rw [List.take_of_length_le (Nat.le_refl _), List.take_of_length_le hyl] at hv
  rcases Nat.eq_zero_or_pos borrow with h0 | h0
  · subst h0; omega
  · have : b ^ x.length * 1 ≤ b ^ x.length * borrow := Nat.mul_le_mul_left _ h0
    omega
end Z
end Go.Proofs.YtifafmomkpkgdaaDoor
/- Plain lists and integers: digits: multiplied, divided by one digit, a digit of a quotient guessed. -/

namespace Go.Proofs.YtifafmomkpkgdaaDoor
namespace Z

theorem ofDg_set (b : Nat) (l : List Nat) (k d : Nat) (h : k < l.length) : ofDg b (l.set k d) + b ^ k * dAt l k = ofDg b l + b ^ k * d := by
  induction l generalizing k with
  | nil => simp at h
  | cons x r ih =>
    cases k with
    | zero => simp [ofDg, dAt]; omega
    | succ k =>
      have h1 := ih k (by simpa using h)
      simp only [List.set_cons_succ, ofDg_cons, Nat.pow_succ]
      have e : dAt (x :: r) (k + 1) = dAt r k := by simp [dAt]
      rw [e]
      have h2 : b * (ofDg b (r.set k d) + b ^ k * dAt r k) = b * (ofDg b r + b ^ k * d) := by rw [h1]
      rw [Nat.mul_add, Nat.mul_add, ← Nat.mul_assoc, ← Nat.mul_assoc, Nat.mul_comm b (b ^ k)] at h2
      omega
theorem dAt_set (l : List Nat) (k d i : Nat) (h : k < l.length) : dAt (l.set k d) i = if i = k then d else dAt l i := by
  unfold dAt
  rw [List.getElem?_set]
  by_cases e : k = i
  · subst e; simp [h]
  · rw [if_neg e, if_neg (fun h => e h.symm)]
theorem set_lt {b : Nat} {l : List Nat} {k d : Nat} (h : ∀ x ∈ l, x < b) (hd : d < b) : ∀ x ∈ l.set k d, x < b := by
  intro x hx
  rcases List.mem_or_eq_of_mem_set hx with hx | hx
  · exact h x hx
  · rw [hx]; exact hd
theorem dAt_eq {l : List Nat} {i : Nat} (h : i < l.length) : l[i]? = some (dAt l i) := by simp [dAt, h]
theorem ofDg_replicate (b n : Nat) : ofDg b (List.replicate n 0) = 0 := by
  induction n with
  | zero => rfl
  | succ n ih => rw [List.replicate_succ, ofDg_cons, ih]; simp
theorem dAt_replicate (n i : Nat) : dAt (List.replicate n 0) i = 0 := by
  unfold dAt
  rw [List.getElem?_replicate]
  split <;> rfl

/-- One product of a digit with a digit, put into its place. -/
theorem times_inner (b : Nat) (hb : 2 ≤ b) (ys out : List Nat) (S x i j c : Nat) (hx : x < b) (hy : ∀ d ∈ ys, d < b) (ho : ∀ d ∈ out, d < b) (hc : c < b) (hlt : i + j < out.length)
    (hv : ofDg b out + b ^ (i + j) * c = S + b ^ i * (x * ofDg b (ys.take j))) :
    (x * dAt ys j + dAt out (i + j) + c) / b < b ∧
    ofDg b (out.set (i + j) ((x * dAt ys j + dAt out (i + j) + c) % b)) + b ^ (i + (j + 1)) * ((x * dAt ys j + dAt out (i + j) + c) / b) = S + b ^ i * (x * ofDg b (ys.take (j + 1))) := by
  have h1 := dAt_lt (b := b) (by omega) hy j
  have h2 := dAt_lt (b := b) (by omega) ho (i + j)
  generalize hyj : dAt ys j = y at *
  generalize hoj : dAt out (i + j) = o at *
  refine ⟨?_, ?_⟩
  · rw [Nat.div_lt_iff_lt_mul (by omega)]
    have h3 : x * y ≤ (b - 1) * (b - 1) := Nat.mul_le_mul (by omega) (by omega)
    obtain ⟨a, rfl⟩ : ∃ a, b = a + 1 := ⟨b - 1, by omega⟩
    simp only [Nat.add_sub_cancel] at h3
    have h4 : (a + 1) * (a + 1) = a * a + 2 * a + 1 := by rw [Nat.add_mul, Nat.mul_add]; omega
    omega
  · have hs := ofDg_set b out (i + j) ((x * y + o + c) % b) hlt
    rw [hoj] at hs
    have hp : b ^ (i + (j + 1)) = b ^ (i + j) * b := by rw [← Nat.add_assoc, Nat.pow_succ]
    rw [hp, Nat.mul_assoc, ofDg_take, hyj]
    have e : b ^ (i + j) * ((x * y + o + c) % b) + b ^ (i + j) * (b * ((x * y + o + c) / b)) = b ^ (i + j) * (x * y + o + c) := by
      rw [← Nat.mul_add, Nat.mod_add_div]
    have e2 : b ^ i * (x * (ofDg b (ys.take j) + b ^ j * y)) = b ^ i * (x * ofDg b (ys.take j)) + b ^ (i + j) * (x * y) := by
      rw [Nat.mul_add, Nat.mul_add, Nat.pow_add]
      congr 1
      rw [Nat.mul_left_comm x, Nat.mul_assoc]
    rw [e2]
    rw [Nat.mul_add, Nat.mul_add] at e
    omega
/-- The last carry of a row. -/
theorem times_outer (b : Nat) (xs ys out : List Nat) (i c : Nat) (hlt : i + ys.length < out.length) (hz : dAt out (i + ys.length) = 0)
    (hv : ofDg b out + b ^ (i + ys.length) * c = ofDg b (xs.take i) * ofDg b ys + b ^ i * (dAt xs i * ofDg b (ys.take ys.length))) :
    ofDg b (out.set (i + ys.length) c) = ofDg b (xs.take (i + 1)) * ofDg b ys := by
  have hs := ofDg_set b out (i + ys.length) c hlt
  rw [hz, Nat.mul_zero, Nat.add_zero] at hs
  rw [hs, hv, List.take_of_length_le (Nat.le_refl _), ofDg_take, Nat.add_mul, Nat.mul_assoc]

/-- One digit of a division by a digit. -/
theorem short_step (b : Nat) (l q : List Nat) (k rest d : Nat) (hd : 0 < d) (hlt : k < l.length) (hq : q.length = l.length) (hb : dAt l k < b) (hr : rest < d)
    (hv : ofDg b (l.drop (k + 1)) = ofDg b (q.drop (k + 1)) * d + rest) :
    ofDg b (l.drop k) = ofDg b ((q.set k ((rest * b + dAt l k) / d)).drop k) * d + (rest * b + dAt l k) % d ∧ (rest * b + dAt l k) / d < b ∧ (rest * b + dAt l k) % d < d := by
  refine ⟨?_, ?_, Nat.mod_lt _ hd⟩
  · rw [ofDg_drop b l k, ofDg_drop b (q.set k _) k, dAt_set _ _ _ _ (by omega), if_pos rfl, hv]
    have e : (q.set k ((rest * b + dAt l k) / d)).drop (k + 1) = q.drop (k + 1) := by
      rw [List.drop_set_of_lt (by omega)]
    rw [e, Nat.add_mul, Nat.add_right_comm, Nat.mul_comm ((rest * b + dAt l k) / d) d, Nat.div_add_mod, Nat.mul_add, Nat.mul_comm b rest, Nat.mul_assoc]
    omega
  · rw [Nat.div_lt_iff_lt_mul hd, Nat.mul_comm b d]
    have : (rest + 1) * b ≤ d * b := Nat.mul_le_mul_right _ hr
    rw [Nat.add_mul] at this
    omega
theorem div_of (n d q r : Nat) (hd : r < d) (h : n = q * d + r) : n / d = q ∧ n % d = r := by
  subst h
  rw [Nat.mul_comm q d]
  exact ⟨by rw [Nat.mul_add_div (by omega), Nat.div_eq_of_lt hd]; omega, by rw [Nat.mul_add_mod, Nat.mod_eq_of_lt hd]⟩

/-- The digit that is guessed: of three leading digits by two. -/
def gs (b t u v y z : Nat) : Nat := min (b - 1) (((t * b + u) * b + v) / (y * b + z))
/-- What holds while it is lowered. -/
theorem gs_start (b t u v y z : Nat) (hy : 0 < y) (hv : v < b) : gs b t u v y z ≤ (t * b + u) / y := by
  refine Nat.le_trans (Nat.min_le_right _ _) ?_
  rw [Nat.le_div_iff_mul_le hy]
  have h1 : ((t * b + u) * b + v) / (y * b + z) * (y * b + z) ≤ (t * b + u) * b + v := Nat.div_mul_le_self _ _
  generalize ((t * b + u) * b + v) / (y * b + z) = q at *
  generalize t * b + u = top at *
  rcases Nat.lt_or_ge top (q * y) with h | h
  · exfalso
    have h2 : (top + 1) * b ≤ q * y * b := Nat.mul_le_mul_right _ h
    rw [Nat.add_mul] at h2
    rw [Nat.mul_add, ← Nat.mul_assoc] at h1
    omega
  · exact h
theorem gs_lower (b t u v y z q r : Nat) (hy : 0 < y) (hb : 0 < b) (hq : q * y + r = t * b + u) (hbad : b ≤ q ∨ r * b + v < q * z) (h : gs b t u v y z ≤ q) : gs b t u v y z ≤ q - 1 ∧ 0 < q := by
  have hlt : gs b t u v y z < q := by
    rcases hbad with h1 | h1
    · have : gs b t u v y z ≤ b - 1 := Nat.min_le_left _ _
      omega
    · have h2 : gs b t u v y z ≤ ((t * b + u) * b + v) / (y * b + z) := Nat.min_le_right _ _
      have h3 : ((t * b + u) * b + v) / (y * b + z) < q := by
        rw [Nat.div_lt_iff_lt_mul (Nat.lt_of_lt_of_le (Nat.mul_pos hy hb) (Nat.le_add_right _ _)), ← hq, Nat.add_mul, Nat.mul_add, Nat.mul_assoc]
        omega
      omega
  exact ⟨by omega, by omega⟩
theorem gs_done (b t u v y z q r : Nat) (hb : 0 < b) (hy : 0 < y) (hq : q * y + r = t * b + u) (h1 : q < b) (h2 : q * z ≤ r * b + v) (h : gs b t u v y z ≤ q) : gs b t u v y z = q := by
  refine Nat.le_antisymm h ?_
  unfold gs
  refine Nat.le_min.2 ⟨by omega, ?_⟩
  rw [Nat.le_div_iff_mul_le (Nat.lt_of_lt_of_le (Nat.mul_pos hy hb) (Nat.le_add_right _ _)), ← hq, Nat.add_mul, Nat.mul_add, Nat.mul_assoc]
  omega
/-- The guessed digit is the quotient's, or one greater. -/
theorem gs_near (b t u v y z P r s W V : Nat) (hb : 0 < b) (hy : 0 < y) (hr : r < P) (hs : s < P) (hW : W = ((t * b + u) * b + v) * P + r) (hV : V = (y * b + z) * P + s) (hlt : W < V * b) :
    W / V ≤ gs b t u v y z ∧ gs b t u v y z ≤ W / V + 1 := by
  have hyb : 0 < y * b := Nat.mul_pos hy hb
  have hVp : 0 < V := by
    rw [hV]
    exact Nat.lt_of_lt_of_le (Nat.mul_pos (by omega : 0 < y * b + z) (by omega)) (Nat.le_add_right _ _)
  refine ⟨Nat.le_min.2 ⟨?_, ?_⟩, ?_⟩
  · have : W / V < b := by rw [Nat.div_lt_iff_lt_mul hVp, Nat.mul_comm b V]; exact hlt
    exact Nat.le_sub_one_of_lt this
  · rw [Nat.le_div_iff_mul_le (by omega)]
    have h1 : W / V * V ≤ W := Nat.div_mul_le_self _ _
    generalize W / V = q at *
    rcases Nat.lt_or_ge ((t * b + u) * b + v) (q * (y * b + z)) with h | h
    · exfalso
      have h2 : ((t * b + u) * b + v + 1) * P ≤ q * (y * b + z) * P := Nat.mul_le_mul_right _ h
      rw [Nat.add_mul _ 1] at h2
      rw [hV, Nat.mul_add, ← Nat.mul_assoc] at h1
      omega
    · exact h
  · have h2 : gs b t u v y z ≤ ((t * b + u) * b + v) / (y * b + z) := Nat.min_le_right _ _
    have h3 : gs b t u v y z ≤ b - 1 := Nat.min_le_left _ _
    generalize gs b t u v y z = g at *
    rw [Nat.le_div_iff_mul_le (by omega)] at h2
    rcases Nat.eq_zero_or_pos g with h0 | h0
    · rw [h0]; exact Nat.zero_le _
    · have h4 : g - 1 ≤ W / V := by
        rw [Nat.le_div_iff_mul_le hVp]
        have h5 : g * (y * b + z) * P ≤ ((t * b + u) * b + v) * P := Nat.mul_le_mul_right _ h2
        have h6 : g * s ≤ b * P := Nat.mul_le_mul (by omega) (by omega)
        have h7 : b * P ≤ V := by
          rw [hV, Nat.add_mul]
          have : 1 * b * P ≤ y * b * P := Nat.mul_le_mul_right _ (Nat.mul_le_mul_right _ hy)
          rw [Nat.one_mul] at this
          omega
        have h8 : g * V = g * (y * b + z) * P + g * s := by rw [hV, Nat.mul_add, ← Nat.mul_assoc]
        have h9 : (g - 1) * V + V = g * V := by
          obtain ⟨a, rfl⟩ : ∃ a, g = a + 1 := ⟨g - 1, by omega⟩
          rw [Nat.add_sub_cancel, Nat.add_mul, Nat.one_mul]
        omega
      generalize W / V = q at *
      omega
end Z
end Go.Proofs.YtifafmomkpkgdaaDoor
/- Plain lists and integers: long division, one digit of the quotient after the other. -/

namespace Go.Proofs.YtifafmomkpkgdaaDoor
namespace Z

theorem dAt_ext {x y : List Nat} (b : Nat) (h : ∀ i, dAt x i = dAt y i) : ofDg b x = ofDg b y := by
  have : ∀ (n : Nat) (x y : List Nat), x.length ≤ n → y.length ≤ n → (∀ i, dAt x i = dAt y i) → ofDg b x = ofDg b y := by
    intro n
    induction n with
    | zero =>
      intro x y hx hy _
      rw [List.eq_nil_of_length_eq_zero (Nat.le_zero.1 hx), List.eq_nil_of_length_eq_zero (Nat.le_zero.1 hy)]
    | succ n ih =>
      intro x y hx hy h
      have e := ofDg_drop b x 0
      have e' := ofDg_drop b y 0
      rw [List.drop_zero] at e e'
      rw [e, e', h 0, ih (x.drop 1) (y.drop 1) (by rw [List.length_drop]; omega) (by rw [List.length_drop]; omega) (fun i => by
        have := h (i + 1)
        simpa [dAt, List.getElem?_drop] using this)]
  exact this (max x.length y.length) x y (Nat.le_max_left _ _) (Nat.le_max_right _ _) h
theorem dAt_drop (l : List Nat) (k i : Nat) : dAt (l.drop k) i = dAt l (k + i) := by simp [dAt, List.getElem?_drop]
theorem dAt_take (l : List Nat) (k i : Nat) : dAt (l.take k) i = if i < k then dAt l i else 0 := by
  unfold dAt
  rw [List.getElem?_take]
  split <;> rfl
theorem dAt_le_ofDg (b : Nat) (l : List Nat) (i : Nat) : b ^ i * dAt l i ≤ ofDg b l := by
  rw [ofDg_split b l i, ofDg_drop, Nat.mul_add]
  omega
theorem dAt_zero (b : Nat) (hb : 0 < b) (l : List Nat) (n : Nat) (h : ofDg b l < b ^ n) (i : Nat) (hi : n ≤ i) : dAt l i = 0 := by
  rcases Nat.eq_zero_or_pos (dAt l i) with h0 | h0
  · exact h0
  · have h1 := dAt_le_ofDg b l i
    have h2 : b ^ n ≤ b ^ i := Nat.pow_le_pow_right hb hi
    have h3 : b ^ i * 1 ≤ b ^ i * dAt l i := Nat.mul_le_mul_left _ h0
    omega
/-- Three leading digits of n + 1. -/
theorem lead3 (b : Nat) (l : List Nat) (n : Nat) (hl : l.length ≤ n + 1) (hn : 2 ≤ n) : ofDg b l = ((dAt l n * b + dAt l (n - 1)) * b + dAt l (n - 2)) * b ^ (n - 2) + ofDg b (l.take (n - 2)) := by
  have e1 := ofDg_split b l (n - 2)
  have e2 := ofDg_drop b l (n - 2)
  have e3 := ofDg_drop b l (n - 1)
  have e4 := ofDg_drop b l n
  rw [show n - 2 + 1 = n - 1 from by omega] at e2
  rw [show n - 1 + 1 = n from by omega] at e3
  rw [List.drop_of_length_le hl, ofDg_nil, Nat.mul_zero, Nat.add_zero] at e4
  rw [e1, e2, e3, e4, Nat.mul_comm (b ^ (n - 2)), Nat.mul_comm b (dAt l n)]
  rw [Nat.add_comm (ofDg b _)]
  congr 2
  rw [Nat.mul_comm b, Nat.add_comm (dAt l (n - 2)), Nat.add_comm (dAt l (n - 1))]
theorem lead2 (b : Nat) (l : List Nat) (n : Nat) (hl : l.length ≤ n) (hn : 2 ≤ n) : ofDg b l = (dAt l (n - 1) * b + dAt l (n - 2)) * b ^ (n - 2) + ofDg b (l.take (n - 2)) := by
  have h := lead3 b l n (by omega) hn
  rw [dAt_none hl, Nat.zero_mul, Nat.zero_add] at h
  exact h

/-- What holds of the dividend's and the quotient's digits when the quotient's digits from J on are known. -/
def DInv (b L n V T J : Nat) (us qs : List Nat) : Prop :=
  us.length = L ∧ (∀ d ∈ us, d < b) ∧ qs.length + n = L ∧ (∀ d ∈ qs, d < b) ∧ ofDg b us + V * (b ^ J * ofDg b (qs.drop J)) = T ∧ ofDg b (us.drop J) < V
/-- The window of n + 1 digits. -/
def win (us : List Nat) (j n : Nat) : List Nat := (us.drop j).take (n + 1)
theorem win_length {us : List Nat} {j n : Nat} (h : j + n + 1 ≤ us.length) : (win us j n).length = n + 1 := by
  unfold win; rw [List.length_take, List.length_drop]; omega
theorem win_lt {b : Nat} {us : List Nat} (h : ∀ d ∈ us, d < b) (j n : Nat) : ∀ d ∈ win us j n, d < b := fun d hd => h d (List.mem_of_mem_drop (List.mem_of_mem_take hd))
theorem dAt_win (us : List Nat) (j n i : Nat) (hi : i ≤ n) : dAt (win us j n) i = dAt us (j + i) := by
  unfold win; rw [dAt_take, if_pos (by omega), dAt_drop]
theorem win_at (us : List Nat) (j n i : Nat) (hi : i ≤ n) : (win us j n)[i]? = us[j + i]? := by
  unfold win; rw [List.getElem?_take, if_pos (by omega), List.getElem?_drop]

section
variable {b L n V T j : Nat} {us qs : List Nat} (hb : 2 ≤ b) (hn : 2 ≤ n) (hV : V < b ^ n) (h : DInv b L n V T (j + 1) us qs)
include hb hn hV h
theorem DInv.top_zero (i : Nat) (hi : j + 1 + n ≤ i) : dAt us i = 0 := by
  have h1 := dAt_zero b (by omega) (us.drop (j + 1)) n (Nat.lt_trans h.2.2.2.2.2 hV) (i - (j + 1)) (by omega)
  rw [dAt_drop] at h1
  rwa [show j + 1 + (i - (j + 1)) = i from by omega] at h1
theorem DInv.win_eq : ofDg b (win us j n) = ofDg b (us.drop j) := by
  refine dAt_ext b fun i => ?_
  unfold win
  rw [dAt_take]
  split
  · rfl
  · rw [dAt_drop]
    exact (DInv.top_zero hb hn hV h (j + i) (by omega)).symm
theorem DInv.win_small : ofDg b (win us j n) < V * b := by
  rw [DInv.win_eq hb hn hV h, ofDg_drop]
  have h1 := dAt_lt (b := b) (by omega) h.2.1 j
  have h2 : b * (ofDg b (us.drop (j + 1)) + 1) ≤ b * V := Nat.mul_le_mul_left _ h.2.2.2.2.2
  rw [Nat.mul_add] at h2
  rw [Nat.mul_comm V b]
  omega
end
/-- The guessed digit, of the window and of the divisor's digits. -/
theorem DInv.guess {b L n V T j : Nat} {us qs vs : List Nat} (hb : 2 ≤ b) (hn : 2 ≤ n) (hvl : vs.length = n) (hvb : ∀ d ∈ vs, d < b) (hvt : 0 < dAt vs (n - 1)) (hV : ofDg b vs = V) (h : DInv b L n V T (j + 1) us qs) (hj : j + n + 1 ≤ L) :
    dAt us (j + n) ≤ dAt vs (n - 1) ∧
    ofDg b (win us j n) / V ≤ gs b (dAt us (j + n)) (dAt us (j + n - 1)) (dAt us (j + n - 2)) (dAt vs (n - 1)) (dAt vs (n - 2)) ∧
    gs b (dAt us (j + n)) (dAt us (j + n - 1)) (dAt us (j + n - 2)) (dAt vs (n - 1)) (dAt vs (n - 2)) ≤ ofDg b (win us j n) / V + 1 := by
  have hVn : V < b ^ n := by rw [← hV, ← hvl]; exact ofDg_lt b (by omega) vs hvb
  have hs := DInv.win_small hb hn hVn h
  have hwl := win_length (us := us) (j := j) (n := n) (by rw [h.1]; omega)
  have e1 := lead3 b (win us j n) n (by omega) hn
  rw [dAt_win _ _ _ _ (Nat.le_refl _), dAt_win _ _ _ _ (by omega), dAt_win _ _ _ _ (by omega), ← Nat.add_sub_assoc (by omega), ← Nat.add_sub_assoc (by omega)] at e1
  have e2 := lead2 b vs n (by omega) hn
  rw [hV] at e2
  have l1 := ofDg_take_lt b (by omega) (win us j n) (win_lt h.2.1 j n) (n - 2)
  have l2 := ofDg_take_lt b (by omega) vs hvb (n - 2)
  refine ⟨?_, gs_near b _ _ _ _ _ (b ^ (n - 2)) _ _ _ V (by omega) hvt l1 l2 e1 e2 hs⟩
  have h1 := dAt_le_ofDg b (win us j n) n
  rw [dAt_win _ _ _ _ (Nat.le_refl _)] at h1
  have h2 : V < b ^ (n - 1) * (dAt vs (n - 1) + 1) := by
    have h3 := ofDg_split b vs (n - 1)
    have h4 := ofDg_take_lt b (by omega) vs hvb (n - 1)
    rw [ofDg_drop, List.drop_of_length_le (by omega : vs.length ≤ n - 1 + 1), ofDg_nil, Nat.mul_zero, Nat.add_zero, hV] at h3
    rw [Nat.mul_add]
    omega
  have h5 : V * b < b ^ n * (dAt vs (n - 1) + 1) := by
    have : b ^ n = b ^ (n - 1) * b := by rw [← Nat.pow_succ]; congr 1; omega
    rw [this, Nat.mul_right_comm]
    exact Nat.mul_lt_mul_of_pos_right h2 (by omega)
  have h6 : b ^ n * dAt us (j + n) < b ^ n * (dAt vs (n - 1) + 1) := by omega
  have := Nat.lt_of_mul_lt_mul_left h6
  omega
/-- One digit more of the quotient. -/
theorem DInv.step {b L n V T j : Nat} {us us' qs left : List Nat} (hb : 2 ≤ b) (hn : 2 ≤ n) (hV : V < b ^ n) (hV0 : 0 < V) (h : DInv b L n V T (j + 1) us qs) (hj : j + n + 1 ≤ L)
    (hl : left = dg b (ofDg b (win us j n) % V)) (hul : us'.length = L) (hub : ∀ d ∈ us', d < b) (hu : ∀ t, dAt us' t = if j ≤ t ∧ t < j + n + 1 then dAt left (t - j) else dAt us t) :
    DInv b L n V T j us' (qs.set j (ofDg b (win us j n) / V)) := by
  have hql : j < qs.length := by have := h.2.2.1; omega
  have hW := DInv.win_eq hb hn hV h
  have hs := DInv.win_small hb hn hV h
  have hval : ofDg b left = ofDg b (win us j n) % V := by rw [hl, ofDg_dg b hb]
  have hleft : left.length ≤ n := by
    rw [hl]
    exact dg_len_of_lt b hb _ n (Nat.lt_trans (Nat.mod_lt _ hV0) hV)
  have hd : ofDg b (us'.drop j) = ofDg b left := by
    refine dAt_ext b fun i => ?_
    rw [dAt_drop, hu]
    by_cases hi : i < n + 1
    · rw [if_pos ⟨by omega, by omega⟩, Nat.add_sub_cancel_left]
    · rw [if_neg (by omega), DInv.top_zero hb hn hV h _ (by omega), dAt_none (by omega)]
  have ht : ofDg b (us'.take j) = ofDg b (us.take j) := by
    refine dAt_ext b fun i => ?_
    rw [dAt_take, dAt_take]
    split
    · rw [hu, if_neg (by omega)]
    · rfl
  have hqd : ofDg b (win us j n) / V < b := by
    rw [Nat.div_lt_iff_lt_mul hV0, Nat.mul_comm]; exact hs
  refine ⟨hul, hub, by rw [List.length_set]; exact h.2.2.1, set_lt h.2.2.2.1 hqd, ?_, by rw [hd, hval]; exact Nat.mod_lt _ hV0⟩
  have hT := h.2.2.2.2.1
  have e1 := ofDg_split b us' j
  have e2 := ofDg_split b us j
  have e3 : ofDg b ((qs.set j (ofDg b (win us j n) / V)).drop j) = ofDg b (win us j n) / V + b * ofDg b (qs.drop (j + 1)) := by
    rw [ofDg_drop, dAt_set _ _ _ _ hql, if_pos rfl, List.drop_set_of_lt (by omega)]
  have e4 := Nat.div_add_mod (ofDg b (win us j n)) V
  rw [e3, e1, ht, hd, hval]
  rw [e2, ← hW] at hT
  generalize ofDg b (win us j n) / V = q at *
  generalize ofDg b (win us j n) % V = r at *
  generalize ofDg b (win us j n) = W at *
  generalize ofDg b (qs.drop (j + 1)) = Q at *
  rw [← hT, ← e4, Nat.pow_succ]
  have a1 : V * (b ^ j * (q + b * Q)) = V * (b ^ j * q) + V * (b ^ j * b * Q) := by rw [Nat.mul_add, Nat.mul_add, Nat.mul_assoc (b ^ j) b Q]
  have a2 : b ^ j * (V * q + r) = V * (b ^ j * q) + b ^ j * r := by rw [Nat.mul_add, Nat.mul_left_comm]
  omega
theorem DInv.start {b L n V T M : Nat} {us : List Nat} (hb : 2 ≤ b) (hM : n + M = L) (hul : us.length = L) (hub : ∀ d ∈ us, d < b) (hT : ofDg b us = T) (hlt : T < b ^ M * V) : DInv b L n V T M us (List.replicate M 0) := by
  refine ⟨hul, hub, by simp; omega, by simp; omega, ?_, ?_⟩
  · rw [List.drop_of_length_le (by simp), ofDg_nil]; omega
  · have e := ofDg_split b us M
    have h1 : b ^ M * ofDg b (us.drop M) < b ^ M * V := by omega
    exact Nat.lt_of_mul_lt_mul_left h1
/-- The end: the scaled quotient and rest. -/
theorem DInv.done {b L n X Y sc : Nat} {us qs : List Nat} (hsc : 0 < sc) (h : DInv b L n (Y * sc) (X * sc) 0 us qs) : ofDg b qs = X / Y ∧ ofDg b us / sc = X % Y := by
  obtain ⟨_, _, _, _, h1, h2⟩ := h
  rw [List.drop_zero] at h1 h2
  rw [Nat.pow_zero, Nat.one_mul] at h1
  generalize ofDg b qs = Q at *
  generalize ofDg b us = R at *
  have e1 : Y * sc * Q = Y * Q * sc := Nat.mul_right_comm _ _ _
  have hle : Y * Q ≤ X := by
    have : Y * Q * sc ≤ X * sc := by omega
    exact Nat.le_of_mul_le_mul_right this hsc
  obtain ⟨r, rfl⟩ : ∃ r, X = Q * Y + r := ⟨X - Y * Q, by rw [Nat.mul_comm Q Y]; omega⟩
  have e2 : R = r * sc := by
    rw [Nat.add_mul, Nat.mul_comm Q Y] at h1
    omega
  subst e2
  have hr : r < Y := Nat.lt_of_mul_lt_mul_right h2
  obtain ⟨e3, e4⟩ := div_of _ Y Q r hr rfl
  rw [e3, e4, Nat.mul_div_cancel _ hsc]
  exact ⟨rfl, rfl⟩
/-- The scale. -/
theorem scale_facts {b : Nat} (hb : 2 ≤ b) (ys : List Nat) (hy : Can b ys) (hn : 2 ≤ ys.length) :
    0 < dAt ys (ys.length - 1) ∧ 0 < b / (dAt ys (ys.length - 1) + 1) ∧ b / (dAt ys (ys.length - 1) + 1) < b ∧ (dg b (ofDg b ys * (b / (dAt ys (ys.length - 1) + 1)))).length = ys.length ∧
    ofDg b ys * (b / (dAt ys (ys.length - 1) + 1)) < b ^ ys.length ∧ b ^ (ys.length - 1) ≤ ofDg b ys := by
  have h0 : 0 < dAt ys (ys.length - 1) := by
    rcases Nat.eq_zero_or_pos (dAt ys (ys.length - 1)) with h | h
    · exfalso
      apply hy.2
      rw [List.getLast?_eq_getElem?, dAt_eq (by omega), h]
    · exact h
  have h1 := dAt_lt (b := b) (by omega) hy.1 (ys.length - 1)
  have h2 : 0 < b / (dAt ys (ys.length - 1) + 1) := Nat.div_pos (by omega) (by omega)
  have h3 : b / (dAt ys (ys.length - 1) + 1) < b := Nat.div_lt_self (by omega) (by omega)
  have h4 : b / (dAt ys (ys.length - 1) + 1) * (dAt ys (ys.length - 1) + 1) ≤ b := Nat.div_mul_le_self _ _
  have h5 : ofDg b ys < b ^ (ys.length - 1) * (dAt ys (ys.length - 1) + 1) := by
    have e := ofDg_split b ys (ys.length - 1)
    have l := ofDg_take_lt b (by omega) ys hy.1 (ys.length - 1)
    rw [ofDg_drop, List.drop_of_length_le (by omega : ys.length ≤ ys.length - 1 + 1), ofDg_nil, Nat.mul_zero, Nat.add_zero] at e
    rw [Nat.mul_add]
    omega
  have h7 := can_ge b hb ys hy (by omega)
  generalize hs : b / (dAt ys (ys.length - 1) + 1) = s at *
  have h6 : ofDg b ys * s < b ^ ys.length := by
    have e : b ^ ys.length = b ^ (ys.length - 1) * b := by rw [← Nat.pow_succ]; congr 1; omega
    rw [e]
    have l1 : ofDg b ys * s < b ^ (ys.length - 1) * (dAt ys (ys.length - 1) + 1) * s := Nat.mul_lt_mul_of_pos_right h5 h2
    have l2 : b ^ (ys.length - 1) * (dAt ys (ys.length - 1) + 1) * s ≤ b ^ (ys.length - 1) * b := by
      rw [Nat.mul_assoc, Nat.mul_comm _ s]
      exact Nat.mul_le_mul_left _ h4
    omega
  refine ⟨h0, h2, h3, ?_, h6, h7⟩
  refine Nat.le_antisymm (dg_len_of_lt b hb _ _ h6) ?_
  have h8 := dg_len_le b hb (x := ofDg b ys) (y := ofDg b ys * s) (Nat.le_mul_of_pos_right _ h2)
  rwa [dg_ofDg b hb ys hy] at h8
theorem top_pos {b : Nat} {l : List Nat} (h : Can b l) (h0 : 0 < l.length) : 0 < dAt l (l.length - 1) := by
  rcases Nat.eq_zero_or_pos (dAt l (l.length - 1)) with h1 | h1
  · exfalso
    apply h.2
    rw [List.getLast?_eq_getElem?, dAt_eq (by omega), h1]
  · exact h1
theorem scaled_lt {b X sc k : Nat} (hX : X < b ^ k) (hsc : sc < b) : X * sc < b ^ (k + 1) := by
  rw [Nat.pow_succ]
  rcases Nat.eq_zero_or_pos sc with h | h
  · rw [h, Nat.mul_zero]; exact Nat.mul_pos (by omega) (by omega)
  · exact Nat.mul_lt_mul_of_lt_of_le hX (by omega) (by omega)
theorem start_lt {b X Y sc k n M : Nat} (hX : X < b ^ k) (hsc : 0 < sc) (hY : b ^ (n - 1) ≤ Y) (hn : 1 ≤ n) (hM : n + M = k + 1) : X * sc < b ^ M * (Y * sc) := by
  have h1 : X * sc < b ^ k * sc := Nat.mul_lt_mul_of_pos_right hX hsc
  have h2 : b ^ k = b ^ M * b ^ (n - 1) := by rw [← Nat.pow_add]; congr 1; omega
  have h3 : b ^ M * b ^ (n - 1) * sc ≤ b ^ M * (Y * sc) := by
    rw [Nat.mul_assoc]
    exact Nat.mul_le_mul_left _ (Nat.mul_le_mul_right _ hY)
  rw [h2] at h1
  omega
end Z
end Go.Proofs.YtifafmomkpkgdaaDoor
/- Plain lists and integers: canonical decimal texts, what Check says of them, and what they stand for. -/

namespace Go.Proofs.YtifafmomkpkgdaaDoor
namespace Z

def isDig (c : UInt8) : Bool := decide (48 ≤ c.toNat) && decide (c.toNat ≤ 57)
def dval (c : UInt8) : Nat := c.toNat - 48
def natOf (l : List UInt8) : Nat := l.foldl (fun n c => 10 * n + dval c) 0
def isNeg (l : List UInt8) : Bool := l.head? == some 45
def mags (l : List UInt8) : List UInt8 := if isNeg l then l.tail else l
def canon (l : List UInt8) : Bool := !(mags l).isEmpty && (mags l).all isDig && (!((mags l).head? == some 48) || ((mags l).length == 1 && !isNeg l))
/-- What Check returns. -/
def chk (l : List UInt8) : Int := if canon l then if (mags l).length ≤ 1000 then 0 else 14 else 12
/-- What a canonical text stands for. -/
def ival (l : List UInt8) : Int := if isNeg l then - (natOf (mags l) : Int) else natOf (mags l)

theorem chk_empty {l : List UInt8} (h : mags l = []) : chk l = 12 := by simp [chk, canon, h]
theorem chk_minus_zero {l : List UInt8} (hn : isNeg l = true) (h : (mags l).head? = some 48) : chk l = 12 := by simp [chk, canon, h, hn]
theorem chk_lead {l : List UInt8} (h : (mags l).head? = some 48) (h1 : 1 < (mags l).length) : chk l = 12 := by
  have : ((mags l).length == 1) = false := by simp; omega
  simp [chk, canon, h, this]
theorem chk_bad {l : List UInt8} {k : Nat} {c : UInt8} (h : (mags l)[k]? = some c) (hc : isDig c = false) : chk l = 12 := by
  have : (mags l).all isDig = false := by
    rw [List.all_eq_false]
    exact ⟨c, List.mem_of_getElem? h, by simp [hc]⟩
  simp [chk, canon, this]
theorem all_of {l : List UInt8} (h : ∀ (k : Nat) (c : UInt8), l[k]? = some c → isDig c = true) : l.all isDig = true := by
  rw [List.all_eq_true]
  intro c hc
  obtain ⟨k, hk⟩ := List.mem_iff_getElem?.1 hc
  exact h k c hk
theorem canon_mk {l : List UInt8} (h0 : mags l ≠ []) (h : (mags l).all isDig = true) (hz : (mags l).head? = some 48 → (mags l).length = 1 ∧ isNeg l = false) : canon l = true := by
  have h1 : (mags l).isEmpty = false := by simpa using h0
  unfold canon
  rw [h1, h]
  by_cases hh : (mags l).head? = some 48
  · simp [hh, (hz hh).1, (hz hh).2]
  · simp [hh]
theorem chk_ok {l : List UInt8} (h : canon l = true) (h1 : (mags l).length ≤ 1000) : chk l = 0 := by simp [chk, h, h1]
theorem chk_big {l : List UInt8} (h : canon l = true) (h1 : 1000 < (mags l).length) : chk l = 14 := by
  have : ¬ (mags l).length ≤ 1000 := by omega
  simp [chk, h, this]
theorem chk_zero_iff {l : List UInt8} : chk l = 0 ↔ canon l = true ∧ (mags l).length ≤ 1000 := by
  unfold chk
  by_cases h : canon l <;> by_cases h1 : (mags l).length ≤ 1000 <;> simp [h, h1]
end Z
end Go.Proofs.YtifafmomkpkgdaaDoor
/- Plain lists and integers: the canonical decimal text of an integer. -/

namespace Go.Proofs.YtifafmomkpkgdaaDoor
namespace Z

/-- The digits of a text, the last one first. -/
def rdg (m : List UInt8) : List Nat := m.reverse.map dval
def chr (d : Nat) : UInt8 := UInt8.ofNat (48 + d)
def decB (n : Nat) : List UInt8 := if n = 0 then [48] else (dg 10 n).reverse.map chr
/-- The canonical text of an integer. -/
def txt (z : Int) : List UInt8 := if z < 0 then 45 :: decB z.natAbs else decB z.natAbs

theorem natOf_snoc (l : List UInt8) (c : UInt8) : natOf (l ++ [c]) = 10 * natOf l + dval c := by simp [natOf]
theorem natOf_rdg (m : List UInt8) : natOf m = ofDg 10 (rdg m) := by
  have : ∀ r : List UInt8, natOf r.reverse = ofDg 10 (r.map dval) := by
    intro r
    induction r with
    | nil => rfl
    | cons c r ih => rw [List.reverse_cons, natOf_snoc, ih, List.map_cons, ofDg_cons]; omega
  have h := this m.reverse
  rwa [List.reverse_reverse] at h
theorem dval_chr {d : Nat} (h : d < 10) : dval (chr d) = d := by
  have : d = 0 ∨ d = 1 ∨ d = 2 ∨ d = 3 ∨ d = 4 ∨ d = 5 ∨ d = 6 ∨ d = 7 ∨ d = 8 ∨ d = 9 := by omega
  rcases this with h | h | h | h | h | h | h | h | h | h <;> subst h <;> rfl
theorem chr_toNat {d : Nat} (h : d < 10) : (chr d).toNat = 48 + d := by
  have : d = 0 ∨ d = 1 ∨ d = 2 ∨ d = 3 ∨ d = 4 ∨ d = 5 ∨ d = 6 ∨ d = 7 ∨ d = 8 ∨ d = 9 := by omega
  rcases this with h | h | h | h | h | h | h | h | h | h <;> subst h <;> rfl
theorem chr_dval {c : UInt8} (h : isDig c = true) : chr (dval c) = c := by
  unfold isDig at h
  simp at h
  apply UInt8.toNat_inj.1
  have h1 : dval c < 10 := by unfold dval; omega
  rw [chr_toNat h1]
  unfold dval; omega
theorem isDig_chr {d : Nat} (h : d < 10) : isDig (chr d) = true := by
  unfold isDig
  rw [chr_toNat h]; simp; omega
theorem dval_lt {c : UInt8} (h : isDig c = true) : dval c < 10 := by
  unfold isDig at h; simp at h; unfold dval; omega
theorem rdg_lt {m : List UInt8} (h : m.all isDig = true) : ∀ d ∈ rdg m, d < 10 := by
  intro d hd
  obtain ⟨c, hc, rfl⟩ := List.mem_map.1 hd
  exact dval_lt (List.all_eq_true.1 h c (List.mem_reverse.1 hc))
theorem decB_zero : decB 0 = [48] := rfl
theorem decB_pos {n : Nat} (h : 0 < n) : decB n = (dg 10 n).reverse.map chr := by
  unfold decB; rw [if_neg (by omega)]
theorem rdg_decB (n : Nat) (h : 0 < n) : rdg (decB n) = dg 10 n := by
  rw [decB_pos h]
  unfold rdg
  rw [← List.map_reverse, List.reverse_reverse, List.map_map]
  conv => rhs; rw [← List.map_id (dg 10 n)]
  apply List.map_congr_left
  intro d hd
  exact dval_chr (dg_lt 10 (by omega) n d hd)
theorem natOf_decB (n : Nat) : natOf (decB n) = n := by
  rcases Nat.eq_zero_or_pos n with h | h
  · subst h; rfl
  · rw [natOf_rdg, rdg_decB n h, ofDg_dg 10 (by omega)]
theorem decB_ne (n : Nat) : decB n ≠ [] := by
  rcases Nat.eq_zero_or_pos n with h | h
  · subst h; simp [decB]
  · rw [decB_pos h]
    intro e
    have h1 := (dg_eq_nil 10 (by omega) n).1 (by simpa using e)
    omega
theorem decB_all (n : Nat) : (decB n).all isDig = true := by
  rcases Nat.eq_zero_or_pos n with h | h
  · subst h; rfl
  · rw [decB_pos h, List.all_eq_true]
    intro c hc
    obtain ⟨d, hd, rfl⟩ := List.mem_map.1 hc
    exact isDig_chr (dg_lt 10 (by omega) n d (List.mem_reverse.1 hd))
theorem decB_head (n : Nat) (h : 0 < n) : (decB n).head? ≠ some 48 := by
  rw [decB_pos h, List.head?_map, List.head?_reverse]
  intro e
  obtain ⟨d, hd, hc⟩ := Option.map_eq_some_iff.1 e
  have h1 := dg_lt 10 (by omega) n d (List.mem_of_getLast? hd)
  have h2 := chr_toNat h1
  rw [hc] at h2
  have h3 : d = 0 := by
    have : (48 : UInt8).toNat = 48 := rfl
    omega
  rw [h3] at hd
  exact dg_last 10 (by omega) n hd
theorem decB_not_minus (n : Nat) : isNeg (decB n) = false := by
  unfold isNeg
  cases e : decB n with
  | nil => rfl
  | cons c r =>
    have h1 := decB_all n
    rw [e] at h1
    have h2 : isDig c = true := by simp at h1; exact h1.1
    simp
    rintro rfl
    cases h2
theorem isNeg_txt (z : Int) : isNeg (txt z) = decide (z < 0) := by
  unfold txt
  by_cases h : z < 0
  · rw [if_pos h]; simp [isNeg, h]
  · rw [if_neg h, decB_not_minus]; simp [h]
theorem mags_txt (z : Int) : mags (txt z) = decB z.natAbs := by
  unfold mags
  rw [isNeg_txt]
  by_cases h : z < 0
  · simp [h, txt]
  · simp [h, txt]
theorem canon_txt (z : Int) : canon (txt z) = true := by
  refine canon_mk ?_ ?_ ?_
  · rw [mags_txt]; exact decB_ne _
  · rw [mags_txt]; exact decB_all _
  · rw [mags_txt, isNeg_txt]
    intro hh
    rcases Nat.eq_zero_or_pos z.natAbs with h | h
    · rw [h]; refine ⟨rfl, by simp; omega⟩
    · exact absurd hh (decB_head _ h)
theorem ival_txt (z : Int) : ival (txt z) = z := by
  unfold ival
  rw [isNeg_txt, mags_txt, natOf_decB]
  by_cases h : z < 0
  · simp [h]; omega
  · simp [h]; omega
theorem can_rdg {m : List UInt8} (h : m.all isDig = true) (h0 : m.head? ≠ some 48) : Can 10 (rdg m) := by
  refine ⟨rdg_lt h, ?_⟩
  unfold rdg
  rw [List.getLast?_map, List.getLast?_reverse]
  intro e
  obtain ⟨c, hc, hd⟩ := Option.map_eq_some_iff.1 e
  have h1 := List.all_eq_true.1 h c (List.mem_of_head? hc)
  have h2 := chr_dval h1
  rw [hd] at h2
  rw [← h2] at hc
  exact h0 hc
theorem decB_natOf {m : List UInt8} (h : m.all isDig = true) (h0 : m ≠ []) (hz : m.head? = some 48 → m.length = 1) : decB (natOf m) = m := by
  by_cases hh : m.head? = some 48
  · have h1 := hz hh
    cases m with
    | nil => exact absurd rfl h0
    | cons c r =>
      simp at hh h1
      subst hh
      subst h1
      rfl
  · have hc := can_rdg h hh
    have hd := dg_ofDg 10 (by omega) _ hc
    rw [← natOf_rdg] at hd
    have hpos : 0 < natOf m := by
      rcases Nat.eq_zero_or_pos (natOf m) with h1 | h1
      · rw [h1, dg_zero] at hd
        exact absurd (by simpa [rdg] using hd.symm) h0
      · exact h1
    rw [decB_pos hpos, hd]
    unfold rdg
    rw [← List.map_reverse, List.reverse_reverse, List.map_map]
    conv => rhs; rw [← List.map_id m]
    apply List.map_congr_left
    intro c hc
    exact chr_dval (List.all_eq_true.1 h c hc)
structure CanonParts (l : List UInt8) : Prop where
  ne : mags l ≠ []
  all : (mags l).all isDig = true
  zero : (mags l).head? = some 48 → (mags l).length = 1 ∧ isNeg l = false
theorem canon_parts {l : List UInt8} (h : canon l = true) : CanonParts l := by
  unfold canon at h
  simp only [Bool.and_eq_true, Bool.or_eq_true, Bool.not_eq_true', beq_iff_eq] at h
  obtain ⟨⟨h1, h2⟩, h3⟩ := h
  refine ⟨by intro e; rw [e] at h1; simp at h1, h2, fun hh => ?_⟩
  rcases h3 with h3 | h3
  · rw [hh] at h3; simp at h3
  · exact h3
theorem natOf_pos {m : List UInt8} (h : m.all isDig = true) (h0 : m ≠ []) (hh : m.head? ≠ some 48) : 0 < natOf m := by
  rcases Nat.eq_zero_or_pos (natOf m) with h1 | h1
  · have h2 := decB_natOf h h0 (fun e => absurd e hh)
    rw [h1, decB_zero] at h2
    rw [← h2] at hh
    simp at hh
  · exact h1
theorem txt_ival {l : List UInt8} (h : canon l = true) : txt (ival l) = l := by
  obtain ⟨h0, h1, h2⟩ := canon_parts h
  have h3 := decB_natOf h1 h0 (fun e => (h2 e).1)
  unfold ival txt
  cases hn : isNeg l
  · have hm : mags l = l := by unfold mags; rw [hn]; rfl
    simp only [Bool.false_eq_true, if_false]
    rw [if_neg (by omega), Int.natAbs_natCast, h3, hm]
  · have hh : (mags l).head? ≠ some 48 := by
      intro e
      have := (h2 e).2
      rw [hn] at this
      cases this
    have hp := natOf_pos h1 h0 hh
    simp only [if_true]
    rw [if_pos (by omega), Int.natAbs_neg, Int.natAbs_natCast, h3]
    have hm : mags l = l.tail := by unfold mags; rw [hn]; rfl
    rw [hm]
    unfold isNeg at hn
    cases l with
    | nil => simp at hn
    | cons c r => simp at hn; subst hn; rfl
theorem txt_inj {a b : Int} (h : txt a = txt b) : a = b := by rw [← ival_txt a, ← ival_txt b, h]
theorem ival_inj {a b : List UInt8} (ha : canon a = true) (hb : canon b = true) (h : ival a = ival b) : a = b := by rw [← txt_ival ha, ← txt_ival hb, h]
theorem natAbs_ival (l : List UInt8) : (ival l).natAbs = natOf (mags l) := by
  unfold ival; split <;> simp
end Z
end Go.Proofs.YtifafmomkpkgdaaDoor
/- Plain: from groups of nine digits to decimal digits. -/

namespace Go.Proofs.YtifafmomkpkgdaaDoor
namespace Z
/-- So many digits so far; the rest of the group. -/
structure WIn (d j g : Nat) (ys : List Nat) : Prop where
  len : ys.length = j
  lt : ∀ y ∈ ys, y < 10
  val : ofDg 10 ys + 10 ^ j * g = d
theorem WIn.start (d : Nat) : WIn d 0 d [] := ⟨rfl, by simp, by simp [ofDg]⟩
theorem WIn.step {d j g : Nat} {ys : List Nat} (h : WIn d j g ys) : WIn d (j + 1) (g / 10) (ys ++ [g % 10]) := by
  refine ⟨by simp [h.len], fun y hy => ?_, ?_⟩
  · rcases List.mem_append.1 hy with hy | hy
    · exact h.lt y hy
    · simp at hy; omega
  · rw [ofDg_snoc, h.len, ← h.val, Nat.pow_succ, Nat.mul_assoc, Nat.add_assoc, ← Nat.mul_add]
    congr 2
    omega
structure WOut (ds : List Nat) (i : Nat) (xs : List Nat) : Prop where
  len : xs.length = 9 * i
  lt : ∀ x ∈ xs, x < 10
  val : ofDg 10 xs = ofDg 1000000000 (ds.take i)
theorem WOut.start (ds : List Nat) : WOut ds 0 [] := ⟨rfl, by simp, by simp [ofDg]⟩
theorem WOut.step {ds : List Nat} {i d g : Nat} {xs ys : List Nat} (h : WOut ds i xs) (hd : dAt ds i = d) (hd9 : d < 1000000000) (k : WIn d 9 g ys) : WOut ds (i + 1) (xs ++ ys) := by
  have hk := k.val
  have e9 : (10 : Nat) ^ 9 = 1000000000 := by decide
  have hg : g = 0 := by
    rw [e9] at hk; omega
  subst hg
  refine ⟨by rw [List.length_append, h.len, k.len]; omega, fun y hy => ?_, ?_⟩
  · rcases List.mem_append.1 hy with hy | hy
    · exact h.lt y hy
    · exact k.lt y hy
  · rw [ofDg_append, h.len, h.val, ofDg_take, hd]
    have : ofDg 10 ys = d := by omega
    rw [this]
    have e : (10 : Nat) ^ (9 * i) = 1000000000 ^ i := by rw [Nat.pow_mul, e9]
    rw [e]
theorem trim_step {xs : List Nat} {k n : Nat} (h : ofDg 10 (xs.take (k + 1)) = n) (h0 : dAt xs k = 0) : ofDg 10 (xs.take k) = n := by
  rw [ofDg_take, h0, Nat.mul_zero, Nat.add_zero] at h; exact h
theorem trim_fin {xs : List Nat} {k n : Nat} (hlt : ∀ x ∈ xs, x < 10) (hk : k + 1 ≤ xs.length) (h : ofDg 10 (xs.take (k + 1)) = n) (h0 : dAt xs k ≠ 0) : xs.take (k + 1) = dg 10 n := by
  rw [← h]
  refine (dg_ofDg 10 (by omega) _ ⟨fun d hd => hlt d (List.mem_of_mem_take hd), ?_⟩).symm
  rw [List.getLast?_eq_getElem?, List.length_take, Nat.min_eq_left hk, List.getElem?_take_of_lt (by omega)]
  intro e
  have : k + 1 - 1 = k := by omega
  rw [this] at e
  exact h0 (dAt_some e)
theorem decB_len (n : Nat) (h : 0 < n) : (decB n).length = (dg 10 n).length := by rw [decB_pos h]; simp
/-- What an operation answers: the canonical integer of a number, or the error of too many digits. -/
def resS (z : Int) : ByteArray := if 1000 < (decB z.natAbs).length then ⟨#[]⟩ else ⟨(txt z).toArray⟩
def resE (z : Int) : Int := if 1000 < (decB z.natAbs).length then 14 else 0
end Z
end Go.Proofs.YtifafmomkpkgdaaDoor
/- Plain: the groups of nine digits of a text. -/

namespace Go.Proofs.YtifafmomkpkgdaaDoor
namespace Z
theorem natOf_fold (b : List UInt8) : ∀ x : Nat, b.foldl (fun n c => 10 * n + dval c) x = x * 10 ^ b.length + natOf b := by
  induction b with
  | nil => intro x; simp [natOf]
  | cons c b ih =>
    intro x
    have h1 := ih (10 * x + dval c)
    have h2 := ih (dval c)
    show b.foldl _ (10 * x + dval c) = _
    have e : natOf (c :: b) = b.foldl (fun n c => 10 * n + dval c) (dval c) := by simp [natOf]
    rw [h1, e, h2, List.length_cons, Nat.pow_succ, Nat.add_mul]
    have : 10 * x * 10 ^ b.length = x * (10 ^ b.length * 10) := by rw [Nat.mul_comm 10 x, Nat.mul_assoc, Nat.mul_comm 10]
    omega
theorem natOf_append (a b : List UInt8) : natOf (a ++ b) = natOf a * 10 ^ b.length + natOf b := by
  rw [← natOf_fold]; simp [natOf]
/-- The k-th group from the end. -/
def grp (l : List UInt8) (k : Nat) : List UInt8 := (l.take (l.length - 9 * k)).drop (l.length - 9 * k - 9)
def grps (l : List UInt8) (k : Nat) : List Nat := (List.range k).map fun j => natOf (grp l j)
theorem grps_succ (l : List UInt8) (k : Nat) : grps l (k + 1) = grps l k ++ [natOf (grp l k)] := by simp [grps, List.range_succ]
theorem grps_length (l : List UInt8) (k : Nat) : (grps l k).length = k := by simp [grps]
theorem grps_inv (l : List UInt8) (B : Nat) (hB : B = 10 ^ 9) : ∀ k, natOf l = ofDg B (grps l k) + B ^ k * natOf (l.take (l.length - 9 * k))
  | 0 => by simp [grps, ofDg]
  | k + 1 => by
    rw [grps_inv l B hB k, grps_succ, ofDg_snoc, grps_length]
    have hm : natOf (l.take (l.length - 9 * k)) = B * natOf (l.take (l.length - 9 * (k + 1))) + natOf (grp l k) := by
      generalize hm : l.length - 9 * k = m
      have e : l.length - 9 * (k + 1) = m - 9 := by omega
      have hml : m ≤ l.length := by omega
      rw [e]
      have e2 : l.take m = l.take (m - 9) ++ (l.take m).drop (m - 9) := by
        have := List.take_append_drop (m - 9) (l.take m)
        rw [List.take_take, Nat.min_eq_left (by omega)] at this
        exact this.symm
      rw [e2, natOf_append]
      have e3 : ((l.take m).drop (m - 9)).length = m - (m - 9) := by
        rw [List.length_drop, List.length_take, Nat.min_eq_left hml]
      rw [e3]
      unfold grp
      rw [hm]
      rcases Nat.lt_or_ge m 9 with h | h
      · have : m - 9 = 0 := by omega
        rw [this]
        simp [natOf]
      · have : m - (m - 9) = 9 := by omega
        rw [this, hB, Nat.mul_comm]
    rw [hm, Nat.mul_add, Nat.pow_succ, Nat.mul_assoc]
    omega
theorem grps_all (l : List UInt8) (B : Nat) (hB : B = 10 ^ 9) (K : Nat) (hK : l.length ≤ 9 * K) : ofDg B (grps l K) = natOf l := by
  have := grps_inv l B hB K
  have e : l.length - 9 * K = 0 := by omega
  rw [e] at this
  simp [natOf] at this
  simp [natOf, this]
end Z
end Go.Proofs.YtifafmomkpkgdaaDoor
/- Plain lists and integers: the reference's products and quotients, digit by digit; what the operations answer. -/

namespace Go.Proofs.YtifafmomkpkgdaaDoor
namespace Z

/-- A carry is moved on. -/
theorem norm_step (b : Nat) (l : List Nat) (i : Nat) (h : i + 1 < l.length) : ofDg b ((l.set (i + 1) (dAt l (i + 1) + dAt l i / b)).set i (dAt l i % b)) = ofDg b l := by
  have h1 := ofDg_set b l (i + 1) (dAt l (i + 1) + dAt l i / b) h
  have h2 := ofDg_set b (l.set (i + 1) (dAt l (i + 1) + dAt l i / b)) i (dAt l i % b) (by rw [List.length_set]; omega)
  rw [dAt_set _ _ _ _ h, if_neg (by omega)] at h2
  generalize ofDg b (l.set (i + 1) (dAt l (i + 1) + dAt l i / b)) = A at *
  generalize ofDg b ((l.set (i + 1) (dAt l (i + 1) + dAt l i / b)).set i (dAt l i % b)) = B at *
  have e := Nat.div_add_mod (dAt l i) b
  have h3 : b ^ i * dAt l i = b ^ (i + 1) * (dAt l i / b) + b ^ i * (dAt l i % b) := by
    rw [Nat.pow_succ, Nat.mul_assoc, ← Nat.mul_add, e]
  rw [Nat.mul_add] at h1
  omega
/-- The loop that moves the carries: before its round i. -/
structure NInv (M L V i : Nat) (os : List Nat) : Prop where
  len : os.length = L
  val : ofDg 10 os = V
  low : ∀ t, t < i → dAt os t < 10
  cur : dAt os i ≤ 2 * M
  high : ∀ t, i < t → dAt os t ≤ M
theorem NInv.step {M L V i : Nat} {os : List Nat} (h : NInv M L V i os) (hi : i + 1 < L) :
    NInv M L V (i + 1) ((os.set (i + 1) (dAt os (i + 1) + dAt os i / 10)).set i (dAt os i % 10)) := by
  have hl := h.len
  have hc := h.cur
  have hh := h.high (i + 1) (by omega)
  refine ⟨by simp [hl], by rw [norm_step 10 os i (by omega)]; exact h.val, fun t ht => ?_, ?_, fun t ht => ?_⟩
  · rw [dAt_set _ _ _ _ (by simp; omega)]
    by_cases e : t = i
    · rw [if_pos e]; exact Nat.mod_lt _ (by omega)
    · rw [if_neg e, dAt_set _ _ _ _ (by omega), if_neg (by omega)]
      exact h.low t (by omega)
  · rw [dAt_set _ _ _ _ (by simp; omega), if_neg (by omega), dAt_set _ _ _ _ (by omega), if_pos rfl]
    omega
  · rw [dAt_set _ _ _ _ (by simp; omega), if_neg (by omega), dAt_set _ _ _ _ (by omega), if_neg (by omega)]
    exact h.high t (by omega)
theorem NInv.done {M L V i : Nat} {os : List Nat} (h : NInv M L V i os) (hi : L ≤ i + 1) (hV : V < 10 ^ L) : ∀ d ∈ os, d < 10 := by
  intro d hd
  obtain ⟨t, ht, rfl⟩ := List.mem_iff_getElem.1 hd
  have e : os[t] = dAt os t := by simp [dAt, ht]
  rw [e]
  by_cases hlt : t < i
  · exact h.low t hlt
  · have hl := h.len
    have ht1 : t + 1 = L := by omega
    have h1 := dAt_le_ofDg 10 os t
    rw [h.val] at h1
    rw [← ht1, Nat.pow_succ] at hV
    have h2 : 10 ^ t * dAt os t < 10 ^ t * 10 := by omega
    exact Nat.lt_of_mul_lt_mul_left h2
theorem NInv.start {M L V : Nat} {os : List Nat} (hl : os.length = L) (hv : ofDg 10 os = V) (h : ∀ d ∈ os, d ≤ M) : NInv M L V 0 os := by
  have h1 : ∀ t, dAt os t ≤ M := fun t => by
    by_cases ht : t < os.length
    · have e : os[t] = dAt os t := by simp [dAt, ht]
      rw [← e]; exact h _ (List.getElem_mem _)
    · rw [dAt_none (by omega)]; omega
  exact ⟨hl, hv, fun t ht => by omega, by have := h1 0; omega, fun t _ => h1 t⟩
/-- The loop that adds the products: within its round i, before j. -/
structure TInv (X Y L i j : Nat) (xs ys os : List Nat) : Prop where
  len : os.length = L
  val : ofDg 10 os = ofDg 10 (xs.take i) * ofDg 10 ys + 10 ^ i * (dAt xs i * ofDg 10 (ys.take j))
  le : ∀ t, dAt os t ≤ 81 * (i + 1)
  high : ∀ t, i + j ≤ t → dAt os t ≤ 81 * i
theorem TInv.start {X Y L : Nat} {xs ys : List Nat} : TInv X Y L 0 0 xs ys (List.replicate L 0) :=
  ⟨by simp, by simp [ofDg_replicate, ofDg], fun t => by rw [dAt_replicate]; omega, fun t _ => by rw [dAt_replicate]; omega⟩
theorem TInv.step {X Y L i j : Nat} {xs ys os : List Nat} (h : TInv X Y L i j xs ys os) (hx : ∀ d ∈ xs, d < 10) (hy : ∀ d ∈ ys, d < 10) (hL : i + j < L) :
    TInv X Y L i (j + 1) xs ys (os.set (i + j) (dAt os (i + j) + dAt xs i * dAt ys j)) := by
  have hl := h.len
  have h1 := dAt_lt (b := 10) (by omega) hx i
  have h2 := dAt_lt (b := 10) (by omega) hy j
  have h3 : dAt xs i * dAt ys j ≤ 9 * 9 := Nat.mul_le_mul (by omega) (by omega)
  have h4 := h.high (i + j) (Nat.le_refl _)
  have hs := ofDg_set 10 os (i + j) (dAt os (i + j) + dAt xs i * dAt ys j) (by omega)
  refine ⟨by simp [hl], ?_, fun t => ?_, fun t ht => ?_⟩
  · rw [ofDg_take]
    have hv := h.val
    rw [Nat.mul_add, Nat.mul_add, ← Nat.mul_assoc (dAt xs i), Nat.mul_comm (dAt xs i) (10 ^ j), Nat.mul_assoc (10 ^ j), ← Nat.mul_assoc (10 ^ i) (10 ^ j), ← Nat.pow_add]
    rw [Nat.mul_add] at hs
    omega
  · rw [dAt_set _ _ _ _ (by omega)]
    split
    · omega
    · exact h.le t
  · rw [dAt_set _ _ _ _ (by omega), if_neg (by omega)]
    exact h.high t (by omega)
theorem TInv.next {X Y L i : Nat} {xs ys os : List Nat} (h : TInv X Y L i ys.length xs ys os) : TInv X Y L (i + 1) 0 xs ys os := by
  refine ⟨h.len, ?_, fun t => by have := h.le t; omega, fun t _ => h.le t⟩
  have hv := h.val
  rw [List.take_of_length_le (Nat.le_refl _)] at hv
  rw [hv, ofDg_take, Nat.add_mul, Nat.mul_assoc]
  simp [ofDg]
theorem TInv.done {X Y L : Nat} {xs ys os : List Nat} (h : TInv X Y L xs.length 0 xs ys os) : ofDg 10 os = ofDg 10 xs * ofDg 10 ys ∧ ∀ d ∈ os, d ≤ 81 * (xs.length + 1) := by
  refine ⟨?_, fun d hd => ?_⟩
  · have hv := h.val
    rw [List.take_of_length_le (Nat.le_refl _), dAt_none (Nat.le_refl _)] at hv
    rw [hv]; simp
  · obtain ⟨t, ht, rfl⟩ := List.mem_iff_getElem.1 hd
    have e : os[t] = dAt os t := by simp [dAt, ht]
    rw [e]; exact h.le t
theorem mul_lt_pow (b : Nat) (hb : 0 < b) (xs ys : List Nat) (hx : ∀ d ∈ xs, d < b) (hy : ∀ d ∈ ys, d < b) : ofDg b xs * ofDg b ys < b ^ (xs.length + ys.length) := by
  have h1 := ofDg_lt b hb xs hx
  have h2 := ofDg_lt b hb ys hy
  rw [Nat.pow_add]
  exact Nat.mul_lt_mul_of_lt_of_le h1 (Nat.le_of_lt h2) (Nat.pow_pos hb)
/-- Zeros at the end may go. -/
theorem ofDg_take_of_lt (b : Nat) (l : List Nat) (k : Nat) (h : ofDg b l < b ^ k) : ofDg b (l.take k) = ofDg b l := by
  have h1 := ofDg_split b l k
  rcases Nat.eq_zero_or_pos (ofDg b (l.drop k)) with h2 | h2
  · rw [h2] at h1; omega
  · have : b ^ k * 1 ≤ b ^ k * ofDg b (l.drop k) := Nat.mul_le_mul_left _ h2
    omega
/-- Long division, a digit at a time: before its round, i digits are left. -/
structure LInv (D n i : Nat) (as qs rs : List Nat) : Prop where
  len : qs.length = as.length
  rlt : ofDg 10 rs < D
  rd : ∀ d ∈ rs, d < 10
  rlen : rs.length ≤ n + 1
  qlt : ∀ d ∈ qs, d < 10
  val : ofDg 10 (as.drop i) = ofDg 10 (qs.drop i) * D + ofDg 10 rs
  zero : ∀ t, t < i → dAt qs t = 0
/-- .. within a round. -/
structure LIn (D n i : Nat) (as qs rs : List Nat) : Prop where
  len : qs.length = as.length
  rd : ∀ d ∈ rs, d < 10
  rlen : rs.length ≤ n + 1
  qlt : ∀ d ∈ qs, d < 10
  val : ofDg 10 (as.drop i) = ofDg 10 (qs.drop i) * D + ofDg 10 rs
  zero : ∀ t, t < i → dAt qs t = 0
  tot : D * dAt qs i + ofDg 10 rs < 10 * D
theorem LInv.start {D n : Nat} {as : List Nat} (hD : 0 < D) : LInv D n as.length as (List.replicate as.length 0) [] :=
  ⟨by simp, by simpa [ofDg] using hD, by simp, by simp, by intro d hd; rw [List.eq_of_mem_replicate hd]; omega, by simp [ofDg], fun t _ => dAt_replicate _ _⟩
theorem LInv.open_ {D n i : Nat} {as qs rs : List Nat} (h : LInv D n (i + 1) as qs rs) (ha : ∀ d ∈ as, d < 10) (hD : D < 10 ^ n) :
    LIn D n i as qs ((dAt as i :: rs).take (n + 1)) := by
  have hai := dAt_lt (b := 10) (by omega) ha i
  have hv : ofDg 10 (dAt as i :: rs) < 10 ^ (n + 1) := by
    rw [ofDg_cons, Nat.pow_succ]
    have := h.rlt
    omega
  have hq : dAt qs i = 0 := h.zero i (by omega)
  have hr := h.rlt
  refine ⟨h.len, fun d hd => ?_, by rw [List.length_take]; omega, h.qlt, ?_, fun t ht => h.zero t (by omega), ?_⟩
  · rcases List.mem_cons.1 (List.mem_of_mem_take hd) with rfl | hd
    · exact hai
    · exact h.rd d hd
  · rw [ofDg_take_of_lt 10 _ _ hv, ofDg_drop 10 as i, ofDg_drop 10 qs i, h.val, hq, ofDg_cons, Nat.zero_add, Nat.mul_add, Nat.mul_assoc]
    omega
  · rw [ofDg_take_of_lt 10 _ _ hv, hq, ofDg_cons]
    omega
theorem LIn.more {D n i : Nat} {as qs rs rs' : List Nat} (h : LIn D n i as qs rs) (hi : i < as.length) (hge : D ≤ ofDg 10 rs) (hd : ∀ d ∈ rs', d < 10) (hv : ofDg 10 rs' = ofDg 10 rs - D) (hl : rs'.length ≤ rs.length) :
    LIn D n i as (qs.set i (dAt qs i + 1)) rs' := by
  have hlen := h.len
  have ht := h.tot
  have hrl := h.rlen
  have hq9 : dAt qs i + 1 < 10 := by
    have h1 : D * (dAt qs i + 1) < D * 10 := by rw [Nat.mul_add]; omega
    exact Nat.lt_of_mul_lt_mul_left h1
  refine ⟨by simp [hlen], hd, by omega, set_lt h.qlt hq9, ?_, fun t ht => ?_, ?_⟩
  · rw [ofDg_drop 10 (qs.set i _) i, dAt_set _ _ _ _ (by omega), if_pos rfl, hv, h.val, ofDg_drop 10 qs i, List.drop_set_of_lt (by omega), Nat.add_mul, Nat.add_mul, Nat.add_mul]
    omega
  · rw [dAt_set _ _ _ _ (by omega), if_neg (by omega)]
    exact h.zero t ht
  · rw [dAt_set _ _ _ _ (by omega), if_pos rfl, hv, Nat.mul_add]
    omega
theorem LIn.close {D n i : Nat} {as qs rs : List Nat} (h : LIn D n i as qs rs) (hlt : ofDg 10 rs < D) : LInv D n i as qs rs :=
  ⟨h.len, hlt, h.rd, h.rlen, h.qlt, h.val, h.zero⟩
theorem LInv.done {D n : Nat} {as qs rs : List Nat} (h : LInv D n 0 as qs rs) : ofDg 10 qs = ofDg 10 as / D ∧ ofDg 10 rs = ofDg 10 as % D := by
  have := div_of (ofDg 10 as) D (ofDg 10 qs) (ofDg 10 rs) h.rlt (by have := h.val; simpa using this)
  exact ⟨this.1.symm, this.2.symm⟩

/-- The error of two arguments. -/
def bothE (a b : ByteArray) : Int := if chk a.data.toList = 0 then chk b.data.toList else chk a.data.toList
/-- What an operation on two integers answers. -/
def opS (f : Int → Int → Int) (a b : ByteArray) : ByteArray := if bothE a b = 0 then resS (f (ival a.data.toList) (ival b.data.toList)) else ⟨#[]⟩
def opE (f : Int → Int → Int) (a b : ByteArray) : Int := if bothE a b = 0 then resE (f (ival a.data.toList) (ival b.data.toList)) else bothE a b
def cmpI (x y : Int) : Int := if x < y then -1 else if x = y then 0 else 1
def cmpV (a b : ByteArray) : Int := if bothE a b = 0 then cmpI (ival a.data.toList) (ival b.data.toList) else 0
/-- The error of a division. -/
def divE (a b : ByteArray) : Int := if bothE a b = 0 then (if ival b.data.toList = 0 then 16 else 0) else bothE a b
def divS (f : Int → Int → Int) (a b : ByteArray) : ByteArray := if divE a b = 0 then ⟨(txt (f (ival a.data.toList) (ival b.data.toList))).toArray⟩ else ⟨#[]⟩
def gcdI (x y : Int) : Int := (Nat.gcd x.natAbs y.natAbs : Nat)

theorem bothE_zero {a b : ByteArray} (h : bothE a b = 0) : chk a.data.toList = 0 ∧ chk b.data.toList = 0 := by
  unfold bothE at h
  by_cases h1 : chk a.data.toList = 0
  · rw [if_pos h1] at h; exact ⟨h1, h⟩
  · rw [if_neg h1] at h; exact absurd h h1
theorem bothE_ok {a b : ByteArray} (h : chk a.data.toList = 0) (h' : chk b.data.toList = 0) : bothE a b = 0 := by unfold bothE; rw [if_pos h, h']
theorem decB_mono {n m : Nat} (h : n ≤ m) : (decB n).length ≤ (decB m).length := by
  rcases Nat.eq_zero_or_pos n with h0 | h0
  · subst h0
    have := decB_ne m
    have h1 : 0 < (decB m).length := List.length_pos_iff.2 this
    simp [decB_zero]; omega
  · rw [decB_len n h0, decB_len m (by omega)]
    exact dg_len_le 10 (by omega) h
/-- The size of a canonical integer's absolute value. -/
theorem decB_ival {l : List UInt8} (h : canon l = true) : (decB (ival l).natAbs).length = (mags l).length := by
  have h1 := txt_ival h
  rw [← mags_txt, h1]
theorem chk_txt {z : Int} (h : (decB z.natAbs).length ≤ 1000) : chk (txt z) = 0 := by
  rw [chk_zero_iff]; exact ⟨canon_txt z, by rw [mags_txt]; exact h⟩
theorem chk_size {l : List UInt8} (h : chk l = 0) : l.length ≤ 1001 := by
  have h1 := (chk_zero_iff.1 h).2
  unfold mags at h1
  split at h1
  · rw [List.length_tail] at h1; omega
  · omega
theorem resS_ok {z : Int} (h : resE z = 0) : resS z = ⟨(txt z).toArray⟩ ∧ (decB z.natAbs).length ≤ 1000 := by
  unfold resE at h
  unfold resS
  split at h
  · cases h
  · rename_i h1
    rw [if_neg h1]; exact ⟨rfl, by omega⟩
theorem resE_cases (z : Int) : resE z = 0 ∨ resE z = 14 := by unfold resE; split <;> simp
theorem resS_bad {z : Int} (h : resE z ≠ 0) : resS z = ⟨#[]⟩ := by
  unfold resE at h
  unfold resS
  split at h
  · rename_i h1; rw [if_pos h1]
  · exact absurd rfl h
theorem cmpI_abs (x y : Nat) : cmpI x y = cmp x y := by unfold cmpI cmp; simp only [Int.ofNat_lt, Int.ofNat_inj]
theorem cmpI_neg (x y : Int) : cmpI (-x) (-y) = cmpI y x := by
  unfold cmpI
  by_cases h1 : y < x
  · rw [if_pos (by omega), if_pos h1]
  · by_cases h2 : y = x
    · rw [if_neg (by omega), if_pos (by omega), if_neg h1, if_pos h2]
    · rw [if_neg (by omega), if_neg (by omega), if_neg h1, if_neg h2]
theorem ival_neg (l : List UInt8) (h : isNeg l = true) : ival l = -(natOf (mags l) : Int) := by unfold ival; rw [if_pos h]
theorem ival_pos (l : List UInt8) (h : isNeg l = false) : ival l = (natOf (mags l) : Int) := by unfold ival; rw [if_neg (by simp [h])]
/-- A canonical integer bears a sign just where it is negative. -/
theorem isNeg_ival {l : List UInt8} (h : canon l = true) : isNeg l = decide (ival l < 0) := by
  rw [← isNeg_txt, txt_ival h]
end Z
end Go.Proofs.YtifafmomkpkgdaaDoor
