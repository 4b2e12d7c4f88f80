/- Plain lists and integers: long division, one digit of the quotient after the other. -/
import Derived.Test.YthafdckomhdlbaaZmul
namespace Go.Proofs.Ythafdckomhdlbaa
namespace Z

theorem dAt_ext {x y : List Nat} (b : Nat) (h : ∀ i, dAt x i = dAt y i) : ofDg b x = ofDg b y := by
  have : ∀ (n : Nat) (x y : List Nat), x.length ≤ n → y.length ≤ n → (∀ i, dAt x i = dAt y i) → ofDg b x = ofDg b y := by
    intro n
    induction n with
    | zero =>
      intro x y hx hy _
      rw [List.eq_nil_of_length_eq_zero (Nat.le_zero.1 hx), List.eq_nil_of_length_eq_zero (Nat.le_zero.1 hy)]
    | succ n ih =>
      intro x y hx hy h
      have e := ofDg_drop b x 0
      have e' := ofDg_drop b y 0
      rw [List.drop_zero] at e e'
      rw [e, e', h 0, ih (x.drop 1) (y.drop 1) (by rw [List.length_drop]; omega) (by rw [List.length_drop]; omega) (fun i => by
        have := h (i + 1)
        simpa [dAt, List.getElem?_drop] using this)]
  exact this (max x.length y.length) x y (Nat.le_max_left _ _) (Nat.le_max_right _ _) h
theorem dAt_drop (l : List Nat) (k i : Nat) : dAt (l.drop k) i = dAt l (k + i) := by simp [dAt, List.getElem?_drop]
theorem dAt_take (l : List Nat) (k i : Nat) : dAt (l.take k) i = if i < k then dAt l i else 0 := by
  unfold dAt
  rw [List.getElem?_take]
  split <;> rfl
theorem dAt_le_ofDg (b : Nat) (l : List Nat) (i : Nat) : b ^ i * dAt l i ≤ ofDg b l := by
  rw [ofDg_split b l i, ofDg_drop, Nat.mul_add]
  omega
theorem dAt_zero (b : Nat) (hb : 0 < b) (l : List Nat) (n : Nat) (h : ofDg b l < b ^ n) (i : Nat) (hi : n ≤ i) : dAt l i = 0 := by
  rcases Nat.eq_zero_or_pos (dAt l i) with h0 | h0
  · exact h0
  · have h1 := dAt_le_ofDg b l i
    have h2 : b ^ n ≤ b ^ i := Nat.pow_le_pow_right hb hi
    have h3 : b ^ i * 1 ≤ b ^ i * dAt l i := Nat.mul_le_mul_left _ h0
    omega
/-- Three leading digits of n + 1. -/
theorem lead3 (b : Nat) (l : List Nat) (n : Nat) (hl : l.length ≤ n + 1) (hn : 2 ≤ n) : ofDg b l = ((dAt l n * b + dAt l (n - 1)) * b + dAt l (n - 2)) * b ^ (n - 2) + ofDg b (l.take (n - 2)) := by
  have e1 := ofDg_split b l (n - 2)
  have e2 := ofDg_drop b l (n - 2)
  have e3 := ofDg_drop b l (n - 1)
  have e4 := ofDg_drop b l n
  rw [show n - 2 + 1 = n - 1 from by omega] at e2
  rw [show n - 1 + 1 = n from by omega] at e3
  rw [List.drop_of_length_le hl, ofDg_nil, Nat.mul_zero, Nat.add_zero] at e4
  rw [e1, e2, e3, e4, Nat.mul_comm (b ^ (n - 2)), Nat.mul_comm b (dAt l n)]
  rw [Nat.add_comm (ofDg b _)]
  congr 2
  rw [Nat.mul_comm b, Nat.add_comm (dAt l (n - 2)), Nat.add_comm (dAt l (n - 1))]
theorem lead2 (b : Nat) (l : List Nat) (n : Nat) (hl : l.length ≤ n) (hn : 2 ≤ n) : ofDg b l = (dAt l (n - 1) * b + dAt l (n - 2)) * b ^ (n - 2) + ofDg b (l.take (n - 2)) := by
  have h := lead3 b l n (by omega) hn
  rw [dAt_none hl, Nat.zero_mul, Nat.zero_add] at h
  exact h

/-- What holds of the dividend's and the quotient's digits when the quotient's digits from J on are known. -/
def DInv (b L n V T J : Nat) (us qs : List Nat) : Prop :=
  us.length = L ∧ (∀ d ∈ us, d < b) ∧ qs.length + n = L ∧ (∀ d ∈ qs, d < b) ∧ ofDg b us + V * (b ^ J * ofDg b (qs.drop J)) = T ∧ ofDg b (us.drop J) < V
/-- The window of n + 1 digits. -/
def win (us : List Nat) (j n : Nat) : List Nat := (us.drop j).take (n + 1)
theorem win_length {us : List Nat} {j n : Nat} (h : j + n + 1 ≤ us.length) : (win us j n).length = n + 1 := by
  unfold win; rw [List.length_take, List.length_drop]; omega
theorem win_lt {b : Nat} {us : List Nat} (h : ∀ d ∈ us, d < b) (j n : Nat) : ∀ d ∈ win us j n, d < b := fun d hd => h d (List.mem_of_mem_drop (List.mem_of_mem_take hd))
theorem dAt_win (us : List Nat) (j n i : Nat) (hi : i ≤ n) : dAt (win us j n) i = dAt us (j + i) := by
  unfold win; rw [dAt_take, if_pos (by omega), dAt_drop]
theorem win_at (us : List Nat) (j n i : Nat) (hi : i ≤ n) : (win us j n)[i]? = us[j + i]? := by
  unfold win; rw [List.getElem?_take, if_pos (by omega), List.getElem?_drop]

section
variable {b L n V T j : Nat} {us qs : List Nat} (hb : 2 ≤ b) (hn : 2 ≤ n) (hV : V < b ^ n) (h : DInv b L n V T (j + 1) us qs)
include hb hn hV h
theorem DInv.top_zero (i : Nat) (hi : j + 1 + n ≤ i) : dAt us i = 0 := by
  have h1 := dAt_zero b (by omega) (us.drop (j + 1)) n (Nat.lt_trans h.2.2.2.2.2 hV) (i - (j + 1)) (by omega)
  rw [dAt_drop] at h1
  rwa [show j + 1 + (i - (j + 1)) = i from by omega] at h1
theorem DInv.win_eq : ofDg b (win us j n) = ofDg b (us.drop j) := by
  refine dAt_ext b fun i => ?_
  unfold win
  rw [dAt_take]
  split
  · rfl
  · rw [dAt_drop]
    exact (DInv.top_zero hb hn hV h (j + i) (by omega)).symm
theorem DInv.win_small : ofDg b (win us j n) < V * b := by
  rw [DInv.win_eq hb hn hV h, ofDg_drop]
  have h1 := dAt_lt (b := b) (by omega) h.2.1 j
  have h2 : b * (ofDg b (us.drop (j + 1)) + 1) ≤ b * V := Nat.mul_le_mul_left _ h.2.2.2.2.2
  rw [Nat.mul_add] at h2
  rw [Nat.mul_comm V b]
  omega
end
/-- The guessed digit, of the window and of the divisor's digits. -/
theorem DInv.guess {b L n V T j : Nat} {us qs vs : List Nat} (hb : 2 ≤ b) (hn : 2 ≤ n) (hvl : vs.length = n) (hvb : ∀ d ∈ vs, d < b) (hvt : 0 < dAt vs (n - 1)) (hV : ofDg b vs = V) (h : DInv b L n V T (j + 1) us qs) (hj : j + n + 1 ≤ L) :
    dAt us (j + n) ≤ dAt vs (n - 1) ∧
    ofDg b (win us j n) / V ≤ gs b (dAt us (j + n)) (dAt us (j + n - 1)) (dAt us (j + n - 2)) (dAt vs (n - 1)) (dAt vs (n - 2)) ∧
    gs b (dAt us (j + n)) (dAt us (j + n - 1)) (dAt us (j + n - 2)) (dAt vs (n - 1)) (dAt vs (n - 2)) ≤ ofDg b (win us j n) / V + 1 := by
  have hVn : V < b ^ n := by rw [← hV, ← hvl]; exact ofDg_lt b (by omega) vs hvb
  have hs := DInv.win_small hb hn hVn h
  have hwl := win_length (us := us) (j := j) (n := n) (by rw [h.1]; omega)
  have e1 := lead3 b (win us j n) n (by omega) hn
  rw [dAt_win _ _ _ _ (Nat.le_refl _), dAt_win _ _ _ _ (by omega), dAt_win _ _ _ _ (by omega), ← Nat.add_sub_assoc (by omega), ← Nat.add_sub_assoc (by omega)] at e1
  have e2 := lead2 b vs n (by omega) hn
  rw [hV] at e2
  have l1 := ofDg_take_lt b (by omega) (win us j n) (win_lt h.2.1 j n) (n - 2)
  have l2 := ofDg_take_lt b (by omega) vs hvb (n - 2)
  refine ⟨?_, gs_near b _ _ _ _ _ (b ^ (n - 2)) _ _ _ V (by omega) hvt l1 l2 e1 e2 hs⟩
  have h1 := dAt_le_ofDg b (win us j n) n
  rw [dAt_win _ _ _ _ (Nat.le_refl _)] at h1
  have h2 : V < b ^ (n - 1) * (dAt vs (n - 1) + 1) := by
    have h3 := ofDg_split b vs (n - 1)
    have h4 := ofDg_take_lt b (by omega) vs hvb (n - 1)
    rw [ofDg_drop, List.drop_of_length_le (by omega : vs.length ≤ n - 1 + 1), ofDg_nil, Nat.mul_zero, Nat.add_zero, hV] at h3
    rw [Nat.mul_add]
    omega
  have h5 : V * b < b ^ n * (dAt vs (n - 1) + 1) := by
    have : b ^ n = b ^ (n - 1) * b := by rw [← Nat.pow_succ]; congr 1; omega
    rw [this, Nat.mul_right_comm]
    exact Nat.mul_lt_mul_of_pos_right h2 (by omega)
  have h6 : b ^ n * dAt us (j + n) < b ^ n * (dAt vs (n - 1) + 1) := by omega
  have := Nat.lt_of_mul_lt_mul_left h6
  omega
/-- One digit more of the quotient. -/
theorem DInv.step {b L n V T j : Nat} {us us' qs left : List Nat} (hb : 2 ≤ b) (hn : 2 ≤ n) (hV : V < b ^ n) (hV0 : 0 < V) (h : DInv b L n V T (j + 1) us qs) (hj : j + n + 1 ≤ L)
    (hl : left = dg b (ofDg b (win us j n) % V)) (hul : us'.length = L) (hub : ∀ d ∈ us', d < b) (hu : ∀ t, dAt us' t = if j ≤ t ∧ t < j + n + 1 then dAt left (t - j) else dAt us t) :
    DInv b L n V T j us' (qs.set j (ofDg b (win us j n) / V)) := by
  have hql : j < qs.length := by have := h.2.2.1; omega
  have hW := DInv.win_eq hb hn hV h
  have hs := DInv.win_small hb hn hV h
  have hval : ofDg b left = ofDg b (win us j n) % V := by rw [hl, ofDg_dg b hb]
  have hleft : left.length ≤ n := by
    rw [hl]
    exact dg_len_of_lt b hb _ n (Nat.lt_trans (Nat.mod_lt _ hV0) hV)
  have hd : ofDg b (us'.drop j) = ofDg b left := by
    refine dAt_ext b fun i => ?_
    rw [dAt_drop, hu]
    by_cases hi : i < n + 1
    · rw [if_pos ⟨by omega, by omega⟩, Nat.add_sub_cancel_left]
    · rw [if_neg (by omega), DInv.top_zero hb hn hV h _ (by omega), dAt_none (by omega)]
  have ht : ofDg b (us'.take j) = ofDg b (us.take j) := by
    refine dAt_ext b fun i => ?_
    rw [dAt_take, dAt_take]
    split
    · rw [hu, if_neg (by omega)]
    · rfl
  have hqd : ofDg b (win us j n) / V < b := by
    rw [Nat.div_lt_iff_lt_mul hV0, Nat.mul_comm]; exact hs
  refine ⟨hul, hub, by rw [List.length_set]; exact h.2.2.1, set_lt h.2.2.2.1 hqd, ?_, by rw [hd, hval]; exact Nat.mod_lt _ hV0⟩
  have hT := h.2.2.2.2.1
  have e1 := ofDg_split b us' j
  have e2 := ofDg_split b us j
  have e3 : ofDg b ((qs.set j (ofDg b (win us j n) / V)).drop j) = ofDg b (win us j n) / V + b * ofDg b (qs.drop (j + 1)) := by
    rw [ofDg_drop, dAt_set _ _ _ _ hql, if_pos rfl, List.drop_set_of_lt (by omega)]
  have e4 := Nat.div_add_mod (ofDg b (win us j n)) V
  rw [e3, e1, ht, hd, hval]
  rw [e2, ← hW] at hT
  generalize ofDg b (win us j n) / V = q at *
  generalize ofDg b (win us j n) % V = r at *
  generalize ofDg b (win us j n) = W at *
  generalize ofDg b (qs.drop (j + 1)) = Q at *
  rw [← hT, ← e4, Nat.pow_succ]
  have a1 : V * (b ^ j * (q + b * Q)) = V * (b ^ j * q) + V * (b ^ j * b * Q) := by rw [Nat.mul_add, Nat.mul_add, Nat.mul_assoc (b ^ j) b Q]
  have a2 : b ^ j * (V * q + r) = V * (b ^ j * q) + b ^ j * r := by rw [Nat.mul_add, Nat.mul_left_comm]
  omega
theorem DInv.start {b L n V T M : Nat} {us : List Nat} (hb : 2 ≤ b) (hM : n + M = L) (hul : us.length = L) (hub : ∀ d ∈ us, d < b) (hT : ofDg b us = T) (hlt : T < b ^ M * V) : DInv b L n V T M us (List.replicate M 0) := by
  refine ⟨hul, hub, by simp; omega, by simp; omega, ?_, ?_⟩
  · rw [List.drop_of_length_le (by simp), ofDg_nil]; omega
  · have e := ofDg_split b us M
    have h1 : b ^ M * ofDg b (us.drop M) < b ^ M * V := by omega
    exact Nat.lt_of_mul_lt_mul_left h1
/-- The end: the scaled quotient and rest. -/
theorem DInv.done {b L n X Y sc : Nat} {us qs : List Nat} (hsc : 0 < sc) (h : DInv b L n (Y * sc) (X * sc) 0 us qs) : ofDg b qs = X / Y ∧ ofDg b us / sc = X % Y := by
  obtain ⟨_, _, _, _, h1, h2⟩ := h
  rw [List.drop_zero] at h1 h2
  rw [Nat.pow_zero, Nat.one_mul] at h1
  generalize ofDg b qs = Q at *
  generalize ofDg b us = R at *
  have e1 : Y * sc * Q = Y * Q * sc := Nat.mul_right_comm _ _ _
  have hle : Y * Q ≤ X := by
    have : Y * Q * sc ≤ X * sc := by omega
    exact Nat.le_of_mul_le_mul_right this hsc
  obtain ⟨r, rfl⟩ : ∃ r, X = Q * Y + r := ⟨X - Y * Q, by rw [Nat.mul_comm Q Y]; omega⟩
  have e2 : R = r * sc := by
    rw [Nat.add_mul, Nat.mul_comm Q Y] at h1
    omega
  subst e2
  have hr : r < Y := Nat.lt_of_mul_lt_mul_right h2
  obtain ⟨e3, e4⟩ := div_of _ Y Q r hr rfl
  rw [e3, e4, Nat.mul_div_cancel _ hsc]
  exact ⟨rfl, rfl⟩
/-- The scale. -/
theorem scale_facts {b : Nat} (hb : 2 ≤ b) (ys : List Nat) (hy : Can b ys) (hn : 2 ≤ ys.length) :
    0 < dAt ys (ys.length - 1) ∧ 0 < b / (dAt ys (ys.length - 1) + 1) ∧ b / (dAt ys (ys.length - 1) + 1) < b ∧ (dg b (ofDg b ys * (b / (dAt ys (ys.length - 1) + 1)))).length = ys.length ∧
    ofDg b ys * (b / (dAt ys (ys.length - 1) + 1)) < b ^ ys.length ∧ b ^ (ys.length - 1) ≤ ofDg b ys := by
  have h0 : 0 < dAt ys (ys.length - 1) := by
    rcases Nat.eq_zero_or_pos (dAt ys (ys.length - 1)) with h | h
    · exfalso
      apply hy.2
      rw [List.getLast?_eq_getElem?, dAt_eq (by omega), h]
    · exact h
  have h1 := dAt_lt (b := b) (by omega) hy.1 (ys.length - 1)
  have h2 : 0 < b / (dAt ys (ys.length - 1) + 1) := Nat.div_pos (by omega) (by omega)
  have h3 : b / (dAt ys (ys.length - 1) + 1) < b := Nat.div_lt_self (by omega) (by omega)
  have h4 : b / (dAt ys (ys.length - 1) + 1) * (dAt ys (ys.length - 1) + 1) ≤ b := Nat.div_mul_le_self _ _
  have h5 : ofDg b ys < b ^ (ys.length - 1) * (dAt ys (ys.length - 1) + 1) := by
    have e := ofDg_split b ys (ys.length - 1)
    have l := ofDg_take_lt b (by omega) ys hy.1 (ys.length - 1)
    rw [ofDg_drop, List.drop_of_length_le (by omega : ys.length ≤ ys.length - 1 + 1), ofDg_nil, Nat.mul_zero, Nat.add_zero] at e
    rw [Nat.mul_add]
    omega
  have h7 := can_ge b hb ys hy (by omega)
  generalize hs : b / (dAt ys (ys.length - 1) + 1) = s at *
  have h6 : ofDg b ys * s < b ^ ys.length := by
    have e : b ^ ys.length = b ^ (ys.length - 1) * b := by rw [← Nat.pow_succ]; congr 1; omega
    rw [e]
    have l1 : ofDg b ys * s < b ^ (ys.length - 1) * (dAt ys (ys.length - 1) + 1) * s := Nat.mul_lt_mul_of_pos_right h5 h2
    have l2 : b ^ (ys.length - 1) * (dAt ys (ys.length - 1) + 1) * s ≤ b ^ (ys.length - 1) * b := by
      rw [Nat.mul_assoc, Nat.mul_comm _ s]
      exact Nat.mul_le_mul_left _ h4
    omega
  refine ⟨h0, h2, h3, ?_, h6, h7⟩
  refine Nat.le_antisymm (dg_len_of_lt b hb _ _ h6) ?_
  have h8 := dg_len_le b hb (x := ofDg b ys) (y := ofDg b ys * s) (Nat.le_mul_of_pos_right _ h2)
  rwa [dg_ofDg b hb ys hy] at h8
theorem top_pos {b : Nat} {l : List Nat} (h : Can b l) (h0 : 0 < l.length) : 0 < dAt l (l.length - 1) := by
  rcases Nat.eq_zero_or_pos (dAt l (l.length - 1)) with h1 | h1
  · exfalso
    apply h.2
    rw [List.getLast?_eq_getElem?, dAt_eq (by omega), h1]
  · exact h1
theorem scaled_lt {b X sc k : Nat} (hX : X < b ^ k) (hsc : sc < b) : X * sc < b ^ (k + 1) := by
  rw [Nat.pow_succ]
  rcases Nat.eq_zero_or_pos sc with h | h
  · rw [h, Nat.mul_zero]; exact Nat.mul_pos (by omega) (by omega)
  · exact Nat.mul_lt_mul_of_lt_of_le hX (by omega) (by omega)
theorem start_lt {b X Y sc k n M : Nat} (hX : X < b ^ k) (hsc : 0 < sc) (hY : b ^ (n - 1) ≤ Y) (hn : 1 ≤ n) (hM : n + M = k + 1) : X * sc < b ^ M * (Y * sc) := by
  have h1 : X * sc < b ^ k * sc := Nat.mul_lt_mul_of_pos_right hX hsc
  have h2 : b ^ k = b ^ M * b ^ (n - 1) := by rw [← Nat.pow_add]; congr 1; omega
  have h3 : b ^ M * b ^ (n - 1) * sc ≤ b ^ M * (Y * sc) := by
    rw [Nat.mul_assoc]
    exact Nat.mul_le_mul_left _ (Nat.mul_le_mul_right _ hY)
  rw [h2] at h1
  omega
end Z
end Go.Proofs.Ythafdckomhdlbaa
