/- Plain lists and integers: digits: multiplied, divided by one digit, a digit of a quotient guessed. -/
import Derived.Test.YthafdckomhdlbaaZcmp
namespace Go.Proofs.Ythafdckomhdlbaa
namespace Z

theorem ofDg_set (b : Nat) (l : List Nat) (k d : Nat) (h : k < l.length) : ofDg b (l.set k d) + b ^ k * dAt l k = ofDg b l + b ^ k * d := by
  induction l generalizing k with
  | nil => simp at h
  | cons x r ih =>
    cases k with
    | zero => simp [ofDg, dAt]; omega
    | succ k =>
      have h1 := ih k (by simpa using h)
      simp only [List.set_cons_succ, ofDg_cons, Nat.pow_succ]
      have e : dAt (x :: r) (k + 1) = dAt r k := by simp [dAt]
      rw [e]
      have h2 : b * (ofDg b (r.set k d) + b ^ k * dAt r k) = b * (ofDg b r + b ^ k * d) := by rw [h1]
      rw [Nat.mul_add, Nat.mul_add, ← Nat.mul_assoc, ← Nat.mul_assoc, Nat.mul_comm b (b ^ k)] at h2
      omega
theorem dAt_set (l : List Nat) (k d i : Nat) (h : k < l.length) : dAt (l.set k d) i = if i = k then d else dAt l i := by
  unfold dAt
  rw [List.getElem?_set]
  by_cases e : k = i
  · subst e; simp [h]
  · rw [if_neg e, if_neg (fun h => e h.symm)]
theorem set_lt {b : Nat} {l : List Nat} {k d : Nat} (h : ∀ x ∈ l, x < b) (hd : d < b) : ∀ x ∈ l.set k d, x < b := by
  intro x hx
  rcases List.mem_or_eq_of_mem_set hx with hx | hx
  · exact h x hx
  · rw [hx]; exact hd
theorem dAt_eq {l : List Nat} {i : Nat} (h : i < l.length) : l[i]? = some (dAt l i) := by simp [dAt, h]
theorem ofDg_replicate (b n : Nat) : ofDg b (List.replicate n 0) = 0 := by
  induction n with
  | zero => rfl
  | succ n ih => rw [List.replicate_succ, ofDg_cons, ih]; simp
theorem dAt_replicate (n i : Nat) : dAt (List.replicate n 0) i = 0 := by
  unfold dAt
  rw [List.getElem?_replicate]
  split <;> rfl

/-- One product of a digit with a digit, put into its place. -/
theorem times_inner (b : Nat) (hb : 2 ≤ b) (ys out : List Nat) (S x i j c : Nat) (hx : x < b) (hy : ∀ d ∈ ys, d < b) (ho : ∀ d ∈ out, d < b) (hc : c < b) (hlt : i + j < out.length)
    (hv : ofDg b out + b ^ (i + j) * c = S + b ^ i * (x * ofDg b (ys.take j))) :
    (x * dAt ys j + dAt out (i + j) + c) / b < b ∧
    ofDg b (out.set (i + j) ((x * dAt ys j + dAt out (i + j) + c) % b)) + b ^ (i + (j + 1)) * ((x * dAt ys j + dAt out (i + j) + c) / b) = S + b ^ i * (x * ofDg b (ys.take (j + 1))) := by
  have h1 := dAt_lt (b := b) (by omega) hy j
  have h2 := dAt_lt (b := b) (by omega) ho (i + j)
  generalize hyj : dAt ys j = y at *
  generalize hoj : dAt out (i + j) = o at *
  refine ⟨?_, ?_⟩
  · rw [Nat.div_lt_iff_lt_mul (by omega)]
    have h3 : x * y ≤ (b - 1) * (b - 1) := Nat.mul_le_mul (by omega) (by omega)
    obtain ⟨a, rfl⟩ : ∃ a, b = a + 1 := ⟨b - 1, by omega⟩
    simp only [Nat.add_sub_cancel] at h3
    have h4 : (a + 1) * (a + 1) = a * a + 2 * a + 1 := by rw [Nat.add_mul, Nat.mul_add]; omega
    omega
  · have hs := ofDg_set b out (i + j) ((x * y + o + c) % b) hlt
    rw [hoj] at hs
    have hp : b ^ (i + (j + 1)) = b ^ (i + j) * b := by rw [← Nat.add_assoc, Nat.pow_succ]
    rw [hp, Nat.mul_assoc, ofDg_take, hyj]
    have e : b ^ (i + j) * ((x * y + o + c) % b) + b ^ (i + j) * (b * ((x * y + o + c) / b)) = b ^ (i + j) * (x * y + o + c) := by
      rw [← Nat.mul_add, Nat.mod_add_div]
    have e2 : b ^ i * (x * (ofDg b (ys.take j) + b ^ j * y)) = b ^ i * (x * ofDg b (ys.take j)) + b ^ (i + j) * (x * y) := by
      rw [Nat.mul_add, Nat.mul_add, Nat.pow_add]
      congr 1
      rw [Nat.mul_left_comm x, Nat.mul_assoc]
    rw [e2]
    rw [Nat.mul_add, Nat.mul_add] at e
    omega
/-- The last carry of a row. -/
theorem times_outer (b : Nat) (xs ys out : List Nat) (i c : Nat) (hlt : i + ys.length < out.length) (hz : dAt out (i + ys.length) = 0)
    (hv : ofDg b out + b ^ (i + ys.length) * c = ofDg b (xs.take i) * ofDg b ys + b ^ i * (dAt xs i * ofDg b (ys.take ys.length))) :
    ofDg b (out.set (i + ys.length) c) = ofDg b (xs.take (i + 1)) * ofDg b ys := by
  have hs := ofDg_set b out (i + ys.length) c hlt
  rw [hz, Nat.mul_zero, Nat.add_zero] at hs
  rw [hs, hv, List.take_of_length_le (Nat.le_refl _), ofDg_take, Nat.add_mul, Nat.mul_assoc]

/-- One digit of a division by a digit. -/
theorem short_step (b : Nat) (l q : List Nat) (k rest d : Nat) (hd : 0 < d) (hlt : k < l.length) (hq : q.length = l.length) (hb : dAt l k < b) (hr : rest < d)
    (hv : ofDg b (l.drop (k + 1)) = ofDg b (q.drop (k + 1)) * d + rest) :
    ofDg b (l.drop k) = ofDg b ((q.set k ((rest * b + dAt l k) / d)).drop k) * d + (rest * b + dAt l k) % d ∧ (rest * b + dAt l k) / d < b ∧ (rest * b + dAt l k) % d < d := by
  refine ⟨?_, ?_, Nat.mod_lt _ hd⟩
  · rw [ofDg_drop b l k, ofDg_drop b (q.set k _) k, dAt_set _ _ _ _ (by omega), if_pos rfl, hv]
    have e : (q.set k ((rest * b + dAt l k) / d)).drop (k + 1) = q.drop (k + 1) := by
      rw [List.drop_set_of_lt (by omega)]
    rw [e, Nat.add_mul, Nat.add_right_comm, Nat.mul_comm ((rest * b + dAt l k) / d) d, Nat.div_add_mod, Nat.mul_add, Nat.mul_comm b rest, Nat.mul_assoc]
    omega
  · rw [Nat.div_lt_iff_lt_mul hd, Nat.mul_comm b d]
    have : (rest + 1) * b ≤ d * b := Nat.mul_le_mul_right _ hr
    rw [Nat.add_mul] at this
    omega
theorem div_of (n d q r : Nat) (hd : r < d) (h : n = q * d + r) : n / d = q ∧ n % d = r := by
  subst h
  rw [Nat.mul_comm q d]
  exact ⟨by rw [Nat.mul_add_div (by omega), Nat.div_eq_of_lt hd]; omega, by rw [Nat.mul_add_mod, Nat.mod_eq_of_lt hd]⟩

/-- The digit that is guessed: of three leading digits by two. -/
def gs (b t u v y z : Nat) : Nat := min (b - 1) (((t * b + u) * b + v) / (y * b + z))
/-- What holds while it is lowered. -/
theorem gs_start (b t u v y z : Nat) (hy : 0 < y) (hv : v < b) : gs b t u v y z ≤ (t * b + u) / y := by
  refine Nat.le_trans (Nat.min_le_right _ _) ?_
  rw [Nat.le_div_iff_mul_le hy]
  have h1 : ((t * b + u) * b + v) / (y * b + z) * (y * b + z) ≤ (t * b + u) * b + v := Nat.div_mul_le_self _ _
  generalize ((t * b + u) * b + v) / (y * b + z) = q at *
  generalize t * b + u = top at *
  rcases Nat.lt_or_ge top (q * y) with h | h
  · exfalso
    have h2 : (top + 1) * b ≤ q * y * b := Nat.mul_le_mul_right _ h
    rw [Nat.add_mul] at h2
    rw [Nat.mul_add, ← Nat.mul_assoc] at h1
    omega
  · exact h
theorem gs_lower (b t u v y z q r : Nat) (hy : 0 < y) (hb : 0 < b) (hq : q * y + r = t * b + u) (hbad : b ≤ q ∨ r * b + v < q * z) (h : gs b t u v y z ≤ q) : gs b t u v y z ≤ q - 1 ∧ 0 < q := by
  have hlt : gs b t u v y z < q := by
    rcases hbad with h1 | h1
    · have : gs b t u v y z ≤ b - 1 := Nat.min_le_left _ _
      omega
    · have h2 : gs b t u v y z ≤ ((t * b + u) * b + v) / (y * b + z) := Nat.min_le_right _ _
      have h3 : ((t * b + u) * b + v) / (y * b + z) < q := by
        rw [Nat.div_lt_iff_lt_mul (Nat.lt_of_lt_of_le (Nat.mul_pos hy hb) (Nat.le_add_right _ _)), ← hq, Nat.add_mul, Nat.mul_add, Nat.mul_assoc]
        omega
      omega
  exact ⟨by omega, by omega⟩
theorem gs_done (b t u v y z q r : Nat) (hb : 0 < b) (hy : 0 < y) (hq : q * y + r = t * b + u) (h1 : q < b) (h2 : q * z ≤ r * b + v) (h : gs b t u v y z ≤ q) : gs b t u v y z = q := by
  refine Nat.le_antisymm h ?_
  unfold gs
  refine Nat.le_min.2 ⟨by omega, ?_⟩
  rw [Nat.le_div_iff_mul_le (Nat.lt_of_lt_of_le (Nat.mul_pos hy hb) (Nat.le_add_right _ _)), ← hq, Nat.add_mul, Nat.mul_add, Nat.mul_assoc]
  omega
/-- The guessed digit is the quotient's, or one greater. -/
theorem gs_near (b t u v y z P r s W V : Nat) (hb : 0 < b) (hy : 0 < y) (hr : r < P) (hs : s < P) (hW : W = ((t * b + u) * b + v) * P + r) (hV : V = (y * b + z) * P + s) (hlt : W < V * b) :
    W / V ≤ gs b t u v y z ∧ gs b t u v y z ≤ W / V + 1 := by
  have hyb : 0 < y * b := Nat.mul_pos hy hb
  have hVp : 0 < V := by
    rw [hV]
    exact Nat.lt_of_lt_of_le (Nat.mul_pos (by omega : 0 < y * b + z) (by omega)) (Nat.le_add_right _ _)
  refine ⟨Nat.le_min.2 ⟨?_, ?_⟩, ?_⟩
  · have : W / V < b := by rw [Nat.div_lt_iff_lt_mul hVp, Nat.mul_comm b V]; exact hlt
    exact Nat.le_sub_one_of_lt this
  · rw [Nat.le_div_iff_mul_le (by omega)]
    have h1 : W / V * V ≤ W := Nat.div_mul_le_self _ _
    generalize W / V = q at *
    rcases Nat.lt_or_ge ((t * b + u) * b + v) (q * (y * b + z)) with h | h
    · exfalso
      have h2 : ((t * b + u) * b + v + 1) * P ≤ q * (y * b + z) * P := Nat.mul_le_mul_right _ h
      rw [Nat.add_mul _ 1] at h2
      rw [hV, Nat.mul_add, ← Nat.mul_assoc] at h1
      omega
    · exact h
  · have h2 : gs b t u v y z ≤ ((t * b + u) * b + v) / (y * b + z) := Nat.min_le_right _ _
    have h3 : gs b t u v y z ≤ b - 1 := Nat.min_le_left _ _
    generalize gs b t u v y z = g at *
    rw [Nat.le_div_iff_mul_le (by omega)] at h2
    rcases Nat.eq_zero_or_pos g with h0 | h0
    · rw [h0]; exact Nat.zero_le _
    · have h4 : g - 1 ≤ W / V := by
        rw [Nat.le_div_iff_mul_le hVp]
        have h5 : g * (y * b + z) * P ≤ ((t * b + u) * b + v) * P := Nat.mul_le_mul_right _ h2
        have h6 : g * s ≤ b * P := Nat.mul_le_mul (by omega) (by omega)
        have h7 : b * P ≤ V := by
          rw [hV, Nat.add_mul]
          have : 1 * b * P ≤ y * b * P := Nat.mul_le_mul_right _ (Nat.mul_le_mul_right _ hy)
          rw [Nat.one_mul] at this
          omega
        have h8 : g * V = g * (y * b + z) * P + g * s := by rw [hV, Nat.mul_add, ← Nat.mul_assoc]
        have h9 : (g - 1) * V + V = g * V := by
          obtain ⟨a, rfl⟩ : ∃ a, g = a + 1 := ⟨g - 1, by omega⟩
          rw [Nat.add_sub_cancel, Nat.add_mul, Nat.one_mul]
        omega
      generalize W / V = q at *
      omega
end Z
end Go.Proofs.Ythafdckomhdlbaa
