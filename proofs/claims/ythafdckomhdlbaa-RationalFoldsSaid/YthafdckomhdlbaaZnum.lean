/- Plain lists and integers: decimal texts, and digits to a base. No program in sight. -/
namespace Go.Proofs.Ythafdckomhdlbaa
namespace Z

/-- Digits to the base b, the least one first, none for 0. -/
def dgF (b : Nat) : Nat → Nat → List Nat
  | 0, _ => []
  | f + 1, n => if n = 0 then [] else (n % b) :: dgF b f (n / b)
def dg (b n : Nat) : List Nat := dgF b n n
/-- The number of digits, the least one first. -/
def ofDg (b : Nat) : List Nat → Nat
  | [] => 0
  | d :: r => d + b * ofDg b r
/-- Digits without zeros at the end. -/
def Can (b : Nat) (l : List Nat) : Prop := (∀ d ∈ l, d < b) ∧ l.getLast? ≠ some 0

theorem dgF_more (b : Nat) (hb : 2 ≤ b) : ∀ (f g n : Nat), n ≤ f → n ≤ g → dgF b f n = dgF b g n := by
  intro f
  induction f with
  | zero =>
    intro g n hf _
    obtain rfl : n = 0 := by omega
    cases g with
    | zero => rfl
    | succ g => simp [dgF]
  | succ f ih =>
    intro g n hf hg
    by_cases h0 : n = 0
    · subst h0
      cases g with
      | zero => simp [dgF]
      | succ g => simp [dgF]
    · cases g with
      | zero => omega
      | succ g =>
        have hlt : n / b < n := Nat.div_lt_self (by omega) (by omega)
        simp only [dgF, if_neg h0]
        rw [ih g (n / b) (by omega) (by omega)]
theorem dg_zero (b : Nat) : dg b 0 = [] := rfl
theorem dg_pos (b n : Nat) (hb : 2 ≤ b) (hn : 0 < n) : dg b n = (n % b) :: dg b (n / b) := by
  unfold dg
  obtain ⟨m, rfl⟩ : ∃ m, n = m + 1 := ⟨n - 1, by omega⟩
  have hlt : (m + 1) / b < m + 1 := Nat.div_lt_self (by omega) (by omega)
  rw [show dgF b (m + 1) (m + 1) = ((m + 1) % b) :: dgF b m ((m + 1) / b) from by simp [dgF]]
  rw [dgF_more b hb m ((m + 1) / b) ((m + 1) / b) (by omega) (by omega)]
theorem dg_ind (b : Nat) (hb : 2 ≤ b) (p : Nat → Prop) (h0 : p 0) (h1 : ∀ n, 0 < n → p (n / b) → p n) (n : Nat) : p n := by
  induction n using Nat.strongRecOn with
  | _ n ih =>
    by_cases h : n = 0
    · subst h; exact h0
    · exact h1 n (by omega) (ih (n / b) (Nat.div_lt_self (by omega) (by omega)))
theorem ofDg_dg (b : Nat) (hb : 2 ≤ b) (n : Nat) : ofDg b (dg b n) = n := by
  refine dg_ind b hb (fun n => ofDg b (dg b n) = n) rfl (fun n hn ih => ?_) n
  show ofDg b (dg b n) = n
  rw [dg_pos b n hb hn]
  show n % b + b * ofDg b (dg b (n / b)) = n
  rw [ih]
  have := Nat.div_add_mod n b
  omega
theorem dg_lt (b : Nat) (hb : 2 ≤ b) (n : Nat) : ∀ d ∈ dg b n, d < b := by
  refine dg_ind b hb (fun n => ∀ d ∈ dg b n, d < b) (by simp [dg_zero]) (fun n hn ih => ?_) n
  intro d hd
  rw [dg_pos b n hb hn] at hd
  rcases List.mem_cons.1 hd with rfl | h
  · exact Nat.mod_lt _ (by omega)
  · exact ih d h
theorem dg_eq_nil (b : Nat) (hb : 2 ≤ b) (n : Nat) : dg b n = [] ↔ n = 0 := by
  constructor
  · intro h
    by_cases h0 : n = 0
    · exact h0
    · rw [dg_pos b n hb (by omega)] at h; cases h
  · rintro rfl; rfl
theorem dg_last (b : Nat) (hb : 2 ≤ b) (n : Nat) : (dg b n).getLast? ≠ some 0 := by
  refine dg_ind b hb (fun n => (dg b n).getLast? ≠ some 0) (by simp [dg_zero]) (fun n hn ih => ?_) n
  show (dg b n).getLast? ≠ some 0
  rw [dg_pos b n hb hn]
  by_cases h : n / b = 0
  · rw [h, dg_zero]
    have hlt : n < b := by
      rcases Nat.div_eq_zero_iff.1 h with h | h <;> omega
    simp [Nat.mod_eq_of_lt hlt]
    omega
  · have hne : dg b (n / b) ≠ [] := fun e => h ((dg_eq_nil b hb _).1 e)
    rw [List.getLast?_cons_of_ne_nil hne]
    exact ih
theorem can_dg (b : Nat) (hb : 2 ≤ b) (n : Nat) : Can b (dg b n) := ⟨dg_lt b hb n, dg_last b hb n⟩
theorem dg_ofDg (b : Nat) (hb : 2 ≤ b) (l : List Nat) (h : Can b l) : dg b (ofDg b l) = l := by
  induction l with
  | nil => rfl
  | cons d r ih =>
    obtain ⟨hd, hl⟩ := h
    have hdb : d < b := hd d (by simp)
    by_cases hr : r = []
    · subst hr
      have hd0 : d ≠ 0 := by simpa using hl
      show dg b (d + b * 0) = [d]
      rw [Nat.mul_zero, Nat.add_zero, dg_pos b d hb (by omega), Nat.mod_eq_of_lt hdb, Nat.div_eq_of_lt hdb, dg_zero]
    · have hcan : Can b r := ⟨fun x hx => hd x (by simp [hx]), by rwa [List.getLast?_cons_of_ne_nil hr] at hl⟩
      have hih := ih hcan
      have hpos : 0 < ofDg b r := by
        rcases Nat.eq_zero_or_pos (ofDg b r) with h0 | h0
        · rw [h0, dg_zero] at hih; exact absurd hih.symm hr
        · exact h0
      have hp : 0 < b * ofDg b r := Nat.mul_pos (by omega) hpos
      show dg b (d + b * ofDg b r) = d :: r
      rw [dg_pos b _ hb (by omega), Nat.add_mul_mod_self_left, Nat.mod_eq_of_lt hdb, Nat.add_mul_div_left _ _ (by omega), Nat.div_eq_of_lt hdb, Nat.zero_add, hih]

end Z
end Go.Proofs.Ythafdckomhdlbaa
