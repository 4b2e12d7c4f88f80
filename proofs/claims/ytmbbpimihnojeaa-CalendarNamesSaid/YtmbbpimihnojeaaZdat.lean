/- Plain: days, months and years. -/
import Derived.WalkKit
namespace Go.Proofs.Ytmbbpimihnojeaa
namespace Z
def leap (y : Int) : Bool := (y % 4 == 0) && ((y % 100 != 0) || (y % 400 == 0))
def len (y m : Int) : Int := if m = 2 then (if leap y = true then 29 else 28) else if m = 4 ∨ m = 6 ∨ m = 9 ∨ m = 11 then 30 else 31
def lp (y : Int) : Int := y / 4 - y / 100 + y / 400
def fst (y : Int) : Int := 365 * (y - 1900) + lp (y - 1) - 460
/-- The days of the months before a month. -/
def cumB (m : Int) : Int :=
  if m ≤ 1 then 0 else if m = 2 then 31 else if m = 3 then 59 else if m = 4 then 90 else if m = 5 then 120 else if m = 6 then 151 else if m = 7 then 181 else if m = 8 then 212
   else if m = 9 then 243 else if m = 10 then 273 else if m = 11 then 304 else if m = 12 then 334 else 365
def cum (y m : Int) : Int := cumB m + (if 2 < m ∧ leap y = true then 1 else 0)
/-- A day's date. -/
structure Dt (day y m d : Int) : Prop where
  y0 : 1900 ≤ y
  y1 : y ≤ 2173
  m0 : 1 ≤ m
  m1 : m ≤ 12
  d0 : 1 ≤ d
  d1 : d ≤ len y m
  is : day = fst y + cum y m + d - 1

theorem leap_iff (y : Int) : leap y = true ↔ y % 4 = 0 ∧ (y % 100 ≠ 0 ∨ y % 400 = 0) := by
  unfold leap; simp
theorem fst_succ (y : Int) : fst (y + 1) = fst y + (if leap y = true then 366 else 365) := by
  unfold fst lp
  split
  · rename_i h
    rw [leap_iff] at h
    omega
  · rename_i h
    rw [leap_iff] at h
    omega
theorem months {m : Int} (h0 : 1 ≤ m) (h1 : m ≤ 12) : m = 1 ∨ m = 2 ∨ m = 3 ∨ m = 4 ∨ m = 5 ∨ m = 6 ∨ m = 7 ∨ m = 8 ∨ m = 9 ∨ m = 10 ∨ m = 11 ∨ m = 12 := by omega
theorem cum_one (y : Int) : cum y 1 = 0 := by simp [cum, cumB]
theorem cum_succ {y m : Int} (h0 : 1 ≤ m) (h1 : m ≤ 12) : cum y (m + 1) = cum y m + len y m := by
  rcases months h0 h1 with rfl | rfl | rfl | rfl | rfl | rfl | rfl | rfl | rfl | rfl | rfl | rfl <;> simp only [cum, cumB, len] <;> cases leap y <;> simp
theorem cum_last (y : Int) : fst y + cum y 13 = fst (y + 1) := by
  rw [fst_succ]; simp only [cum, cumB]; cases leap y <;> simp <;> omega
theorem len_ge (y m : Int) : 28 ≤ len y m ∧ len y m ≤ 31 := by
  unfold len
  (repeat' split) <;> omega
theorem cumB_ge (m : Int) : 0 ≤ cumB m ∧ cumB m ≤ 365 := by
  unfold cumB
  (repeat' split) <;> decide
theorem cum_ge (y m : Int) : 0 ≤ cum y m ∧ cum y m ≤ 366 := by
  have := cumB_ge m
  unfold cum
  split <;> omega
theorem cum_add {y m : Int} (h0 : 1 ≤ m) : ∀ k : Nat, m + k ≤ 12 → cum y m + len y m ≤ cum y (m + k + 1)
  | 0, h => by
    have := cum_succ (y := y) h0 (by omega : m ≤ 12)
    have e : m + ((0 : Nat) : Int) + 1 = m + 1 := by omega
    rw [e]; omega
  | k + 1, h => by
    have h1 := cum_add (y := y) h0 k (by omega)
    have h2 := cum_succ (y := y) (m := m + k + 1) (by omega) (by omega)
    have h3 := len_ge y (m + k + 1)
    have e : m + ((k + 1 : Nat) : Int) + 1 = m + k + 1 + 1 := by omega
    rw [e]; omega
theorem cum_mono {y m n : Int} (h0 : 1 ≤ m) (h : m < n) (h1 : n ≤ 12) : cum y m + len y m ≤ cum y n := by
  have := cum_add (y := y) h0 (n - m - 1).toNat (by omega)
  have e : m + ((n - m - 1).toNat : Int) + 1 = n := by omega
  rwa [e] at this
theorem fst_mono {y z : Int} (h : y < z) : fst (y + 1) ≤ fst z := by
  unfold fst lp; omega
theorem fst_bounds (y : Int) (h : 1900 ≤ y) : 365 * (y - 1900) ≤ fst y ∧ fst y ≤ 366 * (y - 1900) := by
  unfold fst lp; omega
theorem Dt.range {day y m d : Int} (h : Dt day y m d) : fst y ≤ day ∧ day < fst (y + 1) := by
  obtain ⟨y0, y1, m0, m1, d0, d1, is⟩ := h
  have h1 := cum_ge y m
  have h2 : cum y m + len y m ≤ cum y 13 := by
    rcases Int.lt_or_le m 12 with h | h
    · have := cum_mono (y := y) m0 h (Int.le_refl _)
      have e := cum_succ (y := y) (m := 12) (by omega) (by omega)
      have := len_ge y 12
      simp at e
      omega
    · obtain rfl : m = 12 := by omega
      have e := cum_succ (y := y) (m := 12) (by omega) (by omega)
      simp at e
      omega
  have := cum_last y
  omega
theorem Dt.lt {a b y m d p q r : Int} (h : Dt a y m d) (k : Dt b p q r) (hab : a ≤ b) : y < p ∨ y = p ∧ (m < q ∨ m = q ∧ d ≤ r) := by
  rcases Int.lt_or_le y p with h1 | h1
  · exact .inl h1
  · rcases Int.lt_or_le p y with h2 | h2
    · have := h.range; have := k.range; have := fst_mono h2; omega
    · obtain rfl : y = p := by omega
      refine .inr ⟨rfl, ?_⟩
      rcases Int.lt_or_le m q with h3 | h3
      · exact .inl h3
      · rcases Int.lt_or_le q m with h4 | h4
        · have := cum_mono (y := y) k.m0 h4 h.m1
          have := h.is; have := k.is; have := k.d1; have := h.d0
          omega
        · obtain rfl : m = q := by omega
          have := h.is; have := k.is
          exact .inr ⟨rfl, by omega⟩
theorem Dt.eq {a y m d p q r : Int} (h : Dt a y m d) (k : Dt a p q r) : y = p ∧ m = q ∧ d = r := by
  have h1 := h.lt k (Int.le_refl _)
  have h2 := k.lt h (Int.le_refl _)
  omega
/-- The date of a day. -/
noncomputable def pts (day : Int) : Int × Int × Int := Classical.epsilon fun p => Dt day p.1 p.2.1 p.2.2
theorem Dt.pts {day y m d : Int} (h : Dt day y m d) : pts day = (y, m, d) := by
  have := Classical.epsilon_spec (p := fun p : Int × Int × Int => Dt day p.1 p.2.1 p.2.2) ⟨(y, m, d), h⟩
  have e := Dt.eq this h
  show Classical.epsilon _ = _
  exact Prod.ext e.1 (Prod.ext e.2.1 e.2.2)
/-- The days with months of 30 days. -/
def th (bond : Bool) (y m d p q r : Int) : Int := 360 * (p - y) + 30 * (q - m) + (if bond = false ∨ min d 30 = 30 then min r 30 else r) - min d 30
noncomputable def thirty (bond : Bool) (a b : Int) : Int := th bond (pts a).1 (pts a).2.1 (pts a).2.2 (pts b).1 (pts b).2.1 (pts b).2.2
def inR (a : Int) : Bool := decide (0 ≤ a) && decide (a ≤ 99999)
/-- The days by a rule, from a day to a later one. -/
noncomputable def ruled (rule a b : Int) : Int := if rule = 2 then thirty false a b else if rule = 4 then thirty true a b else b - a
noncomputable def days (rule a b : Int) : Int × Int :=
  if rule ≤ 4 ∧ inR a = true ∧ inR b = true then (if b < a then - ruled rule b a else ruled rule a b, 0) else (0, 2)
theorem th_bounds {bond : Bool} {a b y m d p q r : Int} (h : Dt a y m d) (k : Dt b p q r) : -200000 ≤ th bond y m d p q r ∧ th bond y m d p q r ≤ 200000 := by
  have := h.y0; have := h.y1; have := h.m0; have := h.m1; have := h.d0; have := h.d1
  have := k.y0; have := k.y1; have := k.m0; have := k.m1; have := k.d0; have := k.d1
  have := len_ge y m; have := len_ge p q
  unfold th
  split <;> omega
/-- Each day in range has a date. -/
theorem year_of {day : Int} (h0 : 0 ≤ day) (h1 : day ≤ 99999) : ∀ n : Nat, n ≤ 274 → day < fst (1900 + n) → ∃ y, 1900 ≤ y ∧ y ≤ 2173 ∧ fst y ≤ day ∧ day < fst (y + 1)
  | 0, _, h => by
    have : fst (1900 + ((0 : Nat) : Int)) = 0 := by decide
    omega
  | n + 1, hn, h => by
    rcases Int.lt_or_le day (fst (1900 + n)) with h2 | h2
    · exact year_of h0 h1 n (by omega) h2
    · exact ⟨1900 + n, by omega, by omega, h2, by rw [Int.add_assoc]; exact h⟩
theorem month_of {y t : Int} (h0 : 0 ≤ t) : ∀ n : Nat, n ≤ 12 → t < cum y (1 + n) → ∃ m, 1 ≤ m ∧ m ≤ 12 ∧ cum y m ≤ t ∧ t < cum y m + len y m
  | 0, _, h => by
    have : cum y (1 + ((0 : Nat) : Int)) = 0 := cum_one y
    omega
  | n + 1, hn, h => by
    rcases Int.lt_or_le t (cum y (1 + n)) with h2 | h2
    · exact month_of h0 n (by omega) h2
    · refine ⟨1 + n, by omega, by omega, h2, ?_⟩
      rw [← cum_succ (by omega) (by omega), Int.add_assoc]
      exact h
theorem dt_of {day : Int} (h0 : 0 ≤ day) (h1 : day ≤ 99999) : ∃ y m d, Dt day y m d := by
  obtain ⟨y, a, b, c, e⟩ := year_of h0 h1 274 (by omega) (by
    have : 99999 < fst (1900 + ((274 : Nat) : Int)) := by decide
    omega)
  obtain ⟨m, f, g, i, j⟩ := month_of (y := y) (t := day - fst y) (by omega) 12 (by omega) (by
    have := cum_last y
    show day - fst y < cum y 13
    omega)
  exact ⟨y, m, day - fst y - cum y m + 1, a, b, f, g, by omega, by omega, by omega⟩
end Z
end Go.Proofs.Ytmbbpimihnojeaa
