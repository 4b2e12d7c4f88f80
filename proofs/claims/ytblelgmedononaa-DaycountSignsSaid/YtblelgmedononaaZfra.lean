/- Plain: fractions of years. -/
import Derived.Test.YtblelgmedononaaZdat
import Derived.Test.YtblelgmedononaaZrt
namespace Go.Proofs.Ytblelgmedononaa
namespace Z
def ylen (y : Int) : Int := if leap y = true then 366 else 365
/-- The time since 1900, in parts of a year: 365 * 366 of them. -/
def eof (y t : Int) : Int := 133590 * (y - 1900) + t * (if leap y = true then 365 else 366)
noncomputable def E (day : Int) : Int := eof (pts day).1 (day - fst (pts day).1)
/-- The days since 1900 with months of 30 days. -/
noncomputable def T (day : Int) : Int := 360 * (pts day).1 + 30 * (pts day).2.1 + min (pts day).2.2 30
noncomputable def frac (rule a b : Int) : Rat := if rule = 3 then Rat.divInt (E b - E a) 133590 else if rule = 0 then Rat.divInt (days rule a b).1 365 else Rat.divInt (days rule a b).1 360
noncomputable def yrS (rule a b : Int) : ByteArray := if (days rule a b).2 = 0 then Q (frac rule a b) else ⟨#[]⟩
theorem Dt.E {day y m d : Int} (h : Dt day y m d) : E day = eof y (day - fst y) := by unfold Z.E; rw [h.pts]
theorem Dt.T {day y m d : Int} (h : Dt day y m d) : T day = 360 * y + 30 * m + min d 30 := by unfold Z.T; rw [h.pts]
theorem Dt.passed {day y m d : Int} (h : Dt day y m d) : 0 ≤ day - fst y ∧ day - fst y < ylen y := by
  have h1 := h.range
  have h2 := fst_succ y
  unfold ylen
  omega
theorem eof_bounds {y t : Int} (h0 : 1900 ≤ y) (h1 : y ≤ 2173) (t0 : 0 ≤ t) (t1 : t < 366) : 0 ≤ eof y t ∧ eof y t ≤ 40000000 := by
  unfold eof; split <;> omega
/-- What the program answers for whole years. -/
theorem years_eq {y p s t : Int} : (ylen y = ylen p → Rat.divInt ((p - y) * ylen y + t - s) (ylen y) = Rat.divInt (eof p t - eof y s) 133590) ∧
    (ylen y ≠ ylen p → Rat.divInt ((p - y) * ylen y * ylen p + t * ylen y - s * ylen p) (ylen y * ylen p) = Rat.divInt (eof p t - eof y s) 133590) := by
  unfold ylen eof
  cases leap y <;> cases leap p <;> simp
  · rw [Rat.divInt_eq_divInt_iff (by omega) (by omega)]; omega
  · rw [Rat.divInt_eq_divInt_iff (by omega) (by omega)]; omega
  · rw [Rat.divInt_eq_divInt_iff (by omega) (by omega)]; omega
  · rw [Rat.divInt_eq_divInt_iff (by omega) (by omega)]; omega
/-- The days of a year before a day. -/
def cl (d y : Int) : Int := min (max d (fst y)) (fst (y + 1)) - fst y
def cC (d : Int) : Nat → Int
  | 0 => 0
  | n + 1 => cC d n + (if leap (1900 + n) = true then 0 else cl d (1900 + n))
def cL (d : Int) : Nat → Int
  | 0 => 0
  | n + 1 => cL d n + (if leap (1900 + n) = true then cl d (1900 + n) else 0)
theorem cl_over {low high b e : Int} (h : low ≤ high) (hb : b ≤ e) : max (min high e - max low b) 0 = (min (max high b) e - b) - (min (max low b) e - b) := by omega
theorem cl_bounds (d y : Int) : 0 ≤ cl d y ∧ cl d y ≤ 366 := by
  have := fst_succ y
  unfold cl
  split at this <;> omega
theorem cC_bounds (d : Int) (n : Nat) : 0 ≤ cC d n ∧ cC d n ≤ 366 * n := by
  induction n with
  | zero => exact ⟨Int.le_refl _, Int.le_refl _⟩
  | succ n ih =>
    have := cl_bounds d (1900 + n)
    unfold cC
    split <;> omega
theorem cL_bounds (d : Int) (n : Nat) : 0 ≤ cL d n ∧ cL d n ≤ 366 * n := by
  induction n with
  | zero => exact ⟨Int.le_refl _, Int.le_refl _⟩
  | succ n ih =>
    have := cl_bounds d (1900 + n)
    unfold cL
    split <;> omega
theorem cl_before {d y p : Int} (h : fst p ≤ d) (hy : y < p) : cl d y = ylen y := by
  have h1 := fst_mono hy
  have h2 := fst_succ y
  unfold cl ylen
  split at h2 <;> simp_all <;> omega
theorem cl_behind {d y p : Int} (h : d < fst (p + 1)) (hy : p < y) : cl d y = 0 := by
  have h1 := fst_mono hy
  have h2 := fst_succ y
  unfold cl
  split at h2 <;> omega
theorem cl_in {d p : Int} (h0 : fst p ≤ d) (h : d < fst (p + 1)) : cl d p = d - fst p := by
  unfold cl; omega
theorem sum_before {d p : Int} (h0 : fst p ≤ d) : ∀ n : Nat, 1900 + (n : Int) ≤ p → 366 * cC d n + 365 * cL d n = 133590 * n
  | 0, _ => rfl
  | n + 1, hn => by
    have ih := sum_before h0 n (by omega)
    have e := cl_before h0 (y := 1900 + n) (by omega)
    unfold cC cL
    unfold ylen at e
    split at e <;> simp_all <;> omega
theorem sum_behind {d p : Int} (h0 : fst p ≤ d) (h1 : d < fst (p + 1)) (hp : 1900 ≤ p) : ∀ n : Nat, p < 1900 + (n : Int) → 366 * cC d n + 365 * cL d n = eof p (d - fst p)
  | 0, hn => by omega
  | n + 1, hn => by
    rcases Int.lt_or_le p (1900 + n) with h | h
    · have ih := sum_behind h0 h1 hp n h
      have e := cl_behind h1 (y := 1900 + n) h
      unfold cC cL
      rw [e]
      split <;> omega
    · obtain rfl : p = 1900 + n := by omega
      have ih := sum_before h0 n (by omega)
      have e := cl_in h0 h1
      unfold cC cL eof
      rw [e]
      split <;> omega
theorem Dt.sum {day y m d : Int} (h : Dt day y m d) : 366 * cC day 274 + 365 * cL day 274 = Z.E day := by
  rw [h.E]
  exact sum_behind h.range.1 h.range.2 h.y0 274 (by have := h.y1; omega)
theorem frac3 {c l e : Int} (h : 366 * c + 365 * l = e) : Rat.divInt c 365 + Rat.divInt l 366 = Rat.divInt e 133590 := by
  rw [Rat.divInt_add_divInt _ _ (by omega) (by omega), Rat.divInt_eq_divInt_iff (by omega) (by omega)]
  omega
end Z
end Go.Proofs.Ytblelgmedononaa
