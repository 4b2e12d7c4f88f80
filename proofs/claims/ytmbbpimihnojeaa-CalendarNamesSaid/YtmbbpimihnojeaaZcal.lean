/- Plain: business days of a calendar. -/
import Derived.Test.YtmbbpimihnojeaaZdat
namespace Go.Proofs.Ytmbbpimihnojeaa
namespace Z
variable {P : Int → Bool}

def dk (a s : Int) (k : Nat) : Int := a + s * k
/-- The business days among the first k days from a day on, in steps. -/
def pre (P : Int → Bool) (a s : Int) (k : Nat) : List Int := ((List.range k).map (dk a s)).filter P
theorem pre_zero (a s : Int) : pre P a s 0 = [] := rfl
theorem pre_succ (a s : Int) (k : Nat) : pre P a s (k + 1) = pre P a s k ++ (if P (dk a s k) = true then [dk a s k] else []) := by
  simp only [pre, List.range_succ, List.map_append, List.filter_append, List.map_cons, List.map_nil, List.filter_cons, List.filter_nil]
theorem pre_yes {a s : Int} {k : Nat} (h : P (dk a s k) = true) : pre P a s (k + 1) = pre P a s k ++ [dk a s k] := by rw [pre_succ, if_pos h]
theorem pre_no {a s : Int} {k : Nat} (h : P (dk a s k) = false) : pre P a s (k + 1) = pre P a s k := by rw [pre_succ, if_neg (by simp [h]), List.append_nil]
theorem pre_prefix (a s : Int) {k m : Nat} (h : k ≤ m) : pre P a s k <+: pre P a s m := by
  induction m with
  | zero => obtain rfl : k = 0 := by omega
            exact List.prefix_refl _
  | succ m ih =>
    by_cases e : k = m + 1
    · subst e; exact List.prefix_refl _
    · rw [pre_succ]
      exact (ih (by omega)).trans (List.prefix_append _ _)
theorem pre_le (a s : Int) {k m : Nat} (h : k ≤ m) : (pre P a s k).length ≤ (pre P a s m).length := (pre_prefix a s h).length_le
theorem pre_snoc {a s d : Int} {p : List Int} : ∀ {m : Nat}, p ++ [d] <+: pre P a s m → ∃ k, k < m ∧ dk a s k = d ∧ p = pre P a s k ∧ P d = true
  | 0, h => by
    have := h.length_le
    simp [pre] at this
  | m + 1, h => by
    cases hP : P (dk a s m)
    · rw [pre_no hP] at h
      obtain ⟨k, h1, h2⟩ := pre_snoc h
      exact ⟨k, by omega, h2⟩
    · rw [pre_yes hP, List.prefix_concat_iff] at h
      rcases h with h | h
      · have h2 := List.append_inj_right' h rfl
        have h1 := List.append_inj_left' h rfl
        injection h2 with h2
        exact ⟨m, by omega, h2.symm, h1, by rw [h2]; exact hP⟩
      · obtain ⟨k, h1, h2⟩ := pre_snoc h
        exact ⟨k, by omega, h2⟩
theorem pre_find {a s : Int} {n : Nat} : ∀ {m : Nat}, n < (pre P a s m).length → ∃ k, k < m ∧ P (dk a s k) = true ∧ (pre P a s k).length = n
  | 0, h => by simp [pre] at h
  | m + 1, h => by
    by_cases hn : n < (pre P a s m).length
    · obtain ⟨k, h1, h2⟩ := pre_find hn
      exact ⟨k, by omega, h2⟩
    · cases hP : P (dk a s m)
      · rw [pre_no hP] at h; omega
      · rw [pre_yes hP] at h
        simp at h
        exact ⟨m, by omega, hP, by omega⟩
theorem pre_mem {a s : Int} {k m : Nat} (h : k < m) (hP : P (dk a s k) = true) : dk a s k ∈ pre P a s m := by
  unfold pre
  rw [List.mem_filter, List.mem_map]
  exact ⟨⟨k, by simpa using h, rfl⟩, hP⟩

/-- How many days there are in a direction. -/
def room (a s : Int) : Nat := if s = 1 then (100000 - a).toNat else (a + 1).toNat
def bday (P : Int → Bool) (a s : Int) : List Int := pre P a s (room a s)
/-- The n-th business day. -/
def nth (P : Int → Bool) (a s n : Int) : Int × Int :=
  match (bday P a s)[(n - 1).toNat]? with
  | some d => (d, 0)
  | none => (0, 40)
theorem nth_at {a s n : Int} {k : Nat} (hk : k < room a s) (hP : P (dk a s k) = true) (hn : 1 ≤ n) (hl : ((pre P a s k).length : Int) = n - 1) : nth P a s n = (dk a s k, 0) := by
  have h1 := pre_prefix (P := P) a s (k := k + 1) (m := room a s) (by omega)
  rw [pre_yes hP] at h1
  obtain ⟨r, hr⟩ := h1
  have h2 : (bday P a s)[(n - 1).toNat]? = some (dk a s k) := by
    unfold bday
    rw [← hr, List.append_assoc, List.getElem?_append_right (by omega)]
    have : (n - 1).toNat - (pre P a s k).length = 0 := by omega
    rw [this]; simp
  unfold nth
  rw [h2]
theorem nth_stop {a s n d : Int} {p : List Int} (h : p ++ [d] <+: bday P a s) (hn : 1 ≤ n) (hl : (p.length : Int) = n - 1) : nth P a s n = (d, 0) := by
  obtain ⟨k, hk, rfl, rfl, hP⟩ := pre_snoc h
  exact nth_at hk hP hn hl
theorem nth_out {a s n : Int} (hn : 1 ≤ n) (hl : ((bday P a s).length : Int) < n) : nth P a s n = (0, 40) := by
  have h2 : (bday P a s)[(n - 1).toNat]? = none := List.getElem?_eq_none (by omega)
  unfold nth
  rw [h2]
theorem nth_cases (P : Int → Bool) (a s n : Int) (hn : 1 ≤ n) :
    (∃ k, k < room a s ∧ P (dk a s k) = true ∧ ((pre P a s k).length : Int) = n - 1 ∧ nth P a s n = (dk a s k, 0)) ∨ (((bday P a s).length : Int) < n ∧ nth P a s n = (0, 40)) := by
  by_cases h : ((bday P a s).length : Int) < n
  · exact .inr ⟨h, nth_out hn h⟩
  · obtain ⟨k, h1, h2, h3⟩ := pre_find (P := P) (a := a) (s := s) (n := (n - 1).toNat) (m := room a s) (by unfold bday at h; omega)
    exact .inl ⟨k, h1, h2, by omega, nth_at h1 h2 hn (by omega)⟩

/-- How many business days lie before a day. -/
def F (P : Int → Bool) (x : Int) : Int := (pre P 0 1 x.toNat).length
theorem F_zero : F P 0 = 0 := rfl
theorem F_succ {x : Int} (h : 0 ≤ x) : F P (x + 1) = F P x + (if P x = true then 1 else 0) := by
  unfold F
  have e : (x + 1).toNat = x.toNat + 1 := by omega
  have e2 : dk 0 1 x.toNat = x := by unfold dk; omega
  rw [e, pre_succ, e2, List.length_append]
  split <;> simp
theorem F_le (x : Int) (k : Nat) (h : 0 ≤ x) : F P x ≤ F P (x + k) ∧ F P (x + k) ≤ F P x + k := by
  induction k with
  | zero => simp
  | succ k ih =>
    have := F_succ (P := P) (x := x + k) (by omega)
    have e : x + ((k + 1 : Nat) : Int) = x + k + 1 := by omega
    rw [e, this]
    split <;> omega
theorem F_mono {x y : Int} (h : 0 ≤ x) (hy : x ≤ y) : F P x ≤ F P y := by
  have := (F_le (P := P) x (y - x).toNat h).1
  have e : x + ((y - x).toNat : Int) = y := by omega
  rwa [e] at this
theorem F_lt {x y : Int} (h : 0 ≤ x) (hy : x < y) (hP : P x = true) : F P x + 1 ≤ F P y := by
  have h1 := F_succ (P := P) h
  rw [if_pos hP] at h1
  have h2 := F_mono (P := P) (x := x + 1) (y := y) (by omega) (by omega)
  omega
theorem F_flat {x y : Int} (h : 0 ≤ x) (hy : x ≤ y) (hP : ∀ z, x ≤ z → z < y → P z = false) : F P x = F P y := by
  have : ∀ k : Nat, x + k ≤ y → F P (x + k) = F P x := by
    intro k
    induction k with
    | zero => simp
    | succ k ih =>
      intro hk
      have h1 := F_succ (P := P) (x := x + k) (by omega)
      have e : x + ((k + 1 : Nat) : Int) = x + k + 1 := by omega
      rw [e, h1, hP _ (by omega) (by omega), ih (by omega)]; simp
  have := this (y - x).toNat (by omega)
  have e : x + ((y - x).toNat : Int) = y := by omega
  rw [e] at this
  exact this.symm
theorem F_inj {x y : Int} (hx : 0 ≤ x) (hy : 0 ≤ y) (hP : P x = true) (hQ : P y = true) (h : F P x = F P y) : x = y := by
  rcases Int.lt_trichotomy x y with h1 | h1 | h1
  · have := F_lt hx h1 hP; omega
  · exact h1
  · have := F_lt hy h1 hQ; omega
theorem pre_up (a : Int) (h : 0 ≤ a) (k : Nat) : ((pre P a 1 k).length : Int) = F P (a + k) - F P a := by
  induction k with
  | zero => simp [pre]
  | succ k ih =>
    have e2 : dk a 1 k = a + k := by unfold dk; omega
    have e : a + ((k + 1 : Nat) : Int) = a + k + 1 := by omega
    rw [pre_succ, e2, List.length_append, e, F_succ (by omega)]
    split <;> simp <;> omega
theorem pre_down (a : Int) (k : Nat) (h : (k : Int) ≤ a + 1) : ((pre P a (-1) k).length : Int) = F P (a + 1) - F P (a + 1 - k) := by
  induction k with
  | zero => simp [pre]
  | succ k ih =>
    have e2 : dk a (-1) k = a - k := by unfold dk; omega
    have e3 : a + 1 - (k : Int) = a - k + 1 := by omega
    have ih := ih (by omega)
    have hs := F_succ (P := P) (x := a - k) (by omega)
    have e : a + 1 - ((k + 1 : Nat) : Int) = a - k := by omega
    rw [e3, hs] at ih
    rw [pre_succ, e2, List.length_append, e]
    split
    · rename_i hp; rw [if_pos hp] at ih; simp; omega
    · rename_i hp; rw [if_neg hp] at ih; simp; omega
/-- What the n-th business day is, forward. -/
theorem nth_up (a n : Int) (ha : 0 ≤ a) (hn : 1 ≤ n) :
    (∃ d, nth P a 1 n = (d, 0) ∧ a ≤ d ∧ d ≤ 99999 ∧ P d = true ∧ F P d - F P a = n - 1) ∨ nth P a 1 n = (0, 40) ∧ (a ≤ 100000 → F P 100000 - F P a < n) := by
  rcases nth_cases P a 1 n hn with ⟨k, h1, h2, h3, h4⟩ | ⟨h1, h2⟩
  · unfold room at h1
    rw [pre_up a ha] at h3
    have e : dk a 1 k = a + k := by unfold dk; omega
    rw [e] at h2 h4
    simp at h1
    exact .inl ⟨_, h4, by omega, by omega, h2, h3⟩
  · refine .inr ⟨h2, fun h => ?_⟩
    unfold bday room at h1
    simp only [if_true] at h1
    rw [pre_up a ha] at h1
    have e : a + ((100000 - a).toNat : Int) = 100000 := by omega
    rwa [e] at h1
/-- .. and backward. -/
theorem nth_down (a n : Int) (ha : -1 ≤ a) (ha2 : a ≤ 99999) (hn : 1 ≤ n) :
    (∃ d, nth P a (-1) n = (d, 0) ∧ 0 ≤ d ∧ d ≤ a ∧ P d = true ∧ F P (a + 1) - F P (d + 1) = n - 1) ∨ nth P a (-1) n = (0, 40) ∧ F P (a + 1) < n := by
  rcases nth_cases P a (-1) n hn with ⟨k, h1, h2, h3, h4⟩ | ⟨h1, h2⟩
  · unfold room at h1
    simp at h1
    rw [pre_down a k (by omega)] at h3
    have e : dk a (-1) k = a - k := by unfold dk; omega
    rw [e] at h2 h4
    have e2 : a - (k : Int) + 1 = a + 1 - k := by omega
    exact .inl ⟨_, h4, by omega, by omega, h2, by rw [e2]; exact h3⟩
  · refine .inr ⟨h2, ?_⟩
    unfold bday room at h1
    simp only [show ¬ ((-1 : Int) = 1) by omega, if_false] at h1
    rw [pre_down a _ (by omega)] at h1
    have e : a + 1 - ((a + 1).toNat : Int) = 0 := by omega
    rw [e, F_zero] at h1
    omega
/-- A run over the business days from a day on that has come to an end before b. -/
theorem count_done {a b : Int} (ha : 0 ≤ a) (hb : a ≤ b) (hb2 : b ≤ 100000) (h : ∀ x, x ∈ bday P a 1 → x < b) : ((bday P a 1).length : Int) = F P b - F P a := by
  unfold bday room
  simp only [if_true]
  rw [pre_up a ha]
  have e : a + ((100000 - a).toNat : Int) = 100000 := by omega
  rw [e]
  have := F_flat (P := P) (x := b) (y := 100000) (by omega) hb2 (fun z h1 h2 => by
    cases hP : P z
    · rfl
    · exfalso
      have e2 : dk a 1 (z - a).toNat = z := by unfold dk; omega
      have := pre_mem (P := P) (a := a) (s := 1) (k := (z - a).toNat) (m := room a 1) (by unfold room; simp; omega) (by rw [e2]; exact hP)
      rw [e2] at this
      have := h z this
      omega)
  omega
theorem count_stop {a b d : Int} {p : List Int} (ha : 0 ≤ a) (hb : a ≤ b) (h : p ++ [d] <+: bday P a 1) (hp : ∀ x, x ∈ p → x < b) (hd : b ≤ d) : (p.length : Int) = F P b - F P a := by
  obtain ⟨k, hk, hd2, rfl, hP⟩ := pre_snoc h
  rw [pre_up a ha]
  have e : a + (k : Int) = d := by unfold dk at hd2; omega
  rw [e]
  have := F_flat (P := P) (x := b) (y := d) (by omega) hd (fun z h1 h2 => by
    cases hP2 : P z
    · rfl
    · exfalso
      have e2 : dk a 1 (z - a).toNat = z := by unfold dk; omega
      have := pre_mem (P := P) (a := a) (s := 1) (k := (z - a).toNat) (m := k) (by omega) (by rw [e2]; exact hP2)
      rw [e2] at this
      have := hp z this
      omega)
  omega
theorem nth_range {a s n d : Int} (hs : s = 1 ∨ s = -1) (ha : -1 ≤ a) (ha2 : a ≤ 100000) (ha0 : s = 1 → 0 ≤ a) (ha1 : s = -1 → a ≤ 99999) (hn : 1 ≤ n) (h : nth P a s n = (d, 0)) : 0 ≤ d ∧ d ≤ 99999 := by
  rcases hs with rfl | rfl
  · rcases nth_up (P := P) a n (ha0 rfl) hn with ⟨x, h1, h2, h3, _⟩ | ⟨h1, _⟩
    · rw [h1] at h; injection h with h _; subst h; have := ha0 rfl; omega
    · rw [h1] at h; injection h with _ h; omega
  · rcases nth_down (P := P) a n ha (ha1 rfl) hn with ⟨x, h1, h2, h3, _⟩ | ⟨h1, _⟩
    · rw [h1] at h; injection h with h _; subst h; have := ha1 rfl; omega
    · rw [h1] at h; injection h with _ h; omega
theorem nth_snd (P : Int → Bool) (a s n : Int) : ((nth P a s n).2 = 0 ∨ (nth P a s n).2 = 40) ∧ ((nth P a s n).2 = 40 → (nth P a s n).1 = 0) := by
  unfold nth
  split <;> simp

/-- Whether the numbers ascend and are days; before them stands a number or none. -/
def asc : Option Int → List Int → Bool
  | _, [] => true
  | p, h :: t => inR h && (match p with | none => true | some q => decide (q < h)) && asc (some h) t
def calB (wk : Int) (hs : List Int) : Bool := decide (wk ≤ 126) && decide ((hs.length : Int) ≤ 1000) && asc none hs
theorem asc_facts : ∀ (l : List Int) (p : Option Int), asc p l = true → (∀ x, x ∈ l → inR x = true ∧ ∀ q, p = some q → q < x) ∧ l.Pairwise (· < ·)
  | [], _, _ => ⟨fun x h => by simp at h, List.Pairwise.nil⟩
  | h :: t, p, hl => by
    simp only [asc, Bool.and_eq_true] at hl
    obtain ⟨⟨h1, h2⟩, h3⟩ := hl
    have ih := asc_facts t (some h) h3
    have hp : ∀ q, p = some q → q < h := by
      rintro q rfl
      simpa using h2
    refine ⟨fun x hx => ?_, List.pairwise_cons.2 ⟨fun x hx => (ih.1 x hx).2 h rfl, ih.2⟩⟩
    rcases List.mem_cons.1 hx with rfl | hx
    · exact ⟨h1, hp⟩
    · exact ⟨(ih.1 x hx).1, fun q hq => Int.lt_trans (hp q hq) ((ih.1 x hx).2 h rfl)⟩
/-- Whether a day is a business day. -/
def opn (wk : Int) (hs : List Int) (d : Int) : Bool := !hs.contains d && (wk / 2 ^ (d % 7).toNat % 2 == 0)
noncomputable def sameM (a b : Int) : Bool := (pts a).1 == (pts b).1 && (pts a).2.1 == (pts b).2.1
noncomputable def rollS (P : Int → Bool) (day rule : Int) : Int × Int :=
  if rule = 0 then (day, 0) else
  if rule = 1 then nth P day 1 1 else
  if rule = 2 then nth P day (-1) 1 else
  if rule = 3 then (if (nth P day 1 1).2 = 0 ∧ sameM (nth P day 1 1).1 day = true then nth P day 1 1 else nth P day (-1) 1) else
  (if (nth P day (-1) 1).2 = 0 ∧ sameM (nth P day (-1) 1).1 day = true then nth P day (-1) 1 else nth P day 1 1)
noncomputable def roll (wk : Int) (hs : List Int) (day rule : Int) : Int × Int :=
  if calB wk hs = false then (0, 8) else if inR day = false ∨ 4 < rule then (0, 2) else rollS (opn wk hs) day rule
def addS (P : Int → Bool) (day n : Int) : Int × Int :=
  if 0 < n then nth P (day + 1) 1 n else if n < 0 then nth P (day - 1) (-1) (-n) else nth P day 1 1
def add (wk : Int) (hs : List Int) (day n : Int) : Int × Int :=
  if calB wk hs = false then (0, 8) else if inR day = false ∨ n < -99999 ∨ 99999 < n then (0, 2) else addS (opn wk hs) day n
def count (wk : Int) (hs : List Int) (a b : Int) : Int × Int :=
  if calB wk hs = false then (0, 8) else if inR a = false ∨ inR b = false then (0, 2) else (F (opn wk hs) b - F (opn wk hs) a, 0)
def business (wk : Int) (hs : List Int) (d : Int) : Bool × Int :=
  if calB wk hs = false then (false, 8) else if inR d = false then (false, 2) else (opn wk hs d, 0)
end Z
end Go.Proofs.Ytmbbpimihnojeaa
