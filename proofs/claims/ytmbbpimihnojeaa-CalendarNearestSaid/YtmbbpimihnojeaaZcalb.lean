/- Plain: what rolled days, sums and counts are. -/
import Derived.Test.YtmbbpimihnojeaaCroll
namespace Go.Proofs.Ytmbbpimihnojeaa
namespace Z
variable {P : Int → Bool}
theorem nth_up1 {day r : Int} (h0 : 0 ≤ day) (_h1 : day ≤ 99999) (h : nth P day 1 1 = (r, 0)) : day ≤ r ∧ r ≤ 99999 ∧ P r = true ∧ F P r = F P day ∧ (P day = true → r = day) := by
  rcases nth_up (P := P) day 1 h0 (by omega) with ⟨d, e1, e2, e3, e4, e5⟩ | ⟨e1, _⟩
  · rw [e1] at h
    injection h with h _
    subst h
    refine ⟨e2, e3, e4, by omega, fun hp => ?_⟩
    rcases Int.lt_or_eq_of_le e2 with hlt | he
    · have := F_lt h0 hlt hp; omega
    · exact he.symm
  · rw [e1] at h; injection h with _ h; omega
theorem nth_up1_none {day : Int} (h0 : 0 ≤ day) (h1 : day ≤ 99999) (h : nth P day 1 1 = (0, 40)) : P day = false := by
  rcases nth_up (P := P) day 1 h0 (by omega) with ⟨d, e1, _⟩ | ⟨_, e2⟩
  · rw [e1] at h; injection h with _ h; omega
  · cases hp : P day
    · rfl
    · have h1 := e2 (by omega); have := F_lt (y := 100000) h0 (by omega) hp; omega
theorem nth_down1 {day r : Int} (h0 : 0 ≤ day) (h1 : day ≤ 99999) (h : nth P day (-1) 1 = (r, 0)) : 0 ≤ r ∧ r ≤ day ∧ P r = true ∧ (r < day → F P day = F P (r + 1)) ∧ (P day = true → r = day) := by
  rcases nth_down (P := P) day 1 (by omega) h1 (by omega) with ⟨d, e1, e2, e3, e4, e5⟩ | ⟨e1, _⟩
  · rw [e1] at h
    injection h with h _
    subst h
    refine ⟨e2, e3, e4, fun hlt => ?_, fun hp => ?_⟩
    · have := F_mono (P := P) (x := d + 1) (y := day) (by omega) (by omega)
      have := F_mono (P := P) (x := day) (y := day + 1) (by omega) (by omega)
      omega
    · rcases Int.lt_or_eq_of_le e3 with hlt | he
      · have := F_mono (P := P) (x := d + 1) (y := day) (by omega) (by omega)
        have := F_lt (y := day + 1) h0 (by omega) hp
        omega
      · exact he
  · rw [e1] at h; injection h with _ h; omega
theorem nth_down1_none {day : Int} (h0 : 0 ≤ day) (h1 : day ≤ 99999) (h : nth P day (-1) 1 = (0, 40)) : P day = false := by
  rcases nth_down (P := P) day 1 (by omega) h1 (by omega) with ⟨d, e1, _⟩ | ⟨_, e2⟩
  · rw [e1] at h; injection h with _ h; omega
  · cases hp : P day
    · rfl
    · have := F_lt (y := day + 1) h0 (by omega) hp
      have := F_mono (P := P) (x := 0) (y := day) (by omega) h0
      rw [F_zero] at this
      omega
theorem sameM_refl (a : Int) : sameM a a = true := by unfold sameM; simp
/-- What a rolled day is. -/
structure Near (P : Int → Bool) (day r : Int) : Prop where
  r0 : 0 ≤ r
  r1 : r ≤ 99999
  is : P r = true
  here : P day = true → r = day
  up : day ≤ r → F P r = F P day
  down : r < day → F P day = F P (r + 1)
theorem near_up {day r : Int} (h0 : 0 ≤ day) (h1 : day ≤ 99999) (h : nth P day 1 1 = (r, 0)) : Near P day r := by
  obtain ⟨a, b, c, d, e⟩ := nth_up1 h0 h1 h
  exact ⟨by omega, b, c, e, fun _ => d, fun h => by omega⟩
theorem near_down {day r : Int} (h0 : 0 ≤ day) (h1 : day ≤ 99999) (h : nth P day (-1) 1 = (r, 0)) (hh : P day = true → r = day) : Near P day r := by
  obtain ⟨a, b, c, d, e⟩ := nth_down1 h0 h1 h
  exact ⟨a, by omega, c, hh, fun h => by rw [show r = day by omega], d⟩
theorem near_up' {day r : Int} (h0 : 0 ≤ day) (h1 : day ≤ 99999) (h : nth P day 1 1 = (r, 0)) (hh : P day = true → r = day) : Near P day r := by
  obtain ⟨a, b, c, d, e⟩ := nth_up1 h0 h1 h
  exact ⟨by omega, b, c, hh, fun _ => d, fun h => by omega⟩

theorem count_in {wk : Int} {hs : List Int} {a b : Int} (hk : calB wk hs = true) (ha : inR a = true) (hb : inR b = true) : count wk hs a b = (F (opn wk hs) b - F (opn wk hs) a, 0) := by
  unfold count; rw [if_neg (by simp [hk]), if_neg (by simp [ha, hb])]
theorem count_err {wk : Int} {hs : List Int} {a b : Int} (h : ¬ (calB wk hs = true ∧ inR a = true ∧ inR b = true)) : (count wk hs a b).1 = 0 ∧ ((count wk hs a b).2 == 0) = false := by
  unfold count
  cases hk : calB wk hs
  · simp
  · cases ha : inR a
    · simp
    · cases hb : inR b
      · simp
      · exact absurd ⟨hk, ha, hb⟩ h
theorem F_bound {x : Int} (h : 0 ≤ x) (h2 : x ≤ 100000) : 0 ≤ F P x ∧ F P x ≤ 100000 := by
  have := F_le (P := P) 0 x.toNat (by omega)
  rw [F_zero] at this
  have e : (0 : Int) + (x.toNat : Int) = x := by omega
  rw [e] at this
  omega
theorem inR_bd {a : Int} (h : inR a = true) : 0 ≤ a ∧ a ≤ 99999 := by unfold inR at h; simpa using h
theorem sums_cases (wk : Int) (hs : List Int) (a b d : Int) : ∃ x1 e1 x2 e2 x3 e3 x4 e4 : Int, count wk hs a b = (x1, e1) ∧ count wk hs b d = (x2, e2) ∧ count wk hs a d = (x3, e3) ∧ count wk hs b a = (x4, e4) ∧
    ((x1 = 0 ∧ (e1 == 0) = false ∧ x2 = 0 ∧ (e2 == 0) = false) ∨ (e1 = 0 ∧ x2 = 0 ∧ (e2 == 0) = false) ∨ (x1 = 0 ∧ (e1 == 0) = false ∧ e2 = 0) ∨
      (∃ p q r : Int, 0 ≤ p ∧ p ≤ 100000 ∧ 0 ≤ q ∧ q ≤ 100000 ∧ 0 ≤ r ∧ r ≤ 100000 ∧ x1 = q - p ∧ e1 = 0 ∧ x2 = r - q ∧ e2 = 0 ∧ x3 = r - p ∧ e3 = 0 ∧ x4 = p - q ∧ e4 = 0)) := by
  refine ⟨(count wk hs a b).1, (count wk hs a b).2, (count wk hs b d).1, (count wk hs b d).2, (count wk hs a d).1, (count wk hs a d).2, (count wk hs b a).1, (count wk hs b a).2, rfl, rfl, rfl, rfl, ?_⟩
  by_cases h1 : calB wk hs = true ∧ inR a = true ∧ inR b = true
  · by_cases h2 : calB wk hs = true ∧ inR b = true ∧ inR d = true
    · obtain ⟨hk, ha, hb⟩ := h1
      have hd := h2.2.2
      have r1 := F_bound (P := opn wk hs) (inR_bd ha).1 (by have := inR_bd ha; omega)
      have r2 := F_bound (P := opn wk hs) (inR_bd hb).1 (by have := inR_bd hb; omega)
      have r3 := F_bound (P := opn wk hs) (inR_bd hd).1 (by have := inR_bd hd; omega)
      rw [count_in hk ha hb, count_in hk hb hd, count_in hk ha hd, count_in hk hb ha]
      exact .inr (.inr (.inr ⟨_, _, _, r1.1, r1.2, r2.1, r2.2, r3.1, r3.2, rfl, rfl, rfl, rfl, rfl, rfl, rfl, rfl⟩))
    · obtain ⟨e1, e2⟩ := count_err h2
      rw [count_in h1.1 h1.2.1 h1.2.2]
      exact .inr (.inl ⟨rfl, e1, e2⟩)
  · obtain ⟨e1, e2⟩ := count_err h1
    by_cases h2 : calB wk hs = true ∧ inR b = true ∧ inR d = true
    · refine .inr (.inr (.inl ⟨e1, e2, ?_⟩))
      rw [count_in h2.1 h2.2.1 h2.2.2]
    · obtain ⟨e3, e4⟩ := count_err h2
      exact .inl ⟨e1, e2, e3, e4⟩
/-- Which rolled days a rule leads to. -/
def Keep (wk : Int) (hs : List Int) (day r own opp : Int) : Prop :=
  (roll wk hs day own = (r, 0) ∧ sameM r day = true) ∨ (∃ x, roll wk hs day own = (x, 0) ∧ 0 ≤ x ∧ x ≤ 99999 ∧ sameM x day = false ∧ roll wk hs day opp = (r, 0)) ∨ (roll wk hs day own = (0, 40) ∧ roll wk hs day opp = (r, 0))
theorem roll_cases (wk : Int) (hs : List Int) (day rule : Int) (hr : 0 ≤ rule) :
    (∃ e, roll wk hs day rule = (0, e) ∧ (e == 0) = false) ∨ (rule = 0 ∧ roll wk hs day rule = (day, 0)) ∨
    (calB wk hs = true ∧ inR day = true ∧ 1 ≤ rule ∧ rule ≤ 4 ∧ ∃ r, roll wk hs day rule = (r, 0) ∧ Near (opn wk hs) day r ∧
      ((rule = 1 ∧ day ≤ r) ∨ (rule = 2 ∧ r ≤ day) ∨ (rule = 3 ∧ Keep wk hs day r 1 2) ∨ (rule = 4 ∧ Keep wk hs day r 2 1))) := by
  cases hk : calB wk hs
  · exact .inl ⟨8, roll_bad hk, by decide⟩
  · cases hd : inR day
    · exact .inl ⟨2, roll_arg hk (.inl hd), by decide⟩
    · by_cases h4 : 4 < rule
      · exact .inl ⟨2, roll_arg hk (.inr h4), by decide⟩
      · have ho := fun (x : Int) (hx : x ≤ 4) => (roll_ok hk hd hx : roll wk hs day x = rollS (opn wk hs) day x)
        have hdr := inR_bd hd
        have n1 := nth_two (P := opn wk hs) (a := day) (s := 1) (.inl rfl) hdr.1 hdr.2
        have n2 := nth_two (P := opn wk hs) (a := day) (s := -1) (.inr rfl) hdr.1 hdr.2
        have hc : rule = 0 ∨ rule = 1 ∨ rule = 2 ∨ rule = 3 ∨ rule = 4 := by omega
        rcases hc with rfl | rfl | rfl | rfl | rfl
        · exact .inr (.inl ⟨rfl, ho 0 (by omega)⟩)
        · rcases n1 with ⟨d, n1, _, _⟩ | n1
          · have hn := near_up hdr.1 hdr.2 n1
            exact .inr (.inr ⟨rfl, rfl, by omega, by omega, d, (ho 1 (by omega)).trans n1, hn, .inl ⟨rfl, (nth_up1 hdr.1 hdr.2 n1).1⟩⟩)
          · exact .inl ⟨40, (ho 1 (by omega)).trans n1, by decide⟩
        · rcases n2 with ⟨d, n2, _, _⟩ | n2
          · have hn := near_down hdr.1 hdr.2 n2 (nth_down1 hdr.1 hdr.2 n2).2.2.2.2
            exact .inr (.inr ⟨rfl, rfl, by omega, by omega, d, (ho 2 (by omega)).trans n2, hn, .inr (.inl ⟨rfl, (nth_down1 hdr.1 hdr.2 n2).2.1⟩)⟩)
          · exact .inl ⟨40, (ho 2 (by omega)).trans n2, by decide⟩
        · rcases n1 with ⟨d, n1, d0, d1⟩ | n1
          · cases hs1 : sameM d day
            · rcases n2 with ⟨x, n2, _, _⟩ | n2
              · have hn := near_down hdr.1 hdr.2 n2 (nth_down1 hdr.1 hdr.2 n2).2.2.2.2
                exact .inr (.inr ⟨rfl, rfl, by omega, by omega, x, (ho 3 (by omega)).trans ((rollS_3b n1 hs1).trans n2), hn, .inr (.inr (.inl ⟨rfl, .inr (.inl ⟨d, (ho 1 (by omega)).trans n1, d0, d1, hs1, (ho 2 (by omega)).trans n2⟩)⟩))⟩)
              · exact .inl ⟨40, (ho 3 (by omega)).trans ((rollS_3b n1 hs1).trans n2), by decide⟩
            · exact .inr (.inr ⟨rfl, rfl, by omega, by omega, d, (ho 3 (by omega)).trans (rollS_3a n1 hs1), near_up hdr.1 hdr.2 n1, .inr (.inr (.inl ⟨rfl, .inl ⟨(ho 1 (by omega)).trans n1, hs1⟩⟩))⟩)
          · rcases n2 with ⟨x, n2, _, _⟩ | n2
            · exact .inr (.inr ⟨rfl, rfl, by omega, by omega, x, (ho 3 (by omega)).trans ((rollS_3c n1).trans n2), near_down hdr.1 hdr.2 n2 (nth_down1 hdr.1 hdr.2 n2).2.2.2.2, .inr (.inr (.inl ⟨rfl, .inr (.inr ⟨(ho 1 (by omega)).trans n1, (ho 2 (by omega)).trans n2⟩)⟩))⟩)
            · exact .inl ⟨40, (ho 3 (by omega)).trans ((rollS_3c n1).trans n2), by decide⟩
        · rcases n2 with ⟨d, n2, d0, d1⟩ | n2
          · cases hs1 : sameM d day
            · rcases n1 with ⟨x, n1, _, _⟩ | n1
              · exact .inr (.inr ⟨rfl, rfl, by omega, by omega, x, (ho 4 (by omega)).trans ((rollS_4b n2 hs1).trans n1), near_up hdr.1 hdr.2 n1, .inr (.inr (.inr ⟨rfl, .inr (.inl ⟨d, (ho 2 (by omega)).trans n2, d0, d1, hs1, (ho 1 (by omega)).trans n1⟩)⟩))⟩)
              · exact .inl ⟨40, (ho 4 (by omega)).trans ((rollS_4b n2 hs1).trans n1), by decide⟩
            · exact .inr (.inr ⟨rfl, rfl, by omega, by omega, d, (ho 4 (by omega)).trans (rollS_4a n2 hs1), near_down hdr.1 hdr.2 n2 (nth_down1 hdr.1 hdr.2 n2).2.2.2.2, .inr (.inr (.inr ⟨rfl, .inl ⟨(ho 2 (by omega)).trans n2, hs1⟩⟩))⟩)
          · rcases n1 with ⟨x, n1, _, _⟩ | n1
            · exact .inr (.inr ⟨rfl, rfl, by omega, by omega, x, (ho 4 (by omega)).trans ((rollS_4c n2).trans n1), near_up hdr.1 hdr.2 n1, .inr (.inr (.inr ⟨rfl, .inr (.inr ⟨(ho 2 (by omega)).trans n2, (ho 1 (by omega)).trans n1⟩)⟩))⟩)
            · exact .inl ⟨40, (ho 4 (by omega)).trans ((rollS_4c n2).trans n1), by decide⟩
theorem near_count {wk : Int} {hs : List Int} {day r : Int} (hk : calB wk hs = true) (hd : inR day = true) (h : Near (opn wk hs) day r) :
    (day ≤ r → count wk hs day r = (0, 0)) ∧ (r < day → count wk hs (r + 1) day = (0, 0)) := by
  have hb := inR_bd hd
  have h0 := h.r0
  have h1 := h.r1
  refine ⟨fun hle => ?_, fun hlt => ?_⟩
  · rw [count_in hk hd (by unfold inR; simp; omega), h.up hle, Int.sub_self]
  · rw [count_in hk (by unfold inR; simp; omega) hd, h.down hlt, Int.sub_self]
theorem near_business {wk : Int} {hs : List Int} {day r : Int} (hk : calB wk hs = true) (hd : inR day = true) (h : Near (opn wk hs) day r) :
    business wk hs r = (true, 0) ∧ ((business wk hs day = (true, 0) ∧ r = day) ∨ business wk hs day = (false, 0)) := by
  have hr : inR r = true := by unfold inR; have := h.r0; have := h.r1; simp; omega
  refine ⟨by rw [business_ok hk hr, h.is], ?_⟩
  rw [business_ok hk hd]
  cases hp : opn wk hs day
  · exact .inr rfl
  · exact .inl ⟨rfl, h.here hp⟩
/-- Adding forward and back. -/
theorem adds_back {day r n : Int} (h0 : 0 ≤ day) (h1 : day ≤ 99999) (hn : 1 ≤ n) (hr : day + 1 ≤ r) (hr1 : r ≤ 99999) (hf : F P r - F P (day + 1) = n - 1) (hP : P day = true) : nth P (r - 1) (-1) n = (day, 0) := by
  have hs := F_succ (P := P) h0
  rw [if_pos hP] at hs
  have e : r - 1 + 1 = r := by omega
  rcases nth_down (P := P) (r - 1) n (by omega) (by omega) hn with ⟨d, e1, e2, e3, e4, e5⟩ | ⟨_, e2⟩
  · rw [e] at e5
    have hs2 := F_succ (P := P) e2
    rw [if_pos e4] at hs2
    have := F_inj e2 h0 e4 hP (by omega)
    rw [e1, this]
  · rw [e] at e2
    have := F_bound (P := P) h0 (by omega)
    omega
end Z
end Go.Proofs.Ytmbbpimihnojeaa
