/- Plain: what adding business days leads to. -/
import Derived.Test.YtmbbpimihnojeaaZcalb
namespace Go.Proofs.Ytmbbpimihnojeaa
namespace Z
/-- What adding leads to. -/
theorem add_cases (wk : Int) (hs : List Int) (day n : Int) :
    (∃ e, add wk hs day n = (0, e) ∧ (e == 0) = false) ∨
    (∃ r, add wk hs day n = (r, 0) ∧ business wk hs r = (true, 0) ∧ 0 ≤ r ∧ r ≤ 99999 ∧
      ((n = 0 ∧ roll wk hs day 1 = (r, 0)) ∨ ((n < 0 ∧ -99999 ≤ n) ∧ r < day ∧ count wk hs r day = (-n, 0)) ∨
        (0 < n ∧ n ≤ 99999 ∧ day < r ∧ count wk hs (day + 1) r = (n - 1, 0) ∧ 0 ≤ day ∧ ∃ (h : Bool), business wk hs day = (h, 0) ∧ ∃ bx be : Int, add wk hs r (-n) = (bx, be) ∧ (h = true → bx = day ∧ be = 0)))) := by
  cases hk : calB wk hs
  · exact .inl ⟨8, add_bad hk, by decide⟩
  · cases hd : inR day
    · exact .inl ⟨2, add_arg hk (.inl hd), by decide⟩
    · by_cases hn : n < -99999 ∨ 99999 < n
      · exact .inl ⟨2, add_arg hk (.inr hn), by decide⟩
      · have ho : add wk hs day n = addS (opn wk hs) day n := add_ok hk hd (by omega) (by omega)
        have hdr := inR_bd hd
        have hR : ∀ r, 0 ≤ r → r ≤ 99999 → inR r = true := fun r h1 h2 => by unfold inR; simp; omega
        rcases Int.lt_trichotomy n 0 with h | h | h
        · have hs1 : addS (opn wk hs) day n = nth (opn wk hs) (day - 1) (-1) (-n) := by unfold addS; rw [if_neg (by omega), if_pos h]
          rcases nth_down (P := opn wk hs) (day - 1) (-n) (by omega) (by omega) (by omega) with ⟨d, e1, e2, e3, e4, e5⟩ | ⟨e1, _⟩
          · have e : day - 1 + 1 = day := by omega
            rw [e] at e5
            have hsu := F_succ (P := opn wk hs) e2
            rw [if_pos e4] at hsu
            refine .inr ⟨d, ho.trans (hs1.trans e1), by rw [business_ok hk (hR d e2 (by omega)), e4], e2, by omega, .inr (.inl ⟨⟨h, by omega⟩, by omega, ?_⟩)⟩
            rw [count_in hk (hR d e2 (by omega)) hd]
            congr 1; omega
          · exact .inl ⟨40, ho.trans (hs1.trans e1), by decide⟩
        · subst h
          have hs1 : addS (opn wk hs) day 0 = nth (opn wk hs) day 1 1 := rfl
          rcases nth_up (P := opn wk hs) day 1 hdr.1 (by omega) with ⟨d, e1, e2, e3, e4, e5⟩ | ⟨e1, _⟩
          · exact .inr ⟨d, ho.trans (hs1.trans e1), by rw [business_ok hk (hR d (by omega) e3), e4], by omega, e3, .inl ⟨rfl, (roll_ok hk hd (by omega)).trans e1⟩⟩
          · exact .inl ⟨40, ho.trans (hs1.trans e1), by decide⟩
        · have hs1 : addS (opn wk hs) day n = nth (opn wk hs) (day + 1) 1 n := by unfold addS; rw [if_pos h]
          rcases nth_up (P := opn wk hs) (day + 1) n (by omega) (by omega) with ⟨d, e1, e2, e3, e4, e5⟩ | ⟨e1, _⟩
          · refine .inr ⟨d, ho.trans (hs1.trans e1), by rw [business_ok hk (hR d (by omega) e3), e4], by omega, e3, .inr (.inr ⟨h, by omega, by omega, ?_, hdr.1, opn wk hs day, business_ok hk hd, (add wk hs d (-n)).1, (add wk hs d (-n)).2, rfl, fun hp => ?_⟩)⟩
            · rw [count_in hk (hR _ (by omega) (by omega)) (hR d (by omega) e3), e5]
            · have hb : add wk hs d (-n) = (day, 0) := by
                rw [add_ok hk (hR d (by omega) e3) (by omega) (by omega)]
                unfold addS
                rw [if_neg (by omega), if_pos (by omega), Int.neg_neg]
                exact adds_back hdr.1 hdr.2 (by omega) (by omega) e3 e5 hp
              rw [hb]; exact ⟨rfl, rfl⟩
          · exact .inl ⟨40, ho.trans (hs1.trans e1), by decide⟩
end Z
end Go.Proofs.Ytmbbpimihnojeaa
