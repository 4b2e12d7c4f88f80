/- Plain: joint calendars. -/
import Derived.Test.YtmbbpimihnojeaaZjoin
import Derived.Test.YtmbbpimihnojeaaCjoinr
namespace Go.Proofs.Ytmbbpimihnojeaa
namespace Z
theorem calB_facts {wk : Int} {hs : List Int} (h : calB wk hs = true) : wk ≤ 126 ∧ (hs.length : Int) ≤ 1000 ∧ hs.Pairwise (· < ·) ∧ ∀ x, x ∈ hs → inR x = true := by
  have hk : wk ≤ 126 ∧ (hs.length : Int) ≤ 1000 ∧ asc none hs = true := by
    unfold calB at h; simpa [and_assoc] using h
  obtain ⟨h1, h2, h3⟩ := hk
  obtain ⟨h4, h5⟩ := asc_facts _ _ h3
  exact ⟨h1, h2, h5, fun x hx => (h4 x hx).1⟩
theorem asc_mk : ∀ (l : List Int) (p : Option Int), (∀ x, x ∈ l → inR x = true ∧ ∀ q, p = some q → q < x) → l.Pairwise (· < ·) → asc p l = true
  | [], _, _, _ => by simp [asc]
  | h :: t, p, h1, h2 => by
    obtain ⟨h3, h4⟩ := List.pairwise_cons.1 h2
    obtain ⟨h5, h6⟩ := h1 h (List.mem_cons_self ..)
    have h7 := asc_mk t (some h) (fun x hx => ⟨(h1 x (List.mem_cons_of_mem _ hx)).1, fun q hq => by injection hq with hq; subst hq; exact h3 x hx⟩) h4
    cases p with
    | none => simp [asc, h5, h7]
    | some q => simp [asc, h5, h7, h6 q rfl]
theorem J_self {a : List Int} (h : a.Pairwise (· < ·)) : J a a = a := asc_uniq _ _ (J_asc a a) h fun x => by rw [J_mem]; simp
theorem J_comm (a b : List Int) : J a b = J b a := asc_uniq _ _ (J_asc a b) (J_asc b a) fun x => by rw [J_mem, J_mem]; exact Or.comm
theorem orW_self {a : Int} (h0 : 0 ≤ a) (h1 : a ≤ 126) : orW a a = a := by
  rw [(orW_nat h0 h1 h0 h1).1, Nat.or_self]; omega
theorem orW_comm {a b : Int} (a0 : 0 ≤ a) (a1 : a ≤ 126) (b0 : 0 ≤ b) (b1 : b ≤ 126) : orW a b = orW b a := by
  rw [(orW_nat a0 a1 b0 b1).1, (orW_nat b0 b1 a0 a1).1, Nat.or_comm]
theorem joinE_bad {wa wb : Int} {a b : List Int} (h : ¬ (calB wa a = true ∧ calB wb b = true)) : joinE wa wb a b = 8 := by unfold joinE; rw [if_neg h]
theorem join_self {wa : Int} {a : List Int} (h0 : 0 ≤ wa) : joinE wa wa a a = cerr wa a ∧ (calB wa a = true → joinE wa wa a a = 0 ∧ joinW wa wa a a = wa ∧ joinH wa wa a a = a) := by
  cases hk : calB wa a
  · refine ⟨?_, fun h => by cases h⟩
    rw [joinE_bad (by simp [hk])]
    unfold cerr; rw [hk]; rfl
  · obtain ⟨h1, h2, h3, h4⟩ := calB_facts hk
    have e0 : joinE wa wa a a = 0 := by
      unfold joinE
      rw [if_pos ⟨hk, hk⟩, orW_self h0 h1, if_neg (by omega), J_self h3, if_neg (by omega)]
    refine ⟨?_, fun _ => ⟨e0, ?_, ?_⟩⟩
    · rw [e0]; unfold cerr; rw [hk]; rfl
    · unfold joinW; rw [if_pos e0, orW_self h0 h1]
    · unfold joinH; rw [if_pos e0, J_self h3]
theorem join_comm {wa wb : Int} {a b : List Int} (h0 : 0 ≤ wa) (h1 : 0 ≤ wb) : joinE wa wb a b = joinE wb wa b a ∧ joinW wa wb a b = joinW wb wa b a ∧ joinH wa wb a b = joinH wb wa b a := by
  have hE : joinE wa wb a b = joinE wb wa b a := by
    by_cases h : calB wa a = true ∧ calB wb b = true
    · unfold joinE
      rw [if_pos h, if_pos h.symm, orW_comm h0 (calB_facts h.1).1 h1 (calB_facts h.2).1, J_comm]
    · rw [joinE_bad h, joinE_bad (fun hh => h hh.symm)]
  refine ⟨hE, ?_, ?_⟩
  · unfold joinW
    rw [← hE]
    by_cases h : joinE wa wb a b = 0
    · rw [if_pos h, if_pos h]
      by_cases hc : calB wa a = true ∧ calB wb b = true
      · exact orW_comm h0 (calB_facts hc.1).1 h1 (calB_facts hc.2).1
      · rw [joinE_bad hc] at h; omega
    · rw [if_neg h, if_neg h]
  · unfold joinH
    rw [← hE, J_comm]
theorem or_int {a b k : Nat} : (((a ||| b : Nat) : Int) / 2 ^ k % 2 == 0) = (((a : Int) / 2 ^ k % 2 == 0) && ((b : Int) / 2 ^ k % 2 == 0)) := by
  have h := or_bit a b k
  have e : ∀ n : Nat, (((n : Int) / 2 ^ k % 2 == 0) = (n / 2 ^ k % 2 == 0)) := fun n => by
    rw [Bool.eq_iff_iff, beq_iff_eq, beq_iff_eq]
    have : ((n / 2 ^ k % 2 : Nat) : Int) = (n : Int) / 2 ^ k % 2 := by rw [Int.natCast_emod, Int.natCast_ediv, Int.natCast_pow]; rfl
    omega
  rw [e, e, e, h]
  have m1 := Nat.mod_two_eq_zero_or_one (a / 2 ^ k)
  have m2 := Nat.mod_two_eq_zero_or_one (b / 2 ^ k)
  rcases m1 with m1 | m1 <;> rcases m2 with m2 | m2 <;> simp [m1, m2]
theorem opn_join {wa wb : Int} {a b : List Int} {d : Int} (a0 : 0 ≤ wa) (a1 : wa ≤ 126) (b0 : 0 ≤ wb) (b1 : wb ≤ 126) : opn (orW wa wb) (J a b) d = (opn wa a d && opn wb b d) := by
  unfold opn
  have hc : (J a b).contains d = (a.contains d || b.contains d) := by
    rw [Bool.eq_iff_iff]
    simp [J_mem]
  have ho := or_int (a := wa.toNat) (b := wb.toNat) (k := (d % 7).toNat)
  have ea : ((wa.toNat : Nat) : Int) = wa := by omega
  have eb : ((wb.toNat : Nat) : Int) = wb := by omega
  rw [ea, eb] at ho
  rw [hc, (orW_nat a0 a1 b0 b1).1, ho]
  cases a.contains d <;> cases b.contains d <;> cases (wa / 2 ^ (d % 7).toNat % 2 == 0) <;> cases (wb / 2 ^ (d % 7).toNat % 2 == 0) <;> rfl
theorem join_ok {wa wb : Int} {a b : List Int} (a0 : 0 ≤ wa) (b0 : 0 ≤ wb) (h : joinE wa wb a b = 0) :
    calB wa a = true ∧ calB wb b = true ∧ joinW wa wb a b = orW wa wb ∧ joinH wa wb a b = J a b ∧ calB (orW wa wb) (J a b) = true ∧ 0 ≤ orW wa wb := by
  have hw : joinW wa wb a b = orW wa wb := by unfold joinW; rw [if_pos h]
  have hh : joinH wa wb a b = J a b := by unfold joinH; rw [if_pos h]
  by_cases hc : calB wa a = true ∧ calB wb b = true
  · obtain ⟨p1, p2, p3, p4⟩ := calB_facts hc.1
    obtain ⟨q1, q2, q3, q4⟩ := calB_facts hc.2
    have hor := orW_nat a0 p1 b0 q1
    unfold joinE at h
    rw [if_pos hc] at h
    by_cases h7 : orW wa wb = 127
    · rw [if_pos h7] at h; omega
    · rw [if_neg h7] at h
      by_cases hl : 1000 < (J a b).length
      · rw [if_pos hl] at h; omega
      · refine ⟨hc.1, hc.2, hw, hh, ?_, by rw [hor.1]; omega⟩
        unfold calB
        have ha := asc_mk (J a b) none (fun x hx => ⟨((J_mem a b x).1 hx).elim (p4 x) (q4 x), fun q hq => by cases hq⟩) (J_asc a b)
        rw [ha, decide_eq_true (by rw [hor.1] at h7 ⊢; omega), decide_eq_true (by omega)]; rfl
  · rw [joinE_bad hc] at h; omega
theorem business_join {wa wb : Int} {a b : List Int} (a0 : 0 ≤ wa) (b0 : 0 ≤ wb) (d : Int) (h : joinE wa wb a b = 0) : ∃ (x y : Bool) (e : Int), business wa a d = (x, e) ∧ business wb b d = (y, e) ∧ business (joinW wa wb a b) (joinH wa wb a b) d = (x && y, e) := by
  obtain ⟨h1, h2, h3, h4, h5, h6⟩ := join_ok a0 b0 h
  rw [h3, h4]
  unfold business
  rw [h1, h2, h5]
  cases hd : inR d
  · exact ⟨false, false, 2, rfl, rfl, rfl⟩
  · refine ⟨opn wa a d, opn wb b d, 0, rfl, rfl, ?_⟩
    rw [← opn_join a0 (calB_facts h1).1 b0 (calB_facts h2).1]; rfl
theorem join_err0 {wa wb : Int} {a b : List Int} (h : joinE wa wb a b ≠ 0) : joinW wa wb a b = 0 ∧ joinH wa wb a b = [] := by
  unfold joinW joinH
  rw [if_neg h, if_neg h]; exact ⟨rfl, rfl⟩
theorem joinE_rng (wa wb : Int) (a b : List Int) : joinE wa wb a b = 0 ∨ joinE wa wb a b = 4 ∨ joinE wa wb a b = 6 ∨ joinE wa wb a b = 8 := by
  unfold joinE
  split
  · split
    · exact .inr (.inr (.inl rfl))
    · split
      · exact .inr (.inl rfl)
      · exact .inl rfl
  · exact .inr (.inr (.inr rfl))
theorem joinW_nn {wa wb : Int} {a b : List Int} (a0 : 0 ≤ wa) (b0 : 0 ≤ wb) : 0 ≤ joinW wa wb a b := by
  by_cases h : joinE wa wb a b = 0
  · have := join_ok a0 b0 h; rw [this.2.2.1]; exact this.2.2.2.2.2
  · rw [(join_err0 h).1]; omega
end Z
open Go.RowKit
theorem OJ.si {w : World} {B : Nat} {v : Value} {zs : List Int} (h : OJ w B v zs) : SI w v zs := by
  rcases h with ⟨rfl, rfl⟩ | ⟨g, cap, full, rfl, hO, hp⟩
  · exact SI.nil_
  · obtain ⟨t, ht⟩ := hp
    obtain ⟨A, c, hv, h1, h2, h3⟩ := hO.si
    injection hv with e1 e2 e3
    subst e1 e3
    have hl : zs.length ≤ full.length := by rw [← ht, List.length_append]; omega
    refine ⟨some ⟨g, 0, none⟩, cap, rfl, by omega, h2, fun hp => ?_⟩
    obtain ⟨b, o, e, hlt, hc⟩ := h3 (by omega)
    refine ⟨b, o, e, hlt, fun i d hd => hc i d ?_⟩
    rw [← ht, List.getElem?_append_left (List.getElem?_eq_some_iff.1 hd).1, hd]
end Go.Proofs.Ytmbbpimihnojeaa
