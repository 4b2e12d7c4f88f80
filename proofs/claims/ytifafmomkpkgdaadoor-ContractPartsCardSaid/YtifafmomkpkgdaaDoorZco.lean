/- Plain: what a valid contract is made of. -/
import Derived.Test.YtifafmomkpkgdaaDoorZwrd
namespace Go.Proofs.YtifafmomkpkgdaaDoor
namespace Z
theorem numB_E {n : Nat} {e : Ex n} (h : numB n e = true) : exE n e = 0 ∧ exSort n e = 1 := by
  unfold numB at h
  rwa [Bool.and_eq_true, decide_eq_true_iff, decide_eq_true_iff] at h
theorem truB_E {n : Nat} {e : Ex n} (h : truB n e = true) : exE n e = 0 ∧ exSort n e = 2 := by
  unfold truB at h
  rwa [Bool.and_eq_true, decide_eq_true_iff, decide_eq_true_iff] at h
theorem exE_ok {n : Nat} {e : Ex n} (h : exE n e = 0) : exSize n e ≤ 500 ∧ exDepth n e ≤ 60 := by
  unfold exE at h
  split at h
  · cases h
  · omega
theorem shp_zero : shp 0 = none := rfl
theorem sort_zero {n : Nat} {e : Ex (n + 1)} (h : e.top.k = 0) : exSort (n + 1) e = 0 := by
  rw [exSort]
  unfold sortN leafS
  rw [h, shp_zero]
  simp
theorem bare_kind {n : Nat} {e : Ex (n + 1)} (h : bareX e = true) : e.top.k = 0 := by
  unfold bareX at h
  rw [Bool.and_eq_true, decide_eq_true_iff] at h
  exact h.1
section
variable {m : Nat}
theorem coE_ok {n : Nat} {c : Co m n} : coE n c = 0 ↔ coSize n c ≤ 500 ∧ coDepth n c ≤ 60 ∧ coFormed n c = true := by
  unfold coE
  constructor
  · intro h
    split at h
    · cases h
    · split at h
      · rename_i h1 h2
        exact ⟨by omega, by omega, h2⟩
      · cases h
  · rintro ⟨h1, h2, h3⟩
    rw [if_neg (by omega), if_pos h3]
theorem coE_many {n : Nat} {c : Co m n} (h : 500 < coSize n c ∨ 60 < coDepth n c) : coE n c = 4 := by unfold coE; rw [if_pos h]
theorem coFormed_top {n : Nat} {c : Co m (n + 1)} (h : coFormed (n + 1) c = true) : nodeB (c.top, c.sub.length) = true := by
  rw [coFormed, Bool.and_eq_true] at h
  exact h.2
theorem coFormed_sub {n : Nat} {c : Co m (n + 1)} (h : coFormed (n + 1) c = true) : ∀ x ∈ c.sub, coFormed n x = true := by
  rw [coFormed, Bool.and_eq_true, List.all_eq_true] at h
  exact h.1
theorem coE_sub {n : Nat} {c : Co m (n + 1)} (h : coE (n + 1) c = 0) : ∀ x ∈ c.sub, coE n x = 0 := fun x hx => by
  obtain ⟨h1, h2, h3⟩ := coE_ok.1 h
  rw [coSize] at h1
  rw [coDepth] at h2
  have := sumL_mem (f := coSize n) hx
  have := maxL_mem (f := coDepth n) hx
  exact coE_ok.2 ⟨by omega, by omega, coFormed_sub h3 x hx⟩
/-- A valid contract's node: its parts. -/
theorem node_part {c : CN m} {k : Nat} (h : nodeB (c, k) = true) : ∃ p, pas c.k = some p ∧ partB p c k = true := by
  unfold nodeB at h
  split at h
  · cases h
  · rename_i p hp
    exact ⟨p, hp, h⟩
theorem node_ex {c : CN m} {k : Nat} (h : nodeB (c, k) = true) : (bareX c.ex = true ∧ c.ex.top.k = 0) ∨ (bareX c.ex = false ∧ c.ex.top.k ≠ 0 ∧ exE (m + 1) c.ex = 0) := by
  obtain ⟨p, _, hp⟩ := node_part h
  unfold partB at hp
  simp only [Bool.and_eq_true] at hp
  have h5 := hp.2.2.2.2.1
  have key : ∀ s : Int, s ≠ 0 → exE (m + 1) c.ex = 0 → exSort (m + 1) c.ex = s → bareX c.ex = false ∧ c.ex.top.k ≠ 0 ∧ exE (m + 1) c.ex = 0 := fun s hs h1 h2 => by
    have hk : c.ex.top.k ≠ 0 := fun h0 => hs (by rw [← h2, sort_zero h0])
    refine ⟨?_, hk, h1⟩
    cases hb : bareX c.ex
    · rfl
    · exact absurd (bare_kind hb) hk
  split at h5
  · obtain ⟨h1, h2⟩ := numB_E h5
    exact .inr (key 1 (by decide) h1 h2)
  · split at h5
    · obtain ⟨h1, h2⟩ := truB_E h5
      exact .inr (key 2 (by decide) h1 h2)
    · exact .inl ⟨h5, bare_kind h5⟩
end
end Z
end Go.Proofs.YtifafmomkpkgdaaDoor
