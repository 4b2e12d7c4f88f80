/- Plain: what a valid contract is made of. -/
import Derived.Test.YtifafmomkpkgdaaGreatDoorZwrd
namespace Go.Proofs.YtifafmomkpkgdaaGreatDoor
namespace Z
theorem numB_E {n : Nat} {e : Ex n} (h : numB n e = true) : exE n e = 0 ∧ exSort n e = 1 := by
  unfold numB at h
  rwa [Bool.and_eq_true, decide_eq_true_iff, decide_eq_true_iff] at h
theorem truB_E {n : Nat} {e : Ex n} (h : truB n e = true) : exE n e = 0 ∧ exSort n e = 2 := by
  unfold truB at h
  rwa [Bool.and_eq_true, decide_eq_true_iff, decide_eq_true_iff] at h
theorem nameB_le {s : ByteArray} (h : nameB s = true) : s.size ≤ 40 := by
  unfold nameB at h
  simp only [Bool.and_eq_true, decide_eq_true_iff] at h
  omega
theorem exE_ok {n : Nat} {e : Ex n} (h : exE n e = 0) : exSize n e ≤ 500 ∧ exDepth n e ≤ 60 := by
  unfold exE at h
  split at h
  · cases h
  · omega
theorem shp_zero : shp 0 = none := rfl
theorem sort_zero {n : Nat} {e : Ex (n + 1)} (h : e.top.k = 0) : exSort (n + 1) e = 0 := by
  rw [exSort]
  unfold sortN leafS
  rw [h, shp_zero]
  simp
theorem bare_kind {n : Nat} {e : Ex (n + 1)} (h : bareX e = true) : e.top.k = 0 := by
  unfold bareX at h
  rw [Bool.and_eq_true, decide_eq_true_iff] at h
  exact h.1
section
variable {m : Nat}
theorem coE_ok {n : Nat} {c : Co m n} : coE n c = 0 ↔ coSize n c ≤ 500 ∧ coDepth n c ≤ 60 ∧ coFormed n c = true := by
  unfold coE
  constructor
  · intro h
    split at h
    · cases h
    · split at h
      · rename_i h1 h2
        exact ⟨by omega, by omega, h2⟩
      · cases h
  · rintro ⟨h1, h2, h3⟩
    rw [if_neg (by omega), if_pos h3]
theorem coE_many {n : Nat} {c : Co m n} (h : 500 < coSize n c ∨ 60 < coDepth n c) : coE n c = 4 := by unfold coE; rw [if_pos h]
theorem coFormed_top {n : Nat} {c : Co m (n + 1)} (h : coFormed (n + 1) c = true) : nodeB (c.top, c.sub.length) = true := by
  rw [coFormed, Bool.and_eq_true] at h
  exact h.2
theorem coFormed_sub {n : Nat} {c : Co m (n + 1)} (h : coFormed (n + 1) c = true) : ∀ x ∈ c.sub, coFormed n x = true := by
  rw [coFormed, Bool.and_eq_true, List.all_eq_true] at h
  exact h.1
theorem coE_sub {n : Nat} {c : Co m (n + 1)} (h : coE (n + 1) c = 0) : ∀ x ∈ c.sub, coE n x = 0 := fun x hx => by
  obtain ⟨h1, h2, h3⟩ := coE_ok.1 h
  rw [coSize] at h1
  rw [coDepth] at h2
  have := sumL_mem (f := coSize n) hx
  have := maxL_mem (f := coDepth n) hx
  exact coE_ok.2 ⟨by omega, by omega, coFormed_sub h3 x hx⟩
/-- A valid contract's node: its parts. -/
theorem node_part {c : CN m} {k : Nat} (h : nodeB (c, k) = true) : ∃ p, pas c.k = some p ∧ partB p c k = true := by
  unfold nodeB at h
  split at h
  · cases h
  · rename_i p hp
    exact ⟨p, hp, h⟩
theorem node_ex {c : CN m} {k : Nat} (h : nodeB (c, k) = true) : (bareX c.ex = true ∧ c.ex.top.k = 0) ∨ (bareX c.ex = false ∧ c.ex.top.k ≠ 0 ∧ exE (m + 1) c.ex = 0) := by
  obtain ⟨p, _, hp⟩ := node_part h
  unfold partB at hp
  simp only [Bool.and_eq_true] at hp
  have h5 := hp.2.2.2.2.1
  have key : ∀ s : Int, s ≠ 0 → exE (m + 1) c.ex = 0 → exSort (m + 1) c.ex = s → bareX c.ex = false ∧ c.ex.top.k ≠ 0 ∧ exE (m + 1) c.ex = 0 := fun s hs h1 h2 => by
    have hk : c.ex.top.k ≠ 0 := fun h0 => hs (by rw [← h2, sort_zero h0])
    refine ⟨?_, hk, h1⟩
    cases hb : bareX c.ex
    · rfl
    · exact absurd (bare_kind hb) hk
  split at h5
  · obtain ⟨h1, h2⟩ := numB_E h5
    exact .inr (key 1 (by decide) h1 h2)
  · split at h5
    · obtain ⟨h1, h2⟩ := truB_E h5
      exact .inr (key 2 (by decide) h1 h2)
    · exact .inl ⟨h5, bare_kind h5⟩
theorem wordB_name {has : Bool} {s : ByteArray} (h : wordB has s = true) (hs : ne0 s = true) : nameB s = true := by
  unfold wordB at h
  split at h
  · exact h
  · unfold ne0 at hs
    rw [h] at hs
    cases hs
theorem coE_nodes {n : Nat} {c : Co m n} (h : coE n c = 0) : ∀ x ∈ coNodes n c, nodeB x = true := by
  have := (coE_ok.1 h).2.2
  rw [coFormed_nodes, List.all_eq_true] at this
  exact this
theorem ofW_name {s : ByteArray} (h : nameB s = true) : nameB (⟨(bytesW s).toArray⟩ : ByteArray) = true := by
  have : (⟨(bytesW s).toArray⟩ : ByteArray) = s := by unfold bytesW; simp
  rw [this]
  exact h
theorem pw_names {c : CN m} {k : Nat} (h : nodeB (c, k) = true) : ∀ x ∈ pw c, nameB (⟨x.toArray⟩ : ByteArray) = true := by
  obtain ⟨p, _, hp⟩ := node_part h
  unfold partB at hp
  simp only [Bool.and_eq_true] at hp
  intro x hx
  unfold pw at hx
  obtain ⟨s, hs, rfl⟩ := List.mem_map.1 hx
  obtain ⟨hm, hn⟩ := List.mem_filter.1 hs
  refine ofW_name ?_
  rcases List.mem_cons.1 hm with rfl | hm
  · exact wordB_name hp.1 hn
  · obtain rfl := List.mem_singleton.1 hm
    exact wordB_name hp.2.1 hn
theorem mw_names {c : CN m} {k : Nat} (h : nodeB (c, k) = true) : ∀ x ∈ mw c, nameB (⟨x.toArray⟩ : ByteArray) = true := by
  obtain ⟨p, _, hp⟩ := node_part h
  unfold partB at hp
  simp only [Bool.and_eq_true] at hp
  intro x hx
  unfold mw at hx
  split at hx
  · obtain ⟨s, hs, rfl⟩ := List.mem_map.1 hx
    obtain ⟨hm, hn⟩ := List.mem_filter.1 hs
    obtain rfl := List.mem_singleton.1 hm
    exact ofW_name (wordB_name hp.2.2.1 hn)
  · cases hx
theorem allW_names {at_ : CN m → List BS} (ha : ∀ {c : CN m} {k : Nat}, nodeB (c, k) = true → ∀ x ∈ at_ c, nameB (⟨x.toArray⟩ : ByteArray) = true) {n : Nat} {c : Co m n} (h : coE n c = 0) : ∀ x ∈ uniqW (allW at_ n c), nameB (⟨x.toArray⟩ : ByteArray) = true := fun x hx => by
  rw [uniqW_mem] at hx
  unfold allW at hx
  obtain ⟨y, hy, hxy⟩ := List.mem_flatMap.1 hx
  exact ha (coE_nodes h y hy) x hxy
theorem foldU_asc {n : Nat} (f : Co m n → List BS) : ∀ (l : List (Co m n)) (o : List BS), Asc o → Asc (l.foldl (fun o x => (f x).foldl withB o) o)
  | [], _, h => h
  | x :: r, o, h => foldU_asc f r _ (foldW_asc (f x) o h)
theorem foldU_mem {n : Nat} (f : Co m n → List BS) (s : BS) : ∀ (l : List (Co m n)) (o : List BS), s ∈ l.foldl (fun o x => (f x).foldl withB o) o ↔ s ∈ o ∨ ∃ x ∈ l, s ∈ f x
  | [], o => by simp
  | x :: r, o => by
    rw [List.foldl_cons, foldU_mem f s r, foldW_mem]
    constructor
    · rintro ((h | h) | ⟨y, hy, h⟩)
      · exact .inl h
      · exact .inr ⟨x, List.mem_cons_self .., h⟩
      · exact .inr ⟨y, List.mem_cons_of_mem _ hy, h⟩
    · rintro (h | ⟨y, hy, h⟩)
      · exact .inl (.inl h)
      · rcases List.mem_cons.1 hy with rfl | hy
        · exact .inl (.inr h)
        · exact .inr ⟨y, hy, h⟩
/-- The words of a contract are its own and those of its parts. -/
theorem words_parts (at_ : CN m → List BS) (n : Nat) (c : Co m (n + 1)) : c.sub.foldl (fun o x => (uniqW (allW at_ n x)).foldl withB o) ((at_ c.top).foldl withB []) = uniqW (allW at_ (n + 1) c) :=
  bs_uniq _ _ (foldU_asc _ _ _ (foldW_asc _ _ List.Pairwise.nil)) (uniqW_asc _) fun s => by
    rw [foldU_mem, foldW_mem, uniqW_mem, allW_eq, List.mem_append, List.mem_flatMap]
    simp only [List.not_mem_nil, false_or]
    constructor
    · rintro (h | ⟨x, hx, h⟩)
      · exact .inl h
      · exact .inr ⟨x, hx, (uniqW_mem _ _).1 h⟩
    · rintro (h | ⟨x, hx, h⟩)
      · exact .inl h
      · exact .inr ⟨x, hx, (uniqW_mem _ _).2 h⟩
theorem cmp_len (l : List BS) : (Lib.compact l).length ≤ l.length := by
  unfold Lib.compact Lib.compactUpTo
  rw [List.length_map]
  refine Nat.le_trans (List.length_filter_le _ _) ?_
  rw [List.length_range]
  exact Nat.le_refl _
theorem words_len {at_ : CN m → List BS} (ha : ∀ t, (at_ t).length ≤ 2) {n : Nat} {c : Co m (n + 1)} (h : CSm (n + 1) c) : (uniqW (allW at_ (n + 1) c)).length ≤ 3000 := by
  have h1 : (coNodes (n + 1) c).length ≤ 1500 := by rw [coNodes_len]; exact h.cnt
  have h2 : ∀ l : List (CN m × Nat), (l.flatMap fun x => at_ x.1).length ≤ 2 * l.length := by
    intro l
    induction l with
    | nil => simp
    | cons x r ih =>
      rw [List.flatMap_cons, List.length_append, List.length_cons]
      have := ha x.1
      omega
  have h3 := h2 (coNodes (n + 1) c)
  unfold uniqW
  refine Nat.le_trans (cmp_len _) ?_
  rw [List.length_mergeSort]
  unfold allW
  omega
theorem pw_fold (c : CN m) (l : List BS) : (pw c).foldl withB l = if ne0 c.tu = true then withB (if ne0 c.fr = true then withB l (bytesW c.fr) else l) (bytesW c.tu) else (if ne0 c.fr = true then withB l (bytesW c.fr) else l) := by
  unfold pw
  cases h1 : ne0 c.fr <;> cases h2 : ne0 c.tu <;> simp [h1, h2]
theorem asc_len : ∀ (b a : List BS), Asc a → Asc b → (∀ x ∈ a, x ∈ b) → a.length ≤ b.length
  | [], a, _, _, h => by
    cases a with
    | nil => exact Nat.le_refl _
    | cons x s => exact absurd (h x (List.mem_cons_self ..)) (by simp)
  | y :: r, [], _, _, _ => Nat.zero_le _
  | y :: r, x :: s, ha, hb, h => by
    obtain ⟨ha1, ha2⟩ := List.pairwise_cons.1 ha
    obtain ⟨hb1, hb2⟩ := List.pairwise_cons.1 hb
    by_cases e : x = y
    · subst e
      have := asc_len r s ha2 hb2 fun z hz => by
        rcases List.mem_cons.1 (h z (List.mem_cons_of_mem _ hz)) with e | e
        · subst e; exact absurd (ha1 z hz) (bs_irrefl z)
        · exact e
      simp only [List.length_cons]
      omega
    · have hxr : x ∈ r := (List.mem_cons.1 (h x (List.mem_cons_self ..))).resolve_left e
      have hyx := hb1 x hxr
      have := asc_len r (x :: s) ha hb2 fun z hz => by
        rcases List.mem_cons.1 (h z hz) with e' | e'
        · subst e'
          rcases List.mem_cons.1 hz with e2 | e2
          · exact absurd e2.symm e
          · exact absurd (bs_trans hyx (ha1 z e2)) (bs_irrefl z)
        · exact e'
      simp only [List.length_cons] at this ⊢
      omega
theorem foldU_cum {n : Nat} (f : Co m n → List BS) (l : List (Co m n)) (o : List BS) (h : Asc o) (k : Nat) : ((l.take k).foldl (fun o x => (f x).foldl withB o) o).length ≤ (l.foldl (fun o x => (f x).foldl withB o) o).length :=
  asc_len _ _ (foldU_asc f _ _ h) (foldU_asc f _ _ h) fun s hs => by
    rw [foldU_mem] at hs ⊢
    rcases hs with hs | ⟨x, hx, hs⟩
    · exact .inl hs
    · exact .inr ⟨x, List.mem_of_mem_take hx, hs⟩
theorem withB_ge (s : BS) : ∀ l : List BS, l.length ≤ (withB l s).length
  | [] => Nat.zero_le _
  | x :: r => by
    have := withB_ge s r
    unfold withB
    split
    · rw [List.length_cons, List.length_cons]; omega
    · split <;> simp
end
end Z
end Go.Proofs.YtifafmomkpkgdaaGreatDoor
