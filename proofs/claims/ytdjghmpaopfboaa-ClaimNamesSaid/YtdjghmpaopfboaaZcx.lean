/- Zcx: Zclx Zcly -/
import Derived.Test.YtdjghmpaopfboaaClqj
import Derived.Test.YtdjghmpaopfboaaClnet
/- Plain: the claims behind an update: they are valid; which are open; what was added. -/

namespace Go.Proofs.Ytdjghmpaopfboaa
namespace Z
/-- The reversals of claims, the claims for flows, behind n claims. -/
def revs (en : Int) (n : Nat) : List Cl → List Cl
  | [] => []
  | x :: r => ⟨(n : Int) + 1, x.n, en, opp x.fl⟩ :: revs en (n + 1) r
def news (en : Int) (n : Nat) : List Fl → List Cl
  | [] => []
  | f :: r => ⟨(n : Int) + 1, 0, en, f⟩ :: news en (n + 1) r
theorem foldR_eq (en : Int) : ∀ (R : List Cl) (l : List Cl), R.foldl (addR en) l = l ++ revs en l.length R
  | [], l => by simp [revs]
  | x :: r, l => by
    rw [List.foldl_cons, foldR_eq en r]
    simp [addR, revs]
theorem foldF_eq (en : Int) : ∀ (R : List Fl) (l : List Cl), R.foldl (addF en) l = l ++ news en l.length R
  | [], l => by simp [news]
  | x :: r, l => by
    rw [List.foldl_cons, foldF_eq en r]
    simp [addF, news]
theorem revs_len (en : Int) : ∀ (R : List Cl) (n : Nat), (revs en n R).length = R.length
  | [], n => rfl
  | x :: r, n => by rw [revs, List.length_cons, revs_len en r, List.length_cons]
theorem news_len (en : Int) : ∀ (R : List Fl) (n : Nat), (news en n R).length = R.length
  | [], n => rfl
  | x :: r, n => by rw [news, List.length_cons, news_len en r, List.length_cons]
theorem revs_at (en : Int) : ∀ (R : List Cl) (n i : Nat) (x : Cl), R[i]? = some x → (revs en n R)[i]? = some ⟨((n + i : Nat) : Int) + 1, x.n, en, opp x.fl⟩
  | [], n, i, x, h => by simp at h
  | y :: r, n, 0, x, h => by
    simp only [List.getElem?_cons_zero, Option.some.injEq] at h
    subst h; rfl
  | y :: r, n, i + 1, x, h => by
    rw [List.getElem?_cons_succ] at h
    have := revs_at en r (n + 1) i x h
    show (revs en (n + 1) r)[i]? = _
    rw [this, show n + 1 + i = n + (i + 1) by omega]
theorem news_at (en : Int) : ∀ (R : List Fl) (n i : Nat) (x : Fl), R[i]? = some x → (news en n R)[i]? = some ⟨((n + i : Nat) : Int) + 1, 0, en, x⟩
  | [], n, i, x, h => by simp at h
  | y :: r, n, 0, x, h => by
    simp only [List.getElem?_cons_zero, Option.some.injEq] at h
    subst h; rfl
  | y :: r, n, i + 1, x, h => by
    rw [List.getElem?_cons_succ] at h
    have := news_at en r (n + 1) i x h
    show (news en (n + 1) r)[i]? = _
    rw [this, show n + 1 + i = n + (i + 1) by omega]
theorem revs_inv {en : Int} {R : List Cl} {n i : Nat} {z : Cl} (h : (revs en n R)[i]? = some z) : ∃ x, R[i]? = some x ∧ z = ⟨((n + i : Nat) : Int) + 1, x.n, en, opp x.fl⟩ := by
  have hlt : i < R.length := by rw [← revs_len en R n]; exact (List.getElem?_eq_some_iff.1 h).1
  have hx : R[i]? = some R[i] := List.getElem?_eq_getElem hlt
  rw [revs_at en R n i _ hx] at h
  exact ⟨_, hx, (Option.some.inj h).symm⟩
theorem news_inv {en : Int} {R : List Fl} {n i : Nat} {z : Cl} (h : (news en n R)[i]? = some z) : ∃ x, R[i]? = some x ∧ z = ⟨((n + i : Nat) : Int) + 1, 0, en, x⟩ := by
  have hlt : i < R.length := by rw [← news_len en R n]; exact (List.getElem?_eq_some_iff.1 h).1
  have hx : R[i]? = some R[i] := List.getElem?_eq_getElem hlt
  rw [news_at en R n i _ hx] at h
  exact ⟨_, hx, (Option.some.inj h).symm⟩
/-- The claims that an update reverses, the flows that it adds. -/
def rmL (l : List Cl) (fs : List Fl) : List Cl := rm (openL l) (cnt fs) (openL l).length
def frL (l : List Cl) (fs : List Fl) : List Fl := fr (openL l) fs fs.length
def newL (l : List Cl) (fs : List Fl) (en : Int) : List Cl := news en (l.length + (rmL l fs).length) (frL l fs)
def revL (l : List Cl) (fs : List Fl) (en : Int) : List Cl := revs en l.length (rmL l fs)
theorem updL_eq (l : List Cl) (fs : List Fl) (en : Int) : updL l fs en = l ++ (revL l fs en ++ newL l fs en) := by
  unfold updL
  rw [foldF_eq, foldR_eq, List.length_append, revs_len, List.append_assoc]
  rfl
theorem upd_at {l : List Cl} {fs : List Fl} {en : Int} {i : Nat} {x : Cl} (h : (updL l fs en)[i]? = some x) :
    (l[i]? = some x ∧ i < l.length) ∨ (∃ j y, i = l.length + j ∧ (rmL l fs)[j]? = some y ∧ x = ⟨(i : Int) + 1, y.n, en, opp y.fl⟩) ∨
    (∃ j f, i = l.length + (rmL l fs).length + j ∧ (frL l fs)[j]? = some f ∧ x = ⟨(i : Int) + 1, 0, en, f⟩) := by
  rw [updL_eq] at h
  by_cases h1 : i < l.length
  · rw [List.getElem?_append_left h1] at h
    exact .inl ⟨h, h1⟩
  · rw [List.getElem?_append_right (by omega)] at h
    by_cases h2 : i - l.length < (revL l fs en).length
    · rw [List.getElem?_append_left h2] at h
      obtain ⟨y, hy, rfl⟩ := revs_inv h
      exact .inr (.inl ⟨i - l.length, y, by omega, hy, by rw [show l.length + (i - l.length) = i by omega]⟩)
    · rw [List.getElem?_append_right (by omega)] at h
      obtain ⟨y, hy, rfl⟩ := news_inv h
      have e : (revL l fs en).length = (rmL l fs).length := revs_len _ _ _
      exact .inr (.inr ⟨i - l.length - (revL l fs en).length, y, by omega, hy, by rw [show l.length + (rmL l fs).length + (i - l.length - (revL l fs en).length) = i by omega]⟩)
theorem upd_ok {l : List Cl} {fs : List Fl} {en : Int} (h : updE l fs en = 0) : valid l = true ∧ flE fs = 0 ∧ 0 ≤ en ∧ en ≤ 1125899906842624 ∧ prevE l l.length ≤ en ∧ (updL l fs en).length ≤ 5000 := by
  unfold updE at h
  split at h
  · rename_i h1
    split at h
    · rename_i h2
      split at h
      · cases h
      · rename_i h3
        split at h
        · cases h
        · rename_i h4
          split at h
          · cases h
          · rename_i h5
            refine ⟨h1, h2, by omega, by omega, ?_, by omega⟩
            by_cases h0 : l.length = 0
            · rw [h0]; show (0 : Int) ≤ en; omega
            · omega
    · rename_i h2; exact absurd h h2
  · cases h
theorem upd_mk {l : List Cl} {fs : List Fl} {en : Int} (h1 : valid l = true) (h2 : flE fs = 0) (h3 : 0 ≤ en) (h4 : en ≤ 1125899906842624) (h5 : prevE l l.length ≤ en) (h6 : (updL l fs en).length ≤ 5000) : updE l fs en = 0 := by
  unfold updE
  rw [if_pos h1, if_pos h2, if_neg (by omega), if_neg (by omega), if_neg (by omega)]
theorem gone_no {L : List Cl} {k : Int} : gone L k = false ↔ ∀ y ∈ L, y.r ≠ k := by
  unfold gone
  rw [List.any_eq_false]
  simp
theorem gone_append (a b : List Cl) (k : Int) : gone (a ++ b) k = (gone a k || gone b k) := List.any_append
theorem rm_iff {op : List Cl} {c : Fl → Nat} {x : Cl} : ∀ {k : Nat}, x ∈ rm op c k ↔ ∃ i, i < k ∧ op[i]? = some x ∧ ¬ cntO (op.take i) x.fl < c x.fl
  | 0 => by simp [rm]
  | k + 1 => by
    have ih := rm_iff (op := op) (c := c) (x := x) (k := k)
    cases e : op[k]? with
    | none =>
      have : rm op c (k + 1) = rm op c k := by show (match op[k]? with | some x => _ | none => _) = _; rw [e]
      rw [this, ih]
      constructor
      · rintro ⟨i, a, b⟩; exact ⟨i, by omega, b⟩
      · rintro ⟨i, a, b, c'⟩
        refine ⟨i, ?_, b, c'⟩
        rcases Nat.lt_or_ge i k with h | h
        · exact h
        · obtain rfl : i = k := by omega
          rw [e] at b; cases b
    | some y =>
      by_cases hk : cntO (op.take k) y.fl < c y.fl
      · rw [rm_kept e hk, ih]
        constructor
        · rintro ⟨i, a, b⟩; exact ⟨i, by omega, b⟩
        · rintro ⟨i, a, b, c'⟩
          refine ⟨i, ?_, b, c'⟩
          rcases Nat.lt_or_ge i k with h | h
          · exact h
          · obtain rfl : i = k := by omega
            rw [e] at b
            obtain rfl := Option.some.inj b
            exact absurd hk c'
      · rw [rm_not e hk, List.mem_append, ih]
        constructor
        · rintro (⟨i, a, b⟩ | h)
          · exact ⟨i, by omega, b⟩
          · simp only [List.mem_cons, List.not_mem_nil, or_false] at h
            subst h
            exact ⟨k, by omega, e, hk⟩
        · rintro ⟨i, a, b, c'⟩
          rcases Nat.lt_or_ge i k with h | h
          · exact .inl ⟨i, h, b, c'⟩
          · obtain rfl : i = k := by omega
            rw [e] at b
            obtain rfl := Option.some.inj b
            exact .inr (by simp)
theorem rm_sub (op : List Cl) (c : Fl → Nat) : ∀ k, (rm op c k).Sublist (op.take k)
  | 0 => by simp [rm]
  | k + 1 => by
    have ih := rm_sub op c k
    rw [List.take_add_one]
    cases e : op[k]? with
    | none =>
      have : rm op c (k + 1) = rm op c k := by show (match op[k]? with | some x => _ | none => _) = _; rw [e]
      rw [this]
      simpa using ih
    | some y =>
      by_cases hk : cntO (op.take k) y.fl < c y.fl
      · rw [rm_kept e hk]
        exact ih.trans (List.sublist_append_left _ _)
      · rw [rm_not e hk]
        exact ih.append (List.Sublist.refl _)
theorem fr_mem {op : List Cl} {fs : List Fl} {f : Fl} : ∀ {k : Nat}, f ∈ fr op fs k → f ∈ fs
  | 0, h => by simp [fr] at h
  | k + 1, h => by
    cases e : fs[k]? with
    | none =>
      have : fr op fs (k + 1) = fr op fs k := by show (match fs[k]? with | some x => _ | none => _) = _; rw [e]
      rw [this] at h
      exact fr_mem h
    | some y =>
      by_cases hk : cntO op y ≤ cnt (fs.take k) y
      · rw [fr_new e hk, List.mem_append] at h
        rcases h with h | h
        · exact fr_mem h
        · simp only [List.mem_cons, List.not_mem_nil, or_false] at h
          subst h
          exact List.mem_of_getElem? e
      · rw [fr_old e hk] at h
        exact fr_mem h
theorem flE_one {f : Fl} : flE [f] = 0 ↔ flOk 0 f = true := by
  unfold flE
  rw [if_neg (by simp)]
  unfold flsOk flsOk
  rw [Bool.and_true]
  cases flOk 0 f <;> simp
theorem flOk_opp {f : Fl} (h : flOk 0 f = true) : flOk 0 (opp f) = true := by
  have e : decide (f.t = f.f) = decide (f.f = f.t) := by
    rw [decide_eq_decide]
    exact eq_comm
  unfold flOk at *
  show (nameB f.t && nameB f.f && nameB f.c && !decide (f.t = f.f) && decide ((0 : Int) ≤ f.d) && decide (f.d ≤ 99999) && decide (rchk f.a = 0) && !decide (f.a = zeroS) && plusB f.a) = true
  rw [e, Bool.and_comm (nameB f.t)]
  exact h
theorem flOk_low {p q : Int} {f : Fl} (h : flOk p f = true) (hq : q ≤ p) : flOk q f = true := by
  unfold flOk at *
  simp only [Bool.and_eq_true, decide_eq_true_iff, Bool.not_eq_true', decide_eq_false_iff_not] at *
  obtain ⟨⟨⟨⟨⟨⟨⟨⟨h1, h2⟩, h3⟩, h4⟩, h5⟩, h6⟩, h7⟩, h8⟩, h9⟩ := h
  exact ⟨⟨⟨⟨⟨⟨⟨⟨h1, h2⟩, h3⟩, h4⟩, by omega⟩, h6⟩, h7⟩, h8⟩, h9⟩
theorem flsOk_all : ∀ {l : List Fl} {p : Int}, 0 ≤ p → flsOk p l = true → ∀ f ∈ l, flOk 0 f = true
  | [], _, _, _, f, hf => by simp at hf
  | y :: r, p, hp, h, f, hf => by
    unfold flsOk at h
    rw [Bool.and_eq_true] at h
    rcases List.mem_cons.1 hf with rfl | hf
    · exact flOk_low h.1 hp
    · exact flsOk_all (by have := flOk_d h.1; omega) h.2 f hf
theorem rev_of {l : List Cl} {i : Nat} {x : Cl} (h : revOk l i x = true) : x.r = 0 ∨ (1 ≤ x.r ∧ x.r ≤ i ∧ gone (l.take i) x.r = false ∧ ∃ y, l[(x.r - 1).toNat]? = some y ∧ y.r = 0 ∧ y.fl = opp x.fl) := by
  unfold revOk at h
  rw [Bool.or_eq_true, decide_eq_true_iff] at h
  rcases h with h | h
  · exact .inl h
  · rw [Bool.and_eq_true, Bool.and_eq_true, Bool.and_eq_true, decide_eq_true_iff, decide_eq_true_iff, Bool.not_eq_true'] at h
    obtain ⟨⟨⟨h1, h2⟩, h3⟩, h4⟩ := h
    refine .inr ⟨h1, h2, h3, ?_⟩
    cases e : l[(x.r - 1).toNat]? with
    | none => rw [e] at h4; cases h4
    | some y =>
      rw [e] at h4
      simp only [Bool.and_eq_true, decide_eq_true_iff] at h4
      exact ⟨y, rfl, h4.1, h4.2⟩
theorem rev_mk {l : List Cl} {i : Nat} {x y : Cl} (h1 : 1 ≤ x.r) (h2 : x.r ≤ i) (h3 : gone (l.take i) x.r = false) (hy : l[(x.r - 1).toNat]? = some y) (h4 : y.r = 0) (h5 : y.fl = opp x.fl) : revOk l i x = true := by
  rw [revOk_near h1 h2 h3 hy, decide_eq_true h4, decide_eq_true h5]
  rfl
theorem valid_rev {l : List Cl} (h : valid l = true) {i : Nat} {x : Cl} (hx : l[i]? = some x) : x.r = 0 ∨ (1 ≤ x.r ∧ x.r ≤ i ∧ gone (l.take i) x.r = false ∧ ∃ y, l[(x.r - 1).toNat]? = some y ∧ y.r = 0 ∧ y.fl = opp x.fl) := by
  have := valid_at h hx
  rw [clOk_eq, Bool.and_eq_true] at this
  exact rev_of this.2
theorem cls_all {L : List Cl} : ∀ (r : List Cl) (k : Nat), clsOk L k r = true ↔ ∀ i x, r[i]? = some x → clOk L (k + i) x = true
  | [], k => by simp [clsOk]
  | y :: r, k => by
    unfold clsOk
    rw [Bool.and_eq_true, cls_all r (k + 1)]
    constructor
    · rintro ⟨h1, h2⟩ i x hx
      cases i with
      | zero =>
        simp only [List.getElem?_cons_zero, Option.some.injEq] at hx
        subst hx; exact h1
      | succ i =>
        rw [List.getElem?_cons_succ] at hx
        have := h2 i x hx
        rwa [show k + 1 + i = k + (i + 1) by omega] at this
    · intro h
      refine ⟨h 0 y rfl, fun i x hx => ?_⟩
      have := h (i + 1) x (by rw [List.getElem?_cons_succ]; exact hx)
      rwa [show k + (i + 1) = k + 1 + i by omega] at this
theorem valid_mk {L : List Cl} (h1 : L.length ≤ 5000) (h2 : ∀ i x, L[i]? = some x → clOk L i x = true) : valid L = true := by
  unfold valid
  rw [Bool.and_eq_true, decide_eq_true_iff]
  refine ⟨h1, (cls_all L 0).2 fun i x hx => ?_⟩
  rw [Nat.zero_add]
  exact h2 i x hx
theorem prevE_app (l m : List Cl) {i : Nat} (hi : i ≤ l.length) : prevE (l ++ m) i = prevE l i := by
  cases i with
  | zero => rfl
  | succ k =>
    show (match (l ++ m)[k]? with | some x => x.e | none => 0) = (match l[k]? with | some x => x.e | none => 0)
    rw [List.getElem?_append_left (by omega)]
theorem prevE_succ {L : List Cl} {k : Nat} {z : Cl} (h : L[k]? = some z) : prevE L (k + 1) = z.e := by
  show (match L[k]? with | some x => x.e | none => 0) = _
  rw [h]
theorem clOk_app {l m : List Cl} {i : Nat} {x : Cl} (hi : i < l.length) (h : clOk l i x = true) : clOk (l ++ m) i x = true := by
  rw [clOk_eq, Bool.and_eq_true] at *
  obtain ⟨h1, h2⟩ := h
  refine ⟨?_, ?_⟩
  · unfold c1B at *
    rw [prevE_app l m (by omega)]
    exact h1
  · rcases rev_of h2 with h | ⟨a1, a2, a3, y, a4, a5, a6⟩
    · exact revOk_zero h
    · refine rev_mk a1 a2 ?_ ?_ a5 a6
      · rw [List.take_append_of_le_length (by omega)]; exact a3
      · rw [List.getElem?_append_left (by omega)]; exact a4
theorem open_iff {l : List Cl} {x : Cl} : x ∈ openL l ↔ x ∈ l ∧ x.r = 0 ∧ gone l x.n = false := by
  unfold openL
  rw [List.mem_filter]
  unfold isOpen
  simp
/-- The numbers of claims to be reversed are apart. -/
theorem rm_apart {l : List Cl} (h : valid l = true) (fs : List Fl) {i j : Nat} {x y : Cl} (hx : (rmL l fs)[i]? = some x) (hy : (rmL l fs)[j]? = some y) (e : x.n = y.n) : i = j := by
  have hs : (rmL l fs).Sublist l := ((rm_sub _ _ _).trans (List.take_sublist _ _)).trans List.filter_sublist
  have hp : l.Pairwise fun a b => a.n < b.n := by
    rw [List.pairwise_iff_getElem]
    intro a b ha hb hab
    have h1 := valid_n h (List.getElem?_eq_getElem ha)
    have h2 := valid_n h (List.getElem?_eq_getElem hb)
    omega
  have hq := hp.sublist hs
  rw [List.pairwise_iff_getElem] at hq
  obtain ⟨hi, rfl⟩ := List.getElem?_eq_some_iff.1 hx
  obtain ⟨hj, rfl⟩ := List.getElem?_eq_some_iff.1 hy
  rcases Nat.lt_trichotomy i j with h | h | h
  · have := hq i j hi hj h; omega
  · exact h
  · have := hq j i hj hi h; omega
theorem rm_open {l : List Cl} {fs : List Fl} {x : Cl} (h : x ∈ rmL l fs) : x ∈ openL l := by
  obtain ⟨i, _, h, _⟩ := rm_iff.1 h
  exact List.mem_of_getElem? h
theorem open_at {l : List Cl} (h : valid l = true) {x : Cl} (hx : x ∈ openL l) : ∃ k : Nat, l[k]? = some x ∧ x.n = (k : Int) + 1 ∧ k < l.length ∧ x.r = 0 ∧ gone l x.n = false := by
  obtain ⟨h1, h2, h3⟩ := open_iff.1 hx
  obtain ⟨k, hk⟩ := List.getElem?_of_mem h1
  exact ⟨k, hk, valid_n h hk, (List.getElem?_eq_some_iff.1 hk).1, h2, h3⟩
theorem upd_prevE {l : List Cl} {fs : List Fl} {en : Int} (h : updE l fs en = 0) {i : Nat} (hi : l.length ≤ i) (hl : i ≤ (updL l fs en).length) : prevE (updL l fs en) i ≤ en := by
  obtain ⟨h1, h2, h3, h4, h5, h6⟩ := upd_ok h
  cases i with
  | zero => exact h3
  | succ k =>
    have hz : (updL l fs en)[k]? = some (updL l fs en)[k] := List.getElem?_eq_getElem (by omega)
    rw [prevE_succ hz]
    rcases upd_at hz with ⟨a, b⟩ | ⟨j, y, _, _, e⟩ | ⟨j, y, _, _, e⟩
    · rw [← prevE_succ a, show k + 1 = l.length by omega]; exact h5
    · rw [e]; exact Int.le_refl _
    · rw [e]; exact Int.le_refl _
/-- Claims are valid behind an update. -/
theorem valid_upd {l : List Cl} {fs : List Fl} {en : Int} (h : updE l fs en = 0) : valid (updL l fs en) = true := by
  obtain ⟨h1, h2, h3, h4, h5, h6⟩ := upd_ok h
  refine valid_mk h6 fun i x hx => ?_
  have hlt := (List.getElem?_eq_some_iff.1 hx).1
  rcases upd_at hx with ⟨a, b⟩ | ⟨j, y, e1, hy, rfl⟩ | ⟨j, f, e1, hf, rfl⟩
  · rw [updL_eq]
    exact clOk_app b (valid_at h1 a)
  · obtain ⟨k, hk, hn, hkl, hr, hg⟩ := open_at h1 (rm_open (List.mem_of_getElem? hy))
    have hfl := flE_one.1 (valid_flow h1 (List.mem_of_getElem? hk))
    have hp := upd_prevE h (i := i) (by omega) (by omega)
    rw [clOk_eq, Bool.and_eq_true]
    constructor
    · unfold c1B
      simp only [Bool.and_eq_true, decide_eq_true_iff]
      exact ⟨⟨⟨⟨trivial, h3⟩, h4⟩, hp⟩, flE_one.2 (flOk_opp hfl)⟩
    · refine rev_mk (y := y) ?_ ?_ ?_ ?_ hr rfl
      · show 1 ≤ y.n; omega
      · show y.n ≤ i; omega
      · show gone _ y.n = false
        rw [updL_eq, List.take_append, gone_append, List.take_of_length_le (by omega), hg, Bool.false_or, gone_no]
        intro z hz
        obtain ⟨m, hm⟩ := List.getElem?_of_mem hz
        rw [List.getElem?_take] at hm
        split at hm
        · rename_i hmi
          have hjl : j < (rmL l fs).length := (List.getElem?_eq_some_iff.1 hy).1
          rw [List.getElem?_append_left (by unfold revL; rw [revs_len]; omega)] at hm
          obtain ⟨y', hy', rfl⟩ := revs_inv hm
          intro e
          have := rm_apart h1 fs hy' hy e
          omega
        · cases hm
      · show (updL l fs en)[(y.n - 1).toNat]? = some y
        rw [updL_eq, List.getElem?_append_left (by omega), show (y.n - 1).toNat = k by omega]
        exact hk
  · have hfl := flsOk_all (Int.le_refl 0) (flE_len h2).2 f (fr_mem (List.mem_of_getElem? hf))
    have hp := upd_prevE h (i := i) (by omega) (by omega)
    rw [clOk_eq, Bool.and_eq_true]
    constructor
    · unfold c1B
      simp only [Bool.and_eq_true, decide_eq_true_iff]
      exact ⟨⟨⟨⟨trivial, h3⟩, h4⟩, hp⟩, flE_one.2 hfl⟩
    · exact revOk_zero rfl
/-- The open claims among the first k that are kept. -/
def km (op : List Cl) (c : Fl → Nat) : Nat → List Cl
  | 0 => []
  | k + 1 => match op[k]? with
    | some x => if cntO (op.take k) x.fl < c x.fl then km op c k ++ [x] else km op c k
    | none => km op c k
theorem km_kept {op : List Cl} {c : Fl → Nat} {k : Nat} {x : Cl} (h : op[k]? = some x) (h2 : cntO (op.take k) x.fl < c x.fl) : km op c (k + 1) = km op c k ++ [x] := by
  show (match op[k]? with | some x => _ | none => _) = _
  rw [h]
  exact if_pos h2
theorem km_not {op : List Cl} {c : Fl → Nat} {k : Nat} {x : Cl} (h : op[k]? = some x) (h2 : ¬ cntO (op.take k) x.fl < c x.fl) : km op c (k + 1) = km op c k := by
  show (match op[k]? with | some x => _ | none => _) = _
  rw [h]
  exact if_neg h2
theorem filter_km {op : List Cl} {c : Fl → Nat} (hA : Apart op) : ∀ k, k ≤ op.length → (op.take k).filter (fun x => !(rm op c op.length).any fun y => decide (y.n = x.n)) = km op c k
  | 0, _ => by simp [km]
  | k + 1, hk => by
    have ih := filter_km (c := c) hA k (by omega)
    have e : op[k]? = some op[k] := List.getElem?_eq_getElem (by omega)
    rw [List.take_add_one, e, List.filter_append, ih]
    by_cases h : cntO (op.take k) op[k].fl < c op[k].fl
    · rw [km_kept e h]
      congr 1
      simp only [Option.toList]
      rw [List.filter_cons_of_pos, List.filter_nil]
      rw [Bool.not_eq_true', List.any_eq_false]
      intro y hy hn
      obtain ⟨i, _, h1, h2⟩ := rm_iff.1 hy
      have := hA _ _ _ _ h1 e (of_decide_eq_true hn)
      subst this
      rw [e] at h1
      obtain rfl := Option.some.inj h1
      exact h2 h
    · rw [km_not e h]
      simp only [Option.toList]
      rw [List.filter_cons_of_neg, List.filter_nil, List.append_nil]
      intro hn
      rw [Bool.not_eq_true', List.any_eq_false] at hn
      exact hn op[k] (rm_iff.2 ⟨k, by omega, e, h⟩) (decide_eq_true rfl)
theorem cntO_snoc {op : List Cl} {k : Nat} {x : Cl} (h : op[k]? = some x) (f : Fl) : cntO (op.take (k + 1)) f = cntO (op.take k) f + (if x.fl = f then 1 else 0) := by
  unfold cntO
  rw [List.take_add_one, h, List.filter_append, List.length_append]
  congr 1
  by_cases e : x.fl = f
  · simp [e]
  · simp [e]
theorem cntO_app (a b : List Cl) (f : Fl) : cntO (a ++ b) f = cntO a f + cntO b f := by unfold cntO; rw [List.filter_append, List.length_append]
theorem cnt_app (a b : List Fl) (f : Fl) : cnt (a ++ b) f = cnt a f + cnt b f := by unfold cnt; rw [List.filter_append, List.length_append]
theorem cntO_one (x : Cl) (f : Fl) : cntO [x] f = if x.fl = f then 1 else 0 := by
  unfold cntO
  by_cases e : x.fl = f
  · simp [e]
  · simp [e]
theorem cnt_one (x : Fl) (f : Fl) : cnt [x] f = if x = f then 1 else 0 := by
  unfold cnt
  by_cases e : x = f
  · simp [e]
  · simp [e]
theorem cntO_km (op : List Cl) (c : Fl → Nat) (f : Fl) : ∀ k, k ≤ op.length → cntO (km op c k) f = min (cntO (op.take k) f) (c f)
  | 0, _ => by simp [km, cntO]
  | k + 1, hk => by
    have ih := cntO_km op c f k (by omega)
    have e : op[k]? = some op[k] := List.getElem?_eq_getElem (by omega)
    rw [cntO_snoc e f]
    by_cases h : cntO (op.take k) op[k].fl < c op[k].fl
    · rw [km_kept e h, cntO_app, cntO_one, ih]
      by_cases e2 : op[k].fl = f
      · rw [if_pos e2]; rw [e2] at h; omega
      · rw [if_neg e2]; omega
    · rw [km_not e h, ih]
      by_cases e2 : op[k].fl = f
      · rw [if_pos e2]; rw [e2] at h; omega
      · rw [if_neg e2]; omega
theorem cntO_rm (op : List Cl) (c : Fl → Nat) (f : Fl) : ∀ k, k ≤ op.length → cntO (rm op c k) f = cntO (op.take k) f - c f
  | 0, _ => by simp [rm, cntO]
  | k + 1, hk => by
    have ih := cntO_rm op c f k (by omega)
    have e : op[k]? = some op[k] := List.getElem?_eq_getElem (by omega)
    rw [cntO_snoc e f]
    by_cases h : cntO (op.take k) op[k].fl < c op[k].fl
    · rw [rm_kept e h, ih]
      by_cases e2 : op[k].fl = f
      · rw [if_pos e2]; rw [e2] at h; omega
      · rw [if_neg e2]; omega
    · rw [rm_not e h, cntO_app, cntO_one, ih]
      by_cases e2 : op[k].fl = f
      · rw [if_pos e2]; rw [e2] at h; omega
      · rw [if_neg e2]; omega
theorem cnt_fr (op : List Cl) (fs : List Fl) (f : Fl) : ∀ k, k ≤ fs.length → cnt (fr op fs k) f = cnt (fs.take k) f - cntO op f
  | 0, _ => by simp [fr, cnt]
  | k + 1, hk => by
    have ih := cnt_fr op fs f k (by omega)
    have e : fs[k]? = some fs[k] := List.getElem?_eq_getElem (by omega)
    rw [cnt_snoc e f]
    by_cases h : cntO op fs[k] ≤ cnt (fs.take k) fs[k]
    · rw [fr_new e h, cnt_app, cnt_one, ih]
      by_cases e2 : fs[k] = f
      · rw [if_pos e2]; rw [e2] at h; omega
      · rw [if_neg e2]; omega
    · rw [fr_old e h, ih]
      by_cases e2 : fs[k] = f
      · rw [if_pos e2]; rw [e2] at h; omega
      · rw [if_neg e2]; omega
theorem cntO_news (en : Int) (f : Fl) : ∀ (F : List Fl) (n : Nat), cntO (news en n F) f = cnt F f
  | [], n => rfl
  | y :: r, n => by
    have ih := cntO_news en f r (n + 1)
    have h1 : news en n (y :: r) = [⟨(n : Int) + 1, 0, en, y⟩] ++ news en (n + 1) r := rfl
    have h2 : y :: r = [y] ++ r := rfl
    rw [h1, h2, cntO_app, cnt_app, ih, cntO_one, cnt_one]
theorem gone_revs (en : Int) (k : Int) : ∀ (R : List Cl) (n : Nat), gone (revs en n R) k = R.any fun y => decide (y.n = k)
  | [], n => rfl
  | y :: r, n => by
    have ih := gone_revs en k r (n + 1)
    unfold gone at *
    rw [revs, List.any_cons, List.any_cons, ih]
theorem gone_news (en : Int) (k : Int) (hk : k ≠ 0) (R : List Fl) (n : Nat) : gone (news en n R) k = false := by
  rw [gone_no]
  intro y hy
  obtain ⟨i, hi⟩ := List.getElem?_of_mem hy
  obtain ⟨x, _, rfl⟩ := news_inv hi
  exact fun e => hk e.symm
theorem filter_none {α : Type} {p : α → Bool} {l : List α} (h : ∀ x ∈ l, p x = false) : l.filter p = [] := by
  rw [List.filter_eq_nil_iff]
  intro x hx
  rw [h x hx]
  exact Bool.false_ne_true
theorem filter_every {α : Type} {p : α → Bool} {l : List α} (h : ∀ x ∈ l, p x = true) : l.filter p = l := List.filter_eq_self.2 h
theorem gone_upd (l : List Cl) (fs : List Fl) (en : Int) (k : Int) (hk : k ≠ 0) : gone (updL l fs en) k = (gone l k || (rmL l fs).any fun y => decide (y.n = k)) := by
  rw [updL_eq, gone_append, gone_append]
  unfold revL newL
  rw [gone_revs, gone_news en k hk, Bool.or_false]
/-- Which claims are open behind an update. -/
theorem open_upd {l : List Cl} {fs : List Fl} {en : Int} (h : updE l fs en = 0) : openL (updL l fs en) = km (openL l) (cnt fs) (openL l).length ++ newL l fs en := by
  obtain ⟨h1, h2, h3, h4, h5, h6⟩ := upd_ok h
  have key : openL (updL l fs en) = (l ++ (revL l fs en ++ newL l fs en)).filter (isOpen (updL l fs en)) := by unfold openL; rw [← updL_eq]
  rw [key, List.filter_append, List.filter_append]
  have e1 : l.filter (isOpen (updL l fs en)) = km (openL l) (cnt fs) (openL l).length := by
    have := filter_km (c := cnt fs) (open_apart h1) (openL l).length (Nat.le_refl _)
    rw [List.take_length] at this
    rw [← this]
    show _ = (l.filter (isOpen l)).filter _
    rw [List.filter_filter]
    refine List.filter_congr fun x hx => ?_
    obtain ⟨k, hk⟩ := List.getElem?_of_mem hx
    have hn := valid_n h1 hk
    unfold isOpen
    rw [gone_upd l fs en x.n (by omega)]
    show _ = (!((rmL l fs).any fun y => decide (y.n = x.n)) && _)
    cases decide (x.r = 0) <;> cases gone l x.n <;> simp
  have e2 : (revL l fs en).filter (isOpen (updL l fs en)) = [] := by
    refine filter_none fun x hx => ?_
    obtain ⟨i, hi⟩ := List.getElem?_of_mem hx
    obtain ⟨y, hy, rfl⟩ := revs_inv hi
    obtain ⟨k, hk, hn, _⟩ := open_at h1 (rm_open (List.mem_of_getElem? hy))
    unfold isOpen
    rw [decide_eq_false (by show ¬ y.n = 0; omega)]
    rfl
  have e3 : (newL l fs en).filter (isOpen (updL l fs en)) = newL l fs en := by
    refine filter_every fun x hx => ?_
    obtain ⟨i, hi⟩ := List.getElem?_of_mem hx
    obtain ⟨y, hy, rfl⟩ := news_inv hi
    unfold isOpen
    rw [gone_upd l fs en _ (by show ¬ ((_ : Int) + 1 = 0); omega), decide_eq_true rfl]
    have g1 : gone l (((l.length + (rmL l fs).length + i : Nat) : Int) + 1) = false := by
      rw [gone_no]
      intro z hz e
      obtain ⟨k, hk⟩ := List.getElem?_of_mem hz
      have hkl := (List.getElem?_eq_some_iff.1 hk).1
      rcases valid_rev h1 hk with h | ⟨_, h, _⟩ <;> omega
    have g2 : ((rmL l fs).any fun y => decide (y.n = ((l.length + (rmL l fs).length + i : Nat) : Int) + 1)) = false := by
      rw [List.any_eq_false]
      intro z hz
      obtain ⟨k, hk, hn, hkl, _⟩ := open_at h1 (rm_open hz)
      simp only [decide_eq_true_eq]
      omega
    show (true && !(gone l (((l.length + (rmL l fs).length + i : Nat) : Int) + 1) || (rmL l fs).any fun y => decide (y.n = ((l.length + (rmL l fs).length + i : Nat) : Int) + 1))) = true
    rw [g1, g2]
    rfl
  rw [e1, e2, e3, List.nil_append]
/-- For each flow as many claims are open as the list has. -/
theorem open_cnt {l : List Cl} {fs : List Fl} {en : Int} (h : updE l fs en = 0) (f : Fl) : cntO (openL (updL l fs en)) f = cnt fs f := by
  rw [open_upd h, cntO_app, cntO_km _ _ _ _ (Nat.le_refl _), List.take_length]
  unfold newL frL
  rw [cntO_news, cnt_fr _ _ _ _ (Nat.le_refl _), List.take_length]
  omega
theorem open_perm {l : List Cl} {fs : List Fl} {en : Int} (h : updE l fs en = 0) : ((openL (updL l fs en)).map Cl.fl).Perm fs := by
  rw [List.perm_iff_count]
  intro f
  have := open_cnt h f
  have e1 : List.count f fs = cnt fs f := by
    unfold List.count cnt
    rw [List.countP_eq_length_filter]
    rfl
  have e2 : List.count f ((openL (updL l fs en)).map Cl.fl) = cntO (openL (updL l fs en)) f := by
    unfold List.count cntO
    rw [List.countP_map, List.countP_eq_length_filter]
    rfl
  rw [e1, e2, this]
/-- Updating again adds nothing. -/
theorem rm_none {op : List Cl} {c : Fl → Nat} (h : ∀ f, cntO op f = c f) (k : Nat) : rm op c k = [] := by
  rw [List.eq_nil_iff_forall_not_mem]
  intro x hx
  obtain ⟨i, _, h1, h2⟩ := rm_iff.1 hx
  have := rank_lt h1
  rw [h] at this
  exact h2 this
theorem cnt_lt {fs : List Fl} {k : Nat} {f : Fl} (h : fs[k]? = some f) : cnt (fs.take k) f < cnt fs f := by
  have h1 := cnt_snoc h f
  rw [if_pos rfl] at h1
  have h2 : cnt fs f = cnt (fs.take (k + 1)) f + cnt (fs.drop (k + 1)) f := by rw [← cnt_app, List.take_append_drop]
  omega
theorem fr_none {op : List Cl} {fs : List Fl} (h : ∀ f, cntO op f = cnt fs f) : ∀ k, fr op fs k = []
  | 0 => rfl
  | k + 1 => by
    have ih := fr_none h k
    cases e : fs[k]? with
    | none => show (match fs[k]? with | some x => _ | none => _) = _; rw [e]; exact ih
    | some y =>
      rw [fr_old e, ih]
      have := cnt_lt e
      rw [h]
      omega
theorem upd_again {l : List Cl} {fs : List Fl} {en later : Int} (h : updE l fs en = 0) : updL (updL l fs en) fs later = updL l fs en := by
  have hc := open_cnt h
  show (fr (openL (updL l fs en)) fs fs.length).foldl (addF later) ((rm (openL (updL l fs en)) (cnt fs) (openL (updL l fs en)).length).foldl (addR later) (updL l fs en)) = _
  rw [rm_none hc, fr_none hc]
  rfl
theorem updE_again {l : List Cl} {fs : List Fl} {en later : Int} (h : updE l fs en = 0) (h1 : en ≤ later) (h2 : later ≤ 1125899906842624) : updE (updL l fs en) fs later = 0 := by
  obtain ⟨a1, a2, a3, a4, a5, a6⟩ := upd_ok h
  refine upd_mk (valid_upd h) a2 (by omega) h2 ?_ (by rw [upd_again h]; exact a6)
  have := upd_prevE h (i := (updL l fs en).length) (by rw [updL_eq, List.length_append]; omega) (Nat.le_refl _)
  omega
end Z
end Go.Proofs.Ytdjghmpaopfboaa
/- Plain: nets in rationals; the net of claims is that of the open ones; what an update makes and undoes. -/

namespace Go.Proofs.Ytdjghmpaopfboaa
namespace Z
theorem add_fit {a b : ByteArray} (h : addE a b = 0) : Fit (rq a + rq b) := by
  unfold addE ropE at h
  split at h
  · rename_i hb
    obtain ⟨oa, ob⟩ := rbothE_ok hb
    split at h
    · rename_i hf
      unfold lAdd at hf
      rw [fit4] at hf
      simp at hf
      have hda : Z.rd a ≠ 0 := by have := oa.pos; omega
      have hdb : Z.rd b ≠ 0 := by have := ob.pos; omega
      rw [oa.self, ob.self, Rat.divInt_add_divInt _ _ hda hdb]
      exact fit_div hf.2.2.1 hf.2.2.2 (Int.mul_pos oa.pos ob.pos)
    · cases h
  · rename_i hb
    exact absurd h hb
theorem sub_fit {a b : ByteArray} (h : subE a b = 0) : Fit (rq a - rq b) := by
  unfold subE ropE at h
  split at h
  · rename_i hb
    obtain ⟨oa, ob⟩ := rbothE_ok hb
    split at h
    · rename_i hf
      unfold lSub at hf
      rw [fit4] at hf
      simp at hf
      have hda : Z.rd a ≠ 0 := by have := oa.pos; omega
      have hdb : Z.rd b ≠ 0 := by have := ob.pos; omega
      rw [oa.self, ob.self, Rat.divInt_sub_divInt _ _ hda hdb, show Z.rn a * Z.rd b - Z.rn b * Z.rd a = Z.rn a * Z.rd b + -(Z.rn b * Z.rd a) by omega]
      exact fit_div hf.2.2.1 hf.2.2.2 (Int.mul_pos oa.pos ob.pos)
    · cases h
  · rename_i hb
    exact absurd h hb
theorem rop_either {l : List Int} {a b : ByteArray} (h : rbothE a b = 0) : ropE l a b = 0 ∨ ropE l a b = 14 := by
  unfold ropE
  rw [if_pos h]
  cases fitL l
  · exact .inr rfl
  · exact .inl rfl
theorem add_cases {q : Rat} {a : ByteArray} (hq : Fit q) (ha : rchk a = 0) : (addE (Q q) a = 0 ∧ addS (Q q) a = Q (q + rq a) ∧ Fit (q + rq a)) ∨ addE (Q q) a = 14 := by
  have hb : rbothE (Q q) a = 0 := by unfold rbothE; rw [if_pos (rchk_Q hq)]; exact ha
  rcases rop_either (l := lAdd (Q q) a) hb with h | h
  · have h0 : addE (Q q) a = 0 := h
    have hf := add_fit h0
    rw [rq_Q] at hf
    refine .inl ⟨h0, ?_, hf⟩
    unfold addS ropS
    rw [if_pos h, rq_Q]
  · exact .inr h
theorem sub_cases {q : Rat} {a : ByteArray} (hq : Fit q) (ha : rchk a = 0) : (subE (Q q) a = 0 ∧ subS (Q q) a = Q (q - rq a) ∧ Fit (q - rq a)) ∨ subE (Q q) a = 14 := by
  have hb : rbothE (Q q) a = 0 := by unfold rbothE; rw [if_pos (rchk_Q hq)]; exact ha
  rcases rop_either (l := lSub (Q q) a) hb with h | h
  · have h0 : subE (Q q) a = 0 := h
    have hf := sub_fit h0
    rw [rq_Q] at hf
    refine .inl ⟨h0, ?_, hf⟩
    unfold subS ropS
    rw [if_pos h, rq_Q]
  · exact .inr h
/-- What a flow brings a party in a currency. -/
def val (p c : ByteArray) (f : Fl) : Rat := if f.c = c then (if f.t = p then rq f.a else if f.f = p then -rq f.a else 0) else 0
def netQ (p c : ByteArray) : List Fl → Rat
  | [] => 0
  | f :: r => val p c f + netQ p c r
theorem netQ_app (p c : ByteArray) : ∀ a b : List Fl, netQ p c (a ++ b) = netQ p c a + netQ p c b
  | [], b => by rw [List.nil_append, netQ, Rat.zero_add]
  | f :: r, b => by rw [List.cons_append, netQ, netQ_app p c r b, netQ, Rat.add_assoc]
theorem netQ_perm (p c : ByteArray) {a b : List Fl} (h : a.Perm b) : netQ p c a = netQ p c b := by
  induction h with
  | nil => rfl
  | cons x _ ih => rw [netQ, netQ, ih]
  | swap x y l => rw [netQ, netQ, netQ, netQ, ← Rat.add_assoc, ← Rat.add_assoc, Rat.add_comm (val p c y)]
  | trans _ _ ih1 ih2 => rw [ih1, ih2]
theorem netF_sum (p c : ByteArray) : ∀ (l : List Fl) (q : Rat), Fit q → (∀ f ∈ l, rchk f.a = 0) → netF p c (Q q) l = (Q (q + netQ p c l), 0) ∨ netF p c (Q q) l = (⟨#[]⟩, 14)
  | [], q, hq, _ => by rw [netQ, Rat.add_zero]; exact .inl rfl
  | f :: r, q, hq, ha => by
    have h1 := ha f (by simp)
    have h2 : ∀ g ∈ r, rchk g.a = 0 := fun g hg => ha g (by simp [hg])
    unfold netF
    rw [netQ, val]
    by_cases hc : f.c = c
    · rw [if_pos hc, if_pos hc]
      by_cases ht : f.t = p
      · rw [if_pos ht, if_pos ht]
        rcases add_cases hq h1 with ⟨e1, e2, e3⟩ | e
        · rw [if_pos e1, e2, ← Rat.add_assoc]
          exact netF_sum p c r _ e3 h2
        · rw [if_neg (by rw [e]; decide), e]
          exact .inr rfl
      · rw [if_neg ht, if_neg ht]
        by_cases hf : f.f = p
        · rw [if_pos hf, if_pos hf]
          rcases sub_cases hq h1 with ⟨e1, e2, e3⟩ | e
          · rw [if_pos e1, e2, ← Rat.add_assoc, ← Rat.sub_eq_add_neg]
            exact netF_sum p c r _ e3 h2
          · rw [if_neg (by rw [e]; decide), e]
            exact .inr rfl
        · rw [if_neg hf, if_neg hf, Rat.zero_add]
          exact netF_sum p c r q hq h2
    · rw [if_neg hc, if_neg hc, Rat.zero_add]
      exact netF_sum p c r q hq h2
theorem flOk_rchk {p : Int} {f : Fl} (h : flOk p f = true) : rchk f.a = 0 ∧ f.f ≠ f.t := by
  unfold flOk at h
  simp only [Bool.and_eq_true, decide_eq_true_iff, Bool.not_eq_true', decide_eq_false_iff_not] at h
  obtain ⟨⟨⟨⟨⟨⟨⟨⟨h1, h2⟩, h3⟩, h4⟩, h5⟩, h6⟩, h7⟩, h8⟩, h9⟩ := h
  exact ⟨h7, h4⟩
theorem val_opp (p c : ByteArray) {f : Fl} (h : f.f ≠ f.t) : val p c (opp f) = -val p c f := by
  unfold val opp
  simp only
  by_cases hc : f.c = c
  · rw [if_pos hc, if_pos hc]
    by_cases ht : f.t = p
    · have hf : ¬ f.f = p := fun e => h (e.trans ht.symm)
      rw [if_pos ht, if_neg hf, if_pos ht]
    · rw [if_neg ht, if_neg ht]
      by_cases hf : f.f = p
      · rw [if_pos hf, if_pos hf, Rat.neg_neg]
      · rw [if_neg hf, if_neg hf, Rat.neg_zero]
  · rw [if_neg hc, if_neg hc, Rat.neg_zero]
theorem netQ_split (p c : ByteArray) (t : Cl → Bool) : ∀ l : List Cl, netQ p c (l.map Cl.fl) = netQ p c ((l.filter t).map Cl.fl) + netQ p c ((l.filter fun x => !t x).map Cl.fl)
  | [] => by simp [netQ, Rat.zero_add]
  | x :: r => by
    have ih := netQ_split p c t r
    rw [List.map_cons, netQ, ih]
    cases h : t x with
    | true =>
      rw [List.filter_cons_of_pos h, List.filter_cons_of_neg (by simp [h]), List.map_cons, netQ, Rat.add_assoc]
    | false =>
      rw [List.filter_cons_of_neg (by simp [h]), List.filter_cons_of_pos (by simp [h]), List.map_cons, netQ, ← Rat.add_assoc, ← Rat.add_assoc, Rat.add_comm (val p c x.fl)]
theorem take_one {l : List Cl} {k : Nat} {x : Cl} (h : l[k]? = some x) : l.take (k + 1) = l.take k ++ [x] := by rw [List.take_add_one, h]; rfl
theorem mem_take {l : List Cl} {k : Nat} {y : Cl} (h : y ∈ l.take k) : ∃ i, i < k ∧ l[i]? = some y := by
  obtain ⟨i, hi⟩ := List.getElem?_of_mem h
  rw [List.getElem?_take] at hi
  split at hi
  · exact ⟨i, by assumption, hi⟩
  · cases hi
theorem isOpen_snoc (M : List Cl) (x y : Cl) : isOpen (M ++ [x]) y = (isOpen M y && !decide (x.r = y.n)) := by
  unfold isOpen
  rw [gone_append]
  have : gone [x] y.n = decide (x.r = y.n) := by simp [gone]
  rw [this]
  cases decide (y.r = 0) <;> cases gone M y.n <;> simp
/-- Reversals and what they reverse cancel. -/
theorem net_open {L : List Cl} (hv : valid L = true) (p c : ByteArray) : ∀ k, k ≤ L.length → netQ p c ((L.take k).map Cl.fl) = netQ p c ((openL (L.take k)).map Cl.fl)
  | 0, _ => by simp [openL]
  | k + 1, hk => by
    have ih := net_open hv p c k (by omega)
    have e : L[k]? = some L[k] := List.getElem?_eq_getElem (by omega)
    have hxn := valid_n hv e
    have hfl := (flOk_rchk (flE_one.1 (valid_flow hv (List.mem_of_getElem? e)))).2
    have hrev := valid_rev hv e
    generalize L[k] = x at *
    have hx0 : isOpen (L.take k ++ [x]) x = decide (x.r = 0) := by
      unfold isOpen
      have : gone (L.take k ++ [x]) x.n = false := by
        rw [gone_no]
        intro y hy
        rw [← take_one e] at hy
        obtain ⟨i, hi, h2⟩ := mem_take hy
        rcases valid_rev hv h2 with h | ⟨_, h, _⟩ <;> omega
      rw [this]
      simp
    have hop : openL (L.take (k + 1)) = (openL (L.take k)).filter (fun y => !decide (x.r = y.n)) ++ (if x.r = 0 then [x] else []) := by
      rw [take_one e]
      unfold openL
      rw [List.filter_append]
      congr 1
      · rw [List.filter_filter]
        refine List.filter_congr fun y _ => ?_
        rw [isOpen_snoc, Bool.and_comm]
      · by_cases h0 : x.r = 0
        · rw [if_pos h0, List.filter_cons_of_pos (by rw [hx0, decide_eq_true h0]), List.filter_nil]
        · rw [if_neg h0, List.filter_cons_of_neg (by rw [hx0, decide_eq_false h0]; exact Bool.false_ne_true), List.filter_nil]
    rw [hop, take_one e, List.map_append, netQ_app, ih, List.map_append, netQ_app]
    by_cases h0 : x.r = 0
    · rw [if_pos h0, filter_every]
      intro y hy
      obtain ⟨i, hi, h2⟩ := mem_take (List.mem_filter.1 hy).1
      have := valid_n hv h2
      rw [decide_eq_false (by omega)]
      rfl
    · rcases hrev with h | ⟨r1, r2, r3, y, r4, r5, r6⟩
      · exact absurd h h0
      · have hyk : (x.r - 1).toNat < k := by omega
        have hyn := valid_n hv r4
        have hone : (openL (L.take k)).filter (fun z => decide (x.r = z.n)) = [y] := by
          unfold openL
          rw [List.filter_filter]
          have e2 : (L.take k)[(x.r - 1).toNat]? = some y := by rw [List.getElem?_take, if_pos hyk]; exact r4
          obtain ⟨hlt, hye⟩ := List.getElem?_eq_some_iff.1 e2
          have e3 : L.take k = (L.take k).take (x.r - 1).toNat ++ y :: (L.take k).drop ((x.r - 1).toNat + 1) := by
            rw [← hye, ← List.drop_eq_getElem_cons hlt, List.take_append_drop]
          have hnum : ∀ (i : Nat) (z : Cl), (L.take k)[i]? = some z → z.n = (i : Int) + 1 := by
            intro i z hz
            rw [List.getElem?_take] at hz
            split at hz
            · exact valid_n hv hz
            · cases hz
          have f1 : ((L.take k).take (x.r - 1).toNat).filter (fun a => decide (x.r = a.n) && isOpen (L.take k) a) = [] := by
            refine filter_none fun z hz => ?_
            obtain ⟨i, hi, h2⟩ := mem_take hz
            have := hnum i z h2
            rw [decide_eq_false (by omega)]
            rfl
          have f2 : ((L.take k).drop ((x.r - 1).toNat + 1)).filter (fun a => decide (x.r = a.n) && isOpen (L.take k) a) = [] := by
            refine filter_none fun z hz => ?_
            obtain ⟨i, hi⟩ := List.getElem?_of_mem hz
            rw [List.getElem?_drop] at hi
            have := hnum _ z hi
            rw [decide_eq_false (by omega)]
            rfl
          have f3 : (decide (x.r = y.n) && isOpen (L.take k) y) = true := by
            unfold isOpen
            rw [show y.n = x.r by omega, r3, r5]
            simp
          have f4 : (L.take k).filter (fun a => decide (x.r = a.n) && isOpen (L.take k) a) = ((L.take k).take (x.r - 1).toNat ++ y :: (L.take k).drop ((x.r - 1).toNat + 1)).filter (fun a => decide (x.r = a.n) && isOpen (L.take k) a) := by rw [← e3]
          rw [f4, List.filter_append, List.filter_cons_of_pos (p := fun a => decide (x.r = a.n) && isOpen (L.take k) a) f3, f1, f2]
          rfl
        have hs := netQ_split p c (fun z => decide (x.r = z.n)) (openL (L.take k))
        rw [hone] at hs
        have hvo := val_opp p c hfl
        rw [hs, if_neg h0]
        have e5 : netQ p c ([y].map Cl.fl) = -val p c x.fl := by
          rw [List.map_cons, List.map_nil, netQ, netQ, Rat.add_zero, r6, hvo]
        have e6 : netQ p c ([x].map Cl.fl) = val p c x.fl := by
          rw [List.map_cons, List.map_nil, netQ, netQ, Rat.add_zero]
        have e7 : netQ p c (([] : List Cl).map Cl.fl) = 0 := rfl
        rw [e5, e6, e7, Rat.add_zero, Rat.add_comm (-val p c x.fl), Rat.add_assoc, Rat.neg_add_cancel, Rat.add_zero]
theorem net_upd {l : List Cl} {fs : List Fl} {en : Int} (h : updE l fs en = 0) (p c : ByteArray) : netQ p c ((updL l fs en).map Cl.fl) = netQ p c fs := by
  have := net_open (valid_upd h) p c _ (Nat.le_refl _)
  rw [List.take_length] at this
  rw [this, netQ_perm p c (open_perm h)]
/-- What meaning.Net answers. -/
def mnetR (fs : List Fl) (p c : ByteArray) : ByteArray × Int := if flE fs = 0 then (if nameB p = true then (if nameB c = true then netF p c zeroS fs else (⟨#[]⟩, 2)) else (⟨#[]⟩, 2)) else (⟨#[]⟩, flE fs)
theorem zero_Q : zeroS = Q 0 := by decide
theorem fit_zero : Fit 0 := by unfold Fit; decide
theorem upd_rchk {l : List Cl} (h : valid l = true) : ∀ f ∈ l.map Cl.fl, rchk f.a = 0 := by
  intro f hf
  obtain ⟨x, hx, rfl⟩ := List.mem_map.1 hf
  exact (flOk_rchk (flE_one.1 (valid_flow h hx))).1
theorem nets_upd {l : List Cl} {fs : List Fl} {en : Int} (h : updE l fs en = 0) (p c : ByteArray) :
    (netR (updL l fs en) p c).2 = 14 ∨ (mnetR fs p c).2 = 14 ∨ netR (updL l fs en) p c = mnetR fs p c := by
  obtain ⟨h1, h2, _⟩ := upd_ok h
  have hv := valid_upd h
  unfold netR mnetR
  rw [if_pos hv, if_pos h2]
  by_cases np : nameB p = true
  · rw [if_pos np, if_pos np]
    by_cases nc : nameB c = true
    · rw [if_pos nc, if_pos nc, zero_Q]
      rcases netF_sum p c _ 0 fit_zero (upd_rchk hv) with e1 | e1
      · rcases netF_sum p c fs 0 fit_zero (fun f hf => (flOk_rchk (flsOk_all (Int.le_refl 0) (flE_len h2).2 f hf)).1) with e2 | e2
        · rw [e1, e2, net_upd h]
          exact .inr (.inr rfl)
        · rw [e2]; exact .inr (.inl rfl)
      · rw [e1]; exact .inl rfl
    · rw [if_neg nc, if_neg nc]; exact .inr (.inr rfl)
  · rw [if_neg np, if_neg np]; exact .inr (.inr rfl)
/-- Without flows every net is zero. -/
theorem nets_none {l : List Cl} {en : Int} (h : updE l [] en = 0) (p c : ByteArray) :
    (netR (updL l [] en) p c = (zeroS, 0)) ∨ (netR (updL l [] en) p c = (⟨#[]⟩, 2)) ∨ (netR (updL l [] en) p c = (⟨#[]⟩, 14)) := by
  have hv := valid_upd h
  unfold netR
  rw [if_pos hv]
  by_cases np : nameB p = true
  · rw [if_pos np]
    by_cases nc : nameB c = true
    · rw [if_pos nc, zero_Q]
      rcases netF_sum p c _ 0 fit_zero (upd_rchk hv) with e1 | e1
      · rw [e1, net_upd h, netQ, Rat.add_zero]
        exact .inl rfl
      · rw [e1]; exact .inr (.inr rfl)
    · rw [if_neg nc]; exact .inr (.inl rfl)
  · rw [if_neg np]; exact .inr (.inl rfl)
/-- Claims that an update makes, and that it undoes, for a flow. -/
def madeC (M : List Cl) (f : Fl) : Nat := (M.filter fun y => decide (y.r = 0) && decide (y.fl = f)).length
def undC (M : List Cl) (f : Fl) : Nat := (M.filter fun y => !decide (y.r = 0) && decide (y.fl = opp f)).length
theorem madeC_app (a b : List Cl) (f : Fl) : madeC (a ++ b) f = madeC a f + madeC b f := by unfold madeC; rw [List.filter_append, List.length_append]
theorem undC_app (a b : List Cl) (f : Fl) : undC (a ++ b) f = undC a f + undC b f := by unfold undC; rw [List.filter_append, List.length_append]
theorem opp_inj {x y : Fl} : opp x = opp y ↔ x = y := ⟨fun h => by rw [← opp_opp x, h, opp_opp], fun h => by rw [h]⟩
theorem made_news (en : Int) (f : Fl) (F : List Fl) (n : Nat) : madeC (news en n F) f = cnt F f ∧ undC (news en n F) f = 0 := by
  have hr : ∀ y ∈ news en n F, y.r = 0 := by
    intro y hy
    obtain ⟨i, hi⟩ := List.getElem?_of_mem hy
    obtain ⟨x, _, rfl⟩ := news_inv hi
    rfl
  constructor
  · rw [← cntO_news en f F n]
    unfold madeC cntO
    congr 1
    refine List.filter_congr fun y hy => ?_
    rw [hr y hy]
    rfl
  · unfold undC
    rw [filter_none]
    · rfl
    · intro y hy
      rw [hr y hy]
      rfl
theorem made_revs (en : Int) (f : Fl) : ∀ (R : List Cl) (n : Nat), (∀ x ∈ R, x.n ≠ 0) → madeC (revs en n R) f = 0 ∧ undC (revs en n R) f = cntO R f
  | [], n, _ => ⟨rfl, rfl⟩
  | x :: r, n, h => by
    obtain ⟨i1, i2⟩ := made_revs en f r (n + 1) (fun y hy => h y (by simp [hy]))
    have hx := h x (by simp)
    have e1 : revs en n (x :: r) = [⟨(n : Int) + 1, x.n, en, opp x.fl⟩] ++ revs en (n + 1) r := rfl
    have e2 : x :: r = [x] ++ r := rfl
    rw [e1, e2, madeC_app, undC_app, cntO_app, i1, i2]
    constructor
    · unfold madeC
      rw [List.filter_cons_of_neg (by simp [hx])]
      rfl
    · rw [cntO_one]
      unfold undC
      by_cases e : x.fl = f
      · rw [List.filter_cons_of_pos (by simp [hx, e]), if_pos e]
        rfl
      · rw [List.filter_cons_of_neg (by simp [hx, opp_inj, e]), if_neg e]
        rfl
theorem little {l : List Cl} {fs : List Fl} {en : Int} (h : updE l fs en = 0) (f : Fl) :
    madeC ((updL l fs en).drop l.length) f = cnt fs f - cntO (openL l) f ∧ undC ((updL l fs en).drop l.length) f = cntO (openL l) f - cnt fs f := by
  obtain ⟨h1, _⟩ := upd_ok h
  have hn : ∀ x ∈ rmL l fs, x.n ≠ 0 := fun x hx => by obtain ⟨k, _, hk, _⟩ := open_at h1 (rm_open hx); omega
  rw [updL_eq, List.drop_left]
  unfold revL newL
  obtain ⟨a1, a2⟩ := made_revs en f (rmL l fs) l.length hn
  obtain ⟨b1, b2⟩ := made_news en f (frL l fs) (l.length + (rmL l fs).length)
  rw [madeC_app, undC_app, a1, a2, b1, b2]
  unfold rmL frL
  rw [cntO_rm _ _ _ _ (Nat.le_refl _), cnt_fr _ _ _ _ (Nat.le_refl _), List.take_length, List.take_length]
  omega
end Z
end Go.Proofs.Ytdjghmpaopfboaa
