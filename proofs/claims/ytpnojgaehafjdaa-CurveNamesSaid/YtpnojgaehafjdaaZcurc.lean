/- Plain: the laws of curves: what is built is valid, and its quotes are repriced. -/
import Derived.Test.YtpnojgaehafjdaaZcurb
namespace Go.Proofs.Ytpnojgaehafjdaa
namespace Z
theorem endK_snoc : ∀ (l : List Pt) (d : Int) (f : ByteArray) (p : Pt), endK d f (l ++ [p]) = (p.d, p.f)
  | [], _, _, _ => rfl
  | _ :: r, _, _, p => endK_snoc r _ _ p
theorem endK_ge : ∀ (l : List Pt) (a : Int) (f : ByteArray), ptsE a l = 0 → a ≤ (endK a f l).1
  | [], _, _, _ => Int.le_refl _
  | p :: r, a, f, h => by
    obtain ⟨_, h2, _, _, h5⟩ := ptsE_cons h
    have := endK_ge r p.d p.f h5
    unfold endK
    omega
theorem endK_le : ∀ (l : List Pt) (a : Int) (f : ByteArray), ptsE a l = 0 → a ≤ 99999 → (endK a f l).1 ≤ 99999
  | [], _, _, _, h => h
  | p :: r, _, _, h, _ => endK_le r p.d p.f (ptsE_cons h).2.2.2.2 (ptsE_cons h).1.2
theorem endK_chk : ∀ (l : List Pt) (a : Int) (f : ByteArray), ptsE a l = 0 → rchk f = 0 → posB f = true → rchk (endK a f l).2 = 0 ∧ posB (endK a f l).2 = true
  | [], _, _, _, h, g => ⟨h, g⟩
  | p :: r, _, _, h, _, _ => endK_chk r p.d p.f (ptsE_cons h).2.2.2.2 (ptsE_cons h).2.2.1 (ptsE_cons h).2.2.2.1
theorem ptsE_snoc : ∀ (l : List Pt) (a : Int) (f : ByteArray) (p : Pt), ptsE a l = 0 → 0 ≤ p.d → p.d ≤ 99999 → (endK a f l).1 < p.d → rchk p.f = 0 → posB p.f = true → ptsE a (l ++ [p]) = 0
  | [], a, f, p, _, h1, h2, h3, h4, h5 => ptsE_ok h1 h2 h3 h4 h5
  | q :: r, a, f, p, h, h1, h2, h3, h4, h5 => by
    obtain ⟨g1, g2, g3, g4, g5⟩ := ptsE_cons h
    rw [List.cons_append, ptsE_ok g1.1 g1.2 g2 g3 g4]
    exact ptsE_snoc r q.d q.f p g5 h1 h2 h3 h4 h5
theorem facR_pre : ∀ (l m : List Pt) (day a : Int) (f : ByteArray) (x : Rat), a < day → day ≤ (endK a f l).1 → facR day a x (l ++ m) = facR day a x l
  | [], m, day, a, f, x, h1, h2 => by
    have h2 : day ≤ a := h2
    omega
  | p :: r, m, day, a, f, x, h1, h2 => by
    rw [List.cons_append]
    unfold facR
    by_cases h3 : p.d = day
    · rw [if_pos h3, if_pos h3]
    · rw [if_neg h3, if_neg h3]
      by_cases h4 : day < p.d
      · rw [if_pos h4, if_pos h4]
      · rw [if_neg h4, if_neg h4]
        exact facR_pre r m day p.d p.f _ (by omega) h2
theorem facR_past : ∀ (l m : List Pt) (day a : Int) (f : ByteArray), ptsE a l = 0 → (endK a f l).1 < day → facR day a (rq f) (l ++ m) = facR day (endK a f l).1 (rq (endK a f l).2) m
  | [], m, day, a, f, _, _ => rfl
  | p :: r, m, day, a, f, h, h2 => by
    obtain ⟨_, _, _, _, g5⟩ := ptsE_cons h
    have h2 : (endK p.d p.f r).1 < day := h2
    have h3 := endK_ge r p.d p.f g5
    rw [List.cons_append]
    conv => lhs; unfold facR
    rw [if_neg (by omega), if_neg (by omega)]
    exact facR_past r m day p.d p.f g5 h2
theorem rq_49 : rq z49 = 1 := by
  have : z49 = Q 1 := Q_1.symm
  rw [this, rq_Q]
theorem chk_49 : rchk z49 = 0 ∧ posB z49 = true := by
  refine ⟨?_, by decide +kernel⟩
  have : z49 = Q 1 := Q_1.symm
  rw [this]; exact rchk_Q fit_one
theorem divInt_same {n : Int} (h : n ≠ 0) : Rat.divInt n n = 1 := by
  rw [Rat.divInt_eq_div]
  have : (n : Rat) ≠ 0 := by
    intro h0
    apply h
    have := congrArg Rat.num h0
    rw [Rat.num_intCast] at this
    exact this
  grind
/-- The factor behind a new point: as it was up to the last knot, on the line from there to the new point. -/
theorem facQ_new {c : Cu} {L : Int} {x : ByteArray} {post : List Pt} {d : Int} (hc : cuE c = 0) (h1 : c.base ≤ d) (h2 : d ≤ L) : facQ ⟨c.base, c.pts ++ ⟨L, x⟩ :: post⟩ d = newF c (rq c.endK.2) L (rq x) d := by
  obtain ⟨_, hb, hp⟩ := cuE_ok hc
  unfold newF facQ
  have hge := endK_ge c.pts c.base z49 hp
  by_cases h3 : d = c.base
  · rw [if_pos h3, if_pos (by subst h3; exact hge), if_pos h3]
  · rw [if_neg h3]
    by_cases h4 : d ≤ c.endK.1
    · rw [if_pos h4, if_neg h3]
      show facR d c.base 1 (c.pts ++ ⟨L, x⟩ :: post) = facR d c.base 1 c.pts
      exact facR_pre _ _ _ _ z49 _ (by have h3 : ¬ d = c.base := h3; omega) h4
    · rw [if_neg h4]
      show facR d c.base 1 (c.pts ++ ⟨L, x⟩ :: post) = _
      rw [← rq_49, facR_past _ _ _ _ _ hp (by have : ¬ d ≤ (Z.endK c.base z49 c.pts).1 := h4; omega)]
      show (if L = d then rq x else if d < L then rq c.endK.2 + (rq x - rq c.endK.2) * Rat.divInt (d - c.endK.1) (L - c.endK.1) else _) = _
      by_cases h5 : L = d
      · subst h5
        rw [if_pos rfl, divInt_same (by omega)]
        grind
      · rw [if_neg h5, if_pos (by omega)]
/-! Quotes. -/
theorem datesB_facts : ∀ (l : List Int) (last : Int), datesB last l = true → (∀ d ∈ l, last < d ∧ 0 ≤ d ∧ d ≤ 99999 ∧ d ≤ l.getLastD 0) ∧ (l ≠ [] → l.getLastD 0 ∈ l)
  | [], _, _ => ⟨fun d hd => (by cases hd), fun h => absurd rfl h⟩
  | [x], last, h => by
    unfold datesB dayB at h
    simp at h
    refine ⟨fun d hd => ?_, fun _ => by simp⟩
    rw [List.mem_singleton] at hd
    subst hd
    simp
    omega
  | x :: y :: r, last, h => by
    unfold datesB dayB at h
    simp at h
    obtain ⟨⟨⟨h1, h2⟩, h3⟩, h4⟩ := h
    obtain ⟨ih1, ih2⟩ := datesB_facts (y :: r) x h4
    have e : (x :: y :: r).getLastD 0 = (y :: r).getLastD 0 := by simp
    rw [e]
    refine ⟨fun d hd => ?_, fun _ => List.mem_cons_of_mem _ (ih2 (by simp))⟩
    rcases List.mem_cons.1 hd with rfl | hd
    · have := (ih1 _ (ih2 (by simp)))
      omega
    · have := ih1 d hd
      omega
theorem qt_ok {q : Qt} {base : Int} (h : qtE q base = 0) : q.dates.length ≤ 40 ∧ (0 ≤ base ∧ base ≤ 99999) ∧ 0 < q.dates.length ∧ q.parts.length = q.dates.length ∧ rchk q.rate = 0 ∧ datesB base q.dates = true ∧ ∀ p ∈ q.parts, rchk p = 0 := by
  unfold qtE at h
  split at h
  · cases h
  · split at h
    · rename_i h1 h2
      unfold Qt.ok dayB at h2
      simp only [Bool.and_eq_true, decide_eq_true_eq, List.all_eq_true] at h2
      obtain ⟨⟨⟨⟨⟨⟨a1, a2⟩, a3⟩, a4⟩, a5⟩, a6⟩, a7⟩ := h2
      exact ⟨by omega, ⟨a1, a2⟩, a3, a4, a5, a6, a7⟩
    · cases h
theorem qt_last {q : Qt} {base : Int} (h : qtE q base = 0) : base < q.last ∧ 0 ≤ q.last ∧ q.last ≤ 99999 ∧ ∀ d ∈ q.dates, base < d ∧ d ≤ q.last := by
  obtain ⟨_, _, h1, _, _, h2, _⟩ := qt_ok h
  obtain ⟨f1, f2⟩ := datesB_facts _ _ h2
  have hm := f2 (by intro e; rw [e] at h1; cases h1)
  have := f1 _ hm
  exact ⟨this.1, this.2.1, this.2.2.1, fun d hd => ⟨(f1 d hd).1, (f1 d hd).2.2.2⟩⟩
theorem qt_legs {q : Qt} {base : Int} (h : qtE q base = 0) : ∀ l ∈ q.legs, (base < l.1 ∧ l.1 ≤ q.last ∧ rchk l.2 = 0) := by
  intro l hl
  obtain ⟨_, _, _, _, _, _, h2⟩ := qt_ok h
  have h3 := List.of_mem_zip (show (l.1, l.2) ∈ q.dates.zip q.parts from hl)
  have := (qt_last h).2.2.2 _ h3.1
  exact ⟨this.1, this.2, h2 _ h3.2⟩
/-! What is built. -/
theorem nextEnd_ok {s : Nx} {x : ByteArray} (h : nextEnd s = (x, 0)) : s.e = 0 ∧ s.b ≠ z48 ∧ (cOp subP 0 z48 s.a).2 = 0 ∧ (divP (cOp subP 0 z48 s.a).1 s.b) = (x, 0) ∧ posB x = true ∧ rchk x = 0 := by
  unfold nextEnd at h
  split at h
  · simp at h
  · rename_i hb
    simp only at h
    split at h
    · rename_i h2
      split at h
      · rename_i h3
        injection h with h4 _
        have e1 : (cOp subP s.e z48 s.a).2 = 0 := by
          by_cases e : (cOp subP s.e z48 s.a).2 = 0
          · exact e
          · rw [cOp_err _ e] at h2; exact h2
        have e0 : s.e = 0 := by
          by_cases e : s.e = 0
          · exact e
          · rw [cOp_err _ e] at e1; exact e1
        rw [e0] at e1 h2 h3 h4
        rw [e1, cOp_ok] at h2 h3 h4
        refine ⟨e0, fun hz => hb ⟨e0, hz⟩, e1, ?_, ?_, ?_⟩
        · exact Prod.ext h4 h2
        · rw [← h4]; exact h3
        · rw [← h4, (div_ex h2).1]; exact rchk_Q (div_ex h2).2.1
      · simp at h
    · rename_i h2
      injection h with _ h4
      exact absurd h4 h2
theorem nextR_ok {c : Cu} {q : Qt} {x : ByteArray} (h : nextR c q = (x, 0)) : posB x = true ∧ rchk x = 0 := ⟨(nextEnd_ok h).2.2.2.2.1, (nextEnd_ok h).2.2.2.2.2⟩
/-- A valid curve with a quote's point is valid. -/
theorem cu_snoc {c : Cu} {q : Qt} {x : ByteArray} (hc : cuE c = 0) (hn : c.pts.length < 100) (hq : qtE q c.base = 0) (hl : c.endK.1 < q.last) (hx : nextR c q = (x, 0)) : cuE ⟨c.base, c.pts ++ [⟨q.last, x⟩]⟩ = 0 ∧ Cu.endK ⟨c.base, c.pts ++ [⟨q.last, x⟩]⟩ = (q.last, x) := by
  obtain ⟨_, hb, hp⟩ := cuE_ok hc
  obtain ⟨h1, h2, h3, _⟩ := qt_last hq
  obtain ⟨p1, p2⟩ := nextR_ok hx
  refine ⟨?_, endK_snoc _ _ _ _⟩
  unfold cuE
  rw [if_neg (by simp; omega), if_pos (by unfold dayB; simp [hb])]
  exact ptsE_snoc _ _ z49 _ hp h2 h3 hl p2 p1
/-- What a bootstrap from a valid curve on has made. -/
theorem build_facts : ∀ (l : List Qt) (c c' : Cu), cuE c = 0 → c.pts.length + l.length ≤ 100 → (∀ q ∈ l, qtE q c.base = 0) → ascQ c.endK.1 l = true → build c l = (c', 0) →
    cuE c' = 0 ∧ ∃ news, c' = ⟨c.base, c.pts ++ news⟩ ∧ news.length = l.length ∧ ∀ (i : Nat) (q : Qt), l[i]? = some q → ∃ x, news[i]? = some ⟨q.last, x⟩ ∧ cuE ⟨c.base, c.pts ++ news.take i⟩ = 0 ∧ (Cu.endK ⟨c.base, c.pts ++ news.take i⟩).1 < q.last ∧ nextR ⟨c.base, c.pts ++ news.take i⟩ q = (x, 0)
  | [], c, c', hc, _, _, _, h => by
    injection h with h _
    subst h
    exact ⟨hc, [], by simp, rfl, fun i q hq => by simp at hq⟩
  | q :: r, c, c', hc, hn, hq, ha, h => by
    unfold build at h
    split at h
    · rename_i h0
      unfold ascQ at ha
      simp only [Bool.and_eq_true, decide_eq_true_eq] at ha
      have hx : nextR c q = ((nextR c q).1, 0) := by rw [← h0]
      simp only [List.length_cons] at hn
      obtain ⟨s1, s2⟩ := cu_snoc hc (by omega) (hq q (List.mem_cons_self ..)) ha.1 hx
      obtain ⟨r1, news, r2, r3, r4⟩ := build_facts r _ c' s1 (by simp; omega) (fun k hk => hq k (List.mem_cons_of_mem _ hk)) (by rw [s2]; exact ha.2) h
      refine ⟨r1, ⟨q.last, (nextR c q).1⟩ :: news, by rw [r2]; simp, by simp [r3], fun i k hk => ?_⟩
      cases i with
      | zero =>
        simp only [List.getElem?_cons_zero, Option.some.injEq] at hk
        subst hk
        refine ⟨_, rfl, ?_⟩
        simp only [List.take_zero, List.append_nil]
        exact ⟨hc, ha.1, hx⟩
      | succ j =>
        rw [List.getElem?_cons_succ] at hk
        obtain ⟨x, g1, g2, g3, g4⟩ := r4 j k hk
        simp only [List.append_assoc, List.cons_append, List.nil_append] at g2 g3 g4
        exact ⟨x, by rw [List.getElem?_cons_succ]; exact g1, g2, g3, g4⟩
    · rename_i h0
      injection h with _ h2
      exact absurd h2 h0
theorem qts_ok : ∀ (l : List Qt) (base : Int), qtsE base l = 0 → ∀ q ∈ l, qtE q base = 0
  | [], _, _, q, hq => by cases hq
  | x :: r, base, h, q, hq => by
    unfold qtsE at h
    split at h
    · rename_i h0
      rcases List.mem_cons.1 hq with rfl | hq
      · exact h0
      · exact qts_ok r base h q hq
    · rename_i h0
      exact absurd h h0
theorem build_err : ∀ (l : List Qt) (c : Cu), (build c l).2 ≠ 0 → (build c l).1 = ⟨0, []⟩
  | [], c, h => absurd rfl h
  | q :: r, c, h => by
    unfold build at h ⊢
    split
    · rename_i h0
      rw [if_pos h0] at h
      exact build_err r _ h
    · rfl
theorem boot_err {base : Int} {l : List Qt} (h : (bootR base l).2 ≠ 0) : (bootR base l).1 = ⟨0, []⟩ := by
  unfold bootR at h ⊢
  split
  · rename_i h1
    rw [if_pos h1] at h
    split
    · rfl
    · rename_i h2
      rw [if_neg h2] at h
      split
      · rename_i h3
        rw [if_pos h3] at h
        split
        · rename_i h4
          rw [if_pos h4] at h
          exact build_err _ _ h
        · rfl
      · rfl
  · rfl
theorem boot_ok {base : Int} {l : List Qt} {c : Cu} (h : bootR base l = (c, 0)) : dayB base = true ∧ l.length ≤ 50 ∧ qtsE base l = 0 ∧ ascQ base l = true ∧ build ⟨base, []⟩ l = (c, 0) := by
  unfold bootR at h
  split at h
  · rename_i h1
    split at h
    · simp at h
    · rename_i h2
      split at h
      · rename_i h3
        split at h
        · rename_i h4
          exact ⟨h1, by omega, h3, h4, h⟩
        · simp at h
      · rename_i h3
        injection h with _ h
        exact absurd h h3
  · simp at h
theorem cu_base {base : Int} (h : dayB base = true) : cuE ⟨base, []⟩ = 0 := by
  unfold cuE
  rw [if_neg (by show ¬ 100 < 0; decide), if_pos h]; rfl
theorem boot_facts {base : Int} {l : List Qt} {c : Cu} (h : bootR base l = (c, 0)) : cuE c = 0 ∧ c.base = base ∧ c.pts.length = l.length ∧ ∀ (i : Nat) (q : Qt), l[i]? = some q → ∃ x, c.pts[i]? = some ⟨q.last, x⟩ ∧ cuE ⟨base, c.pts.take i⟩ = 0 ∧ (Cu.endK ⟨base, c.pts.take i⟩).1 < q.last ∧ nextR ⟨base, c.pts.take i⟩ q = (x, 0) := by
  obtain ⟨h1, h2, h3, h4, h5⟩ := boot_ok h
  obtain ⟨r1, news, r2, r3, r4⟩ := build_facts l ⟨base, []⟩ c (cu_base h1) (by simp; omega) (qts_ok l base h3) h4 h5
  subst r2
  exact ⟨r1, rfl, r3, fun i q hq => r4 i q hq⟩
theorem rq_48 : rq z48 = 0 := by
  have : z48 = Q 0 := Q_zero.symm
  rw [this, rq_Q]
theorem priceQ_new {c : Cu} {L : Int} {x : ByteArray} {post : List Pt} (hc : cuE c = 0) (r : Rat) : ∀ (ls : List (Int × ByteArray)) (t : Rat), (∀ l ∈ ls, c.base ≤ l.1 ∧ l.1 ≤ L) → priceQ ⟨c.base, c.pts ++ ⟨L, x⟩ :: post⟩ r t ls = newQ c (rq c.endK.2) L (rq x) r t ls
  | [], t, _ => rfl
  | l :: ls, t, h => by
    obtain ⟨h1, h2⟩ := h l (List.mem_cons_self ..)
    unfold priceQ newQ
    rw [facQ_new hc h1 h2]
    exact priceQ_new hc r ls _ fun k hk => h k (List.mem_cons_of_mem _ hk)
/-- On the curve that a quote's point belongs to, the payments' price and the factor of the last day sum up to 0. -/
theorem price_zero {c : Cu} {q : Qt} {x : ByteArray} {post : List Pt} (hc : cuE c = 0) (hq : qtE q c.base = 0) (hl : c.endK.1 < q.last) (hx : nextR c q = (x, 0)) :
    priceQ ⟨c.base, c.pts ++ ⟨q.last, x⟩ :: post⟩ (rq q.rate) (-1) q.legs + rq x = 0 ∧ facQ ⟨c.base, c.pts ++ ⟨q.last, x⟩ :: post⟩ q.last = rq x := by
  obtain ⟨_, hb, hp⟩ := cuE_ok hc
  obtain ⟨_, _, hd0, _, hr, hds, _⟩ := qt_ok hq
  obtain ⟨l1, l2, l3, _⟩ := qt_last hq
  have hlegs : ∀ l ∈ q.legs, LegOk c l ∧ l.1 ≤ q.last := fun l h => by
    obtain ⟨a, b, d⟩ := qt_legs hq l h
    exact ⟨⟨by omega, by omega, d⟩, b⟩
  have hk := endK_chk c.pts c.base z49 hp chk_49.1 chk_49.2
  have hge := endK_ge c.pts c.base z49 hp
  obtain ⟨α, β, q1, q2, q3, q4, q5⟩ := okp_next c hc q.rate hr q.last (rq c.endK.2) (fun e => ax_chk e hk.1) (by have : c.base ≤ c.endK.1 := hge; omega) l3 (rq x) q.legs ⟨0, zm1, z49⟩ (-1) 1 hlegs (.inl rfl) (ax_m1 _) (ax_one _)
  obtain ⟨e0, eb, e1, e2, _, _⟩ := nextEnd_ok (show nextEnd (nextL c q.rate q.last ⟨0, zm1, z49⟩ q.legs) = (x, 0) from hx)
  rw [e0] at q2 q3
  obtain ⟨ea, _⟩ := q2 rfl
  obtain ⟨ebt, _⟩ := q3 rfl
  have hs := sub_ex (show (subP z48 (nextL c q.rate q.last ⟨0, zm1, z49⟩ q.legs).a).2 = 0 from e1)
  have hd := div_ex (show (divP (subP z48 (nextL c q.rate q.last ⟨0, zm1, z49⟩ q.legs).a).1 (nextL c q.rate q.last ⟨0, zm1, z49⟩ q.legs).b).2 = 0 from by
    have := congrArg Prod.snd e2
    exact this)
  have hxe : x = Q (rq (subP z48 (nextL c q.rate q.last ⟨0, zm1, z49⟩ q.legs).a).1 / rq (nextL c q.rate q.last ⟨0, zm1, z49⟩ q.legs).b) := by
    rw [← hd.1]
    exact (congrArg Prod.fst e2).symm
  have hxq : rq x = (0 - α) / β := by
    rw [hxe, rq_Q, hs.1, rq_Q, rq_48, ea, ebt, rq_Q, rq_Q]
  have hb0 : β ≠ 0 := by
    have := hd.2.2
    rwa [ebt, rq_Q] at this
  have h5 := q5 (-1) (by grind)
  refine ⟨?_, ?_⟩
  · rw [priceQ_new hc _ _ _ fun l h => ⟨(hlegs l h).1.1, (hlegs l h).2⟩, ← h5, hxq]
    grind
  · rw [facQ_new hc (by omega) (Int.le_refl _)]
    unfold newF
    rw [if_neg (by omega), divInt_same (by omega)]
    grind
theorem done_ok {e : Int} {p : ByteArray × Int} {z : Rat} (h : Okp e p z) : done p = (Q z, 0) ∨ (done p).2 = 14 := by
  obtain ⟨h1, h2, _⟩ := h
  unfold done
  by_cases h0 : p.2 = 0
  · rw [if_pos h0]
    left
    rw [← (h2 h0).1, ← h0]
  · rw [if_neg h0]
    exact .inr (h1.resolve_left h0)
/-- The main law: a quote is repriced on the curve that was built from it and others. -/
theorem reprice {base : Int} {l : List Qt} {c : Cu} {i : Nat} {q : Qt} (h : bootR base l = (c, 0)) (hi : l[i]? = some q) :
    (priceR c q = (z48, 0) ∨ (priceR c q).2 = 14) ∧ (parR c q = (q.rate, 0) ∨ (parR c q).2 = 14 ∨ (parR c q).2 = 16) := by
  obtain ⟨h1, h2, h3, h4, h5⟩ := boot_ok h
  obtain ⟨f1, f2, f3, f4⟩ := boot_facts h
  have hq := qts_ok l base h3 q (List.mem_of_getElem? hi)
  obtain ⟨x, g1, g2, g3, g4⟩ := f4 i q hi
  subst f2
  have hc : c = ⟨c.base, c.pts.take i ++ ⟨q.last, x⟩ :: c.pts.drop (i + 1)⟩ := by
    obtain ⟨hlt, he⟩ := List.getElem?_eq_some_iff.1 g1
    have : c.pts.take i ++ ⟨q.last, x⟩ :: c.pts.drop (i + 1) = c.pts := by
      rw [← he, ← List.drop_eq_getElem_cons hlt, List.take_append_drop]
    rw [this]
  obtain ⟨p1, p2⟩ := price_zero (post := c.pts.drop (i + 1)) g2 hq g3 g4
  rw [← hc] at p1 p2
  obtain ⟨_, hb, hp⟩ := cuE_ok f1
  obtain ⟨l1, l2, l3, _⟩ := qt_last hq
  obtain ⟨_, _, _, _, hr, _, _⟩ := qt_ok hq
  have hlegs : ∀ l ∈ q.legs, LegOk c l := fun l h => by
    obtain ⟨a, b, d⟩ := qt_legs hq l h
    exact ⟨by omega, by omega, d⟩
  have hhas : c.has q.last = true := by
    unfold Cu.has
    rw [Bool.and_eq_true, decide_eq_true_iff, decide_eq_true_iff]
    refine ⟨by omega, ?_⟩
    have hp2 := hp
    rw [hc] at hp2 ⊢
    have e : ∀ (l : List Pt) (a : Int) (f : ByteArray) (m : List Pt), ptsE a (l ++ ⟨q.last, x⟩ :: m) = 0 → q.last ≤ (endK a f (l ++ ⟨q.last, x⟩ :: m)).1 := by
      intro l
      induction l with
      | nil => intro a f m hm; exact endK_ge m q.last x (ptsE_cons hm).2.2.2.2
      | cons y r ih => intro a f m hm; exact ih y.d y.f m (ptsE_cons hm).2.2.2.2
    exact e _ _ _ _ hp2
  have hbo : Z.cqE c q = 0 := by
    unfold Z.cqE
    rw [if_pos f1, if_pos hq, if_pos hhas]
  have P := okp_price c f1 q.rate hr q.legs 0 zm1 (-1) hlegs (.inl rfl) (ax_m1 _)
  have A := okp_ann c f1 q.legs 0 z48 0 hlegs (.inl rfl) (ax_zero _)
  have hpa := priceQ_ann c (rq q.rate) q.legs (-1) 0
  rw [show (-1 : Rat) + rq q.rate * 0 = -1 by grind] at hpa
  constructor
  · unfold priceR
    rw [if_pos hbo]
    obtain ⟨e1, a1, k1⟩ := P
    obtain ⟨e2, a2, k2⟩ := okp_fac f1 e1 (show c.base ≤ q.last by omega) l3
    have := done_ok (okp_add e2 (a1.late k2) a2)
    rw [p2, p1, Q_zero] at this
    exact this
  · unfold parR
    rw [if_pos hbo]
    obtain ⟨e1, a1, k1⟩ := A
    by_cases hz : (annL c 0 z48 q.legs).2 = 0 ∧ (annL c 0 z48 q.legs).1 = z48
    · simp only
      rw [if_pos hz]
      exact .inr (.inr rfl)
    · simp only
      rw [if_neg hz]
      obtain ⟨e2, a2, k2⟩ := okp_fac f1 e1 (show c.base ≤ q.last by omega) l3
      obtain ⟨e3, a3, k3⟩ := okp_sub e2 (ax_one _) a2
      have hA : (cOp subP (fac (annL c 0 z48 q.legs).2 c q.last).2 z49 (fac (annL c 0 z48 q.legs).2 c q.last).1).2 = 0 → annQ c 0 q.legs ≠ 0 := fun h0 hA0 => by
        have h1 := k2 (k3 h0)
        apply hz
        refine ⟨h1, ?_⟩
        rw [(a1 h1).1, hA0]; exact Q_zero
      have := okp_div e3 a3 (a1.late fun h => k2 (k3 h)) hA
      obtain ⟨e4, a4, k4⟩ := this
      by_cases h0 : (cOp divP (cOp subP (fac (annL c 0 z48 q.legs).2 c q.last).2 z49 (fac (annL c 0 z48 q.legs).2 c q.last).1).2 (cOp subP (fac (annL c 0 z48 q.legs).2 c q.last).2 z49 (fac (annL c 0 z48 q.legs).2 c q.last).1).1 (annL c 0 z48 q.legs).1).2 = 0
      · left
        unfold done
        rw [if_pos h0]
        have hne := hA (k4 h0)
        have hv : (1 - facQ c q.last) / annQ c 0 q.legs = rq q.rate := by
          rw [p2]
          rw [hpa] at p1
          grind
        have ht := (a4 h0).1
        rw [hv, (rok hr).text] at ht
        rw [← ht]
        exact Prod.ext rfl h0
      · right; left
        unfold done
        rw [if_neg h0]
        exact e4.resolve_left h0
end Z
end Go.Proofs.Ytpnojgaehafjdaa
