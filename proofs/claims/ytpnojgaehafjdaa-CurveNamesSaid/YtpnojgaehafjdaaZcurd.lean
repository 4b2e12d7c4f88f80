/- Plain: beginnings, moves, products and lines of curves. -/
import Derived.Test.YtpnojgaehafjdaaZcurc
namespace Go.Proofs.Ytpnojgaehafjdaa
namespace Z
/-! The first quotes. -/
theorem build_news : ∀ (l : List Qt) (c c' : Cu), build c l = (c', 0) → ∃ news, c' = ⟨c.base, c.pts ++ news⟩ ∧ news.length = l.length
  | [], c, c', h => by
    injection h with h _
    subst h
    exact ⟨[], by simp, rfl⟩
  | q :: r, c, c', h => by
    unfold build at h
    split at h
    · obtain ⟨news, h1, h2⟩ := build_news r _ c' h
      exact ⟨⟨q.last, (nextR c q).1⟩ :: news, by rw [h1]; simp, by simp [h2]⟩
    · rename_i h0
      injection h with _ h
      exact absurd h h0
theorem build_take : ∀ (l : List Qt) (c c' : Cu) (n : Nat), build c l = (c', 0) → n ≤ l.length → build c (l.take n) = (⟨c.base, c'.pts.take (c.pts.length + n)⟩, 0)
  | l, c, c', 0, h, _ => by
    obtain ⟨news, h1, _⟩ := build_news l c c' h
    subst h1
    simp [build]
  | [], c, c', n + 1, h, hn => by simp at hn
  | q :: r, c, c', n + 1, h, hn => by
    unfold build at h
    rw [List.take_succ_cons]
    split at h
    · rename_i h0
      have ih := build_take r _ c' n h (by simpa using hn)
      unfold build
      rw [if_pos h0, ih]
      simp only [List.length_append, List.length_cons, List.length_nil]
      congr 3
      omega
    · rename_i h0
      injection h with _ h
      exact absurd h h0
theorem qts_take : ∀ (l : List Qt) (base : Int) (n : Nat), qtsE base l = 0 → qtsE base (l.take n) = 0
  | _, _, 0, _ => rfl
  | [], _, n + 1, _ => rfl
  | q :: r, base, n + 1, h => by
    rw [List.take_succ_cons]
    unfold qtsE at h ⊢
    split at h
    · rename_i h0
      rw [if_pos h0]
      exact qts_take r base n h
    · rename_i h0
      exact absurd h h0
theorem asc_take : ∀ (l : List Qt) (a : Int) (n : Nat), ascQ a l = true → ascQ a (l.take n) = true
  | _, _, 0, _ => rfl
  | [], _, n + 1, _ => rfl
  | q :: r, a, n + 1, h => by
    rw [List.take_succ_cons]
    unfold ascQ at h ⊢
    rw [Bool.and_eq_true] at h ⊢
    exact ⟨h.1, asc_take r _ n h.2⟩
/-- The curve of the first quotes is the beginning of the curve of all. -/
theorem begins {base : Int} {l : List Qt} {c : Cu} {n : Nat} (h : bootR base l = (c, 0)) (hn : n ≤ l.length) : bootR base (l.take n) = (⟨c.base, c.pts.take n⟩, 0) ∧ c.base = base ∧ c.pts.length = l.length := by
  obtain ⟨h1, h2, h3, h4, h5⟩ := boot_ok h
  obtain ⟨f1, f2, f3, _⟩ := boot_facts h
  refine ⟨?_, f2, f3⟩
  unfold bootR
  rw [if_pos h1, if_neg (by rw [List.length_take]; omega), if_pos (qts_take l base n h3), if_pos (asc_take l base n h4), build_take l _ c n h5 hn]
  simp [f2]
/-! Products. -/
theorem resE_of_chk {z : Int} (h : chk (S z).data.toList = 0) : resE z = 0 := by
  obtain ⟨y, e, hl⟩ := int_of h
  have : ival (S z).data.toList = ival (S y).data.toList := by rw [e]
  rw [ival_S, ival_S] at this
  rw [this]
  exact (hl.res (by omega) (by omega)).1
theorem div_one {v : Rat} (h : Fit v) : divP (Q v) z49 = (Q v, 0) := by
  have e49 : z49 = Q 1 := Q_1.symm
  have hch := rchk_Q h
  have ho := rok hch
  obtain ⟨c1, c2, _, _⟩ := ho.chks
  rw [Q_n] at c1
  rw [Q_d] at c2
  have hf : fitL (lDiv (Q v) (Q 1)) = true := by
    unfold lDiv
    rw [fit2, Q_n, Q_n, Q_d, Q_d]
    show (decide (resE (v.num * 1) = 0) && decide (resE ((v.den : Int) * 1) = 0)) = true
    rw [Int.mul_one, Int.mul_one, resE_of_chk c1, resE_of_chk c2]; rfl
  have hb : rbothE (Q v) (Q 1) = 0 := both_can h fit_one
  have e : rdivE (Q v) (Q 1) = 0 := by
    unfold rdivE
    rw [Q_n, if_neg (fun hh => absurd hh.2 (by decide))]
    exact (rop_ok' (v := 0) hb hf).1
  rw [e49]
  unfold divP
  rw [e]
  unfold rdivS
  rw [if_pos e, rq_Q, rq_Q]
  congr 1
  grind
theorem between_base (c : Cu) (x : Int) : betweenR c c.base x = factorR c x ∨ ((betweenR c c.base x).2 ≠ 0 ∧ (factorR c x).2 ≠ 0) := by
  unfold betweenR factorR
  by_cases hc : cuE c = 0
  · rw [if_pos hc, if_pos hc]
    obtain ⟨_, hb, hp⟩ := cuE_ok hc
    have hge := endK_ge c.pts c.base z49 hp
    by_cases hx : x < c.base
    · rw [if_pos hx, if_neg (by unfold Cu.has; simp; omega)]
      exact .inr ⟨by decide, by decide⟩
    · rw [if_neg hx]
      have hb : c.has c.base = true := by
        unfold Cu.has
        rw [Bool.and_eq_true, decide_eq_true_iff, decide_eq_true_iff]
        exact ⟨Int.le_refl _, hge⟩
      left
      by_cases hh : c.has x = true
      · rw [if_pos ⟨hb, hh⟩, if_pos hh]
        have hx2 : x ≤ 99999 := by
          unfold Cu.has at hh
          rw [Bool.and_eq_true, decide_eq_true_iff, decide_eq_true_iff] at hh
          have := endK_le c.pts c.base z49 hp (by omega)
          exact Int.le_trans hh.2 this
        obtain ⟨e1, a1, _⟩ := okp_fac (e := 0) hc (.inl rfl) (show c.base ≤ x by omega) hx2
        have hy : ∀ e, fac e c c.base = (z49, e) := fun e => if_pos rfl
        simp only [hy]
        by_cases h0 : (fac 0 c x).2 = 0
        · obtain ⟨q1, q2⟩ := a1 h0
          rw [h0, cOp_ok, q1, div_one q2]
          unfold done
          rw [if_pos rfl, if_pos h0]
          exact Prod.ext q1.symm h0.symm
        · rw [cOp_err _ h0]
          unfold done
          rw [if_neg h0, if_neg h0]
      · rw [if_neg (fun h => hh h.2), if_neg hh]
  · rw [if_neg hc, if_neg hc]
    exact .inl rfl
theorem between_ok {c : Cu} {x y : Int} {a : ByteArray} (h : betweenR c x y = (a, 0)) : cuE c = 0 ∧ a = Q (facQ c y / facQ c x) ∧ Fit (facQ c y / facQ c x) ∧ facQ c x ≠ 0 := by
  unfold betweenR at h
  by_cases hc : cuE c = 0
  · rw [if_pos hc] at h
    split at h
    · simp at h
    · split at h
      · rename_i h1 h2
        obtain ⟨_, hb, hp⟩ := cuE_ok hc
        have hle := endK_le c.pts c.base z49 hp (by omega)
        have hh : ∀ d, c.has d = true → c.base ≤ d ∧ d ≤ 99999 := fun d hd => by
          unfold Cu.has at hd
          rw [Bool.and_eq_true, decide_eq_true_iff, decide_eq_true_iff] at hd
          exact ⟨hd.1, Int.le_trans hd.2 hle⟩
        obtain ⟨b1, b2⟩ := hh x h2.1
        obtain ⟨b3, b4⟩ := hh y h2.2
        obtain ⟨e1, a1, _⟩ := okp_fac (e := 0) hc (.inl rfl) b3 b4
        obtain ⟨e2, a2, k2⟩ := okp_fac hc e1 b1 b2
        simp only [done] at h
        split at h
        · rename_i h0
          have g2 : (fac (fac 0 c y).2 c x).2 = 0 := by
            by_cases e : (fac (fac 0 c y).2 c x).2 = 0
            · exact e
            · rw [cOp_err _ e] at h0; exact h0
          have g1 := k2 g2
          rw [g2, cOp_ok] at h h0
          have hd := div_ex h0
          rw [(a1 g1).1, (a2 g2).1, rq_Q, rq_Q] at hd
          refine ⟨hc, ?_, hd.2.1, hd.2.2⟩
          rw [← hd.1, ← (a1 g1).1, ← (a2 g2).1]
          exact (congrArg Prod.fst h).symm
        · rename_i h0
          injection h with _ h
          exact absurd h h0
      · simp at h
  · rw [if_neg hc] at h
    injection h with _ h
    exact absurd h hc
theorem multiplies {c : Cu} {x y z : Int} {a b d : ByteArray} (h1 : betweenR c x y = (a, 0)) (h2 : betweenR c y z = (b, 0)) (h3 : betweenR c x z = (d, 0)) : (mulP a b).2 = 14 ∨ mulP a b = (d, 0) := by
  obtain ⟨_, rfl, f1, g1⟩ := between_ok h1
  obtain ⟨_, rfl, f2, g2⟩ := between_ok h2
  obtain ⟨_, rfl, f3, _⟩ := between_ok h3
  rcases rop_either (l := lMul (Q (facQ c y / facQ c x)) (Q (facQ c z / facQ c y))) (both_can f1 f2) with h | h
  · right
    have h : (mulP (Q (facQ c y / facQ c x)) (Q (facQ c z / facQ c y))).2 = 0 := h
    have := (mul_ex h).1
    rw [rq_Q, rq_Q] at this
    refine Prod.ext ?_ h
    rw [this]
    congr 1
    grind
  · exact .inl h
/-! Lines. -/
theorem facL_S : ∀ (l : List Pt) (day a : Int) (x : Rat), Rt 100 x → (∀ p ∈ l, Rt 100 (rq p.f)) → ptsE a l = 0 → 0 ≤ a → a < day → day ≤ 99999 → facL 0 day a (Q x) l = (Q (facR day a x l), 0) ∧ Rt 308 (facR day a x l)
  | [], day, a, x, hx, _, _, _, _, _ => ⟨rfl, hx.mono (by omega)⟩
  | p :: r, day, a, x, hx, hs, hp, h0, h1, h2 => by
    obtain ⟨hd, hl, hc, _, hr⟩ := ptsE_cons hp
    have hps := hs p (List.mem_cons_self ..)
    have ht := (rok hc).text
    unfold facL facR
    by_cases h3 : p.d = day
    · rw [if_pos h3, if_pos h3, ht]
      exact ⟨rfl, hps.mono (by omega)⟩
    · rw [if_neg h3, if_neg h3]
      by_cases h4 : day < p.d
      · rw [if_pos h4, if_pos h4]
        have r1 : Rt 6 (Rat.divInt (day - a) (p.d - a)) := rt_days (by omega) (by omega) (by omega) (by omega)
        obtain ⟨s1, s2⟩ := sub_S hps hx (by omega) (by omega) (by omega)
        have r2 := hps.sub hx
        obtain ⟨s3, s4⟩ := mul_S r2 r1 (by omega) (by omega) (by omega)
        have r3 := r2.mul r1
        obtain ⟨s5, s6⟩ := add_S hx r3 (by omega) (by omega) (by omega)
        have t1 : cOp subP 0 p.f (Q x) = (Q (rq p.f - x), 0) := by
          rw [cOp_ok, ← ht, rq_Q]; exact Prod.ext s1 s2
        have t2 : cOp mulP 0 (Q (rq p.f - x)) (Q (Rat.divInt (day - a) (p.d - a))) = (Q ((rq p.f - x) * Rat.divInt (day - a) (p.d - a)), 0) := by
          rw [cOp_ok]; exact Prod.ext s3 s4
        have t3 : cOp addP 0 (Q x) (Q ((rq p.f - x) * Rat.divInt (day - a) (p.d - a))) = (Q (x + (rq p.f - x) * Rat.divInt (day - a) (p.d - a)), 0) := by
          rw [cOp_ok]; exact Prod.ext s5 s6
        have t0 : cRat 0 (day - a) (p.d - a) = (Q (Rat.divInt (day - a) (p.d - a)), 0) := rfl
        simp only [t0, t1, t2, t3]
        exact ⟨trivial, (hx.add r3).mono (by omega)⟩
      · rw [if_neg h4, if_neg h4, ← ht]
        rw [ht]
        have := facL_S r day p.d (rq p.f) hps (fun q hq => hs q (List.mem_cons_of_mem _ hq)) hr hd.1 (by omega) h2
        rw [ht] at this
        exact this
theorem factor_S {c : Cu} {day : Int} (hc : cuE c = 0) (hs : ∀ p ∈ c.pts, Rt 100 (rq p.f)) (h1 : c.base ≤ day) (h2 : day ≤ c.endK.1) : factorR c day = (Q (facQ c day), 0) ∧ Rt 308 (facQ c day) := by
  obtain ⟨_, hb, hp⟩ := cuE_ok hc
  have hle := endK_le c.pts c.base z49 hp (by omega)
  have hle : c.endK.1 ≤ 99999 := hle
  have hh : c.has day = true := by
    unfold Cu.has
    rw [Bool.and_eq_true, decide_eq_true_iff, decide_eq_true_iff]
    exact ⟨h1, h2⟩
  unfold factorR
  rw [if_pos hc, if_pos hh]
  have e49 : z49 = Q 1 := Q_1.symm
  unfold fac facQ
  by_cases h : day = c.base
  · rw [if_pos h, if_pos h, e49]
    exact ⟨rfl, rt_one.mono (by omega)⟩
  · rw [if_neg h, if_neg h]
    obtain ⟨g1, g2⟩ := facL_S c.pts day c.base 1 (rt_one.mono (by omega)) hs hp hb.1 (by omega) (by omega)
    rw [e49, g1]
    exact ⟨rfl, g2⟩
theorem facR_end : ∀ (l : List Pt) (a : Int) (f : ByteArray) (x : Rat), ptsE a l = 0 → a < (endK a f l).1 → facR (endK a f l).1 a x l = rq (endK a f l).2
  | [], a, f, x, _, h => by
    have h : a < a := h
    omega
  | p :: r, a, f, x, hp, h => by
    obtain ⟨_, _, _, _, hr⟩ := ptsE_cons hp
    have hge := endK_ge r p.d p.f hr
    show (if p.d = (endK p.d p.f r).1 then rq p.f else if (endK p.d p.f r).1 < p.d then _ else facR (endK p.d p.f r).1 p.d (rq p.f) r) = rq (endK p.d p.f r).2
    by_cases h3 : p.d = (endK p.d p.f r).1
    · rw [if_pos h3]
      cases r with
      | nil => rfl
      | cons y s =>
        obtain ⟨_, h5, _, _, h6⟩ := ptsE_cons hr
        have := endK_ge s y.d y.f h6
        have h3 : p.d = (endK y.d y.f s).1 := h3
        omega
    · rw [if_neg h3, if_neg (by omega)]
      exact facR_end r p.d p.f _ hr (by omega)
theorem facQ_end {c : Cu} (hc : cuE c = 0) : facQ c c.endK.1 = rq c.endK.2 := by
  obtain ⟨_, hb, hp⟩ := cuE_ok hc
  have hge := endK_ge c.pts c.base z49 hp
  unfold facQ
  by_cases h : c.endK.1 = c.base
  · rw [if_pos h]
    cases hpt : c.pts with
    | nil =>
      unfold Cu.endK
      rw [hpt]
      exact rq_49.symm
    | cons y s =>
      rw [hpt] at hp
      obtain ⟨_, h5, _, _, h6⟩ := ptsE_cons hp
      have := endK_ge s y.d y.f h6
      unfold Cu.endK at h
      rw [hpt] at h
      have h : (endK y.d y.f s).1 = c.base := h
      omega
  · rw [if_neg h]
    exact facR_end c.pts c.base z49 1 hp (by
      have h : ¬ (endK c.base z49 c.pts).1 = c.base := h
      omega)
theorem pts_pre : ∀ (l m : List Pt) (a : Int), ptsE a (l ++ m) = 0 → ptsE a l = 0
  | [], _, _, _ => rfl
  | p :: r, m, a, h => by
    obtain ⟨g1, g2, g3, g4, g5⟩ := ptsE_cons h
    rw [ptsE_ok g1.1 g1.2 g2 g3 g4]
    exact pts_pre r m p.d g5
theorem pts_mid : ∀ (l m : List Pt) (p : Pt) (a : Int) (f : ByteArray), ptsE a (l ++ p :: m) = 0 → (endK a f l).1 < p.d ∧ p.d ≤ (endK a f (l ++ p :: m)).1
  | [], m, p, _, _, h => ⟨(ptsE_cons h).2.1, endK_ge m p.d p.f (ptsE_cons h).2.2.2.2⟩
  | q :: r, m, p, _, _, h => pts_mid r m p q.d q.f (ptsE_cons h).2.2.2.2
theorem div_line (a n : Int) : Rat.divInt a n = (a : Rat) / (n : Rat) := Rat.divInt_eq_div a n
/-- The knot ahead of point i. -/
def fromD (c : Cu) (i : Nat) : Int := (Cu.endK ⟨c.base, c.pts.take i⟩).1
theorem on_line {c : Cu} {i : Nat} {p : Pt} (hc : cuE c = 0) (hi : c.pts[i]? = some p) : c.base ≤ fromD c i ∧ fromD c i < p.d ∧ p.d ≤ c.endK.1 ∧ ∃ f0 : Rat, ∀ t, fromD c i ≤ t → t ≤ p.d → facQ c t = f0 + (rq p.f - f0) * Rat.divInt (t - fromD c i) (p.d - fromD c i) := by
  obtain ⟨hlt, he⟩ := List.getElem?_eq_some_iff.1 hi
  have hsp : c.pts = c.pts.take i ++ p :: c.pts.drop (i + 1) := by
    rw [← he, ← List.drop_eq_getElem_cons hlt, List.take_append_drop]
  obtain ⟨hn, hb, hp⟩ := cuE_ok hc
  have hp2 := hp
  rw [hsp] at hp2
  have hpre := pts_pre _ _ _ hp2
  have hc0 : cuE ⟨c.base, c.pts.take i⟩ = 0 := by
    unfold cuE
    rw [if_neg (by simp only [List.length_take]; omega), if_pos (by unfold dayB; simp [hb])]
    exact hpre
  obtain ⟨m1, m2⟩ := pts_mid (c.pts.take i) (c.pts.drop (i + 1)) p c.base z49 hp2
  rw [← hsp] at m2
  have hge := endK_ge (c.pts.take i) c.base z49 hpre
  refine ⟨hge, m1, m2, rq (Cu.endK ⟨c.base, c.pts.take i⟩).2, fun t h1 h2 => ?_⟩
  have hcc : c = ⟨c.base, c.pts.take i ++ ⟨p.d, p.f⟩ :: c.pts.drop (i + 1)⟩ := by rw [← hsp]
  have h := facQ_new (c := ⟨c.base, c.pts.take i⟩) (L := p.d) (x := p.f) (post := c.pts.drop (i + 1)) (d := t) hc0 (by have : c.base ≤ fromD c i := hge; show c.base ≤ t; omega) h2
  rw [show (⟨(⟨c.base, c.pts.take i⟩ : Cu).base, (⟨c.base, c.pts.take i⟩ : Cu).pts ++ ⟨p.d, p.f⟩ :: c.pts.drop (i + 1)⟩ : Cu) = c from hcc.symm] at h
  rw [h]
  unfold newF
  by_cases h3 : t ≤ (Cu.endK ⟨c.base, c.pts.take i⟩).1
  · rw [if_pos h3]
    have h4 : t = (Cu.endK ⟨c.base, c.pts.take i⟩).1 := by unfold fromD at h1; omega
    rw [h4, facQ_end hc0, show (Cu.endK ⟨c.base, c.pts.take i⟩).1 - fromD c i = 0 by unfold fromD; omega, div_line, show ((0 : Int) : Rat) = 0 by simp]
    grind
  · rw [if_neg h3]; rfl
/-- Equal steps between two knots change the factor by equal amounts. -/
theorem straight {c : Cu} {i : Nat} {p : Pt} {day step : Int} (hc : cuE c = 0) (hs : ∀ p ∈ c.pts, Rt 100 (rq p.f)) (hi : c.pts[i]? = some p) (h1 : fromD c i ≤ day) (h2 : 0 ≤ step) (h3 : day + 2 * step ≤ p.d) :
    ∃ a b d x : ByteArray, factorR c day = (a, 0) ∧ factorR c (day + step) = (b, 0) ∧ factorR c (day + 2 * step) = (d, 0) ∧ subP b a = (x, 0) ∧ subP d b = (x, 0) ∧ a.size ≤ 2100 ∧ b.size ≤ 2100 ∧ d.size ≤ 2100 := by
  obtain ⟨g1, g2, g3, f0, hf⟩ := on_line hc hi
  obtain ⟨a1, a2⟩ := factor_S (day := day) hc hs (by omega) (by omega)
  obtain ⟨b1, b2⟩ := factor_S (day := day + step) hc hs (by omega) (by omega)
  obtain ⟨d1, d2⟩ := factor_S (day := day + 2 * step) hc hs (by omega) (by omega)
  obtain ⟨s1, s2⟩ := sub_S b2 a2 (by omega) (by omega) (by omega)
  obtain ⟨s3, s4⟩ := sub_S d2 b2 (by omega) (by omega) (by omega)
  refine ⟨_, _, _, _, a1, b1, d1, Prod.ext s1 s2, ?_, a2.size (by omega) (by omega), b2.size (by omega) (by omega), d2.size (by omega) (by omega)⟩
  refine Prod.ext ?_ s4
  show ropS _ _ _ _ = _
  rw [s3, hf day (by omega) (by omega), hf (day + step) (by omega) (by omega), hf (day + 2 * step) (by omega) (by omega)]
  congr 1
  have hn : ((p.d - fromD c i : Int) : Rat) ≠ 0 := by
    intro h0
    have := congrArg Rat.num h0
    rw [Rat.num_intCast] at this
    have h5 : p.d - fromD c i = 0 := this
    omega
  rw [div_line, div_line, div_line]
  have e1 : ((day + step - fromD c i : Int) : Rat) = ((day - fromD c i : Int) : Rat) + (step : Rat) := by
    rw [show day + step - fromD c i = (day - fromD c i) + step by omega, Rat.intCast_add]
  have e2 : ((day + 2 * step - fromD c i : Int) : Rat) = ((day - fromD c i : Int) : Rat) + (step : Rat) + (step : Rat) := by
    rw [show day + 2 * step - fromD c i = (day - fromD c i) + step + step by omega, Rat.intCast_add, Rat.intCast_add]
  rw [e1, e2]
  grind
/-! Moves. -/
def Pt.mv (b : Int) (p : Pt) : Pt := ⟨p.d + b, p.f⟩
def Cu.mv (b : Int) (c : Cu) : Cu := ⟨c.base + b, c.pts.map (Pt.mv b)⟩
def Qt.mv (b : Int) (q : Qt) : Qt := ⟨q.dates.map (· + b), q.parts, q.rate⟩
theorem endK_mv (b : Int) : ∀ (l : List Pt) (d : Int) (f : ByteArray), endK (d + b) f (l.map (Pt.mv b)) = ((endK d f l).1 + b, (endK d f l).2)
  | [], _, _ => rfl
  | p :: r, _, _ => endK_mv b r p.d p.f
theorem facL_mv (b : Int) : ∀ (l : List Pt) (e day a : Int) (f : ByteArray), facL e (day + b) (a + b) f (l.map (Pt.mv b)) = facL e day a f l
  | [], _, _, _, _ => rfl
  | p :: r, e, day, a, f => by
    rw [List.map_cons]
    unfold facL
    show (if p.d + b = day + b then (p.f, e) else if day + b < p.d + b then _ else facL e (day + b) (p.d + b) p.f (r.map (Pt.mv b))) = _
    by_cases h : p.d = day
    · rw [if_pos (by omega), if_pos h]
    · rw [if_neg (by omega), if_neg h]
      by_cases h2 : day < p.d
      · rw [if_pos (by omega), if_pos h2]
        show cOp addP (cOp mulP (cOp subP (cRat e (day + b - (a + b)) (p.d + b - (a + b))).2 p.f f).2 (cOp subP (cRat e (day + b - (a + b)) (p.d + b - (a + b))).2 p.f f).1 (cRat e (day + b - (a + b)) (p.d + b - (a + b))).1).2 f (cOp mulP (cOp subP (cRat e (day + b - (a + b)) (p.d + b - (a + b))).2 p.f f).2 (cOp subP (cRat e (day + b - (a + b)) (p.d + b - (a + b))).2 p.f f).1 (cRat e (day + b - (a + b)) (p.d + b - (a + b))).1).1 = _
        rw [show day + b - (a + b) = day - a by omega, show p.d + b - (a + b) = p.d - a by omega]
      · rw [if_neg (by omega), if_neg h2]
        exact facL_mv b r e day p.d p.f
theorem fac_mv (b : Int) (c : Cu) (e day : Int) : fac e (c.mv b) (day + b) = fac e c day := by
  unfold fac Cu.mv
  by_cases h : day = c.base
  · rw [if_pos h, if_pos (by simp [h])]
  · rw [if_neg h, if_neg (by simp; omega)]
    exact facL_mv b c.pts e day c.base z49
theorem last_mv (b : Int) : ∀ (l : List Int), l ≠ [] → (l.map (· + b)).getLastD 0 = l.getLastD 0 + b
  | [], h => absurd rfl h
  | [x], _ => rfl
  | x :: y :: r, _ => by
    have := last_mv b (y :: r) (by simp)
    simpa [List.getLastD_cons] using this
theorem next_mv (b : Int) (c : Cu) (rate : ByteArray) (L : Int) : ∀ (ls : List (Int × ByteArray)) (s : Nx), nextL (c.mv b) rate (L + b) s (ls.map fun l => (l.1 + b, l.2)) = nextL c rate L s ls
  | [], _ => rfl
  | l :: r, s => by
    rw [List.map_cons]
    unfold nextL
    have hk : (c.mv b).endK = (c.endK.1 + b, c.endK.2) := endK_mv b c.pts c.base z49
    have : nextS (c.mv b) rate (L + b) s (l.1 + b, l.2) = nextS c rate L s l := by
      unfold nextS
      rw [hk]
      by_cases h : l.1 ≤ c.endK.1
      · rw [if_pos (by simp; omega), if_pos h]
        unfold knownS
        simp only [fac_mv]
      · rw [if_neg (by simp; omega), if_neg h]
        unfold openS
        simp only [show l.1 + b - (c.endK.1 + b) = l.1 - c.endK.1 by omega, show L + b - (c.endK.1 + b) = L - c.endK.1 by omega]
    rw [this]
    exact next_mv b c rate L r _
theorem legs_mv (b : Int) (q : Qt) : (q.mv b).legs = q.legs.map fun l => (l.1 + b, l.2) := by
  unfold Qt.legs Qt.mv
  simp only
  rw [List.zip_map_left]
  rfl
theorem nextR_mv (b : Int) (c : Cu) (q : Qt) (h : q.dates ≠ []) : nextR (c.mv b) (q.mv b) = nextR c q := by
  unfold nextR
  rw [show (q.mv b).last = q.last + b from last_mv b q.dates h, legs_mv]
  show nextEnd (nextL (c.mv b) q.rate (q.last + b) _ _) = _
  rw [next_mv]
theorem build_mv (b : Int) : ∀ (l : List Qt) (c c' : Cu), (∀ q ∈ l, q.dates ≠ []) → build c l = (c', 0) → build (c.mv b) (l.map (Qt.mv b)) = (c'.mv b, 0)
  | [], c, c', _, h => by
    injection h with h _
    subst h
    rfl
  | q :: r, c, c', hq, h => by
    have hq0 := hq q (List.mem_cons_self ..)
    unfold build at h
    split at h
    · rename_i h0
      have ih := build_mv b r _ c' (fun k hk => hq k (List.mem_cons_of_mem _ hk)) h
      rw [List.map_cons]
      unfold build
      rw [nextR_mv b c q hq0, if_pos h0, show (q.mv b).last = q.last + b from last_mv b q.dates hq0, ← ih]
      unfold Cu.mv Pt.mv
      simp
    · rename_i h0
      injection h with _ h
      exact absurd h h0
theorem dates_mv (b : Int) (hb : 0 ≤ b) : ∀ (l : List Int) (last : Int), datesB last l = true → (∀ d ∈ l, d + b ≤ 99999) → datesB (last + b) (l.map (· + b)) = true
  | [], _, _, _ => rfl
  | x :: r, last, h, hl => by
    rw [List.map_cons]
    unfold datesB dayB at h ⊢
    simp only [Bool.and_eq_true, decide_eq_true_eq] at h ⊢
    have := hl x (List.mem_cons_self ..)
    exact ⟨⟨⟨by omega, by omega⟩, by omega⟩, dates_mv b hb r x h.2 fun d hd => hl d (List.mem_cons_of_mem _ hd)⟩
theorem qt_mv {b base : Int} {q : Qt} (hb : 0 ≤ b) (h : qtE q base = 0) (hl : q.last + b ≤ 99999) : qtE (q.mv b) (base + b) = 0 := by
  obtain ⟨h1, h2, h3, h4, h5, h6, h7⟩ := qt_ok h
  obtain ⟨k1, _, _, k2⟩ := qt_last h
  unfold qtE
  rw [if_neg (by unfold Qt.mv; simp; omega), if_pos]
  unfold Qt.ok dayB Qt.mv
  simp only [Bool.and_eq_true, decide_eq_true_eq, List.all_eq_true, List.length_map]
  exact ⟨⟨⟨⟨⟨⟨by omega, by omega⟩, h3⟩, h4⟩, h5⟩, dates_mv b hb _ _ h6 fun d hd => by have := (k2 d hd).2; omega⟩, h7⟩
theorem qts_mv {b : Int} (hb : 0 ≤ b) : ∀ (l : List Qt) (base : Int), qtsE base l = 0 → (∀ q ∈ l, q.last + b ≤ 99999) → qtsE (base + b) (l.map (Qt.mv b)) = 0
  | [], _, _, _ => rfl
  | q :: r, base, h, hl => by
    unfold qtsE at h
    split at h
    · rename_i h0
      rw [List.map_cons]
      unfold qtsE
      rw [if_pos (qt_mv hb h0 (hl q (List.mem_cons_self ..)))]
      exact qts_mv hb r base h fun k hk => hl k (List.mem_cons_of_mem _ hk)
    · rename_i h0
      exact absurd h h0
theorem asc_mv (b : Int) : ∀ (l : List Qt) (a : Int), (∀ q ∈ l, q.dates ≠ []) → ascQ a l = true → ascQ (a + b) (l.map (Qt.mv b)) = true
  | [], _, _, _ => rfl
  | q :: r, a, hq, h => by
    rw [List.map_cons]
    unfold ascQ at h ⊢
    rw [show (q.mv b).last = q.last + b from last_mv b q.dates (hq q (List.mem_cons_self ..))]
    simp only [Bool.and_eq_true, decide_eq_true_eq] at h ⊢
    exact ⟨by omega, asc_mv b r _ (fun k hk => hq k (List.mem_cons_of_mem _ hk)) h.2⟩
theorem pts_le : ∀ (l : List Pt) (a : Int) (f : ByteArray), ptsE a l = 0 → ∀ p ∈ l, p.d ≤ (endK a f l).1
  | [], _, _, _, p, hp => by cases hp
  | q :: r, a, f, h, p, hp => by
    obtain ⟨_, _, _, _, h5⟩ := ptsE_cons h
    rcases List.mem_cons.1 hp with rfl | hp
    · exact endK_ge r _ _ h5
    · exact pts_le r q.d q.f h5 p hp
/-- Moving the base day and all days of the quotes moves the curve. -/
theorem moves {base b : Int} {l : List Qt} {c : Cu} (h : bootR base l = (c, 0)) (hb : 0 ≤ b) (hl : c.endK.1 + b ≤ 99999) : bootR (base + b) (l.map (Qt.mv b)) = (c.mv b, 0) := by
  obtain ⟨h1, h2, h3, h4, h5⟩ := boot_ok h
  obtain ⟨f1, f2, f3, f4⟩ := boot_facts h
  obtain ⟨_, hbb, hp⟩ := cuE_ok f1
  have hq := qts_ok l base h3
  have hne : ∀ q ∈ l, q.dates ≠ [] := fun q hm e => by
    have := (qt_ok (hq q hm)).2.2.1
    rw [e] at this; cases this
  have hlast : ∀ q ∈ l, q.last + b ≤ 99999 := fun q hm => by
    obtain ⟨i, hi⟩ := List.getElem?_of_mem hm
    obtain ⟨x, g1, _⟩ := f4 i q hi
    have h6 := pts_le c.pts c.base z49 hp _ (List.mem_of_getElem? g1)
    have h6 : q.last ≤ c.endK.1 := h6
    omega
  have hge := endK_ge c.pts c.base z49 hp
  have hge : c.base ≤ c.endK.1 := hge
  unfold bootR
  rw [if_pos (by unfold dayB; simp; omega), if_neg (by simp; omega), if_pos (qts_mv hb l base h3 hlast), if_pos (asc_mv b l base hne h4)]
  exact build_mv b l ⟨base, []⟩ c hne h5
end Z
end Go.Proofs.Ytpnojgaehafjdaa
