/- Plain: what the calculations on curves give, in rationals: exact, or the error of size. -/
import Derived.Test.YtpnojgaehafjdaaZcur
namespace Go.Proofs.Ytpnojgaehafjdaa
namespace Z
def Er (e : Int) : Prop := e = 0 ∨ e = 14
/-- Unless there was an error, the text is this rational's. -/
def Ax (e : Int) (a : ByteArray) (x : Rat) : Prop := e = 0 → a = Q x ∧ Fit x
/-- A calculation behind the error e: it gives this rational, or the error of size. -/
def Okp (e : Int) (p : ByteArray × Int) (z : Rat) : Prop := Er p.2 ∧ Ax p.2 p.1 z ∧ (p.2 = 0 → e = 0)
theorem Ax.late {e e' : Int} {a : ByteArray} {x : Rat} (h : Ax e a x) (g : e' = 0 → e = 0) : Ax e' a x := fun k => h (g k)
theorem Okp.err {z : Rat} : Okp 14 (z48, 14) z := ⟨.inr rfl, fun h => by simp at h, fun h => h⟩
theorem both_can {x y : Rat} (hx : Fit x) (hy : Fit y) : rbothE (Q x) (Q y) = 0 := by
  unfold rbothE
  rw [if_pos (rchk_Q hx)]; exact rchk_Q hy
theorem rop_either {l : List Int} {a b : ByteArray} (h : rbothE a b = 0) : ropE l a b = 0 ∨ ropE l a b = 14 := by
  unfold ropE
  rw [if_pos h]
  cases fitL l
  · exact .inr rfl
  · exact .inl rfl
section
variable {e : Int} {a b : ByteArray} {x y : Rat}
theorem okp_add (he : Er e) (ha : Ax e a x) (hb : Ax e b y) : Okp e (cOp addP e a b) (x + y) := by
  rcases he with rfl | rfl
  · obtain ⟨rfl, fx⟩ := ha rfl
    obtain ⟨rfl, fy⟩ := hb rfl
    rw [cOp_ok]
    refine ⟨rop_either (both_can fx fy), fun h => ?_, fun _ => rfl⟩
    have := add_ex h
    rwa [rq_Q, rq_Q] at this
  · rw [cOp_err _ (by decide)]; exact Okp.err
theorem okp_sub (he : Er e) (ha : Ax e a x) (hb : Ax e b y) : Okp e (cOp subP e a b) (x - y) := by
  rcases he with rfl | rfl
  · obtain ⟨rfl, fx⟩ := ha rfl
    obtain ⟨rfl, fy⟩ := hb rfl
    rw [cOp_ok]
    refine ⟨rop_either (both_can fx fy), fun h => ?_, fun _ => rfl⟩
    have := sub_ex h
    rwa [rq_Q, rq_Q] at this
  · rw [cOp_err _ (by decide)]; exact Okp.err
theorem okp_mul (he : Er e) (ha : Ax e a x) (hb : Ax e b y) : Okp e (cOp mulP e a b) (x * y) := by
  rcases he with rfl | rfl
  · obtain ⟨rfl, fx⟩ := ha rfl
    obtain ⟨rfl, fy⟩ := hb rfl
    rw [cOp_ok]
    refine ⟨rop_either (both_can fx fy), fun h => ?_, fun _ => rfl⟩
    have := mul_ex h
    rwa [rq_Q, rq_Q] at this
  · rw [cOp_err _ (by decide)]; exact Okp.err
theorem okp_div (he : Er e) (ha : Ax e a x) (hb : Ax e b y) (hy : e = 0 → y ≠ 0) : Okp e (cOp divP e a b) (x / y) := by
  rcases he with rfl | rfl
  · obtain ⟨rfl, fx⟩ := ha rfl
    obtain ⟨rfl, fy⟩ := hb rfl
    rw [cOp_ok]
    have hE : (divP (Q x) (Q y)).2 = ropE (lDiv (Q x) (Q y)) (Q x) (Q y) := by
      show rdivE _ _ = _
      unfold rdivE
      rw [Q_n, if_neg (fun hh => num_ne (hy rfl) hh.2)]
    refine ⟨by rw [hE]; exact rop_either (both_can fx fy), fun h => ?_, fun _ => rfl⟩
    have := div_ex h
    rw [rq_Q, rq_Q] at this
    exact ⟨this.1, this.2.1⟩
  · rw [cOp_err _ (by decide)]; exact Okp.err
theorem okp_rat {m n : Int} (he : Er e) (h0 : -100000 < m) (h1 : m < 100000) (h2 : 0 < n) (h3 : n < 100000) : Okp e (cRat e m n) (Rat.divInt m n) := by
  rcases he with rfl | rfl
  · exact ⟨.inl rfl, fun _ => ⟨rfl, (rt_days h0 h1 h2 h3).fit (by omega) (by omega)⟩, fun _ => rfl⟩
  · rw [cRat_err (by decide)]; exact Okp.err
end
theorem fit_one : Fit 1 := rt_one.fit (by omega) (by omega)
theorem ax_one (e : Int) : Ax e z49 1 := fun _ => ⟨Q_1.symm, fit_one⟩
theorem ax_zero (e : Int) : Ax e z48 0 := fun _ => ⟨Q_zero.symm, rt_zero.fit (by omega) (by omega)⟩
theorem ax_m1 (e : Int) : Ax e zm1 (-1) := fun _ => ⟨by decide +kernel, rt_one.neg.fit (by omega) (by omega)⟩
theorem ax_chk {s : ByteArray} (e : Int) (h : rchk s = 0) : Ax e s (rq s) := fun _ => ⟨(rok h).text.symm, (rok h).fit⟩
theorem ptsE_cons {last : Int} {p : Pt} {r : List Pt} (h : ptsE last (p :: r) = 0) : (0 ≤ p.d ∧ p.d ≤ 99999) ∧ last < p.d ∧ rchk p.f = 0 ∧ posB p.f = true ∧ ptsE p.d r = 0 := by
  unfold ptsE at h
  split at h
  · rename_i hh
    obtain ⟨h1, h2, h3, h4⟩ := hh
    unfold dayB at h1
    simp at h1
    exact ⟨h1, h2, h3, h4, h⟩
  · cases h
theorem ptsE_ok {last : Int} {p : Pt} {r : List Pt} (h1 : 0 ≤ p.d) (h2 : p.d ≤ 99999) (h3 : last < p.d) (h4 : rchk p.f = 0) (h5 : posB p.f = true) : ptsE last (p :: r) = ptsE p.d r := by
  conv => lhs; unfold ptsE
  rw [if_pos ⟨by unfold dayB; simp [h1, h2], h3, h4, h5⟩]
theorem cuE_ok {c : Cu} (h : cuE c = 0) : c.pts.length ≤ 100 ∧ (0 ≤ c.base ∧ c.base ≤ 99999) ∧ ptsE c.base c.pts = 0 := by
  unfold cuE at h
  split at h
  · cases h
  · split at h
    · rename_i h1 h2
      unfold dayB at h2
      simp at h2
      exact ⟨by omega, h2, h⟩
    · cases h
/-- The factor on a day, in rationals. -/
def facR (day : Int) : Int → Rat → List Pt → Rat
  | _, x, [] => x
  | a, x, p :: r => if p.d = day then rq p.f else if day < p.d then x + (rq p.f - x) * Rat.divInt (day - a) (p.d - a) else facR day p.d (rq p.f) r
def facQ (c : Cu) (day : Int) : Rat := if day = c.base then 1 else facR day c.base 1 c.pts
theorem okp_facL : ∀ (l : List Pt) (e day a : Int) (f : ByteArray) (x : Rat), Er e → Ax e f x → ptsE a l = 0 → 0 ≤ a → a < day → day ≤ 99999 → Okp e (facL e day a f l) (facR day a x l)
  | [], e, day, a, f, x, he, hf, _, _, _, _ => ⟨he, hf, id⟩
  | p :: r, e, day, a, f, x, he, hf, hp, h0, h1, h2 => by
    obtain ⟨hd, hl, hc, _, hr⟩ := ptsE_cons hp
    unfold facL facR
    by_cases h3 : p.d = day
    · rw [if_pos h3, if_pos h3]
      exact ⟨he, ax_chk _ hc, id⟩
    · rw [if_neg h3, if_neg h3]
      by_cases h4 : day < p.d
      · rw [if_pos h4, if_pos h4]
        obtain ⟨e1, a1, l1⟩ := okp_rat (e := e) (m := day - a) (n := p.d - a) he (by omega) (by omega) (by omega) (by omega)
        obtain ⟨e2, a2, l2⟩ := okp_sub e1 (ax_chk _ hc) (hf.late l1)
        obtain ⟨e3, a3, l3⟩ := okp_mul e2 a2 (a1.late l2)
        obtain ⟨e4, a4, l4⟩ := okp_add e3 (hf.late fun h => l1 (l2 (l3 h))) a3
        exact ⟨e4, a4, fun h => l1 (l2 (l3 (l4 h)))⟩
      · rw [if_neg h4, if_neg h4]
        exact okp_facL r e day p.d p.f _ he (ax_chk _ hc) hr hd.1 (by omega) h2
theorem okp_fac {e : Int} {c : Cu} {day : Int} (hc : cuE c = 0) (he : Er e) (h1 : c.base ≤ day) (h2 : day ≤ 99999) : Okp e (fac e c day) (facQ c day) := by
  obtain ⟨_, hb, hp⟩ := cuE_ok hc
  unfold fac facQ
  by_cases h : day = c.base
  · rw [if_pos h, if_pos h]
    exact ⟨he, ax_one e, id⟩
  · rw [if_neg h, if_neg h]
    exact okp_facL _ _ _ _ _ _ he (ax_one e) hp hb.1 (by omega) h2
def LegOk (c : Cu) (l : Int × ByteArray) : Prop := c.base ≤ l.1 ∧ l.1 ≤ 99999 ∧ rchk l.2 = 0
def priceQ (c : Cu) (r : Rat) : Rat → List (Int × ByteArray) → Rat
  | t, [] => t
  | t, l :: ls => priceQ c r (t + r * rq l.2 * facQ c l.1) ls
theorem okp_price (c : Cu) (hc : cuE c = 0) (rate : ByteArray) (hr : rchk rate = 0) : ∀ (ls : List (Int × ByteArray)) (e : Int) (t : ByteArray) (x : Rat), (∀ l ∈ ls, LegOk c l) → Er e → Ax e t x → Okp e (priceL c rate e t ls) (priceQ c (rq rate) x ls)
  | [], e, t, x, _, he, ht => ⟨he, ht, id⟩
  | l :: ls, e, t, x, hl, he, ht => by
    obtain ⟨d1, d2, d3⟩ := hl l (List.mem_cons_self ..)
    obtain ⟨e1, a1, l1⟩ := okp_mul he (ax_chk e hr) (ax_chk e d3)
    obtain ⟨e2, a2, l2⟩ := okp_fac hc e1 d1 d2
    obtain ⟨e3, a3, l3⟩ := okp_mul e2 (a1.late l2) a2
    obtain ⟨e4, a4, l4⟩ := okp_add e3 (ht.late fun h => l1 (l2 (l3 h))) a3
    obtain ⟨e5, a5, l5⟩ := okp_price c hc rate hr ls _ _ _ (fun k hk => hl k (List.mem_cons_of_mem _ hk)) e4 a4
    exact ⟨e5, a5, fun h => l1 (l2 (l3 (l4 (l5 h))))⟩
def annQ (c : Cu) : Rat → List (Int × ByteArray) → Rat
  | t, [] => t
  | t, l :: ls => annQ c (t + rq l.2 * facQ c l.1) ls
theorem okp_ann (c : Cu) (hc : cuE c = 0) : ∀ (ls : List (Int × ByteArray)) (e : Int) (t : ByteArray) (x : Rat), (∀ l ∈ ls, LegOk c l) → Er e → Ax e t x → Okp e (annL c e t ls) (annQ c x ls)
  | [], e, t, x, _, he, ht => ⟨he, ht, id⟩
  | l :: ls, e, t, x, hl, he, ht => by
    obtain ⟨d1, d2, d3⟩ := hl l (List.mem_cons_self ..)
    obtain ⟨e2, a2, l2⟩ := okp_fac hc he d1 d2
    obtain ⟨e3, a3, l3⟩ := okp_mul e2 (ax_chk _ d3) a2
    obtain ⟨e4, a4, l4⟩ := okp_add e3 (ht.late fun h => l2 (l3 h)) a3
    obtain ⟨e5, a5, l5⟩ := okp_ann c hc ls _ _ _ (fun k hk => hl k (List.mem_cons_of_mem _ hk)) e4 a4
    exact ⟨e5, a5, fun h => l2 (l3 (l4 (l5 h)))⟩
theorem priceQ_ann (c : Cu) (r : Rat) : ∀ (ls : List (Int × ByteArray)) (t u : Rat), priceQ c r (t + r * u) ls = t + r * annQ c u ls
  | [], t, u => rfl
  | l :: ls, t, u => by
    unfold priceQ annQ
    rw [← priceQ_ann c r ls t]
    congr 1
    grind
/-- The factor that the point of a new quote would have on a day. -/
def newF (c : Cu) (fr : Rat) (L : Int) (x : Rat) (d : Int) : Rat := if d ≤ c.endK.1 then facQ c d else fr + (x - fr) * Rat.divInt (d - c.endK.1) (L - c.endK.1)
def newQ (c : Cu) (fr : Rat) (L : Int) (x r : Rat) : Rat → List (Int × ByteArray) → Rat
  | t, [] => t
  | t, l :: ls => newQ c fr L x r (t + r * rq l.2 * newF c fr L x l.1) ls
/-- The sums of next: at the factor x of the new point, they give the price of the payments. -/
theorem okp_next (c : Cu) (hc : cuE c = 0) (rate : ByteArray) (hr : rchk rate = 0) (L : Int) (fr : Rat) (hf : ∀ e, Ax e c.endK.2 fr) (h0 : 0 ≤ c.endK.1) (hL : L ≤ 99999) (x : Rat) :
    ∀ (ls : List (Int × ByteArray)) (s : Nx) (α β : Rat), (∀ l ∈ ls, LegOk c l ∧ l.1 ≤ L) → Er s.e → Ax s.e s.a α → Ax s.e s.b β →
      ∃ α' β', Er (nextL c rate L s ls).e ∧ Ax (nextL c rate L s ls).e (nextL c rate L s ls).a α' ∧ Ax (nextL c rate L s ls).e (nextL c rate L s ls).b β' ∧ ((nextL c rate L s ls).e = 0 → s.e = 0) ∧ (∀ t, α + β * x = t + x → α' + β' * x = newQ c fr L x (rq rate) t ls + x)
  | [], s, α, β, _, he, ha, hb => ⟨α, β, he, ha, hb, id, fun _ h => h⟩
  | l :: ls, s, α, β, hl, he, ha, hb => by
    obtain ⟨⟨d1, d2, d3⟩, d4⟩ := hl l (List.mem_cons_self ..)
    obtain ⟨e1, a1, l1⟩ := okp_mul he (ax_chk _ hr) (ax_chk _ d3)
    have hl' : ∀ k ∈ ls, LegOk c k ∧ k.1 ≤ L := fun k hk => hl k (List.mem_cons_of_mem _ hk)
    unfold nextL
    by_cases hk : l.1 ≤ c.endK.1
    · obtain ⟨e2, a2, l2⟩ := okp_fac hc e1 d1 d2
      obtain ⟨e3, a3, l3⟩ := okp_mul e2 (a1.late l2) a2
      obtain ⟨e4, a4, l4⟩ := okp_add e3 (ha.late fun h => l1 (l2 (l3 h))) a3
      have hS : nextS c rate L s l = knownS c s (cOp mulP s.e rate l.2).2 (cOp mulP s.e rate l.2).1 l.1 := by unfold nextS; rw [if_pos hk]
      rw [hS]
      obtain ⟨α', β', q1, q2, q3, q4, q5⟩ := okp_next c hc rate hr L fr hf h0 hL x ls (knownS c s (cOp mulP s.e rate l.2).2 (cOp mulP s.e rate l.2).1 l.1) _ β hl' e4 a4 (hb.late fun h => l1 (l2 (l3 (l4 h))))
      refine ⟨α', β', q1, q2, q3, fun h => l1 (l2 (l3 (l4 (q4 h)))), fun t ht => ?_⟩
      unfold newQ newF
      rw [if_pos hk]
      exact q5 _ (by grind)
    · obtain ⟨e2, a2, l2⟩ := okp_rat (m := l.1 - c.endK.1) (n := L - c.endK.1) e1 (by omega) (by omega) (by omega) (by omega)
      obtain ⟨e3, a3, l3⟩ := okp_sub e2 (ax_one _) a2
      obtain ⟨e4, a4, l4⟩ := okp_mul e3 (hf _) a3
      obtain ⟨e5, a5, l5⟩ := okp_mul e4 (a1.late fun h => l2 (l3 (l4 h))) a4
      obtain ⟨e6, a6, l6⟩ := okp_add e5 (ha.late fun h => l1 (l2 (l3 (l4 (l5 h))))) a5
      obtain ⟨e7, a7, l7⟩ := okp_mul e6 (a1.late fun h => l2 (l3 (l4 (l5 (l6 h))))) (a2.late fun h => l3 (l4 (l5 (l6 h))))
      obtain ⟨e8, a8, l8⟩ := okp_add e7 (hb.late fun h => l1 (l2 (l3 (l4 (l5 (l6 (l7 h))))))) a7
      have hS : nextS c rate L s l = openS c.endK.1 c.endK.2 L s (cOp mulP s.e rate l.2).2 (cOp mulP s.e rate l.2).1 l.1 := by unfold nextS; rw [if_neg hk]
      rw [hS]
      obtain ⟨α', β', q1, q2, q3, q4, q5⟩ := okp_next c hc rate hr L fr hf h0 hL x ls (openS c.endK.1 c.endK.2 L s (cOp mulP s.e rate l.2).2 (cOp mulP s.e rate l.2).1 l.1) _ _ hl' e8 (a6.late fun h => l7 (l8 h)) a8
      refine ⟨α', β', q1, q2, q3, fun h => l1 (l2 (l3 (l4 (l5 (l6 (l7 (l8 (q4 h)))))))), fun t ht => ?_⟩
      unfold newQ newF
      rw [if_neg hk]
      exact q5 _ (by grind)
end Z
end Go.Proofs.Ytpnojgaehafjdaa
