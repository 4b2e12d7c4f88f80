/- Plain: factors as a search over the knots. -/
import Derived.Test.YtpnojgaehafjdaaCve
namespace Go.Proofs.Ytpnojgaehafjdaa
namespace Z
/-- The factor on a day behind the knot (a, f), searched among these knots. -/
def fk (e day : Int) : Int → ByteArray → List (Int × ByteArray) → ByteArray × Int
  | _, f, [] => (f, e)
  | a, f, p :: r =>
    if p.1 = day then (p.2, e)
    else if day < p.1 then
      let w := cRat e (day - a) (p.1 - a)
      let g := cOp subP w.2 p.2 f
      let m := cOp mulP g.2 g.1 w.1
      cOp addP m.2 f m.1
    else fk e day p.1 p.2 r
theorem fk_map (e day : Int) : ∀ (l : List Pt) (a : Int) (f : ByteArray), fk e day a f (l.map fun p => (p.d, p.f)) = facL e day a f l
  | [], _, _ => rfl
  | p :: r, a, f => by
    rw [List.map_cons]
    unfold fk facL
    rw [fk_map e day r]
theorem fk_kn {c : Cu} {e day : Int} (h : c.base ≤ day) : fk e day c.base z49 c.kn = fac e c day := by
  unfold Cu.kn fk fac
  by_cases h2 : c.base = day
  · rw [if_pos h2, if_pos h2.symm]
  · rw [if_neg h2, if_neg (show ¬ day < c.base by omega), if_neg (show ¬ day = c.base from fun h3 => h2 h3.symm)]
    exact fk_map e day c.pts c.base z49
theorem pts_ok : ∀ (l : List Pt) (a : Int), ptsE a l = 0 → ∀ p ∈ l, (0 ≤ p.d ∧ p.d ≤ 99999) ∧ p.f.size ≤ 2100
  | [], _, _, p, hp => by cases hp
  | q :: r, a, h, p, hp => by
    obtain ⟨g1, _, g3, _, g5⟩ := ptsE_cons h
    rcases List.mem_cons.1 hp with rfl | hp
    · refine ⟨g1, ?_⟩
      rw [← (rok g3).text]
      exact Q_size (rok g3).fit
    · exact pts_ok r q.d g5 p hp
theorem kn_ok {c : Cu} (hc : cuE c = 0) : ∀ x ∈ c.kn, (0 ≤ x.1 ∧ x.1 ≤ 99999) ∧ x.2.size ≤ 2100 := by
  intro x hx
  obtain ⟨_, hb, hp⟩ := cuE_ok hc
  unfold Cu.kn at hx
  rcases List.mem_cons.1 hx with rfl | hx
  · exact ⟨hb, by show z49.size ≤ 2100; decide⟩
  · obtain ⟨p, hp2, rfl⟩ := List.mem_map.1 hx
    exact pts_ok _ _ hp p hp2
/-- The last of the knots that have come, or the first of all. -/
def lastB {c : Cu} (pre : List (Kn c)) : Int × ByteArray := (pre.map Subtype.val).getLastD (c.base, z49)
theorem lastB_nil (c : Cu) : lastB ([] : List (Kn c)) = (c.base, z49) := rfl
theorem lastB_snoc {c : Cu} (pre : List (Kn c)) (x : Kn c) : lastB (pre ++ [x]) = x.1 := by simp [lastB]
/-- What is known in the middle of the search. -/
def Fk (c : Cu) (e day : Int) (pre : List (Kn c)) : Prop := (0 ≤ (lastB pre).1 ∧ (lastB pre).1 ≤ day ∧ (lastB pre).2.size ≤ 2100) ∧ ∀ rest : List (Kn c), c.kns = pre ++ rest → fk e day c.base z49 c.kn = fk e day (lastB pre).1 (lastB pre).2 (rest.map Subtype.val)
theorem Fk.nil {c : Cu} {e day : Int} (hc : cuE c = 0) (h : c.base ≤ day) : Fk c e day [] := by
  refine ⟨⟨(cuE_ok hc).2.1.1, h, by show z49.size ≤ 2100; decide⟩, fun rest hr => ?_⟩
  rw [List.nil_append] at hr
  rw [lastB_nil, ← hr, kns_map]
theorem Fk.next {c : Cu} {e day : Int} {pre : List (Kn c)} {x : Kn c} (hc : cuE c = 0) (h : Fk c e day pre) (h1 : ¬ x.1.1 = day) (h2 : ¬ day < x.1.1) : Fk c e day (pre ++ [x]) := by
  obtain ⟨g1, g2⟩ := kn_ok hc x.1 x.2
  refine ⟨by rw [lastB_snoc]; exact ⟨g1.1, by omega, g2⟩, fun rest hr => ?_⟩
  rw [lastB_snoc, h.2 (x :: rest) (by rw [hr]; simp), List.map_cons]
  conv => lhs; unfold fk
  rw [if_neg h1, if_neg h2]
theorem Fk.hit {c : Cu} {e day : Int} {pre rest : List (Kn c)} {x : Kn c} (h : Fk c e day pre) (hr : c.kns = (pre ++ [x]) ++ rest) (h1 : x.1.1 = day) : fk e day c.base z49 c.kn = (x.1.2, e) := by
  rw [h.2 (x :: rest) (by rw [hr]; simp), List.map_cons]
  unfold fk
  rw [if_pos h1]
theorem Fk.mid {c : Cu} {e day : Int} {pre rest : List (Kn c)} {x : Kn c} (h : Fk c e day pre) (hr : c.kns = (pre ++ [x]) ++ rest) (h1 : ¬ x.1.1 = day) (h2 : day < x.1.1) :
    fk e day c.base z49 c.kn = cOp addP (cOp mulP (cOp subP (cRat e (day - (lastB pre).1) (x.1.1 - (lastB pre).1)).2 x.1.2 (lastB pre).2).2 (cOp subP (cRat e (day - (lastB pre).1) (x.1.1 - (lastB pre).1)).2 x.1.2 (lastB pre).2).1 (cRat e (day - (lastB pre).1) (x.1.1 - (lastB pre).1)).1).2 (lastB pre).2 (cOp mulP (cOp subP (cRat e (day - (lastB pre).1) (x.1.1 - (lastB pre).1)).2 x.1.2 (lastB pre).2).2 (cOp subP (cRat e (day - (lastB pre).1) (x.1.1 - (lastB pre).1)).2 x.1.2 (lastB pre).2).1 (cRat e (day - (lastB pre).1) (x.1.1 - (lastB pre).1)).1).1 := by
  rw [h.2 (x :: rest) (by rw [hr]; simp), List.map_cons]
  conv => lhs; unfold fk
  rw [if_neg h1, if_pos h2]
theorem Fk.end_ {c : Cu} {e day : Int} (h : Fk c e day c.kns) : fk e day c.base z49 c.kn = ((lastB c.kns).2, e) := by
  rw [h.2 [] (by simp)]
  rfl
theorem facL_sz {e day : Int} : ∀ (l : List Pt) (a : Int) (f : ByteArray), ptsE a l = 0 → f.size ≤ 2100 → (facL e day a f l).1.size ≤ 2100
  | [], _, _, _, h => h
  | p :: r, a, f, hp, h => by
    have h2 := (pts_ok (p :: r) a hp p (List.mem_cons_self ..)).2
    unfold facL
    split
    · exact h2
    · split
      · exact cOp_sz sz_add _ _ _
      · exact facL_sz r p.d p.f (ptsE_cons hp).2.2.2.2 h2
end Z
theorem fac_sz {c : Z.Cu} (hc : Z.cuE c = 0) (e day : Int) : (Z.fac e c day).1.size ≤ 2100 := by
  unfold Z.fac
  split
  · show Z.z49.size ≤ 2100
    decide
  · exact Z.facL_sz _ _ _ (Z.cuE_ok hc).2.2 (by show Z.z49.size ≤ 2100; decide)
end Go.Proofs.Ytpnojgaehafjdaa
