/- Plain: operations with a running error; curves, quotes, and what the package curve answers. -/
import Derived.Test.YtpnojgaehafjdaaZrt
namespace Go.Proofs.Ytpnojgaehafjdaa
namespace Z
theorem lt_of_res {x : Int} (h : resE x = 0) : Lt 1000 x := by
  obtain ⟨z, e, hl⟩ := int_of (res_fit h).2
  have : ival (S x).data.toList = ival (S z).data.toList := by rw [e]
  rw [ival_S, ival_S] at this
  rw [this]; exact hl
theorem fit_div {x y : Int} (hx : resE x = 0) (hy : resE y = 0) (h0 : 0 < y) : Fit (Rat.divInt x y) := by
  obtain ⟨h1, h2⟩ := div_num_pos (x := x) h0
  have l1 : Lt 1000 (Rat.divInt x y).num := by rw [h1]; exact (lt_of_res hx).of_le (Int.natAbs_ediv_le_natAbs _ _)
  have l2 : Lt 1000 ((Rat.divInt x y).den : Int) := by rw [h2]; exact (lt_of_res hy).of_le (Int.natAbs_ediv_le_natAbs _ _)
  have r1 := (resS_ok (l1.res (by decide) (by decide)).1).2
  have r2 := (resS_ok (l2.res (by decide) (by decide)).1).2
  exact ⟨r1, by simpa using r2⟩
theorem fit_div' {x y : Int} (hx : resE x = 0) (hy : resE y = 0) (h0 : y ≠ 0) : Fit (Rat.divInt x y) := by
  by_cases hp : 0 < y
  · exact fit_div hx hy hp
  · rw [← Rat.neg_divInt_neg]
    exact fit_div (by rw [resE_neg]; exact hx) (by rw [resE_neg]; exact hy) (by omega)
theorem rop_inv {l : List Int} {a b : ByteArray} (h : ropE l a b = 0) : ROk a ∧ ROk b ∧ fitL l = true := by
  unfold ropE at h
  split at h
  · rename_i hb
    obtain ⟨oa, ob⟩ := rbothE_ok hb
    split at h
    · rename_i hf
      exact ⟨oa, ob, hf⟩
    · cases h
  · rename_i hb
    exact absurd h hb
/-- The four operations: text and error. -/
def addP (a b : ByteArray) : ByteArray × Int := (ropS (lAdd a b) (rq a + rq b) a b, ropE (lAdd a b) a b)
def subP (a b : ByteArray) : ByteArray × Int := (ropS (lSub a b) (rq a - rq b) a b, ropE (lSub a b) a b)
def mulP (a b : ByteArray) : ByteArray × Int := (ropS (lMul a b) (rq a * rq b) a b, ropE (lMul a b) a b)
def divP (a b : ByteArray) : ByteArray × Int := (rdivS a b, rdivE a b)
def z48 : ByteArray := ⟨#[48]⟩
def z49 : ByteArray := ⟨#[49]⟩
def zm1 : ByteArray := ⟨#[45, 49]⟩
/-- An operation with a running error. -/
def cOp (f : ByteArray → ByteArray → ByteArray × Int) (e : Int) (a b : ByteArray) : ByteArray × Int := if e = 0 then f a b else (z48, e)
/-- A quotient of differences of days. -/
def cRat (e a b : Int) : ByteArray × Int := if e = 0 then (Q (Rat.divInt a b), 0) else (z48, e)
theorem cOp_ok (f : ByteArray → ByteArray → ByteArray × Int) (a b : ByteArray) : cOp f 0 a b = f a b := rfl
theorem cOp_err (f : ByteArray → ByteArray → ByteArray × Int) {e : Int} (h : e ≠ 0) (a b : ByteArray) : cOp f e a b = (z48, e) := if_neg h
theorem cRat_err {e : Int} (h : e ≠ 0) (a b : Int) : cRat e a b = (z48, e) := if_neg h
/-- What an operation of the four says of sizes: its text is small. -/
def Sz (f : ByteArray → ByteArray → ByteArray × Int) : Prop := ∀ a b, (f a b).1.size ≤ 2100
theorem sz_q {q : Rat} {s : ByteArray} {k : Int} (h0 : k ≠ 0 → s = ⟨#[]⟩) (h1 : k = 0 → s = Q q ∧ Fit q) : s.size ≤ 2100 := by
  by_cases h : k = 0
  · obtain ⟨rfl, hf⟩ := h1 h
    exact Q_size hf
  · rw [h0 h]; decide
theorem add_ex {a b : ByteArray} (h : (addP a b).2 = 0) : (addP a b).1 = Q (rq a + rq b) ∧ Fit (rq a + rq b) := by
  have e : (addP a b).1 = Q (rq a + rq b) := if_pos h
  obtain ⟨oa, ob, hf⟩ := rop_inv h
  unfold lAdd at hf
  rw [fit4] at hf
  simp at hf
  have hda : Z.rd a ≠ 0 := by have := oa.pos; omega
  have hdb : Z.rd b ≠ 0 := by have := ob.pos; omega
  refine ⟨e, ?_⟩
  rw [oa.self, ob.self, Rat.divInt_add_divInt _ _ hda hdb]
  exact fit_div hf.2.2.1 hf.2.2.2 (Int.mul_pos oa.pos ob.pos)
theorem sub_ex {a b : ByteArray} (h : (subP a b).2 = 0) : (subP a b).1 = Q (rq a - rq b) ∧ Fit (rq a - rq b) := by
  have e : (subP a b).1 = Q (rq a - rq b) := if_pos h
  obtain ⟨oa, ob, hf⟩ := rop_inv h
  unfold lSub at hf
  rw [fit4] at hf
  simp at hf
  have hda : Z.rd a ≠ 0 := by have := oa.pos; omega
  have hdb : Z.rd b ≠ 0 := by have := ob.pos; omega
  refine ⟨e, ?_⟩
  rw [oa.self, ob.self, Rat.divInt_sub_divInt _ _ hda hdb, show Z.rn a * Z.rd b - Z.rn b * Z.rd a = Z.rn a * Z.rd b + -(Z.rn b * Z.rd a) by omega]
  exact fit_div hf.2.2.1 hf.2.2.2 (Int.mul_pos oa.pos ob.pos)
theorem mul_ex {a b : ByteArray} (h : (mulP a b).2 = 0) : (mulP a b).1 = Q (rq a * rq b) ∧ Fit (rq a * rq b) := by
  have e : (mulP a b).1 = Q (rq a * rq b) := if_pos h
  obtain ⟨oa, ob, hf⟩ := rop_inv h
  unfold lMul at hf
  rw [fit2] at hf
  simp at hf
  refine ⟨e, ?_⟩
  rw [oa.self, ob.self, Rat.divInt_mul_divInt]
  exact fit_div hf.1 hf.2 (Int.mul_pos oa.pos ob.pos)
theorem div_ex {a b : ByteArray} (h : (divP a b).2 = 0) : (divP a b).1 = Q (rq a / rq b) ∧ Fit (rq a / rq b) ∧ rq b ≠ 0 := by
  have e : (divP a b).1 = Q (rq a / rq b) := if_pos h
  have h' : rdivE a b = 0 := h
  unfold rdivE at h'
  split at h'
  · cases h'
  · rename_i hn
    obtain ⟨oa, ob, hf⟩ := rop_inv h'
    have hb : rn b ≠ 0 := by
      intro h0
      apply hn
      refine ⟨?_, h0⟩
      unfold ropE at h'
      split at h'
      · assumption
      · assumption
    unfold lDiv at hf
    rw [fit2] at hf
    simp at hf
    refine ⟨e, ?_, ?_⟩
    · rw [oa.self, ob.self, div_divInt]
      exact fit_div' hf.1 hf.2 (Int.mul_ne_zero (by have := oa.pos; omega) hb)
    · intro h0
      apply hb
      rw [← ob.num.1, h0]; rfl
theorem sz_add : Sz addP := fun _ _ => sz_q (fun h => if_neg h) add_ex
theorem sz_sub : Sz subP := fun _ _ => sz_q (fun h => if_neg h) sub_ex
theorem sz_mul : Sz mulP := fun _ _ => sz_q (fun h => if_neg h) mul_ex
theorem sz_div : Sz divP := fun _ _ => sz_q (fun h => if_neg h) (fun h => ⟨(div_ex h).1, (div_ex h).2.1⟩)
theorem z48_sz : z48.size ≤ 2100 := by decide
theorem cOp_sz {f : ByteArray → ByteArray → ByteArray × Int} (h : Sz f) (e : Int) (a b : ByteArray) : (cOp f e a b).1.size ≤ 2100 := by
  unfold cOp
  split
  · exact h a b
  · exact z48_sz
theorem lt_days {x : Int} (h : -100000 < x) (h2 : x < 100000) : Lt 6 x := by
  unfold Lt
  omega
theorem rt_days {a b : Int} (h0 : -100000 < a) (h1 : a < 100000) (h2 : 0 < b) (h3 : b < 100000) : Rt 6 (Rat.divInt a b) := rt_divInt (lt_days h0 h1) (lt_days (by omega) h3) h2
theorem cRat_sz {e a b : Int} (h0 : -100000 < a) (h1 : a < 100000) (h2 : 0 < b) (h3 : b < 100000) : (cRat e a b).1.size ≤ 2100 := by
  unfold cRat
  split
  · exact (rt_days h0 h1 h2 h3).size (by omega) (by omega)
  · exact z48_sz

/-! Curves and quotes. -/
structure Pt where
  d : Int
  f : ByteArray
structure Cu where
  base : Int
  pts : List Pt
structure Qt where
  dates : List Int
  parts : List ByteArray
  rate : ByteArray
def dayB (d : Int) : Bool := decide (0 ≤ d) && decide (d ≤ 99999)
/-- A canonical number is positive. -/
def posB (r : ByteArray) : Bool := !(r.toList == [48]) && !isNeg r.data.toList
def ptsE : Int → List Pt → Int
  | _, [] => 0
  | last, p :: r => if dayB p.d = true ∧ last < p.d ∧ rchk p.f = 0 ∧ posB p.f = true then ptsE p.d r else 8
def cuE (c : Cu) : Int := if 100 < c.pts.length then 4 else if dayB c.base = true then ptsE c.base c.pts else 8
/-- The last knot. -/
def endK : Int → ByteArray → List Pt → Int × ByteArray
  | d, f, [] => (d, f)
  | _, _, p :: r => endK p.d p.f r
def Cu.endK (c : Cu) : Int × ByteArray := Z.endK c.base z49 c.pts
def Cu.has (c : Cu) (d : Int) : Bool := decide (c.base ≤ d) && decide (d ≤ c.endK.1)
/-- The factor on a day behind a knot, with a running error. -/
def facL (e day : Int) : Int → ByteArray → List Pt → ByteArray × Int
  | _, f, [] => (f, e)
  | a, f, p :: r =>
    if p.d = day then (p.f, e)
    else if day < p.d then
      let w := cRat e (day - a) (p.d - a)
      let g := cOp subP w.2 p.f f
      let m := cOp mulP g.2 g.1 w.1
      cOp addP m.2 f m.1
    else facL e day p.d p.f r
def fac (e : Int) (c : Cu) (day : Int) : ByteArray × Int := if day = c.base then (z49, e) else facL e day c.base z49 c.pts
/-- A result, or an error alone. -/
def done (p : ByteArray × Int) : ByteArray × Int := if p.2 = 0 then p else (⟨#[]⟩, p.2)
def factorR (c : Cu) (day : Int) : ByteArray × Int := if cuE c = 0 then (if c.has day = true then done (fac 0 c day) else (⟨#[]⟩, 6)) else (⟨#[]⟩, cuE c)
def betweenR (c : Cu) (a b : Int) : ByteArray × Int :=
  if cuE c = 0 then (if b < a then (⟨#[]⟩, 2) else if c.has a = true ∧ c.has b = true then
    let x := fac 0 c b
    let y := fac x.2 c a
    done (cOp divP y.2 x.1 y.1)
  else (⟨#[]⟩, 6)) else (⟨#[]⟩, cuE c)
def datesB : Int → List Int → Bool
  | _, [] => true
  | last, d :: r => dayB d && decide (last < d) && datesB d r
def Qt.ok (q : Qt) (base : Int) : Bool := dayB base && decide (0 < q.dates.length) && decide (q.parts.length = q.dates.length) && decide (rchk q.rate = 0) && datesB base q.dates && q.parts.all fun p => decide (rchk p = 0)
def qtE (q : Qt) (base : Int) : Int := if 40 < q.dates.length then 4 else if q.ok base = true then 0 else 8
def Qt.last (q : Qt) : Int := q.dates.getLastD 0
def cqE (c : Cu) (q : Qt) : Int := if cuE c = 0 then (if qtE q c.base = 0 then (if c.has q.last = true then 0 else 6) else qtE q c.base) else cuE c
def Qt.legs (q : Qt) : List (Int × ByteArray) := q.dates.zip q.parts
/-- Price: the sum over the payments. -/
def priceL (c : Cu) (rate : ByteArray) : Int → ByteArray → List (Int × ByteArray) → ByteArray × Int
  | e, t, [] => (t, e)
  | e, t, l :: r =>
    let m := cOp mulP e rate l.2
    let x := fac m.2 c l.1
    let k := cOp mulP x.2 m.1 x.1
    let s := cOp addP k.2 t k.1
    priceL c rate s.2 s.1 r
def priceR (c : Cu) (q : Qt) : ByteArray × Int :=
  if Z.cqE c q = 0 then
    let t := priceL c q.rate 0 zm1 q.legs
    let x := fac t.2 c q.last
    done (cOp addP x.2 t.1 x.1)
  else (⟨#[]⟩, Z.cqE c q)
def annL (c : Cu) : Int → ByteArray → List (Int × ByteArray) → ByteArray × Int
  | e, t, [] => (t, e)
  | e, t, l :: r =>
    let x := fac e c l.1
    let m := cOp mulP x.2 l.2 x.1
    let s := cOp addP m.2 t m.1
    annL c s.2 s.1 r
def parR (c : Cu) (q : Qt) : ByteArray × Int :=
  if Z.cqE c q = 0 then
    let t := annL c 0 z48 q.legs
    if t.2 = 0 ∧ t.1 = z48 then (⟨#[]⟩, 16)
    else
      let x := fac t.2 c q.last
      let n := cOp subP x.2 z49 x.1
      done (cOp divP n.2 n.1 t.1)
  else (⟨#[]⟩, Z.cqE c q)
/-- What next has summed up: its error, the known part, the factor of the open part. -/
structure Nx where
  e : Int
  a : ByteArray
  b : ByteArray
def knownS (c : Cu) (s : Nx) (e : Int) (k : ByteArray) (d : Int) : Nx :=
  let x := fac e c d
  let m := cOp mulP x.2 k x.1
  let t := cOp addP m.2 s.a m.1
  ⟨t.2, t.1, s.b⟩
def openS (from_ : Int) (f : ByteArray) (L : Int) (s : Nx) (e : Int) (k : ByteArray) (d : Int) : Nx :=
  let w := cRat e (d - from_) (L - from_)
  let g := cOp subP w.2 z49 w.1
  let h := cOp mulP g.2 f g.1
  let m := cOp mulP h.2 k h.1
  let t := cOp addP m.2 s.a m.1
  let n := cOp mulP t.2 k w.1
  let u := cOp addP n.2 s.b n.1
  ⟨u.2, t.1, u.1⟩
def nextS (c : Cu) (rate : ByteArray) (L : Int) (s : Nx) (l : Int × ByteArray) : Nx :=
  let k := cOp mulP s.e rate l.2
  if l.1 ≤ c.endK.1 then knownS c s k.2 k.1 l.1 else openS c.endK.1 c.endK.2 L s k.2 k.1 l.1
def nextL (c : Cu) (rate : ByteArray) (L : Int) : Nx → List (Int × ByteArray) → Nx
  | s, [] => s
  | s, l :: r => nextL c rate L (nextS c rate L s l) r
def nextEnd (s : Nx) : ByteArray × Int :=
  if s.e = 0 ∧ s.b = z48 then (⟨#[]⟩, 60)
  else
    let n := cOp subP s.e z48 s.a
    let x := cOp divP n.2 n.1 s.b
    if x.2 = 0 then (if posB x.1 = true then (x.1, 0) else (⟨#[]⟩, 60)) else (⟨#[]⟩, x.2)
def nextR (c : Cu) (q : Qt) : ByteArray × Int := nextEnd (nextL c q.rate q.last ⟨0, zm1, z49⟩ q.legs)
def qtsE (base : Int) : List Qt → Int
  | [] => 0
  | q :: r => if qtE q base = 0 then qtsE base r else qtE q base
def ascQ : Int → List Qt → Bool
  | _, [] => true
  | last, q :: r => decide (last < q.last) && ascQ q.last r
def build : Cu → List Qt → Cu × Int
  | c, [] => (c, 0)
  | c, q :: r => if (nextR c q).2 = 0 then build ⟨c.base, c.pts ++ [⟨q.last, (nextR c q).1⟩]⟩ r else (⟨0, []⟩, (nextR c q).2)
def bootR (base : Int) (l : List Qt) : Cu × Int :=
  if dayB base = true then (if 50 < l.length then (⟨0, []⟩, 4) else if qtsE base l = 0 then (if ascQ base l = true then build ⟨base, []⟩ l else (⟨0, []⟩, 40)) else (⟨0, []⟩, qtsE base l)) else (⟨0, []⟩, 2)
end Z
end Go.Proofs.Ytpnojgaehafjdaa
