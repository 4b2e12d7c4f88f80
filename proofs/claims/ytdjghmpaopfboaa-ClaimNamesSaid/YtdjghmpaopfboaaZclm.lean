/- Plain: flows and claims, what Check, Open, Update and Net answer. -/
import Derived.Test.YtdjghmpaopfboaaZr
import Derived.Test.YtdjghmpaopfboaaClname
namespace Go.Proofs.Ytdjghmpaopfboaa
namespace Z

/-- A flow: day, from, to, currency, amount. -/
structure Fl where
  d : Int
  f : ByteArray
  t : ByteArray
  c : ByteArray
  a : ByteArray
instance : DecidableEq Fl := fun x y =>
  if h : x.d = y.d ∧ x.f = y.f ∧ x.t = y.t ∧ x.c = y.c ∧ x.a = y.a then
    .isTrue (by obtain ⟨h1, h2, h3, h4, h5⟩ := h; cases x; cases y; simp only at *; subst h1 h2 h3 h4 h5; rfl)
  else .isFalse (fun e => h (by subst e; exact ⟨rfl, rfl, rfl, rfl, rfl⟩))
def opp (x : Fl) : Fl := ⟨x.d, x.t, x.f, x.c, x.a⟩
theorem opp_opp (x : Fl) : opp (opp x) = x := rfl
/-- A claim: its number, what it reverses, its entry, its flow. -/
structure Cl where
  n : Int
  r : Int
  e : Int
  fl : Fl
/-- A text does not begin with a minus sign. -/
def plusB (s : ByteArray) : Bool := match s.data.toList with | [] => true | c :: _ => !((c.toNat : Int) == 45)
def zeroS : ByteArray := ⟨#[48]⟩
theorem eqB (x y : ByteArray) : (x.toList == y.toList) = decide (x = y) := by
  rw [Bool.eq_iff_iff, beq_iff_eq, decide_eq_true_iff, Lib.toList_data, Lib.toList_data]
  constructor
  · intro h
    cases x; cases y
    simp only at h
    congr 1
    exact Array.toList_inj.1 h
  · rintro rfl; rfl
theorem eq0 (x : ByteArray) : (x.toList == [48]) = decide (x = zeroS) := by
  have := eqB x zeroS
  rw [Lib.toList_data zeroS] at this
  exact this
theorem rchk_pos {a : ByteArray} (h : rchk a = 0) : 0 < a.size := by
  rcases Nat.eq_zero_or_pos a.size with h0 | h0
  · obtain rfl : a = ⟨#[]⟩ := by
      cases a with | mk d => congr 1; exact Array.eq_empty_of_size_eq_zero h0
    exact absurd h (by decide)
  · exact h0
theorem plusB_at (s : ByteArray) (h : 0 < s.size) : plusB s = !((s[0].toNat : Int) == 45) := by
  have := at_ofn s 0 h
  unfold plusB
  cases e : s.data.toList with
  | nil => rw [e] at this; cases this
  | cons c r => rw [e] at this; injection this with this; rw [this]
/-- A flow is valid behind a day. -/
def flOk (last : Int) (x : Fl) : Bool :=
  nameB x.f && nameB x.t && nameB x.c && !decide (x.f = x.t) && decide (last ≤ x.d) && decide (x.d ≤ 99999) && decide (rchk x.a = 0) && !decide (x.a = zeroS) && plusB x.a
def flsOk : Int → List Fl → Bool
  | _, [] => true
  | last, x :: r => flOk last x && flsOk x.d r
/-- What CheckFlows answers. -/
def flE (l : List Fl) : Int := if 5000 < l.length then 4 else if flsOk 0 l then 0 else 8
def prevD (l : List Fl) : Nat → Int
  | 0 => 0
  | k + 1 => match l[k]? with | some x => x.d | none => 0
theorem fls_step {l : List Fl} {k : Nat} {x : Fl} (h : l[k]? = some x) : flsOk (prevD l k) (l.drop k) = (flOk (prevD l k) x && flsOk (prevD l (k + 1)) (l.drop (k + 1))) := by
  obtain ⟨hlt, rfl⟩ := List.getElem?_eq_some_iff.1 h
  have e : prevD l (k + 1) = l[k].d := by show (match l[k]? with | some x => x.d | none => 0) = _; rw [h]
  rw [e, List.drop_eq_getElem_cons hlt]
  rfl
theorem fls_end (l : List Fl) (p : Int) : flsOk p (l.drop l.length) = true := by simp [flsOk]
/-- One of some claims reverses the number k. -/
def gone (l : List Cl) (k : Int) : Bool := l.any fun x => decide (x.r = k)
theorem gone_yes {l : List Cl} {k : Nat} {x : Cl} {n : Int} (h : l[k]? = some x) (e : x.r = n) : gone l n = true := by
  unfold gone
  rw [List.any_eq_true]
  exact ⟨x, List.mem_of_getElem? h, decide_eq_true e⟩
theorem gone_step {l : List Cl} {k : Nat} {x : Cl} {n : Int} (h : l[k]? = some x) (h0 : gone (l.take k) n = false) (e : ¬ x.r = n) : gone (l.take (k + 1)) n = false := by
  obtain ⟨hlt, rfl⟩ := List.getElem?_eq_some_iff.1 h
  unfold gone at *
  rw [List.take_succ_eq_append_getElem hlt, List.any_append, h0]
  simp [e]
theorem gone_snoc {l : List Cl} {k : Nat} {x : Cl} {n : Int} (h : l[k]? = some x) : gone (l.take (k + 1)) n = (gone (l.take k) n || decide (x.r = n)) := by
  obtain ⟨hlt, rfl⟩ := List.getElem?_eq_some_iff.1 h
  unfold gone at *
  rw [List.take_succ_eq_append_getElem hlt, List.any_append]
  simp
/-- The claim x is valid behind the claims l. -/
def prevE (l : List Cl) : Nat → Int
  | 0 => 0
  | k + 1 => match l[k]? with | some x => x.e | none => 0
def revOk (l : List Cl) (i : Nat) (x : Cl) : Bool :=
  decide (x.r = 0) || (decide (1 ≤ x.r) && decide (x.r ≤ i) && !gone (l.take i) x.r && (match l[(x.r - 1).toNat]? with | some y => decide (y.r = 0) && decide (y.fl = opp x.fl) | none => false))
def clOk (l : List Cl) (i : Nat) (x : Cl) : Bool :=
  decide (x.n = i + 1) && decide (0 ≤ x.e) && decide (x.e ≤ 1125899906842624) && decide (prevE l i ≤ x.e) && decide (flE [x.fl] = 0) && revOk l i x
def clsOk (l : List Cl) : Nat → List Cl → Bool
  | _, [] => true
  | i, x :: r => clOk l i x && clsOk l (i + 1) r
/-- Claims are valid. -/
def valid (l : List Cl) : Bool := decide (l.length ≤ 5000) && clsOk l 0 l
theorem cls_step {l : List Cl} {k : Nat} {x : Cl} (h : l[k]? = some x) : clsOk l k (l.drop k) = (clOk l k x && clsOk l (k + 1) (l.drop (k + 1))) := by
  obtain ⟨hlt, rfl⟩ := List.getElem?_eq_some_iff.1 h
  rw [List.drop_eq_getElem_cons hlt]
  rfl
theorem cls_end (l : List Cl) (i : Nat) : clsOk l i (l.drop l.length) = true := by simp [clsOk]
/-- A claim is open among claims. -/
def isOpen (l : List Cl) (x : Cl) : Bool := decide (x.r = 0) && !gone l x.n
/-- The open claims. -/
def openL (l : List Cl) : List Cl := l.filter (isOpen l)
end Z
end Go.Proofs.Ytdjghmpaopfboaa
