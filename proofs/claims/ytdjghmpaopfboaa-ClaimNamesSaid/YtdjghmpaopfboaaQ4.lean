/- Q4: Qv Qw Qx Qy Qz Qgreat -/
import Derived.Test.YtdjghmpaopfboaaQ2
import Derived.Test.YtdjghmpaopfboaaQadd
import Derived.Test.YtdjghmpaopfboaaQsub
import Derived.Test.YtdjghmpaopfboaaQ3
import Derived.Test.YtdjghmpaopfboaaR2
/- What rational.Mul, Add, Sub, Div and Compare answer (the package). -/

namespace Go.Proofs.Ytdjghmpaopfboaa
open Go.RowKit

namespace Z
def lMul (a b : ByteArray) : List Int := [rn a * rn b, rd a * rd b]
def lAdd (a b : ByteArray) : List Int := [rn a * rd b, rn b * rd a, rn a * rd b + rn b * rd a, rd a * rd b]
def lSub (a b : ByteArray) : List Int := [rn a * rd b, rn b * rd a, rn a * rd b + -(rn b * rd a), rd a * rd b]
def lDiv (a b : ByteArray) : List Int := [rn a * rd b, rd a * rn b]
def lCmp (a b : ByteArray) : List Int := [rn a * rd b, rn b * rd a]
theorem ROk.self {s : ByteArray} (_h : ROk s) : rq s = Rat.divInt (rn s) (rd s) := rfl
theorem fit2 {x y : Int} : fitL [x, y] = (decide (resE x = 0) && decide (resE y = 0)) := by simp [fitL]
theorem fit4 {x y z u : Int} : fitL [x, y, z, u] = (decide (resE x = 0) && (decide (resE y = 0) && (decide (resE z = 0) && decide (resE u = 0)))) := by simp [fitL]
end Z
/-- The operation on two integers without error, as a contract. -/
theorem opC_of {F : Nat} {f : Int → Int → Int} {x y : Int} (hx : Z.chk (Z.S x).data.toList = 0) (hy : Z.chk (Z.S y).data.toList = 0) (C : ∀ (a b : ByteArray) (w : World), a.size ≤ maxLen → b.size ≤ maxLen → Calls Try.prog F #[.string a, .string b] w (OpRet f a b w)) :
    OpC F (Z.S x) (Z.S y) (Z.resS (f x y)) (Z.resE (f x y)) := by
  intro W
  have := C (Z.S x) (Z.S y) W (Z.chk_max hx) (Z.chk_max hy)
  unfold OpRet at this
  rwa [(Z.opS_ints (f := f) hx hy).1, (Z.opS_ints (f := f) hx hy).2] at this
theorem opC_mul2 {x y : Int} (hx : Z.chk (Z.S x).data.toList = 0) (hy : Z.chk (Z.S y).data.toList = 0) : OpC 51 (Z.S x) (Z.S y) (Z.resS (x * y)) (Z.resE (x * y)) := opC_of (f := fun x y => x * y) hx hy mul_any
theorem opC_add2 {x y : Int} (hx : Z.chk (Z.S x).data.toList = 0) (hy : Z.chk (Z.S y).data.toList = 0) : OpC 52 (Z.S x) (Z.S y) (Z.resS (x + y)) (Z.resE (x + y)) := opC_of (f := fun x y => x + y) hx hy add_any
theorem opC_sub2 {x y : Int} (hx : Z.chk (Z.S x).data.toList = 0) (hy : Z.chk (Z.S y).data.toList = 0) : OpC 54 (Z.S x) (Z.S y) (Z.resS (x + -y)) (Z.resE (x + -y)) := opC_of (f := fun x y => x + -y) hx hy sub_any
theorem both_S {a b : ByteArray} {w : World} (hv : HasV w) (ha : a.size ≤ 100000) (hb : b.size ≤ 100000) (h : Z.rbothE a b = 0) :
    Calls Try.prog 49 #[.string a, .string b] w (BothP (Z.S (Z.rn a)) (Z.S (Z.rn b)) (Z.S (Z.rd a)) (Z.S (Z.rd b)) 0 w) := by
  have := both_ok a b w hv ha hb h
  obtain ⟨oa, ob⟩ := Z.rbothE_ok h
  rwa [oa.chks.2.2.1, oa.chks.2.2.2, ob.chks.2.2.1, ob.chks.2.2.2] at this
theorem ropS_big {l : List Int} {v : Rat} {a b : ByteArray} (h : Z.rbothE a b = 0) (hf : Z.fitL l = false) : Z.ropS l v a b = ⟨#[]⟩ ∧ Z.ropE l a b = 14 := by
  unfold Z.ropS Z.ropE
  rw [if_pos h, hf]; exact ⟨rfl, rfl⟩
theorem ropS_ok {l : List Int} {v : Rat} {a b : ByteArray} (h : Z.rbothE a b = 0) (hf : Z.fitL l = true) : Z.ropS l v a b = Z.Q v ∧ Z.ropE l a b = 0 := by
  unfold Z.ropS Z.ropE
  rw [if_pos h, hf]; exact ⟨rfl, rfl⟩
theorem ropS_bad {l : List Int} {v : Rat} {a b : ByteArray} (h : Z.rbothE a b ≠ 0) : Z.ropS l v a b = ⟨#[]⟩ ∧ Z.ropE l a b = Z.rbothE a b := by
  unfold Z.ropS Z.ropE
  rw [if_neg h, if_neg h]; exact ⟨rfl, rfl⟩
theorem qadd_any (a b : ByteArray) (w : World) (hv : HasV w) (ha : a.size ≤ 100000) (hb : b.size ≤ 100000) :
    Calls Try.prog 39 #[.string a, .string b] w (RopRet (Z.lAdd a b) (Z.rq a + Z.rq b) a b w) := by
  unfold RopRet
  by_cases h : Z.rbothE a b = 0
  · obtain ⟨oa, ob⟩ := Z.rbothE_ok h
    obtain ⟨a1, a2, _, _⟩ := oa.chks
    obtain ⟨b1, b2, _, _⟩ := ob.chks
    have fits : ∀ {b}, Z.fitL (Z.lAdd a b) = (decide (Z.resE (Z.rn a * Z.rd b) = 0) && (decide (Z.resE (Z.rn b * Z.rd a) = 0) && (decide (Z.resE (Z.rn a * Z.rd b + Z.rn b * Z.rd a) = 0) && decide (Z.resE (Z.rd a * Z.rd b) = 0)))) := fun {b} => by unfold Z.lAdd; rw [Z.fit4]
    refine qadd_core a b (Z.S (Z.rn a)) (Z.S (Z.rn b)) (Z.S (Z.rd a)) (Z.S (Z.rd b)) (Z.resS (Z.rn a * Z.rd b)) (Z.resS (Z.rn b * Z.rd a)) (Z.resS (Z.rn a * Z.rd b + Z.rn b * Z.rd a)) (Z.resS (Z.rd a * Z.rd b))
      (Z.resE (Z.rn a * Z.rd b)) (Z.resE (Z.rn b * Z.rd a)) (Z.resE (Z.rn a * Z.rd b + Z.rn b * Z.rd a)) (Z.resE (Z.rd a * Z.rd b)) _ _ w (both_S hv ha hb h) (opC_mul2 a1 b2) (fun _ => opC_mul2 b1 a2)
      (fun k1 k2 => by rw [(Z.res_fit k1).1, (Z.res_fit k2).1]; exact opC_add2 (Z.res_fit k1).2 (Z.res_fit k2).2) (fun _ _ _ => opC_mul2 a2 b2) (fun k1 => ?_) (fun k1 k2 => ?_) (fun k1 k2 k3 => ?_) (fun k1 k2 k3 k4 => ?_) (fun k1 k2 k3 k4 => ?_)
    · rw [Z.res_14 k1]
      exact ropS_big h (by rw [fits, decide_eq_false k1]; rfl)
    · rw [Z.res_14 k2]
      exact ropS_big h (by rw [fits, decide_eq_false k2]; simp)
    · rw [Z.res_14 k3]
      exact ropS_big h (by rw [fits, decide_eq_false k3]; simp)
    · rw [Z.res_14 k4]
      exact ropS_big h (by rw [fits, decide_eq_false k4]; simp)
    · obtain ⟨s3, c3⟩ := Z.res_fit k3
      obtain ⟨s4, c4⟩ := Z.res_fit k4
      have hda : Z.rd a ≠ 0 := by have := oa.pos; omega
      have hdb : Z.rd b ≠ 0 := by have := ob.pos; omega
      obtain ⟨m1, m2⟩ := Z.make_S c3 c4 (Int.mul_ne_zero hda hdb)
      obtain ⟨r1, r2⟩ := ropS_ok (l := Z.lAdd a b) (v := Z.rq a + Z.rq b) h (by rw [fits, decide_eq_true k1, decide_eq_true k2, decide_eq_true k3, decide_eq_true k4]; rfl)
      rw [s3, s4, m1, m2, r1, r2]
      refine ⟨Z.chk_max c3, Z.chk_max c4, ?_, rfl⟩
      rw [oa.self, ob.self, Rat.divInt_add_divInt _ _ hda hdb]
  · obtain ⟨r1, r2⟩ := ropS_bad (l := Z.lAdd a b) (v := Z.rq a + Z.rq b) h
    rw [r1, r2]
    exact qadd_bad a b _ w (both_bad a b w hv ha hb h) h
theorem Z.sub_divInt (n₁ n₂ : Int) {d₁ d₂ : Int} (h1 : d₁ ≠ 0) (h2 : d₂ ≠ 0) : Rat.divInt n₁ d₁ - Rat.divInt n₂ d₂ = Rat.divInt (n₁ * d₂ + -(n₂ * d₁)) (d₁ * d₂) := by
  rw [Rat.sub_eq_add_neg, Rat.neg_divInt, Rat.divInt_add_divInt _ _ h1 h2, Int.neg_mul]
theorem qsub_any (a b : ByteArray) (w : World) (hv : HasV w) (ha : a.size ≤ 100000) (hb : b.size ≤ 100000) :
    Calls Try.prog 40 #[.string a, .string b] w (RopRet (Z.lSub a b) (Z.rq a - Z.rq b) a b w) := by
  unfold RopRet
  by_cases h : Z.rbothE a b = 0
  · obtain ⟨oa, ob⟩ := Z.rbothE_ok h
    obtain ⟨a1, a2, _, _⟩ := oa.chks
    obtain ⟨b1, b2, _, _⟩ := ob.chks
    have fits : ∀ {b}, Z.fitL (Z.lSub a b) = (decide (Z.resE (Z.rn a * Z.rd b) = 0) && (decide (Z.resE (Z.rn b * Z.rd a) = 0) && (decide (Z.resE (Z.rn a * Z.rd b + -(Z.rn b * Z.rd a)) = 0) && decide (Z.resE (Z.rd a * Z.rd b) = 0)))) := fun {b} => by unfold Z.lSub; rw [Z.fit4]
    refine qsub_core a b (Z.S (Z.rn a)) (Z.S (Z.rn b)) (Z.S (Z.rd a)) (Z.S (Z.rd b)) (Z.resS (Z.rn a * Z.rd b)) (Z.resS (Z.rn b * Z.rd a)) (Z.resS (Z.rn a * Z.rd b + -(Z.rn b * Z.rd a))) (Z.resS (Z.rd a * Z.rd b))
      (Z.resE (Z.rn a * Z.rd b)) (Z.resE (Z.rn b * Z.rd a)) (Z.resE (Z.rn a * Z.rd b + -(Z.rn b * Z.rd a))) (Z.resE (Z.rd a * Z.rd b)) _ _ w (both_S hv ha hb h) (opC_mul2 a1 b2) (fun _ => opC_mul2 b1 a2)
      (fun k1 k2 => by rw [(Z.res_fit k1).1, (Z.res_fit k2).1]; exact opC_sub2 (Z.res_fit k1).2 (Z.res_fit k2).2) (fun _ _ _ => opC_mul2 a2 b2) (fun k1 => ?_) (fun k1 k2 => ?_) (fun k1 k2 k3 => ?_) (fun k1 k2 k3 k4 => ?_) (fun k1 k2 k3 k4 => ?_)
    · rw [Z.res_14 k1]
      exact ropS_big h (by rw [fits, decide_eq_false k1]; rfl)
    · rw [Z.res_14 k2]
      exact ropS_big h (by rw [fits, decide_eq_false k2]; simp)
    · rw [Z.res_14 k3]
      exact ropS_big h (by rw [fits, decide_eq_false k3]; simp)
    · rw [Z.res_14 k4]
      exact ropS_big h (by rw [fits, decide_eq_false k4]; simp)
    · obtain ⟨s3, c3⟩ := Z.res_fit k3
      obtain ⟨s4, c4⟩ := Z.res_fit k4
      have hda : Z.rd a ≠ 0 := by have := oa.pos; omega
      have hdb : Z.rd b ≠ 0 := by have := ob.pos; omega
      obtain ⟨m1, m2⟩ := Z.make_S c3 c4 (Int.mul_ne_zero hda hdb)
      obtain ⟨r1, r2⟩ := ropS_ok (l := Z.lSub a b) (v := Z.rq a - Z.rq b) h (by rw [fits, decide_eq_true k1, decide_eq_true k2, decide_eq_true k3, decide_eq_true k4]; rfl)
      rw [s3, s4, m1, m2, r1, r2]
      refine ⟨Z.chk_max c3, Z.chk_max c4, ?_, rfl⟩
      rw [oa.self, ob.self, Z.sub_divInt _ _ hda hdb]
  · obtain ⟨r1, r2⟩ := ropS_bad (l := Z.lSub a b) (v := Z.rq a - Z.rq b) h
    rw [r1, r2]
    exact qsub_bad a b _ w (both_bad a b w hv ha hb h) h
namespace Z
/-- The error and the text of a division. -/
def rdivE (a b : ByteArray) : Int := if rbothE a b = 0 ∧ rn b = 0 then 16 else ropE (lDiv a b) a b
def rdivS (a b : ByteArray) : ByteArray := if rdivE a b = 0 then Q (rq a / rq b) else ⟨#[]⟩
def rcmpE (a b : ByteArray) : Int := ropE (lCmp a b) a b
def rcmpV (a b : ByteArray) : Int := if rcmpE a b = 0 then cmpI (rn a * rd b) (rn b * rd a) else 0
theorem div_divInt (n₁ n₂ d₁ d₂ : Int) : Rat.divInt n₁ d₁ / Rat.divInt n₂ d₂ = Rat.divInt (n₁ * d₂) (d₁ * n₂) := by
  rw [Rat.div_def, Rat.inv_divInt, Rat.divInt_mul_divInt]
end Z
def DivQ (a b : ByteArray) (w : World) (e : Ending) (w' : World) : Prop := e = .returned (.tuple #[.string (Z.rdivS a b), .int .i64 (Z.rdivE a b)]) ∧ Below w.heap.size w w'
def CmpQ (a b : ByteArray) (w : World) (e : Ending) (w' : World) : Prop := e = .returned (.tuple #[.int .i64 (Z.rcmpV a b), .int .i64 (Z.rcmpE a b)]) ∧ Below w.heap.size w w'
end Go.Proofs.Ytdjghmpaopfboaa
/- What rational.Div and Compare answer (the package); fraction and Cross of the reference. -/

namespace Go.Proofs.Ytdjghmpaopfboaa
open Go.RowKit

theorem Z.rn_eq48 (b : ByteArray) : ((Z.S (Z.rn b)).toList == [48]) = decide (Z.rn b = 0) := Z.e48 _
theorem Z.cmp_S {x y : Int} (hx : Z.chk (Z.S x).data.toList = 0) (hy : Z.chk (Z.S y).data.toList = 0) : Z.cmpV (Z.S x) (Z.S y) = Z.cmpI x y ∧ Z.bothE (Z.S x) (Z.S y) = 0 := by
  have hb := Z.bothE_ok hx hy
  refine ⟨?_, hb⟩
  unfold Z.cmpV
  rw [if_pos hb, Z.ival_S, Z.ival_S]
theorem Z.rcmp_bad {a b : ByteArray} (h : Z.rbothE a b ≠ 0) : Z.rcmpE a b = Z.rbothE a b ∧ Z.rcmpV a b = 0 := by
  have e1 : Z.rcmpE a b = Z.rbothE a b := by unfold Z.rcmpE Z.ropE; rw [if_neg h]
  exact ⟨e1, by unfold Z.rcmpV; rw [e1, if_neg h]⟩
theorem Z.rcmp_big {a b : ByteArray} (h : Z.rbothE a b = 0) (hf : Z.fitL (Z.lCmp a b) = false) : Z.rcmpE a b = 14 ∧ Z.rcmpV a b = 0 := by
  have e1 : Z.rcmpE a b = 14 := by unfold Z.rcmpE Z.ropE; rw [if_pos h, hf]; rfl
  exact ⟨e1, by unfold Z.rcmpV; rw [e1, if_neg (by decide)]⟩
theorem Z.rcmp_ok {a b : ByteArray} (h : Z.rbothE a b = 0) (hf : Z.fitL (Z.lCmp a b) = true) : Z.rcmpE a b = 0 ∧ Z.rcmpV a b = Z.cmpI (Z.rn a * Z.rd b) (Z.rn b * Z.rd a) := by
  have e1 : Z.rcmpE a b = 0 := by unfold Z.rcmpE Z.ropE; rw [if_pos h, hf]; rfl
  exact ⟨e1, by unfold Z.rcmpV; rw [e1, if_pos rfl]⟩
/-! The reference. -/
theorem Z.chk_mil {x : Int} (h : Z.chk (Z.S x).data.toList = 0) : (Z.S x).size ≤ 1000000 := by
  obtain ⟨z, e, hl⟩ := Z.int_of h
  rw [e]
  have := Z.S_size_le hl (by decide) (by decide)
  omega
theorem opC_ofR {F : Nat} {f : Int → Int → Int} {x y : Int} (hx : Z.chk (Z.S x).data.toList = 0) (hy : Z.chk (Z.S y).data.toList = 0) (C : ∀ (a b : ByteArray) (w : World), a.size ≤ 1000000 → b.size ≤ 1000000 → Calls Try.prog F #[.string a, .string b] w (OpRet f a b w)) :
    OpC F (Z.S x) (Z.S y) (Z.resS (f x y)) (Z.resE (f x y)) := by
  intro W
  have := C (Z.S x) (Z.S y) W (Z.chk_mil hx) (Z.chk_mil hy)
  unfold OpRet at this
  rwa [(Z.opS_ints (f := f) hx hy).1, (Z.opS_ints (f := f) hx hy).2] at this
theorem opC_rmul {x y : Int} (hx : Z.chk (Z.S x).data.toList = 0) (hy : Z.chk (Z.S y).data.toList = 0) : OpC 59 (Z.S x) (Z.S y) (Z.resS (x * y)) (Z.resE (x * y)) := opC_ofR (f := fun x y => x * y) hx hy rmul_any
theorem opC_radd {x y : Int} (hx : Z.chk (Z.S x).data.toList = 0) (hy : Z.chk (Z.S y).data.toList = 0) : OpC 58 (Z.S x) (Z.S y) (Z.resS (x + y)) (Z.resE (x + y)) := opC_ofR (f := fun x y => x + y) hx hy radd_any
theorem frac_bad (x y : ByteArray) (k1 k2 : Int) (w : World) (h : k1 ≠ 0 ∨ k2 ≠ 0) :
    Calls Try.prog 60 #[.string x, .string y, .int .i64 k1, .int .i64 k2] w fun e w' => e = .returned (.tuple #[.string ⟨#[]⟩, .int .i64 14]) ∧ Below w.heap.size w w' := by
  by_cases h1 : k1 = 0
  · subst h1
    have h2 : (k2 == 0) = false := by simpa using h
    clear h
    go_enter Try.func60, Try.ntmps60
    go_wp2_with fail
    go_ret2
    exact ⟨rfl, Below.refl _ _⟩
  · have h2 : (k1 == 0) = false := by simpa using h1
    clear h h1
    go_enter Try.func60, Try.ntmps60
    go_wp2_with fail
    go_ret2
    exact ⟨rfl, Below.refl _ _⟩
theorem frac_ok (x y : ByteArray) (w : World) (hx : x.size ≤ 1000000) (hy : y.size ≤ 1000000) :
    Calls Try.prog 60 #[.string x, .string y, .int .i64 0, .int .i64 0] w (MakeRet x y w) := by
  have C := Lib.hid (fun W : World => rmake_any x y W hx hy)
  unfold MakeRet at *
  generalize Z.makeS x y = s at *
  generalize Z.makeE x y = k at *
  go_enter Try.func60, Try.ntmps60
  go_wp2_with fail
  refine (C.out _).mono ?_
  rintro e w1 ⟨rfl, h1⟩
  go_wp2_with fail
  go_ret2
  exact ⟨rfl, h1⟩
namespace Z
def fracE (x y : Int) : Int := if resE x = 0 ∧ resE y = 0 then 0 else 14
def fracS (x y : Int) : ByteArray := if resE x = 0 ∧ resE y = 0 then Q (Rat.divInt x y) else ⟨#[]⟩
end Z
def FracC (x y : Int) : Prop := ∀ W : World, Calls Try.prog 60 #[.string (Z.resS x), .string (Z.resS y), .int .i64 (Z.resE x), .int .i64 (Z.resE y)] W fun e w' => e = .returned (.tuple #[.string (Z.fracS x y), .int .i64 (Z.fracE x y)]) ∧ Below W.heap.size W w'
theorem fracC {x y : Int} (hy : y ≠ 0) : FracC x y := by
  intro W
  unfold Z.fracS Z.fracE
  by_cases h : Z.resE x = 0 ∧ Z.resE y = 0
  · obtain ⟨s1, c1⟩ := Z.res_fit h.1
    obtain ⟨s2, c2⟩ := Z.res_fit h.2
    rw [if_pos h, if_pos h, h.1, h.2, s1, s2]
    have := frac_ok (Z.S x) (Z.S y) W (Z.chk_mil c1) (Z.chk_mil c2)
    unfold MakeRet at this
    rwa [(Z.make_S c1 c2 hy).1, (Z.make_S c1 c2 hy).2] at this
  · rw [if_neg h, if_neg h]
    exact frac_bad _ _ _ _ W (by omega)
theorem four_S {a b : ByteArray} (ha : a.size ≤ 100000) (hb : b.size ≤ 100000) (h : Z.rbothE a b = 0) (w : World) :
    Calls Try.prog 55 #[.string a, .string b] w fun e w' => e = .returned (.tuple #[.string (Z.S (Z.rn a)), .string (Z.S (Z.rd a)), .string (Z.S (Z.rn b)), .string (Z.S (Z.rd b)), .int .i64 0]) ∧ Below w.heap.size w w' := by
  have := four_ok a b w ha hb h
  obtain ⟨oa, ob⟩ := Z.rbothE_ok h
  rwa [oa.chks.2.2.1, oa.chks.2.2.2, ob.chks.2.2.1, ob.chks.2.2.2] at this
end Go.Proofs.Ytdjghmpaopfboaa
/- The reference of rationals: Cross, Add, Mul, Div, Compare. -/

namespace Go.Proofs.Ytdjghmpaopfboaa
open Go.RowKit

def FourC (a b x y u v : ByteArray) (k : Int) : Prop := ∀ W : World, Calls Try.prog 55 #[.string a, .string b] W fun e w' => e = .returned (.tuple #[.string x, .string y, .string u, .string v, .int .i64 k]) ∧ Below W.heap.size W w'
def Frac4 (x y : ByteArray) (k1 k2 : Int) (r : ByteArray) (k : Int) : Prop := ∀ W : World, Calls Try.prog 60 #[.string x, .string y, .int .i64 k1, .int .i64 k2] W fun e w' => e = .returned (.tuple #[.string r, .int .i64 k]) ∧ Below W.heap.size W w'
def CrossC (a b x y : ByteArray) (k : Int) : Prop := ∀ W : World, Calls Try.prog 57 #[.string a, .string b] W fun e w' => e = .returned (.tuple #[.string x, .string y, .int .i64 k]) ∧ Below W.heap.size W w'
theorem cross_bad (a b x y u v : ByteArray) (k : Int) (FO : Hid (FourC a b x y u v k)) (hk : (k == 0) = false) : CrossC a b ⟨#[]⟩ ⟨#[]⟩ k := by
  intro w
  go_enter Try.func57, Try.ntmps57
  go_wp2_with fail
  refine (FO.out _).mono ?_
  rintro e w1 ⟨rfl, h1⟩
  go_wp2_with fail
  go_ret3
  exact ⟨rfl, h1⟩
theorem cross_ok (a b n d m c r1 r2 : ByteArray) (FO : Hid (FourC a b n d m c 0)) (O1 : Hid (OpC 59 n c r1 0)) (O2 : Hid (OpC 59 m d r2 0)) : CrossC a b r1 r2 0 := by
  intro w
  go_enter Try.func57, Try.ntmps57
  go_wp2_with fail
  refine (FO.out _).mono ?_
  rintro e w1 ⟨rfl, h1⟩
  go_wp2_with fail
  refine (O1.out _).mono ?_
  rintro e w2 ⟨rfl, h2⟩
  have c2 := h1.trans (h2.mono h1.size)
  clear h1 h2
  go_wp2_with fail
  refine (O2.out _).mono ?_
  rintro e w3 ⟨rfl, h3⟩
  have c3 := c2.trans (h3.mono c2.size)
  clear c2 h3
  go_wp2_with fail
  go_ret3
  exact ⟨rfl, c3⟩
theorem cross_big1 (a b n d m c r1 r2 : ByteArray) (k1 k2 : Int) (FO : Hid (FourC a b n d m c 0)) (O1 : Hid (OpC 59 n c r1 k1)) (O2 : Hid (OpC 59 m d r2 k2)) (hk : (k1 == 0) = false) : CrossC a b ⟨#[]⟩ ⟨#[]⟩ 14 := by
  intro w
  go_enter Try.func57, Try.ntmps57
  go_wp2_with fail
  refine (FO.out _).mono ?_
  rintro e w1 ⟨rfl, h1⟩
  go_wp2_with fail
  refine (O1.out _).mono ?_
  rintro e w2 ⟨rfl, h2⟩
  have c2 := h1.trans (h2.mono h1.size)
  clear h1 h2
  go_wp2_with fail
  refine (O2.out _).mono ?_
  rintro e w3 ⟨rfl, h3⟩
  have c3 := c2.trans (h3.mono c2.size)
  clear c2 h3
  go_wp2_with fail
  go_ret3
  exact ⟨rfl, c3⟩
theorem cross_big2 (a b n d m c r1 r2 : ByteArray) (k2 : Int) (FO : Hid (FourC a b n d m c 0)) (O1 : Hid (OpC 59 n c r1 0)) (O2 : Hid (OpC 59 m d r2 k2)) (hk : (k2 == 0) = false) : CrossC a b ⟨#[]⟩ ⟨#[]⟩ 14 := by
  intro w
  go_enter Try.func57, Try.ntmps57
  go_wp2_with fail
  refine (FO.out _).mono ?_
  rintro e w1 ⟨rfl, h1⟩
  go_wp2_with fail
  refine (O1.out _).mono ?_
  rintro e w2 ⟨rfl, h2⟩
  have c2 := h1.trans (h2.mono h1.size)
  clear h1 h2
  go_wp2_with fail
  refine (O2.out _).mono ?_
  rintro e w3 ⟨rfl, h3⟩
  have c3 := c2.trans (h3.mono c2.size)
  clear c2 h3
  go_wp2_with fail
  go_ret3
  exact ⟨rfl, c3⟩
theorem radd_core (a b x y n d m c r1 r2 r : ByteArray) (k1 k2 k : Int) (w : World) (CR : Hid (CrossC a b x y 0)) (FO : Hid (FourC a b n d m c 0)) (O1 : Hid (OpC 58 x y r1 k1)) (O2 : Hid (OpC 59 d c r2 k2)) (FR : Hid (Frac4 r1 r2 k1 k2 r k)) :
    Calls Try.prog 43 #[.string a, .string b] w fun e w' => e = .returned (.tuple #[.string r, .int .i64 k]) ∧ Below w.heap.size w w' := by
  go_enter Try.func43, Try.ntmps43
  go_wp2_with fail
  refine (CR.out _).mono ?_
  rintro e w0 ⟨rfl, h0⟩
  go_wp2_with fail
  refine (FO.out _).mono ?_
  rintro e w1 ⟨rfl, h1'⟩
  have h1 := h0.trans (h1'.mono h0.size)
  clear h0 h1'
  go_wp2_with fail
  refine (O1.out _).mono ?_
  rintro e w2 ⟨rfl, h2⟩
  have c2 := h1.trans (h2.mono h1.size)
  clear h1 h2
  go_wp2_with fail
  refine (O2.out _).mono ?_
  rintro e w3 ⟨rfl, h3⟩
  have c3 := c2.trans (h3.mono c2.size)
  clear c2 h3
  go_wp2_with fail
  refine (FR.out _).mono ?_
  rintro e w4 ⟨rfl, h4⟩
  have c4 := c3.trans (h4.mono c3.size)
  clear c3 h4
  go_wp2_with fail
  go_ret2
  exact ⟨rfl, c4⟩
theorem radd_bad (a b x y : ByteArray) (k : Int) (w : World) (CR : Hid (CrossC a b x y k)) (hk : (k == 0) = false) :
    Calls Try.prog 43 #[.string a, .string b] w fun e w' => e = .returned (.tuple #[.string ⟨#[]⟩, .int .i64 k]) ∧ Below w.heap.size w w' := by
  go_enter Try.func43, Try.ntmps43
  go_wp2_with fail
  refine (CR.out _).mono ?_
  rintro e w0 ⟨rfl, h0⟩
  go_wp2_with fail
  go_ret2
  exact ⟨rfl, h0⟩
end Go.Proofs.Ytdjghmpaopfboaa
/- The reference of rationals: Negative; and what Mul, Div, Add, Sub, Compare answer. -/

namespace Go.Proofs.Ytdjghmpaopfboaa
open Go.RowKit

namespace Z
theorem den_zero {q : Rat} (h : q.num = 0) : q.den = 1 := by
  have := q.reduced
  rw [h] at this
  simpa [Nat.Coprime] using this
theorem neg_zero {q : Rat} (h : q.num = 0) : -q = q := by
  apply Rat.ext
  · show -q.num = q.num
    omega
  · rfl
theorem qT_zero {q : Rat} (h : q.num = 0) : qT q = [48] := by
  unfold qT txt
  rw [if_pos (den_zero h), if_neg (by omega), h]
  rfl
theorem qT_neg {q : Rat} (h : q.num < 0) : qT q = 45 :: qT (-q) := by
  have e1 : (-q).num = -q.num := rfl
  have e2 : (-q).den = q.den := rfl
  have e3 : txt q.num = 45 :: txt (-q.num) := by
    unfold txt
    rw [if_pos h, if_neg (by omega), Int.natAbs_neg]
  unfold qT
  rw [e1, e2, e3]
  split <;> rfl
theorem qT_head {q : Rat} (h : 0 < q.num) : ∃ c r, qT q = c :: r ∧ c ≠ 45 ∧ qT q ≠ [48] := by
  have e3 : txt q.num = decB q.num.natAbs := by unfold txt; rw [if_neg (by omega)]
  obtain ⟨c, r, e⟩ := List.exists_cons_of_ne_nil (decB_ne q.num.natAbs)
  have hc : isDig c = true := List.all_eq_true.1 (decB_all q.num.natAbs) c (by rw [e]; exact List.mem_cons_self ..)
  have h45 : c ≠ 45 := by rintro rfl; cases hc
  have hz : qT q ≠ [48] := by
    intro hh
    have h1 : Q q = Q 0 := by
      apply ba_of
      rw [Q_data, Q_data, hh]; decide +kernel
    have := Q_inj h1
    rw [this] at h
    exact absurd h (by decide)
  unfold qT at hz ⊢
  rw [e3, e] at hz ⊢
  split
  · rename_i hd
    rw [if_pos hd] at hz
    exact ⟨_, _, rfl, h45, hz⟩
  · rename_i hd
    rw [if_neg hd] at hz
    exact ⟨_, _, rfl, h45, hz⟩
theorem qT_pos {q : Rat} (h : 0 < q.num) : qT (-q) = 45 :: qT q := by
  have e1 : (-q).num = -q.num := rfl
  have := qT_neg (q := -q) (by rw [e1]; omega)
  rwa [Rat.neg_neg] at this
theorem Fit.neg {q : Rat} (h : Fit q) : Fit (-q) := by
  have e1 : (-q).num = -q.num := rfl
  have e2 : (-q).den = q.den := rfl
  unfold Fit at *
  rw [e1, e2, Int.natAbs_neg]
  exact h
theorem Q_size {q : Rat} (h : Fit q) : (Q q).size ≤ 2100 := by
  have h1 : (qT q).length ≤ 2100 := by
    have t1 : (txt q.num).length ≤ 1001 := by
      unfold txt; split
      · rw [List.length_cons]; have := h.1; omega
      · have := h.1; omega
    unfold qT
    split
    · omega
    · rw [List.length_append, List.length_cons]; have := h.2; omega
  rw [Lib.size_eq, Q_data]; exact h1
end Z
def NegC (b r : ByteArray) : Prop := ∀ W : World, Calls Try.prog 56 #[.string b] W fun e w' => e = .returned (.string r) ∧ Below W.heap.size W w'
theorem rneg_zero (b : ByteArray) (h : (b.toList == [48]) = true) : NegC b b := by
  intro w
  go_enter Try.func56, Try.ntmps56
  go_wp2_with fail
  go_ret
  exact ⟨rfl, Below.refl _ _⟩
theorem rneg_neg (b : ByteArray) (h : (b.toList == [48]) = false) (h0 : 0 < b.size) (hs : b.size ≤ 100000) (h1 : ((b[0].toNat : Int) == 45) = true) : NegC b (b.extract 1 b.size) := by
  intro w
  go_enter Try.func56, Try.ntmps56
  go_wp2_with fail
  go_ret
  exact ⟨rfl, Below.refl _ _⟩
theorem rneg_pos (b : ByteArray) (h : (b.toList == [48]) = false) (h0 : 0 < b.size) (hs : b.size ≤ 100000) (h1 : ((b[0].toNat : Int) == 45) = false) : NegC b (⟨#[45]⟩ ++ b) := by
  intro w
  go_enter Try.func56, Try.ntmps56
  go_wp2_with fail
  go_ret
  exact ⟨rfl, Below.refl _ _⟩
theorem rqneg {q : Rat} (hf : Z.Fit q) : NegC (Z.Q q) (Z.Q (-q)) := by
  have hs := Z.Q_size hf
  rcases Int.lt_trichotomy q.num 0 with h | h | h
  · have e := Z.qT_neg h
    have hp : 0 < (Z.Q q).size := by rw [Lib.size_eq, Z.Q_data, e]; simp
    have := rneg_neg (Z.Q q) (by
      rw [beq_eq_false_iff_ne]
      intro hh
      have h2 : (Z.Q q).data.toList = [48] := by rw [← hh, Lib.toList_data]
      rw [Z.Q_data, e] at h2
      injection h2 with h3 _
      cases h3) hp (by omega) (by rw [← Z.neg_of _ hp, Z.Q_data, e]; rfl)
    have e2 : (Z.Q q).extract 1 (Z.Q q).size = Z.Q (-q) := by
      apply Z.ba_of
      rw [ByteArray.data_extract, Array.toList_extract, Z.Q_data, Z.Q_data, Lib.size_eq, Z.Q_data, e]
      simp
    rwa [e2] at this
  · rw [Z.neg_zero h]
    refine rneg_zero _ ?_
    rw [beq_iff_eq, Lib.toList_data, Z.Q_data, Z.qT_zero h]
  · obtain ⟨c, r, e, hc, hz⟩ := Z.qT_head h
    have hp : 0 < (Z.Q q).size := by rw [Lib.size_eq, Z.Q_data, e]; simp
    have := rneg_pos (Z.Q q) (by
      rw [beq_eq_false_iff_ne]
      intro hh
      exact hz (by rw [← Z.Q_data, ← hh, Lib.toList_data])) hp (by omega) (by rw [← Z.neg_of _ hp, Z.Q_data, e]; simpa [Z.isNeg] using hc)
    have e2 : (⟨#[45]⟩ : ByteArray) ++ Z.Q q = Z.Q (-q) := by
      apply Z.ba_of
      rw [ByteArray.data_append, Array.toList_append, Z.Q_data, Z.Q_data, Z.qT_pos h]
      rfl
    rwa [e2] at this
end Go.Proofs.Ytdjghmpaopfboaa
/- What Mul, Div, Add, Sub and Compare of the reference of rationals answer. -/

namespace Go.Proofs.Ytdjghmpaopfboaa
open Go.RowKit

namespace Z
theorem frac_rop {l : List Int} {x y : Int} {v : Rat} {a b : ByteArray} (h : rbothE a b = 0) (hl : fitL l = true ↔ (resE x = 0 ∧ resE y = 0)) (hv : Rat.divInt x y = v) : fracS x y = ropS l v a b ∧ fracE x y = ropE l a b := by
  unfold fracS fracE ropS ropE
  rw [if_pos h]
  by_cases hh : resE x = 0 ∧ resE y = 0
  · rw [if_pos hh, if_pos hh, hl.2 hh, hv]; exact ⟨rfl, rfl⟩
  · have : fitL l = false := by
      cases e : fitL l
      · rfl
      · exact absurd (hl.1 e) hh
    rw [if_neg hh, if_neg hh, this]; exact ⟨rfl, rfl⟩
theorem resE_neg (x : Int) : resE (-x) = resE x := by unfold resE; rw [Int.natAbs_neg]
end Z
theorem fourS {a b : ByteArray} (ha : a.size ≤ 100000) (hb : b.size ≤ 100000) (h : Z.rbothE a b = 0) : Hid (FourC a b (Z.S (Z.rn a)) (Z.S (Z.rd a)) (Z.S (Z.rn b)) (Z.S (Z.rd b)) 0) := Lib.hid (four_S ha hb h)
theorem fourB {a b : ByteArray} (ha : a.size ≤ 100000) (hb : b.size ≤ 100000) (h : Z.rbothE a b ≠ 0) : Hid (FourC a b ⟨#[]⟩ ⟨#[]⟩ ⟨#[]⟩ ⟨#[]⟩ (Z.rbothE a b)) := Lib.hid (fun w => four_bad a b w ha hb h)
/-- Cross: the two products, or the error. -/
theorem crossS {a b : ByteArray} (ha : a.size ≤ 100000) (hb : b.size ≤ 100000) (h : Z.rbothE a b = 0) (hf : Z.fitL (Z.lCmp a b) = true) :
    Hid (CrossC a b (Z.S (Z.rn a * Z.rd b)) (Z.S (Z.rn b * Z.rd a)) 0) := by
  obtain ⟨oa, ob⟩ := Z.rbothE_ok h
  obtain ⟨a1, a2, _, _⟩ := oa.chks
  obtain ⟨b1, b2, _, _⟩ := ob.chks
  unfold Z.lCmp at hf
  rw [Z.fit2] at hf
  simp at hf
  have o1 := opC_rmul a1 b2
  have o2 := opC_rmul b1 a2
  rw [hf.1, (Z.res_fit hf.1).1] at o1
  rw [hf.2, (Z.res_fit hf.2).1] at o2
  exact Lib.hid (cross_ok a b _ _ _ _ _ _ (fourS ha hb h) (Lib.hid o1) (Lib.hid o2))
theorem crossN {a b : ByteArray} (ha : a.size ≤ 100000) (hb : b.size ≤ 100000) (h : Z.rbothE a b = 0) (hf : Z.fitL (Z.lCmp a b) = false) :
    Hid (CrossC a b ⟨#[]⟩ ⟨#[]⟩ 14) := by
  obtain ⟨oa, ob⟩ := Z.rbothE_ok h
  obtain ⟨a1, a2, _, _⟩ := oa.chks
  obtain ⟨b1, b2, _, _⟩ := ob.chks
  unfold Z.lCmp at hf
  rw [Z.fit2] at hf
  have o1 := opC_rmul a1 b2
  have o2 := opC_rmul b1 a2
  by_cases k1 : Z.resE (Z.rn a * Z.rd b) = 0
  · rw [decide_eq_true k1] at hf
    have k2 : ¬ Z.resE (Z.rn b * Z.rd a) = 0 := by simpa using hf
    rw [k1] at o1
    exact Lib.hid (cross_big2 a b _ _ _ _ _ _ _ (fourS ha hb h) (Lib.hid o1) (Lib.hid o2) (by simpa using k2))
  · exact Lib.hid (cross_big1 a b _ _ _ _ _ _ _ _ (fourS ha hb h) (Lib.hid o1) (Lib.hid o2) (by simpa using k1))
theorem crossB {a b : ByteArray} (ha : a.size ≤ 100000) (hb : b.size ≤ 100000) (h : Z.rbothE a b ≠ 0) :
    Hid (CrossC a b ⟨#[]⟩ ⟨#[]⟩ (Z.rbothE a b)) := Lib.hid (cross_bad a b _ _ _ _ _ (fourB ha hb h) (by simpa using h))
theorem rqadd_any (a b : ByteArray) (w : World) (ha : a.size ≤ 100000) (hb : b.size ≤ 100000) :
    Calls Try.prog 43 #[.string a, .string b] w (RopRet (Z.lAdd a b) (Z.rq a + Z.rq b) a b w) := by
  unfold RopRet
  by_cases h : Z.rbothE a b = 0
  · obtain ⟨oa, ob⟩ := Z.rbothE_ok h
    obtain ⟨a1, a2, _, _⟩ := oa.chks
    obtain ⟨b1, b2, _, _⟩ := ob.chks
    have hda : Z.rd a ≠ 0 := by have := oa.pos; omega
    have hdb : Z.rd b ≠ 0 := by have := ob.pos; omega
    cases hf : Z.fitL (Z.lCmp a b)
    · have hf2 : Z.fitL (Z.lAdd a b) = false := by
        unfold Z.lCmp at hf; unfold Z.lAdd
        rw [Z.fit2] at hf
        rw [Z.fit4]
        cases e1 : decide (Z.resE (Z.rn a * Z.rd b) = 0)
        · rfl
        · rw [e1] at hf
          simp only [Bool.true_and] at hf ⊢
          rw [hf]; rfl
      obtain ⟨r1, r2⟩ := ropS_big (l := Z.lAdd a b) (v := Z.rq a + Z.rq b) h hf2
      rw [r1, r2]
      exact radd_bad a b _ _ 14 w (crossN ha hb h hf) rfl
    · have CR := crossS ha hb h hf
      unfold Z.lCmp at hf
      rw [Z.fit2] at hf
      simp at hf
      obtain ⟨r1, r2⟩ := Z.frac_rop (l := Z.lAdd a b) (x := Z.rn a * Z.rd b + Z.rn b * Z.rd a) (y := Z.rd a * Z.rd b) (v := Z.rq a + Z.rq b) h (by unfold Z.lAdd; rw [Z.fit4, decide_eq_true hf.1, decide_eq_true hf.2]; simp) (by rw [oa.self, ob.self, Rat.divInt_add_divInt _ _ hda hdb])
      rw [← r1, ← r2]
      exact radd_core a b _ _ _ _ _ _ _ _ _ _ _ _ w CR (fourS ha hb h) (Lib.hid (opC_radd (Z.res_fit hf.1).2 (Z.res_fit hf.2).2)) (Lib.hid (opC_rmul a2 b2)) (Lib.hid (fracC (Int.mul_ne_zero hda hdb)))
  · obtain ⟨r1, r2⟩ := ropS_bad (l := Z.lAdd a b) (v := Z.rq a + Z.rq b) h
    rw [r1, r2]
    exact radd_bad a b _ _ _ w (crossB ha hb h) (by simpa using h)
theorem rsub_core (a b nb x y u v r : ByteArray) (k : Int) (w : World) (FO : Hid (FourC a b x y u v 0)) (NG : Hid (NegC b nb)) (AD : Hid (∀ W : World, Calls Try.prog 43 #[.string a, .string nb] W fun e w' => e = .returned (.tuple #[.string r, .int .i64 k]) ∧ Below W.heap.size W w')) :
    Calls Try.prog 42 #[.string a, .string b] w fun e w' => e = .returned (.tuple #[.string r, .int .i64 k]) ∧ Below w.heap.size w w' := by
  go_enter Try.func42, Try.ntmps42
  go_wp2_with fail
  refine (FO.out _).mono ?_
  rintro e w1 ⟨rfl, h1⟩
  go_wp2_with fail
  refine (NG.out _).mono ?_
  rintro e w2 ⟨rfl, h2⟩
  have c2 := h1.trans (h2.mono h1.size)
  clear h1 h2
  go_wp2_with fail
  refine (AD.out _).mono ?_
  rintro e w3 ⟨rfl, h3⟩
  have c3 := c2.trans (h3.mono c2.size)
  clear c2 h3
  go_wp2_with fail
  go_ret2
  exact ⟨rfl, c3⟩
theorem rsub_bad (a b x y u v : ByteArray) (k : Int) (w : World) (FO : Hid (FourC a b x y u v k)) (hk : (k == 0) = false) :
    Calls Try.prog 42 #[.string a, .string b] w fun e w' => e = .returned (.tuple #[.string ⟨#[]⟩, .int .i64 k]) ∧ Below w.heap.size w w' := by
  go_enter Try.func42, Try.ntmps42
  go_wp2_with fail
  refine (FO.out _).mono ?_
  rintro e w1 ⟨rfl, h1⟩
  go_wp2_with fail
  go_ret2
  exact ⟨rfl, h1⟩
theorem rqsub_any (a b : ByteArray) (w : World) (ha : a.size ≤ 100000) (hb : b.size ≤ 100000) :
    Calls Try.prog 42 #[.string a, .string b] w (RopRet (Z.lSub a b) (Z.rq a - Z.rq b) a b w) := by
  unfold RopRet
  by_cases h : Z.rbothE a b = 0
  · obtain ⟨oa, ob⟩ := Z.rbothE_ok h
    have hfit := ob.fit.neg
    have hsz := Z.Q_size hfit
    have hck := Z.rchk_Q hfit
    have p1 : Z.rn (Z.Q (-Z.rq b)) = -Z.rn b := by
      rw [(Z.Q_parts (-Z.rq b)).2.2.2.2.1, ← ob.num.1]; rfl
    have p2 : Z.rd (Z.Q (-Z.rq b)) = Z.rd b := by
      rw [(Z.Q_parts (-Z.rq b)).2.2.2.1, ← ob.num.2]; rfl
    have hbo : Z.rbothE a (Z.Q (-Z.rq b)) = 0 := by
      unfold Z.rbothE at h ⊢
      split at h
      · rename_i ha0
        rw [if_pos ha0]; exact hck
      · contradiction
    have hf : Z.fitL (Z.lAdd a (Z.Q (-Z.rq b))) = Z.fitL (Z.lSub a b) := by
      unfold Z.lAdd Z.lSub
      rw [Z.fit4, Z.fit4, p1, p2, Int.neg_mul, Z.resE_neg]
    have e1 : Z.ropE (Z.lAdd a (Z.Q (-Z.rq b))) a (Z.Q (-Z.rq b)) = Z.ropE (Z.lSub a b) a b := by
      unfold Z.ropE
      rw [if_pos hbo, if_pos h, hf]
    have e2 : Z.ropS (Z.lAdd a (Z.Q (-Z.rq b))) (Z.rq a + Z.rq (Z.Q (-Z.rq b))) a (Z.Q (-Z.rq b)) = Z.ropS (Z.lSub a b) (Z.rq a - Z.rq b) a b := by
      unfold Z.ropS
      rw [e1, Z.rq_Q, Rat.sub_eq_add_neg]
    rw [← e1, ← e2]
    have NG := rqneg ob.fit
    rw [ob.text] at NG
    exact rsub_core a b _ _ _ _ _ _ _ w (fourS ha hb h) (Lib.hid NG) (Lib.hid fun W => rqadd_any a _ W ha (by omega))
  · obtain ⟨r1, r2⟩ := ropS_bad (l := Z.lSub a b) (v := Z.rq a - Z.rq b) h
    rw [r1, r2]
    exact rsub_bad a b _ _ _ _ _ w (fourB ha hb h) (by simpa using h)
end Go.Proofs.Ytdjghmpaopfboaa
/- Walks: the reference: Great of the rationals, over a slice of strings. -/

namespace Go.Proofs.Ytdjghmpaopfboaa
open Go.RowKit
end Go.Proofs.Ytdjghmpaopfboaa
