/- Q4: Qv Qw Qx Qy Qz Qgreat -/
import Derived.Test.YtpnojgaehafjdaaQ2
import Derived.Test.YtpnojgaehafjdaaQadd
import Derived.Test.YtpnojgaehafjdaaQsub
import Derived.Test.YtpnojgaehafjdaaQ3
import Derived.Test.YtpnojgaehafjdaaR2
/- What rational.Mul, Add, Sub, Div and Compare answer (the package). -/

namespace Go.Proofs.Ytpnojgaehafjdaa
open Go.RowKit

namespace Z
def lMul (a b : ByteArray) : List Int := [rn a * rn b, rd a * rd b]
def lAdd (a b : ByteArray) : List Int := [rn a * rd b, rn b * rd a, rn a * rd b + rn b * rd a, rd a * rd b]
def lSub (a b : ByteArray) : List Int := [rn a * rd b, rn b * rd a, rn a * rd b + -(rn b * rd a), rd a * rd b]
def lDiv (a b : ByteArray) : List Int := [rn a * rd b, rd a * rn b]
def lCmp (a b : ByteArray) : List Int := [rn a * rd b, rn b * rd a]
theorem ROk.self {s : ByteArray} (_h : ROk s) : rq s = Rat.divInt (rn s) (rd s) := rfl
theorem fit2 {x y : Int} : fitL [x, y] = (decide (resE x = 0) && decide (resE y = 0)) := by simp [fitL]
theorem fit4 {x y z u : Int} : fitL [x, y, z, u] = (decide (resE x = 0) && (decide (resE y = 0) && (decide (resE z = 0) && decide (resE u = 0)))) := by simp [fitL]
end Z
/-- The operation on two integers without error, as a contract. -/
theorem opC_of {F : Nat} {f : Int → Int → Int} {x y : Int} (hx : Z.chk (Z.S x).data.toList = 0) (hy : Z.chk (Z.S y).data.toList = 0) (C : ∀ (a b : ByteArray) (w : World), a.size ≤ maxLen → b.size ≤ maxLen → Calls Try.prog F #[.string a, .string b] w (OpRet f a b w)) :
    OpC F (Z.S x) (Z.S y) (Z.resS (f x y)) (Z.resE (f x y)) := by
  intro W
  have := C (Z.S x) (Z.S y) W (Z.chk_max hx) (Z.chk_max hy)
  unfold OpRet at this
  rwa [(Z.opS_ints (f := f) hx hy).1, (Z.opS_ints (f := f) hx hy).2] at this
theorem opC_mul2 {x y : Int} (hx : Z.chk (Z.S x).data.toList = 0) (hy : Z.chk (Z.S y).data.toList = 0) : OpC 35 (Z.S x) (Z.S y) (Z.resS (x * y)) (Z.resE (x * y)) := opC_of (f := fun x y => x * y) hx hy mul_any
theorem opC_add2 {x y : Int} (hx : Z.chk (Z.S x).data.toList = 0) (hy : Z.chk (Z.S y).data.toList = 0) : OpC 74 (Z.S x) (Z.S y) (Z.resS (x + y)) (Z.resE (x + y)) := opC_of (f := fun x y => x + y) hx hy add_any
theorem opC_sub2 {x y : Int} (hx : Z.chk (Z.S x).data.toList = 0) (hy : Z.chk (Z.S y).data.toList = 0) : OpC 36 (Z.S x) (Z.S y) (Z.resS (x + -y)) (Z.resE (x + -y)) := opC_of (f := fun x y => x + -y) hx hy sub_any
theorem both_S {a b : ByteArray} {w : World} (hv : HasV w) (ha : a.size ≤ 100000) (hb : b.size ≤ 100000) (h : Z.rbothE a b = 0) :
    Calls Try.prog 33 #[.string a, .string b] w (BothP (Z.S (Z.rn a)) (Z.S (Z.rn b)) (Z.S (Z.rd a)) (Z.S (Z.rd b)) 0 w) := by
  have := both_ok a b w hv ha hb h
  obtain ⟨oa, ob⟩ := Z.rbothE_ok h
  rwa [oa.chks.2.2.1, oa.chks.2.2.2, ob.chks.2.2.1, ob.chks.2.2.2] at this
theorem ropS_big {l : List Int} {v : Rat} {a b : ByteArray} (h : Z.rbothE a b = 0) (hf : Z.fitL l = false) : Z.ropS l v a b = ⟨#[]⟩ ∧ Z.ropE l a b = 14 := by
  unfold Z.ropS Z.ropE
  rw [if_pos h, hf]; exact ⟨rfl, rfl⟩
theorem ropS_ok {l : List Int} {v : Rat} {a b : ByteArray} (h : Z.rbothE a b = 0) (hf : Z.fitL l = true) : Z.ropS l v a b = Z.Q v ∧ Z.ropE l a b = 0 := by
  unfold Z.ropS Z.ropE
  rw [if_pos h, hf]; exact ⟨rfl, rfl⟩
theorem ropS_bad {l : List Int} {v : Rat} {a b : ByteArray} (h : Z.rbothE a b ≠ 0) : Z.ropS l v a b = ⟨#[]⟩ ∧ Z.ropE l a b = Z.rbothE a b := by
  unfold Z.ropS Z.ropE
  rw [if_neg h, if_neg h]; exact ⟨rfl, rfl⟩
theorem qmul_any (a b : ByteArray) (w : World) (hv : HasV w) (ha : a.size ≤ 100000) (hb : b.size ≤ 100000) :
    Calls Try.prog 20 #[.string a, .string b] w (RopRet (Z.lMul a b) (Z.rq a * Z.rq b) a b w) := by
  unfold RopRet
  by_cases h : Z.rbothE a b = 0
  · obtain ⟨oa, ob⟩ := Z.rbothE_ok h
    obtain ⟨a1, a2, _, _⟩ := oa.chks
    obtain ⟨b1, b2, _, _⟩ := ob.chks
    refine qmul_core a b _ _ _ _ _ _ _ _ _ _ w (both_S hv ha hb h) (opC_mul2 a1 b1) (fun _ => opC_mul2 a2 b2) (fun k1 => ?_) (fun k1 k2 => ?_) (fun k1 k2 => ?_)
    · rw [Z.res_14 k1]
      exact ropS_big h (by unfold Z.lMul; rw [Z.fit2, decide_eq_false k1]; rfl)
    · rw [Z.res_14 k2]
      exact ropS_big h (by unfold Z.lMul; rw [Z.fit2, decide_eq_false k2]; simp)
    · obtain ⟨s1, c1⟩ := Z.res_fit k1
      obtain ⟨s2, c2⟩ := Z.res_fit k2
      have hd : Z.rd a * Z.rd b ≠ 0 := Int.mul_ne_zero (by have := oa.pos; omega) (by have := ob.pos; omega)
      obtain ⟨m1, m2⟩ := Z.make_S c1 c2 hd
      obtain ⟨r1, r2⟩ := ropS_ok (l := Z.lMul a b) (v := Z.rq a * Z.rq b) h (by unfold Z.lMul; rw [Z.fit2, decide_eq_true k1, decide_eq_true k2]; rfl)
      rw [s1, s2, m1, m2, r1, r2]
      refine ⟨Z.chk_max c1, Z.chk_max c2, ?_, rfl⟩
      rw [oa.self, ob.self, Rat.divInt_mul_divInt]
  · obtain ⟨r1, r2⟩ := ropS_bad (l := Z.lMul a b) (v := Z.rq a * Z.rq b) h
    rw [r1, r2]
    exact qmul_bad a b _ w (both_bad a b w hv ha hb h) h
theorem qadd_any (a b : ByteArray) (w : World) (hv : HasV w) (ha : a.size ≤ 100000) (hb : b.size ≤ 100000) :
    Calls Try.prog 61 #[.string a, .string b] w (RopRet (Z.lAdd a b) (Z.rq a + Z.rq b) a b w) := by
  unfold RopRet
  by_cases h : Z.rbothE a b = 0
  · obtain ⟨oa, ob⟩ := Z.rbothE_ok h
    obtain ⟨a1, a2, _, _⟩ := oa.chks
    obtain ⟨b1, b2, _, _⟩ := ob.chks
    have fits : ∀ {b}, Z.fitL (Z.lAdd a b) = (decide (Z.resE (Z.rn a * Z.rd b) = 0) && (decide (Z.resE (Z.rn b * Z.rd a) = 0) && (decide (Z.resE (Z.rn a * Z.rd b + Z.rn b * Z.rd a) = 0) && decide (Z.resE (Z.rd a * Z.rd b) = 0)))) := fun {b} => by unfold Z.lAdd; rw [Z.fit4]
    refine qadd_core a b (Z.S (Z.rn a)) (Z.S (Z.rn b)) (Z.S (Z.rd a)) (Z.S (Z.rd b)) (Z.resS (Z.rn a * Z.rd b)) (Z.resS (Z.rn b * Z.rd a)) (Z.resS (Z.rn a * Z.rd b + Z.rn b * Z.rd a)) (Z.resS (Z.rd a * Z.rd b))
      (Z.resE (Z.rn a * Z.rd b)) (Z.resE (Z.rn b * Z.rd a)) (Z.resE (Z.rn a * Z.rd b + Z.rn b * Z.rd a)) (Z.resE (Z.rd a * Z.rd b)) _ _ w (both_S hv ha hb h) (opC_mul2 a1 b2) (fun _ => opC_mul2 b1 a2)
      (fun k1 k2 => by rw [(Z.res_fit k1).1, (Z.res_fit k2).1]; exact opC_add2 (Z.res_fit k1).2 (Z.res_fit k2).2) (fun _ _ _ => opC_mul2 a2 b2) (fun k1 => ?_) (fun k1 k2 => ?_) (fun k1 k2 k3 => ?_) (fun k1 k2 k3 k4 => ?_) (fun k1 k2 k3 k4 => ?_)
    · rw [Z.res_14 k1]
      exact ropS_big h (by rw [fits, decide_eq_false k1]; rfl)
    · rw [Z.res_14 k2]
      exact ropS_big h (by rw [fits, decide_eq_false k2]; simp)
    · rw [Z.res_14 k3]
      exact ropS_big h (by rw [fits, decide_eq_false k3]; simp)
    · rw [Z.res_14 k4]
      exact ropS_big h (by rw [fits, decide_eq_false k4]; simp)
    · obtain ⟨s3, c3⟩ := Z.res_fit k3
      obtain ⟨s4, c4⟩ := Z.res_fit k4
      have hda : Z.rd a ≠ 0 := by have := oa.pos; omega
      have hdb : Z.rd b ≠ 0 := by have := ob.pos; omega
      obtain ⟨m1, m2⟩ := Z.make_S c3 c4 (Int.mul_ne_zero hda hdb)
      obtain ⟨r1, r2⟩ := ropS_ok (l := Z.lAdd a b) (v := Z.rq a + Z.rq b) h (by rw [fits, decide_eq_true k1, decide_eq_true k2, decide_eq_true k3, decide_eq_true k4]; rfl)
      rw [s3, s4, m1, m2, r1, r2]
      refine ⟨Z.chk_max c3, Z.chk_max c4, ?_, rfl⟩
      rw [oa.self, ob.self, Rat.divInt_add_divInt _ _ hda hdb]
  · obtain ⟨r1, r2⟩ := ropS_bad (l := Z.lAdd a b) (v := Z.rq a + Z.rq b) h
    rw [r1, r2]
    exact qadd_bad a b _ w (both_bad a b w hv ha hb h) h
theorem Z.sub_divInt (n₁ n₂ : Int) {d₁ d₂ : Int} (h1 : d₁ ≠ 0) (h2 : d₂ ≠ 0) : Rat.divInt n₁ d₁ - Rat.divInt n₂ d₂ = Rat.divInt (n₁ * d₂ + -(n₂ * d₁)) (d₁ * d₂) := by
  rw [Rat.sub_eq_add_neg, Rat.neg_divInt, Rat.divInt_add_divInt _ _ h1 h2, Int.neg_mul]
theorem qsub_any (a b : ByteArray) (w : World) (hv : HasV w) (ha : a.size ≤ 100000) (hb : b.size ≤ 100000) :
    Calls Try.prog 16 #[.string a, .string b] w (RopRet (Z.lSub a b) (Z.rq a - Z.rq b) a b w) := by
  unfold RopRet
  by_cases h : Z.rbothE a b = 0
  · obtain ⟨oa, ob⟩ := Z.rbothE_ok h
    obtain ⟨a1, a2, _, _⟩ := oa.chks
    obtain ⟨b1, b2, _, _⟩ := ob.chks
    have fits : ∀ {b}, Z.fitL (Z.lSub a b) = (decide (Z.resE (Z.rn a * Z.rd b) = 0) && (decide (Z.resE (Z.rn b * Z.rd a) = 0) && (decide (Z.resE (Z.rn a * Z.rd b + -(Z.rn b * Z.rd a)) = 0) && decide (Z.resE (Z.rd a * Z.rd b) = 0)))) := fun {b} => by unfold Z.lSub; rw [Z.fit4]
    refine qsub_core a b (Z.S (Z.rn a)) (Z.S (Z.rn b)) (Z.S (Z.rd a)) (Z.S (Z.rd b)) (Z.resS (Z.rn a * Z.rd b)) (Z.resS (Z.rn b * Z.rd a)) (Z.resS (Z.rn a * Z.rd b + -(Z.rn b * Z.rd a))) (Z.resS (Z.rd a * Z.rd b))
      (Z.resE (Z.rn a * Z.rd b)) (Z.resE (Z.rn b * Z.rd a)) (Z.resE (Z.rn a * Z.rd b + -(Z.rn b * Z.rd a))) (Z.resE (Z.rd a * Z.rd b)) _ _ w (both_S hv ha hb h) (opC_mul2 a1 b2) (fun _ => opC_mul2 b1 a2)
      (fun k1 k2 => by rw [(Z.res_fit k1).1, (Z.res_fit k2).1]; exact opC_sub2 (Z.res_fit k1).2 (Z.res_fit k2).2) (fun _ _ _ => opC_mul2 a2 b2) (fun k1 => ?_) (fun k1 k2 => ?_) (fun k1 k2 k3 => ?_) (fun k1 k2 k3 k4 => ?_) (fun k1 k2 k3 k4 => ?_)
    · rw [Z.res_14 k1]
      exact ropS_big h (by rw [fits, decide_eq_false k1]; rfl)
    · rw [Z.res_14 k2]
      exact ropS_big h (by rw [fits, decide_eq_false k2]; simp)
    · rw [Z.res_14 k3]
      exact ropS_big h (by rw [fits, decide_eq_false k3]; simp)
    · rw [Z.res_14 k4]
      exact ropS_big h (by rw [fits, decide_eq_false k4]; simp)
    · obtain ⟨s3, c3⟩ := Z.res_fit k3
      obtain ⟨s4, c4⟩ := Z.res_fit k4
      have hda : Z.rd a ≠ 0 := by have := oa.pos; omega
      have hdb : Z.rd b ≠ 0 := by have := ob.pos; omega
      obtain ⟨m1, m2⟩ := Z.make_S c3 c4 (Int.mul_ne_zero hda hdb)
      obtain ⟨r1, r2⟩ := ropS_ok (l := Z.lSub a b) (v := Z.rq a - Z.rq b) h (by rw [fits, decide_eq_true k1, decide_eq_true k2, decide_eq_true k3, decide_eq_true k4]; rfl)
      rw [s3, s4, m1, m2, r1, r2]
      refine ⟨Z.chk_max c3, Z.chk_max c4, ?_, rfl⟩
      rw [oa.self, ob.self, Z.sub_divInt _ _ hda hdb]
  · obtain ⟨r1, r2⟩ := ropS_bad (l := Z.lSub a b) (v := Z.rq a - Z.rq b) h
    rw [r1, r2]
    exact qsub_bad a b _ w (both_bad a b w hv ha hb h) h
namespace Z
/-- The error and the text of a division. -/
def rdivE (a b : ByteArray) : Int := if rbothE a b = 0 ∧ rn b = 0 then 16 else ropE (lDiv a b) a b
def rdivS (a b : ByteArray) : ByteArray := if rdivE a b = 0 then Q (rq a / rq b) else ⟨#[]⟩
def rcmpE (a b : ByteArray) : Int := ropE (lCmp a b) a b
def rcmpV (a b : ByteArray) : Int := if rcmpE a b = 0 then cmpI (rn a * rd b) (rn b * rd a) else 0
theorem div_divInt (n₁ n₂ d₁ d₂ : Int) : Rat.divInt n₁ d₁ / Rat.divInt n₂ d₂ = Rat.divInt (n₁ * d₂) (d₁ * n₂) := by
  rw [Rat.div_def, Rat.inv_divInt, Rat.divInt_mul_divInt]
end Z
def DivQ (a b : ByteArray) (w : World) (e : Ending) (w' : World) : Prop := e = .returned (.tuple #[.string (Z.rdivS a b), .int .i64 (Z.rdivE a b)]) ∧ Below w.heap.size w w'
def CmpQ (a b : ByteArray) (w : World) (e : Ending) (w' : World) : Prop := e = .returned (.tuple #[.int .i64 (Z.rcmpV a b), .int .i64 (Z.rcmpE a b)]) ∧ Below w.heap.size w w'
end Go.Proofs.Ytpnojgaehafjdaa
/- What rational.Div and Compare answer (the package); fraction and Cross of the reference. -/

namespace Go.Proofs.Ytpnojgaehafjdaa
open Go.RowKit

theorem Z.rn_eq48 (b : ByteArray) : ((Z.S (Z.rn b)).toList == [48]) = decide (Z.rn b = 0) := Z.e48 _
theorem Z.cmp_S {x y : Int} (hx : Z.chk (Z.S x).data.toList = 0) (hy : Z.chk (Z.S y).data.toList = 0) : Z.cmpV (Z.S x) (Z.S y) = Z.cmpI x y ∧ Z.bothE (Z.S x) (Z.S y) = 0 := by
  have hb := Z.bothE_ok hx hy
  refine ⟨?_, hb⟩
  unfold Z.cmpV
  rw [if_pos hb, Z.ival_S, Z.ival_S]
theorem qdiv_any (a b : ByteArray) (w : World) (hv : HasV w) (ha : a.size ≤ 100000) (hb : b.size ≤ 100000) :
    Calls Try.prog 60 #[.string a, .string b] w (DivQ a b w) := by
  unfold DivQ
  by_cases h : Z.rbothE a b = 0
  · obtain ⟨oa, ob⟩ := Z.rbothE_ok h
    obtain ⟨a1, a2, _, _⟩ := oa.chks
    obtain ⟨b1, b2, _, _⟩ := ob.chks
    by_cases hz : Z.rn b = 0
    · have e1 : Z.rdivE a b = 16 := by unfold Z.rdivE; rw [if_pos ⟨h, hz⟩]
      have e2 : Z.rdivS a b = ⟨#[]⟩ := by unfold Z.rdivS; rw [e1, if_neg (by decide)]
      rw [e1, e2]
      exact qdiv_zero a b _ _ _ _ w (both_S hv ha hb h) (by rw [Z.rn_eq48, hz]; rfl)
    · have e1 : Z.rdivE a b = Z.ropE (Z.lDiv a b) a b := by unfold Z.rdivE; rw [if_neg (fun hh => hz hh.2)]
      have e2 : Z.rdivS a b = Z.ropS (Z.lDiv a b) (Z.rq a / Z.rq b) a b := by unfold Z.rdivS Z.ropS; rw [e1]
      rw [e1, e2]
      refine qdiv_core a b (Z.S (Z.rn a)) (Z.S (Z.rn b)) (Z.S (Z.rd a)) (Z.S (Z.rd b)) (Z.resS (Z.rn a * Z.rd b)) (Z.resS (Z.rd a * Z.rn b)) (Z.resE (Z.rn a * Z.rd b)) (Z.resE (Z.rd a * Z.rn b)) _ _ w
        (both_S hv ha hb h) (opC_mul2 a1 b2) (fun _ => opC_mul2 a2 b1) (fun k1 => ?_) (fun k1 k2 => ?_) (fun k1 k2 => ?_) (by rw [Z.rn_eq48]; simpa using hz)
      · rw [Z.res_14 k1]
        exact ropS_big h (by unfold Z.lDiv; rw [Z.fit2, decide_eq_false k1]; rfl)
      · rw [Z.res_14 k2]
        exact ropS_big h (by unfold Z.lDiv; rw [Z.fit2, decide_eq_false k2]; simp)
      · obtain ⟨s1, c1⟩ := Z.res_fit k1
        obtain ⟨s2, c2⟩ := Z.res_fit k2
        have hd : Z.rd a * Z.rn b ≠ 0 := Int.mul_ne_zero (by have := oa.pos; omega) hz
        obtain ⟨m1, m2⟩ := Z.make_S c1 c2 hd
        obtain ⟨r1, r2⟩ := ropS_ok (l := Z.lDiv a b) (v := Z.rq a / Z.rq b) h (by unfold Z.lDiv; rw [Z.fit2, decide_eq_true k1, decide_eq_true k2]; rfl)
        rw [s1, s2, m1, m2, r1, r2]
        refine ⟨Z.chk_max c1, Z.chk_max c2, ?_, rfl⟩
        rw [oa.self, ob.self, Z.div_divInt]
  · have e1 : Z.rdivE a b = Z.rbothE a b := by unfold Z.rdivE Z.ropE; rw [if_neg (fun hh => h hh.1), if_neg h]
    have e2 : Z.rdivS a b = ⟨#[]⟩ := by unfold Z.rdivS; rw [e1, if_neg h]
    rw [e1, e2]
    exact qdiv_bad a b _ w (both_bad a b w hv ha hb h) h
theorem Z.rcmp_bad {a b : ByteArray} (h : Z.rbothE a b ≠ 0) : Z.rcmpE a b = Z.rbothE a b ∧ Z.rcmpV a b = 0 := by
  have e1 : Z.rcmpE a b = Z.rbothE a b := by unfold Z.rcmpE Z.ropE; rw [if_neg h]
  exact ⟨e1, by unfold Z.rcmpV; rw [e1, if_neg h]⟩
theorem Z.rcmp_big {a b : ByteArray} (h : Z.rbothE a b = 0) (hf : Z.fitL (Z.lCmp a b) = false) : Z.rcmpE a b = 14 ∧ Z.rcmpV a b = 0 := by
  have e1 : Z.rcmpE a b = 14 := by unfold Z.rcmpE Z.ropE; rw [if_pos h, hf]; rfl
  exact ⟨e1, by unfold Z.rcmpV; rw [e1, if_neg (by decide)]⟩
theorem Z.rcmp_ok {a b : ByteArray} (h : Z.rbothE a b = 0) (hf : Z.fitL (Z.lCmp a b) = true) : Z.rcmpE a b = 0 ∧ Z.rcmpV a b = Z.cmpI (Z.rn a * Z.rd b) (Z.rn b * Z.rd a) := by
  have e1 : Z.rcmpE a b = 0 := by unfold Z.rcmpE Z.ropE; rw [if_pos h, hf]; rfl
  exact ⟨e1, by unfold Z.rcmpV; rw [e1, if_pos rfl]⟩
/-! The reference. -/
theorem Z.chk_mil {x : Int} (h : Z.chk (Z.S x).data.toList = 0) : (Z.S x).size ≤ 1000000 := by
  obtain ⟨z, e, hl⟩ := Z.int_of h
  rw [e]
  have := Z.S_size_le hl (by decide) (by decide)
  omega
theorem opC_ofR {F : Nat} {f : Int → Int → Int} {x y : Int} (hx : Z.chk (Z.S x).data.toList = 0) (hy : Z.chk (Z.S y).data.toList = 0) (C : ∀ (a b : ByteArray) (w : World), a.size ≤ 1000000 → b.size ≤ 1000000 → Calls Try.prog F #[.string a, .string b] w (OpRet f a b w)) :
    OpC F (Z.S x) (Z.S y) (Z.resS (f x y)) (Z.resE (f x y)) := by
  intro W
  have := C (Z.S x) (Z.S y) W (Z.chk_mil hx) (Z.chk_mil hy)
  unfold OpRet at this
  rwa [(Z.opS_ints (f := f) hx hy).1, (Z.opS_ints (f := f) hx hy).2] at this
namespace Z
def fracE (x y : Int) : Int := if resE x = 0 ∧ resE y = 0 then 0 else 14
def fracS (x y : Int) : ByteArray := if resE x = 0 ∧ resE y = 0 then Q (Rat.divInt x y) else ⟨#[]⟩
end Z
end Go.Proofs.Ytpnojgaehafjdaa
/- The reference of rationals: Cross, Add, Mul, Div, Compare. -/

namespace Go.Proofs.Ytpnojgaehafjdaa
open Go.RowKit
end Go.Proofs.Ytpnojgaehafjdaa
/- The reference of rationals: Negative; and what Mul, Div, Add, Sub, Compare answer. -/

namespace Go.Proofs.Ytpnojgaehafjdaa
open Go.RowKit

namespace Z
theorem den_zero {q : Rat} (h : q.num = 0) : q.den = 1 := by
  have := q.reduced
  rw [h] at this
  simpa [Nat.Coprime] using this
theorem neg_zero {q : Rat} (h : q.num = 0) : -q = q := by
  apply Rat.ext
  · show -q.num = q.num
    omega
  · rfl
theorem qT_zero {q : Rat} (h : q.num = 0) : qT q = [48] := by
  unfold qT txt
  rw [if_pos (den_zero h), if_neg (by omega), h]
  rfl
theorem qT_neg {q : Rat} (h : q.num < 0) : qT q = 45 :: qT (-q) := by
  have e1 : (-q).num = -q.num := rfl
  have e2 : (-q).den = q.den := rfl
  have e3 : txt q.num = 45 :: txt (-q.num) := by
    unfold txt
    rw [if_pos h, if_neg (by omega), Int.natAbs_neg]
  unfold qT
  rw [e1, e2, e3]
  split <;> rfl
theorem qT_head {q : Rat} (h : 0 < q.num) : ∃ c r, qT q = c :: r ∧ c ≠ 45 ∧ qT q ≠ [48] := by
  have e3 : txt q.num = decB q.num.natAbs := by unfold txt; rw [if_neg (by omega)]
  obtain ⟨c, r, e⟩ := List.exists_cons_of_ne_nil (decB_ne q.num.natAbs)
  have hc : isDig c = true := List.all_eq_true.1 (decB_all q.num.natAbs) c (by rw [e]; exact List.mem_cons_self ..)
  have h45 : c ≠ 45 := by rintro rfl; cases hc
  have hz : qT q ≠ [48] := by
    intro hh
    have h1 : Q q = Q 0 := by
      apply ba_of
      rw [Q_data, Q_data, hh]; decide +kernel
    have := Q_inj h1
    rw [this] at h
    exact absurd h (by decide)
  unfold qT at hz ⊢
  rw [e3, e] at hz ⊢
  split
  · rename_i hd
    rw [if_pos hd] at hz
    exact ⟨_, _, rfl, h45, hz⟩
  · rename_i hd
    rw [if_neg hd] at hz
    exact ⟨_, _, rfl, h45, hz⟩
theorem qT_pos {q : Rat} (h : 0 < q.num) : qT (-q) = 45 :: qT q := by
  have e1 : (-q).num = -q.num := rfl
  have := qT_neg (q := -q) (by rw [e1]; omega)
  rwa [Rat.neg_neg] at this
theorem Fit.neg {q : Rat} (h : Fit q) : Fit (-q) := by
  have e1 : (-q).num = -q.num := rfl
  have e2 : (-q).den = q.den := rfl
  unfold Fit at *
  rw [e1, e2, Int.natAbs_neg]
  exact h
theorem Q_size {q : Rat} (h : Fit q) : (Q q).size ≤ 2100 := by
  have h1 : (qT q).length ≤ 2100 := by
    have t1 : (txt q.num).length ≤ 1001 := by
      unfold txt; split
      · rw [List.length_cons]; have := h.1; omega
      · have := h.1; omega
    unfold qT
    split
    · omega
    · rw [List.length_append, List.length_cons]; have := h.2; omega
  rw [Lib.size_eq, Q_data]; exact h1
end Z
end Go.Proofs.Ytpnojgaehafjdaa
/- What Mul, Div, Add, Sub and Compare of the reference of rationals answer. -/

namespace Go.Proofs.Ytpnojgaehafjdaa
open Go.RowKit

namespace Z
theorem frac_rop {l : List Int} {x y : Int} {v : Rat} {a b : ByteArray} (h : rbothE a b = 0) (hl : fitL l = true ↔ (resE x = 0 ∧ resE y = 0)) (hv : Rat.divInt x y = v) : fracS x y = ropS l v a b ∧ fracE x y = ropE l a b := by
  unfold fracS fracE ropS ropE
  rw [if_pos h]
  by_cases hh : resE x = 0 ∧ resE y = 0
  · rw [if_pos hh, if_pos hh, hl.2 hh, hv]; exact ⟨rfl, rfl⟩
  · have : fitL l = false := by
      cases e : fitL l
      · rfl
      · exact absurd (hl.1 e) hh
    rw [if_neg hh, if_neg hh, this]; exact ⟨rfl, rfl⟩
theorem resE_neg (x : Int) : resE (-x) = resE x := by unfold resE; rw [Int.natAbs_neg]
end Z
end Go.Proofs.Ytpnojgaehafjdaa
/- Walks: the reference: Great of the rationals, over a slice of strings. -/

namespace Go.Proofs.Ytpnojgaehafjdaa
open Go.RowKit
end Go.Proofs.Ytpnojgaehafjdaa
