/- Walks: the reference: Add, Sub, Mul, DivMod, Gcd, Compare. -/
import Derived.Test.YtdjghmpaopfboaaR3
import Derived.Test.YtdjghmpaopfboaaI5
namespace Go.Proofs.Ytdjghmpaopfboaa
open Go.RowKit

/-- What Digits answers for an integer without error. -/
def DgOk (w : World) (z : Int) (e : Ending) (w' : World) : Prop := ∃ A c ds, e = .returned (.tuple #[.slice A (List.length ds) c, .bool (decide (z < 0)), .bool true]) ∧ Ow .i64 3 w' w.heap.size (.slice A ds.length c) ds ∧
  (∀ d ∈ ds, d < 10) ∧ ds.length ≤ 1000 ∧ Z.ofDg 10 ds = z.natAbs ∧ Below w.heap.size w w'
theorem digits_ok (s : ByteArray) (w : World) (h : Z.chk s.data.toList = 0) : Calls Try.prog 62 #[.string s] w (DgOk w (Z.ival s.data.toList)) := by
  obtain ⟨hc, hl⟩ := Z.chk_zero_iff.1 h
  have hs : s.size ≤ 1001 := by rw [Lib.size_eq]; exact Z.chk_size h
  refine (digits_any s w (by omega)).mono ?_
  rintro e w1 ⟨v1, rfl, ho, hb⟩
  rw [hc] at ho ⊢
  simp only [↓reduceIte, Bool.true_and] at ho ⊢
  obtain ⟨A, c, rfl⟩ := ho.shape
  refine ⟨A, c, Z.rdg (Z.mags s.data.toList), ?_, ho, Z.rdg_lt (Z.canon_parts hc).all, by rw [Z.rdg_length]; exact hl, ?_, hb⟩
  · rw [Z.isNeg_ival hc]
  · rw [Z.natAbs_ival, Z.natOf_rdg]
theorem text_ok (v : Value) (ds : List Nat) (ng : Bool) (z : Int) (w : World) (hS : SN .i64 w v ds) (hd : ∀ d ∈ ds, d < 10) (hl : ds.length ≤ 1000000) (hz : sgn ng (Z.ofDg 10 ds) = z) :
    Calls Try.prog 86 #[v, .bool ng] w (StrRet w (Z.txt z)) := by
  have T := text_any v ds ng w hS hd hl
  rwa [Z.txtD_txt, Z.sgn_if, hz] at T
theorem sum_sgn {x y : Int} : (decide (x < 0) = decide (y < 0) → sgn (decide (x < 0)) (x.natAbs + y.natAbs) = x + y) ∧
    (decide (x < 0) ≠ decide (y < 0) → y.natAbs ≤ x.natAbs → sgn (decide (x < 0)) (x.natAbs - y.natAbs) = x + y) ∧
    (decide (x < 0) ≠ decide (y < 0) → x.natAbs < y.natAbs → sgn (decide (y < 0)) (y.natAbs - x.natAbs) = x + y) := by
  unfold sgn
  by_cases hx : x < 0 <;> by_cases hy : y < 0 <;> simp [hx, hy] <;> omega

set_option maxHeartbeats 1000000 in
theorem radd_any (a b : ByteArray) (w : World) (ha : a.size ≤ 1000000) (hb : b.size ≤ 1000000) :
    Calls Try.prog 58 #[.string a, .string b] w (OpRet (fun x y => x + y) a b w) := by
  by_cases h : Z.bothE a b = 0
  · skip
    obtain ⟨ca, cb⟩ := Z.bothE_zero h
    have B0 := Lib.hid (fun W : World => both_any a b W ha hb)
    unfold BothRet at B0
    rw [h] at B0
    have D1 := Lib.hid (fun W : World => digits_ok a W ca)
    have D2 := Lib.hid (fun W : World => digits_ok b W cb)
    have HF := Lib.hid (fun (w' : World) (hw : Below w.heap.size w w') => op_ok (f := (fun x y => x + y)) h rfl hw)
    clear h ca cb
    generalize Z.ival a.data.toList = x at *
    generalize Z.ival b.data.toList = y at *
    have HS := Lib.hid (@sum_sgn x y)
    go_enter Try.func58, Try.ntmps58
    go_wp2_with fail
    refine (B0.out _).mono ?_
    rintro e w1 ⟨rfl, hb1⟩
    go_wp2_with fail
    refine (D1.out _).mono ?_
    rintro e w2 ⟨A, c, xs, rfl, hx, hxd, hxl, hxv, hb2⟩
    have c2 := hb1.trans (hb2.mono hb1.size)
    have HXV := Lib.hid hxv
    have HXD := Lib.hid hxd
    clear hxv hxd hb1 hb2
    go_wp2_with fail
    refine (D2.out _).mono ?_
    rintro e w3 ⟨A', c', ys, rfl, hy, hyd, hyl, hyv, hb3⟩
    have c3 := c2.trans (hb3.mono c2.size)
    have hx3 := hx.sn.below hb3
    have hy3 := hy.sn
    have HYV := Lib.hid hyv
    have HYD := Lib.hid hyd
    have mx := hx3.bound
    have my := hy3.bound
    clear hyv hyd hb3 hx hy c2
    generalize hp : decide (x < 0) = p at *
    generalize hq : decide (y < 0) = q at *
    have HPQ := Lib.hid (And.intro hp hq)
    clear hp hq
    by_cases hpq : p = q
    · have e1 := HS.out.1 hpq
      subst hpq
      clear HPQ
      go_wp2_with fail
      refine (rplus_any _ _ xs ys _ hx3 hy3 HXD.out HYD.out (by omega) (by omega)).mono ?_
      rintro e w4 ⟨v4, os, rfl, ho4, hd4, hv4, hl4, hb4⟩
      have R := result_any v4 os p (x + y) w4 ho4.sn hd4 (by omega) (by rw [hv4, HXV.out, HYV.out]; exact e1)
      have HR := Lib.hid R
      clear R hv4 e1
      go_wp2_with fail
      refine HR.out.mono ?_
      rintro e w5 ⟨rfl, hb5⟩
      go_wp2_with fail
      go_ret2
      exact HF.out _ (c3.trans ((hb4.trans (hb5.mono hb4.size)).mono c3.size))
    · have hne : (p == q) = false := by simpa using hpq
      have C := greater_any _ _ 10 (by omega) xs ys _ hx3 hy3 HXD.out HYD.out (by omega) (by omega)
      rw [HXV.out, HYV.out] at C
      rcases Nat.lt_or_ge x.natAbs y.natAbs with hlt | hge
      · have e1 := HS.out.2.2 hpq hlt
        rw [Z.cmp_lt hlt] at C
        have C' := Lib.hid C
        have HE := Lib.hid e1
        have HLT := Lib.hid hlt
        clear C e1 hpq hlt HPQ
        go_wp2_with fail
        refine C'.out.mono ?_
        rintro e w' ⟨rfl, rfl⟩
        go_wp2_with fail
        refine (rminus_any _ _ ys xs _ hy3 hx3 HYD.out HXD.out (by omega) (by omega) (by rw [HXV.out, HYV.out]; exact Nat.le_of_lt HLT.out)).mono ?_
        rintro e w4 ⟨v4, os, rfl, ho4, hd4, hv4, hl4, hb4⟩
        have R := result_any v4 os q (x + y) w4 ho4.sn hd4 (by omega) (by rw [hv4, HXV.out, HYV.out]; exact HE.out)
        have HR := Lib.hid R
        clear R hv4
        go_wp2_with fail
        refine HR.out.mono ?_
        rintro e w5 ⟨rfl, hb5⟩
        go_wp2_with fail
        go_ret2
        exact HF.out _ (c3.trans ((hb4.trans (hb5.mono hb4.size)).mono c3.size))
      · have e1 := HS.out.2.1 hpq hge
        have hcv : 0 ≤ Z.cmp x.natAbs y.natAbs := by
          rcases Nat.eq_or_lt_of_le hge with h | h
          · rw [Z.cmp_eq h.symm]; omega
          · rw [Z.cmp_gt h]; omega
        have HE := Lib.hid e1
        have HGE := Lib.hid hge
        generalize Z.cmp x.natAbs y.natAbs = cv at *
        have C' := Lib.hid C
        clear C e1 hpq hge HPQ
        go_wp2_with fail
        refine C'.out.mono ?_
        rintro e w' ⟨rfl, rfl⟩
        go_wp2_with fail
        refine (rminus_any _ _ xs ys _ hx3 hy3 HXD.out HYD.out (by omega) (by omega) (by rw [HXV.out, HYV.out]; exact HGE.out)).mono ?_
        rintro e w4 ⟨v4, os, rfl, ho4, hd4, hv4, hl4, hb4⟩
        have R := result_any v4 os p (x + y) w4 ho4.sn hd4 (by omega) (by rw [hv4, HXV.out, HYV.out]; exact HE.out)
        have HR := Lib.hid R
        clear R hv4
        go_wp2_with fail
        refine HR.out.mono ?_
        rintro e w5 ⟨rfl, hb5⟩
        go_wp2_with fail
        go_ret2
        exact HF.out _ (c3.trans ((hb4.trans (hb5.mono hb4.size)).mono c3.size))
  · have hne : (Z.bothE a b != 0) = true := by simpa using h
    have B0 := Lib.hid (fun W : World => both_any a b W ha hb)
    unfold BothRet at B0
    have HF := Lib.hid (fun (w' : World) (hw : Below w.heap.size w w') => op_bad (f := (fun x y => x + y)) h hw)
    clear h
    generalize Z.bothE a b = k at *
    go_enter Try.func58, Try.ntmps58
    go_wp2_with fail
    refine (B0.out _).mono ?_
    rintro e w1 ⟨rfl, hb1⟩
    go_wp2_with fail
    go_ret2
    exact HF.out _ hb1
theorem neg_parts {b : ByteArray} (h : Z.chk b.data.toList = 0) : Z.chk (Z.txt (-Z.ival b.data.toList)) = 0 ∧ (Z.txt (-Z.ival b.data.toList)).length ≤ 1001 := by
  obtain ⟨hc, hl⟩ := Z.chk_zero_iff.1 h
  have h1 : Z.chk (Z.txt (-Z.ival b.data.toList)) = 0 := Z.chk_txt (by rw [Int.natAbs_neg, Z.decB_ival hc]; exact hl)
  exact ⟨h1, Z.chk_size h1⟩
set_option maxHeartbeats 1000000 in
theorem rmul_any (a b : ByteArray) (w : World) (ha : a.size ≤ 1000000) (hb : b.size ≤ 1000000) :
    Calls Try.prog 59 #[.string a, .string b] w (OpRet (fun x y => x * y) a b w) := by
  by_cases h : Z.bothE a b = 0
  · skip
    obtain ⟨ca, cb⟩ := Z.bothE_zero h
    have B0 := Lib.hid (fun W : World => both_any a b W ha hb)
    unfold BothRet at B0
    rw [h] at B0
    have D1 := Lib.hid (fun W : World => digits_ok a W ca)
    have D2 := Lib.hid (fun W : World => digits_ok b W cb)
    have HF := Lib.hid (fun (w' : World) (hw : Below w.heap.size w w') => op_ok (f := (fun x y => x * y)) h rfl hw)
    clear h ca cb
    generalize Z.ival a.data.toList = x at *
    generalize Z.ival b.data.toList = y at *
    have HS := Lib.hid (mul_sgn x y)
    go_enter Try.func59, Try.ntmps59
    go_wp2_with fail
    refine (B0.out _).mono ?_
    rintro e w1 ⟨rfl, hb1⟩
    go_wp2_with fail
    refine (D1.out _).mono ?_
    rintro e w2 ⟨A, c, xs, rfl, hx, hxd, hxl, hxv, hb2⟩
    have c2 := hb1.trans (hb2.mono hb1.size)
    have HXV := Lib.hid hxv
    have HXD := Lib.hid hxd
    clear hxv hxd hb1 hb2
    go_wp2_with fail
    refine (D2.out _).mono ?_
    rintro e w3 ⟨A', c', ys, rfl, hy, hyd, hyl, hyv, hb3⟩
    have c3 := c2.trans (hb3.mono c2.size)
    have hx3 := hx.sn.below hb3
    have hy3 := hy.sn
    have HYV := Lib.hid hyv
    have HYD := Lib.hid hyd
    have mx := hx3.bound
    have my := hy3.bound
    clear hyv hyd hb3 hx hy c2
    generalize decide (x < 0) = p at *
    generalize decide (y < 0) = q at *
    go_wp2_with fail
    refine (rtimes_any _ _ xs ys _ hx3 hy3 HXD.out HYD.out (by omega) (by omega)).mono ?_
    rintro e w4 ⟨v4, os, rfl, ho4, hd4, hv4, hl4, hb4⟩
    have HR := Lib.hid (fun (pq : Bool) (hpq : pq = (p != q)) => result_any v4 os pq (x * y) w4 ho4.sn hd4 (by omega) (by rw [hpq, hv4, HXV.out, HYV.out]; exact HS.out))
    clear hv4
    go_wp2_with fail
    refine (HR.out _ (by cases p <;> cases q <;> rfl)).mono ?_
    rintro e w5 ⟨rfl, hb5⟩
    go_wp2_with fail
    go_ret2
    exact HF.out _ (c3.trans ((hb4.trans (hb5.mono hb4.size)).mono c3.size))
  · have hne : (Z.bothE a b != 0) = true := by simpa using h
    have B0 := Lib.hid (fun W : World => both_any a b W ha hb)
    unfold BothRet at B0
    have HF := Lib.hid (fun (w' : World) (hw : Below w.heap.size w w') => op_bad (f := (fun x y => x * y)) h hw)
    clear h
    generalize Z.bothE a b = k at *
    go_enter Try.func59, Try.ntmps59
    go_wp2_with fail
    refine (B0.out _).mono ?_
    rintro e w1 ⟨rfl, hb1⟩
    go_wp2_with fail
    go_ret2
    exact HF.out _ hb1
set_option maxHeartbeats 4000000 in
theorem rdivmod_any (a b : ByteArray) (w : World) (ha : a.size ≤ 1000000) (hb : b.size ≤ 1000000) :
    Calls Try.prog 99 #[.string a, .string b] w (DmRet a b w) := by
  by_cases h : Z.bothE a b = 0
  · skip
    by_cases h0 : Z.ival b.data.toList = 0
    · obtain ⟨ca, cb⟩ := Z.bothE_zero h
      have B0 := Lib.hid (fun W : World => both_any a b W ha hb)
      unfold BothRet at B0
      rw [h] at B0
      have D1 := Lib.hid (fun W : World => digits_ok a W ca)
      have D2 := Lib.hid (fun W : World => digits_ok b W cb)
      have HF := Lib.hid (fun (w' : World) (hw : Below w.heap.size w w') => dm_zero h h0 hw)
      have HY0 := Lib.hid h0
      clear h0
      clear h ca cb
      generalize Z.ival a.data.toList = x at *
      generalize Z.ival b.data.toList = y at *
      go_enter Try.func99, Try.ntmps99
      go_wp2_with fail
      refine (B0.out _).mono ?_
      rintro e w1 ⟨rfl, hb1⟩
      go_wp2_with fail
      refine (D1.out _).mono ?_
      rintro e w2 ⟨A, c, xs, rfl, hx, hxd, hxl, hxv, hb2⟩
      have c2 := hb1.trans (hb2.mono hb1.size)
      have HXV := Lib.hid hxv
      have HXD := Lib.hid hxd
      clear hxv hxd hb1 hb2
      go_wp2_with fail
      refine (D2.out _).mono ?_
      rintro e w3 ⟨A', c', ys, rfl, hy, hyd, hyl, hyv, hb3⟩
      have c3 := c2.trans (hb3.mono c2.size)
      have hx3 := hx.sn.below hb3
      have hy3 := hy.sn
      have HYV := Lib.hid hyv
      have HYD := Lib.hid hyd
      have mx := hx3.bound
      have my := hy3.bound
      clear hyv hyd hb3 hx hy c2
      have ZC := zero_any _ ys _ hy3 HYD.out (by omega)
      have hz : decide (Z.ofDg 10 ys = 0) = true := by rw [HYV.out, HY0.out]; rfl
      rw [hz] at ZC
      have Z' := Lib.hid ZC
      clear ZC hz
      go_wp2_with fail
      refine Z'.out.mono ?_
      rintro e w' ⟨rfl, rfl⟩
      go_wp2_with fail
      go_ret3
      exact HF.out _ c3
    · obtain ⟨ca, cb⟩ := Z.bothE_zero h
      have B0 := Lib.hid (fun W : World => both_any a b W ha hb)
      unfold BothRet at B0
      rw [h] at B0
      have D1 := Lib.hid (fun W : World => digits_ok a W ca)
      have D2 := Lib.hid (fun W : World => digits_ok b W cb)
      have HF := Lib.hid (fun (q r : Int) (hq : _ = q) (hr : _ = r) (w' : World) (hw : Below w.heap.size w w') => dm_ok h h0 hq hr hw)
      have HY0 := Lib.hid h0
      clear h0
      clear h ca cb
      generalize Z.ival a.data.toList = x at *
      generalize Z.ival b.data.toList = y at *
      have HFF := Lib.hid (HF.out _ _ rfl rfl)
      clear HF
      by_cases hcase : 0 ≤ x ∨ x.natAbs % y.natAbs = 0
      · have HS := Lib.hid (Z.div_same HY0.out hcase)
        have hcond : decide (x < 0) = true → x.natAbs % y.natAbs = 0 := by intro hh; simp at hh; omega
        clear hcase
        go_enter Try.func99, Try.ntmps99
        go_wp2_with fail
        refine (B0.out _).mono ?_
        rintro e w1 ⟨rfl, hb1⟩
        go_wp2_with fail
        refine (D1.out _).mono ?_
        rintro e w2 ⟨A, c, xs, rfl, hx, hxd, hxl, hxv, hb2⟩
        have c2 := hb1.trans (hb2.mono hb1.size)
        have HXV := Lib.hid hxv
        have HXD := Lib.hid hxd
        clear hxv hxd hb1 hb2
        go_wp2_with fail
        refine (D2.out _).mono ?_
        rintro e w3 ⟨A', c', ys, rfl, hy, hyd, hyl, hyv, hb3⟩
        have c3 := c2.trans (hb3.mono c2.size)
        have hx3 := hx.sn.below hb3
        have hy3 := hy.sn
        have HYV := Lib.hid hyv
        have HYD := Lib.hid hyd
        have mx := hx3.bound
        have my := hy3.bound
        clear hyv hyd hb3 hx hy c2
        have ZC := zero_any _ ys _ hy3 HYD.out (by omega)
        have hz : decide (Z.ofDg 10 ys = 0) = false := by rw [HYV.out]; simp; exact HY0.out
        rw [hz] at ZC
        have Z' := Lib.hid ZC
        have DV := rdivide_any _ _ xs ys _ hx3 hy3 HXD.out HYD.out (by omega) (by omega) (by rw [HYV.out]; have := HY0.out; omega)
        rw [HXV.out, HYV.out] at DV
        have D' := Lib.hid DV
        have hyy : (Z.dg 10 y.natAbs).length ≤ 1000 := by
          rw [← HYV.out]
          exact Nat.le_trans (Z.dg_len_of_lt 10 (by omega) _ _ (Z.ofDg_lt 10 (by omega) ys HYD.out)) hyl
        clear ZC hz DV
        have HC := Lib.hid (fun (p : Bool) (hp : p = decide (x < 0)) (h : p = true) => hcond (hp ▸ h))
        clear hcond
        generalize decide (x < 0) = p at *
        generalize decide (y < 0) = q at *
        go_wp2_with fail
        refine Z'.out.mono ?_
        rintro e w' ⟨rfl, rfl⟩
        go_wp2_with fail
        refine D'.out.mono ?_
        rintro e w4 ⟨v4, u4, qs, rs, rfl, hq4, hr4, hqd, hrd, hqv, hrv, hql, hrl, hb4⟩
        have c4 := c3.trans (hb4.mono c3.size)
        have hy4 := hy3.below hb4
        have ZR := zero_any _ rs _ hr4.sn hrd (by omega)
        have HQV := Lib.hid hqv
        have HRV := Lib.hid hrv
        have HQD := Lib.hid hqd
        have HRD := Lib.hid hrd
        clear hqv hqd hrd hb4 hx3 hy3 Z' D'
        have HT1 := Lib.hid (fun (W : World) (pq : Bool) (hpq : pq = (p != q)) (hS : SN .i64 W v4 qs) => text_ok v4 qs pq (x / y) W hS HQD.out (by omega) (by rw [hpq, HQV.out]; exact HS.out.1.symm))
        have HT2 := Lib.hid (fun (W : World) (hS : SN .i64 W u4 rs) => text_ok u4 rs false (x % y) W hS HRD.out (by omega) (by rw [hrv]; exact HS.out.2.symm))
        cases p
        · clear ZR hrv HC
          go_wp2_with fail
          refine (HT1.out _ _ (by simp) hq4.sn).mono ?_
          rintro e w5 ⟨rfl, hb5⟩
          go_wp2_with fail
          refine (HT2.out _ (hr4.sn.below hb5)).mono ?_
          rintro e w6 ⟨rfl, hb6⟩
          go_wp2_with fail
          go_ret3
          exact HFF.out _ (c4.trans ((hb5.trans (hb6.mono hb5.size)).mono c4.size))
        · rw [hrv, HC.out true rfl rfl] at ZR
          have ZR' : Hid (Calls Try.prog 84 #[u4] w4 fun e w' => e = .returned (.bool true) ∧ w4 = w') := ZR
          clear ZR hrv HC
          go_wp2_with fail
          refine ZR'.out.mono ?_
          rintro e w' ⟨rfl, rfl⟩
          go_wp2_with fail
          refine (HT1.out _ _ (by simp) hq4.sn).mono ?_
          rintro e w5 ⟨rfl, hb5⟩
          go_wp2_with fail
          refine (HT2.out _ (hr4.sn.below hb5)).mono ?_
          rintro e w6 ⟨rfl, hb6⟩
          go_wp2_with fail
          go_ret3
          exact HFF.out _ (c4.trans ((hb5.trans (hb6.mono hb5.size)).mono c4.size))
      · have hx0 : x < 0 := by omega
        have hr0 : 0 < x.natAbs % y.natAbs := by omega
        have HS := Lib.hid (Z.div_next HY0.out hx0 hr0)
        have HP := Lib.hid (decide_eq_true hx0)
        have HR0 := Lib.hid hr0
        clear hcase hx0 hr0
        go_enter Try.func99, Try.ntmps99
        go_wp2_with fail
        refine (B0.out _).mono ?_
        rintro e w1 ⟨rfl, hb1⟩
        go_wp2_with fail
        refine (D1.out _).mono ?_
        rintro e w2 ⟨A, c, xs, rfl, hx, hxd, hxl, hxv, hb2⟩
        have c2 := hb1.trans (hb2.mono hb1.size)
        have HXV := Lib.hid hxv
        have HXD := Lib.hid hxd
        clear hxv hxd hb1 hb2
        go_wp2_with fail
        refine (D2.out _).mono ?_
        rintro e w3 ⟨A', c', ys, rfl, hy, hyd, hyl, hyv, hb3⟩
        have c3 := c2.trans (hb3.mono c2.size)
        have hx3 := hx.sn.below hb3
        have hy3 := hy.sn
        have HYV := Lib.hid hyv
        have HYD := Lib.hid hyd
        have mx := hx3.bound
        have my := hy3.bound
        clear hyv hyd hb3 hx hy c2
        have ZC := zero_any _ ys _ hy3 HYD.out (by omega)
        have hz : decide (Z.ofDg 10 ys = 0) = false := by rw [HYV.out]; simp; exact HY0.out
        rw [hz] at ZC
        have Z' := Lib.hid ZC
        have DV := rdivide_any _ _ xs ys _ hx3 hy3 HXD.out HYD.out (by omega) (by omega) (by rw [HYV.out]; have := HY0.out; omega)
        rw [HXV.out, HYV.out] at DV
        have D' := Lib.hid DV
        have hyy : (Z.dg 10 y.natAbs).length ≤ 1000 := by
          rw [← HYV.out]
          exact Nat.le_trans (Z.dg_len_of_lt 10 (by omega) _ _ (Z.ofDg_lt 10 (by omega) ys HYD.out)) hyl
        clear ZC hz DV
        generalize decide (x < 0) = p at *
        generalize decide (y < 0) = q at *
        go_wp2_with fail
        refine Z'.out.mono ?_
        rintro e w' ⟨rfl, rfl⟩
        go_wp2_with fail
        refine D'.out.mono ?_
        rintro e w4 ⟨v4, u4, qs, rs, rfl, hq4, hr4, hqd, hrd, hqv, hrv, hql, hrl, hb4⟩
        have c4 := c3.trans (hb4.mono c3.size)
        have hy4 := hy3.below hb4
        have ZR := zero_any _ rs _ hr4.sn hrd (by omega)
        have HQV := Lib.hid hqv
        have HRV := Lib.hid hrv
        have HQD := Lib.hid hqd
        have HRD := Lib.hid hrd
        clear hqv hqd hrd hb4 hx3 hy3 Z' D'
        obtain rfl : p = true := HP.out
        have hz2 : decide (Z.ofDg 10 rs = 0) = false := by rw [hrv]; simp; exact Nat.ne_of_gt HR0.out
        rw [hz2] at ZR
        have ZR' := Lib.hid ZR
        clear ZR hz2 hrv
        go_wp2_with fail
        refine ZR'.out.mono ?_
        rintro e w' ⟨rfl, rfl⟩
        go_wp2_with fail
        have n0 := sn_int_one w4 1 1 rfl 3
        have hal := (Below.refl w4.heap.size w4).alloc (Nat.le_refl _) (.cells #[.int .i64 1] 3)
        refine (rplus_any _ _ qs [1] _ (hq4.sn.below hal) n0 HQD.out (by simp) (by omega) (by simp)).mono ?_
        rintro e w5 ⟨v5, os5, rfl, ho5, hd5, hv5, hl5, hb5⟩
        have hb5' := hal.trans (hb5.mono (by simp))
        have HV5 := Lib.hid hv5
        have HD5 := Lib.hid hd5
        clear hv5 hd5 hb5
        simp only [List.length_cons, List.length_nil] at hl5
        go_wp2_with fail
        refine (rminus_any _ _ ys rs _ (hy4.below hb5') (hr4.sn.below hb5') HYD.out HRD.out (by omega) (by omega) (by rw [HRV.out, HYV.out]; exact Nat.le_of_lt (Nat.mod_lt _ (by have := HY0.out; omega)))).mono ?_
        rintro e w6 ⟨v6, os6, rfl, ho6, hd6, hv6, hl6, hb6⟩
        have HV6 := Lib.hid hv6
        have HD6 := Lib.hid hd6
        clear hv6 hd6
        have hb6' := hb5'.trans (hb6.mono hb5'.size)
        have e1 : Z.ofDg 10 os5 = x.natAbs / y.natAbs + 1 := by rw [HV5.out, HQV.out]; simp [Z.ofDg]
        have e2 : Z.ofDg 10 os6 = y.natAbs - x.natAbs % y.natAbs := by rw [HV6.out, HYV.out, HRV.out]
        have HT1 := Lib.hid (fun (W : World) (pq : Bool) (hpq : pq = (true != q)) (hS : SN .i64 W v5 os5) => text_ok v5 os5 pq (x / y) W hS HD5.out (by omega) (by rw [hpq, e1]; exact HS.out.1.symm))
        have HT2 := Lib.hid (fun (W : World) (hS : SN .i64 W v6 os6) => text_ok v6 os6 false (x % y) W hS HD6.out (by omega) (by rw [e2]; exact HS.out.2.symm))
        clear e1 e2
        go_wp2_with fail
        refine (HT1.out _ _ (by simp) (ho5.sn.below hb6)).mono ?_
        rintro e w7 ⟨rfl, hb7⟩
        go_wp2_with fail
        refine (HT2.out _ (ho6.sn.below hb7)).mono ?_
        rintro e w8 ⟨rfl, hb8⟩
        go_wp2_with fail
        go_ret3
        exact HFF.out _ (c4.trans ((hb6'.trans ((hb7.trans (hb8.mono hb7.size)).mono hb6'.size)).mono c4.size))
  · have hne : (Z.bothE a b != 0) = true := by simpa using h
    have B0 := Lib.hid (fun W : World => both_any a b W ha hb)
    unfold BothRet at B0
    have HF := Lib.hid (fun (w' : World) (hw : Below w.heap.size w w') => dm_bad h hw)
    clear h
    generalize Z.bothE a b = k at *
    go_enter Try.func99, Try.ntmps99
    go_wp2_with fail
    refine (B0.out _).mono ?_
    rintro e w1 ⟨rfl, hb1⟩
    go_wp2_with fail
    go_ret3
    exact HF.out _ hb1
/-- The loop's state: the digits of two numbers with the greatest common divisor G. -/
def RGSt (w : World) (G k : Nat) (xv yv : Value) (wr : World) : Prop := ∃ xs ys : List Nat, SN .i64 wr xv xs ∧ SN .i64 wr yv ys ∧ (∀ d ∈ xs, d < 10) ∧ (∀ d ∈ ys, d < 10) ∧ xs.length ≤ 1001 ∧ ys.length ≤ 1001 ∧
  (Z.dg 10 k).length ≤ 1000 ∧ Z.ofDg 10 ys = k ∧ Nat.gcd (Z.ofDg 10 xs) k = G ∧ Below w.heap.size w wr
set_option maxHeartbeats 4000000 in
theorem rgcd_any (a b : ByteArray) (w : World) (ha : a.size ≤ 1000000) (hb : b.size ≤ 1000000) :
    Calls Try.prog 64 #[.string a, .string b] w (GcdRet a b w) := by
  by_cases h : Z.bothE a b = 0
  · skip
    obtain ⟨ca, cb⟩ := Z.bothE_zero h
    have B0 := Lib.hid (fun W : World => both_any a b W ha hb)
    unfold BothRet at B0
    rw [h] at B0
    have D1 := Lib.hid (fun W : World => digits_ok a W ca)
    have D2 := Lib.hid (fun W : World => digits_ok b W cb)
    have HF := Lib.hid (fun (c : Int) (hc : _ = c) (w' : World) (hw : Below w.heap.size w w') => gcd_ok h hc hw)
    clear h ca cb
    generalize Z.ival a.data.toList = x at *
    generalize Z.ival b.data.toList = y at *
    unfold Z.gcdI at HF
    have HG := Lib.hid (HF.out _ rfl)
    clear HF
    go_enter Try.func64, Try.ntmps64
    go_wp2_with fail
    refine (B0.out _).mono ?_
    rintro e w1 ⟨rfl, hb1⟩
    go_wp2_with fail
    refine (D1.out _).mono ?_
    rintro e w2 ⟨A, c, xs, rfl, hx, hxd, hxl, hxv, hb2⟩
    have c2 := hb1.trans (hb2.mono hb1.size)
    have HXV := Lib.hid hxv
    have HXD := Lib.hid hxd
    clear hxv hxd hb1 hb2
    go_wp2_with fail
    refine (D2.out _).mono ?_
    rintro e w3 ⟨A', c', ys, rfl, hy, hyd, hyl, hyv, hb3⟩
    have c3 := c2.trans (hb3.mono c2.size)
    have hx3 := hx.sn.below hb3
    have hy3 := hy.sn
    have HYV := Lib.hid hyv
    have HYD := Lib.hid hyd
    have mx := hx3.bound
    have my := hy3.bound
    clear hyv hyd hb3 hx hy c2
    have hyy : (Z.dg 10 y.natAbs).length ≤ 1000 := by
      rw [← HYV.out]
      exact Nat.le_trans (Z.dg_len_of_lt 10 (by omega) _ _ (Z.ofDg_lt 10 (by omega) ys HYD.out)) hyl
    have hst : RGSt w (Nat.gcd x.natAbs y.natAbs) y.natAbs (.slice A xs.length c) (.slice A' ys.length c') w3 :=
      ⟨xs, ys, hx3, hy3, HXD.out, HYD.out, by omega, by omega, hyy, HYV.out, by rw [HXV.out], c3⟩
    have HST := Lib.hid hst
    have hwn := c3.size
    clear hst hx3 hy3 HXD HYD HXV HYV c3 hyy hxl hyl mx my
    generalize Nat.gcd x.natAbs y.natAbs = G at *
    go_wp2_with fail
    go_loopg [7, 10] y.natAbs (fun k xv yv wr => RGSt w G k xv yv wr)
    case atStart => exact HST.out
    case round =>
      clear HST
      obtain ⟨xs2, ys2, hx, hy, hxd, hyd, hxl, hyl, hyn, hyv, hg, hbw⟩ := hrel
      have HXD := Lib.hid hxd
      have HYD := Lib.hid hyd
      have HYV := Lib.hid hyv
      have HGC := Lib.hid hg
      have ZC := zero_any _ ys2 _ hy hyd (by omega)
      clear hxd hg
      by_cases hk : 0 < gk
      · have hz : decide (Z.ofDg 10 ys2 = 0) = false := by rw [hyv]; simp; omega
        rw [hz] at ZC
        have Z' := Lib.hid ZC
        have DV := rdivide_any _ _ xs2 ys2 _ hx hy HXD.out hyd (by omega) (by omega) (by rw [hyv]; exact hk)
        rw [hyv] at DV
        have D' := Lib.hid DV
        clear ZC hz DV hyv hyd
        go_wp2_with fail
        refine Z'.out.mono ?_
        rintro e w' ⟨rfl, rfl⟩
        go_wp2_with fail
        refine D'.out.mono ?_
        rintro e w4 ⟨v4, u4, qs, rs, rfl, hq4, hr4, hqd, hrd, hqv, hrv, hql, hrl, hb4⟩
        have HRD := Lib.hid hrd
        have HRV := Lib.hid hrv
        clear hqd hrd hqv hrv hq4
        go_wp2_with fail
        go_roundg (Z.ofDg 10 xs2 % gk)
        case measure => exact Nat.mod_lt _ hk
        case rel =>
          refine ⟨ys2, rs, hy.below hb4, hr4.sn, HYD.out, HRD.out, by omega, by omega, Nat.le_trans (Z.dg_len_le 10 (by omega) (Nat.le_of_lt (Nat.mod_lt _ hk))) hyn, HRV.out, ?_, hbw.trans (hb4.mono hbw.size)⟩
          rw [HYV.out, ← HGC.out, Nat.gcd_comm gk, ← Nat.gcd_rec, Nat.gcd_comm]
      · obtain rfl : gk = 0 := by omega
        have hz : decide (Z.ofDg 10 ys2 = 0) = true := by rw [hyv]; rfl
        rw [hz] at ZC
        have Z' := Lib.hid ZC
        have hG : Z.ofDg 10 xs2 = G := by rw [← HGC.out, Nat.gcd_zero_right]
        have HT := Lib.hid (fun (W : World) hS => text_ok u7 xs2 false (G : Int) W hS HXD.out (by omega) (by rw [hG]; rfl))
        clear ZC hz hyv hyd hG
        go_wp2_with fail
        refine Z'.out.mono ?_
        rintro e w' ⟨rfl, rfl⟩
        go_wp2_with fail
        refine (HT.out _ hx).mono ?_
        rintro e w3 ⟨rfl, hb3⟩
        go_wp2_with fail
        go_ret2
        exact HG.out _ (hbw.trans (hb3.mono hbw.size))
  · have hne : (Z.bothE a b != 0) = true := by simpa using h
    have B0 := Lib.hid (fun W : World => both_any a b W ha hb)
    unfold BothRet at B0
    have HF := Lib.hid (fun (w' : World) (hw : Below w.heap.size w w') => gcd_bad h hw)
    clear h
    generalize Z.bothE a b = k at *
    go_enter Try.func64, Try.ntmps64
    go_wp2_with fail
    refine (B0.out _).mono ?_
    rintro e w1 ⟨rfl, hb1⟩
    go_wp2_with fail
    go_ret2
    exact HF.out _ hb1
end Go.Proofs.Ytdjghmpaopfboaa
