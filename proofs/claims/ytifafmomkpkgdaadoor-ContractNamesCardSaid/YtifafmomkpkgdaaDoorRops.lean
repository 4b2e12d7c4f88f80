/- Walks: the reference: Add, Sub, Mul, DivMod, Gcd, Compare. -/
import Derived.Test.YtifafmomkpkgdaaDoorR3
import Derived.Test.YtifafmomkpkgdaaDoorI5
namespace Go.Proofs.YtifafmomkpkgdaaDoor
open Go.RowKit

/-- What Digits answers for an integer without error. -/
def DgOk (w : World) (z : Int) (e : Ending) (w' : World) : Prop := ∃ A c ds, e = .returned (.tuple #[.slice A (List.length ds) c, .bool (decide (z < 0)), .bool true]) ∧ Ow .i64 3 w' w.heap.size (.slice A ds.length c) ds ∧
  (∀ d ∈ ds, d < 10) ∧ ds.length ≤ 1000 ∧ Z.ofDg 10 ds = z.natAbs ∧ Below w.heap.size w w'
theorem digits_ok (s : ByteArray) (w : World) (h : Z.chk s.data.toList = 0) : Calls Tryd.prog 113 #[.string s] w (DgOk w (Z.ival s.data.toList)) := by
  obtain ⟨hc, hl⟩ := Z.chk_zero_iff.1 h
  have hs : s.size ≤ 1001 := by rw [Lib.size_eq]; exact Z.chk_size h
  refine (digits_any s w (by omega)).mono ?_
  rintro e w1 ⟨v1, rfl, ho, hb⟩
  rw [hc] at ho ⊢
  simp only [↓reduceIte, Bool.true_and] at ho ⊢
  obtain ⟨A, c, rfl⟩ := ho.shape
  refine ⟨A, c, Z.rdg (Z.mags s.data.toList), ?_, ho, Z.rdg_lt (Z.canon_parts hc).all, by rw [Z.rdg_length]; exact hl, ?_, hb⟩
  · rw [Z.isNeg_ival hc]
  · rw [Z.natAbs_ival, Z.natOf_rdg]
theorem text_ok (v : Value) (ds : List Nat) (ng : Bool) (z : Int) (w : World) (hS : SN .i64 w v ds) (hd : ∀ d ∈ ds, d < 10) (hl : ds.length ≤ 1000000) (hz : sgn ng (Z.ofDg 10 ds) = z) :
    Calls Tryd.prog 129 #[v, .bool ng] w (StrRet w (Z.txt z)) := by
  have T := text_any v ds ng w hS hd hl
  rwa [Z.txtD_txt, Z.sgn_if, hz] at T
theorem sum_sgn {x y : Int} : (decide (x < 0) = decide (y < 0) → sgn (decide (x < 0)) (x.natAbs + y.natAbs) = x + y) ∧
    (decide (x < 0) ≠ decide (y < 0) → y.natAbs ≤ x.natAbs → sgn (decide (x < 0)) (x.natAbs - y.natAbs) = x + y) ∧
    (decide (x < 0) ≠ decide (y < 0) → x.natAbs < y.natAbs → sgn (decide (y < 0)) (y.natAbs - x.natAbs) = x + y) := by
  unfold sgn
  by_cases hx : x < 0 <;> by_cases hy : y < 0 <;> simp [hx, hy] <;> omega

theorem neg_parts {b : ByteArray} (h : Z.chk b.data.toList = 0) : Z.chk (Z.txt (-Z.ival b.data.toList)) = 0 ∧ (Z.txt (-Z.ival b.data.toList)).length ≤ 1001 := by
  obtain ⟨hc, hl⟩ := Z.chk_zero_iff.1 h
  have h1 : Z.chk (Z.txt (-Z.ival b.data.toList)) = 0 := Z.chk_txt (by rw [Int.natAbs_neg, Z.decB_ival hc]; exact hl)
  exact ⟨h1, Z.chk_size h1⟩
/-- The loop's state: the digits of two numbers with the greatest common divisor G. -/
def RGSt (w : World) (G k : Nat) (xv yv : Value) (wr : World) : Prop := ∃ xs ys : List Nat, SN .i64 wr xv xs ∧ SN .i64 wr yv ys ∧ (∀ d ∈ xs, d < 10) ∧ (∀ d ∈ ys, d < 10) ∧ xs.length ≤ 1001 ∧ ys.length ≤ 1001 ∧
  (Z.dg 10 k).length ≤ 1000 ∧ Z.ofDg 10 ys = k ∧ Nat.gcd (Z.ofDg 10 xs) k = G ∧ Below w.heap.size w wr
set_option maxHeartbeats 4000000 in
theorem rgcd_any (a b : ByteArray) (w : World) (ha : a.size ≤ 1000000) (hb : b.size ≤ 1000000) :
    Calls Tryd.prog 115 #[.string a, .string b] w (GcdRet a b w) := by
  by_cases h : Z.bothE a b = 0
  · skip
    obtain ⟨ca, cb⟩ := Z.bothE_zero h
    have B0 := Lib.hid (fun W : World => both_any a b W ha hb)
    unfold BothRet at B0
    rw [h] at B0
    have D1 := Lib.hid (fun W : World => digits_ok a W ca)
    have D2 := Lib.hid (fun W : World => digits_ok b W cb)
    have HF := Lib.hid (fun (c : Int) (hc : _ = c) (w' : World) (hw : Below w.heap.size w w') => gcd_ok h hc hw)
    clear h ca cb
    generalize Z.ival a.data.toList = x at *
    generalize Z.ival b.data.toList = y at *
    unfold Z.gcdI at HF
    have HG := Lib.hid (HF.out _ rfl)
    clear HF
    go_enter Tryd.func115, Tryd.ntmps115
    go_wp2_with fail
    refine (B0.out _).mono ?_
    rintro e w1 ⟨rfl, hb1⟩
    go_wp2_with fail
    refine (D1.out _).mono ?_
    rintro e w2 ⟨A, c, xs, rfl, hx, hxd, hxl, hxv, hb2⟩
    have c2 := hb1.trans (hb2.mono hb1.size)
    have HXV := Lib.hid hxv
    have HXD := Lib.hid hxd
    clear hxv hxd hb1 hb2
    go_wp2_with fail
    refine (D2.out _).mono ?_
    rintro e w3 ⟨A', c', ys, rfl, hy, hyd, hyl, hyv, hb3⟩
    have c3 := c2.trans (hb3.mono c2.size)
    have hx3 := hx.sn.below hb3
    have hy3 := hy.sn
    have HYV := Lib.hid hyv
    have HYD := Lib.hid hyd
    have mx := hx3.bound
    have my := hy3.bound
    clear hyv hyd hb3 hx hy c2
    have hyy : (Z.dg 10 y.natAbs).length ≤ 1000 := by
      rw [← HYV.out]
      exact Nat.le_trans (Z.dg_len_of_lt 10 (by omega) _ _ (Z.ofDg_lt 10 (by omega) ys HYD.out)) hyl
    have hst : RGSt w (Nat.gcd x.natAbs y.natAbs) y.natAbs (.slice A xs.length c) (.slice A' ys.length c') w3 :=
      ⟨xs, ys, hx3, hy3, HXD.out, HYD.out, by omega, by omega, hyy, HYV.out, by rw [HXV.out], c3⟩
    have HST := Lib.hid hst
    have hwn := c3.size
    clear hst hx3 hy3 HXD HYD HXV HYV c3 hyy hxl hyl mx my
    generalize Nat.gcd x.natAbs y.natAbs = G at *
    go_wp2_with fail
    go_loopg [7, 10] y.natAbs (fun k xv yv wr => RGSt w G k xv yv wr)
    case atStart => exact HST.out
    case round =>
      clear HST
      obtain ⟨xs2, ys2, hx, hy, hxd, hyd, hxl, hyl, hyn, hyv, hg, hbw⟩ := hrel
      have HXD := Lib.hid hxd
      have HYD := Lib.hid hyd
      have HYV := Lib.hid hyv
      have HGC := Lib.hid hg
      have ZC := zero_any _ ys2 _ hy hyd (by omega)
      clear hxd hg
      by_cases hk : 0 < gk
      · have hz : decide (Z.ofDg 10 ys2 = 0) = false := by rw [hyv]; simp; omega
        rw [hz] at ZC
        have Z' := Lib.hid ZC
        have DV := rdivide_any _ _ xs2 ys2 _ hx hy HXD.out hyd (by omega) (by omega) (by rw [hyv]; exact hk)
        rw [hyv] at DV
        have D' := Lib.hid DV
        clear ZC hz DV hyv hyd
        go_wp2_with fail
        refine Z'.out.mono ?_
        rintro e w' ⟨rfl, rfl⟩
        go_wp2_with fail
        refine D'.out.mono ?_
        rintro e w4 ⟨v4, u4, qs, rs, rfl, hq4, hr4, hqd, hrd, hqv, hrv, hql, hrl, hb4⟩
        have HRD := Lib.hid hrd
        have HRV := Lib.hid hrv
        clear hqd hrd hqv hrv hq4
        go_wp2_with fail
        go_roundg (Z.ofDg 10 xs2 % gk)
        case measure => exact Nat.mod_lt _ hk
        case rel =>
          refine ⟨ys2, rs, hy.below hb4, hr4.sn, HYD.out, HRD.out, by omega, by omega, Nat.le_trans (Z.dg_len_le 10 (by omega) (Nat.le_of_lt (Nat.mod_lt _ hk))) hyn, HRV.out, ?_, hbw.trans (hb4.mono hbw.size)⟩
          rw [HYV.out, ← HGC.out, Nat.gcd_comm gk, ← Nat.gcd_rec, Nat.gcd_comm]
      · obtain rfl : gk = 0 := by omega
        have hz : decide (Z.ofDg 10 ys2 = 0) = true := by rw [hyv]; rfl
        rw [hz] at ZC
        have Z' := Lib.hid ZC
        have hG : Z.ofDg 10 xs2 = G := by rw [← HGC.out, Nat.gcd_zero_right]
        have HT := Lib.hid (fun (W : World) hS => text_ok u7 xs2 false (G : Int) W hS HXD.out (by omega) (by rw [hG]; rfl))
        clear ZC hz hyv hyd hG
        go_wp2_with fail
        refine Z'.out.mono ?_
        rintro e w' ⟨rfl, rfl⟩
        go_wp2_with fail
        refine (HT.out _ hx).mono ?_
        rintro e w3 ⟨rfl, hb3⟩
        go_wp2_with fail
        go_ret2
        exact HG.out _ (hbw.trans (hb3.mono hbw.size))
  · have hne : (Z.bothE a b != 0) = true := by simpa using h
    have B0 := Lib.hid (fun W : World => both_any a b W ha hb)
    unfold BothRet at B0
    have HF := Lib.hid (fun (w' : World) (hw : Below w.heap.size w w') => gcd_bad h hw)
    clear h
    generalize Z.bothE a b = k at *
    go_enter Tryd.func115, Tryd.ntmps115
    go_wp2_with fail
    refine (B0.out _).mono ?_
    rintro e w1 ⟨rfl, hb1⟩
    go_wp2_with fail
    go_ret2
    exact HF.out _ hb1
end Go.Proofs.YtifafmomkpkgdaaDoor
