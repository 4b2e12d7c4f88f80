/- Walks: integer.To. -/
import Derived.Test.YtajmdlelpkgppaaRsm
namespace Go.Proofs.Ytajmdlelpkgppaa
open Go.RowKit

namespace Z
def fits64 (z : Int) : Bool := decide (-9223372036854775808 ≤ z) && decide (z ≤ 9223372036854775807)
def toV (l : List UInt8) : Int := if chk l = 0 ∧ fits64 (ival l) = true then ival l else 0
def toE (l : List UInt8) : Int := if chk l = 0 then if fits64 (ival l) = true then 0 else 14 else chk l
theorem natOf_take (l : List UInt8) (k : Nat) (c : UInt8) (h : l[k]? = some c) : natOf (l.take (k + 1)) = 10 * natOf (l.take k) + dval c := by
  obtain ⟨hlt, hc⟩ := List.getElem?_eq_some_iff.1 h
  rw [List.take_succ_eq_append_getElem hlt, natOf_snoc, hc]
theorem natOf_ltA (l : List UInt8) (h : l.all isDig = true) : natOf l < 10 ^ l.length := by
  rw [natOf_rdg]
  have := ofDg_lt 10 (by omega) (rdg l) (rdg_lt h)
  rwa [rdg_length] at this
theorem natOf_ge (l : List UInt8) (h : l.all isDig = true) (h0 : l.head? ≠ some 48) (h1 : 0 < l.length) : 10 ^ (l.length - 1) ≤ natOf l := by
  rw [natOf_rdg]
  have := can_ge 10 (by omega) (rdg l) (can_rdg h h0) (by rw [rdg_length]; exact h1)
  rwa [rdg_length] at this
theorem ival_cases (l : List UInt8) : ival l = if isNeg l then -(natOf (mags l) : Int) else (natOf (mags l) : Int) := rfl
theorem fits_false {l : List UInt8} (h : 9223372036854775808 < (natOf (mags l) : Int)) : fits64 (ival l) = false := by
  unfold fits64
  rw [ival_cases]
  cases isNeg l <;> simp <;> omega
end Z
theorem wrap_neg (u : Int) (h0 : 0 ≤ u) (h1 : u ≤ 9223372036854775808) : wrap64 (IntKind.u64.wrap (-u)) = -u := by
  unfold wrap64
  rw [IntKind.wrap_u64]
  omega

def ToRet (w : World) (l : List UInt8) (e : Ending) (w' : World) : Prop := e = .returned (.tuple #[.int .i64 (Z.toV l), .int .i64 (Z.toE l)]) ∧ Below w.heap.size w w'
theorem to_bad {w w' : World} {l : List UInt8} (h : Z.chk l ≠ 0) (hb : Below w.heap.size w w') : ToRet w l (.returned (.tuple #[.int .i64 0, .int .i64 (Z.chk l)])) w' :=
  ⟨by simp [Z.toV, Z.toE, h], hb⟩
theorem to_big {w w' : World} {l : List UInt8} (h : Z.chk l = 0) (hf : Z.fits64 (Z.ival l) = false) (hb : Below w.heap.size w w') : ToRet w l (.returned (.tuple #[.int .i64 0, .int .i64 14])) w' :=
  ⟨by simp [Z.toV, Z.toE, h, hf], hb⟩
theorem to_ok {w w' : World} {l : List UInt8} {z : Int} (h : Z.chk l = 0) (hf : Z.fits64 (Z.ival l) = true) (hz : z = Z.ival l) (hb : Below w.heap.size w w') : ToRet w l (.returned (.tuple #[.int .i64 z, .int .i64 0])) w' :=
  ⟨by simp [Z.toV, Z.toE, h, hf, hz], hb⟩

theorem all_take {l : List UInt8} (h : l.all Z.isDig = true) (k : Nat) : (l.take k).all Z.isDig = true := by
  rw [List.all_eq_true] at *
  intro x hx
  exact h x (List.mem_of_mem_take hx)

set_option maxHeartbeats 800000 in
theorem to_any (s : ByteArray) (w : World) (hs : s.size ≤ 1000000) :
    Calls Try.prog 12 #[.string s] w (ToRet w s.data.toList) := by
  have C := check_any s w (by unfold maxLen; omega)
  by_cases hc : Z.chk s.data.toList = 0
  · rw [hc] at C
    have hcan := (Z.chk_zero_iff.1 hc).1
    obtain ⟨p1, p2, p3⟩ := Z.canon_parts hcan
    have h0 : 0 < s.size := by
      rcases Nat.eq_zero_or_pos s.size with h | h
      · exfalso
        rw [Z.empty_of (by omega)] at hcan
        cases hcan
      · exact h
    have HC := Lib.hid hc
    have P1 := Lib.hid p1
    have P2 := Lib.hid p2
    have P3 := Lib.hid p3
    clear hc p1 p2 p3 hcan
    go_enter Try.func12, Try.ntmps12
    go_wp2_with fail
    refine C.mono ?_
    rintro e w1 ⟨rfl, rfl⟩
    clear C
    go_wp2_with fail
    go_quiet (fail)
    have hng := Z.neg_of s h0
    generalize hn : Z.isNeg s.data.toList = ng at *
    have HN := Lib.hid hn
    rw [← hng]
    have HNG := Lib.hid hng
    clear hng hn
    go_upto_if 18 with fail
    go_cut [5, 6] (fun v nv wx => nv = .bool ng ∧ ∃ t : ByteArray, v = .string t ∧ t.size ≤ s.size ∧ Hid (Z.mags s.data.toList = t.data.toList) ∧ wx = w.drewN nq)
    case first =>
      cases ng
      · go_wp2_with fail
        go_meet
        exact ⟨rfl, s, rfl, by omega, Z.mags_pos HN.out, rfl⟩
      · go_wp2_with fail
        go_meet
        exact ⟨rfl, s.extract 1 s.size, rfl, by simp, Z.mags_neg HN.out, rfl⟩
    case rest =>
    obtain ⟨rfl, t, rfl, htl, HT, rfl⟩ := hcut
    by_cases hbig : 19 < t.size
    · go_wp2_with fail
      go_ret2
      refine to_big HC.out (Z.fits_false ?_) (below_of_drewN _ _ _)
      have hl : (Z.mags s.data.toList).length = t.size := by rw [HT.out, ← Lib.size_eq]
      have h1 := Z.natOf_ge _ P2.out (fun e => by have := (P3.out e).1; omega) (by omega)
      have h2 : 10 ^ 19 ≤ 10 ^ ((Z.mags s.data.toList).length - 1) := Nat.pow_le_pow_right (by omega) (by omega)
      omega
    · go_wp2_with fail
      go_loopw [7, 26] (fun uv iv wr => ∃ (k : Nat) (u : Int), k ≤ t.size ∧ iv = .int .i64 k ∧ uv = .int .u64 u ∧ 0 ≤ u ∧ wr = w.drewN nq ∧ Hid (u = Z.natOf (t.data.toList.take k))) (fun _ iv _ => t.size - (intOf iv).toNat)
      case atStart => exact ⟨0, 0, by omega, rfl, rfl, by omega, rfl, by simp [Hid, Z.natOf]⟩
      case round =>
        obtain ⟨k, u, hk, rfl, rfl, hu0, rfl, HU⟩ := hrel
        by_cases hlt : k < t.size
        · have hu1 : u ≤ 999999999999999999 := by
            have h1 := Z.natOf_ltA (t.data.toList.take k) (by rw [← HT.out]; exact all_take P2.out k)
            have h2 : (t.data.toList.take k).length ≤ 18 := by rw [List.length_take]; omega
            have h3 : 10 ^ (t.data.toList.take k).length ≤ 10 ^ 18 := Nat.pow_le_pow_right (by omega) h2
            rw [HU.out]
            omega
          have hdg : (48 : Int) ≤ t[k].toNat ∧ (t[k].toNat : Int) ≤ 57 := by
            have h1 := List.all_eq_true.1 P2.out t[k] (by rw [HT.out]; exact List.mem_of_getElem? (Z.at_of t k hlt))
            rw [Z.dig_of] at h1
            simp at h1
            omega
          have hst := Z.natOf_take _ k _ (Z.at_of t k hlt)
          have HST := Lib.hid hst
          clear hst
          obtain ⟨hd1, hd2⟩ := hdg
          go_wp2_with fail
          go_roundw
          case rel =>
            refine ⟨k + 1, u * 10 + ((t[k].toNat : Int) - 48), by omega, by go_num, rfl, by omega, trivial, ?_⟩
            unfold Hid
            rw [HST.out, HU.out, dval_int _ hd1]
            omega
          case measure => simp [intOf]; omega
        · obtain rfl : k = t.size := by omega
          have hU : u = (Z.natOf (Z.mags s.data.toList) : Int) := by
            rw [HU.out, List.take_of_length_le (by rw [← Lib.size_eq]; omega), HT.out]
          have HUU := Lib.hid hU
          clear hU
          cases ng
          · by_cases hv : (9223372036854775807 : Int) < u
            · go_wp2_with fail
              go_ret2
              refine to_big HC.out ?_ (below_of_drewN _ _ _)
              have h1 := HUU.out
              unfold Z.fits64
              rw [Z.ival_cases, HN.out]
              simp; omega
            · go_wp2_with fail
              go_ret2
              have h1 := HUU.out
              refine to_ok HC.out ?_ ?_ (below_of_drewN _ _ _)
              · unfold Z.fits64
                rw [Z.ival_cases, HN.out]
                simp; omega
              · rw [Z.ival_cases, HN.out]
                simp; omega
          · by_cases hv : (9223372036854775808 : Int) < u
            · go_wp2_with fail
              go_ret2
              refine to_big HC.out ?_ (below_of_drewN _ _ _)
              have h1 := HUU.out
              exact Z.fits_false (by omega)
            · go_wp2_with fail
              go_ret2
              have h1 := HUU.out
              refine to_ok HC.out ?_ ?_ (below_of_drewN _ _ _)
              · unfold Z.fits64
                rw [Z.ival_cases, HN.out]
                simp; omega
              · rw [wrap_neg u hu0 (by omega), Z.ival_cases, HN.out]
                simp; omega
  · have hb : (Z.chk s.data.toList != 0) = true := by simp [hc]
    have HC := Lib.hid hc
    clear hc
    go_enter Try.func12, Try.ntmps12
    go_wp2_with fail
    refine C.mono ?_
    rintro e w1 ⟨rfl, rfl⟩
    clear C
    go_wp2_with fail
    go_ret2
    exact to_bad HC.out (Below.refl _ _)
end Go.Proofs.Ytajmdlelpkgppaa
