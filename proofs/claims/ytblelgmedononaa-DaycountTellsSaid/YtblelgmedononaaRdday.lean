/- Walks: the reference: Thirty, Days. -/
import Derived.Test.YtblelgmedononaaDday
namespace Go.Proofs.Ytblelgmedononaa
open Go.RowKit

def capR (bond : Bool) (d r : Int) : Int := if bond = false ∨ min d 30 = 30 then min r 30 else r
set_option maxHeartbeats 800000 in
theorem rthirty_any (a b : Int) (bond : Bool) (w : World) (ha : Z.inR a = true) (hb : Z.inR b = true) (hab : a ≤ b) :
    Calls Try.prog 25 #[.int .i64 a, .int .i64 b, .bool bond] w fun e w' => e = .returned (.int .i64 (Z.thirty bond a b)) ∧ w = w' := by
  go_enter Try.func25, Try.ntmps25
  go_wp2_with fail
  refine (rparts_any _ _ ha).mono ?_
  rintro e w1 ⟨y, m, d, hA, rfl, rfl⟩
  go_wp2_with fail
  refine (rparts_any _ _ hb).mono ?_
  rintro e w1 ⟨p, q, r, hK, rfl, rfl⟩
  have hA1 := hA.y0; have hA2 := hA.y1; have hA3 := hA.m0; have hA4 := hA.m1; have hA5 := hA.d0; have hA6 := hA.d1
  have hK1 := hK.y0; have hK2 := hK.y1; have hK3 := hK.m0; have hK4 := hK.m1; have hK5 := hK.d0; have hK6 := hK.d1
  have hl1 := (Z.len_ge y m).2; have hl2 := (Z.len_ge p q).2
  have hyp : y ≤ p := by have := hA.lt hK hab; omega
  have ht : Z.thirty bond a b = 360 * (p - y) + 30 * (q - m) + capR bond d r - min d 30 := by unfold Z.thirty; rw [hA.pts, hK.pts]; rfl
  have hd : d ≤ 31 := by omega
  have hr : r ≤ 31 := by omega
  have HT := Lib.hid ht
  clear hA6 hK6 hl1 hl2 hA hK ht ha hb hab
  go_upto_if 31 with fail
  go_cut [9] (fun dv wx => dv = .int .i64 (min d 30) ∧ wx = w)
  case first =>
    by_cases h : d = 31
    · subst h
      go_wp2_with fail
      go_meet
      exact ⟨rfl, rfl⟩
    · have h' : (d == 31) = false := by simp [h]
      go_wp2_with fail
      go_meet
      exact ⟨ret_v (by omega), rfl⟩
  case rest =>
  obtain ⟨rfl, rfl⟩ := hcut
  generalize hdd : min d 30 = dd
  have hd1 : 1 ≤ dd := by omega
  have hd2 : dd ≤ 30 := by omega
  go_upto_region 5 with fail
  go_cut [9, 41] (fun dv c wx => dv = .int .i64 dd ∧ c = .bool (decide (r = 31 ∧ (bond = false ∨ dd = 30))) ∧ wx = wc)
  case first =>
    by_cases h : r = 31
    · subst h
      cases bond
      · go_wp2_with fail
        go_meet
        exact ⟨rfl, by simp, rfl⟩
      · by_cases h2 : dd = 30
        · have h2' : (dd == 30) = true := by simp [h2]
          go_wp2_with fail
          go_meet
          exact ⟨ret_v (by omega), by simp [h2], rfl⟩
        · have h2' : (dd == 30) = false := by simp [h2]
          go_wp2_with fail
          go_meet
          exact ⟨ret_v (by omega), by simp [h2], rfl⟩
    · have h' : (r == 31) = false := by simp [h]
      go_wp2_with fail
      go_meet
      exact ⟨rfl, by simp [h], rfl⟩
  case rest =>
  obtain ⟨rfl, rfl, rfl⟩ := hcut
  go_upto_if 41 with fail
  go_cut [13] (fun rv wx => rv = .int .i64 (capR bond d r) ∧ wx = wc)
  case first =>
    by_cases h : r = 31 ∧ (bond = false ∨ dd = 30)
    · have e : capR bond d r = 30 := by unfold capR; rw [hdd, if_pos h.2]; omega
      rw [decide_eq_true h]
      have HE := Lib.hid e
      clear e h
      go_wp2_with fail
      go_meet
      exact ⟨by rw [HE.out], rfl⟩
    · have e : capR bond d r = r := by
        unfold capR; rw [hdd]; split
        · rename_i h1
          have : r ≠ 31 := fun h2 => h ⟨h2, h1⟩
          omega
        · rfl
      rw [decide_eq_false h]
      have HE := Lib.hid e
      clear e h
      go_wp2_with fail
      go_meet
      exact ⟨by rw [HE.out], rfl⟩
  case rest =>
  obtain ⟨rfl, rfl⟩ := hcut
  have hrr : 1 ≤ capR bond d r ∧ capR bond d r ≤ 31 := by unfold capR; split <;> omega
  generalize capR bond d r = rr at HT hrr ⊢
  rw [hdd] at HT
  clear hdd hd hr hA5 hK5
  go_wp2_with fail
  go_loop [7, 15] (fun yv nv => ∃ z n : Int, yv = .int .i64 z ∧ nv = .int .i64 n ∧ y ≤ z ∧ z ≤ p ∧ n = rr - dd + 360 * (z - y)) (fun yv _ => (2174 - intOf yv).toNat)
  case atStart => exact ⟨y, rr - dd, rfl, rfl, by omega, by omega, by omega⟩
  case round =>
    obtain ⟨z, n, rfl, rfl, hz0, hz1, hn⟩ := hrel
    by_cases hzp : z < p
    · go_wp2_with fail
      go_round
      case rel => exact ⟨z + 1, n + 360, rfl, ret_v (by omega), by omega, by omega, by omega⟩
      case measure => simp [intOf]; omega
    · obtain rfl : z = p := by omega
      clear hzp hz1
      go_wp2_with fail
      go_loop [8, 15] (fun mv kv => ∃ x k : Int, mv = .int .i64 x ∧ kv = .int .i64 k ∧ m ≤ x ∧ (x ≤ q ∨ x = m) ∧ k = n + 30 * (x - m)) (fun mv _ => (13 - intOf mv).toNat)
      case atStart => exact ⟨m, n, rfl, ret_v (by omega), by omega, by omega, by omega⟩
      case round =>
        obtain ⟨x, k, rfl, rfl, hx0, hx1, hk⟩ := hrel
        by_cases hxq : x < q
        · go_wp2_with fail
          go_round
          case rel => exact ⟨x + 1, k + 30, rfl, ret_v (by omega), by omega, by omega, by omega⟩
          case measure => simp [intOf]; omega
        · go_wp2_with fail
          go_loop [8, 15] (fun mv kv => ∃ x' k' : Int, mv = .int .i64 x' ∧ kv = .int .i64 k' ∧ x' ≤ x ∧ q ≤ x' ∧ k' = k - 30 * (x - x')) (fun mv _ => (intOf mv).toNat)
          case atStart => exact ⟨x, k, rfl, ret_v (by omega), by omega, by omega, by omega⟩
          case round =>
            obtain ⟨x', k', rfl, rfl, hx0', hx1', hk'⟩ := hrel
            by_cases hxq' : q < x'
            · go_wp2_with fail
              go_round
              case rel => exact ⟨x' - 1, k' - 30, rfl, ret_v (by omega), by omega, by omega, by omega⟩
              case measure => simp [intOf]; omega
            · go_wp2_with fail
              go_ret
              exact ⟨ret_int (by rw [HT.out]; omega), rfl⟩
set_option maxHeartbeats 800000 in
theorem rdays_any (rule a b : Int) (w : World) (hr0 : 0 ≤ rule) (hr1 : rule ≤ 255) :
    Calls Try.prog 11 #[.int .u8 rule, .int .i64 a, .int .i64 b] w (DaysRet rule a b w) := by
  have hbA := Below.refl w.heap.size w
  go_enter Try.func11, Try.ntmps11
  by_cases h5 : 4 < rule
  · go_wp2_with fail
    go_ret2
    exact days_no (by omega) hbA
  · cases ha : Z.inR a
    · go_wp2_with fail
      refine (rday_any _ _).mono ?_
      rintro e w2 ⟨rfl, rfl⟩
      rw [ha]
      go_wp2_with fail
      go_ret2
      exact days_no (by simp [ha]) hbA
    · go_wp2_with fail
      refine (rday_any _ _).mono ?_
      rintro e w2 ⟨rfl, rfl⟩
      rw [ha]
      cases hb : Z.inR b
      · go_wp2_with fail
        refine (rday_any _ _).mono ?_
        rintro e w2 ⟨rfl, rfl⟩
        rw [hb]
        go_wp2_with fail
        go_ret2
        exact days_no (by simp [hb]) hbA
      · go_wp2_with fail
        refine (rday_any _ _).mono ?_
        rintro e w2 ⟨rfl, rfl⟩
        rw [hb]
        have ha1 := (inR_iff a).1 ha
        have hb1 := (inR_iff b).1 hb
        have hk : rule = 2 ∨ rule = 4 ∨ (rule ≠ 2 ∧ rule ≠ 4) := by omega
        by_cases hlt : b < a
        · rcases hk with rfl | rfl | ⟨k1, k2⟩
          · have htb := thirty_bounds false b a hb ha
            go_wp2_with fail
            refine (rthirty_any b a false _ hb ha (by omega)).mono ?_
            rintro e w2 ⟨rfl, rfl⟩
            go_wp2_with fail
            go_ret2
            exact days_yes (by omega) ha hb (by rw [if_pos (by omega)]; simp [Z.ruled]) hbA
          · have htb := thirty_bounds true b a hb ha
            go_wp2_with fail
            refine (rthirty_any b a true _ hb ha (by omega)).mono ?_
            rintro e w2 ⟨rfl, rfl⟩
            go_wp2_with fail
            go_ret2
            exact days_yes (by omega) ha hb (by rw [if_pos (by omega)]; simp [Z.ruled]) hbA
          · have k1' : (rule == 2) = false := by simp [k1]
            have k2' : (rule == 4) = false := by simp [k2]
            go_wp2_with fail
            go_ret2
            exact days_yes (by omega) ha hb (by rw [if_pos (by omega)]; unfold Z.ruled; rw [if_neg k1, if_neg k2]) hbA
        · rcases hk with rfl | rfl | ⟨k1, k2⟩
          · have htb := thirty_bounds false a b ha hb
            go_wp2_with fail
            refine (rthirty_any a b false _ ha hb (by omega)).mono ?_
            rintro e w2 ⟨rfl, rfl⟩
            go_wp2_with fail
            go_ret2
            exact days_yes (by omega) ha hb (by rw [if_neg (by omega)]; simp [Z.ruled]) hbA
          · have htb := thirty_bounds true a b ha hb
            go_wp2_with fail
            refine (rthirty_any a b true _ ha hb (by omega)).mono ?_
            rintro e w2 ⟨rfl, rfl⟩
            go_wp2_with fail
            go_ret2
            exact days_yes (by omega) ha hb (by rw [if_neg (by omega)]; simp [Z.ruled]) hbA
          · have k1' : (rule == 2) = false := by simp [k1]
            have k2' : (rule == 4) = false := by simp [k2]
            go_wp2_with fail
            go_ret2
            exact days_yes (by omega) ha hb (by rw [if_neg (by omega)]; unfold Z.ruled; rw [if_neg k1, if_neg k2]) hbA
end Go.Proofs.Ytblelgmedononaa
