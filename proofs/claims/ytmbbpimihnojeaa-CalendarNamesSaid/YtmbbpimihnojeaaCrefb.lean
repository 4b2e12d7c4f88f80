/- Walks: the reference for calendars: Walk, month, Roll, Add, Count, Business, Great. -/
import Derived.Test.YtmbbpimihnojeaaCref
namespace Go.Proofs.Ytmbbpimihnojeaa
open Go.RowKit

theorem tup_eq {x : Int × Int} {a b : Int} (h : x = (a, b)) : Ending.returned (.tuple #[.int .i64 a, .int .i64 b]) = .returned (.tuple #[.int .i64 x.1, .int .i64 x.2]) := by rw [h]
set_option maxHeartbeats 1000000 in
theorem rwalk_any (wk : Int) (v : Value) (hs : List Int) (a s n : Int) (w : World) (hSI : SI w v hs) (hk : Z.calB wk hs = true) (hk0 : 0 ≤ wk)
    (hss : s = 1 ∨ s = -1) (h1 : s = 1 → 0 ≤ a ∧ a ≤ 100000) (h2 : s = -1 → -1 ≤ a ∧ a ≤ 99999) (hm : 1 ≤ n) (hm2 : n ≤ 100000) :
    Calls Try.prog 32 #[.agg #[.int .u8 wk, v], .int .i64 a, .int .i64 s, .int .i64 n] w fun e w' => e = .returned (.tuple #[.int .i64 (Z.nth (Z.opn wk hs) a s n).1, .int .i64 (Z.nth (Z.opn wk hs) a s n).2]) ∧ Below w.heap.size w w' := by
  have hsb : -1 ≤ s ∧ s ≤ 1 := by omega
  go_enter Try.func32, Try.ntmps32
  go_wp2_with fail
  have bC := Blk.new w 24 #[.int .u8 wk, v]
  have hbW : Below w.heap.size w (w.alloc (.cells #[.int .u8 wk, v] 24)) := (Below.refl _ w).alloc (Nat.le_refl _) _
  have hBlt : w.heap.size < (w.alloc (.cells #[.int .u8 wk, v] 24)).heap.size := by simp
  generalize (w.alloc (.cells #[.int .u8 wk, v] 24)) = W at *
  go_loopw [1, 3] (fun dv nv wr => ∃ (k : Nat) (d m : Int), dv = .int .i64 d ∧ nv = .int .i64 m ∧ Hid (d = Z.dk a s k) ∧ k ≤ Z.room a s ∧ Hid (m = n - ((Z.pre (Z.opn wk hs) a s k).length : Int)) ∧ 1 ≤ m ∧ m ≤ 100000 ∧ Below w.heap.size w wr ∧ Blk wr w.heap.size 24 #[.int .u8 wk, v]) (fun dv _ _ => if s = 1 then (100000 - intOf dv).toNat else (intOf dv + 1).toNat)
  case atStart => exact ⟨0, a, n, rfl, rfl, Lib.hid (by simp [Z.dk]), Nat.zero_le _, Lib.hid (by simp [Z.pre]), hm, hm2, hbW, bC⟩
  case round =>
    obtain ⟨k, d, m, rfl, rfl, HD, hkr, HM, hm0, hm1, hbw, bc⟩ := hrel
    have hF := dk_facts (k := k) hss h1 h2 hkr
    rw [← HD.out] at hF
    obtain ⟨⟨hd0, hd1⟩, hin, hnx⟩ := hF
    have HN := Lib.hid hnx.symm
    clear hnx
    have c0 := bc.cell 0
    have c1 := bc.cell 1
    by_cases hlt : k < Z.room a s
    · rw [decide_eq_true hlt] at hin
      have hdr : 0 ≤ d ∧ d ≤ 99999 := by unfold Z.inR at hin; simpa using hin
      have HI := Lib.hid hin
      have hmz : ∀ x : Int, x = d + s → (if s = 1 then (100000 - x).toNat else (x + 1).toNat) < (if s = 1 then (100000 - d).toNat else (d + 1).toNat) := by
        rintro x rfl
        rcases hss with rfl | rfl
        · simp; omega
        · simp; omega
      have HZ := Lib.hid hmz
      clear hin hmz
      go_wp2_with fail
      refine (rday_any _ _).mono ?_
      rintro e w2 ⟨rfl, rfl⟩
      rw [HI.out]
      go_wp2_with fail
      refine (ropen_any wk v hs d _ (hSI.below hbw) hk hk0 hdr.1 hdr.2).mono ?_
      rintro e w3 ⟨rfl, hb3⟩
      have bc3 := bc.below hb3
      have hb3' := hbw.trans (hb3.mono hbw.size)
      clear hb3
      cases hP : Z.opn wk hs d
      · have HP := Lib.hid hP
        clear hP
        go_wp2_with fail
        go_roundw
        case rel => exact ⟨k + 1, d + s, m, rfl, rfl, HN, by omega, Lib.hid (by rw [Z.pre_no (by rw [← HD.out]; exact HP.out)]; exact HM.out), hm0, hm1, hb3', bc3⟩
        case measure => simp only [intOf]; exact HZ.out _ rfl
      · have HP := Lib.hid hP
        clear hP
        by_cases hm3 : m = 1
        · have hz : ((m - 1 : Int) == 0) = true := by simp [hm3]
          have H3 := Lib.hid hm3
          clear hm3
          go_wp2_with fail
          go_ret2
          refine ⟨tup_eq ?_, hb3'⟩
          have hPd : Z.opn wk hs (Z.dk a s k) = true := by rw [← HD.out]; exact HP.out
          rw [Z.nth_at hlt hPd hm (by have := HM.out; have := H3.out; omega), ← HD.out]
        · have hz : ((m - 1 : Int) == 0) = false := by rw [beq_eq_false_iff_ne]; omega
          go_wp2_with fail
          go_roundw
          case rel => exact ⟨k + 1, d + s, m - 1, rfl, rfl, HN, by omega, Lib.hid (by rw [Z.pre_yes (by rw [← HD.out]; exact HP.out), List.length_append, HM.out]; simp; omega), by omega, by omega, hb3', bc3⟩
          case measure => simp only [intOf]; exact HZ.out _ rfl
    · rw [decide_eq_false hlt] at hin
      have HI := Lib.hid hin
      clear hin
      obtain rfl : k = Z.room a s := by omega
      go_wp2_with fail
      refine (rday_any _ _).mono ?_
      rintro e w2 ⟨rfl, rfl⟩
      rw [HI.out]
      go_wp2_with fail
      go_ret2
      refine ⟨tup_eq ?_, hbw⟩
      rw [Z.nth_out hm (by have := HM.out; unfold Z.bday; omega)]

theorem rmonth_any (a b : Int) (w : World) (ha : 0 ≤ a) (ha1 : a ≤ 99999) (hb : 0 ≤ b) (hb1 : b ≤ 99999) :
    Calls Try.prog 36 #[.int .i64 a, .int .i64 b] w fun e w' => e = .returned (.bool (Z.sameM a b)) ∧ w = w' := by
  go_enter Try.func36, Try.ntmps36
  go_wp2_with fail
  refine (rparts_any _ _ (by unfold Z.inR; simp; omega)).mono ?_
  rintro e w1 ⟨y, m, d, hA, rfl, rfl⟩
  go_wp2_with fail
  refine (rparts_any _ _ (by unfold Z.inR; simp; omega)).mono ?_
  rintro e w2 ⟨p, q, r, hK, rfl, rfl⟩
  have HS := Lib.hid (sameM_mk hA hK)
  clear hA hK
  go_wp2_with fail
  all_goals (go_ret; refine ⟨ret_bool ?_, rfl⟩; rw [HS.out]; simp [*])

set_option maxHeartbeats 800000 in
theorem radd_any (wk : Int) (v : Value) (hs : List Int) (day n : Int) (w : World) (hSI : SI w v hs) (hk0 : 0 ≤ wk) :
    Calls Try.prog 13 #[.agg #[.int .u8 wk, v], .int .i64 day, .int .i64 n] w (Ret2 (Z.add wk hs day n) w) := by
  go_enter Try.func13, Try.ntmps13
  go_wp2_with fail
  have hbA : Below w.heap.size w (w.alloc (.cells #[.int .u8 wk, v] 24)) := (Below.refl _ w).alloc (Nat.le_refl _) _
  refine (rvalid_any wk v hs _ (hSI.below hbA)).mono ?_
  rintro e W1 ⟨rfl, hb1⟩
  have hb1' := hbA.trans (hb1.mono (by simp))
  have bc := (Blk.new w 24 #[.int .u8 wk, v]).below hb1
  have hSI1 := hSI.below hb1'
  clear hb1 hbA
  cases hk : Z.calB wk hs
  · go_wp2_with fail
    go_ret2
    exact .mk (add_bad hk) hb1'
  · have HK := Lib.hid hk
    clear hk
    have c0 := bc.cell 0
    have c1 := bc.cell 1
    go_wp2_with fail
    refine (rday_any _ _).mono ?_
    rintro e w2 ⟨rfl, rfl⟩
    cases hd : Z.inR day
    · go_wp2_with fail
      go_ret2
      exact .mk (add_arg HK.out (.inl hd)) hb1'
    · have hdr := (inR_iff day).1 hd
      have HD := Lib.hid hd
      clear hd
      go_wp2_with fail
      refine (in_any _ _ _ _).mono ?_
      rintro e w2 ⟨rfl, rfl⟩
      by_cases h1 : n < -99999
      · rw [decide_eq_false (by omega : ¬ (-99999 ≤ n)), Bool.false_and]
        go_wp2_with fail
        go_ret2
        exact .mk (add_arg HK.out (.inr (.inl h1))) hb1'
      · by_cases h2 : 99999 < n
        · rw [decide_eq_false (by omega : ¬ (n ≤ 99999)), Bool.and_false]
          go_wp2_with fail
          go_ret2
          exact .mk (add_arg HK.out (.inr (.inr h2))) hb1'
        · rw [decide_eq_true (by omega : (-99999 ≤ n)), decide_eq_true (by omega : (n ≤ 99999)), Bool.and_true]
          have HO := Lib.hid (add_ok HK.out HD.out (by omega) (by omega) : Z.add wk hs day n = Z.addS (Z.opn wk hs) day n)
          by_cases h3 : 0 < n
          · go_wp2_with fail
            refine (rwalk_any wk v hs (day + 1) 1 n _ hSI1 HK.out hk0 (.inl rfl) (fun _ => by omega) (fun h => by omega) (by omega) (by omega)).mono ?_
            rintro e w2 ⟨rfl, hb2⟩
            go_wp2_with fail
            go_ret2
            exact .mk (by rw [HO.out]; unfold Z.addS; rw [if_pos h3]) (hb1'.trans (hb2.mono hb1'.size))
          · by_cases h4 : n < 0
            · go_wp2_with fail
              refine (rwalk_any wk v hs (day - 1) (-1) (-n) _ hSI1 HK.out hk0 (.inr rfl) (fun h => by omega) (fun h => by omega) (by omega) (by omega)).mono ?_
              rintro e w2 ⟨rfl, hb2⟩
              go_wp2_with fail
              go_ret2
              exact .mk (by rw [HO.out]; unfold Z.addS; rw [if_neg (by omega), if_pos h4]) (hb1'.trans (hb2.mono hb1'.size))
            · go_wp2_with fail
              refine (rwalk_any wk v hs day 1 1 _ hSI1 HK.out hk0 (.inl rfl) (fun _ => by omega) (fun h => by omega) (by omega) (by omega)).mono ?_
              rintro e w2 ⟨rfl, hb2⟩
              go_wp2_with fail
              go_ret2
              exact .mk (by rw [HO.out]; unfold Z.addS; rw [if_neg (by omega), if_neg (by omega)]) (hb1'.trans (hb2.mono hb1'.size))

set_option maxHeartbeats 400000 in
theorem rbusiness_any (wk : Int) (v : Value) (hs : List Int) (day : Int) (w : World) (hSI : SI w v hs) (hk0 : 0 ≤ wk) :
    Calls Try.prog 21 #[.agg #[.int .u8 wk, v], .int .i64 day] w (RetB (Z.business wk hs day) w) := by
  go_enter Try.func21, Try.ntmps21
  go_wp2_with fail
  have hbA : Below w.heap.size w (w.alloc (.cells #[.int .u8 wk, v] 24)) := (Below.refl _ w).alloc (Nat.le_refl _) _
  refine (rvalid_any wk v hs _ (hSI.below hbA)).mono ?_
  rintro e W1 ⟨rfl, hb1⟩
  have hb1' := hbA.trans (hb1.mono (by simp))
  have bc := (Blk.new w 24 #[.int .u8 wk, v]).below hb1
  have hSI1 := hSI.below hb1'
  clear hb1 hbA
  cases hk : Z.calB wk hs
  · go_wp2_with fail
    go_ret2
    exact .mk (business_bad hk) hb1'
  · have HK := Lib.hid hk
    clear hk
    have c0 := bc.cell 0
    have c1 := bc.cell 1
    go_wp2_with fail
    refine (rday_any _ _).mono ?_
    rintro e w2 ⟨rfl, rfl⟩
    cases hd : Z.inR day
    · go_wp2_with fail
      go_ret2
      exact .mk (business_arg HK.out hd) hb1'
    · have hdr := (inR_iff day).1 hd
      have HD := Lib.hid hd
      clear hd
      go_wp2_with fail
      refine (ropen_any wk v hs day _ hSI1 HK.out hk0 hdr.1 hdr.2).mono ?_
      rintro e w2 ⟨rfl, hb2⟩
      go_wp2_with fail
      go_ret2
      exact .mk (business_ok HK.out HD.out) (hb1'.trans (hb2.mono hb1'.size))

def great (hs : List Int) : Bool := decide ((1100 : Int) < hs.length) || (decide ((100 : Int) < hs.length) && decide ((hs.length : Int) ≤ 1000))
theorem rgreat_any (wk : Int) (v : Value) (hs : List Int) (w : World) (hSI : SI w v hs) :
    Calls Try.prog 11 #[.agg #[.int .u8 wk, v]] w fun e w' => e = .returned (.bool (great hs)) ∧ Below w.heap.size w w' := by
  obtain ⟨A, c, rfl, hlc, hcm, hcell⟩ := hSI
  unfold maxLen at hcm
  clear hcell
  have hbW : Below w.heap.size w (w.alloc (.cells #[.int .u8 wk, .slice A hs.length c] 24)) := (Below.refl _ w).alloc (Nat.le_refl _) _
  go_enter Try.func11, Try.ntmps11
  go_wp2_with fail
  all_goals (go_ret; refine ⟨ret_bool ?_, hbW⟩; rw [Bool.eq_iff_iff]; simp [great]; try omega)
end Go.Proofs.Ytmbbpimihnojeaa
