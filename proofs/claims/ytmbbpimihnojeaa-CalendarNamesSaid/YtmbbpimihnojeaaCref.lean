/- Walks: the reference for calendars: Valid, rest, Open, Walk, month, Roll, Add, Count, Business, Great. -/
import Derived.Test.YtmbbpimihnojeaaCroll
import Derived.Test.YtmbbpimihnojeaaDref
namespace Go.Proofs.Ytmbbpimihnojeaa
open Go.RowKit

set_option maxHeartbeats 400000 in
theorem rest_any (wk : Int) (k : Nat) (w : World) (h0 : 0 ≤ wk) (h1 : wk ≤ 255) (hk : k ≤ 6) :
    Calls Try.prog 44 #[.int .u8 wk, .int .i64 k] w fun e w' => e = .returned (.bool (wk / 2 ^ k % 2 == 1)) ∧ w = w' := by
  go_enter Try.func44, Try.ntmps44
  go_wp2_with fail
  go_loop [5, 6] (fun nv iv => ∃ (i : Nat) (m : Int), i ≤ k ∧ iv = .int .i64 i ∧ nv = .int .i64 m ∧ Hid (m = wk / 2 ^ i) ∧ 0 ≤ m ∧ m ≤ 255) (fun _ iv => k - (intOf iv).toNat)
  case atStart => exact ⟨0, wk, by omega, rfl, rfl, Lib.hid (by simp), h0, h1⟩
  case round =>
    obtain ⟨i, m, hi, rfl, rfl, HM, hm0, hm1⟩ := hrel
    by_cases hlt : i < k
    · go_wp2_with fail
      go_round
      case rel => exact ⟨i + 1, m / 2, by omega, by go_num, rfl, Lib.hid (by rw [HM.out, Int.pow_succ, Int.ediv_ediv_of_nonneg (Int.pow_nonneg (by omega))]), by omega, by omega⟩
      case measure => simp [intOf]; omega
    · obtain rfl : i = k := by omega
      go_wp2_with fail
      go_ret
      exact ⟨ret_bool (by rw [HM.out]), rfl⟩

theorem quiet_add_same {P : Program} {f : FuncId} {args : Array Value} {w : World} {a n : Nat} {v : Value}
    (h : Calls P f args (w.drewN (a + n)) fun e w' => e = .returned v ∧ w' = w.drewN (a + n)) :
    Calls P f args (w.drewN (a + n)) fun e w'' => e = .returned v ∧ ∃ m, w'' = w.drewN (a + m) :=
  h.mono fun _ _ ⟨he, hm⟩ => ⟨he, n, hm⟩
theorem rday_q (n : Int) (w : World) :
    Calls Try.prog 30 #[.int .i64 n] w fun e w' => e = .returned (.bool (Z.inR n)) ∧ w' = w :=
  (rday_any n w).mono fun _ _ ⟨h1, h2⟩ => ⟨h1, h2.symm⟩
set_option maxHeartbeats 800000 in
theorem rvalid_any (wk : Int) (v : Value) (hs : List Int) (w : World) (hSI : SI w v hs) :
    Calls Try.prog 26 #[.agg #[.int .u8 wk, v]] w fun e w' => e = .returned (.bool (Z.calB wk hs)) ∧ Below w.heap.size w w' := by
  obtain ⟨A, c, rfl, hlc, hcm, hcell⟩ := hSI
  unfold maxLen at hcm
  have hbW : Below w.heap.size w (w.alloc (.cells #[.int .u8 wk, .slice A hs.length c] 24)) := (Below.refl _ w).alloc (Nat.le_refl _) _
  by_cases hw : 127 ≤ wk
  · go_enter Try.func26, Try.ntmps26
    go_wp2_with fail
    go_ret
    exact ⟨ret_bool (calB_big hw).symm, hbW⟩
  · by_cases hl : (1000 : Int) < hs.length
    · go_enter Try.func26, Try.ntmps26
      go_wp2_with fail
      go_ret
      exact ⟨ret_bool (calB_long hl).symm, hbW⟩
    · have HE := Lib.hid (calB_asc hw hl)
      have hdw : decide ((126 : Int) < wk) = false := by simp; omega
      go_enter Try.func26, Try.ntmps26
      go_wp2_with fail
      have bC := Blk.new w 24 #[.int .u8 wk, .slice A hs.length c]
      have hC1 := bC.cell 1
      have hcell2 : ∀ (i : Nat) (d : Int), hs[i]? = some d → ∃ b o, A = some ⟨b, o, none⟩ ∧ (w.alloc (.cells #[.int .u8 wk, .slice A hs.length c] 24)).cell? ⟨b, o + i, none⟩ = some (.int .i64 d) ∧ ∀ (j : Nat) (x : Int), hs[j]? = some x → (w.alloc (.cells #[.int .u8 wk, .slice A hs.length c] 24)).cell? ⟨b, o + j, none⟩ = some (.int .i64 x) := by
        intro i d hd
        obtain ⟨b, o, hA, hlt, hc⟩ := hcell (by have := (List.getElem?_eq_some_iff.1 hd).1; omega)
        exact ⟨b, o, hA, (hbW.cell (p := ⟨b, o + i, none⟩) hlt).trans (hc i d hd), fun j x hx => (hbW.cell (p := ⟨b, o + j, none⟩) hlt).trans (hc j x hx)⟩
      clear bC hcell
      generalize (w.alloc (.cells #[.int .u8 wk, .slice A hs.length c] 24)) = W at *
      go_loopw [3] (fun iv wr => ∃ k q : Nat, k ≤ hs.length ∧ iv = .int .i64 k ∧ wr = W.drewN q ∧ Hid (Z.asc none hs = Z.asc (prevAt hs k) (hs.drop k))) (fun iv _ => hs.length - (intOf iv).toNat)
      case atStart => exact ⟨0, 0, by omega, rfl, rfl, Lib.hid rfl⟩
      case round =>
        obtain ⟨k, q, hk, rfl, rfl, HK⟩ := hrel
        by_cases hlt : k < hs.length
        · have hz : hs[k]? = some hs[k] := List.getElem?_eq_getElem hlt
          have hstep := asc_drop hs k hs[k] hz
          obtain ⟨b, o, rfl, hck, hcj⟩ := hcell2 k hs[k] hz
          generalize hs[k] = z at *
          have hq : ∀ W : World, Calls Try.prog 30 #[.int .i64 z] W fun e w' => e = .returned (.bool (Z.inR z)) ∧ w' = W := fun W => rday_q z W
          cases k with
          | zero =>
            have HS := Lib.hid hstep
            simp only [Nat.add_zero] at hck
            clear hstep hz hcj hcell2
            cases hin : Z.inR z
            · rw [hin] at hq
              have HQ := Lib.hid hq
              clear hq
              go_wp2_with fail
              go_quiet ((go_at_call 30; exact quiet_add_same (HQ.out _)))
              go_wp2_with fail
              go_ret
              refine ⟨ret_bool ?_, by first | exact below_drewN (below_drewN hbW _) _ | exact below_drewN hbW _⟩
              rw [HE.out, HK.out, HS.out, hin]; rfl
            · rw [hin] at hq
              have HQ := Lib.hid hq
              clear hq
              go_wp2_with fail
              go_quiet ((go_at_call 30; exact quiet_add_same (HQ.out _)))
              go_wp2_with fail
              go_roundw
              case rel => exact ⟨1, _, by omega, by go_num, rfl, Lib.hid (by rw [HK.out, HS.out, hin]; rfl)⟩
              case measure => simp [intOf]; omega
          | succ j =>
            have hp : hs[j]? = some hs[j] := List.getElem?_eq_getElem (by omega)
            have hcp := hcj j _ hp
            have hpv : prevAt hs (j + 1) = some hs[j] := hp
            generalize hs[j] = q2 at *
            rw [hpv] at hstep
            have HS := Lib.hid hstep
            have HPV := Lib.hid hpv
            clear hstep hz hcj hcell2 hp hpv
            cases hin : Z.inR z
            · rw [hin] at hq
              have HQ := Lib.hid hq
              clear hq
              go_wp2_with fail
              go_quiet ((go_at_call 30; exact quiet_add_same (HQ.out _)))
              go_wp2_with fail
              go_ret
              refine ⟨ret_bool ?_, by first | exact below_drewN (below_drewN hbW _) _ | exact below_drewN hbW _⟩
              rw [HE.out, HK.out, HPV.out, HS.out, hin]; rfl
            · rw [hin] at hq
              have HQ := Lib.hid hq
              clear hq
              by_cases hqz : q2 < z
              · go_wp2_with fail
                go_quiet ((go_at_call 30; exact quiet_add_same (HQ.out _)))
                go_wp2_with fail
                go_roundw
                case rel => exact ⟨j + 1 + 1, _, by omega, by go_num, rfl, Lib.hid (by rw [HK.out, HPV.out, HS.out, hin, decide_eq_true hqz]; rfl)⟩
                case measure => simp [intOf]; omega
              · go_wp2_with fail
                go_quiet ((go_at_call 30; exact quiet_add_same (HQ.out _)))
                go_wp2_with fail
                go_ret
                refine ⟨ret_bool ?_, by first | exact below_drewN (below_drewN hbW _) _ | exact below_drewN hbW _⟩
                rw [HE.out, HK.out, HPV.out, HS.out, hin, decide_eq_false (Int.not_lt.2 hqz)]; rfl
        · obtain rfl : k = hs.length := by omega
          clear hcell2
          go_wp2_with fail
          go_ret
          refine ⟨ret_bool ?_, by first | exact below_drewN (below_drewN hbW _) _ | exact below_drewN hbW _⟩
          rw [HE.out, HK.out, asc_end]

theorem contains_at {hs : List Int} (hp : hs.Pairwise (· < ·)) {k : Nat} {z d : Int} (hz : hs[k]? = some z) (hlo : ∀ j x, j < k → hs[j]? = some x → x < d) (hd : d < z) : hs.contains d = false := by
  rw [Bool.eq_false_iff]
  intro h
  rw [List.contains_iff_mem] at h
  obtain ⟨j, hj, he⟩ := List.mem_iff_getElem.1 h
  obtain ⟨hk, rfl⟩ := List.getElem?_eq_some_iff.1 hz
  rcases Nat.lt_trichotomy j k with h1 | h1 | h1
  · have := hlo j hs[j] h1 (List.getElem?_eq_getElem hj); omega
  · subst h1; omega
  · have := List.pairwise_iff_getElem.1 hp k j hk hj h1; omega
theorem contains_none {hs : List Int} {d : Int} (hlo : ∀ j x, j < hs.length → hs[j]? = some x → x < d) : hs.contains d = false := by
  rw [Bool.eq_false_iff]
  intro h
  rw [List.contains_iff_mem] at h
  obtain ⟨j, hj, he⟩ := List.mem_iff_getElem.1 h
  have := hlo j hs[j] hj (List.getElem?_eq_getElem hj)
  omega
theorem contains_hit {hs : List Int} {k : Nat} {z d : Int} (hz : hs[k]? = some z) (h : z = d) : hs.contains d = true := by
  rw [List.contains_iff_mem, ← h]
  exact List.mem_of_getElem? hz
set_option maxHeartbeats 800000 in
theorem ropen_any (wk : Int) (v : Value) (hs : List Int) (day : Int) (w : World) (hSI : SI w v hs) (hk : Z.calB wk hs = true) (hk0 : 0 ≤ wk) (hd : 0 ≤ day) (hd2 : day ≤ 99999) :
    Calls Try.prog 34 #[.agg #[.int .u8 wk, v], .int .i64 day] w fun e w' => e = .returned (.bool (Z.opn wk hs day)) ∧ Below w.heap.size w w' := by
  have hk1 : wk ≤ 126 ∧ (hs.length : Int) ≤ 1000 ∧ Z.asc none hs = true := by
    unfold Z.calB at hk; simpa [and_assoc] using hk
  obtain ⟨hk1, hl, ha⟩ := hk1
  have hPw := Lib.hid (Z.asc_facts hs none ha).2
  clear ha hk
  obtain ⟨A, c, rfl, hlc, hcm, hcell⟩ := hSI
  unfold maxLen at hcm
  have hbW : Below w.heap.size w (w.alloc (.cells #[.int .u8 wk, .slice A hs.length c] 24)) := (Below.refl _ w).alloc (Nat.le_refl _) _
  have hm7 : day % 7 = (((day % 7).toNat : Nat) : Int) := by omega
  have hm6 : (day % 7).toNat ≤ 6 := by omega
  have hrest : ∀ W : World, Calls Try.prog 44 #[.int .u8 wk, .int .i64 (day % 7)] W fun e w' => e = .returned (.bool (wk / 2 ^ (day % 7).toNat % 2 == 1)) ∧ W = w' := fun W => by
    rw [hm7]; exact rest_any wk _ W hk0 (by omega) hm6
  have HR := Lib.hid hrest
  clear hrest hm7
  cases hb : (wk / 2 ^ (day % 7).toNat % 2 == 1)
  · rw [hb] at HR
    have hopn : ∀ b : Bool, hs.contains day = b → (!b) = Z.opn wk hs day := by
      intro b hbb
      unfold Z.opn
      rw [hbb]
      have : (wk / 2 ^ (day % 7).toNat % 2 == 0) = true := by rw [beq_iff_eq]; rw [beq_eq_false_iff_ne] at hb; omega
      rw [this, Bool.and_true]
    have HO := Lib.hid hopn
    clear hopn hb
    go_enter Try.func34, Try.ntmps34
    go_wp2_with fail
    refine (HR.out _).mono ?_
    rintro e w1 ⟨rfl, rfl⟩
    go_wp2_with fail
    have bC := Blk.new w 24 #[.int .u8 wk, .slice A hs.length c]
    have hC1 := bC.cell 1
    have hcell2 : ∀ (i : Nat) (d : Int), hs[i]? = some d → ∃ b o, A = some ⟨b, o, none⟩ ∧ (w.alloc (.cells #[.int .u8 wk, .slice A hs.length c] 24)).cell? ⟨b, o + i, none⟩ = some (.int .i64 d) := by
      intro i d hd
      obtain ⟨b, o, hA, hlt, hc⟩ := hcell (by have := (List.getElem?_eq_some_iff.1 hd).1; omega)
      exact ⟨b, o, hA, (hbW.cell (p := ⟨b, o + i, none⟩) hlt).trans (hc i d hd)⟩
    clear bC hcell
    generalize (w.alloc (.cells #[.int .u8 wk, .slice A hs.length c] 24)) = W at *
    go_loop [5] (fun iv => ∃ k : Nat, k ≤ hs.length ∧ iv = .int .i64 k ∧ Hid (∀ j x, j < k → hs[j]? = some x → x < day)) (fun iv => hs.length - (intOf iv).toNat)
    case atStart => exact ⟨0, by omega, rfl, Lib.hid (fun j x h => by omega)⟩
    case round =>
      obtain ⟨k, hk, rfl, HK⟩ := hrel
      by_cases hlt : k < hs.length
      · have hz : hs[k]? = some hs[k] := List.getElem?_eq_getElem hlt
        obtain ⟨b, o, rfl, hck⟩ := hcell2 k hs[k] hz
        generalize hs[k] = z at *
        have HZ := Lib.hid hz
        clear hz hcell2
        by_cases h1 : day < z
        · go_wp2_with fail
          go_ret
          exact ⟨ret_bool (HO.out false (contains_at hPw.out HZ.out HK.out h1)), hbW⟩
        · by_cases h2 : z = day
          · have h3 : (z == day) = true := by simp [h2]
            have H2 := Lib.hid h2
            clear h2
            go_wp2_with fail
            go_ret
            exact ⟨ret_bool (HO.out true (contains_hit HZ.out H2.out)), hbW⟩
          · have h3 : (z == day) = false := by simp [h2]
            go_wp2_with fail
            go_round
            case rel => exact ⟨k + 1, by omega, by go_num, Lib.hid (fun j x hj hx => by
              by_cases e : j = k
              · subst e
                have := hx.symm.trans HZ.out
                injection this with this
                omega
              · exact HK.out j x (by omega) hx)⟩
            case measure => simp [intOf]; omega
      · obtain rfl : k = hs.length := by omega
        clear hcell2
        go_wp2_with fail
        go_ret
        exact ⟨ret_bool (HO.out false (contains_none HK.out)), hbW⟩
  · rw [hb] at HR
    have hopn : false = Z.opn wk hs day := by
      unfold Z.opn
      have : (wk / 2 ^ (day % 7).toNat % 2 == 0) = false := by rw [beq_eq_false_iff_ne]; rw [beq_iff_eq] at hb; omega
      rw [this, Bool.and_false]
    have HO := Lib.hid hopn
    clear hopn hb
    go_enter Try.func34, Try.ntmps34
    go_wp2_with fail
    refine (HR.out _).mono ?_
    rintro e w1 ⟨rfl, rfl⟩
    go_wp2_with fail
    go_ret
    exact ⟨ret_bool HO.out, hbW⟩
end Go.Proofs.Ytmbbpimihnojeaa
