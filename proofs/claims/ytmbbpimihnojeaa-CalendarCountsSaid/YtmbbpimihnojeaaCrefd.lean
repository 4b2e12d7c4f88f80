/- Walks: the reference for calendars: Count. -/
import Derived.Test.YtmbbpimihnojeaaCrefb
namespace Go.Proofs.Ytmbbpimihnojeaa
open Go.RowKit

theorem F_bd {P : Int → Bool} {x : Int} (h : 0 ≤ x) : 0 ≤ Z.F P x ∧ Z.F P x ≤ x := by
  have := Z.F_le (P := P) 0 x.toNat (by omega)
  rw [Z.F_zero] at this
  have e : (0 : Int) + (x.toNat : Int) = x := by omega
  rw [e] at this
  omega
theorem F_step {P : Int → Bool} {x : Int} (h : 0 ≤ x) (b : Bool) (hP : P x = b) : Z.F P (x + 1) = Z.F P x + (if b = true then 1 else 0) := by
  rw [Z.F_succ h, hP]
set_option maxHeartbeats 1000000 in
theorem rcount_any (wk : Int) (v : Value) (hs : List Int) (a b : Int) (w : World) (hSI : SI w v hs) (hk0 : 0 ≤ wk) :
    Calls Try.prog 15 #[.agg #[.int .u8 wk, v], .int .i64 a, .int .i64 b] w (CountRet wk hs a b w) := by
  go_enter Try.func15, Try.ntmps15
  go_wp2_with fail
  have hbA : Below w.heap.size w (w.alloc (.cells #[.int .u8 wk, v] 24)) := (Below.refl _ w).alloc (Nat.le_refl _) _
  refine (rvalid_any wk v hs _ (hSI.below hbA)).mono ?_
  rintro e W1 ⟨rfl, hb1⟩
  have hb1' := hbA.trans (hb1.mono (by simp))
  have bc := (Blk.new w 24 #[.int .u8 wk, v]).below hb1
  clear hb1 hbA
  cases hk : Z.calB wk hs
  · go_wp2_with fail
    go_ret2
    exact countRet_bad hk hb1'
  · have HK := Lib.hid hk
    clear hk
    go_wp2_with fail
    refine (rday_any _ _).mono ?_
    rintro e w2 ⟨rfl, rfl⟩
    cases ha : Z.inR a
    · go_wp2_with fail
      go_ret2
      exact countRet_arg HK.out (.inl ha) hb1'
    · have hra := (inR_iff a).1 ha
      have HA := Lib.hid ha
      clear ha
      go_wp2_with fail
      refine (rday_any _ _).mono ?_
      rintro e w2 ⟨rfl, rfl⟩
      cases hb : Z.inR b
      · go_wp2_with fail
        go_ret2
        exact countRet_arg HK.out (.inr hb) hb1'
      · have hrb := (inR_iff b).1 hb
        have HB := Lib.hid hb
        clear hb
        go_wp2_with fail
        go_loopw [8, 9] (fun nv dv wr => ∃ n d : Int, nv = .int .i64 n ∧ dv = .int .i64 d ∧ a ≤ d ∧ (d ≤ b ∨ d ≤ a) ∧ Hid (n = Z.F (Z.opn wk hs) d - Z.F (Z.opn wk hs) a) ∧ Below w.heap.size w wr ∧ Blk wr w.heap.size 24 #[.int .u8 wk, v]) (fun _ dv _ => (b - intOf dv).toNat)
        case atStart => exact ⟨0, a, rfl, rfl, by omega, by omega, Lib.hid (by omega), hb1', bc⟩
        case round =>
          obtain ⟨n, d, rfl, rfl, hd0, hd1, HN, hbw, bcw⟩ := hrel
          have hnb : -100000 ≤ n ∧ n ≤ 100000 := by
            have h1 := HN.out
            have h2 := F_bd (P := Z.opn wk hs) (x := d) (by omega)
            have h3 := F_bd (P := Z.opn wk hs) (x := a) (by omega)
            omega
          have c0 := bcw.cell 0
          have c1 := bcw.cell 1
          by_cases hlt : d < b
          · have hst := F_step (P := Z.opn wk hs) (x := d) (by omega) _ rfl
            go_wp2_with fail
            refine (ropen_any wk v hs d _ (hSI.below hbw) HK.out hk0 (by omega) (by omega)).mono ?_
            rintro e w3 ⟨rfl, hb3⟩
            have bc3 := bcw.below hb3
            have hb3' := hbw.trans (hb3.mono hbw.size)
            clear hb3
            cases hP : Z.opn wk hs d
            · have HS := Lib.hid (hP ▸ hst)
              clear hst hP
              go_wp2_with fail
              go_roundw
              case rel => exact ⟨n, d + 1, rfl, rfl, by omega, by omega, Lib.hid (by have := HN.out; rw [HS.out]; simp; omega), hb3', bc3⟩
              case measure => simp [intOf]; omega
            · have HS := Lib.hid (hP ▸ hst)
              clear hst hP
              go_wp2_with fail
              go_roundw
              case rel => exact ⟨n + 1, d + 1, rfl, rfl, by omega, by omega, Lib.hid (by have := HN.out; rw [HS.out]; simp; omega), hb3', bc3⟩
              case measure => simp [intOf]; omega
          · have HM : Hid (d = max a b) := Lib.hid (by omega)
            go_wp2_with fail
            go_loopw [8, 10] (fun nv dv ws => ∃ m x : Int, nv = .int .i64 m ∧ dv = .int .i64 x ∧ b ≤ x ∧ (x ≤ a ∨ x ≤ b) ∧ Hid (m = n - (Z.F (Z.opn wk hs) x - Z.F (Z.opn wk hs) b)) ∧ Below w.heap.size w ws ∧ Blk ws w.heap.size 24 #[.int .u8 wk, v]) (fun _ dv _ => (a - intOf dv).toNat)
            case atStart => exact ⟨n, b, rfl, rfl, by omega, by omega, Lib.hid (by omega), hbw, bcw⟩
            case round =>
              obtain ⟨m, x, rfl, rfl, hx0, hx1, HM2, hbs, bcs⟩ := hrel
              have hmb : -200000 ≤ m ∧ m ≤ 200000 := by
                have h1 := HM2.out
                have h2 := F_bd (P := Z.opn wk hs) (x := x) (by omega)
                have h3 := F_bd (P := Z.opn wk hs) (x := b) (by omega)
                omega
              have d0 := bcs.cell 0
              have d1 := bcs.cell 1
              by_cases hlt2 : x < a
              · have hst := F_step (P := Z.opn wk hs) (x := x) (by omega) _ rfl
                go_wp2_with fail
                refine (ropen_any wk v hs x _ (hSI.below hbs) HK.out hk0 (by omega) (by omega)).mono ?_
                rintro e w3 ⟨rfl, hb3⟩
                have bc3 := bcs.below hb3
                have hb3' := hbs.trans (hb3.mono hbs.size)
                clear hb3
                cases hP : Z.opn wk hs x
                · have HS := Lib.hid (hP ▸ hst)
                  clear hst hP
                  go_wp2_with fail
                  go_roundw
                  case rel => exact ⟨m, x + 1, rfl, rfl, by omega, by omega, Lib.hid (by have := HM2.out; rw [HS.out]; simp; omega), hb3', bc3⟩
                  case measure => simp [intOf]; omega
                · have HS := Lib.hid (hP ▸ hst)
                  clear hst hP
                  go_wp2_with fail
                  go_roundw
                  case rel => exact ⟨m - 1, x + 1, rfl, rfl, by omega, by omega, Lib.hid (by have := HM2.out; rw [HS.out]; simp; omega), hb3', bc3⟩
                  case measure => simp [intOf]; omega
              · have HX : Hid (x = max a b) := Lib.hid (by omega)
                go_wp2_with fail
                go_ret2
                refine countRet_ok HK.out HA.out HB.out ?_ hbs
                have h1 := HN.out
                have h2 := HM2.out
                rw [HM.out] at h1
                rw [HX.out] at h2
                omega
end Go.Proofs.Ytmbbpimihnojeaa
