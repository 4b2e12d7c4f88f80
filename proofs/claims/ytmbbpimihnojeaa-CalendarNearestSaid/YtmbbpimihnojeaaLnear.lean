/-
  CalendarNearest: whatever the calendar, the day and the rule: a rolled day is the nearest business day in its direction. Conditions: none.
-/
import Derived.Test.YtmbbpimihnojeaaRows
import Derived.Test.YtmbbpimihnojeaaCrefb
import Derived.Test.YtmbbpimihnojeaaZcalb
import Derived.Test.YtmbbpimihnojeaaCalive
import Derived.Test.YtmbbpimihnojeaaCframe
import Derived.ProofKit
import Derived.OpenShut
import Derived.ShutString
namespace Go.Proofs.Ytmbbpimihnojeaa.lawNearest
open Go.ChangeShapes Go.WideShapes Go.ChangeAt Go.RowKit
open Go.ChangeMaps (open_string shut_string)

theorem own : ownKnob Try.prog.godebug = none := by kernel_rfl

set_option maxRecDepth 100000 in
set_option maxHeartbeats 8000000 in
theorem walk (wk : Int) (u : Value) (hs : List Int) (day rule : Int) (w : World) (h0 : 0 ≤ wk) (_h1 : wk ≤ 255) (hSI : SI w u hs) (_a0 : -9223372036854775808 ≤ day) (_a1 : day ≤ 9223372036854775807) (hr0 : 0 ≤ rule) (_r1 : rule ≤ 255) :
    Calls Try.prog 6 #[.agg #[.int .u8 wk, u], .int .i64 day, .int .u8 rule] w fun e w' => e = .returned (.bool true) ∧ Below w.heap.size w w' := by
  clear _a0 _a1
  have hC : ∀ (x y n f : Int) (W : World), Z.count wk hs x y = (n, f) → SI W u hs → Calls Try.prog 14 #[.agg #[.int .u8 wk, u], .int .i64 x, .int .i64 y] W fun e w' => e = .returned (.tuple #[.int .i64 n, .int .i64 f]) ∧ Below W.heap.size W w' := by
    intro x y n f W hx hS
    have := ccount_any wk u hs x y W hS h0
    unfold CountRet at this
    rwa [hx] at this
  have hR : ∀ (x n f : Int) (W : World), Z.roll wk hs day x = (n, f) → 0 ≤ x → SI W u hs → Calls Try.prog 16 #[.agg #[.int .u8 wk, u], .int .i64 day, .int .u8 x] W fun e w' => e = .returned (.tuple #[.int .i64 n, .int .i64 f]) ∧ Below W.heap.size W w' := by
    intro x n f W hx hx0 hS
    have := croll_any wk u hs day x W hS h0 hx0
    unfold Ret2 at this
    rwa [hx] at this
  have hB : ∀ (x : Int) (n : Bool) (f : Int) (W : World), Z.business wk hs x = (n, f) → SI W u hs → Calls Try.prog 19 #[.agg #[.int .u8 wk, u], .int .i64 x] W fun e w' => e = .returned (.tuple #[.bool n, .int .i64 f]) ∧ Below W.heap.size W w' := by
    intro x n f W hx hS
    have := cbusiness_any wk u hs x W hS h0
    unfold RetB at this
    rwa [hx] at this
  have HC := Lib.hid hC
  have HR := Lib.hid hR
  have HB := Lib.hid hB
  have hcases := Z.roll_cases wk hs day rule hr0
  clear hC hR hB
  go_enter Try.func6, Try.ntmps6
  go_wp2_with fail
  have bC := Blk.new w 24 #[.int .u8 wk, u]
  have hb0 : Below w.heap.size w (w.alloc (.cells #[.int .u8 wk, u] 24)) := (Below.refl _ w).alloc (Nat.le_refl _) _
  refine (alive_any _).mono ?_
  rintro e w1 ⟨rfl, hb⟩
  have bC := bC.below hb
  have hb1 := hb0.trans (hb.mono hb0.size)
  clear hb hb0
  have c0 := bC.cell 0
  have c1 := bC.cell 1
  go_wp2_with fail
  refine (rgreat_any wk u hs _ (hSI.below hb1)).mono ?_
  rintro e w2 ⟨rfl, hb⟩
  have bC := bC.below hb
  have hb2 := hb1.trans (hb.mono hb1.size)
  clear hb c0 c1
  cases hg : great hs
  · have c0 := bC.cell 0
    have c1 := bC.cell 1
    go_wp2_with fail
    rcases hcases with ⟨er, hv, he⟩ | ⟨rfl, hv⟩ | ⟨hk, hd, hr1, hr4, r, hv, hN, hside⟩
    · have hne : (er != 0) = true := by simp [bne, he]
      refine (HR.out _ _ _ _ hv hr0 (hSI.below hb2)).mono ?_
      rintro e w3 ⟨rfl, hb⟩
      have hb3 := hb2.trans (hb.mono hb2.size)
      clear hv hb c0 c1
      go_wp2_with fail
      go_ret
      exact ⟨rfl, hb3⟩
    · refine (HR.out _ _ _ _ hv hr0 (hSI.below hb2)).mono ?_
      rintro e w3 ⟨rfl, hb⟩
      have hb3 := hb2.trans (hb.mono hb2.size)
      clear hv hb c0 c1
      go_wp2_with fail
      go_ret
      exact ⟨rfl, hb3⟩
    · have hcnt := Z.near_count hk hd hN
      have hbus := Z.near_business hk hd hN
      have hdr := Z.inR_bd hd
      have hrr : 0 ≤ r ∧ r ≤ 99999 := ⟨hN.r0, hN.r1⟩
      refine (HR.out _ _ _ _ hv hr0 (hSI.below hb2)).mono ?_
      rintro e w3 ⟨rfl, hb⟩
      have bC := bC.below hb
      have hb3 := hb2.trans (hb.mono hb2.size)
      clear hv hb c0 c1 hk hd hN
      have c0 := bC.cell 0
      have c1 := bC.cell 1
      have HCN := Lib.hid hcnt
      have HBU := Lib.hid hbus
      have HSD := Lib.hid hside
      clear hcnt hbus hside
      have hrz : (rule == 0) = false := by rw [beq_eq_false_iff_ne]; omega
      go_wp2_with fail
      refine (HB.out _ _ _ _ HBU.out.1 (hSI.below hb3)).mono ?_
      rintro e w4 ⟨rfl, hb⟩
      have bC := bC.below hb
      have hb4 := hb3.trans (hb.mono hb3.size)
      clear hb c0 c1
      have c0 := bC.cell 0
      have c1 := bC.cell 1
      go_wp2_with fail
      obtain ⟨hr, hHB, hHr⟩ : ∃ hr : Bool, Z.business wk hs day = (hr, 0) ∧ (hr = true → r = day) := by
        rcases HBU.out.2 with ⟨h, k⟩ | h
        · exact ⟨true, h, fun _ => k⟩
        · exact ⟨false, h, fun h => by cases h⟩
      refine (HB.out _ _ _ _ hHB (hSI.below hb4)).mono ?_
      rintro e w5 ⟨rfl, hb⟩
      have bC := bC.below hb
      have hb5 := hb4.trans (hb.mono hb4.size)
      clear hb c0 c1 hHB
      have HHR := Lib.hid hHr
      clear hHr
      go_upto_if 78 with fail
      go_cut [14, 15] (fun lv hv wx => ∃ lo hi : Int, lv = .int .i64 lo ∧ hv = .int .i64 hi ∧ Hid (Z.count wk hs lo hi = (0, 0)) ∧ w5 = wx)
      case first =>
        by_cases hlt : r < day
        · go_wp2_with fail
          go_meet
          exact ⟨r + 1, day, rfl, rfl, Lib.hid (HCN.out.2 hlt), rfl⟩
        · go_wp2_with fail
          go_meet
          exact ⟨day, r, rfl, rfl, Lib.hid (HCN.out.1 (by omega)), rfl⟩
      case rest =>
        obtain ⟨lo, hi, rfl, rfl, HL, rfl⟩ := hcut
        have c0 := bC.cell 0
        have c1 := bC.cell 1
        go_wp2_with fail
        refine (HC.out _ _ _ _ _ HL.out (hSI.below hb5)).mono ?_
        rintro e w6 ⟨rfl, hb⟩
        have bC := bC.below hb
        have hb6 := hb5.trans (hb.mono hb5.size)
        clear hb c0 c1
        have c0 := bC.cell 0
        have c1 := bC.cell 1
        have hdd : (hr = false) ∨ (hr = true ∧ (r != day) = false) := by
          cases h : hr
          · exact .inl rfl
          · exact .inr ⟨rfl, by have := HHR.out h; simp [this]⟩
        rcases hdd with rfl | ⟨rfl, hrd⟩
        · rcases HSD.out with ⟨rfl, hs1⟩ | ⟨rfl, hs2⟩ | ⟨rfl, hk3⟩ | ⟨rfl, hk4⟩
          · clear hr0 hr1 hr4 hrz
            go_wp2_with fail
            go_ret
            exact ⟨rfl, hb6⟩
          · clear hr0 hr1 hr4 hrz
            by_cases heq : r = day
            · have h1 : (r == day) = true := by simp [heq]
              have h2 : decide (day ≤ r) = true := by simp; omega
              have H := Lib.hid heq
              clear heq
              go_wp2_with fail
              go_ret
              exact ⟨rfl, hb6⟩
            · have h1 : (r == day) = false := by rw [beq_eq_false_iff_ne]; exact heq
              have h2 : decide (day ≤ r) = false := by simp; omega
              go_wp2_with fail
              go_ret
              exact ⟨rfl, hb6⟩
          · clear hr0 hr1 hr4 hrz
            have HK := Lib.hid hk3
            clear hk3
            rcases HK.out with ⟨q1, q2⟩ | ⟨x, q1, x0, x1, q2, q3⟩ | ⟨q1, q3⟩
            · have Q1 := Lib.hid q1
              have Q2 := Lib.hid q2
              clear q1 q2
              go_wp2_with fail
              refine (HR.out _ _ _ _ Q1.out (by omega) (hSI.below hb6)).mono ?_
              rintro e w7 ⟨rfl, hb⟩
              have bC := bC.below hb
              have hb7 := hb6.trans (hb.mono hb6.size)
              clear hb c0 c1
              have c0 := bC.cell 0
              have c1 := bC.cell 1
              go_wp2_with fail
              refine (parts_any day _ hdr.1 hdr.2).mono ?_
              rintro e w8 ⟨y, m, d, hA, rfl, hb⟩
              have bC := bC.below hb
              have hb8 := hb7.trans (hb.mono hb7.size)
              clear hb c0 c1
              have c0 := bC.cell 0
              have c1 := bC.cell 1
              have HA := Lib.hid hA
              clear hA
              go_wp2_with fail
              refine (parts_any r _ (by omega) (by omega)).mono ?_
              rintro e w9 ⟨p, q, d2, hA2, rfl, hb⟩
              have bC := bC.below hb
              have hb9 := hb8.trans (hb.mono hb8.size)
              clear hb c0 c1
              have c0 := bC.cell 0
              have c1 := bC.cell 1
              have hpq := sameM_mk hA2 HA.out
              rw [Q2.out] at hpq
              have e1 : (y == p) = true := by have := hpq.symm; simp at this; simp [this.1]
              have e2 : (m == q) = true := by have := hpq.symm; simp at this; simp [this.2]
              clear hpq hA2
              go_wp2_with fail
              go_ret
              exact ⟨rfl, hb9⟩
            · have Q1 := Lib.hid q1
              have Q2 := Lib.hid q2
              have Q3 := Lib.hid q3
              clear q1 q2 q3
              go_wp2_with fail
              refine (HR.out _ _ _ _ Q1.out (by omega) (hSI.below hb6)).mono ?_
              rintro e w7 ⟨rfl, hb⟩
              have bC := bC.below hb
              have hb7 := hb6.trans (hb.mono hb6.size)
              clear hb c0 c1
              have c0 := bC.cell 0
              have c1 := bC.cell 1
              go_wp2_with fail
              refine (parts_any day _ hdr.1 hdr.2).mono ?_
              rintro e w8 ⟨y, m, d, hA, rfl, hb⟩
              have bC := bC.below hb
              have hb8 := hb7.trans (hb.mono hb7.size)
              clear hb c0 c1
              have c0 := bC.cell 0
              have c1 := bC.cell 1
              have HA := Lib.hid hA
              clear hA
              go_wp2_with fail
              refine (parts_any x _ (by omega) (by omega)).mono ?_
              rintro e w9 ⟨p, q, d2, hA2, rfl, hb⟩
              have bC := bC.below hb
              have hb9 := hb8.trans (hb.mono hb8.size)
              clear hb c0 c1
              have c0 := bC.cell 0
              have c1 := bC.cell 1
              have hpq := sameM_mk hA2 HA.out
              rw [Q2.out] at hpq
              have hne : (y == p) = false ∨ (y == p) = true ∧ (m == q) = false := by
                by_cases h1 : y = p
                · by_cases h2 : m = q
                  · subst h1; subst h2; simp at hpq
                  · exact .inr ⟨by simp [h1], by simp [h2]⟩
                · exact .inl (by simp [h1])
              clear hpq hA2
              rcases hne with e1 | ⟨e1, e2⟩
              · go_wp2_with fail
                refine (HR.out _ _ _ _ Q3.out (by omega) (hSI.below hb9)).mono ?_
                rintro e w10 ⟨rfl, hb⟩
                have hb10 := hb9.trans (hb.mono hb9.size)
                clear hb c0 c1
                go_wp2_with fail
                go_ret
                exact ⟨rfl, hb10⟩
              · go_wp2_with fail
                refine (HR.out _ _ _ _ Q3.out (by omega) (hSI.below hb9)).mono ?_
                rintro e w10 ⟨rfl, hb⟩
                have hb10 := hb9.trans (hb.mono hb9.size)
                clear hb c0 c1
                go_wp2_with fail
                go_ret
                exact ⟨rfl, hb10⟩
            · have Q1 := Lib.hid q1
              have Q3 := Lib.hid q3
              clear q1 q3
              go_wp2_with fail
              refine (HR.out _ _ _ _ Q1.out (by omega) (hSI.below hb6)).mono ?_
              rintro e w7 ⟨rfl, hb⟩
              have bC := bC.below hb
              have hb7 := hb6.trans (hb.mono hb6.size)
              clear hb c0 c1
              have c0 := bC.cell 0
              have c1 := bC.cell 1
              go_wp2_with fail
              refine (parts_any day _ hdr.1 hdr.2).mono ?_
              rintro e w8 ⟨y, m, d, hA, rfl, hb⟩
              have bC := bC.below hb
              have hb8 := hb7.trans (hb.mono hb7.size)
              clear hb c0 c1
              have c0 := bC.cell 0
              have c1 := bC.cell 1
              have HA := Lib.hid hA
              clear hA
              go_wp2_with fail
              refine (parts_any 0 _ (by omega) (by omega)).mono ?_
              rintro e w9 ⟨p, q, d2, hA2, rfl, hb⟩
              have bC := bC.below hb
              have hb9 := hb8.trans (hb.mono hb8.size)
              clear hb c0 c1
              have c0 := bC.cell 0
              have c1 := bC.cell 1
              clear hA2
              go_wp2_with fail
              refine (HR.out _ _ _ _ Q3.out (by omega) (hSI.below hb9)).mono ?_
              rintro e w10 ⟨rfl, hb⟩
              have hb10 := hb9.trans (hb.mono hb9.size)
              clear hb c0 c1
              go_wp2_with fail
              go_ret
              exact ⟨rfl, hb10⟩
          · clear hr0 hr1 hr4 hrz
            have HK := Lib.hid hk4
            clear hk4
            rcases HK.out with ⟨q1, q2⟩ | ⟨x, q1, x0, x1, q2, q3⟩ | ⟨q1, q3⟩
            · have Q1 := Lib.hid q1
              have Q2 := Lib.hid q2
              clear q1 q2
              go_wp2_with fail
              refine (HR.out _ _ _ _ Q1.out (by omega) (hSI.below hb6)).mono ?_
              rintro e w7 ⟨rfl, hb⟩
              have bC := bC.below hb
              have hb7 := hb6.trans (hb.mono hb6.size)
              clear hb c0 c1
              have c0 := bC.cell 0
              have c1 := bC.cell 1
              go_wp2_with fail
              refine (parts_any day _ hdr.1 hdr.2).mono ?_
              rintro e w8 ⟨y, m, d, hA, rfl, hb⟩
              have bC := bC.below hb
              have hb8 := hb7.trans (hb.mono hb7.size)
              clear hb c0 c1
              have c0 := bC.cell 0
              have c1 := bC.cell 1
              have HA := Lib.hid hA
              clear hA
              go_wp2_with fail
              refine (parts_any r _ (by omega) (by omega)).mono ?_
              rintro e w9 ⟨p, q, d2, hA2, rfl, hb⟩
              have bC := bC.below hb
              have hb9 := hb8.trans (hb.mono hb8.size)
              clear hb c0 c1
              have c0 := bC.cell 0
              have c1 := bC.cell 1
              have hpq := sameM_mk hA2 HA.out
              rw [Q2.out] at hpq
              have e1 : (y == p) = true := by have := hpq.symm; simp at this; simp [this.1]
              have e2 : (m == q) = true := by have := hpq.symm; simp at this; simp [this.2]
              clear hpq hA2
              go_wp2_with fail
              go_ret
              exact ⟨rfl, hb9⟩
            · have Q1 := Lib.hid q1
              have Q2 := Lib.hid q2
              have Q3 := Lib.hid q3
              clear q1 q2 q3
              go_wp2_with fail
              refine (HR.out _ _ _ _ Q1.out (by omega) (hSI.below hb6)).mono ?_
              rintro e w7 ⟨rfl, hb⟩
              have bC := bC.below hb
              have hb7 := hb6.trans (hb.mono hb6.size)
              clear hb c0 c1
              have c0 := bC.cell 0
              have c1 := bC.cell 1
              go_wp2_with fail
              refine (parts_any day _ hdr.1 hdr.2).mono ?_
              rintro e w8 ⟨y, m, d, hA, rfl, hb⟩
              have bC := bC.below hb
              have hb8 := hb7.trans (hb.mono hb7.size)
              clear hb c0 c1
              have c0 := bC.cell 0
              have c1 := bC.cell 1
              have HA := Lib.hid hA
              clear hA
              go_wp2_with fail
              refine (parts_any x _ (by omega) (by omega)).mono ?_
              rintro e w9 ⟨p, q, d2, hA2, rfl, hb⟩
              have bC := bC.below hb
              have hb9 := hb8.trans (hb.mono hb8.size)
              clear hb c0 c1
              have c0 := bC.cell 0
              have c1 := bC.cell 1
              have hpq := sameM_mk hA2 HA.out
              rw [Q2.out] at hpq
              have hne : (y == p) = false ∨ (y == p) = true ∧ (m == q) = false := by
                by_cases h1 : y = p
                · by_cases h2 : m = q
                  · subst h1; subst h2; simp at hpq
                  · exact .inr ⟨by simp [h1], by simp [h2]⟩
                · exact .inl (by simp [h1])
              clear hpq hA2
              rcases hne with e1 | ⟨e1, e2⟩
              · go_wp2_with fail
                refine (HR.out _ _ _ _ Q3.out (by omega) (hSI.below hb9)).mono ?_
                rintro e w10 ⟨rfl, hb⟩
                have hb10 := hb9.trans (hb.mono hb9.size)
                clear hb c0 c1
                go_wp2_with fail
                go_ret
                exact ⟨rfl, hb10⟩
              · go_wp2_with fail
                refine (HR.out _ _ _ _ Q3.out (by omega) (hSI.below hb9)).mono ?_
                rintro e w10 ⟨rfl, hb⟩
                have hb10 := hb9.trans (hb.mono hb9.size)
                clear hb c0 c1
                go_wp2_with fail
                go_ret
                exact ⟨rfl, hb10⟩
            · have Q1 := Lib.hid q1
              have Q3 := Lib.hid q3
              clear q1 q3
              go_wp2_with fail
              refine (HR.out _ _ _ _ Q1.out (by omega) (hSI.below hb6)).mono ?_
              rintro e w7 ⟨rfl, hb⟩
              have bC := bC.below hb
              have hb7 := hb6.trans (hb.mono hb6.size)
              clear hb c0 c1
              have c0 := bC.cell 0
              have c1 := bC.cell 1
              go_wp2_with fail
              refine (parts_any day _ hdr.1 hdr.2).mono ?_
              rintro e w8 ⟨y, m, d, hA, rfl, hb⟩
              have bC := bC.below hb
              have hb8 := hb7.trans (hb.mono hb7.size)
              clear hb c0 c1
              have c0 := bC.cell 0
              have c1 := bC.cell 1
              have HA := Lib.hid hA
              clear hA
              go_wp2_with fail
              refine (parts_any 0 _ (by omega) (by omega)).mono ?_
              rintro e w9 ⟨p, q, d2, hA2, rfl, hb⟩
              have bC := bC.below hb
              have hb9 := hb8.trans (hb.mono hb8.size)
              clear hb c0 c1
              have c0 := bC.cell 0
              have c1 := bC.cell 1
              clear hA2
              go_wp2_with fail
              refine (HR.out _ _ _ _ Q3.out (by omega) (hSI.below hb9)).mono ?_
              rintro e w10 ⟨rfl, hb⟩
              have hb10 := hb9.trans (hb.mono hb9.size)
              clear hb c0 c1
              go_wp2_with fail
              go_ret
              exact ⟨rfl, hb10⟩
        · rcases HSD.out with ⟨rfl, hs1⟩ | ⟨rfl, hs2⟩ | ⟨rfl, hk3⟩ | ⟨rfl, hk4⟩
          · clear hr0 hr1 hr4 hrz
            go_wp2_with fail
            go_ret
            exact ⟨rfl, hb6⟩
          · clear hr0 hr1 hr4 hrz
            by_cases heq : r = day
            · have h1 : (r == day) = true := by simp [heq]
              have h2 : decide (day ≤ r) = true := by simp; omega
              have H := Lib.hid heq
              clear heq
              go_wp2_with fail
              go_ret
              exact ⟨rfl, hb6⟩
            · have h1 : (r == day) = false := by rw [beq_eq_false_iff_ne]; exact heq
              have h2 : decide (day ≤ r) = false := by simp; omega
              go_wp2_with fail
              go_ret
              exact ⟨rfl, hb6⟩
          · clear hr0 hr1 hr4 hrz
            have HK := Lib.hid hk3
            clear hk3
            rcases HK.out with ⟨q1, q2⟩ | ⟨x, q1, x0, x1, q2, q3⟩ | ⟨q1, q3⟩
            · have Q1 := Lib.hid q1
              have Q2 := Lib.hid q2
              clear q1 q2
              go_wp2_with fail
              refine (HR.out _ _ _ _ Q1.out (by omega) (hSI.below hb6)).mono ?_
              rintro e w7 ⟨rfl, hb⟩
              have bC := bC.below hb
              have hb7 := hb6.trans (hb.mono hb6.size)
              clear hb c0 c1
              have c0 := bC.cell 0
              have c1 := bC.cell 1
              go_wp2_with fail
              refine (parts_any day _ hdr.1 hdr.2).mono ?_
              rintro e w8 ⟨y, m, d, hA, rfl, hb⟩
              have bC := bC.below hb
              have hb8 := hb7.trans (hb.mono hb7.size)
              clear hb c0 c1
              have c0 := bC.cell 0
              have c1 := bC.cell 1
              have HA := Lib.hid hA
              clear hA
              go_wp2_with fail
              refine (parts_any r _ (by omega) (by omega)).mono ?_
              rintro e w9 ⟨p, q, d2, hA2, rfl, hb⟩
              have bC := bC.below hb
              have hb9 := hb8.trans (hb.mono hb8.size)
              clear hb c0 c1
              have c0 := bC.cell 0
              have c1 := bC.cell 1
              have hpq := sameM_mk hA2 HA.out
              rw [Q2.out] at hpq
              have e1 : (y == p) = true := by have := hpq.symm; simp at this; simp [this.1]
              have e2 : (m == q) = true := by have := hpq.symm; simp at this; simp [this.2]
              clear hpq hA2
              go_wp2_with fail
              go_ret
              exact ⟨rfl, hb9⟩
            · have Q1 := Lib.hid q1
              have Q2 := Lib.hid q2
              have Q3 := Lib.hid q3
              clear q1 q2 q3
              go_wp2_with fail
              refine (HR.out _ _ _ _ Q1.out (by omega) (hSI.below hb6)).mono ?_
              rintro e w7 ⟨rfl, hb⟩
              have bC := bC.below hb
              have hb7 := hb6.trans (hb.mono hb6.size)
              clear hb c0 c1
              have c0 := bC.cell 0
              have c1 := bC.cell 1
              go_wp2_with fail
              refine (parts_any day _ hdr.1 hdr.2).mono ?_
              rintro e w8 ⟨y, m, d, hA, rfl, hb⟩
              have bC := bC.below hb
              have hb8 := hb7.trans (hb.mono hb7.size)
              clear hb c0 c1
              have c0 := bC.cell 0
              have c1 := bC.cell 1
              have HA := Lib.hid hA
              clear hA
              go_wp2_with fail
              refine (parts_any x _ (by omega) (by omega)).mono ?_
              rintro e w9 ⟨p, q, d2, hA2, rfl, hb⟩
              have bC := bC.below hb
              have hb9 := hb8.trans (hb.mono hb8.size)
              clear hb c0 c1
              have c0 := bC.cell 0
              have c1 := bC.cell 1
              have hpq := sameM_mk hA2 HA.out
              rw [Q2.out] at hpq
              have hne : (y == p) = false ∨ (y == p) = true ∧ (m == q) = false := by
                by_cases h1 : y = p
                · by_cases h2 : m = q
                  · subst h1; subst h2; simp at hpq
                  · exact .inr ⟨by simp [h1], by simp [h2]⟩
                · exact .inl (by simp [h1])
              clear hpq hA2
              rcases hne with e1 | ⟨e1, e2⟩
              · go_wp2_with fail
                refine (HR.out _ _ _ _ Q3.out (by omega) (hSI.below hb9)).mono ?_
                rintro e w10 ⟨rfl, hb⟩
                have hb10 := hb9.trans (hb.mono hb9.size)
                clear hb c0 c1
                go_wp2_with fail
                go_ret
                exact ⟨rfl, hb10⟩
              · go_wp2_with fail
                refine (HR.out _ _ _ _ Q3.out (by omega) (hSI.below hb9)).mono ?_
                rintro e w10 ⟨rfl, hb⟩
                have hb10 := hb9.trans (hb.mono hb9.size)
                clear hb c0 c1
                go_wp2_with fail
                go_ret
                exact ⟨rfl, hb10⟩
            · have Q1 := Lib.hid q1
              have Q3 := Lib.hid q3
              clear q1 q3
              go_wp2_with fail
              refine (HR.out _ _ _ _ Q1.out (by omega) (hSI.below hb6)).mono ?_
              rintro e w7 ⟨rfl, hb⟩
              have bC := bC.below hb
              have hb7 := hb6.trans (hb.mono hb6.size)
              clear hb c0 c1
              have c0 := bC.cell 0
              have c1 := bC.cell 1
              go_wp2_with fail
              refine (parts_any day _ hdr.1 hdr.2).mono ?_
              rintro e w8 ⟨y, m, d, hA, rfl, hb⟩
              have bC := bC.below hb
              have hb8 := hb7.trans (hb.mono hb7.size)
              clear hb c0 c1
              have c0 := bC.cell 0
              have c1 := bC.cell 1
              have HA := Lib.hid hA
              clear hA
              go_wp2_with fail
              refine (parts_any 0 _ (by omega) (by omega)).mono ?_
              rintro e w9 ⟨p, q, d2, hA2, rfl, hb⟩
              have bC := bC.below hb
              have hb9 := hb8.trans (hb.mono hb8.size)
              clear hb c0 c1
              have c0 := bC.cell 0
              have c1 := bC.cell 1
              clear hA2
              go_wp2_with fail
              refine (HR.out _ _ _ _ Q3.out (by omega) (hSI.below hb9)).mono ?_
              rintro e w10 ⟨rfl, hb⟩
              have hb10 := hb9.trans (hb.mono hb9.size)
              clear hb c0 c1
              go_wp2_with fail
              go_ret
              exact ⟨rfl, hb10⟩
          · clear hr0 hr1 hr4 hrz
            have HK := Lib.hid hk4
            clear hk4
            rcases HK.out with ⟨q1, q2⟩ | ⟨x, q1, x0, x1, q2, q3⟩ | ⟨q1, q3⟩
            · have Q1 := Lib.hid q1
              have Q2 := Lib.hid q2
              clear q1 q2
              go_wp2_with fail
              refine (HR.out _ _ _ _ Q1.out (by omega) (hSI.below hb6)).mono ?_
              rintro e w7 ⟨rfl, hb⟩
              have bC := bC.below hb
              have hb7 := hb6.trans (hb.mono hb6.size)
              clear hb c0 c1
              have c0 := bC.cell 0
              have c1 := bC.cell 1
              go_wp2_with fail
              refine (parts_any day _ hdr.1 hdr.2).mono ?_
              rintro e w8 ⟨y, m, d, hA, rfl, hb⟩
              have bC := bC.below hb
              have hb8 := hb7.trans (hb.mono hb7.size)
              clear hb c0 c1
              have c0 := bC.cell 0
              have c1 := bC.cell 1
              have HA := Lib.hid hA
              clear hA
              go_wp2_with fail
              refine (parts_any r _ (by omega) (by omega)).mono ?_
              rintro e w9 ⟨p, q, d2, hA2, rfl, hb⟩
              have bC := bC.below hb
              have hb9 := hb8.trans (hb.mono hb8.size)
              clear hb c0 c1
              have c0 := bC.cell 0
              have c1 := bC.cell 1
              have hpq := sameM_mk hA2 HA.out
              rw [Q2.out] at hpq
              have e1 : (y == p) = true := by have := hpq.symm; simp at this; simp [this.1]
              have e2 : (m == q) = true := by have := hpq.symm; simp at this; simp [this.2]
              clear hpq hA2
              go_wp2_with fail
              go_ret
              exact ⟨rfl, hb9⟩
            · have Q1 := Lib.hid q1
              have Q2 := Lib.hid q2
              have Q3 := Lib.hid q3
              clear q1 q2 q3
              go_wp2_with fail
              refine (HR.out _ _ _ _ Q1.out (by omega) (hSI.below hb6)).mono ?_
              rintro e w7 ⟨rfl, hb⟩
              have bC := bC.below hb
              have hb7 := hb6.trans (hb.mono hb6.size)
              clear hb c0 c1
              have c0 := bC.cell 0
              have c1 := bC.cell 1
              go_wp2_with fail
              refine (parts_any day _ hdr.1 hdr.2).mono ?_
              rintro e w8 ⟨y, m, d, hA, rfl, hb⟩
              have bC := bC.below hb
              have hb8 := hb7.trans (hb.mono hb7.size)
              clear hb c0 c1
              have c0 := bC.cell 0
              have c1 := bC.cell 1
              have HA := Lib.hid hA
              clear hA
              go_wp2_with fail
              refine (parts_any x _ (by omega) (by omega)).mono ?_
              rintro e w9 ⟨p, q, d2, hA2, rfl, hb⟩
              have bC := bC.below hb
              have hb9 := hb8.trans (hb.mono hb8.size)
              clear hb c0 c1
              have c0 := bC.cell 0
              have c1 := bC.cell 1
              have hpq := sameM_mk hA2 HA.out
              rw [Q2.out] at hpq
              have hne : (y == p) = false ∨ (y == p) = true ∧ (m == q) = false := by
                by_cases h1 : y = p
                · by_cases h2 : m = q
                  · subst h1; subst h2; simp at hpq
                  · exact .inr ⟨by simp [h1], by simp [h2]⟩
                · exact .inl (by simp [h1])
              clear hpq hA2
              rcases hne with e1 | ⟨e1, e2⟩
              · go_wp2_with fail
                refine (HR.out _ _ _ _ Q3.out (by omega) (hSI.below hb9)).mono ?_
                rintro e w10 ⟨rfl, hb⟩
                have hb10 := hb9.trans (hb.mono hb9.size)
                clear hb c0 c1
                go_wp2_with fail
                go_ret
                exact ⟨rfl, hb10⟩
              · go_wp2_with fail
                refine (HR.out _ _ _ _ Q3.out (by omega) (hSI.below hb9)).mono ?_
                rintro e w10 ⟨rfl, hb⟩
                have hb10 := hb9.trans (hb.mono hb9.size)
                clear hb c0 c1
                go_wp2_with fail
                go_ret
                exact ⟨rfl, hb10⟩
            · have Q1 := Lib.hid q1
              have Q3 := Lib.hid q3
              clear q1 q3
              go_wp2_with fail
              refine (HR.out _ _ _ _ Q1.out (by omega) (hSI.below hb6)).mono ?_
              rintro e w7 ⟨rfl, hb⟩
              have bC := bC.below hb
              have hb7 := hb6.trans (hb.mono hb6.size)
              clear hb c0 c1
              have c0 := bC.cell 0
              have c1 := bC.cell 1
              go_wp2_with fail
              refine (parts_any day _ hdr.1 hdr.2).mono ?_
              rintro e w8 ⟨y, m, d, hA, rfl, hb⟩
              have bC := bC.below hb
              have hb8 := hb7.trans (hb.mono hb7.size)
              clear hb c0 c1
              have c0 := bC.cell 0
              have c1 := bC.cell 1
              have HA := Lib.hid hA
              clear hA
              go_wp2_with fail
              refine (parts_any 0 _ (by omega) (by omega)).mono ?_
              rintro e w9 ⟨p, q, d2, hA2, rfl, hb⟩
              have bC := bC.below hb
              have hb9 := hb8.trans (hb.mono hb8.size)
              clear hb c0 c1
              have c0 := bC.cell 0
              have c1 := bC.cell 1
              clear hA2
              go_wp2_with fail
              refine (HR.out _ _ _ _ Q3.out (by omega) (hSI.below hb9)).mono ?_
              rintro e w10 ⟨rfl, hb⟩
              have hb10 := hb9.trans (hb.mono hb9.size)
              clear hb c0 c1
              go_wp2_with fail
              go_ret
              exact ⟨rfl, hb10⟩
  · go_wp2_with fail
    go_ret
    exact ⟨rfl, hb2⟩

set_option maxRecDepth 100000 in
theorem lifted (os : Os) (started : os.Started) (H : Type) (enc : TypeId × Value → H) :
    ReturnsInHanded {} Try.checked os 6 .any (Rows.calendarNearestSpec.pre6 enc Try.prog Try.f6 Rows.calendarNearestRow.domain false) (Rows.calendarNearestSpec.post enc Try.prog Try.f6 false true false false) := by
  refine returnsInHanded_of_change (C := Try.checked) own started (by kernel_rfl) Try.func6
    (ChangeSpec.witness6 (enc := enc) (C := Try.checked) false ⟨#[], #[.agg #[.int .u8 0, .slice none 0 0], .int .i64 0, .int .u8 0], []⟩ 8 (by kernel_rfl) (by kernel_rfl) (by kernel_rfl) (by kernel_rfl)) ?_
  intro W base args ds gs before hval0 hW hcnd _
  have hval : ∀ (j : Nat) t v, Try.f6.params[j]? = some t → args[j]? = some v → Value.okWide Try.prog W .any base t v := hval0
  have hW' := hW
  obtain ⟨p, q, hA0, hV, rfl, hfz, hnd⟩ := hW
  have hA : DataW.TrodAll enc Try.prog W 0 (fun _ => true) true Try.f6.params.toList args.toList ds p := hA0
  rw [Try.params6] at hA hval
  obtain ⟨v0, vs0, d0, ds0, p0, q0, hargs, rfl, rfl, h0, r0⟩ := trodAll_cons hA
  obtain ⟨v1, vs1, d1, ds1, p1, q1, rfl, rfl, rfl, h1, r1⟩ := trodAll_cons r0
  obtain ⟨v2, vs2, d2, ds2, p2, q2, rfl, rfl, rfl, h2, r2⟩ := trodAll_cons r1
  obtain ⟨rfl, rfl, rfl⟩ := trodAll_nil r2
  obtain rfl : args = #[v0, v1, v2] := by cases args; simp_all
  obtain ⟨rfl, rfl⟩ := trodVars_none hV
  have k0 := h0
  obtain ⟨wk0, u0, hs0, rfl, wl0, wh0, si0⟩ := cal_open (hval 0 24 v0 rfl rfl) h0
  obtain ⟨a1, rfl, rfl, rfl, w1⟩ := open_int Try.underlying3 (hval 1 3 v1 rfl rfl) h1
  obtain ⟨a2, rfl, rfl, rfl, w2⟩ := open_int Try.underlying5 (hval 2 5 v2 rfl rfl) h2
  clear hA0 hval0
  have bd1 := bounds_i64 w1
  have bd2 := bounds_u8 w2
  refine (walk wk0 u0 hs0 a1 a2 W wl0 wh0 si0 bd1.1 bd1.2 bd2.1 bd2.2).mono fun e W' ⟨he, bel⟩ => ?_
  subst he
  exact ⟨_, rfl, _, _, _, [], _, [], hW', trodAll_mk1 (shut_bool Try.underlying4 _), (trodAll_cons_mk (arg_stays (by kernel_rfl) (of_decide_eq_true (by kernel_rfl)) k0 bel) (trodAll_cons_mk (shut_int Try.underlying3 w1) (trodAll_cons_mk (shut_int Try.underlying5 w2) trodAll_mk0))), rfl, bel.frame _, fun h => by cases h⟩

theorem over : Rows.calendarNearestRow.holds Try.pinned (OpenSpec.ofChange Rows.calendarNearestSpec) :=
  OpenClaim.holds_of_wide 6 Try.f6 rfl rfl rfl rfl rfl rfl rfl ⟨rfl, rfl, rfl, rfl, rfl⟩ rfl rfl rfl rfl rfl (by kernel_rfl) Try.func6 (by kernel_rfl)
    (of_decide_eq_true (by kernel_rfl)) (by unfold Func.isWrapper; first | (rw [if_pos (by decide +kernel)]; kernel_rfl) | (rw [if_neg (by decide +kernel)]; exact ⟨rfl, rfl⟩))
    (fun os started H enc _ => lifted os started H enc)

theorem proved : Rows.CalendarNearestSaid := over
#print axioms proved
