/- Words for a slice of ints that came in, and for calendars; the plain walk of calendar.Check. -/
import Derived.Test.YtmbbpimihnojeaaProg
import Derived.Test.YtmbbpimihnojeaaZcal
import Derived.Test.YtmbbpimihnojeaaMi
import Derived.WalkKit
import Derived.WalkSpells
import Derived.WalkLawsBesides
import Derived.Deep.DeepCutAuto
import Derived.Deep.QuietTactic
import Derived.BigQuiet
import Derived.Lib.Hide
namespace Go.Proofs.Ytmbbpimihnojeaa
open Go.RowKit

/-- The slice value v reads, in the world w, as these ints. -/
def SI (w : World) (v : Value) (zs : List Int) : Prop :=
  ∃ (A : Option Addr) (c : Nat), v = .slice A zs.length c ∧ zs.length ≤ c ∧ c ≤ maxLen ∧
    (0 < zs.length → ∃ b o, A = some ⟨b, o, none⟩ ∧ b < w.heap.size ∧ ∀ (i : Nat) (d : Int), zs[i]? = some d → w.cell? ⟨b, o + i, none⟩ = some (.int .i64 d))
section
variable {w w' : World} {v : Value} {zs : List Int}
theorem SI.below (h : SI w v zs) (hb : Below w.heap.size w w') : SI w' v zs := by
  obtain ⟨A, c, hv, h1, h2, h3⟩ := h
  refine ⟨A, c, hv, h1, h2, fun hp => ?_⟩
  obtain ⟨b, o, hA, hlt, hc⟩ := h3 hp
  exact ⟨b, o, hA, Nat.lt_of_lt_of_le hlt hb.size, fun i d hd => (hb.cell (p := ⟨b, o + i, none⟩) hlt).trans (hc i d hd)⟩
theorem SI.drewN (h : SI w v zs) (n : Nat) : SI (w.drewN n) v zs := h
theorem SI.alloc (h : SI w v zs) (o : Obj) : SI (w.alloc o) v zs := h.below ((Below.refl _ w).alloc (Nat.le_refl _) o)
theorem SI.nil_ : SI w (.slice none 0 0) [] := ⟨none, 0, rfl, Nat.le_refl _, Nat.zero_le _, fun h => absurd h (by simp)⟩
end
def prevAt (zs : List Int) : Nat → Option Int
  | 0 => none
  | k + 1 => zs[k]?
theorem asc_drop (zs : List Int) (k : Nat) (z : Int) (h : zs[k]? = some z) :
    Z.asc (prevAt zs k) (zs.drop k) = (Z.inR z && (match prevAt zs k with | none => true | some q => decide (q < z)) && Z.asc (prevAt zs (k + 1)) (zs.drop (k + 1))) := by
  obtain ⟨hlt, rfl⟩ := List.getElem?_eq_some_iff.1 h
  have e : prevAt zs (k + 1) = some zs[k] := h
  rw [e, List.drop_eq_getElem_cons hlt]
  rfl
theorem asc_end (zs : List Int) (p : Option Int) : Z.asc p (zs.drop zs.length) = true := by simp [Z.asc]

theorem cinside_any (n : Int) (w : World) :
    Calls Try.prog 28 #[.int .i64 n] w fun e w' => e = .returned (.bool (Z.inR n)) ∧ w = w' := by
  go_enter Try.func28, Try.ntmps28
  go_wp2_with fail
  all_goals (go_ret; refine ⟨ret_bool ?_, rfl⟩; rw [Bool.eq_iff_iff]; simp [Z.inR]; try omega)
def cerr (wk : Int) (hs : List Int) : Int := if Z.calB wk hs = true then 0 else 8
theorem cerr_big {wk : Int} {hs : List Int} (h : 127 ≤ wk) : cerr wk hs = 8 := by
  unfold cerr Z.calB
  rw [if_neg]
  simp; omega
theorem cerr_long {wk : Int} {hs : List Int} (h : (1000 : Int) < hs.length) : cerr wk hs = 8 := by
  unfold cerr Z.calB
  rw [if_neg]
  simp; omega
theorem cerr_asc {wk : Int} {hs : List Int} (h : ¬ 127 ≤ wk) (h2 : ¬ (1000 : Int) < hs.length) : cerr wk hs = if Z.asc none hs = true then 0 else 8 := by
  unfold cerr Z.calB
  rw [decide_eq_true (by omega), decide_eq_true (by omega)]
  simp
theorem calB_big {wk : Int} {hs : List Int} (h : 127 ≤ wk) : Z.calB wk hs = false := by
  unfold Z.calB
  simp; omega
theorem calB_long {wk : Int} {hs : List Int} (h : (1000 : Int) < hs.length) : Z.calB wk hs = false := by
  unfold Z.calB
  simp; omega
theorem calB_asc {wk : Int} {hs : List Int} (h : ¬ 127 ≤ wk) (h2 : ¬ (1000 : Int) < hs.length) : Z.calB wk hs = Z.asc none hs := by
  unfold Z.calB
  rw [decide_eq_true (by omega), decide_eq_true (by omega)]
  simp
set_option maxHeartbeats 800000 in
theorem ccheck_any (wk : Int) (v : Value) (hs : List Int) (w : World) (hSI : SI w v hs) :
    Calls Try.prog 25 #[.agg #[.int .u8 wk, v]] w fun e w' => e = .returned (.int .i64 (cerr wk hs)) ∧ Below w.heap.size w w' := by
  obtain ⟨A, c, rfl, hlc, hcm, hcell⟩ := hSI
  unfold maxLen at hcm
  have hbW : Below w.heap.size w (w.alloc (.cells #[.int .u8 wk, .slice A hs.length c] 24)) := (Below.refl _ w).alloc (Nat.le_refl _) _
  by_cases hw : 127 ≤ wk
  · go_enter Try.func25, Try.ntmps25
    go_wp2_with fail
    go_ret
    exact ⟨ret_int (cerr_big hw).symm, hbW⟩
  · by_cases hl : (1000 : Int) < hs.length
    · go_enter Try.func25, Try.ntmps25
      go_wp2_with fail
      go_ret
      exact ⟨ret_int (cerr_long hl).symm, hbW⟩
    · have HE := Lib.hid (cerr_asc hw hl)
      go_enter Try.func25, Try.ntmps25
      go_wp2_with fail
      have bC := Blk.new w 24 #[.int .u8 wk, .slice A hs.length c]
      have hC1 := bC.cell 1
      have hcell2 : ∀ (i : Nat) (d : Int), hs[i]? = some d → ∃ b o, A = some ⟨b, o, none⟩ ∧ (w.alloc (.cells #[.int .u8 wk, .slice A hs.length c] 24)).cell? ⟨b, o + i, none⟩ = some (.int .i64 d) ∧ ∀ (j : Nat) (x : Int), hs[j]? = some x → (w.alloc (.cells #[.int .u8 wk, .slice A hs.length c] 24)).cell? ⟨b, o + j, none⟩ = some (.int .i64 x) := by
        intro i d hd
        obtain ⟨b, o, hA, hlt, hc⟩ := hcell (by have := (List.getElem?_eq_some_iff.1 hd).1; omega)
        exact ⟨b, o, hA, (hbW.cell (p := ⟨b, o + i, none⟩) hlt).trans (hc i d hd), fun j x hx => (hbW.cell (p := ⟨b, o + j, none⟩) hlt).trans (hc j x hx)⟩
      clear bC hcell
      generalize (w.alloc (.cells #[.int .u8 wk, .slice A hs.length c] 24)) = W at *
      go_loop [17] (fun iv => ∃ k : Nat, k ≤ hs.length ∧ iv = .int .i64 k ∧ Hid (Z.asc none hs = Z.asc (prevAt hs k) (hs.drop k))) (fun iv => hs.length - (intOf iv).toNat)
      case atStart => exact ⟨0, by omega, rfl, Lib.hid rfl⟩
      case round =>
        obtain ⟨k, hk, rfl, HK⟩ := hrel
        by_cases hlt : k < hs.length
        · have hz : hs[k]? = some hs[k] := List.getElem?_eq_getElem hlt
          have hstep := asc_drop hs k hs[k] hz
          obtain ⟨b, o, rfl, hck, hcj⟩ := hcell2 k hs[k] hz
          generalize hs[k] = z at *
          cases k with
          | zero =>
            have HS := Lib.hid hstep
            simp only [Nat.add_zero] at hck
            clear hstep hz hcj hcell2
            cases hin : Z.inR z
            · go_wp2_with fail
              refine (cinside_any _ _).mono ?_
              rintro e w2 ⟨rfl, rfl⟩
              rw [hin]
              go_wp2_with fail
              go_ret
              refine ⟨ret_int ?_, hbW⟩
              rw [HE.out, HK.out, HS.out, hin]; rfl
            · go_wp2_with fail
              refine (cinside_any _ _).mono ?_
              rintro e w2 ⟨rfl, rfl⟩
              rw [hin]
              go_wp2_with fail
              go_round
              case rel => exact ⟨1, by omega, by go_num, Lib.hid (by rw [HK.out, HS.out, hin]; rfl)⟩
              case measure => simp [intOf]; omega
          | succ j =>
            have hp : hs[j]? = some hs[j] := List.getElem?_eq_getElem (by omega)
            have hcp := hcj j _ hp
            have hpv : prevAt hs (j + 1) = some hs[j] := hp
            generalize hs[j] = q at *
            rw [hpv] at hstep
            have HS := Lib.hid hstep
            have HPV := Lib.hid hpv
            clear hstep hz hcj hcell2 hp hpv
            cases hin : Z.inR z
            · go_wp2_with fail
              refine (cinside_any _ _).mono ?_
              rintro e w2 ⟨rfl, rfl⟩
              rw [hin]
              go_wp2_with fail
              go_ret
              refine ⟨ret_int ?_, hbW⟩
              rw [HE.out, HK.out, HPV.out, HS.out, hin]; rfl
            · by_cases hqz : q < z
              · go_wp2_with fail
                refine (cinside_any _ _).mono ?_
                rintro e w2 ⟨rfl, rfl⟩
                rw [hin]
                go_wp2_with fail
                go_round
                case rel => exact ⟨j + 1 + 1, by omega, by go_num, Lib.hid (by rw [HK.out, HPV.out, HS.out, hin, decide_eq_true hqz]; rfl)⟩
                case measure => simp [intOf]; omega
              · go_wp2_with fail
                refine (cinside_any _ _).mono ?_
                rintro e w2 ⟨rfl, rfl⟩
                rw [hin]
                go_wp2_with fail
                go_ret
                refine ⟨ret_int ?_, hbW⟩
                rw [HE.out, HK.out, HPV.out, HS.out, hin, decide_eq_false (Int.not_lt.2 hqz)]; rfl
        · obtain rfl : k = hs.length := by omega
          clear hcell2
          go_wp2_with fail
          go_ret
          refine ⟨ret_int ?_, hbW⟩
          rw [HE.out, HK.out, asc_end]; rfl
end Go.Proofs.Ytmbbpimihnojeaa
