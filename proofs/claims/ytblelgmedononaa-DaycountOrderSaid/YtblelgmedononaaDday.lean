/- Walks: daycount.Days and its reference. -/
import Derived.Test.YtblelgmedononaaDref
import Derived.Laws.EntriesVeiled
namespace Go.Proofs.Ytblelgmedononaa
open Go.RowKit

theorem inside_any (n : Int) (w : World) :
    Calls Try.prog 23 #[.int .i64 n] w fun e w' => e = .returned (.bool (Z.inR n)) ∧ w = w' := by
  go_enter Try.func23, Try.ntmps23
  go_wp2_with fail
  all_goals (go_ret; refine ⟨ret_bool ?_, rfl⟩; rw [Bool.eq_iff_iff]; unfold Z.inR; simp; try omega)
theorem actual_any (a b : Int) (w : World) (h : -100000 ≤ b - a ∧ b - a ≤ 100000) :
    Calls Try.prog 40 #[.int .i64 a, .int .i64 b] w fun e w' => e = .returned (.int .i64 (b - a)) ∧ w = w' := by
  go_enter Try.func40, Try.ntmps40
  go_wp2_with fail
  go_ret
  exact ⟨rfl, rfl⟩
set_option maxHeartbeats 400000 in
theorem thirty1_any (a b : Int) (bond : Bool) (B : Nat) (w : World) (ha0 : 0 ≤ a) (ha1 : a ≤ 99999) (hb0 : 0 ≤ b) (hb1 : b ≤ 99999) (hB : B < w.heap.size) (hc : w.cell? ⟨B, 0, none⟩ = some (.bool bond)) :
    Calls Try.prog 64 #[.int .i64 a, .int .i64 b, .pointer (some ⟨B, 0, none⟩)] w fun e w' => e = .returned (.int .i64 (Z.thirty bond a b)) ∧ Below w.heap.size w w' := by
  go_enter Try.func64, Try.ntmps64
  go_wp2_with fail
  refine (parts_any _ _ ha0 ha1).mono ?_
  rintro e w1 ⟨y, m, d, hA, rfl, hbl1⟩
  go_wp2_with fail
  refine (parts_any _ _ hb0 hb1).mono ?_
  rintro e w2 ⟨p, q, r, hK, rfl, hbl2⟩
  have hbl := hbl1.trans (hbl2.mono hbl1.size)
  have hc2 : w2.cell? ⟨B, 0, none⟩ = some (.bool bond) := (hbl.cell (p := ⟨B, 0, none⟩) hB).trans hc
  have hA1 := hA.y0; have hA2 := hA.y1; have hA3 := hA.m0; have hA4 := hA.m1; have hA5 := hA.d0; have hA6 := hA.d1
  have hK1 := hK.y0; have hK2 := hK.y1; have hK3 := hK.m0; have hK4 := hK.m1; have hK5 := hK.d0; have hK6 := hK.d1
  have hl1 := (Z.len_ge y m).2; have hl2 := (Z.len_ge p q).2
  have ht : Z.thirty bond a b = Z.th bond y m d p q r := by unfold Z.thirty; rw [hA.pts, hK.pts]
  have HT := Lib.hid ht
  have HA := Lib.hid hA
  have HK := Lib.hid hK
  clear hA hK ht hc
  have hd : d ≤ 31 := by omega
  have hr : r ≤ 31 := by omega
  clear hA6 hK6 hl1 hl2
  cases bond
  · go_wp2_with fail
    all_goals (go_ret; refine ⟨ret_int ?_, hbl⟩; rw [HT.out]; clear HT HA HK hc2; unfold Z.th; simp only [true_or, if_true]; omega)
  · go_wp2_with fail
    all_goals (go_ret; refine ⟨ret_int ?_, hbl⟩; rw [HT.out]; clear HT HA HK hc2; unfold Z.th; simp only [beq_iff_eq, beq_eq_false_iff_ne, ne_eq] at *; simp only [Bool.true_eq_false, false_or]; split <;> omega)
theorem thirty_any (bond : Bool) (w : World) :
    Calls Try.prog 41 #[.bool bond] w fun e w' => e = .returned (.func (.func 64) #[] #[.pointer (some ⟨w.heap.size, 0, none⟩)]) ∧ w' = w.alloc (.cells #[.bool bond] 4) := by
  have hmf : ∀ (fn : Fn) (first cap : Array Value) (w : World), (Instr.makeFunc fn first cap).run Try.prog w = .ok (.func fn first cap) w := fun _ _ _ _ => rfl
  go_enter Try.func41, Try.ntmps41
  go_wp2_with fail
  go_ret
  exact ⟨rfl, rfl⟩
def acV : Value := .func (.func 40) #[] #[]
def thV (B : Nat) : Value := .func (.func 64) #[] #[.pointer (some ⟨B, 0, none⟩)]
def RulesRet (w : World) (e : Ending) (w' : World) : Prop := ∃ B C, e = .returned (.agg #[acV, acV, thV B, acV, thV C]) ∧ Below w.heap.size w w' ∧ B < w'.heap.size ∧ C < w'.heap.size ∧ w'.cell? ⟨B, 0, none⟩ = some (.bool false) ∧ w'.cell? ⟨C, 0, none⟩ = some (.bool true)
theorem rules_any (w : World) : Calls Try.prog 22 #[] w (RulesRet w) := by
  go_enter Try.func22, Try.ntmps22
  go_wp2_with fail
  refine (thirty_any _ _).mono ?_
  rintro e w1 ⟨rfl, rfl⟩
  go_wp2_with fail
  refine (thirty_any _ _).mono ?_
  rintro e w1 ⟨rfl, rfl⟩
  go_wp2_with fail
  exact bodyPost_ret (v := .agg #[acV, acV, thV (w.heap.size + 1), acV, thV (w.heap.size + 1 + 1)]) (by simp [results, Try.results22, go_sem, acV, thV]) rfl
    ⟨_, _, rfl, (((Below.refl _ w).alloc (Nat.le_refl _) _).alloc (by simp) _).alloc (by simp; omega) _, by simp, by simp, by simp [go_sem], by simp [go_sem]⟩

def DaysRet (rule a b : Int) (w : World) (e : Ending) (w' : World) : Prop := e = .returned (.tuple #[.int .i64 (Z.days rule a b).1, .int .i64 (Z.days rule a b).2]) ∧ Below w.heap.size w w'
theorem days_no {rule a b : Int} {w w' : World} (h : ¬ (rule ≤ 4 ∧ Z.inR a = true ∧ Z.inR b = true)) (hb : Below w.heap.size w w') : DaysRet rule a b w (.returned (.tuple #[.int .i64 0, .int .i64 2])) w' := by
  unfold DaysRet Z.days
  rw [if_neg h]
  exact ⟨rfl, hb⟩
theorem days_yes {rule a b n : Int} {w w' : World} (h : rule ≤ 4) (ha : Z.inR a = true) (hb : Z.inR b = true) (hn : n = if b < a then - Z.ruled rule b a else Z.ruled rule a b) (hbl : Below w.heap.size w w') : DaysRet rule a b w (.returned (.tuple #[.int .i64 n, .int .i64 0])) w' := by
  unfold DaysRet Z.days
  rw [if_pos ⟨h, ha, hb⟩]
  exact ⟨by rw [hn], hbl⟩
theorem inR_iff (a : Int) : Z.inR a = true ↔ 0 ≤ a ∧ a ≤ 99999 := by unfold Z.inR; simp
theorem thirty_bounds (bond : Bool) (a b : Int) (ha : Z.inR a = true) (hb : Z.inR b = true) : -200000 ≤ Z.thirty bond a b ∧ Z.thirty bond a b ≤ 200000 := by
  rw [inR_iff] at ha hb
  obtain ⟨y, m, d, h⟩ := Z.dt_of ha.1 ha.2
  obtain ⟨p, q, r, k⟩ := Z.dt_of hb.1 hb.2
  unfold Z.thirty
  rw [h.pts, k.pts]
  exact Z.th_bounds h k
set_option maxHeartbeats 800000 in
theorem days_any (rule a b : Int) (w : World) (hr0 : 0 ≤ rule) (hr1 : rule ≤ 255) :
    Calls Try.prog 10 #[.int .u8 rule, .int .i64 a, .int .i64 b] w (DaysRet rule a b w) := by
  go_enter Try.func10, Try.ntmps10
  go_wp2_with fail
  refine (rules_any _).mono ?_
  rintro e w1 ⟨B, C, rfl, hbl, hB, hC, hcB, hcC⟩
  unfold acV thV
  have hbA := hbl.alloc hbl.size (.cells #[.func (.func 40) #[] #[], .func (.func 40) #[] #[], .func (.func 64) #[] #[.pointer (some ⟨B, 0, none⟩)], .func (.func 40) #[] #[], .func (.func 64) #[] #[.pointer (some ⟨C, 0, none⟩)]] 45)
  by_cases h5 : 5 ≤ rule
  · go_wp2_with fail
    go_ret2
    exact days_no (by omega) hbA
  · cases ha : Z.inR a
    · go_wp2_with fail
      refine (inside_any _ _).mono ?_
      rintro e w2 ⟨rfl, rfl⟩
      rw [ha]
      go_wp2_with fail
      go_ret2
      exact days_no (by simp [ha]) hbA
    · go_wp2_with fail
      refine (inside_any _ _).mono ?_
      rintro e w2 ⟨rfl, rfl⟩
      rw [ha]
      cases hb : Z.inR b
      · go_wp2_with fail
        refine (inside_any _ _).mono ?_
        rintro e w2 ⟨rfl, rfl⟩
        rw [hb]
        go_wp2_with fail
        go_ret2
        exact days_no (by simp [hb]) hbA
      · go_wp2_with fail
        refine (inside_any _ _).mono ?_
        rintro e w2 ⟨rfl, rfl⟩
        rw [hb]
        have ha1 := (inR_iff a).1 ha
        have hb1 := (inR_iff b).1 hb
        have hk : rule = 0 ∨ rule = 1 ∨ rule = 2 ∨ rule = 3 ∨ rule = 4 := by omega
        clear hr0 hr1 h5
        by_cases hlt : b < a
        · rcases hk with rfl | rfl | rfl | rfl | rfl
          · go_wp2_with fail
            refine (actual_any b a _ (by omega)).mono ?_
            rintro e w2 ⟨rfl, rfl⟩
            go_wp2_with fail
            go_ret2
            exact days_yes (by omega) ha hb (by rw [if_pos (by omega)]; simp [Z.ruled]) hbA
          · go_wp2_with fail
            refine (actual_any b a _ (by omega)).mono ?_
            rintro e w2 ⟨rfl, rfl⟩
            go_wp2_with fail
            go_ret2
            exact days_yes (by omega) ha hb (by rw [if_pos (by omega)]; simp [Z.ruled]) hbA
          · have htb := thirty_bounds false b a hb ha
            go_wp2_with fail
            refine (thirty1_any b a false B _ hb1.1 hb1.2 ha1.1 ha1.2 (by simp; omega) ((World.cell?_alloc_past (w := w1) _ _ 0 hB).trans hcB)).mono ?_
            rintro e w2 ⟨rfl, hb2⟩
            go_wp2_with fail
            go_ret2
            exact days_yes (by omega) ha hb (by rw [if_pos (by omega)]; simp [Z.ruled]) (hbA.trans (hb2.mono hbA.size))
          · go_wp2_with fail
            refine (actual_any b a _ (by omega)).mono ?_
            rintro e w2 ⟨rfl, rfl⟩
            go_wp2_with fail
            go_ret2
            exact days_yes (by omega) ha hb (by rw [if_pos (by omega)]; simp [Z.ruled]) hbA
          · have htb := thirty_bounds true b a hb ha
            go_wp2_with fail
            refine (thirty1_any b a true C _ hb1.1 hb1.2 ha1.1 ha1.2 (by simp; omega) ((World.cell?_alloc_past (w := w1) _ _ 0 hC).trans hcC)).mono ?_
            rintro e w2 ⟨rfl, hb2⟩
            go_wp2_with fail
            go_ret2
            exact days_yes (by omega) ha hb (by rw [if_pos (by omega)]; simp [Z.ruled]) (hbA.trans (hb2.mono hbA.size))
        · rcases hk with rfl | rfl | rfl | rfl | rfl
          · go_wp2_with fail
            refine (actual_any a b _ (by omega)).mono ?_
            rintro e w2 ⟨rfl, rfl⟩
            go_wp2_with fail
            go_ret2
            exact days_yes (by omega) ha hb (by rw [if_neg (by omega)]; simp [Z.ruled]) hbA
          · go_wp2_with fail
            refine (actual_any a b _ (by omega)).mono ?_
            rintro e w2 ⟨rfl, rfl⟩
            go_wp2_with fail
            go_ret2
            exact days_yes (by omega) ha hb (by rw [if_neg (by omega)]; simp [Z.ruled]) hbA
          · have htb := thirty_bounds false a b ha hb
            go_wp2_with fail
            refine (thirty1_any a b false B _ ha1.1 ha1.2 hb1.1 hb1.2 (by simp; omega) ((World.cell?_alloc_past (w := w1) _ _ 0 hB).trans hcB)).mono ?_
            rintro e w2 ⟨rfl, hb2⟩
            go_wp2_with fail
            go_ret2
            exact days_yes (by omega) ha hb (by rw [if_neg (by omega)]; simp [Z.ruled]) (hbA.trans (hb2.mono hbA.size))
          · go_wp2_with fail
            refine (actual_any a b _ (by omega)).mono ?_
            rintro e w2 ⟨rfl, rfl⟩
            go_wp2_with fail
            go_ret2
            exact days_yes (by omega) ha hb (by rw [if_neg (by omega)]; simp [Z.ruled]) hbA
          · have htb := thirty_bounds true a b ha hb
            go_wp2_with fail
            refine (thirty1_any a b true C _ ha1.1 ha1.2 hb1.1 hb1.2 (by simp; omega) ((World.cell?_alloc_past (w := w1) _ _ 0 hC).trans hcC)).mono ?_
            rintro e w2 ⟨rfl, hb2⟩
            go_wp2_with fail
            go_ret2
            exact days_yes (by omega) ha hb (by rw [if_neg (by omega)]; simp [Z.ruled]) (hbA.trans (hb2.mono hbA.size))
end Go.Proofs.Ytblelgmedononaa
