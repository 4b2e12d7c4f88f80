/- Walks: calendar.same, Roll, Add, Business. -/
import Derived.Test.YtmbbpimihnojeaaCcount
import Derived.Test.YtmbbpimihnojeaaDprg
namespace Go.Proofs.Ytmbbpimihnojeaa
open Go.RowKit

theorem sameM_mk {a b y m d p q r : Int} (h : Z.Dt a y m d) (k : Z.Dt b p q r) : Z.sameM a b = ((y == p) && (m == q)) := by
  unfold Z.sameM
  rw [h.pts, k.pts]
theorem csame_any (a b : Int) (w : World) (ha : 0 ≤ a) (ha1 : a ≤ 99999) (hb : 0 ≤ b) (hb1 : b ≤ 99999) :
    Calls Try.prog 35 #[.int .i64 a, .int .i64 b] w fun e w' => e = .returned (.bool (Z.sameM a b)) ∧ Below w.heap.size w w' := by
  go_enter Try.func35, Try.ntmps35
  go_wp2_with fail
  refine (parts_any _ _ ha ha1).mono ?_
  rintro e w1 ⟨y, m, d, hA, rfl, hbl1⟩
  go_wp2_with fail
  refine (parts_any _ _ hb hb1).mono ?_
  rintro e w2 ⟨p, q, r, hK, rfl, hbl2⟩
  have hbl := hbl1.trans (hbl2.mono hbl1.size)
  have HS := Lib.hid (sameM_mk hA hK)
  clear hA hK hbl1 hbl2
  go_wp2_with fail
  all_goals (go_ret; refine ⟨ret_bool ?_, hbl⟩; rw [HS.out]; simp [*])

def Ret2 (x : Int × Int) (w : World) (e : Ending) (w' : World) : Prop := e = .returned (.tuple #[.int .i64 x.1, .int .i64 x.2]) ∧ Below w.heap.size w w'
theorem Ret2.mk {x : Int × Int} {w w' : World} {a b : Int} (h : x = (a, b)) (hb : Below w.heap.size w w') : Ret2 x w (.returned (.tuple #[.int .i64 a, .int .i64 b])) w' := by
  subst h; exact ⟨rfl, hb⟩
theorem add_bad {wk : Int} {hs : List Int} {day n : Int} (h : Z.calB wk hs = false) : Z.add wk hs day n = (0, 8) := by unfold Z.add; rw [if_pos h]
theorem add_arg {wk : Int} {hs : List Int} {day n : Int} (h : Z.calB wk hs = true) (h2 : Z.inR day = false ∨ n < -99999 ∨ 99999 < n) : Z.add wk hs day n = (0, 2) := by
  unfold Z.add; rw [if_neg (by simp [h]), if_pos h2]
theorem add_ok {wk : Int} {hs : List Int} {day n : Int} (h : Z.calB wk hs = true) (h2 : Z.inR day = true) (h3 : -99999 ≤ n) (h4 : n ≤ 99999) : Z.add wk hs day n = Z.addS (Z.opn wk hs) day n := by
  unfold Z.add; rw [if_neg (by simp [h]), if_neg (by simp [h2]; omega)]
set_option maxHeartbeats 800000 in
theorem cadd_any (wk : Int) (v : Value) (hs : List Int) (day n : Int) (w : World) (hSI : SI w v hs) (hk0 : 0 ≤ wk) :
    Calls Try.prog 12 #[.agg #[.int .u8 wk, v], .int .i64 day, .int .i64 n] w (Ret2 (Z.add wk hs day n) w) := by
  go_enter Try.func12, Try.ntmps12
  go_wp2_with fail
  have hbA : Below w.heap.size w (w.alloc (.cells #[.int .u8 wk, v] 24)) := (Below.refl _ w).alloc (Nat.le_refl _) _
  refine (ccheck_any wk v hs _ (hSI.below hbA)).mono ?_
  rintro e W1 ⟨rfl, hb1⟩
  have hb1' := hbA.trans (hb1.mono (by simp))
  have bc := (Blk.new w 24 #[.int .u8 wk, v]).below hb1
  have hSI1 := hSI.below hb1'
  clear hb1 hbA
  cases hk : Z.calB wk hs
  · rw [cerr_no hk]
    go_wp2_with fail
    go_ret2
    exact .mk (add_bad hk) hb1'
  · rw [cerr_yes hk]
    have HK := Lib.hid hk
    clear hk
    have c0 := bc.cell 0
    have c1 := bc.cell 1
    go_wp2_with fail
    refine (cinside_any _ _).mono ?_
    rintro e w2 ⟨rfl, rfl⟩
    cases hd : Z.inR day
    · go_wp2_with fail
      go_ret2
      exact .mk (add_arg HK.out (.inl hd)) hb1'
    · have hdr := (inR_iff day).1 hd
      have HD := Lib.hid hd
      clear hd
      by_cases h1 : n < -99999
      · go_wp2_with fail
        go_ret2
        exact .mk (add_arg HK.out (.inr (.inl h1))) hb1'
      · by_cases h2 : 99999 < n
        · go_wp2_with fail
          go_ret2
          exact .mk (add_arg HK.out (.inr (.inr h2))) hb1'
        · have HO := Lib.hid (add_ok HK.out HD.out (by omega) (by omega) : Z.add wk hs day n = Z.addS (Z.opn wk hs) day n)
          by_cases h3 : 0 < n
          · go_wp2_with fail
            refine (nth_any wk v hs (day + 1) 1 n _ hSI1 HK.out hk0 (.inl rfl) (fun _ => by omega) (fun h => by omega) (by omega) (by omega)).mono ?_
            rintro e w2 ⟨rfl, hb2⟩
            go_wp2_with fail
            go_ret2
            exact .mk (by rw [HO.out]; unfold Z.addS; rw [if_pos h3]) (hb1'.trans (hb2.mono hb1'.size))
          · by_cases h4 : n < 0
            · go_wp2_with fail
              refine (nth_any wk v hs (day - 1) (-1) (-n) _ hSI1 HK.out hk0 (.inr rfl) (fun h => by omega) (fun h => by omega) (by omega) (by omega)).mono ?_
              rintro e w2 ⟨rfl, hb2⟩
              go_wp2_with fail
              go_ret2
              exact .mk (by rw [HO.out]; unfold Z.addS; rw [if_neg (by omega), if_pos h4]) (hb1'.trans (hb2.mono hb1'.size))
            · go_wp2_with fail
              refine (nth_any wk v hs day 1 1 _ hSI1 HK.out hk0 (.inl rfl) (fun _ => by omega) (fun h => by omega) (by omega) (by omega)).mono ?_
              rintro e w2 ⟨rfl, hb2⟩
              go_wp2_with fail
              go_ret2
              exact .mk (by rw [HO.out]; unfold Z.addS; rw [if_neg (by omega), if_neg (by omega)]) (hb1'.trans (hb2.mono hb1'.size))

def RetB (x : Bool × Int) (w : World) (e : Ending) (w' : World) : Prop := e = .returned (.tuple #[.bool x.1, .int .i64 x.2]) ∧ Below w.heap.size w w'
theorem RetB.mk {x : Bool × Int} {w w' : World} {a : Bool} {b : Int} (h : x = (a, b)) (hb : Below w.heap.size w w') : RetB x w (.returned (.tuple #[.bool a, .int .i64 b])) w' := by
  subst h; exact ⟨rfl, hb⟩
theorem business_bad {wk : Int} {hs : List Int} {day : Int} (h : Z.calB wk hs = false) : Z.business wk hs day = (false, 8) := by unfold Z.business; rw [if_pos h]
theorem business_arg {wk : Int} {hs : List Int} {day : Int} (h : Z.calB wk hs = true) (h2 : Z.inR day = false) : Z.business wk hs day = (false, 2) := by
  unfold Z.business; rw [if_neg (by simp [h]), if_pos h2]
theorem business_ok {wk : Int} {hs : List Int} {day : Int} (h : Z.calB wk hs = true) (h2 : Z.inR day = true) : Z.business wk hs day = (Z.opn wk hs day, 0) := by
  unfold Z.business; rw [if_neg (by simp [h]), if_neg (by simp [h2])]
set_option maxHeartbeats 400000 in
theorem cbusiness_any (wk : Int) (v : Value) (hs : List Int) (day : Int) (w : World) (hSI : SI w v hs) (hk0 : 0 ≤ wk) :
    Calls Try.prog 19 #[.agg #[.int .u8 wk, v], .int .i64 day] w (RetB (Z.business wk hs day) w) := by
  go_enter Try.func19, Try.ntmps19
  go_wp2_with fail
  have hbA : Below w.heap.size w (w.alloc (.cells #[.int .u8 wk, v] 24)) := (Below.refl _ w).alloc (Nat.le_refl _) _
  refine (ccheck_any wk v hs _ (hSI.below hbA)).mono ?_
  rintro e W1 ⟨rfl, hb1⟩
  have hb1' := hbA.trans (hb1.mono (by simp))
  have bc := (Blk.new w 24 #[.int .u8 wk, v]).below hb1
  have hSI1 := hSI.below hb1'
  clear hb1 hbA
  cases hk : Z.calB wk hs
  · rw [cerr_no hk]
    go_wp2_with fail
    go_ret2
    exact .mk (business_bad hk) hb1'
  · rw [cerr_yes hk]
    have HK := Lib.hid hk
    clear hk
    have c0 := bc.cell 0
    have c1 := bc.cell 1
    go_wp2_with fail
    refine (cinside_any _ _).mono ?_
    rintro e w2 ⟨rfl, rfl⟩
    cases hd : Z.inR day
    · go_wp2_with fail
      go_ret2
      exact .mk (business_arg HK.out hd) hb1'
    · have hdr := (inR_iff day).1 hd
      have HD := Lib.hid hd
      clear hd
      go_wp2_with fail
      refine (open_any _ _ _).mono ?_
      rintro e w2 ⟨rfl, rfl⟩
      go_wp2_with fail
      refine (open1_any wk v hs day W1.heap.size _ (Blk.new _ _ _) (hSI1.alloc _) HK.out hk0 hdr.1 hdr.2).mono ?_
      rintro e w2 ⟨rfl, q, rfl⟩
      go_wp2_with fail
      go_ret2
      exact .mk (business_ok HK.out HD.out) ((hb1'.alloc hb1'.size _).trans (below_of_drewN _ _ _))

theorem nth_two {P : Int → Bool} {a s : Int} (hs : s = 1 ∨ s = -1) (ha : 0 ≤ a) (ha2 : a ≤ 99999) : (∃ d, Z.nth P a s 1 = (d, 0) ∧ 0 ≤ d ∧ d ≤ 99999) ∨ Z.nth P a s 1 = (0, 40) := by
  rcases hs with rfl | rfl
  · rcases Z.nth_up (P := P) a 1 ha (by omega) with ⟨d, h1, h2, h3, _⟩ | ⟨h1, _⟩
    · exact .inl ⟨d, h1, by omega, h3⟩
    · exact .inr h1
  · rcases Z.nth_down (P := P) a 1 (by omega) ha2 (by omega) with ⟨d, h1, h2, h3, _⟩ | ⟨h1, _⟩
    · exact .inl ⟨d, h1, by omega, by omega⟩
    · exact .inr h1
theorem roll_bad {wk : Int} {hs : List Int} {day r : Int} (h : Z.calB wk hs = false) : Z.roll wk hs day r = (0, 8) := by unfold Z.roll; rw [if_pos h]
theorem roll_arg {wk : Int} {hs : List Int} {day r : Int} (h : Z.calB wk hs = true) (h2 : Z.inR day = false ∨ 4 < r) : Z.roll wk hs day r = (0, 2) := by
  unfold Z.roll; rw [if_neg (by simp [h]), if_pos h2]
theorem roll_ok {wk : Int} {hs : List Int} {day r : Int} (h : Z.calB wk hs = true) (h2 : Z.inR day = true) (h3 : r ≤ 4) : Z.roll wk hs day r = Z.rollS (Z.opn wk hs) day r := by
  unfold Z.roll; rw [if_neg (by simp [h]), if_neg (by simp [h2]; omega)]
theorem rollS_0 {P : Int → Bool} {day : Int} : Z.rollS P day 0 = (day, 0) := rfl
theorem rollS_1 {P : Int → Bool} {day : Int} : Z.rollS P day 1 = Z.nth P day 1 1 := rfl
theorem rollS_2 {P : Int → Bool} {day : Int} : Z.rollS P day 2 = Z.nth P day (-1) 1 := rfl
theorem rollS_3 {P : Int → Bool} {day : Int} : Z.rollS P day 3 = (if (Z.nth P day 1 1).2 = 0 ∧ Z.sameM (Z.nth P day 1 1).1 day = true then Z.nth P day 1 1 else Z.nth P day (-1) 1) := rfl
theorem rollS_4 {P : Int → Bool} {day : Int} : Z.rollS P day 4 = (if (Z.nth P day (-1) 1).2 = 0 ∧ Z.sameM (Z.nth P day (-1) 1).1 day = true then Z.nth P day (-1) 1 else Z.nth P day 1 1) := rfl
theorem rollS_3a {P : Int → Bool} {day d : Int} (h : Z.nth P day 1 1 = (d, 0)) (hs : Z.sameM d day = true) : Z.rollS P day 3 = (d, 0) := by rw [rollS_3, h, if_pos ⟨rfl, hs⟩]
theorem rollS_3b {P : Int → Bool} {day d : Int} (h : Z.nth P day 1 1 = (d, 0)) (hs : Z.sameM d day = false) : Z.rollS P day 3 = Z.nth P day (-1) 1 := by rw [rollS_3, h, if_neg (by simp [hs])]
theorem rollS_3c {P : Int → Bool} {day : Int} (h : Z.nth P day 1 1 = (0, 40)) : Z.rollS P day 3 = Z.nth P day (-1) 1 := by rw [rollS_3, h, if_neg (by simp)]
theorem rollS_4a {P : Int → Bool} {day d : Int} (h : Z.nth P day (-1) 1 = (d, 0)) (hs : Z.sameM d day = true) : Z.rollS P day 4 = (d, 0) := by rw [rollS_4, h, if_pos ⟨rfl, hs⟩]
theorem rollS_4b {P : Int → Bool} {day d : Int} (h : Z.nth P day (-1) 1 = (d, 0)) (hs : Z.sameM d day = false) : Z.rollS P day 4 = Z.nth P day 1 1 := by rw [rollS_4, h, if_neg (by simp [hs])]
theorem rollS_4c {P : Int → Bool} {day : Int} (h : Z.nth P day (-1) 1 = (0, 40)) : Z.rollS P day 4 = Z.nth P day 1 1 := by rw [rollS_4, h, if_neg (by simp)]
set_option maxHeartbeats 1000000 in
theorem croll_any (wk : Int) (v : Value) (hs : List Int) (day r : Int) (w : World) (hSI : SI w v hs) (hk0 : 0 ≤ wk) (hr0 : 0 ≤ r) :
    Calls Try.prog 16 #[.agg #[.int .u8 wk, v], .int .i64 day, .int .u8 r] w (Ret2 (Z.roll wk hs day r) w) := by
  go_enter Try.func16, Try.ntmps16
  go_wp2_with fail
  have hbA : Below w.heap.size w (w.alloc (.cells #[.int .u8 wk, v] 24)) := (Below.refl _ w).alloc (Nat.le_refl _) _
  refine (ccheck_any wk v hs _ (hSI.below hbA)).mono ?_
  rintro e W1 ⟨rfl, hb1⟩
  have hb1' := hbA.trans (hb1.mono (by simp))
  have bc := (Blk.new w 24 #[.int .u8 wk, v]).below hb1
  have hSI1 := hSI.below hb1'
  clear hb1 hbA
  cases hk : Z.calB wk hs
  · rw [cerr_no hk]
    go_wp2_with fail
    go_ret2
    exact .mk (roll_bad hk) hb1'
  · rw [cerr_yes hk]
    have HK := Lib.hid hk
    clear hk
    have c0 := bc.cell 0
    have c1 := bc.cell 1
    go_wp2_with fail
    refine (cinside_any _ _).mono ?_
    rintro e w2 ⟨rfl, rfl⟩
    cases hd : Z.inR day
    · go_wp2_with fail
      go_ret2
      exact .mk (roll_arg HK.out (.inl hd)) hb1'
    · have hdr := (inR_iff day).1 hd
      have HD := Lib.hid hd
      clear hd
      by_cases h1 : 4 < r
      · go_wp2_with fail
        go_ret2
        exact .mk (roll_arg HK.out (.inr h1)) hb1'
      · have HO := Lib.hid (roll_ok HK.out HD.out (by omega) : Z.roll wk hs day r = Z.rollS (Z.opn wk hs) day r)
        have hr : r = 0 ∨ r = 1 ∨ r = 2 ∨ r = 3 ∨ r = 4 := by omega
        have hN : ∀ (s : Int) (W : World), (s = 1 ∨ s = -1) → Below w.heap.size w W → Calls Try.prog 29 #[.agg #[.int .u8 wk, v], .int .i64 day, .int .i64 s, .int .i64 1] W fun e w' => e = .returned (.tuple #[.int .i64 (Z.nth (Z.opn wk hs) day s 1).1, .int .i64 (Z.nth (Z.opn wk hs) day s 1).2]) ∧ Below W.heap.size W w' :=
          fun s W hs1 hW => nth_any wk v hs day s 1 W (hSI.below hW) HK.out hk0 hs1 (fun _ => by omega) (fun _ => by omega) (by omega) (by omega)
        have HN := Lib.hid hN
        clear hN hr0 h1
        rcases hr with rfl | rfl | rfl | rfl | rfl
        · go_wp2_with fail
          go_ret2
          exact .mk HO.out hb1'
        · go_wp2_with fail
          refine (HN.out 1 _ (.inl rfl) hb1').mono ?_
          rintro e w2 ⟨rfl, hb2⟩
          go_wp2_with fail
          go_ret2
          exact .mk HO.out (hb1'.trans (hb2.mono hb1'.size))
        · go_wp2_with fail
          refine (HN.out (-1) _ (.inr rfl) hb1').mono ?_
          rintro e w2 ⟨rfl, hb2⟩
          go_wp2_with fail
          go_ret2
          exact .mk HO.out (hb1'.trans (hb2.mono hb1'.size))
        · go_wp2_with fail
          refine (HN.out 1 _ (.inl rfl) hb1').mono ?_
          rintro e w2 ⟨rfl, hb2⟩
          have hbb := hb1'.trans (hb2.mono hb1'.size)
          have bc2 := bc.below hb2
          have d0 := bc2.cell 0
          have d1 := bc2.cell 1
          clear hb2
          rcases nth_two (P := Z.opn wk hs) (a := day) (s := 1) (.inl rfl) hdr.1 hdr.2 with ⟨d, hn, hd0, hd1⟩ | hn
          · rw [hn]
            have HQ := Lib.hid hn
            clear hn
            go_wp2_with fail
            refine (csame_any d day _ hd0 hd1 hdr.1 hdr.2).mono ?_
            rintro e w3 ⟨rfl, hb3⟩
            have hbc := hbb.trans (hb3.mono hbb.size)
            have bc3 := bc2.below hb3
            have e0 := bc3.cell 0
            have e1 := bc3.cell 1
            cases hs : Z.sameM d day
            · have HS := Lib.hid hs
              clear hs
              go_wp2_with fail
              refine (HN.out (-1) _ (.inr rfl) hbc).mono ?_
              rintro e w4 ⟨rfl, hb4⟩
              go_wp2_with fail
              go_ret2
              exact .mk (HO.out.trans (rollS_3b HQ.out HS.out)) (hbc.trans (hb4.mono hbc.size))
            · have HS := Lib.hid hs
              clear hs
              go_wp2_with fail
              go_ret2
              exact .mk (HO.out.trans (rollS_3a HQ.out HS.out)) hbc
          · rw [hn]
            have HQ := Lib.hid hn
            clear hn
            go_wp2_with fail
            refine (HN.out (-1) _ (.inr rfl) hbb).mono ?_
            rintro e w4 ⟨rfl, hb4⟩
            go_wp2_with fail
            go_ret2
            exact .mk (HO.out.trans (rollS_3c HQ.out)) (hbb.trans (hb4.mono hbb.size))
        · go_wp2_with fail
          refine (HN.out (-1) _ (.inr rfl) hb1').mono ?_
          rintro e w2 ⟨rfl, hb2⟩
          have hbb := hb1'.trans (hb2.mono hb1'.size)
          have bc2 := bc.below hb2
          have d0 := bc2.cell 0
          have d1 := bc2.cell 1
          clear hb2
          rcases nth_two (P := Z.opn wk hs) (a := day) (s := -1) (.inr rfl) hdr.1 hdr.2 with ⟨d, hn, hd0, hd1⟩ | hn
          · rw [hn]
            have HQ := Lib.hid hn
            clear hn
            go_wp2_with fail
            refine (csame_any d day _ hd0 hd1 hdr.1 hdr.2).mono ?_
            rintro e w3 ⟨rfl, hb3⟩
            have hbc := hbb.trans (hb3.mono hbb.size)
            have bc3 := bc2.below hb3
            have e0 := bc3.cell 0
            have e1 := bc3.cell 1
            cases hs : Z.sameM d day
            · have HS := Lib.hid hs
              clear hs
              go_wp2_with fail
              refine (HN.out 1 _ (.inl rfl) hbc).mono ?_
              rintro e w4 ⟨rfl, hb4⟩
              go_wp2_with fail
              go_ret2
              exact .mk (HO.out.trans (rollS_4b HQ.out HS.out)) (hbc.trans (hb4.mono hbc.size))
            · have HS := Lib.hid hs
              clear hs
              go_wp2_with fail
              go_ret2
              exact .mk (HO.out.trans (rollS_4a HQ.out HS.out)) hbc
          · rw [hn]
            have HQ := Lib.hid hn
            clear hn
            go_wp2_with fail
            refine (HN.out 1 _ (.inl rfl) hbb).mono ?_
            rintro e w4 ⟨rfl, hb4⟩
            go_wp2_with fail
            go_ret2
            exact .mk (HO.out.trans (rollS_4c HQ.out)) (hbb.trans (hb4.mono hbb.size))
end Go.Proofs.Ytmbbpimihnojeaa
