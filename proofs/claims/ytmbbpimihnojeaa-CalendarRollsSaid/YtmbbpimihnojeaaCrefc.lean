/- Walks: the reference for calendars: Roll. -/
import Derived.Test.YtmbbpimihnojeaaCrefb
namespace Go.Proofs.Ytmbbpimihnojeaa
open Go.RowKit

set_option maxHeartbeats 1000000 in
theorem rroll_any (wk : Int) (v : Value) (hs : List Int) (day r : Int) (w : World) (hSI : SI w v hs) (hk0 : 0 ≤ wk) (hr0 : 0 ≤ r) :
    Calls Try.prog 17 #[.agg #[.int .u8 wk, v], .int .i64 day, .int .u8 r] w (Ret2 (Z.roll wk hs day r) w) := by
  go_enter Try.func17, Try.ntmps17
  go_wp2_with fail
  have hbA : Below w.heap.size w (w.alloc (.cells #[.int .u8 wk, v] 24)) := (Below.refl _ w).alloc (Nat.le_refl _) _
  refine (rvalid_any wk v hs _ (hSI.below hbA)).mono ?_
  rintro e W1 ⟨rfl, hb1⟩
  have hb1' := hbA.trans (hb1.mono (by simp))
  have bc := (Blk.new w 24 #[.int .u8 wk, v]).below hb1
  have hSI1 := hSI.below hb1'
  clear hb1 hbA
  cases hk : Z.calB wk hs
  · go_wp2_with fail
    go_ret2
    exact .mk (roll_bad hk) hb1'
  · have HK := Lib.hid hk
    clear hk
    have c0 := bc.cell 0
    have c1 := bc.cell 1
    go_wp2_with fail
    refine (rday_any _ _).mono ?_
    rintro e w2 ⟨rfl, rfl⟩
    cases hd : Z.inR day
    · go_wp2_with fail
      go_ret2
      exact .mk (roll_arg HK.out (.inl hd)) hb1'
    · have hdr := (inR_iff day).1 hd
      have HD := Lib.hid hd
      clear hd
      by_cases h1 : 4 < r
      · go_wp2_with fail
        go_ret2
        exact .mk (roll_arg HK.out (.inr h1)) hb1'
      · have HO := Lib.hid (roll_ok HK.out HD.out (by omega) : Z.roll wk hs day r = Z.rollS (Z.opn wk hs) day r)
        have hr : r = 0 ∨ r = 1 ∨ r = 2 ∨ r = 3 ∨ r = 4 := by omega
        have hN : ∀ (s : Int) (W : World), (s = 1 ∨ s = -1) → Below w.heap.size w W → Calls Try.prog 32 #[.agg #[.int .u8 wk, v], .int .i64 day, .int .i64 s, .int .i64 1] W fun e w' => e = .returned (.tuple #[.int .i64 (Z.nth (Z.opn wk hs) day s 1).1, .int .i64 (Z.nth (Z.opn wk hs) day s 1).2]) ∧ Below W.heap.size W w' :=
          fun s W hs1 hW => rwalk_any wk v hs day s 1 W (hSI.below hW) HK.out hk0 hs1 (fun _ => by omega) (fun _ => by omega) (by omega) (by omega)
        have HN := Lib.hid hN
        have n1 := nth_two (P := Z.opn wk hs) (a := day) (s := 1) (.inl rfl) hdr.1 hdr.2
        have n2 := nth_two (P := Z.opn wk hs) (a := day) (s := -1) (.inr rfl) hdr.1 hdr.2
        clear hN hr0
        go_wp2_with fail
        refine (HN.out 1 _ (.inl rfl) hb1').mono ?_
        rintro e w2 ⟨rfl, hb2⟩
        have hbb := hb1'.trans (hb2.mono hb1'.size)
        have bc2 := bc.below hb2
        have d0 := bc2.cell 0
        have d1 := bc2.cell 1
        clear hb2
        go_wp2_with fail
        refine (HN.out (-1) _ (.inr rfl) hbb).mono ?_
        rintro e w3 ⟨rfl, hb3⟩
        have hbc := hbb.trans (hb3.mono hbb.size)
        clear hb3 d0 d1 bc2 c0 c1 bc HN h1
        have HQ := Lib.hid (⟨rfl, rfl⟩ : Z.nth (Z.opn wk hs) day 1 1 = Z.nth (Z.opn wk hs) day 1 1 ∧ Z.nth (Z.opn wk hs) day (-1) 1 = Z.nth (Z.opn wk hs) day (-1) 1)
        generalize hx : Z.nth (Z.opn wk hs) day 1 1 = X at *
        generalize hy : Z.nth (Z.opn wk hs) day (-1) 1 = Y at *
        have HX := Lib.hid hx
        have HY := Lib.hid hy
        clear hx hy HQ
        rcases hr with rfl | rfl | rfl | rfl | rfl
        · clear n1 n2
          go_wp2_with fail
          go_ret2
          exact .mk HO.out hbc
        · clear n1 n2
          go_wp2_with fail
          go_ret2
          exact .mk (HO.out.trans HX.out) hbc
        · clear n1 n2
          go_wp2_with fail
          go_ret2
          exact .mk (HO.out.trans HY.out) hbc
        · clear n2
          rcases n1 with ⟨d, hn, hd0, hd1⟩ | hn
          · subst hn
            cases hs : Z.sameM d day
            · have HS := Lib.hid hs
              have hsm : ∀ W : World, Calls Try.prog 36 #[.int .i64 d, .int .i64 day] W fun e w' => e = .returned (.bool false) ∧ W = w' := fun W => hs ▸ rmonth_any d day W hd0 hd1 hdr.1 hdr.2
              have HM := Lib.hid hsm
              clear hs hsm
              go_wp2_with fail
              refine (HM.out _).mono ?_
              rintro e w4 ⟨rfl, rfl⟩
              go_wp2_with fail
              go_ret2
              exact .mk (HO.out.trans ((rollS_3b HX.out HS.out).trans HY.out)) hbc
            · have HS := Lib.hid hs
              have hsm : ∀ W : World, Calls Try.prog 36 #[.int .i64 d, .int .i64 day] W fun e w' => e = .returned (.bool true) ∧ W = w' := fun W => hs ▸ rmonth_any d day W hd0 hd1 hdr.1 hdr.2
              have HM := Lib.hid hsm
              clear hs hsm
              go_wp2_with fail
              refine (HM.out _).mono ?_
              rintro e w4 ⟨rfl, rfl⟩
              go_wp2_with fail
              go_ret2
              exact .mk (HO.out.trans (rollS_3a HX.out HS.out)) hbc
          · subst hn
            go_wp2_with fail
            go_ret2
            exact .mk (HO.out.trans ((rollS_3c HX.out).trans HY.out)) hbc
        · clear n1
          rcases n2 with ⟨d, hn, hd0, hd1⟩ | hn
          · subst hn
            cases hs : Z.sameM d day
            · have HS := Lib.hid hs
              have hsm : ∀ W : World, Calls Try.prog 36 #[.int .i64 d, .int .i64 day] W fun e w' => e = .returned (.bool false) ∧ W = w' := fun W => hs ▸ rmonth_any d day W hd0 hd1 hdr.1 hdr.2
              have HM := Lib.hid hsm
              clear hs hsm
              go_wp2_with fail
              refine (HM.out _).mono ?_
              rintro e w4 ⟨rfl, rfl⟩
              go_wp2_with fail
              go_ret2
              exact .mk (HO.out.trans ((rollS_4b HY.out HS.out).trans HX.out)) hbc
            · have HS := Lib.hid hs
              have hsm : ∀ W : World, Calls Try.prog 36 #[.int .i64 d, .int .i64 day] W fun e w' => e = .returned (.bool true) ∧ W = w' := fun W => hs ▸ rmonth_any d day W hd0 hd1 hdr.1 hdr.2
              have HM := Lib.hid hsm
              clear hs hsm
              go_wp2_with fail
              refine (HM.out _).mono ?_
              rintro e w4 ⟨rfl, rfl⟩
              go_wp2_with fail
              go_ret2
              exact .mk (HO.out.trans (rollS_4a HY.out HS.out)) hbc
          · subst hn
            go_wp2_with fail
            go_ret2
            exact .mk (HO.out.trans ((rollS_4c HY.out).trans HX.out)) hbc
end Go.Proofs.Ytmbbpimihnojeaa
