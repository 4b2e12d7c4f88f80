/-
  Sum and Power of package rational return what the reference returns, and Sum leaves its argument as it was.
-/
import Derived.Test.YthafdckomhdlbaaRows
import Derived.Test.YthafdckomhdlbaaQ5
import Derived.Test.YthafdckomhdlbaaShelf
import Derived.HandedShaped
import Derived.Deep.QuietTactic
import Derived.BigQuiet
namespace Go.Proofs.Ythafdckomhdlbaa.lawFolds
open Go.ChangeShapes Go.WideShapes Go.ChangeAt Go.RowKit
open Go.ChangeMaps (open_string shut_string)

theorem own : ownKnob Try.prog.godebug = none := by kernel_rfl
theorem great_no {a : ByteArray} (h : ¬ 2100 < a.size) : ([a].any fun s => decide (2100 < s.size)) = false := by simp; omega
theorem great_yes {a : ByteArray} (h : 2100 < a.size) : ([a].any fun s => decide (2100 < s.size)) = true := by simp; omega
set_option maxRecDepth 100000 in
set_option maxHeartbeats 8000000 in
theorem walk (A : Option Addr) (c : Nat) (ss : List ByteArray) (a : ByteArray) (n : Int) (w : World) (HA : Hid (A = none → c = 0)) (HS : Hid (SS w (.slice A ss.length c) ss)) (HR : Hid (∀ s ∈ ss, s.size ≤ 140737488355328)) (hn0 : -9223372036854775808 ≤ n) (hn1 : n ≤ 9223372036854775807) (hm : ss.length ≤ maxLen) (HV : Hid (HasV w)) :
    Calls Try.prog 5 #[.slice A ss.length c, .string a, .int .i64 n] w fun e w' => e = .returned (.bool true) ∧ Below w.heap.size w w' := by
  have hmx : (ss.length : Int) ≤ 9223372036854775807 := by unfold maxLen at hm; omega
  have G : ∀ {b : Bool}, ([a].any fun s => decide (2100 < s.size)) = b → Hid (∀ W : World, Calls Try.prog 7 #[.slice (some ⟨W.heap.size, 0, none⟩) 1 1] (W.alloc (.cells #[.string a] 23)) fun e w' => e = .returned (.bool b) ∧ (W.alloc (.cells #[.string a] 23)) = w') := by
    intro b hb W
    have := qgreat_any _ [a] (W.alloc (.cells #[.string a] 23)) (ss_new W [a] 23 (by simp)) (by simp)
    rw [hb] at this
    exact this
  have G1 := @G true
  have G2 := @G false
  clear G
  go_enter Try.func5, Try.ntmps5
  go_wp2_with fail
  go_loop [7, 8] (fun sv iv => ∃ k t : Nat, k ≤ ss.length ∧ k ≤ 50 ∧ iv = .int .i64 k ∧ sv = .int .i64 t ∧ t ≤ k * 140737488355328 ∧ Hid (t = Z.tot ss k)) (fun _ iv => ss.length - (intOf iv).toNat)
  case atStart => exact ⟨0, 0, by omega, by omega, rfl, rfl, by omega, (Z.tot_zero ss).symm⟩
  case round =>
    obtain ⟨k, t, hk, hk50, rfl, rfl, ht, HT⟩ := hrel
    by_cases hlt : k < ss.length
    · by_cases h50 : k < 50
      · obtain ⟨Al, cl, hvl, hl1, hl2, hl3⟩ := HS.out
        injection hvl with e1 _ e2
        subst e1; subst e2
        obtain ⟨g, o, rfl, hg, hcl⟩ := hl3 (by omega)
        obtain ⟨s, hs⟩ : ∃ s, ss[k]? = some s := ⟨_, List.getElem?_eq_getElem (by omega)⟩
        have hr := hcl _ _ hs
        have hsz := HR.out s (List.mem_of_getElem? hs)
        have HN := Lib.hid (Z.tot_succ hs)
        clear hcl hl3 hs
        have ht2 : (t : Int) ≤ 7036874417766400 := by omega
        have hsz2 : (s.size : Int) ≤ 140737488355328 := by omega
        go_wp2_with fail
        go_round
        case rel => exact ⟨k + 1, t + s.size, by omega, by omega, by go_num, by go_num, by omega, Lib.hid (by rw [HN.out, HT.out])⟩
        case measure => simp [intOf]; omega
      · obtain rfl : k = 50 := by omega
        by_cases h1 : ss.length ≤ 1000
        · skip
          go_wp2_with fail
          go_ret
          exact ⟨rfl, Below.refl _ _⟩
        by_cases h2 : 1100 < ss.length
        · skip
          go_wp2_with fail
          go_ret
          exact ⟨rfl, Below.refl _ _⟩
        by_cases h3 : 2100 < t
        · skip
          go_wp2_with fail
          go_ret
          exact ⟨rfl, Below.refl _ _⟩
        by_cases hga : 2100 < a.size
        · have G0 := G1 (great_yes hga)
          clear G1 G2
          go_wp2_with fail
          refine (G0.out _).mono ?_
          rintro e w3 ⟨rfl, rfl⟩
          go_wp2_with fail
          go_ret
          exact ⟨rfl, (Below.refl _ _).alloc (Nat.le_refl _) _⟩
        have G0 := G2 (great_no hga)
        have hma : a.size ≤ 100000 := by omega
        clear G1 G2
        by_cases h60 : 60 < a.size
        · by_cases hnl : n < -12
          · skip
            go_wp2_with fail
            refine (G0.out _).mono ?_
            rintro e w3 ⟨rfl, rfl⟩
            go_wp2_with fail
            go_ret
            exact ⟨rfl, (Below.refl _ _).alloc (Nat.le_refl _) _⟩
          · by_cases hnh : 12 < n
            · skip
              go_wp2_with fail
              refine (G0.out _).mono ?_
              rintro e w3 ⟨rfl, rfl⟩
              go_wp2_with fail
              go_ret
              exact ⟨rfl, (Below.refl _ _).alloc (Nat.le_refl _) _⟩
            · skip
              have HSZ : Hid (ss.length ≤ 1000 → ∀ s ∈ ss, s.size ≤ 100000) := Lib.hid (fun h => absurd h h1)
              have hl11 : ss.length ≤ 1100 := by omega
              go_wp2_with fail
              refine (G0.out _).mono ?_
              rintro e w3 ⟨rfl, rfl⟩
              have hb1 : Below w.heap.size w (w.alloc (.cells #[.string a] 23)) := (Below.refl _ _).alloc (Nat.le_refl _) _
              have S1 := HS.out.below hb1
              generalize w.alloc (.cells #[.string a] 23) = u0 at *
              go_wp2_with (at_builtin; refine appSS rfl _ _ _ rfl elemRat Try.underlying27 u0 rfl A c ss rfl HA.out S1 hl11 ?_; intro v1 u1 SO hb2)
              have c1 := hb1.trans (hb2.mono hb1.size)
              clear hb1 hb2 S1
              refine (qsum_any v1 ss _ (HV.out.below c1) SO HSZ.out).mono ?_
              unfold SumRet
              rintro e u2 ⟨rfl, h2⟩
              have c2 := c1.trans (h2.mono c1.size)
              have SO2 := SO.below h2
              clear SO h2
              go_wp2_with fail
              refine (rqsum_any (.slice A ss.length c) ss _ (HS.out.below c2) HSZ.out).mono ?_
              unfold SumRet
              rintro e u3 ⟨rfl, h3⟩
              have c3 := c2.trans (h3.mono c2.size)
              have SO3 := SO2.below h3
              clear SO2 h3 c1 c2
              generalize (Z.sumR ss).1 = r1
              generalize (Z.sumR ss).2 = k1
              go_wp2_with fail
              refine (qpower_any a n _ (HV.out.below c3) hma hn0 hn1).mono ?_
              unfold PowRet
              rintro e u4 ⟨rfl, h4⟩
              have c4 := c3.trans (h4.mono c3.size)
              have SO4 := SO3.below h4
              clear SO3 h4 c3
              go_wp2_with fail
              refine (rqpower_any a n _ hma hn0 hn1).mono ?_
              unfold PowRet
              rintro e u5 ⟨rfl, h5⟩
              have c5 := c4.trans (h5.mono c4.size)
              have SO5 := SO4.below h5
              clear SO4 h5 c4
              generalize Z.powS a n = r2
              generalize Z.powE a n = k2
              have HS5 := Lib.hid (HS.out.below c5)
              have HO5 := Lib.hid SO5
              clear SO5
              go_wp2_with fail
              go_loopw [18] (fun iv wr => ∃ j : Nat, j ≤ ss.length ∧ iv = .int .i64 j ∧ Below u5.heap.size u5 wr) (fun iv _ => ss.length - (intOf iv).toNat)
              case atStart => exact ⟨0, by omega, rfl, Below.refl _ _⟩
              case round =>
                obtain ⟨j, hj, rfl, hbw⟩ := hrel
                by_cases hjl : j < ss.length
                · obtain ⟨s, hs⟩ : ∃ s, ss[j]? = some s := ⟨_, List.getElem?_eq_getElem (by omega)⟩
                  obtain ⟨Ao, co, rfl, ho1, ho2, ho3⟩ := HO5.out.below hbw
                  obtain ⟨bo, oo, rfl, hlo, hco⟩ := ho3 (by omega)
                  obtain ⟨Al, cl, hvl, hl1, hl2, hl3⟩ := HS5.out.below hbw
                  injection hvl with e1 _ e2
                  subst e1; subst e2
                  obtain ⟨bl, ol, rfl, hll, hcl⟩ := hl3 (by omega)
                  have ro := hco j s hs
                  have rl := hcl j s hs
                  have i0 : (0 : Int) ≤ (j : Int) := by omega
                  have i1 : (j : Int) < (ss.length : Int) := by omega
                  clear hco hcl hs ho3 hl3
                  go_wp2_with fail
                  go_quiet (fail)
                  go_wp2_with fail
                  go_roundw
                  case rel => exact ⟨j + 1, by omega, by go_num, hbw.trans (below_of_drewN _ _ _)⟩
                  case measure => simp [intOf]; omega
                · obtain rfl : j = ss.length := by omega
                  go_wp2_with fail
                  go_ret
                  exact ⟨rfl, c5.trans (hbw.mono c5.size)⟩
        · skip
          have HSZ : Hid (ss.length ≤ 1000 → ∀ s ∈ ss, s.size ≤ 100000) := Lib.hid (fun h => absurd h h1)
          have hl11 : ss.length ≤ 1100 := by omega
          go_wp2_with fail
          refine (G0.out _).mono ?_
          rintro e w3 ⟨rfl, rfl⟩
          have hb1 : Below w.heap.size w (w.alloc (.cells #[.string a] 23)) := (Below.refl _ _).alloc (Nat.le_refl _) _
          have S1 := HS.out.below hb1
          generalize w.alloc (.cells #[.string a] 23) = u0 at *
          go_wp2_with (at_builtin; refine appSS rfl _ _ _ rfl elemRat Try.underlying27 u0 rfl A c ss rfl HA.out S1 hl11 ?_; intro v1 u1 SO hb2)
          have c1 := hb1.trans (hb2.mono hb1.size)
          clear hb1 hb2 S1
          refine (qsum_any v1 ss _ (HV.out.below c1) SO HSZ.out).mono ?_
          unfold SumRet
          rintro e u2 ⟨rfl, h2⟩
          have c2 := c1.trans (h2.mono c1.size)
          have SO2 := SO.below h2
          clear SO h2
          go_wp2_with fail
          refine (rqsum_any (.slice A ss.length c) ss _ (HS.out.below c2) HSZ.out).mono ?_
          unfold SumRet
          rintro e u3 ⟨rfl, h3⟩
          have c3 := c2.trans (h3.mono c2.size)
          have SO3 := SO2.below h3
          clear SO2 h3 c1 c2
          generalize (Z.sumR ss).1 = r1
          generalize (Z.sumR ss).2 = k1
          go_wp2_with fail
          refine (qpower_any a n _ (HV.out.below c3) hma hn0 hn1).mono ?_
          unfold PowRet
          rintro e u4 ⟨rfl, h4⟩
          have c4 := c3.trans (h4.mono c3.size)
          have SO4 := SO3.below h4
          clear SO3 h4 c3
          go_wp2_with fail
          refine (rqpower_any a n _ hma hn0 hn1).mono ?_
          unfold PowRet
          rintro e u5 ⟨rfl, h5⟩
          have c5 := c4.trans (h5.mono c4.size)
          have SO5 := SO4.below h5
          clear SO4 h5 c4
          generalize Z.powS a n = r2
          generalize Z.powE a n = k2
          have HS5 := Lib.hid (HS.out.below c5)
          have HO5 := Lib.hid SO5
          clear SO5
          go_wp2_with fail
          go_loopw [18] (fun iv wr => ∃ j : Nat, j ≤ ss.length ∧ iv = .int .i64 j ∧ Below u5.heap.size u5 wr) (fun iv _ => ss.length - (intOf iv).toNat)
          case atStart => exact ⟨0, by omega, rfl, Below.refl _ _⟩
          case round =>
            obtain ⟨j, hj, rfl, hbw⟩ := hrel
            by_cases hjl : j < ss.length
            · obtain ⟨s, hs⟩ : ∃ s, ss[j]? = some s := ⟨_, List.getElem?_eq_getElem (by omega)⟩
              obtain ⟨Ao, co, rfl, ho1, ho2, ho3⟩ := HO5.out.below hbw
              obtain ⟨bo, oo, rfl, hlo, hco⟩ := ho3 (by omega)
              obtain ⟨Al, cl, hvl, hl1, hl2, hl3⟩ := HS5.out.below hbw
              injection hvl with e1 _ e2
              subst e1; subst e2
              obtain ⟨bl, ol, rfl, hll, hcl⟩ := hl3 (by omega)
              have ro := hco j s hs
              have rl := hcl j s hs
              have i0 : (0 : Int) ≤ (j : Int) := by omega
              have i1 : (j : Int) < (ss.length : Int) := by omega
              clear hco hcl hs ho3 hl3
              go_wp2_with fail
              go_quiet (fail)
              go_wp2_with fail
              go_roundw
              case rel => exact ⟨j + 1, by omega, by go_num, hbw.trans (below_of_drewN _ _ _)⟩
              case measure => simp [intOf]; omega
            · obtain rfl : j = ss.length := by omega
              go_wp2_with fail
              go_ret
              exact ⟨rfl, c5.trans (hbw.mono c5.size)⟩
    · obtain rfl : k = ss.length := by omega
      by_cases h1 : 40 < ss.length
      · skip
        go_wp2_with fail
        go_ret
        exact ⟨rfl, Below.refl _ _⟩
      by_cases h3 : 2100 < t
      · skip
        go_wp2_with fail
        go_ret
        exact ⟨rfl, Below.refl _ _⟩
      by_cases hga : 2100 < a.size
      · have G0 := G1 (great_yes hga)
        clear G1 G2
        go_wp2_with fail
        refine (G0.out _).mono ?_
        rintro e w3 ⟨rfl, rfl⟩
        go_wp2_with fail
        go_ret
        exact ⟨rfl, (Below.refl _ _).alloc (Nat.le_refl _) _⟩
      have G0 := G2 (great_no hga)
      have hma : a.size ≤ 100000 := by omega
      clear G1 G2
      by_cases h60 : 60 < a.size
      · by_cases hnl : n < -12
        · skip
          go_wp2_with fail
          refine (G0.out _).mono ?_
          rintro e w3 ⟨rfl, rfl⟩
          go_wp2_with fail
          go_ret
          exact ⟨rfl, (Below.refl _ _).alloc (Nat.le_refl _) _⟩
        · by_cases hnh : 12 < n
          · skip
            go_wp2_with fail
            refine (G0.out _).mono ?_
            rintro e w3 ⟨rfl, rfl⟩
            go_wp2_with fail
            go_ret
            exact ⟨rfl, (Below.refl _ _).alloc (Nat.le_refl _) _⟩
          · skip
            have HSZ : Hid (ss.length ≤ 1000 → ∀ s ∈ ss, s.size ≤ 100000) := Lib.hid (fun _ s hs => Nat.le_trans (Z.le_tot (Nat.le_refl _) s hs) (by rw [← HT.out]; omega))
            have hl11 : ss.length ≤ 1100 := by omega
            go_wp2_with fail
            refine (G0.out _).mono ?_
            rintro e w3 ⟨rfl, rfl⟩
            have hb1 : Below w.heap.size w (w.alloc (.cells #[.string a] 23)) := (Below.refl _ _).alloc (Nat.le_refl _) _
            have S1 := HS.out.below hb1
            generalize w.alloc (.cells #[.string a] 23) = u0 at *
            go_wp2_with (at_builtin; refine appSS rfl _ _ _ rfl elemRat Try.underlying27 u0 rfl A c ss rfl HA.out S1 hl11 ?_; intro v1 u1 SO hb2)
            have c1 := hb1.trans (hb2.mono hb1.size)
            clear hb1 hb2 S1
            refine (qsum_any v1 ss _ (HV.out.below c1) SO HSZ.out).mono ?_
            unfold SumRet
            rintro e u2 ⟨rfl, h2⟩
            have c2 := c1.trans (h2.mono c1.size)
            have SO2 := SO.below h2
            clear SO h2
            go_wp2_with fail
            refine (rqsum_any (.slice A ss.length c) ss _ (HS.out.below c2) HSZ.out).mono ?_
            unfold SumRet
            rintro e u3 ⟨rfl, h3⟩
            have c3 := c2.trans (h3.mono c2.size)
            have SO3 := SO2.below h3
            clear SO2 h3 c1 c2
            generalize (Z.sumR ss).1 = r1
            generalize (Z.sumR ss).2 = k1
            go_wp2_with fail
            refine (qpower_any a n _ (HV.out.below c3) hma hn0 hn1).mono ?_
            unfold PowRet
            rintro e u4 ⟨rfl, h4⟩
            have c4 := c3.trans (h4.mono c3.size)
            have SO4 := SO3.below h4
            clear SO3 h4 c3
            go_wp2_with fail
            refine (rqpower_any a n _ hma hn0 hn1).mono ?_
            unfold PowRet
            rintro e u5 ⟨rfl, h5⟩
            have c5 := c4.trans (h5.mono c4.size)
            have SO5 := SO4.below h5
            clear SO4 h5 c4
            generalize Z.powS a n = r2
            generalize Z.powE a n = k2
            have HS5 := Lib.hid (HS.out.below c5)
            have HO5 := Lib.hid SO5
            clear SO5
            go_wp2_with fail
            go_loopw [18] (fun iv wr => ∃ j : Nat, j ≤ ss.length ∧ iv = .int .i64 j ∧ Below u5.heap.size u5 wr) (fun iv _ => ss.length - (intOf iv).toNat)
            case atStart => exact ⟨0, by omega, rfl, Below.refl _ _⟩
            case round =>
              obtain ⟨j, hj, rfl, hbw⟩ := hrel
              by_cases hjl : j < ss.length
              · obtain ⟨s, hs⟩ : ∃ s, ss[j]? = some s := ⟨_, List.getElem?_eq_getElem (by omega)⟩
                obtain ⟨Ao, co, rfl, ho1, ho2, ho3⟩ := HO5.out.below hbw
                obtain ⟨bo, oo, rfl, hlo, hco⟩ := ho3 (by omega)
                obtain ⟨Al, cl, hvl, hl1, hl2, hl3⟩ := HS5.out.below hbw
                injection hvl with e1 _ e2
                subst e1; subst e2
                obtain ⟨bl, ol, rfl, hll, hcl⟩ := hl3 (by omega)
                have ro := hco j s hs
                have rl := hcl j s hs
                have i0 : (0 : Int) ≤ (j : Int) := by omega
                have i1 : (j : Int) < (ss.length : Int) := by omega
                clear hco hcl hs ho3 hl3
                go_wp2_with fail
                go_quiet (fail)
                go_wp2_with fail
                go_roundw
                case rel => exact ⟨j + 1, by omega, by go_num, hbw.trans (below_of_drewN _ _ _)⟩
                case measure => simp [intOf]; omega
              · obtain rfl : j = ss.length := by omega
                go_wp2_with fail
                go_ret
                exact ⟨rfl, c5.trans (hbw.mono c5.size)⟩
      · skip
        have HSZ : Hid (ss.length ≤ 1000 → ∀ s ∈ ss, s.size ≤ 100000) := Lib.hid (fun _ s hs => Nat.le_trans (Z.le_tot (Nat.le_refl _) s hs) (by rw [← HT.out]; omega))
        have hl11 : ss.length ≤ 1100 := by omega
        go_wp2_with fail
        refine (G0.out _).mono ?_
        rintro e w3 ⟨rfl, rfl⟩
        have hb1 : Below w.heap.size w (w.alloc (.cells #[.string a] 23)) := (Below.refl _ _).alloc (Nat.le_refl _) _
        have S1 := HS.out.below hb1
        generalize w.alloc (.cells #[.string a] 23) = u0 at *
        go_wp2_with (at_builtin; refine appSS rfl _ _ _ rfl elemRat Try.underlying27 u0 rfl A c ss rfl HA.out S1 hl11 ?_; intro v1 u1 SO hb2)
        have c1 := hb1.trans (hb2.mono hb1.size)
        clear hb1 hb2 S1
        refine (qsum_any v1 ss _ (HV.out.below c1) SO HSZ.out).mono ?_
        unfold SumRet
        rintro e u2 ⟨rfl, h2⟩
        have c2 := c1.trans (h2.mono c1.size)
        have SO2 := SO.below h2
        clear SO h2
        go_wp2_with fail
        refine (rqsum_any (.slice A ss.length c) ss _ (HS.out.below c2) HSZ.out).mono ?_
        unfold SumRet
        rintro e u3 ⟨rfl, h3⟩
        have c3 := c2.trans (h3.mono c2.size)
        have SO3 := SO2.below h3
        clear SO2 h3 c1 c2
        generalize (Z.sumR ss).1 = r1
        generalize (Z.sumR ss).2 = k1
        go_wp2_with fail
        refine (qpower_any a n _ (HV.out.below c3) hma hn0 hn1).mono ?_
        unfold PowRet
        rintro e u4 ⟨rfl, h4⟩
        have c4 := c3.trans (h4.mono c3.size)
        have SO4 := SO3.below h4
        clear SO3 h4 c3
        go_wp2_with fail
        refine (rqpower_any a n _ hma hn0 hn1).mono ?_
        unfold PowRet
        rintro e u5 ⟨rfl, h5⟩
        have c5 := c4.trans (h5.mono c4.size)
        have SO5 := SO4.below h5
        clear SO4 h5 c4
        generalize Z.powS a n = r2
        generalize Z.powE a n = k2
        have HS5 := Lib.hid (HS.out.below c5)
        have HO5 := Lib.hid SO5
        clear SO5
        go_wp2_with fail
        go_loopw [18] (fun iv wr => ∃ j : Nat, j ≤ ss.length ∧ iv = .int .i64 j ∧ Below u5.heap.size u5 wr) (fun iv _ => ss.length - (intOf iv).toNat)
        case atStart => exact ⟨0, by omega, rfl, Below.refl _ _⟩
        case round =>
          obtain ⟨j, hj, rfl, hbw⟩ := hrel
          by_cases hjl : j < ss.length
          · obtain ⟨s, hs⟩ : ∃ s, ss[j]? = some s := ⟨_, List.getElem?_eq_getElem (by omega)⟩
            obtain ⟨Ao, co, rfl, ho1, ho2, ho3⟩ := HO5.out.below hbw
            obtain ⟨bo, oo, rfl, hlo, hco⟩ := ho3 (by omega)
            obtain ⟨Al, cl, hvl, hl1, hl2, hl3⟩ := HS5.out.below hbw
            injection hvl with e1 _ e2
            subst e1; subst e2
            obtain ⟨bl, ol, rfl, hll, hcl⟩ := hl3 (by omega)
            have ro := hco j s hs
            have rl := hcl j s hs
            have i0 : (0 : Int) ≤ (j : Int) := by omega
            have i1 : (j : Int) < (ss.length : Int) := by omega
            clear hco hcl hs ho3 hl3
            go_wp2_with fail
            go_quiet (fail)
            go_wp2_with fail
            go_roundw
            case rel => exact ⟨j + 1, by omega, by go_num, hbw.trans (below_of_drewN _ _ _)⟩
            case measure => simp [intOf]; omega
          · obtain rfl : j = ss.length := by omega
            go_wp2_with fail
            go_ret
            exact ⟨rfl, c5.trans (hbw.mono c5.size)⟩

set_option maxRecDepth 100000 in
theorem lifted (os : Os) (started : os.Started) (H : Type) (enc : TypeId × Value → H) :
    ReturnsInHanded {} Try.checked os 5 .any (Rows.rationalFoldsSpec.pre6 enc Try.prog Try.f5 Rows.rationalFoldsRow.domain false) (Rows.rationalFoldsSpec.post enc Try.prog Try.f5 false true false false) := by
  refine returnsInHanded_of_change_shaped (C := Try.checked) own started (by kernel_rfl) Try.func5
    (ChangeSpec.witness6 (enc := enc) (C := Try.checked) false ⟨#[], #[.slice none 0 0, .string ByteArray.empty, .int .i64 0], []⟩ 8 (by kernel_rfl) (by kernel_rfl) (by kernel_rfl) (by kernel_rfl)) ?_
  intro W base args ds gs before hval0 hW hcnd hsz0 hsh _
  have hval : ∀ (j : Nat) t v, Try.f5.params[j]? = some t → args[j]? = some v → Value.okWide Try.prog W .any base t v := hval0
  have hW' := hW
  obtain ⟨p, q, hA0, hV, rfl, hfz, hnd⟩ := hW
  have hA : DataW.TrodAll enc Try.prog W 0 (fun _ => true) true Try.f5.params.toList args.toList ds p := hA0
  have hsz1 : ∀ (t : TypeId) (d : DataW H), Try.f5.params.toList[0]? = some t → ds[0]? = some d → ∀ m ∈ d.weights Try.prog t, m ≤ reachBytes := by
    intro t d ht hd m hm
    have h1 := DataW.weights_mem_each (ts := Try.f5.params.toList ++ Rows.rationalFoldsSpec.plain.varTypes Try.prog) (ds := ds ++ gs) (j := 0) (by
      rw [List.getElem?_append_left ((List.getElem?_eq_some_iff.1 ht).1)]; exact ht) (by
      rw [List.getElem?_append_left ((List.getElem?_eq_some_iff.1 hd).1)]; exact hd) m hm
    have := List.all_eq_true.1 hsz0 m h1
    simpa using this
  rw [Try.params5] at hA hval hsz1
  obtain ⟨v0, vs0, d0, ds0, p0, q0, hargs, rfl, rfl, h0, r0⟩ := trodAll_cons hA
  obtain ⟨v1, vs1, d1, ds1, p1, q1, rfl, rfl, rfl, h1, r1⟩ := trodAll_cons r0
  obtain ⟨v2, vs2, d2, ds2, p2, q2, rfl, rfl, rfl, h2, r2⟩ := trodAll_cons r1
  obtain ⟨rfl, rfl, rfl⟩ := trodAll_nil r2
  obtain rfl : args = #[v0, v1, v2] := by cases args; simp_all
  obtain ⟨rfl, rfl⟩ := trodVars_none hV
  have k0 := h0
  obtain ⟨A, c, ss, rfl, hA1, hS, hwt⟩ := ss_open (hval 0 27 v0 rfl rfl) h0
  obtain ⟨a1, rfl, rfl, rfl, w1⟩ := open_string Try.underlying23 (hval 1 23 v1 rfl rfl) h1
  obtain ⟨a2, rfl, rfl, rfl, w2⟩ := open_int Try.underlying3 (hval 2 3 v2 rfl rfl) h2
  have HR : ∀ s ∈ ss, s.size ≤ 140737488355328 := fun s hs => Nat.le_trans (hsz1 27 d0 rfl rfl _ (hwt s hs)) (by decide)
  clear hA0 hval0 hsz0 hsz1 hwt
  have bd2 := bounds_i64 w2
  have hml : ss.length ≤ maxLen := by
    obtain ⟨_, _, hv, g1, g2, _⟩ := hS
    omega
  refine (walk A c ss a1 a2 W (Lib.hid hA1) (Lib.hid hS) (Lib.hid HR) bd2.1 bd2.2 hml (Lib.hid (Try.laysM145.s1_3 W hsh))).mono fun e W' ⟨he, bel⟩ => ?_
  subst he
  exact ⟨_, rfl, _, _, _, [], _, [], hW', trodAll_mk1 (shut_bool Try.underlying4 _), (trodAll_cons_mk (arg_stays (by kernel_rfl) (of_decide_eq_true (by kernel_rfl)) k0 bel) (trodAll_cons_mk (shut_string Try.underlying23 w1) (trodAll_cons_mk (shut_int Try.underlying3 w2) trodAll_mk0))), rfl, bel.frame _, fun h => by cases h⟩

theorem over : Rows.rationalFoldsRow.holds Try.pinned (OpenSpec.ofChange Rows.rationalFoldsSpec) :=
  OpenClaim.holds_of_wide 5 Try.f5 rfl rfl rfl rfl rfl rfl rfl ⟨rfl, rfl, rfl, rfl, rfl⟩ rfl rfl rfl rfl rfl (by kernel_rfl) Try.func5 (by kernel_rfl)
    (of_decide_eq_true (by kernel_rfl)) (by unfold Func.isWrapper; first | (rw [if_pos (by decide +kernel)]; kernel_rfl) | (rw [if_neg (by decide +kernel)]; exact ⟨rfl, rfl⟩))
    (fun os started H enc _ => lifted os started H enc)

theorem proved : Rows.RationalFoldsSaid := over
#print axioms proved
end Go.Proofs.Ythafdckomhdlbaa.lawFolds
