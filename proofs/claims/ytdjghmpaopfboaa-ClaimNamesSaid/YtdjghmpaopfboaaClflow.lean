/- Walk: meaning.CheckFlows. -/
import Derived.Test.YtdjghmpaopfboaaClmem
import Derived.Test.YtdjghmpaopfboaaQ1
namespace Go.Proofs.Ytdjghmpaopfboaa
open Go.RowKit
namespace Z
def Fl.small (x : Fl) : Prop := x.f.size ≤ 100000 ∧ x.t.size ≤ 100000 ∧ x.c.size ≤ 100000 ∧ x.a.size ≤ 100000
def nmB (x : Fl) : Bool := nameB x.f && nameB x.t && nameB x.c && !decide (x.f = x.t)
end Z
set_option maxRecDepth 100000 in
set_option maxHeartbeats 4000000 in
theorem flows_any (v : Value) (l : List Z.Fl) (w : World) (hS : SF w v l) (hV : HasV w) (hs : ∀ x ∈ l, x.small) :
    Calls Try.prog 31 #[v] w fun e w' => e = .returned (.int .i64 (Z.flE l)) ∧ Below w.heap.size w w' := by
  have HS := Lib.hid hS
  obtain ⟨A, c, rfl, hlc, hcm, _⟩ := hS
  unfold maxLen at hcm
  by_cases hl : 5000 < l.length
  · go_enter Try.func31, Try.ntmps31
    go_wp2_with fail
    go_ret
    exact ⟨ret_int (by unfold Z.flE; rw [if_pos hl]), Below.refl _ _⟩
  · have HE : Hid (Z.flE l = if Z.flsOk 0 l = true then 0 else 8) := Lib.hid (by unfold Z.flE; rw [if_neg hl])
    go_enter Try.func31, Try.ntmps31
    go_wp2_with fail
    go_loopw [3, 12] (fun pv iv wr => ∃ k : Nat, k ≤ l.length ∧ iv = .int .i64 k ∧ pv = .int .i64 (Z.prevD l k) ∧ Hid (Z.flsOk 0 l = Z.flsOk (Z.prevD l k) (l.drop k)) ∧ Below w.heap.size w wr) (fun _ iv _ => l.length - (intOf iv).toNat)
    case atStart => exact ⟨0, by omega, rfl, rfl, Lib.hid rfl, Below.refl _ _⟩
    case round =>
      obtain ⟨k, hk, rfl, rfl, HK, hbr⟩ := hrel
      by_cases hlt : k < l.length
      · have hz : l[k]? = some l[k] := List.getElem?_eq_getElem hlt
        have hstep := Lib.hid (Z.fls_step hz)
        have hsm := hs _ (List.mem_of_getElem? hz)
        obtain ⟨b, o, rfl, hbl, hcj⟩ := (HS.out.below hbr).at_ (by omega)
        have hF := fc_of (hcj k _ hz)
        have hpd : Z.prevD l (k + 1) = l[k].d := by show (match l[k]? with | some x => x.d | none => 0) = _; rw [hz]
        have HPD := Lib.hid hpd
        clear hcj hz hpd
        generalize l[k] = x at *
        generalize Z.prevD l k = last at *
        obtain ⟨c0, c1, c2, c3, c4⟩ := hF
        obtain ⟨s1, s2, s3, s4⟩ := hsm
        have HB : Hid (Z.flOk last x = false → ((8 : Int) = Z.flE l)) := Lib.hid fun h => by rw [HE.out, HK.out, hstep.out, h]; rfl
        have HG : Hid (Z.flOk last x = true → Z.flsOk 0 l = Z.flsOk (Z.prevD l (k + 1)) (l.drop (k + 1))) := Lib.hid fun h => by rw [HK.out, hstep.out, h, Bool.true_and]
        clear HE hstep HK HS
        have BX := Blk.new wr 36 #[.int .i64 x.d, .string x.f, .string x.t, .string x.c, .string x.a]
        have hb1 := hbr.alloc hbr.size (.cells #[.int .i64 x.d, .string x.f, .string x.t, .string x.c, .string x.a] 36)
        go_wp2_with fail
        clear c0 c1 c2 c3 c4
        generalize (wr.alloc (.cells #[.int .i64 x.d, .string x.f, .string x.t, .string x.c, .string x.a] 36)) = W at *
        have p0 := BX.cell 0
        have p1 := BX.cell 1
        have p2 := BX.cell 2
        have p3 := BX.cell 3
        have p4 := BX.cell 4
        refine (name_any _ _ (by unfold maxLen; omega)).mono ?_
        rintro e w2 ⟨rfl, rfl⟩
        cases n1 : Z.nameB x.f
        · go_wp2_with fail
          go_ret
          exact ⟨ret_int (HB.out (by unfold Z.flOk; rw [n1]; rfl)), hb1⟩
        go_wp2_with fail
        refine (name_any _ _ (by unfold maxLen; omega)).mono ?_
        rintro e w2 ⟨rfl, rfl⟩
        cases n2 : Z.nameB x.t
        · go_wp2_with fail
          go_ret
          exact ⟨ret_int (HB.out (by unfold Z.flOk; rw [n2]; simp)), hb1⟩
        go_wp2_with fail
        refine (name_any _ _ (by unfold maxLen; omega)).mono ?_
        rintro e w2 ⟨rfl, rfl⟩
        cases n3 : Z.nameB x.c
        · go_wp2_with fail
          go_ret
          exact ⟨ret_int (HB.out (by unfold Z.flOk; rw [n3]; simp)), hb1⟩
        have HN := Lib.hid (And.intro n1 (And.intro n2 n3))
        clear n1 n2 n3
        have HVV := Lib.hid (hV.below (hb1.mono (Nat.le_refl _)))
        have e1 := Z.eqB x.f x.t
        have e2 := Z.eq0 x.a
        cases g1 : decide (x.f = x.t)
        case true =>
          rw [g1] at e1
          clear e2
          go_wp2_with fail
          go_ret
          exact ⟨ret_int (HB.out (by unfold Z.flOk; rw [g1]; simp)), hb1⟩
        case false =>
        rw [g1] at e1
        by_cases g2 : last ≤ x.d
        · by_cases g3 : x.d ≤ 99999
          · go_wp2_with fail
            refine (qcheck_any _ _ HVV.out s4).mono ?_
            rintro e w2 ⟨rfl, hb2⟩
            have hb3 := hb1.trans (hb2.mono hb1.size)
            have BY := BX.below hb2
            clear p0 p1 p2 p3 p4
            have p0 := BY.cell 0
            have p4 := BY.cell 4
            by_cases g4 : Z.rchk x.a = 0
            · rw [g4]
              have hap := Z.rchk_pos g4
              have hpl := Z.plusB_at x.a hap
              cases g5 : decide (x.a = Z.zeroS)
              · rw [g5] at e2
                cases g6 : Z.plusB x.a
                · have g7 : ((x.a[0].toNat : Int) == 45) = true := by rw [g6] at hpl; cases h : ((x.a[0].toNat : Int) == 45) <;> rw [h] at hpl <;> first | rfl | cases hpl
                  go_wp2_with fail
                  go_ret
                  exact ⟨ret_int (HB.out (by unfold Z.flOk; rw [g6]; simp)), hb3⟩
                · have g7 : ((x.a[0].toNat : Int) == 45) = false := by rw [g6] at hpl; cases h : ((x.a[0].toNat : Int) == 45) <;> rw [h] at hpl <;> first | rfl | cases hpl
                  have hok : Z.flOk last x = true := by unfold Z.flOk; rw [HN.out.1, HN.out.2.1, HN.out.2.2, g1, g5, g6, decide_eq_true g2, decide_eq_true g3, decide_eq_true g4]; rfl
                  go_wp2_with fail
                  go_roundw
                  case rel => exact ⟨k + 1, by omega, by go_num, by rw [HPD.out], Lib.hid (HG.out hok), hb3⟩
                  case measure => simp [intOf]; omega
              · rw [g5] at e2
                go_wp2_with fail
                go_ret
                exact ⟨ret_int (HB.out (by unfold Z.flOk; rw [g5]; simp)), hb3⟩
            · have g4' : (Z.rchk x.a == 0) = false := by rw [beq_eq_false_iff_ne]; exact g4
              go_wp2_with fail
              go_ret
              exact ⟨ret_int (HB.out (by unfold Z.flOk; rw [decide_eq_false g4]; simp)), hb3⟩
          · clear e2
            go_wp2_with fail
            go_ret
            exact ⟨ret_int (HB.out (by unfold Z.flOk; rw [decide_eq_false (by omega : ¬ x.d ≤ 99999)]; simp)), hb1⟩
        · clear e2
          go_wp2_with fail
          go_ret
          exact ⟨ret_int (HB.out (by unfold Z.flOk; rw [decide_eq_false (by omega : ¬ last ≤ x.d)]; simp)), hb1⟩
      · obtain rfl : k = l.length := by omega
        go_wp2_with fail
        go_ret
        exact ⟨ret_int (by rw [HE.out, HK.out, Z.fls_end]; rfl), hbr⟩
end Go.Proofs.Ytdjghmpaopfboaa
