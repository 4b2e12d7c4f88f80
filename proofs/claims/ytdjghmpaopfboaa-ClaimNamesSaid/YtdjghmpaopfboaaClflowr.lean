/- Walk: the reference's CheckFlows. -/
import Derived.Test.YtdjghmpaopfboaaClflow
import Derived.Test.YtdjghmpaopfboaaClnamer
import Derived.Test.YtdjghmpaopfboaaQ3
import Derived.Test.YtdjghmpaopfboaaAbv
namespace Go.Proofs.Ytdjghmpaopfboaa
open Go.RowKit
namespace Z
def dayB (d : Int) : Bool := decide (0 ≤ d) && decide (d ≤ 99999)
theorem flOk_eq (last : Int) (x : Fl) : flOk last x = (nameB x.f && nameB x.t && nameB x.c && !decide (x.f = x.t) && decide (last ≤ x.d) && decide (x.d ≤ 99999) && decide (rchk x.a = 0) && !decide (x.a = zeroS) && plusB x.a) := rfl
theorem flsOk_ge {l : List Fl} {k : Nat} {x : Fl} (h : l[k]? = some x) (hk : flsOk 0 l = flsOk (prevD l (k + 1)) (l.drop (k + 1)) ∧ 0 ≤ prevD l k ∧ prevD l k ≤ x.d) : 0 ≤ prevD l (k + 1) := by
  have e : prevD l (k + 1) = x.d := by show (match l[k]? with | some x => x.d | none => 0) = _; rw [h]
  omega
end Z
theorem rday_any (n : Int) (w : World) :
    Calls Try.prog 44 #[.int .i64 n] w fun e w' => e = .returned (.bool (Z.dayB n)) ∧ w = w' := by
  go_enter Try.func44, Try.ntmps44
  go_wp2_with fail
  all_goals (go_ret; refine ⟨ret_bool ?_, rfl⟩; rw [Bool.eq_iff_iff]; simp [Z.dayB]; try omega)
set_option maxRecDepth 100000 in
set_option maxHeartbeats 16000000 in
theorem rflows_any (v : Value) (l : List Z.Fl) (w : World) (hS : SF w v l) (hs : ∀ x ∈ l, x.small) :
    Calls Try.prog 28 #[v] w fun e w' => e = .returned (.int .i64 (Z.flE l)) ∧ Below w.heap.size w w' := by
  have HS := Lib.hid hS
  obtain ⟨A, c, rfl, hlc, hcm, _⟩ := hS
  unfold maxLen at hcm
  by_cases hl : 5000 < l.length
  · go_enter Try.func28, Try.ntmps28
    go_wp2_with fail
    go_ret
    exact ⟨ret_int (by unfold Z.flE; rw [if_pos hl]), Below.refl _ _⟩
  · have HE : Hid (Z.flE l = if Z.flsOk 0 l = true then 0 else 8) := Lib.hid (by unfold Z.flE; rw [if_neg hl])
    go_enter Try.func28, Try.ntmps28
    go_wp2_with fail
    go_loopw [3] (fun iv wr => ∃ k : Nat, k ≤ l.length ∧ iv = .int .i64 k ∧ Hid (Z.flsOk 0 l = Z.flsOk (Z.prevD l k) (l.drop k)) ∧ Hid (0 ≤ Z.prevD l k) ∧ Below w.heap.size w wr) (fun iv _ => l.length - (intOf iv).toNat)
    case atStart => exact ⟨0, by omega, rfl, Lib.hid rfl, Lib.hid (Int.le_refl 0), Below.refl _ _⟩
    case round =>
      obtain ⟨k, hk, rfl, HK, HP0, hbr⟩ := hrel
      by_cases hlt : k < l.length
      · have hz : l[k]? = some l[k] := List.getElem?_eq_getElem hlt
        have hstep := Lib.hid (Z.fls_step hz)
        have hsm := hs _ (List.mem_of_getElem? hz)
        obtain ⟨b, o, rfl, hbl, hcj⟩ := (HS.out.below hbr).at_ (by omega)
        have hF := fc_of (hcj k _ hz)
        have hpd : Z.prevD l (k + 1) = l[k].d := by show (match l[k]? with | some x => x.d | none => 0) = _; rw [hz]
        have HPD := Lib.hid hpd
        have hprev : ∀ j, k = j + 1 → wr.cell? ⟨b, o + j * 5, none⟩ = some (.int .i64 (Z.prevD l k)) := by
          intro j e
          subst e
          have hj : l[j]? = some l[j] := List.getElem?_eq_getElem (by omega)
          have := hcj j _ hj 0 _ rfl
          rw [show Z.prevD l (j + 1) = l[j].d by show (match l[j]? with | some x => x.d | none => 0) = _; rw [hj]]
          exact this
        have hp0 : k = 0 → Z.prevD l k = 0 := by rintro rfl; rfl
        clear hcj hz hpd
        generalize l[k] = x at *
        generalize Z.prevD l k = last at *
        obtain ⟨c0, c1, c2, c3, c4⟩ := hF
        obtain ⟨s1, s2, s3, s4⟩ := hsm
        have HB : Hid (Z.flOk last x = false → ((8 : Int) = Z.flE l)) := Lib.hid fun h => by rw [HE.out, HK.out, hstep.out, h]; rfl
        have HG : Hid (Z.flOk last x = true → Z.flsOk 0 l = Z.flsOk (Z.prevD l (k + 1)) (l.drop (k + 1))) := Lib.hid fun h => by rw [HK.out, hstep.out, h, Bool.true_and]
        clear HE hstep HK HS
        have BX := Blk.new wr 36 #[.int .i64 x.d, .string x.f, .string x.t, .string x.c, .string x.a]
        have hb1 := hbr.alloc hbr.size (.cells #[.int .i64 x.d, .string x.f, .string x.t, .string x.c, .string x.a] 36)
        have hprev1 : ∀ j, k = j + 1 → (wr.alloc (.cells #[.int .i64 x.d, .string x.f, .string x.t, .string x.c, .string x.a] 36)).cell? ⟨b, o + j * 5, none⟩ = some (.int .i64 last) := fun j e => (((Below.refl _ wr).alloc (Nat.le_refl _) _).cell (p := ⟨b, o + j * 5, none⟩) hbl).trans (hprev j e)
        have hbW : b < (wr.alloc (.cells #[.int .i64 x.d, .string x.f, .string x.t, .string x.c, .string x.a] 36)).heap.size := Nat.lt_of_lt_of_le hbl (((Below.refl _ wr).alloc (Nat.le_refl _) _).size)
        clear hprev
        go_upto_region 7 with fail
        clear c0 c1 c2 c3 c4
        generalize (wr.alloc (.cells #[.int .i64 x.d, .string x.f, .string x.t, .string x.c, .string x.a] 36)) = W at *
        have HD := Lib.hid (fun W : World => rday_any x.d W)
        have H1 := Lib.hid (fun W : World => rname_any x.f W (by unfold maxLen; omega))
        have H2 := Lib.hid (fun W : World => rname_any x.t W (by unfold maxLen; omega))
        have H3 := Lib.hid (fun W : World => rname_any x.c W (by unfold maxLen; omega))
        have HC := Lib.hid (fun W : World => rqcheck_any x.a W s4)
        unfold QchkRet at HC
        have e1 := Z.eqB x.f x.t
        have e2 := Z.eq0 x.a
        have HPL := Lib.hid (fun h => Z.plusB_at x.a h)
        have HFO := Lib.hid (Z.flOk_eq last x)
        have HRP := Lib.hid (@Z.rchk_pos x.a)
        have HDD : Hid (Z.dayB x.d = (decide (0 ≤ x.d) && decide (x.d ≤ 99999))) := Lib.hid rfl
        obtain ⟨X, a1, a2, a3, a4⟩ := x
        simp only at *
        generalize Z.flOk last ⟨X, a1, a2, a3, a4⟩ = FO at *
        generalize decide (a1 = a2) = ft at *
        generalize Z.nameB a1 = n1 at *
        generalize Z.nameB a2 = n2 at *
        generalize Z.nameB a3 = n3 at *
        generalize Z.dayB X = dd at *
        generalize Z.rchk a4 = rc at *
        go_cut [67] (fun bv wx => bv = .bool (!(dd && decide (last ≤ X) && n1 && n2 && !ft && n3 && decide (rc = 0))) ∧ Below w.heap.size w wx ∧ Blk wx wr.heap.size 36 #[.int .i64 X, .string a1, .string a2, .string a3, .string a4])
        case first =>
          clear e2 HPL HRP HFO HB HG HPD
          have p0 : ∀ x : Ab W, x.1.cell? ⟨wr.heap.size, 0, none⟩ = some (.int .i64 X) := fun _ => (Ab.cells BX).cell 0
          have p1 : ∀ x : Ab W, x.1.cell? ⟨wr.heap.size, 1, none⟩ = some (.string a1) := fun _ => (Ab.cells BX).cell 1
          have p2 : ∀ x : Ab W, x.1.cell? ⟨wr.heap.size, 2, none⟩ = some (.string a2) := fun _ => (Ab.cells BX).cell 2
          have p3 : ∀ x : Ab W, x.1.cell? ⟨wr.heap.size, 3, none⟩ = some (.string a3) := fun _ => (Ab.cells BX).cell 3
          have p4 : ∀ x : Ab W, x.1.cell? ⟨wr.heap.size, 4, none⟩ = some (.string a4) := fun _ => (Ab.cells BX).cell 4
          by_cases k0 : k = 0
          · have K0 : decide ((0 : Int) < (k : Int)) = false := decide_eq_false (by omega)
            have K0n : decide (0 < k) = false := decide_eq_false (by omega)
            obtain rfl : last = 0 := hp0 k0
            clear hp0 hprev1 k0
            cases dd
            · skip
              refine wp_region_above (by kernel_rfl) (by kernel_rfl) ?_
              repeat (go_big_quiet_step (first
                | (go_at_call 44; with_reducible exact Ab.same (HD.out _))
                | (go_at_call 41; with_reducible exact Ab.same (H1.out _))
                | (go_at_call 41; with_reducible exact Ab.same (H2.out _))
                | (go_at_call 41; with_reducible exact Ab.same (H3.out _))
                | (go_at_call 45; with_reducible exact Ab.step (HC.out _))))
              refine wpQuiet_nil ?_
              rintro _ ⟨x, rfl⟩
              go_wp2_with fail
              go_meet
              exact ⟨by simp, hb1.trans (x.2.mono hb1.size), Ab.cells BX⟩
            · have hX : decide ((0 : Int) ≤ X) = true := by have := HDD.out; revert this; cases decide ((0 : Int) ≤ X) <;> intro this <;> first | rfl | cases this
              cases n1
              · skip
                refine wp_region_above (by kernel_rfl) (by kernel_rfl) ?_
                repeat (go_big_quiet_step (first
                  | (go_at_call 44; with_reducible exact Ab.same (HD.out _))
                  | (go_at_call 41; with_reducible exact Ab.same (H1.out _))
                  | (go_at_call 41; with_reducible exact Ab.same (H2.out _))
                  | (go_at_call 41; with_reducible exact Ab.same (H3.out _))
                  | (go_at_call 45; with_reducible exact Ab.step (HC.out _))))
                refine wpQuiet_nil ?_
                rintro _ ⟨x, rfl⟩
                go_wp2_with fail
                go_meet
                exact ⟨by rw [hX]; simp, hb1.trans (x.2.mono hb1.size), Ab.cells BX⟩
              · skip
                cases n2
                · skip
                  refine wp_region_above (by kernel_rfl) (by kernel_rfl) ?_
                  repeat (go_big_quiet_step (first
                    | (go_at_call 44; with_reducible exact Ab.same (HD.out _))
                    | (go_at_call 41; with_reducible exact Ab.same (H1.out _))
                    | (go_at_call 41; with_reducible exact Ab.same (H2.out _))
                    | (go_at_call 41; with_reducible exact Ab.same (H3.out _))
                    | (go_at_call 45; with_reducible exact Ab.step (HC.out _))))
                  refine wpQuiet_nil ?_
                  rintro _ ⟨x, rfl⟩
                  go_wp2_with fail
                  go_meet
                  exact ⟨by rw [hX]; simp, hb1.trans (x.2.mono hb1.size), Ab.cells BX⟩
                · skip
                  cases ft
                  · skip
                    cases n3
                    · skip
                      refine wp_region_above (by kernel_rfl) (by kernel_rfl) ?_
                      repeat (go_big_quiet_step (first
                        | (go_at_call 44; with_reducible exact Ab.same (HD.out _))
                        | (go_at_call 41; with_reducible exact Ab.same (H1.out _))
                        | (go_at_call 41; with_reducible exact Ab.same (H2.out _))
                        | (go_at_call 41; with_reducible exact Ab.same (H3.out _))
                        | (go_at_call 45; with_reducible exact Ab.step (HC.out _))))
                      refine wpQuiet_nil ?_
                      rintro _ ⟨x, rfl⟩
                      go_wp2_with fail
                      go_meet
                      exact ⟨by rw [hX]; simp, hb1.trans (x.2.mono hb1.size), Ab.cells BX⟩
                    · skip
                      by_cases hr : rc = 0
                      · subst hr
                        refine wp_region_above (by kernel_rfl) (by kernel_rfl) ?_
                        repeat (go_big_quiet_step (first
                          | (go_at_call 44; with_reducible exact Ab.same (HD.out _))
                          | (go_at_call 41; with_reducible exact Ab.same (H1.out _))
                          | (go_at_call 41; with_reducible exact Ab.same (H2.out _))
                          | (go_at_call 41; with_reducible exact Ab.same (H3.out _))
                          | (go_at_call 45; with_reducible exact Ab.step (HC.out _))))
                        refine wpQuiet_nil ?_
                        rintro _ ⟨x, rfl⟩
                        go_wp2_with fail
                        go_meet
                        exact ⟨by rw [hX]; simp, hb1.trans (x.2.mono hb1.size), Ab.cells BX⟩
                      · have hr' : (rc == 0) = false := by rw [beq_eq_false_iff_ne]; exact hr
                        refine wp_region_above (by kernel_rfl) (by kernel_rfl) ?_
                        repeat (go_big_quiet_step (first
                          | (go_at_call 44; with_reducible exact Ab.same (HD.out _))
                          | (go_at_call 41; with_reducible exact Ab.same (H1.out _))
                          | (go_at_call 41; with_reducible exact Ab.same (H2.out _))
                          | (go_at_call 41; with_reducible exact Ab.same (H3.out _))
                          | (go_at_call 45; with_reducible exact Ab.step (HC.out _))))
                        refine wpQuiet_nil ?_
                        rintro _ ⟨x, rfl⟩
                        go_wp2_with fail
                        go_meet
                        exact ⟨by rw [hX]; simp [hr], hb1.trans (x.2.mono hb1.size), Ab.cells BX⟩
                  · skip
                    refine wp_region_above (by kernel_rfl) (by kernel_rfl) ?_
                    repeat (go_big_quiet_step (first
                      | (go_at_call 44; with_reducible exact Ab.same (HD.out _))
                      | (go_at_call 41; with_reducible exact Ab.same (H1.out _))
                      | (go_at_call 41; with_reducible exact Ab.same (H2.out _))
                      | (go_at_call 41; with_reducible exact Ab.same (H3.out _))
                      | (go_at_call 45; with_reducible exact Ab.step (HC.out _))))
                    refine wpQuiet_nil ?_
                    rintro _ ⟨x, rfl⟩
                    go_wp2_with fail
                    go_meet
                    exact ⟨by rw [hX]; simp, hb1.trans (x.2.mono hb1.size), Ab.cells BX⟩
          · obtain ⟨j, rfl⟩ : ∃ j, k = j + 1 := ⟨k - 1, by omega⟩
            have K0 : decide ((0 : Int) < ((j + 1 : Nat) : Int)) = true := decide_eq_true (by omega)
            have hj1 : (j : Int) < l.length := by omega
            have hpj : ∀ x : Ab W, x.1.cell? ⟨b, o + j * 5, none⟩ = some (.int .i64 last) := fun _ => Ab.cell (hprev1 j rfl) hbW
            clear hp0 hprev1
            cases dd
            · skip
              refine wp_region_above (by kernel_rfl) (by kernel_rfl) ?_
              repeat (go_big_quiet_step (first
                | (go_at_call 44; with_reducible exact Ab.same (HD.out _))
                | (go_at_call 41; with_reducible exact Ab.same (H1.out _))
                | (go_at_call 41; with_reducible exact Ab.same (H2.out _))
                | (go_at_call 41; with_reducible exact Ab.same (H3.out _))
                | (go_at_call 45; with_reducible exact Ab.step (HC.out _))))
              refine wpQuiet_nil ?_
              rintro _ ⟨x, rfl⟩
              go_wp2_with fail
              go_meet
              exact ⟨by simp, hb1.trans (x.2.mono hb1.size), Ab.cells BX⟩
            · by_cases hX' : X < last
              · have hX := decide_eq_true hX'
                refine wp_region_above (by kernel_rfl) (by kernel_rfl) ?_
                repeat (go_big_quiet_step (first
                  | (go_at_call 44; with_reducible exact Ab.same (HD.out _))
                  | (go_at_call 41; with_reducible exact Ab.same (H1.out _))
                  | (go_at_call 41; with_reducible exact Ab.same (H2.out _))
                  | (go_at_call 41; with_reducible exact Ab.same (H3.out _))
                  | (go_at_call 45; with_reducible exact Ab.step (HC.out _))))
                refine wpQuiet_nil ?_
                rintro _ ⟨x, rfl⟩
                go_wp2_with fail
                go_meet
                exact ⟨by rw [decide_eq_false (by omega : ¬ last ≤ X)]; simp, hb1.trans (x.2.mono hb1.size), Ab.cells BX⟩
              · have hX := decide_eq_false hX'
                cases n1
                · skip
                  refine wp_region_above (by kernel_rfl) (by kernel_rfl) ?_
                  repeat (go_big_quiet_step (first
                    | (go_at_call 44; with_reducible exact Ab.same (HD.out _))
                    | (go_at_call 41; with_reducible exact Ab.same (H1.out _))
                    | (go_at_call 41; with_reducible exact Ab.same (H2.out _))
                    | (go_at_call 41; with_reducible exact Ab.same (H3.out _))
                    | (go_at_call 45; with_reducible exact Ab.step (HC.out _))))
                  refine wpQuiet_nil ?_
                  rintro _ ⟨x, rfl⟩
                  go_wp2_with fail
                  go_meet
                  exact ⟨by rw [decide_eq_true (by omega : last ≤ X)]; simp, hb1.trans (x.2.mono hb1.size), Ab.cells BX⟩
                · skip
                  cases n2
                  · skip
                    refine wp_region_above (by kernel_rfl) (by kernel_rfl) ?_
                    repeat (go_big_quiet_step (first
                      | (go_at_call 44; with_reducible exact Ab.same (HD.out _))
                      | (go_at_call 41; with_reducible exact Ab.same (H1.out _))
                      | (go_at_call 41; with_reducible exact Ab.same (H2.out _))
                      | (go_at_call 41; with_reducible exact Ab.same (H3.out _))
                      | (go_at_call 45; with_reducible exact Ab.step (HC.out _))))
                    refine wpQuiet_nil ?_
                    rintro _ ⟨x, rfl⟩
                    go_wp2_with fail
                    go_meet
                    exact ⟨by rw [decide_eq_true (by omega : last ≤ X)]; simp, hb1.trans (x.2.mono hb1.size), Ab.cells BX⟩
                  · skip
                    cases ft
                    · skip
                      cases n3
                      · skip
                        refine wp_region_above (by kernel_rfl) (by kernel_rfl) ?_
                        repeat (go_big_quiet_step (first
                          | (go_at_call 44; with_reducible exact Ab.same (HD.out _))
                          | (go_at_call 41; with_reducible exact Ab.same (H1.out _))
                          | (go_at_call 41; with_reducible exact Ab.same (H2.out _))
                          | (go_at_call 41; with_reducible exact Ab.same (H3.out _))
                          | (go_at_call 45; with_reducible exact Ab.step (HC.out _))))
                        refine wpQuiet_nil ?_
                        rintro _ ⟨x, rfl⟩
                        go_wp2_with fail
                        go_meet
                        exact ⟨by rw [decide_eq_true (by omega : last ≤ X)]; simp, hb1.trans (x.2.mono hb1.size), Ab.cells BX⟩
                      · skip
                        by_cases hr : rc = 0
                        · subst hr
                          refine wp_region_above (by kernel_rfl) (by kernel_rfl) ?_
                          repeat (go_big_quiet_step (first
                            | (go_at_call 44; with_reducible exact Ab.same (HD.out _))
                            | (go_at_call 41; with_reducible exact Ab.same (H1.out _))
                            | (go_at_call 41; with_reducible exact Ab.same (H2.out _))
                            | (go_at_call 41; with_reducible exact Ab.same (H3.out _))
                            | (go_at_call 45; with_reducible exact Ab.step (HC.out _))))
                          refine wpQuiet_nil ?_
                          rintro _ ⟨x, rfl⟩
                          go_wp2_with fail
                          go_meet
                          exact ⟨by rw [decide_eq_true (by omega : last ≤ X)]; simp, hb1.trans (x.2.mono hb1.size), Ab.cells BX⟩
                        · have hr' : (rc == 0) = false := by rw [beq_eq_false_iff_ne]; exact hr
                          refine wp_region_above (by kernel_rfl) (by kernel_rfl) ?_
                          repeat (go_big_quiet_step (first
                            | (go_at_call 44; with_reducible exact Ab.same (HD.out _))
                            | (go_at_call 41; with_reducible exact Ab.same (H1.out _))
                            | (go_at_call 41; with_reducible exact Ab.same (H2.out _))
                            | (go_at_call 41; with_reducible exact Ab.same (H3.out _))
                            | (go_at_call 45; with_reducible exact Ab.step (HC.out _))))
                          refine wpQuiet_nil ?_
                          rintro _ ⟨x, rfl⟩
                          go_wp2_with fail
                          go_meet
                          exact ⟨by rw [decide_eq_true (by omega : last ≤ X)]; simp [hr], hb1.trans (x.2.mono hb1.size), Ab.cells BX⟩
                    · skip
                      refine wp_region_above (by kernel_rfl) (by kernel_rfl) ?_
                      repeat (go_big_quiet_step (first
                        | (go_at_call 44; with_reducible exact Ab.same (HD.out _))
                        | (go_at_call 41; with_reducible exact Ab.same (H1.out _))
                        | (go_at_call 41; with_reducible exact Ab.same (H2.out _))
                        | (go_at_call 41; with_reducible exact Ab.same (H3.out _))
                        | (go_at_call 45; with_reducible exact Ab.step (HC.out _))))
                      refine wpQuiet_nil ?_
                      rintro _ ⟨x, rfl⟩
                      go_wp2_with fail
                      go_meet
                      exact ⟨by rw [decide_eq_true (by omega : last ≤ X)]; simp, hb1.trans (x.2.mono hb1.size), Ab.cells BX⟩
        case rest =>
          obtain ⟨rfl, hbx, BY⟩ := hcut
          clear hprev1 hp0 hbW
          have HCB : Hid ((!(dd && decide (last ≤ X) && n1 && n2 && !ft && n3 && decide (rc = 0))) = true → FO = false) := Lib.hid (by
            intro h
            rw [HFO.out]
            have := HDD.out
            cases dd
            · have : decide (last ≤ X) = false ∨ decide (X ≤ 99999) = false := by
                rcases Bool.eq_false_or_eq_true (decide (X ≤ 99999)) with h9 | h9
                · left
                  rw [h9, Bool.and_true] at this
                  exact decide_eq_false (fun h' => by have := of_decide_eq_false this.symm; have := HP0.out; omega)
                · exact .inr h9
              rcases this with h1 | h1 <;> rw [h1] <;> simp
            · cases n1
              · simp
              cases n2
              · simp
              cases ft
              case true => simp
              cases n3
              · simp
              cases e1 : decide (last ≤ X)
              · simp
              cases e2 : decide (rc = 0)
              · simp
              rw [e1, e2] at h
              cases h)
          have HCG : Hid ((!(dd && decide (last ≤ X) && n1 && n2 && !ft && n3 && decide (rc = 0))) = false → rc = 0 ∧ FO = (!decide (a4 = Z.zeroS) && Z.plusB a4) ∧ 0 ≤ X) := Lib.hid (by
            intro h
            rw [Bool.not_eq_false'] at h
            simp only [Bool.and_eq_true] at h
            obtain ⟨⟨⟨⟨⟨⟨h1, h2⟩, h3⟩, h4⟩, h5⟩, h6⟩, h7⟩ := h
            subst h1 h3 h4 h6
            have hh := HDD.out
            rw [eq_comm, Bool.and_eq_true] at hh
            refine ⟨of_decide_eq_true h7, ?_, of_decide_eq_true hh.1⟩
            rw [HFO.out, h2, h5, h7, hh.2]
            simp)
          generalize (!(dd && decide (last ≤ X) && n1 && n2 && !ft && n3 && decide (rc = 0))) = bad at *
          have p4 := BY.cell 4
          cases bad
          · obtain ⟨hrc, hFO, hX0⟩ := HCG.out rfl
            have hap := HRP.out hrc
            have hpl := HPL.out hap
            clear HD H1 H2 H3 HC hrc
            cases g5 : decide (a4 = Z.zeroS)
            · rw [g5] at e2 hFO
              cases g6 : Z.plusB a4
              · have g7 : ((a4[0].toNat : Int) == 45) = true := by rw [g6] at hpl; cases h : ((a4[0].toNat : Int) == 45) <;> rw [h] at hpl <;> first | rfl | cases hpl
                rw [g6] at hFO
                have HFF := Lib.hid (HB.out hFO)
                clear HB HG hFO HCB HCG
                go_wp2_with fail
                go_ret
                exact ⟨ret_int HFF.out, hbx⟩
              · have g7 : ((a4[0].toNat : Int) == 45) = false := by rw [g6] at hpl; cases h : ((a4[0].toNat : Int) == 45) <;> rw [h] at hpl <;> first | rfl | cases hpl
                rw [g6] at hFO
                have HFF := Lib.hid (HG.out hFO)
                clear HB HG hFO HCB HCG
                go_wp2_with fail
                go_roundw
                case rel => exact ⟨k + 1, by omega, by go_num, HFF, Lib.hid (by rw [HPD.out]; exact hX0), hbx⟩
                case measure => simp [intOf]; omega
            · rw [g5] at e2 hFO
              have HFF := Lib.hid (HB.out hFO)
              clear HB HG hFO HCB HCG
              go_wp2_with fail
              go_ret
              exact ⟨ret_int HFF.out, hbx⟩
          · have HFF := Lib.hid (HB.out (HCB.out rfl))
            clear HB HG HCB HCG
            go_wp2_with fail
            go_ret
            exact ⟨ret_int HFF.out, hbx⟩
      · obtain rfl : k = l.length := by omega
        go_wp2_with fail
        go_ret
        exact ⟨ret_int (by rw [HE.out, HK.out, Z.fls_end]; rfl), hbr⟩
end Go.Proofs.Ytdjghmpaopfboaa
