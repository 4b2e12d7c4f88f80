/- Walk: the reference's Valid. -/
import Derived.Test.YtdjghmpaopfboaaClturn
import Derived.Test.YtdjghmpaopfboaaClflowr
import Derived.Test.YtdjghmpaopfboaaClgone
import Derived.Test.YtdjghmpaopfboaaCleq
namespace Go.Proofs.Ytdjghmpaopfboaa
open Go.RowKit
attribute [local go_sem ↓] neq_flow
theorem SC.take {w : World} {A : Option Addr} {c k : Nat} {l : List Z.Cl} (h : SC w (.slice A l.length c) l) (hk : k ≤ l.length) : SC w (.slice A k c) (l.take k) := by
  obtain ⟨A', c', hv, h1, h2, h3⟩ := h
  obtain ⟨rfl, _, rfl⟩ := hv
  have e : (l.take k).length = k := by rw [List.length_take]; omega
  refine ⟨_, _, by rw [e], by omega, h2, fun hp => ?_⟩
  obtain ⟨b, o, hA, hb, hc⟩ := h3 (by omega)
  refine ⟨b, o, hA, hb, fun i d hd j x hx => hc i d ?_ j x hx⟩
  rw [List.getElem?_take] at hd
  split at hd
  · exact hd
  · cases hd
set_option maxRecDepth 100000 in
set_option maxHeartbeats 16000000 in
theorem rvalid_any (v : Value) (l : List Z.Cl) (w : World) (hS : SC w v l) (hs : ∀ x ∈ l, x.fl.small) :
    Calls Try.prog 21 #[.agg #[v]] w fun e w' => e = .returned (.bool (Z.valid l)) ∧ Below w.heap.size w w' := by
  have HS := Lib.hid hS
  obtain ⟨A, c, rfl, hlc, hcm, _⟩ := hS
  unfold maxLen at hcm
  have hb0 := (Below.refl _ w).alloc (Nat.le_refl w.heap.size) (.cells #[.slice A l.length c] 24)
  have BL := Blk.new w 24 #[.slice A l.length c]
  have hl0 := BL.cell 0
  by_cases hl : 5000 < l.length
  · go_enter Try.func21, Try.ntmps21
    go_wp2_with fail
    go_ret
    exact ⟨ret_bool (by unfold Z.valid; rw [decide_eq_false (by omega)]; rfl), hb0⟩
  · have HE : Hid (Z.valid l = Z.clsOk l 0 l) := Lib.hid (by unfold Z.valid; rw [decide_eq_true (by omega)]; rfl)
    go_enter Try.func21, Try.ntmps21
    go_wp2_with fail
    generalize (w.alloc (.cells #[.slice A l.length c] 24)) = W0 at *
    have HIN : Hid (Below w.heap.size w W0) := Lib.hid hb0
    clear hl0 hb0 BL
    go_loopw [4] (fun iv wr => ∃ k : Nat, k ≤ l.length ∧ iv = .int .i64 k ∧ Hid (Z.clsOk l 0 l = Z.clsOk l k (l.drop k)) ∧ Hid (Below w.heap.size w wr)) (fun iv _ => l.length - (intOf iv).toNat)
    case atStart => exact ⟨0, by omega, rfl, Lib.hid rfl, HIN⟩
    case round =>
      obtain ⟨k, hk, rfl, HK, HI⟩ := hrel
      clear HIN
      by_cases hlt : k < l.length
      · have hz : l[k]? = some l[k] := List.getElem?_eq_getElem hlt
        have HZ := Lib.hid hz
        have HB : Hid (Z.clOk l k l[k] = false → Z.valid l = false) := Lib.hid fun h => by rw [HE.out, HK.out, Z.cls_step hz, h]; rfl
        have HG : Hid (Z.clOk l k l[k] = true → Z.clsOk l 0 l = Z.clsOk l (k + 1) (l.drop (k + 1))) := Lib.hid fun h => by rw [HK.out, Z.cls_step hz, h, Bool.true_and]
        have hsm := hs _ (List.mem_of_getElem? hz)
        have hbr := HI.out
        obtain ⟨b, o, rfl, hbl, hcj⟩ := (HS.out.below hbr).at_ (by omega)
        have hcc := cc_of (hcj k _ hz)
        have HCJ := Lib.hid hcj
        have hprev : ∀ j, k = j + 1 → wr.cell? ⟨b, o + j * 8 + 2, none⟩ = some (.int .i64 (Z.prevE l k)) := by
          intro j e
          subst e
          have hj : l[j]? = some l[j] := List.getElem?_eq_getElem (by omega)
          rw [show Z.prevE l (j + 1) = l[j].e by show (match l[j]? with | some x => x.e | none => 0) = _; rw [hj]]
          exact hcj j _ hj 2 _ rfl
        have hp0 : k = 0 → Z.prevE l k = 0 := by rintro rfl; rfl
        have HC1 : Hid (Z.c1B l k l[k] = (decide (l[k].n = k + 1) && decide (0 ≤ l[k].e) && decide (l[k].e ≤ 1125899906842624) && decide (Z.prevE l k ≤ l[k].e) && decide (Z.flE [l[k].fl] = 0))) := Lib.hid rfl
        have HCO := Lib.hid (Z.clOk_eq l k l[k])
        clear hcj hz
        generalize hx : l[k] = x at *
        have HX := Lib.hid hx
        clear hx
        generalize Z.prevE l k = last at *
        generalize Z.c1B l k x = c1 at *
        obtain ⟨c0, c1', c2, c3, c4, c5, c6, c7⟩ := hcc
        have BX := Blk.new wr 38 #[.int .i64 x.n, .int .i64 x.r, .int .i64 x.e, .int .i64 x.fl.d, .string x.fl.f, .string x.fl.t, .string x.fl.c, .string x.fl.a]
        have hba := (Below.refl _ wr).alloc (Nat.le_refl wr.heap.size) (.cells #[.int .i64 x.n, .int .i64 x.r, .int .i64 x.e, .int .i64 x.fl.d, .string x.fl.f, .string x.fl.t, .string x.fl.c, .string x.fl.a] 38)
        have hprev1 : ∀ j, k = j + 1 → (wr.alloc (.cells #[.int .i64 x.n, .int .i64 x.r, .int .i64 x.e, .int .i64 x.fl.d, .string x.fl.f, .string x.fl.t, .string x.fl.c, .string x.fl.a] 38)).cell? ⟨b, o + j * 8 + 2, none⟩ = some (.int .i64 last) := fun j e => (hba.cell (p := ⟨b, o + j * 8 + 2, none⟩) hbl).trans (hprev j e)
        clear hprev
        go_upto_region 8 with fail
        clear c0 c1' c2 c3 c4 c5 c6 c7
        have hx0 := BX.cell 0
        have hx1 := BX.cell 1
        have hx2 := BX.cell 2
        have hx3 := BX.cell 3
        have hx4 := BX.cell 4
        have hx5 := BX.cell 5
        have hx6 := BX.cell 6
        have hx7 := BX.cell 7
        have CF : Hid (∀ W' : World, Below (wr.alloc (.cells #[.int .i64 x.n, .int .i64 x.r, .int .i64 x.e, .int .i64 x.fl.d, .string x.fl.f, .string x.fl.t, .string x.fl.c, .string x.fl.a] 38)).heap.size (wr.alloc (.cells #[.int .i64 x.n, .int .i64 x.r, .int .i64 x.e, .int .i64 x.fl.d, .string x.fl.f, .string x.fl.t, .string x.fl.c, .string x.fl.a] 38)) W' → ∀ {v}, SF W' v [x.fl] → Calls Try.prog 28 #[v] W' fun e w' => e = .returned (.int .i64 (Z.flE [x.fl])) ∧ Below W'.heap.size W' w') := Lib.hid fun W' _ v hv => rflows_any v [x.fl] W' hv (by simpa using hsm)
        generalize (wr.alloc (.cells #[.int .i64 x.n, .int .i64 x.r, .int .i64 x.e, .int .i64 x.fl.d, .string x.fl.f, .string x.fl.t, .string x.fl.c, .string x.fl.a] 38)) = W at *
        go_cut [58] (fun bv wx => bv = .bool (!c1) ∧ Below W.heap.size W wx)
        case first =>
          clear HB HG HX HCO HI HCJ BX
          by_cases h1 : x.n = k + 1
          case neg =>
            have h1' : (x.n != (k : Int) + 1) = true := by rw [bne_iff_ne]; exact h1
            clear hprev1 hp0
            refine wp_region_tail 33 (by kernel_rfl) (by kernel_rfl) ?_
            simp only [List.take_succ_cons, List.take_zero, List.drop_succ_cons, List.drop_zero]
            repeat (go_big_quiet_step (fail))
            refine wpQuiet_nil ?_
            go_wp2_with fail
            go_meet
            exact ⟨by rw [HC1.out, decide_eq_false h1]; simp, (Below.refl _ W).drew⟩
          have h1' : (x.n != (k : Int) + 1) = false := by rw [bne_eq_false_iff_eq]; exact h1
          by_cases h2 : 0 ≤ x.e
          case neg =>
            have h2' : decide (x.e < 0) = true := decide_eq_true (by omega)
            clear hprev1 hp0 h1
            refine wp_region_tail 33 (by kernel_rfl) (by kernel_rfl) ?_
            simp only [List.take_succ_cons, List.take_zero, List.drop_succ_cons, List.drop_zero]
            repeat (go_big_quiet_step (fail))
            refine wpQuiet_nil ?_
            go_wp2_with fail
            go_meet
            exact ⟨by rw [HC1.out, decide_eq_false (by omega : ¬ 0 ≤ x.e)]; simp, (Below.refl _ W).drew⟩
          have h2' : decide (x.e < 0) = false := decide_eq_false (by omega)
          by_cases h3 : x.e ≤ 1125899906842624
          case neg =>
            have h3' : decide (1125899906842624 < x.e) = true := decide_eq_true (by omega)
            clear hprev1 hp0 h1
            refine wp_region_tail 33 (by kernel_rfl) (by kernel_rfl) ?_
            simp only [List.take_succ_cons, List.take_zero, List.drop_succ_cons, List.drop_zero]
            repeat (go_big_quiet_step (fail))
            refine wpQuiet_nil ?_
            go_wp2_with fail
            go_meet
            exact ⟨by rw [HC1.out, decide_eq_false (by omega : ¬ x.e ≤ 1125899906842624)]; simp, (Below.refl _ W).drew⟩
          have h3' : decide (1125899906842624 < x.e) = false := decide_eq_false (by omega)
          have H1 := Lib.hid h1
          clear h1
          by_cases k0 : k = 0
          · have K0 : decide ((0 : Int) < (k : Int)) = false := decide_eq_false (by omega)
            have K0n : decide (0 < k) = false := decide_eq_false (by omega)
            obtain rfl : last = 0 := hp0 k0
            clear hp0 hprev1 k0
            refine wp_region_tail 33 (by kernel_rfl) (by kernel_rfl) ?_
            simp only [List.take_succ_cons, List.take_zero, List.drop_succ_cons, List.drop_zero]
            repeat (go_big_quiet_step (fail))
            refine wpQuiet_nil ?_
            go_wp2_with fail
            have hSF := sf_one W.drew x.fl
            have hbA := ((Below.refl _ W).drew).alloc (Nat.le_refl W.heap.size) (.cells #[.int .i64 x.fl.d, .string x.fl.f, .string x.fl.t, .string x.fl.c, .string x.fl.a] 36)
            refine (CF.out _ hbA hSF).mono ?_
            rintro e w9 ⟨rfl, hb9⟩
            have hb9' := hbA.trans (hb9.mono hbA.size)
            by_cases h5 : Z.flE [x.fl] = 0
            · rw [h5]
              go_wp2_with fail
              go_meet
              exact ⟨by rw [HC1.out, decide_eq_true H1.out, decide_eq_true h2, decide_eq_true h3, h5]; simp, hb9'⟩
            · have h5' : (Z.flE [x.fl] != 0) = true := by rw [bne_iff_ne]; exact h5
              go_wp2_with fail
              go_meet
              exact ⟨by rw [HC1.out, decide_eq_false h5]; simp, hb9'⟩
          · obtain ⟨j, rfl⟩ : ∃ j, k = j + 1 := ⟨k - 1, by omega⟩
            have hj1 : (j : Int) < l.length := by omega
            have hpj := hprev1 j rfl
            have h1j : (x.n != (j : Int) + 1 + 1) = false := by have := H1.out; rw [bne_eq_false_iff_eq]; omega
            clear hp0 hprev1
            by_cases h4 : last ≤ x.e
            · have h4' : decide (x.e < last) = false := decide_eq_false (by omega)
              refine wp_region_tail 33 (by kernel_rfl) (by kernel_rfl) ?_
              simp only [List.take_succ_cons, List.take_zero, List.drop_succ_cons, List.drop_zero]
              repeat (go_big_quiet_step (fail))
              refine wpQuiet_nil ?_
              go_wp2_with fail
              have hSF := sf_one W.drew x.fl
              have hbA := ((Below.refl _ W).drew).alloc (Nat.le_refl W.heap.size) (.cells #[.int .i64 x.fl.d, .string x.fl.f, .string x.fl.t, .string x.fl.c, .string x.fl.a] 36)
              refine (CF.out _ hbA hSF).mono ?_
              rintro e w9 ⟨rfl, hb9⟩
              have hb9' := hbA.trans (hb9.mono hbA.size)
              by_cases h5 : Z.flE [x.fl] = 0
              · rw [h5]
                go_wp2_with fail
                go_meet
                exact ⟨by rw [HC1.out, decide_eq_true H1.out, decide_eq_true h2, decide_eq_true h3, decide_eq_true h4, h5]; simp, hb9'⟩
              · have h5' : (Z.flE [x.fl] != 0) = true := by rw [bne_iff_ne]; exact h5
                go_wp2_with fail
                go_meet
                exact ⟨by rw [HC1.out, decide_eq_false h5]; simp, hb9'⟩
            · have h4' : decide (x.e < last) = true := decide_eq_true (by omega)
              refine wp_region_tail 33 (by kernel_rfl) (by kernel_rfl) ?_
              simp only [List.take_succ_cons, List.take_zero, List.drop_succ_cons, List.drop_zero]
              repeat (go_big_quiet_step (fail))
              refine wpQuiet_nil ?_
              go_wp2_with fail
              go_meet
              exact ⟨by rw [HC1.out, decide_eq_false (by omega : ¬ last ≤ x.e)]; simp, (Below.refl _ W).drew⟩
        case rest =>
          obtain ⟨rfl, hbx⟩ := hcut
          have BX1 := BX.below hbx
          have hbw := hba.trans (hbx.mono hba.size)
          have hbr1 := hbr.trans (hbw.mono hbr.size)
          clear hx0 hx1 hx2 hx3 hx4 hx5 hx6 hx7 CF BX hprev1 hp0 hba
          have hx1 := BX1.cell 1
          cases hc1 : c1
          · rw [hc1] at HCO
            have HF := Lib.hid (HB.out HCO.out)
            clear HB HG HC1
            go_wp2_with fail
            go_ret
            exact ⟨ret_bool HF.out.symm, hbr1⟩
          · rw [hc1] at HCO
            clear HC1 hc1
            by_cases hr0 : x.r = 0
            · have hr0' : (x.r == 0) = true := by rw [beq_iff_eq]; exact hr0
              have HF := Lib.hid (HG.out (by rw [HCO.out, Z.revOk_zero hr0]; rfl))
              clear HB HG hr0
              go_wp2_with fail
              go_roundw
              case rel => exact ⟨k + 1, by omega, by go_num, HF, Lib.hid hbr1⟩
              case measure => simp [intOf]; omega
            · have hr0' : (x.r == 0) = false := by rw [beq_eq_false_iff_ne]; exact hr0
              have HFAR := Lib.hid (Z.revOk_far (l := l) (i := k) (x := x) hr0)
              have GN := Lib.hid (fun (W' : World) (hb' : Below wc.heap.size wc W') => gone_any x.r _ (l.take k) W' (SC.take (HS.out.below (hbr1.trans (hb'.mono hbr1.size))) hk))
              have BXq : ∀ q : Ab wc, q.1.cell? ⟨wr.heap.size, 1, none⟩ = some (.int .i64 x.r) := fun _ => (Ab.cells BX1).cell 1
              go_upto_region 11 with fail
              clear hx1
              go_cut [78] (fun bv wx => bv = .bool (decide (x.r < 1) || decide ((k : Int) < x.r) || Z.gone (l.take k) x.r) ∧ Below wc.heap.size wc wx)
              case first =>
                have hk1 : (k : Int) ≤ c := by omega
                have hk2 : (0 : Int) ≤ k := by omega
                clear HFAR HB HG HCO HCJ HZ HX
                by_cases hr1 : x.r < 1
                · have hr1' := decide_eq_true hr1
                  refine wp_region_above (by kernel_rfl) (by kernel_rfl) ?_
                  repeat (go_big_quiet_step (fail))
                  refine wpQuiet_nil ?_
                  rintro _ ⟨q', rfl⟩
                  go_wp2_with fail
                  go_meet
                  exact ⟨by rw [hr1']; rfl, q'.2⟩
                have hr1' : decide (x.r < 1) = false := decide_eq_false hr1
                by_cases hr2 : (k : Int) < x.r
                · have hr2' := decide_eq_true hr2
                  refine wp_region_above (by kernel_rfl) (by kernel_rfl) ?_
                  repeat (go_big_quiet_step (fail))
                  refine wpQuiet_nil ?_
                  rintro _ ⟨q', rfl⟩
                  go_wp2_with fail
                  go_meet
                  exact ⟨by rw [hr2', hr1']; rfl, q'.2⟩
                have hr2' : decide ((k : Int) < x.r) = false := decide_eq_false hr2
                refine wp_region_above (by kernel_rfl) (by kernel_rfl) ?_
                repeat (go_big_quiet_step (first
                  | (go_at_call 36; with_reducible exact Ab.same (GN.out _ (Subtype.property _)))))
                refine wpQuiet_nil ?_
                rintro _ ⟨q', rfl⟩
                go_wp2_with fail
                go_meet
                exact ⟨by rw [hr2', hr1']; rfl, q'.2⟩
              case rest =>
              obtain ⟨rfl, hbg⟩ := hcut
              have hbr1 := hbr1.trans (hbg.mono hbr1.size)
              have hbw := hbw.trans (hbg.mono hbw.size)
              have BX1 := BX1.below hbg
              clear GN BXq hbg
              cases hbad : (decide (x.r < 1) || decide ((k : Int) < x.r) || Z.gone (l.take k) x.r)
              case true =>
                have HF := Lib.hid (HB.out (by
                  rw [HCO.out, HFAR.out (by
                    rw [Bool.or_eq_true, Bool.or_eq_true, decide_eq_true_iff, decide_eq_true_iff] at hbad
                    rcases hbad with (h | h) | h
                    · left; omega
                    · right; left; exact h
                    · right; right; exact h)]; rfl))
                clear HB HG hbad
                go_wp2_with fail
                go_ret
                exact ⟨ret_bool HF.out.symm, hbr1⟩
              case false =>
                rw [Bool.or_eq_false_iff, Bool.or_eq_false_iff, decide_eq_false_iff_not, decide_eq_false_iff_not] at hbad
                obtain ⟨⟨hr1, hr2⟩, hgo⟩ := hbad
                obtain ⟨q, hr⟩ : ∃ q : Nat, x.r = (q + 1 : Nat) := ⟨x.r.toNat - 1, by omega⟩
                have HR := Lib.hid hr
                obtain ⟨y, hy⟩ : ∃ y, l[q]? = some y := ⟨_, List.getElem?_eq_getElem (by omega)⟩
                have HN := Lib.hid (Z.revOk_near (l := l) (i := k) (x := x) (y := y) (by omega) (by omega) hgo (by rw [hr]; rw [show (((q + 1 : Nat) : Int) - 1).toNat = q by omega]; exact hy))
                have hyc := (cc_of (HCJ.out q _ hy)).below hbw hbl
                have hx1 := BX1.cell 1
                rw [hr] at hx1 hr1 hr2 hr0'
                clear HFAR hr0 hr hy hgo
                obtain ⟨y0, y1, y2, y3, y4, y5, y6, y7⟩ := hyc
                have BY := Blk.new wc 38 #[.int .i64 y.n, .int .i64 y.r, .int .i64 y.e, .int .i64 y.fl.d, .string y.fl.f, .string y.fl.t, .string y.fl.c, .string y.fl.a]
                have hbd := (Below.refl _ wc).alloc (Nat.le_refl wc.heap.size) (.cells #[.int .i64 y.n, .int .i64 y.r, .int .i64 y.e, .int .i64 y.fl.d, .string y.fl.f, .string y.fl.t, .string y.fl.c, .string y.fl.a] 38)
                go_upto_region 14 with fail
                have hbr2 := hbr1.trans (hbd.mono hbr1.size)
                have BXc := BX1.below hbd
                clear y0 y1 y2 y3 y4 y5 y6 y7 hx1
                generalize (wc.alloc (.cells #[.int .i64 y.n, .int .i64 y.r, .int .i64 y.e, .int .i64 y.fl.d, .string y.fl.f, .string y.fl.t, .string y.fl.c, .string y.fl.a] 38)) = W2 at *
                have OP := Lib.hid (turned_any x.fl)
                go_cut [95] (fun bv wx => bv = .bool (!(decide (y.r = 0) && decide (y.fl = Z.opp x.fl))) ∧ Below W2.heap.size W2 wx)
                case first =>
                  have z1 : ∀ q : Ab W2, q.1.cell? ⟨wc.heap.size, 1, none⟩ = some (.int .i64 y.r) := fun _ => (Ab.cells BY).cell 1
                  have z3 : ∀ q : Ab W2, q.1.cell? ⟨wc.heap.size, 3, none⟩ = some (.int .i64 y.fl.d) := fun _ => (Ab.cells BY).cell 3
                  have z4 : ∀ q : Ab W2, q.1.cell? ⟨wc.heap.size, 4, none⟩ = some (.string y.fl.f) := fun _ => (Ab.cells BY).cell 4
                  have z5 : ∀ q : Ab W2, q.1.cell? ⟨wc.heap.size, 5, none⟩ = some (.string y.fl.t) := fun _ => (Ab.cells BY).cell 5
                  have z6 : ∀ q : Ab W2, q.1.cell? ⟨wc.heap.size, 6, none⟩ = some (.string y.fl.c) := fun _ => (Ab.cells BY).cell 6
                  have z7 : ∀ q : Ab W2, q.1.cell? ⟨wc.heap.size, 7, none⟩ = some (.string y.fl.a) := fun _ => (Ab.cells BY).cell 7
                  have x3 : ∀ q : Ab W2, q.1.cell? ⟨wr.heap.size, 3, none⟩ = some (.int .i64 x.fl.d) := fun _ => (Ab.cells BXc).cell 3
                  have x4 : ∀ q : Ab W2, q.1.cell? ⟨wr.heap.size, 4, none⟩ = some (.string x.fl.f) := fun _ => (Ab.cells BXc).cell 4
                  have x5 : ∀ q : Ab W2, q.1.cell? ⟨wr.heap.size, 5, none⟩ = some (.string x.fl.t) := fun _ => (Ab.cells BXc).cell 5
                  have x6 : ∀ q : Ab W2, q.1.cell? ⟨wr.heap.size, 6, none⟩ = some (.string x.fl.c) := fun _ => (Ab.cells BXc).cell 6
                  have x7 : ∀ q : Ab W2, q.1.cell? ⟨wr.heap.size, 7, none⟩ = some (.string x.fl.a) := fun _ => (Ab.cells BXc).cell 7
                  by_cases hy0 : y.r = 0
                  · have hy0' : (y.r != 0) = false := by rw [bne_eq_false_iff_eq]; exact hy0
                    refine wp_region_above (by kernel_rfl) (by kernel_rfl) ?_
                    repeat (go_big_quiet_step (first
                      | (go_at_call 27; with_reducible exact Ab.step (OP.out _))))
                    refine wpQuiet_nil ?_
                    rintro _ ⟨q', rfl⟩
                    go_wp2_with fail
                    go_meet
                    exact ⟨by rw [decide_eq_true hy0, Bool.true_and]; rfl, q'.2⟩
                  · have hy0' : (y.r != 0) = true := by rw [bne_iff_ne]; exact hy0
                    refine wp_region_above (by kernel_rfl) (by kernel_rfl) ?_
                    repeat (go_big_quiet_step (fail))
                    refine wpQuiet_nil ?_
                    rintro _ ⟨q', rfl⟩
                    go_wp2_with fail
                    go_meet
                    exact ⟨by rw [decide_eq_false hy0]; rfl, q'.2⟩
                case rest =>
                  obtain ⟨rfl, hbz⟩ := hcut
                  have hbr3 := hbr2.trans (hbz.mono hbr2.size)
                  cases hgd : (decide (y.r = 0) && decide (y.fl = Z.opp x.fl))
                  · have HF := Lib.hid (HB.out (by rw [HCO.out, HN.out, hgd]; rfl))
                    clear HB HG
                    go_wp2_with fail
                    go_ret
                    exact ⟨ret_bool HF.out.symm, hbr3⟩
                  · have HF := Lib.hid (HG.out (by rw [HCO.out, HN.out, hgd]; rfl))
                    clear HB HG hgd
                    go_wp2_with fail
                    go_roundw
                    case rel => exact ⟨k + 1, by omega, by go_num, HF, Lib.hid hbr3⟩
                    case measure => simp [intOf]; omega
      · obtain rfl : k = l.length := by omega
        go_wp2_with fail
        go_ret
        exact ⟨ret_bool (by rw [HE.out, HK.out, Z.cls_end]), HI.out⟩
end Go.Proofs.Ytdjghmpaopfboaa
