/-
  Check, Business and Join return the reference's results and errors for any calendars and day, and Join shares no memory.
-/
import Derived.Test.YtmbbpimihnojeaaRows
import Derived.Test.YtmbbpimihnojeaaCappr
import Derived.Test.YtmbbpimihnojeaaCsame
import Derived.Test.YtmbbpimihnojeaaZjoinb
import Derived.Test.YtmbbpimihnojeaaCalive
import Derived.Test.YtmbbpimihnojeaaCframe
import Derived.ProofKit
import Derived.OpenShut
import Derived.ShutString
namespace Go.Proofs.Ytmbbpimihnojeaa.lawTells
open Go.ChangeShapes Go.WideShapes Go.ChangeAt Go.RowKit
open Go.ChangeMaps (open_string shut_string)

theorem own : ownKnob Try.prog.godebug = none := by kernel_rfl

set_option maxRecDepth 100000 in
set_option maxHeartbeats 4000000 in
theorem walk (wa : Int) (ua : Value) (ha : List Int) (wb : Int) (ub : Value) (hb : List Int) (day : Int) (w : World) (a0 : 0 ≤ wa) (a1 : wa ≤ 255) (sa : SI w ua ha) (na : Nil0 ua) (b0 : 0 ≤ wb) (b1 : wb ≤ 255) (sb : SI w ub hb) (nb : Nil0 ub) (_d0 : -9223372036854775808 ≤ day) (_d1 : day ≤ 9223372036854775807) :
    Calls Try.prog 8 #[.agg #[.int .u8 wa, ua], .agg #[.int .u8 wb, ub], .int .i64 day] w fun e w' => e = .returned (.bool true) ∧ Below w.heap.size w w' := by
  have HJ := Lib.hid (fun (W : World) (hS : Below w.heap.size w W) => join_any wa wb ua ub ha hb W (sa.below hS) (sb.below hS) na nb)
  have HR := Lib.hid (fun (W : World) (hS : Below w.heap.size w W) => rjoin_any wa wb ua ub ha hb W a0 a1 b0 b1 (sa.below hS) (sb.below hS))
  have HCA := Lib.hid (fun (W : World) (hS : Below w.heap.size w W) => ccheck_any wa ua ha W (sa.below hS))
  have HVA := Lib.hid (fun (W : World) (hS : Below w.heap.size w W) => rvalid_any wa ua ha W (sa.below hS))
  have HS := Lib.hid (fun (v : Value) (W : World) (hS : Below w.heap.size w W) (hv : SI W v ha) => rsame_any wa wa ua v ha ha W (sa.below hS) hv)
  have HGA := Lib.hid (fun (W : World) (hS : Below w.heap.size w W) => rgreat_any wa ua ha W (sa.below hS))
  have HGB := Lib.hid (fun (W : World) (hS : Below w.heap.size w W) => rgreat_any wb ub hb W (sb.below hS))
  have HBC := Lib.hid (fun (W : World) (hS : Below w.heap.size w W) => cbusiness_any wa ua ha day W (sa.below hS) a0)
  have HBR := Lib.hid (fun (W : World) (hS : Below w.heap.size w W) => rbusiness_any wa ua ha day W (sa.below hS) a0)
  unfold RetB at HBC HBR
  clear _d0 _d1 b1 a1 sb nb
  go_enter Try.func8, Try.ntmps8
  go_wp2_with fail
  obtain ⟨h0, BA, BB⟩ := two_boxes w wa wb ua ub _ rfl
  generalize ((w.alloc (.cells #[.int .u8 wa, ua] 24)).alloc (.cells #[.int .u8 wb, ub] 24)) = W0 at *
  refine (HGA.out _ h0).mono ?_
  rintro e w1 ⟨rfl, hx⟩
  have BA := BA.below hx
  have BB := BB.below hx
  have h1 := h0.trans (hx.mono h0.size)
  clear hx
  cases hg : great ha
  · have cBA0 := BA.cell 0
    have cBA1 := BA.cell 1
    have cBB0 := BB.cell 0
    have cBB1 := BB.cell 1
    go_wp2_with fail
    refine (HGB.out _ h1).mono ?_
    rintro e w2 ⟨rfl, hx⟩
    have BA := BA.below hx
    have BB := BB.below hx
    have h2 := h1.trans (hx.mono h1.size)
    clear hx cBA0 cBA1 cBB0 cBB1
    cases hg2 : great hb
    · have cBA0 := BA.cell 0
      have cBA1 := BA.cell 1
      have cBB0 := BB.cell 0
      have cBB1 := BB.cell 1
      have lBA := BA.lt
      have lha : ha.length ≤ 10000 := by unfold great at hg; simp at hg; omega
      have HSW := Lib.hid (sa.below h2)
      go_wp2_with fail
      go_cut [7] (TwinP w2 wa ha)
      case first =>
        go_region_law (first
          | (refine step_app_a rfl (.tmp 26) (.tmp 28) rfl infoInt Try.underlying22 w2 ua ha rfl rfl HSW.out na lha ?_
             intro A' c' w3 hO hbB
             have ac0 := (BA.below hbB).cell 0
             have ac1 := (BA.below hbB).cell 1
             have lt3 : w.heap.size < w3.heap.size := Nat.lt_of_lt_of_le lBA hbB.size)
          | (refine step_app_b rfl (.tmp 26) (.tmp 28) rfl infoInt Try.underlying22 w2 ua ha rfl rfl HSW.out na lha ?_
             intro A' c' w3 hO hbB kb
             have ac0 := (BA.below hbB).cell 0
             have ac1 := (BA.below hbB).cell 1
             have lt3 : w.heap.size < w3.heap.size := Nat.lt_of_lt_of_le lBA hbB.size
             have kc0 := kb.cell 0
             have kc1 := kb.cell 1
             have kf0 := kb.frozen 0
             have kf1 := kb.frozen 1)
          | (refine step_app_c rfl (.tmp 26) (.tmp 28) rfl infoInt Try.underlying22 w2 ua ha rfl rfl HSW.out na lha ?_
             intro A' c' w3 hO hbB kb
             have ac0 := (BA.below hbB).cell 0
             have ac1 := (BA.below hbB).cell 1
             have lt3 : w.heap.size < w3.heap.size := Nat.lt_of_lt_of_le lBA hbB.size
             have kc0 := kb.cell 0
             have kc1 := kb.cell 1
             have kf0 := kb.frozen 0
             have kf1 := kb.frozen 1))
        all_goals (go_wp2_with fail)
        all_goals go_meet
        all_goals first
          | exact twin_a hO hbB
          | exact twin_b hO hbB kb (Nat.le_refl _)
          | exact twin_b hO hbB kb (Nat.le_succ _)
      case rest =>
      obtain ⟨g, A7, c7, rfl, hg7, BT, ST, hx⟩ := hcut
      have BA := BA.below hx
      have BB := BB.below hx
      have h3 := h2.trans (hx.mono h2.size)
      clear hx cBA0 cBA1 cBB0 cBB1 HSW lBA lha hg7
      have cBA0 := BA.cell 0
      have cBA1 := BA.cell 1
      go_wp2_with fail
      refine (HBC.out _ h3).mono ?_
      rintro e w4 ⟨rfl, hx⟩
      have BA := BA.below hx
      have BB := BB.below hx
      have BT := BT.below hx
      have ST := ST.below hx
      have h4 := h3.trans (hx.mono h3.size)
      clear hx cBA0 cBA1
      generalize hz1 : (Z.business wa ha day).1 = z1 at *
      generalize hz2 : (Z.business wa ha day).2 = z2 at *
      clear hz1 hz2
      have cBA0 := BA.cell 0
      have cBA1 := BA.cell 1
      go_wp2_with fail
      refine (HBR.out _ h4).mono ?_
      rintro e w5 ⟨rfl, hx⟩
      have BA := BA.below hx
      have BB := BB.below hx
      have BT := BT.below hx
      have ST := ST.below hx
      have h5 := h4.trans (hx.mono h4.size)
      clear hx cBA0 cBA1
      have cBA0 := BA.cell 0
      have cBA1 := BA.cell 1
      have cBB0 := BB.cell 0
      have cBB1 := BB.cell 1
      go_wp2_with fail
      refine (HJ.out _ h5).mono ?_
      rintro e w6 ⟨v, rfl, hO, hx⟩
      obtain ⟨A5, c5, rfl⟩ := hO.shape
      have OC := hO.ownC
      have S5 := hO.si
      clear hO
      have LT5 := Lib.hid (And.intro BT.lt BA.lt)
      have BA := BA.below hx
      have BB := BB.below hx
      have BT := BT.below hx
      have ST5 := ST
      have ST := ST.below hx
      have h6 := h5.trans (hx.mono h5.size)
      have HX6 := Lib.hid hx
      clear hx cBA0 cBA1 cBB0 cBB1
      generalize hE : Z.joinE wa wb ha hb = E at *
      generalize hH : Z.joinH wa wb ha hb = H at *
      generalize hW : Z.joinW wa wb ha hb = WK at *
      have BC := Blk.new w6 24 #[.int .u8 WK, .slice A5 H.length c5]
      have hx : Below w6.heap.size w6 (w6.alloc (.cells #[.int .u8 WK, .slice A5 H.length c5] 24)) := (Below.refl _ _).alloc (Nat.le_refl _) _
      have BA := BA.below hx
      have BB := BB.below hx
      have BT := BT.below hx
      have ST := ST.below hx
      have S5 := S5.below hx
      have OC := OC.below hx
      have h7 := h6.trans (hx.mono h6.size)
      have HX7 := Lib.hid (HX6.out.trans (hx.mono HX6.out.size))
      clear hx
      have cBA0 := BA.cell 0
      have cBA1 := BA.cell 1
      have cBB0 := BB.cell 0
      have cBB1 := BB.cell 1
      have cBC0 := BC.cell 0
      have cBC1 := BC.cell 1
      go_wp2_with fail
      generalize (w6.alloc (.cells #[.int .u8 WK, .slice A5 H.length c5] 24)) = w7 at *
      refine (HR.out _ h7).mono ?_
      rintro e w8 ⟨v, rfl, hO, hx⟩
      rw [hE, hW]
      rw [hH] at hO
      obtain ⟨A6, c6, rfl⟩ := hO.shape
      have S6 := hO.si
      clear hO
      have BA := BA.below hx
      have BB := BB.below hx
      have BC := BC.below hx
      have BT := BT.below hx
      have ST := ST.below hx
      have S5 := S5.below hx
      have OC := OC.below hx
      have h8 := h7.trans (hx.mono h7.size)
      have HX8 := Lib.hid (HX7.out.trans (hx.mono HX7.out.size))
      clear hx cBA0 cBA1 cBB0 cBB1 cBC0 cBC1 hE hH hW
      have BD := Blk.new w8 24 #[.int .u8 WK, .slice A6 H.length c6]
      have hx : Below w8.heap.size w8 (w8.alloc (.cells #[.int .u8 WK, .slice A6 H.length c6] 24)) := (Below.refl _ _).alloc (Nat.le_refl _) _
      have BA := BA.below hx
      have BC := BC.below hx
      have BT := BT.below hx
      have ST := ST.below hx
      have S5 := S5.below hx
      have S6 := S6.below hx
      have OC := OC.below hx
      have h9 := h8.trans (hx.mono h8.size)
      have HX9 := Lib.hid (HX8.out.trans (hx.mono HX8.out.size))
      clear hx BB
      have cBA0 := BA.cell 0
      have cBA1 := BA.cell 1
      have cBC0 := BC.cell 0
      have cBC1 := BC.cell 1
      have cBD0 := BD.cell 0
      have cBD1 := BD.cell 1
      have hEE : (E == E) = true := by simp
      have hZZ : (z1 == z1) = true := by simp
      have hZ2 : (z2 == z2) = true := by simp
      have hwk : (WK == WK && H == H) = true := by simp
      have HSC := Lib.hid (fun (W : World) (hv1 : SI W (.slice A5 H.length c5) H) (hv2 : SI W (.slice A6 H.length c6) H) => rsame_any WK WK _ _ H H W hv1 hv2)
      rw [hwk] at HSC
      clear hwk
      go_wp2_with fail
      generalize (w8.alloc (.cells #[.int .u8 WK, .slice A6 H.length c6] 24)) = w9 at *
      rcases cal_either wa ha with ⟨q1, q2⟩ | ⟨q1, q2⟩
      all_goals
        rw [q1] at HCA
        rw [q2] at HVA
        clear q1 q2
        go_cut [16] (fun bv wx => bv = .bool true ∧ Below w9.heap.size w9 wx)
        case first =>
          have C1 := Lib.hid (HSC.out w9.drew S5 S6)
          have BA0 : Blk w9.drew _ _ _ := BA
          have BC0 : Blk w9.drew _ _ _ := BC
          have BD0 : Blk w9.drew _ _ _ := BD
          have g0 : Below w.heap.size w w9.drew := h9.drew
          go_region_held3 (fun W => W.cell? ⟨w.heap.size, 0, none⟩ = some (.int .u8 wa) ∧ W.cell? ⟨w.heap.size, 1, none⟩ = some ua ∧ W.cell? ⟨w6.heap.size, 0, none⟩ = some (.int .u8 WK) ∧ W.cell? ⟨w6.heap.size, 1, none⟩ = some (.slice A5 H.length c5) ∧ W.cell? ⟨w8.heap.size, 0, none⟩ = some (.int .u8 WK) ∧ W.cell? ⟨w8.heap.size, 1, none⟩ = some (.slice A6 H.length c6))
            (first
              | exact ⟨cBA0, cBA1, cBC0, cBC1, cBD0, cBD1⟩
              | exact ⟨BA1.cell 0, BA1.cell 1, BC1.cell 0, BC1.cell 1, BD1.cell 0, BD1.cell 1⟩
              | exact ⟨BA2.cell 0, BA2.cell 1, BC2.cell 0, BC2.cell 1, BD2.cell 0, BD2.cell 1⟩
              | exact ⟨BA3.cell 0, BA3.cell 1, BC3.cell 0, BC3.cell 1, BD3.cell 0, BD3.cell 1⟩)
            (first
              | (go_at_call 24; (with_reducible refine C1.out.mono ?_); rintro e y1 ⟨rfl, x1⟩; have BA1 := BA0.below x1; have BC1 := BC0.below x1; have BD1 := BD0.below x1; have g1 := g0.trans (x1.mono g0.size); have C2 := Lib.hid (HCA.out y1 g1))
              | (go_at_call 25; (with_reducible refine C2.out.mono ?_); rintro e y2 ⟨rfl, x2⟩; have BA2 := BA1.below x2; have BC2 := BC1.below x2; have BD2 := BD1.below x2; have g2 := g1.trans (x2.mono g1.size); have C3 := Lib.hid (HVA.out y2 g2))
              | (go_at_call 26; (with_reducible refine C3.out.mono ?_); rintro e y3 ⟨rfl, x3⟩; have BA3 := BA2.below x3; have BC3 := BC2.below x3; have BD3 := BD2.below x3))
          go_wp2_with fail
          go_meet
          have b1 : Below w9.heap.size w9 y1 := (Below.refl _ w9).drew.trans x1
          have b2 := b1.trans (x2.mono b1.size)
          have b3 := b2.trans (x3.mono b2.size)
          exact ⟨rfl, b3⟩
        case rest =>
        obtain ⟨rfl, hx⟩ := hcut
        have BA := BA.below hx
        have BC := BC.below hx
        have BT := BT.below hx
        have OC := OC.below hx
        have h10 := h9.trans (hx.mono h9.size)
        have HX10 := Lib.hid (HX9.out.trans (hx.mono HX9.out.size))
        have HP0 := Lib.hid (show WrP w5.heap.size wc w6.heap.size WK A5 H.length c5 wc from ⟨Below.refl _ _, BC, OC⟩)
        have HL := S5.len
        clear hx BC OC S5 S6 BD cBA0 cBA1 cBC0 cBC1 cBD0 cBD1 hEE hZZ hZ2
        go_wp2_with fail
        go_loopw [17] (fun iv wr => ∃ k : Nat, k ≤ H.length ∧ iv = .int .i64 k ∧ WrP w5.heap.size wc w6.heap.size WK A5 H.length c5 wr) (fun iv _ => H.length - (intOf iv).toNat)
        case atStart => exact ⟨0, by omega, rfl, HP0.out⟩
        case round =>
          obtain ⟨k, hk, rfl, hP⟩ := hrel
          have HP := Lib.hid hP
          have cC1 := hP.2.1.cell 1
          clear hP
          by_cases hlt : k < H.length
          · obtain ⟨g', x, rfl, hcell, hfr, hP'⟩ := HP.out.at_ hlt
            have HP' := Lib.hid hP'
            clear hP' HP
            go_wp2_with fail
            go_roundw
            case rel => exact ⟨k + 1, by omega, by go_num, HP'.out⟩
            case measure => simp [intOf]; omega
          · obtain rfl : k = H.length := by omega
            have BA := BA.low HP.out.1 LT5.out.2
            have BT := BT.low HP.out.1 LT5.out.1
            have ST := ST5.below (HX10.out.trans HP.out.1)
            have h11 := h10.trans (HP.out.1.mono h5.size)
            have cBA0 := BA.cell 0
            have cBA1 := BA.cell 1
            have cBT0 := BT.cell 0
            have cBT1 := BT.cell 1
            clear hlt hk
            go_wp2_with fail
            refine (HS.out _ _ h11 ST).mono ?_
            rintro e w12 ⟨rfl, hx⟩
            have h12 := h11.trans (hx.mono h11.size)
            rw [show (wa == wa && ha == ha) = true by simp]
            go_wp2_with fail
            go_ret
            exact ⟨rfl, h12⟩
    · go_wp2_with fail
      go_ret
      exact ⟨rfl, h2⟩
  · go_wp2_with fail
    go_ret
    exact ⟨rfl, h1⟩

set_option maxRecDepth 100000 in
theorem lifted (os : Os) (started : os.Started) (H : Type) (enc : TypeId × Value → H) :
    ReturnsInHanded {} Try.checked os 8 .any (Rows.calendarTellsSpec.pre6 enc Try.prog Try.f8 Rows.calendarTellsRow.domain false) (Rows.calendarTellsSpec.post enc Try.prog Try.f8 false true false false) := by
  refine returnsInHanded_of_change (C := Try.checked) own started (by kernel_rfl) Try.func8
    (ChangeSpec.witness6 (enc := enc) (C := Try.checked) false ⟨#[], #[.agg #[.int .u8 0, .slice none 0 0], .agg #[.int .u8 0, .slice none 0 0], .int .i64 0], []⟩ 8 (by kernel_rfl) (by kernel_rfl) (by kernel_rfl) (by kernel_rfl)) ?_
  intro W base args ds gs before hval0 hW hcnd _
  have hval : ∀ (j : Nat) t v, Try.f8.params[j]? = some t → args[j]? = some v → Value.okWide Try.prog W .any base t v := hval0
  have hW' := hW
  obtain ⟨p, q, hA0, hV, rfl, hfz, hnd⟩ := hW
  have hA : DataW.TrodAll enc Try.prog W 0 (fun _ => true) true Try.f8.params.toList args.toList ds p := hA0
  rw [Try.params8] at hA hval
  obtain ⟨v0, vs0, d0, ds0, p0, q0, hargs, rfl, rfl, h0, r0⟩ := trodAll_cons hA
  obtain ⟨v1, vs1, d1, ds1, p1, q1, rfl, rfl, rfl, h1, r1⟩ := trodAll_cons r0
  obtain ⟨v2, vs2, d2, ds2, p2, q2, rfl, rfl, rfl, h2, r2⟩ := trodAll_cons r1
  obtain ⟨rfl, rfl, rfl⟩ := trodAll_nil r2
  obtain rfl : args = #[v0, v1, v2] := by cases args; simp_all
  obtain ⟨rfl, rfl⟩ := trodVars_none hV
  have k0 := h0
  obtain ⟨wk0, u0, hs0, rfl, wl0, wh0, si0, ni0⟩ := cal_open2 (hval 0 24 v0 rfl rfl) h0
  have k1 := h1
  obtain ⟨wk1, u1, hs1, rfl, wl1, wh1, si1, ni1⟩ := cal_open2 (hval 1 24 v1 rfl rfl) h1
  obtain ⟨a2, rfl, rfl, rfl, w2⟩ := open_int Try.underlying3 (hval 2 3 v2 rfl rfl) h2
  clear hA0 hval0
  have bd2 := bounds_i64 w2
  refine (walk wk0 u0 hs0 wk1 u1 hs1 a2 W wl0 wh0 si0 ni0 wl1 wh1 si1 ni1 bd2.1 bd2.2).mono fun e W' ⟨he, bel⟩ => ?_
  subst he
  exact ⟨_, rfl, _, _, _, [], _, [], hW', trodAll_mk1 (shut_bool Try.underlying4 _), (trodAll_cons_mk (arg_stays (by kernel_rfl) (of_decide_eq_true (by kernel_rfl)) k0 bel) (trodAll_cons_mk (arg_stays (by kernel_rfl) (of_decide_eq_true (by kernel_rfl)) k1 bel) (trodAll_cons_mk (shut_int Try.underlying3 w2) trodAll_mk0))), rfl, bel.frame _, fun h => by cases h⟩

theorem over : Rows.calendarTellsRow.holds Try.pinned (OpenSpec.ofChange Rows.calendarTellsSpec) :=
  OpenClaim.holds_of_wide 8 Try.f8 rfl rfl rfl rfl rfl rfl rfl ⟨rfl, rfl, rfl, rfl, rfl⟩ rfl rfl rfl rfl rfl (by kernel_rfl) Try.func8 (by kernel_rfl)
    (of_decide_eq_true (by kernel_rfl)) (by unfold Func.isWrapper; first | (rw [if_pos (by decide +kernel)]; kernel_rfl) | (rw [if_neg (by decide +kernel)]; exact ⟨rfl, rfl⟩))
    (fun os started H enc _ => lifted os started H enc)

theorem proved : Rows.CalendarTellsSaid := over
#print axioms proved
