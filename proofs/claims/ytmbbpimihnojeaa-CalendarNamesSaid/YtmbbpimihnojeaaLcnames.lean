/-
  The chapter's example, the limits, and further days and errors of calendars.
-/
import Derived.Test.YtmbbpimihnojeaaRows
import Derived.Test.YtmbbpimihnojeaaCexs
import Derived.Test.YtmbbpimihnojeaaCsame
import Derived.Test.YtmbbpimihnojeaaCframe
import Derived.ProofKit
import Derived.OpenShut
import Derived.ShutString
namespace Go.Proofs.Ytmbbpimihnojeaa.lawNames
open Go.ChangeShapes Go.WideShapes Go.ChangeAt Go.RowKit
open Go.ChangeMaps (open_string shut_string)

theorem own : ownKnob Try.prog.godebug = none := by kernel_rfl

set_option maxRecDepth 100000 in
set_option maxHeartbeats 8000000 in
theorem walk (w : World) : Calls Try.prog 9 #[] w fun e w' => e = .returned (.bool true) ∧ Below w.heap.size w w' := by
  go_enter Try.func9, Try.ntmps9
  go_wp2_with fail
  refine (example_any _).mono ?_
  rintro e w1 ⟨v, rfl, hSI, hb1⟩
  obtain ⟨A, c, hv, hcl, hcm, hcell⟩ := hSI
  have hv : v = .slice A 1 c := hv
  subst hv
  have hSI : SI w1 (.slice A 1 c) [46413] := ⟨A, c, rfl, hcl, hcm, hcell⟩
  have HN : Hid (Nil0 (.slice A 1 c)) := by
    obtain ⟨b, o, rfl, _⟩ := hcell (by decide)
    exact Lib.hid (nil0_some _ _ _)
  clear hcell hcl hcm
  have bC := Blk.new w1 24 #[.int .u8 96, .slice A 1 c]
  have hbA := hb1.alloc hb1.size (.cells #[.int .u8 96, .slice A 1 c] 24)
  have hSI := hSI.alloc (.cells #[.int .u8 96, .slice A 1 c] 24)
  go_wp2_with fail
  generalize (w1.alloc (.cells #[.int .u8 96, .slice A 1 c] 24)) = W0 at *
  have HS := Lib.hid (fun (W : World) (hS : Below W0.heap.size W0 W) => hSI.below hS)
  have h0 : Below W0.heap.size W0 W0 := Below.refl _ _
  have c0 := bC.cell 0
  have c1 := bC.cell 1
  clear hSI
  refine (kbus (wk := 96) _ (HS.out _ h0) (by omega) Z.xb1).mono ?_
  rintro e x1 ⟨rfl, hx⟩
  have h1 := h0.trans (hx.mono h0.size)
  clear hx c0 c1
  have bC1 := bC.below h1
  have c0 := bC1.cell 0
  have c1 := bC1.cell 1
  go_wp2_with fail
  refine (kbus (wk := 96) _ (HS.out _ h1) (by omega) Z.xb2).mono ?_
  rintro e x2 ⟨rfl, hx⟩
  have h2 := h1.trans (hx.mono h1.size)
  clear hx c0 c1
  have bC2 := bC.below h2
  have c0 := bC2.cell 0
  have c1 := bC2.cell 1
  go_wp2_with fail
  refine (kbus (wk := 96) _ (HS.out _ h2) (by omega) Z.xb3).mono ?_
  rintro e x3 ⟨rfl, hx⟩
  have h3 := h2.trans (hx.mono h2.size)
  clear hx c0 c1
  have bC3 := bC.below h3
  have c0 := bC3.cell 0
  have c1 := bC3.cell 1
  go_wp2_with fail
  refine (kbus (wk := 96) _ (HS.out _ h3) (by omega) Z.xb4).mono ?_
  rintro e x4 ⟨rfl, hx⟩
  have h4 := h3.trans (hx.mono h3.size)
  clear hx c0 c1
  have bC4 := bC.below h4
  have c0 := bC4.cell 0
  have c1 := bC4.cell 1
  go_wp2_with fail
  refine (krol (wk := 96) _ (HS.out _ h4) (by omega) (by omega) Z.xr1).mono ?_
  rintro e x5 ⟨rfl, hx⟩
  have h5 := h4.trans (hx.mono h4.size)
  clear hx c0 c1
  have bC5 := bC.below h5
  have c0 := bC5.cell 0
  have c1 := bC5.cell 1
  go_wp2_with fail
  obtain ⟨S1, hy⟩ := si_laid1 x5 0
  generalize (x5.alloc (.cells #[.int .i64 0] 3)) = y5 at *
  have g5 := h5.trans (hy.mono h5.size)
  refine (krol (wk := 0) _ S1 (by omega) (by omega) Z.xr2).mono ?_
  rintro e x6 ⟨rfl, hx⟩
  have h6 := g5.trans (hx.mono g5.size)
  clear S1 hy
  clear hx c0 c1
  have bC6 := bC.below h6
  have c0 := bC6.cell 0
  have c1 := bC6.cell 1
  go_wp2_with fail
  obtain ⟨S1, hy⟩ := si_laid1 x6 0
  generalize (x6.alloc (.cells #[.int .i64 0] 3)) = y6 at *
  have g6 := h6.trans (hy.mono h6.size)
  refine (krol (wk := 0) _ S1 (by omega) (by omega) Z.xr3).mono ?_
  rintro e x7 ⟨rfl, hx⟩
  have h7 := g6.trans (hx.mono g6.size)
  clear S1 hy
  clear hx c0 c1
  have bC7 := bC.below h7
  have c0 := bC7.cell 0
  have c1 := bC7.cell 1
  go_wp2_with fail
  obtain ⟨S1, hy⟩ := si_laid1 x7 99999
  generalize (x7.alloc (.cells #[.int .i64 99999] 3)) = y7 at *
  have g7 := h7.trans (hy.mono h7.size)
  refine (krol (wk := 0) _ S1 (by omega) (by omega) Z.xr4).mono ?_
  rintro e x8 ⟨rfl, hx⟩
  have h8 := g7.trans (hx.mono g7.size)
  clear S1 hy
  clear hx c0 c1
  have bC8 := bC.below h8
  have c0 := bC8.cell 0
  have c1 := bC8.cell 1
  go_wp2_with fail
  obtain ⟨S1, hy⟩ := si_laid1 x8 99999
  generalize (x8.alloc (.cells #[.int .i64 99999] 3)) = y8 at *
  have g8 := h8.trans (hy.mono h8.size)
  refine (krol (wk := 0) _ S1 (by omega) (by omega) Z.xr5).mono ?_
  rintro e x9 ⟨rfl, hx⟩
  have h9 := g8.trans (hx.mono g8.size)
  clear S1 hy
  clear hx c0 c1
  have bC9 := bC.below h9
  have c0 := bC9.cell 0
  have c1 := bC9.cell 1
  go_wp2_with fail
  refine (krol (wk := 96) _ (HS.out _ h9) (by omega) (by omega) Z.xr6).mono ?_
  rintro e x10 ⟨rfl, hx⟩
  have h10 := h9.trans (hx.mono h9.size)
  clear hx c0 c1
  have bC10 := bC.below h10
  have c0 := bC10.cell 0
  have c1 := bC10.cell 1
  go_wp2_with fail
  refine (kadd (wk := 96) _ (HS.out _ h10) (by omega) Z.xa1).mono ?_
  rintro e x11 ⟨rfl, hx⟩
  have h11 := h10.trans (hx.mono h10.size)
  clear hx c0 c1
  have bC11 := bC.below h11
  have c0 := bC11.cell 0
  have c1 := bC11.cell 1
  go_wp2_with fail
  refine (kadd (wk := 96) _ (HS.out _ h11) (by omega) Z.xa2).mono ?_
  rintro e x12 ⟨rfl, hx⟩
  have h12 := h11.trans (hx.mono h11.size)
  clear hx c0 c1
  have bC12 := bC.below h12
  have c0 := bC12.cell 0
  have c1 := bC12.cell 1
  go_wp2_with fail
  refine (kadd (wk := 96) _ (HS.out _ h12) (by omega) Z.xa3).mono ?_
  rintro e x13 ⟨rfl, hx⟩
  have h13 := h12.trans (hx.mono h12.size)
  clear hx c0 c1
  have bC13 := bC.below h13
  have c0 := bC13.cell 0
  have c1 := bC13.cell 1
  go_wp2_with fail
  refine (kadd (wk := 96) _ (HS.out _ h13) (by omega) Z.xa4).mono ?_
  rintro e x14 ⟨rfl, hx⟩
  have h14 := h13.trans (hx.mono h13.size)
  clear hx c0 c1
  have bC14 := bC.below h14
  have c0 := bC14.cell 0
  have c1 := bC14.cell 1
  go_wp2_with fail
  refine (kcnt (wk := 96) _ (HS.out _ h14) (by omega) Z.xc1).mono ?_
  rintro e x15 ⟨rfl, hx⟩
  have h15 := h14.trans (hx.mono h14.size)
  clear hx c0 c1
  have bC15 := bC.below h15
  have c0 := bC15.cell 0
  have c1 := bC15.cell 1
  go_wp2_with fail
  refine (kcnt (wk := 96) _ (HS.out _ h15) (by omega) Z.xc2).mono ?_
  rintro e x16 ⟨rfl, hx⟩
  have h16 := h15.trans (hx.mono h15.size)
  clear hx c0 c1
  have bC16 := bC.below h16
  have c0 := bC16.cell 0
  have c1 := bC16.cell 1
  go_wp2_with fail
  refine (kjoin (wa := 7) (wb := 120) _ SI.nil_ SI.nil_ nil0_nil nil0_nil Z.xj1E Z.xj1W Z.xj1H).mono ?_
  rintro e x17 ⟨A2, c2, rfl, _, hx⟩
  have h17 := h16.trans (hx.mono h16.size)
  clear hx c0 c1
  have hz : Below x17.heap.size x17 (x17.alloc (.cells #[.int .u8 0, .slice A2 0 c2] 24)) := (Below.refl _ _).alloc (Nat.le_refl _) _
  have h17' := h17.trans (hz.mono h17.size)
  have bC17 := bC.below h17'
  have c0 := bC17.cell 0
  have c1 := bC17.cell 1
  go_wp2_with fail
  have ez : (x17.alloc (.cells #[.int .u8 0, .slice A2 0 c2] 24)).heap.size = x17.heap.size + 1 := Array.size_push _
  obtain ⟨S2, hy⟩ := si_laid2 (x17.alloc (.cells #[.int .u8 0, .slice A2 0 c2] 24)) 5 46413
  rw [ez] at S2
  clear ez
  generalize (x17.alloc (.cells #[.int .u8 0, .slice A2 0 c2] 24)) = z1 at *
  generalize (z1.alloc (.cells #[.int .i64 5, .int .i64 46413] 3)) = z2 at *
  have g17 := h17'.trans (hy.mono h17'.size)
  refine (kjoin (wa := 96) (wb := 16) _ (HS.out _ g17) S2 HN.out (nil0_some _ _ _) Z.xj2E Z.xj2W Z.xj2H).mono ?_
  rintro e x18 ⟨A3, c3, rfl, SJ, hx⟩
  have h18 := g17.trans (hx.mono g17.size)
  clear hx hy hz c0 c1 S2
  have bJ := Blk.new x18 24 #[.int .u8 112, .slice A3 2 c3]
  have hz : Below x18.heap.size x18 (x18.alloc (.cells #[.int .u8 112, .slice A3 2 c3] 24)) := (Below.refl _ _).alloc (Nat.le_refl _) _
  have SJ := SJ.below hz
  have k0 := h18.trans (hz.mono h18.size)
  go_wp2_with fail
  have HBJ := Lib.hid (bJ)
  have HSJ := Lib.hid (fun (W : World) (hS : Below _ (x18.alloc (.cells #[.int .u8 112, .slice A3 2 c3] 24)) W) => SJ.below hS)
  have j0 : Below _ (x18.alloc (.cells #[.int .u8 112, .slice A3 2 c3] 24)) (x18.alloc (.cells #[.int .u8 112, .slice A3 2 c3] 24)) := Below.refl (x18.alloc (.cells #[.int .u8 112, .slice A3 2 c3] 24)).heap.size _
  generalize (x18.alloc (.cells #[.int .u8 112, .slice A3 2 c3] 24)) = z3 at *
  clear SJ
  refine (kchk (wk := 127) _ SI.nil_ xk1).mono ?_
  rintro e y1 ⟨rfl, hx⟩
  have j1 := j0.trans (hx.mono j0.size)
  clear hx
  go_wp2_with fail
  obtain ⟨S5, hy⟩ := si_laid2 y1 5 5
  generalize (y1.alloc (.cells #[.int .i64 5, .int .i64 5] 3)) = v1 at *
  have j1' := j1.trans (hy.mono j1.size)
  refine (kchk (wk := 0) _ S5 xk2).mono ?_
  rintro e y2 ⟨rfl, hx⟩
  have j2 := j1'.trans (hx.mono j1'.size)
  clear hx hy S5
  go_wp2_with fail
  obtain ⟨S5, hy⟩ := si_laid1 y2 (-1)
  generalize (y2.alloc (.cells #[.int .i64 (-1)] 3)) = v2 at *
  have j2' := j2.trans (hy.mono j2.size)
  refine (kchk (wk := 0) _ S5 xk3).mono ?_
  rintro e y3 ⟨rfl, hx⟩
  have j3 := j2'.trans (hx.mono j2'.size)
  clear hx hy S5
  go_wp2_with fail
  refine (kchk (wk := 126) _ SI.nil_ xk4).mono ?_
  rintro e y4 ⟨rfl, hx⟩
  have j4 := j3.trans (hx.mono j3.size)
  clear hx
  go_wp2_with fail
  refine (alive_any _).mono ?_
  rintro e y5 ⟨rfl, hx⟩
  have j5 := j4.trans (hx.mono j4.size)
  clear hx
  have bJ5 := HBJ.out.below j5
  have c0 := bJ5.cell 0
  have c1 := bJ5.cell 1
  go_wp2_with fail
  obtain ⟨S5, hy⟩ := si_laid2 y5 5 46413
  generalize (y5.alloc (.cells #[.int .i64 5, .int .i64 46413] 3)) = v3 at *
  have j5' := j5.trans (hy.mono j5.size)
  refine (rsame_any 112 112 _ _ [5, 46413] [5, 46413] _ (HSJ.out _ j5') S5).mono ?_
  rintro e y6 ⟨rfl, hx⟩
  have j6 := j5'.trans (hx.mono j5'.size)
  clear hx hy S5
  rw [show ((112 : Int) == 112 && ([5, 46413] : List Int) == [5, 46413]) = true by decide]
  go_wp2_with fail
  go_ret
  exact ⟨rfl, hbA.trans ((k0.trans (j6.mono k0.size)).mono hbA.size)⟩

set_option maxRecDepth 100000 in
theorem lifted (os : Os) (started : os.Started) (H : Type) (enc : TypeId × Value → H) :
    ReturnsInHanded {} Try.checked os 9 .any (Rows.calendarNamesSpec.pre6 enc Try.prog Try.f9 Rows.calendarNamesRow.domain false) (Rows.calendarNamesSpec.post enc Try.prog Try.f9 false true false false) := by
  refine returnsInHanded_of_change (C := Try.checked) own started (by kernel_rfl) Try.func9
    (ChangeSpec.witness6 (enc := enc) (C := Try.checked) false ⟨#[], #[], []⟩ 8 (by kernel_rfl) (by kernel_rfl) (by kernel_rfl) (by kernel_rfl)) ?_
  intro W base args ds gs before hval0 hW hcnd _
  have hval : ∀ (j : Nat) t v, Try.f9.params[j]? = some t → args[j]? = some v → Value.okWide Try.prog W .any base t v := hval0
  have hW' := hW
  obtain ⟨p, q, hA0, hV, rfl, hfz, hnd⟩ := hW
  have hA : DataW.TrodAll enc Try.prog W 0 (fun _ => true) true Try.f9.params.toList args.toList ds p := hA0
  rw [Try.params9] at hA hval
  obtain ⟨hargs, rfl, rfl⟩ := trodAll_nil hA
  obtain rfl : args = #[] := by cases args; simp_all
  obtain ⟨rfl, rfl⟩ := trodVars_none hV
  clear hA0 hval0
  simp only [List.append_nil] at hW'
  refine (walk W).mono fun e W' ⟨he, bel⟩ => ?_
  subst he
  exact ⟨_, rfl, _, _, _, [], _, [], hW', trodAll_mk1 (shut_bool Try.underlying4 _), trodAll_mk0, rfl, bel.frame _, fun h => by cases h⟩

theorem over : Rows.calendarNamesRow.holds Try.pinned (OpenSpec.ofChange Rows.calendarNamesSpec) :=
  OpenClaim.holds_of_wide 9 Try.f9 rfl rfl rfl rfl rfl rfl rfl ⟨rfl, rfl, rfl, rfl, rfl⟩ rfl rfl rfl rfl rfl (by kernel_rfl) Try.func9 (by kernel_rfl)
    (of_decide_eq_true (by kernel_rfl)) (by unfold Func.isWrapper; first | (rw [if_pos (by decide +kernel)]; kernel_rfl) | (rw [if_neg (by decide +kernel)]; exact ⟨rfl, rfl⟩))
    (fun os started H enc _ => lifted os started H enc)

theorem proved : Rows.CalendarNamesSaid := over
#print axioms proved
