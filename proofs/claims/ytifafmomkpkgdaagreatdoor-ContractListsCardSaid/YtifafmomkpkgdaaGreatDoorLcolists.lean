/-
  Parties, Currencies and Horizon return what the reference returns (a tied card: the tables of kinds lie as the text says).
-/
import Derived.Test.YtifafmomkpkgdaaGreatDoorRows
import Derived.Test.YtifafmomkpkgdaaGreatDoorOopn
import Derived.Test.YtifafmomkpkgdaaGreatDoorOrp
import Derived.Test.YtifafmomkpkgdaaGreatDoorOtg
import Derived.HandedShaped
import Derived.Test.YtifafmomkpkgdaaGreatDoorCards
import Derived.Test.YtifafmomkpkgdaaGreatDoorTie
import Derived.Test.YtifafmomkpkgdaaGreatDoorOlay
import Derived.SevenTiedAt
import Derived.ProofKit
import Derived.OpenShut
import Derived.ShutString
namespace Go.Proofs.YtifafmomkpkgdaaGreatDoor.lawLists
open Go.ChangeShapes Go.WideShapes Go.ChangeAt Go.RowKit
open Go.ChangeMaps (open_string shut_string)

set_option maxRecDepth 100000 in
set_option maxHeartbeats 4000000 in
theorem walk (F : Nat) (c : Z.Co (F + 1) (F + 1 + 1)) (r : CR (F + 1)) (w : World) (hc : CV w (F + 1 + 1) c r) (hle : Z.CLe 140737488355328 (F + 1 + 1) c) (hV : HasV w) (hL : Lay w) :
    Calls Tryz.prog 3 #[.agg r.vs.toArray] w fun e w' => e = .returned (.bool true) ∧ Below w.heap.size w w' := by
  obtain ⟨t, u, dv, sv⟩ := r
  obtain ⟨Au, ku, cu, rfl⟩ := hc.shape.1
  obtain ⟨Ad, kd, cd, rfl⟩ := hc.shape.2.1
  obtain ⟨As, ks, cs, rfl⟩ := hc.shape.2.2
  have HG := Lib.hid (fun W (h : Below w.heap.size w W) => cgreat_any (F + 1) c t _ _ _ W (CV.below h _ hc) hle)
  have HSM := Lib.hid (fun h => Z.coG_sm (n := F + 1 + 1) (c := c) h)
  have HVS : Hid (CR.vs (m := F + 1) ⟨t, .slice Au ku cu, .slice Ad kd cd, .slice As ks cs⟩ = [.int .u8 t.k, .string t.fr, .string t.tu, .string t.nm, .int .u8 t.ex.top.k, .string t.ex.top.rat, .string t.ex.top.name, .int .i64 t.ex.top.date, .slice Au ku cu, .int .i64 t.date, .slice Ad kd cd, .slice As ks cs]) := Lib.hid rfl
  rw [HVS.out]
  have hb0 := (Below.refl _ w).alloc (Nat.le_refl w.heap.size) (.cells #[.int .u8 t.k, .string t.fr, .string t.tu, .string t.nm, .int .u8 t.ex.top.k, .string t.ex.top.rat, .string t.ex.top.name, .int .i64 t.ex.top.date, .slice Au ku cu, .int .i64 t.date, .slice Ad kd cd, .slice As ks cs] 29)
  have BX := Blk.new w 29 #[.int .u8 t.k, .string t.fr, .string t.tu, .string t.nm, .int .u8 t.ex.top.k, .string t.ex.top.rat, .string t.ex.top.name, .int .i64 t.ex.top.date, .slice Au ku cu, .int .i64 t.date, .slice Ad kd cd, .slice As ks cs]
  have HP := Lib.hid (fun hs W (h : Below w.heap.size w W) => cparties_any (F + 1) c ⟨t, .slice Au ku cu, .slice Ad kd cd, .slice As ks cs⟩ W (CV.below h _ hc) (hL.below h) (hV.below h) hs)
  have HPR := Lib.hid (fun hs W (h : Below w.heap.size w W) => rparties_any (F + 1) c t _ _ _ W (CV.below h _ hc) (hV.below h) hs)
  have HM := Lib.hid (fun hs W (h : Below w.heap.size w W) => cmoneys_any (F + 1) c ⟨t, .slice Au ku cu, .slice Ad kd cd, .slice As ks cs⟩ W (CV.below h _ hc) (hL.below h) (hV.below h) hs)
  have HMR := Lib.hid (fun hs W (h : Below w.heap.size w W) => rmoney_any (F + 1) c t _ _ _ W (CV.below h _ hc) (hV.below h) hs)
  have HH := Lib.hid (fun hs W (h : Below w.heap.size w W) => chor_any (F + 1) c ⟨t, .slice Au ku cu, .slice Ad kd cd, .slice As ks cs⟩ W (CV.below h _ hc) (hL.below h) (hV.below h) hs)
  have HHR := Lib.hid (fun hs W (h : Below w.heap.size w W) => rhorizon_any (F + 1) c t _ _ _ W (CV.below h _ hc) (hV.below h) hs)
  unfold CR.ag at HP HM HH
  simp only at HP HM HH
  clear hc hV hL hle HVS
  generalize Z.wordsL Z.pw (F + 1 + 1) c = lp at *
  generalize Z.wordsL Z.mw (F + 1 + 1) c = lm at *
  generalize Z.horZ (F + 1 + 1) c = HZ at *
  generalize Z.coE (F + 1 + 1) c = E at *
  generalize Z.coG (F + 1 + 1) c = G at *
  have z0 := BX.cell 0
  have z1 := BX.cell 1
  have z2 := BX.cell 2
  have z3 := BX.cell 3
  have z4 := BX.cell 4
  have z5 := BX.cell 5
  have z6 := BX.cell 6
  have z7 := BX.cell 7
  have z8 := BX.cell 8
  have z9 := BX.cell 9
  have z10 := BX.cell 10
  have z11 := BX.cell 11
  go_enter Tryz.func3, Tryz.ntmps3
  go_wp2_with fail
  refine (HG.out _ hb0).mono ?_
  rintro e W1 ⟨rfl, hb⟩
  have h1 := hb0.trans (hb.mono hb0.size)
  replace BX := BX.below hb
  clear z0 z1 z2 z3 z4 z5 z6 z7 z8 z9 z10 z11 hb HG hb0
  have z0 := BX.cell 0
  have z1 := BX.cell 1
  have z2 := BX.cell 2
  have z3 := BX.cell 3
  have z4 := BX.cell 4
  have z5 := BX.cell 5
  have z6 := BX.cell 6
  have z7 := BX.cell 7
  have z8 := BX.cell 8
  have z9 := BX.cell 9
  have z10 := BX.cell 10
  have z11 := BX.cell 11
  rcases G with _ | _
  rotate_left
  · go_wp2_with fail
    go_ret
    exact ⟨rfl, h1⟩
  have hs := HSM.out (by first | rfl | trivial)
  replace HP := Lib.hid (HP.out hs)
  replace HPR := Lib.hid (HPR.out hs)
  replace HM := Lib.hid (HM.out hs)
  replace HMR := Lib.hid (HMR.out hs)
  replace HH := Lib.hid (HH.out hs)
  replace HHR := Lib.hid (HHR.out hs)
  clear hs HSM
  go_wp2_with fail
  refine (HP.out _ h1).mono ?_
  rintro e W2 ⟨vp, rfl, hO, hb⟩
  replace hO := OL.sl bE_len hO
  obtain ⟨Ap, cp, rfl, _, _⟩ := SL.shape hO
  have Hp := Lib.hid hO
  clear hO
  have h2 := h1.trans (hb.mono h1.size)
  replace BX := BX.below hb
  clear z0 z1 z2 z3 z4 z5 z6 z7 z8 z9 z10 z11 hb h1 HP
  have z0 := BX.cell 0
  have z1 := BX.cell 1
  have z2 := BX.cell 2
  have z3 := BX.cell 3
  have z4 := BX.cell 4
  have z5 := BX.cell 5
  have z6 := BX.cell 6
  have z7 := BX.cell 7
  have z8 := BX.cell 8
  have z9 := BX.cell 9
  have z10 := BX.cell 10
  have z11 := BX.cell 11
  go_wp2_with fail
  refine (HPR.out _ h2).mono ?_
  rintro e W3 ⟨vq, rfl, hO, hb⟩
  obtain ⟨Aq, cq, rfl, _, _⟩ := SL.shape hO
  replace Hp := Lib.hid (SL.below Hp.out hb)
  have Hq := Lib.hid hO
  clear hO
  have h3 := h2.trans (hb.mono h2.size)
  replace BX := BX.below hb
  clear z0 z1 z2 z3 z4 z5 z6 z7 z8 z9 z10 z11 hb h2 HPR
  have z0 := BX.cell 0
  have z1 := BX.cell 1
  have z2 := BX.cell 2
  have z3 := BX.cell 3
  have z4 := BX.cell 4
  have z5 := BX.cell 5
  have z6 := BX.cell 6
  have z7 := BX.cell 7
  have z8 := BX.cell 8
  have z9 := BX.cell 9
  have z10 := BX.cell 10
  have z11 := BX.cell 11
  go_wp2_with fail
  refine (HM.out _ h3).mono ?_
  rintro e W4 ⟨vm, rfl, hO, hb⟩
  replace hO := OL.sl bE_len hO
  obtain ⟨Am, cm, rfl, _, _⟩ := SL.shape hO
  replace Hp := Lib.hid (SL.below Hp.out hb)
  replace Hq := Lib.hid (SL.below Hq.out hb)
  have Hm := Lib.hid hO
  clear hO
  have h4 := h3.trans (hb.mono h3.size)
  replace BX := BX.below hb
  clear z0 z1 z2 z3 z4 z5 z6 z7 z8 z9 z10 z11 hb h3 HM
  have z0 := BX.cell 0
  have z1 := BX.cell 1
  have z2 := BX.cell 2
  have z3 := BX.cell 3
  have z4 := BX.cell 4
  have z5 := BX.cell 5
  have z6 := BX.cell 6
  have z7 := BX.cell 7
  have z8 := BX.cell 8
  have z9 := BX.cell 9
  have z10 := BX.cell 10
  have z11 := BX.cell 11
  go_wp2_with fail
  refine (HMR.out _ h4).mono ?_
  rintro e W5 ⟨vn, rfl, hO, hb⟩
  obtain ⟨An, cn, rfl, _, _⟩ := SL.shape hO
  replace Hp := Lib.hid (SL.below Hp.out hb)
  replace Hq := Lib.hid (SL.below Hq.out hb)
  replace Hm := Lib.hid (SL.below Hm.out hb)
  have Hn := Lib.hid hO
  clear hO
  have h5 := h4.trans (hb.mono h4.size)
  replace BX := BX.below hb
  clear z0 z1 z2 z3 z4 z5 z6 z7 z8 z9 z10 z11 hb h4 HMR
  have z0 := BX.cell 0
  have z1 := BX.cell 1
  have z2 := BX.cell 2
  have z3 := BX.cell 3
  have z4 := BX.cell 4
  have z5 := BX.cell 5
  have z6 := BX.cell 6
  have z7 := BX.cell 7
  have z8 := BX.cell 8
  have z9 := BX.cell 9
  have z10 := BX.cell 10
  have z11 := BX.cell 11
  go_wp2_with fail
  refine (HH.out _ h5).mono ?_
  rintro e W6 ⟨rfl, hb⟩
  replace Hp := Lib.hid (SL.below Hp.out hb)
  replace Hq := Lib.hid (SL.below Hq.out hb)
  replace Hm := Lib.hid (SL.below Hm.out hb)
  replace Hn := Lib.hid (SL.below Hn.out hb)
  have h6 := h5.trans (hb.mono h5.size)
  replace BX := BX.below hb
  clear z0 z1 z2 z3 z4 z5 z6 z7 z8 z9 z10 z11 hb h5 HH
  have z0 := BX.cell 0
  have z1 := BX.cell 1
  have z2 := BX.cell 2
  have z3 := BX.cell 3
  have z4 := BX.cell 4
  have z5 := BX.cell 5
  have z6 := BX.cell 6
  have z7 := BX.cell 7
  have z8 := BX.cell 8
  have z9 := BX.cell 9
  have z10 := BX.cell 10
  have z11 := BX.cell 11
  go_wp2_with fail
  refine (HHR.out _ h6).mono ?_
  rintro e W7 ⟨rfl, hb⟩
  replace Hp := Lib.hid (SL.below Hp.out hb)
  replace Hq := Lib.hid (SL.below Hq.out hb)
  replace Hm := Lib.hid (SL.below Hm.out hb)
  replace Hn := Lib.hid (SL.below Hn.out hb)
  have h7 := h6.trans (hb.mono h6.size)
  replace BX := BX.below hb
  clear z0 z1 z2 z3 z4 z5 z6 z7 z8 z9 z10 z11 hb h6 HHR
  have z0 := BX.cell 0
  have z1 := BX.cell 1
  have z2 := BX.cell 2
  have z3 := BX.cell 3
  have z4 := BX.cell 4
  have z5 := BX.cell 5
  have z6 := BX.cell 6
  have z7 := BX.cell 7
  have z8 := BX.cell 8
  have z9 := BX.cell 9
  have z10 := BX.cell 10
  have z11 := BX.cell 11
  clear z0 z1 z2 z3 z4 z5 z6 z7 z8 z9 z10 z11 BX
  have HS1 : Hid (Calls Tryz.prog 11 #[.slice Ap lp.length cp, .slice Aq lp.length cq] W7 fun e w' => e = .returned (.bool true) ∧ Below W7.heap.size W7 w') := Lib.hid ((samestr_any _ _ lp lp W7 Hp.out Hq.out).mono (fun e w' ⟨he, hb⟩ => ⟨by rw [he, (Z.eqB_iff lp lp).2 rfl], hb⟩))
  go_wp2_with fail
  refine HS1.out.mono ?_
  rintro e W8 ⟨rfl, hb⟩
  have HS2 : Hid (Calls Tryz.prog 11 #[.slice Am lm.length cm, .slice An lm.length cn] W8 fun e w' => e = .returned (.bool true) ∧ Below W8.heap.size W8 w') := Lib.hid ((samestr_any _ _ lm lm W8 (SL.below Hm.out hb) (SL.below Hn.out hb)).mono (fun e w' ⟨he, hb⟩ => ⟨by rw [he, (Z.eqB_iff lm lm).2 rfl], hb⟩))
  have h8 := h7.trans (hb.mono h7.size)
  clear hb h7 HS1 Hp Hq Hm Hn
  go_wp2_with fail
  refine HS2.out.mono ?_
  rintro e W9 ⟨rfl, hb⟩
  have h9 := h8.trans (hb.mono h8.size)
  clear hb h8 HS2
  go_wp2_with fail
  go_ret
  exact ⟨rfl, h9⟩

set_option maxRecDepth 100000 in
theorem lifted (os : Go.Os) (started : os.Started) (H : Type) (enc : TypeId × Value → H) :
    ReturnsInHanded {} Tryz.checked os 3 .any (fun w args => (Rows.contractListsSpec.pre enc Tryz.prog Tryz.f3 [] false w args ∧ laidMetH Tryz.prog laidL w) ∧ sizedMet enc Tryz.prog Tryz.f3 (OpenSpec.ofChange Rows.contractListsSpec) false w args) (Rows.contractListsSpec.post enc Tryz.prog Tryz.f3 false true false false) := by
  refine door_wrap (C := Tryz.checked) (laid := laidL) own started (by kernel_rfl) Tryz.func3
    (ChangeSpec.witness_shaped (enc := enc) (C := Tryz.checked) (os := os) (X := fun w _ => laidMetH Tryz.prog laidL w) false (World.doorLaid Tryz.prog 600 os) #[.agg #[.int .u8 0, .string ByteArray.empty, .string ByteArray.empty, .string ByteArray.empty, .int .u8 0, .string ByteArray.empty, .string ByteArray.empty, .int .i64 0, .slice none 0 0, .int .i64 0, .slice none 0 0, .slice none 0 0]] 8 rfl (World.shaped_of_RefB (by kernel_rfl) (by kernel_rfl)) (by kernel_rfl) (by kernel_rfl) (by kernel_rfl) (door_met os _)) ?_
  intro W base args ds gs before hval0 hW hWt hL hsh
  have hval : ∀ (j : Nat) t v, Tryz.f3.params[j]? = some t → args[j]? = some v → Value.okWide Tryz.prog W .any base t v := hval0
  have hW' := hW
  obtain ⟨p, q, hA0, hV, rfl, hfz, hnd⟩ := hW
  have hA : DataW.TrodAll enc Tryz.prog W 0 (fun _ => true) true Tryz.f3.params.toList args.toList ds p := hA0
  rw [Tryz.params3] at hA hval
  obtain ⟨v0, vs0, d0, ds0, p0, q0, hargs, rfl, rfl, h0, r0⟩ := trodAll_cons hA
  obtain ⟨rfl, rfl, rfl⟩ := trodAll_nil r0
  obtain rfl : args = #[v0] := by cases args; simp_all
  obtain ⟨rfl, rfl⟩ := trodVars_none hV
  have hWm := fun q hq => Nat.le_trans (of_decide_eq_true (List.all_eq_true.1 hWt q hq)) (show reachBytes ≤ 140737488355328 by decide)
  have hM0 : ∀ q ∈ d0.weights Tryz.prog 29, q ≤ 140737488355328 := fun q hq => hWm q (DataW.weights_mem_each (j := 0) (by rfl) (by rfl) q hq)
  have k0 := h0
  obtain ⟨N0, o0⟩ := contract_open (hval 0 29 v0 rfl rfl) h0 hM0
  obtain ⟨F, hF⟩ : ∃ F, F = N0 := ⟨_, rfl⟩
  obtain ⟨r0c, c0, rfl, cv0, cl0⟩ := o0 (F + 1) (by omega)
  clear hA0 hval0
  refine (walk F c0 r0c W cv0 cl0 (Tryz.laysM145.s1_3 W hsh) (of_laid hL)).mono fun e W' ⟨he, bel⟩ => ?_
  subst he
  exact ⟨_, rfl, _, _, _, [], _, [], hW', trodAll_mk1 (shut_bool Tryz.underlying4 _), (trodAll_cons_mk (arg_stays (by kernel_rfl) (of_decide_eq_true (by kernel_rfl)) k0 bel) trodAll_mk0), rfl, bel.frame _, fun h => by cases h⟩

theorem over : Rows.contractListsRow.holds Tryz.pinned (OpenSpec.ofChange Rows.contractListsSpec) :=
  OpenClaim.holds_of_wide 3 Tryz.f3 rfl rfl rfl rfl rfl rfl rfl ⟨rfl, rfl, rfl, rfl, rfl⟩ rfl rfl rfl rfl rfl (by kernel_rfl) Tryz.func3 (by kernel_rfl)
    (of_decide_eq_true (by kernel_rfl)) (by unfold Func.isWrapper; first | (rw [if_pos (by decide +kernel)]; kernel_rfl) | (rw [if_neg (by decide +kernel)]; exact ⟨rfl, rfl⟩))
    (fun os started H enc _ => lifted os started H enc)

theorem proved : Rows.ContractListsCardSaid :=
  Claim7.holds_tied_plain_at .later [] [.mappedDeep, .mapped] true (true, "e1f2aae3cd5ecf68589204b88d12dff62344d877cc25ac9de4214a018797dc7e") false
    over (fun _ h => by cases h) (by kernel_rfl) (fun _ h => by cases h) contractLists_row_tie rfl ⟨rfl, rfl⟩ (by kernel_rfl) rfl
    (fun f fn hf hfn => by
      obtain rfl : f = 3 := Option.some.inj ((show Tryz.prog.funcNamed "novation/novationlaw09.ContractLists" = some 3 by kernel_rfl).symm.trans hf) |>.symm
      obtain rfl : fn = Tryz.f3 := (Option.some.inj (Tryz.func3.symm.trans hfn)).symm
      exact ⟨by kernel_rfl, fun j t ht => by
        rw [Tryz.params3] at ht
        have hm : t ∈ [29] := by simpa using Array.mem_of_getElem? ht
        have hall : ([29].all fun u => !Tryz.prog.wantsStandIn u) = true := by kernel_rfl
        exact (show Tryz.prog.wantsStandIn t = false by simpa using List.all_eq_true.1 hall t hm)⟩)
    (by kernel_rfl)
#print axioms proved
