/-
  Round of package rational returns what the reference returns (a tied card: the table of ways lies as the text says).
-/
import Derived.Test.YthafdckomhdlbaaDoorRows
import Derived.Test.YthafdckomhdlbaaDoorRd3
import Derived.Test.YthafdckomhdlbaaDoorQ4
import Derived.Test.YthafdckomhdlbaaDoorShelf
import Derived.HandedShaped
import Derived.Test.YthafdckomhdlbaaDoorCards
import Derived.Test.YthafdckomhdlbaaDoorTie
import Derived.Test.YthafdckomhdlbaaDoorRd1
import Derived.SevenTiedAt
import Derived.ProofKit
import Derived.OpenShut
import Derived.ShutString
namespace Go.Proofs.YthafdckomhdlbaaDoor.lawRounds
open Go.ChangeShapes Go.WideShapes Go.ChangeAt Go.RowKit
open Go.ChangeMaps (open_string shut_string)

theorem any_great2 {l : List ByteArray} (h : ∀ s ∈ l, s.size ≤ 2100) : (l.any fun s => decide (2100 < s.size)) = false := by
  rw [List.any_eq_false]
  intro s hs
  have := h s hs
  simp; omega
set_option maxRecDepth 100000 in
set_option maxHeartbeats 2000000 in
theorem walk (a : ByteArray) (m : Int) (w : World) (h0 : 0 ≤ m) (_h1 : m ≤ 255) (hv : HasV w) (hA : Away w) :
    Calls Tryd.prog 3 #[.string a, .int .u8 m] w fun e w' => e = .returned (.bool true) ∧ Below w.heap.size w w' := by
  have G1 := Lib.hid (fun W : World => qgreat_any _ [a] (W.alloc (.cells #[.string a] 22)) (ss_new W [a] 22 (by simp)) (by simp))
  have hb1 : Below w.heap.size w (w.alloc (.cells #[.string a] 22)) := (Below.refl _ _).alloc (Nat.le_refl _) _
  by_cases hbig : 2100 < a.size
  · have hany : ([a].any fun s => decide (2100 < s.size)) = true := by simpa using hbig
    rw [hany] at G1
    clear hbig hany hv hA
    go_enter Tryd.func3, Tryd.ntmps3
    go_wp2_with fail
    refine (G1.out _).mono ?_
    rintro e w1 ⟨rfl, rfl⟩
    go_wp2_with fail
    go_ret
    exact ⟨rfl, hb1⟩
  · have hany : ([a].any fun s => decide (2100 < s.size)) = false := any_great2 (by simp; omega)
    rw [hany] at G1
    have hv1 := hv.below hb1
    have hA1 := hA.below hb1
    have K1 := Lib.hid (round_any a m (w.alloc (.cells #[.string a] 22)) h0 hv1 hA1 (by omega))
    have L1 := Lib.hid (fun W : World => rqround_any a m W h0 (by omega))
    clear hbig hany hv hA hv1 hA1
    unfold RndRet at *
    generalize Z.rndS m a = s1 at *
    generalize Z.rndE m a = e1 at *
    go_enter Tryd.func3, Tryd.ntmps3
    go_wp2_with fail
    refine (G1.out _).mono ?_
    rintro e w1 ⟨rfl, rfl⟩
    go_wp2_with fail
    refine K1.out.mono ?_
    rintro e w2 ⟨rfl, h2⟩
    have c2 := hb1.trans (h2.mono hb1.size)
    go_wp2_with fail
    refine (L1.out _).mono ?_
    rintro e w3 ⟨rfl, h3⟩
    have c3 := c2.trans (h3.mono c2.size)
    go_wp2_with fail
    go_ret
    exact ⟨rfl, c3⟩

set_option maxRecDepth 100000 in
theorem lifted (os : Os) (started : os.Started) (H : Type) (enc : TypeId × Value → H) :
    ReturnsInHanded {} Tryd.checked os 3 .any (fun w args => (Rows.rationalRoundsSpec.pre enc Tryd.prog Tryd.f3 [] false w args ∧ laidMetH Tryd.prog laidL w) ∧ sizedMet enc Tryd.prog Tryd.f3 (OpenSpec.ofChange Rows.rationalRoundsSpec) false w args) (Rows.rationalRoundsSpec.post enc Tryd.prog Tryd.f3 false true false false) := by
  refine door_wrap (C := Tryd.checked) (laid := laidL) own started (by kernel_rfl) Tryd.func3
    (ChangeSpec.witness_shaped (enc := enc) (C := Tryd.checked) (os := os) (X := fun w _ => laidMetH Tryd.prog laidL w) false (World.doorLaid Tryd.prog 600 os) #[.string ByteArray.empty, .int .u8 0] 8 rfl (World.shaped_of_RefB (by kernel_rfl) (by kernel_rfl)) (by kernel_rfl) (by kernel_rfl) (by kernel_rfl) (door_met os _)) ?_
  intro W base args ds gs before hval0 hW _ hL hsh
  have hval : ∀ (j : Nat) t v, Tryd.f3.params[j]? = some t → args[j]? = some v → Value.okWide Tryd.prog W .any base t v := hval0
  have hW' := hW
  obtain ⟨p, q, hA0, hV, rfl, hfz, hnd⟩ := hW
  have hA : DataW.TrodAll enc Tryd.prog W 0 (fun _ => true) true Tryd.f3.params.toList args.toList ds p := hA0
  rw [Tryd.params3] at hA hval
  obtain ⟨v0, vs0, d0, ds0, p0, q0, hargs, rfl, rfl, h0, r0⟩ := trodAll_cons hA
  obtain ⟨v1, vs1, d1, ds1, p1, q1, rfl, rfl, rfl, h1, r1⟩ := trodAll_cons r0
  obtain ⟨rfl, rfl, rfl⟩ := trodAll_nil r1
  obtain rfl : args = #[v0, v1] := by cases args; simp_all
  obtain ⟨rfl, rfl⟩ := trodVars_none hV
  obtain ⟨a0, rfl, rfl, rfl, w0⟩ := open_string Tryd.underlying22 (hval 0 22 v0 rfl rfl) h0
  obtain ⟨a1, rfl, rfl, rfl, w1⟩ := open_int Tryd.underlying5 (hval 1 5 v1 rfl rfl) h1
  clear hA0 hval0
  have bd1 := bounds_u8 w1
  refine (walk a0 a1 W bd1.1 bd1.2 (Tryd.laysM145.s1_3 W hsh) (of_laid hL)).mono fun e W' ⟨he, bel⟩ => ?_
  subst he
  exact ⟨_, rfl, _, _, _, [], _, [], hW', trodAll_mk1 (shut_bool Tryd.underlying4 _), (trodAll_cons_mk (shut_string Tryd.underlying22 w0) (trodAll_cons_mk (shut_int Tryd.underlying5 w1) trodAll_mk0)), rfl, bel.frame _, fun h => by cases h⟩

theorem over : Rows.rationalRoundsRow.holds Tryd.pinned (OpenSpec.ofChange Rows.rationalRoundsSpec) :=
  OpenClaim.holds_of_wide 3 Tryd.f3 rfl rfl rfl rfl rfl rfl rfl ⟨rfl, rfl, rfl, rfl, rfl⟩ rfl rfl rfl rfl rfl (by kernel_rfl) Tryd.func3 (by kernel_rfl)
    (of_decide_eq_true (by kernel_rfl)) (by unfold Func.isWrapper; first | (rw [if_pos (by decide +kernel)]; kernel_rfl) | (rw [if_neg (by decide +kernel)]; exact ⟨rfl, rfl⟩))
    (fun os started H enc _ => lifted os started H enc)

theorem proved : Rows.RationalRoundsCardSaid :=
  Claim7.holds_tied_plain_at .later [] [.funcs] true (true, "a18686d7ce9dac20472b8cafde1c95bf318b18ce38aaf4bc5c3d5f2f05446804") false
    over (fun _ h => by cases h) (by kernel_rfl) (fun _ h => by cases h) rationalRounds_row_tie rfl ⟨rfl, rfl⟩ (by kernel_rfl) rfl
    (fun f fn hf hfn => by
      obtain rfl : f = 3 := Option.some.inj ((show Tryd.prog.funcNamed "novation/novationlaw02.RationalRounds" = some 3 by kernel_rfl).symm.trans hf) |>.symm
      obtain rfl : fn = Tryd.f3 := (Option.some.inj (Tryd.func3.symm.trans hfn)).symm
      exact ⟨by kernel_rfl, fun j t ht => by
        rw [Tryd.params3] at ht
        have hm : t ∈ [22, 5] := by simpa using Array.mem_of_getElem? ht
        have hall : ([22, 5].all fun u => !Tryd.prog.wantsStandIn u) = true := by kernel_rfl
        exact (show Tryd.prog.wantsStandIn t = false by simpa using List.all_eq_true.1 hall t hm)⟩)
    (by kernel_rfl)
#print axioms proved
