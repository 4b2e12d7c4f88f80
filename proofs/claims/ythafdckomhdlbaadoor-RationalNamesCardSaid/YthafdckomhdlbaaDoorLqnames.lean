/-
  Limits and errors of package rational, and the chapter's examples (a tied card: the table of ways lies as the text says).
-/
import Derived.Test.YthafdckomhdlbaaDoorRows
import Derived.Test.YthafdckomhdlbaaDoorRalive
import Derived.Test.YthafdckomhdlbaaDoorZone
import Derived.Test.YthafdckomhdlbaaDoorShelf
import Derived.HandedShaped
import Derived.Test.YthafdckomhdlbaaDoorCards
import Derived.Test.YthafdckomhdlbaaDoorTie
import Derived.Test.YthafdckomhdlbaaDoorRd1
import Derived.SevenTiedAt
import Derived.ProofKit
import Derived.OpenShut
import Derived.ShutString
namespace Go.Proofs.YthafdckomhdlbaaDoor.lawNames
open Go.ChangeShapes Go.WideShapes Go.ChangeAt Go.RowKit
open Go.ChangeMaps (open_string shut_string)

def badForms : List ByteArray := [⟨#[]⟩, ⟨#[47]⟩, ⟨#[49, 47]⟩, ⟨#[47, 50]⟩, ⟨#[50, 47, 49]⟩, ⟨#[52, 47, 50]⟩, ⟨#[48, 47, 50]⟩, ⟨#[49, 47, 45, 50]⟩, ⟨#[49, 47, 48]⟩, ⟨#[49, 47, 50, 47, 51]⟩, ⟨#[45, 48]⟩, ⟨#[49, 47, 48, 50]⟩, ⟨#[45, 49, 47, 45, 50]⟩, ⟨#[32, 49, 47, 50]⟩, ⟨#[49, 46, 53]⟩]
theorem badForms_chk : ∀ s ∈ badForms, Z.rchk s = 12 ∧ s.size ≤ 100 := by decide +kernel
theorem mkS {P : Program} {ops : Array Oper} {rest : List Oper} {o : Oper} {a : Act} {Q : Exit → Act → World → Prop} (hg : o.guard = none) (l c : Operand) (t : TypeId) (hop : o.op = Op.makeSlice t l c)
    {e : TypeId} (hE : ElemStr P e 16) (ht : P.underlying t = some (.slice e)) (w : World) (C C' : Int) (n : Nat) (hl : a.eval l = .int .i64 C) (hc : a.eval c = .int .i64 C') (hC : C = (n : Int)) (hC' : C' = (n : Int)) (hn : n ≤ 10000)
    (h : ∀ w', SS w' (.slice (some ⟨w.heap.size, 0, none⟩) n n) (List.replicate n ByteArray.empty) → Below w.heap.size w w' → wpList P ops Q rest (a.put o.dst (.slice (some ⟨w.heap.size, 0, none⟩) n n)) w') :
    wpList P ops Q (o :: rest) a w := by
  obtain ⟨i, hi, hz, h1, h2⟩ := info_partsS hE
  refine wpList_make_full w hg l c t hop w.heap.size e i (.string ByteArray.empty) 1 ht hi hz h1 .i64 .i64 C C' n hl hc hC hC' (by rw [h2]; omega) (by unfold maxLen; omega) (Nat.le_refl _) ?_
  intro w' hown hg
  have e1 : (madeCells (Value.string ByteArray.empty).cells (n * 1)).toList = (List.replicate n ByteArray.empty).map Value.string := by
    rw [Nat.mul_one]
    show (madeCells #[Value.string ByteArray.empty] n).toList = _
    rw [toList_madeCells_one, List.map_replicate]
  rw [e1] at hown
  exact h w' (ss_of_owns (by simp) hown) ⟨hg.os, hg.tape, hg.output, hg.size, fun k hk => hg.block k hk (by simp)⟩
def PC (A : ByteArray) (n : Int) (r : ByteArray) (k : Int) : Prop := ∀ W : World, HasV W → Calls Tryd.prog 22 #[.string A, .int .i64 n] W fun e w' => e = .returned (.tuple #[.string r, .int .i64 k]) ∧ Below W.heap.size W w'
theorem pC_of {A r : ByteArray} {n k : Int} (hA : A.size ≤ 100000) (h0 : -2000 ≤ n) (h1 : n ≤ 2000) (hr : Z.powS A n = r) (hk : Z.powE A n = k) : PC A n r k := by
  subst hr hk
  intro W hv
  have := qpower_any A n W hv hA (by omega) (by omega)
  unfold PowRet at this
  exact this
def MC (A B r : ByteArray) (k : Int) : Prop := ∀ W : World, Calls Tryd.prog 26 #[.string A, .string B] W fun e w' => e = .returned (.tuple #[.string r, .int .i64 k]) ∧ Below W.heap.size W w'
def RT (n m : Int) (r : ByteArray) (k : Int) : Prop := ∀ W : World, Calls Tryd.prog 25 #[.int .i64 n, .int .i64 m] W fun e w' => e = .returned (.tuple #[.string r, .int .i64 k]) ∧ Below W.heap.size W w'
theorem mC_of {A B r : ByteArray} {k : Int} (hA : A.size ≤ maxLen) (hB : B.size ≤ maxLen) (hr : Z.makeS A B = r) (hk : Z.makeE A B = k) : MC A B r k := by
  subst hr hk
  intro W
  have := make_any A B W hA hB
  unfold MakeRet at this
  exact this
theorem rT_of {n m : Int} {r : ByteArray} {k : Int} (h0 : -9223372036854775808 ≤ n) (h1 : n ≤ 9223372036854775807) (g0 : -9223372036854775808 ≤ m) (g1 : m ≤ 9223372036854775807) (hr : Z.makeS (Z.S n) (Z.S m) = r) (hk : Z.makeE (Z.S n) (Z.S m) = k) : RT n m r k := by
  subst hr hk
  intro W
  have := ratio_any n m W h0 h1 g0 g1
  unfold MakeRet at this
  exact this
def KC (A : ByteArray) (k : Int) : Prop := ∀ W : World, HasV W → Calls Tryd.prog 23 #[.string A] W fun e w' => e = .returned (.int .i64 k) ∧ Below W.heap.size W w'
theorem kC_of {A : ByteArray} {k : Int} (hA : A.size ≤ 100000) (hk : Z.rchk A = k) : KC A k := by
  subst hk
  intro W hv
  have := qcheck_any A W hv hA
  unfold QchkRet at this
  exact this
theorem qC_mulX {A B : ByteArray} {k : Int} (hA : A.size ≤ 100000) (hB : B.size ≤ 100000) (hk : Z.ropE (Z.lMul A B) A B = k) : QC 16 A B (Z.ropS (Z.lMul A B) (Z.rq A * Z.rq B) A B) k := by
  subst hk
  intro W hv
  have := qmul_any A B W hv hA hB
  unfold RopRet at this
  exact this
theorem qC_addX {A B : ByteArray} {k : Int} (hA : A.size ≤ 100000) (hB : B.size ≤ 100000) (hk : Z.ropE (Z.lAdd A B) A B = k) : QC 14 A B (Z.ropS (Z.lAdd A B) (Z.rq A + Z.rq B) A B) k := by
  subst hk
  intro W hv
  have := qadd_any A B W hv hA hB
  unfold RopRet at this
  exact this
theorem qC_divX {A B : ByteArray} {k : Int} (hA : A.size ≤ 100000) (hB : B.size ≤ 100000) (hk : Z.rdivE A B = k) : QC 17 A B (Z.rdivS A B) k := by
  subst hk
  intro W hv
  have := qdiv_any A B W hv hA hB
  unfold DivQ at this
  exact this
theorem qC_cmpX {A B : ByteArray} {k : Int} (hA : A.size ≤ 100000) (hB : B.size ≤ 100000) (hk : Z.rcmpE A B = k) : QK A B (Z.rcmpV A B) k := by
  subst hk
  intro W hv
  have := qcompare_any A B W hv hA hB
  unfold CmpQ at this
  exact this
def SC (l : List ByteArray) (r : ByteArray) (k : Int) : Prop := ∀ (W : World) (v : Value), SS W v l → HasV W → Calls Tryd.prog 27 #[v] W fun e w' => e = .returned (.tuple #[.string r, .int .i64 k]) ∧ Below W.heap.size W w'
theorem sC_of {l : List ByteArray} {r : ByteArray} {k : Int} (hl : ∀ s ∈ l, s.size ≤ 100000) (hr : Z.sumR l = (r, k)) : SC l r k := by
  intro W v hS hv
  have := qsum_any v l W hv hS (fun _ => hl)
  unfold SumRet at this
  rw [hr] at this
  exact this
theorem ss_nil (W : World) : SS W (.slice none 0 0) [] := ⟨none, 0, rfl, by simp, by unfold maxLen; omega, fun h => by simp at h⟩
theorem ss_elem : ∀ s ∈ List.replicate 1001 ByteArray.empty, s.size ≤ 100000 := by
  intro s hs
  rw [List.eq_of_mem_replicate hs]
  decide
theorem sum_many : Z.sumR (List.replicate 1001 ByteArray.empty) = (⟨#[]⟩, 4) := Z.sumR_many (by rw [List.length_replicate]; omega)
set_option maxHeartbeats 800000 in
theorem ones_any (n : Nat) (w : World) (hn : n ≤ 2000) : Calls Tryd.prog 24 #[.int .i64 n] w (StrIs (one n) w) := by
  go_enter Tryd.func24, Tryd.ntmps24
  go_wp2_with fail
  go_loopw [3, 4] (fun bv iv wr => ∃ k : Nat, k ≤ n ∧ iv = .int .i64 k ∧ Ow .u8 5 wr w.heap.size bv (List.replicate k 49) ∧ Below w.heap.size w wr) (fun _ iv _ => n - (intOf iv).toNat)
  case atStart => exact ⟨0, by omega, rfl, Ow.nil_ _, Below.refl _ _⟩
  case round =>
    obtain ⟨k, hk, rfl, hown, hb⟩ := hrel
    by_cases hlt : k < n
    · go_wp2_with (at_builtin; refine app1 rfl _ _ _ rfl elem8 Tryd.underlying76 (by omega) wr w.heap.size u3 (List.replicate k 49) 49 49 rfl rfl hown rfl (by simp; omega) hb.size ?_; intro v2 w2 hown2 hb2 hs2)
      go_roundw
      case rel => exact ⟨k + 1, by omega, by go_num, by rw [List.replicate_succ']; exact hown2, hb.trans hb2⟩
      case measure => simp [intOf]; omega
    · obtain rfl : k = n := by omega
      have hcv := conv_string wr 76 9 5 Tryd.underlying76 Tryd.underlying5 Tryd.underlying9 u3 _ hown.sn
      rw [Z.one_strOf] at hcv
      go_wp2_with fail
      go_ret
      exact ⟨rfl, hb⟩
set_option maxRecDepth 100000 in
set_option maxHeartbeats 8000000 in
theorem walk (w : World) (hv : HasV w) (hA : Away w) :
    Calls Tryd.prog 8 #[] w fun e w' => e = .returned (.bool true) ∧ Below w.heap.size w w' := by
  obtain ⟨k, hk⟩ : ∃ k, k = 1000 := ⟨_, rfl⟩
  obtain ⟨k1, k2, k3⟩ := Z.wide_facts hk
  have k4 := Z.over_ok hk
  subst hk
  have k5 := Z.over_big (n := 1001) rfl
  have sz1 : (over 49 1000).size = 1002 := Z.over_size _ _
  have sz2 : (over 50 1001).size = 1003 := Z.over_size _ _
  have HV := Lib.hid hv
  have HA := Lib.hid hA
  clear hv hA
  have AL := Lib.hid ralive_any
  have H1 := Lib.hid (fun W : World => ones_any 1000 W (by omega))
  have H2 := Lib.hid (qC_mulX (by omega) (by decide) k1)
  have H3 := Lib.hid (qC_addX (by omega) (by decide) k2)
  have H4 := Lib.hid (qC_cmpX (by omega) (by decide) k3)
  have H5 := Lib.hid (qC_divX (A := ⟨#[49]⟩) (B := ⟨#[48]⟩) (k := 16) (by decide) (by decide) (by decide +kernel))
  have H6 := Lib.hid (qC_divX (A := ⟨#[120]⟩) (B := ⟨#[48]⟩) (k := 12) (by decide) (by decide) (by decide +kernel))
  have H7 := Lib.hid (rT_of (n := 1) (m := 0) (r := ⟨#[]⟩) (k := 16) (by omega) (by omega) (by omega) (by omega) (by decide +kernel) (by decide +kernel))
  have H8 := Lib.hid (mC_of (A := ⟨#[48]⟩) (B := ⟨#[48]⟩) (r := ⟨#[]⟩) (k := 16) (by decide) (by decide) (by decide +kernel) (by decide +kernel))
  have H9 := Lib.hid (pC_of (A := ⟨#[48]⟩) (n := -1) (r := ⟨#[]⟩) (k := 16) (by decide) (by omega) (by omega) (by decide +kernel) (by decide +kernel))
  have H10 := Lib.hid (pC_of (A := ⟨#[48]⟩) (n := 0) (r := ⟨#[49]⟩) (k := 0) (by decide) (by omega) (by omega) (by decide +kernel) (by decide +kernel))
  have H11 := Lib.hid (pC_of (A := ⟨#[49]⟩) (n := 1001) (r := ⟨#[]⟩) (k := 2) (by decide) (by omega) (by omega) (by decide +kernel) (by decide +kernel))
  have H12 := Lib.hid (pC_of (A := ⟨#[49, 48]⟩) (n := 1000) (k := 14) (by decide) (by omega) (by omega) rfl (Z.pow_big (k := 999) rfl))
  have H13 := Lib.hid (pC_of (A := ⟨#[45, 50, 47, 51]⟩) (n := -3) (r := ⟨#[45, 50, 55, 47, 56]⟩) (k := 0) (by decide) (by omega) (by omega) (by decide +kernel) (by decide +kernel))
  have H14 := Lib.hid (sC_of ss_elem sum_many)
  have H15 := Lib.hid (sC_of (l := []) (r := ⟨#[48]⟩) (k := 0) (by simp) (by decide +kernel))
  have H16 := Lib.hid (rC_of (A := ⟨#[49]⟩) (m := 5) (r := ⟨#[]⟩) (k := 2) (by decide) (by omega) (by decide +kernel) (by decide +kernel))
  have H17 := Lib.hid (rT_of (n := -9223372036854775808) (m := -1) (r := ⟨#[57, 50, 50, 51, 51, 55, 50, 48, 51, 54, 56, 53, 52, 55, 55, 53, 56, 48, 56]⟩) (k := 0) (by omega) (by omega) (by omega) (by omega) (by decide +kernel) (by decide +kernel))
  have H18 := Lib.hid (kC_of (by omega) k4)
  have H19 := Lib.hid (kC_of (by omega) k5)
  have E1 : Hid ((⟨#[49, 47]⟩ : ByteArray) ++ one 1000 = over 49 1000) := Z.over_of 1000
  have E2 : Hid ((⟨#[50, 47]⟩ : ByteArray) ++ (over 49 1000).extract 2 1002 ++ ⟨#[49]⟩ = over 50 1001) := by have := Z.over_next 1000; rw [sz1] at this; exact this
  have sz3 : (one 1000).size = 1000 := by rw [Lib.size_eq, Z.one_data]; simp
  clear k1 k2 k3 k4 k5
  unfold StrIs QC QK RT MC PC SC RC KC at *
  generalize Z.ropS (Z.lMul (over 49 1000) ⟨#[49, 47, 49, 49]⟩) (Z.rq (over 49 1000) * Z.rq ⟨#[49, 47, 49, 49]⟩) (over 49 1000) ⟨#[49, 47, 49, 49]⟩ = s2 at *
  generalize Z.ropS (Z.lAdd (over 49 1000) ⟨#[49, 47, 49, 49]⟩) (Z.rq (over 49 1000) + Z.rq ⟨#[49, 47, 49, 49]⟩) (over 49 1000) ⟨#[49, 47, 49, 49]⟩ = s3 at *
  generalize Z.rcmpV (over 49 1000) ⟨#[49, 49, 47, 51]⟩ = s4 at *
  generalize Z.rdivS ⟨#[49]⟩ ⟨#[48]⟩ = s5 at *
  generalize Z.rdivS ⟨#[120]⟩ ⟨#[48]⟩ = s6 at *
  generalize Z.powS ⟨#[49, 48]⟩ 1000 = s12 at *
  generalize one 1000 = O1 at *
  generalize over 49 1000 = W1 at *
  generalize over 50 1001 = W2 at *
  have zz1 : (O1.size : Int) = 1000 := by omega
  have zz2 : (W1.size : Int) = 1002 := by omega
  have zz3 : (W2.size : Int) = 1003 := by omega
  have SSN := fun W : World => ss_new W badForms 22 (by decide)
  have HSN : Hid (∀ W : World, SS (W.alloc (.cells #[.string ⟨#[]⟩, .string ⟨#[47]⟩, .string ⟨#[49, 47]⟩, .string ⟨#[47, 50]⟩, .string ⟨#[50, 47, 49]⟩, .string ⟨#[52, 47, 50]⟩, .string ⟨#[48, 47, 50]⟩, .string ⟨#[49, 47, 45, 50]⟩, .string ⟨#[49, 47, 48]⟩, .string ⟨#[49, 47, 50, 47, 51]⟩, .string ⟨#[45, 48]⟩, .string ⟨#[49, 47, 48, 50]⟩, .string ⟨#[45, 49, 47, 45, 50]⟩, .string ⟨#[32, 49, 47, 50]⟩, .string ⟨#[49, 46, 53]⟩] 22)) (.slice (some ⟨W.heap.size, 0, none⟩) 15 15) badForms) := SSN
  clear SSN
  go_enter Tryd.func8, Tryd.ntmps8
  go_wp2_with fail
  have hb0 : Below w.heap.size w (w.alloc (.cells #[.string ⟨#[]⟩, .string ⟨#[47]⟩, .string ⟨#[49, 47]⟩, .string ⟨#[47, 50]⟩, .string ⟨#[50, 47, 49]⟩, .string ⟨#[52, 47, 50]⟩, .string ⟨#[48, 47, 50]⟩, .string ⟨#[49, 47, 45, 50]⟩, .string ⟨#[49, 47, 48]⟩, .string ⟨#[49, 47, 50, 47, 51]⟩, .string ⟨#[45, 48]⟩, .string ⟨#[49, 47, 48, 50]⟩, .string ⟨#[45, 49, 47, 45, 50]⟩, .string ⟨#[32, 49, 47, 50]⟩, .string ⟨#[49, 46, 53]⟩] 22)) := (Below.refl _ _).alloc (Nat.le_refl _) _
  have hss := HSN.out w
  generalize w.alloc (.cells #[.string ⟨#[]⟩, .string ⟨#[47]⟩, .string ⟨#[49, 47]⟩, .string ⟨#[47, 50]⟩, .string ⟨#[50, 47, 49]⟩, .string ⟨#[52, 47, 50]⟩, .string ⟨#[48, 47, 50]⟩, .string ⟨#[49, 47, 45, 50]⟩, .string ⟨#[49, 47, 48]⟩, .string ⟨#[49, 47, 50, 47, 51]⟩, .string ⟨#[45, 48]⟩, .string ⟨#[49, 47, 48, 50]⟩, .string ⟨#[45, 49, 47, 45, 50]⟩, .string ⟨#[32, 49, 47, 50]⟩, .string ⟨#[49, 46, 53]⟩] 22) = w0 at *
  obtain ⟨A0, c0, hv0, _, _, hcell⟩ := hss
  obtain ⟨g, o, rfl, hg, hcl⟩ := hcell (by decide)
  have hA : (⟨w.heap.size, 0, none⟩ : Addr) = ⟨g, o, none⟩ := by
    simp only [Value.slice.injEq, Option.some.injEq] at hv0
    exact hv0.1
  simp only [Addr.mk.injEq, and_true] at hA
  obtain ⟨rfl, rfl⟩ := hA
  have HCL := Lib.hid hcl
  clear hcl hcell hv0 HSN
  go_loopw [39] (fun iv wr => ∃ j : Nat, j ≤ 15 ∧ iv = .int .i64 j ∧ Below w0.heap.size w0 wr) (fun iv _ => 15 - (intOf iv).toNat)
  case atStart => exact ⟨0, by omega, rfl, Below.refl _ _⟩
  case round =>
    obtain ⟨j, hj, rfl, hbr⟩ := hrel
    by_cases hlt : j < 15
    · obtain ⟨s, hs⟩ : ∃ s, badForms[j]? = some s := ⟨_, List.getElem?_eq_getElem (show j < badForms.length from hlt)⟩
      have hr := (hbr.cell (p := ⟨w.heap.size, 0 + j, none⟩) hg).trans (HCL.out j s hs)
      have hck := badForms_chk s (List.mem_of_getElem? hs)
      have C := Lib.hid (kC_of (A := s) (by omega) hck.1 wr (HV.out.below (hb0.trans (hbr.mono hb0.size))))
      clear hs hck
      rw [Nat.zero_add] at hr
      go_wp2_with fail
      refine C.out.mono ?_
      rintro e w' ⟨rfl, hbx⟩
      go_wp2_with fail
      go_roundw
      case rel => exact ⟨j + 1, by omega, by go_num, hbr.trans (hbx.mono hbr.size)⟩
      case measure => (simp [intOf]) <;> omega
    · obtain rfl : j = 15 := by omega
      have c0 := hb0.trans (hbr.mono hb0.size)
      clear hb0 hbr HCL hg
      go_wp2_with fail
      refine (H1.out _).mono ?_
      rintro e w1 ⟨rfl, hb1⟩
      have c1 := c0.trans (hb1.mono c0.size)
      clear c0 hb1
      go_wp2_with fail
      rw [E1.out]
      refine (H2.out _ (HV.out.below c1)).mono ?_
      rintro e w2 ⟨rfl, hb2⟩
      have c2 := c1.trans (hb2.mono c1.size)
      clear c1 hb2
      go_wp2_with fail
      refine (H3.out _ (HV.out.below c2)).mono ?_
      rintro e w3 ⟨rfl, hb3⟩
      have c3 := c2.trans (hb3.mono c2.size)
      clear c2 hb3
      go_wp2_with fail
      refine (H4.out _ (HV.out.below c3)).mono ?_
      rintro e w4 ⟨rfl, hb4⟩
      have c4 := c3.trans (hb4.mono c3.size)
      clear c3 hb4
      go_wp2_with fail
      refine (H5.out _ (HV.out.below c4)).mono ?_
      rintro e w5 ⟨rfl, hb5⟩
      have c5 := c4.trans (hb5.mono c4.size)
      clear c4 hb5
      go_wp2_with fail
      refine (H6.out _ (HV.out.below c5)).mono ?_
      rintro e w6 ⟨rfl, hb6⟩
      have c6 := c5.trans (hb6.mono c5.size)
      clear c5 hb6
      go_wp2_with fail
      refine (H7.out _).mono ?_
      rintro e w7 ⟨rfl, hb7⟩
      have c7 := c6.trans (hb7.mono c6.size)
      clear c6 hb7
      go_wp2_with fail
      refine (H8.out _).mono ?_
      rintro e w8 ⟨rfl, hb8⟩
      have c8 := c7.trans (hb8.mono c7.size)
      clear c7 hb8
      go_wp2_with fail
      refine (H9.out _ (HV.out.below c8)).mono ?_
      rintro e w9 ⟨rfl, hb9⟩
      have c9 := c8.trans (hb9.mono c8.size)
      clear c8 hb9
      go_wp2_with fail
      refine (H10.out _ (HV.out.below c9)).mono ?_
      rintro e w10 ⟨rfl, hb10⟩
      have c10 := c9.trans (hb10.mono c9.size)
      clear c9 hb10
      go_wp2_with fail
      refine (H11.out _ (HV.out.below c10)).mono ?_
      rintro e w11 ⟨rfl, hb11⟩
      have c11 := c10.trans (hb11.mono c10.size)
      clear c10 hb11
      go_wp2_with fail
      refine (H12.out _ (HV.out.below c11)).mono ?_
      rintro e w12 ⟨rfl, hb12⟩
      have c12 := c11.trans (hb12.mono c11.size)
      clear c11 hb12
      go_wp2_with fail
      refine (H13.out _ (HV.out.below c12)).mono ?_
      rintro e w13 ⟨rfl, hb13⟩
      have c13 := c12.trans (hb13.mono c12.size)
      clear c12 hb13
      go_wp2_with (at_make; refine mkS rfl _ _ _ rfl elemRat Tryd.underlying24 _ _ _ 1001 rfl rfl (by omega) (by omega) (by omega) ?_; intro wk SE hbk)
      have ck := c13.trans (hbk.mono c13.size)
      clear c13 hbk
      refine (H14.out _ _ SE (HV.out.below ck)).mono ?_
      rintro e w14 ⟨rfl, hb14⟩
      have c14 := ck.trans (hb14.mono ck.size)
      clear ck hb14
      go_wp2_with fail
      refine (H15.out _ _ (ss_nil _) (HV.out.below c14)).mono ?_
      rintro e w15 ⟨rfl, hb15⟩
      have c15 := c14.trans (hb15.mono c14.size)
      clear c14 hb15
      go_wp2_with fail
      refine (H16.out _ (HV.out.below c15) (HA.out.below c15)).mono ?_
      rintro e w16 ⟨rfl, hb16⟩
      have c16 := c15.trans (hb16.mono c15.size)
      clear c15 hb16
      go_wp2_with fail
      refine (H17.out _).mono ?_
      rintro e w17 ⟨rfl, hb17⟩
      have c17 := c16.trans (hb17.mono c16.size)
      clear c16 hb17
      go_wp2_with fail
      refine (AL.out _ (HV.out.below c17) (HA.out.below c17)).mono ?_
      rintro e w18 ⟨rfl, hb18⟩
      have c18 := c17.trans (hb18.mono c17.size)
      clear c17 hb18
      go_wp2_with fail
      refine (H18.out _ (HV.out.below c18)).mono ?_
      rintro e w19 ⟨rfl, hb19⟩
      have c19 := c18.trans (hb19.mono c18.size)
      clear c18 hb19
      go_wp2_with fail
      rw [E2.out]
      refine (H19.out _ (HV.out.below c19)).mono ?_
      rintro e w20 ⟨rfl, hb20⟩
      have c20 := c19.trans (hb20.mono c19.size)
      clear c19 hb20
      go_wp2_with fail
      go_ret
      exact ⟨rfl, c20⟩

set_option maxRecDepth 100000 in
theorem lifted (os : Os) (started : os.Started) (H : Type) (enc : TypeId × Value → H) :
    ReturnsInHanded {} Tryd.checked os 8 .any (fun w args => (Rows.rationalNamesSpec.pre enc Tryd.prog Tryd.f8 [] false w args ∧ laidMetH Tryd.prog laidL w) ∧ sizedMet enc Tryd.prog Tryd.f8 (OpenSpec.ofChange Rows.rationalNamesSpec) false w args) (Rows.rationalNamesSpec.post enc Tryd.prog Tryd.f8 false true false false) := by
  refine door_wrap (C := Tryd.checked) (laid := laidL) own started (by kernel_rfl) Tryd.func8
    (ChangeSpec.witness_shaped (enc := enc) (C := Tryd.checked) (os := os) (X := fun w _ => laidMetH Tryd.prog laidL w) false (World.doorLaid Tryd.prog 600 os) #[] 8 rfl (World.shaped_of_RefB (by kernel_rfl) (by kernel_rfl)) (by kernel_rfl) (by kernel_rfl) (by kernel_rfl) (door_met os _)) ?_
  intro W base args ds gs before hval0 hW _ hL hsh
  have hval : ∀ (j : Nat) t v, Tryd.f8.params[j]? = some t → args[j]? = some v → Value.okWide Tryd.prog W .any base t v := hval0
  have hW' := hW
  obtain ⟨p, q, hA0, hV, rfl, hfz, hnd⟩ := hW
  have hA : DataW.TrodAll enc Tryd.prog W 0 (fun _ => true) true Tryd.f8.params.toList args.toList ds p := hA0
  rw [Tryd.params8] at hA hval
  obtain ⟨hargs, rfl, rfl⟩ := trodAll_nil hA
  obtain rfl : args = #[] := by cases args; simp_all
  obtain ⟨rfl, rfl⟩ := trodVars_none hV
  clear hA0 hval0
  simp only [List.append_nil] at hW'
  refine (walk W (Tryd.laysM145.s1_3 W hsh) (of_laid hL)).mono fun e W' ⟨he, bel⟩ => ?_
  subst he
  exact ⟨_, rfl, _, _, _, [], _, [], hW', trodAll_mk1 (shut_bool Tryd.underlying4 _), trodAll_mk0, rfl, bel.frame _, fun h => by cases h⟩

theorem over : Rows.rationalNamesRow.holds Tryd.pinned (OpenSpec.ofChange Rows.rationalNamesSpec) :=
  OpenClaim.holds_of_wide 8 Tryd.f8 rfl rfl rfl rfl rfl rfl rfl ⟨rfl, rfl, rfl, rfl, rfl⟩ rfl rfl rfl rfl rfl (by kernel_rfl) Tryd.func8 (by kernel_rfl)
    (of_decide_eq_true (by kernel_rfl)) (by unfold Func.isWrapper; first | (rw [if_pos (by decide +kernel)]; kernel_rfl) | (rw [if_neg (by decide +kernel)]; exact ⟨rfl, rfl⟩))
    (fun os started H enc _ => lifted os started H enc)

theorem proved : Rows.RationalNamesCardSaid :=
  Claim7.holds_tied_plain_at .later [] [.funcs] true (true, "a18686d7ce9dac20472b8cafde1c95bf318b18ce38aaf4bc5c3d5f2f05446804") false
    over (fun _ h => by cases h) (by kernel_rfl) (fun _ h => by cases h) rationalNames_row_tie rfl ⟨rfl, rfl⟩ (by kernel_rfl) rfl
    (fun f fn hf hfn => by
      obtain rfl : f = 8 := Option.some.inj ((show Tryd.prog.funcNamed "novation/novationlaw02.RationalNames" = some 8 by kernel_rfl).symm.trans hf) |>.symm
      obtain rfl : fn = Tryd.f8 := (Option.some.inj (Tryd.func8.symm.trans hfn)).symm
      exact ⟨by kernel_rfl, fun j t ht => by
        rw [Tryd.params8] at ht
        simp at ht⟩)
    (by kernel_rfl)
#print axioms proved
