/- Walks: the statements' helpers of chapter 2: op, fits, alive; contracts on rationals' texts. -/
import Derived.Test.YthafdckomhdlbaaDoorZrt
import Derived.Test.YthafdckomhdlbaaDoorQ5
import Derived.Test.YthafdckomhdlbaaDoorIl
import Derived.Test.YthafdckomhdlbaaDoorRd2
namespace Go.Proofs.YthafdckomhdlbaaDoor
open Go.RowKit

/-- An operation on two texts, in whatever world. -/
def QC (F : Nat) (A B r : ByteArray) (k : Int) : Prop := ∀ W : World, HasV W → Calls Tryd.prog F #[.string A, .string B] W fun e w' => e = .returned (.tuple #[.string r, .int .i64 k]) ∧ Below W.heap.size W w'
theorem qC_add {n m : Nat} {x y z : Rat} (h : Z.Rt n x) (g : Z.Rt m y) (h0 : 0 < n) (g0 : 0 < m) (hm : n + m + 1 ≤ 1000) (e : x + y = z) : QC 14 (Z.Q x) (Z.Q y) (Z.Q z) 0 := by
  subst e
  intro W hv
  have a1 := h.size h0 (by omega)
  have a2 := g.size g0 (by omega)
  have := qadd_any (Z.Q x) (Z.Q y) W hv (by omega) (by omega)
  unfold RopRet at this
  rwa [(Z.add_S h g h0 g0 hm).1, (Z.add_S h g h0 g0 hm).2] at this
theorem qC_sub {n m : Nat} {x y z : Rat} (h : Z.Rt n x) (g : Z.Rt m y) (h0 : 0 < n) (g0 : 0 < m) (hm : n + m + 1 ≤ 1000) (e : x - y = z) : QC 15 (Z.Q x) (Z.Q y) (Z.Q z) 0 := by
  subst e
  intro W hv
  have a1 := h.size h0 (by omega)
  have a2 := g.size g0 (by omega)
  have := qsub_any (Z.Q x) (Z.Q y) W hv (by omega) (by omega)
  unfold RopRet at this
  rwa [(Z.sub_S h g h0 g0 hm).1, (Z.sub_S h g h0 g0 hm).2] at this
theorem qC_mul {n m : Nat} {x y z : Rat} (h : Z.Rt n x) (g : Z.Rt m y) (h0 : 0 < n) (g0 : 0 < m) (hm : n + m ≤ 1000) (e : x * y = z) : QC 16 (Z.Q x) (Z.Q y) (Z.Q z) 0 := by
  subst e
  intro W hv
  have a1 := h.size h0 (by omega)
  have a2 := g.size g0 (by omega)
  have := qmul_any (Z.Q x) (Z.Q y) W hv (by omega) (by omega)
  unfold RopRet at this
  rwa [(Z.mul_S h g h0 g0 hm).1, (Z.mul_S h g h0 g0 hm).2] at this
theorem qC_div {n m : Nat} {x y z : Rat} (h : Z.Rt n x) (g : Z.Rt m y) (hy : y ≠ 0) (h0 : 0 < n) (g0 : 0 < m) (hm : n + m ≤ 1000) (e : x / y = z) : QC 17 (Z.Q x) (Z.Q y) (Z.Q z) 0 := by
  subst e
  intro W hv
  have a1 := h.size h0 (by omega)
  have a2 := g.size g0 (by omega)
  have := qdiv_any (Z.Q x) (Z.Q y) W hv (by omega) (by omega)
  unfold DivQ at this
  rwa [(Z.qdiv_S h g hy h0 g0 hm).1, (Z.qdiv_S h g hy h0 g0 hm).2] at this
theorem qC_div0 {n : Nat} {x : Rat} (h : Z.Rt n x) (h0 : 0 < n) (hm : n ≤ 1000) : QC 17 (Z.Q x) (Z.Q 0) ⟨#[]⟩ 16 := by
  intro W hv
  have a1 := h.size h0 (by omega)
  have a2 := Z.rt_zero.size (by omega) (by omega)
  have := qdiv_any (Z.Q x) (Z.Q 0) W hv (by omega) (by omega)
  unfold DivQ at this
  rwa [(Z.qdiv_0 h h0 hm).1, (Z.qdiv_0 h h0 hm).2] at this
/-- Compare on two texts. -/
def QK (A B : ByteArray) (c k : Int) : Prop := ∀ W : World, HasV W → Calls Tryd.prog 19 #[.string A, .string B] W fun e w' => e = .returned (.tuple #[.int .i64 c, .int .i64 k]) ∧ Below W.heap.size W w'
theorem qC_cmp {n m : Nat} {x y : Rat} {c : Int} (h : Z.Rt n x) (g : Z.Rt m y) (h0 : 0 < n) (g0 : 0 < m) (hm : n + m ≤ 1000) (e : Z.cmpR x y = c) : QK (Z.Q x) (Z.Q y) c 0 := by
  subst e
  intro W hv
  have a1 := h.size h0 (by omega)
  have a2 := g.size g0 (by omega)
  have := qcompare_any (Z.Q x) (Z.Q y) W hv (by omega) (by omega)
  unfold CmpQ at this
  rwa [(Z.qcmp_S h g h0 g0 hm).1, (Z.qcmp_S h g h0 g0 hm).2] at this
/-- The statements' op. -/
def QO (F : Nat) (A B r : ByteArray) : Prop := ∀ W : World, HasV W → Calls Tryd.prog 18 #[.func (.func F) #[] #[], .string A, .string B] W fun e w' => e = .returned (.string r) ∧ Below W.heap.size W w'
theorem qop_add {A B r : ByteArray} (C : QC 14 A B r 0) : QO 14 A B r := by
  intro w hv
  have C := Lib.hid C
  have HV := Lib.hid hv
  clear hv
  unfold QC at C
  go_enter Tryd.func18, Tryd.ntmps18
  go_wp2_with fail
  refine (C.out _ HV.out).mono ?_
  rintro e w1 ⟨rfl, hb1⟩
  go_wp2_with fail
  go_ret
  exact ⟨rfl, hb1⟩
theorem qop_sub {A B r : ByteArray} (C : QC 15 A B r 0) : QO 15 A B r := by
  intro w hv
  have C := Lib.hid C
  have HV := Lib.hid hv
  clear hv
  unfold QC at C
  go_enter Tryd.func18, Tryd.ntmps18
  go_wp2_with fail
  refine (C.out _ HV.out).mono ?_
  rintro e w1 ⟨rfl, hb1⟩
  go_wp2_with fail
  go_ret
  exact ⟨rfl, hb1⟩
theorem qop_mul {A B r : ByteArray} (C : QC 16 A B r 0) : QO 16 A B r := by
  intro w hv
  have C := Lib.hid C
  have HV := Lib.hid hv
  clear hv
  unfold QC at C
  go_enter Tryd.func18, Tryd.ntmps18
  go_wp2_with fail
  refine (C.out _ HV.out).mono ?_
  rintro e w1 ⟨rfl, hb1⟩
  go_wp2_with fail
  go_ret
  exact ⟨rfl, hb1⟩
theorem qop_div {A B r : ByteArray} (C : QC 17 A B r 0) : QO 17 A B r := by
  intro w hv
  have C := Lib.hid C
  have HV := Lib.hid hv
  clear hv
  unfold QC at C
  go_enter Tryd.func18, Tryd.ntmps18
  go_wp2_with fail
  refine (C.out _ HV.out).mono ?_
  rintro e w1 ⟨rfl, hb1⟩
  go_wp2_with fail
  go_ret
  exact ⟨rfl, hb1⟩
def qfitsB (n : Nat) (ss : List ByteArray) : Bool := ss.all fun s => decide (s.size ≤ n) && decide (Z.rchk s = 0)
theorem qfits_no {n : Nat} {ss : List ByteArray} {s : ByteArray} (hs : s ∈ ss) (h : n < s.size ∨ Z.rchk s ≠ 0) : qfitsB n ss = false := by
  unfold qfitsB
  rw [List.all_eq_false]
  exact ⟨s, hs, by simp; omega⟩
theorem qfits_yes {n : Nat} {ss : List ByteArray} (h : ∀ s ∈ ss, s.size ≤ n ∧ Z.rchk s = 0) : qfitsB n ss = true := by
  unfold qfitsB
  rw [List.all_eq_true]
  intro s hs
  simp [(h s hs).1, (h s hs).2]
theorem qfits_get {n : Nat} {ss : List ByteArray} {s : ByteArray} (h : qfitsB n ss = true) (hs : s ∈ ss) (h0 : 0 < n) : ∃ x, s = Z.Q x ∧ Z.Rt n x := by
  unfold qfitsB at h
  rw [List.all_eq_true] at h
  have := h s hs
  simp only [Bool.and_eq_true, decide_eq_true_eq] at this
  exact Z.rt_of_size this.2 this.1 h0
set_option maxHeartbeats 800000 in
theorem qfits_any (n : Nat) (v : Value) (ss : List ByteArray) (w : World) (hS : SS w v ss) (hn : n ≤ 1000) (hl : ss.length ≤ 1000) :
    Calls Tryd.prog 13 #[.int .i64 n, v] w fun e w' => e = .returned (.bool (qfitsB n ss)) ∧ Below w.heap.size w w' := by
  obtain ⟨A, c, rfl, hc, hm, hcell⟩ := hS
  have HC0 := Lib.hid hcell
  clear hcell
  go_enter Tryd.func13, Tryd.ntmps13
  go_wp2_with fail
  go_loopw [5] (fun iv wr => ∃ k : Nat, k ≤ ss.length ∧ iv = .int .i64 k ∧ Below w.heap.size w wr ∧ Hid (∀ (i : Nat) (s : ByteArray), i < k → ss[i]? = some s → s.size ≤ n ∧ Z.rchk s = 0)) (fun iv _ => ss.length - (intOf iv).toNat)
  case atStart => exact ⟨0, by omega, rfl, Below.refl _ _, fun i s h => by omega⟩
  case round =>
    obtain ⟨k, hk, rfl, hb, HK⟩ := hrel
    by_cases hlt : k < ss.length
    · obtain ⟨g, o, rfl, hg, hcl⟩ := HC0.out (by omega)
      obtain ⟨s, hs⟩ : ∃ s, ss[k]? = some s := ⟨_, List.getElem?_eq_getElem (by omega)⟩
      have hr := (hb.cell (p := ⟨g, o + k, none⟩) hg).trans (hcl _ _ hs)
      have HS := Lib.hid hs
      clear hcl hs
      by_cases hbig : n < s.size
      · go_wp2_with fail
        go_ret
        exact ⟨ret_bool (qfits_no (List.mem_of_getElem? HS.out) (.inl hbig)).symm, hb⟩
      · have C := Lib.hid (rqcheck_any s wr (by omega))
        unfold QchkRet at C
        have hsz : s.size ≤ 1000 := by omega
        have hmx : (s.size : Int) ≤ 1000 := by omega
        by_cases hz : Z.rchk s = 0
        · have HZ := Lib.hid hz
          rw [hz] at C
          clear hz
          go_wp2_with fail
          refine C.out.mono ?_
          rintro e w2 ⟨rfl, hb2⟩
          go_wp2_with fail
          go_roundw
          case rel =>
            refine ⟨k + 1, by omega, by go_num, hb.trans (hb2.mono hb.size), fun i x hi hx => ?_⟩
            by_cases e : i = k
            · subst e
              rw [HS.out] at hx
              injection hx with hx
              rw [← hx]; exact ⟨by omega, HZ.out⟩
            · exact HK.out i x (by omega) hx
          case measure => simp [intOf]; omega
        · have HF := Lib.hid (qfits_no (n := n) (List.mem_of_getElem? HS.out) (.inr hz))
          generalize Z.rchk s = kk at *
          have hkb : (kk != 0) = true := by simpa using hz
          clear hz
          go_wp2_with fail
          refine C.out.mono ?_
          rintro e w2 ⟨rfl, hb2⟩
          go_wp2_with fail
          go_ret
          exact ⟨ret_bool HF.out.symm, hb.trans (hb2.mono hb.size)⟩
    · obtain rfl : k = ss.length := by omega
      go_wp2_with fail
      go_ret
      refine ⟨ret_bool (qfits_yes fun s hs => ?_).symm, hb⟩
      obtain ⟨i, hi⟩ := List.mem_iff_getElem?.1 hs
      exact HK.out i s (List.getElem?_eq_some_iff.1 hi).1 hi
end Go.Proofs.YthafdckomhdlbaaDoor
