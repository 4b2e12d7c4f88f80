/- Rd2: Rroundc Rroundd Rrefr Rrefa -/
import Derived.Test.YthafdckomhdlbaaDoorRroundb
import Derived.Test.YthafdckomhdlbaaDoorRd1
import Derived.Test.YthafdckomhdlbaaDoorQ5
/- Walks: rational.Round: a mode beyond the five; a string that is no rational; the floor. -/

namespace Go.Proofs.YthafdckomhdlbaaDoor
open Go.RowKit

theorem round_arg (a : ByteArray) (m : Int) (w : World) (h0 : 5 ≤ m) :
    Calls Tryd.prog 10 #[.string a, .int .u8 m] w fun e w' => e = .returned (.tuple #[.string ⟨#[]⟩, .int .i64 2]) ∧ Below w.heap.size w w' := by
  go_enter Tryd.func10, Tryd.ntmps10
  go_wp2_with fail
  go_ret2
  exact ⟨rfl, Below.refl _ _⟩
theorem round_bad (a : ByteArray) (m k : Int) (w : World) (h0 : 0 ≤ m) (h1 : m < 5) (hv : HasV w) (PP : Hid (PartP a ⟨#[]⟩ ⟨#[]⟩ k)) (hk : (k != 0) = true) :
    Calls Tryd.prog 10 #[.string a, .int .u8 m] w fun e w' => e = .returned (.tuple #[.string ⟨#[]⟩, .int .i64 k]) ∧ Below w.heap.size w w' := by
  have HV := Lib.hid hv
  clear hv
  go_enter Tryd.func10, Tryd.ntmps10
  go_wp2_with fail
  refine (PP.out _ HV.out).mono ?_
  rintro e w1 ⟨rfl, h1⟩
  go_wp2_with fail
  go_ret2
  exact ⟨rfl, h1⟩
theorem round_floor (a n d q r : ByteArray) (w : World) (hv : HasV w) (PP : Hid (PartP a n d 0)) (DM : Hid (DmP 28 n d q r 0)) :
    Calls Tryd.prog 10 #[.string a, .int .u8 4] w fun e w' => e = .returned (.tuple #[.string q, .int .i64 0]) ∧ Below w.heap.size w w' := by
  have HV := Lib.hid hv
  clear hv
  go_enter Tryd.func10, Tryd.ntmps10
  go_wp2_with fail
  refine (PP.out _ HV.out).mono ?_
  rintro e w1 ⟨rfl, h1⟩
  go_wp2_with fail
  refine (DM.out _).mono ?_
  rintro e w2 ⟨rfl, h2⟩
  have c2 := h1.trans (h2.mono h1.size)
  clear h1 h2
  go_wp2_with fail
  go_ret2
  exact ⟨rfl, c2⟩
end Go.Proofs.YthafdckomhdlbaaDoor
/- What rational.Round answers. -/

namespace Go.Proofs.YthafdckomhdlbaaDoor
open Go.RowKit

namespace Z
def rndE (m : Int) (a : ByteArray) : Int := if 5 ≤ m then 2 else rchk a
def rndS (m : Int) (a : ByteArray) : ByteArray := if rndE m a = 0 then S (rndP m (rn a) (rd a)) else ⟨#[]⟩
theorem lt_chk {x : Int} (h : chk (S x).data.toList = 0) : Lt 1000 x := by
  obtain ⟨z, e, hl⟩ := int_of h
  have : ival (S x).data.toList = ival (S z).data.toList := by rw [e]
  rw [ival_S, ival_S] at this
  rw [this]; exact hl
theorem S_cut {n : Int} (h : n < 0) : (S n).extract 1 (S n).size = S (n.natAbs : Int) := by
  apply ba_of
  have e : (S n).data.toList = 45 :: decB n.natAbs := by rw [S_data]; unfold txt; rw [if_pos h]
  rw [ByteArray.data_extract, Array.toList_extract, Lib.size_eq, e, S_data, S_natCast]
  simp
theorem S_posz (n : Int) : 0 < (S n).size := by
  have e : (S n).data.toList = txt n := S_data n
  rw [Lib.size_eq, e]
  unfold txt
  split
  · simp
  · exact List.length_pos_iff.2 (decB_ne _)
theorem S_neg_head (n : Int) : ((S n)[0]'(S_posz n)).toNat = 45 ↔ n < 0 := by
  have h1 := neg_of (S n) (S_posz n)
  have h2 : isNeg (S n).data.toList = decide (n < 0) := by
    rw [S_data]; unfold txt isNeg
    split
    · rename_i h; simp [h]
    · rename_i h
      obtain ⟨c, r, e⟩ := List.exists_cons_of_ne_nil (decB_ne n.natAbs)
      have hc : isDig c = true := List.all_eq_true.1 (decB_all n.natAbs) c (by rw [e]; exact List.mem_cons_self ..)
      have h45 : c ≠ 45 := by rintro rfl; cases hc
      rw [e]; simp [h45, h]
  rw [h2] at h1
  constructor
  · intro h
    rw [h] at h1
    simpa using h1
  · intro h
    rw [decide_eq_true h] at h1
    have := eq_of_beq h1.symm
    omega
end Z
theorem round_words {n d : Int} (ln : Z.Lt 1000 n) (ld : Z.Lt 1000 d) (hd : 0 < d) :
    Hid (DmP 28 (Z.S (n.natAbs : Int)) (Z.S d) (Z.S ((n.natAbs : Int) / d)) (Z.S ((n.natAbs : Int) % d)) 0) ∧
    Hid (OpP 29 (Z.S d) (Z.S ((n.natAbs : Int) % d)) (Z.S (d - (n.natAbs : Int) % d)) 0) ∧
    Hid (CmP 30 (Z.S ((n.natAbs : Int) % d)) (Z.S (d - (n.natAbs : Int) % d)) (Z.cmpI ((n.natAbs : Int) % d) (d - (n.natAbs : Int) % d)) 0) ∧
    (Z.S ((n.natAbs : Int) / d)).size ≤ 2000 ∧
    ((n.natAbs : Int) % d ≠ 0 → Hid (OpP 31 (Z.S ((n.natAbs : Int) / d)) ⟨#[49]⟩ (Z.S ((n.natAbs : Int) / d + 1)) 0) ∧ (Z.S ((n.natAbs : Int) / d + 1)).size ≤ 2000) := by
  have lA : Z.Lt 1000 (n.natAbs : Int) := ln.of_le (by omega)
  have r0 := Int.emod_nonneg (n.natAbs : Int) (by omega : d ≠ 0)
  have r1 := Int.emod_lt_of_pos (n.natAbs : Int) hd
  have eA := Int.mul_ediv_add_emod (n.natAbs : Int) d
  have q0 : 0 ≤ (n.natAbs : Int) / d := Int.ediv_nonneg (by omega) (by omega)
  have lq : Z.Lt 1000 ((n.natAbs : Int) / d) := lA.of_le (Int.natAbs_ediv_le_natAbs _ _)
  have lr : Z.Lt 1000 ((n.natAbs : Int) % d) := ld.of_le (by omega)
  have ll : Z.Lt 1000 (d - (n.natAbs : Int) % d) := ld.of_le (by omega)
  have DM := dmC lA ld (by omega) (rfl : (n.natAbs : Int) / d = _) (rfl : (n.natAbs : Int) % d = _) (by decide) (Nat.le_refl _) (by decide) (Nat.le_refl _)
  have CM := cmpC lr ll rfl (by decide) (Nat.le_refl _) (by decide) (Nat.le_refl _)
  have SB := opC_sub2 (ld.chk (by decide) (Nat.le_refl _)) (lr.chk (by decide) (Nat.le_refl _))
  have es : d + -((n.natAbs : Int) % d) = d - (n.natAbs : Int) % d := by omega
  rw [es, (ll.res (by decide) (Nat.le_refl _)).1, (ll.res (by decide) (Nat.le_refl _)).2] at SB
  have sq := Z.S_size_le lq (by decide) (Nat.le_refl _)
  refine ⟨DM, Lib.hid SB, CM, by omega, fun hr => ?_⟩
  have hd2 : 2 ≤ d := by omega
  have hle : (n.natAbs : Int) / d + 1 ≤ n.natAbs := by
    have : 2 * ((n.natAbs : Int) / d) ≤ d * ((n.natAbs : Int) / d) := Int.mul_le_mul_of_nonneg_right hd2 q0
    omega
  have lq1 : Z.Lt 1000 ((n.natAbs : Int) / d + 1) := lA.of_le (by omega)
  have AD := opC_add2 (lq.chk (by decide) (Nat.le_refl _)) ((Z.lt_one.mono (by decide : 1 ≤ 1000)).chk (by decide) (Nat.le_refl _))
  rw [(lq1.res (by decide) (Nat.le_refl _)).1, (lq1.res (by decide) (Nat.le_refl _)).2, Z.S_one] at AD
  have s1 := Z.S_size_le lq1 (by decide) (Nat.le_refl _)
  exact ⟨Lib.hid AD, by omega⟩
theorem round_go {a : ByteArray} {n d : Int} (m : Int) (h0 : 0 ≤ m) (h3 : m ≤ 3) (w : World) (hv : HasV w) (hA : Away w) (PP : Hid (PartP a (Z.S n) (Z.S d) 0)) (ln : Z.Lt 1000 n) (ld : Z.Lt 1000 d) (hd : 0 < d) :
    Calls Tryd.prog 10 #[.string a, .int .u8 m] w fun e w' => e = .returned (.tuple #[.string (Z.S (Z.rndP m n d)), .int .i64 0]) ∧ Below w.heap.size w w' := by
  obtain ⟨DM, SB, CM, sq, AD⟩ := round_words ln ld hd
  have q0 : 0 ≤ (n.natAbs : Int) / d := Int.ediv_nonneg (by omega) (by omega)
  have hq := Z.S_posz ((n.natAbs : Int) / d)
  have hod := Z.odd_S q0 (by omega)
  have hp := Z.S_posz n
  have e48 := Z.e48 ((n.natAbs : Int) % d)
  have em : m ≠ 4 := by omega
  have hm : m = 0 ∨ m = 1 ∨ m = 2 ∨ m = 3 := by omega
  have sn := Z.S_size_le ln (by decide) (Nat.le_refl _)
  by_cases hn : n < 0
  · have hng : ((((Z.S n)[0]'hp).toNat : Int) == 45) = true := by
      have := (Z.S_neg_head n).2 hn
      rw [this]; rfl
    have eP : Z.rndP m n d = -Z.rndQ m n d := by unfold Z.rndP; rw [if_neg em, if_pos hn]
    rw [eP]
    rw [← Z.S_cut hn] at DM
    have neg : ∀ z : Int, 0 ≤ z → (if z = 0 then Z.S z else ⟨#[45]⟩ ++ Z.S z) = Z.S (-z) := by
      intro z hz
      by_cases hh : z = 0
      · rw [if_pos hh, hh]; rfl
      · rw [if_neg hh]; exact Z.S_minus hz hh
    unfold Z.rndQ
    by_cases hr : (n.natAbs : Int) % d = 0
    · rw [if_neg (fun h => h.1 hr), Int.add_zero, ← neg _ q0]
      rw [decide_eq_true hr] at e48
      have z48 := Z.e48 ((n.natAbs : Int) / d)
      by_cases hz : (n.natAbs : Int) / d = 0
      · rw [if_pos hz]
        rw [decide_eq_true hz] at z48
        rcases hm with rfl | rfl | rfl | rfl
        · exact round_n0_Z0 a _ _ _ _ _ _ _ w hv hA PP hp (by omega) hng DM SB CM hq sq hod e48 z48
        · exact round_n1_Z0 a _ _ _ _ _ _ _ w hv hA PP hp (by omega) hng DM SB CM hq sq hod e48 z48
        · exact round_n2_Z0 a _ _ _ _ _ _ _ w hv hA PP hp (by omega) hng DM SB CM hq sq hod e48 z48
        · exact round_n3_Z0 a _ _ _ _ _ _ _ w hv hA PP hp (by omega) hng DM SB CM hq sq hod e48 z48
      · rw [if_neg hz]
        rw [decide_eq_false hz] at z48
        rcases hm with rfl | rfl | rfl | rfl
        · exact round_n0_Z1 a _ _ _ _ _ _ _ w hv hA PP hp (by omega) hng DM SB CM hq sq hod e48 z48
        · exact round_n1_Z1 a _ _ _ _ _ _ _ w hv hA PP hp (by omega) hng DM SB CM hq sq hod e48 z48
        · exact round_n2_Z1 a _ _ _ _ _ _ _ w hv hA PP hp (by omega) hng DM SB CM hq sq hod e48 z48
        · exact round_n3_Z1 a _ _ _ _ _ _ _ w hv hA PP hp (by omega) hng DM SB CM hq sq hod e48 z48
    · obtain ⟨AD1, s1⟩ := AD hr
      rw [decide_eq_false hr] at e48
      by_cases ha : Z.awB m (decide ((n.natAbs : Int) / d % 2 = 1)) (Z.cmpI ((n.natAbs : Int) % d) (d - (n.natAbs : Int) % d)) = true
      · rw [if_pos ⟨hr, ha⟩, ← neg _ (by omega), if_neg (by omega)]
        have z48 := Z.e48 ((n.natAbs : Int) / d + 1)
        rw [decide_eq_false (by omega)] at z48
        rcases hm with rfl | rfl | rfl | rfl
        · exact absurd ha (by unfold Z.awB; simp)
        · exact round_n1_U1 a _ _ _ _ _ _ _ _ w hv hA PP hp (by omega) hng DM SB CM hq sq hod e48 (Lib.hid ha) AD1 s1 z48
        · exact round_n2_U1 a _ _ _ _ _ _ _ _ w hv hA PP hp (by omega) hng DM SB CM hq sq hod e48 (Lib.hid ha) AD1 s1 z48
        · exact round_n3_U1 a _ _ _ _ _ _ _ _ w hv hA PP hp (by omega) hng DM SB CM hq sq hod e48 (Lib.hid ha) AD1 s1 z48
      · rw [if_neg (fun h => ha h.2), Int.add_zero, ← neg _ q0]
        have hf := Bool.not_eq_true _ ▸ ha
        have z48 := Z.e48 ((n.natAbs : Int) / d)
        by_cases hz : (n.natAbs : Int) / d = 0
        · rw [if_pos hz]
          rw [decide_eq_true hz] at z48
          rcases hm with rfl | rfl | rfl | rfl
          · exact round_n0_D0 a _ _ _ _ _ _ _ w hv hA PP hp (by omega) hng DM SB CM hq sq hod e48 (Lib.hid hf) z48
          · exact absurd rfl ha
          · exact round_n2_D0 a _ _ _ _ _ _ _ w hv hA PP hp (by omega) hng DM SB CM hq sq hod e48 (Lib.hid hf) z48
          · exact round_n3_D0 a _ _ _ _ _ _ _ w hv hA PP hp (by omega) hng DM SB CM hq sq hod e48 (Lib.hid hf) z48
        · rw [if_neg hz]
          rw [decide_eq_false hz] at z48
          rcases hm with rfl | rfl | rfl | rfl
          · exact round_n0_D1 a _ _ _ _ _ _ _ w hv hA PP hp (by omega) hng DM SB CM hq sq hod e48 (Lib.hid hf) z48
          · exact absurd rfl ha
          · exact round_n2_D1 a _ _ _ _ _ _ _ w hv hA PP hp (by omega) hng DM SB CM hq sq hod e48 (Lib.hid hf) z48
          · exact round_n3_D1 a _ _ _ _ _ _ _ w hv hA PP hp (by omega) hng DM SB CM hq sq hod e48 (Lib.hid hf) z48
  · have hng : ((((Z.S n)[0]'hp).toNat : Int) == 45) = false := by
      rw [beq_eq_false_iff_ne]
      intro h
      exact hn ((Z.S_neg_head n).1 (by omega))
    have eP : Z.rndP m n d = Z.rndQ m n d := by unfold Z.rndP; rw [if_neg em, if_neg hn]
    rw [eP]
    have en : Z.S (n.natAbs : Int) = Z.S n := by congr 1; omega
    rw [en] at DM
    unfold Z.rndQ
    by_cases hr : (n.natAbs : Int) % d = 0
    · rw [if_neg (fun h => h.1 hr), Int.add_zero]
      rw [decide_eq_true hr] at e48
      rcases hm with rfl | rfl | rfl | rfl
      · exact round_p0_Z a _ _ _ _ _ _ _ w hv hA PP hp hng DM SB CM hq sq hod e48
      · exact round_p1_Z a _ _ _ _ _ _ _ w hv hA PP hp hng DM SB CM hq sq hod e48
      · exact round_p2_Z a _ _ _ _ _ _ _ w hv hA PP hp hng DM SB CM hq sq hod e48
      · exact round_p3_Z a _ _ _ _ _ _ _ w hv hA PP hp hng DM SB CM hq sq hod e48
    · obtain ⟨AD1, _⟩ := AD hr
      rw [decide_eq_false hr] at e48
      by_cases ha : Z.awB m (decide ((n.natAbs : Int) / d % 2 = 1)) (Z.cmpI ((n.natAbs : Int) % d) (d - (n.natAbs : Int) % d)) = true
      · rw [if_pos ⟨hr, ha⟩]
        rcases hm with rfl | rfl | rfl | rfl
        · exact absurd ha (by unfold Z.awB; simp)
        · exact round_p1_U a _ _ _ _ _ _ _ _ w hv hA PP hp hng DM SB CM hq sq hod e48 (Lib.hid ha) AD1
        · exact round_p2_U a _ _ _ _ _ _ _ _ w hv hA PP hp hng DM SB CM hq sq hod e48 (Lib.hid ha) AD1
        · exact round_p3_U a _ _ _ _ _ _ _ _ w hv hA PP hp hng DM SB CM hq sq hod e48 (Lib.hid ha) AD1
      · rw [if_neg (fun h => ha h.2), Int.add_zero]
        have hf := Bool.not_eq_true _ ▸ ha
        rcases hm with rfl | rfl | rfl | rfl
        · exact round_p0_D a _ _ _ _ _ _ _ w hv hA PP hp hng DM SB CM hq sq hod e48 (Lib.hid hf)
        · exact absurd rfl ha
        · exact round_p2_D a _ _ _ _ _ _ _ w hv hA PP hp hng DM SB CM hq sq hod e48 (Lib.hid hf)
        · exact round_p3_D a _ _ _ _ _ _ _ w hv hA PP hp hng DM SB CM hq sq hod e48 (Lib.hid hf)
def RndRet (m : Int) (a : ByteArray) (w : World) (e : Ending) (w' : World) : Prop := e = .returned (.tuple #[.string (Z.rndS m a), .int .i64 (Z.rndE m a)]) ∧ Below w.heap.size w w'
theorem round_any (a : ByteArray) (m : Int) (w : World) (h0 : 0 ≤ m) (hv : HasV w) (hA : Away w) (ha : a.size ≤ 100000) :
    Calls Tryd.prog 10 #[.string a, .int .u8 m] w (RndRet m a w) := by
  unfold RndRet
  by_cases h5 : 5 ≤ m
  · have e1 : Z.rndE m a = 2 := by unfold Z.rndE; rw [if_pos h5]
    have e2 : Z.rndS m a = ⟨#[]⟩ := by unfold Z.rndS; rw [e1, if_neg (by decide)]
    rw [e1, e2]
    exact round_arg a m w h5
  · have e1 : Z.rndE m a = Z.rchk a := by unfold Z.rndE; rw [if_neg h5]
    by_cases hk : Z.rchk a = 0
    · have e2 : Z.rndS m a = Z.S (Z.rndP m (Z.rn a) (Z.rd a)) := by unfold Z.rndS; rw [e1, if_pos hk]
      have oa := Z.rok hk
      obtain ⟨c1, c2, _, _⟩ := oa.chks
      rw [e1, e2, hk]
      by_cases h4 : m = 4
      · subst h4
        have ln := Z.lt_chk c1
        have ld := Z.lt_chk c2
        have DM := dmC ln ld (by have := oa.pos; omega) (rfl : Z.rn a / Z.rd a = _) (rfl : Z.rn a % Z.rd a = _) (by decide) (Nat.le_refl _) (by decide) (Nat.le_refl _)
        have eP : Z.rndP 4 (Z.rn a) (Z.rd a) = Z.rn a / Z.rd a := by unfold Z.rndP; rw [if_pos rfl]
        rw [eP]
        exact round_floor a _ _ _ _ w hv (partS ha hk) DM
      · exact round_go m h0 (by omega) w hv hA (partS ha hk) (Z.lt_chk c1) (Z.lt_chk c2) oa.pos
    · have e2 : Z.rndS m a = ⟨#[]⟩ := by unfold Z.rndS; rw [e1, if_neg hk]
      rw [e1, e2]
      exact round_bad a m _ w h0 (by omega) hv (Lib.hid fun W hv => parts_bad a W hv ha hk) (by simpa using hk)
end Go.Proofs.YthafdckomhdlbaaDoor
/- Walks: the reference of rationals: digits. -/

namespace Go.Proofs.YthafdckomhdlbaaDoor
open Go.RowKit

def DigsRet (s : ByteArray) (w : World) (e : Ending) (w' : World) : Prop :=
  ∃ v, e = .returned v ∧ Ow .i64 3 w' w.heap.size v (if Z.canon s.data.toList then Z.rdg (Z.mags s.data.toList) else []) ∧ Below w.heap.size w w'
theorem digs_any (s : ByteArray) (w : World) (hs : s.size ≤ 1000000) : Calls Tryd.prog 37 #[.string s] w (DigsRet s w) := by
  have C := Lib.hid (fun W : World => digits_any s W hs)
  unfold DigRet at C
  unfold DigsRet
  generalize (Z.canon s.data.toList && Z.isNeg s.data.toList) = b1 at *
  generalize (if Z.canon s.data.toList then Z.rdg (Z.mags s.data.toList) else []) = ds at *
  generalize Z.canon s.data.toList = b2 at *
  go_enter Tryd.func37, Tryd.ntmps37
  go_wp2_with fail
  refine (C.out _).mono ?_
  rintro e w1 ⟨v, rfl, ho, h1⟩
  go_wp2_with fail
  go_ret
  exact ⟨v, rfl, ho, h1⟩
theorem Z.digs_S (x : Int) : Z.canon (Z.S x).data.toList = true ∧ Z.ofDg 10 (Z.rdg (Z.mags (Z.S x).data.toList)) = x.natAbs ∧ ∀ d ∈ Z.rdg (Z.mags (Z.S x).data.toList), d < 10 := by
  have hc : Z.canon (Z.S x).data.toList = true := by rw [Z.S_data]; exact Z.canon_txt x
  refine ⟨hc, ?_, Z.rdg_lt (Z.canon_parts hc).all⟩
  rw [← Z.natOf_rdg]
  have := Z.ival_S x
  unfold Z.ival at this
  split at this <;> omega
end Go.Proofs.YthafdckomhdlbaaDoor
/- Walks: the reference's Round, the ways that need no half. -/

namespace Go.Proofs.YthafdckomhdlbaaDoor
open Go.RowKit

def CkP (a : ByteArray) (k : Int) : Prop := ∀ W : World, Calls Tryd.prog 32 #[.string a] W fun e w' => e = .returned (.int .i64 k) ∧ Below W.heap.size W w'
def WrP (a x y : ByteArray) : Prop := ∀ W : World, Calls Tryd.prog 33 #[.string a] W fun e w' => e = .returned (.tuple #[.string x, .string y]) ∧ Below W.heap.size W w'
theorem rround_arg (a : ByteArray) (m : Int) (w : World) (h0 : 4 < m) :
    Calls Tryd.prog 11 #[.string a, .int .u8 m] w fun e w' => e = .returned (.tuple #[.string ⟨#[]⟩, .int .i64 2]) ∧ Below w.heap.size w w' := by
  go_enter Tryd.func11, Tryd.ntmps11
  go_wp2_with fail
  go_ret2
  exact ⟨rfl, Below.refl _ _⟩
theorem rround_bad (a : ByteArray) (m k : Int) (w : World) (h1 : m ≤ 4) (CK : Hid (CkP a k)) (hk : (k != 0) = true) :
    Calls Tryd.prog 11 #[.string a, .int .u8 m] w fun e w' => e = .returned (.tuple #[.string ⟨#[]⟩, .int .i64 k]) ∧ Below w.heap.size w w' := by
  go_enter Tryd.func11, Tryd.ntmps11
  go_wp2_with fail
  refine (CK.out _).mono ?_
  rintro e w1 ⟨rfl, h1⟩
  go_wp2_with fail
  refine (CK.out _).mono ?_
  rintro e w2 ⟨rfl, h2⟩
  have c2 := h1.trans (h2.mono h1.size)
  go_wp2_with fail
  go_ret2
  exact ⟨rfl, c2⟩
theorem rround_zero (a n d q r : ByteArray) (m : Int) (w : World) (h1 : m ≤ 4) (CK : Hid (CkP a 0)) (WR : Hid (WrP a n d)) (DM : Hid (DmP 34 n d q r 0)) (hr : (r.toList == [48]) = true) :
    Calls Tryd.prog 11 #[.string a, .int .u8 m] w fun e w' => e = .returned (.tuple #[.string q, .int .i64 0]) ∧ Below w.heap.size w w' := by
  go_enter Tryd.func11, Tryd.ntmps11
  go_wp2_with fail
  refine (CK.out _).mono ?_
  rintro e w1 ⟨rfl, h1⟩
  go_wp2_with fail
  refine (WR.out _).mono ?_
  rintro e w2 ⟨rfl, h2⟩
  have c2 := h1.trans (h2.mono h1.size)
  clear h1 h2
  go_wp2_with fail
  refine (DM.out _).mono ?_
  rintro e w3 ⟨rfl, h3⟩
  have c3 := c2.trans (h3.mono c2.size)
  go_wp2_with fail
  go_ret2
  exact ⟨rfl, c3⟩
theorem rround_four (a n d q r : ByteArray) (w : World) (CK : Hid (CkP a 0)) (WR : Hid (WrP a n d)) (DM : Hid (DmP 34 n d q r 0)) (hr : (r.toList == [48]) = false) :
    Calls Tryd.prog 11 #[.string a, .int .u8 4] w fun e w' => e = .returned (.tuple #[.string q, .int .i64 0]) ∧ Below w.heap.size w w' := by
  go_enter Tryd.func11, Tryd.ntmps11
  go_wp2_with fail
  refine (CK.out _).mono ?_
  rintro e w1 ⟨rfl, h1⟩
  go_wp2_with fail
  refine (WR.out _).mono ?_
  rintro e w2 ⟨rfl, h2⟩
  have c2 := h1.trans (h2.mono h1.size)
  clear h1 h2
  go_wp2_with fail
  refine (DM.out _).mono ?_
  rintro e w3 ⟨rfl, h3⟩
  have c3 := c2.trans (h3.mono c2.size)
  go_wp2_with fail
  go_ret2
  exact ⟨rfl, c3⟩
end Go.Proofs.YthafdckomhdlbaaDoor
