/- Walks: the reference: at, Greater, Digits, digits, Check. -/
import Derived.Test.YthafdckomhdlbaaIchk
import Derived.Test.YthafdckomhdlbaaZdec
import Derived.Test.YthafdckomhdlbaaZdiv
namespace Go.Proofs.Ythafdckomhdlbaa
open Go.RowKit

theorem elem64 : ElemInt Try.prog .i64 3 8 := by unfold ElemInt; kernel_rfl

set_option maxHeartbeats 400000 in
theorem at_any (v : Value) (xs : List Nat) (i : Nat) (w : World) (hS : SN .i64 w v xs) (hl : xs.length ≤ 1000000000) (hi : i ≤ 1000000000) :
    Calls Try.prog 73 #[v, .int .i64 i] w fun e w' => e = .returned (.int .i64 (Z.dAt xs i)) ∧ w = w' := by
  obtain ⟨A, c, rfl, hc, hm, hcell⟩ := hS
  by_cases h : i < xs.length
  · obtain ⟨g, o, rfl, hg, hcl⟩ := hcell (by omega)
    have hr := hcl _ _ (Z.dAt_eq h)
    generalize Z.dAt xs i = d at *
    clear hcl hcell
    go_enter Try.func73, Try.ntmps73
    go_wp2_with fail
    go_ret
    exact ⟨rfl, rfl⟩
  · rw [Z.dAt_none (by omega)]
    go_enter Try.func73, Try.ntmps73
    go_wp2_with fail
    go_ret
    exact ⟨rfl, rfl⟩

set_option maxHeartbeats 800000 in
theorem greater_any (v u : Value) (b : Nat) (hb : 2 ≤ b) (xs ys : List Nat) (w : World) (hS : SN .i64 w v xs) (hT : SN .i64 w u ys) (hx : ∀ d ∈ xs, d < b) (hy : ∀ d ∈ ys, d < b)
    (hl : xs.length ≤ 1000000) (hl' : ys.length ≤ 1000000) :
    Calls Try.prog 79 #[v, u] w fun e w' => e = .returned (.int .i64 (Z.cmp (Z.ofDg b xs) (Z.ofDg b ys))) ∧ w = w' := by
  have hS' := hS
  have hT' := hT
  obtain ⟨A, c, rfl, hc, hm, hcell⟩ := hS
  obtain ⟨A', c', rfl, hc', hm', hcell'⟩ := hT
  clear hcell hcell'
  go_enter Try.func79, Try.ntmps79
  go_upto_region 1 with fail
  go_cut [5] (fun iv wx => ∃ K : Nat, xs.length ≤ K ∧ ys.length ≤ K ∧ K ≤ 1000000 ∧ iv = .int .i64 ((K : Int) - 1) ∧ w = wx)
  case first =>
    go_wp2_with fail
    all_goals go_meet
    · exact ⟨ys.length, by omega, by omega, by omega, rfl, rfl⟩
    · exact ⟨xs.length, by omega, by omega, by omega, rfl, rfl⟩
  case rest =>
  obtain ⟨K, hK1, hK2, hK3, rfl, rfl⟩ := hcut
  go_wp2_with fail
  go_loop [5] (fun i => ∃ k : Nat, k ≤ K ∧ i = .int .i64 ((k : Int) - 1) ∧ Hid (Z.ofDg b (xs.drop k) = Z.ofDg b (ys.drop k))) (fun i => (intOf i + 1).toNat)
  case atStart => exact ⟨K, by omega, rfl, by show _ = _; rw [List.drop_of_length_le hK1, List.drop_of_length_le hK2]⟩
  case round =>
    obtain ⟨k, hk, rfl, HV⟩ := hrel
    by_cases h0 : 0 < k
    · obtain ⟨k, rfl⟩ : ∃ j, k = j + 1 := ⟨k - 1, by omega⟩
      have c1 := at_any _ xs k w hS' (by omega) (by omega)
      have c2 := at_any _ ys k w hT' (by omega) (by omega)
      have hst := Z.eq_step b xs ys k HV.out
      have hlo := Z.lt_of_digit b (by omega) xs ys hx k HV.out
      have hup := Z.lt_of_digit b (by omega) ys xs hy k HV.out.symm
      generalize Z.dAt xs k = d at *
      generalize Z.dAt ys k = d' at *
      have hi : ((k + 1 : Nat) : Int) - 1 = (k : Int) := by omega
      have C1 := Lib.hid c1
      have C2 := Lib.hid c2
      have HST := Lib.hid hst
      have HLO := Lib.hid hlo
      have HUP := Lib.hid hup
      rw [hi]
      clear hi c1 c2 hst hlo hup hS' hT'
      by_cases hd : d = d'
      · have hb' : ((d : Int) != d') = false := by simp [hd]
        have HD := Lib.hid hd
        clear hd
        go_wp2_with fail
        refine C1.out.mono ?_
        rintro e w' ⟨rfl, rfl⟩
        go_wp2_with fail
        refine C2.out.mono ?_
        rintro e w' ⟨rfl, rfl⟩
        go_wp2_with fail
        go_round
        case rel => exact ⟨k, by omega, rfl, HST.out HD.out⟩
        case measure => simp [intOf]
      · have hb' : ((d : Int) != d') = true := by simp; omega
        go_wp2_with fail
        refine C1.out.mono ?_
        rintro e w' ⟨rfl, rfl⟩
        go_wp2_with fail
        refine C2.out.mono ?_
        rintro e w' ⟨rfl, rfl⟩
        go_wp2_with fail
        refine C1.out.mono ?_
        rintro e w' ⟨rfl, rfl⟩
        go_wp2_with fail
        refine C2.out.mono ?_
        rintro e w' ⟨rfl, rfl⟩
        by_cases hg : d' < d
        · go_wp2_with fail
          go_ret
          exact ⟨ret_int (Z.cmp_gt (HUP.out hg)).symm, rfl⟩
        · go_wp2_with fail
          go_ret
          exact ⟨ret_int (Z.cmp_lt (HLO.out (by omega))).symm, rfl⟩
    · obtain rfl : k = 0 := by omega
      go_wp2_with fail
      go_ret
      exact ⟨ret_int (Z.cmp_eq (by simpa using HV.out)).symm, rfl⟩

/-- What Digits returns. -/
def DigRet (w : World) (l : List UInt8) (e : Ending) (w' : World) : Prop :=
  ∃ v, e = .returned (.tuple #[v, .bool (Z.canon l && Z.isNeg l), .bool (Z.canon l)]) ∧ Ow .i64 3 w' w.heap.size v (if Z.canon l then Z.rdg (Z.mags l) else []) ∧ Below w.heap.size w w'

theorem dig_no (w w' : World) (l : List UInt8) (h : Z.canon l = false) (hb : Below w.heap.size w w') : DigRet w l (.returned (.tuple #[.slice none 0 0, .bool false, .bool false])) w' :=
  ⟨_, by rw [h]; rfl, by rw [h]; exact Ow.nil_ _, hb⟩

namespace Z
/-- What is wrong with the digits of a text, before they are looked at. -/
def badB (t : List UInt8) (n : Bool) : Bool := t.isEmpty || (t.head? == some 48 && (decide (1 < t.length) || n))
theorem canon_badB {l : List UInt8} (h : badB (mags l) (isNeg l) = true) : canon l = false := by
  unfold badB at h
  unfold canon
  simp only [Bool.or_eq_true, Bool.and_eq_true, decide_eq_true_eq] at h
  rcases h with h | ⟨h1, h2⟩
  · simp [h]
  · rw [h1]
    rcases h2 with h2 | h2
    · have : ((mags l).length == 1) = false := by simp; omega
      simp [this]
    · simp [h2]
theorem canon_badDig {l : List UInt8} {k : Nat} {c : UInt8} (h : (mags l)[k]? = some c) (hc : isDig c = false) : canon l = false := by
  have : (mags l).all isDig = false := by
    rw [List.all_eq_false]
    exact ⟨c, List.mem_of_getElem? h, by simp [hc]⟩
  simp [canon, this]
theorem canon_good {l : List UInt8} (h : badB (mags l) (isNeg l) = false) (hd : (mags l).all isDig = true) : canon l = true := by
  unfold badB at h
  simp only [Bool.or_eq_false_iff, Bool.and_eq_false_iff] at h
  refine canon_mk (by intro e; rw [e] at h; simp at h) hd fun hh => ?_
  rcases h.2 with h2 | h2
  · rw [hh] at h2; simp at h2
  · have h3 : ¬ 1 < (mags l).length := by simpa using h2.1
    have h4 : (mags l).length ≠ 0 := by
      intro e
      rw [List.length_eq_zero_iff] at e
      rw [e] at h; simp at h
    exact ⟨by omega, h2.2⟩
theorem rdg_step (t : List UInt8) (k : Nat) (c : UInt8) (h : t[k]? = some c) : rdg (t.drop k) = rdg (t.drop (k + 1)) ++ [dval c] := by
  obtain ⟨hlt, hc⟩ := List.getElem?_eq_some_iff.1 h
  rw [List.drop_eq_getElem_cons hlt, hc]
  simp [rdg]
end Z

theorem dval_int (c : UInt8) (h : (48 : Int) ≤ c.toNat) : (c.toNat : Int) - 48 = (Z.dval c : Int) := by unfold Z.dval; omega
theorem neg_empty {s : ByteArray} (h : ¬ 0 < s.size) : Z.isNeg s.data.toList = false := by rw [Z.empty_of h]; rfl

set_option maxHeartbeats 800000 in
theorem digits_any (s : ByteArray) (w : World) (hs : s.size ≤ 1000000) :
    Calls Try.prog 57 #[.string s] w (DigRet w s.data.toList) := by
  go_enter Try.func57, Try.ntmps57
  go_upto_region 2 with fail
  go_cut [6] (fun v wx => v = .bool (Z.isNeg s.data.toList) ∧ w = wx)
  case first =>
    by_cases h0 : 0 < s.size
    · go_wp2_with fail
      go_meet
      exact ⟨by rw [Z.neg_of s h0], rfl⟩
    · go_wp2_with fail
      go_meet
      exact ⟨by rw [neg_empty h0], rfl⟩
  case rest =>
  obtain ⟨rfl, rfl⟩ := hcut
  go_upto_if 18 with fail
  go_cut [5, 6] (fun v nv wx => nv = .bool (Z.isNeg s.data.toList) ∧ ∃ t : ByteArray, v = .string t ∧ t.size ≤ s.size ∧ Hid (Z.mags s.data.toList = t.data.toList) ∧ w = wx)
  case first =>
    cases hn : Z.isNeg s.data.toList
    · have HN := Lib.hid hn
      go_wp2_with fail
      go_meet
      exact ⟨by rw [HN.out], s, rfl, by omega, Z.mags_pos HN.out, rfl⟩
    · have HN := Lib.hid hn
      have h0 : 0 < s.size := by
        rcases Nat.eq_zero_or_pos s.size with h | h
        · rw [neg_empty (by omega)] at hn; cases hn
        · exact h
      clear hn
      go_wp2_with fail
      go_meet
      exact ⟨by rw [HN.out], s.extract 1 s.size, rfl, by simp, Z.mags_neg HN.out, rfl⟩
  case rest =>
  obtain ⟨rfl, t, rfl, htl, HT, rfl⟩ := hcut
  go_upto_region 5 with fail
  go_cut [6, 36] (fun nv v wx => nv = .bool (Z.isNeg s.data.toList) ∧ v = .bool (Z.badB t.data.toList (Z.isNeg s.data.toList)) ∧ w = wx)
  case first =>
    by_cases ht : 0 < t.size
    · have h1 : ((t.size : Int) == 0) = false := beq_eq_false_iff_ne.2 (by omega)
      have hE : t.data.toList.isEmpty = false := by have := nonempty_of ht; rwa [Lib.toList_data] at this
      have hL : t.data.toList.length = t.size := (Lib.size_eq t).symm
      have hH : (t.data.toList.head? == some 48) = ((t[0].toNat : Int) == 48) := by
        rw [Z.head_of t ht, Bool.eq_iff_iff]
        simp [← UInt8.toNat_inj]
        omega
      have HB : Hid (Z.badB t.data.toList (Z.isNeg s.data.toList) = (((t[0].toNat : Int) == 48) && (decide (1 < t.size) || Z.isNeg s.data.toList))) := by
        unfold Hid Z.badB
        rw [hE, hH, hL, Bool.false_or]
      clear hE hH hL
      generalize Z.isNeg s.data.toList = ng at *
      cases h48 : ((t[0].toNat : Int) == 48) <;> by_cases h1t : 1 < t.size <;> cases ng
      all_goals
        go_wp2_with fail
        go_meet
        exact ⟨rfl, by rw [HB.out]; simp [*], rfl⟩
    · have h1 : ((t.size : Int) == 0) = true := beq_iff_eq.2 (by omega)
      have HB : Hid (Z.badB t.data.toList (Z.isNeg s.data.toList) = true) := by
        unfold Hid Z.badB
        rw [Z.empty_of ht]; rfl
      go_wp2_with fail
      go_meet
      exact ⟨rfl, by rw [HB.out], rfl⟩
  case rest =>
  obtain ⟨rfl, rfl, rfl⟩ := hcut
  cases hbad : Z.badB t.data.toList (Z.isNeg s.data.toList)
  · have HB := Lib.hid hbad
    clear hbad
    go_wp2_with fail
    go_loopw [7, 8] (fun out iv wr => ∃ k : Nat, k ≤ t.size ∧ iv = .int .i64 ((k : Int) - 1) ∧ Ow .i64 3 wr w.heap.size out (Z.rdg (t.data.toList.drop k)) ∧ Below w.heap.size w wr ∧ Hid ((t.data.toList.drop k).all Z.isDig = true)) (fun _ iv _ => (intOf iv + 1).toNat)
    case atStart =>
      have e : t.data.toList.drop t.size = [] := List.drop_of_length_le (by rw [← Lib.size_eq]; omega)
      exact ⟨t.size, by omega, rfl, by rw [e]; exact Ow.nil_ _, Below.refl _ _, by rw [e]; rfl⟩
    case round =>
      obtain ⟨k, hk, rfl, hown, hb, HD⟩ := hrel
      by_cases h0 : 0 < k
      · obtain ⟨k, rfl⟩ : ∃ j, k = j + 1 := ⟨k - 1, by omega⟩
        have hlt : k < t.size := by omega
        have hi : ((k + 1 : Nat) : Int) - 1 = (k : Int) := by omega
        have hst := Z.rdg_step _ k _ (Z.at_of t k hlt)
        have hlen : (Z.rdg (t.data.toList.drop (k + 1))).length ≤ t.size := by
          unfold Z.rdg
          rw [List.length_map, List.length_reverse, List.length_drop, ← Lib.size_eq]; omega
        have HST := Lib.hid hst
        rw [hi]
        clear hi hst
        generalize Z.rdg (t.data.toList.drop (k + 1)) = os at *
        go_wp2_with (at_builtin; refine app1 rfl _ _ _ rfl elem64 Try.underlying65 (by omega) wr w.heap.size u7 os _ (Z.dval t[k]) (dval_int _ (by omega)) rfl hown rfl (by omega) hb.size ?_; intro v2 w2 hown2 hb2 hs2)
        · go_ret3
          have h1 : (t[k].toNat : Int) < 48 ∨ (57 : Int) < t[k].toNat := by assumption
          exact dig_no w wr _ (Z.canon_badDig (k := k) (c := t[k]) (by rw [HT.out]; exact Z.at_of t k hlt) (by rw [Z.dig_of]; simp; omega)) hb
        · go_roundw
          case rel =>
            have h1 : (48 : Int) ≤ t[k].toNat ∧ (t[k].toNat : Int) ≤ 57 := by assumption
            refine ⟨k, by omega, rfl, by rw [HST.out]; exact hown2, hb.trans hb2, ?_⟩
            unfold Hid
            obtain ⟨hlt', hc⟩ := List.getElem?_eq_some_iff.1 (Z.at_of t k hlt)
            rw [List.drop_eq_getElem_cons hlt', hc, List.all_cons, HD.out, Z.dig_of]
            simp; omega
          case measure => simp [intOf]
        · go_ret3
          have h1 : (t[k].toNat : Int) < 48 := by assumption
          exact dig_no w wr _ (Z.canon_badDig (k := k) (c := t[k]) (by rw [HT.out]; exact Z.at_of t k hlt) (by rw [Z.dig_of]; simp; omega)) hb
      · obtain rfl : k = 0 := by omega
        go_wp2_with fail
        go_ret3
        have hall : (Z.mags s.data.toList).all Z.isDig = true := by rw [HT.out]; exact HD.out
        have hcan := Z.canon_good (by rw [HT.out]; exact HB.out) hall
        refine ⟨_, by rw [hcan]; rfl, ?_, hb⟩
        rw [hcan, HT.out]
        exact hown
  · have HB := Lib.hid hbad
    clear hbad
    go_wp2_with fail
    go_ret3
    exact dig_no w w _ (Z.canon_badB (by rw [HT.out]; exact HB.out)) (Below.refl _ _)

def DsRet (w : World) (l : List UInt8) (e : Ending) (w' : World) : Prop :=
  ∃ v, e = .returned v ∧ Ow .i64 3 w' w.heap.size v (if Z.canon l then Z.rdg (Z.mags l) else []) ∧ Below w.heap.size w w'

set_option maxHeartbeats 400000 in
theorem ds_any (s : ByteArray) (w : World) (hs : s.size ≤ 1000000) :
    Calls Try.prog 41 #[.string s] w (DsRet w s.data.toList) := by
  go_enter Try.func41, Try.ntmps41
  go_wp2_with fail
  refine (digits_any s w hs).mono ?_
  rintro e w1 ⟨v1, rfl, hown, hb⟩
  go_wp2_with fail
  go_ret
  exact ⟨v1, rfl, hown, hb⟩

def ChkRet (w : World) (l : List UInt8) (e : Ending) (w' : World) : Prop := e = .returned (.int .i64 (Z.chk l)) ∧ Below w.heap.size w w'

theorem Z.rdg_length (m : List UInt8) : (Z.rdg m).length = m.length := by simp [Z.rdg]

set_option maxHeartbeats 400000 in
theorem rcheck_any (s : ByteArray) (w : World) (hs : s.size ≤ 1000000) :
    Calls Try.prog 68 #[.string s] w (ChkRet w s.data.toList) := by
  have C := digits_any s w hs
  have hm : (Z.mags s.data.toList).length ≤ s.size := by
    unfold Z.mags
    split
    · rw [List.length_tail, ← Lib.size_eq]; omega
    · rw [← Lib.size_eq]; omega
  cases hc : Z.canon s.data.toList
  · have HC := Lib.hid hc
    go_enter Try.func68, Try.ntmps68
    go_wp2_with fail
    refine C.mono ?_
    rintro e w1 ⟨v1, rfl, hown, hb⟩
    rw [HC.out]
    clear C hc hown
    go_wp2_with fail
    go_ret
    exact ⟨ret_int (by simp [Z.chk, HC.out]), hb⟩
  · have HC := Lib.hid hc
    go_enter Try.func68, Try.ntmps68
    go_wp2_with fail
    refine C.mono ?_
    rintro e w1 ⟨v1, rfl, hown, hb⟩
    rw [HC.out] at hown ⊢
    simp only [↓reduceIte] at hown
    obtain ⟨A, c, rfl, h1, h2, _⟩ := hown.sn
    have hl := Z.rdg_length (Z.mags s.data.toList)
    clear C hc hown
    generalize Z.rdg (Z.mags s.data.toList) = os at *
    by_cases hbig : 1000 < os.length
    · have HL := Lib.hid hl
      clear hl
      go_wp2_with fail
      go_ret
      exact ⟨ret_int (Z.chk_big HC.out (by rw [← HL.out]; exact hbig)).symm, hb⟩
    · have HL := Lib.hid hl
      clear hl
      go_wp2_with fail
      go_ret
      exact ⟨ret_int (Z.chk_ok HC.out (by rw [← HL.out]; omega)).symm, hb⟩
end Go.Proofs.Ythafdckomhdlbaa
