/- R1: Rdig Rtxt Irev -/
import Derived.Test.YtifafmomkpkgdaaDoorI1
import Derived.Test.YtifafmomkpkgdaaDoorZi
import Derived.Test.YtifafmomkpkgdaaDoorMi
import Derived.RegionTactic
import Derived.BigRegion
/- Walks: the reference: at, Greater, Digits, digits, Check. -/

namespace Go.Proofs.YtifafmomkpkgdaaDoor
open Go.RowKit

theorem elem64 : ElemInt Tryd.prog .i64 3 8 := by unfold ElemInt; kernel_rfl

set_option maxHeartbeats 400000 in
theorem at_any (v : Value) (xs : List Nat) (i : Nat) (w : World) (hS : SN .i64 w v xs) (hl : xs.length ≤ 1000000000) (hi : i ≤ 1000000000) :
    Calls Tryd.prog 140 #[v, .int .i64 i] w fun e w' => e = .returned (.int .i64 (Z.dAt xs i)) ∧ w = w' := by
  obtain ⟨A, c, rfl, hc, hm, hcell⟩ := hS
  by_cases h : i < xs.length
  · obtain ⟨g, o, rfl, hg, hcl⟩ := hcell (by omega)
    have hr := hcl _ _ (Z.dAt_eq h)
    generalize Z.dAt xs i = d at *
    clear hcl hcell
    go_enter Tryd.func140, Tryd.ntmps140
    go_wp2_with fail
    go_ret
    exact ⟨rfl, rfl⟩
  · rw [Z.dAt_none (by omega)]
    go_enter Tryd.func140, Tryd.ntmps140
    go_wp2_with fail
    go_ret
    exact ⟨rfl, rfl⟩

set_option maxHeartbeats 800000 in
theorem greater_any (v u : Value) (b : Nat) (hb : 2 ≤ b) (xs ys : List Nat) (w : World) (hS : SN .i64 w v xs) (hT : SN .i64 w u ys) (hx : ∀ d ∈ xs, d < b) (hy : ∀ d ∈ ys, d < b)
    (hl : xs.length ≤ 1000000) (hl' : ys.length ≤ 1000000) :
    Calls Tryd.prog 133 #[v, u] w fun e w' => e = .returned (.int .i64 (Z.cmp (Z.ofDg b xs) (Z.ofDg b ys))) ∧ w = w' := by
  have hS' := hS
  have hT' := hT
  obtain ⟨A, c, rfl, hc, hm, hcell⟩ := hS
  obtain ⟨A', c', rfl, hc', hm', hcell'⟩ := hT
  clear hcell hcell'
  go_enter Tryd.func133, Tryd.ntmps133
  go_upto_region 1 with fail
  go_cut [5] (fun iv wx => ∃ K : Nat, xs.length ≤ K ∧ ys.length ≤ K ∧ K ≤ 1000000 ∧ iv = .int .i64 ((K : Int) - 1) ∧ w = wx)
  case first =>
    go_wp2_with fail
    all_goals go_meet
    · exact ⟨ys.length, by omega, by omega, by omega, rfl, rfl⟩
    · exact ⟨xs.length, by omega, by omega, by omega, rfl, rfl⟩
  case rest =>
  obtain ⟨K, hK1, hK2, hK3, rfl, rfl⟩ := hcut
  go_wp2_with fail
  go_loop [5] (fun i => ∃ k : Nat, k ≤ K ∧ i = .int .i64 ((k : Int) - 1) ∧ Hid (Z.ofDg b (xs.drop k) = Z.ofDg b (ys.drop k))) (fun i => (intOf i + 1).toNat)
  case atStart => exact ⟨K, by omega, rfl, by show _ = _; rw [List.drop_of_length_le hK1, List.drop_of_length_le hK2]⟩
  case round =>
    obtain ⟨k, hk, rfl, HV⟩ := hrel
    by_cases h0 : 0 < k
    · obtain ⟨k, rfl⟩ : ∃ j, k = j + 1 := ⟨k - 1, by omega⟩
      have c1 := at_any _ xs k w hS' (by omega) (by omega)
      have c2 := at_any _ ys k w hT' (by omega) (by omega)
      have hst := Z.eq_step b xs ys k HV.out
      have hlo := Z.lt_of_digit b (by omega) xs ys hx k HV.out
      have hup := Z.lt_of_digit b (by omega) ys xs hy k HV.out.symm
      generalize Z.dAt xs k = d at *
      generalize Z.dAt ys k = d' at *
      have hi : ((k + 1 : Nat) : Int) - 1 = (k : Int) := by omega
      have C1 := Lib.hid c1
      have C2 := Lib.hid c2
      have HST := Lib.hid hst
      have HLO := Lib.hid hlo
      have HUP := Lib.hid hup
      rw [hi]
      clear hi c1 c2 hst hlo hup hS' hT'
      by_cases hd : d = d'
      · have hb' : ((d : Int) != d') = false := by simp [hd]
        have HD := Lib.hid hd
        clear hd
        go_wp2_with fail
        refine C1.out.mono ?_
        rintro e w' ⟨rfl, rfl⟩
        go_wp2_with fail
        refine C2.out.mono ?_
        rintro e w' ⟨rfl, rfl⟩
        go_wp2_with fail
        go_round
        case rel => exact ⟨k, by omega, rfl, HST.out HD.out⟩
        case measure => simp [intOf]
      · have hb' : ((d : Int) != d') = true := by simp; omega
        go_wp2_with fail
        refine C1.out.mono ?_
        rintro e w' ⟨rfl, rfl⟩
        go_wp2_with fail
        refine C2.out.mono ?_
        rintro e w' ⟨rfl, rfl⟩
        go_wp2_with fail
        refine C1.out.mono ?_
        rintro e w' ⟨rfl, rfl⟩
        go_wp2_with fail
        refine C2.out.mono ?_
        rintro e w' ⟨rfl, rfl⟩
        by_cases hg : d' < d
        · go_wp2_with fail
          go_ret
          exact ⟨ret_int (Z.cmp_gt (HUP.out hg)).symm, rfl⟩
        · go_wp2_with fail
          go_ret
          exact ⟨ret_int (Z.cmp_lt (HLO.out (by omega))).symm, rfl⟩
    · obtain rfl : k = 0 := by omega
      go_wp2_with fail
      go_ret
      exact ⟨ret_int (Z.cmp_eq (by simpa using HV.out)).symm, rfl⟩

/-- What Digits returns. -/
def DigRet (w : World) (l : List UInt8) (e : Ending) (w' : World) : Prop :=
  ∃ v, e = .returned (.tuple #[v, .bool (Z.canon l && Z.isNeg l), .bool (Z.canon l)]) ∧ Ow .i64 3 w' w.heap.size v (if Z.canon l then Z.rdg (Z.mags l) else []) ∧ Below w.heap.size w w'

theorem dig_no (w w' : World) (l : List UInt8) (h : Z.canon l = false) (hb : Below w.heap.size w w') : DigRet w l (.returned (.tuple #[.slice none 0 0, .bool false, .bool false])) w' :=
  ⟨_, by rw [h]; rfl, by rw [h]; exact Ow.nil_ _, hb⟩

namespace Z
/-- What is wrong with the digits of a text, before they are looked at. -/
def badB (t : List UInt8) (n : Bool) : Bool := t.isEmpty || (t.head? == some 48 && (decide (1 < t.length) || n))
theorem canon_badB {l : List UInt8} (h : badB (mags l) (isNeg l) = true) : canon l = false := by
  unfold badB at h
  unfold canon
  simp only [Bool.or_eq_true, Bool.and_eq_true, decide_eq_true_eq] at h
  rcases h with h | ⟨h1, h2⟩
  · simp [h]
  · rw [h1]
    rcases h2 with h2 | h2
    · have : ((mags l).length == 1) = false := by simp; omega
      simp [this]
    · simp [h2]
theorem canon_badDig {l : List UInt8} {k : Nat} {c : UInt8} (h : (mags l)[k]? = some c) (hc : isDig c = false) : canon l = false := by
  have : (mags l).all isDig = false := by
    rw [List.all_eq_false]
    exact ⟨c, List.mem_of_getElem? h, by simp [hc]⟩
  simp [canon, this]
theorem canon_good {l : List UInt8} (h : badB (mags l) (isNeg l) = false) (hd : (mags l).all isDig = true) : canon l = true := by
  unfold badB at h
  simp only [Bool.or_eq_false_iff, Bool.and_eq_false_iff] at h
  refine canon_mk (by intro e; rw [e] at h; simp at h) hd fun hh => ?_
  rcases h.2 with h2 | h2
  · rw [hh] at h2; simp at h2
  · have h3 : ¬ 1 < (mags l).length := by simpa using h2.1
    have h4 : (mags l).length ≠ 0 := by
      intro e
      rw [List.length_eq_zero_iff] at e
      rw [e] at h; simp at h
    exact ⟨by omega, h2.2⟩
theorem rdg_step (t : List UInt8) (k : Nat) (c : UInt8) (h : t[k]? = some c) : rdg (t.drop k) = rdg (t.drop (k + 1)) ++ [dval c] := by
  obtain ⟨hlt, hc⟩ := List.getElem?_eq_some_iff.1 h
  rw [List.drop_eq_getElem_cons hlt, hc]
  simp [rdg]
end Z

theorem dval_int (c : UInt8) (h : (48 : Int) ≤ c.toNat) : (c.toNat : Int) - 48 = (Z.dval c : Int) := by unfold Z.dval; omega
theorem neg_empty {s : ByteArray} (h : ¬ 0 < s.size) : Z.isNeg s.data.toList = false := by rw [Z.empty_of h]; rfl

set_option maxHeartbeats 800000 in
theorem digits_any (s : ByteArray) (w : World) (hs : s.size ≤ 1000000) :
    Calls Tryd.prog 113 #[.string s] w (DigRet w s.data.toList) := by
  go_enter Tryd.func113, Tryd.ntmps113
  go_upto_region 2 with fail
  go_cut [6] (fun v wx => v = .bool (Z.isNeg s.data.toList) ∧ w = wx)
  case first =>
    by_cases h0 : 0 < s.size
    · go_wp2_with fail
      go_meet
      exact ⟨by rw [Z.neg_of s h0], rfl⟩
    · go_wp2_with fail
      go_meet
      exact ⟨by rw [neg_empty h0], rfl⟩
  case rest =>
  obtain ⟨rfl, rfl⟩ := hcut
  go_upto_if 18 with fail
  go_cut [5, 6] (fun v nv wx => nv = .bool (Z.isNeg s.data.toList) ∧ ∃ t : ByteArray, v = .string t ∧ t.size ≤ s.size ∧ Hid (Z.mags s.data.toList = t.data.toList) ∧ w = wx)
  case first =>
    cases hn : Z.isNeg s.data.toList
    · have HN := Lib.hid hn
      go_wp2_with fail
      go_meet
      exact ⟨by rw [HN.out], s, rfl, by omega, Z.mags_pos HN.out, rfl⟩
    · have HN := Lib.hid hn
      have h0 : 0 < s.size := by
        rcases Nat.eq_zero_or_pos s.size with h | h
        · rw [neg_empty (by omega)] at hn; cases hn
        · exact h
      clear hn
      go_wp2_with fail
      go_meet
      exact ⟨by rw [HN.out], s.extract 1 s.size, rfl, by simp, Z.mags_neg HN.out, rfl⟩
  case rest =>
  obtain ⟨rfl, t, rfl, htl, HT, rfl⟩ := hcut
  go_upto_region 5 with fail
  go_cut [6, 36] (fun nv v wx => nv = .bool (Z.isNeg s.data.toList) ∧ v = .bool (Z.badB t.data.toList (Z.isNeg s.data.toList)) ∧ w = wx)
  case first =>
    by_cases ht : 0 < t.size
    · have h1 : ((t.size : Int) == 0) = false := beq_eq_false_iff_ne.2 (by omega)
      have hE : t.data.toList.isEmpty = false := by have := nonempty_of ht; rwa [Lib.toList_data] at this
      have hL : t.data.toList.length = t.size := (Lib.size_eq t).symm
      have hH : (t.data.toList.head? == some 48) = ((t[0].toNat : Int) == 48) := by
        rw [Z.head_of t ht, Bool.eq_iff_iff]
        simp [← UInt8.toNat_inj]
        omega
      have HB : Hid (Z.badB t.data.toList (Z.isNeg s.data.toList) = (((t[0].toNat : Int) == 48) && (decide (1 < t.size) || Z.isNeg s.data.toList))) := by
        unfold Hid Z.badB
        rw [hE, hH, hL, Bool.false_or]
      clear hE hH hL
      generalize Z.isNeg s.data.toList = ng at *
      cases h48 : ((t[0].toNat : Int) == 48) <;> by_cases h1t : 1 < t.size <;> cases ng
      all_goals
        go_wp2_with fail
        go_meet
        exact ⟨rfl, by rw [HB.out]; simp [*], rfl⟩
    · have h1 : ((t.size : Int) == 0) = true := beq_iff_eq.2 (by omega)
      have HB : Hid (Z.badB t.data.toList (Z.isNeg s.data.toList) = true) := by
        unfold Hid Z.badB
        rw [Z.empty_of ht]; rfl
      go_wp2_with fail
      go_meet
      exact ⟨rfl, by rw [HB.out], rfl⟩
  case rest =>
  obtain ⟨rfl, rfl, rfl⟩ := hcut
  cases hbad : Z.badB t.data.toList (Z.isNeg s.data.toList)
  · have HB := Lib.hid hbad
    clear hbad
    go_wp2_with fail
    go_loopw [7, 8] (fun out iv wr => ∃ k : Nat, k ≤ t.size ∧ iv = .int .i64 ((k : Int) - 1) ∧ Ow .i64 3 wr w.heap.size out (Z.rdg (t.data.toList.drop k)) ∧ Below w.heap.size w wr ∧ Hid ((t.data.toList.drop k).all Z.isDig = true)) (fun _ iv _ => (intOf iv + 1).toNat)
    case atStart =>
      have e : t.data.toList.drop t.size = [] := List.drop_of_length_le (by rw [← Lib.size_eq]; omega)
      exact ⟨t.size, by omega, rfl, by rw [e]; exact Ow.nil_ _, Below.refl _ _, by rw [e]; rfl⟩
    case round =>
      obtain ⟨k, hk, rfl, hown, hb, HD⟩ := hrel
      by_cases h0 : 0 < k
      · obtain ⟨k, rfl⟩ : ∃ j, k = j + 1 := ⟨k - 1, by omega⟩
        have hlt : k < t.size := by omega
        have hi : ((k + 1 : Nat) : Int) - 1 = (k : Int) := by omega
        have hst := Z.rdg_step _ k _ (Z.at_of t k hlt)
        have hlen : (Z.rdg (t.data.toList.drop (k + 1))).length ≤ t.size := by
          unfold Z.rdg
          rw [List.length_map, List.length_reverse, List.length_drop, ← Lib.size_eq]; omega
        have HST := Lib.hid hst
        rw [hi]
        clear hi hst
        generalize Z.rdg (t.data.toList.drop (k + 1)) = os at *
        go_wp2_with (at_builtin; refine app1 rfl _ _ _ rfl elem64 Tryd.underlying26 (by omega) wr w.heap.size u7 os _ (Z.dval t[k]) (dval_int _ (by omega)) rfl hown rfl (by omega) hb.size ?_; intro v2 w2 hown2 hb2 hs2)
        · go_ret3
          have h1 : (t[k].toNat : Int) < 48 ∨ (57 : Int) < t[k].toNat := by assumption
          exact dig_no w wr _ (Z.canon_badDig (k := k) (c := t[k]) (by rw [HT.out]; exact Z.at_of t k hlt) (by rw [Z.dig_of]; simp; omega)) hb
        · go_roundw
          case rel =>
            have h1 : (48 : Int) ≤ t[k].toNat ∧ (t[k].toNat : Int) ≤ 57 := by assumption
            refine ⟨k, by omega, rfl, by rw [HST.out]; exact hown2, hb.trans hb2, ?_⟩
            unfold Hid
            obtain ⟨hlt', hc⟩ := List.getElem?_eq_some_iff.1 (Z.at_of t k hlt)
            rw [List.drop_eq_getElem_cons hlt', hc, List.all_cons, HD.out, Z.dig_of]
            simp; omega
          case measure => simp [intOf]
        · go_ret3
          have h1 : (t[k].toNat : Int) < 48 := by assumption
          exact dig_no w wr _ (Z.canon_badDig (k := k) (c := t[k]) (by rw [HT.out]; exact Z.at_of t k hlt) (by rw [Z.dig_of]; simp; omega)) hb
      · obtain rfl : k = 0 := by omega
        go_wp2_with fail
        go_ret3
        have hall : (Z.mags s.data.toList).all Z.isDig = true := by rw [HT.out]; exact HD.out
        have hcan := Z.canon_good (by rw [HT.out]; exact HB.out) hall
        refine ⟨_, by rw [hcan]; rfl, ?_, hb⟩
        rw [hcan, HT.out]
        exact hown
  · have HB := Lib.hid hbad
    clear hbad
    go_wp2_with fail
    go_ret3
    exact dig_no w w _ (Z.canon_badB (by rw [HT.out]; exact HB.out)) (Below.refl _ _)

def DsRet (w : World) (l : List UInt8) (e : Ending) (w' : World) : Prop :=
  ∃ v, e = .returned v ∧ Ow .i64 3 w' w.heap.size v (if Z.canon l then Z.rdg (Z.mags l) else []) ∧ Below w.heap.size w w'

def ChkRet (w : World) (l : List UInt8) (e : Ending) (w' : World) : Prop := e = .returned (.int .i64 (Z.chk l)) ∧ Below w.heap.size w w'

theorem Z.rdg_length (m : List UInt8) : (Z.rdg m).length = m.length := by simp [Z.rdg]

set_option maxHeartbeats 400000 in
theorem rcheck_any (s : ByteArray) (w : World) (hs : s.size ≤ 1000000) :
    Calls Tryd.prog 132 #[.string s] w (ChkRet w s.data.toList) := by
  have C := digits_any s w hs
  have hm : (Z.mags s.data.toList).length ≤ s.size := by
    unfold Z.mags
    split
    · rw [List.length_tail, ← Lib.size_eq]; omega
    · rw [← Lib.size_eq]; omega
  cases hc : Z.canon s.data.toList
  · have HC := Lib.hid hc
    go_enter Tryd.func132, Tryd.ntmps132
    go_wp2_with fail
    refine C.mono ?_
    rintro e w1 ⟨v1, rfl, hown, hb⟩
    rw [HC.out]
    clear C hc hown
    go_wp2_with fail
    go_ret
    exact ⟨ret_int (by simp [Z.chk, HC.out]), hb⟩
  · have HC := Lib.hid hc
    go_enter Tryd.func132, Tryd.ntmps132
    go_wp2_with fail
    refine C.mono ?_
    rintro e w1 ⟨v1, rfl, hown, hb⟩
    rw [HC.out] at hown ⊢
    simp only [↓reduceIte] at hown
    obtain ⟨A, c, rfl, h1, h2, _⟩ := hown.sn
    have hl := Z.rdg_length (Z.mags s.data.toList)
    clear C hc hown
    generalize Z.rdg (Z.mags s.data.toList) = os at *
    by_cases hbig : 1000 < os.length
    · have HL := Lib.hid hl
      clear hl
      go_wp2_with fail
      go_ret
      exact ⟨ret_int (Z.chk_big HC.out (by rw [← HL.out]; exact hbig)).symm, hb⟩
    · have HL := Lib.hid hl
      clear hl
      go_wp2_with fail
      go_ret
      exact ⟨ret_int (Z.chk_ok HC.out (by rw [← HL.out]; omega)).symm, hb⟩
end Go.Proofs.YtifafmomkpkgdaaDoor
/- Walks: the reference: Text, small, Negative, Plus, Of. -/

namespace Go.Proofs.YtifafmomkpkgdaaDoor
open Go.RowKit

namespace Z
def txtD (ng : Bool) (n : Nat) : List UInt8 := if n = 0 then [48] else if ng then 45 :: decB n else decB n
def bsOf (ng : Bool) (l : List Nat) : List Nat := (if ng then [45] else []) ++ l.reverse.map (48 + ·)
theorem bsOf_step (ng : Bool) (l : List Nat) (k d : Nat) (h : l[k]? = some d) : bsOf ng (l.drop k) = bsOf ng (l.drop (k + 1)) ++ [48 + d] := by
  obtain ⟨hlt, hc⟩ := List.getElem?_eq_some_iff.1 h
  rw [List.drop_eq_getElem_cons hlt, hc]
  simp [bsOf]
theorem bsOf_length (ng : Bool) (l : List Nat) : (bsOf ng l).length ≤ l.length + 1 := by
  unfold bsOf; cases ng <;> simp
theorem bsOf_txt (ng : Bool) (n : Nat) (h : 0 < n) : (bsOf ng (dg 10 n)).map UInt8.ofNat = txtD ng n := by
  unfold bsOf txtD
  rw [if_neg (show ¬ n = 0 by omega), decB_pos h, List.map_append, List.map_map]
  have e : (dg 10 n).reverse.map (UInt8.ofNat ∘ fun x => 48 + x) = (dg 10 n).reverse.map chr := by rfl
  rw [e]
  cases ng <;> rfl
theorem txtD_txt (ng : Bool) (n : Nat) : txtD ng n = txt (if ng then -(n : Int) else n) := by
  unfold txtD txt
  rcases Nat.eq_zero_or_pos n with h | h
  · subst h; cases ng <;> rfl
  · rw [if_neg (by omega)]
    cases ng
    · simp only [Bool.false_eq_true, if_false]
      rw [if_neg (by omega), Int.natAbs_natCast]
    · simp only [if_true]
      rw [if_pos (by omega), Int.natAbs_neg, Int.natAbs_natCast]
end Z

def StrRet (w : World) (l : List UInt8) (e : Ending) (w' : World) : Prop := e = .returned (.string ⟨l.toArray⟩) ∧ Below w.heap.size w w'

set_option maxHeartbeats 800000 in
theorem text_any (v : Value) (ds : List Nat) (ng : Bool) (w : World) (hS : SN .i64 w v ds) (hd : ∀ d ∈ ds, d < 10) (hl : ds.length ≤ 1000000) :
    Calls Tryd.prog 129 #[v, .bool ng] w (StrRet w (Z.txtD ng (Z.ofDg 10 ds))) := by
  obtain ⟨A, c, rfl, hc, hm, hcell⟩ := hS
  have HDD := Lib.hid hd
  clear hd
  go_enter Tryd.func129, Tryd.ntmps129
  go_wp2_with fail
  go_loop [5] (fun iv => ∃ k : Nat, k ≤ ds.length ∧ iv = .int .i64 k ∧ Hid (∀ i, k ≤ i → i < ds.length → ds[i]? = some 0)) (fun iv => (intOf iv).toNat)
  case atStart => exact ⟨ds.length, by omega, rfl, fun i h1 h2 => by omega⟩
  case round =>
    obtain ⟨k, hk, rfl, HT⟩ := hrel
    have step : ∀ HN : Hid (k = 0 ∨ ds[k - 1]? ≠ some 0), Hid (ds.take k = Z.dg 10 (Z.ofDg 10 ds)) := fun HN => Z.trim_is 10 (by omega) ds HDD.out k hk HT.out HN.out
    by_cases h0 : 0 < k
    · obtain ⟨g, o, rfl, hg, hcl⟩ := hcell (by omega)
      obtain ⟨d, hd⟩ : ∃ d, ds[k - 1]? = some d := ⟨_, List.getElem?_eq_getElem (by omega)⟩
      have hr0 := hcl _ _ hd
      have HD := Lib.hid hd
      have HC := Lib.hid hcl
      clear hcl hd hcell
      by_cases hd0 : d = 0
      · have hb : ((d : Int) == 0) = true := by simp [hd0]
        have HD0 := Lib.hid hd0
        clear hd0 step
        go_wp2_with fail
        go_round
        case rel =>
          refine ⟨k - 1, by omega, ret_v (by omega), fun i hi hlt => ?_⟩
          by_cases e : i = k - 1
          · subst e; rw [HD.out, HD0.out]
          · exact HT.out i (by omega) hlt
        case measure => simp [intOf]; omega
      · have hb : ((d : Int) == 0) = false := by simp; omega
        have HTK := step (.inr (by rw [HD.out]; simpa using hd0))
        have hk0 : ((k : Int) == 0) = false := by simp; omega
        clear step
        have hN : 0 < Z.ofDg 10 ds := by
          rcases Nat.eq_zero_or_pos (Z.ofDg 10 ds) with h | h
          · have h1 := HTK.out
            rw [h, Z.dg_zero] at h1
            have h2 := congrArg List.length h1
            rw [List.length_take, List.length_nil] at h2
            omega
          · exact h
        have HN := Lib.hid hN
        clear hN
        have hlk : (ds.take k).length = k := by rw [List.length_take]; omega
        rw [HTK.out] at hlk
        have HLK := Lib.hid hlk
        clear hlk
        go_upto_if 24 with fail
        go_cut [1, 6] (fun nv bv wx => nv = .bool ng ∧ Ow .u8 5 wx w.heap.size bv (Z.bsOf ng []) ∧ Below w.heap.size w wx)
        case first =>
          cases ng
          · go_wp2_with fail
            go_meet
            exact ⟨rfl, Ow.nil_ _, Below.refl _ _⟩
          · go_wp2_with (at_builtin; refine app1 rfl _ _ _ rfl elem8 Tryd.underlying136 (by omega) w w.heap.size (.slice none 0 0) [] 45 45 rfl rfl (Ow.nil_ _) rfl (by simp) (Nat.le_refl _) ?_; intro v2 w2 hown2 hb2 hs2)
            go_meet
            exact ⟨rfl, hown2, hb2⟩
        case rest =>
        obtain ⟨rfl, hown0, hb0⟩ := hcut
        go_wp2_with fail
        go_loopw [6, 7] (fun bv iv wr => ∃ j : Nat, j ≤ k ∧ iv = .int .i64 ((j : Int) - 1) ∧ Ow .u8 5 wr w.heap.size bv (Z.bsOf ng ((Z.dg 10 (Z.ofDg 10 ds)).drop j)) ∧ Below w.heap.size w wr) (fun _ iv _ => (intOf iv + 1).toNat)
        case atStart => exact ⟨k, by omega, rfl, by rw [List.drop_of_length_le (by rw [HLK.out]; omega)]; exact hown0, hb0⟩
        case round =>
          clear hown0 hb0
          obtain ⟨j, hj, rfl, hown, hb1⟩ := hrel
          by_cases hj0 : 0 < j
          · obtain ⟨j, rfl⟩ : ∃ i, j = i + 1 := ⟨j - 1, by omega⟩
            obtain ⟨x, hx⟩ : ∃ x, ds[j]? = some x := ⟨_, List.getElem?_eq_getElem (by omega)⟩
            have hx' : (Z.dg 10 (Z.ofDg 10 ds))[j]? = some x := by rw [← HTK.out, List.getElem?_take, if_pos (by omega), hx]
            have hr1 : wr.cell? ⟨g, o + j, none⟩ = some (.int .i64 (x : Int)) := (hb1.cell (p := ⟨g, o + j, none⟩) hg).trans (HC.out _ _ hx)
            have hx9 : x < 10 := HDD.out x (List.mem_of_getElem? hx)
            have hst := Z.bsOf_step ng _ j x hx'
            have hlen := Z.bsOf_length ng ((Z.dg 10 (Z.ofDg 10 ds)).drop (j + 1))
            rw [List.length_drop, HLK.out] at hlen
            have HST := Lib.hid hst
            have hi : ((j + 1 : Nat) : Int) - 1 = (j : Int) := by omega
            have hjl : (j : Int) < (ds.length : Int) := by omega
            rw [hi]
            clear hi hst hx hx' hr0
            generalize Z.bsOf ng ((Z.dg 10 (Z.ofDg 10 ds)).drop (j + 1)) = os at *
            go_wp2_with (at_builtin; refine app1 rfl _ _ _ rfl elem8 Tryd.underlying136 (by omega) wr w.heap.size u6 os _ (48 + x) (by omega) rfl hown rfl (by omega) hb1.size ?_; intro v2 w2 hown2 hb2 hs2)
            go_roundw
            case rel => exact ⟨j, by omega, rfl, by rw [HST.out]; exact hown2, hb1.trans hb2⟩
            case measure => simp [intOf]
          · obtain rfl : j = 0 := by omega
            have hcv := conv_string wr 136 88 5 Tryd.underlying136 Tryd.underlying5 Tryd.underlying88 u6 _ hown.sn
            rw [List.drop_zero] at hcv
            have e : strOf (Z.bsOf ng (Z.dg 10 (Z.ofDg 10 ds))) = ⟨(Z.txtD ng (Z.ofDg 10 ds)).toArray⟩ := by unfold strOf; rw [Z.bsOf_txt ng _ HN.out]
            rw [e] at hcv
            clear e
            go_wp2_with fail
            go_ret
            exact ⟨rfl, hb1⟩
    · obtain rfl : k = 0 := by omega
      have HTK := step (.inl rfl)
      have hk0 : (((0 : Nat) : Int) == 0) = true := rfl
      clear step
      go_wp2_with fail
      go_ret
      have h1 : Z.ofDg 10 ds = 0 := by
        have h2 := HTK.out
        rw [List.take_zero] at h2
        exact (Z.dg_eq_nil 10 (by omega) _).1 h2.symm
      exact ⟨ret_str (by rw [h1]; rfl), Below.refl _ _⟩
end Go.Proofs.YtifafmomkpkgdaaDoor
/- Walks: slices.Reverse of bytes of the call's own; integer.Of. -/

namespace Go.Proofs.YtifafmomkpkgdaaDoor
open Go.RowKit

theorem Z.list_ext {x y : List Nat} (hl : x.length = y.length) (h : ∀ t, t < x.length → Z.dAt x t = Z.dAt y t) : x = y := by
  apply List.ext_getElem? 
  intro i
  rcases Nat.lt_or_ge i x.length with h1 | h1
  · rw [Z.dAt_eq h1, Z.dAt_eq (by omega), h i h1]
  · rw [List.getElem?_eq_none h1, List.getElem?_eq_none (by omega)]
theorem Z.dAt_reverse (x : List Nat) (t : Nat) (h : t < x.length) : Z.dAt x.reverse t = Z.dAt x (x.length - 1 - t) := by
  unfold Z.dAt
  rw [List.getElem?_reverse h]

def RevRet (q : IntKind) (ty : TypeId) (w : World) (B : Nat) (v : Value) (bs : List Nat) (e : Ending) (w' : World) : Prop := e = .returned (.tuple #[]) ∧ Ow q ty w' B v bs.reverse ∧ Below B w w'

set_option maxHeartbeats 800000 in
theorem reverse_any (v : Value) (bs : List Nat) (B : Nat) (w : World) (hown : Ow .u8 5 w B v bs) (hl : bs.length ≤ 1000000) :
    Calls Tryd.prog 124 #[v] w (RevRet .u8 5 w B v bs) := by
  obtain ⟨A, c, rfl, hc, hm, _⟩ := hown.sn
  go_enter Tryd.func124, Tryd.ntmps124
  go_wp2_with fail
  go_loopw [2, 3] (fun iv jv wr => ∃ (k : Nat) (cs : List Nat), k ≤ bs.length ∧ iv = .int .i64 k ∧ jv = .int .i64 ((bs.length : Int) - 1 - k) ∧ Ow .u8 5 wr B (.slice A bs.length c) cs ∧ Below B w wr ∧
    Hid (cs.length = bs.length ∧ ∀ t, t < bs.length → Z.dAt cs t = if t < k ∨ bs.length - k ≤ t then Z.dAt bs (bs.length - 1 - t) else Z.dAt bs t)) (fun iv jv _ => (intOf jv + 1 - intOf iv).toNat)
  case atStart => exact ⟨0, bs, by omega, rfl, ret_v (by omega), hown, Below.refl _ _, rfl, fun t ht => by rw [if_neg (by omega)]⟩
  case round =>
    clear hown
    obtain ⟨k, cs, hk, rfl, rfl, hown, hb, HI⟩ := hrel
    by_cases hlt : (k : Int) < (bs.length : Int) - 1 - k
    · have hown' := hown
      unfold Ow at hown'
      obtain ⟨g, cap, hv, hB, hg⟩ := World.ownsRow.form hown' (by rw [HI.out.1]; omega)
      simp only [Value.slice.injEq] at hv
      obtain ⟨rfl, hx0, rfl⟩ := hv
      clear hx0
      clear hown'
      have r1 : wr.cell? ⟨g, k, none⟩ = some (.int .u8 (Z.dAt cs k : Int)) := hown.cellN HI.out.1 (Z.dAt_eq (by rw [HI.out.1]; omega))
      have r2 : wr.cell? ⟨g, bs.length - 1 - k, none⟩ = some (.int .u8 (Z.dAt cs (bs.length - 1 - k) : Int)) := hown.cellN HI.out.1 (Z.dAt_eq (by rw [HI.out.1]; omega))
      have f1 : wr.frozen? ⟨g, k, none⟩ = false := hown.freeN HI.out.1 _
      have f2 : wr.frozen? ⟨g, bs.length - 1 - k, none⟩ = false := hown.freeN HI.out.1 _
      have hne : ¬ k = bs.length - 1 - k := by omega
      have hne' : ¬ bs.length - 1 - k = k := by omega
      have h1 : (0 : Int) ≤ (k : Int) := by omega
      have h2 : (k : Int) < (bs.length : Int) := by omega
      have h3 : (0 : Int) ≤ (bs.length : Int) - 1 - k := by omega
      have h4 : (bs.length : Int) - 1 - k < (bs.length : Int) := by omega
      generalize hx : Z.dAt cs k = x at *
      generalize hy : Z.dAt cs (bs.length - 1 - k) = y at *
      have HX := Lib.hid hx
      have HY := Lib.hid hy
      clear hx hy
      go_wp2_with fail
      go_region
      go_wp2_with fail
      go_roundw
      case rel =>
        have hl1 : (cs.set k y).length = bs.length := by rw [List.length_set]; exact HI.out.1
        refine ⟨k + 1, (cs.set k y).set (bs.length - 1 - k) x, by omega, by go_num, ret_v (by omega), (((hown.storedN HI.out.1 k y y rfl).storedN hl1 (bs.length - 1 - k) x x rfl)).drewN 1, ((hb.setCell (p := ⟨g, k, none⟩) hB _).setCell (p := ⟨g, bs.length - 1 - k, none⟩) hB _).drew, by rw [List.length_set]; exact hl1, fun t ht => ?_⟩
        rw [Z.dAt_set _ _ _ _ (by rw [hl1]; omega), Z.dAt_set _ _ _ _ (by rw [HI.out.1]; omega)]
        have ex := HI.out.2 k (by omega)
        have ey := HI.out.2 (bs.length - 1 - k) (by omega)
        rw [HX.out, if_neg (by omega)] at ex
        rw [HY.out, if_neg (by omega)] at ey
        by_cases e1 : t = bs.length - 1 - k
        · rw [if_pos e1, if_pos (by omega), ex]; congr 1; omega
        · rw [if_neg e1]
          by_cases e2 : t = k
          · rw [if_pos e2, if_pos (by omega), ey]; congr 1; omega
          · rw [if_neg e2, HI.out.2 t ht]
            by_cases e3 : t < k ∨ bs.length - k ≤ t
            · rw [if_pos e3, if_pos (by omega)]
            · rw [if_neg e3, if_neg (by omega)]
      case measure => simp [intOf]; omega
    · go_wp2_with fail
      go_end0
      refine ⟨rfl, ?_, hb⟩
      have e : cs = bs.reverse := by
        refine Z.list_ext (by rw [HI.out.1, List.length_reverse]) fun t ht => ?_
        rw [HI.out.1] at ht
        rw [HI.out.2 t ht, Z.dAt_reverse _ _ ht]
        split
        · rfl
        · congr 1; omega
      rw [← e]
      unfold Ow
      rw [HI.out.1]
      exact (by have h := hown; unfold Ow at h; rwa [HI.out.1] at h)

namespace Z
/-- The bytes of a number's decimal digits, the last one first; of 0: one. -/
def bsD (n : Nat) : List Nat := if n = 0 then [48] else (dg 10 n).map (48 + ·)
theorem bsD_small (n : Nat) (h : n / 10 = 0) : bsD n = [48 + n % 10] := by
  unfold bsD
  rcases Nat.eq_zero_or_pos n with h0 | h0
  · subst h0; rfl
  · rw [if_neg (by omega), dg_pos 10 n (by omega) h0, h, dg_zero]; rfl
theorem bsD_step (n : Nat) (h : n / 10 ≠ 0) : bsD n = (48 + n % 10) :: bsD (n / 10) := by
  unfold bsD
  rw [if_neg (show ¬ n = 0 by omega), if_neg h, dg_pos 10 n (by omega) (by omega)]; rfl
theorem dg_len_19 (n : Nat) (h : n < 10 ^ 19) : (dg 10 n).length ≤ 19 := dg_len_of_lt 10 (by omega) n 19 h
theorem bsD_length (n : Nat) (h : n < 10 ^ 19) : (bsD n).length ≤ 19 := by
  unfold bsD
  split
  · simp
  · rw [List.length_map]; exact dg_len_19 n h
theorem bsD_pos (n : Nat) : ((bsD n).reverse.map UInt8.ofNat) = decB n := by
  unfold bsD decB
  split
  · rfl
  · rw [← List.map_reverse, List.map_map]; rfl
end Z

theorem strOf_pos (n : Int) (h : 0 ≤ n) : strOf (Z.bsD n.natAbs).reverse = ⟨(Z.txt n).toArray⟩ := by
  unfold strOf Z.txt
  rw [if_neg (by omega), Z.bsD_pos]
theorem strOf_neg (n : Int) (h : n < 0) : strOf (Z.bsD n.natAbs ++ [45]).reverse = ⟨(Z.txt n).toArray⟩ := by
  unfold strOf Z.txt
  rw [if_pos h, List.reverse_append, List.map_append, Z.bsD_pos]
  rfl
theorem tmod_neg (m : Int) (h : m ≤ 0) : m.tmod 10 = -((m.natAbs % 10 : Nat) : Int) := by
  obtain ⟨a, ha⟩ : ∃ a : Nat, m = -(a : Int) := ⟨m.natAbs, by omega⟩
  subst ha
  rw [Int.neg_tmod, Int.natAbs_neg, Int.natAbs_natCast]
  rfl
theorem tdiv_neg (m : Int) (h : m ≤ 0) : m.tdiv 10 = -((m.natAbs / 10 : Nat) : Int) := by
  obtain ⟨a, ha⟩ : ∃ a : Nat, m = -(a : Int) := ⟨m.natAbs, by omega⟩
  subst ha
  rw [Int.neg_tdiv, Int.natAbs_neg, Int.natAbs_natCast]
  rfl

end Go.Proofs.YtifafmomkpkgdaaDoor
