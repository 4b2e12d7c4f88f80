/- R2: Rsm Rgreat -/
import Derived.Test.YtdjghmpaopfboaaR1
import Derived.Test.YtdjghmpaopfboaaI1
/- Walks: the reference: Plus, small, Negative, Of. -/

namespace Go.Proofs.Ytdjghmpaopfboaa
open Go.RowKit

/-- Digits of a number in a new slice. -/
def NumRet (w : World) (n len : Nat) (e : Ending) (w' : World) : Prop := ∃ v os, e = .returned v ∧ Ow .i64 3 w' w.heap.size v os ∧ (∀ d ∈ os, d < 10) ∧ Z.ofDg 10 os = n ∧ os.length ≤ len ∧ Below w.heap.size w w'

set_option maxHeartbeats 800000 in
theorem rplus_any (v u : Value) (xs ys : List Nat) (w : World) (hS : SN .i64 w v xs) (hT : SN .i64 w u ys) (hx : ∀ d ∈ xs, d < 10) (hy : ∀ d ∈ ys, d < 10)
    (hl : xs.length ≤ 1000000) (hl' : ys.length ≤ 1000000) :
    Calls Try.prog 79 #[v, u] w (NumRet w (Z.ofDg 10 xs + Z.ofDg 10 ys) (max xs.length ys.length + 1)) := by
  have hS' := hS
  have hT' := hT
  obtain ⟨A, c, rfl, hc, hm, hcell⟩ := hS
  obtain ⟨A', c', rfl, hc', hm', hcell'⟩ := hT
  have HX := Lib.hid hx
  have HY := Lib.hid hy
  obtain ⟨K, hK⟩ : ∃ K, max xs.length ys.length = K := ⟨_, rfl⟩
  have hK1 : xs.length ≤ K := by omega
  have hK2 : ys.length ≤ K := by omega
  have hK3 : K ≤ 1000000 := by omega
  have HK := Lib.hid hK
  clear hcell hcell' hx hy hK
  go_enter Try.func79, Try.ntmps79
  go_wp2_with fail
  go_loopw [5, 6, 7] (fun out cv iv wr => ∃ (k cy : Nat) (os : List Nat), k ≤ K + 1 ∧ iv = .int .i64 k ∧ cv = .int .i64 cy ∧ cy ≤ 1 ∧ Ow .i64 3 wr w.heap.size out os ∧ Below w.heap.size w wr ∧
    Hid (os.length = k ∧ (∀ d ∈ os, d < 10) ∧ Z.ofDg 10 os + 10 ^ k * cy = Z.ofDg 10 (xs.take k) + Z.ofDg 10 (ys.take k))) (fun _ _ iv _ => K + 1 - (intOf iv).toNat)
  case atStart => exact ⟨0, 0, [], by omega, rfl, rfl, by omega, Ow.nil_ _, Below.refl _ _, rfl, by simp, by simp [Z.ofDg]⟩
  case round =>
    obtain ⟨k, cy, os, hk, rfl, rfl, hcy, hown, hb, HI⟩ := hrel
    have hos : os.length ≤ k := by rw [HI.out.1]; omega
    go_upto_region 4 with fail
    go_cut [15] (fun v wx => v = .bool (decide (k ≤ K)) ∧ wr = wx)
    case first =>
      go_wp2_with fail
      all_goals
        go_meet
        refine ⟨?_, rfl⟩
        have hmx := HK.out
        congr 1
        simp
        omega
    case rest =>
    obtain ⟨rfl, rfl⟩ := hcut
    by_cases hlt : k ≤ K
    · have hdec : decide (k ≤ K) = true := by simp [hlt]
      have c1 := at_any _ xs k wr (hS'.below hb) (by omega) (by omega)
      have c2 := at_any _ ys k wr (hT'.below hb) (by omega) (by omega)
      have hst := Z.plus_step 10 (by omega) xs ys os k cy HX.out HY.out hcy HI.out.1 HI.out.2.2
      have b1 := Z.dAt_lt (b := 10) (by omega) HX.out k
      have b2 := Z.dAt_lt (b := 10) (by omega) HY.out k
      generalize Z.dAt xs k = d at *
      generalize Z.dAt ys k = d' at *
      have C1 := Lib.hid c1
      have C2 := Lib.hid c2
      have HST := Lib.hid hst
      rw [hdec]
      clear c1 c2 hst hdec
      go_wp2_with fail
      refine C1.out.mono ?_
      rintro e w' ⟨rfl, rfl⟩
      go_wp2_with fail
      refine C2.out.mono ?_
      rintro e w' ⟨rfl, rfl⟩
      go_wp2_with (at_builtin; refine app1 rfl _ _ _ rfl elem64 Try.underlying67 (by omega) wr w.heap.size u5 os _ ((d + d' + cy) % 10) (by omega) rfl hown rfl (by omega) hb.size ?_; intro v2 w2 hown2 hb2 hs2)
      go_roundw
      case rel =>
        refine ⟨k + 1, (d + d' + cy) / 10, _, by omega, by go_num, ret_v (by omega), HST.out.2, hown2, hb.trans hb2, by simp [HI.out.1], Z.mem_snoc HI.out.2.1 (by omega), HST.out.1⟩
      case measure => simp [intOf]; omega
    · have hdec : decide (k ≤ K) = false := by simp; omega
      obtain rfl : k = K + 1 := by omega
      rw [hdec]
      clear hdec
      go_wp2_with fail
      go_ret
      have hv := HI.out.2.2
      rw [List.take_of_length_le (by omega), List.take_of_length_le (by omega)] at hv
      have hcy0 : cy = 0 := by
        rcases Nat.eq_zero_or_pos cy with h | h
        · exact h
        · exfalso
          have h1 := Z.ofDg_lt 10 (by omega) xs HX.out
          have h2 := Z.ofDg_lt 10 (by omega) ys HY.out
          have h3 : 10 ^ xs.length ≤ 10 ^ K := Nat.pow_le_pow_right (by omega) hK1
          have h4 : 10 ^ ys.length ≤ 10 ^ K := Nat.pow_le_pow_right (by omega) hK2
          have h5 : 10 ^ (K + 1) * 1 ≤ 10 ^ (K + 1) * cy := Nat.mul_le_mul_left _ h
          have h6 : 10 ^ (K + 1) = 10 ^ K * 10 := Nat.pow_succ ..
          omega
      rw [hcy0] at hv
      rw [HK.out]
      exact ⟨_, os, rfl, hown, HI.out.2.1, by omega, by rw [HI.out.1]; omega, hb⟩

theorem Z.neg_txt {l : List UInt8} (_h : Z.canon l = true) : Z.txtD (!Z.isNeg l) (Z.ofDg 10 (Z.rdg (Z.mags l))) = Z.txt (-Z.ival l) := by
  rw [Z.txtD_txt, ← Z.natOf_rdg]
  unfold Z.ival
  cases Z.isNeg l <;> simp

set_option maxHeartbeats 400000 in
theorem negative_any (s : ByteArray) (w : World) (hs : s.size ≤ 1000000) (hc : Z.canon s.data.toList = true) :
    Calls Try.prog 98 #[.string s] w (StrRet w (Z.txt (-Z.ival s.data.toList))) := by
  have hall := (Z.canon_parts hc).all
  have hlen : (Z.rdg (Z.mags s.data.toList)).length ≤ s.size := by
    rw [Z.rdg_length]
    unfold Z.mags
    split
    · rw [List.length_tail, ← Lib.size_eq]; omega
    · rw [← Lib.size_eq]; omega
  have HC := Lib.hid hc
  have HA := Lib.hid hall
  clear hall
  go_enter Try.func98, Try.ntmps98
  go_wp2_with fail
  refine (digits_any s w hs).mono ?_
  rintro e w1 ⟨v1, rfl, hown, hb⟩
  rw [HC.out] at hown ⊢
  simp only [↓reduceIte, Bool.true_and] at hown ⊢
  clear hc
  generalize hng : Z.isNeg s.data.toList = ng at *
  have HNG := Lib.hid hng
  clear hng
  go_wp2_with fail
  refine (text_any v1 (Z.rdg (Z.mags s.data.toList)) (!ng) w1 hown.sn (Z.rdg_lt HA.out) (by omega)).mono ?_
  rintro e w2 ⟨rfl, hb2⟩
  rw [← HNG.out, Z.neg_txt HC.out]
  go_wp2_with fail
  go_ret
  exact ⟨rfl, hb.trans (hb2.mono hb.size)⟩

theorem data_mk (l : List UInt8) : (⟨l.toArray⟩ : ByteArray).data.toList = l := by simp
theorem size_mk (l : List UInt8) : (⟨l.toArray⟩ : ByteArray).size = l.length := by rw [Lib.size_eq, data_mk]
theorem Z.decB_length (n k : Nat) (h : n < 10 ^ k) : (Z.decB n).length ≤ k + 1 := by
  unfold Z.decB
  split
  · simp
  · rw [List.length_map, List.length_reverse]
    have := Z.dg_len_of_lt 10 (by omega) n k h
    omega
theorem Z.txt_length (z : Int) (k : Nat) (h : z.natAbs < 10 ^ k) : (Z.txt z).length ≤ k + 2 := by
  have := Z.decB_length z.natAbs k h
  unfold Z.txt
  split
  · simp; omega
  · omega
theorem sn_int_one (w : World) (d : Nat) (y : Int) (h : y = (d : Int)) (e : TypeId) : SN .i64 (w.alloc (.cells #[.int .i64 y] e)) (.slice (some ⟨w.heap.size, 0, none⟩) 1 1) [d] := by
  subst h
  refine ⟨_, 1, rfl, Nat.le_refl _, by simp [maxLen], fun _ => ⟨w.heap.size, 0, rfl, by simp, fun i x hi => ?_⟩⟩
  have hlt := (List.getElem?_eq_some_iff.1 hi).1
  simp at hlt
  subst hlt
  simp at hi
  subst hi
  simp

end Go.Proofs.Ytdjghmpaopfboaa
/- Walks: the reference: Great, over a slice of strings. -/

namespace Go.Proofs.Ytdjghmpaopfboaa
open Go.RowKit

/-- The slice value v reads as these strings. -/
def SS (w : World) (v : Value) (ss : List ByteArray) : Prop :=
  ∃ (A : Option Addr) (c : Nat), v = .slice A ss.length c ∧ ss.length ≤ c ∧ c ≤ maxLen ∧
    (0 < ss.length → ∃ b o, A = some ⟨b, o, none⟩ ∧ b < w.heap.size ∧ ∀ (i : Nat) (s : ByteArray), ss[i]? = some s → w.cell? ⟨b, o + i, none⟩ = some (.string s))
theorem SS.below {w w' : World} {v : Value} {ss : List ByteArray} (h : SS w v ss) (hb : Below w.heap.size w w') : SS w' v ss := by
  obtain ⟨A, c, hv, h1, h2, h3⟩ := h
  refine ⟨A, c, hv, h1, h2, fun hp => ?_⟩
  obtain ⟨b, o, hA, hlt, hc⟩ := h3 hp
  exact ⟨b, o, hA, Nat.lt_of_lt_of_le hlt hb.size, fun i d hd => (hb.cell (p := ⟨b, o + i, none⟩) hlt).trans (hc i d hd)⟩
theorem ss_new (w : World) (ss : List ByteArray) (e : TypeId) (hl : ss.length ≤ 1000) : SS (w.alloc (.cells (ss.map Value.string).toArray e)) (.slice (some ⟨w.heap.size, 0, none⟩) ss.length ss.length) ss :=
  ⟨_, _, rfl, Nat.le_refl _, by unfold maxLen; omega, fun _ => ⟨w.heap.size, 0, rfl, by simp, fun i s hi => by
    rw [Nat.zero_add]
    rw [cell_of_row _ w.heap.size i _ e (0, 0) (heap_alloc_new w _)]
    simp [hi]⟩⟩

end Go.Proofs.Ytdjghmpaopfboaa
