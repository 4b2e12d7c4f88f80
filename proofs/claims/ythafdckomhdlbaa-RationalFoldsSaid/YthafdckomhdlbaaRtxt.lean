/- Walks: the reference: Text, small, Negative, Plus, Of. -/
import Derived.Test.YthafdckomhdlbaaRdig
import Derived.Test.YthafdckomhdlbaaStr
namespace Go.Proofs.Ythafdckomhdlbaa
open Go.RowKit

namespace Z
def txtD (ng : Bool) (n : Nat) : List UInt8 := if n = 0 then [48] else if ng then 45 :: decB n else decB n
def bsOf (ng : Bool) (l : List Nat) : List Nat := (if ng then [45] else []) ++ l.reverse.map (48 + ·)
theorem bsOf_step (ng : Bool) (l : List Nat) (k d : Nat) (h : l[k]? = some d) : bsOf ng (l.drop k) = bsOf ng (l.drop (k + 1)) ++ [48 + d] := by
  obtain ⟨hlt, hc⟩ := List.getElem?_eq_some_iff.1 h
  rw [List.drop_eq_getElem_cons hlt, hc]
  simp [bsOf]
theorem bsOf_length (ng : Bool) (l : List Nat) : (bsOf ng l).length ≤ l.length + 1 := by
  unfold bsOf; cases ng <;> simp
theorem bsOf_txt (ng : Bool) (n : Nat) (h : 0 < n) : (bsOf ng (dg 10 n)).map UInt8.ofNat = txtD ng n := by
  unfold bsOf txtD
  rw [if_neg (show ¬ n = 0 by omega), decB_pos h, List.map_append, List.map_map]
  have e : (dg 10 n).reverse.map (UInt8.ofNat ∘ fun x => 48 + x) = (dg 10 n).reverse.map chr := by rfl
  rw [e]
  cases ng <;> rfl
theorem txtD_txt (ng : Bool) (n : Nat) : txtD ng n = txt (if ng then -(n : Int) else n) := by
  unfold txtD txt
  rcases Nat.eq_zero_or_pos n with h | h
  · subst h; cases ng <;> rfl
  · rw [if_neg (by omega)]
    cases ng
    · simp only [Bool.false_eq_true, if_false]
      rw [if_neg (by omega), Int.natAbs_natCast]
    · simp only [if_true]
      rw [if_pos (by omega), Int.natAbs_neg, Int.natAbs_natCast]
end Z

def StrRet (w : World) (l : List UInt8) (e : Ending) (w' : World) : Prop := e = .returned (.string ⟨l.toArray⟩) ∧ Below w.heap.size w w'

set_option maxHeartbeats 800000 in
theorem text_any (v : Value) (ds : List Nat) (ng : Bool) (w : World) (hS : SN .i64 w v ds) (hd : ∀ d ∈ ds, d < 10) (hl : ds.length ≤ 1000000) :
    Calls Try.prog 39 #[v, .bool ng] w (StrRet w (Z.txtD ng (Z.ofDg 10 ds))) := by
  obtain ⟨A, c, rfl, hc, hm, hcell⟩ := hS
  have HDD := Lib.hid hd
  clear hd
  go_enter Try.func39, Try.ntmps39
  go_wp2_with fail
  go_loop [5] (fun iv => ∃ k : Nat, k ≤ ds.length ∧ iv = .int .i64 k ∧ Hid (∀ i, k ≤ i → i < ds.length → ds[i]? = some 0)) (fun iv => (intOf iv).toNat)
  case atStart => exact ⟨ds.length, by omega, rfl, fun i h1 h2 => by omega⟩
  case round =>
    obtain ⟨k, hk, rfl, HT⟩ := hrel
    have step : ∀ HN : Hid (k = 0 ∨ ds[k - 1]? ≠ some 0), Hid (ds.take k = Z.dg 10 (Z.ofDg 10 ds)) := fun HN => Z.trim_is 10 (by omega) ds HDD.out k hk HT.out HN.out
    by_cases h0 : 0 < k
    · obtain ⟨g, o, rfl, hg, hcl⟩ := hcell (by omega)
      obtain ⟨d, hd⟩ : ∃ d, ds[k - 1]? = some d := ⟨_, List.getElem?_eq_getElem (by omega)⟩
      have hr0 := hcl _ _ hd
      have HD := Lib.hid hd
      have HC := Lib.hid hcl
      clear hcl hd hcell
      by_cases hd0 : d = 0
      · have hb : ((d : Int) == 0) = true := by simp [hd0]
        have HD0 := Lib.hid hd0
        clear hd0 step
        go_wp2_with fail
        go_round
        case rel =>
          refine ⟨k - 1, by omega, ret_v (by omega), fun i hi hlt => ?_⟩
          by_cases e : i = k - 1
          · subst e; rw [HD.out, HD0.out]
          · exact HT.out i (by omega) hlt
        case measure => simp [intOf]; omega
      · have hb : ((d : Int) == 0) = false := by simp; omega
        have HTK := step (.inr (by rw [HD.out]; simpa using hd0))
        have hk0 : ((k : Int) == 0) = false := by simp; omega
        clear step
        have hN : 0 < Z.ofDg 10 ds := by
          rcases Nat.eq_zero_or_pos (Z.ofDg 10 ds) with h | h
          · have h1 := HTK.out
            rw [h, Z.dg_zero] at h1
            have h2 := congrArg List.length h1
            rw [List.length_take, List.length_nil] at h2
            omega
          · exact h
        have HN := Lib.hid hN
        clear hN
        have hlk : (ds.take k).length = k := by rw [List.length_take]; omega
        rw [HTK.out] at hlk
        have HLK := Lib.hid hlk
        clear hlk
        go_upto_if 24 with fail
        go_cut [1, 6] (fun nv bv wx => nv = .bool ng ∧ Ow .u8 5 wx w.heap.size bv (Z.bsOf ng []) ∧ Below w.heap.size w wx)
        case first =>
          cases ng
          · go_wp2_with fail
            go_meet
            exact ⟨rfl, Ow.nil_ _, Below.refl _ _⟩
          · go_wp2_with (at_builtin; refine app1 rfl _ _ _ rfl elem8 Try.underlying103 (by omega) w w.heap.size (.slice none 0 0) [] 45 45 rfl rfl (Ow.nil_ _) rfl (by simp) (Nat.le_refl _) ?_; intro v2 w2 hown2 hb2 hs2)
            go_meet
            exact ⟨rfl, hown2, hb2⟩
        case rest =>
        obtain ⟨rfl, hown0, hb0⟩ := hcut
        go_wp2_with fail
        go_loopw [6, 7] (fun bv iv wr => ∃ j : Nat, j ≤ k ∧ iv = .int .i64 ((j : Int) - 1) ∧ Ow .u8 5 wr w.heap.size bv (Z.bsOf ng ((Z.dg 10 (Z.ofDg 10 ds)).drop j)) ∧ Below w.heap.size w wr) (fun _ iv _ => (intOf iv + 1).toNat)
        case atStart => exact ⟨k, by omega, rfl, by rw [List.drop_of_length_le (by rw [HLK.out]; omega)]; exact hown0, hb0⟩
        case round =>
          clear hown0 hb0
          obtain ⟨j, hj, rfl, hown, hb1⟩ := hrel
          by_cases hj0 : 0 < j
          · obtain ⟨j, rfl⟩ : ∃ i, j = i + 1 := ⟨j - 1, by omega⟩
            obtain ⟨x, hx⟩ : ∃ x, ds[j]? = some x := ⟨_, List.getElem?_eq_getElem (by omega)⟩
            have hx' : (Z.dg 10 (Z.ofDg 10 ds))[j]? = some x := by rw [← HTK.out, List.getElem?_take, if_pos (by omega), hx]
            have hr1 : wr.cell? ⟨g, o + j, none⟩ = some (.int .i64 (x : Int)) := (hb1.cell (p := ⟨g, o + j, none⟩) hg).trans (HC.out _ _ hx)
            have hx9 : x < 10 := HDD.out x (List.mem_of_getElem? hx)
            have hst := Z.bsOf_step ng _ j x hx'
            have hlen := Z.bsOf_length ng ((Z.dg 10 (Z.ofDg 10 ds)).drop (j + 1))
            rw [List.length_drop, HLK.out] at hlen
            have HST := Lib.hid hst
            have hi : ((j + 1 : Nat) : Int) - 1 = (j : Int) := by omega
            have hjl : (j : Int) < (ds.length : Int) := by omega
            rw [hi]
            clear hi hst hx hx' hr0
            generalize Z.bsOf ng ((Z.dg 10 (Z.ofDg 10 ds)).drop (j + 1)) = os at *
            go_wp2_with (at_builtin; refine app1 rfl _ _ _ rfl elem8 Try.underlying103 (by omega) wr w.heap.size u6 os _ (48 + x) (by omega) rfl hown rfl (by omega) hb1.size ?_; intro v2 w2 hown2 hb2 hs2)
            go_roundw
            case rel => exact ⟨j, by omega, rfl, by rw [HST.out]; exact hown2, hb1.trans hb2⟩
            case measure => simp [intOf]
          · obtain rfl : j = 0 := by omega
            have hcv := conv_string wr 103 22 5 Try.underlying103 Try.underlying5 Try.underlying22 u6 _ hown.sn
            rw [List.drop_zero] at hcv
            have e : strOf (Z.bsOf ng (Z.dg 10 (Z.ofDg 10 ds))) = ⟨(Z.txtD ng (Z.ofDg 10 ds)).toArray⟩ := by unfold strOf; rw [Z.bsOf_txt ng _ HN.out]
            rw [e] at hcv
            clear e
            go_wp2_with fail
            go_ret
            exact ⟨rfl, hb1⟩
    · obtain rfl : k = 0 := by omega
      have HTK := step (.inl rfl)
      have hk0 : (((0 : Nat) : Int) == 0) = true := rfl
      clear step
      go_wp2_with fail
      go_ret
      have h1 : Z.ofDg 10 ds = 0 := by
        have h2 := HTK.out
        rw [List.take_zero] at h2
        exact (Z.dg_eq_nil 10 (by omega) _).1 h2.symm
      exact ⟨ret_str (by rw [h1]; rfl), Below.refl _ _⟩
end Go.Proofs.Ythafdckomhdlbaa
