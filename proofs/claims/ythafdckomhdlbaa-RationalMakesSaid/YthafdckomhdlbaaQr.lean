/- Walks: the reference of rationals: Slash, written. -/
import Derived.Test.YthafdckomhdlbaaZratb
import Derived.Test.YthafdckomhdlbaaRops
import Derived.Test.YthafdckomhdlbaaIlawb
namespace Go.Proofs.Ythafdckomhdlbaa
open Go.RowKit

namespace Z
def sl (s : ByteArray) : Int := Lib.index s.data.toList [47]
theorem sl_hit {s : ByteArray} {k : Nat} (hk : k < s.size) (h : s[k] = 47) (hn : ∀ j, j < k → ∀ h : j < s.size, s[j] ≠ 47) : sl s = k := by
  unfold sl
  refine Lib.index_first (i := k) (by rw [← Lib.size_eq]; omega) ?_ (fun j hj => ?_)
  · unfold Lib.occAt
    rw [List.drop_eq_getElem_cons (by rw [← Lib.size_eq]; exact hk)]
    have e : s.data.toList[k]'(by rw [← Lib.size_eq]; exact hk) = 47 := h
    rw [e]
    simp [List.isPrefixOf]
  · unfold Lib.occAt
    rw [List.drop_eq_getElem_cons (by rw [← Lib.size_eq]; omega)]
    have e : s.data.toList[j]'(by rw [← Lib.size_eq]; omega) ≠ 47 := hn j hj (by omega)
    simp [List.isPrefixOf]
    exact fun h => e h.symm
theorem sl_none {s : ByteArray} (hn : ∀ j, ∀ h : j < s.size, s[j] ≠ 47) : sl s = -1 := by
  refine indexB_none fun c hc => ?_
  obtain ⟨j, hj, rfl⟩ := List.mem_iff_getElem.1 hc
  exact hn j (by rw [Lib.size_eq]; exact hj)
theorem sl_cases (s : ByteArray) : (sl s = -1 ∧ rF s = false ∧ rN s = s ∧ rD1 s = ⟨#[49]⟩) ∨ (∃ i : Nat, sl s = i ∧ i < s.size ∧ rF s = true ∧ rN s = s.extract 0 i ∧ rD s = s.extract (i + 1) s.size ∧ rD1 s = s.extract (i + 1) s.size) := by
  have hc : cutR s.data.toList = if 0 ≤ sl s then (s.data.toList.take (sl s).toNat, s.data.toList.drop ((sl s).toNat + 1), true) else (s.data.toList, [], false) := rfl
  rcases Lib.index_spec s.data.toList [47] with ⟨h1, _⟩ | ⟨i, h1, h2, h3, _⟩
  · have h1' : sl s = -1 := h1
    rw [h1', if_neg (by omega)] at hc
    have hf : rF s = false := by unfold rF; rw [hc]
    refine .inl ⟨h1', hf, ?_, ?_⟩
    · unfold rN; rw [hc]
    · unfold rD1; rw [hf]; rfl
  · have h1' : sl s = i := h1
    have hlt : i < s.size := by
      have := Lib.index_room s.data.toList [47] (by rw [h1]; omega)
      rw [h1, ← Lib.size_eq] at this
      simp at this
      omega
    rw [h1', if_pos (by omega)] at hc
    simp only [Int.toNat_natCast] at hc
    have hf : rF s = true := by unfold rF; rw [hc]
    have hd : rD s = s.extract (i + 1) s.size := by
      apply ba_of
      unfold rD
      rw [hc, data_ofL, Lib.extract_data]
      exact (List.take_of_length_le (by rw [List.length_drop, ← Lib.size_eq]; exact Nat.le_refl _)).symm
    refine .inr ⟨i, h1', hlt, hf, ?_, hd, ?_⟩
    · apply ba_of
      unfold rN
      rw [hc, data_ofL, Lib.extract_data]
      simp
    · unfold rD1; rw [hf]; exact hd
end Z
theorem slash_any (s : ByteArray) (w : World) (hs : s.size ≤ 100000) : Calls Try.prog 58 #[.string s] w fun e w' => e = .returned (.int .i64 (Z.sl s)) ∧ w = w' := by
  go_enter Try.func58, Try.ntmps58
  go_wp2_with fail
  go_loop [3] (fun iv => ∃ k : Nat, k ≤ s.size ∧ iv = .int .i64 k ∧ Hid (∀ j, j < k → ∀ h : j < s.size, s[j] ≠ 47)) (fun iv => s.size - (intOf iv).toNat)
  case atStart => exact ⟨0, by omega, rfl, fun j hj => by omega⟩
  case round =>
    obtain ⟨k, hk, rfl, HK⟩ := hrel
    by_cases hlt : k < s.size
    · by_cases hc : s[k] = 47
      · have hb : ((s[k].toNat : Int) == 47) = true := by rw [hc]; rfl
        have HS := Lib.hid (Z.sl_hit hlt hc HK.out)
        clear hc
        go_wp2_with fail
        go_ret
        exact ⟨ret_int HS.out.symm, rfl⟩
      · have hb : ((s[k].toNat : Int) == 47) = false := by
          rw [beq_eq_false_iff_ne]
          intro e
          exact hc (UInt8.toNat_inj.1 (by show s[k].toNat = 47; omega))
        have HC := Lib.hid hc
        clear hc
        go_wp2_with fail
        go_round
        case rel =>
          refine ⟨k + 1, by omega, by go_num, fun j hj hjs => ?_⟩
          by_cases e : j = k
          · subst e; exact HC.out
          · exact HK.out j (by omega) hjs
        case measure => simp [intOf]; omega
    · obtain rfl : k = s.size := by omega
      have HS := Lib.hid (Z.sl_none (fun j h => HK.out j h h))
      go_wp2_with fail
      go_ret
      exact ⟨ret_int HS.out.symm, rfl⟩
def WrRet (s : ByteArray) (w : World) (e : Ending) (w' : World) : Prop := e = .returned (.tuple #[.string (Z.rN s), .string (Z.rD1 s)]) ∧ ∃ n, w' = w.drewN n
theorem written_any (s : ByteArray) (w : World) (hs : s.size ≤ 100000) : Calls Try.prog 43 #[.string s] w (WrRet s w) := by
  have C := Lib.hid (slash_any s w hs)
  unfold WrRet
  rcases Z.sl_cases s with ⟨h1, h2, h3, h4⟩ | ⟨i, h1, h2, h3, h4, h5, h6⟩
  · rw [h1] at C
    rw [h3, h4]
    clear h1 h2 h3 h4
    go_enter Try.func43, Try.ntmps43
    go_wp2_with fail
    refine C.out.mono ?_
    rintro e w' ⟨rfl, rfl⟩
    go_wp2_with fail
    go_ret2
    exact ⟨rfl, 0, rfl⟩
  · rw [h1] at C
    rw [h4, h6]
    clear h1 h3 h4 h5 h6
    have e1 : IntKind.i64.wrap ((i : Int) + 1) = (i : Int) + 1 := IntWalk.i64_in _ (by omega)
    have e2 : ((i : Int) + 1).toNat = i + 1 := by omega
    have e3 : (0 : Int) ≤ (i : Int) + 1 := by omega
    have e4 : (i : Int) + 1 ≤ (s.size : Int) := by omega
    have e5 : (i : Int) ≤ (s.size : Int) := by omega
    go_enter Try.func43, Try.ntmps43
    go_wp2_with fail
    refine C.out.mono ?_
    rintro e w' ⟨rfl, rfl⟩
    go_wp2_with fail
    go_region
    go_wp2_with fail
    go_ret2
    exact ⟨rfl, 1, rfl⟩
end Go.Proofs.Ythafdckomhdlbaa
