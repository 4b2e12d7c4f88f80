/- Walks: the reference: Great of the rationals, over a slice of strings. -/
import Derived.Test.YthafdckomhdlbaaRgreat
namespace Go.Proofs.Ythafdckomhdlbaa
open Go.RowKit

set_option maxHeartbeats 400000 in
theorem qgreat_any (v : Value) (ss : List ByteArray) (w : World) (hS : SS w v ss) (hl : ss.length ≤ 1000000) :
    Calls Try.prog 7 #[v] w fun e w' => e = .returned (.bool (ss.any fun s => decide (2100 < s.size))) ∧ w = w' := by
  obtain ⟨A, c, rfl, hc, hm, hcell⟩ := hS
  go_enter Try.func7, Try.ntmps7
  go_wp2_with fail
  go_loop [3] (fun iv => ∃ k : Nat, k ≤ ss.length ∧ iv = .int .i64 k ∧ Hid (∀ (i : Nat) (s : ByteArray), i < k → ss[i]? = some s → ¬ 2100 < s.size)) (fun iv => ss.length - (intOf iv).toNat)
  case atStart => exact ⟨0, by omega, rfl, fun i s h => by omega⟩
  case round =>
    obtain ⟨k, hk, rfl, HK⟩ := hrel
    by_cases hlt : k < ss.length
    · obtain ⟨g, o, rfl, hg, hcl⟩ := hcell (by omega)
      obtain ⟨s, hs⟩ : ∃ s, ss[k]? = some s := ⟨_, List.getElem?_eq_getElem (by omega)⟩
      have hr := hcl _ _ hs
      have HS := Lib.hid hs
      clear hcl hs hcell
      by_cases hb : 2100 < s.size
      · go_wp2_with fail
        go_ret
        refine ⟨ret_bool ?_, rfl⟩
        symm
        rw [List.any_eq_true]
        exact ⟨s, List.mem_of_getElem? HS.out, by simpa using hb⟩
      · go_wp2_with fail
        go_round
        case rel =>
          refine ⟨k + 1, by omega, by go_num, fun i x hi hx => ?_⟩
          by_cases e : i = k
          · subst e
            rw [HS.out] at hx
            injection hx with hx
            rw [← hx]; exact hb
          · exact HK.out i x (by omega) hx
        case measure => simp [intOf]; omega
    · obtain rfl : k = ss.length := by omega
      go_wp2_with fail
      go_ret
      refine ⟨ret_bool ?_, rfl⟩
      symm
      rw [List.any_eq_false]
      intro x hx
      obtain ⟨i, hi⟩ := List.mem_iff_getElem?.1 hx
      have := HK.out i x (List.getElem?_eq_some_iff.1 hi).1 hi
      simpa using this
end Go.Proofs.Ythafdckomhdlbaa
