/- Walks: the reference: Great, over a slice of strings. -/
import Derived.Test.YthafdckomhdlbaaRsm
namespace Go.Proofs.Ythafdckomhdlbaa
open Go.RowKit

/-- The slice value v reads as these strings. -/
def SS (w : World) (v : Value) (ss : List ByteArray) : Prop :=
  ∃ (A : Option Addr) (c : Nat), v = .slice A ss.length c ∧ ss.length ≤ c ∧ c ≤ maxLen ∧
    (0 < ss.length → ∃ b o, A = some ⟨b, o, none⟩ ∧ b < w.heap.size ∧ ∀ (i : Nat) (s : ByteArray), ss[i]? = some s → w.cell? ⟨b, o + i, none⟩ = some (.string s))
theorem SS.below {w w' : World} {v : Value} {ss : List ByteArray} (h : SS w v ss) (hb : Below w.heap.size w w') : SS w' v ss := by
  obtain ⟨A, c, hv, h1, h2, h3⟩ := h
  refine ⟨A, c, hv, h1, h2, fun hp => ?_⟩
  obtain ⟨b, o, hA, hlt, hc⟩ := h3 hp
  exact ⟨b, o, hA, Nat.lt_of_lt_of_le hlt hb.size, fun i d hd => (hb.cell (p := ⟨b, o + i, none⟩) hlt).trans (hc i d hd)⟩
theorem ss_new (w : World) (ss : List ByteArray) (e : TypeId) (hl : ss.length ≤ 1000) : SS (w.alloc (.cells (ss.map Value.string).toArray e)) (.slice (some ⟨w.heap.size, 0, none⟩) ss.length ss.length) ss :=
  ⟨_, _, rfl, Nat.le_refl _, by unfold maxLen; omega, fun _ => ⟨w.heap.size, 0, rfl, by simp, fun i s hi => by
    rw [Nat.zero_add]
    rw [cell_of_row _ w.heap.size i _ e (0, 0) (heap_alloc_new w _)]
    simp [hi]⟩⟩

set_option maxHeartbeats 400000 in
theorem great_any (v : Value) (ss : List ByteArray) (w : World) (hS : SS w v ss) (hl : ss.length ≤ 1000000) :
    Calls Try.prog 6 #[v] w fun e w' => e = .returned (.bool (ss.any fun s => decide (1100 < s.size))) ∧ w = w' := by
  obtain ⟨A, c, rfl, hc, hm, hcell⟩ := hS
  go_enter Try.func6, Try.ntmps6
  go_wp2_with fail
  go_loop [3] (fun iv => ∃ k : Nat, k ≤ ss.length ∧ iv = .int .i64 k ∧ Hid (∀ (i : Nat) (s : ByteArray), i < k → ss[i]? = some s → ¬ 1100 < s.size)) (fun iv => ss.length - (intOf iv).toNat)
  case atStart => exact ⟨0, by omega, rfl, fun i s h => by omega⟩
  case round =>
    obtain ⟨k, hk, rfl, HK⟩ := hrel
    by_cases hlt : k < ss.length
    · obtain ⟨g, o, rfl, hg, hcl⟩ := hcell (by omega)
      obtain ⟨s, hs⟩ : ∃ s, ss[k]? = some s := ⟨_, List.getElem?_eq_getElem (by omega)⟩
      have hr := hcl _ _ hs
      have HS := Lib.hid hs
      clear hcl hs hcell
      by_cases hb : 1100 < s.size
      · go_wp2_with fail
        go_ret
        refine ⟨ret_bool ?_, rfl⟩
        symm
        rw [List.any_eq_true]
        exact ⟨s, List.mem_of_getElem? HS.out, by simpa using hb⟩
      · go_wp2_with fail
        go_round
        case rel =>
          refine ⟨k + 1, by omega, by go_num, fun i x hi hx => ?_⟩
          by_cases e : i = k
          · subst e
            rw [HS.out] at hx
            injection hx with hx
            rw [← hx]; exact hb
          · exact HK.out i x (by omega) hx
        case measure => simp [intOf]; omega
    · obtain rfl : k = ss.length := by omega
      go_wp2_with fail
      go_ret
      refine ⟨ret_bool ?_, rfl⟩
      symm
      rw [List.any_eq_false]
      intro x hx
      obtain ⟨i, hi⟩ := List.mem_iff_getElem?.1 hx
      have := HK.out i x (List.getElem?_eq_some_iff.1 hi).1 hi
      simpa using this
end Go.Proofs.Ythafdckomhdlbaa
