/- Walk: the reference's Gone. -/
import Derived.Test.YtdjghmpaopfboaaClmem
namespace Go.Proofs.Ytdjghmpaopfboaa
open Go.RowKit
theorem gone_any (n : Int) (v : Value) (l : List Z.Cl) (w : World) (hS : SC w v l) :
    Calls Try.prog 36 #[v, .int .i64 n] w fun e w' => e = .returned (.bool (Z.gone l n)) ∧ w = w' := by
  obtain ⟨A, c, rfl, hlc, hcm, hcell⟩ := hS
  unfold maxLen at hcm
  go_enter Try.func36, Try.ntmps36
  go_wp2_with fail
  go_loop [5] (fun iv => ∃ k : Nat, k ≤ l.length ∧ iv = .int .i64 k ∧ Hid (Z.gone (l.take k) n = false)) (fun iv => l.length - (intOf iv).toNat)
  case atStart => exact ⟨0, by omega, rfl, Lib.hid rfl⟩
  case round =>
    obtain ⟨k, hk, rfl, HK⟩ := hrel
    by_cases hlt : k < l.length
    · have hz : l[k]? = some l[k] := List.getElem?_eq_getElem hlt
      obtain ⟨b, o, rfl, _, hcj⟩ := hcell (by omega)
      have c1 := hcj k _ hz 1 _ rfl
      clear hcj hcell
      by_cases e : l[k].r = n
      · have e1 : (l[k].r == n) = true := by rw [beq_iff_eq]; exact e
        have HT := Lib.hid (Z.gone_yes hz e)
        clear hz e
        generalize l[k].r = r at *
        go_wp2_with fail
        go_ret
        exact ⟨ret_bool HT.out.symm, rfl⟩
      · have e1 : (l[k].r == n) = false := by rw [beq_eq_false_iff_ne]; exact e
        have HF := Lib.hid (Z.gone_step hz HK.out e)
        clear hz e
        generalize l[k].r = r at *
        go_wp2_with fail
        go_round
        case rel => exact ⟨k + 1, by omega, by go_num, HF⟩
        case measure => simp [intOf]; omega
    · obtain rfl : k = l.length := by omega
      go_wp2_with fail
      go_ret
      have := HK.out
      rw [List.take_length] at this
      exact ⟨ret_bool this.symm, rfl⟩
end Go.Proofs.Ytdjghmpaopfboaa
