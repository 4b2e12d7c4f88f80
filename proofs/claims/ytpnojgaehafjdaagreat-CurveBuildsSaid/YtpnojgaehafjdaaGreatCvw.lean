/- Walks: whole of the reference of curves: a number's text. -/
import Derived.Test.YtpnojgaehafjdaaGreatCvm
import Derived.Test.YtpnojgaehafjdaaGreatQ4
import Derived.WalkKit
import Derived.WalkSpells
namespace Go.Proofs.YtpnojgaehafjdaaGreat
open Go.RowKit
namespace Z
def preD (m : Nat) : List UInt8 := if m = 0 then [] else decB m
theorem decB_step (m : Nat) : decB m = preD (m / 10) ++ [chr (m % 10)] := by
  unfold preD
  by_cases h : m = 0
  · subst h; rfl
  · rw [decB_pos (by omega), dg_pos 10 m (by omega) (by omega)]
    by_cases h2 : m / 10 = 0
    · rw [if_pos h2, h2, dg_zero]; rfl
    · rw [if_neg h2, decB_pos (by omega)]
      simp
end Z
theorem strOf_one (d : Nat) : strOf [48 + d] = ⟨#[Z.chr d]⟩ := rfl
theorem data_add (a b : ByteArray) : (a ++ b).data.toList = a.data.toList ++ b.data.toList := by
  rw [ByteArray.data_append, Array.toList_append]
theorem ba_ext {a b : ByteArray} (h : a.data.toList = b.data.toList) : a = b := by
  cases a; cases b
  simp at h
  simp [h]
/-- What the digits' loop holds: the number that is left, the text behind it. -/
def WhI (N m : Nat) (s : ByteArray) : Prop := (s = ⟨#[]⟩ ∧ m = N) ∨ (s ≠ ⟨#[]⟩ ∧ Z.decB N = Z.preD m ++ s.data.toList)
theorem WhI.next {N m : Nat} {s : ByteArray} (h : WhI N m s) (hm : 0 < m ∨ s = ⟨#[]⟩) : WhI N (m / 10) (⟨#[Z.chr (m % 10)]⟩ ++ s) := by
  refine .inr ⟨fun e => ?_, ?_⟩
  · have := congrArg (fun b : ByteArray => b.data.toList) e
    simp only at this
    rw [data_add] at this
    simp at this
  · rw [data_add]
    rcases h with ⟨rfl, rfl⟩ | ⟨h1, h2⟩
    · rw [Z.decB_step m]; simp
    · have hm0 : 0 < m := by rcases hm with h | h
                             · exact h
                             · exact absurd h h1
      rw [h2]
      conv => lhs; unfold Z.preD
      rw [if_neg (by omega), Z.decB_step m]
      simp
theorem WhI.size {N m : Nat} {s : ByteArray} (h : WhI N m s) : s.size ≤ (Z.decB N).length := by
  rcases h with ⟨rfl, _⟩ | ⟨_, h2⟩
  · exact Nat.zero_le _
  · rw [h2, List.length_append, ← Lib.size_eq]; omega
theorem WhI.end_ {N : Nat} {s : ByteArray} (h : WhI N 0 s) (hs : s ≠ ⟨#[]⟩) : s = ⟨(Z.decB N).toArray⟩ := by
  rcases h with ⟨h1, _⟩ | ⟨_, h2⟩
  · exact absurd h1 hs
  · apply ba_ext
    rw [h2]; simp [Z.preD]
theorem sn8_one (w : World) (d : Nat) (y : Int) (h : y = (d : Int)) (e : TypeId) : SN .u8 (w.alloc (.cells #[.int .u8 y] e)) (.slice (some ⟨w.heap.size, 0, none⟩) 1 1) [d] := by
  subst h
  refine ⟨_, 1, rfl, Nat.le_refl _, by simp [maxLen], fun _ => ⟨w.heap.size, 0, rfl, by simp, fun i x hi => ?_⟩⟩
  have hlt := (List.getElem?_eq_some_iff.1 hi).1
  simp at hlt
  subst hlt
  simp at hi
  subst hi
  simp
theorem conv_dig (w : World) (d : Nat) (y : Int) (h : y = ((48 + d : Nat) : Int)) : (convert 96 9 (.slice (some ⟨w.heap.size, 0, none⟩) 1 1)).run Tryz.prog (w.alloc (.cells #[.int .u8 y] 5)) = .ok (.string ⟨#[Z.chr d]⟩) (w.alloc (.cells #[.int .u8 y] 5)) :=
  conv_string _ 96 9 5 Tryz.underlying96 Tryz.underlying5 Tryz.underlying9 _ [48 + d] (sn8_one w (48 + d) y h 5)
def wm (v : Value) : Nat := match v with | .string s => if s.size = 0 then 1 else 0 | _ => 0
theorem wm_add (c : UInt8) (s : ByteArray) : wm (.string (⟨#[c]⟩ ++ s)) = 0 := by
  show (if (⟨#[c]⟩ ++ s : ByteArray).size = 0 then 1 else 0) = 0
  rw [if_neg (by rw [ByteArray.size_append]; show ¬ (1 + s.size = 0); omega)]
theorem wm_nil : wm (.string ⟨#[]⟩) = 1 := rfl
set_option maxRecDepth 100000 in
set_option maxHeartbeats 4000000 in
theorem whole_any (n : Int) (w : World) (h0 : -100000 < n) (h1 : n < 100000) :
    Calls Tryz.prog 42 #[.int .i64 n] w fun e w' => e = .returned (.string (Z.S n)) ∧ Below w.heap.size w w' := by
  obtain ⟨N, hN⟩ : ∃ N : Nat, N = n.natAbs := ⟨_, rfl⟩
  have hNl : N < 100000 := by omega
  have HL := Lib.hid (Z.decB_length N 5 (by omega))
  by_cases hn : n < 0
  · have HS : Hid (Z.S n = ⟨#[45]⟩ ++ ⟨(Z.decB N).toArray⟩) := Lib.hid (by
      apply ba_ext
      rw [data_add, Z.S_data, Z.txt, if_pos hn, hN]
      simp)
    generalize Z.S n = R at *
    go_enter Tryz.func42, Tryz.ntmps42
    go_wp2_with fail
    go_loopw [0, 3] (fun iv sv wr => ∃ (m : Nat) (s : ByteArray), iv = .int .i64 m ∧ sv = .string s ∧ m ≤ N ∧ Hid (WhI N m s) ∧ Below w.heap.size w wr) (fun iv sv _ => 2 * (intOf iv).toNat + wm sv)
    case atStart => exact ⟨N, ⟨#[]⟩, congrArg _ (by omega : -n = (N : Int)), rfl, Nat.le_refl _, Lib.hid (.inl ⟨rfl, rfl⟩), Below.refl _ _⟩
    case round =>
      obtain ⟨m, s, rfl, rfl, hm, HI, hb⟩ := hrel
      have hsz : s.size ≤ 6 := by have := HI.out.size; have := HL.out; omega
      by_cases hm0 : 0 < m
      · have HN := Lib.hid (HI.out.next (.inl hm0))
        have hcv := conv_dig wr (m % 10) (48 + (m : Int) % 10) (by omega)
        have hm1 : (m : Int) ≤ 99999 := by omega
        clear HI
        go_wp2_with fail
        go_roundw
        case rel => exact ⟨m / 10, _, congrArg _ (by omega), rfl, by omega, HN, hb.alloc hb.size _⟩
        case measure => simp only [intOf, wm_add, Int.toNat_natCast]; omega
      · obtain rfl : m = 0 := by omega
        by_cases hs : s = ⟨#[]⟩
        · subst hs
          have HN := Lib.hid (HI.out.next (.inr rfl))
          have hcv := conv_dig wr 0 48 rfl
          clear HI
          go_wp2_with fail
          go_roundw
          case rel => exact ⟨0, _, rfl, rfl, by omega, HN, hb.alloc hb.size _⟩
          case measure => simp [intOf, wm_add, wm_nil]
        · have hse : s.toList.isEmpty = false := by
            rw [Lib.toList_data]
            cases h : s.data.toList with
            | nil => exact absurd (ba_ext h) hs
            | cons a l => rfl
          have hR := HS.out
          rw [← HI.out.end_ hs] at hR
          have HR := Lib.hid hR
          clear hR hs HI
          go_wp2_with fail
          go_ret
          exact ⟨ret_str HR.out.symm, hb⟩
  · have HS : Hid (Z.S n = ⟨(Z.decB N).toArray⟩) := Lib.hid (by
      apply ba_ext
      rw [Z.S_data, Z.txt, if_neg hn, hN])
    generalize Z.S n = R at *
    go_enter Tryz.func42, Tryz.ntmps42
    go_wp2_with fail
    go_loopw [0, 3] (fun iv sv wr => ∃ (m : Nat) (s : ByteArray), iv = .int .i64 m ∧ sv = .string s ∧ m ≤ N ∧ Hid (WhI N m s) ∧ Below w.heap.size w wr) (fun iv sv _ => 2 * (intOf iv).toNat + wm sv)
    case atStart => exact ⟨N, ⟨#[]⟩, congrArg _ (by omega : n = (N : Int)), rfl, Nat.le_refl _, Lib.hid (.inl ⟨rfl, rfl⟩), Below.refl _ _⟩
    case round =>
      obtain ⟨m, s, rfl, rfl, hm, HI, hb⟩ := hrel
      have hsz : s.size ≤ 6 := by have := HI.out.size; have := HL.out; omega
      by_cases hm0 : 0 < m
      · have HN := Lib.hid (HI.out.next (.inl hm0))
        have hcv := conv_dig wr (m % 10) (48 + (m : Int) % 10) (by omega)
        have hm1 : (m : Int) ≤ 99999 := by omega
        clear HI
        go_wp2_with fail
        go_roundw
        case rel => exact ⟨m / 10, _, congrArg _ (by omega), rfl, by omega, HN, hb.alloc hb.size _⟩
        case measure => simp only [intOf, wm_add, Int.toNat_natCast]; omega
      · obtain rfl : m = 0 := by omega
        by_cases hs : s = ⟨#[]⟩
        · subst hs
          have HN := Lib.hid (HI.out.next (.inr rfl))
          have hcv := conv_dig wr 0 48 rfl
          clear HI
          go_wp2_with fail
          go_roundw
          case rel => exact ⟨0, _, rfl, rfl, by omega, HN, hb.alloc hb.size _⟩
          case measure => simp [intOf, wm_add, wm_nil]
        · have hse : s.toList.isEmpty = false := by
            rw [Lib.toList_data]
            cases h : s.data.toList with
            | nil => exact absurd (ba_ext h) hs
            | cons a l => rfl
          have hR := HS.out
          rw [← HI.out.end_ hs] at hR
          have HR := Lib.hid hR
          clear hR hs HI
          go_wp2_with fail
          go_ret
          exact ⟨ret_str HR.out.symm, hb⟩
end Go.Proofs.YtpnojgaehafjdaaGreat
