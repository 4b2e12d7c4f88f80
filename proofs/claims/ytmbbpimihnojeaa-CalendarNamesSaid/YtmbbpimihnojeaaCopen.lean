/- Walks: calendar.open and what it hands back. -/
import Derived.Test.YtmbbpimihnojeaaCmem
import Derived.Test.YtmbbpimihnojeaaShelf
namespace Go.Proofs.Ytmbbpimihnojeaa
open Go.RowKit

theorem and_one_u8 : ∀ n : Nat, n < 256 → bits BinOp.and IntKind.u8 (n : Int) 1 = (n : Int) % 2 := by decide +kernel
theorem shr_one (wk : Int) (k : Nat) (h0 : 0 ≤ wk) (h1 : wk ≤ 255) : bits BinOp.and IntKind.u8 (wk / 2 ^ k) 1 = wk / 2 ^ k % 2 := by
  have h2 : 0 ≤ wk / 2 ^ k := Int.ediv_nonneg h0 (Int.le_of_lt (Int.pow_pos (by omega)))
  have h3 : wk / 2 ^ k ≤ wk := Int.ediv_le_self _ h0
  have := and_one_u8 (wk / 2 ^ k).toNat (by omega)
  rwa [Int.toNat_of_nonneg h2] at this
theorem open_any (wk : Int) (v : Value) (w : World) :
    Calls Try.prog 38 #[.agg #[.int .u8 wk, v]] w fun e w' => e = .returned (.func (.func 48) #[] #[.pointer (some ⟨w.heap.size, 0, none⟩)]) ∧ w' = w.alloc (.cells #[.int .u8 wk, v] 24) := by
  have hmf : ∀ (fn : Fn) (first cap : Array Value) (w : World), (Instr.makeFunc fn first cap).run Try.prog w = .ok (.func fn first cap) w := fun _ _ _ _ => rfl
  go_enter Try.func38, Try.ntmps38
  go_wp2_with fail
  go_ret
  exact ⟨rfl, rfl⟩
theorem search_any (v : Value) (hs : List Int) (x : Int) (w : World) (hSI : SI w v hs) (hl : (hs.length : Int) ≤ 1000) (ha : Z.asc none hs = true) :
    Calls Try.prog 49 #[v, .int .i64 x] w fun e w' => ∃ n : Int, e = .returned (.tuple #[.int .i64 n, .bool (hs.contains x)]) ∧ ∃ q, w' = w.drewN q := by
  obtain ⟨A, c, rfl, hlc, hcm, hcell⟩ := hSI
  by_cases h0 : 0 < hs.length
  · obtain ⟨b, o, rfl, hlt, hc⟩ := hcell h0
    refine (Try.slices_BinarySearch_int b o hs.length c hs x w (Nat.le_refl _) (by omega) (fun j hj => ?_) ?_).mono ?_
    · rw [hc j hs[j] (List.getElem?_eq_getElem hj)]
      simp [List.getD_eq_getElem?_getD, List.getElem?_eq_getElem hj]
    · rw [List.take_length]
      exact (Z.asc_facts hs none ha).2.imp (fun h => Int.le_of_lt h)
    · rintro e w' ⟨rfl, hq⟩
      rw [List.take_length]
      exact ⟨_, rfl, hq⟩
  · obtain rfl : hs = [] := List.eq_nil_of_length_eq_zero (by omega)
    refine (Try.slices_BinarySearch_int_empty A c x w).mono ?_
    rintro e w' ⟨rfl, rfl⟩
    exact ⟨_, rfl, 0, rfl⟩
set_option maxHeartbeats 400000 in
theorem open1_any (wk : Int) (v : Value) (hs : List Int) (day : Int) (Bc : Nat) (w : World) (hB : Blk w Bc 24 #[.int .u8 wk, v]) (hSI : SI w v hs) (hk : Z.calB wk hs = true) (hk0 : 0 ≤ wk) (hd : 0 ≤ day) (hd2 : day ≤ 99999) :
    Calls Try.prog 48 #[.int .i64 day, .pointer (some ⟨Bc, 0, none⟩)] w fun e w' => e = .returned (.bool (Z.opn wk hs day)) ∧ ∃ q, w' = w.drewN q := by
  have hk1 : wk ≤ 126 ∧ (hs.length : Int) ≤ 1000 ∧ Z.asc none hs = true := by
    unfold Z.calB at hk; simpa [and_assoc] using hk
  obtain ⟨hk1, hl, ha⟩ := hk1
  have hc0 := hB.cell 0
  have hc1 := hB.cell 1
  go_enter Try.func48, Try.ntmps48
  go_wp2_with fail
  refine (search_any v hs day _ hSI hl ha).mono ?_
  rintro e w' ⟨n, rfl, q, rfl⟩
  cases hc : hs.contains day
  · go_wp2_with fail
    go_ret
    refine ⟨ret_bool ?_, q, rfl⟩
    rw [shr_one _ _ hk0 (by omega)]
    unfold Z.opn
    rw [hc]; rfl
  · go_wp2_with fail
    go_ret
    exact ⟨ret_bool (by unfold Z.opn; rw [hc]; rfl), q, rfl⟩
end Go.Proofs.Ytmbbpimihnojeaa
