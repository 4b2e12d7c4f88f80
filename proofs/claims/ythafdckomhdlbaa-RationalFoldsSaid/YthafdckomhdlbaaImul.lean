/- Walks: magnitudes: times. -/
import Derived.Test.YthafdckomhdlbaaIsub
import Derived.Test.YthafdckomhdlbaaZmul
namespace Go.Proofs.Ythafdckomhdlbaa
open Go.RowKit

theorem mul_bound (a b : Nat) (ha : a < 1000000000) (hb : b < 1000000000) : (a : Int) * (b : Int) ≤ 999999998000000001 := by
  have h : a * b ≤ 999999999 * 999999999 := Nat.mul_le_mul (by omega) (by omega)
  have e : ((a * b : Nat) : Int) = (a : Int) * b := by simp
  omega
theorem mul_pos' (a b : Nat) : (0 : Int) ≤ (a : Int) * (b : Int) := by
  have e : ((a * b : Nat) : Int) = (a : Int) * b := by simp
  omega

set_option maxHeartbeats 800000 in
theorem times_any (v u : Value) (xs ys : List Nat) (w : World) (hS : SN .u32 w v xs) (hT : SN .u32 w u ys) (hx : ∀ d ∈ xs, d < 1000000000) (hy : ∀ d ∈ ys, d < 1000000000)
    (hl : xs.length ≤ 100000000) (hl' : ys.length ≤ 100000000) :
    Calls Try.prog 76 #[v, u] w (MagRet w (Z.ofDg 1000000000 xs * Z.ofDg 1000000000 ys)) := by
  obtain ⟨A, c, rfl, hc, hm, hcell⟩ := hS
  obtain ⟨A', c', rfl, hc', hm', hcell'⟩ := hT
  go_enter Try.func76, Try.ntmps76
  go_wp2_with (at_make; refine mkN rfl _ _ _ rfl elem32 Try.underlying89 (by omega) w w.heap.size _ _ (xs.length + ys.length) rfl rfl (by omega) (by omega) (by omega) (Nat.le_refl _) ?_; intro w1 hown1 hb1 hs1)
  go_loopw [20] (fun i wr => ∃ (k : Nat) (os : List Nat), k ≤ xs.length ∧ i = .int .i64 k ∧ Ow .u32 98 wr w.heap.size (.slice (some ⟨w.heap.size, 0, none⟩) (xs.length + ys.length) (xs.length + ys.length)) os ∧ Below w.heap.size w wr ∧
      Hid (os.length = xs.length + ys.length ∧ (∀ d ∈ os, d < 1000000000) ∧ (∀ t, k + ys.length ≤ t → Z.dAt os t = 0) ∧ Z.ofDg 1000000000 os = Z.ofDg 1000000000 (xs.take k) * Z.ofDg 1000000000 ys)) (fun i _ => xs.length - (intOf i).toNat)
  case atStart => exact ⟨0, _, by omega, rfl, hown1, hb1, ⟨by simp, by simp, fun t _ => Z.dAt_replicate _ _, by rw [Z.ofDg_replicate]; simp [Z.ofDg]⟩⟩
  case round =>
    obtain ⟨k, os, hk, rfl, hown, hb, HI⟩ := hrel
    clear hown1 hb1 hs1
    obtain ⟨wo, rfl⟩ : ∃ wo : World, wo = wr := ⟨_, rfl⟩
    by_cases hlt : k < xs.length
    · obtain ⟨g, o, rfl, hg, hcl⟩ := hcell (by omega)
      obtain ⟨d, hd⟩ : ∃ d, xs[k]? = some d := ⟨_, List.getElem?_eq_getElem (by omega)⟩
      have hr0 : wo.cell? ⟨g, o + k, none⟩ = some (.int .u32 (d : Int)) := (hb.cell (p := ⟨g, o + k, none⟩) hg).trans (hcl _ _ hd)
      have hd1 : d < 1000000000 := hx d (List.mem_of_getElem? hd)
      have HD := Lib.hid hd
      clear hcl hd hcell
      go_wp2_with fail
      go_loopw [27, 8] (fun i ca wr => ∃ (j cy : Nat) (os : List Nat), j ≤ ys.length ∧ i = .int .i64 j ∧ ca = .int .u64 cy ∧ cy < 1000000000 ∧ Ow .u32 98 wr w.heap.size (.slice (some ⟨w.heap.size, 0, none⟩) (xs.length + ys.length) (xs.length + ys.length)) os ∧ Below w.heap.size w wr ∧
        Hid (os.length = xs.length + ys.length ∧ (∀ d ∈ os, d < 1000000000) ∧ (∀ t, k + ys.length ≤ t → Z.dAt os t = 0) ∧ Z.ofDg 1000000000 os + 1000000000 ^ (k + j) * cy = Z.ofDg 1000000000 (xs.take k) * Z.ofDg 1000000000 ys + 1000000000 ^ k * (d * Z.ofDg 1000000000 (ys.take j)))) (fun i _ _ => ys.length - (intOf i).toNat)
      case atStart => exact ⟨0, 0, os, by omega, rfl, rfl, by omega, hown, hb, ⟨HI.out.1, HI.out.2.1, HI.out.2.2.1, by rw [HI.out.2.2.2]; simp [Z.ofDg]⟩⟩
      case round =>
        obtain ⟨j, cy, os', hj, rfl, rfl, hcy, hown', hb', HJ⟩ := hrel
        clear hown hb hr0
        by_cases hlt' : j < ys.length
        · obtain ⟨g', o', rfl, hg', hcl'⟩ := hcell' (by omega)
          obtain ⟨d', hd'⟩ : ∃ d, ys[j]? = some d := ⟨_, List.getElem?_eq_getElem (by omega)⟩
          have hr1 : wr.cell? ⟨g', o' + j, none⟩ = some (.int .u32 (d' : Int)) := (hb'.cell (p := ⟨g', o' + j, none⟩) hg').trans (hcl' _ _ hd')
          have hd1' : d' < 1000000000 := hy d' (List.mem_of_getElem? hd')
          have HD' := Lib.hid hd'
          obtain ⟨q, hq⟩ : ∃ q, os'[k + j]? = some q := ⟨_, List.getElem?_eq_getElem (by rw [HJ.out.1]; omega)⟩
          have hr2 : wr.cell? ⟨w.heap.size, k + j, none⟩ = some (.int .u32 (q : Int)) := hown'.cellN HJ.out.1 hq
          have hf2 : wr.frozen? ⟨w.heap.size, k + j, none⟩ = false := hown'.freeN HJ.out.1 _
          have hq1 : q < 1000000000 := HJ.out.2.1 q (List.mem_of_getElem? hq)
          have HQ := Lib.hid hq
          have hm1 := mul_bound d d' hd1 hd1'
          have hm2 := mul_pos' d d'
          clear hcl' hd' hcell' hq
          go_wp2_with fail
          go_roundw
          case rel =>
            have hst := Z.times_inner 1000000000 (by omega) ys os' (Z.ofDg 1000000000 (xs.take k) * Z.ofDg 1000000000 ys) d k j cy hd1 hy HJ.out.2.1 hcy (by rw [HJ.out.1]; omega) HJ.out.2.2.2
            rw [Z.dAt_some HD'.out, Z.dAt_some HQ.out] at hst
            refine ⟨j + 1, (d * d' + q + cy) / 1000000000, os'.set (k + j) ((d * d' + q + cy) % 1000000000), by omega, by go_num, ret_v (by simp), hst.1, hown'.storedN HJ.out.1 _ _ _ (by simp), hb'.setCell (p := ⟨w.heap.size, k + j, none⟩) (Nat.le_refl _) _, by simp [HJ.out.1], Z.set_lt HJ.out.2.1 (by omega), ?_, hst.2⟩
            intro t ht
            rw [Z.dAt_set _ _ _ _ (by rw [HJ.out.1]; omega), if_neg (by omega)]
            exact HJ.out.2.2.1 t ht
          case measure => simp [intOf]; omega
        · obtain rfl : j = ys.length := by omega
          have hz : os'[k + ys.length]? = some 0 := by
            rw [Z.dAt_eq (by rw [HJ.out.1]; omega), HJ.out.2.2.1 _ (Nat.le_refl _)]
          have hr2 : wr.cell? ⟨w.heap.size, k + ys.length, none⟩ = some (.int .u32 0) := hown'.cellN HJ.out.1 hz
          have hf2 : wr.frozen? ⟨w.heap.size, k + ys.length, none⟩ = false := hown'.freeN HJ.out.1 _
          have HZ := Lib.hid hz
          clear hz
          go_wp2_with fail
          go_roundw
          case rel =>
            have hst := Z.times_outer 1000000000 xs ys os' k cy (by rw [HJ.out.1]; omega) (Z.dAt_some HZ.out) (by rw [Z.dAt_some HD.out]; exact HJ.out.2.2.2)
            refine ⟨k + 1, os'.set (k + ys.length) cy, by omega, by go_num, hown'.storedN HJ.out.1 _ _ _ rfl, hb'.setCell (p := ⟨w.heap.size, k + ys.length, none⟩) (Nat.le_refl _) _, by simp [HJ.out.1], Z.set_lt HJ.out.2.1 hcy, ?_, hst⟩
            intro t ht
            rw [Z.dAt_set _ _ _ _ (by rw [HJ.out.1]; omega), if_neg (by omega)]
            exact HJ.out.2.2.1 t (by omega)
          case measure => simp [intOf]; omega
    · obtain rfl : k = xs.length := by omega
      go_wp2_with fail
      refine (trim_own _ os _ _ hown HI.out.2.1 (by rw [HI.out.1]; omega)).mono ?_
      rintro e w3 ⟨v3, rfl, hown3, rfl⟩
      go_wp2_with fail
      go_ret
      refine ⟨v3, rfl, ?_, hb⟩
      have hv := HI.out.2.2.2
      rw [List.take_of_length_le (Nat.le_refl _)] at hv
      rw [← hv]
      exact hown3
end Go.Proofs.Ythafdckomhdlbaa
