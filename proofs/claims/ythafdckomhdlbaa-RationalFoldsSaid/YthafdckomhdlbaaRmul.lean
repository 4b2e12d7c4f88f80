/- Walks: the reference: Times. -/
import Derived.Test.YthafdckomhdlbaaRmin
import Derived.Test.YthafdckomhdlbaaImul
import Derived.BigRegion
namespace Go.Proofs.Ythafdckomhdlbaa
open Go.RowKit

theorem dig_mul (a b : Nat) (ha : a < 10) (hb : b < 10) : (a : Int) * (b : Int) ≤ 81 := by
  have h : a * b ≤ 9 * 9 := Nat.mul_le_mul (by omega) (by omega)
  have e : ((a * b : Nat) : Int) = (a : Int) * b := by simp
  omega
set_option maxRecDepth 100000 in
set_option maxHeartbeats 2000000 in
theorem rtimes_any (v u : Value) (xs ys : List Nat) (w : World) (hS : SN .i64 w v xs) (hT : SN .i64 w u ys) (hx : ∀ d ∈ xs, d < 10) (hy : ∀ d ∈ ys, d < 10)
    (hl : xs.length ≤ 100000) (hl' : ys.length ≤ 100000) :
    Calls Try.prog 80 #[v, u] w (NumRet w (Z.ofDg 10 xs * Z.ofDg 10 ys) (xs.length + ys.length)) := by
  obtain ⟨A, c, rfl, hc, hm, hcell⟩ := hS
  obtain ⟨A', c', rfl, hc', hm', hcell'⟩ := hT
  have HX := Lib.hid hx
  have HY := Lib.hid hy
  clear hx hy
  unfold maxLen at hm hm'
  go_enter Try.func80, Try.ntmps80
  go_wp2_with (at_make; refine mkN rfl _ _ _ rfl elem64 Try.underlying65 (by omega) w w.heap.size _ _ (xs.length + ys.length) rfl rfl (by omega) (by omega) (by omega) (Nat.le_refl _) ?_; intro w1 hown1 hb1 hs1)
  go_loopw [6] (fun i wr => ∃ (k : Nat) (os : List Nat), k ≤ xs.length ∧ i = .int .i64 k ∧ Ow .i64 3 wr w.heap.size (.slice (some ⟨w.heap.size, 0, none⟩) (xs.length + ys.length) (xs.length + ys.length)) os ∧ Below w.heap.size w wr ∧
      Hid (Z.TInv 0 0 (xs.length + ys.length) k 0 xs ys os)) (fun i _ => xs.length - (intOf i).toNat)
  case atStart => exact ⟨0, _, by omega, rfl, hown1, hb1, Z.TInv.start⟩
  case round =>
    obtain ⟨k, os, hk, rfl, hown, hb, HI⟩ := hrel
    clear hown1 hb1 hs1
    obtain ⟨wo, rfl⟩ : ∃ wo : World, wo = wr := ⟨_, rfl⟩
    by_cases hlt : k < xs.length
    · obtain ⟨g, o, rfl, hg, hcl⟩ := hcell (by omega)
      have hc0 := hcl _ _ (Z.dAt_eq hlt)
      have b1 := Z.dAt_lt (b := 10) (by omega) HX.out k
      obtain ⟨d, hd⟩ : ∃ d, d = Z.dAt xs k := ⟨_, rfl⟩
      rw [← hd] at hc0 b1
      have HD := Lib.hid hd.symm
      clear hcell hcl hd
      go_wp2_with fail
      go_loopw [7] (fun i wr => ∃ (j : Nat) (os : List Nat), j ≤ ys.length ∧ i = .int .i64 j ∧ Ow .i64 3 wr w.heap.size (.slice (some ⟨w.heap.size, 0, none⟩) (xs.length + ys.length) (xs.length + ys.length)) os ∧ Below w.heap.size w wr ∧
        Hid (Z.TInv 0 0 (xs.length + ys.length) k j xs ys os)) (fun i _ => ys.length - (intOf i).toNat)
      case atStart => exact ⟨0, os, by omega, rfl, hown, hb, HI⟩
      case round =>
        obtain ⟨j, os', hj, rfl, hown', hb', HJ⟩ := hrel
        clear hown hb HI
        by_cases hlt' : j < ys.length
        · obtain ⟨g', o', rfl, hg', hcl'⟩ := hcell' (by omega)
          have hc1 := hcl' _ _ (Z.dAt_eq hlt')
          have b2 := Z.dAt_lt (b := 10) (by omega) HY.out j
          have hr0 : wr.cell? ⟨g, o + k, none⟩ = some (.int .i64 (d : Int)) := (hb'.cell (p := ⟨g, o + k, none⟩) hg).trans hc0
          have hr1 : wr.cell? ⟨g', o' + j, none⟩ = some (.int .i64 (Z.dAt ys j : Int)) := (hb'.cell (p := ⟨g', o' + j, none⟩) hg').trans hc1
          have hr2 : wr.cell? ⟨w.heap.size, k + j, none⟩ = some (.int .i64 (Z.dAt os' (k + j) : Int)) := hown'.cellN HJ.out.len (Z.dAt_eq (by rw [HJ.out.len]; omega))
          have hf2 : wr.frozen? ⟨w.heap.size, k + j, none⟩ = false := hown'.freeN HJ.out.len _
          have hqb := HJ.out.le (k + j)
          have HS := Lib.hid (HJ.out.step HX.out HY.out (by omega))
          rw [HD.out] at HS
          obtain ⟨d', hd'⟩ : ∃ d', d' = Z.dAt ys j := ⟨_, rfl⟩
          obtain ⟨q, hq⟩ : ∃ q, q = Z.dAt os' (k + j) := ⟨_, rfl⟩
          rw [← hd'] at hr1 b2 HS
          rw [← hq] at hr2 hqb HS
          have hm1 := dig_mul d d' b1 b2
          have hm2 := mul_pos' d d'
          have e1 : IntKind.i64.wrap ((k : Int) + j) = (k : Int) + j := IntWalk.i64_in _ (by omega)
          have e2 : ((k : Int) + j).toNat = k + j := by omega
          have e3 : (0 : Int) ≤ (k : Int) + j := by omega
          have e4 : (k : Int) + j < (xs.length : Int) + ys.length := by omega
          have e5 : IntKind.i64.wrap ((d : Int) * d') = (d : Int) * d' := IntWalk.i64_in _ (by omega)
          have e6 : IntKind.i64.wrap ((q : Int) + (d : Int) * d') = (q : Int) + (d : Int) * d' := IntWalk.i64_in _ (by omega)
          clear hcell' hcl' hc1 hd' hq
          go_wp2_with fail
          go_region
          clear e1 e2 e3 e4 e5 e6
          go_wp2_with fail
          go_roundw
          case rel => exact ⟨j + 1, os'.set (k + j) (q + d * d'), by omega, by go_num, hown'.storedN HJ.out.len _ _ _ (by simp), (hb'.setCell (p := ⟨w.heap.size, k + j, none⟩) (Nat.le_refl _) _).drew, HS⟩
          case measure => simp [intOf]; omega
        · obtain rfl : j = ys.length := by omega
          go_wp2_with fail
          go_roundw
          case rel => exact ⟨k + 1, os', by omega, by go_num, hown', hb', HJ.out.next⟩
          case measure => simp [intOf]; omega
    · obtain rfl : k = xs.length := by omega
      obtain ⟨hval, hle⟩ := HI.out.done
      have hN := Z.NInv.start HI.out.len hval hle
      have hVlt := Z.mul_lt_pow 10 (by omega) xs ys HX.out HY.out
      obtain ⟨M, hM⟩ : ∃ M, M = 81 * (xs.length + 1) := ⟨_, rfl⟩
      rw [← hM] at hN
      have hMb : M ≤ 9000000 := by omega
      have HN := Lib.hid hN
      have HV := Lib.hid hVlt
      have hLb : xs.length + ys.length ≤ 200000 := by omega
      clear hN hVlt hval hle hM HI hcell hcell'
      generalize xs.length + ys.length = L at *
      generalize Z.ofDg 10 xs * Z.ofDg 10 ys = V at *
      go_wp2_with fail
      obtain ⟨wz, rfl⟩ : ∃ wz : World, wz = wo := ⟨_, rfl⟩
      go_loopw [8] (fun iv wr => ∃ (k : Nat) (os : List Nat), (k + 1 ≤ L ∨ k = 0) ∧ iv = .int .i64 k ∧ Ow .i64 3 wr w.heap.size (.slice (some ⟨w.heap.size, 0, none⟩) L L) os ∧ Below w.heap.size w wr ∧ Hid (Z.NInv M L V k os)) (fun iv _ => L - (intOf iv).toNat)
      case atStart => exact ⟨0, os, .inr rfl, rfl, hown, hb, HN⟩
      case round =>
        clear hown hb HN
        obtain ⟨k, os, hk, rfl, hown, hb, HI⟩ := hrel
        by_cases hlt : k + 1 < L
        · have hr0 : wr.cell? ⟨w.heap.size, k, none⟩ = some (.int .i64 (Z.dAt os k : Int)) := hown.cellN HI.out.len (Z.dAt_eq (by rw [HI.out.len]; omega))
          have hr1 : wr.cell? ⟨w.heap.size, k + 1, none⟩ = some (.int .i64 (Z.dAt os (k + 1) : Int)) := hown.cellN HI.out.len (Z.dAt_eq (by rw [HI.out.len]; omega))
          have hf0 : wr.frozen? ⟨w.heap.size, k, none⟩ = false := hown.freeN HI.out.len _
          have hf1 : wr.frozen? ⟨w.heap.size, k + 1, none⟩ = false := hown.freeN HI.out.len _
          have hq0 := HI.out.cur
          have hq1 := HI.out.high (k + 1) (by omega)
          have HS := Lib.hid (HI.out.step hlt)
          have HQ0 := Lib.hid (Z.dAt_eq (l := os) (i := k) (by rw [HI.out.len]; omega))
          generalize Z.dAt os k = q0 at *
          generalize Z.dAt os (k + 1) = q1 at *
          have e1 : IntKind.i64.wrap ((k : Int) + 1) = (k : Int) + 1 := IntWalk.i64_in _ (by omega)
          have e2 : ((k : Int) + 1).toNat = k + 1 := by omega
          have e3 : (0 : Int) ≤ (k : Int) + 1 := by omega
          have e4 : (k : Int) + 1 < (L : Int) := by omega
          have e5 : IntKind.i64.wrap ((q0 : Int).tdiv 10) = ((q0 / 10 : Nat) : Int) := by rw [Int.tdiv_eq_ediv_of_nonneg (by omega), IntWalk.i64_in _ (by omega)]; omega
          have e6 : IntKind.i64.wrap ((q1 : Int) + ((q0 / 10 : Nat) : Int)) = ((q1 + q0 / 10 : Nat) : Int) := by rw [IntWalk.i64_in _ (by omega)]; omega
          go_wp2_with fail
          go_region
          clear e1 e2 e3 e4 e5 e6
          have hown2 := (hown.storedN HI.out.len (k + 1) ((q1 + q0 / 10 : Nat) : Int) _ rfl).drewN 1
          have hl2 : (os.set (k + 1) (q1 + q0 / 10)).length = L := by rw [List.length_set]; exact HI.out.len
          have hd2 : (os.set (k + 1) (q1 + q0 / 10))[k]? = some q0 := by rw [List.getElem?_set_ne (by omega), HQ0.out]
          have hr2 := hown2.cellN hl2 hd2
          have hf2 := hown2.freeN hl2 k
          go_wp2_with fail
          go_roundw
          case rel => exact ⟨k + 1, (os.set (k + 1) (q1 + q0 / 10)).set k (q0 % 10), .inl (by omega), by go_num, hown2.storedN hl2 k _ _ (by simp), ((hb.setCell (p := ⟨w.heap.size, k + 1, none⟩) (Nat.le_refl _) _).drew).setCell (p := ⟨w.heap.size, k, none⟩) (Nat.le_refl _) _, HS⟩
          case measure => simp [intOf]; omega
        · go_wp2_with fail
          go_ret
          exact ⟨_, os, rfl, hown, HI.out.done (by omega) HV.out, HI.out.val, by rw [HI.out.len]; exact Nat.le_refl _, hb⟩
end Go.Proofs.Ythafdckomhdlbaa
