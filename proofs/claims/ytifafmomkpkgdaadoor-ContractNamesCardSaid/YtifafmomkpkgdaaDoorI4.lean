/- I4: Ishort Idiv -/
import Derived.Test.YtifafmomkpkgdaaDoorI1
import Derived.RegionTactic
import Derived.BigRegion
import Derived.Test.YtifafmomkpkgdaaDoorZi
import Derived.OneCell
/- Walks: magnitudes: short, guess. -/

namespace Go.Proofs.YtifafmomkpkgdaaDoor
open Go.RowKit

theorem quo32' (r x d : Nat) (h : (r * 1000000000 + x) / d < 1000000000) : (((r : Int) * 1000000000 + (x : Int)) / (d : Int)) % 4294967296 = (((r * 1000000000 + x) / d : Nat) : Int) := by
  have e : ((r : Int) * 1000000000 + (x : Int)) = ((r * 1000000000 + x : Nat) : Int) := by simp
  rw [e, ← Int.natCast_ediv]
  generalize (r * 1000000000 + x) / d = q at *
  omega
/-- The quotient's digits in a new slice, and the rest. -/
def ShortRet (w : World) (n r : Nat) (e : Ending) (w' : World) : Prop := ∃ v, e = .returned (.tuple #[v, .int .u32 r]) ∧ Ow .u32 103 w' w.heap.size v (Z.dg 1000000000 n) ∧ Below w.heap.size w w'

set_option maxHeartbeats 800000 in
theorem short_any (v : Value) (xs : List Nat) (d : Nat) (w : World) (hS : SN .u32 w v xs) (hx : ∀ d ∈ xs, d < 1000000000) (hl : xs.length ≤ 100000000) (hd0 : 0 < d) (hd1 : d < 1000000000) :
    Calls Tryd.prog 119 #[v, .int .u32 d] w (ShortRet w (Z.ofDg 1000000000 xs / d) (Z.ofDg 1000000000 xs % d)) := by
  obtain ⟨A, c, rfl, hc, hm, hcell⟩ := hS
  go_enter Tryd.func119, Tryd.ntmps119
  go_wp2_with (at_make; refine mkN rfl _ _ _ rfl elem32 Tryd.underlying109 (by omega) w w.heap.size _ _ xs.length rfl rfl (by omega) (by omega) (by omega) (Nat.le_refl _) ?_; intro w1 hown1 hb1 hs1)
  go_loopw [6, 7] (fun ca i wr => ∃ (k r : Nat) (os : List Nat), k ≤ xs.length ∧ i = .int .i64 ((k : Int) - 1) ∧ ca = .int .u64 r ∧ r < d ∧ Ow .u32 103 wr w.heap.size (.slice (some ⟨w.heap.size, 0, none⟩) xs.length xs.length) os ∧ Below w.heap.size w wr ∧
      Hid (os.length = xs.length ∧ (∀ d ∈ os, d < 1000000000) ∧ Z.ofDg 1000000000 (xs.drop k) = Z.ofDg 1000000000 (os.drop k) * d + r)) (fun _ i _ => (intOf i + 1).toNat)
  case atStart => exact ⟨xs.length, 0, _, by omega, rfl, rfl, hd0, hown1, hb1, ⟨by simp, by simp, by rw [List.drop_of_length_le (Nat.le_refl _), List.drop_of_length_le (by simp)]; simp [Z.ofDg]⟩⟩
  case round =>
    obtain ⟨k, r, os, hk, rfl, rfl, hr, hown, hb, HI⟩ := hrel
    clear hown1 hb1 hs1
    by_cases h0 : 0 < k
    · obtain ⟨k, rfl⟩ : ∃ j, k = j + 1 := ⟨k - 1, by omega⟩
      obtain ⟨g, o, rfl, hg, hcl⟩ := hcell (by omega)
      obtain ⟨x, hxk⟩ : ∃ d, xs[k]? = some d := ⟨_, List.getElem?_eq_getElem (by omega)⟩
      have hr0 : wr.cell? ⟨g, o + k, none⟩ = some (.int .u32 (x : Int)) := (hb.cell (p := ⟨g, o + k, none⟩) hg).trans (hcl _ _ hxk)
      have hx1 : x < 1000000000 := hx x (List.mem_of_getElem? hxk)
      have HX := Lib.hid hxk
      obtain ⟨q, hq⟩ : ∃ q, os[k]? = some q := ⟨_, List.getElem?_eq_getElem (by rw [HI.out.1]; omega)⟩
      have hr2 : wr.cell? ⟨w.heap.size, k, none⟩ = some (.int .u32 (q : Int)) := hown.cellN HI.out.1 hq
      have hf2 : wr.frozen? ⟨w.heap.size, k, none⟩ = false := hown.freeN HI.out.1 _
      have hst := Z.short_step 1000000000 xs os k r d hd0 (by omega) HI.out.1 (by rw [Z.dAt_some hxk]; exact hx1) hr HI.out.2.2
      rw [Z.dAt_some hxk] at hst
      have HST := Lib.hid hst
      have hi : ((k + 1 : Nat) : Int) - 1 = (k : Int) := by omega
      have h1 : (k : Int) < xs.length := by omega
      have h3 : (0 : Int) ≤ (k : Int) := by omega
      have h4 : ¬ (d : Int) = 0 := by omega
      rw [hi]
      clear hcl hxk hcell hq hst hi
      go_wp2_with fail
      go_region
      go_wp2_with fail
      go_roundw
      case rel =>
        obtain ⟨e1, e2, e3⟩ := HST.out
        exact ⟨k, (r * 1000000000 + x) % d, os.set k ((r * 1000000000 + x) / d), by omega, rfl, ret_v (by simp), e3, (hown.storedN HI.out.1 _ _ _ (quo32' _ _ _ e2)).drewN 1, (hb.setCell (p := ⟨w.heap.size, k, none⟩) (Nat.le_refl _) _).drew, by simp [HI.out.1], Z.set_lt HI.out.2.1 e2, e1⟩
      case measure => simp [intOf]
    · obtain rfl : k = 0 := by omega
      go_wp2_with fail
      refine (trim_own _ os _ _ hown HI.out.2.1 (by rw [HI.out.1]; omega)).mono ?_
      rintro e w3 ⟨v3, rfl, hown3, rfl⟩
      go_wp2_with fail
      go_ret2
      have hv := Z.div_of _ d _ r hr (by simpa using HI.out.2.2)
      rw [hv.1, hv.2]
      exact ⟨v3, rfl, hown3, hb⟩

def GuessRet (w : World) (g : Nat) (e : Ending) (w' : World) : Prop := e = .returned (.int .u64 g) ∧ ∃ n, w' = w.drewN n

theorem bad_nat (q r : Int) (z v : Nat) (hq : 0 ≤ q) (hr : 0 ≤ r) (h : r * 1000000000 + v < q * (z : Int)) : r.toNat * 1000000000 + v < q.toNat * z := by
  obtain ⟨a, rfl⟩ := Int.eq_ofNat_of_zero_le hq
  obtain ⟨b, rfl⟩ := Int.eq_ofNat_of_zero_le hr
  simp only [Int.toNat_natCast]
  have e : ((a * z : Nat) : Int) = (a : Int) * z := by simp
  omega
theorem good_nat (q r : Int) (z v : Nat) (hq : 0 ≤ q) (hr : 0 ≤ r) (h : ¬ r * 1000000000 + v < q * (z : Int)) : q.toNat * z ≤ r.toNat * 1000000000 + v := by
  obtain ⟨a, rfl⟩ := Int.eq_ofNat_of_zero_le hq
  obtain ⟨b, rfl⟩ := Int.eq_ofNat_of_zero_le hr
  simp only [Int.toNat_natCast]
  have e : ((a * z : Nat) : Int) = (a : Int) * z := by simp
  omega
def GInv (t u v y z : Nat) (q r : Int) : Prop := q.toNat * y + r.toNat = t * 1000000000 + u ∧ Z.gs 1000000000 t u v y z ≤ q.toNat
theorem guess_low {t u v y z : Nat} {q r : Int} (hy : 0 < y) (hr : 0 ≤ r) (hq : 0 ≤ q) (h : GInv t u v y z q r) (hbad : 1000000000 ≤ q.toNat ∨ r.toNat * 1000000000 + v < q.toNat * z) : GInv t u v y z (q - 1) (r + y) ∧ 1 ≤ q := by
  obtain ⟨h1, h2⟩ := Z.gs_lower 1000000000 t u v y z q.toNat r.toNat hy (by omega) h.1 hbad h.2
  have e1 : (q - 1).toNat = q.toNat - 1 := by omega
  have e2 : (r + (y : Int)).toNat = r.toNat + y := by omega
  refine ⟨⟨?_, by rw [e1]; exact h1⟩, by omega⟩
  rw [e1, e2, ← h.1]
  obtain ⟨a, ha⟩ : ∃ a, q.toNat = a + 1 := ⟨q.toNat - 1, by omega⟩
  rw [ha, Nat.add_sub_cancel, Nat.add_mul, Nat.one_mul]
  omega
theorem guess_break {t u v y z : Nat} {q r : Int} (hy : 0 < y) (ht : t ≤ y) (hu : u < 1000000000) (hz : z < 1000000000) (hq : 0 ≤ q) (h : GInv t u v y z q r) (hbr : 1000000000 ≤ r) : q = (Z.gs 1000000000 t u v y z : Int) := by
  have hq1 : q.toNat < 1000000000 := by
    rcases Nat.lt_or_ge q.toNat 1000000000 with h1 | h1
    · exact h1
    · have h2 : 1000000000 * y ≤ q.toNat * y := Nat.mul_le_mul_right _ h1
      have h3 := h.1
      omega
  have h4 : q.toNat * z ≤ 1000000000 * 999999999 := Nat.mul_le_mul (by omega) (by omega)
  have := Z.gs_done 1000000000 t u v y z q.toNat r.toNat (by omega) hy h.1 hq1 (by omega) h.2
  omega
theorem guess_end {t u v y z : Nat} {q r : Int} (hy : 0 < y) (hq : 0 ≤ q) (h : GInv t u v y z q r) (h1 : q < 1000000000) (h2 : q.toNat * z ≤ r.toNat * 1000000000 + v) : q = (Z.gs 1000000000 t u v y z : Int) := by
  have := Z.gs_done 1000000000 t u v y z q.toNat r.toNat (by omega) hy h.1 (by omega) h2 h.2
  omega
theorem guess_start (t u v y z : Nat) (ht : t ≤ y) (hu : u < 1000000000) (hv : v < 1000000000) (hy : 0 < y) :
    ∃ Q R : Nat, (Q : Int) = ((t : Int) * 1000000000 + (u : Int)) / (y : Int) ∧ (R : Int) = ((t : Int) * 1000000000 + (u : Int)) % (y : Int) ∧ R < y ∧ Q < 2000000000 ∧ Q * y + R = t * 1000000000 + u ∧ Z.gs 1000000000 t u v y z ≤ Q := by
  have h1 : (t * 1000000000 + u) % y < y := Nat.mod_lt _ hy
  have h2 : (t * 1000000000 + u) / y < 2000000000 := by
    rw [Nat.div_lt_iff_lt_mul hy]
    omega
  have h3 := Nat.div_add_mod (t * 1000000000 + u) y
  have h4 := Z.gs_start 1000000000 t u v y z hy hv
  rw [Nat.mul_comm] at h3
  exact ⟨(t * 1000000000 + u) / y, (t * 1000000000 + u) % y, by simp, by simp, h1, h2, h3, h4⟩

set_option maxHeartbeats 800000 in
theorem guess_any (t u v y z : Nat) (w : World) (ht : t ≤ y) (hu : u < 1000000000) (hv : v < 1000000000) (hy : 0 < y) (hy1 : y < 1000000000) (hz : z < 1000000000) :
    Calls Tryd.prog 122 #[.int .u64 t, .int .u64 u, .int .u64 v, .int .u64 y, .int .u64 z] w (GuessRet w (Z.gs 1000000000 t u v y z)) := by
  have hy0 : ¬ (y : Int) = 0 := by omega
  go_enter Tryd.func122, Tryd.ntmps122
  go_upto_region 2 with fail
  go_cut [12, 13] (fun a b wr => ∃ (q r : Int) (n : Nat), a = .int .u64 q ∧ b = .int .u64 r ∧ wr = w.drewN n ∧ 0 ≤ r ∧ r < 1000000000 ∧ 0 ≤ q ∧ q ≤ 2000000000 ∧ Hid (GInv t u v y z q r))
  case first =>
    go_quiet (fail)
    go_wp2_with fail
    go_meet
    obtain ⟨Q, R, e1, e2, h1, h2, h3, h4⟩ := guess_start t u v y z ht hu hv hy
    exact ⟨Q, R, _, ret_v e1.symm, ret_v e2.symm, rfl, by omega, by omega, by omega, by omega, by unfold Hid GInv; rw [Int.toNat_natCast, Int.toNat_natCast]; exact ⟨h3, h4⟩⟩
  case rest =>
  obtain ⟨q0, r0, n0, rfl, rfl, rfl, hr0, hr0', hq0, hq0', HI0⟩ := hcut
  go_wp2_with fail
  go_loopw [12, 13] (fun a b wr => ∃ (q r : Int) (n : Nat), a = .int .u64 q ∧ b = .int .u64 r ∧ wr = w.drewN n ∧ 0 ≤ r ∧ r < 1000000000 ∧ 0 ≤ q ∧ q ≤ 2000000000 ∧ Hid (GInv t u v y z q r)) (fun a _ _ => (intOf a).toNat)
  case atStart => exact ⟨q0, r0, n0, rfl, rfl, rfl, hr0, hr0', hq0, hq0', HI0⟩
  case round =>
    clear HI0 hr0 hr0' hq0 hq0'
    obtain ⟨q, r, n, rfl, rfl, rfl, hr, hr', hq, hq', HI⟩ := hrel
    by_cases hqb : q < 1000000000
    · have hqz : q * (z : Int) ≤ 999999998000000001 := by
        have h1 := mul_bound q.toNat z (by omega) hz
        rwa [Int.toNat_of_nonneg hq] at h1
      have hqz' : 0 ≤ q * (z : Int) := Int.mul_nonneg hq (by omega)
      by_cases hbad : r * 1000000000 + v < q * (z : Int)
      · have hq0 : 1 ≤ q := by
          rcases Int.lt_or_le 0 q with h | h
          · omega
          · have : q = 0 := by omega
            rw [this, Int.zero_mul] at hbad
            omega
        have HB : Hid (GInv t u v y z (q - 1) (r + y)) := (guess_low hy hr hq HI.out (.inr (bad_nat q r z v hq hr hbad))).1
        go_wp2_with fail
        · go_ret
          exact ⟨ret_int (guess_break hy ht hu hz (by omega) HB.out (by assumption)), _, rfl⟩
        · go_roundw
          case rel => exact ⟨q - 1, r + y, n, rfl, rfl, rfl, by omega, by omega, by omega, by omega, HB⟩
          case measure => simp [intOf]; omega
      · have HB : Hid (q.toNat * z ≤ r.toNat * 1000000000 + v) := good_nat q r z v hq hr hbad
        go_wp2_with fail
        go_ret
        exact ⟨ret_int (guess_end hy hq HI.out hqb HB.out), _, rfl⟩
    · have HB : Hid (GInv t u v y z (q - 1) (r + y)) := (guess_low hy hr hq HI.out (.inl (by omega))).1
      go_wp2_with fail
      · go_ret
        exact ⟨ret_int (guess_break hy ht hu hz (by omega) HB.out (by assumption)), _, rfl⟩
      · go_roundw
        case rel => exact ⟨q - 1, r + y, n, rfl, rfl, rfl, by omega, by omega, by omega, by omega, HB⟩
        case measure => simp [intOf]; omega
end Go.Proofs.YtifafmomkpkgdaaDoor
/- Walks: magnitudes: divide. -/

namespace Go.Proofs.YtifafmomkpkgdaaDoor
open Go.RowKit

/-- trim, of whatever slice. -/
def TrimSN (w : World) (n : Nat) (e : Ending) (w' : World) : Prop := ∃ v, e = .returned v ∧ SN .u32 w v (Z.dg 1000000000 n) ∧ w = w'
theorem trim_sn (v : Value) (ms : List Nat) (w : World) (hS : SN .u32 w v ms) (hb : ∀ d ∈ ms, d < 1000000000) (hl : ms.length ≤ 1000000000) :
    Calls Tryd.prog 120 #[v] w (TrimSN w (Z.ofDg 1000000000 ms)) := by
  have hS' := hS
  obtain ⟨A, c, rfl, hc, hm, hcell⟩ := hS
  refine (trim_any _ _ ms _ hS' hl).mono ?_
  rintro e w' ⟨k, hk, rfl, ht, rfl⟩
  refine ⟨_, rfl, ?_, rfl⟩
  rw [← ht 1000000000 (by omega) hb]
  have hlen : (ms.take k).length = k := by rw [List.length_take]; omega
  refine ⟨A, c, by rw [hlen], by omega, hm, fun h0 => ?_⟩
  obtain ⟨b, o, hA, hlt, hc⟩ := hcell (by omega)
  refine ⟨b, o, hA, hlt, fun i d hd => hc i d ?_⟩
  rw [List.getElem?_take] at hd
  split at hd
  · exact hd
  · cases hd
/-- A new slice of one digit reads as it. -/
theorem sn_one (w : World) (d : Nat) (y : Int) (h : y = (d : Int)) (e : TypeId) : SN .u32 (w.alloc (.cells #[.int .u32 y] e)) (.slice (some ⟨w.heap.size, 0, none⟩) 1 1) [d] := by
  subst h
  refine ⟨_, 1, rfl, Nat.le_refl _, by simp [maxLen], fun _ => ⟨w.heap.size, 0, rfl, by simp, fun i x hi => ?_⟩⟩
  have hlt := (List.getElem?_eq_some_iff.1 hi).1
  simp at hlt
  subst hlt
  simp at hi
  subst hi
  simp

/-- The quotient and the rest, as slices that read as their digits. -/
def DivRet (w : World) (q r : Nat) (e : Ending) (w' : World) : Prop := ∃ v u, e = .returned (.tuple #[v, u]) ∧ SN .u32 w' v (Z.dg 1000000000 q) ∧ SN .u32 w' u (Z.dg 1000000000 r) ∧ Below w.heap.size w w'

set_option maxRecDepth 100000 in
set_option maxHeartbeats 800000 in
theorem divide_small (v u : Value) (xs ys : List Nat) (w : World) (hS : SN .u32 w v xs) (hT : SN .u32 w u ys) (hx : Z.Can 1000000000 xs) (hy : Z.Can 1000000000 ys)
    (hl : xs.length ≤ 10000000) (hl' : ys.length ≤ 10000000) (hlt : Z.ofDg 1000000000 xs < Z.ofDg 1000000000 ys) :
    Calls Tryd.prog 104 #[v, u] w (DivRet w (Z.ofDg 1000000000 xs / Z.ofDg 1000000000 ys) (Z.ofDg 1000000000 xs % Z.ofDg 1000000000 ys)) := by
  have C := compare_any v u 1000000000 (by omega) xs ys w hS hT hx hy (by omega) (by omega)
  rw [Z.cmp_lt hlt] at C
  have C' := Lib.hid C
  clear C
  obtain ⟨A, c, rfl, hc, hm, hcell⟩ := hS
  go_enter Tryd.func104, Tryd.ntmps104
  go_wp2_with fail
  refine C'.out.mono ?_
  rintro e w1 ⟨rfl, n, rfl⟩
  go_wp2_with fail
  go_ret2
  refine ⟨_, _, rfl, ?_, ?_, below_of_drewN _ _ _⟩
  · rw [Nat.div_eq_of_lt hlt]
    exact SN.nil_
  · rw [Nat.mod_eq_of_lt hlt, Z.dg_ofDg 1000000000 (by omega) xs hx]
    exact ⟨A, c, rfl, hc, hm, hcell⟩

set_option maxRecDepth 100000 in
set_option maxHeartbeats 800000 in
theorem divide_one (v u : Value) (xs : List Nat) (d : Nat) (w : World) (hS : SN .u32 w v xs) (hT : SN .u32 w u [d]) (hx : Z.Can 1000000000 xs) (hd0 : 0 < d) (hd1 : d < 1000000000)
    (hl : xs.length ≤ 10000000) (hge : d ≤ Z.ofDg 1000000000 xs) :
    Calls Tryd.prog 104 #[v, u] w (DivRet w (Z.ofDg 1000000000 xs / d) (Z.ofDg 1000000000 xs % d)) := by
  have hy : Z.Can 1000000000 [d] := ⟨by simp; exact hd1, by simp; omega⟩
  have hyv : Z.ofDg 1000000000 [d] = d := by simp [Z.ofDg]
  have C := compare_any v u 1000000000 (by omega) xs [d] w hS hT hx hy (by omega) (by simp)
  have hcmp : Z.cmp (Z.ofDg 1000000000 xs) (Z.ofDg 1000000000 [d]) = 0 ∨ Z.cmp (Z.ofDg 1000000000 xs) (Z.ofDg 1000000000 [d]) = 1 := by
    rw [hyv]
    rcases Nat.eq_or_lt_of_le hge with h | h
    · exact .inl (Z.cmp_eq h.symm)
    · exact .inr (Z.cmp_gt h)
  generalize Z.cmp (Z.ofDg 1000000000 xs) (Z.ofDg 1000000000 [d]) = cv at *
  have hcv : 0 ≤ cv := by omega
  have C' := Lib.hid C
  have HX := Lib.hid hx
  clear C hcmp hy hyv hge hx
  have hS' := hS
  obtain ⟨A', c', rfl, hc', hm', hcell'⟩ := hT
  obtain ⟨g, o, rfl, hg, hcl⟩ := hcell' (by simp)
  have hr := hcl 0 d rfl
  clear hcl hcell'
  simp only [List.length_singleton, Nat.add_zero] at *
  go_enter Tryd.func104, Tryd.ntmps104
  go_wp2_with fail
  refine C'.out.mono ?_
  rintro e w1 ⟨rfl, n, rfl⟩
  go_wp2_with fail
  refine (short_any v xs d _ (hS'.drewN n) HX.out.1 (by omega) hd0 hd1).mono ?_
  rintro e w2 ⟨v2, rfl, hown2, hb2⟩
  go_wp2_with fail
  refine (trim_sn _ [Z.ofDg 1000000000 xs % d] _ (sn_one _ _ _ rfl _) ?_ (by simp)).mono ?_
  · have := Nat.mod_lt (Z.ofDg 1000000000 xs) hd0
    simp; omega
  rintro e w3 ⟨v3, rfl, hs3, rfl⟩
  go_wp2_with fail
  go_ret2
  have e1 : Z.ofDg 1000000000 [Z.ofDg 1000000000 xs % d] = Z.ofDg 1000000000 xs % d := by simp [Z.ofDg]
  rw [e1] at hs3
  exact ⟨v2, v3, rfl, hown2.sn.below ((Below.refl _ _).alloc (Nat.le_refl _) _), hs3, ((below_of_drewN w n _).trans hb2).alloc hb2.size _⟩
end Go.Proofs.YtifafmomkpkgdaaDoor
