/- Walks: magnitudes: minus. -/
import Derived.Test.YthafdckomhdlbaaIadd
namespace Go.Proofs.Ythafdckomhdlbaa
open Go.RowKit

theorem Z.mem_snoc {P : Nat → Prop} {os : List Nat} {d : Nat} (h : ∀ x ∈ os, P x) (hd : P d) : ∀ x ∈ os ++ [d], P x := by
  intro x hx
  rcases List.mem_append.1 hx with hx | hx
  · exact h x hx
  · have : x = d := by simpa using hx
    rw [this]; exact hd

set_option maxHeartbeats 400000 in
theorem minus_any (v u : Value) (xs ys : List Nat) (w : World) (hS : SN .u32 w v xs) (hT : SN .u32 w u ys) (hx : Z.Can 1000000000 xs) (hy : Z.Can 1000000000 ys)
    (hl : xs.length ≤ 100000000) (hge : Z.ofDg 1000000000 ys ≤ Z.ofDg 1000000000 xs) :
    Calls Try.prog 67 #[v, u] w (MagRet w (Z.ofDg 1000000000 xs - Z.ofDg 1000000000 ys)) := by
  have hle : ys.length ≤ xs.length := by
    rcases Nat.lt_or_ge xs.length ys.length with h | h
    · have := Z.lt_of_shorter 1000000000 (by omega) xs ys hx hy h
      omega
    · exact h
  have HG := Lib.hid hge
  clear hge
  obtain ⟨A, c, rfl, hc, hm, hcell⟩ := hS
  obtain ⟨A', c', rfl, hc', hm', hcell'⟩ := hT
  go_enter Try.func67, Try.ntmps67
  go_wp2_with (at_make; refine mk0 rfl _ _ _ rfl elem32 Try.underlying89 (by omega) w w.heap.size _ xs.length rfl rfl (by omega) (by omega) (Nat.le_refl _) ?_; intro w1 hown1 hb1 hs1)
  go_loopw [5, 6, 15] (fun out ca i wr => ∃ (k cy : Nat) (os : List Nat), k ≤ xs.length ∧ i = .int .i64 k ∧ ca = .int .u32 cy ∧ cy ≤ 1 ∧ Ow .u32 98 wr w.heap.size out os ∧ Below w.heap.size w wr ∧
      Hid (os.length = k ∧ (∀ d ∈ os, d < 1000000000) ∧ Z.ofDg 1000000000 os + Z.ofDg 1000000000 (ys.take k) = Z.ofDg 1000000000 (xs.take k) + 1000000000 ^ k * cy)) (fun _ _ i _ => xs.length - (intOf i).toNat)
  case atStart => exact ⟨0, 0, [], by omega, rfl, rfl, by omega, hown1, hb1, ⟨rfl, by simp, by simp [Z.ofDg]⟩⟩
  case round =>
    obtain ⟨k, cy, os, hk, rfl, rfl, hcy, hown, hb, HI⟩ := hrel
    clear hown1 hb1
    have hos : os.length ≤ k := by rw [HI.out.1]; omega
    by_cases hlt : k < xs.length
    · obtain ⟨g, o, rfl, hg, hcl⟩ := hcell (by omega)
      obtain ⟨d, hd⟩ : ∃ d, xs[k]? = some d := ⟨_, List.getElem?_eq_getElem (by omega)⟩
      have hr0 : wr.cell? ⟨g, o + k, none⟩ = some (.int .u32 (d : Int)) := (hb.cell (p := ⟨g, o + k, none⟩) hg).trans (hcl _ _ hd)
      have hd1 : d < 1000000000 := hx.1 d (List.mem_of_getElem? hd)
      have HD := Lib.hid hd
      clear hcl hd hcell
      by_cases hlt' : k < ys.length
      · obtain ⟨g', o', rfl, hg', hcl'⟩ := hcell' (by omega)
        obtain ⟨d', hd'⟩ : ∃ d, ys[k]? = some d := ⟨_, List.getElem?_eq_getElem (by omega)⟩
        have hr1 : wr.cell? ⟨g', o' + k, none⟩ = some (.int .u32 (d' : Int)) := (hb.cell (p := ⟨g', o' + k, none⟩) hg').trans (hcl' _ _ hd')
        have hd1' : d' < 1000000000 := hy.1 d' (List.mem_of_getElem? hd')
        have HD' := Lib.hid hd'
        clear hcl' hd' hcell'
        by_cases hlow : d < cy + d'
        · go_wp2_with (at_builtin; refine app1 rfl _ _ _ rfl elem32 Try.underlying89 (by omega) wr w.heap.size u5 os _ (d + 1000000000 - (cy + d')) (by omega) rfl hown rfl (by omega) hb.size ?_; intro v2 w2 hown2 hb2 hs2)
          go_roundw
          case rel =>
            exact ⟨k + 1, 1, _, by omega, by go_num, rfl, by omega, hown2, hb.trans hb2, by simp [HI.out.1], Z.mem_snoc HI.out.2.1 (by omega),
              Z.minus_step 1000000000 xs ys os k cy _ 1 HI.out.1 HI.out.2.2 (by rw [Z.dAt_some HD.out, Z.dAt_some HD'.out]; omega)⟩
          case measure => simp [intOf]; omega
        · go_wp2_with (at_builtin; refine app1 rfl _ _ _ rfl elem32 Try.underlying89 (by omega) wr w.heap.size u5 os _ (d - (cy + d')) (by omega) rfl hown rfl (by omega) hb.size ?_; intro v2 w2 hown2 hb2 hs2)
          go_roundw
          case rel =>
            exact ⟨k + 1, 0, _, by omega, by go_num, rfl, by omega, hown2, hb.trans hb2, by simp [HI.out.1], Z.mem_snoc HI.out.2.1 (by omega),
              Z.minus_step 1000000000 xs ys os k cy _ 0 HI.out.1 HI.out.2.2 (by rw [Z.dAt_some HD.out, Z.dAt_some HD'.out]; omega)⟩
          case measure => simp [intOf]; omega
      · have HD' : Hid (Z.dAt ys k = 0) := Z.dAt_none (by omega)
        by_cases hlow : d < cy
        · go_wp2_with (at_builtin; refine app1 rfl _ _ _ rfl elem32 Try.underlying89 (by omega) wr w.heap.size u5 os _ (d + 1000000000 - cy) (by omega) rfl hown rfl (by omega) hb.size ?_; intro v2 w2 hown2 hb2 hs2)
          go_roundw
          case rel =>
            exact ⟨k + 1, 1, _, by omega, by go_num, rfl, by omega, hown2, hb.trans hb2, by simp [HI.out.1], Z.mem_snoc HI.out.2.1 (by omega),
              Z.minus_step 1000000000 xs ys os k cy _ 1 HI.out.1 HI.out.2.2 (by rw [Z.dAt_some HD.out, HD'.out]; omega)⟩
          case measure => simp [intOf]; omega
        · go_wp2_with (at_builtin; refine app1 rfl _ _ _ rfl elem32 Try.underlying89 (by omega) wr w.heap.size u5 os _ (d - cy) (by omega) rfl hown rfl (by omega) hb.size ?_; intro v2 w2 hown2 hb2 hs2)
          go_roundw
          case rel =>
            exact ⟨k + 1, 0, _, by omega, by go_num, rfl, by omega, hown2, hb.trans hb2, by simp [HI.out.1], Z.mem_snoc HI.out.2.1 (by omega),
              Z.minus_step 1000000000 xs ys os k cy _ 0 HI.out.1 HI.out.2.2 (by rw [Z.dAt_some HD.out, HD'.out]; omega)⟩
          case measure => simp [intOf]; omega
    · obtain rfl : k = xs.length := by omega
      go_wp2_with fail
      refine (trim_own _ _ _ _ hown HI.out.2.1 (by omega)).mono ?_
      rintro e w3 ⟨v3, rfl, hown3, rfl⟩
      go_wp2_with fail
      go_ret
      refine ⟨v3, rfl, ?_, hb⟩
      rw [← Z.minus_end 1000000000 (by omega) xs ys os cy HI.out.2.1 HI.out.1 HG.out hle HI.out.2.2]
      exact hown3
end Go.Proofs.Ythafdckomhdlbaa
