/- Walks: magnitudes: trim, compare. -/
import Derived.Test.YthafdckomhdlbaaProg
import Derived.Test.YthafdckomhdlbaaZcmp
import Derived.Test.YthafdckomhdlbaaMem
import Derived.WalkLawsBesides
import Derived.Deep.DeepCutAuto
import Derived.Deep.QuietTactic
import Derived.BigQuiet
namespace Go.Proofs.Ythafdckomhdlbaa
open Go.RowKit

theorem ret_slice {A A' : Option Addr} {n n' c c' : Nat} (h : n = n') (ha : A = A') (hc : c = c') : Ending.returned (.slice A n c) = .returned (.slice A' n' c') := by rw [h, ha, hc]

/-- What trim returns: the same slice, shorter: the digits of the number. -/
def TrimRet (w : World) (A : Option Addr) (c : Nat) (ms : List Nat) (e : Ending) (w' : World) : Prop :=
  ∃ k, k ≤ ms.length ∧ e = .returned (.slice A k c) ∧ (∀ b, 2 ≤ b → (∀ d ∈ ms, d < b) → ms.take k = Z.dg b (Z.ofDg b ms)) ∧ w = w'
def lenOf : Value → Nat | .slice _ k _ => k | _ => 0

set_option maxHeartbeats 400000 in
theorem trim_any (A : Option Addr) (c : Nat) (ms : List Nat) (w : World) (hS : SN .u32 w (.slice A ms.length c) ms) (hl : ms.length ≤ 1000000000) :
    Calls Try.prog 84 #[.slice A ms.length c] w (TrimRet w A c ms) := by
  obtain ⟨A', c', hv, hc, hm, hcell⟩ := hS
  simp only [Value.slice.injEq, true_and] at hv
  obtain ⟨rfl, rfl⟩ := hv
  go_enter Try.func84, Try.ntmps84
  go_wp2_with fail
  go_loop [0] (fun v => ∃ k : Nat, k ≤ ms.length ∧ v = .slice A k c ∧ ∀ i, k ≤ i → i < ms.length → ms[i]? = some 0) (fun v => lenOf v)
  case atStart => exact ⟨_, Nat.le_refl _, rfl, fun i h1 h2 => by omega⟩
  case round =>
    obtain ⟨k, hk, rfl, ht⟩ := hrel
    have HT := Lib.hid ht
    clear ht
    by_cases h0 : 0 < k
    · obtain ⟨b, o, rfl, hb, hcl⟩ := hcell (by omega)
      obtain ⟨d, hd⟩ : ∃ d, ms[k - 1]? = some d := ⟨_, List.getElem?_eq_getElem (by omega)⟩
      have hc0 := hcl _ _ hd
      have HD := Lib.hid hd
      clear hcl hd
      go_wp2_with fail
      · go_round
        case rel =>
          have h1 : ((d : Int) == 0) = true := by assumption
          have h2 : d = 0 := by simpa using h1
          refine ⟨k - 1, by omega, rfl, fun i hi hlt => ?_⟩
          by_cases e : i = k - 1
          · subst e; rw [HD.out, h2]
          · exact HT.out i (by omega) hlt
        case measure => simp [lenOf]; omega
      · go_ret
        have h1 : ((d : Int) == 0) = false := by assumption
        have h2 : d ≠ 0 := by simpa using h1
        exact ⟨k, hk, ret_slice rfl rfl rfl, fun b hb hlt => Z.trim_is b hb ms hlt k hk HT.out (.inr (by rw [HD.out]; simpa using h2)), rfl⟩
    · obtain rfl : k = 0 := by omega
      go_wp2_with fail
      go_ret
      exact ⟨0, hk, ret_slice rfl rfl rfl, fun b hb hlt => Z.trim_is b hb ms hlt 0 hk HT.out (.inl rfl), rfl⟩

theorem drew3 (w : World) (a b c : Nat) : ∃ m, ((w.drewN a).drewN b).drewN c = w.drewN m := ⟨a + b + c, by simp only [World.drewN_drewN]⟩
def CmpRet (w : World) (c : Int) (e : Ending) (w' : World) : Prop := e = .returned (.int .i64 c) ∧ ∃ n, w' = w.drewN n

set_option maxHeartbeats 400000 in
theorem compare_any (v u : Value) (b : Nat) (hb2 : 2 ≤ b) (xs ys : List Nat) (w : World) (hS : SN .u32 w v xs) (hT : SN .u32 w u ys) (hx : Z.Can b xs) (hy : Z.Can b ys)
    (hl : xs.length ≤ 1000000000) (hl' : ys.length ≤ 1000000000) :
    Calls Try.prog 81 #[v, u] w (CmpRet w (Z.cmp (Z.ofDg b xs) (Z.ofDg b ys))) := by
  obtain ⟨A, c, rfl, hc, hm, hcell⟩ := hS
  obtain ⟨A', c', rfl, hc', hm', hcell'⟩ := hT
  by_cases hlen : xs.length = ys.length
  · have hne : ((xs.length : Int) != ys.length) = false := by simp [hlen]
    have HL := Lib.hid hlen
    have hle : xs.length ≤ ys.length := by omega
    have hge : ys.length ≤ xs.length := by omega
    clear hlen
    go_enter Try.func81, Try.ntmps81
    go_wp2_with fail
    go_loopw [5] (fun i wr => ∃ k n : Nat, k ≤ xs.length ∧ i = .int .i64 ((k : Int) - 1) ∧ wr = w.drewN n ∧ Hid (Z.ofDg b (xs.drop k) = Z.ofDg b (ys.drop k))) (fun i _ => (intOf i + 1).toNat)
    case atStart => exact ⟨xs.length, 0, Nat.le_refl _, rfl, rfl, by show _ = _; rw [List.drop_of_length_le (Nat.le_refl _), List.drop_of_length_le (by omega)]⟩
    case round =>
      obtain ⟨k, n, hk, rfl, rfl, HV⟩ := hrel
      by_cases h0 : 0 < k
      · obtain ⟨k, rfl⟩ : ∃ j, k = j + 1 := ⟨k - 1, by omega⟩
        obtain ⟨g, o, rfl, hb, hcl⟩ := hcell (by omega)
        obtain ⟨g', o', rfl, hb', hcl'⟩ := hcell' (by omega)
        obtain ⟨d, hd⟩ : ∃ d, xs[k]? = some d := ⟨_, List.getElem?_eq_getElem (by omega)⟩
        obtain ⟨d', hd'⟩ : ∃ d, ys[k]? = some d := ⟨_, List.getElem?_eq_getElem (by omega)⟩
        have hc0 := hcl _ _ hd
        have hc1 := hcl' _ _ hd'
        have HD := Lib.hid hd
        have HD' := Lib.hid hd'
        have hi : ((k + 1 : Nat) : Int) - 1 = (k : Int) := by omega
        have h1 : (k : Int) < xs.length := by omega
        have h2 : (k : Int) < ys.length := by omega
        have h3 : (0 : Int) ≤ (k : Int) := by omega
        rw [hi]
        clear hcl hcl' hd hd' hi
        go_wp2_with fail
        go_quiet (fail)
        go_wp2_with fail
        · have h4 : ((d : Int) != d') = true := by assumption
          have h5 : d ≠ d' := by have := ne_of_bne h4; omega
          go_quiet (fail)
          go_wp2_with fail
          · go_ret
            have h6 : d < d' := by assumption
            refine ⟨ret_int ?_, drew3 _ _ _ _⟩
            rw [Z.cmp_lt (Z.lt_of_digit b (by omega) xs ys hx.1 k HV.out (by rw [Z.dAt_some HD.out, Z.dAt_some HD'.out]; omega))]
          · go_ret
            have h6 : ¬ d < d' := by assumption
            refine ⟨ret_int ?_, drew3 _ _ _ _⟩
            rw [Z.cmp_gt (Z.lt_of_digit b (by omega) ys xs hy.1 k HV.out.symm (by rw [Z.dAt_some HD.out, Z.dAt_some HD'.out]; omega))]
        · have h4 : ((d : Int) != d') = false := by assumption
          have h5 : d = d' := by have := eq_of_bne h4; omega
          go_roundw
          case rel => exact ⟨k, _, by omega, rfl, rfl, Z.eq_step b xs ys k HV.out (by rw [Z.dAt_some HD.out, Z.dAt_some HD'.out, h5])⟩
          case measure => simp [intOf]
      · obtain rfl : k = 0 := by omega
        go_wp2_with fail
        go_ret
        exact ⟨ret_int (Z.cmp_eq (by simpa using HV.out)).symm, _, rfl⟩
  · have hne : ((xs.length : Int) != ys.length) = true := by simp; omega
    go_enter Try.func81, Try.ntmps81
    go_wp2_with fail
    all_goals
      go_ret
      refine ⟨ret_int ?_, 0, rfl⟩
      rcases Nat.lt_or_ge xs.length ys.length with h | h
      · rw [Z.cmp_lt (Z.lt_of_shorter b hb2 xs ys hx hy h)]
        try omega
      · rw [Z.cmp_gt (Z.lt_of_shorter b hb2 ys xs hy hx (by omega))]
        try omega
end Go.Proofs.Ythafdckomhdlbaa
