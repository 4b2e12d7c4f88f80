/- Walk: the reference's GreatFlows; words for a loop that writes into an own row of claims. -/
import Derived.Test.YtdjghmpaopfboaaClsame
namespace Go.Proofs.Ytdjghmpaopfboaa
open Go.RowKit
namespace Z
def greatF (l : List Fl) : Bool := (decide (100 < l.length) && decide (l.length ≤ 5000)) || decide (5100 < l.length) || l.any longB
theorem greatF_no {l : List Fl} (h : greatF l = false) : l.length ≤ 5100 ∧ (l.length ≤ 5000 → l.length ≤ 100) ∧ ∀ x ∈ l, x.f.size ≤ 1000 ∧ x.t.size ≤ 1000 ∧ x.c.size ≤ 1000 ∧ x.a.size ≤ 1000 := by
  unfold greatF at h
  rw [Bool.or_eq_false_iff, Bool.or_eq_false_iff, Bool.and_eq_false_iff, decide_eq_false_iff_not, decide_eq_false_iff_not, decide_eq_false_iff_not, List.any_eq_false] at h
  exact ⟨by omega, fun h0 => by omega, fun x hx => longB_no (by simpa using h.2 x hx)⟩
theorem anyF_yes {l : List Fl} {k : Nat} {x : Fl} (h : l[k]? = some x) (e : longB x = true) : greatF l = true := by
  unfold greatF
  rw [Bool.or_eq_true, List.any_eq_true]
  exact .inr ⟨x, List.mem_of_getElem? h, e⟩
theorem anyF_step {l : List Fl} {k : Nat} {x : Fl} (h : l[k]? = some x) (h0 : ((l.take k).any longB) = false) (e : longB x = false) : ((l.take (k + 1)).any longB) = false := by
  obtain ⟨hlt, rfl⟩ := List.getElem?_eq_some_iff.1 h
  rw [List.take_succ_eq_append_getElem hlt, List.any_append, h0]
  simp [e]
end Z
set_option maxRecDepth 100000 in
theorem greatf_any (v : Value) (l : List Z.Fl) (w : World) (hS : SF w v l) :
    Calls Try.prog 12 #[v] w fun e w' => e = .returned (.bool (Z.greatF l)) ∧ Below w.heap.size w w' := by
  have HS := Lib.hid hS
  obtain ⟨A, c, rfl, hlc, hcm, _⟩ := hS
  unfold maxLen at hcm
  by_cases hl : 5100 < l.length
  · have hl1 : 100 < l.length := by omega
    have hl2 : ¬ l.length ≤ 5000 := by omega
    go_enter Try.func12, Try.ntmps12
    go_wp2_with fail
    go_ret
    exact ⟨ret_bool (by unfold Z.greatF; rw [decide_eq_true hl]; simp), Below.refl _ _⟩
  by_cases hm : 100 < l.length ∧ l.length ≤ 5000
  · obtain ⟨hl1, hl2⟩ := hm
    go_enter Try.func12, Try.ntmps12
    go_wp2_with fail
    go_ret
    exact ⟨ret_bool (by unfold Z.greatF; rw [decide_eq_true hl1, decide_eq_true hl2]; simp), Below.refl _ _⟩
  have HN : Hid (l.any Z.longB = false → Z.greatF l = false) := Lib.hid (fun h => by
    unfold Z.greatF
    rw [h, decide_eq_false hl]
    by_cases h1 : 100 < l.length
    · rw [decide_eq_false (by omega : ¬ l.length ≤ 5000)]; simp
    · rw [decide_eq_false h1]; rfl)
  have HM : l.length ≤ 100 ∨ 5000 < l.length := by omega
  clear hm
  rcases HM with hl1 | hl1
  all_goals
    go_enter Try.func12, Try.ntmps12
    go_wp2_with fail
    go_loopw [3] (fun iv wr => ∃ k : Nat, k ≤ l.length ∧ iv = .int .i64 k ∧ Hid (((l.take k).any Z.longB) = false) ∧ Below w.heap.size w wr) (fun iv _ => l.length - (intOf iv).toNat)
    case atStart => exact ⟨0, by omega, rfl, Lib.hid rfl, Below.refl _ _⟩
    case round =>
      obtain ⟨k, hk, rfl, HK, hbr⟩ := hrel
      by_cases hlt : k < l.length
      · have hz : l[k]? = some l[k] := List.getElem?_eq_getElem hlt
        obtain ⟨b, o, rfl, hbl, hcj⟩ := (HS.out.below hbr).at_ (by omega)
        obtain ⟨c0, c1, c2, c3, c4⟩ := fc_of (hcj k _ hz)
        have LG := Lib.hid (fun W : World => long_any l[k] W)
        have HT := Lib.hid (Z.anyF_yes hz)
        have HF := Lib.hid (Z.anyF_step hz HK.out)
        clear hcj hz
        generalize l[k] = x at *
        cases hlg : Z.longB x
        · rw [hlg] at LG
          have HF' := Lib.hid (HF.out hlg)
          clear HF HT hlg
          go_wp2_with fail
          refine (LG.out _).mono ?_
          rintro e w1 ⟨rfl, hb1⟩
          go_wp2_with fail
          go_roundw
          case rel => exact ⟨k + 1, by omega, by go_num, HF', hbr.trans (hb1.mono hbr.size)⟩
          case measure => simp [intOf]; omega
        · rw [hlg] at LG
          have HT' := Lib.hid (HT.out hlg)
          clear HF HT hlg
          go_wp2_with fail
          refine (LG.out _).mono ?_
          rintro e w1 ⟨rfl, hb1⟩
          go_wp2_with fail
          go_ret
          exact ⟨ret_bool HT'.out.symm, hbr.trans (hb1.mono hbr.size)⟩
      · obtain rfl : k = l.length := by omega
        have hK := HK.out
        rw [List.take_length] at hK
        have HK' : Hid (Z.greatF l = false) := Lib.hid (HN.out hK)
        clear hK
        go_wp2_with fail
        go_ret
        exact ⟨ret_bool HK'.out.symm, hbr⟩
/-- While the numbers of an own row of n claims are written; the block gc stays. -/
def WrC (B : Nat) (w0 : World) (gc : Nat) (t : TypeId) (cs : Array Value) (A : Option Addr) (n : Nat) (w : World) : Prop :=
  Below B w0 w ∧ Blk w gc t cs ∧ (0 < n → ∃ g cur, A = some ⟨g, 0, none⟩ ∧ B ≤ g ∧ Blk w g 38 cur ∧ n * 8 ≤ cur.size)
theorem WrC.start {B : Nat} {w : World} {gc : Nat} {t : TypeId} {cs : Array Value} {A : Option Addr} {c : Nat} {l : List Z.Cl} (hB : Blk w gc t cs) (hO : OC w B (.slice A l.length c) l) : WrC B w gc t cs A l.length w := by
  refine ⟨Below.refl _ _, hB, fun hp => ?_⟩
  rcases hO.2 with ⟨_, h0⟩ | ⟨g, cap, cur, hv, hg, hh, hn, _, hs, _⟩
  · omega
  · injection hv with hv _ _
    refine ⟨g, cur, hv, hg, hh, ?_⟩
    rw [hs]; exact Nat.mul_le_mul_right 8 hn
theorem WrC.at_ {B : Nat} {w0 w : World} {gc : Nat} {t : TypeId} {cs : Array Value} {A : Option Addr} {n k : Nat} (ht : t ≠ 38) (u : Value) (h : WrC B w0 gc t cs A n w) (hk : k < n) :
    ∃ g x, A = some ⟨g, 0, none⟩ ∧ w.cell? ⟨g, k * 8, none⟩ = some x ∧ w.frozen? ⟨g, k * 8, none⟩ = false ∧ WrC B w0 gc t cs A n (w.setCell ⟨g, k * 8, none⟩ u) := by
  obtain ⟨h1, h2, h3⟩ := h
  obtain ⟨g, cur, rfl, hB, hb, hn⟩ := h3 (by omega)
  have hne : gc ≠ g := by
    rintro rfl
    have e1 : w.heap[gc]? = some (.cells cur 38 (0, 0)) := hb
    have e2 : w.heap[gc]? = some (.cells cs t (0, 0)) := h2
    rw [e1] at e2
    injection e2 with e2
    injection e2 with _ e2
    exact ht e2.symm
  have hk8 : k * 8 < cur.size := by omega
  refine ⟨g, cur[k * 8]'hk8, rfl, (hb.cell (k * 8)).trans (Array.getElem?_eq_getElem hk8), hb.frozen (k * 8), h1.setCell hB _, (Below.heap_setCell _ _ _ gc hne).trans h2, fun _ => ?_⟩
  exact ⟨g, _, rfl, hB, hb.set (k * 8) _, by rw [Array.size_setIfInBounds]; exact hn⟩
end Go.Proofs.Ytdjghmpaopfboaa
