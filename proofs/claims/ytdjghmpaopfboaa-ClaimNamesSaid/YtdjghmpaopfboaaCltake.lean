/- Walk: the queue's take. -/
import Derived.Test.YtdjghmpaopfboaaClq
namespace Go.Proofs.Ytdjghmpaopfboaa
open Go.RowKit
/-- The slice u is the row v without its first j elements. -/
def SubV (v : Value) (j : Nat) (u : Value) : Prop :=
  (v = .slice none 0 0 ∧ u = .slice none 0 0) ∨ ∃ g n c o, v = .slice (some ⟨g, 0, none⟩) n c ∧ u = .slice (some ⟨g, o, none⟩) (n - j) (c - j) ∧ (j < c → o = j)
theorem SubV.zero {w : World} {B : Nat} {v : Value} {q : List Int} (h : OQ w B v q) : SubV v 0 v := by
  rcases h.2 with ⟨rfl, _⟩ | ⟨g, cap, cur, rfl, _⟩
  · exact .inl ⟨rfl, rfl⟩
  · exact .inr ⟨g, _, _, 0, rfl, rfl, fun _ => rfl⟩
set_option maxRecDepth 100000 in
theorem take_none (b : Nat) (v u : Value) (q : List Int) (B : Nat) (w : World) (hB : Blk w b 68 #[u]) (hO : OQ w B v q) (hu : SubV v q.length u) :
    Calls Try.prog 32 #[.pointer (some ⟨b, 0, none⟩)] w fun e w' => e = .returned (.tuple #[.int .i64 0, .bool false]) ∧ w = w' := by
  have hc' : ∃ A c, w.cell? ⟨b, 0, none⟩ = some (.slice A 0 c) := by
    have hc := hB.cell 0
    rcases hu with ⟨_, rfl⟩ | ⟨g, n, c, o, rfl, rfl, _⟩
    · exact ⟨_, _, hc⟩
    · have hn : n = q.length := by
        rcases hO.2 with ⟨h1, _⟩ | ⟨_, _, _, h1, _⟩
        · cases h1
        · injection h1
      subst hn
      rw [Nat.sub_self] at hc
      exact ⟨_, _, hc⟩
  obtain ⟨A, c, hc⟩ := hc'
  clear hB hO hu
  go_enter Try.func32, Try.ntmps32
  go_wp2_with fail
  go_ret2
  exact ⟨rfl, rfl⟩
set_option maxRecDepth 100000 in
theorem take_some (b : Nat) (v u : Value) (q : List Int) (j B : Nat) (n : Int) (w : World) (hB : Blk w b 68 #[u]) (hO : OQ w B v q) (hj : q[j]? = some n) (hu : SubV v j u) :
    Calls Try.prog 32 #[.pointer (some ⟨b, 0, none⟩)] w fun e w' => e = .returned (.tuple #[.int .i64 n, .bool true]) ∧ ∃ u', SubV v (j + 1) u' ∧ w' = w.setCell ⟨b, 0, none⟩ u' := by
  have hlt : j < q.length := (List.getElem?_eq_some_iff.1 hj).1
  have hc := hB.cell 0
  have hf := hB.frozen 0
  rcases hO.2 with ⟨rfl, h0⟩ | ⟨g, cap, cur, rfl, hg, hh, hn, hm, hs, ht⟩
  · omega
  · rcases hu with ⟨h1, _⟩ | ⟨g', n', c', o, h1, rfl, ho⟩
    · cases h1
    injection h1 with h1 h2 h3
    subst h2 h3
    injection h1 with h1
    injection h1 with h1
    subst h1
    obtain rfl := ho (by omega)
    have hcell : w.cell? ⟨g, o, none⟩ = some (.int .i64 n) := by
      rw [World.ownsRow.cellAt hO o (by omega)]
      have := Z.flat_at ei_len hj (j := 0) (x := .int .i64 n) rfl
      simpa using this
    have HFIN : Hid (∀ u' : Value, (u' = .slice (some ⟨g, o + 1, none⟩) (q.length - (o + 1)) (cap - (o + 1)) ∨ ∃ o', cap = o + 1 ∧ u' = .slice (some ⟨g, o', none⟩) 0 0) → SubV (.slice (some ⟨g, 0, none⟩) q.length cap) (o + 1) u') := Lib.hid (by
      rintro u' (rfl | ⟨o', he, rfl⟩)
      · exact .inr ⟨g, _, _, _, rfl, rfl, fun _ => rfl⟩
      · exact .inr ⟨g, _, _, o', rfl, by rw [show q.length - (o + 1) = 0 by omega, show cap - (o + 1) = 0 by omega], fun h => by omega⟩)
    obtain ⟨L, hL⟩ : ∃ L, q.length - o = L + 1 := ⟨q.length - o - 1, by omega⟩
    obtain ⟨M, hM⟩ : ∃ M, cap - o = M + 1 := ⟨cap - o - 1, by omega⟩
    rw [hL, hM] at hc
    have hLM : L ≤ M := by omega
    have hM63 : M + 1 ≤ 9223372036854775807 := by unfold maxLen at hm; omega
    have HE : Hid (q.length - (o + 1) = L ∧ cap - (o + 1) = M ∧ (M = 0 → cap = o + 1) ∧ (M = 0 → L = 0)) := Lib.hid (by omega)
    clear hB hO hh hs ht hj hL hM hn hm hlt ho
    have hLe : (((L + 1 : Nat) : Int) == 0) = false := by rw [beq_eq_false_iff_ne]; omega
    go_enter Try.func32, Try.ntmps32
    go_wp2_with fail
    · have h9 : M = 0 := by assumption
      go_ret2
      exact ⟨rfl, .slice (some ⟨g, o, none⟩) L 0, HFIN.out _ (.inr ⟨o, HE.out.2.2.1 h9, by rw [HE.out.2.2.2 h9]⟩), rfl⟩
    · go_ret2
      exact ⟨rfl, .slice (some ⟨g, o + 1, none⟩) L M, HFIN.out _ (.inl (by rw [HE.out.1, HE.out.2.1])), rfl⟩
end Go.Proofs.Ytdjghmpaopfboaa
