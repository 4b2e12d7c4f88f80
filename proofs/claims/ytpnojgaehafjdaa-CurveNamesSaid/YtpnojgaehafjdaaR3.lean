/- R3: Rmin Rmul Rdiv -/
import Derived.Test.YtpnojgaehafjdaaR2
import Derived.Test.YtpnojgaehafjdaaZi
import Derived.Test.YtpnojgaehafjdaaI3
import Derived.Test.YtpnojgaehafjdaaI1
import Derived.BigRegion
import Derived.Laws.AppendOwnNone
import Derived.Deep.LoopGhost
/- Walks: the reference: Minus, Zero, Both, Result. -/

namespace Go.Proofs.Ytpnojgaehafjdaa
open Go.RowKit

theorem Z.ofDg_take_le {b : Nat} {x y : List Nat} (hb : 0 < b) (hx : ∀ d ∈ x, d < b) (h : Z.ofDg b y ≤ Z.ofDg b x) : Z.ofDg b (y.take x.length) = Z.ofDg b y :=
  Z.ofDg_take_of_lt b y _ (Nat.lt_of_le_of_lt h (Z.ofDg_lt b hb x hx))
def BothRet (a b : ByteArray) (w : World) (e : Ending) (w' : World) : Prop := e = .returned (.int .i64 (Z.bothE a b)) ∧ Below w.heap.size w w'
/-- What Result answers: as write does. -/
theorem Z.txtD_length (ng : Bool) (n : Nat) : (Z.txtD ng n).length ≤ (Z.decB n).length + 1 := by
  unfold Z.txtD
  split
  · simp
  · split
    · simp
    · omega
theorem Z.decB_le {ds : List Nat} (h : ∀ d ∈ ds, d < 10) : (Z.decB (Z.ofDg 10 ds)).length ≤ ds.length + 1 := by
  have h1 := Z.ofDg_lt 10 (by omega) ds h
  exact Z.decB_length _ _ h1
theorem Z.sgn_if (ng : Bool) (n : Nat) : (if ng then -(n : Int) else n) = sgn ng n := by unfold sgn; cases ng <;> rfl
end Go.Proofs.Ytpnojgaehafjdaa
/- Walks: the reference: Times. -/

namespace Go.Proofs.Ytpnojgaehafjdaa
open Go.RowKit

theorem dig_mul (a b : Nat) (ha : a < 10) (hb : b < 10) : (a : Int) * (b : Int) ≤ 81 := by
  have h : a * b ≤ 9 * 9 := Nat.mul_le_mul (by omega) (by omega)
  have e : ((a * b : Nat) : Int) = (a : Int) * b := by simp
  omega
end Go.Proofs.Ytpnojgaehafjdaa
/- Walks: the reference: Divide. -/

namespace Go.Proofs.Ytpnojgaehafjdaa
open Go.RowKit

theorem SN.cut {q : IntKind} {w : World} {A : Option Addr} {c n : Nat} {ms : List Nat} (h : SN q w (.slice A n c) ms) {k : Nat} (hk : k ≤ ms.length) : SN q w (.slice A k c) (ms.take k) := by
  obtain ⟨A', c', hv, h1, h2, h3⟩ := h
  simp only [Value.slice.injEq] at hv
  obtain ⟨rfl, rfl, rfl⟩ := hv
  have hlen : (ms.take k).length = k := by rw [List.length_take]; omega
  refine ⟨A, c, by rw [hlen], by omega, h2, fun h0 => ?_⟩
  obtain ⟨b, o, hA, hlt, hc⟩ := h3 (by omega)
  refine ⟨b, o, hA, hlt, fun i d hd => hc i d ?_⟩
  rw [List.getElem?_take] at hd
  split at hd
  · exact hd
  · cases hd
theorem Ow.one {q : IntKind} (e : TypeId) (w : World) (B : Nat) (y : Int) (d : Nat) (hd : y = (d : Int)) (hB : B ≤ w.heap.size) : Ow q e (w.alloc (.cells #[.int q y] e)) B (.slice (some ⟨w.heap.size, 0, none⟩) 1 1) [d] := by
  subst hd
  exact ⟨rfl, .inr ⟨w.heap.size, 1, #[.int q (d : Int)], rfl, hB, World.alloc_heap_new w _, Nat.le_refl _, by simp [maxLen], rfl, by simp [Vn]⟩⟩
/-- 'append(out, src...)', both of the call's own. -/
theorem appS {P : Program} {ops : Array Oper} {rest : List Oper} {o : Oper} {a : Act} {Q : Exit → Act → World → Prop} (hgd : o.guard = none) (s x : Operand) (t : TypeId)
    (ho : o.op = .call { callee := .builtin .append, args := #[s, x], argTypes := #[t, t] }) {q : IntKind} {e : TypeId} {by_ : Nat} (hE : ElemInt P q e by_) (ht : P.underlying t = some (.slice e)) (hby : by_ ≤ 8)
    (w : World) (B B' : Nat) (v u : Value) (ms ns : List Nat) (hs : a.eval s = v) (hown : Ow q e w B v ms) (hx : a.eval x = u) (hsrc : Ow q e w B' u ns)
    (hlen : ms.length + ns.length < 1000000000) (hB : B ≤ w.heap.size)
    (h : ∀ v' w', Ow q e w' B v' (ms ++ ns) → Below B w w' → wpList P ops Q rest (a.put o.dst v') w') :
    wpList P ops Q (o :: rest) a w := by
  obtain ⟨i, hi, hz, h1, h2⟩ := info_parts hE
  have hsn := hsrc.sn
  rcases hsrc.2 with ⟨rfl, h0⟩ | ⟨g, cap, cur, rfl, hg, hh, hn, hm, hcs, htk⟩
  · have hns : ns = [] := List.eq_nil_of_length_eq_zero h0
    subst hns
    refine wpList_append_own_none hgd s x t ho B e i 1 ht hi v ms.length (Vn q ms) hs hown hx ?_
    refine h v w ?_ (Below.refl _ _)
    rw [List.append_nil]
    exact hown
  · refine wpList_append_own _ hgd s x t ho B e i (.int q 0) 1 by_ ht hi hz h1 h2 rfl (by omega) v ms.length (Vn q ms) hs hown ⟨g, 0, none⟩ ns.length cap (Vn q ns) hx (by simp [Vn_length]) ?_ (by
      intro y hy
      simp only [Vn, List.mem_map] at hy
      obtain ⟨z, _, rfl⟩ := hy
      rfl) (by unfold maxLen; omega) (by
      have : (ms.length + ns.length) * by_ ≤ (ms.length + ns.length) * 8 := Nat.mul_le_mul_left _ hby
      omega) hB ?_
    · intro j y hj
      have hjl : j < ns.length := by
        have := (List.getElem?_eq_some_iff.1 hj).1
        rwa [Vn_length] at this
      have hc := World.ownsRow.cellAt hsrc j (by omega)
      rw [← hj]
      have e1 : (⟨g, 0, none⟩ : Addr).add j = ⟨g, j, none⟩ := by
        unfold Addr.add
        cases j <;> simp
      rw [e1]
      exact hc
    · intro v' w' hown' hgr _
      refine h v' w' ?_ ?_
      · unfold Ow
        rw [Vn_append, List.length_append]
        exact hown'
      · exact (Below.refl B w).grown hgr hB (fun k hk => (World.ownsRow.lt hown k hk).1)
theorem Ow.away {q : IntKind} {e : TypeId} {w : World} {B b : Nat} {v : Value} {ms : List Nat} (h : Ow q e w B v ms) (hb : b < B) (j : Nat) (u : Value) : Ow q e (w.setCell ⟨b, j, none⟩ u) B v ms :=
  World.ownsRow.kept h (grownBy_setAt w b j u) (.inr (fun e => by have := h.base b e; omega))
theorem Ow.keepB {q : IntKind} {e : TypeId} {w w' : World} {B B' g n cap : Nat} {ms : List Nat} (h : Ow q e w B (.slice (some ⟨g, 0, none⟩) n cap) ms) (hb : Below B' w w') (hg : g < B') : Ow q e w' B (.slice (some ⟨g, 0, none⟩) n cap) ms := by
  refine ⟨h.1, ?_⟩
  rcases h.2 with ⟨h, _⟩ | ⟨g', cap', cur, h1, h2, h3, h4⟩
  · cases h
  · simp only [Value.slice.injEq, Option.some.injEq, Addr.mk.injEq, and_true] at h1
    obtain ⟨rfl, rfl, rfl⟩ := h1
    exact .inr ⟨g, cap, cur, rfl, h2, (hb.block g hg).trans h3, h4⟩
def DivR (w : World) (n m len len2 : Nat) (e : Ending) (w' : World) : Prop := ∃ v u qs rs, e = .returned (.tuple #[v, u]) ∧ Ow .i64 3 w' w.heap.size v qs ∧ Ow .i64 3 w' w.heap.size u rs ∧
  (∀ d ∈ qs, d < 10) ∧ (∀ d ∈ rs, d < 10) ∧ Z.ofDg 10 qs = n / m ∧ Z.ofDg 10 rs = n % m ∧ qs.length = len ∧ rs.length ≤ len2 ∧ Below w.heap.size w w'
theorem Z.can_stop {ys : List Nat} (hy : ∀ d ∈ ys, d < 10) (h0 : 0 < Z.ofDg 10 ys) {k : Nat} (hk1 : 1 ≤ k) (hk : k ≤ ys.length) (hz : ∀ i, k ≤ i → i < ys.length → ys[i]? = some 0) (hn : k = 1 ∨ ys[k - 1]? ≠ some 0) :
    ys.take k = Z.dg 10 (Z.ofDg 10 ys) := by
  refine Z.trim_is 10 (by omega) ys hy k hk hz ?_
  by_cases h1 : ys[k - 1]? = some 0
  · exfalso
    have hk2 : k = 1 := by
      rcases hn with h | h
      · exact h
      · exact absurd h1 h
    subst hk2
    have := Z.trim_is 10 (by omega) ys hy 0 (by omega) (fun i _ hi => by
      rcases Nat.eq_zero_or_pos i with h2 | h2
      · subst h2; exact h1
      · exact hz i h2 hi) (.inl rfl)
    rw [List.take_zero] at this
    have := (Z.dg_eq_nil 10 (by omega) _).1 this.symm
    omega
  · exact .inr h1

end Go.Proofs.Ytpnojgaehafjdaa
