/- R3: Rmin Rmul Rdiv -/
import Derived.Test.YtifafmomkpkgdaaDoorR2
import Derived.Test.YtifafmomkpkgdaaDoorZi
import Derived.Test.YtifafmomkpkgdaaDoorI3
import Derived.Test.YtifafmomkpkgdaaDoorI1
import Derived.BigRegion
import Derived.Laws.AppendOwnNone
import Derived.Deep.LoopGhost
/- Walks: the reference: Minus, Zero, Both, Result. -/

namespace Go.Proofs.YtifafmomkpkgdaaDoor
open Go.RowKit

theorem Z.ofDg_take_le {b : Nat} {x y : List Nat} (hb : 0 < b) (hx : ∀ d ∈ x, d < b) (h : Z.ofDg b y ≤ Z.ofDg b x) : Z.ofDg b (y.take x.length) = Z.ofDg b y :=
  Z.ofDg_take_of_lt b y _ (Nat.lt_of_le_of_lt h (Z.ofDg_lt b hb x hx))
theorem at_same (v : Value) (xs : List Nat) (i d : Nat) (w : World) (hS : SN .i64 w v xs) (hl : xs.length ≤ 1000000000) (hi : i ≤ 1000000000) (hd : Z.dAt xs i = d) :
    Calls Tryd.prog 140 #[v, .int .i64 i] w fun e w' => e = .returned (.int .i64 d) ∧ w' = w :=
  (at_any v xs i w hS hl hi).mono fun _ _ ⟨he, hw⟩ => ⟨by rw [he, hd], hw.symm⟩

set_option maxHeartbeats 800000 in
theorem rminus_any (v u : Value) (xs ys : List Nat) (w : World) (hS : SN .i64 w v xs) (hT : SN .i64 w u ys) (hx : ∀ d ∈ xs, d < 10) (hy : ∀ d ∈ ys, d < 10)
    (hl : xs.length ≤ 1000000) (hl' : ys.length ≤ 1000000) (hge : Z.ofDg 10 ys ≤ Z.ofDg 10 xs) :
    Calls Tryd.prog 134 #[v, u] w (NumRet w (Z.ofDg 10 xs - Z.ofDg 10 ys) xs.length) := by
  have hT' := hT
  obtain ⟨A, c, rfl, hc, hm, hcell⟩ := hS
  obtain ⟨A', c', rfl, hc', hm', hcell'⟩ := hT
  have HX := Lib.hid hx
  have HY := Lib.hid hy
  have HG := Lib.hid hge
  clear hcell' hx hy hge
  unfold maxLen at hm
  go_enter Tryd.func134, Tryd.ntmps134
  go_wp2_with fail
  go_loopw [5, 6, 7, 8] (fun out cv iv tv wr => ∃ (k cy : Nat) (os : List Nat), k ≤ xs.length ∧ iv = .int .i64 k ∧ cv = .int .i64 cy ∧ cy ≤ 1 ∧ Ow .i64 3 wr w.heap.size out os ∧ Below w.heap.size w wr ∧
    Hid (os.length = k ∧ (∀ d ∈ os, d < 10) ∧ Z.ofDg 10 os + Z.ofDg 10 (ys.take k) = Z.ofDg 10 (xs.take k) + 10 ^ k * cy)) (fun _ _ iv _ _ => xs.length - (intOf iv).toNat)
  case atStart => exact ⟨0, 0, [], by omega, rfl, rfl, by omega, Ow.nil_ _, Below.refl _ _, rfl, by simp, by simp [Z.ofDg]⟩
  case round =>
    obtain ⟨k, cy, os, hk, rfl, rfl, hcy, hown, hb, HI⟩ := hrel
    have hos : os.length ≤ k := by rw [HI.out.1]; omega
    by_cases hlt : k < xs.length
    · obtain ⟨g, o, rfl, hg, hcl⟩ := hcell (by omega)
      have hr0 : wr.cell? ⟨g, o + k, none⟩ = some (.int .i64 (Z.dAt xs k : Int)) := (hb.cell (p := ⟨g, o + k, none⟩) hg).trans (hcl _ _ (Z.dAt_eq hlt))
      have b1 := Z.dAt_lt (b := 10) (by omega) HX.out k
      have b2 := Z.dAt_lt (b := 10) (by omega) HY.out k
      have hst := fun dd b' h => Z.minus_step 10 xs ys os k cy dd b' HI.out.1 HI.out.2.2 h
      have c2 := fun n => at_same _ ys k (Z.dAt ys k) (wr.drewN n) (SN.drewN (hT'.below hb) n) (by omega) (by omega) rfl
      generalize Z.dAt xs k = d at *
      generalize Z.dAt ys k = d' at *
      have C2 := Lib.hid c2
      have HST := Lib.hid hst
      have h1 : (0 : Int) ≤ (k : Int) := by omega
      have h2 : (k : Int) < xs.length := by omega
      clear hcell hcl c2 hst
      by_cases hlow : d < d' + cy
      · have e1 : IntKind.i64.wrap ((d : Int) - d') = (d : Int) - d' := IntWalk.i64_in _ (by omega)
        have e2 : IntKind.i64.wrap ((d : Int) - d' - cy) = (d : Int) - d' - cy := IntWalk.i64_in _ (by omega)
        go_wp2_with fail
        go_quiet ((go_at_call 140; exact Calls.quiet_of_same (C2.out _)))
        clear e1 e2
        have hown1 := hown.drewN nq
        have hb1 := hb.trans (below_of_drewN wr nq _)
        generalize wr.drewN nq = ws at *
        go_wp2_with (at_builtin; refine app1 rfl _ _ _ rfl elem64 Tryd.underlying26 (by omega) ws w.heap.size u5 os _ (d + 10 - (d' + cy)) (by omega) rfl hown1 rfl (by omega) hb1.size ?_; intro v2 w2 hown2 hb2 hs2)
        go_roundw
        case rel => exact ⟨k + 1, 1, _, by omega, by go_num, rfl, by omega, hown2, hb1.trans hb2, by simp [HI.out.1], Z.mem_snoc HI.out.2.1 (by omega), HST.out _ 1 (by omega)⟩
        case measure => simp [intOf]; omega
      · have e1 : IntKind.i64.wrap ((d : Int) - d') = (d : Int) - d' := IntWalk.i64_in _ (by omega)
        have e2 : IntKind.i64.wrap ((d : Int) - d' - cy) = (d : Int) - d' - cy := IntWalk.i64_in _ (by omega)
        go_wp2_with fail
        go_quiet ((go_at_call 140; exact Calls.quiet_of_same (C2.out _)))
        clear e1 e2
        have hown1 := hown.drewN nq
        have hb1 := hb.trans (below_of_drewN wr nq _)
        generalize wr.drewN nq = ws at *
        go_wp2_with (at_builtin; refine app1 rfl _ _ _ rfl elem64 Tryd.underlying26 (by omega) ws w.heap.size u5 os _ (d - (d' + cy)) (by omega) rfl hown1 rfl (by omega) hb1.size ?_; intro v2 w2 hown2 hb2 hs2)
        go_roundw
        case rel => exact ⟨k + 1, 0, _, by omega, by go_num, rfl, by omega, hown2, hb1.trans hb2, by simp [HI.out.1], Z.mem_snoc HI.out.2.1 (by omega), HST.out _ 0 (by omega)⟩
        case measure => simp [intOf]; omega
    · obtain rfl : k = xs.length := by omega
      go_wp2_with fail
      go_ret
      have htk := Z.ofDg_take_le (by omega) HX.out HG.out
      have hv := Z.minus_end 10 (by omega) xs (ys.take xs.length) os cy HI.out.2.1 HI.out.1 (by rw [htk]; exact HG.out) (by rw [List.length_take]; omega) (by rw [List.take_take, Nat.min_self]; exact HI.out.2.2)
      rw [htk] at hv
      exact ⟨_, os, rfl, hown, HI.out.2.1, hv, by rw [HI.out.1]; omega, hb⟩

theorem zero_any (v : Value) (xs : List Nat) (w : World) (hS : SN .i64 w v xs) (hx : ∀ d ∈ xs, d < 10) (hl : xs.length ≤ 1000000) :
    Calls Tryd.prog 127 #[v] w fun e w' => e = .returned (.bool (decide (Z.ofDg 10 xs = 0))) ∧ w = w' := by
  have C := greater_any v (.slice none 0 0) 10 (by omega) xs [] w hS SN.nil_ hx (by simp) hl (by simp)
  have e0 : Z.ofDg 10 [] = 0 := rfl
  rw [e0] at C
  generalize Z.ofDg 10 xs = n at *
  have C' := Lib.hid C
  clear C e0
  by_cases h : n = 0
  · have hd : decide (n = 0) = true := by simpa using h
    have hc := Z.cmp_eq h
    rw [hd]
    rw [hc] at C'
    clear h hd hc
    go_enter Tryd.func127, Tryd.ntmps127
    go_wp2_with fail
    refine C'.out.mono ?_
    rintro e w' ⟨rfl, rfl⟩
    go_wp2_with fail
    go_ret
    exact ⟨rfl, rfl⟩
  · have hd : decide (n = 0) = false := by simpa using h
    have hc := Z.cmp_gt (x := n) (y := 0) (by omega)
    rw [hd]
    rw [hc] at C'
    clear h hd hc
    go_enter Tryd.func127, Tryd.ntmps127
    go_wp2_with fail
    refine C'.out.mono ?_
    rintro e w' ⟨rfl, rfl⟩
    go_wp2_with fail
    go_ret
    exact ⟨rfl, rfl⟩
def BothRet (a b : ByteArray) (w : World) (e : Ending) (w' : World) : Prop := e = .returned (.int .i64 (Z.bothE a b)) ∧ Below w.heap.size w w'
theorem both_any (a b : ByteArray) (w : World) (ha : a.size ≤ 1000000) (hb : b.size ≤ 1000000) :
    Calls Tryd.prog 126 #[.string a, .string b] w (BothRet a b w) := by
  have C1 := Lib.hid (fun W : World => rcheck_any a W ha)
  have C2 := Lib.hid (fun W : World => rcheck_any b W hb)
  unfold ChkRet at C1 C2
  by_cases h : Z.chk a.data.toList = 0
  · have HF : Hid (∀ w', Below w.heap.size w w' → BothRet a b w (.returned (.int .i64 (Z.chk b.data.toList))) w') := fun w' hw => ⟨by unfold Z.bothE; rw [if_pos h], hw⟩
    rw [h] at C1
    clear h
    generalize Z.chk b.data.toList = k at *
    go_enter Tryd.func126, Tryd.ntmps126
    go_wp2_with fail
    refine (C1.out _).mono ?_
    rintro e w1 ⟨rfl, hb1⟩
    go_wp2_with fail
    refine (C2.out _).mono ?_
    rintro e w2 ⟨rfl, hb2⟩
    go_wp2_with fail
    go_ret
    exact HF.out _ (hb1.trans (hb2.mono hb1.size))
  · have HF : Hid (∀ w', Below w.heap.size w w' → BothRet a b w (.returned (.int .i64 (Z.chk a.data.toList))) w') := fun w' hw => ⟨by unfold Z.bothE; rw [if_neg h], hw⟩
    generalize Z.chk a.data.toList = k at *
    have hk : (k != 0) = true := by simpa using h
    clear h
    go_enter Tryd.func126, Tryd.ntmps126
    go_wp2_with fail
    refine (C1.out _).mono ?_
    rintro e w1 ⟨rfl, hb1⟩
    go_wp2_with fail
    refine (C1.out _).mono ?_
    rintro e w2 ⟨rfl, hb2⟩
    go_wp2_with fail
    go_ret
    exact HF.out _ (hb1.trans (hb2.mono hb1.size))
/-- What Result answers: as write does. -/
theorem Z.txtD_length (ng : Bool) (n : Nat) : (Z.txtD ng n).length ≤ (Z.decB n).length + 1 := by
  unfold Z.txtD
  split
  · simp
  · split
    · simp
    · omega
theorem Z.decB_le {ds : List Nat} (h : ∀ d ∈ ds, d < 10) : (Z.decB (Z.ofDg 10 ds)).length ≤ ds.length + 1 := by
  have h1 := Z.ofDg_lt 10 (by omega) ds h
  exact Z.decB_length _ _ h1
theorem Z.sgn_if (ng : Bool) (n : Nat) : (if ng then -(n : Int) else n) = sgn ng n := by unfold sgn; cases ng <;> rfl
end Go.Proofs.YtifafmomkpkgdaaDoor
/- Walks: the reference: Times. -/

namespace Go.Proofs.YtifafmomkpkgdaaDoor
open Go.RowKit

theorem dig_mul (a b : Nat) (ha : a < 10) (hb : b < 10) : (a : Int) * (b : Int) ≤ 81 := by
  have h : a * b ≤ 9 * 9 := Nat.mul_le_mul (by omega) (by omega)
  have e : ((a * b : Nat) : Int) = (a : Int) * b := by simp
  omega
end Go.Proofs.YtifafmomkpkgdaaDoor
/- Walks: the reference: Divide. -/

namespace Go.Proofs.YtifafmomkpkgdaaDoor
open Go.RowKit

theorem SN.cut {q : IntKind} {w : World} {A : Option Addr} {c n : Nat} {ms : List Nat} (h : SN q w (.slice A n c) ms) {k : Nat} (hk : k ≤ ms.length) : SN q w (.slice A k c) (ms.take k) := by
  obtain ⟨A', c', hv, h1, h2, h3⟩ := h
  simp only [Value.slice.injEq] at hv
  obtain ⟨rfl, rfl, rfl⟩ := hv
  have hlen : (ms.take k).length = k := by rw [List.length_take]; omega
  refine ⟨A, c, by rw [hlen], by omega, h2, fun h0 => ?_⟩
  obtain ⟨b, o, hA, hlt, hc⟩ := h3 (by omega)
  refine ⟨b, o, hA, hlt, fun i d hd => hc i d ?_⟩
  rw [List.getElem?_take] at hd
  split at hd
  · exact hd
  · cases hd
theorem Ow.one {q : IntKind} (e : TypeId) (w : World) (B : Nat) (y : Int) (d : Nat) (hd : y = (d : Int)) (hB : B ≤ w.heap.size) : Ow q e (w.alloc (.cells #[.int q y] e)) B (.slice (some ⟨w.heap.size, 0, none⟩) 1 1) [d] := by
  subst hd
  exact ⟨rfl, .inr ⟨w.heap.size, 1, #[.int q (d : Int)], rfl, hB, World.alloc_heap_new w _, Nat.le_refl _, by simp [maxLen], rfl, by simp [Vn]⟩⟩
/-- 'append(out, src...)', both of the call's own. -/
theorem appS {P : Program} {ops : Array Oper} {rest : List Oper} {o : Oper} {a : Act} {Q : Exit → Act → World → Prop} (hgd : o.guard = none) (s x : Operand) (t : TypeId)
    (ho : o.op = .call { callee := .builtin .append, args := #[s, x], argTypes := #[t, t] }) {q : IntKind} {e : TypeId} {by_ : Nat} (hE : ElemInt P q e by_) (ht : P.underlying t = some (.slice e)) (hby : by_ ≤ 8)
    (w : World) (B B' : Nat) (v u : Value) (ms ns : List Nat) (hs : a.eval s = v) (hown : Ow q e w B v ms) (hx : a.eval x = u) (hsrc : Ow q e w B' u ns)
    (hlen : ms.length + ns.length < 1000000000) (hB : B ≤ w.heap.size)
    (h : ∀ v' w', Ow q e w' B v' (ms ++ ns) → Below B w w' → wpList P ops Q rest (a.put o.dst v') w') :
    wpList P ops Q (o :: rest) a w := by
  obtain ⟨i, hi, hz, h1, h2⟩ := info_parts hE
  have hsn := hsrc.sn
  rcases hsrc.2 with ⟨rfl, h0⟩ | ⟨g, cap, cur, rfl, hg, hh, hn, hm, hcs, htk⟩
  · have hns : ns = [] := List.eq_nil_of_length_eq_zero h0
    subst hns
    refine wpList_append_own_none hgd s x t ho B e i 1 ht hi v ms.length (Vn q ms) hs hown hx ?_
    refine h v w ?_ (Below.refl _ _)
    rw [List.append_nil]
    exact hown
  · refine wpList_append_own _ hgd s x t ho B e i (.int q 0) 1 by_ ht hi hz h1 h2 rfl (by omega) v ms.length (Vn q ms) hs hown ⟨g, 0, none⟩ ns.length cap (Vn q ns) hx (by simp [Vn_length]) ?_ (by
      intro y hy
      simp only [Vn, List.mem_map] at hy
      obtain ⟨z, _, rfl⟩ := hy
      rfl) (by unfold maxLen; omega) (by
      have : (ms.length + ns.length) * by_ ≤ (ms.length + ns.length) * 8 := Nat.mul_le_mul_left _ hby
      omega) hB ?_
    · intro j y hj
      have hjl : j < ns.length := by
        have := (List.getElem?_eq_some_iff.1 hj).1
        rwa [Vn_length] at this
      have hc := World.ownsRow.cellAt hsrc j (by omega)
      rw [← hj]
      have e1 : (⟨g, 0, none⟩ : Addr).add j = ⟨g, j, none⟩ := by
        unfold Addr.add
        cases j <;> simp
      rw [e1]
      exact hc
    · intro v' w' hown' hgr _
      refine h v' w' ?_ ?_
      · unfold Ow
        rw [Vn_append, List.length_append]
        exact hown'
      · exact (Below.refl B w).grown hgr hB (fun k hk => (World.ownsRow.lt hown k hk).1)
theorem Ow.away {q : IntKind} {e : TypeId} {w : World} {B b : Nat} {v : Value} {ms : List Nat} (h : Ow q e w B v ms) (hb : b < B) (j : Nat) (u : Value) : Ow q e (w.setCell ⟨b, j, none⟩ u) B v ms :=
  World.ownsRow.kept h (grownBy_setAt w b j u) (.inr (fun e => by have := h.base b e; omega))
theorem Ow.keepB {q : IntKind} {e : TypeId} {w w' : World} {B B' g n cap : Nat} {ms : List Nat} (h : Ow q e w B (.slice (some ⟨g, 0, none⟩) n cap) ms) (hb : Below B' w w') (hg : g < B') : Ow q e w' B (.slice (some ⟨g, 0, none⟩) n cap) ms := by
  refine ⟨h.1, ?_⟩
  rcases h.2 with ⟨h, _⟩ | ⟨g', cap', cur, h1, h2, h3, h4⟩
  · cases h
  · simp only [Value.slice.injEq, Option.some.injEq, Addr.mk.injEq, and_true] at h1
    obtain ⟨rfl, rfl, rfl⟩ := h1
    exact .inr ⟨g, cap, cur, rfl, h2, (hb.block g hg).trans h3, h4⟩
def DivR (w : World) (n m len len2 : Nat) (e : Ending) (w' : World) : Prop := ∃ v u qs rs, e = .returned (.tuple #[v, u]) ∧ Ow .i64 3 w' w.heap.size v qs ∧ Ow .i64 3 w' w.heap.size u rs ∧
  (∀ d ∈ qs, d < 10) ∧ (∀ d ∈ rs, d < 10) ∧ Z.ofDg 10 qs = n / m ∧ Z.ofDg 10 rs = n % m ∧ qs.length = len ∧ rs.length ≤ len2 ∧ Below w.heap.size w w'
theorem Z.can_stop {ys : List Nat} (hy : ∀ d ∈ ys, d < 10) (h0 : 0 < Z.ofDg 10 ys) {k : Nat} (hk1 : 1 ≤ k) (hk : k ≤ ys.length) (hz : ∀ i, k ≤ i → i < ys.length → ys[i]? = some 0) (hn : k = 1 ∨ ys[k - 1]? ≠ some 0) :
    ys.take k = Z.dg 10 (Z.ofDg 10 ys) := by
  refine Z.trim_is 10 (by omega) ys hy k hk hz ?_
  by_cases h1 : ys[k - 1]? = some 0
  · exfalso
    have hk2 : k = 1 := by
      rcases hn with h | h
      · exact h
      · exact absurd h1 h
    subst hk2
    have := Z.trim_is 10 (by omega) ys hy 0 (by omega) (fun i _ hi => by
      rcases Nat.eq_zero_or_pos i with h2 | h2
      · subst h2; exact h1
      · exact hz i h2 hi) (.inl rfl)
    rw [List.take_zero] at this
    have := (Z.dg_eq_nil 10 (by omega) _).1 this.symm
    omega
  · exact .inr h1

set_option maxRecDepth 100000 in
set_option maxHeartbeats 4000000 in
theorem rdivide_any (v u : Value) (xs ys : List Nat) (w : World) (hS : SN .i64 w v xs) (hT : SN .i64 w u ys) (hx : ∀ d ∈ xs, d < 10) (hy : ∀ d ∈ ys, d < 10)
    (hl : xs.length ≤ 100000) (hl' : ys.length ≤ 100000) (h0 : 0 < Z.ofDg 10 ys) :
    Calls Tryd.prog 128 #[v, u] w (DivR w (Z.ofDg 10 xs) (Z.ofDg 10 ys) xs.length ((Z.dg 10 (Z.ofDg 10 ys)).length + 1)) := by
  have hT' := hT
  have hyl : 0 < ys.length := by
    rcases Nat.eq_zero_or_pos ys.length with h | h
    · rw [List.eq_nil_of_length_eq_zero h] at h0; simp [Z.ofDg] at h0
    · exact h
  obtain ⟨A, c, rfl, hc, hm, hcell⟩ := hS
  obtain ⟨A', c', rfl, hc', hm', hcell'⟩ := hT
  obtain ⟨g', o', rfl, hg', hcl'⟩ := hcell' hyl
  have HX := Lib.hid hx
  have HY := Lib.hid hy
  have HCL := Lib.hid hcl'
  have HC0 := Lib.hid hcell
  have H0 := Lib.hid h0
  clear hx hy hcell' hcl' hcell h0
  unfold maxLen at hm hm'
  go_enter Tryd.func128, Tryd.ntmps128
  go_wp2_with fail
  go_loop [6] (fun nv => ∃ k : Nat, 1 ≤ k ∧ k ≤ ys.length ∧ nv = .int .i64 k ∧ Hid (∀ i, k ≤ i → i < ys.length → ys[i]? = some 0)) (fun nv => (intOf nv).toNat)
  case atStart => exact ⟨ys.length, by omega, by omega, rfl, fun i h1 h2 => by omega⟩
  case round =>
    obtain ⟨k, hk1, hk, rfl, HZ⟩ := hrel
    by_cases hgo : 1 < k ∧ Z.dAt ys (k - 1) = 0
    · obtain ⟨hkk, hd0⟩ := hgo
      have hr := HCL.out (k - 1) 0 (by rw [Z.dAt_eq (by omega), hd0])
      have HD := Lib.hid hd0
      clear hd0
      go_wp2_with fail
      go_round
      case rel =>
        refine ⟨k - 1, by omega, by omega, ret_v (by omega), fun i hi hlt => ?_⟩
        by_cases e : i = k - 1
        · subst e; rw [Z.dAt_eq hlt, HD.out]
        · exact HZ.out i (by omega) hlt
      case measure => simp [intOf]; omega
    · have hstop : ys.take k = Z.dg 10 (Z.ofDg 10 ys) := by
        refine Z.can_stop HY.out H0.out hk1 hk HZ.out ?_
        by_cases h1 : k = 1
        · exact .inl h1
        · refine .inr ?_
          rw [Z.dAt_eq (by omega)]
          intro e
          exact hgo ⟨by omega, by simpa using e⟩
      have hsnb := hT'.cut (k := k) hk
      rw [hstop] at hsnb
      have hlen : (Z.dg 10 (Z.ofDg 10 ys)).length = k := by rw [← hstop, List.length_take]; omega
      obtain ⟨D, hD⟩ : ∃ D, D = Z.ofDg 10 ys := ⟨_, rfl⟩
      have HE1 := Lib.hid hD
      have HE2 := Lib.hid hlen
      rw [← hD] at hsnb hlen H0
      have hDlt : D < 10 ^ k := by
        have := Z.ofDg_lt 10 (by omega) _ (Z.dg_lt 10 (by omega) D)
        rw [Z.ofDg_dg 10 (by omega), hlen] at this
        exact this
      have HDL := Lib.hid hDlt
      have HLN := Lib.hid hlen
      have HDV : Hid (Z.ofDg 10 (Z.dg 10 D) = D) := Z.ofDg_dg 10 (by omega) D
      have HDD : Hid (∀ d ∈ Z.dg 10 D, d < 10) := Z.dg_lt 10 (by omega) D
      have hkc : k ≤ c' := by omega
      clear hstop hD hDlt
      generalize Z.dg 10 D = bs at *
      have hbl : bs.length ≤ 100000 := by rw [HLN.out]; omega
      clear hlen
      by_cases hkk : 1 < k
      case' pos =>
        have hz : ((Z.dAt ys (k - 1) : Int) == 0) = false := by rw [beq_eq_false_iff_ne]; intro e; exact hgo ⟨hkk, by omega⟩
        have hr := HCL.out (k - 1) _ (Z.dAt_eq (by omega))
        generalize Z.dAt ys (k - 1) = dt at *
      all_goals
        clear hgo
        go_wp2_with (at_make; refine mkN rfl _ _ _ rfl elem64 Tryd.underlying26 (by omega) w w.heap.size _ _ xs.length rfl rfl (by omega) (by omega) (by omega) (Nat.le_refl _) ?_; intro w1 hown1 hb1 hs1)
        go_loopw [8, 9] (fun rv iv wr => ∃ (i : Nat) (qs rs : List Nat), i ≤ xs.length ∧ iv = .int .i64 ((i : Int) - 1) ∧ Ow .i64 3 wr w.heap.size (.slice (some ⟨w.heap.size, 0, none⟩) xs.length xs.length) qs ∧
          Ow .i64 3 wr (w.heap.size + 1) rv rs ∧ Below w.heap.size w wr ∧ w.heap.size + 1 ≤ wr.heap.size ∧ Hid (Z.LInv D k i xs qs rs)) (fun _ iv _ => (intOf iv + 1).toNat)
        case atStart => exact ⟨xs.length, _, [], by omega, rfl, hown1, Ow.nil_ _, hb1, hs1, Z.LInv.start H0.out⟩
        case round =>
          clear hown1 hb1 hs1
          obtain ⟨i, qs, rs, hi, rfl, hq, hro, hb, hsz, HI⟩ := hrel
          by_cases hi0 : 0 < i
          · obtain ⟨i, rfl⟩ : ∃ j, i = j + 1 := ⟨i - 1, by omega⟩
            have ei : ((i + 1 : Nat) : Int) - 1 = (i : Int) := by omega
            rw [ei]
            obtain ⟨b, o, rfl, hbl0, hcl⟩ := HC0.out (by omega)
            have hcx : wr.cell? ⟨b, o + i, none⟩ = some (.int .i64 (Z.dAt xs i : Int)) := (hb.cell (p := ⟨b, o + i, none⟩) hbl0).trans (hcl _ _ (Z.dAt_eq (by omega)))
            have HO := Lib.hid (HI.out.open_ HX.out HDL.out)
            have hrl := HI.out.rlen
            have hal : (Below wr.heap.size wr (wr.alloc (.cells #[.int .i64 (Z.dAt xs i : Int)] 3))) := (Below.refl _ wr).alloc (Nat.le_refl _) _
            have hro2 := hro.below hal
            have ho1 := Ow.one (q := .i64) 3 wr (w.heap.size + 1) (Z.dAt xs i : Int) (Z.dAt xs i) rfl hsz
            obtain ⟨a, ha⟩ : ∃ a, a = Z.dAt xs i := ⟨_, rfl⟩
            rw [← ha] at hcx HO hro2 ho1
            clear ha hal hcl ei
            by_cases hlong : k < rs.length
            all_goals
              go_wp2_with (at_builtin; refine appS rfl _ _ _ rfl elem64 Tryd.underlying26 (by omega) _ (w.heap.size + 1) (w.heap.size + 1) _ u8 [a] rs rfl ho1 rfl hro2 (by simp; omega) (by simp; omega) ?_; intro v2 w2 ho2x hb2; have ho2 : Ow .i64 3 w2 (w.heap.size + 1) v2 (a :: rs) := ho2x; clear ho2x; obtain ⟨g2, cap2, rfl, hgB2, hgl2, hcap2, hcapm⟩ := ho2.form (by simp); simp only [List.length_cons] at hcap2)
            all_goals
              have hal2 := (Below.refl (w.heap.size + 1) wr).alloc hsz (.cells #[.int .i64 (a : Int)] 3)
              have hb3 : Below w.heap.size w w2 := hb.trans ((hal2.trans hb2).mono (by omega))
              have hsz3 : w.heap.size + 1 ≤ w2.heap.size := by omega
              have hq3 := hq.keepB (hal2.trans hb2) (by omega)
              have hcx2 : Hid (wr.cell? ⟨b, o + i, none⟩ = some (.int .i64 (a : Int))) := hcx
              clear hcx hcx2 hro hro2 ho1 hb hsz hq hal2 hb2
              obtain ⟨L, hL, hLe⟩ : ∃ L, L = min (k + 1) (rs.length + 1) ∧ L ≤ 100002 := ⟨_, rfl, by omega⟩
              have hcut : Ow .i64 3 w2 (w.heap.size + 1) (.slice (some ⟨g2, 0, none⟩) L cap2) ((a :: rs).take (k + 1)) := by
                have := Ow.cut (k := L) ho2 (by simp; omega)
                have e : (a :: rs).take L = (a :: rs).take (k + 1) := by
                  by_cases hh : k + 1 ≤ rs.length + 1
                  · rw [show L = k + 1 by omega]
                  · rw [List.take_of_length_le (by simp; omega), List.take_of_length_le (by simp; omega)]
                rwa [e] at this
            all_goals
              obtain ⟨rs', hrs'⟩ : ∃ rs', rs' = (a :: rs).take (k + 1) := ⟨_, rfl⟩
              rw [← hrs'] at hcut HO
              clear hrs' ho2
              go_loopg [8] (Z.ofDg 10 rs') (fun m rv wx => ∃ qs2 rs2 : List Nat, Ow .i64 3 wx w.heap.size (.slice (some ⟨w.heap.size, 0, none⟩) xs.length xs.length) qs2 ∧ Ow .i64 3 wx (w.heap.size + 1) rv rs2 ∧ Below w.heap.size w wx ∧ w.heap.size + 1 ≤ wx.heap.size ∧ Hid (Z.LIn D k i xs qs2 rs2 ∧ Z.ofDg 10 rs2 = m))
              case atStart =>
                first
                  | (have e : L = k + 1 := by omega
                     rw [e] at hcut
                     exact ⟨qs, rs', hq3, hcut, hb3, hsz3, HO, rfl⟩)
                  | (have e : L = rs.length + 1 := by omega
                     rw [e] at hcut
                     exact ⟨qs, rs', hq3, hcut, hb3, hsz3, HO, rfl⟩)
              case round =>
                clear hq3 hcut hb3 hsz3 HO
                obtain ⟨qs2, rs2, hq2, hr2, hbx, hsx, HL⟩ := hrel
                have hqd : Z.dAt qs2 i < 10 := Z.dAt_lt (by omega) HL.out.1.qlt i
                have hrl2 := HL.out.1.rlen
                have hql2 := HL.out.1.len
                have C := greater_any u8 (.slice (some ⟨g', o', none⟩) k c') 10 (by omega) rs2 bs wr hr2.sn (hsnb.below hbx) HL.out.1.rd HDD.out (by omega) (by omega)
                rw [HL.out.2, HDV.out] at C
                by_cases hge : D ≤ gk
                · have hcv : 0 ≤ Z.cmp gk D := by
                    rcases Nat.eq_or_lt_of_le hge with h | h
                    · rw [Z.cmp_eq h.symm]; omega
                    · rw [Z.cmp_gt h]; omega
                  have M := rminus_any u8 (.slice (some ⟨g', o', none⟩) k c') rs2 bs wr hr2.sn (hsnb.below hbx) HL.out.1.rd HDD.out (by omega) (by omega) (by rw [HL.out.2, HDV.out]; exact hge)
                  rw [HL.out.2, HDV.out] at M
                  generalize Z.cmp gk D = cv at *
                  have C' := Lib.hid C
                  have M' := Lib.hid M
                  clear C M
                  go_wp2_with fail
                  refine C'.out.mono ?_
                  rintro e w' ⟨rfl, rfl⟩
                  go_wp2_with fail
                  refine M'.out.mono ?_
                  rintro e w3 ⟨v3, os3, rfl, ho3, hd3, hv3, hl3, hb4⟩
                  have hq4 := hq2.below hb4
                  have hqc : w3.cell? ⟨w.heap.size, i, none⟩ = some (.int .i64 (Z.dAt qs2 i : Int)) := hq4.cellN hql2 (Z.dAt_eq (by omega))
                  have hqf : w3.frozen? ⟨w.heap.size, i, none⟩ = false := hq4.freeN hql2 i
                  have HMORE := Lib.hid (HL.out.1.more (by omega) (by rw [HL.out.2]; exact hge) hd3 (by rw [HL.out.2]; exact hv3) hl3)
                  have HV3 := Lib.hid hv3
                  have hs4 := hb4.size
                  obtain ⟨dq, hdq⟩ : ∃ dq, dq = Z.dAt qs2 i := ⟨_, rfl⟩
                  rw [← hdq] at hqc HMORE hqd
                  clear hv3 hdq
                  go_wp2_with fail
                  go_roundg (gk - D)
                  case measure => have := H0.out; omega
                  case rel => exact ⟨qs2.set i (dq + 1), os3, hq4.storedN hql2 i _ _ (by simp), (ho3.mono hsx).away (by omega) i _, (hbx.trans (hb4.mono (by omega))).setCell (p := ⟨w.heap.size, i, none⟩) (Nat.le_refl _) _, by simp; omega, HMORE, HV3.out⟩
                · rw [Z.cmp_lt (by omega)] at C
                  have C' := Lib.hid C
                  clear C
                  go_wp2_with fail
                  refine C'.out.mono ?_
                  rintro e w' ⟨rfl, rfl⟩
                  go_wp2_with fail
                  go_roundw
                  case rel => exact ⟨i, qs2, rs2, by omega, by first | rfl | go_num, hq2, hr2, hbx, hsx, HL.out.1.close (by rw [HL.out.2]; omega)⟩
                  case measure => (simp [intOf]) <;> omega
          · obtain rfl : i = 0 := by omega
            go_wp2_with fail
            go_ret2
            obtain ⟨e1, e2⟩ := HI.out.done
            rw [HE1.out] at e1 e2
            exact ⟨_, _, qs, rs, rfl, hq, hro.mono (by omega), HI.out.qlt, HI.out.rd, e1, e2, HI.out.len, by rw [HE2.out]; exact HI.out.rlen, hb⟩
end Go.Proofs.YtifafmomkpkgdaaDoor
