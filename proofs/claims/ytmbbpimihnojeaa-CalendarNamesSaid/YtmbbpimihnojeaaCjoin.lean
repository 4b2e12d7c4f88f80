/- Walks: slices.Grow at nil, slices.Concat of two slices of ints. -/
import Derived.Test.YtmbbpimihnojeaaCmem
import Derived.Test.YtmbbpimihnojeaaZjoin
import Derived.Test.YtmbbpimihnojeaaShelf
import Derived.Lib.AppendZeros
import Derived.Laws.AppendOwnNone
import Derived.Sort.OwnSortedInts
namespace Go.Proofs.Ytmbbpimihnojeaa
open Go.RowKit

/-- A slice value without an address has no room. -/
def Nil0 (v : Value) : Prop := ∀ n c, v = .slice none n c → c = 0
/-- The slice value v is one of the call's own, from the block B on, and holds these ints. -/
def OI (w : World) (B : Nat) (v : Value) (zs : List Int) : Prop := w.ownsRow B 3 1 v zs.length (zs.map (Value.int .i64))
section
variable {w w' : World} {B : Nat} {v : Value} {zs : List Int}
theorem OI.nil_ (w : World) (B : Nat) : OI w B (.slice none 0 0) [] := World.ownsRow_nil _ _ _ _
theorem OI.mono {B' : Nat} (h : OI w B v zs) (hB : B' ≤ B) : OI w B' v zs := by
  refine ⟨h.1, ?_⟩
  rcases h.2 with h | ⟨g, cap, cur, h1, h2, h3⟩
  · exact .inl h
  · exact .inr ⟨g, cap, cur, h1, Nat.le_trans hB h2, h3⟩
theorem OI.below (h : OI w B v zs) (hb : Below w.heap.size w w') : OI w' B v zs := by
  refine ⟨h.1, ?_⟩
  rcases h.2 with h | ⟨g, cap, cur, h1, h2, h3, h4⟩
  · exact .inl h
  · exact .inr ⟨g, cap, cur, h1, h2, (hb.block g (Array.getElem?_eq_some_iff.1 h3).1).trans h3, h4⟩
theorem OI.base (h : OI w B v zs) : ∀ k, v.ownBlock = some k → B ≤ k := fun k hk => (World.ownsRow.lt h k hk).1
theorem OI.si (h : OI w B v zs) : SI w v zs := by
  rcases h.2 with ⟨rfl, h0⟩ | ⟨g, cap, cur, rfl, hg, hh, hn, hm, hs, ht⟩
  · have : zs = [] := List.eq_nil_of_length_eq_zero h0
    subst this
    exact SI.nil_
  · refine ⟨_, cap, rfl, hn, hm, fun _ => ⟨g, 0, rfl, (Array.getElem?_eq_some_iff.1 hh).1, fun i d hd => ?_⟩⟩
    have hlt : i < zs.length := (List.getElem?_eq_some_iff.1 hd).1
    rw [Nat.zero_add, World.ownsRow.cellAt h i (by omega)]
    simp [hd]
theorem OI.nil0 (h : OI w B v zs) : Nil0 v := by
  intro n c e
  rcases h.2 with ⟨rfl, _⟩ | ⟨g, cap, cur, rfl, _⟩
  · cases e; rfl
  · cases e
end
theorem infoInt : ∃ i, Try.prog.info? 3 = some i ∧ i.zero = some (.int .i64 0) ∧ i.size = 1 ∧ i.bytes = 8 := by
  have h : (Try.prog.info? 3).map (fun i => (i.zero, i.size, i.bytes)) = some (some (.int .i64 0), 1, 8) := by kernel_rfl
  rw [Option.map_eq_some_iff] at h
  obtain ⟨i, hi, he⟩ := h
  simp only [Prod.mk.injEq] at he
  exact ⟨i, hi, he.1, he.2.1, he.2.2⟩
/-- 'append(own, x...)' of ints. -/
theorem appI {P : Program} {ops : Array Oper} {rest : List Oper} {o : Oper} {a : Act} {Q : Exit → Act → World → Prop} (hgd : o.guard = none) (s x : Operand) (t : TypeId)
    (ho : o.op = .call { callee := .builtin .append, args := #[s, x], argTypes := #[t, t] }) (hI : ∃ i, P.info? 3 = some i ∧ i.zero = some (.int .i64 0) ∧ i.size = 1 ∧ i.bytes = 8) (ht : P.underlying t = some (.slice 3))
    (w : World) (B : Nat) (v vx : Value) (zs xs : List Int) (hs : a.eval s = v) (hx : a.eval x = vx) (hown : OI w B v zs) (hS : SI w vx xs) (hN : Nil0 vx)
    (hB : B ≤ w.heap.size) (hl1 : zs.length ≤ 10000) (hl2 : xs.length ≤ 10000)
    (h : ∀ v' w', OI w' B v' (zs ++ xs) → Below B w w' → wpList P ops Q rest (a.put o.dst v') w') : wpList P ops Q (o :: rest) a w := by
  obtain ⟨i, hi, hz, h1, h2⟩ := hI
  obtain ⟨A, c, rfl, hc1, hc2, hc3⟩ := hS
  cases A with
  | none =>
    obtain rfl : c = 0 := hN _ _ rfl
    have hx0 : xs = [] := List.eq_nil_of_length_eq_zero (by omega)
    subst hx0
    refine wpList_append_own_none hgd s x t ho B 3 i 1 ht hi v zs.length (zs.map (Value.int .i64)) hs hown hx ?_
    refine h _ _ ?_ (Below.refl _ _)
    rw [List.append_nil]; exact hown
  | some ad =>
    refine wpList_append_own _ hgd s x t ho B 3 i (.int .i64 0) 1 8 ht hi hz h1 h2 rfl (by omega) v zs.length (zs.map (Value.int .i64)) hs hown ad xs.length c (xs.map (Value.int .i64)) hx (by simp) ?_ (by
      intro y hy
      simp only [List.mem_map] at hy
      obtain ⟨z, _, rfl⟩ := hy
      rfl) (by unfold maxLen; omega) (by omega) hB ?_
    · intro j y hj
      rw [List.getElem?_map, Option.map_eq_some_iff] at hj
      obtain ⟨u, hu, rfl⟩ := hj
      have hjl := (List.getElem?_eq_some_iff.1 hu).1
      obtain ⟨b, off, hbo, hlt, hcl⟩ := hc3 (by omega)
      injection hbo with hbo
      subst hbo
      rw [Go.WideShapes.add_plain]
      exact hcl j u hu
    · intro v' w' hown' hg _
      refine h v' w' ?_ ((Below.refl _ _).grown hg hB (OI.base hown))
      unfold OI
      rw [List.length_append, List.map_append]
      exact hown'
set_option maxRecDepth 100000 in
theorem cgrow_zero (w : World) : Calls Try.prog 52 #[.slice none 0 0, .int .i64 0] w fun e w' => e = .returned (.slice none 0 0) ∧ w = w' := by
  go_enter Try.func52, Try.ntmps52
  go_wp2_with fail
  go_ret
  exact ⟨rfl, rfl⟩
set_option maxRecDepth 100000 in
theorem cgrow_pos (n : Nat) (w : World) (h0 : 0 < n) (hn : n ≤ 10000) : Calls Try.prog 52 #[.slice none 0 0, .int .i64 n] w fun e w' => ∃ v, e = .returned v ∧ OI w' w.heap.size v [] ∧ Below w.heap.size w w' := by
  obtain ⟨i, hi, hz, h1, h2⟩ := infoInt
  have hrun := Lib.run_append_nil_zeros (P := Try.prog) w 22 3 22 3 i (.int .i64 0) .i64 .i64 Try.underlying22 Try.underlying3 hi hz n h0 (by omega) (by omega) (by rw [h2]; omega)
  go_enter Try.func52, Try.ntmps52
  go_wp2_with (at_builtin; refine Lib.wpList_append_run _ rfl _ _ _ _ rfl _ _ rfl rfl _ _ hrun ?_)
  go_ret
  have hge := grownCap_ge w n 0 3
  refine ⟨_, rfl, ⟨rfl, .inr ⟨w.heap.size, grownCap w n 0 3, _, rfl, Nat.le_refl _, heap_alloc_new w _, Nat.zero_le _, grownCap_le_maxLen _ _ _ _ (by unfold maxLen; omega), ?_, ?_⟩⟩, ((Below.refl _ w).alloc (Nat.le_refl _) _).drew⟩
  · rw [Array.size_append, size_zeroCells, size_zeroCells]
    simp
    omega
  · simp
theorem cgrow_any (n : Nat) (w : World) (hn : n ≤ 10000) : Calls Try.prog 52 #[.slice none 0 0, .int .i64 n] w fun e w' => ∃ v, e = .returned v ∧ OI w' w.heap.size v [] ∧ Below w.heap.size w w' := by
  rcases Nat.eq_zero_or_pos n with rfl | h
  · refine (cgrow_zero w).mono ?_
    rintro e w' ⟨rfl, rfl⟩
    exact ⟨_, rfl, OI.nil_ _ _, Below.refl _ _⟩
  · exact cgrow_pos n w h hn
def catL (xs ys : List Int) (j : Nat) : List Int := if j = 0 then [] else if j = 1 then xs else xs ++ ys
set_option maxRecDepth 100000 in
set_option maxHeartbeats 1000000 in
theorem concat_any (G : Nat) (va vb : Value) (xs ys : List Int) (w : World) (ha : w.cell? ⟨G, 0, none⟩ = some va) (hb : w.cell? ⟨G, 1, none⟩ = some vb) (hG : G < w.heap.size) (sa : SI w va xs) (sb : SI w vb ys) (na : Nil0 va) (nb : Nil0 vb) (la : xs.length ≤ 1000) (lb : ys.length ≤ 1000) :
    Calls Try.prog 41 #[.slice (some ⟨G, 0, none⟩) 2 2] w fun e w' => ∃ v, e = .returned v ∧ OI w' w.heap.size v (xs ++ ys) ∧ Below w.heap.size w w' := by
  have SA := Lib.hid sa
  have SB := Lib.hid sb
  have NA := Lib.hid na
  have NB := Lib.hid nb
  obtain ⟨A1, c1, rfl, hc1, hc2, _⟩ := sa
  obtain ⟨A2, c2, rfl, hd1, hd2, _⟩ := sb
  clear na nb
  go_enter Try.func41, Try.ntmps41
  go_wp2_with fail
  go_loop [3, 11] (fun sv kv => ∃ j : Nat, j ≤ 2 ∧ kv = .int .i64 j ∧ sv = .int .i64 ((catL xs ys j).length : Nat)) (fun _ kv => 2 - (intOf kv).toNat)
  case atStart => exact ⟨0, by omega, rfl, rfl⟩
  case round =>
    obtain ⟨j, hj, rfl, rfl⟩ := hrel
    by_cases hlt : j < 2
    · have hj2 : j = 0 ∨ j = 1 := by omega
      rcases hj2 with rfl | rfl
      · have e0 : ((catL xs ys 0).length : Int) = 0 := rfl
        rw [e0]
        go_wp2_with fail
        go_round
        case rel => exact ⟨1, by omega, rfl, rfl⟩
        case measure => simp [intOf]
      · have e0 : ((catL xs ys 1).length : Int) = xs.length := rfl
        rw [e0]
        go_wp2_with fail
        go_round
        case rel => exact ⟨2, by omega, rfl, ret_v (by show _ = ((xs ++ ys).length : Int); rw [List.length_append]; omega)⟩
        case measure => simp [intOf]
    · obtain rfl : j = 2 := by omega
      have e0 : (catL xs ys 2).length = xs.length + ys.length := List.length_append
      rw [e0]
      have CG := Lib.hid (fun W : World => cgrow_any (xs.length + ys.length) W (by omega))
      clear e0 hj hlt
      go_wp2_with fail
      refine (CG.out _).mono ?_
      rintro e w1 ⟨v0, rfl, HO, hb1⟩
      have HO := Lib.hid HO
      go_wp2_with fail
      go_loopw [6, 27] (fun v kv wr => ∃ j : Nat, j ≤ 2 ∧ kv = .int .i64 j ∧ Hid (OI wr w.heap.size v (catL xs ys j)) ∧ Below w.heap.size w wr) (fun _ kv _ => 2 - (intOf kv).toNat)
      case atStart => exact ⟨0, by omega, rfl, HO, hb1⟩
      case round =>
        obtain ⟨j, hj, rfl, HJ, hbr⟩ := hrel
        by_cases hlt : j < 2
        · have q0 := (hbr.cell (p := ⟨G, 0, none⟩) hG).trans ha
          have q1 := (hbr.cell (p := ⟨G, 1, none⟩) hG).trans hb
          have hj2 : j = 0 ∨ j = 1 := by omega
          rcases hj2 with rfl | rfl
          · go_wp2_with (at_builtin; refine appI rfl _ _ _ rfl infoInt Try.underlying22 wr w.heap.size u6 (.slice A1 xs.length c1) (catL xs ys 0) xs rfl rfl HJ.out (SA.out.below hbr) NA.out hbr.size (by simp [catL]) (by omega) ?_; intro v2 w2 HO2 hb2)
            go_roundw
            case rel => exact ⟨1, by omega, rfl, HO2, hbr.trans hb2⟩
            case measure => simp [intOf]
          · go_wp2_with (at_builtin; refine appI rfl _ _ _ rfl infoInt Try.underlying22 wr w.heap.size u6 (.slice A2 ys.length c2) (catL xs ys 1) ys rfl rfl HJ.out (SB.out.below hbr) NB.out hbr.size (by simp [catL]; omega) (by omega) ?_; intro v2 w2 HO2 hb2)
            go_roundw
            case rel => exact ⟨2, by omega, rfl, HO2, hbr.trans hb2⟩
            case measure => simp [intOf]
        · obtain rfl : j = 2 := by omega
          go_wp2_with fail
          go_ret
          exact ⟨_, rfl, HJ.out, hbr⟩
end Go.Proofs.Ytmbbpimihnojeaa
