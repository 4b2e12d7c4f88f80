/- Words for the laws' frames: contracts, expressions and lists of days that came in; an argument that stays. -/
import Derived.Test.YtifafmomkpkgdaaGreatDoorCom
import Derived.ProofKit
import Derived.OpenShut
import Derived.ShutString
import Derived.Lib.SmallJoins
import Derived.Deep.Slices
import Derived.Deep.Fields
import Derived.ChangeSame
import Derived.SizedLaws
namespace Go.Proofs.YtifafmomkpkgdaaGreatDoor
open Go.ChangeShapes Go.WideShapes Go.ChangeAt Go.RowKit Go.Joins Go.Deep

theorem laidOut : laidOutB Tryz.prog = true := by kernel_rfl
theorem arg_stays {H : Type} {enc : TypeId × Value → H} {W W' : World} {t : TypeId} {v : Value} {d : DataW H} {p : List MemPlace} (hr : Tryz.prog.readableRec t = true) (hrow : t < Tryz.prog.types.size)
    (h : DataW.Trod enc Tryz.prog W 0 (fun _ => true) true t v d p) (hb : Below W.heap.size W W') : DataW.Trod enc Tryz.prog W' 0 (fun b => decide (b < W.heap.size)) true t v d p := by
  have h2 := h
  obtain ⟨n, hn⟩ := h
  exact Below.trod laidOut hr hrow h2 hb (DataW.trod_lt n t _ _ hn)
theorem cells_u8 : Tryz.prog.cellsOf 5 = 1 := by kernel_rfl
theorem cells_int : Tryz.prog.cellsOf 3 = 1 := by kernel_rfl
theorem cells_str : Tryz.prog.cellsOf 9 = 1 := by kernel_rfl
theorem cells_rat : Tryz.prog.cellsOf 22 = 1 := by kernel_rfl
theorem cells_ints : Tryz.prog.cellsOf 26 = 1 := by kernel_rfl
theorem cells_expr : Tryz.prog.cellsOf 25 = 5 := by kernel_rfl
theorem cells_exprs : Tryz.prog.cellsOf 23 = 1 := by kernel_rfl
theorem cells_con : Tryz.prog.cellsOf 29 = 12 := by kernel_rfl
theorem cells_cons : Tryz.prog.cellsOf 27 = 1 := by kernel_rfl
theorem bytes_int : Tryz.prog.bytesOf 3 = 8 := by kernel_rfl
section
variable {H : Type} {enc : TypeId × Value → H} {W : World} {sp : Nat → Bool} {held : Bool} {n base M : Nat} {cs : List Value} {x : DataW H × List MemPlace}
theorem weightsAll_mem {P : Program} {e : TypeId} : ∀ {l : List (DataW H)} {d : DataW H}, d ∈ l → ∀ q ∈ d.weights P e, q ∈ DataW.weightsAll P e l
  | y :: r, d, h, q, hq => by
    rw [DataW.weightsAll, List.mem_append]
    rcases List.mem_cons.1 h with rfl | h
    · exact .inl hq
    · exact .inr (weightsAll_mem h q hq)
theorem weights_agg {P : Program} {t : TypeId} {fs : Array Field} {ds : List (DataW H)} (ht : P.underlying t = some (.struct fs)) : (DataW.agg ds).weights P t = DataW.weightsEach P (fs.toList.map (·.type)) ds := by
  unfold DataW.weights
  rw [ht]
theorem weights_slice {P : Program} {t e : TypeId} {ds rs : List (DataW H)} (ht : P.underlying t = some (.slice e)) : (DataW.slice ds rs).weights P t = (ds.length + rs.length) * P.bytesOf e :: (DataW.weightsAll P e ds ++ DataW.weightsAll P e rs) := by
  unfold DataW.weights
  rw [ht]
theorem int_cells {t : TypeId} {k : IntKind} {c : Value} (ht : Tryz.prog.underlying t = some (.int k)) (h : DataW.trod enc Tryz.prog W base sp held n t [c] = some x) : ∃ a : Int, c = .int k a ∧ (Lit.int k a).wf = true := by
  obtain ⟨a, e, _, h3⟩ := DataW.trod_int ht h
  injection e with e _
  exact ⟨a, e, h3⟩
theorem str_cells {t : TypeId} {c : Value} (ht : Tryz.prog.underlying t = some .string) (h : DataW.trod enc Tryz.prog W base sp held n t [c] = some x) (hM : ∀ q ∈ x.1.weights Tryz.prog t, q ≤ M) : ∃ a : ByteArray, c = .string a ∧ a.size ≤ M := by
  obtain ⟨a, e, h2, _⟩ := DataW.trod_string ht h
  injection e with e _
  refine ⟨a, e, ?_⟩
  rw [h2] at hM
  have := hM _ (by unfold DataW.weights; exact List.mem_singleton.2 rfl)
  simpa using this
theorem dp_open {α β : Type} {k : Nat} {enc' : α → List Value} {R : α → β → Prop} {Q : β → Prop} {t e : TypeId} {v : Value} (ht : Tryz.prog.underlying t = some (.slice e)) (hC : Tryz.prog.cellsOf e = k) (h0 : 0 < k) (hk : ∀ y, (enc' y).length = k)
    (hcells : ∀ {cs : List Value} {x : DataW H × List MemPlace}, DataW.trod enc Tryz.prog W 0 (fun _ => true) true n e cs = some x → (∀ q ∈ x.1.weights Tryz.prog e, q ≤ M) → ∃ (r : α) (y : β), cs = enc' r ∧ R r y ∧ Q y)
    (h : DataW.trod enc Tryz.prog W 0 (fun _ => true) true n t [v] = some x) (hM : ∀ q ∈ x.1.weights Tryz.prog t, q ≤ M) : ∃ l : List β, Dp k enc' R W v l ∧ (∀ y ∈ l, Q y) ∧ l.length * Tryz.prog.bytesOf e ≤ M := by
  rcases DataW.trod_slice ht h with ⟨hcs, _⟩ | ⟨a, len, cap, elems, rest, n', rfl, hcs, hx, _, hl, hm, hel, hi, _, _⟩
  · injection hcs with hcs _
    subst hcs
    exact ⟨[], Dp.nil_, fun y hy => absurd hy (by simp), by simp⟩
  · injection hcs with hcs _
    subst hcs
    rw [hC] at hi
    have hMx := hM
    rw [hx] at hM
    simp only [weights_slice ht] at hM
    have hall : ∀ i, i < len → ∃ (r : α) (y : β), (∀ (j : Nat) (z : Value), (enc' r)[j]? = some z → W.cell? (a.add (i * k + j)) = some z) ∧ R r y ∧ Q y := by
      intro i hlt
      have hq := hi i hlt
      have hlt' : i < elems.length := by omega
      rw [List.getElem?_eq_getElem hlt'] at hq
      obtain ⟨cs', hc, ht'⟩ := Option.bind_eq_some_iff.1 hq
      obtain ⟨r, y, rfl, hr, hy⟩ := hcells (DataW.trod_succ _ _ _ _ ht') (fun q hq => hM q (List.mem_cons_of_mem _ (List.mem_append_left _ (weightsAll_mem (List.mem_map_of_mem (List.getElem_mem hlt')) q hq))))
      obtain ⟨_, hcl, hat⟩ := World.cells?_some hc
      refine ⟨r, y, fun j z hz => ?_, hr, hy⟩
      have hj : j < k := by rw [← hk r]; exact (List.getElem?_eq_some_iff.1 hz).1
      rw [← Go.Deep.add_add, hat j hj, hz]
    obtain ⟨F, G, hFG⟩ : ∃ (F : Fin len → α) (G : Fin len → β), ∀ i : Fin len, (∀ (j : Nat) (z : Value), (enc' (F i))[j]? = some z → W.cell? (a.add (i.1 * k + j)) = some z) ∧ R (F i) (G i) ∧ Q (G i) := by
      have := fun i : Fin len => hall i.1 i.2
      exact ⟨fun i => Classical.choose (this i), fun i => Classical.choose (Classical.choose_spec (this i)), fun i => Classical.choose_spec (Classical.choose_spec (this i))⟩
    refine ⟨List.ofFn G, ⟨List.ofFn F, ⟨some a, cap, by rw [List.length_ofFn], by rw [List.length_ofFn]; exact hl, hm, fun hp => ?_⟩, by rw [List.length_ofFn, List.length_ofFn], fun i r y hr hy => ?_⟩, fun y hy => ?_, ?_⟩
    · rw [List.length_ofFn] at hp
      obtain ⟨b, off, spot⟩ := a
      obtain ⟨y, hy⟩ : ∃ y, (enc' (F ⟨0, hp⟩))[0]? = some y := ⟨_, List.getElem?_eq_getElem (by rw [hk]; exact h0)⟩
      have hc0 := (hFG ⟨0, hp⟩).1 0 y hy
      have hspot : spot = none := by simpa [Addr.add] using World.cell?_spot hc0
      subst hspot
      refine ⟨b, off, rfl, ?_, fun i d hd j y hy => ?_⟩
      · have := World.block_lt_of_cell? _ _ hc0
        simpa [Go.WideShapes.add_plain] using this
      · obtain ⟨hlt, rfl⟩ := List.getElem?_eq_some_iff.1 hd
        rw [List.length_ofFn] at hlt
        rw [List.getElem_ofFn] at hy
        have := (hFG ⟨i, hlt⟩).1 j y hy
        rw [Go.WideShapes.add_plain] at this
        rw [← Nat.add_assoc] at this
        exact this
    · obtain ⟨h1, rfl⟩ := List.getElem?_eq_some_iff.1 hr
      obtain ⟨h2, rfl⟩ := List.getElem?_eq_some_iff.1 hy
      rw [List.getElem_ofFn, List.getElem_ofFn]
      exact (hFG _).2.1
    · obtain ⟨i, rfl⟩ := List.mem_ofFn.1 hy
      exact (hFG i).2.2
    · rw [List.length_ofFn]
      have := hM _ (List.mem_cons_self ..)
      rw [List.length_map, List.length_map, hel, Nat.add_mul] at this
      omega
theorem ints_sl {v : Value} (h : DataW.trod enc Tryz.prog W 0 (fun _ => true) true n 26 [v] = some x) (hM : ∀ q ∈ x.1.weights Tryz.prog 26, q ≤ M) : ∃ l : List Int, SD W v l ∧ l.length * 8 ≤ M := by
  obtain ⟨l, ⟨raws, h1, h2, h3⟩, _, h4⟩ := dp_open (k := 1) (enc' := dE) (R := fun a b : Int => a = b) (Q := fun _ => True) Tryz.underlying26 cells_int (by omega) dE_len (fun {cs x} ht _ => by
    obtain ⟨a, e, _⟩ := DataW.trod_int Tryz.underlying3 ht
    exact ⟨a, a, e, rfl, trivial⟩) h hM
  rw [bytes_int] at h4
  refine ⟨l, ?_, h4⟩
  have e : raws = l := by
    refine List.ext_getElem? fun i => ?_
    rcases Nat.lt_or_ge i raws.length with hi | hi
    · have a1 : raws[i]? = some raws[i] := List.getElem?_eq_getElem hi
      have a2 : l[i]? = some (l[i]'(by omega)) := List.getElem?_eq_getElem (by omega)
      rw [a1, a2, h3 i _ _ a1 a2]
    · rw [List.getElem?_eq_none hi, List.getElem?_eq_none (by omega)]
  rw [← e]
  exact h1
set_option maxRecDepth 100000 in
theorem ex_open : ∀ (n : Nat) {cs : List Value} {x : DataW H × List MemPlace}, DataW.trod enc Tryz.prog W 0 (fun _ => true) true n 25 cs = some x → (∀ q ∈ x.1.weights Tryz.prog 25, q ≤ M) → ∃ (r : Z.XN × Value) (e : Z.Ex n), cs = xvs r ∧ XV W n e r ∧ Z.XLe M n e
  | 0, _, _, h, _ => by simp [DataW.trod] at h
  | n + 1, cs, x, h, hM => by
    obtain ⟨xs, m, hm, hx, hlen, hxl, hf⟩ := DataW.trod_struct Tryz.underlying25 h
    obtain rfl : m = n := by omega
    rw [cells_expr] at hlen
    match cs, hlen with
    | [c0, c1, c2, c3, c4], _ =>
      match xs, hxl with
      | [y0, y1, y2, y3, y4], _ =>
        rw [hx] at hM
        simp only [weights_agg Tryz.underlying25] at hM
        have q0 : DataW.trod enc Tryz.prog W 0 (fun _ => true) true m 5 [c0] = some y0 := by have this : DataW.trod enc Tryz.prog W 0 (fun _ => true) true m 5 (List.take (Tryz.prog.cellsOf 5) (List.drop 0 [c0, c1, c2, c3, c4])) = some y0 := hf 0 _ rfl; rw [cells_u8] at this; exact this
        have q1 : DataW.trod enc Tryz.prog W 0 (fun _ => true) true m 22 [c1] = some y1 := by have this : DataW.trod enc Tryz.prog W 0 (fun _ => true) true m 22 (List.take (Tryz.prog.cellsOf 22) (List.drop 1 [c0, c1, c2, c3, c4])) = some y1 := hf 1 _ rfl; rw [cells_rat] at this; exact this
        have q2 : DataW.trod enc Tryz.prog W 0 (fun _ => true) true m 9 [c2] = some y2 := by have this : DataW.trod enc Tryz.prog W 0 (fun _ => true) true m 9 (List.take (Tryz.prog.cellsOf 9) (List.drop 2 [c0, c1, c2, c3, c4])) = some y2 := hf 2 _ rfl; rw [cells_str] at this; exact this
        have q3 : DataW.trod enc Tryz.prog W 0 (fun _ => true) true m 3 [c3] = some y3 := by have this : DataW.trod enc Tryz.prog W 0 (fun _ => true) true m 3 (List.take (Tryz.prog.cellsOf 3) (List.drop 3 [c0, c1, c2, c3, c4])) = some y3 := hf 3 _ rfl; rw [cells_int] at this; exact this
        have q4 : DataW.trod enc Tryz.prog W 0 (fun _ => true) true m 23 [c4] = some y4 := by have this : DataW.trod enc Tryz.prog W 0 (fun _ => true) true m 23 (List.take (Tryz.prog.cellsOf 23) (List.drop 4 [c0, c1, c2, c3, c4])) = some y4 := hf 4 _ rfl; rw [cells_exprs] at this; exact this
        obtain ⟨a0, rfl, w0⟩ := int_cells Tryz.underlying5 q0
        obtain ⟨a1, rfl, s1⟩ := str_cells Tryz.underlying22 q1 (fun q hq => hM q (DataW.weights_mem_each (j := 1) rfl rfl q hq))
        obtain ⟨a2, rfl, s2⟩ := str_cells Tryz.underlying9 q2 (fun q hq => hM q (DataW.weights_mem_each (j := 2) rfl rfl q hq))
        obtain ⟨a3, rfl, w3⟩ := int_cells Tryz.underlying3 q3
        obtain ⟨l, hl, hl2, _⟩ := dp_open (k := 5) (enc' := xvs) (R := fun r y => XV W m y r) (Q := fun y => Z.XLe M m y) Tryz.underlying23 cells_expr (by omega) xvs_len (fun {cs x} ht hw => by
          obtain ⟨r, e, h1, h2, h3⟩ := ex_open m ht hw
          exact ⟨r, e, h1, h2, h3⟩) q4 (fun q hq => hM q (DataW.weights_mem_each (j := 4) rfl rfl q hq))
        exact ⟨(⟨a0, a1, a2, a3⟩, c4), Z.Ex.mk ⟨a0, a1, a2, a3⟩ l, rfl, ⟨rfl, bounds_u8 w0, hl⟩, s1, s2, hl2⟩
set_option maxRecDepth 100000 in
theorem co_open (m : Nat) : ∀ (n : Nat), n ≤ m + 1 → ∀ {cs : List Value} {x : DataW H × List MemPlace}, DataW.trod enc Tryz.prog W 0 (fun _ => true) true n 29 cs = some x → (∀ q ∈ x.1.weights Tryz.prog 29, q ≤ M) → ∃ (r : CR m) (c : Z.Co m n), cs = r.vs ∧ CV W n c r ∧ Z.CLe M n c
  | 0, _, _, _, h, _ => by simp [DataW.trod] at h
  | n + 1, hn, cs, x, h, hM => by
    obtain ⟨xs, m', hm, hx, hlen, hxl, hf⟩ := DataW.trod_struct Tryz.underlying29 h
    obtain rfl : m' = n := by omega
    rw [cells_con] at hlen
    match cs, hlen with
    | [c0, c1, c2, c3, c4, c5, c6, c7, c8, c9, c10, c11], _ =>
      match xs, hxl with
      | [y0, y1, y2, y3, y4, y5, y6, y7], _ =>
        rw [hx] at hM
        simp only [weights_agg Tryz.underlying29] at hM
        have q0 : DataW.trod enc Tryz.prog W 0 (fun _ => true) true m' 5 [c0] = some y0 := by have this : DataW.trod enc Tryz.prog W 0 (fun _ => true) true m' 5 (List.take (Tryz.prog.cellsOf 5) (List.drop 0 [c0, c1, c2, c3, c4, c5, c6, c7, c8, c9, c10, c11])) = some y0 := hf 0 _ rfl; rw [cells_u8] at this; exact this
        have q1 : DataW.trod enc Tryz.prog W 0 (fun _ => true) true m' 9 [c1] = some y1 := by have this : DataW.trod enc Tryz.prog W 0 (fun _ => true) true m' 9 (List.take (Tryz.prog.cellsOf 9) (List.drop 1 [c0, c1, c2, c3, c4, c5, c6, c7, c8, c9, c10, c11])) = some y1 := hf 1 _ rfl; rw [cells_str] at this; exact this
        have q2 : DataW.trod enc Tryz.prog W 0 (fun _ => true) true m' 9 [c2] = some y2 := by have this : DataW.trod enc Tryz.prog W 0 (fun _ => true) true m' 9 (List.take (Tryz.prog.cellsOf 9) (List.drop 2 [c0, c1, c2, c3, c4, c5, c6, c7, c8, c9, c10, c11])) = some y2 := hf 2 _ rfl; rw [cells_str] at this; exact this
        have q3 : DataW.trod enc Tryz.prog W 0 (fun _ => true) true m' 9 [c3] = some y3 := by have this : DataW.trod enc Tryz.prog W 0 (fun _ => true) true m' 9 (List.take (Tryz.prog.cellsOf 9) (List.drop 3 [c0, c1, c2, c3, c4, c5, c6, c7, c8, c9, c10, c11])) = some y3 := hf 3 _ rfl; rw [cells_str] at this; exact this
        have q4 : DataW.trod enc Tryz.prog W 0 (fun _ => true) true m' 25 [c4, c5, c6, c7, c8] = some y4 := by have this : DataW.trod enc Tryz.prog W 0 (fun _ => true) true m' 25 (List.take (Tryz.prog.cellsOf 25) (List.drop 4 [c0, c1, c2, c3, c4, c5, c6, c7, c8, c9, c10, c11])) = some y4 := hf 4 _ rfl; rw [cells_expr] at this; exact this
        have q5 : DataW.trod enc Tryz.prog W 0 (fun _ => true) true m' 3 [c9] = some y5 := by have this : DataW.trod enc Tryz.prog W 0 (fun _ => true) true m' 3 (List.take (Tryz.prog.cellsOf 3) (List.drop 9 [c0, c1, c2, c3, c4, c5, c6, c7, c8, c9, c10, c11])) = some y5 := hf 5 _ rfl; rw [cells_int] at this; exact this
        have q6 : DataW.trod enc Tryz.prog W 0 (fun _ => true) true m' 26 [c10] = some y6 := by have this : DataW.trod enc Tryz.prog W 0 (fun _ => true) true m' 26 (List.take (Tryz.prog.cellsOf 26) (List.drop 10 [c0, c1, c2, c3, c4, c5, c6, c7, c8, c9, c10, c11])) = some y6 := hf 6 _ rfl; rw [cells_ints] at this; exact this
        have q7 : DataW.trod enc Tryz.prog W 0 (fun _ => true) true m' 27 [c11] = some y7 := by have this : DataW.trod enc Tryz.prog W 0 (fun _ => true) true m' 27 (List.take (Tryz.prog.cellsOf 27) (List.drop 11 [c0, c1, c2, c3, c4, c5, c6, c7, c8, c9, c10, c11])) = some y7 := hf 7 _ rfl; rw [cells_cons] at this; exact this
        obtain ⟨a0, rfl, w0⟩ := int_cells Tryz.underlying5 q0
        obtain ⟨a1, rfl, s1⟩ := str_cells Tryz.underlying9 q1 (fun q hq => hM q (DataW.weights_mem_each (j := 1) rfl rfl q hq))
        obtain ⟨a2, rfl, s2⟩ := str_cells Tryz.underlying9 q2 (fun q hq => hM q (DataW.weights_mem_each (j := 2) rfl rfl q hq))
        obtain ⟨a3, rfl, s3⟩ := str_cells Tryz.underlying9 q3 (fun q hq => hM q (DataW.weights_mem_each (j := 3) rfl rfl q hq))
        obtain ⟨r4, e4, h4, v4, s4⟩ := ex_open (m + 1) (DataW.trod_le (by omega : m' ≤ m + 1) q4) (fun q hq => hM q (DataW.weights_mem_each (j := 4) rfl rfl q hq))
        obtain ⟨a5, rfl, w5⟩ := int_cells Tryz.underlying3 q5
        obtain ⟨l6, d6, s6⟩ := ints_sl q6 (fun q hq => hM q (DataW.weights_mem_each (j := 6) rfl rfl q hq))
        obtain ⟨l, hl, hl2, _⟩ := dp_open (k := 12) (enc' := CR.vs (m := m)) (R := fun r y => CV W m' y r) (Q := fun y => Z.CLe M m' y) Tryz.underlying27 cells_con (by omega) CR.vs_len (fun {cs x} ht hw => by
          obtain ⟨r, e, h1, h2, h3⟩ := co_open m m' (by omega) ht hw
          exact ⟨r, e, h1, h2, h3⟩) q7 (fun q hq => hM q (DataW.weights_mem_each (j := 7) rfl rfl q hq))
        obtain ⟨t4, u4⟩ := r4
        obtain ⟨ht4, _⟩ := v4.open_
        subst ht4
        unfold xvs at h4
        simp only [List.cons.injEq, and_true] at h4
        obtain ⟨rfl, rfl, rfl, rfl, rfl⟩ := h4
        exact ⟨⟨⟨a0, a1, a2, a3, e4, a5, l6⟩, c8, c10, c11⟩, Z.Co.mk ⟨a0, a1, a2, a3, e4, a5, l6⟩ l, rfl, ⟨rfl, bounds_u8 w0, v4, d6, hl⟩, s4, s1, s2, s3, (show l6.length ≤ M by omega), hl2⟩
end
section
variable {H : Type} {enc : TypeId × Value → H} {W : World} {r : Reach} {b0 M : Nat} {v : Value} {d : DataW H} {p : List MemPlace}
set_option maxRecDepth 100000 in
/-- A contract that came in, as a tree of every depth from some one on. -/
theorem contract_open (hv : Value.okWide Tryz.prog W r b0 29 v) (h : DataW.Trod enc Tryz.prog W 0 (fun _ => true) true 29 v d p) (hM : ∀ q ∈ d.weights Tryz.prog 29, q ≤ M) :
    ∃ N, ∀ F, N ≤ F → ∃ (r : CR F) (c : Z.Co F (F + 1)), v = .agg r.vs.toArray ∧ CV W (F + 1) c r ∧ Z.CLe M (F + 1) c := by
  obtain ⟨cs, rfl, hsz⟩ := okWide_struct Tryz.underlying29 hv
  obtain ⟨ls⟩ := cs
  obtain ⟨fuel, hf⟩ := h
  refine ⟨fuel, fun F hF => ?_⟩
  obtain ⟨r, c, h1, h2, h3⟩ := co_open F (F + 1) (Nat.le_refl _) (DataW.trod_le (by omega : fuel ≤ F + 1) hf) hM
  exact ⟨r, c, by rw [← h1]; rfl, h2, h3⟩
set_option maxRecDepth 100000 in
/-- An expression that came in. -/
theorem expr_open (hv : Value.okWide Tryz.prog W r b0 25 v) (h : DataW.Trod enc Tryz.prog W 0 (fun _ => true) true 25 v d p) (hM : ∀ q ∈ d.weights Tryz.prog 25, q ≤ M) :
    ∃ N, ∀ F, N ≤ F → ∃ (u : Value) (x : Z.Ex (F + 1)), v = .agg #[.int .u8 x.top.k, .string x.top.rat, .string x.top.name, .int .i64 x.top.date, u] ∧ XV W (F + 1) x (x.top, u) ∧ Z.XLe M (F + 1) x := by
  obtain ⟨cs, rfl, hsz⟩ := okWide_struct Tryz.underlying25 hv
  obtain ⟨ls⟩ := cs
  obtain ⟨fuel, hf⟩ := h
  refine ⟨fuel, fun F hF => ?_⟩
  obtain ⟨⟨t, u⟩, x, h1, h2, h3⟩ := ex_open (F + 1) (DataW.trod_le (by omega : fuel ≤ F + 1) hf) hM
  obtain ⟨ht, _⟩ := h2.open_
  subst ht
  exact ⟨u, x, congrArg (fun l : List Value => Value.agg l.toArray) h1, h2, h3⟩
set_option maxRecDepth 100000 in
theorem ints_open (hv : Value.okWide Tryz.prog W r b0 26 v) (h : DataW.Trod enc Tryz.prog W 0 (fun _ => true) true 26 v d p) (hM : ∀ q ∈ d.weights Tryz.prog 26, q ≤ M) :
    ∃ l : List Int, SD W v l ∧ l.length * 8 ≤ M := by
  obtain ⟨a0, len, cap, rfl⟩ := okWide_slice Tryz.underlying26 hv
  obtain ⟨n, hn⟩ := h
  exact ints_sl hn hM
end
end Go.Proofs.YtifafmomkpkgdaaGreatDoor
