/- Words for the laws' frames: claims and flows that came in; an argument that stays. -/
import Derived.Test.YtdjghmpaopfboaaClmem
import Derived.ProofKit
import Derived.OpenShut
import Derived.ShutString
import Derived.Lib.SmallJoins
import Derived.Deep.Slices
import Derived.Deep.Fields
import Derived.ChangeSame
namespace Go.Proofs.Ytdjghmpaopfboaa
open Go.ChangeShapes Go.WideShapes Go.ChangeAt Go.RowKit Go.Joins Go.Deep

theorem laidOut : laidOutB Try.prog = true := by kernel_rfl
theorem arg_stays {H : Type} {enc : TypeId × Value → H} {W W' : World} {t : TypeId} {v : Value} {d : DataW H} {p : List MemPlace} (hr : Try.prog.readableRec t = true) (hrow : t < Try.prog.types.size)
    (h : DataW.Trod enc Try.prog W 0 (fun _ => true) true t v d p) (hb : Below W.heap.size W W') : DataW.Trod enc Try.prog W' 0 (fun b => decide (b < W.heap.size)) true t v d p := by
  have h2 := h
  obtain ⟨n, hn⟩ := h
  exact Below.trod laidOut hr hrow h2 hb (DataW.trod_lt n t _ _ hn)
theorem cells_int : Try.prog.cellsOf 3 = 1 := by kernel_rfl
theorem cells_str : Try.prog.cellsOf 9 = 1 := by kernel_rfl
theorem cells_rat : Try.prog.cellsOf 34 = 1 := by kernel_rfl
theorem cells_flow : Try.prog.cellsOf 36 = 5 := by kernel_rfl
theorem cells_claim : Try.prog.cellsOf 38 = 8 := by kernel_rfl
theorem cells_list : Try.prog.cellsOf 22 = 1 := by kernel_rfl
theorem cells_claims : Try.prog.cellsOf 24 = 1 := by kernel_rfl
section
variable {H : Type} {enc : TypeId × Value → H} {W : World} {sp : Nat → Bool} {held : Bool} {n base : Nat} {cs : List Value} {x : DataW H × List MemPlace}
theorem int_cells {c : Value} (h : DataW.trod enc Try.prog W base sp held n 3 [c] = some x) : ∃ a : Int, c = .int .i64 a := by
  obtain ⟨a, e, _⟩ := DataW.trod_int Try.underlying3 h
  injection e with e _
  exact ⟨a, e⟩
theorem str_cells {c : Value} (h : DataW.trod enc Try.prog W base sp held n 9 [c] = some x) : ∃ a : ByteArray, c = .string a := by
  obtain ⟨a, e, _⟩ := DataW.trod_string Try.underlying9 h
  injection e with e _
  exact ⟨a, e⟩
theorem rat_cells {c : Value} (h : DataW.trod enc Try.prog W base sp held n 34 [c] = some x) : ∃ a : ByteArray, c = .string a := by
  obtain ⟨a, e, _⟩ := DataW.trod_string Try.underlying34 h
  injection e with e _
  exact ⟨a, e⟩
set_option maxRecDepth 100000 in
theorem flow_cells (h : DataW.trod enc Try.prog W base sp held n 36 cs = some x) : ∃ f : Z.Fl, cs = f.vs := by
  obtain ⟨xs, m, _, _, hlen, hxl, hf⟩ := DataW.trod_struct Try.underlying36 h
  rw [cells_flow] at hlen
  match cs, hlen with
  | [c0, c1, c2, c3, c4], _ =>
    match xs, hxl with
    | [y0, y1, y2, y3, y4], _ =>
      have q0 : DataW.trod enc Try.prog W base sp held m 3 [c0] = some y0 := by have this : DataW.trod enc Try.prog W base sp held m 3 (List.take (Try.prog.cellsOf 3) (List.drop 0 [c0, c1, c2, c3, c4])) = some y0 := hf 0 _ rfl; rw [cells_int] at this; exact this
      have q1 : DataW.trod enc Try.prog W base sp held m 9 [c1] = some y1 := by have this : DataW.trod enc Try.prog W base sp held m 9 (List.take (Try.prog.cellsOf 9) (List.drop 1 [c0, c1, c2, c3, c4])) = some y1 := hf 1 _ rfl; rw [cells_str] at this; exact this
      have q2 : DataW.trod enc Try.prog W base sp held m 9 [c2] = some y2 := by have this : DataW.trod enc Try.prog W base sp held m 9 (List.take (Try.prog.cellsOf 9) (List.drop 2 [c0, c1, c2, c3, c4])) = some y2 := hf 2 _ rfl; rw [cells_str] at this; exact this
      have q3 : DataW.trod enc Try.prog W base sp held m 9 [c3] = some y3 := by have this : DataW.trod enc Try.prog W base sp held m 9 (List.take (Try.prog.cellsOf 9) (List.drop 3 [c0, c1, c2, c3, c4])) = some y3 := hf 3 _ rfl; rw [cells_str] at this; exact this
      have q4 : DataW.trod enc Try.prog W base sp held m 34 [c4] = some y4 := by have this : DataW.trod enc Try.prog W base sp held m 34 (List.take (Try.prog.cellsOf 34) (List.drop 4 [c0, c1, c2, c3, c4])) = some y4 := hf 4 _ rfl; rw [cells_rat] at this; exact this
      obtain ⟨a0, rfl⟩ := int_cells q0
      obtain ⟨a1, rfl⟩ := str_cells q1
      obtain ⟨a2, rfl⟩ := str_cells q2
      obtain ⟨a3, rfl⟩ := str_cells q3
      obtain ⟨a4, rfl⟩ := rat_cells q4
      exact ⟨⟨a0, a1, a2, a3, a4⟩, rfl⟩
set_option maxRecDepth 100000 in
theorem claim_cells (h : DataW.trod enc Try.prog W base sp held n 38 cs = some x) : ∃ c : Z.Cl, cs = c.vs := by
  obtain ⟨xs, m, _, _, hlen, hxl, hf⟩ := DataW.trod_struct Try.underlying38 h
  rw [cells_claim] at hlen
  match cs, hlen with
  | [c0, c1, c2, c3, c4, c5, c6, c7], _ =>
    match xs, hxl with
    | [y0, y1, y2, y3], _ =>
      have q0 : DataW.trod enc Try.prog W base sp held m 3 [c0] = some y0 := by have this : DataW.trod enc Try.prog W base sp held m 3 (List.take (Try.prog.cellsOf 3) (List.drop 0 [c0, c1, c2, c3, c4, c5, c6, c7])) = some y0 := hf 0 _ rfl; rw [cells_int] at this; exact this
      have q1 : DataW.trod enc Try.prog W base sp held m 3 [c1] = some y1 := by have this : DataW.trod enc Try.prog W base sp held m 3 (List.take (Try.prog.cellsOf 3) (List.drop 1 [c0, c1, c2, c3, c4, c5, c6, c7])) = some y1 := hf 1 _ rfl; rw [cells_int] at this; exact this
      have q2 : DataW.trod enc Try.prog W base sp held m 3 [c2] = some y2 := by have this : DataW.trod enc Try.prog W base sp held m 3 (List.take (Try.prog.cellsOf 3) (List.drop 2 [c0, c1, c2, c3, c4, c5, c6, c7])) = some y2 := hf 2 _ rfl; rw [cells_int] at this; exact this
      have q3 : DataW.trod enc Try.prog W base sp held m 36 [c3, c4, c5, c6, c7] = some y3 := by have this : DataW.trod enc Try.prog W base sp held m 36 (List.take (Try.prog.cellsOf 36) (List.drop 3 [c0, c1, c2, c3, c4, c5, c6, c7])) = some y3 := hf 3 _ rfl; rw [cells_flow] at this; exact this
      obtain ⟨a0, rfl⟩ := int_cells q0
      obtain ⟨a1, rfl⟩ := int_cells q1
      obtain ⟨a2, rfl⟩ := int_cells q2
      obtain ⟨f, hf⟩ := flow_cells q3
      refine ⟨⟨a0, a1, a2, f⟩, ?_⟩
      unfold Z.Fl.vs at hf
      simp only [List.cons.injEq, and_true] at hf
      obtain ⟨rfl, rfl, rfl, rfl, rfl⟩ := hf
      rfl
theorem sl_open {α : Type} {k : Nat} {enc' : α → List Value} {t e : TypeId} {v : Value} (ht : Try.prog.underlying t = some (.slice e)) (hC : Try.prog.cellsOf e = k) (h0 : 0 < k) (hk : ∀ y, (enc' y).length = k)
    (hcells : ∀ {n : Nat} {cs : List Value} {x : DataW H × List MemPlace}, DataW.trod enc Try.prog W 0 (fun _ => true) true n e cs = some x → ∃ c : α, cs = enc' c)
    (h : DataW.trod enc Try.prog W 0 (fun _ => true) true n t [v] = some x) : ∃ l : List α, SL k enc' W v l := by
  have hpl := DataW.trod_lt n t _ _ h
  rcases open_slice ht h with ⟨hcs, _⟩ | ⟨a, len, cap, m, n', D, Pl, hcs, _, hl, hm, hmm, hx, hi⟩
  · injection hcs with hcs _
    subst hcs
    exact ⟨[], SL.nil_⟩
  · injection hcs with hcs _
    subst hcs
    simp only [if_true] at hmm
    rw [hC] at hx hi
    have hall : ∀ i, i < len → ∃ c : α, ∀ (j : Nat) (y : Value), (enc' c)[j]? = some y → W.cell? (a.add (i * k + j)) = some y := by
      intro i hlt
      obtain ⟨cs', hc, ht'⟩ := hi i (by omega)
      obtain ⟨c, rfl⟩ := hcells ht'
      obtain ⟨_, hcl, hat⟩ := World.cells?_some hc
      refine ⟨c, fun j y hy => ?_⟩
      have hj : j < k := by rw [← hk c]; exact (List.getElem?_eq_some_iff.1 hy).1
      rw [← Go.Deep.add_add, hat j hj, hy]
    have hch : ∃ F : Fin len → α, ∀ i : Fin len, ∀ (j : Nat) (y : Value), (enc' (F i))[j]? = some y → W.cell? (a.add (i.1 * k + j)) = some y := by
      have := fun i : Fin len => hall i.1 i.2
      exact ⟨fun i => Classical.choose (this i), fun i => Classical.choose_spec (this i)⟩
    obtain ⟨F, hF⟩ := hch
    refine ⟨List.ofFn F, some a, cap, by rw [List.length_ofFn], by rw [List.length_ofFn]; exact hl, hm, fun hp => ?_⟩
    rw [List.length_ofFn] at hp
    obtain ⟨b, off, spot⟩ := a
    obtain ⟨y, hy⟩ : ∃ y, (enc' (F ⟨0, hp⟩))[0]? = some y := ⟨_, List.getElem?_eq_getElem (by rw [hk]; exact h0)⟩
    have hspot : spot = none := by simpa [Addr.add] using World.cell?_spot (hF ⟨0, hp⟩ 0 y hy)
    subst hspot
    refine ⟨b, off, rfl, ?_, fun i d hd j y hy => ?_⟩
    · rw [hx] at hpl
      exact hpl (.cell b off) (List.mem_append_left _ (MemPlace.mem_row.2 ⟨0, Nat.mul_pos (by omega) h0, by simp⟩))
    · obtain ⟨hlt, rfl⟩ := List.getElem?_eq_some_iff.1 hd
      rw [List.length_ofFn] at hlt
      rw [List.getElem_ofFn] at hy
      have := hF ⟨i, hlt⟩ j y hy
      rw [Go.WideShapes.add_plain] at this
      rw [← Nat.add_assoc] at this
      exact this
end
set_option maxRecDepth 100000 in
theorem claims_open {H : Type} {enc : TypeId × Value → H} {W : World} {r : Reach} {b0 : Nat} {v : Value} {d : DataW H} {p : List MemPlace} (hv : Value.okWide Try.prog W r b0 24 v)
    (h : DataW.Trod enc Try.prog W 0 (fun _ => true) true 24 v d p) : ∃ (u : Value) (l : List Z.Cl), v = .agg #[u] ∧ SC W u l := by
  obtain ⟨cs, rfl, hsz⟩ := okWide_struct Try.underlying24 hv
  obtain ⟨ls⟩ := cs
  match ls, hsz.trans cells_claims with
  | [c0], _ =>
    obtain ⟨fuel, hf⟩ := h
    obtain ⟨xs, m, _, _, hlen, hxl, hg⟩ := DataW.trod_struct Try.underlying24 hf
    match xs, hxl with
    | [y0], _ =>
      have q0 : DataW.trod enc Try.prog W 0 (fun _ => true) true m 22 [c0] = some y0 := by have this : DataW.trod enc Try.prog W 0 (fun _ => true) true m 22 (List.take (Try.prog.cellsOf 22) (List.drop 0 [c0])) = some y0 := hg 0 _ rfl; rw [cells_list] at this; exact this
      obtain ⟨l, hl⟩ := sl_open Try.underlying22 cells_claim (by omega) (fun _ => rfl) claim_cells q0
      exact ⟨c0, l, rfl, hl⟩
set_option maxRecDepth 100000 in
theorem flows_open {H : Type} {enc : TypeId × Value → H} {W : World} {r : Reach} {b0 : Nat} {v : Value} {d : DataW H} {p : List MemPlace} (hv : Value.okWide Try.prog W r b0 25 v)
    (h : DataW.Trod enc Try.prog W 0 (fun _ => true) true 25 v d p) : ∃ (l : List Z.Fl), SF W v l := by
  obtain ⟨a0, len, cap, rfl⟩ := okWide_slice Try.underlying25 hv
  obtain ⟨n, hn⟩ := h
  exact sl_open Try.underlying25 cells_flow (by omega) (fun _ => rfl) flow_cells hn
end Go.Proofs.Ytdjghmpaopfboaa
