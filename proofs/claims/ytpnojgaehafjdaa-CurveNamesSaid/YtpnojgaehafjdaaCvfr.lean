/- Words for the laws' frames: curves and quotes that came in; an argument that stays. -/
import Derived.Test.YtpnojgaehafjdaaCvm
import Derived.ProofKit
import Derived.OpenShut
import Derived.ShutString
import Derived.Lib.SmallJoins
import Derived.Deep.Slices
import Derived.Deep.Fields
import Derived.ChangeSame
namespace Go.Proofs.Ytpnojgaehafjdaa
open Go.ChangeShapes Go.WideShapes Go.ChangeAt Go.RowKit Go.Joins Go.Deep

theorem laidOut : laidOutB Try.prog = true := by kernel_rfl
theorem arg_stays {H : Type} {enc : TypeId × Value → H} {W W' : World} {t : TypeId} {v : Value} {d : DataW H} {p : List MemPlace} (hr : Try.prog.readableRec t = true) (hrow : t < Try.prog.types.size)
    (h : DataW.Trod enc Try.prog W 0 (fun _ => true) true t v d p) (hb : Below W.heap.size W W') : DataW.Trod enc Try.prog W' 0 (fun b => decide (b < W.heap.size)) true t v d p := by
  have h2 := h
  obtain ⟨n, hn⟩ := h
  exact Below.trod laidOut hr hrow h2 hb (DataW.trod_lt n t _ _ hn)
theorem cells_int : Try.prog.cellsOf 3 = 1 := by kernel_rfl
theorem cells_rat : Try.prog.cellsOf 35 = 1 := by kernel_rfl
theorem cells_point : Try.prog.cellsOf 37 = 2 := by kernel_rfl
theorem cells_quote : Try.prog.cellsOf 49 = 3 := by kernel_rfl
theorem cells_curve : Try.prog.cellsOf 27 = 2 := by kernel_rfl
theorem cells_pts : Try.prog.cellsOf 25 = 1 := by kernel_rfl
theorem cells_ints : Try.prog.cellsOf 46 = 1 := by kernel_rfl
theorem cells_rats : Try.prog.cellsOf 47 = 1 := by kernel_rfl
section
variable {H : Type} {enc : TypeId × Value → H} {W : World} {sp : Nat → Bool} {held : Bool} {n base : Nat} {cs : List Value} {x : DataW H × List MemPlace}
theorem int_cells {c : Value} (h : DataW.trod enc Try.prog W base sp held n 3 [c] = some x) : ∃ a : Int, c = .int .i64 a := by
  obtain ⟨a, e, _⟩ := DataW.trod_int Try.underlying3 h
  injection e with e _
  exact ⟨a, e⟩
theorem rat_cells {c : Value} (h : DataW.trod enc Try.prog W base sp held n 35 [c] = some x) : ∃ a : ByteArray, c = .string a := by
  obtain ⟨a, e, _⟩ := DataW.trod_string Try.underlying35 h
  injection e with e _
  exact ⟨a, e⟩
theorem sl_open {α : Type} {k : Nat} {enc' : α → List Value} {t e : TypeId} {v : Value} (ht : Try.prog.underlying t = some (.slice e)) (hC : Try.prog.cellsOf e = k) (h0 : 0 < k) (hk : ∀ y, (enc' y).length = k)
    (hcells : ∀ {n : Nat} {cs : List Value} {x : DataW H × List MemPlace}, DataW.trod enc Try.prog W 0 (fun _ => true) true n e cs = some x → ∃ c : α, cs = enc' c)
    (h : DataW.trod enc Try.prog W 0 (fun _ => true) true n t [v] = some x) : ∃ l : List α, SL k enc' W v l := by
  have hpl := DataW.trod_lt n t _ _ h
  rcases open_slice ht h with ⟨hcs, _⟩ | ⟨a, len, cap, m, n', D, Pl, hcs, _, hl, hm, hmm, hx, hi⟩
  · injection hcs with hcs _
    subst hcs
    exact ⟨[], SL.nil_⟩
  · injection hcs with hcs _
    subst hcs
    simp only [if_true] at hmm
    rw [hC] at hx hi
    have hall : ∀ i, i < len → ∃ c : α, ∀ (j : Nat) (y : Value), (enc' c)[j]? = some y → W.cell? (a.add (i * k + j)) = some y := by
      intro i hlt
      obtain ⟨cs', hc, ht'⟩ := hi i (by omega)
      obtain ⟨c, rfl⟩ := hcells ht'
      obtain ⟨_, hcl, hat⟩ := World.cells?_some hc
      refine ⟨c, fun j y hy => ?_⟩
      have hj : j < k := by rw [← hk c]; exact (List.getElem?_eq_some_iff.1 hy).1
      rw [← Go.Deep.add_add, hat j hj, hy]
    have hch : ∃ F : Fin len → α, ∀ i : Fin len, ∀ (j : Nat) (y : Value), (enc' (F i))[j]? = some y → W.cell? (a.add (i.1 * k + j)) = some y := by
      have := fun i : Fin len => hall i.1 i.2
      exact ⟨fun i => Classical.choose (this i), fun i => Classical.choose_spec (this i)⟩
    obtain ⟨F, hF⟩ := hch
    refine ⟨List.ofFn F, some a, cap, by rw [List.length_ofFn], by rw [List.length_ofFn]; exact hl, hm, fun hp => ?_⟩
    rw [List.length_ofFn] at hp
    obtain ⟨b, off, spot⟩ := a
    obtain ⟨y, hy⟩ : ∃ y, (enc' (F ⟨0, hp⟩))[0]? = some y := ⟨_, List.getElem?_eq_getElem (by rw [hk]; exact h0)⟩
    have hspot : spot = none := by simpa [Addr.add] using World.cell?_spot (hF ⟨0, hp⟩ 0 y hy)
    subst hspot
    refine ⟨b, off, rfl, ?_, fun i d hd j y hy => ?_⟩
    · rw [hx] at hpl
      exact hpl (.cell b off) (List.mem_append_left _ (MemPlace.mem_row.2 ⟨0, Nat.mul_pos (by omega) h0, by simp⟩))
    · obtain ⟨hlt, rfl⟩ := List.getElem?_eq_some_iff.1 hd
      rw [List.length_ofFn] at hlt
      rw [List.getElem_ofFn] at hy
      have := hF ⟨i, hlt⟩ j y hy
      rw [Go.WideShapes.add_plain] at this
      rw [← Nat.add_assoc] at this
      exact this
theorem d_cells (h : DataW.trod enc Try.prog W base sp held n 3 cs = some x) : ∃ d : Int, cs = dE d := by
  obtain ⟨a, e, _⟩ := DataW.trod_int Try.underlying3 h
  exact ⟨a, e⟩
theorem s_cells (h : DataW.trod enc Try.prog W base sp held n 35 cs = some x) : ∃ s : ByteArray, cs = sE s := by
  obtain ⟨a, e, _⟩ := DataW.trod_string Try.underlying35 h
  exact ⟨a, e⟩
set_option maxRecDepth 100000 in
theorem point_cells (h : DataW.trod enc Try.prog W 0 (fun _ => true) true n 37 cs = some x) : ∃ p : Z.Pt, cs = p.vs := by
  obtain ⟨xs, m, _, _, hlen, hxl, hf⟩ := DataW.trod_struct Try.underlying37 h
  rw [cells_point] at hlen
  match cs, hlen with
  | [c0, c1], _ =>
    match xs, hxl with
    | [y0, y1], _ =>
      have q0 : DataW.trod enc Try.prog W 0 (fun _ => true) true m 3 [c0] = some y0 := by have this : DataW.trod enc Try.prog W 0 (fun _ => true) true m 3 (List.take (Try.prog.cellsOf 3) (List.drop 0 [c0, c1])) = some y0 := hf 0 _ rfl; rw [cells_int] at this; exact this
      have q1 : DataW.trod enc Try.prog W 0 (fun _ => true) true m 35 [c1] = some y1 := by have this : DataW.trod enc Try.prog W 0 (fun _ => true) true m 35 (List.take (Try.prog.cellsOf 35) (List.drop 1 [c0, c1])) = some y1 := hf 1 _ rfl; rw [cells_rat] at this; exact this
      obtain ⟨a0, rfl⟩ := int_cells q0
      obtain ⟨a1, rfl⟩ := rat_cells q1
      exact ⟨⟨a0, a1⟩, rfl⟩
/-- A quote that reads well in W. -/
abbrev QG (W : World) : Type := {r : QV // ∃ q : Z.Qt, QOk W r q}
set_option maxRecDepth 100000 in
theorem quote_cells (h : DataW.trod enc Try.prog W 0 (fun _ => true) true n 49 cs = some x) : ∃ r : QG W, cs = r.1.vs := by
  obtain ⟨xs, m, _, _, hlen, hxl, hf⟩ := DataW.trod_struct Try.underlying49 h
  rw [cells_quote] at hlen
  match cs, hlen with
  | [c0, c1, c2], _ =>
    match xs, hxl with
    | [y0, y1, y2], _ =>
      have q0 : DataW.trod enc Try.prog W 0 (fun _ => true) true m 46 [c0] = some y0 := by have this : DataW.trod enc Try.prog W 0 (fun _ => true) true m 46 (List.take (Try.prog.cellsOf 46) (List.drop 0 [c0, c1, c2])) = some y0 := hf 0 _ rfl; rw [cells_ints] at this; exact this
      have q1 : DataW.trod enc Try.prog W 0 (fun _ => true) true m 47 [c1] = some y1 := by have this : DataW.trod enc Try.prog W 0 (fun _ => true) true m 47 (List.take (Try.prog.cellsOf 47) (List.drop 1 [c0, c1, c2])) = some y1 := hf 1 _ rfl; rw [cells_rats] at this; exact this
      have q2 : DataW.trod enc Try.prog W 0 (fun _ => true) true m 35 [c2] = some y2 := by have this : DataW.trod enc Try.prog W 0 (fun _ => true) true m 35 (List.take (Try.prog.cellsOf 35) (List.drop 2 [c0, c1, c2])) = some y2 := hf 2 _ rfl; rw [cells_rat] at this; exact this
      obtain ⟨l0, h0⟩ := sl_open Try.underlying46 cells_int (by omega) dE_len d_cells q0
      obtain ⟨l1, h1⟩ := sl_open Try.underlying47 cells_rat (by omega) sE_len s_cells q1
      obtain ⟨a2, rfl⟩ := rat_cells q2
      exact ⟨⟨⟨c0, c1, a2⟩, ⟨l0, l1, a2⟩, h0, h1, rfl⟩, rfl⟩
theorem sl_map {α β : Type} {k : Nat} {enc' : α → List Value} {f : β → α} {v : Value} {l : List β} (h : SL k (fun c => enc' (f c)) W v l) : SL k enc' W v (l.map f) := by
  obtain ⟨A, c, hv, h1, h2, h3⟩ := h
  refine ⟨A, c, by rw [List.length_map]; exact hv, by rw [List.length_map]; exact h1, h2, fun hp => ?_⟩
  rw [List.length_map] at hp
  obtain ⟨b, o, hA, hlt, hc⟩ := h3 hp
  refine ⟨b, o, hA, hlt, fun i d hd j x hx => ?_⟩
  rw [List.getElem?_map, Option.map_eq_some_iff] at hd
  obtain ⟨y, hy, rfl⟩ := hd
  exact hc i y hy j x hx
end
set_option maxRecDepth 100000 in
theorem curve_open {H : Type} {enc : TypeId × Value → H} {W : World} {r : Reach} {b0 : Nat} {v : Value} {d : DataW H} {p : List MemPlace} (hv : Value.okWide Try.prog W r b0 27 v)
    (h : DataW.Trod enc Try.prog W 0 (fun _ => true) true 27 v d p) : ∃ (u : Value) (c : Z.Cu), v = .agg #[.int .i64 c.base, u] ∧ SP W u c.pts := by
  obtain ⟨cs, rfl, hsz⟩ := okWide_struct Try.underlying27 hv
  obtain ⟨ls⟩ := cs
  match ls, hsz.trans cells_curve with
  | [c0, c1], _ =>
    obtain ⟨fuel, hf⟩ := h
    obtain ⟨xs, m, _, _, hlen, hxl, hg⟩ := DataW.trod_struct Try.underlying27 hf
    match xs, hxl with
    | [y0, y1], _ =>
      have q0 : DataW.trod enc Try.prog W 0 (fun _ => true) true m 3 [c0] = some y0 := by have this : DataW.trod enc Try.prog W 0 (fun _ => true) true m 3 (List.take (Try.prog.cellsOf 3) (List.drop 0 [c0, c1])) = some y0 := hg 0 _ rfl; rw [cells_int] at this; exact this
      have q1 : DataW.trod enc Try.prog W 0 (fun _ => true) true m 25 [c1] = some y1 := by have this : DataW.trod enc Try.prog W 0 (fun _ => true) true m 25 (List.take (Try.prog.cellsOf 25) (List.drop 1 [c0, c1])) = some y1 := hg 1 _ rfl; rw [cells_pts] at this; exact this
      obtain ⟨a0, rfl⟩ := int_cells q0
      obtain ⟨l, hl⟩ := sl_open Try.underlying25 cells_point (by omega) Z.Pt.vs_len point_cells q1
      exact ⟨c1, ⟨a0, l⟩, rfl, hl⟩
set_option maxRecDepth 100000 in
theorem quotes_open {H : Type} {enc : TypeId × Value → H} {W : World} {r : Reach} {b0 : Nat} {v : Value} {d : DataW H} {p : List MemPlace} (hv : Value.okWide Try.prog W r b0 22 v)
    (h : DataW.Trod enc Try.prog W 0 (fun _ => true) true 22 v d p) : ∃ (l : List Z.Qt), SQ W v l := by
  obtain ⟨a0, len, cap, rfl⟩ := okWide_slice Try.underlying22 hv
  obtain ⟨n, hn⟩ := h
  obtain ⟨l, hl⟩ := sl_open (enc' := fun r : QG W => r.1.vs) Try.underlying22 cells_quote (by omega) (fun _ => rfl) quote_cells hn
  refine ⟨l.map fun r => Classical.choose r.2, l.map Subtype.val, sl_map hl, by rw [List.length_map, List.length_map], fun i r q hr hq => ?_⟩
  rw [List.getElem?_map, Option.map_eq_some_iff] at hr hq
  obtain ⟨y, hy, rfl⟩ := hr
  obtain ⟨z, hz, rfl⟩ := hq
  rw [hy] at hz
  injection hz with hz
  subst hz
  exact Classical.choose_spec y.2
end Go.Proofs.Ytpnojgaehafjdaa
