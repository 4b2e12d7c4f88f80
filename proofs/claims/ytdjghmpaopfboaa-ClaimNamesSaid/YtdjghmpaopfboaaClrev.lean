/- Walk: claim.reversed. -/
import Derived.Test.YtdjghmpaopfboaaClflow
import Derived.Test.YtdjghmpaopfboaaAbt
import Derived.Test.YtdjghmpaopfboaaZclr
namespace Go.Proofs.Ytdjghmpaopfboaa
open Go.RowKit
/-- Block g holds these truth values. -/
def OB (w : World) (g : Nat) (bs : List Bool) : Prop := Blk w g 4 (bs.map Value.bool).toArray
section
variable {w w' : World} {g : Nat} {bs : List Bool}
theorem OB.below (h : OB w g bs) (hb : Below w.heap.size w w') : OB w' g bs := Blk.below h hb
theorem OB.at_ (h : OB w g bs) {j : Nat} {b : Bool} (hj : bs[j]? = some b) : w.cell? ⟨g, j, none⟩ = some (.bool b) := by
  rw [Blk.cell h j]
  simp [hj]
theorem OB.set (h : OB w g bs) (j : Nat) (b : Bool) : OB (w.setCell ⟨g, j, none⟩ (.bool b)) g (bs.set j b) := by
  have := Blk.set h j (.bool b)
  unfold OB
  rw [List.map_set, ← List.setIfInBounds_toArray]
  exact this
theorem sf_one (w : World) (f : Z.Fl) : SF (w.alloc (.cells #[.int .i64 f.d, .string f.f, .string f.t, .string f.c, .string f.a] 36)) (.slice (some ⟨w.heap.size, 0, none⟩) 1 1) [f] := by
  refine ⟨_, 1, rfl, Nat.le_refl _, by unfold maxLen; omega, fun _ => ⟨w.heap.size, 0, rfl, by simp, fun i d hd j y hy => ?_⟩⟩
  have hi : i = 0 := by have := (List.getElem?_eq_some_iff.1 hd).1; simp at this; omega
  subst hi
  simp at hd
  subst hd
  rw [show 0 + 0 * 5 + j = j by omega, (Blk.new w 36 _).cell j, ← hy]
  unfold Z.Fl.vs
  simp
theorem infoBool : ∃ i, Try.prog.info? 4 = some i ∧ i.zero = some (.bool false) ∧ i.size = 1 ∧ i.bytes = 1 := by
  have h : (Try.prog.info? 4).map (fun i => (i.zero, i.size, i.bytes)) = some (some (.bool false), 1, 1) := by kernel_rfl
  rw [Option.map_eq_some_iff] at h
  obtain ⟨i, hi, he⟩ := h
  simp only [Prod.mk.injEq] at he
  exact ⟨i, hi, he.1, he.2.1, he.2.2⟩
theorem mkB {ops : Array Oper} {rest : List Oper} {o : Oper} {a : Act} {Q : Exit → Act → World → Prop} (hg : o.guard = none) (l c : Operand) (hop : o.op = Op.makeSlice 69 l c)
    (w : World) (C : Int) (n : Nat) (hl : a.eval l = .int .i64 C) (hc : a.eval c = .int .i64 C) (hC : C = (n : Int)) (hn : n ≤ 20000)
    (h : ∀ w', OB w' w.heap.size (List.replicate n false) → Below w.heap.size w w' → wpList Try.prog ops Q rest (a.put o.dst (.slice (some ⟨w.heap.size, 0, none⟩) n n)) w') :
    wpList Try.prog ops Q (o :: rest) a w := by
  obtain ⟨i, hi, hz, h1, h2⟩ := infoBool
  refine wpList_make_full w hg l c 69 hop w.heap.size 4 i (.bool false) 1 Try.underlying69 hi hz h1 .i64 .i64 C C n hl hc hC hC (by rw [h2]; omega) (by unfold maxLen; omega) (Nat.le_refl _) ?_
  intro w' hown hg
  refine h w' ?_ ⟨hg.os, hg.tape, hg.output, hg.size, fun k hk => hg.block k hk (by simp)⟩
  obtain ⟨_, h3⟩ := hown
  rcases h3 with ⟨h3, _⟩ | ⟨g, cap, cur, h3, _, h4, _, _, h5, h6⟩
  · cases h3
  · simp only [Value.slice.injEq, Option.some.injEq, Addr.mk.injEq, and_true, true_and] at h3
    obtain ⟨rfl, rfl⟩ := h3
    have e1 : cur = ((List.replicate n false).map Value.bool).toArray := by
      have : cur.toList = (List.replicate n false).map Value.bool := by
        rw [List.take_of_length_le (by simp at h5 ⊢; omega)] at h6
        rw [h6, Nat.mul_one]
        show (madeCells #[Value.bool false] n).toList = _
        rw [toList_madeCells_one]
        simp
      rw [← this]
    unfold OB Blk
    rw [← e1]
    exact h4
end
theorem opposite_any (f : Z.Fl) (w : World) : Calls Try.prog 34 #[.agg #[.int .i64 f.d, .string f.f, .string f.t, .string f.c, .string f.a]] w fun e w' => e = .returned (.agg #[.int .i64 f.d, .string f.t, .string f.f, .string f.c, .string f.a]) ∧ Below w.heap.size w w' := by
  have hs : (w.alloc (.cells #[.int .i64 f.d, .string f.t, .string f.f, .string f.c, .string f.a] 36)).heap.size = w.heap.size + 1 := Array.size_push _
  have hb1 := (Below.refl _ w).alloc (Nat.le_refl w.heap.size) (.cells #[.int .i64 f.d, .string f.t, .string f.f, .string f.c, .string f.a] 36)
  have hb := hb1.trans (((Below.refl _ (w.alloc (.cells #[.int .i64 f.d, .string f.t, .string f.f, .string f.c, .string f.a] 36))).alloc (Nat.le_refl _) (.cells #[.int .i64 f.d, .string f.t, .string f.f, .string f.c, .string f.a] 36)).mono hb1.size)
  have BY := Blk.new (w.alloc (.cells #[.int .i64 f.d, .string f.t, .string f.f, .string f.c, .string f.a] 36)) 36 #[.int .i64 f.d, .string f.t, .string f.f, .string f.c, .string f.a]
  rw [hs] at BY
  have q0 := BY.cell 0
  have q1 := BY.cell 1
  have q2 := BY.cell 2
  have q3 := BY.cell 3
  have q4 := BY.cell 4
  clear BY hs hb1
  go_enter Try.func34, Try.ntmps34
  go_wp2_with fail
  generalize ((w.alloc (.cells #[.int .i64 f.d, .string f.t, .string f.f, .string f.c, .string f.a] 36)).alloc (.cells #[.int .i64 f.d, .string f.t, .string f.f, .string f.c, .string f.a] 36)) = W at *
  refine bodyPost_ret (v := .agg #[.int .i64 f.d, .string f.t, .string f.f, .string f.c, .string f.a]) (by simp [results, Try.results34, go_sem, q0, q1, q2, q3, q4]) rfl ?_
  exact ⟨rfl, hb⟩
end Go.Proofs.Ytdjghmpaopfboaa
