/- Walk: append of a whole list of claims behind an empty own row; append as an effect of a region. -/
import Derived.Test.YtdjghmpaopfboaaClclone
namespace Go.Proofs.Ytdjghmpaopfboaa
open Go.RowKit
theorem run_app0 (W : World) (ty : TypeId) (g c : Nat) : (Builtin.append_ #[22, 22] ty #[.slice (some ⟨g, 0, none⟩) 0 0, .slice none 0 c]).run Try.prog W = .ok (.slice (some ⟨g, 0, none⟩) 0 0) W := by
  obtain ⟨i, z, hi, _⟩ := infoC
  simp [Builtin.append_, run_underlying Try.underlying22, sizeOf, typeInfo, hi, Builtin.lenOf, Builtin.firstCells, storeCells]
/-- A whole list of claims behind an empty own row. -/
theorem appAll {ops : Array Oper} {rest : List Oper} {o : Oper} {a : Act} {Q : Exit → Act → World → Prop} (hgd : o.guard = none) (s x : Operand)
    (ho : o.op = .call { callee := .builtin .append, args := #[s, x], argTypes := #[22, 22] })
    (w : World) (v : Value) (l : List Z.Cl) (hS : SC w v l) (hl : l.length ≤ 10000) (hs : a.eval s = .slice (some ⟨w.heap.size, 0, none⟩) 0 0) (hx : a.eval x = v)
    (h : ∀ A' m c' w', m = l.length → OC w' w.heap.size (.slice A' m c') l → Below w.heap.size w w' → wpList Try.prog ops Q rest (a.put o.dst (.slice A' m c')) w') :
    wpList Try.prog ops Q (o :: rest) a (w.alloc (.cells #[] 38)) := by
  have hb1 := (Below.refl _ w).alloc (Nat.le_refl w.heap.size) (.cells #[] 38)
  have hown : (w.alloc (.cells #[] 38)).ownsRow w.heap.size 38 8 (.slice (some ⟨w.heap.size, 0, none⟩) 0 0) 0 [] := ⟨rfl, .inr ⟨w.heap.size, 0, #[], rfl, Nat.le_refl _, Blk.new w 38 #[], Nat.zero_le _, Nat.zero_le _, rfl, rfl⟩⟩
  obtain ⟨A, c, rfl, hlc, hcm, hcell⟩ := hS
  cases A with
  | none =>
    have h0 : l = [] := by
      rcases Nat.eq_zero_or_pos l.length with h | h
      · exact List.eq_nil_of_length_eq_zero h
      · obtain ⟨_, _, h1, _⟩ := hcell h
        cases h1
    subst h0
    refine wpList_plain hgd fun _ hK => ?_
    unfold Oper.wp execOp
    simp only [ho, resolve, invoke, builtin, Sem.run_bind, Sem.run_pure, Result.andThen_ok, List.map_toArray, List.map_cons, List.map_nil, hs, hx, List.length_nil, run_app0]
    exact hK _ _ (h _ _ _ _ rfl hown hb1)
  | some ad =>
    have hnews : ∀ j u, (l.flatMap Z.Cl.vs)[j]? = some u → (w.alloc (.cells #[] 38)).cell? (ad.add j) = some u := by
      intro j u hu
      obtain ⟨i, d, r, h1, h2, rfl⟩ := Z.flat_inv Z.Cl.vs_len hu
      obtain ⟨b, o, hA, hbl, hcj⟩ := hcell (by have := (List.getElem?_eq_some_iff.1 h1).1; omega)
      injection hA with hA
      subst hA
      rw [Go.WideShapes.add_plain, ← Nat.add_assoc]
      exact (hb1.cell (p := ⟨b, o + i * 8 + r, none⟩) hbl).trans (hcj i d h1 r u h2)
    have h1 : ∀ u ∈ l.flatMap Z.Cl.vs, u.oneCell' = true := by
      intro u hu
      obtain ⟨d, _, hd⟩ := List.mem_flatMap.1 hu
      exact Z.Cl.one d u hd
    obtain ⟨i, z, hi, hz, hsz, hbs, hzs⟩ := infoC
    refine wpList_append_own _ hgd _ _ _ ho w.heap.size 38 i z 8 96 Try.underlying22 hi hz hsz hbs hzs (by omega) (.slice (some ⟨w.heap.size, 0, none⟩) 0 0) 0 [] hs hown ad l.length c (l.flatMap Z.Cl.vs) hx (Z.flat_len Z.Cl.vs_len l) hnews h1 (by unfold maxLen; omega) (by omega) hb1.size ?_
    intro v' w' hown' hg' _
    have hge : ∀ k, (Value.slice (some ⟨w.heap.size, 0, none⟩) 0 0).ownBlock = some k → w.heap.size ≤ k := by
      intro k hk
      have : w.heap.size = k := by simpa [Value.ownBlock] using hk
      omega
    have hO : OC w' w.heap.size v' l := by
      unfold OC OL
      simpa using hown'
    obtain ⟨A', c', rfl⟩ := hO.shape
    exact h A' l.length c' w' rfl hO (hb1.grown hg' hb1.size hge)
end Go.Proofs.Ytdjghmpaopfboaa
