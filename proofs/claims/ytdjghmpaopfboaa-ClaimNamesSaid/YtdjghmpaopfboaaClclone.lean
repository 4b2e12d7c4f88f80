/- Walk: slices.Clone of claims; append as an effect of a calm region. -/
import Derived.Test.YtdjghmpaopfboaaClqj
import Derived.Lib.LazyBuf
namespace Go.Proofs.Ytdjghmpaopfboaa
open Go.RowKit
theorem Z.flat_inv {α : Type} {enc : α → List Value} {k : Nat} (hk : ∀ y, (enc y).length = k) : ∀ {l : List α} {j : Nat} {u : Value}, (l.flatMap enc)[j]? = some u → ∃ i d r, l[i]? = some d ∧ (enc d)[r]? = some u ∧ j = i * k + r
  | [], j, u, h => by simp at h
  | y :: t, j, u, h => by
    rw [List.flatMap_cons] at h
    rcases Nat.lt_or_ge j k with hj | hj
    · rw [List.getElem?_append_left (by rw [hk]; exact hj)] at h
      exact ⟨0, y, j, rfl, h, by omega⟩
    · rw [List.getElem?_append_right (by rw [hk]; exact hj), hk] at h
      obtain ⟨i, d, r, h1, h2, h3⟩ := Z.flat_inv hk h
      exact ⟨i + 1, d, r, h1, h2, by rw [Nat.succ_mul]; omega⟩
theorem eqlnil (w : World) (a : Option Addr) (n c : Nat) : (binOp .eql 22 (.slice a n c) (.slice none 0 0)).run Try.prog w = .ok (.bool a.isNone) w := by
  exact Go.run_eql_slice_nil w 22 38 a n c Try.underlying22
set_option maxRecDepth 100000 in
theorem clone_any (v : Value) (l : List Z.Cl) (w : World) (hS : SC w v l) (hl : l.length ≤ 10000) :
    Calls Try.prog 33 #[v] w fun e w' => ∃ v', e = .returned v' ∧ OC w' w.heap.size v' l ∧ Below w.heap.size w w' := by
  have HS := Lib.hid hS
  obtain ⟨A, c, rfl, hlc, hcm, hcell⟩ := hS
  cases A with
  | none =>
    have h0 : l = [] := by
      rcases Nat.eq_zero_or_pos l.length with h | h
      · exact List.eq_nil_of_length_eq_zero h
      · obtain ⟨_, _, h1, _⟩ := hcell h
        cases h1
    subst h0
    have hg1 := eqlnil w (none) (0) c
    go_enter Try.func33, Try.ntmps33
    go_wp2_with fail
    go_ret
    exact ⟨_, rfl, OL.nil_, Below.refl _ _⟩
  | some ad =>
    have hb1 := (Below.refl _ w).alloc (Nat.le_refl w.heap.size) (.cells #[] 38)
    have hown : (w.alloc (.cells #[] 38)).ownsRow w.heap.size 38 8 (.slice (some ⟨w.heap.size, 0, none⟩) 0 0) 0 [] := ⟨rfl, .inr ⟨w.heap.size, 0, #[], rfl, Nat.le_refl _, Blk.new w 38 #[], Nat.zero_le _, Nat.zero_le _, rfl, rfl⟩⟩
    have hnews : ∀ j u, (l.flatMap Z.Cl.vs)[j]? = some u → (w.alloc (.cells #[] 38)).cell? (ad.add j) = some u := by
      intro j u hu
      obtain ⟨i, d, r, h1, h2, rfl⟩ := Z.flat_inv Z.Cl.vs_len hu
      obtain ⟨b, o, hA, hbl, hcj⟩ := hcell (by have := (List.getElem?_eq_some_iff.1 h1).1; omega)
      injection hA with hA
      subst hA
      rw [Go.WideShapes.add_plain, ← Nat.add_assoc]
      exact (hb1.cell (p := ⟨b, o + i * 8 + r, none⟩) hbl).trans (hcj i d h1 r u h2)
    have h1 : ∀ u ∈ l.flatMap Z.Cl.vs, u.oneCell' = true := by
      intro u hu
      obtain ⟨d, _, hd⟩ := List.mem_flatMap.1 hu
      exact Z.Cl.one d u hd
    obtain ⟨i, z, hi, hz, hsz, hbs, hzs⟩ := infoC
    have hg1 := eqlnil w (some ad) (l.length) c
    have HFIN := Lib.hid (And.intro hown (And.intro hnews h1))
    clear hown hnews h1 hcell
    go_enter Try.func33, Try.ntmps33
    go_wp2_with (at_builtin; go_loud (refine wpList_append_own _ rfl _ _ _ rfl w.heap.size 38 i z 8 96 Try.underlying22 hi hz hsz hbs hzs (by omega) (.slice (some ⟨w.heap.size, 0, none⟩) 0 0) 0 [] rfl HFIN.out.1 ad l.length c (l.flatMap Z.Cl.vs) rfl (Z.flat_len Z.Cl.vs_len l) HFIN.out.2.1 HFIN.out.2.2 (by unfold maxLen; omega) (by omega) hb1.size ?_; intro v' w' hown' hg' _))
    go_ret
    have hge : ∀ k, (Value.slice (some ⟨w.heap.size, 0, none⟩) 0 0).ownBlock = some k → w.heap.size ≤ k := by
      intro k hk
      have : w.heap.size = k := by simpa [Value.ownBlock] using hk
      omega
    refine ⟨_, rfl, ?_, hb1.grown hg' hb1.size hge⟩
    unfold OC OL
    simpa using hown'
theorem fx_appC {ops : Array Oper} {C : World → Prop} {m k : Nat} {R : Act → World → Prop} {rest : List Oper} {o : Oper} {a : Act} (hgd : o.guard = none) (s x : Operand)
    (ho : o.op = .call { callee := .builtin .append, args := #[s, x], argTypes := #[22, 22] })
    (w : World) (B : Nat) (v : Value) (l : List Z.Cl) (y : Z.Cl) (arr : Array Value) (harr : arr = y.vs.toArray) (hs : a.eval s = v) (hown : OC w B v l) (hx : a.eval x = .slice (some ⟨w.heap.size, 0, none⟩) 1 1)
    (hlen : l.length ≤ 20000) (hB : B ≤ w.heap.size)
    (h : ∀ A' m' c' w', OC w' B (.slice A' m' c') (l ++ [y]) → m' = l.length + 1 → Below B w w' → w.grownBy w' v.ownBlock → (k < m → C w') ∧ fxList Try.prog ops C m R rest (k + 1) (a.put o.dst (.slice A' m' c')) w') :
    fxList Try.prog ops C m R (o :: rest) k a (w.alloc (.cells arr 38)) := by
  subst harr
  obtain ⟨i, z, hi, hz, hsz, hbs, hzs⟩ := infoC
  have hsz1 : (w.alloc (.cells y.vs.toArray 38)).heap.size = w.heap.size + 1 := Array.size_push _
  obtain ⟨v', w', hrun, hown', hg, _, _⟩ := run_append_own_at (P := Try.prog) (w := w.alloc (.cells y.vs.toArray 38)) B 22 o.type 38 i z 8 96 Try.underlying22 hi hz hsz hbs hzs (by omega) v l.length (l.flatMap Z.Cl.vs) (World.ownsRow.alloc hown _) ⟨w.heap.size, 0, none⟩ 1 1 y.vs rfl (fun j u hu => by
    rw [Go.WideShapes.add_plain, Nat.zero_add, (Blk.new w 38 _).cell j]
    simpa using hu) (Z.Cl.one y) (by unfold maxLen; omega) (by omega) (by rw [hsz1]; omega)
  obtain ⟨A', m', c', rfl, hm'⟩ : ∃ A' m' c', v' = .slice A' m' c' ∧ m' = l.length + 1 := by
    rcases hown'.2 with ⟨h1, h2⟩ | ⟨g, cap, cur, h1, _⟩
    · omega
    · exact ⟨_, _, _, h1, rfl⟩
  have hh := h A' m' c' w' ?_ hm' ?_ ?_
  · exact fx_value hgd (by simp [execOp, ho, resolve, invoke, builtin, hs, hx, hrun, Result.andThen]) hh.1 hh.2
  · unfold OC OL
    rw [List.flatMap_append, List.length_append]
    simpa using hown'
  · exact ((Below.refl B w).alloc hB _).grown hg (by rw [hsz1]; omega) (fun k hk => (World.ownsRow.lt hown k hk).1)
  · exact (World.grownBy_alloc w _ _).trans hg
theorem OL.shape {α : Type} {k : Nat} {enc : α → List Value} {e : TypeId} {w : World} {B : Nat} {v : Value} {l : List α} (h : OL k enc e w B v l) : ∃ A c, v = .slice A l.length c := by
  rcases h.2 with ⟨rfl, h0⟩ | ⟨g, cap, cur, rfl, _⟩
  · exact ⟨none, 0, by rw [h0]⟩
  · exact ⟨_, _, rfl⟩
theorem OL.ne_row {α β : Type} {k k' : Nat} {enc : α → List Value} {enc' : β → List Value} {e e' : TypeId} {w : World} {B B' : Nat} {v v' : Value} {l : List α} {l' : List β} (h : OL k enc e w B v l) (h' : OL k' enc' e' w B' v' l') (hne : e ≠ e') : ∀ j, v.ownBlock = some j → some j ≠ v'.ownBlock := by
  intro j hj
  rcases h.2 with ⟨rfl, _⟩ | ⟨g, cap, cur, rfl, _, hgb, _⟩
  · simp [Value.ownBlock] at hj
  · obtain rfl : g = j := by simpa [Value.ownBlock] using hj
    have hb : Blk w g e cur := hgb
    exact hb.not_row hne h'
theorem Z.rm_len (op : List Z.Cl) (c : Z.Fl → Nat) : ∀ k, (Z.rm op c k).length ≤ k
  | 0 => Nat.le_refl _
  | k + 1 => by
    have ih := Z.rm_len op c k
    show (match op[k]? with | some x => if Z.cntO (op.take k) x.fl < c x.fl then Z.rm op c k else Z.rm op c k ++ [x] | none => Z.rm op c k).length ≤ k + 1
    cases op[k]? with
    | none => simp only; omega
    | some f =>
      simp only
      split
      · omega
      · rw [List.length_append]; simp; omega
theorem Z.foldR_len (en : Int) : ∀ (r : List Z.Cl) (l : List Z.Cl), (r.foldl (Z.addR en) l).length = l.length + r.length
  | [], l => by simp
  | x :: r, l => by
    rw [List.foldl_cons, Z.foldR_len en r]
    unfold Z.addR
    rw [List.length_append, List.length_cons, List.length_cons, List.length_nil]
    omega
theorem Z.foldF_len (en : Int) : ∀ (r : List Z.Fl) (l : List Z.Cl), (r.foldl (Z.addF en) l).length = l.length + r.length
  | [], l => by simp
  | x :: r, l => by
    rw [List.foldl_cons, Z.foldF_len en r]
    unfold Z.addF
    rw [List.length_append, List.length_cons, List.length_cons, List.length_nil]
    omega
end Go.Proofs.Ytdjghmpaopfboaa
