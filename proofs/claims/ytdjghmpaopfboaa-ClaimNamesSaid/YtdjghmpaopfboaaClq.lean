/- Queues of numbers: append as a step of a region that draws its order. -/
import Derived.Test.YtdjghmpaopfboaaClown
import Derived.Test.YtdjghmpaopfboaaClmap
import Derived.Deep.RegionLaw
import Derived.Maps.AppendAt
import Derived.Test.YtdjghmpaopfboaaCmu
namespace Go.Proofs.Ytdjghmpaopfboaa
open Go.RowKit
def ei (z : Int) : List Value := [.int .i64 z]
abbrev OQ := OL 1 ei 3
theorem ei_len (z : Int) : (ei z).length = 1 := rfl
theorem infoI : ∃ i z, Try.prog.info? 3 = some i ∧ i.zero = some z ∧ i.size = 1 ∧ i.bytes = 8 ∧ z.cells.size = 1 := by
  have h : ((Try.prog.info? 3).bind fun i => i.zero.map fun z => (i.size, i.bytes, z.cells.size)) = some (1, 8, 1) := by kernel_rfl
  rw [Option.bind_eq_some_iff] at h
  obtain ⟨i, hi, he⟩ := h
  rw [Option.map_eq_some_iff] at he
  obtain ⟨z, hz, he⟩ := he
  simp only [Prod.mk.injEq] at he
  exact ⟨i, z, hi, hz, he.1, he.2.1, he.2.2⟩
theorem step_appQ {ops : Array Oper} {o : Oper} {a : Act} {K : Act → World → Prop} {Q : Exit → Act → World → Prop} {E : Prop} (hgd : o.guard = none) (s x : Operand)
    (ho : o.op = .call { callee := .builtin .append, args := #[s, x], argTypes := #[68, 68] })
    (w : World) (B : Nat) (v : Value) (zs : List Int) (n : Int) (hs : a.eval s = v) (hown : OQ w B v zs) (hx : a.eval x = .slice (some ⟨w.heap.size, 0, none⟩) 1 1)
    (hlen : zs.length ≤ 20000) (hB : B ≤ w.heap.size)
    (h : ∀ A' m' c' w', OQ w' B (.slice A' m' c') (zs ++ [n]) → Below B w w' → w.grownBy w' v.ownBlock → (Value.ownBlock (.slice A' m' c') = v.ownBlock ∨ ∀ k, Value.ownBlock (.slice A' m' c') = some k → w.heap.size ≤ k) → K (a.put o.dst (.slice A' m' c')) w') :
    if Region.wanted o (yielded ops a.tmps) = true then Oper.wp Try.prog o a (w.alloc (.cells #[.int .i64 n] 3)).drew K Q else E := by
  have hw : Region.wanted o (yielded ops a.tmps) = true := by simp [Region.wanted, hgd]
  rw [if_pos hw]
  obtain ⟨i, z, hi, hz, hsz, hbs, hzs⟩ := infoI
  have hsz1 : (w.alloc (.cells #[.int .i64 n] 3)).heap.size = w.heap.size + 1 := Array.size_push _
  obtain ⟨v', w', hrun, hown', hg, _, hat⟩ := run_append_own_at (P := Try.prog) (w := (w.alloc (.cells #[.int .i64 n] 3)).drew) B 68 o.type 3 i z 1 8 Try.underlying68 hi hz hsz hbs hzs (by omega) v zs.length (zs.flatMap ei) (World.ownsRow.alloc hown _) ⟨w.heap.size, 0, none⟩ 1 1 (ei n) rfl (fun j u hu => by
    rw [Go.WideShapes.add_plain, Nat.zero_add]
    show (w.alloc (.cells #[.int .i64 n] 3)).cell? ⟨w.heap.size, j, none⟩ = some u
    rw [(Blk.new w 3 _).cell j]
    simpa [ei] using hu) (by simp [ei, Value.oneCell']) (by unfold maxLen; omega) (by omega) (by show B ≤ (w.alloc _).heap.size; rw [hsz1]; omega)
  have hg' : (w.alloc (.cells #[.int .i64 n] 3)).grownBy w' v.ownBlock := ⟨hg.os, hg.tape, hg.output, hg.size, hg.block⟩
  have hat' : v'.ownBlock = v.ownBlock ∨ v'.ownBlock = some (w.heap.size + 1) := by rw [← hsz1]; exact hat
  obtain ⟨A', m', c', rfl⟩ : ∃ A' m' c', v' = .slice A' m' c' := by
    rcases hown'.2 with ⟨h1, _⟩ | ⟨g, cap, cur, h1, _⟩
    · exact ⟨_, _, _, h1⟩
    · exact ⟨_, _, _, h1⟩
  unfold Oper.wp
  simp [execOp, ho, resolve, invoke, builtin, hs, hx, hrun, Result.andThen]
  refine h A' m' c' w' ?_ ?_ ?_ ?_
  · unfold OQ OL
    rw [List.flatMap_append, List.length_append]
    simpa using hown'
  · exact ((Below.refl B w).alloc hB _).grown hg' (by rw [hsz1]; omega) (fun k hk => (World.ownsRow.lt hown k hk).1)
  · exact (World.grownBy_alloc w _ _).trans hg'
  · rcases hat' with h9 | h9
    · exact .inl h9
    · exact .inr fun k hk => by rw [h9] at hk; injection hk with hk; omega
theorem fx_appQ {ops : Array Oper} {C : World → Prop} {m k : Nat} {R : Act → World → Prop} {rest : List Oper} {o : Oper} {a : Act} (hgd : o.guard = none) (s x : Operand)
    (ho : o.op = .call { callee := .builtin .append, args := #[s, x], argTypes := #[68, 68] })
    (w : World) (B : Nat) (v : Value) (zs : List Int) (n : Int) (hs : a.eval s = v) (hown : OQ w B v zs) (hx : a.eval x = .slice (some ⟨w.heap.size, 0, none⟩) 1 1)
    (hlen : zs.length ≤ 20000) (hB : B ≤ w.heap.size)
    (h : ∀ A' m' c' w', OQ w' B (.slice A' m' c') (zs ++ [n]) → Below B w w' → w.grownBy w' v.ownBlock → (Value.ownBlock (.slice A' m' c') = v.ownBlock ∨ ∀ k, Value.ownBlock (.slice A' m' c') = some k → w.heap.size ≤ k) → (k < m → C w') ∧ fxList Try.prog ops C m R rest (k + 1) (a.put o.dst (.slice A' m' c')) w') :
    fxList Try.prog ops C m R (o :: rest) k a (w.alloc (.cells #[.int .i64 n] 3)).drew := by
  obtain ⟨i, z, hi, hz, hsz, hbs, hzs⟩ := infoI
  have hsz1 : (w.alloc (.cells #[.int .i64 n] 3)).heap.size = w.heap.size + 1 := Array.size_push _
  obtain ⟨v', w', hrun, hown', hg, _, hat⟩ := run_append_own_at (P := Try.prog) (w := (w.alloc (.cells #[.int .i64 n] 3)).drew) B 68 o.type 3 i z 1 8 Try.underlying68 hi hz hsz hbs hzs (by omega) v zs.length (zs.flatMap ei) (World.ownsRow.alloc hown _) ⟨w.heap.size, 0, none⟩ 1 1 (ei n) rfl (fun j u hu => by
    rw [Go.WideShapes.add_plain, Nat.zero_add]
    show (w.alloc (.cells #[.int .i64 n] 3)).cell? ⟨w.heap.size, j, none⟩ = some u
    rw [(Blk.new w 3 _).cell j]
    simpa [ei] using hu) (by simp [ei, Value.oneCell']) (by unfold maxLen; omega) (by omega) (by show B ≤ (w.alloc _).heap.size; rw [hsz1]; omega)
  have hg' : (w.alloc (.cells #[.int .i64 n] 3)).grownBy w' v.ownBlock := ⟨hg.os, hg.tape, hg.output, hg.size, hg.block⟩
  have hat' : v'.ownBlock = v.ownBlock ∨ v'.ownBlock = some (w.heap.size + 1) := by rw [← hsz1]; exact hat
  obtain ⟨A', m', c', rfl⟩ : ∃ A' m' c', v' = .slice A' m' c' := by
    rcases hown'.2 with ⟨h1, _⟩ | ⟨g, cap, cur, h1, _⟩
    · exact ⟨_, _, _, h1⟩
    · exact ⟨_, _, _, h1⟩
  have hh := h A' m' c' w' ?_ ?_ ?_ ?_
  · exact fx_value hgd (by simp [execOp, ho, resolve, invoke, builtin, hs, hx, hrun, Result.andThen]) hh.1 hh.2
  · unfold OQ OL
    rw [List.flatMap_append, List.length_append]
    simpa using hown'
  · exact ((Below.refl B w).alloc hB _).grown hg' (by rw [hsz1]; omega) (fun k hk => (World.ownsRow.lt hown k hk).1)
  · exact (World.grownBy_alloc w _ _).trans hg'
  · rcases hat' with h9 | h9
    · exact .inl h9
    · exact .inr fun k hk => by rw [h9] at hk; injection hk with hk; omega
/-- Another type's block is not a row's. -/
theorem blk_ne_row {w : World} {b B : Nat} {cs : Array Value} {v : Value} {zs : List Int} (h : Blk w b 68 cs) (hO : OQ w B v zs) : some b ≠ v.ownBlock := h.not_row (by decide) hO
/-- The queues: block and slice of each flow's queue; B: the base of what the call makes. -/
def QI (w : World) (B : Nat) (φ : Z.Fl → Option Nat) (ψ : Z.Fl → Value) (Q : Z.Fl → List Int) : Prop :=
  (∀ f b, φ f = some b → B ≤ b ∧ Blk w b 68 #[ψ f] ∧ OQ w B (ψ f) (Q f)) ∧
  (∀ f, φ f = none → Q f = []) ∧
  (∀ f g b, φ f = some b → φ g = some b → f = g) ∧
  (∀ f g b b' k, φ f = some b → φ g = some b' → (ψ f).ownBlock = some k → (ψ g).ownBlock = some k → f = g)
section
variable {w w' : World} {B : Nat} {φ : Z.Fl → Option Nat} {ψ : Z.Fl → Value} {Q : Z.Fl → List Int}
theorem QI.nil_ (w : World) (B : Nat) (ψ : Z.Fl → Value) : QI w B (fun _ => none) ψ (fun _ => []) :=
  ⟨fun _ _ h => by simp at h, fun _ _ => rfl, fun _ _ _ h => by simp at h, fun _ _ _ _ _ h => by simp at h⟩
theorem QI.below (h : QI w B φ ψ Q) (hb : Below w.heap.size w w') : QI w' B φ ψ Q := by
  obtain ⟨h1, h2, h3, h4⟩ := h
  refine ⟨fun f b hf => ?_, h2, h3, h4⟩
  obtain ⟨q1, q2, q3⟩ := h1 f b hf
  exact ⟨q1, q2.below hb, OL.below q3 hb⟩
/-- A block that is a map, not cells. -/
def MapAt (w : World) (D : Nat) : Prop := ∃ es clock, w.heap[D]? = some (.map es clock)
theorem MF.at_ {D n : Nat} (h : MF w D n φ) : MapAt w D := by
  obtain ⟨d, ⟨es, clock, hb, _⟩, _⟩ := h
  exact ⟨es, clock, hb⟩
theorem MapAt.ne_blk {D b : Nat} {t : TypeId} {cs : Array Value} (h : MapAt w D) (hB : Blk w b t cs) : b ≠ D := by
  rintro rfl
  obtain ⟨es, clock, hd⟩ := h
  have hB' : w.heap[b]? = some (.cells cs t (0, 0)) := hB
  rw [hd] at hB'
  cases hB'
theorem MapAt.ne_row {D : Nat} {v : Value} {zs : List Int} (h : MapAt w D) (hO : OQ w B v zs) : some D ≠ v.ownBlock := by
  obtain ⟨es, clock, hd⟩ := h
  rcases hO.2 with ⟨rfl, _⟩ | ⟨g, cap, cur, rfl, _, hgb, _⟩
  · simp [Value.ownBlock]
  · intro e'
    obtain rfl : D = g := by simpa [Value.ownBlock] using e'
    rw [hd] at hgb
    cases hgb
theorem OL.kept {α : Type} {k : Nat} {enc : α → List Value} {e : TypeId} {v : Value} {l : List α} {row : Option Nat} (h : OL k enc e w B v l) (hg : w.grownBy w' row) (hne : ∀ j, v.ownBlock = some j → some j ≠ row) : OL k enc e w' B v l := by
  refine ⟨h.1, ?_⟩
  rcases h.2 with h | ⟨g, cap, cur, h1, h2, h3, h4⟩
  · exact .inl h
  · exact .inr ⟨g, cap, cur, h1, h2, (hg.block g (Array.getElem?_eq_some_iff.1 h3).1 (hne g (by rw [h1]; rfl))).trans h3, h4⟩
/-- An entry of the map is set: the queues stay. -/
theorem QI.map {D : Nat} (h : QI w B φ ψ Q) (hM : MapAt w D) (hg : w.grownBy w' (some D)) : QI w' B φ ψ Q := by
  obtain ⟨h1, h2, h3, h4⟩ := h
  refine ⟨fun f b hf => ?_, h2, h3, h4⟩
  obtain ⟨q1, q2, q3⟩ := h1 f b hf
  refine ⟨q1, q2.kept hg (fun e => hM.ne_blk q2 (Option.some.inj e)), q3.kept hg fun j hj e => ?_⟩
  injection e with e
  subst e
  exact hM.ne_row q3 hj.symm
/-- A new, empty queue. -/
theorem QI.add (h : QI w B φ ψ Q) (hB : B ≤ w.heap.size) {f : Z.Fl} (hf : φ f = none) :
    QI ((w.alloc (.cells #[] 3)).alloc (.cells #[.slice (some ⟨w.heap.size, 0, none⟩) 0 0] 68)) B (fun g => if g = f then some (w.heap.size + 1) else φ g) (fun g => if g = f then .slice (some ⟨w.heap.size, 0, none⟩) 0 0 else ψ g) Q := by
  have hs1 : (w.alloc (.cells #[] 3)).heap.size = w.heap.size + 1 := Array.size_push _
  have hb1 := (Below.refl _ w).alloc (Nat.le_refl w.heap.size) (.cells #[] 3)
  have hb := hb1.alloc (by rw [hs1]; omega) (.cells #[.slice (some ⟨w.heap.size, 0, none⟩) 0 0] 68)
  have BN := Blk.new (w.alloc (.cells #[] 3)) 68 #[.slice (some ⟨w.heap.size, 0, none⟩) 0 0]
  rw [hs1] at BN
  have B0 : Blk ((w.alloc (.cells #[] 3)).alloc (.cells #[.slice (some ⟨w.heap.size, 0, none⟩) 0 0] 68)) w.heap.size 3 #[] := (Blk.new w 3 #[]).alloc _
  have old := h.below hb
  have hlt := h.1
  obtain ⟨h1, h2, h3, h4⟩ := old
  have hrow : ∀ g b k, φ g = some b → (ψ g).ownBlock = some k → k < w.heap.size := fun g b k hg hk => (World.ownsRow.lt (hlt g b hg).2.2 k hk).2
  refine ⟨fun g b hg => ?_, fun g hg => ?_, fun g g' b hg hg' => ?_, fun g g' b b' k hg hg' hk hk' => ?_⟩
  · by_cases e : g = f
    · subst e
      simp only [if_true, Option.some.injEq] at hg
      subst hg
      refine ⟨by omega, by simpa using BN, ?_⟩
      simp only [if_true]
      rw [h.2.1 g hf]
      exact ⟨rfl, .inr ⟨w.heap.size, 0, #[], rfl, hB, B0, Nat.zero_le _, Nat.zero_le _, rfl, rfl⟩⟩
    · simp only [if_neg e] at hg ⊢
      exact h1 g b hg
  · by_cases e : g = f
    · subst e; simp at hg
    · simp only [if_neg e] at hg
      exact h2 g hg
  · by_cases e : g = f
    · by_cases e' : g' = f
      · rw [e, e']
      · simp only [if_pos e, Option.some.injEq] at hg
        simp only [if_neg e'] at hg'
        have := (hlt g' b hg').2.1.lt
        omega
    · simp only [if_neg e] at hg
      by_cases e' : g' = f
      · simp only [if_pos e', Option.some.injEq] at hg'
        have := (hlt g b hg).2.1.lt
        omega
      · simp only [if_neg e'] at hg'
        exact h3 g g' b hg hg'
  · by_cases e : g = f
    · by_cases e' : g' = f
      · rw [e, e']
      · simp only [if_pos e] at hk
        simp only [if_neg e'] at hg' hk'
        have := hrow g' b' k hg' hk'
        have hk2 : w.heap.size = k := by simpa [Value.ownBlock] using hk
        omega
    · simp only [if_neg e] at hg hk
      by_cases e' : g' = f
      · simp only [if_pos e'] at hk'
        have := hrow g b k hg hk
        have hk2 : w.heap.size = k := by simpa [Value.ownBlock] using hk'
        omega
      · simp only [if_neg e'] at hg' hk'
        exact h4 g g' b b' k hg hg' hk hk'
/-- A number is appended to a queue. -/
theorem QI.app {f : Z.Fl} {b : Nat} {v' : Value} {n : Int} (h : QI w B φ ψ Q) (hf : φ f = some b) (hO : OQ w' B v' (Q f ++ [n])) (hg : w.grownBy w' (ψ f).ownBlock)
    (hat : v'.ownBlock = (ψ f).ownBlock ∨ ∀ k, v'.ownBlock = some k → w.heap.size ≤ k) :
    QI (w'.setCell ⟨b, 0, none⟩ v') B φ (fun g => if g = f then v' else ψ g) (fun g => if g = f then Q f ++ [n] else Q g) := by
  obtain ⟨h1, h2, h3, h4⟩ := h
  have hrow : ∀ g b k, φ g = some b → (ψ g).ownBlock = some k → k < w.heap.size := fun g b k hg hk => (World.ownsRow.lt (h1 g b hg).2.2 k hk).2
  obtain ⟨q1, q2, q3⟩ := h1 f b hf
  have q2' := q2.kept hg (q2.not_row (by decide) q3)
  have hset := grownBy_setAt w' b 0 v'
  have hv'b : ∀ j, v'.ownBlock = some j → some j ≠ some b := by
    intro j hj e
    exact q2'.not_row (by decide) hO (by rw [← e, hj])
  refine ⟨fun g b' hg' => ?_, fun g hg' => ?_, h3, fun g g' b1 b2 k hg1 hg2 hk1 hk2 => ?_⟩
  · by_cases e : g = f
    · subst e
      obtain rfl : b' = b := by rw [hf] at hg'; exact (Option.some.inj hg').symm
      simp only [if_true]
      refine ⟨q1, ?_, OL.kept hO hset hv'b⟩
      exact q2'.set 0 v'
    · simp only [if_neg e]
      obtain ⟨r1, r2, r3⟩ := h1 g b' hg'
      have hbb : b' ≠ b := by rintro rfl; exact e (h3 g f b' hg' hf)
      have hne : ∀ j, (ψ g).ownBlock = some j → some j ≠ (ψ f).ownBlock := fun j hj e' => e (h4 g f b' b j hg' hf hj e'.symm)
      have r2' := r2.kept hg (r2.not_row (by decide) q3)
      have r3' := OL.kept r3 hg hne
      refine ⟨r1, r2'.kept hset (fun e' => hbb (Option.some.inj e')), OL.kept r3' hset fun j hj e' => ?_⟩
      injection e' with e'
      subst e'
      exact q2.not_row (by decide) r3 hj.symm
  · by_cases e : g = f
    · subst e; rw [hf] at hg'; cases hg'
    · simp only [if_neg e]; exact h2 g hg'
  · by_cases e : g = f
    · by_cases e' : g' = f
      · rw [e, e']
      · simp only [if_pos e] at hk1
        simp only [if_neg e'] at hk2
        rcases hat with h9 | h9
        · rw [h9] at hk1
          exact absurd (h4 f g' b b2 k hf hg2 hk1 hk2) (fun x => e' x.symm)
        · have := h9 k hk1
          have := hrow g' b2 k hg2 hk2
          omega
    · simp only [if_neg e] at hk1
      by_cases e' : g' = f
      · simp only [if_pos e'] at hk2
        rcases hat with h9 | h9
        · rw [h9] at hk2
          exact absurd (h4 g f b1 b k hg1 hf hk1 hk2) e
        · have := h9 k hk2
          have := hrow g b1 k hg1 hk1
          omega
      · simp only [if_neg e'] at hk2
        exact h4 g g' b1 b2 k hg1 hg2 hk1 hk2
end
theorem MF.mono {w : World} {D n n' : Nat} {φ : Z.Fl → Option Nat} (h : MF w D n φ) (hn : n ≤ n') : MF w D n' φ := by
  obtain ⟨d, h1, h2⟩ := h
  exact ⟨d, h1.mono hn, h2⟩
theorem MF.drew {w : World} {D n : Nat} {φ : Z.Fl → Option Nat} (h : MF w D n φ) : MF w.drew D n φ := h
/-- The numbers of the first k claims with a flow. -/
def qk (op : List Z.Cl) (k : Nat) (f : Z.Fl) : List Int := ((op.take k).filter fun x => decide (x.fl = f)).map Z.Cl.n
theorem qk_zero (op : List Z.Cl) : qk op 0 = fun _ => [] := rfl
theorem qk_step {op : List Z.Cl} {k : Nat} {x : Z.Cl} (h : op[k]? = some x) : qk op (k + 1) = fun g => if g = x.fl then qk op k x.fl ++ [x.n] else qk op k g := by
  obtain ⟨hlt, rfl⟩ := List.getElem?_eq_some_iff.1 h
  funext g
  unfold qk
  rw [List.take_succ_eq_append_getElem hlt, List.filter_append, List.map_append]
  by_cases e : g = op[k].fl
  · subst e
    rw [if_pos rfl]
    simp
  · rw [if_neg e]
    have : ¬ op[k].fl = g := fun h => e h.symm
    simp [this]
theorem qk_len (op : List Z.Cl) (k : Nat) (f : Z.Fl) : (qk op k f).length ≤ op.length := by
  unfold qk
  rw [List.length_map]
  exact Nat.le_trans (List.length_filter_le _ _) (by rw [List.length_take]; omega)
end Go.Proofs.Ytdjghmpaopfboaa
