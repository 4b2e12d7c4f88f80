/- 'append(own, x...)' of ints as a step of a region that draws its order. -/
import Derived.Test.YtmbbpimihnojeaaCsame
import Derived.Deep.AppendLies
import Derived.Deep.RegionLaw
import Derived.Deep.RegionHeld3
namespace Go.Proofs.Ytmbbpimihnojeaa
open Go.RowKit

theorem step_appI {P : Program} {ops : Array Oper} {o : Oper} {a : Act} {K : Act → World → Prop} {Q : Exit → Act → World → Prop} {E : Prop} (hgd : o.guard = none) (s x : Operand) (t : TypeId)
    (ho : o.op = .call { callee := .builtin .append, args := #[s, x], argTypes := #[t, t] }) (hI : ∃ i, P.info? 3 = some i ∧ i.zero = some (.int .i64 0) ∧ i.size = 1 ∧ i.bytes = 8) (ht : P.underlying t = some (.slice 3))
    (w : World) (B : Nat) (v vx : Value) (zs xs : List Int) (hs : a.eval s = v) (hx : a.eval x = vx) (hown : OI w B v zs) (hS : SI w vx xs) (hN : Nil0 vx)
    (hB : B ≤ w.heap.size) (hl1 : zs.length ≤ 10000) (hl2 : xs.length ≤ 10000)
    (h : ∀ v' w', OI w' B v' (zs ++ xs) → Below B w w' → w.grownBy w' v.ownBlock → K (a.put o.dst v') w') :
    if Region.wanted o (yielded ops a.tmps) = true then Oper.wp P o a w K Q else E := by
  have hw : Region.wanted o (yielded ops a.tmps) = true := by simp [Region.wanted, hgd]
  rw [if_pos hw]
  obtain ⟨i, hi, hz, h1, h2⟩ := hI
  obtain ⟨A, c, rfl, hc1, hc2, hc3⟩ := hS
  cases A with
  | none =>
    obtain rfl : c = 0 := hN _ _ rfl
    have hx0 : xs = [] := List.eq_nil_of_length_eq_zero (by omega)
    subst hx0
    have hrun := run_append_owned_none (P := P) (w := w) B t o.type 3 i 1 ht hi v zs.length (zs.map (Value.int .i64)) hown
    have hx' : a.eval x = .slice none 0 0 := hx
    unfold Oper.wp
    simp [execOp, ho, resolve, invoke, builtin, hs, hx', hrun, Result.andThen]
    refine h _ _ ?_ (Below.refl _ _) ⟨rfl, rfl, rfl, Nat.le_refl _, fun _ _ _ => rfl⟩
    rw [List.append_nil]; exact hown
  | some ad =>
    obtain ⟨v', w', hrun, hown', hg, _⟩ := run_append_own (P := P) w B t o.type 3 i (.int .i64 0) 1 8 ht hi hz h1 h2 rfl (by omega) v zs.length (zs.map (Value.int .i64)) hown ad xs.length c (xs.map (Value.int .i64)) (by simp) (by
      intro j y hj
      rw [List.getElem?_map, Option.map_eq_some_iff] at hj
      obtain ⟨u, hu, rfl⟩ := hj
      have hjl := (List.getElem?_eq_some_iff.1 hu).1
      obtain ⟨b, off, hbo, hlt, hcl⟩ := hc3 (by omega)
      injection hbo with hbo
      subst hbo
      rw [Go.WideShapes.add_plain]
      exact hcl j u hu) (by
      intro y hy
      simp only [List.mem_map] at hy
      obtain ⟨z, _, rfl⟩ := hy
      rfl) (by unfold maxLen; omega) (by omega) hB
    unfold Oper.wp
    simp [execOp, ho, resolve, invoke, builtin, hs, hx, hrun, Result.andThen]
    refine h v' w' ?_ ((Below.refl _ _).grown hg hB (OI.base hown)) hg
    unfold OI
    rw [List.length_append, List.map_append]
    exact hown'
/-- An empty slice that was just built. -/
theorem OI.built {w : World} {g : Nat} (h : w.heap[g]? = some (.cells #[] 3 (0, 0))) : OI w g (.slice (some ⟨g, 0, none⟩) 0 0) [] := by
  refine ⟨rfl, .inr ⟨g, 0, #[], rfl, Nat.le_refl _, h, Nat.le_refl _, Nat.zero_le _, rfl, rfl⟩⟩
theorem heap_two (w : World) (a b : Obj) : ((w.alloc a).alloc b).heap[w.heap.size]? = some a := by
  have h := ((Below.refl (w.alloc a).heap.size (w.alloc a)).alloc (Nat.le_refl _) b).block w.heap.size (by simp)
  rw [h]; exact World.alloc_heap_new w a
theorem heap_two' (w : World) (a b : Obj) : ((w.alloc a).alloc b).heap[w.heap.size + 1]? = some b := by
  have h := World.alloc_heap_new (w.alloc a) b
  rwa [World.size_alloc] at h
theorem below_two (w : World) (a b : Obj) : Below w.heap.size w ((w.alloc a).alloc b) := ((Below.refl _ w).alloc (Nat.le_refl _) _).alloc (by simp) _
theorem size_two (w : World) (a b : Obj) : w.heap.size + 1 ≤ ((w.alloc a).alloc b).drew.heap.size := by
  show w.heap.size + 1 ≤ ((w.alloc a).alloc b).heap.size
  rw [World.size_alloc, World.size_alloc]; omega
theorem size_two0 (w : World) (a b : Obj) : w.heap.size ≤ ((w.alloc a).alloc b).drew.heap.size := Nat.le_trans (Nat.le_succ _) (size_two w a b)
theorem own_ne (g n c : Nat) : some (g + 1) ≠ (Value.slice (some ⟨g, 0, none⟩) n c).ownBlock := by simp [Value.ownBlock]

theorem step_app_a {P : Program} {ops : Array Oper} {o : Oper} {a : Act} {K : Act → World → Prop} {Q : Exit → Act → World → Prop} {E : Prop} (hgd : o.guard = none) (s x : Operand)
    (ho : o.op = .call { callee := .builtin .append, args := #[s, x], argTypes := #[22, 22] }) (hI : ∃ i, P.info? 3 = some i ∧ i.zero = some (.int .i64 0) ∧ i.size = 1 ∧ i.bytes = 8) (ht : P.underlying 22 = some (.slice 3))
    (w : World) (vx : Value) (xs : List Int) (hs : a.eval s = .slice (some ⟨w.heap.size, 0, none⟩) 0 0) (hx : a.eval x = vx) (hS : SI w vx xs) (hN : Nil0 vx) (hl2 : xs.length ≤ 10000)
    (h : ∀ A' c' w3, OI w3 (w.heap.size) (.slice A' xs.length c') xs → Below w.heap.size w w3 → K (a.put o.dst (.slice A' xs.length c')) w3) :
    if Region.wanted o (yielded ops a.tmps) = true then Oper.wp P o a (w.alloc (.cells #[] 3)).drew K Q else E := by
  refine step_appI hgd s x 22 ho hI ht (w.alloc (.cells #[] 3)).drew (w.heap.size) (.slice (some ⟨w.heap.size, 0, none⟩) 0 0) vx [] xs hs hx (OI.built (World.alloc_heap_new w _)) (hS.below ((Below.refl _ w).alloc (Nat.le_refl _) _).drew) hN ((Below.refl _ w).alloc (Nat.le_refl _) _).drew.size (Nat.zero_le _) hl2 ?_
  intro v' w3 hO hbB hg
  rw [List.nil_append] at hO
  obtain ⟨A', c', rfl⟩ := hO.shape
  exact h A' c' w3 hO (((Below.refl _ w).alloc (Nat.le_refl _) _).drew.trans (hbB.mono (Nat.le_refl _)))

theorem step_app_b {P : Program} {ops : Array Oper} {o : Oper} {a : Act} {K : Act → World → Prop} {Q : Exit → Act → World → Prop} {E : Prop} (hgd : o.guard = none) (s x : Operand)
    (ho : o.op = .call { callee := .builtin .append, args := #[s, x], argTypes := #[22, 22] }) (hI : ∃ i, P.info? 3 = some i ∧ i.zero = some (.int .i64 0) ∧ i.size = 1 ∧ i.bytes = 8) (ht : P.underlying 22 = some (.slice 3))
    (w : World) (vx : Value) (xs : List Int) (hs : a.eval s = .slice (some ⟨w.heap.size, 0, none⟩) 0 0) (hx : a.eval x = vx) (hS : SI w vx xs) (hN : Nil0 vx) (hl2 : xs.length ≤ 10000)
    (h : ∀ A' c' w3, OI w3 (w.heap.size) (.slice A' xs.length c') xs → Below w.heap.size w w3 → Blk w3 (w.heap.size + 1) 24 #[.int .u8 0, .slice none 0 0] → K (a.put o.dst (.slice A' xs.length c')) w3) :
    if Region.wanted o (yielded ops a.tmps) = true then Oper.wp P o a ((w.alloc (.cells #[] 3)).alloc (.cells #[.int .u8 0, .slice none 0 0] 24)).drew K Q else E := by
  refine step_appI hgd s x 22 ho hI ht ((w.alloc (.cells #[] 3)).alloc (.cells #[.int .u8 0, .slice none 0 0] 24)).drew (w.heap.size) (.slice (some ⟨w.heap.size, 0, none⟩) 0 0) vx [] xs hs hx (OI.built (heap_two w _ _)) (hS.below (below_two w _ _).drew) hN (size_two0 w _ _) (Nat.zero_le _) hl2 ?_
  intro v' w3 hO hbB hg
  rw [List.nil_append] at hO
  obtain ⟨A', c', rfl⟩ := hO.shape
  exact h A' c' w3 hO ((below_two w _ _).drew.trans (hbB.mono (Nat.le_refl _))) (Blk.kept (W := ((w.alloc (.cells #[] 3)).alloc (.cells #[.int .u8 0, .slice none 0 0] 24)).drew) (heap_two' w _ _) hg (own_ne _ _ _))

theorem step_app_c {P : Program} {ops : Array Oper} {o : Oper} {a : Act} {K : Act → World → Prop} {Q : Exit → Act → World → Prop} {E : Prop} (hgd : o.guard = none) (s x : Operand)
    (ho : o.op = .call { callee := .builtin .append, args := #[s, x], argTypes := #[22, 22] }) (hI : ∃ i, P.info? 3 = some i ∧ i.zero = some (.int .i64 0) ∧ i.size = 1 ∧ i.bytes = 8) (ht : P.underlying 22 = some (.slice 3))
    (w : World) (vx : Value) (xs : List Int) (hs : a.eval s = .slice (some ⟨w.heap.size + 1, 0, none⟩) 0 0) (hx : a.eval x = vx) (hS : SI w vx xs) (hN : Nil0 vx) (hl2 : xs.length ≤ 10000)
    (h : ∀ A' c' w3, OI w3 (w.heap.size + 1) (.slice A' xs.length c') xs → Below w.heap.size w w3 → Blk w3 w.heap.size 24 #[.int .u8 0, .slice none 0 0] → K (a.put o.dst (.slice A' xs.length c')) w3) :
    if Region.wanted o (yielded ops a.tmps) = true then Oper.wp P o a ((w.alloc (.cells #[.int .u8 0, .slice none 0 0] 24)).alloc (.cells #[] 3)).drew K Q else E := by
  refine step_appI hgd s x 22 ho hI ht ((w.alloc (.cells #[.int .u8 0, .slice none 0 0] 24)).alloc (.cells #[] 3)).drew (w.heap.size + 1) (.slice (some ⟨w.heap.size + 1, 0, none⟩) 0 0) vx [] xs hs hx (OI.built (heap_two' w _ _)) (hS.below (below_two w _ _).drew) hN (size_two w _ _) (Nat.zero_le _) hl2 ?_
  intro v' w3 hO hbB hg
  rw [List.nil_append] at hO
  obtain ⟨A', c', rfl⟩ := hO.shape
  exact h A' c' w3 hO ((below_two w _ _).drew.trans (hbB.mono (Nat.le_succ _))) (Blk.low (W := ((w.alloc (.cells #[.int .u8 0, .slice none 0 0] 24)).alloc (.cells #[] 3)).drew) (heap_two w _ _) hbB (Nat.lt_succ_self _))
/-- What the law's copy of a calendar is: a box of its own, and ints of its own. -/
def TwinP (w2 : World) (wa : Int) (ha : List Int) (pv : Value) (wx : World) : Prop :=
  ∃ g A c, pv = .pointer (some ⟨g, 0, none⟩) ∧ w2.heap.size ≤ g ∧ Blk wx g 24 #[.int .u8 wa, .slice A ha.length c] ∧ SI wx (.slice A ha.length c) ha ∧ Below w2.heap.size w2 wx
theorem OI.far {w : World} {B g : Nat} {v : Value} {zs : List Int} {cs : Array Value} (h : OI w B v zs) (hg : Blk w g 24 cs) (j : Nat) (u : Value) : OI (w.setCell ⟨g, j, none⟩ u) B v zs := by
  refine ⟨h.1, ?_⟩
  rcases h.2 with h | ⟨g', cap, cur, h1, h2, h3, h4⟩
  · exact .inl h
  · refine .inr ⟨g', cap, cur, h1, h2, (Below.heap_setCell _ _ _ g' ?_).trans h3, h4⟩
    intro e
    have e' : g' = g := e
    subst e'
    have hg' : w.heap[g']? = some (.cells cs 24 (0, 0)) := hg
    rw [h3] at hg'
    injection hg' with hg'
    injection hg' with _ ht
    exact absurd ht (by decide)
theorem twin_a {w2 w3 : World} {wa : Int} {ha : List Int} {A : Option Addr} {c B : Nat} (hO : OI w3 B (.slice A ha.length c) ha) (hb : Below w2.heap.size w2 w3) :
    TwinP w2 wa ha (.pointer (some ⟨w3.heap.size, 0, none⟩)) (w3.alloc (.cells #[.int .u8 wa, .slice A ha.length c] 24)) := by
  refine ⟨_, A, c, rfl, hb.size, Blk.new _ _ _, ?_, hb.trans (((Below.refl _ w3).alloc (Nat.le_refl _) _).mono hb.size)⟩
  exact hO.si.below ((Below.refl _ w3).alloc (Nat.le_refl _) _)
theorem twin_b {w2 w3 : World} {wa : Int} {ha : List Int} {A : Option Addr} {c B g : Nat} (hO : OI w3 B (.slice A ha.length c) ha) (hb : Below w2.heap.size w2 w3) (kb : Blk w3 g 24 #[.int .u8 0, .slice none 0 0]) (hg : w2.heap.size ≤ g) :
    TwinP w2 wa ha (.pointer (some ⟨g, 0, none⟩)) ((w3.setCell ⟨g, 0, none⟩ (.int .u8 wa)).setCell ⟨g, 1, none⟩ (.slice A ha.length c)) := by
  have k1 := kb.set 0 (.int .u8 wa)
  have k2 := k1.set 1 (.slice A ha.length c)
  exact ⟨g, A, c, rfl, hg, k2, ((hO.far kb 0 _).far k1 1 _).si, (hb.setCell hg _).setCell hg _⟩
/-- The cells of a joint calendar, to be written. -/
def OwnC (w : World) (B : Nat) (A : Option Addr) (n : Nat) : Prop := 0 < n → ∃ g cur, A = some ⟨g, 0, none⟩ ∧ B ≤ g ∧ Blk w g 3 cur ∧ n ≤ cur.size
theorem OJ.ownC {w : World} {B : Nat} {A : Option Addr} {c : Nat} {zs : List Int} (h : OJ w B (.slice A zs.length c) zs) : OwnC w B A zs.length := by
  intro hp
  rcases h with ⟨_, rfl⟩ | ⟨g, cap, full, h1, h2, h3⟩
  · simp at hp
  · injection h1 with h1 _ _
    subst h1
    rcases h2.2 with ⟨h, _⟩ | ⟨g', cap', cur, h, hB, hh, hn, _, hs, _⟩
    · cases h
    · injection h with h _ _
      injection h with h
      injection h with h
      subst h
      refine ⟨g, cur, rfl, hB, hh, ?_⟩
      have : zs.length ≤ full.length := by exact h3.length_le
      omega
theorem OwnC.below {w w' : World} {B : Nat} {A : Option Addr} {n : Nat} (h : OwnC w B A n) (hb : Below w.heap.size w w') : OwnC w' B A n := by
  intro hp
  obtain ⟨g, cur, h1, h2, h3, h4⟩ := h hp
  exact ⟨g, cur, h1, h2, h3.below hb, h4⟩
theorem cal_either (wk : Int) (hs : List Int) : (cerr wk hs = 0 ∧ Z.calB wk hs = true) ∨ (cerr wk hs = 8 ∧ Z.calB wk hs = false) := by
  unfold cerr
  cases h : Z.calB wk hs
  · exact .inr ⟨rfl, rfl⟩
  · exact .inl ⟨rfl, rfl⟩
/-- While the cells of a joint calendar are written. -/
def WrP (B : Nat) (w0 : World) (gc : Nat) (WK : Int) (A : Option Addr) (n c : Nat) (w : World) : Prop :=
  Below B w0 w ∧ Blk w gc 24 #[.int .u8 WK, .slice A n c] ∧ OwnC w B A n
theorem WrP.at_ {B : Nat} {w0 w : World} {gc : Nat} {WK : Int} {A : Option Addr} {n c k : Nat} (h : WrP B w0 gc WK A n c w) (hk : k < n) :
    ∃ g x, A = some ⟨g, 0, none⟩ ∧ w.cell? ⟨g, k, none⟩ = some x ∧ w.frozen? ⟨g, k, none⟩ = false ∧ WrP B w0 gc WK A n c (w.setCell ⟨g, k, none⟩ (.int .i64 (-1))) := by
  obtain ⟨h1, h2, h3⟩ := h
  obtain ⟨g, cur, rfl, hB, hb, hn⟩ := h3 (by omega)
  have hne : gc ≠ g := by
    rintro rfl
    have e1 : w.heap[gc]? = some (.cells cur 3 (0, 0)) := hb
    have e2 : w.heap[gc]? = some (.cells #[.int .u8 WK, .slice (some ⟨gc, 0, none⟩) n c] 24 (0, 0)) := h2
    rw [e1] at e2
    injection e2 with e2
    injection e2 with _ e2
    exact absurd e2 (by decide)
  refine ⟨g, cur[k]'(by omega), rfl, (hb.cell k).trans (Array.getElem?_eq_getElem (by omega)), hb.frozen k, h1.setCell hB _, (Below.heap_setCell _ _ _ gc hne).trans h2, fun _ => ?_⟩
  exact ⟨g, _, rfl, hB, hb.set k _, by rw [Array.size_setIfInBounds]; exact hn⟩
theorem SI.len {w : World} {v : Value} {zs : List Int} (h : SI w v zs) : zs.length ≤ 9223372036854775807 := by
  obtain ⟨A, c, _, h1, h2, _⟩ := h
  unfold maxLen at h2
  omega
end Go.Proofs.Ytmbbpimihnojeaa
