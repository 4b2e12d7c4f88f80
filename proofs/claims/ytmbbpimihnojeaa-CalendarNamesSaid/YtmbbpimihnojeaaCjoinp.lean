/- Walks: calendar.Join. -/
import Derived.Test.YtmbbpimihnojeaaCjoin
import Derived.Laws.EntriesVeiled
import Derived.Lib.RowBridge
namespace Go.Proofs.Ytmbbpimihnojeaa
open Go.RowKit

/-- The slice value v is the beginning of one of the call's own, from the block B on, and holds these ints. -/
def OJ (w : World) (B : Nat) (v : Value) (zs : List Int) : Prop := (v = .slice none 0 0 ∧ zs = []) ∨ ∃ g cap full, v = .slice (some ⟨g, 0, none⟩) zs.length cap ∧ OI w B (.slice (some ⟨g, 0, none⟩) full.length cap) full ∧ zs <+: full
theorem Blk.low {W W' : World} {b B : Nat} {t : TypeId} {cs : Array Value} (h : Blk W b t cs) (hb : Below B W W') (hl : b < B) : Blk W' b t cs := (hb.block b hl).trans h
theorem OI.other {w : World} {B : Nat} {v : Value} {zs : List Int} (h : OI w B v zs) {p : Addr} (hp : p.block < B) (u : Value) : OI (w.setCell p u) B v zs := by
  refine ⟨h.1, ?_⟩
  rcases h.2 with h | ⟨g, cap, cur, h1, h2, h3, h4⟩
  · exact .inl h
  · exact .inr ⟨g, cap, cur, h1, h2, (Below.heap_setCell _ _ _ g (by omega)).trans h3, h4⟩
theorem OJ.other {w : World} {B : Nat} {v : Value} {zs : List Int} (h : OJ w B v zs) {p : Addr} (hp : p.block < B) (u : Value) : OJ (w.setCell p u) B v zs := by
  rcases h with h | ⟨g, cap, full, h1, h2, h3⟩
  · exact .inl h
  · exact .inr ⟨g, cap, full, h1, h2.other hp u, h3⟩
theorem OJ.mono {w : World} {B B' : Nat} {v : Value} {zs : List Int} (h : OJ w B v zs) (hB : B' ≤ B) : OJ w B' v zs := by
  rcases h with h | ⟨g, cap, full, h1, h2, h3⟩
  · exact .inl h
  · exact .inr ⟨g, cap, full, h1, h2.mono hB, h3⟩
theorem OI.shape {w : World} {B : Nat} {v : Value} {zs : List Int} (h : OI w B v zs) : ∃ A c, v = .slice A zs.length c := by
  rcases h.2 with ⟨rfl, h0⟩ | ⟨g, cap, cur, rfl, _⟩
  · exact ⟨none, 0, by rw [h0]⟩
  · exact ⟨_, _, rfl⟩
theorem OJ.shape {w : World} {B : Nat} {v : Value} {zs : List Int} (h : OJ w B v zs) : ∃ A c, v = .slice A zs.length c := by
  rcases h with ⟨rfl, rfl⟩ | ⟨g, cap, full, rfl, _⟩
  · exact ⟨none, 0, rfl⟩
  · exact ⟨_, _, rfl⟩
open Go.Sort in
theorem csort_any (B : Nat) (v : Value) (L : List Int) (W : World) (h : OI W B v L) (hB : B ≤ W.heap.size) (hl : L.length ≤ 3000) :
    Calls Try.prog 42 #[v] W fun e w' => e = .returned (.tuple #[]) ∧ OI w' B v (L.mergeSort Z.leI) ∧ Below B W w' := by
  have h' := h
  rcases h.2 with ⟨rfl, h0⟩ | ⟨g, cap, cur, rfl, hbase, hgb, h1, h2, h3, h4⟩
  · have : L = [] := List.eq_nil_of_length_eq_zero h0
    subst this
    refine (Try.slices_Sort_int_none none 0 W).mono ?_
    rintro e w' ⟨rfl, rfl⟩
    exact ⟨rfl, by rw [List.mergeSort_nil]; exact OI.nil_ _ _, Below.refl _ _⟩
  · refine (Try.slices_Sort_int g 0 cap L W (holds_of_blockI hgb (by simpa using h4)) (Array.getElem?_eq_some_iff.1 hgb).1 (by omega)).mono ?_
    rintro e w' ⟨rfl, n, os, rfl⟩
    refine ⟨rfl, ?_, (Below.refl _ _).grown (grownBy_sortedI _) hB (fun k hk => by cases hk; exact hbase)⟩
    have := ownsRow_sortedI (n := n) (os := os) (ss := L) (ts := L.mergeSort Z.leI) (by rw [List.length_mergeSort]) hbase hgb h1 h2 h3
    unfold OI
    rw [List.length_mergeSort]
    exact this
open Go.Sort in
theorem ccompact_any (B : Nat) (v : Value) (L : List Int) (W : World) (h : OI W B v L) (hB : B ≤ W.heap.size) (hl : L.length ≤ 3000) :
    Calls Try.prog 43 #[v] W fun e w' => ∃ v', e = .returned v' ∧ OJ w' B v' (Lib.compact L) ∧ Below B W w' := by
  rcases h.2 with ⟨rfl, h0⟩ | ⟨g, cap, cur, rfl, hbase, hgb, h1, h2, h3, h4⟩
  · have : L = [] := List.eq_nil_of_length_eq_zero h0
    subst this
    refine (Try.slices_Compact_int_empty none 0 W).mono ?_
    rintro e w' ⟨rfl, rfl⟩
    exact ⟨_, rfl, .inl ⟨rfl, rfl⟩, Below.refl _ _⟩
  · refine (Try.slices_Compact_int g 0 cap L W (holds_of_blockI hgb (by simpa using h4)) (by omega) h1).mono ?_
    rintro e w' ⟨rfl, n, rfl⟩
    have hlen := Lib.compact_length_le L
    have hg := grownBy_sortedI (w := W) (g := g) (n := n) (os := #[]) (Lib.compact L ++ List.replicate (L.length - (Lib.compact L).length) 0).toArray
    rw [grow_empty] at hg
    refine ⟨_, rfl, .inr ⟨g, cap, Lib.compact L ++ List.replicate (L.length - (Lib.compact L).length) 0, rfl, ?_, List.prefix_append _ _⟩, (Below.refl _ _).grown hg hB (fun k hk => by cases hk; exact hbase)⟩
    have := ownsRow_sortedI (n := n) (os := #[]) (ss := L) (ts := Lib.compact L ++ List.replicate (L.length - (Lib.compact L).length) 0) (by simp; omega) hbase hgb h1 h2 h3
    rw [grow_empty] at this
    have e1 : (Lib.compact L ++ List.replicate (L.length - (Lib.compact L).length) 0).length = L.length := by simp; omega
    unfold OI
    rw [e1]
    exact this
def JoinRet (wa wb : Int) (ha hb : List Int) (w : World) (e : Ending) (w' : World) : Prop := ∃ v, e = .returned (.tuple #[.agg #[.int .u8 (Z.joinW wa wb ha hb), v], .int .i64 (Z.joinE wa wb ha hb)]) ∧ OJ w' w.heap.size v (Z.joinH wa wb ha hb) ∧ Below w.heap.size w w'
theorem join_err {wa wb : Int} {ha hb : List Int} {w w' : World} {k : Int} (h : Z.joinE wa wb ha hb = k) (hk : k ≠ 0) (hb' : Below w.heap.size w w') : JoinRet wa wb ha hb w (.returned (.tuple #[.agg #[.int .u8 0, .slice none 0 0], .int .i64 k])) w' := by
  refine ⟨.slice none 0 0, ?_, .inl ⟨rfl, ?_⟩, hb'⟩
  · unfold Z.joinW; rw [if_neg (by rw [h]; exact hk), h]
  · unfold Z.joinH; rw [if_neg (by rw [h]; exact hk)]
theorem cerr_iff (wk : Int) (hs : List Int) : cerr wk hs = 0 ↔ Z.calB wk hs = true := by
  unfold cerr
  by_cases h : Z.calB wk hs = true
  · rw [if_pos h]; exact ⟨fun _ => h, fun _ => rfl⟩
  · rw [if_neg h]; exact ⟨fun hh => absurd hh (by decide), fun hh => absurd hh h⟩
/-- The three boxes that Join lays. -/
theorem boxes (w : World) (wa wb : Int) (va vb : Value) : ∀ W, W = ((w.alloc (.cells #[.int .u8 wa, va] 24)).alloc (.cells #[.int .u8 wb, vb] 24)).alloc (.cells #[.int .u8 0, .slice none 0 0] 24) →
    Below w.heap.size w W ∧ W.heap.size = w.heap.size + 3 ∧ Blk W w.heap.size 24 #[.int .u8 wa, va] ∧ Blk W (w.heap.size + 1) 24 #[.int .u8 wb, vb] ∧ Blk W (w.heap.size + 1 + 1) 24 #[.int .u8 0, .slice none 0 0] := by
  rintro W rfl
  refine ⟨(((Below.refl _ _).alloc (Nat.le_refl _) _).alloc (by simp) _).alloc (by simp; omega) _, by simp, ((Blk.new w _ _).alloc _).alloc _, ?_, ?_⟩
  · have h := (Blk.new (w.alloc (.cells #[.int .u8 wa, va] 24)) 24 #[.int .u8 wb, vb]).alloc (.cells #[.int .u8 0, .slice none 0 0] 24)
    rw [World.size_alloc] at h
    exact h
  · have h := Blk.new ((w.alloc (.cells #[.int .u8 wa, va] 24)).alloc (.cells #[.int .u8 wb, vb] 24)) 24 #[.int .u8 0, .slice none 0 0]
    rw [World.size_alloc, World.size_alloc] at h
    exact h
set_option maxRecDepth 100000 in
set_option maxHeartbeats 2000000 in
theorem join_any (wa wb : Int) (va vb : Value) (ha hb : List Int) (w : World) (sa : SI w va ha) (sb : SI w vb hb) (na : Nil0 va) (nb : Nil0 vb) :
    Calls Try.prog 22 #[.agg #[.int .u8 wa, va], .agg #[.int .u8 wb, vb]] w (JoinRet wa wb ha hb w) := by
  have SA := Lib.hid sa
  have SB := Lib.hid sb
  have NA := Lib.hid na
  have NB := Lib.hid nb
  clear sa sb na nb
  have KA := Lib.hid (fun (W : World) (h : Below w.heap.size w W) => ccheck_any wa va ha W (SA.out.below h))
  have KB := Lib.hid (fun (W : World) (h : Below w.heap.size w W) => ccheck_any wb vb hb W (SB.out.below h))
  cases ca : Z.calB wa ha
  · have e1 : cerr wa ha = 8 := by unfold cerr; rw [ca]; rfl
    have HE := Lib.hid (fun w' hb' => join_err (w := w) (w' := w') (show Z.joinE wa wb ha hb = 8 by unfold Z.joinE; rw [ca]; simp) (by decide) hb')
    rw [e1] at KA
    clear ca e1
    go_enter Try.func22, Try.ntmps22
    go_wp2_with fail
    obtain ⟨hb0, hs0, BA, BB, BR⟩ := boxes w wa wb va vb _ rfl
    generalize (((w.alloc (.cells #[.int .u8 wa, va] 24)).alloc (.cells #[.int .u8 wb, vb] 24)).alloc (.cells #[.int .u8 0, .slice none 0 0] 24)) = W0 at *
    refine (KA.out _ hb0).mono ?_
    rintro e W1 ⟨rfl, hb1⟩
    have c1 := hb0.trans (hb1.mono hb0.size)
    have BRx := BR.below hb1
    clear BA BB BR KA KB hs0 hb0 hb1
    have r0 := BRx.cell 0
    have r1 := BRx.cell 1
    have f0 := BRx.frozen 0
    have f1 := BRx.frozen 1
    have q0 : (W1.setCell ⟨w.heap.size + 1 + 1, 0, none⟩ (.int .u8 0)).cell? ⟨w.heap.size + 1 + 1, 0, none⟩ = some (.int .u8 0) := (BRx.set 0 (.int .u8 0)).cell 0
    have q1 : ((W1.setCell ⟨w.heap.size + 1 + 1, 0, none⟩ (.int .u8 0)).setCell ⟨w.heap.size + 1 + 1, 1, none⟩ (.slice none 0 0)).cell? ⟨w.heap.size + 1 + 1, 1, none⟩ = some (.slice none 0 0) := ((BRx.set 0 (.int .u8 0)).set 1 (.slice none 0 0)).cell 1
    clear BRx
    go_wp2_with fail
    refine bodyPost_ret (v := .tuple #[.agg #[.int .u8 0, .slice none 0 0], .int .i64 8]) (by simp [results, Try.results22, go_sem, q0, q1]) rfl ?_
    exact HE.out _ ((c1.setCell (p := ⟨w.heap.size + 1 + 1, 0, none⟩) (by show w.heap.size ≤ w.heap.size + 1 + 1; omega) _).setCell (p := ⟨w.heap.size + 1 + 1, 1, none⟩) (by show w.heap.size ≤ w.heap.size + 1 + 1; omega) _)
  · have e1 : cerr wa ha = 0 := (cerr_iff _ _).2 ca
    rw [e1] at KA
    cases cb : Z.calB wb hb
    · have e2 : cerr wb hb = 8 := by unfold cerr; rw [cb]; rfl
      have HE := Lib.hid (fun w' hb' => join_err (w := w) (w' := w') (show Z.joinE wa wb ha hb = 8 by unfold Z.joinE; rw [cb]; simp) (by decide) hb')
      rw [e2] at KB
      clear ca cb e1 e2
      go_enter Try.func22, Try.ntmps22
      go_wp2_with fail
      obtain ⟨hb0, hs0, BA, BB, BR⟩ := boxes w wa wb va vb _ rfl
      generalize (((w.alloc (.cells #[.int .u8 wa, va] 24)).alloc (.cells #[.int .u8 wb, vb] 24)).alloc (.cells #[.int .u8 0, .slice none 0 0] 24)) = W0 at *
      refine (KA.out _ hb0).mono ?_
      rintro e W1 ⟨rfl, hb1⟩
      have c1 := hb0.trans (hb1.mono hb0.size)
      have z1 : W1.heap.size ≥ w.heap.size + 3 := by have := hb1.size; omega
      have p0 := (BB.below hb1).cell 0
      have p1 := (BB.below hb1).cell 1
      have BR1 := BR.below hb1
      have BA1 := BA.below hb1
      have BB1 := BB.below hb1
      clear BA BB BR KA hs0 hb0 hb1
      go_wp2_with fail
      refine (KB.out _ c1).mono ?_
      rintro e W2 ⟨rfl, hb2⟩
      have c2 := c1.trans (hb2.mono c1.size)
      have z2 : W2.heap.size ≥ w.heap.size + 3 := by have := hb2.size; omega
      have BRx := BR1.below hb2
      have BAx := BA1.below hb2
      have BBx := BB1.below hb2
      have a0' := BAx.cell 0
      have b0' := BBx.cell 0
      clear BR1 BA1 BB1 KB c1 z1 hb2 p0 p1
      clear BAx BBx a0' b0' z2
      have r0 := BRx.cell 0
      have r1 := BRx.cell 1
      have f0 := BRx.frozen 0
      have f1 := BRx.frozen 1
      have q0 : (W2.setCell ⟨w.heap.size + 1 + 1, 0, none⟩ (.int .u8 0)).cell? ⟨w.heap.size + 1 + 1, 0, none⟩ = some (.int .u8 0) := (BRx.set 0 (.int .u8 0)).cell 0
      have q1 : ((W2.setCell ⟨w.heap.size + 1 + 1, 0, none⟩ (.int .u8 0)).setCell ⟨w.heap.size + 1 + 1, 1, none⟩ (.slice none 0 0)).cell? ⟨w.heap.size + 1 + 1, 1, none⟩ = some (.slice none 0 0) := ((BRx.set 0 (.int .u8 0)).set 1 (.slice none 0 0)).cell 1
      clear BRx
      go_wp2_with fail
      refine bodyPost_ret (v := .tuple #[.agg #[.int .u8 0, .slice none 0 0], .int .i64 8]) (by simp [results, Try.results22, go_sem, q0, q1]) rfl ?_
      exact HE.out _ ((c2.setCell (p := ⟨w.heap.size + 1 + 1, 0, none⟩) (by show w.heap.size ≤ w.heap.size + 1 + 1; omega) _).setCell (p := ⟨w.heap.size + 1 + 1, 1, none⟩) (by show w.heap.size ≤ w.heap.size + 1 + 1; omega) _)
    · have e2 : cerr wb hb = 0 := (cerr_iff _ _).2 cb
      rw [e2] at KB
      by_cases h127 : Z.orW wa wb = 127
      · have HE := Lib.hid (fun w' hb' => join_err (w := w) (w' := w') (show Z.joinE wa wb ha hb = 6 by unfold Z.joinE; rw [if_pos ⟨ca, cb⟩, if_pos h127]) (by decide) hb')
        unfold Z.orW at h127
        clear ca cb e1 e2
        go_enter Try.func22, Try.ntmps22
        go_wp2_with fail
        obtain ⟨hb0, hs0, BA, BB, BR⟩ := boxes w wa wb va vb _ rfl
        generalize (((w.alloc (.cells #[.int .u8 wa, va] 24)).alloc (.cells #[.int .u8 wb, vb] 24)).alloc (.cells #[.int .u8 0, .slice none 0 0] 24)) = W0 at *
        refine (KA.out _ hb0).mono ?_
        rintro e W1 ⟨rfl, hb1⟩
        have c1 := hb0.trans (hb1.mono hb0.size)
        have z1 : W1.heap.size ≥ w.heap.size + 3 := by have := hb1.size; omega
        have p0 := (BB.below hb1).cell 0
        have p1 := (BB.below hb1).cell 1
        have BR1 := BR.below hb1
        have BA1 := BA.below hb1
        have BB1 := BB.below hb1
        clear BA BB BR KA hs0 hb0 hb1
        go_wp2_with fail
        refine (KB.out _ c1).mono ?_
        rintro e W2 ⟨rfl, hb2⟩
        have c2 := c1.trans (hb2.mono c1.size)
        have z2 : W2.heap.size ≥ w.heap.size + 3 := by have := hb2.size; omega
        have BRx := BR1.below hb2
        have BAx := BA1.below hb2
        have BBx := BB1.below hb2
        have a0' := BAx.cell 0
        have b0' := BBx.cell 0
        clear BR1 BA1 BB1 KB c1 z1 hb2 p0 p1
        clear BAx BBx z2
        have BRx := BRx.alloc (.cells #[.int .u8 127, .slice none 0 0] 24)
        have r0 := BRx.cell 0
        have r1 := BRx.cell 1
        have f0 := BRx.frozen 0
        have f1 := BRx.frozen 1
        have q0 : ((W2.alloc (.cells #[.int .u8 127, .slice none 0 0] 24)).setCell ⟨w.heap.size + 1 + 1, 0, none⟩ (.int .u8 0)).cell? ⟨w.heap.size + 1 + 1, 0, none⟩ = some (.int .u8 0) := (BRx.set 0 (.int .u8 0)).cell 0
        have q1 : (((W2.alloc (.cells #[.int .u8 127, .slice none 0 0] 24)).setCell ⟨w.heap.size + 1 + 1, 0, none⟩ (.int .u8 0)).setCell ⟨w.heap.size + 1 + 1, 1, none⟩ (.slice none 0 0)).cell? ⟨w.heap.size + 1 + 1, 1, none⟩ = some (.slice none 0 0) := ((BRx.set 0 (.int .u8 0)).set 1 (.slice none 0 0)).cell 1
        clear BRx
        go_wp2_with fail
        refine bodyPost_ret (v := .tuple #[.agg #[.int .u8 0, .slice none 0 0], .int .i64 6]) (by simp [results, Try.results22, go_sem, q0, q1]) rfl ?_
        exact HE.out _ (((c2.alloc c2.size (.cells #[.int .u8 127, .slice none 0 0] 24)).setCell (p := ⟨w.heap.size + 1 + 1, 0, none⟩) (by show w.heap.size ≤ w.heap.size + 1 + 1; omega) _).setCell (p := ⟨w.heap.size + 1 + 1, 1, none⟩) (by show w.heap.size ≤ w.heap.size + 1 + 1; omega) _)
      · have SA' := SA.out
        have SB' := SB.out
        obtain ⟨A1, x1, rfl, _⟩ := SA'
        obtain ⟨A2, x2, rfl, _⟩ := SB'
        have la : ha.length ≤ 1000 := by unfold Z.calB at ca; simp at ca; omega
        have lb : hb.length ≤ 1000 := by unfold Z.calB at cb; simp at cb; omega
        have h127' : (bits BinOp.or IntKind.u8 wa wb == 127) = false := by simpa [Z.orW] using h127
        have HJ : Hid (Z.joinE wa wb ha hb = if 1000 < (Z.J ha hb).length then 4 else 0) := by show _ = _; unfold Z.joinE; rw [if_pos ⟨ca, cb⟩, if_neg h127]
        have HW : Hid (Z.orW wa wb = bits BinOp.or IntKind.u8 wa wb) := rfl
        clear ca cb e1 e2 h127
        go_enter Try.func22, Try.ntmps22
        go_wp2_with fail
        obtain ⟨hb0, hs0, BA, BB, BR⟩ := boxes w wa wb (.slice A1 ha.length x1) (.slice A2 hb.length x2) _ rfl
        generalize (((w.alloc (.cells #[.int .u8 wa, (.slice A1 ha.length x1)] 24)).alloc (.cells #[.int .u8 wb, (.slice A2 hb.length x2)] 24)).alloc (.cells #[.int .u8 0, .slice none 0 0] 24)) = W0 at *
        refine (KA.out _ hb0).mono ?_
        rintro e W1 ⟨rfl, hb1⟩
        have c1 := hb0.trans (hb1.mono hb0.size)
        have z1 : W1.heap.size ≥ w.heap.size + 3 := by have := hb1.size; omega
        have p0 := (BB.below hb1).cell 0
        have p1 := (BB.below hb1).cell 1
        have BR1 := BR.below hb1
        have BA1 := BA.below hb1
        have BB1 := BB.below hb1
        clear BA BB BR KA hs0 hb0 hb1
        go_wp2_with fail
        refine (KB.out _ c1).mono ?_
        rintro e W2 ⟨rfl, hb2⟩
        have c2 := c1.trans (hb2.mono c1.size)
        have z2 : W2.heap.size ≥ w.heap.size + 3 := by have := hb2.size; omega
        have BRx := BR1.below hb2
        have BAx := BA1.below hb2
        have BBx := BB1.below hb2
        have a0' := BAx.cell 0
        have b0' := BBx.cell 0
        clear BR1 BA1 BB1 KB c1 z1 hb2 p0 p1
        have a1' := (BAx.alloc (.cells #[.int .u8 (bits BinOp.or IntKind.u8 wa wb), .slice none 0 0] 24)).cell 1
        have b1' := (BBx.alloc (.cells #[.int .u8 (bits BinOp.or IntKind.u8 wa wb), .slice none 0 0] 24)).cell 1
        go_wp2_with fail
        have BO := (Blk.new W2 24 #[.int .u8 (bits BinOp.or IntKind.u8 wa wb), .slice none 0 0]).alloc (.cells #[.slice A1 ha.length x1, .slice A2 hb.length x2] 22)
        have BS := Blk.new (W2.alloc (.cells #[.int .u8 (bits BinOp.or IntKind.u8 wa wb), .slice none 0 0] 24)) 22 #[.slice A1 ha.length x1, .slice A2 hb.length x2]
        rw [World.size_alloc] at BS
        have BR3 := (BRx.alloc (.cells #[.int .u8 (bits BinOp.or IntKind.u8 wa wb), .slice none 0 0] 24)).alloc (.cells #[.slice A1 ha.length x1, .slice A2 hb.length x2] 22)
        have c3 := (c2.alloc c2.size (.cells #[.int .u8 (bits BinOp.or IntKind.u8 wa wb), .slice none 0 0] 24)).alloc (by rw [World.size_alloc]; omega) (.cells #[.slice A1 ha.length x1, .slice A2 hb.length x2] 22)
        have z3 : ((W2.alloc (.cells #[.int .u8 (bits BinOp.or IntKind.u8 wa wb), .slice none 0 0] 24)).alloc (.cells #[.slice A1 ha.length x1, .slice A2 hb.length x2] 22)).heap.size = W2.heap.size + 2 := by simp
        generalize ((W2.alloc (.cells #[.int .u8 (bits BinOp.or IntKind.u8 wa wb), .slice none 0 0] 24)).alloc (.cells #[.slice A1 ha.length x1, .slice A2 hb.length x2] 22)) = W3 at *
        clear BRx BAx BBx a0' b0' a1' b1'
        refine (concat_any (W2.heap.size + 1) _ _ ha hb W3 (BS.cell 0) (BS.cell 1) BS.lt (SA.out.below c3) (SB.out.below c3) NA.out NB.out la lb).mono ?_
        rintro e W4 ⟨v, rfl, HO, hb4⟩
        have c4 := c3.trans (hb4.mono c3.size)
        have BO4 := BO.below hb4
        have BR4 := BR3.below hb4
        have z4 : W4.heap.size ≥ W3.heap.size := hb4.size
        have hJ : Z.J ha hb = Lib.compact ((ha ++ hb).mergeSort Z.leI) := rfl
        have hLl : (ha ++ hb).length ≤ 2000 := by rw [List.length_append]; omega
        generalize ha ++ hb = L at HO hJ hLl
        obtain ⟨A3, x3, rfl⟩ := HO.shape
        have HJ2 := Lib.hid hJ
        clear hJ
        have HO := Lib.hid HO
        have o0 := BO4.cell 0
        have o1 := BO4.cell 1
        have g0 := BO4.frozen 0
        have g1 := BO4.frozen 1
        have BO5 := BO4.set 1 (.slice A3 L.length x3)
        have BR5 := BR4.low (((Below.refl (w.heap.size + 3) W4).setCell (p := ⟨W2.heap.size, 1, none⟩) (by show w.heap.size + 3 ≤ W2.heap.size; omega) (.slice A3 L.length x3))) (by omega)
        have c5 := c4.setCell (p := ⟨W2.heap.size, 1, none⟩) (by show w.heap.size ≤ W2.heap.size; omega) (.slice A3 L.length x3)
        have HO5 := Lib.hid (HO.out.other (p := ⟨W2.heap.size, 1, none⟩) (by show W2.heap.size < W3.heap.size; omega) (.slice A3 L.length x3))
        have z5 : (W4.setCell ⟨W2.heap.size, 1, none⟩ (.slice A3 L.length x3)).heap.size ≥ W3.heap.size := by simp; omega
        have n1 := BO5.cell 1
        clear BO BS BR3 c3 hb4 c2 BO4 BR4 HO c4
        go_wp2_with fail
        generalize W4.setCell ⟨W2.heap.size, 1, none⟩ (.slice A3 L.length x3) = W5 at *
        refine (csort_any W3.heap.size (.slice A3 L.length x3) L W5 HO5.out z5 (by omega)).mono ?_
        rintro e W6 ⟨rfl, HO6, hb6⟩
        have HO6 := Lib.hid HO6
        have BO6 := BO5.low hb6 (by omega)
        have BR6 := BR5.low hb6 (by omega)
        have c6 := c5.trans (hb6.mono (by omega))
        have z6 : W6.heap.size ≥ W3.heap.size := by have := hb6.size; omega
        have o6 := BO6.cell 1
        have g6 := BO6.frozen 1
        clear BO5 BR5 c5 HO5 z5 n1 hb6
        go_wp2_with fail
        refine (ccompact_any W3.heap.size (.slice A3 L.length x3) (L.mergeSort Z.leI) W6 HO6.out z6 (by rw [List.length_mergeSort]; omega)).mono ?_
        rintro e W7 ⟨v', rfl, HO7, hb7⟩
        obtain ⟨A4, x4, rfl⟩ := HO7.shape
        rw [← HJ2.out] at HO7
        have hJl : (Lib.compact (L.mergeSort Z.leI)).length = (Z.J ha hb).length := by rw [HJ2.out]
        have BO7 := BO6.low hb7 (by omega)
        have BR7 := BR6.low hb7 (by omega)
        have c7 := c6.trans (hb7.mono (by omega))
        have z7 : W7.heap.size ≥ W3.heap.size := by have := hb7.size; omega
        have o7 := BO7.cell 1
        have g7 := BO7.frozen 1
        have BO8 := BO7.set 1 (.slice A4 (Z.J ha hb).length x4)
        have BR8 := BR7.low ((Below.refl (w.heap.size + 3) W7).setCell (p := ⟨W2.heap.size, 1, none⟩) (by show w.heap.size + 3 ≤ W2.heap.size; omega) (.slice A4 (Z.J ha hb).length x4)) (by omega)
        have c8 := c7.setCell (p := ⟨W2.heap.size, 1, none⟩) (by show w.heap.size ≤ W2.heap.size; omega) (.slice A4 (Z.J ha hb).length x4)
        have HO8 := Lib.hid (HO7.other (p := ⟨W2.heap.size, 1, none⟩) (by show W2.heap.size < W3.heap.size; omega) (.slice A4 (Z.J ha hb).length x4))
        have hJm : ((Z.J ha hb).length : Int) ≤ 2000 := by have := Z.J_len ha hb; omega
        clear BO6 BR6 c6 HO6 z6 o6 g6 hb7 BO7 BR7 c7
        rw [hJl]
        have n8 := BO8.cell 1
        have n80 := BO8.cell 0
        generalize hW8 : W7.setCell ⟨W2.heap.size, 1, none⟩ (.slice A4 (Z.J ha hb).length x4) = W8 at *
        generalize hjn : (Z.J ha hb).length = jn at *
        by_cases hbig : 1000 < jn
        · have HE := Lib.hid (fun w' hb' => join_err (w := w) (w' := w') (show Z.joinE wa wb ha hb = 4 by rw [HJ.out, if_pos (by omega)]) (by decide) hb')
          have BRx := BR8
          clear BO8 BR8 n80 HO8 HO7
          have r0 := BRx.cell 0
          have r1 := BRx.cell 1
          have f0 := BRx.frozen 0
          have f1 := BRx.frozen 1
          have q0 : (W8.setCell ⟨w.heap.size + 1 + 1, 0, none⟩ (.int .u8 0)).cell? ⟨w.heap.size + 1 + 1, 0, none⟩ = some (.int .u8 0) := (BRx.set 0 (.int .u8 0)).cell 0
          have q1 : ((W8.setCell ⟨w.heap.size + 1 + 1, 0, none⟩ (.int .u8 0)).setCell ⟨w.heap.size + 1 + 1, 1, none⟩ (.slice none 0 0)).cell? ⟨w.heap.size + 1 + 1, 1, none⟩ = some (.slice none 0 0) := ((BRx.set 0 (.int .u8 0)).set 1 (.slice none 0 0)).cell 1
          clear BRx
          go_wp2_with fail
          refine bodyPost_ret (v := .tuple #[.agg #[.int .u8 0, .slice none 0 0], .int .i64 4]) (by simp [results, Try.results22, go_sem, q0, q1]) rfl ?_
          exact HE.out _ ((c8.setCell (p := ⟨w.heap.size + 1 + 1, 0, none⟩) (by show w.heap.size ≤ w.heap.size + 1 + 1; omega) _).setCell (p := ⟨w.heap.size + 1 + 1, 1, none⟩) (by show w.heap.size ≤ w.heap.size + 1 + 1; omega) _)
        · have hE : Z.joinE wa wb ha hb = 0 := by rw [HJ.out, if_neg (by omega)]
          have HX : Hid (Z.joinE wa wb ha hb = 0 ∧ Z.joinW wa wb ha hb = bits BinOp.or IntKind.u8 wa wb ∧ Z.joinH wa wb ha hb = Z.J ha hb) := ⟨hE, by unfold Z.joinW; rw [if_pos hE]; exact HW.out, by unfold Z.joinH; rw [if_pos hE]⟩
          have HO9 := Lib.hid ((HO8.out.other (p := ⟨w.heap.size + 1 + 1, 0, none⟩) (by show w.heap.size + 1 + 1 < W3.heap.size; omega) (.int .u8 (bits BinOp.or IntKind.u8 wa wb))).other (p := ⟨w.heap.size + 1 + 1, 1, none⟩) (by show w.heap.size + 1 + 1 < W3.heap.size; omega) (.slice A4 jn x4))
          have c9 := (c8.setCell (p := ⟨w.heap.size + 1 + 1, 0, none⟩) (by show w.heap.size ≤ w.heap.size + 1 + 1; omega) (.int .u8 (bits BinOp.or IntKind.u8 wa wb))).setCell (p := ⟨w.heap.size + 1 + 1, 1, none⟩) (by show w.heap.size ≤ w.heap.size + 1 + 1; omega) (.slice A4 jn x4)
          have r0 := BR8.cell 0
          have r1 := BR8.cell 1
          have f0 := BR8.frozen 0
          have f1 := BR8.frozen 1
          have q0 : (W8.setCell ⟨w.heap.size + 1 + 1, 0, none⟩ (.int .u8 (bits BinOp.or IntKind.u8 wa wb))).cell? ⟨w.heap.size + 1 + 1, 0, none⟩ = some (.int .u8 (bits BinOp.or IntKind.u8 wa wb)) := (BR8.set 0 (.int .u8 (bits BinOp.or IntKind.u8 wa wb))).cell 0
          have q1 : ((W8.setCell ⟨w.heap.size + 1 + 1, 0, none⟩ (.int .u8 (bits BinOp.or IntKind.u8 wa wb))).setCell ⟨w.heap.size + 1 + 1, 1, none⟩ (.slice A4 jn x4)).cell? ⟨w.heap.size + 1 + 1, 1, none⟩ = some (.slice A4 jn x4) := ((BR8.set 0 (.int .u8 (bits BinOp.or IntKind.u8 wa wb))).set 1 (.slice A4 jn x4)).cell 1
          have zz : W3.heap.size ≥ w.heap.size := by omega
          clear BO8 BR8 HO8 HO7 hE HJ HW
          go_wp2_with fail
          refine bodyPost_ret (v := .tuple #[.agg #[.int .u8 (bits BinOp.or IntKind.u8 wa wb), (.slice A4 jn x4)], .int .i64 0]) (by simp [results, Try.results22, go_sem, q0, q1]) rfl ?_
          obtain ⟨x1, x2, x3⟩ := HX.out
          refine ⟨(.slice A4 jn x4), by rw [x1, x2], ?_, c9⟩
          rw [x3]
          exact HO9.out.mono zz
end Go.Proofs.Ytmbbpimihnojeaa
