/- Walks: integer.sum. -/
import Derived.Test.YthafdckomhdlbaaIread
import Derived.Test.YthafdckomhdlbaaIsub
import Derived.Deep.RegionHeld3
import Derived.Deep.AppendLies
namespace Go.Proofs.Ythafdckomhdlbaa
open Go.RowKit

/-- The value is a number's struct: its sign, and a slice that reads as its digits. -/
def NumAt (w : World) (x : Value) (z : Int) : Prop := ∃ v, x = .agg #[.bool (decide (z < 0)), v] ∧ SN .u32 w v (Z.dg 1000000000 z.natAbs) ∧ (Z.dg 1000000000 z.natAbs).length ≤ 100000
theorem plusN (v u : Value) (n m : Nat) (w : World) (hS : SN .u32 w v (Z.dg 1000000000 n)) (hT : SN .u32 w u (Z.dg 1000000000 m)) (hl : (Z.dg 1000000000 n).length ≤ 100000) (hl' : (Z.dg 1000000000 m).length ≤ 100000) :
    Calls Try.prog 66 #[v, u] w (MagRet w (n + m)) := by
  have := plus_any v u _ _ w hS hT (Z.can_dg _ (by omega) n) (Z.can_dg _ (by omega) m) (by omega) (by omega)
  rwa [Z.ofDg_dg _ (by omega), Z.ofDg_dg _ (by omega)] at this
theorem minusN (v u : Value) (n m : Nat) (w : World) (hS : SN .u32 w v (Z.dg 1000000000 n)) (hT : SN .u32 w u (Z.dg 1000000000 m)) (hl : (Z.dg 1000000000 n).length ≤ 100000) (hge : m ≤ n) :
    Calls Try.prog 67 #[v, u] w (MagRet w (n - m)) := by
  have := minus_any v u _ _ w hS hT (Z.can_dg _ (by omega) n) (Z.can_dg _ (by omega) m) (by omega) (by rw [Z.ofDg_dg _ (by omega), Z.ofDg_dg _ (by omega)]; exact hge)
  rwa [Z.ofDg_dg _ (by omega), Z.ofDg_dg _ (by omega)] at this
theorem compareN (v u : Value) (n m : Nat) (w : World) (hS : SN .u32 w v (Z.dg 1000000000 n)) (hT : SN .u32 w u (Z.dg 1000000000 m)) (hl : (Z.dg 1000000000 n).length ≤ 100000) (hl' : (Z.dg 1000000000 m).length ≤ 100000) :
    Calls Try.prog 81 #[v, u] w (CmpRet w (Z.cmp n m)) := by
  have := compare_any v u 1000000000 (by omega) _ _ w hS hT (Z.can_dg _ (by omega) n) (Z.can_dg _ (by omega) m) (by omega) (by omega)
  rwa [Z.ofDg_dg _ (by omega), Z.ofDg_dg _ (by omega)] at this
theorem dg_pos_len (n : Nat) : decide (0 < ((Z.dg 1000000000 n).length : Int)) = decide (0 < n) := by
  have := Z.dg_eq_nil 1000000000 (by omega) n
  rcases Nat.eq_zero_or_pos n with h | h
  · rw [this.2 h, h]; rfl
  · have h2 : (Z.dg 1000000000 n).length ≠ 0 := fun e => by
      have := this.1 (List.eq_nil_of_length_eq_zero e); omega
    rw [decide_eq_true h, decide_eq_true (by omega)]
theorem keep_any (ng : Bool) (v : Value) (n : Nat) (w : World) (hS : SN .u32 w v (Z.dg 1000000000 n)) :
    Calls Try.prog 87 #[.bool ng, v] w fun e w' => e = .returned (.agg #[.bool (ng && decide (0 < n)), v]) ∧ Below w.heap.size w w' := by
  have hd := dg_pos_len n
  obtain ⟨A, c, rfl, hc, hm, _⟩ := hS
  unfold maxLen at hm
  generalize (Z.dg 1000000000 n).length = k at *
  go_enter Try.func87, Try.ntmps87
  cases ng
  · go_wp2_with fail
    refine bodyPost_ret (v := .agg #[.bool false, .slice A k c]) (by simp [results, Try.results87, go_sem]) rfl ⟨rfl, (Below.refl _ _).alloc (Nat.le_refl _) _⟩
  · cases hb : decide (0 < n)
    · rw [hb] at hd
      have hk : ¬ 0 < k := by simpa using hd
      go_wp2_with fail
      all_goals refine bodyPost_ret (v := .agg #[.bool false, .slice A k c]) (by simp [results, Try.results87, go_sem]) rfl ⟨rfl, (Below.refl _ _).alloc (Nat.le_refl _) _⟩
    · rw [hb] at hd
      have hk : 0 < k := by simpa using hd
      go_wp2_with fail
      all_goals refine bodyPost_ret (v := .agg #[.bool true, .slice A k c]) (by simp [results, Try.results87, go_sem]) rfl ⟨rfl, (Below.refl _ _).alloc (Nat.le_refl _) _⟩

theorem keepN (ng : Bool) (v : Value) (n : Nat) (z : Int) (w : World) (hS : SN .u32 w v (Z.dg 1000000000 n)) (hs : decide (z < 0) = (ng && decide (0 < n))) :
    Calls Try.prog 87 #[.bool ng, v] w fun e w' => e = .returned (.agg #[.bool (decide (z < 0)), v]) ∧ Below w.heap.size w w' := by
  rw [hs]
  exact keep_any ng v _ w hS
theorem cell_other {W : World} {b c o j : Nat} {v : Value} (hne : b ≠ c) (h : W.cell? ⟨b, o, none⟩ = some v) (u : Value) : (W.setCell ⟨c, j, none⟩ u).cell? ⟨b, o, none⟩ = some v := by
  have h1 := Below.heap_setCell W ⟨c, j, none⟩ u b (fun e => hne e)
  unfold World.cell? at *
  simp only [h1]
  exact h
theorem SN.shape {q : IntKind} {w : World} {v : Value} {ms : List Nat} (h : SN q w v ms) : ∃ A c, v = .slice A ms.length c := by
  obtain ⟨A, c, hv, _⟩ := h
  exact ⟨A, c, hv⟩
theorem Ow.shape {q : IntKind} {e : TypeId} {w : World} {B : Nat} {v : Value} {ms : List Nat} (h : Ow q e w B v ms) : ∃ A c, v = .slice A ms.length c := h.sn.shape
/-- A number is stored into a variable. -/
theorem store_num {W : World} {R B : Nat} {x0 x1 : Value} {v : Value} {ms : List Nat} (p : Bool) (hb : Blk W R 91 #[x0, x1]) (ho : Ow .u32 98 W B v ms) :
    Ow .u32 98 ((W.setCell ⟨R, 0, none⟩ (.bool p)).setCell ⟨R, 1, none⟩ v) B v ms ∧ Blk ((W.setCell ⟨R, 0, none⟩ (.bool p)).setCell ⟨R, 1, none⟩ v) R 91 #[.bool p, v] := by
  have h1 := World.ownsRow.kept ho (grownBy_setAt W R 0 (.bool p)) (.inr (hb.not_row (by decide) ho).symm)
  have b1 := hb.set 0 (.bool p)
  have h2 := World.ownsRow.kept h1 (grownBy_setAt _ R 1 v) (.inr (b1.not_row (by decide) h1).symm)
  exact ⟨h2, b1.set 1 v⟩
theorem sum_same (v u : Value) (x y : Int) (w : World) (hS : SN .u32 w v (Z.dg 1000000000 x.natAbs)) (hT : SN .u32 w u (Z.dg 1000000000 y.natAbs))
    (hl : (Z.dg 1000000000 x.natAbs).length ≤ 100000) (hl' : (Z.dg 1000000000 y.natAbs).length ≤ 100000) (h : (decide (x < 0) == decide (y < 0)) = true) :
    Calls Try.prog 77 #[.agg #[.bool (decide (x < 0)), v], .agg #[.bool (decide (y < 0)), u]] w (NumSt w (x + y)) := by
  have hv : (x + y).natAbs = x.natAbs + y.natAbs := by simp at h; omega
  have hsg : decide (x + y < 0) = (decide (x < 0) && decide (0 < x.natAbs + y.natAbs)) := by
    simp at h; rw [Bool.eq_iff_iff]; simp; omega
  generalize decide (x < 0) = p at *
  generalize decide (y < 0) = q at *
  have C := fun (W : World) (hS : SN .u32 W v (Z.dg 1000000000 x.natAbs)) (hT : SN .u32 W u (Z.dg 1000000000 y.natAbs)) => plusN v u x.natAbs y.natAbs W hS hT hl hl'
  have K := fun (W : World) (r : Value) (hR : SN .u32 W r (Z.dg 1000000000 (x.natAbs + y.natAbs))) => keepN p r _ (x + y) W hR hsg
  have HC := Lib.hid C
  have HK := Lib.hid K
  have HV := Lib.hid hv
  clear C K hv hsg
  generalize x.natAbs + y.natAbs = n at *
  generalize Z.dg 1000000000 x.natAbs = ds at *
  generalize Z.dg 1000000000 y.natAbs = es at *
  have hS' := hS
  have hT' := hT
  obtain ⟨A, c, rfl, hc, hm, hcell⟩ := hS
  obtain ⟨A', c', rfl, hc', hm', hcell'⟩ := hT
  go_enter Try.func77, Try.ntmps77
  go_wp2_with fail
  have hB0 : Below w.heap.size w (((w.alloc (.cells #[.bool p, .slice A ds.length c] 91)).alloc (.cells #[.bool q, .slice A' es.length c'] 91)).alloc (.cells #[.bool false, .slice none 0 0] 91)) :=
    (((Below.refl _ w).alloc (Nat.le_refl _) _).alloc (by simp) _).alloc (by simp; omega) _
  have b1 : Blk (((w.alloc (.cells #[.bool p, .slice A ds.length c] 91)).alloc (.cells #[.bool q, .slice A' es.length c'] 91)).alloc (.cells #[.bool false, .slice none 0 0] 91)) w.heap.size 91 #[.bool p, .slice A ds.length c] :=
    ((Blk.new w _ _).alloc _).alloc _
  have b2 : Blk (((w.alloc (.cells #[.bool p, .slice A ds.length c] 91)).alloc (.cells #[.bool q, .slice A' es.length c'] 91)).alloc (.cells #[.bool false, .slice none 0 0] 91)) (w.heap.size + 1) 91 #[.bool q, .slice A' es.length c'] := by
    have h := (Blk.new (w.alloc (.cells #[.bool p, .slice A ds.length c] 91)) 91 #[.bool q, .slice A' es.length c']).alloc (.cells #[.bool false, .slice none 0 0] 91)
    rwa [World.size_alloc] at h
  have b3 : Blk (((w.alloc (.cells #[.bool p, .slice A ds.length c] 91)).alloc (.cells #[.bool q, .slice A' es.length c'] 91)).alloc (.cells #[.bool false, .slice none 0 0] 91)) (w.heap.size + 1 + 1) 91 #[.bool false, .slice none 0 0] := by
    have h := Blk.new ((w.alloc (.cells #[.bool p, .slice A ds.length c] 91)).alloc (.cells #[.bool q, .slice A' es.length c'] 91)) 91 #[.bool false, .slice none 0 0]
    rwa [World.size_alloc, World.size_alloc] at h
  have hS0 := hS'.below hB0
  have hT0 := hT'.below hB0
  generalize (((w.alloc (.cells #[.bool p, .slice A ds.length c] 91)).alloc (.cells #[.bool q, .slice A' es.length c'] 91)).alloc (.cells #[.bool false, .slice none 0 0] 91)) = W0 at *
  have l3 := b3.lt
  generalize hBB : w.heap.size = B at *
  have c0 : W0.cell? ⟨B, 0, none⟩ = some (.bool p) := b1.cell 0
  have c1 : W0.cell? ⟨B, 1, none⟩ = some (.slice A ds.length c) := b1.cell 1
  have c2 : W0.cell? ⟨B + 1, 1, none⟩ = some (.slice A' es.length c') := b2.cell 1
  have c3 : W0.cell? ⟨B + 1 + 1, 0, none⟩ = some (.bool false) := b3.cell 0
  have c4 : W0.cell? ⟨B + 1 + 1, 1, none⟩ = some (.slice none 0 0) := b3.cell 1
  have f3 := b3.frozen 0
  have f4 := b3.frozen 1
  clear hcell hcell' hS' hT'
  have HBB := Lib.hid hBB
  clear hBB
  go_region_held3 (fun W => W.cell? ⟨B, 0, none⟩ = some (.bool p) ∧ W.cell? ⟨B, 1, none⟩ = some (.slice A ds.length c) ∧ W.cell? ⟨B + 1, 1, none⟩ = some (.slice A' es.length c'))
    (first
      | exact ⟨c0, c1, c2⟩
      | exact ⟨d0, d1, d2⟩
      | exact ⟨k0, k1, k2⟩
      | exact ⟨cell_other (by omega) (cell_other (by omega) k0 _) _, cell_other (by omega) (cell_other (by omega) k1 _) _, cell_other (by omega) (cell_other (by omega) k2 _) _⟩)
    (first
      | (go_at_call 66; refine (HC.out _ (by exact hS0) (by exact hT0)).mono ?_; rintro e w1 ⟨v1, rfl, hown1, hb1⟩; obtain ⟨A2, cc2, rfl⟩ := hown1.shape; have d0 := (hb1.cell (p := ⟨B, 0, none⟩) (by show B < W0.heap.size; omega)).trans c0; have d1 := (hb1.cell (p := ⟨B, 1, none⟩) (by show B < W0.heap.size; omega)).trans c1; have d2 := (hb1.cell (p := ⟨B + 1, 1, none⟩) (by show B + 1 < W0.heap.size; omega)).trans c2)
      | (go_at_call 87; refine (HK.out _ _ hown1.sn).mono ?_; rintro e w2 ⟨rfl, hb2⟩; have hb12 := hb1.trans (hb2.mono hb1.size); have k0 := (hb12.cell (p := ⟨B, 0, none⟩) (by show B < W0.heap.size; omega)).trans c0; have k1 := (hb12.cell (p := ⟨B, 1, none⟩) (by show B < W0.heap.size; omega)).trans c1; have k2 := (hb12.cell (p := ⟨B + 1, 1, none⟩) (by show B + 1 < W0.heap.size; omega)).trans c2; have k3 := (hb12.cell (p := ⟨B + 1 + 1, 0, none⟩) (by show B + 1 + 1 < W0.heap.size; omega)).trans c3; have k4 := (hb12.cell (p := ⟨B + 1 + 1, 1, none⟩) (by show B + 1 + 1 < W0.heap.size; omega)).trans c4; have g3 := (hb12.frozen (p := ⟨B + 1 + 1, 0, none⟩) (by show B + 1 + 1 < W0.heap.size; omega)).trans f3; have g4 := (hb12.frozen (p := ⟨B + 1 + 1, 1, none⟩) (by show B + 1 + 1 < W0.heap.size; omega)).trans f4))
  go_wp2_with fail
  have hbE : Below W0.heap.size W0 w2 := (below_of_drewN W0 1 _).trans hb12
  have hoE : Ow .u32 98 w2 W0.heap.size (.slice A2 (Z.dg 1000000000 n).length cc2) (Z.dg 1000000000 n) := hown1.below hb2
  obtain ⟨h5, b5⟩ := store_num (decide (x + y < 0)) (b3.below hbE) hoE
  have x0 := b5.cell 0
  have x1 := b5.cell 1
  refine bodyPost_ret (v := .agg #[.bool (decide (x + y < 0)), .slice A2 (Z.dg 1000000000 n).length cc2]) (by simp [results, Try.results77, go_sem, x0, x1]) rfl ⟨_, rfl, ?_, ?_⟩
  · rw [HV.out, HBB.out]
    exact h5.mono (by omega)
  · rw [HBB.out]
    exact ((hB0.trans (hbE.mono (by omega))).setCell (p := ⟨B + 1 + 1, 0, none⟩) (by show B ≤ B + 1 + 1; omega) _).setCell (p := ⟨B + 1 + 1, 1, none⟩) (by show B ≤ B + 1 + 1; omega) _
theorem sum_ge (v u : Value) (x y : Int) (w : World) (hS : SN .u32 w v (Z.dg 1000000000 x.natAbs)) (hT : SN .u32 w u (Z.dg 1000000000 y.natAbs))
    (hl : (Z.dg 1000000000 x.natAbs).length ≤ 100000) (hl' : (Z.dg 1000000000 y.natAbs).length ≤ 100000) (h : (decide (x < 0) == decide (y < 0)) = false) (hge : y.natAbs ≤ x.natAbs) :
    Calls Try.prog 77 #[.agg #[.bool (decide (x < 0)), v], .agg #[.bool (decide (y < 0)), u]] w (NumSt w (x + y)) := by
  have hv : (x + y).natAbs = x.natAbs - y.natAbs := by simp at h; omega
  have hsg : decide (x + y < 0) = (decide (x < 0) && decide (0 < x.natAbs - y.natAbs)) := by
    simp at h; rw [Bool.eq_iff_iff]; simp; omega
  generalize decide (x < 0) = p at *
  generalize decide (y < 0) = q at *
  have C := fun (W : World) (hS : SN .u32 W v (Z.dg 1000000000 x.natAbs)) (hT : SN .u32 W u (Z.dg 1000000000 y.natAbs)) => minusN v u x.natAbs y.natAbs W hS hT hl hge
  have K := fun (W : World) (r : Value) (hR : SN .u32 W r (Z.dg 1000000000 (x.natAbs - y.natAbs))) => keepN p r _ (x + y) W hR hsg
  have M := fun (W : World) (hS : SN .u32 W v (Z.dg 1000000000 x.natAbs)) (hT : SN .u32 W u (Z.dg 1000000000 y.natAbs)) => compareN v u x.natAbs y.natAbs W hS hT hl hl'
  have hcv : 0 ≤ Z.cmp x.natAbs y.natAbs := by unfold Z.cmp; split <;> (first | omega | (split <;> omega))
  generalize Z.cmp x.natAbs y.natAbs = cv at *
  have HM := Lib.hid M
  clear M hge
  have HC := Lib.hid C
  have HK := Lib.hid K
  have HV := Lib.hid hv
  clear C K hv hsg
  generalize x.natAbs - y.natAbs = n at *
  generalize Z.dg 1000000000 x.natAbs = ds at *
  generalize Z.dg 1000000000 y.natAbs = es at *
  have hS' := hS
  have hT' := hT
  obtain ⟨A, c, rfl, hc, hm, hcell⟩ := hS
  obtain ⟨A', c', rfl, hc', hm', hcell'⟩ := hT
  go_enter Try.func77, Try.ntmps77
  go_wp2_with fail
  have hB0 : Below w.heap.size w (((w.alloc (.cells #[.bool p, .slice A ds.length c] 91)).alloc (.cells #[.bool q, .slice A' es.length c'] 91)).alloc (.cells #[.bool false, .slice none 0 0] 91)) :=
    (((Below.refl _ w).alloc (Nat.le_refl _) _).alloc (by simp) _).alloc (by simp; omega) _
  have b1 : Blk (((w.alloc (.cells #[.bool p, .slice A ds.length c] 91)).alloc (.cells #[.bool q, .slice A' es.length c'] 91)).alloc (.cells #[.bool false, .slice none 0 0] 91)) w.heap.size 91 #[.bool p, .slice A ds.length c] :=
    ((Blk.new w _ _).alloc _).alloc _
  have b2 : Blk (((w.alloc (.cells #[.bool p, .slice A ds.length c] 91)).alloc (.cells #[.bool q, .slice A' es.length c'] 91)).alloc (.cells #[.bool false, .slice none 0 0] 91)) (w.heap.size + 1) 91 #[.bool q, .slice A' es.length c'] := by
    have h := (Blk.new (w.alloc (.cells #[.bool p, .slice A ds.length c] 91)) 91 #[.bool q, .slice A' es.length c']).alloc (.cells #[.bool false, .slice none 0 0] 91)
    rwa [World.size_alloc] at h
  have b3 : Blk (((w.alloc (.cells #[.bool p, .slice A ds.length c] 91)).alloc (.cells #[.bool q, .slice A' es.length c'] 91)).alloc (.cells #[.bool false, .slice none 0 0] 91)) (w.heap.size + 1 + 1) 91 #[.bool false, .slice none 0 0] := by
    have h := Blk.new ((w.alloc (.cells #[.bool p, .slice A ds.length c] 91)).alloc (.cells #[.bool q, .slice A' es.length c'] 91)) 91 #[.bool false, .slice none 0 0]
    rwa [World.size_alloc, World.size_alloc] at h
  have hS0 := hS'.below hB0
  have hT0 := hT'.below hB0
  generalize (((w.alloc (.cells #[.bool p, .slice A ds.length c] 91)).alloc (.cells #[.bool q, .slice A' es.length c'] 91)).alloc (.cells #[.bool false, .slice none 0 0] 91)) = W0 at *
  refine (HM.out _ hS0 hT0).mono ?_
  rintro e w0 ⟨rfl, n0, rfl⟩
  go_wp2_with fail
  have hB1 : Below w.heap.size w (W0.drewN n0) := hB0.trans (below_of_drewN _ _ _)
  have q1 : Blk (W0.drewN n0) w.heap.size 91 #[.bool p, .slice A ds.length c] := b1
  have q2 : Blk (W0.drewN n0) (w.heap.size + 1) 91 #[.bool q, .slice A' es.length c'] := b2
  have q3 : Blk (W0.drewN n0) (w.heap.size + 1 + 1) 91 #[.bool false, .slice none 0 0] := b3
  have hS1 := hS0.drewN n0
  have hT1 := hT0.drewN n0
  clear hB0 b1 b2 b3 hS0 hT0
  generalize W0.drewN n0 = W1 at *
  obtain ⟨W0, rfl⟩ : ∃ W : World, W = W1 := ⟨_, rfl⟩
  have hB0 := hB1
  have b1 := q1
  have b2 := q2
  have b3 := q3
  have hS0 := hS1
  have hT0 := hT1
  clear hB1 q1 q2 q3 hS1 hT1
  have l3 := b3.lt
  generalize hBB : w.heap.size = B at *
  have c0 : W0.cell? ⟨B, 0, none⟩ = some (.bool p) := b1.cell 0
  have c1 : W0.cell? ⟨B, 1, none⟩ = some (.slice A ds.length c) := b1.cell 1
  have c2 : W0.cell? ⟨B + 1, 1, none⟩ = some (.slice A' es.length c') := b2.cell 1
  have c3 : W0.cell? ⟨B + 1 + 1, 0, none⟩ = some (.bool false) := b3.cell 0
  have c4 : W0.cell? ⟨B + 1 + 1, 1, none⟩ = some (.slice none 0 0) := b3.cell 1
  have f3 := b3.frozen 0
  have f4 := b3.frozen 1
  clear hcell hcell' hS' hT'
  have HBB := Lib.hid hBB
  clear hBB
  go_region_held3 (fun W => W.cell? ⟨B, 0, none⟩ = some (.bool p) ∧ W.cell? ⟨B, 1, none⟩ = some (.slice A ds.length c) ∧ W.cell? ⟨B + 1, 1, none⟩ = some (.slice A' es.length c'))
    (first
      | exact ⟨c0, c1, c2⟩
      | exact ⟨d0, d1, d2⟩
      | exact ⟨k0, k1, k2⟩
      | exact ⟨cell_other (by omega) (cell_other (by omega) k0 _) _, cell_other (by omega) (cell_other (by omega) k1 _) _, cell_other (by omega) (cell_other (by omega) k2 _) _⟩)
    (first
      | (go_at_call 67; refine (HC.out _ (by exact hS0) (by exact hT0)).mono ?_; rintro e w1 ⟨v1, rfl, hown1, hb1⟩; obtain ⟨A2, cc2, rfl⟩ := hown1.shape; have d0 := (hb1.cell (p := ⟨B, 0, none⟩) (by show B < W0.heap.size; omega)).trans c0; have d1 := (hb1.cell (p := ⟨B, 1, none⟩) (by show B < W0.heap.size; omega)).trans c1; have d2 := (hb1.cell (p := ⟨B + 1, 1, none⟩) (by show B + 1 < W0.heap.size; omega)).trans c2)
      | (go_at_call 87; refine (HK.out _ _ hown1.sn).mono ?_; rintro e w2 ⟨rfl, hb2⟩; have hb12 := hb1.trans (hb2.mono hb1.size); have k0 := (hb12.cell (p := ⟨B, 0, none⟩) (by show B < W0.heap.size; omega)).trans c0; have k1 := (hb12.cell (p := ⟨B, 1, none⟩) (by show B < W0.heap.size; omega)).trans c1; have k2 := (hb12.cell (p := ⟨B + 1, 1, none⟩) (by show B + 1 < W0.heap.size; omega)).trans c2; have k3 := (hb12.cell (p := ⟨B + 1 + 1, 0, none⟩) (by show B + 1 + 1 < W0.heap.size; omega)).trans c3; have k4 := (hb12.cell (p := ⟨B + 1 + 1, 1, none⟩) (by show B + 1 + 1 < W0.heap.size; omega)).trans c4; have g3 := (hb12.frozen (p := ⟨B + 1 + 1, 0, none⟩) (by show B + 1 + 1 < W0.heap.size; omega)).trans f3; have g4 := (hb12.frozen (p := ⟨B + 1 + 1, 1, none⟩) (by show B + 1 + 1 < W0.heap.size; omega)).trans f4))
  go_wp2_with fail
  have hbE : Below W0.heap.size W0 w2 := (below_of_drewN W0 1 _).trans hb12
  have hoE : Ow .u32 98 w2 W0.heap.size (.slice A2 (Z.dg 1000000000 n).length cc2) (Z.dg 1000000000 n) := hown1.below hb2
  obtain ⟨h5, b5⟩ := store_num (decide (x + y < 0)) (b3.below hbE) hoE
  have x0 := b5.cell 0
  have x1 := b5.cell 1
  refine bodyPost_ret (v := .agg #[.bool (decide (x + y < 0)), .slice A2 (Z.dg 1000000000 n).length cc2]) (by simp [results, Try.results77, go_sem, x0, x1]) rfl ⟨_, rfl, ?_, ?_⟩
  · rw [HV.out, HBB.out]
    exact h5.mono (by omega)
  · rw [HBB.out]
    exact ((hB0.trans (hbE.mono (by omega))).setCell (p := ⟨B + 1 + 1, 0, none⟩) (by show B ≤ B + 1 + 1; omega) _).setCell (p := ⟨B + 1 + 1, 1, none⟩) (by show B ≤ B + 1 + 1; omega) _
theorem sum_lt (v u : Value) (x y : Int) (w : World) (hS : SN .u32 w v (Z.dg 1000000000 x.natAbs)) (hT : SN .u32 w u (Z.dg 1000000000 y.natAbs))
    (hl : (Z.dg 1000000000 x.natAbs).length ≤ 100000) (hl' : (Z.dg 1000000000 y.natAbs).length ≤ 100000) (h : (decide (x < 0) == decide (y < 0)) = false) (hge : x.natAbs < y.natAbs) :
    Calls Try.prog 77 #[.agg #[.bool (decide (x < 0)), v], .agg #[.bool (decide (y < 0)), u]] w (NumSt w (x + y)) := by
  have hv : (x + y).natAbs = y.natAbs - x.natAbs := by simp at h; omega
  have hsg : decide (x + y < 0) = (decide (y < 0) && decide (0 < y.natAbs - x.natAbs)) := by
    simp at h; rw [Bool.eq_iff_iff]; simp; omega
  generalize decide (x < 0) = p at *
  generalize decide (y < 0) = q at *
  have C := fun (W : World) (hS : SN .u32 W v (Z.dg 1000000000 x.natAbs)) (hT : SN .u32 W u (Z.dg 1000000000 y.natAbs)) => minusN u v y.natAbs x.natAbs W hT hS hl' (Nat.le_of_lt hge)
  have K := fun (W : World) (r : Value) (hR : SN .u32 W r (Z.dg 1000000000 (y.natAbs - x.natAbs))) => keepN q r _ (x + y) W hR hsg
  have M := fun (W : World) (hS : SN .u32 W v (Z.dg 1000000000 x.natAbs)) (hT : SN .u32 W u (Z.dg 1000000000 y.natAbs)) => compareN v u x.natAbs y.natAbs W hS hT hl hl'
  have hcv : Z.cmp x.natAbs y.natAbs < 0 := by rw [Z.cmp_lt hge]; omega
  generalize Z.cmp x.natAbs y.natAbs = cv at *
  have HM := Lib.hid M
  clear M hge
  have HC := Lib.hid C
  have HK := Lib.hid K
  have HV := Lib.hid hv
  clear C K hv hsg
  generalize y.natAbs - x.natAbs = n at *
  generalize Z.dg 1000000000 x.natAbs = ds at *
  generalize Z.dg 1000000000 y.natAbs = es at *
  have hS' := hS
  have hT' := hT
  obtain ⟨A, c, rfl, hc, hm, hcell⟩ := hS
  obtain ⟨A', c', rfl, hc', hm', hcell'⟩ := hT
  go_enter Try.func77, Try.ntmps77
  go_wp2_with fail
  have hB0 : Below w.heap.size w (((w.alloc (.cells #[.bool p, .slice A ds.length c] 91)).alloc (.cells #[.bool q, .slice A' es.length c'] 91)).alloc (.cells #[.bool false, .slice none 0 0] 91)) :=
    (((Below.refl _ w).alloc (Nat.le_refl _) _).alloc (by simp) _).alloc (by simp; omega) _
  have b1 : Blk (((w.alloc (.cells #[.bool p, .slice A ds.length c] 91)).alloc (.cells #[.bool q, .slice A' es.length c'] 91)).alloc (.cells #[.bool false, .slice none 0 0] 91)) w.heap.size 91 #[.bool p, .slice A ds.length c] :=
    ((Blk.new w _ _).alloc _).alloc _
  have b2 : Blk (((w.alloc (.cells #[.bool p, .slice A ds.length c] 91)).alloc (.cells #[.bool q, .slice A' es.length c'] 91)).alloc (.cells #[.bool false, .slice none 0 0] 91)) (w.heap.size + 1) 91 #[.bool q, .slice A' es.length c'] := by
    have h := (Blk.new (w.alloc (.cells #[.bool p, .slice A ds.length c] 91)) 91 #[.bool q, .slice A' es.length c']).alloc (.cells #[.bool false, .slice none 0 0] 91)
    rwa [World.size_alloc] at h
  have b3 : Blk (((w.alloc (.cells #[.bool p, .slice A ds.length c] 91)).alloc (.cells #[.bool q, .slice A' es.length c'] 91)).alloc (.cells #[.bool false, .slice none 0 0] 91)) (w.heap.size + 1 + 1) 91 #[.bool false, .slice none 0 0] := by
    have h := Blk.new ((w.alloc (.cells #[.bool p, .slice A ds.length c] 91)).alloc (.cells #[.bool q, .slice A' es.length c'] 91)) 91 #[.bool false, .slice none 0 0]
    rwa [World.size_alloc, World.size_alloc] at h
  have hS0 := hS'.below hB0
  have hT0 := hT'.below hB0
  generalize (((w.alloc (.cells #[.bool p, .slice A ds.length c] 91)).alloc (.cells #[.bool q, .slice A' es.length c'] 91)).alloc (.cells #[.bool false, .slice none 0 0] 91)) = W0 at *
  refine (HM.out _ hS0 hT0).mono ?_
  rintro e w0 ⟨rfl, n0, rfl⟩
  go_wp2_with fail
  have hB1 : Below w.heap.size w (W0.drewN n0) := hB0.trans (below_of_drewN _ _ _)
  have q1 : Blk (W0.drewN n0) w.heap.size 91 #[.bool p, .slice A ds.length c] := b1
  have q2 : Blk (W0.drewN n0) (w.heap.size + 1) 91 #[.bool q, .slice A' es.length c'] := b2
  have q3 : Blk (W0.drewN n0) (w.heap.size + 1 + 1) 91 #[.bool false, .slice none 0 0] := b3
  have hS1 := hS0.drewN n0
  have hT1 := hT0.drewN n0
  clear hB0 b1 b2 b3 hS0 hT0
  generalize W0.drewN n0 = W1 at *
  obtain ⟨W0, rfl⟩ : ∃ W : World, W = W1 := ⟨_, rfl⟩
  have hB0 := hB1
  have b1 := q1
  have b2 := q2
  have b3 := q3
  have hS0 := hS1
  have hT0 := hT1
  clear hB1 q1 q2 q3 hS1 hT1
  have l3 := b3.lt
  generalize hBB : w.heap.size = B at *
  have c0 : W0.cell? ⟨B + 1, 0, none⟩ = some (.bool q) := b2.cell 0
  have c1 : W0.cell? ⟨B, 1, none⟩ = some (.slice A ds.length c) := b1.cell 1
  have c2 : W0.cell? ⟨B + 1, 1, none⟩ = some (.slice A' es.length c') := b2.cell 1
  have c3 : W0.cell? ⟨B + 1 + 1, 0, none⟩ = some (.bool false) := b3.cell 0
  have c4 : W0.cell? ⟨B + 1 + 1, 1, none⟩ = some (.slice none 0 0) := b3.cell 1
  have f3 := b3.frozen 0
  have f4 := b3.frozen 1
  clear hcell hcell' hS' hT'
  have HBB := Lib.hid hBB
  clear hBB
  go_region_held3 (fun W => W.cell? ⟨B + 1, 0, none⟩ = some (.bool q) ∧ W.cell? ⟨B, 1, none⟩ = some (.slice A ds.length c) ∧ W.cell? ⟨B + 1, 1, none⟩ = some (.slice A' es.length c'))
    (first
      | exact ⟨c0, c1, c2⟩
      | exact ⟨d0, d1, d2⟩
      | exact ⟨k0, k1, k2⟩
      | exact ⟨cell_other (by omega) (cell_other (by omega) k0 _) _, cell_other (by omega) (cell_other (by omega) k1 _) _, cell_other (by omega) (cell_other (by omega) k2 _) _⟩)
    (first
      | (go_at_call 67; refine (HC.out _ (by exact hS0) (by exact hT0)).mono ?_; rintro e w1 ⟨v1, rfl, hown1, hb1⟩; obtain ⟨A2, cc2, rfl⟩ := hown1.shape; have d0 := (hb1.cell (p := ⟨B + 1, 0, none⟩) (by show B + 1 < W0.heap.size; omega)).trans c0; have d1 := (hb1.cell (p := ⟨B, 1, none⟩) (by show B < W0.heap.size; omega)).trans c1; have d2 := (hb1.cell (p := ⟨B + 1, 1, none⟩) (by show B + 1 < W0.heap.size; omega)).trans c2)
      | (go_at_call 87; refine (HK.out _ _ hown1.sn).mono ?_; rintro e w2 ⟨rfl, hb2⟩; have hb12 := hb1.trans (hb2.mono hb1.size); have k0 := (hb12.cell (p := ⟨B + 1, 0, none⟩) (by show B + 1 < W0.heap.size; omega)).trans c0; have k1 := (hb12.cell (p := ⟨B, 1, none⟩) (by show B < W0.heap.size; omega)).trans c1; have k2 := (hb12.cell (p := ⟨B + 1, 1, none⟩) (by show B + 1 < W0.heap.size; omega)).trans c2; have k3 := (hb12.cell (p := ⟨B + 1 + 1, 0, none⟩) (by show B + 1 + 1 < W0.heap.size; omega)).trans c3; have k4 := (hb12.cell (p := ⟨B + 1 + 1, 1, none⟩) (by show B + 1 + 1 < W0.heap.size; omega)).trans c4; have g3 := (hb12.frozen (p := ⟨B + 1 + 1, 0, none⟩) (by show B + 1 + 1 < W0.heap.size; omega)).trans f3; have g4 := (hb12.frozen (p := ⟨B + 1 + 1, 1, none⟩) (by show B + 1 + 1 < W0.heap.size; omega)).trans f4))
  go_wp2_with fail
  have hbE : Below W0.heap.size W0 w2 := (below_of_drewN W0 1 _).trans hb12
  have hoE : Ow .u32 98 w2 W0.heap.size (.slice A2 (Z.dg 1000000000 n).length cc2) (Z.dg 1000000000 n) := hown1.below hb2
  obtain ⟨h5, b5⟩ := store_num (decide (x + y < 0)) (b3.below hbE) hoE
  have x0 := b5.cell 0
  have x1 := b5.cell 1
  refine bodyPost_ret (v := .agg #[.bool (decide (x + y < 0)), .slice A2 (Z.dg 1000000000 n).length cc2]) (by simp [results, Try.results77, go_sem, x0, x1]) rfl ⟨_, rfl, ?_, ?_⟩
  · rw [HV.out, HBB.out]
    exact h5.mono (by omega)
  · rw [HBB.out]
    exact ((hB0.trans (hbE.mono (by omega))).setCell (p := ⟨B + 1 + 1, 0, none⟩) (by show B ≤ B + 1 + 1; omega) _).setCell (p := ⟨B + 1 + 1, 1, none⟩) (by show B ≤ B + 1 + 1; omega) _
/-- Whatever the numbers: their sum. -/
theorem sum_any (v u : Value) (x y : Int) (w : World) (hS : SN .u32 w v (Z.dg 1000000000 x.natAbs)) (hT : SN .u32 w u (Z.dg 1000000000 y.natAbs))
    (hl : (Z.dg 1000000000 x.natAbs).length ≤ 100000) (hl' : (Z.dg 1000000000 y.natAbs).length ≤ 100000) :
    Calls Try.prog 77 #[.agg #[.bool (decide (x < 0)), v], .agg #[.bool (decide (y < 0)), u]] w (NumSt w (x + y)) := by
  cases h : decide (x < 0) == decide (y < 0)
  · rcases Nat.lt_or_ge x.natAbs y.natAbs with h1 | h1
    · exact sum_lt v u x y w hS hT hl hl' h h1
    · exact sum_ge v u x y w hS hT hl hl' h h1
  · exact sum_same v u x y w hS hT hl hl' h
end Go.Proofs.Ythafdckomhdlbaa
