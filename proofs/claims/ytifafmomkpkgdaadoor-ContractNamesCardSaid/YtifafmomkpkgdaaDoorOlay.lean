/- The door of contract: what the laid tables of kinds give a walk; the wrap that hands on both what is laid and the world's shape. -/
import Derived.Test.YtifafmomkpkgdaaDoorCom
import Derived.Test.YtifafmomkpkgdaaDoorRows
import Derived.ProofKit
import Derived.LaidMore
import Derived.HandedShaped
import Derived.Stop.Joined
import Derived.OpenShut
import Derived.Maps.Own
import Derived.Deep.Slices
namespace Go.Proofs.YtifafmomkpkgdaaDoor
open Go Go.ChangeShapes Go.WideShapes Go.ChangeAt Go.RowKit Go.WideElems Go.Maps

theorem door_wrap {H : Type} {enc : TypeId × Value → H} {a : Assume} {C : Checked} {os : Os} {f : FuncId} {fn : Func} {s : ChangeSpec} {conds : List PathCond} {apart fresh handsOn again : Bool} {laid : List (String × DataW Unit)}
    (own : ownKnob C.prog.godebug = none) (started : os.Started) (noInit : C.prog.inits.idxOf? f = none) (hfn : C.prog.funcs[f]? = some fn)
    (witness : ∃ (w : World) (tape : Tape) (i : Input), w.os = os ∧ (w.forCall tape i).Shaped C.prog ∧ i.vars = [] ∧ Input.okWide C.prog (w.forCall tape i) .any w.heap.size f i ∧
      ((s.pre enc C.prog fn conds apart (w.forCall tape i).memory i.args ∧ laidMetH C.prog laid (w.forCall tape i).memory) ∧ sizedMet enc C.prog fn (OpenSpec.ofChange s) apart (w.forCall tape i).memory i.args) ∧ a.holds C.prog (lone (Frame.enter C.prog f i.args .normal) [] (w.forCall tape i)))
    (contract : ∀ (W : World) (base : Nat) (args : Array Value) (ds gs : List (DataW H)) (before : List MemPlace),
      (∀ (j : Nat) t v, fn.params[j]? = some t → args[j]? = some v → Value.okWide C.prog W .any base t v) →
      DataW.Whole enc C.prog fn.params.toList s.vars apart W args.toList ds gs before →
      (DataW.weightsEach C.prog (fn.params.toList ++ s.plain.varTypes C.prog) (ds ++ gs)).all (· ≤ reachBytes) = true → laidMetH C.prog laid W → W.ShapedOpen C.prog →
      Calls C.prog f args W fun e W' => ∃ v, e = .returned v ∧ s.post enc C.prog fn apart fresh handsOn again W args v W') :
    ReturnsInHanded a C os f .any (fun w args => (s.pre enc C.prog fn conds apart w args ∧ laidMetH C.prog laid w) ∧ sizedMet enc C.prog fn (OpenSpec.ofChange s) apart w args) (s.post enc C.prog fn apart fresh handsOn again) := by
  refine returnsInHanded_of_calls own started noInit witness ?_
  intro w tape i _ hsh _ hok hpre _
  obtain ⟨_, _, _, fn', hfn', _, _, _, _, hval⟩ := hok
  have e : fn' = fn := Option.some.inj (hfn'.symm.trans hfn)
  subst e
  obtain ⟨⟨⟨ds, gs, before, hw, _⟩, hx⟩, hz⟩ := hpre
  have hw' := DataW.Whole.of_heap (w' := w.forCall tape i) (by rfl) hw
  refine (contract (w.forCall tape i) w.heap.size i.args ds gs before hval hw' (hz.weights hw) (hx.of_heap (by rfl)) hsh).mono fun e W' ⟨v, he, hp⟩ => ?_
  subst he
  exact ChangeSpec.post_blind hp

def laidL : List (String × DataW Unit) := [("novation/observable.shapes", Rows.laid_novation_observable_shapes), ("novation/contract.parts", Rows.laid_novation_contract_parts)]
theorem own : ownKnob Tryd.prog.godebug = none := by kernel_rfl
theorem gShapes : Tryd.prog.globalNamed "novation/observable.shapes" = some 1 := by kernel_rfl
theorem gParts : Tryd.prog.globalNamed "novation/contract.parts" = some 0 := by kernel_rfl
theorem tShapes : (Tryd.prog.globals[1]?).map (·.type) = some 80 := by kernel_rfl
theorem tParts : (Tryd.prog.globals[0]?).map (·.type) = some 74 := by kernel_rfl
theorem keyU : Keyed Tryd.prog 5 := int_keyed Tryd.underlying5
theorem zeroI (w : World) : (zeroValue 3).run Tryd.prog w = .ok (.int .i64 0) w := by kernel_rfl
theorem zeroS (w : World) : (zeroValue 78).run Tryd.prog w = .ok (.agg #[.slice none 0 0, .int .u8 0]) w := by kernel_rfl
theorem cellsSort : Tryd.prog.cellsOf 60 = 1 := by kernel_rfl
theorem cellsSorts : Tryd.prog.cellsOf 76 = 1 := by kernel_rfl
theorem cellsShape : Tryd.prog.cellsOf 78 = 2 := by kernel_rfl
/-- The door's own heap meets the condition. -/
theorem door_met (os : Os) (args : Array Value) : laidMetH Tryd.prog laidL ((World.doorLaid Tryd.prog 600 os).forCall (fun _ _ => 0) ⟨#[], args, []⟩).memory :=
  laidMetH_of_parts3 (fuel := 8) (laidMet_of_run' 8 (by kernel_rfl) (by kernel_rfl)) (by kernel_rfl) (by kernel_rfl)
namespace Z
/-- The parts of a kind, as bits; whether there is such a kind. -/
def ptI (k : Int) : Int × Bool :=
  if k = 1 then (0, true) else if k = 2 then (15, true) else if k = 3 then (256, true) else if k = 4 then (136, true) else if k = 5 then (272, true) else if k = 6 then (160, true) else if k = 7 then (261, true) else if k = 8 then (197, true) else if k = 9 then (208, true) else if k = 10 then (208, true) else (0, false)
end Z
def uE (d : Int) : List Value := [.int .u8 d]
abbrev SU := SL 1 uE
/-- The two tables lie as the program's text says. -/
structure Lay (W : World) : Prop where
  parts : ∃ b : Nat, W.cell? ⟨0, 0, none⟩ = some (.map (some b)) ∧ 0 < W.heap.size ∧ ∀ (W' : World) (k : Int), Below W.heap.size W W' → 0 ≤ k → k ≤ 255 →
    (Instr.lookup 74 (.map (some b)) (.int .u8 k) true).run Tryd.prog W' = .ok (.tuple #[.int .i64 (Z.ptI k).1, .bool (Z.ptI k).2]) W'
  shapes : ∃ b : Nat, W.cell? ⟨1, 0, none⟩ = some (.map (some b)) ∧ 1 < W.heap.size ∧ ∀ (W' : World) (k : Int), Below W.heap.size W W' → 0 ≤ k → k ≤ 255 →
    (Z.shp k = none → (Instr.lookup 80 (.map (some b)) (.int .u8 k) true).run Tryd.prog W' = .ok (.tuple #[.agg #[.slice none 0 0, .int .u8 0], .bool false]) W') ∧
    ∀ ps own, Z.shp k = some (ps, own) → ∃ A c, (Instr.lookup 80 (.map (some b)) (.int .u8 k) true).run Tryd.prog W' = .ok (.tuple #[.agg #[.slice A ps.length c, .int .u8 own], .bool true]) W' ∧ SU W' (.slice A ps.length c) ps
theorem Lay.below {W W' : World} (h : Lay W) (hb : Below W.heap.size W W') : Lay W' := by
  obtain ⟨⟨b, h1, h2, h3⟩, ⟨b', g1, g2, g3⟩⟩ := h
  exact ⟨⟨b, (hb.cell (p := ⟨0, 0, none⟩) h2).trans h1, Nat.lt_of_lt_of_le h2 hb.size, fun W'' k hb' => h3 W'' k (hb.trans (hb'.mono hb.size))⟩, ⟨b', (hb.cell (p := ⟨1, 0, none⟩) g2).trans g1, Nat.lt_of_lt_of_le g2 hb.size, fun W'' k hb' => g3 W'' k (hb.trans (hb'.mono hb.size))⟩⟩
set_option maxRecDepth 100000 in
theorem parts_at {H : Type} (k : Int) (zd : DataW H) : (Rows.laid_novation_contract_parts (H := H)).atKey (.int .u8 k) zd = if (Z.ptI k).2 = true then .lit (.int .i64 (Z.ptI k).1) else zd := by
  by_cases h1 : k = 1
  · subst h1; rfl
  by_cases h2 : k = 2
  · subst h2; rfl
  by_cases h3 : k = 3
  · subst h3; rfl
  by_cases h4 : k = 4
  · subst h4; rfl
  by_cases h5 : k = 5
  · subst h5; rfl
  by_cases h6 : k = 6
  · subst h6; rfl
  by_cases h7 : k = 7
  · subst h7; rfl
  by_cases h8 : k = 8
  · subst h8; rfl
  by_cases h9 : k = 9
  · subst h9; rfl
  by_cases h10 : k = 10
  · subst h10; rfl
  have e : Z.ptI k = (0, false) := by unfold Z.ptI; simp only [h1, h2, h3, h4, h5, h6, h7, h8, h9, h10, if_false]
  rw [e]
  have g1 : ¬ (1 : Int) = k := fun e => h1 e.symm
  have g2 : ¬ (2 : Int) = k := fun e => h2 e.symm
  have g3 : ¬ (3 : Int) = k := fun e => h3 e.symm
  have g4 : ¬ (4 : Int) = k := fun e => h4 e.symm
  have g5 : ¬ (5 : Int) = k := fun e => h5 e.symm
  have g6 : ¬ (6 : Int) = k := fun e => h6 e.symm
  have g7 : ¬ (7 : Int) = k := fun e => h7 e.symm
  have g8 : ¬ (8 : Int) = k := fun e => h8 e.symm
  have g9 : ¬ (9 : Int) = k := fun e => h9 e.symm
  have g10 : ¬ (10 : Int) = k := fun e => h10 e.symm
  simp [Rows.laid_novation_contract_parts, DataW.atKey, List.find?, Lit.sameKey, g1, g2, g3, g4, g5, g6, g7, g8, g9, g10]
theorem pt_no {k : Int} (h : (Z.ptI k).2 = false) : (Z.ptI k).1 = 0 := by
  by_cases h1 : k = 1
  · subst h1; cases h
  by_cases h2 : k = 2
  · subst h2; cases h
  by_cases h3 : k = 3
  · subst h3; cases h
  by_cases h4 : k = 4
  · subst h4; cases h
  by_cases h5 : k = 5
  · subst h5; cases h
  by_cases h6 : k = 6
  · subst h6; cases h
  by_cases h7 : k = 7
  · subst h7; cases h
  by_cases h8 : k = 8
  · subst h8; cases h
  by_cases h9 : k = 9
  · subst h9; cases h
  by_cases h10 : k = 10
  · subst h10; cases h
  unfold Z.ptI; simp only [h1, h2, h3, h4, h5, h6, h7, h8, h9, h10, if_false]
/-- A shape's datum. -/
def shD {H : Type} (p : List Int × Int) : DataW H := .agg [.slice (p.1.map fun d => .lit (.int .u8 d)) [], .lit (.int .u8 p.2)]
set_option maxRecDepth 100000 in
theorem shapes_at {H : Type} (k : Int) (zd : DataW H) : (Rows.laid_novation_observable_shapes (H := H)).atKey (.int .u8 k) zd = match Z.shp k with | none => zd | some p => shD p := by
  by_cases h4 : k = 4
  · subst h4; rfl
  by_cases h5 : k = 5
  · subst h5; rfl
  by_cases h6 : k = 6
  · subst h6; rfl
  by_cases h7 : k = 7
  · subst h7; rfl
  by_cases h8 : k = 8
  · subst h8; rfl
  by_cases h9 : k = 9
  · subst h9; rfl
  by_cases h11 : k = 11
  · subst h11; rfl
  by_cases h12 : k = 12
  · subst h12; rfl
  by_cases h13 : k = 13
  · subst h13; rfl
  by_cases h14 : k = 14
  · subst h14; rfl
  by_cases h15 : k = 15
  · subst h15; rfl
  have e : Z.shp k = none := by unfold Z.shp; simp [h4, h5, h6, h7, h8, h9, h11, h12, h13, h14, h15]
  rw [e]
  have g4 : ¬ (4 : Int) = k := fun e => h4 e.symm
  have g5 : ¬ (5 : Int) = k := fun e => h5 e.symm
  have g6 : ¬ (6 : Int) = k := fun e => h6 e.symm
  have g7 : ¬ (7 : Int) = k := fun e => h7 e.symm
  have g8 : ¬ (8 : Int) = k := fun e => h8 e.symm
  have g9 : ¬ (9 : Int) = k := fun e => h9 e.symm
  have g11 : ¬ (11 : Int) = k := fun e => h11 e.symm
  have g12 : ¬ (12 : Int) = k := fun e => h12 e.symm
  have g13 : ¬ (13 : Int) = k := fun e => h13 e.symm
  have g14 : ¬ (14 : Int) = k := fun e => h14 e.symm
  have g15 : ¬ (15 : Int) = k := fun e => h15 e.symm
  simp [Rows.laid_novation_observable_shapes, DataW.atKey, List.find?, Lit.sameKey, g4, g5, g6, g7, g8, g9, g11, g12, g13, g14, g15]
set_option maxRecDepth 100000 in
/-- A shape read: its slice of sorts and its own sort. -/
theorem shape_read {H : Type} {enc : TypeId × Value → H} {W : World} {n : Nat} {v : Value} {y : DataW H × List MemPlace} {p : List Int × Int} (h : elemAt enc Tryd.prog W 0 (fun _ => true) false n 78 v = some y) (hy : y.1 = shD p) :
    ∃ A c, v = .agg #[.slice A p.1.length c, .int .u8 p.2] ∧ SU W (.slice A p.1.length c) p.1 := by
  unfold elemAt at h
  split at h
  case isFalse => cases h
  rename_i hf
  obtain ⟨xs, m, _, hx, hlen, hxl, hE⟩ := DataW.trod_struct Tryd.underlying78 h
  rw [cellsShape] at hlen
  cases v <;> simp [Value.formed, Tryd.underlying78] at hf
  rename_i cs
  obtain ⟨cl⟩ := cs
  match cl, hlen with
  | [c0, c1], _ =>
    match xs, hxl with
    | [x0, x1], _ =>
      rw [hx] at hy
      simp only [shD, List.map_cons, List.map_nil, DataW.agg.injEq, List.cons.injEq, and_true] at hy
      obtain ⟨y0, y1⟩ := hy
      have q0 : DataW.trod enc Tryd.prog W 0 (fun _ => true) false m 76 [c0] = some x0 := by have this : DataW.trod enc Tryd.prog W 0 (fun _ => true) false m 76 (List.take (Tryd.prog.cellsOf 76) (List.drop 0 [c0, c1])) = some x0 := hE 0 _ rfl; rw [cellsSorts] at this; exact this
      have q1 : DataW.trod enc Tryd.prog W 0 (fun _ => true) false m 60 [c1] = some x1 := by have this : DataW.trod enc Tryd.prog W 0 (fun _ => true) false m 60 (List.take (Tryd.prog.cellsOf 60) (List.drop 1 [c0, c1])) = some x1 := hE 1 _ rfl; rw [cellsSort] at this; exact this
      obtain ⟨z, e1, e2, _⟩ := DataW.trod_int Tryd.underlying60 q1
      injection e1 with e1 _
      subst e1
      rw [e2] at y1
      simp only [DataW.lit.injEq, Lit.int.injEq, true_and] at y1
      subst y1
      rcases open_ints Tryd.underlying76 Tryd.underlying60 cellsSort q0 with ⟨_, hn⟩ | ⟨a, len, cap, zs, hcs, _, hl, hm, hz, hxx, hcell, _⟩
      · rw [hn] at y0; cases y0
      · injection hcs with hcs _
        subst hcs
        rw [hxx] at y0
        simp only [DataW.slice.injEq] at y0
        obtain ⟨y0, y2⟩ := y0
        have hzl : zs.length = cap := by simpa using hz
        have hps : zs.take len = p.1 := by
          have inj : ∀ (l m : List Int), lits (H := H) .u8 l = m.map (fun d => .lit (.int .u8 d)) → l = m := by
            intro l
            induction l with
            | nil => intro m h; cases m with | nil => rfl | cons => cases h
            | cons a r ih =>
              intro m h
              cases m with
              | nil => cases h
              | cons b s =>
                simp only [lits, List.map_cons, List.cons.injEq, DataW.lit.injEq, Lit.int.injEq, true_and] at h
                rw [h.1, ih s h.2]
          exact inj _ _ y0
        have hln : p.1.length = len := by rw [← hps, List.length_take]; omega
        refine ⟨some a, cap, by rw [hln], some a, cap, rfl, by omega, hm, fun hp => ?_⟩
        obtain ⟨b, off, spot⟩ := a
        have h0 := hcell 0 (by omega)
        have hspot : spot = none := by simpa [Addr.add] using World.cell?_spot h0
        subst hspot
        refine ⟨b, off, rfl, ?_, fun i d hd j x hj => ?_⟩
        · exact World.block_lt_of_cell? _ _ h0
        · have hi : i < p.1.length := (List.getElem?_eq_some_iff.1 hd).1
          have hc := hcell i (by omega)
          rw [Go.WideShapes.add_plain] at hc
          match j, hj with
          | 0, hj =>
            injection hj with hj
            subst hj
            rw [Nat.mul_one, Nat.add_zero, hc]
            rw [← hps, List.getElem?_take_of_lt (by omega)] at hd
            simp [List.getD_eq_getElem?_getD, hd]
          | j + 1, hj => simp [uE] at hj
set_option maxRecDepth 100000 in
theorem of_laid {W : World} (h : laidMetH Tryd.prog laidL W) : Lay W := by
  rw [MakeChecks.laidMetH_plain _ _ _ (by kernel_rfl)] at h
  obtain ⟨ps, ⟨g0, t0, cs0, f0, p0, q0, hg0, ht0, hv0, hd0, ⟨g1, t1, cs1, f1, p1, q1, hg1, ht1, hv1, hd1, _, _⟩, _⟩, _, _⟩ := h
  obtain rfl := Option.some.inj (gShapes.symm.trans hg0)
  obtain rfl := Option.some.inj (gParts.symm.trans hg1)
  obtain rfl := Option.some.inj (tShapes.symm.trans ht0)
  obtain rfl := Option.some.inj (tParts.symm.trans ht1)
  rcases Go.WideElems.open_map Tryd.underlying74 hd1 with ⟨_, hx⟩ | ⟨bm, es, clock, m, rfl, hcs, hb, _, F, hx⟩
  · simp [Rows.laid_novation_contract_parts] at hx
  rcases Go.WideElems.open_map Tryd.underlying80 hd0 with ⟨_, hx'⟩ | ⟨bm', es', clock', m', rfl, hcs', hb', _, F', hx'⟩
  · simp [Rows.laid_novation_observable_shapes] at hx'
  simp only [Prod.mk.injEq] at hx hx'
  have hcell : W.cell? ⟨0, 0, none⟩ = some (.map (some bm)) := by
    have := World.var?_cell hg1 hv1 0
    rw [Array.eq_one_of_toList hcs] at this
    simpa using this
  have hcell' : W.cell? ⟨1, 0, none⟩ = some (.map (some bm')) := by
    have := World.var?_cell hg0 hv0 0
    rw [Array.eq_one_of_toList hcs'] at this
    simpa using this
  have hlt := lt_of_block hb
  have hlt' := lt_of_block hb'
  refine ⟨⟨bm, hcell, World.block_lt_of_cell? _ _ hcell, fun W' k hB h1 h2 => ?_⟩, ⟨bm', hcell', World.block_lt_of_cell? _ _ hcell', fun W' k hB h1 h2 => ?_⟩⟩
  · rcases Maps.fit_look (w := W') true keyU Tryd.underlying74 (zeroI W') ((hB.block bm hlt).trans hb) F (keyOf_int_mk Tryd.underlying5 (WalkArith.wf_u8 ⟨h1, h2⟩)) with ⟨hrun, _, hat⟩ | ⟨e0, y, _, _, hrun, hRv, hat, _⟩
    · have := hat .nil
      rw [← hx.1, parts_at] at this
      have e : (Z.ptI k).2 = false := by
        cases hh : (Z.ptI k).2
        · rfl
        · rw [hh] at this; cases this
      rw [hrun, e, pt_no e]
      rfl
    · obtain ⟨r, hr, hyr, _⟩ := elemAt_int Tryd.underlying3 hRv
      have := hat .nil
      rw [← hx.1, parts_at, hyr] at this
      have e : (Z.ptI k).2 = true := by
        cases hh : (Z.ptI k).2
        · rw [hh] at this; cases this
        · rfl
      rw [e, if_pos rfl] at this
      simp only [DataW.lit.injEq, Lit.int.injEq, true_and] at this
      rw [hrun, hr, e, this]
      rfl
  · rcases Maps.fit_look (w := W') true keyU Tryd.underlying80 (zeroS W') ((hB.block bm' hlt').trans hb') F' (keyOf_int_mk Tryd.underlying5 (WalkArith.wf_u8 ⟨h1, h2⟩)) with ⟨hrun, _, hat⟩ | ⟨e0, y, _, _, hrun, hRv, hat, _⟩
    · have := hat .nil
      rw [← hx'.1, shapes_at] at this
      have e : Z.shp k = none := by
        cases hh : Z.shp k
        · rfl
        · rw [hh] at this; cases this
      refine ⟨fun _ => by rw [hrun]; rfl, fun ps own he => by rw [e] at he; cases he⟩
    · have := hat .nil
      rw [← hx'.1, shapes_at] at this
      refine ⟨fun e => ?_, fun ps own he => ?_⟩
      · rw [e] at this
        have hh := hat (.lit (.bool true))
        rw [← hx'.1, shapes_at, e] at hh
        rw [← this] at hh
        cases hh
      · rw [he] at this
        obtain ⟨A, c, hv, hs⟩ := shape_read hRv this.symm
        exact ⟨A, c, by rw [hrun, hv]; rfl, SL.below hs hB⟩
end Go.Proofs.YtifafmomkpkgdaaDoor
