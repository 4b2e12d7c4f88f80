/- A map from flows to queues: which block each flow's queue lies in. -/
import Derived.Test.YtdjghmpaopfboaaClmem
import Derived.Maps.Own
import Derived.Maps.Views
import Derived.DeepKeys4
import Derived.WalkKit
import Derived.Lib.Hide
namespace Go.Proofs.Ytdjghmpaopfboaa
open Go.RowKit
open Go.Maps (Keyed)

theorem mlaidOut : laidOutB Try.prog = true := by kernel_rfl
theorem row_flow : (36 : TypeId) < Try.prog.types.size := of_decide_eq_true (by kernel_rfl)
theorem wide_flow : (match Try.prog.underlying 36 with | some (.array _ _) | some (.struct _) => true | _ => false) = true := by kernel_rfl
set_option maxRecDepth 100000 in
theorem law_flow : WideMaps.KeyLaw Try.prog 36 := deep_law_laid mlaidOut (m := 3) (by omega) row_flow (by kernel_rfl) wide_flow
theorem keyed_flow : Keyed Try.prog 36 := Keyed.of_law law_flow
/-- A flow as a value. -/
def fv (f : Z.Fl) : Value := .agg #[.int .i64 f.d, .string f.f, .string f.t, .string f.c, .string f.a]
theorem fv_inj {f g : Z.Fl} (h : fv f = fv g) : f = g := by
  unfold fv at h
  simp only [Value.agg.injEq, Array.mk.injEq, List.cons.injEq, Value.int.injEq, Value.string.injEq, and_true, true_and] at h
  obtain ⟨h1, h2, h3, h4, h5⟩ := h
  cases f; cases g
  simp only at *
  subst h1 h2 h3 h4 h5
  rfl
/-- A flow that may be a key. -/
def KO (f : Z.Fl) : Prop := 0 ≤ f.d ∧ f.d ≤ 99999 ∧ f.f.size ≤ 100000 ∧ f.t.size ≤ 100000 ∧ f.c.size ≤ 100000 ∧ f.a.size ≤ 100000
theorem mcells_flow : Try.prog.cellsOf 36 = 5 := by kernel_rfl
theorem mcells_int : Try.prog.cellsOf 3 = 1 := by kernel_rfl
theorem mcells_str : Try.prog.cellsOf 9 = 1 := by kernel_rfl
theorem mcells_rat : Try.prog.cellsOf 34 = 1 := by kernel_rfl
theorem lits_int (n : Nat) (a : Int) (h0 : 0 ≤ a) (h1 : a ≤ 99999) : Try.prog.keyLits (n + 1) 3 [.int .i64 a] = some [.int .i64 a] := by
  have hw : (Lit.int .i64 a).wf = true := by
    have e1 : IntKind.i64.min = -9223372036854775808 := by decide
    have e2 : IntKind.i64.max = 9223372036854775807 := by decide
    show (decide (IntKind.i64.min ≤ a) && decide (a ≤ IntKind.i64.max)) = true
    rw [e1, e2]
    simp; omega
  unfold Program.keyLits
  rw [Try.underlying3]
  simp [hw]
theorem lits_str (n : Nat) (s : ByteArray) (h : s.size ≤ 100000) : Try.prog.keyLits (n + 1) 9 [.string s] = some [.string s.data.toList] := by
  unfold Program.keyLits
  rw [Try.underlying9]
  have : s.size ≤ maxLen := by unfold maxLen; omega
  simp [this]
theorem lits_rat (n : Nat) (s : ByteArray) (h : s.size ≤ 100000) : Try.prog.keyLits (n + 1) 34 [.string s] = some [.string s.data.toList] := by
  unfold Program.keyLits
  rw [Try.underlying34]
  have : s.size ≤ maxLen := by unfold maxLen; omega
  simp [this]
set_option maxRecDepth 100000 in
theorem key_of {f : Z.Fl} (h : KO f) : ∃ l, keyOf Try.prog 36 (fv f) = some l := by
  obtain ⟨h0, h1, h2, h3, h4, h5⟩ := h
  have hk : Try.prog.keyType 36 = true := by kernel_rfl
  obtain ⟨m, hm⟩ : ∃ m, Try.prog.types.size = m + 1 := ⟨Try.prog.types.size - 1, (Nat.succ_pred_eq_of_pos (Nat.lt_of_le_of_lt (Nat.zero_le _) row_flow)).symm⟩
  unfold keyOf
  rw [Try.underlying36]
  simp only
  rw [hk, hm]
  have hf : (fv f).formed Try.prog 36 = true := by
    unfold fv Value.formed
    rw [Try.underlying36]
    simp [mcells_flow]
  rw [hf]
  have hl : ∃ ls, Try.prog.keyLits (m + 1 + 1) 36 (fv f).cells.toList = some ls := by
    have hc : (fv f).cells.toList = [.int .i64 f.d, .string f.f, .string f.t, .string f.c, .string f.a] := rfl
    rw [hc]
    unfold Program.keyLits
    rw [Try.underlying36]
    simp [mcells_flow, mcells_int, mcells_str, mcells_rat, lits_int m f.d h0 h1, lits_str m f.f h2, lits_str m f.t h3, lits_str m f.c h4, lits_rat m f.a h5]
  obtain ⟨ls, hls⟩ := hl
  exact ⟨.string (keyBytes ls), by simp [hls]⟩
def ptrV : Option Nat → Value
  | none => .pointer none
  | some b => .pointer (some ⟨b, 0, none⟩)
def RP : Value → Option (DataW Unit × List MemPlace)
  | .pointer none => some (.lit (.int .i64 (-1)), [])
  | .pointer (some ⟨b, 0, none⟩) => some (.lit (.int .i64 (b : Int)), [])
  | _ => none
def bn : Option Nat → Int
  | none => -1
  | some b => (b : Int)
theorem RP_ptr (o : Option Nat) : RP (ptrV o) = some (.lit (.int .i64 (bn o)), []) := by cases o <;> rfl
theorem RP_inv {v : Value} {o : Option Nat} {ps : List MemPlace} (h : RP v = some (.lit (.int .i64 (bn o)), ps)) : v = ptrV o := by
  unfold RP at h
  split at h
  · simp only [Option.some.injEq, Prod.mk.injEq, DataW.lit.injEq, Lit.int.injEq, true_and] at h
    cases o with
    | none => rfl
    | some b => have := h.1; unfold bn at this; simp only at this; omega
  · rename_i b
    simp only [Option.some.injEq, Prod.mk.injEq, DataW.lit.injEq, Lit.int.injEq, true_and] at h
    cases o with
    | none => have := h.1; unfold bn at this; simp only at this; omega
    | some b' =>
      have := h.1
      unfold bn at this
      simp only at this
      obtain rfl : b = b' := by omega
      rfl
  · cases h
/-- Block D is a map that says for each flow in which block its queue lies. -/
def MF (w : World) (D n : Nat) (φ : Z.Fl → Option Nat) : Prop :=
  ∃ d : DataW Unit, w.ownsMap Try.prog 36 RP D n d ∧ Go.Maps.IsMap d ∧ ∀ f l, keyOf Try.prog 36 (fv f) = some l → d.atKey l (.lit (.int .i64 (-1))) = .lit (.int .i64 (bn (φ f)))
theorem MF.made (w : World) : MF (w.alloc (.map #[] 0)) w.heap.size 0 (fun _ => none) :=
  ⟨.map [], World.ownsMap_made w _ _ _, Go.Maps.isMap_empty, fun _ _ _ => rfl⟩
theorem MF.kept {w w' : World} {D n : Nat} {φ : Z.Fl → Option Nat} (h : MF w D n φ) {row : Option Nat} (hg : w.grownBy w' row) (hne : some D ≠ row) : MF w' D n φ := by
  obtain ⟨d, h1, h2⟩ := h
  exact ⟨d, h1.kept hg hne, h2⟩
theorem MF.below {w w' : World} {D n : Nat} {φ : Z.Fl → Option Nat} (h : MF w D n φ) (hb : Below w.heap.size w w') : MF w' D n φ :=
  h.kept (row := none) ⟨hb.os, hb.tape, hb.output, hb.size, fun k hk _ => hb.block k hk⟩ (by simp)
theorem MF.lt {w : World} {D n : Nat} {φ : Z.Fl → Option Nat} (h : MF w D n φ) : D < w.heap.size := by
  obtain ⟨d, h1, _⟩ := h
  exact h1.lt
theorem zero_ptr (w : World) : (zeroValue 66).run Try.prog w = .ok (.pointer none) w := by
  simp [go_sem]
theorem MF.look {w : World} {D n : Nat} {φ : Z.Fl → Option Nat} (h : MF w D n φ) {f : Z.Fl} (hf : KO f) : (Instr.lookup 65 (.map (some D)) (fv f) false).run Try.prog w = .ok (ptrV (φ f)) w := by
  obtain ⟨d, h1, h2, h3⟩ := h
  obtain ⟨l, hl⟩ := key_of hf
  obtain ⟨v, ps, hr, hv⟩ := h1.lookup keyed_flow Try.underlying65 (zero_ptr w) (zd := .lit (.int .i64 (-1))) (zp := []) rfl hl
  rw [h3 f l hl] at hv
  rw [RP_inv hv] at hr
  exact hr
theorem mapUpd {w : World} {ops : Array Oper} {rest : List Oper} {o : Oper} {a : Act} {Q : Exit → Act → World → Prop} (hg : o.guard = none) (m x v : Operand) (hop : o.op = Op.mapUpdate 65 m x v)
    {D n : Nat} {φ : Z.Fl → Option Nat} (hm : a.eval m = .map (some D)) (h : MF w D n φ) (hn : n ≤ 100000) {f : Z.Fl} (hf : KO f) (b : Nat) (hx : a.eval x = fv f) (hv : a.eval v = .pointer (some ⟨b, 0, none⟩))
    (hK : ∀ w', MF w' D (n + 1) (fun g => if g = f then some b else φ g) → w.grownBy w' (some D) → wpList Try.prog ops Q rest (a.put o.dst undef) w') : wpList Try.prog ops Q (o :: rest) a w := by
  obtain ⟨d, h1, h2, h3⟩ := h
  obtain ⟨l, hl⟩ := key_of hf
  refine wpList_mapUpdate_own w hg m x v _ hop _ _ keyed_flow Try.underlying65 RP D n d hm h1 (by unfold maxLen; omega) _ _ l hx hv hl (.lit (.int .i64 (b : Int))) [] rfl ?_
  intro w' h1' hg'
  refine hK w' ⟨_, h1', ?_, fun g lg hlg => ?_⟩ hg'
  · obtain ⟨es, rfl⟩ := h2
    exact ⟨_, rfl⟩
  · by_cases e : g = f
    · subst e
      obtain rfl : lg = l := by rw [hl] at hlg; exact (Option.some.inj hlg).symm
      rw [Go.Maps.atKey_put_same h2 (keyed_flow.key hl)]
      show _ = DataW.lit (.int .i64 (bn (if g = g then some b else φ g)))
      rw [if_pos rfl]
      rfl
    · have hne : lg ≠ l := by rintro rfl; exact e (fv_inj (keyed_flow.inj hlg hl))
      rw [Go.Maps.atKey_put_other hne]
      show _ = DataW.lit (.int .i64 (bn (if g = f then some b else φ g)))
      rw [if_neg e]
      exact h3 g lg hlg
end Go.Proofs.Ytdjghmpaopfboaa
