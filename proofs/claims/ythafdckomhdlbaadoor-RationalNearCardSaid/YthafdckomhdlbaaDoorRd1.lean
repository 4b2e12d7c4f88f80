/- Rd1: Zrnd Zlast Rdoor Raway -/
import Derived.Test.YthafdckomhdlbaaDoorZr
import Derived.Test.YthafdckomhdlbaaDoorRows
import Derived.ProofKit
import Derived.LaidMore
import Derived.HandedShaped
import Derived.Stop.Joined
import Derived.OpenShut
import Derived.Test.YthafdckomhdlbaaDoorRops
/- Plain: rounding a fraction to an integer, as the package does it (by the absolute value) and as the reference does it (by the floor): the same. -/

namespace Go.Proofs.YthafdckomhdlbaaDoor
namespace Z
/-- What the table of ways answers: away from the integer, by the mode, whether the integer is odd, and how twice the rest compares with the denominator. -/
def awB (m : Int) (odd : Bool) (h : Int) : Bool := if m = 0 then false else if m = 1 then true else if m = 2 then decide (0 ≤ h) else if m = 3 then decide (0 < h) || (decide (h = 0) && odd) else false
def rndQ (m n d : Int) : Int := (n.natAbs : Int) / d + (if (n.natAbs : Int) % d ≠ 0 ∧ awB m (decide ((n.natAbs : Int) / d % 2 = 1)) (cmpI ((n.natAbs : Int) % d) (d - (n.natAbs : Int) % d)) = true then 1 else 0)
/-- Round of the package. -/
def rndP (m n d : Int) : Int := if m = 4 then n / d else if n < 0 then -rndQ m n d else rndQ m n d
/-- Whether the reference goes up from the floor. -/
def upR (m n d : Int) : Prop := (m = 0 ∧ n < 0) ∨ (m = 1 ∧ 0 ≤ n) ∨ (m = 2 ∧ (d < 2 * (n % d) ∨ (2 * (n % d) = d ∧ 0 ≤ n))) ∨ (m = 3 ∧ (d < 2 * (n % d) ∨ (2 * (n % d) = d ∧ n / d % 2 = 1)))
instance (m n d : Int) : Decidable (upR m n d) := by unfold upR; infer_instance
/-- Round of the reference. -/
def rndR (m n d : Int) : Int := if n % d = 0 ∨ m = 4 then n / d else n / d + (if upR m n d then 1 else 0)
theorem aw_iff {m q r d : Int} (h0 : 0 ≤ m) (h4 : m < 4) : awB m (decide (q % 2 = 1)) (cmpI r (d - r)) = true ↔ (m = 1 ∨ (m = 2 ∧ d ≤ 2 * r) ∨ (m = 3 ∧ (d < 2 * r ∨ (d = 2 * r ∧ q % 2 = 1)))) := by
  have hm : m = 0 ∨ m = 1 ∨ m = 2 ∨ m = 3 := by omega
  unfold awB cmpI
  rcases hm with rfl | rfl | rfl | rfl
  · simp
  · simp
  · simp
    split
    · simp; omega
    · split <;> simp <;> omega
  · simp
    split
    · simp; omega
    · split
      · simp; omega
      · simp; omega
theorem div_neg_zero {a d : Int} (_hd : 0 < d) (h : a % d = 0) : (-a) / d = -(a / d) ∧ (-a) % d = 0 := by
  have h1 : d ∣ a := Int.dvd_of_emod_eq_zero h
  exact ⟨Int.neg_ediv_of_dvd h1, Int.emod_eq_zero_of_dvd (Int.dvd_neg.2 h1)⟩
theorem div_neg_rest {a d : Int} (hd : 0 < d) (h : a % d ≠ 0) : (-a) / d = -(a / d) - 1 ∧ (-a) % d = d - a % d := by
  have e := Int.mul_ediv_add_emod a d
  have r0 := Int.emod_nonneg a (by omega : d ≠ 0)
  have r1 := Int.emod_lt_of_pos a hd
  have e2 : -a = (d - a % d) + d * (-(a / d) - 1) := by
    rw [Int.mul_sub, Int.mul_neg, Int.mul_one]; omega
  have q1 : (-a) / d = -(a / d) - 1 := by
    rw [e2, Int.add_mul_ediv_left _ _ (by omega : d ≠ 0), Int.ediv_eq_zero_of_lt (by omega) (by omega)]; omega
  refine ⟨q1, ?_⟩
  rw [e2, Int.add_mul_emod_self_left, Int.emod_eq_of_lt (by omega) (by omega)]
theorem rnd_eq {m n d : Int} (h0 : 0 ≤ m) (h4 : m ≤ 4) (hd : 0 < d) : rndP m n d = rndR m n d := by
  unfold rndP rndR
  by_cases hm : m = 4
  · rw [if_pos hm, if_pos (.inr hm)]
  · rw [if_neg hm]
    have aw : awB m (decide ((n.natAbs : Int) / d % 2 = 1)) (cmpI ((n.natAbs : Int) % d) (d - (n.natAbs : Int) % d)) = true ↔ _ := aw_iff h0 (by omega)
    unfold rndQ
    have r0 := Int.emod_nonneg (n.natAbs : Int) (by omega : d ≠ 0)
    have r1 := Int.emod_lt_of_pos (n.natAbs : Int) hd
    by_cases hn : n < 0
    · rw [if_pos hn]
      have en : n = -(n.natAbs : Int) := by omega
      by_cases hz : (n.natAbs : Int) % d = 0
      · obtain ⟨g1, g2⟩ := div_neg_zero hd hz
        rw [← en] at g1 g2
        rw [if_neg (fun h => h.1 hz), if_pos (.inl g2), g1]; omega
      · obtain ⟨g1, g2⟩ := div_neg_rest hd hz
        rw [← en] at g1 g2
        have hu : upR m n d ↔ ¬ (awB m (decide ((n.natAbs : Int) / d % 2 = 1)) (cmpI ((n.natAbs : Int) % d) (d - (n.natAbs : Int) % d)) = true) := by
          rw [aw]
          unfold upR
          rw [g1, g2]
          generalize (n.natAbs : Int) / d = q at *
          generalize (n.natAbs : Int) % d = r at *
          omega
        have hne : ¬ (n % d = 0 ∨ m = 4) := by rw [g2]; omega
        rw [if_neg hne, g1]
        by_cases ha : awB m (decide ((n.natAbs : Int) / d % 2 = 1)) (cmpI ((n.natAbs : Int) % d) (d - (n.natAbs : Int) % d)) = true
        · rw [if_pos ⟨hz, ha⟩, if_neg (fun h => hu.1 h ha)]; omega
        · rw [if_neg (fun h => ha h.2), if_pos (hu.2 ha)]; omega
    · rw [if_neg hn]
      have en : (n.natAbs : Int) = n := by omega
      rw [en] at aw r0 r1 ⊢
      by_cases hz : n % d = 0
      · rw [if_neg (fun h => h.1 hz), if_pos (.inl hz)]; omega
      · have hu : upR m n d ↔ awB m (decide (n / d % 2 = 1)) (cmpI (n % d) (d - n % d)) = true := by
          rw [aw]
          unfold upR
          generalize n / d = q at *
          generalize n % d = r at *
          omega
        have hne : ¬ (n % d = 0 ∨ m = 4) := by omega
        rw [if_neg hne]
        by_cases ha : awB m (decide (n / d % 2 = 1)) (cmpI (n % d) (d - n % d)) = true
        · rw [if_pos ⟨hz, ha⟩, if_pos (hu.2 ha)]
        · rw [if_neg (fun h => ha h.2), if_neg (fun h => ha (hu.1 h))]
end Z
end Go.Proofs.YthafdckomhdlbaaDoor
/- Plain: the last digit of an integer's text. -/

namespace Go.Proofs.YthafdckomhdlbaaDoor
namespace Z
theorem last_get {b : ByteArray} {l : List UInt8} {c : UInt8} (e : b.data.toList = l ++ [c]) (h : b.size - 1 < b.size) : b[b.size - 1] = c := by
  have hs : b.size = l.length + 1 := by rw [Lib.size_eq, e]; simp
  have h1 : b.data.toList[b.size - 1]? = some b[b.size - 1] := by
    rw [List.getElem?_eq_getElem (by rw [← Lib.size_eq]; exact h)]
    simp [ByteArray.getElem_eq_getElem_data]
  have hk : b.size - 1 = l.length := by omega
  rw [e] at h1
  generalize b[b.size - 1] = u at *
  rw [hk] at h1
  simp at h1
  exact h1.symm
theorem decB_last (n : Nat) : ∃ l, decB n = l ++ [chr (n % 10)] := by
  by_cases h : 0 < n
  · rw [decB_pos h]
    have hd : dg 10 n = n % 10 :: dg 10 (n / 10) := dg_pos 10 n (by omega) h
    rw [hd, List.reverse_cons, List.map_append]
    exact ⟨_, rfl⟩
  · obtain rfl : n = 0 := by omega
    exact ⟨[], rfl⟩
theorem chr_nat {d : Nat} (h : d < 10) : (chr d).toNat = 48 + d := by
  have : ∀ d : Fin 10, (chr d.val).toNat = 48 + d.val := by decide
  exact this ⟨d, h⟩
theorem last_S {x : Int} (hx : 0 ≤ x) (h : (S x).size - 1 < (S x).size) : (((S x)[(S x).size - 1].toNat : Int) - 48) = x % 10 := by
  obtain ⟨l, hl⟩ := decB_last x.natAbs
  have e : (S x).data.toList = l ++ [chr (x.natAbs % 10)] := by
    rw [S_data]; unfold txt; rw [if_neg (by omega), hl]
  rw [last_get e h, chr_nat (Nat.mod_lt _ (by omega))]
  omega
theorem odd_S {x : Int} (hx : 0 ≤ x) (h : (S x).size - 1 < (S x).size) : ((((S x)[(S x).size - 1].toNat : Int) - 48) % 2 == 1) = decide (x % 2 = 1) := by
  rw [last_S hx h]
  have : x % 10 % 2 = x % 2 := by omega
  rw [this]
  by_cases hh : x % 2 = 1 <;> simp [hh]
end Z
end Go.Proofs.YthafdckomhdlbaaDoor
/- The door of rational: what the laid table of functions gives a walk; the wrap that hands on both what is laid and the world's shape. -/

namespace Go.Proofs.YthafdckomhdlbaaDoor
open Go Go.ChangeShapes Go.WideShapes Go.ChangeAt Go.RowKit

theorem door_wrap {H : Type} {enc : TypeId × Value → H} {a : Assume} {C : Checked} {os : Os} {f : FuncId} {fn : Func} {s : ChangeSpec} {conds : List PathCond} {apart fresh handsOn again : Bool} {laid : List (String × DataW Unit)}
    (own : ownKnob C.prog.godebug = none) (started : os.Started) (noInit : C.prog.inits.idxOf? f = none) (hfn : C.prog.funcs[f]? = some fn)
    (witness : ∃ (w : World) (tape : Tape) (i : Input), w.os = os ∧ (w.forCall tape i).Shaped C.prog ∧ i.vars = [] ∧ Input.okWide C.prog (w.forCall tape i) .any w.heap.size f i ∧
      ((s.pre enc C.prog fn conds apart (w.forCall tape i).memory i.args ∧ laidMetH C.prog laid (w.forCall tape i).memory) ∧ sizedMet enc C.prog fn (OpenSpec.ofChange s) apart (w.forCall tape i).memory i.args) ∧ a.holds C.prog (lone (Frame.enter C.prog f i.args .normal) [] (w.forCall tape i)))
    (contract : ∀ (W : World) (base : Nat) (args : Array Value) (ds gs : List (DataW H)) (before : List MemPlace),
      (∀ (j : Nat) t v, fn.params[j]? = some t → args[j]? = some v → Value.okWide C.prog W .any base t v) →
      DataW.Whole enc C.prog fn.params.toList s.vars apart W args.toList ds gs before →
      (DataW.weightsEach C.prog (fn.params.toList ++ s.plain.varTypes C.prog) (ds ++ gs)).all (· ≤ reachBytes) = true → laidMetH C.prog laid W → W.ShapedOpen C.prog →
      Calls C.prog f args W fun e W' => ∃ v, e = .returned v ∧ s.post enc C.prog fn apart fresh handsOn again W args v W') :
    ReturnsInHanded a C os f .any (fun w args => (s.pre enc C.prog fn conds apart w args ∧ laidMetH C.prog laid w) ∧ sizedMet enc C.prog fn (OpenSpec.ofChange s) apart w args) (s.post enc C.prog fn apart fresh handsOn again) := by
  refine returnsInHanded_of_calls own started noInit witness ?_
  intro w tape i _ hsh _ hok hpre _
  obtain ⟨_, _, _, fn', hfn', _, _, _, _, hval⟩ := hok
  have e : fn' = fn := Option.some.inj (hfn'.symm.trans hfn)
  subst e
  obtain ⟨⟨⟨ds, gs, before, hw, _⟩, hx⟩, hz⟩ := hpre
  have hw' := DataW.Whole.of_heap (w' := w.forCall tape i) (by rfl) hw
  refine (contract (w.forCall tape i) w.heap.size i.args ds gs before hval hw' (hz.weights hw) (hx.of_heap (by rfl)) hsh).mono fun e W' ⟨v, he, hp⟩ => ?_
  subst he
  exact ChangeSpec.post_blind hp

def laidL : List (String × DataW Unit) := [("novation/rational.away", Rows.laid_novation_rational_away)]
theorem own : ownKnob Tryd.prog.godebug = none := by kernel_rfl
theorem gAway : Tryd.prog.globalNamed "novation/rational.away" = some 0 := by kernel_rfl
theorem tAway : (Tryd.prog.globals[0]?).map (·.type) = some 54 := by kernel_rfl
theorem cellsFn : Tryd.prog.cellsOf 53 = 1 := by kernel_rfl
theorem cellsTab : Tryd.prog.cellsOf 54 = 5 := by kernel_rfl
/-- The door's own heap meets the condition. -/
theorem door_met (os : Os) (args : Array Value) : laidMetH Tryd.prog laidL ((World.doorLaid Tryd.prog 600 os).forCall (fun _ _ => 0) ⟨#[], args, []⟩).memory :=
  laidMetH_of_parts3 (fuel := 8) (laidMet_of_run' 8 (by kernel_rfl) (by kernel_rfl)) (by kernel_rfl) (by kernel_rfl)
/-- The table of the five ways of rounding lies as the program's text says. -/
def Away (W : World) : Prop := W.cell? ⟨0, 0, none⟩ = some (.func (.func 104) #[] #[]) ∧ W.cell? ⟨0, 1, none⟩ = some (.func (.func 105) #[] #[]) ∧
  W.cell? ⟨0, 2, none⟩ = some (.func (.func 106) #[] #[]) ∧ W.cell? ⟨0, 3, none⟩ = some (.func (.func 107) #[] #[]) ∧
  W.cell? ⟨0, 4, none⟩ = some (.func (.func 108) #[] #[])
theorem five {α : Type} {l : List α} (h : l.length = 5) : ∃ a b c d e, l = [a, b, c, d, e] := by
  match l, h with
  | [a, b, c, d, e], _ => exact ⟨a, b, c, d, e, rfl⟩
set_option maxRecDepth 100000 in
theorem of_laid {W : World} (h : laidMetH Tryd.prog laidL W) : Away W := by
  obtain ⟨g, t, cs, fuel, p, hg, ht, hv, hd⟩ := h.funcs (List.mem_singleton.2 rfl)
  obtain rfl := Option.some.inj (gAway.symm.trans hg)
  obtain rfl := Option.some.inj (tAway.symm.trans ht)
  have hd' : DataW.trod (funcToken Tryd.prog) Tryd.prog W 0 (fun _ => true) true fuel 54 cs.toList = some (.agg [.held [110, 111, 118, 97, 116, 105, 111, 110, 47, 114, 97, 116, 105, 111, 110, 97, 108, 46, 97, 119, 97, 121, 36, 49], .held [110, 111, 118, 97, 116, 105, 111, 110, 47, 114, 97, 116, 105, 111, 110, 97, 108, 46, 97, 119, 97, 121, 36, 50], .held [110, 111, 118, 97, 116, 105, 111, 110, 47, 114, 97, 116, 105, 111, 110, 97, 108, 46, 97, 119, 97, 121, 36, 51], .held [110, 111, 118, 97, 116, 105, 111, 110, 47, 114, 97, 116, 105, 111, 110, 97, 108, 46, 97, 119, 97, 121, 36, 52], .held [110, 111, 118, 97, 116, 105, 111, 110, 47, 114, 97, 116, 105, 111, 110, 97, 108, 46, 97, 119, 97, 121, 36, 53]], p) := hd
  obtain ⟨xs, m, _, hx, hl, hn, hE⟩ := DataW.trod_array Tryd.underlying54 hd'
  rw [cellsTab] at hl
  obtain ⟨v0, v1, v2, v3, v4, hcs⟩ := five hl
  obtain ⟨x0, x1, x2, x3, x4, rfl⟩ := five hn
  simp only [Prod.mk.injEq, DataW.agg.injEq, List.map_cons, List.map_nil, List.cons.injEq, and_true] at hx
  obtain ⟨⟨y0, y1, y2, y3, y4⟩, _⟩ := hx
  rw [hcs, cellsFn] at hE
  obtain ⟨z0, q0⟩ := x0
  obtain ⟨z1, q1⟩ := x1
  obtain ⟨z2, q2⟩ := x2
  obtain ⟨z3, q3⟩ := x3
  obtain ⟨z4, q4⟩ := x4
  dsimp only at y0 y1 y2 y3 y4
  subst y0; subst y1; subst y2; subst y3; subst y4
  have e0 := hE 0 (by decide)
  have e1 := hE 1 (by decide)
  have e2 := hE 2 (by decide)
  have e3 := hE 3 (by decide)
  have e4 := hE 4 (by decide)
  obtain rfl := func_of_trod (f0 := 104) Tryd.underlying53 (by kernel_rfl) e0
  obtain rfl := func_of_trod (f0 := 105) Tryd.underlying53 (by kernel_rfl) e1
  obtain rfl := func_of_trod (f0 := 106) Tryd.underlying53 (by kernel_rfl) e2
  obtain rfl := func_of_trod (f0 := 107) Tryd.underlying53 (by kernel_rfl) e3
  obtain rfl := func_of_trod (f0 := 108) Tryd.underlying53 (by kernel_rfl) e4
  have c : ∀ i : Nat, W.cell? ⟨0, i, none⟩ = cs.toList[i]? := fun i => by
    rw [World.var?_cell hg hv i]; simp
  rw [hcs] at c
  exact ⟨c 0, c 1, c 2, c 3, c 4⟩
end Go.Proofs.YthafdckomhdlbaaDoor
/- The table of ways of rounding: what each function answers. -/

namespace Go.Proofs.YthafdckomhdlbaaDoor
open Go.RowKit

theorem away1 (odd : Bool) (h : Int) (w : World) : Calls Tryd.prog 104 #[.bool odd, .int .i64 h] w fun e w' => e = .returned (.bool (Z.awB 0 odd h)) ∧ w = w' := by
  go_enter Tryd.func104, Tryd.ntmps104
  go_wp2_with fail
  go_ret
  exact ⟨rfl, rfl⟩
theorem away2 (odd : Bool) (h : Int) (w : World) : Calls Tryd.prog 105 #[.bool odd, .int .i64 h] w fun e w' => e = .returned (.bool (Z.awB 1 odd h)) ∧ w = w' := by
  go_enter Tryd.func105, Tryd.ntmps105
  go_wp2_with fail
  go_ret
  exact ⟨rfl, rfl⟩
theorem away5 (odd : Bool) (h : Int) (w : World) : Calls Tryd.prog 108 #[.bool odd, .int .i64 h] w fun e w' => e = .returned (.bool (Z.awB 4 odd h)) ∧ w = w' := by
  go_enter Tryd.func108, Tryd.ntmps108
  go_wp2_with fail
  go_ret
  exact ⟨rfl, rfl⟩
theorem away3 (odd : Bool) (h : Int) (w : World) : Calls Tryd.prog 106 #[.bool odd, .int .i64 h] w fun e w' => e = .returned (.bool (Z.awB 2 odd h)) ∧ w = w' := by
  have e1 : Z.awB 2 odd h = decide (0 ≤ h) := rfl
  rw [e1]
  by_cases hh : 0 ≤ h
  · go_enter Tryd.func106, Tryd.ntmps106
    go_wp2_with fail
    go_ret
    exact ⟨ret_bool (by simp [hh]), rfl⟩
  · go_enter Tryd.func106, Tryd.ntmps106
    go_wp2_with fail
    go_ret
    exact ⟨ret_bool (by simp [hh]), rfl⟩
theorem away4 (odd : Bool) (h : Int) (w : World) : Calls Tryd.prog 107 #[.bool odd, .int .i64 h] w fun e w' => e = .returned (.bool (Z.awB 3 odd h)) ∧ w = w' := by
  have e1 : Z.awB 3 odd h = (decide (0 < h) || (decide (h = 0) && odd)) := rfl
  rw [e1]
  by_cases hh : 0 < h
  · go_enter Tryd.func107, Tryd.ntmps107
    go_wp2_with fail
    go_ret
    exact ⟨ret_bool (by simp [hh]), rfl⟩
  · by_cases hz : h = 0
    · subst hz
      go_enter Tryd.func107, Tryd.ntmps107
      go_wp2_with fail
      go_ret
      exact ⟨ret_bool (by simp), rfl⟩
    · have hzb : (h == 0) = false := by simpa using hz
      go_enter Tryd.func107, Tryd.ntmps107
      go_wp2_with fail
      go_ret
      exact ⟨ret_bool (by simp [hh]), rfl⟩
end Go.Proofs.YthafdckomhdlbaaDoor
