/-
  The example of the chapter, limits, further cases and errors.
-/
import Derived.Test.YtpnojgaehafjdaaRows
import Derived.Test.YtpnojgaehafjdaaCva
import Derived.Test.YtpnojgaehafjdaaCvfr
import Derived.Test.YtpnojgaehafjdaaFla
import Derived.HandedShaped
import Derived.ProofKit
import Derived.OpenShut
import Derived.ShutString
namespace Go.Proofs.Ytpnojgaehafjdaa.lawNames
open Go.ChangeShapes Go.WideShapes Go.ChangeAt Go.RowKit
open Go.ChangeMaps (open_string shut_string)

theorem own : ownKnob Try.prog.godebug = none := by kernel_rfl

def nmC : Z.Cu := (⟨100, [⟨110, ⟨#[52, 47, 53]⟩⟩, ⟨130, ⟨#[51, 47, 53]⟩⟩]⟩ : Z.Cu)
def nmQ1 : Z.Qt := (⟨[110, 130], [⟨#[49]⟩, ⟨#[49, 47, 50]⟩], ⟨#[50, 47, 49, 49]⟩⟩ : Z.Qt)
def nmQ2 : Z.Qt := (⟨[110, 120], [⟨#[55]⟩, ⟨#[45, 56]⟩], ⟨#[48]⟩⟩ : Z.Qt)
def nmQ3 : Z.Qt := (⟨[131], [⟨#[49]⟩], ⟨#[48]⟩⟩ : Z.Qt)
def nmQ4 : Z.Qt := (⟨[100], [⟨#[49]⟩], ⟨#[48]⟩⟩ : Z.Qt)
def nmQ5 : Z.Qt := (⟨[10], [⟨#[49]⟩], ⟨#[45, 49]⟩⟩ : Z.Qt)
def nmQ6 : Z.Qt := (⟨[10], [⟨#[49]⟩], ⟨#[45, 50]⟩⟩ : Z.Qt)
theorem nm_fa : Z.factorR nmC 100 = (⟨#[49]⟩, 0) := by kernel_rfl
theorem nm_fb : Z.factorR nmC 105 = (⟨#[57, 47, 49, 48]⟩, 0) := by kernel_rfl
theorem nm_fd : Z.factorR nmC 115 = (⟨#[51, 47, 52]⟩, 0) := by kernel_rfl
theorem nm_fh : Z.factorR nmC 131 = (⟨#[]⟩, 6) := by kernel_rfl
theorem nm_fi : Z.factorR nmC 99 = (⟨#[]⟩, 6) := by kernel_rfl
theorem nm_fk : Z.betweenR nmC 110 130 = (⟨#[51, 47, 52]⟩, 0) := by kernel_rfl
theorem nm_fm : Z.betweenR nmC 130 110 = (⟨#[]⟩, 2) := by kernel_rfl
theorem nm_fn : Z.betweenR nmC 110 131 = (⟨#[]⟩, 6) := by kernel_rfl
theorem nm_fo : Z.priceR nmC nmQ1 = (⟨#[45, 49, 47, 53]⟩, 0) := by kernel_rfl
theorem nm_fq : Z.parR nmC nmQ1 = (⟨#[52, 47, 49, 49]⟩, 0) := by kernel_rfl
theorem nm_fs : Z.parR nmC nmQ2 = (⟨#[]⟩, 16) := by kernel_rfl
theorem nm_ft : Z.priceR nmC nmQ3 = (⟨#[]⟩, 6) := by kernel_rfl
theorem nm_fu : Z.priceR nmC nmQ4 = (⟨#[]⟩, 8) := by kernel_rfl
theorem nm_v : Z.bootR (-1) [] = (⟨0, []⟩, 2) := by kernel_rfl
theorem nm_w (l : List Z.Qt) (h : 50 < l.length) : Z.bootR 0 l = (⟨0, []⟩, 4) := by
  unfold Z.bootR
  rw [if_pos (by decide), if_pos h]
theorem nm_x : Z.bootR 0 [Z.exQ1, Z.exQ1] = (⟨0, []⟩, 40) := by kernel_rfl
theorem nm_y : Z.bootR 0 [nmQ5] = (⟨0, []⟩, 60) := by kernel_rfl
theorem nm_z : Z.bootR 0 [nmQ6] = (⟨0, []⟩, 60) := by kernel_rfl
theorem nm_aa : Z.bootR 7 [] = (⟨7, []⟩, 0) := by kernel_rfl
def zPt : Z.Pt := ⟨0, ⟨#[]⟩⟩
def zQt : Z.Qt := ⟨[], [], ⟨#[]⟩⟩
theorem nm_ca : Z.cuE ⟨0, [⟨0, ⟨#[49]⟩⟩]⟩ = 8 := by kernel_rfl
theorem nm_cb : Z.cuE ⟨0, [⟨1, ⟨#[48]⟩⟩]⟩ = 8 := by kernel_rfl
theorem nm_cc (l : List Z.Pt) (h : 100 < l.length) : Z.cuE ⟨0, l⟩ = 4 := by
  unfold Z.cuE
  rw [if_pos h]
theorem nm_cd : Z.qtE zQt 0 = 8 := by kernel_rfl
theorem nm_ce (l : List Int) (h : 40 < l.length) : Z.qtE ⟨l, [], ⟨#[]⟩⟩ 0 = 4 := by
  unfold Z.qtE
  rw [if_pos h]
/-- A new quote's slices: two payments, one payment. -/
theorem quote2 (W : World) (a b : Int) (p q r : ByteArray) : QOk ((W.alloc (.cells #[.int .i64 a, .int .i64 b] 3)).alloc (.cells #[.string p, .string q] 35)) ⟨.slice (some ⟨W.heap.size, 0, none⟩) 2 2, .slice (some ⟨W.heap.size + 1, 0, none⟩) 2 2, r⟩ ⟨[a, b], [p, q], r⟩ := by
  have h1 := (Blk.new W 3 #[.int .i64 a, .int .i64 b]).alloc (.cells #[.string p, .string q] 35)
  have h2 := Blk.new (W.alloc (.cells #[.int .i64 a, .int .i64 b] 3)) 35 #[.string p, .string q]
  rw [World.size_alloc] at h2
  exact ⟨blk_sl dE_len h1 rfl rfl (by omega), blk_sl sE_len h2 rfl rfl (by omega), rfl⟩
theorem quote1 (W : World) (a : Int) (p r : ByteArray) : QOk ((W.alloc (.cells #[.int .i64 a] 3)).alloc (.cells #[.string p] 35)) ⟨.slice (some ⟨W.heap.size, 0, none⟩) 1 1, .slice (some ⟨W.heap.size + 1, 0, none⟩) 1 1, r⟩ ⟨[a], [p], r⟩ := by
  have h1 := (Blk.new W 3 #[.int .i64 a]).alloc (.cells #[.string p] 35)
  have h2 := Blk.new (W.alloc (.cells #[.int .i64 a] 3)) 35 #[.string p]
  rw [World.size_alloc] at h2
  exact ⟨blk_sl dE_len h1 rfl rfl (by omega), blk_sl sE_len h2 rfl rfl (by omega), rfl⟩
theorem below2 (W : World) (o1 o2 : Obj) : Below W.heap.size W ((W.alloc o1).alloc o2) := ((Below.refl _ W).alloc (Nat.le_refl _) _).alloc (by simp) _
theorem below3 (W : World) (o1 o2 o3 : Obj) : Below W.heap.size W (((W.alloc o1).alloc o2).alloc o3) := (below2 W o1 o2).alloc (by simp; omega) _
theorem blk_top (W : World) (o1 o2 : Obj) (t : TypeId) (cs : Array Value) : Blk (((W.alloc o1).alloc o2).alloc (.cells cs t)) (W.heap.size + 1 + 1) t cs := by
  have h := Blk.new ((W.alloc o1).alloc o2) t cs
  rwa [World.size_alloc, World.size_alloc] at h
theorem qok_row {W : World} {r : QV} {q : Z.Qt} (h : QOk W r q) : SQ (W.alloc (.cells #[r.dv, r.pv, .string r.rate] 49)) (.slice (some ⟨W.heap.size, 0, none⟩) 1 1) [q] :=
  ⟨[r], blk_sl QV.vs_len (Blk.new W 49 #[r.dv, r.pv, .string r.rate]) rfl rfl (by omega), rfl, fun i r' q' hr hq => by
    match i, hr, hq with
    | 0, hr, hq => injection hr with hr; injection hq with hq; subst hr hq; exact h.below ((Below.refl _ W).alloc (Nat.le_refl _) _)
    | n + 1, hr, _ => simp at hr⟩
theorem sq_nil {W : World} : SQ W (.slice none 0 0) [] := ⟨[], SL.nil_, rfl, fun i r q h => by simp at h⟩
theorem row1 (W : World) (a : Int) (p r : ByteArray) : SQ (((W.alloc (.cells #[.int .i64 a] 3)).alloc (.cells #[.string p] 35)).alloc (.cells #[.slice (some ⟨W.heap.size, 0, none⟩) 1 1, .slice (some ⟨W.heap.size + 1, 0, none⟩) 1 1, .string r] 49)) (.slice (some ⟨W.heap.size + 1 + 1, 0, none⟩) 1 1) [⟨[a], [p], r⟩] := by
  have h := qok_row (quote1 W a p r)
  rw [World.size_alloc, World.size_alloc] at h
  exact h
theorem pt1 (W : World) (d : Int) (f : ByteArray) : SP (W.alloc (.cells #[.int .i64 d, .string f] 37)) (.slice (some ⟨W.heap.size, 0, none⟩) 1 1) [⟨d, f⟩] := blk_sl Z.Pt.vs_len (Blk.new W 37 #[.int .i64 d, .string f]) rfl rfl (by omega)
theorem nm_csm : CSm nmC := fun p hp => by
  simp only [nmC, List.mem_cons, List.not_mem_nil, or_false] at hp
  rcases hp with rfl | rfl <;> decide
theorem nm_qsm1 : QSm nmQ1 := ⟨by decide, fun p hp => by
  simp only [nmQ1, List.mem_cons, List.not_mem_nil, or_false] at hp
  rcases hp with rfl | rfl <;> decide⟩
theorem nm_qsm2 : QSm nmQ2 := ⟨by decide, fun p hp => by
  simp only [nmQ2, List.mem_cons, List.not_mem_nil, or_false] at hp
  rcases hp with rfl | rfl <;> decide⟩
theorem nm_qsm3 : QSm nmQ3 := ⟨by decide, fun p hp => by
  simp only [nmQ3, List.mem_cons, List.not_mem_nil, or_false] at hp
  subst hp; decide⟩
theorem nm_qsm4 : QSm nmQ4 := ⟨by decide, fun p hp => by
  simp only [nmQ4, List.mem_cons, List.not_mem_nil, or_false] at hp
  subst hp; decide⟩
theorem nm_qsm5 : QSm nmQ5 := ⟨by decide, fun p hp => by
  simp only [nmQ5, List.mem_cons, List.not_mem_nil, or_false] at hp
  subst hp; decide⟩
theorem nm_qsm6 : QSm nmQ6 := ⟨by decide, fun p hp => by
  simp only [nmQ6, List.mem_cons, List.not_mem_nil, or_false] at hp
  subst hp; decide⟩
theorem ex_qsm1 : QSm Z.exQ1 := ⟨by decide, fun p hp => by
  simp only [Z.exQ1, List.mem_cons, List.not_mem_nil, or_false] at hp
  subst hp; decide⟩
/-! Rows of zeros, closed to the kernel. -/
theorem hq_ex : ∃ f : Nat → Array Value, ∀ n, f n = madeCells #[.slice none 0 0, .slice none 0 0, .string ⟨#[]⟩] n := ⟨_, fun _ => rfl⟩
noncomputable def hq : Nat → Array Value := Classical.choose hq_ex
theorem hq_eq (n : Nat) : hq n = madeCells #[.slice none 0 0, .slice none 0 0, .string ⟨#[]⟩] n := Classical.choose_spec hq_ex n
theorem hp_ex : ∃ f : Nat → Array Value, ∀ n, f n = madeCells #[.int .i64 0, .string ⟨#[]⟩] n := ⟨_, fun _ => rfl⟩
noncomputable def hp : Nat → Array Value := Classical.choose hp_ex
theorem hp_eq (n : Nat) : hp n = madeCells #[.int .i64 0, .string ⟨#[]⟩] n := Classical.choose_spec hp_ex n
theorem hi_ex : ∃ f : Nat → Array Value, ∀ n, f n = madeCells #[.int .i64 0] n := ⟨_, fun _ => rfl⟩
noncomputable def hi : Nat → Array Value := Classical.choose hi_ex
theorem hi_eq (n : Nat) : hi n = madeCells #[.int .i64 0] n := Classical.choose_spec hi_ex n
theorem made_rep {α : Type} {enc : α → List Value} {k : Nat} (hk : ∀ y, (enc y).length = k) (h0 : 0 < k) (y : α) (n : Nat) : madeCells (enc y).toArray (n * k) = ((List.replicate n y).flatMap enc).toArray := by
  apply Array.toList_inj.1
  apply List.ext_getElem?
  intro j
  by_cases hj : j < n * k
  · have hr : j % k < (enc y).length := by rw [hk]; exact Nat.mod_lt _ h0
    have hd : j / k < n := by rw [Nat.div_lt_iff_lt_mul h0]; exact hj
    have h1 := Z.flat_at (enc := enc) hk (l := List.replicate n y) (i := j / k) (j := j % k) (d := y) (x := (enc y)[j % k]) (by rw [List.getElem?_replicate, if_pos hd]) (List.getElem?_eq_getElem hr)
    rw [Nat.div_add_mod'] at h1
    rw [h1, Array.getElem?_toList]
    unfold madeCells
    rw [Array.getElem?_map, Array.getElem?_range, if_pos hj]
    simp only [Option.map_some, List.size_toArray, hk]
    congr 1
    rw [getElem!_pos _ _ (by rw [List.size_toArray]; exact hr)]
    simp
  · rw [List.getElem?_eq_none (by rw [Array.length_toList, size_madeCells]; omega), List.getElem?_eq_none (by rw [List.toList_toArray, Z.flat_len hk, List.length_replicate]; omega)]
theorem info_quotes : ∃ i, Try.prog.info? 49 = some i ∧ i.zero = some (.agg #[.slice none 0 0, .slice none 0 0, .string ⟨#[]⟩]) ∧ i.size = 3 ∧ i.bytes = 64 := by
  have h : (Try.prog.info? 49).map (fun i => (i.zero, i.size, i.bytes)) = some (some (.agg #[.slice none 0 0, .slice none 0 0, .string ⟨#[]⟩]), 3, 64) := by kernel_rfl
  rw [Option.map_eq_some_iff] at h
  obtain ⟨i, hi, he⟩ := h
  simp only [Prod.mk.injEq] at he
  exact ⟨i, hi, he.1, he.2.1, he.2.2⟩
theorem mk_quotes (w : World) : (Instr.makeSlice 22 (.int .i64 51) (.int .i64 51)).run Try.prog w = .ok (.slice (some ⟨w.heap.size, 0, none⟩) 51 51) (w.alloc (.cells (hq 153) 49)) := by
  obtain ⟨i, hi, hz, h1, h2⟩ := info_quotes
  have h := run_make w 22 49 i (.agg #[.slice none 0 0, .slice none 0 0, .string ⟨#[]⟩]) Try.underlying22 hi hz .i64 .i64 51 51 (by omega) (Int.le_refl _) (by rw [h2]; omega) (by omega)
  rw [h, h1, hq_eq]
  rfl
attribute [local go_sem ↓] mk_quotes
theorem info_points : ∃ i, Try.prog.info? 37 = some i ∧ i.zero = some (.agg #[.int .i64 0, .string ⟨#[]⟩]) ∧ i.size = 2 ∧ i.bytes = 24 := by
  have h : (Try.prog.info? 37).map (fun i => (i.zero, i.size, i.bytes)) = some (some (.agg #[.int .i64 0, .string ⟨#[]⟩]), 2, 24) := by kernel_rfl
  rw [Option.map_eq_some_iff] at h
  obtain ⟨i, hi, he⟩ := h
  simp only [Prod.mk.injEq] at he
  exact ⟨i, hi, he.1, he.2.1, he.2.2⟩
theorem mk_points (w : World) : (Instr.makeSlice 25 (.int .i64 101) (.int .i64 101)).run Try.prog w = .ok (.slice (some ⟨w.heap.size, 0, none⟩) 101 101) (w.alloc (.cells (hp 202) 37)) := by
  obtain ⟨i, hi, hz, h1, h2⟩ := info_points
  have h := run_make w 25 37 i (.agg #[.int .i64 0, .string ⟨#[]⟩]) Try.underlying25 hi hz .i64 .i64 101 101 (by omega) (Int.le_refl _) (by rw [h2]; omega) (by omega)
  rw [h, h1, hp_eq]
  rfl
attribute [local go_sem ↓] mk_points
theorem info_ints : ∃ i, Try.prog.info? 3 = some i ∧ i.zero = some (.int .i64 0) ∧ i.size = 1 ∧ i.bytes = 8 := by
  have h : (Try.prog.info? 3).map (fun i => (i.zero, i.size, i.bytes)) = some (some (.int .i64 0), 1, 8) := by kernel_rfl
  rw [Option.map_eq_some_iff] at h
  obtain ⟨i, hi, he⟩ := h
  simp only [Prod.mk.injEq] at he
  exact ⟨i, hi, he.1, he.2.1, he.2.2⟩
theorem mk_ints (w : World) : (Instr.makeSlice 46 (.int .i64 41) (.int .i64 41)).run Try.prog w = .ok (.slice (some ⟨w.heap.size, 0, none⟩) 41 41) (w.alloc (.cells (hi 41) 3)) := by
  obtain ⟨i, hi, hz, h1, h2⟩ := info_ints
  have h := run_make w 46 3 i (.int .i64 0) Try.underlying46 hi hz .i64 .i64 41 41 (by omega) (Int.le_refl _) (by rw [h2]; omega) (by omega)
  rw [h, h1, hi_eq]
  rfl
attribute [local go_sem ↓] mk_ints
theorem hq_row (w : World) : SQ (w.alloc (.cells (hq 153) 49)) (.slice (some ⟨w.heap.size, 0, none⟩) 51 51) (List.replicate 51 zQt) := by
  have e : hq 153 = ((List.replicate 51 (⟨.slice none 0 0, .slice none 0 0, ⟨#[]⟩⟩ : QV)).flatMap QV.vs).toArray := by
    rw [hq_eq, ← made_rep QV.vs_len (by omega)]
    rfl
  refine ⟨List.replicate 51 ⟨.slice none 0 0, .slice none 0 0, ⟨#[]⟩⟩, blk_sl QV.vs_len (Blk.new w 49 (hq 153)) e (List.length_replicate ..) (by omega), by rw [List.length_replicate, List.length_replicate], fun i r q hr hq => ?_⟩
  rw [List.getElem?_replicate] at hr hq
  split at hr
  · rename_i hi
    rw [if_pos hi] at hq
    injection hr with hr
    injection hq with hq
    subst hr hq
    exact ⟨SL.nil_, SL.nil_, rfl⟩
  · cases hr
theorem hp_row (w : World) : SP (w.alloc (.cells (hp 202) 37)) (.slice (some ⟨w.heap.size, 0, none⟩) 101 101) (List.replicate 101 zPt) := by
  have e : hp 202 = ((List.replicate 101 zPt).flatMap Z.Pt.vs).toArray := by
    rw [hp_eq, ← made_rep Z.Pt.vs_len (by omega)]
    rfl
  exact blk_sl Z.Pt.vs_len (Blk.new w 37 (hp 202)) e (List.length_replicate ..) (by omega)
theorem hi_row (w : World) : SD (w.alloc (.cells (hi 41) 3)) (.slice (some ⟨w.heap.size, 0, none⟩) 41 41) (List.replicate 41 0) := by
  have e : hi 41 = ((List.replicate 41 (0 : Int)).flatMap dE).toArray := by
    rw [hi_eq, ← made_rep dE_len (by omega)]
    rfl
  exact blk_sl dE_len (Blk.new w 3 (hi 41)) e (List.length_replicate ..) (by omega)
theorem zq_sm : ∀ q ∈ List.replicate 51 zQt, QSm q := fun q h => by
  rw [List.eq_of_mem_replicate h]
  exact ⟨by decide, fun p hp => by cases hp⟩
theorem zp_sm : CSm ⟨0, List.replicate 101 zPt⟩ := fun p hp => by
  rw [List.eq_of_mem_replicate hp]
  decide
/-- A bootstrap that answers with an error, or with no points. -/
theorem boot_lit {base : Int} {l : List Z.Qt} {k b : Int} {w w' : World} {e : Ending} (h : BootRet (Z.bootR base l) w e w') (hb : Z.bootR base l = (⟨b, []⟩, k)) : ∃ A c, e = .returned (.tuple #[.agg #[.int .i64 b, .slice A 0 c], .int .i64 k]) ∧ Below w.heap.size w w' := by
  rw [hb] at h
  obtain ⟨u, he, ho, hb2⟩ := h
  obtain ⟨A, c, rfl⟩ := ho.shape
  exact ⟨A, c, he, hb2⟩
/-- Like Y but in block g. -/
structure BX (g : Nat) (Y w : World) : Prop where
  os : w.os = Y.os
  tape : w.tape = Y.tape
  output : w.output = Y.output
  size : Y.heap.size ≤ w.heap.size
  block : ∀ k, k < Y.heap.size → k ≠ g → w.heap[k]? = Y.heap[k]?
theorem BX.of {g : Nat} {Y w : World} (h : Below Y.heap.size Y w) : BX g Y w := ⟨h.os, h.tape, h.output, h.size, fun k hk _ => h.block k hk⟩
theorem BX.trans {g : Nat} {X Y w : World} (h : BX g X Y) (k : BX g Y w) : BX g X w :=
  ⟨k.os.trans h.os, k.tape.trans h.tape, k.output.trans h.output, Nat.le_trans h.size k.size, fun i hi hn => (k.block i (Nat.lt_of_lt_of_le hi h.size) hn).trans (h.block i hi hn)⟩
theorem BX.cell {g : Nat} {Y w : World} (h : BX g Y w) {p : Addr} (hp : p.block < Y.heap.size) (hn : p.block ≠ g) : w.cell? p = Y.cell? p := World.cell?_of_block (w := Y) (h.block p.block hp hn)
theorem BX.set {g : Nat} {Y : World} {u v : Value} : BX g Y ((Y.setCell ⟨g, 0, none⟩ u).setCell ⟨g, 1, none⟩ v) :=
  ⟨rfl, rfl, rfl, by simp [World.setCell], fun k _ hn => (Below.heap_setCell _ _ _ _ hn).trans (Below.heap_setCell _ _ _ _ hn)⟩
def Bx (g : Nat) (Y : World) : Type := {w' : World // BX g Y w'}
instance (g : Nat) (Y : World) : Nonempty (Bx g Y) := ⟨⟨Y, BX.of (Below.refl _ _)⟩⟩
theorem bx_sub {g : Nat} {X Y : World} (h : Below X.heap.size X Y) : ∀ w, (∃ y : Bx g Y, w = y.1) → ∃ y : Bx g X, w = y.1 := fun _ ⟨y, hy⟩ => ⟨⟨y.1, (BX.of h).trans y.2⟩, hy⟩
theorem bx_in {g : Nat} {X Y : World} (h : Below X.heap.size X Y) (hg : X.heap.size ≤ g) : ∀ w, (∃ y : Bx g Y, w = y.1) → ∃ y : Ab X, w = y.1 := fun _ ⟨y, hy⟩ =>
  ⟨⟨y.1, ⟨y.2.os.trans h.os, y.2.tape.trans h.tape, y.2.output.trans h.output, Nat.le_trans h.size y.2.size, fun k hk => (y.2.block k (Nat.lt_of_lt_of_le hk h.size) (by omega)).trans (h.block k hk)⟩⟩, hy⟩
theorem ab_sub {X Y : World} (h : Below X.heap.size X Y) : ∀ w, (∃ y : Ab Y, w = y.1) → ∃ y : Ab X, w = y.1 := fun _ ⟨y, hy⟩ => ⟨⟨y.1, h.trans (y.2.mono h.size)⟩, hy⟩
/-- The first quote of the example, as it lies in block g. -/
structure QR (W : World) (g : Nat) (A1 : Option Addr) (c1 : Nat) (A2 : Option Addr) (c2 : Nat) : Prop where
  lt : g < W.heap.size
  q0 : W.cell? ⟨g, 0, none⟩ = some (.slice A1 1 c1)
  q1 : W.cell? ⟨g, 1, none⟩ = some (.slice A2 1 c2)
  q2 : W.cell? ⟨g, 2, none⟩ = some (.string ⟨#[49, 47, 49, 48]⟩)
  ok : QOk W ⟨.slice A1 1 c1, .slice A2 1 c2, ⟨#[49, 47, 49, 48]⟩⟩ Z.exQ1
section
variable {W W' : World} {g : Nat} {A1 A2 : Option Addr} {c1 c2 : Nat}
theorem QR.below (h : QR W g A1 c1 A2 c2) (hb : Below W.heap.size W W') : QR W' g A1 c1 A2 c2 :=
  ⟨Nat.lt_of_lt_of_le h.lt hb.size, (hb.cell (p := ⟨g, 0, none⟩) h.lt).trans h.q0, (hb.cell (p := ⟨g, 1, none⟩) h.lt).trans h.q1, (hb.cell (p := ⟨g, 2, none⟩) h.lt).trans h.q2, h.ok.below hb⟩
theorem QR.alloc (h : QR W g A1 c1 A2 c2) (o : Obj) : QR (W.alloc o) g A1 c1 A2 c2 := h.below ((Below.refl _ W).alloc (Nat.le_refl _) o)
end
theorem ex_first (w : World) : Calls Try.prog 23 #[] w fun e w' => ∃ A1 c1 A2 c2, e = .returned (.slice (some ⟨w.heap.size + 1 + 1 + 1 + 1, 0, none⟩) 2 2) ∧ Below w.heap.size w w' ∧ QR w' (w.heap.size + 1 + 1 + 1 + 1) A1 c1 A2 c2 := by
  refine (example_any w).mono ?_
  rintro e w' ⟨he, hb, hq, _⟩
  obtain ⟨b, o, r, hA, hlt, q0, q1, q2, hk⟩ := hq.at_ (k := 0) (q := Z.exQ1) rfl
  injection hA with hA
  injection hA with h1 h2 _
  subst h1 h2
  obtain ⟨dv, pv, rate⟩ := r
  obtain ⟨A1, c1, e1, _, _⟩ := hk.1.shape
  obtain ⟨A2, c2, e2, _, _⟩ := hk.2.1.shape
  have e1 : dv = .slice A1 1 c1 := e1
  have e2 : pv = .slice A2 1 c2 := e2
  have e3 : rate = ⟨#[49, 47, 49, 48]⟩ := hk.2.2
  subst e1 e2 e3
  exact ⟨A1, c1, A2, c2, he, hb, hlt, q0, q1, q2, hk⟩
/-- Two quotes in a new row. -/
theorem two_quotes (W : World) {A1 A2 B1 B2 : Option Addr} {c1 c2 d1 d2 : Nat} (h1 : QOk W ⟨.slice A1 1 c1, .slice A2 1 c2, ⟨#[49, 47, 49, 48]⟩⟩ Z.exQ1) (h2 : QOk W ⟨.slice B1 1 d1, .slice B2 1 d2, ⟨#[49, 47, 49, 48]⟩⟩ Z.exQ1) :
    SQ (W.alloc (.cells #[.slice A1 1 c1, .slice A2 1 c2, .string ⟨#[49, 47, 49, 48]⟩, .slice B1 1 d1, .slice B2 1 d2, .string ⟨#[49, 47, 49, 48]⟩] 49)) (.slice (some ⟨W.heap.size, 0, none⟩) 2 2) [Z.exQ1, Z.exQ1] :=
  ⟨[⟨.slice A1 1 c1, .slice A2 1 c2, ⟨#[49, 47, 49, 48]⟩⟩, ⟨.slice B1 1 d1, .slice B2 1 d2, ⟨#[49, 47, 49, 48]⟩⟩], blk_sl QV.vs_len (Blk.new W 49 #[.slice A1 1 c1, .slice A2 1 c2, .string ⟨#[49, 47, 49, 48]⟩, .slice B1 1 d1, .slice B2 1 d2, .string ⟨#[49, 47, 49, 48]⟩]) rfl rfl (by omega), rfl, fun i r' q' hr hq => by
    match i, hr, hq with
    | 0, hr, hq => injection hr with hr; injection hq with hq; subst hr hq; exact h1.below ((Below.refl _ W).alloc (Nat.le_refl _) _)
    | 1, hr, hq => injection hr with hr; injection hq with hq; subst hr hq; exact h2.below ((Below.refl _ W).alloc (Nat.le_refl _) _)
    | n + 2, hr, _ => simp at hr⟩
set_option maxRecDepth 100000 in
set_option maxHeartbeats 64000000 in
theorem walk (w : World) (hV : HasV w) :
    Calls Try.prog 8 #[] w fun e w' => e = .returned (.bool true) ∧ Below w.heap.size w w' := by
  have HV := Lib.hid hV
  clear hV
  go_enter Try.func8, Try.ntmps8
  go_wp2_with fail
  have h0 := below2 w (.cells #[.int .i64 110, .string ⟨#[52, 47, 53]⟩, .int .i64 130, .string ⟨#[51, 47, 53]⟩] 37) (.cells #[.int .i64 100, .slice (some ⟨w.heap.size, 0, none⟩) 2 2] 27)
  have BC0 : Blk ((w.alloc (.cells #[.int .i64 110, .string ⟨#[52, 47, 53]⟩, .int .i64 130, .string ⟨#[51, 47, 53]⟩] 37)).alloc (.cells #[.int .i64 100, .slice (some ⟨w.heap.size, 0, none⟩) 2 2] 27)) (w.heap.size + 1) 27 #[.int .i64 100, .slice (some ⟨w.heap.size, 0, none⟩) 2 2] := by
    have h := Blk.new (w.alloc (.cells #[.int .i64 110, .string ⟨#[52, 47, 53]⟩, .int .i64 130, .string ⟨#[51, 47, 53]⟩] 37)) 27 #[.int .i64 100, .slice (some ⟨w.heap.size, 0, none⟩) 2 2]
    rwa [World.size_alloc] at h
  have HS : Hid (SP ((w.alloc (.cells #[.int .i64 110, .string ⟨#[52, 47, 53]⟩, .int .i64 130, .string ⟨#[51, 47, 53]⟩] 37)).alloc (.cells #[.int .i64 100, .slice (some ⟨w.heap.size, 0, none⟩) 2 2] 27)) (.slice (some ⟨w.heap.size, 0, none⟩) 2 2) nmC.pts) := Lib.hid (blk_sl Z.Pt.vs_len ((Blk.new w 37 #[.int .i64 110, .string ⟨#[52, 47, 53]⟩, .int .i64 130, .string ⟨#[51, 47, 53]⟩]).alloc (.cells #[.int .i64 100, .slice (some ⟨w.heap.size, 0, none⟩) 2 2] 27)) rfl rfl (by omega))
  have c0 := BC0.cell 0
  have c1 := BC0.cell 1
  generalize ((w.alloc (.cells #[.int .i64 110, .string ⟨#[52, 47, 53]⟩, .int .i64 130, .string ⟨#[51, 47, 53]⟩] 37)).alloc (.cells #[.int .i64 100, .slice (some ⟨w.heap.size, 0, none⟩) 2 2] 27)) = W0 at *
  obtain ⟨g, hg⟩ : ∃ g, g = w.heap.size := ⟨_, rfl⟩
  rw [← hg] at BC0 HS c0 c1 ⊢
  have HG := Lib.hid hg
  have CF : Hid (∀ d s k, Z.factorR nmC d = (s, k) → ∀ W, Below W0.heap.size W0 W → Calls Try.prog 15 #[.agg #[.int .i64 100, .slice (some ⟨g, 0, none⟩) 2 2], .int .i64 d] W fun e w' => e = .returned (.tuple #[.string s, .int .i64 k]) ∧ Below W.heap.size W w') := Lib.hid (fun d s k he W h => by
    have := factorF_any nmC _ d W (HS.out.below h) (HV.out.below (h0.trans (h.mono h0.size))) nm_csm
    rw [he] at this
    exact this)
  have CB_ : Hid (∀ x y s k, Z.betweenR nmC x y = (s, k) → ∀ W, Below W0.heap.size W0 W → Calls Try.prog 19 #[.agg #[.int .i64 100, .slice (some ⟨g, 0, none⟩) 2 2], .int .i64 x, .int .i64 y] W fun e w' => e = .returned (.tuple #[.string s, .int .i64 k]) ∧ Below W.heap.size W w') := Lib.hid (fun x y s k he W h => by
    have := between_any nmC _ x y W (HS.out.below h) (HV.out.below (h0.trans (h.mono h0.size))) nm_csm
    rw [he] at this
    exact this)
  have CP : Hid (∀ (r : QV) (q : Z.Qt) s k, Z.priceR nmC q = (s, k) → QSm q → ∀ W, Below W0.heap.size W0 W → QOk W r q → Calls Try.prog 21 #[.agg #[.int .i64 100, .slice (some ⟨g, 0, none⟩) 2 2], .agg #[r.dv, r.pv, .string r.rate]] W fun e w' => e = .returned (.tuple #[.string s, .int .i64 k]) ∧ Below W.heap.size W w') := Lib.hid (fun r q s k he hs W h hk => by
    have := price_any nmC _ r q W (HS.out.below h) hk (HV.out.below (h0.trans (h.mono h0.size))) nm_csm hs
    rw [he] at this
    exact this)
  have CR : Hid (∀ (r : QV) (q : Z.Qt) s k, Z.parR nmC q = (s, k) → QSm q → ∀ W, Below W0.heap.size W0 W → QOk W r q → Calls Try.prog 22 #[.agg #[.int .i64 100, .slice (some ⟨g, 0, none⟩) 2 2], .agg #[r.dv, r.pv, .string r.rate]] W fun e w' => e = .returned (.tuple #[.string s, .int .i64 k]) ∧ Below W.heap.size W w') := Lib.hid (fun r q s k he hs W h hk => by
    have := par_any nmC _ r q W (HS.out.below h) hk (HV.out.below (h0.trans (h.mono h0.size))) nm_csm hs
    rw [he] at this
    exact this)
  clear hg
  have k0 := Below.refl W0.heap.size W0
  refine (CF.out 100 _ _ nm_fa W0 k0).mono ?_
  rintro e W1 ⟨rfl, hb⟩
  have k1 := k0.trans (hb.mono k0.size)
  have BC1 := BC0.below hb
  clear c0 c1 BC0 k0
  have c0 := BC1.cell 0
  have c1 := BC1.cell 1
  clear hb
  go_wp2_with fail
  refine (CF.out 105 _ _ nm_fb W1 k1).mono ?_
  rintro e W2 ⟨rfl, hb⟩
  have k2 := k1.trans (hb.mono k1.size)
  have BC2 := BC1.below hb
  clear c0 c1 BC1 k1
  have c0 := BC2.cell 0
  have c1 := BC2.cell 1
  clear hb
  go_wp2_with fail
  refine (CF.out 115 _ _ nm_fd W2 k2).mono ?_
  rintro e W3 ⟨rfl, hb⟩
  have k3 := k2.trans (hb.mono k2.size)
  have BC3 := BC2.below hb
  clear c0 c1 BC2 k2
  have c0 := BC3.cell 0
  have c1 := BC3.cell 1
  clear hb
  go_wp2_with fail
  refine (CF.out 131 _ _ nm_fh W3 k3).mono ?_
  rintro e W4 ⟨rfl, hb⟩
  have k4 := k3.trans (hb.mono k3.size)
  have BC4 := BC3.below hb
  clear c0 c1 BC3 k3
  have c0 := BC4.cell 0
  have c1 := BC4.cell 1
  clear hb
  go_wp2_with fail
  refine (CF.out 99 _ _ nm_fi W4 k4).mono ?_
  rintro e W5 ⟨rfl, hb⟩
  have k5 := k4.trans (hb.mono k4.size)
  have BC5 := BC4.below hb
  clear c0 c1 BC4 k4
  have c0 := BC5.cell 0
  have c1 := BC5.cell 1
  clear hb
  go_wp2_with fail
  refine (CB_.out 110 130 _ _ nm_fk W5 k5).mono ?_
  rintro e W6 ⟨rfl, hb⟩
  have k6 := k5.trans (hb.mono k5.size)
  have BC6 := BC5.below hb
  clear c0 c1 BC5 k5
  have c0 := BC6.cell 0
  have c1 := BC6.cell 1
  clear hb
  go_wp2_with fail
  refine (CB_.out 130 110 _ _ nm_fm W6 k6).mono ?_
  rintro e W7 ⟨rfl, hb⟩
  have k7 := k6.trans (hb.mono k6.size)
  have BC7 := BC6.below hb
  clear c0 c1 BC6 k6
  have c0 := BC7.cell 0
  have c1 := BC7.cell 1
  clear hb
  go_wp2_with fail
  refine (CB_.out 110 131 _ _ nm_fn W7 k7).mono ?_
  rintro e W8 ⟨rfl, hb⟩
  have k8 := k7.trans (hb.mono k7.size)
  have BC8 := BC7.below hb
  clear c0 c1 BC7 k7
  have c0 := BC8.cell 0
  have c1 := BC8.cell 1
  clear hb
  go_upto_region 11 with fail
  have hb := below3 W8 (.cells #[.int .i64 110, .int .i64 130] 3) (.cells #[.string ⟨#[49]⟩, .string ⟨#[49, 47, 50]⟩] 35) (.cells #[.slice (some ⟨W8.heap.size, 0, none⟩) 2 2, .slice (some ⟨W8.heap.size + 1, 0, none⟩) 2 2, .string ⟨#[50, 47, 49, 49]⟩] 49)
  have BQa := blk_top W8 (.cells #[.int .i64 110, .int .i64 130] 3) (.cells #[.string ⟨#[49]⟩, .string ⟨#[49, 47, 50]⟩] 35) 49 #[.slice (some ⟨W8.heap.size, 0, none⟩) 2 2, .slice (some ⟨W8.heap.size + 1, 0, none⟩) 2 2, .string ⟨#[50, 47, 49, 49]⟩]
  have HQa : Hid (QOk (((W8.alloc (.cells #[.int .i64 110, .int .i64 130] 3)).alloc (.cells #[.string ⟨#[49]⟩, .string ⟨#[49, 47, 50]⟩] 35)).alloc (.cells #[.slice (some ⟨W8.heap.size, 0, none⟩) 2 2, .slice (some ⟨W8.heap.size + 1, 0, none⟩) 2 2, .string ⟨#[50, 47, 49, 49]⟩] 49)) ⟨.slice (some ⟨W8.heap.size, 0, none⟩) 2 2, .slice (some ⟨W8.heap.size + 1, 0, none⟩) 2 2, ⟨#[50, 47, 49, 49]⟩⟩ nmQ1) := Lib.hid ((quote2 W8 110 130 ⟨#[49]⟩ ⟨#[49, 47, 50]⟩ ⟨#[50, 47, 49, 49]⟩).below ((Below.refl _ _).alloc (Nat.le_refl _) _))
  have k9 := k8.trans (hb.mono k8.size)
  have BC9 := BC8.below hb
  generalize (((W8.alloc (.cells #[.int .i64 110, .int .i64 130] 3)).alloc (.cells #[.string ⟨#[49]⟩, .string ⟨#[49, 47, 50]⟩] 35)).alloc (.cells #[.slice (some ⟨W8.heap.size, 0, none⟩) 2 2, .slice (some ⟨W8.heap.size + 1, 0, none⟩) 2 2, .string ⟨#[50, 47, 49, 49]⟩] 49)) = W9 at *
  clear c0 c1 BC8 k8 hb
  generalize W8.heap.size = ga at *
  have c0 := BC9.cell 0
  have c1 := BC9.cell 1
  have q0 := BQa.cell 0
  have q1 := BQa.cell 1
  have q2 := BQa.cell 2
  go_wp2_with fail
  refine (CP.out _ _ _ _ nm_fo nm_qsm1 W9 k9 HQa.out).mono ?_
  rintro e W10 ⟨rfl, hb⟩
  have k10 := k9.trans (hb.mono k9.size)
  have BC10 := BC9.below hb
  clear c0 c1 BC9 k9
  have c0 := BC10.cell 0
  have c1 := BC10.cell 1
  have HQb := Lib.hid (HQa.out.below hb)
  have BQb := BQa.below hb
  clear hb q0 q1 q2 HQa BQa
  have q0 := BQb.cell 0
  have q1 := BQb.cell 1
  have q2 := BQb.cell 2
  go_wp2_with fail
  refine (CR.out _ _ _ _ nm_fq nm_qsm1 W10 k10 HQb.out).mono ?_
  rintro e W11 ⟨rfl, hb⟩
  have k11 := k10.trans (hb.mono k10.size)
  have BC11 := BC10.below hb
  clear c0 c1 BC10 k10
  have c0 := BC11.cell 0
  have c1 := BC11.cell 1
  clear hb q0 q1 q2 HQb BQb
  go_upto_region 14 with fail
  have hb := below3 W11 (.cells #[.int .i64 110, .int .i64 120] 3) (.cells #[.string ⟨#[55]⟩, .string ⟨#[45, 56]⟩] 35) (.cells #[.slice (some ⟨W11.heap.size, 0, none⟩) 2 2, .slice (some ⟨W11.heap.size + 1, 0, none⟩) 2 2, .string ⟨#[48]⟩] 49)
  have BQc := blk_top W11 (.cells #[.int .i64 110, .int .i64 120] 3) (.cells #[.string ⟨#[55]⟩, .string ⟨#[45, 56]⟩] 35) 49 #[.slice (some ⟨W11.heap.size, 0, none⟩) 2 2, .slice (some ⟨W11.heap.size + 1, 0, none⟩) 2 2, .string ⟨#[48]⟩]
  have HQc : Hid (QOk (((W11.alloc (.cells #[.int .i64 110, .int .i64 120] 3)).alloc (.cells #[.string ⟨#[55]⟩, .string ⟨#[45, 56]⟩] 35)).alloc (.cells #[.slice (some ⟨W11.heap.size, 0, none⟩) 2 2, .slice (some ⟨W11.heap.size + 1, 0, none⟩) 2 2, .string ⟨#[48]⟩] 49)) ⟨.slice (some ⟨W11.heap.size, 0, none⟩) 2 2, .slice (some ⟨W11.heap.size + 1, 0, none⟩) 2 2, ⟨#[48]⟩⟩ nmQ2) := Lib.hid ((quote2 W11 110 120 ⟨#[55]⟩ ⟨#[45, 56]⟩ ⟨#[48]⟩).below ((Below.refl _ _).alloc (Nat.le_refl _) _))
  have k12 := k11.trans (hb.mono k11.size)
  have BC12 := BC11.below hb
  generalize (((W11.alloc (.cells #[.int .i64 110, .int .i64 120] 3)).alloc (.cells #[.string ⟨#[55]⟩, .string ⟨#[45, 56]⟩] 35)).alloc (.cells #[.slice (some ⟨W11.heap.size, 0, none⟩) 2 2, .slice (some ⟨W11.heap.size + 1, 0, none⟩) 2 2, .string ⟨#[48]⟩] 49)) = W12 at *
  clear c0 c1 BC11 k11 hb
  generalize W11.heap.size = gc at *
  have c0 := BC12.cell 0
  have c1 := BC12.cell 1
  have q0 := BQc.cell 0
  have q1 := BQc.cell 1
  have q2 := BQc.cell 2
  go_wp2_with fail
  refine (CR.out _ _ _ _ nm_fs nm_qsm2 W12 k12 HQc.out).mono ?_
  rintro e W13 ⟨rfl, hb⟩
  have k13 := k12.trans (hb.mono k12.size)
  have BC13 := BC12.below hb
  clear c0 c1 BC12 k12
  have c0 := BC13.cell 0
  have c1 := BC13.cell 1
  clear hb q0 q1 q2 HQc BQc
  go_wp2_with fail
  refine (CP.out ⟨_, _, _⟩ nmQ3 _ _ nm_ft nm_qsm3 ((W13.alloc (.cells #[.int .i64 131] 3)).alloc (.cells #[.string ⟨#[49]⟩] 35)) (k13.trans ((below2 W13 (.cells #[.int .i64 131] 3) (.cells #[.string ⟨#[49]⟩] 35)).mono k13.size)) (quote1 W13 131 ⟨#[49]⟩ ⟨#[48]⟩)).mono ?_
  rintro e W14 ⟨rfl, hb⟩
  have hb2 := (below2 W13 (.cells #[.int .i64 131] 3) (.cells #[.string ⟨#[49]⟩] 35)).trans (hb.mono (below2 W13 (.cells #[.int .i64 131] 3) (.cells #[.string ⟨#[49]⟩] 35)).size)
  have k14 := k13.trans (hb2.mono k13.size)
  have BC14 := BC13.below hb2
  clear c0 c1 BC13 k13 hb hb2
  have c0 := BC14.cell 0
  have c1 := BC14.cell 1
  go_wp2_with fail
  refine (CP.out ⟨_, _, _⟩ nmQ4 _ _ nm_fu nm_qsm4 ((W14.alloc (.cells #[.int .i64 100] 3)).alloc (.cells #[.string ⟨#[49]⟩] 35)) (k14.trans ((below2 W14 (.cells #[.int .i64 100] 3) (.cells #[.string ⟨#[49]⟩] 35)).mono k14.size)) (quote1 W14 100 ⟨#[49]⟩ ⟨#[48]⟩)).mono ?_
  rintro e W15 ⟨rfl, hb⟩
  have hb2 := (below2 W14 (.cells #[.int .i64 100] 3) (.cells #[.string ⟨#[49]⟩] 35)).trans (hb.mono (below2 W14 (.cells #[.int .i64 100] 3) (.cells #[.string ⟨#[49]⟩] 35)).size)
  have k15 := k14.trans (hb2.mono k14.size)
  have BC15 := BC14.below hb2
  clear c0 c1 BC14 k14 hb hb2
  have c0 := BC15.cell 0
  have c1 := BC15.cell 1
  clear c0 c1 BC15 CF CB_ CP CR HS
  go_wp2_with fail
  refine (is_any _ _ _ _).mono ?_
  rintro e wi ⟨rfl, rfl⟩
  rw [decide_eq_true (by exact ⟨rfl, rfl⟩)]
  go_wp2_with fail
  refine (is_any _ _ _ _).mono ?_
  rintro e wi ⟨rfl, rfl⟩
  rw [decide_eq_true (by exact ⟨rfl, rfl⟩)]
  go_wp2_with fail
  refine (is_any _ _ _ _).mono ?_
  rintro e wi ⟨rfl, rfl⟩
  rw [decide_eq_true (by exact ⟨rfl, rfl⟩)]
  go_wp2_with fail
  refine (is_any _ _ _ _).mono ?_
  rintro e wi ⟨rfl, rfl⟩
  rw [decide_eq_true (by exact ⟨rfl, rfl⟩)]
  go_wp2_with fail
  refine (is_any _ _ _ _).mono ?_
  rintro e wi ⟨rfl, rfl⟩
  rw [decide_eq_true (by exact ⟨rfl, rfl⟩)]
  go_wp2_with fail
  refine (is_any _ _ _ _).mono ?_
  rintro e wi ⟨rfl, rfl⟩
  rw [decide_eq_true (by exact ⟨rfl, rfl⟩)]
  go_wp2_with fail
  refine (boot_any (-1) _ [] W15 sq_nil (HV.out.below (h0.trans (k15.mono h0.size))) (fun q hq => by cases hq)).mono ?_
  intro e W hr
  obtain ⟨A15, d15, rfl, hb⟩ := boot_lit hr nm_v
  have k16 := k15.trans ((hb.alloc hb.size (.cells #[.int .i64 0, .slice A15 0 d15] 27)).mono k15.size)
  clear hr k15
  go_upto_region 19 with fail
  generalize (W.alloc (.cells #[.int .i64 0, .slice A15 0 d15] 27)) = W16 at *
  clear hb
  go_wp2_with fail
  have hb1 := (Below.refl _ W16).alloc (Nat.le_refl W16.heap.size) (.cells (hq 153) 49)
  refine (boot_any 0 _ (List.replicate 51 zQt) (W16.alloc (.cells (hq 153) 49)) (hq_row W16) (HV.out.below (h0.trans ((k16.trans (hb1.mono k16.size)).mono h0.size))) zq_sm).mono ?_
  intro e W hr
  obtain ⟨A16, d16, rfl, hb⟩ := boot_lit hr (nm_w _ (by rw [List.length_replicate]; omega))
  have hb2 := hb1.trans (hb.mono hb1.size)
  have k17 := k16.trans ((hb2.alloc hb2.size (.cells #[.int .i64 0, .slice A16 0 d16] 27)).mono k16.size)
  clear hr k16
  clear hb1 hb2
  go_upto_region 20 with fail
  generalize (W.alloc (.cells #[.int .i64 0, .slice A16 0 d16] 27)) = W17 at *
  clear hb
  have HVW : Hid (∀ X, Below W17.drew.heap.size W17.drew X → HasV X) := Lib.hid (fun X h => HV.out.below (h0.trans (((k17.drew).trans (h.mono k17.drew.size)).mono h0.size)))
  have kX := Below.refl W17.drew.heap.size W17.drew
  have HX : Hid (∀ X, Below W17.drew.heap.size W17.drew X → Below W17.heap.size W17 X) := Lib.hid (fun X h => (Below.refl _ W17).drew.trans h)
  go_cut [36] (fun ev wx => ev = .int .i64 40 ∧ Below W17.heap.size W17 wx)
  case first =>
    refine wp_region_fx 13 (fun w' => ∃ y : Ab W17.drew, w' = y.1) (by kernel_rfl) ?_
    show fxAny _ _ _ _ 13 _ 14 _ _ _
    generalize W17.drew = X at *
    refine fx_two (k := 0) (l := 11) (by kernel_rfl) ?_ ?_
    rotate_left
    · skip
      simp only [opsAt, List.filterMap_cons, List.filterMap_nil, List.getElem?_toArray, List.getElem?_cons_succ, List.getElem?_cons_zero]
      refine fxp_value (u := .pointer (some ⟨X.heap.size, 0, none⟩)) (w' := (X.alloc (.cells #[.int .i64 0, .slice none 0 0] 27))) rfl (by simp [go_sem]) ⟨⟨(X.alloc (.cells #[.int .i64 0, .slice none 0 0] 27)), (Below.refl _ X).alloc (Nat.le_refl X.heap.size) (.cells #[.int .i64 0, .slice none 0 0] 27)⟩, rfl⟩ ?_
      have kb := (Below.refl _ X).alloc (Nat.le_refl X.heap.size) (.cells #[.int .i64 0, .slice none 0 0] 27)
      refine fxp_nil ?_
      simp only [Act.put, List.setIfInBounds_toArray, List.set_cons_succ, List.set_cons_zero]
      have BZX := Blk.new X 27 #[.int .i64 0, .slice none 0 0]
      have kZX := kX.trans (kb.mono kX.size)
      refine fx_class (C' := fun w' => ∃ y : Bx X.heap.size (X.alloc (.cells #[.int .i64 0, .slice none 0 0] 27)), w' = y.1) (bx_in kb (Nat.le_refl _)) _ _ _ _ ?_
      obtain ⟨gz, hgz⟩ : ∃ g, g = X.heap.size := ⟨_, rfl⟩
      rw [← hgz] at BZX ⊢
      have HGZ : Hid (X.heap.size ≤ gz) := Lib.hid (hgz ▸ kX.size)
      generalize (X.alloc (.cells #[.int .i64 0, .slice none 0 0] 27)) = ZX at *
      have BZ := BZX
      clear kb BZX hgz
      refine fx_one (k := 0) (by kernel_rfl) ?_
      simp only [opsAt, List.filterMap_cons, List.filterMap_nil, List.getElem?_toArray, List.getElem?_cons_succ, List.getElem?_cons_zero]
      refine fxp_enter (f := 23) (args := #[]) (w' := ZX) rfl (by simp [go_sem]) ?_
      have hlt0 := BZ.lt
      refine (ex_first ZX).mono ?_
      rintro e ZXe ⟨A1, c1, A2, c2, rfl, kb, q1⟩
      refine ⟨_, rfl, ⟨⟨ZXe, BX.of kb⟩, rfl⟩, ?_⟩
      refine fxp_nil ?_
      simp only [Act.put, List.setIfInBounds_toArray, List.set_cons_succ, List.set_cons_zero]
      refine fx_class (C' := fun w' => ∃ y : Bx gz ZXe, w' = y.1) (bx_sub kb) _ _ _ _ ?_
      have kZXe := kZX.trans (kb.mono kZX.size)
      have BZ := BZ.below kb
      have hne : ZX.heap.size + 1 + 1 + 1 + 1 ≠ gz := Nat.ne_of_gt (Nat.lt_of_lt_of_le (hlt0 : gz < ZX.heap.size) (Nat.le_add_right _ 4))
      have g0 : ∀ y : Bx gz ZXe, y.1.cell? ⟨ZX.heap.size + 1 + 1 + 1 + 1, 0, none⟩ = some (.slice A1 1 c1) := fun y => (y.2.cell (p := ⟨_, 0, none⟩) q1.lt hne).trans q1.q0
      have g1 : ∀ y : Bx gz ZXe, y.1.cell? ⟨ZX.heap.size + 1 + 1 + 1 + 1, 1, none⟩ = some (.slice A2 1 c2) := fun y => (y.2.cell (p := ⟨_, 1, none⟩) q1.lt hne).trans q1.q1
      have g2 : ∀ y : Bx gz ZXe, y.1.cell? ⟨ZX.heap.size + 1 + 1 + 1 + 1, 2, none⟩ = some (.string ⟨#[49, 47, 49, 48]⟩) := fun y => (y.2.cell (p := ⟨_, 2, none⟩) q1.lt hne).trans q1.q2
      refine fx_reads (n := 10) [1, 2] rfl (by kernel_rfl) ⟨⟨ZXe, BX.of (Below.refl _ _)⟩, rfl⟩ ?_
      simp only [opsAt, List.filterMap_cons, List.filterMap_nil, List.getElem?_toArray, List.getElem?_cons_succ, List.getElem?_cons_zero]
      show wpQuiet _ _ _ _ [_, _] _
      repeat (go_big_quiet_step (fail))
      refine wpQuiet_nil ?_
      clear g0 g1 g2 kb hne hlt0
      refine fx_one (k := 3) (by kernel_rfl) ?_
      simp only [opsAt, List.filterMap_cons, List.filterMap_nil, List.getElem?_toArray, List.getElem?_cons_succ, List.getElem?_cons_zero]
      refine fxp_enter (f := 23) (args := #[]) (w' := ZXe) rfl (by simp [go_sem]) ?_
      have hlt0 := BZ.lt
      refine (ex_first ZXe).mono ?_
      rintro e ZXee ⟨B1, d1, B2, d2, rfl, kb, q2⟩
      refine ⟨_, rfl, ⟨⟨ZXee, BX.of kb⟩, rfl⟩, ?_⟩
      refine fxp_nil ?_
      simp only [Act.put, List.setIfInBounds_toArray, List.set_cons_succ, List.set_cons_zero]
      refine fx_class (C' := fun w' => ∃ y : Bx gz ZXee, w' = y.1) (bx_sub kb) _ _ _ _ ?_
      have kZXee := kZXe.trans (kb.mono kZXe.size)
      have BZ := BZ.below kb
      have q1 := q1.below kb
      have hne : ZXe.heap.size + 1 + 1 + 1 + 1 ≠ gz := Nat.ne_of_gt (Nat.lt_of_lt_of_le (hlt0 : gz < ZXe.heap.size) (Nat.le_add_right _ 4))
      have g0 : ∀ y : Bx gz ZXee, y.1.cell? ⟨ZXe.heap.size + 1 + 1 + 1 + 1, 0, none⟩ = some (.slice B1 1 d1) := fun y => (y.2.cell (p := ⟨_, 0, none⟩) q2.lt hne).trans q2.q0
      have g1 : ∀ y : Bx gz ZXee, y.1.cell? ⟨ZXe.heap.size + 1 + 1 + 1 + 1, 1, none⟩ = some (.slice B2 1 d2) := fun y => (y.2.cell (p := ⟨_, 1, none⟩) q2.lt hne).trans q2.q1
      have g2 : ∀ y : Bx gz ZXee, y.1.cell? ⟨ZXe.heap.size + 1 + 1 + 1 + 1, 2, none⟩ = some (.string ⟨#[49, 47, 49, 48]⟩) := fun y => (y.2.cell (p := ⟨_, 2, none⟩) q2.lt hne).trans q2.q2
      refine fx_reads (n := 7) [4, 5] rfl (by kernel_rfl) ⟨⟨ZXee, BX.of (Below.refl _ _)⟩, rfl⟩ ?_
      simp only [opsAt, List.filterMap_cons, List.filterMap_nil, List.getElem?_toArray, List.getElem?_cons_succ, List.getElem?_cons_zero]
      show wpQuiet _ _ _ _ [_, _] _
      repeat (go_big_quiet_step (fail))
      refine wpQuiet_nil ?_
      clear g0 g1 g2 kb hne hlt0
      refine fx_one (k := 6) (by kernel_rfl) ?_
      simp only [opsAt, List.filterMap_cons, List.filterMap_nil, List.getElem?_toArray, List.getElem?_cons_succ, List.getElem?_cons_zero]
      refine fxp_value (u := .slice (some ⟨ZXee.heap.size, 0, none⟩) 2 2) (w' := (ZXee.alloc (.cells #[.slice A1 1 c1, .slice A2 1 c2, .string ⟨#[49, 47, 49, 48]⟩, .slice B1 1 d1, .slice B2 1 d2, .string ⟨#[49, 47, 49, 48]⟩] 49))) rfl (by simp [go_sem]) ⟨⟨(ZXee.alloc (.cells #[.slice A1 1 c1, .slice A2 1 c2, .string ⟨#[49, 47, 49, 48]⟩, .slice B1 1 d1, .slice B2 1 d2, .string ⟨#[49, 47, 49, 48]⟩] 49)), BX.of ((Below.refl _ ZXee).alloc (Nat.le_refl ZXee.heap.size) (.cells #[.slice A1 1 c1, .slice A2 1 c2, .string ⟨#[49, 47, 49, 48]⟩, .slice B1 1 d1, .slice B2 1 d2, .string ⟨#[49, 47, 49, 48]⟩] 49))⟩, rfl⟩ ?_
      have kb := (Below.refl _ ZXee).alloc (Nat.le_refl ZXee.heap.size) (.cells #[.slice A1 1 c1, .slice A2 1 c2, .string ⟨#[49, 47, 49, 48]⟩, .slice B1 1 d1, .slice B2 1 d2, .string ⟨#[49, 47, 49, 48]⟩] 49)
      refine fxp_nil ?_
      simp only [Act.put, List.setIfInBounds_toArray, List.set_cons_succ, List.set_cons_zero]
      refine fx_class (C' := fun w' => ∃ y : Bx gz (ZXee.alloc (.cells #[.slice A1 1 c1, .slice A2 1 c2, .string ⟨#[49, 47, 49, 48]⟩, .slice B1 1 d1, .slice B2 1 d2, .string ⟨#[49, 47, 49, 48]⟩] 49)), w' = y.1) (bx_sub kb) _ _ _ _ ?_
      have kRZXee := kZXee.trans (kb.mono kZXee.size)
      have hsq : SQ (ZXee.alloc (.cells #[.slice A1 1 c1, .slice A2 1 c2, .string ⟨#[49, 47, 49, 48]⟩, .slice B1 1 d1, .slice B2 1 d2, .string ⟨#[49, 47, 49, 48]⟩] 49)) (.slice (some ⟨ZXee.heap.size, 0, none⟩) 2 2) [Z.exQ1, Z.exQ1] := two_quotes ZXee q1.ok q2.ok
      have BZ := BZ.alloc (.cells #[.slice A1 1 c1, .slice A2 1 c2, .string ⟨#[49, 47, 49, 48]⟩, .slice B1 1 d1, .slice B2 1 d2, .string ⟨#[49, 47, 49, 48]⟩] 49)
      obtain ⟨gr, hgr⟩ : ∃ g, g = ZXee.heap.size := ⟨_, rfl⟩
      rw [← hgr] at hsq ⊢
      generalize (ZXee.alloc (.cells #[.slice A1 1 c1, .slice A2 1 c2, .string ⟨#[49, 47, 49, 48]⟩, .slice B1 1 d1, .slice B2 1 d2, .string ⟨#[49, 47, 49, 48]⟩] 49)) = RZXee at *
      clear kb q1 q2 hgr
      refine fx_one (k := 7) (by kernel_rfl) ?_
      simp only [opsAt, List.filterMap_cons, List.filterMap_nil, List.getElem?_toArray, List.getElem?_cons_succ, List.getElem?_cons_zero]
      refine fxp_enter (f := 11) (args := #[.int .i64 0, .slice (some ⟨gr, 0, none⟩) 2 2]) (w' := RZXee) rfl (by simp [go_sem]) ?_
      refine (boot_any 0 _ [Z.exQ1, Z.exQ1] RZXee hsq (HVW.out RZXee kRZXee) (fun q hq => by
        have : q = Z.exQ1 := by simpa using hq
        rw [this]; exact ex_qsm1)).mono ?_
      intro e RZXeev hr
      obtain ⟨AB, cB, rfl, kb⟩ := boot_lit hr nm_x
      refine ⟨_, rfl, ⟨⟨RZXeev, BX.of kb⟩, rfl⟩, ?_⟩
      refine fxp_nil ?_
      simp only [Act.put, List.setIfInBounds_toArray, List.set_cons_succ, List.set_cons_zero]
      refine fx_class (C' := fun w' => ∃ y : Bx gz RZXeev, w' = y.1) (bx_sub kb) _ _ _ _ ?_
      have kRZXeev := kRZXee.trans (kb.mono kRZXee.size)
      have BZ := BZ.below kb
      refine fx_reads (n := 2) [8, 9, 10] rfl (by kernel_rfl) ⟨⟨RZXeev, BX.of (Below.refl _ _)⟩, rfl⟩ ?_
      simp only [opsAt, List.filterMap_cons, List.filterMap_nil, List.getElem?_toArray, List.getElem?_cons_succ, List.getElem?_cons_zero]
      show wpQuiet _ _ _ _ [_, _, _] _
      repeat (go_big_quiet_step (fail))
      refine wpQuiet_nil ?_
      clear kb hsq hr
      have z0 := BZ.cell 0
      have z1 := BZ.cell 1
      have z2 := BZ.frozen 0
      have z3 := BZ.frozen 1
      refine fx_one (k := 12) (by kernel_rfl) ?_
      simp only [opsAt, List.filterMap_cons, List.filterMap_nil, List.getElem?_toArray, List.getElem?_cons_succ, List.getElem?_cons_zero]
      refine fxp_skip (w' := (RZXeev.setCell ⟨gz, 0, none⟩ (.int .i64 0)).setCell ⟨gz, 1, none⟩ (.slice AB 0 cB)) rfl (by simp [go_sem, z0, z1, z2, z3]) ⟨⟨_, BX.set⟩, rfl⟩ ?_
      refine fxp_nil ?_
      simp only [Act.put, List.setIfInBounds_toArray, List.set_cons_succ, List.set_cons_zero]
      refine fx_late (k := 13) (by decide) (by kernel_rfl) ?_
      simp only [opsAt, List.filterMap_cons, List.filterMap_nil, List.getElem?_toArray, List.getElem?_cons_succ, List.getElem?_cons_zero]
      refine fxl_value (u := .int .i64 40) (w' := (RZXeev.setCell ⟨gz, 0, none⟩ (.int .i64 0)).setCell ⟨gz, 1, none⟩ (.slice AB 0 cB)) rfl (by simp [go_sem]) ?_
      refine fxl_nil ?_
      simp only [Act.put, List.setIfInBounds_toArray, List.set_cons_succ, List.set_cons_zero]
      refine fx_end (by kernel_rfl) ?_
      have hgz := Lib.hid (Nat.le_trans (HX.out X (Below.refl _ X)).size HGZ.out)
      go_step
      go_step
      go_meet
      exact ⟨rfl, ((HX.out _ kRZXeev).setCell (p := ⟨gz, 0, none⟩) hgz.out _).setCell (p := ⟨gz, 1, none⟩) hgz.out _⟩
    simp only [opsAt, List.filterMap_cons, List.filterMap_nil, List.getElem?_toArray, List.getElem?_cons_succ, List.getElem?_cons_zero]
    refine fxp_enter (f := 23) (args := #[]) (w' := X) rfl (by simp [go_sem]) ?_
    skip
    refine (ex_first X).mono ?_
    rintro e Xe ⟨A1, c1, A2, c2, rfl, kb, q1⟩
    refine ⟨_, rfl, ⟨⟨Xe, kb⟩, rfl⟩, ?_⟩
    refine fxp_nil ?_
    simp only [Act.put, List.setIfInBounds_toArray, List.set_cons_succ, List.set_cons_zero]
    refine fx_class (C' := fun w' => ∃ y : Ab Xe, w' = y.1) (ab_sub kb) _ _ _ _ ?_
    have kXe := kX.trans (kb.mono kX.size)
    have g0 : ∀ y : Ab Xe, y.1.cell? ⟨X.heap.size + 1 + 1 + 1 + 1, 0, none⟩ = some (.slice A1 1 c1) := fun y => (q1.below y.2).q0
    have g1 : ∀ y : Ab Xe, y.1.cell? ⟨X.heap.size + 1 + 1 + 1 + 1, 1, none⟩ = some (.slice A2 1 c2) := fun y => (q1.below y.2).q1
    have g2 : ∀ y : Ab Xe, y.1.cell? ⟨X.heap.size + 1 + 1 + 1 + 1, 2, none⟩ = some (.string ⟨#[49, 47, 49, 48]⟩) := fun y => (q1.below y.2).q2
    refine fx_reads (n := 11) [1, 2] rfl (by kernel_rfl) ⟨⟨Xe, (Below.refl _ _)⟩, rfl⟩ ?_
    simp only [opsAt, List.filterMap_cons, List.filterMap_nil, List.getElem?_toArray, List.getElem?_cons_succ, List.getElem?_cons_zero]
    show wpQuiet _ _ _ _ [_, _] _
    repeat (go_big_quiet_step (fail))
    refine wpQuiet_nil ?_
    clear g0 g1 g2 kb
    refine fx_two (k := 3) (l := 11) (by kernel_rfl) ?_ ?_
    rotate_left
    · skip
      simp only [opsAt, List.filterMap_cons, List.filterMap_nil, List.getElem?_toArray, List.getElem?_cons_succ, List.getElem?_cons_zero]
      refine fxp_value (u := .pointer (some ⟨Xe.heap.size, 0, none⟩)) (w' := (Xe.alloc (.cells #[.int .i64 0, .slice none 0 0] 27))) rfl (by simp [go_sem]) ⟨⟨(Xe.alloc (.cells #[.int .i64 0, .slice none 0 0] 27)), (Below.refl _ Xe).alloc (Nat.le_refl Xe.heap.size) (.cells #[.int .i64 0, .slice none 0 0] 27)⟩, rfl⟩ ?_
      have kb := (Below.refl _ Xe).alloc (Nat.le_refl Xe.heap.size) (.cells #[.int .i64 0, .slice none 0 0] 27)
      refine fxp_nil ?_
      simp only [Act.put, List.setIfInBounds_toArray, List.set_cons_succ, List.set_cons_zero]
      have BZXe := Blk.new Xe 27 #[.int .i64 0, .slice none 0 0]
      have kZXe := kXe.trans (kb.mono kXe.size)
      have q1 := q1.below kb
      refine fx_class (C' := fun w' => ∃ y : Bx Xe.heap.size (Xe.alloc (.cells #[.int .i64 0, .slice none 0 0] 27)), w' = y.1) (bx_in kb (Nat.le_refl _)) _ _ _ _ ?_
      obtain ⟨gz, hgz⟩ : ∃ g, g = Xe.heap.size := ⟨_, rfl⟩
      rw [← hgz] at BZXe ⊢
      have HGZ : Hid (X.heap.size ≤ gz) := Lib.hid (hgz ▸ kXe.size)
      generalize (Xe.alloc (.cells #[.int .i64 0, .slice none 0 0] 27)) = ZXe at *
      have BZ := BZXe
      clear kb BZXe hgz
      refine fx_one (k := 3) (by kernel_rfl) ?_
      simp only [opsAt, List.filterMap_cons, List.filterMap_nil, List.getElem?_toArray, List.getElem?_cons_succ, List.getElem?_cons_zero]
      refine fxp_enter (f := 23) (args := #[]) (w' := ZXe) rfl (by simp [go_sem]) ?_
      have hlt0 := BZ.lt
      refine (ex_first ZXe).mono ?_
      rintro e ZXee ⟨B1, d1, B2, d2, rfl, kb, q2⟩
      refine ⟨_, rfl, ⟨⟨ZXee, BX.of kb⟩, rfl⟩, ?_⟩
      refine fxp_nil ?_
      simp only [Act.put, List.setIfInBounds_toArray, List.set_cons_succ, List.set_cons_zero]
      refine fx_class (C' := fun w' => ∃ y : Bx gz ZXee, w' = y.1) (bx_sub kb) _ _ _ _ ?_
      have kZXee := kZXe.trans (kb.mono kZXe.size)
      have BZ := BZ.below kb
      have q1 := q1.below kb
      have hne : ZXe.heap.size + 1 + 1 + 1 + 1 ≠ gz := Nat.ne_of_gt (Nat.lt_of_lt_of_le (hlt0 : gz < ZXe.heap.size) (Nat.le_add_right _ 4))
      have g0 : ∀ y : Bx gz ZXee, y.1.cell? ⟨ZXe.heap.size + 1 + 1 + 1 + 1, 0, none⟩ = some (.slice B1 1 d1) := fun y => (y.2.cell (p := ⟨_, 0, none⟩) q2.lt hne).trans q2.q0
      have g1 : ∀ y : Bx gz ZXee, y.1.cell? ⟨ZXe.heap.size + 1 + 1 + 1 + 1, 1, none⟩ = some (.slice B2 1 d2) := fun y => (y.2.cell (p := ⟨_, 1, none⟩) q2.lt hne).trans q2.q1
      have g2 : ∀ y : Bx gz ZXee, y.1.cell? ⟨ZXe.heap.size + 1 + 1 + 1 + 1, 2, none⟩ = some (.string ⟨#[49, 47, 49, 48]⟩) := fun y => (y.2.cell (p := ⟨_, 2, none⟩) q2.lt hne).trans q2.q2
      refine fx_reads (n := 7) [4, 5] rfl (by kernel_rfl) ⟨⟨ZXee, BX.of (Below.refl _ _)⟩, rfl⟩ ?_
      simp only [opsAt, List.filterMap_cons, List.filterMap_nil, List.getElem?_toArray, List.getElem?_cons_succ, List.getElem?_cons_zero]
      show wpQuiet _ _ _ _ [_, _] _
      repeat (go_big_quiet_step (fail))
      refine wpQuiet_nil ?_
      clear g0 g1 g2 kb hne hlt0
      refine fx_one (k := 6) (by kernel_rfl) ?_
      simp only [opsAt, List.filterMap_cons, List.filterMap_nil, List.getElem?_toArray, List.getElem?_cons_succ, List.getElem?_cons_zero]
      refine fxp_value (u := .slice (some ⟨ZXee.heap.size, 0, none⟩) 2 2) (w' := (ZXee.alloc (.cells #[.slice A1 1 c1, .slice A2 1 c2, .string ⟨#[49, 47, 49, 48]⟩, .slice B1 1 d1, .slice B2 1 d2, .string ⟨#[49, 47, 49, 48]⟩] 49))) rfl (by simp [go_sem]) ⟨⟨(ZXee.alloc (.cells #[.slice A1 1 c1, .slice A2 1 c2, .string ⟨#[49, 47, 49, 48]⟩, .slice B1 1 d1, .slice B2 1 d2, .string ⟨#[49, 47, 49, 48]⟩] 49)), BX.of ((Below.refl _ ZXee).alloc (Nat.le_refl ZXee.heap.size) (.cells #[.slice A1 1 c1, .slice A2 1 c2, .string ⟨#[49, 47, 49, 48]⟩, .slice B1 1 d1, .slice B2 1 d2, .string ⟨#[49, 47, 49, 48]⟩] 49))⟩, rfl⟩ ?_
      have kb := (Below.refl _ ZXee).alloc (Nat.le_refl ZXee.heap.size) (.cells #[.slice A1 1 c1, .slice A2 1 c2, .string ⟨#[49, 47, 49, 48]⟩, .slice B1 1 d1, .slice B2 1 d2, .string ⟨#[49, 47, 49, 48]⟩] 49)
      refine fxp_nil ?_
      simp only [Act.put, List.setIfInBounds_toArray, List.set_cons_succ, List.set_cons_zero]
      refine fx_class (C' := fun w' => ∃ y : Bx gz (ZXee.alloc (.cells #[.slice A1 1 c1, .slice A2 1 c2, .string ⟨#[49, 47, 49, 48]⟩, .slice B1 1 d1, .slice B2 1 d2, .string ⟨#[49, 47, 49, 48]⟩] 49)), w' = y.1) (bx_sub kb) _ _ _ _ ?_
      have kRZXee := kZXee.trans (kb.mono kZXee.size)
      have hsq : SQ (ZXee.alloc (.cells #[.slice A1 1 c1, .slice A2 1 c2, .string ⟨#[49, 47, 49, 48]⟩, .slice B1 1 d1, .slice B2 1 d2, .string ⟨#[49, 47, 49, 48]⟩] 49)) (.slice (some ⟨ZXee.heap.size, 0, none⟩) 2 2) [Z.exQ1, Z.exQ1] := two_quotes ZXee q1.ok q2.ok
      have BZ := BZ.alloc (.cells #[.slice A1 1 c1, .slice A2 1 c2, .string ⟨#[49, 47, 49, 48]⟩, .slice B1 1 d1, .slice B2 1 d2, .string ⟨#[49, 47, 49, 48]⟩] 49)
      obtain ⟨gr, hgr⟩ : ∃ g, g = ZXee.heap.size := ⟨_, rfl⟩
      rw [← hgr] at hsq ⊢
      generalize (ZXee.alloc (.cells #[.slice A1 1 c1, .slice A2 1 c2, .string ⟨#[49, 47, 49, 48]⟩, .slice B1 1 d1, .slice B2 1 d2, .string ⟨#[49, 47, 49, 48]⟩] 49)) = RZXee at *
      clear kb q1 q2 hgr
      refine fx_one (k := 7) (by kernel_rfl) ?_
      simp only [opsAt, List.filterMap_cons, List.filterMap_nil, List.getElem?_toArray, List.getElem?_cons_succ, List.getElem?_cons_zero]
      refine fxp_enter (f := 11) (args := #[.int .i64 0, .slice (some ⟨gr, 0, none⟩) 2 2]) (w' := RZXee) rfl (by simp [go_sem]) ?_
      refine (boot_any 0 _ [Z.exQ1, Z.exQ1] RZXee hsq (HVW.out RZXee kRZXee) (fun q hq => by
        have : q = Z.exQ1 := by simpa using hq
        rw [this]; exact ex_qsm1)).mono ?_
      intro e RZXeev hr
      obtain ⟨AB, cB, rfl, kb⟩ := boot_lit hr nm_x
      refine ⟨_, rfl, ⟨⟨RZXeev, BX.of kb⟩, rfl⟩, ?_⟩
      refine fxp_nil ?_
      simp only [Act.put, List.setIfInBounds_toArray, List.set_cons_succ, List.set_cons_zero]
      refine fx_class (C' := fun w' => ∃ y : Bx gz RZXeev, w' = y.1) (bx_sub kb) _ _ _ _ ?_
      have kRZXeev := kRZXee.trans (kb.mono kRZXee.size)
      have BZ := BZ.below kb
      refine fx_reads (n := 2) [8, 9, 10] rfl (by kernel_rfl) ⟨⟨RZXeev, BX.of (Below.refl _ _)⟩, rfl⟩ ?_
      simp only [opsAt, List.filterMap_cons, List.filterMap_nil, List.getElem?_toArray, List.getElem?_cons_succ, List.getElem?_cons_zero]
      show wpQuiet _ _ _ _ [_, _, _] _
      repeat (go_big_quiet_step (fail))
      refine wpQuiet_nil ?_
      clear kb hsq hr
      have z0 := BZ.cell 0
      have z1 := BZ.cell 1
      have z2 := BZ.frozen 0
      have z3 := BZ.frozen 1
      refine fx_one (k := 12) (by kernel_rfl) ?_
      simp only [opsAt, List.filterMap_cons, List.filterMap_nil, List.getElem?_toArray, List.getElem?_cons_succ, List.getElem?_cons_zero]
      refine fxp_skip (w' := (RZXeev.setCell ⟨gz, 0, none⟩ (.int .i64 0)).setCell ⟨gz, 1, none⟩ (.slice AB 0 cB)) rfl (by simp [go_sem, z0, z1, z2, z3]) ⟨⟨_, BX.set⟩, rfl⟩ ?_
      refine fxp_nil ?_
      simp only [Act.put, List.setIfInBounds_toArray, List.set_cons_succ, List.set_cons_zero]
      refine fx_late (k := 13) (by decide) (by kernel_rfl) ?_
      simp only [opsAt, List.filterMap_cons, List.filterMap_nil, List.getElem?_toArray, List.getElem?_cons_succ, List.getElem?_cons_zero]
      refine fxl_value (u := .int .i64 40) (w' := (RZXeev.setCell ⟨gz, 0, none⟩ (.int .i64 0)).setCell ⟨gz, 1, none⟩ (.slice AB 0 cB)) rfl (by simp [go_sem]) ?_
      refine fxl_nil ?_
      simp only [Act.put, List.setIfInBounds_toArray, List.set_cons_succ, List.set_cons_zero]
      refine fx_end (by kernel_rfl) ?_
      have hgz := Lib.hid (Nat.le_trans (HX.out X (Below.refl _ X)).size HGZ.out)
      go_step
      go_step
      go_meet
      exact ⟨rfl, ((HX.out _ kRZXeev).setCell (p := ⟨gz, 0, none⟩) hgz.out _).setCell (p := ⟨gz, 1, none⟩) hgz.out _⟩
    simp only [opsAt, List.filterMap_cons, List.filterMap_nil, List.getElem?_toArray, List.getElem?_cons_succ, List.getElem?_cons_zero]
    refine fxp_enter (f := 23) (args := #[]) (w' := Xe) rfl (by simp [go_sem]) ?_
    skip
    refine (ex_first Xe).mono ?_
    rintro e Xee ⟨B1, d1, B2, d2, rfl, kb, q2⟩
    refine ⟨_, rfl, ⟨⟨Xee, kb⟩, rfl⟩, ?_⟩
    refine fxp_nil ?_
    simp only [Act.put, List.setIfInBounds_toArray, List.set_cons_succ, List.set_cons_zero]
    refine fx_class (C' := fun w' => ∃ y : Ab Xee, w' = y.1) (ab_sub kb) _ _ _ _ ?_
    have kXee := kXe.trans (kb.mono kXe.size)
    have q1 := q1.below kb
    have g0 : ∀ y : Ab Xee, y.1.cell? ⟨Xe.heap.size + 1 + 1 + 1 + 1, 0, none⟩ = some (.slice B1 1 d1) := fun y => (q2.below y.2).q0
    have g1 : ∀ y : Ab Xee, y.1.cell? ⟨Xe.heap.size + 1 + 1 + 1 + 1, 1, none⟩ = some (.slice B2 1 d2) := fun y => (q2.below y.2).q1
    have g2 : ∀ y : Ab Xee, y.1.cell? ⟨Xe.heap.size + 1 + 1 + 1 + 1, 2, none⟩ = some (.string ⟨#[49, 47, 49, 48]⟩) := fun y => (q2.below y.2).q2
    refine fx_reads (n := 8) [4, 5] rfl (by kernel_rfl) ⟨⟨Xee, (Below.refl _ _)⟩, rfl⟩ ?_
    simp only [opsAt, List.filterMap_cons, List.filterMap_nil, List.getElem?_toArray, List.getElem?_cons_succ, List.getElem?_cons_zero]
    show wpQuiet _ _ _ _ [_, _] _
    repeat (go_big_quiet_step (fail))
    refine wpQuiet_nil ?_
    clear g0 g1 g2 kb
    refine fx_two (k := 6) (l := 11) (by kernel_rfl) ?_ ?_
    rotate_left
    · skip
      simp only [opsAt, List.filterMap_cons, List.filterMap_nil, List.getElem?_toArray, List.getElem?_cons_succ, List.getElem?_cons_zero]
      refine fxp_value (u := .pointer (some ⟨Xee.heap.size, 0, none⟩)) (w' := (Xee.alloc (.cells #[.int .i64 0, .slice none 0 0] 27))) rfl (by simp [go_sem]) ⟨⟨(Xee.alloc (.cells #[.int .i64 0, .slice none 0 0] 27)), (Below.refl _ Xee).alloc (Nat.le_refl Xee.heap.size) (.cells #[.int .i64 0, .slice none 0 0] 27)⟩, rfl⟩ ?_
      have kb := (Below.refl _ Xee).alloc (Nat.le_refl Xee.heap.size) (.cells #[.int .i64 0, .slice none 0 0] 27)
      refine fxp_nil ?_
      simp only [Act.put, List.setIfInBounds_toArray, List.set_cons_succ, List.set_cons_zero]
      have BZXee := Blk.new Xee 27 #[.int .i64 0, .slice none 0 0]
      have kZXee := kXee.trans (kb.mono kXee.size)
      have q1 := q1.below kb
      have q2 := q2.below kb
      refine fx_class (C' := fun w' => ∃ y : Bx Xee.heap.size (Xee.alloc (.cells #[.int .i64 0, .slice none 0 0] 27)), w' = y.1) (bx_in kb (Nat.le_refl _)) _ _ _ _ ?_
      obtain ⟨gz, hgz⟩ : ∃ g, g = Xee.heap.size := ⟨_, rfl⟩
      rw [← hgz] at BZXee ⊢
      have HGZ : Hid (X.heap.size ≤ gz) := Lib.hid (hgz ▸ kXee.size)
      generalize (Xee.alloc (.cells #[.int .i64 0, .slice none 0 0] 27)) = ZXee at *
      have BZ := BZXee
      clear kb BZXee hgz
      refine fx_one (k := 6) (by kernel_rfl) ?_
      simp only [opsAt, List.filterMap_cons, List.filterMap_nil, List.getElem?_toArray, List.getElem?_cons_succ, List.getElem?_cons_zero]
      refine fxp_value (u := .slice (some ⟨ZXee.heap.size, 0, none⟩) 2 2) (w' := (ZXee.alloc (.cells #[.slice A1 1 c1, .slice A2 1 c2, .string ⟨#[49, 47, 49, 48]⟩, .slice B1 1 d1, .slice B2 1 d2, .string ⟨#[49, 47, 49, 48]⟩] 49))) rfl (by simp [go_sem]) ⟨⟨(ZXee.alloc (.cells #[.slice A1 1 c1, .slice A2 1 c2, .string ⟨#[49, 47, 49, 48]⟩, .slice B1 1 d1, .slice B2 1 d2, .string ⟨#[49, 47, 49, 48]⟩] 49)), BX.of ((Below.refl _ ZXee).alloc (Nat.le_refl ZXee.heap.size) (.cells #[.slice A1 1 c1, .slice A2 1 c2, .string ⟨#[49, 47, 49, 48]⟩, .slice B1 1 d1, .slice B2 1 d2, .string ⟨#[49, 47, 49, 48]⟩] 49))⟩, rfl⟩ ?_
      have kb := (Below.refl _ ZXee).alloc (Nat.le_refl ZXee.heap.size) (.cells #[.slice A1 1 c1, .slice A2 1 c2, .string ⟨#[49, 47, 49, 48]⟩, .slice B1 1 d1, .slice B2 1 d2, .string ⟨#[49, 47, 49, 48]⟩] 49)
      refine fxp_nil ?_
      simp only [Act.put, List.setIfInBounds_toArray, List.set_cons_succ, List.set_cons_zero]
      refine fx_class (C' := fun w' => ∃ y : Bx gz (ZXee.alloc (.cells #[.slice A1 1 c1, .slice A2 1 c2, .string ⟨#[49, 47, 49, 48]⟩, .slice B1 1 d1, .slice B2 1 d2, .string ⟨#[49, 47, 49, 48]⟩] 49)), w' = y.1) (bx_sub kb) _ _ _ _ ?_
      have kRZXee := kZXee.trans (kb.mono kZXee.size)
      have hsq : SQ (ZXee.alloc (.cells #[.slice A1 1 c1, .slice A2 1 c2, .string ⟨#[49, 47, 49, 48]⟩, .slice B1 1 d1, .slice B2 1 d2, .string ⟨#[49, 47, 49, 48]⟩] 49)) (.slice (some ⟨ZXee.heap.size, 0, none⟩) 2 2) [Z.exQ1, Z.exQ1] := two_quotes ZXee q1.ok q2.ok
      have BZ := BZ.alloc (.cells #[.slice A1 1 c1, .slice A2 1 c2, .string ⟨#[49, 47, 49, 48]⟩, .slice B1 1 d1, .slice B2 1 d2, .string ⟨#[49, 47, 49, 48]⟩] 49)
      obtain ⟨gr, hgr⟩ : ∃ g, g = ZXee.heap.size := ⟨_, rfl⟩
      rw [← hgr] at hsq ⊢
      generalize (ZXee.alloc (.cells #[.slice A1 1 c1, .slice A2 1 c2, .string ⟨#[49, 47, 49, 48]⟩, .slice B1 1 d1, .slice B2 1 d2, .string ⟨#[49, 47, 49, 48]⟩] 49)) = RZXee at *
      clear kb q1 q2 hgr
      refine fx_one (k := 7) (by kernel_rfl) ?_
      simp only [opsAt, List.filterMap_cons, List.filterMap_nil, List.getElem?_toArray, List.getElem?_cons_succ, List.getElem?_cons_zero]
      refine fxp_enter (f := 11) (args := #[.int .i64 0, .slice (some ⟨gr, 0, none⟩) 2 2]) (w' := RZXee) rfl (by simp [go_sem]) ?_
      refine (boot_any 0 _ [Z.exQ1, Z.exQ1] RZXee hsq (HVW.out RZXee kRZXee) (fun q hq => by
        have : q = Z.exQ1 := by simpa using hq
        rw [this]; exact ex_qsm1)).mono ?_
      intro e RZXeev hr
      obtain ⟨AB, cB, rfl, kb⟩ := boot_lit hr nm_x
      refine ⟨_, rfl, ⟨⟨RZXeev, BX.of kb⟩, rfl⟩, ?_⟩
      refine fxp_nil ?_
      simp only [Act.put, List.setIfInBounds_toArray, List.set_cons_succ, List.set_cons_zero]
      refine fx_class (C' := fun w' => ∃ y : Bx gz RZXeev, w' = y.1) (bx_sub kb) _ _ _ _ ?_
      have kRZXeev := kRZXee.trans (kb.mono kRZXee.size)
      have BZ := BZ.below kb
      refine fx_reads (n := 2) [8, 9, 10] rfl (by kernel_rfl) ⟨⟨RZXeev, BX.of (Below.refl _ _)⟩, rfl⟩ ?_
      simp only [opsAt, List.filterMap_cons, List.filterMap_nil, List.getElem?_toArray, List.getElem?_cons_succ, List.getElem?_cons_zero]
      show wpQuiet _ _ _ _ [_, _, _] _
      repeat (go_big_quiet_step (fail))
      refine wpQuiet_nil ?_
      clear kb hsq hr
      have z0 := BZ.cell 0
      have z1 := BZ.cell 1
      have z2 := BZ.frozen 0
      have z3 := BZ.frozen 1
      refine fx_one (k := 12) (by kernel_rfl) ?_
      simp only [opsAt, List.filterMap_cons, List.filterMap_nil, List.getElem?_toArray, List.getElem?_cons_succ, List.getElem?_cons_zero]
      refine fxp_skip (w' := (RZXeev.setCell ⟨gz, 0, none⟩ (.int .i64 0)).setCell ⟨gz, 1, none⟩ (.slice AB 0 cB)) rfl (by simp [go_sem, z0, z1, z2, z3]) ⟨⟨_, BX.set⟩, rfl⟩ ?_
      refine fxp_nil ?_
      simp only [Act.put, List.setIfInBounds_toArray, List.set_cons_succ, List.set_cons_zero]
      refine fx_late (k := 13) (by decide) (by kernel_rfl) ?_
      simp only [opsAt, List.filterMap_cons, List.filterMap_nil, List.getElem?_toArray, List.getElem?_cons_succ, List.getElem?_cons_zero]
      refine fxl_value (u := .int .i64 40) (w' := (RZXeev.setCell ⟨gz, 0, none⟩ (.int .i64 0)).setCell ⟨gz, 1, none⟩ (.slice AB 0 cB)) rfl (by simp [go_sem]) ?_
      refine fxl_nil ?_
      simp only [Act.put, List.setIfInBounds_toArray, List.set_cons_succ, List.set_cons_zero]
      refine fx_end (by kernel_rfl) ?_
      have hgz := Lib.hid (Nat.le_trans (HX.out X (Below.refl _ X)).size HGZ.out)
      go_step
      go_step
      go_meet
      exact ⟨rfl, ((HX.out _ kRZXeev).setCell (p := ⟨gz, 0, none⟩) hgz.out _).setCell (p := ⟨gz, 1, none⟩) hgz.out _⟩
    simp only [opsAt, List.filterMap_cons, List.filterMap_nil, List.getElem?_toArray, List.getElem?_cons_succ, List.getElem?_cons_zero]
    refine fxp_value (u := .slice (some ⟨Xee.heap.size, 0, none⟩) 2 2) (w' := (Xee.alloc (.cells #[.slice A1 1 c1, .slice A2 1 c2, .string ⟨#[49, 47, 49, 48]⟩, .slice B1 1 d1, .slice B2 1 d2, .string ⟨#[49, 47, 49, 48]⟩] 49))) rfl (by simp [go_sem]) ⟨⟨(Xee.alloc (.cells #[.slice A1 1 c1, .slice A2 1 c2, .string ⟨#[49, 47, 49, 48]⟩, .slice B1 1 d1, .slice B2 1 d2, .string ⟨#[49, 47, 49, 48]⟩] 49)), ((Below.refl _ Xee).alloc (Nat.le_refl Xee.heap.size) (.cells #[.slice A1 1 c1, .slice A2 1 c2, .string ⟨#[49, 47, 49, 48]⟩, .slice B1 1 d1, .slice B2 1 d2, .string ⟨#[49, 47, 49, 48]⟩] 49))⟩, rfl⟩ ?_
    have kb := (Below.refl _ Xee).alloc (Nat.le_refl Xee.heap.size) (.cells #[.slice A1 1 c1, .slice A2 1 c2, .string ⟨#[49, 47, 49, 48]⟩, .slice B1 1 d1, .slice B2 1 d2, .string ⟨#[49, 47, 49, 48]⟩] 49)
    refine fxp_nil ?_
    simp only [Act.put, List.setIfInBounds_toArray, List.set_cons_succ, List.set_cons_zero]
    refine fx_class (C' := fun w' => ∃ y : Ab (Xee.alloc (.cells #[.slice A1 1 c1, .slice A2 1 c2, .string ⟨#[49, 47, 49, 48]⟩, .slice B1 1 d1, .slice B2 1 d2, .string ⟨#[49, 47, 49, 48]⟩] 49)), w' = y.1) (ab_sub kb) _ _ _ _ ?_
    have kRXee := kXee.trans (kb.mono kXee.size)
    have hsq : SQ (Xee.alloc (.cells #[.slice A1 1 c1, .slice A2 1 c2, .string ⟨#[49, 47, 49, 48]⟩, .slice B1 1 d1, .slice B2 1 d2, .string ⟨#[49, 47, 49, 48]⟩] 49)) (.slice (some ⟨Xee.heap.size, 0, none⟩) 2 2) [Z.exQ1, Z.exQ1] := two_quotes Xee q1.ok q2.ok
    obtain ⟨gr, hgr⟩ : ∃ g, g = Xee.heap.size := ⟨_, rfl⟩
    rw [← hgr] at hsq ⊢
    generalize (Xee.alloc (.cells #[.slice A1 1 c1, .slice A2 1 c2, .string ⟨#[49, 47, 49, 48]⟩, .slice B1 1 d1, .slice B2 1 d2, .string ⟨#[49, 47, 49, 48]⟩] 49)) = RXee at *
    clear kb q1 q2 hgr
    refine fx_two (k := 7) (l := 11) (by kernel_rfl) ?_ ?_
    rotate_left
    · skip
      simp only [opsAt, List.filterMap_cons, List.filterMap_nil, List.getElem?_toArray, List.getElem?_cons_succ, List.getElem?_cons_zero]
      refine fxp_value (u := .pointer (some ⟨RXee.heap.size, 0, none⟩)) (w' := (RXee.alloc (.cells #[.int .i64 0, .slice none 0 0] 27))) rfl (by simp [go_sem]) ⟨⟨(RXee.alloc (.cells #[.int .i64 0, .slice none 0 0] 27)), (Below.refl _ RXee).alloc (Nat.le_refl RXee.heap.size) (.cells #[.int .i64 0, .slice none 0 0] 27)⟩, rfl⟩ ?_
      have kb := (Below.refl _ RXee).alloc (Nat.le_refl RXee.heap.size) (.cells #[.int .i64 0, .slice none 0 0] 27)
      refine fxp_nil ?_
      simp only [Act.put, List.setIfInBounds_toArray, List.set_cons_succ, List.set_cons_zero]
      have BZRXee := Blk.new RXee 27 #[.int .i64 0, .slice none 0 0]
      have kZRXee := kRXee.trans (kb.mono kRXee.size)
      have hsq := hsq.below kb
      refine fx_class (C' := fun w' => ∃ y : Bx RXee.heap.size (RXee.alloc (.cells #[.int .i64 0, .slice none 0 0] 27)), w' = y.1) (bx_in kb (Nat.le_refl _)) _ _ _ _ ?_
      obtain ⟨gz, hgz⟩ : ∃ g, g = RXee.heap.size := ⟨_, rfl⟩
      rw [← hgz] at BZRXee ⊢
      have HGZ : Hid (X.heap.size ≤ gz) := Lib.hid (hgz ▸ kRXee.size)
      generalize (RXee.alloc (.cells #[.int .i64 0, .slice none 0 0] 27)) = ZRXee at *
      have BZ := BZRXee
      clear kb BZRXee hgz
      refine fx_one (k := 7) (by kernel_rfl) ?_
      simp only [opsAt, List.filterMap_cons, List.filterMap_nil, List.getElem?_toArray, List.getElem?_cons_succ, List.getElem?_cons_zero]
      refine fxp_enter (f := 11) (args := #[.int .i64 0, .slice (some ⟨gr, 0, none⟩) 2 2]) (w' := ZRXee) rfl (by simp [go_sem]) ?_
      refine (boot_any 0 _ [Z.exQ1, Z.exQ1] ZRXee hsq (HVW.out ZRXee kZRXee) (fun q hq => by
        have : q = Z.exQ1 := by simpa using hq
        rw [this]; exact ex_qsm1)).mono ?_
      intro e ZRXeev hr
      obtain ⟨AB, cB, rfl, kb⟩ := boot_lit hr nm_x
      refine ⟨_, rfl, ⟨⟨ZRXeev, BX.of kb⟩, rfl⟩, ?_⟩
      refine fxp_nil ?_
      simp only [Act.put, List.setIfInBounds_toArray, List.set_cons_succ, List.set_cons_zero]
      refine fx_class (C' := fun w' => ∃ y : Bx gz ZRXeev, w' = y.1) (bx_sub kb) _ _ _ _ ?_
      have kZRXeev := kZRXee.trans (kb.mono kZRXee.size)
      have BZ := BZ.below kb
      refine fx_reads (n := 2) [8, 9, 10] rfl (by kernel_rfl) ⟨⟨ZRXeev, BX.of (Below.refl _ _)⟩, rfl⟩ ?_
      simp only [opsAt, List.filterMap_cons, List.filterMap_nil, List.getElem?_toArray, List.getElem?_cons_succ, List.getElem?_cons_zero]
      show wpQuiet _ _ _ _ [_, _, _] _
      repeat (go_big_quiet_step (fail))
      refine wpQuiet_nil ?_
      clear kb hsq hr
      have z0 := BZ.cell 0
      have z1 := BZ.cell 1
      have z2 := BZ.frozen 0
      have z3 := BZ.frozen 1
      refine fx_one (k := 12) (by kernel_rfl) ?_
      simp only [opsAt, List.filterMap_cons, List.filterMap_nil, List.getElem?_toArray, List.getElem?_cons_succ, List.getElem?_cons_zero]
      refine fxp_skip (w' := (ZRXeev.setCell ⟨gz, 0, none⟩ (.int .i64 0)).setCell ⟨gz, 1, none⟩ (.slice AB 0 cB)) rfl (by simp [go_sem, z0, z1, z2, z3]) ⟨⟨_, BX.set⟩, rfl⟩ ?_
      refine fxp_nil ?_
      simp only [Act.put, List.setIfInBounds_toArray, List.set_cons_succ, List.set_cons_zero]
      refine fx_late (k := 13) (by decide) (by kernel_rfl) ?_
      simp only [opsAt, List.filterMap_cons, List.filterMap_nil, List.getElem?_toArray, List.getElem?_cons_succ, List.getElem?_cons_zero]
      refine fxl_value (u := .int .i64 40) (w' := (ZRXeev.setCell ⟨gz, 0, none⟩ (.int .i64 0)).setCell ⟨gz, 1, none⟩ (.slice AB 0 cB)) rfl (by simp [go_sem]) ?_
      refine fxl_nil ?_
      simp only [Act.put, List.setIfInBounds_toArray, List.set_cons_succ, List.set_cons_zero]
      refine fx_end (by kernel_rfl) ?_
      have hgz := Lib.hid (Nat.le_trans (HX.out X (Below.refl _ X)).size HGZ.out)
      go_step
      go_step
      go_meet
      exact ⟨rfl, ((HX.out _ kZRXeev).setCell (p := ⟨gz, 0, none⟩) hgz.out _).setCell (p := ⟨gz, 1, none⟩) hgz.out _⟩
    simp only [opsAt, List.filterMap_cons, List.filterMap_nil, List.getElem?_toArray, List.getElem?_cons_succ, List.getElem?_cons_zero]
    refine fxp_enter (f := 11) (args := #[.int .i64 0, .slice (some ⟨gr, 0, none⟩) 2 2]) (w' := RXee) rfl (by simp [go_sem]) ?_
    refine (boot_any 0 _ [Z.exQ1, Z.exQ1] RXee hsq (HVW.out RXee kRXee) (fun q hq => by
      have : q = Z.exQ1 := by simpa using hq
      rw [this]; exact ex_qsm1)).mono ?_
    intro e RXeev hr
    obtain ⟨AB, cB, rfl, kb⟩ := boot_lit hr nm_x
    refine ⟨_, rfl, ⟨⟨RXeev, kb⟩, rfl⟩, ?_⟩
    refine fxp_nil ?_
    simp only [Act.put, List.setIfInBounds_toArray, List.set_cons_succ, List.set_cons_zero]
    refine fx_class (C' := fun w' => ∃ y : Ab RXeev, w' = y.1) (ab_sub kb) _ _ _ _ ?_
    have kRXeev := kRXee.trans (kb.mono kRXee.size)
    refine fx_reads (n := 3) [8, 9, 10] rfl (by kernel_rfl) ⟨⟨RXeev, (Below.refl _ _)⟩, rfl⟩ ?_
    simp only [opsAt, List.filterMap_cons, List.filterMap_nil, List.getElem?_toArray, List.getElem?_cons_succ, List.getElem?_cons_zero]
    show wpQuiet _ _ _ _ [_, _, _] _
    repeat (go_big_quiet_step (fail))
    refine wpQuiet_nil ?_
    clear kb hsq hr
    refine fx_one (k := 11) (by kernel_rfl) ?_
    simp only [opsAt, List.filterMap_cons, List.filterMap_nil, List.getElem?_toArray, List.getElem?_cons_succ, List.getElem?_cons_zero]
    refine fxp_value (u := .pointer (some ⟨RXeev.heap.size, 0, none⟩)) (w' := (RXeev.alloc (.cells #[.int .i64 0, .slice none 0 0] 27))) rfl (by simp [go_sem]) ⟨⟨(RXeev.alloc (.cells #[.int .i64 0, .slice none 0 0] 27)), (Below.refl _ RXeev).alloc (Nat.le_refl RXeev.heap.size) (.cells #[.int .i64 0, .slice none 0 0] 27)⟩, rfl⟩ ?_
    have kb := (Below.refl _ RXeev).alloc (Nat.le_refl RXeev.heap.size) (.cells #[.int .i64 0, .slice none 0 0] 27)
    refine fxp_nil ?_
    simp only [Act.put, List.setIfInBounds_toArray, List.set_cons_succ, List.set_cons_zero]
    have BZRXeev := Blk.new RXeev 27 #[.int .i64 0, .slice none 0 0]
    have kZRXeev := kRXeev.trans (kb.mono kRXeev.size)
    refine fx_class (C' := fun w' => ∃ y : Bx RXeev.heap.size (RXeev.alloc (.cells #[.int .i64 0, .slice none 0 0] 27)), w' = y.1) (bx_in kb (Nat.le_refl _)) _ _ _ _ ?_
    obtain ⟨gz, hgz⟩ : ∃ g, g = RXeev.heap.size := ⟨_, rfl⟩
    rw [← hgz] at BZRXeev ⊢
    have HGZ : Hid (X.heap.size ≤ gz) := Lib.hid (hgz ▸ kRXeev.size)
    generalize (RXeev.alloc (.cells #[.int .i64 0, .slice none 0 0] 27)) = ZRXeev at *
    have BZ := BZRXeev
    clear kb BZRXeev hgz
    have z0 := BZ.cell 0
    have z1 := BZ.cell 1
    have z2 := BZ.frozen 0
    have z3 := BZ.frozen 1
    refine fx_one (k := 12) (by kernel_rfl) ?_
    simp only [opsAt, List.filterMap_cons, List.filterMap_nil, List.getElem?_toArray, List.getElem?_cons_succ, List.getElem?_cons_zero]
    refine fxp_skip (w' := (ZRXeev.setCell ⟨gz, 0, none⟩ (.int .i64 0)).setCell ⟨gz, 1, none⟩ (.slice AB 0 cB)) rfl (by simp [go_sem, z0, z1, z2, z3]) ⟨⟨_, BX.set⟩, rfl⟩ ?_
    refine fxp_nil ?_
    simp only [Act.put, List.setIfInBounds_toArray, List.set_cons_succ, List.set_cons_zero]
    refine fx_late (k := 13) (by decide) (by kernel_rfl) ?_
    simp only [opsAt, List.filterMap_cons, List.filterMap_nil, List.getElem?_toArray, List.getElem?_cons_succ, List.getElem?_cons_zero]
    refine fxl_value (u := .int .i64 40) (w' := (ZRXeev.setCell ⟨gz, 0, none⟩ (.int .i64 0)).setCell ⟨gz, 1, none⟩ (.slice AB 0 cB)) rfl (by simp [go_sem]) ?_
    refine fxl_nil ?_
    simp only [Act.put, List.setIfInBounds_toArray, List.set_cons_succ, List.set_cons_zero]
    refine fx_end (by kernel_rfl) ?_
    have hgz := Lib.hid (Nat.le_trans (HX.out X (Below.refl _ X)).size HGZ.out)
    go_step
    go_step
    go_meet
    exact ⟨rfl, ((HX.out _ kZRXeev).setCell (p := ⟨gz, 0, none⟩) hgz.out _).setCell (p := ⟨gz, 1, none⟩) hgz.out _⟩
  case rest =>
  obtain ⟨rfl, hb⟩ := hcut
  rename World => W18
  have k18 := k17.trans (hb.mono k17.size)
  clear hb k17 kX HVW HX
  go_wp2_with fail
  have hb1 := below3 W18 (.cells #[.int .i64 10] 3) (.cells #[.string ⟨#[49]⟩] 35) (.cells #[.slice (some ⟨W18.heap.size, 0, none⟩) 1 1, .slice (some ⟨W18.heap.size + 1, 0, none⟩) 1 1, .string ⟨#[45, 49]⟩] 49)
  refine (boot_any 0 _ [nmQ5] (((W18.alloc (.cells #[.int .i64 10] 3)).alloc (.cells #[.string ⟨#[49]⟩] 35)).alloc (.cells #[.slice (some ⟨W18.heap.size, 0, none⟩) 1 1, .slice (some ⟨W18.heap.size + 1, 0, none⟩) 1 1, .string ⟨#[45, 49]⟩] 49)) (row1 W18 10 ⟨#[49]⟩ ⟨#[45, 49]⟩) (HV.out.below (h0.trans ((k18.trans (hb1.mono k18.size)).mono h0.size))) (fun q hq => by rw [List.mem_singleton.1 hq]; exact nm_qsm5)).mono ?_
  intro e W hr
  obtain ⟨A18, d18, rfl, hb⟩ := boot_lit hr nm_y
  have hb2 := hb1.trans (hb.mono hb1.size)
  have k19 := k18.trans ((hb2.alloc hb2.size (.cells #[.int .i64 0, .slice A18 0 d18] 27)).mono k18.size)
  clear hr k18
  clear hb1 hb2
  go_upto_region 22 with fail
  generalize (W.alloc (.cells #[.int .i64 0, .slice A18 0 d18] 27)) = W19 at *
  clear hb
  go_wp2_with fail
  have hb1 := below3 W19 (.cells #[.int .i64 10] 3) (.cells #[.string ⟨#[49]⟩] 35) (.cells #[.slice (some ⟨W19.heap.size, 0, none⟩) 1 1, .slice (some ⟨W19.heap.size + 1, 0, none⟩) 1 1, .string ⟨#[45, 50]⟩] 49)
  refine (boot_any 0 _ [nmQ6] (((W19.alloc (.cells #[.int .i64 10] 3)).alloc (.cells #[.string ⟨#[49]⟩] 35)).alloc (.cells #[.slice (some ⟨W19.heap.size, 0, none⟩) 1 1, .slice (some ⟨W19.heap.size + 1, 0, none⟩) 1 1, .string ⟨#[45, 50]⟩] 49)) (row1 W19 10 ⟨#[49]⟩ ⟨#[45, 50]⟩) (HV.out.below (h0.trans ((k19.trans (hb1.mono k19.size)).mono h0.size))) (fun q hq => by rw [List.mem_singleton.1 hq]; exact nm_qsm6)).mono ?_
  intro e W hr
  obtain ⟨A19, d19, rfl, hb⟩ := boot_lit hr nm_z
  have hb2 := hb1.trans (hb.mono hb1.size)
  have k20 := k19.trans ((hb2.alloc hb2.size (.cells #[.int .i64 0, .slice A19 0 d19] 27)).mono k19.size)
  clear hr k19
  clear hb1 hb2
  go_upto_region 23 with fail
  generalize (W.alloc (.cells #[.int .i64 0, .slice A19 0 d19] 27)) = W20 at *
  clear hb
  go_wp2_with fail
  refine (boot_any 7 _ [] W20 sq_nil (HV.out.below (h0.trans (k20.mono h0.size))) (fun q hq => by cases hq)).mono ?_
  intro e W hr
  obtain ⟨A20, d20, rfl, hb⟩ := boot_lit hr nm_aa
  have k21 := k20.trans ((hb.alloc hb.size (.cells #[.int .i64 7, .slice A20 0 d20] 27)).mono k20.size)
  clear hr k20
  have BE := Blk.new W 27 #[.int .i64 7, .slice A20 0 d20]
  go_upto_region 24 with fail
  generalize (W.alloc (.cells #[.int .i64 7, .slice A20 0 d20] 27)) = W21 at *
  generalize W.heap.size = gE at *
  have e0 := BE.cell 0
  have e1 := BE.cell 1
  clear hb
  go_upto_region 25 with fail
  clear e0 e1 BE
  go_wp2_with fail
  have hb1 := (Below.refl _ W21).alloc (Nat.le_refl W21.heap.size) (.cells #[.int .i64 0, .string ⟨#[49]⟩] 37)
  refine (cucheck_any ⟨0, [⟨0, ⟨#[49]⟩⟩]⟩ _ (W21.alloc (.cells #[.int .i64 0, .string ⟨#[49]⟩] 37)) (pt1 W21 0 ⟨#[49]⟩) (HV.out.below (h0.trans ((k21.trans (hb1.mono k21.size)).mono h0.size))) (fun p hp => by rw [List.mem_singleton.1 hp]; decide)).mono ?_
  rintro e W22 ⟨rfl, hb⟩
  rw [nm_ca]
  have hb2 := hb1.trans (hb.mono hb1.size)
  have k22 := k21.trans (hb2.mono k21.size)
  clear hb hb1 hb2 k21
  go_wp2_with fail
  have hb1 := (Below.refl _ W22).alloc (Nat.le_refl W22.heap.size) (.cells #[.int .i64 1, .string ⟨#[48]⟩] 37)
  refine (cucheck_any ⟨0, [⟨1, ⟨#[48]⟩⟩]⟩ _ (W22.alloc (.cells #[.int .i64 1, .string ⟨#[48]⟩] 37)) (pt1 W22 1 ⟨#[48]⟩) (HV.out.below (h0.trans ((k22.trans (hb1.mono k22.size)).mono h0.size))) (fun p hp => by rw [List.mem_singleton.1 hp]; decide)).mono ?_
  rintro e W23 ⟨rfl, hb⟩
  rw [nm_cb]
  have hb2 := hb1.trans (hb.mono hb1.size)
  have k23 := k22.trans (hb2.mono k22.size)
  clear hb hb1 hb2 k22
  go_wp2_with fail
  have hb1 := (Below.refl _ W23).alloc (Nat.le_refl W23.heap.size) (.cells (hp 202) 37)
  refine (cucheck_any ⟨0, List.replicate 101 zPt⟩ _ (W23.alloc (.cells (hp 202) 37)) (hp_row W23) (HV.out.below (h0.trans ((k23.trans (hb1.mono k23.size)).mono h0.size))) zp_sm).mono ?_
  rintro e W24 ⟨rfl, hb⟩
  rw [nm_cc _ (by rw [List.length_replicate]; omega)]
  have hb2 := hb1.trans (hb.mono hb1.size)
  have k24 := k23.trans (hb2.mono k23.size)
  clear hb hb1 hb2 k23
  go_wp2_with fail
  refine (cquote_any ⟨.slice none 0 0, .slice none 0 0, ⟨#[]⟩⟩ zQt 0 W24 ⟨SL.nil_, SL.nil_, rfl⟩ (HV.out.below (h0.trans (k24.mono h0.size))) (by decide) (fun p hp => by cases hp)).mono ?_
  rintro e W25 ⟨rfl, hb⟩
  rw [nm_cd]
  have k25 := k24.trans (hb.mono k24.size)
  clear hb k24
  go_wp2_with fail
  have hb1 := (Below.refl _ W25).alloc (Nat.le_refl W25.heap.size) (.cells (hi 41) 3)
  refine (cquote_any ⟨.slice (some ⟨W25.heap.size, 0, none⟩) 41 41, .slice none 0 0, ⟨#[]⟩⟩ ⟨List.replicate 41 0, [], ⟨#[]⟩⟩ 0 (W25.alloc (.cells (hi 41) 3)) ⟨hi_row W25, SL.nil_, rfl⟩ (HV.out.below (h0.trans ((k25.trans (hb1.mono k25.size)).mono h0.size))) (by show ByteArray.size ⟨#[]⟩ ≤ 100000; decide) (fun p hp => by cases hp)).mono ?_
  rintro e W26 ⟨rfl, hb⟩
  rw [nm_ce _ (by rw [List.length_replicate]; omega)]
  have hb2 := hb1.trans (hb.mono hb1.size)
  have k26 := k25.trans (hb2.mono k25.size)
  clear hb hb1 hb2 k25
  go_wp2_with fail
  refine (cualive_any W26 (HV.out.below (h0.trans (k26.mono h0.size)))).mono ?_
  rintro e W27 ⟨rfl, hb⟩
  have k27 := k26.trans (hb.mono k26.size)
  go_wp2_with fail
  go_ret
  exact ⟨rfl, h0.trans (k27.mono h0.size)⟩

set_option maxRecDepth 100000 in
theorem lifted (os : Os) (started : os.Started) (H : Type) (enc : TypeId × Value → H) :
    ReturnsInHanded {} Try.checked os 8 .any (Rows.curveNamesSpec.pre6 enc Try.prog Try.f8 Rows.curveNamesRow.domain false) (Rows.curveNamesSpec.post enc Try.prog Try.f8 false true false false) := by
  refine returnsInHanded_of_change_shaped (C := Try.checked) own started (by kernel_rfl) Try.func8
    (ChangeSpec.witness6 (enc := enc) (C := Try.checked) false ⟨#[], #[], []⟩ 8 (by kernel_rfl) (by kernel_rfl) (by kernel_rfl) (by kernel_rfl)) ?_
  intro W base args ds gs before hval0 hW hcnd _ hsh _
  have hval : ∀ (j : Nat) t v, Try.f8.params[j]? = some t → args[j]? = some v → Value.okWide Try.prog W .any base t v := hval0
  have hW' := hW
  obtain ⟨p, q, hA0, hV, rfl, hfz, hnd⟩ := hW
  have hA : DataW.TrodAll enc Try.prog W 0 (fun _ => true) true Try.f8.params.toList args.toList ds p := hA0
  rw [Try.params8] at hA hval
  obtain ⟨hargs, rfl, rfl⟩ := trodAll_nil hA
  obtain rfl : args = #[] := by cases args; simp_all
  obtain ⟨rfl, rfl⟩ := trodVars_none hV
  clear hA0 hval0
  simp only [List.append_nil] at hW'
  refine (walk W (Try.laysM145.s1_3 W hsh)).mono fun e W' ⟨he, bel⟩ => ?_
  subst he
  exact ⟨_, rfl, _, _, _, [], _, [], hW', trodAll_mk1 (shut_bool Try.underlying4 _), trodAll_mk0, rfl, bel.frame _, fun h => by cases h⟩

theorem over : Rows.curveNamesRow.holds Try.pinned (OpenSpec.ofChange Rows.curveNamesSpec) :=
  OpenClaim.holds_of_wide 8 Try.f8 rfl rfl rfl rfl rfl rfl rfl ⟨rfl, rfl, rfl, rfl, rfl⟩ rfl rfl rfl rfl rfl (by kernel_rfl) Try.func8 (by kernel_rfl)
    (of_decide_eq_true (by kernel_rfl)) (by unfold Func.isWrapper; first | (rw [if_pos (by decide +kernel)]; kernel_rfl) | (rw [if_neg (by decide +kernel)]; exact ⟨rfl, rfl⟩))
    (fun os started H enc _ => lifted os started H enc)

theorem proved : Rows.CurveNamesSaid := over
#print axioms proved
