/- Words for ClaimNames: made rows of flows, rows that are written, parts of rows. -/
import Derived.Test.YtdjghmpaopfboaaZcln
namespace Go.Proofs.Ytdjghmpaopfboaa
open Go.RowKit
theorem made_rep {α : Type} {enc : α → List Value} {k : Nat} (hk : ∀ y, (enc y).length = k) (h0 : 0 < k) (y : α) (n : Nat) : madeCells (enc y).toArray (n * k) = ((List.replicate n y).flatMap enc).toArray := by
  apply Array.ext'
  rw [List.toList_toArray]
  apply List.ext_getElem?
  intro j
  by_cases hj : j < n * k
  · have hr : j % k < (enc y).length := by rw [hk]; exact Nat.mod_lt _ h0
    have hd : j / k < n := by rw [Nat.div_lt_iff_lt_mul h0]; exact hj
    have h1 := Z.flat_at (enc := enc) hk (l := List.replicate n y) (i := j / k) (j := j % k) (d := y) (x := (enc y)[j % k]) (by rw [List.getElem?_replicate, if_pos hd]) (List.getElem?_eq_getElem hr)
    rw [Nat.div_add_mod'] at h1
    rw [h1, Array.getElem?_toList]
    unfold madeCells
    rw [Array.getElem?_map, Array.getElem?_range, if_pos hj]
    simp only [Option.map_some, List.size_toArray, hk]
    congr 1
    rw [getElem!_pos _ _ (by rw [List.size_toArray]; exact hr)]
    simp
  · rw [List.getElem?_eq_none (by rw [Array.length_toList, size_madeCells]; omega), List.getElem?_eq_none (by rw [List.toList_toArray, Z.flat_len hk, List.length_replicate]; omega)]
theorem infoF0 : ∃ i, Try.prog.info? 36 = some i ∧ i.zero = some (.agg #[.int .i64 0, .string ⟨#[]⟩, .string ⟨#[]⟩, .string ⟨#[]⟩, .string ⟨#[]⟩]) ∧ i.size = 5 ∧ i.bytes = 72 := by
  have h : (Try.prog.info? 36).map (fun i => (i.zero, i.size, i.bytes)) = some (some (.agg #[.int .i64 0, .string ⟨#[]⟩, .string ⟨#[]⟩, .string ⟨#[]⟩, .string ⟨#[]⟩]), 5, 72) := by kernel_rfl
  rw [Option.map_eq_some_iff] at h
  obtain ⟨i, hi, he⟩ := h
  simp only [Prod.mk.injEq] at he
  exact ⟨i, hi, he.1, he.2.1, he.2.2⟩
/-- The cells of n zero flows. -/
def zfs (n : Nat) : Array Value := ((List.replicate n Z.zFl).flatMap Z.Fl.vs).toArray
theorem run_mkf (n : Nat) (hn : n ≤ 10000) (w : World) : (Instr.makeSlice 25 (.int .i64 (n : Int)) (.int .i64 (n : Int))).run Try.prog w = .ok (.slice (some ⟨w.heap.size, 0, none⟩) n n) (w.alloc (.cells (zfs n) 36)) := by
  obtain ⟨i, hi, hz, h1, h2⟩ := infoF0
  have h := run_make w 25 36 i (.agg #[.int .i64 0, .string ⟨#[]⟩, .string ⟨#[]⟩, .string ⟨#[]⟩, .string ⟨#[]⟩]) Try.underlying25 hi hz .i64 .i64 (n : Int) (n : Int) (by omega) (Int.le_refl _) (by rw [h2]; omega) (by omega)
  rw [h, Int.toNat_natCast, h1]
  have e := made_rep (enc := Z.Fl.vs) Z.Fl.vs_len (by omega) Z.zFl n
  show Result.ok _ (w.alloc (.cells (madeCells (Z.Fl.vs Z.zFl).toArray (n * 5)) 36)) = _
  rw [e]
  rfl
theorem run_mk5001 (w : World) : (Instr.makeSlice 25 (.int .i64 5001) (.int .i64 5001)).run Try.prog w = .ok (.slice (some ⟨w.heap.size, 0, none⟩) 5001 5001) (w.alloc (.cells (zfs 5001) 36)) := run_mkf 5001 (by omega) w
theorem run_mk5000 (w : World) : (Instr.makeSlice 25 (.int .i64 5000) (.int .i64 5000)).run Try.prog w = .ok (.slice (some ⟨w.heap.size, 0, none⟩) 5000 5000) (w.alloc (.cells (zfs 5000) 36)) := run_mkf 5000 (by omega) w
/-- An own block that holds exactly these flows. -/
theorem blk_flows {w : World} {g B : Nat} {l : List Z.Fl} (h : Blk w g 36 (l.flatMap Z.Fl.vs).toArray) (hB : B ≤ g) (hl : l.length ≤ 10000) : OFl w B (.slice (some ⟨g, 0, none⟩) l.length l.length) l :=
  ⟨Z.flat_len Z.Fl.vs_len l, .inr ⟨g, l.length, _, rfl, hB, h, Nat.le_refl _, by unfold maxLen; omega, by rw [List.size_toArray, Z.flat_len Z.Fl.vs_len], by rw [List.toList_toArray, List.take_of_length_le (by rw [Z.flat_len Z.Fl.vs_len]; exact Nat.le_refl _)]⟩⟩
theorem fl_set : ∀ (l : List Z.Fl) (k : Nat) (y : Z.Fl), k < l.length →
    ((((((l.flatMap Z.Fl.vs).set (k * 5) (.int .i64 y.d)).set (k * 5 + 1) (.string y.f)).set (k * 5 + 2) (.string y.t)).set (k * 5 + 3) (.string y.c)).set (k * 5 + 4) (.string y.a)) = (l.set k y).flatMap Z.Fl.vs
  | [], k, y, h => by simp at h
  | x :: r, 0, y, _ => by
    rw [List.set_cons_zero, List.flatMap_cons, List.flatMap_cons]
    rfl
  | x :: r, k + 1, y, h => by
    have ih := fl_set r k y (by simpa using h)
    rw [List.set_cons_succ, List.flatMap_cons, List.flatMap_cons, ← ih, show (k + 1) * 5 = k * 5 + 5 by omega]
    rfl
theorem blk_set {w : World} {g k : Nat} {l : List Z.Fl} (y : Z.Fl) (h : Blk w g 36 (l.flatMap Z.Fl.vs).toArray) (hk : k < l.length) :
    Blk (((((w.setCell ⟨g, k * 5, none⟩ (.int .i64 y.d)).setCell ⟨g, k * 5 + 1, none⟩ (.string y.f)).setCell ⟨g, k * 5 + 2, none⟩ (.string y.t)).setCell ⟨g, k * 5 + 3, none⟩ (.string y.c)).setCell ⟨g, k * 5 + 4, none⟩ (.string y.a)) g 36 ((l.set k y).flatMap Z.Fl.vs).toArray := by
  have h5 := ((((h.set (k * 5) (.int .i64 y.d)).set (k * 5 + 1) (.string y.f)).set (k * 5 + 2) (.string y.t)).set (k * 5 + 3) (.string y.c)).set (k * 5 + 4) (.string y.a)
  rw [← fl_set l k y hk]
  simpa using h5
theorem rep_set {α : Type} (a b : α) (k n : Nat) : (List.replicate k a ++ List.replicate (n + 1) b).set k a = List.replicate (k + 1) a ++ List.replicate n b := by
  rw [List.set_append_right _ _ (by rw [List.length_replicate]; exact Nat.le_refl _), List.length_replicate, Nat.sub_self, List.replicate_succ, List.set_cons_zero, List.replicate_succ' (n := k), List.append_assoc]
  rfl
/-- A row without its first element; its first elements. -/
theorem SL.tail_ {w : World} {b o n c : Nat} {l : List Z.Fl} (h : SF w (.slice (some ⟨b, o, none⟩) (n + 1) (c + 1)) l) : SF w (.slice (some ⟨b, o + 5, none⟩) n c) (l.drop 1) := by
  obtain ⟨A', c', hv, h1, h2, h3⟩ := h
  injection hv with e1 e2 e3
  subst e1 e3
  refine ⟨_, c, by rw [List.length_drop, ← e2]; rfl, by rw [List.length_drop]; omega, by omega, fun hp => ?_⟩
  rw [List.length_drop] at hp
  obtain ⟨b', o', hA, hlt, hc⟩ := h3 (by omega)
  injection hA with hA
  injection hA with q1 q2 _
  subst q1 q2
  refine ⟨b, o + 5, rfl, hlt, fun i d hd j x hx => ?_⟩
  rw [List.getElem?_drop] at hd
  have := hc (1 + i) d hd j x hx
  rwa [show o + (1 + i) * 5 + j = o + 5 + i * 5 + j by omega] at this
theorem SL.first {w : World} {A : Option Addr} {n c m : Nat} {zs : List Z.Fl} (h : SF w (.slice A n c) zs) (hm : m ≤ zs.length) : SF w (.slice A m c) (zs.take m) := by
  obtain ⟨A', c', hv, h1, h2, h3⟩ := h
  injection hv with e1 e2 e3
  subst e1 e3
  refine ⟨A, c, by rw [List.length_take, Nat.min_eq_left hm], by rw [List.length_take]; omega, h2, fun hp => ?_⟩
  rw [List.length_take] at hp
  obtain ⟨b, o, hA, hlt, hc⟩ := h3 (by omega)
  refine ⟨b, o, hA, hlt, fun i d hd j x hx => hc i d ?_ j x hx⟩
  rw [List.getElem?_take] at hd
  split at hd
  · exact hd
  · cases hd
theorem upd_fail {l : List Z.Cl} {fs : List Z.Fl} {en E : Int} {w w' : World} {e : Ending} (h : UpdRet l fs en w e w') (hE : Z.updE l fs en = E) (h0 : E ≠ 0) : e = .returned (.tuple #[.agg #[.slice none 0 0], .int .i64 E]) ∧ Below w.heap.size w w' := by
  subst hE
  obtain ⟨hb, ⟨_, h⟩ | ⟨h1, _⟩⟩ := h
  · exact ⟨h, hb⟩
  · exact absurd h1 h0
/-- What stays through ClaimNames: the example's claims in their box, the open ones. -/
def NS (w : World) (g : Nat) (A : Option Addr) (n c : Nat) (A3 : Option Addr) (c3 : Nat) (W : World) : Prop :=
  Below w.heap.size w W ∧ Blk W g 24 #[.slice A n c] ∧ SC W (.slice A n c) Z.ex2 ∧ SC W (.slice A3 2 c3) Z.exO
section
variable {w W W' : World} {g n c c3 : Nat} {A A3 : Option Addr}
theorem NS.below (h : NS w g A n c A3 c3 W) (hb : Below W.heap.size W W') : NS w g A n c A3 c3 W' :=
  ⟨h.1.trans (hb.mono h.1.size), h.2.1.below hb, SL.below h.2.2.1 hb, SL.below h.2.2.2 hb⟩
theorem NS.alloc (h : NS w g A n c A3 c3 W) (o : Obj) : NS w g A n c A3 c3 (W.alloc o) := h.below ((Below.refl _ W).alloc (Nat.le_refl _) o)
theorem NS.box (h : NS w g A n c A3 c3 W) : W.cell? ⟨g, 0, none⟩ = some (.slice A n c) := h.2.1.cell 0
/-- Update of the example's claims, refused. -/
theorem NS.upd {v : Value} {fs : List Z.Fl} {en E : Int} (HV : Hid (HasV w)) (h : Hid (NS w g A n c A3 c3 W)) (hF : SF W v fs) (hs : ∀ x ∈ fs, x.small) (hE : Z.updE Z.ex2 fs en = E) (h0 : E ≠ 0) :
    Calls Try.prog 13 #[.agg #[.slice A n c], v, .int .i64 en] W fun e w' => e = .returned (.tuple #[.agg #[.slice none 0 0], .int .i64 E]) ∧ Below W.heap.size W w' :=
  (update_any _ v Z.ex2 fs en W h.out.2.2.1 hF (HV.out.below h.out.1) ex2_small hs).mono fun _ _ hr => upd_fail hr hE h0
theorem NS.net {p c' s : ByteArray} {k : Int} (HV : Hid (HasV w)) (h : Hid (NS w g A n c A3 c3 W)) (hp : p.size ≤ 1000) (hc : c'.size ≤ 1000) (hR : Z.netR Z.ex2 p c' = (s, k)) :
    Calls Try.prog 18 #[.agg #[.slice A n c], .string p, .string c'] W fun e w' => e = .returned (.tuple #[.string s, .int .i64 k]) ∧ Below W.heap.size W w' := by
  have := net_any _ Z.ex2 p c' W h.out.2.2.1 (HV.out.below h.out.1) ex2_small (by omega) (by omega)
  rw [hR] at this
  exact this
end
theorem zFl_small (n : Nat) : ∀ x ∈ List.replicate n Z.zFl, x.small := fun x hx => by
  rw [List.eq_of_mem_replicate hx]
  exact ⟨by decide, by decide, by decide, by decide⟩
theorem pf_small (n : Nat) : ∀ x ∈ List.replicate n Z.pf, x.small := fun x hx => by
  rw [List.eq_of_mem_replicate hx]
  exact ⟨by decide, by decide, by decide, by decide⟩
theorem annF_small : ∀ x ∈ [Z.annF], x.small := fun x hx => by
  simp only [List.mem_cons, List.not_mem_nil, or_false] at hx
  subst hx
  exact ⟨by decide, by decide, by decide, by decide⟩
theorem nil_small : ∀ x ∈ ([] : List Z.Fl), x.small := fun x hx => by cases hx
end Go.Proofs.Ytdjghmpaopfboaa
