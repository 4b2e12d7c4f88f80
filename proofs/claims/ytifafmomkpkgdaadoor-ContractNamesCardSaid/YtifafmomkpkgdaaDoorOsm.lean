/- Walks: equality of lists of days, of expressions and of contracts, in the program and in the reference. -/
import Derived.Test.YtifafmomkpkgdaaDoorOtg
namespace Go.Proofs.YtifafmomkpkgdaaDoor
open Go.RowKit
namespace Z
def all2 {α : Type} (f : α → α → Bool) : List α → List α → Bool
  | [], [] => true
  | x :: r, y :: s => f x y && all2 f r s
  | _, _ => false
theorem all2_len {α : Type} {f : α → α → Bool} : ∀ (l m : List α), l.length ≠ m.length → all2 f l m = false
  | [], [], h => absurd rfl h
  | [], _ :: _, _ => rfl
  | _ :: _, [], _ => rfl
  | x :: r, y :: s, h => by
    rw [all2, all2_len r s (fun e => h (by simp [e])), Bool.and_false]
theorem all2_drop {α : Type} {f : α → α → Bool} {l m : List α} {k : Nat} {x y : α} (h1 : l[k]? = some x) (h2 : m[k]? = some y) : all2 f (l.drop k) (m.drop k) = (f x y && all2 f (l.drop (k + 1)) (m.drop (k + 1))) := by
  obtain ⟨hl, rfl⟩ := List.getElem?_eq_some_iff.1 h1
  obtain ⟨hm, rfl⟩ := List.getElem?_eq_some_iff.1 h2
  rw [List.drop_eq_getElem_cons hl, List.drop_eq_getElem_cons hm]
  rfl
theorem all2_end {α : Type} {f : α → α → Bool} {l m : List α} (h : l.length = m.length) : all2 f (l.drop l.length) (m.drop l.length) = true := by
  rw [List.drop_length, List.drop_of_length_le (by omega)]
  rfl
theorem all2_iff {α : Type} {f : α → α → Bool} : ∀ (l m : List α), (∀ x ∈ l, ∀ y, f x y = true ↔ x = y) → (all2 f l m = true ↔ l = m)
  | [], [], _ => by simp [all2]
  | [], _ :: _, _ => by simp [all2]
  | _ :: _, [], _ => by simp [all2]
  | x :: r, y :: s, h => by
    rw [all2, Bool.and_eq_true, h x (List.mem_cons_self ..), all2_iff r s fun z hz => h z (List.mem_cons_of_mem _ hz), List.cons.injEq]
def eqD (l m : List Int) : Bool := all2 (fun a b => decide (a = b)) l m
theorem eqD_iff (l m : List Int) : eqD l m = true ↔ l = m := all2_iff l m fun _ _ _ => decide_eq_true_iff
def topX (a b : XN) : Bool := decide (a.k = b.k) && (decide (a.rat = b.rat) && (decide (a.name = b.name) && decide (a.date = b.date)))
theorem topX_iff (a b : XN) : topX a b = true ↔ a = b := by
  unfold topX
  simp only [Bool.and_eq_true, decide_eq_true_eq]
  exact ⟨fun h => XN.ext' h.1 h.2.1 h.2.2.1 h.2.2.2, fun h => by subst h; exact ⟨rfl, rfl, rfl, rfl⟩⟩
def exSame : (n : Nat) → Ex n → Ex n → Bool
  | 0, _, _ => true
  | n + 1, a, b => topX a.top b.top && all2 (exSame n) a.sub b.sub
theorem exSame_iff : ∀ (n : Nat) (a b : Ex n), exSame n a b = true ↔ a = b
  | 0, a, _ => a.no
  | n + 1, a, b => by
    rw [exSame, Bool.and_eq_true, topX_iff, all2_iff a.sub b.sub fun x _ y => exSame_iff n x y]
    exact ⟨fun h => Ex.ext h.1 h.2, fun h => by subst h; exact ⟨rfl, rfl⟩⟩
def topC {m : Nat} (a b : CN m) : Bool := decide (a.k = b.k) && (decide (a.fr = b.fr) && (decide (a.tu = b.tu) && (decide (a.nm = b.nm) && decide (a.date = b.date))))
def coSame {m : Nat} : (n : Nat) → Co m n → Co m n → Bool
  | 0, _, _ => true
  | n + 1, a, b => topC a.top b.top && (exSame (m + 1) a.top.ex b.top.ex && (eqD a.top.dates b.top.dates && all2 (coSame n) a.sub b.sub))
theorem coSame_iff {m : Nat} : ∀ (n : Nat) (a b : Co m n), coSame n a b = true ↔ a = b
  | 0, a, _ => a.no
  | n + 1, a, b => by
    rw [coSame, Bool.and_eq_true, Bool.and_eq_true, Bool.and_eq_true, all2_iff a.sub b.sub fun x _ y => coSame_iff n x y, exSame_iff, eqD_iff]
    unfold topC
    simp only [Bool.and_eq_true, decide_eq_true_eq]
    exact ⟨fun h => Co.ext (CN.ext' h.1.1 h.1.2.1 h.1.2.2.1 h.1.2.2.2.1 h.2.1 h.1.2.2.2.2 h.2.2.1) h.2.2.2, fun h => by subst h; exact ⟨⟨rfl, rfl, rfl, rfl, rfl⟩, rfl, rfl, rfl⟩⟩
theorem neI (a b : Int) : (a != b) = !decide (a = b) := rfl
theorem neS (a b : ByteArray) : (a.toList != b.toList) = !decide (a = b) := by rw [← eqS]; rfl
end Z
set_option maxRecDepth 100000 in
set_option maxHeartbeats 2000000 in
theorem equal_any (v1 v2 : Value) (l1 l2 : List Int) (w : World) (h1 : SD w v1 l1) (h2 : SD w v2 l2) :
    Calls Tryd.prog 54 #[v1, v2] w fun e w' => e = .returned (.bool (Z.eqD l1 l2)) ∧ Below w.heap.size w w' := by
  have H1 := Lib.hid h1
  have H2 := Lib.hid h2
  obtain ⟨A1, c1, rfl, hc1, hm1⟩ := h1.shape
  obtain ⟨A2, c2, rfl, hc2, hm2⟩ := h2.shape
  unfold maxLen at hm1 hm2
  have HR : Hid (Z.eqD l1 l2 = Z.all2 (fun a b => decide (a = b)) (l1.drop 0) (l2.drop 0)) := Lib.hid rfl
  have HRL : Hid (l1.length ≠ l2.length → Z.eqD l1 l2 = false) := Lib.hid (fun h => Z.all2_len l1 l2 h)
  generalize Z.eqD l1 l2 = R at *
  clear h1 h2
  by_cases hl : l1.length = l2.length
  case neg =>
    have HN := Lib.hid (HRL.out hl)
    have hne : ((l1.length : Int) != (l2.length : Int)) = true := by rw [bne_iff_ne]; omega
    clear hl
    go_enter Tryd.func54, Tryd.ntmps54
    go_wp2_with fail
    go_ret
    exact ⟨ret_bool HN.out.symm, Below.refl _ _⟩
  have HL := Lib.hid hl
  rw [← hl] at hc2 ⊢
  have H2 : Hid (SD w (.slice A2 l1.length c2) l2) := Lib.hid (by rw [hl]; exact H2.out)
  clear HRL hl
  go_enter Tryd.func54, Tryd.ntmps54
  go_wp2_with fail
  go_loopw [13] (fun iv wr => ∃ k : Nat, k ≤ l1.length ∧ iv = .int .i64 k ∧ Hid (R = Z.all2 (fun a b => decide (a = b)) (l1.drop k) (l2.drop k)) ∧ Below w.heap.size w wr) (fun iv _ => l1.length - (intOf iv).toNat)
  case atStart => exact ⟨0, by omega, rfl, HR, Below.refl _ _⟩
  case round =>
    obtain ⟨k, hk, rfl, HI, hbr⟩ := hrel
    clear HR
    by_cases hlt : k < l1.length
    · have hz1 : l1[k]? = some l1[k] := List.getElem?_eq_getElem hlt
      have hlt2 : k < l2.length := by have := HL.out; omega
      have hz2 : l2[k]? = some l2[k] := List.getElem?_eq_getElem hlt2
      obtain ⟨b1, o1, rfl, hb1, p1⟩ := (SL.below H1.out hbr).cell1 hz1 rfl
      obtain ⟨b2, o2, rfl, hb2, p2⟩ := (SL.below H2.out hbr).cell1 hz2 rfl
      have HD := Lib.hid (Z.all2_drop (f := fun a b => decide (a = b)) hz1 hz2)
      clear hz1 hz2
      generalize l1[k] = x at *
      generalize l2[k] = y at *
      clear hlt2
      have hi0 : (0 : Int) ≤ (k : Int) := by omega
      have hi1 : (k : Int) < (l1.length : Int) := by omega
      have f1 : ∀ z : Ab wr, z.1.cell? ⟨b1, o1 + k, none⟩ = some (.int .i64 x) := fun z => (z.2.cell (p := ⟨b1, o1 + k, none⟩) hb1).trans p1
      have f2 : ∀ z : Ab wr, z.1.cell? ⟨b2, o2 + k, none⟩ = some (.int .i64 y) := fun z => (z.2.cell (p := ⟨b2, o2 + k, none⟩) hb2).trans p2
      have HN : Hid (R = (decide (x = y) && Z.all2 (fun a b => decide (a = b)) (l1.drop (k + 1)) (l2.drop (k + 1)))) := Lib.hid (by rw [HI.out, HD.out])
      have hxy := Z.neI x y
      generalize decide (x = y) = d at *
      clear p1 p2 HI HD
      go_wp2_with fail
      refine wp_region_above (by kernel_rfl) (by kernel_rfl) ?_
      repeat (go_big_quiet_step (fail))
      refine wpQuiet_nil ?_
      rintro _ ⟨z, rfl⟩
      have hbx := hbr.trans (z.2.mono hbr.size)
      clear f1 f2
      cases d
      · have HF : Hid (R = false) := HN
        go_wp2_with fail
        go_ret
        exact ⟨ret_bool HF.out.symm, hbx⟩
      · have HT : Hid (R = Z.all2 (fun a b => decide (a = b)) (l1.drop (k + 1)) (l2.drop (k + 1))) := HN
        go_wp2_with fail
        go_roundw
        case rel => first | exact ⟨k + 1, by omega, by go_num, HT, hbx⟩ | ((repeat apply Exists.intro); exact ⟨⟨k + 1, by omega, by go_num, HT, hbx⟩, rfl⟩)
        case measure => simp [intOf]; omega
    · obtain rfl : k = l1.length := by omega
      have HN : Hid (R = true) := Lib.hid (by rw [HI.out]; exact Z.all2_end HL.out)
      go_wp2_with fail
      go_ret
      exact ⟨ret_bool HN.out.symm, hbr⟩
set_option maxRecDepth 100000 in
set_option maxHeartbeats 2000000 in
theorem samedays_any (v1 v2 : Value) (l1 l2 : List Int) (w : World) (h1 : SD w v1 l1) (h2 : SD w v2 l2) :
    Calls Tryd.prog 63 #[v1, v2] w fun e w' => e = .returned (.bool (Z.eqD l1 l2)) ∧ Below w.heap.size w w' := by
  have H1 := Lib.hid h1
  have H2 := Lib.hid h2
  obtain ⟨A1, c1, rfl, hc1, hm1⟩ := h1.shape
  obtain ⟨A2, c2, rfl, hc2, hm2⟩ := h2.shape
  unfold maxLen at hm1 hm2
  have HR : Hid (Z.eqD l1 l2 = Z.all2 (fun a b => decide (a = b)) (l1.drop 0) (l2.drop 0)) := Lib.hid rfl
  have HRL : Hid (l1.length ≠ l2.length → Z.eqD l1 l2 = false) := Lib.hid (fun h => Z.all2_len l1 l2 h)
  generalize Z.eqD l1 l2 = R at *
  clear h1 h2
  by_cases hl : l1.length = l2.length
  case neg =>
    have HN := Lib.hid (HRL.out hl)
    have hne : ((l1.length : Int) != (l2.length : Int)) = true := by rw [bne_iff_ne]; omega
    clear hl
    go_enter Tryd.func63, Tryd.ntmps63
    go_wp2_with fail
    go_ret
    exact ⟨ret_bool HN.out.symm, Below.refl _ _⟩
  have HL := Lib.hid hl
  rw [← hl] at hc2 ⊢
  have H2 : Hid (SD w (.slice A2 l1.length c2) l2) := Lib.hid (by rw [hl]; exact H2.out)
  clear HRL hl
  go_enter Tryd.func63, Tryd.ntmps63
  go_wp2_with fail
  go_loopw [5] (fun iv wr => ∃ k : Nat, k ≤ l1.length ∧ iv = .int .i64 k ∧ Hid (R = Z.all2 (fun a b => decide (a = b)) (l1.drop k) (l2.drop k)) ∧ Below w.heap.size w wr) (fun iv _ => l1.length - (intOf iv).toNat)
  case atStart => exact ⟨0, by omega, rfl, HR, Below.refl _ _⟩
  case round =>
    obtain ⟨k, hk, rfl, HI, hbr⟩ := hrel
    clear HR
    by_cases hlt : k < l1.length
    · have hz1 : l1[k]? = some l1[k] := List.getElem?_eq_getElem hlt
      have hlt2 : k < l2.length := by have := HL.out; omega
      have hz2 : l2[k]? = some l2[k] := List.getElem?_eq_getElem hlt2
      obtain ⟨b1, o1, rfl, hb1, p1⟩ := (SL.below H1.out hbr).cell1 hz1 rfl
      obtain ⟨b2, o2, rfl, hb2, p2⟩ := (SL.below H2.out hbr).cell1 hz2 rfl
      have HD := Lib.hid (Z.all2_drop (f := fun a b => decide (a = b)) hz1 hz2)
      clear hz1 hz2
      generalize l1[k] = x at *
      generalize l2[k] = y at *
      clear hlt2
      have hi0 : (0 : Int) ≤ (k : Int) := by omega
      have hi1 : (k : Int) < (l1.length : Int) := by omega
      have f1 : ∀ z : Ab wr, z.1.cell? ⟨b1, o1 + k, none⟩ = some (.int .i64 x) := fun z => (z.2.cell (p := ⟨b1, o1 + k, none⟩) hb1).trans p1
      have f2 : ∀ z : Ab wr, z.1.cell? ⟨b2, o2 + k, none⟩ = some (.int .i64 y) := fun z => (z.2.cell (p := ⟨b2, o2 + k, none⟩) hb2).trans p2
      have HN : Hid (R = (decide (x = y) && Z.all2 (fun a b => decide (a = b)) (l1.drop (k + 1)) (l2.drop (k + 1)))) := Lib.hid (by rw [HI.out, HD.out])
      have hxy := Z.neI x y
      generalize decide (x = y) = d at *
      clear p1 p2 HI HD
      go_wp2_with fail
      refine wp_region_above (by kernel_rfl) (by kernel_rfl) ?_
      repeat (go_big_quiet_step (fail))
      refine wpQuiet_nil ?_
      rintro _ ⟨z, rfl⟩
      have hbx := hbr.trans (z.2.mono hbr.size)
      clear f1 f2
      cases d
      · have HF : Hid (R = false) := HN
        go_wp2_with fail
        go_ret
        exact ⟨ret_bool HF.out.symm, hbx⟩
      · have HT : Hid (R = Z.all2 (fun a b => decide (a = b)) (l1.drop (k + 1)) (l2.drop (k + 1))) := HN
        go_wp2_with fail
        go_roundw
        case rel => first | exact ⟨k + 1, by omega, by go_num, HT, hbx⟩ | ((repeat apply Exists.intro); exact ⟨⟨k + 1, by omega, by go_num, HT, hbx⟩, rfl⟩)
        case measure => simp [intOf]; omega
    · obtain rfl : k = l1.length := by omega
      have HN : Hid (R = true) := Lib.hid (by rw [HI.out]; exact Z.all2_end HL.out)
      go_wp2_with fail
      go_ret
      exact ⟨ret_bool HN.out.symm, hbr⟩
set_option maxRecDepth 100000 in
set_option maxHeartbeats 4000000 in
theorem eqfx_any (n : Nat) (ih : ∀ (x y : Z.Ex n) (a b : Z.XN) (u v : Value) (w : World), XV w n x (a, u) → XV w n y (b, v) → Calls Tryd.prog 53 #[.agg #[.int .u8 a.k, .string a.rat, .string a.name, .int .i64 a.date, u], .agg #[.int .u8 b.k, .string b.rat, .string b.name, .int .i64 b.date, v]] w fun e w' => e = .returned (.bool (Z.exSame n x y)) ∧ Below w.heap.size w w') (v1 v2 : Value) (l1 l2 : List (Z.Ex n)) (w : World) (h1 : ES w n v1 l1) (h2 : ES w n v2 l2) :
    Calls Tryd.prog 76 #[v1, v2, .func (.func 53) #[] #[]] w fun e w' => e = .returned (.bool (Z.all2 (Z.exSame n) l1 l2)) ∧ Below w.heap.size w w' := by
  have H1 := Lib.hid h1
  have H2 := Lib.hid h2
  have IH := Lib.hid ih
  obtain ⟨A1, c1, rfl, hc1, hm1⟩ := h1.shape
  obtain ⟨A2, c2, rfl, hc2, hm2⟩ := h2.shape
  unfold maxLen at hm1 hm2
  obtain ⟨R, hR⟩ : ∃ R, R = Z.all2 (Z.exSame n) l1 l2 := ⟨_, rfl⟩
  have HR : Hid (R = Z.all2 (Z.exSame n) (l1.drop 0) (l2.drop 0)) := Lib.hid hR
  have HRL : Hid (l1.length ≠ l2.length → R = false) := Lib.hid (fun h => hR.trans (Z.all2_len l1 l2 h))
  rw [← hR]
  clear h1 h2 ih hR
  by_cases hl : l1.length = l2.length
  case neg =>
    have HN := Lib.hid (HRL.out hl)
    have hne : ((l1.length : Int) != (l2.length : Int)) = true := by rw [bne_iff_ne]; omega
    clear hl
    go_enter Tryd.func76, Tryd.ntmps76
    go_wp2_with fail
    go_ret
    exact ⟨ret_bool HN.out.symm, Below.refl _ _⟩
  have HL := Lib.hid hl
  rw [← hl] at hc2 ⊢
  have H2 : Hid (ES w n (.slice A2 l1.length c2) l2) := Lib.hid (by rw [hl]; exact H2.out)
  clear HRL hl
  go_enter Tryd.func76, Tryd.ntmps76
  go_wp2_with fail
  go_loopw [17] (fun iv wr => ∃ k : Nat, k ≤ l1.length ∧ iv = .int .i64 k ∧ Hid (R = Z.all2 (Z.exSame n) (l1.drop k) (l2.drop k)) ∧ Below w.heap.size w wr) (fun iv _ => l1.length - (intOf iv).toNat)
  case atStart => exact ⟨0, by omega, rfl, HR, Below.refl _ _⟩
  case round =>
    obtain ⟨k, hk, rfl, HI, hbr⟩ := hrel
    clear HR
    by_cases hlt : k < l1.length
    · have hz1 : l1[k]? = some l1[k] := List.getElem?_eq_getElem hlt
      have hlt2 : k < l2.length := by have := HL.out; omega
      have hz2 : l2[k]? = some l2[k] := List.getElem?_eq_getElem hlt2
      obtain ⟨b1, o1, a1, u1, rfl, hb1, p0, p1, p2, p3, p4, hv1⟩ := ES.cells (ES.below hbr H1.out) hz1
      obtain ⟨b2, o2, a2, u2, rfl, hb2, q0, q1, q2, q3, q4, hv2⟩ := ES.cells (ES.below hbr H2.out) hz2
      have HD := Lib.hid (Z.all2_drop (f := Z.exSame n) hz1 hz2)
      clear hz1 hz2
      generalize l1[k] = x at *
      generalize l2[k] = y at *
      clear hlt2
      obtain ⟨A11, k11, c11, rfl⟩ := hv1.shape
      obtain ⟨A12, k12, c12, rfl⟩ := hv2.shape
      have hi0 : (0 : Int) ≤ (k : Int) := by omega
      have hi1 : (k : Int) < (l1.length : Int) := by omega
      have ha1 := (Below.refl _ wr).alloc (Nat.le_refl wr.heap.size) (.cells #[.int .u8 a1.k, .string a1.rat, .string a1.name, .int .i64 a1.date, .slice A11 k11 c11] 25)
      have ha2 := ha1.alloc ha1.size (.cells #[.int .u8 a2.k, .string a2.rat, .string a2.name, .int .i64 a2.date, .slice A12 k12 c12] 25)
      have BX := (Blk.new wr 25 #[.int .u8 a1.k, .string a1.rat, .string a1.name, .int .i64 a1.date, .slice A11 k11 c11]).alloc (.cells #[.int .u8 a2.k, .string a2.rat, .string a2.name, .int .i64 a2.date, .slice A12 k12 c12] 25)
      have BY := Blk.new (wr.alloc (.cells #[.int .u8 a1.k, .string a1.rat, .string a1.name, .int .i64 a1.date, .slice A11 k11 c11] 25)) 25 #[.int .u8 a2.k, .string a2.rat, .string a2.name, .int .i64 a2.date, .slice A12 k12 c12]
      rw [World.size_alloc] at BY
      have hv2' := XV.below ha1 n hv2
      have r0 := BX.cell 0
      have t0 := BY.cell 0
      have r1 := BX.cell 1
      have t1 := BY.cell 1
      have r2 := BX.cell 2
      have t2 := BY.cell 2
      have r3 := BX.cell 3
      have t3 := BY.cell 3
      have r4 := BX.cell 4
      have t4 := BY.cell 4
      have q0' := (ha1.cell (p := ⟨b2, o2 + k * 5, none⟩) hb2).trans q0
      have q1' := (ha1.cell (p := ⟨b2, o2 + k * 5 + 1, none⟩) hb2).trans q1
      have q2' := (ha1.cell (p := ⟨b2, o2 + k * 5 + 2, none⟩) hb2).trans q2
      have q3' := (ha1.cell (p := ⟨b2, o2 + k * 5 + 3, none⟩) hb2).trans q3
      have q4' := (ha1.cell (p := ⟨b2, o2 + k * 5 + 4, none⟩) hb2).trans q4
      have HC := Lib.hid (IH.out x y a1 a2 _ _ ((wr.alloc (.cells #[.int .u8 a1.k, .string a1.rat, .string a1.name, .int .i64 a1.date, .slice A11 k11 c11] 25)).alloc (.cells #[.int .u8 a2.k, .string a2.rat, .string a2.name, .int .i64 a2.date, .slice A12 k12 c12] 25)) (XV.below ha2 n hv1) (XV.below ha2 n hv2))
      have HN : Hid (R = (Z.exSame n x y && Z.all2 (Z.exSame n) (l1.drop (k + 1)) (l2.drop (k + 1)))) := Lib.hid (by rw [HI.out, HD.out])
      generalize Z.exSame n x y = d at *
      clear hv1 hv2 hv2' HI HD
      go_wp2_with fail
      refine HC.out.mono ?_
      rintro e W3 ⟨rfl, hb3⟩
      have hbx := hbr.trans ((ha2.trans (hb3.mono ha2.size)).mono hbr.size)
      clear HC hb3 ha1 ha2 BX BY p0 q0 p1 q1 p2 q2 p3 q3 p4 q4 r0 t0 q0' r1 t1 q1' r2 t2 q2' r3 t3 q3' r4 t4 q4'
      cases d
      · have HF : Hid (R = false) := HN
        go_wp2_with fail
        go_ret
        exact ⟨ret_bool HF.out.symm, hbx⟩
      · have HT : Hid (R = Z.all2 (Z.exSame n) (l1.drop (k + 1)) (l2.drop (k + 1))) := HN
        clear HN
        go_wp2_with fail
        go_roundw
        case rel => first | exact ⟨k + 1, by omega, by go_num, HT, hbx⟩ | ((repeat apply Exists.intro); exact ⟨⟨k + 1, by omega, by go_num, HT, hbx⟩, rfl⟩)
        case measure => simp [intOf]; omega
    · obtain rfl : k = l1.length := by omega
      have HN : Hid (R = true) := Lib.hid (by rw [HI.out]; exact Z.all2_end HL.out)
      go_wp2_with fail
      go_ret
      exact ⟨ret_bool HN.out.symm, hbr⟩
set_option maxRecDepth 100000 in
set_option maxHeartbeats 4000000 in
theorem xsame_any : ∀ (n : Nat) (x y : Z.Ex n) (a b : Z.XN) (u v : Value) (w : World), XV w n x (a, u) → XV w n y (b, v) → Calls Tryd.prog 53 #[.agg #[.int .u8 a.k, .string a.rat, .string a.name, .int .i64 a.date, u], .agg #[.int .u8 b.k, .string b.rat, .string b.name, .int .i64 b.date, v]] w fun e w' => e = .returned (.bool (Z.exSame n x y)) ∧ Below w.heap.size w w' := by
  intro n
  induction n with
  | zero => intro x; exact x.no
  | succ n ih =>
    intro x y a b u v w hx hy
    obtain ⟨rfl, hS1⟩ := hx.open_
    obtain ⟨rfl, hS2⟩ := hy.open_
    obtain ⟨A1, c1, rfl, hc1, hm1⟩ := hS1.shape
    obtain ⟨A2, c2, rfl, hc2, hm2⟩ := hS2.shape
    unfold maxLen at hm1 hm2
    have hb0 := (Below.refl _ w).alloc (Nat.le_refl w.heap.size) (.cells #[.int .u8 x.top.k, .string x.top.rat, .string x.top.name, .int .i64 x.top.date, .slice A1 x.sub.length c1] 25)
    have hb1 := hb0.alloc hb0.size (.cells #[.int .u8 y.top.k, .string y.top.rat, .string y.top.name, .int .i64 y.top.date, .slice A2 y.sub.length c2] 25)
    have BX := (Blk.new w 25 #[.int .u8 x.top.k, .string x.top.rat, .string x.top.name, .int .i64 x.top.date, .slice A1 x.sub.length c1]).alloc (.cells #[.int .u8 y.top.k, .string y.top.rat, .string y.top.name, .int .i64 y.top.date, .slice A2 y.sub.length c2] 25)
    have BY := Blk.new (w.alloc (.cells #[.int .u8 x.top.k, .string x.top.rat, .string x.top.name, .int .i64 x.top.date, .slice A1 x.sub.length c1] 25)) 25 #[.int .u8 y.top.k, .string y.top.rat, .string y.top.name, .int .i64 y.top.date, .slice A2 y.sub.length c2]
    rw [World.size_alloc] at BY
    have c0 := BX.cell 0
    have d0 := BY.cell 0
    have c1 := BX.cell 1
    have d1 := BY.cell 1
    have c2 := BX.cell 2
    have d2 := BY.cell 2
    have c3 := BX.cell 3
    have d3 := BY.cell 3
    have c4 := BX.cell 4
    have d4 := BY.cell 4
    have HE := Lib.hid (eqfx_any n ih _ _ x.sub y.sub _ (ES.below hb1 hS1) (ES.below hb1 hS2))
    have HR : Hid (Z.exSame (n + 1) x y = (Z.topX x.top y.top && Z.all2 (Z.exSame n) x.sub y.sub)) := Lib.hid rfl
    unfold Z.topX at HR
    have h0 := Z.eqI x.top.k y.top.k
    have h1 := Z.eqS x.top.rat y.top.rat
    have h2 := Z.eqS x.top.name y.top.name
    have h3 := Z.eqI x.top.date y.top.date
    generalize Z.exSame (n + 1) x y = R at *
    generalize Z.all2 (Z.exSame n) x.sub y.sub = d at *
    clear hx hy hS1 hS2 ih BX BY
    generalize x.sub.length = n1 at *
    generalize y.sub.length = n2 at *
    generalize x.top = s at *
    generalize y.top = t at *
    generalize decide (s.k = t.k) = b0 at *
    generalize decide (s.rat = t.rat) = b1 at *
    generalize decide (s.name = t.name) = b2 at *
    generalize decide (s.date = t.date) = b3 at *
    cases b0
    · have HF : Hid (R = false) := Lib.hid (by rw [HR.out]; simp)
      go_enter Tryd.func53, Tryd.ntmps53
      go_wp2_with fail
      go_ret
      exact ⟨ret_bool HF.out.symm, hb1⟩
    cases b1
    · have HF : Hid (R = false) := Lib.hid (by rw [HR.out]; simp)
      go_enter Tryd.func53, Tryd.ntmps53
      go_wp2_with fail
      go_ret
      exact ⟨ret_bool HF.out.symm, hb1⟩
    cases b2
    · have HF : Hid (R = false) := Lib.hid (by rw [HR.out]; simp)
      go_enter Tryd.func53, Tryd.ntmps53
      go_wp2_with fail
      go_ret
      exact ⟨ret_bool HF.out.symm, hb1⟩
    cases b3
    · have HF : Hid (R = false) := Lib.hid (by rw [HR.out]; simp)
      go_enter Tryd.func53, Tryd.ntmps53
      go_wp2_with fail
      go_ret
      exact ⟨ret_bool HF.out.symm, hb1⟩
    have HF : Hid (R = d) := Lib.hid (by rw [HR.out]; simp)
    go_enter Tryd.func53, Tryd.ntmps53
    go_wp2_with fail
    refine HE.out.mono ?_
    rintro e W3 ⟨rfl, hb3⟩
    have hbx := hb1.trans (hb3.mono hb1.size)
    go_wp2_with fail
    go_ret
    exact ⟨ret_bool HF.out.symm, hbx⟩
set_option maxRecDepth 100000 in
set_option maxHeartbeats 4000000 in
theorem eqfc_any {m : Nat} (n : Nat) (ih : ∀ (x y : Z.Co m n) (a b : Z.CN m) (u dv sv u' dv' sv' : Value) (w : World), CV w n x ⟨a, u, dv, sv⟩ → CV w n y ⟨b, u', dv', sv'⟩ → Calls Tryd.prog 24 #[.agg #[.int .u8 a.k, .string a.fr, .string a.tu, .string a.nm, .int .u8 a.ex.top.k, .string a.ex.top.rat, .string a.ex.top.name, .int .i64 a.ex.top.date, u, .int .i64 a.date, dv, sv], .agg #[.int .u8 b.k, .string b.fr, .string b.tu, .string b.nm, .int .u8 b.ex.top.k, .string b.ex.top.rat, .string b.ex.top.name, .int .i64 b.ex.top.date, u', .int .i64 b.date, dv', sv']] w fun e w' => e = .returned (.bool (Z.coSame n x y)) ∧ Below w.heap.size w w') (v1 v2 : Value) (l1 l2 : List (Z.Co m n)) (w : World) (h1 : CS w n v1 l1) (h2 : CS w n v2 l2) :
    Calls Tryd.prog 55 #[v1, v2, .func (.func 24) #[] #[]] w fun e w' => e = .returned (.bool (Z.all2 (Z.coSame n) l1 l2)) ∧ Below w.heap.size w w' := by
  have H1 := Lib.hid h1
  have H2 := Lib.hid h2
  have IH := Lib.hid ih
  obtain ⟨A1, c1, rfl, hc1, hm1⟩ := h1.shape
  obtain ⟨A2, c2, rfl, hc2, hm2⟩ := h2.shape
  unfold maxLen at hm1 hm2
  obtain ⟨R, hR⟩ : ∃ R, R = Z.all2 (Z.coSame n) l1 l2 := ⟨_, rfl⟩
  have HR : Hid (R = Z.all2 (Z.coSame n) (l1.drop 0) (l2.drop 0)) := Lib.hid hR
  have HRL : Hid (l1.length ≠ l2.length → R = false) := Lib.hid (fun h => hR.trans (Z.all2_len l1 l2 h))
  rw [← hR]
  clear h1 h2 ih hR
  by_cases hl : l1.length = l2.length
  case neg =>
    have HN := Lib.hid (HRL.out hl)
    have hne : ((l1.length : Int) != (l2.length : Int)) = true := by rw [bne_iff_ne]; omega
    clear hl
    go_enter Tryd.func55, Tryd.ntmps55
    go_wp2_with fail
    go_ret
    exact ⟨ret_bool HN.out.symm, Below.refl _ _⟩
  have HL := Lib.hid hl
  rw [← hl] at hc2 ⊢
  have H2 : Hid (CS w n (.slice A2 l1.length c2) l2) := Lib.hid (by rw [hl]; exact H2.out)
  clear HRL hl
  go_enter Tryd.func55, Tryd.ntmps55
  go_wp2_with fail
  go_loopw [17] (fun iv wr => ∃ k : Nat, k ≤ l1.length ∧ iv = .int .i64 k ∧ Hid (R = Z.all2 (Z.coSame n) (l1.drop k) (l2.drop k)) ∧ Below w.heap.size w wr) (fun iv _ => l1.length - (intOf iv).toNat)
  case atStart => exact ⟨0, by omega, rfl, HR, Below.refl _ _⟩
  case round =>
    obtain ⟨k, hk, rfl, HI, hbr⟩ := hrel
    clear HR
    by_cases hlt : k < l1.length
    · have hz1 : l1[k]? = some l1[k] := List.getElem?_eq_getElem hlt
      have hlt2 : k < l2.length := by have := HL.out; omega
      have hz2 : l2[k]? = some l2[k] := List.getElem?_eq_getElem hlt2
      obtain ⟨b1, o1, a1, u1, d1, s1, rfl, hb1, p0, p1, p2, p3, p4, p5, p6, p7, p8, p9, p10, p11, hv1⟩ := CS.cells (CS.below hbr H1.out) hz1
      obtain ⟨b2, o2, a2, u2, d2, s2, rfl, hb2, q0, q1, q2, q3, q4, q5, q6, q7, q8, q9, q10, q11, hv2⟩ := CS.cells (CS.below hbr H2.out) hz2
      have HD := Lib.hid (Z.all2_drop (f := Z.coSame n) hz1 hz2)
      clear hz1 hz2
      generalize l1[k] = x at *
      generalize l2[k] = y at *
      clear hlt2
      obtain ⟨⟨A11, k11, c11, rfl⟩, ⟨A21, k21, c21, rfl⟩, ⟨A31, k31, c31, rfl⟩⟩ := hv1.shape
      obtain ⟨⟨A12, k12, c12, rfl⟩, ⟨A22, k22, c22, rfl⟩, ⟨A32, k32, c32, rfl⟩⟩ := hv2.shape
      have hi0 : (0 : Int) ≤ (k : Int) := by omega
      have hi1 : (k : Int) < (l1.length : Int) := by omega
      have ha1 := (Below.refl _ wr).alloc (Nat.le_refl wr.heap.size) (.cells #[.int .u8 a1.k, .string a1.fr, .string a1.tu, .string a1.nm, .int .u8 a1.ex.top.k, .string a1.ex.top.rat, .string a1.ex.top.name, .int .i64 a1.ex.top.date, .slice A11 k11 c11, .int .i64 a1.date, .slice A21 k21 c21, .slice A31 k31 c31] 29)
      have ha2 := ha1.alloc ha1.size (.cells #[.int .u8 a2.k, .string a2.fr, .string a2.tu, .string a2.nm, .int .u8 a2.ex.top.k, .string a2.ex.top.rat, .string a2.ex.top.name, .int .i64 a2.ex.top.date, .slice A12 k12 c12, .int .i64 a2.date, .slice A22 k22 c22, .slice A32 k32 c32] 29)
      have BX := (Blk.new wr 29 #[.int .u8 a1.k, .string a1.fr, .string a1.tu, .string a1.nm, .int .u8 a1.ex.top.k, .string a1.ex.top.rat, .string a1.ex.top.name, .int .i64 a1.ex.top.date, .slice A11 k11 c11, .int .i64 a1.date, .slice A21 k21 c21, .slice A31 k31 c31]).alloc (.cells #[.int .u8 a2.k, .string a2.fr, .string a2.tu, .string a2.nm, .int .u8 a2.ex.top.k, .string a2.ex.top.rat, .string a2.ex.top.name, .int .i64 a2.ex.top.date, .slice A12 k12 c12, .int .i64 a2.date, .slice A22 k22 c22, .slice A32 k32 c32] 29)
      have BY := Blk.new (wr.alloc (.cells #[.int .u8 a1.k, .string a1.fr, .string a1.tu, .string a1.nm, .int .u8 a1.ex.top.k, .string a1.ex.top.rat, .string a1.ex.top.name, .int .i64 a1.ex.top.date, .slice A11 k11 c11, .int .i64 a1.date, .slice A21 k21 c21, .slice A31 k31 c31] 29)) 29 #[.int .u8 a2.k, .string a2.fr, .string a2.tu, .string a2.nm, .int .u8 a2.ex.top.k, .string a2.ex.top.rat, .string a2.ex.top.name, .int .i64 a2.ex.top.date, .slice A12 k12 c12, .int .i64 a2.date, .slice A22 k22 c22, .slice A32 k32 c32]
      rw [World.size_alloc] at BY
      have hv2' := CV.below ha1 n hv2
      have r0 := BX.cell 0
      have t0 := BY.cell 0
      have r1 := BX.cell 1
      have t1 := BY.cell 1
      have r2 := BX.cell 2
      have t2 := BY.cell 2
      have r3 := BX.cell 3
      have t3 := BY.cell 3
      have r4 := BX.cell 4
      have t4 := BY.cell 4
      have r5 := BX.cell 5
      have t5 := BY.cell 5
      have r6 := BX.cell 6
      have t6 := BY.cell 6
      have r7 := BX.cell 7
      have t7 := BY.cell 7
      have r8 := BX.cell 8
      have t8 := BY.cell 8
      have r9 := BX.cell 9
      have t9 := BY.cell 9
      have r10 := BX.cell 10
      have t10 := BY.cell 10
      have r11 := BX.cell 11
      have t11 := BY.cell 11
      have q0' := (ha1.cell (p := ⟨b2, o2 + k * 12, none⟩) hb2).trans q0
      have q1' := (ha1.cell (p := ⟨b2, o2 + k * 12 + 1, none⟩) hb2).trans q1
      have q2' := (ha1.cell (p := ⟨b2, o2 + k * 12 + 2, none⟩) hb2).trans q2
      have q3' := (ha1.cell (p := ⟨b2, o2 + k * 12 + 3, none⟩) hb2).trans q3
      have q4' := (ha1.cell (p := ⟨b2, o2 + k * 12 + 4, none⟩) hb2).trans q4
      have q5' := (ha1.cell (p := ⟨b2, o2 + k * 12 + 5, none⟩) hb2).trans q5
      have q6' := (ha1.cell (p := ⟨b2, o2 + k * 12 + 6, none⟩) hb2).trans q6
      have q7' := (ha1.cell (p := ⟨b2, o2 + k * 12 + 7, none⟩) hb2).trans q7
      have q8' := (ha1.cell (p := ⟨b2, o2 + k * 12 + 8, none⟩) hb2).trans q8
      have q9' := (ha1.cell (p := ⟨b2, o2 + k * 12 + 9, none⟩) hb2).trans q9
      have q10' := (ha1.cell (p := ⟨b2, o2 + k * 12 + 10, none⟩) hb2).trans q10
      have q11' := (ha1.cell (p := ⟨b2, o2 + k * 12 + 11, none⟩) hb2).trans q11
      have HC := Lib.hid (IH.out x y a1 a2 _ _ _ _ _ _ ((wr.alloc (.cells #[.int .u8 a1.k, .string a1.fr, .string a1.tu, .string a1.nm, .int .u8 a1.ex.top.k, .string a1.ex.top.rat, .string a1.ex.top.name, .int .i64 a1.ex.top.date, .slice A11 k11 c11, .int .i64 a1.date, .slice A21 k21 c21, .slice A31 k31 c31] 29)).alloc (.cells #[.int .u8 a2.k, .string a2.fr, .string a2.tu, .string a2.nm, .int .u8 a2.ex.top.k, .string a2.ex.top.rat, .string a2.ex.top.name, .int .i64 a2.ex.top.date, .slice A12 k12 c12, .int .i64 a2.date, .slice A22 k22 c22, .slice A32 k32 c32] 29)) (CV.below ha2 n hv1) (CV.below ha2 n hv2))
      have HN : Hid (R = (Z.coSame n x y && Z.all2 (Z.coSame n) (l1.drop (k + 1)) (l2.drop (k + 1)))) := Lib.hid (by rw [HI.out, HD.out])
      generalize Z.coSame n x y = d at *
      clear hv1 hv2 hv2' HI HD
      go_wp2_with fail
      refine HC.out.mono ?_
      rintro e W3 ⟨rfl, hb3⟩
      have hbx := hbr.trans ((ha2.trans (hb3.mono ha2.size)).mono hbr.size)
      clear HC hb3 ha1 ha2 BX BY p0 q0 p1 q1 p2 q2 p3 q3 p4 q4 p5 q5 p6 q6 p7 q7 p8 q8 p9 q9 p10 q10 p11 q11 r0 t0 q0' r1 t1 q1' r2 t2 q2' r3 t3 q3' r4 t4 q4' r5 t5 q5' r6 t6 q6' r7 t7 q7' r8 t8 q8' r9 t9 q9' r10 t10 q10' r11 t11 q11'
      cases d
      · have HF : Hid (R = false) := HN
        go_wp2_with fail
        go_ret
        exact ⟨ret_bool HF.out.symm, hbx⟩
      · have HT : Hid (R = Z.all2 (Z.coSame n) (l1.drop (k + 1)) (l2.drop (k + 1))) := HN
        clear HN
        go_wp2_with fail
        go_roundw
        case rel => first | exact ⟨k + 1, by omega, by go_num, HT, hbx⟩ | ((repeat apply Exists.intro); exact ⟨⟨k + 1, by omega, by go_num, HT, hbx⟩, rfl⟩)
        case measure => simp [intOf]; omega
    · obtain rfl : k = l1.length := by omega
      have HN : Hid (R = true) := Lib.hid (by rw [HI.out]; exact Z.all2_end HL.out)
      go_wp2_with fail
      go_ret
      exact ⟨ret_bool HN.out.symm, hbr⟩
set_option maxRecDepth 100000 in
set_option maxHeartbeats 8000000 in
theorem csame_any {m : Nat} : ∀ (n : Nat) (x y : Z.Co m n) (a b : Z.CN m) (u dv sv u' dv' sv' : Value) (w : World), CV w n x ⟨a, u, dv, sv⟩ → CV w n y ⟨b, u', dv', sv'⟩ → Calls Tryd.prog 24 #[.agg #[.int .u8 a.k, .string a.fr, .string a.tu, .string a.nm, .int .u8 a.ex.top.k, .string a.ex.top.rat, .string a.ex.top.name, .int .i64 a.ex.top.date, u, .int .i64 a.date, dv, sv], .agg #[.int .u8 b.k, .string b.fr, .string b.tu, .string b.nm, .int .u8 b.ex.top.k, .string b.ex.top.rat, .string b.ex.top.name, .int .i64 b.ex.top.date, u', .int .i64 b.date, dv', sv']] w fun e w' => e = .returned (.bool (Z.coSame n x y)) ∧ Below w.heap.size w w' := by
  intro n
  induction n with
  | zero => intro x; exact x.no
  | succ n ih =>
    intro x y a b u dv sv u' dv' sv' w hx hy
    have HK1 := Lib.hid hx.shape
    have HK2 := Lib.hid hy.shape
    obtain ⟨rfl, hX1, hD1, hS1⟩ := hx.open_
    obtain ⟨rfl, hX2, hD2, hS2⟩ := hy.open_
    obtain ⟨⟨Au, ku, cu, rfl⟩, _, _⟩ := HK1.out
    obtain ⟨⟨Bu, lu, eu, rfl⟩, _, _⟩ := HK2.out
    obtain ⟨Ad, cd, rfl, hdc1, hdm1⟩ := hD1.shape
    obtain ⟨Bd, ed, rfl, hdc2, hdm2⟩ := hD2.shape
    obtain ⟨A1, c1, rfl, hc1, hm1⟩ := hS1.shape
    obtain ⟨A2, c2, rfl, hc2, hm2⟩ := hS2.shape
    unfold maxLen at hm1 hm2 hdm1 hdm2
    have hb0 := (Below.refl _ w).alloc (Nat.le_refl w.heap.size) (.cells #[.int .u8 x.top.k, .string x.top.fr, .string x.top.tu, .string x.top.nm, .int .u8 x.top.ex.top.k, .string x.top.ex.top.rat, .string x.top.ex.top.name, .int .i64 x.top.ex.top.date, .slice Au ku cu, .int .i64 x.top.date, .slice Ad x.top.dates.length cd, .slice A1 x.sub.length c1] 29)
    have hb1 := hb0.alloc hb0.size (.cells #[.int .u8 y.top.k, .string y.top.fr, .string y.top.tu, .string y.top.nm, .int .u8 y.top.ex.top.k, .string y.top.ex.top.rat, .string y.top.ex.top.name, .int .i64 y.top.ex.top.date, .slice Bu lu eu, .int .i64 y.top.date, .slice Bd y.top.dates.length ed, .slice A2 y.sub.length c2] 29)
    have BX := (Blk.new w 29 #[.int .u8 x.top.k, .string x.top.fr, .string x.top.tu, .string x.top.nm, .int .u8 x.top.ex.top.k, .string x.top.ex.top.rat, .string x.top.ex.top.name, .int .i64 x.top.ex.top.date, .slice Au ku cu, .int .i64 x.top.date, .slice Ad x.top.dates.length cd, .slice A1 x.sub.length c1]).alloc (.cells #[.int .u8 y.top.k, .string y.top.fr, .string y.top.tu, .string y.top.nm, .int .u8 y.top.ex.top.k, .string y.top.ex.top.rat, .string y.top.ex.top.name, .int .i64 y.top.ex.top.date, .slice Bu lu eu, .int .i64 y.top.date, .slice Bd y.top.dates.length ed, .slice A2 y.sub.length c2] 29)
    have BY := Blk.new (w.alloc (.cells #[.int .u8 x.top.k, .string x.top.fr, .string x.top.tu, .string x.top.nm, .int .u8 x.top.ex.top.k, .string x.top.ex.top.rat, .string x.top.ex.top.name, .int .i64 x.top.ex.top.date, .slice Au ku cu, .int .i64 x.top.date, .slice Ad x.top.dates.length cd, .slice A1 x.sub.length c1] 29)) 29 #[.int .u8 y.top.k, .string y.top.fr, .string y.top.tu, .string y.top.nm, .int .u8 y.top.ex.top.k, .string y.top.ex.top.rat, .string y.top.ex.top.name, .int .i64 y.top.ex.top.date, .slice Bu lu eu, .int .i64 y.top.date, .slice Bd y.top.dates.length ed, .slice A2 y.sub.length c2]
    rw [World.size_alloc] at BY
    have c0_ := BX.cell 0
    have d0 := BY.cell 0
    have c1_ := BX.cell 1
    have d1 := BY.cell 1
    have c2_ := BX.cell 2
    have d2 := BY.cell 2
    have c3_ := BX.cell 3
    have d3 := BY.cell 3
    have c4_ := BX.cell 4
    have d4 := BY.cell 4
    have c5_ := BX.cell 5
    have d5 := BY.cell 5
    have c6_ := BX.cell 6
    have d6 := BY.cell 6
    have c7_ := BX.cell 7
    have d7 := BY.cell 7
    have c8_ := BX.cell 8
    have d8 := BY.cell 8
    have c9_ := BX.cell 9
    have d9 := BY.cell 9
    have c10_ := BX.cell 10
    have d10 := BY.cell 10
    have c11_ := BX.cell 11
    have d11 := BY.cell 11
    have HX1 := Lib.hid (XV.below hb1 (m + 1) hX1)
    have HX2 := Lib.hid (XV.below hb1 (m + 1) hX2)
    have HD1 := Lib.hid (SL.below hD1 hb1)
    have HD2 := Lib.hid (SL.below hD2 hb1)
    have HS1 := Lib.hid (CS.below hb1 hS1)
    have HS2 := Lib.hid (CS.below hb1 hS2)
    have HR : Hid (Z.coSame (n + 1) x y = (Z.topC x.top y.top && (Z.exSame (m + 1) x.top.ex y.top.ex && (Z.eqD x.top.dates y.top.dates && Z.all2 (Z.coSame n) x.sub y.sub)))) := Lib.hid rfl
    unfold Z.topC at HR
    have HE1 := Lib.hid (xsame_any (m + 1) x.top.ex y.top.ex x.top.ex.top y.top.ex.top (.slice Au ku cu) (.slice Bu lu eu) _ HX1.out HX2.out)
    have HE2 := Lib.hid (fun W (h : Below _ _ W) => equal_any _ _ x.top.dates y.top.dates W (SL.below HD1.out h) (SL.below HD2.out h))
    have HE3 := Lib.hid (fun W (h : Below _ _ W) => eqfc_any n ih _ _ x.sub y.sub W (CS.below h HS1.out) (CS.below h HS2.out))
    have h0 := Z.eqI x.top.k y.top.k
    have h1 := Z.eqS x.top.fr y.top.fr
    have h2 := Z.eqS x.top.tu y.top.tu
    have h3 := Z.eqS x.top.nm y.top.nm
    have h4 := Z.eqI x.top.date y.top.date
    generalize Z.coSame (n + 1) x y = R at *
    generalize Z.exSame (m + 1) x.top.ex y.top.ex = r1 at *
    generalize Z.eqD x.top.dates y.top.dates = r2 at *
    generalize Z.all2 (Z.coSame n) x.sub y.sub = r3 at *
    clear hx hy hS1 hS2 hX1 hX2 hD1 hD2 HK1 HK2 ih HX1 HX2 HD1 HD2 HS1 HS2
    generalize x.sub.length = n1 at *
    generalize y.sub.length = n2 at *
    generalize x.top = s at *
    generalize y.top = t at *
    generalize decide (s.k = t.k) = b0 at *
    generalize decide (s.fr = t.fr) = b1 at *
    generalize decide (s.tu = t.tu) = b2 at *
    generalize decide (s.nm = t.nm) = b3 at *
    generalize decide (s.date = t.date) = b4 at *
    cases b0
    · have HF : Hid (R = false) := Lib.hid (by rw [HR.out]; simp)
      clear BX BY
      go_enter Tryd.func24, Tryd.ntmps24
      go_wp2_with fail
      go_ret
      exact ⟨ret_bool HF.out.symm, hb1⟩
    cases b1
    · have HF : Hid (R = false) := Lib.hid (by rw [HR.out]; simp)
      clear BX BY
      go_enter Tryd.func24, Tryd.ntmps24
      go_wp2_with fail
      go_ret
      exact ⟨ret_bool HF.out.symm, hb1⟩
    cases b2
    · have HF : Hid (R = false) := Lib.hid (by rw [HR.out]; simp)
      clear BX BY
      go_enter Tryd.func24, Tryd.ntmps24
      go_wp2_with fail
      go_ret
      exact ⟨ret_bool HF.out.symm, hb1⟩
    cases b3
    · have HF : Hid (R = false) := Lib.hid (by rw [HR.out]; simp)
      clear BX BY
      go_enter Tryd.func24, Tryd.ntmps24
      go_wp2_with fail
      go_ret
      exact ⟨ret_bool HF.out.symm, hb1⟩
    cases b4
    · have HF : Hid (R = false) := Lib.hid (by rw [HR.out]; simp)
      clear BX BY
      go_enter Tryd.func24, Tryd.ntmps24
      go_wp2_with fail
      go_ret
      exact ⟨ret_bool HF.out.symm, hb1⟩
    have HF : Hid (R = (r1 && (r2 && r3))) := Lib.hid (by rw [HR.out]; simp)
    go_enter Tryd.func24, Tryd.ntmps24
    go_wp2_with fail
    refine HE1.out.mono ?_
    rintro e W3 ⟨rfl, hb3⟩
    have hbx := hb1.trans (hb3.mono hb1.size)
    have BX1 := BX.below hb3
    have BY1 := BY.below hb3
    clear c0_ d0 c1_ d1 c2_ d2 c3_ d3 c4_ d4 c5_ d5 c6_ d6 c7_ d7 c8_ d8 c9_ d9 c10_ d10 c11_ d11 BX BY
    have c0_ := BX1.cell 0
    have d0 := BY1.cell 0
    have c1_ := BX1.cell 1
    have d1 := BY1.cell 1
    have c2_ := BX1.cell 2
    have d2 := BY1.cell 2
    have c3_ := BX1.cell 3
    have d3 := BY1.cell 3
    have c4_ := BX1.cell 4
    have d4 := BY1.cell 4
    have c5_ := BX1.cell 5
    have d5 := BY1.cell 5
    have c6_ := BX1.cell 6
    have d6 := BY1.cell 6
    have c7_ := BX1.cell 7
    have d7 := BY1.cell 7
    have c8_ := BX1.cell 8
    have d8 := BY1.cell 8
    have c9_ := BX1.cell 9
    have d9 := BY1.cell 9
    have c10_ := BX1.cell 10
    have d10 := BY1.cell 10
    have c11_ := BX1.cell 11
    have d11 := BY1.cell 11
    cases r1
    · have HF1 : Hid (R = false) := HF
      go_wp2_with fail
      go_ret
      exact ⟨ret_bool HF1.out.symm, hbx⟩
    go_wp2_with fail
    refine (HE2.out W3 hb3).mono ?_
    rintro e W4 ⟨rfl, hb4⟩
    have hby := hbx.trans (hb4.mono hbx.size)
    have hb34 := hb3.trans (hb4.mono hb3.size)
    have BX2 := BX1.below hb4
    have BY2 := BY1.below hb4
    clear c0_ d0 c1_ d1 c2_ d2 c3_ d3 c4_ d4 c5_ d5 c6_ d6 c7_ d7 c8_ d8 c9_ d9 c10_ d10 c11_ d11 BX1 BY1
    have c0_ := BX2.cell 0
    have d0 := BY2.cell 0
    have c1_ := BX2.cell 1
    have d1 := BY2.cell 1
    have c2_ := BX2.cell 2
    have d2 := BY2.cell 2
    have c3_ := BX2.cell 3
    have d3 := BY2.cell 3
    have c4_ := BX2.cell 4
    have d4 := BY2.cell 4
    have c5_ := BX2.cell 5
    have d5 := BY2.cell 5
    have c6_ := BX2.cell 6
    have d6 := BY2.cell 6
    have c7_ := BX2.cell 7
    have d7 := BY2.cell 7
    have c8_ := BX2.cell 8
    have d8 := BY2.cell 8
    have c9_ := BX2.cell 9
    have d9 := BY2.cell 9
    have c10_ := BX2.cell 10
    have d10 := BY2.cell 10
    have c11_ := BX2.cell 11
    have d11 := BY2.cell 11
    cases r2
    · have HF1 : Hid (R = false) := HF
      go_wp2_with fail
      go_ret
      exact ⟨ret_bool HF1.out.symm, hby⟩
    go_wp2_with fail
    refine (HE3.out W4 hb34).mono ?_
    rintro e W5 ⟨rfl, hb5⟩
    have hbz := hby.trans (hb5.mono hby.size)
    have HF1 : Hid (R = r3) := HF
    go_wp2_with fail
    go_ret
    exact ⟨ret_bool HF1.out.symm, hbz⟩
end Go.Proofs.YtifafmomkpkgdaaDoor
