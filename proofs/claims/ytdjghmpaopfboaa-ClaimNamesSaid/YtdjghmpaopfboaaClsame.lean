/- Walks: the reference's SameList (of equal lists), Long, Great. -/
import Derived.Test.YtdjghmpaopfboaaClown
import Derived.Test.YtdjghmpaopfboaaAbv
import Derived.WalkKit
namespace Go.Proofs.Ytdjghmpaopfboaa
open Go.RowKit
theorem neq_claim (n r e d : Int) (f t c a : ByteArray) (w : World) :
    (binOp .neq 38 (.agg #[.int .i64 n, .int .i64 r, .int .i64 e, .int .i64 d, .string f, .string t, .string c, .string a]) (.agg #[.int .i64 n, .int .i64 r, .int .i64 e, .int .i64 d, .string f, .string t, .string c, .string a])).run Try.prog w = .ok (.bool false) w := by
  rw [run_neq_struct]
  simp [go_sem]
attribute [local go_sem ↓] neq_claim
set_option maxRecDepth 100000 in
theorem rsame_claims (v1 v2 : Value) (l : List Z.Cl) (w : World) (h1 : SC w v1 l) (h2 : SC w v2 l) :
    Calls Try.prog 15 #[v1, v2] w fun e w' => e = .returned (.bool true) ∧ Below w.heap.size w w' := by
  have H1 := Lib.hid h1
  have H2 := Lib.hid h2
  obtain ⟨A1, c1, rfl, hl1, hm1, _⟩ := h1
  obtain ⟨A2, c2, rfl, hl2, hm2, _⟩ := h2
  unfold maxLen at hm1 hm2
  go_enter Try.func15, Try.ntmps15
  go_wp2_with fail
  go_loopw [5] (fun iv wr => ∃ k : Nat, k ≤ l.length ∧ iv = .int .i64 k ∧ Below w.heap.size w wr) (fun iv _ => l.length - (intOf iv).toNat)
  case atStart => exact ⟨0, by omega, rfl, Below.refl _ _⟩
  case round =>
    obtain ⟨k, hk, rfl, hbr⟩ := hrel
    by_cases hlt : k < l.length
    · have hz : l[k]? = some l[k] := List.getElem?_eq_getElem hlt
      obtain ⟨b, o, rfl, hb1, hcj1⟩ := (H1.out.below hbr).at_ (by omega)
      obtain ⟨b2, o2, rfl, hb2, hcj2⟩ := (H2.out.below hbr).at_ (by omega)
      have q1 := cc_of (hcj1 k _ hz)
      have q2 := cc_of (hcj2 k _ hz)
      have hk0 : (0 : Int) ≤ (k : Int) := by omega
      have hk1 : (k : Int) < (l.length : Int) := by omega
      clear hcj1 hcj2 hz
      generalize l[k] = x at *
      go_upto_region 6 with fail
      have f10 : ∀ q : Ab wr, q.1.cell? ⟨b, o + k * 8, none⟩ = some (.int .i64 x.n) := fun q => (q1.below q.2 hb1).1
      have f11 : ∀ q : Ab wr, q.1.cell? ⟨b, o + k * 8 + 1, none⟩ = some (.int .i64 x.r) := fun q => (q1.below q.2 hb1).2.1
      have f12 : ∀ q : Ab wr, q.1.cell? ⟨b, o + k * 8 + 2, none⟩ = some (.int .i64 x.e) := fun q => (q1.below q.2 hb1).2.2.1
      have f13 : ∀ q : Ab wr, q.1.cell? ⟨b, o + k * 8 + 3, none⟩ = some (.int .i64 x.fl.d) := fun q => (q1.below q.2 hb1).2.2.2.1
      have f14 : ∀ q : Ab wr, q.1.cell? ⟨b, o + k * 8 + 4, none⟩ = some (.string x.fl.f) := fun q => (q1.below q.2 hb1).2.2.2.2.1
      have f15 : ∀ q : Ab wr, q.1.cell? ⟨b, o + k * 8 + 5, none⟩ = some (.string x.fl.t) := fun q => (q1.below q.2 hb1).2.2.2.2.2.1
      have f16 : ∀ q : Ab wr, q.1.cell? ⟨b, o + k * 8 + 6, none⟩ = some (.string x.fl.c) := fun q => (q1.below q.2 hb1).2.2.2.2.2.2.1
      have f17 : ∀ q : Ab wr, q.1.cell? ⟨b, o + k * 8 + 7, none⟩ = some (.string x.fl.a) := fun q => (q1.below q.2 hb1).2.2.2.2.2.2.2
      have f20 : ∀ q : Ab wr, q.1.cell? ⟨b2, o2 + k * 8, none⟩ = some (.int .i64 x.n) := fun q => (q2.below q.2 hb2).1
      have f21 : ∀ q : Ab wr, q.1.cell? ⟨b2, o2 + k * 8 + 1, none⟩ = some (.int .i64 x.r) := fun q => (q2.below q.2 hb2).2.1
      have f22 : ∀ q : Ab wr, q.1.cell? ⟨b2, o2 + k * 8 + 2, none⟩ = some (.int .i64 x.e) := fun q => (q2.below q.2 hb2).2.2.1
      have f23 : ∀ q : Ab wr, q.1.cell? ⟨b2, o2 + k * 8 + 3, none⟩ = some (.int .i64 x.fl.d) := fun q => (q2.below q.2 hb2).2.2.2.1
      have f24 : ∀ q : Ab wr, q.1.cell? ⟨b2, o2 + k * 8 + 4, none⟩ = some (.string x.fl.f) := fun q => (q2.below q.2 hb2).2.2.2.2.1
      have f25 : ∀ q : Ab wr, q.1.cell? ⟨b2, o2 + k * 8 + 5, none⟩ = some (.string x.fl.t) := fun q => (q2.below q.2 hb2).2.2.2.2.2.1
      have f26 : ∀ q : Ab wr, q.1.cell? ⟨b2, o2 + k * 8 + 6, none⟩ = some (.string x.fl.c) := fun q => (q2.below q.2 hb2).2.2.2.2.2.2.1
      have f27 : ∀ q : Ab wr, q.1.cell? ⟨b2, o2 + k * 8 + 7, none⟩ = some (.string x.fl.a) := fun q => (q2.below q.2 hb2).2.2.2.2.2.2.2
      clear q1 q2
      refine wp_region_above (by kernel_rfl) (by kernel_rfl) ?_
      repeat (go_big_quiet_step (fail))
      refine wpQuiet_nil ?_
      rintro _ ⟨q', rfl⟩
      go_wp2_with fail
      go_roundw
      case rel => exact ⟨k + 1, by omega, by go_num, hbr.trans (Below.mono q'.2 hbr.size)⟩
      case measure => simp [intOf]; omega
    · obtain rfl : k = l.length := by omega
      go_wp2_with fail
      go_ret
      exact ⟨rfl, hbr⟩
namespace Z
def longB (f : Fl) : Bool := decide (1000 < f.f.size) || decide (1000 < f.t.size) || decide (1000 < f.c.size) || decide (1000 < f.a.size)
def greatB (l : List Cl) : Bool := decide (100 < l.length) || l.any fun x => longB x.fl
theorem longB_no {f : Fl} (h : longB f = false) : f.f.size ≤ 1000 ∧ f.t.size ≤ 1000 ∧ f.c.size ≤ 1000 ∧ f.a.size ≤ 1000 := by
  unfold longB at h
  simp only [Bool.or_eq_false_iff, decide_eq_false_iff_not] at h
  omega
theorem great_no {l : List Cl} (h : greatB l = false) : l.length ≤ 100 ∧ ∀ x ∈ l, x.fl.f.size ≤ 1000 ∧ x.fl.t.size ≤ 1000 ∧ x.fl.c.size ≤ 1000 ∧ x.fl.a.size ≤ 1000 := by
  unfold greatB at h
  rw [Bool.or_eq_false_iff, decide_eq_false_iff_not, List.any_eq_false] at h
  exact ⟨by omega, fun x hx => longB_no (by simpa using h.2 x hx)⟩
theorem any_yes {l : List Cl} {k : Nat} {x : Cl} (h : l[k]? = some x) (e : longB x.fl = true) : greatB l = true := by
  unfold greatB
  rw [Bool.or_eq_true, List.any_eq_true]
  exact .inr ⟨x, List.mem_of_getElem? h, e⟩
theorem any_step {l : List Cl} {k : Nat} {x : Cl} (h : l[k]? = some x) (h0 : ((l.take k).any fun x => longB x.fl) = false) (e : longB x.fl = false) : ((l.take (k + 1)).any fun x => longB x.fl) = false := by
  obtain ⟨hlt, rfl⟩ := List.getElem?_eq_some_iff.1 h
  rw [List.take_succ_eq_append_getElem hlt, List.any_append, h0]
  simp [e]
end Z
theorem long_any (f : Z.Fl) (w : World) : Calls Try.prog 30 #[.agg #[.int .i64 f.d, .string f.f, .string f.t, .string f.c, .string f.a]] w fun e w' => e = .returned (.bool (Z.longB f)) ∧ Below w.heap.size w w' := by
  have B := Blk.new w 36 #[.int .i64 f.d, .string f.f, .string f.t, .string f.c, .string f.a]
  have hb := (Below.refl _ w).alloc (Nat.le_refl w.heap.size) (.cells #[.int .i64 f.d, .string f.f, .string f.t, .string f.c, .string f.a] 36)
  have b1 := B.cell 1
  have b2 := B.cell 2
  have b3 := B.cell 3
  have b4 := B.cell 4
  go_enter Try.func30, Try.ntmps30
  go_wp2_with fail
  all_goals
    go_ret
    refine ⟨ret_bool ?_, hb⟩
    rw [Bool.eq_iff_iff]
    simp [Z.longB]
    try omega
set_option maxRecDepth 100000 in
theorem great_any (v : Value) (l : List Z.Cl) (w : World) (hS : SC w v l) :
    Calls Try.prog 11 #[.agg #[v]] w fun e w' => e = .returned (.bool (Z.greatB l)) ∧ Below w.heap.size w w' := by
  have hb0 := (Below.refl _ w).alloc (Nat.le_refl w.heap.size) (.cells #[v] 24)
  have BL := Blk.new w 24 #[v]
  have hl0 := BL.cell 0
  have HS := Lib.hid hS
  obtain ⟨A, c, rfl, hlc, hcm, _⟩ := hS
  unfold maxLen at hcm
  by_cases hl : 100 < l.length
  · go_enter Try.func11, Try.ntmps11
    go_wp2_with fail
    go_ret
    exact ⟨ret_bool (by unfold Z.greatB; rw [decide_eq_true hl]; rfl), hb0⟩
  · go_enter Try.func11, Try.ntmps11
    go_wp2_with fail
    generalize (w.alloc (.cells #[.slice A l.length c] 24)) = W0 at *
    go_loopw [3] (fun iv wr => ∃ k : Nat, k ≤ l.length ∧ iv = .int .i64 k ∧ Hid (((l.take k).any fun x => Z.longB x.fl) = false) ∧ Below W0.heap.size W0 wr) (fun iv _ => l.length - (intOf iv).toNat)
    case atStart => exact ⟨0, by omega, rfl, Lib.hid rfl, Below.refl _ _⟩
    case round =>
      obtain ⟨k, hk, rfl, HK, hbr⟩ := hrel
      have hl1 := (BL.below hbr).cell 0
      by_cases hlt : k < l.length
      · have hz : l[k]? = some l[k] := List.getElem?_eq_getElem hlt
        obtain ⟨b, o, rfl, hbl, hcj⟩ := (HS.out.below (hb0.trans (hbr.mono hb0.size))).at_ (by omega)
        obtain ⟨c0, c1, c2, c3, c4, c5, c6, c7⟩ := cc_of (hcj k _ hz)
        have LG := Lib.hid (fun W : World => long_any l[k].fl W)
        have HT := Lib.hid (Z.any_yes hz)
        have HF := Lib.hid (Z.any_step hz HK.out)
        clear hcj hz
        generalize l[k] = x at *
        cases hlg : Z.longB x.fl
        · rw [hlg] at LG
          have HF' := Lib.hid (HF.out hlg)
          clear HF HT hlg
          go_wp2_with fail
          refine (LG.out _).mono ?_
          rintro e w1 ⟨rfl, hb1⟩
          go_wp2_with fail
          go_roundw
          case rel => exact ⟨k + 1, by omega, by go_num, HF', hbr.trans (hb1.mono hbr.size)⟩
          case measure => simp [intOf]; omega
        · rw [hlg] at LG
          have HT' := Lib.hid (HT.out hlg)
          clear HF HT hlg
          go_wp2_with fail
          refine (LG.out _).mono ?_
          rintro e w1 ⟨rfl, hb1⟩
          go_wp2_with fail
          go_ret
          exact ⟨ret_bool HT'.out.symm, hb0.trans ((hbr.trans (hb1.mono hbr.size)).mono hb0.size)⟩
      · obtain rfl : k = l.length := by omega
        have hK := HK.out
        rw [List.take_length] at hK
        have HK' : Hid (Z.greatB l = false) := Lib.hid (by unfold Z.greatB; rw [decide_eq_false hl, hK]; rfl)
        clear hK
        go_wp2_with fail
        go_ret
        exact ⟨ret_bool HK'.out.symm, hb0.trans (hbr.mono hb0.size)⟩
end Go.Proofs.Ytdjghmpaopfboaa
