/- Walks: the reference's limits and comparison of curves, and the laws' own helpers. -/
import Derived.Test.YtpnojgaehafjdaaCvb
namespace Go.Proofs.Ytpnojgaehafjdaa
open Go.RowKit
namespace Z
def greatP (p : Pt) : Bool := decide (100 < p.f.size)
def greatC (c : Cu) : Bool := decide (120 < c.pts.length) || c.pts.any greatP
def bigR (s : ByteArray) : Bool := decide (100 < s.size)
def greatQ1 (q : Qt) : Bool := decide (50 < q.dates.length) || decide (50 < q.parts.length) || decide (100 < q.rate.size)
def greatQ0 (q : Qt) : Bool := greatQ1 q || q.parts.any bigR
def greatQ (l : List Qt) : Bool := decide (60 < l.length) || l.any greatQ0
theorem any_drop {α : Type} {f : α → Bool} {l : List α} {k : Nat} {d : α} (h : l[k]? = some d) : (l.drop k).any f = (f d || (l.drop (k + 1)).any f) := by
  obtain ⟨hlt, rfl⟩ := List.getElem?_eq_some_iff.1 h
  rw [List.drop_eq_getElem_cons hlt]
  rfl
theorem eqS (a b : ByteArray) : (a.toList == b.toList) = decide (a = b) := by
  rw [Bool.eq_iff_iff, beq_iff_eq, decide_eq_true_iff]
  exact ⟨fun h => ba_of (by rw [← Lib.toList_data, ← Lib.toList_data, h]), fun h => by rw [h]⟩
end Z
theorem greatc_csm {c : Z.Cu} (h : Z.greatC c = false) : c.pts.length ≤ 120 ∧ ∀ p ∈ c.pts, p.f.size ≤ 100 := by
  unfold Z.greatC at h
  rw [Bool.or_eq_false_iff, decide_eq_false_iff_not, List.any_eq_false] at h
  refine ⟨by omega, fun p hp => ?_⟩
  have := h.2 p hp
  unfold Z.greatP at this
  simpa using this
theorem greatq_qsm {l : List Z.Qt} (h : Z.greatQ l = false) : l.length ≤ 60 ∧ ∀ q ∈ l, QSm q := by
  unfold Z.greatQ at h
  rw [Bool.or_eq_false_iff, decide_eq_false_iff_not, List.any_eq_false] at h
  refine ⟨by omega, fun q hq => ?_⟩
  have := h.2 q hq
  unfold Z.greatQ0 Z.greatQ1 at this
  rw [Bool.not_eq_true, Bool.or_eq_false_iff, Bool.or_eq_false_iff, Bool.or_eq_false_iff, decide_eq_false_iff_not, decide_eq_false_iff_not, decide_eq_false_iff_not, List.any_eq_false] at this
  refine ⟨by omega, fun p hp => ?_⟩
  have h2 := this.2 p hp
  unfold Z.bigR at h2
  simp at h2
  omega
theorem is_any (r want : ByteArray) (e : Int) (w : World) :
    Calls Try.prog 17 #[.string r, .int .i64 e, .string want] w fun en w' => en = .returned (.bool (decide (e = 0 ∧ r = want))) ∧ w = w' := by
  have h1 := Z.eqS r want
  by_cases he : e = 0
  · subst he
    cases hd : decide (r = want)
    · rw [hd] at h1
      have h2 : decide ((0 : Int) = 0 ∧ r = want) = false := decide_eq_false (fun h => of_decide_eq_false hd h.2)
      rw [h2]
      clear hd h2
      go_enter Try.func17, Try.ntmps17
      go_wp2_with fail
      go_ret
      exact ⟨rfl, rfl⟩
    · rw [hd] at h1
      have h2 : decide ((0 : Int) = 0 ∧ r = want) = true := decide_eq_true ⟨rfl, of_decide_eq_true hd⟩
      rw [h2]
      clear hd h2
      go_enter Try.func17, Try.ntmps17
      go_wp2_with fail
      go_ret
      exact ⟨rfl, rfl⟩
  · have h2 : decide (e = 0 ∧ r = want) = false := decide_eq_false (fun h => he h.1)
    rw [h2]
    have h3 := ne_beq0 he
    clear he h2 h1
    go_enter Try.func17, Try.ntmps17
    go_wp2_with fail
    go_ret
    exact ⟨rfl, rfl⟩
set_option maxHeartbeats 2000000 in
theorem greatcu_any (c : Z.Cu) (v : Value) (w : World) (hSP : SP w v c.pts) :
    Calls Try.prog 13 #[.agg #[.int .i64 c.base, v]] w fun e w' => e = .returned (.bool (Z.greatC c)) ∧ Below w.heap.size w w' := by
  have HR : Hid (Z.greatC c = (decide (120 < c.pts.length) || (c.pts.drop 0).any Z.greatP)) := Lib.hid rfl
  generalize Z.greatC c = R at *
  obtain ⟨A, cp, rfl, hlc, hcm⟩ := hSP.shape
  unfold maxLen at hcm
  have hb0 := (Below.refl _ w).alloc (Nat.le_refl w.heap.size) (.cells #[.int .i64 c.base, .slice A c.pts.length cp] 27)
  have BC := Blk.new w 27 #[.int .i64 c.base, .slice A c.pts.length cp]
  have c1 := BC.cell 1
  have HS := Lib.hid (hSP.below hb0)
  by_cases hm : 120 < c.pts.length
  · rw [decide_eq_true hm] at HR
    have HR1 : Hid (R = true) := HR
    go_enter Try.func13, Try.ntmps13
    go_wp2_with fail
    go_ret
    exact ⟨ret_bool HR1.out.symm, hb0⟩
  rw [decide_eq_false hm] at HR
  have HR1 : Hid (R = (c.pts.drop 0).any Z.greatP) := HR
  clear HR
  go_enter Try.func13, Try.ntmps13
  go_wp2_with fail
  generalize (w.alloc (.cells #[.int .i64 c.base, .slice A c.pts.length cp] 27)) = W0 at *
  go_loop [3] (fun iv => ∃ k : Nat, k ≤ c.pts.length ∧ iv = .int .i64 k ∧ Hid (R = (c.pts.drop k).any Z.greatP)) (fun iv => c.pts.length - (intOf iv).toNat)
  case atStart => exact ⟨0, by omega, rfl, HR1⟩
  case round =>
    obtain ⟨k, hk, rfl, HI⟩ := hrel
    clear HR1
    by_cases hlt : k < c.pts.length
    · have hz : c.pts[k]? = some c.pts[k] := List.getElem?_eq_getElem hlt
      obtain ⟨b, o, rfl, hb, q0, q1⟩ := SP.cells HS.out hz
      have HD := Lib.hid (Z.any_drop (f := Z.greatP) hz)
      generalize c.pts[k] = p at *
      clear hz
      have hk0 : (0 : Int) ≤ (k : Int) := by omega
      by_cases hp : 100 < p.f.size
      · have HN : Hid (R = true) := Lib.hid (by rw [HI.out, HD.out, show Z.greatP p = true from decide_eq_true hp]; rfl)
        go_wp2_with fail
        go_ret
        exact ⟨ret_bool HN.out.symm, hb0⟩
      · have HN : Hid (R = (c.pts.drop (k + 1)).any Z.greatP) := Lib.hid (by rw [HI.out, HD.out, show Z.greatP p = false from decide_eq_false hp]; rfl)
        go_wp2_with fail
        go_round
        case rel => exact ⟨k + 1, by omega, by go_num, HN⟩
        case measure => simp [intOf]; omega
    · obtain rfl : k = c.pts.length := by omega
      have HN : Hid (R = false) := Lib.hid (by rw [HI.out, List.drop_length]; rfl)
      go_wp2_with fail
      go_ret
      exact ⟨ret_bool HN.out.symm, hb0⟩
set_option maxRecDepth 100000 in
set_option maxHeartbeats 4000000 in
theorem greatq_any (v : Value) (l : List Z.Qt) (w : World) (hQ : SQ w v l) :
    Calls Try.prog 10 #[v] w fun e w' => e = .returned (.bool (Z.greatQ l)) ∧ Below w.heap.size w w' := by
  have HR : Hid (Z.greatQ l = (decide (60 < l.length) || (l.drop 0).any Z.greatQ0)) := Lib.hid rfl
  generalize Z.greatQ l = R at *
  obtain ⟨A, cp, rfl, hlc, hcm⟩ := hQ.shape
  unfold maxLen at hcm
  have HQ := Lib.hid hQ
  clear hQ
  by_cases hm : 60 < l.length
  · rw [decide_eq_true hm] at HR
    have HR1 : Hid (R = true) := HR
    go_enter Try.func10, Try.ntmps10
    go_wp2_with fail
    go_ret
    exact ⟨ret_bool HR1.out.symm, Below.refl _ _⟩
  rw [decide_eq_false hm] at HR
  have HR1 : Hid (R = (l.drop 0).any Z.greatQ0) := HR
  clear HR
  go_enter Try.func10, Try.ntmps10
  go_wp2_with fail
  go_loop [3] (fun iv => ∃ k : Nat, k ≤ l.length ∧ iv = .int .i64 k ∧ Hid (R = (l.drop k).any Z.greatQ0)) (fun iv => l.length - (intOf iv).toNat)
  case atStart => exact ⟨0, by omega, rfl, HR1⟩
  case round =>
    obtain ⟨k, hk, rfl, HI⟩ := hrel
    clear HR1
    by_cases hlt : k < l.length
    · have hz : l[k]? = some l[k] := List.getElem?_eq_getElem hlt
      obtain ⟨b, o, r, rfl, hbl, q0, q1, q2, hqk⟩ := HQ.out.at_ hz
      have HD := Lib.hid (Z.any_drop (f := Z.greatQ0) hz)
      generalize l[k] = q at *
      clear hz
      obtain ⟨dv, pv, rate⟩ := r
      obtain ⟨A1, c1, e1, k1, k2⟩ := hqk.1.shape
      obtain ⟨A2, c2, e2, k3, k4⟩ := hqk.2.1.shape
      have e1 : dv = .slice A1 q.dates.length c1 := e1
      have e2 : pv = .slice A2 q.parts.length c2 := e2
      have e3 : rate = q.rate := hqk.2.2
      subst e1 e2 e3
      unfold maxLen at k2 k4
      have hk0 : (0 : Int) ≤ (k : Int) := by omega
      have hk1 : (k : Int) < (l.length : Int) := by omega
      by_cases hg : Z.greatQ1 q = true
      · have HN : Hid (R = true) := Lib.hid (by rw [HI.out, HD.out]; unfold Z.greatQ0; rw [hg]; rfl)
        unfold Z.greatQ1 at hg
        simp only [Bool.or_eq_true, decide_eq_true_eq] at hg
        by_cases g1 : 50 < q.dates.length
        · clear hg
          go_wp2_with fail
          go_ret
          exact ⟨ret_bool HN.out.symm, Below.refl _ _⟩
        · by_cases g2 : 50 < q.parts.length
          · clear hg
            go_wp2_with fail
            go_ret
            exact ⟨ret_bool HN.out.symm, Below.refl _ _⟩
          · have g3 : 100 < q.rate.size := by omega
            clear hg
            go_wp2_with fail
            go_ret
            exact ⟨ret_bool HN.out.symm, Below.refl _ _⟩
      · have hg0 : Z.greatQ1 q = false := by simpa using hg
        have HN : Hid (R = ((q.parts.drop 0).any Z.bigR || (l.drop (k + 1)).any Z.greatQ0)) := Lib.hid (by rw [HI.out, HD.out]; unfold Z.greatQ0; rw [hg0]; rfl)
        unfold Z.greatQ1 at hg0
        rw [Bool.or_eq_false_iff, Bool.or_eq_false_iff, decide_eq_false_iff_not, decide_eq_false_iff_not, decide_eq_false_iff_not] at hg0
        obtain ⟨⟨g1, g2⟩, g3⟩ := hg0
        clear hg
        have HP := Lib.hid hqk.2.1
        clear HI HD hqk
        go_wp2_with fail
        go_loop [4] (fun jv => ∃ j : Nat, j ≤ q.parts.length ∧ jv = .int .i64 j ∧ Hid (R = ((q.parts.drop j).any Z.bigR || (l.drop (k + 1)).any Z.greatQ0))) (fun jv => q.parts.length - (intOf jv).toNat)
        case atStart => exact ⟨0, by omega, rfl, HN⟩
        case round =>
          obtain ⟨j, hj, rfl, HJ⟩ := hrel
          clear HN
          by_cases hlt2 : j < q.parts.length
          · have hz : q.parts[j]? = some q.parts[j] := List.getElem?_eq_getElem hlt2
            obtain ⟨b2, o2, rfl, hb2, p0⟩ := HP.out.cell1 hz rfl
            have HD := Lib.hid (Z.any_drop (f := Z.bigR) hz)
            generalize q.parts[j] = p at *
            clear hz
            have hj0 : (0 : Int) ≤ (j : Int) := by omega
            by_cases hp : 100 < p.size
            · have HN : Hid (R = true) := Lib.hid (by rw [HJ.out, HD.out, show Z.bigR p = true from decide_eq_true hp]; rfl)
              go_wp2_with fail
              go_ret
              exact ⟨ret_bool HN.out.symm, Below.refl _ _⟩
            · have HN : Hid (R = ((q.parts.drop (j + 1)).any Z.bigR || (l.drop (k + 1)).any Z.greatQ0)) := Lib.hid (by rw [HJ.out, HD.out, show Z.bigR p = false from decide_eq_false hp]; rfl)
              go_wp2_with fail
              go_round
              case rel => exact ⟨j + 1, by omega, by go_num, HN⟩
              case measure => simp [intOf]; omega
          · obtain rfl : j = q.parts.length := by omega
            have HN : Hid (R = (l.drop (k + 1)).any Z.greatQ0) := Lib.hid (by rw [HJ.out, List.drop_length]; rfl)
            go_wp2_with fail
            go_round
            case rel => exact ⟨k + 1, by omega, by go_num, HN⟩
            case measure => simp [intOf]; omega
    · obtain rfl : k = l.length := by omega
      have HN : Hid (R = false) := Lib.hid (by rw [HI.out, List.drop_length]; rfl)
      go_wp2_with fail
      go_ret
      exact ⟨ret_bool HN.out.symm, Below.refl _ _⟩
theorem neq_point (d : Int) (f : ByteArray) (w : World) : (binOp .neq 37 (.agg #[.int .i64 d, .string f]) (.agg #[.int .i64 d, .string f])).run Try.prog w = .ok (.bool false) w := by
  rw [run_neq_struct]
  simp [go_sem]
attribute [local go_sem ↓] neq_point
set_option maxRecDepth 100000 in
set_option maxHeartbeats 4000000 in
theorem same_any (c : Z.Cu) (v1 v2 : Value) (w : World) (h1 : SP w v1 c.pts) (h2 : SP w v2 c.pts) :
    Calls Try.prog 12 #[.agg #[.int .i64 c.base, v1], .agg #[.int .i64 c.base, v2]] w fun e w' => e = .returned (.bool true) ∧ Below w.heap.size w w' := by
  obtain ⟨A1, c1, rfl, hl1, hm1⟩ := h1.shape
  obtain ⟨A2, c2, rfl, hl2, hm2⟩ := h2.shape
  unfold maxLen at hm1 hm2
  have hb0 := ((Below.refl _ w).alloc (Nat.le_refl w.heap.size) (.cells #[.int .i64 c.base, .slice A1 c.pts.length c1] 27)).alloc (by simp) (.cells #[.int .i64 c.base, .slice A2 c.pts.length c2] 27)
  have B1 := (Blk.new w 27 #[.int .i64 c.base, .slice A1 c.pts.length c1]).alloc (.cells #[.int .i64 c.base, .slice A2 c.pts.length c2] 27)
  have B2 := Blk.new (w.alloc (.cells #[.int .i64 c.base, .slice A1 c.pts.length c1] 27)) 27 #[.int .i64 c.base, .slice A2 c.pts.length c2]
  rw [World.size_alloc] at B2
  have H1 := Lib.hid (h1.below hb0)
  have H2 := Lib.hid (h2.below hb0)
  have s0 := B1.cell 0
  have s1 := B1.cell 1
  have t0 := B2.cell 0
  have t1 := B2.cell 1
  clear h1 h2
  go_enter Try.func12, Try.ntmps12
  go_wp2_with fail
  generalize ((w.alloc (.cells #[.int .i64 c.base, .slice A1 c.pts.length c1] 27)).alloc (.cells #[.int .i64 c.base, .slice A2 c.pts.length c2] 27)) = W0 at *
  go_loopw [5] (fun iv wr => ∃ k : Nat, k ≤ c.pts.length ∧ iv = .int .i64 k ∧ Below W0.heap.size W0 wr) (fun iv _ => c.pts.length - (intOf iv).toNat)
  case atStart => exact ⟨0, by omega, rfl, Below.refl _ _⟩
  case round =>
    obtain ⟨k, hk, rfl, hbr⟩ := hrel
    have s1 := (B1.below hbr).cell 1
    have t1 := (B2.below hbr).cell 1
    have B1r := B1.below hbr
    have B2r := B2.below hbr
    by_cases hlt : k < c.pts.length
    · have hz : c.pts[k]? = some c.pts[k] := List.getElem?_eq_getElem hlt
      obtain ⟨b, o, rfl, hb, q0, q1⟩ := SP.cells (H1.out.below hbr) hz
      obtain ⟨b2, o2, rfl, hb2, p0, p1⟩ := SP.cells (H2.out.below hbr) hz
      have hk0 : (0 : Int) ≤ (k : Int) := by omega
      have hk1 : (k : Int) < (c.pts.length : Int) := by omega
      clear hz
      generalize c.pts[k] = p at *
      go_upto_region 6 with fail
      have f0 : ∀ q : Ab wr, q.1.cell? ⟨b, o + k * 2, none⟩ = some (.int .i64 p.d) := fun q => (q.2.cell (p := ⟨b, o + k * 2, none⟩) hb).trans q0
      have f1 : ∀ q : Ab wr, q.1.cell? ⟨b, o + k * 2 + 1, none⟩ = some (.string p.f) := fun q => (q.2.cell (p := ⟨b, o + k * 2 + 1, none⟩) hb).trans q1
      have g0 : ∀ q : Ab wr, q.1.cell? ⟨b2, o2 + k * 2, none⟩ = some (.int .i64 p.d) := fun q => (q.2.cell (p := ⟨b2, o2 + k * 2, none⟩) hb2).trans p0
      have g1 : ∀ q : Ab wr, q.1.cell? ⟨b2, o2 + k * 2 + 1, none⟩ = some (.string p.f) := fun q => (q.2.cell (p := ⟨b2, o2 + k * 2 + 1, none⟩) hb2).trans p1
      have u1 : ∀ q : Ab wr, q.1.cell? ⟨w.heap.size, 1, none⟩ = some (.slice (some ⟨b, o, none⟩) c.pts.length c1) := fun q => (Ab.cells (x := q) B1r).cell 1
      have u2 : ∀ q : Ab wr, q.1.cell? ⟨w.heap.size + 1, 1, none⟩ = some (.slice (some ⟨b2, o2, none⟩) c.pts.length c2) := fun q => (Ab.cells (x := q) B2r).cell 1
      clear q0 q1 p0 p1
      refine wp_region_above (by kernel_rfl) (by kernel_rfl) ?_
      repeat (go_big_quiet_step (fail))
      refine wpQuiet_nil ?_
      rintro _ ⟨x, rfl⟩
      have hx := hbr.trans (x.2.mono hbr.size)
      go_wp2_with fail
      go_roundw
      case rel => exact ⟨k + 1, by omega, by go_num, hx⟩
      case measure => simp [intOf]; omega
    · obtain rfl : k = c.pts.length := by omega
      have hbf := hb0.trans (hbr.mono hb0.size)
      go_wp2_with fail
      go_ret
      exact ⟨rfl, hbf⟩
end Go.Proofs.Ytpnojgaehafjdaa
