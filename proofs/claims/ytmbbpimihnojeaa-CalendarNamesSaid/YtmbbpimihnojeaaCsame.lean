/- Walks: the reference's Same on calendars; calendars as arguments with the slice's room. -/
import Derived.Test.YtmbbpimihnojeaaCrefb
import Derived.Test.YtmbbpimihnojeaaCjoinr
import Derived.Test.YtmbbpimihnojeaaCframe
namespace Go.Proofs.Ytmbbpimihnojeaa
open Go.RowKit

theorem two_boxes (w : World) (wa wb : Int) (va vb : Value) : ∀ W, W = ((w.alloc (.cells #[.int .u8 wa, va] 24)).alloc (.cells #[.int .u8 wb, vb] 24)) →
    Below w.heap.size w W ∧ Blk W w.heap.size 24 #[.int .u8 wa, va] ∧ Blk W (w.heap.size + 1) 24 #[.int .u8 wb, vb] := by
  rintro W rfl
  have h1 := Blk.new w 24 #[.int .u8 wa, va]
  have h2 := Blk.new (w.alloc (.cells #[.int .u8 wa, va] 24)) 24 #[.int .u8 wb, vb]
  have b1 : Below (w.alloc (.cells #[.int .u8 wa, va] 24)).heap.size (w.alloc (.cells #[.int .u8 wa, va] 24)) ((w.alloc (.cells #[.int .u8 wa, va] 24)).alloc (.cells #[.int .u8 wb, vb] 24)) := (Below.refl _ _).alloc (Nat.le_refl _) _
  refine ⟨((Below.refl _ w).alloc (Nat.le_refl _) _).alloc (by simp) _, h1.below b1, ?_⟩
  have e : (w.alloc (.cells #[.int .u8 wa, va] 24)).heap.size = w.heap.size + 1 := by simp
  rw [e] at h2
  exact h2
theorem take_eq_step {ha hb : List Int} {k : Nat} {x : Int} (h : ha.take k = hb.take k) (h1 : ha[k]? = some x) (h2 : hb[k]? = some x) : ha.take (k + 1) = hb.take (k + 1) := by
  rw [List.take_add_one, List.take_add_one, h, h1, h2]
set_option maxRecDepth 100000 in
set_option maxHeartbeats 1000000 in
theorem rsame_any (wa wb : Int) (va vb : Value) (ha hb : List Int) (w : World) (sa : SI w va ha) (sb : SI w vb hb) :
    Calls Try.prog 24 #[.agg #[.int .u8 wa, va], .agg #[.int .u8 wb, vb]] w fun e w' => e = .returned (.bool (wa == wb && ha == hb)) ∧ Below w.heap.size w w' := by
  obtain ⟨A1, x1, rfl, hx1, hx2, HA⟩ := sa
  obtain ⟨A2, x2, rfl, hy1, hy2, HB⟩ := sb
  unfold maxLen at hx2 hy2
  obtain ⟨hb0, BA, BB⟩ := two_boxes w wa wb (.slice A1 ha.length x1) (.slice A2 hb.length x2) _ rfl
  have HB0 := Lib.hid hb0
  by_cases hw : wa = wb
  · by_cases hl : ha.length = hb.length
    · have hc : ∀ (i : Nat), i < ha.length → ∃ b o b2 o2 x y, A1 = some ⟨b, o, none⟩ ∧ A2 = some ⟨b2, o2, none⟩ ∧ ha[i]? = some x ∧ hb[i]? = some y ∧ ((w.alloc (.cells #[.int .u8 wa, .slice A1 ha.length x1] 24)).alloc (.cells #[.int .u8 wb, .slice A2 hb.length x2] 24)).cell? ⟨b, o + i, none⟩ = some (.int .i64 x) ∧ ((w.alloc (.cells #[.int .u8 wa, .slice A1 ha.length x1] 24)).alloc (.cells #[.int .u8 wb, .slice A2 hb.length x2] 24)).cell? ⟨b2, o2 + i, none⟩ = some (.int .i64 y) := by
        intro i hi
        obtain ⟨b, o, e1, l1, c1⟩ := HA (by omega)
        obtain ⟨b2, o2, e2, l2, c2⟩ := HB (by omega)
        have g1 := List.getElem?_eq_getElem hi
        have g2 := List.getElem?_eq_getElem (l := hb) (i := i) (by omega)
        exact ⟨b, o, b2, o2, _, _, e1, e2, g1, g2, (hb0.cell (p := ⟨b, o + i, none⟩) l1).trans (c1 i _ g1), (hb0.cell (p := ⟨b2, o2 + i, none⟩) l2).trans (c2 i _ g2)⟩
      clear HA HB
      have HL := Lib.hid hl
      have hln : ((ha.length : Int) != (hb.length : Int)) = false := by simp; omega
      clear hl
      subst hw
      have a0 := BA.cell 0
      have a1 := BA.cell 1
      have b0 := BB.cell 0
      have b1 := BB.cell 1
      clear BA BB hb0
      go_enter Try.func24, Try.ntmps24
      go_wp2_with fail
      clear hln
      generalize ((w.alloc (.cells #[.int .u8 wa, .slice A1 ha.length x1] 24)).alloc (.cells #[.int .u8 wa, .slice A2 hb.length x2] 24)) = W at *
      go_loopw [5] (fun iv wr => ∃ k q : Nat, k ≤ ha.length ∧ iv = .int .i64 k ∧ wr = W.drewN q ∧ Hid (ha.take k = hb.take k)) (fun iv _ => ha.length - (intOf iv).toNat)
      case atStart => exact ⟨0, 0, by omega, rfl, rfl, Lib.hid rfl⟩
      case round =>
        obtain ⟨k, q, hk, rfl, rfl, HK⟩ := hrel
        by_cases hlt : k < ha.length
        · obtain ⟨b, o, b2, o2, x, y, rfl, rfl, g1, g2, c1, c2⟩ := hc k hlt
          have HG := Lib.hid (And.intro g1 g2)
          have hkb : k < hb.length := by have := HL.out; omega
          clear g1 g2 hc
          by_cases hxy : x = y
          · subst hxy
            go_wp2_with fail
            go_quiet (fail)
            go_wp2_with fail
            go_roundw
            case rel => exact ⟨k + 1, _, by omega, by go_num, rfl, Lib.hid (take_eq_step HK.out HG.out.1 HG.out.2)⟩
            case measure => simp [intOf]; omega
          · have hne : (x != y) = true := by simpa using hxy
            have hF : (wa == wa && ha == hb) = false := by
              have : ha ≠ hb := fun e => hxy (by have := HG.out.1; rw [e, HG.out.2] at this; injection this with this; exact this.symm)
              simp [this]
            have HF := Lib.hid hF
            clear hF
            go_wp2_with fail
            go_quiet (fail)
            go_wp2_with fail
            go_ret
            exact ⟨ret_bool HF.out.symm, by first | exact below_drewN (below_drewN HB0.out _) _ | exact below_drewN HB0.out _⟩
        · obtain rfl : k = ha.length := by omega
          clear hc
          have hT : (wa == wa && ha == hb) = true := by
            have := HK.out
            rw [List.take_length, List.take_of_length_le (by rw [HL.out]; exact Nat.le_refl _)] at this
            simp [this]
          have HF := Lib.hid hT
          clear hT
          go_wp2_with fail
          go_ret
          exact ⟨ret_bool HF.out.symm, by first | exact below_drewN HB0.out _ | exact HB0.out⟩
    · have hF : (wa == wb && ha == hb) = false := by
        have : ha ≠ hb := fun e => hl (by rw [e])
        simp [this]
      have HF := Lib.hid hF
      have hln : ((ha.length : Int) != (hb.length : Int)) = true := by simp; omega
      clear hF HA HB
      subst hw
      have a0 := BA.cell 0
      have a1 := BA.cell 1
      have b0 := BB.cell 0
      have b1 := BB.cell 1
      clear BA BB hb0
      go_enter Try.func24, Try.ntmps24
      go_wp2_with fail
      go_ret
      exact ⟨ret_bool HF.out.symm, HB0.out⟩
  · have hF : (wa == wb && ha == hb) = false := by simp [hw]
    have HF := Lib.hid hF
    have hln : (wa != wb) = true := by simpa using hw
    clear hF HA HB
    have a0 := BA.cell 0
    have a1 := BA.cell 1
    have b0 := BB.cell 0
    have b1 := BB.cell 1
    clear BA BB hb0
    go_enter Try.func24, Try.ntmps24
    go_wp2_with fail
    go_ret
    exact ⟨ret_bool HF.out.symm, HB0.out⟩

open Go.ChangeShapes Go.WideShapes Go.ChangeAt Go.Joins
theorem si_open2 {H : Type} {enc : TypeId × Value → H} {W : World} {n : Nat} {v : Value} {y : DataW H × List MemPlace}
    (h : DataW.trod enc Try.prog W 0 (fun _ => true) true n 22 [v] = some y) : Nil0 v := by
  rcases open_ints Try.underlying22 Try.underlying3 cells_int h with ⟨hcs, _⟩ | ⟨a, len, cap, zs, hcs, _, hl, hm, hz, hx, hcell, _⟩
  · injection hcs with hcs _
    subst hcs
    intro n c e
    cases e; rfl
  · injection hcs with hcs _
    subst hcs
    intro n c e
    cases e
theorem cal_open2 {H : Type} {enc : TypeId × Value → H} {W : World} {r : Reach} {b0 : Nat} {v : Value} {d : DataW H} {p : List MemPlace} (hv : Value.okWide Try.prog W r b0 24 v)
    (h : DataW.Trod enc Try.prog W 0 (fun _ => true) true 24 v d p) : ∃ (wk : Int) (u : Value) (hs : List Int), v = .agg #[.int .u8 wk, u] ∧ 0 ≤ wk ∧ wk ≤ 255 ∧ SI W u hs ∧ Nil0 u := by
  obtain ⟨c0, c1, y0, y1, m, rfl, rfl, rfl, hy0, hy1⟩ := open_agg2 Try.underlying24 (by kernel_rfl) cells_cal hv h
  obtain ⟨a, e0, _, wa⟩ := DataW.trod_int Try.underlying5 hy0
  injection e0 with e0 _
  subst e0
  obtain ⟨hs, hsi⟩ := si_open hy1
  have := bounds_u8 wa
  exact ⟨a, c1, hs, rfl, this.1, this.2, hsi, si_open2 hy1⟩
end Go.Proofs.Ytmbbpimihnojeaa
