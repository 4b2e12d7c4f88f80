/- Walks: magnitudes: divide, long. -/
import Derived.Test.YtifafmomkpkgdaaDoorI4
namespace Go.Proofs.YtifafmomkpkgdaaDoor
open Go.RowKit

theorem scale_val (bt : Nat) (h : 0 < bt) : ((1000000000 : Int) / ((bt : Int) + 1)) % 4294967296 = ((1000000000 / (bt + 1) : Nat) : Int) := by
  have e : ((bt : Int) + 1) = ((bt + 1 : Nat) : Int) := by simp
  have h2 : 1000000000 / (bt + 1) < 1000000000 := Nat.div_lt_self (by omega) (by omega)
  have e2 : (1000000000 : Int) / ((bt + 1 : Nat) : Int) = ((1000000000 / (bt + 1) : Nat) : Int) := by simp
  rw [e, e2]
  generalize 1000000000 / (bt + 1) = q at *
  omega

theorem Ow.cast {q : IntKind} {e : TypeId} {w : World} {B : Nat} {v : Value} {ms ms' : List Nat} (h : Ow q e w B v ms) (hm : ms = ms') : Ow q e w B v ms' := by rw [← hm]; exact h

/-- What memory holds in the main loop: the dividend's digits, the divisor's, the quotient's, in three rows of the call's own. -/
structure DW (w wr : World) (gu gv gq L n M cu cv : Nat) (us vs qs : List Nat) : Prop where
  u : Ow .u32 103 wr w.heap.size (.slice (some ⟨gu, 0, none⟩) L cu) us
  v : Ow .u32 103 wr w.heap.size (.slice (some ⟨gv, 0, none⟩) n cv) vs
  q : Ow .u32 103 wr w.heap.size (.slice (some ⟨gq, 0, none⟩) M M) qs
  b : Below w.heap.size w wr
theorem DW.below {w wr wr' : World} {gu gv gq L n M cu cv : Nat} {us vs qs : List Nat} (h : DW w wr gu gv gq L n M cu cv us vs qs) (hb : Below wr.heap.size wr wr') : DW w wr' gu gv gq L n M cu cv us vs qs :=
  ⟨h.u.below hb, h.v.below hb, h.q.below hb, h.b.trans (hb.mono h.b.size)⟩
theorem Ow.other {q : IntKind} {e : TypeId} {w : World} {B g n c : Nat} {ms : List Nat} (h : Ow q e w B (.slice (some ⟨g, 0, none⟩) n c) ms) {p : Addr} (hne : g ≠ p.block) (y : Value) : Ow q e (w.setCell p y) B (.slice (some ⟨g, 0, none⟩) n c) ms :=
  ownsRow_setCell_other h (by simp [Value.ownBlock]; exact hne) y
theorem DW.setU {w wr : World} {gu gv gq L n M cu cv : Nat} {us vs qs : List Nat} (h : DW w wr gu gv gq L n M cu cv us vs qs) (h1 : gu < gv) (h2 : gv < gq) (h0 : w.heap.size ≤ gu) (hl : us.length = L) (j : Nat) (y : Int) (d : Nat) (hd : y = (d : Int)) :
    DW w (wr.setCell ⟨gu, j, none⟩ (.int .u32 y)) gu gv gq L n M cu cv (us.set j d) vs qs :=
  ⟨h.u.storedN hl j y d hd, h.v.other (by show gv ≠ gu; omega) _, h.q.other (by show gq ≠ gu; omega) _, h.b.setCell (p := ⟨gu, j, none⟩) h0 _⟩
theorem DW.setQ {w wr : World} {gu gv gq L n M cu cv : Nat} {us vs qs : List Nat} (h : DW w wr gu gv gq L n M cu cv us vs qs) (h1 : gu < gv) (h2 : gv < gq) (h0 : w.heap.size ≤ gu) (hl : qs.length = M) (j : Nat) (y : Int) (d : Nat) (hd : y = (d : Int)) :
    DW w (wr.setCell ⟨gq, j, none⟩ (.int .u32 y)) gu gv gq L n M cu cv us vs (qs.set j d) :=
  ⟨h.u.other (by show gu ≠ gq; omega) _, h.v.other (by show gv ≠ gq; omega) _, h.q.storedN hl j y d hd, h.b.setCell (p := ⟨gq, j, none⟩) (by show w.heap.size ≤ gq; omega) _⟩
theorem Ow.lt {q : IntKind} {e : TypeId} {w : World} {B g n c : Nat} {ms : List Nat} (h : Ow q e w B (.slice (some ⟨g, 0, none⟩) n c) ms) : g < w.heap.size := (World.ownsRow.lt h g rfl).2
theorem Ow.far {q : IntKind} {e : TypeId} {w : World} {B : Nat} {v : Value} {ms : List Nat} (h : Ow q e w B v ms) {p : Addr} (hp : p.block < B) (y : Value) : Ow q e (w.setCell p y) B v ms :=
  ownsRow_setCell_below h hp y
/-- The window as a slice. -/
theorem win_sn {w : World} {B gu L cu j n : Nat} {us : List Nat} (h : Ow .u32 103 w B (.slice (some ⟨gu, 0, none⟩) L cu) us) (hl : us.length = L) (hj : j + n + 1 ≤ L) (_hc : L ≤ cu) (hm : cu ≤ maxLen) :
    SN .u32 w (.slice (some ⟨gu, j, none⟩) (n + 1) (cu - j)) (Z.win us j n) := by
  have hw := Z.win_length (us := us) (j := j) (n := n) (by omega)
  obtain ⟨A, c, hv, _, _, hcell⟩ := h.sn
  simp only [Value.slice.injEq] at hv
  obtain ⟨b, o, hA, hlt, hcl⟩ := hcell (by omega)
  rw [hA] at hv
  simp only [Option.some.injEq, Addr.mk.injEq] at hv
  obtain ⟨⟨rfl, rfl, _⟩, _, _⟩ := hv
  refine ⟨_, cu - j, by rw [hw], by omega, by omega, fun _ => ⟨_, j, rfl, hlt, fun i d hd => ?_⟩⟩
  have hi : i < n + 1 := by have := (List.getElem?_eq_some_iff.1 hd).1; omega
  rw [Z.win_at _ _ _ _ (by omega)] at hd
  have := hcl (j + i) d hd
  rwa [Nat.zero_add] at this

theorem DW.cellU {w wr : World} {gu gv gq L n M cu cv : Nat} {us vs qs : List Nat} (h : DW w wr gu gv gq L n M cu cv us vs qs) (hl : us.length = L) (i : Nat) (hi : i < L) : wr.cell? ⟨gu, i, none⟩ = some (.int .u32 (Z.dAt us i : Int)) := h.u.cellN hl (Z.dAt_eq (by omega))
theorem DW.cellV {w wr : World} {gu gv gq L n M cu cv : Nat} {us vs qs : List Nat} (h : DW w wr gu gv gq L n M cu cv us vs qs) (hl : vs.length = n) (i : Nat) (hi : i < n) : wr.cell? ⟨gv, i, none⟩ = some (.int .u32 (Z.dAt vs i : Int)) := h.v.cellN hl (Z.dAt_eq (by omega))

theorem gs_lt_b (b t u v y z : Nat) (hb : 0 < b) : Z.gs b t u v y z < b := by
  have : Z.gs b t u v y z ≤ b - 1 := Nat.min_le_left _ _
  omega
theorem win_put1 {us us2 left : List Nat} {L j i : Nat} (hl : us2.length = L) (hj : j + i < L) (h : ∀ t, Z.dAt us2 t = if j ≤ t ∧ t < j + i then Z.dAt left (t - j) else Z.dAt us t) (hi : left.length ≤ i) (t : Nat) :
    Z.dAt (us2.set (j + i) 0) t = if j ≤ t ∧ t < j + (i + 1) then Z.dAt left (t - j) else Z.dAt us t := by
  rw [Z.dAt_set _ _ _ _ (by omega)]
  by_cases e : t = j + i
  · rw [if_pos e, if_pos (by omega), Z.dAt_none (by omega)]
  · rw [if_neg e, h t]
    by_cases h1 : j ≤ t ∧ t < j + i
    · rw [if_pos h1, if_pos (by omega)]
    · rw [if_neg h1, if_neg (by omega)]
theorem win_put2 {us us2 left : List Nat} {L j i x : Nat} (hl : us2.length = L) (hj : j + i < L) (h : ∀ t, Z.dAt us2 t = if j ≤ t ∧ t < j + i then Z.dAt left (t - j) else Z.dAt us t) (hx : Z.dAt left i = x) (t : Nat) :
    Z.dAt ((us2.set (j + i) 0).set (j + i) x) t = if j ≤ t ∧ t < j + (i + 1) then Z.dAt left (t - j) else Z.dAt us t := by
  rw [Z.dAt_set _ _ _ _ (by simp; omega)]
  by_cases e : t = j + i
  · rw [if_pos e, if_pos (by omega), e, Nat.add_sub_cancel_left, hx]
  · rw [if_neg e, Z.dAt_set _ _ _ _ (by omega), if_neg e, h t]
    by_cases h1 : j ≤ t ∧ t < j + i
    · rw [if_pos h1, if_pos (by omega)]
    · rw [if_neg h1, if_neg (by omega)]
theorem dg_of_len (l : List Nat) (h : l.length ≤ 100000000) (hb : ∀ d ∈ l, d < 1000000000) : (Z.dg 1000000000 (Z.ofDg 1000000000 l)).length ≤ 100000000 := by
  have := Z.dg_len_of_lt 1000000000 (by omega) _ _ (Z.ofDg_lt 1000000000 (by omega) l hb)
  omega
theorem ofDg_one (b d : Nat) : Z.ofDg b [d] = d := by simp [Z.ofDg]
theorem part_sn {e : TypeId} {w : World} {B : Nat} {v : Value} {vs : List Nat} {V G : Nat} (h : Ow .u32 e w B v (Z.dg 1000000000 (Z.ofDg 1000000000 vs * Z.ofDg 1000000000 (Z.dg 1000000000 (Z.ofDg 1000000000 [G]))))) (hv : Z.dg 1000000000 V = vs) : SN .u32 w v (Z.dg 1000000000 (V * G)) := by
  have h1 := h.sn
  rw [Z.ofDg_dg 1000000000 (by omega), ofDg_one, ← hv, Z.ofDg_dg 1000000000 (by omega)] at h1
  exact h1
theorem dg_one_len (G : Nat) (h : G < 1000000000) : (Z.dg 1000000000 (Z.ofDg 1000000000 [G])).length ≤ 100000000 := by
  rw [ofDg_one]
  have := Z.dg_len_of_lt 1000000000 (by omega) G 1 (by omega)
  omega

set_option maxRecDepth 100000 in
set_option maxHeartbeats 1600000 in
theorem divide_long (v u : Value) (xs ys : List Nat) (w : World) (hS : SN .u32 w v xs) (hT : SN .u32 w u ys) (hx : Z.Can 1000000000 xs) (hy : Z.Can 1000000000 ys)
    (hl : xs.length ≤ 10000000) (hl' : ys.length ≤ 10000000) (hn : 2 ≤ ys.length) (hge : Z.ofDg 1000000000 ys ≤ Z.ofDg 1000000000 xs) :
    Calls Tryd.prog 104 #[v, u] w (DivRet w (Z.ofDg 1000000000 xs / Z.ofDg 1000000000 ys) (Z.ofDg 1000000000 xs % Z.ofDg 1000000000 ys)) := by
  have C := compare_any v u 1000000000 (by omega) xs ys w hS hT hx hy (by omega) (by omega)
  have hcmp : 0 ≤ Z.cmp (Z.ofDg 1000000000 xs) (Z.ofDg 1000000000 ys) := by
    rcases Nat.eq_or_lt_of_le hge with h | h
    · rw [Z.cmp_eq h.symm]; omega
    · rw [Z.cmp_gt h]; omega
  generalize Z.cmp (Z.ofDg 1000000000 xs) (Z.ofDg 1000000000 ys) = cv at *
  have C' := Lib.hid C
  clear C
  obtain ⟨s1, s2, s3, s4, s5, s6⟩ := Z.scale_facts (b := 1000000000) (by omega) ys hy hn
  have hbt := Z.dAt_lt (b := 1000000000) (by omega) hy.1 (ys.length - 1)
  have hat : ys[ys.length - 1]? = some (Z.dAt ys (ys.length - 1)) := Z.dAt_eq (by omega)
  generalize Z.dAt ys (ys.length - 1) = bt at *
  obtain ⟨sc, hsc⟩ : ∃ sc, 1000000000 / (bt + 1) = sc := ⟨_, rfl⟩
  rw [hsc] at s2 s3 s4 s5
  have hlen : ys.length ≤ xs.length := by
    have := Z.dg_len_le 1000000000 (by omega) hge
    rwa [Z.dg_ofDg 1000000000 (by omega) xs hx, Z.dg_ofDg 1000000000 (by omega) ys hy] at this
  have HX := Lib.hid hx
  have HY := Lib.hid hy
  have HSC := Lib.hid hsc
  have H4 := Lib.hid s4
  have H5 := Lib.hid s5
  have H6 := Lib.hid s6
  have HGE := Lib.hid hge
  clear hx hy hsc s4 s5 s6 hge
  have hT' := hT
  obtain ⟨A, c, rfl, hc, hm, hcell⟩ := hS
  have hS : SN .u32 w (.slice A xs.length c) xs := ⟨A, c, rfl, hc, hm, hcell⟩
  clear hcell hc hm
  obtain ⟨A', c', rfl, hc', hm', hcell'⟩ := hT
  obtain ⟨g, o, rfl, hg, hcl⟩ := hcell' (by omega)
  have hr := hcl _ _ hat
  have hne : ((ys.length : Int) == 1) = false := by simp; omega
  clear hcl hcell' hat
  go_enter Tryd.func104, Tryd.ntmps104
  go_wp2_with fail
  refine C'.out.mono ?_
  rintro e w1 ⟨rfl, n, rfl⟩
  go_upto_region 6 with fail
  go_cut [8] (fun v wx => v = .int .u32 sc ∧ w.drewN n = wx)
  case first =>
    go_wp2_with fail
    go_meet
    exact ⟨ret_v (by rw [scale_val bt s1, HSC.out]), rfl⟩
  case rest =>
  obtain ⟨rfl, rfl⟩ := hcut
  go_wp2_with fail
  refine (times_any _ _ xs [sc] _ (hS.below (((below_of_drewN w n _)).alloc (Nat.le_refl _) _)) (sn_one _ _ _ rfl _) HX.out.1 (by simp; omega) (by omega) (by simp)).mono ?_
  rintro e w2 ⟨v2, rfl, hown2, hb2⟩
  have hv2 : Z.ofDg 1000000000 xs * Z.ofDg 1000000000 [sc] = Z.ofDg 1000000000 xs * sc := by rw [ofDg_one]
  rw [hv2] at hown2
  clear hv2
  have hb2' : Below w.heap.size w w2 := (((below_of_drewN w n _)).alloc (Nat.le_refl _) _).trans (hb2.mono (by simp))
  have hXS : Z.ofDg 1000000000 xs * sc < 1000000000 ^ (xs.length + 1) ∧ 0 < Z.ofDg 1000000000 xs * sc :=
    ⟨Z.scaled_lt (Z.ofDg_lt 1000000000 (by omega) xs HX.out.1) s3, Nat.mul_pos (Nat.lt_of_lt_of_le (Nat.lt_of_lt_of_le (Nat.pow_pos (by omega)) H6.out) HGE.out) s2⟩
  have hown2' : Ow .u32 103 w2 w.heap.size v2 (Z.dg 1000000000 (Z.ofDg 1000000000 xs * sc)) := hown2.mono (by simp)
  have HP := Lib.hid hXS
  clear hown2 hXS
  obtain ⟨gu, cu, rfl, hgu, hgu2, hcu, hcm⟩ := hown2'.form (by
    rcases Nat.eq_zero_or_pos (Z.dg 1000000000 (Z.ofDg 1000000000 xs * sc)).length with h | h
    · have := (Z.dg_eq_nil 1000000000 (by omega) _).1 (List.eq_nil_of_length_eq_zero h)
      have := HP.out.2
      omega
    · exact h)
  go_wp2_with fail
  go_loopw [10] (fun vv wr => ∃ (us : List Nat) (gu cu : Nat), vv = .slice (some ⟨gu, 0, none⟩) us.length cu ∧ us.length ≤ xs.length + 1 ∧ us.length ≤ cu ∧ cu ≤ maxLen ∧ w.heap.size ≤ gu ∧ gu < wr.heap.size ∧ Ow .u32 103 wr w.heap.size (.slice (some ⟨gu, 0, none⟩) us.length cu) us ∧ Below w.heap.size w wr ∧
      Hid (0 < us.length ∧ (∀ d ∈ us, d < 1000000000) ∧ Z.ofDg 1000000000 us = Z.ofDg 1000000000 xs * sc)) (fun vv _ => xs.length + 1 - lenOf vv)
  case atStart => exact ⟨_, gu, cu, rfl, Z.dg_len_of_lt 1000000000 (by omega) _ _ HP.out.1, hcu, hcm, hgu, hgu2, hown2', hb2', ⟨by
    rcases Nat.eq_zero_or_pos (Z.dg 1000000000 (Z.ofDg 1000000000 xs * sc)).length with h | h
    · have := (Z.dg_eq_nil 1000000000 (by omega) _).1 (List.eq_nil_of_length_eq_zero h)
      have := HP.out.2
      omega
    · exact h, Z.dg_lt 1000000000 (by omega) _, Z.ofDg_dg 1000000000 (by omega) _⟩⟩
  case round =>
    clear hown2' hb2 hb2' hgu hgu2 hcu hcm
    obtain ⟨us, gu, cu, rfl, hul, hcu, hcm, hgu, hgu2, hown, hb, HU⟩ := hrel
    by_cases hlt : us.length ≤ xs.length
    · go_wp2_with (at_builtin; refine app1 rfl _ _ _ rfl elem32 Tryd.underlying109 (by omega) wr w.heap.size (.slice (some ⟨gu, 0, none⟩) us.length cu) us 0 0 rfl rfl hown rfl (by omega) hb.size ?_; intro v3 w3 hown3 hb3 hs3)
      go_roundw
      case rel =>
        obtain ⟨gu', cu', rfl, h1, h2, h3, h4⟩ := hown3.form (by simp)
        refine ⟨us ++ [0], gu', cu', rfl, by simp; omega, h3, h4, h1, h2, hown3, hb.trans hb3, by simp, Z.mem_snoc HU.out.2.1 (by omega), by rw [Z.ofDg_snoc, HU.out.2.2]; omega⟩
      case measure =>
        obtain ⟨gu', cu', rfl, h1, h2, h3, h4⟩ := hown3.form (by simp)
        simp [lenOf]; omega
    · have hue : us.length = xs.length + 1 := by omega
      obtain ⟨M, hM⟩ : ∃ M, ys.length + M = xs.length + 1 := ⟨xs.length + 1 - ys.length, by omega⟩
      have hM1 : 1 ≤ M := by omega
      have hM2 : M ≤ 10000001 := by omega
      have hM3 : (ys.length : Int) + M ≤ (us.length : Int) := by omega
      have hM4 : (us.length : Int) ≤ (ys.length : Int) + M := by omega
      have HUE := Lib.hid hue
      have HM := Lib.hid hM
      clear hue hM hul
      go_wp2_with fail
      refine (times_any _ _ ys [sc] _ (hT'.below (hb.alloc hb.size _)) (sn_one _ _ _ rfl _) HY.out.1 (by simp; omega) (by omega) (by simp)).mono ?_
      rintro e w4 ⟨v4, rfl, hown4, hb4⟩
      have hv4 : Z.ofDg 1000000000 ys * Z.ofDg 1000000000 [sc] = Z.ofDg 1000000000 ys * sc := by rw [ofDg_one]
      rw [hv4] at hown4
      clear hv4
      obtain ⟨gv, cv, rfl, hgv, hgv2, hcv, hcvm⟩ := hown4.form (by rw [H4.out]; omega)
      have hguv : gu < gv := by simp at hgv; omega
      have hbw4 : Below w.heap.size w w4 := (hb.alloc hb.size _).trans (hb4.mono (by have := hb.size; simp; omega))
      have hu4 := (hown.below ((Below.refl _ _).alloc (Nat.le_refl _) _)).below hb4
      have hv4 : Ow .u32 103 w4 w.heap.size (.slice (some ⟨gv, 0, none⟩) ys.length cv) (Z.dg 1000000000 (Z.ofDg 1000000000 ys * sc)) := by
        have := hown4.mono (B' := w.heap.size) (by have := hb.size; simp; omega)
        rwa [H4.out] at this
      rw [H4.out]
      rw [H4.out] at hcv
      clear hown4 hown
      go_wp2_with (at_make; refine mkN rfl _ _ _ rfl elem32 Tryd.underlying109 (by omega) w4 w.heap.size _ _ M rfl rfl (by omega) (by omega) (by omega) hbw4.size ?_; intro w5 hq5 hb5 hs5)
      have hDW : DW w w5 gu gv w4.heap.size us.length ys.length M cu cv us (Z.dg 1000000000 (Z.ofDg 1000000000 ys * sc)) (List.replicate M 0) :=
        ⟨hu4.below hb5, hv4.below hb5, hq5, hbw4.trans (hb5.mono hbw4.size)⟩
      have hinv : Z.DInv 1000000000 us.length ys.length (Z.ofDg 1000000000 ys * sc) (Z.ofDg 1000000000 xs * sc) M us (List.replicate M 0) :=
        Z.DInv.start (by omega) (by rw [HM.out, HUE.out]) rfl HU.out.2.1 HU.out.2.2 (Z.start_lt (Z.ofDg_lt 1000000000 (by omega) xs HX.out.1) s2 H6.out (by omega) HM.out)
      have HI0 := Lib.hid hinv
      clear hinv hu4 hv4 hq5 hb4 hb5 hbw4 hs5 HUE
      have hgq : gv < w4.heap.size := hgv2
      clear hgv2 hgv
      generalize w4.heap.size = gq at *
      generalize us.length = L at *
      obtain ⟨vs, hvs⟩ : ∃ vs, Z.dg 1000000000 (Z.ofDg 1000000000 ys * sc) = vs := ⟨_, rfl⟩
      rw [hvs] at hDW H4
      have HVS := Lib.hid hvs
      clear hvs
      go_loopw [12] (fun jv wr => ∃ (J : Nat) (us' qs' : List Nat), J ≤ M ∧ jv = .int .i64 ((J : Int) - 1) ∧ DW w wr gu gv gq L ys.length M cu cv us' vs qs' ∧
        Hid (Z.DInv 1000000000 L ys.length (Z.ofDg 1000000000 ys * sc) (Z.ofDg 1000000000 xs * sc) J us' qs')) (fun jv _ => (intOf jv + 1).toNat)
      case atStart => exact ⟨M, us, _, Nat.le_refl _, ret_v (by omega), hDW, HI0⟩
      case round =>
        clear hDW HI0
        obtain ⟨J, us', qs', hJ, rfl, hD, HI⟩ := hrel
        obtain ⟨wo, rfl⟩ : ∃ wo : World, wo = wr := ⟨_, rfl⟩
        by_cases hJ0 : 0 < J
        · obtain ⟨j, rfl⟩ : ∃ j, J = j + 1 := ⟨J - 1, by omega⟩
          have hjn : j + ys.length + 1 ≤ L := by omega
          have vtop : 0 < Z.dAt vs (ys.length - 1) := by
            have h1 := Z.top_pos (b := 1000000000) (l := vs) (by rw [← HVS.out]; exact Z.can_dg _ (by omega) _) (by rw [H4.out]; omega)
            rwa [H4.out] at h1
          have hgs := Z.DInv.guess (vs := vs) (by omega) hn H4.out (by rw [← HVS.out]; exact Z.dg_lt _ (by omega) _) vtop (by rw [← HVS.out]; exact Z.ofDg_dg _ (by omega) _) HI.out hjn
          have ub := HI.out.2.1
          have vb : ∀ d ∈ vs, d < 1000000000 := by rw [← HVS.out]; exact Z.dg_lt _ (by omega) _
          have b1 := Z.dAt_lt (b := 1000000000) (by omega) ub (j + ys.length)
          have b2 := Z.dAt_lt (b := 1000000000) (by omega) ub (j + ys.length - 1)
          have b3 := Z.dAt_lt (b := 1000000000) (by omega) ub (j + ys.length - 2)
          have b4 := Z.dAt_lt (b := 1000000000) (by omega) vb (ys.length - 1)
          have b5 := Z.dAt_lt (b := 1000000000) (by omega) vb (ys.length - 2)
          have r1 := hD.cellU HI.out.1 (j + ys.length) (by omega)
          have r2 := hD.cellU HI.out.1 (j + ys.length - 1) (by omega)
          have r3 := hD.cellU HI.out.1 (j + ys.length - 2) (by omega)
          have r4 := hD.cellV H4.out (ys.length - 1) (by omega)
          have r5 := hD.cellV H4.out (ys.length - 2) (by omega)
          have hG1 : Z.gs 1000000000 (Z.dAt us' (j + ys.length)) (Z.dAt us' (j + ys.length - 1)) (Z.dAt us' (j + ys.length - 2)) (Z.dAt vs (ys.length - 1)) (Z.dAt vs (ys.length - 2)) < 1000000000 := by
            exact gs_lt_b _ _ _ _ _ _ (by omega)
          have CG : ∀ W : World, Calls Tryd.prog 122 #[.int .u64 (Z.dAt us' (j + ys.length)), .int .u64 (Z.dAt us' (j + ys.length - 1)), .int .u64 (Z.dAt us' (j + ys.length - 2)), .int .u64 (Z.dAt vs (ys.length - 1)), .int .u64 (Z.dAt vs (ys.length - 2))] W (GuessRet W (Z.gs 1000000000 (Z.dAt us' (j + ys.length)) (Z.dAt us' (j + ys.length - 1)) (Z.dAt us' (j + ys.length - 2)) (Z.dAt vs (ys.length - 1)) (Z.dAt vs (ys.length - 2)))) := fun W => guess_any _ _ _ _ _ W hgs.1 b2 b3 vtop b4 b5
          obtain ⟨hg0, hg1, hg2⟩ := hgs
          generalize Z.gs 1000000000 (Z.dAt us' (j + ys.length)) (Z.dAt us' (j + ys.length - 1)) (Z.dAt us' (j + ys.length - 2)) (Z.dAt vs (ys.length - 1)) (Z.dAt vs (ys.length - 2)) = G at *
          generalize Z.dAt us' (j + ys.length) = d1 at *
          generalize Z.dAt us' (j + ys.length - 1) = d2 at *
          generalize Z.dAt us' (j + ys.length - 2) = d3 at *
          generalize Z.dAt vs (ys.length - 1) = d4 at *
          generalize Z.dAt vs (ys.length - 2) = d5 at *
          have HG1 := Lib.hid hg1
          have HG2 := Lib.hid hg2
          have HCG := Lib.hid CG
          have VB := Lib.hid vb
          clear CG hg1 hg2 hg0 vtop ub vb
          have hji : ((j + 1 : Nat) : Int) - 1 = (j : Int) := by omega
          have hj1 : (j : Int) + (ys.length : Int) + 1 ≤ (L : Int) := by omega
          have hj0 : (0 : Int) ≤ (j : Int) := by omega
          have hn2 : (2 : Int) ≤ (ys.length : Int) := by omega
          rw [hji]
          clear hji
          go_wp2_with fail
          go_quiet ((go_at_call 122; exact Calls.quiet_of (HCG.out _)))
          clear r1 r2 r3 r4 r5
          go_wp2_with fail
          refine (trim_sn _ [G] _ (sn_one _ _ _ rfl _) (by simp; omega) (by simp)).mono ?_
          rintro e w6 ⟨v6, rfl, hs6, rfl⟩
          have hD6 : DW w ((wo.drewN nq).alloc (.cells #[.int .u32 (G : Int)] 103)) gu gv gq L ys.length M cu cv us' vs qs' := hD.below ((below_of_drewN wo nq _).alloc (Nat.le_refl _) _)
          go_wp2_with fail
          refine (times_any _ _ vs _ _ hD6.v.sn hs6 VB.out (Z.dg_lt _ (by omega) _) (by rw [H4.out]; omega) (dg_one_len G (by omega))).mono ?_
          rintro e w7 ⟨v7, rfl, hown7, hb7⟩
          have hD7 := hD6.below hb7
          have HP7 : Hid (SN .u32 w7 v7 (Z.dg 1000000000 (Z.ofDg 1000000000 ys * sc * G))) := part_sn hown7 HVS.out
          clear hown7 hs6 hD6 hb7 hD
          have hcuL : L ≤ cu := hcu
          have hwl := Z.win_length (us := us') (j := j) (n := ys.length) (by rw [HI.out.1]; omega)
          have HWL := Lib.hid hwl
          clear hwl
          have hVn : Hid (Z.ofDg 1000000000 ys * sc < 1000000000 ^ ys.length) := H5.out
          have hVp : 0 < Z.ofDg 1000000000 ys * sc := Nat.mul_pos (Nat.lt_of_lt_of_le (Nat.pow_pos (by omega)) H6.out) s2
          have HVp := Lib.hid hVp
          clear hVp
          obtain ⟨W, hW⟩ : ∃ W, Z.ofDg 1000000000 (Z.win us' j ys.length) = W := ⟨_, rfl⟩
          obtain ⟨V, hV⟩ : ∃ V, Z.ofDg 1000000000 ys * sc = V := ⟨_, rfl⟩
          obtain ⟨T, hT⟩ : ∃ T, Z.ofDg 1000000000 xs * sc = T := ⟨_, rfl⟩
          rw [hV] at HVp hVn HI HP7 HG1 HG2 HVS
          rw [hT] at HI
          rw [hW] at HG1 HG2
          have HW := Lib.hid hW
          have HV := Lib.hid hV
          have HTT := Lib.hid hT
          clear hW hV hT
          have hXl : Hid (W / V < 1000000000) := by
            have h1 := Z.DInv.win_small (by omega) hn hVn.out HI.out
            rw [HW.out] at h1
            unfold Hid
            rw [Nat.div_lt_iff_lt_mul HVp.out, Nat.mul_comm]
            exact h1
          have hVl : Hid ((Z.dg 1000000000 W).length ≤ 100000000 ∧ (Z.dg 1000000000 (V * G)).length ≤ 100000000) := by
            have h1 := Z.ofDg_lt 1000000000 (by omega) _ (Z.win_lt HI.out.2.1 j ys.length)
            rw [HW.out, HWL.out] at h1
            have h2 := Z.dg_len_of_lt 1000000000 (by omega) _ _ h1
            have h3 := Z.dg_len_of_lt 1000000000 (by omega) _ _ (Z.scaled_lt hVn.out hG1)
            exact ⟨by omega, by omega⟩
          go_upto_region 18 with fail
          go_cut [131] (fun bv wx => bv = .bool (decide (W < V * G)) ∧ DW w wx gu gv gq L ys.length M cu cv us' vs qs' ∧ SN .u32 wx v7 (Z.dg 1000000000 (V * G)))
          case first =>
            go_wp2_with fail
            rw [show j + ys.length + 1 - j = ys.length + 1 from by omega]
            refine (trim_sn _ (Z.win us' j ys.length) _ (win_sn hD7.u HI.out.1 hjn hcuL hcm) (Z.win_lt HI.out.2.1 _ _) (by rw [HWL.out]; omega)).mono ?_
            rintro e w8 ⟨v8, rfl, hs8, rfl⟩
            rw [HW.out] at hs8
            have HS8 := Lib.hid hs8
            clear hs8
            go_wp2_with fail
            have C8 := compare_any v8 v7 1000000000 (by omega) _ _ w7 HS8.out HP7.out (Z.can_dg _ (by omega) _) (Z.can_dg _ (by omega) _) (by have := hVl.out.1; omega) (by have := hVl.out.2; omega)
            rw [Z.ofDg_dg _ (by omega), Z.ofDg_dg _ (by omega)] at C8
            by_cases hlow : W < V * G
            · rw [Z.cmp_lt hlow] at C8
              refine C8.mono ?_
              rintro e w9 ⟨rfl, n9, rfl⟩
              clear C8
              go_wp2_with fail
              go_meet
              exact ⟨by simp [hlow], hD7.below (below_of_drewN _ _ _), HP7.out⟩
            · have hcv : 0 ≤ Z.cmp W (V * G) := by
                rcases Nat.eq_or_lt_of_le (Nat.le_of_not_lt hlow) with h | h
                · rw [Z.cmp_eq h.symm]; omega
                · rw [Z.cmp_gt h]; omega
              generalize Z.cmp W (V * G) = cx at *
              refine C8.mono ?_
              rintro e w9 ⟨rfl, n9, rfl⟩
              clear C8
              go_wp2_with fail
              go_meet
              exact ⟨by simp [hlow]; assumption, hD7.below (below_of_drewN _ _ _), HP7.out⟩
          case rest =>
          clear hD7 HP7
          obtain ⟨rfl, hD8, hs8⟩ := hcut
          have HS8 := Lib.hid hs8
          clear hs8
          go_upto_if 131 with fail
          go_cut [13, 14] (fun gvv pv wx => ∃ q : Nat, gvv = .int .u64 q ∧ q < 1000000000 ∧ DW w wx gu gv gq L ys.length M cu cv us' vs qs' ∧ SN .u32 wx pv (Z.dg 1000000000 (V * q)) ∧ Hid (q = W / V))
          case first =>
            by_cases hlow : W < V * G
            · have hG0 : 1 ≤ G := by
                rcases Nat.eq_zero_or_pos G with h | h
                · rw [h] at hlow; simp at hlow
                · exact h
              have hqe : G - 1 = W / V := by
                have h1 := HG2.out
                have h2 : W / V < G := by
                  rw [Nat.div_lt_iff_lt_mul HVp.out, Nat.mul_comm]; exact hlow
                omega
              have hdec : decide (W < V * G) = true := by simp [hlow]
              have HQE := Lib.hid hqe
              rw [hdec]
              clear hqe hlow hdec
              go_wp2_with fail
              refine (trim_sn _ [G - 1] _ (sn_one _ _ _ (by omega) _) (by simp; omega) (by simp)).mono ?_
              rintro e w10 ⟨v10, rfl, hs10, rfl⟩
              have hD10 := hD8.below ((Below.refl wc.heap.size wc).alloc (Nat.le_refl _) (.cells #[.int .u32 ((G : Int) - 1)] 103))
              go_wp2_with fail
              refine (times_any _ _ vs _ _ hD10.v.sn hs10 VB.out (Z.dg_lt _ (by omega) _) (by rw [H4.out]; omega) (dg_one_len (G - 1) (by omega))).mono ?_
              rintro e w11 ⟨v11, rfl, hown11, hb11⟩
              go_wp2_with fail
              go_meet
              exact ⟨G - 1, ret_v (by omega), by omega, hD10.below hb11, part_sn hown11 HVS.out, HQE.out⟩
            · have hqe : G = W / V := by
                have h1 := HG1.out
                have h2 : G ≤ W / V := by
                  rw [Nat.le_div_iff_mul_le HVp.out, Nat.mul_comm]; omega
                omega
              have hdec : decide (W < V * G) = false := by simp [hlow]
              have HQE := Lib.hid hqe
              rw [hdec]
              clear hqe hlow hdec
              go_wp2_with fail
              go_meet
              exact ⟨G, rfl, hG1, hD8, HS8.out, HQE.out⟩
          case rest =>
            clear hD8 HS8 HG1 HG2 HCG
            obtain ⟨q, rfl, hq, hD9, hs9, HQ⟩ := hcut
            have HS9 := Lib.hid hs9
            clear hs9
            go_wp2_with fail
            rw [show j + ys.length + 1 - j = ys.length + 1 from by omega]
            refine (trim_sn _ (Z.win us' j ys.length) _ (win_sn hD9.u HI.out.1 hjn hcuL hcm) (Z.win_lt HI.out.2.1 _ _) (by rw [HWL.out]; omega)).mono ?_
            rintro e w12 ⟨v12, rfl, hs12, rfl⟩
            rw [HW.out] at hs12
            have HS12 := Lib.hid hs12
            clear hs12
            go_wp2_with fail
            have hle : V * q ≤ W := by rw [HQ.out]; exact Nat.mul_div_le W V
            have C12 := minus_any v12 u14 _ _ _ HS12.out HS9.out (Z.can_dg 1000000000 (by omega) W) (Z.can_dg 1000000000 (by omega) (V * q)) hVl.out.1 (by rw [Z.ofDg_dg _ (by omega), Z.ofDg_dg _ (by omega)]; exact hle)
            rw [Z.ofDg_dg _ (by omega), Z.ofDg_dg _ (by omega)] at C12
            have hmod : W - V * q = W % V := by
              have := Nat.div_add_mod W V
              rw [HQ.out]; omega
            rw [hmod] at C12
            refine C12.mono ?_
            rintro e w13 ⟨v13, rfl, hown13, hb13⟩
            clear C12 hmod hle
            have hD13 := hD9.below hb13
            obtain ⟨left, hleft⟩ : ∃ l, l = Z.dg 1000000000 (W % V) := ⟨_, rfl⟩
            rw [← hleft] at hown13
            have hleftb : ∀ d ∈ left, d < 1000000000 := by rw [hleft]; exact Z.dg_lt _ (by omega) _
            have HLEFT := Lib.hid hleft
            have HLB := Lib.hid hleftb
            clear hleft hleftb
            have hguc : gu < wc.heap.size := hD9.u.lt
            have hqsl : Hid (qs'.length = M) := by have h1 := HI.out.2.2.1; unfold Hid; omega
            obtain ⟨Al, cl, rfl, hlc, hlm, _⟩ := hown13.sn
            clear hb13 hD9
            go_wp2_with fail
            go_loopw [152] (fun iv wr => ∃ (i : Nat) (us2 : List Nat), i ≤ ys.length + 1 ∧ iv = .int .i64 i ∧ DW w wr gu gv gq L ys.length M cu cv us2 vs qs' ∧ Ow .u32 103 wr wc.heap.size (.slice Al left.length cl) left ∧
              Hid (us2.length = L ∧ (∀ d ∈ us2, d < 1000000000) ∧ ∀ t, Z.dAt us2 t = if j ≤ t ∧ t < j + i then Z.dAt left (t - j) else Z.dAt us' t)) (fun iv _ => ys.length + 1 - (intOf iv).toNat)
            case atStart => exact ⟨0, us', by omega, rfl, hD13, hown13, HI.out.1, HI.out.2.1, fun t => by rw [if_neg (by omega)]⟩
            case round =>
              clear hD13 hown13
              obtain ⟨i, us2, hi, rfl, hD14, hown14, HU2⟩ := hrel
              by_cases hin : i < ys.length + 1
              · have r1 := hD14.cellU HU2.out.1 (j + i) (by omega)
                have r2 : wr.frozen? ⟨gu, j + i, none⟩ = false := hD14.u.freeN HU2.out.1 _
                generalize hda : Z.dAt us2 (j + i) = da at *
                have hinI : (i : Int) < (ys.length : Int) + 1 := by omega
                by_cases hil : i < left.length
                · obtain ⟨gl, cl', hvl, hgl, _, _, _⟩ := hown14.form (by omega)
                  simp only [Value.slice.injEq, true_and] at hvl
                  obtain ⟨rfl, rfl⟩ := hvl
                  have hne1 : ¬ gl = gu := by omega
                  have r3 : wr.cell? ⟨gl, i, none⟩ = some (.int .u32 (Z.dAt left i : Int)) := hown14.cell (Z.dAt_eq hil)
                  have hx1 : Z.dAt left i < 1000000000 := Z.dAt_lt (by omega) HLB.out i
                  generalize hdx : Z.dAt left i = x at *
                  have HDX := Lib.hid hdx
                  clear hdx hda
                  go_wp2_with fail
                  go_roundw
                  case rel =>
                    refine ⟨i + 1, (us2.set (j + i) 0).set (j + i) x, by omega, by go_num, (hD14.setU hguv hgq hgu HU2.out.1 (j + i) 0 0 rfl).setU hguv hgq hgu (by rw [List.length_set]; exact HU2.out.1) (j + i) x x rfl, (hown14.far (by show gu < _; omega) _).far (by show gu < _; omega) _, by rw [List.length_set, List.length_set]; exact HU2.out.1, Z.set_lt (Z.set_lt HU2.out.2.1 (by omega)) hx1, fun t => ?_⟩
                    exact win_put2 HU2.out.1 (by omega) HU2.out.2.2 HDX.out t
                  case measure => simp [intOf]; omega
                · clear hda
                  go_wp2_with fail
                  go_roundw
                  case rel =>
                    refine ⟨i + 1, us2.set (j + i) 0, by omega, by go_num, hD14.setU hguv hgq hgu HU2.out.1 (j + i) 0 0 rfl, hown14.far (by show gu < _; omega) _, by rw [List.length_set]; exact HU2.out.1, Z.set_lt HU2.out.2.1 (by omega), fun t => ?_⟩
                    exact win_put1 HU2.out.1 (by omega) HU2.out.2.2 (by omega) t
                  case measure => simp [intOf]; omega
              · obtain rfl : i = ys.length + 1 := by omega
                obtain ⟨y, hy⟩ : ∃ y, qs'[j]? = some y := ⟨_, List.getElem?_eq_getElem (by rw [hqsl.out]; omega)⟩
                have r1 : wr.cell? ⟨gq, j, none⟩ = some (.int .u32 (y : Int)) := hD14.q.cellN hqsl.out hy
                have r2 : wr.frozen? ⟨gq, j, none⟩ = false := hD14.q.freeN hqsl.out _
                have hjM : (j : Int) < (M : Int) := by omega
                clear hy
                go_wp2_with fail
                go_roundw
                case rel =>
                  refine ⟨j, us2, qs'.set j q, by omega, rfl, hD14.setQ hguv hgq hgu hqsl.out j q q rfl, ?_⟩
                  rw [HV.out, HTT.out]
                  have hst := Z.DInv.step (us' := us2) (left := left) (by omega) hn hVn.out HVp.out HI.out hjn (by rw [HW.out]; exact HLEFT.out) HU2.out.1 HU2.out.2.1 (fun t => by have h := HU2.out.2.2 t; rwa [← Nat.add_assoc] at h)
                  rw [HW.out, ← HQ.out] at hst
                  exact hst
                case measure => simp [intOf]
        · obtain rfl : J = 0 := by omega
          have hqsl : Hid (qs'.length = M) := by have h1 := HI.out.2.2.1; unfold Hid; omega
          have hul : us'.length = L := HI.out.1
          go_wp2_with fail
          have hTu := trim_sn _ us' wo hD.u.sn HI.out.2.1 (by rw [HI.out.1]; omega)
          refine hTu.mono ?_
          rintro e w6 ⟨v6, rfl, hs6, rfl⟩
          go_wp2_with fail
          refine (short_any v6 _ sc _ hs6 (Z.dg_lt _ (by omega) _) (dg_of_len us' (by omega) HI.out.2.1) s2 s3).mono ?_
          rintro e w7 ⟨v7, rfl, hown7, hb7⟩
          go_wp2_with fail
          refine (trim_own _ qs' _ w.heap.size (hD.below hb7).q HI.out.2.2.2.1 (by rw [hqsl.out]; omega)).mono ?_
          rintro e w8 ⟨v8, rfl, hown8, rfl⟩
          go_wp2_with fail
          go_ret2
          have hdn := Z.DInv.done s2 HI.out
          refine ⟨v8, v7, rfl, ?_, ?_, (hD.b).trans (hb7.mono hD.b.size)⟩
          · rw [← hdn.1]; exact hown8.sn
          · have h1 := hown7.sn
            rw [Z.ofDg_dg _ (by omega), hdn.2] at h1
            exact h1
end Go.Proofs.YtifafmomkpkgdaaDoor
