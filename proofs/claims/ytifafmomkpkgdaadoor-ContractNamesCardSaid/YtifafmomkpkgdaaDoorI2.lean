/- I2: Iread Ireadn Isum -/
import Derived.Test.YtifafmomkpkgdaaDoorI1
import Derived.Test.YtifafmomkpkgdaaDoorZi
import Derived.Maps.AppendAt
import Derived.RegionIn
import Derived.Deep.RegionHeld3
import Derived.Deep.AppendLies
/- Walks: integer.read. -/

namespace Go.Proofs.YtifafmomkpkgdaaDoor
open Go.RowKit Go.Shelf
attribute [local go_sem] Oper.semAt_some

def NumSt (w : World) (z : Int) (e : Ending) (w' : World) : Prop := ∃ v, e = .returned (.agg #[.bool (decide (z < 0)), v]) ∧ Ow .u32 103 w' w.heap.size v (Z.dg 1000000000 z.natAbs) ∧ Below w.heap.size w w'
/-- A group's value. -/
def gval (x : Grp) : Nat := Z.natOf x.1.data.toList
theorem Z.natOf_lt {l : List UInt8} (h : ∀ c ∈ l, isDig c = true) : natOf l < 10 ^ l.length := by
  have : ∀ r : List UInt8, (∀ c ∈ r, isDig c = true) → natOf r.reverse < 10 ^ r.length := by
    intro r
    induction r with
    | nil => intro _; simp [natOf]
    | cons c r ih =>
      intro h
      have h1 := ih (fun c hc => h c (List.mem_cons_of_mem _ hc))
      have h2 := h c (List.mem_cons_self ..)
      have h3 : dval c ≤ 9 := by unfold isDig at h2; unfold dval; simp at h2; omega
      rw [List.reverse_cons, natOf_snoc, List.length_cons, Nat.pow_succ]
      omega
  have h2 := this l.reverse (fun c hc => h c (List.mem_reverse.1 hc))
  rwa [List.reverse_reverse, List.length_reverse] at h2
theorem grp_all (x : Grp) : ∀ c ∈ x.1.data.toList, Z.isDig c = true := by
  intro c hc
  obtain ⟨i, hi, rfl⟩ := List.mem_iff_getElem.1 hc
  have h := x.2.2 i (by rw [Lib.size_eq]; exact hi)
  simp only [Array.getElem_toList]
  exact h
theorem gval_lt (x : Grp) : gval x < 1000000000 := by
  have h := Z.natOf_lt (grp_all x)
  have h2 : x.1.data.toList.length ≤ 9 := by rw [← Lib.size_eq]; exact x.2.1
  have h3 : 10 ^ x.1.data.toList.length ≤ 10 ^ 9 := Nat.pow_le_pow_right (by omega) h2
  have h4 : (10 : Nat) ^ 9 = 1000000000 := by decide
  unfold gval
  omega
theorem take_lt (x : Grp) (k : Nat) (hk : k ≤ 8) : Z.natOf (x.1.data.toList.take k) ≤ 99999999 := by
  have h := Z.natOf_lt (l := x.1.data.toList.take k) (fun c hc => grp_all x c (List.mem_of_mem_take hc))
  have h2 : (x.1.data.toList.take k).length ≤ 8 := by rw [List.length_take]; omega
  have h3 : 10 ^ (x.1.data.toList.take k).length ≤ 10 ^ 8 := Nat.pow_le_pow_right (by omega) h2
  have h4 : (10 : Nat) ^ 8 = 100000000 := by decide
  omega
theorem take_snoc (x : Grp) (k : Nat) (hk : k < x.1.size) : Z.natOf (x.1.data.toList.take (k + 1)) = 10 * Z.natOf (x.1.data.toList.take k) + (x.1[k].toNat - 48) := by
  have hl : k < x.1.data.toList.length := by rw [← Lib.size_eq]; exact hk
  rw [List.take_succ_eq_append_getElem hl, Z.natOf_snoc]
  rfl

theorem Blk.other {W : World} {B C j : Nat} {t : TypeId} {cs : Array Value} (h : Blk W B t cs) (hne : B ≠ C) (v : Value) : Blk (W.setCell ⟨C, j, none⟩ v) B t cs :=
  (Below.heap_setCell _ _ _ B (fun e => hne e)).trans h
theorem Same.of_blk {W W' : World} {B : Nat} {t : TypeId} {cs : Array Value} (h : Blk W B t cs) (h' : Blk W' B t cs) : Same (· = B) W W' := fun k hk => by subst hk; exact h'.trans h.symm
/-- The groups of a string's digits. -/
theorem groups_of (t : ByteArray) (hd : ∀ c ∈ t.data.toList, Z.isDig c = true) : ∃ f : Nat → Grp, (∀ k : Nat, 9 * k < t.size → (f k).1 = t.extract (t.size - 9 * k - 9) (t.size - 9 * k)) ∧
    ∀ k : Nat, 9 * k < t.size → gval (f k) = Z.natOf (Z.grp t.data.toList k) := by
  have hlist : ∀ k : Nat, (t.extract (t.size - 9 * k - 9) (t.size - 9 * k)).data.toList = Z.grp t.data.toList k := by
    intro k
    rw [Lib.extract_data]
    unfold Z.grp
    rw [← Lib.size_eq, List.drop_take]
  have hok : ∀ k : Nat, (t.extract (t.size - 9 * k - 9) (t.size - 9 * k)).size ≤ 9 ∧ ∀ j, (h : j < (t.extract (t.size - 9 * k - 9) (t.size - 9 * k)).size) → Z.isDig (t.extract (t.size - 9 * k - 9) (t.size - 9 * k))[j] = true := by
    intro k
    refine ⟨by rw [ByteArray.size_extract]; omega, fun j hj => ?_⟩
    refine hd _ ?_
    have h1 : (t.extract (t.size - 9 * k - 9) (t.size - 9 * k))[j] ∈ (t.extract (t.size - 9 * k - 9) (t.size - 9 * k)).data.toList := by
      rw [Array.mem_toList_iff]
      exact Array.getElem_mem _
    rw [hlist k] at h1
    unfold Z.grp at h1
    exact List.mem_of_mem_take (List.mem_of_mem_drop h1)
  refine ⟨fun k => ⟨_, hok k⟩, fun k _ => rfl, fun k _ => ?_⟩
  show Z.natOf (t.extract (t.size - 9 * k - 9) (t.size - 9 * k)).data.toList = _
  rw [hlist k]
theorem upto_map (t : List UInt8) (f : Nat → Grp) (n : Nat) (h : ∀ k : Nat, 9 * k < n → gval (f k) = Z.natOf (Z.grp t k)) (K : Nat) (hK : K ≤ (n + 8) / 9) : (upto f K).map gval = Z.grps t K := by
  induction K with
  | zero => rfl
  | succ K ih =>
    rw [upto_succ, List.map_append, ih (by omega), Z.grps_succ, List.map_cons, List.map_nil, h K (by omega)]
theorem grps_lt (t : List UInt8) (hd : ∀ c ∈ t, Z.isDig c = true) (K : Nat) : ∀ d ∈ Z.grps t K, d < 1000000000 := by
  intro d h
  unfold Z.grps at h
  rw [List.mem_map] at h
  obtain ⟨j, _, rfl⟩ := h
  have h1 : ∀ c ∈ Z.grp t j, Z.isDig c = true := fun c hc => hd c (List.mem_of_mem_take (List.mem_of_mem_drop hc))
  have h2 := Z.natOf_lt h1
  have h3 : (Z.grp t j).length ≤ 9 := by unfold Z.grp; rw [List.length_drop, List.length_take]; omega
  have h4 : 10 ^ (Z.grp t j).length ≤ 10 ^ 9 := Nat.pow_le_pow_right (by omega) h3
  have h5 : (10 : Nat) ^ 9 = 1000000000 := by decide
  omega

set_option maxRecDepth 100000 in
set_option maxHeartbeats 2000000 in
theorem read_pos (s : ByteArray) (w : World) (hc : Z.canon s.data.toList = true) (hl : s.size ≤ 1100) (h0 : 0 < s.size) (hn : ((s[0].toNat : Int) == 45) = false) :
    Calls Tryd.prog 117 #[.string s] w (NumSt w (Z.ival s.data.toList)) := by
  have hneg : Z.isNeg s.data.toList = false := by rw [Z.neg_of s h0, hn]
  have hm := Z.mags_pos hneg
  have hparts := Z.canon_parts hc
  obtain ⟨t, ht⟩ : ∃ t : ByteArray, t = s := ⟨_, rfl⟩
  have hm : Z.mags s.data.toList = t.data.toList := by rw [ht]; exact hm
  have hd : ∀ c ∈ t.data.toList, Z.isDig c = true := by rw [← hm]; exact List.all_eq_true.1 hparts.all
  have ht0 : t.size ≤ 1100 := by rw [ht]; omega
  obtain ⟨f, hfv, hfg⟩ := groups_of t hd
  have hval : (Z.ival s.data.toList).natAbs = Z.natOf t.data.toList := by rw [Z.natAbs_ival, hm]
  have hsgn : decide (Z.ival s.data.toList < 0) = false := by
    rw [decide_eq_false_iff_not]
    unfold Z.ival
    rw [hneg]
    simp only [Bool.false_eq_true, if_false]
    omega
  have HV := Lib.hid hval
  have HS := Lib.hid hsgn
  have HD := Lib.hid hd
  have HF := Lib.hid hfg
  clear hval hsgn hd hfg hneg hparts hc hm
  obtain ⟨i0, hi, hz0, hz1, hz2⟩ := info_parts elem32
  refine (callsIn_wide (n := 6)).1 ?_
  refine callsIn_of_wp_marks Tryd.func117 rfl trivial ?_ rfl
  simp only [Tryd.ntmps117, List.size_toArray, List.length_cons, List.length_nil, Nat.reduceAdd, Nat.reduceSub, Array.replicate_succ, Array.replicate_zero, List.push_toArray, List.append_toArray, List.nil_append, List.cons_append]
  gi_wp2_with fail
  have bN : Blk ((w.alloc (.cells #[.bool false, .slice none 0 0] 111)).alloc (.cells #[.bool false, .slice none 0 0] 111)) (w.heap.size + 1) 111 #[.bool false, .slice none 0 0] := by
    have h := Blk.new (w.alloc (.cells #[.bool false, .slice none 0 0] 111)) 111 #[.bool false, .slice none 0 0]
    rwa [World.size_alloc] at h
  have bR : Blk ((w.alloc (.cells #[.bool false, .slice none 0 0] 111)).alloc (.cells #[.bool false, .slice none 0 0] 111)) w.heap.size 111 #[.bool false, .slice none 0 0] := (Blk.new w _ _).alloc _
  have hB0 : Below w.heap.size w ((w.alloc (.cells #[.bool false, .slice none 0 0] 111)).alloc (.cells #[.bool false, .slice none 0 0] 111)) := ((Below.refl _ w).alloc (Nat.le_refl _) _).alloc (by simp) _
  generalize ((w.alloc (.cells #[.bool false, .slice none 0 0] 111)).alloc (.cells #[.bool false, .slice none 0 0] 111)) = W0 at *
  have ht' : s = t := ht.symm
  subst ht'
  refine ⟨trivial, (groups_in _ _ trivial rfl _ _).mono ?_⟩
  rintro e w' ⟨rfl, rfl⟩
  gi_wp2_with fail
  have bS := Blk.new W0 9 #[.string s]
  have hBw := hB0.alloc hB0.size (.cells #[.string s] 9)
  have hst := groups_stops Fence.wide (6 - 1) trivial rfl (by omega) W0.heap.size s (by omega) f hfv _ bS
  have hBs1 := bN.lt
  generalize hw0 : w.heap.size = B0 at *
  generalize hws : W0.heap.size = Bs at *
  refine wpIn_rangeFunc_ownG (F := Fence.wide) rfl (by omega) (gf := 139) (lb := #[.pointer (some ⟨Bs, 0, none⟩)]) rfl trivial (enters_of Tryd.func139 (by kernel_rfl) rfl)
    hst (fun h k => Same.trans h k) (Same.put (n := (W0.alloc (.cells #[.string s] 9)).heap.size) (fun k hk => by simp; omega)) (Below.refl _ _) (fun _ => rfl)
    (fun pre W => (∃ v, Blk W (B0 + 1) 111 #[.bool false, v] ∧ Ow .u32 103 W B0 v (pre.map gval)) ∧ (Blk W B0 111 #[.bool false, .slice none 0 0] ∧ (Blk W Bs 9 #[.string s] ∧ Below B0 w W)))
    (fun _ _ _ => False)
    (OwnFrom.and (Own.from (blkRow_own B0 (B0 + 1) 111 103 .u32 (fun v => #[.bool false, v]) (fun pre : List Grp => pre.map gval)) _) (OwnFrom.and (Own.from (blk_own B0 111 (fun _ => #[.bool false, .slice none 0 0])) _) (OwnFrom.and (Own.from (blk_own Bs 9 (fun _ => #[.string s])) _) (ownFrom_below (by omega) (by simp; omega)))))
    (fun _ _ _ _ _ hs _ _ => hs)
    ⟨⟨_, bN.alloc _, Ow.nil_ _⟩, bR.alloc _, bS, hBw⟩
    (fun x => { tmps := #[.string s, undef, .pointer (some ⟨B0, 0, none⟩), .pointer (some ⟨B0 + 1, 0, none⟩), .string s, .string x.1, undef, undef, .string s, .string s, .int .u8 s[0].toNat, .bool false, undef, undef, undef, .string s, .func (.func 139) #[] #[.pointer (some ⟨Bs, 0, none⟩)], .string x.1, undef, undef, undef, undef, undef, undef, undef, undef, undef, undef, undef, undef, undef, undef, undef, undef, undef, undef, undef, undef, undef, undef, undef, undef, undef], defers := [] }) ?assign ?body ?done ?stop
  case assign =>
    intro l x W K hK
    gi_wp2
    exact hK
  case body =>
    rintro l pre x W ⟨⟨v, hv, hrow⟩, hvR, hvS, hB⟩ hlt
    have hcN := hv.cell 1
    have hpl : pre.length ≤ 1000 := by omega
    have hx9 := x.2.1
    have hgl := gval_lt x
    gi_wp2_with fail
    gi_loopw [6, 20] (fun vv iv wr => ∃ k m : Nat, k ≤ x.1.size ∧ iv = .int .i64 k ∧ vv = .int .u32 m ∧ Hid (m = Z.natOf (x.1.data.toList.take k)) ∧ wr = W) (fun _ iv _ => x.1.size - (intOf iv).toNat)
    case atStart => exact ⟨0, 0, by omega, rfl, rfl, Lib.hid (by simp [Z.natOf]), rfl⟩
    case round =>
      obtain ⟨k, m, hk, rfl, rfl, HM, rfl⟩ := hrel
      by_cases hklt : k < x.1.size
      · have hdig := x.2.2 k hklt
        have hd1 : (48 : Int) ≤ (x.1[k].toNat : Int) ∧ (x.1[k].toNat : Int) ≤ 57 := by unfold Z.isDig at hdig; simp at hdig; omega
        have htl := take_lt x k (by omega)
        rw [← HM.out] at htl
        have hsn := take_snoc x k hklt
        rw [← HM.out] at hsn
        have HSN := Lib.hid hsn
        clear hdig hsn
        gi_wp2_with fail
        go_roundw
        case rel => exact ⟨k + 1, 10 * m + (x.1[k].toNat - 48), by omega, by go_num, ret_v (by omega), Lib.hid HSN.out.symm, by first | rfl | trivial⟩
        case measure => simp [intOf]; omega
      · obtain rfl : k = x.1.size := by omega
        have hfull : m = gval x := by
          rw [HM.out, Lib.size_eq, List.take_length]; rfl
        subst hfull
        clear HM
        gi_wp2_with (gi_at_builtin; refine wpListIn_append_own _ rfl _ _ 109 rfl B0 103 i0 (.int .u32 0) 1 4 Tryd.underlying109 hi hz0 hz1 hz2 rfl (by decide) _ _ _ rfl (hrow.alloc _) ⟨wr.heap.size, 0, none⟩ 1 1 [.int .u32 (gval x : Int)] rfl rfl (cell_one_new _ _ _) (by simp [Value.oneCell']) (by simp [maxLen]; omega) (by simp; omega) (by have := hB.size; simp; omega) ?_; intro v' w1 hown' hgrow _; obtain ⟨g', cap', rfl⟩ := ownsRow_succ hown'; have hvR2 := (hvR.alloc (.cells #[.int .u32 (gval x : Int)] 103)).kept hgrow (hvR.not_row (by decide) hrow); have hvS2 := (hvS.alloc (.cells #[.int .u32 (gval x : Int)] 103)).kept hgrow (hvS.not_row (by decide) hrow); obtain ⟨hv1, hv2, hr2, hk2, hb2⟩ := hv.appended 1 (by decide) hrow (by have := hB.size; omega) (by omega) hown' hgrow; simp only [List.length_map] at hv2 hr2 hk2 hb2; have hc1 := hv1.cell 1; have hf1 := hv1.frozen 1; clear hown' hgrow)
        have hvR3 := hvR2.other (C := B0 + 1) (j := 1) (by omega) (.slice (some ⟨g', 0, none⟩) (pre.length + 1) cap')
        have hvS3 := hvS2.other (C := B0 + 1) (j := 1) (by omega) (.slice (some ⟨g', 0, none⟩) (pre.length + 1) cap')
        refine ⟨hk2.from _, Same.of_blk hvS hvS3, ⟨_, hv2, ?_⟩, hvR3, hvS3, hB.trans hb2⟩
        unfold Ow
        rw [List.map_append, Vn_append, List.length_append, List.length_map]
        exact hr2
  case done =>
    rintro D ys W hD rfl ⟨⟨v, hv, hrow⟩, hvR, hvS, hB⟩ hK
    have hcN := hv.cell 1
    have hKlen : (upto f ((s.size + 8) / 9)).map gval = Z.grps s.data.toList ((s.size + 8) / 9) := upto_map _ f s.size HF.out _ (Nat.le_refl _)
    rw [hKlen] at hrow
    have hgl := Z.grps_length s.data.toList ((s.size + 8) / 9)
    have hfin : Z.ofDg 1000000000 (Z.grps s.data.toList ((s.size + 8) / 9)) = (Z.ival s.data.toList).natAbs := by
      rw [Z.grps_all _ 1000000000 (by decide) _ (by rw [← Lib.size_eq]; omega), HV.out]
    have HFI := Lib.hid hfin
    have hbd := grps_lt s.data.toList HD.out ((s.size + 8) / 9)
    have HBD := Lib.hid hbd
    clear hfin hKlen hbd
    have hl1 : (Z.grps s.data.toList ((s.size + 8) / 9)).length ≤ 1000000000 := by omega
    have hf1 := hv.frozen 1
    gi_wp2_with fail
    refine ⟨trivial, (callsIn_wide.2 (trim_own v _ W B0 hrow HBD.out hl1)).mono ?_⟩
    rintro e w' ⟨v2, rfl, hown2, rfl⟩
    rw [HFI.out] at hown2
    obtain ⟨A2, c2, hv2, _, _, _⟩ := hown2.sn
    subst hv2
    have hcN0 := hv.cell 0
    have hcR0 := hvR.cell 0
    have hcR1 := hvR.cell 1
    have hfR0 := hvR.frozen 0
    have hfR1 := hvR.frozen 1
    have hw1 := (hv.set 1 (.slice A2 (Z.dg 1000000000 (Z.ival s.data.toList).natAbs).length c2))
    have hr1 : Ow .u32 103 (W.setCell ⟨B0 + 1, 1, none⟩ (.slice A2 (Z.dg 1000000000 (Z.ival s.data.toList).natAbs).length c2)) B0 (.slice A2 (Z.dg 1000000000 (Z.ival s.data.toList).natAbs).length c2) (Z.dg 1000000000 (Z.ival s.data.toList).natAbs) :=
      World.ownsRow.kept hown2 (grownBy_setAt W (B0 + 1) 1 _) (.inr (hv.not_row (by decide) hown2).symm)
    have hvR1 := hvR.other (C := B0 + 1) (j := 1) (by omega) (.slice A2 (Z.dg 1000000000 (Z.ival s.data.toList).natAbs).length c2)
    clear hrow
    generalize hds : Z.dg 1000000000 (Z.ival s.data.toList).natAbs = ds at *
    have HDS := Lib.hid hds
    clear hds
    gi_wp2_with fail
    have hvR2 := hvR1.set 0 (.bool false)
    have hr2 := World.ownsRow.kept hr1 (grownBy_setAt _ B0 0 (.bool false)) (.inr (hvR1.not_row (by decide) hr1).symm)
    have hvR3 := hvR2.set 1 (.slice A2 ds.length c2)
    have hr3 := World.ownsRow.kept hr2 (grownBy_setAt _ B0 1 (.slice A2 ds.length c2)) (.inr (hvR2.not_row (by decide) hr2).symm)
    have hK' := ((KeepsOthers.setCell W ⟨B0 + 1, 1, none⟩ (.slice A2 ds.length c2)).trans ((KeepsOthers.setCell _ ⟨B0, 0, none⟩ (.bool false)).trans (KeepsOthers.setCell _ ⟨B0, 1, none⟩ (.slice A2 ds.length c2)))).same D _ hK rfl
    have hr4 := ownsRow_putObj hr3 (.deferred none) hK' rfl
    have hbf := ((hB.setCell (p := ⟨B0 + 1, 1, none⟩) (by simp) (.slice A2 ds.length c2)).setCell (p := ⟨B0, 0, none⟩) (Nat.le_refl _) (.bool false)).setCell (p := ⟨B0, 1, none⟩) (Nat.le_refl _) (.slice A2 ds.length c2)
    have x1 := cell_kept (hvR3.cell 0) (grownBy_putObj' _ D (.deferred none)) (fun r e => by cases e; exact ⟨_, hK', rfl⟩)
    have x2 := cell_kept (hvR3.cell 1) (grownBy_putObj' _ D (.deferred none)) (fun r e => by cases e; exact ⟨_, hK', rfl⟩)
    refine ⟨by simp, .inl ⟨_, _, rfl, run_takeDeferred hK', ?_⟩⟩
    refine ⟨.agg #[.bool false, .slice A2 ds.length c2], ?_, _, by rw [HS.out], by rw [HDS.out, hw0]; exact hr4, by rw [hw0]; exact hbf.trans (belowK_b (w := W0.alloc (.cells #[.string s] 9)) (by simp; omega) _ D _ _ hD hK' rfl rfl)⟩
    simp [results, Tryd.f117, go_sem, x1, x2]
  case stop =>
    rintro D c pre W _ _ h _
    exact h.elim
end Go.Proofs.YtifafmomkpkgdaaDoor
/- Walks: integer.read of a negative integer. -/

namespace Go.Proofs.YtifafmomkpkgdaaDoor
open Go.RowKit Go.Shelf
attribute [local go_sem] Oper.semAt_some

set_option maxRecDepth 100000 in
set_option maxHeartbeats 2000000 in
theorem read_neg (s : ByteArray) (w : World) (hc : Z.canon s.data.toList = true) (hl : s.size ≤ 1100) (h0 : 0 < s.size) (hn : ((s[0].toNat : Int) == 45) = true) :
    Calls Tryd.prog 117 #[.string s] w (NumSt w (Z.ival s.data.toList)) := by
  have hneg : Z.isNeg s.data.toList = true := by rw [Z.neg_of s h0, hn]
  have hm := Z.mags_neg hneg
  have hparts := Z.canon_parts hc
  obtain ⟨t, ht⟩ : ∃ t : ByteArray, t = s.extract 1 s.size := ⟨_, rfl⟩
  have hm : Z.mags s.data.toList = t.data.toList := by rw [ht]; exact hm
  have hd : ∀ c ∈ t.data.toList, Z.isDig c = true := by rw [← hm]; exact List.all_eq_true.1 hparts.all
  have ht0 : t.size ≤ 1100 := by rw [ht]; rw [ByteArray.size_extract]; omega
  obtain ⟨f, hfv, hfg⟩ := groups_of t hd
  have hval : (Z.ival s.data.toList).natAbs = Z.natOf t.data.toList := by rw [Z.natAbs_ival, hm]
  have hsgn : decide (Z.ival s.data.toList < 0) = true := by
    rw [decide_eq_true_iff]
    unfold Z.ival
    rw [hneg]
    simp only [if_true]
    have := Z.natOf_pos hparts.all hparts.ne (fun hh => by have := (hparts.zero hh).2; rw [hneg] at this; cases this)
    omega
  have HV := Lib.hid hval
  have HS := Lib.hid hsgn
  have HD := Lib.hid hd
  have HF := Lib.hid hfg
  clear hval hsgn hd hfg hneg hparts hc hm
  obtain ⟨i0, hi, hz0, hz1, hz2⟩ := info_parts elem32
  refine (callsIn_wide (n := 6)).1 ?_
  refine callsIn_of_wp_marks Tryd.func117 rfl trivial ?_ rfl
  simp only [Tryd.ntmps117, List.size_toArray, List.length_cons, List.length_nil, Nat.reduceAdd, Nat.reduceSub, Array.replicate_succ, Array.replicate_zero, List.push_toArray, List.append_toArray, List.nil_append, List.cons_append]
  gi_wp2_with fail
  have bN : Blk ((w.alloc (.cells #[.bool false, .slice none 0 0] 111)).alloc (.cells #[.bool false, .slice none 0 0] 111)) (w.heap.size + 1) 111 #[.bool false, .slice none 0 0] := by
    have h := Blk.new (w.alloc (.cells #[.bool false, .slice none 0 0] 111)) 111 #[.bool false, .slice none 0 0]
    rwa [World.size_alloc] at h
  have bR : Blk ((w.alloc (.cells #[.bool false, .slice none 0 0] 111)).alloc (.cells #[.bool false, .slice none 0 0] 111)) w.heap.size 111 #[.bool false, .slice none 0 0] := (Blk.new w _ _).alloc _
  have hB0 : Below w.heap.size w ((w.alloc (.cells #[.bool false, .slice none 0 0] 111)).alloc (.cells #[.bool false, .slice none 0 0] 111)) := ((Below.refl _ w).alloc (Nat.le_refl _) _).alloc (by simp) _
  have h1 : (1 : Int) ≤ (s.size : Int) := by omega
  gi_region
  clear bN bR hB0 h1
  have bN : Blk (((w.alloc (.cells #[.bool false, .slice none 0 0] 111)).alloc (.cells #[.bool true, .slice none 0 0] 111)).drew) (w.heap.size + 1) 111 #[.bool true, .slice none 0 0] := by
    have h := Blk.new (w.alloc (.cells #[.bool false, .slice none 0 0] 111)) 111 #[.bool true, .slice none 0 0]
    rw [World.size_alloc] at h
    exact h
  have bR : Blk (((w.alloc (.cells #[.bool false, .slice none 0 0] 111)).alloc (.cells #[.bool true, .slice none 0 0] 111)).drew) w.heap.size 111 #[.bool false, .slice none 0 0] := (Blk.new w _ _).alloc (.cells #[.bool true, .slice none 0 0] 111)
  have hB0 : Below w.heap.size w (((w.alloc (.cells #[.bool false, .slice none 0 0] 111)).alloc (.cells #[.bool true, .slice none 0 0] 111)).drew) := (((Below.refl _ w).alloc (Nat.le_refl _) (.cells #[.bool false, .slice none 0 0] 111)).alloc (by simp) (.cells #[.bool true, .slice none 0 0] 111)).drew
  generalize (((w.alloc (.cells #[.bool false, .slice none 0 0] 111)).alloc (.cells #[.bool true, .slice none 0 0] 111)).drew) = W0 at *

  rw [← ht]
  clear ht hm
  gi_wp2_with fail
  refine ⟨trivial, (groups_in _ _ trivial rfl _ _).mono ?_⟩
  rintro e w' ⟨rfl, rfl⟩
  gi_wp2_with fail
  have bS := Blk.new W0 9 #[.string t]
  have hBw := hB0.alloc hB0.size (.cells #[.string t] 9)
  have hst := groups_stops Fence.wide (6 - 1) trivial rfl (by omega) W0.heap.size t (by omega) f hfv _ bS
  have hBs1 := bN.lt
  generalize hw0 : w.heap.size = B0 at *
  generalize hws : W0.heap.size = Bs at *
  refine wpIn_rangeFunc_ownG (F := Fence.wide) rfl (by omega) (gf := 139) (lb := #[.pointer (some ⟨Bs, 0, none⟩)]) rfl trivial (enters_of Tryd.func139 (by kernel_rfl) rfl)
    hst (fun h k => Same.trans h k) (Same.put (n := (W0.alloc (.cells #[.string t] 9)).heap.size) (fun k hk => by simp; omega)) (Below.refl _ _) (fun _ => rfl)
    (fun pre W => (∃ v, Blk W (B0 + 1) 111 #[.bool true, v] ∧ Ow .u32 103 W B0 v (pre.map gval)) ∧ (Blk W B0 111 #[.bool false, .slice none 0 0] ∧ (Blk W Bs 9 #[.string t] ∧ Below B0 w W)))
    (fun _ _ _ => False)
    (OwnFrom.and (Own.from (blkRow_own B0 (B0 + 1) 111 103 .u32 (fun v => #[.bool true, v]) (fun pre : List Grp => pre.map gval)) _) (OwnFrom.and (Own.from (blk_own B0 111 (fun _ => #[.bool false, .slice none 0 0])) _) (OwnFrom.and (Own.from (blk_own Bs 9 (fun _ => #[.string t])) _) (ownFrom_below (by omega) (by simp; omega)))))
    (fun _ _ _ _ _ hs _ _ => hs)
    ⟨⟨_, bN.alloc _, Ow.nil_ _⟩, bR.alloc _, bS, hBw⟩
    (fun x => { tmps := #[.string s, undef, .pointer (some ⟨B0, 0, none⟩), .pointer (some ⟨B0 + 1, 0, none⟩), .string t, .string x.1, undef, undef, .string s, .string s, .int .u8 s[0].toNat, .bool true, .string s, .string t, .pointer (some ⟨B0 + 1, 0, none⟩), .string t, .func (.func 139) #[] #[.pointer (some ⟨Bs, 0, none⟩)], .string x.1, undef, undef, undef, undef, undef, undef, undef, undef, undef, undef, undef, undef, undef, undef, undef, undef, undef, undef, undef, undef, undef, undef, undef, undef, undef], defers := [] }) ?assign ?body ?done ?stop
  case assign =>
    intro l x W K hK
    gi_wp2
    exact hK
  case body =>
    rintro l pre x W ⟨⟨v, hv, hrow⟩, hvR, hvS, hB⟩ hlt
    have hcN := hv.cell 1
    have hpl : pre.length ≤ 1000 := by omega
    have hx9 := x.2.1
    have hgl := gval_lt x
    gi_wp2_with fail
    gi_loopw [6, 20] (fun vv iv wr => ∃ k m : Nat, k ≤ x.1.size ∧ iv = .int .i64 k ∧ vv = .int .u32 m ∧ Hid (m = Z.natOf (x.1.data.toList.take k)) ∧ wr = W) (fun _ iv _ => x.1.size - (intOf iv).toNat)
    case atStart => exact ⟨0, 0, by omega, rfl, rfl, Lib.hid (by simp [Z.natOf]), rfl⟩
    case round =>
      obtain ⟨k, m, hk, rfl, rfl, HM, rfl⟩ := hrel
      by_cases hklt : k < x.1.size
      · have hdig := x.2.2 k hklt
        have hd1 : (48 : Int) ≤ (x.1[k].toNat : Int) ∧ (x.1[k].toNat : Int) ≤ 57 := by unfold Z.isDig at hdig; simp at hdig; omega
        have htl := take_lt x k (by omega)
        rw [← HM.out] at htl
        have hsn := take_snoc x k hklt
        rw [← HM.out] at hsn
        have HSN := Lib.hid hsn
        clear hdig hsn
        gi_wp2_with fail
        go_roundw
        case rel => exact ⟨k + 1, 10 * m + (x.1[k].toNat - 48), by omega, by go_num, ret_v (by omega), Lib.hid HSN.out.symm, by first | rfl | trivial⟩
        case measure => simp [intOf]; omega
      · obtain rfl : k = x.1.size := by omega
        have hfull : m = gval x := by
          rw [HM.out, Lib.size_eq, List.take_length]; rfl
        subst hfull
        clear HM
        gi_wp2_with (gi_at_builtin; refine wpListIn_append_own _ rfl _ _ 109 rfl B0 103 i0 (.int .u32 0) 1 4 Tryd.underlying109 hi hz0 hz1 hz2 rfl (by decide) _ _ _ rfl (hrow.alloc _) ⟨wr.heap.size, 0, none⟩ 1 1 [.int .u32 (gval x : Int)] rfl rfl (cell_one_new _ _ _) (by simp [Value.oneCell']) (by simp [maxLen]; omega) (by simp; omega) (by have := hB.size; simp; omega) ?_; intro v' w1 hown' hgrow _; obtain ⟨g', cap', rfl⟩ := ownsRow_succ hown'; have hvR2 := (hvR.alloc (.cells #[.int .u32 (gval x : Int)] 103)).kept hgrow (hvR.not_row (by decide) hrow); have hvS2 := (hvS.alloc (.cells #[.int .u32 (gval x : Int)] 103)).kept hgrow (hvS.not_row (by decide) hrow); obtain ⟨hv1, hv2, hr2, hk2, hb2⟩ := hv.appended 1 (by decide) hrow (by have := hB.size; omega) (by omega) hown' hgrow; simp only [List.length_map] at hv2 hr2 hk2 hb2; have hc1 := hv1.cell 1; have hf1 := hv1.frozen 1; clear hown' hgrow)
        have hvR3 := hvR2.other (C := B0 + 1) (j := 1) (by omega) (.slice (some ⟨g', 0, none⟩) (pre.length + 1) cap')
        have hvS3 := hvS2.other (C := B0 + 1) (j := 1) (by omega) (.slice (some ⟨g', 0, none⟩) (pre.length + 1) cap')
        refine ⟨hk2.from _, Same.of_blk hvS hvS3, ⟨_, hv2, ?_⟩, hvR3, hvS3, hB.trans hb2⟩
        unfold Ow
        rw [List.map_append, Vn_append, List.length_append, List.length_map]
        exact hr2
  case done =>
    rintro D ys W hD rfl ⟨⟨v, hv, hrow⟩, hvR, hvS, hB⟩ hK
    have hcN := hv.cell 1
    have hKlen : (upto f ((t.size + 8) / 9)).map gval = Z.grps t.data.toList ((t.size + 8) / 9) := upto_map _ f t.size HF.out _ (Nat.le_refl _)
    rw [hKlen] at hrow
    have hgl := Z.grps_length t.data.toList ((t.size + 8) / 9)
    have hfin : Z.ofDg 1000000000 (Z.grps t.data.toList ((t.size + 8) / 9)) = (Z.ival s.data.toList).natAbs := by
      rw [Z.grps_all _ 1000000000 (by decide) _ (by rw [← Lib.size_eq]; omega), HV.out]
    have HFI := Lib.hid hfin
    have hbd := grps_lt t.data.toList HD.out ((t.size + 8) / 9)
    have HBD := Lib.hid hbd
    clear hfin hKlen hbd
    have hl1 : (Z.grps t.data.toList ((t.size + 8) / 9)).length ≤ 1000000000 := by omega
    have hf1 := hv.frozen 1
    gi_wp2_with fail
    refine ⟨trivial, (callsIn_wide.2 (trim_own v _ W B0 hrow HBD.out hl1)).mono ?_⟩
    rintro e w' ⟨v2, rfl, hown2, rfl⟩
    rw [HFI.out] at hown2
    obtain ⟨A2, c2, hv2, _, _, _⟩ := hown2.sn
    subst hv2
    have hcN0 := hv.cell 0
    have hcR0 := hvR.cell 0
    have hcR1 := hvR.cell 1
    have hfR0 := hvR.frozen 0
    have hfR1 := hvR.frozen 1
    have hw1 := (hv.set 1 (.slice A2 (Z.dg 1000000000 (Z.ival s.data.toList).natAbs).length c2))
    have hr1 : Ow .u32 103 (W.setCell ⟨B0 + 1, 1, none⟩ (.slice A2 (Z.dg 1000000000 (Z.ival s.data.toList).natAbs).length c2)) B0 (.slice A2 (Z.dg 1000000000 (Z.ival s.data.toList).natAbs).length c2) (Z.dg 1000000000 (Z.ival s.data.toList).natAbs) :=
      World.ownsRow.kept hown2 (grownBy_setAt W (B0 + 1) 1 _) (.inr (hv.not_row (by decide) hown2).symm)
    have hvR1 := hvR.other (C := B0 + 1) (j := 1) (by omega) (.slice A2 (Z.dg 1000000000 (Z.ival s.data.toList).natAbs).length c2)
    clear hrow
    generalize hds : Z.dg 1000000000 (Z.ival s.data.toList).natAbs = ds at *
    have HDS := Lib.hid hds
    clear hds
    gi_wp2_with fail
    have hvR2 := hvR1.set 0 (.bool true)
    have hr2 := World.ownsRow.kept hr1 (grownBy_setAt _ B0 0 (.bool true)) (.inr (hvR1.not_row (by decide) hr1).symm)
    have hvR3 := hvR2.set 1 (.slice A2 ds.length c2)
    have hr3 := World.ownsRow.kept hr2 (grownBy_setAt _ B0 1 (.slice A2 ds.length c2)) (.inr (hvR2.not_row (by decide) hr2).symm)
    have hK' := ((KeepsOthers.setCell W ⟨B0 + 1, 1, none⟩ (.slice A2 ds.length c2)).trans ((KeepsOthers.setCell _ ⟨B0, 0, none⟩ (.bool true)).trans (KeepsOthers.setCell _ ⟨B0, 1, none⟩ (.slice A2 ds.length c2)))).same D _ hK rfl
    have hr4 := ownsRow_putObj hr3 (.deferred none) hK' rfl
    have hbf := ((hB.setCell (p := ⟨B0 + 1, 1, none⟩) (by simp) (.slice A2 ds.length c2)).setCell (p := ⟨B0, 0, none⟩) (Nat.le_refl _) (.bool true)).setCell (p := ⟨B0, 1, none⟩) (Nat.le_refl _) (.slice A2 ds.length c2)
    have x1 := cell_kept (hvR3.cell 0) (grownBy_putObj' _ D (.deferred none)) (fun r e => by cases e; exact ⟨_, hK', rfl⟩)
    have x2 := cell_kept (hvR3.cell 1) (grownBy_putObj' _ D (.deferred none)) (fun r e => by cases e; exact ⟨_, hK', rfl⟩)
    refine ⟨by simp, .inl ⟨_, _, rfl, run_takeDeferred hK', ?_⟩⟩
    refine ⟨.agg #[.bool true, .slice A2 ds.length c2], ?_, _, by rw [HS.out], by rw [HDS.out, hw0]; exact hr4, by rw [hw0]; exact hbf.trans (belowK_b (w := W0.alloc (.cells #[.string t] 9)) (by simp; omega) _ D _ _ hD hK' rfl rfl)⟩
    simp [results, Tryd.f117, go_sem, x1, x2]
  case stop =>
    rintro D c pre W _ _ h _
    exact h.elim

theorem read_any (s : ByteArray) (w : World) (hc : Z.canon s.data.toList = true) (hl : s.size ≤ 1100) (h0 : 0 < s.size) :
    Calls Tryd.prog 117 #[.string s] w (NumSt w (Z.ival s.data.toList)) := by
  cases hn : ((s[0].toNat : Int) == 45)
  · exact read_pos s w hc hl h0 hn
  · exact read_neg s w hc hl h0 hn
end Go.Proofs.YtifafmomkpkgdaaDoor
/- Walks: integer.sum. -/

namespace Go.Proofs.YtifafmomkpkgdaaDoor
open Go.RowKit

/-- The value is a number's struct: its sign, and a slice that reads as its digits. -/
def NumAt (w : World) (x : Value) (z : Int) : Prop := ∃ v, x = .agg #[.bool (decide (z < 0)), v] ∧ SN .u32 w v (Z.dg 1000000000 z.natAbs) ∧ (Z.dg 1000000000 z.natAbs).length ≤ 100000
theorem minusN (v u : Value) (n m : Nat) (w : World) (hS : SN .u32 w v (Z.dg 1000000000 n)) (hT : SN .u32 w u (Z.dg 1000000000 m)) (hl : (Z.dg 1000000000 n).length ≤ 100000) (hge : m ≤ n) :
    Calls Tryd.prog 123 #[v, u] w (MagRet w (n - m)) := by
  have := minus_any v u _ _ w hS hT (Z.can_dg _ (by omega) n) (Z.can_dg _ (by omega) m) (by omega) (by rw [Z.ofDg_dg _ (by omega), Z.ofDg_dg _ (by omega)]; exact hge)
  rwa [Z.ofDg_dg _ (by omega), Z.ofDg_dg _ (by omega)] at this
theorem compareN (v u : Value) (n m : Nat) (w : World) (hS : SN .u32 w v (Z.dg 1000000000 n)) (hT : SN .u32 w u (Z.dg 1000000000 m)) (hl : (Z.dg 1000000000 n).length ≤ 100000) (hl' : (Z.dg 1000000000 m).length ≤ 100000) :
    Calls Tryd.prog 118 #[v, u] w (CmpRet w (Z.cmp n m)) := by
  have := compare_any v u 1000000000 (by omega) _ _ w hS hT (Z.can_dg _ (by omega) n) (Z.can_dg _ (by omega) m) (by omega) (by omega)
  rwa [Z.ofDg_dg _ (by omega), Z.ofDg_dg _ (by omega)] at this
theorem dg_pos_len (n : Nat) : decide (0 < ((Z.dg 1000000000 n).length : Int)) = decide (0 < n) := by
  have := Z.dg_eq_nil 1000000000 (by omega) n
  rcases Nat.eq_zero_or_pos n with h | h
  · rw [this.2 h, h]; rfl
  · have h2 : (Z.dg 1000000000 n).length ≠ 0 := fun e => by
      have := this.1 (List.eq_nil_of_length_eq_zero e); omega
    rw [decide_eq_true h, decide_eq_true (by omega)]
theorem cell_other {W : World} {b c o j : Nat} {v : Value} (hne : b ≠ c) (h : W.cell? ⟨b, o, none⟩ = some v) (u : Value) : (W.setCell ⟨c, j, none⟩ u).cell? ⟨b, o, none⟩ = some v := by
  have h1 := Below.heap_setCell W ⟨c, j, none⟩ u b (fun e => hne e)
  unfold World.cell? at *
  simp only [h1]
  exact h
theorem SN.shape {q : IntKind} {w : World} {v : Value} {ms : List Nat} (h : SN q w v ms) : ∃ A c, v = .slice A ms.length c := by
  obtain ⟨A, c, hv, _⟩ := h
  exact ⟨A, c, hv⟩
theorem Ow.shape {q : IntKind} {e : TypeId} {w : World} {B : Nat} {v : Value} {ms : List Nat} (h : Ow q e w B v ms) : ∃ A c, v = .slice A ms.length c := h.sn.shape
/-- A number is stored into a variable. -/
theorem store_num {W : World} {R B : Nat} {x0 x1 : Value} {v : Value} {ms : List Nat} (p : Bool) (hb : Blk W R 111 #[x0, x1]) (ho : Ow .u32 103 W B v ms) :
    Ow .u32 103 ((W.setCell ⟨R, 0, none⟩ (.bool p)).setCell ⟨R, 1, none⟩ v) B v ms ∧ Blk ((W.setCell ⟨R, 0, none⟩ (.bool p)).setCell ⟨R, 1, none⟩ v) R 111 #[.bool p, v] := by
  have h1 := World.ownsRow.kept ho (grownBy_setAt W R 0 (.bool p)) (.inr (hb.not_row (by decide) ho).symm)
  have b1 := hb.set 0 (.bool p)
  have h2 := World.ownsRow.kept h1 (grownBy_setAt _ R 1 v) (.inr (b1.not_row (by decide) h1).symm)
  exact ⟨h2, b1.set 1 v⟩
end Go.Proofs.YtifafmomkpkgdaaDoor
