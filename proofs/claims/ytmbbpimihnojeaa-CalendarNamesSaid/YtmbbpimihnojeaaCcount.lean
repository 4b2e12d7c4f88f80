/- Walks: calendar.Count. -/
import Derived.Test.YtmbbpimihnojeaaCnth
namespace Go.Proofs.Ytmbbpimihnojeaa
open Go.RowKit Go.Shelf
attribute [local go_sem] Oper.semAt_some

def CountRet (wk : Int) (hs : List Int) (a b : Int) (w : World) (e : Ending) (w' : World) : Prop :=
  e = .returned (.tuple #[.int .i64 (Z.count wk hs a b).1, .int .i64 (Z.count wk hs a b).2]) ∧ Below w.heap.size w w'
theorem cerr_no {wk : Int} {hs : List Int} (h : Z.calB wk hs = false) : cerr wk hs = 8 := by simp [cerr, h]
theorem cerr_yes {wk : Int} {hs : List Int} (h : Z.calB wk hs = true) : cerr wk hs = 0 := by simp [cerr, h]
theorem countRet_bad {wk : Int} {hs : List Int} {a b : Int} {w w' : World} (h : Z.calB wk hs = false) (hb : Below w.heap.size w w') : CountRet wk hs a b w (.returned (.tuple #[.int .i64 0, .int .i64 8])) w' := by
  unfold CountRet Z.count
  rw [if_pos h]
  exact ⟨rfl, hb⟩
theorem countRet_arg {wk : Int} {hs : List Int} {a b : Int} {w w' : World} (h : Z.calB wk hs = true) (hr : Z.inR a = false ∨ Z.inR b = false) (hb : Below w.heap.size w w') : CountRet wk hs a b w (.returned (.tuple #[.int .i64 0, .int .i64 2])) w' := by
  unfold CountRet Z.count
  rw [if_neg (by simp [h]), if_pos hr]
  exact ⟨rfl, hb⟩
theorem countRet_ok {wk : Int} {hs : List Int} {a b n : Int} {w w' : World} (h : Z.calB wk hs = true) (ha : Z.inR a = true) (hr : Z.inR b = true) (hn : n = Z.F (Z.opn wk hs) b - Z.F (Z.opn wk hs) a) (hb : Below w.heap.size w w') : CountRet wk hs a b w (.returned (.tuple #[.int .i64 n, .int .i64 0])) w' := by
  unfold CountRet Z.count
  rw [if_neg (by simp [h]), if_neg (by simp [ha, hr])]
  exact ⟨by rw [hn], hb⟩
theorem inR_iff (a : Int) : Z.inR a = true ↔ 0 ≤ a ∧ a ≤ 99999 := by unfold Z.inR; simp
theorem pre_range {P : Int → Bool} {a s : Int} {k : Nat} : (Z.pre P a s k).length ≤ k := pre_len P a s k

theorem ccount_no (wk : Int) (v : Value) (hs : List Int) (a b : Int) (w : World) (hSI : SI w v hs) (hno : ¬ (Z.calB wk hs = true ∧ Z.inR a = true ∧ Z.inR b = true)) :
    Calls Try.prog 14 #[.agg #[.int .u8 wk, v], .int .i64 a, .int .i64 b] w (CountRet wk hs a b w) := by
  go_enter Try.func14, Try.ntmps14
  go_wp2_with fail
  have hbA : Below w.heap.size w (((w.alloc (.cells #[.int .u8 wk, v] 24)).alloc (.cells #[.int .i64 a] 3)).alloc (.cells #[.int .i64 b] 3)) := (((Below.refl _ w).alloc (Nat.le_refl _) _).alloc (by simp) _).alloc (by simp; omega) _
  refine (ccheck_any wk v hs _ (hSI.below hbA)).mono ?_
  rintro e W1 ⟨rfl, hb1⟩
  have hb1' := hbA.trans (hb1.mono (by simp; omega))
  have ba : Blk W1 (w.heap.size + 1) 3 #[.int .i64 a] := by
    have h := ((Blk.new (w.alloc (.cells #[.int .u8 wk, v] 24)) 3 #[.int .i64 a]).alloc (.cells #[.int .i64 b] 3)).below hb1
    rwa [World.size_alloc] at h
  have bb : Blk W1 (w.heap.size + 1 + 1) 3 #[.int .i64 b] := by
    have h := (Blk.new ((w.alloc (.cells #[.int .u8 wk, v] 24)).alloc (.cells #[.int .i64 a] 3)) 3 #[.int .i64 b]).below hb1
    rwa [World.size_alloc, World.size_alloc] at h
  clear hb1 hbA
  cases hk : Z.calB wk hs
  · rw [cerr_no hk]
    go_wp2_with fail
    go_ret2
    exact countRet_bad hk hb1'
  · rw [cerr_yes hk]
    have ca := ba.cell 0
    have cb := bb.cell 0
    go_wp2_with fail
    refine (cinside_any _ _).mono ?_
    rintro e w2 ⟨rfl, rfl⟩
    cases ha : Z.inR a
    · go_wp2_with fail
      go_ret2
      exact countRet_arg hk (.inl ha) hb1'
    · go_wp2_with fail
      refine (cinside_any _ _).mono ?_
      rintro e w2 ⟨rfl, rfl⟩
      cases hb : Z.inR b
      · go_wp2_with fail
        go_ret2
        exact countRet_arg hk (.inr hb) hb1'
      · exact absurd ⟨hk, ha, hb⟩ hno

set_option maxRecDepth 100000 in
set_option maxHeartbeats 2000000 in
theorem ccount_yes (wk : Int) (v : Value) (hs : List Int) (a b : Int) (w : World) (hSI : SI w v hs) (hk0 : 0 ≤ wk) (hk : Z.calB wk hs = true) (ha : Z.inR a = true) (hb : Z.inR b = true) :
    Calls Try.prog 14 #[.agg #[.int .u8 wk, v], .int .i64 a, .int .i64 b] w (CountRet wk hs a b w) := by
  have hra := (inR_iff a).1 ha
  have hrb := (inR_iff b).1 hb
  have HA := Lib.hid ha
  have HB := Lib.hid hb
  have HK := Lib.hid hk
  clear ha hb hk
  refine (callsIn_wide (n := 6)).1 ?_
  refine callsIn_of_wp_marks Try.func14 rfl trivial ?_ rfl
  simp only [Try.ntmps14, List.size_toArray, List.length_cons, List.length_nil, Nat.reduceAdd, Nat.reduceSub, Array.replicate_succ, Array.replicate_zero, List.push_toArray, List.append_toArray, List.nil_append, List.cons_append]
  gi_wp2_with fail
  have hbA : Below w.heap.size w (((w.alloc (.cells #[.int .u8 wk, v] 24)).alloc (.cells #[.int .i64 a] 3)).alloc (.cells #[.int .i64 b] 3)) := (((Below.refl _ w).alloc (Nat.le_refl _) _).alloc (by simp) _).alloc (by simp; omega) _
  refine ⟨trivial, (callsIn_wide.2 (ccheck_any wk v hs _ (hSI.below hbA))).mono ?_⟩
  rintro e W1 ⟨rfl, hb1⟩
  rw [cerr_yes HK.out]
  have hb1' := hbA.trans (hb1.mono (by simp; omega))
  have ba : Blk W1 (w.heap.size + 1) 3 #[.int .i64 a] := by
    have h := ((Blk.new (w.alloc (.cells #[.int .u8 wk, v] 24)) 3 #[.int .i64 a]).alloc (.cells #[.int .i64 b] 3)).below hb1
    rwa [World.size_alloc] at h
  have bb : Blk W1 (w.heap.size + 1 + 1) 3 #[.int .i64 b] := by
    have h := (Blk.new ((w.alloc (.cells #[.int .u8 wk, v] 24)).alloc (.cells #[.int .i64 a] 3)) 3 #[.int .i64 b]).below hb1
    rwa [World.size_alloc, World.size_alloc] at h
  have bc0 : Blk W1 w.heap.size 24 #[.int .u8 wk, v] := (((Blk.new w 24 #[.int .u8 wk, v]).alloc (.cells #[.int .i64 a] 3)).alloc (.cells #[.int .i64 b] 3)).below hb1
  have bn := Blk.new W1 3 #[.int .i64 0]
  have ba2 := ba.alloc (.cells #[.int .i64 0] 3)
  have bb2 := bb.alloc (.cells #[.int .i64 0] 3)
  have bc2 := bc0.alloc (.cells #[.int .i64 0] 3)
  have hbn := hb1'.alloc hb1'.size (.cells #[.int .i64 0] 3)
  have hz0 := bc0.lt
  have hz1 := ba.lt
  have hz2 := bb.lt
  have ca := ba.cell 0
  have cb := bb.cell 0
  have cc0 := bc0.cell 0
  have cc1 := bc0.cell 1
  clear hb1 hbA ba bb bc0
  gi_wp2_with fail
  refine ⟨trivial, (callsIn_wide.2 (cinside_any _ _)).mono ?_⟩
  rintro e w2 ⟨rfl, rfl⟩
  rw [HA.out]
  gi_wp2_with fail
  refine ⟨trivial, (callsIn_wide.2 (cinside_any _ _)).mono ?_⟩
  rintro e w2 ⟨rfl, rfl⟩
  rw [HB.out]
  have hSI1 := hSI.below hbn
  gi_wp2_with fail
  refine ⟨trivial, (callsIn_wide.2 (days_any _ _ _ _ _)).mono ?_⟩
  rintro e W0 ⟨Bf, Bs, Bis, Bc, rfl, hB, hlf, hls, hli, hlc, bf, bs, bi, bc⟩
  gi_wp2_with fail
  have hB0 : Below w.heap.size w W0 := hbn.trans (hB.mono (by simp; omega))
  have bn := bn.below hB
  have ba := ba2.below hB
  have bb := bb2.below hB
  have hle : w.heap.size ≤ W0.heap.size := hB0.size
  simp only [World.size_alloc] at hlf hls hli hlc
  have lf := bf.lt
  have ls := bs.lt
  have li := bi.lt
  have lc := bc.lt
  have ln := bn.lt
  clear hB ba2 bb2 bc2 hbn hSI1 ca cb cc0 cc1 hb1'
  obtain ⟨S, hS⟩ : ∃ S : Nat → Prop, S = fun k => k < w.heap.size ∨ k = Bf ∨ k = Bs ∨ k = Bis ∨ k = Bc := ⟨_, rfl⟩
  have hS1 : ∀ k, S k → k < W0.heap.size := by rw [hS]; intro k hk; omega
  have hn1 : ¬ S W1.heap.size := by rw [hS]; omega
  have hDD : ∀ W, Same S W0 W → DaysAt W Bf Bs Bis Bc wk v hs (min a b) 1 := fun W h =>
    ⟨bf.same (by rw [hS]; simp) h, bs.same (by rw [hS]; simp) h, bi.same (by rw [hS]; simp) h, bc.same (by rw [hS]; simp) h, by
      refine hSI.same (fun k hk => ?_)
      exact (h k (by rw [hS]; exact .inl hk)).trans (hB0.block k hk)⟩
  clear hS
  have hst := days_stops (6 - 1) (by omega) Bf Bs Bis Bc wk v hs (min a b) 1 HK.out hk0 (.inl rfl) (fun _ => by omega) (fun h => by omega) S W0 hS1 hDD
  clear hDD bf bs bi bc
  have hroom : Z.room (min a b) 1 ≤ 100000 := by unfold Z.room; simp; omega
  have hfin : ∀ n : Int, n = Z.F (Z.opn wk hs) (max a b) - Z.F (Z.opn wk hs) (min a b) → (if b < a then -n else n) = Z.F (Z.opn wk hs) b - Z.F (Z.opn wk hs) a := by
    rintro n rfl
    split
    · rw [Int.max_eq_left (by omega), Int.min_eq_right (by omega)]; omega
    · rw [Int.max_eq_right (by omega), Int.min_eq_left (by omega)]
  have HF := Lib.hid hfin
  clear hfin
  generalize hw : w.heap.size = B0 at *
  generalize hw1 : W1.heap.size = Bn at *
  have hmm : 0 ≤ min a b ∧ min a b ≤ max a b ∧ max a b ≤ 100000 := by omega
  generalize hlo : min a b = lo at *
  refine wpIn_rangeFunc_ownG (F := Fence.wide) rfl (by omega) (gf := 45) (lb := #[.pointer (some ⟨Bf, 0, none⟩), .pointer (some ⟨Bs, 0, none⟩), .pointer (some ⟨Bis, 0, none⟩)]) rfl trivial (enters_of Try.func45 (by kernel_rfl) rfl)
    hst (fun h k => Same.trans h k) (Same.put (n := W0.heap.size) hS1) (Below.refl _ _) (fun _ => rfl)
    (fun pre W => (Blk W Bn 3 #[.int .i64 (pre.length : Int)] ∧ (Blk W (B0 + 1) 3 #[.int .i64 a] ∧ (Blk W (B0 + 1 + 1) 3 #[.int .i64 b] ∧ ((∀ x, x ∈ pre → x < max a b) ∧ Below B0 w W)))))
    (fun c pre W => (c = .exit 0 ∧ (∃ p d, pre = p ++ [d] ∧ (∀ x, x ∈ p → x < max a b) ∧ max a b ≤ d)) ∧ (Blk W Bn 3 #[.int .i64 ((pre.length : Int) - 1)] ∧ (Blk W (B0 + 1) 3 #[.int .i64 a] ∧ (Blk W (B0 + 1 + 1) 3 #[.int .i64 b] ∧ Below B0 w W))))
    (OwnFrom.and (Own.from (blk_own Bn 3 (fun pre : List Int => #[.int .i64 (pre.length : Int)])) _) (OwnFrom.and (Own.from (blk_own (B0 + 1) 3 (fun _ : List Int => #[.int .i64 a])) _) (OwnFrom.and (Own.from (blk_own (B0 + 1 + 1) 3 (fun _ : List Int => #[.int .i64 b])) _) (OwnFrom.and (ownFrom_pure _ (fun pre : List Int => ∀ x, x ∈ pre → x < max a b)) (ownFrom_below (by omega) hle)))))
    (fun c => OwnFrom.and (ownFrom_pure _ (fun pre : List Int => c = .exit 0 ∧ (∃ p d, pre = p ++ [d] ∧ (∀ x, x ∈ p → x < max a b) ∧ max a b ≤ d))) (OwnFrom.and (Own.from (blk_own Bn 3 (fun pre : List Int => #[.int .i64 ((pre.length : Int) - 1)])) _) (OwnFrom.and (Own.from (blk_own (B0 + 1) 3 (fun _ : List Int => #[.int .i64 a])) _) (OwnFrom.and (Own.from (blk_own (B0 + 1 + 1) 3 (fun _ : List Int => #[.int .i64 b])) _) (ownFrom_below (by omega) hle)))))
    ⟨bn, ba, bb, by simp, hB0⟩
    (fun x => { tmps := #[.agg #[.int .u8 wk, v], .int .i64 a, .int .i64 b, .pointer (some ⟨B0, 0, none⟩), .pointer (some ⟨B0 + 1, 0, none⟩), .pointer (some ⟨B0 + 1 + 1, 0, none⟩), .int .i64 0, .int .i64 0, .int .i64 0, .pointer (some ⟨Bn, 0, none⟩), .int .i64 x, .agg #[.int .u8 wk, v], .int .i64 0, .int .i64 0, .bool false, undef, .int .i64 a, .bool true, .bool false, .bool false, .int .i64 b, .bool true, .bool false, .bool false, .agg #[.int .u8 wk, v], .int .i64 a, .int .i64 b, .int .i64 lo, .func (.func 45) #[] #[.pointer (some ⟨Bf, 0, none⟩), .pointer (some ⟨Bs, 0, none⟩), .pointer (some ⟨Bis, 0, none⟩)], .int .i64 x, undef, undef, undef, undef, undef, undef, undef, undef, undef, undef, undef, undef, undef], defers := [] }) ?assign ?body ?done ?stop
  case assign =>
    intro l x W K hK
    gi_wp2
    exact hK
  case body =>
    rintro l pre x W ⟨vn, va, vb, hall, hBW⟩ hlr
    have hcn := vn.cell 0
    have hca := va.cell 0
    have hcb := vb.cell 0
    have hfn := vn.frozen 0
    have hall := Lib.hid hall
    by_cases hx : max a b ≤ x
    · gi_wp2_with fail
      have e : ((pre ++ [x]).length : Int) - 1 = pre.length := by simp
      exact ⟨KeepsFrom.refl _ _, ⟨rfl, pre, x, rfl, hall.out, hx⟩, by rw [e]; exact vn, va, vb, hBW⟩
    · have hlr2 : (pre.length : Int) ≤ 100000 := by omega
      gi_wp2_with fail
      have e : (pre.length : Int) + 1 = ((pre ++ [x]).length : Int) := by simp
      refine ⟨(KeepsOthers.setCell _ _ _).from _, Same.set hn1 _ _, by rw [← e]; exact vn.set 0 _, va.other (by omega) _, vb.other (by omega) _, ?_, hBW.setCell (p := ⟨Bn, 0, none⟩) (by show B0 ≤ Bn; omega) _⟩
      intro y hy
      rcases List.mem_append.1 hy with h | h
      · exact hall.out y h
      · simp at h; omega
  case done =>
    rintro D ys W hD rfl ⟨vn, va, vb, hall, hBW⟩ hK
    have hcn := vn.cell 0
    have hca := va.cell 0
    have hcb := vb.cell 0
    have hfn := vn.frozen 0
    have hv := Z.count_done hmm.1 hmm.2.1 hmm.2.2 hall
    have hlen : 0 ≤ ((Z.bday (Z.opn wk hs) lo 1).length : Int) ∧ ((Z.bday (Z.opn wk hs) lo 1).length : Int) ≤ 100000 := by
      have := pre_len (Z.opn wk hs) lo 1 (Z.room lo 1)
      unfold Z.bday; omega
    generalize ((Z.bday (Z.opn wk hs) lo 1).length : Int) = n at *
    have hn0 := HF.out n hv
    clear hv hall
    by_cases hba : b < a
    · rw [if_pos hba] at hn0
      have HN := Lib.hid hn0
      clear hn0
      gi_wp2_with fail
      have hK' := (KeepsOthers.setCell W ⟨Bn, 0, none⟩ (.int .i64 (-n))).same D _ hK rfl
      refine ⟨by simp, .inl ⟨_, _, rfl, run_takeDeferred hK', ?_⟩⟩
      exact ⟨_, results_tmp2 rfl _ _ _, countRet_ok HK.out HA.out HB.out HN.out (by rw [hw]; exact (hBW.setCell (p := ⟨Bn, 0, none⟩) (by show B0 ≤ Bn; omega) _).trans (belowK_b (w := W0) hle _ D _ _ hD hK' rfl rfl))⟩
    · rw [if_neg hba] at hn0
      have HN := Lib.hid hn0
      clear hn0
      gi_wp2_with fail
      refine ⟨by simp, .inl ⟨_, _, rfl, run_takeDeferred hK, ?_⟩⟩
      exact ⟨_, results_tmp2 rfl _ _ _, countRet_ok HK.out HA.out HB.out HN.out (by rw [hw]; exact hBW.trans (belowK_b (w := W0) hle _ D _ _ hD hK rfl rfl))⟩
  case stop =>
    rintro D c pre W hD hpre ⟨⟨rfl, p, d, rfl, hp, hd⟩, vn, va, vb, hBW⟩ hK
    have e : ((p ++ [d]).length : Int) - 1 = p.length := by simp
    rw [e] at vn
    have hcn := vn.cell 0
    have hca := va.cell 0
    have hcb := vb.cell 0
    have hfn := vn.frozen 0
    have hv := Z.count_stop hmm.1 hmm.2.1 hpre hp hd
    have hlen : 0 ≤ (p.length : Int) ∧ (p.length : Int) ≤ 100000 := by
      have h1 := pre_len (Z.opn wk hs) lo 1 (Z.room lo 1)
      have h2 := hpre.length_le
      unfold Z.bday at h2
      simp at h2
      omega
    clear e hpre hp
    generalize (p.length : Int) = n at *
    have hn0 := HF.out n hv
    clear hv
    by_cases hba : b < a
    · rw [if_pos hba] at hn0
      have HN := Lib.hid hn0
      clear hn0
      gi_wp2_with fail
      have hK' := (KeepsOthers.setCell W ⟨Bn, 0, none⟩ (.int .i64 (-n))).same D _ hK rfl
      refine ⟨by simp, .inl ⟨_, _, rfl, run_takeDeferred hK', ?_⟩⟩
      exact ⟨_, results_tmp2 rfl _ _ _, countRet_ok HK.out HA.out HB.out HN.out (by rw [hw]; exact (hBW.setCell (p := ⟨Bn, 0, none⟩) (by show B0 ≤ Bn; omega) _).trans (belowK_b (w := W0) hle _ D _ _ hD hK' rfl rfl))⟩
    · rw [if_neg hba] at hn0
      have HN := Lib.hid hn0
      clear hn0
      gi_wp2_with fail
      refine ⟨by simp, .inl ⟨_, _, rfl, run_takeDeferred hK, ?_⟩⟩
      exact ⟨_, results_tmp2 rfl _ _ _, countRet_ok HK.out HA.out HB.out HN.out (by rw [hw]; exact hBW.trans (belowK_b (w := W0) hle _ D _ _ hD hK rfl rfl))⟩
theorem ccount_any (wk : Int) (v : Value) (hs : List Int) (a b : Int) (w : World) (hSI : SI w v hs) (hk0 : 0 ≤ wk) :
    Calls Try.prog 14 #[.agg #[.int .u8 wk, v], .int .i64 a, .int .i64 b] w (CountRet wk hs a b w) := by
  by_cases h : Z.calB wk hs = true ∧ Z.inR a = true ∧ Z.inR b = true
  · exact ccount_yes wk v hs a b w hSI hk0 h.1 h.2.1 h.2.2
  · exact ccount_no wk v hs a b w hSI h
end Go.Proofs.Ytmbbpimihnojeaa
