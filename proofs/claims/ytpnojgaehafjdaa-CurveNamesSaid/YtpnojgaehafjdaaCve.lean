/- Walks: the last knot of a curve; whether it covers days. -/
import Derived.Test.YtpnojgaehafjdaaCvk
import Derived.RegionIn
namespace Go.Proofs.Ytpnojgaehafjdaa
open Go.RowKit Go.Shelf
attribute [local go_sem] Oper.semAt_some

def lastOf (pre : List (Int × ByteArray)) : Int × ByteArray := pre.getLastD (0, ⟨#[]⟩)
/-- The last of some knots. -/
def lastK {c : Z.Cu} (pre : List (Kn c)) : Int × ByteArray := lastOf (pre.map Subtype.val)
theorem lastK_snoc {c : Z.Cu} (pre : List (Kn c)) (x : Kn c) : lastK (pre ++ [x]) = x.1 := by simp [lastK, lastOf]
theorem lastOf_map : ∀ (l : List Z.Pt) (d : Int) (f : ByteArray), lastOf ((d, f) :: l.map fun p => (p.d, p.f)) = Z.endK d f l
  | [], _, _ => rfl
  | p :: r, d, f => by
    have ih := lastOf_map r p.d p.f
    unfold lastOf at ih ⊢
    rw [List.map_cons, List.getLastD_cons, List.getLastD_cons]
    rw [List.getLastD_cons] at ih
    exact ih
theorem lastK_kns (c : Z.Cu) : lastK c.kns = c.endK := by
  unfold lastK
  rw [kns_map]
  exact lastOf_map c.pts c.base Z.z49
set_option maxRecDepth 100000 in
set_option maxHeartbeats 2000000 in
theorem end_any (c : Z.Cu) (v : Value) (w : World) (hSP : SP w v c.pts) :
    Calls Try.prog 43 #[.agg #[.int .i64 c.base, v]] w fun e w' => e = .returned (.tuple #[.int .i64 c.endK.1, .string c.endK.2]) ∧ Below w.heap.size w w' := by
  refine (callsIn_wide (n := 6)).1 ?_
  refine callsIn_of_wp_marks Try.func43 rfl trivial ?_ rfl
  simp only [Try.ntmps43, List.size_toArray, List.length_cons, List.length_nil, Nat.reduceAdd, Nat.reduceSub, Array.replicate_succ, Array.replicate_zero, List.push_toArray, List.append_toArray, List.nil_append, List.cons_append]
  gi_wp2_with fail
  refine ⟨trivial, (callsIn_wide.2 (knots_any _ _ _)).mono ?_⟩
  rintro e W0 ⟨rfl, rfl⟩
  gi_wp2_with fail
  have hB0 : Below w.heap.size w ((((w.alloc (.cells #[.int .i64 c.base, v] 27)).alloc (.cells #[.int .i64 0] 3)).alloc (.cells #[.string ⟨#[]⟩] 35)).alloc (.cells #[.int .i64 c.base, v] 27)) := ((((Below.refl _ w).alloc (Nat.le_refl _) _).alloc (by simp) _).alloc (by simp; omega) _).alloc (by simp; omega) _
  have bd : Blk ((((w.alloc (.cells #[.int .i64 c.base, v] 27)).alloc (.cells #[.int .i64 0] 3)).alloc (.cells #[.string ⟨#[]⟩] 35)).alloc (.cells #[.int .i64 c.base, v] 27)) (w.heap.size + 1) 3 #[.int .i64 0] := by
    have h := ((Blk.new (w.alloc (.cells #[.int .i64 c.base, v] 27)) 3 #[.int .i64 0]).alloc (.cells #[.string ⟨#[]⟩] 35)).alloc (.cells #[.int .i64 c.base, v] 27)
    rwa [World.size_alloc] at h
  have bf : Blk ((((w.alloc (.cells #[.int .i64 c.base, v] 27)).alloc (.cells #[.int .i64 0] 3)).alloc (.cells #[.string ⟨#[]⟩] 35)).alloc (.cells #[.int .i64 c.base, v] 27)) (w.heap.size + 1 + 1) 35 #[.string ⟨#[]⟩] := by
    have h := (Blk.new ((w.alloc (.cells #[.int .i64 c.base, v] 27)).alloc (.cells #[.int .i64 0] 3)) 35 #[.string ⟨#[]⟩]).alloc (.cells #[.int .i64 c.base, v] 27)
    rwa [World.size_alloc, World.size_alloc] at h
  have bc : Blk ((((w.alloc (.cells #[.int .i64 c.base, v] 27)).alloc (.cells #[.int .i64 0] 3)).alloc (.cells #[.string ⟨#[]⟩] 35)).alloc (.cells #[.int .i64 c.base, v] 27)) (w.heap.size + 1 + 1 + 1) 27 #[.int .i64 c.base, v] := by
    have h := Blk.new (((w.alloc (.cells #[.int .i64 c.base, v] 27)).alloc (.cells #[.int .i64 0] 3)).alloc (.cells #[.string ⟨#[]⟩] 35)) 27 #[.int .i64 c.base, v]
    rwa [World.size_alloc, World.size_alloc, World.size_alloc] at h
  generalize ((((w.alloc (.cells #[.int .i64 c.base, v] 27)).alloc (.cells #[.int .i64 0] 3)).alloc (.cells #[.string ⟨#[]⟩] 35)).alloc (.cells #[.int .i64 c.base, v] 27)) = W0 at *
  have hle : w.heap.size ≤ W0.heap.size := hB0.size
  have lc := bc.lt
  obtain ⟨S, hS⟩ : ∃ S : Nat → Prop, S = fun k => k < w.heap.size ∨ k = w.heap.size + 1 + 1 + 1 := ⟨_, rfl⟩
  have hS1 : ∀ k, S k → k < W0.heap.size := by rw [hS]; intro k hk; omega
  have hn1 : ¬ S (w.heap.size + 1) := by rw [hS]; omega
  have hn2 : ¬ S (w.heap.size + 1 + 1) := by rw [hS]; omega
  have hDD : ∀ W, Same S W0 W → Blk W (w.heap.size + 1 + 1 + 1) 27 #[.int .i64 c.base, v] ∧ SP W v c.pts := fun W h =>
    ⟨bc.same (by rw [hS]; simp) h, hSP.same (fun k hk => (h k (by rw [hS]; exact .inl hk)).trans (hB0.block k hk))⟩
  clear hS
  have hst := knots_stops (6 - 1) (by omega) (w.heap.size + 1 + 1 + 1) c v S W0 hS1 hDD
  clear hDD bc
  generalize hw : w.heap.size = B0 at *
  refine rangeFunc_asg (F := Fence.wide) rfl (by omega) (gf := 65) (lb := #[.pointer (some ⟨B0 + 1 + 1 + 1, 0, none⟩)]) rfl trivial (enters_of Try.func65 (by kernel_rfl) rfl)
    hst (fun h k => Same.trans h k) (Same.put (n := W0.heap.size) hS1) (Below.refl _ _) (fun _ => rfl)
    (fun pre W => Blk W (B0 + 1) 3 #[.int .i64 (lastK pre).1] ∧ (Blk W (B0 + 1 + 1) 35 #[.string (lastK pre).2] ∧ Below B0 w W))
    (OwnFrom.and (Own.from (blk_own (B0 + 1) 3 (fun pre : List (Kn c) => #[.int .i64 (lastK pre).1])) _) (OwnFrom.and (Own.from (blk_own (B0 + 1 + 1) 35 (fun pre : List (Kn c) => #[.string (lastK pre).2])) _) (ownFrom_below (by omega) hle)))
    ⟨bd, bf, hB0⟩
    (fun _ x a' W => a' = { tmps := #[.agg #[.int .i64 c.base, v], .pointer (some ⟨B0, 0, none⟩), .pointer (some ⟨B0 + 1, 0, none⟩), .pointer (some ⟨B0 + 1 + 1, 0, none⟩), .agg #[.int .i64 c.base, v], .func (.func 65) #[] #[.pointer (some ⟨B0 + 1 + 1 + 1, 0, none⟩)], .int .i64 x.1.1, .string x.1.2, undef, undef], defers := [] } ∧ (Blk W (B0 + 1) 3 #[.int .i64 x.1.1] ∧ (Blk W (B0 + 1 + 1) 35 #[.string x.1.2] ∧ Below B0 w W)))
    (fun _ x a' => OwnFrom.and (ownFrom_pure _ (fun _ : Unit => a' = { tmps := #[.agg #[.int .i64 c.base, v], .pointer (some ⟨B0, 0, none⟩), .pointer (some ⟨B0 + 1, 0, none⟩), .pointer (some ⟨B0 + 1 + 1, 0, none⟩), .agg #[.int .i64 c.base, v], .func (.func 65) #[] #[.pointer (some ⟨B0 + 1 + 1 + 1, 0, none⟩)], .int .i64 x.1.1, .string x.1.2, undef, undef], defers := [] })) (OwnFrom.and (Own.from (blk_own (B0 + 1) 3 (fun _ : Unit => #[.int .i64 x.1.1])) _) (OwnFrom.and (Own.from (blk_own (B0 + 1 + 1) 35 (fun _ : Unit => #[.string x.1.2])) _) (ownFrom_below (by omega) hle)))) ?assign ?body ?done
  case assign =>
    rintro l pre x W K ⟨v1, v2, hBW⟩ hK
    have c1 := v1.cell 0
    have f1 := v1.frozen 0
    have c2 := v2.cell 0
    have f2 := v2.frozen 0
    gi_wp2_with fail
    exact hK _ _ (((KeepsOthers.setCell _ _ _).trans (KeepsOthers.setCell _ _ _)).from _) ((Same.set hn1 _ _).trans (Same.set hn2 _ _)) ⟨rfl, (v1.set 0 _).other (by omega) _, (v2.other (by omega) _).set 0 _, (hBW.setCell (p := ⟨B0 + 1, 0, none⟩) (by simp) _).setCell (p := ⟨B0 + 1 + 1, 0, none⟩) (by simp; omega) _⟩
  case body =>
    rintro l pre x a' W ⟨rfl, v1, v2, hBW⟩ _
    gi_wp2_with fail
    exact ⟨KeepsFrom.refl _ _, Same.refl _ _, by rw [lastK_snoc]; exact v1, by rw [lastK_snoc]; exact v2, hBW⟩
  case done =>
    rintro D ys W hD rfl ⟨v1, v2, hBW⟩ hK
    rw [lastK_kns] at v1 v2
    have c1 := v1.cell 0
    have f1 := v1.frozen 0
    have c2 := v2.cell 0
    have f2 := v2.frozen 0
    gi_wp2_with fail
    gi_region
    gi_wp2_with fail
    have hK' : ((W.setCell ⟨B0 + 1, 0, none⟩ (.int .i64 c.endK.1)).setCell ⟨B0 + 1 + 1, 0, none⟩ (.string c.endK.2)).drew.heap[D]? = some (.deferred (some [])) := ((KeepsOthers.setCell W ⟨B0 + 1, 0, none⟩ (.int .i64 c.endK.1)).trans (KeepsOthers.setCell _ ⟨B0 + 1 + 1, 0, none⟩ (.string c.endK.2))).same D _ hK rfl
    refine ⟨by simp, .inl ⟨_, _, rfl, run_takeDeferred hK', ?_⟩⟩
    have s1 : Blk ((W.setCell ⟨B0 + 1, 0, none⟩ (.int .i64 c.endK.1)).setCell ⟨B0 + 1 + 1, 0, none⟩ (.string c.endK.2)).drew (B0 + 1) 3 #[.int .i64 c.endK.1] := (v1.set 0 _).other (by omega) _
    have s2 : Blk ((W.setCell ⟨B0 + 1, 0, none⟩ (.int .i64 c.endK.1)).setCell ⟨B0 + 1 + 1, 0, none⟩ (.string c.endK.2)).drew (B0 + 1 + 1) 35 #[.string c.endK.2] := (v2.other (by omega) _).set 0 _
    have c1 := cell_kept (s1.cell 0) (grownBy_putObj' _ D (.deferred none)) (fun r e => by cases e; exact ⟨_, hK', rfl⟩)
    have c2 := cell_kept (s2.cell 0) (grownBy_putObj' _ D (.deferred none)) (fun r e => by cases e; exact ⟨_, hK', rfl⟩)
    refine ⟨.tuple #[.int .i64 c.endK.1, .string c.endK.2], ?_, rfl, by rw [hw]; exact ((hBW.setCell (p := ⟨B0 + 1, 0, none⟩) (by simp) _).setCell (p := ⟨B0 + 1 + 1, 0, none⟩) (by simp; omega) _).drew.trans (belowK_b (w := W0) hle _ D _ _ hD hK' rfl rfl)⟩
    simp [results, Try.f43, go_sem, c1, c2]
theorem all_drop {f : Int → Bool} {ds : List Int} {k : Nat} {d : Int} (h : ds[k]? = some d) : (ds.drop k).all f = (f d && (ds.drop (k + 1)).all f) := by
  obtain ⟨hlt, rfl⟩ := List.getElem?_eq_some_iff.1 h
  rw [List.drop_eq_getElem_cons hlt]
  rfl
theorem covers_any (c : Z.Cu) (v dv : Value) (ds : List Int) (w : World) (hSP : SP w v c.pts) (hSD : SD w dv ds) :
    Calls Try.prog 30 #[.agg #[.int .i64 c.base, v], dv] w fun e w' => e = .returned (.bool (ds.all c.has)) ∧ Below w.heap.size w w' := by
  have hb0 := (Below.refl _ w).alloc (Nat.le_refl w.heap.size) (.cells #[.int .i64 c.base, v] 27)
  have BL := Blk.new w 27 #[.int .i64 c.base, v]
  have hl0 := BL.cell 0
  have hl1 := BL.cell 1
  have HE := Lib.hid (end_any c v _ (hSP.alloc (.cells #[.int .i64 c.base, v] 27)))
  have HA : Hid (∀ d, c.has d = (decide (c.base ≤ d) && decide (d ≤ c.endK.1))) := Lib.hid fun _ => rfl
  obtain ⟨A, cp, rfl, hlc, hcm⟩ := hSD.shape
  unfold maxLen at hcm
  generalize c.endK = en at *
  go_enter Try.func30, Try.ntmps30
  go_wp2_with fail
  refine HE.out.mono ?_
  rintro e w1 ⟨rfl, hb1⟩
  have hbw := hb0.trans (hb1.mono hb0.size)
  have hl0 := (BL.below hb1).cell 0
  have HS := Lib.hid (hSD.below hbw)
  have HB := Lib.hid hbw
  clear HE BL hl1 hb0 hb1 hSP hSD hbw
  have HK0 : Hid (ds.all c.has = (ds.drop 0).all c.has) := Lib.hid rfl
  go_wp2_with fail
  go_loop [16] (fun iv => ∃ k : Nat, k ≤ ds.length ∧ iv = .int .i64 k ∧ Hid (ds.all c.has = (ds.drop k).all c.has)) (fun iv => ds.length - (intOf iv).toNat)
  case atStart => exact ⟨0, by omega, rfl, HK0⟩
  case round =>
    obtain ⟨k, hk, rfl, HK⟩ := hrel
    clear HK0
    by_cases hlt : k < ds.length
    · have hz : ds[k]? = some ds[k] := List.getElem?_eq_getElem hlt
      obtain ⟨b, o, rfl, hb, hc⟩ := HS.out.cell1 hz rfl
      have HD := Lib.hid (all_drop (f := c.has) hz)
      generalize ds[k] = d at *
      have HAd := Lib.hid (HA.out d)
      clear hz
      by_cases h1 : d < c.base
      · go_wp2_with fail
        go_ret
        refine ⟨ret_bool ?_, HB.out⟩
        rw [HK.out, HD.out, HAd.out, decide_eq_false (by omega)]; rfl
      · by_cases h2 : d > en.1
        · go_wp2_with fail
          go_ret
          refine ⟨ret_bool ?_, HB.out⟩
          rw [HK.out, HD.out, HAd.out, decide_eq_false (by omega : ¬ d ≤ en.1)]; simp
        · have HN : Hid (ds.all c.has = (ds.drop (k + 1)).all c.has) := Lib.hid (by rw [HK.out, HD.out, HAd.out, decide_eq_true (by omega : c.base ≤ d), decide_eq_true (by omega : d ≤ en.1)]; rfl)
          go_wp2_with fail
          go_round
          case rel => exact ⟨k + 1, by omega, by go_num, HN⟩
          case measure => simp [intOf]; omega
    · obtain rfl : k = ds.length := by omega
      go_wp2_with fail
      go_ret
      refine ⟨ret_bool ?_, HB.out⟩
      rw [HK.out, List.drop_length]; rfl
end Go.Proofs.Ytpnojgaehafjdaa
