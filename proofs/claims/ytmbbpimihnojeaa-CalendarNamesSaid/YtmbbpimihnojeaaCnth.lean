/- Walks: calendar.days, calendar.nth. -/
import Derived.Test.YtmbbpimihnojeaaCdays
import Derived.Laws.EntriesVeiled
namespace Go.Proofs.Ytmbbpimihnojeaa
open Go.RowKit Go.Shelf
attribute [local go_sem] Oper.semAt_some

theorem days_stops (n : Nat) (hn : 1 ≤ n) (Bf Bs Bis Bc : Nat) (wk : Int) (v : Value) (hs : List Int) (a s : Int) (hk : Z.calB wk hs = true) (hk0 : 0 ≤ wk)
    (hss : s = 1 ∨ s = -1) (h1 : s = 1 → 0 ≤ a ∧ a ≤ 100000) (h2 : s = -1 → -1 ≤ a ∧ a ≤ 99999) (S : Nat → Prop) (W0 : World) (hS : ∀ k, S k → k < W0.heap.size) (hD : ∀ W, Same S W0 W → DaysAt W Bf Bs Bis Bc wk v hs a s) :
    SeqStopsK Fence.wide n Try.prog 45 #[.pointer (some ⟨Bf, 0, none⟩), .pointer (some ⟨Bs, 0, none⟩), .pointer (some ⟨Bis, 0, none⟩)] (fun x : Int => #[Value.int .i64 x]) (Same S) (fun ys => ys = Z.bday (Z.opn wk hs) a s) (fun p => p <+: Z.bday (Z.opn wk hs) a s) (Z.room a s) W0 := fun l J Jx W hW hJ _ hY h0 =>
  days1_in n hn l Bf Bs Bis Bc wk v hs a s hk hk0 hss h1 h2 S W0 hD J Jx (fun p X q hp => hJ p X _ none hp (grown_of_below (below_of_drewN _ _ _) none) (fun r e => by cases e)) hY W (Same.below hS hW) h0

def DaysRet (wk : Int) (v : Value) (a s : Int) (w : World) (e : Ending) (w' : World) : Prop :=
  ∃ Bf Bs Bis Bc : Nat, e = .returned (.func (.func 45) #[] #[.pointer (some ⟨Bf, 0, none⟩), .pointer (some ⟨Bs, 0, none⟩), .pointer (some ⟨Bis, 0, none⟩)]) ∧ Below w.heap.size w w' ∧
    w.heap.size ≤ Bf ∧ w.heap.size ≤ Bs ∧ w.heap.size ≤ Bis ∧ w.heap.size ≤ Bc ∧ Blk w' Bf 3 #[.int .i64 a] ∧ Blk w' Bs 3 #[.int .i64 s] ∧ Blk w' Bis 51 #[isV Bc] ∧ Blk w' Bc 24 #[.int .u8 wk, v]
theorem days_any (wk : Int) (v : Value) (a s : Int) (w : World) :
    Calls Try.prog 33 #[.agg #[.int .u8 wk, v], .int .i64 a, .int .i64 s] w (DaysRet wk v a s w) := by
  have hmf : ∀ (fn : Fn) (first cap : Array Value) (w : World), (Instr.makeFunc fn first cap).run Try.prog w = .ok (.func fn first cap) w := fun _ _ _ _ => rfl
  go_enter Try.func33, Try.ntmps33
  go_wp2_with fail
  refine (open_any _ _ _).mono ?_
  rintro e w' ⟨rfl, rfl⟩
  go_wp2_with fail
  go_ret
  refine ⟨w.heap.size + 1, w.heap.size + 1 + 1, w.heap.size + 1 + 1 + 1 + 1, w.heap.size + 1 + 1 + 1, rfl, ((((((Below.refl _ w).alloc (Nat.le_refl _) _).alloc (by simp) _).alloc (by simp; omega) _).alloc (by simp; omega) _)).alloc (by simp; omega) _, by omega, by omega, by omega, by omega, ?_, ?_, ?_, ?_⟩
  · have h := (((Blk.new (w.alloc (.cells #[.int .u8 wk, v] 24)) 3 #[.int .i64 a]).alloc (.cells #[.int .i64 s] 3)).alloc (.cells #[.int .u8 wk, v] 24)).alloc (.cells #[isV (w.heap.size + 1 + 1 + 1)] 51)
    rw [World.size_alloc] at h
    exact h
  · have h := ((Blk.new ((w.alloc (.cells #[.int .u8 wk, v] 24)).alloc (.cells #[.int .i64 a] 3)) 3 #[.int .i64 s]).alloc (.cells #[.int .u8 wk, v] 24)).alloc (.cells #[isV (w.heap.size + 1 + 1 + 1)] 51)
    rw [World.size_alloc, World.size_alloc] at h
    exact h
  · have h := Blk.new ((((w.alloc (.cells #[.int .u8 wk, v] 24)).alloc (.cells #[.int .i64 a] 3)).alloc (.cells #[.int .i64 s] 3)).alloc (.cells #[.int .u8 wk, v] 24)) 51 #[isV (w.heap.size + 1 + 1 + 1)]
    rw [World.size_alloc, World.size_alloc, World.size_alloc, World.size_alloc] at h
    exact h
  · have h := (Blk.new (((w.alloc (.cells #[.int .u8 wk, v] 24)).alloc (.cells #[.int .i64 a] 3)).alloc (.cells #[.int .i64 s] 3)) 24 #[.int .u8 wk, v]).alloc (.cells #[isV (w.heap.size + 1 + 1 + 1)] 51)
    rw [World.size_alloc, World.size_alloc, World.size_alloc] at h
    exact h

theorem Blk.other {W : World} {B C j : Nat} {t : TypeId} {cs : Array Value} (h : Blk W B t cs) (hne : B ≠ C) (v : Value) : Blk (W.setCell ⟨C, j, none⟩ v) B t cs :=
  (Below.heap_setCell _ _ _ B (fun e => hne e)).trans h
theorem nth_ret_some {P : Int → Bool} {a s m d : Int} {p : List Int} (h : p ++ [d] <+: Z.bday P a s) (hn : 1 ≤ m) (hl : (p.length : Int) = m - 1) :
    Ending.returned (.tuple #[.int .i64 d, .int .i64 0]) = .returned (.tuple #[.int .i64 (Z.nth P a s m).1, .int .i64 (Z.nth P a s m).2]) := by
  rw [Z.nth_stop h hn hl]
theorem nth_ret_none {P : Int → Bool} {a s m : Int} (hn : 1 ≤ m) (hl : ((Z.bday P a s).length : Int) < m) :
    Ending.returned (.tuple #[.int .i64 0, .int .i64 40]) = .returned (.tuple #[.int .i64 (Z.nth P a s m).1, .int .i64 (Z.nth P a s m).2]) := by
  rw [Z.nth_out hn hl]
set_option maxRecDepth 100000 in
set_option maxHeartbeats 2000000 in
theorem nth_any (wk : Int) (v : Value) (hs : List Int) (a s m : Int) (w : World) (hSI : SI w v hs) (hk : Z.calB wk hs = true) (hk0 : 0 ≤ wk)
    (hss : s = 1 ∨ s = -1) (h1 : s = 1 → 0 ≤ a ∧ a ≤ 100000) (h2 : s = -1 → -1 ≤ a ∧ a ≤ 99999) (hm : 1 ≤ m) (hm2 : m ≤ 100000) :
    Calls Try.prog 29 #[.agg #[.int .u8 wk, v], .int .i64 a, .int .i64 s, .int .i64 m] w fun e w' => e = .returned (.tuple #[.int .i64 (Z.nth (Z.opn wk hs) a s m).1, .int .i64 (Z.nth (Z.opn wk hs) a s m).2]) ∧ Below w.heap.size w w' := by
  refine (callsIn_wide (n := 6)).1 ?_
  refine callsIn_of_wp_marks Try.func29 rfl trivial ?_ rfl
  simp only [Try.ntmps29, List.size_toArray, List.length_cons, List.length_nil, Nat.reduceAdd, Nat.reduceSub, Array.replicate_succ, Array.replicate_zero, List.push_toArray, List.append_toArray, List.nil_append, List.cons_append]
  gi_wp2_with fail
  refine ⟨trivial, (callsIn_wide.2 (days_any _ _ _ _ _)).mono ?_⟩
  rintro e W0 ⟨Bf, Bs, Bis, Bc, rfl, hB, hlf, hls, hli, hlc, bf, bs, bi, bc⟩
  gi_wp2_with fail
  have hB0 : Below w.heap.size w W0 := ((((((Below.refl _ w).alloc (Nat.le_refl _) _).alloc (by simp) _).alloc (by simp; omega) _).alloc (by simp; omega) _)).trans (hB.mono (by simp; omega))
  have bn : Blk W0 (w.heap.size + 1) 3 #[.int .i64 m] := by
    have h := (((Blk.new (w.alloc (.cells #[.int .u8 wk, v] 24)) 3 #[.int .i64 m]).alloc (.cells #[.int .i64 0] 3)).alloc (.cells #[.int .i64 0] 26)).below hB
    rwa [World.size_alloc] at h
  have bx : Blk W0 (w.heap.size + 1 + 1) 3 #[.int .i64 0] := by
    have h := ((Blk.new ((w.alloc (.cells #[.int .u8 wk, v] 24)).alloc (.cells #[.int .i64 m] 3)) 3 #[.int .i64 0]).alloc (.cells #[.int .i64 0] 26)).below hB
    rwa [World.size_alloc, World.size_alloc] at h
  have be : Blk W0 (w.heap.size + 1 + 1 + 1) 26 #[.int .i64 0] := by
    have h := (Blk.new (((w.alloc (.cells #[.int .u8 wk, v] 24)).alloc (.cells #[.int .i64 m] 3)).alloc (.cells #[.int .i64 0] 3)) 26 #[.int .i64 0]).below hB
    rwa [World.size_alloc, World.size_alloc, World.size_alloc] at h
  have hSI0 := hSI.below hB0
  have hle : w.heap.size ≤ W0.heap.size := hB0.size
  simp only [World.size_alloc] at hlf hls hli hlc
  have lf := bf.lt
  have ls := bs.lt
  have li := bi.lt
  have lc := bc.lt
  have hle4 : w.heap.size + 1 + 1 + 1 < W0.heap.size := be.lt
  clear hB
  obtain ⟨S, hS⟩ : ∃ S : Nat → Prop, S = fun k => k < w.heap.size ∨ k = Bf ∨ k = Bs ∨ k = Bis ∨ k = Bc := ⟨_, rfl⟩
  have hS1 : ∀ k, S k → k < W0.heap.size := by rw [hS]; intro k hk; omega
  have hn1 : ¬ S (w.heap.size + 1) := by rw [hS]; omega
  have hn2 : ¬ S (w.heap.size + 1 + 1) := by rw [hS]; omega
  have hn3 : ¬ S (w.heap.size + 1 + 1 + 1) := by rw [hS]; omega
  have hDD : ∀ W, Same S W0 W → DaysAt W Bf Bs Bis Bc wk v hs a s := fun W h =>
    ⟨bf.same (by rw [hS]; simp) h, bs.same (by rw [hS]; simp) h, bi.same (by rw [hS]; simp) h, bc.same (by rw [hS]; simp) h, by
      refine hSI.same (fun k hk => ?_)
      exact (h k (by rw [hS]; exact .inl hk)).trans (hB0.block k hk)⟩
  clear hS
  have hst := days_stops (6 - 1) (by omega) Bf Bs Bis Bc wk v hs a s hk hk0 hss h1 h2 S W0 hS1 hDD
  clear hDD bf bs bi bc hSI0
  generalize hw : w.heap.size = B0 at *
  refine wpIn_rangeFunc_ownG (F := Fence.wide) rfl (by omega) (gf := 45) (lb := #[.pointer (some ⟨Bf, 0, none⟩), .pointer (some ⟨Bs, 0, none⟩), .pointer (some ⟨Bis, 0, none⟩)]) rfl trivial (enters_of Try.func45 (by kernel_rfl) rfl)
    hst (fun h k => Same.trans h k) (Same.put (n := W0.heap.size) hS1) (Below.refl _ _) (fun _ => rfl)
    (fun pre W => (Blk W (B0 + 1) 3 #[.int .i64 (m - (pre.length : Int))] ∧ (Blk W (B0 + 1 + 1) 3 #[.int .i64 0] ∧ (Blk W (B0 + 1 + 1 + 1) 26 #[.int .i64 0] ∧ ((pre.length : Int) < m ∧ Below B0 w W)))))
    (fun c pre W => (c = .ret ∧ (∃ p d, pre = p ++ [d] ∧ (p.length : Int) = m - 1)) ∧ (Blk W (B0 + 1 + 1) 3 #[.int .i64 (pre.getLastD 0)] ∧ (Blk W (B0 + 1 + 1 + 1) 26 #[.int .i64 0] ∧ Below B0 w W)))
    (OwnFrom.and (Own.from (blk_own (B0 + 1) 3 (fun pre : List Int => #[.int .i64 (m - (pre.length : Int))])) _) (OwnFrom.and (Own.from (blk_own (B0 + 1 + 1) 3 (fun _ : List Int => #[.int .i64 0])) _) (OwnFrom.and (Own.from (blk_own (B0 + 1 + 1 + 1) 26 (fun _ : List Int => #[.int .i64 0])) _) (OwnFrom.and (ownFrom_pure _ (fun pre : List Int => (pre.length : Int) < m)) (ownFrom_below (by omega) hle)))))
    (fun c => OwnFrom.and (ownFrom_pure _ (fun pre : List Int => c = .ret ∧ (∃ p d, pre = p ++ [d] ∧ (p.length : Int) = m - 1))) (OwnFrom.and (Own.from (blk_own (B0 + 1 + 1) 3 (fun pre : List Int => #[.int .i64 (pre.getLastD 0)])) _) (OwnFrom.and (Own.from (blk_own (B0 + 1 + 1 + 1) 26 (fun _ : List Int => #[.int .i64 0])) _) (ownFrom_below (by omega) hle))))
    ⟨by simpa using bn, bx, be, by simp; omega, hB0⟩
    (fun x => { tmps := #[.agg #[.int .u8 wk, v], .int .i64 a, .int .i64 s, .int .i64 m, .pointer (some ⟨B0, 0, none⟩), undef, undef, .pointer (some ⟨B0 + 1, 0, none⟩), .pointer (some ⟨B0 + 1 + 1, 0, none⟩), .pointer (some ⟨B0 + 1 + 1 + 1, 0, none⟩), .int .i64 x, .agg #[.int .u8 wk, v], .int .i64 a, .int .i64 s, .func (.func 45) #[] #[.pointer (some ⟨Bf, 0, none⟩), .pointer (some ⟨Bs, 0, none⟩), .pointer (some ⟨Bis, 0, none⟩)], .int .i64 x, undef, undef, undef, undef, undef], defers := [] }) ?assign ?body ?done ?stop
  case assign =>
    intro l x W K hK
    gi_wp2
    exact hK
  case body =>
    rintro l pre x W ⟨vn, vx, ve, hlt, hBW⟩ _
    have hcn := vn.cell 0
    have hcx := vx.cell 0
    have hce := ve.cell 0
    have hfn := vn.frozen 0
    have hfx := vx.frozen 0
    have hfe := ve.frozen 0
    by_cases hl1 : m - (pre.length : Int) = 1
    · rw [hl1] at hcn
      gi_wp2_with fail
      have e : (pre ++ [x]).getLastD 0 = x := by simp
      exact ⟨((KeepsOthers.setCell _ _ _).trans ((KeepsOthers.setCell _ _ _).trans (KeepsOthers.setCell _ _ _))).from _, ⟨rfl, pre, x, rfl, by omega⟩, by rw [e]; exact ((vx.other (by omega) _).set 0 _).other (by omega) _, ((ve.other (by omega) _).other (by omega) _).set 0 _, ((hBW.setCell (p := ⟨B0 + 1, 0, none⟩) (by simp) _).setCell (p := ⟨B0 + 1 + 1, 0, none⟩) (by simp; omega) _).setCell (p := ⟨B0 + 1 + 1 + 1, 0, none⟩) (by simp; omega) _⟩
    · have hb1 : ((m - (pre.length : Int) - 1) == 0) = false := by rw [beq_eq_false_iff_ne]; omega
      gi_wp2_with fail
      have e : m - (pre.length : Int) - 1 = m - ((pre ++ [x]).length : Int) := by simp; omega
      exact ⟨(KeepsOthers.setCell _ _ _).from _, Same.set hn1 _ _, by rw [← e]; exact vn.set 0 _, vx.other (by omega) _, ve.other (by omega) _, by simp; omega, hBW.setCell (p := ⟨B0 + 1, 0, none⟩) (by simp) _⟩
  case done =>
    rintro D ys W hD rfl ⟨vn, vx, ve, hlt, hBW⟩ hK
    have hcx := vx.cell 0
    have hce := ve.cell 0
    have hfx := vx.frozen 0
    have hfe := ve.frozen 0
    gi_wp2_with fail
    have hK' := ((KeepsOthers.setCell W ⟨B0 + 1 + 1, 0, none⟩ (.int .i64 0)).trans (KeepsOthers.setCell _ ⟨B0 + 1 + 1 + 1, 0, none⟩ (.int .i64 40))).same D _ hK rfl
    refine ⟨by simp, .inl ⟨_, _, rfl, run_takeDeferred hK', ?_⟩⟩
    have c1 := cell_kept (((vx.set 0 (.int .i64 0)).other (C := B0 + 1 + 1 + 1) (j := 0) (by omega) (.int .i64 40)).cell 0) (grownBy_putObj' _ D (.deferred none)) (fun r e => by cases e; exact ⟨_, hK', rfl⟩)
    have c2 := cell_kept (((ve.other (C := B0 + 1 + 1) (j := 0) (by omega) (.int .i64 0)).set 0 (.int .i64 40)).cell 0) (grownBy_putObj' _ D (.deferred none)) (fun r e => by cases e; exact ⟨_, hK', rfl⟩)
    refine ⟨.tuple #[.int .i64 0, .int .i64 40], ?_, nth_ret_none hm hlt, by rw [hw]; exact ((hBW.setCell (p := ⟨B0 + 1 + 1, 0, none⟩) (by simp; omega) _).setCell (p := ⟨B0 + 1 + 1 + 1, 0, none⟩) (by simp; omega) _).trans (belowK_b (w := W0) hle _ D _ _ hD hK' rfl rfl)⟩
    simp [results, Try.f29, go_sem, c1, c2]
  case stop =>
    rintro D c pre W hD hpre ⟨⟨rfl, p, d, rfl, hpl⟩, vx, ve, hBW⟩ hK
    gi_wp2_with fail
    refine ⟨by simp, .inl ⟨_, _, rfl, run_takeDeferred hK, ?_⟩⟩
    have e : (p ++ [d]).getLastD 0 = d := by simp
    rw [e] at vx
    have c1 := cell_kept (vx.cell 0) (grownBy_putObj' _ D (.deferred none)) (fun r e => by cases e; exact ⟨_, hK, rfl⟩)
    have c2 := cell_kept (ve.cell 0) (grownBy_putObj' _ D (.deferred none)) (fun r e => by cases e; exact ⟨_, hK, rfl⟩)
    refine ⟨.tuple #[.int .i64 d, .int .i64 0], ?_, nth_ret_some hpre hm hpl, by rw [hw]; exact hBW.trans (belowK_b (w := W0) hle _ D _ _ hD hK rfl rfl)⟩
    simp [results, Try.f29, go_sem, c1, c2]
end Go.Proofs.Ytmbbpimihnojeaa
