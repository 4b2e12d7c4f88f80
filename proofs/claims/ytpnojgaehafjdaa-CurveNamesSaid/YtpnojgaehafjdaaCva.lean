/- Walks: the chapter's example of curves, and alive. -/
import Derived.Test.YtpnojgaehafjdaaCvh
namespace Go.Proofs.Ytpnojgaehafjdaa
open Go.RowKit
namespace Z
def exQ1 : Qt := ⟨[10], [⟨#[49]⟩], ⟨#[49, 47, 49, 48]⟩⟩
def exQ2 : Qt := ⟨[10, 20], [⟨#[49]⟩, ⟨#[49]⟩], ⟨#[49, 47, 49, 48]⟩⟩
def exQ : List Qt := [exQ1, exQ2]
def exC : Cu := ⟨0, [⟨10, ⟨#[49, 48, 47, 49, 49]⟩⟩, ⟨20, ⟨#[49, 48, 48, 47, 49, 50, 49]⟩⟩]⟩
theorem ex_boot : bootR 0 exQ = (exC, 0) := by kernel_rfl
theorem ex_fac : factorR exC 15 = (⟨#[49, 48, 53, 47, 49, 50, 49]⟩, 0) := by kernel_rfl
theorem ex_price : priceR exC exQ2 = (⟨#[48]⟩, 0) := by kernel_rfl
end Z
/-- A block that holds elements is a slice of them. -/
theorem blk_sl {α : Type} {k : Nat} {enc : α → List Value} {t : TypeId} {w : World} {g n : Nat} {l : List α} {cs : Array Value} (hk : ∀ y, (enc y).length = k) (h : Blk w g t cs) (hc : cs = (l.flatMap enc).toArray) (hn : l.length = n) (hl : n ≤ 1000) : SL k enc w (.slice (some ⟨g, 0, none⟩) n n) l := by
  subst hn hc
  refine ⟨_, l.length, rfl, Nat.le_refl _, by unfold maxLen; omega, fun _ => ⟨g, 0, rfl, h.lt, fun i d hd j x hx => ?_⟩⟩
  rw [Nat.zero_add, h.cell]
  have := Z.flat_at hk hd hx
  simpa using this
theorem example_any (w : World) : Calls Try.prog 23 #[] w fun e w' => e = .returned (.slice (some ⟨w.heap.size + 1 + 1 + 1 + 1, 0, none⟩) 2 2) ∧ Below w.heap.size w w' ∧ SQ w' (.slice (some ⟨w.heap.size + 1 + 1 + 1 + 1, 0, none⟩) 2 2) Z.exQ ∧ w'.cell? ⟨w.heap.size + 1 + 1 + 1 + 1, 3, none⟩ = some (.slice (some ⟨w.heap.size + 1 + 1, 0, none⟩) 2 2) ∧ w'.cell? ⟨w.heap.size + 1 + 1 + 1 + 1, 4, none⟩ = some (.slice (some ⟨w.heap.size + 1 + 1 + 1, 0, none⟩) 2 2) ∧ w'.cell? ⟨w.heap.size + 1 + 1 + 1 + 1, 5, none⟩ = some (.string ⟨#[49, 47, 49, 48]⟩) ∧ QOk w' ⟨.slice (some ⟨w.heap.size + 1 + 1, 0, none⟩) 2 2, .slice (some ⟨w.heap.size + 1 + 1 + 1, 0, none⟩) 2 2, ⟨#[49, 47, 49, 48]⟩⟩ Z.exQ2 := by
  go_enter Try.func23, Try.ntmps23
  go_wp2_with fail
  go_ret
  have B0 : Blk (((((w.alloc (.cells #[.int .i64 10] 3)).alloc (.cells #[.string ⟨#[49]⟩] 35)).alloc (.cells #[.int .i64 10, .int .i64 20] 3)).alloc (.cells #[.string ⟨#[49]⟩, .string ⟨#[49]⟩] 35)).alloc (.cells #[.slice (some ⟨w.heap.size, 0, none⟩) 1 1, .slice (some ⟨w.heap.size + 1, 0, none⟩) 1 1, .string ⟨#[49, 47, 49, 48]⟩, .slice (some ⟨w.heap.size + 1 + 1, 0, none⟩) 2 2, .slice (some ⟨w.heap.size + 1 + 1 + 1, 0, none⟩) 2 2, .string ⟨#[49, 47, 49, 48]⟩] 49)) (w.heap.size) 3 #[.int .i64 10] := by
    have h := ((((Blk.new w 3 #[.int .i64 10]).alloc (.cells #[.string ⟨#[49]⟩] 35)).alloc (.cells #[.int .i64 10, .int .i64 20] 3)).alloc (.cells #[.string ⟨#[49]⟩, .string ⟨#[49]⟩] 35)).alloc (.cells #[.slice (some ⟨w.heap.size, 0, none⟩) 1 1, .slice (some ⟨w.heap.size + 1, 0, none⟩) 1 1, .string ⟨#[49, 47, 49, 48]⟩, .slice (some ⟨w.heap.size + 1 + 1, 0, none⟩) 2 2, .slice (some ⟨w.heap.size + 1 + 1 + 1, 0, none⟩) 2 2, .string ⟨#[49, 47, 49, 48]⟩] 49)
    exact h
  have B1 : Blk (((((w.alloc (.cells #[.int .i64 10] 3)).alloc (.cells #[.string ⟨#[49]⟩] 35)).alloc (.cells #[.int .i64 10, .int .i64 20] 3)).alloc (.cells #[.string ⟨#[49]⟩, .string ⟨#[49]⟩] 35)).alloc (.cells #[.slice (some ⟨w.heap.size, 0, none⟩) 1 1, .slice (some ⟨w.heap.size + 1, 0, none⟩) 1 1, .string ⟨#[49, 47, 49, 48]⟩, .slice (some ⟨w.heap.size + 1 + 1, 0, none⟩) 2 2, .slice (some ⟨w.heap.size + 1 + 1 + 1, 0, none⟩) 2 2, .string ⟨#[49, 47, 49, 48]⟩] 49)) (w.heap.size + 1) 35 #[.string ⟨#[49]⟩] := by
    have h := (((Blk.new (w.alloc (.cells #[.int .i64 10] 3)) 35 #[.string ⟨#[49]⟩]).alloc (.cells #[.int .i64 10, .int .i64 20] 3)).alloc (.cells #[.string ⟨#[49]⟩, .string ⟨#[49]⟩] 35)).alloc (.cells #[.slice (some ⟨w.heap.size, 0, none⟩) 1 1, .slice (some ⟨w.heap.size + 1, 0, none⟩) 1 1, .string ⟨#[49, 47, 49, 48]⟩, .slice (some ⟨w.heap.size + 1 + 1, 0, none⟩) 2 2, .slice (some ⟨w.heap.size + 1 + 1 + 1, 0, none⟩) 2 2, .string ⟨#[49, 47, 49, 48]⟩] 49)
    rw [World.size_alloc] at h
    exact h
  have B2 : Blk (((((w.alloc (.cells #[.int .i64 10] 3)).alloc (.cells #[.string ⟨#[49]⟩] 35)).alloc (.cells #[.int .i64 10, .int .i64 20] 3)).alloc (.cells #[.string ⟨#[49]⟩, .string ⟨#[49]⟩] 35)).alloc (.cells #[.slice (some ⟨w.heap.size, 0, none⟩) 1 1, .slice (some ⟨w.heap.size + 1, 0, none⟩) 1 1, .string ⟨#[49, 47, 49, 48]⟩, .slice (some ⟨w.heap.size + 1 + 1, 0, none⟩) 2 2, .slice (some ⟨w.heap.size + 1 + 1 + 1, 0, none⟩) 2 2, .string ⟨#[49, 47, 49, 48]⟩] 49)) (w.heap.size + 1 + 1) 3 #[.int .i64 10, .int .i64 20] := by
    have h := ((Blk.new ((w.alloc (.cells #[.int .i64 10] 3)).alloc (.cells #[.string ⟨#[49]⟩] 35)) 3 #[.int .i64 10, .int .i64 20]).alloc (.cells #[.string ⟨#[49]⟩, .string ⟨#[49]⟩] 35)).alloc (.cells #[.slice (some ⟨w.heap.size, 0, none⟩) 1 1, .slice (some ⟨w.heap.size + 1, 0, none⟩) 1 1, .string ⟨#[49, 47, 49, 48]⟩, .slice (some ⟨w.heap.size + 1 + 1, 0, none⟩) 2 2, .slice (some ⟨w.heap.size + 1 + 1 + 1, 0, none⟩) 2 2, .string ⟨#[49, 47, 49, 48]⟩] 49)
    rw [World.size_alloc, World.size_alloc] at h
    exact h
  have B3 : Blk (((((w.alloc (.cells #[.int .i64 10] 3)).alloc (.cells #[.string ⟨#[49]⟩] 35)).alloc (.cells #[.int .i64 10, .int .i64 20] 3)).alloc (.cells #[.string ⟨#[49]⟩, .string ⟨#[49]⟩] 35)).alloc (.cells #[.slice (some ⟨w.heap.size, 0, none⟩) 1 1, .slice (some ⟨w.heap.size + 1, 0, none⟩) 1 1, .string ⟨#[49, 47, 49, 48]⟩, .slice (some ⟨w.heap.size + 1 + 1, 0, none⟩) 2 2, .slice (some ⟨w.heap.size + 1 + 1 + 1, 0, none⟩) 2 2, .string ⟨#[49, 47, 49, 48]⟩] 49)) (w.heap.size + 1 + 1 + 1) 35 #[.string ⟨#[49]⟩, .string ⟨#[49]⟩] := by
    have h := (Blk.new (((w.alloc (.cells #[.int .i64 10] 3)).alloc (.cells #[.string ⟨#[49]⟩] 35)).alloc (.cells #[.int .i64 10, .int .i64 20] 3)) 35 #[.string ⟨#[49]⟩, .string ⟨#[49]⟩]).alloc (.cells #[.slice (some ⟨w.heap.size, 0, none⟩) 1 1, .slice (some ⟨w.heap.size + 1, 0, none⟩) 1 1, .string ⟨#[49, 47, 49, 48]⟩, .slice (some ⟨w.heap.size + 1 + 1, 0, none⟩) 2 2, .slice (some ⟨w.heap.size + 1 + 1 + 1, 0, none⟩) 2 2, .string ⟨#[49, 47, 49, 48]⟩] 49)
    rw [World.size_alloc, World.size_alloc, World.size_alloc] at h
    exact h
  have B4 : Blk (((((w.alloc (.cells #[.int .i64 10] 3)).alloc (.cells #[.string ⟨#[49]⟩] 35)).alloc (.cells #[.int .i64 10, .int .i64 20] 3)).alloc (.cells #[.string ⟨#[49]⟩, .string ⟨#[49]⟩] 35)).alloc (.cells #[.slice (some ⟨w.heap.size, 0, none⟩) 1 1, .slice (some ⟨w.heap.size + 1, 0, none⟩) 1 1, .string ⟨#[49, 47, 49, 48]⟩, .slice (some ⟨w.heap.size + 1 + 1, 0, none⟩) 2 2, .slice (some ⟨w.heap.size + 1 + 1 + 1, 0, none⟩) 2 2, .string ⟨#[49, 47, 49, 48]⟩] 49)) (w.heap.size + 1 + 1 + 1 + 1) 49 #[.slice (some ⟨w.heap.size, 0, none⟩) 1 1, .slice (some ⟨w.heap.size + 1, 0, none⟩) 1 1, .string ⟨#[49, 47, 49, 48]⟩, .slice (some ⟨w.heap.size + 1 + 1, 0, none⟩) 2 2, .slice (some ⟨w.heap.size + 1 + 1 + 1, 0, none⟩) 2 2, .string ⟨#[49, 47, 49, 48]⟩] := by
    have h := Blk.new ((((w.alloc (.cells #[.int .i64 10] 3)).alloc (.cells #[.string ⟨#[49]⟩] 35)).alloc (.cells #[.int .i64 10, .int .i64 20] 3)).alloc (.cells #[.string ⟨#[49]⟩, .string ⟨#[49]⟩] 35)) 49 #[.slice (some ⟨w.heap.size, 0, none⟩) 1 1, .slice (some ⟨w.heap.size + 1, 0, none⟩) 1 1, .string ⟨#[49, 47, 49, 48]⟩, .slice (some ⟨w.heap.size + 1 + 1, 0, none⟩) 2 2, .slice (some ⟨w.heap.size + 1 + 1 + 1, 0, none⟩) 2 2, .string ⟨#[49, 47, 49, 48]⟩]
    rw [World.size_alloc, World.size_alloc, World.size_alloc, World.size_alloc] at h
    exact h
  have hb : Below w.heap.size w (((((w.alloc (.cells #[.int .i64 10] 3)).alloc (.cells #[.string ⟨#[49]⟩] 35)).alloc (.cells #[.int .i64 10, .int .i64 20] 3)).alloc (.cells #[.string ⟨#[49]⟩, .string ⟨#[49]⟩] 35)).alloc (.cells #[.slice (some ⟨w.heap.size, 0, none⟩) 1 1, .slice (some ⟨w.heap.size + 1, 0, none⟩) 1 1, .string ⟨#[49, 47, 49, 48]⟩, .slice (some ⟨w.heap.size + 1 + 1, 0, none⟩) 2 2, .slice (some ⟨w.heap.size + 1 + 1 + 1, 0, none⟩) 2 2, .string ⟨#[49, 47, 49, 48]⟩] 49)) := (((((Below.refl _ w).alloc (Nat.le_refl _) _).alloc (by simp) _).alloc (by simp; omega) _).alloc (by simp; omega) _).alloc (by simp; omega) _
  generalize (((((w.alloc (.cells #[.int .i64 10] 3)).alloc (.cells #[.string ⟨#[49]⟩] 35)).alloc (.cells #[.int .i64 10, .int .i64 20] 3)).alloc (.cells #[.string ⟨#[49]⟩, .string ⟨#[49]⟩] 35)).alloc (.cells #[.slice (some ⟨w.heap.size, 0, none⟩) 1 1, .slice (some ⟨w.heap.size + 1, 0, none⟩) 1 1, .string ⟨#[49, 47, 49, 48]⟩, .slice (some ⟨w.heap.size + 1 + 1, 0, none⟩) 2 2, .slice (some ⟨w.heap.size + 1 + 1 + 1, 0, none⟩) 2 2, .string ⟨#[49, 47, 49, 48]⟩] 49)) = X at *
  have s0 : SD X (.slice (some ⟨w.heap.size, 0, none⟩) 1 1) [10] := blk_sl dE_len B0 rfl rfl (by omega)
  have s1 : SR X (.slice (some ⟨w.heap.size + 1, 0, none⟩) 1 1) [⟨#[49]⟩] := blk_sl sE_len B1 rfl rfl (by omega)
  have s2 : SD X (.slice (some ⟨w.heap.size + 1 + 1, 0, none⟩) 2 2) [10, 20] := blk_sl dE_len B2 rfl rfl (by omega)
  have s3 : SR X (.slice (some ⟨w.heap.size + 1 + 1 + 1, 0, none⟩) 2 2) [⟨#[49]⟩, ⟨#[49]⟩] := blk_sl sE_len B3 rfl rfl (by omega)
  have k1 : QOk X ⟨.slice (some ⟨w.heap.size, 0, none⟩) 1 1, .slice (some ⟨w.heap.size + 1, 0, none⟩) 1 1, ⟨#[49, 47, 49, 48]⟩⟩ Z.exQ1 := ⟨s0, s1, rfl⟩
  have k2 : QOk X ⟨.slice (some ⟨w.heap.size + 1 + 1, 0, none⟩) 2 2, .slice (some ⟨w.heap.size + 1 + 1 + 1, 0, none⟩) 2 2, ⟨#[49, 47, 49, 48]⟩⟩ Z.exQ2 := ⟨s2, s3, rfl⟩
  refine ⟨rfl, hb, ⟨[⟨.slice (some ⟨w.heap.size, 0, none⟩) 1 1, .slice (some ⟨w.heap.size + 1, 0, none⟩) 1 1, ⟨#[49, 47, 49, 48]⟩⟩, ⟨.slice (some ⟨w.heap.size + 1 + 1, 0, none⟩) 2 2, .slice (some ⟨w.heap.size + 1 + 1 + 1, 0, none⟩) 2 2, ⟨#[49, 47, 49, 48]⟩⟩], blk_sl QV.vs_len B4 rfl rfl (by omega), rfl, fun i r q hr hq => ?_⟩, B4.cell 3, B4.cell 4, B4.cell 5, k2⟩
  match i, hr, hq with
  | 0, hr, hq => injection hr with hr; injection hq with hq; subst hr hq; exact k1
  | 1, hr, hq => injection hr with hr; injection hq with hq; subst hr hq; exact k2
  | n + 2, hr, _ => simp at hr
set_option maxRecDepth 100000 in
set_option maxHeartbeats 4000000 in
theorem cualive_any (w : World) (hV : HasV w) : Calls Try.prog 9 #[] w fun e w' => e = .returned (.bool true) ∧ Below w.heap.size w w' := by
  have HV := Lib.hid hV
  clear hV
  go_enter Try.func9, Try.ntmps9
  go_wp2_with fail
  refine (example_any w).mono ?_
  rintro e W1 ⟨rfl, hb1, hq1, -, -, -, -⟩
  have H1 := Lib.hid (boot_any 0 _ Z.exQ W1 hq1 (HV.out.below hb1) (fun q hq => by
    simp only [Z.exQ, List.mem_cons, List.not_mem_nil, or_false] at hq
    rcases hq with rfl | rfl
    · exact ⟨by decide, by decide⟩
    · exact ⟨by decide, by decide⟩))
  rw [Z.ex_boot] at H1
  clear hq1
  go_wp2_with fail
  refine H1.out.mono ?_
  rintro e W2 ⟨u, rfl, ho, hb2⟩
  obtain ⟨A, cp, hu⟩ := ho.shape
  have hu : u = .slice A 2 cp := hu
  subst hu
  have hbw := hb1.trans (hb2.mono hb1.size)
  have hb3 := hbw.alloc hbw.size (.cells #[.int .i64 0, .slice A 2 cp] 27)
  have BC := Blk.new W2 27 #[.int .i64 0, .slice A 2 cp]
  have HSP := Lib.hid (OL.sl Z.Pt.vs_len (OL.alloc ho (.cells #[.int .i64 0, .slice A 2 cp] 27)))
  have c0 := BC.cell 0
  have c1 := BC.cell 1
  have H2 := Lib.hid (factorF_any Z.exC (.slice A 2 cp) 15 (W2.alloc (.cells #[.int .i64 0, .slice A 2 cp] 27)) HSP.out (HV.out.below hb3) (fun p hp => by
    simp only [Z.exC, List.mem_cons, List.not_mem_nil, or_false] at hp
    rcases hp with rfl | rfl <;> decide))
  rw [Z.ex_fac] at H2
  have H2 : Hid (Calls Try.prog 15 #[.agg #[.int .i64 0, .slice A 2 cp], .int .i64 15] (W2.alloc (.cells #[.int .i64 0, .slice A 2 cp] 27)) (RRet (⟨#[49, 48, 53, 47, 49, 50, 49]⟩, 0) (W2.alloc (.cells #[.int .i64 0, .slice A 2 cp] 27)))) := H2
  clear H1 ho hb1 hb2
  go_wp2_with fail
  refine H2.out.mono ?_
  rintro e X ⟨rfl, hb4⟩
  have hb5 := hb3.trans (hb4.mono hb3.size)
  have BC4 := BC.below hb4
  have HS4 := Lib.hid (HSP.out.below hb4)
  have f0 : ∀ y : Ab X, y.1.cell? ⟨W2.heap.size, 0, none⟩ = some (.int .i64 0) := fun y => (Ab.cells (x := y) BC4).cell 0
  have f1 : ∀ y : Ab X, y.1.cell? ⟨W2.heap.size, 1, none⟩ = some (.slice A 2 cp) := fun y => (Ab.cells (x := y) BC4).cell 1
  clear c0 c1 H2 BC HSP hb4
  go_wp2_with fail
  refine wp_region_stages 10 [([0], [1, 2, 3, 4]), ([5, 6, 7, 8, 9], [])] [] (fun w' => ∃ y : Ab X, w' = y.1) (by kernel_rfl) (by kernel_rfl) ⟨⟨X.drew, (Below.refl _ X).drew⟩, rfl⟩ ?_
  simp only [fxS, opsAt, List.filterMap_cons, List.filterMap_nil, List.getElem?_toArray, List.getElem?_cons_succ, List.getElem?_cons_zero]
  show wpQuiet _ _ _ _ [_] _
  repeat (go_big_quiet_step (fail))
  refine wpQuiet_nil ?_
  refine fxp_enter (f := 23) (args := #[]) (w' := X.drew) rfl (by simp [go_sem]) ?_
  refine (example_any X.drew).mono ?_
  rintro e Y ⟨rfl, hy, -, y3, y4, y5, hk⟩
  have hy' : Below X.heap.size X Y := (Below.refl _ X).drew.trans hy
  refine ⟨_, rfl, ⟨⟨Y, hy'⟩, rfl⟩, ?_⟩
  have y3 : Y.cell? ⟨X.heap.size + 1 + 1 + 1 + 1, 3, none⟩ = some (.slice (some ⟨X.heap.size + 1 + 1, 0, none⟩) 2 2) := y3
  have y4 : Y.cell? ⟨X.heap.size + 1 + 1 + 1 + 1, 4, none⟩ = some (.slice (some ⟨X.heap.size + 1 + 1 + 1, 0, none⟩) 2 2) := y4
  have y5 : Y.cell? ⟨X.heap.size + 1 + 1 + 1 + 1, 5, none⟩ = some (.string ⟨#[49, 47, 49, 48]⟩) := y5
  have hk : QOk Y ⟨.slice (some ⟨X.heap.size + 1 + 1, 0, none⟩) 2 2, .slice (some ⟨X.heap.size + 1 + 1 + 1, 0, none⟩) 2 2, ⟨#[49, 47, 49, 48]⟩⟩ Z.exQ2 := hk
  refine fxp_value (u := .pointer (some ⟨X.heap.size + 1 + 1 + 1 + 1, 3, none⟩)) (w' := Y) rfl (by simp [go_sem]) ⟨⟨Y, hy'⟩, rfl⟩ ?_
  refine fxp_value (u := .agg #[.slice (some ⟨X.heap.size + 1 + 1, 0, none⟩) 2 2, .slice (some ⟨X.heap.size + 1 + 1 + 1, 0, none⟩) 2 2, .string ⟨#[49, 47, 49, 48]⟩]) (w' := Y) rfl (by simp [go_sem, y3, y4, y5]) ⟨⟨Y, hy'⟩, rfl⟩ ?_
  have hbY := hb5.trans (hy'.mono hb5.size)
  refine fxp_enter (f := 21) (args := #[.agg #[.int .i64 0, .slice A 2 cp], .agg #[.slice (some ⟨X.heap.size + 1 + 1, 0, none⟩) 2 2, .slice (some ⟨X.heap.size + 1 + 1 + 1, 0, none⟩) 2 2, .string ⟨#[49, 47, 49, 48]⟩]]) (w' := Y) rfl (by simp [go_sem]) ?_
  have H3 := price_any Z.exC (.slice A 2 cp) _ Z.exQ2 Y (HS4.out.below hy') hk (HV.out.below hbY) (fun p hp => by
    simp only [Z.exC, List.mem_cons, List.not_mem_nil, or_false] at hp
    rcases hp with rfl | rfl <;> decide) ⟨by decide, by decide⟩
  rw [Z.ex_price] at H3
  refine H3.mono ?_
  rintro e V ⟨rfl, hv⟩
  have hv' := hy'.trans (hv.mono hy'.size)
  refine ⟨_, rfl, ⟨⟨V, hv'⟩, rfl⟩, ?_⟩
  clear f0 f1 y3 y4 y5 hk H3
  refine fxp_nil ?_
  show wpQuiet _ _ _ _ [_, _, _, _, _] _
  simp only [Act.put, List.setIfInBounds_toArray, List.set_cons_succ, List.set_cons_zero]
  repeat (go_big_quiet_step (fail))
  refine wpQuiet_nil ?_
  refine fxp_nil (fxl_nil ?_)
  have hbV := hb5.trans (hv'.mono hb5.size)
  have hp1 := (Below.refl _ V).alloc (Nat.le_refl V.heap.size) (.cells #[.int .i64 10, .string ⟨#[49, 48, 47, 49, 49]⟩, .int .i64 20, .string ⟨#[49, 48, 48, 47, 49, 50, 49]⟩] 37)
  have hp2 := hp1.alloc hp1.size (.cells #[.int .i64 0, .slice (some ⟨V.heap.size, 0, none⟩) 2 2] 27)
  have hpw := hbV.trans (hp2.mono hbV.size)
  have BP := (Blk.new V 37 #[.int .i64 10, .string ⟨#[49, 48, 47, 49, 49]⟩, .int .i64 20, .string ⟨#[49, 48, 48, 47, 49, 50, 49]⟩]).alloc (.cells #[.int .i64 0, .slice (some ⟨V.heap.size, 0, none⟩) 2 2] 27)
  have b0 := (BC4.below (hv'.trans (hp2.mono hv'.size))).cell 0
  have b1 := (BC4.below (hv'.trans (hp2.mono hv'.size))).cell 1
  have SA := Lib.hid (same_any Z.exC (.slice A 2 cp) (.slice (some ⟨V.heap.size, 0, none⟩) 2 2) _ (HS4.out.below (hv'.trans (hp2.mono hv'.size))) (blk_sl Z.Pt.vs_len BP rfl rfl (by omega)))
  have SA : Hid (Calls Try.prog 12 #[.agg #[.int .i64 0, .slice A 2 cp], .agg #[.int .i64 0, .slice (some ⟨V.heap.size, 0, none⟩) 2 2]] _ _) := SA
  clear BP hp1 HS4
  go_wp2_with fail
  refine SA.out.mono ?_
  rintro e V2 ⟨rfl, hv2⟩
  have hbf := hpw.trans (hv2.mono hpw.size)
  go_wp2_with fail
  refine (is_any _ _ _ _).mono ?_
  rintro e w2 ⟨rfl, rfl⟩
  rw [decide_eq_true (by exact ⟨rfl, rfl⟩)]
  go_wp2_with fail
  refine (is_any _ _ _ _).mono ?_
  rintro e w2 ⟨rfl, rfl⟩
  rw [decide_eq_true (by exact ⟨rfl, rfl⟩)]
  go_wp2_with fail
  go_ret
  exact ⟨rfl, hbf⟩
end Go.Proofs.Ytpnojgaehafjdaa
