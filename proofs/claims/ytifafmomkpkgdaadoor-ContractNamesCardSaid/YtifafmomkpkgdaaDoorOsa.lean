/- Walks: the sort of an expression without parts. -/
import Derived.Test.YtifafmomkpkgdaaDoorOtb
import Derived.Test.YtifafmomkpkgdaaDoorOlay
import Derived.Test.YtifafmomkpkgdaaDoorQ1
namespace Go.Proofs.YtifafmomkpkgdaaDoor
open Go.RowKit
namespace Z
def leafV (k : Int) (b4 br b1 b2 bn bd b3 : Bool) : Int := if (b4 && (if k = 1 then br && (b2 && b3) else if k = 2 then b1 && (bn && bd) else if k = 3 then b1 && (bn && b3) else false)) = true then 1 else 0
theorem leafV_eq (a : XN) (n : Nat) : leafS a n = leafV a.k (decide (n = 0)) (decide (rchk a.rat = 0)) (decide (a.rat = e0)) (decide (a.name = e0)) (nameB a.name) (dayC a.date) (decide (a.date = 0)) := by
  unfold leafS leafV
  refine ite_congr ?_ (fun _ => rfl) (fun _ => rfl)
  rw [eq_iff_iff]
  by_cases h1 : a.k = 1
  · simp [h1]
  · by_cases h2 : a.k = 2
    · simp [h2]
    · by_cases h3 : a.k = 3
      · simp [h3]
      · simp [h1, h2, h3]
end Z
theorem within_any (d : Int) (w : World) : Calls Tryd.prog 81 #[.int .i64 d] w fun e w' => e = .returned (.bool (Z.dayC d)) ∧ w = w' := by
  go_enter Tryd.func81, Tryd.ntmps81
  go_wp2_with fail
  all_goals (go_ret; refine ⟨ret_bool ?_, rfl⟩; rw [Bool.eq_iff_iff]; simp [Z.dayC]; try omega)
theorem cwithin_any (d : Int) (w : World) : Calls Tryd.prog 71 #[.int .i64 d] w fun e w' => e = .returned (.bool (Z.dayC d)) ∧ w = w' := by
  go_enter Tryd.func71, Tryd.ntmps71
  go_wp2_with fail
  all_goals (go_ret; refine ⟨ret_bool ?_, rfl⟩; rw [Bool.eq_iff_iff]; simp [Z.dayC]; try omega)
set_option maxRecDepth 100000 in
set_option maxHeartbeats 2000000 in
theorem leaf_any (n : Nat) (x : Z.Ex (n + 1)) (u : Value) (w : World) (hx : XV w (n + 1) x (x.top, u)) (hv : HasV w) (hr : x.top.rat.size ≤ 100000) (hn : x.top.name.size ≤ 100000) :
    Calls Tryd.prog 73 #[.agg #[.int .u8 x.top.k, .string x.top.rat, .string x.top.name, .int .i64 x.top.date, u]] w fun e w' => e = .returned (.int .u8 (Z.leafS x.top x.sub.length)) ∧ Below w.heap.size w w' := by
  obtain ⟨_, hS⟩ := hx.open_
  obtain ⟨A, cp, rfl, hlc, hcm⟩ := hS.shape
  have hb0 := (Below.refl _ w).alloc (Nat.le_refl w.heap.size) (.cells #[.int .u8 x.top.k, .string x.top.rat, .string x.top.name, .int .i64 x.top.date, .slice A x.sub.length cp] 25)
  have BX := Blk.new w 25 #[.int .u8 x.top.k, .string x.top.rat, .string x.top.name, .int .i64 x.top.date, .slice A x.sub.length cp]
  have HC := Lib.hid (fun W (h : Below w.heap.size w W) => qcheck_any x.top.rat W (hv.below h) hr)
  have HN := Lib.hid (fun W => name_any x.top.name W (by unfold maxLen; omega))
  have HD := Lib.hid (fun W => within_any x.top.date W)
  unfold QchkRet at HC
  rw [Z.leafV_eq]
  have h1 := Z.isE x.top.rat
  have h2 := Z.isE x.top.name
  have h3 := Z.eqI x.top.date 0
  have h4 := Z.eqN x.sub.length
  have h5 := Z.eqI (Z.rchk x.top.rat) 0
  clear hS hx hr hn hv
  generalize x.sub.length = n at *
  generalize x.top = t at *
  have c0 := BX.cell 0
  have c1 := BX.cell 1
  have c2 := BX.cell 2
  have c3 := BX.cell 3
  have c4 := BX.cell 4
  clear BX
  obtain ⟨K, hK⟩ : ∃ K, K = t.k := ⟨_, rfl⟩
  simp only [← hK] at *
  clear hK
  generalize Z.rchk t.rat = rc at *
  generalize decide (t.rat = Z.e0) = b1 at *
  generalize decide (t.name = Z.e0) = b2 at *
  generalize Z.nameB t.name = bn at *
  generalize Z.dayC t.date = bd at *
  generalize decide (t.date = 0) = b3 at *
  generalize decide (n = 0) = b4 at *
  generalize decide (rc = 0) = br at *
  by_cases h1 : K = 1
  · subst h1
    go_enter Tryd.func73, Tryd.ntmps73
    cases b4
    · (skip)
      go_wp2_with fail
      go_ret
      exact ⟨rfl, hb0⟩
    go_wp2_with fail
    refine (HC.out _ hb0).mono ?_
    rintro e W1 ⟨rfl, hb⟩
    have hb1 := hb0.trans (hb.mono hb0.size)
    have c1 := (hb.cell (p := ⟨w.heap.size, 1, none⟩) (by simp)).trans c1
    have c2 := (hb.cell (p := ⟨w.heap.size, 2, none⟩) (by simp)).trans c2
    have c3 := (hb.cell (p := ⟨w.heap.size, 3, none⟩) (by simp)).trans c3
    clear hb
    cases br
    · (skip)
      go_wp2_with fail
      go_ret
      exact ⟨rfl, hb1⟩
    cases b2
    · (skip)
      go_wp2_with fail
      go_ret
      exact ⟨rfl, hb1⟩
    cases b3
    · (skip)
      go_wp2_with fail
      go_ret
      exact ⟨rfl, hb1⟩
    go_wp2_with fail
    go_ret
    exact ⟨rfl, hb1⟩
  by_cases h2 : K = 2
  · subst h2
    go_enter Tryd.func73, Tryd.ntmps73
    cases b4
    · (skip)
      go_wp2_with fail
      go_ret
      exact ⟨rfl, hb0⟩
    cases b1
    · (skip)
      go_wp2_with fail
      go_ret
      exact ⟨rfl, hb0⟩
    go_wp2_with fail
    refine (HN.out _).mono ?_
    rintro e W1 ⟨rfl, rfl⟩
    cases bn
    · (skip)
      go_wp2_with fail
      go_ret
      exact ⟨rfl, hb0⟩
    go_wp2_with fail
    refine (HD.out _).mono ?_
    rintro e W1 ⟨rfl, rfl⟩
    cases bd
    · (skip)
      go_wp2_with fail
      go_ret
      exact ⟨rfl, hb0⟩
    go_wp2_with fail
    go_ret
    exact ⟨rfl, hb0⟩
  by_cases h3 : K = 3
  · subst h3
    go_enter Tryd.func73, Tryd.ntmps73
    cases b4
    · (skip)
      go_wp2_with fail
      go_ret
      exact ⟨rfl, hb0⟩
    cases b1
    · (skip)
      go_wp2_with fail
      go_ret
      exact ⟨rfl, hb0⟩
    go_wp2_with fail
    refine (HN.out _).mono ?_
    rintro e W1 ⟨rfl, rfl⟩
    cases bn
    · (skip)
      go_wp2_with fail
      go_ret
      exact ⟨rfl, hb0⟩
    cases b3
    · (skip)
      go_wp2_with fail
      go_ret
      exact ⟨rfl, hb0⟩
    go_wp2_with fail
    go_ret
    exact ⟨rfl, hb0⟩
  have g1 : (K == 1) = false := by simpa using h1
  have g2 : (K == 2) = false := by simpa using h2
  have g3 : (K == 3) = false := by simpa using h3
  have e : Z.leafV K b4 br b1 b2 bn bd b3 = 0 := by unfold Z.leafV; simp [h1, h2, h3]
  rw [e]
  clear e h1 h2 h3
  go_enter Tryd.func73, Tryd.ntmps73
  go_wp2_with fail
  go_ret
  exact ⟨rfl, hb0⟩
end Go.Proofs.YtifafmomkpkgdaaDoor
