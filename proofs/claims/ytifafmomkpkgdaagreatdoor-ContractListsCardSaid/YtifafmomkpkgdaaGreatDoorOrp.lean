/- Walks: the reference's lists of parties and currencies, and its horizon. -/
import Derived.Test.YtifafmomkpkgdaaGreatDoorRf
import Derived.Test.YtifafmomkpkgdaaGreatDoorOst
import Derived.Test.YtifafmomkpkgdaaGreatDoorOhz
import Derived.Test.YtifafmomkpkgdaaGreatDoorOwd
import Derived.Test.YtifafmomkpkgdaaGreatDoorFla
import Derived.Test.YtifafmomkpkgdaaGreatDoorZco
namespace Go.Proofs.YtifafmomkpkgdaaGreatDoor
open Go.RowKit
namespace Z
section
variable {m : Nat}
theorem lastL_ge {α : Type} {f : α → Int} : ∀ (l : List α) (a : Int), a ≤ lastL f a l
  | [], a => Int.le_refl a
  | x :: r, a => by
    rw [lastL]
    have := lastL_ge (f := f) r (max a (f x))
    omega
theorem foldmax_ge : ∀ (l : List Int) (a : Int), a ≤ l.foldl max a
  | [], a => Int.le_refl a
  | x :: r, a => by
    rw [List.foldl_cons]
    have := foldmax_ge r (max a x)
    omega
theorem node_date {c : CN m} {k : Nat} (h : nodeB (c, k) = true) : 0 ≤ c.date := by
  obtain ⟨p, _, h⟩ := node_part h
  unfold partB at h
  simp only [Bool.and_eq_true] at h
  have h6 := h.2.2.2.2.2.1
  split at h6
  · unfold dayC at h6
    rw [Bool.and_eq_true, decide_eq_true_iff, decide_eq_true_iff] at h6
    exact h6.1
  · rw [decide_eq_true_iff] at h6
    omega
theorem horZ_last {n : Nat} (c : Co m (n + 1)) : horZ (n + 1) c = if coE (n + 1) c = 0 then coLast (n + 1) c else 0 := by
  unfold horZ
  by_cases h : coE (n + 1) c = 0
  · rw [if_pos h, if_pos h, hor_nodes (n + 1) c (coE_nodes h), if_neg (by omega)]
    have h1 := node_date (coFormed_top (coE_ok.1 h).2.2)
    have h2 : 0 ≤ coLast (n + 1) c := by
      rw [coLast]
      have h3 := lastL_ge (f := coLast n) c.sub (c.top.dates.foldl max (max c.top.date (exLast (m + 1) c.top.ex)))
      have h4 := foldmax_ge c.top.dates (max c.top.date (exLast (m + 1) c.top.ex))
      omega
    omega
  · rw [if_neg h, if_neg h]
def mwR (c : CN m) : List BS := if c.k = 2 then [bytesW c.nm] else []
theorem mwR_len (c : CN m) : (mwR c).length ≤ 2 := by
  unfold mwR
  split <;> simp
theorem pw_len2 (c : CN m) : (pw c).length ≤ 2 := by
  unfold pw
  rw [List.length_map]
  exact List.length_filter_le _ _
theorem mwR_eq {c : CN m} {k : Nat} (h : nodeB (c, k) = true) : mwR c = mw c := by
  unfold mwR mw
  by_cases hk : c.k = 2
  · rw [if_pos hk, if_pos hk]
    obtain ⟨p, hp, h⟩ := node_part h
    rw [hk, show pas 2 = some _ from rfl] at hp
    injection hp with hp
    subst hp
    unfold partB at h
    simp only [Bool.and_eq_true] at h
    have h3 : nameB c.nm = true := h.2.2.1
    have h4 : ne0 c.nm = true := by
      unfold ne0
      rw [Bool.not_eq_true', decide_eq_false_iff_not]
      intro e
      rw [e] at h3
      exact absurd h3 (by decide)
    rw [List.filter_cons, if_pos h4, List.filter_nil, List.map_cons, List.map_nil]
  · rw [if_neg hk, if_neg hk]
theorem allW_mwR {n : Nat} {c : Co m n} (h : coE n c = 0) : allW mwR n c = allW mw n c := by
  unfold allW
  have : ∀ l : List (CN m × Nat), (∀ x ∈ l, nodeB x = true) → (l.flatMap fun x => mwR x.1) = l.flatMap fun x => mw x.1 := by
    intro l
    induction l with
    | nil => intro _; rfl
    | cons x r ih =>
      intro hl
      rw [List.flatMap_cons, List.flatMap_cons, mwR_eq (hl x (List.mem_cons_self ..)), ih (fun y hy => hl y (List.mem_cons_of_mem _ hy))]
  exact this _ (coE_nodes h)
theorem allW_len {at_ : CN m → List BS} (ha : ∀ t, (at_ t).length ≤ 2) {n : Nat} {c : Co m (n + 1)} (h : CSm (n + 1) c) : (allW at_ (n + 1) c).length ≤ 3000 := by
  unfold allW
  have h1 : ∀ l : List (CN m × Nat), (l.flatMap fun x => at_ x.1).length ≤ 2 * l.length := by
    intro l
    induction l with
    | nil => simp
    | cons x r ih =>
      rw [List.flatMap_cons, List.length_append, List.length_cons]
      have := ha x.1
      omega
  have h2 := h1 (coNodes (n + 1) c)
  rw [coNodes_len] at h2
  have h3 := CSm.cnt h
  omega
end
end Z
set_option maxRecDepth 100000 in
set_option maxHeartbeats 2000000 in
theorem rxlatest_any : ∀ (n : Nat) (x : Z.Ex n) (a : Z.XN) (u : Value) (w : World), XV w n x (a, u) → Calls Tryz.prog 37 #[.agg #[.int .u8 a.k, .string a.rat, .string a.name, .int .i64 a.date, u]] w fun e w' => e = .returned (.int .i64 (Z.exLast n x : Int)) ∧ Below w.heap.size w w' := by
  intro n
  induction n with
  | zero => intro x; exact x.no
  | succ n ih =>
    intro x a u w hx
    obtain ⟨rfl, hS⟩ := hx.open_
    obtain ⟨A, cp, rfl, hlc, hcm⟩ := hS.shape
    unfold maxLen at hcm
    have hb0 := (Below.refl _ w).alloc (Nat.le_refl w.heap.size) (.cells #[.int .u8 x.top.k, .string x.top.rat, .string x.top.name, .int .i64 x.top.date, .slice A x.sub.length cp] 25)
    have BX := Blk.new w 25 #[.int .u8 x.top.k, .string x.top.rat, .string x.top.name, .int .i64 x.top.date, .slice A x.sub.length cp]
    have HS := Lib.hid (ES.below hb0 hS)
    obtain ⟨R, hR⟩ : ∃ R, R = (Z.lastL (Z.exLast n) x.top.date (x.sub.drop 0)) := ⟨_, rfl⟩
    have HR : Hid (R = Z.lastL (Z.exLast n) x.top.date (x.sub.drop 0)) := Lib.hid hR
    have HRR : Hid (Z.exLast (n + 1) x = R) := Lib.hid (by rw [hR]; rfl)
    generalize Z.exLast (n + 1) x = RR at *
    clear hR
    generalize x.sub = l at *
    generalize x.top = t at *
    have c1 := BX.cell 1
    have c2 := BX.cell 2
    have c3 := BX.cell 3
    have c4 := BX.cell 4
    clear hS hx
    go_enter Tryz.func37, Tryz.ntmps37
    go_wp2_with fail
    generalize (w.alloc (.cells #[.int .u8 t.k, .string t.rat, .string t.name, .int .i64 t.date, .slice A l.length cp] 25)) = W0 at *
    go_loopw [3, 4] (fun sv iv wr => ∃ (k : Nat) (s : Int), k ≤ l.length ∧ iv = .int .i64 k ∧ sv = .int .i64 s ∧ Hid (R = Z.lastL (Z.exLast n) s (l.drop k)) ∧ Below W0.heap.size W0 wr) (fun _ iv _ => l.length - (intOf iv).toNat)
    case atStart => exact ⟨0, _, by omega, rfl, rfl, HR, Below.refl _ _⟩
    case round =>
      obtain ⟨k, s, hk, rfl, rfl, HI, hbr⟩ := hrel
      clear HR
      have hbw := hb0.trans (hbr.mono hb0.size)
      have c4 := (BX.below hbr).cell 4
      by_cases hlt : k < l.length
      · have hz : l[k]? = some l[k] := List.getElem?_eq_getElem hlt
        obtain ⟨b, o, ax, ux, rfl, hbl, q0, q1, q2, q3, q4, hv⟩ := ES.cells (ES.below hbr HS.out) hz
        have HD := Lib.hid (Z.lastL_drop (f := (Z.exLast n)) s hz)
        have HM := Lib.hid (List.mem_of_getElem? hz)
        clear hz
        generalize l[k] = y at *
        have hi0 : (0 : Int) ≤ (k : Int) := by omega
        have hi1 : (k : Int) < (l.length : Int) := by omega
        have HC := Lib.hid (ih y ax ux wr hv)
        clear hv ih
        generalize Z.exLast n y = z at *
        have HN : Hid (R = Z.lastL (Z.exLast n) (max s z) (l.drop (k + 1))) := Lib.hid (by rw [HI.out, HD.out])
        clear HI HD
        go_wp2_with fail
        refine HC.out.mono ?_
        rintro e W1 ⟨rfl, hb⟩
        have hbn := hbr.trans (hb.mono hbr.size)
        clear HC hb q0 q1 q2 q3 q4 hbw
        go_wp2_with fail
        go_roundw
        case rel => first | exact ⟨k + 1, max s z, by omega, by go_num, rfl, HN, hbn⟩ | ((repeat apply Exists.intro); exact ⟨⟨k + 1, max s z, by omega, by go_num, rfl, HN, hbn⟩, rfl⟩)
        case measure => simp [intOf]; omega
      · obtain rfl : k = l.length := by omega
        have HN : Hid (R = s) := Lib.hid (by rw [HI.out, List.drop_length]; rfl)
        go_wp2_with fail
        go_ret
        exact ⟨ret_int (by rw [HRR.out, HN.out]), hbw⟩
set_option maxRecDepth 100000 in
set_option maxHeartbeats 4000000 in
theorem rlast_any {m : Nat} : ∀ (n : Nat) (c : Z.Co m n) (a : Z.CN m) (u dv sv : Value) (w : World), CV w n c ⟨a, u, dv, sv⟩ → Calls Tryz.prog 23 #[.agg #[.int .u8 a.k, .string a.fr, .string a.tu, .string a.nm, .int .u8 a.ex.top.k, .string a.ex.top.rat, .string a.ex.top.name, .int .i64 a.ex.top.date, u, .int .i64 a.date, dv, sv]] w fun e w' => e = .returned (.int .i64 (Z.coLast n c)) ∧ Below w.heap.size w w' := by
  intro n
  induction n with
  | zero => intro c; exact c.no
  | succ n ih =>
    intro c a u dv sv w hc
    have HKS := Lib.hid hc.shape
    obtain ⟨rfl, hX, hD, hS⟩ := hc.open_
    obtain ⟨⟨Au, ku, cu, rfl⟩, _, _⟩ := HKS.out
    obtain ⟨Ad, cd, rfl, hdc, hdm⟩ := hD.shape
    obtain ⟨A, cp, rfl, hlc, hcm⟩ := hS.shape
    unfold maxLen at hcm hdm
    have hb0 := (Below.refl _ w).alloc (Nat.le_refl w.heap.size) (.cells #[.int .u8 c.top.k, .string c.top.fr, .string c.top.tu, .string c.top.nm, .int .u8 c.top.ex.top.k, .string c.top.ex.top.rat, .string c.top.ex.top.name, .int .i64 c.top.ex.top.date, .slice Au ku cu, .int .i64 c.top.date, .slice Ad c.top.dates.length cd, .slice A c.sub.length cp] 29)
    have BX := Blk.new w 29 #[.int .u8 c.top.k, .string c.top.fr, .string c.top.tu, .string c.top.nm, .int .u8 c.top.ex.top.k, .string c.top.ex.top.rat, .string c.top.ex.top.name, .int .i64 c.top.ex.top.date, .slice Au ku cu, .int .i64 c.top.date, .slice Ad c.top.dates.length cd, .slice A c.sub.length cp]
    have HS := Lib.hid (CS.below hb0 hS)
    have HX := Lib.hid (XV.below hb0 (m + 1) hX)
    have HDD := Lib.hid (SL.below hD hb0)
    have HR : Hid (Z.coLast (n + 1) c = Z.lastL (Z.coLast n) (c.top.dates.foldl max (max c.top.date (Z.exLast (m + 1) c.top.ex))) c.sub) := Lib.hid rfl
    clear hc hX hD hS HKS
    generalize Z.coLast (n + 1) c = R at *
    generalize c.sub = l at *
    generalize c.top = t at *
    have HLA := Lib.hid (fun W (h : Below (w.alloc (.cells #[.int .u8 t.k, .string t.fr, .string t.tu, .string t.nm, .int .u8 t.ex.top.k, .string t.ex.top.rat, .string t.ex.top.name, .int .i64 t.ex.top.date, .slice Au ku cu, .int .i64 t.date, .slice Ad t.dates.length cd, .slice A l.length cp] 29)).heap.size (w.alloc (.cells #[.int .u8 t.k, .string t.fr, .string t.tu, .string t.nm, .int .u8 t.ex.top.k, .string t.ex.top.rat, .string t.ex.top.name, .int .i64 t.ex.top.date, .slice Au ku cu, .int .i64 t.date, .slice Ad t.dates.length cd, .slice A l.length cp] 29)) W) => rxlatest_any (m + 1) t.ex t.ex.top _ W (XV.below h _ HX.out))
    generalize Z.exLast (m + 1) t.ex = E at *
    generalize hdl : t.dates = ds at *
    clear hdl
    go_enter Tryz.func23, Tryz.ntmps23
    go_upto_region 1 with fail
    generalize (w.alloc (.cells #[.int .u8 t.k, .string t.fr, .string t.tu, .string t.nm, .int .u8 t.ex.top.k, .string t.ex.top.rat, .string t.ex.top.name, .int .i64 t.ex.top.date, .slice Au ku cu, .int .i64 t.date, .slice Ad ds.length cd, .slice A l.length cp] 29)) = W0 at *
    go_cut [3] from 6 to 11 (fun dv wx => dv = .int .i64 (max t.date E) ∧ Below W0.heap.size W0 wx)
    case first =>
      have hdr := (Below.refl W0.heap.size W0).drew
      have BXd := BX.below hdr
      have kX := Below.refl W0.drew.heap.size W0.drew
      have HLD := Lib.hid (fun W (h : Below W0.drew.heap.size W0.drew W) => HLA.out W (hdr.trans (h.mono hdr.size)))
      refine wp_region_fx 7 (fun w' => ∃ y : Ab W0.drew, w' = y.1) (by kernel_rfl) ?_
      show fxAny _ _ _ _ 7 _ 7 _ _ _
      generalize W0.drew = X0 at *
      have p4 : ∀ y : Ab X0, y.1.cell? ⟨w.heap.size, 4, none⟩ = some (.int .u8 t.ex.top.k) := fun y => (BXd.below y.2).cell 4
      have p5 : ∀ y : Ab X0, y.1.cell? ⟨w.heap.size, 5, none⟩ = some (.string t.ex.top.rat) := fun y => (BXd.below y.2).cell 5
      have p6 : ∀ y : Ab X0, y.1.cell? ⟨w.heap.size, 6, none⟩ = some (.string t.ex.top.name) := fun y => (BXd.below y.2).cell 6
      have p7 : ∀ y : Ab X0, y.1.cell? ⟨w.heap.size, 7, none⟩ = some (.int .i64 t.ex.top.date) := fun y => (BXd.below y.2).cell 7
      have p8 : ∀ y : Ab X0, y.1.cell? ⟨w.heap.size, 8, none⟩ = some (.slice Au ku cu) := fun y => (BXd.below y.2).cell 8
      have p9 : ∀ y : Ab X0, y.1.cell? ⟨w.heap.size, 9, none⟩ = some (.int .i64 t.date) := fun y => (BXd.below y.2).cell 9
      refine fx_reads (n := 3) [0, 1, 2, 3] rfl (by kernel_rfl) ⟨⟨X0, kX⟩, rfl⟩ ?_
      simp only [opsAt, List.filterMap_cons, List.filterMap_nil, List.getElem?_toArray, List.getElem?_cons_succ, List.getElem?_cons_zero]
      show wpQuiet _ _ _ _ [_, _, _, _] _
      repeat (go_big_quiet_step (fail))
      refine wpQuiet_nil ?_
      clear p4 p5 p6 p7 p8 p9
      refine fx_one (k := 4) (by kernel_rfl) ?_
      simp only [opsAt, List.filterMap_cons, List.filterMap_nil, List.getElem?_toArray, List.getElem?_cons_succ, List.getElem?_cons_zero]
      refine fxp_enter (f := 37) (args := #[.agg #[.int .u8 t.ex.top.k, .string t.ex.top.rat, .string t.ex.top.name, .int .i64 t.ex.top.date, .slice Au ku cu]]) (w' := X0) rfl (by simp [go_sem]) ?_
      refine (HLD.out X0 kX).mono ?_
      rintro e X1 ⟨rfl, kb⟩
      refine ⟨_, rfl, ⟨⟨X1, kb⟩, rfl⟩, ?_⟩
      refine fxp_nil ?_
      simp only [Act.put, List.setIfInBounds_toArray, List.set_cons_succ, List.set_cons_zero]
      refine fx_one (k := 5) (by kernel_rfl) ?_
      simp only [opsAt, List.filterMap_cons, List.filterMap_nil, List.getElem?_toArray, List.getElem?_cons_succ, List.getElem?_cons_zero]
      refine fxp_value (w' := X1) (u := .int .i64 (max t.date E)) rfl (by simp [go_sem] <;> ((repeat' split) <;> omega)) ⟨⟨X1, kb⟩, rfl⟩ ?_
      refine fxp_nil ?_
      simp only [Act.put, List.setIfInBounds_toArray, List.set_cons_succ, List.set_cons_zero]
      refine fx_one (k := 6) (by kernel_rfl) ?_
      simp only [opsAt, List.filterMap_cons, List.filterMap_nil, List.getElem?_toArray, List.getElem?_cons_succ, List.getElem?_cons_zero]
      refine fxp_value (w' := X1) (u := .int .i64 (max t.date E)) rfl (by simp [go_sem]) ⟨⟨X1, kb⟩, rfl⟩ ?_
      refine fxp_nil ?_
      simp only [Act.put, List.setIfInBounds_toArray, List.set_cons_succ, List.set_cons_zero]
      refine fx_end (by kernel_rfl) ?_
      go_wp2_with fail
      go_meet
      exact ⟨rfl, hdr.trans (kb.mono hdr.size)⟩
    case rest =>
    obtain ⟨rfl, hb1⟩ := hcut
    rename World => W1
    have BX1 := BX.below hb1
    have h01 := hb0.trans (hb1.mono hb0.size)
    have HDE := Lib.hid (SL.below HDD.out hb1)
    have HSE := Lib.hid (CS.below hb1 HS.out)
    have HI0 : Hid (R = Z.lastL (Z.coLast n) ((ds.drop 0).foldl max (max t.date E)) l) := Lib.hid (by rw [List.drop_zero]; exact HR.out)
    generalize max t.date E = d0 at *
    clear HLA HDD HS HX HR hb0 BX hb1
    have c10 := BX1.cell 10
    go_wp2_with fail
    clear c10
    go_loopw [3, 4] (fun sv iv wr => ∃ (k : Nat) (s : Int), k ≤ ds.length ∧ iv = .int .i64 k ∧ sv = .int .i64 s ∧ Hid (R = Z.lastL (Z.coLast n) ((ds.drop k).foldl max s) l) ∧ Below W1.heap.size W1 wr) (fun _ iv _ => ds.length - (intOf iv).toNat)
    case atStart => exact ⟨0, _, by omega, rfl, rfl, HI0, Below.refl _ _⟩
    case round =>
      obtain ⟨k, s, hk, rfl, rfl, HI, hbr⟩ := hrel
      clear HI0
      have c10 := (BX1.below hbr).cell 10
      by_cases hlt : k < ds.length
      · have hz : ds[k]? = some ds[k] := List.getElem?_eq_getElem hlt
        obtain ⟨b, o, hA, hbl, q0⟩ := SL.cell1 (SL.below HDE.out hbr) hz rfl
        subst hA
        have HDR : Hid ((ds.drop k).foldl max s = (ds.drop (k + 1)).foldl max (max s ds[k])) := Lib.hid (by rw [List.drop_eq_getElem_cons hlt]; rfl)
        clear hz
        generalize ds[k] = z at *
        have hi0 : (0 : Int) ≤ (k : Int) := by omega
        have hi1 : (k : Int) < (ds.length : Int) := by omega
        have HN : Hid (R = Z.lastL (Z.coLast n) ((ds.drop (k + 1)).foldl max (max s z)) l) := Lib.hid (by rw [HI.out, HDR.out])
        clear HI HDR
        go_wp2_with fail
        go_roundw
        case rel => first | exact ⟨k + 1, max s z, by omega, by go_num, rfl, HN, hbr⟩ | ((repeat apply Exists.intro); exact ⟨⟨k + 1, max s z, by omega, by go_num, rfl, HN, hbr⟩, rfl⟩)
        case measure => simp [intOf]; omega
      · obtain rfl : k = ds.length := by omega
        have HI2 : Hid (R = Z.lastL (Z.coLast n) s (l.drop 0)) := Lib.hid (by rw [HI.out, List.drop_length, List.drop_zero]; rfl)
        have BX2 := BX1.below hbr
        have h02 := h01.trans (hbr.mono h01.size)
        have HS2 := Lib.hid (CS.below hbr HSE.out)
        rename World => W2
        clear HI HSE HDE hbr h01 BX1
        have c11 := BX2.cell 11
        go_wp2_with fail
        clear c10 c11
        go_loopw [3, 5] (fun sv iv wr => ∃ (k : Nat) (s : Int), k ≤ l.length ∧ iv = .int .i64 k ∧ sv = .int .i64 s ∧ Hid (R = Z.lastL (Z.coLast n) s (l.drop k)) ∧ Below W2.heap.size W2 wr) (fun _ iv _ => l.length - (intOf iv).toNat)
        case atStart => exact ⟨0, _, by omega, rfl, rfl, HI2, Below.refl _ _⟩
        case round =>
          clear HI2
          obtain ⟨k, s, hk, rfl, rfl, HI, hbr⟩ := hrel
          have hbw := h02.trans (hbr.mono h02.size)
          have c11 := (BX2.below hbr).cell 11
          by_cases hlt : k < l.length
          · have hz : l[k]? = some l[k] := List.getElem?_eq_getElem hlt
            obtain ⟨b, o, ax, ux, dx, sx, rfl, hbl, q0, q1, q2, q3, q4, q5, q6, q7, q8, q9, q10, q11, hv⟩ := CS.cells (CS.below hbr HS2.out) hz
            have HD := Lib.hid (Z.lastL_drop (f := Z.coLast n) s hz)
            clear hz
            generalize l[k] = y at *
            have hi0 : (0 : Int) ≤ (k : Int) := by omega
            have hi1 : (k : Int) < (l.length : Int) := by omega
            have HC := Lib.hid (ih y ax ux dx sx wr hv)
            obtain ⟨⟨Yu, yu1, yu2, rfl⟩, ⟨Yd, yd1, yd2, rfl⟩, ⟨Ys, ys1, ys2, rfl⟩⟩ := hv.shape
            clear hv ih
            generalize Z.coLast n y = z at *
            have HN : Hid (R = Z.lastL (Z.coLast n) (max s z) (l.drop (k + 1))) := Lib.hid (by rw [HI.out, HD.out])
            clear HI HD
            go_wp2_with fail
            refine HC.out.mono ?_
            rintro e W3 ⟨rfl, hb⟩
            have hbn := hbr.trans (hb.mono hbr.size)
            clear HC hb q0 q1 q2 q3 q4 q5 q6 q7 q8 q9 q10 q11 hbw c11 hbr hbl
            go_wp2_with fail
            go_roundw
            case rel => first | exact ⟨k + 1, max s z, by omega, by go_num, rfl, HN, hbn⟩ | ((repeat apply Exists.intro); exact ⟨⟨k + 1, max s z, by omega, by go_num, rfl, HN, hbn⟩, rfl⟩)
            case measure => simp [intOf]; omega
          · obtain rfl : k = l.length := by omega
            have HN : Hid (R = s) := Lib.hid (by rw [HI.out, List.drop_length]; rfl)
            go_wp2_with fail
            go_ret
            exact ⟨ret_int HN.out.symm, hbw⟩
set_option maxRecDepth 100000 in
set_option maxHeartbeats 4000000 in
theorem rpeople_any {m : Nat} : ∀ (n : Nat) (c : Z.Co m n) (a : Z.CN m) (u dv sv v : Value) (l0 : List Z.BS) (w : World), CV w n c ⟨a, u, dv, sv⟩ → SB w v l0 → l0.length + (Z.allW Z.pw n c).length ≤ 9000 → Calls Tryz.prog 17 #[v, .agg #[.int .u8 a.k, .string a.fr, .string a.tu, .string a.nm, .int .u8 a.ex.top.k, .string a.ex.top.rat, .string a.ex.top.name, .int .i64 a.ex.top.date, u, .int .i64 a.date, dv, sv]] w fun e w' => ∃ v', e = .returned v' ∧ SB w' v' ((Z.allW Z.pw n c).foldl Z.withB l0) ∧ Below w.heap.size w w' := by
  intro n
  induction n with
  | zero => intro c; exact c.no
  | succ n ih =>
    intro c a u dv sv v l0 w hc hv hlen
    have HKS := Lib.hid hc.shape
    obtain ⟨rfl, hX, hD, hS⟩ := hc.open_
    obtain ⟨⟨Au, ku, cu, rfl⟩, ⟨Ad, kd, cd, rfl⟩, _⟩ := HKS.out
    obtain ⟨A, cp, rfl, hlc, hcm⟩ := hS.shape
    unfold maxLen at hcm
    obtain ⟨Av, cv, rfl, hvc, hvm⟩ := hv.shape
    unfold maxLen at hvm
    have hb0 := (Below.refl _ w).alloc (Nat.le_refl w.heap.size) (.cells #[.int .u8 c.top.k, .string c.top.fr, .string c.top.tu, .string c.top.nm, .int .u8 c.top.ex.top.k, .string c.top.ex.top.rat, .string c.top.ex.top.name, .int .i64 c.top.ex.top.date, .slice Au ku cu, .int .i64 c.top.date, .slice Ad kd cd, .slice A c.sub.length cp] 29)
    have BX := Blk.new w 29 #[.int .u8 c.top.k, .string c.top.fr, .string c.top.tu, .string c.top.nm, .int .u8 c.top.ex.top.k, .string c.top.ex.top.rat, .string c.top.ex.top.name, .int .i64 c.top.ex.top.date, .slice Au ku cu, .int .i64 c.top.date, .slice Ad kd cd, .slice A c.sub.length cp]
    have HS := Lib.hid (CS.below hb0 hS)
    have HV0 := Lib.hid (SL.below hv hb0)
    have HRR : Hid ((Z.allW Z.pw (n + 1) c).foldl Z.withB l0 = (c.sub.flatMap (Z.allW Z.pw n)).foldl Z.withB ((Z.pw c.top).foldl Z.withB l0)) := Lib.hid (by rw [Z.allW_eq, List.foldl_append])
    have HLN : Hid (l0.length + ((Z.pw c.top).length + (c.sub.flatMap (Z.allW Z.pw n)).length) ≤ 9000) := Lib.hid (by rw [Z.allW_eq, List.length_append] at hlen; exact hlen)
    have HPL := Lib.hid (Z.foldW_len (Z.pw c.top) l0)
    have HPW := Lib.hid (Z.pw_fold c.top l0)
    generalize (Z.allW Z.pw (n + 1) c).foldl Z.withB l0 = RR at *
    clear hc hX hD hS HKS hv hlen
    generalize c.sub = l at *
    generalize c.top = t at *
    have c1 := BX.cell 1
    have c2 := BX.cell 2
    have c11 := BX.cell 11
    go_enter Tryz.func17, Tryz.ntmps17
    have e1 := Z.isE t.fr
    have e2 := Z.isE t.tu
    obtain ⟨L1, hL1⟩ : ∃ L, L = if Z.ne0 t.fr = true then Z.withB l0 (Z.bytesW t.fr) else l0 := ⟨_, rfl⟩
    obtain ⟨L2, hL2⟩ : ∃ L, L = if Z.ne0 t.tu = true then Z.withB L1 (Z.bytesW t.tu) else L1 := ⟨_, rfl⟩
    have HL2 : Hid ((Z.pw t).foldl Z.withB l0 = L2) := Lib.hid (by rw [HPW.out, hL2, hL1])
    unfold Z.ne0 at hL1 hL2
    have HW1 := Lib.hid (fun W (h : SB W (.slice Av l0.length cv) l0) hl => rwith_any (.slice Av l0.length cv) l0 (Z.bytesW t.fr) W h hl)
    rw [Z.ofW_bytes] at HW1
    have HW2 := Lib.hid (fun A' c' W (h : SB W (.slice A' L1.length c') L1) hl => rwith_any (.slice A' L1.length c') L1 (Z.bytesW t.tu) W h hl)
    rw [Z.ofW_bytes] at HW2
    have HLL : Hid (L1.length ≤ l0.length + 1) := Lib.hid (by rw [hL1]; split; exact Z.withB_len _ _; omega)
    have HA1 : Hid (decide (t.fr = Z.e0) = true → L1 = l0) := Lib.hid (fun h => by rw [hL1, h]; rfl)
    have HB1 : Hid (decide (t.fr = Z.e0) = false → L1 = Z.withB l0 (Z.bytesW t.fr)) := Lib.hid (fun h => by rw [hL1, h]; rfl)
    have HA2 : Hid (decide (t.tu = Z.e0) = true → L2 = L1) := Lib.hid (fun h => by rw [hL2, h]; rfl)
    have HB2 : Hid (decide (t.tu = Z.e0) = false → L2 = Z.withB L1 (Z.bytesW t.tu)) := Lib.hid (fun h => by rw [hL2, h]; rfl)
    clear hL1 hL2
    generalize decide (t.fr = Z.e0) = b1 at *
    generalize decide (t.tu = Z.e0) = b2 at *
    go_upto_if 8 with fail
    generalize (w.alloc (.cells #[.int .u8 t.k, .string t.fr, .string t.tu, .string t.nm, .int .u8 t.ex.top.k, .string t.ex.top.rat, .string t.ex.top.name, .int .i64 t.ex.top.date, .slice Au ku cu, .int .i64 t.date, .slice Ad kd cd, .slice A l.length cp] 29)) = W0 at *
    go_cut [0] from 9 to 12 (fun lv wx => ∃ A' c', lv = .slice A' L1.length c' ∧ Hid (SB wx (.slice A' L1.length c') L1) ∧ Below W0.heap.size W0 wx)
    case first =>
      rcases b1 with _ | _
      · have HQ := HB1.out rfl
        have HC := Lib.hid (HW1.out W0 HV0.out (by have := HLN.out; omega))
        clear HA1 HB1 HW1 HW2
        go_wp2_with fail
        refine HC.out.mono ?_
        rintro e W1 ⟨v1, rfl, hO1, hb1⟩
        rw [← HQ] at hO1
        have hS1 := OL.sl bE_len hO1
        obtain ⟨A1, d1, rfl⟩ := OL.shape hO1
        have HS1 := Lib.hid hS1
        clear hO1 hS1 HQ HC
        go_wp2_with fail
        go_meet
        exact ⟨A1, d1, rfl, HS1, hb1⟩
      · have HQ := HA1.out rfl
        subst HQ
        go_wp2_with fail
        go_meet
        exact ⟨Av, cv, rfl, HV0, Below.refl _ _⟩
    case rest =>
    obtain ⟨A1, d1, rfl, HV1, hb1⟩ := hcut
    rename World => W1
    replace BX := BX.below hb1
    clear c1 c2 c11 HA1 HB1 HW1
    have c2 := BX.cell 2
    go_upto_if 15 with fail
    go_cut [0] from 16 to 19 (fun lv wx => ∃ A' c', lv = .slice A' L2.length c' ∧ Hid (SB wx (.slice A' L2.length c') L2) ∧ Below W1.heap.size W1 wx)
    case first =>
      rcases b2 with _ | _
      · have HQ := HB2.out rfl
        have HC := Lib.hid (HW2.out A1 d1 W1 HV1.out (by have := HLN.out; have := HLL.out; omega))
        clear HA2 HB2 HW2
        go_wp2_with fail
        refine HC.out.mono ?_
        rintro e W2 ⟨v1, rfl, hO1, hb2⟩
        rw [← HQ] at hO1
        have hS1 := OL.sl bE_len hO1
        obtain ⟨A2, d2, rfl⟩ := OL.shape hO1
        have HS1 := Lib.hid hS1
        clear hO1 hS1 HQ HC
        go_wp2_with fail
        go_meet
        exact ⟨A2, d2, rfl, HS1, hb2⟩
      · have HQ := HA2.out rfl
        subst HQ
        go_wp2_with fail
        go_meet
        exact ⟨A1, d1, rfl, HV1, Below.refl _ _⟩
    case rest =>
    obtain ⟨A2, d2, rfl, HV2, hb2⟩ := hcut
    rename World => W2
    replace BX := BX.below hb2
    clear c2 HA2 HB2 HW2
    have h0 := hb0.trans ((hb1.trans (hb2.mono hb1.size)).mono hb0.size)
    have HSS := Lib.hid (CS.below (hb1.trans (hb2.mono hb1.size)) HS.out)
    have HI0 : Hid (RR = ((l.drop 0).flatMap (Z.allW Z.pw n)).foldl Z.withB L2) := Lib.hid (by rw [List.drop_zero, HRR.out, HL2.out])
    have HJ0 : Hid (L2.length + ((l.drop 0).flatMap (Z.allW Z.pw n)).length ≤ 9000) := Lib.hid (by
      rw [List.drop_zero]
      have := HPL.out
      have := HLN.out
      rw [HL2.out] at *
      omega)
    clear HRR HL2 HLN HPL HPW HS HV0
    have c11 := BX.cell 11
    go_wp2_with fail
    clear c11
    go_loopw [0, 5] (fun lv iv wr => ∃ (k : Nat) (cur : List Z.BS) (A' : Option Addr) (c' : Nat), k ≤ l.length ∧ iv = .int .i64 k ∧ lv = .slice A' cur.length c' ∧ Hid (SB wr (.slice A' cur.length c') cur) ∧ Hid (RR = ((l.drop k).flatMap (Z.allW Z.pw n)).foldl Z.withB cur) ∧ Hid (cur.length + ((l.drop k).flatMap (Z.allW Z.pw n)).length ≤ 9000) ∧ Below W2.heap.size W2 wr) (fun _ iv _ => l.length - (intOf iv).toNat)
    case atStart => exact ⟨0, L2, A2, d2, by omega, rfl, rfl, HV2, HI0, HJ0, Below.refl _ _⟩
    case round =>
      clear HI0 HJ0 HV2
      obtain ⟨k, cur, A', c', hk, rfl, rfl, HV, HI, HJ, hbr⟩ := hrel
      have hbw := h0.trans (hbr.mono h0.size)
      have c11 := (BX.below hbr).cell 11
      by_cases hlt : k < l.length
      · have hz : l[k]? = some l[k] := List.getElem?_eq_getElem hlt
        obtain ⟨b, o, ax, ux, dx, sx, rfl, hbl, q0, q1, q2, q3, q4, q5, q6, q7, q8, q9, q10, q11, hv⟩ := CS.cells (CS.below hbr HSS.out) hz
        have HDR : Hid ((l.drop k).flatMap (Z.allW Z.pw n) = Z.allW Z.pw n l[k] ++ (l.drop (k + 1)).flatMap (Z.allW Z.pw n)) := Lib.hid (by rw [List.drop_eq_getElem_cons hlt, List.flatMap_cons])
        clear hz
        generalize l[k] = y at *
        have hi0 : (0 : Int) ≤ (k : Int) := by omega
        have hi1 : (k : Int) < (l.length : Int) := by omega
        obtain ⟨⟨Yu, yu1, yu2, rfl⟩, ⟨Yd, yd1, yd2, rfl⟩, ⟨Ys, ys1, ys2, rfl⟩⟩ := hv.shape
        have HJ2 := HJ.out
        rw [HDR.out, List.length_append] at HJ2
        have HC := Lib.hid (ih y ax _ _ _ _ cur wr hv HV.out (by omega))
        have HFL := Z.foldW_len (Z.allW Z.pw n y) cur
        have HI2 : Hid (RR = ((l.drop (k + 1)).flatMap (Z.allW Z.pw n)).foldl Z.withB ((Z.allW Z.pw n y).foldl Z.withB cur)) := Lib.hid (by rw [HI.out, HDR.out, List.foldl_append])
        have HJ3 : Hid (((Z.allW Z.pw n y).foldl Z.withB cur).length + ((l.drop (k + 1)).flatMap (Z.allW Z.pw n)).length ≤ 9000) := Lib.hid (by omega)
        clear hv ih HI HJ HJ2 HFL HDR
        generalize (Z.allW Z.pw n y).foldl Z.withB cur = nx at *
        go_wp2_with fail
        refine HC.out.mono ?_
        rintro e W3 ⟨v3, rfl, hS3, hb⟩
        obtain ⟨A3, d3, rfl, _, _⟩ := hS3.shape
        have HS3 := Lib.hid hS3
        have hbn := hbr.trans (hb.mono hbr.size)
        clear HC hb hS3 q0 q1 q2 q3 q4 q5 q6 q7 q8 q9 q10 q11 hbw c11 hbr hbl
        go_wp2_with fail
        go_roundw
        case rel => first | exact ⟨k + 1, nx, A3, d3, by omega, by go_num, rfl, HS3, HI2, HJ3, hbn⟩ | ((repeat apply Exists.intro); exact ⟨⟨k + 1, nx, A3, d3, by omega, by go_num, rfl, HS3, HI2, HJ3, hbn⟩, rfl⟩)
        case measure => simp [intOf]; omega
      · obtain rfl : k = l.length := by omega
        have HN : Hid (RR = cur) := Lib.hid (by rw [HI.out, List.drop_length]; rfl)
        go_wp2_with fail
        go_ret
        exact ⟨_, rfl, by rw [HN.out]; exact HV.out, hbw⟩
set_option maxRecDepth 100000 in
set_option maxHeartbeats 4000000 in
theorem rmoneys_any {m : Nat} : ∀ (n : Nat) (c : Z.Co m n) (a : Z.CN m) (u dv sv v : Value) (l0 : List Z.BS) (w : World), CV w n c ⟨a, u, dv, sv⟩ → SB w v l0 → l0.length + (Z.allW Z.mwR n c).length ≤ 9000 → Calls Tryz.prog 19 #[v, .agg #[.int .u8 a.k, .string a.fr, .string a.tu, .string a.nm, .int .u8 a.ex.top.k, .string a.ex.top.rat, .string a.ex.top.name, .int .i64 a.ex.top.date, u, .int .i64 a.date, dv, sv]] w fun e w' => ∃ v', e = .returned v' ∧ SB w' v' ((Z.allW Z.mwR n c).foldl Z.withB l0) ∧ Below w.heap.size w w' := by
  intro n
  induction n with
  | zero => intro c; exact c.no
  | succ n ih =>
    intro c a u dv sv v l0 w hc hv hlen
    have HKS := Lib.hid hc.shape
    obtain ⟨rfl, hX, hD, hS⟩ := hc.open_
    obtain ⟨⟨Au, ku, cu, rfl⟩, ⟨Ad, kd, cd, rfl⟩, _⟩ := HKS.out
    obtain ⟨A, cp, rfl, hlc, hcm⟩ := hS.shape
    unfold maxLen at hcm
    obtain ⟨Av, cv, rfl, hvc, hvm⟩ := hv.shape
    unfold maxLen at hvm
    have hb0 := (Below.refl _ w).alloc (Nat.le_refl w.heap.size) (.cells #[.int .u8 c.top.k, .string c.top.fr, .string c.top.tu, .string c.top.nm, .int .u8 c.top.ex.top.k, .string c.top.ex.top.rat, .string c.top.ex.top.name, .int .i64 c.top.ex.top.date, .slice Au ku cu, .int .i64 c.top.date, .slice Ad kd cd, .slice A c.sub.length cp] 29)
    have BX := Blk.new w 29 #[.int .u8 c.top.k, .string c.top.fr, .string c.top.tu, .string c.top.nm, .int .u8 c.top.ex.top.k, .string c.top.ex.top.rat, .string c.top.ex.top.name, .int .i64 c.top.ex.top.date, .slice Au ku cu, .int .i64 c.top.date, .slice Ad kd cd, .slice A c.sub.length cp]
    have HS := Lib.hid (CS.below hb0 hS)
    have HV0 := Lib.hid (SL.below hv hb0)
    have HRR : Hid ((Z.allW Z.mwR (n + 1) c).foldl Z.withB l0 = (c.sub.flatMap (Z.allW Z.mwR n)).foldl Z.withB ((Z.mwR c.top).foldl Z.withB l0)) := Lib.hid (by rw [Z.allW_eq, List.foldl_append])
    have HLN : Hid (l0.length + ((Z.mwR c.top).length + (c.sub.flatMap (Z.allW Z.mwR n)).length) ≤ 9000) := Lib.hid (by rw [Z.allW_eq, List.length_append] at hlen; exact hlen)
    have HPL := Lib.hid (Z.foldW_len (Z.mwR c.top) l0)
    have HPW : Hid ((Z.mwR c.top).foldl Z.withB l0 = if c.top.k = 2 then Z.withB l0 (Z.bytesW c.top.nm) else l0) := Lib.hid (by unfold Z.mwR; split <;> rfl)
    generalize (Z.allW Z.mwR (n + 1) c).foldl Z.withB l0 = RR at *
    clear hc hX hD hS HKS hv hlen
    generalize c.sub = l at *
    generalize c.top = t at *
    have c0 := BX.cell 0
    have c3 := BX.cell 3
    have c11 := BX.cell 11
    go_enter Tryz.func19, Tryz.ntmps19
    obtain ⟨L2, hL2⟩ : ∃ L, L = if t.k = 2 then Z.withB l0 (Z.bytesW t.nm) else l0 := ⟨_, rfl⟩
    have HL2 : Hid ((Z.mwR t).foldl Z.withB l0 = L2) := Lib.hid (by rw [HPW.out, hL2])
    have HW1 := Lib.hid (fun W (h : SB W (.slice Av l0.length cv) l0) hl => rwith_any (.slice Av l0.length cv) l0 (Z.bytesW t.nm) W h hl)
    rw [Z.ofW_bytes] at HW1
    have HA1 : Hid (decide (t.k = 2) = false → L2 = l0) := Lib.hid (fun h => by rw [hL2, if_neg (of_decide_eq_false h)])
    have HB1 : Hid (decide (t.k = 2) = true → L2 = Z.withB l0 (Z.bytesW t.nm)) := Lib.hid (fun h => by rw [hL2, if_pos (of_decide_eq_true h)])
    clear hL2
    have e1 := Z.eqI t.k 2
    generalize decide (t.k = 2) = bk at *
    go_upto_if 8 with fail
    generalize (w.alloc (.cells #[.int .u8 t.k, .string t.fr, .string t.tu, .string t.nm, .int .u8 t.ex.top.k, .string t.ex.top.rat, .string t.ex.top.name, .int .i64 t.ex.top.date, .slice Au ku cu, .int .i64 t.date, .slice Ad kd cd, .slice A l.length cp] 29)) = W0 at *
    go_cut [0] from 9 to 12 (fun lv wx => ∃ A' c', lv = .slice A' L2.length c' ∧ Hid (SB wx (.slice A' L2.length c') L2) ∧ Below W0.heap.size W0 wx)
    case first =>
      rcases bk with _ | _
      rotate_left
      · have HQ := HB1.out rfl
        have HC := Lib.hid (HW1.out W0 HV0.out (by have := HLN.out; omega))
        clear HA1 HB1 HW1
        go_wp2_with fail
        refine HC.out.mono ?_
        rintro e W1 ⟨v1, rfl, hO1, hb1⟩
        rw [← HQ] at hO1
        have hS1 := OL.sl bE_len hO1
        obtain ⟨A1, d1, rfl⟩ := OL.shape hO1
        have HS1 := Lib.hid hS1
        clear hO1 hS1 HQ HC
        go_wp2_with fail
        go_meet
        exact ⟨A1, d1, rfl, HS1, hb1⟩
      · have HQ := HA1.out rfl
        subst HQ
        go_wp2_with fail
        go_meet
        exact ⟨Av, cv, rfl, HV0, Below.refl _ _⟩
    case rest =>
    obtain ⟨A2, d2, rfl, HV2, hb2⟩ := hcut
    rename World => W2
    replace BX := BX.below hb2
    clear c0 c3 c11 HA1 HB1 HW1
    have h0 := hb0.trans (hb2.mono hb0.size)
    have HSS := Lib.hid (CS.below hb2 HS.out)
    have HI0 : Hid (RR = ((l.drop 0).flatMap (Z.allW Z.mwR n)).foldl Z.withB L2) := Lib.hid (by rw [List.drop_zero, HRR.out, HL2.out])
    have HJ0 : Hid (L2.length + ((l.drop 0).flatMap (Z.allW Z.mwR n)).length ≤ 9000) := Lib.hid (by
      rw [List.drop_zero]
      have := HPL.out
      have := HLN.out
      rw [HL2.out] at *
      omega)
    clear HRR HL2 HLN HPL HPW HS HV0
    have c11 := BX.cell 11
    go_wp2_with fail
    clear c11
    go_loopw [0, 5] (fun lv iv wr => ∃ (k : Nat) (cur : List Z.BS) (A' : Option Addr) (c' : Nat), k ≤ l.length ∧ iv = .int .i64 k ∧ lv = .slice A' cur.length c' ∧ Hid (SB wr (.slice A' cur.length c') cur) ∧ Hid (RR = ((l.drop k).flatMap (Z.allW Z.mwR n)).foldl Z.withB cur) ∧ Hid (cur.length + ((l.drop k).flatMap (Z.allW Z.mwR n)).length ≤ 9000) ∧ Below W2.heap.size W2 wr) (fun _ iv _ => l.length - (intOf iv).toNat)
    case atStart => exact ⟨0, L2, A2, d2, by omega, rfl, rfl, HV2, HI0, HJ0, Below.refl _ _⟩
    case round =>
      clear HI0 HJ0 HV2
      obtain ⟨k, cur, A', c', hk, rfl, rfl, HV, HI, HJ, hbr⟩ := hrel
      have hbw := h0.trans (hbr.mono h0.size)
      have c11 := (BX.below hbr).cell 11
      by_cases hlt : k < l.length
      · have hz : l[k]? = some l[k] := List.getElem?_eq_getElem hlt
        obtain ⟨b, o, ax, ux, dx, sx, rfl, hbl, q0, q1, q2, q3, q4, q5, q6, q7, q8, q9, q10, q11, hv⟩ := CS.cells (CS.below hbr HSS.out) hz
        have HDR : Hid ((l.drop k).flatMap (Z.allW Z.mwR n) = Z.allW Z.mwR n l[k] ++ (l.drop (k + 1)).flatMap (Z.allW Z.mwR n)) := Lib.hid (by rw [List.drop_eq_getElem_cons hlt, List.flatMap_cons])
        clear hz
        generalize l[k] = y at *
        have hi0 : (0 : Int) ≤ (k : Int) := by omega
        have hi1 : (k : Int) < (l.length : Int) := by omega
        obtain ⟨⟨Yu, yu1, yu2, rfl⟩, ⟨Yd, yd1, yd2, rfl⟩, ⟨Ys, ys1, ys2, rfl⟩⟩ := hv.shape
        have HJ2 := HJ.out
        rw [HDR.out, List.length_append] at HJ2
        have HC := Lib.hid (ih y ax _ _ _ _ cur wr hv HV.out (by omega))
        have HFL := Z.foldW_len (Z.allW Z.mwR n y) cur
        have HI2 : Hid (RR = ((l.drop (k + 1)).flatMap (Z.allW Z.mwR n)).foldl Z.withB ((Z.allW Z.mwR n y).foldl Z.withB cur)) := Lib.hid (by rw [HI.out, HDR.out, List.foldl_append])
        have HJ3 : Hid (((Z.allW Z.mwR n y).foldl Z.withB cur).length + ((l.drop (k + 1)).flatMap (Z.allW Z.mwR n)).length ≤ 9000) := Lib.hid (by omega)
        clear hv ih HI HJ HJ2 HFL HDR
        generalize (Z.allW Z.mwR n y).foldl Z.withB cur = nx at *
        go_wp2_with fail
        refine HC.out.mono ?_
        rintro e W3 ⟨v3, rfl, hS3, hb⟩
        obtain ⟨A3, d3, rfl, _, _⟩ := hS3.shape
        have HS3 := Lib.hid hS3
        have hbn := hbr.trans (hb.mono hbr.size)
        clear HC hb hS3 q0 q1 q2 q3 q4 q5 q6 q7 q8 q9 q10 q11 hbw c11 hbr hbl
        go_wp2_with fail
        go_roundw
        case rel => first | exact ⟨k + 1, nx, A3, d3, by omega, by go_num, rfl, HS3, HI2, HJ3, hbn⟩ | ((repeat apply Exists.intro); exact ⟨⟨k + 1, nx, A3, d3, by omega, by go_num, rfl, HS3, HI2, HJ3, hbn⟩, rfl⟩)
        case measure => simp [intOf]; omega
      · obtain rfl : k = l.length := by omega
        have HN : Hid (RR = cur) := Lib.hid (by rw [HI.out, List.drop_length]; rfl)
        go_wp2_with fail
        go_ret
        exact ⟨_, rfl, by rw [HN.out]; exact HV.out, hbw⟩
set_option maxRecDepth 100000 in
set_option maxHeartbeats 2000000 in
theorem rparties_any {m : Nat} (n : Nat) (c : Z.Co m (n + 1)) (a : Z.CN m) (u dv sv : Value) (w : World) (hc : CV w (n + 1) c ⟨a, u, dv, sv⟩) (hV : HasV w) (hs : Z.CSm (n + 1) c) :
    Calls Tryz.prog 6 #[.agg #[.int .u8 a.k, .string a.fr, .string a.tu, .string a.nm, .int .u8 a.ex.top.k, .string a.ex.top.rat, .string a.ex.top.name, .int .i64 a.ex.top.date, u, .int .i64 a.date, dv, sv]] w fun e w' => ∃ v, e = .returned (.tuple #[v, .int .i64 (Z.coE (n + 1) c)]) ∧ SB w' v (Z.wordsL Z.pw (n + 1) c) ∧ Below w.heap.size w w' := by
  obtain ⟨Au, ku, cu, rfl⟩ := hc.shape.1
  obtain ⟨Ad, kd, cd, rfl⟩ := hc.shape.2.1
  obtain ⟨As, ks, cs, rfl⟩ := hc.shape.2.2
  have hb0 := (Below.refl _ w).alloc (Nat.le_refl w.heap.size) (.cells #[.int .u8 a.k, .string a.fr, .string a.tu, .string a.nm, .int .u8 a.ex.top.k, .string a.ex.top.rat, .string a.ex.top.name, .int .i64 a.ex.top.date, .slice Au ku cu, .int .i64 a.date, .slice Ad kd cd, .slice As ks cs] 29)
  have BX := Blk.new w 29 #[.int .u8 a.k, .string a.fr, .string a.tu, .string a.nm, .int .u8 a.ex.top.k, .string a.ex.top.rat, .string a.ex.top.name, .int .i64 a.ex.top.date, .slice Au ku cu, .int .i64 a.date, .slice Ad kd cd, .slice As ks cs]
  have HK := Lib.hid (fun W (h : Below w.heap.size w W) => rccheck_any n c a _ _ _ W (CV.below h _ hc) (hV.below h) hs)
  have HL := Lib.hid (fun W (h : Below w.heap.size w W) => rpeople_any (n + 1) c a _ _ _ (.slice none 0 0) [] W (CV.below h _ hc) SL.nil_ (by have := Z.allW_len Z.pw_len2 hs; simp only [List.length_nil]; omega))
  have HZ : Hid (Z.wordsL Z.pw (n + 1) c = if Z.coE (n + 1) c = 0 then (Z.allW Z.pw (n + 1) c).foldl Z.withB [] else []) := Lib.hid (by
    unfold Z.wordsL
    by_cases h : Z.coE (n + 1) c = 0
    · rw [if_pos h, if_pos h, Z.foldW_uniq]
    · rw [if_neg h, if_neg h])
  clear hc hV hs
  generalize Z.wordsL Z.pw (n + 1) c = HO at *
  generalize (Z.allW Z.pw (n + 1) c).foldl Z.withB [] = LA at *
  generalize Z.coE (n + 1) c = E at *
  have c0 := BX.cell 0
  have c1 := BX.cell 1
  have c2 := BX.cell 2
  have c3 := BX.cell 3
  have c4 := BX.cell 4
  have c5 := BX.cell 5
  have c6 := BX.cell 6
  have c7 := BX.cell 7
  have c8 := BX.cell 8
  have c9 := BX.cell 9
  have c10 := BX.cell 10
  have c11 := BX.cell 11
  go_enter Tryz.func6, Tryz.ntmps6
  go_wp2_with fail
  refine (HK.out _ hb0).mono ?_
  rintro e W1 ⟨rfl, hb⟩
  have hb1 := hb0.trans (hb.mono hb0.size)
  replace BX := BX.below hb
  clear c0 c1 c2 c3 c4 c5 c6 c7 c8 c9 c10 c11 hb hb0
  have c0 := BX.cell 0
  have c1 := BX.cell 1
  have c2 := BX.cell 2
  have c3 := BX.cell 3
  have c4 := BX.cell 4
  have c5 := BX.cell 5
  have c6 := BX.cell 6
  have c7 := BX.cell 7
  have c8 := BX.cell 8
  have c9 := BX.cell 9
  have c10 := BX.cell 10
  have c11 := BX.cell 11
  by_cases hE : E = 0
  · have HZ2 := Lib.hid (HZ.out.trans (if_pos hE))
    have hE2 : (E != 0) = false := by simpa using hE
    clear HZ HK
    have HE : Hid (0 = E) := Lib.hid hE.symm
    clear hE
    go_wp2_with fail
    refine (HL.out _ hb1).mono ?_
    rintro e W2 ⟨v2, rfl, hS2, hb⟩
    have hb2 := hb1.trans (hb.mono hb1.size)
    go_wp2_with fail
    go_ret2
    exact ⟨v2, congrArg (fun x => Ending.returned (.tuple #[v2, .int .i64 x])) HE.out, by rw [HZ2.out]; exact hS2, hb2⟩
  · have HZ2 := Lib.hid (HZ.out.trans (if_neg hE))
    have hE2 : (E != 0) = true := by simpa using hE
    clear HZ hE HL
    go_wp2_with fail
    refine (HK.out _ hb1).mono ?_
    rintro e W2 ⟨rfl, hb⟩
    have hb2 := hb1.trans (hb.mono hb1.size)
    go_wp2_with fail
    go_ret2
    exact ⟨_, rfl, by rw [HZ2.out]; exact SL.nil_, hb2⟩
set_option maxRecDepth 100000 in
set_option maxHeartbeats 2000000 in
theorem rmoney_any {m : Nat} (n : Nat) (c : Z.Co m (n + 1)) (a : Z.CN m) (u dv sv : Value) (w : World) (hc : CV w (n + 1) c ⟨a, u, dv, sv⟩) (hV : HasV w) (hs : Z.CSm (n + 1) c) :
    Calls Tryz.prog 8 #[.agg #[.int .u8 a.k, .string a.fr, .string a.tu, .string a.nm, .int .u8 a.ex.top.k, .string a.ex.top.rat, .string a.ex.top.name, .int .i64 a.ex.top.date, u, .int .i64 a.date, dv, sv]] w fun e w' => ∃ v, e = .returned (.tuple #[v, .int .i64 (Z.coE (n + 1) c)]) ∧ SB w' v (Z.wordsL Z.mw (n + 1) c) ∧ Below w.heap.size w w' := by
  obtain ⟨Au, ku, cu, rfl⟩ := hc.shape.1
  obtain ⟨Ad, kd, cd, rfl⟩ := hc.shape.2.1
  obtain ⟨As, ks, cs, rfl⟩ := hc.shape.2.2
  have hb0 := (Below.refl _ w).alloc (Nat.le_refl w.heap.size) (.cells #[.int .u8 a.k, .string a.fr, .string a.tu, .string a.nm, .int .u8 a.ex.top.k, .string a.ex.top.rat, .string a.ex.top.name, .int .i64 a.ex.top.date, .slice Au ku cu, .int .i64 a.date, .slice Ad kd cd, .slice As ks cs] 29)
  have BX := Blk.new w 29 #[.int .u8 a.k, .string a.fr, .string a.tu, .string a.nm, .int .u8 a.ex.top.k, .string a.ex.top.rat, .string a.ex.top.name, .int .i64 a.ex.top.date, .slice Au ku cu, .int .i64 a.date, .slice Ad kd cd, .slice As ks cs]
  have HK := Lib.hid (fun W (h : Below w.heap.size w W) => rccheck_any n c a _ _ _ W (CV.below h _ hc) (hV.below h) hs)
  have HL := Lib.hid (fun W (h : Below w.heap.size w W) => rmoneys_any (n + 1) c a _ _ _ (.slice none 0 0) [] W (CV.below h _ hc) SL.nil_ (by have := Z.allW_len Z.mwR_len hs; simp only [List.length_nil]; omega))
  have HZ : Hid (Z.wordsL Z.mw (n + 1) c = if Z.coE (n + 1) c = 0 then (Z.allW Z.mwR (n + 1) c).foldl Z.withB [] else []) := Lib.hid (by
    unfold Z.wordsL
    by_cases h : Z.coE (n + 1) c = 0
    · rw [if_pos h, if_pos h, Z.foldW_uniq, Z.allW_mwR h]
    · rw [if_neg h, if_neg h])
  clear hc hV hs
  generalize Z.wordsL Z.mw (n + 1) c = HO at *
  generalize (Z.allW Z.mwR (n + 1) c).foldl Z.withB [] = LA at *
  generalize Z.coE (n + 1) c = E at *
  have c0 := BX.cell 0
  have c1 := BX.cell 1
  have c2 := BX.cell 2
  have c3 := BX.cell 3
  have c4 := BX.cell 4
  have c5 := BX.cell 5
  have c6 := BX.cell 6
  have c7 := BX.cell 7
  have c8 := BX.cell 8
  have c9 := BX.cell 9
  have c10 := BX.cell 10
  have c11 := BX.cell 11
  go_enter Tryz.func8, Tryz.ntmps8
  go_wp2_with fail
  refine (HK.out _ hb0).mono ?_
  rintro e W1 ⟨rfl, hb⟩
  have hb1 := hb0.trans (hb.mono hb0.size)
  replace BX := BX.below hb
  clear c0 c1 c2 c3 c4 c5 c6 c7 c8 c9 c10 c11 hb hb0
  have c0 := BX.cell 0
  have c1 := BX.cell 1
  have c2 := BX.cell 2
  have c3 := BX.cell 3
  have c4 := BX.cell 4
  have c5 := BX.cell 5
  have c6 := BX.cell 6
  have c7 := BX.cell 7
  have c8 := BX.cell 8
  have c9 := BX.cell 9
  have c10 := BX.cell 10
  have c11 := BX.cell 11
  by_cases hE : E = 0
  · have HZ2 := Lib.hid (HZ.out.trans (if_pos hE))
    have hE2 : (E != 0) = false := by simpa using hE
    clear HZ HK
    have HE : Hid (0 = E) := Lib.hid hE.symm
    clear hE
    go_wp2_with fail
    refine (HL.out _ hb1).mono ?_
    rintro e W2 ⟨v2, rfl, hS2, hb⟩
    have hb2 := hb1.trans (hb.mono hb1.size)
    go_wp2_with fail
    go_ret2
    exact ⟨v2, congrArg (fun x => Ending.returned (.tuple #[v2, .int .i64 x])) HE.out, by rw [HZ2.out]; exact hS2, hb2⟩
  · have HZ2 := Lib.hid (HZ.out.trans (if_neg hE))
    have hE2 : (E != 0) = true := by simpa using hE
    clear HZ hE HL
    go_wp2_with fail
    refine (HK.out _ hb1).mono ?_
    rintro e W2 ⟨rfl, hb⟩
    have hb2 := hb1.trans (hb.mono hb1.size)
    go_wp2_with fail
    go_ret2
    exact ⟨_, rfl, by rw [HZ2.out]; exact SL.nil_, hb2⟩
set_option maxRecDepth 100000 in
set_option maxHeartbeats 2000000 in
theorem rhorizon_any {m : Nat} (n : Nat) (c : Z.Co m (n + 1)) (a : Z.CN m) (u dv sv : Value) (w : World) (hc : CV w (n + 1) c ⟨a, u, dv, sv⟩) (hV : HasV w) (hs : Z.CSm (n + 1) c) :
    Calls Tryz.prog 10 #[.agg #[.int .u8 a.k, .string a.fr, .string a.tu, .string a.nm, .int .u8 a.ex.top.k, .string a.ex.top.rat, .string a.ex.top.name, .int .i64 a.ex.top.date, u, .int .i64 a.date, dv, sv]] w fun e w' => e = .returned (.tuple #[.int .i64 (Z.horZ (n + 1) c), .int .i64 (Z.coE (n + 1) c)]) ∧ Below w.heap.size w w' := by
  obtain ⟨Au, ku, cu, rfl⟩ := hc.shape.1
  obtain ⟨Ad, kd, cd, rfl⟩ := hc.shape.2.1
  obtain ⟨As, ks, cs, rfl⟩ := hc.shape.2.2
  have hb0 := (Below.refl _ w).alloc (Nat.le_refl w.heap.size) (.cells #[.int .u8 a.k, .string a.fr, .string a.tu, .string a.nm, .int .u8 a.ex.top.k, .string a.ex.top.rat, .string a.ex.top.name, .int .i64 a.ex.top.date, .slice Au ku cu, .int .i64 a.date, .slice Ad kd cd, .slice As ks cs] 29)
  have BX := Blk.new w 29 #[.int .u8 a.k, .string a.fr, .string a.tu, .string a.nm, .int .u8 a.ex.top.k, .string a.ex.top.rat, .string a.ex.top.name, .int .i64 a.ex.top.date, .slice Au ku cu, .int .i64 a.date, .slice Ad kd cd, .slice As ks cs]
  have HK := Lib.hid (fun W (h : Below w.heap.size w W) => rccheck_any n c a _ _ _ W (CV.below h _ hc) (hV.below h) hs)
  have HL := Lib.hid (fun W (h : Below w.heap.size w W) => rlast_any (n + 1) c a _ _ _ W (CV.below h _ hc))
  have HZ := Lib.hid (Z.horZ_last c)
  clear hc hV hs
  generalize Z.horZ (n + 1) c = HO at *
  generalize Z.coLast (n + 1) c = LA at *
  generalize Z.coE (n + 1) c = E at *
  have c0 := BX.cell 0
  have c1 := BX.cell 1
  have c2 := BX.cell 2
  have c3 := BX.cell 3
  have c4 := BX.cell 4
  have c5 := BX.cell 5
  have c6 := BX.cell 6
  have c7 := BX.cell 7
  have c8 := BX.cell 8
  have c9 := BX.cell 9
  have c10 := BX.cell 10
  have c11 := BX.cell 11
  go_enter Tryz.func10, Tryz.ntmps10
  go_wp2_with fail
  refine (HK.out _ hb0).mono ?_
  rintro e W1 ⟨rfl, hb⟩
  have hb1 := hb0.trans (hb.mono hb0.size)
  replace BX := BX.below hb
  clear c0 c1 c2 c3 c4 c5 c6 c7 c8 c9 c10 c11 hb hb0
  have c0 := BX.cell 0
  have c1 := BX.cell 1
  have c2 := BX.cell 2
  have c3 := BX.cell 3
  have c4 := BX.cell 4
  have c5 := BX.cell 5
  have c6 := BX.cell 6
  have c7 := BX.cell 7
  have c8 := BX.cell 8
  have c9 := BX.cell 9
  have c10 := BX.cell 10
  have c11 := BX.cell 11
  by_cases hE : E = 0
  · have HZ2 := Lib.hid (HZ.out.trans (if_pos hE))
    have hE2 : (E != 0) = false := by simpa using hE
    clear HZ HK
    have HE : Hid (0 = E) := Lib.hid hE.symm
    clear hE
    go_wp2_with fail
    refine (HL.out _ hb1).mono ?_
    rintro e W2 ⟨rfl, hb⟩
    have hb2 := hb1.trans (hb.mono hb1.size)
    go_wp2_with fail
    go_ret2
    exact ⟨by rw [HZ2.out]; exact congrArg (fun x => Ending.returned (.tuple #[.int .i64 LA, .int .i64 x])) HE.out, hb2⟩
  · have HZ2 := Lib.hid (HZ.out.trans (if_neg hE))
    have hE2 : (E != 0) = true := by simpa using hE
    clear HZ hE HL
    go_wp2_with fail
    refine (HK.out _ hb1).mono ?_
    rintro e W2 ⟨rfl, hb⟩
    have hb2 := hb1.trans (hb.mono hb1.size)
    go_wp2_with fail
    go_ret2
    exact ⟨by rw [HZ2.out]; rfl, hb2⟩
end Go.Proofs.YtifafmomkpkgdaaGreatDoor
