/- Walks: folds over expressions: sizes, depths, last days, bytes; the program's and the reference's. -/
import Derived.Test.YtifafmomkpkgdaaDoorCom
namespace Go.Proofs.YtifafmomkpkgdaaDoor
open Go.RowKit
set_option maxRecDepth 100000 in
set_option maxHeartbeats 2000000 in
theorem xsize_any : ∀ (n : Nat) (x : Z.Ex n) (a : Z.XN) (u : Value) (w : World), XV w n x (a, u) → Z.exSize n x ≤ 1000000 → Calls Tryd.prog 32 #[.agg #[.int .u8 a.k, .string a.rat, .string a.name, .int .i64 a.date, u]] w fun e w' => e = .returned (.int .i64 (Z.exSize n x : Nat)) ∧ Below w.heap.size w w' := by
  intro n
  induction n with
  | zero => intro x; exact x.no
  | succ n ih =>
    intro x a u w hx hs
    obtain ⟨rfl, hS⟩ := hx.open_
    obtain ⟨A, cp, rfl, hlc, hcm⟩ := hS.shape
    unfold maxLen at hcm
    have hb0 := (Below.refl _ w).alloc (Nat.le_refl w.heap.size) (.cells #[.int .u8 x.top.k, .string x.top.rat, .string x.top.name, .int .i64 x.top.date, .slice A x.sub.length cp] 25)
    have BX := Blk.new w 25 #[.int .u8 x.top.k, .string x.top.rat, .string x.top.name, .int .i64 x.top.date, .slice A x.sub.length cp]
    have HS := Lib.hid (ES.below hb0 hS)
    have hb1 : 1 + Z.sumL (Z.exSize n) (x.sub.drop 0) ≤ 1000000 := by rw [Z.exSize] at hs; rw [List.drop_zero]; exact hs
    have hsz : ∀ y ∈ x.sub, Z.exSize n y ≤ 1000000 := fun y hy => by
      have := Z.sumL_mem (f := Z.exSize n) hy
      rw [Z.exSize] at hs
      omega
    obtain ⟨R, hR⟩ : ∃ R, R = (1 + Z.sumL (Z.exSize n) (x.sub.drop 0)) := ⟨_, rfl⟩
    have HR : Hid (R = 1 + Z.sumL (Z.exSize n) (x.sub.drop 0)) := Lib.hid hR
    have HRR : Hid (Z.exSize (n + 1) x = R) := Lib.hid (by rw [hR]; rfl)
    generalize Z.exSize (n + 1) x = RR at *
    have HB : Hid (R ≤ 1000000) := Lib.hid (by rw [hR]; exact hb1)
    have HZ := Lib.hid hsz
    clear hR hs hsz hb1
    generalize x.sub = l at *
    generalize x.top = t at *
    have c1 := BX.cell 1
    have c2 := BX.cell 2
    have c3 := BX.cell 3
    have c4 := BX.cell 4
    clear hS hx
    go_enter Tryd.func32, Tryd.ntmps32
    go_wp2_with fail
    generalize (w.alloc (.cells #[.int .u8 t.k, .string t.rat, .string t.name, .int .i64 t.date, .slice A l.length cp] 25)) = W0 at *
    go_loopw [3, 9] (fun sv iv wr => ∃ (k : Nat) (s : Nat), k ≤ l.length ∧ iv = .int .i64 k ∧ sv = .int .i64 s ∧ Hid (R = s + Z.sumL (Z.exSize n) (l.drop k)) ∧ Below W0.heap.size W0 wr) (fun _ iv _ => l.length - (intOf iv).toNat)
    case atStart => exact ⟨0, _, by omega, rfl, rfl, HR, Below.refl _ _⟩
    case round =>
      obtain ⟨k, s, hk, rfl, rfl, HI, hbr⟩ := hrel
      clear HR
      have hbw := hb0.trans (hbr.mono hb0.size)
      have c4 := (BX.below hbr).cell 4
      by_cases hlt : k < l.length
      · have hz : l[k]? = some l[k] := List.getElem?_eq_getElem hlt
        obtain ⟨b, o, ax, ux, rfl, hbl, q0, q1, q2, q3, q4, hv⟩ := ES.cells (ES.below hbr HS.out) hz
        have HD := Lib.hid (Z.sumL_drop (f := (Z.exSize n)) hz)
        have HM := Lib.hid (List.mem_of_getElem? hz)
        clear hz
        generalize l[k] = y at *
        have hi0 : (0 : Int) ≤ (k : Int) := by omega
        have hi1 : (k : Int) < (l.length : Int) := by omega
        obtain ⟨Ax, kx, cx, rfl⟩ := hv.shape
        have hba := (Below.refl _ wr).alloc (Nat.le_refl wr.heap.size) (.cells #[.int .u8 ax.k, .string ax.rat, .string ax.name, .int .i64 ax.date, .slice Ax kx cx] 25)
        have BY := Blk.new wr 25 #[.int .u8 ax.k, .string ax.rat, .string ax.name, .int .i64 ax.date, .slice Ax kx cx]
        have z0 := BY.cell 0
        have z1 := BY.cell 1
        have z2 := BY.cell 2
        have z3 := BY.cell 3
        have z4 := BY.cell 4
        have HC := Lib.hid (ih y ax (.slice Ax kx cx) (wr.alloc (.cells #[.int .u8 ax.k, .string ax.rat, .string ax.name, .int .i64 ax.date, .slice Ax kx cx] 25)) (XV.below hba n hv) (HZ.out y HM.out))
        clear hv ih
        generalize Z.exSize n y = z at *
        have HN : Hid (R = (s + z) + Z.sumL (Z.exSize n) (l.drop (k + 1))) := Lib.hid (by rw [HI.out, HD.out]; omega)
        have hz1 : (s : Int) + (z : Int) ≤ 1000000 := by have := HN.out; have := HB.out; omega
        clear HI HD
        go_wp2_with fail
        refine HC.out.mono ?_
        rintro e W1 ⟨rfl, hb⟩
        have hbn := hbr.trans ((hba.trans (hb.mono hba.size)).mono hbr.size)
        clear HC hb BY z0 z1 z2 z3 z4 hba q0 q1 q2 q3 q4 hbw
        go_wp2_with fail
        go_roundw
        case rel => first | exact ⟨k + 1, s + z, by omega, by go_num, by go_num, HN, hbn⟩ | ((repeat apply Exists.intro); exact ⟨⟨k + 1, s + z, by omega, by go_num, by go_num, HN, hbn⟩, rfl⟩)
        case measure => simp [intOf]; omega
      · obtain rfl : k = l.length := by omega
        have HN : Hid (R = s) := Lib.hid (by rw [HI.out, List.drop_length]; rfl)
        go_wp2_with fail
        go_ret
        exact ⟨ret_int (by rw [HRR.out, HN.out]), hbw⟩
set_option maxRecDepth 100000 in
set_option maxHeartbeats 2000000 in
theorem rxsize_any : ∀ (n : Nat) (x : Z.Ex n) (a : Z.XN) (u : Value) (w : World), XV w n x (a, u) → Z.exSize n x ≤ 1000000 → Calls Tryd.prog 61 #[.agg #[.int .u8 a.k, .string a.rat, .string a.name, .int .i64 a.date, u]] w fun e w' => e = .returned (.int .i64 (Z.exSize n x : Nat)) ∧ Below w.heap.size w w' := by
  intro n
  induction n with
  | zero => intro x; exact x.no
  | succ n ih =>
    intro x a u w hx hs
    obtain ⟨rfl, hS⟩ := hx.open_
    obtain ⟨A, cp, rfl, hlc, hcm⟩ := hS.shape
    unfold maxLen at hcm
    have hb0 := (Below.refl _ w).alloc (Nat.le_refl w.heap.size) (.cells #[.int .u8 x.top.k, .string x.top.rat, .string x.top.name, .int .i64 x.top.date, .slice A x.sub.length cp] 25)
    have BX := Blk.new w 25 #[.int .u8 x.top.k, .string x.top.rat, .string x.top.name, .int .i64 x.top.date, .slice A x.sub.length cp]
    have HS := Lib.hid (ES.below hb0 hS)
    have hb1 : 1 + Z.sumL (Z.exSize n) (x.sub.drop 0) ≤ 1000000 := by rw [Z.exSize] at hs; rw [List.drop_zero]; exact hs
    have hsz : ∀ y ∈ x.sub, Z.exSize n y ≤ 1000000 := fun y hy => by
      have := Z.sumL_mem (f := Z.exSize n) hy
      rw [Z.exSize] at hs
      omega
    obtain ⟨R, hR⟩ : ∃ R, R = (1 + Z.sumL (Z.exSize n) (x.sub.drop 0)) := ⟨_, rfl⟩
    have HR : Hid (R = 1 + Z.sumL (Z.exSize n) (x.sub.drop 0)) := Lib.hid hR
    have HRR : Hid (Z.exSize (n + 1) x = R) := Lib.hid (by rw [hR]; rfl)
    generalize Z.exSize (n + 1) x = RR at *
    have HB : Hid (R ≤ 1000000) := Lib.hid (by rw [hR]; exact hb1)
    have HZ := Lib.hid hsz
    clear hR hs hsz hb1
    generalize x.sub = l at *
    generalize x.top = t at *
    have c1 := BX.cell 1
    have c2 := BX.cell 2
    have c3 := BX.cell 3
    have c4 := BX.cell 4
    clear hS hx
    go_enter Tryd.func61, Tryd.ntmps61
    go_wp2_with fail
    generalize (w.alloc (.cells #[.int .u8 t.k, .string t.rat, .string t.name, .int .i64 t.date, .slice A l.length cp] 25)) = W0 at *
    go_loopw [3, 4] (fun sv iv wr => ∃ (k : Nat) (s : Nat), k ≤ l.length ∧ iv = .int .i64 k ∧ sv = .int .i64 s ∧ Hid (R = s + Z.sumL (Z.exSize n) (l.drop k)) ∧ Below W0.heap.size W0 wr) (fun _ iv _ => l.length - (intOf iv).toNat)
    case atStart => exact ⟨0, _, by omega, rfl, rfl, HR, Below.refl _ _⟩
    case round =>
      obtain ⟨k, s, hk, rfl, rfl, HI, hbr⟩ := hrel
      clear HR
      have hbw := hb0.trans (hbr.mono hb0.size)
      have c4 := (BX.below hbr).cell 4
      by_cases hlt : k < l.length
      · have hz : l[k]? = some l[k] := List.getElem?_eq_getElem hlt
        obtain ⟨b, o, ax, ux, rfl, hbl, q0, q1, q2, q3, q4, hv⟩ := ES.cells (ES.below hbr HS.out) hz
        have HD := Lib.hid (Z.sumL_drop (f := (Z.exSize n)) hz)
        have HM := Lib.hid (List.mem_of_getElem? hz)
        clear hz
        generalize l[k] = y at *
        have hi0 : (0 : Int) ≤ (k : Int) := by omega
        have hi1 : (k : Int) < (l.length : Int) := by omega
        have HC := Lib.hid (ih y ax ux wr hv (HZ.out y HM.out))
        clear hv ih
        generalize Z.exSize n y = z at *
        have HN : Hid (R = (s + z) + Z.sumL (Z.exSize n) (l.drop (k + 1))) := Lib.hid (by rw [HI.out, HD.out]; omega)
        have hz1 : (s : Int) + (z : Int) ≤ 1000000 := by have := HN.out; have := HB.out; omega
        clear HI HD
        go_wp2_with fail
        refine HC.out.mono ?_
        rintro e W1 ⟨rfl, hb⟩
        have hbn := hbr.trans (hb.mono hbr.size)
        clear HC hb q0 q1 q2 q3 q4 hbw
        go_wp2_with fail
        go_roundw
        case rel => first | exact ⟨k + 1, s + z, by omega, by go_num, by go_num, HN, hbn⟩ | ((repeat apply Exists.intro); exact ⟨⟨k + 1, s + z, by omega, by go_num, by go_num, HN, hbn⟩, rfl⟩)
        case measure => simp [intOf]; omega
      · obtain rfl : k = l.length := by omega
        have HN : Hid (R = s) := Lib.hid (by rw [HI.out, List.drop_length]; rfl)
        go_wp2_with fail
        go_ret
        exact ⟨ret_int (by rw [HRR.out, HN.out]), hbw⟩
set_option maxRecDepth 100000 in
set_option maxHeartbeats 2000000 in
theorem cxdepth_any : ∀ (n : Nat) (x : Z.Ex n) (a : Z.XN) (u : Value) (w : World), XV w n x (a, u) → Z.exDepth n x ≤ 1000000 → Calls Tryd.prog 52 #[.agg #[.int .u8 a.k, .string a.rat, .string a.name, .int .i64 a.date, u]] w fun e w' => e = .returned (.int .i64 (Z.exDepth n x : Nat)) ∧ Below w.heap.size w w' := by
  intro n
  induction n with
  | zero => intro x; exact x.no
  | succ n ih =>
    intro x a u w hx hs
    obtain ⟨rfl, hS⟩ := hx.open_
    obtain ⟨A, cp, rfl, hlc, hcm⟩ := hS.shape
    unfold maxLen at hcm
    have hb0 := (Below.refl _ w).alloc (Nat.le_refl w.heap.size) (.cells #[.int .u8 x.top.k, .string x.top.rat, .string x.top.name, .int .i64 x.top.date, .slice A x.sub.length cp] 25)
    have BX := Blk.new w 25 #[.int .u8 x.top.k, .string x.top.rat, .string x.top.name, .int .i64 x.top.date, .slice A x.sub.length cp]
    have HS := Lib.hid (ES.below hb0 hS)
    have hsz : ∀ y ∈ x.sub, Z.exDepth n y ≤ 1000000 := fun y hy => by
      have := Z.maxL_mem (f := Z.exDepth n) hy
      rw [Z.exDepth] at hs
      omega
    have hb1 : max 0 (Z.maxL (Z.exDepth n) (x.sub.drop 0)) ≤ 1000000 := by rw [Z.exDepth] at hs; rw [List.drop_zero]; omega
    obtain ⟨R, hR⟩ : ∃ R, R = (max 0 (Z.maxL (Z.exDepth n) (x.sub.drop 0))) := ⟨_, rfl⟩
    have HR : Hid (R = max 0 (Z.maxL (Z.exDepth n) (x.sub.drop 0))) := Lib.hid hR
    have HRR : Hid (Z.exDepth (n + 1) x = R + 1) := Lib.hid (by rw [hR]; rw [Z.exDepth, List.drop_zero, Nat.zero_max])
    generalize Z.exDepth (n + 1) x = RR at *
    have HB : Hid (R ≤ 1000000) := Lib.hid (by rw [hR]; exact hb1)
    have HZ := Lib.hid hsz
    clear hR hs hsz hb1
    generalize x.sub = l at *
    generalize x.top = t at *
    have c1 := BX.cell 1
    have c2 := BX.cell 2
    have c3 := BX.cell 3
    have c4 := BX.cell 4
    clear hS hx
    go_enter Tryd.func52, Tryd.ntmps52
    go_wp2_with fail
    generalize (w.alloc (.cells #[.int .u8 t.k, .string t.rat, .string t.name, .int .i64 t.date, .slice A l.length cp] 25)) = W0 at *
    go_loopw [3, 9] (fun sv iv wr => ∃ (k : Nat) (s : Nat), k ≤ l.length ∧ iv = .int .i64 k ∧ sv = .int .i64 s ∧ Hid (R = max s (Z.maxL (Z.exDepth n) (l.drop k))) ∧ Below W0.heap.size W0 wr) (fun _ iv _ => l.length - (intOf iv).toNat)
    case atStart => exact ⟨0, _, by omega, rfl, rfl, HR, Below.refl _ _⟩
    case round =>
      obtain ⟨k, s, hk, rfl, rfl, HI, hbr⟩ := hrel
      clear HR
      have hbw := hb0.trans (hbr.mono hb0.size)
      have c4 := (BX.below hbr).cell 4
      by_cases hlt : k < l.length
      · have hz : l[k]? = some l[k] := List.getElem?_eq_getElem hlt
        obtain ⟨b, o, ax, ux, rfl, hbl, q0, q1, q2, q3, q4, hv⟩ := ES.cells (ES.below hbr HS.out) hz
        have HD := Lib.hid (Z.maxL_drop (f := (Z.exDepth n)) hz)
        have HM := Lib.hid (List.mem_of_getElem? hz)
        clear hz
        generalize l[k] = y at *
        have hi0 : (0 : Int) ≤ (k : Int) := by omega
        have hi1 : (k : Int) < (l.length : Int) := by omega
        obtain ⟨Ax, kx, cx, rfl⟩ := hv.shape
        have hba := (Below.refl _ wr).alloc (Nat.le_refl wr.heap.size) (.cells #[.int .u8 ax.k, .string ax.rat, .string ax.name, .int .i64 ax.date, .slice Ax kx cx] 25)
        have BY := Blk.new wr 25 #[.int .u8 ax.k, .string ax.rat, .string ax.name, .int .i64 ax.date, .slice Ax kx cx]
        have z0 := BY.cell 0
        have z1 := BY.cell 1
        have z2 := BY.cell 2
        have z3 := BY.cell 3
        have z4 := BY.cell 4
        have HC := Lib.hid (ih y ax (.slice Ax kx cx) (wr.alloc (.cells #[.int .u8 ax.k, .string ax.rat, .string ax.name, .int .i64 ax.date, .slice Ax kx cx] 25)) (XV.below hba n hv) (HZ.out y HM.out))
        clear hv ih
        generalize Z.exDepth n y = z at *
        have HN : Hid (R = max (max s z) (Z.maxL (Z.exDepth n) (l.drop (k + 1)))) := Lib.hid (by rw [HI.out, HD.out]; omega)
        clear HI HD
        go_wp2_with fail
        refine HC.out.mono ?_
        rintro e W1 ⟨rfl, hb⟩
        have hbn := hbr.trans ((hba.trans (hb.mono hba.size)).mono hbr.size)
        clear HC hb BY z0 z1 z2 z3 z4 hba q0 q1 q2 q3 q4 hbw
        by_cases hsz : s < z
        · have hc : (s : Int) < (z : Int) := by omega
          have HN2 := HN.out
          rw [Nat.max_eq_right (Nat.le_of_lt hsz)] at HN2
          have HN3 := Lib.hid HN2
          clear HN HN2
          go_wp2_with fail
          go_roundw
          case rel => first | exact ⟨k + 1, z, by omega, by go_num, rfl, HN3, hbn⟩ | ((repeat apply Exists.intro); exact ⟨⟨k + 1, z, by omega, by go_num, rfl, HN3, hbn⟩, rfl⟩)
          case measure => simp [intOf]; omega
        · have hc : ¬ (s : Int) < (z : Int) := by omega
          have HN2 := HN.out
          rw [Nat.max_eq_left (show z ≤ s by omega)] at HN2
          have HN3 := Lib.hid HN2
          clear HN HN2
          go_wp2_with fail
          go_roundw
          case rel => first | exact ⟨k + 1, s, by omega, by go_num, rfl, HN3, hbn⟩ | ((repeat apply Exists.intro); exact ⟨⟨k + 1, s, by omega, by go_num, rfl, HN3, hbn⟩, rfl⟩)
          case measure => simp [intOf]; omega
      · obtain rfl : k = l.length := by omega
        have HN : Hid (R = s) := Lib.hid (by rw [HI.out, List.drop_length]; exact Nat.max_zero s)
        have hsb : (s : Int) ≤ 1000000 := by have := HN.out; have := HB.out; omega
        go_wp2_with fail
        go_ret
        exact ⟨ret_int (by rw [HRR.out, HN.out]; omega), hbw⟩
set_option maxRecDepth 100000 in
set_option maxHeartbeats 2000000 in
theorem rxdepth_any : ∀ (n : Nat) (x : Z.Ex n) (a : Z.XN) (u : Value) (w : World), XV w n x (a, u) → Z.exDepth n x ≤ 1000000 → Calls Tryd.prog 33 #[.agg #[.int .u8 a.k, .string a.rat, .string a.name, .int .i64 a.date, u]] w fun e w' => e = .returned (.int .i64 (Z.exDepth n x : Nat)) ∧ Below w.heap.size w w' := by
  intro n
  induction n with
  | zero => intro x; exact x.no
  | succ n ih =>
    intro x a u w hx hs
    obtain ⟨rfl, hS⟩ := hx.open_
    obtain ⟨A, cp, rfl, hlc, hcm⟩ := hS.shape
    unfold maxLen at hcm
    have hb0 := (Below.refl _ w).alloc (Nat.le_refl w.heap.size) (.cells #[.int .u8 x.top.k, .string x.top.rat, .string x.top.name, .int .i64 x.top.date, .slice A x.sub.length cp] 25)
    have BX := Blk.new w 25 #[.int .u8 x.top.k, .string x.top.rat, .string x.top.name, .int .i64 x.top.date, .slice A x.sub.length cp]
    have HS := Lib.hid (ES.below hb0 hS)
    have hsz : ∀ y ∈ x.sub, Z.exDepth n y ≤ 1000000 := fun y hy => by
      have := Z.maxL_mem (f := Z.exDepth n) hy
      rw [Z.exDepth] at hs
      omega
    have hb1 : max 0 (Z.maxL (Z.exDepth n) (x.sub.drop 0)) ≤ 1000000 := by rw [Z.exDepth] at hs; rw [List.drop_zero]; omega
    obtain ⟨R, hR⟩ : ∃ R, R = (max 0 (Z.maxL (Z.exDepth n) (x.sub.drop 0))) := ⟨_, rfl⟩
    have HR : Hid (R = max 0 (Z.maxL (Z.exDepth n) (x.sub.drop 0))) := Lib.hid hR
    have HRR : Hid (Z.exDepth (n + 1) x = R + 1) := Lib.hid (by rw [hR]; rw [Z.exDepth, List.drop_zero, Nat.zero_max])
    generalize Z.exDepth (n + 1) x = RR at *
    have HB : Hid (R ≤ 1000000) := Lib.hid (by rw [hR]; exact hb1)
    have HZ := Lib.hid hsz
    clear hR hs hsz hb1
    generalize x.sub = l at *
    generalize x.top = t at *
    have c1 := BX.cell 1
    have c2 := BX.cell 2
    have c3 := BX.cell 3
    have c4 := BX.cell 4
    clear hS hx
    go_enter Tryd.func33, Tryd.ntmps33
    go_wp2_with fail
    generalize (w.alloc (.cells #[.int .u8 t.k, .string t.rat, .string t.name, .int .i64 t.date, .slice A l.length cp] 25)) = W0 at *
    go_loopw [3, 4] (fun sv iv wr => ∃ (k : Nat) (s : Nat), k ≤ l.length ∧ iv = .int .i64 k ∧ sv = .int .i64 s ∧ Hid (R = max s (Z.maxL (Z.exDepth n) (l.drop k))) ∧ Below W0.heap.size W0 wr) (fun _ iv _ => l.length - (intOf iv).toNat)
    case atStart => exact ⟨0, _, by omega, rfl, rfl, HR, Below.refl _ _⟩
    case round =>
      obtain ⟨k, s, hk, rfl, rfl, HI, hbr⟩ := hrel
      clear HR
      have hbw := hb0.trans (hbr.mono hb0.size)
      have c4 := (BX.below hbr).cell 4
      by_cases hlt : k < l.length
      · have hz : l[k]? = some l[k] := List.getElem?_eq_getElem hlt
        obtain ⟨b, o, ax, ux, rfl, hbl, q0, q1, q2, q3, q4, hv⟩ := ES.cells (ES.below hbr HS.out) hz
        have HD := Lib.hid (Z.maxL_drop (f := (Z.exDepth n)) hz)
        have HM := Lib.hid (List.mem_of_getElem? hz)
        clear hz
        generalize l[k] = y at *
        have hi0 : (0 : Int) ≤ (k : Int) := by omega
        have hi1 : (k : Int) < (l.length : Int) := by omega
        have HC := Lib.hid (ih y ax ux wr hv (HZ.out y HM.out))
        clear hv ih
        generalize Z.exDepth n y = z at *
        have HN : Hid (R = max (max s z) (Z.maxL (Z.exDepth n) (l.drop (k + 1)))) := Lib.hid (by rw [HI.out, HD.out]; omega)
        clear HI HD
        go_wp2_with fail
        refine HC.out.mono ?_
        rintro e W1 ⟨rfl, hb⟩
        have hbn := hbr.trans (hb.mono hbr.size)
        clear HC hb q0 q1 q2 q3 q4 hbw
        by_cases hsz : s < z
        · have hc : (s : Int) < (z : Int) := by omega
          have HN2 := HN.out
          rw [Nat.max_eq_right (Nat.le_of_lt hsz)] at HN2
          have HN3 := Lib.hid HN2
          clear HN HN2
          go_wp2_with fail
          go_roundw
          case rel => first | exact ⟨k + 1, z, by omega, by go_num, rfl, HN3, hbn⟩ | ((repeat apply Exists.intro); exact ⟨⟨k + 1, z, by omega, by go_num, rfl, HN3, hbn⟩, rfl⟩)
          case measure => simp [intOf]; omega
        · have hc : ¬ (s : Int) < (z : Int) := by omega
          have HN2 := HN.out
          rw [Nat.max_eq_left (show z ≤ s by omega)] at HN2
          have HN3 := Lib.hid HN2
          clear HN HN2
          go_wp2_with fail
          go_roundw
          case rel => first | exact ⟨k + 1, s, by omega, by go_num, rfl, HN3, hbn⟩ | ((repeat apply Exists.intro); exact ⟨⟨k + 1, s, by omega, by go_num, rfl, HN3, hbn⟩, rfl⟩)
          case measure => simp [intOf]; omega
      · obtain rfl : k = l.length := by omega
        have HN : Hid (R = s) := Lib.hid (by rw [HI.out, List.drop_length]; exact Nat.max_zero s)
        have hsb : (s : Int) ≤ 1000000 := by have := HN.out; have := HB.out; omega
        go_wp2_with fail
        go_ret
        exact ⟨ret_int (by rw [HRR.out, HN.out]; omega), hbw⟩
set_option maxRecDepth 100000 in
set_option maxHeartbeats 2000000 in
theorem xdepth_any : ∀ (n : Nat) (x : Z.Ex n) (m : Nat) (a : Z.XN) (u : Value) (w : World), XV w n x (a, u) → m ≤ 100 → Calls Tryd.prog 64 #[.agg #[.int .u8 a.k, .string a.rat, .string a.name, .int .i64 a.date, u], .int .i64 (m : Int)] w fun e w' => e = .returned (.int .i64 (Z.exDepthL n x m : Nat)) ∧ Below w.heap.size w w' := by
  intro n
  induction n with
  | zero => intro x; exact x.no
  | succ n ih =>
    intro x m a u w hx hm
    obtain ⟨rfl, hS⟩ := hx.open_
    obtain ⟨A, cp, rfl, hlc, hcm⟩ := hS.shape
    unfold maxLen at hcm
    have hb0 := (Below.refl _ w).alloc (Nat.le_refl w.heap.size) (.cells #[.int .u8 x.top.k, .string x.top.rat, .string x.top.name, .int .i64 x.top.date, .slice A x.sub.length cp] 25)
    have BX := Blk.new w 25 #[.int .u8 x.top.k, .string x.top.rat, .string x.top.name, .int .i64 x.top.date, .slice A x.sub.length cp]
    have HS := Lib.hid (ES.below hb0 hS)
    by_cases hm0 : m = 0
    · subst hm0
      have HRR : Hid (Z.exDepthL (n + 1) x 0 = 1) := Lib.hid (by rw [Z.exDepthL, if_pos rfl])
      generalize Z.exDepthL (n + 1) x 0 = RR at *
      clear ih hS hx HS
      go_enter Tryd.func64, Tryd.ntmps64
      go_wp2_with fail
      go_ret
      exact ⟨ret_int (by rw [HRR.out]; rfl), hb0⟩
    have hml : m - 1 ≤ 100 := by omega
    have hm2 : (0 : Int) < (m : Int) := by omega
    have hm3 : (m : Int) ≤ 100 := by omega
    have hdm : decide (0 < m) = true := decide_eq_true (by omega)
    have hm4 : Z.exDepthL (n + 1) x m ≤ 101 := by have := Z.exDepthL_min (n + 1) x m; omega
    obtain ⟨R, hR⟩ : ∃ R, R = (max 0 (Z.maxL (fun y => Z.exDepthL n y (m - 1)) (x.sub.drop 0))) := ⟨_, rfl⟩
    have HR : Hid (R = max 0 (Z.maxL (fun y => Z.exDepthL n y (m - 1)) (x.sub.drop 0))) := Lib.hid hR
    have HRR : Hid (Z.exDepthL (n + 1) x m = R + 1) := Lib.hid (by rw [hR]; rw [Z.exDepthL, if_neg hm0, List.drop_zero, Nat.zero_max])
    generalize Z.exDepthL (n + 1) x m = RR at *
    have HB : Hid (R ≤ 1000000) := Lib.hid (by have := HRR.out; omega)
    have HML := Lib.hid hml
    have HM0 := Lib.hid hm0
    clear hR hm hml hm4
    generalize x.sub = l at *
    generalize x.top = t at *
    have c1 := BX.cell 1
    have c2 := BX.cell 2
    have c3 := BX.cell 3
    have c4 := BX.cell 4
    clear hS hx
    go_enter Tryd.func64, Tryd.ntmps64
    go_wp2_with fail
    generalize (w.alloc (.cells #[.int .u8 t.k, .string t.rat, .string t.name, .int .i64 t.date, .slice A l.length cp] 25)) = W0 at *
    go_loopw [5, 13] (fun sv iv wr => ∃ (k : Nat) (s : Nat), k ≤ l.length ∧ iv = .int .i64 k ∧ sv = .int .i64 s ∧ Hid (R = max s (Z.maxL (fun y => Z.exDepthL n y (m - 1)) (l.drop k))) ∧ Below W0.heap.size W0 wr) (fun _ iv _ => l.length - (intOf iv).toNat)
    case atStart => exact ⟨0, _, by omega, rfl, rfl, HR, Below.refl _ _⟩
    case round =>
      obtain ⟨k, s, hk, rfl, rfl, HI, hbr⟩ := hrel
      clear HR
      have hbw := hb0.trans (hbr.mono hb0.size)
      have c4 := (BX.below hbr).cell 4
      by_cases hlt : k < l.length
      · have hz : l[k]? = some l[k] := List.getElem?_eq_getElem hlt
        obtain ⟨b, o, ax, ux, rfl, hbl, q0, q1, q2, q3, q4, hv⟩ := ES.cells (ES.below hbr HS.out) hz
        have HD := Lib.hid (Z.maxL_drop (f := (fun y => Z.exDepthL n y (m - 1))) hz)
        have HM := Lib.hid (List.mem_of_getElem? hz)
        clear hz
        generalize l[k] = y at *
        have hi0 : (0 : Int) ≤ (k : Int) := by omega
        have hi1 : (k : Int) < (l.length : Int) := by omega
        obtain ⟨Ax, kx, cx, rfl⟩ := hv.shape
        have hba := (Below.refl _ wr).alloc (Nat.le_refl wr.heap.size) (.cells #[.int .u8 ax.k, .string ax.rat, .string ax.name, .int .i64 ax.date, .slice Ax kx cx] 25)
        have BY := Blk.new wr 25 #[.int .u8 ax.k, .string ax.rat, .string ax.name, .int .i64 ax.date, .slice Ax kx cx]
        have z0 := BY.cell 0
        have z1 := BY.cell 1
        have z2 := BY.cell 2
        have z3 := BY.cell 3
        have z4 := BY.cell 4
        have hm1 : ((m - 1 : Nat) : Int) = (m : Int) - 1 := by have := HM0.out; omega
        have HC := Lib.hid (ih y (m - 1) ax (.slice Ax kx cx) (wr.alloc (.cells #[.int .u8 ax.k, .string ax.rat, .string ax.name, .int .i64 ax.date, .slice Ax kx cx] 25)) (XV.below hba n hv) HML.out)
        rw [hm1] at HC
        clear hv ih hm1
        generalize Z.exDepthL n y (m - 1) = z at *
        have HN : Hid (R = max (max s z) (Z.maxL (fun y => Z.exDepthL n y (m - 1)) (l.drop (k + 1)))) := Lib.hid (by rw [HI.out, HD.out]; omega)
        clear HI HD
        go_wp2_with fail
        refine HC.out.mono ?_
        rintro e W1 ⟨rfl, hb⟩
        have hbn := hbr.trans ((hba.trans (hb.mono hba.size)).mono hbr.size)
        clear HC hb BY z0 z1 z2 z3 z4 hba q0 q1 q2 q3 q4 hbw
        by_cases hsz : s < z
        · have hc : (s : Int) < (z : Int) := by omega
          have HN2 := HN.out
          rw [Nat.max_eq_right (Nat.le_of_lt hsz)] at HN2
          have HN3 := Lib.hid HN2
          clear HN HN2
          go_wp2_with fail
          go_roundw
          case rel => first | exact ⟨k + 1, z, by omega, by go_num, rfl, HN3, hbn⟩ | ((repeat apply Exists.intro); exact ⟨⟨k + 1, z, by omega, by go_num, rfl, HN3, hbn⟩, rfl⟩)
          case measure => simp [intOf]; omega
        · have hc : ¬ (s : Int) < (z : Int) := by omega
          have HN2 := HN.out
          rw [Nat.max_eq_left (show z ≤ s by omega)] at HN2
          have HN3 := Lib.hid HN2
          clear HN HN2
          go_wp2_with fail
          go_roundw
          case rel => first | exact ⟨k + 1, s, by omega, by go_num, rfl, HN3, hbn⟩ | ((repeat apply Exists.intro); exact ⟨⟨k + 1, s, by omega, by go_num, rfl, HN3, hbn⟩, rfl⟩)
          case measure => simp [intOf]; omega
      · obtain rfl : k = l.length := by omega
        have HN : Hid (R = s) := Lib.hid (by rw [HI.out, List.drop_length]; exact Nat.max_zero s)
        have hsb : (s : Int) ≤ 1000000 := by have := HN.out; have := HB.out; omega
        go_wp2_with fail
        go_ret
        exact ⟨ret_int (by rw [HRR.out, HN.out]; omega), hbw⟩
set_option maxRecDepth 100000 in
set_option maxHeartbeats 2000000 in
theorem cxlast_any : ∀ (n : Nat) (x : Z.Ex n) (a : Z.XN) (u : Value) (w : World), XV w n x (a, u) → Calls Tryd.prog 49 #[.agg #[.int .u8 a.k, .string a.rat, .string a.name, .int .i64 a.date, u]] w fun e w' => e = .returned (.int .i64 (Z.exLast n x : Int)) ∧ Below w.heap.size w w' := by
  intro n
  induction n with
  | zero => intro x; exact x.no
  | succ n ih =>
    intro x a u w hx
    obtain ⟨rfl, hS⟩ := hx.open_
    obtain ⟨A, cp, rfl, hlc, hcm⟩ := hS.shape
    unfold maxLen at hcm
    have hb0 := (Below.refl _ w).alloc (Nat.le_refl w.heap.size) (.cells #[.int .u8 x.top.k, .string x.top.rat, .string x.top.name, .int .i64 x.top.date, .slice A x.sub.length cp] 25)
    have BX := Blk.new w 25 #[.int .u8 x.top.k, .string x.top.rat, .string x.top.name, .int .i64 x.top.date, .slice A x.sub.length cp]
    have HS := Lib.hid (ES.below hb0 hS)
    obtain ⟨R, hR⟩ : ∃ R, R = (Z.lastL (Z.exLast n) x.top.date (x.sub.drop 0)) := ⟨_, rfl⟩
    have HR : Hid (R = Z.lastL (Z.exLast n) x.top.date (x.sub.drop 0)) := Lib.hid hR
    have HRR : Hid (Z.exLast (n + 1) x = R) := Lib.hid (by rw [hR]; rfl)
    generalize Z.exLast (n + 1) x = RR at *
    clear hR
    generalize x.sub = l at *
    generalize x.top = t at *
    have c1 := BX.cell 1
    have c2 := BX.cell 2
    have c3 := BX.cell 3
    have c4 := BX.cell 4
    clear hS hx
    go_enter Tryd.func49, Tryd.ntmps49
    go_wp2_with fail
    generalize (w.alloc (.cells #[.int .u8 t.k, .string t.rat, .string t.name, .int .i64 t.date, .slice A l.length cp] 25)) = W0 at *
    go_loopw [3, 11] (fun sv iv wr => ∃ (k : Nat) (s : Int), k ≤ l.length ∧ iv = .int .i64 k ∧ sv = .int .i64 s ∧ Hid (R = Z.lastL (Z.exLast n) s (l.drop k)) ∧ Below W0.heap.size W0 wr) (fun _ iv _ => l.length - (intOf iv).toNat)
    case atStart => exact ⟨0, _, by omega, rfl, rfl, HR, Below.refl _ _⟩
    case round =>
      obtain ⟨k, s, hk, rfl, rfl, HI, hbr⟩ := hrel
      clear HR
      have hbw := hb0.trans (hbr.mono hb0.size)
      have c4 := (BX.below hbr).cell 4
      by_cases hlt : k < l.length
      · have hz : l[k]? = some l[k] := List.getElem?_eq_getElem hlt
        obtain ⟨b, o, ax, ux, rfl, hbl, q0, q1, q2, q3, q4, hv⟩ := ES.cells (ES.below hbr HS.out) hz
        have HD := Lib.hid (Z.lastL_drop (f := (Z.exLast n)) s hz)
        have HM := Lib.hid (List.mem_of_getElem? hz)
        clear hz
        generalize l[k] = y at *
        have hi0 : (0 : Int) ≤ (k : Int) := by omega
        have hi1 : (k : Int) < (l.length : Int) := by omega
        obtain ⟨Ax, kx, cx, rfl⟩ := hv.shape
        have hba := (Below.refl _ wr).alloc (Nat.le_refl wr.heap.size) (.cells #[.int .u8 ax.k, .string ax.rat, .string ax.name, .int .i64 ax.date, .slice Ax kx cx] 25)
        have BY := Blk.new wr 25 #[.int .u8 ax.k, .string ax.rat, .string ax.name, .int .i64 ax.date, .slice Ax kx cx]
        have z0 := BY.cell 0
        have z1 := BY.cell 1
        have z2 := BY.cell 2
        have z3 := BY.cell 3
        have z4 := BY.cell 4
        have HC := Lib.hid (ih y ax (.slice Ax kx cx) (wr.alloc (.cells #[.int .u8 ax.k, .string ax.rat, .string ax.name, .int .i64 ax.date, .slice Ax kx cx] 25)) (XV.below hba n hv))
        clear hv ih
        generalize Z.exLast n y = z at *
        have HN : Hid (R = Z.lastL (Z.exLast n) (max s z) (l.drop (k + 1))) := Lib.hid (by rw [HI.out, HD.out])
        clear HI HD
        go_wp2_with fail
        refine HC.out.mono ?_
        rintro e W1 ⟨rfl, hb⟩
        have hbn := hbr.trans ((hba.trans (hb.mono hba.size)).mono hbr.size)
        clear HC hb BY z0 z1 z2 z3 z4 hba q0 q1 q2 q3 q4 hbw
        by_cases hsz : s < z
        · have hc : (s : Int) < (z : Int) := by omega
          have HN2 := HN.out
          rw [Int.max_eq_right (Int.le_of_lt hsz)] at HN2
          have HN3 := Lib.hid HN2
          clear HN HN2
          go_wp2_with fail
          go_roundw
          case rel => first | exact ⟨k + 1, z, by omega, by go_num, rfl, HN3, hbn⟩ | ((repeat apply Exists.intro); exact ⟨⟨k + 1, z, by omega, by go_num, rfl, HN3, hbn⟩, rfl⟩)
          case measure => simp [intOf]; omega
        · have hc : ¬ (s : Int) < (z : Int) := by omega
          have HN2 := HN.out
          rw [Int.max_eq_left (show z ≤ s by omega)] at HN2
          have HN3 := Lib.hid HN2
          clear HN HN2
          go_wp2_with fail
          go_roundw
          case rel => first | exact ⟨k + 1, s, by omega, by go_num, rfl, HN3, hbn⟩ | ((repeat apply Exists.intro); exact ⟨⟨k + 1, s, by omega, by go_num, rfl, HN3, hbn⟩, rfl⟩)
          case measure => simp [intOf]; omega
      · obtain rfl : k = l.length := by omega
        have HN : Hid (R = s) := Lib.hid (by rw [HI.out, List.drop_length]; rfl)
        go_wp2_with fail
        go_ret
        exact ⟨ret_int (by rw [HRR.out, HN.out]), hbw⟩
set_option maxRecDepth 100000 in
set_option maxHeartbeats 2000000 in
theorem xbytes_any : ∀ (n : Nat) (x : Z.Ex n) (a : Z.XN) (u : Value) (w : World), XV w n x (a, u) → Z.exBytes n x ≤ 4611686018427387904 → Calls Tryd.prog 41 #[.agg #[.int .u8 a.k, .string a.rat, .string a.name, .int .i64 a.date, u]] w fun e w' => e = .returned (.int .i64 (Z.exBytes n x : Nat)) ∧ Below w.heap.size w w' := by
  intro n
  induction n with
  | zero => intro x; exact x.no
  | succ n ih =>
    intro x a u w hx hs
    obtain ⟨rfl, hS⟩ := hx.open_
    obtain ⟨A, cp, rfl, hlc, hcm⟩ := hS.shape
    unfold maxLen at hcm
    have hb0 := (Below.refl _ w).alloc (Nat.le_refl w.heap.size) (.cells #[.int .u8 x.top.k, .string x.top.rat, .string x.top.name, .int .i64 x.top.date, .slice A x.sub.length cp] 25)
    have BX := Blk.new w 25 #[.int .u8 x.top.k, .string x.top.rat, .string x.top.name, .int .i64 x.top.date, .slice A x.sub.length cp]
    have HS := Lib.hid (ES.below hb0 hS)
    have hb1 : (x.top.rat.size + x.top.name.size) + Z.sumL (Z.exBytes n) (x.sub.drop 0) ≤ 4611686018427387904 := by rw [Z.exBytes] at hs; rw [List.drop_zero]; exact hs
    have hb2 : (x.top.rat.size : Int) + (x.top.name.size : Int) ≤ 4611686018427387904 := by omega
    have hsz : ∀ y ∈ x.sub, Z.exBytes n y ≤ 4611686018427387904 := fun y hy => by
      have := Z.sumL_mem (f := Z.exBytes n) hy
      rw [Z.exBytes] at hs
      omega
    obtain ⟨R, hR⟩ : ∃ R, R = ((x.top.rat.size + x.top.name.size) + Z.sumL (Z.exBytes n) (x.sub.drop 0)) := ⟨_, rfl⟩
    have HR : Hid (R = (x.top.rat.size + x.top.name.size) + Z.sumL (Z.exBytes n) (x.sub.drop 0)) := Lib.hid hR
    have HRR : Hid (Z.exBytes (n + 1) x = R) := Lib.hid (by rw [hR]; rfl)
    generalize Z.exBytes (n + 1) x = RR at *
    have HB : Hid (R ≤ 4611686018427387904) := Lib.hid (by rw [hR]; exact hb1)
    have HZ := Lib.hid hsz
    clear hR hs hsz hb1
    generalize x.sub = l at *
    generalize x.top = t at *
    have c1 := BX.cell 1
    have c2 := BX.cell 2
    have c3 := BX.cell 3
    have c4 := BX.cell 4
    clear hS hx
    go_enter Tryd.func41, Tryd.ntmps41
    go_wp2_with fail
    generalize (w.alloc (.cells #[.int .u8 t.k, .string t.rat, .string t.name, .int .i64 t.date, .slice A l.length cp] 25)) = W0 at *
    go_loopw [3, 4] (fun sv iv wr => ∃ (k : Nat) (s : Nat), k ≤ l.length ∧ iv = .int .i64 k ∧ sv = .int .i64 s ∧ Hid (R = s + Z.sumL (Z.exBytes n) (l.drop k)) ∧ Below W0.heap.size W0 wr) (fun _ iv _ => l.length - (intOf iv).toNat)
    case atStart => exact ⟨0, _, by omega, rfl, by go_num, HR, Below.refl _ _⟩
    case round =>
      obtain ⟨k, s, hk, rfl, rfl, HI, hbr⟩ := hrel
      clear HR
      have hbw := hb0.trans (hbr.mono hb0.size)
      have c4 := (BX.below hbr).cell 4
      by_cases hlt : k < l.length
      · have hz : l[k]? = some l[k] := List.getElem?_eq_getElem hlt
        obtain ⟨b, o, ax, ux, rfl, hbl, q0, q1, q2, q3, q4, hv⟩ := ES.cells (ES.below hbr HS.out) hz
        have HD := Lib.hid (Z.sumL_drop (f := (Z.exBytes n)) hz)
        have HM := Lib.hid (List.mem_of_getElem? hz)
        clear hz
        generalize l[k] = y at *
        have hi0 : (0 : Int) ≤ (k : Int) := by omega
        have hi1 : (k : Int) < (l.length : Int) := by omega
        have HC := Lib.hid (ih y ax ux wr hv (HZ.out y HM.out))
        clear hv ih
        generalize Z.exBytes n y = z at *
        have HN : Hid (R = (s + z) + Z.sumL (Z.exBytes n) (l.drop (k + 1))) := Lib.hid (by rw [HI.out, HD.out]; omega)
        have hz1 : (s : Int) + (z : Int) ≤ 4611686018427387904 := by have := HN.out; have := HB.out; omega
        clear HI HD
        go_wp2_with fail
        refine HC.out.mono ?_
        rintro e W1 ⟨rfl, hb⟩
        have hbn := hbr.trans (hb.mono hbr.size)
        clear HC hb q0 q1 q2 q3 q4 hbw
        go_wp2_with fail
        go_roundw
        case rel => first | exact ⟨k + 1, s + z, by omega, by go_num, by go_num, HN, hbn⟩ | ((repeat apply Exists.intro); exact ⟨⟨k + 1, s + z, by omega, by go_num, by go_num, HN, hbn⟩, rfl⟩)
        case measure => simp [intOf]; omega
      · obtain rfl : k = l.length := by omega
        have HN : Hid (R = s) := Lib.hid (by rw [HI.out, List.drop_length]; rfl)
        go_wp2_with fail
        go_ret
        exact ⟨ret_int (by rw [HRR.out, HN.out]), hbw⟩
end Go.Proofs.YtifafmomkpkgdaaDoor
