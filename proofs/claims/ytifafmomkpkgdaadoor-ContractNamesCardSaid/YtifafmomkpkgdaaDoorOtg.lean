/- Walks: the limits of the laws: the reference's count, bytes, weight and Great, of expressions and of contracts. -/
import Derived.Test.YtifafmomkpkgdaaDoorOtc
import Derived.Test.YtifafmomkpkgdaaDoorAbv
namespace Go.Proofs.YtifafmomkpkgdaaDoor
open Go.RowKit
theorem ret_p {p : Int × Bool} {a : Int} {b : Bool} (h : p = (a, b)) : Ending.returned (.tuple #[.int .i64 a, .bool b]) = .returned (.tuple #[.int .i64 p.1, .bool p.2]) := by subst h; rfl
set_option maxRecDepth 100000 in
set_option maxHeartbeats 4000000 in
theorem xcount_any : ∀ (n : Nat) (x : Z.Ex n) (lim deep : Int) (a : Z.XN) (u : Value) (w : World), XV w n x (a, u) → 0 ≤ lim → lim ≤ 600 → 0 ≤ deep → deep ≤ 100 → Calls Tryd.prog 40 #[.agg #[.int .u8 a.k, .string a.rat, .string a.name, .int .i64 a.date, u], .int .i64 lim, .int .i64 deep] w fun e w' => e = .returned (.tuple #[.int .i64 (Z.exCount n x lim deep).1, .bool (Z.exCount n x lim deep).2]) ∧ Below w.heap.size w w' := by
  intro n
  induction n with
  | zero => intro x; exact x.no
  | succ n ih =>
    intro x lim deep a u w hx hl0 hl1 hd0 hd1
    obtain ⟨rfl, hS⟩ := hx.open_
    obtain ⟨A, cp, rfl, hlc, hcm⟩ := hS.shape
    unfold maxLen at hcm
    have hb0 := (Below.refl _ w).alloc (Nat.le_refl w.heap.size) (.cells #[.int .u8 x.top.k, .string x.top.rat, .string x.top.name, .int .i64 x.top.date, .slice A x.sub.length cp] 25)
    have BX := Blk.new w 25 #[.int .u8 x.top.k, .string x.top.rat, .string x.top.name, .int .i64 x.top.date, .slice A x.sub.length cp]
    have HS := Lib.hid (ES.below hb0 hS)
    have HLE := Lib.hid (Z.exCount_le n)
    by_cases hdz : deep = 0
    · subst hdz
      have HR : Hid (Z.exCount (n + 1) x lim 0 = (1, false)) := Lib.hid (by rw [Z.exCount, if_pos rfl])
      generalize Z.exCount (n + 1) x lim 0 = R at *
      clear ih hS hx HS BX HLE
      go_enter Tryd.func40, Tryd.ntmps40
      go_wp2_with fail
      go_ret2
      exact ⟨ret_p HR.out, hb0⟩
    have hdf : (deep == 0) = false := beq_eq_false_iff_ne.mpr hdz
    have HR : Hid (Z.exCount (n + 1) x lim deep = Z.cntL (Z.exCount n) lim deep 1 (x.sub.drop 0)) := Lib.hid (by rw [Z.exCount, if_neg hdz, List.drop_zero])
    generalize Z.exCount (n + 1) x lim deep = R at *
    generalize x.sub = l at *
    generalize x.top = t at *
    have c4 := BX.cell 4
    clear hS hx
    go_enter Tryd.func40, Tryd.ntmps40
    go_wp2_with fail
    generalize (w.alloc (.cells #[.int .u8 t.k, .string t.rat, .string t.name, .int .i64 t.date, .slice A l.length cp] 25)) = W0 at *
    go_loopw [8, 9] (fun sv iv wr => ∃ (k : Nat) (s : Int), k ≤ l.length ∧ iv = .int .i64 k ∧ sv = .int .i64 s ∧ 1 ≤ s ∧ s ≤ lim + 1 ∧ Hid (R = Z.cntL (Z.exCount n) lim deep s (l.drop k)) ∧ Below W0.heap.size W0 wr) (fun _ iv _ => l.length - (intOf iv).toNat)
    case atStart => exact ⟨0, 1, by omega, rfl, rfl, by omega, by omega, HR, Below.refl _ _⟩
    case round =>
      obtain ⟨k, s, hk, rfl, rfl, hs1, hs2, HI, hbr⟩ := hrel
      clear HR
      have hbw := hb0.trans (hbr.mono hb0.size)
      have c4 := (BX.below hbr).cell 4
      by_cases hlt : k < l.length
      · have hz : l[k]? = some l[k] := List.getElem?_eq_getElem hlt
        have HD := Lib.hid (Z.cntL_drop (f := Z.exCount n) lim deep s hz)
        have hi0 : (0 : Int) ≤ (k : Int) := by omega
        have hi1 : (k : Int) < (l.length : Int) := by omega
        by_cases hsl : s ≤ lim
        · obtain ⟨b, o, ax, ux, rfl, hbl, q0, q1, q2, q3, q4, hv⟩ := ES.cells (ES.below hbr HS.out) hz
          generalize l[k] = y at *
          have HC := Lib.hid (ih y (lim - s) (deep - 1) ax ux wr hv (by omega) (by omega) (by omega) (by omega))
          have hple := HLE.out y (lim - s) (deep - 1) (by omega)
          clear hz
          clear hv ih
          generalize Z.exCount n y (lim - s) (deep - 1) = p at *
          obtain ⟨p1, p2⟩ := p
          have hp1 : 1 ≤ p1 := hple.1
          have hp2 : p1 ≤ lim - s + 1 := hple.2
          have HN : Hid (R = if p2 = true then Z.cntL (Z.exCount n) lim deep (s + p1) (l.drop (k + 1)) else (s, false)) := Lib.hid (by rw [HI.out, HD.out, if_pos hsl])
          clear HI HD hple
          go_wp2_with fail
          refine HC.out.mono ?_
          rintro e W1 ⟨rfl, hb⟩
          have hbn := hbr.trans (hb.mono hbr.size)
          have hbx := hb0.trans (hbn.mono hb0.size)
          clear HC hb q0 q1 q2 q3 q4 hbw
          cases p2
          · have HF : Hid (R = (s, false)) := HN
            go_wp2_with fail
            go_ret2
            exact ⟨ret_p HF.out, hbx⟩
          · have HT : Hid (R = Z.cntL (Z.exCount n) lim deep (s + p1) (l.drop (k + 1))) := HN
            clear HN
            go_wp2_with fail
            go_roundw
            case rel => first | exact ⟨k + 1, s + p1, by omega, by go_num, rfl, by omega, by omega, HT, hbn⟩ | ((repeat apply Exists.intro); exact ⟨⟨k + 1, s + p1, by omega, by go_num, rfl, by omega, by omega, HT, hbn⟩, rfl⟩)
            case measure => simp [intOf]; omega
        · have HN : Hid (R = (s, true)) := Lib.hid (by rw [HI.out, HD.out, if_neg hsl])
          clear HI HD hz ih
          go_wp2_with fail
          go_ret2
          exact ⟨ret_p HN.out, hbw⟩
      · obtain rfl : k = l.length := by omega
        have HN : Hid (R = (s, true)) := Lib.hid (by rw [HI.out, List.drop_length]; rfl)
        go_wp2_with fail
        go_ret2
        exact ⟨ret_p HN.out, hbw⟩
set_option maxRecDepth 100000 in
theorem xgreat_any (n : Nat) (x : Z.Ex (n + 1)) (a : Z.XN) (u : Value) (w : World) (hx : XV w (n + 1) x (a, u)) (hle : Z.XLe 140737488355328 (n + 1) x) :
    Calls Tryd.prog 11 #[.agg #[.int .u8 a.k, .string a.rat, .string a.name, .int .i64 a.date, u]] w fun e w' => e = .returned (.bool (Z.exG (n + 1) x)) ∧ Below w.heap.size w w' := by
  have HX := Lib.hid hx
  obtain ⟨rfl, hS⟩ := hx.open_
  obtain ⟨A, cp, rfl, hlc, hcm⟩ := hS.shape
  have hb0 := (Below.refl _ w).alloc (Nat.le_refl w.heap.size) (.cells #[.int .u8 x.top.k, .string x.top.rat, .string x.top.name, .int .i64 x.top.date, .slice A x.sub.length cp] 25)
  have BX := Blk.new w 25 #[.int .u8 x.top.k, .string x.top.rat, .string x.top.name, .int .i64 x.top.date, .slice A x.sub.length cp]
  have c0 := BX.cell 0
  have c1 := BX.cell 1
  have c2 := BX.cell 2
  have c3 := BX.cell 3
  have c4 := BX.cell 4
  have HC := Lib.hid (xcount_any (n + 1) x 600 100 x.top _ _ (XV.below hb0 (n + 1) hx) (by omega) (by omega) (by omega) (by omega))
  have HX1 := Lib.hid (XV.below hb0 (n + 1) hx)
  have HOK := Lib.hid (Z.exCount_ok (n + 1) x 600 100)
  have HBY := Lib.hid (Z.exBytes_le (n + 1) x hle)
  have HR : Hid (Z.exG (n + 1) x = (!(Z.exCount (n + 1) x 600 100).2 || (decide (600 < (Z.exCount (n + 1) x 600 100).1) || decide (3000 < Z.exBytes (n + 1) x)))) := Lib.hid rfl
  generalize Z.exG (n + 1) x = R at *
  generalize Z.exCount (n + 1) x 600 100 = p at *
  obtain ⟨p1, p2⟩ := p
  clear hS hx HX hle
  go_enter Tryd.func11, Tryd.ntmps11
  go_wp2_with fail
  generalize (w.alloc (.cells #[.int .u8 x.top.k, .string x.top.rat, .string x.top.name, .int .i64 x.top.date, .slice A x.sub.length cp] 25)) = W0 at *
  refine HC.out.mono ?_
  rintro e W1 ⟨rfl, hb1⟩
  have h1 := hb0.trans (hb1.mono hb0.size)
  have BX1 := BX.below hb1
  have HX2 := Lib.hid (XV.below hb1 (n + 1) HX1.out)
  clear HC HX1 c0 c1 c2 c3 c4 BX
  have c0 := BX1.cell 0
  have c1 := BX1.cell 1
  have c2 := BX1.cell 2
  have c3 := BX1.cell 3
  have c4 := BX1.cell 4
  cases p2
  · have HF : Hid (R = true) := Lib.hid (by rw [HR.out]; rfl)
    go_wp2_with fail
    go_ret
    exact ⟨ret_bool HF.out.symm, h1⟩
  by_cases hp : 600 < p1
  · have HF : Hid (R = true) := Lib.hid (by rw [HR.out, show decide (600 < ((p1, true) : Int × Bool).1) = true from decide_eq_true hp]; rfl)
    go_wp2_with fail
    go_ret
    exact ⟨ret_bool HF.out.symm, h1⟩
  have HR2 : Hid (R = decide (3000 < Z.exBytes (n + 1) x)) := Lib.hid (by rw [HR.out, show decide (600 < ((p1, true) : Int × Bool).1) = false from decide_eq_false hp]; rfl)
  have hsz : Z.exSize (n + 1) x ≤ 600 := by
    have := HOK.out rfl (by show p1 ≤ 600; omega)
    have this : p1 = Z.exSize (n + 1) x := this
    omega
  have hby : Z.exBytes (n + 1) x ≤ 4611686018427387904 := by
    have h1 := HBY.out
    have h2 : 2 * 140737488355328 * Z.exSize (n + 1) x ≤ 2 * 140737488355328 * 600 := Nat.mul_le_mul_left _ hsz
    omega
  have HB := Lib.hid (xbytes_any (n + 1) x x.top _ W1 HX2.out hby)
  clear HX2 HOK HBY hsz hby HR
  generalize Z.exBytes (n + 1) x = z at *
  go_wp2_with fail
  refine HB.out.mono ?_
  rintro e W2 ⟨rfl, hb2⟩
  have h2 := h1.trans (hb2.mono h1.size)
  by_cases hz : 3000 < z
  · have HF : Hid (R = true) := Lib.hid (by rw [HR2.out]; exact decide_eq_true hz)
    have hzi : (3000 : Int) < (z : Int) := by omega
    go_wp2_with fail
    go_ret
    exact ⟨ret_bool HF.out.symm, h2⟩
  · have HF : Hid (R = false) := Lib.hid (by rw [HR2.out]; exact decide_eq_false hz)
    have hzi : ¬ (3000 : Int) < (z : Int) := by omega
    have e1 : decide (600 < p1) = false := decide_eq_false (by omega)
    have e2 : decide ((3000 : Int) < (z : Int)) = false := decide_eq_false hzi
    go_wp2_with fail
    go_ret
    exact ⟨ret_bool HF.out.symm, h2⟩
set_option maxRecDepth 100000 in
set_option maxHeartbeats 4000000 in
theorem ccount_any {m : Nat} : ∀ (n : Nat) (c : Z.Co m n) (lim deep : Int) (a : Z.CN m) (u dv sv : Value) (w : World), CV w n c ⟨a, u, dv, sv⟩ → 0 ≤ lim → lim ≤ 600 → 0 ≤ deep → deep ≤ 100 → Calls Tryd.prog 38 #[.agg #[.int .u8 a.k, .string a.fr, .string a.tu, .string a.nm, .int .u8 a.ex.top.k, .string a.ex.top.rat, .string a.ex.top.name, .int .i64 a.ex.top.date, u, .int .i64 a.date, dv, sv], .int .i64 lim, .int .i64 deep] w fun e w' => e = .returned (.tuple #[.int .i64 (Z.coCount n c lim deep).1, .bool (Z.coCount n c lim deep).2]) ∧ Below w.heap.size w w' := by
  intro n
  induction n with
  | zero => intro c; exact c.no
  | succ n ih =>
    intro c lim deep a u dv sv w hx hl0 hl1 hd0 hd1
    obtain ⟨rfl, _, _, hS⟩ := hx.open_
    obtain ⟨A, cp, rfl, hlc, hcm⟩ := hS.shape
    unfold maxLen at hcm
    have hb0 := (Below.refl _ w).alloc (Nat.le_refl w.heap.size) (.cells #[.int .u8 c.top.k, .string c.top.fr, .string c.top.tu, .string c.top.nm, .int .u8 c.top.ex.top.k, .string c.top.ex.top.rat, .string c.top.ex.top.name, .int .i64 c.top.ex.top.date, u, .int .i64 c.top.date, dv, .slice A c.sub.length cp] 29)
    have BX := Blk.new w 29 #[.int .u8 c.top.k, .string c.top.fr, .string c.top.tu, .string c.top.nm, .int .u8 c.top.ex.top.k, .string c.top.ex.top.rat, .string c.top.ex.top.name, .int .i64 c.top.ex.top.date, u, .int .i64 c.top.date, dv, .slice A c.sub.length cp]
    have HS := Lib.hid (CS.below hb0 hS)
    have HLE := Lib.hid (Z.coCount_le (m := m) n)
    by_cases hdz : deep = 0
    · subst hdz
      have HR : Hid (Z.coCount (n + 1) c lim 0 = (1, false)) := Lib.hid (by rw [Z.coCount, if_pos rfl])
      generalize Z.coCount (n + 1) c lim 0 = R at *
      clear ih hS hx HS BX HLE
      go_enter Tryd.func38, Tryd.ntmps38
      go_wp2_with fail
      go_ret2
      exact ⟨ret_p HR.out, hb0⟩
    have hdf : (deep == 0) = false := beq_eq_false_iff_ne.mpr hdz
    have HR : Hid (Z.coCount (n + 1) c lim deep = Z.cntL (Z.coCount n) lim deep 1 (c.sub.drop 0)) := Lib.hid (by rw [Z.coCount, if_neg hdz, List.drop_zero])
    generalize Z.coCount (n + 1) c lim deep = R at *
    generalize c.sub = l at *
    generalize c.top = t at *
    have c11 := BX.cell 11
    clear hS hx
    go_enter Tryd.func38, Tryd.ntmps38
    go_wp2_with fail
    generalize (w.alloc (.cells #[.int .u8 t.k, .string t.fr, .string t.tu, .string t.nm, .int .u8 t.ex.top.k, .string t.ex.top.rat, .string t.ex.top.name, .int .i64 t.ex.top.date, u, .int .i64 t.date, dv, .slice A l.length cp] 29)) = W0 at *
    go_loopw [8, 9] (fun sv iv wr => ∃ (k : Nat) (s : Int), k ≤ l.length ∧ iv = .int .i64 k ∧ sv = .int .i64 s ∧ 1 ≤ s ∧ s ≤ lim + 1 ∧ Hid (R = Z.cntL (Z.coCount n) lim deep s (l.drop k)) ∧ Below W0.heap.size W0 wr) (fun _ iv _ => l.length - (intOf iv).toNat)
    case atStart => exact ⟨0, 1, by omega, rfl, rfl, by omega, by omega, HR, Below.refl _ _⟩
    case round =>
      obtain ⟨k, s, hk, rfl, rfl, hs1, hs2, HI, hbr⟩ := hrel
      clear HR
      have hbw := hb0.trans (hbr.mono hb0.size)
      have c11 := (BX.below hbr).cell 11
      by_cases hlt : k < l.length
      · have hz : l[k]? = some l[k] := List.getElem?_eq_getElem hlt
        have HD := Lib.hid (Z.cntL_drop (f := Z.coCount n) lim deep s hz)
        have hi0 : (0 : Int) ≤ (k : Int) := by omega
        have hi1 : (k : Int) < (l.length : Int) := by omega
        by_cases hsl : s ≤ lim
        · obtain ⟨b, o, ax, ux, dx, sx, rfl, hbl, q0, q1, q2, q3, q4, q5, q6, q7, q8, q9, q10, q11, hv⟩ := CS.cells (CS.below hbr HS.out) hz
          generalize l[k] = y at *
          have HC := Lib.hid (ih y (lim - s) (deep - 1) ax ux dx sx wr hv (by omega) (by omega) (by omega) (by omega))
          have hple := HLE.out y (lim - s) (deep - 1) (by omega)
          clear hz
          clear hv ih
          generalize Z.coCount n y (lim - s) (deep - 1) = p at *
          obtain ⟨p1, p2⟩ := p
          have hp1 : 1 ≤ p1 := hple.1
          have hp2 : p1 ≤ lim - s + 1 := hple.2
          have HN : Hid (R = if p2 = true then Z.cntL (Z.coCount n) lim deep (s + p1) (l.drop (k + 1)) else (s, false)) := Lib.hid (by rw [HI.out, HD.out, if_pos hsl])
          clear HI HD hple
          go_wp2_with fail
          refine HC.out.mono ?_
          rintro e W1 ⟨rfl, hb⟩
          have hbn := hbr.trans (hb.mono hbr.size)
          have hbx := hb0.trans (hbn.mono hb0.size)
          clear HC hb q0 q1 q2 q3 q4 q5 q6 q7 q8 q9 q10 q11 hbw
          cases p2
          · have HF : Hid (R = (s, false)) := HN
            go_wp2_with fail
            go_ret2
            exact ⟨ret_p HF.out, hbx⟩
          · have HT : Hid (R = Z.cntL (Z.coCount n) lim deep (s + p1) (l.drop (k + 1))) := HN
            clear HN
            go_wp2_with fail
            go_roundw
            case rel => first | exact ⟨k + 1, s + p1, by omega, by go_num, rfl, by omega, by omega, HT, hbn⟩ | ((repeat apply Exists.intro); exact ⟨⟨k + 1, s + p1, by omega, by go_num, rfl, by omega, by omega, HT, hbn⟩, rfl⟩)
            case measure => simp [intOf]; omega
        · have HN : Hid (R = (s, true)) := Lib.hid (by rw [HI.out, HD.out, if_neg hsl])
          clear HI HD hz ih
          go_wp2_with fail
          go_ret2
          exact ⟨ret_p HN.out, hbw⟩
      · obtain rfl : k = l.length := by omega
        have HN : Hid (R = (s, true)) := Lib.hid (by rw [HI.out, List.drop_length]; rfl)
        go_wp2_with fail
        go_ret2
        exact ⟨ret_p HN.out, hbw⟩
set_option maxRecDepth 100000 in
set_option maxHeartbeats 8000000 in
theorem cweight_any {m : Nat} : ∀ (n : Nat) (c : Z.Co m n) (a : Z.CN m) (u dv sv : Value) (w : World), CV w n c ⟨a, u, dv, sv⟩ → Z.CLe 140737488355328 n c → Z.coCnt n c ≤ 600 → Calls Tryd.prog 39 #[.agg #[.int .u8 a.k, .string a.fr, .string a.tu, .string a.nm, .int .u8 a.ex.top.k, .string a.ex.top.rat, .string a.ex.top.name, .int .i64 a.ex.top.date, u, .int .i64 a.date, dv, sv]] w fun e w' => e = .returned (.int .i64 (Z.coWeight n c)) ∧ Below w.heap.size w w' := by
  intro n
  induction n with
  | zero => intro c; exact c.no
  | succ n ih =>
    intro c a u dv sv w hc hle hcn
    have HKS := Lib.hid hc.shape
    obtain ⟨rfl, hX, hD, hS⟩ := hc.open_
    obtain ⟨⟨Au, ku, cu, rfl⟩, _, _⟩ := HKS.out
    obtain ⟨Ad, cd, rfl, hdc, hdm⟩ := hD.shape
    obtain ⟨A, cp, rfl, hlc, hcm⟩ := hS.shape
    unfold maxLen at hcm hdm
    have hb0 := (Below.refl _ w).alloc (Nat.le_refl w.heap.size) (.cells #[.int .u8 c.top.k, .string c.top.fr, .string c.top.tu, .string c.top.nm, .int .u8 c.top.ex.top.k, .string c.top.ex.top.rat, .string c.top.ex.top.name, .int .i64 c.top.ex.top.date, .slice Au ku cu, .int .i64 c.top.date, .slice Ad c.top.dates.length cd, .slice A c.sub.length cp] 29)
    have BX := Blk.new w 29 #[.int .u8 c.top.k, .string c.top.fr, .string c.top.tu, .string c.top.nm, .int .u8 c.top.ex.top.k, .string c.top.ex.top.rat, .string c.top.ex.top.name, .int .i64 c.top.ex.top.date, .slice Au ku cu, .int .i64 c.top.date, .slice Ad c.top.dates.length cd, .slice A c.sub.length cp]
    have HS := Lib.hid (CS.below hb0 hS)
    have HX := Lib.hid (XV.below hb0 (m + 1) hX)
    have hcn2 := hcn
    rw [Z.coCnt] at hcn2
    have HSUB : Hid (∀ y ∈ c.sub, Z.CLe 140737488355328 n y ∧ Z.coCnt n y ≤ 600) := Lib.hid (fun y hy => ⟨hle.2.2.2.2.2 y hy, by have := Z.sumL_mem (f := Z.coCnt n) hy; omega⟩)
    have HWLE : Hid (∀ y ∈ c.sub, 0 ≤ Z.coWeight n y ∧ Z.coWeight n y ≤ 4611686018427387904) := Lib.hid (fun y hy => ⟨Z.coWeight_nn n y, by
      have h1 := Z.coWeight_le n y (hle.2.2.2.2.2 y hy)
      have := Z.sumL_mem (f := Z.coCnt n) hy
      omega⟩)
    have HXL := Lib.hid hle.1
    have f1 : (c.top.fr.size : Int) ≤ 140737488355328 := by have := hle.2.1; omega
    have f2 : (c.top.tu.size : Int) ≤ 140737488355328 := by have := hle.2.2.1; omega
    have f3 : (c.top.nm.size : Int) ≤ 140737488355328 := by have := hle.2.2.2.1; omega
    have f4 : (c.top.dates.length : Int) ≤ 140737488355328 := by have := hle.2.2.2.2.1; omega
    have HR : Hid (Z.coWeight (n + 1) c = if Z.exG (m + 1) c.top.ex = true then 200000 else Z.weiL (Z.coWeight n) (Z.ownW c.top) (c.sub.drop 0)) := Lib.hid (by rw [Z.coWeight, List.drop_zero])
    have HSM := Lib.hid (Z.exG_sm (n := m + 1) (e := c.top.ex))
    have HGR := Lib.hid (xgreat_any m c.top.ex c.top.ex.top _ _ HX.out hle.1)
    generalize Z.coWeight (n + 1) c = R at *
    clear hc hle hcn hcn2 hX hD hS HKS
    generalize c.sub = l at *
    generalize c.top = t at *
    have c1 := BX.cell 1
    have c2 := BX.cell 2
    have c3 := BX.cell 3
    have c4 := BX.cell 4
    have c5 := BX.cell 5
    have c6 := BX.cell 6
    have c7 := BX.cell 7
    have c8 := BX.cell 8
    have c10 := BX.cell 10
    have c11 := BX.cell 11
    go_enter Tryd.func39, Tryd.ntmps39
    go_wp2_with fail
    generalize (w.alloc (.cells #[.int .u8 t.k, .string t.fr, .string t.tu, .string t.nm, .int .u8 t.ex.top.k, .string t.ex.top.rat, .string t.ex.top.name, .int .i64 t.ex.top.date, .slice Au ku cu, .int .i64 t.date, .slice Ad t.dates.length cd, .slice A l.length cp] 29)) = W0 at *
    refine HGR.out.mono ?_
    rintro e W2 ⟨rfl, hb2⟩
    have h02 := hb0.trans (hb2.mono hb0.size)
    have BX2 := BX.below hb2
    cases hg : Z.exG (m + 1) t.ex
    case true =>
      have HN : Hid (R = 200000) := Lib.hid (by rw [HR.out, if_pos hg])
      clear hg
      go_wp2_with fail
      go_ret
      exact ⟨ret_int (by rw [HN.out]), h02⟩
    have HXS := HSM.out hg
    have HR1 : Hid (R = Z.weiL (Z.coWeight n) (Z.ownW t) (l.drop 0)) := Lib.hid (by rw [HR.out, hg]; rfl)
    have HX2 := Lib.hid (XV.below hb2 (m + 1) HX.out)
    have HS2 := Lib.hid (CS.below hb2 HS.out)
    clear hg HSM HR HGR HX HS c1 c2 c3 c4 c5 c6 c7 c8 c10 c11
    have f11 : ∀ y : Ab W2, y.1.cell? ⟨w.heap.size, 1, none⟩ = #[.int .u8 t.k, .string t.fr, .string t.tu, .string t.nm, .int .u8 t.ex.top.k, .string t.ex.top.rat, .string t.ex.top.name, .int .i64 t.ex.top.date, .slice Au ku cu, .int .i64 t.date, .slice Ad t.dates.length cd, .slice A l.length cp][1]? := fun y => (Ab.cells (x := y) BX2).cell 1
    have f12 : ∀ y : Ab W2, y.1.cell? ⟨w.heap.size, 2, none⟩ = #[.int .u8 t.k, .string t.fr, .string t.tu, .string t.nm, .int .u8 t.ex.top.k, .string t.ex.top.rat, .string t.ex.top.name, .int .i64 t.ex.top.date, .slice Au ku cu, .int .i64 t.date, .slice Ad t.dates.length cd, .slice A l.length cp][2]? := fun y => (Ab.cells (x := y) BX2).cell 2
    have f13 : ∀ y : Ab W2, y.1.cell? ⟨w.heap.size, 3, none⟩ = #[.int .u8 t.k, .string t.fr, .string t.tu, .string t.nm, .int .u8 t.ex.top.k, .string t.ex.top.rat, .string t.ex.top.name, .int .i64 t.ex.top.date, .slice Au ku cu, .int .i64 t.date, .slice Ad t.dates.length cd, .slice A l.length cp][3]? := fun y => (Ab.cells (x := y) BX2).cell 3
    have f14 : ∀ y : Ab W2, y.1.cell? ⟨w.heap.size, 4, none⟩ = #[.int .u8 t.k, .string t.fr, .string t.tu, .string t.nm, .int .u8 t.ex.top.k, .string t.ex.top.rat, .string t.ex.top.name, .int .i64 t.ex.top.date, .slice Au ku cu, .int .i64 t.date, .slice Ad t.dates.length cd, .slice A l.length cp][4]? := fun y => (Ab.cells (x := y) BX2).cell 4
    have f15 : ∀ y : Ab W2, y.1.cell? ⟨w.heap.size, 5, none⟩ = #[.int .u8 t.k, .string t.fr, .string t.tu, .string t.nm, .int .u8 t.ex.top.k, .string t.ex.top.rat, .string t.ex.top.name, .int .i64 t.ex.top.date, .slice Au ku cu, .int .i64 t.date, .slice Ad t.dates.length cd, .slice A l.length cp][5]? := fun y => (Ab.cells (x := y) BX2).cell 5
    have f16 : ∀ y : Ab W2, y.1.cell? ⟨w.heap.size, 6, none⟩ = #[.int .u8 t.k, .string t.fr, .string t.tu, .string t.nm, .int .u8 t.ex.top.k, .string t.ex.top.rat, .string t.ex.top.name, .int .i64 t.ex.top.date, .slice Au ku cu, .int .i64 t.date, .slice Ad t.dates.length cd, .slice A l.length cp][6]? := fun y => (Ab.cells (x := y) BX2).cell 6
    have f17 : ∀ y : Ab W2, y.1.cell? ⟨w.heap.size, 7, none⟩ = #[.int .u8 t.k, .string t.fr, .string t.tu, .string t.nm, .int .u8 t.ex.top.k, .string t.ex.top.rat, .string t.ex.top.name, .int .i64 t.ex.top.date, .slice Au ku cu, .int .i64 t.date, .slice Ad t.dates.length cd, .slice A l.length cp][7]? := fun y => (Ab.cells (x := y) BX2).cell 7
    have f18 : ∀ y : Ab W2, y.1.cell? ⟨w.heap.size, 8, none⟩ = #[.int .u8 t.k, .string t.fr, .string t.tu, .string t.nm, .int .u8 t.ex.top.k, .string t.ex.top.rat, .string t.ex.top.name, .int .i64 t.ex.top.date, .slice Au ku cu, .int .i64 t.date, .slice Ad t.dates.length cd, .slice A l.length cp][8]? := fun y => (Ab.cells (x := y) BX2).cell 8
    have f20 : ∀ y : Ab W2, y.1.cell? ⟨w.heap.size, 10, none⟩ = #[.int .u8 t.k, .string t.fr, .string t.tu, .string t.nm, .int .u8 t.ex.top.k, .string t.ex.top.rat, .string t.ex.top.name, .int .i64 t.ex.top.date, .slice Au ku cu, .int .i64 t.date, .slice Ad t.dates.length cd, .slice A l.length cp][10]? := fun y => (Ab.cells (x := y) BX2).cell 10
    have f21 : ∀ y : Ab W2, y.1.cell? ⟨w.heap.size, 11, none⟩ = #[.int .u8 t.k, .string t.fr, .string t.tu, .string t.nm, .int .u8 t.ex.top.k, .string t.ex.top.rat, .string t.ex.top.name, .int .i64 t.ex.top.date, .slice Au ku cu, .int .i64 t.date, .slice Ad t.dates.length cd, .slice A l.length cp][11]? := fun y => (Ab.cells (x := y) BX2).cell 11
    have HSZ : Hid (∀ y : Ab W2, Calls Tryd.prog 61 #[.agg #[.int .u8 t.ex.top.k, .string t.ex.top.rat, .string t.ex.top.name, .int .i64 t.ex.top.date, .slice Au ku cu]] y.1 fun e w' => e = .returned (.int .i64 (Z.exSize (m + 1) t.ex : Nat)) ∧ Below y.1.heap.size y.1 w') := Lib.hid fun y => rxsize_any (m + 1) t.ex t.ex.top (.slice Au ku cu) y.1 (XV.below y.2 (m + 1) HX2.out) (by have := HXS.1; omega)
    have hz1 : (Z.exSize (m + 1) t.ex : Int) ≤ 600 := by have := HXS.1; omega
    have HOW : Hid (Z.ownW t = t.fr.size + t.tu.size + t.nm.size + t.dates.length + 4 * (Z.exSize (m + 1) t.ex : Nat)) := Lib.hid rfl
    generalize Z.exSize (m + 1) t.ex = z0 at *
    clear HXS HX2
    go_wp2_with fail
    refine wp_region_above (by kernel_rfl) (by kernel_rfl) ?_
    repeat (go_big_quiet_step (first | (go_at_call 61; with_reducible exact Ab.step (HSZ.out _))))
    refine wpQuiet_nil ?_
    rintro _ ⟨y3, rfl⟩
    have hb3 := y3.2
    have h03 := h02.trans (hb3.mono h02.size)
    have HS3 := Lib.hid (CS.below hb3 HS2.out)
    have BX3 := BX2.below hb3
    generalize y3.1 = W3 at *
    have c11 := BX3.cell 11
    clear HSZ HS2 BX2 hb2 hb3 f11 f12 f13 f14 f15 f16 f17 f18 f20 f21
    go_wp2_with fail
    rw [show (t.fr.size : Int) + t.tu.size + t.nm.size + t.dates.length + 4 * (z0 : Nat) = Z.ownW t from HOW.out.symm]
    have HOG : Hid (0 ≤ Z.ownW t ∧ Z.ownW t ≤ 562949953423712) := Lib.hid (by have := HOW.out; omega)
    have HST : Hid (Z.ownW t < 100000 + 4611686018427387904 + 562949953423712) := Lib.hid (by have := HOG.out; omega)
    have hw0 := HOG.out.1
    generalize Z.ownW t = W0v at *
    go_loopw [3, 4] (fun sv iv wr => ∃ (k : Nat) (s : Int), k ≤ l.length ∧ iv = .int .i64 k ∧ sv = .int .i64 s ∧ Hid (0 ≤ s ∧ s ≤ 4612248968380909524) ∧ Hid (R = Z.weiL (Z.coWeight n) s (l.drop k)) ∧ Below W3.heap.size W3 wr) (fun _ iv _ => l.length - (intOf iv).toNat)
    case atStart => exact ⟨0, _, by omega, rfl, rfl, Lib.hid (by have := HOG.out; omega), HR1, Below.refl _ _⟩
    case round =>
      obtain ⟨k, s, hk, rfl, rfl, HSB, HI, hbr⟩ := hrel
      clear HR1
      have hbw := h03.trans (hbr.mono h03.size)
      have c11 := (BX3.below hbr).cell 11
      by_cases hlt : k < l.length
      · have hz : l[k]? = some l[k] := List.getElem?_eq_getElem hlt
        have HD := Lib.hid (Z.weiL_drop (f := Z.coWeight n) s hz)
        have hi0 : (0 : Int) ≤ (k : Int) := by omega
        have hi1 : (k : Int) < (l.length : Int) := by omega
        by_cases hsl : s < 100000
        · obtain ⟨b, o, ax, ux, dx, sx, rfl, hbl, q0, q1, q2, q3, q4, q5, q6, q7, q8, q9, q10, q11, hv⟩ := CS.cells (CS.below hbr HS3.out) hz
          have hy := HSUB.out _ (List.mem_of_getElem? hz)
          have hw := HWLE.out _ (List.mem_of_getElem? hz)
          have HC := Lib.hid (ih _ ax ux dx sx wr hv hy.1 hy.2)
          clear hz hy hv ih
          generalize l[k] = y at *
          generalize Z.coWeight n y = z at *
          have HN : Hid (R = Z.weiL (Z.coWeight n) (s + z) (l.drop (k + 1))) := Lib.hid (by rw [HI.out, HD.out, if_pos hsl])
          have hs0 := HSB.out.1
          have hz0 := hw.1
          have hz1 : s + z ≤ 4611686018427487904 := by have := hw.2; omega
          have hz2 : s + z ≤ 4612248968380909524 := by omega
          have hz3 : 0 ≤ s + z := by omega
          have HSN : Hid (0 ≤ s + z ∧ s + z ≤ 4612248968380909524) := Lib.hid ⟨hz3, hz2⟩
          clear HI HD HSB hw
          go_wp2_with fail
          refine HC.out.mono ?_
          rintro e W1 ⟨rfl, hb⟩
          have hbn := hbr.trans (hb.mono hbr.size)
          clear HC hb q0 q1 q2 q3 q4 q5 q6 q7 q8 q9 q10 q11 hbw
          go_wp2_with fail
          go_roundw
          case rel => first | exact ⟨k + 1, s + z, by omega, by go_num, rfl, HSN, HN, hbn⟩ | ((repeat apply Exists.intro); exact ⟨⟨k + 1, s + z, by omega, by go_num, rfl, HSN, HN, hbn⟩, rfl⟩)
          case measure => simp [intOf]; omega
        · have HN : Hid (R = s) := Lib.hid (by rw [HI.out, HD.out, if_neg hsl])
          clear HI HD hz ih
          go_wp2_with fail
          go_ret
          exact ⟨ret_int HN.out.symm, hbw⟩
      · obtain rfl : k = l.length := by omega
        have HN : Hid (R = s) := Lib.hid (by rw [HI.out, List.drop_length]; rfl)
        go_wp2_with fail
        go_ret
        exact ⟨ret_int HN.out.symm, hbw⟩
set_option maxRecDepth 100000 in
set_option maxHeartbeats 2000000 in
theorem cgreat_any {m : Nat} (n : Nat) (c : Z.Co m (n + 1)) (a : Z.CN m) (u dv sv : Value) (w : World) (hc : CV w (n + 1) c ⟨a, u, dv, sv⟩) (hle : Z.CLe 140737488355328 (n + 1) c) :
    Calls Tryd.prog 10 #[.agg #[.int .u8 a.k, .string a.fr, .string a.tu, .string a.nm, .int .u8 a.ex.top.k, .string a.ex.top.rat, .string a.ex.top.name, .int .i64 a.ex.top.date, u, .int .i64 a.date, dv, sv]] w fun e w' => e = .returned (.bool (Z.coG (n + 1) c)) ∧ Below w.heap.size w w' := by
  obtain ⟨rfl, _⟩ := hc.open_
  have hb0 := (Below.refl _ w).alloc (Nat.le_refl w.heap.size) (.cells #[.int .u8 c.top.k, .string c.top.fr, .string c.top.tu, .string c.top.nm, .int .u8 c.top.ex.top.k, .string c.top.ex.top.rat, .string c.top.ex.top.name, .int .i64 c.top.ex.top.date, u, .int .i64 c.top.date, dv, sv] 29)
  have BX := Blk.new w 29 #[.int .u8 c.top.k, .string c.top.fr, .string c.top.tu, .string c.top.nm, .int .u8 c.top.ex.top.k, .string c.top.ex.top.rat, .string c.top.ex.top.name, .int .i64 c.top.ex.top.date, u, .int .i64 c.top.date, dv, sv]
  have c0 := BX.cell 0
  have c1 := BX.cell 1
  have c2 := BX.cell 2
  have c3 := BX.cell 3
  have c4 := BX.cell 4
  have c5 := BX.cell 5
  have c6 := BX.cell 6
  have c7 := BX.cell 7
  have c8 := BX.cell 8
  have c9 := BX.cell 9
  have c10 := BX.cell 10
  have c11 := BX.cell 11
  have HX1 := Lib.hid (CV.below hb0 (n + 1) hc)
  have HC := Lib.hid (ccount_any (n + 1) c 600 100 c.top _ _ _ _ HX1.out (by omega) (by omega) (by omega) (by omega))
  have HOK := Lib.hid (Z.coCount_ok (n + 1) c 600 100)
  have HLE := Lib.hid hle
  have HR : Hid (Z.coG (n + 1) c = (!(Z.coCount (n + 1) c 600 100).2 || (decide (600 < (Z.coCount (n + 1) c 600 100).1) || decide (12000 < Z.coWeight (n + 1) c)))) := Lib.hid rfl
  generalize Z.coG (n + 1) c = R at *
  generalize Z.coCount (n + 1) c 600 100 = p at *
  obtain ⟨p1, p2⟩ := p
  clear hc hle
  go_enter Tryd.func10, Tryd.ntmps10
  go_wp2_with fail
  generalize (w.alloc (.cells #[.int .u8 c.top.k, .string c.top.fr, .string c.top.tu, .string c.top.nm, .int .u8 c.top.ex.top.k, .string c.top.ex.top.rat, .string c.top.ex.top.name, .int .i64 c.top.ex.top.date, u, .int .i64 c.top.date, dv, sv] 29)) = W0 at *
  refine HC.out.mono ?_
  rintro e W1 ⟨rfl, hb1⟩
  have h1 := hb0.trans (hb1.mono hb0.size)
  have BX1 := BX.below hb1
  have HX2 := Lib.hid (CV.below hb1 (n + 1) HX1.out)
  clear HC HX1 c0 c1 c2 c3 c4 c5 c6 c7 c8 c9 c10 c11 BX
  have c0 := BX1.cell 0
  have c1 := BX1.cell 1
  have c2 := BX1.cell 2
  have c3 := BX1.cell 3
  have c4 := BX1.cell 4
  have c5 := BX1.cell 5
  have c6 := BX1.cell 6
  have c7 := BX1.cell 7
  have c8 := BX1.cell 8
  have c9 := BX1.cell 9
  have c10 := BX1.cell 10
  have c11 := BX1.cell 11
  cases p2
  · have HF : Hid (R = true) := Lib.hid (by rw [HR.out]; rfl)
    go_wp2_with fail
    go_ret
    exact ⟨ret_bool HF.out.symm, h1⟩
  by_cases hp : 600 < p1
  · have HF : Hid (R = true) := Lib.hid (by rw [HR.out, show decide (600 < ((p1, true) : Int × Bool).1) = true from decide_eq_true hp]; rfl)
    go_wp2_with fail
    go_ret
    exact ⟨ret_bool HF.out.symm, h1⟩
  have HR2 : Hid (R = decide (12000 < Z.coWeight (n + 1) c)) := Lib.hid (by rw [HR.out, show decide (600 < ((p1, true) : Int × Bool).1) = false from decide_eq_false hp]; rfl)
  have hsz : Z.coCnt (n + 1) c ≤ 600 := by
    have := HOK.out rfl (by show p1 ≤ 600; omega)
    have this : p1 = Z.coCnt (n + 1) c := this
    omega
  have HB := Lib.hid (cweight_any (n + 1) c c.top _ _ _ W1 HX2.out HLE.out hsz)
  clear HX2 HOK HLE hsz HR
  generalize Z.coWeight (n + 1) c = z at *
  go_wp2_with fail
  refine HB.out.mono ?_
  rintro e W2 ⟨rfl, hb2⟩
  have h2 := h1.trans (hb2.mono h1.size)
  by_cases hz : 12000 < z
  · have HF : Hid (R = true) := Lib.hid (by rw [HR2.out]; exact decide_eq_true hz)
    go_wp2_with fail
    go_ret
    exact ⟨ret_bool HF.out.symm, h2⟩
  · have HF : Hid (R = false) := Lib.hid (by rw [HR2.out]; exact decide_eq_false hz)
    have e1 : decide (600 < p1) = false := decide_eq_false (by omega)
    have e2 : decide (12000 < z) = false := decide_eq_false (by omega)
    go_wp2_with fail
    go_ret
    exact ⟨ret_bool HF.out.symm, h2⟩
end Go.Proofs.YtifafmomkpkgdaaDoor
