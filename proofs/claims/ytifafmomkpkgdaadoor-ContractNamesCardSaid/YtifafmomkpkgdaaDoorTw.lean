/- Tw: Otw Otv -/
import Derived.Test.YtifafmomkpkgdaaDoorOtr
import Derived.Test.YtifafmomkpkgdaaDoorObs
import Derived.Test.YtifafmomkpkgdaaDoorOsz
/- Walks: Twin of an expression. -/

namespace Go.Proofs.YtifafmomkpkgdaaDoor
open Go.RowKit Go.Shelf
set_option maxRecDepth 100000 in
set_option maxHeartbeats 2000000 in
theorem xtwin_any : ∀ (n : Nat) (x : Z.Ex n) (a : Z.XN) (u : Value) (w : World), XV w n x (a, u) → Z.XSm n x → Calls Tryd.prog 56 #[.agg #[.int .u8 a.k, .string a.rat, .string a.name, .int .i64 a.date, u]] w fun e w' => ∃ (A : Option Addr) (k c : Nat) (raws : List (Z.XN × Value)), e = .returned (.agg #[.int .u8 a.k, .string a.rat, .string a.name, .int .i64 a.date, .slice A k c]) ∧ Below w.heap.size w w' ∧ OL 5 xvs 25 w' w.heap.size (.slice A k c) raws ∧ ∀ W, Fr w.heap.size w'.heap.size w' W → XV W n x (a, .slice A k c) := by
  intro n
  induction n with
  | zero => intro x; exact x.no
  | succ n ih =>
    intro x a u w hx hsm
    obtain ⟨rfl, hS⟩ := hx.open_
    have hkk := hx.kind
    obtain ⟨A, cp, rfl, hlc, hcm⟩ := hS.shape
    unfold maxLen at hcm
    have HSH : Hid (∀ W v, ES W n v x.sub → XV W (n + 1) x (x.top, v)) := Lib.hid (fun W v h => XV.shut hkk h)
    have HLN := Lib.hid hsm.len
    have HSUB := Lib.hid (fun y hy => Z.XSm.sub hsm (x := y) hy)
    have HS := Lib.hid hS
    clear hx hkk hsm hS
    generalize x.sub = l at *
    generalize x.top = t at *
    have HIH := Lib.hid ih
    clear ih
    go_enter Tryd.func56, Tryd.ntmps56
    have hb0 : Below w.heap.size w ((w.alloc (.cells #[.int .u8 t.k, .string t.rat, .string t.name, .int .i64 t.date, .slice A l.length cp] 25)).alloc (.cells #[.int .u8 0, .string ⟨#[]⟩, .string ⟨#[]⟩, .int .i64 0, .slice none 0 0] 25)) := ((Below.refl _ w).alloc (Nat.le_refl _) _).alloc (by simp) _
    have bx := (Blk.new w 25 #[.int .u8 t.k, .string t.rat, .string t.name, .int .i64 t.date, .slice A l.length cp]).alloc (.cells #[.int .u8 0, .string ⟨#[]⟩, .string ⟨#[]⟩, .int .i64 0, .slice none 0 0] 25)
    have bz : Blk ((w.alloc (.cells #[.int .u8 t.k, .string t.rat, .string t.name, .int .i64 t.date, .slice A l.length cp] 25)).alloc (.cells #[.int .u8 0, .string ⟨#[]⟩, .string ⟨#[]⟩, .int .i64 0, .slice none 0 0] 25)) (w.heap.size + 1) 25 #[.int .u8 0, .string ⟨#[]⟩, .string ⟨#[]⟩, .int .i64 0, .slice none 0 0] := by
      have h := Blk.new (w.alloc (.cells #[.int .u8 t.k, .string t.rat, .string t.name, .int .i64 t.date, .slice A l.length cp] 25)) 25 #[.int .u8 0, .string ⟨#[]⟩, .string ⟨#[]⟩, .int .i64 0, .slice none 0 0]
      rwa [World.size_alloc] at h
    have hsz : ((w.alloc (.cells #[.int .u8 t.k, .string t.rat, .string t.name, .int .i64 t.date, .slice A l.length cp] 25)).alloc (.cells #[.int .u8 0, .string ⟨#[]⟩, .string ⟨#[]⟩, .int .i64 0, .slice none 0 0] 25)).heap.size = w.heap.size + 2 := by simp
    have c4 := bx.cell 4
    go_wp2_with fail
    generalize ((w.alloc (.cells #[.int .u8 t.k, .string t.rat, .string t.name, .int .i64 t.date, .slice A l.length cp] 25)).alloc (.cells #[.int .u8 0, .string ⟨#[]⟩, .string ⟨#[]⟩, .int .i64 0, .slice none 0 0] 25)) = W0 at *
    clear c4
    go_loopw [3, 9] (fun lv iv wr => ∃ (k : Nat) (raws : List (Z.XN × Value)), k ≤ l.length ∧ iv = .int .i64 k ∧ Hid (RowI 5 xvs 25 (fun W r y => XV W n y r) (w.heap.size + 2) wr lv raws (l.take k)) ∧ Below W0.heap.size W0 wr) (fun _ iv _ => l.length - (intOf iv).toNat)
    case atStart => exact ⟨0, [], Nat.zero_le _, rfl, Lib.hid RowI.nil_, Below.refl _ _⟩
    case round =>
      obtain ⟨k, raws, hk, rfl, HR, hbr⟩ := hrel
      have hbw := hb0.trans (hbr.mono hb0.size)
      have hB : w.heap.size + 2 ≤ wr.heap.size := by rw [← hsz]; exact hbr.size
      by_cases hlt : k < l.length
      · have hz : l[k]? = some l[k] := List.getElem?_eq_getElem hlt
        obtain ⟨b, o, ax, ux, hA, hbl, q0, q1, q2, q3, q4, hv⟩ := ES.cells (ES.below hbw HS.out) hz
        subst hA
        have HT : Hid (l.take (k + 1) = l.take k ++ [l[k]]) := Lib.hid (by rw [List.take_add_one, hz]; rfl)
        have hys := HSUB.out _ (List.mem_of_getElem? hz)
        clear hz
        generalize l[k] = y at *
        obtain ⟨Ax, kx, cx, rfl⟩ := hv.shape
        have hi0 : (0 : Int) ≤ (k : Int) := by omega
        have hi1 : (k : Int) < (l.length : Int) := by omega
        have hba := (Below.refl _ wr).alloc (Nat.le_refl wr.heap.size) (.cells #[.int .u8 ax.k, .string ax.rat, .string ax.name, .int .i64 ax.date, .slice Ax kx cx] 25)
        have HC := Lib.hid (HIH.out y ax _ _ (XV.below hba n hv) hys)
        have BY := Blk.new wr 25 #[.int .u8 ax.k, .string ax.rat, .string ax.name, .int .i64 ax.date, .slice Ax kx cx]
        have z0 := BY.cell 0
        have z1 := BY.cell 1
        have z2 := BY.cell 2
        have z3 := BY.cell 3
        have z4 := BY.cell 4
        clear hv hys BY
        go_wp2_with fail
        refine HC.out.mono ?_
        rintro e W1 ⟨A1, k1, c1, raws1, rfl, hb1, _, hfr⟩
        have HFR := Lib.hid hfr
        have hb1' := hba.trans (hb1.mono hba.size)
        have HR1 := Lib.hid (HR.out.below hb1')
        have hle1 := hba.size
        have hle2 := hb1.size
        have HRL : Hid (raws.length ≤ 20000) := Lib.hid (by have := HR.out.len; rw [List.length_take] at this; have := HLN.out; omega)
        have HRW : Hid (∀ g, u3.ownBlock = some g → g < (wr.alloc (.cells #[.int .u8 ax.k, .string ax.rat, .string ax.name, .int .i64 ax.date, .slice Ax kx cx] 25)).heap.size) := Lib.hid (fun g hg => Nat.lt_of_lt_of_le (HR.out.own.lt_ g hg).2 hle1)
        generalize (wr.alloc (.cells #[.int .u8 ax.k, .string ax.rat, .string ax.name, .int .i64 ax.date, .slice Ax kx cx] 25)) = wa at *
        clear z0 z1 z2 z3 z4 q0 q1 q2 q3 q4 HC hba hb1 hfr
        go_wp2_with (at_builtin; go_loud (refine appAt (ax, .slice A1 k1 c1) (xvs_one _ _ _ _) (xvs_len _) rfl _ _ rfl infoX (by omega) (by omega) Tryd.underlying23 W1 (w.heap.size + 2) u3 raws _ rfl rfl HR1.out.own rfl HRL.out (by omega) ?_; intro A2 m2 c2 W2 hm2 hO2 hb2 hg2 hat2; subst hm2; have HR2 := Lib.hid (RowI.app (y := y) HR1.out hO2 hg2 hat2 (show w.heap.size + 2 ≤ wa.heap.size by omega) (Nat.le_refl _) HRW.out HFR.out); have hb3 := hbr.trans ((hb1'.mono hbr.size).trans (hb2.mono (by omega))); clear hO2 hg2 hat2))
        go_roundw
        case rel => exact ⟨k + 1, raws ++ [(ax, .slice A1 k1 c1)], by omega, by go_num, Lib.hid (by rw [HT.out]; exact HR2.out), hb3⟩
        case measure => simp [intOf]; omega
      · obtain rfl : k = l.length := by omega
        rw [List.take_length] at HR
        obtain ⟨A3, c3, rfl⟩ := OL.shape HR.out.own
        have bxr := bx.below hbr
        have bzr := bz.below hbr
        have k4 := bxr.cell 4
        have f4 := bxr.frozen 4
        have hne : w.heap.size + 1 ≠ w.heap.size := by omega
        have bx2 : Blk (wr.setCell ⟨w.heap.size, 4, none⟩ (.slice A3 raws.length c3)) w.heap.size 25 #[.int .u8 t.k, .string t.rat, .string t.name, .int .i64 t.date, .slice A3 raws.length c3] := bxr.set 4 _
        have bz2 := bzr.oth hne (j := 4) (.slice A3 raws.length c3)
        have x0 := bx2.cell 0
        have y0 := bz2.cell 0
        have g0 := bz2.frozen 0
        have x1 := bx2.cell 1
        have y1 := bz2.cell 1
        have g1 := bz2.frozen 1
        have x2 := bx2.cell 2
        have y2 := bz2.cell 2
        have g2 := bz2.frozen 2
        have x3 := bx2.cell 3
        have y3 := bz2.cell 3
        have g3 := bz2.frozen 3
        have x4 := bx2.cell 4
        have y4 := bz2.cell 4
        have g4 := bz2.frozen 4
        go_wp2_with fail
        have bf := Blk.store5 bz2 (.int .u8 t.k) (.string t.rat) (.string t.name) (.int .i64 t.date) (.slice A3 raws.length c3)
        have hbf := Below.store5 (hbw.setCell (p := ⟨w.heap.size, 4, none⟩) (Nat.le_refl _) (.slice A3 raws.length c3)) (show w.heap.size ≤ w.heap.size + 1 by omega) (.int .u8 t.k) (.string t.rat) (.string t.name) (.int .i64 t.date) (.slice A3 raws.length c3)
        have HRF := Lib.hid ((HR.out.kept (grownBy_setAt wr w.heap.size 4 (.slice A3 raws.length c3)) (by omega)).kept (grown_store5 _ (w.heap.size + 1) (.int .u8 t.k) (.string t.rat) (.string t.name) (.int .i64 t.date) (.slice A3 raws.length c3)) (by omega))
        clear k4 f4 bx2 bz2 x0 y0 g0 x1 y1 g1 x2 y2 g2 x3 y3 g3 x4 y4 g4
        generalize ((((((wr.setCell ⟨w.heap.size, 4, none⟩ (.slice A3 raws.length c3)).setCell ⟨w.heap.size + 1, 0, none⟩ (.int .u8 t.k)).setCell ⟨w.heap.size + 1, 1, none⟩ (.string t.rat)).setCell ⟨w.heap.size + 1, 2, none⟩ (.string t.name)).setCell ⟨w.heap.size + 1, 3, none⟩ (.int .i64 t.date)).setCell ⟨w.heap.size + 1, 4, none⟩ (.slice A3 raws.length c3)) = wf at *
        have x0 := bf.cell 0
        have x1 := bf.cell 1
        have x2 := bf.cell 2
        have x3 := bf.cell 3
        have x4 := bf.cell 4
        (try simp only [Exit.inBlock, Exit.then])
        refine bodyPost_ret (v := .agg #[.int .u8 t.k, .string t.rat, .string t.name, .int .i64 t.date, .slice A3 raws.length c3]) (by simp [results, Tryd.results56, go_sem, x0, x1, x2, x3, x4]) rfl ?_
        exact ⟨A3, raws.length, c3, raws, rfl, hbf, OL.mono HRF.out.own (by omega), fun W hW => HSH.out W _ (HRF.out.dp xvs_len (fun j h1 h2 => hW j (by omega) h2))⟩
/-- The library's Clone of a list of days. -/
theorem clone_any (v : Value) (l : List Int) (w : World) (h : SD w v l) (hl : l.length ≤ 12000) :
    Calls Tryd.prog 57 #[v] w fun e w' => ∃ (A : Option Addr) (k c : Nat), e = .returned (.slice A k c) ∧ OL 1 dE 3 w' w.heap.size (.slice A k c) l ∧ Below w.heap.size w w' := by
  have hfl : ∀ l : List Int, l.flatMap dE = l.map (Value.int .i64) := fun l => by
    induction l with
    | nil => rfl
    | cons x r ih => rw [List.flatMap_cons, List.map_cons, ih]; rfl
  obtain ⟨A, c, rfl, h1, h2, h3⟩ := h
  cases A with
  | none =>
    have h0 : l = [] := by
      rcases Nat.eq_zero_or_pos l.length with h | h
      · exact List.eq_nil_of_length_eq_zero h
      · obtain ⟨_, _, h1, _⟩ := h3 h
        cases h1
    subst h0
    refine (Tryd.slices_Clone_int_nil 0 c w).mono ?_
    rintro e w' ⟨rfl, rfl⟩
    exact ⟨none, 0, 0, rfl, OL.nil_, Below.refl _ _⟩
  | some a =>
    rcases Nat.eq_zero_or_pos l.length with h0 | h0
    · obtain rfl := List.eq_nil_of_length_eq_zero h0
      refine (Tryd.slices_Clone_int_zero a c w).mono ?_
      rintro e w' ⟨v', rfl, ho, _, hb⟩
      have hO : OL 1 dE 3 w' w.heap.size v' [] := ho
      obtain ⟨A', c', rfl⟩ := OL.shape hO
      exact ⟨A', _, c', rfl, hO, hb⟩
    · obtain ⟨b, o, hA, hb, hc⟩ := h3 h0
      injection hA with hA
      subst hA
      refine (Tryd.slices_Clone_int b o l.length c l w (Nat.le_refl _) (by omega) (fun j hj => by
        have hz : l[j]? = some l[j] := List.getElem?_eq_getElem hj
        have := hc j _ hz 0 _ rfl
        rw [Nat.mul_one, Nat.add_zero] at this
        rw [this, List.getD_eq_getElem?_getD, hz]
        rfl)).mono ?_
      rintro e w' ⟨v', rfl, ho, _, hb⟩
      have hO : OL 1 dE 3 w' w.heap.size v' l := by
        unfold OL
        rw [hfl]
        rwa [List.take_length] at ho
      obtain ⟨A', c', rfl⟩ := OL.shape hO
      exact ⟨A', _, c', rfl, hO, hb⟩
set_option maxRecDepth 100000 in
set_option maxHeartbeats 4000000 in
theorem ctwin_any {m : Nat} : ∀ (n : Nat) (c : Z.Co m n) (a : Z.CN m) (u dv sv : Value) (w : World), CV w n c ⟨a, u, dv, sv⟩ → Z.CSm n c → Calls Tryd.prog 25 #[.agg #[.int .u8 a.k, .string a.fr, .string a.tu, .string a.nm, .int .u8 a.ex.top.k, .string a.ex.top.rat, .string a.ex.top.name, .int .i64 a.ex.top.date, u, .int .i64 a.date, dv, sv]] w fun e w' => ∃ (A1 A2 A3 : Option Addr) (k1 k2 k3 c1 c2 c3 : Nat) (r1 : List (Z.XN × Value)) (r3 : List (CR m)), e = .returned (.agg #[.int .u8 a.k, .string a.fr, .string a.tu, .string a.nm, .int .u8 a.ex.top.k, .string a.ex.top.rat, .string a.ex.top.name, .int .i64 a.ex.top.date, .slice A1 k1 c1, .int .i64 a.date, .slice A2 k2 c2, .slice A3 k3 c3]) ∧ Below w.heap.size w w' ∧ (OL 5 xvs 25 w' w.heap.size (.slice A1 k1 c1) r1 ∧ OL 1 dE 3 w' w.heap.size (.slice A2 k2 c2) a.dates ∧ OL 12 (CR.vs (m := m)) 29 w' w.heap.size (.slice A3 k3 c3) r3) ∧ ∀ W, Fr w.heap.size w'.heap.size w' W → CV W n c ⟨a, .slice A1 k1 c1, .slice A2 k2 c2, .slice A3 k3 c3⟩ := by
  intro n
  induction n with
  | zero => intro c; exact c.no
  | succ n ih =>
    intro c a u dv sv w hc hsm
    obtain ⟨rfl, hX, hD, hS⟩ := hc.open_
    have hkk := hc.kind
    obtain ⟨Au, ku, cu, rfl⟩ := hX.shape
    obtain ⟨Ad, cd, rfl, _⟩ := hD.shape
    obtain ⟨As, cs, rfl, hlc, hcm⟩ := Dp.shape hS
    unfold maxLen at hcm
    have HSH : Hid (∀ W u dv sv, XV W (m + 1) c.top.ex (c.top.ex.top, u) → SD W dv c.top.dates → CS W n sv c.sub → CV W (n + 1) c ⟨c.top, u, dv, sv⟩) := Lib.hid (fun W u dv sv h1 h2 h3 => CV.shut hkk h1 h2 h3)
    have HLN := Lib.hid hsm.len
    have HSUB := Lib.hid (fun y hy => Z.CSm.sub hsm y hy)
    have HTOP := Lib.hid hsm.top
    have HS := Lib.hid hS
    have HX := Lib.hid hX
    have HD := Lib.hid hD
    clear hc hkk hsm hS hX hD
    generalize c.sub = l at *
    generalize c.top = t at *
    generalize hkd : t.dates.length = kd at *
    clear hkd
    have HIH := Lib.hid ih
    clear ih
    go_enter Tryd.func25, Tryd.ntmps25
    have hb0 : Below w.heap.size w ((w.alloc (.cells #[.int .u8 t.k, .string t.fr, .string t.tu, .string t.nm, .int .u8 t.ex.top.k, .string t.ex.top.rat, .string t.ex.top.name, .int .i64 t.ex.top.date, .slice Au ku cu, .int .i64 t.date, .slice Ad kd cd, .slice As l.length cs] 29)).alloc (.cells #[.int .u8 0, .string ⟨#[]⟩, .string ⟨#[]⟩, .string ⟨#[]⟩, .int .u8 0, .string ⟨#[]⟩, .string ⟨#[]⟩, .int .i64 0, .slice none 0 0, .int .i64 0, .slice none 0 0, .slice none 0 0] 29)) := ((Below.refl _ w).alloc (Nat.le_refl _) _).alloc (by simp) _
    have bx := (Blk.new w 29 #[.int .u8 t.k, .string t.fr, .string t.tu, .string t.nm, .int .u8 t.ex.top.k, .string t.ex.top.rat, .string t.ex.top.name, .int .i64 t.ex.top.date, .slice Au ku cu, .int .i64 t.date, .slice Ad kd cd, .slice As l.length cs]).alloc (.cells #[.int .u8 0, .string ⟨#[]⟩, .string ⟨#[]⟩, .string ⟨#[]⟩, .int .u8 0, .string ⟨#[]⟩, .string ⟨#[]⟩, .int .i64 0, .slice none 0 0, .int .i64 0, .slice none 0 0, .slice none 0 0] 29)
    have bz : Blk ((w.alloc (.cells #[.int .u8 t.k, .string t.fr, .string t.tu, .string t.nm, .int .u8 t.ex.top.k, .string t.ex.top.rat, .string t.ex.top.name, .int .i64 t.ex.top.date, .slice Au ku cu, .int .i64 t.date, .slice Ad kd cd, .slice As l.length cs] 29)).alloc (.cells #[.int .u8 0, .string ⟨#[]⟩, .string ⟨#[]⟩, .string ⟨#[]⟩, .int .u8 0, .string ⟨#[]⟩, .string ⟨#[]⟩, .int .i64 0, .slice none 0 0, .int .i64 0, .slice none 0 0, .slice none 0 0] 29)) (w.heap.size + 1) 29 #[.int .u8 0, .string ⟨#[]⟩, .string ⟨#[]⟩, .string ⟨#[]⟩, .int .u8 0, .string ⟨#[]⟩, .string ⟨#[]⟩, .int .i64 0, .slice none 0 0, .int .i64 0, .slice none 0 0, .slice none 0 0] := by
      have h := Blk.new (w.alloc (.cells #[.int .u8 t.k, .string t.fr, .string t.tu, .string t.nm, .int .u8 t.ex.top.k, .string t.ex.top.rat, .string t.ex.top.name, .int .i64 t.ex.top.date, .slice Au ku cu, .int .i64 t.date, .slice Ad kd cd, .slice As l.length cs] 29)) 29 #[.int .u8 0, .string ⟨#[]⟩, .string ⟨#[]⟩, .string ⟨#[]⟩, .int .u8 0, .string ⟨#[]⟩, .string ⟨#[]⟩, .int .i64 0, .slice none 0 0, .int .i64 0, .slice none 0 0, .slice none 0 0]
      rwa [World.size_alloc] at h
    have hsz : ((w.alloc (.cells #[.int .u8 t.k, .string t.fr, .string t.tu, .string t.nm, .int .u8 t.ex.top.k, .string t.ex.top.rat, .string t.ex.top.name, .int .i64 t.ex.top.date, .slice Au ku cu, .int .i64 t.date, .slice Ad kd cd, .slice As l.length cs] 29)).alloc (.cells #[.int .u8 0, .string ⟨#[]⟩, .string ⟨#[]⟩, .string ⟨#[]⟩, .int .u8 0, .string ⟨#[]⟩, .string ⟨#[]⟩, .int .i64 0, .slice none 0 0, .int .i64 0, .slice none 0 0, .slice none 0 0] 29)).heap.size = w.heap.size + 2 := by simp
    go_upto_region 1 with fail
    generalize ((w.alloc (.cells #[.int .u8 t.k, .string t.fr, .string t.tu, .string t.nm, .int .u8 t.ex.top.k, .string t.ex.top.rat, .string t.ex.top.name, .int .i64 t.ex.top.date, .slice Au ku cu, .int .i64 t.date, .slice Ad kd cd, .slice As l.length cs] 29)).alloc (.cells #[.int .u8 0, .string ⟨#[]⟩, .string ⟨#[]⟩, .string ⟨#[]⟩, .int .u8 0, .string ⟨#[]⟩, .string ⟨#[]⟩, .int .i64 0, .slice none 0 0, .int .i64 0, .slice none 0 0, .slice none 0 0] 29)) = W0 at *
    have hdr := (Below.refl W0.heap.size W0).drew
    have bxd := bx.below hdr
    have bzd := bz.below hdr
    have hbd := hb0.trans (hdr.mono hb0.size)
    have hszd := hdr.size
    go_cut [3] (fun _ wx => ∃ (A1 A2 : Option Addr) (k1 k2 c1 c2 : Nat) (r1 : List (Z.XN × Value)), Blk wx w.heap.size 29 #[.int .u8 t.k, .string t.fr, .string t.tu, .string t.nm, .int .u8 t.ex.top.k, .string t.ex.top.rat, .string t.ex.top.name, .int .i64 t.ex.top.date, .slice A1 k1 c1, .int .i64 t.date, .slice A2 k2 c2, .slice As l.length cs] ∧ Blk wx (w.heap.size + 1) 29 #[.int .u8 0, .string ⟨#[]⟩, .string ⟨#[]⟩, .string ⟨#[]⟩, .int .u8 0, .string ⟨#[]⟩, .string ⟨#[]⟩, .int .i64 0, .slice none 0 0, .int .i64 0, .slice none 0 0, .slice none 0 0] ∧ Below w.heap.size w wx ∧ w.heap.size + 2 ≤ wx.heap.size ∧ Hid (OL 5 xvs 25 wx (w.heap.size + 2) (.slice A1 k1 c1) r1) ∧ Hid (OL 1 dE 3 wx (w.heap.size + 2) (.slice A2 k2 c2) t.dates) ∧ Hid (∀ W, Fr (w.heap.size + 2) wx.heap.size wx W → XV W (m + 1) t.ex (t.ex.top, .slice A1 k1 c1)))
    case first =>
      have kX := Below.refl W0.drew.heap.size W0.drew
      refine wp_region_fx 7 (fun w' => ∃ y : Ab W0.drew, w' = y.1) (by kernel_rfl) ?_
      show fxAny _ _ _ _ 7 _ 10 _ _ _
      generalize W0.drew = X0 at *
      have p4 : ∀ y : Ab X0, y.1.cell? ⟨w.heap.size, 4, none⟩ = some (.int .u8 t.ex.top.k) := fun y => (bxd.below y.2).cell 4
      have p5 : ∀ y : Ab X0, y.1.cell? ⟨w.heap.size, 5, none⟩ = some (.string t.ex.top.rat) := fun y => (bxd.below y.2).cell 5
      have p6 : ∀ y : Ab X0, y.1.cell? ⟨w.heap.size, 6, none⟩ = some (.string t.ex.top.name) := fun y => (bxd.below y.2).cell 6
      have p7 : ∀ y : Ab X0, y.1.cell? ⟨w.heap.size, 7, none⟩ = some (.int .i64 t.ex.top.date) := fun y => (bxd.below y.2).cell 7
      have p8 : ∀ y : Ab X0, y.1.cell? ⟨w.heap.size, 8, none⟩ = some (.slice Au ku cu) := fun y => (bxd.below y.2).cell 8
      have p10 : ∀ y : Ab X0, y.1.cell? ⟨w.heap.size, 10, none⟩ = some (.slice Ad kd cd) := fun y => (bxd.below y.2).cell 10
      refine fx_reads (n := 6) [0, 1, 3, 4] rfl (by kernel_rfl) ⟨⟨X0, kX⟩, rfl⟩ ?_
      simp only [opsAt, List.filterMap_cons, List.filterMap_nil, List.getElem?_toArray, List.getElem?_cons_succ, List.getElem?_cons_zero]
      show wpQuiet _ _ _ _ [_, _, _, _] _
      repeat (go_big_quiet_step (fail))
      refine wpQuiet_nil ?_
      clear p4 p5 p6 p7 p8 p10
      refine fx_one (k := 2) (by kernel_rfl) ?_
      simp only [opsAt, List.filterMap_cons, List.filterMap_nil, List.getElem?_toArray, List.getElem?_cons_succ, List.getElem?_cons_zero]
      refine fxp_enter (f := 56) (args := #[.agg #[.int .u8 t.ex.top.k, .string t.ex.top.rat, .string t.ex.top.name, .int .i64 t.ex.top.date, .slice Au ku cu]]) (w' := X0) rfl (by simp [go_sem]) ?_
      refine (xtwin_any (m + 1) t.ex t.ex.top _ X0 (XV.below hbd _ HX.out) HTOP.out.ex).mono ?_
      rintro e X1 ⟨A1, k1, c1, r1, rfl, kb, hO1, hF1⟩
      refine ⟨_, rfl, ⟨⟨X1, kb⟩, rfl⟩, ?_⟩
      refine fxp_nil ?_
      simp only [Act.put, List.setIfInBounds_toArray, List.set_cons_succ, List.set_cons_zero]
      have hsF : w.heap.size + 2 ≤ X1.heap.size := by have := kb.size; omega
      have bxF := bxd.below kb
      have bzF := bzd.below kb
      have hbF := hbd.trans (kb.mono hbd.size)
      have hOF : OL 5 xvs 25 X1 (w.heap.size + 2) (.slice A1 k1 c1) r1 := OL.mono hO1 (by omega)
      have hFF : ∀ W, Fr (w.heap.size + 2) X1.heap.size X1 W → XV W (m + 1) t.ex (t.ex.top, .slice A1 k1 c1) := fun W hW => hF1 W (fun j h1 h2 => hW j (by omega) h2)
      refine fx_reads (n := 4) [6] rfl (by kernel_rfl) ⟨⟨X1, kb⟩, rfl⟩ ?_
      simp only [opsAt, List.filterMap_cons, List.filterMap_nil, List.getElem?_toArray, List.getElem?_cons_succ, List.getElem?_cons_zero]
      show wpQuiet _ _ _ _ [_] _
      repeat (go_big_quiet_step (fail))
      refine wpQuiet_nil ?_
      have kT := kb
      clear hO1 hF1 kb bxd bzd hbd
      refine fx_one (k := 5) (by kernel_rfl) ?_
      simp only [opsAt, List.filterMap_cons, List.filterMap_nil, List.getElem?_toArray, List.getElem?_cons_succ, List.getElem?_cons_zero]
      refine fxp_enter (f := 57) (args := #[.slice Ad kd cd]) (w' := X1) rfl (by simp [go_sem]) ?_
      refine (clone_any _ t.dates X1 (SL.below HD.out hbF) HTOP.out.dates).mono ?_
      rintro e X1c ⟨A2, k2, c2, rfl, hD2, kb⟩
      refine ⟨_, rfl, ⟨⟨X1c, kT.trans (kb.mono kT.size)⟩, rfl⟩, ?_⟩
      refine fxp_nil ?_
      simp only [Act.put, List.setIfInBounds_toArray, List.set_cons_succ, List.set_cons_zero]
      have hDF : OL 1 dE 3 X1c (w.heap.size + 2) (.slice A2 k2 c2) t.dates := OL.mono hD2 hsF
      have bxF := bxF.below kb
      have bzF := bzF.below kb
      have hbF := hbF.trans (kb.mono hbF.size)
      have hOF := OL.below hOF kb
      have hFF : ∀ W, Fr (w.heap.size + 2) X1c.heap.size X1c W → XV W (m + 1) t.ex (t.ex.top, .slice A1 k1 c1) := fun W hW => hFF W (fun j h1 h2 => (hW j h1 (Nat.lt_of_lt_of_le h2 kb.size)).trans (kb.block j h2))
      have hsF := Nat.le_trans hsF kb.size
      clear kb hD2
      refine fx_late (k := 7) (by decide) (by kernel_rfl) ?_
      simp only [opsAt, List.filterMap_cons, List.filterMap_nil, List.getElem?_toArray, List.getElem?_cons_succ, List.getElem?_cons_zero]
      have z4 := bxF.cell 4
      have y4 := bxF.frozen 4
      have z5 := bxF.cell 5
      have y5 := bxF.frozen 5
      have z6 := bxF.cell 6
      have y6 := bxF.frozen 6
      have z7 := bxF.cell 7
      have y7 := bxF.frozen 7
      have z8 := bxF.cell 8
      have y8 := bxF.frozen 8
      refine fxl_skip (w' := (((((X1c.setCell ⟨w.heap.size, 4, none⟩ (.int .u8 t.ex.top.k)).setCell ⟨w.heap.size, 5, none⟩ (.string t.ex.top.rat)).setCell ⟨w.heap.size, 6, none⟩ (.string t.ex.top.name)).setCell ⟨w.heap.size, 7, none⟩ (.int .i64 t.ex.top.date)).setCell ⟨w.heap.size, 8, none⟩ (.slice A1 k1 c1))) rfl (by simp [go_sem, z4, y4, z5, y5, z6, y6, z7, y7, z8, y8]) ?_
      refine fxl_nil ?_
      simp only [Act.put]
      have bs4 : Blk (X1c.setCell ⟨w.heap.size, 4, none⟩ (.int .u8 t.ex.top.k)) w.heap.size 29 #[.int .u8 t.k, .string t.fr, .string t.tu, .string t.nm, .int .u8 t.ex.top.k, .string t.ex.top.rat, .string t.ex.top.name, .int .i64 t.ex.top.date, .slice Au ku cu, .int .i64 t.date, .slice Ad kd cd, .slice As l.length cs] := bxF.set 4 _
      have bs5 : Blk ((X1c.setCell ⟨w.heap.size, 4, none⟩ (.int .u8 t.ex.top.k)).setCell ⟨w.heap.size, 5, none⟩ (.string t.ex.top.rat)) w.heap.size 29 #[.int .u8 t.k, .string t.fr, .string t.tu, .string t.nm, .int .u8 t.ex.top.k, .string t.ex.top.rat, .string t.ex.top.name, .int .i64 t.ex.top.date, .slice Au ku cu, .int .i64 t.date, .slice Ad kd cd, .slice As l.length cs] := bs4.set 5 _
      have bs6 : Blk (((X1c.setCell ⟨w.heap.size, 4, none⟩ (.int .u8 t.ex.top.k)).setCell ⟨w.heap.size, 5, none⟩ (.string t.ex.top.rat)).setCell ⟨w.heap.size, 6, none⟩ (.string t.ex.top.name)) w.heap.size 29 #[.int .u8 t.k, .string t.fr, .string t.tu, .string t.nm, .int .u8 t.ex.top.k, .string t.ex.top.rat, .string t.ex.top.name, .int .i64 t.ex.top.date, .slice Au ku cu, .int .i64 t.date, .slice Ad kd cd, .slice As l.length cs] := bs5.set 6 _
      have bs7 : Blk ((((X1c.setCell ⟨w.heap.size, 4, none⟩ (.int .u8 t.ex.top.k)).setCell ⟨w.heap.size, 5, none⟩ (.string t.ex.top.rat)).setCell ⟨w.heap.size, 6, none⟩ (.string t.ex.top.name)).setCell ⟨w.heap.size, 7, none⟩ (.int .i64 t.ex.top.date)) w.heap.size 29 #[.int .u8 t.k, .string t.fr, .string t.tu, .string t.nm, .int .u8 t.ex.top.k, .string t.ex.top.rat, .string t.ex.top.name, .int .i64 t.ex.top.date, .slice Au ku cu, .int .i64 t.date, .slice Ad kd cd, .slice As l.length cs] := bs6.set 7 _
      have bs8 : Blk (((((X1c.setCell ⟨w.heap.size, 4, none⟩ (.int .u8 t.ex.top.k)).setCell ⟨w.heap.size, 5, none⟩ (.string t.ex.top.rat)).setCell ⟨w.heap.size, 6, none⟩ (.string t.ex.top.name)).setCell ⟨w.heap.size, 7, none⟩ (.int .i64 t.ex.top.date)).setCell ⟨w.heap.size, 8, none⟩ (.slice A1 k1 c1)) w.heap.size 29 #[.int .u8 t.k, .string t.fr, .string t.tu, .string t.nm, .int .u8 t.ex.top.k, .string t.ex.top.rat, .string t.ex.top.name, .int .i64 t.ex.top.date, .slice A1 k1 c1, .int .i64 t.date, .slice Ad kd cd, .slice As l.length cs] := bs7.set 8 _
      have gg := (((((grownBy_setAt X1c (w.heap.size) 4 (.int .u8 t.ex.top.k)).trans (grownBy_setAt (X1c.setCell ⟨w.heap.size, 4, none⟩ (.int .u8 t.ex.top.k)) (w.heap.size) 5 (.string t.ex.top.rat))).trans (grownBy_setAt ((X1c.setCell ⟨w.heap.size, 4, none⟩ (.int .u8 t.ex.top.k)).setCell ⟨w.heap.size, 5, none⟩ (.string t.ex.top.rat)) (w.heap.size) 6 (.string t.ex.top.name))).trans (grownBy_setAt (((X1c.setCell ⟨w.heap.size, 4, none⟩ (.int .u8 t.ex.top.k)).setCell ⟨w.heap.size, 5, none⟩ (.string t.ex.top.rat)).setCell ⟨w.heap.size, 6, none⟩ (.string t.ex.top.name)) (w.heap.size) 7 (.int .i64 t.ex.top.date))).trans (grownBy_setAt ((((X1c.setCell ⟨w.heap.size, 4, none⟩ (.int .u8 t.ex.top.k)).setCell ⟨w.heap.size, 5, none⟩ (.string t.ex.top.rat)).setCell ⟨w.heap.size, 6, none⟩ (.string t.ex.top.name)).setCell ⟨w.heap.size, 7, none⟩ (.int .i64 t.ex.top.date)) (w.heap.size) 8 (.slice A1 k1 c1)))
      have hbF := (((((hbF.setCell (p := ⟨w.heap.size, 4, none⟩) (Nat.le_refl _) (.int .u8 t.ex.top.k)).setCell (p := ⟨w.heap.size, 5, none⟩) (Nat.le_refl _) (.string t.ex.top.rat)).setCell (p := ⟨w.heap.size, 6, none⟩) (Nat.le_refl _) (.string t.ex.top.name)).setCell (p := ⟨w.heap.size, 7, none⟩) (Nat.le_refl _) (.int .i64 t.ex.top.date)).setCell (p := ⟨w.heap.size, 8, none⟩) (Nat.le_refl _) (.slice A1 k1 c1))
      clear z4 y4 z5 y5 z6 y6 z7 y7 z8 y8
      generalize (((((X1c.setCell ⟨w.heap.size, 4, none⟩ (.int .u8 t.ex.top.k)).setCell ⟨w.heap.size, 5, none⟩ (.string t.ex.top.rat)).setCell ⟨w.heap.size, 6, none⟩ (.string t.ex.top.name)).setCell ⟨w.heap.size, 7, none⟩ (.int .i64 t.ex.top.date)).setCell ⟨w.heap.size, 8, none⟩ (.slice A1 k1 c1)) = X1cs at *
      have bzF := bzF.kept gg (by intro e; injection e with e; omega)
      have hOF := OL.kept hOF gg (.inr (fun e => by have := (OL.lt_ hOF _ e).1; omega))
      have hDF := OL.kept hDF gg (.inr (fun e => by have := (OL.lt_ hDF _ e).1; omega))
      have hFF : ∀ W, Fr (w.heap.size + 2) X1cs.heap.size X1cs W → XV W (m + 1) t.ex (t.ex.top, .slice A1 k1 c1) := fun W hW => hFF W (fun j h1 h2 => (hW j h1 (Nat.lt_of_lt_of_le h2 gg.size)).trans (gg.block j h2 (fun e => by injection e with e; omega)))
      have hsF := Nat.le_trans hsF gg.size
      have bxF := bs8
      clear gg bs4 bs5 bs6 bs7 bs8
      refine fx_late (k := 8) (by decide) (by kernel_rfl) ?_
      simp only [opsAt, List.filterMap_cons, List.filterMap_nil, List.getElem?_toArray, List.getElem?_cons_succ, List.getElem?_cons_zero]
      refine fxl_value (u := .pointer (some ⟨w.heap.size, 10, none⟩)) (w' := X1cs) rfl (by simp [go_sem]) ?_
      refine fxl_nil ?_
      simp only [Act.put, List.setIfInBounds_toArray, List.set_cons_succ, List.set_cons_zero]
      refine fx_late (k := 9) (by decide) (by kernel_rfl) ?_
      simp only [opsAt, List.filterMap_cons, List.filterMap_nil, List.getElem?_toArray, List.getElem?_cons_succ, List.getElem?_cons_zero]
      have z10 := bxF.cell 10
      have y10 := bxF.frozen 10
      refine fxl_skip (w' := (X1cs.setCell ⟨w.heap.size, 10, none⟩ (.slice A2 k2 c2))) rfl (by simp [go_sem, z10, y10]) ?_
      refine fxl_nil ?_
      simp only [Act.put]
      have bs10 : Blk (X1cs.setCell ⟨w.heap.size, 10, none⟩ (.slice A2 k2 c2)) w.heap.size 29 #[.int .u8 t.k, .string t.fr, .string t.tu, .string t.nm, .int .u8 t.ex.top.k, .string t.ex.top.rat, .string t.ex.top.name, .int .i64 t.ex.top.date, .slice A1 k1 c1, .int .i64 t.date, .slice A2 k2 c2, .slice As l.length cs] := bxF.set 10 _
      have gg := (grownBy_setAt X1cs (w.heap.size) 10 (.slice A2 k2 c2))
      have hbF := (hbF.setCell (p := ⟨w.heap.size, 10, none⟩) (Nat.le_refl _) (.slice A2 k2 c2))
      clear z10 y10
      generalize (X1cs.setCell ⟨w.heap.size, 10, none⟩ (.slice A2 k2 c2)) = X1css at *
      have bzF := bzF.kept gg (by intro e; injection e with e; omega)
      have hOF := OL.kept hOF gg (.inr (fun e => by have := (OL.lt_ hOF _ e).1; omega))
      have hDF := OL.kept hDF gg (.inr (fun e => by have := (OL.lt_ hDF _ e).1; omega))
      have hFF : ∀ W, Fr (w.heap.size + 2) X1css.heap.size X1css W → XV W (m + 1) t.ex (t.ex.top, .slice A1 k1 c1) := fun W hW => hFF W (fun j h1 h2 => (hW j h1 (Nat.lt_of_lt_of_le h2 gg.size)).trans (gg.block j h2 (fun e => by injection e with e; omega)))
      have hsF := Nat.le_trans hsF gg.size
      have bxF := bs10
      clear gg bs10
      refine fx_end (by kernel_rfl) ?_
      go_step
      go_step
      go_meet
      exact ⟨A1, A2, k1, k2, c1, c2, r1, bxF, bzF, hbF, hsF, Lib.hid hOF, Lib.hid hDF, Lib.hid hFF⟩
    case rest =>
    obtain ⟨A1, A2, k1, k2, c1, c2, r1, bx5, bz5, hb5, hs5, HO5, HD5, HF5⟩ := hcut
    rename World => W5
    clear bxd bzd hbd hszd hdr bx bz hsz hb0
    have x11 := bx5.cell 11
    go_wp2_with fail
    clear x11
    go_loopw [3, 17] (fun lv iv wr => ∃ (k : Nat) (raws : List (CR m)), k ≤ l.length ∧ iv = .int .i64 k ∧ Hid (RowI 12 (CR.vs (m := m)) 29 (fun W r y => CV W n y r) W5.heap.size wr lv raws (l.take k)) ∧ Below W5.heap.size W5 wr) (fun _ iv _ => l.length - (intOf iv).toNat)
    case atStart => exact ⟨0, [], Nat.zero_le _, rfl, Lib.hid RowI.nil_, Below.refl _ _⟩
    case round =>
      obtain ⟨k, raws, hk, rfl, HR, hbr⟩ := hrel
      have hbw := hb5.trans (hbr.mono hb5.size)
      have hB := hbr.size
      by_cases hlt : k < l.length
      · have hz : l[k]? = some l[k] := List.getElem?_eq_getElem hlt
        obtain ⟨b, o, ax, ux, dx, sx, hA, hbl, q0, q1, q2, q3, q4, q5, q6, q7, q8, q9, q10, q11, hv⟩ := CS.cells (CS.below hbw HS.out) hz
        subst hA
        have HT : Hid (l.take (k + 1) = l.take k ++ [l[k]]) := Lib.hid (by rw [List.take_add_one, hz]; rfl)
        have hys := HSUB.out _ (List.mem_of_getElem? hz)
        clear hz
        generalize l[k] = y at *
        obtain ⟨Ax, kx, cx, rfl⟩ := hv.shape.1
        obtain ⟨Ay, ky, cy, rfl⟩ := hv.shape.2.1
        obtain ⟨Az, kz, cz, rfl⟩ := hv.shape.2.2
        have hi0 : (0 : Int) ≤ (k : Int) := by omega
        have hi1 : (k : Int) < (l.length : Int) := by omega
        have hba := (Below.refl _ wr).alloc (Nat.le_refl wr.heap.size) (.cells #[.int .u8 ax.k, .string ax.fr, .string ax.tu, .string ax.nm, .int .u8 ax.ex.top.k, .string ax.ex.top.rat, .string ax.ex.top.name, .int .i64 ax.ex.top.date, .slice Ax kx cx, .int .i64 ax.date, .slice Ay ky cy, .slice Az kz cz] 29)
        have HC := Lib.hid (HIH.out y ax _ _ _ _ (CV.below hba n hv) hys)
        have BY := Blk.new wr 29 #[.int .u8 ax.k, .string ax.fr, .string ax.tu, .string ax.nm, .int .u8 ax.ex.top.k, .string ax.ex.top.rat, .string ax.ex.top.name, .int .i64 ax.ex.top.date, .slice Ax kx cx, .int .i64 ax.date, .slice Ay ky cy, .slice Az kz cz]
        have z0 := BY.cell 0
        have z1 := BY.cell 1
        have z2 := BY.cell 2
        have z3 := BY.cell 3
        have z4 := BY.cell 4
        have z5 := BY.cell 5
        have z6 := BY.cell 6
        have z7 := BY.cell 7
        have z8 := BY.cell 8
        have z9 := BY.cell 9
        have z10 := BY.cell 10
        have z11 := BY.cell 11
        clear hv hys BY
        go_wp2_with fail
        refine HC.out.mono ?_
        rintro e W1 ⟨B1, B2, B3, m1, m2, m3, d1, d2, d3, s1, s3, rfl, hb1, _, hfr⟩
        have HFR := Lib.hid hfr
        have hb1' := hba.trans (hb1.mono hba.size)
        have HR1 := Lib.hid (HR.out.below hb1')
        have hle1 := hba.size
        have hle2 := hb1.size
        have HRL : Hid (raws.length ≤ 20000) := Lib.hid (by have := HR.out.len; rw [List.length_take] at this; have := HLN.out; omega)
        have HRW : Hid (∀ g, u3.ownBlock = some g → g < (wr.alloc (.cells #[.int .u8 ax.k, .string ax.fr, .string ax.tu, .string ax.nm, .int .u8 ax.ex.top.k, .string ax.ex.top.rat, .string ax.ex.top.name, .int .i64 ax.ex.top.date, .slice Ax kx cx, .int .i64 ax.date, .slice Ay ky cy, .slice Az kz cz] 29)).heap.size) := Lib.hid (fun g hg => Nat.lt_of_lt_of_le (HR.out.own.lt_ g hg).2 hle1)
        generalize (wr.alloc (.cells #[.int .u8 ax.k, .string ax.fr, .string ax.tu, .string ax.nm, .int .u8 ax.ex.top.k, .string ax.ex.top.rat, .string ax.ex.top.name, .int .i64 ax.ex.top.date, .slice Ax kx cx, .int .i64 ax.date, .slice Ay ky cy, .slice Az kz cz] 29)) = wa at *
        clear z0 z1 z2 z3 z4 z5 z6 z7 z8 z9 z10 z11 q0 q1 q2 q3 q4 q5 q6 q7 q8 q9 q10 q11 HC hba hb1 hfr
        go_wp2_with (at_builtin; go_loud (refine appAt ⟨ax, .slice B1 m1 d1, .slice B2 m2 d2, .slice B3 m3 d3⟩ (cvs_one _ _ _ _ _ _ _ _ _ _) (CR.vs_len _) rfl _ _ rfl infoCo (by omega) (by omega) Tryd.underlying27 W1 W5.heap.size u3 raws _ rfl rfl HR1.out.own rfl HRL.out (by omega) ?_; intro A7 m7 c7 W7 hm2 hO2 hb2 hg2 hat2; subst hm2; have HR2 := Lib.hid (RowI.app (y := y) HR1.out hO2 hg2 hat2 (show W5.heap.size ≤ wa.heap.size by omega) (Nat.le_refl _) HRW.out HFR.out); have hb3 := hbr.trans ((hb1'.mono hbr.size).trans (hb2.mono (by omega))); clear hO2 hg2 hat2))
        go_roundw
        case rel => exact ⟨k + 1, raws ++ [⟨ax, .slice B1 m1 d1, .slice B2 m2 d2, .slice B3 m3 d3⟩], by omega, by go_num, Lib.hid (by rw [HT.out]; exact HR2.out), hb3⟩
        case measure => simp [intOf]; omega
      · obtain rfl : k = l.length := by omega
        rw [List.take_length] at HR
        obtain ⟨A3, c3, rfl⟩ := OL.shape HR.out.own
        have bxr := bx5.below hbr
        have bzr := bz5.below hbr
        have k4 := bxr.cell 11
        have f4 := bxr.frozen 11
        have hne : w.heap.size + 1 ≠ w.heap.size := by omega
        have bx2 : Blk (wr.setCell ⟨w.heap.size, 11, none⟩ (.slice A3 raws.length c3)) w.heap.size 29 #[.int .u8 t.k, .string t.fr, .string t.tu, .string t.nm, .int .u8 t.ex.top.k, .string t.ex.top.rat, .string t.ex.top.name, .int .i64 t.ex.top.date, .slice A1 k1 c1, .int .i64 t.date, .slice A2 k2 c2, .slice A3 raws.length c3] := bxr.set 11 _
        have bz2 := bzr.oth hne (j := 11) (.slice A3 raws.length c3)
        have x0 := bx2.cell 0
        have y0 := bz2.cell 0
        have g0 := bz2.frozen 0
        have x1 := bx2.cell 1
        have y1 := bz2.cell 1
        have g1 := bz2.frozen 1
        have x2 := bx2.cell 2
        have y2 := bz2.cell 2
        have g2 := bz2.frozen 2
        have x3 := bx2.cell 3
        have y3 := bz2.cell 3
        have g3 := bz2.frozen 3
        have x4 := bx2.cell 4
        have y4 := bz2.cell 4
        have g4 := bz2.frozen 4
        have x5 := bx2.cell 5
        have y5 := bz2.cell 5
        have g5 := bz2.frozen 5
        have x6 := bx2.cell 6
        have y6 := bz2.cell 6
        have g6 := bz2.frozen 6
        have x7 := bx2.cell 7
        have y7 := bz2.cell 7
        have g7 := bz2.frozen 7
        have x8 := bx2.cell 8
        have y8 := bz2.cell 8
        have g8 := bz2.frozen 8
        have x9 := bx2.cell 9
        have y9 := bz2.cell 9
        have g9 := bz2.frozen 9
        have x10 := bx2.cell 10
        have y10 := bz2.cell 10
        have g10 := bz2.frozen 10
        have x11 := bx2.cell 11
        have y11 := bz2.cell 11
        have g11 := bz2.frozen 11
        go_wp2_with fail
        have bf := Blk.store12 bz2 (.int .u8 t.k) (.string t.fr) (.string t.tu) (.string t.nm) (.int .u8 t.ex.top.k) (.string t.ex.top.rat) (.string t.ex.top.name) (.int .i64 t.ex.top.date) (.slice A1 k1 c1) (.int .i64 t.date) (.slice A2 k2 c2) (.slice A3 raws.length c3)
        have hbf := Below.store12 (hbw.setCell (p := ⟨w.heap.size, 11, none⟩) (Nat.le_refl _) (.slice A3 raws.length c3)) (show w.heap.size ≤ w.heap.size + 1 by omega) (.int .u8 t.k) (.string t.fr) (.string t.tu) (.string t.nm) (.int .u8 t.ex.top.k) (.string t.ex.top.rat) (.string t.ex.top.name) (.int .i64 t.ex.top.date) (.slice A1 k1 c1) (.int .i64 t.date) (.slice A2 k2 c2) (.slice A3 raws.length c3)
        have gs1 := grownBy_setAt wr w.heap.size 11 (.slice A3 raws.length c3)
        have gs2 := grown_store12 (wr.setCell ⟨w.heap.size, 11, none⟩ (.slice A3 raws.length c3)) (w.heap.size + 1) (.int .u8 t.k) (.string t.fr) (.string t.tu) (.string t.nm) (.int .u8 t.ex.top.k) (.string t.ex.top.rat) (.string t.ex.top.name) (.int .i64 t.ex.top.date) (.slice A1 k1 c1) (.int .i64 t.date) (.slice A2 k2 c2) (.slice A3 raws.length c3)
        have HRF := Lib.hid ((HR.out.kept gs1 (by omega)).kept gs2 (by omega))
        clear k4 f4 bx2 bz2 x0 y0 g0 x1 y1 g1 x2 y2 g2 x3 y3 g3 x4 y4 g4 x5 y5 g5 x6 y6 g6 x7 y7 g7 x8 y8 g8 x9 y9 g9 x10 y10 g10 x11 y11 g11
        generalize (((((((((((((wr.setCell ⟨w.heap.size, 11, none⟩ (.slice A3 raws.length c3)).setCell ⟨w.heap.size + 1, 0, none⟩ (.int .u8 t.k)).setCell ⟨w.heap.size + 1, 1, none⟩ (.string t.fr)).setCell ⟨w.heap.size + 1, 2, none⟩ (.string t.tu)).setCell ⟨w.heap.size + 1, 3, none⟩ (.string t.nm)).setCell ⟨w.heap.size + 1, 4, none⟩ (.int .u8 t.ex.top.k)).setCell ⟨w.heap.size + 1, 5, none⟩ (.string t.ex.top.rat)).setCell ⟨w.heap.size + 1, 6, none⟩ (.string t.ex.top.name)).setCell ⟨w.heap.size + 1, 7, none⟩ (.int .i64 t.ex.top.date)).setCell ⟨w.heap.size + 1, 8, none⟩ (.slice A1 k1 c1)).setCell ⟨w.heap.size + 1, 9, none⟩ (.int .i64 t.date)).setCell ⟨w.heap.size + 1, 10, none⟩ (.slice A2 k2 c2)).setCell ⟨w.heap.size + 1, 11, none⟩ (.slice A3 raws.length c3)) = wf at *
        generalize wr.setCell ⟨w.heap.size, 11, none⟩ (.slice A3 raws.length c3) = wg at *
        have hat : ∀ j, w.heap.size + 2 ≤ j → j < W5.heap.size → wf.heap[j]? = W5.heap[j]? := fun j h1 h2 => (gs2.block j (by have := gs1.size; omega) (fun e => by injection e with e; omega)).trans ((gs1.block j (by omega) (fun e => by injection e with e; omega)).trans (hbr.block j h2))
        have hsf : W5.heap.size ≤ wf.heap.size := Nat.le_trans hB (Nat.le_trans gs1.size gs2.size)
        have x0 := bf.cell 0
        have x1 := bf.cell 1
        have x2 := bf.cell 2
        have x3 := bf.cell 3
        have x4 := bf.cell 4
        have x5 := bf.cell 5
        have x6 := bf.cell 6
        have x7 := bf.cell 7
        have x8 := bf.cell 8
        have x9 := bf.cell 9
        have x10 := bf.cell 10
        have x11 := bf.cell 11
        (try simp only [Exit.inBlock, Exit.then])
        refine bodyPost_ret (v := .agg #[.int .u8 t.k, .string t.fr, .string t.tu, .string t.nm, .int .u8 t.ex.top.k, .string t.ex.top.rat, .string t.ex.top.name, .int .i64 t.ex.top.date, .slice A1 k1 c1, .int .i64 t.date, .slice A2 k2 c2, .slice A3 raws.length c3]) (by simp [results, Tryd.results25, go_sem, x0, x1, x2, x3, x4, x5, x6, x7, x8, x9, x10, x11]) rfl ?_
        refine ⟨A1, A2, A3, k1, k2, raws.length, c1, c2, c3, r1, raws, rfl, hbf, ⟨OL.mono (OL.at_ HO5.out fun g hg => hat g (OL.lt_ HO5.out g hg).1 (OL.lt_ HO5.out g hg).2) (by omega), OL.mono (OL.at_ HD5.out fun g hg => hat g (OL.lt_ HD5.out g hg).1 (OL.lt_ HD5.out g hg).2) (by omega), OL.mono HRF.out.own (by omega)⟩, fun W hW => ?_⟩
        have hW5 : Fr (w.heap.size + 2) W5.heap.size W5 W := fun j h1 h2 => (hW j (by omega) (Nat.lt_of_lt_of_le h2 hsf)).trans (hat j h1 h2)
        refine HSH.out W _ _ _ (HF5.out W hW5) (OL.sl dE_len (OL.at_ HD5.out fun g hg => hW5 g (OL.lt_ HD5.out g hg).1 (OL.lt_ HD5.out g hg).2)) (HRF.out.dp CR.vs_len (fun j h1 h2 => hW j (by omega) h2))
end Go.Proofs.YtifafmomkpkgdaaDoor
/- Walks: Twin of an expression and of a contract, by the reference. -/

namespace Go.Proofs.YtifafmomkpkgdaaDoor
open Go.RowKit Go.Shelf
/-- The worlds that hold all blocks of X but that of the row. -/
theorem gr_refl (X : World) (row : Option Nat) : X.grownBy X row := ⟨rfl, rfl, rfl, Nat.le_refl _, fun _ _ _ => rfl⟩
def Gr (X : World) (row : Option Nat) : Type := {W : World // X.grownBy W row}
instance (X : World) (row : Option Nat) : Nonempty (Gr X row) := ⟨⟨X, gr_refl _ _⟩⟩
theorem gr_below {X W : World} (row : Option Nat) (h : Below X.heap.size X W) : X.grownBy W row := ⟨h.os, h.tape, h.output, h.size, fun k hk _ => h.block k hk⟩
theorem gr_cell {X : World} {row : Option Nat} (q : Gr X row) {b k : Nat} {v : Value} (h : X.cell? ⟨b, k, none⟩ = some v) (hb : b < X.heap.size) (hne : some b ≠ row) : q.1.cell? ⟨b, k, none⟩ = some v :=
  (World.cell?_of_block (a := ⟨b, k, none⟩) (q.2.block b hb hne)).trans h
theorem infoI : ∃ i z, Tryd.prog.info? 3 = some i ∧ i.zero = some z ∧ i.size = 1 ∧ i.bytes = 8 ∧ z.cells.size = 1 := by
  have h : ((Tryd.prog.info? 3).bind fun i => i.zero.map fun z => (i.size, i.bytes, z.cells.size)) = some (1, 8, 1) := by kernel_rfl
  rw [Option.bind_eq_some_iff] at h
  obtain ⟨i, hi, he⟩ := h
  rw [Option.map_eq_some_iff] at he
  obtain ⟨z, hz, he⟩ := he
  simp only [Prod.mk.injEq] at he
  exact ⟨i, z, hi, hz, he.1, he.2.1, he.2.2⟩
theorem dE_cell (y : Int) : ∀ u ∈ dE y, u.oneCell' = true := fun u hu => by
  rw [dE, List.mem_singleton] at hu
  subst hu
  rfl
set_option maxRecDepth 100000 in
set_option maxHeartbeats 2000000 in
theorem rxtwin_any : ∀ (n : Nat) (x : Z.Ex n) (a : Z.XN) (u : Value) (w : World), XV w n x (a, u) → Z.XSm n x → Calls Tryd.prog 58 #[.agg #[.int .u8 a.k, .string a.rat, .string a.name, .int .i64 a.date, u]] w fun e w' => ∃ (A : Option Addr) (k c : Nat) (raws : List (Z.XN × Value)), e = .returned (.agg #[.int .u8 a.k, .string a.rat, .string a.name, .int .i64 a.date, .slice A k c]) ∧ Below w.heap.size w w' ∧ OL 5 xvs 25 w' w.heap.size (.slice A k c) raws ∧ ∀ W, Fr w.heap.size w'.heap.size w' W → XV W n x (a, .slice A k c) := by
  intro n
  induction n with
  | zero => intro x; exact x.no
  | succ n ih =>
    intro x a u w hx hsm
    obtain ⟨rfl, hS⟩ := hx.open_
    have hkk := hx.kind
    obtain ⟨A, cp, rfl, hlc, hcm⟩ := hS.shape
    unfold maxLen at hcm
    have HSH : Hid (∀ W v, ES W n v x.sub → XV W (n + 1) x (x.top, v)) := Lib.hid (fun W v h => XV.shut hkk h)
    have HLN := Lib.hid hsm.len
    have HSUB := Lib.hid (fun y hy => Z.XSm.sub hsm (x := y) hy)
    have HS := Lib.hid hS
    clear hx hkk hsm hS
    generalize x.sub = l at *
    generalize x.top = t at *
    have HIH := Lib.hid ih
    clear ih
    go_enter Tryd.func58, Tryd.ntmps58
    have hb0 : Below w.heap.size w (((w.alloc (.cells #[.int .u8 t.k, .string t.rat, .string t.name, .int .i64 t.date, .slice A l.length cp] 25)).alloc (.cells #[.int .u8 0, .string ⟨#[]⟩, .string ⟨#[]⟩, .int .i64 0, .slice none 0 0] 25)).alloc (.cells #[.int .u8 t.k, .string t.rat, .string t.name, .int .i64 t.date, .slice none 0 0] 25)) := (((Below.refl _ w).alloc (Nat.le_refl _) _).alloc (by simp) _).alloc (by simp; omega) _
    have bx := ((Blk.new w 25 #[.int .u8 t.k, .string t.rat, .string t.name, .int .i64 t.date, .slice A l.length cp]).alloc (.cells #[.int .u8 0, .string ⟨#[]⟩, .string ⟨#[]⟩, .int .i64 0, .slice none 0 0] 25)).alloc (.cells #[.int .u8 t.k, .string t.rat, .string t.name, .int .i64 t.date, .slice none 0 0] 25)
    have bz : Blk (((w.alloc (.cells #[.int .u8 t.k, .string t.rat, .string t.name, .int .i64 t.date, .slice A l.length cp] 25)).alloc (.cells #[.int .u8 0, .string ⟨#[]⟩, .string ⟨#[]⟩, .int .i64 0, .slice none 0 0] 25)).alloc (.cells #[.int .u8 t.k, .string t.rat, .string t.name, .int .i64 t.date, .slice none 0 0] 25)) (w.heap.size + 1) 25 #[.int .u8 0, .string ⟨#[]⟩, .string ⟨#[]⟩, .int .i64 0, .slice none 0 0] := by
      have h := (Blk.new (w.alloc (.cells #[.int .u8 t.k, .string t.rat, .string t.name, .int .i64 t.date, .slice A l.length cp] 25)) 25 #[.int .u8 0, .string ⟨#[]⟩, .string ⟨#[]⟩, .int .i64 0, .slice none 0 0]).alloc (.cells #[.int .u8 t.k, .string t.rat, .string t.name, .int .i64 t.date, .slice none 0 0] 25)
      rwa [World.size_alloc] at h
    have bo : Blk (((w.alloc (.cells #[.int .u8 t.k, .string t.rat, .string t.name, .int .i64 t.date, .slice A l.length cp] 25)).alloc (.cells #[.int .u8 0, .string ⟨#[]⟩, .string ⟨#[]⟩, .int .i64 0, .slice none 0 0] 25)).alloc (.cells #[.int .u8 t.k, .string t.rat, .string t.name, .int .i64 t.date, .slice none 0 0] 25)) (w.heap.size + 2) 25 #[.int .u8 t.k, .string t.rat, .string t.name, .int .i64 t.date, .slice none 0 0] := by
      have h := Blk.new ((w.alloc (.cells #[.int .u8 t.k, .string t.rat, .string t.name, .int .i64 t.date, .slice A l.length cp] 25)).alloc (.cells #[.int .u8 0, .string ⟨#[]⟩, .string ⟨#[]⟩, .int .i64 0, .slice none 0 0] 25)) 25 #[.int .u8 t.k, .string t.rat, .string t.name, .int .i64 t.date, .slice none 0 0]
      rwa [World.size_alloc, World.size_alloc] at h
    have hsz : (((w.alloc (.cells #[.int .u8 t.k, .string t.rat, .string t.name, .int .i64 t.date, .slice A l.length cp] 25)).alloc (.cells #[.int .u8 0, .string ⟨#[]⟩, .string ⟨#[]⟩, .int .i64 0, .slice none 0 0] 25)).alloc (.cells #[.int .u8 t.k, .string t.rat, .string t.name, .int .i64 t.date, .slice none 0 0] 25)).heap.size = w.heap.size + 3 := by simp
    have c0 := ((Blk.new w 25 #[.int .u8 t.k, .string t.rat, .string t.name, .int .i64 t.date, .slice A l.length cp]).alloc (.cells #[.int .u8 0, .string ⟨#[]⟩, .string ⟨#[]⟩, .int .i64 0, .slice none 0 0] 25)).cell 0
    have c1 := ((Blk.new w 25 #[.int .u8 t.k, .string t.rat, .string t.name, .int .i64 t.date, .slice A l.length cp]).alloc (.cells #[.int .u8 0, .string ⟨#[]⟩, .string ⟨#[]⟩, .int .i64 0, .slice none 0 0] 25)).cell 1
    have c2 := ((Blk.new w 25 #[.int .u8 t.k, .string t.rat, .string t.name, .int .i64 t.date, .slice A l.length cp]).alloc (.cells #[.int .u8 0, .string ⟨#[]⟩, .string ⟨#[]⟩, .int .i64 0, .slice none 0 0] 25)).cell 2
    have c3 := ((Blk.new w 25 #[.int .u8 t.k, .string t.rat, .string t.name, .int .i64 t.date, .slice A l.length cp]).alloc (.cells #[.int .u8 0, .string ⟨#[]⟩, .string ⟨#[]⟩, .int .i64 0, .slice none 0 0] 25)).cell 3
    have c4 := ((Blk.new w 25 #[.int .u8 t.k, .string t.rat, .string t.name, .int .i64 t.date, .slice A l.length cp]).alloc (.cells #[.int .u8 0, .string ⟨#[]⟩, .string ⟨#[]⟩, .int .i64 0, .slice none 0 0] 25)).cell 4
    go_wp2_with fail
    generalize (((w.alloc (.cells #[.int .u8 t.k, .string t.rat, .string t.name, .int .i64 t.date, .slice A l.length cp] 25)).alloc (.cells #[.int .u8 0, .string ⟨#[]⟩, .string ⟨#[]⟩, .int .i64 0, .slice none 0 0] 25)).alloc (.cells #[.int .u8 t.k, .string t.rat, .string t.name, .int .i64 t.date, .slice none 0 0] 25)) = W0 at *
    clear c0 c1 c2 c3 c4
    go_loopw [4] (fun iv wr => ∃ (k : Nat) (raws : List (Z.XN × Value)) (A3 : Option Addr) (c3 : Nat), k ≤ l.length ∧ iv = .int .i64 k ∧ Blk wr w.heap.size 25 #[.int .u8 t.k, .string t.rat, .string t.name, .int .i64 t.date, .slice A l.length cp] ∧ Blk wr (w.heap.size + 1) 25 #[.int .u8 0, .string ⟨#[]⟩, .string ⟨#[]⟩, .int .i64 0, .slice none 0 0] ∧ Blk wr (w.heap.size + 2) 25 #[.int .u8 t.k, .string t.rat, .string t.name, .int .i64 t.date, .slice A3 raws.length c3] ∧ Hid (RowI 5 xvs 25 (fun W r y => XV W n y r) (w.heap.size + 3) wr (.slice A3 raws.length c3) raws (l.take k)) ∧ Below w.heap.size w wr ∧ w.heap.size + 3 ≤ wr.heap.size) (fun iv _ => l.length - (intOf iv).toNat)
    case atStart => exact ⟨0, [], none, 0, Nat.zero_le _, rfl, bx, bz, bo, Lib.hid RowI.nil_, hb0, by omega⟩
    case round =>
      clear bx bz bo hb0
      obtain ⟨k, raws, A3, c3, hk, rfl, bx, bz, bo, HR, hbw, hB⟩ := hrel
      have s4 := bx.cell 4
      by_cases hlt : k < l.length
      · have hz : l[k]? = some l[k] := List.getElem?_eq_getElem hlt
        obtain ⟨b, o, ax, ux, hA, hbl, q0, q1, q2, q3, q4, hv⟩ := ES.cells HS.out hz
        subst hA
        have HT : Hid (l.take (k + 1) = l.take k ++ [l[k]]) := Lib.hid (by rw [List.take_add_one, hz]; rfl)
        have HYS := Lib.hid (HSUB.out _ (List.mem_of_getElem? hz))
        clear hz
        generalize l[k] = y at *
        obtain ⟨Ax, kx, cx, rfl⟩ := hv.shape
        have hi0 : (0 : Int) ≤ (k : Int) := by omega
        have hi1 : (k : Int) < (l.length : Int) := by omega
        have HRL : Hid (raws.length ≤ 20000) := Lib.hid (by have := HR.out.len; rw [List.length_take] at this; have := HLN.out; omega)
        go_upto_region 5 with fail
        have hdr := (Below.refl wr.heap.size wr).drew
        have bxd := bx.below hdr
        have bzd := bz.below hdr
        have bod := bo.below hdr
        have hbd := hbw.trans (hdr.mono hbw.size)
        have HRD := Lib.hid (HR.out.below hdr)
        have hBd : w.heap.size + 3 ≤ wr.drew.heap.size := Nat.le_trans hB hdr.size
        have HC := Lib.hid (HIH.out y ax _ wr.drew (XV.below hbd n hv) HYS.out)
        have HW : Hid (∀ g, (Value.slice A3 raws.length c3).ownBlock = some g → w.heap.size + 3 ≤ g ∧ g < wr.drew.heap.size) := Lib.hid (fun g hg => HRD.out.own.lt_ g hg)
        refine wp_region_fx 10 (fun w' => ∃ y : Gr wr.drew (Value.slice A3 raws.length c3).ownBlock, w' = y.1) (by kernel_rfl) ?_
        show fxAny _ _ _ _ 10 _ 12 _ _ _
        clear s4 bx bz bo hbw HR hdr hB hv
        generalize wr.drew = X0 at *
        generalize hrow : (Value.slice A3 raws.length c3).ownBlock = row at *
        have n0 : some w.heap.size ≠ row := fun e => by have := (HW.out _ e.symm).1; omega
        have n1 : some (w.heap.size + 1) ≠ row := fun e => by have := (HW.out _ e.symm).1; omega
        have n2 : some (w.heap.size + 2) ≠ row := fun e => by have := (HW.out _ e.symm).1; omega
        have nb : some b ≠ row := fun e => by have := (HW.out _ e.symm).1; omega
        have p4 : ∀ q : Gr X0 row, q.1.cell? ⟨w.heap.size, 4, none⟩ = some (.slice (some ⟨b, o, none⟩) l.length cp) := fun q => gr_cell q (bxd.cell 4) bxd.lt n0
        have r4 : ∀ q : Gr X0 row, q.1.cell? ⟨w.heap.size + 2, 4, none⟩ = some (.slice A3 raws.length c3) := fun q => gr_cell q (bod.cell 4) bod.lt n2
        have e0 : ∀ q : Gr X0 row, q.1.cell? ⟨b, o + k * 5, none⟩ = some (.int .u8 ax.k) := fun q => gr_cell q ((hbd.cell (p := ⟨b, o + k * 5, none⟩) hbl).trans q0) (Nat.lt_of_lt_of_le hbl hbd.size) nb
        have e1 : ∀ q : Gr X0 row, q.1.cell? ⟨b, o + k * 5 + 1, none⟩ = some (.string ax.rat) := fun q => gr_cell q ((hbd.cell (p := ⟨b, o + k * 5 + 1, none⟩) hbl).trans q1) (Nat.lt_of_lt_of_le hbl hbd.size) nb
        have e2 : ∀ q : Gr X0 row, q.1.cell? ⟨b, o + k * 5 + 2, none⟩ = some (.string ax.name) := fun q => gr_cell q ((hbd.cell (p := ⟨b, o + k * 5 + 2, none⟩) hbl).trans q2) (Nat.lt_of_lt_of_le hbl hbd.size) nb
        have e3 : ∀ q : Gr X0 row, q.1.cell? ⟨b, o + k * 5 + 3, none⟩ = some (.int .i64 ax.date) := fun q => gr_cell q ((hbd.cell (p := ⟨b, o + k * 5 + 3, none⟩) hbl).trans q3) (Nat.lt_of_lt_of_le hbl hbd.size) nb
        have e4 : ∀ q : Gr X0 row, q.1.cell? ⟨b, o + k * 5 + 4, none⟩ = some (.slice Ax kx cx) := fun q => gr_cell q ((hbd.cell (p := ⟨b, o + k * 5 + 4, none⟩) hbl).trans q4) (Nat.lt_of_lt_of_le hbl hbd.size) nb
        clear q0 q1 q2 q3 q4
        refine fx_reads (n := 5) [0, 1, 2, 3, 4, 5, 6] rfl (by kernel_rfl) ⟨⟨X0, gr_refl _ _⟩, rfl⟩ ?_
        simp only [opsAt, List.filterMap_cons, List.filterMap_nil, List.getElem?_toArray, List.getElem?_cons_succ, List.getElem?_cons_zero]
        show wpQuiet _ _ _ _ [_, _, _, _, _, _, _] _
        repeat (go_big_quiet_step (fail))
        refine wpQuiet_nil ?_
        clear p4 r4 e0 e1 e2 e3 e4
        refine fx_one (k := 7) (by kernel_rfl) ?_
        simp only [opsAt, List.filterMap_cons, List.filterMap_nil, List.getElem?_toArray, List.getElem?_cons_succ, List.getElem?_cons_zero]
        refine fxp_enter (f := 58) (args := #[.agg #[.int .u8 ax.k, .string ax.rat, .string ax.name, .int .i64 ax.date, .slice Ax kx cx]]) (w' := X0) rfl (by simp [go_sem]) ?_
        refine HC.out.mono ?_
        rintro e X1 ⟨B1, m1, d1, raws1, rfl, kb, _, hfr⟩
        refine ⟨_, rfl, ⟨⟨X1, gr_below _ kb⟩, rfl⟩, ?_⟩
        refine fxp_nil ?_
        simp only [Act.put, List.setIfInBounds_toArray, List.set_cons_succ, List.set_cons_zero]
        have bx1 := bxd.below kb
        have bz1 := bzd.below kb
        have bo1 := bod.below kb
        have hb1 := hbd.trans (kb.mono hbd.size)
        have HR1 := Lib.hid (HRD.out.below kb)
        have hle := kb.size
        refine fx_one (k := 8) (by kernel_rfl) ?_
        simp only [opsAt, List.filterMap_cons, List.filterMap_nil, List.getElem?_toArray, List.getElem?_cons_succ, List.getElem?_cons_zero]
        refine fxp_value (u := .slice (some ⟨X1.heap.size, 0, none⟩) 1 1) (w' := X1.alloc (.cells #[.int .u8 ax.k, .string ax.rat, .string ax.name, .int .i64 ax.date, .slice B1 m1 d1] 25)) rfl (by simp [go_sem]) ⟨⟨_, gr_below _ (kb.trans ((Below.refl _ X1).alloc hle _))⟩, rfl⟩ ?_
        refine fxp_nil ?_
        simp only [Act.put, List.setIfInBounds_toArray, List.set_cons_succ, List.set_cons_zero]
        refine fx_one (k := 9) (by kernel_rfl) ?_
        simp only [opsAt, List.filterMap_cons, List.filterMap_nil, List.getElem?_toArray, List.getElem?_cons_succ, List.getElem?_cons_zero]
        refine fxp_appAt (ax, .slice B1 m1 d1) (xvs_one _ _ _ _) (xvs_len _) rfl _ _ rfl infoX (by omega) (by omega) Tryd.underlying23 X1 (w.heap.size + 3) (.slice A3 raws.length c3) raws _ rfl rfl HR1.out.own rfl HRL.out (by omega) ?_
        intro A9 m2 c9 X2 hm2 hO2 hb2 hg2 hat2
        subst hm2
        have HR2 := Lib.hid (RowI.app (y := y) HR1.out hO2 hg2 hat2 hBd (Nat.le_refl _) (fun g hg => (HW.out g (hrow ▸ hg)).2) (fun W hW => hfr W hW))
        rw [hrow] at hg2
        refine ⟨⟨⟨X2, ?_⟩, rfl⟩, ?_⟩
        · exact (gr_below row kb).trans hg2
        refine fxp_nil ?_
        simp only [Act.put, List.setIfInBounds_toArray, List.set_cons_succ, List.set_cons_zero]
        have bx2 := bx1.kept hg2 n0
        have bz2 := bz1.kept hg2 n1
        have bo2 := bo1.kept hg2 n2
        have hb3 := hb1.trans (hb2.mono (show w.heap.size ≤ w.heap.size + 3 by omega))
        have k4 := bo2.cell 4
        have f4 := bo2.frozen 4
        refine fx_late (k := 10) (by decide) (by kernel_rfl) ?_
        simp only [opsAt, List.filterMap_cons, List.filterMap_nil, List.getElem?_toArray, List.getElem?_cons_succ, List.getElem?_cons_zero]
        refine fxl_value (u := .pointer (some ⟨w.heap.size + 2, 4, none⟩)) (w' := X2) rfl (by simp [go_sem]) ?_
        refine fxl_nil ?_
        simp only [Act.put, List.setIfInBounds_toArray, List.set_cons_succ, List.set_cons_zero]
        refine fx_late (k := 11) (by decide) (by kernel_rfl) ?_
        simp only [opsAt, List.filterMap_cons, List.filterMap_nil, List.getElem?_toArray, List.getElem?_cons_succ, List.getElem?_cons_zero]
        refine fxl_skip (w' := X2.setCell ⟨w.heap.size + 2, 4, none⟩ (.slice A9 (raws.length + 1) c9)) rfl (by simp [go_sem, k4, f4]) ?_
        refine fxl_nil ?_
        simp only [Act.put]
        have bo3 : Blk (X2.setCell ⟨w.heap.size + 2, 4, none⟩ (.slice A9 (raws.length + 1) c9)) (w.heap.size + 2) 25 #[.int .u8 t.k, .string t.rat, .string t.name, .int .i64 t.date, .slice A9 (raws.length + 1) c9] := bo2.set 4 _
        have bx3 := bx2.oth (show w.heap.size ≠ w.heap.size + 2 by omega) (j := 4) (.slice A9 (raws.length + 1) c9)
        have bz3 := bz2.oth (show w.heap.size + 1 ≠ w.heap.size + 2 by omega) (j := 4) (.slice A9 (raws.length + 1) c9)
        have hb4 := hb3.setCell (p := ⟨w.heap.size + 2, 4, none⟩) (by show w.heap.size ≤ w.heap.size + 2; omega) (.slice A9 (raws.length + 1) c9)
        have gs := grownBy_setAt X2 (w.heap.size + 2) 4 (.slice A9 (raws.length + 1) c9)
        have HR3 := Lib.hid (HR2.out.kept gs (by omega))
        have hB3 : w.heap.size + 3 ≤ (X2.setCell ⟨w.heap.size + 2, 4, none⟩ (.slice A9 (raws.length + 1) c9)).heap.size := by have := gs.size; have := hb2.size; omega
        clear gs k4 f4 bx2 bz2 bo2 hb3 hg2 hat2 hO2 hb2
        generalize X2.setCell ⟨w.heap.size + 2, 4, none⟩ (.slice A9 (raws.length + 1) c9) = X3 at *
        refine fx_end (by kernel_rfl) ?_
        clear HRD HR1 bx1 bz1 bo1 hb1 HR2 bxd bzd bod hbd hBd HW HC hrow n0 n1 n2 nb hle kb hfr
        go_wp2_with fail
        go_roundw
        case rel => exact ⟨k + 1, raws ++ [(ax, .slice B1 m1 d1)], A9, c9, by omega, by go_num, bx3, bz3, by rw [List.length_append]; exact bo3, Lib.hid (by rw [HT.out, List.length_append]; exact HR3.out), hb4, hB3⟩
        case measure => simp [intOf]; omega
      · obtain rfl : k = l.length := by omega
        rw [List.take_length] at HR
        have x0 := bo.cell 0
        have y0 := bz.cell 0
        have g0 := bz.frozen 0
        have x1 := bo.cell 1
        have y1 := bz.cell 1
        have g1 := bz.frozen 1
        have x2 := bo.cell 2
        have y2 := bz.cell 2
        have g2 := bz.frozen 2
        have x3 := bo.cell 3
        have y3 := bz.cell 3
        have g3 := bz.frozen 3
        have x4 := bo.cell 4
        have y4 := bz.cell 4
        have g4 := bz.frozen 4
        go_wp2_with fail
        have bf := Blk.store5 bz (.int .u8 t.k) (.string t.rat) (.string t.name) (.int .i64 t.date) (.slice A3 raws.length c3)
        have hbf := Below.store5 hbw (show w.heap.size ≤ w.heap.size + 1 by omega) (.int .u8 t.k) (.string t.rat) (.string t.name) (.int .i64 t.date) (.slice A3 raws.length c3)
        have gs := grown_store5 wr (w.heap.size + 1) (.int .u8 t.k) (.string t.rat) (.string t.name) (.int .i64 t.date) (.slice A3 raws.length c3)
        have HRF := Lib.hid (HR.out.kept gs (by omega))
        clear x0 y0 g0 x1 y1 g1 x2 y2 g2 x3 y3 g3 x4 y4 g4
        generalize (((((wr.setCell ⟨w.heap.size + 1, 0, none⟩ (.int .u8 t.k)).setCell ⟨w.heap.size + 1, 1, none⟩ (.string t.rat)).setCell ⟨w.heap.size + 1, 2, none⟩ (.string t.name)).setCell ⟨w.heap.size + 1, 3, none⟩ (.int .i64 t.date)).setCell ⟨w.heap.size + 1, 4, none⟩ (.slice A3 raws.length c3)) = wf at *
        have x0 := bf.cell 0
        have x1 := bf.cell 1
        have x2 := bf.cell 2
        have x3 := bf.cell 3
        have x4 := bf.cell 4
        (try simp only [Exit.inBlock, Exit.then])
        refine bodyPost_ret (v := .agg #[.int .u8 t.k, .string t.rat, .string t.name, .int .i64 t.date, .slice A3 raws.length c3]) (by simp [results, Tryd.results58, go_sem, x0, x1, x2, x3, x4]) rfl ?_
        exact ⟨A3, raws.length, c3, raws, rfl, hbf, OL.mono HRF.out.own (by omega), fun W hW => HSH.out W _ (HRF.out.dp xvs_len (fun j h1 h2 => hW j (by omega) h2))⟩
set_option maxRecDepth 100000 in
set_option maxHeartbeats 4000000 in
theorem rctwin_step {m : Nat} (n : Nat) (ih : ∀ (c : Z.Co m n) (a : Z.CN m) (u dv sv : Value) (w : World), CV w n c ⟨a, u, dv, sv⟩ → Z.CSm n c → Calls Tryd.prog 26 #[.agg #[.int .u8 a.k, .string a.fr, .string a.tu, .string a.nm, .int .u8 a.ex.top.k, .string a.ex.top.rat, .string a.ex.top.name, .int .i64 a.ex.top.date, u, .int .i64 a.date, dv, sv]] w fun e w' => ∃ (A1 A2 A3 : Option Addr) (k1 k2 k3 c1 c2 c3 : Nat) (r3 : List (CR m)), e = .returned (.agg #[.int .u8 a.k, .string a.fr, .string a.tu, .string a.nm, .int .u8 a.ex.top.k, .string a.ex.top.rat, .string a.ex.top.name, .int .i64 a.ex.top.date, .slice A1 k1 c1, .int .i64 a.date, .slice A2 k2 c2, .slice A3 k3 c3]) ∧ Below w.heap.size w w' ∧ OL 12 (CR.vs (m := m)) 29 w' w.heap.size (.slice A3 k3 c3) r3 ∧ ∀ W, Fr w.heap.size w'.heap.size w' W → CV W n c ⟨a, .slice A1 k1 c1, .slice A2 k2 c2, .slice A3 k3 c3⟩) : ∀ (c : Z.Co m (n + 1)) (a : Z.CN m) (u dv sv : Value) (w : World), CV w (n + 1) c ⟨a, u, dv, sv⟩ → Z.CSm (n + 1) c → Calls Tryd.prog 26 #[.agg #[.int .u8 a.k, .string a.fr, .string a.tu, .string a.nm, .int .u8 a.ex.top.k, .string a.ex.top.rat, .string a.ex.top.name, .int .i64 a.ex.top.date, u, .int .i64 a.date, dv, sv]] w fun e w' => ∃ (A1 A2 A3 : Option Addr) (k1 k3 c1 c2 c3 N1 N2 : Nat) (r3 : List (CR m)), e = .returned (.agg #[.int .u8 a.k, .string a.fr, .string a.tu, .string a.nm, .int .u8 a.ex.top.k, .string a.ex.top.rat, .string a.ex.top.name, .int .i64 a.ex.top.date, .slice A1 k1 c1, .int .i64 a.date, .slice A2 a.dates.length c2, .slice A3 k3 c3]) ∧ Below w.heap.size w w' ∧ w.heap.size ≤ N1 ∧ N1 ≤ N2 ∧ N2 ≤ w'.heap.size ∧ (∀ W, Fr w.heap.size N1 w' W → XV W (m + 1) a.ex (a.ex.top, .slice A1 k1 c1)) ∧ OL 1 dE 3 w' N1 (.slice A2 a.dates.length c2) a.dates ∧ (∀ g, (Value.slice A2 a.dates.length c2).ownBlock = some g → g < N2) ∧ RowI 12 (CR.vs (m := m)) 29 (fun W r y => CV W n y r) N2 w' (.slice A3 k3 c3) r3 c.sub := by
    intro c a u dv sv w hc hsm
    obtain ⟨rfl, hX, hD, hS⟩ := hc.open_
    have hkk := hc.kind
    obtain ⟨Au, ku, cu, rfl⟩ := hX.shape
    obtain ⟨Ad, cd, rfl, _⟩ := hD.shape
    obtain ⟨A, cp, rfl, hlc, hcm⟩ := Dp.shape hS
    unfold maxLen at hcm
    have HSH : Hid (∀ W u dv sv, XV W (m + 1) c.top.ex (c.top.ex.top, u) → SD W dv c.top.dates → CS W n sv c.sub → CV W (n + 1) c ⟨c.top, u, dv, sv⟩) := Lib.hid (fun W u dv sv h1 h2 h3 => CV.shut hkk h1 h2 h3)
    have HLN := Lib.hid hsm.len
    have HSUB := Lib.hid (fun y hy => Z.CSm.sub hsm y hy)
    have HTOP := Lib.hid hsm.top
    have HS := Lib.hid hS
    have HX := Lib.hid hX
    have HD := Lib.hid hD
    clear hc hkk hsm hS hX hD
    generalize c.sub = l at *
    generalize c.top = t at *
    have HIH := Lib.hid ih
    clear ih
    go_enter Tryd.func26, Tryd.ntmps26
    have hb0 : Below w.heap.size w (((w.alloc (.cells #[.int .u8 t.k, .string t.fr, .string t.tu, .string t.nm, .int .u8 t.ex.top.k, .string t.ex.top.rat, .string t.ex.top.name, .int .i64 t.ex.top.date, .slice Au ku cu, .int .i64 t.date, .slice Ad t.dates.length cd, .slice A l.length cp] 29)).alloc (.cells #[.int .u8 0, .string ⟨#[]⟩, .string ⟨#[]⟩, .string ⟨#[]⟩, .int .u8 0, .string ⟨#[]⟩, .string ⟨#[]⟩, .int .i64 0, .slice none 0 0, .int .i64 0, .slice none 0 0, .slice none 0 0] 29)).alloc (.cells #[.int .u8 t.k, .string t.fr, .string t.tu, .string t.nm, .int .u8 0, .string ⟨#[]⟩, .string ⟨#[]⟩, .int .i64 0, .slice none 0 0, .int .i64 t.date, .slice none 0 0, .slice none 0 0] 29)) := (((Below.refl _ w).alloc (Nat.le_refl _) _).alloc (by simp) _).alloc (by simp; omega) _
    have bx := ((Blk.new w 29 #[.int .u8 t.k, .string t.fr, .string t.tu, .string t.nm, .int .u8 t.ex.top.k, .string t.ex.top.rat, .string t.ex.top.name, .int .i64 t.ex.top.date, .slice Au ku cu, .int .i64 t.date, .slice Ad t.dates.length cd, .slice A l.length cp]).alloc (.cells #[.int .u8 0, .string ⟨#[]⟩, .string ⟨#[]⟩, .string ⟨#[]⟩, .int .u8 0, .string ⟨#[]⟩, .string ⟨#[]⟩, .int .i64 0, .slice none 0 0, .int .i64 0, .slice none 0 0, .slice none 0 0] 29)).alloc (.cells #[.int .u8 t.k, .string t.fr, .string t.tu, .string t.nm, .int .u8 0, .string ⟨#[]⟩, .string ⟨#[]⟩, .int .i64 0, .slice none 0 0, .int .i64 t.date, .slice none 0 0, .slice none 0 0] 29)
    have bz : Blk (((w.alloc (.cells #[.int .u8 t.k, .string t.fr, .string t.tu, .string t.nm, .int .u8 t.ex.top.k, .string t.ex.top.rat, .string t.ex.top.name, .int .i64 t.ex.top.date, .slice Au ku cu, .int .i64 t.date, .slice Ad t.dates.length cd, .slice A l.length cp] 29)).alloc (.cells #[.int .u8 0, .string ⟨#[]⟩, .string ⟨#[]⟩, .string ⟨#[]⟩, .int .u8 0, .string ⟨#[]⟩, .string ⟨#[]⟩, .int .i64 0, .slice none 0 0, .int .i64 0, .slice none 0 0, .slice none 0 0] 29)).alloc (.cells #[.int .u8 t.k, .string t.fr, .string t.tu, .string t.nm, .int .u8 0, .string ⟨#[]⟩, .string ⟨#[]⟩, .int .i64 0, .slice none 0 0, .int .i64 t.date, .slice none 0 0, .slice none 0 0] 29)) (w.heap.size + 1) 29 #[.int .u8 0, .string ⟨#[]⟩, .string ⟨#[]⟩, .string ⟨#[]⟩, .int .u8 0, .string ⟨#[]⟩, .string ⟨#[]⟩, .int .i64 0, .slice none 0 0, .int .i64 0, .slice none 0 0, .slice none 0 0] := by
      have h := (Blk.new (w.alloc (.cells #[.int .u8 t.k, .string t.fr, .string t.tu, .string t.nm, .int .u8 t.ex.top.k, .string t.ex.top.rat, .string t.ex.top.name, .int .i64 t.ex.top.date, .slice Au ku cu, .int .i64 t.date, .slice Ad t.dates.length cd, .slice A l.length cp] 29)) 29 #[.int .u8 0, .string ⟨#[]⟩, .string ⟨#[]⟩, .string ⟨#[]⟩, .int .u8 0, .string ⟨#[]⟩, .string ⟨#[]⟩, .int .i64 0, .slice none 0 0, .int .i64 0, .slice none 0 0, .slice none 0 0]).alloc (.cells #[.int .u8 t.k, .string t.fr, .string t.tu, .string t.nm, .int .u8 0, .string ⟨#[]⟩, .string ⟨#[]⟩, .int .i64 0, .slice none 0 0, .int .i64 t.date, .slice none 0 0, .slice none 0 0] 29)
      rwa [World.size_alloc] at h
    have bo : Blk (((w.alloc (.cells #[.int .u8 t.k, .string t.fr, .string t.tu, .string t.nm, .int .u8 t.ex.top.k, .string t.ex.top.rat, .string t.ex.top.name, .int .i64 t.ex.top.date, .slice Au ku cu, .int .i64 t.date, .slice Ad t.dates.length cd, .slice A l.length cp] 29)).alloc (.cells #[.int .u8 0, .string ⟨#[]⟩, .string ⟨#[]⟩, .string ⟨#[]⟩, .int .u8 0, .string ⟨#[]⟩, .string ⟨#[]⟩, .int .i64 0, .slice none 0 0, .int .i64 0, .slice none 0 0, .slice none 0 0] 29)).alloc (.cells #[.int .u8 t.k, .string t.fr, .string t.tu, .string t.nm, .int .u8 0, .string ⟨#[]⟩, .string ⟨#[]⟩, .int .i64 0, .slice none 0 0, .int .i64 t.date, .slice none 0 0, .slice none 0 0] 29)) (w.heap.size + 2) 29 #[.int .u8 t.k, .string t.fr, .string t.tu, .string t.nm, .int .u8 0, .string ⟨#[]⟩, .string ⟨#[]⟩, .int .i64 0, .slice none 0 0, .int .i64 t.date, .slice none 0 0, .slice none 0 0] := by
      have h := Blk.new ((w.alloc (.cells #[.int .u8 t.k, .string t.fr, .string t.tu, .string t.nm, .int .u8 t.ex.top.k, .string t.ex.top.rat, .string t.ex.top.name, .int .i64 t.ex.top.date, .slice Au ku cu, .int .i64 t.date, .slice Ad t.dates.length cd, .slice A l.length cp] 29)).alloc (.cells #[.int .u8 0, .string ⟨#[]⟩, .string ⟨#[]⟩, .string ⟨#[]⟩, .int .u8 0, .string ⟨#[]⟩, .string ⟨#[]⟩, .int .i64 0, .slice none 0 0, .int .i64 0, .slice none 0 0, .slice none 0 0] 29)) 29 #[.int .u8 t.k, .string t.fr, .string t.tu, .string t.nm, .int .u8 0, .string ⟨#[]⟩, .string ⟨#[]⟩, .int .i64 0, .slice none 0 0, .int .i64 t.date, .slice none 0 0, .slice none 0 0]
      rwa [World.size_alloc, World.size_alloc] at h
    have hsz : (((w.alloc (.cells #[.int .u8 t.k, .string t.fr, .string t.tu, .string t.nm, .int .u8 t.ex.top.k, .string t.ex.top.rat, .string t.ex.top.name, .int .i64 t.ex.top.date, .slice Au ku cu, .int .i64 t.date, .slice Ad t.dates.length cd, .slice A l.length cp] 29)).alloc (.cells #[.int .u8 0, .string ⟨#[]⟩, .string ⟨#[]⟩, .string ⟨#[]⟩, .int .u8 0, .string ⟨#[]⟩, .string ⟨#[]⟩, .int .i64 0, .slice none 0 0, .int .i64 0, .slice none 0 0, .slice none 0 0] 29)).alloc (.cells #[.int .u8 t.k, .string t.fr, .string t.tu, .string t.nm, .int .u8 0, .string ⟨#[]⟩, .string ⟨#[]⟩, .int .i64 0, .slice none 0 0, .int .i64 t.date, .slice none 0 0, .slice none 0 0] 29)).heap.size = w.heap.size + 3 := by simp
    have c0 := ((Blk.new w 29 #[.int .u8 t.k, .string t.fr, .string t.tu, .string t.nm, .int .u8 t.ex.top.k, .string t.ex.top.rat, .string t.ex.top.name, .int .i64 t.ex.top.date, .slice Au ku cu, .int .i64 t.date, .slice Ad t.dates.length cd, .slice A l.length cp]).alloc (.cells #[.int .u8 0, .string ⟨#[]⟩, .string ⟨#[]⟩, .string ⟨#[]⟩, .int .u8 0, .string ⟨#[]⟩, .string ⟨#[]⟩, .int .i64 0, .slice none 0 0, .int .i64 0, .slice none 0 0, .slice none 0 0] 29)).cell 0
    have c1 := ((Blk.new w 29 #[.int .u8 t.k, .string t.fr, .string t.tu, .string t.nm, .int .u8 t.ex.top.k, .string t.ex.top.rat, .string t.ex.top.name, .int .i64 t.ex.top.date, .slice Au ku cu, .int .i64 t.date, .slice Ad t.dates.length cd, .slice A l.length cp]).alloc (.cells #[.int .u8 0, .string ⟨#[]⟩, .string ⟨#[]⟩, .string ⟨#[]⟩, .int .u8 0, .string ⟨#[]⟩, .string ⟨#[]⟩, .int .i64 0, .slice none 0 0, .int .i64 0, .slice none 0 0, .slice none 0 0] 29)).cell 1
    have c2 := ((Blk.new w 29 #[.int .u8 t.k, .string t.fr, .string t.tu, .string t.nm, .int .u8 t.ex.top.k, .string t.ex.top.rat, .string t.ex.top.name, .int .i64 t.ex.top.date, .slice Au ku cu, .int .i64 t.date, .slice Ad t.dates.length cd, .slice A l.length cp]).alloc (.cells #[.int .u8 0, .string ⟨#[]⟩, .string ⟨#[]⟩, .string ⟨#[]⟩, .int .u8 0, .string ⟨#[]⟩, .string ⟨#[]⟩, .int .i64 0, .slice none 0 0, .int .i64 0, .slice none 0 0, .slice none 0 0] 29)).cell 2
    have c3 := ((Blk.new w 29 #[.int .u8 t.k, .string t.fr, .string t.tu, .string t.nm, .int .u8 t.ex.top.k, .string t.ex.top.rat, .string t.ex.top.name, .int .i64 t.ex.top.date, .slice Au ku cu, .int .i64 t.date, .slice Ad t.dates.length cd, .slice A l.length cp]).alloc (.cells #[.int .u8 0, .string ⟨#[]⟩, .string ⟨#[]⟩, .string ⟨#[]⟩, .int .u8 0, .string ⟨#[]⟩, .string ⟨#[]⟩, .int .i64 0, .slice none 0 0, .int .i64 0, .slice none 0 0, .slice none 0 0] 29)).cell 3
    have c4 := ((Blk.new w 29 #[.int .u8 t.k, .string t.fr, .string t.tu, .string t.nm, .int .u8 t.ex.top.k, .string t.ex.top.rat, .string t.ex.top.name, .int .i64 t.ex.top.date, .slice Au ku cu, .int .i64 t.date, .slice Ad t.dates.length cd, .slice A l.length cp]).alloc (.cells #[.int .u8 0, .string ⟨#[]⟩, .string ⟨#[]⟩, .string ⟨#[]⟩, .int .u8 0, .string ⟨#[]⟩, .string ⟨#[]⟩, .int .i64 0, .slice none 0 0, .int .i64 0, .slice none 0 0, .slice none 0 0] 29)).cell 4
    have c5 := ((Blk.new w 29 #[.int .u8 t.k, .string t.fr, .string t.tu, .string t.nm, .int .u8 t.ex.top.k, .string t.ex.top.rat, .string t.ex.top.name, .int .i64 t.ex.top.date, .slice Au ku cu, .int .i64 t.date, .slice Ad t.dates.length cd, .slice A l.length cp]).alloc (.cells #[.int .u8 0, .string ⟨#[]⟩, .string ⟨#[]⟩, .string ⟨#[]⟩, .int .u8 0, .string ⟨#[]⟩, .string ⟨#[]⟩, .int .i64 0, .slice none 0 0, .int .i64 0, .slice none 0 0, .slice none 0 0] 29)).cell 5
    have c6 := ((Blk.new w 29 #[.int .u8 t.k, .string t.fr, .string t.tu, .string t.nm, .int .u8 t.ex.top.k, .string t.ex.top.rat, .string t.ex.top.name, .int .i64 t.ex.top.date, .slice Au ku cu, .int .i64 t.date, .slice Ad t.dates.length cd, .slice A l.length cp]).alloc (.cells #[.int .u8 0, .string ⟨#[]⟩, .string ⟨#[]⟩, .string ⟨#[]⟩, .int .u8 0, .string ⟨#[]⟩, .string ⟨#[]⟩, .int .i64 0, .slice none 0 0, .int .i64 0, .slice none 0 0, .slice none 0 0] 29)).cell 6
    have c7 := ((Blk.new w 29 #[.int .u8 t.k, .string t.fr, .string t.tu, .string t.nm, .int .u8 t.ex.top.k, .string t.ex.top.rat, .string t.ex.top.name, .int .i64 t.ex.top.date, .slice Au ku cu, .int .i64 t.date, .slice Ad t.dates.length cd, .slice A l.length cp]).alloc (.cells #[.int .u8 0, .string ⟨#[]⟩, .string ⟨#[]⟩, .string ⟨#[]⟩, .int .u8 0, .string ⟨#[]⟩, .string ⟨#[]⟩, .int .i64 0, .slice none 0 0, .int .i64 0, .slice none 0 0, .slice none 0 0] 29)).cell 7
    have c8 := ((Blk.new w 29 #[.int .u8 t.k, .string t.fr, .string t.tu, .string t.nm, .int .u8 t.ex.top.k, .string t.ex.top.rat, .string t.ex.top.name, .int .i64 t.ex.top.date, .slice Au ku cu, .int .i64 t.date, .slice Ad t.dates.length cd, .slice A l.length cp]).alloc (.cells #[.int .u8 0, .string ⟨#[]⟩, .string ⟨#[]⟩, .string ⟨#[]⟩, .int .u8 0, .string ⟨#[]⟩, .string ⟨#[]⟩, .int .i64 0, .slice none 0 0, .int .i64 0, .slice none 0 0, .slice none 0 0] 29)).cell 8
    have c9 := ((Blk.new w 29 #[.int .u8 t.k, .string t.fr, .string t.tu, .string t.nm, .int .u8 t.ex.top.k, .string t.ex.top.rat, .string t.ex.top.name, .int .i64 t.ex.top.date, .slice Au ku cu, .int .i64 t.date, .slice Ad t.dates.length cd, .slice A l.length cp]).alloc (.cells #[.int .u8 0, .string ⟨#[]⟩, .string ⟨#[]⟩, .string ⟨#[]⟩, .int .u8 0, .string ⟨#[]⟩, .string ⟨#[]⟩, .int .i64 0, .slice none 0 0, .int .i64 0, .slice none 0 0, .slice none 0 0] 29)).cell 9
    have c10 := ((Blk.new w 29 #[.int .u8 t.k, .string t.fr, .string t.tu, .string t.nm, .int .u8 t.ex.top.k, .string t.ex.top.rat, .string t.ex.top.name, .int .i64 t.ex.top.date, .slice Au ku cu, .int .i64 t.date, .slice Ad t.dates.length cd, .slice A l.length cp]).alloc (.cells #[.int .u8 0, .string ⟨#[]⟩, .string ⟨#[]⟩, .string ⟨#[]⟩, .int .u8 0, .string ⟨#[]⟩, .string ⟨#[]⟩, .int .i64 0, .slice none 0 0, .int .i64 0, .slice none 0 0, .slice none 0 0] 29)).cell 10
    have c11 := ((Blk.new w 29 #[.int .u8 t.k, .string t.fr, .string t.tu, .string t.nm, .int .u8 t.ex.top.k, .string t.ex.top.rat, .string t.ex.top.name, .int .i64 t.ex.top.date, .slice Au ku cu, .int .i64 t.date, .slice Ad t.dates.length cd, .slice A l.length cp]).alloc (.cells #[.int .u8 0, .string ⟨#[]⟩, .string ⟨#[]⟩, .string ⟨#[]⟩, .int .u8 0, .string ⟨#[]⟩, .string ⟨#[]⟩, .int .i64 0, .slice none 0 0, .int .i64 0, .slice none 0 0, .slice none 0 0] 29)).cell 11
    go_wp2_with fail
    generalize (((w.alloc (.cells #[.int .u8 t.k, .string t.fr, .string t.tu, .string t.nm, .int .u8 t.ex.top.k, .string t.ex.top.rat, .string t.ex.top.name, .int .i64 t.ex.top.date, .slice Au ku cu, .int .i64 t.date, .slice Ad t.dates.length cd, .slice A l.length cp] 29)).alloc (.cells #[.int .u8 0, .string ⟨#[]⟩, .string ⟨#[]⟩, .string ⟨#[]⟩, .int .u8 0, .string ⟨#[]⟩, .string ⟨#[]⟩, .int .i64 0, .slice none 0 0, .int .i64 0, .slice none 0 0, .slice none 0 0] 29)).alloc (.cells #[.int .u8 t.k, .string t.fr, .string t.tu, .string t.nm, .int .u8 0, .string ⟨#[]⟩, .string ⟨#[]⟩, .int .i64 0, .slice none 0 0, .int .i64 t.date, .slice none 0 0, .slice none 0 0] 29)) = W0 at *
    clear c0 c1 c2 c3 c4 c5 c6 c7 c8 c9 c10 c11
    have HC := Lib.hid (rxtwin_any (m + 1) t.ex t.ex.top _ W0 (XV.below hb0 _ HX.out) HTOP.out.ex)
    refine HC.out.mono ?_
    rintro e X1 ⟨A1, k1, c1, r1, rfl, kb, hO1, hF1⟩
    have HF1 := Lib.hid hF1
    have hO1 := Lib.hid hO1
    have bx1 := bx.below kb
    have bz1 := bz.below kb
    have bo1 := bo.below kb
    have hb1 := hb0.trans (kb.mono hb0.size)
    have hs1 : w.heap.size + 3 ≤ X1.heap.size := by have := kb.size; omega
    clear HC hF1 bx bz bo hb0
    have z4 := bo1.cell 4
    have y4 := bo1.frozen 4
    have z5 := bo1.cell 5
    have y5 := bo1.frozen 5
    have z6 := bo1.cell 6
    have y6 := bo1.frozen 6
    have z7 := bo1.cell 7
    have y7 := bo1.frozen 7
    have z8 := bo1.cell 8
    have y8 := bo1.frozen 8
    have bs4 : Blk (X1.setCell ⟨w.heap.size + 2, 4, none⟩ (.int .u8 t.ex.top.k)) (w.heap.size + 2) 29 #[.int .u8 t.k, .string t.fr, .string t.tu, .string t.nm, .int .u8 t.ex.top.k, .string ⟨#[]⟩, .string ⟨#[]⟩, .int .i64 0, .slice none 0 0, .int .i64 t.date, .slice none 0 0, .slice none 0 0] := bo1.set 4 _
    have bs5 : Blk ((X1.setCell ⟨w.heap.size + 2, 4, none⟩ (.int .u8 t.ex.top.k)).setCell ⟨w.heap.size + 2, 5, none⟩ (.string t.ex.top.rat)) (w.heap.size + 2) 29 #[.int .u8 t.k, .string t.fr, .string t.tu, .string t.nm, .int .u8 t.ex.top.k, .string t.ex.top.rat, .string ⟨#[]⟩, .int .i64 0, .slice none 0 0, .int .i64 t.date, .slice none 0 0, .slice none 0 0] := bs4.set 5 _
    have bs6 : Blk (((X1.setCell ⟨w.heap.size + 2, 4, none⟩ (.int .u8 t.ex.top.k)).setCell ⟨w.heap.size + 2, 5, none⟩ (.string t.ex.top.rat)).setCell ⟨w.heap.size + 2, 6, none⟩ (.string t.ex.top.name)) (w.heap.size + 2) 29 #[.int .u8 t.k, .string t.fr, .string t.tu, .string t.nm, .int .u8 t.ex.top.k, .string t.ex.top.rat, .string t.ex.top.name, .int .i64 0, .slice none 0 0, .int .i64 t.date, .slice none 0 0, .slice none 0 0] := bs5.set 6 _
    have bs7 : Blk ((((X1.setCell ⟨w.heap.size + 2, 4, none⟩ (.int .u8 t.ex.top.k)).setCell ⟨w.heap.size + 2, 5, none⟩ (.string t.ex.top.rat)).setCell ⟨w.heap.size + 2, 6, none⟩ (.string t.ex.top.name)).setCell ⟨w.heap.size + 2, 7, none⟩ (.int .i64 t.ex.top.date)) (w.heap.size + 2) 29 #[.int .u8 t.k, .string t.fr, .string t.tu, .string t.nm, .int .u8 t.ex.top.k, .string t.ex.top.rat, .string t.ex.top.name, .int .i64 t.ex.top.date, .slice none 0 0, .int .i64 t.date, .slice none 0 0, .slice none 0 0] := bs6.set 7 _
    have bs8 : Blk (((((X1.setCell ⟨w.heap.size + 2, 4, none⟩ (.int .u8 t.ex.top.k)).setCell ⟨w.heap.size + 2, 5, none⟩ (.string t.ex.top.rat)).setCell ⟨w.heap.size + 2, 6, none⟩ (.string t.ex.top.name)).setCell ⟨w.heap.size + 2, 7, none⟩ (.int .i64 t.ex.top.date)).setCell ⟨w.heap.size + 2, 8, none⟩ (.slice A1 k1 c1)) (w.heap.size + 2) 29 #[.int .u8 t.k, .string t.fr, .string t.tu, .string t.nm, .int .u8 t.ex.top.k, .string t.ex.top.rat, .string t.ex.top.name, .int .i64 t.ex.top.date, .slice A1 k1 c1, .int .i64 t.date, .slice none 0 0, .slice none 0 0] := bs7.set 8 _
    have gg := (((((grownBy_setAt X1 (w.heap.size + 2) 4 (.int .u8 t.ex.top.k)).trans (grownBy_setAt (X1.setCell ⟨w.heap.size + 2, 4, none⟩ (.int .u8 t.ex.top.k)) (w.heap.size + 2) 5 (.string t.ex.top.rat))).trans (grownBy_setAt ((X1.setCell ⟨w.heap.size + 2, 4, none⟩ (.int .u8 t.ex.top.k)).setCell ⟨w.heap.size + 2, 5, none⟩ (.string t.ex.top.rat)) (w.heap.size + 2) 6 (.string t.ex.top.name))).trans (grownBy_setAt (((X1.setCell ⟨w.heap.size + 2, 4, none⟩ (.int .u8 t.ex.top.k)).setCell ⟨w.heap.size + 2, 5, none⟩ (.string t.ex.top.rat)).setCell ⟨w.heap.size + 2, 6, none⟩ (.string t.ex.top.name)) (w.heap.size + 2) 7 (.int .i64 t.ex.top.date))).trans (grownBy_setAt ((((X1.setCell ⟨w.heap.size + 2, 4, none⟩ (.int .u8 t.ex.top.k)).setCell ⟨w.heap.size + 2, 5, none⟩ (.string t.ex.top.rat)).setCell ⟨w.heap.size + 2, 6, none⟩ (.string t.ex.top.name)).setCell ⟨w.heap.size + 2, 7, none⟩ (.int .i64 t.ex.top.date)) (w.heap.size + 2) 8 (.slice A1 k1 c1)))
    have hbs := (((((hb1.setCell (p := ⟨w.heap.size + 2, 4, none⟩) (by show w.heap.size ≤ w.heap.size + 2; omega) (.int .u8 t.ex.top.k)).setCell (p := ⟨w.heap.size + 2, 5, none⟩) (by show w.heap.size ≤ w.heap.size + 2; omega) (.string t.ex.top.rat)).setCell (p := ⟨w.heap.size + 2, 6, none⟩) (by show w.heap.size ≤ w.heap.size + 2; omega) (.string t.ex.top.name)).setCell (p := ⟨w.heap.size + 2, 7, none⟩) (by show w.heap.size ≤ w.heap.size + 2; omega) (.int .i64 t.ex.top.date)).setCell (p := ⟨w.heap.size + 2, 8, none⟩) (by show w.heap.size ≤ w.heap.size + 2; omega) (.slice A1 k1 c1))
    have hne0 : w.heap.size ≠ w.heap.size + 2 := by omega
    have hne1 : w.heap.size + 1 ≠ w.heap.size + 2 := by omega
    have bxs := bx1.kept gg (by intro e; injection e with e; omega)
    have bzs := bz1.kept gg (by intro e; injection e with e; omega)
    go_upto_region 3 with fail
    clear z4 y4 z5 y5 z6 y6 z7 y7 z8 y8 bs4 bs5 bs6 bs7
    generalize (((((X1.setCell ⟨w.heap.size + 2, 4, none⟩ (.int .u8 t.ex.top.k)).setCell ⟨w.heap.size + 2, 5, none⟩ (.string t.ex.top.rat)).setCell ⟨w.heap.size + 2, 6, none⟩ (.string t.ex.top.name)).setCell ⟨w.heap.size + 2, 7, none⟩ (.int .i64 t.ex.top.date)).setCell ⟨w.heap.size + 2, 8, none⟩ (.slice A1 k1 c1)) = Xs at *
    have HB0 := Lib.hid ((Below.refl Xs.heap.size Xs).alloc (Nat.le_refl _) (.cells #[] 3))
    have HDX := Lib.hid (SL.below (SL.below HD.out hbs) HB0.out)
    have HDL := Lib.hid HTOP.out.dates
    have bs10 := bs8.alloc (.cells #[] 3)
    have d10 := (bxs.alloc (.cells #[] 3)).cell 10
    have d12 := bxs.cell 10
    have l0 := bxs.lt
    have l2 := bs8.lt
    go_wp2_with (at_builtin; go_loud (refine appCat dE_len dE_cell rfl _ _ rfl infoI (by omega) (by omega) Tryd.underlying26 _ Xs.heap.size (.slice (some ⟨Xs.heap.size, 0, none⟩) 0 0) (.slice Ad t.dates.length cd) [] t.dates rfl (OL.lit0 Xs) rfl HDX.out (by simp) (by have := HDL.out; omega) HB0.out.size ?_; intro v6 w6 hO6 hb6 _; rw [List.nil_append] at hO6; obtain ⟨A2, c2, rfl⟩ := OL.shape hO6; have hb7 := HB0.out.trans hb6; have bx6 := bxs.below hb7; have bz6 := bzs.below hb7; have bo6 := bs8.below hb7; have d11 := bo6.cell 10; have f11 := bo6.frozen 10; have HO6 := Lib.hid hO6; have HB7 := Lib.hid hb7; clear hO6 hb6 hb7))
    clear d10 d11 f11 bs10 d12 l0 l2
    have bo7 : Blk (w6.setCell ⟨w.heap.size + 2, 10, none⟩ (.slice A2 t.dates.length c2)) (w.heap.size + 2) 29 #[.int .u8 t.k, .string t.fr, .string t.tu, .string t.nm, .int .u8 t.ex.top.k, .string t.ex.top.rat, .string t.ex.top.name, .int .i64 t.ex.top.date, .slice A1 k1 c1, .int .i64 t.date, .slice A2 t.dates.length c2, .slice none 0 0] := bo6.set 10 _
    have bx7 := bx6.oth (show w.heap.size ≠ w.heap.size + 2 by omega) (j := 10) (.slice A2 t.dates.length c2)
    have bz7 := bz6.oth (show w.heap.size + 1 ≠ w.heap.size + 2 by omega) (j := 10) (.slice A2 t.dates.length c2)
    have g7 := grownBy_setAt w6 (w.heap.size + 2) 10 (.slice A2 t.dates.length c2)
    have hb7 := (hbs.trans (HB7.out.mono hbs.size)).setCell (p := ⟨w.heap.size + 2, 10, none⟩) (by show w.heap.size ≤ w.heap.size + 2; omega) (.slice A2 t.dates.length c2)
    have hsX : w.heap.size + 3 ≤ Xs.heap.size := Nat.le_trans hs1 gg.size
    have hOd := OL.mono HO6.out gg.size
    have hO7 := OL.kept hOd g7 (.inr (fun e => by have := (OL.lt_ hOd _ e).1; omega))
    have hx1 : X1.heap.size ≤ w6.heap.size := Nat.le_trans gg.size HB7.out.size
    have hx2 := g7.size
    generalize w6.setCell ⟨w.heap.size + 2, 10, none⟩ (.slice A2 t.dates.length c2) = W5 at *
    have hs5 : w.heap.size + 3 ≤ W5.heap.size := Nat.le_trans hsX (Nat.le_trans HB7.out.size g7.size)
    have HO5 := Lib.hid hO7
    have HX5 : Hid (∀ W, Fr (w.heap.size + 3) X1.heap.size W5 W → XV W (m + 1) t.ex (t.ex.top, .slice A1 k1 c1)) := Lib.hid (fun W hW => HF1.out W (fun j h1 h2 => by
      have e1 := gg.block j h2 (fun e => by injection e with e; omega)
      have h3 : j < Xs.heap.size := Nat.lt_of_lt_of_le h2 gg.size
      have e2 := HB7.out.block j h3
      have h4 : j < w6.heap.size := Nat.lt_of_lt_of_le h3 HB7.out.size
      have e3 := g7.block j h4 (fun e => by injection e with e; omega)
      exact (hW j (by omega) h2).trans (e3.trans (e2.trans e1))))
    have hn1 : w.heap.size + 3 ≤ X1.heap.size := hs1
    have hn2 : X1.heap.size ≤ W5.heap.size := Nat.le_trans hx1 hx2
    clear hx1 hx2
    generalize X1.heap.size = N1 at *
    clear HF1 hO1 gg hbs bxs bzs bs8 HB0 HDX HDL HD HX HO6 HB7 g7 hOd hO7 bx6 bz6 bo6 hsX bx1 bz1 bo1 hb1 kb hsz hne0 hne1
    go_loopw [4] (fun iv wr => ∃ (k : Nat) (raws : List (CR m)) (A3 : Option Addr) (c3 : Nat), k ≤ l.length ∧ iv = .int .i64 k ∧ Blk wr w.heap.size 29 #[.int .u8 t.k, .string t.fr, .string t.tu, .string t.nm, .int .u8 t.ex.top.k, .string t.ex.top.rat, .string t.ex.top.name, .int .i64 t.ex.top.date, .slice Au ku cu, .int .i64 t.date, .slice Ad t.dates.length cd, .slice A l.length cp] ∧ Blk wr (w.heap.size + 1) 29 #[.int .u8 0, .string ⟨#[]⟩, .string ⟨#[]⟩, .string ⟨#[]⟩, .int .u8 0, .string ⟨#[]⟩, .string ⟨#[]⟩, .int .i64 0, .slice none 0 0, .int .i64 0, .slice none 0 0, .slice none 0 0] ∧ Blk wr (w.heap.size + 2) 29 #[.int .u8 t.k, .string t.fr, .string t.tu, .string t.nm, .int .u8 t.ex.top.k, .string t.ex.top.rat, .string t.ex.top.name, .int .i64 t.ex.top.date, .slice A1 k1 c1, .int .i64 t.date, .slice A2 t.dates.length c2, .slice A3 raws.length c3] ∧ Hid (RowI 12 (CR.vs (m := m)) 29 (fun W r y => CV W n y r) W5.heap.size wr (.slice A3 raws.length c3) raws (l.take k)) ∧ Below w.heap.size w wr ∧ W5.heap.size ≤ wr.heap.size ∧ Hid (Fr (w.heap.size + 3) W5.heap.size W5 wr)) (fun iv _ => l.length - (intOf iv).toNat)
    case atStart => exact ⟨0, [], none, 0, Nat.zero_le _, rfl, bx7, bz7, bo7, Lib.hid RowI.nil_, hb7, Nat.le_refl _, Lib.hid (fun _ _ _ => rfl)⟩
    case round =>
      clear bx7 bz7 bo7 hb7
      obtain ⟨k, raws, A3, c3, hk, rfl, bx, bz, bo, HR, hbw, hB, HFR⟩ := hrel
      have s11 := bx.cell 11
      by_cases hlt : k < l.length
      · have hz : l[k]? = some l[k] := List.getElem?_eq_getElem hlt
        obtain ⟨b, o, ax, ux, dx, sx, hA, hbl, q0, q1, q2, q3, q4, q5, q6, q7, q8, q9, q10, q11, hv⟩ := CS.cells HS.out hz
        subst hA
        have HT : Hid (l.take (k + 1) = l.take k ++ [l[k]]) := Lib.hid (by rw [List.take_add_one, hz]; rfl)
        have HYS := Lib.hid (HSUB.out _ (List.mem_of_getElem? hz))
        clear hz
        generalize l[k] = y at *
        obtain ⟨⟨Ax, kx, cx, rfl⟩, ⟨Ay, ky, cy, rfl⟩, ⟨Az, kz, cz, rfl⟩⟩ := hv.shape
        have hi0 : (0 : Int) ≤ (k : Int) := by omega
        have hi1 : (k : Int) < (l.length : Int) := by omega
        have HRL : Hid (raws.length ≤ 20000) := Lib.hid (by have := HR.out.len; rw [List.length_take] at this; have := HLN.out; omega)
        go_upto_region 7 with fail
        have hdr := (Below.refl wr.heap.size wr).drew
        have bxd := bx.below hdr
        have bzd := bz.below hdr
        have bod := bo.below hdr
        have hbd := hbw.trans (hdr.mono hbw.size)
        have HRD := Lib.hid (HR.out.below hdr)
        have hBd : W5.heap.size ≤ wr.drew.heap.size := Nat.le_trans hB hdr.size
        have HC := Lib.hid (HIH.out y ax _ _ _ wr.drew (CV.below hbd n hv) HYS.out)
        have HW : Hid (∀ g, (Value.slice A3 raws.length c3).ownBlock = some g → W5.heap.size ≤ g ∧ g < wr.drew.heap.size) := Lib.hid (fun g hg => HRD.out.own.lt_ g hg)
        refine wp_region_fx 10 (fun w' => ∃ y : Gr wr.drew (Value.slice A3 raws.length c3).ownBlock, w' = y.1) (by kernel_rfl) ?_
        show fxAny _ _ _ _ 10 _ 12 _ _ _
        have HFRD : Hid (Fr (w.heap.size + 3) W5.heap.size W5 wr.drew) := Lib.hid (fun j h1 h2 => (hdr.block j (Nat.lt_of_lt_of_le h2 hB)).trans (HFR.out j h1 h2))
        clear s11 bx bz bo hbw HR hdr hB hv HFR
        generalize wr.drew = X0 at *
        generalize hrow : (Value.slice A3 raws.length c3).ownBlock = row at *
        have n0 : some w.heap.size ≠ row := fun e => by have := (HW.out _ e.symm).1; omega
        have n1 : some (w.heap.size + 1) ≠ row := fun e => by have := (HW.out _ e.symm).1; omega
        have n2 : some (w.heap.size + 2) ≠ row := fun e => by have := (HW.out _ e.symm).1; omega
        have nb : some b ≠ row := fun e => by have := (HW.out _ e.symm).1; omega
        have p11 : ∀ q : Gr X0 row, q.1.cell? ⟨w.heap.size, 11, none⟩ = some (.slice (some ⟨b, o, none⟩) l.length cp) := fun q => gr_cell q (bxd.cell 11) bxd.lt n0
        have r11 : ∀ q : Gr X0 row, q.1.cell? ⟨w.heap.size + 2, 11, none⟩ = some (.slice A3 raws.length c3) := fun q => gr_cell q (bod.cell 11) bod.lt n2
        have e0 : ∀ q : Gr X0 row, q.1.cell? ⟨b, o + k * 12, none⟩ = some (.int .u8 ax.k) := fun q => gr_cell q ((hbd.cell (p := ⟨b, o + k * 12, none⟩) hbl).trans q0) (Nat.lt_of_lt_of_le hbl hbd.size) nb
        have e1 : ∀ q : Gr X0 row, q.1.cell? ⟨b, o + k * 12 + 1, none⟩ = some (.string ax.fr) := fun q => gr_cell q ((hbd.cell (p := ⟨b, o + k * 12 + 1, none⟩) hbl).trans q1) (Nat.lt_of_lt_of_le hbl hbd.size) nb
        have e2 : ∀ q : Gr X0 row, q.1.cell? ⟨b, o + k * 12 + 2, none⟩ = some (.string ax.tu) := fun q => gr_cell q ((hbd.cell (p := ⟨b, o + k * 12 + 2, none⟩) hbl).trans q2) (Nat.lt_of_lt_of_le hbl hbd.size) nb
        have e3 : ∀ q : Gr X0 row, q.1.cell? ⟨b, o + k * 12 + 3, none⟩ = some (.string ax.nm) := fun q => gr_cell q ((hbd.cell (p := ⟨b, o + k * 12 + 3, none⟩) hbl).trans q3) (Nat.lt_of_lt_of_le hbl hbd.size) nb
        have e4 : ∀ q : Gr X0 row, q.1.cell? ⟨b, o + k * 12 + 4, none⟩ = some (.int .u8 ax.ex.top.k) := fun q => gr_cell q ((hbd.cell (p := ⟨b, o + k * 12 + 4, none⟩) hbl).trans q4) (Nat.lt_of_lt_of_le hbl hbd.size) nb
        have e5 : ∀ q : Gr X0 row, q.1.cell? ⟨b, o + k * 12 + 5, none⟩ = some (.string ax.ex.top.rat) := fun q => gr_cell q ((hbd.cell (p := ⟨b, o + k * 12 + 5, none⟩) hbl).trans q5) (Nat.lt_of_lt_of_le hbl hbd.size) nb
        have e6 : ∀ q : Gr X0 row, q.1.cell? ⟨b, o + k * 12 + 6, none⟩ = some (.string ax.ex.top.name) := fun q => gr_cell q ((hbd.cell (p := ⟨b, o + k * 12 + 6, none⟩) hbl).trans q6) (Nat.lt_of_lt_of_le hbl hbd.size) nb
        have e7 : ∀ q : Gr X0 row, q.1.cell? ⟨b, o + k * 12 + 7, none⟩ = some (.int .i64 ax.ex.top.date) := fun q => gr_cell q ((hbd.cell (p := ⟨b, o + k * 12 + 7, none⟩) hbl).trans q7) (Nat.lt_of_lt_of_le hbl hbd.size) nb
        have e8 : ∀ q : Gr X0 row, q.1.cell? ⟨b, o + k * 12 + 8, none⟩ = some (.slice Ax kx cx) := fun q => gr_cell q ((hbd.cell (p := ⟨b, o + k * 12 + 8, none⟩) hbl).trans q8) (Nat.lt_of_lt_of_le hbl hbd.size) nb
        have e9 : ∀ q : Gr X0 row, q.1.cell? ⟨b, o + k * 12 + 9, none⟩ = some (.int .i64 ax.date) := fun q => gr_cell q ((hbd.cell (p := ⟨b, o + k * 12 + 9, none⟩) hbl).trans q9) (Nat.lt_of_lt_of_le hbl hbd.size) nb
        have e10 : ∀ q : Gr X0 row, q.1.cell? ⟨b, o + k * 12 + 10, none⟩ = some (.slice Ay ky cy) := fun q => gr_cell q ((hbd.cell (p := ⟨b, o + k * 12 + 10, none⟩) hbl).trans q10) (Nat.lt_of_lt_of_le hbl hbd.size) nb
        have e11 : ∀ q : Gr X0 row, q.1.cell? ⟨b, o + k * 12 + 11, none⟩ = some (.slice Az kz cz) := fun q => gr_cell q ((hbd.cell (p := ⟨b, o + k * 12 + 11, none⟩) hbl).trans q11) (Nat.lt_of_lt_of_le hbl hbd.size) nb
        clear q0 q1 q2 q3 q4 q5 q6 q7 q8 q9 q10 q11
        refine fx_reads (n := 5) [0, 1, 2, 3, 4, 5, 6] rfl (by kernel_rfl) ⟨⟨X0, gr_refl _ _⟩, rfl⟩ ?_
        simp only [opsAt, List.filterMap_cons, List.filterMap_nil, List.getElem?_toArray, List.getElem?_cons_succ, List.getElem?_cons_zero]
        show wpQuiet _ _ _ _ [_, _, _, _, _, _, _] _
        repeat (go_big_quiet_step (fail))
        refine wpQuiet_nil ?_
        clear p11 r11 e0 e1 e2 e3 e4 e5 e6 e7 e8 e9 e10 e11
        refine fx_one (k := 7) (by kernel_rfl) ?_
        simp only [opsAt, List.filterMap_cons, List.filterMap_nil, List.getElem?_toArray, List.getElem?_cons_succ, List.getElem?_cons_zero]
        refine fxp_enter (f := 26) (args := #[.agg #[.int .u8 ax.k, .string ax.fr, .string ax.tu, .string ax.nm, .int .u8 ax.ex.top.k, .string ax.ex.top.rat, .string ax.ex.top.name, .int .i64 ax.ex.top.date, .slice Ax kx cx, .int .i64 ax.date, .slice Ay ky cy, .slice Az kz cz]]) (w' := X0) rfl (by simp [go_sem]) ?_
        refine HC.out.mono ?_
        rintro e X1 ⟨B1, B2, B3, m1, m2, m3, d1, d2, d3, raws1, rfl, kb, _, hfr⟩
        refine ⟨_, rfl, ⟨⟨X1, gr_below _ kb⟩, rfl⟩, ?_⟩
        refine fxp_nil ?_
        simp only [Act.put, List.setIfInBounds_toArray, List.set_cons_succ, List.set_cons_zero]
        have bx1 := bxd.below kb
        have bz1 := bzd.below kb
        have bo1 := bod.below kb
        have hb1 := hbd.trans (kb.mono hbd.size)
        have HR1 := Lib.hid (HRD.out.below kb)
        have hle := kb.size
        refine fx_one (k := 8) (by kernel_rfl) ?_
        simp only [opsAt, List.filterMap_cons, List.filterMap_nil, List.getElem?_toArray, List.getElem?_cons_succ, List.getElem?_cons_zero]
        refine fxp_value (u := .slice (some ⟨X1.heap.size, 0, none⟩) 1 1) (w' := X1.alloc (.cells #[.int .u8 ax.k, .string ax.fr, .string ax.tu, .string ax.nm, .int .u8 ax.ex.top.k, .string ax.ex.top.rat, .string ax.ex.top.name, .int .i64 ax.ex.top.date, .slice B1 m1 d1, .int .i64 ax.date, .slice B2 m2 d2, .slice B3 m3 d3] 29)) rfl (by simp [go_sem]) ⟨⟨_, gr_below _ (kb.trans ((Below.refl _ X1).alloc hle _))⟩, rfl⟩ ?_
        refine fxp_nil ?_
        simp only [Act.put, List.setIfInBounds_toArray, List.set_cons_succ, List.set_cons_zero]
        refine fx_one (k := 9) (by kernel_rfl) ?_
        simp only [opsAt, List.filterMap_cons, List.filterMap_nil, List.getElem?_toArray, List.getElem?_cons_succ, List.getElem?_cons_zero]
        refine fxp_appAt ⟨ax, .slice B1 m1 d1, .slice B2 m2 d2, .slice B3 m3 d3⟩ (cvs_one _ _ _ _ _ _ _ _ _ _) (CR.vs_len _) rfl _ _ rfl infoCo (by omega) (by omega) Tryd.underlying27 X1 W5.heap.size (.slice A3 raws.length c3) raws _ rfl rfl HR1.out.own rfl HRL.out (by omega) ?_
        intro A9 m2 c9 X2 hm2 hO2 hb2 hg2 hat2
        subst hm2
        have HR2 := Lib.hid (RowI.app (y := y) HR1.out hO2 hg2 hat2 hBd (Nat.le_refl _) (fun g hg => (HW.out g (hrow ▸ hg)).2) (fun W hW => hfr W hW))
        rw [hrow] at hg2
        refine ⟨⟨⟨X2, ?_⟩, rfl⟩, ?_⟩
        · exact (gr_below row kb).trans hg2
        refine fxp_nil ?_
        simp only [Act.put, List.setIfInBounds_toArray, List.set_cons_succ, List.set_cons_zero]
        have bx2 := bx1.kept hg2 n0
        have bz2 := bz1.kept hg2 n1
        have bo2 := bo1.kept hg2 n2
        have hb3 := hb1.trans (hb2.mono (show w.heap.size ≤ W5.heap.size by omega))
        have k4 := bo2.cell 11
        have f4 := bo2.frozen 11
        refine fx_late (k := 10) (by decide) (by kernel_rfl) ?_
        simp only [opsAt, List.filterMap_cons, List.filterMap_nil, List.getElem?_toArray, List.getElem?_cons_succ, List.getElem?_cons_zero]
        refine fxl_value (u := .pointer (some ⟨w.heap.size + 2, 11, none⟩)) (w' := X2) rfl (by simp [go_sem]) ?_
        refine fxl_nil ?_
        simp only [Act.put, List.setIfInBounds_toArray, List.set_cons_succ, List.set_cons_zero]
        refine fx_late (k := 11) (by decide) (by kernel_rfl) ?_
        simp only [opsAt, List.filterMap_cons, List.filterMap_nil, List.getElem?_toArray, List.getElem?_cons_succ, List.getElem?_cons_zero]
        refine fxl_skip (w' := X2.setCell ⟨w.heap.size + 2, 11, none⟩ (.slice A9 (raws.length + 1) c9)) rfl (by simp [go_sem, k4, f4]) ?_
        refine fxl_nil ?_
        simp only [Act.put]
        have bo3 : Blk (X2.setCell ⟨w.heap.size + 2, 11, none⟩ (.slice A9 (raws.length + 1) c9)) (w.heap.size + 2) 29 #[.int .u8 t.k, .string t.fr, .string t.tu, .string t.nm, .int .u8 t.ex.top.k, .string t.ex.top.rat, .string t.ex.top.name, .int .i64 t.ex.top.date, .slice A1 k1 c1, .int .i64 t.date, .slice A2 t.dates.length c2, .slice A9 (raws.length + 1) c9] := bo2.set 11 _
        have bx3 := bx2.oth (show w.heap.size ≠ w.heap.size + 2 by omega) (j := 11) (.slice A9 (raws.length + 1) c9)
        have bz3 := bz2.oth (show w.heap.size + 1 ≠ w.heap.size + 2 by omega) (j := 11) (.slice A9 (raws.length + 1) c9)
        have hb4 := hb3.setCell (p := ⟨w.heap.size + 2, 11, none⟩) (by show w.heap.size ≤ w.heap.size + 2; omega) (.slice A9 (raws.length + 1) c9)
        have gs := grownBy_setAt X2 (w.heap.size + 2) 11 (.slice A9 (raws.length + 1) c9)
        have HR3 := Lib.hid (HR2.out.kept gs (by omega))
        have hB3 : W5.heap.size ≤ (X2.setCell ⟨w.heap.size + 2, 11, none⟩ (.slice A9 (raws.length + 1) c9)).heap.size := by have := gs.size; have := hb2.size; omega
        have HFR3 : Hid (Fr (w.heap.size + 3) W5.heap.size W5 (X2.setCell ⟨w.heap.size + 2, 11, none⟩ (.slice A9 (raws.length + 1) c9))) := Lib.hid (fun j h1 h2 => by
          have h3 : j < X0.heap.size := Nat.lt_of_lt_of_le h2 hBd
          have h4 : j < X1.heap.size := Nat.lt_of_lt_of_le h3 hle
          have e1 := kb.block j h3
          have e2 := hg2.block j h4 (fun e => by have := (HW.out _ e.symm).1; omega)
          have e3 := gs.block j (Nat.lt_of_lt_of_le h4 hg2.size) (fun e => by injection e with e; omega)
          exact e3.trans (e2.trans (e1.trans (HFRD.out j h1 h2))))
        clear gs k4 f4 bx2 bz2 bo2 hb3 hg2 hat2 hO2 hb2
        generalize X2.setCell ⟨w.heap.size + 2, 11, none⟩ (.slice A9 (raws.length + 1) c9) = X3 at *
        refine fx_end (by kernel_rfl) ?_
        clear HRD HR1 bx1 bz1 bo1 hb1 HR2 bxd bzd bod hbd hBd HW HC hrow n0 n1 n2 nb hle kb hfr HFRD
        go_wp2_with fail
        go_roundw
        case rel => exact ⟨k + 1, raws ++ [⟨ax, .slice B1 m1 d1, .slice B2 m2 d2, .slice B3 m3 d3⟩], A9, c9, by omega, by go_num, bx3, bz3, by rw [List.length_append]; exact bo3, Lib.hid (by rw [HT.out, List.length_append]; exact HR3.out), hb4, hB3, HFR3⟩
        case measure => simp [intOf]; omega
      · obtain rfl : k = l.length := by omega
        rw [List.take_length] at HR
        have x0 := bo.cell 0
        have y0 := bz.cell 0
        have g0 := bz.frozen 0
        have x1 := bo.cell 1
        have y1 := bz.cell 1
        have g1 := bz.frozen 1
        have x2 := bo.cell 2
        have y2 := bz.cell 2
        have g2 := bz.frozen 2
        have x3 := bo.cell 3
        have y3 := bz.cell 3
        have g3 := bz.frozen 3
        have x4 := bo.cell 4
        have y4 := bz.cell 4
        have g4 := bz.frozen 4
        have x5 := bo.cell 5
        have y5 := bz.cell 5
        have g5 := bz.frozen 5
        have x6 := bo.cell 6
        have y6 := bz.cell 6
        have g6 := bz.frozen 6
        have x7 := bo.cell 7
        have y7 := bz.cell 7
        have g7 := bz.frozen 7
        have x8 := bo.cell 8
        have y8 := bz.cell 8
        have g8 := bz.frozen 8
        have x9 := bo.cell 9
        have y9 := bz.cell 9
        have g9 := bz.frozen 9
        have x10 := bo.cell 10
        have y10 := bz.cell 10
        have g10 := bz.frozen 10
        have x11 := bo.cell 11
        have y11 := bz.cell 11
        have g11 := bz.frozen 11
        go_wp2_with fail
        have bf := Blk.store12 bz (.int .u8 t.k) (.string t.fr) (.string t.tu) (.string t.nm) (.int .u8 t.ex.top.k) (.string t.ex.top.rat) (.string t.ex.top.name) (.int .i64 t.ex.top.date) (.slice A1 k1 c1) (.int .i64 t.date) (.slice A2 t.dates.length c2) (.slice A3 raws.length c3)
        have hbf := Below.store12 hbw (show w.heap.size ≤ w.heap.size + 1 by omega) (.int .u8 t.k) (.string t.fr) (.string t.tu) (.string t.nm) (.int .u8 t.ex.top.k) (.string t.ex.top.rat) (.string t.ex.top.name) (.int .i64 t.ex.top.date) (.slice A1 k1 c1) (.int .i64 t.date) (.slice A2 t.dates.length c2) (.slice A3 raws.length c3)
        have gs := grown_store12 wr (w.heap.size + 1) (.int .u8 t.k) (.string t.fr) (.string t.tu) (.string t.nm) (.int .u8 t.ex.top.k) (.string t.ex.top.rat) (.string t.ex.top.name) (.int .i64 t.ex.top.date) (.slice A1 k1 c1) (.int .i64 t.date) (.slice A2 t.dates.length c2) (.slice A3 raws.length c3)
        have HRF := Lib.hid (HR.out.kept gs (by omega))
        clear x0 y0 g0 x1 y1 g1 x2 y2 g2 x3 y3 g3 x4 y4 g4 x5 y5 g5 x6 y6 g6 x7 y7 g7 x8 y8 g8 x9 y9 g9 x10 y10 g10 x11 y11 g11
        generalize ((((((((((((wr.setCell ⟨w.heap.size + 1, 0, none⟩ (.int .u8 t.k)).setCell ⟨w.heap.size + 1, 1, none⟩ (.string t.fr)).setCell ⟨w.heap.size + 1, 2, none⟩ (.string t.tu)).setCell ⟨w.heap.size + 1, 3, none⟩ (.string t.nm)).setCell ⟨w.heap.size + 1, 4, none⟩ (.int .u8 t.ex.top.k)).setCell ⟨w.heap.size + 1, 5, none⟩ (.string t.ex.top.rat)).setCell ⟨w.heap.size + 1, 6, none⟩ (.string t.ex.top.name)).setCell ⟨w.heap.size + 1, 7, none⟩ (.int .i64 t.ex.top.date)).setCell ⟨w.heap.size + 1, 8, none⟩ (.slice A1 k1 c1)).setCell ⟨w.heap.size + 1, 9, none⟩ (.int .i64 t.date)).setCell ⟨w.heap.size + 1, 10, none⟩ (.slice A2 t.dates.length c2)).setCell ⟨w.heap.size + 1, 11, none⟩ (.slice A3 raws.length c3)) = wf at *
        have x0 := bf.cell 0
        have x1 := bf.cell 1
        have x2 := bf.cell 2
        have x3 := bf.cell 3
        have x4 := bf.cell 4
        have x5 := bf.cell 5
        have x6 := bf.cell 6
        have x7 := bf.cell 7
        have x8 := bf.cell 8
        have x9 := bf.cell 9
        have x10 := bf.cell 10
        have x11 := bf.cell 11
        (try simp only [Exit.inBlock, Exit.then])
        refine bodyPost_ret (v := .agg #[.int .u8 t.k, .string t.fr, .string t.tu, .string t.nm, .int .u8 t.ex.top.k, .string t.ex.top.rat, .string t.ex.top.name, .int .i64 t.ex.top.date, .slice A1 k1 c1, .int .i64 t.date, .slice A2 t.dates.length c2, .slice A3 raws.length c3]) (by simp [results, Tryd.results26, go_sem, x0, x1, x2, x3, x4, x5, x6, x7, x8, x9, x10, x11]) rfl ?_
        have hat : ∀ j, w.heap.size + 3 ≤ j → j < W5.heap.size → wf.heap[j]? = W5.heap[j]? := fun j h1 h2 => by
          have h3 : j < wr.heap.size := Nat.lt_of_lt_of_le h2 hB
          exact (gs.block j h3 (fun e => by injection e with e; omega)).trans (HFR.out j h1 h2)
        have hsw : W5.heap.size ≤ wf.heap.size := Nat.le_trans hB gs.size
        refine ⟨A1, A2, A3, k1, raws.length, c1, c2, c3, N1, W5.heap.size, raws, rfl, hbf, by omega, hn2, hsw, fun W hW => HX5.out W (fun j h1 h2 => (hW j (by omega) h2).trans (hat j h1 (Nat.lt_of_lt_of_le h2 hn2))), OL.at_ HO5.out (fun g hg => hat g (by have := (OL.lt_ HO5.out g hg).1; omega) (OL.lt_ HO5.out g hg).2), fun g hg => (OL.lt_ HO5.out g hg).2, HRF.out⟩
theorem rctwin_any {m : Nat} : ∀ (n : Nat), ∀ (c : Z.Co m n) (a : Z.CN m) (u dv sv : Value) (w : World), CV w n c ⟨a, u, dv, sv⟩ → Z.CSm n c → Calls Tryd.prog 26 #[.agg #[.int .u8 a.k, .string a.fr, .string a.tu, .string a.nm, .int .u8 a.ex.top.k, .string a.ex.top.rat, .string a.ex.top.name, .int .i64 a.ex.top.date, u, .int .i64 a.date, dv, sv]] w fun e w' => ∃ (A1 A2 A3 : Option Addr) (k1 k2 k3 c1 c2 c3 : Nat) (r3 : List (CR m)), e = .returned (.agg #[.int .u8 a.k, .string a.fr, .string a.tu, .string a.nm, .int .u8 a.ex.top.k, .string a.ex.top.rat, .string a.ex.top.name, .int .i64 a.ex.top.date, .slice A1 k1 c1, .int .i64 a.date, .slice A2 k2 c2, .slice A3 k3 c3]) ∧ Below w.heap.size w w' ∧ OL 12 (CR.vs (m := m)) 29 w' w.heap.size (.slice A3 k3 c3) r3 ∧ ∀ W, Fr w.heap.size w'.heap.size w' W → CV W n c ⟨a, .slice A1 k1 c1, .slice A2 k2 c2, .slice A3 k3 c3⟩ := by
  intro n
  induction n with
  | zero => intro c; exact c.no
  | succ n ih =>
    intro c a u dv sv w hc hsm
    refine (rctwin_step n ih c a u dv sv w hc hsm).mono ?_
    rintro e w' ⟨A1, A2, A3, k1, k3, c1, c2, c3, N1, N2, r3, rfl, hb, h1, h2, h3, hX, hD, hd, hR⟩
    obtain ⟨rfl, _, _, _⟩ := hc.open_
    refine ⟨A1, A2, A3, k1, _, k3, c1, c2, c3, r3, rfl, hb, OL.mono hR.own (by omega), fun W hW => ?_⟩
    exact CV.shut hc.kind (hX W (fun j j1 j2 => hW j j1 (by omega))) (OL.sl dE_len (OL.at_ hD fun g hg => hW g (by have := (OL.lt_ hD g hg).1; omega) (OL.lt_ hD g hg).2)) (hR.dp CR.vs_len (fun j j1 j2 => hW j (by omega) j2))
/-- The copy, part by part. -/
theorem rctwin_top {m : Nat} (n : Nat) (c : Z.Co m (n + 1)) (a : Z.CN m) (u dv sv : Value) (w : World) (hc : CV w (n + 1) c ⟨a, u, dv, sv⟩) (hs : Z.CSm (n + 1) c) : Calls Tryd.prog 26 #[.agg #[.int .u8 a.k, .string a.fr, .string a.tu, .string a.nm, .int .u8 a.ex.top.k, .string a.ex.top.rat, .string a.ex.top.name, .int .i64 a.ex.top.date, u, .int .i64 a.date, dv, sv]] w fun e w' => ∃ (A1 A2 A3 : Option Addr) (k1 k3 c1 c2 c3 N1 N2 : Nat) (r3 : List (CR m)), e = .returned (.agg #[.int .u8 a.k, .string a.fr, .string a.tu, .string a.nm, .int .u8 a.ex.top.k, .string a.ex.top.rat, .string a.ex.top.name, .int .i64 a.ex.top.date, .slice A1 k1 c1, .int .i64 a.date, .slice A2 a.dates.length c2, .slice A3 k3 c3]) ∧ Below w.heap.size w w' ∧ w.heap.size ≤ N1 ∧ N1 ≤ N2 ∧ N2 ≤ w'.heap.size ∧ (∀ W, Fr w.heap.size N1 w' W → XV W (m + 1) a.ex (a.ex.top, .slice A1 k1 c1)) ∧ OL 1 dE 3 w' N1 (.slice A2 a.dates.length c2) a.dates ∧ (∀ g, (Value.slice A2 a.dates.length c2).ownBlock = some g → g < N2) ∧ RowI 12 (CR.vs (m := m)) 29 (fun W r y => CV W n y r) N2 w' (.slice A3 k3 c3) r3 c.sub := rctwin_step n (rctwin_any n) c a u dv sv w hc hs
end Go.Proofs.YtifafmomkpkgdaaDoor
