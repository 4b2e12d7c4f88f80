/- Walks: equality of expressions and of contracts in the reference. -/
import Derived.Test.YtifafmomkpkgdaaDoorOsm
namespace Go.Proofs.YtifafmomkpkgdaaDoor
open Go.RowKit
namespace Z
theorem ne_t {α : Type} [BEq α] [LawfulBEq α] {a b : α} (h : (a != b) = !false) : ¬ a = b := by simpa using h
theorem ne_f {α : Type} [BEq α] [LawfulBEq α] {a b : α} (h : (a != b) = !true) : a = b := by simpa using h
end Z
set_option maxRecDepth 100000 in
set_option maxHeartbeats 8000000 in
theorem rxsame_any : ∀ (n : Nat) (x y : Z.Ex n) (a b : Z.XN) (u v : Value) (w : World), XV w n x (a, u) → XV w n y (b, v) → Calls Tryd.prog 62 #[.agg #[.int .u8 a.k, .string a.rat, .string a.name, .int .i64 a.date, u], .agg #[.int .u8 b.k, .string b.rat, .string b.name, .int .i64 b.date, v]] w fun e w' => e = .returned (.bool (Z.exSame n x y)) ∧ Below w.heap.size w w' := by
  intro n
  induction n with
  | zero => intro x; exact x.no
  | succ n ih =>
    intro x y a b u v w hx hy
    obtain ⟨rfl, hS1⟩ := hx.open_
    obtain ⟨rfl, hS2⟩ := hy.open_
    obtain ⟨A1, c1, rfl, hc1, hm1⟩ := hS1.shape
    obtain ⟨A2, c2, rfl, hc2, hm2⟩ := hS2.shape
    unfold maxLen at hm1 hm2
    obtain ⟨n1, hn1⟩ : ∃ n1, n1 = x.sub.length := ⟨_, rfl⟩
    obtain ⟨n2, hn2⟩ : ∃ n2, n2 = y.sub.length := ⟨_, rfl⟩
    have HL1 := Lib.hid hn1
    have HL2 := Lib.hid hn2
    rw [← hn1] at hS1 hc1 ⊢
    rw [← hn2] at hS2 hc2 ⊢
    have hb0 := (Below.refl _ w).alloc (Nat.le_refl w.heap.size) (.cells #[.int .u8 x.top.k, .string x.top.rat, .string x.top.name, .int .i64 x.top.date, .slice A1 n1 c1] 25)
    have hb1 := hb0.alloc hb0.size (.cells #[.int .u8 y.top.k, .string y.top.rat, .string y.top.name, .int .i64 y.top.date, .slice A2 n2 c2] 25)
    have BX := (Blk.new w 25 #[.int .u8 x.top.k, .string x.top.rat, .string x.top.name, .int .i64 x.top.date, .slice A1 n1 c1]).alloc (.cells #[.int .u8 y.top.k, .string y.top.rat, .string y.top.name, .int .i64 y.top.date, .slice A2 n2 c2] 25)
    have BY := Blk.new (w.alloc (.cells #[.int .u8 x.top.k, .string x.top.rat, .string x.top.name, .int .i64 x.top.date, .slice A1 n1 c1] 25)) 25 #[.int .u8 y.top.k, .string y.top.rat, .string y.top.name, .int .i64 y.top.date, .slice A2 n2 c2]
    rw [World.size_alloc] at BY
    have c0_ := BX.cell 0
    have d0 := BY.cell 0
    have c1_ := BX.cell 1
    have d1 := BY.cell 1
    have c2_ := BX.cell 2
    have d2 := BY.cell 2
    have c3_ := BX.cell 3
    have d3 := BY.cell 3
    have c4_ := BX.cell 4
    have d4 := BY.cell 4
    have HS1 := Lib.hid (ES.below hb1 hS1)
    have HS2 := Lib.hid (ES.below hb1 hS2)
    have IH := Lib.hid ih
    obtain ⟨r3, hr3⟩ : ∃ r3, r3 = Z.all2 (Z.exSame n) x.sub y.sub := ⟨_, rfl⟩
    have HR : Hid (Z.exSame (n + 1) x y = (Z.topX x.top y.top && r3)) := Lib.hid (by rw [hr3]; rfl)
    have HL0 : Hid (r3 = Z.all2 (Z.exSame n) (x.sub.drop 0) (y.sub.drop 0)) := Lib.hid hr3
    have HRL : Hid (n1 ≠ n2 → r3 = false) := Lib.hid (fun h => hr3.trans (Z.all2_len _ _ (by rw [← hn1, ← hn2]; exact h)))
    unfold Z.topX at HR
    have h0 := Z.neI x.top.k y.top.k
    have h1 := Z.neS x.top.rat y.top.rat
    have h2 := Z.neS x.top.name y.top.name
    have h3 := Z.neI x.top.date y.top.date
    generalize Z.exSame (n + 1) x y = R at *
    clear hx hy hS1 hS2 ih hr3 hn1 hn2
    generalize x.sub = l1 at *
    generalize y.sub = l2 at *
    generalize x.top = s at *
    generalize y.top = t at *
    generalize decide (s.k = t.k) = b0 at *
    generalize decide (s.rat = t.rat) = b1 at *
    generalize decide (s.name = t.name) = b2 at *
    generalize decide (s.date = t.date) = b3 at *
    cases b0
    · have HF : Hid (R = false) := Lib.hid (by rw [HR.out]; simp)
      have qh0 := Z.ne_t h0
      clear BX BY
      go_enter Tryd.func62, Tryd.ntmps62
      go_wp2_with fail
      go_ret
      exact ⟨ret_bool HF.out.symm, hb1⟩
    cases b1
    · have HF : Hid (R = false) := Lib.hid (by rw [HR.out]; simp)
      have qh1 := Z.ne_t h1
      clear BX BY
      go_enter Tryd.func62, Tryd.ntmps62
      go_wp2_with fail
      go_ret
      exact ⟨ret_bool HF.out.symm, hb1⟩
    have qh1 := Z.ne_f h1
    cases b2
    · have HF : Hid (R = false) := Lib.hid (by rw [HR.out]; simp)
      have qh2 := Z.ne_t h2
      clear BX BY
      go_enter Tryd.func62, Tryd.ntmps62
      go_wp2_with fail
      go_ret
      exact ⟨ret_bool HF.out.symm, hb1⟩
    have qh2 := Z.ne_f h2
    cases b3
    · have HF : Hid (R = false) := Lib.hid (by rw [HR.out]; simp)
      have qh3 := Z.ne_t h3
      clear BX BY
      go_enter Tryd.func62, Tryd.ntmps62
      go_wp2_with fail
      go_ret
      exact ⟨ret_bool HF.out.symm, hb1⟩
    by_cases hl : n1 = n2
    case neg =>
      have HF : Hid (R = false) := Lib.hid (by rw [HR.out, HRL.out hl]; simp)
      have hne : ((n1 : Int) != (n2 : Int)) = true := by rw [bne_iff_ne]; omega
      clear hl BX BY
      go_enter Tryd.func62, Tryd.ntmps62
      go_wp2_with fail
      go_ret
      exact ⟨ret_bool HF.out.symm, hb1⟩
    subst hl
    have HRF : Hid (R = r3) := Lib.hid (by rw [HR.out]; simp)
    go_enter Tryd.func62, Tryd.ntmps62
    go_wp2_with fail
    generalize ((w.alloc (.cells #[.int .u8 s.k, .string s.rat, .string s.name, .int .i64 s.date, .slice A1 n1 c1] 25)).alloc (.cells #[.int .u8 t.k, .string t.rat, .string t.name, .int .i64 t.date, .slice A2 n1 c2] 25)) = W0 at *
    go_loopw [5] (fun iv wr => ∃ k : Nat, k ≤ n1 ∧ iv = .int .i64 k ∧ Hid (r3 = Z.all2 (Z.exSame n) (l1.drop k) (l2.drop k)) ∧ Below W0.heap.size W0 wr) (fun iv _ => n1 - (intOf iv).toNat)
    case atStart => exact ⟨0, by omega, rfl, HL0, Below.refl _ _⟩
    case round =>
      obtain ⟨k, hk, rfl, HI, hbr⟩ := hrel
      clear HL0
      have hbw := hb1.trans (hbr.mono hb1.size)
      have BXr := BX.below hbr
      have BYr := BY.below hbr
      have c4_ := BXr.cell 4
      have d4 := BYr.cell 4
      by_cases hlt : k < n1
      · have hlt1 : k < l1.length := by have := HL1.out; omega
        have hlt2 : k < l2.length := by have := HL2.out; omega
        have hz1 : l1[k]? = some l1[k] := List.getElem?_eq_getElem hlt1
        have hz2 : l2[k]? = some l2[k] := List.getElem?_eq_getElem hlt2
        obtain ⟨b1, o1, a1, u1, rfl, he1, p0, p1, p2, p3, p4, hv1⟩ := ES.cells (ES.below hbr HS1.out) hz1
        obtain ⟨b2, o2, a2, u2, rfl, he2, q0, q1, q2, q3, q4, hv2⟩ := ES.cells (ES.below hbr HS2.out) hz2
        have HD := Lib.hid (Z.all2_drop (f := Z.exSame n) hz1 hz2)
        clear hz1 hz2
        generalize l1[k] = x at *
        generalize l2[k] = y at *
        clear hlt1 hlt2
        have hi0 : (0 : Int) ≤ (k : Int) := by omega
        have hi1 : (k : Int) < (n1 : Int) := by omega
        have f0 : ∀ z : Ab wr, z.1.cell? ⟨w.heap.size, 4, none⟩ = some (.slice (some ⟨b1, o1, none⟩) n1 c1) := fun z => (Ab.cells (x := z) BXr).cell 4
        have g0 : ∀ z : Ab wr, z.1.cell? ⟨w.heap.size + 1, 4, none⟩ = some (.slice (some ⟨b2, o2, none⟩) n1 c2) := fun z => (Ab.cells (x := z) BYr).cell 4
        have f1 : ∀ z : Ab wr, z.1.cell? ⟨b1, o1 + k * 5, none⟩ = some (.int .u8 a1.k) := fun z => (z.2.cell (p := ⟨b1, o1 + k * 5, none⟩) he1).trans p0
        have f2 : ∀ z : Ab wr, z.1.cell? ⟨b1, o1 + k * 5 + 1, none⟩ = some (.string a1.rat) := fun z => (z.2.cell (p := ⟨b1, o1 + k * 5 + 1, none⟩) he1).trans p1
        have f3 : ∀ z : Ab wr, z.1.cell? ⟨b1, o1 + k * 5 + 2, none⟩ = some (.string a1.name) := fun z => (z.2.cell (p := ⟨b1, o1 + k * 5 + 2, none⟩) he1).trans p2
        have f4 : ∀ z : Ab wr, z.1.cell? ⟨b1, o1 + k * 5 + 3, none⟩ = some (.int .i64 a1.date) := fun z => (z.2.cell (p := ⟨b1, o1 + k * 5 + 3, none⟩) he1).trans p3
        have f5 : ∀ z : Ab wr, z.1.cell? ⟨b1, o1 + k * 5 + 4, none⟩ = some (u1) := fun z => (z.2.cell (p := ⟨b1, o1 + k * 5 + 4, none⟩) he1).trans p4
        have g1 : ∀ z : Ab wr, z.1.cell? ⟨b2, o2 + k * 5, none⟩ = some (.int .u8 a2.k) := fun z => (z.2.cell (p := ⟨b2, o2 + k * 5, none⟩) he2).trans q0
        have g2 : ∀ z : Ab wr, z.1.cell? ⟨b2, o2 + k * 5 + 1, none⟩ = some (.string a2.rat) := fun z => (z.2.cell (p := ⟨b2, o2 + k * 5 + 1, none⟩) he2).trans q1
        have g3 : ∀ z : Ab wr, z.1.cell? ⟨b2, o2 + k * 5 + 2, none⟩ = some (.string a2.name) := fun z => (z.2.cell (p := ⟨b2, o2 + k * 5 + 2, none⟩) he2).trans q2
        have g4 : ∀ z : Ab wr, z.1.cell? ⟨b2, o2 + k * 5 + 3, none⟩ = some (.int .i64 a2.date) := fun z => (z.2.cell (p := ⟨b2, o2 + k * 5 + 3, none⟩) he2).trans q3
        have g5 : ∀ z : Ab wr, z.1.cell? ⟨b2, o2 + k * 5 + 4, none⟩ = some (u2) := fun z => (z.2.cell (p := ⟨b2, o2 + k * 5 + 4, none⟩) he2).trans q4
        have HC : Hid (∀ z : Ab wr, Calls Tryd.prog 62 #[.agg #[.int .u8 a1.k, .string a1.rat, .string a1.name, .int .i64 a1.date, u1], .agg #[.int .u8 a2.k, .string a2.rat, .string a2.name, .int .i64 a2.date, u2]] z.1 fun e w' => e = .returned (.bool (Z.exSame n x y)) ∧ Below z.1.heap.size z.1 w') := Lib.hid fun z => IH.out x y a1 a2 _ _ z.1 (XV.below z.2 n hv1) (XV.below z.2 n hv2)
        have HN : Hid (r3 = (Z.exSame n x y && Z.all2 (Z.exSame n) (l1.drop (k + 1)) (l2.drop (k + 1)))) := Lib.hid (by rw [HI.out, HD.out])
        generalize Z.exSame n x y = d at *
        clear hv1 hv2 HI HD p0 q0 p1 q1 p2 q2 p3 q3 p4 q4
        go_wp2_with fail
        refine wp_region_above (by kernel_rfl) (by kernel_rfl) ?_
        repeat (go_big_quiet_step (first | (go_at_call 62; with_reducible exact Ab.step (HC.out _))))
        refine wpQuiet_nil ?_
        rintro _ ⟨z, rfl⟩
        have hbn := hbr.trans (z.2.mono hbr.size)
        have hbx := hb1.trans (hbn.mono hb1.size)
        clear HC c4_ d4 f0 g0 f1 g1 f2 g2 f3 g3 f4 g4 f5 g5
        cases d
        · have HF : Hid (R = false) := Lib.hid (by rw [HRF.out, show r3 = false from HN.out] <;> simp)
          go_wp2_with fail
          go_ret
          exact ⟨ret_bool HF.out.symm, hbx⟩
        · have HT : Hid (r3 = Z.all2 (Z.exSame n) (l1.drop (k + 1)) (l2.drop (k + 1))) := HN
          clear HN
          go_wp2_with fail
          go_roundw
          case rel => first | exact ⟨k + 1, by omega, by go_num, HT, hbn⟩ | ((repeat apply Exists.intro); exact ⟨⟨k + 1, by omega, by go_num, HT, hbn⟩, rfl⟩)
          case measure => simp [intOf]; omega
      · obtain rfl : k = n1 := by omega
        have HT : Hid (r3 = true) := Lib.hid (by rw [HI.out]; have h1 := HL1.out; have h2 := HL2.out; have h3 := Z.all2_end (f := Z.exSame n) (l := l1) (m := l2) (by omega); rw [← h1] at h3; exact h3)
        have HF : Hid (R = true) := Lib.hid (by rw [HRF.out, HT.out])
        go_wp2_with fail
        go_ret
        exact ⟨ret_bool HF.out.symm, hbw⟩
set_option maxRecDepth 100000 in
set_option maxHeartbeats 16000000 in
theorem rcsame_any {m : Nat} : ∀ (n : Nat) (x y : Z.Co m n) (a b : Z.CN m) (u dv sv u' dv' sv' : Value) (w : World), CV w n x ⟨a, u, dv, sv⟩ → CV w n y ⟨b, u', dv', sv'⟩ → Calls Tryd.prog 30 #[.agg #[.int .u8 a.k, .string a.fr, .string a.tu, .string a.nm, .int .u8 a.ex.top.k, .string a.ex.top.rat, .string a.ex.top.name, .int .i64 a.ex.top.date, u, .int .i64 a.date, dv, sv], .agg #[.int .u8 b.k, .string b.fr, .string b.tu, .string b.nm, .int .u8 b.ex.top.k, .string b.ex.top.rat, .string b.ex.top.name, .int .i64 b.ex.top.date, u', .int .i64 b.date, dv', sv']] w fun e w' => e = .returned (.bool (Z.coSame n x y)) ∧ Below w.heap.size w w' := by
  intro n
  induction n with
  | zero => intro x; exact x.no
  | succ n ih =>
    intro x y a b u dv sv u' dv' sv' w hx hy
    have HK1 := Lib.hid hx.shape
    have HK2 := Lib.hid hy.shape
    obtain ⟨rfl, hX1, hD1, hS1⟩ := hx.open_
    obtain ⟨rfl, hX2, hD2, hS2⟩ := hy.open_
    obtain ⟨⟨Au, ku, cu, rfl⟩, _, _⟩ := HK1.out
    obtain ⟨⟨Bu, lu, eu, rfl⟩, _, _⟩ := HK2.out
    obtain ⟨Ad, cd, rfl, hdc1, hdm1⟩ := hD1.shape
    obtain ⟨Bd, ed, rfl, hdc2, hdm2⟩ := hD2.shape
    obtain ⟨A1, c1, rfl, hc1, hm1⟩ := hS1.shape
    obtain ⟨A2, c2, rfl, hc2, hm2⟩ := hS2.shape
    unfold maxLen at hm1 hm2 hdm1 hdm2
    obtain ⟨n1, hn1⟩ : ∃ n1, n1 = x.sub.length := ⟨_, rfl⟩
    obtain ⟨n2, hn2⟩ : ∃ n2, n2 = y.sub.length := ⟨_, rfl⟩
    have HL1 := Lib.hid hn1
    have HL2 := Lib.hid hn2
    rw [← hn1] at hS1 hc1 ⊢
    rw [← hn2] at hS2 hc2 ⊢
    have hb0 := (Below.refl _ w).alloc (Nat.le_refl w.heap.size) (.cells #[.int .u8 x.top.k, .string x.top.fr, .string x.top.tu, .string x.top.nm, .int .u8 x.top.ex.top.k, .string x.top.ex.top.rat, .string x.top.ex.top.name, .int .i64 x.top.ex.top.date, .slice Au ku cu, .int .i64 x.top.date, .slice Ad x.top.dates.length cd, .slice A1 n1 c1] 29)
    have hb1 := hb0.alloc hb0.size (.cells #[.int .u8 y.top.k, .string y.top.fr, .string y.top.tu, .string y.top.nm, .int .u8 y.top.ex.top.k, .string y.top.ex.top.rat, .string y.top.ex.top.name, .int .i64 y.top.ex.top.date, .slice Bu lu eu, .int .i64 y.top.date, .slice Bd y.top.dates.length ed, .slice A2 n2 c2] 29)
    have BX := (Blk.new w 29 #[.int .u8 x.top.k, .string x.top.fr, .string x.top.tu, .string x.top.nm, .int .u8 x.top.ex.top.k, .string x.top.ex.top.rat, .string x.top.ex.top.name, .int .i64 x.top.ex.top.date, .slice Au ku cu, .int .i64 x.top.date, .slice Ad x.top.dates.length cd, .slice A1 n1 c1]).alloc (.cells #[.int .u8 y.top.k, .string y.top.fr, .string y.top.tu, .string y.top.nm, .int .u8 y.top.ex.top.k, .string y.top.ex.top.rat, .string y.top.ex.top.name, .int .i64 y.top.ex.top.date, .slice Bu lu eu, .int .i64 y.top.date, .slice Bd y.top.dates.length ed, .slice A2 n2 c2] 29)
    have BY := Blk.new (w.alloc (.cells #[.int .u8 x.top.k, .string x.top.fr, .string x.top.tu, .string x.top.nm, .int .u8 x.top.ex.top.k, .string x.top.ex.top.rat, .string x.top.ex.top.name, .int .i64 x.top.ex.top.date, .slice Au ku cu, .int .i64 x.top.date, .slice Ad x.top.dates.length cd, .slice A1 n1 c1] 29)) 29 #[.int .u8 y.top.k, .string y.top.fr, .string y.top.tu, .string y.top.nm, .int .u8 y.top.ex.top.k, .string y.top.ex.top.rat, .string y.top.ex.top.name, .int .i64 y.top.ex.top.date, .slice Bu lu eu, .int .i64 y.top.date, .slice Bd y.top.dates.length ed, .slice A2 n2 c2]
    rw [World.size_alloc] at BY
    have c0_ := BX.cell 0
    have d0 := BY.cell 0
    have c1_ := BX.cell 1
    have d1 := BY.cell 1
    have c2_ := BX.cell 2
    have d2 := BY.cell 2
    have c3_ := BX.cell 3
    have d3 := BY.cell 3
    have c4_ := BX.cell 4
    have d4 := BY.cell 4
    have c5_ := BX.cell 5
    have d5 := BY.cell 5
    have c6_ := BX.cell 6
    have d6 := BY.cell 6
    have c7_ := BX.cell 7
    have d7 := BY.cell 7
    have c8_ := BX.cell 8
    have d8 := BY.cell 8
    have c9_ := BX.cell 9
    have d9 := BY.cell 9
    have c10_ := BX.cell 10
    have d10 := BY.cell 10
    have c11_ := BX.cell 11
    have d11 := BY.cell 11
    have HX1 := Lib.hid (XV.below hb1 (m + 1) hX1)
    have HX2 := Lib.hid (XV.below hb1 (m + 1) hX2)
    have HD1 := Lib.hid (SL.below hD1 hb1)
    have HD2 := Lib.hid (SL.below hD2 hb1)
    have HS1 := Lib.hid (CS.below hb1 hS1)
    have HS2 := Lib.hid (CS.below hb1 hS2)
    have IH := Lib.hid ih
    have HE1 := Lib.hid (fun W (h : Below _ _ W) => rxsame_any (m + 1) x.top.ex y.top.ex x.top.ex.top y.top.ex.top (.slice Au ku cu) (.slice Bu lu eu) W (XV.below h (m + 1) HX1.out) (XV.below h (m + 1) HX2.out))
    have HE2 := Lib.hid (fun W (h : Below _ _ W) => samedays_any _ _ x.top.dates y.top.dates W (SL.below HD1.out h) (SL.below HD2.out h))
    obtain ⟨r3, hr3⟩ : ∃ r3, r3 = Z.all2 (Z.coSame n) x.sub y.sub := ⟨_, rfl⟩
    have HR : Hid (Z.coSame (n + 1) x y = (Z.topC x.top y.top && (Z.exSame (m + 1) x.top.ex y.top.ex && (Z.eqD x.top.dates y.top.dates && r3)))) := Lib.hid (by rw [hr3]; rfl)
    have HL0 : Hid (r3 = Z.all2 (Z.coSame n) (x.sub.drop 0) (y.sub.drop 0)) := Lib.hid hr3
    have HRL : Hid (n1 ≠ n2 → r3 = false) := Lib.hid (fun h => hr3.trans (Z.all2_len _ _ (by rw [← hn1, ← hn2]; exact h)))
    unfold Z.topC at HR
    have h0 := Z.neI x.top.k y.top.k
    have h1 := Z.neS x.top.fr y.top.fr
    have h2 := Z.neS x.top.tu y.top.tu
    have h3 := Z.neS x.top.nm y.top.nm
    have h4 := Z.neI x.top.date y.top.date
    generalize Z.coSame (n + 1) x y = R at *
    generalize Z.exSame (m + 1) x.top.ex y.top.ex = r1 at *
    generalize Z.eqD x.top.dates y.top.dates = r2 at *
    clear hx hy hS1 hS2 hX1 hX2 hD1 hD2 HK1 HK2 HX1 HX2 HD1 HD2 ih hr3 hn1 hn2
    generalize x.sub = l1 at *
    generalize y.sub = l2 at *
    generalize x.top = s at *
    generalize y.top = t at *
    generalize decide (s.k = t.k) = b0 at *
    generalize decide (s.fr = t.fr) = b1 at *
    generalize decide (s.tu = t.tu) = b2 at *
    generalize decide (s.nm = t.nm) = b3 at *
    generalize decide (s.date = t.date) = b4 at *
    cases b0
    · have HF : Hid (R = false) := Lib.hid (by rw [HR.out]; simp)
      have qh0 := Z.ne_t h0
      clear BX BY
      go_enter Tryd.func30, Tryd.ntmps30
      go_wp2_with fail
      go_ret
      exact ⟨ret_bool HF.out.symm, hb1⟩
    cases b1
    · have HF : Hid (R = false) := Lib.hid (by rw [HR.out]; simp)
      have qh1 := Z.ne_t h1
      clear BX BY
      go_enter Tryd.func30, Tryd.ntmps30
      go_wp2_with fail
      go_ret
      exact ⟨ret_bool HF.out.symm, hb1⟩
    have qh1 := Z.ne_f h1
    cases b2
    · have HF : Hid (R = false) := Lib.hid (by rw [HR.out]; simp)
      have qh2 := Z.ne_t h2
      clear BX BY
      go_enter Tryd.func30, Tryd.ntmps30
      go_wp2_with fail
      go_ret
      exact ⟨ret_bool HF.out.symm, hb1⟩
    have qh2 := Z.ne_f h2
    cases b3
    · have HF : Hid (R = false) := Lib.hid (by rw [HR.out]; simp)
      have qh3 := Z.ne_t h3
      clear BX BY
      go_enter Tryd.func30, Tryd.ntmps30
      go_wp2_with fail
      go_ret
      exact ⟨ret_bool HF.out.symm, hb1⟩
    have qh3 := Z.ne_f h3
    cases b4
    · have HF : Hid (R = false) := Lib.hid (by rw [HR.out]; simp)
      have qh4 := Z.ne_t h4
      clear BX BY
      go_enter Tryd.func30, Tryd.ntmps30
      go_wp2_with fail
      go_ret
      exact ⟨ret_bool HF.out.symm, hb1⟩
    by_cases hl : n1 = n2
    case neg =>
      have HF : Hid (R = false) := Lib.hid (by rw [HR.out, HRL.out hl]; simp)
      have hne : ((n1 : Int) != (n2 : Int)) = true := by rw [bne_iff_ne]; omega
      clear hl BX BY
      go_enter Tryd.func30, Tryd.ntmps30
      go_wp2_with fail
      go_ret
      exact ⟨ret_bool HF.out.symm, hb1⟩
    subst hl
    have HRF : Hid (R = (r1 && (r2 && r3))) := Lib.hid (by rw [HR.out]; simp)
    go_enter Tryd.func30, Tryd.ntmps30
    go_wp2_with fail
    generalize ((w.alloc (.cells #[.int .u8 s.k, .string s.fr, .string s.tu, .string s.nm, .int .u8 s.ex.top.k, .string s.ex.top.rat, .string s.ex.top.name, .int .i64 s.ex.top.date, .slice Au ku cu, .int .i64 s.date, .slice Ad s.dates.length cd, .slice A1 n1 c1] 29)).alloc (.cells #[.int .u8 t.k, .string t.fr, .string t.tu, .string t.nm, .int .u8 t.ex.top.k, .string t.ex.top.rat, .string t.ex.top.name, .int .i64 t.ex.top.date, .slice Bu lu eu, .int .i64 t.date, .slice Bd t.dates.length ed, .slice A2 n1 c2] 29)) = W0 at *
    go_loopw [5] (fun iv wr => ∃ k : Nat, k ≤ n1 ∧ iv = .int .i64 k ∧ Hid (r3 = Z.all2 (Z.coSame n) (l1.drop k) (l2.drop k)) ∧ Below W0.heap.size W0 wr) (fun iv _ => n1 - (intOf iv).toNat)
    case atStart => exact ⟨0, by omega, rfl, HL0, Below.refl _ _⟩
    case round =>
      obtain ⟨k, hk, rfl, HI, hbr⟩ := hrel
      clear HL0
      have hbw := hb1.trans (hbr.mono hb1.size)
      have BXr := BX.below hbr
      have BYr := BY.below hbr
      have c11_ := BXr.cell 11
      have d11 := BYr.cell 11
      by_cases hlt : k < n1
      · have hlt1 : k < l1.length := by have := HL1.out; omega
        have hlt2 : k < l2.length := by have := HL2.out; omega
        have hz1 : l1[k]? = some l1[k] := List.getElem?_eq_getElem hlt1
        have hz2 : l2[k]? = some l2[k] := List.getElem?_eq_getElem hlt2
        obtain ⟨b1, o1, a1, u1, dd1, s1, rfl, he1, p0, p1, p2, p3, p4, p5, p6, p7, p8, p9, p10, p11, hv1⟩ := CS.cells (CS.below hbr HS1.out) hz1
        obtain ⟨b2, o2, a2, u2, dd2, s2, rfl, he2, q0, q1, q2, q3, q4, q5, q6, q7, q8, q9, q10, q11, hv2⟩ := CS.cells (CS.below hbr HS2.out) hz2
        have HD := Lib.hid (Z.all2_drop (f := Z.coSame n) hz1 hz2)
        clear hz1 hz2
        generalize l1[k] = x at *
        generalize l2[k] = y at *
        clear hlt1 hlt2
        have hi0 : (0 : Int) ≤ (k : Int) := by omega
        have hi1 : (k : Int) < (n1 : Int) := by omega
        have f0 : ∀ z : Ab wr, z.1.cell? ⟨w.heap.size, 11, none⟩ = some (.slice (some ⟨b1, o1, none⟩) n1 c1) := fun z => (Ab.cells (x := z) BXr).cell 11
        have g0 : ∀ z : Ab wr, z.1.cell? ⟨w.heap.size + 1, 11, none⟩ = some (.slice (some ⟨b2, o2, none⟩) n1 c2) := fun z => (Ab.cells (x := z) BYr).cell 11
        have f1 : ∀ z : Ab wr, z.1.cell? ⟨b1, o1 + k * 12, none⟩ = some (.int .u8 a1.k) := fun z => (z.2.cell (p := ⟨b1, o1 + k * 12, none⟩) he1).trans p0
        have f2 : ∀ z : Ab wr, z.1.cell? ⟨b1, o1 + k * 12 + 1, none⟩ = some (.string a1.fr) := fun z => (z.2.cell (p := ⟨b1, o1 + k * 12 + 1, none⟩) he1).trans p1
        have f3 : ∀ z : Ab wr, z.1.cell? ⟨b1, o1 + k * 12 + 2, none⟩ = some (.string a1.tu) := fun z => (z.2.cell (p := ⟨b1, o1 + k * 12 + 2, none⟩) he1).trans p2
        have f4 : ∀ z : Ab wr, z.1.cell? ⟨b1, o1 + k * 12 + 3, none⟩ = some (.string a1.nm) := fun z => (z.2.cell (p := ⟨b1, o1 + k * 12 + 3, none⟩) he1).trans p3
        have f5 : ∀ z : Ab wr, z.1.cell? ⟨b1, o1 + k * 12 + 4, none⟩ = some (.int .u8 a1.ex.top.k) := fun z => (z.2.cell (p := ⟨b1, o1 + k * 12 + 4, none⟩) he1).trans p4
        have f6 : ∀ z : Ab wr, z.1.cell? ⟨b1, o1 + k * 12 + 5, none⟩ = some (.string a1.ex.top.rat) := fun z => (z.2.cell (p := ⟨b1, o1 + k * 12 + 5, none⟩) he1).trans p5
        have f7 : ∀ z : Ab wr, z.1.cell? ⟨b1, o1 + k * 12 + 6, none⟩ = some (.string a1.ex.top.name) := fun z => (z.2.cell (p := ⟨b1, o1 + k * 12 + 6, none⟩) he1).trans p6
        have f8 : ∀ z : Ab wr, z.1.cell? ⟨b1, o1 + k * 12 + 7, none⟩ = some (.int .i64 a1.ex.top.date) := fun z => (z.2.cell (p := ⟨b1, o1 + k * 12 + 7, none⟩) he1).trans p7
        have f9 : ∀ z : Ab wr, z.1.cell? ⟨b1, o1 + k * 12 + 8, none⟩ = some (u1) := fun z => (z.2.cell (p := ⟨b1, o1 + k * 12 + 8, none⟩) he1).trans p8
        have f10 : ∀ z : Ab wr, z.1.cell? ⟨b1, o1 + k * 12 + 9, none⟩ = some (.int .i64 a1.date) := fun z => (z.2.cell (p := ⟨b1, o1 + k * 12 + 9, none⟩) he1).trans p9
        have f11 : ∀ z : Ab wr, z.1.cell? ⟨b1, o1 + k * 12 + 10, none⟩ = some (dd1) := fun z => (z.2.cell (p := ⟨b1, o1 + k * 12 + 10, none⟩) he1).trans p10
        have f12 : ∀ z : Ab wr, z.1.cell? ⟨b1, o1 + k * 12 + 11, none⟩ = some (s1) := fun z => (z.2.cell (p := ⟨b1, o1 + k * 12 + 11, none⟩) he1).trans p11
        have g1 : ∀ z : Ab wr, z.1.cell? ⟨b2, o2 + k * 12, none⟩ = some (.int .u8 a2.k) := fun z => (z.2.cell (p := ⟨b2, o2 + k * 12, none⟩) he2).trans q0
        have g2 : ∀ z : Ab wr, z.1.cell? ⟨b2, o2 + k * 12 + 1, none⟩ = some (.string a2.fr) := fun z => (z.2.cell (p := ⟨b2, o2 + k * 12 + 1, none⟩) he2).trans q1
        have g3 : ∀ z : Ab wr, z.1.cell? ⟨b2, o2 + k * 12 + 2, none⟩ = some (.string a2.tu) := fun z => (z.2.cell (p := ⟨b2, o2 + k * 12 + 2, none⟩) he2).trans q2
        have g4 : ∀ z : Ab wr, z.1.cell? ⟨b2, o2 + k * 12 + 3, none⟩ = some (.string a2.nm) := fun z => (z.2.cell (p := ⟨b2, o2 + k * 12 + 3, none⟩) he2).trans q3
        have g5 : ∀ z : Ab wr, z.1.cell? ⟨b2, o2 + k * 12 + 4, none⟩ = some (.int .u8 a2.ex.top.k) := fun z => (z.2.cell (p := ⟨b2, o2 + k * 12 + 4, none⟩) he2).trans q4
        have g6 : ∀ z : Ab wr, z.1.cell? ⟨b2, o2 + k * 12 + 5, none⟩ = some (.string a2.ex.top.rat) := fun z => (z.2.cell (p := ⟨b2, o2 + k * 12 + 5, none⟩) he2).trans q5
        have g7 : ∀ z : Ab wr, z.1.cell? ⟨b2, o2 + k * 12 + 6, none⟩ = some (.string a2.ex.top.name) := fun z => (z.2.cell (p := ⟨b2, o2 + k * 12 + 6, none⟩) he2).trans q6
        have g8 : ∀ z : Ab wr, z.1.cell? ⟨b2, o2 + k * 12 + 7, none⟩ = some (.int .i64 a2.ex.top.date) := fun z => (z.2.cell (p := ⟨b2, o2 + k * 12 + 7, none⟩) he2).trans q7
        have g9 : ∀ z : Ab wr, z.1.cell? ⟨b2, o2 + k * 12 + 8, none⟩ = some (u2) := fun z => (z.2.cell (p := ⟨b2, o2 + k * 12 + 8, none⟩) he2).trans q8
        have g10 : ∀ z : Ab wr, z.1.cell? ⟨b2, o2 + k * 12 + 9, none⟩ = some (.int .i64 a2.date) := fun z => (z.2.cell (p := ⟨b2, o2 + k * 12 + 9, none⟩) he2).trans q9
        have g11 : ∀ z : Ab wr, z.1.cell? ⟨b2, o2 + k * 12 + 10, none⟩ = some (dd2) := fun z => (z.2.cell (p := ⟨b2, o2 + k * 12 + 10, none⟩) he2).trans q10
        have g12 : ∀ z : Ab wr, z.1.cell? ⟨b2, o2 + k * 12 + 11, none⟩ = some (s2) := fun z => (z.2.cell (p := ⟨b2, o2 + k * 12 + 11, none⟩) he2).trans q11
        have HC : Hid (∀ z : Ab wr, Calls Tryd.prog 30 #[.agg #[.int .u8 a1.k, .string a1.fr, .string a1.tu, .string a1.nm, .int .u8 a1.ex.top.k, .string a1.ex.top.rat, .string a1.ex.top.name, .int .i64 a1.ex.top.date, u1, .int .i64 a1.date, dd1, s1], .agg #[.int .u8 a2.k, .string a2.fr, .string a2.tu, .string a2.nm, .int .u8 a2.ex.top.k, .string a2.ex.top.rat, .string a2.ex.top.name, .int .i64 a2.ex.top.date, u2, .int .i64 a2.date, dd2, s2]] z.1 fun e w' => e = .returned (.bool (Z.coSame n x y)) ∧ Below z.1.heap.size z.1 w') := Lib.hid fun z => IH.out x y a1 a2 _ _ _ _ _ _ z.1 (CV.below z.2 n hv1) (CV.below z.2 n hv2)
        have HN : Hid (r3 = (Z.coSame n x y && Z.all2 (Z.coSame n) (l1.drop (k + 1)) (l2.drop (k + 1)))) := Lib.hid (by rw [HI.out, HD.out])
        generalize Z.coSame n x y = d at *
        clear hv1 hv2 HI HD p0 q0 p1 q1 p2 q2 p3 q3 p4 q4 p5 q5 p6 q6 p7 q7 p8 q8 p9 q9 p10 q10 p11 q11
        go_wp2_with fail
        refine wp_region_above (by kernel_rfl) (by kernel_rfl) ?_
        repeat (go_big_quiet_step (first | (go_at_call 30; with_reducible exact Ab.step (HC.out _))))
        refine wpQuiet_nil ?_
        rintro _ ⟨z, rfl⟩
        have hbn := hbr.trans (z.2.mono hbr.size)
        have hbx := hb1.trans (hbn.mono hb1.size)
        clear HC c11_ d11 f0 g0 f1 g1 f2 g2 f3 g3 f4 g4 f5 g5 f6 g6 f7 g7 f8 g8 f9 g9 f10 g10 f11 g11 f12 g12
        cases d
        · have HF : Hid (R = false) := Lib.hid (by rw [HRF.out, show r3 = false from HN.out] <;> simp)
          go_wp2_with fail
          go_ret
          exact ⟨ret_bool HF.out.symm, hbx⟩
        · have HT : Hid (r3 = Z.all2 (Z.coSame n) (l1.drop (k + 1)) (l2.drop (k + 1))) := HN
          clear HN
          go_wp2_with fail
          go_roundw
          case rel => first | exact ⟨k + 1, by omega, by go_num, HT, hbn⟩ | ((repeat apply Exists.intro); exact ⟨⟨k + 1, by omega, by go_num, HT, hbn⟩, rfl⟩)
          case measure => simp [intOf]; omega
      · obtain rfl : k = n1 := by omega
        have HT : Hid (r3 = true) := Lib.hid (by rw [HI.out]; have h1 := HL1.out; have h2 := HL2.out; have h3 := Z.all2_end (f := Z.coSame n) (l := l1) (m := l2) (by omega); rw [← h1] at h3; exact h3)
        have HRF2 : Hid (R = (r1 && r2)) := Lib.hid (by rw [HRF.out, HT.out]; simp)
        have BX1 := BX.below hbr
        have BY1 := BY.below hbr
        clear c11_ d11 BX BY
        have c0_ := BX1.cell 0
        have d0 := BY1.cell 0
        have c1_ := BX1.cell 1
        have d1 := BY1.cell 1
        have c2_ := BX1.cell 2
        have d2 := BY1.cell 2
        have c3_ := BX1.cell 3
        have d3 := BY1.cell 3
        have c4_ := BX1.cell 4
        have d4 := BY1.cell 4
        have c5_ := BX1.cell 5
        have d5 := BY1.cell 5
        have c6_ := BX1.cell 6
        have d6 := BY1.cell 6
        have c7_ := BX1.cell 7
        have d7 := BY1.cell 7
        have c8_ := BX1.cell 8
        have d8 := BY1.cell 8
        have c9_ := BX1.cell 9
        have d9 := BY1.cell 9
        have c10_ := BX1.cell 10
        have d10 := BY1.cell 10
        have c11_ := BX1.cell 11
        have d11 := BY1.cell 11
        go_wp2_with fail
        refine (HE1.out wr hbr).mono ?_
        rintro e W3 ⟨rfl, hb3⟩
        have hb34 := hbr.trans (hb3.mono hbr.size)
        have hbx := hb1.trans (hb34.mono hb1.size)
        cases r1
        · have HF1 : Hid (R = false) := HRF2
          go_wp2_with fail
          go_ret
          exact ⟨ret_bool HF1.out.symm, hbx⟩
        have BX2 := BX1.below hb3
        have BY2 := BY1.below hb3
        clear BX1 BY1 c0_ d0 c1_ d1 c2_ d2 c3_ d3 c4_ d4 c5_ d5 c6_ d6 c7_ d7 c8_ d8 c9_ d9 c10_ d10 c11_ d11
        have c0_ := BX2.cell 0
        have d0 := BY2.cell 0
        have c1_ := BX2.cell 1
        have d1 := BY2.cell 1
        have c2_ := BX2.cell 2
        have d2 := BY2.cell 2
        have c3_ := BX2.cell 3
        have d3 := BY2.cell 3
        have c4_ := BX2.cell 4
        have d4 := BY2.cell 4
        have c5_ := BX2.cell 5
        have d5 := BY2.cell 5
        have c6_ := BX2.cell 6
        have d6 := BY2.cell 6
        have c7_ := BX2.cell 7
        have d7 := BY2.cell 7
        have c8_ := BX2.cell 8
        have d8 := BY2.cell 8
        have c9_ := BX2.cell 9
        have d9 := BY2.cell 9
        have c10_ := BX2.cell 10
        have d10 := BY2.cell 10
        have c11_ := BX2.cell 11
        have d11 := BY2.cell 11
        go_wp2_with fail
        refine (HE2.out W3 hb34).mono ?_
        rintro e W4 ⟨rfl, hb4⟩
        have hby := hbx.trans (hb4.mono hbx.size)
        have HF1 : Hid (R = r2) := HRF2
        go_wp2_with fail
        go_ret
        exact ⟨ret_bool HF1.out.symm, hby⟩
end Go.Proofs.YtifafmomkpkgdaaDoor
