/- Walks: integer.Add, Sub, Mul, Compare. -/
import Derived.Test.YthafdckomhdlbaaIpair
import Derived.Test.YthafdckomhdlbaaImul
namespace Go.Proofs.Ythafdckomhdlbaa
open Go.RowKit

def OpRet (f : Int → Int → Int) (a b : ByteArray) (w : World) (e : Ending) (w' : World) : Prop := e = .returned (.tuple #[.string (Z.opS f a b), .int .i64 (Z.opE f a b)]) ∧ Below w.heap.size w w'
theorem op_bad {f : Int → Int → Int} {a b : ByteArray} {w w' : World} (h : Z.bothE a b ≠ 0) (hb : Below w.heap.size w w') : OpRet f a b w (.returned (.tuple #[.string ⟨#[]⟩, .int .i64 (Z.bothE a b)])) w' := by
  unfold OpRet Z.opS Z.opE
  rw [if_neg h, if_neg h]
  exact ⟨rfl, hb⟩
theorem op_ok {f : Int → Int → Int} {a b : ByteArray} {w w' : World} {z : Int} (h : Z.bothE a b = 0) (hz : f (Z.ival a.data.toList) (Z.ival b.data.toList) = z) (hb : Below w.heap.size w w') : OpRet f a b w (.returned (.tuple #[.string (Z.resS z), .int .i64 (Z.resE z)])) w' := by
  subst hz
  unfold OpRet Z.opS Z.opE
  rw [if_pos h, if_pos h]
  exact ⟨rfl, hb⟩
/-- The sizes of two integers without errors. -/
theorem both_len {a b : ByteArray} (h : Z.bothE a b = 0) : (Z.dg 1000000000 (Z.ival a.data.toList).natAbs).length ≤ 1001 ∧ (Z.dg 1000000000 (Z.ival b.data.toList).natAbs).length ≤ 1001 := by
  obtain ⟨h1, h2⟩ := Z.bothE_zero h
  have h3 := Z.dg_len_le_size (Z.chk_zero_iff.1 h1).1
  have h4 := Z.dg_len_le_size (Z.chk_zero_iff.1 h2).1
  have h5 := Z.chk_size h1
  have h6 := Z.chk_size h2
  omega
theorem Z.dg_len_add {x y : Int} (hx : (Z.dg 1000000000 x.natAbs).length ≤ 1001) (hy : (Z.dg 1000000000 y.natAbs).length ≤ 1001) : (Z.dg 1000000000 (x + y).natAbs).length ≤ 1002 := by
  have e : 2 ≤ 1000000000 := by omega
  generalize 1000000000 = b at *
  have h1 := Z.ofDg_lt b (by omega) _ (Z.dg_lt b e x.natAbs)
  have h2 := Z.ofDg_lt b (by omega) _ (Z.dg_lt b e y.natAbs)
  rw [Z.ofDg_dg b e] at h1 h2
  have h0 : ∀ k, k = 1001 → (Z.dg b (x + y).natAbs).length ≤ k + 1 := fun k hk => by
    have h3 : b ^ (Z.dg b x.natAbs).length ≤ b ^ k := Nat.pow_le_pow_right (by omega) (by omega)
    have h4 : b ^ (Z.dg b y.natAbs).length ≤ b ^ k := Nat.pow_le_pow_right (by omega) (by omega)
    refine Z.dg_len_of_lt b e _ (k + 1) ?_
    have h5 : b ^ (k + 1) = b ^ k * b := Nat.pow_succ ..
    have h6 : b ^ k * 2 ≤ b ^ k * b := Nat.mul_le_mul_left _ e
    omega
  exact h0 1001 rfl
theorem Z.dg_len_mul {x y : Nat} (hx : (Z.dg 1000000000 x).length ≤ 1001) (hy : (Z.dg 1000000000 y).length ≤ 1001) : (Z.dg 1000000000 (x * y)).length ≤ 2002 := by
  have e : 2 ≤ 1000000000 := by omega
  generalize 1000000000 = b at *
  refine Nat.le_trans (Z.dg_len_of_lt b e _ ((Z.dg b x).length + (Z.dg b y).length) ?_) (by omega)
  have := Z.mul_lt_pow b (by omega) _ _ (Z.dg_lt b e x) (Z.dg_lt b e y)
  rwa [Z.ofDg_dg b e, Z.ofDg_dg b e] at this
theorem writeN (ng : Bool) (v : Value) (n : Nat) (z : Int) (w : World) (hS : SN .u32 w v (Z.dg 1000000000 n)) (hl : (Z.dg 1000000000 n).length ≤ 1000000) (hz : sgn ng n = z) :
    Calls Try.prog 65 #[.agg #[.bool ng, v]] w (ResRet z w) := by
  have := write_any ng v _ w hS (Z.can_dg _ (by omega) n) hl
  rwa [Z.ofDg_dg _ (by omega), hz] at this
theorem sgn_int (z : Int) : sgn (decide (z < 0)) z.natAbs = z := by
  unfold sgn
  by_cases h : z < 0
  · simp [h]; omega
  · simp [h]; omega

theorem SN.bound {q : IntKind} {w : World} {A : Option Addr} {n c : Nat} {ms : List Nat} (h : SN q w (.slice A n c) ms) : n ≤ 9223372036854775807 := by
  obtain ⟨A', c', hv, h1, h2, _⟩ := h
  simp only [Value.slice.injEq] at hv
  obtain ⟨_, rfl, rfl⟩ := hv
  unfold maxLen at h2
  omega
theorem timesN (v u : Value) (n m : Nat) (w : World) (hS : SN .u32 w v (Z.dg 1000000000 n)) (hT : SN .u32 w u (Z.dg 1000000000 m)) (hl : (Z.dg 1000000000 n).length ≤ 100000) (hl' : (Z.dg 1000000000 m).length ≤ 100000) :
    Calls Try.prog 76 #[v, u] w (MagRet w (n * m)) := by
  have := times_any v u _ _ w hS hT (Z.can_dg _ (by omega) n).1 (Z.can_dg _ (by omega) m).1 (by omega) (by omega)
  rwa [Z.ofDg_dg _ (by omega), Z.ofDg_dg _ (by omega)] at this
theorem mul_sgn (x y : Int) : sgn (decide (x < 0) != decide (y < 0)) (x.natAbs * y.natAbs) = x * y := by
  unfold sgn
  have e : ((x.natAbs * y.natAbs : Nat) : Int) = (x.natAbs : Int) * (y.natAbs : Int) := Int.natCast_mul _ _
  rw [e]
  rcases Int.lt_or_le x 0 with hx | hx <;> rcases Int.lt_or_le y 0 with hy | hy
  · rw [if_neg (by simp [hx, hy]), show (x.natAbs : Int) = -x by omega, show (y.natAbs : Int) = -y by omega, Int.neg_mul_neg]
  · rw [if_pos (by simp [hx]; omega), show (x.natAbs : Int) = -x by omega, show (y.natAbs : Int) = y by omega, Int.neg_mul, Int.neg_neg]
  · rw [if_pos (by simp [hy]; omega), show (x.natAbs : Int) = x by omega, show (y.natAbs : Int) = -y by omega, Int.mul_neg, Int.neg_neg]
  · rw [if_neg (by simp; omega), show (x.natAbs : Int) = x by omega, show (y.natAbs : Int) = y by omega]
set_option maxHeartbeats 1000000 in
theorem add_any (a b : ByteArray) (w : World) (ha : a.size ≤ maxLen) (hb : b.size ≤ maxLen) :
    Calls Try.prog 47 #[.string a, .string b] w (OpRet (fun x y => x + y) a b w) := by
  by_cases h : Z.bothE a b = 0
  · have P := Lib.hid (fun W : World => pair_ok a b W h)
    obtain ⟨hx, hy⟩ := both_len h
    have HF := Lib.hid (fun (w' : World) (hw : Below w.heap.size w w') => op_ok (f := (fun x y => x + y)) h rfl hw)
    clear h
    generalize Z.ival a.data.toList = x at *
    generalize Z.ival b.data.toList = y at *
    have hz := Z.dg_len_add hx hy
    go_enter Try.func47, Try.ntmps47
    go_wp2_with fail
    refine (P.out _).mono ?_
    rintro e w1 ⟨A, c, A', c', rfl, hs, ht, hb1⟩
    have hlX := hs.bound
    have hlY := ht.bound
    go_wp2_with fail
    have hbA := (Below.refl w1.heap.size w1).alloc (Nat.le_refl _) (.cells #[.bool (decide (x < 0)), .slice A (Z.dg 1000000000 x.natAbs).length c] 91)
    have hbB := hbA.alloc hbA.size (.cells #[.bool (decide (y < 0)), .slice A' (Z.dg 1000000000 y.natAbs).length c'] 91)
    refine (sum_any _ _ x y _ (hs.below hbB) (ht.below hbB) (by omega) (by omega)).mono ?_
    rintro e w2 ⟨v2, rfl, ho2, hb2⟩
    go_wp2_with fail
    refine (writeN _ _ _ (x + y) _ ho2.sn (by omega) (sgn_int _)).mono ?_
    rintro e w3 ⟨rfl, hb3⟩
    go_wp2_with fail
    go_ret2
    exact HF.out _ (hb1.trans ((hbB.trans ((hb2.trans (hb3.mono hb2.size)).mono hbB.size)).mono hb1.size))
  · have hne : (Z.bothE a b == 0) = false := by simpa using h
    have P := Lib.hid (fun W : World => pair_bad a b W ha hb h)
    have HF := Lib.hid (fun (w' : World) (hw : Below w.heap.size w w') => op_bad (f := (fun x y => x + y)) h hw)
    clear h
    generalize Z.bothE a b = k at *
    go_enter Try.func47, Try.ntmps47
    go_wp2_with fail
    refine (P.out _).mono ?_
    rintro e w1 ⟨rfl, hb1⟩
    go_wp2_with fail
    go_ret2
    exact HF.out _ ((hb1.alloc hb1.size _).alloc (by have := hb1.size; simp; omega) _)
set_option maxHeartbeats 1000000 in
theorem sub_any (a b : ByteArray) (w : World) (ha : a.size ≤ maxLen) (hb : b.size ≤ maxLen) :
    Calls Try.prog 53 #[.string a, .string b] w (OpRet (fun x y => x + -y) a b w) := by
  by_cases h : Z.bothE a b = 0
  · have P := Lib.hid (fun W : World => pair_ok a b W h)
    obtain ⟨hx, hy⟩ := both_len h
    have HF := Lib.hid (fun (w' : World) (hw : Below w.heap.size w w') => op_ok (f := (fun x y => x + -y)) h rfl hw)
    clear h
    generalize Z.ival a.data.toList = x at *
    generalize Z.ival b.data.toList = y at *
    have hz := Z.dg_len_add (x := x) (y := -y) hx (by rw [Int.natAbs_neg]; exact hy)
    have hps := dg_pos_len y.natAbs
    have e1 : decide (0 < y.natAbs) = (decide (-y < 0) || decide (y < 0)) := by rw [Bool.eq_iff_iff]; simp; omega
    rw [e1] at hps
    have e2 : decide (y < 0) = true → decide (-y < 0) = false := by simp; omega
    have hs' := fun (W : World) v u hS hT => sum_any v u x (-y) W hS hT (by omega) (by rw [Int.natAbs_neg]; omega)
    rw [Int.natAbs_neg] at hs'
    have HS := Lib.hid hs'
    clear hs' e1
    go_enter Try.func53, Try.ntmps53
    go_wp2_with fail
    refine (P.out _).mono ?_
    rintro e w1 ⟨A, c, A', c', rfl, hs, ht, hb1⟩
    have hlX := hs.bound
    have hlY := ht.bound
    generalize decide (y < 0) = q at *
    generalize decide (-y < 0) = q' at *
    have hbA := (Below.refl w1.heap.size w1).alloc (Nat.le_refl _) (.cells #[.bool (decide (x < 0)), .slice A (Z.dg 1000000000 x.natAbs).length c] 91)
    have hbB := hbA.alloc hbA.size (.cells #[.bool q', .slice A' (Z.dg 1000000000 y.natAbs).length c'] 91)
    have hS2 := hs.below hbB
    have hT2 := ht.below hbB
    clear hs ht
    generalize (Z.dg 1000000000 x.natAbs) = xs at *
    generalize (Z.dg 1000000000 y.natAbs) = ys at *
    cases q
    · have hps2 : decide (0 < (ys.length : Int)) = q' := by rw [hps]; simp
      clear hps e2
      cases q'
      · have hk : ¬ 0 < ys.length := by simpa using hps2
        go_wp2_with fail
        refine (HS.out _ _ _ hS2 hT2).mono ?_
        rintro e w2 ⟨v2, rfl, ho2, hb2⟩
        go_wp2_with fail
        refine (writeN _ _ _ (x + -y) _ ho2.sn (by omega) (sgn_int _)).mono ?_
        rintro e w3 ⟨rfl, hb3⟩
        go_wp2_with fail
        go_ret2
        exact HF.out _ (hb1.trans ((hbB.trans ((hb2.trans (hb3.mono hb2.size)).mono hbB.size)).mono hb1.size))
      · have hk : 0 < ys.length := by simpa using hps2
        go_wp2_with fail
        refine (HS.out _ _ _ hS2 hT2).mono ?_
        rintro e w2 ⟨v2, rfl, ho2, hb2⟩
        go_wp2_with fail
        refine (writeN _ _ _ (x + -y) _ ho2.sn (by omega) (sgn_int _)).mono ?_
        rintro e w3 ⟨rfl, hb3⟩
        go_wp2_with fail
        go_ret2
        exact HF.out _ (hb1.trans ((hbB.trans ((hb2.trans (hb3.mono hb2.size)).mono hbB.size)).mono hb1.size))
    · have hq : q' = false := e2 rfl
      subst hq
      clear hps e2
      go_wp2_with fail
      refine (HS.out _ _ _ hS2 hT2).mono ?_
      rintro e w2 ⟨v2, rfl, ho2, hb2⟩
      go_wp2_with fail
      refine (writeN _ _ _ (x + -y) _ ho2.sn (by omega) (sgn_int _)).mono ?_
      rintro e w3 ⟨rfl, hb3⟩
      go_wp2_with fail
      go_ret2
      exact HF.out _ (hb1.trans ((hbB.trans ((hb2.trans (hb3.mono hb2.size)).mono hbB.size)).mono hb1.size))
  · have hne : (Z.bothE a b == 0) = false := by simpa using h
    have P := Lib.hid (fun W : World => pair_bad a b W ha hb h)
    have HF := Lib.hid (fun (w' : World) (hw : Below w.heap.size w w') => op_bad (f := (fun x y => x + -y)) h hw)
    clear h
    generalize Z.bothE a b = k at *
    go_enter Try.func53, Try.ntmps53
    go_wp2_with fail
    refine (P.out _).mono ?_
    rintro e w1 ⟨rfl, hb1⟩
    go_wp2_with fail
    go_ret2
    exact HF.out _ ((hb1.alloc hb1.size _).alloc (by have := hb1.size; simp; omega) _)
set_option maxHeartbeats 1000000 in
theorem mul_any (a b : ByteArray) (w : World) (ha : a.size ≤ maxLen) (hb : b.size ≤ maxLen) :
    Calls Try.prog 46 #[.string a, .string b] w (OpRet (fun x y => x * y) a b w) := by
  by_cases h : Z.bothE a b = 0
  · have P := Lib.hid (fun W : World => pair_ok a b W h)
    obtain ⟨hx, hy⟩ := both_len h
    have HF := Lib.hid (fun (w' : World) (hw : Below w.heap.size w w') => op_ok (f := (fun x y => x * y)) h rfl hw)
    clear h
    generalize Z.ival a.data.toList = x at *
    generalize Z.ival b.data.toList = y at *
    have hz := Z.dg_len_mul hx hy
    have hsg : sgn (decide (x < 0) != decide (y < 0)) (x.natAbs * y.natAbs) = x * y := mul_sgn x y
    have HT := Lib.hid (fun (W : World) v u hS hT => timesN v u x.natAbs y.natAbs W hS hT (by omega) (by omega))
    have HW := Lib.hid (fun (W : World) v hS => writeN (decide (x < 0) != decide (y < 0)) v (x.natAbs * y.natAbs) (x * y) W hS (by omega) hsg)
    clear hsg hz
    go_enter Try.func46, Try.ntmps46
    go_wp2_with fail
    refine (P.out _).mono ?_
    rintro e w1 ⟨A, c, A', c', rfl, hs, ht, hb1⟩
    have hlX := hs.bound
    have hlY := ht.bound
    generalize decide (x < 0) = p at *
    generalize decide (y < 0) = q at *
    go_wp2_with fail
    have hbA := (Below.refl w1.heap.size w1).alloc (Nat.le_refl _) (.cells #[.bool p, .slice A (Z.dg 1000000000 x.natAbs).length c] 91)
    have hbB := hbA.alloc hbA.size (.cells #[.bool q, .slice A' (Z.dg 1000000000 y.natAbs).length c'] 91)
    have hS0 := hs.below hbB
    have hT0 := ht.below hbB
    have b1 := (Blk.new w1 91 #[.bool p, .slice A (Z.dg 1000000000 x.natAbs).length c]).alloc (.cells #[.bool q, .slice A' (Z.dg 1000000000 y.natAbs).length c'] 91)
    have b2 : Blk ((w1.alloc (.cells #[.bool p, .slice A (Z.dg 1000000000 x.natAbs).length c] 91)).alloc (.cells #[.bool q, .slice A' (Z.dg 1000000000 y.natAbs).length c'] 91)) (w1.heap.size + 1) 91 #[.bool q, .slice A' (Z.dg 1000000000 y.natAbs).length c'] := by
      have h := Blk.new (w1.alloc (.cells #[.bool p, .slice A (Z.dg 1000000000 x.natAbs).length c] 91)) 91 #[.bool q, .slice A' (Z.dg 1000000000 y.natAbs).length c']
      rwa [World.size_alloc] at h
    have hbE := hb1.trans (hbB.mono hb1.size)
    clear hs ht hbA hb1
    generalize (Z.dg 1000000000 x.natAbs) = xs at *
    generalize (Z.dg 1000000000 y.natAbs) = ys at *
    generalize ((w1.alloc (.cells #[.bool p, .slice A xs.length c] 91)).alloc (.cells #[.bool q, .slice A' ys.length c'] 91)) = W0 at *
    have l2 := b2.lt
    generalize w1.heap.size = B at *
    clear hbB
    have c0 : W0.cell? ⟨B, 0, none⟩ = some (.bool p) := b1.cell 0
    have c1 : W0.cell? ⟨B, 1, none⟩ = some (.slice A xs.length c) := b1.cell 1
    have c2 : W0.cell? ⟨B + 1, 0, none⟩ = some (.bool q) := b2.cell 0
    have c3 : W0.cell? ⟨B + 1, 1, none⟩ = some (.slice A' ys.length c') := b2.cell 1
    go_region_held3 (fun W => W.cell? ⟨B, 0, none⟩ = some (.bool p) ∧ W.cell? ⟨B, 1, none⟩ = some (.slice A xs.length c) ∧ W.cell? ⟨B + 1, 0, none⟩ = some (.bool q) ∧ W.cell? ⟨B + 1, 1, none⟩ = some (.slice A' ys.length c'))
      (first
        | exact ⟨c0, c1, c2, c3⟩
        | exact ⟨d0, d1, d2, d3⟩
        | exact ⟨k0, k1, k2, k3⟩)
      (first
        | (go_at_call 76; refine (HT.out _ _ _ (by exact hS0) (by exact hT0)).mono ?_; rintro e w2 ⟨v2, rfl, ho2, hb2⟩; obtain ⟨A2, cc2, rfl⟩ := ho2.shape; have d0 := (hb2.cell (p := ⟨B, 0, none⟩) (by show B < W0.heap.size; omega)).trans c0; have d1 := (hb2.cell (p := ⟨B, 1, none⟩) (by show B < W0.heap.size; omega)).trans c1; have d2 := (hb2.cell (p := ⟨B + 1, 0, none⟩) (by show B + 1 < W0.heap.size; omega)).trans c2; have d3 := (hb2.cell (p := ⟨B + 1, 1, none⟩) (by show B + 1 < W0.heap.size; omega)).trans c3)
        | (go_at_call 65; refine (HW.out _ _ ho2.sn).mono ?_; rintro e w3 ⟨rfl, hb3⟩; have hb23 := hb2.trans (hb3.mono hb2.size); have k0 := (hb23.cell (p := ⟨B, 0, none⟩) (by show B < W0.heap.size; omega)).trans c0; have k1 := (hb23.cell (p := ⟨B, 1, none⟩) (by show B < W0.heap.size; omega)).trans c1; have k2 := (hb23.cell (p := ⟨B + 1, 0, none⟩) (by show B + 1 < W0.heap.size; omega)).trans c2; have k3 := (hb23.cell (p := ⟨B + 1, 1, none⟩) (by show B + 1 < W0.heap.size; omega)).trans c3))
    go_wp2_with fail
    go_ret2
    have hb0 : Below W0.heap.size W0 w3 := (below_of_drewN W0 1 _).trans hb23
    exact HF.out _ (hbE.trans (hb0.mono hbE.size))
  · have hne : (Z.bothE a b == 0) = false := by simpa using h
    have P := Lib.hid (fun W : World => pair_bad a b W ha hb h)
    have HF := Lib.hid (fun (w' : World) (hw : Below w.heap.size w w') => op_bad (f := (fun x y => x * y)) h hw)
    clear h
    generalize Z.bothE a b = k at *
    go_enter Try.func46, Try.ntmps46
    go_wp2_with fail
    refine (P.out _).mono ?_
    rintro e w1 ⟨rfl, hb1⟩
    go_wp2_with fail
    go_ret2
    exact HF.out _ ((hb1.alloc hb1.size _).alloc (by have := hb1.size; simp; omega) _)
end Go.Proofs.Ythafdckomhdlbaa
