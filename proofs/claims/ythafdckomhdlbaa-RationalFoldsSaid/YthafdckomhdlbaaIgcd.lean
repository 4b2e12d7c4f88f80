/- Walks: integer.Gcd. -/
import Derived.Test.YthafdckomhdlbaaIcg
import Derived.Deep.LoopGhost
namespace Go.Proofs.Ythafdckomhdlbaa
open Go.RowKit

def GcdRet (a b : ByteArray) (w : World) (e : Ending) (w' : World) : Prop := e = .returned (.tuple #[.string (Z.opS Z.gcdI a b), .int .i64 (Z.bothE a b)]) ∧ Below w.heap.size w w'
theorem gcd_bad {a b : ByteArray} {w w' : World} (h : Z.bothE a b ≠ 0) (hb : Below w.heap.size w w') : GcdRet a b w (.returned (.tuple #[.string ⟨#[]⟩, .int .i64 (Z.bothE a b)])) w' := by
  unfold GcdRet Z.opS
  rw [if_neg h]
  exact ⟨rfl, hb⟩
theorem gcd_ok {a b : ByteArray} {w w' : World} {z : Int} (h : Z.bothE a b = 0) (hz : Z.gcdI (Z.ival a.data.toList) (Z.ival b.data.toList) = z) (hb : Below w.heap.size w w') : GcdRet a b w (.returned (.tuple #[.string ⟨(Z.txt z).toArray⟩, .int .i64 0])) w' := by
  have hs := Z.gcd_size h
  unfold GcdRet Z.opS
  rw [if_pos h, h]
  unfold Z.resS
  rw [if_neg (by omega), hz]
  exact ⟨rfl, hb⟩
/-- The loop's state: two numbers in two variables, with the greatest common divisor G. -/
def GSt (w : World) (B : Nat) (p q : Bool) (G k : Nat) (wr : World) : Prop := ∃ n A c A' c', Blk wr B 91 #[.bool p, .slice A (Z.dg 1000000000 n).length c] ∧ Blk wr (B + 1) 91 #[.bool q, .slice A' (Z.dg 1000000000 k).length c'] ∧
  SN .u32 wr (.slice A (Z.dg 1000000000 n).length c) (Z.dg 1000000000 n) ∧ SN .u32 wr (.slice A' (Z.dg 1000000000 k).length c') (Z.dg 1000000000 k) ∧ Below w.heap.size w wr ∧ (Z.dg 1000000000 n).length ≤ 100000 ∧ (Z.dg 1000000000 k).length ≤ 100000 ∧ Nat.gcd n k = G

set_option maxHeartbeats 1000000 in
theorem gcd_any (a b : ByteArray) (w : World) (ha : a.size ≤ maxLen) (hb : b.size ≤ maxLen) :
    Calls Try.prog 31 #[.string a, .string b] w (GcdRet a b w) := by
  by_cases h : Z.bothE a b = 0
  · have P := Lib.hid (fun W : World => pair_ok a b W h)
    obtain ⟨hx, hy⟩ := both_len h
    have hsz := Z.gcd_size h
    have HF := Lib.hid (fun (c : Int) (hc : _ = c) (w' : World) (hw : Below w.heap.size w w') => gcd_ok h hc hw)
    clear h
    generalize Z.ival a.data.toList = x at *
    generalize Z.ival b.data.toList = y at *
    unfold Z.gcdI at hsz HF
    have HG := Lib.hid (HF.out _ rfl)
    clear HF
    rw [Int.natAbs_natCast] at hsz
    have HGL : Hid ((Z.decB (Nat.gcd x.natAbs y.natAbs)).length ≤ 1000) := hsz
    clear hsz
    go_enter Try.func31, Try.ntmps31
    go_wp2_with fail
    refine (P.out _).mono ?_
    rintro e w1 ⟨A, c, A', c', rfl, hs, ht, hb1⟩
    have hlX := hs.bound
    have hlY := ht.bound
    generalize decide (x < 0) = p at *
    generalize decide (y < 0) = q at *
    go_wp2_with fail
    have hbA := (Below.refl w1.heap.size w1).alloc (Nat.le_refl _) (.cells #[.bool p, .slice A (Z.dg 1000000000 x.natAbs).length c] 91)
    have hbB := hbA.alloc hbA.size (.cells #[.bool q, .slice A' (Z.dg 1000000000 y.natAbs).length c'] 91)
    have hS0 := hs.below hbB
    have hT0 := ht.below hbB
    have b1 := (Blk.new w1 91 #[.bool p, .slice A (Z.dg 1000000000 x.natAbs).length c]).alloc (.cells #[.bool q, .slice A' (Z.dg 1000000000 y.natAbs).length c'] 91)
    have b2 : Blk ((w1.alloc (.cells #[.bool p, .slice A (Z.dg 1000000000 x.natAbs).length c] 91)).alloc (.cells #[.bool q, .slice A' (Z.dg 1000000000 y.natAbs).length c'] 91)) (w1.heap.size + 1) 91 #[.bool q, .slice A' (Z.dg 1000000000 y.natAbs).length c'] := by
      have h := Blk.new (w1.alloc (.cells #[.bool p, .slice A (Z.dg 1000000000 x.natAbs).length c] 91)) 91 #[.bool q, .slice A' (Z.dg 1000000000 y.natAbs).length c']
      rwa [World.size_alloc] at h
    have hbE := hb1.trans (hbB.mono hb1.size)
    have hst : GSt w w1.heap.size p q (Nat.gcd x.natAbs y.natAbs) y.natAbs ((w1.alloc (.cells #[.bool p, .slice A (Z.dg 1000000000 x.natAbs).length c] 91)).alloc (.cells #[.bool q, .slice A' (Z.dg 1000000000 y.natAbs).length c'] 91)) :=
      ⟨x.natAbs, A, c, A', c', b1, b2, hS0, hT0, hbE, by omega, by omega, rfl⟩
    have hBw := hb1.size
    clear hs ht hbA hb1 hbE b1 b2 hS0 hT0 hbB
    generalize hB : w1.heap.size = B at *
    have HB := Lib.hid hB
    clear hB
    generalize Nat.gcd x.natAbs y.natAbs = G at *
    have HST := Lib.hid hst
    clear hst
    go_loopg [9] y.natAbs (fun k v wr => GSt w B p q G k wr)
    case atStart => exact HST.out
    case round =>
      clear HST
      obtain ⟨n, A, c, A', c', b1, b2, hS, hT, hbw, hln, hlk, hg⟩ := hrel
      have HGC := Lib.hid hg
      clear hg
      have hlX := hS.bound
      have hlY := hT.bound
      have l2 := b2.lt
      have c1 : wr.cell? ⟨B, 1, none⟩ = some (.slice A (Z.dg 1000000000 n).length c) := b1.cell 1
      have c3 : wr.cell? ⟨B + 1, 1, none⟩ = some (.slice A' (Z.dg 1000000000 gk).length c') := b2.cell 1
      by_cases hk : 0 < gk
      · have hkl : 0 < (Z.dg 1000000000 gk).length := by
          rcases Nat.eq_zero_or_pos (Z.dg 1000000000 gk).length with hh | hh
          · have := (Z.dg_eq_nil 1000000000 (by omega) _).1 (List.eq_nil_of_length_eq_zero hh); omega
          · exact hh
        go_wp2_with fail
        refine (divideN _ _ n gk _ hS hT hln hlk hk).mono ?_
        rintro e w2 ⟨v2, u2, rfl, hq, hr, hb2⟩
        obtain ⟨Aq, cq, rfl⟩ := hq.shape
        obtain ⟨Ar, cr, rfl⟩ := hr.shape
        have q1 := b1.below hb2
        have q2 := b2.below hb2
        have d1 : w2.cell? ⟨B, 1, none⟩ = some (.slice A (Z.dg 1000000000 n).length c) := q1.cell 1
        have d3 : w2.cell? ⟨B + 1, 1, none⟩ = some (.slice A' (Z.dg 1000000000 gk).length c') := q2.cell 1
        have f1 := q1.frozen 1
        have f3 := q2.frozen 1
        clear hq
        go_wp2_with fail
        go_roundg (n % gk)
        case measure => exact Nat.mod_lt _ hk
        case rel =>
          have m1 := (q1.set 1 (.slice A' (Z.dg 1000000000 gk).length c')).other (C := B + 1) (j := 1) (by omega) (.slice Ar (Z.dg 1000000000 (n % gk)).length cr)
          have m0 := q2.other (C := B) (j := 1) (by omega) (.slice A' (Z.dg 1000000000 gk).length c')
          have m2 := m0.set 1 (.slice Ar (Z.dg 1000000000 (n % gk)).length cr)
          have s1 := ((hT.below hb2).set_other q1 (num_cells _ _ _ _) 1 (.slice A' (Z.dg 1000000000 gk).length c')).set_other m0 (num_cells _ _ _ _) 1 (.slice Ar (Z.dg 1000000000 (n % gk)).length cr)
          have s2 := (hr.set_other q1 (num_cells _ _ _ _) 1 (.slice A' (Z.dg 1000000000 gk).length c')).set_other m0 (num_cells _ _ _ _) 1 (.slice Ar (Z.dg 1000000000 (n % gk)).length cr)
          refine ⟨gk, A', c', Ar, cr, m1, m2, s1, s2, ((hbw.trans (hb2.mono (by have := hbw.size; omega))).setCell (p := ⟨B, 1, none⟩) (by show w.heap.size ≤ B; omega) _).setCell (p := ⟨B + 1, 1, none⟩) (by show w.heap.size ≤ B + 1; omega) _, hlk, Nat.le_trans (Z.dg_len_le 1000000000 (by omega) (Nat.le_of_lt (Nat.mod_lt n hk))) hlk, ?_⟩
          rw [← HGC.out, Nat.gcd_comm gk, ← Nat.gcd_rec, Nat.gcd_comm]
      · obtain rfl : gk = 0 := by omega
        have e0 : (Z.dg 1000000000 0).length = 0 := rfl
        have hG : n = G := by rw [← HGC.out, Nat.gcd_zero_right]
        clear HGC
        subst hG
        have HW := Lib.hid (fun (W : World) v hS => writeT false v n (n : Int) W hS (by omega) rfl (by rw [Int.natAbs_natCast]; exact HGL.out))
        rw [e0] at c3
        go_wp2_with fail
        refine (HW.out _ _ hS).mono ?_
        rintro e w3 ⟨rfl, hb3⟩
        go_wp2_with fail
        go_ret2
        exact HG.out _ (hbw.trans (hb3.mono hbw.size))
  · have hne : (Z.bothE a b == 0) = false := by simpa using h
    have P := Lib.hid (fun W : World => pair_bad a b W ha hb h)
    have HF := Lib.hid (fun (w' : World) (hw : Below w.heap.size w w') => gcd_bad h hw)
    clear h
    generalize Z.bothE a b = k at *
    go_enter Try.func31, Try.ntmps31
    go_wp2_with fail
    refine (P.out _).mono ?_
    rintro e w1 ⟨rfl, hb1⟩
    go_wp2_with fail
    go_ret2
    exact HF.out _ ((hb1.alloc hb1.size _).alloc (by have := hb1.size; simp; omega) _)
end Go.Proofs.Ythafdckomhdlbaa
