/- I5: Idm Idvm Icg Igcd -/
import Derived.Test.YtifafmomkpkgdaaDoorI3
import Derived.Test.YtifafmomkpkgdaaDoorIlong
import Derived.Deep.LoopGhost
/- Walks: integer.divide (all ways), Compare, DivMod. -/

namespace Go.Proofs.YtifafmomkpkgdaaDoor
open Go.RowKit

theorem divideN (v u : Value) (n m : Nat) (w : World) (hS : SN .u32 w v (Z.dg 1000000000 n)) (hT : SN .u32 w u (Z.dg 1000000000 m)) (hl : (Z.dg 1000000000 n).length ≤ 100000) (hl' : (Z.dg 1000000000 m).length ≤ 100000) (hm : 0 < m) :
    Calls Tryd.prog 104 #[v, u] w (DivRet w (n / m) (n % m)) := by
  have cn := Z.can_dg 1000000000 (by omega) n
  have cm := Z.can_dg 1000000000 (by omega) m
  have en := Z.ofDg_dg 1000000000 (by omega) n
  have em := Z.ofDg_dg 1000000000 (by omega) m
  rcases Nat.lt_or_ge n m with h | h
  · have := divide_small v u _ _ w hS hT cn cm (by omega) (by omega) (by rw [en, em]; exact h)
    rwa [en, em] at this
  · rcases Nat.lt_or_ge (Z.dg 1000000000 m).length 2 with h2 | h2
    · have h1 : (Z.dg 1000000000 m).length ≠ 0 := fun e => by
        have := (Z.dg_eq_nil 1000000000 (by omega) m).1 (List.eq_nil_of_length_eq_zero e); omega
      obtain ⟨d, hd⟩ := List.length_eq_one_iff.1 (show (Z.dg 1000000000 m).length = 1 by omega)
      rw [hd] at hT cm em
      have hdm : d = m := by simpa [Z.ofDg] using em
      subst hdm
      have := divide_one v u _ d w hS hT cn hm (cm.1 d (by simp)) (by omega) (by rw [en]; exact h)
      rwa [en] at this
    · have := divide_long v u _ _ w hS hT cn cm (by omega) (by omega) h2 (by rw [en, em]; exact h)
      rwa [en, em] at this
theorem SN.set_other {q : IntKind} {W : World} {B : Nat} {t : TypeId} {cs : Array Value} {v : Value} {ms : List Nat} (h : SN q W v ms) (hb : Blk W B t cs) (hn : ∀ (j : Nat) (d : Int), cs[j]? ≠ some (.int q d)) (j : Nat) (u : Value) : SN q (W.setCell ⟨B, j, none⟩ u) v ms := by
  obtain ⟨A, c, hv, h1, h2, h3⟩ := h
  refine ⟨A, c, hv, h1, h2, fun hp => ?_⟩
  obtain ⟨b, o, hA, hlt, hc⟩ := h3 hp
  have hne : b ≠ B := by
    rintro rfl
    obtain ⟨d, hd⟩ : ∃ d, ms[0]? = some d := ⟨_, List.getElem?_eq_getElem hp⟩
    have := hc 0 d hd
    rw [hb.cell] at this
    exact hn _ _ this
  exact ⟨b, o, hA, by simpa [World.setCell] using hlt, fun i d hd => cell_other hne (hc i d hd) u⟩
theorem num_cells (p : Bool) (A : Option Addr) (n c : Nat) (j : Nat) (d : Int) : (#[Value.bool p, Value.slice A n c])[j]? ≠ some (.int .u32 d) := by
  match j with
  | 0 => simp
  | 1 => simp
  | j + 2 => simp

namespace Z
theorem ediv_of {x y q r : Int} (hy : y ≠ 0) (h : x = y * q + r) (h0 : 0 ≤ r) (h1 : r < y.natAbs) : x / y = q ∧ x % y = r := by
  rcases Int.lt_or_lt_of_ne hy with hn | hp
  · obtain ⟨c, rfl⟩ : ∃ c, y = -c := ⟨-y, by omega⟩
    have hc : 0 < c := by omega
    have := (Int.ediv_emod_unique (a := x) (b := c) (r := r) (q := -q) hc).2 ⟨by rw [h, Int.mul_neg, Int.neg_mul]; omega, h0, by omega⟩
    rw [Int.ediv_neg, Int.emod_neg]
    exact ⟨by omega, this.2⟩
  · exact (Int.ediv_emod_unique hp).2 ⟨by omega, h0, by omega⟩
/-- The quotient and the rest, out of those of the absolute values. -/
theorem div_same {x y : Int} (hy : y ≠ 0) (h : 0 ≤ x ∨ x.natAbs % y.natAbs = 0) : x / y = sgn (decide (x < 0) != decide (y < 0)) (x.natAbs / y.natAbs) ∧ x % y = (x.natAbs % y.natAbs : Nat) := by
  have hY : 0 < y.natAbs := by omega
  have hlt := Nat.mod_lt x.natAbs hY
  have he := Nat.div_add_mod x.natAbs y.natAbs
  generalize x.natAbs / y.natAbs = m at *
  generalize x.natAbs % y.natAbs = r at *
  refine ediv_of hy ?_ (by omega) (by omega)
  have hms := mul_sgn y (sgn (decide (x < 0) != decide (y < 0)) m)
  have e : ((y.natAbs * m : Nat) : Int) = (y.natAbs : Int) * m := Int.natCast_mul _ _
  unfold sgn
  rcases Int.lt_or_le x 0 with hx | hx <;> rcases Int.lt_or_le y 0 with hy | hy
  · rw [if_neg (by simp [hx, hy])]
    have : y * (m : Int) = -((y.natAbs : Int) * m) := by rw [show (y.natAbs : Int) = -y by omega, Int.neg_mul, Int.neg_neg]
    omega
  · rw [if_pos (by simp [hx]; omega)]
    have : y * -(m : Int) = -((y.natAbs : Int) * m) := by rw [show (y.natAbs : Int) = y by omega, Int.mul_neg]
    omega
  · rw [if_pos (by simp [hy]; omega)]
    have : y * -(m : Int) = ((y.natAbs : Int) * m) := by rw [show (y.natAbs : Int) = -y by omega, Int.mul_neg, Int.neg_mul]
    omega
  · rw [if_neg (by simp; omega)]
    have : y * (m : Int) = ((y.natAbs : Int) * m) := by rw [show (y.natAbs : Int) = y by omega]
    omega
theorem div_next {x y : Int} (hy : y ≠ 0) (hx : x < 0) (hr : 0 < x.natAbs % y.natAbs) : x / y = sgn (decide (x < 0) != decide (y < 0)) (x.natAbs / y.natAbs + 1) ∧ x % y = (y.natAbs - x.natAbs % y.natAbs : Nat) := by
  have hY : 0 < y.natAbs := by omega
  have hlt := Nat.mod_lt x.natAbs hY
  have he := Nat.div_add_mod x.natAbs y.natAbs
  generalize x.natAbs / y.natAbs = m at *
  generalize x.natAbs % y.natAbs = r at *
  refine ediv_of hy ?_ (by omega) (by omega)
  have e : ((y.natAbs * m : Nat) : Int) = (y.natAbs : Int) * m := Int.natCast_mul _ _
  unfold sgn
  rcases Int.lt_or_le y 0 with hy | hy
  · rw [if_neg (by simp [hx, hy])]
    have : y * ((m + 1 : Nat) : Int) = -((y.natAbs : Int) * m) + y := by rw [show (y.natAbs : Int) = -y by omega, Int.neg_mul, Int.neg_neg, Int.natCast_add, Int.mul_add]; omega
    omega
  · rw [if_pos (by simp [hx]; omega)]
    have : y * -((m + 1 : Nat) : Int) = -((y.natAbs : Int) * m) - y := by rw [show (y.natAbs : Int) = y by omega, Int.mul_neg, Int.natCast_add, Int.mul_add]; omega
    omega
theorem div_abs_le {x y : Int} (hy : y ≠ 0) : (x / y).natAbs ≤ x.natAbs := by
  have hY : 0 < y.natAbs := by omega
  have he := Nat.div_add_mod x.natAbs y.natAbs
  have hm : x.natAbs / y.natAbs ≤ y.natAbs * (x.natAbs / y.natAbs) := Nat.le_mul_of_pos_left _ hY
  by_cases h : 0 ≤ x ∨ x.natAbs % y.natAbs = 0
  · rw [(div_same hy h).1, sgn_abs]; omega
  · rw [(div_next hy (by omega) (by omega)).1, sgn_abs]; omega
theorem mod_abs_le {x y : Int} (hy : y ≠ 0) : (x % y).natAbs ≤ y.natAbs := by
  have hY : 0 < y.natAbs := by omega
  have hlt := Nat.mod_lt x.natAbs hY
  by_cases h : 0 ≤ x ∨ x.natAbs % y.natAbs = 0
  · rw [(div_same hy h).2]; omega
  · rw [(div_next hy (by omega) (by omega)).2]; omega
/-- Where two integers have no error, quotient and rest have at most 1,000 digits. -/
theorem div_size {a b : ByteArray} (h : bothE a b = 0) (hy : ival b.data.toList ≠ 0) :
    (decB (ival a.data.toList / ival b.data.toList).natAbs).length ≤ 1000 ∧ (decB (ival a.data.toList % ival b.data.toList).natAbs).length ≤ 1000 := by
  obtain ⟨ha, hb⟩ := bothE_zero h
  obtain ⟨ca, la⟩ := chk_zero_iff.1 ha
  obtain ⟨cb, lb⟩ := chk_zero_iff.1 hb
  rw [← decB_ival ca] at la
  rw [← decB_ival cb] at lb
  exact ⟨Nat.le_trans (decB_mono (div_abs_le hy)) la, Nat.le_trans (decB_mono (mod_abs_le hy)) lb⟩
theorem gcd_abs_le {x y : Nat} (h : 0 < x ∨ 0 < y) : Nat.gcd x y ≤ max x y := by
  rcases h with h | h
  · exact Nat.le_trans (Nat.le_of_dvd h (Nat.gcd_dvd_left x y)) (Nat.le_max_left _ _)
  · exact Nat.le_trans (Nat.le_of_dvd h (Nat.gcd_dvd_right x y)) (Nat.le_max_right _ _)
theorem gcd_size {a b : ByteArray} (h : bothE a b = 0) : (decB (gcdI (ival a.data.toList) (ival b.data.toList)).natAbs).length ≤ 1000 := by
  obtain ⟨ha, hb⟩ := bothE_zero h
  obtain ⟨ca, la⟩ := chk_zero_iff.1 ha
  obtain ⟨cb, lb⟩ := chk_zero_iff.1 hb
  rw [← decB_ival ca] at la
  rw [← decB_ival cb] at lb
  generalize ival a.data.toList = x at *
  generalize ival b.data.toList = y at *
  unfold gcdI
  rw [Int.natAbs_natCast]
  rcases Nat.eq_zero_or_pos x.natAbs with h1 | h1
  · rw [h1, Nat.gcd_zero_left]; exact lb
  · rcases Nat.le_total x.natAbs y.natAbs with h2 | h2
    · exact Nat.le_trans (decB_mono (by have := gcd_abs_le (y := y.natAbs) (.inl h1); omega)) lb
    · exact Nat.le_trans (decB_mono (by have := gcd_abs_le (y := y.natAbs) (.inl h1); omega)) la
end Z
end Go.Proofs.YtifafmomkpkgdaaDoor
/- Walks: integer.DivMod. -/

namespace Go.Proofs.YtifafmomkpkgdaaDoor
open Go.RowKit

def DmRet (a b : ByteArray) (w : World) (e : Ending) (w' : World) : Prop := e = .returned (.tuple #[.string (Z.divS (fun x y => x / y) a b), .string (Z.divS (fun x y => x % y) a b), .int .i64 (Z.divE a b)]) ∧ Below w.heap.size w w'
theorem dm_bad {a b : ByteArray} {w w' : World} (h : Z.bothE a b ≠ 0) (hb : Below w.heap.size w w') : DmRet a b w (.returned (.tuple #[.string ⟨#[]⟩, .string ⟨#[]⟩, .int .i64 (Z.bothE a b)])) w' := by
  unfold DmRet Z.divS Z.divE
  rw [if_neg h, if_neg h, if_neg h]
  exact ⟨rfl, hb⟩
theorem dm_zero {a b : ByteArray} {w w' : World} (h : Z.bothE a b = 0) (hy : Z.ival b.data.toList = 0) (hb : Below w.heap.size w w') : DmRet a b w (.returned (.tuple #[.string ⟨#[]⟩, .string ⟨#[]⟩, .int .i64 16])) w' := by
  unfold DmRet Z.divS Z.divE
  rw [if_pos h, if_pos hy]
  exact ⟨rfl, hb⟩
theorem dm_ok {a b : ByteArray} {w w' : World} {q r : Int} (h : Z.bothE a b = 0) (hy : Z.ival b.data.toList ≠ 0) (hq : Z.ival a.data.toList / Z.ival b.data.toList = q) (hr : Z.ival a.data.toList % Z.ival b.data.toList = r) (hb : Below w.heap.size w w') :
    DmRet a b w (.returned (.tuple #[.string ⟨(Z.txt q).toArray⟩, .string ⟨(Z.txt r).toArray⟩, .int .i64 0])) w' := by
  subst hq hr
  unfold DmRet Z.divS Z.divE
  rw [if_pos h, if_neg hy, if_pos rfl, if_pos rfl]
  exact ⟨rfl, hb⟩
def TxtRet (z : Int) (w : World) (e : Ending) (w' : World) : Prop := e = .returned (.tuple #[.string ⟨(Z.txt z).toArray⟩, .int .i64 0]) ∧ Below w.heap.size w w'
theorem writeT (ng : Bool) (v : Value) (n : Nat) (z : Int) (w : World) (hS : SN .u32 w v (Z.dg 1000000000 n)) (hl : (Z.dg 1000000000 n).length ≤ 1000000) (hz : sgn ng n = z) (hs : (Z.decB z.natAbs).length ≤ 1000) :
    Calls Tryd.prog 105 #[.agg #[.bool ng, v]] w (TxtRet z w) := by
  have := writeN ng v n z w hS hl hz
  unfold ResRet Z.resS Z.resE at this
  rw [if_neg (by omega), if_neg (by omega)] at this
  exact this

theorem dg_one : Z.dg 1000000000 1 = [1] := by rw [Z.dg_pos _ _ (by omega) (by omega)]; rfl
end Go.Proofs.YtifafmomkpkgdaaDoor
/- Walks: integer.Compare, Gcd. -/

namespace Go.Proofs.YtifafmomkpkgdaaDoor
open Go.RowKit

def CmpVRet (a b : ByteArray) (w : World) (e : Ending) (w' : World) : Prop := e = .returned (.tuple #[.int .i64 (Z.cmpV a b), .int .i64 (Z.bothE a b)]) ∧ Below w.heap.size w w'
theorem cmpv_bad {a b : ByteArray} {w w' : World} (h : Z.bothE a b ≠ 0) (hb : Below w.heap.size w w') : CmpVRet a b w (.returned (.tuple #[.int .i64 0, .int .i64 (Z.bothE a b)])) w' := by
  unfold CmpVRet Z.cmpV
  rw [if_neg h]
  exact ⟨rfl, hb⟩
theorem cmpv_ok {a b : ByteArray} {w w' : World} {c : Int} (h : Z.bothE a b = 0) (hc : Z.cmpI (Z.ival a.data.toList) (Z.ival b.data.toList) = c) (hb : Below w.heap.size w w') : CmpVRet a b w (.returned (.tuple #[.int .i64 c, .int .i64 0])) w' := by
  subst hc
  unfold CmpVRet Z.cmpV
  rw [if_pos h, h]
  exact ⟨rfl, hb⟩
theorem cmp_pp {x y : Int} (hx : ¬ x < 0) (hy : ¬ y < 0) : Z.cmpI x y = Z.cmp x.natAbs y.natAbs := by
  rw [← Z.cmpI_abs]
  congr 1 <;> omega
theorem cmp_nn {x y : Int} (hx : x < 0) (hy : y < 0) : Z.cmpI x y = Z.cmp y.natAbs x.natAbs := by
  rw [← Z.cmpI_abs, ← Z.cmpI_neg]
  congr 1 <;> omega
theorem cmp_np {x y : Int} (hx : x < 0) (hy : ¬ y < 0) : Z.cmpI x y = -1 := by unfold Z.cmpI; rw [if_pos (by omega)]
theorem cmp_pn {x y : Int} (hx : ¬ x < 0) (hy : y < 0) : Z.cmpI x y = 1 := by unfold Z.cmpI; rw [if_neg (by omega), if_neg (by omega)]
theorem cmp_bd (n m : Nat) : -1 ≤ Z.cmp n m ∧ Z.cmp n m ≤ 1 := by unfold Z.cmp; split <;> (first | omega | (split <;> omega))

end Go.Proofs.YtifafmomkpkgdaaDoor
/- Walks: integer.Gcd. -/

namespace Go.Proofs.YtifafmomkpkgdaaDoor
open Go.RowKit

def GcdRet (a b : ByteArray) (w : World) (e : Ending) (w' : World) : Prop := e = .returned (.tuple #[.string (Z.opS Z.gcdI a b), .int .i64 (Z.bothE a b)]) ∧ Below w.heap.size w w'
theorem gcd_bad {a b : ByteArray} {w w' : World} (h : Z.bothE a b ≠ 0) (hb : Below w.heap.size w w') : GcdRet a b w (.returned (.tuple #[.string ⟨#[]⟩, .int .i64 (Z.bothE a b)])) w' := by
  unfold GcdRet Z.opS
  rw [if_neg h]
  exact ⟨rfl, hb⟩
theorem gcd_ok {a b : ByteArray} {w w' : World} {z : Int} (h : Z.bothE a b = 0) (hz : Z.gcdI (Z.ival a.data.toList) (Z.ival b.data.toList) = z) (hb : Below w.heap.size w w') : GcdRet a b w (.returned (.tuple #[.string ⟨(Z.txt z).toArray⟩, .int .i64 0])) w' := by
  have hs := Z.gcd_size h
  unfold GcdRet Z.opS
  rw [if_pos h, h]
  unfold Z.resS
  rw [if_neg (by omega), hz]
  exact ⟨rfl, hb⟩
/-- The loop's state: two numbers in two variables, with the greatest common divisor G. -/
def GSt (w : World) (B : Nat) (p q : Bool) (G k : Nat) (wr : World) : Prop := ∃ n A c A' c', Blk wr B 111 #[.bool p, .slice A (Z.dg 1000000000 n).length c] ∧ Blk wr (B + 1) 111 #[.bool q, .slice A' (Z.dg 1000000000 k).length c'] ∧
  SN .u32 wr (.slice A (Z.dg 1000000000 n).length c) (Z.dg 1000000000 n) ∧ SN .u32 wr (.slice A' (Z.dg 1000000000 k).length c') (Z.dg 1000000000 k) ∧ Below w.heap.size w wr ∧ (Z.dg 1000000000 n).length ≤ 100000 ∧ (Z.dg 1000000000 k).length ≤ 100000 ∧ Nat.gcd n k = G

set_option maxHeartbeats 1000000 in
theorem gcd_any (a b : ByteArray) (w : World) (ha : a.size ≤ maxLen) (hb : b.size ≤ maxLen) :
    Calls Tryd.prog 89 #[.string a, .string b] w (GcdRet a b w) := by
  by_cases h : Z.bothE a b = 0
  · have P := Lib.hid (fun W : World => pair_ok a b W h)
    obtain ⟨hx, hy⟩ := both_len h
    have hsz := Z.gcd_size h
    have HF := Lib.hid (fun (c : Int) (hc : _ = c) (w' : World) (hw : Below w.heap.size w w') => gcd_ok h hc hw)
    clear h
    generalize Z.ival a.data.toList = x at *
    generalize Z.ival b.data.toList = y at *
    unfold Z.gcdI at hsz HF
    have HG := Lib.hid (HF.out _ rfl)
    clear HF
    rw [Int.natAbs_natCast] at hsz
    have HGL : Hid ((Z.decB (Nat.gcd x.natAbs y.natAbs)).length ≤ 1000) := hsz
    clear hsz
    go_enter Tryd.func89, Tryd.ntmps89
    go_wp2_with fail
    refine (P.out _).mono ?_
    rintro e w1 ⟨A, c, A', c', rfl, hs, ht, hb1⟩
    have hlX := hs.bound
    have hlY := ht.bound
    generalize decide (x < 0) = p at *
    generalize decide (y < 0) = q at *
    go_wp2_with fail
    have hbA := (Below.refl w1.heap.size w1).alloc (Nat.le_refl _) (.cells #[.bool p, .slice A (Z.dg 1000000000 x.natAbs).length c] 111)
    have hbB := hbA.alloc hbA.size (.cells #[.bool q, .slice A' (Z.dg 1000000000 y.natAbs).length c'] 111)
    have hS0 := hs.below hbB
    have hT0 := ht.below hbB
    have b1 := (Blk.new w1 111 #[.bool p, .slice A (Z.dg 1000000000 x.natAbs).length c]).alloc (.cells #[.bool q, .slice A' (Z.dg 1000000000 y.natAbs).length c'] 111)
    have b2 : Blk ((w1.alloc (.cells #[.bool p, .slice A (Z.dg 1000000000 x.natAbs).length c] 111)).alloc (.cells #[.bool q, .slice A' (Z.dg 1000000000 y.natAbs).length c'] 111)) (w1.heap.size + 1) 111 #[.bool q, .slice A' (Z.dg 1000000000 y.natAbs).length c'] := by
      have h := Blk.new (w1.alloc (.cells #[.bool p, .slice A (Z.dg 1000000000 x.natAbs).length c] 111)) 111 #[.bool q, .slice A' (Z.dg 1000000000 y.natAbs).length c']
      rwa [World.size_alloc] at h
    have hbE := hb1.trans (hbB.mono hb1.size)
    have hst : GSt w w1.heap.size p q (Nat.gcd x.natAbs y.natAbs) y.natAbs ((w1.alloc (.cells #[.bool p, .slice A (Z.dg 1000000000 x.natAbs).length c] 111)).alloc (.cells #[.bool q, .slice A' (Z.dg 1000000000 y.natAbs).length c'] 111)) :=
      ⟨x.natAbs, A, c, A', c', b1, b2, hS0, hT0, hbE, by omega, by omega, rfl⟩
    have hBw := hb1.size
    clear hs ht hbA hb1 hbE b1 b2 hS0 hT0 hbB
    generalize hB : w1.heap.size = B at *
    have HB := Lib.hid hB
    clear hB
    generalize Nat.gcd x.natAbs y.natAbs = G at *
    have HST := Lib.hid hst
    clear hst
    go_loopg [9] y.natAbs (fun k v wr => GSt w B p q G k wr)
    case atStart => exact HST.out
    case round =>
      clear HST
      obtain ⟨n, A, c, A', c', b1, b2, hS, hT, hbw, hln, hlk, hg⟩ := hrel
      have HGC := Lib.hid hg
      clear hg
      have hlX := hS.bound
      have hlY := hT.bound
      have l2 := b2.lt
      have c1 : wr.cell? ⟨B, 1, none⟩ = some (.slice A (Z.dg 1000000000 n).length c) := b1.cell 1
      have c3 : wr.cell? ⟨B + 1, 1, none⟩ = some (.slice A' (Z.dg 1000000000 gk).length c') := b2.cell 1
      by_cases hk : 0 < gk
      · have hkl : 0 < (Z.dg 1000000000 gk).length := by
          rcases Nat.eq_zero_or_pos (Z.dg 1000000000 gk).length with hh | hh
          · have := (Z.dg_eq_nil 1000000000 (by omega) _).1 (List.eq_nil_of_length_eq_zero hh); omega
          · exact hh
        go_wp2_with fail
        refine (divideN _ _ n gk _ hS hT hln hlk hk).mono ?_
        rintro e w2 ⟨v2, u2, rfl, hq, hr, hb2⟩
        obtain ⟨Aq, cq, rfl⟩ := hq.shape
        obtain ⟨Ar, cr, rfl⟩ := hr.shape
        have q1 := b1.below hb2
        have q2 := b2.below hb2
        have d1 : w2.cell? ⟨B, 1, none⟩ = some (.slice A (Z.dg 1000000000 n).length c) := q1.cell 1
        have d3 : w2.cell? ⟨B + 1, 1, none⟩ = some (.slice A' (Z.dg 1000000000 gk).length c') := q2.cell 1
        have f1 := q1.frozen 1
        have f3 := q2.frozen 1
        clear hq
        go_wp2_with fail
        go_roundg (n % gk)
        case measure => exact Nat.mod_lt _ hk
        case rel =>
          have m1 := (q1.set 1 (.slice A' (Z.dg 1000000000 gk).length c')).other (C := B + 1) (j := 1) (by omega) (.slice Ar (Z.dg 1000000000 (n % gk)).length cr)
          have m0 := q2.other (C := B) (j := 1) (by omega) (.slice A' (Z.dg 1000000000 gk).length c')
          have m2 := m0.set 1 (.slice Ar (Z.dg 1000000000 (n % gk)).length cr)
          have s1 := ((hT.below hb2).set_other q1 (num_cells _ _ _ _) 1 (.slice A' (Z.dg 1000000000 gk).length c')).set_other m0 (num_cells _ _ _ _) 1 (.slice Ar (Z.dg 1000000000 (n % gk)).length cr)
          have s2 := (hr.set_other q1 (num_cells _ _ _ _) 1 (.slice A' (Z.dg 1000000000 gk).length c')).set_other m0 (num_cells _ _ _ _) 1 (.slice Ar (Z.dg 1000000000 (n % gk)).length cr)
          refine ⟨gk, A', c', Ar, cr, m1, m2, s1, s2, ((hbw.trans (hb2.mono (by have := hbw.size; omega))).setCell (p := ⟨B, 1, none⟩) (by show w.heap.size ≤ B; omega) _).setCell (p := ⟨B + 1, 1, none⟩) (by show w.heap.size ≤ B + 1; omega) _, hlk, Nat.le_trans (Z.dg_len_le 1000000000 (by omega) (Nat.le_of_lt (Nat.mod_lt n hk))) hlk, ?_⟩
          rw [← HGC.out, Nat.gcd_comm gk, ← Nat.gcd_rec, Nat.gcd_comm]
      · obtain rfl : gk = 0 := by omega
        have e0 : (Z.dg 1000000000 0).length = 0 := rfl
        have hG : n = G := by rw [← HGC.out, Nat.gcd_zero_right]
        clear HGC
        subst hG
        have HW := Lib.hid (fun (W : World) v hS => writeT false v n (n : Int) W hS (by omega) rfl (by rw [Int.natAbs_natCast]; exact HGL.out))
        rw [e0] at c3
        go_wp2_with fail
        refine (HW.out _ _ hS).mono ?_
        rintro e w3 ⟨rfl, hb3⟩
        go_wp2_with fail
        go_ret2
        exact HG.out _ (hbw.trans (hb3.mono hbw.size))
  · have hne : (Z.bothE a b == 0) = false := by simpa using h
    have P := Lib.hid (fun W : World => pair_bad a b W ha hb h)
    have HF := Lib.hid (fun (w' : World) (hw : Below w.heap.size w w') => gcd_bad h hw)
    clear h
    generalize Z.bothE a b = k at *
    go_enter Tryd.func89, Tryd.ntmps89
    go_wp2_with fail
    refine (P.out _).mono ?_
    rintro e w1 ⟨rfl, hb1⟩
    go_wp2_with fail
    go_ret2
    exact HF.out _ ((hb1.alloc hb1.size _).alloc (by have := hb1.size; simp; omega) _)
end Go.Proofs.YtifafmomkpkgdaaDoor
