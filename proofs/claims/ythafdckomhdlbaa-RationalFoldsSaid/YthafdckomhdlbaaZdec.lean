/- Plain lists and integers: the canonical decimal text of an integer. -/
import Derived.Test.YthafdckomhdlbaaZtxt
import Derived.Test.YthafdckomhdlbaaZcmp
namespace Go.Proofs.Ythafdckomhdlbaa
namespace Z

/-- The digits of a text, the last one first. -/
def rdg (m : List UInt8) : List Nat := m.reverse.map dval
def chr (d : Nat) : UInt8 := UInt8.ofNat (48 + d)
def decB (n : Nat) : List UInt8 := if n = 0 then [48] else (dg 10 n).reverse.map chr
/-- The canonical text of an integer. -/
def txt (z : Int) : List UInt8 := if z < 0 then 45 :: decB z.natAbs else decB z.natAbs

theorem natOf_snoc (l : List UInt8) (c : UInt8) : natOf (l ++ [c]) = 10 * natOf l + dval c := by simp [natOf]
theorem natOf_rdg (m : List UInt8) : natOf m = ofDg 10 (rdg m) := by
  have : ∀ r : List UInt8, natOf r.reverse = ofDg 10 (r.map dval) := by
    intro r
    induction r with
    | nil => rfl
    | cons c r ih => rw [List.reverse_cons, natOf_snoc, ih, List.map_cons, ofDg_cons]; omega
  have h := this m.reverse
  rwa [List.reverse_reverse] at h
theorem dval_chr {d : Nat} (h : d < 10) : dval (chr d) = d := by
  have : d = 0 ∨ d = 1 ∨ d = 2 ∨ d = 3 ∨ d = 4 ∨ d = 5 ∨ d = 6 ∨ d = 7 ∨ d = 8 ∨ d = 9 := by omega
  rcases this with h | h | h | h | h | h | h | h | h | h <;> subst h <;> rfl
theorem chr_toNat {d : Nat} (h : d < 10) : (chr d).toNat = 48 + d := by
  have : d = 0 ∨ d = 1 ∨ d = 2 ∨ d = 3 ∨ d = 4 ∨ d = 5 ∨ d = 6 ∨ d = 7 ∨ d = 8 ∨ d = 9 := by omega
  rcases this with h | h | h | h | h | h | h | h | h | h <;> subst h <;> rfl
theorem chr_dval {c : UInt8} (h : isDig c = true) : chr (dval c) = c := by
  unfold isDig at h
  simp at h
  apply UInt8.toNat_inj.1
  have h1 : dval c < 10 := by unfold dval; omega
  rw [chr_toNat h1]
  unfold dval; omega
theorem isDig_chr {d : Nat} (h : d < 10) : isDig (chr d) = true := by
  unfold isDig
  rw [chr_toNat h]; simp; omega
theorem dval_lt {c : UInt8} (h : isDig c = true) : dval c < 10 := by
  unfold isDig at h; simp at h; unfold dval; omega
theorem rdg_lt {m : List UInt8} (h : m.all isDig = true) : ∀ d ∈ rdg m, d < 10 := by
  intro d hd
  obtain ⟨c, hc, rfl⟩ := List.mem_map.1 hd
  exact dval_lt (List.all_eq_true.1 h c (List.mem_reverse.1 hc))
theorem decB_zero : decB 0 = [48] := rfl
theorem decB_pos {n : Nat} (h : 0 < n) : decB n = (dg 10 n).reverse.map chr := by
  unfold decB; rw [if_neg (by omega)]
theorem rdg_decB (n : Nat) (h : 0 < n) : rdg (decB n) = dg 10 n := by
  rw [decB_pos h]
  unfold rdg
  rw [← List.map_reverse, List.reverse_reverse, List.map_map]
  conv => rhs; rw [← List.map_id (dg 10 n)]
  apply List.map_congr_left
  intro d hd
  exact dval_chr (dg_lt 10 (by omega) n d hd)
theorem natOf_decB (n : Nat) : natOf (decB n) = n := by
  rcases Nat.eq_zero_or_pos n with h | h
  · subst h; rfl
  · rw [natOf_rdg, rdg_decB n h, ofDg_dg 10 (by omega)]
theorem decB_ne (n : Nat) : decB n ≠ [] := by
  rcases Nat.eq_zero_or_pos n with h | h
  · subst h; simp [decB]
  · rw [decB_pos h]
    intro e
    have h1 := (dg_eq_nil 10 (by omega) n).1 (by simpa using e)
    omega
theorem decB_all (n : Nat) : (decB n).all isDig = true := by
  rcases Nat.eq_zero_or_pos n with h | h
  · subst h; rfl
  · rw [decB_pos h, List.all_eq_true]
    intro c hc
    obtain ⟨d, hd, rfl⟩ := List.mem_map.1 hc
    exact isDig_chr (dg_lt 10 (by omega) n d (List.mem_reverse.1 hd))
theorem decB_head (n : Nat) (h : 0 < n) : (decB n).head? ≠ some 48 := by
  rw [decB_pos h, List.head?_map, List.head?_reverse]
  intro e
  obtain ⟨d, hd, hc⟩ := Option.map_eq_some_iff.1 e
  have h1 := dg_lt 10 (by omega) n d (List.mem_of_getLast? hd)
  have h2 := chr_toNat h1
  rw [hc] at h2
  have h3 : d = 0 := by
    have : (48 : UInt8).toNat = 48 := rfl
    omega
  rw [h3] at hd
  exact dg_last 10 (by omega) n hd
theorem decB_not_minus (n : Nat) : isNeg (decB n) = false := by
  unfold isNeg
  cases e : decB n with
  | nil => rfl
  | cons c r =>
    have h1 := decB_all n
    rw [e] at h1
    have h2 : isDig c = true := by simp at h1; exact h1.1
    simp
    rintro rfl
    cases h2
theorem isNeg_txt (z : Int) : isNeg (txt z) = decide (z < 0) := by
  unfold txt
  by_cases h : z < 0
  · rw [if_pos h]; simp [isNeg, h]
  · rw [if_neg h, decB_not_minus]; simp [h]
theorem mags_txt (z : Int) : mags (txt z) = decB z.natAbs := by
  unfold mags
  rw [isNeg_txt]
  by_cases h : z < 0
  · simp [h, txt]
  · simp [h, txt]
theorem canon_txt (z : Int) : canon (txt z) = true := by
  refine canon_mk ?_ ?_ ?_
  · rw [mags_txt]; exact decB_ne _
  · rw [mags_txt]; exact decB_all _
  · rw [mags_txt, isNeg_txt]
    intro hh
    rcases Nat.eq_zero_or_pos z.natAbs with h | h
    · rw [h]; refine ⟨rfl, by simp; omega⟩
    · exact absurd hh (decB_head _ h)
theorem ival_txt (z : Int) : ival (txt z) = z := by
  unfold ival
  rw [isNeg_txt, mags_txt, natOf_decB]
  by_cases h : z < 0
  · simp [h]; omega
  · simp [h]; omega
theorem can_rdg {m : List UInt8} (h : m.all isDig = true) (h0 : m.head? ≠ some 48) : Can 10 (rdg m) := by
  refine ⟨rdg_lt h, ?_⟩
  unfold rdg
  rw [List.getLast?_map, List.getLast?_reverse]
  intro e
  obtain ⟨c, hc, hd⟩ := Option.map_eq_some_iff.1 e
  have h1 := List.all_eq_true.1 h c (List.mem_of_head? hc)
  have h2 := chr_dval h1
  rw [hd] at h2
  rw [← h2] at hc
  exact h0 hc
theorem decB_natOf {m : List UInt8} (h : m.all isDig = true) (h0 : m ≠ []) (hz : m.head? = some 48 → m.length = 1) : decB (natOf m) = m := by
  by_cases hh : m.head? = some 48
  · have h1 := hz hh
    cases m with
    | nil => exact absurd rfl h0
    | cons c r =>
      simp at hh h1
      subst hh
      subst h1
      rfl
  · have hc := can_rdg h hh
    have hd := dg_ofDg 10 (by omega) _ hc
    rw [← natOf_rdg] at hd
    have hpos : 0 < natOf m := by
      rcases Nat.eq_zero_or_pos (natOf m) with h1 | h1
      · rw [h1, dg_zero] at hd
        exact absurd (by simpa [rdg] using hd.symm) h0
      · exact h1
    rw [decB_pos hpos, hd]
    unfold rdg
    rw [← List.map_reverse, List.reverse_reverse, List.map_map]
    conv => rhs; rw [← List.map_id m]
    apply List.map_congr_left
    intro c hc
    exact chr_dval (List.all_eq_true.1 h c hc)
structure CanonParts (l : List UInt8) : Prop where
  ne : mags l ≠ []
  all : (mags l).all isDig = true
  zero : (mags l).head? = some 48 → (mags l).length = 1 ∧ isNeg l = false
theorem canon_parts {l : List UInt8} (h : canon l = true) : CanonParts l := by
  unfold canon at h
  simp only [Bool.and_eq_true, Bool.or_eq_true, Bool.not_eq_true', beq_iff_eq] at h
  obtain ⟨⟨h1, h2⟩, h3⟩ := h
  refine ⟨by intro e; rw [e] at h1; simp at h1, h2, fun hh => ?_⟩
  rcases h3 with h3 | h3
  · rw [hh] at h3; simp at h3
  · exact h3
theorem natOf_pos {m : List UInt8} (h : m.all isDig = true) (h0 : m ≠ []) (hh : m.head? ≠ some 48) : 0 < natOf m := by
  rcases Nat.eq_zero_or_pos (natOf m) with h1 | h1
  · have h2 := decB_natOf h h0 (fun e => absurd e hh)
    rw [h1, decB_zero] at h2
    rw [← h2] at hh
    simp at hh
  · exact h1
theorem txt_ival {l : List UInt8} (h : canon l = true) : txt (ival l) = l := by
  obtain ⟨h0, h1, h2⟩ := canon_parts h
  have h3 := decB_natOf h1 h0 (fun e => (h2 e).1)
  unfold ival txt
  cases hn : isNeg l
  · have hm : mags l = l := by unfold mags; rw [hn]; rfl
    simp only [Bool.false_eq_true, if_false]
    rw [if_neg (by omega), Int.natAbs_natCast, h3, hm]
  · have hh : (mags l).head? ≠ some 48 := by
      intro e
      have := (h2 e).2
      rw [hn] at this
      cases this
    have hp := natOf_pos h1 h0 hh
    simp only [if_true]
    rw [if_pos (by omega), Int.natAbs_neg, Int.natAbs_natCast, h3]
    have hm : mags l = l.tail := by unfold mags; rw [hn]; rfl
    rw [hm]
    unfold isNeg at hn
    cases l with
    | nil => simp at hn
    | cons c r => simp at hn; subst hn; rfl
theorem txt_inj {a b : Int} (h : txt a = txt b) : a = b := by rw [← ival_txt a, ← ival_txt b, h]
theorem ival_inj {a b : List UInt8} (ha : canon a = true) (hb : canon b = true) (h : ival a = ival b) : a = b := by rw [← txt_ival ha, ← txt_ival hb, h]
theorem natAbs_ival (l : List UInt8) : (ival l).natAbs = natOf (mags l) := by
  unfold ival; split <;> simp
end Z
end Go.Proofs.Ythafdckomhdlbaa
