/- Plain lists and numbers: the texts of rationals: what Check says of a string, what it stands for, fractions made canonical. -/
import Derived.Test.YthafdckomhdlbaaZlaw
import Derived.Lib.IndexMore
namespace Go.Proofs.Ythafdckomhdlbaa
namespace Z

/-- The parts of a text at its first slash. -/
def cutR (l : List UInt8) : List UInt8 × List UInt8 × Bool := Lib.cut l [47]
def rN (s : ByteArray) : ByteArray := ⟨(cutR s.data.toList).1.toArray⟩
def rD (s : ByteArray) : ByteArray := ⟨(cutR s.data.toList).2.1.toArray⟩
def rF (s : ByteArray) : Bool := (cutR s.data.toList).2.2
/-- Numerator and denominator, as integers. -/
def rn (s : ByteArray) : Int := ival (rN s).data.toList
def rd (s : ByteArray) : Int := if rF s then ival (rD s).data.toList else 1
/-- The denominator as it is used. -/
def rD1 (s : ByteArray) : ByteArray := if rF s then rD s else ⟨#[49]⟩
/-- Of the wrong form, by its digits and signs. -/
def rbad (s : ByteArray) : Bool := !canon (rN s).data.toList || (rF s && (!canon (rD s).data.toList || isNeg (rD s).data.toList || decide (rd s = 0) || decide (rd s = 1)))
def rbig (s : ByteArray) : Bool := !decide (chk (rN s).data.toList = 0) || (rF s && !decide (chk (rD s).data.toList = 0))
/-- What rational.Check answers. -/
def rchk (s : ByteArray) : Int := if rbad s then 12 else if rbig s then 14 else if rF s && !decide (gcdI (rn s) (rd s) = 1) then 12 else 0
/-- What a text stands for. -/
def rq (s : ByteArray) : Rat := Rat.divInt (rn s) (rd s)
/-- The canonical text of a rational. -/
def qT (q : Rat) : List UInt8 := if q.den = 1 then txt q.num else txt q.num ++ 47 :: decB q.den
def Q (q : Rat) : ByteArray := ⟨(qT q).toArray⟩
/-- What Make answers, of two strings. -/
def makeE (a b : ByteArray) : Int := if bothE a b = 0 then if ival b.data.toList = 0 then 16 else 0 else bothE a b
def makeS (a b : ByteArray) : ByteArray := if makeE a b = 0 then Q (Rat.divInt (ival a.data.toList) (ival b.data.toList)) else ⟨#[]⟩

theorem not_slash_dig {c : UInt8} (h : isDig c = true) : c ≠ 47 := by rintro rfl; cases h
theorem txt_no_slash (z : Int) : ∀ c ∈ txt z, c ≠ 47 := by
  intro c hc
  unfold txt at hc
  split at hc
  · rcases List.mem_cons.1 hc with rfl | hc
    · decide
    · exact not_slash_dig (List.all_eq_true.1 (decB_all _) c hc)
  · exact not_slash_dig (List.all_eq_true.1 (decB_all _) c hc)
theorem indexB_none {l : List UInt8} (h : ∀ c ∈ l, c ≠ 47) : Lib.index l [47] = -1 := by
  refine Lib.index_none fun j _ => ?_
  unfold Lib.occAt
  cases e : l.drop j with
  | nil => rfl
  | cons c r =>
    have hc : c ∈ l := List.mem_of_mem_drop (by rw [e]; exact List.mem_cons_self ..)
    have : (47 : UInt8) ≠ c := fun e => h c hc e.symm
    simp [List.isPrefixOf, this]
theorem cutR_none {l : List UInt8} (h : ∀ c ∈ l, c ≠ 47) : cutR l = (l, [], false) := by
  unfold cutR Lib.cut
  rw [indexB_none h, if_neg (by omega)]
theorem indexB_some {l r : List UInt8} (h : ∀ c ∈ l, c ≠ 47) : Lib.index (l ++ 47 :: r) [47] = l.length := by
  refine Lib.index_first (i := l.length) (by simp) ?_ (fun j hj => ?_)
  · unfold Lib.occAt
    simp [List.isPrefixOf]
  · unfold Lib.occAt
    rw [List.drop_append_of_le_length (by omega)]
    cases e : l.drop j with
    | nil => have := congrArg List.length e; simp at this; omega
    | cons c r' =>
      have hc : c ∈ l := List.mem_of_mem_drop (by rw [e]; exact List.mem_cons_self ..)
      have : (47 : UInt8) ≠ c := fun e => h c hc e.symm
      simp [List.isPrefixOf, this]
theorem cutR_some {l r : List UInt8} (h : ∀ c ∈ l, c ≠ 47) : cutR (l ++ 47 :: r) = (l, r, true) := by
  unfold cutR Lib.cut
  rw [indexB_some h, if_pos (by omega)]
  simp
/-- Where there is a slash, the text is its parts. -/
theorem cutR_join {l : List UInt8} (h : (cutR l).2.2 = true) : l = (cutR l).1 ++ 47 :: (cutR l).2.1 := by
  unfold cutR Lib.cut at *
  rcases Lib.index_spec l [47] with ⟨h1, _⟩ | ⟨i, h1, h2, h3, _⟩
  · rw [h1, if_neg (by omega)] at h; cases h
  · rw [h1, if_pos (by omega)]
    simp only [Int.toNat_natCast]
    unfold Lib.occAt at h3
    have hd : l.drop i = 47 :: l.drop (i + 1) := by
      cases e : l.drop i with
      | nil => rw [e] at h3; cases h3
      | cons c r =>
        rw [e] at h3
        have hc : c = 47 := by simp [List.isPrefixOf] at h3; exact h3.symm
        have hr : l.drop (i + 1) = r := by rw [← List.tail_drop, e]; rfl
        rw [hr, hc]
    simp only [List.length_cons, List.length_nil, Nat.zero_add]
    rw [← hd, List.take_append_drop]
theorem cutR_whole {l : List UInt8} (h : (cutR l).2.2 = false) : (cutR l).1 = l := by
  unfold cutR Lib.cut at *
  split at h
  · cases h
  · rename_i hh; rw [if_neg hh]
end Z
end Go.Proofs.Ythafdckomhdlbaa
