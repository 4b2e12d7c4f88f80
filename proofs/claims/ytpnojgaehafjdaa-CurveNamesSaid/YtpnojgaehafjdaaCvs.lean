/- Walks: small functions of curve, and its calculations up to the first error. -/
import Derived.Test.YtpnojgaehafjdaaCvm
import Derived.Test.YtpnojgaehafjdaaQ4
import Derived.WalkKit
import Derived.WalkSpells
import Derived.WalkLawsBesides
namespace Go.Proofs.Ytpnojgaehafjdaa
open Go.RowKit

theorem day_any (d : Int) (w : World) : Calls Try.prog 25 #[.int .i64 d] w fun e w' => e = .returned (.bool (Z.dayB d)) ∧ w = w' := by
  go_enter Try.func25, Try.ntmps25
  go_wp2_with fail
  all_goals (go_ret; refine ⟨ret_bool ?_, rfl⟩; rw [Bool.eq_iff_iff]; simp [Z.dayB]; try omega)
theorem pos_any (r : ByteArray) (w : World) (h : 0 < r.size) (hm : r.size ≤ maxLen) : Calls Try.prog 29 #[.string r] w fun e w' => e = .returned (.bool (Z.posB r)) ∧ w = w' := by
  have hn := Z.neg_of r h
  unfold Z.posB
  unfold maxLen at hm
  have h0 : (0 : Int) < (r.size : Int) := by omega
  cases h1 : (r.toList == [48]) <;> cases h2 : ((r[0].toNat : Int) == 45)
  all_goals
    have h3 : ((r[0].toNat : Int) != 45) = !((r[0].toNat : Int) == 45) := rfl
    rw [h2] at hn h3
    rw [hn]
    clear hn
    go_enter Try.func29, Try.ntmps29
    go_wp2_with fail
    go_ret
    exact ⟨rfl, rfl⟩
/-- The box of a calculation holds this error. -/
abbrev SB (w : World) (B : Nat) (e : Int) : Prop := Blk w B 59 #[.int .i64 e]
/-- Behind a calculation: its text, its error, nothing else written. -/
def CalcRet (B : Nat) (r : ByteArray × Int) (w : World) (e : Ending) (w' : World) : Prop := e = .returned (.string r.1) ∧ SB w' B r.2 ∧ w.grownBy w' (some B)
/-- An operation of rational, in all worlds above one. -/
def OpF (F : Nat) (f : ByteArray → ByteArray → ByteArray × Int) (w0 : World) : Prop := ∀ (a b : ByteArray) (W : World), Below w0.heap.size w0 W → a.size ≤ 100000 → b.size ≤ 100000 →
  Calls Try.prog F #[.string a, .string b] W fun e w' => e = .returned (.tuple #[.string (f a b).1, .int .i64 (f a b).2]) ∧ Below W.heap.size W w'
theorem opF_add {w : World} (h : HasV w) : OpF 61 Z.addP w := fun a b W hb ha hb' => qadd_any a b W (h.below hb) ha hb'
theorem opF_sub {w : World} (h : HasV w) : OpF 16 Z.subP w := fun a b W hb ha hb' => qsub_any a b W (h.below hb) ha hb'
theorem opF_mul {w : World} (h : HasV w) : OpF 20 Z.mulP w := fun a b W hb ha hb' => qmul_any a b W (h.below hb) ha hb'
theorem opF_div {w : World} (h : HasV w) : OpF 60 Z.divP w := fun a b W hb ha hb' => qdiv_any a b W (h.below hb) ha hb'
theorem ne_bne {e : Int} (h : e ≠ 0) : (e != 0) = true := by rw [bne_iff_ne]; exact h
theorem do_add (f : ByteArray → ByteArray → ByteArray × Int) (B : Nat) (e : Int) (a b : ByteArray) (w : World) (hs : SB w B e) (hO : OpF 61 f w) (ha : a.size ≤ 100000) (hb : b.size ≤ 100000) :
    Calls Try.prog 59 #[.pointer (some ⟨B, 0, none⟩), .func (.func 61) #[] #[], .string a, .string b] w (CalcRet B (Z.cOp f e a b) w) := by
  have hc : w.cell? ⟨B, 0, none⟩ = some (.int .i64 e) := hs.cell 0
  by_cases he : e = 0
  · subst he
    have HO : Hid (Calls Try.prog 61 #[.string a, .string b] w fun e w' => e = .returned (.tuple #[.string (f a b).1, .int .i64 (f a b).2]) ∧ Below w.heap.size w w') := Lib.hid (hO a b w (Below.refl _ _) ha hb)
    rw [Z.cOp_ok]
    unfold CalcRet
    generalize (f a b).1 = r at *
    generalize (f a b).2 = k at *
    clear hO
    go_enter Try.func59, Try.ntmps59
    go_wp2_with fail
    refine HO.out.mono ?_
    rintro e w1 ⟨rfl, hb1⟩
    have q := hs.below hb1
    have d0 := q.cell 0
    have f0 := q.frozen 0
    go_wp2_with fail
    go_ret
    exact ⟨rfl, q.set 0 _, (grown_of_below hb1 (some B)).trans (grownBy_setAt w1 B 0 _)⟩
  · rw [Z.cOp_err _ he]
    have hk := ne_bne he
    unfold CalcRet Z.z48
    clear he hO
    go_enter Try.func59, Try.ntmps59
    go_wp2_with fail
    go_ret
    exact ⟨rfl, hs, grown_of_below (Below.refl _ _) _⟩
theorem do_sub (f : ByteArray → ByteArray → ByteArray × Int) (B : Nat) (e : Int) (a b : ByteArray) (w : World) (hs : SB w B e) (hO : OpF 16 f w) (ha : a.size ≤ 100000) (hb : b.size ≤ 100000) :
    Calls Try.prog 59 #[.pointer (some ⟨B, 0, none⟩), .func (.func 16) #[] #[], .string a, .string b] w (CalcRet B (Z.cOp f e a b) w) := by
  have hc : w.cell? ⟨B, 0, none⟩ = some (.int .i64 e) := hs.cell 0
  by_cases he : e = 0
  · subst he
    have HO : Hid (Calls Try.prog 16 #[.string a, .string b] w fun e w' => e = .returned (.tuple #[.string (f a b).1, .int .i64 (f a b).2]) ∧ Below w.heap.size w w') := Lib.hid (hO a b w (Below.refl _ _) ha hb)
    rw [Z.cOp_ok]
    unfold CalcRet
    generalize (f a b).1 = r at *
    generalize (f a b).2 = k at *
    clear hO
    go_enter Try.func59, Try.ntmps59
    go_wp2_with fail
    refine HO.out.mono ?_
    rintro e w1 ⟨rfl, hb1⟩
    have q := hs.below hb1
    have d0 := q.cell 0
    have f0 := q.frozen 0
    go_wp2_with fail
    go_ret
    exact ⟨rfl, q.set 0 _, (grown_of_below hb1 (some B)).trans (grownBy_setAt w1 B 0 _)⟩
  · rw [Z.cOp_err _ he]
    have hk := ne_bne he
    unfold CalcRet Z.z48
    clear he hO
    go_enter Try.func59, Try.ntmps59
    go_wp2_with fail
    go_ret
    exact ⟨rfl, hs, grown_of_below (Below.refl _ _) _⟩
theorem do_mul (f : ByteArray → ByteArray → ByteArray × Int) (B : Nat) (e : Int) (a b : ByteArray) (w : World) (hs : SB w B e) (hO : OpF 20 f w) (ha : a.size ≤ 100000) (hb : b.size ≤ 100000) :
    Calls Try.prog 59 #[.pointer (some ⟨B, 0, none⟩), .func (.func 20) #[] #[], .string a, .string b] w (CalcRet B (Z.cOp f e a b) w) := by
  have hc : w.cell? ⟨B, 0, none⟩ = some (.int .i64 e) := hs.cell 0
  by_cases he : e = 0
  · subst he
    have HO : Hid (Calls Try.prog 20 #[.string a, .string b] w fun e w' => e = .returned (.tuple #[.string (f a b).1, .int .i64 (f a b).2]) ∧ Below w.heap.size w w') := Lib.hid (hO a b w (Below.refl _ _) ha hb)
    rw [Z.cOp_ok]
    unfold CalcRet
    generalize (f a b).1 = r at *
    generalize (f a b).2 = k at *
    clear hO
    go_enter Try.func59, Try.ntmps59
    go_wp2_with fail
    refine HO.out.mono ?_
    rintro e w1 ⟨rfl, hb1⟩
    have q := hs.below hb1
    have d0 := q.cell 0
    have f0 := q.frozen 0
    go_wp2_with fail
    go_ret
    exact ⟨rfl, q.set 0 _, (grown_of_below hb1 (some B)).trans (grownBy_setAt w1 B 0 _)⟩
  · rw [Z.cOp_err _ he]
    have hk := ne_bne he
    unfold CalcRet Z.z48
    clear he hO
    go_enter Try.func59, Try.ntmps59
    go_wp2_with fail
    go_ret
    exact ⟨rfl, hs, grown_of_below (Below.refl _ _) _⟩
theorem do_div (f : ByteArray → ByteArray → ByteArray × Int) (B : Nat) (e : Int) (a b : ByteArray) (w : World) (hs : SB w B e) (hO : OpF 60 f w) (ha : a.size ≤ 100000) (hb : b.size ≤ 100000) :
    Calls Try.prog 59 #[.pointer (some ⟨B, 0, none⟩), .func (.func 60) #[] #[], .string a, .string b] w (CalcRet B (Z.cOp f e a b) w) := by
  have hc : w.cell? ⟨B, 0, none⟩ = some (.int .i64 e) := hs.cell 0
  by_cases he : e = 0
  · subst he
    have HO : Hid (Calls Try.prog 60 #[.string a, .string b] w fun e w' => e = .returned (.tuple #[.string (f a b).1, .int .i64 (f a b).2]) ∧ Below w.heap.size w w') := Lib.hid (hO a b w (Below.refl _ _) ha hb)
    rw [Z.cOp_ok]
    unfold CalcRet
    generalize (f a b).1 = r at *
    generalize (f a b).2 = k at *
    clear hO
    go_enter Try.func59, Try.ntmps59
    go_wp2_with fail
    refine HO.out.mono ?_
    rintro e w1 ⟨rfl, hb1⟩
    have q := hs.below hb1
    have d0 := q.cell 0
    have f0 := q.frozen 0
    go_wp2_with fail
    go_ret
    exact ⟨rfl, q.set 0 _, (grown_of_below hb1 (some B)).trans (grownBy_setAt w1 B 0 _)⟩
  · rw [Z.cOp_err _ he]
    have hk := ne_bne he
    unfold CalcRet Z.z48
    clear he hO
    go_enter Try.func59, Try.ntmps59
    go_wp2_with fail
    go_ret
    exact ⟨rfl, hs, grown_of_below (Below.refl _ _) _⟩
section
variable (B : Nat) (e : Int) (a b : ByteArray) (w : World)
theorem sadd_any (hs : SB w B e) (hV : HasV w) (ha : a.size ≤ 100000) (hb : b.size ≤ 100000) : Calls Try.prog 40 #[.pointer (some ⟨B, 0, none⟩), .string a, .string b] w (CalcRet B (Z.cOp Z.addP e a b) w) := by
  have HD := Lib.hid (do_add Z.addP B e a b w hs (opF_add hV) ha hb)
  unfold CalcRet at HD ⊢
  generalize Z.cOp Z.addP e a b = r at *
  go_enter Try.func40, Try.ntmps40
  go_wp2_with fail
  refine HD.out.mono ?_
  rintro e w1 ⟨rfl, h1, h2⟩
  go_wp2_with fail
  go_ret
  exact ⟨rfl, h1, h2⟩
theorem ssub_any (hs : SB w B e) (hV : HasV w) (ha : a.size ≤ 100000) (hb : b.size ≤ 100000) : Calls Try.prog 42 #[.pointer (some ⟨B, 0, none⟩), .string a, .string b] w (CalcRet B (Z.cOp Z.subP e a b) w) := by
  have HD := Lib.hid (do_sub Z.subP B e a b w hs (opF_sub hV) ha hb)
  unfold CalcRet at HD ⊢
  generalize Z.cOp Z.subP e a b = r at *
  go_enter Try.func42, Try.ntmps42
  go_wp2_with fail
  refine HD.out.mono ?_
  rintro e w1 ⟨rfl, h1, h2⟩
  go_wp2_with fail
  go_ret
  exact ⟨rfl, h1, h2⟩
theorem smul_any (hs : SB w B e) (hV : HasV w) (ha : a.size ≤ 100000) (hb : b.size ≤ 100000) : Calls Try.prog 41 #[.pointer (some ⟨B, 0, none⟩), .string a, .string b] w (CalcRet B (Z.cOp Z.mulP e a b) w) := by
  have HD := Lib.hid (do_mul Z.mulP B e a b w hs (opF_mul hV) ha hb)
  unfold CalcRet at HD ⊢
  generalize Z.cOp Z.mulP e a b = r at *
  go_enter Try.func41, Try.ntmps41
  go_wp2_with fail
  refine HD.out.mono ?_
  rintro e w1 ⟨rfl, h1, h2⟩
  go_wp2_with fail
  go_ret
  exact ⟨rfl, h1, h2⟩
theorem sdiv_any (hs : SB w B e) (hV : HasV w) (ha : a.size ≤ 100000) (hb : b.size ≤ 100000) : Calls Try.prog 38 #[.pointer (some ⟨B, 0, none⟩), .string a, .string b] w (CalcRet B (Z.cOp Z.divP e a b) w) := by
  have HD := Lib.hid (do_div Z.divP B e a b w hs (opF_div hV) ha hb)
  unfold CalcRet at HD ⊢
  generalize Z.cOp Z.divP e a b = r at *
  go_enter Try.func38, Try.ntmps38
  go_wp2_with fail
  refine HD.out.mono ?_
  rintro e w1 ⟨rfl, h1, h2⟩
  go_wp2_with fail
  go_ret
  exact ⟨rfl, h1, h2⟩
/-- A quotient of small differences of days. -/
theorem share_any (m n : Int) (hs : SB w B e) (h0 : -100000 < m) (h1 : m < 100000) (h2 : 0 < n) (h3 : n < 100000) : Calls Try.prog 46 #[.pointer (some ⟨B, 0, none⟩), .int .i64 m, .int .i64 n] w (CalcRet B (Z.cRat e m n) w) := by
  have hc : w.cell? ⟨B, 0, none⟩ = some (.int .i64 e) := hs.cell 0
  by_cases he : e = 0
  · subst he
    have hm := ratio_any m n w (by omega) (by omega) (by omega) (by omega)
    unfold MakeRet at hm
    obtain ⟨e1, e2⟩ := Z.make_S ((Z.lt_days h0 h1).chk (by omega) (by omega)) ((Z.lt_days (by omega) h3).chk (by omega) (by omega)) (by omega : n ≠ 0)
    rw [e1, e2] at hm
    have HO : Hid (Calls Try.prog 62 #[.int .i64 m, .int .i64 n] w fun e w' => e = .returned (.tuple #[.string (Z.Q (Rat.divInt m n)), .int .i64 0]) ∧ Below w.heap.size w w') := Lib.hid hm
    have e3 : Z.cRat 0 m n = (Z.Q (Rat.divInt m n), 0) := rfl
    rw [e3]
    unfold CalcRet
    generalize Z.Q (Rat.divInt m n) = r at *
    clear hm e1 e2 e3 h0 h1 h2 h3
    go_enter Try.func46, Try.ntmps46
    go_wp2_with fail
    refine HO.out.mono ?_
    rintro e w1 ⟨rfl, hb1⟩
    have q := hs.below hb1
    have d0 := q.cell 0
    have f0 := q.frozen 0
    go_wp2_with fail
    go_ret
    exact ⟨rfl, q.set 0 _, (grown_of_below hb1 (some B)).trans (grownBy_setAt w1 B 0 _)⟩
  · rw [Z.cRat_err he]
    have hk := ne_bne he
    unfold CalcRet Z.z48
    clear he h0 h1 h2 h3
    go_enter Try.func46, Try.ntmps46
    go_wp2_with fail
    go_ret
    exact ⟨rfl, hs, grown_of_below (Below.refl _ _) _⟩
theorem done_any (hs : SB w B e) : Calls Try.prog 31 #[.pointer (some ⟨B, 0, none⟩), .string a] w fun en w' => en = .returned (.tuple #[.string (Z.done (a, e)).1, .int .i64 (Z.done (a, e)).2]) ∧ Below w.heap.size w w' := by
  have hc : w.cell? ⟨B, 0, none⟩ = some (.int .i64 e) := hs.cell 0
  unfold Z.done
  by_cases he : e = 0
  · subst he
    rw [if_pos rfl]
    go_enter Try.func31, Try.ntmps31
    go_wp2_with fail
    go_ret2
    exact ⟨rfl, Below.refl _ _⟩
  · rw [if_neg he]
    have hk := ne_bne he
    clear he
    go_enter Try.func31, Try.ntmps31
    go_wp2_with fail
    go_region
    go_wp2_with fail
    go_ret2
    exact ⟨rfl, (Below.refl _ _).drew⟩
end
end Go.Proofs.Ytpnojgaehafjdaa
