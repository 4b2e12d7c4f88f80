/- Walks: the statements' gives and alive of chapter 5: the chapter's examples. -/
import Derived.Test.YtblelgmedononaaDfra
import Derived.Test.YtblelgmedononaaZfrb
namespace Go.Proofs.Ytblelgmedononaa
open Go.RowKit

def GV (rule a b : Int) (S : ByteArray) : Prop := ∀ W : World, Calls Try.prog 13 #[.int .u8 rule, .int .i64 a, .int .i64 b, .string S] W fun e w' => e = .returned (.bool true) ∧ Below W.heap.size W w'
theorem gv {rule a b : Int} {q : Rat} {S : ByteArray} (h0 : 0 ≤ rule) (h4 : rule ≤ 4) (ha : Z.inR a = true) (hb : Z.inR b = true) (hf : Z.frac rule a b = q) (hs : Z.Q q = S) : GV rule a b S := by
  intro w
  have hd := Z.days_dom.2 ⟨h4, ha, hb⟩
  have C := Lib.hid (fraction_any rule a b w h0 (by omega))
  unfold FracRet Z.yrS at C
  rw [hd, if_pos rfl, hf, hs] at C
  clear hd hf hs ha hb
  go_enter Try.func13, Try.ntmps13
  go_wp2_with fail
  refine C.out.mono ?_
  rintro e w1 ⟨rfl, hb1⟩
  go_wp2_with fail
  go_ret
  exact ⟨rfl, hb1⟩
theorem days_ruled {rule a b : Int} (h4 : rule ≤ 4) (ha : Z.inR a = true) (hb : Z.inR b = true) (h : a ≤ b) : (Z.days rule a b).1 = Z.ruled rule a b := by
  unfold Z.days
  rw [if_pos ⟨h4, ha, hb⟩, if_neg (by omega)]
theorem gv3 {a b y m d p q r : Int} {S : ByteArray} (h : Z.Dt a y m d) (k : Z.Dt b p q r) (ha : Z.inR a = true) (hb : Z.inR b = true) (hs : Z.Q (Rat.divInt (Z.eof p (b - Z.fst p) - Z.eof y (a - Z.fst y)) 133590) = S) : GV 3 a b S := by
  refine gv (by omega) (by omega) ha hb rfl ?_
  unfold Z.frac
  rw [if_pos rfl, h.E, k.E]
  exact hs
theorem gv0 {a b : Int} {S : ByteArray} (hab : a ≤ b) (ha : Z.inR a = true) (hb : Z.inR b = true) (hs : Z.Q (Rat.divInt (b - a) 365) = S) : GV 0 a b S := by
  refine gv (by omega) (by omega) ha hb rfl ?_
  unfold Z.frac
  rw [if_neg (by omega), if_pos rfl, days_ruled (by omega) ha hb hab]
  exact hs
theorem gv1 {a b : Int} {S : ByteArray} (hab : a ≤ b) (ha : Z.inR a = true) (hb : Z.inR b = true) (hs : Z.Q (Rat.divInt (b - a) 360) = S) : GV 1 a b S := by
  refine gv (by omega) (by omega) ha hb rfl ?_
  unfold Z.frac
  rw [if_neg (by omega), if_neg (by omega), days_ruled (by omega) ha hb hab]
  exact hs
theorem gv2 {a b y m d p q r : Int} {S : ByteArray} (h : Z.Dt a y m d) (k : Z.Dt b p q r) (hab : a ≤ b) (ha : Z.inR a = true) (hb : Z.inR b = true) (hs : Z.Q (Rat.divInt (360 * p + 30 * q + min r 30 - (360 * y + 30 * m + min d 30)) 360) = S) : GV 2 a b S := by
  refine gv (by omega) (by omega) ha hb rfl ?_
  unfold Z.frac
  rw [if_neg (by omega), if_neg (by omega), days_ruled (by omega) ha hb hab]
  unfold Z.ruled
  rw [if_pos rfl, h.thirty0 k, h.T, k.T]
  exact hs
theorem gv4 {a b y m d p q r : Int} {S : ByteArray} (h : Z.Dt a y m d) (k : Z.Dt b p q r) (hab : a ≤ b) (ha : Z.inR a = true) (hb : Z.inR b = true) (hs : Z.Q (Rat.divInt (360 * (p - y) + 30 * (q - m) + (if min d 30 = 30 then min r 30 else r) - min d 30) 360) = S) : GV 4 a b S := by
  refine gv (by omega) (by omega) ha hb rfl ?_
  unfold Z.frac
  rw [if_neg (by omega), if_neg (by omega), days_ruled (by omega) ha hb hab]
  unfold Z.ruled
  rw [if_neg (by omega), if_pos rfl, h.thirty1 k]
  exact hs
theorem dt45320 : Z.Dt 45320 2024 1 31 := ⟨by decide, by decide, by decide, by decide, by decide, by decide +kernel, by decide +kernel⟩
theorem dt45502 : Z.Dt 45502 2024 7 31 := ⟨by decide, by decide, by decide, by decide, by decide, by decide +kernel, by decide +kernel⟩
theorem dt45304 : Z.Dt 45304 2024 1 15 := ⟨by decide, by decide, by decide, by decide, by decide, by decide +kernel, by decide +kernel⟩
theorem dt45106 : Z.Dt 45106 2023 7 1 := ⟨by decide, by decide, by decide, by decide, by decide, by decide +kernel, by decide +kernel⟩
theorem dt45472 : Z.Dt 45472 2024 7 1 := ⟨by decide, by decide, by decide, by decide, by decide, by decide +kernel, by decide +kernel⟩
theorem dt0 : Z.Dt 0 1900 1 1 := ⟨by decide, by decide, by decide, by decide, by decide, by decide +kernel, by decide +kernel⟩
theorem dt36524 : Z.Dt 36524 2000 1 1 := ⟨by decide, by decide, by decide, by decide, by decide, by decide +kernel, by decide +kernel⟩
theorem dt99999 : Z.Dt 99999 2173 10 15 := ⟨by decide, by decide, by decide, by decide, by decide, by decide +kernel, by decide +kernel⟩
theorem dt45349 : Z.Dt 45349 2024 2 29 := ⟨by decide, by decide, by decide, by decide, by decide, by decide +kernel, by decide +kernel⟩
theorem dt45350 : Z.Dt 45350 2024 3 1 := ⟨by decide, by decide, by decide, by decide, by decide, by decide +kernel, by decide +kernel⟩
theorem dt7 : Z.Dt 7 1900 1 8 := ⟨by decide, by decide, by decide, by decide, by decide, by decide +kernel, by decide +kernel⟩
theorem gives0 : GV 0 45320 45502 ⟨#[49, 56, 50, 47, 51, 54, 53]⟩ := gv0 (by omega) (by decide) (by decide) (by decide +kernel)
theorem gives1 : GV 1 45320 45502 ⟨#[57, 49, 47, 49, 56, 48]⟩ := gv1 (by omega) (by decide) (by decide) (by decide +kernel)
theorem gives2 : GV 2 45320 45502 ⟨#[49, 47, 50]⟩ := gv2 dt45320 dt45502 (by omega) (by decide) (by decide) (by decide +kernel)
theorem gives3 : GV 4 45320 45502 ⟨#[49, 47, 50]⟩ := gv4 dt45320 dt45502 (by omega) (by decide) (by decide) (by decide +kernel)
theorem gives4 : GV 3 45320 45502 ⟨#[57, 49, 47, 49, 56, 51]⟩ := gv3 dt45320 dt45502 (by decide) (by decide) (by decide +kernel)
theorem gives5 : GV 2 45304 45502 ⟨#[49, 51, 47, 50, 52]⟩ := gv2 dt45304 dt45502 (by omega) (by decide) (by decide) (by decide +kernel)
theorem gives6 : GV 4 45304 45502 ⟨#[52, 57, 47, 57, 48]⟩ := gv4 dt45304 dt45502 (by omega) (by decide) (by decide) (by decide +kernel)
theorem gives7 : GV 3 45106 45472 ⟨#[54, 54, 56, 56, 55, 47, 54, 54, 55, 57, 53]⟩ := gv3 dt45106 dt45472 (by decide) (by decide) (by decide +kernel)
theorem gives8 : GV 3 0 36524 ⟨#[49, 48, 48]⟩ := gv3 dt0 dt36524 (by decide) (by decide) (by decide +kernel)
theorem gives9 : GV 3 36524 0 ⟨#[45, 49, 48, 48]⟩ := gv3 dt36524 dt0 (by decide) (by decide) (by decide +kernel)
theorem gives10 : GV 0 7 7 ⟨#[48]⟩ := gv0 (by omega) (by decide) (by decide) (by decide +kernel)
theorem gives11 : GV 2 0 99999 ⟨#[50, 52, 54, 52, 49, 47, 57, 48]⟩ := gv2 dt0 dt99999 (by omega) (by decide) (by decide) (by decide +kernel)
set_option maxHeartbeats 1000000 in
theorem dalive_any (w : World) : Calls Try.prog 14 #[] w fun e w' => e = .returned (.bool true) ∧ Below w.heap.size w w' := by
  have H0 := Lib.hid gives0
  have H1 := Lib.hid gives1
  have H2 := Lib.hid gives2
  have H3 := Lib.hid gives3
  have H4 := Lib.hid gives4
  have H5 := Lib.hid gives5
  have H6 := Lib.hid gives6
  have H7 := Lib.hid gives7
  unfold GV at *
  go_enter Try.func14, Try.ntmps14
  go_wp2_with fail
  refine (H0.out _).mono ?_
  rintro e w0 ⟨rfl, hb0⟩
  have c0 := hb0
  go_wp2_with fail
  refine (H1.out _).mono ?_
  rintro e w1 ⟨rfl, hb1⟩
  have c1 := c0.trans (hb1.mono c0.size)
  go_wp2_with fail
  refine (H2.out _).mono ?_
  rintro e w2 ⟨rfl, hb2⟩
  have c2 := c1.trans (hb2.mono c1.size)
  go_wp2_with fail
  refine (H3.out _).mono ?_
  rintro e w3 ⟨rfl, hb3⟩
  have c3 := c2.trans (hb3.mono c2.size)
  go_wp2_with fail
  refine (H4.out _).mono ?_
  rintro e w4 ⟨rfl, hb4⟩
  have c4 := c3.trans (hb4.mono c3.size)
  go_wp2_with fail
  refine (H5.out _).mono ?_
  rintro e w5 ⟨rfl, hb5⟩
  have c5 := c4.trans (hb5.mono c4.size)
  go_wp2_with fail
  refine (H6.out _).mono ?_
  rintro e w6 ⟨rfl, hb6⟩
  have c6 := c5.trans (hb6.mono c5.size)
  go_wp2_with fail
  refine (H7.out _).mono ?_
  rintro e w7 ⟨rfl, hb7⟩
  have c7 := c6.trans (hb7.mono c6.size)
  go_wp2_with fail
  go_ret
  exact ⟨rfl, c7⟩
end Go.Proofs.Ytblelgmedononaa
