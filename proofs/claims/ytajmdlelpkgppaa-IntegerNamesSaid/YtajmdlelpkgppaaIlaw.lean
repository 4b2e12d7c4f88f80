/- Walks: the statements' helpers: op, fits, alive. -/
import Derived.Test.YtajmdlelpkgppaaZlaw
import Derived.Test.YtajmdlelpkgppaaRops
import Derived.Test.YtajmdlelpkgppaaRgreat
namespace Go.Proofs.Ytajmdlelpkgppaa
open Go.RowKit

def OpStr (r : ByteArray) (w : World) (e : Ending) (w' : World) : Prop := e = .returned (.string r) ∧ Below w.heap.size w w'
theorem opS_err {f : Int → Int → Int} {a b : ByteArray} (h : Z.opE f a b ≠ 0) : Z.opS f a b = ⟨#[]⟩ := by
  unfold Z.opE at h
  unfold Z.opS
  by_cases hb : Z.bothE a b = 0
  · rw [if_pos hb] at h ⊢
    exact Z.resS_bad h
  · rw [if_neg hb]
theorem op_add (a b : ByteArray) (w : World) (ha : a.size ≤ maxLen) (hb : b.size ≤ maxLen) :
    Calls Try.prog 32 #[.func (.func 16) #[] #[], .string a, .string b] w (OpStr (Z.opS (fun x y => x + y) a b) w) := by
  have C := Lib.hid (fun W : World => add_any a b W ha hb)
  have HE := Lib.hid (@opS_err (fun x y => x + y) a b)
  unfold OpRet at C
  generalize Z.opS (fun x y => x + y) a b = r at *
  generalize Z.opE (fun x y => x + y) a b = k at *
  by_cases hk : k = 0
  · subst hk
    go_enter Try.func32, Try.ntmps32
    go_wp2_with fail
    refine (C.out _).mono ?_
    rintro e w1 ⟨rfl, hb1⟩
    go_wp2_with fail
    go_ret
    exact ⟨rfl, hb1⟩
  · have hkb : (k != 0) = true := by simpa using hk
    obtain rfl : r = ⟨#[]⟩ := HE.out hk
    clear hk HE
    go_enter Try.func32, Try.ntmps32
    go_wp2_with fail
    refine (C.out _).mono ?_
    rintro e w1 ⟨rfl, hb1⟩
    go_wp2_with fail
    go_ret
    exact ⟨rfl, hb1⟩
theorem op_sub (a b : ByteArray) (w : World) (ha : a.size ≤ maxLen) (hb : b.size ≤ maxLen) :
    Calls Try.prog 32 #[.func (.func 18) #[] #[], .string a, .string b] w (OpStr (Z.opS (fun x y => x + -y) a b) w) := by
  have C := Lib.hid (fun W : World => sub_any a b W ha hb)
  have HE := Lib.hid (@opS_err (fun x y => x + -y) a b)
  unfold OpRet at C
  generalize Z.opS (fun x y => x + -y) a b = r at *
  generalize Z.opE (fun x y => x + -y) a b = k at *
  by_cases hk : k = 0
  · subst hk
    go_enter Try.func32, Try.ntmps32
    go_wp2_with fail
    refine (C.out _).mono ?_
    rintro e w1 ⟨rfl, hb1⟩
    go_wp2_with fail
    go_ret
    exact ⟨rfl, hb1⟩
  · have hkb : (k != 0) = true := by simpa using hk
    obtain rfl : r = ⟨#[]⟩ := HE.out hk
    clear hk HE
    go_enter Try.func32, Try.ntmps32
    go_wp2_with fail
    refine (C.out _).mono ?_
    rintro e w1 ⟨rfl, hb1⟩
    go_wp2_with fail
    go_ret
    exact ⟨rfl, hb1⟩
theorem op_mul (a b : ByteArray) (w : World) (ha : a.size ≤ maxLen) (hb : b.size ≤ maxLen) :
    Calls Try.prog 32 #[.func (.func 20) #[] #[], .string a, .string b] w (OpStr (Z.opS (fun x y => x * y) a b) w) := by
  have C := Lib.hid (fun W : World => mul_any a b W ha hb)
  have HE := Lib.hid (@opS_err (fun x y => x * y) a b)
  unfold OpRet at C
  generalize Z.opS (fun x y => x * y) a b = r at *
  generalize Z.opE (fun x y => x * y) a b = k at *
  by_cases hk : k = 0
  · subst hk
    go_enter Try.func32, Try.ntmps32
    go_wp2_with fail
    refine (C.out _).mono ?_
    rintro e w1 ⟨rfl, hb1⟩
    go_wp2_with fail
    go_ret
    exact ⟨rfl, hb1⟩
  · have hkb : (k != 0) = true := by simpa using hk
    obtain rfl : r = ⟨#[]⟩ := HE.out hk
    clear hk HE
    go_enter Try.func32, Try.ntmps32
    go_wp2_with fail
    refine (C.out _).mono ?_
    rintro e w1 ⟨rfl, hb1⟩
    go_wp2_with fail
    go_ret
    exact ⟨rfl, hb1⟩
/-- What fits answers. -/
def fitsB (n : Nat) (ss : List ByteArray) : Bool := ss.all fun s => decide (s.size ≤ n) && decide (Z.chk s.data.toList = 0)
def FitsRet (n : Nat) (ss : List ByteArray) (w : World) (e : Ending) (w' : World) : Prop := e = .returned (.bool (fitsB n ss)) ∧ Below w.heap.size w w'
theorem fits_no {n : Nat} {ss : List ByteArray} {s : ByteArray} (hs : s ∈ ss) (h : n < s.size ∨ Z.chk s.data.toList ≠ 0) : fitsB n ss = false := by
  unfold fitsB
  rw [List.all_eq_false]
  exact ⟨s, hs, by simp; omega⟩
theorem fits_yes {n : Nat} {ss : List ByteArray} (h : ∀ s ∈ ss, s.size ≤ n ∧ Z.chk s.data.toList = 0) : fitsB n ss = true := by
  unfold fitsB
  rw [List.all_eq_true]
  intro s hs
  simp [(h s hs).1, (h s hs).2]
set_option maxHeartbeats 800000 in
theorem fits_any (n : Nat) (v : Value) (ss : List ByteArray) (w : World) (hS : SS w v ss) (hn : n ≤ 1000) (hl : ss.length ≤ 1000) :
    Calls Try.prog 31 #[.int .i64 n, v] w (FitsRet n ss w) := by
  obtain ⟨A, c, rfl, hc, hm, hcell⟩ := hS
  have HC0 := Lib.hid hcell
  clear hcell
  go_enter Try.func31, Try.ntmps31
  go_wp2_with fail
  go_loopw [5] (fun iv wr => ∃ k : Nat, k ≤ ss.length ∧ iv = .int .i64 k ∧ Below w.heap.size w wr ∧ Hid (∀ (i : Nat) (s : ByteArray), i < k → ss[i]? = some s → s.size ≤ n ∧ Z.chk s.data.toList = 0)) (fun iv _ => ss.length - (intOf iv).toNat)
  case atStart => exact ⟨0, by omega, rfl, Below.refl _ _, fun i s h => by omega⟩
  case round =>
    obtain ⟨k, hk, rfl, hb, HK⟩ := hrel
    by_cases hlt : k < ss.length
    · obtain ⟨g, o, rfl, hg, hcl⟩ := HC0.out (by omega)
      obtain ⟨s, hs⟩ : ∃ s, ss[k]? = some s := ⟨_, List.getElem?_eq_getElem (by omega)⟩
      have hr := (hb.cell (p := ⟨g, o + k, none⟩) hg).trans (hcl _ _ hs)
      have HS := Lib.hid hs
      clear hcl hs
      by_cases hbig : n < s.size
      · go_wp2_with fail
        go_ret
        exact ⟨ret_bool (fits_no (List.mem_of_getElem? HS.out) (.inl hbig)).symm, hb⟩
      · have C := Lib.hid (rcheck_any s wr (by omega))
        unfold ChkRet at C
        have hsz : s.size ≤ 1000 := by omega
        have hmx : (s.size : Int) ≤ 1000 := by omega
        by_cases hz : Z.chk s.data.toList = 0
        · have HZ := Lib.hid hz
          rw [hz] at C
          clear hz
          go_wp2_with fail
          refine C.out.mono ?_
          rintro e w2 ⟨rfl, hb2⟩
          go_wp2_with fail
          go_roundw
          case rel =>
            refine ⟨k + 1, by omega, by go_num, hb.trans (hb2.mono hb.size), fun i x hi hx => ?_⟩
            by_cases e : i = k
            · subst e
              rw [HS.out] at hx
              injection hx with hx
              rw [← hx]; exact ⟨by omega, HZ.out⟩
            · exact HK.out i x (by omega) hx
          case measure => simp [intOf]; omega
        · have HF := Lib.hid (fits_no (n := n) (List.mem_of_getElem? HS.out) (.inr hz))
          generalize Z.chk s.data.toList = kk at *
          have hkb : (kk != 0) = true := by simpa using hz
          clear hz
          go_wp2_with fail
          refine C.out.mono ?_
          rintro e w2 ⟨rfl, hb2⟩
          go_wp2_with fail
          go_ret
          exact ⟨ret_bool HF.out.symm, hb.trans (hb2.mono hb.size)⟩
    · obtain rfl : k = ss.length := by omega
      go_wp2_with fail
      go_ret
      refine ⟨ret_bool (fits_yes fun s hs => ?_).symm, hb⟩
      obtain ⟨i, hi⟩ := List.mem_iff_getElem?.1 hs
      exact HK.out i s (List.getElem?_eq_some_iff.1 hi).1 hi
/-- A string that fits is an integer's text. -/
theorem fits_get {n : Nat} {ss : List ByteArray} {s : ByteArray} (h : fitsB n ss = true) (hs : s ∈ ss) : ∃ x, s = Z.S x ∧ Z.Lt n x := by
  unfold fitsB at h
  rw [List.all_eq_true] at h
  have := h s hs
  simp only [Bool.and_eq_true, decide_eq_true_eq] at this
  have hc := (Z.chk_zero_iff.1 this.2).1
  exact ⟨_, (Z.S_of hc).symm, Z.lt_of_size hc this.1⟩
theorem Z.Lt.len {n : Nat} {x : Int} (h : Z.Lt n x) (hn : 0 < n) (hn' : n ≤ 1000) : (Z.S x).size ≤ maxLen := by
  have h1 := Z.chk_size (h.chk hn hn')
  rw [← Lib.size_eq] at h1
  unfold maxLen
  omega
theorem opC_add {n m k : Nat} {x y z : Int} (hx : Z.Lt n x) (hy : Z.Lt m y) (hz : Z.Lt k z) (e : x + y = z) (hn : 0 < n) (hn' : n ≤ 1000) (hm : 0 < m) (hm' : m ≤ 1000) (hk : 0 < k) (hk' : k ≤ 1000) :
    Hid (∀ W : World, Calls Try.prog 32 #[.func (.func 16) #[] #[], .string (Z.S x), .string (Z.S y)] W (OpStr (Z.S z) W)) := by
  subst e
  intro W
  have := op_add (Z.S x) (Z.S y) W (hx.len hn hn') (hy.len hm hm')
  rwa [(Z.opS_S (f := (fun x y => x + y)) hx hy hz hn hn' hm hm' hk hk').1] at this
theorem opC_sub {n m k : Nat} {x y z : Int} (hx : Z.Lt n x) (hy : Z.Lt m y) (hz : Z.Lt k z) (e : x + -y = z) (hn : 0 < n) (hn' : n ≤ 1000) (hm : 0 < m) (hm' : m ≤ 1000) (hk : 0 < k) (hk' : k ≤ 1000) :
    Hid (∀ W : World, Calls Try.prog 32 #[.func (.func 18) #[] #[], .string (Z.S x), .string (Z.S y)] W (OpStr (Z.S z) W)) := by
  subst e
  intro W
  have := op_sub (Z.S x) (Z.S y) W (hx.len hn hn') (hy.len hm hm')
  rwa [(Z.opS_S (f := (fun x y => x + -y)) hx hy hz hn hn' hm hm' hk hk').1] at this
theorem opC_mul {n m k : Nat} {x y z : Int} (hx : Z.Lt n x) (hy : Z.Lt m y) (hz : Z.Lt k z) (e : x * y = z) (hn : 0 < n) (hn' : n ≤ 1000) (hm : 0 < m) (hm' : m ≤ 1000) (hk : 0 < k) (hk' : k ≤ 1000) :
    Hid (∀ W : World, Calls Try.prog 32 #[.func (.func 20) #[] #[], .string (Z.S x), .string (Z.S y)] W (OpStr (Z.S z) W)) := by
  subst e
  intro W
  have := op_mul (Z.S x) (Z.S y) W (hx.len hn hn') (hy.len hm hm')
  rwa [(Z.opS_S (f := (fun x y => x * y)) hx hy hz hn hn' hm hm' hk hk').1] at this
set_option maxRecDepth 100000 in
set_option maxHeartbeats 2000000 in
theorem alive_any (w : World) : Calls Try.prog 30 #[] w fun e w' => e = .returned (.bool true) ∧ Below w.heap.size w w' := by
  have H1 := Lib.hid (fun W : World => add_any ⟨#[57, 57, 57, 57, 57, 57, 57, 57, 57, 57, 57, 57, 57, 57, 57, 57, 57, 57, 57, 57]⟩ ⟨#[49]⟩ W (by decide) (by decide))
  have H2 := Lib.hid (fun W : World => mul_any ⟨#[45, 49, 50]⟩ ⟨#[49, 50]⟩ W (by decide) (by decide))
  have H3 := Lib.hid (fun W : World => divmod_any ⟨#[45, 55]⟩ ⟨#[50]⟩ W (by decide) (by decide))
  have H4 := Lib.hid (fun W : World => divmod_any ⟨#[45, 55]⟩ ⟨#[45, 50]⟩ W (by decide) (by decide))
  have H5 := Lib.hid (fun W : World => gcd_any ⟨#[49, 50]⟩ ⟨#[45, 49, 56]⟩ W (by decide) (by decide))
  unfold OpRet DmRet GcdRet at *
  rw [show Z.opS (fun x y => x + y) ⟨#[57, 57, 57, 57, 57, 57, 57, 57, 57, 57, 57, 57, 57, 57, 57, 57, 57, 57, 57, 57]⟩ ⟨#[49]⟩ = ⟨#[49, 48, 48, 48, 48, 48, 48, 48, 48, 48, 48, 48, 48, 48, 48, 48, 48, 48, 48, 48, 48]⟩ from by decide +kernel, show Z.opE (fun x y => x + y) ⟨#[57, 57, 57, 57, 57, 57, 57, 57, 57, 57, 57, 57, 57, 57, 57, 57, 57, 57, 57, 57]⟩ ⟨#[49]⟩ = 0 from by decide +kernel] at H1
  rw [show Z.opS (fun x y => x * y) ⟨#[45, 49, 50]⟩ ⟨#[49, 50]⟩ = ⟨#[45, 49, 52, 52]⟩ from by decide +kernel, show Z.opE (fun x y => x * y) ⟨#[45, 49, 50]⟩ ⟨#[49, 50]⟩ = 0 from by decide +kernel] at H2
  rw [show Z.divS (fun x y => x / y) ⟨#[45, 55]⟩ ⟨#[50]⟩ = ⟨#[45, 52]⟩ from by decide +kernel, show Z.divS (fun x y => x % y) ⟨#[45, 55]⟩ ⟨#[50]⟩ = ⟨#[49]⟩ from by decide +kernel, show Z.divE ⟨#[45, 55]⟩ ⟨#[50]⟩ = 0 from by decide +kernel] at H3
  rw [show Z.divS (fun x y => x / y) ⟨#[45, 55]⟩ ⟨#[45, 50]⟩ = ⟨#[52]⟩ from by decide +kernel, show Z.divS (fun x y => x % y) ⟨#[45, 55]⟩ ⟨#[45, 50]⟩ = ⟨#[49]⟩ from by decide +kernel, show Z.divE ⟨#[45, 55]⟩ ⟨#[45, 50]⟩ = 0 from by decide +kernel] at H4
  rw [show Z.opS Z.gcdI ⟨#[49, 50]⟩ ⟨#[45, 49, 56]⟩ = ⟨#[54]⟩ from by decide +kernel, show Z.bothE ⟨#[49, 50]⟩ ⟨#[45, 49, 56]⟩ = 0 from by decide +kernel] at H5
  go_enter Try.func30, Try.ntmps30
  go_wp2_with fail
  refine (H1.out _).mono ?_
  rintro e w1 ⟨rfl, hb1⟩
  go_wp2_with fail
  refine (H2.out _).mono ?_
  rintro e w2 ⟨rfl, hb2⟩
  have c2 := hb1.trans (hb2.mono hb1.size)
  go_wp2_with fail
  refine (H3.out _).mono ?_
  rintro e w3 ⟨rfl, hb3⟩
  have c3 := c2.trans (hb3.mono c2.size)
  go_wp2_with fail
  refine (H4.out _).mono ?_
  rintro e w4 ⟨rfl, hb4⟩
  have c4 := c3.trans (hb4.mono c3.size)
  go_wp2_with fail
  refine (H5.out _).mono ?_
  rintro e w5 ⟨rfl, hb5⟩
  have c5 := c4.trans (hb5.mono c4.size)
  go_wp2_with fail
  go_ret
  exact ⟨rfl, c5⟩
end Go.Proofs.Ytajmdlelpkgppaa
