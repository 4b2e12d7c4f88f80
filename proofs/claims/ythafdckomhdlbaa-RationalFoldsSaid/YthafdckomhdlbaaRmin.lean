/- Walks: the reference: Minus, Zero, Both, Result. -/
import Derived.Test.YthafdckomhdlbaaRsm
import Derived.Test.YthafdckomhdlbaaZref
import Derived.Test.YthafdckomhdlbaaIwrite
namespace Go.Proofs.Ythafdckomhdlbaa
open Go.RowKit

theorem Z.ofDg_take_le {b : Nat} {x y : List Nat} (hb : 0 < b) (hx : ∀ d ∈ x, d < b) (h : Z.ofDg b y ≤ Z.ofDg b x) : Z.ofDg b (y.take x.length) = Z.ofDg b y :=
  Z.ofDg_take_of_lt b y _ (Nat.lt_of_le_of_lt h (Z.ofDg_lt b hb x hx))
theorem at_same (v : Value) (xs : List Nat) (i d : Nat) (w : World) (hS : SN .i64 w v xs) (hl : xs.length ≤ 1000000000) (hi : i ≤ 1000000000) (hd : Z.dAt xs i = d) :
    Calls Try.prog 73 #[v, .int .i64 i] w fun e w' => e = .returned (.int .i64 d) ∧ w' = w :=
  (at_any v xs i w hS hl hi).mono fun _ _ ⟨he, hw⟩ => ⟨by rw [he, hd], hw.symm⟩

set_option maxHeartbeats 800000 in
theorem rminus_any (v u : Value) (xs ys : List Nat) (w : World) (hS : SN .i64 w v xs) (hT : SN .i64 w u ys) (hx : ∀ d ∈ xs, d < 10) (hy : ∀ d ∈ ys, d < 10)
    (hl : xs.length ≤ 1000000) (hl' : ys.length ≤ 1000000) (hge : Z.ofDg 10 ys ≤ Z.ofDg 10 xs) :
    Calls Try.prog 71 #[v, u] w (NumRet w (Z.ofDg 10 xs - Z.ofDg 10 ys) xs.length) := by
  have hT' := hT
  obtain ⟨A, c, rfl, hc, hm, hcell⟩ := hS
  obtain ⟨A', c', rfl, hc', hm', hcell'⟩ := hT
  have HX := Lib.hid hx
  have HY := Lib.hid hy
  have HG := Lib.hid hge
  clear hcell' hx hy hge
  unfold maxLen at hm
  go_enter Try.func71, Try.ntmps71
  go_wp2_with fail
  go_loopw [5, 6, 7, 8] (fun out cv iv tv wr => ∃ (k cy : Nat) (os : List Nat), k ≤ xs.length ∧ iv = .int .i64 k ∧ cv = .int .i64 cy ∧ cy ≤ 1 ∧ Ow .i64 3 wr w.heap.size out os ∧ Below w.heap.size w wr ∧
    Hid (os.length = k ∧ (∀ d ∈ os, d < 10) ∧ Z.ofDg 10 os + Z.ofDg 10 (ys.take k) = Z.ofDg 10 (xs.take k) + 10 ^ k * cy)) (fun _ _ iv _ _ => xs.length - (intOf iv).toNat)
  case atStart => exact ⟨0, 0, [], by omega, rfl, rfl, by omega, Ow.nil_ _, Below.refl _ _, rfl, by simp, by simp [Z.ofDg]⟩
  case round =>
    obtain ⟨k, cy, os, hk, rfl, rfl, hcy, hown, hb, HI⟩ := hrel
    have hos : os.length ≤ k := by rw [HI.out.1]; omega
    by_cases hlt : k < xs.length
    · obtain ⟨g, o, rfl, hg, hcl⟩ := hcell (by omega)
      have hr0 : wr.cell? ⟨g, o + k, none⟩ = some (.int .i64 (Z.dAt xs k : Int)) := (hb.cell (p := ⟨g, o + k, none⟩) hg).trans (hcl _ _ (Z.dAt_eq hlt))
      have b1 := Z.dAt_lt (b := 10) (by omega) HX.out k
      have b2 := Z.dAt_lt (b := 10) (by omega) HY.out k
      have hst := fun dd b' h => Z.minus_step 10 xs ys os k cy dd b' HI.out.1 HI.out.2.2 h
      have c2 := fun n => at_same _ ys k (Z.dAt ys k) (wr.drewN n) (SN.drewN (hT'.below hb) n) (by omega) (by omega) rfl
      generalize Z.dAt xs k = d at *
      generalize Z.dAt ys k = d' at *
      have C2 := Lib.hid c2
      have HST := Lib.hid hst
      have h1 : (0 : Int) ≤ (k : Int) := by omega
      have h2 : (k : Int) < xs.length := by omega
      clear hcell hcl c2 hst
      by_cases hlow : d < d' + cy
      · have e1 : IntKind.i64.wrap ((d : Int) - d') = (d : Int) - d' := IntWalk.i64_in _ (by omega)
        have e2 : IntKind.i64.wrap ((d : Int) - d' - cy) = (d : Int) - d' - cy := IntWalk.i64_in _ (by omega)
        go_wp2_with fail
        go_quiet ((go_at_call 73; exact Calls.quiet_of_same (C2.out _)))
        clear e1 e2
        have hown1 := hown.drewN nq
        have hb1 := hb.trans (below_of_drewN wr nq _)
        generalize wr.drewN nq = ws at *
        go_wp2_with (at_builtin; refine app1 rfl _ _ _ rfl elem64 Try.underlying65 (by omega) ws w.heap.size u5 os _ (d + 10 - (d' + cy)) (by omega) rfl hown1 rfl (by omega) hb1.size ?_; intro v2 w2 hown2 hb2 hs2)
        go_roundw
        case rel => exact ⟨k + 1, 1, _, by omega, by go_num, rfl, by omega, hown2, hb1.trans hb2, by simp [HI.out.1], Z.mem_snoc HI.out.2.1 (by omega), HST.out _ 1 (by omega)⟩
        case measure => simp [intOf]; omega
      · have e1 : IntKind.i64.wrap ((d : Int) - d') = (d : Int) - d' := IntWalk.i64_in _ (by omega)
        have e2 : IntKind.i64.wrap ((d : Int) - d' - cy) = (d : Int) - d' - cy := IntWalk.i64_in _ (by omega)
        go_wp2_with fail
        go_quiet ((go_at_call 73; exact Calls.quiet_of_same (C2.out _)))
        clear e1 e2
        have hown1 := hown.drewN nq
        have hb1 := hb.trans (below_of_drewN wr nq _)
        generalize wr.drewN nq = ws at *
        go_wp2_with (at_builtin; refine app1 rfl _ _ _ rfl elem64 Try.underlying65 (by omega) ws w.heap.size u5 os _ (d - (d' + cy)) (by omega) rfl hown1 rfl (by omega) hb1.size ?_; intro v2 w2 hown2 hb2 hs2)
        go_roundw
        case rel => exact ⟨k + 1, 0, _, by omega, by go_num, rfl, by omega, hown2, hb1.trans hb2, by simp [HI.out.1], Z.mem_snoc HI.out.2.1 (by omega), HST.out _ 0 (by omega)⟩
        case measure => simp [intOf]; omega
    · obtain rfl : k = xs.length := by omega
      go_wp2_with fail
      go_ret
      have htk := Z.ofDg_take_le (by omega) HX.out HG.out
      have hv := Z.minus_end 10 (by omega) xs (ys.take xs.length) os cy HI.out.2.1 HI.out.1 (by rw [htk]; exact HG.out) (by rw [List.length_take]; omega) (by rw [List.take_take, Nat.min_self]; exact HI.out.2.2)
      rw [htk] at hv
      exact ⟨_, os, rfl, hown, HI.out.2.1, hv, by rw [HI.out.1]; omega, hb⟩

theorem zero_any (v : Value) (xs : List Nat) (w : World) (hS : SN .i64 w v xs) (hx : ∀ d ∈ xs, d < 10) (hl : xs.length ≤ 1000000) :
    Calls Try.prog 69 #[v] w fun e w' => e = .returned (.bool (decide (Z.ofDg 10 xs = 0))) ∧ w = w' := by
  have C := greater_any v (.slice none 0 0) 10 (by omega) xs [] w hS SN.nil_ hx (by simp) hl (by simp)
  have e0 : Z.ofDg 10 [] = 0 := rfl
  rw [e0] at C
  generalize Z.ofDg 10 xs = n at *
  have C' := Lib.hid C
  clear C e0
  by_cases h : n = 0
  · have hd : decide (n = 0) = true := by simpa using h
    have hc := Z.cmp_eq h
    rw [hd]
    rw [hc] at C'
    clear h hd hc
    go_enter Try.func69, Try.ntmps69
    go_wp2_with fail
    refine C'.out.mono ?_
    rintro e w' ⟨rfl, rfl⟩
    go_wp2_with fail
    go_ret
    exact ⟨rfl, rfl⟩
  · have hd : decide (n = 0) = false := by simpa using h
    have hc := Z.cmp_gt (x := n) (y := 0) (by omega)
    rw [hd]
    rw [hc] at C'
    clear h hd hc
    go_enter Try.func69, Try.ntmps69
    go_wp2_with fail
    refine C'.out.mono ?_
    rintro e w' ⟨rfl, rfl⟩
    go_wp2_with fail
    go_ret
    exact ⟨rfl, rfl⟩
def BothRet (a b : ByteArray) (w : World) (e : Ending) (w' : World) : Prop := e = .returned (.int .i64 (Z.bothE a b)) ∧ Below w.heap.size w w'
theorem both_any (a b : ByteArray) (w : World) (ha : a.size ≤ 1000000) (hb : b.size ≤ 1000000) :
    Calls Try.prog 33 #[.string a, .string b] w (BothRet a b w) := by
  have C1 := Lib.hid (fun W : World => rcheck_any a W ha)
  have C2 := Lib.hid (fun W : World => rcheck_any b W hb)
  unfold ChkRet at C1 C2
  by_cases h : Z.chk a.data.toList = 0
  · have HF : Hid (∀ w', Below w.heap.size w w' → BothRet a b w (.returned (.int .i64 (Z.chk b.data.toList))) w') := fun w' hw => ⟨by unfold Z.bothE; rw [if_pos h], hw⟩
    rw [h] at C1
    clear h
    generalize Z.chk b.data.toList = k at *
    go_enter Try.func33, Try.ntmps33
    go_wp2_with fail
    refine (C1.out _).mono ?_
    rintro e w1 ⟨rfl, hb1⟩
    go_wp2_with fail
    refine (C2.out _).mono ?_
    rintro e w2 ⟨rfl, hb2⟩
    go_wp2_with fail
    go_ret
    exact HF.out _ (hb1.trans (hb2.mono hb1.size))
  · have HF : Hid (∀ w', Below w.heap.size w w' → BothRet a b w (.returned (.int .i64 (Z.chk a.data.toList))) w') := fun w' hw => ⟨by unfold Z.bothE; rw [if_neg h], hw⟩
    generalize Z.chk a.data.toList = k at *
    have hk : (k != 0) = true := by simpa using h
    clear h
    go_enter Try.func33, Try.ntmps33
    go_wp2_with fail
    refine (C1.out _).mono ?_
    rintro e w1 ⟨rfl, hb1⟩
    go_wp2_with fail
    refine (C1.out _).mono ?_
    rintro e w2 ⟨rfl, hb2⟩
    go_wp2_with fail
    go_ret
    exact HF.out _ (hb1.trans (hb2.mono hb1.size))
/-- What Result answers: as write does. -/
theorem Z.txtD_length (ng : Bool) (n : Nat) : (Z.txtD ng n).length ≤ (Z.decB n).length + 1 := by
  unfold Z.txtD
  split
  · simp
  · split
    · simp
    · omega
theorem Z.decB_le {ds : List Nat} (h : ∀ d ∈ ds, d < 10) : (Z.decB (Z.ofDg 10 ds)).length ≤ ds.length + 1 := by
  have h1 := Z.ofDg_lt 10 (by omega) ds h
  exact Z.decB_length _ _ h1
theorem Z.sgn_if (ng : Bool) (n : Nat) : (if ng then -(n : Int) else n) = sgn ng n := by unfold sgn; cases ng <;> rfl
theorem result_any (v : Value) (ds : List Nat) (ng : Bool) (z : Int) (w : World) (hS : SN .i64 w v ds) (hd : ∀ d ∈ ds, d < 10) (hl : ds.length ≤ 900000) (hz : sgn ng (Z.ofDg 10 ds) = z) :
    Calls Try.prog 78 #[v, .bool ng] w (ResRet z w) := by
  have T := text_any v ds ng w hS hd (by omega)
  have hlen := Z.decB_le hd
  have hn : z.natAbs = Z.ofDg 10 ds := by rw [← hz, sgn_abs]
  rw [Z.txtD_txt, Z.sgn_if, hz] at T
  rw [← hn] at hlen
  have hsz : (⟨(Z.txt z).toArray⟩ : ByteArray).size ≤ 1000000 := by
    rw [size_mk]
    unfold Z.txt
    split
    · simp; omega
    · omega
  have C := Lib.hid (fun W : World => rcheck_any ⟨(Z.txt z).toArray⟩ W hsz)
  unfold ChkRet at C
  have T' := Lib.hid T
  clear T hn hlen hsz hd hz
  rw [data_mk] at C
  unfold ResRet Z.resS Z.resE
  by_cases h : 1000 < (Z.decB z.natAbs).length
  · have hc : Z.chk (Z.txt z) = 14 := Z.chk_big (Z.canon_txt z) (by rw [Z.mags_txt]; exact h)
    rw [if_pos h, if_pos h]
    rw [hc] at C
    clear h hc
    go_enter Try.func78, Try.ntmps78
    go_wp2_with fail
    refine T'.out.mono ?_
    rintro e w1 ⟨rfl, hb1⟩
    go_wp2_with fail
    refine (C.out _).mono ?_
    rintro e w2 ⟨rfl, hb2⟩
    go_wp2_with fail
    go_ret2
    exact ⟨rfl, hb1.trans (hb2.mono hb1.size)⟩
  · have hc : Z.chk (Z.txt z) = 0 := Z.chk_txt (by omega)
    rw [if_neg h, if_neg h]
    rw [hc] at C
    clear h hc
    go_enter Try.func78, Try.ntmps78
    go_wp2_with fail
    refine T'.out.mono ?_
    rintro e w1 ⟨rfl, hb1⟩
    go_wp2_with fail
    refine (C.out _).mono ?_
    rintro e w2 ⟨rfl, hb2⟩
    go_wp2_with fail
    go_ret2
    exact ⟨rfl, hb1.trans (hb2.mono hb1.size)⟩
end Go.Proofs.Ythafdckomhdlbaa
