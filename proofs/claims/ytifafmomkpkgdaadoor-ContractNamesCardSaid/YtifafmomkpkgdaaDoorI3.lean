/- I3: Iwrite Ipair Iops -/
import Derived.Test.YtifafmomkpkgdaaDoorR1
import Derived.Test.YtifafmomkpkgdaaDoorMi
import Derived.Test.YtifafmomkpkgdaaDoorZi
import Derived.Test.YtifafmomkpkgdaaDoorI1
import Derived.Test.YtifafmomkpkgdaaDoorI2
/- Walks: integer.write. -/

namespace Go.Proofs.YtifafmomkpkgdaaDoor
open Go.RowKit

def ResRet (z : Int) (w : World) (e : Ending) (w' : World) : Prop := e = .returned (.tuple #[.string (Z.resS z), .int .i64 (Z.resE z)]) ∧ Below w.heap.size w w'
def sgn (ng : Bool) (n : Nat) : Int := if ng = true then -(n : Int) else n
def asc8 (xs : List Nat) : List Nat := xs.map (48 + ·)
theorem asc8_snoc (xs : List Nat) (d : Nat) : asc8 xs ++ [48 + d] = asc8 (xs ++ [d]) := by simp [asc8]
theorem asc8_length (xs : List Nat) : (asc8 xs).length = xs.length := by simp [asc8]
theorem asc8_take (xs : List Nat) (k : Nat) : (asc8 xs).take k = asc8 (xs.take k) := by simp [asc8, List.map_take]
theorem asc8_at (xs : List Nat) (k : Nat) (h : k < xs.length) : (asc8 xs)[k]? = some (48 + Z.dAt xs k) := by
  simp [asc8, Z.dAt, List.getElem?_eq_getElem h]
theorem asc8_dg (n : Nat) (h : 0 < n) : asc8 (Z.dg 10 n) = Z.bsD n := by unfold asc8 Z.bsD; rw [if_neg (by omega)]

theorem sgn_abs (ng : Bool) (n : Nat) : (sgn ng n).natAbs = n := by unfold sgn; cases ng <;> simp
theorem res_big {ng : Bool} {n : Nat} {w w' : World} (h : 1000 < (Z.decB n).length) (hb : Below w.heap.size w w') : ResRet (sgn ng n) w (.returned (.tuple #[.string ⟨#[]⟩, .int .i64 14])) w' := by
  unfold ResRet Z.resS Z.resE
  rw [sgn_abs, if_pos h, if_pos h]
  exact ⟨rfl, hb⟩
theorem res_ok (ng : Bool) {n : Nat} {w w' : World} (h : ¬ 1000 < (Z.decB n).length) (hb : Below w.heap.size w w') : ResRet (sgn ng n) w (.returned (.tuple #[.string ⟨(Z.txt (sgn ng n)).toArray⟩, .int .i64 0])) w' := by
  unfold ResRet Z.resS Z.resE
  rw [sgn_abs, if_neg h, if_neg h]
  exact ⟨rfl, hb⟩
set_option maxHeartbeats 2000000 in
theorem write_zero (ng : Bool) (v : Value) (w : World) (hS : SN .u32 w v []) :
    Calls Tryd.prog 105 #[.agg #[.bool ng, v]] w (ResRet 0 w) := by
  obtain ⟨A, c, rfl, hc, hm, hcell⟩ := hS
  go_enter Tryd.func105, Tryd.ntmps105
  go_wp2_with fail
  go_ret2
  exact ⟨rfl, (Below.refl _ _).alloc (Nat.le_refl _) _⟩
set_option maxRecDepth 100000 in
set_option maxHeartbeats 4000000 in
theorem write_pos (ng : Bool) (v : Value) (ds : List Nat) (w : World) (hS : SN .u32 w v ds) (hd : ∀ d ∈ ds, d < 1000000000) (hl : ds.length ≤ 1000000) (hp : 0 < Z.ofDg 1000000000 ds) :
    Calls Tryd.prog 105 #[.agg #[.bool ng, v]] w (ResRet (sgn ng (Z.ofDg 1000000000 ds)) w) := by
  have hl0 : 0 < ds.length := by
    rcases Nat.eq_zero_or_pos ds.length with h | h
    · rw [List.eq_nil_of_length_eq_zero h] at hp; simp [Z.ofDg] at hp
    · exact h
  obtain ⟨A, c, rfl, hc, hm, hcell⟩ := hS
  obtain ⟨b, o, rfl, hlt, hcl⟩ := hcell hl0
  unfold maxLen at hm
  clear hcell
  have hlz : ((ds.length : Int) == 0) = false := by rw [beq_eq_false_iff_ne]; omega
  go_enter Tryd.func105, Tryd.ntmps105
  go_wp2_with fail
  have bC := Blk.new w 111 #[.bool ng, .slice (some ⟨b, o, none⟩) ds.length c]
  have hB0 : Below w.heap.size w (w.alloc (.cells #[.bool ng, .slice (some ⟨b, o, none⟩) ds.length c] 111)) := (Below.refl _ w).alloc (Nat.le_refl _) _
  have hz0 : w.heap.size < (w.alloc (.cells #[.bool ng, .slice (some ⟨b, o, none⟩) ds.length c] 111)).heap.size := by simp
  generalize (w.alloc (.cells #[.bool ng, .slice (some ⟨b, o, none⟩) ds.length c] 111)) = W0 at *
  have HCL := Lib.hid hcl
  have HD := Lib.hid hd
  clear hcl hd
  go_loopw [4, 14] (fun bv iv wr => ∃ (i : Nat) (xs : List Nat), i ≤ ds.length ∧ iv = .int .i64 i ∧ Ow .u8 5 wr W0.heap.size bv (asc8 xs) ∧ Below W0.heap.size W0 wr ∧ Hid (Z.WOut ds i xs)) (fun _ iv _ => ds.length - (intOf iv).toNat)
  case atStart => exact ⟨0, [], by omega, rfl, Ow.nil_ _, Below.refl _ _, Z.WOut.start ds⟩
  case round =>
    obtain ⟨i, xs, hi, rfl, hown, hb, HO⟩ := hrel
    have hxl : xs.length ≤ 9000000 := by have := HO.out.len; omega
    by_cases hilt : i < ds.length
    · have hx : ds[i]? = some (Z.dAt ds i) := Z.dAt_eq hilt
      have hdl := HD.out _ (List.mem_of_getElem? hx)
      have hcx : wr.cell? ⟨b, o + i, none⟩ = some (.int .u32 (Z.dAt ds i : Int)) := by
        rw [← HCL.out i _ hx]
        exact (hb.cell (p := ⟨b, o + i, none⟩) (by show b < W0.heap.size; omega)).trans (hB0.cell (p := ⟨b, o + i, none⟩) hlt)
      obtain ⟨d, hdd⟩ : ∃ d, d = Z.dAt ds i := ⟨_, rfl⟩
      rw [← hdd] at hcx hdl
      have HDD := Lib.hid hdd.symm
      clear hx hdd
      go_wp2_with fail
      obtain ⟨wo, rfl⟩ : ∃ wo : World, wo = wr := ⟨_, rfl⟩
      clear hcx
      go_loopw [4, 6, 18] (fun bv gv jv ws => ∃ (j g : Nat) (ys : List Nat), j ≤ 9 ∧ jv = .int .i64 j ∧ gv = .int .u32 g ∧ g < 1000000000 ∧ Ow .u8 5 ws W0.heap.size bv (asc8 (xs ++ ys)) ∧ Below W0.heap.size W0 ws ∧ Hid (Z.WIn d j g ys)) (fun _ _ jv _ => 9 - (intOf jv).toNat)
      case atStart => exact ⟨0, d, [], by omega, rfl, rfl, hdl, by rw [List.append_nil]; exact hown, hb, Z.WIn.start d⟩
      case round =>
        obtain ⟨j, g, ys, hj, rfl, rfl, hg, hown2, hb2, HI⟩ := hrel
        by_cases hjlt : j < 9
        · have hyl : (asc8 (xs ++ ys)).length < 1000000000 := by have := HI.out.len; rw [asc8_length, List.length_append]; omega
          go_wp2_with (at_builtin; refine app1 rfl _ _ _ rfl elem8 Tryd.underlying136 (by omega) wr W0.heap.size u4 (asc8 (xs ++ ys)) _ (48 + g % 10) (by omega) rfl hown2 rfl hyl hb2.size ?_; intro v2 w2 hown3 hb3 hs3)
          go_roundw
          case rel => exact ⟨j + 1, g / 10, ys ++ [g % 10], by omega, by go_num, ret_v (by omega), by omega, by rw [asc8_snoc, List.append_assoc] at hown3; exact hown3, hb2.trans hb3, HI.out.step⟩
          case measure => simp [intOf]; omega
        · obtain rfl : j = 9 := by omega
          go_wp2_with fail
          go_roundw
          case rel => exact ⟨i + 1, xs ++ ys, by omega, by go_num, hown2, hb2, HO.out.step HDD.out hdl HI.out⟩
          case measure => simp [intOf]; omega
    · obtain rfl : i = ds.length := by omega
      have hval := HO.out.val
      rw [List.take_length] at hval
      have hxlt := HO.out.lt
      have hxpos : 0 < xs.length := by have := HO.out.len; omega
      have hown' := hown
      obtain ⟨gb, cap, hbv, hgB, _, hgc, hgm⟩ := hown.form (by rw [asc8_length]; exact hxpos)
      subst hbv
      have HOW := Lib.hid hown
      rw [asc8_length] at hown hgc
      unfold maxLen at hgm
      have hcc : ∀ k, k < xs.length → wr.cell? ⟨gb, k, none⟩ = some (.int .u8 ((48 + Z.dAt xs k : Nat) : Int)) := fun k hk => hown.cellN (asc8_length xs) (asc8_at xs k hk)
      have HCC := Lib.hid hcc
      have HX := Lib.hid hxlt
      have HV := Lib.hid hval
      obtain ⟨n, hn⟩ : ∃ n, n = Z.ofDg 1000000000 ds := ⟨_, rfl⟩
      have HN := Lib.hid hn
      rw [← hn] at HV hp
      clear hcc hxlt hval hown' hn HO
      have hbf := hB0.trans (hb.mono (by omega))
      have c0 := (bC.below hb).cell 0
      go_wp2_with fail
      go_loop [4] (fun bv => ∃ k : Nat, k + 1 ≤ xs.length ∧ bv = .slice (some ⟨gb, 0, none⟩) (k + 1) cap ∧ Hid (Z.ofDg 10 (xs.take (k + 1)) = n)) (fun bv => lenOf bv)
      case atStart => exact ⟨xs.length - 1, by omega, by rw [Nat.sub_add_cancel hxpos, asc8_length], by rw [Nat.sub_add_cancel hxpos, List.take_length]; exact HV⟩
      case round =>
        obtain ⟨k, hk, rfl, HK⟩ := hrel
        have hck := HCC.out k (by omega)
        by_cases h0 : Z.dAt xs k = 0
        · cases k with
          | zero =>
            exfalso
            have := Z.trim_step HK.out h0
            simp [Z.ofDg] at this
            omega
          | succ k =>
            have HS := Lib.hid (Z.trim_step HK.out h0)
            rw [h0] at hck
            clear h0
            go_wp2_with fail
            go_round
            case rel => exact ⟨k, by omega, rfl, HS⟩
            case measure => simp [lenOf]
        · have hbz : (((48 + Z.dAt xs k : Nat) : Int) == 48) = false := by rw [beq_eq_false_iff_ne]; omega
          have hfin := Z.trim_fin HX.out hk HK.out h0
          have hcut := HOW.out.cut (k := k + 1) (by rw [asc8_length]; omega)
          rw [asc8_take, hfin, asc8_dg n hp] at hcut
          have hlen : (Z.decB n).length = k + 1 := by
            rw [Z.decB_len n hp, ← hfin, List.length_take]; omega
          have HL := Lib.hid hlen
          generalize Z.dAt xs k = dk at *
          clear hfin hlen h0
          have hkm : k + 1 ≤ 9000000 := by omega
          by_cases hbig : (1000 : Int) < ((k + 1 : Nat) : Int)
          · have hbig2 : (1000 : Int) < (k : Int) + 1 := by omega
            go_wp2_with fail
            go_ret2
            rw [← HN.out]
            exact res_big (by have := HL.out; omega) hbf
          · have hbig2 : ¬ (1000 : Int) < (k : Int) + 1 := by omega
            have hbl : (Z.bsD n).length ≤ 1000 := by
              unfold Z.bsD
              rw [if_neg (by omega)]
              have := HL.out
              rw [Z.decB_len n hp] at this
              simp; omega
            cases ng
            · go_wp2_with fail
              refine (reverse_any _ _ _ _ hcut (by omega)).mono ?_
              rintro e w6 ⟨rfl, hown6, hb6⟩
              have hcv := conv_string w6 136 88 5 Tryd.underlying136 Tryd.underlying5 Tryd.underlying88 _ _ hown6.sn
              have hso := strOf_pos (n : Int) (by omega)
              rw [Int.natAbs_natCast] at hso
              rw [hso] at hcv
              clear hso
              go_wp2_with fail
              go_ret2
              rw [← HN.out]
              exact res_ok false (by have := HL.out; omega) (hbf.trans (hb6.mono (by omega)))
            · go_wp2_with (at_builtin; refine app1 rfl _ _ _ rfl elem8 Tryd.underlying136 (by omega) wr W0.heap.size (.slice (some ⟨gb, 0, none⟩) (k + 1) cap) (Z.bsD n) 45 45 rfl rfl hcut rfl (by omega) hb.size ?_; intro v4 w4 hown4 hb4 hs4)
              refine (reverse_any _ _ _ _ hown4 (by simp; omega)).mono ?_
              rintro e w6 ⟨rfl, hown6, hb6⟩
              have hcv := conv_string w6 136 88 5 Tryd.underlying136 Tryd.underlying5 Tryd.underlying88 v4 _ hown6.sn
              have hso := strOf_neg (-(n : Int)) (by omega)
              rw [Int.natAbs_neg, Int.natAbs_natCast] at hso
              rw [hso] at hcv
              clear hso
              go_wp2_with fail
              go_ret2
              rw [← HN.out]
              exact res_ok true (by have := HL.out; omega) (hbf.trans ((hb4.trans hb6).mono (by omega)))
/-- Whatever the number: what write answers. -/
theorem write_any (ng : Bool) (v : Value) (ds : List Nat) (w : World) (hS : SN .u32 w v ds) (hd : Z.Can 1000000000 ds) (hl : ds.length ≤ 1000000) :
    Calls Tryd.prog 105 #[.agg #[.bool ng, v]] w (ResRet (sgn ng (Z.ofDg 1000000000 ds)) w) := by
  rcases Nat.eq_zero_or_pos (Z.ofDg 1000000000 ds) with h | h
  · have hds : ds = [] := by
      rw [← Z.dg_ofDg 1000000000 (by omega) ds hd, h]; rfl
    subst hds
    have e : sgn ng (Z.ofDg 1000000000 []) = 0 := by rw [h]; cases ng <;> rfl
    rw [e]
    exact write_zero ng v w hS
  · exact write_pos ng v ds w hS hd.1 hl h
end Go.Proofs.YtifafmomkpkgdaaDoor
/- Walks: integer.pair. -/

namespace Go.Proofs.YtifafmomkpkgdaaDoor
open Go.RowKit

theorem Z.dg_len_le_size {l : List UInt8} (h : Z.canon l = true) : (Z.dg 1000000000 (Z.ival l).natAbs).length ≤ l.length := by
  have hp := Z.canon_parts h
  have h1 : Z.natOf (Z.mags l) < 10 ^ (Z.mags l).length := Z.natOf_lt (List.all_eq_true.1 hp.all)
  have h2 : 10 ^ (Z.mags l).length ≤ 1000000000 ^ (Z.mags l).length := Nat.pow_le_pow_left (by omega) _
  rw [Z.natAbs_ival]
  have h3 := Z.dg_len_of_lt 1000000000 (by omega) (Z.natOf (Z.mags l)) (Z.mags l).length (by omega)
  have h4 : (Z.mags l).length ≤ l.length := by
    unfold Z.mags
    split
    · rw [List.length_tail]; omega
    · omega
  omega
/-- The value is a number's struct: its sign, and a slice that reads as its digits. -/
def NumIn (w : World) (x : Value) (z : Int) : Prop := ∃ A c, x = .agg #[.bool (decide (z < 0)), .slice A (Z.dg 1000000000 z.natAbs).length c] ∧ SN .u32 w (.slice A (Z.dg 1000000000 z.natAbs).length c) (Z.dg 1000000000 z.natAbs)
def PairBad (w : World) (k : Int) (e : Ending) (w' : World) : Prop := e = .returned (.tuple #[.agg #[.bool false, .slice none 0 0], .agg #[.bool false, .slice none 0 0], .int .i64 k]) ∧ Below w.heap.size w w'
def PairOk (w : World) (a b : Int) (e : Ending) (w' : World) : Prop := ∃ A c A' c', e = .returned (.tuple #[.agg #[.bool (decide (a < 0)), .slice A (Z.dg 1000000000 a.natAbs).length c], .agg #[.bool (decide (b < 0)), .slice A' (Z.dg 1000000000 b.natAbs).length c'], .int .i64 0]) ∧
  SN .u32 w' (.slice A (Z.dg 1000000000 a.natAbs).length c) (Z.dg 1000000000 a.natAbs) ∧ SN .u32 w' (.slice A' (Z.dg 1000000000 b.natAbs).length c') (Z.dg 1000000000 b.natAbs) ∧ Below w.heap.size w w'

theorem pair_bad (a b : ByteArray) (w : World) (ha : a.size ≤ maxLen) (hb : b.size ≤ maxLen) (h : Z.bothE a b ≠ 0) :
    Calls Tryd.prog 103 #[.string a, .string b] w (PairBad w (Z.bothE a b)) := by
  have C1 := Lib.hid (fun W : World => check_any a W ha)
  have C2 := Lib.hid (fun W : World => check_any b W hb)
  unfold Z.bothE at *
  generalize Z.chk a.data.toList = ca at *
  generalize Z.chk b.data.toList = cb at *
  go_enter Tryd.func103, Tryd.ntmps103
  by_cases h1 : ca = 0
  · rw [if_pos h1] at h
    subst h1
    have hcb : (cb == 0) = false := by simpa using h
    rw [if_pos rfl]
    clear h
    go_wp2_with fail
    refine (C1.out _).mono ?_
    rintro e w' ⟨rfl, rfl⟩
    go_wp2_with fail
    refine (C2.out _).mono ?_
    rintro e w' ⟨rfl, rfl⟩
    go_wp2_with fail
    go_region
    go_wp2_with fail
    exact bodyPost_ret (v := .tuple #[.agg #[.bool false, .slice none 0 0], .agg #[.bool false, .slice none 0 0], .int .i64 cb]) (by simp [results, Tryd.results103, go_sem]) rfl ⟨rfl, (((Below.refl _ w).alloc (Nat.le_refl _) _).alloc (by simp) _).drew⟩
  · rw [if_neg h1] at h
    have hca : (ca == 0) = false := by simpa using h
    rw [if_neg h1]
    clear h h1
    go_wp2_with fail
    refine (C1.out _).mono ?_
    rintro e w' ⟨rfl, rfl⟩
    go_wp2_with fail
    go_region
    go_wp2_with fail
    exact bodyPost_ret (v := .tuple #[.agg #[.bool false, .slice none 0 0], .agg #[.bool false, .slice none 0 0], .int .i64 ca]) (by simp [results, Tryd.results103, go_sem]) rfl ⟨rfl, (((Below.refl _ w).alloc (Nat.le_refl _) _).alloc (by simp) _).drew⟩

theorem pair_ok (a b : ByteArray) (w : World) (h : Z.bothE a b = 0) :
    Calls Tryd.prog 103 #[.string a, .string b] w (PairOk w (Z.ival a.data.toList) (Z.ival b.data.toList)) := by
  obtain ⟨ha, hb⟩ := Z.bothE_zero h
  have za : a.size ≤ 1001 := by rw [Lib.size_eq]; exact Z.chk_size ha
  have zb : b.size ≤ 1001 := by rw [Lib.size_eq]; exact Z.chk_size hb
  have pa : 0 < a.size := by
    rcases Nat.eq_zero_or_pos a.size with h1 | h1
    · rw [Z.empty_of (by omega)] at ha; exact absurd ha (by decide)
    · exact h1
  have pb : 0 < b.size := by
    rcases Nat.eq_zero_or_pos b.size with h1 | h1
    · rw [Z.empty_of (by omega)] at hb; exact absurd hb (by decide)
    · exact h1
  have C1 := Lib.hid (fun W : World => check_any a W (by unfold maxLen; omega))
  have C2 := Lib.hid (fun W : World => check_any b W (by unfold maxLen; omega))
  have R1 := Lib.hid (fun W : World => read_any a W (Z.chk_zero_iff.1 ha).1 (by omega) pa)
  have R2 := Lib.hid (fun W : World => read_any b W (Z.chk_zero_iff.1 hb).1 (by omega) pb)
  rw [ha] at C1
  rw [hb] at C2
  clear ha hb h za zb pa pb
  generalize Z.ival a.data.toList = x at *
  generalize Z.ival b.data.toList = y at *
  go_enter Tryd.func103, Tryd.ntmps103
  go_wp2_with fail
  have b1 := (Blk.new w 111 #[.bool false, .slice none 0 0]).alloc (.cells #[.bool false, .slice none 0 0] 111)
  have b2 : Blk ((w.alloc (.cells #[.bool false, .slice none 0 0] 111)).alloc (.cells #[.bool false, .slice none 0 0] 111)) (w.heap.size + 1) 111 #[.bool false, .slice none 0 0] := by
    have h := Blk.new (w.alloc (.cells #[.bool false, .slice none 0 0] 111)) 111 #[.bool false, .slice none 0 0]
    rwa [World.size_alloc] at h
  have hB0 : Below w.heap.size w ((w.alloc (.cells #[.bool false, .slice none 0 0] 111)).alloc (.cells #[.bool false, .slice none 0 0] 111)) := ((Below.refl _ w).alloc (Nat.le_refl _) _).alloc (by simp) _
  generalize ((w.alloc (.cells #[.bool false, .slice none 0 0] 111)).alloc (.cells #[.bool false, .slice none 0 0] 111)) = W0 at *
  refine (C1.out _).mono ?_
  rintro e w' ⟨rfl, rfl⟩
  go_wp2_with fail
  refine (C2.out _).mono ?_
  rintro e w' ⟨rfl, rfl⟩
  go_wp2_with fail
  refine (R1.out _).mono ?_
  rintro e w1 ⟨v1, rfl, ho1, hb1⟩
  obtain ⟨A, c, rfl⟩ := ho1.shape
  go_wp2_with fail
  refine (R2.out _).mono ?_
  rintro e w2 ⟨v2, rfl, ho2, hb2⟩
  obtain ⟨A', c', rfl⟩ := ho2.shape
  have hb12 := hb1.trans (hb2.mono hb1.size)
  have q1 := b1.below hb12
  have q2 := b2.below hb12
  have l2 := b2.lt
  have hs := hb1.size
  have o1 := ho1.below hb2
  have c0 := q1.cell 0
  have c1 := q1.cell 1
  have c2 := q2.cell 0
  have c3 := q2.cell 1
  have f0 := q1.frozen 0
  have f1 := q1.frozen 1
  have f2 := q2.frozen 0
  have f3 := q2.frozen 1
  go_wp2_with fail
  obtain ⟨n1, m1⟩ := store_num (decide (x < 0)) q1 o1
  have n2 := World.ownsRow.kept ho2 (grownBy_setAt w2 w.heap.size 0 (.bool (decide (x < 0)))) (.inr (q1.not_row (by decide) ho2).symm)
  have n3 := World.ownsRow.kept n2 (grownBy_setAt _ w.heap.size 1 (.slice A (Z.dg 1000000000 x.natAbs).length c)) (.inr ((q1.set 0 (.bool (decide (x < 0)))).not_row (by decide) n2).symm)
  have q3 := (q2.other (C := w.heap.size) (j := 0) (by omega) (.bool (decide (x < 0)))).other (C := w.heap.size) (j := 1) (by omega) (.slice A (Z.dg 1000000000 x.natAbs).length c)
  obtain ⟨n4, m4⟩ := store_num (decide (y < 0)) q3 n3
  have n5 := World.ownsRow.kept n1 (grownBy_setAt _ (w.heap.size + 1) 0 (.bool (decide (y < 0)))) (.inr (q3.not_row (by decide) n1).symm)
  have n6 := World.ownsRow.kept n5 (grownBy_setAt _ (w.heap.size + 1) 1 (.slice A' (Z.dg 1000000000 y.natAbs).length c')) (.inr ((q3.set 0 (.bool (decide (y < 0)))).not_row (by decide) n5).symm)
  have m5 := (m1.other (C := w.heap.size + 1) (j := 0) (by omega) (.bool (decide (y < 0)))).other (C := w.heap.size + 1) (j := 1) (by omega) (.slice A' (Z.dg 1000000000 y.natAbs).length c')
  have x0 := m5.cell 0
  have x1 := m5.cell 1
  have x2 := m4.cell 0
  have x3 := m4.cell 1
  refine bodyPost_ret (v := .tuple #[.agg #[.bool (decide (x < 0)), .slice A (Z.dg 1000000000 x.natAbs).length c], .agg #[.bool (decide (y < 0)), .slice A' (Z.dg 1000000000 y.natAbs).length c'], .int .i64 0]) (by simp [results, Tryd.results103, go_sem, x0, x1, x2, x3]) rfl ⟨A, c, A', c', rfl, Ow.sn n6, Ow.sn n4, ?_⟩
  exact ((((hB0.trans (hb12.mono hB0.size)).setCell (p := ⟨w.heap.size, 0, none⟩) (Nat.le_refl _) _).setCell (p := ⟨w.heap.size, 1, none⟩) (Nat.le_refl _) _).setCell (p := ⟨w.heap.size + 1, 0, none⟩) (by show w.heap.size ≤ w.heap.size + 1; omega) _).setCell (p := ⟨w.heap.size + 1, 1, none⟩) (by show w.heap.size ≤ w.heap.size + 1; omega) _
end Go.Proofs.YtifafmomkpkgdaaDoor
/- Walks: integer.Add, Sub, Mul, Compare. -/

namespace Go.Proofs.YtifafmomkpkgdaaDoor
open Go.RowKit

def OpRet (f : Int → Int → Int) (a b : ByteArray) (w : World) (e : Ending) (w' : World) : Prop := e = .returned (.tuple #[.string (Z.opS f a b), .int .i64 (Z.opE f a b)]) ∧ Below w.heap.size w w'
theorem op_bad {f : Int → Int → Int} {a b : ByteArray} {w w' : World} (h : Z.bothE a b ≠ 0) (hb : Below w.heap.size w w') : OpRet f a b w (.returned (.tuple #[.string ⟨#[]⟩, .int .i64 (Z.bothE a b)])) w' := by
  unfold OpRet Z.opS Z.opE
  rw [if_neg h, if_neg h]
  exact ⟨rfl, hb⟩
theorem op_ok {f : Int → Int → Int} {a b : ByteArray} {w w' : World} {z : Int} (h : Z.bothE a b = 0) (hz : f (Z.ival a.data.toList) (Z.ival b.data.toList) = z) (hb : Below w.heap.size w w') : OpRet f a b w (.returned (.tuple #[.string (Z.resS z), .int .i64 (Z.resE z)])) w' := by
  subst hz
  unfold OpRet Z.opS Z.opE
  rw [if_pos h, if_pos h]
  exact ⟨rfl, hb⟩
/-- The sizes of two integers without errors. -/
theorem both_len {a b : ByteArray} (h : Z.bothE a b = 0) : (Z.dg 1000000000 (Z.ival a.data.toList).natAbs).length ≤ 1001 ∧ (Z.dg 1000000000 (Z.ival b.data.toList).natAbs).length ≤ 1001 := by
  obtain ⟨h1, h2⟩ := Z.bothE_zero h
  have h3 := Z.dg_len_le_size (Z.chk_zero_iff.1 h1).1
  have h4 := Z.dg_len_le_size (Z.chk_zero_iff.1 h2).1
  have h5 := Z.chk_size h1
  have h6 := Z.chk_size h2
  omega
theorem Z.dg_len_add {x y : Int} (hx : (Z.dg 1000000000 x.natAbs).length ≤ 1001) (hy : (Z.dg 1000000000 y.natAbs).length ≤ 1001) : (Z.dg 1000000000 (x + y).natAbs).length ≤ 1002 := by
  have e : 2 ≤ 1000000000 := by omega
  generalize 1000000000 = b at *
  have h1 := Z.ofDg_lt b (by omega) _ (Z.dg_lt b e x.natAbs)
  have h2 := Z.ofDg_lt b (by omega) _ (Z.dg_lt b e y.natAbs)
  rw [Z.ofDg_dg b e] at h1 h2
  have h0 : ∀ k, k = 1001 → (Z.dg b (x + y).natAbs).length ≤ k + 1 := fun k hk => by
    have h3 : b ^ (Z.dg b x.natAbs).length ≤ b ^ k := Nat.pow_le_pow_right (by omega) (by omega)
    have h4 : b ^ (Z.dg b y.natAbs).length ≤ b ^ k := Nat.pow_le_pow_right (by omega) (by omega)
    refine Z.dg_len_of_lt b e _ (k + 1) ?_
    have h5 : b ^ (k + 1) = b ^ k * b := Nat.pow_succ ..
    have h6 : b ^ k * 2 ≤ b ^ k * b := Nat.mul_le_mul_left _ e
    omega
  exact h0 1001 rfl
theorem Z.dg_len_mul {x y : Nat} (hx : (Z.dg 1000000000 x).length ≤ 1001) (hy : (Z.dg 1000000000 y).length ≤ 1001) : (Z.dg 1000000000 (x * y)).length ≤ 2002 := by
  have e : 2 ≤ 1000000000 := by omega
  generalize 1000000000 = b at *
  refine Nat.le_trans (Z.dg_len_of_lt b e _ ((Z.dg b x).length + (Z.dg b y).length) ?_) (by omega)
  have := Z.mul_lt_pow b (by omega) _ _ (Z.dg_lt b e x) (Z.dg_lt b e y)
  rwa [Z.ofDg_dg b e, Z.ofDg_dg b e] at this
theorem writeN (ng : Bool) (v : Value) (n : Nat) (z : Int) (w : World) (hS : SN .u32 w v (Z.dg 1000000000 n)) (hl : (Z.dg 1000000000 n).length ≤ 1000000) (hz : sgn ng n = z) :
    Calls Tryd.prog 105 #[.agg #[.bool ng, v]] w (ResRet z w) := by
  have := write_any ng v _ w hS (Z.can_dg _ (by omega) n) hl
  rwa [Z.ofDg_dg _ (by omega), hz] at this
theorem sgn_int (z : Int) : sgn (decide (z < 0)) z.natAbs = z := by
  unfold sgn
  by_cases h : z < 0
  · simp [h]; omega
  · simp [h]; omega

theorem SN.bound {q : IntKind} {w : World} {A : Option Addr} {n c : Nat} {ms : List Nat} (h : SN q w (.slice A n c) ms) : n ≤ 9223372036854775807 := by
  obtain ⟨A', c', hv, h1, h2, _⟩ := h
  simp only [Value.slice.injEq] at hv
  obtain ⟨_, rfl, rfl⟩ := hv
  unfold maxLen at h2
  omega
theorem timesN (v u : Value) (n m : Nat) (w : World) (hS : SN .u32 w v (Z.dg 1000000000 n)) (hT : SN .u32 w u (Z.dg 1000000000 m)) (hl : (Z.dg 1000000000 n).length ≤ 100000) (hl' : (Z.dg 1000000000 m).length ≤ 100000) :
    Calls Tryd.prog 121 #[v, u] w (MagRet w (n * m)) := by
  have := times_any v u _ _ w hS hT (Z.can_dg _ (by omega) n).1 (Z.can_dg _ (by omega) m).1 (by omega) (by omega)
  rwa [Z.ofDg_dg _ (by omega), Z.ofDg_dg _ (by omega)] at this
theorem mul_sgn (x y : Int) : sgn (decide (x < 0) != decide (y < 0)) (x.natAbs * y.natAbs) = x * y := by
  unfold sgn
  have e : ((x.natAbs * y.natAbs : Nat) : Int) = (x.natAbs : Int) * (y.natAbs : Int) := Int.natCast_mul _ _
  rw [e]
  rcases Int.lt_or_le x 0 with hx | hx <;> rcases Int.lt_or_le y 0 with hy | hy
  · rw [if_neg (by simp [hx, hy]), show (x.natAbs : Int) = -x by omega, show (y.natAbs : Int) = -y by omega, Int.neg_mul_neg]
  · rw [if_pos (by simp [hx]; omega), show (x.natAbs : Int) = -x by omega, show (y.natAbs : Int) = y by omega, Int.neg_mul, Int.neg_neg]
  · rw [if_pos (by simp [hy]; omega), show (x.natAbs : Int) = x by omega, show (y.natAbs : Int) = -y by omega, Int.mul_neg, Int.neg_neg]
  · rw [if_neg (by simp; omega), show (x.natAbs : Int) = x by omega, show (y.natAbs : Int) = y by omega]
end Go.Proofs.YtifafmomkpkgdaaDoor
