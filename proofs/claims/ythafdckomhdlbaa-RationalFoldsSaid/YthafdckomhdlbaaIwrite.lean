/- Walks: integer.write. -/
import Derived.Test.YthafdckomhdlbaaIrev
import Derived.Test.YthafdckomhdlbaaBlk
import Derived.Test.YthafdckomhdlbaaZwr
import Derived.Test.YthafdckomhdlbaaIadd
namespace Go.Proofs.Ythafdckomhdlbaa
open Go.RowKit

def ResRet (z : Int) (w : World) (e : Ending) (w' : World) : Prop := e = .returned (.tuple #[.string (Z.resS z), .int .i64 (Z.resE z)]) ∧ Below w.heap.size w w'
def sgn (ng : Bool) (n : Nat) : Int := if ng = true then -(n : Int) else n
def asc8 (xs : List Nat) : List Nat := xs.map (48 + ·)
theorem asc8_snoc (xs : List Nat) (d : Nat) : asc8 xs ++ [48 + d] = asc8 (xs ++ [d]) := by simp [asc8]
theorem asc8_length (xs : List Nat) : (asc8 xs).length = xs.length := by simp [asc8]
theorem asc8_take (xs : List Nat) (k : Nat) : (asc8 xs).take k = asc8 (xs.take k) := by simp [asc8, List.map_take]
theorem asc8_at (xs : List Nat) (k : Nat) (h : k < xs.length) : (asc8 xs)[k]? = some (48 + Z.dAt xs k) := by
  simp [asc8, Z.dAt, List.getElem?_eq_getElem h]
theorem asc8_dg (n : Nat) (h : 0 < n) : asc8 (Z.dg 10 n) = Z.bsD n := by unfold asc8 Z.bsD; rw [if_neg (by omega)]

theorem sgn_abs (ng : Bool) (n : Nat) : (sgn ng n).natAbs = n := by unfold sgn; cases ng <;> simp
theorem res_big {ng : Bool} {n : Nat} {w w' : World} (h : 1000 < (Z.decB n).length) (hb : Below w.heap.size w w') : ResRet (sgn ng n) w (.returned (.tuple #[.string ⟨#[]⟩, .int .i64 14])) w' := by
  unfold ResRet Z.resS Z.resE
  rw [sgn_abs, if_pos h, if_pos h]
  exact ⟨rfl, hb⟩
theorem res_ok (ng : Bool) {n : Nat} {w w' : World} (h : ¬ 1000 < (Z.decB n).length) (hb : Below w.heap.size w w') : ResRet (sgn ng n) w (.returned (.tuple #[.string ⟨(Z.txt (sgn ng n)).toArray⟩, .int .i64 0])) w' := by
  unfold ResRet Z.resS Z.resE
  rw [sgn_abs, if_neg h, if_neg h]
  exact ⟨rfl, hb⟩
set_option maxHeartbeats 2000000 in
theorem write_zero (ng : Bool) (v : Value) (w : World) (hS : SN .u32 w v []) :
    Calls Try.prog 65 #[.agg #[.bool ng, v]] w (ResRet 0 w) := by
  obtain ⟨A, c, rfl, hc, hm, hcell⟩ := hS
  go_enter Try.func65, Try.ntmps65
  go_wp2_with fail
  go_ret2
  exact ⟨rfl, (Below.refl _ _).alloc (Nat.le_refl _) _⟩
set_option maxRecDepth 100000 in
set_option maxHeartbeats 4000000 in
theorem write_pos (ng : Bool) (v : Value) (ds : List Nat) (w : World) (hS : SN .u32 w v ds) (hd : ∀ d ∈ ds, d < 1000000000) (hl : ds.length ≤ 1000000) (hp : 0 < Z.ofDg 1000000000 ds) :
    Calls Try.prog 65 #[.agg #[.bool ng, v]] w (ResRet (sgn ng (Z.ofDg 1000000000 ds)) w) := by
  have hl0 : 0 < ds.length := by
    rcases Nat.eq_zero_or_pos ds.length with h | h
    · rw [List.eq_nil_of_length_eq_zero h] at hp; simp [Z.ofDg] at hp
    · exact h
  obtain ⟨A, c, rfl, hc, hm, hcell⟩ := hS
  obtain ⟨b, o, rfl, hlt, hcl⟩ := hcell hl0
  unfold maxLen at hm
  clear hcell
  have hlz : ((ds.length : Int) == 0) = false := by rw [beq_eq_false_iff_ne]; omega
  go_enter Try.func65, Try.ntmps65
  go_wp2_with fail
  have bC := Blk.new w 91 #[.bool ng, .slice (some ⟨b, o, none⟩) ds.length c]
  have hB0 : Below w.heap.size w (w.alloc (.cells #[.bool ng, .slice (some ⟨b, o, none⟩) ds.length c] 91)) := (Below.refl _ w).alloc (Nat.le_refl _) _
  have hz0 : w.heap.size < (w.alloc (.cells #[.bool ng, .slice (some ⟨b, o, none⟩) ds.length c] 91)).heap.size := by simp
  generalize (w.alloc (.cells #[.bool ng, .slice (some ⟨b, o, none⟩) ds.length c] 91)) = W0 at *
  have HCL := Lib.hid hcl
  have HD := Lib.hid hd
  clear hcl hd
  go_loopw [4, 14] (fun bv iv wr => ∃ (i : Nat) (xs : List Nat), i ≤ ds.length ∧ iv = .int .i64 i ∧ Ow .u8 5 wr W0.heap.size bv (asc8 xs) ∧ Below W0.heap.size W0 wr ∧ Hid (Z.WOut ds i xs)) (fun _ iv _ => ds.length - (intOf iv).toNat)
  case atStart => exact ⟨0, [], by omega, rfl, Ow.nil_ _, Below.refl _ _, Z.WOut.start ds⟩
  case round =>
    obtain ⟨i, xs, hi, rfl, hown, hb, HO⟩ := hrel
    have hxl : xs.length ≤ 9000000 := by have := HO.out.len; omega
    by_cases hilt : i < ds.length
    · have hx : ds[i]? = some (Z.dAt ds i) := Z.dAt_eq hilt
      have hdl := HD.out _ (List.mem_of_getElem? hx)
      have hcx : wr.cell? ⟨b, o + i, none⟩ = some (.int .u32 (Z.dAt ds i : Int)) := by
        rw [← HCL.out i _ hx]
        exact (hb.cell (p := ⟨b, o + i, none⟩) (by show b < W0.heap.size; omega)).trans (hB0.cell (p := ⟨b, o + i, none⟩) hlt)
      obtain ⟨d, hdd⟩ : ∃ d, d = Z.dAt ds i := ⟨_, rfl⟩
      rw [← hdd] at hcx hdl
      have HDD := Lib.hid hdd.symm
      clear hx hdd
      go_wp2_with fail
      obtain ⟨wo, rfl⟩ : ∃ wo : World, wo = wr := ⟨_, rfl⟩
      clear hcx
      go_loopw [4, 6, 18] (fun bv gv jv ws => ∃ (j g : Nat) (ys : List Nat), j ≤ 9 ∧ jv = .int .i64 j ∧ gv = .int .u32 g ∧ g < 1000000000 ∧ Ow .u8 5 ws W0.heap.size bv (asc8 (xs ++ ys)) ∧ Below W0.heap.size W0 ws ∧ Hid (Z.WIn d j g ys)) (fun _ _ jv _ => 9 - (intOf jv).toNat)
      case atStart => exact ⟨0, d, [], by omega, rfl, rfl, hdl, by rw [List.append_nil]; exact hown, hb, Z.WIn.start d⟩
      case round =>
        obtain ⟨j, g, ys, hj, rfl, rfl, hg, hown2, hb2, HI⟩ := hrel
        by_cases hjlt : j < 9
        · have hyl : (asc8 (xs ++ ys)).length < 1000000000 := by have := HI.out.len; rw [asc8_length, List.length_append]; omega
          go_wp2_with (at_builtin; refine app1 rfl _ _ _ rfl elem8 Try.underlying103 (by omega) wr W0.heap.size u4 (asc8 (xs ++ ys)) _ (48 + g % 10) (by omega) rfl hown2 rfl hyl hb2.size ?_; intro v2 w2 hown3 hb3 hs3)
          go_roundw
          case rel => exact ⟨j + 1, g / 10, ys ++ [g % 10], by omega, by go_num, ret_v (by omega), by omega, by rw [asc8_snoc, List.append_assoc] at hown3; exact hown3, hb2.trans hb3, HI.out.step⟩
          case measure => simp [intOf]; omega
        · obtain rfl : j = 9 := by omega
          go_wp2_with fail
          go_roundw
          case rel => exact ⟨i + 1, xs ++ ys, by omega, by go_num, hown2, hb2, HO.out.step HDD.out hdl HI.out⟩
          case measure => simp [intOf]; omega
    · obtain rfl : i = ds.length := by omega
      have hval := HO.out.val
      rw [List.take_length] at hval
      have hxlt := HO.out.lt
      have hxpos : 0 < xs.length := by have := HO.out.len; omega
      have hown' := hown
      obtain ⟨gb, cap, hbv, hgB, _, hgc, hgm⟩ := hown.form (by rw [asc8_length]; exact hxpos)
      subst hbv
      have HOW := Lib.hid hown
      rw [asc8_length] at hown hgc
      unfold maxLen at hgm
      have hcc : ∀ k, k < xs.length → wr.cell? ⟨gb, k, none⟩ = some (.int .u8 ((48 + Z.dAt xs k : Nat) : Int)) := fun k hk => hown.cellN (asc8_length xs) (asc8_at xs k hk)
      have HCC := Lib.hid hcc
      have HX := Lib.hid hxlt
      have HV := Lib.hid hval
      obtain ⟨n, hn⟩ : ∃ n, n = Z.ofDg 1000000000 ds := ⟨_, rfl⟩
      have HN := Lib.hid hn
      rw [← hn] at HV hp
      clear hcc hxlt hval hown' hn HO
      have hbf := hB0.trans (hb.mono (by omega))
      have c0 := (bC.below hb).cell 0
      go_wp2_with fail
      go_loop [4] (fun bv => ∃ k : Nat, k + 1 ≤ xs.length ∧ bv = .slice (some ⟨gb, 0, none⟩) (k + 1) cap ∧ Hid (Z.ofDg 10 (xs.take (k + 1)) = n)) (fun bv => lenOf bv)
      case atStart => exact ⟨xs.length - 1, by omega, by rw [Nat.sub_add_cancel hxpos, asc8_length], by rw [Nat.sub_add_cancel hxpos, List.take_length]; exact HV⟩
      case round =>
        obtain ⟨k, hk, rfl, HK⟩ := hrel
        have hck := HCC.out k (by omega)
        by_cases h0 : Z.dAt xs k = 0
        · cases k with
          | zero =>
            exfalso
            have := Z.trim_step HK.out h0
            simp [Z.ofDg] at this
            omega
          | succ k =>
            have HS := Lib.hid (Z.trim_step HK.out h0)
            rw [h0] at hck
            clear h0
            go_wp2_with fail
            go_round
            case rel => exact ⟨k, by omega, rfl, HS⟩
            case measure => simp [lenOf]
        · have hbz : (((48 + Z.dAt xs k : Nat) : Int) == 48) = false := by rw [beq_eq_false_iff_ne]; omega
          have hfin := Z.trim_fin HX.out hk HK.out h0
          have hcut := HOW.out.cut (k := k + 1) (by rw [asc8_length]; omega)
          rw [asc8_take, hfin, asc8_dg n hp] at hcut
          have hlen : (Z.decB n).length = k + 1 := by
            rw [Z.decB_len n hp, ← hfin, List.length_take]; omega
          have HL := Lib.hid hlen
          generalize Z.dAt xs k = dk at *
          clear hfin hlen h0
          have hkm : k + 1 ≤ 9000000 := by omega
          by_cases hbig : (1000 : Int) < ((k + 1 : Nat) : Int)
          · have hbig2 : (1000 : Int) < (k : Int) + 1 := by omega
            go_wp2_with fail
            go_ret2
            rw [← HN.out]
            exact res_big (by have := HL.out; omega) hbf
          · have hbig2 : ¬ (1000 : Int) < (k : Int) + 1 := by omega
            have hbl : (Z.bsD n).length ≤ 1000 := by
              unfold Z.bsD
              rw [if_neg (by omega)]
              have := HL.out
              rw [Z.decB_len n hp] at this
              simp; omega
            cases ng
            · go_wp2_with fail
              refine (reverse_any _ _ _ _ hcut (by omega)).mono ?_
              rintro e w6 ⟨rfl, hown6, hb6⟩
              have hcv := conv_string w6 103 22 5 Try.underlying103 Try.underlying5 Try.underlying22 _ _ hown6.sn
              have hso := strOf_pos (n : Int) (by omega)
              rw [Int.natAbs_natCast] at hso
              rw [hso] at hcv
              clear hso
              go_wp2_with fail
              go_ret2
              rw [← HN.out]
              exact res_ok false (by have := HL.out; omega) (hbf.trans (hb6.mono (by omega)))
            · go_wp2_with (at_builtin; refine app1 rfl _ _ _ rfl elem8 Try.underlying103 (by omega) wr W0.heap.size (.slice (some ⟨gb, 0, none⟩) (k + 1) cap) (Z.bsD n) 45 45 rfl rfl hcut rfl (by omega) hb.size ?_; intro v4 w4 hown4 hb4 hs4)
              refine (reverse_any _ _ _ _ hown4 (by simp; omega)).mono ?_
              rintro e w6 ⟨rfl, hown6, hb6⟩
              have hcv := conv_string w6 103 22 5 Try.underlying103 Try.underlying5 Try.underlying22 v4 _ hown6.sn
              have hso := strOf_neg (-(n : Int)) (by omega)
              rw [Int.natAbs_neg, Int.natAbs_natCast] at hso
              rw [hso] at hcv
              clear hso
              go_wp2_with fail
              go_ret2
              rw [← HN.out]
              exact res_ok true (by have := HL.out; omega) (hbf.trans ((hb4.trans hb6).mono (by omega)))
/-- Whatever the number: what write answers. -/
theorem write_any (ng : Bool) (v : Value) (ds : List Nat) (w : World) (hS : SN .u32 w v ds) (hd : Z.Can 1000000000 ds) (hl : ds.length ≤ 1000000) :
    Calls Try.prog 65 #[.agg #[.bool ng, v]] w (ResRet (sgn ng (Z.ofDg 1000000000 ds)) w) := by
  rcases Nat.eq_zero_or_pos (Z.ofDg 1000000000 ds) with h | h
  · have hds : ds = [] := by
      rw [← Z.dg_ofDg 1000000000 (by omega) ds hd, h]; rfl
    subst hds
    have e : sgn ng (Z.ofDg 1000000000 []) = 0 := by rw [h]; cases ng <;> rfl
    rw [e]
    exact write_zero ng v w hS
  · exact write_pos ng v ds w hS hd.1 hl h
end Go.Proofs.Ythafdckomhdlbaa
