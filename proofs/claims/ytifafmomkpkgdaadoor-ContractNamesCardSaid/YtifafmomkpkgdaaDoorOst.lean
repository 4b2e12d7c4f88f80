/- Walks: the reference's SameStrings and With; union of the laws. -/
import Derived.Test.YtifafmomkpkgdaaDoorOwl
import Derived.Test.YtifafmomkpkgdaaDoorOsm
import Derived.Sort.Walk0
namespace Go.Proofs.YtifafmomkpkgdaaDoor
open Go.RowKit Go.Sort
namespace Z
def eqB (l k : List BS) : Bool := all2 (fun a b => decide (a = b)) l k
theorem eqB_iff (l k : List BS) : eqB l k = true ↔ l = k := all2_iff l k fun _ _ _ => decide_eq_true_iff
theorem eqW (a b : BS) : ((ofW a).toList == (ofW b).toList) = decide (a = b) := by rw [ofW_list, ofW_list, Bool.eq_iff_iff, beq_iff_eq, decide_eq_true_iff]
theorem withB_len (s : BS) : ∀ l : List BS, (withB l s).length ≤ l.length + 1
  | [] => by simp [withB]
  | x :: r => by
    have := withB_len s r
    unfold withB
    split
    · rw [List.length_cons, List.length_cons]; omega
    · split <;> simp
theorem foldW_len : ∀ (ws l : List BS), (ws.foldl withB l).length ≤ l.length + ws.length
  | [], l => by simp
  | w :: r, l => by
    have h1 := foldW_len r (withB l w)
    have h2 := withB_len w l
    rw [List.foldl_cons, List.length_cons]
    omega
theorem ltW (a b : BS) : Op.bytesLess (ofW a).toList (ofW b).toList = decide (a < b) := by rw [ofW_list, ofW_list]; exact bytesLess_eq a b
end Z
set_option maxRecDepth 100000 in
set_option maxHeartbeats 2000000 in
theorem samestr_any (v1 v2 : Value) (l1 l2 : List Z.BS) (w : World) (h1 : SB w v1 l1) (h2 : SB w v2 l2) :
    Calls Tryd.prog 23 #[v1, v2] w fun e w' => e = .returned (.bool (Z.eqB l1 l2)) ∧ Below w.heap.size w w' := by
  have H1 := Lib.hid h1
  have H2 := Lib.hid h2
  obtain ⟨A1, c1, rfl, hc1, hm1⟩ := h1.shape
  obtain ⟨A2, c2, rfl, hc2, hm2⟩ := h2.shape
  unfold maxLen at hm1 hm2
  have HR : Hid (Z.eqB l1 l2 = Z.all2 (fun a b => decide (a = b)) (l1.drop 0) (l2.drop 0)) := Lib.hid rfl
  have HRL : Hid (l1.length ≠ l2.length → Z.eqB l1 l2 = false) := Lib.hid (fun h => Z.all2_len l1 l2 h)
  generalize Z.eqB l1 l2 = R at *
  clear h1 h2
  by_cases hl : l1.length = l2.length
  case neg =>
    have HN := Lib.hid (HRL.out hl)
    have hne : ((l1.length : Int) != (l2.length : Int)) = true := by rw [bne_iff_ne]; omega
    clear hl
    go_enter Tryd.func23, Tryd.ntmps23
    go_wp2_with fail
    go_ret
    exact ⟨ret_bool HN.out.symm, Below.refl _ _⟩
  have HL := Lib.hid hl
  rw [← hl] at hc2 ⊢
  have H2 : Hid (SB w (.slice A2 l1.length c2) l2) := Lib.hid (by rw [hl]; exact H2.out)
  clear HRL hl
  go_enter Tryd.func23, Tryd.ntmps23
  go_wp2_with fail
  go_loopw [5] (fun iv wr => ∃ k : Nat, k ≤ l1.length ∧ iv = .int .i64 k ∧ Hid (R = Z.all2 (fun a b => decide (a = b)) (l1.drop k) (l2.drop k)) ∧ Below w.heap.size w wr) (fun iv _ => l1.length - (intOf iv).toNat)
  case atStart => exact ⟨0, by omega, rfl, HR, Below.refl _ _⟩
  case round =>
    obtain ⟨k, hk, rfl, HI, hbr⟩ := hrel
    clear HR
    by_cases hlt : k < l1.length
    · have hz1 : l1[k]? = some l1[k] := List.getElem?_eq_getElem hlt
      have hlt2 : k < l2.length := by have := HL.out; omega
      have hz2 : l2[k]? = some l2[k] := List.getElem?_eq_getElem hlt2
      obtain ⟨b1, o1, rfl, hb1, p1⟩ := (SL.below H1.out hbr).cell1 hz1 rfl
      obtain ⟨b2, o2, rfl, hb2, p2⟩ := (SL.below H2.out hbr).cell1 hz2 rfl
      have HD := Lib.hid (Z.all2_drop (f := fun a b => decide (a = b)) hz1 hz2)
      clear hz1 hz2
      generalize l1[k] = x at *
      generalize l2[k] = y at *
      clear hlt2
      have hi0 : (0 : Int) ≤ (k : Int) := by omega
      have hi1 : (k : Int) < (l1.length : Int) := by omega
      have f1 : ∀ z : Ab wr, z.1.cell? ⟨b1, o1 + k, none⟩ = some (.string (Z.ofW x)) := fun z => (z.2.cell (p := ⟨b1, o1 + k, none⟩) hb1).trans p1
      have f2 : ∀ z : Ab wr, z.1.cell? ⟨b2, o2 + k, none⟩ = some (.string (Z.ofW y)) := fun z => (z.2.cell (p := ⟨b2, o2 + k, none⟩) hb2).trans p2
      have HN : Hid (R = (decide (x = y) && Z.all2 (fun a b => decide (a = b)) (l1.drop (k + 1)) (l2.drop (k + 1)))) := Lib.hid (by rw [HI.out, HD.out])
      have hxy := Z.eqW x y
      generalize decide (x = y) = d at *
      clear p1 p2 HI HD
      go_wp2_with fail
      refine wp_region_above (by kernel_rfl) (by kernel_rfl) ?_
      repeat (go_big_quiet_step (fail))
      refine wpQuiet_nil ?_
      rintro _ ⟨z, rfl⟩
      have hbx := hbr.trans (z.2.mono hbr.size)
      clear f1 f2
      cases d
      · have HF : Hid (R = false) := HN
        go_wp2_with fail
        go_ret
        exact ⟨ret_bool HF.out.symm, hbx⟩
      · have HT : Hid (R = Z.all2 (fun a b => decide (a = b)) (l1.drop (k + 1)) (l2.drop (k + 1))) := HN
        go_wp2_with fail
        go_roundw
        case rel => first | exact ⟨k + 1, by omega, by go_num, HT, hbx⟩ | ((repeat apply Exists.intro); exact ⟨⟨k + 1, by omega, by go_num, HT, hbx⟩, rfl⟩)
        case measure => simp [intOf]; omega
    · obtain rfl : k = l1.length := by omega
      have HN : Hid (R = true) := Lib.hid (by rw [HI.out]; exact Z.all2_end HL.out)
      go_wp2_with fail
      go_ret
      exact ⟨ret_bool HN.out.symm, hbr⟩
set_option maxRecDepth 100000 in
set_option maxHeartbeats 2000000 in
theorem rwith_any (v : Value) (l : List Z.BS) (s : Z.BS) (w : World) (h : SB w v l) (hl : l.length ≤ 10000) :
    Calls Tryd.prog 34 #[v, .string (Z.ofW s)] w fun e w' => ∃ v', e = .returned v' ∧ OB w' w.heap.size v' (Z.withB l s) ∧ Below w.heap.size w w' := by
  obtain ⟨A, c, rfl, hlc, hcm⟩ := h.shape
  unfold maxLen at hcm
  have HS := Lib.hid h
  have HW := Lib.hid (fun i h hi => Z.withB_skip s l i h hi)
  have HLL := Lib.hid hl
  clear h hl
  generalize hR : Z.withB l s = R at *
  have HR := Lib.hid hR
  clear hR
  go_enter Tryd.func34, Tryd.ntmps34
  go_wp2_with fail
  go_loopw [5, 6] (fun ov iv wr => ∃ k : Nat, k ≤ l.length ∧ iv = .int .i64 k ∧ OB wr w.heap.size ov (l.take k) ∧ Hid (∀ (j : Nat) (x : Z.BS), j < k → l[j]? = some x → x < s) ∧ Below w.heap.size w wr) (fun _ iv _ => l.length - (intOf iv).toNat)
  case atStart => exact ⟨0, by omega, rfl, OL.nil_, Lib.hid (fun j x hj => absurd hj (Nat.not_lt_zero j)), Below.refl _ _⟩
  case round =>
    obtain ⟨k, hk, rfl, hO, HI, hbr⟩ := hrel
    have HLK : Hid ((l.take k).length ≤ 20000) := Lib.hid (by rw [List.length_take]; have := HLL.out; omega)
    have HWK := Lib.hid (HW.out k HI.out hk)
    by_cases hlt : k < l.length
    · have hz : l[k]? = some l[k] := List.getElem?_eq_getElem hlt
      obtain ⟨b, o, rfl, hb, p00⟩ := SL.cell1 HS.out hz rfl
      have p0 := (hbr.cell (p := ⟨b, o + k, none⟩) hb).trans p00
      have HP := Lib.hid p00
      clear p00
      have HZ := Lib.hid hz
      have HT : Hid (l.take (k + 1) = l.take k ++ [l[k]]) := Lib.hid (by rw [List.take_add_one, hz]; rfl)
      have HD : Hid (l.drop k = l[k] :: l.drop (k + 1)) := Lib.hid (List.drop_eq_getElem_cons hlt)
      clear hz
      generalize l[k] = x at *
      have hi0 : (0 : Int) ≤ (k : Int) := by omega
      have hi1 : (k : Int) < (l.length : Int) := by omega
      by_cases hxs : x < s
      · have hxs' := Z.ltW x s
        rw [decide_eq_true hxs] at hxs'
        have HXS := Lib.hid hxs
        clear hxs
        go_wp2_with (at_builtin; go_loud (refine appL1 x (bE_one x) (bE_len _) rfl _ _ rfl infoStr (by omega) (by omega) Tryd.underlying37 wr w.heap.size u5 (l.take k) _ rfl rfl hO rfl HLK.out hbr.size ?_; intro v6 w6 hO6 hb6 _))
        go_roundw
        case rel => exact ⟨k + 1, by omega, by go_num, by rw [HT.out]; exact hO6, Lib.hid (fun j y hj hy => by
          rcases Nat.lt_or_eq_of_le (Nat.lt_succ_iff.1 hj) with hj | rfl
          · exact HI.out j y hj hy
          · obtain rfl := Option.some.inj (HZ.out.symm.trans hy)
            exact HXS.out), hbr.trans hb6⟩
        case measure => simp [intOf]; omega
      · have hxs' := Z.ltW x s
        rw [decide_eq_false hxs] at hxs'
        have hee := Z.eqW x s
        by_cases hes : x = s
        · rw [decide_eq_true hes] at hee
          have HRR : Hid (R = (l.take k ++ [s]) ++ l.drop (k + 1)) := Lib.hid (by
            rw [HWK.out, HD.out, List.append_assoc]
            congr 1
            unfold Z.withB
            rw [if_neg hxs, if_pos hes, hes]
            rfl)
          clear hes hxs
          by_cases hck : c = k + 1
          · go_wp2_with (at_builtin; first | (refine appL1 s (bE_one s) (bE_len _) rfl _ _ rfl infoStr (by omega) (by omega) Tryd.underlying37 wr w.heap.size u5 (l.take k) _ rfl rfl hO rfl HLK.out hbr.size ?_; intro v6 w6 hO6 hb6 _; have HB6 := Lib.hid (hbr.trans hb6); have p6 := (HB6.out.cell (p := ⟨b, o + k, none⟩) hb).trans HP.out; have HLT : Hid ((l.take k ++ [s]).length ≤ 20000) := Lib.hid (by rw [List.length_append, List.length_singleton, List.length_take]; have := HLL.out; omega)) | go_loud (refine appCat bE_len bE_one rfl _ _ rfl infoStr (by omega) (by omega) Tryd.underlying37 w6 w.heap.size v6 _ (l.take k ++ [s]) (l.drop (k + 1)) rfl hO6 rfl (by have h := SL.drop (i := k + 1) (SL.below HS.out HB6.out) (by omega); (first | exact h | (rw [if_neg hck, Nat.mul_one] at h; exact h) | (simp at h ⊢; exact h) | (simp [*] at h ⊢; exact h) | (simp [hck, Go.WideShapes.add_plain] at h; simp [go_sem]; exact h))) HLT.out (by rw [List.length_drop]; have := HLL.out; omega) HB6.out.size ?_; intro v7 w7 hO7 hb7 _))
            all_goals (go_ret; exact ⟨_, rfl, by rw [HRR.out]; exact hO7, HB6.out.trans hb7⟩)
          · go_wp2_with (at_builtin; first | (refine appL1 s (bE_one s) (bE_len _) rfl _ _ rfl infoStr (by omega) (by omega) Tryd.underlying37 wr w.heap.size u5 (l.take k) _ rfl rfl hO rfl HLK.out hbr.size ?_; intro v6 w6 hO6 hb6 _; have HB6 := Lib.hid (hbr.trans hb6); have p6 := (HB6.out.cell (p := ⟨b, o + k, none⟩) hb).trans HP.out; have HLT : Hid ((l.take k ++ [s]).length ≤ 20000) := Lib.hid (by rw [List.length_append, List.length_singleton, List.length_take]; have := HLL.out; omega)) | go_loud (refine appCat bE_len bE_one rfl _ _ rfl infoStr (by omega) (by omega) Tryd.underlying37 w6 w.heap.size v6 _ (l.take k ++ [s]) (l.drop (k + 1)) rfl hO6 rfl (by have h := SL.drop (i := k + 1) (SL.below HS.out HB6.out) (by omega); (first | exact h | (rw [if_neg hck, Nat.mul_one] at h; exact h) | (simp at h ⊢; exact h) | (simp [*] at h ⊢; exact h) | (simp [hck, Go.WideShapes.add_plain] at h; simp [go_sem]; exact h))) HLT.out (by rw [List.length_drop]; have := HLL.out; omega) HB6.out.size ?_; intro v7 w7 hO7 hb7 _))
            all_goals (go_ret; exact ⟨_, rfl, by rw [HRR.out]; exact hO7, HB6.out.trans hb7⟩)
        · rw [decide_eq_false hes] at hee
          have HRR : Hid (R = (l.take k ++ [s]) ++ l.drop k) := Lib.hid (by
            rw [HWK.out, HD.out, List.append_assoc]
            congr 1
            unfold Z.withB
            rw [if_neg hxs, if_neg hes]
            rfl)
          clear hes hxs
          have hck : ¬ c = k := by omega
          go_wp2_with (at_builtin; first | (refine appL1 s (bE_one s) (bE_len _) rfl _ _ rfl infoStr (by omega) (by omega) Tryd.underlying37 wr w.heap.size u5 (l.take k) _ rfl rfl hO rfl HLK.out hbr.size ?_; intro v6 w6 hO6 hb6 _; have HB6 := Lib.hid (hbr.trans hb6); have p6 := (HB6.out.cell (p := ⟨b, o + k, none⟩) hb).trans HP.out; have HLT : Hid ((l.take k ++ [s]).length ≤ 20000) := Lib.hid (by rw [List.length_append, List.length_singleton, List.length_take]; have := HLL.out; omega)) | go_loud (refine appCat bE_len bE_one rfl _ _ rfl infoStr (by omega) (by omega) Tryd.underlying37 w6 w.heap.size v6 _ (l.take k ++ [s]) (l.drop (k)) rfl hO6 rfl (by have h := SL.drop (i := k) (SL.below HS.out HB6.out) (by omega); (first | exact h | (rw [if_neg hck, Nat.mul_one] at h; exact h) | (simp at h ⊢; exact h) | (simp [*] at h ⊢; exact h) | (simp [hck, Go.WideShapes.add_plain] at h; simp [go_sem]; exact h))) HLT.out (by rw [List.length_drop]; have := HLL.out; omega) HB6.out.size ?_; intro v7 w7 hO7 hb7 _))
          all_goals (go_ret; exact ⟨_, rfl, by rw [HRR.out]; exact hO7, HB6.out.trans hb7⟩)

    · obtain rfl : k = l.length := by omega
      have HRR : Hid (R = (l.take l.length ++ [s]) ++ l.drop l.length) := Lib.hid (by
        rw [HWK.out, List.drop_length, List.append_nil]
        rfl)
      rcases A with _ | ad
      · by_cases hck : c = l.length
        · go_wp2_with (at_builtin; first | (refine appL1 s (bE_one s) (bE_len _) rfl _ _ rfl infoStr (by omega) (by omega) Tryd.underlying37 wr w.heap.size u5 (l.take l.length) _ rfl rfl hO rfl HLK.out hbr.size ?_; intro v6 w6 hO6 hb6 _; have HB6 := Lib.hid (hbr.trans hb6); have HLT : Hid ((l.take l.length ++ [s]).length ≤ 20000) := Lib.hid (by rw [List.length_append, List.length_singleton, List.length_take]; have := HLL.out; omega)) | go_loud (refine appCat bE_len bE_one rfl _ _ rfl infoStr (by omega) (by omega) Tryd.underlying37 w6 w.heap.size v6 _ (l.take l.length ++ [s]) (l.drop (l.length)) rfl hO6 rfl (by have h := SL.drop (i := l.length) (SL.below HS.out HB6.out) (by omega); (first | exact h | (rw [if_neg hck, Nat.mul_one] at h; exact h) | (simp at h ⊢; exact h) | (simp [*] at h ⊢; exact h) | (simp [hck, Go.WideShapes.add_plain] at h; simp [go_sem]; exact h))) HLT.out (by rw [List.length_drop]; have := HLL.out; omega) HB6.out.size ?_; intro v7 w7 hO7 hb7 _))
          all_goals (go_ret; exact ⟨_, rfl, by rw [HRR.out]; exact hO7, HB6.out.trans hb7⟩)
        · go_wp2_with (at_builtin; first | (refine appL1 s (bE_one s) (bE_len _) rfl _ _ rfl infoStr (by omega) (by omega) Tryd.underlying37 wr w.heap.size u5 (l.take l.length) _ rfl rfl hO rfl HLK.out hbr.size ?_; intro v6 w6 hO6 hb6 _; have HB6 := Lib.hid (hbr.trans hb6); have HLT : Hid ((l.take l.length ++ [s]).length ≤ 20000) := Lib.hid (by rw [List.length_append, List.length_singleton, List.length_take]; have := HLL.out; omega)) | go_loud (refine appCat bE_len bE_one rfl _ _ rfl infoStr (by omega) (by omega) Tryd.underlying37 w6 w.heap.size v6 _ (l.take l.length ++ [s]) (l.drop (l.length)) rfl hO6 rfl (by have h := SL.drop (i := l.length) (SL.below HS.out HB6.out) (by omega); (first | exact h | (rw [if_neg hck, Nat.mul_one] at h; exact h) | (simp at h ⊢; exact h) | (simp [*] at h ⊢; exact h) | (simp [hck, Go.WideShapes.add_plain] at h; simp [go_sem]; exact h))) HLT.out (by rw [List.length_drop]; have := HLL.out; omega) HB6.out.size ?_; intro v7 w7 hO7 hb7 _))
          all_goals (go_ret; exact ⟨_, rfl, by rw [HRR.out]; exact hO7, HB6.out.trans hb7⟩)
      · by_cases hck : c = l.length
        · go_wp2_with (at_builtin; first | (refine appL1 s (bE_one s) (bE_len _) rfl _ _ rfl infoStr (by omega) (by omega) Tryd.underlying37 wr w.heap.size u5 (l.take l.length) _ rfl rfl hO rfl HLK.out hbr.size ?_; intro v6 w6 hO6 hb6 _; have HB6 := Lib.hid (hbr.trans hb6); have HLT : Hid ((l.take l.length ++ [s]).length ≤ 20000) := Lib.hid (by rw [List.length_append, List.length_singleton, List.length_take]; have := HLL.out; omega)) | go_loud (refine appCat bE_len bE_one rfl _ _ rfl infoStr (by omega) (by omega) Tryd.underlying37 w6 w.heap.size v6 _ (l.take l.length ++ [s]) (l.drop (l.length)) rfl hO6 rfl (by have h := SL.drop (i := l.length) (SL.below HS.out HB6.out) (by omega); (first | exact h | (rw [if_neg hck, Nat.mul_one] at h; exact h) | (simp at h ⊢; exact h) | (simp [*] at h ⊢; exact h) | (simp [hck, Go.WideShapes.add_plain] at h; simp [go_sem]; exact h))) HLT.out (by rw [List.length_drop]; have := HLL.out; omega) HB6.out.size ?_; intro v7 w7 hO7 hb7 _))
          all_goals (go_ret; exact ⟨_, rfl, by rw [HRR.out]; exact hO7, HB6.out.trans hb7⟩)
        · go_wp2_with (at_builtin; first | (refine appL1 s (bE_one s) (bE_len _) rfl _ _ rfl infoStr (by omega) (by omega) Tryd.underlying37 wr w.heap.size u5 (l.take l.length) _ rfl rfl hO rfl HLK.out hbr.size ?_; intro v6 w6 hO6 hb6 _; have HB6 := Lib.hid (hbr.trans hb6); have HLT : Hid ((l.take l.length ++ [s]).length ≤ 20000) := Lib.hid (by rw [List.length_append, List.length_singleton, List.length_take]; have := HLL.out; omega)) | go_loud (refine appCat bE_len bE_one rfl _ _ rfl infoStr (by omega) (by omega) Tryd.underlying37 w6 w.heap.size v6 _ (l.take l.length ++ [s]) (l.drop (l.length)) rfl hO6 rfl (by have h := SL.drop (i := l.length) (SL.below HS.out HB6.out) (by omega); (first | exact h | (rw [if_neg hck, Nat.mul_one] at h; exact h) | (simp at h ⊢; exact h) | (simp [*] at h ⊢; exact h) | (simp [hck, Go.WideShapes.add_plain] at h; simp [go_sem]; exact h))) HLT.out (by rw [List.length_drop]; have := HLL.out; omega) HB6.out.size ?_; intro v7 w7 hO7 hb7 _))
          all_goals (go_ret; exact ⟨_, rfl, by rw [HRR.out]; exact hO7, HB6.out.trans hb7⟩)
set_option maxRecDepth 100000 in
theorem lunion_any (v1 v2 : Value) (a b : List Z.BS) (w : World) (h1 : SB w v1 a) (h2 : SB w v2 b) (hla : a.length ≤ 4000) (hlb : b.length ≤ 4000) :
    Calls Tryd.prog 22 #[v1, v2] w fun e w' => ∃ v', e = .returned v' ∧ OB w' w.heap.size v' (b.foldl Z.withB a) ∧ Below w.heap.size w w' := by
  obtain ⟨A1, c1, rfl, hlc1, hcm1⟩ := h1.shape
  obtain ⟨A2, c2, rfl, hlc2, hcm2⟩ := h2.shape
  unfold maxLen at hcm1 hcm2
  have H1 := Lib.hid h1
  have H2 := Lib.hid h2
  have HLA := Lib.hid hla
  have HLB := Lib.hid hlb
  generalize hR : b.foldl Z.withB a = R at *
  have HR : Hid ((b.take b.length).foldl Z.withB a = R) := Lib.hid (by rw [List.take_length]; exact hR)
  clear h1 h2 hla hlb hR
  have HB0 := Lib.hid ((Below.refl _ w).alloc (Nat.le_refl w.heap.size) (.cells #[] 9))
  go_enter Tryd.func22, Tryd.ntmps22
  go_wp2_with (at_builtin; go_loud (refine appCat bE_len bE_one rfl _ _ rfl infoStr (by omega) (by omega) Tryd.underlying37 _ w.heap.size (.slice (some ⟨w.heap.size, 0, none⟩) 0 0) (.slice A1 a.length c1) [] a rfl (OL.lit0 w) rfl (H1.out.below HB0.out) (by simp) (by have := HLA.out; omega) HB0.out.size ?_; intro v6 w6 hO6 hb6 _; rw [List.nil_append] at hO6; have HB6 := Lib.hid (HB0.out.trans hb6); have HO6 := Lib.hid hO6; clear hO6))
  go_loopw [5, 6] (fun ov iv wr => ∃ k : Nat, k ≤ b.length ∧ iv = .int .i64 k ∧ OB wr w.heap.size ov ((b.take k).foldl Z.withB a) ∧ Below w.heap.size w wr) (fun _ iv _ => b.length - (intOf iv).toNat)
  case atStart => exact ⟨0, by omega, rfl, HO6.out, HB6.out⟩
  case round =>
    obtain ⟨k, hk, rfl, hO, hbr⟩ := hrel
    by_cases hlt : k < b.length
    · have hz : b[k]? = some b[k] := List.getElem?_eq_getElem hlt
      obtain ⟨bb, o, rfl, hb, p0⟩ := (SL.below H2.out hbr).cell1 hz rfl
      have HT : Hid ((b.take (k + 1)).foldl Z.withB a = Z.withB ((b.take k).foldl Z.withB a) b[k]) := Lib.hid (by rw [List.take_add_one, hz, Option.toList_some, List.foldl_append]; rfl)
      have HLK : Hid (((b.take k).foldl Z.withB a).length ≤ 10000) := Lib.hid (by
        have := Z.foldW_len (b.take k) a
        rw [List.length_take] at this
        have := HLA.out
        have := HLB.out
        omega)
      clear hz
      generalize b[k] = x at *
      generalize (b.take k).foldl Z.withB a = cur at *
      have HW := Lib.hid (rwith_any u5 cur x wr (hO.sl bE_len) HLK.out)
      have hi0 : (0 : Int) ≤ (k : Int) := by omega
      have hi1 : (k : Int) < (b.length : Int) := by omega
      go_wp2_with fail
      refine HW.out.mono ?_
      rintro e w7 ⟨v7, rfl, hO7, hb7⟩
      have HO7 := Lib.hid (OL.mono hO7 hbr.size)
      have hb8 := hbr.trans (hb7.mono hbr.size)
      clear hO7 hb7 HW hO
      go_wp2_with fail
      go_roundw
      case rel => exact ⟨k + 1, by omega, by go_num, by rw [HT.out]; exact HO7.out, hb8⟩
      case measure => simp [intOf]; omega
    · obtain rfl : k = b.length := by omega
      rw [HR.out] at hO
      go_wp2_with fail
      go_ret
      exact ⟨_, rfl, hO, hbr⟩
end Go.Proofs.YtifafmomkpkgdaaDoor
