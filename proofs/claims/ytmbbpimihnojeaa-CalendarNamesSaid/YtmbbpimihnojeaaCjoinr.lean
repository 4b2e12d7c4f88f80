/- Walks: the reference's Join. -/
import Derived.Test.YtmbbpimihnojeaaCjoinp
import Derived.Test.YtmbbpimihnojeaaCref
import Derived.Laws.BitsAllLaws
namespace Go.Proofs.Ytmbbpimihnojeaa
open Go.RowKit
namespace Z
theorem or_bit (a b k : Nat) : (a ||| b) / 2 ^ k % 2 = if a / 2 ^ k % 2 = 1 ∨ b / 2 ^ k % 2 = 1 then 1 else 0 := by
  have h := Nat.testBit_or a b k
  rw [Nat.testBit_eq_decide_div_mod_eq, Nat.testBit_eq_decide_div_mod_eq, Nat.testBit_eq_decide_div_mod_eq] at h
  have h2 : ((a ||| b) / 2 ^ k % 2 = 1) ↔ (a / 2 ^ k % 2 = 1 ∨ b / 2 ^ k % 2 = 1) := by
    rw [← decide_eq_true_iff (p := (a ||| b) / 2 ^ k % 2 = 1), h]
    simp
  split
  · rename_i hh; exact h2.2 hh
  · rename_i hh
    have := mt h2.1 hh
    omega
theorem orW_nat {wa wb : Int} (a0 : 0 ≤ wa) (a1 : wa ≤ 126) (b0 : 0 ≤ wb) (b1 : wb ≤ 126) : orW wa wb = ((wa.toNat ||| wb.toNat : Nat) : Int) ∧ wa.toNat ||| wb.toNat < 128 := by
  refine ⟨u8_or wa wb a0 (by omega) b0 (by omega), ?_⟩
  exact Nat.or_lt_two_pow (n := 7) (by omega) (by omega)
/-- One round of the reference's loop over the weekdays. -/
theorem or_step (wa wb : Int) (a0 : 0 ≤ wa) (b0 : 0 ≤ wb) (k : Nat) : (((wa.toNat ||| wb.toNat) / 2 ^ k : Nat) : Int) = 2 * (((wa.toNat ||| wb.toNat) / 2 ^ (k + 1) : Nat) : Int) + (if wa / 2 ^ k % 2 = 1 ∨ wb / 2 ^ k % 2 = 1 then 1 else 0) := by
  have h := or_bit wa.toNat wb.toNat k
  have e : (wa.toNat ||| wb.toNat) / 2 ^ (k + 1) = (wa.toNat ||| wb.toNat) / 2 ^ k / 2 := by rw [Nat.pow_succ, Nat.div_div_eq_div_mul]
  have c : ∀ x : Int, 0 ≤ x → ((x.toNat / 2 ^ k % 2 = 1) ↔ (x / 2 ^ k % 2 = 1)) := fun x hx => by
    have e1 : x = (x.toNat : Int) := by omega
    have e2 : x / 2 ^ k % 2 = ((x.toNat / 2 ^ k % 2 : Nat) : Int) := by
      conv => lhs; rw [e1]
      simp
    rw [e2]; omega
  rw [e]
  generalize (wa.toNat ||| wb.toNat) / 2 ^ k = z at *
  by_cases hc : wa / 2 ^ k % 2 = 1 ∨ wb / 2 ^ k % 2 = 1
  · rw [if_pos hc]
    rw [if_pos (by rw [c wa a0, c wb b0]; exact hc)] at h
    omega
  · rw [if_neg hc]
    rw [if_neg (by rw [c wa a0, c wb b0]; exact hc)] at h
    omega
end Z
theorem OJ.of_oi {w : World} {B : Nat} {A : Option Addr} {c n : Nat} {zs : List Int} (hn : zs.length = n) (h : OI w B (.slice A n c) zs) : OJ w B (.slice A n c) zs := by
  subst hn
  rcases h.2 with ⟨h1, h0⟩ | ⟨g, cap, cur, h1, _⟩
  · exact .inl ⟨h1, List.eq_nil_of_length_eq_zero h0⟩
  · exact .inr ⟨g, cap, zs, h1, by rw [← h1]; exact h, List.prefix_refl _⟩
theorem si_one (w : World) (z : Int) : SI (w.alloc (.cells #[.int .i64 z] 3)) (.slice (some ⟨w.heap.size, 0, none⟩) 1 1) [z] := by
  refine ⟨_, 1, rfl, by simp, by unfold maxLen; omega, fun _ => ⟨w.heap.size, 0, rfl, by simp, fun i d hd => ?_⟩⟩
  have hi : i = 0 := by have := (List.getElem?_eq_some_iff.1 hd).1; simp at this; omega
  subst hi
  simp at hd
  subst hd
  exact (Blk.new w 3 #[.int .i64 z]).cell 0
set_option maxRecDepth 100000 in
set_option maxHeartbeats 16000000 in
theorem rjoin_any (wa wb : Int) (va vb : Value) (ha hb : List Int) (w : World) (a0 : 0 ≤ wa) (a1 : wa ≤ 255) (b0 : 0 ≤ wb) (b1 : wb ≤ 255) (sa : SI w va ha) (sb : SI w vb hb) :
    Calls Try.prog 23 #[.agg #[.int .u8 wa, va], .agg #[.int .u8 wb, vb]] w (JoinRet wa wb ha hb w) := by
  have SA := Lib.hid sa
  have SB := Lib.hid sb
  clear sa sb
  have KA := Lib.hid (fun (W : World) (h : Below w.heap.size w W) => rvalid_any wa va ha W (SA.out.below h))
  have KB := Lib.hid (fun (W : World) (h : Below w.heap.size w W) => rvalid_any wb vb hb W (SB.out.below h))
  cases ca : Z.calB wa ha
  · have HE := Lib.hid (fun w' hb' => join_err (w := w) (w' := w') (show Z.joinE wa wb ha hb = 8 by unfold Z.joinE; rw [ca]; simp) (by decide) hb')
    rw [ca] at KA
    clear ca
    go_enter Try.func23, Try.ntmps23
    go_wp2_with fail
    obtain ⟨hb0, hs0, BA, BB, BR⟩ := boxes w wa wb va vb _ rfl
    generalize (((w.alloc (.cells #[.int .u8 wa, va] 24)).alloc (.cells #[.int .u8 wb, vb] 24)).alloc (.cells #[.int .u8 0, .slice none 0 0] 24)) = W0 at *
    refine (KA.out _ hb0).mono ?_
    rintro e W1 ⟨rfl, hb1⟩
    have c1 := hb0.trans (hb1.mono hb0.size)
    have BRx := BR.below hb1
    clear BA BB BR KA KB hs0 hb0 hb1
    have r0 := BRx.cell 0
    have r1 := BRx.cell 1
    have f0 := BRx.frozen 0
    have f1 := BRx.frozen 1
    have q0 : (W1.setCell ⟨w.heap.size + 1 + 1, 0, none⟩ (.int .u8 0)).cell? ⟨w.heap.size + 1 + 1, 0, none⟩ = some (.int .u8 0) := (BRx.set 0 (.int .u8 0)).cell 0
    have q1 : ((W1.setCell ⟨w.heap.size + 1 + 1, 0, none⟩ (.int .u8 0)).setCell ⟨w.heap.size + 1 + 1, 1, none⟩ (.slice none 0 0)).cell? ⟨w.heap.size + 1 + 1, 1, none⟩ = some (.slice none 0 0) := ((BRx.set 0 (.int .u8 0)).set 1 (.slice none 0 0)).cell 1
    clear BRx
    go_wp2_with fail
    refine bodyPost_ret (v := .tuple #[.agg #[.int .u8 0, .slice none 0 0], .int .i64 8]) (by simp [results, Try.results23, go_sem, q0, q1]) rfl ?_
    exact HE.out _ ((c1.setCell (p := ⟨w.heap.size + 1 + 1, 0, none⟩) (by show w.heap.size ≤ w.heap.size + 1 + 1; omega) _).setCell (p := ⟨w.heap.size + 1 + 1, 1, none⟩) (by show w.heap.size ≤ w.heap.size + 1 + 1; omega) _)
  · rw [ca] at KA
    cases cb : Z.calB wb hb
    · have HE := Lib.hid (fun w' hb' => join_err (w := w) (w' := w') (show Z.joinE wa wb ha hb = 8 by unfold Z.joinE; rw [cb]; simp) (by decide) hb')
      rw [cb] at KB
      clear ca cb
      go_enter Try.func23, Try.ntmps23
      go_wp2_with fail
      obtain ⟨hb0, hs0, BA, BB, BR⟩ := boxes w wa wb va vb _ rfl
      generalize (((w.alloc (.cells #[.int .u8 wa, va] 24)).alloc (.cells #[.int .u8 wb, vb] 24)).alloc (.cells #[.int .u8 0, .slice none 0 0] 24)) = W0 at *
      refine (KA.out _ hb0).mono ?_
      rintro e W1 ⟨rfl, hb1⟩
      have c1 := hb0.trans (hb1.mono hb0.size)
      have z1 : W1.heap.size ≥ w.heap.size + 3 := by have := hb1.size; omega
      have p0 := (BB.below hb1).cell 0
      have p1 := (BB.below hb1).cell 1
      have BR1 := BR.below hb1
      have BA1 := BA.below hb1
      have BB1 := BB.below hb1
      clear BA BB BR KA hs0 hb0 hb1
      go_wp2_with fail
      refine (KB.out _ c1).mono ?_
      rintro e W2 ⟨rfl, hb2⟩
      have c2 := c1.trans (hb2.mono c1.size)
      have z2 : W2.heap.size ≥ w.heap.size + 3 := by have := hb2.size; omega
      have BRx := BR1.below hb2
      have BAx := BA1.below hb2
      have BBx := BB1.below hb2
      clear BR1 BA1 BB1 KB c1 z1 hb2 p0 p1
      clear BAx BBx z2
      have r0 := BRx.cell 0
      have r1 := BRx.cell 1
      have f0 := BRx.frozen 0
      have f1 := BRx.frozen 1
      have q0 : (W2.setCell ⟨w.heap.size + 1 + 1, 0, none⟩ (.int .u8 0)).cell? ⟨w.heap.size + 1 + 1, 0, none⟩ = some (.int .u8 0) := (BRx.set 0 (.int .u8 0)).cell 0
      have q1 : ((W2.setCell ⟨w.heap.size + 1 + 1, 0, none⟩ (.int .u8 0)).setCell ⟨w.heap.size + 1 + 1, 1, none⟩ (.slice none 0 0)).cell? ⟨w.heap.size + 1 + 1, 1, none⟩ = some (.slice none 0 0) := ((BRx.set 0 (.int .u8 0)).set 1 (.slice none 0 0)).cell 1
      clear BRx
      go_wp2_with fail
      refine bodyPost_ret (v := .tuple #[.agg #[.int .u8 0, .slice none 0 0], .int .i64 8]) (by simp [results, Try.results23, go_sem, q0, q1]) rfl ?_
      exact HE.out _ ((c2.setCell (p := ⟨w.heap.size + 1 + 1, 0, none⟩) (by show w.heap.size ≤ w.heap.size + 1 + 1; omega) _).setCell (p := ⟨w.heap.size + 1 + 1, 1, none⟩) (by show w.heap.size ≤ w.heap.size + 1 + 1; omega) _)
    · rw [cb] at KB
      have SA' := SA.out
      have SB' := SB.out
      obtain ⟨A1, x1, rfl, hx1, hx2, HA⟩ := SA'
      obtain ⟨A2, x2, rfl, hy1, hy2, HB⟩ := SB'
      have HA := Lib.hid HA
      have HB := Lib.hid HB
      have la : ha.length ≤ 1000 ∧ wa ≤ 126 ∧ Z.asc none ha = true := by unfold Z.calB at ca; simp at ca; exact ⟨by omega, by omega, ca.2⟩
      have lb : hb.length ≤ 1000 ∧ wb ≤ 126 ∧ Z.asc none hb = true := by unfold Z.calB at cb; simp at cb; exact ⟨by omega, by omega, cb.2⟩
      obtain ⟨la, wa1, asa⟩ := la
      obtain ⟨lb, wb1, asb⟩ := lb
      obtain ⟨ow, ol⟩ := Z.orW_nat a0 wa1 b0 wb1
      have HOS := Lib.hid (Z.or_step wa wb a0 b0)
      have HJ : Hid (Z.joinE wa wb ha hb = if Z.orW wa wb = 127 then 6 else if 1000 < (Z.J ha hb).length then 4 else 0) := by show _ = _; unfold Z.joinE; rw [if_pos ⟨ca, cb⟩]
      have HOW := Lib.hid ow
      have HAS := Lib.hid (Z.asc_facts ha none asa)
      have HBS := Lib.hid (Z.asc_facts hb none asb)
      clear ca cb asa asb ow
      generalize wa.toNat ||| wb.toNat = oo at *
      go_enter Try.func23, Try.ntmps23
      go_wp2_with fail
      obtain ⟨hb0, hs0, BA, BB, BR⟩ := boxes w wa wb (.slice A1 ha.length x1) (.slice A2 hb.length x2) _ rfl
      generalize (((w.alloc (.cells #[.int .u8 wa, (.slice A1 ha.length x1)] 24)).alloc (.cells #[.int .u8 wb, (.slice A2 hb.length x2)] 24)).alloc (.cells #[.int .u8 0, .slice none 0 0] 24)) = W0 at *
      refine (KA.out _ hb0).mono ?_
      rintro e W1 ⟨rfl, hb1⟩
      have c1 := hb0.trans (hb1.mono hb0.size)
      have z1 : W1.heap.size ≥ w.heap.size + 3 := by have := hb1.size; omega
      have p0 := (BB.below hb1).cell 0
      have p1 := (BB.below hb1).cell 1
      have BR1 := BR.below hb1
      have BA1 := BA.below hb1
      have BB1 := BB.below hb1
      clear BA BB BR KA hs0 hb0 hb1
      go_wp2_with fail
      refine (KB.out _ c1).mono ?_
      rintro e W2 ⟨rfl, hb2⟩
      have c2 := c1.trans (hb2.mono c1.size)
      have z2 : W2.heap.size ≥ w.heap.size + 3 := by have := hb2.size; omega
      have BRx := BR1.below hb2
      have BAx := BA1.below hb2
      have BBx := BB1.below hb2
      clear BR1 BA1 BB1 KB c1 z1 hb2 p0 p1
      go_wp2_with fail
      have BO := Blk.new W2 24 #[.int .u8 0, .slice none 0 0]
      have c3 := c2.alloc c2.size (.cells #[.int .u8 0, .slice none 0 0] 24)
      have hb3 := (Below.refl W2.heap.size W2).alloc (Nat.le_refl _) (.cells #[.int .u8 0, .slice none 0 0] 24)
      generalize W2.alloc (.cells #[.int .u8 0, .slice none 0 0] 24) = W3 at *
      go_loopw [7] (fun wv wr => ∃ k : Nat, k ≤ 7 ∧ wv = .int .i64 ((k : Int) - 1) ∧ Blk wr W2.heap.size 24 #[.int .u8 ((oo / 2 ^ k : Nat) : Int), .slice none 0 0] ∧ Below W2.heap.size W2 wr) (fun wv _ => (intOf wv + 1).toNat)
      case atStart => exact ⟨7, by omega, rfl, by rw [show oo / 2 ^ 7 = 0 from Nat.div_eq_of_lt ol]; exact BO, hb3⟩
      case round =>
        obtain ⟨k, hk, rfl, BK, hbr⟩ := hrel
        cases k with
        | succ k =>
          have st := HOS.out k
          have hlt : oo / 2 ^ (k + 1) ≤ 127 := by
            have : oo / 2 ^ (k + 1) ≤ oo := Nat.div_le_self _ _
            omega
          have hlt0 : oo / 2 ^ k ≤ 127 := by
            have : oo / 2 ^ k ≤ oo := Nat.div_le_self _ _
            omega
          generalize oo / 2 ^ (k + 1) = p at *
          generalize hq : oo / 2 ^ k = q at *
          have k0 := BK.cell 0
          have k1 := BK.cell 1
          have g0 := BK.frozen 0
          have BK2 := BK.set 0 (.int .u8 (2 * (p : Int)))
          have hbr2 := hbr.setCell (p := ⟨W2.heap.size, 0, none⟩) (Nat.le_refl _) (.int .u8 (2 * (p : Int)))
          have m0 := BK2.cell 0
          have mg := BK2.frozen 0
          have aw := (BAx.low hbr2 (by omega)).cell 0
          have bw := (BBx.low hbr2 (by omega)).cell 0
          have RA := Lib.hid (fun W : World => rest_any wa k W a0 a1 (by omega))
          have RB := Lib.hid (fun W : World => rest_any wb k W b0 b1 (by omega))
          have e1 : ((k + 1 : Nat) : Int) - 1 = k := by omega
          rw [e1]
          clear BAx BBx
          go_wp2_with fail
          refine (RA.out _).mono ?_
          rintro e Wx ⟨rfl, rfl⟩
          by_cases pa : wa / 2 ^ k % 2 = 1
          · rw [if_pos (.inl pa)] at st
            have pab : (wa / 2 ^ k % 2 == 1) = true := by simpa using pa
            have BK3 := BK2.set 0 (.int .u8 (2 * (p : Int) + 1))
            have hbr3 := hbr2.setCell (p := ⟨W2.heap.size, 0, none⟩) (Nat.le_refl _) (.int .u8 (2 * (p : Int) + 1))
            rw [pab]
            clear pab pa BK BK2
            go_wp2_with fail
            go_roundw
            case rel => exact ⟨k, by omega, rfl, by rw [hq, st]; exact BK3, hbr3⟩
            case measure => simp [intOf]
          · have pab : (wa / 2 ^ k % 2 == 1) = false := by simpa using pa
            rw [pab]
            clear pab
            go_wp2_with fail
            refine (RB.out _).mono ?_
            rintro e Wx ⟨rfl, rfl⟩
            by_cases pb : wb / 2 ^ k % 2 = 1
            · rw [if_pos (.inr pb)] at st
              have pbb : (wb / 2 ^ k % 2 == 1) = true := by simpa using pb
              have BK3 := BK2.set 0 (.int .u8 (2 * (p : Int) + 1))
              have hbr3 := hbr2.setCell (p := ⟨W2.heap.size, 0, none⟩) (Nat.le_refl _) (.int .u8 (2 * (p : Int) + 1))
              rw [pbb]
              clear pbb pb BK BK2
              go_wp2_with fail
              go_roundw
              case rel => exact ⟨k, by omega, rfl, by rw [hq, st]; exact BK3, hbr3⟩
              case measure => simp [intOf]
            · rw [if_neg (fun h => h.elim pa pb)] at st
              have pbb : (wb / 2 ^ k % 2 == 1) = false := by simpa using pb
              rw [pbb]
              clear pbb BK
              go_wp2_with fail
              go_roundw
              case rel => exact ⟨k, by omega, rfl, by rw [hq, st, Int.add_zero]; exact BK2, hbr2⟩
              case measure => simp [intOf]
        | zero =>
          rw [Nat.pow_zero, Nat.div_one] at BK
          have c4 := c2.trans (hbr.mono c2.size)
          have BR4 := BRx.low hbr (by omega)
          have BA4 := BAx.low hbr (by omega)
          have BB4 := BBx.low hbr (by omega)
          have zw : W2.heap.size < wr.heap.size := BK.lt
          have k0 := BK.cell 0
          have k1 := BK.cell 1
          clear c3 hb3 BO HOS
          by_cases h127 : oo = 127
          · subst h127
            have HE := Lib.hid (fun w' hb' => join_err (w := w) (w' := w') (show Z.joinE wa wb ha hb = 6 by rw [HJ.out, if_pos (show Z.orW wa wb = 127 from HOW.out)]) (by decide) hb')
            clear BRx BAx BBx c2
            have BRx := BR4
            clear BR4 BA4 BB4
            have r0 := BRx.cell 0
            have r1 := BRx.cell 1
            have f0 := BRx.frozen 0
            have f1 := BRx.frozen 1
            have q0 : (wr.setCell ⟨w.heap.size + 1 + 1, 0, none⟩ (.int .u8 0)).cell? ⟨w.heap.size + 1 + 1, 0, none⟩ = some (.int .u8 0) := (BRx.set 0 (.int .u8 0)).cell 0
            have q1 : ((wr.setCell ⟨w.heap.size + 1 + 1, 0, none⟩ (.int .u8 0)).setCell ⟨w.heap.size + 1 + 1, 1, none⟩ (.slice none 0 0)).cell? ⟨w.heap.size + 1 + 1, 1, none⟩ = some (.slice none 0 0) := ((BRx.set 0 (.int .u8 0)).set 1 (.slice none 0 0)).cell 1
            clear BRx
            go_wp2_with fail
            refine bodyPost_ret (v := .tuple #[.agg #[.int .u8 0, .slice none 0 0], .int .i64 6]) (by simp [results, Try.results23, go_sem, q0, q1]) rfl ?_
            exact HE.out _ ((c4.setCell (p := ⟨w.heap.size + 1 + 1, 0, none⟩) (by show w.heap.size ≤ w.heap.size + 1 + 1; omega) _).setCell (p := ⟨w.heap.size + 1 + 1, 1, none⟩) (by show w.heap.size ≤ w.heap.size + 1 + 1; omega) _)
          · have h127' : ((oo : Int) == 127) = false := by simp; omega
            have HJ2 := Lib.hid (show Z.joinE wa wb ha hb = if 1000 < (Z.J ha hb).length then 4 else 0 by rw [HJ.out, if_neg (by rw [HOW.out]; omega)])
            clear HJ
            go_wp2_with fail
            go_loopw [8, 9] (fun iv kv wr => ∃ (i k : Nat) (o : List Int) (v : Value), i ≤ ha.length ∧ k ≤ hb.length ∧ iv = .int .i64 i ∧ kv = .int .i64 k ∧ Hid (Z.Mg ha hb i k o) ∧ Blk wr W2.heap.size 24 #[.int .u8 (oo : Int), v] ∧ OI wr (W2.heap.size + 1) v o ∧ Below W2.heap.size W2 wr) (fun iv kv _ => (ha.length - (intOf iv).toNat) + (hb.length - (intOf kv).toNat))
            case atStart => exact ⟨0, 0, [], _, by omega, by omega, rfl, rfl, Z.Mg.start ha hb, BK, OI.nil_ _ _, hbr⟩
            case round =>
              clear BK k0 k1 c4 BR4 BA4 BB4 zw hbr
              obtain ⟨i, k, o, v, hi, hk2, rfl, rfl, HM, BK5, HO5, hbr5⟩ := hrel
              have hol : o.length ≤ 2000 := by have := HM.out.len; rw [List.length_take, List.length_take] at this; omega
              obtain ⟨A5, x5, rfl⟩ := HO5.shape
              have HO5 := Lib.hid HO5
              have fa := (BAx.low hbr5 (by omega)).cell 1
              have fb := (BBx.low hbr5 (by omega)).cell 1
              have n51 := BK5.cell 1
              have zw5 : W2.heap.size < wr.heap.size := BK5.lt
              by_cases hia : i < ha.length
              · obtain ⟨b1, o1, rfl, hl1, hc1⟩ := HA.out (by omega)
                obtain ⟨x, hx⟩ : ∃ x, ha[i]? = some x := ⟨_, List.getElem?_eq_getElem hia⟩
                have xa := (((c2.trans (hbr5.mono (by omega))).cell (p := ⟨b1, o1 + i, none⟩) hl1).trans (hc1 i x hx))
                have x99 : x ≤ 99999 := by have := (HAS.out.1 x (List.mem_of_getElem? hx)).1; unfold Z.inR at this; simp at this; omega
                have x00 : 0 ≤ x := by have := (HAS.out.1 x (List.mem_of_getElem? hx)).1; unfold Z.inR at this; simp at this; omega
                have hx := Lib.hid hx
                have hc1 := Lib.hid hc1
                by_cases hkb : k < hb.length
                · obtain ⟨b2, o2, rfl, hl2, hc2⟩ := HB.out (by omega)
                  obtain ⟨y, hy⟩ : ∃ y, hb[k]? = some y := ⟨_, List.getElem?_eq_getElem hkb⟩
                  have xb := (((c2.trans (hbr5.mono (by omega))).cell (p := ⟨b2, o2 + k, none⟩) hl2).trans (hc2 k y hy))
                  have y99 : y ≤ 99999 := by have := (HBS.out.1 y (List.mem_of_getElem? hy)).1; unfold Z.inR at this; simp at this; omega
                  have y00 : 0 ≤ y := by have := (HBS.out.1 y (List.mem_of_getElem? hy)).1; unfold Z.inR at this; simp at this; omega
                  have hy := Lib.hid hy
                  have hc2 := Lib.hid hc2
                  rcases Int.lt_trichotomy x y with hxy | hxy | hxy
                  · skip
                    have HS : Hid (Z.Mg ha hb (i + 1) (k) (o ++ [x])) := Z.Mg.step HAS.out.2 HBS.out.2 HM.out (.inl ⟨x, hx.out, rfl⟩) (fun y' h' => by rw [hx.out] at h'; injection h' with h'; omega) (fun y' h' => by rw [hy.out] at h'; injection h' with h'; omega) (.inl ⟨hx.out, rfl⟩) (.inr ⟨by rw [hy.out]; intro h'; injection h' with h'; omega, rfl⟩)
                    have hne : (y == x) = false := by simp; omega
                    have hmin : min x y = x := by omega
                    have sE := Lib.hid (si_one wr x)
                    have nE : Hid (Nil0 (.slice (some ⟨wr.heap.size, 0, none⟩) 1 1)) := fun n c e => by cases e
                    go_wp2_with (at_builtin; refine appI rfl _ _ _ rfl infoInt Try.underlying22 (wr.alloc (.cells #[.int .i64 x] 3)) (W2.heap.size + 1) (.slice A5 o.length x5) (.slice (some ⟨wr.heap.size, 0, none⟩) 1 1) o [x] rfl rfl (HO5.out.below ((Below.refl _ _).alloc (Nat.le_refl _) _)) sE.out nE.out (by rw [World.size_alloc]; omega) (by omega) (by simp) ?_; intro v2 w2 HO2 hb2; obtain ⟨A6, x6, hA6⟩ := HO2.shape; rw [List.length_append, List.length_singleton] at hA6; subst hA6; have BK6 := (BK5.alloc (.cells #[.int .i64 x] 3)).low hb2 (by omega); have n61 := BK6.cell 1; have g61 := BK6.frozen 1; have BK7 := BK6.set 1 (.slice A6 (o.length + 1) x6); have hbx : Below W2.heap.size W2 (w2.setCell ⟨W2.heap.size, 1, none⟩ (.slice A6 (o.length + 1) x6)) := ((hbr5.alloc (by omega) (.cells #[.int .i64 x] 3)).trans (hb2.mono (by omega))).setCell (p := ⟨W2.heap.size, 1, none⟩) (Nat.le_refl _) _; have fa3 := (BAx.low hbx (by omega)).cell 1; have fb3 := (BBx.low hbx (by omega)).cell 1; have xa3 := (((c2.trans (hbx.mono (by omega))).cell (p := ⟨b1, o1 + i, none⟩) hl1).trans (hc1.out i x hx.out)); have xb3 := (((c2.trans (hbx.mono (by omega))).cell (p := ⟨b2, o2 + k, none⟩) hl2).trans (hc2.out k y hy.out)); have HO7 := Lib.hid (HO2.other (p := ⟨W2.heap.size, 1, none⟩) (by show W2.heap.size < W2.heap.size + 1; omega) (.slice A6 (o.length + 1) x6)))
                    go_roundw
                    case rel => first | exact ⟨i + 1, k, o ++ [x], _, by omega, by omega, by go_num, by go_num, HS, BK7, HO7.out, hbx⟩ | ((repeat apply Exists.intro); exact ⟨⟨i + 1, k, o ++ [x], _, by omega, by omega, by go_num, by go_num, HS, BK7, HO7.out, hbx⟩, rfl⟩)
                    case measure => simp [intOf]; omega
                  · subst hxy
                    have HS : Hid (Z.Mg ha hb (i + 1) (k + 1) (o ++ [x])) := Z.Mg.step HAS.out.2 HBS.out.2 HM.out (.inl ⟨x, hx.out, rfl⟩) (fun y' h' => by rw [hx.out] at h'; injection h' with h'; omega) (fun y' h' => by rw [hy.out] at h'; injection h' with h'; omega) (.inl ⟨hx.out, rfl⟩) (.inl ⟨hy.out, rfl⟩)
                    have sE := Lib.hid (si_one wr x)
                    have nE : Hid (Nil0 (.slice (some ⟨wr.heap.size, 0, none⟩) 1 1)) := fun n c e => by cases e
                    go_wp2_with (at_builtin; refine appI rfl _ _ _ rfl infoInt Try.underlying22 (wr.alloc (.cells #[.int .i64 x] 3)) (W2.heap.size + 1) (.slice A5 o.length x5) (.slice (some ⟨wr.heap.size, 0, none⟩) 1 1) o [x] rfl rfl (HO5.out.below ((Below.refl _ _).alloc (Nat.le_refl _) _)) sE.out nE.out (by rw [World.size_alloc]; omega) (by omega) (by simp) ?_; intro v2 w2 HO2 hb2; obtain ⟨A6, x6, hA6⟩ := HO2.shape; rw [List.length_append, List.length_singleton] at hA6; subst hA6; have BK6 := (BK5.alloc (.cells #[.int .i64 x] 3)).low hb2 (by omega); have n61 := BK6.cell 1; have g61 := BK6.frozen 1; have BK7 := BK6.set 1 (.slice A6 (o.length + 1) x6); have hbx : Below W2.heap.size W2 (w2.setCell ⟨W2.heap.size, 1, none⟩ (.slice A6 (o.length + 1) x6)) := ((hbr5.alloc (by omega) (.cells #[.int .i64 x] 3)).trans (hb2.mono (by omega))).setCell (p := ⟨W2.heap.size, 1, none⟩) (Nat.le_refl _) _; have fa3 := (BAx.low hbx (by omega)).cell 1; have fb3 := (BBx.low hbx (by omega)).cell 1; have xa3 := (((c2.trans (hbx.mono (by omega))).cell (p := ⟨b1, o1 + i, none⟩) hl1).trans (hc1.out i x hx.out)); have xb3 := (((c2.trans (hbx.mono (by omega))).cell (p := ⟨b2, o2 + k, none⟩) hl2).trans (hc2.out k x hy.out)); have HO7 := Lib.hid (HO2.other (p := ⟨W2.heap.size, 1, none⟩) (by show W2.heap.size < W2.heap.size + 1; omega) (.slice A6 (o.length + 1) x6)))
                    go_roundw
                    case rel => first | exact ⟨i + 1, k + 1, o ++ [x], _, by omega, by omega, by go_num, by go_num, HS, BK7, HO7.out, hbx⟩ | ((repeat apply Exists.intro); exact ⟨⟨i + 1, k + 1, o ++ [x], _, by omega, by omega, by go_num, by go_num, HS, BK7, HO7.out, hbx⟩, rfl⟩)
                    case measure => simp [intOf]; omega
                  · skip
                    have HS : Hid (Z.Mg ha hb (i) (k + 1) (o ++ [y])) := Z.Mg.step HAS.out.2 HBS.out.2 HM.out (.inr ⟨y, hy.out, rfl⟩) (fun y' h' => by rw [hx.out] at h'; injection h' with h'; omega) (fun y' h' => by rw [hy.out] at h'; injection h' with h'; omega) (.inr ⟨by rw [hx.out]; intro h'; injection h' with h'; omega, rfl⟩) (.inl ⟨hy.out, rfl⟩)
                    have hne : (x == y) = false := by simp; omega
                    have hmin : min x y = y := by omega
                    have sE := Lib.hid (si_one wr y)
                    have nE : Hid (Nil0 (.slice (some ⟨wr.heap.size, 0, none⟩) 1 1)) := fun n c e => by cases e
                    go_wp2_with (at_builtin; refine appI rfl _ _ _ rfl infoInt Try.underlying22 (wr.alloc (.cells #[.int .i64 y] 3)) (W2.heap.size + 1) (.slice A5 o.length x5) (.slice (some ⟨wr.heap.size, 0, none⟩) 1 1) o [y] rfl rfl (HO5.out.below ((Below.refl _ _).alloc (Nat.le_refl _) _)) sE.out nE.out (by rw [World.size_alloc]; omega) (by omega) (by simp) ?_; intro v2 w2 HO2 hb2; obtain ⟨A6, x6, hA6⟩ := HO2.shape; rw [List.length_append, List.length_singleton] at hA6; subst hA6; have BK6 := (BK5.alloc (.cells #[.int .i64 y] 3)).low hb2 (by omega); have n61 := BK6.cell 1; have g61 := BK6.frozen 1; have BK7 := BK6.set 1 (.slice A6 (o.length + 1) x6); have hbx : Below W2.heap.size W2 (w2.setCell ⟨W2.heap.size, 1, none⟩ (.slice A6 (o.length + 1) x6)) := ((hbr5.alloc (by omega) (.cells #[.int .i64 y] 3)).trans (hb2.mono (by omega))).setCell (p := ⟨W2.heap.size, 1, none⟩) (Nat.le_refl _) _; have fa3 := (BAx.low hbx (by omega)).cell 1; have fb3 := (BBx.low hbx (by omega)).cell 1; have xa3 := (((c2.trans (hbx.mono (by omega))).cell (p := ⟨b1, o1 + i, none⟩) hl1).trans (hc1.out i x hx.out)); have xb3 := (((c2.trans (hbx.mono (by omega))).cell (p := ⟨b2, o2 + k, none⟩) hl2).trans (hc2.out k y hy.out)); have HO7 := Lib.hid (HO2.other (p := ⟨W2.heap.size, 1, none⟩) (by show W2.heap.size < W2.heap.size + 1; omega) (.slice A6 (o.length + 1) x6)))
                    go_roundw
                    case rel => first | exact ⟨i, k + 1, o ++ [y], _, by omega, by omega, by go_num, by go_num, HS, BK7, HO7.out, hbx⟩ | ((repeat apply Exists.intro); exact ⟨⟨i, k + 1, o ++ [y], _, by omega, by omega, by go_num, by go_num, HS, BK7, HO7.out, hbx⟩, rfl⟩)
                    case measure => simp [intOf]; omega
                · skip
                  have HS : Hid (Z.Mg ha hb (i + 1) (k) (o ++ [x])) := Z.Mg.step HAS.out.2 HBS.out.2 HM.out (.inl ⟨x, hx.out, rfl⟩) (fun y' h' => by rw [hx.out] at h'; injection h' with h'; omega) (fun y' h' => by rw [List.getElem?_eq_none (by omega)] at h'; cases h') (.inl ⟨hx.out, rfl⟩) (.inr ⟨by rw [List.getElem?_eq_none (by omega)]; simp, rfl⟩)
                  have sE := Lib.hid (si_one wr x)
                  have nE : Hid (Nil0 (.slice (some ⟨wr.heap.size, 0, none⟩) 1 1)) := fun n c e => by cases e
                  go_wp2_with (at_builtin; refine appI rfl _ _ _ rfl infoInt Try.underlying22 (wr.alloc (.cells #[.int .i64 x] 3)) (W2.heap.size + 1) (.slice A5 o.length x5) (.slice (some ⟨wr.heap.size, 0, none⟩) 1 1) o [x] rfl rfl (HO5.out.below ((Below.refl _ _).alloc (Nat.le_refl _) _)) sE.out nE.out (by rw [World.size_alloc]; omega) (by omega) (by simp) ?_; intro v2 w2 HO2 hb2; obtain ⟨A6, x6, hA6⟩ := HO2.shape; rw [List.length_append, List.length_singleton] at hA6; subst hA6; have BK6 := (BK5.alloc (.cells #[.int .i64 x] 3)).low hb2 (by omega); have n61 := BK6.cell 1; have g61 := BK6.frozen 1; have BK7 := BK6.set 1 (.slice A6 (o.length + 1) x6); have hbx : Below W2.heap.size W2 (w2.setCell ⟨W2.heap.size, 1, none⟩ (.slice A6 (o.length + 1) x6)) := ((hbr5.alloc (by omega) (.cells #[.int .i64 x] 3)).trans (hb2.mono (by omega))).setCell (p := ⟨W2.heap.size, 1, none⟩) (Nat.le_refl _) _; have fa3 := (BAx.low hbx (by omega)).cell 1; have fb3 := (BBx.low hbx (by omega)).cell 1; have xa3 := (((c2.trans (hbx.mono (by omega))).cell (p := ⟨b1, o1 + i, none⟩) hl1).trans (hc1.out i x hx.out)); have HO7 := Lib.hid (HO2.other (p := ⟨W2.heap.size, 1, none⟩) (by show W2.heap.size < W2.heap.size + 1; omega) (.slice A6 (o.length + 1) x6)))
                  go_roundw
                  case rel => first | exact ⟨i + 1, k, o ++ [x], _, by omega, by omega, by go_num, by go_num, HS, BK7, HO7.out, hbx⟩ | ((repeat apply Exists.intro); exact ⟨⟨i + 1, k, o ++ [x], _, by omega, by omega, by go_num, by go_num, HS, BK7, HO7.out, hbx⟩, rfl⟩)
                  case measure => simp [intOf]; omega
              · by_cases hkb : k < hb.length
                · obtain ⟨b2, o2, rfl, hl2, hc2⟩ := HB.out (by omega)
                  obtain ⟨y, hy⟩ : ∃ y, hb[k]? = some y := ⟨_, List.getElem?_eq_getElem hkb⟩
                  have xb := (((c2.trans (hbr5.mono (by omega))).cell (p := ⟨b2, o2 + k, none⟩) hl2).trans (hc2 k y hy))
                  have y99 : y ≤ 99999 := by have := (HBS.out.1 y (List.mem_of_getElem? hy)).1; unfold Z.inR at this; simp at this; omega
                  have y00 : 0 ≤ y := by have := (HBS.out.1 y (List.mem_of_getElem? hy)).1; unfold Z.inR at this; simp at this; omega
                  have hy := Lib.hid hy
                  have hc2 := Lib.hid hc2
                  have hmin : min 100000 y = y := by omega
                  have HS : Hid (Z.Mg ha hb (i) (k + 1) (o ++ [y])) := Z.Mg.step HAS.out.2 HBS.out.2 HM.out (.inr ⟨y, hy.out, rfl⟩) (fun y' h' => by rw [List.getElem?_eq_none (by omega)] at h'; cases h') (fun y' h' => by rw [hy.out] at h'; injection h' with h'; omega) (.inr ⟨by rw [List.getElem?_eq_none (by omega)]; simp, rfl⟩) (.inl ⟨hy.out, rfl⟩)
                  have sE := Lib.hid (si_one wr y)
                  have nE : Hid (Nil0 (.slice (some ⟨wr.heap.size, 0, none⟩) 1 1)) := fun n c e => by cases e
                  go_wp2_with (at_builtin; refine appI rfl _ _ _ rfl infoInt Try.underlying22 (wr.alloc (.cells #[.int .i64 y] 3)) (W2.heap.size + 1) (.slice A5 o.length x5) (.slice (some ⟨wr.heap.size, 0, none⟩) 1 1) o [y] rfl rfl (HO5.out.below ((Below.refl _ _).alloc (Nat.le_refl _) _)) sE.out nE.out (by rw [World.size_alloc]; omega) (by omega) (by simp) ?_; intro v2 w2 HO2 hb2; obtain ⟨A6, x6, hA6⟩ := HO2.shape; rw [List.length_append, List.length_singleton] at hA6; subst hA6; have BK6 := (BK5.alloc (.cells #[.int .i64 y] 3)).low hb2 (by omega); have n61 := BK6.cell 1; have g61 := BK6.frozen 1; have BK7 := BK6.set 1 (.slice A6 (o.length + 1) x6); have hbx : Below W2.heap.size W2 (w2.setCell ⟨W2.heap.size, 1, none⟩ (.slice A6 (o.length + 1) x6)) := ((hbr5.alloc (by omega) (.cells #[.int .i64 y] 3)).trans (hb2.mono (by omega))).setCell (p := ⟨W2.heap.size, 1, none⟩) (Nat.le_refl _) _; have fa3 := (BAx.low hbx (by omega)).cell 1; have fb3 := (BBx.low hbx (by omega)).cell 1; have xb3 := (((c2.trans (hbx.mono (by omega))).cell (p := ⟨b2, o2 + k, none⟩) hl2).trans (hc2.out k y hy.out)); have HO7 := Lib.hid (HO2.other (p := ⟨W2.heap.size, 1, none⟩) (by show W2.heap.size < W2.heap.size + 1; omega) (.slice A6 (o.length + 1) x6)))
                  go_roundw
                  case rel => first | exact ⟨i, k + 1, o ++ [y], _, by omega, by omega, by go_num, by go_num, HS, BK7, HO7.out, hbx⟩ | ((repeat apply Exists.intro); exact ⟨⟨i, k + 1, o ++ [y], _, by omega, by omega, by go_num, by go_num, HS, BK7, HO7.out, hbx⟩, rfl⟩)
                  case measure => simp [intOf]; omega
                · obtain rfl : i = ha.length := by omega
                  obtain rfl : k = hb.length := by omega
                  have hoJ := HM.out.done
                  subst hoJ
                  have c9 := c2.trans (hbr5.mono (by omega))
                  have BR9 := BRx.low hbr5 (by omega)
                  have n50 := BK5.cell 0
                  have zK : w.heap.size + 3 ≤ W2.heap.size := z2
                  clear BRx BAx BBx c2
                  generalize hjn : (Z.J ha hb).length = jn at *
                  by_cases hbig : 1000 < jn
                  · have HE := Lib.hid (fun w' hb' => join_err (w := w) (w' := w') (show Z.joinE wa wb ha hb = 4 by rw [HJ2.out, if_pos (by omega)]) (by decide) hb')
                    have BRx := BR9
                    clear BR9 BK5 n50 HO5 HM
                    have r0 := BRx.cell 0
                    have r1 := BRx.cell 1
                    have f0 := BRx.frozen 0
                    have f1 := BRx.frozen 1
                    have q0 : (wr.setCell ⟨w.heap.size + 1 + 1, 0, none⟩ (.int .u8 0)).cell? ⟨w.heap.size + 1 + 1, 0, none⟩ = some (.int .u8 0) := (BRx.set 0 (.int .u8 0)).cell 0
                    have q1 : ((wr.setCell ⟨w.heap.size + 1 + 1, 0, none⟩ (.int .u8 0)).setCell ⟨w.heap.size + 1 + 1, 1, none⟩ (.slice none 0 0)).cell? ⟨w.heap.size + 1 + 1, 1, none⟩ = some (.slice none 0 0) := ((BRx.set 0 (.int .u8 0)).set 1 (.slice none 0 0)).cell 1
                    clear BRx
                    go_wp2_with fail
                    (try simp only [Exit.inBlock, Exit.then])
                    refine bodyPost_ret (v := .tuple #[.agg #[.int .u8 0, .slice none 0 0], .int .i64 4]) (by simp [results, Try.results23, go_sem, q0, q1]) rfl ?_
                    exact HE.out _ ((c9.setCell (p := ⟨w.heap.size + 1 + 1, 0, none⟩) (by show w.heap.size ≤ w.heap.size + 1 + 1; omega) _).setCell (p := ⟨w.heap.size + 1 + 1, 1, none⟩) (by show w.heap.size ≤ w.heap.size + 1 + 1; omega) _)
                  · have hE : Z.joinE wa wb ha hb = 0 := by rw [HJ2.out, if_neg (by omega)]
                    have HX : Hid (Z.joinE wa wb ha hb = 0 ∧ Z.joinW wa wb ha hb = (oo : Int) ∧ Z.joinH wa wb ha hb = Z.J ha hb) := ⟨hE, by unfold Z.joinW; rw [if_pos hE]; exact HOW.out, by unfold Z.joinH; rw [if_pos hE]⟩
                    have HO9 := Lib.hid ((HO5.out.other (p := ⟨w.heap.size + 1 + 1, 0, none⟩) (by show w.heap.size + 1 + 1 < W2.heap.size + 1; omega) (.int .u8 (oo : Int))).other (p := ⟨w.heap.size + 1 + 1, 1, none⟩) (by show w.heap.size + 1 + 1 < W2.heap.size + 1; omega) (.slice A5 jn x5))
                    have c10 := (c9.setCell (p := ⟨w.heap.size + 1 + 1, 0, none⟩) (by show w.heap.size ≤ w.heap.size + 1 + 1; omega) (.int .u8 (oo : Int))).setCell (p := ⟨w.heap.size + 1 + 1, 1, none⟩) (by show w.heap.size ≤ w.heap.size + 1 + 1; omega) (.slice A5 jn x5)
                    have r0 := BR9.cell 0
                    have r1 := BR9.cell 1
                    have f0 := BR9.frozen 0
                    have f1 := BR9.frozen 1
                    have q0 : (wr.setCell ⟨w.heap.size + 1 + 1, 0, none⟩ (.int .u8 (oo : Int))).cell? ⟨w.heap.size + 1 + 1, 0, none⟩ = some (.int .u8 (oo : Int)) := (BR9.set 0 (.int .u8 (oo : Int))).cell 0
                    have q1 : ((wr.setCell ⟨w.heap.size + 1 + 1, 0, none⟩ (.int .u8 (oo : Int))).setCell ⟨w.heap.size + 1 + 1, 1, none⟩ (.slice A5 jn x5)).cell? ⟨w.heap.size + 1 + 1, 1, none⟩ = some (.slice A5 jn x5) := ((BR9.set 0 (.int .u8 (oo : Int))).set 1 (.slice A5 jn x5)).cell 1
                    clear BK5 BR9 HO5 HM hE
                    go_wp2_with fail
                    (try simp only [Exit.inBlock, Exit.then])
                    refine bodyPost_ret (v := .tuple #[.agg #[(.int .u8 (oo : Int)), (.slice A5 jn x5)], .int .i64 0]) (by simp [results, Try.results23, go_sem, q0, q1]) rfl ?_
                    obtain ⟨e1, e2, e3⟩ := HX.out
                    refine ⟨(.slice A5 jn x5), by rw [e1, e2], ?_, c10⟩
                    rw [e3]
                    exact OJ.of_oi hjn (HO9.out.mono (by omega))
end Go.Proofs.Ytmbbpimihnojeaa
