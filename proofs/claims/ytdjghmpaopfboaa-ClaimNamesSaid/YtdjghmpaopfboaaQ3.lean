/- Q3: Qr Qs Qt -/
import Derived.Test.YtdjghmpaopfboaaZr
import Derived.Test.YtdjghmpaopfboaaRops
import Derived.Test.YtdjghmpaopfboaaIl
import Derived.Test.YtdjghmpaopfboaaQ1
/- Walks: the reference of rationals: Slash, written. -/

namespace Go.Proofs.Ytdjghmpaopfboaa
open Go.RowKit

namespace Z
def sl (s : ByteArray) : Int := Lib.index s.data.toList [47]
theorem sl_hit {s : ByteArray} {k : Nat} (hk : k < s.size) (h : s[k] = 47) (hn : ∀ j, j < k → ∀ h : j < s.size, s[j] ≠ 47) : sl s = k := by
  unfold sl
  refine Lib.index_first (i := k) (by rw [← Lib.size_eq]; omega) ?_ (fun j hj => ?_)
  · unfold Lib.occAt
    rw [List.drop_eq_getElem_cons (by rw [← Lib.size_eq]; exact hk)]
    have e : s.data.toList[k]'(by rw [← Lib.size_eq]; exact hk) = 47 := h
    rw [e]
    simp [List.isPrefixOf]
  · unfold Lib.occAt
    rw [List.drop_eq_getElem_cons (by rw [← Lib.size_eq]; omega)]
    have e : s.data.toList[j]'(by rw [← Lib.size_eq]; omega) ≠ 47 := hn j hj (by omega)
    simp [List.isPrefixOf]
    exact fun h => e h.symm
theorem sl_none {s : ByteArray} (hn : ∀ j, ∀ h : j < s.size, s[j] ≠ 47) : sl s = -1 := by
  refine indexB_none fun c hc => ?_
  obtain ⟨j, hj, rfl⟩ := List.mem_iff_getElem.1 hc
  exact hn j (by rw [Lib.size_eq]; exact hj)
theorem sl_cases (s : ByteArray) : (sl s = -1 ∧ rF s = false ∧ rN s = s ∧ rD1 s = ⟨#[49]⟩) ∨ (∃ i : Nat, sl s = i ∧ i < s.size ∧ rF s = true ∧ rN s = s.extract 0 i ∧ rD s = s.extract (i + 1) s.size ∧ rD1 s = s.extract (i + 1) s.size) := by
  have hc : cutR s.data.toList = if 0 ≤ sl s then (s.data.toList.take (sl s).toNat, s.data.toList.drop ((sl s).toNat + 1), true) else (s.data.toList, [], false) := rfl
  rcases Lib.index_spec s.data.toList [47] with ⟨h1, _⟩ | ⟨i, h1, h2, h3, _⟩
  · have h1' : sl s = -1 := h1
    rw [h1', if_neg (by omega)] at hc
    have hf : rF s = false := by unfold rF; rw [hc]
    refine .inl ⟨h1', hf, ?_, ?_⟩
    · unfold rN; rw [hc]
    · unfold rD1; rw [hf]; rfl
  · have h1' : sl s = i := h1
    have hlt : i < s.size := by
      have := Lib.index_room s.data.toList [47] (by rw [h1]; omega)
      rw [h1, ← Lib.size_eq] at this
      simp at this
      omega
    rw [h1', if_pos (by omega)] at hc
    simp only [Int.toNat_natCast] at hc
    have hf : rF s = true := by unfold rF; rw [hc]
    have hd : rD s = s.extract (i + 1) s.size := by
      apply ba_of
      unfold rD
      rw [hc, data_ofL, Lib.extract_data]
      exact (List.take_of_length_le (by rw [List.length_drop, ← Lib.size_eq]; exact Nat.le_refl _)).symm
    refine .inr ⟨i, h1', hlt, hf, ?_, hd, ?_⟩
    · apply ba_of
      unfold rN
      rw [hc, data_ofL, Lib.extract_data]
      simp
    · unfold rD1; rw [hf]; exact hd
end Z
theorem slash_any (s : ByteArray) (w : World) (hs : s.size ≤ 100000) : Calls Try.prog 63 #[.string s] w fun e w' => e = .returned (.int .i64 (Z.sl s)) ∧ w = w' := by
  go_enter Try.func63, Try.ntmps63
  go_wp2_with fail
  go_loop [3] (fun iv => ∃ k : Nat, k ≤ s.size ∧ iv = .int .i64 k ∧ Hid (∀ j, j < k → ∀ h : j < s.size, s[j] ≠ 47)) (fun iv => s.size - (intOf iv).toNat)
  case atStart => exact ⟨0, by omega, rfl, fun j hj => by omega⟩
  case round =>
    obtain ⟨k, hk, rfl, HK⟩ := hrel
    by_cases hlt : k < s.size
    · by_cases hc : s[k] = 47
      · have hb : ((s[k].toNat : Int) == 47) = true := by rw [hc]; rfl
        have HS := Lib.hid (Z.sl_hit hlt hc HK.out)
        clear hc
        go_wp2_with fail
        go_ret
        exact ⟨ret_int HS.out.symm, rfl⟩
      · have hb : ((s[k].toNat : Int) == 47) = false := by
          rw [beq_eq_false_iff_ne]
          intro e
          exact hc (UInt8.toNat_inj.1 (by show s[k].toNat = 47; omega))
        have HC := Lib.hid hc
        clear hc
        go_wp2_with fail
        go_round
        case rel =>
          refine ⟨k + 1, by omega, by go_num, fun j hj hjs => ?_⟩
          by_cases e : j = k
          · subst e; exact HC.out
          · exact HK.out j (by omega) hjs
        case measure => simp [intOf]; omega
    · obtain rfl : k = s.size := by omega
      have HS := Lib.hid (Z.sl_none (fun j h => HK.out j h h))
      go_wp2_with fail
      go_ret
      exact ⟨ret_int HS.out.symm, rfl⟩
def WrRet (s : ByteArray) (w : World) (e : Ending) (w' : World) : Prop := e = .returned (.tuple #[.string (Z.rN s), .string (Z.rD1 s)]) ∧ ∃ n, w' = w.drewN n
theorem written_any (s : ByteArray) (w : World) (hs : s.size ≤ 100000) : Calls Try.prog 61 #[.string s] w (WrRet s w) := by
  have C := Lib.hid (slash_any s w hs)
  unfold WrRet
  rcases Z.sl_cases s with ⟨h1, h2, h3, h4⟩ | ⟨i, h1, h2, h3, h4, h5, h6⟩
  · rw [h1] at C
    rw [h3, h4]
    clear h1 h2 h3 h4
    go_enter Try.func61, Try.ntmps61
    go_wp2_with fail
    refine C.out.mono ?_
    rintro e w' ⟨rfl, rfl⟩
    go_wp2_with fail
    go_ret2
    exact ⟨rfl, 0, rfl⟩
  · rw [h1] at C
    rw [h4, h6]
    clear h1 h3 h4 h5 h6
    have e1 : IntKind.i64.wrap ((i : Int) + 1) = (i : Int) + 1 := IntWalk.i64_in _ (by omega)
    have e2 : ((i : Int) + 1).toNat = i + 1 := by omega
    have e3 : (0 : Int) ≤ (i : Int) + 1 := by omega
    have e4 : (i : Int) + 1 ≤ (s.size : Int) := by omega
    have e5 : (i : Int) ≤ (s.size : Int) := by omega
    go_enter Try.func61, Try.ntmps61
    go_wp2_with fail
    refine C.out.mono ?_
    rintro e w' ⟨rfl, rfl⟩
    go_wp2_with fail
    go_region
    go_wp2_with fail
    go_ret2
    exact ⟨rfl, 1, rfl⟩
end Go.Proofs.Ytdjghmpaopfboaa
/- Walks: the reference of rationals: Check. -/

namespace Go.Proofs.Ytdjghmpaopfboaa
open Go.RowKit

namespace Z
theorem rd_eq (s : ByteArray) : rd s = ival (rD1 s).data.toList := by
  unfold rd rD1
  cases rF s
  · exact (by decide +kernel : (1 : Int) = ival (⟨#[49]⟩ : ByteArray).data.toList)
  · rfl
theorem rbad_eq (s : ByteArray) : rbad s = (!canon (rN s).data.toList || !canon (rD1 s).data.toList || isNeg (rD1 s).data.toList || decide (rd s = 0) || (rF s && decide (rd s = 1))) := by
  unfold rbad
  cases hf : rF s
  · have h1 : rD1 s = ⟨#[49]⟩ := by unfold rD1; rw [hf]; rfl
    have h2 : rd s = 1 := by unfold rd; rw [hf]; rfl
    rw [h1, h2, (by decide +kernel : canon (⟨#[49]⟩ : ByteArray).data.toList = true), (by decide +kernel : isNeg (⟨#[49]⟩ : ByteArray).data.toList = false)]
    simp
  · have h1 : rD1 s = rD s := by unfold rD1; rw [hf]; rfl
    rw [h1]
    simp [Bool.or_assoc]
theorem rbig_eq (s : ByteArray) : rbig s = (!decide (chk (rN s).data.toList = 0) || !decide (chk (rD1 s).data.toList = 0)) := by
  unfold rbig
  cases hf : rF s
  · have h1 : rD1 s = ⟨#[49]⟩ := by unfold rD1; rw [hf]; rfl
    rw [h1, (by decide +kernel : chk (⟨#[49]⟩ : ByteArray).data.toList = 0)]
    simp
  · have h1 : rD1 s = rD s := by unfold rD1; rw [hf]; rfl
    rw [h1]; simp
theorem D1_size (s : ByteArray) (h : s.size ≤ 100000) : (rD1 s).size ≤ 100000 := by
  have := (cut_size s).2
  unfold rD1
  split
  · omega
  · decide
end Z
/-- What Digits answers for a canonical text, by its length. -/
def DgLen (l : List UInt8) (w : World) (e : Ending) (w' : World) : Prop := ∃ A n c, e = .returned (.tuple #[.slice A n c, .bool (Z.isNeg l), .bool true]) ∧ n = (Z.mags l).length ∧ Below w.heap.size w w'
theorem dig_len (s : ByteArray) (w : World) (hs : s.size ≤ 1000000) (hc : Z.canon s.data.toList = true) : Calls Try.prog 62 #[.string s] w (DgLen s.data.toList w) := by
  refine (digits_any s w hs).mono ?_
  rintro e w1 ⟨v1, rfl, ho, hb⟩
  rw [hc] at ho ⊢
  simp only [↓reduceIte, Bool.true_and] at ho ⊢
  obtain ⟨A, c, rfl⟩ := ho.shape
  exact ⟨A, _, c, rfl, Z.rdg_length _, hb⟩
def DgNo (w : World) (e : Ending) (w' : World) : Prop := ∃ v, e = .returned (.tuple #[v, .bool false, .bool false]) ∧ Below w.heap.size w w'
theorem dig_bad (s : ByteArray) (w : World) (hs : s.size ≤ 1000000) (hc : Z.canon s.data.toList = false) : Calls Try.prog 62 #[.string s] w (DgNo w) := by
  refine (digits_any s w hs).mono ?_
  rintro e w1 ⟨v1, rfl, ho, hb⟩
  rw [hc]
  exact ⟨v1, rfl, hb⟩
set_option maxRecDepth 100000 in
set_option maxHeartbeats 8000000 in
theorem rqcheck_any (s : ByteArray) (w : World) (hs : s.size ≤ 100000) : Calls Try.prog 45 #[.string s] w (QchkRet s w) := by
  have hsz := Z.cut_size s
  have hsd := Z.D1_size s hs
  have WR := Lib.hid (written_any s w hs)
  have SL := Lib.hid (fun W : World => slash_any s W hs)
  have GC := Lib.hid (fun W : World => rgcd_any (Z.rN s) (Z.rD1 s) W (by omega) (by omega))
  have DN := Lib.hid (fun (W : World) hc => dig_len (Z.rN s) W (by omega) hc)
  have DD := Lib.hid (fun (W : World) hc => dig_len (Z.rD1 s) W (by omega) hc)
  have BN := Lib.hid (fun (W : World) hc => dig_bad (Z.rN s) W (by omega) hc)
  have BD := Lib.hid (fun (W : World) hc => dig_bad (Z.rD1 s) W (by omega) hc)
  have B1 := Lib.hid (fun w' => @qchk_bad s w w')
  have B2 := Lib.hid (fun w' => @qchk_big s w w')
  have B3 := Lib.hid (fun w' => @qchk_gcd s w w')
  have B4 := Lib.hid (fun w' => @qchk_ok s w w')
  have E1 := Lib.hid (Z.rbad_eq s)
  have E2 := Lib.hid (Z.rbig_eq s)
  have E3 := Lib.hid (Z.rd_eq s)
  have E4 : Hid (Z.rn s = Z.ival (Z.rN s).data.toList) := rfl
  have ESL : Hid ((Z.rF s = true → ∃ i : Nat, Z.sl s = i ∧ i ≤ 100000) ∧ (Z.rF s = false → Z.sl s = -1)) := by
    rcases Z.sl_cases s with ⟨h1, h2, _⟩ | ⟨i, h1, h2, h3, _⟩
    · exact ⟨(fun h => by rw [h2] at h; cases h), fun _ => h1⟩
    · exact ⟨fun _ => ⟨i, h1, by omega⟩, (fun h => by rw [h3] at h; cases h)⟩
  unfold WrRet at WR
  unfold GcdRet at GC
  clear hs hsz hsd
  cases hn : Z.canon (Z.rN s).data.toList
  · have hb : Z.rbad s = true := by rw [E1.out, hn]; rfl
    have HF := Lib.hid (fun w' hw => B1.out w' hb hw)
    cases hd : Z.canon (Z.rD1 s).data.toList
    · clear B1 B2 B3 B4 E1 E2 E3 E4 ESL hb
      generalize Z.rN s = N at *
      generalize Z.rD1 s = D at *
      go_enter Try.func45, Try.ntmps45
      go_wp2_with fail
      refine WR.out.mono ?_
      rintro e w' ⟨rfl, n, rfl⟩
      have b0 := below_of_drewN w n w.heap.size
      generalize w.drewN n = w0 at *
      go_wp2_with fail
      refine (BN.out _ hn).mono ?_
      rintro e w1 ⟨v1, rfl, hb1⟩
      have c1 := b0.trans (hb1.mono b0.size)
      clear b0 hb1
      go_wp2_with fail
      refine (BD.out _ hd).mono ?_
      rintro e w2 ⟨v2, rfl, hb2⟩
      have c2 := c1.trans (hb2.mono c1.size)
      clear c1 hb2
      go_wp2_with fail
      go_ret
      exact HF.out _ c2
    · have HNEG : Hid (Z.isNeg (Z.rD1 s).data.toList = Z.isNeg (Z.rD1 s).data.toList) := rfl
      clear B1 B2 B3 B4 E1 E2 E3 E4 ESL hb
      generalize Z.rN s = N at *
      generalize Z.rD1 s = D at *
      go_enter Try.func45, Try.ntmps45
      go_wp2_with fail
      refine WR.out.mono ?_
      rintro e w' ⟨rfl, n, rfl⟩
      have b0 := below_of_drewN w n w.heap.size
      generalize w.drewN n = w0 at *
      go_wp2_with fail
      refine (BN.out _ hn).mono ?_
      rintro e w1 ⟨v1, rfl, hb1⟩
      have c1 := b0.trans (hb1.mono b0.size)
      clear b0 hb1
      go_wp2_with fail
      refine (DD.out _ hd).mono ?_
      rintro e w2 ⟨A2, l2, cc2, rfl, hl2, hb2⟩
      have c2 := c1.trans (hb2.mono c1.size)
      have HL2 := Lib.hid hl2
      clear c1 hb2 hl2
      go_wp2_with fail
      go_ret
      exact HF.out _ c2
  · skip
    cases hd : Z.canon (Z.rD1 s).data.toList
    · have hb : Z.rbad s = true := by rw [E1.out, hn, hd]; rfl
      have HF := Lib.hid (fun w' hw => B1.out w' hb hw)
      clear B1 B2 B3 B4 E1 E2 E3 E4 ESL hb
      generalize Z.rN s = N at *
      generalize Z.rD1 s = D at *
      go_enter Try.func45, Try.ntmps45
      go_wp2_with fail
      refine WR.out.mono ?_
      rintro e w' ⟨rfl, n, rfl⟩
      have b0 := below_of_drewN w n w.heap.size
      generalize w.drewN n = w0 at *
      go_wp2_with fail
      refine (DN.out _ hn).mono ?_
      rintro e w1 ⟨A1, l1, cc1, rfl, hl1, hb1⟩
      have c1 := b0.trans (hb1.mono b0.size)
      have HL1 := Lib.hid hl1
      clear b0 hb1 hl1
      go_wp2_with fail
      refine (BD.out _ hd).mono ?_
      rintro e w2 ⟨v2, rfl, hb2⟩
      have c2 := c1.trans (hb2.mono c1.size)
      clear c1 hb2
      go_wp2_with fail
      go_ret
      exact HF.out _ c2
    · have hD : Z.rD1 s = Z.S (Z.rd s) := by rw [E3.out]; exact (Z.S_of hd).symm
      have hng : Z.isNeg (Z.rD1 s).data.toList = decide (Z.rd s < 0) := by rw [Z.isNeg_ival hd, E3.out]
      have e48 := Z.e48 (Z.rd s)
      have e49 := Z.e49 (Z.rd s)
      rw [← hD] at e48 e49
      clear hD
      rw [hng] at E1
      by_cases hneg : Z.rd s < 0
      · have hb : Z.rbad s = true := by rw [E1.out, hn, hd]; simp [hneg]
        have HF := Lib.hid (fun w' hw => B1.out w' hb hw)
        have HNEG : Hid (Z.isNeg (Z.rD1 s).data.toList = true) := by rw [hng]; exact decide_eq_true hneg
        generalize Z.rd s = v at *
        clear hng hneg e48 e49 hb
        clear B1 B2 B3 B4 E1 E2 E3 E4 ESL
        generalize Z.rN s = N at *
        generalize Z.rD1 s = D at *
        go_enter Try.func45, Try.ntmps45
        go_wp2_with fail
        refine WR.out.mono ?_
        rintro e w' ⟨rfl, n, rfl⟩
        have b0 := below_of_drewN w n w.heap.size
        generalize w.drewN n = w0 at *
        go_wp2_with fail
        refine (DN.out _ hn).mono ?_
        rintro e w1 ⟨A1, l1, cc1, rfl, hl1, hb1⟩
        have c1 := b0.trans (hb1.mono b0.size)
        have HL1 := Lib.hid hl1
        clear b0 hb1 hl1
        go_wp2_with fail
        refine (DD.out _ hd).mono ?_
        rintro e w2 ⟨A2, l2, cc2, rfl, hl2, hb2⟩
        have c2 := c1.trans (hb2.mono c1.size)
        have HL2 := Lib.hid hl2
        clear c1 hb2 hl2
        rw [HNEG.out]
        go_wp2_with fail
        go_ret
        exact HF.out _ c2
      · skip
        have HNEG : Hid (Z.isNeg (Z.rD1 s).data.toList = false) := by rw [hng]; exact decide_eq_false hneg
        by_cases h0 : Z.rd s = 0
        · have hb : Z.rbad s = true := by rw [E1.out, hn, hd]; simp [h0]
          have HF := Lib.hid (fun w' hw => B1.out w' hb hw)
          rw [decide_eq_true h0] at e48
          generalize Z.rd s = v at *
          clear hng hneg e49 hb h0
          clear B1 B2 B3 B4 E1 E2 E3 E4 ESL
          generalize Z.rN s = N at *
          generalize Z.rD1 s = D at *
          go_enter Try.func45, Try.ntmps45
          go_wp2_with fail
          refine WR.out.mono ?_
          rintro e w' ⟨rfl, n, rfl⟩
          have b0 := below_of_drewN w n w.heap.size
          generalize w.drewN n = w0 at *
          go_wp2_with fail
          refine (DN.out _ hn).mono ?_
          rintro e w1 ⟨A1, l1, cc1, rfl, hl1, hb1⟩
          have c1 := b0.trans (hb1.mono b0.size)
          have HL1 := Lib.hid hl1
          clear b0 hb1 hl1
          go_wp2_with fail
          refine (DD.out _ hd).mono ?_
          rintro e w2 ⟨A2, l2, cc2, rfl, hl2, hb2⟩
          have c2 := c1.trans (hb2.mono c1.size)
          have HL2 := Lib.hid hl2
          clear c1 hb2 hl2
          rw [HNEG.out]
          go_wp2_with fail
          go_ret
          exact HF.out _ c2
        · skip
          cases hf : Z.rF s
          · have hb : Z.rbad s = false := by rw [E1.out, hn, hd]; simp [hneg, h0, hf]
            rw [decide_eq_false h0] at e48
            have hi := ESL.out.2 hf
            rw [hi] at SL
            clear e49
            by_cases hk : Z.chk (Z.rN s).data.toList = 0
            · skip
              by_cases hkd : Z.chk (Z.rD1 s).data.toList = 0
              · have hg : Z.rbig s = false := by rw [E2.out, hk, hkd]; rfl
                have hbo := Z.bothE_ok hk hkd
                have hop : Z.opS Z.gcdI (Z.rN s) (Z.rD1 s) = Z.S (Z.gcdI (Z.rn s) (Z.rd s)) := by
                  unfold Z.opS
                  rw [if_pos hbo, ← E3.out, ← E4.out]
                  have := Z.gcd_size hbo
                  rw [← E3.out, ← E4.out] at this
                  unfold Z.resS
                  rw [if_neg (by omega)]; rfl
                have HLN : Hid ((Z.mags (Z.rN s).data.toList).length ≤ 1000) := (Z.chk_zero_iff.1 hk).2
                have HLD : Hid ((Z.mags (Z.rD1 s).data.toList).length ≤ 1000) := (Z.chk_zero_iff.1 hkd).2
                rw [hop, hbo] at GC
                clear hop hbo
                have HF := Lib.hid (fun w' hw => B4.out w' hb hg (fun h => by rw [hf] at h; cases h) hw)
                generalize Z.S (Z.gcdI (Z.rn s) (Z.rd s)) = GG at *
                generalize Z.rd s = v at *
                generalize Z.rn s = u at *
                clear hng hneg hb h0 hi hf hk hkd hg
                clear B1 B2 B3 B4 E1 E2 E3 E4 ESL
                generalize Z.rN s = N at *
                generalize Z.rD1 s = D at *
                go_enter Try.func45, Try.ntmps45
                go_wp2_with fail
                refine WR.out.mono ?_
                rintro e w' ⟨rfl, n, rfl⟩
                have b0 := below_of_drewN w n w.heap.size
                generalize w.drewN n = w0 at *
                go_wp2_with fail
                refine (DN.out _ hn).mono ?_
                rintro e w1 ⟨A1, l1, cc1, rfl, hl1, hb1⟩
                have c1 := b0.trans (hb1.mono b0.size)
                have HL1 := Lib.hid hl1
                clear b0 hb1 hl1
                have hlen1 : l1 ≤ 1000 := by rw [HL1.out]; exact HLN.out
                go_wp2_with fail
                refine (DD.out _ hd).mono ?_
                rintro e w2 ⟨A2, l2, cc2, rfl, hl2, hb2⟩
                have c2 := c1.trans (hb2.mono c1.size)
                have HL2 := Lib.hid hl2
                clear c1 hb2 hl2
                have hlen2 : l2 ≤ 1000 := by rw [HL2.out]; exact HLD.out
                rw [HNEG.out]
                go_wp2_with fail
                refine (SL.out _).mono ?_
                rintro e w' ⟨rfl, rfl⟩
                go_wp2_with fail
                refine (GC.out _).mono ?_
                rintro e w3 ⟨rfl, hb3⟩
                have c3 := c2.trans (hb3.mono c2.size)
                go_wp2_with fail
                refine (SL.out _).mono ?_
                rintro e w' ⟨rfl, rfl⟩
                go_wp2_with fail
                go_ret
                exact HF.out _ c3
              · have hg : Z.rbig s = true := by rw [E2.out, decide_eq_false hkd]; simp
                have HF := Lib.hid (fun w' hw => B2.out w' hb hg hw)
                have HLEN : Hid (1000 < (Z.mags (Z.rD1 s).data.toList).length) := by
                  rcases Nat.lt_or_ge 1000 (Z.mags (Z.rD1 s).data.toList).length with h | h
                  · exact h
                  · exact absurd (Z.chk_ok hd h) hkd
                have HLN : Hid ((Z.mags (Z.rN s).data.toList).length ≤ 1000) := (Z.chk_zero_iff.1 hk).2
                generalize Z.rd s = v at *
                clear hng hneg hb h0 hi hf hk hkd hg
                clear B1 B2 B3 B4 E1 E2 E3 E4 ESL
                generalize Z.rN s = N at *
                generalize Z.rD1 s = D at *
                go_enter Try.func45, Try.ntmps45
                go_wp2_with fail
                refine WR.out.mono ?_
                rintro e w' ⟨rfl, n, rfl⟩
                have b0 := below_of_drewN w n w.heap.size
                generalize w.drewN n = w0 at *
                go_wp2_with fail
                refine (DN.out _ hn).mono ?_
                rintro e w1 ⟨A1, l1, cc1, rfl, hl1, hb1⟩
                have c1 := b0.trans (hb1.mono b0.size)
                have HL1 := Lib.hid hl1
                clear b0 hb1 hl1
                have hlen1 : l1 ≤ 1000 := by rw [HL1.out]; exact HLN.out
                go_wp2_with fail
                refine (DD.out _ hd).mono ?_
                rintro e w2 ⟨A2, l2, cc2, rfl, hl2, hb2⟩
                have c2 := c1.trans (hb2.mono c1.size)
                have HL2 := Lib.hid hl2
                clear c1 hb2 hl2
                have hlen2 : 1000 < l2 := by rw [HL2.out]; exact HLEN.out
                rw [HNEG.out]
                go_wp2_with fail
                refine (SL.out _).mono ?_
                rintro e w' ⟨rfl, rfl⟩
                go_wp2_with fail
                go_ret
                exact HF.out _ c2
            · have hg : Z.rbig s = true := by rw [E2.out, decide_eq_false hk]; rfl
              have HF := Lib.hid (fun w' hw => B2.out w' hb hg hw)
              have HLEN : Hid (1000 < (Z.mags (Z.rN s).data.toList).length) := by
                rcases Nat.lt_or_ge 1000 (Z.mags (Z.rN s).data.toList).length with h | h
                · exact h
                · exact absurd (Z.chk_ok hn h) hk
              generalize Z.rd s = v at *
              clear hng hneg hb h0 hi hf hk hg
              clear B1 B2 B3 B4 E1 E2 E3 E4 ESL
              generalize Z.rN s = N at *
              generalize Z.rD1 s = D at *
              go_enter Try.func45, Try.ntmps45
              go_wp2_with fail
              refine WR.out.mono ?_
              rintro e w' ⟨rfl, n, rfl⟩
              have b0 := below_of_drewN w n w.heap.size
              generalize w.drewN n = w0 at *
              go_wp2_with fail
              refine (DN.out _ hn).mono ?_
              rintro e w1 ⟨A1, l1, cc1, rfl, hl1, hb1⟩
              have c1 := b0.trans (hb1.mono b0.size)
              have HL1 := Lib.hid hl1
              clear b0 hb1 hl1
              have hlen1 : 1000 < l1 := by rw [HL1.out]; exact HLEN.out
              go_wp2_with fail
              refine (DD.out _ hd).mono ?_
              rintro e w2 ⟨A2, l2, cc2, rfl, hl2, hb2⟩
              have c2 := c1.trans (hb2.mono c1.size)
              have HL2 := Lib.hid hl2
              clear c1 hb2 hl2
              rw [HNEG.out]
              go_wp2_with fail
              refine (SL.out _).mono ?_
              rintro e w' ⟨rfl, rfl⟩
              go_wp2_with fail
              go_ret
              exact HF.out _ c2
          · skip
            by_cases h1 : Z.rd s = 1
            · have hb : Z.rbad s = true := by rw [E1.out, hn, hd]; simp [hf, h1]
              have HF := Lib.hid (fun w' hw => B1.out w' hb hw)
              rw [decide_eq_false h0] at e48
              rw [decide_eq_true h1] at e49
              obtain ⟨i, hi, hile⟩ := ESL.out.1 hf
              rw [hi] at SL
              generalize Z.rd s = v at *
              clear hng hneg hb h0 h1 hi hf
              clear B1 B2 B3 B4 E1 E2 E3 E4 ESL
              generalize Z.rN s = N at *
              generalize Z.rD1 s = D at *
              go_enter Try.func45, Try.ntmps45
              go_wp2_with fail
              refine WR.out.mono ?_
              rintro e w' ⟨rfl, n, rfl⟩
              have b0 := below_of_drewN w n w.heap.size
              generalize w.drewN n = w0 at *
              go_wp2_with fail
              refine (DN.out _ hn).mono ?_
              rintro e w1 ⟨A1, l1, cc1, rfl, hl1, hb1⟩
              have c1 := b0.trans (hb1.mono b0.size)
              have HL1 := Lib.hid hl1
              clear b0 hb1 hl1
              go_wp2_with fail
              refine (DD.out _ hd).mono ?_
              rintro e w2 ⟨A2, l2, cc2, rfl, hl2, hb2⟩
              have c2 := c1.trans (hb2.mono c1.size)
              have HL2 := Lib.hid hl2
              clear c1 hb2 hl2
              rw [HNEG.out]
              go_wp2_with fail
              refine (SL.out _).mono ?_
              rintro e w' ⟨rfl, rfl⟩
              go_wp2_with fail
              go_ret
              exact HF.out _ c2
            · have hb : Z.rbad s = false := by rw [E1.out, hn, hd]; simp [hneg, h0, hf, h1]
              rw [decide_eq_false h0] at e48
              rw [decide_eq_false h1] at e49
              obtain ⟨i, hi, hile⟩ := ESL.out.1 hf
              rw [hi] at SL
              by_cases hk : Z.chk (Z.rN s).data.toList = 0
              · skip
                by_cases hkd : Z.chk (Z.rD1 s).data.toList = 0
                · have hg : Z.rbig s = false := by rw [E2.out, hk, hkd]; rfl
                  have hbo := Z.bothE_ok hk hkd
                  have hop : Z.opS Z.gcdI (Z.rN s) (Z.rD1 s) = Z.S (Z.gcdI (Z.rn s) (Z.rd s)) := by
                    unfold Z.opS
                    rw [if_pos hbo, ← E3.out, ← E4.out]
                    have := Z.gcd_size hbo
                    rw [← E3.out, ← E4.out] at this
                    unfold Z.resS
                    rw [if_neg (by omega)]; rfl
                  have HLN : Hid ((Z.mags (Z.rN s).data.toList).length ≤ 1000) := (Z.chk_zero_iff.1 hk).2
                  have HLD : Hid ((Z.mags (Z.rD1 s).data.toList).length ≤ 1000) := (Z.chk_zero_iff.1 hkd).2
                  rw [hop, hbo] at GC
                  clear hop hbo
                  by_cases hgc : Z.gcdI (Z.rn s) (Z.rd s) = 1
                  · have HF := Lib.hid (fun w' hw => B4.out w' hb hg (fun _ => hgc) hw)
                    rw [hgc, Z.S_one] at GC
                    generalize Z.rd s = v at *
                    generalize Z.rn s = u at *
                    clear hng hneg hb h0 hi hf h1 hk hkd hg hgc
                    clear B1 B2 B3 B4 E1 E2 E3 E4 ESL
                    generalize Z.rN s = N at *
                    generalize Z.rD1 s = D at *
                    go_enter Try.func45, Try.ntmps45
                    go_wp2_with fail
                    refine WR.out.mono ?_
                    rintro e w' ⟨rfl, n, rfl⟩
                    have b0 := below_of_drewN w n w.heap.size
                    generalize w.drewN n = w0 at *
                    go_wp2_with fail
                    refine (DN.out _ hn).mono ?_
                    rintro e w1 ⟨A1, l1, cc1, rfl, hl1, hb1⟩
                    have c1 := b0.trans (hb1.mono b0.size)
                    have HL1 := Lib.hid hl1
                    clear b0 hb1 hl1
                    have hlen1 : l1 ≤ 1000 := by rw [HL1.out]; exact HLN.out
                    go_wp2_with fail
                    refine (DD.out _ hd).mono ?_
                    rintro e w2 ⟨A2, l2, cc2, rfl, hl2, hb2⟩
                    have c2 := c1.trans (hb2.mono c1.size)
                    have HL2 := Lib.hid hl2
                    clear c1 hb2 hl2
                    have hlen2 : l2 ≤ 1000 := by rw [HL2.out]; exact HLD.out
                    rw [HNEG.out]
                    go_wp2_with fail
                    refine (SL.out _).mono ?_
                    rintro e w' ⟨rfl, rfl⟩
                    go_wp2_with fail
                    refine (GC.out _).mono ?_
                    rintro e w3 ⟨rfl, hb3⟩
                    have c3 := c2.trans (hb3.mono c2.size)
                    go_wp2_with fail
                    refine (SL.out _).mono ?_
                    rintro e w' ⟨rfl, rfl⟩
                    go_wp2_with fail
                    go_ret
                    exact HF.out _ c3
                  · have HF := Lib.hid (fun w' hw => B3.out w' hb hg hf hgc hw)
                    have e491 := Z.e49 (Z.gcdI (Z.rn s) (Z.rd s))
                    rw [decide_eq_false hgc] at e491
                    generalize Z.S (Z.gcdI (Z.rn s) (Z.rd s)) = GG at *
                    generalize Z.rd s = v at *
                    generalize Z.rn s = u at *
                    clear hng hneg hb h0 hi hf h1 hk hkd hg hgc
                    clear B1 B2 B3 B4 E1 E2 E3 E4 ESL
                    generalize Z.rN s = N at *
                    generalize Z.rD1 s = D at *
                    go_enter Try.func45, Try.ntmps45
                    go_wp2_with fail
                    refine WR.out.mono ?_
                    rintro e w' ⟨rfl, n, rfl⟩
                    have b0 := below_of_drewN w n w.heap.size
                    generalize w.drewN n = w0 at *
                    go_wp2_with fail
                    refine (DN.out _ hn).mono ?_
                    rintro e w1 ⟨A1, l1, cc1, rfl, hl1, hb1⟩
                    have c1 := b0.trans (hb1.mono b0.size)
                    have HL1 := Lib.hid hl1
                    clear b0 hb1 hl1
                    have hlen1 : l1 ≤ 1000 := by rw [HL1.out]; exact HLN.out
                    go_wp2_with fail
                    refine (DD.out _ hd).mono ?_
                    rintro e w2 ⟨A2, l2, cc2, rfl, hl2, hb2⟩
                    have c2 := c1.trans (hb2.mono c1.size)
                    have HL2 := Lib.hid hl2
                    clear c1 hb2 hl2
                    have hlen2 : l2 ≤ 1000 := by rw [HL2.out]; exact HLD.out
                    rw [HNEG.out]
                    go_wp2_with fail
                    refine (SL.out _).mono ?_
                    rintro e w' ⟨rfl, rfl⟩
                    go_wp2_with fail
                    refine (GC.out _).mono ?_
                    rintro e w3 ⟨rfl, hb3⟩
                    have c3 := c2.trans (hb3.mono c2.size)
                    go_wp2_with fail
                    refine (SL.out _).mono ?_
                    rintro e w' ⟨rfl, rfl⟩
                    go_wp2_with fail
                    go_ret
                    exact HF.out _ c3
                · have hg : Z.rbig s = true := by rw [E2.out, decide_eq_false hkd]; simp
                  have HF := Lib.hid (fun w' hw => B2.out w' hb hg hw)
                  have HLEN : Hid (1000 < (Z.mags (Z.rD1 s).data.toList).length) := by
                    rcases Nat.lt_or_ge 1000 (Z.mags (Z.rD1 s).data.toList).length with h | h
                    · exact h
                    · exact absurd (Z.chk_ok hd h) hkd
                  have HLN : Hid ((Z.mags (Z.rN s).data.toList).length ≤ 1000) := (Z.chk_zero_iff.1 hk).2
                  generalize Z.rd s = v at *
                  clear hng hneg hb h0 hi hf h1 hk hkd hg
                  clear B1 B2 B3 B4 E1 E2 E3 E4 ESL
                  generalize Z.rN s = N at *
                  generalize Z.rD1 s = D at *
                  go_enter Try.func45, Try.ntmps45
                  go_wp2_with fail
                  refine WR.out.mono ?_
                  rintro e w' ⟨rfl, n, rfl⟩
                  have b0 := below_of_drewN w n w.heap.size
                  generalize w.drewN n = w0 at *
                  go_wp2_with fail
                  refine (DN.out _ hn).mono ?_
                  rintro e w1 ⟨A1, l1, cc1, rfl, hl1, hb1⟩
                  have c1 := b0.trans (hb1.mono b0.size)
                  have HL1 := Lib.hid hl1
                  clear b0 hb1 hl1
                  have hlen1 : l1 ≤ 1000 := by rw [HL1.out]; exact HLN.out
                  go_wp2_with fail
                  refine (DD.out _ hd).mono ?_
                  rintro e w2 ⟨A2, l2, cc2, rfl, hl2, hb2⟩
                  have c2 := c1.trans (hb2.mono c1.size)
                  have HL2 := Lib.hid hl2
                  clear c1 hb2 hl2
                  have hlen2 : 1000 < l2 := by rw [HL2.out]; exact HLEN.out
                  rw [HNEG.out]
                  go_wp2_with fail
                  refine (SL.out _).mono ?_
                  rintro e w' ⟨rfl, rfl⟩
                  go_wp2_with fail
                  go_ret
                  exact HF.out _ c2
              · have hg : Z.rbig s = true := by rw [E2.out, decide_eq_false hk]; rfl
                have HF := Lib.hid (fun w' hw => B2.out w' hb hg hw)
                have HLEN : Hid (1000 < (Z.mags (Z.rN s).data.toList).length) := by
                  rcases Nat.lt_or_ge 1000 (Z.mags (Z.rN s).data.toList).length with h | h
                  · exact h
                  · exact absurd (Z.chk_ok hn h) hk
                generalize Z.rd s = v at *
                clear hng hneg hb h0 hi hf h1 hk hg
                clear B1 B2 B3 B4 E1 E2 E3 E4 ESL
                generalize Z.rN s = N at *
                generalize Z.rD1 s = D at *
                go_enter Try.func45, Try.ntmps45
                go_wp2_with fail
                refine WR.out.mono ?_
                rintro e w' ⟨rfl, n, rfl⟩
                have b0 := below_of_drewN w n w.heap.size
                generalize w.drewN n = w0 at *
                go_wp2_with fail
                refine (DN.out _ hn).mono ?_
                rintro e w1 ⟨A1, l1, cc1, rfl, hl1, hb1⟩
                have c1 := b0.trans (hb1.mono b0.size)
                have HL1 := Lib.hid hl1
                clear b0 hb1 hl1
                have hlen1 : 1000 < l1 := by rw [HL1.out]; exact HLEN.out
                go_wp2_with fail
                refine (DD.out _ hd).mono ?_
                rintro e w2 ⟨A2, l2, cc2, rfl, hl2, hb2⟩
                have c2 := c1.trans (hb2.mono c1.size)
                have HL2 := Lib.hid hl2
                clear c1 hb2 hl2
                rw [HNEG.out]
                go_wp2_with fail
                refine (SL.out _).mono ?_
                rintro e w' ⟨rfl, rfl⟩
                go_wp2_with fail
                go_ret
                exact HF.out _ c2
end Go.Proofs.Ytdjghmpaopfboaa
/- Walks: the reference of rationals: Make, Four, Cross, fraction. -/

namespace Go.Proofs.Ytdjghmpaopfboaa
open Go.RowKit

theorem rdmC {n m : Nat} {x y q r : Int} (hx : Z.Lt n x) (hy : Z.Lt m y) (h0 : y ≠ 0) (eq : x / y = q) (er : x % y = r) (hn : 0 < n) (hn' : n ≤ 1000) (hm : 0 < m) (hm' : m ≤ 1000) :
    Hid (∀ W : World, Calls Try.prog 99 #[.string (Z.S x), .string (Z.S y)] W fun e w' => e = .returned (.tuple #[.string (Z.S q), .string (Z.S r), .int .i64 0]) ∧ Below W.heap.size W w') := by
  subst eq er
  intro W
  have s1 := Z.S_size_le hx hn hn'
  have s2 := Z.S_size_le hy hm hm'
  have := rdivmod_any (Z.S x) (Z.S y) W (by omega) (by omega)
  unfold DmRet at this
  rwa [(Z.divS_S hx hy h0 hn hn' hm hm' (fun x y => x / y)).1, (Z.divS_S hx hy h0 hn hn' hm hm' (fun x y => x % y)).1, (Z.divS_S hx hy h0 hn hn' hm hm' (fun x y => x % y)).2] at this
theorem rgcdC {n m : Nat} {x y g : Int} (hx : Z.Lt n x) (hy : Z.Lt m y) (e : Z.gcdI x y = g) (hn : 0 < n) (hn' : n ≤ 1000) (hm : 0 < m) (hm' : m ≤ 1000) :
    Hid (∀ W : World, Calls Try.prog 64 #[.string (Z.S x), .string (Z.S y)] W fun e w' => e = .returned (.tuple #[.string (Z.S g), .int .i64 0]) ∧ Below W.heap.size W w') := by
  subst e
  intro W
  have s1 := Z.S_size_le hx hn hn'
  have s2 := Z.S_size_le hy hm hm'
  have := rgcd_any (Z.S x) (Z.S y) W (by omega) (by omega)
  have hg := Z.gcdI_le (hx.mono (Nat.le_max_left n m)) (hy.mono (Nat.le_max_right n m))
  have h1 := Z.opS_S (f := Z.gcdI) hx hy hg hn hn' hm hm' (by omega) (by omega)
  unfold GcdRet at this
  rwa [h1.1, (Z.cmpV_S hx hy hn hn' hm hm').2] at this
theorem negC {n : Nat} {x : Int} (hx : Z.Lt n x) (hn : 0 < n) (hn' : n ≤ 1000) :
    Hid (∀ W : World, Calls Try.prog 98 #[.string (Z.S x)] W fun e w' => e = .returned (.string (Z.S (-x))) ∧ Below W.heap.size W w') := by
  intro W
  have s1 := Z.S_size_le hx hn hn'
  have := negative_any (Z.S x) W (by omega) (by rw [Z.S_data]; exact Z.canon_txt x)
  unfold StrRet at this
  rw [Z.ival_S] at this
  exact this
set_option maxRecDepth 100000 in
set_option maxHeartbeats 8000000 in
theorem rmake_any (a b : ByteArray) (w : World) (ha : a.size ≤ 1000000) (hb : b.size ≤ 1000000) :
    Calls Try.prog 83 #[.string a, .string b] w (MakeRet a b w) := by
  have BO := Lib.hid (fun W : World => both_any a b W ha hb)
  unfold BothRet at BO
  by_cases h : Z.bothE a b = 0
  · obtain ⟨ca, cb⟩ := Z.bothE_zero h
    rw [h] at BO
    obtain ⟨x, rfl, hx⟩ := Z.int_of ca
    obtain ⟨y, rfl, hy⟩ := Z.int_of cb
    have hps := Z.S_pos y
    have hhd := Z.S_headF y
    have h48 := Z.e48 y
    have lg := Z.gcdI_le hx hy
    by_cases h0 : y = 0
    · have HF := Lib.hid (fun (w' : World) (hw : Below w.heap.size w w') => make_zero h (by rw [Z.ival_S]; exact h0) hw)
      rw [decide_eq_true h0] at h48
      clear ca cb h hx hy lg hhd hps h0
      generalize Z.S x = X at *
      generalize Z.S y = Y at *
      go_enter Try.func83, Try.ntmps83
      go_wp2_with fail
      have c0 : Below w.heap.size w w := Below.refl _ w
      refine (BO.out _).mono ?_
      rintro e w1 ⟨rfl, hb1⟩
      have c1 := c0.trans (hb1.mono c0.size)
      clear c0 hb1
      go_wp2_with fail
      go_ret2
      exact HF.out _ c1
    · have HF := Lib.hid (fun (q : Rat) (hq : _ = q) (w' : World) (hw : Below w.heap.size w w') => make_ok h (by rw [Z.ival_S]; exact h0) hq hw)
      rw [Z.ival_S, Z.ival_S] at HF
      obtain ⟨q, hq⟩ : ∃ q, Rat.divInt x y = q := ⟨_, rfl⟩
      have HFF := Lib.hid (HF.out q hq)
      have hg0 := Z.gcdI_ne (x := x) h0
      have hgn := Z.gcdI_nonneg x y
      rw [decide_eq_false h0] at h48
      have h49 := Z.e49 (q.den : Int)
      have hQ1 := Lib.hid (@Z.Q_one q)
      have hQ2 := Lib.hid (@Z.Q_frac q)
      have hdn : ((q.den : Int) = 1) ↔ q.den = 1 := by omega
      by_cases hneg : y < 0
      · have hp := Z.div_num_neg (x := x) (y := y) (by omega)
        rw [hq] at hp
        have hpn : -x / Z.gcdI x y = q.num := by rw [hp.1, Int.ediv_neg]; exact Int.neg_ediv_of_dvd (Z.gcdI_dvd_left x y)
        have hpd : -y / Z.gcdI x y = (q.den : Int) := by rw [hp.2, Int.ediv_neg]; exact Int.neg_ediv_of_dvd (Z.gcdI_dvd_right x y)
        have N1 := negC hx (by omega) (by omega)
        have N2 := negC hy (by omega) (by omega)
        have C := rgcdC hx.neg hy.neg (g := Z.gcdI x y) (by unfold Z.gcdI; rw [Int.natAbs_neg, Int.natAbs_neg]) (by omega) (by omega) (by omega) (by omega)
        have D1 := rdmC hx.neg lg hg0 hpn rfl (by omega) (by omega) (by omega) (by omega)
        have D2 := rdmC hy.neg lg hg0 hpd rfl (by omega) (by omega) (by omega) (by omega)
        have ln : (Z.S q.num).size ≤ 1001 := Z.S_size_le (n := 1000) (by rw [← hpn]; exact hx.neg.of_le (Z.div_abs_le hg0)) (by omega) (by omega)
        have ld : (Z.S (q.den : Int)).size ≤ 1001 := Z.S_size_le (n := 1000) (by rw [← hpd]; exact hy.neg.of_le (Z.div_abs_le hg0)) (by omega) (by omega)
        simp only [decide_eq_true hneg] at hhd
        clear hpn hpd
        clear ca cb h hx hy lg hp HF hq hg0 hgn hneg h0
        generalize Z.S (-x) = X' at *
        generalize Z.S (-y) = Y' at *
        generalize Z.S (-x % Z.gcdI x y) = R1 at *
        generalize Z.S (-y % Z.gcdI x y) = R2 at *
        generalize Z.S x = X at *
        generalize Z.S (Z.gcdI x y) = G at *
        generalize Z.S y = Y at *
        generalize Z.S q.num = N at *
        generalize Z.S (q.den : Int) = D at *
        have hh := hhd hps
        clear hhd
        by_cases hd : q.den = 1
        · rw [decide_eq_true (hdn.2 hd)] at h49
          have hQ := hQ1.out hd
          rw [hQ] at HFF
          clear hQ hd hdn hQ1 hQ2
          go_enter Try.func83, Try.ntmps83
          go_wp2_with fail
          have c0 : Below w.heap.size w w := Below.refl _ w
          refine (BO.out _).mono ?_
          rintro e w1 ⟨rfl, hb1⟩
          have c1 := c0.trans (hb1.mono c0.size)
          clear c0 hb1
          go_wp2_with fail
          refine (N1.out _).mono ?_
          rintro e w2 ⟨rfl, hb2⟩
          have c2 := c1.trans (hb2.mono c1.size)
          clear c1 hb2
          go_wp2_with fail
          refine (N2.out _).mono ?_
          rintro e w3 ⟨rfl, hb3⟩
          have c3 := c2.trans (hb3.mono c2.size)
          clear c2 hb3
          go_wp2_with fail
          refine (C.out _).mono ?_
          rintro e w4 ⟨rfl, hb4⟩
          have c4 := c3.trans (hb4.mono c3.size)
          clear c3 hb4
          go_wp2_with fail
          refine (D1.out _).mono ?_
          rintro e w5 ⟨rfl, hb5⟩
          have c5 := c4.trans (hb5.mono c4.size)
          clear c4 hb5
          go_wp2_with fail
          refine (D2.out _).mono ?_
          rintro e w6 ⟨rfl, hb6⟩
          have c6 := c5.trans (hb6.mono c5.size)
          clear c5 hb6
          go_wp2_with fail
          go_ret2
          exact HFF.out _ c6
        · rw [decide_eq_false (fun e => hd (hdn.1 e))] at h49
          have hQ := hQ2.out hd
          rw [hQ] at HFF
          clear hQ hd hdn hQ1 hQ2
          go_enter Try.func83, Try.ntmps83
          go_wp2_with fail
          have c0 : Below w.heap.size w w := Below.refl _ w
          refine (BO.out _).mono ?_
          rintro e w1 ⟨rfl, hb1⟩
          have c1 := c0.trans (hb1.mono c0.size)
          clear c0 hb1
          go_wp2_with fail
          refine (N1.out _).mono ?_
          rintro e w2 ⟨rfl, hb2⟩
          have c2 := c1.trans (hb2.mono c1.size)
          clear c1 hb2
          go_wp2_with fail
          refine (N2.out _).mono ?_
          rintro e w3 ⟨rfl, hb3⟩
          have c3 := c2.trans (hb3.mono c2.size)
          clear c2 hb3
          go_wp2_with fail
          refine (C.out _).mono ?_
          rintro e w4 ⟨rfl, hb4⟩
          have c4 := c3.trans (hb4.mono c3.size)
          clear c3 hb4
          go_wp2_with fail
          refine (D1.out _).mono ?_
          rintro e w5 ⟨rfl, hb5⟩
          have c5 := c4.trans (hb5.mono c4.size)
          clear c4 hb5
          go_wp2_with fail
          refine (D2.out _).mono ?_
          rintro e w6 ⟨rfl, hb6⟩
          have c6 := c5.trans (hb6.mono c5.size)
          clear c5 hb6
          go_wp2_with fail
          go_ret2
          exact HFF.out _ c6
      · have hp := Z.div_num_pos (x := x) (y := y) (by omega)
        rw [hq] at hp
        have C := rgcdC hx hy (g := Z.gcdI x y) rfl (by omega) (by omega) (by omega) (by omega)
        have D1 := rdmC hx lg hg0 hp.1.symm rfl (by omega) (by omega) (by omega) (by omega)
        have D2 := rdmC hy lg hg0 hp.2.symm rfl (by omega) (by omega) (by omega) (by omega)
        have ln : (Z.S q.num).size ≤ 1001 := Z.S_size_le (n := 1000) (by rw [hp.1]; exact hx.of_le (Z.div_abs_le hg0)) (by omega) (by omega)
        have ld : (Z.S (q.den : Int)).size ≤ 1001 := Z.S_size_le (n := 1000) (by rw [hp.2]; exact hy.of_le (Z.div_abs_le hg0)) (by omega) (by omega)
        simp only [decide_eq_false hneg] at hhd
        clear ca cb h hx hy lg hp HF hq hg0 hgn hneg h0
        generalize Z.S (x % Z.gcdI x y) = R1 at *
        generalize Z.S (y % Z.gcdI x y) = R2 at *
        generalize Z.S x = X at *
        generalize Z.S (Z.gcdI x y) = G at *
        generalize Z.S y = Y at *
        generalize Z.S q.num = N at *
        generalize Z.S (q.den : Int) = D at *
        have hh := hhd hps
        clear hhd
        by_cases hd : q.den = 1
        · rw [decide_eq_true (hdn.2 hd)] at h49
          have hQ := hQ1.out hd
          rw [hQ] at HFF
          clear hQ hd hdn hQ1 hQ2
          go_enter Try.func83, Try.ntmps83
          go_wp2_with fail
          have c0 : Below w.heap.size w w := Below.refl _ w
          refine (BO.out _).mono ?_
          rintro e w1 ⟨rfl, hb1⟩
          have c1 := c0.trans (hb1.mono c0.size)
          clear c0 hb1
          go_wp2_with fail
          refine (C.out _).mono ?_
          rintro e w2 ⟨rfl, hb2⟩
          have c2 := c1.trans (hb2.mono c1.size)
          clear c1 hb2
          go_wp2_with fail
          refine (D1.out _).mono ?_
          rintro e w3 ⟨rfl, hb3⟩
          have c3 := c2.trans (hb3.mono c2.size)
          clear c2 hb3
          go_wp2_with fail
          refine (D2.out _).mono ?_
          rintro e w4 ⟨rfl, hb4⟩
          have c4 := c3.trans (hb4.mono c3.size)
          clear c3 hb4
          go_wp2_with fail
          go_ret2
          exact HFF.out _ c4
        · rw [decide_eq_false (fun e => hd (hdn.1 e))] at h49
          have hQ := hQ2.out hd
          rw [hQ] at HFF
          clear hQ hd hdn hQ1 hQ2
          go_enter Try.func83, Try.ntmps83
          go_wp2_with fail
          have c0 : Below w.heap.size w w := Below.refl _ w
          refine (BO.out _).mono ?_
          rintro e w1 ⟨rfl, hb1⟩
          have c1 := c0.trans (hb1.mono c0.size)
          clear c0 hb1
          go_wp2_with fail
          refine (C.out _).mono ?_
          rintro e w2 ⟨rfl, hb2⟩
          have c2 := c1.trans (hb2.mono c1.size)
          clear c1 hb2
          go_wp2_with fail
          refine (D1.out _).mono ?_
          rintro e w3 ⟨rfl, hb3⟩
          have c3 := c2.trans (hb3.mono c2.size)
          clear c2 hb3
          go_wp2_with fail
          refine (D2.out _).mono ?_
          rintro e w4 ⟨rfl, hb4⟩
          have c4 := c3.trans (hb4.mono c3.size)
          clear c3 hb4
          go_wp2_with fail
          go_ret2
          exact HFF.out _ c4
  · have HF := Lib.hid (fun (w' : World) (hw : Below w.heap.size w w') => make_bad h hw)
    generalize Z.bothE a b = k at *
    have hk : (k != 0) = true := by simpa using h
    clear h
    go_enter Try.func83, Try.ntmps83
    go_wp2_with fail
    have c0 : Below w.heap.size w w := Below.refl _ w
    refine (BO.out _).mono ?_
    rintro e w1 ⟨rfl, hb1⟩
    have c1 := c0.trans (hb1.mono c0.size)
    clear c0 hb1
    go_wp2_with fail
    go_ret2
    exact HF.out _ c1
theorem four_ok (a b : ByteArray) (w : World) (ha : a.size ≤ 100000) (hb : b.size ≤ 100000) (h : Z.rbothE a b = 0) :
    Calls Try.prog 55 #[.string a, .string b] w fun e w' => e = .returned (.tuple #[.string (Z.rN a), .string (Z.rD1 a), .string (Z.rN b), .string (Z.rD1 b), .int .i64 0]) ∧ Below w.heap.size w w' := by
  have C1 := Lib.hid (fun W : World => rqcheck_any a W ha)
  have C2 := Lib.hid (fun W : World => rqcheck_any b W hb)
  have W1 := Lib.hid (fun W : World => written_any a W ha)
  have W2 := Lib.hid (fun W : World => written_any b W hb)
  unfold QchkRet at C1 C2
  unfold WrRet at W1 W2
  have h1 : Z.rchk a = 0 := by
    unfold Z.rbothE at h
    by_cases h1 : Z.rchk a = 0
    · exact h1
    · rw [if_neg h1] at h; exact absurd h h1
  have h2 : Z.rchk b = 0 := by unfold Z.rbothE at h; rw [if_pos h1] at h; exact h
  rw [h1] at C1
  rw [h2] at C2
  clear h h1 h2
  generalize Z.rN a = N at *
  generalize Z.rD1 a = D at *
  generalize Z.rN b = M at *
  generalize Z.rD1 b = E at *
  go_enter Try.func55, Try.ntmps55
  go_wp2_with fail
  have c0 : Below w.heap.size w w := Below.refl _ w
  refine (C1.out _).mono ?_
  rintro e w1 ⟨rfl, hb1⟩
  have c1 := c0.trans (hb1.mono c0.size)
  clear c0 hb1
  go_wp2_with fail
  refine (C2.out _).mono ?_
  rintro e w2 ⟨rfl, hb2⟩
  have c2 := c1.trans (hb2.mono c1.size)
  clear c1 hb2
  go_wp2_with fail
  refine (W1.out _).mono ?_
  rintro e w8 ⟨rfl, n1, rfl⟩
  go_wp2_with fail
  refine (W2.out _).mono ?_
  rintro e w9 ⟨rfl, n2, rfl⟩
  go_wp2_with fail
  refine bodyPost_ret (v := .tuple #[.string N, .string D, .string M, .string E, .int .i64 0]) (by simp [results, Try.results55, go_sem]) rfl ⟨rfl, ?_⟩
  exact c2.trans (below_of_drewN _ (n1 + n2) _)
theorem four_bad (a b : ByteArray) (w : World) (ha : a.size ≤ 100000) (hb : b.size ≤ 100000) (h : Z.rbothE a b ≠ 0) :
    Calls Try.prog 55 #[.string a, .string b] w fun e w' => e = .returned (.tuple #[.string ⟨#[]⟩, .string ⟨#[]⟩, .string ⟨#[]⟩, .string ⟨#[]⟩, .int .i64 (Z.rbothE a b)]) ∧ Below w.heap.size w w' := by
  have C1 := Lib.hid (fun W : World => rqcheck_any a W ha)
  have C2 := Lib.hid (fun W : World => rqcheck_any b W hb)
  unfold QchkRet at C1 C2
  unfold Z.rbothE at *
  by_cases h1 : Z.rchk a = 0
  · rw [if_pos h1] at h ⊢
    rw [h1] at C1
    generalize Z.rchk b = k at *
    have hk : (k != 0) = true := by simpa using h
    clear h h1
    go_enter Try.func55, Try.ntmps55
    go_wp2_with fail
    have c0 : Below w.heap.size w w := Below.refl _ w
    refine (C1.out _).mono ?_
    rintro e w1 ⟨rfl, hb1⟩
    have c1 := c0.trans (hb1.mono c0.size)
    clear c0 hb1
    go_wp2_with fail
    refine (C2.out _).mono ?_
    rintro e w2 ⟨rfl, hb2⟩
    have c2 := c1.trans (hb2.mono c1.size)
    clear c1 hb2
    go_wp2_with fail
    refine (C2.out _).mono ?_
    rintro e w3 ⟨rfl, hb3⟩
    have c3 := c2.trans (hb3.mono c2.size)
    clear c2 hb3
    go_wp2_with fail
    exact bodyPost_ret (v := .tuple #[.string ⟨#[]⟩, .string ⟨#[]⟩, .string ⟨#[]⟩, .string ⟨#[]⟩, .int .i64 k]) (by simp [results, Try.results55, go_sem]) rfl ⟨rfl, c3⟩
  · rw [if_neg h1] at h ⊢
    generalize Z.rchk a = k at *
    have hk : (k != 0) = true := by simpa using h
    clear h h1
    go_enter Try.func55, Try.ntmps55
    go_wp2_with fail
    have c0 : Below w.heap.size w w := Below.refl _ w
    refine (C1.out _).mono ?_
    rintro e w1 ⟨rfl, hb1⟩
    have c1 := c0.trans (hb1.mono c0.size)
    clear c0 hb1
    go_wp2_with fail
    refine (C1.out _).mono ?_
    rintro e w2 ⟨rfl, hb2⟩
    have c2 := c1.trans (hb2.mono c1.size)
    clear c1 hb2
    go_wp2_with fail
    exact bodyPost_ret (v := .tuple #[.string ⟨#[]⟩, .string ⟨#[]⟩, .string ⟨#[]⟩, .string ⟨#[]⟩, .int .i64 k]) (by simp [results, Try.results55, go_sem]) rfl ⟨rfl, c2⟩
end Go.Proofs.Ytdjghmpaopfboaa
