/- Q1: Qa Qb Qc Qd Qe -/
import Derived.Test.YtdjghmpaopfboaaZr
import Derived.Test.YtdjghmpaopfboaaRops
import Derived.Test.YtdjghmpaopfboaaIl
import Derived.Test.YtdjghmpaopfboaaShelf
import Derived.Test.YtdjghmpaopfboaaR1
import Derived.Deep.RegionHeld3
import Derived.Laws.EntriesVeiled
/- Walks: rational.split, form, Check, Parts. -/

namespace Go.Proofs.Ytdjghmpaopfboaa
open Go.RowKit

/-- The library's variable that strings.Cut looks at holds some int. -/
def HasV (w : World) : Prop := ∃ m : Int, w.cell? ⟨0, 0, none⟩ = some (.int .i64 m)
theorem HasV.below {w w' : World} (h : HasV w) (hb : Below w.heap.size w w') : HasV w' := by
  obtain ⟨m, hm⟩ := h
  exact ⟨m, (hb.cell (World.block_lt_of_cell? w _ hm)).trans hm⟩
def SplitRet (s : ByteArray) (w : World) (e : Ending) (w' : World) : Prop := e = .returned (.tuple #[.string (Z.rN s), .string (Z.rD s), .bool (Z.rF s)]) ∧ ∃ n, w' = w.drewN n
theorem split_any (s : ByteArray) (w : World) (hv : HasV w) (hs : s.size ≤ 100000) : Calls Try.prog 65 #[.string s] w (SplitRet s w) := by
  obtain ⟨m, hm⟩ := hv
  have C := Try.strings_Cut s ⟨#[47]⟩ m w (by omega) hm
  have C' : Hid (Calls Try.prog 87 #[.string s, .string ⟨#[47]⟩] w fun e w' => e = .returned (.tuple #[.string (Z.rN s), .string (Z.rD s), .bool (Z.rF s)]) ∧ ∃ n, w' = w.drewN n) := C
  clear C hm
  unfold SplitRet
  generalize Z.rN s = x at *
  generalize Z.rD s = y at *
  generalize Z.rF s = f at *
  go_enter Try.func65, Try.ntmps65
  go_wp2_with fail
  refine C'.out.mono ?_
  rintro e w' ⟨rfl, n, rfl⟩
  go_wp2_with fail
  go_ret3
  exact ⟨rfl, n, rfl⟩
namespace Z
def formE (l : List UInt8) : Int := if canon l then 0 else 12
theorem formE_chk (l : List UInt8) : formE l = if chk l = 14 then 0 else chk l := by
  unfold formE chk
  split
  · split
    · rfl
    · rfl
  · rfl
end Z
theorem form_any (s : ByteArray) (w : World) (hs : s.size ≤ maxLen) : Calls Try.prog 66 #[.string s] w fun e w' => e = .returned (.int .i64 (Z.formE s.data.toList)) ∧ w = w' := by
  have C := Lib.hid (check_any s w hs)
  rw [Z.formE_chk]
  by_cases h : Z.chk s.data.toList = 14
  · rw [if_pos h]
    rw [h] at C
    clear h
    go_enter Try.func66, Try.ntmps66
    go_wp2_with fail
    refine C.out.mono ?_
    rintro e w' ⟨rfl, rfl⟩
    go_wp2_with fail
    go_ret
    exact ⟨rfl, rfl⟩
  · rw [if_neg h]
    generalize Z.chk s.data.toList = k at *
    have hk : (k != 14) = true := by simpa using h
    clear h
    go_enter Try.func66, Try.ntmps66
    go_wp2_with fail
    refine C.out.mono ?_
    rintro e w' ⟨rfl, rfl⟩
    go_wp2_with fail
    go_ret
    exact ⟨rfl, rfl⟩
theorem Z.cut_size (s : ByteArray) : (Z.rN s).size ≤ s.size ∧ (Z.rD s).size ≤ s.size := by
  rw [Lib.size_eq, Lib.size_eq, Lib.size_eq]
  unfold Z.rN Z.rD
  rw [Z.data_ofL, Z.data_ofL]
  cases hf : (Z.cutR s.data.toList).2.2
  · have h1 := Z.cutR_whole hf
    have h2 : (Z.cutR s.data.toList).2.1 = [] := by
      unfold Z.cutR Lib.cut at *
      split at hf
      · cases hf
      · rename_i hh; rw [if_neg hh]
    rw [h1, h2]; simp
  · have h1 := congrArg List.length (Z.cutR_join hf)
    rw [List.length_append, List.length_cons] at h1
    show (Z.cutR s.data.toList).1.length ≤ s.data.toList.length ∧ (Z.cutR s.data.toList).2.1.length ≤ s.data.toList.length
    have h2 : s.data.toList.length = (Z.cutR s.data.toList).1.length + ((Z.cutR s.data.toList).2.1.length + 1) := h1
    omega
def QchkRet (s : ByteArray) (w : World) (e : Ending) (w' : World) : Prop := e = .returned (.int .i64 (Z.rchk s)) ∧ Below w.heap.size w w'
theorem qchk_bad {s : ByteArray} {w w' : World} (h : Z.rbad s = true) (hb : Below w.heap.size w w') : QchkRet s w (.returned (.int .i64 12)) w' := by
  unfold QchkRet Z.rchk; rw [h]; exact ⟨rfl, hb⟩
theorem qchk_big {s : ByteArray} {w w' : World} (h : Z.rbad s = false) (h' : Z.rbig s = true) (hb : Below w.heap.size w w') : QchkRet s w (.returned (.int .i64 14)) w' := by
  unfold QchkRet Z.rchk; rw [h, h']; exact ⟨rfl, hb⟩
theorem qchk_gcd {s : ByteArray} {w w' : World} (h : Z.rbad s = false) (h' : Z.rbig s = false) (hf : Z.rF s = true) (hg : Z.gcdI (Z.rn s) (Z.rd s) ≠ 1) (hb : Below w.heap.size w w') : QchkRet s w (.returned (.int .i64 12)) w' := by
  unfold QchkRet Z.rchk; rw [h, h', hf]; simp [hg]; exact hb
theorem qchk_ok {s : ByteArray} {w w' : World} (h : Z.rbad s = false) (h' : Z.rbig s = false) (hg : Z.rF s = true → Z.gcdI (Z.rn s) (Z.rd s) = 1) (hb : Below w.heap.size w w') : QchkRet s w (.returned (.int .i64 0)) w' := by
  unfold QchkRet Z.rchk; rw [h, h']
  cases hf : Z.rF s
  · simp; exact hb
  · simp [hg hf]; exact hb
set_option maxRecDepth 100000 in
set_option maxHeartbeats 4000000 in
theorem qcheck_any (s : ByteArray) (w : World) (hv : HasV w) (hs : s.size ≤ 100000) : Calls Try.prog 46 #[.string s] w (QchkRet s w) := by
  have hsz := Z.cut_size s
  have SP := Lib.hid (split_any s w hv hs)
  have FN := Lib.hid (fun W : World => form_any (Z.rN s) W (by unfold maxLen; omega))
  have FD := Lib.hid (fun W : World => form_any (Z.rD s) W (by unfold maxLen; omega))
  have CN := Lib.hid (fun W : World => check_any (Z.rN s) W (by unfold maxLen; omega))
  have CD := Lib.hid (fun W : World => check_any (Z.rD s) W (by unfold maxLen; omega))
  have GC := Lib.hid (fun W : World => gcd_any (Z.rN s) (Z.rD s) W (by unfold maxLen; omega) (by unfold maxLen; omega))
  have B1 := Lib.hid (fun w' => @qchk_bad s w w')
  have B2 := Lib.hid (fun w' => @qchk_big s w w')
  have B3 := Lib.hid (fun w' => @qchk_gcd s w w')
  have B4 := Lib.hid (fun w' => @qchk_ok s w w')
  have E1 : Hid (Z.rbad s = (!Z.canon (Z.rN s).data.toList || (Z.rF s && (!Z.canon (Z.rD s).data.toList || Z.isNeg (Z.rD s).data.toList || decide (Z.rd s = 0) || decide (Z.rd s = 1))))) := rfl
  have E2 : Hid (Z.rbig s = (!decide (Z.chk (Z.rN s).data.toList = 0) || (Z.rF s && !decide (Z.chk (Z.rD s).data.toList = 0)))) := rfl
  have E3 : Hid (Z.rd s = if Z.rF s then Z.ival (Z.rD s).data.toList else 1) := rfl
  have E4 : Hid (Z.rn s = Z.ival (Z.rN s).data.toList) := rfl
  unfold SplitRet at SP
  unfold Z.formE at FN FD
  unfold GcdRet at GC
  clear hv hs
  cases hn : Z.canon (Z.rN s).data.toList
  · have hb : Z.rbad s = true := by rw [E1.out, hn]; rfl
    have HF := Lib.hid (fun w' hw => B1.out w' hb hw)
    rw [hn] at FN
    simp only [Bool.false_eq_true, if_false] at FN
    clear hn hb B1 B2 B3 B4 E1 E2 E3 E4 hsz
    generalize Z.rN s = N at *
    generalize Z.rD s = D at *
    generalize Z.rF s = f at *
    go_enter Try.func46, Try.ntmps46
    go_wp2_with fail
    refine SP.out.mono ?_
    rintro e w' ⟨rfl, n, rfl⟩
    go_wp2_with fail
    refine (FN.out _).mono ?_
    rintro e w' ⟨rfl, rfl⟩
    go_wp2_with fail
    go_ret
    exact HF.out _ (below_of_drewN _ _ _)
  · rw [hn] at FN
    simp only [if_true] at FN
    cases hf : Z.rF s
    · have hb : Z.rbad s = false := by rw [E1.out, hn, hf]; rfl
      rw [hf] at SP
      by_cases hk : Z.chk (Z.rN s).data.toList = 0
      · have hg : Z.rbig s = false := by rw [E2.out, hk, hf]; rfl
        have HF := Lib.hid (fun w' hw => B4.out w' hb hg (fun h => by rw [hf] at h; cases h) hw)
        rw [hk] at CN
        clear hn hb hf hk hg B1 B2 B3 B4 E1 E2 E3 E4 hsz
        generalize Z.rN s = N at *
        generalize Z.rD s = D at *
        go_enter Try.func46, Try.ntmps46
        go_wp2_with fail
        refine SP.out.mono ?_
        rintro e w' ⟨rfl, n, rfl⟩
        go_wp2_with fail
        refine (FN.out _).mono ?_
        rintro e w' ⟨rfl, rfl⟩
        go_wp2_with fail
        refine (CN.out _).mono ?_
        rintro e w' ⟨rfl, rfl⟩
        go_wp2_with fail
        go_ret
        exact HF.out _ (below_of_drewN _ _ _)
      · have hg : Z.rbig s = true := by rw [E2.out, decide_eq_false hk]; rfl
        have HF := Lib.hid (fun w' hw => B2.out w' hb hg hw)
        generalize Z.chk (Z.rN s).data.toList = kn at *
        have hkb : (kn != 0) = true := by simpa using hk
        clear hn hb hf hk hg B1 B2 B3 B4 E1 E2 E3 E4 hsz
        generalize Z.rN s = N at *
        generalize Z.rD s = D at *
        go_enter Try.func46, Try.ntmps46
        go_wp2_with fail
        refine SP.out.mono ?_
        rintro e w' ⟨rfl, n, rfl⟩
        go_wp2_with fail
        refine (FN.out _).mono ?_
        rintro e w' ⟨rfl, rfl⟩
        go_wp2_with fail
        refine (CN.out _).mono ?_
        rintro e w' ⟨rfl, rfl⟩
        go_wp2_with fail
        go_ret
        exact HF.out _ (below_of_drewN _ _ _)
    · rw [hf] at SP
      cases hd : Z.canon (Z.rD s).data.toList
      · have hb : Z.rbad s = true := by rw [E1.out, hn, hf, hd]; rfl
        have HF := Lib.hid (fun w' hw => B1.out w' hb hw)
        rw [hd] at FD
        simp only [Bool.false_eq_true, if_false] at FD
        clear hn hb hf B1 B2 B3 B4 E1 E2 E3 E4 hsz hd
        generalize Z.rN s = N at *
        generalize Z.rD s = D at *
        go_enter Try.func46, Try.ntmps46
        go_wp2_with fail
        refine SP.out.mono ?_
        rintro e w' ⟨rfl, n, rfl⟩
        go_wp2_with fail
        refine (FN.out _).mono ?_
        rintro e w' ⟨rfl, rfl⟩
        go_wp2_with fail
        refine (FD.out _).mono ?_
        rintro e w' ⟨rfl, rfl⟩
        go_wp2_with fail
        go_ret
        exact HF.out _ (below_of_drewN _ _ _)
      · rw [hd] at FD
        simp only [if_true] at FD
        have hv : Z.rd s = Z.ival (Z.rD s).data.toList := by rw [E3.out, hf]; rfl
        have hD : Z.rD s = Z.S (Z.rd s) := by rw [hv]; exact (Z.S_of hd).symm
        have hng : Z.isNeg (Z.rD s).data.toList = decide (Z.rd s < 0) := by rw [Z.isNeg_ival hd, hv]
        have hps : 0 < (Z.rD s).size := by rw [hD]; exact Z.S_pos _
        have hhd : ∀ h : 0 < (Z.rD s).size, ((((Z.rD s)[0]'h).toNat : Int) == 45) = decide (Z.rd s < 0) := by rw [hD]; exact Z.S_headF _
        have e48 : ((Z.rD s).toList == [48]) = decide (Z.rd s = 0) := by
          rw [hD]
          by_cases h : Z.rd s = 0
          · rw [h, Z.S_zero, Lib.toList_data]; rfl
          · rw [Z.S_ne_zero h]; simp [h]
        have e49 : ((Z.rD s).toList == [49]) = decide (Z.rd s = 1) := by
          rw [hD]
          by_cases h : Z.rd s = 1
          · rw [h, Z.S_one, Lib.toList_data]; rfl
          · have := Z.S_beq h
            rw [Z.S_one, Lib.toList_data ⟨#[49]⟩] at this
            rw [show ((Z.S (Z.rd s)).toList == [49]) = false from this]; simp [h]
        clear hD
        rw [hng] at E1
        by_cases hneg : Z.rd s < 0
        · have hb : Z.rbad s = true := by rw [E1.out, hn, hf, hd]; simp [hneg]
          have HF := Lib.hid (fun w' hw => B1.out w' hb hw)
          simp only [decide_eq_true hneg] at hhd
          clear hv hng
          generalize Z.rd s = v at *
          clear hn hb hf B1 B2 B3 B4 E1 E2 E3 E4 hsz hd
          generalize hQ : decide (v = 0) = q0 at *
          generalize decide (v = 1) = q1 at *
          clear hQ hneg
          generalize Z.rN s = N at *
          generalize Z.rD s = D at *
          have hh := hhd hps
          clear hhd
          go_enter Try.func46, Try.ntmps46
          go_wp2_with fail
          refine SP.out.mono ?_
          rintro e w' ⟨rfl, n, rfl⟩
          go_wp2_with fail
          refine (FN.out _).mono ?_
          rintro e w' ⟨rfl, rfl⟩
          go_wp2_with fail
          refine (FD.out _).mono ?_
          rintro e w' ⟨rfl, rfl⟩
          go_wp2_with fail
          go_ret
          exact HF.out _ (below_of_drewN _ _ _)
        · skip
          by_cases h0 : Z.rd s = 0
          · have hb : Z.rbad s = true := by rw [E1.out, hn, hf, hd]; simp [h0]
            have HF := Lib.hid (fun w' hw => B1.out w' hb hw)
            simp only [decide_eq_false hneg] at hhd
            rw [decide_eq_true h0] at e48
            clear hv hng
            generalize Z.rd s = v at *
            clear hn hb hf B1 B2 B3 B4 E1 E2 E3 E4 hsz hd
            clear e49 h0 hneg
            generalize Z.rN s = N at *
            generalize Z.rD s = D at *
            have hh := hhd hps
            clear hhd
            go_enter Try.func46, Try.ntmps46
            go_wp2_with fail
            refine SP.out.mono ?_
            rintro e w' ⟨rfl, n, rfl⟩
            go_wp2_with fail
            refine (FN.out _).mono ?_
            rintro e w' ⟨rfl, rfl⟩
            go_wp2_with fail
            refine (FD.out _).mono ?_
            rintro e w' ⟨rfl, rfl⟩
            go_wp2_with fail
            go_ret
            exact HF.out _ (below_of_drewN _ _ _)
          · skip
            by_cases h1 : Z.rd s = 1
            · have hb : Z.rbad s = true := by rw [E1.out, hn, hf, hd]; simp [h1]
              have HF := Lib.hid (fun w' hw => B1.out w' hb hw)
              simp only [decide_eq_false hneg] at hhd
              rw [decide_eq_false h0] at e48
              rw [decide_eq_true h1] at e49
              clear hv hng
              generalize Z.rd s = v at *
              clear hn hb hf B1 B2 B3 B4 E1 E2 E3 E4 hsz hd
              clear h1 h0 hneg
              generalize Z.rN s = N at *
              generalize Z.rD s = D at *
              have hh := hhd hps
              clear hhd
              go_enter Try.func46, Try.ntmps46
              go_wp2_with fail
              refine SP.out.mono ?_
              rintro e w' ⟨rfl, n, rfl⟩
              go_wp2_with fail
              refine (FN.out _).mono ?_
              rintro e w' ⟨rfl, rfl⟩
              go_wp2_with fail
              refine (FD.out _).mono ?_
              rintro e w' ⟨rfl, rfl⟩
              go_wp2_with fail
              go_ret
              exact HF.out _ (below_of_drewN _ _ _)
            · skip
              have hb : Z.rbad s = false := by rw [E1.out, hn, hf, hd]; simp [hneg, h0, h1]
              simp only [decide_eq_false hneg] at hhd
              rw [decide_eq_false h0] at e48
              rw [decide_eq_false h1] at e49
              by_cases hk : Z.chk (Z.rN s).data.toList = 0
              · skip
                by_cases hkd : Z.chk (Z.rD s).data.toList = 0
                · skip
                  have hg : Z.rbig s = false := by rw [E2.out, hf, hk, hkd]; rfl
                  have hbo := Z.bothE_ok hk hkd
                  have hop : Z.opS Z.gcdI (Z.rN s) (Z.rD s) = Z.S (Z.gcdI (Z.rn s) (Z.rd s)) := by
                    unfold Z.opS
                    rw [if_pos hbo, ← hv, ← E4.out]
                    have := Z.gcd_size hbo
                    rw [← hv, ← E4.out] at this
                    unfold Z.resS
                    rw [if_neg (by omega)]; rfl
                  rw [hop, hbo] at GC
                  rw [hk] at CN
                  rw [hkd] at CD
                  clear hop hbo
                  by_cases hgc : Z.gcdI (Z.rn s) (Z.rd s) = 1
                  · have HF := Lib.hid (fun w' hw => B4.out w' hb hg (fun _ => hgc) hw)
                    rw [hgc, Z.S_one] at GC
                    clear hv hng hneg h0 h1 hgc
                    generalize Z.rd s = v at *
                    generalize Z.rn s = u at *
                    clear hn hb hf B1 B2 B3 B4 E1 E2 E3 E4 hsz hd hk hkd hg
                    generalize Z.rN s = N at *
                    generalize Z.rD s = D at *
                    have hh := hhd hps
                    clear hhd
                    go_enter Try.func46, Try.ntmps46
                    go_wp2_with fail
                    refine SP.out.mono ?_
                    rintro e w' ⟨rfl, n, rfl⟩
                    go_wp2_with fail
                    refine (FN.out _).mono ?_
                    rintro e w' ⟨rfl, rfl⟩
                    go_wp2_with fail
                    refine (FD.out _).mono ?_
                    rintro e w' ⟨rfl, rfl⟩
                    go_wp2_with fail
                    refine (CN.out _).mono ?_
                    rintro e w' ⟨rfl, rfl⟩
                    go_wp2_with fail
                    refine (CD.out _).mono ?_
                    rintro e w' ⟨rfl, rfl⟩
                    go_wp2_with fail
                    refine (GC.out _).mono ?_
                    rintro e w2 ⟨rfl, hb2⟩
                    go_wp2_with fail
                    go_ret
                    exact HF.out _ ((below_of_drewN _ _ _).trans hb2)
                  · have HF := Lib.hid (fun w' hw => B3.out w' hb hg hf hgc hw)
                    have e491 : ((Z.S (Z.gcdI (Z.rn s) (Z.rd s))).toList == [49]) = false := by
                      have := Z.S_beq hgc
                      rw [Z.S_one, Lib.toList_data ⟨#[49]⟩] at this
                      exact this
                    generalize Z.S (Z.gcdI (Z.rn s) (Z.rd s)) = GG at *
                    clear hv hng hneg h0 h1 hgc
                    generalize Z.rd s = v at *
                    generalize Z.rn s = u at *
                    clear hn hb hf B1 B2 B3 B4 E1 E2 E3 E4 hsz hd hk hkd hg
                    generalize Z.rN s = N at *
                    generalize Z.rD s = D at *
                    have hh := hhd hps
                    clear hhd
                    go_enter Try.func46, Try.ntmps46
                    go_wp2_with fail
                    refine SP.out.mono ?_
                    rintro e w' ⟨rfl, n, rfl⟩
                    go_wp2_with fail
                    refine (FN.out _).mono ?_
                    rintro e w' ⟨rfl, rfl⟩
                    go_wp2_with fail
                    refine (FD.out _).mono ?_
                    rintro e w' ⟨rfl, rfl⟩
                    go_wp2_with fail
                    refine (CN.out _).mono ?_
                    rintro e w' ⟨rfl, rfl⟩
                    go_wp2_with fail
                    refine (CD.out _).mono ?_
                    rintro e w' ⟨rfl, rfl⟩
                    go_wp2_with fail
                    refine (GC.out _).mono ?_
                    rintro e w2 ⟨rfl, hb2⟩
                    go_wp2_with fail
                    go_ret
                    exact HF.out _ ((below_of_drewN _ _ _).trans hb2)
                · have hg : Z.rbig s = true := by rw [E2.out, hf, decide_eq_false hkd]; simp
                  have HF := Lib.hid (fun w' hw => B2.out w' hb hg hw)
                  rw [hk] at CN
                  clear hv hng hneg h0 h1
                  generalize Z.rd s = v at *
                  generalize Z.chk (Z.rD s).data.toList = kd at *
                  have hkb : (kd != 0) = true := by simpa using hkd
                  clear hn hb hf B1 B2 B3 B4 E1 E2 E3 E4 hsz hd hk hkd hg
                  generalize Z.rN s = N at *
                  generalize Z.rD s = D at *
                  have hh := hhd hps
                  clear hhd
                  go_enter Try.func46, Try.ntmps46
                  go_wp2_with fail
                  refine SP.out.mono ?_
                  rintro e w' ⟨rfl, n, rfl⟩
                  go_wp2_with fail
                  refine (FN.out _).mono ?_
                  rintro e w' ⟨rfl, rfl⟩
                  go_wp2_with fail
                  refine (FD.out _).mono ?_
                  rintro e w' ⟨rfl, rfl⟩
                  go_wp2_with fail
                  refine (CN.out _).mono ?_
                  rintro e w' ⟨rfl, rfl⟩
                  go_wp2_with fail
                  refine (CD.out _).mono ?_
                  rintro e w' ⟨rfl, rfl⟩
                  go_wp2_with fail
                  go_ret
                  exact HF.out _ (below_of_drewN _ _ _)
              · have hg : Z.rbig s = true := by rw [E2.out, decide_eq_false hk]; rfl
                have HF := Lib.hid (fun w' hw => B2.out w' hb hg hw)
                clear hv hng hneg h0 h1
                generalize Z.rd s = v at *
                generalize Z.chk (Z.rN s).data.toList = kn at *
                have hkb : (kn != 0) = true := by simpa using hk
                clear hn hb hf B1 B2 B3 B4 E1 E2 E3 E4 hsz hd hk hg
                generalize Z.rN s = N at *
                generalize Z.rD s = D at *
                have hh := hhd hps
                clear hhd
                go_enter Try.func46, Try.ntmps46
                go_wp2_with fail
                refine SP.out.mono ?_
                rintro e w' ⟨rfl, n, rfl⟩
                go_wp2_with fail
                refine (FN.out _).mono ?_
                rintro e w' ⟨rfl, rfl⟩
                go_wp2_with fail
                refine (FD.out _).mono ?_
                rintro e w' ⟨rfl, rfl⟩
                go_wp2_with fail
                refine (CN.out _).mono ?_
                rintro e w' ⟨rfl, rfl⟩
                go_wp2_with fail
                go_ret
                exact HF.out _ (below_of_drewN _ _ _)
end Go.Proofs.Ytdjghmpaopfboaa
/- Walks: rational.Parts, Make, Of, Ratio. -/

namespace Go.Proofs.Ytdjghmpaopfboaa
open Go.RowKit

theorem parts_bad (s : ByteArray) (w : World) (hv : HasV w) (hs : s.size ≤ 100000) (h : Z.rchk s ≠ 0) :
    Calls Try.prog 70 #[.string s] w fun e w' => e = .returned (.tuple #[.string ⟨#[]⟩, .string ⟨#[]⟩, .int .i64 (Z.rchk s)]) ∧ Below w.heap.size w w' := by
  have C := Lib.hid (qcheck_any s w hv hs)
  unfold QchkRet at C
  generalize Z.rchk s = k at *
  have hk : (k != 0) = true := by simpa using h
  clear h hv
  go_enter Try.func70, Try.ntmps70
  go_wp2_with fail
  refine C.out.mono ?_
  rintro e w1 ⟨rfl, hb1⟩
  go_wp2_with fail
  go_ret3
  exact ⟨rfl, hb1⟩
theorem parts_ok (s : ByteArray) (w : World) (hv : HasV w) (hs : s.size ≤ 100000) (h : Z.rchk s = 0) :
    Calls Try.prog 70 #[.string s] w fun e w' => e = .returned (.tuple #[.string (Z.rN s), .string (Z.rD1 s), .int .i64 0]) ∧ Below w.heap.size w w' := by
  have C := Lib.hid (qcheck_any s w hv hs)
  have SP := Lib.hid (fun (W : World) (h : HasV W) => split_any s W h hs)
  have HV := Lib.hid hv
  unfold QchkRet at C
  unfold SplitRet at SP
  unfold Z.rD1
  rw [h] at C
  clear h hv
  generalize Z.rN s = N at *
  generalize Z.rD s = D at *
  cases hf : Z.rF s
  all_goals
    rw [hf] at SP
    clear hf
    go_enter Try.func70, Try.ntmps70
    go_wp2_with fail
    refine C.out.mono ?_
    rintro e w1 ⟨rfl, hb1⟩
    have hv1 := HV.out.below hb1
    have HV1 := Lib.hid hv1
    clear hv1
    go_wp2_with fail
    refine (SP.out _ HV1.out).mono ?_
    rintro e w' ⟨rfl, n, rfl⟩
    go_wp2_with fail
    go_ret3
    exact ⟨rfl, hb1.trans (below_of_drewN _ _ _)⟩
def MakeRet (a b : ByteArray) (w : World) (e : Ending) (w' : World) : Prop := e = .returned (.tuple #[.string (Z.makeS a b), .int .i64 (Z.makeE a b)]) ∧ Below w.heap.size w w'
theorem make_bad {a b : ByteArray} {w w' : World} (h : Z.bothE a b ≠ 0) (hb : Below w.heap.size w w') : MakeRet a b w (.returned (.tuple #[.string ⟨#[]⟩, .int .i64 (Z.bothE a b)])) w' := by
  unfold MakeRet Z.makeS Z.makeE
  rw [if_neg h, if_neg h]; exact ⟨rfl, hb⟩
theorem make_zero {a b : ByteArray} {w w' : World} (h : Z.bothE a b = 0) (hy : Z.ival b.data.toList = 0) (hb : Below w.heap.size w w') : MakeRet a b w (.returned (.tuple #[.string ⟨#[]⟩, .int .i64 16])) w' := by
  unfold MakeRet Z.makeS Z.makeE
  rw [if_pos h, if_pos hy]; exact ⟨rfl, hb⟩
theorem make_ok {a b : ByteArray} {w w' : World} {q : Rat} (h : Z.bothE a b = 0) (hy : Z.ival b.data.toList ≠ 0) (hq : Rat.divInt (Z.ival a.data.toList) (Z.ival b.data.toList) = q) (hb : Below w.heap.size w w') :
    MakeRet a b w (.returned (.tuple #[.string (Z.Q q), .int .i64 0])) w' := by
  subst hq
  unfold MakeRet Z.makeS Z.makeE
  rw [if_pos h, if_neg hy, if_pos rfl]; exact ⟨rfl, hb⟩
namespace Z
theorem lt_of_mags {a : ByteArray} {n : Nat} (hc : canon a.data.toList = true) (hl : (mags a.data.toList).length ≤ n) : Lt n (ival a.data.toList) := by
  unfold Lt
  have hp := canon_parts hc
  have h1 : natOf (mags a.data.toList) < 10 ^ (mags a.data.toList).length := natOf_lt (List.all_eq_true.1 hp.all)
  rw [natAbs_ival]
  exact Nat.lt_of_lt_of_le h1 (Nat.pow_le_pow_right (by omega) hl)
/-- A string without error is an integer's text, of at most 1,000 digits. -/
theorem int_of {a : ByteArray} (h : chk a.data.toList = 0) : ∃ x, a = S x ∧ Lt 1000 x :=
  ⟨_, (S_of (chk_zero_iff.1 h).1).symm, lt_of_mags (chk_zero_iff.1 h).1 (chk_zero_iff.1 h).2⟩
theorem S_minus {z : Int} (h : 0 ≤ z) (h0 : z ≠ 0) : (⟨#[45]⟩ : ByteArray) ++ S z = S (-z) := by
  apply ba_of
  rw [ByteArray.data_append, Array.toList_append, S_data, S_data]
  unfold txt
  rw [if_neg (by omega), if_pos (by omega), Int.natAbs_neg]
  rfl
theorem S_size_le {n : Nat} {x : Int} (h : Lt n x) (hn : 0 < n) (hn' : n ≤ 1000) : (S x).size ≤ 1001 := by
  have h1 := chk_size (h.chk hn hn')
  rwa [← Lib.size_eq] at h1
theorem e49 (v : Int) : ((S v).toList == [49]) = decide (v = 1) := by
  by_cases h : v = 1
  · rw [h, S_one, Lib.toList_data]; rfl
  · have := S_beq h
    rw [S_one, Lib.toList_data ⟨#[49]⟩] at this
    rw [show ((S v).toList == [49]) = false from this]; simp [h]
theorem e48 (v : Int) : ((S v).toList == [48]) = decide (v = 0) := by
  by_cases h : v = 0
  · rw [h, S_zero, Lib.toList_data]; rfl
  · rw [S_ne_zero h]; simp [h]
end Z
set_option maxRecDepth 100000 in
set_option maxHeartbeats 4000000 in
theorem make_any (a b : ByteArray) (w : World) (ha : a.size ≤ maxLen) (hb : b.size ≤ maxLen) :
    Calls Try.prog 76 #[.string a, .string b] w (MakeRet a b w) := by
  by_cases h : Z.bothE a b = 0
  · obtain ⟨ca, cb⟩ := Z.bothE_zero h
    obtain ⟨x, rfl, hx⟩ := Z.int_of ca
    obtain ⟨y, rfl, hy⟩ := Z.int_of cb
    have C := gcdC hx hy rfl (by omega) (by omega) (by omega) (by omega)
    have hps := Z.S_pos y
    have hhd := Z.S_headF y
    have h48 := Z.e48 y
    have lg := Z.gcdI_le hx hy
    by_cases h0 : y = 0
    · have HF := Lib.hid (fun (w' : World) (hw : Below w.heap.size w w') => make_zero h (by rw [Z.ival_S]; exact h0) hw)
      rw [decide_eq_true h0] at h48
      clear ca cb h hx hy lg hhd hps h0
      generalize Z.S x = X at *
      generalize Z.S (Z.gcdI x y) = G at *
      generalize Z.S y = Y at *
      go_enter Try.func76, Try.ntmps76
      go_wp2_with fail
      refine (C.out _).mono ?_
      rintro e w1 ⟨rfl, hb1⟩
      go_wp2_with fail
      go_ret2
      exact HF.out _ hb1
    · have HF := Lib.hid (fun (q : Rat) (hq : _ = q) (w' : World) (hw : Below w.heap.size w w') => make_ok h (by rw [Z.ival_S]; exact h0) hq hw)
      rw [Z.ival_S, Z.ival_S] at HF
      obtain ⟨q, hq⟩ : ∃ q, Rat.divInt x y = q := ⟨_, rfl⟩
      have HFF := Lib.hid (HF.out q hq)
      have hg0 := Z.gcdI_ne (x := x) h0
      have hgn := Z.gcdI_nonneg x y
      rw [decide_eq_false h0] at h48
      have h49 := Z.e49 (q.den : Int)
      have hQ1 := Lib.hid (@Z.Q_one q)
      have hQ2 := Lib.hid (@Z.Q_frac q)
      have hdn : ((q.den : Int) = 1) ↔ q.den = 1 := by omega
      by_cases hneg : y < 0
      · have hp := Z.div_num_neg (x := x) hneg
        rw [hq] at hp
        have D1 := dmC hx lg.neg (by omega) hp.1.symm rfl (by omega) (by omega) (by omega) (by omega)
        have D2 := dmC hy lg.neg (by omega) hp.2.symm rfl (by omega) (by omega) (by omega) (by omega)
        have ln : (Z.S q.num).size ≤ 1001 := Z.S_size_le (n := 1000) (by rw [hp.1]; exact hx.of_le (Z.div_abs_le (by omega))) (by omega) (by omega)
        have ld : (Z.S (q.den : Int)).size ≤ 1001 := Z.S_size_le (n := 1000) (by rw [hp.2]; exact hy.of_le (Z.div_abs_le (by omega))) (by omega) (by omega)
        have hmn := Lib.hid (Z.S_minus hgn hg0)
        have lgs := Z.S_size_le lg (by omega) (by omega)
        simp only [decide_eq_true hneg] at hhd
        clear ca cb h hx hy lg hp HF hq hg0 hgn hneg h0
        generalize Z.S x = X at *
        generalize Z.S (Z.gcdI x y) = G at *
        generalize Z.S (-Z.gcdI x y) = G' at *
        generalize Z.S (x % -Z.gcdI x y) = R1 at *
        generalize Z.S (y % -Z.gcdI x y) = R2 at *
        generalize Z.S y = Y at *
        generalize Z.S q.num = N at *
        generalize Z.S (q.den : Int) = D at *
        have hh := hhd hps
        clear hhd
        by_cases hd : q.den = 1
        · rw [decide_eq_true (hdn.2 hd)] at h49
          have hQ := hQ1.out hd
          rw [hQ] at HFF
          clear hQ hd hdn hQ1 hQ2
          go_enter Try.func76, Try.ntmps76
          go_wp2_with fail
          refine (C.out _).mono ?_
          rintro e w1 ⟨rfl, hb1⟩
          go_wp2_with fail
          rw [hmn.out]
          refine (D1.out _).mono ?_
          rintro e w2 ⟨rfl, hb2⟩
          have c2 := hb1.trans (hb2.mono hb1.size)
          clear hb1 hb2
          go_wp2_with fail
          refine (D2.out _).mono ?_
          rintro e w3 ⟨rfl, hb3⟩
          have c3 := c2.trans (hb3.mono c2.size)
          clear c2 hb3
          go_wp2_with fail
          go_ret2
          exact HFF.out _ c3
        · rw [decide_eq_false (fun e => hd (hdn.1 e))] at h49
          have hQ := hQ2.out hd
          rw [hQ] at HFF
          clear hQ hd hdn hQ1 hQ2
          go_enter Try.func76, Try.ntmps76
          go_wp2_with fail
          refine (C.out _).mono ?_
          rintro e w1 ⟨rfl, hb1⟩
          go_wp2_with fail
          rw [hmn.out]
          refine (D1.out _).mono ?_
          rintro e w2 ⟨rfl, hb2⟩
          have c2 := hb1.trans (hb2.mono hb1.size)
          clear hb1 hb2
          go_wp2_with fail
          refine (D2.out _).mono ?_
          rintro e w3 ⟨rfl, hb3⟩
          have c3 := c2.trans (hb3.mono c2.size)
          clear c2 hb3
          go_wp2_with fail
          go_ret2
          exact HFF.out _ c3
      · have hp := Z.div_num_pos (x := x) (y := y) (by omega)
        rw [hq] at hp
        have D1 := dmC hx lg hg0 hp.1.symm rfl (by omega) (by omega) (by omega) (by omega)
        have D2 := dmC hy lg hg0 hp.2.symm rfl (by omega) (by omega) (by omega) (by omega)
        have ln : (Z.S q.num).size ≤ 1001 := Z.S_size_le (n := 1000) (by rw [hp.1]; exact hx.of_le (Z.div_abs_le hg0)) (by omega) (by omega)
        have ld : (Z.S (q.den : Int)).size ≤ 1001 := Z.S_size_le (n := 1000) (by rw [hp.2]; exact hy.of_le (Z.div_abs_le hg0)) (by omega) (by omega)
        simp only [decide_eq_false hneg] at hhd
        clear ca cb h hx hy lg hp HF hq hg0 hgn hneg h0
        generalize Z.S x = X at *
        generalize Z.S (Z.gcdI x y) = G at *
        generalize Z.S (x % Z.gcdI x y) = R1 at *
        generalize Z.S (y % Z.gcdI x y) = R2 at *
        generalize Z.S y = Y at *
        generalize Z.S q.num = N at *
        generalize Z.S (q.den : Int) = D at *
        have hh := hhd hps
        clear hhd
        by_cases hd : q.den = 1
        · rw [decide_eq_true (hdn.2 hd)] at h49
          have hQ := hQ1.out hd
          rw [hQ] at HFF
          clear hQ hd hdn hQ1 hQ2
          go_enter Try.func76, Try.ntmps76
          go_wp2_with fail
          refine (C.out _).mono ?_
          rintro e w1 ⟨rfl, hb1⟩
          go_wp2_with fail
          refine (D1.out _).mono ?_
          rintro e w2 ⟨rfl, hb2⟩
          have c2 := hb1.trans (hb2.mono hb1.size)
          clear hb1 hb2
          go_wp2_with fail
          refine (D2.out _).mono ?_
          rintro e w3 ⟨rfl, hb3⟩
          have c3 := c2.trans (hb3.mono c2.size)
          clear c2 hb3
          go_wp2_with fail
          go_ret2
          exact HFF.out _ c3
        · rw [decide_eq_false (fun e => hd (hdn.1 e))] at h49
          have hQ := hQ2.out hd
          rw [hQ] at HFF
          clear hQ hd hdn hQ1 hQ2
          go_enter Try.func76, Try.ntmps76
          go_wp2_with fail
          refine (C.out _).mono ?_
          rintro e w1 ⟨rfl, hb1⟩
          go_wp2_with fail
          refine (D1.out _).mono ?_
          rintro e w2 ⟨rfl, hb2⟩
          have c2 := hb1.trans (hb2.mono hb1.size)
          clear hb1 hb2
          go_wp2_with fail
          refine (D2.out _).mono ?_
          rintro e w3 ⟨rfl, hb3⟩
          have c3 := c2.trans (hb3.mono c2.size)
          clear c2 hb3
          go_wp2_with fail
          go_ret2
          exact HFF.out _ c3
  · have C := Lib.hid (fun W : World => gcd_any a b W ha hb)
    have HF := Lib.hid (fun (w' : World) (hw : Below w.heap.size w w') => make_bad h hw)
    unfold GcdRet at C
    generalize Z.opS Z.gcdI a b = r at *
    generalize Z.bothE a b = k at *
    have hk : (k != 0) = true := by simpa using h
    clear h
    go_enter Try.func76, Try.ntmps76
    go_wp2_with fail
    refine (C.out _).mono ?_
    rintro e w1 ⟨rfl, hb1⟩
    go_wp2_with fail
    go_ret2
    exact HF.out _ hb1
theorem qof_any (n : Int) (w : World) (h0 : -9223372036854775808 ≤ n) (h1 : n ≤ 9223372036854775807) : Calls Try.prog 38 #[.int .i64 n] w (StrRet w (Z.txt n)) := by
  have C := Lib.hid (fun W : World => of_any n W h0 h1)
  unfold StrRet at *
  generalize (⟨(Z.txt n).toArray⟩ : ByteArray) = r at *
  go_enter Try.func38, Try.ntmps38
  go_wp2_with fail
  refine (C.out _).mono ?_
  rintro e w1 ⟨rfl, hb1⟩
  go_wp2_with fail
  go_ret
  exact ⟨rfl, hb1⟩
end Go.Proofs.Ytdjghmpaopfboaa
/- Walks: rational.both, and the operations that keep the first error. -/

namespace Go.Proofs.Ytdjghmpaopfboaa
open Go.RowKit

/-- A pair of rationals in memory. -/
def PB (W : World) (B : Nat) (n0 n1 d0 d1 : ByteArray) (e : Int) : Prop := Blk W B 94 #[.string n0, .string n1, .string d0, .string d1, .int .i64 e]
def PartsC (a x y : ByteArray) (k : Int) : Prop := ∀ W : World, HasV W → Calls Try.prog 70 #[.string a] W fun e w' => e = .returned (.tuple #[.string x, .string y, .int .i64 k]) ∧ Below W.heap.size W w'
def BothP (n0 n1 d0 d1 : ByteArray) (k : Int) (w : World) (e : Ending) (w' : World) : Prop := e = .returned (.pointer (some ⟨w.heap.size, 0, none⟩)) ∧ PB w' w.heap.size n0 n1 d0 d1 k ∧ Below w.heap.size w w' ∧ w.heap.size < w'.heap.size
/-- The loop's state, before its round k. -/
def BSt (B : Nat) (x1 y1 x2 y2 : ByteArray) (k1 k2 : Int) (k : Nat) (W : World) : Prop :=
  match k with
  | 0 => PB W B ⟨#[]⟩ ⟨#[]⟩ ⟨#[]⟩ ⟨#[]⟩ 0
  | 1 => PB W B x1 ⟨#[]⟩ y1 ⟨#[]⟩ k1
  | _ => PB W B x1 x2 y1 y2 k2
def BRel (w : World) (x1 y1 x2 y2 : ByteArray) (k1 k2 : Int) (iv : Value) (wr : World) : Prop := ∃ k : Nat, k ≤ 2 ∧ iv = .int .i64 k ∧ BSt w.heap.size x1 y1 x2 y2 k1 k2 k wr ∧ Below w.heap.size w wr ∧ w.heap.size < wr.heap.size
theorem BRel.cases {w : World} {x1 y1 x2 y2 : ByteArray} {k1 k2 : Int} {iv : Value} {wr : World} (h : BRel w x1 y1 x2 y2 k1 k2 iv wr) : (Below w.heap.size w wr ∧ w.heap.size < wr.heap.size) ∧
    ((iv = .int .i64 0 ∧ PB wr w.heap.size ⟨#[]⟩ ⟨#[]⟩ ⟨#[]⟩ ⟨#[]⟩ 0) ∨ (iv = .int .i64 1 ∧ PB wr w.heap.size x1 ⟨#[]⟩ y1 ⟨#[]⟩ k1) ∨ (iv = .int .i64 2 ∧ PB wr w.heap.size x1 x2 y1 y2 k2)) := by
  obtain ⟨k, hk, hi, hs, hb, hl⟩ := h
  refine ⟨⟨hb, hl⟩, ?_⟩
  match k, hk, hs with
  | 0, _, hs => exact .inl ⟨hi, hs⟩
  | 1, _, hs => exact .inr (.inl ⟨hi, hs⟩)
  | 2, _, hs => exact .inr (.inr ⟨hi, hs⟩)
set_option maxRecDepth 100000 in
set_option maxHeartbeats 4000000 in
theorem both_gen0 (a b x1 y1 x2 y2 : ByteArray) (k2 : Int) (w : World) (hv : HasV w) (P1 : PartsC a x1 y1 0) (P2 : PartsC b x2 y2 k2) :
    Calls Try.prog 49 #[.string a, .string b] w (BothP x1 x2 y1 y2 k2 w) := by
  have HP1 : Hid (PartsC a x1 y1 0) := P1
  have HP2 : Hid (PartsC b x2 y2 k2) := P2
  clear P1 P2
  have HV := Lib.hid hv
  clear hv
  have i0 : ∀ W, (Instr.index 113 (.agg #[.string a, .string b]) (.int .i64 0)).run Try.prog W = .ok (.string a) W := fun _ => by kernel_rfl
  have i1 : ∀ W, (Instr.index 113 (.agg #[.string a, .string b]) (.int .i64 1)).run Try.prog W = .ok (.string b) W := fun _ => by kernel_rfl
  go_enter Try.func49, Try.ntmps49
  go_wp2_with fail
  have hst : BRel w x1 y1 x2 y2 0 k2 (.int .i64 0) (w.alloc (.cells #[.string ⟨#[]⟩, .string ⟨#[]⟩, .string ⟨#[]⟩, .string ⟨#[]⟩, .int .i64 0] 94)) :=
    ⟨0, by omega, rfl, Blk.new w _ _, (Below.refl _ _).alloc (Nat.le_refl _) _, by simp⟩
  have HST := Lib.hid hst
  clear hst
  go_loopw [13] (fun iv wr => BRel w x1 y1 x2 y2 0 k2 iv wr) (fun iv _ => 2 - (intOf iv).toNat)
  case atStart => exact HST.out
  case round =>
    clear HST
    obtain ⟨⟨hb, hl⟩, ⟨rfl, hB⟩ | ⟨rfl, hB⟩ | ⟨rfl, hB⟩⟩ := hrel.cases
    · clear hrel
      have c4 : wr.cell? ⟨w.heap.size, 4, none⟩ = some (.int .i64 0) := hB.cell 4
      have hvr := Lib.hid (HV.out.below hb)
      go_wp2_with fail
      go_region_held3 (fun W => True)
        (trivial)
        (first
          | (go_at_call 70; refine (HP1.out _ (by exact hvr.out)).mono ?_; rintro e w1 ⟨rfl, hb1⟩; have hb2 : Below wr.heap.size wr w1 := (below_of_drewN wr 1 _).trans hb1; have q := hB.below hb2; have d0 := q.cell 0; have d2 := q.cell 2; have d4 := q.cell 4; have f0 := q.frozen 0; have f2 := q.frozen 2; have f4 := q.frozen 4))
      go_wp2_with fail
      have qs := ((q.set 0 (.string x1)).set 2 (.string y1)).set 4 (.int .i64 0)
      have hb3 := hb.trans (hb2.mono hb.size)
      clear d0 d2 d4 f0 f2 f4
      go_roundw
      case rel => exact ⟨1, by omega, rfl, qs, ((hb3.setCell (p := ⟨w.heap.size, 0, none⟩) (Nat.le_refl _) _).setCell (p := ⟨w.heap.size, 2, none⟩) (Nat.le_refl _) _).setCell (p := ⟨w.heap.size, 4, none⟩) (Nat.le_refl _) _, qs.lt⟩
      case measure => simp [intOf]
    · clear hrel
      have c4 : wr.cell? ⟨w.heap.size, 4, none⟩ = some (.int .i64 0) := hB.cell 4
      have hvr := Lib.hid (HV.out.below hb)
      go_wp2_with fail
      go_region_held3 (fun W => True)
        (trivial)
        (first
          | (go_at_call 70; refine (HP2.out _ (by exact hvr.out)).mono ?_; rintro e w1 ⟨rfl, hb1⟩; have hb2 : Below wr.heap.size wr w1 := (below_of_drewN wr 1 _).trans hb1; have q := hB.below hb2; have d0 := q.cell 1; have d2 := q.cell 3; have d4 := q.cell 4; have f0 := q.frozen 1; have f2 := q.frozen 3; have f4 := q.frozen 4))
      go_wp2_with fail
      have qs := ((q.set 1 (.string x2)).set 3 (.string y2)).set 4 (.int .i64 k2)
      have hb3 := hb.trans (hb2.mono hb.size)
      clear d0 d2 d4 f0 f2 f4
      go_roundw
      case rel => exact ⟨2, by omega, rfl, qs, ((hb3.setCell (p := ⟨w.heap.size, 1, none⟩) (Nat.le_refl _) _).setCell (p := ⟨w.heap.size, 3, none⟩) (Nat.le_refl _) _).setCell (p := ⟨w.heap.size, 4, none⟩) (Nat.le_refl _) _, qs.lt⟩
      case measure => simp [intOf]
    · clear hrel
      go_wp2_with fail
      go_ret
      exact ⟨rfl, hB, hb, hl⟩
set_option maxRecDepth 100000 in
set_option maxHeartbeats 4000000 in
theorem both_gen1 (a b x1 y1 : ByteArray) (k1 : Int) (w : World) (hv : HasV w) (P1 : PartsC a x1 y1 k1) (hk : k1 ≠ 0) :
    Calls Try.prog 49 #[.string a, .string b] w (BothP x1 ⟨#[]⟩ y1 ⟨#[]⟩ k1 w) := by
  have HP1 : Hid (PartsC a x1 y1 k1) := P1
  have hkb : (k1 == 0) = false := by simpa using hk
  clear P1 hk
  have HV := Lib.hid hv
  clear hv
  have i0 : ∀ W, (Instr.index 113 (.agg #[.string a, .string b]) (.int .i64 0)).run Try.prog W = .ok (.string a) W := fun _ => by kernel_rfl
  have i1 : ∀ W, (Instr.index 113 (.agg #[.string a, .string b]) (.int .i64 1)).run Try.prog W = .ok (.string b) W := fun _ => by kernel_rfl
  go_enter Try.func49, Try.ntmps49
  go_wp2_with fail
  have hst : BRel w x1 y1 ⟨#[]⟩ ⟨#[]⟩ k1 k1 (.int .i64 0) (w.alloc (.cells #[.string ⟨#[]⟩, .string ⟨#[]⟩, .string ⟨#[]⟩, .string ⟨#[]⟩, .int .i64 0] 94)) :=
    ⟨0, by omega, rfl, Blk.new w _ _, (Below.refl _ _).alloc (Nat.le_refl _) _, by simp⟩
  have HST := Lib.hid hst
  clear hst
  go_loopw [13] (fun iv wr => BRel w x1 y1 ⟨#[]⟩ ⟨#[]⟩ k1 k1 iv wr) (fun iv _ => 2 - (intOf iv).toNat)
  case atStart => exact HST.out
  case round =>
    clear HST
    obtain ⟨⟨hb, hl⟩, ⟨rfl, hB⟩ | ⟨rfl, hB⟩ | ⟨rfl, hB⟩⟩ := hrel.cases
    · clear hrel
      have c4 : wr.cell? ⟨w.heap.size, 4, none⟩ = some (.int .i64 0) := hB.cell 4
      have hvr := Lib.hid (HV.out.below hb)
      go_wp2_with fail
      go_region_held3 (fun W => True)
        (trivial)
        (first
          | (go_at_call 70; refine (HP1.out _ (by exact hvr.out)).mono ?_; rintro e w1 ⟨rfl, hb1⟩; have hb2 : Below wr.heap.size wr w1 := (below_of_drewN wr 1 _).trans hb1; have q := hB.below hb2; have d0 := q.cell 0; have d2 := q.cell 2; have d4 := q.cell 4; have f0 := q.frozen 0; have f2 := q.frozen 2; have f4 := q.frozen 4))
      go_wp2_with fail
      have qs := ((q.set 0 (.string x1)).set 2 (.string y1)).set 4 (.int .i64 k1)
      have hb3 := hb.trans (hb2.mono hb.size)
      clear d0 d2 d4 f0 f2 f4
      go_roundw
      case rel => exact ⟨1, by omega, rfl, qs, ((hb3.setCell (p := ⟨w.heap.size, 0, none⟩) (Nat.le_refl _) _).setCell (p := ⟨w.heap.size, 2, none⟩) (Nat.le_refl _) _).setCell (p := ⟨w.heap.size, 4, none⟩) (Nat.le_refl _) _, qs.lt⟩
      case measure => simp [intOf]
    · clear hrel
      have c4 : wr.cell? ⟨w.heap.size, 4, none⟩ = some (.int .i64 k1) := hB.cell 4
      go_wp2_with fail
      go_roundw
      case rel => exact ⟨2, by omega, rfl, hB, hb, hl⟩
      case measure => simp [intOf]
    · clear hrel
      go_wp2_with fail
      go_ret
      exact ⟨rfl, hB, hb, hl⟩
/-- The first error of two rationals. -/
def Z.rbothE (a b : ByteArray) : Int := if Z.rchk a = 0 then Z.rchk b else Z.rchk a
theorem both_ok (a b : ByteArray) (w : World) (hv : HasV w) (ha : a.size ≤ 100000) (hb : b.size ≤ 100000) (h : Z.rbothE a b = 0) :
    Calls Try.prog 49 #[.string a, .string b] w (BothP (Z.rN a) (Z.rN b) (Z.rD1 a) (Z.rD1 b) 0 w) := by
  unfold Z.rbothE at h
  by_cases h1 : Z.rchk a = 0
  · rw [if_pos h1] at h
    exact both_gen0 a b _ _ _ _ 0 w hv (fun W hw => parts_ok a W hw ha h1) (fun W hw => parts_ok b W hw hb h)
  · rw [if_neg h1] at h; exact absurd h h1
def BothBad (k : Int) (w : World) (e : Ending) (w' : World) : Prop := ∃ n0 n1 d0 d1, BothP n0 n1 d0 d1 k w e w'
theorem both_bad (a b : ByteArray) (w : World) (hv : HasV w) (ha : a.size ≤ 100000) (hb : b.size ≤ 100000) (h : Z.rbothE a b ≠ 0) :
    Calls Try.prog 49 #[.string a, .string b] w (BothBad (Z.rbothE a b) w) := by
  unfold Z.rbothE at *
  by_cases h1 : Z.rchk a = 0
  · rw [if_pos h1] at h ⊢
    exact (both_gen0 a b _ _ _ _ _ w hv (fun W hw => parts_ok a W hw ha h1) (fun W hw => parts_bad b W hw hb h)).mono fun e w' hh => ⟨_, _, _, _, hh⟩
  · rw [if_neg h1] at h ⊢
    exact (both_gen1 a b _ _ _ w hv (fun W hw => parts_bad a W hw ha h) h).mono fun e w' hh => ⟨_, _, _, _, hh⟩
end Go.Proofs.Ytdjghmpaopfboaa
/- Walks: rational's operations that keep the first error: keep, made. -/

namespace Go.Proofs.Ytdjghmpaopfboaa
open Go.RowKit

/-- The function value that keep returns: it knows the pair in block B and an operation. -/
def KP (W : World) (B F h : Nat) : Prop := Blk W h 86 #[.pointer (some ⟨B, 0, none⟩)] ∧ Blk W (h + 1) 90 #[.func (.func F) #[] #[]]
def kv (h : Nat) : Value := .func (.func 71) #[] #[.pointer (some ⟨h, 0, none⟩), .pointer (some ⟨h + 1, 0, none⟩)]
def KeepRet (B F : Nat) (w : World) (e : Ending) (w' : World) : Prop := e = .returned (kv w.heap.size) ∧ KP w' B F w.heap.size ∧ Below w.heap.size w w' ∧ w.heap.size + 1 < w'.heap.size
theorem keep_fn (B F : Nat) (w : World) : Calls Try.prog 50 #[.pointer (some ⟨B, 0, none⟩), .func (.func F) #[] #[]] w (KeepRet B F w) := by
  have hmf : ∀ (fn : Fn) (first cap : Array Value) (w : World), (Instr.makeFunc fn first cap).run Try.prog w = .ok (.func fn first cap) w := fun _ _ _ _ => rfl
  go_enter Try.func50, Try.ntmps50
  go_wp2_with fail
  go_ret
  have b2 := Blk.new (w.alloc (.cells #[.pointer (some ⟨B, 0, none⟩)] 86)) 90 #[.func (.func F) #[] #[]]
  rw [World.size_alloc] at b2
  exact ⟨rfl, ⟨(Blk.new w _ _).alloc _, b2⟩, ((Below.refl _ w).alloc (Nat.le_refl _) _).alloc (by simp) _, by simp⟩
/-- What an operation on two integers answers, as a contract of whatever function. -/
def OpC (F : Nat) (x y r : ByteArray) (k : Int) : Prop := ∀ W : World, Calls Try.prog F #[.string x, .string y] W fun e w' => e = .returned (.tuple #[.string r, .int .i64 k]) ∧ Below W.heap.size W w'
set_option maxHeartbeats 1000000 in
theorem kcall_bad (B F h : Nat) (x y n0 n1 d0 d1 : ByteArray) (k : Int) (w : World) (hp : PB w B n0 n1 d0 d1 k) (hk : KP w B F h) (h0 : k ≠ 0) :
    Calls Try.prog 71 #[.string x, .string y, .pointer (some ⟨h, 0, none⟩), .pointer (some ⟨h + 1, 0, none⟩)] w fun e w' => e = .returned (.string ⟨#[]⟩) ∧ w = w' := by
  have c4 : w.cell? ⟨B, 4, none⟩ = some (.int .i64 k) := hp.cell 4
  have e0 : w.cell? ⟨h, 0, none⟩ = some (.pointer (some ⟨B, 0, none⟩)) := hk.1.cell 0
  have e1 : w.cell? ⟨h + 1, 0, none⟩ = some (.func (.func F) #[] #[]) := hk.2.cell 0
  have hkb : (k != 0) = true := by simpa using h0
  clear h0
  go_enter Try.func71, Try.ntmps71
  go_wp2_with fail
  go_ret
  exact ⟨rfl, rfl⟩
/-- OK: behind a call of the function value: the pair's error, its numbers as before. -/
def KcRet (B : Nat) (r n0 n1 d0 d1 : ByteArray) (k : Int) (w : World) (e : Ending) (w' : World) : Prop := e = .returned (.string r) ∧ PB w' B n0 n1 d0 d1 k ∧ (∀ F' h', B < h' → KP w B F' h' → KP w' B F' h') ∧ (∀ b, b ≠ B → b < w.heap.size → w'.heap[b]? = w.heap[b]?) ∧ Below B w w'
theorem KP.keep {W W' : World} {B F h : Nat} (hk : KP W B F h) (hb : Below W.heap.size W W') : KP W' B F h := ⟨hk.1.below hb, hk.2.below hb⟩
theorem KP.away {W : World} {B F h : Nat} (hk : KP W B F h) (hB : B < h) (j : Nat) (u : Value) : KP (W.setCell ⟨B, j, none⟩ u) B F h := ⟨hk.1.other (by omega) u, hk.2.other (by omega) u⟩
set_option maxRecDepth 100000 in
set_option maxHeartbeats 2000000 in
theorem kcall_mul (B h : Nat) (x y n0 n1 d0 d1 r : ByteArray) (k : Int) (w : World) (hp : PB w B n0 n1 d0 d1 0) (hk : KP w B 51 h) (hB : B < h) (C : OpC 51 x y r k) :
    Calls Try.prog 71 #[.string x, .string y, .pointer (some ⟨h, 0, none⟩), .pointer (some ⟨h + 1, 0, none⟩)] w (KcRet B r n0 n1 d0 d1 k w) := by
  have HC : Hid (OpC 51 x y r k) := C
  clear C
  have c4 : w.cell? ⟨B, 4, none⟩ = some (.int .i64 0) := hp.cell 4
  have e0 : w.cell? ⟨h, 0, none⟩ = some (.pointer (some ⟨B, 0, none⟩)) := hk.1.cell 0
  have e1 : w.cell? ⟨h + 1, 0, none⟩ = some (.func (.func 51) #[] #[]) := hk.2.cell 0
  have l0 := hk.1.lt
  have l1 := hk.2.lt
  go_enter Try.func71, Try.ntmps71
  go_wp2_with fail
  go_region_held3 (fun W => W.cell? ⟨h, 0, none⟩ = some (.pointer (some ⟨B, 0, none⟩)) ∧ W.cell? ⟨h + 1, 0, none⟩ = some (.func (.func 51) #[] #[]))
    (first
      | exact ⟨e0, e1⟩
      | exact ⟨k0, k1⟩
      | exact ⟨cell_other (by omega) k0 _, cell_other (by omega) k1 _⟩)
    (first
      | (go_at_call 51; refine (HC.out _).mono ?_; rintro e w1 ⟨rfl, hb1⟩; have hb2 : Below w.heap.size w w1 := (below_of_drewN w 1 _).trans hb1; have q := hp.below hb2; have k0 := (hb2.cell (p := ⟨h, 0, none⟩) (by show h < w.heap.size; omega)).trans e0; have k1 := (hb2.cell (p := ⟨h + 1, 0, none⟩) (by show h + 1 < w.heap.size; omega)).trans e1; have d4 := q.cell 4; have f4 := q.frozen 4))
  go_wp2_with fail
  go_ret
  refine ⟨rfl, q.set 4 (.int .i64 k), fun F' h' hlt hk' => (hk'.keep hb2).away hlt 4 _, fun b hne hlt => (Below.heap_setCell _ _ _ b hne).trans (hb2.block b hlt), (show Below B w w1 from hb2.mono (by omega)).setCell (p := ⟨B, 4, none⟩) (Nat.le_refl _) _⟩
set_option maxRecDepth 100000 in
set_option maxHeartbeats 2000000 in
theorem kcall_add (B h : Nat) (x y n0 n1 d0 d1 r : ByteArray) (k : Int) (w : World) (hp : PB w B n0 n1 d0 d1 0) (hk : KP w B 52 h) (hB : B < h) (C : OpC 52 x y r k) :
    Calls Try.prog 71 #[.string x, .string y, .pointer (some ⟨h, 0, none⟩), .pointer (some ⟨h + 1, 0, none⟩)] w (KcRet B r n0 n1 d0 d1 k w) := by
  have HC : Hid (OpC 52 x y r k) := C
  clear C
  have c4 : w.cell? ⟨B, 4, none⟩ = some (.int .i64 0) := hp.cell 4
  have e0 : w.cell? ⟨h, 0, none⟩ = some (.pointer (some ⟨B, 0, none⟩)) := hk.1.cell 0
  have e1 : w.cell? ⟨h + 1, 0, none⟩ = some (.func (.func 52) #[] #[]) := hk.2.cell 0
  have l0 := hk.1.lt
  have l1 := hk.2.lt
  go_enter Try.func71, Try.ntmps71
  go_wp2_with fail
  go_region_held3 (fun W => W.cell? ⟨h, 0, none⟩ = some (.pointer (some ⟨B, 0, none⟩)) ∧ W.cell? ⟨h + 1, 0, none⟩ = some (.func (.func 52) #[] #[]))
    (first
      | exact ⟨e0, e1⟩
      | exact ⟨k0, k1⟩
      | exact ⟨cell_other (by omega) k0 _, cell_other (by omega) k1 _⟩)
    (first
      | (go_at_call 52; refine (HC.out _).mono ?_; rintro e w1 ⟨rfl, hb1⟩; have hb2 : Below w.heap.size w w1 := (below_of_drewN w 1 _).trans hb1; have q := hp.below hb2; have k0 := (hb2.cell (p := ⟨h, 0, none⟩) (by show h < w.heap.size; omega)).trans e0; have k1 := (hb2.cell (p := ⟨h + 1, 0, none⟩) (by show h + 1 < w.heap.size; omega)).trans e1; have d4 := q.cell 4; have f4 := q.frozen 4))
  go_wp2_with fail
  go_ret
  refine ⟨rfl, q.set 4 (.int .i64 k), fun F' h' hlt hk' => (hk'.keep hb2).away hlt 4 _, fun b hne hlt => (Below.heap_setCell _ _ _ b hne).trans (hb2.block b hlt), (show Below B w w1 from hb2.mono (by omega)).setCell (p := ⟨B, 4, none⟩) (Nat.le_refl _) _⟩
set_option maxRecDepth 100000 in
set_option maxHeartbeats 2000000 in
theorem kcall_sub (B h : Nat) (x y n0 n1 d0 d1 r : ByteArray) (k : Int) (w : World) (hp : PB w B n0 n1 d0 d1 0) (hk : KP w B 54 h) (hB : B < h) (C : OpC 54 x y r k) :
    Calls Try.prog 71 #[.string x, .string y, .pointer (some ⟨h, 0, none⟩), .pointer (some ⟨h + 1, 0, none⟩)] w (KcRet B r n0 n1 d0 d1 k w) := by
  have HC : Hid (OpC 54 x y r k) := C
  clear C
  have c4 : w.cell? ⟨B, 4, none⟩ = some (.int .i64 0) := hp.cell 4
  have e0 : w.cell? ⟨h, 0, none⟩ = some (.pointer (some ⟨B, 0, none⟩)) := hk.1.cell 0
  have e1 : w.cell? ⟨h + 1, 0, none⟩ = some (.func (.func 54) #[] #[]) := hk.2.cell 0
  have l0 := hk.1.lt
  have l1 := hk.2.lt
  go_enter Try.func71, Try.ntmps71
  go_wp2_with fail
  go_region_held3 (fun W => W.cell? ⟨h, 0, none⟩ = some (.pointer (some ⟨B, 0, none⟩)) ∧ W.cell? ⟨h + 1, 0, none⟩ = some (.func (.func 54) #[] #[]))
    (first
      | exact ⟨e0, e1⟩
      | exact ⟨k0, k1⟩
      | exact ⟨cell_other (by omega) k0 _, cell_other (by omega) k1 _⟩)
    (first
      | (go_at_call 54; refine (HC.out _).mono ?_; rintro e w1 ⟨rfl, hb1⟩; have hb2 : Below w.heap.size w w1 := (below_of_drewN w 1 _).trans hb1; have q := hp.below hb2; have k0 := (hb2.cell (p := ⟨h, 0, none⟩) (by show h < w.heap.size; omega)).trans e0; have k1 := (hb2.cell (p := ⟨h + 1, 0, none⟩) (by show h + 1 < w.heap.size; omega)).trans e1; have d4 := q.cell 4; have f4 := q.frozen 4))
  go_wp2_with fail
  go_ret
  refine ⟨rfl, q.set 4 (.int .i64 k), fun F' h' hlt hk' => (hk'.keep hb2).away hlt 4 _, fun b hne hlt => (Below.heap_setCell _ _ _ b hne).trans (hb2.block b hlt), (show Below B w w1 from hb2.mono (by omega)).setCell (p := ⟨B, 4, none⟩) (Nat.le_refl _) _⟩
set_option maxHeartbeats 1000000 in
theorem made_bad (B : Nat) (x y n0 n1 d0 d1 : ByteArray) (k : Int) (w : World) (hp : PB w B n0 n1 d0 d1 k) (h0 : k ≠ 0) :
    Calls Try.prog 53 #[.pointer (some ⟨B, 0, none⟩), .string x, .string y] w fun e w' => e = .returned (.tuple #[.string ⟨#[]⟩, .int .i64 k]) ∧ Below w.heap.size w w' := by
  have c4 : w.cell? ⟨B, 4, none⟩ = some (.int .i64 k) := hp.cell 4
  have hkb : (k != 0) = true := by simpa using h0
  clear h0
  go_enter Try.func53, Try.ntmps53
  go_wp2_with fail
  go_region
  go_wp2_with fail
  go_ret2
  exact ⟨rfl, (Below.refl _ _).drew⟩
theorem made_ok (B : Nat) (x y n0 n1 d0 d1 : ByteArray) (w : World) (hp : PB w B n0 n1 d0 d1 0) (hx : x.size ≤ maxLen) (hy : y.size ≤ maxLen) :
    Calls Try.prog 53 #[.pointer (some ⟨B, 0, none⟩), .string x, .string y] w (MakeRet x y w) := by
  have c4 : w.cell? ⟨B, 4, none⟩ = some (.int .i64 0) := hp.cell 4
  have M := Lib.hid (make_any x y w hx hy)
  unfold MakeRet at *
  generalize Z.makeS x y = r at *
  generalize Z.makeE x y = k at *
  go_enter Try.func53, Try.ntmps53
  go_wp2_with fail
  refine M.out.mono ?_
  rintro e w1 ⟨rfl, hb1⟩
  go_wp2_with fail
  go_ret2
  exact ⟨rfl, hb1⟩
end Go.Proofs.Ytdjghmpaopfboaa
/- Walks: rational.Mul, Add, Sub. -/

namespace Go.Proofs.Ytdjghmpaopfboaa
open Go.RowKit

namespace Z
def fitL (l : List Int) : Bool := l.all fun z => decide (resE z = 0)
/-- The error of an operation on two rationals, which needs these integers. -/
def ropE (l : List Int) (a b : ByteArray) : Int := if rbothE a b = 0 then if fitL l then 0 else 14 else rbothE a b
def ropS (l : List Int) (v : Rat) (a b : ByteArray) : ByteArray := if ropE l a b = 0 then Q v else ⟨#[]⟩
theorem rbothE_ok {a b : ByteArray} (h : rbothE a b = 0) : ROk a ∧ ROk b := by
  unfold rbothE at h
  by_cases h1 : rchk a = 0
  · rw [if_pos h1] at h; exact ⟨rok h1, rok h⟩
  · rw [if_neg h1] at h; exact absurd h h1
theorem ROk.chks {s : ByteArray} (h : ROk s) : chk (S (rn s)).data.toList = 0 ∧ chk (S (rd s)).data.toList = 0 ∧ rN s = S (rn s) ∧ rD1 s = S (rd s) := by
  have h1 := h.n
  have h2 := h.d
  rw [h.num.1] at h1
  rw [h.num.2] at h2
  exact ⟨by rw [← h1]; exact h.kn, by rw [← h2]; exact h.kd, h1, h2⟩
theorem opS_ints {f : Int → Int → Int} {x y : Int} (hx : chk (S x).data.toList = 0) (hy : chk (S y).data.toList = 0) : opS f (S x) (S y) = resS (f x y) ∧ opE f (S x) (S y) = resE (f x y) := by
  have hb := bothE_ok hx hy
  unfold opS opE
  rw [if_pos hb, if_pos hb, ival_S, ival_S]
  exact ⟨rfl, rfl⟩
theorem res_fit {z : Int} (h : resE z = 0) : resS z = S z ∧ chk (S z).data.toList = 0 := by
  obtain ⟨h1, h2⟩ := resS_ok h
  exact ⟨h1, by rw [S_data]; exact chk_txt h2⟩
theorem res_14 {z : Int} (h : resE z ≠ 0) : resE z = 14 := (resE_cases z).resolve_left h
theorem chk_max {x : Int} (h : chk (S x).data.toList = 0) : (S x).size ≤ maxLen := by
  have := chk_size h
  rw [← Lib.size_eq] at this
  unfold maxLen; omega
theorem make_S {x y : Int} (hx : chk (S x).data.toList = 0) (hy : chk (S y).data.toList = 0) (h0 : y ≠ 0) : makeE (S x) (S y) = 0 ∧ makeS (S x) (S y) = Q (Rat.divInt x y) := by
  have he : makeE (S x) (S y) = 0 := by
    unfold makeE
    rw [if_pos (bothE_ok hx hy), if_neg (by rw [ival_S]; exact h0)]
  unfold makeS
  rw [if_pos he, ival_S, ival_S]
  exact ⟨he, rfl⟩
end Z
def RopRet (l : List Int) (v : Rat) (a b : ByteArray) (w : World) (e : Ending) (w' : World) : Prop := e = .returned (.tuple #[.string (Z.ropS l v a b), .int .i64 (Z.ropE l a b)]) ∧ Below w.heap.size w w'
theorem rop_bad {l : List Int} {v : Rat} {a b : ByteArray} {w w' : World} (h : Z.rbothE a b ≠ 0) (hb : Below w.heap.size w w') : RopRet l v a b w (.returned (.tuple #[.string ⟨#[]⟩, .int .i64 (Z.rbothE a b)])) w' := by
  unfold RopRet Z.ropS Z.ropE
  rw [if_neg h, if_neg h]; exact ⟨rfl, hb⟩
theorem rop_big {l : List Int} {v : Rat} {a b : ByteArray} {w w' : World} (h : Z.rbothE a b = 0) (hf : Z.fitL l = false) (hb : Below w.heap.size w w') : RopRet l v a b w (.returned (.tuple #[.string ⟨#[]⟩, .int .i64 14])) w' := by
  unfold RopRet Z.ropS Z.ropE
  rw [if_pos h, hf]; exact ⟨rfl, hb⟩
theorem rop_ok {l : List Int} {v : Rat} {a b : ByteArray} {w w' : World} (h : Z.rbothE a b = 0) (hf : Z.fitL l = true) (hb : Below w.heap.size w w') : RopRet l v a b w (.returned (.tuple #[.string (Z.Q v), .int .i64 0])) w' := by
  unfold RopRet Z.ropS Z.ropE
  rw [if_pos h, hf]; exact ⟨rfl, hb⟩
end Go.Proofs.Ytdjghmpaopfboaa
