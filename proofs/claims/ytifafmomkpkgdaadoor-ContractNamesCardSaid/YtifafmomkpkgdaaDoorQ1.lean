/- Q1: Qa Qb Qc Qd Qe -/
import Derived.Test.YtifafmomkpkgdaaDoorZr
import Derived.Test.YtifafmomkpkgdaaDoorRops
import Derived.Test.YtifafmomkpkgdaaDoorIl
import Derived.Test.YtifafmomkpkgdaaDoorShelf
import Derived.Test.YtifafmomkpkgdaaDoorR1
import Derived.Deep.RegionHeld3
import Derived.Laws.EntriesVeiled
/- Walks: rational.split, form, Check, Parts. -/

namespace Go.Proofs.YtifafmomkpkgdaaDoor
open Go.RowKit

/-- The library's variable that strings.Cut looks at holds some int. -/
def HasV (w : World) : Prop := ∃ m : Int, w.cell? ⟨2, 0, none⟩ = some (.int .i64 m)
theorem HasV.below {w w' : World} (h : HasV w) (hb : Below w.heap.size w w') : HasV w' := by
  obtain ⟨m, hm⟩ := h
  exact ⟨m, (hb.cell (World.block_lt_of_cell? w _ hm)).trans hm⟩
def SplitRet (s : ByteArray) (w : World) (e : Ending) (w' : World) : Prop := e = .returned (.tuple #[.string (Z.rN s), .string (Z.rD s), .bool (Z.rF s)]) ∧ ∃ n, w' = w.drewN n
theorem split_any (s : ByteArray) (w : World) (hv : HasV w) (hs : s.size ≤ 100000) : Calls Tryd.prog 86 #[.string s] w (SplitRet s w) := by
  obtain ⟨m, hm⟩ := hv
  have C := Tryd.strings_Cut s ⟨#[47]⟩ m w (by omega) hm
  have C' : Hid (Calls Tryd.prog 102 #[.string s, .string ⟨#[47]⟩] w fun e w' => e = .returned (.tuple #[.string (Z.rN s), .string (Z.rD s), .bool (Z.rF s)]) ∧ ∃ n, w' = w.drewN n) := C
  clear C hm
  unfold SplitRet
  generalize Z.rN s = x at *
  generalize Z.rD s = y at *
  generalize Z.rF s = f at *
  go_enter Tryd.func86, Tryd.ntmps86
  go_wp2_with fail
  refine C'.out.mono ?_
  rintro e w' ⟨rfl, n, rfl⟩
  go_wp2_with fail
  go_ret3
  exact ⟨rfl, n, rfl⟩
namespace Z
def formE (l : List UInt8) : Int := if canon l then 0 else 12
theorem formE_chk (l : List UInt8) : formE l = if chk l = 14 then 0 else chk l := by
  unfold formE chk
  split
  · split
    · rfl
    · rfl
  · rfl
end Z
theorem form_any (s : ByteArray) (w : World) (hs : s.size ≤ maxLen) : Calls Tryd.prog 87 #[.string s] w fun e w' => e = .returned (.int .i64 (Z.formE s.data.toList)) ∧ w = w' := by
  have C := Lib.hid (check_any s w hs)
  rw [Z.formE_chk]
  by_cases h : Z.chk s.data.toList = 14
  · rw [if_pos h]
    rw [h] at C
    clear h
    go_enter Tryd.func87, Tryd.ntmps87
    go_wp2_with fail
    refine C.out.mono ?_
    rintro e w' ⟨rfl, rfl⟩
    go_wp2_with fail
    go_ret
    exact ⟨rfl, rfl⟩
  · rw [if_neg h]
    generalize Z.chk s.data.toList = k at *
    have hk : (k != 14) = true := by simpa using h
    clear h
    go_enter Tryd.func87, Tryd.ntmps87
    go_wp2_with fail
    refine C.out.mono ?_
    rintro e w' ⟨rfl, rfl⟩
    go_wp2_with fail
    go_ret
    exact ⟨rfl, rfl⟩
theorem Z.cut_size (s : ByteArray) : (Z.rN s).size ≤ s.size ∧ (Z.rD s).size ≤ s.size := by
  rw [Lib.size_eq, Lib.size_eq, Lib.size_eq]
  unfold Z.rN Z.rD
  rw [Z.data_ofL, Z.data_ofL]
  cases hf : (Z.cutR s.data.toList).2.2
  · have h1 := Z.cutR_whole hf
    have h2 : (Z.cutR s.data.toList).2.1 = [] := by
      unfold Z.cutR Lib.cut at *
      split at hf
      · cases hf
      · rename_i hh; rw [if_neg hh]
    rw [h1, h2]; simp
  · have h1 := congrArg List.length (Z.cutR_join hf)
    rw [List.length_append, List.length_cons] at h1
    show (Z.cutR s.data.toList).1.length ≤ s.data.toList.length ∧ (Z.cutR s.data.toList).2.1.length ≤ s.data.toList.length
    have h2 : s.data.toList.length = (Z.cutR s.data.toList).1.length + ((Z.cutR s.data.toList).2.1.length + 1) := h1
    omega
def QchkRet (s : ByteArray) (w : World) (e : Ending) (w' : World) : Prop := e = .returned (.int .i64 (Z.rchk s)) ∧ Below w.heap.size w w'
theorem qchk_bad {s : ByteArray} {w w' : World} (h : Z.rbad s = true) (hb : Below w.heap.size w w') : QchkRet s w (.returned (.int .i64 12)) w' := by
  unfold QchkRet Z.rchk; rw [h]; exact ⟨rfl, hb⟩
theorem qchk_big {s : ByteArray} {w w' : World} (h : Z.rbad s = false) (h' : Z.rbig s = true) (hb : Below w.heap.size w w') : QchkRet s w (.returned (.int .i64 14)) w' := by
  unfold QchkRet Z.rchk; rw [h, h']; exact ⟨rfl, hb⟩
theorem qchk_gcd {s : ByteArray} {w w' : World} (h : Z.rbad s = false) (h' : Z.rbig s = false) (hf : Z.rF s = true) (hg : Z.gcdI (Z.rn s) (Z.rd s) ≠ 1) (hb : Below w.heap.size w w') : QchkRet s w (.returned (.int .i64 12)) w' := by
  unfold QchkRet Z.rchk; rw [h, h', hf]; simp [hg]; exact hb
theorem qchk_ok {s : ByteArray} {w w' : World} (h : Z.rbad s = false) (h' : Z.rbig s = false) (hg : Z.rF s = true → Z.gcdI (Z.rn s) (Z.rd s) = 1) (hb : Below w.heap.size w w') : QchkRet s w (.returned (.int .i64 0)) w' := by
  unfold QchkRet Z.rchk; rw [h, h']
  cases hf : Z.rF s
  · simp; exact hb
  · simp [hg hf]; exact hb
set_option maxRecDepth 100000 in
set_option maxHeartbeats 4000000 in
theorem qcheck_any (s : ByteArray) (w : World) (hv : HasV w) (hs : s.size ≤ 100000) : Calls Tryd.prog 80 #[.string s] w (QchkRet s w) := by
  have hsz := Z.cut_size s
  have SP := Lib.hid (split_any s w hv hs)
  have FN := Lib.hid (fun W : World => form_any (Z.rN s) W (by unfold maxLen; omega))
  have FD := Lib.hid (fun W : World => form_any (Z.rD s) W (by unfold maxLen; omega))
  have CN := Lib.hid (fun W : World => check_any (Z.rN s) W (by unfold maxLen; omega))
  have CD := Lib.hid (fun W : World => check_any (Z.rD s) W (by unfold maxLen; omega))
  have GC := Lib.hid (fun W : World => gcd_any (Z.rN s) (Z.rD s) W (by unfold maxLen; omega) (by unfold maxLen; omega))
  have B1 := Lib.hid (fun w' => @qchk_bad s w w')
  have B2 := Lib.hid (fun w' => @qchk_big s w w')
  have B3 := Lib.hid (fun w' => @qchk_gcd s w w')
  have B4 := Lib.hid (fun w' => @qchk_ok s w w')
  have E1 : Hid (Z.rbad s = (!Z.canon (Z.rN s).data.toList || (Z.rF s && (!Z.canon (Z.rD s).data.toList || Z.isNeg (Z.rD s).data.toList || decide (Z.rd s = 0) || decide (Z.rd s = 1))))) := rfl
  have E2 : Hid (Z.rbig s = (!decide (Z.chk (Z.rN s).data.toList = 0) || (Z.rF s && !decide (Z.chk (Z.rD s).data.toList = 0)))) := rfl
  have E3 : Hid (Z.rd s = if Z.rF s then Z.ival (Z.rD s).data.toList else 1) := rfl
  have E4 : Hid (Z.rn s = Z.ival (Z.rN s).data.toList) := rfl
  unfold SplitRet at SP
  unfold Z.formE at FN FD
  unfold GcdRet at GC
  clear hv hs
  cases hn : Z.canon (Z.rN s).data.toList
  · have hb : Z.rbad s = true := by rw [E1.out, hn]; rfl
    have HF := Lib.hid (fun w' hw => B1.out w' hb hw)
    rw [hn] at FN
    simp only [Bool.false_eq_true, if_false] at FN
    clear hn hb B1 B2 B3 B4 E1 E2 E3 E4 hsz
    generalize Z.rN s = N at *
    generalize Z.rD s = D at *
    generalize Z.rF s = f at *
    go_enter Tryd.func80, Tryd.ntmps80
    go_wp2_with fail
    refine SP.out.mono ?_
    rintro e w' ⟨rfl, n, rfl⟩
    go_wp2_with fail
    refine (FN.out _).mono ?_
    rintro e w' ⟨rfl, rfl⟩
    go_wp2_with fail
    go_ret
    exact HF.out _ (below_of_drewN _ _ _)
  · rw [hn] at FN
    simp only [if_true] at FN
    cases hf : Z.rF s
    · have hb : Z.rbad s = false := by rw [E1.out, hn, hf]; rfl
      rw [hf] at SP
      by_cases hk : Z.chk (Z.rN s).data.toList = 0
      · have hg : Z.rbig s = false := by rw [E2.out, hk, hf]; rfl
        have HF := Lib.hid (fun w' hw => B4.out w' hb hg (fun h => by rw [hf] at h; cases h) hw)
        rw [hk] at CN
        clear hn hb hf hk hg B1 B2 B3 B4 E1 E2 E3 E4 hsz
        generalize Z.rN s = N at *
        generalize Z.rD s = D at *
        go_enter Tryd.func80, Tryd.ntmps80
        go_wp2_with fail
        refine SP.out.mono ?_
        rintro e w' ⟨rfl, n, rfl⟩
        go_wp2_with fail
        refine (FN.out _).mono ?_
        rintro e w' ⟨rfl, rfl⟩
        go_wp2_with fail
        refine (CN.out _).mono ?_
        rintro e w' ⟨rfl, rfl⟩
        go_wp2_with fail
        go_ret
        exact HF.out _ (below_of_drewN _ _ _)
      · have hg : Z.rbig s = true := by rw [E2.out, decide_eq_false hk]; rfl
        have HF := Lib.hid (fun w' hw => B2.out w' hb hg hw)
        generalize Z.chk (Z.rN s).data.toList = kn at *
        have hkb : (kn != 0) = true := by simpa using hk
        clear hn hb hf hk hg B1 B2 B3 B4 E1 E2 E3 E4 hsz
        generalize Z.rN s = N at *
        generalize Z.rD s = D at *
        go_enter Tryd.func80, Tryd.ntmps80
        go_wp2_with fail
        refine SP.out.mono ?_
        rintro e w' ⟨rfl, n, rfl⟩
        go_wp2_with fail
        refine (FN.out _).mono ?_
        rintro e w' ⟨rfl, rfl⟩
        go_wp2_with fail
        refine (CN.out _).mono ?_
        rintro e w' ⟨rfl, rfl⟩
        go_wp2_with fail
        go_ret
        exact HF.out _ (below_of_drewN _ _ _)
    · rw [hf] at SP
      cases hd : Z.canon (Z.rD s).data.toList
      · have hb : Z.rbad s = true := by rw [E1.out, hn, hf, hd]; rfl
        have HF := Lib.hid (fun w' hw => B1.out w' hb hw)
        rw [hd] at FD
        simp only [Bool.false_eq_true, if_false] at FD
        clear hn hb hf B1 B2 B3 B4 E1 E2 E3 E4 hsz hd
        generalize Z.rN s = N at *
        generalize Z.rD s = D at *
        go_enter Tryd.func80, Tryd.ntmps80
        go_wp2_with fail
        refine SP.out.mono ?_
        rintro e w' ⟨rfl, n, rfl⟩
        go_wp2_with fail
        refine (FN.out _).mono ?_
        rintro e w' ⟨rfl, rfl⟩
        go_wp2_with fail
        refine (FD.out _).mono ?_
        rintro e w' ⟨rfl, rfl⟩
        go_wp2_with fail
        go_ret
        exact HF.out _ (below_of_drewN _ _ _)
      · rw [hd] at FD
        simp only [if_true] at FD
        have hv : Z.rd s = Z.ival (Z.rD s).data.toList := by rw [E3.out, hf]; rfl
        have hD : Z.rD s = Z.S (Z.rd s) := by rw [hv]; exact (Z.S_of hd).symm
        have hng : Z.isNeg (Z.rD s).data.toList = decide (Z.rd s < 0) := by rw [Z.isNeg_ival hd, hv]
        have hps : 0 < (Z.rD s).size := by rw [hD]; exact Z.S_pos _
        have hhd : ∀ h : 0 < (Z.rD s).size, ((((Z.rD s)[0]'h).toNat : Int) == 45) = decide (Z.rd s < 0) := by rw [hD]; exact Z.S_headF _
        have e48 : ((Z.rD s).toList == [48]) = decide (Z.rd s = 0) := by
          rw [hD]
          by_cases h : Z.rd s = 0
          · rw [h, Z.S_zero, Lib.toList_data]; rfl
          · rw [Z.S_ne_zero h]; simp [h]
        have e49 : ((Z.rD s).toList == [49]) = decide (Z.rd s = 1) := by
          rw [hD]
          by_cases h : Z.rd s = 1
          · rw [h, Z.S_one, Lib.toList_data]; rfl
          · have := Z.S_beq h
            rw [Z.S_one, Lib.toList_data ⟨#[49]⟩] at this
            rw [show ((Z.S (Z.rd s)).toList == [49]) = false from this]; simp [h]
        clear hD
        rw [hng] at E1
        by_cases hneg : Z.rd s < 0
        · have hb : Z.rbad s = true := by rw [E1.out, hn, hf, hd]; simp [hneg]
          have HF := Lib.hid (fun w' hw => B1.out w' hb hw)
          simp only [decide_eq_true hneg] at hhd
          clear hv hng
          generalize Z.rd s = v at *
          clear hn hb hf B1 B2 B3 B4 E1 E2 E3 E4 hsz hd
          generalize hQ : decide (v = 0) = q0 at *
          generalize decide (v = 1) = q1 at *
          clear hQ hneg
          generalize Z.rN s = N at *
          generalize Z.rD s = D at *
          have hh := hhd hps
          clear hhd
          go_enter Tryd.func80, Tryd.ntmps80
          go_wp2_with fail
          refine SP.out.mono ?_
          rintro e w' ⟨rfl, n, rfl⟩
          go_wp2_with fail
          refine (FN.out _).mono ?_
          rintro e w' ⟨rfl, rfl⟩
          go_wp2_with fail
          refine (FD.out _).mono ?_
          rintro e w' ⟨rfl, rfl⟩
          go_wp2_with fail
          go_ret
          exact HF.out _ (below_of_drewN _ _ _)
        · skip
          by_cases h0 : Z.rd s = 0
          · have hb : Z.rbad s = true := by rw [E1.out, hn, hf, hd]; simp [h0]
            have HF := Lib.hid (fun w' hw => B1.out w' hb hw)
            simp only [decide_eq_false hneg] at hhd
            rw [decide_eq_true h0] at e48
            clear hv hng
            generalize Z.rd s = v at *
            clear hn hb hf B1 B2 B3 B4 E1 E2 E3 E4 hsz hd
            clear e49 h0 hneg
            generalize Z.rN s = N at *
            generalize Z.rD s = D at *
            have hh := hhd hps
            clear hhd
            go_enter Tryd.func80, Tryd.ntmps80
            go_wp2_with fail
            refine SP.out.mono ?_
            rintro e w' ⟨rfl, n, rfl⟩
            go_wp2_with fail
            refine (FN.out _).mono ?_
            rintro e w' ⟨rfl, rfl⟩
            go_wp2_with fail
            refine (FD.out _).mono ?_
            rintro e w' ⟨rfl, rfl⟩
            go_wp2_with fail
            go_ret
            exact HF.out _ (below_of_drewN _ _ _)
          · skip
            by_cases h1 : Z.rd s = 1
            · have hb : Z.rbad s = true := by rw [E1.out, hn, hf, hd]; simp [h1]
              have HF := Lib.hid (fun w' hw => B1.out w' hb hw)
              simp only [decide_eq_false hneg] at hhd
              rw [decide_eq_false h0] at e48
              rw [decide_eq_true h1] at e49
              clear hv hng
              generalize Z.rd s = v at *
              clear hn hb hf B1 B2 B3 B4 E1 E2 E3 E4 hsz hd
              clear h1 h0 hneg
              generalize Z.rN s = N at *
              generalize Z.rD s = D at *
              have hh := hhd hps
              clear hhd
              go_enter Tryd.func80, Tryd.ntmps80
              go_wp2_with fail
              refine SP.out.mono ?_
              rintro e w' ⟨rfl, n, rfl⟩
              go_wp2_with fail
              refine (FN.out _).mono ?_
              rintro e w' ⟨rfl, rfl⟩
              go_wp2_with fail
              refine (FD.out _).mono ?_
              rintro e w' ⟨rfl, rfl⟩
              go_wp2_with fail
              go_ret
              exact HF.out _ (below_of_drewN _ _ _)
            · skip
              have hb : Z.rbad s = false := by rw [E1.out, hn, hf, hd]; simp [hneg, h0, h1]
              simp only [decide_eq_false hneg] at hhd
              rw [decide_eq_false h0] at e48
              rw [decide_eq_false h1] at e49
              by_cases hk : Z.chk (Z.rN s).data.toList = 0
              · skip
                by_cases hkd : Z.chk (Z.rD s).data.toList = 0
                · skip
                  have hg : Z.rbig s = false := by rw [E2.out, hf, hk, hkd]; rfl
                  have hbo := Z.bothE_ok hk hkd
                  have hop : Z.opS Z.gcdI (Z.rN s) (Z.rD s) = Z.S (Z.gcdI (Z.rn s) (Z.rd s)) := by
                    unfold Z.opS
                    rw [if_pos hbo, ← hv, ← E4.out]
                    have := Z.gcd_size hbo
                    rw [← hv, ← E4.out] at this
                    unfold Z.resS
                    rw [if_neg (by omega)]; rfl
                  rw [hop, hbo] at GC
                  rw [hk] at CN
                  rw [hkd] at CD
                  clear hop hbo
                  by_cases hgc : Z.gcdI (Z.rn s) (Z.rd s) = 1
                  · have HF := Lib.hid (fun w' hw => B4.out w' hb hg (fun _ => hgc) hw)
                    rw [hgc, Z.S_one] at GC
                    clear hv hng hneg h0 h1 hgc
                    generalize Z.rd s = v at *
                    generalize Z.rn s = u at *
                    clear hn hb hf B1 B2 B3 B4 E1 E2 E3 E4 hsz hd hk hkd hg
                    generalize Z.rN s = N at *
                    generalize Z.rD s = D at *
                    have hh := hhd hps
                    clear hhd
                    go_enter Tryd.func80, Tryd.ntmps80
                    go_wp2_with fail
                    refine SP.out.mono ?_
                    rintro e w' ⟨rfl, n, rfl⟩
                    go_wp2_with fail
                    refine (FN.out _).mono ?_
                    rintro e w' ⟨rfl, rfl⟩
                    go_wp2_with fail
                    refine (FD.out _).mono ?_
                    rintro e w' ⟨rfl, rfl⟩
                    go_wp2_with fail
                    refine (CN.out _).mono ?_
                    rintro e w' ⟨rfl, rfl⟩
                    go_wp2_with fail
                    refine (CD.out _).mono ?_
                    rintro e w' ⟨rfl, rfl⟩
                    go_wp2_with fail
                    refine (GC.out _).mono ?_
                    rintro e w2 ⟨rfl, hb2⟩
                    go_wp2_with fail
                    go_ret
                    exact HF.out _ ((below_of_drewN _ _ _).trans hb2)
                  · have HF := Lib.hid (fun w' hw => B3.out w' hb hg hf hgc hw)
                    have e491 : ((Z.S (Z.gcdI (Z.rn s) (Z.rd s))).toList == [49]) = false := by
                      have := Z.S_beq hgc
                      rw [Z.S_one, Lib.toList_data ⟨#[49]⟩] at this
                      exact this
                    generalize Z.S (Z.gcdI (Z.rn s) (Z.rd s)) = GG at *
                    clear hv hng hneg h0 h1 hgc
                    generalize Z.rd s = v at *
                    generalize Z.rn s = u at *
                    clear hn hb hf B1 B2 B3 B4 E1 E2 E3 E4 hsz hd hk hkd hg
                    generalize Z.rN s = N at *
                    generalize Z.rD s = D at *
                    have hh := hhd hps
                    clear hhd
                    go_enter Tryd.func80, Tryd.ntmps80
                    go_wp2_with fail
                    refine SP.out.mono ?_
                    rintro e w' ⟨rfl, n, rfl⟩
                    go_wp2_with fail
                    refine (FN.out _).mono ?_
                    rintro e w' ⟨rfl, rfl⟩
                    go_wp2_with fail
                    refine (FD.out _).mono ?_
                    rintro e w' ⟨rfl, rfl⟩
                    go_wp2_with fail
                    refine (CN.out _).mono ?_
                    rintro e w' ⟨rfl, rfl⟩
                    go_wp2_with fail
                    refine (CD.out _).mono ?_
                    rintro e w' ⟨rfl, rfl⟩
                    go_wp2_with fail
                    refine (GC.out _).mono ?_
                    rintro e w2 ⟨rfl, hb2⟩
                    go_wp2_with fail
                    go_ret
                    exact HF.out _ ((below_of_drewN _ _ _).trans hb2)
                · have hg : Z.rbig s = true := by rw [E2.out, hf, decide_eq_false hkd]; simp
                  have HF := Lib.hid (fun w' hw => B2.out w' hb hg hw)
                  rw [hk] at CN
                  clear hv hng hneg h0 h1
                  generalize Z.rd s = v at *
                  generalize Z.chk (Z.rD s).data.toList = kd at *
                  have hkb : (kd != 0) = true := by simpa using hkd
                  clear hn hb hf B1 B2 B3 B4 E1 E2 E3 E4 hsz hd hk hkd hg
                  generalize Z.rN s = N at *
                  generalize Z.rD s = D at *
                  have hh := hhd hps
                  clear hhd
                  go_enter Tryd.func80, Tryd.ntmps80
                  go_wp2_with fail
                  refine SP.out.mono ?_
                  rintro e w' ⟨rfl, n, rfl⟩
                  go_wp2_with fail
                  refine (FN.out _).mono ?_
                  rintro e w' ⟨rfl, rfl⟩
                  go_wp2_with fail
                  refine (FD.out _).mono ?_
                  rintro e w' ⟨rfl, rfl⟩
                  go_wp2_with fail
                  refine (CN.out _).mono ?_
                  rintro e w' ⟨rfl, rfl⟩
                  go_wp2_with fail
                  refine (CD.out _).mono ?_
                  rintro e w' ⟨rfl, rfl⟩
                  go_wp2_with fail
                  go_ret
                  exact HF.out _ (below_of_drewN _ _ _)
              · have hg : Z.rbig s = true := by rw [E2.out, decide_eq_false hk]; rfl
                have HF := Lib.hid (fun w' hw => B2.out w' hb hg hw)
                clear hv hng hneg h0 h1
                generalize Z.rd s = v at *
                generalize Z.chk (Z.rN s).data.toList = kn at *
                have hkb : (kn != 0) = true := by simpa using hk
                clear hn hb hf B1 B2 B3 B4 E1 E2 E3 E4 hsz hd hk hg
                generalize Z.rN s = N at *
                generalize Z.rD s = D at *
                have hh := hhd hps
                clear hhd
                go_enter Tryd.func80, Tryd.ntmps80
                go_wp2_with fail
                refine SP.out.mono ?_
                rintro e w' ⟨rfl, n, rfl⟩
                go_wp2_with fail
                refine (FN.out _).mono ?_
                rintro e w' ⟨rfl, rfl⟩
                go_wp2_with fail
                refine (FD.out _).mono ?_
                rintro e w' ⟨rfl, rfl⟩
                go_wp2_with fail
                refine (CN.out _).mono ?_
                rintro e w' ⟨rfl, rfl⟩
                go_wp2_with fail
                go_ret
                exact HF.out _ (below_of_drewN _ _ _)
end Go.Proofs.YtifafmomkpkgdaaDoor
/- Walks: rational.Parts, Make, Of, Ratio. -/

namespace Go.Proofs.YtifafmomkpkgdaaDoor
open Go.RowKit
def MakeRet (a b : ByteArray) (w : World) (e : Ending) (w' : World) : Prop := e = .returned (.tuple #[.string (Z.makeS a b), .int .i64 (Z.makeE a b)]) ∧ Below w.heap.size w w'
theorem make_bad {a b : ByteArray} {w w' : World} (h : Z.bothE a b ≠ 0) (hb : Below w.heap.size w w') : MakeRet a b w (.returned (.tuple #[.string ⟨#[]⟩, .int .i64 (Z.bothE a b)])) w' := by
  unfold MakeRet Z.makeS Z.makeE
  rw [if_neg h, if_neg h]; exact ⟨rfl, hb⟩
theorem make_zero {a b : ByteArray} {w w' : World} (h : Z.bothE a b = 0) (hy : Z.ival b.data.toList = 0) (hb : Below w.heap.size w w') : MakeRet a b w (.returned (.tuple #[.string ⟨#[]⟩, .int .i64 16])) w' := by
  unfold MakeRet Z.makeS Z.makeE
  rw [if_pos h, if_pos hy]; exact ⟨rfl, hb⟩
theorem make_ok {a b : ByteArray} {w w' : World} {q : Rat} (h : Z.bothE a b = 0) (hy : Z.ival b.data.toList ≠ 0) (hq : Rat.divInt (Z.ival a.data.toList) (Z.ival b.data.toList) = q) (hb : Below w.heap.size w w') :
    MakeRet a b w (.returned (.tuple #[.string (Z.Q q), .int .i64 0])) w' := by
  subst hq
  unfold MakeRet Z.makeS Z.makeE
  rw [if_pos h, if_neg hy, if_pos rfl]; exact ⟨rfl, hb⟩
namespace Z
theorem lt_of_mags {a : ByteArray} {n : Nat} (hc : canon a.data.toList = true) (hl : (mags a.data.toList).length ≤ n) : Lt n (ival a.data.toList) := by
  unfold Lt
  have hp := canon_parts hc
  have h1 : natOf (mags a.data.toList) < 10 ^ (mags a.data.toList).length := natOf_lt (List.all_eq_true.1 hp.all)
  rw [natAbs_ival]
  exact Nat.lt_of_lt_of_le h1 (Nat.pow_le_pow_right (by omega) hl)
/-- A string without error is an integer's text, of at most 1,000 digits. -/
theorem int_of {a : ByteArray} (h : chk a.data.toList = 0) : ∃ x, a = S x ∧ Lt 1000 x :=
  ⟨_, (S_of (chk_zero_iff.1 h).1).symm, lt_of_mags (chk_zero_iff.1 h).1 (chk_zero_iff.1 h).2⟩
theorem S_minus {z : Int} (h : 0 ≤ z) (h0 : z ≠ 0) : (⟨#[45]⟩ : ByteArray) ++ S z = S (-z) := by
  apply ba_of
  rw [ByteArray.data_append, Array.toList_append, S_data, S_data]
  unfold txt
  rw [if_neg (by omega), if_pos (by omega), Int.natAbs_neg]
  rfl
theorem S_size_le {n : Nat} {x : Int} (h : Lt n x) (hn : 0 < n) (hn' : n ≤ 1000) : (S x).size ≤ 1001 := by
  have h1 := chk_size (h.chk hn hn')
  rwa [← Lib.size_eq] at h1
theorem e49 (v : Int) : ((S v).toList == [49]) = decide (v = 1) := by
  by_cases h : v = 1
  · rw [h, S_one, Lib.toList_data]; rfl
  · have := S_beq h
    rw [S_one, Lib.toList_data ⟨#[49]⟩] at this
    rw [show ((S v).toList == [49]) = false from this]; simp [h]
theorem e48 (v : Int) : ((S v).toList == [48]) = decide (v = 0) := by
  by_cases h : v = 0
  · rw [h, S_zero, Lib.toList_data]; rfl
  · rw [S_ne_zero h]; simp [h]
end Z
end Go.Proofs.YtifafmomkpkgdaaDoor
/- Walks: rational.both, and the operations that keep the first error. -/

namespace Go.Proofs.YtifafmomkpkgdaaDoor
open Go.RowKit
/-- The first error of two rationals. -/
def Z.rbothE (a b : ByteArray) : Int := if Z.rchk a = 0 then Z.rchk b else Z.rchk a
end Go.Proofs.YtifafmomkpkgdaaDoor
/- Walks: rational's operations that keep the first error: keep, made. -/

namespace Go.Proofs.YtifafmomkpkgdaaDoor
open Go.RowKit
/-- What an operation on two integers answers, as a contract of whatever function. -/
def OpC (F : Nat) (x y r : ByteArray) (k : Int) : Prop := ∀ W : World, Calls Tryd.prog F #[.string x, .string y] W fun e w' => e = .returned (.tuple #[.string r, .int .i64 k]) ∧ Below W.heap.size W w'
end Go.Proofs.YtifafmomkpkgdaaDoor
/- Walks: rational.Mul, Add, Sub. -/

namespace Go.Proofs.YtifafmomkpkgdaaDoor
open Go.RowKit

namespace Z
def fitL (l : List Int) : Bool := l.all fun z => decide (resE z = 0)
/-- The error of an operation on two rationals, which needs these integers. -/
def ropE (l : List Int) (a b : ByteArray) : Int := if rbothE a b = 0 then if fitL l then 0 else 14 else rbothE a b
def ropS (l : List Int) (v : Rat) (a b : ByteArray) : ByteArray := if ropE l a b = 0 then Q v else ⟨#[]⟩
theorem rbothE_ok {a b : ByteArray} (h : rbothE a b = 0) : ROk a ∧ ROk b := by
  unfold rbothE at h
  by_cases h1 : rchk a = 0
  · rw [if_pos h1] at h; exact ⟨rok h1, rok h⟩
  · rw [if_neg h1] at h; exact absurd h h1
theorem ROk.chks {s : ByteArray} (h : ROk s) : chk (S (rn s)).data.toList = 0 ∧ chk (S (rd s)).data.toList = 0 ∧ rN s = S (rn s) ∧ rD1 s = S (rd s) := by
  have h1 := h.n
  have h2 := h.d
  rw [h.num.1] at h1
  rw [h.num.2] at h2
  exact ⟨by rw [← h1]; exact h.kn, by rw [← h2]; exact h.kd, h1, h2⟩
theorem opS_ints {f : Int → Int → Int} {x y : Int} (hx : chk (S x).data.toList = 0) (hy : chk (S y).data.toList = 0) : opS f (S x) (S y) = resS (f x y) ∧ opE f (S x) (S y) = resE (f x y) := by
  have hb := bothE_ok hx hy
  unfold opS opE
  rw [if_pos hb, if_pos hb, ival_S, ival_S]
  exact ⟨rfl, rfl⟩
theorem res_fit {z : Int} (h : resE z = 0) : resS z = S z ∧ chk (S z).data.toList = 0 := by
  obtain ⟨h1, h2⟩ := resS_ok h
  exact ⟨h1, by rw [S_data]; exact chk_txt h2⟩
theorem res_14 {z : Int} (h : resE z ≠ 0) : resE z = 14 := (resE_cases z).resolve_left h
theorem chk_max {x : Int} (h : chk (S x).data.toList = 0) : (S x).size ≤ maxLen := by
  have := chk_size h
  rw [← Lib.size_eq] at this
  unfold maxLen; omega
theorem make_S {x y : Int} (hx : chk (S x).data.toList = 0) (hy : chk (S y).data.toList = 0) (h0 : y ≠ 0) : makeE (S x) (S y) = 0 ∧ makeS (S x) (S y) = Q (Rat.divInt x y) := by
  have he : makeE (S x) (S y) = 0 := by
    unfold makeE
    rw [if_pos (bothE_ok hx hy), if_neg (by rw [ival_S]; exact h0)]
  unfold makeS
  rw [if_pos he, ival_S, ival_S]
  exact ⟨he, rfl⟩
end Z
def RopRet (l : List Int) (v : Rat) (a b : ByteArray) (w : World) (e : Ending) (w' : World) : Prop := e = .returned (.tuple #[.string (Z.ropS l v a b), .int .i64 (Z.ropE l a b)]) ∧ Below w.heap.size w w'
theorem rop_bad {l : List Int} {v : Rat} {a b : ByteArray} {w w' : World} (h : Z.rbothE a b ≠ 0) (hb : Below w.heap.size w w') : RopRet l v a b w (.returned (.tuple #[.string ⟨#[]⟩, .int .i64 (Z.rbothE a b)])) w' := by
  unfold RopRet Z.ropS Z.ropE
  rw [if_neg h, if_neg h]; exact ⟨rfl, hb⟩
theorem rop_big {l : List Int} {v : Rat} {a b : ByteArray} {w w' : World} (h : Z.rbothE a b = 0) (hf : Z.fitL l = false) (hb : Below w.heap.size w w') : RopRet l v a b w (.returned (.tuple #[.string ⟨#[]⟩, .int .i64 14])) w' := by
  unfold RopRet Z.ropS Z.ropE
  rw [if_pos h, hf]; exact ⟨rfl, hb⟩
theorem rop_ok {l : List Int} {v : Rat} {a b : ByteArray} {w w' : World} (h : Z.rbothE a b = 0) (hf : Z.fitL l = true) (hb : Below w.heap.size w w') : RopRet l v a b w (.returned (.tuple #[.string (Z.Q v), .int .i64 0])) w' := by
  unfold RopRet Z.ropS Z.ropE
  rw [if_pos h, hf]; exact ⟨rfl, hb⟩
end Go.Proofs.YtifafmomkpkgdaaDoor
