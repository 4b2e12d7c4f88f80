/- Walks: the sort of an expression; Check, Number, Truth. -/
import Derived.Test.YtifafmomkpkgdaaDoorOsa
import Derived.Test.YtifafmomkpkgdaaDoorAbv
import Derived.Test.YtifafmomkpkgdaaDoorOsm
namespace Go.Proofs.YtifafmomkpkgdaaDoor
open Go.RowKit
namespace Z
def srt (own : Int) (b0 b1 b2 b3 : Bool) : Int := if (b0 && (b1 && (b2 && b3))) = true then own else 0
theorem sortN_none {a : XN} {l : List Int} (h : shp a.k = none) : sortN a l = leafS a l.length := by unfold sortN; rw [h]
theorem sortN_some {a : XN} {l ps : List Int} {own : Int} (h : shp a.k = some (ps, own)) : sortN a l = srt own (decide (l = ps)) (decide (a.rat = e0)) (decide (a.name = e0)) (decide (a.date = 0)) := by
  unfold sortN srt
  rw [h]
  refine ite_congr ?_ (fun _ => rfl) (fun _ => rfl)
  simp
theorem srt_len {l ps : List Int} (h : l.length ≠ ps.length) : decide (l = ps) = false := by
  rw [decide_eq_false_iff_not]; exact fun e => h (by rw [e])
theorem srt_bad {α : Type} {f : α → Int} {l : List α} {ps : List Int} {k : Nat} {y : α} {p : Int} (h1 : l[k]? = some y) (h2 : ps[k]? = some p) (h : f y ≠ p) : decide (l.map f = ps) = false := by
  rw [decide_eq_false_iff_not]
  intro e
  rw [← e, List.getElem?_map, h1] at h2
  exact h (by simpa using h2)
theorem srt_ok {α : Type} {f : α → Int} {l : List α} {ps : List Int} (hl : l.length = ps.length) (h : ∀ (j : Nat) (y : α) (p : Int), l[j]? = some y → ps[j]? = some p → f y = p) : decide (l.map f = ps) = true := by
  rw [decide_eq_true_iff]
  refine List.ext_getElem? fun j => ?_
  rw [List.getElem?_map]
  rcases Nat.lt_or_ge j l.length with hj | hj
  · rw [List.getElem?_eq_getElem hj, List.getElem?_eq_getElem (by omega : j < ps.length)]
    exact congrArg some (h j _ _ (List.getElem?_eq_getElem hj) (List.getElem?_eq_getElem (by omega : j < ps.length)))
  · rw [List.getElem?_eq_none hj, List.getElem?_eq_none (by omega)]
    rfl
theorem XSm.le : ∀ {n : Nat} {e : Ex n}, XSm n e → XLe 3000 n e
  | 0, e, _ => e.no
  | _ + 1, _, h => ⟨h.str.1, h.str.2, fun _ hx => (h.sub hx).le⟩
theorem XLe.mono {M M' : Nat} (h : M ≤ M') : ∀ {n : Nat} {e : Ex n}, XLe M n e → XLe M' n e
  | 0, e, _ => e.no
  | _ + 1, _, k => ⟨Nat.le_trans k.1 h, Nat.le_trans k.2.1 h, fun x hx => (k.2.2 x hx).mono h⟩
end Z
set_option maxRecDepth 100000 in
set_option maxHeartbeats 4000000 in
theorem sorted_any : ∀ (n : Nat) (x : Z.Ex n) (a : Z.XN) (u : Value) (w : World), XV w n x (a, u) → Lay w → HasV w → Z.XLe 100000 n x → Calls Tryd.prog 44 #[.agg #[.int .u8 a.k, .string a.rat, .string a.name, .int .i64 a.date, u]] w fun e w' => e = .returned (.int .u8 (Z.exSort n x)) ∧ Below w.heap.size w w' := by
  intro n
  induction n with
  | zero => intro x; exact x.no
  | succ n ih =>
    intro x a u w hx hL hV hle
    obtain ⟨rfl, hS⟩ := hx.open_
    have hkk := hx.kind
    obtain ⟨A, cp, rfl, hlc, hcm⟩ := hS.shape
    unfold maxLen at hcm
    obtain ⟨bm, hg, hglt, hlook⟩ := hL.shapes
    have hb0 := (Below.refl _ w).alloc (Nat.le_refl w.heap.size) (.cells #[.int .u8 x.top.k, .string x.top.rat, .string x.top.name, .int .i64 x.top.date, .slice A x.sub.length cp] 25)
    have BX := Blk.new w 25 #[.int .u8 x.top.k, .string x.top.rat, .string x.top.name, .int .i64 x.top.date, .slice A x.sub.length cp]
    have g0 := (hb0.cell (p := ⟨1, 0, none⟩) hglt).trans hg
    have hlk := hlook _ x.top.k hb0 hkk.1 hkk.2
    have c0 := BX.cell 0
    have HX0 := Lib.hid (XV.below hb0 _ hx)
    cases hsh : Z.shp x.top.k with
    | none =>
      have hlk0 := hlk.1 hsh
      have HR : Hid (Z.exSort (n + 1) x = Z.leafS x.top x.sub.length) := Lib.hid (by rw [Z.exSort, Z.sortN_none hsh, List.length_map])
      have HV := Lib.hid hV
      have HLE := Lib.hid hle
      clear hlk hsh hx hL hS hV hle hlook ih
      generalize Z.exSort (n + 1) x = R at *
      have c1 := BX.cell 1
      have c2 := BX.cell 2
      have c3 := BX.cell 3
      have c4 := BX.cell 4
      go_enter Tryd.func44, Tryd.ntmps44
      go_upto_region 3 with fail
      generalize hW0 : (w.alloc (.cells #[.int .u8 x.top.k, .string x.top.rat, .string x.top.name, .int .i64 x.top.date, .slice A x.sub.length cp] 25)) = W0 at *
      have hb1 := (Below.refl _ W0).alloc (Nat.le_refl W0.heap.size) (.cells #[.slice none 0 0, .int .u8 0] 78)
      have d0 := (BX.below hb1).cell 0
      have d1 := (BX.below hb1).cell 1
      have d2 := (BX.below hb1).cell 2
      have d3 := (BX.below hb1).cell 3
      have d4 := (BX.below hb1).cell 4
      have hbw := hb0.trans (hb1.mono hb0.size)
      have HLF := Lib.hid (leaf_any n x _ _ (XV.below hb1 _ HX0.out) (HV.out.below hbw) HLE.out.1 HLE.out.2.1)
      clear HX0
      go_wp2_with fail
      refine HLF.out.mono ?_
      rintro e W1 ⟨rfl, hb⟩
      go_wp2_with fail
      go_ret
      exact ⟨ret_int HR.out.symm, hbw.trans (hb.mono hbw.size)⟩
    | some po =>
      obtain ⟨ps, own⟩ := po
      obtain ⟨A', c', hlk1, hSU⟩ := hlk.2 ps own hsh
      have HSU := Lib.hid hSU
      obtain ⟨b0, HB0⟩ : ∃ b, Hid (b = decide (x.sub.map (Z.exSort n) = ps)) := ⟨_, Lib.hid rfl⟩
      have hR : Z.exSort (n + 1) x = Z.srt own b0 (decide (x.top.rat = Z.e0)) (decide (x.top.name = Z.e0)) (decide (x.top.date = 0)) := by rw [HB0.out, Z.exSort, Z.sortN_some hsh]
      have h1 := Z.isE x.top.rat
      have h2 := Z.isE x.top.name
      have HS := Lib.hid (ES.below hb0 hS)
      have HL := Lib.hid (hL.below hb0)
      have HV := Lib.hid (hV.below hb0)
      have HLE := Lib.hid hle.2.2
      clear hlk hsh hx hL hS hV hle hlook hSU HX0
      generalize Z.exSort (n + 1) x = R at *
      generalize x.sub = l at *
      generalize x.top = t at *
      have c1 := BX.cell 1
      have c2 := BX.cell 2
      have c3 := BX.cell 3
      have c4 := BX.cell 4
      obtain ⟨p0, hp0⟩ : ∃ p, p = decide (t.rat = Z.e0) := ⟨_, rfl⟩
      obtain ⟨p1, hp1⟩ : ∃ p, p = decide (t.name = Z.e0) := ⟨_, rfl⟩
      rw [← hp0] at h1 hR
      rw [← hp1] at h2 hR
      have HR := Lib.hid hR
      clear hR hp0 hp1
      go_enter Tryd.func44, Tryd.ntmps44
      go_upto_region 4 with fail
      have hsz : (w.alloc (.cells #[.int .u8 t.k, .string t.rat, .string t.name, .int .i64 t.date, .slice A l.length cp] 25)).heap.size = w.heap.size + 1 := by simp
      generalize (w.alloc (.cells #[.int .u8 t.k, .string t.rat, .string t.name, .int .i64 t.date, .slice A l.length cp] 25)) = W0 at *
      have hb1 := (Below.refl _ W0).alloc (Nat.le_refl W0.heap.size) (.cells #[.slice A' ps.length c', .int .u8 own] 78)
      have BS := Blk.new W0 78 #[.slice A' ps.length c', .int .u8 own]
      rw [hsz] at BS
      have BX := BX.below hb1
      have hbw := hb0.trans (hb1.mono hb0.size)
      have HS := Lib.hid (ES.below hb1 HS.out)
      have HL := Lib.hid (HL.out.below hb1)
      have HV := Lib.hid (HV.out.below hb1)
      have HSU := Lib.hid (SL.below HSU.out hb1)
      clear hb1 hsz
      generalize W0.alloc (.cells #[.slice A' ps.length c', .int .u8 own] 78) = W1 at *
      have s0 := BS.cell 0
      have s1 := BS.cell 1
      have c1 := BX.cell 1
      have c2 := BX.cell 2
      have c3 := BX.cell 3
      have c4 := BX.cell 4
      by_cases hlen : l.length = ps.length
      · have HLN := Lib.hid hlen
        rw [← hlen] at s0 BS HSU ⊢
        clear hlen
        cases p0
        · go_wp2_with fail
          go_ret
          exact ⟨ret_int (by rw [HR.out]; cases b0 <;> rfl), hbw⟩
        cases p1
        · go_wp2_with fail
          go_ret
          exact ⟨ret_int (by rw [HR.out]; cases b0 <;> rfl), hbw⟩
        by_cases hd : t.date = 0
        rotate_left
        · rw [decide_eq_false hd] at HR
          go_wp2_with fail
          go_ret
          exact ⟨ret_int (by rw [HR.out]; cases b0 <;> rfl), hbw⟩
        rw [decide_eq_true hd] at HR
        generalize t.date = td at *
        subst hd
        go_wp2_with fail
        clear h1 h2 c1 c2
        go_loopw [43] (fun iv wr => ∃ (k : Nat), k ≤ l.length ∧ iv = .int .i64 k ∧ Hid (∀ (j : Nat) (y : Z.Ex n) (p : Int), j < k → l[j]? = some y → ps[j]? = some p → Z.exSort n y = p) ∧ Below W1.heap.size W1 wr) (fun iv _ => l.length - (intOf iv).toNat)
        case atStart => exact ⟨0, by omega, rfl, Lib.hid (fun j _ _ h => absurd h (Nat.not_lt_zero j)), Below.refl _ _⟩
        case round =>
          obtain ⟨k, hk, rfl, HI, hbr⟩ := hrel
          have hbw := hbw.trans (hbr.mono hbw.size)
          have BX := BX.below hbr
          have BS := BS.below hbr
          have c4 := BX.cell 4
          have s0 := BS.cell 0
          have s1 := BS.cell 1
          by_cases hlt : k < l.length
          · have hlt' : k < ps.length := by have := HLN.out; omega
            have hz : l[k]? = some l[k] := List.getElem?_eq_getElem hlt
            have hzp : ps[k]? = some ps[k] := List.getElem?_eq_getElem hlt'
            obtain ⟨b, o, ax, ux, rfl, hbl, q0, q1, q2, q3, q4, hv⟩ := ES.cells (ES.below hbr HS.out) hz
            obtain ⟨bp, op, rfl, hbp, r0⟩ := SL.cell1 (SL.below HSU.out hbr) hzp rfl
            have HM := Lib.hid (HLE.out _ (List.mem_of_getElem? hz))
            have HZ := Lib.hid hz
            have HZP := Lib.hid hzp
            clear hz hzp
            generalize l[k] = y at *
            generalize ps[k] = pk at *
            have hi0 : (0 : Int) ≤ (k : Int) := by omega
            have hi1 : (k : Int) < (l.length : Int) := by omega
            have hi2 : (k : Int) < (ps.length : Int) := by omega
            obtain ⟨Ax, kx, cx, rfl⟩ := hv.shape
            have hba := (Below.refl _ wr).alloc (Nat.le_refl wr.heap.size) (.cells #[.int .u8 ax.k, .string ax.rat, .string ax.name, .int .i64 ax.date, .slice Ax kx cx] 25)
            have BY := Blk.new wr 25 #[.int .u8 ax.k, .string ax.rat, .string ax.name, .int .i64 ax.date, .slice Ax kx cx]
            have HV2 := Lib.hid (XV.below hba n hv)
            have hbn := hbr.trans (hba.mono hbr.size)
            have HB := Lib.hid (fun q (h : Below (wr.alloc (.cells #[.int .u8 ax.k, .string ax.rat, .string ax.name, .int .i64 ax.date, .slice Ax kx cx] 25)).heap.size (wr.alloc (.cells #[.int .u8 ax.k, .string ax.rat, .string ax.name, .int .i64 ax.date, .slice Ax kx cx] 25)) q) => ih y ax (.slice Ax kx cx) q (XV.below h n HV2.out) ((HL.out.below hbn).below h) ((HV.out.below hbn).below h) HM.out)
            have r0 := (hba.cell (p := ⟨bp, op + k, none⟩) hbp).trans r0
            have hbp' := Nat.lt_of_lt_of_le hbp hba.size
            have s0 := (BS.below hba).cell 0
            have hbs := (BS.below hba).lt
            have z0 := BY.cell 0
            have z1 := BY.cell 1
            have z2 := BY.cell 2
            have z3 := BY.cell 3
            have z4 := BY.cell 4
            have hby := BY.lt
            generalize hs' : Z.exSort n y = sy at *
            have HSY := Lib.hid hs'
            clear hv ih HV2 hs'
            go_upto_region 9 with fail
            generalize (wr.alloc (.cells #[.int .u8 ax.k, .string ax.rat, .string ax.name, .int .i64 ax.date, .slice Ax kx cx] 25)) = W2 at *
            have y0 : ∀ q : Ab W2, q.1.cell? ⟨wr.heap.size, 0, none⟩ = some (.int .u8 ax.k) := fun q => q.cell z0 hby
            have y1 : ∀ q : Ab W2, q.1.cell? ⟨wr.heap.size, 1, none⟩ = some (.string ax.rat) := fun q => q.cell z1 hby
            have y2 : ∀ q : Ab W2, q.1.cell? ⟨wr.heap.size, 2, none⟩ = some (.string ax.name) := fun q => q.cell z2 hby
            have y3 : ∀ q : Ab W2, q.1.cell? ⟨wr.heap.size, 3, none⟩ = some (.int .i64 ax.date) := fun q => q.cell z3 hby
            have y4 : ∀ q : Ab W2, q.1.cell? ⟨wr.heap.size, 4, none⟩ = some (.slice Ax kx cx) := fun q => q.cell z4 hby
            have t0 : ∀ q : Ab W2, q.1.cell? ⟨w.heap.size + 1, 0, none⟩ = some (.slice (some ⟨bp, op, none⟩) l.length c') := fun q => q.cell s0 hbs
            have u0 : ∀ q : Ab W2, q.1.cell? ⟨bp, op + k, none⟩ = some (.int .u8 pk) := fun q => q.cell r0 hbp'
            have HQ := Lib.hid (fun q : Ab W2 => HB.out q.1 q.2)
            clear HB z0 z1 z2 z3 z4 s0 r0
            have hbw2 := hbw.trans (hba.mono hbw.size)
            by_cases hsp : sy = pk
            · subst hsp
              refine wp_region_above (by kernel_rfl) (by kernel_rfl) ?_
              repeat (go_big_quiet_step (first | (go_at_call 44; with_reducible exact Ab.step (HQ.out _))))
              refine wpQuiet_nil ?_
              rintro _ ⟨q', rfl⟩
              have hbn := hbn.trans (q'.2.mono hbn.size)
              have HI2 : Hid (∀ (j : Nat) (y : Z.Ex n) (p : Int), j < k + 1 → l[j]? = some y → ps[j]? = some p → Z.exSort n y = p) := Lib.hid (fun j y p hj h1 h2 => by
                rcases Nat.lt_or_eq_of_le (Nat.lt_succ_iff.1 hj) with hj | rfl
                · exact HI.out j y p hj h1 h2
                · obtain rfl := Option.some.inj (HZ.out.symm.trans h1)
                  obtain rfl := Option.some.inj (HZP.out.symm.trans h2)
                  exact HSY.out)
              clear HI y0 y1 y2 y3 y4 t0 u0 HQ
              go_wp2_with fail
              go_roundw
              case rel => first | exact ⟨k + 1, by omega, by go_num, HI2, hbn⟩ | ((repeat apply Exists.intro); exact ⟨⟨k + 1, by omega, by go_num, HI2, hbn⟩, rfl⟩)
              case measure => simp [intOf]; omega
            · have hbf : b0 = false := by rw [HB0.out]; exact Z.srt_bad HZ.out HZP.out (by rw [HSY.out]; exact hsp)
              refine wp_region_above (by kernel_rfl) (by kernel_rfl) ?_
              repeat (go_big_quiet_step (first | (go_at_call 44; with_reducible exact Ab.step (HQ.out _))))
              refine wpQuiet_nil ?_
              rintro _ ⟨q', rfl⟩
              clear HI y0 y1 y2 y3 y4 t0 u0 HQ
              go_wp2_with fail
              go_ret
              exact ⟨ret_int (by rw [HR.out, hbf]; rfl), hbw2.trans (q'.2.mono hbw2.size)⟩
          · obtain rfl : k = l.length := by omega
            have hbt : b0 = true := by rw [HB0.out]; exact Z.srt_ok HLN.out fun j y p h1 h2 => HI.out j y p (List.getElem?_eq_some_iff.1 h1).1 h1 h2
            subst hbt
            go_wp2_with fail
            go_ret
            exact ⟨ret_int (by rw [HR.out]; rfl), hbw⟩
      · have h4 : ¬ (l.length : Int) = (ps.length : Int) := by omega
        have hbf : b0 = false := by rw [HB0.out]; exact Z.srt_len (by rw [List.length_map]; exact hlen)
        clear hlen
        go_wp2_with fail
        go_ret
        exact ⟨ret_int (by rw [HR.out, hbf]; rfl), hbw⟩
set_option maxRecDepth 100000 in
theorem xcheck_any (n : Nat) (x : Z.Ex (n + 1)) (u : Value) (w : World) (hx : XV w (n + 1) x (x.top, u)) (hL : Lay w) (hV : HasV w) (hs : Z.XSm (n + 1) x) :
    Calls Tryd.prog 31 #[.agg #[.int .u8 x.top.k, .string x.top.rat, .string x.top.name, .int .i64 x.top.date, u]] w fun e w' => e = .returned (.int .i64 (Z.exE (n + 1) x)) ∧ Below w.heap.size w w' := by
  obtain ⟨A, k, cp, rfl⟩ := hx.shape
  have hb0 := (Below.refl _ w).alloc (Nat.le_refl w.heap.size) (.cells #[.int .u8 x.top.k, .string x.top.rat, .string x.top.name, .int .i64 x.top.date, .slice A k cp] 25)
  have BX := Blk.new w 25 #[.int .u8 x.top.k, .string x.top.rat, .string x.top.name, .int .i64 x.top.date, .slice A k cp]
  have HS := Lib.hid (fun W (h : Below w.heap.size w W) => xsize_any (n + 1) x x.top _ W (XV.below h _ hx) (by have := hs.1; omega))
  have HD := Lib.hid (fun W (h : Below w.heap.size w W) => xdepth_any (n + 1) x 60 x.top _ W (XV.below h _ hx) (by omega))
  have HT := Lib.hid (fun W (h : Below w.heap.size w W) => sorted_any (n + 1) x x.top _ W (XV.below h _ hx) (hL.below h) (hV.below h) (by
    have := hs.le
    exact Z.XLe.mono (by omega) this))
  have hD : Z.exDepthL (n + 1) x 60 = min (Z.exDepth (n + 1) x) 61 := Z.exDepthL_min (n + 1) x 60
  have hR : Z.exE (n + 1) x = if 500 < Z.exSize (n + 1) x ∨ 60 < Z.exDepth (n + 1) x then 4 else if Z.exSort (n + 1) x = 0 then 8 else 0 := rfl
  have hN := hs.1
  clear hx hL hV hs
  generalize x.top = t at *
  generalize Z.exE (n + 1) x = R at *
  generalize Z.exSize (n + 1) x = N at *
  generalize Z.exDepthL (n + 1) x 60 = L at *
  generalize Z.exDepth (n + 1) x = D at *
  generalize Z.exSort (n + 1) x = S at *
  have c0 := BX.cell 0
  have c1 := BX.cell 1
  have c2 := BX.cell 2
  have c3 := BX.cell 3
  have c4 := BX.cell 4
  have HDL := Lib.hid hD
  have HN := Lib.hid hN
  have HR := Lib.hid hR
  clear hD hN hR
  go_enter Tryd.func31, Tryd.ntmps31
  by_cases h5 : 500 < N
  · have h5' : (N : Int) > 500 := by omega
    have HE := Lib.hid (if_pos (Or.inl h5) : (if 500 < N ∨ 60 < D then (4 : Int) else if S = 0 then 8 else 0) = 4)
    clear h5
    go_wp2_with fail
    refine (HS.out _ hb0).mono ?_
    rintro e W1 ⟨rfl, hb⟩
    have hb1 := hb0.trans (hb.mono hb0.size)
    go_wp2_with fail
    go_ret
    exact ⟨ret_int (HE.out.symm.trans HR.out.symm), hb1⟩
  · have h5' : ¬ (N : Int) > 500 := by omega
    go_wp2_with fail
    refine (HS.out _ hb0).mono ?_
    rintro e W1 ⟨rfl, hb⟩
    have hb1 := hb0.trans (hb.mono hb0.size)
    have c0 := (BX.below hb).cell 0
    have c1 := (BX.below hb).cell 1
    have c2 := (BX.below hb).cell 2
    have c3 := (BX.below hb).cell 3
    have c4 := (BX.below hb).cell 4
    have BX := BX.below hb
    clear hb hb0
    go_wp2_with fail
    refine (HD.out _ hb1).mono ?_
    rintro e W2 ⟨rfl, hb⟩
    have hb2 := hb1.trans (hb.mono hb1.size)
    have c0 := (BX.below hb).cell 0
    have c1 := (BX.below hb).cell 1
    have c2 := (BX.below hb).cell 2
    have c3 := (BX.below hb).cell 3
    have c4 := (BX.below hb).cell 4
    clear hb hb1
    by_cases h6 : 60 < D
    · have hE : (if 500 < N ∨ 60 < D then (4 : Int) else if S = 0 then 8 else 0) = 4 := if_pos (Or.inr h6)
      have HE := Lib.hid hE
      clear hE
      have h6' : (L : Int) > 60 := by have := HDL.out; omega
      clear h6 h5
      go_wp2_with fail
      go_ret
      exact ⟨ret_int (HE.out.symm.trans HR.out.symm), hb2⟩
    · have hE : (if 500 < N ∨ 60 < D then (4 : Int) else if S = 0 then 8 else 0) = if S = 0 then 8 else 0 := if_neg (show ¬ (500 < N ∨ 60 < D) by omega)
      have HE := Lib.hid hE
      clear hE
      have h6' : ¬ (L : Int) > 60 := by have := HDL.out; omega
      clear h6 h5
      go_wp2_with fail
      refine (HT.out _ hb2).mono ?_
      rintro e W3 ⟨rfl, hb⟩
      have hb3 := hb2.trans (hb.mono hb2.size)
      clear hb hb2
      by_cases h7 : S = 0
      · have h7' : (S == 0) = true := by simpa using h7
        have HE2 := Lib.hid (HE.out.trans (if_pos h7))
        clear h7
        go_wp2_with fail
        go_ret
        exact ⟨ret_int (HE2.out.symm.trans HR.out.symm), hb3⟩
      · have h7' : (S == 0) = false := by simpa using h7
        have HE2 := Lib.hid (HE.out.trans (if_neg h7))
        go_wp2_with fail
        go_ret
        exact ⟨ret_int (HE2.out.symm.trans HR.out.symm), hb3⟩
set_option maxRecDepth 100000 in
theorem xnumber_any (n : Nat) (x : Z.Ex (n + 1)) (u : Value) (w : World) (hx : XV w (n + 1) x (x.top, u)) (hL : Lay w) (hV : HasV w) (hs : Z.XSm (n + 1) x) :
    Calls Tryd.prog 13 #[.agg #[.int .u8 x.top.k, .string x.top.rat, .string x.top.name, .int .i64 x.top.date, u]] w fun e w' => e = .returned (.bool (Z.numB (n + 1) x)) ∧ Below w.heap.size w w' := by
  obtain ⟨A, k, cp, rfl⟩ := hx.shape
  have hb0 := (Below.refl _ w).alloc (Nat.le_refl w.heap.size) (.cells #[.int .u8 x.top.k, .string x.top.rat, .string x.top.name, .int .i64 x.top.date, .slice A k cp] 25)
  have BX := Blk.new w 25 #[.int .u8 x.top.k, .string x.top.rat, .string x.top.name, .int .i64 x.top.date, .slice A k cp]
  have HC := Lib.hid (fun W (h : Below w.heap.size w W) => xcheck_any n x _ W (XV.below h _ hx) (hL.below h) (hV.below h) hs)
  have HT := Lib.hid (fun W (h : Below w.heap.size w W) => sorted_any (n + 1) x x.top _ W (XV.below h _ hx) (hL.below h) (hV.below h) (Z.XLe.mono (by omega) hs.le))
  unfold Z.numB
  have h1 := Z.eqI (Z.exE (n + 1) x) 0
  have h2 := Z.eqI (Z.exSort (n + 1) x) 1
  clear hx hL hV hs
  generalize x.top = t at *
  generalize Z.exE (n + 1) x = E at *
  generalize Z.exSort (n + 1) x = S at *
  generalize decide (E = 0) = b0 at *
  generalize decide (S = 1) = b1 at *
  have c0 := BX.cell 0
  have c1 := BX.cell 1
  have c2 := BX.cell 2
  have c3 := BX.cell 3
  have c4 := BX.cell 4
  go_enter Tryd.func13, Tryd.ntmps13
  go_wp2_with fail
  refine (HC.out _ hb0).mono ?_
  rintro e W1 ⟨rfl, hb⟩
  have hb1 := hb0.trans (hb.mono hb0.size)
  have c0 := (BX.below hb).cell 0
  have c1 := (BX.below hb).cell 1
  have c2 := (BX.below hb).cell 2
  have c3 := (BX.below hb).cell 3
  have c4 := (BX.below hb).cell 4
  clear hb hb0
  cases b0
  · go_wp2_with fail
    go_ret
    exact ⟨rfl, hb1⟩
  · go_wp2_with fail
    refine (HT.out _ hb1).mono ?_
    rintro e W2 ⟨rfl, hb⟩
    have hb2 := hb1.trans (hb.mono hb1.size)
    go_wp2_with fail
    go_ret
    exact ⟨rfl, hb2⟩
set_option maxRecDepth 100000 in
theorem xtruth_any (n : Nat) (x : Z.Ex (n + 1)) (u : Value) (w : World) (hx : XV w (n + 1) x (x.top, u)) (hL : Lay w) (hV : HasV w) (hs : Z.XSm (n + 1) x) :
    Calls Tryd.prog 14 #[.agg #[.int .u8 x.top.k, .string x.top.rat, .string x.top.name, .int .i64 x.top.date, u]] w fun e w' => e = .returned (.bool (Z.truB (n + 1) x)) ∧ Below w.heap.size w w' := by
  obtain ⟨A, k, cp, rfl⟩ := hx.shape
  have hb0 := (Below.refl _ w).alloc (Nat.le_refl w.heap.size) (.cells #[.int .u8 x.top.k, .string x.top.rat, .string x.top.name, .int .i64 x.top.date, .slice A k cp] 25)
  have BX := Blk.new w 25 #[.int .u8 x.top.k, .string x.top.rat, .string x.top.name, .int .i64 x.top.date, .slice A k cp]
  have HC := Lib.hid (fun W (h : Below w.heap.size w W) => xcheck_any n x _ W (XV.below h _ hx) (hL.below h) (hV.below h) hs)
  have HT := Lib.hid (fun W (h : Below w.heap.size w W) => sorted_any (n + 1) x x.top _ W (XV.below h _ hx) (hL.below h) (hV.below h) (Z.XLe.mono (by omega) hs.le))
  unfold Z.truB
  have h1 := Z.eqI (Z.exE (n + 1) x) 0
  have h2 := Z.eqI (Z.exSort (n + 1) x) 2
  clear hx hL hV hs
  generalize x.top = t at *
  generalize Z.exE (n + 1) x = E at *
  generalize Z.exSort (n + 1) x = S at *
  generalize decide (E = 0) = b0 at *
  generalize decide (S = 2) = b1 at *
  have c0 := BX.cell 0
  have c1 := BX.cell 1
  have c2 := BX.cell 2
  have c3 := BX.cell 3
  have c4 := BX.cell 4
  go_enter Tryd.func14, Tryd.ntmps14
  go_wp2_with fail
  refine (HC.out _ hb0).mono ?_
  rintro e W1 ⟨rfl, hb⟩
  have hb1 := hb0.trans (hb.mono hb0.size)
  have c0 := (BX.below hb).cell 0
  have c1 := (BX.below hb).cell 1
  have c2 := (BX.below hb).cell 2
  have c3 := (BX.below hb).cell 3
  have c4 := (BX.below hb).cell 4
  clear hb hb0
  cases b0
  · go_wp2_with fail
    go_ret
    exact ⟨rfl, hb1⟩
  · go_wp2_with fail
    refine (HT.out _ hb1).mono ?_
    rintro e W2 ⟨rfl, hb⟩
    have hb2 := hb1.trans (hb.mono hb1.size)
    go_wp2_with fail
    go_ret
    exact ⟨rfl, hb2⟩
end Go.Proofs.YtifafmomkpkgdaaDoor
