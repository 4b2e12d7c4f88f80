/- Walks: moved (quotes moved by some days) of the statements on curves. -/
import Derived.Test.YtpnojgaehafjdaaCvb
namespace Go.Proofs.Ytpnojgaehafjdaa
open Go.RowKit
theorem infoI : ∃ i z, Try.prog.info? 3 = some i ∧ i.zero = some z ∧ i.size = 1 ∧ i.bytes = 8 ∧ z.cells.size = 1 := by
  have h : ((Try.prog.info? 3).bind fun i => i.zero.map fun z => (i.size, i.bytes, z.cells.size)) = some (1, 8, 1) := by kernel_rfl
  rw [Option.bind_eq_some_iff] at h
  obtain ⟨i, hi, he⟩ := h
  rw [Option.map_eq_some_iff] at he
  obtain ⟨z, hz, he⟩ := he
  simp only [Prod.mk.injEq] at he
  exact ⟨i, z, hi, hz, he.1, he.2.1, he.2.2⟩
theorem infoQt : ∃ i z, Try.prog.info? 49 = some i ∧ i.zero = some z ∧ i.size = 3 ∧ i.bytes = 64 ∧ z.cells.size = 3 := by
  have h : ((Try.prog.info? 49).bind fun i => i.zero.map fun z => (i.size, i.bytes, z.cells.size)) = some (3, 64, 3) := by kernel_rfl
  rw [Option.bind_eq_some_iff] at h
  obtain ⟨i, hi, he⟩ := h
  rw [Option.map_eq_some_iff] at he
  obtain ⟨z, hz, he⟩ := he
  simp only [Prod.mk.injEq] at he
  exact ⟨i, z, hi, hz, he.1, he.2.1, he.2.2⟩
/-- The append of one day to an own row of days, as an effect of a region in stages. -/
theorem fxp_appI {ops : Array Oper} {C : World → Prop} {R : Act → World → Prop} {rest : List Oper} {o : Oper} {a : Act} (hgd : o.guard = none) (s x : Operand)
    (ho : o.op = .call { callee := .builtin .append, args := #[s, x], argTypes := #[46, 46] })
    (w : World) (B : Nat) (v : Value) (l : List Int) (y : Int) (arr : Array Value) (harr : arr = (dE y).toArray) (hs : a.eval s = v) (hown : OL 1 dE 3 w B v l) (hx : a.eval x = .slice (some ⟨w.heap.size, 0, none⟩) 1 1)
    (hlen : l.length ≤ 20000) (hB : B ≤ w.heap.size)
    (h : ∀ A' m' c' w', OL 1 dE 3 w' B (.slice A' m' c') (l ++ [y]) → Below B w w' → w.grownBy w' v.ownBlock → C w' ∧ fxP Try.prog ops C R rest (a.put o.dst (.slice A' m' c')) w') :
    fxP Try.prog ops C R (o :: rest) a (w.alloc (.cells arr 3)) := by
  subst harr
  obtain ⟨i, z, hi, hz, hsz, hbs, hzs⟩ := infoI
  have hsz1 : (w.alloc (.cells (dE y).toArray 3)).heap.size = w.heap.size + 1 := Array.size_push _
  obtain ⟨v', w', hrun, hown', hg, _, _⟩ := run_append_own_at (P := Try.prog) (w := w.alloc (.cells (dE y).toArray 3)) B 46 o.type 3 i z 1 8 Try.underlying46 hi hz hsz hbs hzs (by omega) v l.length (l.flatMap dE) (World.ownsRow.alloc hown _) ⟨w.heap.size, 0, none⟩ 1 1 (dE y) rfl (fun j u hu => by
    rw [Go.WideShapes.add_plain, Nat.zero_add, (Blk.new w 3 _).cell j]
    simpa using hu) (fun u hu => by
      simp only [dE, List.mem_cons, List.not_mem_nil, or_false] at hu
      subst hu; rfl) (by unfold maxLen; omega) (by omega) (by rw [hsz1]; omega)
  obtain ⟨A', m', c', rfl⟩ : ∃ A' m' c', v' = .slice A' m' c' := by
    rcases hown'.2 with ⟨h1, h2⟩ | ⟨g, cap, cur, h1, _⟩
    · omega
    · exact ⟨_, _, _, h1⟩
  have hh := h A' m' c' w' ?_ ?_ ?_
  · exact fxp_value hgd (by simp [execOp, ho, resolve, invoke, builtin, hs, hx, hrun, Result.andThen]) hh.1 hh.2
  · unfold OL
    rw [List.flatMap_append, List.length_append]
    simpa using hown'
  · exact ((Below.refl B w).alloc hB _).grown hg (by rw [hsz1]; omega) (fun k hk => (World.ownsRow.lt hown k hk).1)
  · exact (World.grownBy_alloc w _ _).trans hg
/-- Two own rows of elements of different types do not share a block. -/
theorem OL.apart {α β : Type} {k k2 : Nat} {enc : α → List Value} {enc2 : β → List Value} {e e2 : TypeId} {w : World} {B B2 : Nat} {v v2 : Value} {l : List α} {l2 : List β} (h : OL k enc e w B v l) (h2 : OL k2 enc2 e2 w B2 v2 l2) (hne : e ≠ e2) : v.ownBlock = none ∨ v.ownBlock ≠ v2.ownBlock := by
  rcases h.2 with ⟨rfl, _⟩ | ⟨g, cap, cur, rfl, _, hh, _⟩
  · exact .inl rfl
  · refine .inr fun eq => ?_
    have hb : Blk w g e cur := hh
    exact hb.not_row hne h2 eq
/-- A quote as it lies, with days of the call's own. -/
def QMv (w0 w : World) (B : Nat) (r : QV) (q : Z.Qt) : Prop := OL 1 dE 3 w B r.dv q.dates ∧ SR w0 r.pv q.parts ∧ r.rate = q.rate
theorem QMv.ok {w0 w : World} {B : Nat} {r : QV} {q : Z.Qt} (h : QMv w0 w B r q) (hb : Below w0.heap.size w0 w) : QOk w r q := ⟨OL.sl dE_len h.1, h.2.1.below hb, h.2.2⟩
theorem appL1 {α : Type} {k by_ : Nat} {enc : α → List Value} {e t : TypeId} {P : Program} {ops : Array Oper} {rest : List Oper} {o : Oper} {a : Act} {Q : Exit → Act → World → Prop} (y : α) (h1 : ∀ u ∈ enc y, u.oneCell' = true) (hk : (enc y).length = k) (hgd : o.guard = none) (s x : Operand)
    (ho : o.op = .call { callee := .builtin .append, args := #[s, x], argTypes := #[t, t] }) (hI : ∃ i z, P.info? e = some i ∧ i.zero = some z ∧ i.size = k ∧ i.bytes = by_ ∧ z.cells.size = k) (hby : by_ ≤ 1000) (hk0 : 0 < k) (ht : P.underlying t = some (.slice e))
    (w : World) (B : Nat) (v : Value) (l : List α) (arr : Array Value) (harr : arr = (enc y).toArray) (hs : a.eval s = v) (hown : OL k enc e w B v l) (hx : a.eval x = .slice (some ⟨w.heap.size, 0, none⟩) 1 1)
    (hlen : l.length ≤ 20000) (hB : B ≤ w.heap.size)
    (h : ∀ v' w', OL k enc e w' B v' (l ++ [y]) → Below B w w' → w.grownBy w' v.ownBlock → wpList P ops Q rest (a.put o.dst v') w') :
    wpList P ops Q (o :: rest) a (w.alloc (.cells arr e)) := by
  obtain ⟨i, z, hi, hz, hsz, hbs, hzs⟩ := hI
  subst harr
  refine wpList_append_own _ hgd s x t ho B e i z k by_ ht hi hz hsz hbs hzs hk0 v l.length (l.flatMap enc) hs (World.ownsRow.alloc hown _) ⟨w.heap.size, 0, none⟩ 1 1 (enc y) hx (by rw [hk, Nat.one_mul]) (fun j u hu => ?_) h1 (by unfold maxLen; omega) (by
      have : (l.length + 1) * by_ ≤ (l.length + 1) * 1000 := Nat.mul_le_mul_left _ hby
      omega) (by simp; omega) ?_
  · rw [Go.WideShapes.add_plain, Nat.zero_add, (Blk.new w e _).cell j]
    simpa using hu
  · intro v' w' hown' hg _
    refine h v' w' ?_ ?_ ?_
    · unfold OL
      rw [List.flatMap_append, List.length_append]
      simpa using hown'
    · exact ((Below.refl B w).alloc hB _).grown hg (by simp; omega) (fun k hk => (World.ownsRow.lt hown k hk).1)
    · exact (World.grownBy_alloc w _ _).trans hg
set_option maxRecDepth 100000 in
set_option maxHeartbeats 4000000 in
theorem moved_any (v : Value) (l : List Z.Qt) (b : Int) (w : World) (hQ : SQ w v l) (hl : l.length ≤ 20000) (hd : ∀ q ∈ l, q.dates.length ≤ 20000 ∧ ∀ d ∈ q.dates, 0 ≤ d ∧ d ≤ 99999) (hb0 : 0 ≤ b) (hb1 : b ≤ 99999) :
    Calls Try.prog 18 #[v, .int .i64 b] w fun e w' => ∃ u, e = .returned u ∧ SQ w' u (l.map (Z.Qt.mv b)) ∧ Below w.heap.size w w' := by
  have HQ := Lib.hid hQ
  have HD := Lib.hid hd
  obtain ⟨A, cp, rfl, hlc, hcm⟩ := hQ.shape
  unfold maxLen at hcm
  clear hQ hd
  go_enter Try.func18, Try.ntmps18
  go_wp2_with fail
  go_loopw [5, 6] (fun ov iv wr => ∃ (k : Nat) (raws : List QV), k ≤ l.length ∧ iv = .int .i64 k ∧ Hid (OL 3 QV.vs 49 wr w.heap.size ov raws ∧ raws.length = k ∧ (∀ (i : Nat) (r : QV) (q : Z.Qt), raws[i]? = some r → l[i]? = some q → QMv w wr w.heap.size r (q.mv b)) ∧ Below w.heap.size w wr)) (fun _ iv _ => l.length - (intOf iv).toNat)
  case atStart => exact ⟨0, [], by omega, rfl, Lib.hid ⟨OL.nil_, rfl, fun i r q hi => by simp at hi, Below.refl _ _⟩⟩
  case round =>
    obtain ⟨k, raws, hk, rfl, HI⟩ := hrel
    have hbw := HI.out.2.2.2
    by_cases hlt : k < l.length
    · have hz : l[k]? = some l[k] := List.getElem?_eq_getElem hlt
      obtain ⟨bq, o, r, rfl, hbl, q0, q1, q2, hqk⟩ := HQ.out.at_ hz
      obtain ⟨hdl, hdd⟩ := HD.out _ (List.mem_of_getElem? hz)
      have HZ := Lib.hid hz
      have HDD := Lib.hid hdd
      clear hz hdd
      generalize l[k] = q at *
      obtain ⟨dv, pv, rate⟩ := r
      obtain ⟨A1, c1, e1, hc1, hc1m⟩ := hqk.1.shape
      obtain ⟨A2, c2, e2, _, _⟩ := hqk.2.1.shape
      have e1 : dv = .slice A1 q.dates.length c1 := e1
      have e2 : pv = .slice A2 q.parts.length c2 := e2
      have e3 : rate = q.rate := hqk.2.2
      subst e1 e2 e3
      have HQK := Lib.hid hqk
      have hcell : ∀ m, wr.cell? ⟨bq, m, none⟩ = w.cell? ⟨bq, m, none⟩ := fun m => hbw.cell (p := ⟨bq, m, none⟩) hbl
      rw [← hcell] at q0 q1 q2
      clear hcell hqk
      have k0 : (0 : Int) ≤ (k : Int) := by omega
      have k1 : (k : Int) < (l.length : Int) := by omega
      have BX := Blk.new wr 49 #[.slice A1 q.dates.length c1, .slice A2 q.parts.length c2, .string q.rate]
      have hba := (Below.refl wr.heap.size wr).alloc (Nat.le_refl wr.heap.size) (.cells #[.slice A1 q.dates.length c1, .slice A2 q.parts.length c2, .string q.rate] 49)
      have x0 := BX.frozen 0
      have x1 := BX.cell 0
      go_wp2_with fail
      have BX2 := Blk.new wr 49 #[.slice none 0 0, .slice A2 q.parts.length c2, .string q.rate]
      have hbb := (Below.refl wr.heap.size wr).alloc (Nat.le_refl wr.heap.size) (.cells #[.slice none 0 0, .slice A2 q.parts.length c2, .string q.rate] 49)
      have hbn := hbw.size
      clear x0 x1 BX hba q1 q2
      generalize (wr.alloc (.cells #[.slice none 0 0, .slice A2 q.parts.length c2, .string q.rate] 49)) = W2 at *
      obtain ⟨N, hN⟩ : ∃ N, N = wr.heap.size := ⟨_, rfl⟩
      have HN := Lib.hid hN
      rw [← hN] at BX2 hbb hbn ⊢
      clear hN
      have H0 := Lib.hid (And.intro BX2 hbb)
      clear BX2 hbb
      generalize wr = W1 at *
      go_loopw [8] (fun iv wr => ∃ (j : Nat) (u : Value), j ≤ q.dates.length ∧ iv = .int .i64 j ∧ Hid (Blk wr N 49 #[u, .slice A2 q.parts.length c2, .string q.rate] ∧ OL 1 dE 3 wr N u ((q.dates.take j).map (· + b)) ∧ Below N W1 wr)) (fun iv _ => q.dates.length - (intOf iv).toNat)
      case atStart => exact ⟨0, _, by omega, rfl, Lib.hid ⟨H0.out.1, OL.nil_, H0.out.2⟩⟩
      case round =>
        obtain ⟨j, u, hj, rfl, HJ⟩ := hrel
        obtain ⟨bx, ho, hb2⟩ := HJ.out
        obtain ⟨Au, cu, rfl⟩ := ho.shape
        have hln : ((q.dates.take j).map (· + b)).length = j := by rw [List.length_map, List.length_take]; omega
        rw [hln] at bx ho HJ
        have HO := Lib.hid ho
        have c0 := bx.cell 0
        have hbl2 : bq < N := Nat.lt_of_lt_of_le hbl hbn
        have p0 : wr.cell? ⟨bq, o + k * 3, none⟩ = some (.slice A1 q.dates.length c1) := (hb2.cell (p := ⟨bq, o + k * 3, none⟩) hbl2).trans q0
        clear HJ ho hln
        by_cases hjt : j < q.dates.length
        · have hy : q.dates[j]? = some q.dates[j] := List.getElem?_eq_getElem hjt
          obtain ⟨b1, o1, hA1, hb1l, hc⟩ := HQK.out.1.cell1 hy rfl
          have hA1 : A1 = some ⟨b1, o1, none⟩ := hA1
          subst hA1
          have hdj := HDD.out _ (List.mem_of_getElem? hy)
          have HY := Lib.hid hy
          clear hy
          generalize q.dates[j] = d at *
          have hb1N : b1 < N := Nat.lt_of_lt_of_le hb1l hbn
          have hc := (hbw.cell (p := ⟨b1, o1 + j, none⟩) hb1l).trans hc
          have d0 : 0 ≤ d := hdj.1
          have d1 : d ≤ 99999 := hdj.2
          have j0 : (0 : Int) ≤ (j : Int) := by omega
          have j1 : (j : Int) < (q.dates.length : Int) := by omega
          obtain ⟨F, hFe⟩ : ∃ F : World → Prop, F = fun w' => Blk w' N 49 #[.slice Au j cu, .slice A2 q.parts.length c2, .string q.rate] ∧ Below N W1 w' := ⟨_, rfl⟩
          have HF0 : Hid (F wr.drew) := Lib.hid (by rw [hFe]; exact ⟨bx, hb2.drew⟩)
          have HFE : Hid (∀ X, F X → Blk X N 49 #[.slice Au j cu, .slice A2 q.parts.length c2, .string q.rate] ∧ Below N W1 X) := Lib.hid (fun X h => by rw [hFe] at h; exact h)
          have hneB := bx.not_row (by decide) HO.out
          have hN2 : N ≤ wr.heap.size := Nat.le_of_lt bx.lt
          have HFM : Hid (∀ X, Below N wr X → wr.grownBy X (Value.slice Au j cu).ownBlock → F X) := Lib.hid (fun X h g => by rw [hFe]; exact ⟨bx.kept g hneB, hb2.trans h⟩)
          have f0 : ∀ y : Cl F, y.1.cell? ⟨N, 0, none⟩ = some (.slice Au j cu) := fun y => (HFE.out y.1 y.2).1.cell 0
          have f1 : ∀ y : Cl F, y.1.cell? ⟨bq, o + k * 3, none⟩ = some (.slice (some ⟨b1, o1, none⟩) q.dates.length c1) := fun y => ((HFE.out y.1 y.2).2.cell (p := ⟨bq, o + k * 3, none⟩) hbl2).trans q0
          have f2 : ∀ y : Cl F, y.1.cell? ⟨b1, o1 + j, none⟩ = some (.int .i64 d) := fun y => ((HFE.out y.1 y.2).2.cell (p := ⟨b1, o1 + j, none⟩) hb1N).trans hc
          have BXx := bx
          clear hFe bx hneB hdj
          haveI : Nonempty (Cl F) := Cl.some_ HF0.out
          go_wp2_with fail
          refine wp_region_stages 15 [([0, 1, 2, 3, 4, 5, 6, 7, 8, 9, 10, 11], [12, 13]), ([14], [])] [15] (fun w' => ∃ y : Cl F, w' = y.1) (by kernel_rfl) (by kernel_rfl) ⟨⟨wr.drew, HF0.out⟩, rfl⟩ ?_
          simp only [fxS, opsAt, List.filterMap_cons, List.filterMap_nil, List.getElem?_toArray, List.getElem?_cons_succ, List.getElem?_cons_zero]
          show wpQuiet _ _ _ _ [_, _, _, _, _, _, _, _, _, _, _, _] _
          repeat (go_big_quiet_step (fail))
          refine wpQuiet_nil ?_
          have hbA : Below N wr (wr.drew.alloc (.cells #[.int .i64 (d + b)] 3)) := ((Below.refl N wr).drew).alloc hN2 _
          have hgA : wr.grownBy (wr.drew.alloc (.cells #[.int .i64 (d + b)] 3)) (Value.slice Au j cu).ownBlock := grown_of_below (((Below.refl _ wr).drew).alloc (Nat.le_refl _) _) _
          refine fxp_value (u := .slice (some ⟨wr.heap.size, 0, none⟩) 1 1) (w' := wr.drew.alloc (.cells #[.int .i64 (d + b)] 3)) rfl (by simp [go_sem]) ⟨⟨_, HFM.out _ hbA hgA⟩, rfl⟩ ?_
          refine fxp_appI rfl (.tmp 31) (.tmp 42) rfl wr.drew N (.slice Au j cu) ((q.dates.take j).map (· + b)) (d + b) _ rfl rfl (OL.below HO.out (Below.refl _ wr).drew) rfl (by rw [List.length_map, List.length_take]; omega) hN2 ?_
          intro A' m' c' W9 hO9 hb11 hg11
          have hb12 : Below N wr W9 := (Below.refl N wr).drew.trans hb11
          have hg12 : wr.grownBy W9 (Value.slice Au j cu).ownBlock := (grown_of_below (Below.refl _ wr).drew _).trans hg11
          have HF9 := Lib.hid (HFM.out _ hb12 hg12)
          refine ⟨⟨⟨W9, HF9.out⟩, rfl⟩, ?_⟩
          have bc9 := (HFE.out _ HF9.out).1
          have k9 := bc9.cell 0
          have r9 := bc9.frozen 0
          refine fxp_nil ?_
          show wpQuiet _ _ _ _ [_] _
          simp only [Act.put, List.setIfInBounds_toArray, List.set_cons_succ, List.set_cons_zero]
          repeat (go_big_quiet_step (fail))
          refine wpQuiet_nil ?_
          refine fxp_nil ?_
          refine fxl_skip (w' := W9.setCell ⟨N, 0, none⟩ (.slice A' m' c')) rfl (by simp [go_sem, k9, r9]) ?_
          refine fxl_nil ?_
          have hnr := bc9.not_row (by decide) hO9
          have hst : (q.dates.take (j + 1)).map (· + b) = (q.dates.take j).map (· + b) ++ [d + b] := by rw [List.take_add_one, HY.out]; simp
          have HFIN := Lib.hid (And.intro (bc9.set 0 (.slice A' m' c')) (And.intro (OL.kept hO9 (grownBy_setAt W9 N 0 (.slice A' m' c')) (.inr (fun e => hnr e.symm))) ((HFE.out _ HF9.out).2.setCell (p := ⟨N, 0, none⟩) (Nat.le_refl _) (.slice A' m' c'))))
          clear f0 f1 f2 k9 r9 bc9 hnr BXx
          go_wp2_with fail
          go_roundw
          case rel => exact ⟨j + 1, _, by omega, by go_num, Lib.hid (by rw [hst]; exact HFIN.out)⟩
          case measure => simp [intOf]; omega
        · obtain rfl : j = q.dates.length := by omega
          have hst : (q.dates.take q.dates.length).map (· + b) = (q.mv b).dates := by rw [List.take_length]; rfl
          rw [hst] at HO
          have c1' := bx.cell 1
          have c2' := bx.cell 2
          have hN2 : N ≤ wr.heap.size := Nat.le_of_lt bx.lt
          have hbr := hbw.trans (hb2.mono hbn)
          have hb3 : Below W1.heap.size W1 wr := by rw [← HN.out]; exact hb2
          have HOQ := Lib.hid (OL.below HI.out.1 hb3)
          have hrl : raws.length ≤ 20000 := by rw [HI.out.2.1]; omega
          clear hst
          go_wp2_with (at_builtin; go_loud (refine appL1 ⟨.slice Au q.dates.length cu, .slice A2 q.parts.length c2, q.rate⟩ (by
            intro z hz
            simp only [QV.vs, List.mem_cons, List.not_mem_nil, or_false] at hz
            rcases hz with rfl | rfl | rfl <;> rfl) (QV.vs_len _) rfl _ _ rfl infoQt (by omega) (by omega) Try.underlying22 wr w.heap.size u5 raws _ rfl rfl HOQ.out rfl hrl hbr.size ?_; intro v' w' hO' hb' hg'))
          have HFIN : Hid (OL 3 QV.vs 49 w' w.heap.size v' (raws ++ [⟨.slice Au q.dates.length cu, .slice A2 q.parts.length c2, q.rate⟩]) ∧ (raws ++ [(⟨.slice Au q.dates.length cu, .slice A2 q.parts.length c2, q.rate⟩ : QV)]).length = k + 1 ∧ (∀ (i : Nat) (r : QV) (x : Z.Qt), (raws ++ [⟨.slice Au q.dates.length cu, .slice A2 q.parts.length c2, q.rate⟩])[i]? = some r → l[i]? = some x → QMv w w' w.heap.size r (x.mv b)) ∧ Below w.heap.size w w') := Lib.hid (by
            refine ⟨hO', by rw [List.length_append, HI.out.2.1]; rfl, fun i r x hr hx => ?_, hbr.trans (hb'.mono (Nat.le_refl _))⟩
            by_cases hik : i < k
            · rw [List.getElem?_append_left (by rw [HI.out.2.1]; exact hik)] at hr
              obtain ⟨m1, m2, m3⟩ := HI.out.2.2.1 i r x hr hx
              exact ⟨OL.kept (OL.below m1 hb3) hg' (OL.apart (OL.below m1 hb3) HOQ.out (by decide)), m2, m3⟩
            · have h9 := (List.getElem?_eq_some_iff.1 hr).1
              rw [List.length_append, HI.out.2.1] at h9
              have h9 : i < k + 1 := h9
              have hik2 : i = k := by omega
              rw [hik2] at hr hx
              rw [List.getElem?_append_right (by rw [HI.out.2.1]; exact Nat.le_refl _), HI.out.2.1, Nat.sub_self] at hr
              injection hr with hr
              subst hr
              rw [HZ.out] at hx
              injection hx with hx
              subst hx
              exact ⟨OL.kept (OL.mono HO.out hbn) hg' (OL.apart (OL.mono HO.out hbn) HOQ.out (by decide)), HQK.out.2.1, rfl⟩)
          go_roundw
          case rel => exact ⟨k + 1, raws ++ [⟨.slice Au q.dates.length cu, .slice A2 q.parts.length c2, q.rate⟩], by omega, by go_num, HFIN⟩
          case measure => simp [intOf]; omega
    · obtain rfl : k = l.length := by omega
      go_wp2_with fail
      go_ret
      refine ⟨_, rfl, ⟨raws, OL.sl QV.vs_len HI.out.1, by rw [HI.out.2.1, List.length_map], fun i r q hr hq => ?_⟩, HI.out.2.2.2⟩
      rw [List.getElem?_map] at hq
      obtain ⟨q0, h0, rfl⟩ := Option.map_eq_some_iff.1 hq
      exact (HI.out.2.2.1 i r q0 hr h0).ok HI.out.2.2.2
end Go.Proofs.Ytpnojgaehafjdaa
