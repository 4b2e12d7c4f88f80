/- Walks: curve.Bootstrap. -/
import Derived.Test.YtpnojgaehafjdaaCvx
import Derived.Test.YtpnojgaehafjdaaAbv
namespace Go.Proofs.Ytpnojgaehafjdaa
open Go.RowKit
abbrev OP := OL 2 Z.Pt.vs 37
theorem infoP : ∃ i z, Try.prog.info? 37 = some i ∧ i.zero = some z ∧ i.size = 2 ∧ i.bytes = 24 ∧ z.cells.size = 2 := by
  have h : ((Try.prog.info? 37).bind fun i => i.zero.map fun z => (i.size, i.bytes, z.cells.size)) = some (2, 24, 2) := by kernel_rfl
  rw [Option.bind_eq_some_iff] at h
  obtain ⟨i, hi, he⟩ := h
  rw [Option.map_eq_some_iff] at he
  obtain ⟨z, hz, he⟩ := he
  simp only [Prod.mk.injEq] at he
  exact ⟨i, z, hi, hz, he.1, he.2.1, he.2.2⟩
theorem fxp_appP {ops : Array Oper} {C : World → Prop} {R : Act → World → Prop} {rest : List Oper} {o : Oper} {a : Act} (hgd : o.guard = none) (s x : Operand)
    (ho : o.op = .call { callee := .builtin .append, args := #[s, x], argTypes := #[25, 25] })
    (w : World) (B : Nat) (v : Value) (l : List Z.Pt) (y : Z.Pt) (arr : Array Value) (harr : arr = y.vs.toArray) (hs : a.eval s = v) (hown : OP w B v l) (hx : a.eval x = .slice (some ⟨w.heap.size, 0, none⟩) 1 1)
    (hlen : l.length ≤ 20000) (hB : B ≤ w.heap.size)
    (h : ∀ A' m' c' w', OP w' B (.slice A' m' c') (l ++ [y]) → m' = l.length + 1 → Below B w w' → w.grownBy w' v.ownBlock → C w' ∧ fxP Try.prog ops C R rest (a.put o.dst (.slice A' m' c')) w') :
    fxP Try.prog ops C R (o :: rest) a (w.alloc (.cells arr 37)) := by
  subst harr
  obtain ⟨i, z, hi, hz, hsz, hbs, hzs⟩ := infoP
  have hsz1 : (w.alloc (.cells y.vs.toArray 37)).heap.size = w.heap.size + 1 := Array.size_push _
  obtain ⟨v', w', hrun, hown', hg, _, _⟩ := run_append_own_at (P := Try.prog) (w := w.alloc (.cells y.vs.toArray 37)) B 25 o.type 37 i z 2 24 Try.underlying25 hi hz hsz hbs hzs (by omega) v l.length (l.flatMap Z.Pt.vs) (World.ownsRow.alloc hown _) ⟨w.heap.size, 0, none⟩ 1 1 y.vs rfl (fun j u hu => by
    rw [Go.WideShapes.add_plain, Nat.zero_add, (Blk.new w 37 _).cell j]
    simpa using hu) (Z.Pt.one y) (by unfold maxLen; omega) (by omega) (by rw [hsz1]; omega)
  obtain ⟨A', m', c', rfl, hm'⟩ : ∃ A' m' c', v' = .slice A' m' c' ∧ m' = l.length + 1 := by
    rcases hown'.2 with ⟨h1, h2⟩ | ⟨g, cap, cur, h1, _⟩
    · omega
    · exact ⟨_, _, _, h1, rfl⟩
  have hh := h A' m' c' w' ?_ hm' ?_ ?_
  · exact fxp_value hgd (by simp [execOp, ho, resolve, invoke, builtin, hs, hx, hrun, Result.andThen]) hh.1 hh.2
  · unfold OP OL
    rw [List.flatMap_append, List.length_append]
    simpa using hown'
  · exact ((Below.refl B w).alloc hB _).grown hg (by rw [hsz1]; omega) (fun k hk => (World.ownsRow.lt hown k hk).1)
  · exact (World.grownBy_alloc w _ _).trans hg
theorem OL.shape {α : Type} {k : Nat} {enc : α → List Value} {e : TypeId} {w : World} {B : Nat} {v : Value} {l : List α} (h : OL k enc e w B v l) : ∃ A c, v = .slice A l.length c := by
  rcases h.2 with ⟨rfl, h0⟩ | ⟨g, cap, cur, rfl, _⟩
  · exact ⟨none, 0, by rw [h0]⟩
  · exact ⟨_, _, rfl⟩
theorem OL.kept {α : Type} {k : Nat} {enc : α → List Value} {e : TypeId} {w w' : World} {B : Nat} {v : Value} {l : List α} {row : Option Nat} (h : OL k enc e w B v l) (hg : w.grownBy w' row) (hne : v.ownBlock = none ∨ v.ownBlock ≠ row) : OL k enc e w' B v l := World.ownsRow.kept h hg hne
/-- What Bootstrap answers. -/
def BootRet (p : Z.Cu × Int) (w : World) (e : Ending) (w' : World) : Prop := ∃ u, e = .returned (.tuple #[.agg #[.int .i64 p.1.base, u], .int .i64 p.2]) ∧ OP w' w.heap.size u p.1.pts ∧ Below w.heap.size w w'
theorem boot_err {p : Z.Cu × Int} {k : Int} {w w' : World} (h : p = (⟨0, []⟩, k)) (hb : Below w.heap.size w w') : BootRet p w (.returned (.tuple #[.agg #[.int .i64 0, .slice none 0 0], .int .i64 k])) w' := by
  subst h
  exact ⟨_, rfl, OL.nil_, hb⟩
theorem qts_drop {l : List Z.Qt} {k : Nat} {q : Z.Qt} {base : Int} (h : l[k]? = some q) : Z.qtsE base (l.drop k) = if Z.qtE q base = 0 then Z.qtsE base (l.drop (k + 1)) else Z.qtE q base := by
  obtain ⟨hlt, rfl⟩ := List.getElem?_eq_some_iff.1 h
  rw [List.drop_eq_getElem_cons hlt]
  rfl
def prevL (base : Int) (l : List Z.Qt) : Nat → Int
  | 0 => base
  | k + 1 => match l[k]? with | some q => q.last | none => 0
theorem asc_drop {l : List Z.Qt} {k : Nat} {q : Z.Qt} (a base : Int) (h : l[k]? = some q) : Z.ascQ a (l.drop k) = (decide (a < q.last) && Z.ascQ (prevL base l (k + 1)) (l.drop (k + 1))) := by
  have hp : prevL base l (k + 1) = q.last := by simp only [prevL, h]
  rw [hp]
  obtain ⟨hlt, rfl⟩ := List.getElem?_eq_some_iff.1 h
  rw [List.drop_eq_getElem_cons hlt]
  rfl
theorem build_drop {l : List Z.Qt} {k : Nat} {q : Z.Qt} (c : Z.Cu) (h : l[k]? = some q) : Z.build c (l.drop k) = if (Z.nextR c q).2 = 0 then Z.build ⟨c.base, c.pts ++ [⟨q.last, (Z.nextR c q).1⟩]⟩ (l.drop (k + 1)) else (⟨0, []⟩, (Z.nextR c q).2) := by
  obtain ⟨hlt, rfl⟩ := List.getElem?_eq_some_iff.1 h
  rw [List.drop_eq_getElem_cons hlt]
  rfl
set_option maxRecDepth 100000 in
set_option maxHeartbeats 8000000 in
theorem boot_any (base : Int) (v : Value) (l : List Z.Qt) (w : World) (hQ : SQ w v l) (hV : HasV w) (hs : ∀ q ∈ l, QSm q) :
    Calls Try.prog 11 #[.int .i64 base, v] w (BootRet (Z.bootR base l) w) := by
  have HR : Hid (Z.bootR base l = if Z.dayB base = true then (if 50 < l.length then (⟨0, []⟩, 4) else if Z.qtsE base l = 0 then (if Z.ascQ base l = true then Z.build ⟨base, []⟩ l else (⟨0, []⟩, 40)) else (⟨0, []⟩, Z.qtsE base l)) else (⟨0, []⟩, 2)) := Lib.hid rfl
  generalize Z.bootR base l = R at *
  have HQ := Lib.hid hQ
  have HV := Lib.hid hV
  obtain ⟨A, cp, rfl, hlc, hcm⟩ := hQ.shape
  unfold maxLen at hcm
  have hb0 := (Below.refl _ w).alloc (Nat.le_refl w.heap.size) (.cells #[.int .i64 0, .slice none 0 0] 27)
  have BR0 := Blk.new w 27 #[.int .i64 0, .slice none 0 0]
  clear hQ hV
  go_enter Try.func11, Try.ntmps11
  go_wp2_with fail
  generalize (w.alloc (.cells #[.int .i64 0, .slice none 0 0] 27)) = W0 at *
  refine (day_any _ _).mono ?_
  rintro e w2 ⟨rfl, rfl⟩
  cases hd : Z.dayB base
  · rw [hd] at HR
    have HR2 : Hid (R = (⟨0, []⟩, 2)) := HR
    have r0 := BR0.cell 0
    have r1 := BR0.cell 1
    have r2 := BR0.frozen 0
    have r3 := BR0.frozen 1
    have q0 := ((BR0.set 0 (.int .i64 0)).set 1 (.slice none 0 0)).cell 0
    have q1 := ((BR0.set 0 (.int .i64 0)).set 1 (.slice none 0 0)).cell 1
    go_wp2_with fail
    (try simp only [Exit.inBlock, Exit.then])
    refine bodyPost_ret (v := .tuple #[.agg #[.int .i64 0, .slice none 0 0], .int .i64 2]) ?_ rfl ?_
    · simp [results, Try.f11, go_sem, q0, q1]
    · exact boot_err HR2.out ((hb0.setCell (p := ⟨w.heap.size, 0, none⟩) (Nat.le_refl _) _).setCell (p := ⟨w.heap.size, 1, none⟩) (Nat.le_refl _) _)
  rw [hd] at HR
  by_cases h50 : 50 < l.length
  · rw [if_pos h50] at HR
    have HR2 : Hid (R = (⟨0, []⟩, 4)) := HR
    have r0 := BR0.cell 0
    have r1 := BR0.cell 1
    have r2 := BR0.frozen 0
    have r3 := BR0.frozen 1
    have q0 := ((BR0.set 0 (.int .i64 0)).set 1 (.slice none 0 0)).cell 0
    have q1 := ((BR0.set 0 (.int .i64 0)).set 1 (.slice none 0 0)).cell 1
    go_wp2_with fail
    (try simp only [Exit.inBlock, Exit.then])
    refine bodyPost_ret (v := .tuple #[.agg #[.int .i64 0, .slice none 0 0], .int .i64 4]) ?_ rfl ?_
    · simp [results, Try.f11, go_sem, q0, q1]
    · exact boot_err HR2.out ((hb0.setCell (p := ⟨w.heap.size, 0, none⟩) (Nat.le_refl _) _).setCell (p := ⟨w.heap.size, 1, none⟩) (Nat.le_refl _) _)
  rw [if_neg h50] at HR
  have HR0 : Hid (R = if Z.qtsE base (l.drop 0) = 0 then (if Z.ascQ base l = true then Z.build ⟨base, []⟩ l else (⟨0, []⟩, 40)) else (⟨0, []⟩, Z.qtsE base (l.drop 0))) := HR
  clear HR
  go_wp2_with fail
  go_loopw [26] (fun iv wr => ∃ k : Nat, k ≤ l.length ∧ iv = .int .i64 k ∧ Hid ((R = if Z.qtsE base (l.drop k) = 0 then (if Z.ascQ base l = true then Z.build ⟨base, []⟩ l else (⟨0, []⟩, 40)) else (⟨0, []⟩, Z.qtsE base (l.drop k))) ∧ ∀ q ∈ l.take k, Z.qtE q base = 0) ∧ Below W0.heap.size W0 wr) (fun iv _ => l.length - (intOf iv).toNat)
  case atStart => exact ⟨0, by omega, rfl, Lib.hid ⟨HR0.out, fun q hq => by simp at hq⟩, Below.refl _ _⟩
  case round =>
    obtain ⟨k, hk, rfl, HI, hbr⟩ := hrel
    clear HR0
    have hbw := hb0.trans (hbr.mono hb0.size)
    have BRr := BR0.below hbr
    by_cases hlt : k < l.length
    · have hz : l[k]? = some l[k] := List.getElem?_eq_getElem hlt
      obtain ⟨b, o, r, rfl, hbl, q0, q1, q2, hqk⟩ := (HQ.out.below hbw).at_ hz
      have hsm := hs _ (List.mem_of_getElem? hz)
      have HD := Lib.hid (qts_drop (base := base) hz)
      have HTK : Hid (∀ q ∈ l.take k, Z.qtE q base = 0) := Lib.hid HI.out.2
      have HZ := Lib.hid hz
      clear hz
      generalize l[k] = q at *
      obtain ⟨dv, pv, rate⟩ := r
      obtain ⟨A1, c1, e1, _, _⟩ := hqk.1.shape
      obtain ⟨A2, c2, e2, _, _⟩ := hqk.2.1.shape
      have e1 : dv = .slice A1 q.dates.length c1 := e1
      have e2 : pv = .slice A2 q.parts.length c2 := e2
      have e3 : rate = q.rate := hqk.2.2
      subst e1 e2 e3
      have hba := (Below.refl _ wr).alloc (Nat.le_refl wr.heap.size) (.cells #[.slice A1 q.dates.length c1, .slice A2 q.parts.length c2, .string q.rate] 49)
      have hb5 := hbw.trans (hba.mono hbw.size)
      have hbr5 := hbr.trans (hba.mono hbr.size)
      have H1 := Lib.hid (cquote_any ⟨_, _, _⟩ q base _ (hqk.below hba) (HV.out.below hb5) hsm.1 hsm.2)
      have BR5 := BRr.below hba
      go_wp2_with fail
      generalize (wr.alloc (.cells #[.slice A1 q.dates.length c1, .slice A2 q.parts.length c2, .string q.rate] 49)) = W5 at *
      refine H1.out.mono ?_
      rintro e W6 ⟨rfl, hb6⟩
      have hbr6 := hbr5.trans (hb6.mono hbr5.size)
      have hbw6 := hb5.trans (hb6.mono hb5.size)
      have BR6 := BR5.below hb6
      clear H1 q0 q1 q2 hba BR5 BRr
      by_cases hq0 : Z.qtE q base = 0
      · have HN : Hid ((R = if Z.qtsE base (l.drop (k + 1)) = 0 then (if Z.ascQ base l = true then Z.build ⟨base, []⟩ l else (⟨0, []⟩, 40)) else (⟨0, []⟩, Z.qtsE base (l.drop (k + 1)))) ∧ ∀ q ∈ l.take (k + 1), Z.qtE q base = 0) := Lib.hid (by
          refine ⟨?_, fun x hx => ?_⟩
          · have := HI.out.1
            rw [HD.out, if_pos hq0] at this
            exact this
          · rw [List.take_add_one, HZ.out] at hx
            rcases List.mem_append.1 hx with hx | hx
            · exact HTK.out x hx
            · simp at hx
              rw [hx]; exact hq0)
        rw [hq0]
        clear HI HD HTK HZ hq0 BR6
        go_wp2_with fail
        go_roundw
        case rel => exact ⟨k + 1, by omega, by go_num, HN, hbr6⟩
        case measure => simp [intOf]; omega
      · have HE : Hid (R = (⟨0, []⟩, Z.qtE q base)) := Lib.hid (by
          have := HI.out.1
          rw [HD.out, if_neg hq0, if_neg hq0] at this
          exact this)
        have hqb := ne_bne hq0
        generalize Z.qtE q base = kk at *
        clear HI HD HTK HZ hq0
        have r0 := BR6.cell 0
        have r1 := BR6.cell 1
        have r2 := BR6.frozen 0
        have r3 := BR6.frozen 1
        have q0 := ((BR6.set 0 (.int .i64 0)).set 1 (.slice none 0 0)).cell 0
        have q1 := ((BR6.set 0 (.int .i64 0)).set 1 (.slice none 0 0)).cell 1
        go_wp2_with fail
        (try simp only [Exit.inBlock, Exit.then])
        refine bodyPost_ret (v := .tuple #[.agg #[.int .i64 0, .slice none 0 0], .int .i64 kk]) ?_ rfl ?_
        · simp [results, Try.f11, go_sem, q0, q1]
        · exact boot_err HE.out ((hbw6.setCell (p := ⟨w.heap.size, 0, none⟩) (Nat.le_refl _) _).setCell (p := ⟨w.heap.size, 1, none⟩) (Nat.le_refl _) _)
    · obtain rfl : k = l.length := by omega
      have HT2 : Hid (∀ q ∈ l, Z.qtE q base = 0) := Lib.hid (fun q hq => HI.out.2 q (by rw [List.take_length]; exact hq))
      have HA0 : Hid ((R = if Z.ascQ (prevL base l 0) (l.drop 0) = true then Z.build ⟨base, []⟩ l else (⟨0, []⟩, 40)) ∧ ∀ (i : Nat) (q : Z.Qt), i < 0 → l[i]? = some q → prevL base l i < q.last) := Lib.hid (by
        have := HI.out.1
        rw [List.drop_length] at this
        exact ⟨this, fun i q hi => by omega⟩)
      have HBw := Lib.hid hbw
      have HBR := Lib.hid BRr
      clear HI hbr hbw BRr BR0 hb0
      go_wp2_with fail
      generalize wr = W1 at *
      go_loopw [40] (fun iv wr => ∃ k : Nat, k ≤ l.length ∧ iv = .int .i64 k ∧ Hid ((R = if Z.ascQ (prevL base l k) (l.drop k) = true then Z.build ⟨base, []⟩ l else (⟨0, []⟩, 40)) ∧ ∀ (i : Nat) (q : Z.Qt), i < k → l[i]? = some q → prevL base l i < q.last) ∧ Below W1.heap.size W1 wr) (fun iv _ => l.length - (intOf iv).toNat)
      case atStart => exact ⟨0, by omega, rfl, HA0, Below.refl _ _⟩
      case round =>
        obtain ⟨k, hk, rfl, HI, hbr⟩ := hrel
        clear HA0
        have hbw := HBw.out.trans (hbr.mono HBw.out.size)
        have BRr := HBR.out.below hbr
        by_cases hlt : k < l.length
        · have hz : l[k]? = some l[k] := List.getElem?_eq_getElem hlt
          obtain ⟨b, o, r, rfl, hbl, q0, q1, q2, hqk⟩ := (HQ.out.below hbw).at_ hz
          have hqt := HT2.out _ (List.mem_of_getElem? hz)
          have HD := Lib.hid (asc_drop (prevL base l k) base hz)
          have HZ := Lib.hid hz
          clear hz
          generalize l[k] = q at *
          obtain ⟨dv, pv, rate⟩ := r
          obtain ⟨A1, c1, e1, _, _⟩ := hqk.1.shape
          obtain ⟨A2, c2, e2, _, _⟩ := hqk.2.1.shape
          have e1 : dv = .slice A1 q.dates.length c1 := e1
          have e2 : pv = .slice A2 q.parts.length c2 := e2
          have e3 : rate = q.rate := hqk.2.2
          subst e1 e2 e3
          have hba := (Below.refl _ wr).alloc (Nat.le_refl wr.heap.size) (.cells #[.slice A1 q.dates.length c1, .slice A2 q.parts.length c2, .string q.rate] 49)
          have BX := Blk.new wr 49 #[.slice A1 q.dates.length c1, .slice A2 q.parts.length c2, .string q.rate]
          have hb5 := hbw.trans (hba.mono hbw.size)
          have hbr5 := hbr.trans (hba.mono hbr.size)
          have BR5 := BRr.below hba
          have hqk5 := hqk.below hba
          have hd0 := (Z.qt_ok hqt).2.2.1
          have hlq := (Z.qt_last hqt).1
          cases k with
          | zero =>
            have HN : Hid ((R = if Z.ascQ (prevL base l 1) (l.drop 1) = true then Z.build ⟨base, []⟩ l else (⟨0, []⟩, 40)) ∧ ∀ (i : Nat) (q : Z.Qt), i < 1 → l[i]? = some q → prevL base l i < q.last) := Lib.hid (by
              refine ⟨?_, fun i x hi hx => ?_⟩
              · rw [HI.out.1, HD.out]
                rw [show prevL base l 0 = base from rfl, decide_eq_true hlq]
                rfl
              · obtain rfl : i = 0 := by omega
                rw [HZ.out] at hx
                injection hx with hx
                subst hx
                exact hlq)
            simp only [Nat.zero_mul, Nat.add_zero] at q0 q1 q2
            clear HI HD HZ hqk hqk5 BRr BR5
            go_upto_region 15 with fail
            generalize (wr.alloc (.cells #[.slice A1 q.dates.length c1, .slice A2 q.parts.length c2, .string q.rate] 49)) = W5 at *
            refine wp_region_above (by kernel_rfl) (by kernel_rfl) ?_
            repeat (go_big_quiet_step (fail))
            refine wpQuiet_nil ?_
            rintro _ ⟨x, rfl⟩
            have hx := hbr5.trans (x.2.mono hbr5.size)
            go_wp2_with fail
            go_roundw
            case rel => exact ⟨1, by omega, by go_num, HN, hx⟩
            case measure => simp [intOf]; omega
          | succ j =>
            have hz2 : l[j]? = some l[j] := List.getElem?_eq_getElem (by omega)
            obtain ⟨b2, o2, r2, hA2, hbl2, p0, p1, p2, hqj⟩ := (HQ.out.below hbw).at_ hz2
            injection hA2 with hA2
            injection hA2 with hA2 hA3 _
            subst hA2 hA3
            have hqt2 := HT2.out _ (List.mem_of_getElem? hz2)
            have hprev : prevL base l (j + 1) = l[j].last := by simp only [prevL, hz2]
            have HPV := Lib.hid hprev
            rw [hprev] at HD HI
            clear hz2 hprev
            generalize l[j] = qp at *
            obtain ⟨dv2, pv2, rate2⟩ := r2
            obtain ⟨A3, c3, e1, _, _⟩ := hqj.1.shape
            obtain ⟨A4, c4, e2, _, _⟩ := hqj.2.1.shape
            have e1 : dv2 = .slice A3 qp.dates.length c3 := e1
            have e2 : pv2 = .slice A4 qp.parts.length c4 := e2
            have e3 : rate2 = qp.rate := hqj.2.2
            subst e1 e2 e3
            have hqj5 := hqj.below hba
            have hd2 := (Z.qt_ok hqt2).2.2.1
            have C1 : Hid (∀ x : Ab (wr.alloc (.cells #[.slice A1 q.dates.length c1, .slice A2 q.parts.length c2, .string q.rate] 49)), Calls Try.prog 26 #[.agg #[.slice A1 q.dates.length c1, .slice A2 q.parts.length c2, .string q.rate]] x.1 fun e w' => e = .returned (.int .i64 q.last) ∧ Below x.1.heap.size x.1 w') := Lib.hid fun x => last_any ⟨_, _, _⟩ q x.1 (hqk5.below x.2) hd0
            have C2 : Hid (∀ x : Ab (wr.alloc (.cells #[.slice A1 q.dates.length c1, .slice A2 q.parts.length c2, .string q.rate] 49)), Calls Try.prog 26 #[.agg #[.slice A3 qp.dates.length c3, .slice A4 qp.parts.length c4, .string qp.rate]] x.1 fun e w' => e = .returned (.int .i64 qp.last) ∧ Below x.1.heap.size x.1 w') := Lib.hid fun x => last_any ⟨_, _, _⟩ qp x.1 (hqj5.below x.2) hd2
            have s0 : ∀ x : Ab (wr.alloc (.cells #[.slice A1 q.dates.length c1, .slice A2 q.parts.length c2, .string q.rate] 49)), x.1.cell? ⟨wr.heap.size, 0, none⟩ = some (.slice A1 q.dates.length c1) := fun x => (BX.below x.2).cell 0
            have s1 : ∀ x : Ab (wr.alloc (.cells #[.slice A1 q.dates.length c1, .slice A2 q.parts.length c2, .string q.rate] 49)), x.1.cell? ⟨wr.heap.size, 1, none⟩ = some (.slice A2 q.parts.length c2) := fun x => (BX.below x.2).cell 1
            have s2 : ∀ x : Ab (wr.alloc (.cells #[.slice A1 q.dates.length c1, .slice A2 q.parts.length c2, .string q.rate] 49)), x.1.cell? ⟨wr.heap.size, 2, none⟩ = some (.string q.rate) := fun x => (BX.below x.2).cell 2
            have hA : ∀ x : Ab (wr.alloc (.cells #[.slice A1 q.dates.length c1, .slice A2 q.parts.length c2, .string q.rate] 49)), ∀ m, x.1.cell? ⟨b, m, none⟩ = wr.cell? ⟨b, m, none⟩ := fun x m => (x.2.cell (p := ⟨b, m, none⟩) (Nat.lt_of_lt_of_le hbl hba.size)).trans (hba.cell (p := ⟨b, m, none⟩) hbl)
            have t0 : ∀ x : Ab (wr.alloc (.cells #[.slice A1 q.dates.length c1, .slice A2 q.parts.length c2, .string q.rate] 49)), x.1.cell? ⟨b, o + j * 3, none⟩ = some (.slice A3 qp.dates.length c3) := fun x => (hA x _).trans p0
            have t1 : ∀ x : Ab (wr.alloc (.cells #[.slice A1 q.dates.length c1, .slice A2 q.parts.length c2, .string q.rate] 49)), x.1.cell? ⟨b, o + j * 3 + 1, none⟩ = some (.slice A4 qp.parts.length c4) := fun x => (hA x _).trans p1
            have t2 : ∀ x : Ab (wr.alloc (.cells #[.slice A1 q.dates.length c1, .slice A2 q.parts.length c2, .string q.rate] 49)), x.1.cell? ⟨b, o + j * 3 + 2, none⟩ = some (.string qp.rate) := fun x => (hA x _).trans p2
            have j0 : (0 : Int) ≤ (j : Int) := by omega
            have j1 : (j : Int) + 1 < (l.length : Int) := by omega
            have j2 : (j : Int) < (l.length : Int) := by omega
            have j3 : (0 : Int) < (j : Int) + 1 := by omega
            clear p0 p1 p2 hqj hqk hqj5 hqk5 hA hqt hqt2 hlq hd0 hd2 BX BRr
            by_cases hle : q.last ≤ qp.last
            · have HE : Hid (R = (⟨0, []⟩, 40)) := Lib.hid (by rw [HI.out.1, HD.out, decide_eq_false (by omega)]; rfl)
              clear HI HD HZ
              go_upto_region 15 with fail
              generalize (wr.alloc (.cells #[.slice A1 q.dates.length c1, .slice A2 q.parts.length c2, .string q.rate] 49)) = W5 at *
              refine wp_region_above (by kernel_rfl) (by kernel_rfl) ?_
              repeat (go_big_quiet_step (first | (go_at_call 26; with_reducible exact Ab.step (C1.out _)) | (go_at_call 26; with_reducible exact Ab.step (C2.out _))))
              refine wpQuiet_nil ?_
              rintro _ ⟨x, rfl⟩
              have hx := hb5.trans (x.2.mono hb5.size)
              have BR6 := BR5.below x.2
              clear s0 s1 s2 t0 t1 t2 C1 C2
              have r0 := BR6.cell 0
              have r1 := BR6.cell 1
              have r2 := BR6.frozen 0
              have r3 := BR6.frozen 1
              have q0 := ((BR6.set 0 (.int .i64 0)).set 1 (.slice none 0 0)).cell 0
              have q1 := ((BR6.set 0 (.int .i64 0)).set 1 (.slice none 0 0)).cell 1
              go_wp2_with fail
              (try simp only [Exit.inBlock, Exit.then])
              refine bodyPost_ret (v := .tuple #[.agg #[.int .i64 0, .slice none 0 0], .int .i64 40]) ?_ rfl ?_
              · simp [results, Try.f11, go_sem, q0, q1]
              · exact boot_err HE.out ((hx.setCell (p := ⟨w.heap.size, 0, none⟩) (Nat.le_refl _) _).setCell (p := ⟨w.heap.size, 1, none⟩) (Nat.le_refl _) _)
            · have HN : Hid ((R = if Z.ascQ (prevL base l (j + 1 + 1)) (l.drop (j + 1 + 1)) = true then Z.build ⟨base, []⟩ l else (⟨0, []⟩, 40)) ∧ ∀ (i : Nat) (q : Z.Qt), i < j + 1 + 1 → l[i]? = some q → prevL base l i < q.last) := Lib.hid (by
                refine ⟨by rw [HI.out.1, HD.out, decide_eq_true (by omega : qp.last < q.last)]; rfl, fun i x hi hx => ?_⟩
                by_cases hij : i < j + 1
                · exact HI.out.2 i x hij hx
                · obtain rfl : i = j + 1 := by omega
                  rw [HZ.out] at hx
                  injection hx with hx
                  subst hx
                  rw [HPV.out]
                  omega)
              clear HI HD HZ BR5
              go_upto_region 15 with fail
              generalize (wr.alloc (.cells #[.slice A1 q.dates.length c1, .slice A2 q.parts.length c2, .string q.rate] 49)) = W5 at *
              refine wp_region_above (by kernel_rfl) (by kernel_rfl) ?_
              repeat (go_big_quiet_step (first | (go_at_call 26; with_reducible exact Ab.step (C1.out _)) | (go_at_call 26; with_reducible exact Ab.step (C2.out _))))
              refine wpQuiet_nil ?_
              rintro _ ⟨x, rfl⟩
              have hx := hbr5.trans (x.2.mono hbr5.size)
              clear s0 s1 s2 t0 t1 t2 C1 C2
              go_wp2_with fail
              go_roundw
              case rel => exact ⟨j + 1 + 1, by omega, by go_num, HN, hx⟩
              case measure => simp [intOf]; omega
        · obtain rfl : k = l.length := by omega
          have HB0 : Hid (R = Z.build ⟨base, []⟩ (l.drop 0)) := Lib.hid (by
            have := HI.out.1
            rw [List.drop_length] at this
            exact this)
          have HLA : Hid (∀ (i : Nat) (q : Z.Qt), l[i]? = some q → prevL base l i < q.last) := Lib.hid fun i q hq => HI.out.2 i q (List.getElem?_eq_some_iff.1 hq).1 hq
          have hbw2 := hbw
          have BRr2 := BRr
          clear HI hbr hbw BRr HBw HBR
          have HC0 := Lib.hid (Z.cu_base hd)
          have BC0 := Blk.new wr 27 #[.int .i64 base, .slice none 0 0]
          have hb3 := hbw2.alloc hbw2.size (.cells #[.int .i64 base, .slice none 0 0] 27)
          have BR3 := BRr2.alloc (.cells #[.int .i64 base, .slice none 0 0] 27)
          have hwc := hbw2.size
          have hrc : w.heap.size < wr.heap.size := BRr2.lt
          clear hbw2 BRr2
          go_wp2_with fail
          generalize hW3 : (wr.alloc (.cells #[.int .i64 base, .slice none 0 0] 27)) = W3 at *
          generalize wr.heap.size = Bc at *
          clear hW3
          have HL0 : Hid (R = Z.build ⟨base, []⟩ (l.drop 0) ∧ Z.cuE ⟨base, []⟩ = 0 ∧ (Z.Cu.endK ⟨base, []⟩).1 = prevL base l 0 ∧ ([] : List Z.Pt).length = 0 ∧ Blk W3 Bc 27 #[.int .i64 base, .slice none 0 0] ∧ OP W3 w.heap.size (.slice none 0 0) [] ∧ Below w.heap.size w W3 ∧ Blk W3 w.heap.size 27 #[.int .i64 0, .slice none 0 0]) := Lib.hid ⟨HB0.out, HC0.out, rfl, rfl, BC0, OL.nil_, hb3, BR3⟩
          clear HB0 BC0 hb3 BR3 HC0
          go_loopw [64] (fun iv wr => ∃ (k : Nat) (pts : List Z.Pt) (u : Value), k ≤ l.length ∧ iv = .int .i64 k ∧ Hid (R = Z.build ⟨base, pts⟩ (l.drop k) ∧ Z.cuE ⟨base, pts⟩ = 0 ∧ (Z.Cu.endK ⟨base, pts⟩).1 = prevL base l k ∧ pts.length = k ∧ Blk wr Bc 27 #[.int .i64 base, u] ∧ OP wr w.heap.size u pts ∧ Below w.heap.size w wr ∧ Blk wr w.heap.size 27 #[.int .i64 0, .slice none 0 0])) (fun iv _ => l.length - (intOf iv).toNat)
          case atStart => exact ⟨0, [], _, by omega, rfl, HL0⟩
          case round =>
            obtain ⟨k, pts, u, hk, rfl, HI⟩ := hrel
            clear HL0
            obtain ⟨hR, hcu, hek, hpl, bc, ho, hbw, br⟩ := HI.out
            obtain ⟨Au, cu, rfl⟩ := ho.shape
            have HRk := Lib.hid hR
            have HEK := Lib.hid hek
            have HO := Lib.hid ho
            have HCU := Lib.hid hcu
            have HPL := Lib.hid hpl
            have c0 := bc.cell 0
            have c1 := bc.cell 1
            clear HI hR hek hcu hpl
            by_cases hlt : k < l.length
            · have hz : l[k]? = some l[k] := List.getElem?_eq_getElem hlt
              obtain ⟨b, o, r, rfl, hbl, q0, q1, q2, hqk⟩ := (HQ.out.below hbw).at_ hz
              have hqt := HT2.out _ (List.mem_of_getElem? hz)
              have hla := HLA.out k _ hz
              have HD := Lib.hid (build_drop ⟨base, pts⟩ hz)
              have hpv : prevL base l (k + 1) = l[k].last := by simp only [prevL, hz]
              have HPV := Lib.hid hpv
              clear hz hpv
              generalize l[k] = q at *
              obtain ⟨dv, pv, rate⟩ := r
              obtain ⟨A1, d1, e1, _, _⟩ := hqk.1.shape
              obtain ⟨A2, d2, e2, _, _⟩ := hqk.2.1.shape
              have e1 : dv = .slice A1 q.dates.length d1 := e1
              have e2 : pv = .slice A2 q.parts.length d2 := e2
              have e3 : rate = q.rate := hqk.2.2
              subst e1 e2 e3
              have hba := (Below.refl _ wr).alloc (Nat.le_refl wr.heap.size) (.cells #[.slice A1 q.dates.length d1, .slice A2 q.parts.length d2, .string q.rate] 49)
              have BX := Blk.new wr 49 #[.slice A1 q.dates.length d1, .slice A2 q.parts.length d2, .string q.rate]
              have hb5 := hbw.trans (hba.mono hbw.size)
              have BC5 := bc.below hba
              have BR5 := br.below hba
              have ho5 := OL.below ho hba
              have hqk5 := hqk.below hba
              have s0 := BC5.cell 0
              have s1 := BC5.cell 1
              have H1 : Hid (Calls Try.prog 27 #[.agg #[.int .i64 base, .slice Au pts.length cu], .agg #[.slice A1 q.dates.length d1, .slice A2 q.parts.length d2, .string q.rate]] (wr.alloc (.cells #[.slice A1 q.dates.length d1, .slice A2 q.parts.length d2, .string q.rate] 49)) (RRet (Z.nextR ⟨base, pts⟩ q) (wr.alloc (.cells #[.slice A1 q.dates.length d1, .slice A2 q.parts.length d2, .string q.rate] 49)))) := Lib.hid (next_any ⟨base, pts⟩ (.slice Au pts.length cu) ⟨_, _, _⟩ q _ (OL.sl Z.Pt.vs_len ho5) hqk5 (HV.out.below hb5) HCU.out hqt)
              have hqne : Bc ≠ wr.heap.size := Nat.ne_of_lt bc.lt
              go_wp2_with fail
              generalize (wr.alloc (.cells #[.slice A1 q.dates.length d1, .slice A2 q.parts.length d2, .string q.rate] 49)) = W5 at *
              with_reducible refine H1.out.mono ?_
              rintro e W7 ⟨rfl, hb7⟩
              have hb8 := hb5.trans (hb7.mono hb5.size)
              have BC7 := BC5.below hb7
              have BR7 := BR5.below hb7
              have BX7 := BX.below hb7
              have ho7 := OL.below ho5 hb7
              have hqk7 := hqk5.below hb7
              have hsn : ∀ x, Z.nextR ⟨base, pts⟩ q = (x, 0) → _ := fun x hx => Z.cu_snoc (c := ⟨base, pts⟩) HCU.out (by show pts.length < 100; have := HPL.out; omega) hqt (by rw [HEK.out]; exact hla) hx
              have HSN := Lib.hid hsn
              have hd0 := (Z.qt_ok hqt).2.2.1
              clear hsn H1 c0 c1 q0 q1 q2 s0 s1 BC5 BR5 ho5 hqk5 hqk bc ho br BX hb5 hba hla hqt
              generalize Z.nextR ⟨base, pts⟩ q = p at *
              by_cases hp : p.2 = 0
              case neg =>
                have HE : Hid (R = (⟨0, []⟩, p.2)) := Lib.hid (by rw [HRk.out, HD.out, if_neg hp])
                have hpb := ne_bne hp
                clear HRk HD HSN hp
                have r0 := BR7.cell 0
                have r1 := BR7.cell 1
                have r2 := BR7.frozen 0
                have r3 := BR7.frozen 1
                have q0 := ((BR7.set 0 (.int .i64 0)).set 1 (.slice none 0 0)).cell 0
                have q1 := ((BR7.set 0 (.int .i64 0)).set 1 (.slice none 0 0)).cell 1
                go_wp2_with fail
                (try simp only [Exit.inBlock, Exit.then])
                refine bodyPost_ret (v := .tuple #[.agg #[.int .i64 0, .slice none 0 0], .int .i64 p.2]) ?_ rfl ?_
                · simp [results, Try.f11, go_sem, q0, q1]
                · exact boot_err HE.out ((hb8.setCell (p := ⟨w.heap.size, 0, none⟩) (Nat.le_refl _) _).setCell (p := ⟨w.heap.size, 1, none⟩) (Nat.le_refl _) _)
              have HN : Hid (R = Z.build ⟨base, pts ++ [⟨q.last, p.1⟩]⟩ (l.drop (k + 1))) := Lib.hid (by rw [HRk.out, HD.out, if_pos hp])
              obtain ⟨n1, n2⟩ := HSN.out p.1 (Prod.ext rfl hp)
              have HCN := Lib.hid n1
              have HEN : Hid ((Z.Cu.endK ⟨base, pts ++ [⟨q.last, p.1⟩]⟩).1 = prevL base l (k + 1)) := Lib.hid (by rw [HPV.out]; exact congrArg Prod.fst n2)
              rw [hp]
              clear hp n1 n2 HRk HD HSN HPV HEK
              have hneC := BC7.not_row (by decide) ho7
              have hneX := BX7.not_row (by decide) ho7
              have hneR := BR7.not_row (by decide) ho7
              obtain ⟨F, hFe⟩ : ∃ F : World → Prop, F = fun w' => Blk w' Bc 27 #[.int .i64 base, .slice Au pts.length cu] ∧ Blk w' wr.heap.size 49 #[.slice A1 q.dates.length d1, .slice A2 q.parts.length d2, .string q.rate] ∧ Blk w' w.heap.size 27 #[.int .i64 0, .slice none 0 0] := ⟨_, rfl⟩
              have HF0 : Hid (F W7.drew) := Lib.hid (by rw [hFe]; exact ⟨BC7, BX7, BR7⟩)
              have HFE : Hid (∀ X, F X → Blk X Bc 27 #[.int .i64 base, .slice Au pts.length cu] ∧ Blk X wr.heap.size 49 #[.slice A1 q.dates.length d1, .slice A2 q.parts.length d2, .string q.rate] ∧ Blk X w.heap.size 27 #[.int .i64 0, .slice none 0 0]) := Lib.hid (fun X h => by rw [hFe] at h; exact h)
              have HFB : Hid (∀ X Y, F X → Below X.heap.size X Y → F Y) := Lib.hid (fun X Y h g => by
                rw [hFe] at h ⊢
                exact ⟨h.1.below g, h.2.1.below g, h.2.2.below g⟩)
              have HFG : Hid (∀ X Y, F X → X.grownBy Y (Value.slice Au pts.length cu).ownBlock → F Y) := Lib.hid (fun X Y h g => by
                rw [hFe] at h ⊢
                exact ⟨h.1.kept g hneC, h.2.1.kept g hneX, h.2.2.kept g hneR⟩)
              have f1 : ∀ y : Cl F, y.1.cell? ⟨Bc, 1, none⟩ = some (.slice Au pts.length cu) := fun y => (HFE.out y.1 y.2).1.cell 1
              have g0 : ∀ y : Cl F, y.1.cell? ⟨wr.heap.size, 0, none⟩ = some (.slice A1 q.dates.length d1) := fun y => (HFE.out y.1 y.2).2.1.cell 0
              have g1 : ∀ y : Cl F, y.1.cell? ⟨wr.heap.size, 1, none⟩ = some (.slice A2 q.parts.length d2) := fun y => (HFE.out y.1 y.2).2.1.cell 1
              have g2 : ∀ y : Cl F, y.1.cell? ⟨wr.heap.size, 2, none⟩ = some (.string q.rate) := fun y => (HFE.out y.1 y.2).2.1.cell 2
              have hlen : pts.length ≤ 20000 := by have := HPL.out; omega
              have HO7 := Lib.hid ho7
              have HQ7 := Lib.hid hqk7
              clear hFe BC7 BX7 BR7 ho7 hqk7 hneC hneX hneR
              haveI : Nonempty (Cl F) := Cl.some_ HF0.out
              go_wp2_with fail
              refine wp_region_stages 9 [([0, 1, 2, 4], [3, 5, 6, 7]), ([8], [])] [9] (fun w' => ∃ y : Cl F, w' = y.1) (by kernel_rfl) (by kernel_rfl) ⟨⟨W7.drew, HF0.out⟩, rfl⟩ ?_
              simp only [fxS, opsAt, List.filterMap_cons, List.filterMap_nil, List.getElem?_toArray, List.getElem?_cons_succ, List.getElem?_cons_zero]
              show wpQuiet _ _ _ _ [_, _, _, _] _
              repeat (go_big_quiet_step (fail))
              refine wpQuiet_nil ?_
              refine fxp_enter (f := 26) (args := #[.agg #[.slice A1 q.dates.length d1, .slice A2 q.parts.length d2, .string q.rate]]) (w' := W7.drew) rfl (by simp [go_sem]) ?_
              refine (last_any ⟨_, _, _⟩ q W7.drew HQ7.out hd0).mono ?_
              rintro e W8 ⟨rfl, hb9⟩
              have hb9' : Below W7.heap.size W7 W8 := (Below.refl _ W7).drew.trans hb9
              have hb10 := hb8.trans (hb9'.mono hb8.size)
              have HF8 := Lib.hid (HFB.out _ _ HF0.out hb9)
              refine ⟨_, rfl, ⟨⟨W8, HF8.out⟩, rfl⟩, ?_⟩
              refine fxp_value (u := .agg #[.int .i64 q.last, .string p.1]) (w' := W8) rfl (by simp [go_sem]) ⟨⟨W8, HF8.out⟩, rfl⟩ ?_
              have HF9 := Lib.hid (HFB.out _ _ HF8.out ((Below.refl _ W8).alloc (Nat.le_refl _) (.cells #[.int .i64 q.last, .string p.1] 37)))
              refine fxp_value (u := .slice (some ⟨W8.heap.size, 0, none⟩) 1 1) (w' := W8.alloc (.cells #[.int .i64 q.last, .string p.1] 37)) rfl (by simp [go_sem]) ⟨⟨_, HF9.out⟩, rfl⟩ ?_
              refine fxp_appP rfl (.tmp 79) (.tmp 84) rfl W8 w.heap.size (.slice Au pts.length cu) pts ⟨q.last, p.1⟩ _ rfl rfl (OL.below HO7.out hb9') rfl hlen hb10.size ?_
              intro A' m' c' W9 hO9 hm9 hb11 hg11
              have HF10 := Lib.hid (HFG.out _ _ HF8.out hg11)
              clear hm9
              refine ⟨⟨⟨W9, HF10.out⟩, rfl⟩, ?_⟩
              have bc9 := (HFE.out _ HF10.out).1
              have br9 := (HFE.out _ HF10.out).2.2
              have k1 := bc9.cell 1
              have r1 := bc9.frozen 1
              refine fxp_nil ?_
              show wpQuiet _ _ _ _ [_] _
              simp only [Act.put, List.setIfInBounds_toArray, List.set_cons_succ, List.set_cons_zero]
              repeat (go_big_quiet_step (fail))
              refine wpQuiet_nil ?_
              refine fxp_nil ?_
              refine fxl_skip (w' := W9.setCell ⟨Bc, 1, none⟩ (.slice A' m' c')) rfl (by simp [go_sem, k1, r1]) ?_
              refine fxl_nil ?_
              have hnr := bc9.not_row (by decide) hO9
              have HFIN := Lib.hid (And.intro (bc9.set 1 (.slice A' m' c')) (And.intro (OL.kept hO9 (grownBy_setAt W9 Bc 1 (.slice A' m' c')) (.inr (fun e => hnr e.symm))) (And.intro ((hb10.trans hb11).setCell (p := ⟨Bc, 1, none⟩) hwc (.slice A' m' c')) (br9.other (C := Bc) (j := 1) (by omega) (.slice A' m' c')))))
              clear f1 g0 g1 g2 k1 r1 bc9 br9 hnr
              go_wp2_with fail
              go_roundw
              case rel => exact ⟨k + 1, pts ++ [⟨q.last, p.1⟩], _, by omega, by go_num, Lib.hid ⟨HN.out, HCN.out, HEN.out, by rw [List.length_append, HPL.out]; rfl, HFIN.out.1, HFIN.out.2.1, HFIN.out.2.2.1, HFIN.out.2.2.2⟩⟩
              case measure => simp [intOf]; omega
            · obtain rfl : k = l.length := by omega
              have HRF : Hid (R = (⟨base, pts⟩, 0)) := Lib.hid (by rw [HRk.out, List.drop_length]; rfl)
              have r2 := br.frozen 0
              have r3 := br.frozen 1
              have r0 := br.cell 0
              have r1 := br.cell 1
              have q0 := ((br.set 0 (.int .i64 base)).set 1 (.slice Au pts.length cu)).cell 0
              have q1 := ((br.set 0 (.int .i64 base)).set 1 (.slice Au pts.length cu)).cell 1
              have hnr := br.not_row (by decide) ho
              have hO2 := OL.kept ho (grownBy_setAt wr w.heap.size 0 (.int .i64 base)) (.inr (fun e => hnr e.symm))
              have hO3 := Lib.hid (OL.kept hO2 (grownBy_setAt _ w.heap.size 1 (.slice Au pts.length cu)) (.inr (fun e => hnr e.symm)))
              have HBF := Lib.hid ((hbw.setCell (p := ⟨w.heap.size, 0, none⟩) (Nat.le_refl _) (.int .i64 base)).setCell (p := ⟨w.heap.size, 1, none⟩) (Nat.le_refl _) (.slice Au pts.length cu))
              clear hO2 hnr HRk HEK HO HCU HLA HT2 HPL
              go_wp2_with fail
              (try simp only [Exit.inBlock, Exit.then])
              refine bodyPost_ret (v := .tuple #[.agg #[.int .i64 base, .slice Au pts.length cu], .int .i64 0]) ?_ rfl ?_
              · simp [results, Try.f11, go_sem, q0, q1]
              · rw [HRF.out]
                exact ⟨_, rfl, hO3.out, HBF.out⟩
end Go.Proofs.Ytpnojgaehafjdaa
