/- Walks: Bootstrap of the reference of curves. -/
import Derived.Test.YtpnojgaehafjdaaGreatCvb
import Derived.Test.YtpnojgaehafjdaaGreatCvrq
import Derived.Test.YtpnojgaehafjdaaGreatCvrv
namespace Go.Proofs.YtpnojgaehafjdaaGreat
open Go.RowKit
set_option maxRecDepth 100000 in
set_option maxHeartbeats 8000000 in
theorem rboot_any (base : Int) (v : Value) (l : List Z.Qt) (w : World) (hQ : SQ w v l) (hs : ∀ q ∈ l, QSm q) :
    Calls Tryz.prog 14 #[.int .i64 base, v] w (BootRet (Z.bootR base l) w) := by
  have HR : Hid (Z.bootR base l = if Z.dayB base = true then (if 50 < l.length then (⟨0, []⟩, 4) else if Z.qtsE base l = 0 then (if Z.ascQ base l = true then Z.build ⟨base, []⟩ l else (⟨0, []⟩, 40)) else (⟨0, []⟩, Z.qtsE base l)) else (⟨0, []⟩, 2)) := Lib.hid rfl
  generalize Z.bootR base l = R at *
  have HQ := Lib.hid hQ
  obtain ⟨A, cp, rfl, hlc, hcm⟩ := hQ.shape
  unfold maxLen at hcm
  have hb0 := (Below.refl _ w).alloc (Nat.le_refl w.heap.size) (.cells #[.int .i64 0, .slice none 0 0] 24)
  have BR0 := Blk.new w 24 #[.int .i64 0, .slice none 0 0]
  clear hQ
  go_enter Tryz.func14, Tryz.ntmps14
  go_wp2_with fail
  generalize (w.alloc (.cells #[.int .i64 0, .slice none 0 0] 24)) = W0 at *
  refine (rday_any _ _).mono ?_
  rintro e w2 ⟨rfl, rfl⟩
  cases hd : Z.dayB base
  · rw [hd] at HR
    have HR2 : Hid (R = (⟨0, []⟩, 2)) := HR
    have r0 := BR0.cell 0
    have r1 := BR0.cell 1
    have r2 := BR0.frozen 0
    have r3 := BR0.frozen 1
    have q0 := ((BR0.set 0 (.int .i64 0)).set 1 (.slice none 0 0)).cell 0
    have q1 := ((BR0.set 0 (.int .i64 0)).set 1 (.slice none 0 0)).cell 1
    go_wp2_with fail
    (try simp only [Exit.inBlock, Exit.then])
    refine bodyPost_ret (v := .tuple #[.agg #[.int .i64 0, .slice none 0 0], .int .i64 2]) ?_ rfl ?_
    · simp [results, Tryz.f14, go_sem, q0, q1]
    · exact boot_err HR2.out ((hb0.setCell (p := ⟨w.heap.size, 0, none⟩) (Nat.le_refl _) _).setCell (p := ⟨w.heap.size, 1, none⟩) (Nat.le_refl _) _)
  rw [hd] at HR
  by_cases h50 : 50 < l.length
  · rw [if_pos h50] at HR
    have HR2 : Hid (R = (⟨0, []⟩, 4)) := HR
    have r0 := BR0.cell 0
    have r1 := BR0.cell 1
    have r2 := BR0.frozen 0
    have r3 := BR0.frozen 1
    have q0 := ((BR0.set 0 (.int .i64 0)).set 1 (.slice none 0 0)).cell 0
    have q1 := ((BR0.set 0 (.int .i64 0)).set 1 (.slice none 0 0)).cell 1
    go_wp2_with fail
    (try simp only [Exit.inBlock, Exit.then])
    refine bodyPost_ret (v := .tuple #[.agg #[.int .i64 0, .slice none 0 0], .int .i64 4]) ?_ rfl ?_
    · simp [results, Tryz.f14, go_sem, q0, q1]
    · exact boot_err HR2.out ((hb0.setCell (p := ⟨w.heap.size, 0, none⟩) (Nat.le_refl _) _).setCell (p := ⟨w.heap.size, 1, none⟩) (Nat.le_refl _) _)
  rw [if_neg h50] at HR
  have HR0 : Hid (R = if Z.qtsE base (l.drop 0) = 0 then (if Z.ascQ base l = true then Z.build ⟨base, []⟩ l else (⟨0, []⟩, 40)) else (⟨0, []⟩, Z.qtsE base (l.drop 0))) := HR
  clear HR
  go_wp2_with fail
  go_loopw [6] (fun iv wr => ∃ k : Nat, k ≤ l.length ∧ iv = .int .i64 k ∧ Hid ((R = if Z.qtsE base (l.drop k) = 0 then (if Z.ascQ base l = true then Z.build ⟨base, []⟩ l else (⟨0, []⟩, 40)) else (⟨0, []⟩, Z.qtsE base (l.drop k))) ∧ ∀ q ∈ l.take k, Z.qtE q base = 0) ∧ Below W0.heap.size W0 wr) (fun iv _ => l.length - (intOf iv).toNat)
  case atStart => exact ⟨0, by omega, rfl, Lib.hid ⟨HR0.out, fun q hq => by simp at hq⟩, Below.refl _ _⟩
  case round =>
    obtain ⟨k, hk, rfl, HI, hbr⟩ := hrel
    clear HR0
    have hbw := hb0.trans (hbr.mono hb0.size)
    have BRr := BR0.below hbr
    have hi0 : (0 : Int) ≤ (k : Int) := by omega
    by_cases hlt : k < l.length
    · have hz : l[k]? = some l[k] := List.getElem?_eq_getElem hlt
      obtain ⟨b, o, r, rfl, hbl, q0, q1, q2, hqk⟩ := (HQ.out.below hbw).at_ hz
      have hsm := hs _ (List.mem_of_getElem? hz)
      have HD := Lib.hid (qts_drop (base := base) hz)
      have HTK : Hid (∀ q ∈ l.take k, Z.qtE q base = 0) := Lib.hid HI.out.2
      have HZ := Lib.hid hz
      have hi1 : (k : Int) < (l.length : Int) := by omega
      clear hz
      generalize l[k] = q at *
      obtain ⟨dv, pv, rate⟩ := r
      obtain ⟨A1, c1, e1, hc1, hc1m⟩ := hqk.1.shape
      obtain ⟨A2, c2, e2, _, _⟩ := hqk.2.1.shape
      have e1 : dv = .slice A1 q.dates.length c1 := e1
      have e2 : pv = .slice A2 q.parts.length c2 := e2
      have e3 : rate = q.rate := hqk.2.2
      subst e1 e2 e3
      have H1 := Lib.hid (rcquote_any ⟨_, _, _⟩ q base wr hqk hsm.1 hsm.2)
      go_wp2_with fail
      refine H1.out.mono ?_
      rintro e W6 ⟨rfl, hb6⟩
      have hbr6 := hbr.trans (hb6.mono hbr.size)
      have hbw6 := hbw.trans (hb6.mono hbw.size)
      have BR6 := BRr.below hb6
      clear H1 q0 q1 q2 BRr
      by_cases hq0 : Z.qtE q base = 0
      · have HN : Hid ((R = if Z.qtsE base (l.drop (k + 1)) = 0 then (if Z.ascQ base l = true then Z.build ⟨base, []⟩ l else (⟨0, []⟩, 40)) else (⟨0, []⟩, Z.qtsE base (l.drop (k + 1)))) ∧ ∀ q ∈ l.take (k + 1), Z.qtE q base = 0) := Lib.hid (by
          refine ⟨?_, fun x hx => ?_⟩
          · have := HI.out.1
            rw [HD.out, if_pos hq0] at this
            exact this
          · rw [List.take_add_one, HZ.out] at hx
            rcases List.mem_append.1 hx with hx | hx
            · exact HTK.out x hx
            · simp at hx
              rw [hx]; exact hq0)
        rw [hq0]
        clear HI HD HTK HZ hq0 BR6
        go_wp2_with fail
        go_roundw
        case rel => exact ⟨k + 1, by omega, by go_num, HN, hbr6⟩
        case measure => simp [intOf]; omega
      · have HE : Hid (R = (⟨0, []⟩, Z.qtE q base)) := Lib.hid (by
          have := HI.out.1
          rw [HD.out, if_neg hq0, if_neg hq0] at this
          exact this)
        have hqb := ne_bne hq0
        generalize Z.qtE q base = kk at *
        clear HI HD HTK HZ hq0
        have r0 := BR6.cell 0
        have r1 := BR6.cell 1
        have r2 := BR6.frozen 0
        have r3 := BR6.frozen 1
        have q0 := ((BR6.set 0 (.int .i64 0)).set 1 (.slice none 0 0)).cell 0
        have q1 := ((BR6.set 0 (.int .i64 0)).set 1 (.slice none 0 0)).cell 1
        go_wp2_with fail
        (try simp only [Exit.inBlock, Exit.then])
        refine bodyPost_ret (v := .tuple #[.agg #[.int .i64 0, .slice none 0 0], .int .i64 kk]) ?_ rfl ?_
        · simp [results, Tryz.f14, go_sem, q0, q1]
        · exact boot_err HE.out ((hbw6.setCell (p := ⟨w.heap.size, 0, none⟩) (Nat.le_refl _) _).setCell (p := ⟨w.heap.size, 1, none⟩) (Nat.le_refl _) _)
    · obtain rfl : k = l.length := by omega
      have HT2 : Hid (∀ q ∈ l, Z.qtE q base = 0) := Lib.hid (fun q hq => HI.out.2 q (by rw [List.take_length]; exact hq))
      have HA0 : Hid ((R = if Z.ascQ (prevL base l 0) (l.drop 0) = true then Z.build ⟨base, []⟩ l else (⟨0, []⟩, 40)) ∧ ∀ (i : Nat) (q : Z.Qt), i < 0 → l[i]? = some q → prevL base l i < q.last) := Lib.hid (by
        have := HI.out.1
        rw [List.drop_length] at this
        exact ⟨this, fun i q hi => by omega⟩)
      have BC0 := Blk.new wr 24 #[.int .i64 base, .slice none 0 0]
      have HB3 := Lib.hid (hbw.alloc hbw.size (.cells #[.int .i64 base, .slice none 0 0] 24))
      have BR3 := Lib.hid (BRr.alloc (.cells #[.int .i64 base, .slice none 0 0] 24))
      have hwc := hbw.size
      have hrc : w.heap.size < wr.heap.size := BRr.lt
      clear HI hbr hbw BRr BR0 hb0
      go_wp2_with fail
      generalize (wr.alloc (.cells #[.int .i64 base, .slice none 0 0] 24)) = W1 at *
      generalize wr.heap.size = Bc at *
      go_loopw [9, 10] (fun lv iv wr => ∃ k : Nat, k ≤ l.length ∧ iv = .int .i64 k ∧ lv = .int .i64 (prevL base l k) ∧ Hid ((R = if Z.ascQ (prevL base l k) (l.drop k) = true then Z.build ⟨base, []⟩ l else (⟨0, []⟩, 40)) ∧ ∀ (i : Nat) (q : Z.Qt), i < k → l[i]? = some q → prevL base l i < q.last) ∧ Below W1.heap.size W1 wr) (fun _ iv _ => l.length - (intOf iv).toNat)
      case atStart => exact ⟨0, by omega, rfl, rfl, HA0, Below.refl _ _⟩
      case round =>
        obtain ⟨k, hk, rfl, rfl, HI, hbr⟩ := hrel
        clear HA0
        have hbw := HB3.out.trans (hbr.mono HB3.out.size)
        have BRr := BR3.out.below hbr
        have BCr := BC0.below hbr
        have hi0 : (0 : Int) ≤ (k : Int) := by omega
        obtain ⟨last, hla⟩ : ∃ x, x = prevL base l k := ⟨_, rfl⟩
        have HLA := Lib.hid hla
        rw [← hla]
        clear hla
        by_cases hlt : k < l.length
        · have hz : l[k]? = some l[k] := List.getElem?_eq_getElem hlt
          obtain ⟨b, o, r, rfl, hbl, q0, q1, q2, hqk⟩ := (HQ.out.below hbw).at_ hz
          have hqt := HT2.out _ (List.mem_of_getElem? hz)
          have HD := Lib.hid (asc_drop (prevL base l k) base hz)
          have hpv : prevL base l (k + 1) = l[k].last := by simp only [prevL, hz]
          have HPV := Lib.hid hpv
          have HZ := Lib.hid hz
          have hi1 : (k : Int) < (l.length : Int) := by omega
          clear hz hpv
          generalize l[k] = q at *
          obtain ⟨dv, pv, rate⟩ := r
          obtain ⟨A1, c1, e1, hc1, hc1m⟩ := hqk.1.shape
          obtain ⟨A2, c2, e2, _, _⟩ := hqk.2.1.shape
          have e1 : dv = .slice A1 q.dates.length c1 := e1
          have e2 : pv = .slice A2 q.parts.length c2 := e2
          have e3 : rate = q.rate := hqk.2.2
          subst e1 e2 e3
          have hd0 := (Z.qt_ok hqt).2.2.1
          have hz9 := getLastD_at hd0
          have hlast : q.dates.getLastD 0 = q.last := rfl
          rw [hlast] at hz9
          obtain ⟨bd, od, hA1, hbd, hcd⟩ := hqk.1.cell1 hz9 rfl
          have hA1 : A1 = some ⟨bd, od, none⟩ := hA1
          subst hA1
          have hn0 : (0 : Int) ≤ (q.dates.length : Int) - 1 := by omega
          have hn1 : (q.dates.length : Int) - 1 < (q.dates.length : Int) := by omega
          have hdn : ¬ q.dates = [] := fun e => by rw [e] at hd0; exact absurd hd0 (Nat.lt_irrefl 0)
          unfold maxLen at hc1m
          have f0 : ∀ y : Ab wr, y.1.cell? ⟨b, o + k * 3, none⟩ = some (.slice (some ⟨bd, od, none⟩) q.dates.length c1) := fun y => (y.2.cell (p := ⟨b, o + k * 3, none⟩) hbl).trans q0
          have f1 : ∀ y : Ab wr, y.1.cell? ⟨bd, od + (q.dates.length - 1), none⟩ = some (.int .i64 q.last) := fun y => (y.2.cell (p := ⟨bd, od + (q.dates.length - 1), none⟩) hbd).trans hcd
          clear q0 q1 q2 hcd hz9 hlast hqt hqk
          go_upto_region 16 with fail
          refine wp_region_above (by kernel_rfl) (by kernel_rfl) ?_
          repeat (go_big_quiet_step (fail))
          refine wpQuiet_nil ?_
          rintro _ ⟨x, rfl⟩
          have hx := hbr.trans (x.2.mono hbr.size)
          have hxw := hbw.trans (x.2.mono hbw.size)
          have BRx := BRr.below x.2
          clear f0 f1 hn0 hn1 hdn
          by_cases hle : q.last ≤ last
          · have HE : Hid (R = (⟨0, []⟩, 40)) := Lib.hid (by rw [HI.out.1, HD.out, ← HLA.out, decide_eq_false (by omega)]; rfl)
            clear HI HD HZ
            have r0 := BRx.cell 0
            have r1 := BRx.cell 1
            have r2 := BRx.frozen 0
            have r3 := BRx.frozen 1
            have q0 := ((BRx.set 0 (.int .i64 0)).set 1 (.slice none 0 0)).cell 0
            have q1 := ((BRx.set 0 (.int .i64 0)).set 1 (.slice none 0 0)).cell 1
            go_wp2_with fail
            (try simp only [Exit.inBlock, Exit.then])
            refine bodyPost_ret (v := .tuple #[.agg #[.int .i64 0, .slice none 0 0], .int .i64 40]) ?_ rfl ?_
            · simp [results, Tryz.f14, go_sem, q0, q1]
            · exact boot_err HE.out ((hxw.setCell (p := ⟨w.heap.size, 0, none⟩) (Nat.le_refl _) _).setCell (p := ⟨w.heap.size, 1, none⟩) (Nat.le_refl _) _)
          · have HN : Hid ((R = if Z.ascQ (prevL base l (k + 1)) (l.drop (k + 1)) = true then Z.build ⟨base, []⟩ l else (⟨0, []⟩, 40)) ∧ ∀ (i : Nat) (q : Z.Qt), i < k + 1 → l[i]? = some q → prevL base l i < q.last) := Lib.hid (by
              refine ⟨by rw [HI.out.1, HD.out, ← HLA.out, decide_eq_true (by omega : last < q.last)]; rfl, fun i x hi hx => ?_⟩
              by_cases hij : i < k
              · exact HI.out.2 i x hij hx
              · obtain rfl : i = k := by omega
                rw [HZ.out] at hx
                injection hx with hx
                subst hx
                rw [← HLA.out]
                omega)
            clear HI HD HZ BRr BCr
            go_wp2_with fail
            go_roundw
            case rel => exact ⟨k + 1, by omega, by go_num, by rw [HPV.out], HN, hx⟩
            case measure => simp [intOf]; omega
        · obtain rfl : k = l.length := by omega
          have HB0 : Hid (R = Z.build ⟨base, []⟩ (l.drop 0)) := Lib.hid (by
            have := HI.out.1
            rw [List.drop_length] at this
            exact this)
          have HLP : Hid (∀ (i : Nat) (q : Z.Qt), l[i]? = some q → prevL base l i < q.last) := Lib.hid fun i q hq => HI.out.2 i q (List.getElem?_eq_some_iff.1 hq).1 hq
          have HC0 := Lib.hid (Z.cu_base hd)
          have HL0 : Hid (R = Z.build ⟨base, []⟩ (l.drop 0) ∧ Z.cuE ⟨base, []⟩ = 0 ∧ (Z.Cu.endK ⟨base, []⟩).1 = prevL base l 0 ∧ ([] : List Z.Pt).length = 0 ∧ Blk wr Bc 24 #[.int .i64 base, .slice none 0 0] ∧ OP wr w.heap.size (.slice none 0 0) [] ∧ Below w.heap.size w wr ∧ Blk wr w.heap.size 24 #[.int .i64 0, .slice none 0 0]) := Lib.hid ⟨HB0.out, HC0.out, rfl, rfl, BCr, OL.nil_, hbw, BRr⟩
          clear HI hbr hbw BRr BCr HB3 BR3 BC0 HB0 HC0 HLA
          go_wp2_with fail
          generalize wr = W3 at *
          go_loopw [12] (fun iv wr => ∃ (k : Nat) (pts : List Z.Pt) (u : Value), k ≤ l.length ∧ iv = .int .i64 k ∧ Hid (R = Z.build ⟨base, pts⟩ (l.drop k) ∧ Z.cuE ⟨base, pts⟩ = 0 ∧ (Z.Cu.endK ⟨base, pts⟩).1 = prevL base l k ∧ pts.length = k ∧ Blk wr Bc 24 #[.int .i64 base, u] ∧ OP wr w.heap.size u pts ∧ Below w.heap.size w wr ∧ Blk wr w.heap.size 24 #[.int .i64 0, .slice none 0 0])) (fun iv _ => l.length - (intOf iv).toNat)
          case atStart => exact ⟨0, [], _, by omega, rfl, HL0⟩
          case round =>
            obtain ⟨k, pts, u, hk, rfl, HI⟩ := hrel
            clear HL0
            obtain ⟨hR, hcu, hek, hpl, bc, ho, hbw, br⟩ := HI.out
            obtain ⟨Au, cu, rfl⟩ := ho.shape
            have HRk := Lib.hid hR
            have HEK := Lib.hid hek
            have HO := Lib.hid ho
            have HCU := Lib.hid hcu
            have HPL := Lib.hid hpl
            clear HI hR hek hcu hpl
            have hi0 : (0 : Int) ≤ (k : Int) := by omega
            by_cases hlt : k < l.length
            · have hz : l[k]? = some l[k] := List.getElem?_eq_getElem hlt
              obtain ⟨b, o, r, rfl, hbl, q0, q1, q2, hqk⟩ := HQ.out.at_ hz
              have hqt := HT2.out _ (List.mem_of_getElem? hz)
              have hla := HLP.out k _ hz
              have HD := Lib.hid (build_drop ⟨base, pts⟩ hz)
              have hpv : prevL base l (k + 1) = l[k].last := by simp only [prevL, hz]
              have HPV := Lib.hid hpv
              have hi1 : (k : Int) < (l.length : Int) := by omega
              clear hz hpv
              generalize l[k] = q at *
              obtain ⟨dv, pv, rate⟩ := r
              obtain ⟨A1, c1, e1, hc1, hc1m⟩ := hqk.1.shape
              obtain ⟨A2, c2, e2, _, _⟩ := hqk.2.1.shape
              have e1 : dv = .slice A1 q.dates.length c1 := e1
              have e2 : pv = .slice A2 q.parts.length c2 := e2
              have e3 : rate = q.rate := hqk.2.2
              subst e1 e2 e3
              have hd0 := (Z.qt_ok hqt).2.2.1
              have hz9 := getLastD_at hd0
              have hlast : q.dates.getLastD 0 = q.last := rfl
              rw [hlast] at hz9
              obtain ⟨bd, od, hA1, hbd, hcd⟩ := hqk.1.cell1 hz9 rfl
              have hA1 : A1 = some ⟨bd, od, none⟩ := hA1
              subst hA1
              have HQK := Lib.hid hqk
              have f0 : ∀ y : Ab wr, y.1.cell? ⟨Bc, 0, none⟩ = some (.int .i64 base) := fun y => (Ab.cells (x := y) bc).cell 0
              have f1 : ∀ y : Ab wr, y.1.cell? ⟨Bc, 1, none⟩ = some (.slice Au pts.length cu) := fun y => (Ab.cells (x := y) bc).cell 1
              have g0 : ∀ y : Ab wr, y.1.cell? ⟨b, o + k * 3, none⟩ = some (.slice (some ⟨bd, od, none⟩) q.dates.length c1) := fun y => ((hbw.trans (y.2.mono hbw.size)).cell (p := ⟨b, o + k * 3, none⟩) hbl).trans q0
              have g1 : ∀ y : Ab wr, y.1.cell? ⟨b, o + k * 3 + 1, none⟩ = some (.slice A2 q.parts.length c2) := fun y => ((hbw.trans (y.2.mono hbw.size)).cell (p := ⟨b, o + k * 3 + 1, none⟩) hbl).trans q1
              have g2 : ∀ y : Ab wr, y.1.cell? ⟨b, o + k * 3 + 2, none⟩ = some (.string q.rate) := fun y => ((hbw.trans (y.2.mono hbw.size)).cell (p := ⟨b, o + k * 3 + 2, none⟩) hbl).trans q2
              have H1 : Hid (Calls Tryz.prog 34 #[.agg #[.int .i64 base, .slice Au pts.length cu], .agg #[.slice (some ⟨bd, od, none⟩) q.dates.length c1, .slice A2 q.parts.length c2, .string q.rate]] wr.drew (RRet (Z.nextR ⟨base, pts⟩ q) wr.drew)) := Lib.hid (solve_any ⟨base, pts⟩ (.slice Au pts.length cu) ⟨_, _, _⟩ q _ (OL.sl Z.Pt.vs_len (OL.below ho (Below.refl _ wr).drew)) (hqk.below hbw.drew) HCU.out hqt)
              have HQ0 := Lib.hid q0
              have HCD := Lib.hid hcd
              have hsn : ∀ x, Z.nextR ⟨base, pts⟩ q = (x, 0) → _ := fun x hx => Z.cu_snoc (c := ⟨base, pts⟩) HCU.out (by show pts.length < 100; have := HPL.out; omega) hqt (by rw [HEK.out]; exact hla) hx
              have HSN := Lib.hid hsn
              clear q0 q1 q2 hcd hz9 hlast hqt hqk hsn hla
              generalize Z.nextR ⟨base, pts⟩ q = p at *
              go_wp2_with fail
              refine wp_region_stages 11 [([0, 1, 2, 3, 4], [5]), ([6, 7, 8, 9, 10], [])] [] (fun w' => ∃ y : Ab wr, w' = y.1) (by kernel_rfl) (by kernel_rfl) ⟨⟨wr.drew, (Below.refl _ wr).drew⟩, rfl⟩ ?_
              simp only [fxS, opsAt, List.filterMap_cons, List.filterMap_nil, List.getElem?_toArray, List.getElem?_cons_succ, List.getElem?_cons_zero]
              show wpQuiet _ _ _ _ [_, _, _, _, _] _
              repeat (go_big_quiet_step (fail))
              refine wpQuiet_nil ?_
              refine fxp_enter (f := 34) (args := #[.agg #[.int .i64 base, .slice Au pts.length cu], .agg #[.slice (some ⟨bd, od, none⟩) q.dates.length c1, .slice A2 q.parts.length c2, .string q.rate]]) (w' := wr.drew) rfl (by simp [go_sem]) ?_
              refine H1.out.mono ?_
              rintro e W7 ⟨rfl, hb7⟩
              have hb7' : Below wr.heap.size wr W7 := (Below.refl _ wr).drew.trans hb7
              refine ⟨_, rfl, ⟨⟨W7, hb7'⟩, rfl⟩, ?_⟩
              refine fxp_nil ?_
              show wpQuiet _ _ _ _ [_, _, _, _, _] _
              simp only [Act.put, List.setIfInBounds_toArray, List.set_cons_succ, List.set_cons_zero]
              repeat (go_big_quiet_step (fail))
              refine wpQuiet_nil ?_
              refine fxp_nil (fxl_nil ?_)
              have hb8 := hbw.trans (hb7'.mono hbw.size)
              have BC7 := bc.below hb7'
              have BR7 := br.below hb7'
              have ho7 := OL.below ho hb7'
              clear f0 f1 g0 g1 g2 H1 bc br ho hb7
              by_cases hp : p.2 = 0
              case neg =>
                have HE : Hid (R = (⟨0, []⟩, p.2)) := Lib.hid (by rw [HRk.out, HD.out, if_neg hp])
                have hpb := ne_bne hp
                clear HRk HD HSN hp
                have r0 := BR7.cell 0
                have r1 := BR7.cell 1
                have r2 := BR7.frozen 0
                have r3 := BR7.frozen 1
                have q0 := ((BR7.set 0 (.int .i64 0)).set 1 (.slice none 0 0)).cell 0
                have q1 := ((BR7.set 0 (.int .i64 0)).set 1 (.slice none 0 0)).cell 1
                go_wp2_with fail
                (try simp only [Exit.inBlock, Exit.then])
                refine bodyPost_ret (v := .tuple #[.agg #[.int .i64 0, .slice none 0 0], .int .i64 p.2]) ?_ rfl ?_
                · simp [results, Tryz.f14, go_sem, q0, q1]
                · exact boot_err HE.out ((hb8.setCell (p := ⟨w.heap.size, 0, none⟩) (Nat.le_refl _) _).setCell (p := ⟨w.heap.size, 1, none⟩) (Nat.le_refl _) _)
              have HN : Hid (R = Z.build ⟨base, pts ++ [⟨q.last, p.1⟩]⟩ (l.drop (k + 1))) := Lib.hid (by rw [HRk.out, HD.out, if_pos hp])
              obtain ⟨n1, n2⟩ := HSN.out p.1 (Prod.ext rfl hp)
              have HCN := Lib.hid n1
              have HEN : Hid ((Z.Cu.endK ⟨base, pts ++ [⟨q.last, p.1⟩]⟩).1 = prevL base l (k + 1)) := Lib.hid (by rw [HPV.out]; exact congrArg Prod.fst n2)
              rw [hp]
              clear hp n1 n2 HRk HD HSN HPV HEK
              have hneC := BC7.not_row (by decide) ho7
              have hneR := BR7.not_row (by decide) ho7
              have hnw : ∀ k < w.heap.size, some k ≠ (Value.slice Au pts.length cu).ownBlock := fun j hj e => by have := OL.base ho7 j e.symm; omega
              obtain ⟨F, hFe⟩ : ∃ F : World → Prop, F = fun w' => Blk w' Bc 24 #[.int .i64 base, .slice Au pts.length cu] ∧ Below w.heap.size w w' ∧ Blk w' w.heap.size 24 #[.int .i64 0, .slice none 0 0] := ⟨_, rfl⟩
              have HF0 : Hid (F W7.drew) := Lib.hid (by rw [hFe]; exact ⟨BC7, hb8.drew, BR7⟩)
              have HFE : Hid (∀ X, F X → Blk X Bc 24 #[.int .i64 base, .slice Au pts.length cu] ∧ Below w.heap.size w X ∧ Blk X w.heap.size 24 #[.int .i64 0, .slice none 0 0]) := Lib.hid (fun X h => by rw [hFe] at h; exact h)
              have HFB : Hid (∀ X Y, F X → Below X.heap.size X Y → F Y) := Lib.hid (fun X Y h g => by
                rw [hFe] at h ⊢
                exact ⟨h.1.below g, h.2.1.trans (g.mono h.2.1.size), h.2.2.below g⟩)
              have HFG : Hid (∀ X Y, F X → X.grownBy Y (Value.slice Au pts.length cu).ownBlock → F Y) := Lib.hid (fun X Y h g => by
                rw [hFe] at h ⊢
                exact ⟨h.1.kept g hneC, h.2.1.grown g h.2.1.size (fun k hk => OL.base ho7 k hk), h.2.2.kept g hneR⟩)
              have f1 : ∀ y : Cl F, y.1.cell? ⟨Bc, 1, none⟩ = some (.slice Au pts.length cu) := fun y => (HFE.out y.1 y.2).1.cell 1
              have g0 : ∀ y : Cl F, y.1.cell? ⟨b, o + k * 3, none⟩ = some (.slice (some ⟨bd, od, none⟩) q.dates.length c1) := fun y => ((HFE.out y.1 y.2).2.1.cell (p := ⟨b, o + k * 3, none⟩) hbl).trans HQ0.out
              have g1 : ∀ y : Cl F, y.1.cell? ⟨bd, od + (q.dates.length - 1), none⟩ = some (.int .i64 q.last) := fun y => ((HFE.out y.1 y.2).2.1.cell (p := ⟨bd, od + (q.dates.length - 1), none⟩) hbd).trans HCD.out
              have hlen : pts.length ≤ 20000 := by have := HPL.out; omega
              have hn0 : (0 : Int) ≤ (q.dates.length : Int) - 1 := by omega
              have hn1 : (q.dates.length : Int) - 1 < (q.dates.length : Int) := by omega
              have hdn : ¬ q.dates = [] := fun e => by rw [e] at hd0; exact absurd hd0 (Nat.lt_irrefl 0)
              unfold maxLen at hc1m
              have HO7 := Lib.hid ho7
              clear hFe BC7 BR7 ho7 hneC hneR hnw
              haveI : Nonempty (Cl F) := Cl.some_ HF0.out
              go_wp2_with fail
              refine wp_region_stages 21 [([0, 1, 2, 3, 4, 5, 6, 7, 8, 9, 10, 11, 12, 13, 14, 15, 16, 17], [18, 19]), ([20], [])] [21] (fun w' => ∃ y : Cl F, w' = y.1) (by kernel_rfl) (by kernel_rfl) ⟨⟨W7.drew, HF0.out⟩, rfl⟩ ?_
              simp only [fxS, opsAt, List.filterMap_cons, List.filterMap_nil, List.getElem?_toArray, List.getElem?_cons_succ, List.getElem?_cons_zero]
              show wpQuiet _ _ _ _ [_, _, _, _, _, _, _, _, _, _, _, _, _, _, _, _, _, _] _
              repeat (go_big_quiet_step (fail))
              refine wpQuiet_nil ?_
              have HF9 := Lib.hid (HFB.out _ _ HF0.out ((Below.refl _ W7.drew).alloc (Nat.le_refl _) (.cells #[.int .i64 q.last, .string p.1] 50)))
              refine fxp_value (u := .slice (some ⟨W7.heap.size, 0, none⟩) 1 1) (w' := W7.drew.alloc (.cells #[.int .i64 q.last, .string p.1] 50)) rfl (by simp [go_sem]) ⟨⟨_, HF9.out⟩, rfl⟩ ?_
              refine fxp_appP rfl (.tmp 87) (.tmp 104) rfl W7.drew w.heap.size (.slice Au pts.length cu) pts ⟨q.last, p.1⟩ _ rfl rfl (OL.below HO7.out (Below.refl _ W7).drew) rfl hlen hb8.size ?_
              intro A' m' c' W9 hO9 hm9 hb11 hg11
              have HF10 := Lib.hid (HFG.out _ _ HF0.out hg11)
              clear hm9
              refine ⟨⟨⟨W9, HF10.out⟩, rfl⟩, ?_⟩
              have bc9 := (HFE.out _ HF10.out).1
              have br9 := (HFE.out _ HF10.out).2.2
              have k1 := bc9.cell 1
              have r1 := bc9.frozen 1
              refine fxp_nil ?_
              show wpQuiet _ _ _ _ [_] _
              simp only [Act.put, List.setIfInBounds_toArray, List.set_cons_succ, List.set_cons_zero]
              repeat (go_big_quiet_step (fail))
              refine wpQuiet_nil ?_
              refine fxp_nil ?_
              refine fxl_skip (w' := W9.setCell ⟨Bc, 1, none⟩ (.slice A' m' c')) rfl (by simp [go_sem, k1, r1]) ?_
              refine fxl_nil ?_
              have hnr := bc9.not_row (by decide) hO9
              have HFIN := Lib.hid (And.intro (bc9.set 1 (.slice A' m' c')) (And.intro (OL.kept hO9 (grownBy_setAt W9 Bc 1 (.slice A' m' c')) (.inr (fun e => hnr e.symm))) (And.intro ((HFE.out _ HF10.out).2.1.setCell (p := ⟨Bc, 1, none⟩) hwc (.slice A' m' c')) (br9.other (C := Bc) (j := 1) (by omega) (.slice A' m' c')))))
              clear f1 g0 g1 k1 r1 bc9 br9 hnr hn0 hn1 hdn
              go_wp2_with fail
              go_roundw
              case rel => exact ⟨k + 1, pts ++ [⟨q.last, p.1⟩], _, by omega, by go_num, Lib.hid ⟨HN.out, HCN.out, HEN.out, by rw [List.length_append, HPL.out]; rfl, HFIN.out.1, HFIN.out.2.1, HFIN.out.2.2.1, HFIN.out.2.2.2⟩⟩
              case measure => simp [intOf]; omega
            · obtain rfl : k = l.length := by omega
              have HRF : Hid (R = (⟨base, pts⟩, 0)) := Lib.hid (by rw [HRk.out, List.drop_length]; rfl)
              have c0 := bc.cell 0
              have c1 := bc.cell 1
              have r2 := br.frozen 0
              have r3 := br.frozen 1
              have r0 := br.cell 0
              have r1 := br.cell 1
              have q0 := ((br.set 0 (.int .i64 base)).set 1 (.slice Au pts.length cu)).cell 0
              have q1 := ((br.set 0 (.int .i64 base)).set 1 (.slice Au pts.length cu)).cell 1
              have hnr := br.not_row (by decide) ho
              have hO2 := OL.kept ho (grownBy_setAt wr w.heap.size 0 (.int .i64 base)) (.inr (fun e => hnr e.symm))
              have hO3 := Lib.hid (OL.kept hO2 (grownBy_setAt _ w.heap.size 1 (.slice Au pts.length cu)) (.inr (fun e => hnr e.symm)))
              have HBF := Lib.hid ((hbw.setCell (p := ⟨w.heap.size, 0, none⟩) (Nat.le_refl _) (.int .i64 base)).setCell (p := ⟨w.heap.size, 1, none⟩) (Nat.le_refl _) (.slice Au pts.length cu))
              clear hO2 hnr HRk HEK HO HCU HLP HT2 HPL
              go_wp2_with fail
              (try simp only [Exit.inBlock, Exit.then])
              refine bodyPost_ret (v := .tuple #[.agg #[.int .i64 base, .slice Au pts.length cu], .int .i64 0]) ?_ rfl ?_
              · simp [results, Tryz.f14, go_sem, q0, q1]
              · rw [HRF.out]
                exact ⟨_, rfl, hO3.out, HBF.out⟩
end Go.Proofs.YtpnojgaehafjdaaGreat
