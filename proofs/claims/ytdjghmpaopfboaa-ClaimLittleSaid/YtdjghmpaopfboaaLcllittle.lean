/-
  An update adds no more than necessary.
-/
import Derived.Test.YtdjghmpaopfboaaRows
import Derived.Test.YtdjghmpaopfboaaClah
import Derived.Test.YtdjghmpaopfboaaClframe
import Derived.Test.YtdjghmpaopfboaaClsame
import Derived.HandedShaped
import Derived.ProofKit
import Derived.OpenShut
import Derived.ShutString
namespace Go.Proofs.Ytdjghmpaopfboaa.lawLittle
open Go.ChangeShapes Go.WideShapes Go.ChangeAt Go.RowKit
open Go.ChangeMaps (open_string shut_string)

theorem own : ownKnob Try.prog.godebug = none := by kernel_rfl

attribute [local go_sem ↓] eql_flow
theorem made_snoc (M : List Z.Cl) (x : Z.Cl) (f : Z.Fl) : Z.madeC (M ++ [x]) f = Z.madeC M f + (if x.r = 0 ∧ x.fl = f then 1 else 0) := by
  rw [Z.madeC_app]
  congr 1
  unfold Z.madeC
  by_cases h : x.r = 0 ∧ x.fl = f
  · rw [if_pos h, List.filter_cons_of_pos (by simp [h.1, h.2])]; rfl
  · rw [if_neg h, List.filter_cons_of_neg (by simpa using h)]; rfl
theorem und_snoc (M : List Z.Cl) (x : Z.Cl) (f : Z.Fl) : Z.undC (M ++ [x]) f = Z.undC M f + (if x.r ≠ 0 ∧ x.fl = Z.opp f then 1 else 0) := by
  rw [Z.undC_app]
  congr 1
  unfold Z.undC
  by_cases h : x.r ≠ 0 ∧ x.fl = Z.opp f
  · rw [if_pos h, List.filter_cons_of_pos (by simp [h.1, h.2])]; rfl
  · rw [if_neg h, List.filter_cons_of_neg (by simpa using h)]; rfl
theorem made_le (M : List Z.Cl) (f : Z.Fl) : Z.madeC M f ≤ M.length ∧ Z.undC M f ≤ M.length := ⟨List.length_filter_le _ _, List.length_filter_le _ _⟩
theorem win_snoc {L : List Z.Cl} {n j : Nat} {x : Z.Cl} (hn : n ≤ j) (h : L[j]? = some x) : (L.drop n).take (j + 1 - n) = (L.drop n).take (j - n) ++ [x] := by
  rw [show j + 1 - n = j - n + 1 by omega, List.take_add_one, List.getElem?_drop, show n + (j - n) = j by omega, h]
  rfl
theorem open_map (op : List Z.Cl) (f : Z.Fl) : Z.cnt (op.map Z.Cl.fl) f = Z.cntO op f := by
  unfold Z.cnt Z.cntO
  rw [List.filter_map, List.length_map]
  rfl
theorem updl_len (l : List Z.Cl) (fs : List Z.Fl) (en : Int) : l.length ≤ (Z.updL l fs en).length := by
  rw [Z.updL_eq, List.length_append]
  omega
set_option maxRecDepth 100000 in
set_option maxHeartbeats 8000000 in
theorem walk (u : Value) (l : List Z.Cl) (v : Value) (fs : List Z.Fl) (en : Int) (w : World) (hS : SC w u l) (hF : SF w v fs) (_e0 : -9223372036854775808 ≤ en) (_e1 : en ≤ 9223372036854775807) (hV : HasV w) :
    Calls Try.prog 8 #[.agg #[u], v, .int .i64 en] w fun e w' => e = .returned (.bool true) ∧ Below w.heap.size w w' := by
  have hb0 := (Below.refl _ w).alloc (Nat.le_refl w.heap.size) (.cells #[u] 24)
  have BL := Blk.new w 24 #[u]
  have hl0 := BL.cell 0
  have HS := Lib.hid hS
  have HF := Lib.hid hF
  have HV := Lib.hid hV
  clear hS hF hV
  have AL := Lib.hid (fun W (h : Below w.heap.size w W) => alive_any W (HV.out.below h))
  have GR := Lib.hid (fun W (h : Below w.heap.size w W) => great_any u l W (HS.out.below h))
  have GF := Lib.hid (fun W (h : Below w.heap.size w W) => greatf_any v fs W (HF.out.below h))
  go_enter Try.func8, Try.ntmps8
  go_wp2_with fail
  generalize (w.alloc (.cells #[u] 24)) = W0 at *
  refine (AL.out _ hb0).mono ?_
  rintro e W1 ⟨rfl, hb1⟩
  have h1 := hb0.trans (hb1.mono hb0.size)
  have BL1 := BL.below hb1
  clear BL hl0 hb0 hb1 AL
  have hl1 := BL1.cell 0
  go_wp2_with fail
  refine (GR.out _ h1).mono ?_
  rintro e W2 ⟨rfl, hb1⟩
  have h2 := h1.trans (hb1.mono h1.size)
  have BL2 := BL1.below hb1
  clear BL1 hl1 h1 hb1 GR
  have hl2 := BL2.cell 0
  cases hg : Z.greatB l
  case true =>
    go_wp2_with fail
    go_ret
    exact ⟨rfl, h2⟩
  obtain ⟨hlen, hsm⟩ := Z.great_no hg
  have HSM : Hid (∀ x ∈ l, x.fl.small) := Lib.hid (fun x hx => by have := hsm x hx; unfold Z.Fl.small; omega)
  clear hsm hg
  go_wp2_with fail
  refine (GF.out _ h2).mono ?_
  rintro e W3 ⟨rfl, hb1⟩
  have h3 := h2.trans (hb1.mono h2.size)
  have BL3 := BL2.below hb1
  clear BL2 hl2 h2 hb1 GF
  have hl3 := BL3.cell 0
  cases hgf : Z.greatF fs
  case true =>
    go_wp2_with fail
    go_ret
    exact ⟨rfl, h3⟩
  obtain ⟨hfl1, hfl2, hsmf⟩ := Z.greatF_no hgf
  have HSF : Hid (∀ x ∈ fs, x.small) := Lib.hid (fun x hx => by have := hsmf x hx; unfold Z.Fl.small; omega)
  clear hgf hsmf
  clear _e0 _e1
  obtain ⟨A0, c0, rfl, _, hc0, _⟩ := HS.out
  unfold maxLen at hc0
  obtain ⟨Af, cf, rfl, _, hcf, _⟩ := HF.out
  unfold maxLen at hcf
  have OPN := Lib.hid (fun W (h : Below w.heap.size w W) => open_any (.slice A0 l.length c0) l W (HS.out.below h) (HV.out.below h) HSM.out)
  go_wp2_with fail
  refine (OPN.out _ h3).mono ?_
  intro e W3o hr
  obtain ⟨hbo, va, rfl, sa⟩ := open_uni hr
  have HSA := Lib.hid sa
  have k3 := h3.trans (hbo.mono h3.size)
  have KL3 := BL3.below hbo
  clear h3 BL3 hl3 hbo hr sa OPN
  have h3 := k3
  have BL3 := KL3
  clear k3 KL3
  have hl3 := BL3.cell 0
  have UP := Lib.hid (fun W (h : Below w.heap.size w W) => update_any (.slice A0 l.length c0) (.slice Af fs.length cf) l fs en W (HS.out.below h) (HF.out.below h) (HV.out.below h) HSM.out HSF.out)
  go_wp2_with fail
  refine (UP.out _ h3).mono ?_
  intro e W4 hr
  obtain ⟨hb4, ⟨hE, rfl⟩ | ⟨hE, vn, rfl, hO⟩⟩ := hr
  · have h4 := h3.trans (hb4.mono h3.size)
    have hn5 := (Blk.new W4 24 #[.slice none 0 0]).cell 0
    have h5 := h4.alloc h4.size (.cells #[.slice none 0 0] 24)
    have hes : (Z.updE l fs en != 0) = true := by rw [bne_iff_ne]; exact hE
    clear hb4 h4 h3 hl3 BL3 UP hE
    generalize Z.updE l fs en = E at *
    go_wp2_with fail
    go_ret
    exact ⟨rfl, h5⟩
  have h4 := h3.trans (hb4.mono h3.size)
  have BL4 := BL3.below hb4
  have HSA4 := HSA.out.below hb4
  have HE := Lib.hid hE
  have hsL := upd_small (fs := fs) HSM.out HSF.out en
  have HL : Hid (∀ x ∈ Z.updL l fs en, x.fl.small) := Lib.hid hsL
  have hln : (Z.updL l fs en).length ≤ 5000 := (Z.upd_ok hE).2.2.2.2.2
  obtain ⟨A, cp, rfl⟩ := hO.shape
  have hLH := Lib.hid (rfl : Z.updL l fs en = Z.updL l fs en)
  have BN5 := Blk.new W4 24 #[.slice A (Z.updL l fs en).length cp]
  have BL5 := BL4.alloc (.cells #[.slice A (Z.updL l fs en).length cp] 24)
  have h5 := h4.alloc h4.size (.cells #[.slice A (Z.updL l fs en).length cp] 24)
  have HO5 := Lib.hid ((hO.mono h3.size).alloc (.cells #[.slice A (Z.updL l fs en).length cp] 24))
  clear hE hsL hb4 h4 h3 hl3 BL3 UP BL4 hO
  have hvl := (Z.upd_ok HE.out).1
  rw [hvl, if_pos rfl] at HSA4
  have HSA5 := Lib.hid (HSA4.alloc (.cells #[.slice A (Z.updL l fs en).length cp] 24))
  rw [show Z.clE l = 0 by unfold Z.clE; rw [hvl]; rfl]
  have HLI := Lib.hid (fun f => @Z.little l fs en HE.out f)
  have hll := updl_len l fs en
  have hfsl : fs.length ≤ 5000 := by have := Z.upd_ok HE.out; exact (Z.flE_len this.2.1).1
  have hol : (Z.openL l).length ≤ 100 := Nat.le_trans (List.length_filter_le _ _) hlen
  have HOM := Lib.hid (fun f => open_map (Z.openL l) f)
  clear hLH hvl HSA4 HSA
  generalize Z.updL l fs en = L at *
  have HSL := Lib.hid (OL.sl Z.Cl.vs_len HO5.out)
  have hn5 := BN5.cell 0
  clear HE HO5
  go_wp2_with fail
  generalize (W4.alloc (.cells #[.slice A L.length cp] 24)) = W5 at *
  refine (flowsof_any va (Z.openL l) W5 HSA5.out (by omega)).mono ?_
  rintro e W7 ⟨v', rfl, hO7, hb7⟩
  have h7 := h5.trans (hb7.mono h5.size)
  have BN7 := BN5.below hb7
  have BL7 := BL5.below hb7
  have HSL7 := Lib.hid (HSL.out.below hb7)
  have hlm : ((Z.openL l).map Z.Cl.fl).length ≤ 100 := by rw [List.length_map]; exact hol
  generalize (Z.openL l).map Z.Cl.fl = M at *
  have HM := Lib.hid (OL.sl Z.Fl.vs_len hO7)
  obtain ⟨A7, c7, rfl⟩ := hO7.shape
  have hn7 := BN7.cell 0
  have hl7 := BL7.cell 0
  have d1 : ¬ ((L.length : Int) < (l.length : Int)) := by omega
  have d2 : decide (L.length < l.length) = false := decide_eq_false (by omega)
  have d3 : decide ((L.length : Int) < (l.length : Int)) = false := decide_eq_false d1
  clear hb7 BN5 BL5 HSL h5 hO7 HSA5 hol hn5
  go_wp2_with fail
  go_loopw [13] (fun iv wr => ∃ k : Nat, k ≤ fs.length + M.length ∧ iv = .int .i64 k ∧ Below W7.heap.size W7 wr) (fun iv _ => fs.length + M.length - (intOf iv).toNat)
  case atStart => exact ⟨0, by omega, rfl, Below.refl _ _⟩
  case round =>
    obtain ⟨k, hk, rfl, hbr⟩ := hrel
    have h8 := h7.trans (hbr.mono h7.size)
    by_cases hlt : k < fs.length + M.length
    · have hwz := (Below.refl _ wr).alloc (Nat.le_refl wr.heap.size) (.cells #[.int .i64 0, .string ⟨#[]⟩, .string ⟨#[]⟩, .string ⟨#[]⟩, .string ⟨#[]⟩] 36)
      have HF8 := Lib.hid ((HF.out.below h8).below hwz)
      have HM8 := Lib.hid ((HM.out.below hbr).below hwz)
      have hkb : (k : Int) < 5200 := by omega
      have BZ8 := Lib.hid (BN7.below hbr)
      have BL8 := Lib.hid (BL7.below hbr)
      have HSL8 := Lib.hid (HSL7.out.below hbr)
      by_cases hkf : k < fs.length
      · have hz : fs[k]? = some fs[k] := List.getElem?_eq_getElem hkf
        obtain ⟨b, o, rfl, hbl, hcj⟩ := HF8.out.at_ (by omega)
        obtain ⟨q0, q1, q2, q3, q4⟩ := fc_of (hcj k _ hz)
        have hk0 : (0 : Int) ≤ (k : Int) := by omega
        have hk1 : (k : Int) < (fs.length : Int) := by omega
        clear hcj hz HF8 HM8 hn7 hl7
        generalize fs[k] = f at *
        clear hkf
        go_upto_region 18 with fail
        clear q0 q1 q2 q3 q4
        have BX := Blk.new wr 36 #[.int .i64 f.d, .string f.f, .string f.t, .string f.c, .string f.a]
        have hba := (Below.refl _ wr).alloc (Nat.le_refl wr.heap.size) (.cells #[.int .i64 f.d, .string f.f, .string f.t, .string f.c, .string f.a] 36)
        generalize (wr.alloc (.cells #[.int .i64 f.d, .string f.f, .string f.t, .string f.c, .string f.a] 36)) = Wx at *
        have h9 := h8.trans (hba.mono h8.size)
        have hbx := hbr.trans (hba.mono hbr.size)
        have BN9 := BZ8.out.below hba
        have BL9 := BL8.out.below hba
        have HSL9 := Lib.hid (HSL8.out.below hba)
        have hl9 := BL9.cell 0
        have HLF := Lib.hid (HLI.out f)
        clear hwz hba BZ8 BL8 HSL8 h8 hbr
        generalize wr.heap.size = gb at *
        go_wp2_with fail
        go_loopw [15, 16, 17] (fun mv uv kv wr => ∃ j : Nat, l.length ≤ j ∧ j ≤ L.length ∧ kv = .int .i64 j ∧ mv = .int .i64 (Z.madeC ((L.drop l.length).take (j - l.length)) f : Nat) ∧ uv = .int .i64 (Z.undC ((L.drop l.length).take (j - l.length)) f : Nat) ∧ Below Wx.heap.size Wx wr) (fun _ _ kv _ => L.length - (intOf kv).toNat)
        case atStart => exact ⟨l.length, Nat.le_refl _, hll, rfl, by rw [Nat.sub_self]; rfl, by rw [Nat.sub_self]; rfl, Below.refl _ _⟩
        case round =>
          obtain ⟨j, hj0, hj, rfl, rfl, rfl, hby⟩ := hrel
          have hny := (BN9.below hby).cell 0
          by_cases hjl : j < L.length
          · have hz : L[j]? = some L[j] := List.getElem?_eq_getElem hjl
            have hmb := made_le ((L.drop l.length).take (j - l.length)) f
            have hmc : ((L.drop l.length).take (j - l.length)).length ≤ 5000 := by rw [List.length_take, List.length_drop]; omega
            have HWS := Lib.hid (win_snoc hj0 hz)
            have HMS := Lib.hid (made_snoc ((L.drop l.length).take (j - l.length)) L[j] f)
            have HUS := Lib.hid (und_snoc ((L.drop l.length).take (j - l.length)) L[j] f)
            obtain ⟨b2, o2, rfl, hbl2, hcj2⟩ := (HSL9.out.below hby).at_ (by omega)
            obtain ⟨z0, z1, z2, z3, z4, z5, z6, z7⟩ := cc_of (hcj2 j _ hz)
            have hj1 : (0 : Int) ≤ (j : Int) := by omega
            have hj2 : (j : Int) < (L.length : Int) := by omega
            obtain ⟨hmb1, hmb2⟩ := hmb
            have hmd : Z.madeC ((L.drop l.length).take (j - l.length)) f ≤ 5000 := by omega
            have hud : Z.undC ((L.drop l.length).take (j - l.length)) f ≤ 5000 := by omega
            clear hcj2 hz hmb1 hmb2 hmc
            generalize L[j] = x at *
            generalize Z.madeC ((L.drop l.length).take (j - l.length)) f = m at *
            generalize Z.undC ((L.drop l.length).take (j - l.length)) f = n at *
            have B18 := Blk.new wr 38 #[.int .i64 x.n, .int .i64 x.r, .int .i64 x.e, .int .i64 x.fl.d, .string x.fl.f, .string x.fl.t, .string x.fl.c, .string x.fl.a]
            have hbc := (Below.refl _ wr).alloc (Nat.le_refl wr.heap.size) (.cells #[.int .i64 x.n, .int .i64 x.r, .int .i64 x.e, .int .i64 x.fl.d, .string x.fl.f, .string x.fl.t, .string x.fl.c, .string x.fl.a] 38)
            have B14 := (BX.below hby).below hbc
            have hbz := hby.trans (hbc.mono hby.size)
            go_upto_region 23 with fail
            clear z0 z1 z2 z3 z4 z5 z6 z7
            generalize (wr.alloc (.cells #[.int .i64 x.n, .int .i64 x.r, .int .i64 x.e, .int .i64 x.fl.d, .string x.fl.f, .string x.fl.t, .string x.fl.c, .string x.fl.a] 38)) = W2 at *
            have a1 := B18.cell 1
            have TU := Lib.hid (fun q : Ab W2 => turned_any f q.1)
            have u1 : ∀ q : Ab W2, q.1.cell? ⟨wr.heap.size, 1, none⟩ = some (.int .i64 x.r) := fun q => (Ab.cells B18).cell 1
            have u3 : ∀ q : Ab W2, q.1.cell? ⟨wr.heap.size, 3, none⟩ = some (.int .i64 x.fl.d) := fun q => (Ab.cells B18).cell 3
            have u4 : ∀ q : Ab W2, q.1.cell? ⟨wr.heap.size, 4, none⟩ = some (.string x.fl.f) := fun q => (Ab.cells B18).cell 4
            have u5 : ∀ q : Ab W2, q.1.cell? ⟨wr.heap.size, 5, none⟩ = some (.string x.fl.t) := fun q => (Ab.cells B18).cell 5
            have u6 : ∀ q : Ab W2, q.1.cell? ⟨wr.heap.size, 6, none⟩ = some (.string x.fl.c) := fun q => (Ab.cells B18).cell 6
            have u7 : ∀ q : Ab W2, q.1.cell? ⟨wr.heap.size, 7, none⟩ = some (.string x.fl.a) := fun q => (Ab.cells B18).cell 7
            have y0 : ∀ q : Ab W2, q.1.cell? ⟨gb, 0, none⟩ = some (.int .i64 f.d) := fun q => (Ab.cells B14).cell 0
            have y1 : ∀ q : Ab W2, q.1.cell? ⟨gb, 1, none⟩ = some (.string f.f) := fun q => (Ab.cells B14).cell 1
            have y2 : ∀ q : Ab W2, q.1.cell? ⟨gb, 2, none⟩ = some (.string f.t) := fun q => (Ab.cells B14).cell 2
            have y3 : ∀ q : Ab W2, q.1.cell? ⟨gb, 3, none⟩ = some (.string f.c) := fun q => (Ab.cells B14).cell 3
            have y4 : ∀ q : Ab W2, q.1.cell? ⟨gb, 4, none⟩ = some (.string f.a) := fun q => (Ab.cells B14).cell 4
            by_cases hr : x.r = 0
            · have e1 : (x.r == 0) = true := by rw [beq_iff_eq]; exact hr
              have e2 : (x.r != 0) = false := by rw [hr]; rfl
              have HN2 := Lib.hid (if_neg (fun h => h.1 hr) : (if x.r ≠ 0 ∧ x.fl = Z.opp f then 1 else 0) = 0)
              have a3 := B18.cell 3
              have a4 := B18.cell 4
              have a5 := B18.cell 5
              have a6 := B18.cell 6
              have a7 := B18.cell 7
              have b0 := B14.cell 0
              have b1 := B14.cell 1
              have b2 := B14.cell 2
              have b3 := B14.cell 3
              have b4 := B14.cell 4
              by_cases hsf : x.fl = f
              · have HN1 := Lib.hid (if_pos ⟨hr, hsf⟩ : (if x.r = 0 ∧ x.fl = f then 1 else 0) = 1)
                have hsm : Z.same (Z.Fl.mk x.fl.d x.fl.f x.fl.t x.fl.c x.fl.a) (Z.Fl.mk f.d f.f f.t f.c f.a) = true := by show decide (x.fl = f) = true; exact decide_eq_true hsf
                clear hsf hr B18 B14
                go_upto_region 25 with fail
                clear a1 a3 a4 a5 a6 a7 b0 b1 b2 b3 b4
                refine wp_region_above (by kernel_rfl) (by kernel_rfl) ?_
                repeat (go_big_quiet_step (first
                  | (go_at_call 27; with_reducible exact Ab.step (TU.out _))))
                refine wpQuiet_nil ?_
                rintro _ ⟨q', rfl⟩
                clear u1 u3 u4 u5 u6 u7 y0 y1 y2 y3 y4 hsm
                go_wp2_with fail
                go_roundw
                case rel => exact ⟨j + 1, by omega, by omega, by go_num, by rw [HWS.out, HMS.out, HN1.out]; go_num, by rw [HWS.out, HUS.out, HN2.out]; rfl, hbz.trans (Below.mono q'.2 hbz.size)⟩
                case measure => simp [intOf] <;> omega
              · have HN1 := Lib.hid (if_neg (fun h => hsf h.2) : (if x.r = 0 ∧ x.fl = f then 1 else 0) = 0)
                have hsm : Z.same (Z.Fl.mk x.fl.d x.fl.f x.fl.t x.fl.c x.fl.a) (Z.Fl.mk f.d f.f f.t f.c f.a) = false := by show decide (x.fl = f) = false; exact decide_eq_false hsf
                clear hsf hr B18 B14
                go_upto_region 25 with fail
                clear a1 a3 a4 a5 a6 a7 b0 b1 b2 b3 b4
                refine wp_region_above (by kernel_rfl) (by kernel_rfl) ?_
                repeat (go_big_quiet_step (first
                  | (go_at_call 27; with_reducible exact Ab.step (TU.out _))))
                refine wpQuiet_nil ?_
                rintro _ ⟨q', rfl⟩
                clear u1 u3 u4 u5 u6 u7 y0 y1 y2 y3 y4 hsm
                go_wp2_with fail
                go_roundw
                case rel => exact ⟨j + 1, by omega, by omega, by go_num, by rw [HWS.out, HMS.out, HN1.out]; rfl, by rw [HWS.out, HUS.out, HN2.out]; rfl, hbz.trans (Below.mono q'.2 hbz.size)⟩
                case measure => simp [intOf] <;> omega
            · have e1 : (x.r == 0) = false := by rw [beq_eq_false_iff_ne]; exact hr
              have e2 : (x.r != 0) = true := by rw [bne_iff_ne]; exact hr
              have HN1 := Lib.hid (if_neg (fun h => hr h.1) : (if x.r = 0 ∧ x.fl = f then 1 else 0) = 0)
              clear B18 B14
              go_upto_region 25 with fail
              clear a1
              refine wp_region_above (by kernel_rfl) (by kernel_rfl) ?_
              repeat (go_big_quiet_step (first
                | (go_at_call 27; with_reducible exact Ab.step (TU.out _))))
              refine wpQuiet_nil ?_
              rintro _ ⟨q', rfl⟩
              clear u1 u3 u4 u5 u6 u7 y0 y1 y2 y3 y4
              rw [show Z.same (Z.Fl.mk x.fl.d x.fl.f x.fl.t x.fl.c x.fl.a) (Z.Fl.mk f.d f.t f.f f.c f.a) = decide (x.fl = Z.opp f) from rfl]
              by_cases hsf : x.fl = Z.opp f
              · have HN2 := Lib.hid (if_pos ⟨hr, hsf⟩ : (if x.r ≠ 0 ∧ x.fl = Z.opp f then 1 else 0) = 1)
                rw [decide_eq_true hsf]
                clear hsf hr
                go_wp2_with fail
                go_roundw
                case rel => exact ⟨j + 1, by omega, by omega, by go_num, by rw [HWS.out, HMS.out, HN1.out]; rfl, by rw [HWS.out, HUS.out, HN2.out]; go_num, hbz.trans (Below.mono q'.2 hbz.size)⟩
                case measure => simp [intOf] <;> omega
              · have HN2 := Lib.hid (if_neg (fun h => hsf h.2) : (if x.r ≠ 0 ∧ x.fl = Z.opp f then 1 else 0) = 0)
                rw [decide_eq_false hsf]
                clear hsf hr
                go_wp2_with fail
                go_roundw
                case rel => exact ⟨j + 1, by omega, by omega, by go_num, by rw [HWS.out, HMS.out, HN1.out]; rfl, by rw [HWS.out, HUS.out, HN2.out]; rfl, hbz.trans (Below.mono q'.2 hbz.size)⟩
                case measure => simp [intOf] <;> omega
          · obtain rfl : j = L.length := by omega
            rw [show (L.drop l.length).take (L.length - l.length) = L.drop l.length from List.take_of_length_le (by rw [List.length_drop]; exact Nat.le_refl _)]
            obtain ⟨li1, li2⟩ := HLF.out
            rw [← HOM.out f] at li1 li2
            rw [li1, li2]
            have hca : Z.cnt fs f ≤ 5000 := Nat.le_trans (Z.cnt_le fs f) hfsl
            have hcb : Z.cnt M f ≤ 100 := Nat.le_trans (Z.cnt_le M f) hlm
            have HC1 := Lib.hid (fun q : Ab wr => count_any _ fs f q.1 (HF.out.below (h9.trans ((hby.trans (Below.mono q.2 hby.size)).mono h9.size))) (by omega))
            have HC2 := Lib.hid (fun q : Ab wr => count_any _ M f q.1 (HM.out.below (hbx.trans ((hby.trans (Below.mono q.2 hby.size)).mono hbx.size))) (by omega))
            have B14 := BX.below hby
            have y0 : ∀ q : Ab wr, q.1.cell? ⟨gb, 0, none⟩ = some (.int .i64 f.d) := fun q => (Ab.cells B14).cell 0
            have y1 : ∀ q : Ab wr, q.1.cell? ⟨gb, 1, none⟩ = some (.string f.f) := fun q => (Ab.cells B14).cell 1
            have y2 : ∀ q : Ab wr, q.1.cell? ⟨gb, 2, none⟩ = some (.string f.t) := fun q => (Ab.cells B14).cell 2
            have y3 : ∀ q : Ab wr, q.1.cell? ⟨gb, 3, none⟩ = some (.string f.c) := fun q => (Ab.cells B14).cell 3
            have y4 : ∀ q : Ab wr, q.1.cell? ⟨gb, 4, none⟩ = some (.string f.a) := fun q => (Ab.cells B14).cell 4
            generalize Z.cnt fs f = ca at *
            generalize Z.cnt M f = cb at *
            clear li1 li2 B14
            go_upto_region 27 with fail
            refine wp_region_above (by kernel_rfl) (by kernel_rfl) ?_
            repeat (go_big_quiet_step (first
              | (go_at_call 25; with_reducible exact Ab.step (HC1.out _))
              | (go_at_call 25; with_reducible exact Ab.step (HC2.out _))))
            refine wpQuiet_nil ?_
            rintro _ ⟨q', rfl⟩
            clear y0 y1 y2 y3 y4 HC1 HC2
            have hbf := hbx.trans ((hby.trans (Below.mono q'.2 hby.size)).mono hbx.size)
            have h20 := h7.trans (hbf.mono h7.size)
            rcases Nat.lt_trichotomy ca cb with hcc | hcc | hcc
            · obtain ⟨d, rfl⟩ : ∃ d, cb = ca + d := ⟨cb - ca, by omega⟩
              rw [show ca - (ca + d) = 0 by omega, show ca + d - ca = d by omega, show (ca : Int) - ((ca + d : Nat) : Int) = -(d : Int) by omega]
              have hd2 : ¬ ((d : Int) < 0) := by omega
              have hd3 : (d : Int) ≤ 100 := by omega
              obtain ⟨e, he⟩ : ∃ e : Int, -(d : Int) = e := ⟨_, rfl⟩
              have he1 : e < 0 := by omega
              have hw : -e = (d : Int) := by omega
              have hm1 : max e 0 = 0 := by omega
              have hm2 : max (d : Int) 0 = (d : Int) := by omega
              rw [he]
              clear hcc he
              go_wp2_with fail
              go_roundw
              case rel => exact ⟨k + 1, by omega, by go_num, hbf⟩
              case measure => simp [intOf] <;> omega
            · subst hcc
              rw [show ca - ca = 0 by omega, show (ca : Int) - (ca : Int) = 0 by omega]
              have hm0 : max (0 : Int) 0 = 0 := rfl
              go_wp2_with fail
              go_roundw
              case rel => exact ⟨k + 1, by omega, by go_num, hbf⟩
              case measure => simp [intOf] <;> omega
            · obtain ⟨d, rfl⟩ : ∃ d, ca = cb + d := ⟨ca - cb, by omega⟩
              rw [show cb - (cb + d) = 0 by omega, show cb + d - cb = d by omega, show ((cb + d : Nat) : Int) - (cb : Int) = (d : Int) by omega]
              have hm1 : max (-(d : Int)) 0 = 0 := by omega
              have hm2 : max (d : Int) 0 = (d : Int) := by omega
              have hd3 : (d : Int) ≤ 5000 := by omega
              clear hcc
              go_wp2_with fail
              go_roundw
              case rel => exact ⟨k + 1, by omega, by go_num, hbf⟩
              case measure => simp [intOf] <;> omega
      · obtain ⟨j0, hje⟩ : ∃ j, k = fs.length + j := ⟨k - fs.length, by omega⟩
        have hjm : j0 < M.length := by omega
        have hz : M[j0]? = some M[j0] := List.getElem?_eq_getElem hjm
        obtain ⟨b, o, rfl, hbl, hcj⟩ := HM8.out.at_ (by omega)
        obtain ⟨q0, q1, q2, q3, q4⟩ := fc_of (hcj j0 _ hz)
        have hk0 : (0 : Int) ≤ (j0 : Int) := by omega
        have hk1 : (j0 : Int) < (M.length : Int) := by omega
        have hji : (k : Int) - (fs.length : Int) = (j0 : Int) := by omega
        have hjf : ¬ ((k : Int) < (fs.length : Int)) := by omega
        clear hje
        clear hcj hz hkf HF8 HM8 hn7 hl7
        generalize M[j0] = f at *
        clear hjm
        go_upto_region 18 with fail
        clear q0 q1 q2 q3 q4
        have BX := Blk.new wr 36 #[.int .i64 f.d, .string f.f, .string f.t, .string f.c, .string f.a]
        have hba := (Below.refl _ wr).alloc (Nat.le_refl wr.heap.size) (.cells #[.int .i64 f.d, .string f.f, .string f.t, .string f.c, .string f.a] 36)
        generalize (wr.alloc (.cells #[.int .i64 f.d, .string f.f, .string f.t, .string f.c, .string f.a] 36)) = Wx at *
        have h9 := h8.trans (hba.mono h8.size)
        have hbx := hbr.trans (hba.mono hbr.size)
        have BN9 := BZ8.out.below hba
        have BL9 := BL8.out.below hba
        have HSL9 := Lib.hid (HSL8.out.below hba)
        have hl9 := BL9.cell 0
        have HLF := Lib.hid (HLI.out f)
        clear hwz hba BZ8 BL8 HSL8 h8 hbr
        generalize wr.heap.size = gb at *
        go_wp2_with fail
        go_loopw [15, 16, 17] (fun mv uv kv wr => ∃ j : Nat, l.length ≤ j ∧ j ≤ L.length ∧ kv = .int .i64 j ∧ mv = .int .i64 (Z.madeC ((L.drop l.length).take (j - l.length)) f : Nat) ∧ uv = .int .i64 (Z.undC ((L.drop l.length).take (j - l.length)) f : Nat) ∧ Below Wx.heap.size Wx wr) (fun _ _ kv _ => L.length - (intOf kv).toNat)
        case atStart => exact ⟨l.length, Nat.le_refl _, hll, rfl, by rw [Nat.sub_self]; rfl, by rw [Nat.sub_self]; rfl, Below.refl _ _⟩
        case round =>
          obtain ⟨j, hj0, hj, rfl, rfl, rfl, hby⟩ := hrel
          have hny := (BN9.below hby).cell 0
          by_cases hjl : j < L.length
          · have hz : L[j]? = some L[j] := List.getElem?_eq_getElem hjl
            have hmb := made_le ((L.drop l.length).take (j - l.length)) f
            have hmc : ((L.drop l.length).take (j - l.length)).length ≤ 5000 := by rw [List.length_take, List.length_drop]; omega
            have HWS := Lib.hid (win_snoc hj0 hz)
            have HMS := Lib.hid (made_snoc ((L.drop l.length).take (j - l.length)) L[j] f)
            have HUS := Lib.hid (und_snoc ((L.drop l.length).take (j - l.length)) L[j] f)
            obtain ⟨b2, o2, rfl, hbl2, hcj2⟩ := (HSL9.out.below hby).at_ (by omega)
            obtain ⟨z0, z1, z2, z3, z4, z5, z6, z7⟩ := cc_of (hcj2 j _ hz)
            have hj1 : (0 : Int) ≤ (j : Int) := by omega
            have hj2 : (j : Int) < (L.length : Int) := by omega
            obtain ⟨hmb1, hmb2⟩ := hmb
            have hmd : Z.madeC ((L.drop l.length).take (j - l.length)) f ≤ 5000 := by omega
            have hud : Z.undC ((L.drop l.length).take (j - l.length)) f ≤ 5000 := by omega
            clear hcj2 hz hmb1 hmb2 hmc
            generalize L[j] = x at *
            generalize Z.madeC ((L.drop l.length).take (j - l.length)) f = m at *
            generalize Z.undC ((L.drop l.length).take (j - l.length)) f = n at *
            have B18 := Blk.new wr 38 #[.int .i64 x.n, .int .i64 x.r, .int .i64 x.e, .int .i64 x.fl.d, .string x.fl.f, .string x.fl.t, .string x.fl.c, .string x.fl.a]
            have hbc := (Below.refl _ wr).alloc (Nat.le_refl wr.heap.size) (.cells #[.int .i64 x.n, .int .i64 x.r, .int .i64 x.e, .int .i64 x.fl.d, .string x.fl.f, .string x.fl.t, .string x.fl.c, .string x.fl.a] 38)
            have B14 := (BX.below hby).below hbc
            have hbz := hby.trans (hbc.mono hby.size)
            go_upto_region 23 with fail
            clear z0 z1 z2 z3 z4 z5 z6 z7
            generalize (wr.alloc (.cells #[.int .i64 x.n, .int .i64 x.r, .int .i64 x.e, .int .i64 x.fl.d, .string x.fl.f, .string x.fl.t, .string x.fl.c, .string x.fl.a] 38)) = W2 at *
            have a1 := B18.cell 1
            have TU := Lib.hid (fun q : Ab W2 => turned_any f q.1)
            have u1 : ∀ q : Ab W2, q.1.cell? ⟨wr.heap.size, 1, none⟩ = some (.int .i64 x.r) := fun q => (Ab.cells B18).cell 1
            have u3 : ∀ q : Ab W2, q.1.cell? ⟨wr.heap.size, 3, none⟩ = some (.int .i64 x.fl.d) := fun q => (Ab.cells B18).cell 3
            have u4 : ∀ q : Ab W2, q.1.cell? ⟨wr.heap.size, 4, none⟩ = some (.string x.fl.f) := fun q => (Ab.cells B18).cell 4
            have u5 : ∀ q : Ab W2, q.1.cell? ⟨wr.heap.size, 5, none⟩ = some (.string x.fl.t) := fun q => (Ab.cells B18).cell 5
            have u6 : ∀ q : Ab W2, q.1.cell? ⟨wr.heap.size, 6, none⟩ = some (.string x.fl.c) := fun q => (Ab.cells B18).cell 6
            have u7 : ∀ q : Ab W2, q.1.cell? ⟨wr.heap.size, 7, none⟩ = some (.string x.fl.a) := fun q => (Ab.cells B18).cell 7
            have y0 : ∀ q : Ab W2, q.1.cell? ⟨gb, 0, none⟩ = some (.int .i64 f.d) := fun q => (Ab.cells B14).cell 0
            have y1 : ∀ q : Ab W2, q.1.cell? ⟨gb, 1, none⟩ = some (.string f.f) := fun q => (Ab.cells B14).cell 1
            have y2 : ∀ q : Ab W2, q.1.cell? ⟨gb, 2, none⟩ = some (.string f.t) := fun q => (Ab.cells B14).cell 2
            have y3 : ∀ q : Ab W2, q.1.cell? ⟨gb, 3, none⟩ = some (.string f.c) := fun q => (Ab.cells B14).cell 3
            have y4 : ∀ q : Ab W2, q.1.cell? ⟨gb, 4, none⟩ = some (.string f.a) := fun q => (Ab.cells B14).cell 4
            by_cases hr : x.r = 0
            · have e1 : (x.r == 0) = true := by rw [beq_iff_eq]; exact hr
              have e2 : (x.r != 0) = false := by rw [hr]; rfl
              have HN2 := Lib.hid (if_neg (fun h => h.1 hr) : (if x.r ≠ 0 ∧ x.fl = Z.opp f then 1 else 0) = 0)
              have a3 := B18.cell 3
              have a4 := B18.cell 4
              have a5 := B18.cell 5
              have a6 := B18.cell 6
              have a7 := B18.cell 7
              have b0 := B14.cell 0
              have b1 := B14.cell 1
              have b2 := B14.cell 2
              have b3 := B14.cell 3
              have b4 := B14.cell 4
              by_cases hsf : x.fl = f
              · have HN1 := Lib.hid (if_pos ⟨hr, hsf⟩ : (if x.r = 0 ∧ x.fl = f then 1 else 0) = 1)
                have hsm : Z.same (Z.Fl.mk x.fl.d x.fl.f x.fl.t x.fl.c x.fl.a) (Z.Fl.mk f.d f.f f.t f.c f.a) = true := by show decide (x.fl = f) = true; exact decide_eq_true hsf
                clear hsf hr B18 B14
                go_upto_region 25 with fail
                clear a1 a3 a4 a5 a6 a7 b0 b1 b2 b3 b4
                refine wp_region_above (by kernel_rfl) (by kernel_rfl) ?_
                repeat (go_big_quiet_step (first
                  | (go_at_call 27; with_reducible exact Ab.step (TU.out _))))
                refine wpQuiet_nil ?_
                rintro _ ⟨q', rfl⟩
                clear u1 u3 u4 u5 u6 u7 y0 y1 y2 y3 y4 hsm
                go_wp2_with fail
                go_roundw
                case rel => exact ⟨j + 1, by omega, by omega, by go_num, by rw [HWS.out, HMS.out, HN1.out]; go_num, by rw [HWS.out, HUS.out, HN2.out]; rfl, hbz.trans (Below.mono q'.2 hbz.size)⟩
                case measure => simp [intOf] <;> omega
              · have HN1 := Lib.hid (if_neg (fun h => hsf h.2) : (if x.r = 0 ∧ x.fl = f then 1 else 0) = 0)
                have hsm : Z.same (Z.Fl.mk x.fl.d x.fl.f x.fl.t x.fl.c x.fl.a) (Z.Fl.mk f.d f.f f.t f.c f.a) = false := by show decide (x.fl = f) = false; exact decide_eq_false hsf
                clear hsf hr B18 B14
                go_upto_region 25 with fail
                clear a1 a3 a4 a5 a6 a7 b0 b1 b2 b3 b4
                refine wp_region_above (by kernel_rfl) (by kernel_rfl) ?_
                repeat (go_big_quiet_step (first
                  | (go_at_call 27; with_reducible exact Ab.step (TU.out _))))
                refine wpQuiet_nil ?_
                rintro _ ⟨q', rfl⟩
                clear u1 u3 u4 u5 u6 u7 y0 y1 y2 y3 y4 hsm
                go_wp2_with fail
                go_roundw
                case rel => exact ⟨j + 1, by omega, by omega, by go_num, by rw [HWS.out, HMS.out, HN1.out]; rfl, by rw [HWS.out, HUS.out, HN2.out]; rfl, hbz.trans (Below.mono q'.2 hbz.size)⟩
                case measure => simp [intOf] <;> omega
            · have e1 : (x.r == 0) = false := by rw [beq_eq_false_iff_ne]; exact hr
              have e2 : (x.r != 0) = true := by rw [bne_iff_ne]; exact hr
              have HN1 := Lib.hid (if_neg (fun h => hr h.1) : (if x.r = 0 ∧ x.fl = f then 1 else 0) = 0)
              clear B18 B14
              go_upto_region 25 with fail
              clear a1
              refine wp_region_above (by kernel_rfl) (by kernel_rfl) ?_
              repeat (go_big_quiet_step (first
                | (go_at_call 27; with_reducible exact Ab.step (TU.out _))))
              refine wpQuiet_nil ?_
              rintro _ ⟨q', rfl⟩
              clear u1 u3 u4 u5 u6 u7 y0 y1 y2 y3 y4
              rw [show Z.same (Z.Fl.mk x.fl.d x.fl.f x.fl.t x.fl.c x.fl.a) (Z.Fl.mk f.d f.t f.f f.c f.a) = decide (x.fl = Z.opp f) from rfl]
              by_cases hsf : x.fl = Z.opp f
              · have HN2 := Lib.hid (if_pos ⟨hr, hsf⟩ : (if x.r ≠ 0 ∧ x.fl = Z.opp f then 1 else 0) = 1)
                rw [decide_eq_true hsf]
                clear hsf hr
                go_wp2_with fail
                go_roundw
                case rel => exact ⟨j + 1, by omega, by omega, by go_num, by rw [HWS.out, HMS.out, HN1.out]; rfl, by rw [HWS.out, HUS.out, HN2.out]; go_num, hbz.trans (Below.mono q'.2 hbz.size)⟩
                case measure => simp [intOf] <;> omega
              · have HN2 := Lib.hid (if_neg (fun h => hsf h.2) : (if x.r ≠ 0 ∧ x.fl = Z.opp f then 1 else 0) = 0)
                rw [decide_eq_false hsf]
                clear hsf hr
                go_wp2_with fail
                go_roundw
                case rel => exact ⟨j + 1, by omega, by omega, by go_num, by rw [HWS.out, HMS.out, HN1.out]; rfl, by rw [HWS.out, HUS.out, HN2.out]; rfl, hbz.trans (Below.mono q'.2 hbz.size)⟩
                case measure => simp [intOf] <;> omega
          · obtain rfl : j = L.length := by omega
            rw [show (L.drop l.length).take (L.length - l.length) = L.drop l.length from List.take_of_length_le (by rw [List.length_drop]; exact Nat.le_refl _)]
            obtain ⟨li1, li2⟩ := HLF.out
            rw [← HOM.out f] at li1 li2
            rw [li1, li2]
            have hca : Z.cnt fs f ≤ 5000 := Nat.le_trans (Z.cnt_le fs f) hfsl
            have hcb : Z.cnt M f ≤ 100 := Nat.le_trans (Z.cnt_le M f) hlm
            have HC1 := Lib.hid (fun q : Ab wr => count_any _ fs f q.1 (HF.out.below (h9.trans ((hby.trans (Below.mono q.2 hby.size)).mono h9.size))) (by omega))
            have HC2 := Lib.hid (fun q : Ab wr => count_any _ M f q.1 (HM.out.below (hbx.trans ((hby.trans (Below.mono q.2 hby.size)).mono hbx.size))) (by omega))
            have B14 := BX.below hby
            have y0 : ∀ q : Ab wr, q.1.cell? ⟨gb, 0, none⟩ = some (.int .i64 f.d) := fun q => (Ab.cells B14).cell 0
            have y1 : ∀ q : Ab wr, q.1.cell? ⟨gb, 1, none⟩ = some (.string f.f) := fun q => (Ab.cells B14).cell 1
            have y2 : ∀ q : Ab wr, q.1.cell? ⟨gb, 2, none⟩ = some (.string f.t) := fun q => (Ab.cells B14).cell 2
            have y3 : ∀ q : Ab wr, q.1.cell? ⟨gb, 3, none⟩ = some (.string f.c) := fun q => (Ab.cells B14).cell 3
            have y4 : ∀ q : Ab wr, q.1.cell? ⟨gb, 4, none⟩ = some (.string f.a) := fun q => (Ab.cells B14).cell 4
            generalize Z.cnt fs f = ca at *
            generalize Z.cnt M f = cb at *
            clear li1 li2 B14
            go_upto_region 27 with fail
            refine wp_region_above (by kernel_rfl) (by kernel_rfl) ?_
            repeat (go_big_quiet_step (first
              | (go_at_call 25; with_reducible exact Ab.step (HC1.out _))
              | (go_at_call 25; with_reducible exact Ab.step (HC2.out _))))
            refine wpQuiet_nil ?_
            rintro _ ⟨q', rfl⟩
            clear y0 y1 y2 y3 y4 HC1 HC2
            have hbf := hbx.trans ((hby.trans (Below.mono q'.2 hby.size)).mono hbx.size)
            have h20 := h7.trans (hbf.mono h7.size)
            rcases Nat.lt_trichotomy ca cb with hcc | hcc | hcc
            · obtain ⟨d, rfl⟩ : ∃ d, cb = ca + d := ⟨cb - ca, by omega⟩
              rw [show ca - (ca + d) = 0 by omega, show ca + d - ca = d by omega, show (ca : Int) - ((ca + d : Nat) : Int) = -(d : Int) by omega]
              have hd2 : ¬ ((d : Int) < 0) := by omega
              have hd3 : (d : Int) ≤ 100 := by omega
              obtain ⟨e, he⟩ : ∃ e : Int, -(d : Int) = e := ⟨_, rfl⟩
              have he1 : e < 0 := by omega
              have hw : -e = (d : Int) := by omega
              have hm1 : max e 0 = 0 := by omega
              have hm2 : max (d : Int) 0 = (d : Int) := by omega
              rw [he]
              clear hcc he
              go_wp2_with fail
              go_roundw
              case rel => exact ⟨k + 1, by omega, by go_num, hbf⟩
              case measure => simp [intOf] <;> omega
            · subst hcc
              rw [show ca - ca = 0 by omega, show (ca : Int) - (ca : Int) = 0 by omega]
              have hm0 : max (0 : Int) 0 = 0 := rfl
              go_wp2_with fail
              go_roundw
              case rel => exact ⟨k + 1, by omega, by go_num, hbf⟩
              case measure => simp [intOf] <;> omega
            · obtain ⟨d, rfl⟩ : ∃ d, ca = cb + d := ⟨ca - cb, by omega⟩
              rw [show cb - (cb + d) = 0 by omega, show cb + d - cb = d by omega, show ((cb + d : Nat) : Int) - (cb : Int) = (d : Int) by omega]
              have hm1 : max (-(d : Int)) 0 = 0 := by omega
              have hm2 : max (d : Int) 0 = (d : Int) := by omega
              have hd3 : (d : Int) ≤ 5000 := by omega
              clear hcc
              go_wp2_with fail
              go_roundw
              case rel => exact ⟨k + 1, by omega, by go_num, hbf⟩
              case measure => simp [intOf] <;> omega
    · clear hn7 hl7 HF HM
      go_wp2_with fail
      go_ret
      exact ⟨rfl, h8⟩

set_option maxRecDepth 100000 in
theorem lifted (os : Os) (started : os.Started) (H : Type) (enc : TypeId × Value → H) :
    ReturnsInHanded {} Try.checked os 8 .any (Rows.claimLittleSpec.pre6 enc Try.prog Try.f8 Rows.claimLittleRow.domain false) (Rows.claimLittleSpec.post enc Try.prog Try.f8 false true false false) := by
  refine returnsInHanded_of_change_shaped (C := Try.checked) own started (by kernel_rfl) Try.func8
    (ChangeSpec.witness6 (enc := enc) (C := Try.checked) false ⟨#[], #[.agg #[.slice none 0 0], .slice none 0 0, .int .i64 0], []⟩ 8 (by kernel_rfl) (by kernel_rfl) (by kernel_rfl) (by kernel_rfl)) ?_
  intro W base args ds gs before hval0 hW hcnd _ hsh _
  have hval : ∀ (j : Nat) t v, Try.f8.params[j]? = some t → args[j]? = some v → Value.okWide Try.prog W .any base t v := hval0
  have hW' := hW
  obtain ⟨p, q, hA0, hV, rfl, hfz, hnd⟩ := hW
  have hA : DataW.TrodAll enc Try.prog W 0 (fun _ => true) true Try.f8.params.toList args.toList ds p := hA0
  rw [Try.params8] at hA hval
  obtain ⟨v0, vs0, d0, ds0, p0, q0, hargs, rfl, rfl, h0, r0⟩ := trodAll_cons hA
  obtain ⟨v1, vs1, d1, ds1, p1, q1, rfl, rfl, rfl, h1, r1⟩ := trodAll_cons r0
  obtain ⟨v2, vs2, d2, ds2, p2, q2, rfl, rfl, rfl, h2, r2⟩ := trodAll_cons r1
  obtain ⟨rfl, rfl, rfl⟩ := trodAll_nil r2
  obtain rfl : args = #[v0, v1, v2] := by cases args; simp_all
  obtain ⟨rfl, rfl⟩ := trodVars_none hV
  have k0 := h0
  obtain ⟨u0, l0, rfl, si0⟩ := claims_open (hval 0 24 v0 rfl rfl) h0
  have k1 := h1
  obtain ⟨l1, si1⟩ := flows_open (hval 1 25 v1 rfl rfl) h1
  obtain ⟨a2, rfl, rfl, rfl, w2⟩ := open_int Try.underlying3 (hval 2 3 v2 rfl rfl) h2
  clear hA0 hval0
  have bd2 := bounds_i64 w2
  refine (walk u0 l0 v1 l1 a2 W si0 si1 bd2.1 bd2.2 (Try.laysM145.s1_3 W hsh)).mono fun e W' ⟨he, bel⟩ => ?_
  subst he
  exact ⟨_, rfl, _, _, _, [], _, [], hW', trodAll_mk1 (shut_bool Try.underlying4 _), (trodAll_cons_mk (arg_stays (by kernel_rfl) (of_decide_eq_true (by kernel_rfl)) k0 bel) (trodAll_cons_mk (arg_stays (by kernel_rfl) (of_decide_eq_true (by kernel_rfl)) k1 bel) (trodAll_cons_mk (shut_int Try.underlying3 w2) trodAll_mk0))), rfl, bel.frame _, fun h => by cases h⟩

theorem over : Rows.claimLittleRow.holds Try.pinned (OpenSpec.ofChange Rows.claimLittleSpec) :=
  OpenClaim.holds_of_wide 8 Try.f8 rfl rfl rfl rfl rfl rfl rfl ⟨rfl, rfl, rfl, rfl, rfl⟩ rfl rfl rfl rfl rfl (by kernel_rfl) Try.func8 (by kernel_rfl)
    (of_decide_eq_true (by kernel_rfl)) (by unfold Func.isWrapper; first | (rw [if_pos (by decide +kernel)]; kernel_rfl) | (rw [if_neg (by decide +kernel)]; exact ⟨rfl, rfl⟩))
    (fun os started H enc _ => lifted os started H enc)

theorem proved : Rows.ClaimLittleSaid := over
#print axioms proved
