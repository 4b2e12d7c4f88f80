/- Walk: the reference's Net. -/
import Derived.Test.YtdjghmpaopfboaaClnet
namespace Go.Proofs.Ytdjghmpaopfboaa
open Go.RowKit
set_option maxRecDepth 100000 in
set_option maxHeartbeats 8000000 in
theorem rnet_any (v : Value) (l : List Z.Cl) (p c : ByteArray) (w : World) (hS : SC w v l) (hV : HasV w) (hs : ∀ x ∈ l, x.fl.small) (hp : p.size ≤ 100000) (hc : c.size ≤ 100000) :
    Calls Try.prog 19 #[.agg #[v], .string p, .string c] w (NetRet (Z.netR l p c) w) := by
  have hb0 := (Below.refl _ w).alloc (Nat.le_refl w.heap.size) (.cells #[v] 24)
  have BL := Blk.new w 24 #[v]
  have hl0 := BL.cell 0
  have CV := Lib.hid (fun W (h : Below w.heap.size w W) => rvalid_any v l W (hS.below h) hs)
  have HS := Lib.hid hS
  have HVV := Lib.hid hV
  obtain ⟨A, cp, rfl, hlc, hcm, _⟩ := hS
  unfold maxLen at hcm
  have HR : Hid (Z.netR l p c = if Z.valid l = true then (if Z.nameB p = true then (if Z.nameB c = true then Z.netF p c Z.zeroS (l.map Z.Cl.fl) else (⟨#[]⟩, 2)) else (⟨#[]⟩, 2)) else (⟨#[]⟩, 8)) := Lib.hid rfl
  generalize Z.netR l p c = R at *
  clear hV
  go_enter Try.func19, Try.ntmps19
  go_wp2_with fail
  generalize (w.alloc (.cells #[.slice A l.length cp] 24)) = W0 at *
  refine (CV.out _ hb0).mono ?_
  rintro e W1 ⟨rfl, hb1⟩
  have hbw := hb0.trans (hb1.mono hb0.size)
  have BL1 := BL.below hb1
  clear BL hl0 CV hb0 hb1
  cases hv : Z.valid l
  · rw [hv] at HR
    go_wp2_with fail
    go_ret2
    exact net_ret HR.out hbw
  rw [hv] at HR
  have hln : l.length ≤ 5000 := by unfold Z.valid at hv; rw [Bool.and_eq_true, decide_eq_true_iff] at hv; exact hv.1
  go_wp2_with fail
  refine (rname_any _ _ (by unfold maxLen; omega)).mono ?_
  rintro e w2 ⟨rfl, rfl⟩
  cases np : Z.nameB p
  · rw [np] at HR
    go_wp2_with fail
    go_ret2
    exact net_ret HR.out hbw
  rw [np] at HR
  go_wp2_with fail
  refine (rname_any _ _ (by unfold maxLen; omega)).mono ?_
  rintro e w2 ⟨rfl, rfl⟩
  cases nc : Z.nameB c
  · rw [nc] at HR
    go_wp2_with fail
    go_ret2
    exact net_ret HR.out hbw
  rw [nc] at HR
  have HR : Hid (R = Z.netF p c Z.zeroS (l.map Z.Cl.fl)) := HR
  have hl1 := BL1.cell 0
  clear np nc hv
  have hbw2 := hbw
  have BL2 := BL1
  go_wp2_with fail
  rw [show (.string ⟨#[48]⟩ : Value) = .string Z.zeroS from rfl]
  have HI0 : Hid (R = Z.netF p c Z.zeroS ((l.drop 0).map Z.Cl.fl) ∧ Z.zeroS.size ≤ 100000) := Lib.hid ⟨HR.out, by decide⟩
  go_loopw [8, 9] (fun sv iv wr => ∃ (k : Nat) (s : ByteArray), k ≤ l.length ∧ iv = .int .i64 k ∧ sv = .string s ∧ Hid (R = Z.netF p c s ((l.drop k).map Z.Cl.fl) ∧ s.size ≤ 100000) ∧ Below W1.heap.size W1 wr) (fun _ iv _ => l.length - (intOf iv).toNat)
  case atStart => exact ⟨0, Z.zeroS, by omega, rfl, rfl, HI0, Below.refl _ _⟩
  case round =>
    obtain ⟨k, s, hk, rfl, rfl, HI, hbr⟩ := hrel
    clear HI0 HR
    have hbwr := hbw2.trans (hbr.mono hbw2.size)
    have hl2 := (BL2.below hbr).cell 0
    by_cases hlt : k < l.length
    · have hz : l[k]? = some l[k] := List.getElem?_eq_getElem hlt
      obtain ⟨b, o, rfl, hbl, hcj⟩ := (HS.out.below hbwr).at_ (by omega)
      have hcc := cc_of (hcj k _ hz)
      have HD := Lib.hid (Z.net_drop hz)
      have hsm := hs _ (List.mem_of_getElem? hz)
      clear hcj hz
      generalize l[k] = x at *
      obtain ⟨c0, c1, c2, c3, c4, c5, c6, c7⟩ := hcc
      obtain ⟨sm1, sm2, sm3, sm4⟩ := hsm
      have HN : Hid (R = if x.fl.c = c then (if x.fl.t = p then (if Z.addE s x.fl.a = 0 then Z.netF p c (Z.addS s x.fl.a) ((l.drop (k + 1)).map Z.Cl.fl) else (⟨#[]⟩, Z.addE s x.fl.a)) else if x.fl.f = p then (if Z.subE s x.fl.a = 0 then Z.netF p c (Z.subS s x.fl.a) ((l.drop (k + 1)).map Z.Cl.fl) else (⟨#[]⟩, Z.subE s x.fl.a)) else Z.netF p c s ((l.drop (k + 1)).map Z.Cl.fl)) else Z.netF p c s ((l.drop (k + 1)).map Z.Cl.fl)) := Lib.hid (by rw [HI.out.1, HD.out]; rfl)
      have hss := HI.out.2
      have e1 := Z.eqB x.fl.c c
      have e2 := Z.eqB x.fl.t p
      have e3 := Z.eqB x.fl.f p
      have hba := Below.refl wr.heap.size wr
      obtain ⟨W5, rfl⟩ : ∃ W5, W5 = wr := ⟨_, rfl⟩
      have BY := Blk.new W5 36 #[.int .i64 x.fl.d, .string x.fl.f, .string x.fl.t, .string x.fl.c, .string x.fl.a]
      have hbb := hba.trans (((Below.refl _ W5).alloc (Nat.le_refl W5.heap.size) (.cells #[.int .i64 x.fl.d, .string x.fl.f, .string x.fl.t, .string x.fl.c, .string x.fl.a] 36)).mono hba.size)
      go_upto_region 10 with fail
      generalize (W5.alloc (.cells #[.int .i64 x.fl.d, .string x.fl.f, .string x.fl.t, .string x.fl.c, .string x.fl.a] 36)) = W6 at *
      clear c0 c1 c2 c3 c4 c5 c6 c7
      have q1 := BY.cell 1
      have q2 := BY.cell 2
      have q3 := BY.cell 3
      have q4 := BY.cell 4
      have hb6 := hbr.trans (hbb.mono hbr.size)
      have HV6 := Lib.hid (HVV.out.below (hbw2.trans (hb6.mono hbw2.size)))
      clear hbb hba
      have QA : Hid (Calls Try.prog 43 #[.string s, .string x.fl.a] W6 fun e w' => e = .returned (.tuple #[.string (Z.addS s x.fl.a), .int .i64 (Z.addE s x.fl.a)]) ∧ Below W6.heap.size W6 w') := Lib.hid (rqadd_any s x.fl.a W6 (by omega) (by omega))
      have QS : Hid (Calls Try.prog 42 #[.string s, .string x.fl.a] W6 fun e w' => e = .returned (.tuple #[.string (Z.subS s x.fl.a), .int .i64 (Z.subE s x.fl.a)]) ∧ Below W6.heap.size W6 w') := Lib.hid (rqsub_any s x.fl.a W6 (by omega) (by omega))
      cases d1 : decide (x.fl.c = c)
      · rw [d1] at e1
        rw [if_neg (of_decide_eq_false d1)] at HN
        clear e2 e3 QA QS
        go_wp2_with fail
        go_roundw
        case rel => exact ⟨k + 1, _, by omega, by go_num, rfl, Lib.hid ⟨HN.out, hss⟩, hb6⟩
        case measure => simp [intOf]; omega
      rw [d1] at e1
      rw [if_pos (of_decide_eq_true d1)] at HN
      have HW7 : Hid (∀ w7, Below W6.heap.size W6 w7 → Calls Try.prog 43 #[.string s, .string x.fl.a] w7 fun e w' => e = .returned (.tuple #[.string (Z.addS s x.fl.a), .int .i64 (Z.addE s x.fl.a)]) ∧ Below w7.heap.size w7 w') := Lib.hid (fun w7 _ => rqadd_any s x.fl.a w7 (by omega) (by omega))
      clear QA
      cases d2 : decide (x.fl.t = p)
      case true =>
        rw [d2] at e2
        rw [if_pos (of_decide_eq_true d2)] at HN
        clear e3
        go_wp2_with fail
        refine QS.out.mono ?_
        rintro e w7 ⟨rfl, hb7⟩
        have BY7 := BY.below hb7
        have q2 := BY7.cell 2
        have q4 := BY7.cell 4
        go_wp2_with fail
        refine (HW7.out _ hb7).mono ?_
        rintro e w8 ⟨rfl, hb8'⟩
        have hb7' := hb6.trans (hb7.mono hb6.size)
        have hb8 := hb7'.trans (hb8'.mono hb7'.size)
        by_cases he : Z.addE s x.fl.a = 0
        · rw [if_pos he] at HN
          have hsz := Z.add_size he
          rw [he]
          go_wp2_with fail
          go_roundw
          case rel => exact ⟨k + 1, _, by omega, by go_num, rfl, Lib.hid ⟨HN.out, hsz⟩, hb8⟩
          case measure => simp [intOf]; omega
        · rw [if_neg he] at HN
          have hes : (Z.addE s x.fl.a != 0) = true := by rw [bne_iff_ne]; exact he
          go_wp2_with fail
          go_ret2
          exact net_ret HN.out (hbw2.trans (Below.mono (hb8) hbw2.size))
      rw [d2] at e2
      rw [if_neg (of_decide_eq_false d2)] at HN
      cases d3 : decide (x.fl.f = p)
      case true =>
        rw [d3] at e3
        rw [if_pos (of_decide_eq_true d3)] at HN
        go_wp2_with fail
        refine QS.out.mono ?_
        rintro e w7 ⟨rfl, hb7⟩
        have BY7 := BY.below hb7
        have q2 := BY7.cell 2
        have hb8 := hb6.trans (hb7.mono hb6.size)
        by_cases he : Z.subE s x.fl.a = 0
        · rw [if_pos he] at HN
          have hsz := Z.sub_size he
          rw [he]
          go_wp2_with fail
          go_roundw
          case rel => exact ⟨k + 1, _, by omega, by go_num, rfl, Lib.hid ⟨HN.out, hsz⟩, hb8⟩
          case measure => simp [intOf]; omega
        · rw [if_neg he] at HN
          have hes : (Z.subE s x.fl.a != 0) = true := by rw [bne_iff_ne]; exact he
          go_wp2_with fail
          go_ret2
          exact net_ret HN.out (hbw2.trans (Below.mono (hb8) hbw2.size))
      · rw [d3] at e3
        rw [if_neg (of_decide_eq_false d3)] at HN
        clear QS
        go_wp2_with fail
        go_roundw
        case rel => exact ⟨k + 1, _, by omega, by go_num, rfl, Lib.hid ⟨HN.out, hss⟩, hb6⟩
        case measure => simp [intOf]; omega
    · obtain rfl : k = l.length := by omega
      have hd := HI.out.1
      rw [List.drop_length] at hd
      have HD := Lib.hid hd
      clear hd
      go_wp2_with fail
      go_ret2
      exact net_ret HD.out (hbw2.trans (hbr.mono hbw2.size))
end Go.Proofs.Ytdjghmpaopfboaa
