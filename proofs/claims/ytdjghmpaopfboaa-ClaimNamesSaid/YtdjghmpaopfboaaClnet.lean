/- Walks: the nets of claims, in the program and in the reference; the reference's Open. -/
import Derived.Test.YtdjghmpaopfboaaClopen
import Derived.Test.YtdjghmpaopfboaaQ4
namespace Go.Proofs.Ytdjghmpaopfboaa
open Go.RowKit
namespace Z
theorem lt_of_res {x : Int} (h : resE x = 0) : Lt 1000 x := by
  obtain ⟨z, e, hl⟩ := int_of (res_fit h).2
  have : ival (S x).data.toList = ival (S z).data.toList := by rw [e]
  rw [ival_S, ival_S] at this
  rw [this]; exact hl
theorem fit_div {x y : Int} (hx : resE x = 0) (hy : resE y = 0) (h0 : 0 < y) : Fit (Rat.divInt x y) := by
  obtain ⟨h1, h2⟩ := div_num_pos (x := x) h0
  have l1 : Lt 1000 (Rat.divInt x y).num := by rw [h1]; exact (lt_of_res hx).of_le (Int.natAbs_ediv_le_natAbs _ _)
  have l2 : Lt 1000 ((Rat.divInt x y).den : Int) := by rw [h2]; exact (lt_of_res hy).of_le (Int.natAbs_ediv_le_natAbs _ _)
  have r1 := (resS_ok (l1.res (by decide) (by decide)).1).2
  have r2 := (resS_ok (l2.res (by decide) (by decide)).1).2
  exact ⟨r1, by simpa using r2⟩
theorem add_size {a b : ByteArray} (h : ropE (lAdd a b) a b = 0) : (ropS (lAdd a b) (rq a + rq b) a b).size ≤ 100000 := by
  have e : ropS (lAdd a b) (rq a + rq b) a b = Q (rq a + rq b) := by unfold ropS; rw [if_pos h]
  unfold ropE at h
  split at h
  · rename_i hb
    obtain ⟨oa, ob⟩ := rbothE_ok hb
    split at h
    · rename_i hf
      unfold lAdd at hf
      rw [fit4] at hf
      simp at hf
      have hda : Z.rd a ≠ 0 := by have := oa.pos; omega
      have hdb : Z.rd b ≠ 0 := by have := ob.pos; omega
      have ef : Fit (rq a + rq b) := by
        rw [oa.self, ob.self, Rat.divInt_add_divInt _ _ hda hdb]
        exact fit_div hf.2.2.1 hf.2.2.2 (Int.mul_pos oa.pos ob.pos)
      rw [e]
      have := Q_size ef
      omega
    · cases h
  · rename_i hb
    exact absurd h hb
theorem sub_size {a b : ByteArray} (h : ropE (lSub a b) a b = 0) : (ropS (lSub a b) (rq a - rq b) a b).size ≤ 100000 := by
  have e : ropS (lSub a b) (rq a - rq b) a b = Q (rq a - rq b) := by unfold ropS; rw [if_pos h]
  unfold ropE at h
  split at h
  · rename_i hb
    obtain ⟨oa, ob⟩ := rbothE_ok hb
    split at h
    · rename_i hf
      unfold lSub at hf
      rw [fit4] at hf
      simp at hf
      have hda : Z.rd a ≠ 0 := by have := oa.pos; omega
      have hdb : Z.rd b ≠ 0 := by have := ob.pos; omega
      have ef : Fit (rq a - rq b) := by
        rw [oa.self, ob.self, Rat.divInt_sub_divInt _ _ hda hdb, show Z.rn a * Z.rd b - Z.rn b * Z.rd a = Z.rn a * Z.rd b + -(Z.rn b * Z.rd a) by omega]
        exact fit_div hf.2.2.1 hf.2.2.2 (Int.mul_pos oa.pos ob.pos)
      rw [e]
      have := Q_size ef
      omega
    · cases h
  · rename_i hb
    exact absurd h hb
def addS (a b : ByteArray) : ByteArray := ropS (lAdd a b) (rq a + rq b) a b
def addE (a b : ByteArray) : Int := ropE (lAdd a b) a b
def subS (a b : ByteArray) : ByteArray := ropS (lSub a b) (rq a - rq b) a b
def subE (a b : ByteArray) : Int := ropE (lSub a b) a b
theorem addS_err {a b : ByteArray} (h : addE a b ≠ 0) : addS a b = ⟨#[]⟩ := by exact if_neg h
theorem subS_err {a b : ByteArray} (h : subE a b ≠ 0) : subS a b = ⟨#[]⟩ := by exact if_neg h
/-- The sum of the flows of a party in a currency, from a sum on. -/
def netF (p c : ByteArray) : ByteArray → List Fl → ByteArray × Int
  | s, [] => (s, 0)
  | s, f :: r => if f.c = c then (if f.t = p then (if addE s f.a = 0 then netF p c (addS s f.a) r else (⟨#[]⟩, addE s f.a)) else if f.f = p then (if subE s f.a = 0 then netF p c (subS s f.a) r else (⟨#[]⟩, subE s f.a)) else netF p c s r) else netF p c s r
/-- What Net answers. -/
def netR (l : List Cl) (p c : ByteArray) : ByteArray × Int := if valid l = true then (if nameB p = true then (if nameB c = true then netF p c zeroS (l.map Cl.fl) else (⟨#[]⟩, 2)) else (⟨#[]⟩, 2)) else (⟨#[]⟩, 8)
theorem net_drop {l : List Cl} {k : Nat} {x : Cl} (h : l[k]? = some x) : (l.drop k).map Cl.fl = x.fl :: (l.drop (k + 1)).map Cl.fl := by
  obtain ⟨hlt, rfl⟩ := List.getElem?_eq_some_iff.1 h
  rw [List.drop_eq_getElem_cons hlt]; rfl
end Z
def NetRet (r : ByteArray × Int) (w : World) (e : Ending) (w' : World) : Prop := e = .returned (.tuple #[.string r.1, .int .i64 r.2]) ∧ Below w.heap.size w w'
theorem net_ret {r : ByteArray × Int} {s : ByteArray} {k : Int} {w w' : World} (h : r = (s, k)) (hb : Below w.heap.size w w') : NetRet r w (.returned (.tuple #[.string s, .int .i64 k])) w' := by subst h; exact ⟨rfl, hb⟩
set_option maxRecDepth 100000 in
set_option maxHeartbeats 8000000 in
theorem net_any (v : Value) (l : List Z.Cl) (p c : ByteArray) (w : World) (hS : SC w v l) (hV : HasV w) (hs : ∀ x ∈ l, x.fl.small) (hp : p.size ≤ 100000) (hc : c.size ≤ 100000) :
    Calls Try.prog 18 #[.agg #[v], .string p, .string c] w (NetRet (Z.netR l p c) w) := by
  have hb0 := (Below.refl _ w).alloc (Nat.le_refl w.heap.size) (.cells #[v] 24)
  have BL := Blk.new w 24 #[v]
  have hl0 := BL.cell 0
  have CV := Lib.hid (fun W (h : Below w.heap.size w W) => ccheckc_any v l W (hS.below h) (hV.below h) hs)
  have HS := Lib.hid hS
  have HVV := Lib.hid hV
  obtain ⟨A, cp, rfl, hlc, hcm, _⟩ := hS
  unfold maxLen at hcm
  have HR : Hid (Z.netR l p c = if Z.valid l = true then (if Z.nameB p = true then (if Z.nameB c = true then Z.netF p c Z.zeroS (l.map Z.Cl.fl) else (⟨#[]⟩, 2)) else (⟨#[]⟩, 2)) else (⟨#[]⟩, 8)) := Lib.hid rfl
  generalize Z.netR l p c = R at *
  clear hV
  go_enter Try.func18, Try.ntmps18
  go_wp2_with fail
  generalize (w.alloc (.cells #[.slice A l.length cp] 24)) = W0 at *
  refine (CV.out _ hb0).mono ?_
  rintro e W1 ⟨rfl, hb1⟩
  have hbw := hb0.trans (hb1.mono hb0.size)
  have BL1 := BL.below hb1
  clear BL hl0 CV hb0 hb1
  cases hv : Z.valid l
  · rw [hv] at HR
    rw [show Z.clE l = 8 by unfold Z.clE; rw [hv]; rfl]
    go_wp2_with fail
    go_ret2
    exact net_ret HR.out hbw
  rw [hv] at HR
  rw [show Z.clE l = 0 by unfold Z.clE; rw [hv]; rfl]
  have hln : l.length ≤ 5000 := by unfold Z.valid at hv; rw [Bool.and_eq_true, decide_eq_true_iff] at hv; exact hv.1
  go_wp2_with fail
  refine (name_any _ _ (by unfold maxLen; omega)).mono ?_
  rintro e w2 ⟨rfl, rfl⟩
  cases np : Z.nameB p
  · rw [np] at HR
    go_wp2_with fail
    go_ret2
    exact net_ret HR.out hbw
  rw [np] at HR
  go_wp2_with fail
  refine (name_any _ _ (by unfold maxLen; omega)).mono ?_
  rintro e w2 ⟨rfl, rfl⟩
  cases nc : Z.nameB c
  · rw [nc] at HR
    go_wp2_with fail
    go_ret2
    exact net_ret HR.out hbw
  rw [nc] at HR
  have HR : Hid (R = Z.netF p c Z.zeroS (l.map Z.Cl.fl)) := HR
  have hl1 := BL1.cell 0
  clear np nc hv
  have QO : Hid (∀ W : World, Calls Try.prog 38 #[.int .i64 0] W fun e w' => e = .returned (.string Z.zeroS) ∧ Below W.heap.size W w') := Lib.hid (fun W => qof_any 0 W (by omega) (by omega))
  go_wp2_with fail
  refine (QO.out _).mono ?_
  rintro e W2 ⟨rfl, hb2⟩
  have hbw2 := hbw.trans (hb2.mono hbw.size)
  have hl1 := (BL1.below hb2).cell 0
  have BL2 := BL1.below hb2
  clear QO BL1 hb2
  go_wp2_with fail
  have HI0 : Hid (R = Z.netF p c Z.zeroS ((l.drop 0).map Z.Cl.fl) ∧ Z.zeroS.size ≤ 100000) := Lib.hid ⟨HR.out, by decide⟩
  go_loopw [9, 31] (fun sv iv wr => ∃ (k : Nat) (s : ByteArray), k ≤ l.length ∧ iv = .int .i64 k ∧ sv = .string s ∧ Hid (R = Z.netF p c s ((l.drop k).map Z.Cl.fl) ∧ s.size ≤ 100000) ∧ Below W2.heap.size W2 wr) (fun _ iv _ => l.length - (intOf iv).toNat)
  case atStart => exact ⟨0, Z.zeroS, by omega, rfl, rfl, HI0, Below.refl _ _⟩
  case round =>
    obtain ⟨k, s, hk, rfl, rfl, HI, hbr⟩ := hrel
    clear HI0 HR
    have hbwr := hbw2.trans (hbr.mono hbw2.size)
    have hl2 := (BL2.below hbr).cell 0
    by_cases hlt : k < l.length
    · have hz : l[k]? = some l[k] := List.getElem?_eq_getElem hlt
      obtain ⟨b, o, rfl, hbl, hcj⟩ := (HS.out.below hbwr).at_ (by omega)
      have hcc := cc_of (hcj k _ hz)
      have HD := Lib.hid (Z.net_drop hz)
      have hsm := hs _ (List.mem_of_getElem? hz)
      clear hcj hz
      generalize l[k] = x at *
      obtain ⟨c0, c1, c2, c3, c4, c5, c6, c7⟩ := hcc
      obtain ⟨sm1, sm2, sm3, sm4⟩ := hsm
      have HN : Hid (R = if x.fl.c = c then (if x.fl.t = p then (if Z.addE s x.fl.a = 0 then Z.netF p c (Z.addS s x.fl.a) ((l.drop (k + 1)).map Z.Cl.fl) else (⟨#[]⟩, Z.addE s x.fl.a)) else if x.fl.f = p then (if Z.subE s x.fl.a = 0 then Z.netF p c (Z.subS s x.fl.a) ((l.drop (k + 1)).map Z.Cl.fl) else (⟨#[]⟩, Z.subE s x.fl.a)) else Z.netF p c s ((l.drop (k + 1)).map Z.Cl.fl)) else Z.netF p c s ((l.drop (k + 1)).map Z.Cl.fl)) := Lib.hid (by rw [HI.out.1, HD.out]; rfl)
      have hss := HI.out.2
      have e1 := Z.eqB x.fl.c c
      have e2 := Z.eqB x.fl.t p
      have e3 := Z.eqB x.fl.f p
      have BX := Blk.new wr 38 #[.int .i64 x.n, .int .i64 x.r, .int .i64 x.e, .int .i64 x.fl.d, .string x.fl.f, .string x.fl.t, .string x.fl.c, .string x.fl.a]
      have hba := (Below.refl _ wr).alloc (Nat.le_refl wr.heap.size) (.cells #[.int .i64 x.n, .int .i64 x.r, .int .i64 x.e, .int .i64 x.fl.d, .string x.fl.f, .string x.fl.t, .string x.fl.c, .string x.fl.a] 38)
      go_upto_region 10 with fail
      generalize (wr.alloc (.cells #[.int .i64 x.n, .int .i64 x.r, .int .i64 x.e, .int .i64 x.fl.d, .string x.fl.f, .string x.fl.t, .string x.fl.c, .string x.fl.a] 38)) = W5 at *
      clear c0 c1 c2 c3 c4 c5 c6 c7
      have z3 := BX.cell 3
      have z4 := BX.cell 4
      have z5 := BX.cell 5
      have z6 := BX.cell 6
      have z7 := BX.cell 7
      have BY := Blk.new W5 36 #[.int .i64 x.fl.d, .string x.fl.f, .string x.fl.t, .string x.fl.c, .string x.fl.a]
      have hbb := hba.trans (((Below.refl _ W5).alloc (Nat.le_refl W5.heap.size) (.cells #[.int .i64 x.fl.d, .string x.fl.f, .string x.fl.t, .string x.fl.c, .string x.fl.a] 36)).mono hba.size)
      go_upto_region 12 with fail
      generalize (W5.alloc (.cells #[.int .i64 x.fl.d, .string x.fl.f, .string x.fl.t, .string x.fl.c, .string x.fl.a] 36)) = W6 at *
      clear z3 z4 z5 z6 z7 BX
      have q1 := BY.cell 1
      have q2 := BY.cell 2
      have q3 := BY.cell 3
      have q4 := BY.cell 4
      have hb6 := hbr.trans (hbb.mono hbr.size)
      have HV6 := Lib.hid (HVV.out.below (hbw2.trans (hb6.mono hbw2.size)))
      clear hbb hba
      have QA : Hid (Calls Try.prog 39 #[.string s, .string x.fl.a] W6 fun e w' => e = .returned (.tuple #[.string (Z.addS s x.fl.a), .int .i64 (Z.addE s x.fl.a)]) ∧ Below W6.heap.size W6 w') := Lib.hid (qadd_any s x.fl.a W6 HV6.out (by omega) (by omega))
      have QS : Hid (Calls Try.prog 40 #[.string s, .string x.fl.a] W6 fun e w' => e = .returned (.tuple #[.string (Z.subS s x.fl.a), .int .i64 (Z.subE s x.fl.a)]) ∧ Below W6.heap.size W6 w') := Lib.hid (qsub_any s x.fl.a W6 HV6.out (by omega) (by omega))
      cases d1 : decide (x.fl.c = c)
      · rw [d1] at e1
        rw [if_neg (of_decide_eq_false d1)] at HN
        clear e2 e3 QA QS
        go_wp2_with fail
        go_roundw
        case rel => exact ⟨k + 1, _, by omega, by go_num, rfl, Lib.hid ⟨HN.out, hss⟩, hb6⟩
        case measure => simp [intOf]; omega
      rw [d1] at e1
      rw [if_pos (of_decide_eq_true d1)] at HN
      cases d2 : decide (x.fl.t = p)
      case true =>
        rw [d2] at e2
        rw [if_pos (of_decide_eq_true d2)] at HN
        clear e3 QS
        go_wp2_with fail
        refine QA.out.mono ?_
        rintro e w7 ⟨rfl, hb7⟩
        have hb8 := hb6.trans (hb7.mono hb6.size)
        by_cases he : Z.addE s x.fl.a = 0
        · rw [if_pos he] at HN
          have hsz := Z.add_size he
          rw [he]
          go_wp2_with fail
          go_roundw
          case rel => exact ⟨k + 1, _, by omega, by go_num, rfl, Lib.hid ⟨HN.out, hsz⟩, hb8⟩
          case measure => simp [intOf]; omega
        · rw [if_neg he] at HN
          have hes : (Z.addE s x.fl.a != 0) = true := by rw [bne_iff_ne]; exact he
          go_wp2_with fail
          go_ret2
          exact net_ret HN.out (hbw2.trans (Below.mono (hb8) hbw2.size))
      rw [d2] at e2
      rw [if_neg (of_decide_eq_false d2)] at HN
      cases d3 : decide (x.fl.f = p)
      case true =>
        rw [d3] at e3
        rw [if_pos (of_decide_eq_true d3)] at HN
        clear QA
        go_wp2_with fail
        refine QS.out.mono ?_
        rintro e w7 ⟨rfl, hb7⟩
        have hb8 := hb6.trans (hb7.mono hb6.size)
        by_cases he : Z.subE s x.fl.a = 0
        · rw [if_pos he] at HN
          have hsz := Z.sub_size he
          rw [he]
          go_wp2_with fail
          go_roundw
          case rel => exact ⟨k + 1, _, by omega, by go_num, rfl, Lib.hid ⟨HN.out, hsz⟩, hb8⟩
          case measure => simp [intOf]; omega
        · rw [if_neg he] at HN
          have hes : (Z.subE s x.fl.a != 0) = true := by rw [bne_iff_ne]; exact he
          go_wp2_with fail
          go_ret2
          exact net_ret HN.out (hbw2.trans (Below.mono (hb8) hbw2.size))
      · rw [d3] at e3
        rw [if_neg (of_decide_eq_false d3)] at HN
        clear QA QS
        go_wp2_with fail
        go_roundw
        case rel => exact ⟨k + 1, _, by omega, by go_num, rfl, Lib.hid ⟨HN.out, hss⟩, hb6⟩
        case measure => simp [intOf]; omega
    · obtain rfl : k = l.length := by omega
      have hd := HI.out.1
      rw [List.drop_length] at hd
      have HD := Lib.hid hd
      clear hd
      go_wp2_with fail
      go_ret2
      exact net_ret HD.out (hbw2.trans (hbr.mono hbw2.size))
end Go.Proofs.Ytdjghmpaopfboaa
