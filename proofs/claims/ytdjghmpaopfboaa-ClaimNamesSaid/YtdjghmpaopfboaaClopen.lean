/- Walks: claim.Check, claim.Open, the reference's Open. -/
import Derived.Test.YtdjghmpaopfboaaClrevp
import Derived.Test.YtdjghmpaopfboaaClvalid
import Derived.Test.YtdjghmpaopfboaaClown
namespace Go.Proofs.Ytdjghmpaopfboaa
open Go.RowKit
namespace Z
theorem clsOk_at : ∀ {l : List Cl} {i j : Nat} {r : List Cl} {x : Cl}, clsOk l i r = true → r[j]? = some x → clOk l (i + j) x = true
  | _, _, _, [], _, _, h => by simp at h
  | l, i, 0, y :: r, x, h, hx => by
    simp only [List.getElem?_cons_zero, Option.some.injEq] at hx
    subst hx
    unfold clsOk at h
    rw [Bool.and_eq_true] at h
    exact h.1
  | l, i, j + 1, y :: r, x, h, hx => by
    unfold clsOk at h
    rw [Bool.and_eq_true] at h
    rw [List.getElem?_cons_succ] at hx
    have := clsOk_at h.2 hx
    rwa [show i + 1 + j = i + (j + 1) by omega] at this
theorem valid_at {l : List Cl} {j : Nat} {x : Cl} (h : valid l = true) (hx : l[j]? = some x) : clOk l j x = true := by
  unfold valid at h
  rw [Bool.and_eq_true] at h
  have := clsOk_at h.2 hx
  rwa [Nat.zero_add] at this
theorem valid_n {l : List Cl} {j : Nat} {x : Cl} (h : valid l = true) (hx : l[j]? = some x) : x.n = j + 1 := by
  have := valid_at h hx
  rw [clOk_eq, Bool.and_eq_true] at this
  have := this.1
  unfold c1B at this
  simp only [Bool.and_eq_true, decide_eq_true_iff] at this
  omega
theorem open_step {l : List Cl} {k : Nat} {x : Cl} (hx : l[k]? = some x) : (l.take (k + 1)).filter (isOpen l) = (l.take k).filter (isOpen l) ++ (if isOpen l x = true then [x] else []) := by
  obtain ⟨hlt, rfl⟩ := List.getElem?_eq_some_iff.1 hx
  rw [List.take_succ_eq_append_getElem hlt, List.filter_append]
  congr 1
  rw [List.filter_cons]
  simp
/-- What Check answers. -/
def clE (l : List Cl) : Int := if valid l = true then 0 else 8
theorem openL_len (l : List Cl) : (openL l).length ≤ l.length := List.length_filter_le _ _
end Z
def OpenRet (l : List Z.Cl) (w : World) (e : Ending) (w' : World) : Prop :=
  Below w.heap.size w w' ∧ ((Z.valid l = false ∧ e = .returned (.tuple #[.slice none 0 0, .int .i64 8])) ∨
    (Z.valid l = true ∧ ∃ v, e = .returned (.tuple #[v, .int .i64 0]) ∧ OC w' w.heap.size v (Z.openL l)))
theorem ccheckc_any (v : Value) (l : List Z.Cl) (w : World) (hS : SC w v l) (hV : HasV w) (hs : ∀ x ∈ l, x.fl.small) :
    Calls Try.prog 20 #[.agg #[v]] w fun e w' => e = .returned (.int .i64 (Z.clE l)) ∧ Below w.heap.size w w' := by
  have hb0 := (Below.refl _ w).alloc (Nat.le_refl w.heap.size) (.cells #[v] 24)
  have hl0 := (Blk.new w 24 #[v]).cell 0
  have RV := Lib.hid (fun W (h : Below w.heap.size w W) => reversed_any v l W (hS.below h) (hV.below h) hs)
  unfold RvRet at RV
  go_enter Try.func20, Try.ntmps20
  go_wp2_with fail
  generalize (w.alloc (.cells #[v] 24)) = W0 at *
  refine (RV.out _ hb0).mono ?_
  rintro e W1 ⟨hb1, ⟨hv, rfl⟩ | ⟨hv, g, _, rfl, _⟩⟩
  · go_wp2_with fail
    go_ret
    exact ⟨ret_int (by unfold Z.clE; rw [hv]; rfl), hb0.trans (hb1.mono hb0.size)⟩
  · go_wp2_with fail
    go_ret
    exact ⟨ret_int (by unfold Z.clE; rw [hv]; rfl), hb0.trans (hb1.mono hb0.size)⟩
set_option maxRecDepth 100000 in
set_option maxHeartbeats 4000000 in
theorem open_any (v : Value) (l : List Z.Cl) (w : World) (hS : SC w v l) (hV : HasV w) (hs : ∀ x ∈ l, x.fl.small) :
    Calls Try.prog 16 #[.agg #[v]] w (OpenRet l w) := by
  have hb0 := (Below.refl _ w).alloc (Nat.le_refl w.heap.size) (.cells #[v] 24)
  have BL := Blk.new w 24 #[v]
  have hl0 := BL.cell 0
  have RV := Lib.hid (fun W (h : Below w.heap.size w W) => reversed_any v l W (hS.below h) (hV.below h) hs)
  unfold RvRet at RV
  have HS := Lib.hid hS
  obtain ⟨A, c, rfl, hlc, hcm, _⟩ := hS
  unfold maxLen at hcm
  go_enter Try.func16, Try.ntmps16
  go_wp2_with fail
  generalize (w.alloc (.cells #[.slice A l.length c] 24)) = W0 at *
  refine (RV.out _ hb0).mono ?_
  rintro e W1 ⟨hb1, ⟨hv, rfl⟩ | ⟨hv, g, hg, rfl, hO⟩⟩
  · go_wp2_with fail
    go_ret2
    exact ⟨hb0.trans (hb1.mono hb0.size), .inl ⟨hv, rfl⟩⟩
  · have hbw := hb0.trans (hb1.mono hb0.size)
    have hl1 := (BL.below hb1).cell 0
    have hln : l.length ≤ 5000 := by unfold Z.valid at hv; rw [Bool.and_eq_true, decide_eq_true_iff] at hv; exact hv.1
    have HSW := Lib.hid (HS.out.below hbw)
    clear hl0 BL hb0 hb1 RV
    go_wp2_with fail
    go_loopw [6, 19] (fun ov iv wr => ∃ k : Nat, k ≤ l.length ∧ iv = .int .i64 k ∧ Hid (OC wr W1.heap.size ov ((l.take k).filter (Z.isOpen l)) ∧ Below W1.heap.size W1 wr)) (fun _ iv _ => l.length - (intOf iv).toNat)
    case atStart => exact ⟨0, by omega, rfl, Lib.hid ⟨OL.nil_, Below.refl _ _⟩⟩
    case round =>
      obtain ⟨k, hk, rfl, HI⟩ := hrel
      by_cases hlt : k < l.length
      · have hz : l[k]? = some l[k] := List.getElem?_eq_getElem hlt
        obtain ⟨b, o, rfl, hbl, hcj⟩ := HSW.out.at_ (by omega)
        have hcc := (cc_of (hcj k _ hz)).below HI.out.2 hbl
        have hn := Z.valid_n hv hz
        have HST := Lib.hid (Z.open_step hz)
        have hgo := (OB.below hO HI.out.2).at_ (Z.outL_at (l := l) (i := l.length) (j := k + 1) (by omega) (by omega))
        rw [List.take_length] at hgo
        have HIS : Hid (Z.isOpen l l[k] = (decide (l[k].r = 0) && !Z.gone l ((k + 1 : Nat) : Int))) := Lib.hid (by unfold Z.isOpen; rw [hn]; rfl)
        have HLE := Lib.hid (Nat.le_trans (List.length_filter_le (Z.isOpen l) (l.take k)) (by rw [List.length_take]; omega : (l.take k).length ≤ l.length))
        clear hcj hz
        generalize l[k] = x at *
        generalize Z.isOpen l x = io at *
        generalize Z.gone l ((k + 1 : Nat) : Int) = og at *
        obtain ⟨c0, c1', c2, c3, c4, c5, c6, c7⟩ := hcc
        rw [hn] at c0
        have BX := Blk.new wr 38 #[.int .i64 ((k : Int) + 1), .int .i64 x.r, .int .i64 x.e, .int .i64 x.fl.d, .string x.fl.f, .string x.fl.t, .string x.fl.c, .string x.fl.a]
        have hba := (Below.refl _ wr).alloc (Nat.le_refl wr.heap.size) (.cells #[.int .i64 ((k : Int) + 1), .int .i64 x.r, .int .i64 x.e, .int .i64 x.fl.d, .string x.fl.f, .string x.fl.t, .string x.fl.c, .string x.fl.a] 38)
        have hgo1 := (hba.cell (p := ⟨g, k + 1, none⟩) (World.block_lt_of_cell? wr _ hgo)).trans hgo
        have hvs : #[.int .i64 ((k : Int) + 1), .int .i64 x.r, .int .i64 x.e, .int .i64 x.fl.d, .string x.fl.f, .string x.fl.t, .string x.fl.c, .string x.fl.a] = x.vs.toArray := by unfold Z.Cl.vs; rw [hn]
        have HVS := Lib.hid hvs
        clear hvs hn
        go_upto_region 8 with fail
        clear c0 c1' c2 c3 c4 c5 c6 c7 hgo
        have HI1 := Lib.hid (And.intro (OL.below HI.out.1 hba) (HI.out.2.trans (hba.mono HI.out.2.size)))
        clear HI hba
        generalize (wr.alloc (.cells #[.int .i64 ((k : Int) + 1), .int .i64 x.r, .int .i64 x.e, .int .i64 x.fl.d, .string x.fl.f, .string x.fl.t, .string x.fl.c, .string x.fl.a] 38)) = W2 at *
        have hx0 := BX.cell 0
        have hx1 := BX.cell 1
        have hx2 := BX.cell 2
        have hx3 := BX.cell 3
        have hx4 := BX.cell 4
        have hx5 := BX.cell 5
        have hx6 := BX.cell 6
        have hx7 := BX.cell 7
        by_cases hr : x.r = 0
        · have hr' : (x.r == 0) = true := by rw [beq_iff_eq]; exact hr
          rw [decide_eq_true hr, Bool.true_and] at HIS
          cases og
          · have hio : io = true := HIS.out
            subst hio
            clear hr HIS
            have HIb : W1.heap.size ≤ W2.heap.size := HI1.out.2.size
            go_wp2_with (at_builtin; go_loud (refine appL Z.Cl.vs_len Z.Cl.one rfl _ _ rfl infoC (by omega) (by omega) Try.underlying22 W2 W1.heap.size u6 ((l.take k).filter (Z.isOpen l)) x _ HVS.out rfl HI1.out.1 rfl (by have := HLE.out; omega) HI1.out.2.size ?_; intro v' w' hO' hb' _))
            go_roundw
            case rel => exact ⟨k + 1, by omega, by go_num, Lib.hid ⟨by rw [HST.out, if_pos rfl]; exact hO', HI1.out.2.trans hb'⟩⟩
            case measure => simp [intOf]; omega
          · have hio : io = false := HIS.out
            subst hio
            clear hr HIS
            go_wp2_with fail
            go_roundw
            case rel => exact ⟨k + 1, by omega, by go_num, Lib.hid ⟨by rw [HST.out, if_neg (by decide), List.append_nil]; exact HI1.out.1, HI1.out.2⟩⟩
            case measure => simp [intOf]; omega
        · have hr' : (x.r == 0) = false := by rw [beq_eq_false_iff_ne]; exact hr
          have hio : io = false := by rw [HIS.out, decide_eq_false hr]; rfl
          subst hio
          clear hr HIS
          go_wp2_with fail
          go_roundw
          case rel => exact ⟨k + 1, by omega, by go_num, Lib.hid ⟨by rw [HST.out, if_neg (by decide), List.append_nil]; exact HI1.out.1, HI1.out.2⟩⟩
          case measure => simp [intOf]; omega
      · obtain rfl : k = l.length := by omega
        go_wp2_with fail
        go_ret2
        have := HI.out.1
        rw [List.take_length] at this
        exact ⟨hbw.trans (HI.out.2.mono hbw.size), .inr ⟨hv, _, rfl, this.mono hbw.size⟩⟩
end Go.Proofs.Ytdjghmpaopfboaa
