/- Walk: the reference's Open. -/
import Derived.Test.YtdjghmpaopfboaaClopen
namespace Go.Proofs.Ytdjghmpaopfboaa
open Go.RowKit
set_option maxRecDepth 100000 in
set_option maxHeartbeats 4000000 in
theorem ropen_any (v : Value) (l : List Z.Cl) (w : World) (hS : SC w v l) (hs : ∀ x ∈ l, x.fl.small) :
    Calls Try.prog 17 #[.agg #[v]] w (OpenRet l w) := by
  have hb0 := (Below.refl _ w).alloc (Nat.le_refl w.heap.size) (.cells #[v] 24)
  have BL := Blk.new w 24 #[v]
  have hl0 := BL.cell 0
  have RV := Lib.hid (fun W (h : Below w.heap.size w W) => rvalid_any v l W (hS.below h) hs)
  have HS := Lib.hid hS
  obtain ⟨A, c, rfl, hlc, hcm, _⟩ := hS
  unfold maxLen at hcm
  go_enter Try.func17, Try.ntmps17
  go_wp2_with fail
  generalize (w.alloc (.cells #[.slice A l.length c] 24)) = W0 at *
  refine (RV.out _ hb0).mono ?_
  rintro e W1 ⟨rfl, hb1⟩
  cases hv : Z.valid l
  · go_wp2_with fail
    go_ret2
    exact ⟨hb0.trans (hb1.mono hb0.size), .inl ⟨hv, rfl⟩⟩
  · have BL1 := BL.below hb1
    have hbw := hb0.trans (hb1.mono hb0.size)
    have hl1 := BL1.cell 0
    have hln : l.length ≤ 5000 := by unfold Z.valid at hv; rw [Bool.and_eq_true, decide_eq_true_iff] at hv; exact hv.1
    have HSW := Lib.hid (HS.out.below hbw)
    clear hl0 BL hb0 hb1 RV
    go_wp2_with fail
    go_loopw [4, 5] (fun ov iv wr => ∃ k : Nat, k ≤ l.length ∧ iv = .int .i64 k ∧ Hid (OC wr W1.heap.size ov ((l.take k).filter (Z.isOpen l)) ∧ Below W1.heap.size W1 wr)) (fun _ iv _ => l.length - (intOf iv).toNat)
    case atStart => exact ⟨0, by omega, rfl, Lib.hid ⟨OL.nil_, Below.refl _ _⟩⟩
    case round =>
      obtain ⟨k, hk, rfl, HI⟩ := hrel
      by_cases hlt : k < l.length
      · have hz : l[k]? = some l[k] := List.getElem?_eq_getElem hlt
        obtain ⟨b, o, rfl, hbl, hcj⟩ := HSW.out.at_ (by omega)
        have hcc := (cc_of (hcj k _ hz)).below HI.out.2 hbl
        have hn := Z.valid_n hv hz
        have HST := Lib.hid (Z.open_step hz)
        have hl2 := (BL1.below HI.out.2).cell 0
        have GN := Lib.hid (fun og (h : Z.gone l ((k : Int) + 1) = og) => (show Calls Try.prog 36 #[.slice (some ⟨b, o, none⟩) l.length c, .int .i64 ((k : Int) + 1)] wr fun e w' => e = .returned (.bool og) ∧ wr = w' from h ▸ gone_any ((k : Int) + 1) _ l wr (SL.below HSW.out HI.out.2)))
        have HIS : Hid (Z.isOpen l l[k] = (decide (l[k].r = 0) && !Z.gone l ((k : Int) + 1))) := Lib.hid (by unfold Z.isOpen; rw [hn])
        have HLE := Lib.hid (Nat.le_trans (List.length_filter_le (Z.isOpen l) (l.take k)) (by rw [List.length_take]; omega : (l.take k).length ≤ l.length))
        clear hcj hz
        generalize l[k] = x at *
        generalize Z.isOpen l x = io at *
        generalize hog : Z.gone l ((k : Int) + 1) = og at *
        have GN := Lib.hid (GN.out og rfl)
        obtain ⟨c0, c1', c2, c3, c4, c5, c6, c7⟩ := hcc
        rw [hn] at c0
        have hvs : #[.int .i64 ((k : Int) + 1), .int .i64 x.r, .int .i64 x.e, .int .i64 x.fl.d, .string x.fl.f, .string x.fl.t, .string x.fl.c, .string x.fl.a] = x.vs.toArray := by unfold Z.Cl.vs; rw [hn]
        have HVS := Lib.hid hvs
        clear hvs hn
        have HIb : W1.heap.size ≤ wr.heap.size := HI.out.2.size
        by_cases hr : x.r = 0
        · have hr' : (x.r == 0) = true := by rw [beq_iff_eq]; exact hr
          rw [decide_eq_true hr, Bool.true_and] at HIS
          cases og
          · have hio : io = true := HIS.out
            subst hio
            clear HIS hr
            go_wp2_with fail
            refine GN.out.mono ?_
            rintro e w2 ⟨rfl, rfl⟩
            go_wp2_with (at_builtin; go_loud (refine appL Z.Cl.vs_len Z.Cl.one rfl _ _ rfl infoC (by omega) (by omega) Try.underlying22 wr W1.heap.size u4 ((l.take k).filter (Z.isOpen l)) x _ HVS.out rfl HI.out.1 rfl (by have := HLE.out; omega) HI.out.2.size ?_; intro v' w' hO' hb' _))
            go_roundw
            case rel => exact ⟨k + 1, by omega, by go_num, Lib.hid ⟨by (first | rw [HST.out, if_pos rfl] | rw [HST.out, if_pos trivial]); exact hO', HI.out.2.trans hb'⟩⟩
            case measure => simp [intOf]; omega
          · have hio : io = false := HIS.out
            subst hio
            clear hr HIS
            go_wp2_with fail
            refine GN.out.mono ?_
            rintro e w2 ⟨rfl, rfl⟩
            go_wp2_with fail
            go_roundw
            case rel => exact ⟨k + 1, by omega, by go_num, Lib.hid ⟨by rw [HST.out, if_neg (by decide), List.append_nil]; exact HI.out.1, HI.out.2⟩⟩
            case measure => simp [intOf]; omega
        · have hr' : (x.r == 0) = false := by rw [beq_eq_false_iff_ne]; exact hr
          have hio : io = false := by rw [HIS.out, decide_eq_false hr]; rfl
          subst hio
          clear hr HIS
          go_wp2_with fail
          go_roundw
          case rel => exact ⟨k + 1, by omega, by go_num, Lib.hid ⟨by rw [HST.out, if_neg (by decide), List.append_nil]; exact HI.out.1, HI.out.2⟩⟩
          case measure => simp [intOf]; omega
      · obtain rfl : k = l.length := by omega
        have hl2 := (BL1.below HI.out.2).cell 0
        go_wp2_with fail
        go_ret2
        have := HI.out.1
        rw [List.take_length] at this
        exact ⟨hbw.trans (HI.out.2.mono hbw.size), .inr ⟨hv, _, rfl, this.mono hbw.size⟩⟩
end Go.Proofs.Ytdjghmpaopfboaa
