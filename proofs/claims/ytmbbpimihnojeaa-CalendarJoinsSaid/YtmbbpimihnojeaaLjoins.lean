/-
  Joint calendars have the business days of both; joining does not depend on the order; a calendar joined with itself is itself.
-/
import Derived.Test.YtmbbpimihnojeaaRows
import Derived.Test.YtmbbpimihnojeaaCsame
import Derived.Test.YtmbbpimihnojeaaZjoinb
import Derived.Test.YtmbbpimihnojeaaCalive
import Derived.Test.YtmbbpimihnojeaaCframe
import Derived.ProofKit
import Derived.OpenShut
import Derived.ShutString
namespace Go.Proofs.Ytmbbpimihnojeaa.lawJoins
open Go.ChangeShapes Go.WideShapes Go.ChangeAt Go.RowKit
open Go.ChangeMaps (open_string shut_string)

theorem own : ownKnob Try.prog.godebug = none := by kernel_rfl

theorem joinRet_comm {wa wb : Int} {ha hb : List Int} (a0 : 0 ≤ wa) (b0 : 0 ≤ wb) (w : World) (e : Ending) (w' : World) (h : JoinRet wb wa hb ha w e w') : JoinRet wa wb ha hb w e w' := by
  obtain ⟨h1, h2, h3⟩ := Z.join_comm (a := ha) (b := hb) a0 b0
  unfold JoinRet at *
  rw [h1, h2, h3]; exact h
set_option maxRecDepth 100000 in
set_option maxHeartbeats 4000000 in
theorem walk (wa : Int) (ua : Value) (ha : List Int) (wb : Int) (ub : Value) (hb : List Int) (day : Int) (w : World) (a0 : 0 ≤ wa) (_a1 : wa ≤ 255) (sa : SI w ua ha) (na : Nil0 ua) (b0 : 0 ≤ wb) (_b1 : wb ≤ 255) (sb : SI w ub hb) (nb : Nil0 ub) (_d0 : -9223372036854775808 ≤ day) (_d1 : day ≤ 9223372036854775807) :
    Calls Try.prog 10 #[.agg #[.int .u8 wa, ua], .agg #[.int .u8 wb, ub], .int .i64 day] w fun e w' => e = .returned (.bool true) ∧ Below w.heap.size w w' := by
  clear _a1 _b1 _d0 _d1
  have HAA := Lib.hid (fun (W : World) (hS : Below w.heap.size w W) => join_any wa wa ua ua ha ha W (sa.below hS) (sa.below hS) na na)
  have HAB := Lib.hid (fun (W : World) (hS : Below w.heap.size w W) => join_any wa wb ua ub ha hb W (sa.below hS) (sb.below hS) na nb)
  have HBA := Lib.hid (fun (W : World) (hS : Below w.heap.size w W) => (join_any wb wa ub ua hb ha W (sb.below hS) (sa.below hS) nb na).mono (joinRet_comm a0 b0 W))
  have HCA := Lib.hid (fun (W : World) (hS : Below w.heap.size w W) => ccheck_any wa ua ha W (sa.below hS))
  have HS := Lib.hid (fun (v : Value) (W : World) (hS : Below w.heap.size w W) (hv : SI W v ha) => rsame_any wa wa v ua ha ha W hv (sa.below hS))
  have HGA := Lib.hid (fun (W : World) (hS : Below w.heap.size w W) => rgreat_any wa ua ha W (sa.below hS))
  have HGB := Lib.hid (fun (W : World) (hS : Below w.heap.size w W) => rgreat_any wb ub hb W (sb.below hS))
  have HBZA := Lib.hid (fun (W : World) (hS : Below w.heap.size w W) => cbusiness_any wa ua ha day W (sa.below hS) a0)
  have HBZB := Lib.hid (fun (W : World) (hS : Below w.heap.size w W) => cbusiness_any wb ub hb day W (sb.below hS) b0)
  unfold RetB at HBZA HBZB
  unfold JoinRet at HBA
  clear sa sb na nb
  go_enter Try.func10, Try.ntmps10
  go_wp2_with fail
  obtain ⟨h0, BA, BB⟩ := two_boxes w wa wb ua ub _ rfl
  generalize ((w.alloc (.cells #[.int .u8 wa, ua] 24)).alloc (.cells #[.int .u8 wb, ub] 24)) = W0 at *
  refine ((fun (_ : Below w.heap.size w _) => alive_any _) h0).mono ?_
  rintro e w1 ⟨rfl, hx⟩
  have BA := BA.below hx
  have BB := BB.below hx
  have h1 := h0.trans (hx.mono h0.size)
 
  have cBA0 := BA.cell 0
  have cBA1 := BA.cell 1
  have cBB0 := BB.cell 0
  have cBB1 := BB.cell 1
  go_wp2_with fail
  refine (HGA.out _ h1).mono ?_
  rintro e w2 ⟨rfl, hx⟩
  have BA := BA.below hx
  have BB := BB.below hx
  have h2 := h1.trans (hx.mono h1.size)
  clear hx cBA0 cBA1 cBB0 cBB1
  cases hg : great ha
  · have cBA0 := BA.cell 0
    have cBA1 := BA.cell 1
    have cBB0 := BB.cell 0
    have cBB1 := BB.cell 1
    go_wp2_with fail
    refine (HGB.out _ h2).mono ?_
    rintro e w3 ⟨rfl, hx⟩
    have BA := BA.below hx
    have BB := BB.below hx
    have h3 := h2.trans (hx.mono h2.size)
    clear hx cBA0 cBA1 cBB0 cBB1
    cases hg2 : great hb
    · have cBA0 := BA.cell 0
      have cBA1 := BA.cell 1
      have cBB0 := BB.cell 0
      have cBB1 := BB.cell 1
      go_wp2_with fail
      refine (HAA.out _ h3).mono ?_
      rintro e w4 ⟨v, rfl, hO, hx⟩
      obtain ⟨A4, c4, rfl⟩ := hO.shape
      have S4 := hO.si
      clear hO
      have BA := BA.below hx
      have BB := BB.below hx
      have h4 := h3.trans (hx.mono h3.size)
      clear hx cBA0 cBA1 cBB0 cBB1
      obtain ⟨hjs, hjs2⟩ := Z.join_self (a := ha) a0
      rw [hjs]
      have HJS := Lib.hid hjs2
      clear hjs hjs2
      cases hk : Z.calB wa ha
      · have hce : cerr wa ha = 8 := by unfold cerr; rw [hk]; rfl
        rw [hce]
        have HCE := Lib.hid hce
        clear HJS hce hk
        have cBA0 := BA.cell 0
        have cBA1 := BA.cell 1
        have cBB0 := BB.cell 0
        have cBB1 := BB.cell 1
        generalize Z.joinW wa wa ha ha = WS at *
        generalize Z.joinH wa wa ha ha = HH at *
        clear cBA0 cBA1 cBB0 cBB1
        have BS := Blk.new w4 24 #[.int .u8 WS, .slice A4 HH.length c4]
        have hx : Below w4.heap.size w4 (w4.alloc (.cells #[.int .u8 WS, .slice A4 HH.length c4] 24)) := (Below.refl _ _).alloc (Nat.le_refl _) _
        have BA := BA.below hx
        have BB := BB.below hx
        have h5 := h4.trans (hx.mono h4.size)
        have S4 := S4.below hx
        clear hx
        have cBA0 := BA.cell 0
        have cBA1 := BA.cell 1
        have cBB0 := BB.cell 0
        have cBB1 := BB.cell 1
        have cBS0 := BS.cell 0
        have cBS1 := BS.cell 1
        go_wp2_with fail
        generalize (w4.alloc (.cells #[.int .u8 WS, .slice A4 HH.length c4] 24)) = w5 at *
        refine (HCA.out _ h5).mono ?_
        rintro e w6 ⟨rfl, hx⟩
        rw [HCE.out]
        have S4 := S4.below hx
        have BA := BA.below hx
        have BB := BB.below hx
        have BS := BS.below hx
        have h6 := h5.trans (hx.mono h5.size)
        clear hx cBA0 cBA1 cBB0 cBB1 cBS0 cBS1
        clear BS
        clear S4
        have cBA0 := BA.cell 0
        have cBA1 := BA.cell 1
        have cBB0 := BB.cell 0
        have cBB1 := BB.cell 1
        go_wp2_with fail
        refine (HAB.out _ h6).mono ?_
        rintro e w7 ⟨v, rfl, hO, hx⟩
        obtain ⟨A5, c5, rfl⟩ := hO.shape
        have S5 := hO.si
        clear hO
        have BA := BA.below hx
        have BB := BB.below hx
        have h7 := h6.trans (hx.mono h6.size)
        clear hx cBA0 cBA1 cBB0 cBB1
        have cBA0 := BA.cell 0
        have cBA1 := BA.cell 1
        have cBB0 := BB.cell 0
        have cBB1 := BB.cell 1
        generalize hE : Z.joinE wa wb ha hb = E at *
        generalize hH : Z.joinH wa wb ha hb = H at *
        generalize hW : Z.joinW wa wb ha hb = WK at *
        have HBJ := Lib.hid (fun h : E = 0 => by have := Z.business_join a0 b0 day (hE.trans h); rw [hW, hH] at this; exact this)
        have HER := Lib.hid (fun h : E ≠ 0 => by have := Z.join_err0 (a := ha) (b := hb) (wa := wa) (wb := wb) (by rw [hE]; exact h); rw [hH] at this; exact this.2)
        have HWN := Lib.hid (show 0 ≤ WK from hW ▸ Z.joinW_nn a0 b0)
        clear hE hH hW
        clear cBA0 cBA1 cBB0 cBB1
        have BC := Blk.new w7 24 #[.int .u8 WK, .slice A5 H.length c5]
        have hx : Below w7.heap.size w7 (w7.alloc (.cells #[.int .u8 WK, .slice A5 H.length c5] 24)) := (Below.refl _ _).alloc (Nat.le_refl _) _
        have BA := BA.below hx
        have BB := BB.below hx
        have h8 := h7.trans (hx.mono h7.size)
        have S5 := S5.below hx
        clear hx
        have cBA0 := BA.cell 0
        have cBA1 := BA.cell 1
        have cBB0 := BB.cell 0
        have cBB1 := BB.cell 1
        have cBC0 := BC.cell 0
        have cBC1 := BC.cell 1
        go_wp2_with fail
        generalize (w7.alloc (.cells #[.int .u8 WK, .slice A5 H.length c5] 24)) = w8 at *
        refine (HBA.out _ h8).mono ?_
        rintro e w9 ⟨v, rfl, hO, hx⟩
        obtain ⟨A6, c6, rfl⟩ := hO.shape
        have S6 := hO.si
        have S5 := S5.below hx
        clear hO
        have BA := BA.below hx
        have BB := BB.below hx
        have BC := BC.below hx
        have h9 := h8.trans (hx.mono h8.size)
        clear hx cBA0 cBA1 cBB0 cBB1 cBC0 cBC1
        have cBA0 := BA.cell 0
        have cBA1 := BA.cell 1
        have cBB0 := BB.cell 0
        have cBB1 := BB.cell 1
        have cBC0 := BC.cell 0
        have cBC1 := BC.cell 1
        have hEE : (E != E) = false := by simp
        clear cBA0 cBA1 cBB0 cBB1 cBC0 cBC1
        have BD := Blk.new w9 24 #[.int .u8 WK, .slice A6 H.length c6]
        have hx : Below w9.heap.size w9 (w9.alloc (.cells #[.int .u8 WK, .slice A6 H.length c6] 24)) := (Below.refl _ _).alloc (Nat.le_refl _) _
        have BA := BA.below hx
        have BB := BB.below hx
        have BC := BC.below hx
        have h10 := h9.trans (hx.mono h9.size)
        have S5 := S5.below hx
        have S6 := S6.below hx
        clear hx
        have cBA0 := BA.cell 0
        have cBA1 := BA.cell 1
        have cBB0 := BB.cell 0
        have cBB1 := BB.cell 1
        have cBC0 := BC.cell 0
        have cBC1 := BC.cell 1
        have cBD0 := BD.cell 0
        have cBD1 := BD.cell 1
        go_wp2_with fail
        generalize (w9.alloc (.cells #[.int .u8 WK, .slice A6 H.length c6] 24)) = w10 at *
        refine ((fun (_ : Below w.heap.size w _) => rsame_any WK WK _ _ H H _ S5 S6) h10).mono ?_
        rintro e w11 ⟨rfl, hx⟩
        have S5 := S5.below hx
        rw [show (WK == WK && H == H) = true by simp]
        clear S6
        have BA := BA.below hx
        have BB := BB.below hx
        have BC := BC.below hx
        have BD := BD.below hx
        have h11 := h10.trans (hx.mono h10.size)
        clear hx cBA0 cBA1 cBB0 cBB1 cBC0 cBC1 cBD0 cBD1
        have cBA0 := BA.cell 0
        have cBA1 := BA.cell 1
        have cBB0 := BB.cell 0
        have cBB1 := BB.cell 1
        have cBC0 := BC.cell 0
        have cBC1 := BC.cell 1
        have cBD0 := BD.cell 0
        have cBD1 := BD.cell 1
        by_cases hz : E = 0
        · subst hz
          obtain ⟨x, y, er, e1, e2, e3⟩ := HBJ.out rfl
          have E1 := Lib.hid e1
          have E2 := Lib.hid e2
          have E3 := Lib.hid e3
          clear e1 e2 e3 HBJ HER
          go_wp2_with fail
          refine (HBZA.out _ h11).mono ?_
          rintro e w12 ⟨rfl, hx⟩
          rw [E1.out]
          have S5 := S5.below hx
          have BA := BA.below hx
          have BB := BB.below hx
          have BC := BC.below hx
          have BD := BD.below hx
          have h12 := h11.trans (hx.mono h11.size)
          clear hx cBA0 cBA1 cBB0 cBB1 cBC0 cBC1 cBD0 cBD1
          have cBA0 := BA.cell 0
          have cBA1 := BA.cell 1
          have cBB0 := BB.cell 0
          have cBB1 := BB.cell 1
          have cBC0 := BC.cell 0
          have cBC1 := BC.cell 1
          have cBD0 := BD.cell 0
          have cBD1 := BD.cell 1
          go_wp2_with fail
          refine (HBZB.out _ h12).mono ?_
          rintro e w13 ⟨rfl, hx⟩
          rw [E2.out]
          have S5 := S5.below hx
          have BA := BA.below hx
          have BB := BB.below hx
          have BC := BC.below hx
          have BD := BD.below hx
          have h13 := h12.trans (hx.mono h12.size)
          clear hx cBA0 cBA1 cBB0 cBB1 cBC0 cBC1 cBD0 cBD1
          have cBA0 := BA.cell 0
          have cBA1 := BA.cell 1
          have cBB0 := BB.cell 0
          have cBB1 := BB.cell 1
          have cBC0 := BC.cell 0
          have cBC1 := BC.cell 1
          have cBD0 := BD.cell 0
          have cBD1 := BD.cell 1
          go_wp2_with fail
          refine ((fun (_ : Below w.heap.size w _) => cbusiness_any WK _ H day _ S5 HWN.out) h13).mono ?_
          rintro e w14 ⟨rfl, hx⟩
          rw [E3.out]
          have BA := BA.below hx
          have BB := BB.below hx
          have BC := BC.below hx
          have BD := BD.below hx
          have h14 := h13.trans (hx.mono h13.size)
          clear hx cBA0 cBA1 cBB0 cBB1 cBC0 cBC1 cBD0 cBD1
          cases x <;> cases y <;> (go_wp2_with fail; go_ret; exact ⟨ret_bool (by simp), h14⟩)
        · have hne : (E != 0) = true := by simpa using hz
          have hH := HER.out hz
          subst hH
          clear HBJ HER hz
          go_wp2_with fail
          go_ret
          exact ⟨ret_bool (by simp), h11⟩
      · have hce : cerr wa ha = 0 := by unfold cerr; rw [hk]; rfl
        obtain ⟨_, jw, jh⟩ := HJS.out hk
        rw [hce, jw]
        rw [jh] at S4 ⊢
        clear jw jh
        have HCE := Lib.hid hce
        clear HJS hce hk
        have cBA0 := BA.cell 0
        have cBA1 := BA.cell 1
        have cBB0 := BB.cell 0
        have cBB1 := BB.cell 1
        clear cBA0 cBA1 cBB0 cBB1
        have BS := Blk.new w4 24 #[.int .u8 wa, .slice A4 ha.length c4]
        have hx : Below w4.heap.size w4 (w4.alloc (.cells #[.int .u8 wa, .slice A4 ha.length c4] 24)) := (Below.refl _ _).alloc (Nat.le_refl _) _
        have BA := BA.below hx
        have BB := BB.below hx
        have h5 := h4.trans (hx.mono h4.size)
        have S4 := S4.below hx
        clear hx
        have cBA0 := BA.cell 0
        have cBA1 := BA.cell 1
        have cBB0 := BB.cell 0
        have cBB1 := BB.cell 1
        have cBS0 := BS.cell 0
        have cBS1 := BS.cell 1
        go_wp2_with fail
        generalize (w4.alloc (.cells #[.int .u8 wa, .slice A4 ha.length c4] 24)) = w5 at *
        refine (HCA.out _ h5).mono ?_
        rintro e w6 ⟨rfl, hx⟩
        rw [HCE.out]
        have S4 := S4.below hx
        have BA := BA.below hx
        have BB := BB.below hx
        have BS := BS.below hx
        have h6 := h5.trans (hx.mono h5.size)
        clear hx cBA0 cBA1 cBB0 cBB1 cBS0 cBS1
        have cBA0 := BA.cell 0
        have cBA1 := BA.cell 1
        have cBB0 := BB.cell 0
        have cBB1 := BB.cell 1
        have cBS0 := BS.cell 0
        have cBS1 := BS.cell 1
        go_wp2_with fail
        refine (HS.out _ _ h6 S4).mono ?_
        rintro e w7 ⟨rfl, hx⟩
        rw [show (wa == wa && ha == ha) = true by simp]
        have BA := BA.below hx
        have BB := BB.below hx
        have BS := BS.below hx
        have h7 := h6.trans (hx.mono h6.size)
        clear hx cBA0 cBA1 cBB0 cBB1 cBS0 cBS1
        clear BS
        clear S4
        have cBA0 := BA.cell 0
        have cBA1 := BA.cell 1
        have cBB0 := BB.cell 0
        have cBB1 := BB.cell 1
        go_wp2_with fail
        refine (HAB.out _ h7).mono ?_
        rintro e w8 ⟨v, rfl, hO, hx⟩
        obtain ⟨A5, c5, rfl⟩ := hO.shape
        have S5 := hO.si
        clear hO
        have BA := BA.below hx
        have BB := BB.below hx
        have h8 := h7.trans (hx.mono h7.size)
        clear hx cBA0 cBA1 cBB0 cBB1
        have cBA0 := BA.cell 0
        have cBA1 := BA.cell 1
        have cBB0 := BB.cell 0
        have cBB1 := BB.cell 1
        generalize hE : Z.joinE wa wb ha hb = E at *
        generalize hH : Z.joinH wa wb ha hb = H at *
        generalize hW : Z.joinW wa wb ha hb = WK at *
        have HBJ := Lib.hid (fun h : E = 0 => by have := Z.business_join a0 b0 day (hE.trans h); rw [hW, hH] at this; exact this)
        have HER := Lib.hid (fun h : E ≠ 0 => by have := Z.join_err0 (a := ha) (b := hb) (wa := wa) (wb := wb) (by rw [hE]; exact h); rw [hH] at this; exact this.2)
        have HWN := Lib.hid (show 0 ≤ WK from hW ▸ Z.joinW_nn a0 b0)
        clear hE hH hW
        clear cBA0 cBA1 cBB0 cBB1
        have BC := Blk.new w8 24 #[.int .u8 WK, .slice A5 H.length c5]
        have hx : Below w8.heap.size w8 (w8.alloc (.cells #[.int .u8 WK, .slice A5 H.length c5] 24)) := (Below.refl _ _).alloc (Nat.le_refl _) _
        have BA := BA.below hx
        have BB := BB.below hx
        have h9 := h8.trans (hx.mono h8.size)
        have S5 := S5.below hx
        clear hx
        have cBA0 := BA.cell 0
        have cBA1 := BA.cell 1
        have cBB0 := BB.cell 0
        have cBB1 := BB.cell 1
        have cBC0 := BC.cell 0
        have cBC1 := BC.cell 1
        go_wp2_with fail
        generalize (w8.alloc (.cells #[.int .u8 WK, .slice A5 H.length c5] 24)) = w9 at *
        refine (HBA.out _ h9).mono ?_
        rintro e w10 ⟨v, rfl, hO, hx⟩
        obtain ⟨A6, c6, rfl⟩ := hO.shape
        have S6 := hO.si
        have S5 := S5.below hx
        clear hO
        have BA := BA.below hx
        have BB := BB.below hx
        have BC := BC.below hx
        have h10 := h9.trans (hx.mono h9.size)
        clear hx cBA0 cBA1 cBB0 cBB1 cBC0 cBC1
        have cBA0 := BA.cell 0
        have cBA1 := BA.cell 1
        have cBB0 := BB.cell 0
        have cBB1 := BB.cell 1
        have cBC0 := BC.cell 0
        have cBC1 := BC.cell 1
        have hEE : (E != E) = false := by simp
        clear cBA0 cBA1 cBB0 cBB1 cBC0 cBC1
        have BD := Blk.new w10 24 #[.int .u8 WK, .slice A6 H.length c6]
        have hx : Below w10.heap.size w10 (w10.alloc (.cells #[.int .u8 WK, .slice A6 H.length c6] 24)) := (Below.refl _ _).alloc (Nat.le_refl _) _
        have BA := BA.below hx
        have BB := BB.below hx
        have BC := BC.below hx
        have h11 := h10.trans (hx.mono h10.size)
        have S5 := S5.below hx
        have S6 := S6.below hx
        clear hx
        have cBA0 := BA.cell 0
        have cBA1 := BA.cell 1
        have cBB0 := BB.cell 0
        have cBB1 := BB.cell 1
        have cBC0 := BC.cell 0
        have cBC1 := BC.cell 1
        have cBD0 := BD.cell 0
        have cBD1 := BD.cell 1
        go_wp2_with fail
        generalize (w10.alloc (.cells #[.int .u8 WK, .slice A6 H.length c6] 24)) = w11 at *
        refine ((fun (_ : Below w.heap.size w _) => rsame_any WK WK _ _ H H _ S5 S6) h11).mono ?_
        rintro e w12 ⟨rfl, hx⟩
        have S5 := S5.below hx
        rw [show (WK == WK && H == H) = true by simp]
        clear S6
        have BA := BA.below hx
        have BB := BB.below hx
        have BC := BC.below hx
        have BD := BD.below hx
        have h12 := h11.trans (hx.mono h11.size)
        clear hx cBA0 cBA1 cBB0 cBB1 cBC0 cBC1 cBD0 cBD1
        have cBA0 := BA.cell 0
        have cBA1 := BA.cell 1
        have cBB0 := BB.cell 0
        have cBB1 := BB.cell 1
        have cBC0 := BC.cell 0
        have cBC1 := BC.cell 1
        have cBD0 := BD.cell 0
        have cBD1 := BD.cell 1
        by_cases hz : E = 0
        · subst hz
          obtain ⟨x, y, er, e1, e2, e3⟩ := HBJ.out rfl
          have E1 := Lib.hid e1
          have E2 := Lib.hid e2
          have E3 := Lib.hid e3
          clear e1 e2 e3 HBJ HER
          go_wp2_with fail
          refine (HBZA.out _ h12).mono ?_
          rintro e w13 ⟨rfl, hx⟩
          rw [E1.out]
          have S5 := S5.below hx
          have BA := BA.below hx
          have BB := BB.below hx
          have BC := BC.below hx
          have BD := BD.below hx
          have h13 := h12.trans (hx.mono h12.size)
          clear hx cBA0 cBA1 cBB0 cBB1 cBC0 cBC1 cBD0 cBD1
          have cBA0 := BA.cell 0
          have cBA1 := BA.cell 1
          have cBB0 := BB.cell 0
          have cBB1 := BB.cell 1
          have cBC0 := BC.cell 0
          have cBC1 := BC.cell 1
          have cBD0 := BD.cell 0
          have cBD1 := BD.cell 1
          go_wp2_with fail
          refine (HBZB.out _ h13).mono ?_
          rintro e w14 ⟨rfl, hx⟩
          rw [E2.out]
          have S5 := S5.below hx
          have BA := BA.below hx
          have BB := BB.below hx
          have BC := BC.below hx
          have BD := BD.below hx
          have h14 := h13.trans (hx.mono h13.size)
          clear hx cBA0 cBA1 cBB0 cBB1 cBC0 cBC1 cBD0 cBD1
          have cBA0 := BA.cell 0
          have cBA1 := BA.cell 1
          have cBB0 := BB.cell 0
          have cBB1 := BB.cell 1
          have cBC0 := BC.cell 0
          have cBC1 := BC.cell 1
          have cBD0 := BD.cell 0
          have cBD1 := BD.cell 1
          go_wp2_with fail
          refine ((fun (_ : Below w.heap.size w _) => cbusiness_any WK _ H day _ S5 HWN.out) h14).mono ?_
          rintro e w15 ⟨rfl, hx⟩
          rw [E3.out]
          have BA := BA.below hx
          have BB := BB.below hx
          have BC := BC.below hx
          have BD := BD.below hx
          have h15 := h14.trans (hx.mono h14.size)
          clear hx cBA0 cBA1 cBB0 cBB1 cBC0 cBC1 cBD0 cBD1
          cases x <;> cases y <;> (go_wp2_with fail; go_ret; exact ⟨ret_bool (by simp), h15⟩)
        · have hne : (E != 0) = true := by simpa using hz
          have hH := HER.out hz
          subst hH
          clear HBJ HER hz
          go_wp2_with fail
          go_ret
          exact ⟨ret_bool (by simp), h12⟩
    · go_wp2_with fail
      go_ret
      exact ⟨rfl, h3⟩
  · go_wp2_with fail
    go_ret
    exact ⟨rfl, h2⟩

set_option maxRecDepth 100000 in
theorem lifted (os : Os) (started : os.Started) (H : Type) (enc : TypeId × Value → H) :
    ReturnsInHanded {} Try.checked os 10 .any (Rows.calendarJoinsSpec.pre6 enc Try.prog Try.f10 Rows.calendarJoinsRow.domain false) (Rows.calendarJoinsSpec.post enc Try.prog Try.f10 false true false false) := by
  refine returnsInHanded_of_change (C := Try.checked) own started (by kernel_rfl) Try.func10
    (ChangeSpec.witness6 (enc := enc) (C := Try.checked) false ⟨#[], #[.agg #[.int .u8 0, .slice none 0 0], .agg #[.int .u8 0, .slice none 0 0], .int .i64 0], []⟩ 8 (by kernel_rfl) (by kernel_rfl) (by kernel_rfl) (by kernel_rfl)) ?_
  intro W base args ds gs before hval0 hW hcnd _
  have hval : ∀ (j : Nat) t v, Try.f10.params[j]? = some t → args[j]? = some v → Value.okWide Try.prog W .any base t v := hval0
  have hW' := hW
  obtain ⟨p, q, hA0, hV, rfl, hfz, hnd⟩ := hW
  have hA : DataW.TrodAll enc Try.prog W 0 (fun _ => true) true Try.f10.params.toList args.toList ds p := hA0
  rw [Try.params10] at hA hval
  obtain ⟨v0, vs0, d0, ds0, p0, q0, hargs, rfl, rfl, h0, r0⟩ := trodAll_cons hA
  obtain ⟨v1, vs1, d1, ds1, p1, q1, rfl, rfl, rfl, h1, r1⟩ := trodAll_cons r0
  obtain ⟨v2, vs2, d2, ds2, p2, q2, rfl, rfl, rfl, h2, r2⟩ := trodAll_cons r1
  obtain ⟨rfl, rfl, rfl⟩ := trodAll_nil r2
  obtain rfl : args = #[v0, v1, v2] := by cases args; simp_all
  obtain ⟨rfl, rfl⟩ := trodVars_none hV
  have k0 := h0
  obtain ⟨wk0, u0, hs0, rfl, wl0, wh0, si0, ni0⟩ := cal_open2 (hval 0 24 v0 rfl rfl) h0
  have k1 := h1
  obtain ⟨wk1, u1, hs1, rfl, wl1, wh1, si1, ni1⟩ := cal_open2 (hval 1 24 v1 rfl rfl) h1
  obtain ⟨a2, rfl, rfl, rfl, w2⟩ := open_int Try.underlying3 (hval 2 3 v2 rfl rfl) h2
  clear hA0 hval0
  have bd2 := bounds_i64 w2
  refine (walk wk0 u0 hs0 wk1 u1 hs1 a2 W wl0 wh0 si0 ni0 wl1 wh1 si1 ni1 bd2.1 bd2.2).mono fun e W' ⟨he, bel⟩ => ?_
  subst he
  exact ⟨_, rfl, _, _, _, [], _, [], hW', trodAll_mk1 (shut_bool Try.underlying4 _), (trodAll_cons_mk (arg_stays (by kernel_rfl) (of_decide_eq_true (by kernel_rfl)) k0 bel) (trodAll_cons_mk (arg_stays (by kernel_rfl) (of_decide_eq_true (by kernel_rfl)) k1 bel) (trodAll_cons_mk (shut_int Try.underlying3 w2) trodAll_mk0))), rfl, bel.frame _, fun h => by cases h⟩

theorem over : Rows.calendarJoinsRow.holds Try.pinned (OpenSpec.ofChange Rows.calendarJoinsSpec) :=
  OpenClaim.holds_of_wide 10 Try.f10 rfl rfl rfl rfl rfl rfl rfl ⟨rfl, rfl, rfl, rfl, rfl⟩ rfl rfl rfl rfl rfl (by kernel_rfl) Try.func10 (by kernel_rfl)
    (of_decide_eq_true (by kernel_rfl)) (by unfold Func.isWrapper; first | (rw [if_pos (by decide +kernel)]; kernel_rfl) | (rw [if_neg (by decide +kernel)]; exact ⟨rfl, rfl⟩))
    (fun os started H enc _ => lifted os started H enc)

theorem proved : Rows.CalendarJoinsSaid := over
#print axioms proved
