/- Walks: the reference's Round, the ways behind the half (modes 0, 1, 2; mode 3 where the half is not 0). -/
import Derived.Test.YthafdckomhdlbaaDoorRd2
namespace Go.Proofs.YthafdckomhdlbaaDoor
open Go.RowKit

/-- Greater of the digits of two texts. -/
def HalfOf (s t : ByteArray) (h : Int) : Prop := ∀ (v u : Value) (w : World) (B C : Nat), Ow .i64 3 w B v (if Z.canon s.data.toList then Z.rdg (Z.mags s.data.toList) else []) → Ow .i64 3 w C u (if Z.canon t.data.toList then Z.rdg (Z.mags t.data.toList) else []) →
  Calls Tryd.prog 36 #[v, u] w fun e w' => e = .returned (.int .i64 h) ∧ w = w'
set_option maxRecDepth 100000 in
set_option maxHeartbeats 1000000 in
theorem rround_0_Tp (a n d q r tw : ByteArray) (k h : Int) (w : World) (CK : Hid (CkP a 0)) (WR : Hid (WrP a n d)) (DM : Hid (DmP 34 n d q r 0)) (hr : (r.toList == [48]) = false)
    (MU : Hid (OpP 35 ⟨#[50]⟩ r tw k)) (D1 : Hid (∀ W, Calls Tryd.prog 37 #[.string tw] W (DigsRet tw W))) (D2 : Hid (∀ W, Calls Tryd.prog 37 #[.string d] W (DigsRet d W)))
    (HF : Hid (HalfOf tw d h)) (htw : (tw.toList == []) = false) (hn : 0 < n.size) (hng : ((n[0].toNat : Int) == 45) = false) :
    Calls Tryd.prog 11 #[.string a, .int .u8 0] w fun e w' => e = .returned (.tuple #[.string q, .int .i64 0]) ∧ Below w.heap.size w w' := by
  have hnb : ((n[0].toNat : Int) != 45) = true := by rw [bne, hng]; rfl
  go_enter Tryd.func11, Tryd.ntmps11
  go_wp2_with fail
  refine (CK.out _).mono ?_
  rintro e w1 ⟨rfl, h1⟩
  go_wp2_with fail
  refine (WR.out _).mono ?_
  rintro e w2 ⟨rfl, h2⟩
  have c2 := h1.trans (h2.mono h1.size)
  clear h1 h2
  go_wp2_with fail
  refine (DM.out _).mono ?_
  rintro e w3 ⟨rfl, h3⟩
  have c3 := c2.trans (h3.mono c2.size)
  clear c2 h3
  go_wp2_with fail
  refine (MU.out _).mono ?_
  rintro e w4 ⟨rfl, h4⟩
  have c4 := c3.trans (h4.mono c3.size)
  clear c3 h4
  go_wp2_with fail
  refine (D1.out _).mono ?_
  rintro e w5 ⟨v1, rfl, o1, h5⟩
  have c5 := c4.trans (h5.mono c4.size)
  clear c4 h5
  go_wp2_with fail
  refine (D2.out _).mono ?_
  rintro e w6 ⟨v2, rfl, o2, h6⟩
  have c6 := c5.trans (h6.mono c5.size)
  have o1' := o1.below (h6.mono (Nat.le_refl _))
  clear c5 h6
  go_wp2_with fail
  refine (HF.out _ _ _ _ _ o1' o2).mono ?_
  rintro e w7 ⟨rfl, rfl⟩
  clear o1 o1' o2
  go_wp2_with fail
  go_ret2
  exact ⟨rfl, c6⟩
set_option maxRecDepth 100000 in
set_option maxHeartbeats 1000000 in
theorem rround_0_Tn (a n d q r tw q1 : ByteArray) (k h k1 : Int) (w : World) (CK : Hid (CkP a 0)) (WR : Hid (WrP a n d)) (DM : Hid (DmP 34 n d q r 0)) (hr : (r.toList == [48]) = false)
    (MU : Hid (OpP 35 ⟨#[50]⟩ r tw k)) (D1 : Hid (∀ W, Calls Tryd.prog 37 #[.string tw] W (DigsRet tw W))) (D2 : Hid (∀ W, Calls Tryd.prog 37 #[.string d] W (DigsRet d W)))
    (HF : Hid (HalfOf tw d h)) (htw : (tw.toList == []) = false) (hn : 0 < n.size) (hng : ((n[0].toNat : Int) == 45) = true) (AD : Hid (OpP 38 q ⟨#[49]⟩ q1 k1)) :
    Calls Tryd.prog 11 #[.string a, .int .u8 0] w fun e w' => e = .returned (.tuple #[.string q1, .int .i64 k1]) ∧ Below w.heap.size w w' := by
  have hnb : ((n[0].toNat : Int) != 45) = false := by rw [bne, hng]; rfl
  go_enter Tryd.func11, Tryd.ntmps11
  go_wp2_with fail
  refine (CK.out _).mono ?_
  rintro e w1 ⟨rfl, h1⟩
  go_wp2_with fail
  refine (WR.out _).mono ?_
  rintro e w2 ⟨rfl, h2⟩
  have c2 := h1.trans (h2.mono h1.size)
  clear h1 h2
  go_wp2_with fail
  refine (DM.out _).mono ?_
  rintro e w3 ⟨rfl, h3⟩
  have c3 := c2.trans (h3.mono c2.size)
  clear c2 h3
  go_wp2_with fail
  refine (MU.out _).mono ?_
  rintro e w4 ⟨rfl, h4⟩
  have c4 := c3.trans (h4.mono c3.size)
  clear c3 h4
  go_wp2_with fail
  refine (D1.out _).mono ?_
  rintro e w5 ⟨v1, rfl, o1, h5⟩
  have c5 := c4.trans (h5.mono c4.size)
  clear c4 h5
  go_wp2_with fail
  refine (D2.out _).mono ?_
  rintro e w6 ⟨v2, rfl, o2, h6⟩
  have c6 := c5.trans (h6.mono c5.size)
  have o1' := o1.below (h6.mono (Nat.le_refl _))
  clear c5 h6
  go_wp2_with fail
  refine (HF.out _ _ _ _ _ o1' o2).mono ?_
  rintro e w7 ⟨rfl, rfl⟩
  clear o1 o1' o2
  go_wp2_with fail
  refine (AD.out _).mono ?_
  rintro e w8 ⟨rfl, h8⟩
  have c8 := c6.trans (h8.mono c6.size)
  clear c6 h8
  go_wp2_with fail
  go_ret2
  exact ⟨rfl, c8⟩
set_option maxRecDepth 100000 in
set_option maxHeartbeats 1000000 in
theorem rround_0_Ep (a n d q r tw : ByteArray) (k h : Int) (w : World) (CK : Hid (CkP a 0)) (WR : Hid (WrP a n d)) (DM : Hid (DmP 34 n d q r 0)) (hr : (r.toList == [48]) = false)
    (MU : Hid (OpP 35 ⟨#[50]⟩ r tw k)) (D1 : Hid (∀ W, Calls Tryd.prog 37 #[.string tw] W (DigsRet tw W))) (D2 : Hid (∀ W, Calls Tryd.prog 37 #[.string d] W (DigsRet d W)))
    (HF : Hid (HalfOf tw d h)) (htw : (tw.toList == []) = true) (hn : 0 < n.size) (hng : ((n[0].toNat : Int) == 45) = false) :
    Calls Tryd.prog 11 #[.string a, .int .u8 0] w fun e w' => e = .returned (.tuple #[.string q, .int .i64 0]) ∧ Below w.heap.size w w' := by
  have hnb : ((n[0].toNat : Int) != 45) = true := by rw [bne, hng]; rfl
  go_enter Tryd.func11, Tryd.ntmps11
  go_wp2_with fail
  refine (CK.out _).mono ?_
  rintro e w1 ⟨rfl, h1⟩
  go_wp2_with fail
  refine (WR.out _).mono ?_
  rintro e w2 ⟨rfl, h2⟩
  have c2 := h1.trans (h2.mono h1.size)
  clear h1 h2
  go_wp2_with fail
  refine (DM.out _).mono ?_
  rintro e w3 ⟨rfl, h3⟩
  have c3 := c2.trans (h3.mono c2.size)
  clear c2 h3
  go_wp2_with fail
  refine (MU.out _).mono ?_
  rintro e w4 ⟨rfl, h4⟩
  have c4 := c3.trans (h4.mono c3.size)
  clear c3 h4
  go_wp2_with fail
  refine (D1.out _).mono ?_
  rintro e w5 ⟨v1, rfl, o1, h5⟩
  have c5 := c4.trans (h5.mono c4.size)
  clear c4 h5
  go_wp2_with fail
  refine (D2.out _).mono ?_
  rintro e w6 ⟨v2, rfl, o2, h6⟩
  have c6 := c5.trans (h6.mono c5.size)
  have o1' := o1.below (h6.mono (Nat.le_refl _))
  clear c5 h6
  go_wp2_with fail
  refine (HF.out _ _ _ _ _ o1' o2).mono ?_
  rintro e w7 ⟨rfl, rfl⟩
  clear o1 o1' o2
  go_wp2_with fail
  go_ret2
  exact ⟨rfl, c6⟩
set_option maxRecDepth 100000 in
set_option maxHeartbeats 1000000 in
theorem rround_0_En (a n d q r tw q1 : ByteArray) (k h k1 : Int) (w : World) (CK : Hid (CkP a 0)) (WR : Hid (WrP a n d)) (DM : Hid (DmP 34 n d q r 0)) (hr : (r.toList == [48]) = false)
    (MU : Hid (OpP 35 ⟨#[50]⟩ r tw k)) (D1 : Hid (∀ W, Calls Tryd.prog 37 #[.string tw] W (DigsRet tw W))) (D2 : Hid (∀ W, Calls Tryd.prog 37 #[.string d] W (DigsRet d W)))
    (HF : Hid (HalfOf tw d h)) (htw : (tw.toList == []) = true) (hn : 0 < n.size) (hng : ((n[0].toNat : Int) == 45) = true) (AD : Hid (OpP 38 q ⟨#[49]⟩ q1 k1)) :
    Calls Tryd.prog 11 #[.string a, .int .u8 0] w fun e w' => e = .returned (.tuple #[.string q1, .int .i64 k1]) ∧ Below w.heap.size w w' := by
  have hnb : ((n[0].toNat : Int) != 45) = false := by rw [bne, hng]; rfl
  go_enter Tryd.func11, Tryd.ntmps11
  go_wp2_with fail
  refine (CK.out _).mono ?_
  rintro e w1 ⟨rfl, h1⟩
  go_wp2_with fail
  refine (WR.out _).mono ?_
  rintro e w2 ⟨rfl, h2⟩
  have c2 := h1.trans (h2.mono h1.size)
  clear h1 h2
  go_wp2_with fail
  refine (DM.out _).mono ?_
  rintro e w3 ⟨rfl, h3⟩
  have c3 := c2.trans (h3.mono c2.size)
  clear c2 h3
  go_wp2_with fail
  refine (MU.out _).mono ?_
  rintro e w4 ⟨rfl, h4⟩
  have c4 := c3.trans (h4.mono c3.size)
  clear c3 h4
  go_wp2_with fail
  refine (D1.out _).mono ?_
  rintro e w5 ⟨v1, rfl, o1, h5⟩
  have c5 := c4.trans (h5.mono c4.size)
  clear c4 h5
  go_wp2_with fail
  refine (D2.out _).mono ?_
  rintro e w6 ⟨v2, rfl, o2, h6⟩
  have c6 := c5.trans (h6.mono c5.size)
  have o1' := o1.below (h6.mono (Nat.le_refl _))
  clear c5 h6
  go_wp2_with fail
  refine (HF.out _ _ _ _ _ o1' o2).mono ?_
  rintro e w7 ⟨rfl, rfl⟩
  clear o1 o1' o2
  go_wp2_with fail
  refine (AD.out _).mono ?_
  rintro e w8 ⟨rfl, h8⟩
  have c8 := c6.trans (h8.mono c6.size)
  clear c6 h8
  go_wp2_with fail
  go_ret2
  exact ⟨rfl, c8⟩
set_option maxRecDepth 100000 in
set_option maxHeartbeats 1000000 in
theorem rround_1_Tp (a n d q r tw q1 : ByteArray) (k h k1 : Int) (w : World) (CK : Hid (CkP a 0)) (WR : Hid (WrP a n d)) (DM : Hid (DmP 34 n d q r 0)) (hr : (r.toList == [48]) = false)
    (MU : Hid (OpP 35 ⟨#[50]⟩ r tw k)) (D1 : Hid (∀ W, Calls Tryd.prog 37 #[.string tw] W (DigsRet tw W))) (D2 : Hid (∀ W, Calls Tryd.prog 37 #[.string d] W (DigsRet d W)))
    (HF : Hid (HalfOf tw d h)) (htw : (tw.toList == []) = false) (hn : 0 < n.size) (hng : ((n[0].toNat : Int) == 45) = false) (AD : Hid (OpP 38 q ⟨#[49]⟩ q1 k1)) :
    Calls Tryd.prog 11 #[.string a, .int .u8 1] w fun e w' => e = .returned (.tuple #[.string q1, .int .i64 k1]) ∧ Below w.heap.size w w' := by
  have hnb : ((n[0].toNat : Int) != 45) = true := by rw [bne, hng]; rfl
  go_enter Tryd.func11, Tryd.ntmps11
  go_wp2_with fail
  refine (CK.out _).mono ?_
  rintro e w1 ⟨rfl, h1⟩
  go_wp2_with fail
  refine (WR.out _).mono ?_
  rintro e w2 ⟨rfl, h2⟩
  have c2 := h1.trans (h2.mono h1.size)
  clear h1 h2
  go_wp2_with fail
  refine (DM.out _).mono ?_
  rintro e w3 ⟨rfl, h3⟩
  have c3 := c2.trans (h3.mono c2.size)
  clear c2 h3
  go_wp2_with fail
  refine (MU.out _).mono ?_
  rintro e w4 ⟨rfl, h4⟩
  have c4 := c3.trans (h4.mono c3.size)
  clear c3 h4
  go_wp2_with fail
  refine (D1.out _).mono ?_
  rintro e w5 ⟨v1, rfl, o1, h5⟩
  have c5 := c4.trans (h5.mono c4.size)
  clear c4 h5
  go_wp2_with fail
  refine (D2.out _).mono ?_
  rintro e w6 ⟨v2, rfl, o2, h6⟩
  have c6 := c5.trans (h6.mono c5.size)
  have o1' := o1.below (h6.mono (Nat.le_refl _))
  clear c5 h6
  go_wp2_with fail
  refine (HF.out _ _ _ _ _ o1' o2).mono ?_
  rintro e w7 ⟨rfl, rfl⟩
  clear o1 o1' o2
  go_wp2_with fail
  refine (AD.out _).mono ?_
  rintro e w8 ⟨rfl, h8⟩
  have c8 := c6.trans (h8.mono c6.size)
  clear c6 h8
  go_wp2_with fail
  go_ret2
  exact ⟨rfl, c8⟩
set_option maxRecDepth 100000 in
set_option maxHeartbeats 1000000 in
theorem rround_1_Tn (a n d q r tw : ByteArray) (k h : Int) (w : World) (CK : Hid (CkP a 0)) (WR : Hid (WrP a n d)) (DM : Hid (DmP 34 n d q r 0)) (hr : (r.toList == [48]) = false)
    (MU : Hid (OpP 35 ⟨#[50]⟩ r tw k)) (D1 : Hid (∀ W, Calls Tryd.prog 37 #[.string tw] W (DigsRet tw W))) (D2 : Hid (∀ W, Calls Tryd.prog 37 #[.string d] W (DigsRet d W)))
    (HF : Hid (HalfOf tw d h)) (htw : (tw.toList == []) = false) (hn : 0 < n.size) (hng : ((n[0].toNat : Int) == 45) = true) :
    Calls Tryd.prog 11 #[.string a, .int .u8 1] w fun e w' => e = .returned (.tuple #[.string q, .int .i64 0]) ∧ Below w.heap.size w w' := by
  have hnb : ((n[0].toNat : Int) != 45) = false := by rw [bne, hng]; rfl
  go_enter Tryd.func11, Tryd.ntmps11
  go_wp2_with fail
  refine (CK.out _).mono ?_
  rintro e w1 ⟨rfl, h1⟩
  go_wp2_with fail
  refine (WR.out _).mono ?_
  rintro e w2 ⟨rfl, h2⟩
  have c2 := h1.trans (h2.mono h1.size)
  clear h1 h2
  go_wp2_with fail
  refine (DM.out _).mono ?_
  rintro e w3 ⟨rfl, h3⟩
  have c3 := c2.trans (h3.mono c2.size)
  clear c2 h3
  go_wp2_with fail
  refine (MU.out _).mono ?_
  rintro e w4 ⟨rfl, h4⟩
  have c4 := c3.trans (h4.mono c3.size)
  clear c3 h4
  go_wp2_with fail
  refine (D1.out _).mono ?_
  rintro e w5 ⟨v1, rfl, o1, h5⟩
  have c5 := c4.trans (h5.mono c4.size)
  clear c4 h5
  go_wp2_with fail
  refine (D2.out _).mono ?_
  rintro e w6 ⟨v2, rfl, o2, h6⟩
  have c6 := c5.trans (h6.mono c5.size)
  have o1' := o1.below (h6.mono (Nat.le_refl _))
  clear c5 h6
  go_wp2_with fail
  refine (HF.out _ _ _ _ _ o1' o2).mono ?_
  rintro e w7 ⟨rfl, rfl⟩
  clear o1 o1' o2
  go_wp2_with fail
  go_ret2
  exact ⟨rfl, c6⟩
set_option maxRecDepth 100000 in
set_option maxHeartbeats 1000000 in
theorem rround_1_Ep (a n d q r tw q1 : ByteArray) (k h k1 : Int) (w : World) (CK : Hid (CkP a 0)) (WR : Hid (WrP a n d)) (DM : Hid (DmP 34 n d q r 0)) (hr : (r.toList == [48]) = false)
    (MU : Hid (OpP 35 ⟨#[50]⟩ r tw k)) (D1 : Hid (∀ W, Calls Tryd.prog 37 #[.string tw] W (DigsRet tw W))) (D2 : Hid (∀ W, Calls Tryd.prog 37 #[.string d] W (DigsRet d W)))
    (HF : Hid (HalfOf tw d h)) (htw : (tw.toList == []) = true) (hn : 0 < n.size) (hng : ((n[0].toNat : Int) == 45) = false) (AD : Hid (OpP 38 q ⟨#[49]⟩ q1 k1)) :
    Calls Tryd.prog 11 #[.string a, .int .u8 1] w fun e w' => e = .returned (.tuple #[.string q1, .int .i64 k1]) ∧ Below w.heap.size w w' := by
  have hnb : ((n[0].toNat : Int) != 45) = true := by rw [bne, hng]; rfl
  go_enter Tryd.func11, Tryd.ntmps11
  go_wp2_with fail
  refine (CK.out _).mono ?_
  rintro e w1 ⟨rfl, h1⟩
  go_wp2_with fail
  refine (WR.out _).mono ?_
  rintro e w2 ⟨rfl, h2⟩
  have c2 := h1.trans (h2.mono h1.size)
  clear h1 h2
  go_wp2_with fail
  refine (DM.out _).mono ?_
  rintro e w3 ⟨rfl, h3⟩
  have c3 := c2.trans (h3.mono c2.size)
  clear c2 h3
  go_wp2_with fail
  refine (MU.out _).mono ?_
  rintro e w4 ⟨rfl, h4⟩
  have c4 := c3.trans (h4.mono c3.size)
  clear c3 h4
  go_wp2_with fail
  refine (D1.out _).mono ?_
  rintro e w5 ⟨v1, rfl, o1, h5⟩
  have c5 := c4.trans (h5.mono c4.size)
  clear c4 h5
  go_wp2_with fail
  refine (D2.out _).mono ?_
  rintro e w6 ⟨v2, rfl, o2, h6⟩
  have c6 := c5.trans (h6.mono c5.size)
  have o1' := o1.below (h6.mono (Nat.le_refl _))
  clear c5 h6
  go_wp2_with fail
  refine (HF.out _ _ _ _ _ o1' o2).mono ?_
  rintro e w7 ⟨rfl, rfl⟩
  clear o1 o1' o2
  go_wp2_with fail
  refine (AD.out _).mono ?_
  rintro e w8 ⟨rfl, h8⟩
  have c8 := c6.trans (h8.mono c6.size)
  clear c6 h8
  go_wp2_with fail
  go_ret2
  exact ⟨rfl, c8⟩
set_option maxRecDepth 100000 in
set_option maxHeartbeats 1000000 in
theorem rround_1_En (a n d q r tw : ByteArray) (k h : Int) (w : World) (CK : Hid (CkP a 0)) (WR : Hid (WrP a n d)) (DM : Hid (DmP 34 n d q r 0)) (hr : (r.toList == [48]) = false)
    (MU : Hid (OpP 35 ⟨#[50]⟩ r tw k)) (D1 : Hid (∀ W, Calls Tryd.prog 37 #[.string tw] W (DigsRet tw W))) (D2 : Hid (∀ W, Calls Tryd.prog 37 #[.string d] W (DigsRet d W)))
    (HF : Hid (HalfOf tw d h)) (htw : (tw.toList == []) = true) (hn : 0 < n.size) (hng : ((n[0].toNat : Int) == 45) = true) :
    Calls Tryd.prog 11 #[.string a, .int .u8 1] w fun e w' => e = .returned (.tuple #[.string q, .int .i64 0]) ∧ Below w.heap.size w w' := by
  have hnb : ((n[0].toNat : Int) != 45) = false := by rw [bne, hng]; rfl
  go_enter Tryd.func11, Tryd.ntmps11
  go_wp2_with fail
  refine (CK.out _).mono ?_
  rintro e w1 ⟨rfl, h1⟩
  go_wp2_with fail
  refine (WR.out _).mono ?_
  rintro e w2 ⟨rfl, h2⟩
  have c2 := h1.trans (h2.mono h1.size)
  clear h1 h2
  go_wp2_with fail
  refine (DM.out _).mono ?_
  rintro e w3 ⟨rfl, h3⟩
  have c3 := c2.trans (h3.mono c2.size)
  clear c2 h3
  go_wp2_with fail
  refine (MU.out _).mono ?_
  rintro e w4 ⟨rfl, h4⟩
  have c4 := c3.trans (h4.mono c3.size)
  clear c3 h4
  go_wp2_with fail
  refine (D1.out _).mono ?_
  rintro e w5 ⟨v1, rfl, o1, h5⟩
  have c5 := c4.trans (h5.mono c4.size)
  clear c4 h5
  go_wp2_with fail
  refine (D2.out _).mono ?_
  rintro e w6 ⟨v2, rfl, o2, h6⟩
  have c6 := c5.trans (h6.mono c5.size)
  have o1' := o1.below (h6.mono (Nat.le_refl _))
  clear c5 h6
  go_wp2_with fail
  refine (HF.out _ _ _ _ _ o1' o2).mono ?_
  rintro e w7 ⟨rfl, rfl⟩
  clear o1 o1' o2
  go_wp2_with fail
  go_ret2
  exact ⟨rfl, c6⟩
set_option maxRecDepth 100000 in
set_option maxHeartbeats 1000000 in
theorem rround_2_E (a n d q r tw q1 : ByteArray) (k h k1 : Int) (w : World) (CK : Hid (CkP a 0)) (WR : Hid (WrP a n d)) (DM : Hid (DmP 34 n d q r 0)) (hr : (r.toList == [48]) = false)
    (MU : Hid (OpP 35 ⟨#[50]⟩ r tw k)) (D1 : Hid (∀ W, Calls Tryd.prog 37 #[.string tw] W (DigsRet tw W))) (D2 : Hid (∀ W, Calls Tryd.prog 37 #[.string d] W (DigsRet d W)))
    (HF : Hid (HalfOf tw d h)) (htw : (tw.toList == []) = true) (AD : Hid (OpP 38 q ⟨#[49]⟩ q1 k1)) :
    Calls Tryd.prog 11 #[.string a, .int .u8 2] w fun e w' => e = .returned (.tuple #[.string q1, .int .i64 k1]) ∧ Below w.heap.size w w' := by
  go_enter Tryd.func11, Tryd.ntmps11
  go_wp2_with fail
  refine (CK.out _).mono ?_
  rintro e w1 ⟨rfl, h1⟩
  go_wp2_with fail
  refine (WR.out _).mono ?_
  rintro e w2 ⟨rfl, h2⟩
  have c2 := h1.trans (h2.mono h1.size)
  clear h1 h2
  go_wp2_with fail
  refine (DM.out _).mono ?_
  rintro e w3 ⟨rfl, h3⟩
  have c3 := c2.trans (h3.mono c2.size)
  clear c2 h3
  go_wp2_with fail
  refine (MU.out _).mono ?_
  rintro e w4 ⟨rfl, h4⟩
  have c4 := c3.trans (h4.mono c3.size)
  clear c3 h4
  go_wp2_with fail
  refine (D1.out _).mono ?_
  rintro e w5 ⟨v1, rfl, o1, h5⟩
  have c5 := c4.trans (h5.mono c4.size)
  clear c4 h5
  go_wp2_with fail
  refine (D2.out _).mono ?_
  rintro e w6 ⟨v2, rfl, o2, h6⟩
  have c6 := c5.trans (h6.mono c5.size)
  have o1' := o1.below (h6.mono (Nat.le_refl _))
  clear c5 h6
  go_wp2_with fail
  refine (HF.out _ _ _ _ _ o1' o2).mono ?_
  rintro e w7 ⟨rfl, rfl⟩
  clear o1 o1' o2
  go_wp2_with fail
  refine (AD.out _).mono ?_
  rintro e w8 ⟨rfl, h8⟩
  have c8 := c6.trans (h8.mono c6.size)
  clear c6 h8
  go_wp2_with fail
  go_ret2
  exact ⟨rfl, c8⟩
set_option maxRecDepth 100000 in
set_option maxHeartbeats 1000000 in
theorem rround_2_Tg (a n d q r tw q1 : ByteArray) (k h k1 : Int) (w : World) (CK : Hid (CkP a 0)) (WR : Hid (WrP a n d)) (DM : Hid (DmP 34 n d q r 0)) (hr : (r.toList == [48]) = false)
    (MU : Hid (OpP 35 ⟨#[50]⟩ r tw k)) (D1 : Hid (∀ W, Calls Tryd.prog 37 #[.string tw] W (DigsRet tw W))) (D2 : Hid (∀ W, Calls Tryd.prog 37 #[.string d] W (DigsRet d W)))
    (HF : Hid (HalfOf tw d h)) (htw : (tw.toList == []) = false) (hh : 0 < h) (AD : Hid (OpP 38 q ⟨#[49]⟩ q1 k1)) :
    Calls Tryd.prog 11 #[.string a, .int .u8 2] w fun e w' => e = .returned (.tuple #[.string q1, .int .i64 k1]) ∧ Below w.heap.size w w' := by
  go_enter Tryd.func11, Tryd.ntmps11
  go_wp2_with fail
  refine (CK.out _).mono ?_
  rintro e w1 ⟨rfl, h1⟩
  go_wp2_with fail
  refine (WR.out _).mono ?_
  rintro e w2 ⟨rfl, h2⟩
  have c2 := h1.trans (h2.mono h1.size)
  clear h1 h2
  go_wp2_with fail
  refine (DM.out _).mono ?_
  rintro e w3 ⟨rfl, h3⟩
  have c3 := c2.trans (h3.mono c2.size)
  clear c2 h3
  go_wp2_with fail
  refine (MU.out _).mono ?_
  rintro e w4 ⟨rfl, h4⟩
  have c4 := c3.trans (h4.mono c3.size)
  clear c3 h4
  go_wp2_with fail
  refine (D1.out _).mono ?_
  rintro e w5 ⟨v1, rfl, o1, h5⟩
  have c5 := c4.trans (h5.mono c4.size)
  clear c4 h5
  go_wp2_with fail
  refine (D2.out _).mono ?_
  rintro e w6 ⟨v2, rfl, o2, h6⟩
  have c6 := c5.trans (h6.mono c5.size)
  have o1' := o1.below (h6.mono (Nat.le_refl _))
  clear c5 h6
  go_wp2_with fail
  refine (HF.out _ _ _ _ _ o1' o2).mono ?_
  rintro e w7 ⟨rfl, rfl⟩
  clear o1 o1' o2
  go_wp2_with fail
  refine (AD.out _).mono ?_
  rintro e w8 ⟨rfl, h8⟩
  have c8 := c6.trans (h8.mono c6.size)
  clear c6 h8
  go_wp2_with fail
  go_ret2
  exact ⟨rfl, c8⟩
set_option maxRecDepth 100000 in
set_option maxHeartbeats 1000000 in
theorem rround_2_Tl (a n d q r tw : ByteArray) (k h : Int) (w : World) (CK : Hid (CkP a 0)) (WR : Hid (WrP a n d)) (DM : Hid (DmP 34 n d q r 0)) (hr : (r.toList == [48]) = false)
    (MU : Hid (OpP 35 ⟨#[50]⟩ r tw k)) (D1 : Hid (∀ W, Calls Tryd.prog 37 #[.string tw] W (DigsRet tw W))) (D2 : Hid (∀ W, Calls Tryd.prog 37 #[.string d] W (DigsRet d W)))
    (HF : Hid (HalfOf tw d h)) (htw : (tw.toList == []) = false) (hh : h < 0) :
    Calls Tryd.prog 11 #[.string a, .int .u8 2] w fun e w' => e = .returned (.tuple #[.string q, .int .i64 0]) ∧ Below w.heap.size w w' := by
  have hdd : decide (0 < h) = false := by simp; omega
  go_enter Tryd.func11, Tryd.ntmps11
  go_wp2_with fail
  refine (CK.out _).mono ?_
  rintro e w1 ⟨rfl, h1⟩
  go_wp2_with fail
  refine (WR.out _).mono ?_
  rintro e w2 ⟨rfl, h2⟩
  have c2 := h1.trans (h2.mono h1.size)
  clear h1 h2
  go_wp2_with fail
  refine (DM.out _).mono ?_
  rintro e w3 ⟨rfl, h3⟩
  have c3 := c2.trans (h3.mono c2.size)
  clear c2 h3
  go_wp2_with fail
  refine (MU.out _).mono ?_
  rintro e w4 ⟨rfl, h4⟩
  have c4 := c3.trans (h4.mono c3.size)
  clear c3 h4
  go_wp2_with fail
  refine (D1.out _).mono ?_
  rintro e w5 ⟨v1, rfl, o1, h5⟩
  have c5 := c4.trans (h5.mono c4.size)
  clear c4 h5
  go_wp2_with fail
  refine (D2.out _).mono ?_
  rintro e w6 ⟨v2, rfl, o2, h6⟩
  have c6 := c5.trans (h6.mono c5.size)
  have o1' := o1.below (h6.mono (Nat.le_refl _))
  clear c5 h6
  go_wp2_with fail
  refine (HF.out _ _ _ _ _ o1' o2).mono ?_
  rintro e w7 ⟨rfl, rfl⟩
  clear o1 o1' o2
  go_wp2_with fail
  go_ret2
  exact ⟨rfl, c6⟩
set_option maxRecDepth 100000 in
set_option maxHeartbeats 1000000 in
theorem rround_3_E (a n d q r tw q1 : ByteArray) (k h k1 : Int) (w : World) (CK : Hid (CkP a 0)) (WR : Hid (WrP a n d)) (DM : Hid (DmP 34 n d q r 0)) (hr : (r.toList == [48]) = false)
    (MU : Hid (OpP 35 ⟨#[50]⟩ r tw k)) (D1 : Hid (∀ W, Calls Tryd.prog 37 #[.string tw] W (DigsRet tw W))) (D2 : Hid (∀ W, Calls Tryd.prog 37 #[.string d] W (DigsRet d W)))
    (HF : Hid (HalfOf tw d h)) (htw : (tw.toList == []) = true) (AD : Hid (OpP 38 q ⟨#[49]⟩ q1 k1)) :
    Calls Tryd.prog 11 #[.string a, .int .u8 3] w fun e w' => e = .returned (.tuple #[.string q1, .int .i64 k1]) ∧ Below w.heap.size w w' := by
  go_enter Tryd.func11, Tryd.ntmps11
  go_wp2_with fail
  refine (CK.out _).mono ?_
  rintro e w1 ⟨rfl, h1⟩
  go_wp2_with fail
  refine (WR.out _).mono ?_
  rintro e w2 ⟨rfl, h2⟩
  have c2 := h1.trans (h2.mono h1.size)
  clear h1 h2
  go_wp2_with fail
  refine (DM.out _).mono ?_
  rintro e w3 ⟨rfl, h3⟩
  have c3 := c2.trans (h3.mono c2.size)
  clear c2 h3
  go_wp2_with fail
  refine (MU.out _).mono ?_
  rintro e w4 ⟨rfl, h4⟩
  have c4 := c3.trans (h4.mono c3.size)
  clear c3 h4
  go_wp2_with fail
  refine (D1.out _).mono ?_
  rintro e w5 ⟨v1, rfl, o1, h5⟩
  have c5 := c4.trans (h5.mono c4.size)
  clear c4 h5
  go_wp2_with fail
  refine (D2.out _).mono ?_
  rintro e w6 ⟨v2, rfl, o2, h6⟩
  have c6 := c5.trans (h6.mono c5.size)
  have o1' := o1.below (h6.mono (Nat.le_refl _))
  clear c5 h6
  go_wp2_with fail
  refine (HF.out _ _ _ _ _ o1' o2).mono ?_
  rintro e w7 ⟨rfl, rfl⟩
  clear o1 o1' o2
  go_wp2_with fail
  refine (AD.out _).mono ?_
  rintro e w8 ⟨rfl, h8⟩
  have c8 := c6.trans (h8.mono c6.size)
  clear c6 h8
  go_wp2_with fail
  go_ret2
  exact ⟨rfl, c8⟩
set_option maxRecDepth 100000 in
set_option maxHeartbeats 1000000 in
theorem rround_3_Tg (a n d q r tw q1 : ByteArray) (k h k1 : Int) (w : World) (CK : Hid (CkP a 0)) (WR : Hid (WrP a n d)) (DM : Hid (DmP 34 n d q r 0)) (hr : (r.toList == [48]) = false)
    (MU : Hid (OpP 35 ⟨#[50]⟩ r tw k)) (D1 : Hid (∀ W, Calls Tryd.prog 37 #[.string tw] W (DigsRet tw W))) (D2 : Hid (∀ W, Calls Tryd.prog 37 #[.string d] W (DigsRet d W)))
    (HF : Hid (HalfOf tw d h)) (htw : (tw.toList == []) = false) (hh : 0 < h) (AD : Hid (OpP 38 q ⟨#[49]⟩ q1 k1)) :
    Calls Tryd.prog 11 #[.string a, .int .u8 3] w fun e w' => e = .returned (.tuple #[.string q1, .int .i64 k1]) ∧ Below w.heap.size w w' := by
  go_enter Tryd.func11, Tryd.ntmps11
  go_wp2_with fail
  refine (CK.out _).mono ?_
  rintro e w1 ⟨rfl, h1⟩
  go_wp2_with fail
  refine (WR.out _).mono ?_
  rintro e w2 ⟨rfl, h2⟩
  have c2 := h1.trans (h2.mono h1.size)
  clear h1 h2
  go_wp2_with fail
  refine (DM.out _).mono ?_
  rintro e w3 ⟨rfl, h3⟩
  have c3 := c2.trans (h3.mono c2.size)
  clear c2 h3
  go_wp2_with fail
  refine (MU.out _).mono ?_
  rintro e w4 ⟨rfl, h4⟩
  have c4 := c3.trans (h4.mono c3.size)
  clear c3 h4
  go_wp2_with fail
  refine (D1.out _).mono ?_
  rintro e w5 ⟨v1, rfl, o1, h5⟩
  have c5 := c4.trans (h5.mono c4.size)
  clear c4 h5
  go_wp2_with fail
  refine (D2.out _).mono ?_
  rintro e w6 ⟨v2, rfl, o2, h6⟩
  have c6 := c5.trans (h6.mono c5.size)
  have o1' := o1.below (h6.mono (Nat.le_refl _))
  clear c5 h6
  go_wp2_with fail
  refine (HF.out _ _ _ _ _ o1' o2).mono ?_
  rintro e w7 ⟨rfl, rfl⟩
  clear o1 o1' o2
  go_wp2_with fail
  refine (AD.out _).mono ?_
  rintro e w8 ⟨rfl, h8⟩
  have c8 := c6.trans (h8.mono c6.size)
  clear c6 h8
  go_wp2_with fail
  go_ret2
  exact ⟨rfl, c8⟩
set_option maxRecDepth 100000 in
set_option maxHeartbeats 1000000 in
theorem rround_3_Tl (a n d q r tw : ByteArray) (k h : Int) (w : World) (CK : Hid (CkP a 0)) (WR : Hid (WrP a n d)) (DM : Hid (DmP 34 n d q r 0)) (hr : (r.toList == [48]) = false)
    (MU : Hid (OpP 35 ⟨#[50]⟩ r tw k)) (D1 : Hid (∀ W, Calls Tryd.prog 37 #[.string tw] W (DigsRet tw W))) (D2 : Hid (∀ W, Calls Tryd.prog 37 #[.string d] W (DigsRet d W)))
    (HF : Hid (HalfOf tw d h)) (htw : (tw.toList == []) = false) (hh : h < 0) :
    Calls Tryd.prog 11 #[.string a, .int .u8 3] w fun e w' => e = .returned (.tuple #[.string q, .int .i64 0]) ∧ Below w.heap.size w w' := by
  have hdd : decide (0 < h) = false := by simp; omega
  go_enter Tryd.func11, Tryd.ntmps11
  go_wp2_with fail
  refine (CK.out _).mono ?_
  rintro e w1 ⟨rfl, h1⟩
  go_wp2_with fail
  refine (WR.out _).mono ?_
  rintro e w2 ⟨rfl, h2⟩
  have c2 := h1.trans (h2.mono h1.size)
  clear h1 h2
  go_wp2_with fail
  refine (DM.out _).mono ?_
  rintro e w3 ⟨rfl, h3⟩
  have c3 := c2.trans (h3.mono c2.size)
  clear c2 h3
  go_wp2_with fail
  refine (MU.out _).mono ?_
  rintro e w4 ⟨rfl, h4⟩
  have c4 := c3.trans (h4.mono c3.size)
  clear c3 h4
  go_wp2_with fail
  refine (D1.out _).mono ?_
  rintro e w5 ⟨v1, rfl, o1, h5⟩
  have c5 := c4.trans (h5.mono c4.size)
  clear c4 h5
  go_wp2_with fail
  refine (D2.out _).mono ?_
  rintro e w6 ⟨v2, rfl, o2, h6⟩
  have c6 := c5.trans (h6.mono c5.size)
  have o1' := o1.below (h6.mono (Nat.le_refl _))
  clear c5 h6
  go_wp2_with fail
  refine (HF.out _ _ _ _ _ o1' o2).mono ?_
  rintro e w7 ⟨rfl, rfl⟩
  clear o1 o1' o2
  go_wp2_with fail
  go_ret2
  exact ⟨rfl, c6⟩
set_option maxRecDepth 100000 in
set_option maxHeartbeats 1000000 in
theorem rround_2_Tzp (a n d q r tw q1 : ByteArray) (k h k1 : Int) (w : World) (CK : Hid (CkP a 0)) (WR : Hid (WrP a n d)) (DM : Hid (DmP 34 n d q r 0)) (hr : (r.toList == [48]) = false)
    (MU : Hid (OpP 35 ⟨#[50]⟩ r tw k)) (D1 : Hid (∀ W, Calls Tryd.prog 37 #[.string tw] W (DigsRet tw W))) (D2 : Hid (∀ W, Calls Tryd.prog 37 #[.string d] W (DigsRet d W)))
    (HF : Hid (HalfOf tw d h)) (htw : (tw.toList == []) = false) (hn : 0 < n.size) (hng : ((n[0].toNat : Int) == 45) = false) (hh : h = 0) (AD : Hid (OpP 38 q ⟨#[49]⟩ q1 k1)) :
    Calls Tryd.prog 11 #[.string a, .int .u8 2] w fun e w' => e = .returned (.tuple #[.string q1, .int .i64 k1]) ∧ Below w.heap.size w w' := by
  have hdd : decide (0 < h) = false := by simp; omega
  have hnb : ((n[0].toNat : Int) != 45) = true := by rw [bne, hng]; rfl
  go_enter Tryd.func11, Tryd.ntmps11
  go_wp2_with fail
  refine (CK.out _).mono ?_
  rintro e w1 ⟨rfl, h1⟩
  go_wp2_with fail
  refine (WR.out _).mono ?_
  rintro e w2 ⟨rfl, h2⟩
  have c2 := h1.trans (h2.mono h1.size)
  clear h1 h2
  go_wp2_with fail
  refine (DM.out _).mono ?_
  rintro e w3 ⟨rfl, h3⟩
  have c3 := c2.trans (h3.mono c2.size)
  clear c2 h3
  go_wp2_with fail
  refine (MU.out _).mono ?_
  rintro e w4 ⟨rfl, h4⟩
  have c4 := c3.trans (h4.mono c3.size)
  clear c3 h4
  go_wp2_with fail
  refine (D1.out _).mono ?_
  rintro e w5 ⟨v1, rfl, o1, h5⟩
  have c5 := c4.trans (h5.mono c4.size)
  clear c4 h5
  go_wp2_with fail
  refine (D2.out _).mono ?_
  rintro e w6 ⟨v2, rfl, o2, h6⟩
  have c6 := c5.trans (h6.mono c5.size)
  have o1' := o1.below (h6.mono (Nat.le_refl _))
  clear c5 h6
  go_wp2_with fail
  refine (HF.out _ _ _ _ _ o1' o2).mono ?_
  rintro e w7 ⟨rfl, rfl⟩
  clear o1 o1' o2
  go_wp2_with fail
  refine (AD.out _).mono ?_
  rintro e w8 ⟨rfl, h8⟩
  have c8 := c6.trans (h8.mono c6.size)
  clear c6 h8
  go_wp2_with fail
  go_ret2
  exact ⟨rfl, c8⟩
set_option maxRecDepth 100000 in
set_option maxHeartbeats 1000000 in
theorem rround_2_Tzn (a n d q r tw : ByteArray) (k h : Int) (w : World) (CK : Hid (CkP a 0)) (WR : Hid (WrP a n d)) (DM : Hid (DmP 34 n d q r 0)) (hr : (r.toList == [48]) = false)
    (MU : Hid (OpP 35 ⟨#[50]⟩ r tw k)) (D1 : Hid (∀ W, Calls Tryd.prog 37 #[.string tw] W (DigsRet tw W))) (D2 : Hid (∀ W, Calls Tryd.prog 37 #[.string d] W (DigsRet d W)))
    (HF : Hid (HalfOf tw d h)) (htw : (tw.toList == []) = false) (hn : 0 < n.size) (hng : ((n[0].toNat : Int) == 45) = true) (hh : h = 0) :
    Calls Tryd.prog 11 #[.string a, .int .u8 2] w fun e w' => e = .returned (.tuple #[.string q, .int .i64 0]) ∧ Below w.heap.size w w' := by
  have hdd : decide (0 < h) = false := by simp; omega
  have hnb : ((n[0].toNat : Int) != 45) = false := by rw [bne, hng]; rfl
  go_enter Tryd.func11, Tryd.ntmps11
  go_wp2_with fail
  refine (CK.out _).mono ?_
  rintro e w1 ⟨rfl, h1⟩
  go_wp2_with fail
  refine (WR.out _).mono ?_
  rintro e w2 ⟨rfl, h2⟩
  have c2 := h1.trans (h2.mono h1.size)
  clear h1 h2
  go_wp2_with fail
  refine (DM.out _).mono ?_
  rintro e w3 ⟨rfl, h3⟩
  have c3 := c2.trans (h3.mono c2.size)
  clear c2 h3
  go_wp2_with fail
  refine (MU.out _).mono ?_
  rintro e w4 ⟨rfl, h4⟩
  have c4 := c3.trans (h4.mono c3.size)
  clear c3 h4
  go_wp2_with fail
  refine (D1.out _).mono ?_
  rintro e w5 ⟨v1, rfl, o1, h5⟩
  have c5 := c4.trans (h5.mono c4.size)
  clear c4 h5
  go_wp2_with fail
  refine (D2.out _).mono ?_
  rintro e w6 ⟨v2, rfl, o2, h6⟩
  have c6 := c5.trans (h6.mono c5.size)
  have o1' := o1.below (h6.mono (Nat.le_refl _))
  clear c5 h6
  go_wp2_with fail
  refine (HF.out _ _ _ _ _ o1' o2).mono ?_
  rintro e w7 ⟨rfl, rfl⟩
  clear o1 o1' o2
  go_wp2_with fail
  go_ret2
  exact ⟨rfl, c6⟩
end Go.Proofs.YthafdckomhdlbaaDoor
