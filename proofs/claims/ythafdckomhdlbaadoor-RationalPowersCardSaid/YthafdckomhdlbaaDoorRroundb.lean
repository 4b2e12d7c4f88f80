/- Walks: rational.Round, the numerator negative: every way of it, mode by mode. -/
import Derived.Test.YthafdckomhdlbaaDoorRrounda
namespace Go.Proofs.YthafdckomhdlbaaDoor
open Go.RowKit

set_option maxRecDepth 100000 in
set_option maxHeartbeats 1000000 in
theorem round_n0_Z0 (a n d q r l : ByteArray) (h : Int) (odd : Bool) (w : World) (hv : HasV w) (hA : Away w) (PP : Hid (PartP a n d 0)) (hn : 0 < n.size) (hnm : n.size ≤ 2000) (hng : ((n[0].toNat : Int) == 45) = true)
    (DM : Hid (DmP 28 (n.extract 1 n.size) d q r 0)) (SB : Hid (OpP 29 d r l 0)) (CM : Hid (CmP 30 r l h 0)) (hq : 0 < q.size) (hqm : q.size ≤ 2000) (hod : (((q[q.size - 1].toNat : Int) - 48) % 2 == 1) = odd) (hr : (r.toList == [48]) = true) (hz : (q.toList == [48]) = true) :
    Calls Tryd.prog 10 #[.string a, .int .u8 0] w fun e w' => e = .returned (.tuple #[.string q, .int .i64 0]) ∧ Below w.heap.size w w' := by
  have HV := Lib.hid hv
  have HA := Lib.hid hA
  clear hv hA
  go_enter Tryd.func10, Tryd.ntmps10
  go_wp2_with fail
  refine (PP.out _ HV.out).mono ?_
  rintro e w1 ⟨rfl, h1⟩
  go_wp2_with fail
  refine (DM.out _).mono ?_
  rintro e w2 ⟨rfl, h2⟩
  have c2 := h1.trans (h2.mono h1.size)
  clear h1 h2
  go_wp2_with fail
  refine (SB.out _).mono ?_
  rintro e w3 ⟨rfl, h3⟩
  have c3 := c2.trans (h3.mono c2.size)
  clear c2 h3
  go_wp2_with fail
  refine (CM.out _).mono ?_
  rintro e w4 ⟨rfl, h4⟩
  have c4 := c3.trans (h4.mono c3.size)
  clear c3 h4
  have cell : w4.cell? ⟨0, 0, none⟩ = some (.func (.func 104) #[] #[]) := (c4.cell (World.block_lt_of_cell? w _ HA.out.1)).trans HA.out.1
  have qi0 : (0 : Int) ≤ (q.size : Int) - 1 := by omega
  have qi1 : (q.size : Int) - 1 < (q.size : Int) := by omega
  go_wp2_with fail
  go_ret2
  exact ⟨rfl, c4⟩
set_option maxRecDepth 100000 in
set_option maxHeartbeats 1000000 in
theorem round_n0_Z1 (a n d q r l : ByteArray) (h : Int) (odd : Bool) (w : World) (hv : HasV w) (hA : Away w) (PP : Hid (PartP a n d 0)) (hn : 0 < n.size) (hnm : n.size ≤ 2000) (hng : ((n[0].toNat : Int) == 45) = true)
    (DM : Hid (DmP 28 (n.extract 1 n.size) d q r 0)) (SB : Hid (OpP 29 d r l 0)) (CM : Hid (CmP 30 r l h 0)) (hq : 0 < q.size) (hqm : q.size ≤ 2000) (hod : (((q[q.size - 1].toNat : Int) - 48) % 2 == 1) = odd) (hr : (r.toList == [48]) = true) (hz : (q.toList == [48]) = false) :
    Calls Tryd.prog 10 #[.string a, .int .u8 0] w fun e w' => e = .returned (.tuple #[.string (⟨#[45]⟩ ++ q), .int .i64 0]) ∧ Below w.heap.size w w' := by
  have HV := Lib.hid hv
  have HA := Lib.hid hA
  clear hv hA
  go_enter Tryd.func10, Tryd.ntmps10
  go_wp2_with fail
  refine (PP.out _ HV.out).mono ?_
  rintro e w1 ⟨rfl, h1⟩
  go_wp2_with fail
  refine (DM.out _).mono ?_
  rintro e w2 ⟨rfl, h2⟩
  have c2 := h1.trans (h2.mono h1.size)
  clear h1 h2
  go_wp2_with fail
  refine (SB.out _).mono ?_
  rintro e w3 ⟨rfl, h3⟩
  have c3 := c2.trans (h3.mono c2.size)
  clear c2 h3
  go_wp2_with fail
  refine (CM.out _).mono ?_
  rintro e w4 ⟨rfl, h4⟩
  have c4 := c3.trans (h4.mono c3.size)
  clear c3 h4
  have cell : w4.cell? ⟨0, 0, none⟩ = some (.func (.func 104) #[] #[]) := (c4.cell (World.block_lt_of_cell? w _ HA.out.1)).trans HA.out.1
  have qi0 : (0 : Int) ≤ (q.size : Int) - 1 := by omega
  have qi1 : (q.size : Int) - 1 < (q.size : Int) := by omega
  go_wp2_with fail
  go_ret2
  exact ⟨rfl, c4⟩
set_option maxRecDepth 100000 in
set_option maxHeartbeats 1000000 in
theorem round_n0_D0 (a n d q r l : ByteArray) (h : Int) (odd : Bool) (w : World) (hv : HasV w) (hA : Away w) (PP : Hid (PartP a n d 0)) (hn : 0 < n.size) (hnm : n.size ≤ 2000) (hng : ((n[0].toNat : Int) == 45) = true)
    (DM : Hid (DmP 28 (n.extract 1 n.size) d q r 0)) (SB : Hid (OpP 29 d r l 0)) (CM : Hid (CmP 30 r l h 0)) (hq : 0 < q.size) (hqm : q.size ≤ 2000) (hod : (((q[q.size - 1].toNat : Int) - 48) % 2 == 1) = odd) (hr : (r.toList == [48]) = false) (haw : Hid (Z.awB 0 odd h = false)) (hz : (q.toList == [48]) = true) :
    Calls Tryd.prog 10 #[.string a, .int .u8 0] w fun e w' => e = .returned (.tuple #[.string q, .int .i64 0]) ∧ Below w.heap.size w w' := by
  have HV := Lib.hid hv
  have HA := Lib.hid hA
  clear hv hA
  go_enter Tryd.func10, Tryd.ntmps10
  go_wp2_with fail
  refine (PP.out _ HV.out).mono ?_
  rintro e w1 ⟨rfl, h1⟩
  go_wp2_with fail
  refine (DM.out _).mono ?_
  rintro e w2 ⟨rfl, h2⟩
  have c2 := h1.trans (h2.mono h1.size)
  clear h1 h2
  go_wp2_with fail
  refine (SB.out _).mono ?_
  rintro e w3 ⟨rfl, h3⟩
  have c3 := c2.trans (h3.mono c2.size)
  clear c2 h3
  go_wp2_with fail
  refine (CM.out _).mono ?_
  rintro e w4 ⟨rfl, h4⟩
  have c4 := c3.trans (h4.mono c3.size)
  clear c3 h4
  have cell : w4.cell? ⟨0, 0, none⟩ = some (.func (.func 104) #[] #[]) := (c4.cell (World.block_lt_of_cell? w _ HA.out.1)).trans HA.out.1
  have qi0 : (0 : Int) ≤ (q.size : Int) - 1 := by omega
  have qi1 : (q.size : Int) - 1 < (q.size : Int) := by omega
  go_wp2_with fail
  refine (away1 odd h _).mono ?_
  rw [haw.out]
  rintro e w5 ⟨rfl, rfl⟩
  go_wp2_with fail
  go_ret2
  exact ⟨rfl, c4⟩
set_option maxRecDepth 100000 in
set_option maxHeartbeats 1000000 in
theorem round_n0_D1 (a n d q r l : ByteArray) (h : Int) (odd : Bool) (w : World) (hv : HasV w) (hA : Away w) (PP : Hid (PartP a n d 0)) (hn : 0 < n.size) (hnm : n.size ≤ 2000) (hng : ((n[0].toNat : Int) == 45) = true)
    (DM : Hid (DmP 28 (n.extract 1 n.size) d q r 0)) (SB : Hid (OpP 29 d r l 0)) (CM : Hid (CmP 30 r l h 0)) (hq : 0 < q.size) (hqm : q.size ≤ 2000) (hod : (((q[q.size - 1].toNat : Int) - 48) % 2 == 1) = odd) (hr : (r.toList == [48]) = false) (haw : Hid (Z.awB 0 odd h = false)) (hz : (q.toList == [48]) = false) :
    Calls Tryd.prog 10 #[.string a, .int .u8 0] w fun e w' => e = .returned (.tuple #[.string (⟨#[45]⟩ ++ q), .int .i64 0]) ∧ Below w.heap.size w w' := by
  have HV := Lib.hid hv
  have HA := Lib.hid hA
  clear hv hA
  go_enter Tryd.func10, Tryd.ntmps10
  go_wp2_with fail
  refine (PP.out _ HV.out).mono ?_
  rintro e w1 ⟨rfl, h1⟩
  go_wp2_with fail
  refine (DM.out _).mono ?_
  rintro e w2 ⟨rfl, h2⟩
  have c2 := h1.trans (h2.mono h1.size)
  clear h1 h2
  go_wp2_with fail
  refine (SB.out _).mono ?_
  rintro e w3 ⟨rfl, h3⟩
  have c3 := c2.trans (h3.mono c2.size)
  clear c2 h3
  go_wp2_with fail
  refine (CM.out _).mono ?_
  rintro e w4 ⟨rfl, h4⟩
  have c4 := c3.trans (h4.mono c3.size)
  clear c3 h4
  have cell : w4.cell? ⟨0, 0, none⟩ = some (.func (.func 104) #[] #[]) := (c4.cell (World.block_lt_of_cell? w _ HA.out.1)).trans HA.out.1
  have qi0 : (0 : Int) ≤ (q.size : Int) - 1 := by omega
  have qi1 : (q.size : Int) - 1 < (q.size : Int) := by omega
  go_wp2_with fail
  refine (away1 odd h _).mono ?_
  rw [haw.out]
  rintro e w5 ⟨rfl, rfl⟩
  go_wp2_with fail
  go_ret2
  exact ⟨rfl, c4⟩
set_option maxRecDepth 100000 in
set_option maxHeartbeats 1000000 in
theorem round_n1_Z0 (a n d q r l : ByteArray) (h : Int) (odd : Bool) (w : World) (hv : HasV w) (hA : Away w) (PP : Hid (PartP a n d 0)) (hn : 0 < n.size) (hnm : n.size ≤ 2000) (hng : ((n[0].toNat : Int) == 45) = true)
    (DM : Hid (DmP 28 (n.extract 1 n.size) d q r 0)) (SB : Hid (OpP 29 d r l 0)) (CM : Hid (CmP 30 r l h 0)) (hq : 0 < q.size) (hqm : q.size ≤ 2000) (hod : (((q[q.size - 1].toNat : Int) - 48) % 2 == 1) = odd) (hr : (r.toList == [48]) = true) (hz : (q.toList == [48]) = true) :
    Calls Tryd.prog 10 #[.string a, .int .u8 1] w fun e w' => e = .returned (.tuple #[.string q, .int .i64 0]) ∧ Below w.heap.size w w' := by
  have HV := Lib.hid hv
  have HA := Lib.hid hA
  clear hv hA
  go_enter Tryd.func10, Tryd.ntmps10
  go_wp2_with fail
  refine (PP.out _ HV.out).mono ?_
  rintro e w1 ⟨rfl, h1⟩
  go_wp2_with fail
  refine (DM.out _).mono ?_
  rintro e w2 ⟨rfl, h2⟩
  have c2 := h1.trans (h2.mono h1.size)
  clear h1 h2
  go_wp2_with fail
  refine (SB.out _).mono ?_
  rintro e w3 ⟨rfl, h3⟩
  have c3 := c2.trans (h3.mono c2.size)
  clear c2 h3
  go_wp2_with fail
  refine (CM.out _).mono ?_
  rintro e w4 ⟨rfl, h4⟩
  have c4 := c3.trans (h4.mono c3.size)
  clear c3 h4
  have cell : w4.cell? ⟨0, 1, none⟩ = some (.func (.func 105) #[] #[]) := (c4.cell (World.block_lt_of_cell? w _ HA.out.2.1)).trans HA.out.2.1
  have qi0 : (0 : Int) ≤ (q.size : Int) - 1 := by omega
  have qi1 : (q.size : Int) - 1 < (q.size : Int) := by omega
  go_wp2_with fail
  go_ret2
  exact ⟨rfl, c4⟩
set_option maxRecDepth 100000 in
set_option maxHeartbeats 1000000 in
theorem round_n1_Z1 (a n d q r l : ByteArray) (h : Int) (odd : Bool) (w : World) (hv : HasV w) (hA : Away w) (PP : Hid (PartP a n d 0)) (hn : 0 < n.size) (hnm : n.size ≤ 2000) (hng : ((n[0].toNat : Int) == 45) = true)
    (DM : Hid (DmP 28 (n.extract 1 n.size) d q r 0)) (SB : Hid (OpP 29 d r l 0)) (CM : Hid (CmP 30 r l h 0)) (hq : 0 < q.size) (hqm : q.size ≤ 2000) (hod : (((q[q.size - 1].toNat : Int) - 48) % 2 == 1) = odd) (hr : (r.toList == [48]) = true) (hz : (q.toList == [48]) = false) :
    Calls Tryd.prog 10 #[.string a, .int .u8 1] w fun e w' => e = .returned (.tuple #[.string (⟨#[45]⟩ ++ q), .int .i64 0]) ∧ Below w.heap.size w w' := by
  have HV := Lib.hid hv
  have HA := Lib.hid hA
  clear hv hA
  go_enter Tryd.func10, Tryd.ntmps10
  go_wp2_with fail
  refine (PP.out _ HV.out).mono ?_
  rintro e w1 ⟨rfl, h1⟩
  go_wp2_with fail
  refine (DM.out _).mono ?_
  rintro e w2 ⟨rfl, h2⟩
  have c2 := h1.trans (h2.mono h1.size)
  clear h1 h2
  go_wp2_with fail
  refine (SB.out _).mono ?_
  rintro e w3 ⟨rfl, h3⟩
  have c3 := c2.trans (h3.mono c2.size)
  clear c2 h3
  go_wp2_with fail
  refine (CM.out _).mono ?_
  rintro e w4 ⟨rfl, h4⟩
  have c4 := c3.trans (h4.mono c3.size)
  clear c3 h4
  have cell : w4.cell? ⟨0, 1, none⟩ = some (.func (.func 105) #[] #[]) := (c4.cell (World.block_lt_of_cell? w _ HA.out.2.1)).trans HA.out.2.1
  have qi0 : (0 : Int) ≤ (q.size : Int) - 1 := by omega
  have qi1 : (q.size : Int) - 1 < (q.size : Int) := by omega
  go_wp2_with fail
  go_ret2
  exact ⟨rfl, c4⟩
set_option maxRecDepth 100000 in
set_option maxHeartbeats 1000000 in
theorem round_n1_U1 (a n d q r l q1 : ByteArray) (h : Int) (odd : Bool) (w : World) (hv : HasV w) (hA : Away w) (PP : Hid (PartP a n d 0)) (hn : 0 < n.size) (hnm : n.size ≤ 2000) (hng : ((n[0].toNat : Int) == 45) = true)
    (DM : Hid (DmP 28 (n.extract 1 n.size) d q r 0)) (SB : Hid (OpP 29 d r l 0)) (CM : Hid (CmP 30 r l h 0)) (hq : 0 < q.size) (hqm : q.size ≤ 2000) (hod : (((q[q.size - 1].toNat : Int) - 48) % 2 == 1) = odd) (hr : (r.toList == [48]) = false) (haw : Hid (Z.awB 1 odd h = true)) (AD : Hid (OpP 31 q ⟨#[49]⟩ q1 0)) (hq1m : q1.size ≤ 2000) (hz : (q1.toList == [48]) = false) :
    Calls Tryd.prog 10 #[.string a, .int .u8 1] w fun e w' => e = .returned (.tuple #[.string (⟨#[45]⟩ ++ q1), .int .i64 0]) ∧ Below w.heap.size w w' := by
  have HV := Lib.hid hv
  have HA := Lib.hid hA
  clear hv hA
  go_enter Tryd.func10, Tryd.ntmps10
  go_wp2_with fail
  refine (PP.out _ HV.out).mono ?_
  rintro e w1 ⟨rfl, h1⟩
  go_wp2_with fail
  refine (DM.out _).mono ?_
  rintro e w2 ⟨rfl, h2⟩
  have c2 := h1.trans (h2.mono h1.size)
  clear h1 h2
  go_wp2_with fail
  refine (SB.out _).mono ?_
  rintro e w3 ⟨rfl, h3⟩
  have c3 := c2.trans (h3.mono c2.size)
  clear c2 h3
  go_wp2_with fail
  refine (CM.out _).mono ?_
  rintro e w4 ⟨rfl, h4⟩
  have c4 := c3.trans (h4.mono c3.size)
  clear c3 h4
  have cell : w4.cell? ⟨0, 1, none⟩ = some (.func (.func 105) #[] #[]) := (c4.cell (World.block_lt_of_cell? w _ HA.out.2.1)).trans HA.out.2.1
  have qi0 : (0 : Int) ≤ (q.size : Int) - 1 := by omega
  have qi1 : (q.size : Int) - 1 < (q.size : Int) := by omega
  go_wp2_with fail
  refine (away2 odd h _).mono ?_
  rw [haw.out]
  rintro e w5 ⟨rfl, rfl⟩
  go_wp2_with fail
  refine (AD.out _).mono ?_
  rintro e w6 ⟨rfl, h6⟩
  have c6 := c4.trans (h6.mono c4.size)
  clear c4 h6
  go_wp2_with fail
  go_ret2
  exact ⟨rfl, c6⟩
set_option maxRecDepth 100000 in
set_option maxHeartbeats 1000000 in
theorem round_n2_Z0 (a n d q r l : ByteArray) (h : Int) (odd : Bool) (w : World) (hv : HasV w) (hA : Away w) (PP : Hid (PartP a n d 0)) (hn : 0 < n.size) (hnm : n.size ≤ 2000) (hng : ((n[0].toNat : Int) == 45) = true)
    (DM : Hid (DmP 28 (n.extract 1 n.size) d q r 0)) (SB : Hid (OpP 29 d r l 0)) (CM : Hid (CmP 30 r l h 0)) (hq : 0 < q.size) (hqm : q.size ≤ 2000) (hod : (((q[q.size - 1].toNat : Int) - 48) % 2 == 1) = odd) (hr : (r.toList == [48]) = true) (hz : (q.toList == [48]) = true) :
    Calls Tryd.prog 10 #[.string a, .int .u8 2] w fun e w' => e = .returned (.tuple #[.string q, .int .i64 0]) ∧ Below w.heap.size w w' := by
  have HV := Lib.hid hv
  have HA := Lib.hid hA
  clear hv hA
  go_enter Tryd.func10, Tryd.ntmps10
  go_wp2_with fail
  refine (PP.out _ HV.out).mono ?_
  rintro e w1 ⟨rfl, h1⟩
  go_wp2_with fail
  refine (DM.out _).mono ?_
  rintro e w2 ⟨rfl, h2⟩
  have c2 := h1.trans (h2.mono h1.size)
  clear h1 h2
  go_wp2_with fail
  refine (SB.out _).mono ?_
  rintro e w3 ⟨rfl, h3⟩
  have c3 := c2.trans (h3.mono c2.size)
  clear c2 h3
  go_wp2_with fail
  refine (CM.out _).mono ?_
  rintro e w4 ⟨rfl, h4⟩
  have c4 := c3.trans (h4.mono c3.size)
  clear c3 h4
  have cell : w4.cell? ⟨0, 2, none⟩ = some (.func (.func 106) #[] #[]) := (c4.cell (World.block_lt_of_cell? w _ HA.out.2.2.1)).trans HA.out.2.2.1
  have qi0 : (0 : Int) ≤ (q.size : Int) - 1 := by omega
  have qi1 : (q.size : Int) - 1 < (q.size : Int) := by omega
  go_wp2_with fail
  go_ret2
  exact ⟨rfl, c4⟩
set_option maxRecDepth 100000 in
set_option maxHeartbeats 1000000 in
theorem round_n2_Z1 (a n d q r l : ByteArray) (h : Int) (odd : Bool) (w : World) (hv : HasV w) (hA : Away w) (PP : Hid (PartP a n d 0)) (hn : 0 < n.size) (hnm : n.size ≤ 2000) (hng : ((n[0].toNat : Int) == 45) = true)
    (DM : Hid (DmP 28 (n.extract 1 n.size) d q r 0)) (SB : Hid (OpP 29 d r l 0)) (CM : Hid (CmP 30 r l h 0)) (hq : 0 < q.size) (hqm : q.size ≤ 2000) (hod : (((q[q.size - 1].toNat : Int) - 48) % 2 == 1) = odd) (hr : (r.toList == [48]) = true) (hz : (q.toList == [48]) = false) :
    Calls Tryd.prog 10 #[.string a, .int .u8 2] w fun e w' => e = .returned (.tuple #[.string (⟨#[45]⟩ ++ q), .int .i64 0]) ∧ Below w.heap.size w w' := by
  have HV := Lib.hid hv
  have HA := Lib.hid hA
  clear hv hA
  go_enter Tryd.func10, Tryd.ntmps10
  go_wp2_with fail
  refine (PP.out _ HV.out).mono ?_
  rintro e w1 ⟨rfl, h1⟩
  go_wp2_with fail
  refine (DM.out _).mono ?_
  rintro e w2 ⟨rfl, h2⟩
  have c2 := h1.trans (h2.mono h1.size)
  clear h1 h2
  go_wp2_with fail
  refine (SB.out _).mono ?_
  rintro e w3 ⟨rfl, h3⟩
  have c3 := c2.trans (h3.mono c2.size)
  clear c2 h3
  go_wp2_with fail
  refine (CM.out _).mono ?_
  rintro e w4 ⟨rfl, h4⟩
  have c4 := c3.trans (h4.mono c3.size)
  clear c3 h4
  have cell : w4.cell? ⟨0, 2, none⟩ = some (.func (.func 106) #[] #[]) := (c4.cell (World.block_lt_of_cell? w _ HA.out.2.2.1)).trans HA.out.2.2.1
  have qi0 : (0 : Int) ≤ (q.size : Int) - 1 := by omega
  have qi1 : (q.size : Int) - 1 < (q.size : Int) := by omega
  go_wp2_with fail
  go_ret2
  exact ⟨rfl, c4⟩
set_option maxRecDepth 100000 in
set_option maxHeartbeats 1000000 in
theorem round_n2_U1 (a n d q r l q1 : ByteArray) (h : Int) (odd : Bool) (w : World) (hv : HasV w) (hA : Away w) (PP : Hid (PartP a n d 0)) (hn : 0 < n.size) (hnm : n.size ≤ 2000) (hng : ((n[0].toNat : Int) == 45) = true)
    (DM : Hid (DmP 28 (n.extract 1 n.size) d q r 0)) (SB : Hid (OpP 29 d r l 0)) (CM : Hid (CmP 30 r l h 0)) (hq : 0 < q.size) (hqm : q.size ≤ 2000) (hod : (((q[q.size - 1].toNat : Int) - 48) % 2 == 1) = odd) (hr : (r.toList == [48]) = false) (haw : Hid (Z.awB 2 odd h = true)) (AD : Hid (OpP 31 q ⟨#[49]⟩ q1 0)) (hq1m : q1.size ≤ 2000) (hz : (q1.toList == [48]) = false) :
    Calls Tryd.prog 10 #[.string a, .int .u8 2] w fun e w' => e = .returned (.tuple #[.string (⟨#[45]⟩ ++ q1), .int .i64 0]) ∧ Below w.heap.size w w' := by
  have HV := Lib.hid hv
  have HA := Lib.hid hA
  clear hv hA
  go_enter Tryd.func10, Tryd.ntmps10
  go_wp2_with fail
  refine (PP.out _ HV.out).mono ?_
  rintro e w1 ⟨rfl, h1⟩
  go_wp2_with fail
  refine (DM.out _).mono ?_
  rintro e w2 ⟨rfl, h2⟩
  have c2 := h1.trans (h2.mono h1.size)
  clear h1 h2
  go_wp2_with fail
  refine (SB.out _).mono ?_
  rintro e w3 ⟨rfl, h3⟩
  have c3 := c2.trans (h3.mono c2.size)
  clear c2 h3
  go_wp2_with fail
  refine (CM.out _).mono ?_
  rintro e w4 ⟨rfl, h4⟩
  have c4 := c3.trans (h4.mono c3.size)
  clear c3 h4
  have cell : w4.cell? ⟨0, 2, none⟩ = some (.func (.func 106) #[] #[]) := (c4.cell (World.block_lt_of_cell? w _ HA.out.2.2.1)).trans HA.out.2.2.1
  have qi0 : (0 : Int) ≤ (q.size : Int) - 1 := by omega
  have qi1 : (q.size : Int) - 1 < (q.size : Int) := by omega
  go_wp2_with fail
  refine (away3 odd h _).mono ?_
  rw [haw.out]
  rintro e w5 ⟨rfl, rfl⟩
  go_wp2_with fail
  refine (AD.out _).mono ?_
  rintro e w6 ⟨rfl, h6⟩
  have c6 := c4.trans (h6.mono c4.size)
  clear c4 h6
  go_wp2_with fail
  go_ret2
  exact ⟨rfl, c6⟩
set_option maxRecDepth 100000 in
set_option maxHeartbeats 1000000 in
theorem round_n2_D0 (a n d q r l : ByteArray) (h : Int) (odd : Bool) (w : World) (hv : HasV w) (hA : Away w) (PP : Hid (PartP a n d 0)) (hn : 0 < n.size) (hnm : n.size ≤ 2000) (hng : ((n[0].toNat : Int) == 45) = true)
    (DM : Hid (DmP 28 (n.extract 1 n.size) d q r 0)) (SB : Hid (OpP 29 d r l 0)) (CM : Hid (CmP 30 r l h 0)) (hq : 0 < q.size) (hqm : q.size ≤ 2000) (hod : (((q[q.size - 1].toNat : Int) - 48) % 2 == 1) = odd) (hr : (r.toList == [48]) = false) (haw : Hid (Z.awB 2 odd h = false)) (hz : (q.toList == [48]) = true) :
    Calls Tryd.prog 10 #[.string a, .int .u8 2] w fun e w' => e = .returned (.tuple #[.string q, .int .i64 0]) ∧ Below w.heap.size w w' := by
  have HV := Lib.hid hv
  have HA := Lib.hid hA
  clear hv hA
  go_enter Tryd.func10, Tryd.ntmps10
  go_wp2_with fail
  refine (PP.out _ HV.out).mono ?_
  rintro e w1 ⟨rfl, h1⟩
  go_wp2_with fail
  refine (DM.out _).mono ?_
  rintro e w2 ⟨rfl, h2⟩
  have c2 := h1.trans (h2.mono h1.size)
  clear h1 h2
  go_wp2_with fail
  refine (SB.out _).mono ?_
  rintro e w3 ⟨rfl, h3⟩
  have c3 := c2.trans (h3.mono c2.size)
  clear c2 h3
  go_wp2_with fail
  refine (CM.out _).mono ?_
  rintro e w4 ⟨rfl, h4⟩
  have c4 := c3.trans (h4.mono c3.size)
  clear c3 h4
  have cell : w4.cell? ⟨0, 2, none⟩ = some (.func (.func 106) #[] #[]) := (c4.cell (World.block_lt_of_cell? w _ HA.out.2.2.1)).trans HA.out.2.2.1
  have qi0 : (0 : Int) ≤ (q.size : Int) - 1 := by omega
  have qi1 : (q.size : Int) - 1 < (q.size : Int) := by omega
  go_wp2_with fail
  refine (away3 odd h _).mono ?_
  rw [haw.out]
  rintro e w5 ⟨rfl, rfl⟩
  go_wp2_with fail
  go_ret2
  exact ⟨rfl, c4⟩
set_option maxRecDepth 100000 in
set_option maxHeartbeats 1000000 in
theorem round_n2_D1 (a n d q r l : ByteArray) (h : Int) (odd : Bool) (w : World) (hv : HasV w) (hA : Away w) (PP : Hid (PartP a n d 0)) (hn : 0 < n.size) (hnm : n.size ≤ 2000) (hng : ((n[0].toNat : Int) == 45) = true)
    (DM : Hid (DmP 28 (n.extract 1 n.size) d q r 0)) (SB : Hid (OpP 29 d r l 0)) (CM : Hid (CmP 30 r l h 0)) (hq : 0 < q.size) (hqm : q.size ≤ 2000) (hod : (((q[q.size - 1].toNat : Int) - 48) % 2 == 1) = odd) (hr : (r.toList == [48]) = false) (haw : Hid (Z.awB 2 odd h = false)) (hz : (q.toList == [48]) = false) :
    Calls Tryd.prog 10 #[.string a, .int .u8 2] w fun e w' => e = .returned (.tuple #[.string (⟨#[45]⟩ ++ q), .int .i64 0]) ∧ Below w.heap.size w w' := by
  have HV := Lib.hid hv
  have HA := Lib.hid hA
  clear hv hA
  go_enter Tryd.func10, Tryd.ntmps10
  go_wp2_with fail
  refine (PP.out _ HV.out).mono ?_
  rintro e w1 ⟨rfl, h1⟩
  go_wp2_with fail
  refine (DM.out _).mono ?_
  rintro e w2 ⟨rfl, h2⟩
  have c2 := h1.trans (h2.mono h1.size)
  clear h1 h2
  go_wp2_with fail
  refine (SB.out _).mono ?_
  rintro e w3 ⟨rfl, h3⟩
  have c3 := c2.trans (h3.mono c2.size)
  clear c2 h3
  go_wp2_with fail
  refine (CM.out _).mono ?_
  rintro e w4 ⟨rfl, h4⟩
  have c4 := c3.trans (h4.mono c3.size)
  clear c3 h4
  have cell : w4.cell? ⟨0, 2, none⟩ = some (.func (.func 106) #[] #[]) := (c4.cell (World.block_lt_of_cell? w _ HA.out.2.2.1)).trans HA.out.2.2.1
  have qi0 : (0 : Int) ≤ (q.size : Int) - 1 := by omega
  have qi1 : (q.size : Int) - 1 < (q.size : Int) := by omega
  go_wp2_with fail
  refine (away3 odd h _).mono ?_
  rw [haw.out]
  rintro e w5 ⟨rfl, rfl⟩
  go_wp2_with fail
  go_ret2
  exact ⟨rfl, c4⟩
set_option maxRecDepth 100000 in
set_option maxHeartbeats 1000000 in
theorem round_n3_Z0 (a n d q r l : ByteArray) (h : Int) (odd : Bool) (w : World) (hv : HasV w) (hA : Away w) (PP : Hid (PartP a n d 0)) (hn : 0 < n.size) (hnm : n.size ≤ 2000) (hng : ((n[0].toNat : Int) == 45) = true)
    (DM : Hid (DmP 28 (n.extract 1 n.size) d q r 0)) (SB : Hid (OpP 29 d r l 0)) (CM : Hid (CmP 30 r l h 0)) (hq : 0 < q.size) (hqm : q.size ≤ 2000) (hod : (((q[q.size - 1].toNat : Int) - 48) % 2 == 1) = odd) (hr : (r.toList == [48]) = true) (hz : (q.toList == [48]) = true) :
    Calls Tryd.prog 10 #[.string a, .int .u8 3] w fun e w' => e = .returned (.tuple #[.string q, .int .i64 0]) ∧ Below w.heap.size w w' := by
  have HV := Lib.hid hv
  have HA := Lib.hid hA
  clear hv hA
  go_enter Tryd.func10, Tryd.ntmps10
  go_wp2_with fail
  refine (PP.out _ HV.out).mono ?_
  rintro e w1 ⟨rfl, h1⟩
  go_wp2_with fail
  refine (DM.out _).mono ?_
  rintro e w2 ⟨rfl, h2⟩
  have c2 := h1.trans (h2.mono h1.size)
  clear h1 h2
  go_wp2_with fail
  refine (SB.out _).mono ?_
  rintro e w3 ⟨rfl, h3⟩
  have c3 := c2.trans (h3.mono c2.size)
  clear c2 h3
  go_wp2_with fail
  refine (CM.out _).mono ?_
  rintro e w4 ⟨rfl, h4⟩
  have c4 := c3.trans (h4.mono c3.size)
  clear c3 h4
  have cell : w4.cell? ⟨0, 3, none⟩ = some (.func (.func 107) #[] #[]) := (c4.cell (World.block_lt_of_cell? w _ HA.out.2.2.2.1)).trans HA.out.2.2.2.1
  have qi0 : (0 : Int) ≤ (q.size : Int) - 1 := by omega
  have qi1 : (q.size : Int) - 1 < (q.size : Int) := by omega
  go_wp2_with fail
  go_ret2
  exact ⟨rfl, c4⟩
set_option maxRecDepth 100000 in
set_option maxHeartbeats 1000000 in
theorem round_n3_Z1 (a n d q r l : ByteArray) (h : Int) (odd : Bool) (w : World) (hv : HasV w) (hA : Away w) (PP : Hid (PartP a n d 0)) (hn : 0 < n.size) (hnm : n.size ≤ 2000) (hng : ((n[0].toNat : Int) == 45) = true)
    (DM : Hid (DmP 28 (n.extract 1 n.size) d q r 0)) (SB : Hid (OpP 29 d r l 0)) (CM : Hid (CmP 30 r l h 0)) (hq : 0 < q.size) (hqm : q.size ≤ 2000) (hod : (((q[q.size - 1].toNat : Int) - 48) % 2 == 1) = odd) (hr : (r.toList == [48]) = true) (hz : (q.toList == [48]) = false) :
    Calls Tryd.prog 10 #[.string a, .int .u8 3] w fun e w' => e = .returned (.tuple #[.string (⟨#[45]⟩ ++ q), .int .i64 0]) ∧ Below w.heap.size w w' := by
  have HV := Lib.hid hv
  have HA := Lib.hid hA
  clear hv hA
  go_enter Tryd.func10, Tryd.ntmps10
  go_wp2_with fail
  refine (PP.out _ HV.out).mono ?_
  rintro e w1 ⟨rfl, h1⟩
  go_wp2_with fail
  refine (DM.out _).mono ?_
  rintro e w2 ⟨rfl, h2⟩
  have c2 := h1.trans (h2.mono h1.size)
  clear h1 h2
  go_wp2_with fail
  refine (SB.out _).mono ?_
  rintro e w3 ⟨rfl, h3⟩
  have c3 := c2.trans (h3.mono c2.size)
  clear c2 h3
  go_wp2_with fail
  refine (CM.out _).mono ?_
  rintro e w4 ⟨rfl, h4⟩
  have c4 := c3.trans (h4.mono c3.size)
  clear c3 h4
  have cell : w4.cell? ⟨0, 3, none⟩ = some (.func (.func 107) #[] #[]) := (c4.cell (World.block_lt_of_cell? w _ HA.out.2.2.2.1)).trans HA.out.2.2.2.1
  have qi0 : (0 : Int) ≤ (q.size : Int) - 1 := by omega
  have qi1 : (q.size : Int) - 1 < (q.size : Int) := by omega
  go_wp2_with fail
  go_ret2
  exact ⟨rfl, c4⟩
set_option maxRecDepth 100000 in
set_option maxHeartbeats 1000000 in
theorem round_n3_U1 (a n d q r l q1 : ByteArray) (h : Int) (odd : Bool) (w : World) (hv : HasV w) (hA : Away w) (PP : Hid (PartP a n d 0)) (hn : 0 < n.size) (hnm : n.size ≤ 2000) (hng : ((n[0].toNat : Int) == 45) = true)
    (DM : Hid (DmP 28 (n.extract 1 n.size) d q r 0)) (SB : Hid (OpP 29 d r l 0)) (CM : Hid (CmP 30 r l h 0)) (hq : 0 < q.size) (hqm : q.size ≤ 2000) (hod : (((q[q.size - 1].toNat : Int) - 48) % 2 == 1) = odd) (hr : (r.toList == [48]) = false) (haw : Hid (Z.awB 3 odd h = true)) (AD : Hid (OpP 31 q ⟨#[49]⟩ q1 0)) (hq1m : q1.size ≤ 2000) (hz : (q1.toList == [48]) = false) :
    Calls Tryd.prog 10 #[.string a, .int .u8 3] w fun e w' => e = .returned (.tuple #[.string (⟨#[45]⟩ ++ q1), .int .i64 0]) ∧ Below w.heap.size w w' := by
  have HV := Lib.hid hv
  have HA := Lib.hid hA
  clear hv hA
  go_enter Tryd.func10, Tryd.ntmps10
  go_wp2_with fail
  refine (PP.out _ HV.out).mono ?_
  rintro e w1 ⟨rfl, h1⟩
  go_wp2_with fail
  refine (DM.out _).mono ?_
  rintro e w2 ⟨rfl, h2⟩
  have c2 := h1.trans (h2.mono h1.size)
  clear h1 h2
  go_wp2_with fail
  refine (SB.out _).mono ?_
  rintro e w3 ⟨rfl, h3⟩
  have c3 := c2.trans (h3.mono c2.size)
  clear c2 h3
  go_wp2_with fail
  refine (CM.out _).mono ?_
  rintro e w4 ⟨rfl, h4⟩
  have c4 := c3.trans (h4.mono c3.size)
  clear c3 h4
  have cell : w4.cell? ⟨0, 3, none⟩ = some (.func (.func 107) #[] #[]) := (c4.cell (World.block_lt_of_cell? w _ HA.out.2.2.2.1)).trans HA.out.2.2.2.1
  have qi0 : (0 : Int) ≤ (q.size : Int) - 1 := by omega
  have qi1 : (q.size : Int) - 1 < (q.size : Int) := by omega
  go_wp2_with fail
  refine (away4 odd h _).mono ?_
  rw [haw.out]
  rintro e w5 ⟨rfl, rfl⟩
  go_wp2_with fail
  refine (AD.out _).mono ?_
  rintro e w6 ⟨rfl, h6⟩
  have c6 := c4.trans (h6.mono c4.size)
  clear c4 h6
  go_wp2_with fail
  go_ret2
  exact ⟨rfl, c6⟩
set_option maxRecDepth 100000 in
set_option maxHeartbeats 1000000 in
theorem round_n3_D0 (a n d q r l : ByteArray) (h : Int) (odd : Bool) (w : World) (hv : HasV w) (hA : Away w) (PP : Hid (PartP a n d 0)) (hn : 0 < n.size) (hnm : n.size ≤ 2000) (hng : ((n[0].toNat : Int) == 45) = true)
    (DM : Hid (DmP 28 (n.extract 1 n.size) d q r 0)) (SB : Hid (OpP 29 d r l 0)) (CM : Hid (CmP 30 r l h 0)) (hq : 0 < q.size) (hqm : q.size ≤ 2000) (hod : (((q[q.size - 1].toNat : Int) - 48) % 2 == 1) = odd) (hr : (r.toList == [48]) = false) (haw : Hid (Z.awB 3 odd h = false)) (hz : (q.toList == [48]) = true) :
    Calls Tryd.prog 10 #[.string a, .int .u8 3] w fun e w' => e = .returned (.tuple #[.string q, .int .i64 0]) ∧ Below w.heap.size w w' := by
  have HV := Lib.hid hv
  have HA := Lib.hid hA
  clear hv hA
  go_enter Tryd.func10, Tryd.ntmps10
  go_wp2_with fail
  refine (PP.out _ HV.out).mono ?_
  rintro e w1 ⟨rfl, h1⟩
  go_wp2_with fail
  refine (DM.out _).mono ?_
  rintro e w2 ⟨rfl, h2⟩
  have c2 := h1.trans (h2.mono h1.size)
  clear h1 h2
  go_wp2_with fail
  refine (SB.out _).mono ?_
  rintro e w3 ⟨rfl, h3⟩
  have c3 := c2.trans (h3.mono c2.size)
  clear c2 h3
  go_wp2_with fail
  refine (CM.out _).mono ?_
  rintro e w4 ⟨rfl, h4⟩
  have c4 := c3.trans (h4.mono c3.size)
  clear c3 h4
  have cell : w4.cell? ⟨0, 3, none⟩ = some (.func (.func 107) #[] #[]) := (c4.cell (World.block_lt_of_cell? w _ HA.out.2.2.2.1)).trans HA.out.2.2.2.1
  have qi0 : (0 : Int) ≤ (q.size : Int) - 1 := by omega
  have qi1 : (q.size : Int) - 1 < (q.size : Int) := by omega
  go_wp2_with fail
  refine (away4 odd h _).mono ?_
  rw [haw.out]
  rintro e w5 ⟨rfl, rfl⟩
  go_wp2_with fail
  go_ret2
  exact ⟨rfl, c4⟩
set_option maxRecDepth 100000 in
set_option maxHeartbeats 1000000 in
theorem round_n3_D1 (a n d q r l : ByteArray) (h : Int) (odd : Bool) (w : World) (hv : HasV w) (hA : Away w) (PP : Hid (PartP a n d 0)) (hn : 0 < n.size) (hnm : n.size ≤ 2000) (hng : ((n[0].toNat : Int) == 45) = true)
    (DM : Hid (DmP 28 (n.extract 1 n.size) d q r 0)) (SB : Hid (OpP 29 d r l 0)) (CM : Hid (CmP 30 r l h 0)) (hq : 0 < q.size) (hqm : q.size ≤ 2000) (hod : (((q[q.size - 1].toNat : Int) - 48) % 2 == 1) = odd) (hr : (r.toList == [48]) = false) (haw : Hid (Z.awB 3 odd h = false)) (hz : (q.toList == [48]) = false) :
    Calls Tryd.prog 10 #[.string a, .int .u8 3] w fun e w' => e = .returned (.tuple #[.string (⟨#[45]⟩ ++ q), .int .i64 0]) ∧ Below w.heap.size w w' := by
  have HV := Lib.hid hv
  have HA := Lib.hid hA
  clear hv hA
  go_enter Tryd.func10, Tryd.ntmps10
  go_wp2_with fail
  refine (PP.out _ HV.out).mono ?_
  rintro e w1 ⟨rfl, h1⟩
  go_wp2_with fail
  refine (DM.out _).mono ?_
  rintro e w2 ⟨rfl, h2⟩
  have c2 := h1.trans (h2.mono h1.size)
  clear h1 h2
  go_wp2_with fail
  refine (SB.out _).mono ?_
  rintro e w3 ⟨rfl, h3⟩
  have c3 := c2.trans (h3.mono c2.size)
  clear c2 h3
  go_wp2_with fail
  refine (CM.out _).mono ?_
  rintro e w4 ⟨rfl, h4⟩
  have c4 := c3.trans (h4.mono c3.size)
  clear c3 h4
  have cell : w4.cell? ⟨0, 3, none⟩ = some (.func (.func 107) #[] #[]) := (c4.cell (World.block_lt_of_cell? w _ HA.out.2.2.2.1)).trans HA.out.2.2.2.1
  have qi0 : (0 : Int) ≤ (q.size : Int) - 1 := by omega
  have qi1 : (q.size : Int) - 1 < (q.size : Int) := by omega
  go_wp2_with fail
  refine (away4 odd h _).mono ?_
  rw [haw.out]
  rintro e w5 ⟨rfl, rfl⟩
  go_wp2_with fail
  go_ret2
  exact ⟨rfl, c4⟩
end Go.Proofs.YthafdckomhdlbaaDoor
