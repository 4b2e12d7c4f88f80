/- Q2: Qmul Qdiv Qcompare -/
import Derived.Test.YtpnojgaehafjdaaQ1
/- Walks: rational.Mul. -/

namespace Go.Proofs.Ytpnojgaehafjdaa
open Go.RowKit

set_option maxRecDepth 100000 in
set_option maxHeartbeats 16000000 in
/-- rational.Mul, where both rationals are good: by what the operations on integers answer. -/
theorem qmul_core (a b n0 n1 d0 d1 r1 r2 : ByteArray) (k1 k2 : Int) (r : ByteArray) (k : Int) (w : World) (BC : Calls Try.prog 33 #[.string a, .string b] w (BothP n0 n1 d0 d1 0 w))
    (O1 : OpC 35 n0 n1 r1 k1) (O2 : k1 = 0 → OpC 35 d0 d1 r2 k2)
    (hb1 : k1 ≠ 0 → r = ⟨#[]⟩ ∧ k = k1) (hb2 : k1 = 0 → k2 ≠ 0 → r = ⟨#[]⟩ ∧ k = k2) (hok : k1 = 0 → k2 = 0 → r1.size ≤ maxLen ∧ r2.size ≤ maxLen ∧ Z.makeS r1 r2 = r ∧ Z.makeE r1 r2 = k) :
    Calls Try.prog 20 #[.string a, .string b] w fun e w' => e = .returned (.tuple #[.string r, .int .i64 k]) ∧ Below w.heap.size w w' := by
  have HBC := Lib.hid BC
  clear BC
  have HO1 : Hid (OpC 35 n0 n1 r1 k1) := O1 
  by_cases z1 : k1 = 0
  · subst z1
    have HO2 : Hid (OpC 35 d0 d1 r2 k2) := O2 rfl
    by_cases z2 : k2 = 0
    · subst z2
      obtain ⟨s1, s2, s3, s4⟩ := hok rfl rfl
      have HM := Lib.hid (fun (B : Nat) (W : World) hp => made_ok B r1 r2 n0 n1 d0 d1 W hp s1 s2)
      unfold MakeRet at HM
      rw [s3, s4] at HM
      clear s1 s2 s3 s4 hok hb1 O1 hb2 O2
      go_enter Try.func20, Try.ntmps20
      go_wp2_with fail
      refine HBC.out.mono ?_
      rintro e w1 ⟨rfl, q, hbB, hltB⟩
      go_wp2_with fail
      refine (keep_fn w.heap.size 35 w1).mono ?_
      rintro e x1 ⟨rfl, m1, hbK1, hltK1⟩
      have hlt1 : w.heap.size < w1.heap.size := hltB
      have qk1 := q.below hbK1
      have bw1 := hbB.trans (hbK1.mono hbB.size)
      generalize hh1 : w1.heap.size = h1 at *
      have HH1 := Lib.hid hh1
      clear hh1
      unfold kv
      have c0 : x1.cell? ⟨w.heap.size, 0, none⟩ = some (.string n0) := qk1.cell 0
      have c1 : x1.cell? ⟨w.heap.size, 1, none⟩ = some (.string n1) := qk1.cell 1
      have c2 : x1.cell? ⟨w.heap.size, 2, none⟩ = some (.string d0) := qk1.cell 2
      have c3 : x1.cell? ⟨w.heap.size, 3, none⟩ = some (.string d1) := qk1.cell 3
      go_wp2_with fail
      have q0 : PB x1.drew w.heap.size n0 n1 d0 d1 0 := qk1
      have p1x : KP x1.drew w.heap.size 35 h1 := m1
      have C1 := Lib.hid (kcall_mul w.heap.size h1 n0 n1 n0 n1 d0 d1 r1 0 x1.drew q0 p1x hlt1 HO1.out)
      go_region_held3 (fun W => W.cell? ⟨w.heap.size, 0, none⟩ = some (.string n0) ∧ W.cell? ⟨w.heap.size, 1, none⟩ = some (.string n1) ∧ W.cell? ⟨w.heap.size, 2, none⟩ = some (.string d0) ∧ W.cell? ⟨w.heap.size, 3, none⟩ = some (.string d1))
        (first
          | exact ⟨q0.cell 0, q0.cell 1, q0.cell 2, q0.cell 3⟩
          | exact ⟨q1.cell 0, q1.cell 1, q1.cell 2, q1.cell 3⟩
          | exact ⟨q2.cell 0, q2.cell 1, q2.cell 2, q2.cell 3⟩
          | exact ⟨qf.cell 0, qf.cell 1, qf.cell 2, qf.cell 3⟩)
        (first
          | (go_at_call 53; (with_reducible refine C1.out.mono ?_); rintro e y1 ⟨rfl, q1, kp1, _, bl1⟩; have p1_1 := kp1 _ _ hlt1 p1x; have C2 := Lib.hid (kcall_mul w.heap.size h1 d0 d1 n0 n1 d0 d1 r2 0 y1 q1 p1_1 hlt1 HO2.out))
          | (go_at_call 53; (with_reducible refine C2.out.mono ?_); rintro e y2 ⟨rfl, q2, kp2, _, bl2⟩; have p1_2 := kp2 _ _ hlt1 p1_1; have CM := Lib.hid (HM.out w.heap.size y2 q2))
          | (go_at_call 37; (with_reducible refine CM.out.mono ?_); rintro e wf ⟨rfl, hbf⟩; have qf := q2.below hbf))
      go_wp2_with fail
      go_ret2
      have bx : Below w.heap.size w x1.drew := bw1.drew
      have bx := bx.trans bl1
      have bx := bx.trans bl2
      exact ⟨rfl, bx.trans (hbf.mono bx.size)⟩
    · have HR := Lib.hid (hb2 rfl z2)
      have hne : k2 ≠ 0 := z2
      have HNE := Lib.hid hne
      have hne := HNE.out
      clear hok z2 hb1 O1 hb2 O2
      go_enter Try.func20, Try.ntmps20
      go_wp2_with fail
      refine HBC.out.mono ?_
      rintro e w1 ⟨rfl, q, hbB, hltB⟩
      go_wp2_with fail
      refine (keep_fn w.heap.size 35 w1).mono ?_
      rintro e x1 ⟨rfl, m1, hbK1, hltK1⟩
      have hlt1 : w.heap.size < w1.heap.size := hltB
      have qk1 := q.below hbK1
      have bw1 := hbB.trans (hbK1.mono hbB.size)
      generalize hh1 : w1.heap.size = h1 at *
      have HH1 := Lib.hid hh1
      clear hh1
      unfold kv
      have c0 : x1.cell? ⟨w.heap.size, 0, none⟩ = some (.string n0) := qk1.cell 0
      have c1 : x1.cell? ⟨w.heap.size, 1, none⟩ = some (.string n1) := qk1.cell 1
      have c2 : x1.cell? ⟨w.heap.size, 2, none⟩ = some (.string d0) := qk1.cell 2
      have c3 : x1.cell? ⟨w.heap.size, 3, none⟩ = some (.string d1) := qk1.cell 3
      go_wp2_with fail
      have q0 : PB x1.drew w.heap.size n0 n1 d0 d1 0 := qk1
      have p1x : KP x1.drew w.heap.size 35 h1 := m1
      have C1 := Lib.hid (kcall_mul w.heap.size h1 n0 n1 n0 n1 d0 d1 r1 0 x1.drew q0 p1x hlt1 HO1.out)
      go_region_held3 (fun W => W.cell? ⟨w.heap.size, 0, none⟩ = some (.string n0) ∧ W.cell? ⟨w.heap.size, 1, none⟩ = some (.string n1) ∧ W.cell? ⟨w.heap.size, 2, none⟩ = some (.string d0) ∧ W.cell? ⟨w.heap.size, 3, none⟩ = some (.string d1))
        (first
          | exact ⟨q0.cell 0, q0.cell 1, q0.cell 2, q0.cell 3⟩
          | exact ⟨q1.cell 0, q1.cell 1, q1.cell 2, q1.cell 3⟩
          | exact ⟨q2.cell 0, q2.cell 1, q2.cell 2, q2.cell 3⟩
          | exact ⟨qf.cell 0, qf.cell 1, qf.cell 2, qf.cell 3⟩)
        (first
          | (go_at_call 53; (with_reducible refine C1.out.mono ?_); rintro e y1 ⟨rfl, q1, kp1, _, bl1⟩; have p1_1 := kp1 _ _ hlt1 p1x; have C2 := Lib.hid (kcall_mul w.heap.size h1 d0 d1 n0 n1 d0 d1 r2 k2 y1 q1 p1_1 hlt1 HO2.out))
          | (go_at_call 53; (with_reducible refine C2.out.mono ?_); rintro e y2 ⟨rfl, q2, kp2, _, bl2⟩; have p1_2 := kp2 _ _ hlt1 p1_1; have CM := Lib.hid (made_bad w.heap.size r1 r2 n0 n1 d0 d1 k2 y2 q2 hne))
          | (go_at_call 37; (with_reducible refine CM.out.mono ?_); rintro e wf ⟨rfl, hbf⟩; have qf := q2.below hbf))
      go_wp2_with fail
      go_ret2
      have bx : Below w.heap.size w x1.drew := bw1.drew
      have bx := bx.trans bl1
      have bx := bx.trans bl2
      obtain ⟨g1, g2⟩ := HR.out
      subst g1 g2
      exact ⟨rfl, bx.trans (hbf.mono bx.size)⟩
  · have HR := Lib.hid (hb1  z1)
    have hne : k1 ≠ 0 := z1
    have HNE := Lib.hid hne
    have hne := HNE.out
    clear hok z1 hb1 O1 hb2 O2
    go_enter Try.func20, Try.ntmps20
    go_wp2_with fail
    refine HBC.out.mono ?_
    rintro e w1 ⟨rfl, q, hbB, hltB⟩
    go_wp2_with fail
    refine (keep_fn w.heap.size 35 w1).mono ?_
    rintro e x1 ⟨rfl, m1, hbK1, hltK1⟩
    have hlt1 : w.heap.size < w1.heap.size := hltB
    have qk1 := q.below hbK1
    have bw1 := hbB.trans (hbK1.mono hbB.size)
    generalize hh1 : w1.heap.size = h1 at *
    have HH1 := Lib.hid hh1
    clear hh1
    unfold kv
    have c0 : x1.cell? ⟨w.heap.size, 0, none⟩ = some (.string n0) := qk1.cell 0
    have c1 : x1.cell? ⟨w.heap.size, 1, none⟩ = some (.string n1) := qk1.cell 1
    have c2 : x1.cell? ⟨w.heap.size, 2, none⟩ = some (.string d0) := qk1.cell 2
    have c3 : x1.cell? ⟨w.heap.size, 3, none⟩ = some (.string d1) := qk1.cell 3
    go_wp2_with fail
    have q0 : PB x1.drew w.heap.size n0 n1 d0 d1 0 := qk1
    have p1x : KP x1.drew w.heap.size 35 h1 := m1
    have C1 := Lib.hid (kcall_mul w.heap.size h1 n0 n1 n0 n1 d0 d1 r1 k1 x1.drew q0 p1x hlt1 HO1.out)
    go_region_held3 (fun W => W.cell? ⟨w.heap.size, 0, none⟩ = some (.string n0) ∧ W.cell? ⟨w.heap.size, 1, none⟩ = some (.string n1) ∧ W.cell? ⟨w.heap.size, 2, none⟩ = some (.string d0) ∧ W.cell? ⟨w.heap.size, 3, none⟩ = some (.string d1))
      (first
        | exact ⟨q0.cell 0, q0.cell 1, q0.cell 2, q0.cell 3⟩
        | exact ⟨q1.cell 0, q1.cell 1, q1.cell 2, q1.cell 3⟩
        | exact ⟨qf.cell 0, qf.cell 1, qf.cell 2, qf.cell 3⟩)
      (first
        | (go_at_call 53; (with_reducible refine C1.out.mono ?_); rintro e y1 ⟨rfl, q1, kp1, _, bl1⟩; have p1_1 := kp1 _ _ hlt1 p1x; have C2 := Lib.hid (kcall_bad w.heap.size 35 h1 d0 d1 n0 n1 d0 d1 k1 y1 q1 p1_1 hne))
        | (go_at_call 53; (with_reducible refine C2.out.mono ?_); rintro e wz ⟨rfl, rfl⟩; have CM := Lib.hid (made_bad w.heap.size r1 ⟨#[]⟩ n0 n1 d0 d1 k1 y1 q1 hne))
        | (go_at_call 37; (with_reducible refine CM.out.mono ?_); rintro e wf ⟨rfl, hbf⟩; have qf := q1.below hbf))
    go_wp2_with fail
    go_ret2
    have bx : Below w.heap.size w x1.drew := bw1.drew
    have bx := bx.trans bl1
    obtain ⟨g1, g2⟩ := HR.out
    subst g1 g2
    exact ⟨rfl, bx.trans (hbf.mono bx.size)⟩
set_option maxRecDepth 100000 in
set_option maxHeartbeats 8000000 in
theorem qmul_bad (a b : ByteArray) (k : Int) (w : World) (BC : Calls Try.prog 33 #[.string a, .string b] w (BothBad k w)) (hne : k ≠ 0) :
    Calls Try.prog 20 #[.string a, .string b] w fun e w' => e = .returned (.tuple #[.string ⟨#[]⟩, .int .i64 k]) ∧ Below w.heap.size w w' := by
  have HBC := Lib.hid BC
  clear BC
  go_enter Try.func20, Try.ntmps20
  go_wp2_with fail
  refine HBC.out.mono ?_
  rintro e w1 ⟨n0, n1, d0, d1, rfl, q, hbB, hltB⟩
  go_wp2_with fail
  refine (keep_fn w.heap.size 35 w1).mono ?_
  rintro e x1 ⟨rfl, m1, hbK1, hltK1⟩
  have hlt1 : w.heap.size < w1.heap.size := hltB
  have qk1 := q.below hbK1
  have bw1 := hbB.trans (hbK1.mono hbB.size)
  generalize hh1 : w1.heap.size = h1 at *
  have HH1 := Lib.hid hh1
  clear hh1
  unfold kv
  have c0 : x1.cell? ⟨w.heap.size, 0, none⟩ = some (.string n0) := qk1.cell 0
  have c1 : x1.cell? ⟨w.heap.size, 1, none⟩ = some (.string n1) := qk1.cell 1
  have c2 : x1.cell? ⟨w.heap.size, 2, none⟩ = some (.string d0) := qk1.cell 2
  have c3 : x1.cell? ⟨w.heap.size, 3, none⟩ = some (.string d1) := qk1.cell 3
  go_wp2_with fail
  have q0 : PB x1.drew w.heap.size n0 n1 d0 d1 k := qk1
  have p1x : KP x1.drew w.heap.size 35 h1 := m1
  have C1 := Lib.hid (kcall_bad w.heap.size 35 h1 n0 n1 n0 n1 d0 d1 k x1.drew q0 p1x hne)
  go_region_held3 (fun W => W.cell? ⟨w.heap.size, 0, none⟩ = some (.string n0) ∧ W.cell? ⟨w.heap.size, 1, none⟩ = some (.string n1) ∧ W.cell? ⟨w.heap.size, 2, none⟩ = some (.string d0) ∧ W.cell? ⟨w.heap.size, 3, none⟩ = some (.string d1))
    (first
      | exact ⟨q0.cell 0, q0.cell 1, q0.cell 2, q0.cell 3⟩
      | exact ⟨qf.cell 0, qf.cell 1, qf.cell 2, qf.cell 3⟩)
    (first
      | (go_at_call 53; (with_reducible refine C1.out.mono ?_); rintro e wz ⟨rfl, rfl⟩; have C2 := Lib.hid (kcall_bad w.heap.size 35 h1 d0 d1 n0 n1 d0 d1 k x1.drew q0 p1x hne))
      | (go_at_call 53; (with_reducible refine C2.out.mono ?_); rintro e wz ⟨rfl, rfl⟩; have CM := Lib.hid (made_bad w.heap.size ⟨#[]⟩ ⟨#[]⟩ n0 n1 d0 d1 k x1.drew q0 hne))
      | (go_at_call 37; (with_reducible refine CM.out.mono ?_); rintro e wf ⟨rfl, hbf⟩; have qf := q0.below hbf))
  go_wp2_with fail
  go_ret2
  have bx : Below w.heap.size w x1.drew := bw1.drew
  exact ⟨rfl, bx.trans (hbf.mono bx.size)⟩
end Go.Proofs.Ytpnojgaehafjdaa
/- Walks: rational.Div. -/

namespace Go.Proofs.Ytpnojgaehafjdaa
open Go.RowKit

set_option maxRecDepth 100000 in
set_option maxHeartbeats 16000000 in
/-- rational.Div, where both rationals are good: by what the operations on integers answer. -/
theorem qdiv_core (a b n0 n1 d0 d1 r1 r2 : ByteArray) (k1 k2 : Int) (r : ByteArray) (k : Int) (w : World) (BC : Calls Try.prog 33 #[.string a, .string b] w (BothP n0 n1 d0 d1 0 w))
    (O1 : OpC 35 n0 d1 r1 k1) (O2 : k1 = 0 → OpC 35 d0 n1 r2 k2)
    (hb1 : k1 ≠ 0 → r = ⟨#[]⟩ ∧ k = k1) (hb2 : k1 = 0 → k2 ≠ 0 → r = ⟨#[]⟩ ∧ k = k2) (hok : k1 = 0 → k2 = 0 → r1.size ≤ maxLen ∧ r2.size ≤ maxLen ∧ Z.makeS r1 r2 = r ∧ Z.makeE r1 r2 = k) (hz1 : (n1.toList == [48]) = false) :
    Calls Try.prog 60 #[.string a, .string b] w fun e w' => e = .returned (.tuple #[.string r, .int .i64 k]) ∧ Below w.heap.size w w' := by
  have HBC := Lib.hid BC
  clear BC
  have hzz := hz1
  clear hz1
  have HO1 : Hid (OpC 35 n0 d1 r1 k1) := O1 
  by_cases z1 : k1 = 0
  · subst z1
    have HO2 : Hid (OpC 35 d0 n1 r2 k2) := O2 rfl
    by_cases z2 : k2 = 0
    · subst z2
      obtain ⟨s1, s2, s3, s4⟩ := hok rfl rfl
      have HM := Lib.hid (fun (B : Nat) (W : World) hp => made_ok B r1 r2 n0 n1 d0 d1 W hp s1 s2)
      unfold MakeRet at HM
      rw [s3, s4] at HM
      clear s1 s2 s3 s4 hok hb1 O1 hb2 O2
      go_enter Try.func60, Try.ntmps60
      go_wp2_with fail
      refine HBC.out.mono ?_
      rintro e w1 ⟨rfl, q, hbB, hltB⟩
      have g4 : w1.cell? ⟨w.heap.size, 4, none⟩ = some (.int .i64 0) := q.cell 4
      have g1 : w1.cell? ⟨w.heap.size, 1, none⟩ = some (.string n1) := q.cell 1
      go_wp2_with fail
      refine (keep_fn w.heap.size 35 w1).mono ?_
      rintro e x1 ⟨rfl, m1, hbK1, hltK1⟩
      have hlt1 : w.heap.size < w1.heap.size := hltB
      have qk1 := q.below hbK1
      have bw1 := hbB.trans (hbK1.mono hbB.size)
      generalize hh1 : w1.heap.size = h1 at *
      have HH1 := Lib.hid hh1
      clear hh1
      unfold kv
      have c0 : x1.cell? ⟨w.heap.size, 0, none⟩ = some (.string n0) := qk1.cell 0
      have c1 : x1.cell? ⟨w.heap.size, 1, none⟩ = some (.string n1) := qk1.cell 1
      have c2 : x1.cell? ⟨w.heap.size, 2, none⟩ = some (.string d0) := qk1.cell 2
      have c3 : x1.cell? ⟨w.heap.size, 3, none⟩ = some (.string d1) := qk1.cell 3
      go_wp2_with fail
      have q0 : PB x1.drew w.heap.size n0 n1 d0 d1 0 := qk1
      have p1x : KP x1.drew w.heap.size 35 h1 := m1
      have C1 := Lib.hid (kcall_mul w.heap.size h1 n0 d1 n0 n1 d0 d1 r1 0 x1.drew q0 p1x hlt1 HO1.out)
      go_region_held3 (fun W => W.cell? ⟨w.heap.size, 0, none⟩ = some (.string n0) ∧ W.cell? ⟨w.heap.size, 1, none⟩ = some (.string n1) ∧ W.cell? ⟨w.heap.size, 2, none⟩ = some (.string d0) ∧ W.cell? ⟨w.heap.size, 3, none⟩ = some (.string d1))
        (first
          | exact ⟨q0.cell 0, q0.cell 1, q0.cell 2, q0.cell 3⟩
          | exact ⟨q1.cell 0, q1.cell 1, q1.cell 2, q1.cell 3⟩
          | exact ⟨q2.cell 0, q2.cell 1, q2.cell 2, q2.cell 3⟩
          | exact ⟨qf.cell 0, qf.cell 1, qf.cell 2, qf.cell 3⟩)
        (first
          | (go_at_call 53; (with_reducible refine C1.out.mono ?_); rintro e y1 ⟨rfl, q1, kp1, _, bl1⟩; have p1_1 := kp1 _ _ hlt1 p1x; have C2 := Lib.hid (kcall_mul w.heap.size h1 d0 n1 n0 n1 d0 d1 r2 0 y1 q1 p1_1 hlt1 HO2.out))
          | (go_at_call 53; (with_reducible refine C2.out.mono ?_); rintro e y2 ⟨rfl, q2, kp2, _, bl2⟩; have p1_2 := kp2 _ _ hlt1 p1_1; have CM := Lib.hid (HM.out w.heap.size y2 q2))
          | (go_at_call 37; (with_reducible refine CM.out.mono ?_); rintro e wf ⟨rfl, hbf⟩; have qf := q2.below hbf))
      go_wp2_with fail
      go_ret2
      have bx : Below w.heap.size w x1.drew := bw1.drew
      have bx := bx.trans bl1
      have bx := bx.trans bl2
      exact ⟨rfl, bx.trans (hbf.mono bx.size)⟩
    · have HR := Lib.hid (hb2 rfl z2)
      have hne : k2 ≠ 0 := z2
      have HNE := Lib.hid hne
      have hne := HNE.out
      clear hok z2 hb1 O1 hb2 O2
      go_enter Try.func60, Try.ntmps60
      go_wp2_with fail
      refine HBC.out.mono ?_
      rintro e w1 ⟨rfl, q, hbB, hltB⟩
      have g4 : w1.cell? ⟨w.heap.size, 4, none⟩ = some (.int .i64 0) := q.cell 4
      have g1 : w1.cell? ⟨w.heap.size, 1, none⟩ = some (.string n1) := q.cell 1
      go_wp2_with fail
      refine (keep_fn w.heap.size 35 w1).mono ?_
      rintro e x1 ⟨rfl, m1, hbK1, hltK1⟩
      have hlt1 : w.heap.size < w1.heap.size := hltB
      have qk1 := q.below hbK1
      have bw1 := hbB.trans (hbK1.mono hbB.size)
      generalize hh1 : w1.heap.size = h1 at *
      have HH1 := Lib.hid hh1
      clear hh1
      unfold kv
      have c0 : x1.cell? ⟨w.heap.size, 0, none⟩ = some (.string n0) := qk1.cell 0
      have c1 : x1.cell? ⟨w.heap.size, 1, none⟩ = some (.string n1) := qk1.cell 1
      have c2 : x1.cell? ⟨w.heap.size, 2, none⟩ = some (.string d0) := qk1.cell 2
      have c3 : x1.cell? ⟨w.heap.size, 3, none⟩ = some (.string d1) := qk1.cell 3
      go_wp2_with fail
      have q0 : PB x1.drew w.heap.size n0 n1 d0 d1 0 := qk1
      have p1x : KP x1.drew w.heap.size 35 h1 := m1
      have C1 := Lib.hid (kcall_mul w.heap.size h1 n0 d1 n0 n1 d0 d1 r1 0 x1.drew q0 p1x hlt1 HO1.out)
      go_region_held3 (fun W => W.cell? ⟨w.heap.size, 0, none⟩ = some (.string n0) ∧ W.cell? ⟨w.heap.size, 1, none⟩ = some (.string n1) ∧ W.cell? ⟨w.heap.size, 2, none⟩ = some (.string d0) ∧ W.cell? ⟨w.heap.size, 3, none⟩ = some (.string d1))
        (first
          | exact ⟨q0.cell 0, q0.cell 1, q0.cell 2, q0.cell 3⟩
          | exact ⟨q1.cell 0, q1.cell 1, q1.cell 2, q1.cell 3⟩
          | exact ⟨q2.cell 0, q2.cell 1, q2.cell 2, q2.cell 3⟩
          | exact ⟨qf.cell 0, qf.cell 1, qf.cell 2, qf.cell 3⟩)
        (first
          | (go_at_call 53; (with_reducible refine C1.out.mono ?_); rintro e y1 ⟨rfl, q1, kp1, _, bl1⟩; have p1_1 := kp1 _ _ hlt1 p1x; have C2 := Lib.hid (kcall_mul w.heap.size h1 d0 n1 n0 n1 d0 d1 r2 k2 y1 q1 p1_1 hlt1 HO2.out))
          | (go_at_call 53; (with_reducible refine C2.out.mono ?_); rintro e y2 ⟨rfl, q2, kp2, _, bl2⟩; have p1_2 := kp2 _ _ hlt1 p1_1; have CM := Lib.hid (made_bad w.heap.size r1 r2 n0 n1 d0 d1 k2 y2 q2 hne))
          | (go_at_call 37; (with_reducible refine CM.out.mono ?_); rintro e wf ⟨rfl, hbf⟩; have qf := q2.below hbf))
      go_wp2_with fail
      go_ret2
      have bx : Below w.heap.size w x1.drew := bw1.drew
      have bx := bx.trans bl1
      have bx := bx.trans bl2
      obtain ⟨g1, g2⟩ := HR.out
      subst g1 g2
      exact ⟨rfl, bx.trans (hbf.mono bx.size)⟩
  · have HR := Lib.hid (hb1  z1)
    have hne : k1 ≠ 0 := z1
    have HNE := Lib.hid hne
    have hne := HNE.out
    clear hok z1 hb1 O1 hb2 O2
    go_enter Try.func60, Try.ntmps60
    go_wp2_with fail
    refine HBC.out.mono ?_
    rintro e w1 ⟨rfl, q, hbB, hltB⟩
    have g4 : w1.cell? ⟨w.heap.size, 4, none⟩ = some (.int .i64 0) := q.cell 4
    have g1 : w1.cell? ⟨w.heap.size, 1, none⟩ = some (.string n1) := q.cell 1
    go_wp2_with fail
    refine (keep_fn w.heap.size 35 w1).mono ?_
    rintro e x1 ⟨rfl, m1, hbK1, hltK1⟩
    have hlt1 : w.heap.size < w1.heap.size := hltB
    have qk1 := q.below hbK1
    have bw1 := hbB.trans (hbK1.mono hbB.size)
    generalize hh1 : w1.heap.size = h1 at *
    have HH1 := Lib.hid hh1
    clear hh1
    unfold kv
    have c0 : x1.cell? ⟨w.heap.size, 0, none⟩ = some (.string n0) := qk1.cell 0
    have c1 : x1.cell? ⟨w.heap.size, 1, none⟩ = some (.string n1) := qk1.cell 1
    have c2 : x1.cell? ⟨w.heap.size, 2, none⟩ = some (.string d0) := qk1.cell 2
    have c3 : x1.cell? ⟨w.heap.size, 3, none⟩ = some (.string d1) := qk1.cell 3
    go_wp2_with fail
    have q0 : PB x1.drew w.heap.size n0 n1 d0 d1 0 := qk1
    have p1x : KP x1.drew w.heap.size 35 h1 := m1
    have C1 := Lib.hid (kcall_mul w.heap.size h1 n0 d1 n0 n1 d0 d1 r1 k1 x1.drew q0 p1x hlt1 HO1.out)
    go_region_held3 (fun W => W.cell? ⟨w.heap.size, 0, none⟩ = some (.string n0) ∧ W.cell? ⟨w.heap.size, 1, none⟩ = some (.string n1) ∧ W.cell? ⟨w.heap.size, 2, none⟩ = some (.string d0) ∧ W.cell? ⟨w.heap.size, 3, none⟩ = some (.string d1))
      (first
        | exact ⟨q0.cell 0, q0.cell 1, q0.cell 2, q0.cell 3⟩
        | exact ⟨q1.cell 0, q1.cell 1, q1.cell 2, q1.cell 3⟩
        | exact ⟨qf.cell 0, qf.cell 1, qf.cell 2, qf.cell 3⟩)
      (first
        | (go_at_call 53; (with_reducible refine C1.out.mono ?_); rintro e y1 ⟨rfl, q1, kp1, _, bl1⟩; have p1_1 := kp1 _ _ hlt1 p1x; have C2 := Lib.hid (kcall_bad w.heap.size 35 h1 d0 n1 n0 n1 d0 d1 k1 y1 q1 p1_1 hne))
        | (go_at_call 53; (with_reducible refine C2.out.mono ?_); rintro e wz ⟨rfl, rfl⟩; have CM := Lib.hid (made_bad w.heap.size r1 ⟨#[]⟩ n0 n1 d0 d1 k1 y1 q1 hne))
        | (go_at_call 37; (with_reducible refine CM.out.mono ?_); rintro e wf ⟨rfl, hbf⟩; have qf := q1.below hbf))
    go_wp2_with fail
    go_ret2
    have bx : Below w.heap.size w x1.drew := bw1.drew
    have bx := bx.trans bl1
    obtain ⟨g1, g2⟩ := HR.out
    subst g1 g2
    exact ⟨rfl, bx.trans (hbf.mono bx.size)⟩
set_option maxRecDepth 100000 in
set_option maxHeartbeats 8000000 in
theorem qdiv_bad (a b : ByteArray) (k : Int) (w : World) (BC : Calls Try.prog 33 #[.string a, .string b] w (BothBad k w)) (hne : k ≠ 0) :
    Calls Try.prog 60 #[.string a, .string b] w fun e w' => e = .returned (.tuple #[.string ⟨#[]⟩, .int .i64 k]) ∧ Below w.heap.size w w' := by
  have HBC := Lib.hid BC
  clear BC
  go_enter Try.func60, Try.ntmps60
  go_wp2_with fail
  refine HBC.out.mono ?_
  rintro e w1 ⟨n0, n1, d0, d1, rfl, q, hbB, hltB⟩
  have g4 : w1.cell? ⟨w.heap.size, 4, none⟩ = some (.int .i64 k) := q.cell 4
  have g1 : w1.cell? ⟨w.heap.size, 1, none⟩ = some (.string n1) := q.cell 1
  have g5 : (k == 0) = false := by simpa using hne
  go_wp2_with fail
  refine (keep_fn w.heap.size 35 w1).mono ?_
  rintro e x1 ⟨rfl, m1, hbK1, hltK1⟩
  have hlt1 : w.heap.size < w1.heap.size := hltB
  have qk1 := q.below hbK1
  have bw1 := hbB.trans (hbK1.mono hbB.size)
  generalize hh1 : w1.heap.size = h1 at *
  have HH1 := Lib.hid hh1
  clear hh1
  unfold kv
  have c0 : x1.cell? ⟨w.heap.size, 0, none⟩ = some (.string n0) := qk1.cell 0
  have c1 : x1.cell? ⟨w.heap.size, 1, none⟩ = some (.string n1) := qk1.cell 1
  have c2 : x1.cell? ⟨w.heap.size, 2, none⟩ = some (.string d0) := qk1.cell 2
  have c3 : x1.cell? ⟨w.heap.size, 3, none⟩ = some (.string d1) := qk1.cell 3
  go_wp2_with fail
  have q0 : PB x1.drew w.heap.size n0 n1 d0 d1 k := qk1
  have p1x : KP x1.drew w.heap.size 35 h1 := m1
  have C1 := Lib.hid (kcall_bad w.heap.size 35 h1 n0 d1 n0 n1 d0 d1 k x1.drew q0 p1x hne)
  go_region_held3 (fun W => W.cell? ⟨w.heap.size, 0, none⟩ = some (.string n0) ∧ W.cell? ⟨w.heap.size, 1, none⟩ = some (.string n1) ∧ W.cell? ⟨w.heap.size, 2, none⟩ = some (.string d0) ∧ W.cell? ⟨w.heap.size, 3, none⟩ = some (.string d1))
    (first
      | exact ⟨q0.cell 0, q0.cell 1, q0.cell 2, q0.cell 3⟩
      | exact ⟨qf.cell 0, qf.cell 1, qf.cell 2, qf.cell 3⟩)
    (first
      | (go_at_call 53; (with_reducible refine C1.out.mono ?_); rintro e wz ⟨rfl, rfl⟩; have C2 := Lib.hid (kcall_bad w.heap.size 35 h1 d0 n1 n0 n1 d0 d1 k x1.drew q0 p1x hne))
      | (go_at_call 53; (with_reducible refine C2.out.mono ?_); rintro e wz ⟨rfl, rfl⟩; have CM := Lib.hid (made_bad w.heap.size ⟨#[]⟩ ⟨#[]⟩ n0 n1 d0 d1 k x1.drew q0 hne))
      | (go_at_call 37; (with_reducible refine CM.out.mono ?_); rintro e wf ⟨rfl, hbf⟩; have qf := q0.below hbf))
  go_wp2_with fail
  go_ret2
  have bx : Below w.heap.size w x1.drew := bw1.drew
  exact ⟨rfl, bx.trans (hbf.mono bx.size)⟩
set_option maxRecDepth 100000 in
set_option maxHeartbeats 2000000 in
theorem qdiv_zero (a b n0 n1 d0 d1 : ByteArray) (w : World) (BC : Calls Try.prog 33 #[.string a, .string b] w (BothP n0 n1 d0 d1 0 w)) (hz1 : (n1.toList == [48]) = true) :
    Calls Try.prog 60 #[.string a, .string b] w fun e w' => e = .returned (.tuple #[.string ⟨#[]⟩, .int .i64 16]) ∧ Below w.heap.size w w' := by
  have HBC := Lib.hid BC
  clear BC
  go_enter Try.func60, Try.ntmps60
  go_wp2_with fail
  refine HBC.out.mono ?_
  rintro e w1 ⟨rfl, q, hbB, hltB⟩
  have g4 : w1.cell? ⟨w.heap.size, 4, none⟩ = some (.int .i64 0) := q.cell 4
  have g1 : w1.cell? ⟨w.heap.size, 1, none⟩ = some (.string n1) := q.cell 1
  go_wp2_with fail
  go_ret2
  exact ⟨rfl, hbB⟩
end Go.Proofs.Ytpnojgaehafjdaa
/- Walks: rational.Compare. -/

namespace Go.Proofs.Ytpnojgaehafjdaa
open Go.RowKit
end Go.Proofs.Ytpnojgaehafjdaa
