/- Walks: rational.Add. -/
import Derived.Test.YtdjghmpaopfboaaQ1
namespace Go.Proofs.Ytdjghmpaopfboaa
open Go.RowKit

set_option maxRecDepth 100000 in
set_option maxHeartbeats 16000000 in
/-- rational.Add, where both rationals are good: by what the operations on integers answer. -/
theorem qadd_core (a b n0 n1 d0 d1 r1 r2 r3 r4 : ByteArray) (k1 k2 k3 k4 : Int) (r : ByteArray) (k : Int) (w : World) (BC : Calls Try.prog 49 #[.string a, .string b] w (BothP n0 n1 d0 d1 0 w))
    (O1 : OpC 51 n0 d1 r1 k1) (O2 : k1 = 0 → OpC 51 n1 d0 r2 k2) (O3 : k1 = 0 → k2 = 0 → OpC 52 r1 r2 r3 k3) (O4 : k1 = 0 → k2 = 0 → k3 = 0 → OpC 51 d0 d1 r4 k4)
    (hb1 : k1 ≠ 0 → r = ⟨#[]⟩ ∧ k = k1) (hb2 : k1 = 0 → k2 ≠ 0 → r = ⟨#[]⟩ ∧ k = k2) (hb3 : k1 = 0 → k2 = 0 → k3 ≠ 0 → r = ⟨#[]⟩ ∧ k = k3) (hb4 : k1 = 0 → k2 = 0 → k3 = 0 → k4 ≠ 0 → r = ⟨#[]⟩ ∧ k = k4) (hok : k1 = 0 → k2 = 0 → k3 = 0 → k4 = 0 → r3.size ≤ maxLen ∧ r4.size ≤ maxLen ∧ Z.makeS r3 r4 = r ∧ Z.makeE r3 r4 = k) :
    Calls Try.prog 39 #[.string a, .string b] w fun e w' => e = .returned (.tuple #[.string r, .int .i64 k]) ∧ Below w.heap.size w w' := by
  have HBC := Lib.hid BC
  clear BC
  have HO1 : Hid (OpC 51 n0 d1 r1 k1) := O1 
  by_cases z1 : k1 = 0
  · subst z1
    have HO2 : Hid (OpC 51 n1 d0 r2 k2) := O2 rfl
    by_cases z2 : k2 = 0
    · subst z2
      have HO3 : Hid (OpC 52 r1 r2 r3 k3) := O3 rfl rfl
      by_cases z3 : k3 = 0
      · subst z3
        have HO4 : Hid (OpC 51 d0 d1 r4 k4) := O4 rfl rfl rfl
        by_cases z4 : k4 = 0
        · subst z4
          obtain ⟨s1, s2, s3, s4⟩ := hok rfl rfl rfl rfl
          have HM := Lib.hid (fun (B : Nat) (W : World) hp => made_ok B r3 r4 n0 n1 d0 d1 W hp s1 s2)
          unfold MakeRet at HM
          rw [s3, s4] at HM
          clear s1 s2 s3 s4 hok hb1 O1 hb2 O2 hb3 O3 hb4 O4
          go_enter Try.func39, Try.ntmps39
          go_wp2_with fail
          refine HBC.out.mono ?_
          rintro e w1 ⟨rfl, q, hbB, hltB⟩
          go_wp2_with fail
          refine (keep_fn w.heap.size 51 w1).mono ?_
          rintro e x1 ⟨rfl, m1, hbK1, hltK1⟩
          have hlt1 : w.heap.size < w1.heap.size := hltB
          have qk1 := q.below hbK1
          have bw1 := hbB.trans (hbK1.mono hbB.size)
          unfold kv
          go_wp2_with fail
          refine (keep_fn w.heap.size 52 x1).mono ?_
          rintro e x2 ⟨rfl, m2, hbK2, hltK2⟩
          have hlt2 : w.heap.size < x1.heap.size := by omega
          have qk2 := qk1.below hbK2
          have bw2 := bw1.trans (hbK2.mono bw1.size)
          have m1 := m1.keep hbK2
          generalize hh1 : w1.heap.size = h1 at *
          have HH1 := Lib.hid hh1
          clear hh1
          generalize hh2 : x1.heap.size = h2 at *
          have HH2 := Lib.hid hh2
          clear hh2
          unfold kv
          have c0 : x2.cell? ⟨w.heap.size, 0, none⟩ = some (.string n0) := qk2.cell 0
          have c1 : x2.cell? ⟨w.heap.size, 1, none⟩ = some (.string n1) := qk2.cell 1
          have c2 : x2.cell? ⟨w.heap.size, 2, none⟩ = some (.string d0) := qk2.cell 2
          have c3 : x2.cell? ⟨w.heap.size, 3, none⟩ = some (.string d1) := qk2.cell 3
          go_wp2_with fail
          have q0 : PB x2.drew w.heap.size n0 n1 d0 d1 0 := qk2
          have p1x : KP x2.drew w.heap.size 51 h1 := m1
          have p2x : KP x2.drew w.heap.size 52 h2 := m2
          have C1 := Lib.hid (kcall_mul w.heap.size h1 n0 d1 n0 n1 d0 d1 r1 0 x2.drew q0 p1x hlt1 HO1.out)
          go_region_held3 (fun W => W.cell? ⟨w.heap.size, 0, none⟩ = some (.string n0) ∧ W.cell? ⟨w.heap.size, 1, none⟩ = some (.string n1) ∧ W.cell? ⟨w.heap.size, 2, none⟩ = some (.string d0) ∧ W.cell? ⟨w.heap.size, 3, none⟩ = some (.string d1))
            (first
              | exact ⟨q0.cell 0, q0.cell 1, q0.cell 2, q0.cell 3⟩
              | exact ⟨q1.cell 0, q1.cell 1, q1.cell 2, q1.cell 3⟩
              | exact ⟨q2.cell 0, q2.cell 1, q2.cell 2, q2.cell 3⟩
              | exact ⟨q3.cell 0, q3.cell 1, q3.cell 2, q3.cell 3⟩
              | exact ⟨q4.cell 0, q4.cell 1, q4.cell 2, q4.cell 3⟩
              | exact ⟨qf.cell 0, qf.cell 1, qf.cell 2, qf.cell 3⟩)
            (first
              | (go_at_call 71; (with_reducible refine C1.out.mono ?_); rintro e y1 ⟨rfl, q1, kp1, _, bl1⟩; have p1_1 := kp1 _ _ hlt1 p1x; have p2_1 := kp1 _ _ hlt2 p2x; have C2 := Lib.hid (kcall_mul w.heap.size h1 n1 d0 n0 n1 d0 d1 r2 0 y1 q1 p1_1 hlt1 HO2.out))
              | (go_at_call 71; (with_reducible refine C2.out.mono ?_); rintro e y2 ⟨rfl, q2, kp2, _, bl2⟩; have p1_2 := kp2 _ _ hlt1 p1_1; have p2_2 := kp2 _ _ hlt2 p2_1; have C3 := Lib.hid (kcall_add w.heap.size h2 r1 r2 n0 n1 d0 d1 r3 0 y2 q2 p2_2 hlt2 HO3.out))
              | (go_at_call 71; (with_reducible refine C3.out.mono ?_); rintro e y3 ⟨rfl, q3, kp3, _, bl3⟩; have p1_3 := kp3 _ _ hlt1 p1_2; have p2_3 := kp3 _ _ hlt2 p2_2; have C4 := Lib.hid (kcall_mul w.heap.size h1 d0 d1 n0 n1 d0 d1 r4 0 y3 q3 p1_3 hlt1 HO4.out))
              | (go_at_call 71; (with_reducible refine C4.out.mono ?_); rintro e y4 ⟨rfl, q4, kp4, _, bl4⟩; have p1_4 := kp4 _ _ hlt1 p1_3; have p2_4 := kp4 _ _ hlt2 p2_3; have CM := Lib.hid (HM.out w.heap.size y4 q4))
              | (go_at_call 53; (with_reducible refine CM.out.mono ?_); rintro e wf ⟨rfl, hbf⟩; have qf := q4.below hbf))
          go_wp2_with fail
          go_ret2
          have bx : Below w.heap.size w x2.drew := bw2.drew
          have bx := bx.trans bl1
          have bx := bx.trans bl2
          have bx := bx.trans bl3
          have bx := bx.trans bl4
          exact ⟨rfl, bx.trans (hbf.mono bx.size)⟩
        · have HR := Lib.hid (hb4 rfl rfl rfl z4)
          have hne : k4 ≠ 0 := z4
          have HNE := Lib.hid hne
          have hne := HNE.out
          clear hok z4 hb1 O1 hb2 O2 hb3 O3 hb4 O4
          go_enter Try.func39, Try.ntmps39
          go_wp2_with fail
          refine HBC.out.mono ?_
          rintro e w1 ⟨rfl, q, hbB, hltB⟩
          go_wp2_with fail
          refine (keep_fn w.heap.size 51 w1).mono ?_
          rintro e x1 ⟨rfl, m1, hbK1, hltK1⟩
          have hlt1 : w.heap.size < w1.heap.size := hltB
          have qk1 := q.below hbK1
          have bw1 := hbB.trans (hbK1.mono hbB.size)
          unfold kv
          go_wp2_with fail
          refine (keep_fn w.heap.size 52 x1).mono ?_
          rintro e x2 ⟨rfl, m2, hbK2, hltK2⟩
          have hlt2 : w.heap.size < x1.heap.size := by omega
          have qk2 := qk1.below hbK2
          have bw2 := bw1.trans (hbK2.mono bw1.size)
          have m1 := m1.keep hbK2
          generalize hh1 : w1.heap.size = h1 at *
          have HH1 := Lib.hid hh1
          clear hh1
          generalize hh2 : x1.heap.size = h2 at *
          have HH2 := Lib.hid hh2
          clear hh2
          unfold kv
          have c0 : x2.cell? ⟨w.heap.size, 0, none⟩ = some (.string n0) := qk2.cell 0
          have c1 : x2.cell? ⟨w.heap.size, 1, none⟩ = some (.string n1) := qk2.cell 1
          have c2 : x2.cell? ⟨w.heap.size, 2, none⟩ = some (.string d0) := qk2.cell 2
          have c3 : x2.cell? ⟨w.heap.size, 3, none⟩ = some (.string d1) := qk2.cell 3
          go_wp2_with fail
          have q0 : PB x2.drew w.heap.size n0 n1 d0 d1 0 := qk2
          have p1x : KP x2.drew w.heap.size 51 h1 := m1
          have p2x : KP x2.drew w.heap.size 52 h2 := m2
          have C1 := Lib.hid (kcall_mul w.heap.size h1 n0 d1 n0 n1 d0 d1 r1 0 x2.drew q0 p1x hlt1 HO1.out)
          go_region_held3 (fun W => W.cell? ⟨w.heap.size, 0, none⟩ = some (.string n0) ∧ W.cell? ⟨w.heap.size, 1, none⟩ = some (.string n1) ∧ W.cell? ⟨w.heap.size, 2, none⟩ = some (.string d0) ∧ W.cell? ⟨w.heap.size, 3, none⟩ = some (.string d1))
            (first
              | exact ⟨q0.cell 0, q0.cell 1, q0.cell 2, q0.cell 3⟩
              | exact ⟨q1.cell 0, q1.cell 1, q1.cell 2, q1.cell 3⟩
              | exact ⟨q2.cell 0, q2.cell 1, q2.cell 2, q2.cell 3⟩
              | exact ⟨q3.cell 0, q3.cell 1, q3.cell 2, q3.cell 3⟩
              | exact ⟨q4.cell 0, q4.cell 1, q4.cell 2, q4.cell 3⟩
              | exact ⟨qf.cell 0, qf.cell 1, qf.cell 2, qf.cell 3⟩)
            (first
              | (go_at_call 71; (with_reducible refine C1.out.mono ?_); rintro e y1 ⟨rfl, q1, kp1, _, bl1⟩; have p1_1 := kp1 _ _ hlt1 p1x; have p2_1 := kp1 _ _ hlt2 p2x; have C2 := Lib.hid (kcall_mul w.heap.size h1 n1 d0 n0 n1 d0 d1 r2 0 y1 q1 p1_1 hlt1 HO2.out))
              | (go_at_call 71; (with_reducible refine C2.out.mono ?_); rintro e y2 ⟨rfl, q2, kp2, _, bl2⟩; have p1_2 := kp2 _ _ hlt1 p1_1; have p2_2 := kp2 _ _ hlt2 p2_1; have C3 := Lib.hid (kcall_add w.heap.size h2 r1 r2 n0 n1 d0 d1 r3 0 y2 q2 p2_2 hlt2 HO3.out))
              | (go_at_call 71; (with_reducible refine C3.out.mono ?_); rintro e y3 ⟨rfl, q3, kp3, _, bl3⟩; have p1_3 := kp3 _ _ hlt1 p1_2; have p2_3 := kp3 _ _ hlt2 p2_2; have C4 := Lib.hid (kcall_mul w.heap.size h1 d0 d1 n0 n1 d0 d1 r4 k4 y3 q3 p1_3 hlt1 HO4.out))
              | (go_at_call 71; (with_reducible refine C4.out.mono ?_); rintro e y4 ⟨rfl, q4, kp4, _, bl4⟩; have p1_4 := kp4 _ _ hlt1 p1_3; have p2_4 := kp4 _ _ hlt2 p2_3; have CM := Lib.hid (made_bad w.heap.size r3 r4 n0 n1 d0 d1 k4 y4 q4 hne))
              | (go_at_call 53; (with_reducible refine CM.out.mono ?_); rintro e wf ⟨rfl, hbf⟩; have qf := q4.below hbf))
          go_wp2_with fail
          go_ret2
          have bx : Below w.heap.size w x2.drew := bw2.drew
          have bx := bx.trans bl1
          have bx := bx.trans bl2
          have bx := bx.trans bl3
          have bx := bx.trans bl4
          obtain ⟨g1, g2⟩ := HR.out
          subst g1 g2
          exact ⟨rfl, bx.trans (hbf.mono bx.size)⟩
      · have HR := Lib.hid (hb3 rfl rfl z3)
        have hne : k3 ≠ 0 := z3
        have HNE := Lib.hid hne
        have hne := HNE.out
        clear hok z3 hb1 O1 hb2 O2 hb3 O3 hb4 O4
        go_enter Try.func39, Try.ntmps39
        go_wp2_with fail
        refine HBC.out.mono ?_
        rintro e w1 ⟨rfl, q, hbB, hltB⟩
        go_wp2_with fail
        refine (keep_fn w.heap.size 51 w1).mono ?_
        rintro e x1 ⟨rfl, m1, hbK1, hltK1⟩
        have hlt1 : w.heap.size < w1.heap.size := hltB
        have qk1 := q.below hbK1
        have bw1 := hbB.trans (hbK1.mono hbB.size)
        unfold kv
        go_wp2_with fail
        refine (keep_fn w.heap.size 52 x1).mono ?_
        rintro e x2 ⟨rfl, m2, hbK2, hltK2⟩
        have hlt2 : w.heap.size < x1.heap.size := by omega
        have qk2 := qk1.below hbK2
        have bw2 := bw1.trans (hbK2.mono bw1.size)
        have m1 := m1.keep hbK2
        generalize hh1 : w1.heap.size = h1 at *
        have HH1 := Lib.hid hh1
        clear hh1
        generalize hh2 : x1.heap.size = h2 at *
        have HH2 := Lib.hid hh2
        clear hh2
        unfold kv
        have c0 : x2.cell? ⟨w.heap.size, 0, none⟩ = some (.string n0) := qk2.cell 0
        have c1 : x2.cell? ⟨w.heap.size, 1, none⟩ = some (.string n1) := qk2.cell 1
        have c2 : x2.cell? ⟨w.heap.size, 2, none⟩ = some (.string d0) := qk2.cell 2
        have c3 : x2.cell? ⟨w.heap.size, 3, none⟩ = some (.string d1) := qk2.cell 3
        go_wp2_with fail
        have q0 : PB x2.drew w.heap.size n0 n1 d0 d1 0 := qk2
        have p1x : KP x2.drew w.heap.size 51 h1 := m1
        have p2x : KP x2.drew w.heap.size 52 h2 := m2
        have C1 := Lib.hid (kcall_mul w.heap.size h1 n0 d1 n0 n1 d0 d1 r1 0 x2.drew q0 p1x hlt1 HO1.out)
        go_region_held3 (fun W => W.cell? ⟨w.heap.size, 0, none⟩ = some (.string n0) ∧ W.cell? ⟨w.heap.size, 1, none⟩ = some (.string n1) ∧ W.cell? ⟨w.heap.size, 2, none⟩ = some (.string d0) ∧ W.cell? ⟨w.heap.size, 3, none⟩ = some (.string d1))
          (first
            | exact ⟨q0.cell 0, q0.cell 1, q0.cell 2, q0.cell 3⟩
            | exact ⟨q1.cell 0, q1.cell 1, q1.cell 2, q1.cell 3⟩
            | exact ⟨q2.cell 0, q2.cell 1, q2.cell 2, q2.cell 3⟩
            | exact ⟨q3.cell 0, q3.cell 1, q3.cell 2, q3.cell 3⟩
            | exact ⟨qf.cell 0, qf.cell 1, qf.cell 2, qf.cell 3⟩)
          (first
            | (go_at_call 71; (with_reducible refine C1.out.mono ?_); rintro e y1 ⟨rfl, q1, kp1, _, bl1⟩; have p1_1 := kp1 _ _ hlt1 p1x; have p2_1 := kp1 _ _ hlt2 p2x; have C2 := Lib.hid (kcall_mul w.heap.size h1 n1 d0 n0 n1 d0 d1 r2 0 y1 q1 p1_1 hlt1 HO2.out))
            | (go_at_call 71; (with_reducible refine C2.out.mono ?_); rintro e y2 ⟨rfl, q2, kp2, _, bl2⟩; have p1_2 := kp2 _ _ hlt1 p1_1; have p2_2 := kp2 _ _ hlt2 p2_1; have C3 := Lib.hid (kcall_add w.heap.size h2 r1 r2 n0 n1 d0 d1 r3 k3 y2 q2 p2_2 hlt2 HO3.out))
            | (go_at_call 71; (with_reducible refine C3.out.mono ?_); rintro e y3 ⟨rfl, q3, kp3, _, bl3⟩; have p1_3 := kp3 _ _ hlt1 p1_2; have p2_3 := kp3 _ _ hlt2 p2_2; have C4 := Lib.hid (kcall_bad w.heap.size 51 h1 d0 d1 n0 n1 d0 d1 k3 y3 q3 p1_3 hne))
            | (go_at_call 71; (with_reducible refine C4.out.mono ?_); rintro e wz ⟨rfl, rfl⟩; have CM := Lib.hid (made_bad w.heap.size r3 ⟨#[]⟩ n0 n1 d0 d1 k3 y3 q3 hne))
            | (go_at_call 53; (with_reducible refine CM.out.mono ?_); rintro e wf ⟨rfl, hbf⟩; have qf := q3.below hbf))
        go_wp2_with fail
        go_ret2
        have bx : Below w.heap.size w x2.drew := bw2.drew
        have bx := bx.trans bl1
        have bx := bx.trans bl2
        have bx := bx.trans bl3
        obtain ⟨g1, g2⟩ := HR.out
        subst g1 g2
        exact ⟨rfl, bx.trans (hbf.mono bx.size)⟩
    · have HR := Lib.hid (hb2 rfl z2)
      have hne : k2 ≠ 0 := z2
      have HNE := Lib.hid hne
      have hne := HNE.out
      clear hok z2 hb1 O1 hb2 O2 hb3 O3 hb4 O4
      go_enter Try.func39, Try.ntmps39
      go_wp2_with fail
      refine HBC.out.mono ?_
      rintro e w1 ⟨rfl, q, hbB, hltB⟩
      go_wp2_with fail
      refine (keep_fn w.heap.size 51 w1).mono ?_
      rintro e x1 ⟨rfl, m1, hbK1, hltK1⟩
      have hlt1 : w.heap.size < w1.heap.size := hltB
      have qk1 := q.below hbK1
      have bw1 := hbB.trans (hbK1.mono hbB.size)
      unfold kv
      go_wp2_with fail
      refine (keep_fn w.heap.size 52 x1).mono ?_
      rintro e x2 ⟨rfl, m2, hbK2, hltK2⟩
      have hlt2 : w.heap.size < x1.heap.size := by omega
      have qk2 := qk1.below hbK2
      have bw2 := bw1.trans (hbK2.mono bw1.size)
      have m1 := m1.keep hbK2
      generalize hh1 : w1.heap.size = h1 at *
      have HH1 := Lib.hid hh1
      clear hh1
      generalize hh2 : x1.heap.size = h2 at *
      have HH2 := Lib.hid hh2
      clear hh2
      unfold kv
      have c0 : x2.cell? ⟨w.heap.size, 0, none⟩ = some (.string n0) := qk2.cell 0
      have c1 : x2.cell? ⟨w.heap.size, 1, none⟩ = some (.string n1) := qk2.cell 1
      have c2 : x2.cell? ⟨w.heap.size, 2, none⟩ = some (.string d0) := qk2.cell 2
      have c3 : x2.cell? ⟨w.heap.size, 3, none⟩ = some (.string d1) := qk2.cell 3
      go_wp2_with fail
      have q0 : PB x2.drew w.heap.size n0 n1 d0 d1 0 := qk2
      have p1x : KP x2.drew w.heap.size 51 h1 := m1
      have p2x : KP x2.drew w.heap.size 52 h2 := m2
      have C1 := Lib.hid (kcall_mul w.heap.size h1 n0 d1 n0 n1 d0 d1 r1 0 x2.drew q0 p1x hlt1 HO1.out)
      go_region_held3 (fun W => W.cell? ⟨w.heap.size, 0, none⟩ = some (.string n0) ∧ W.cell? ⟨w.heap.size, 1, none⟩ = some (.string n1) ∧ W.cell? ⟨w.heap.size, 2, none⟩ = some (.string d0) ∧ W.cell? ⟨w.heap.size, 3, none⟩ = some (.string d1))
        (first
          | exact ⟨q0.cell 0, q0.cell 1, q0.cell 2, q0.cell 3⟩
          | exact ⟨q1.cell 0, q1.cell 1, q1.cell 2, q1.cell 3⟩
          | exact ⟨q2.cell 0, q2.cell 1, q2.cell 2, q2.cell 3⟩
          | exact ⟨qf.cell 0, qf.cell 1, qf.cell 2, qf.cell 3⟩)
        (first
          | (go_at_call 71; (with_reducible refine C1.out.mono ?_); rintro e y1 ⟨rfl, q1, kp1, _, bl1⟩; have p1_1 := kp1 _ _ hlt1 p1x; have p2_1 := kp1 _ _ hlt2 p2x; have C2 := Lib.hid (kcall_mul w.heap.size h1 n1 d0 n0 n1 d0 d1 r2 k2 y1 q1 p1_1 hlt1 HO2.out))
          | (go_at_call 71; (with_reducible refine C2.out.mono ?_); rintro e y2 ⟨rfl, q2, kp2, _, bl2⟩; have p1_2 := kp2 _ _ hlt1 p1_1; have p2_2 := kp2 _ _ hlt2 p2_1; have C3 := Lib.hid (kcall_bad w.heap.size 52 h2 r1 r2 n0 n1 d0 d1 k2 y2 q2 p2_2 hne))
          | (go_at_call 71; (with_reducible refine C3.out.mono ?_); rintro e wz ⟨rfl, rfl⟩; have C4 := Lib.hid (kcall_bad w.heap.size 51 h1 d0 d1 n0 n1 d0 d1 k2 y2 q2 p1_2 hne))
          | (go_at_call 71; (with_reducible refine C4.out.mono ?_); rintro e wz ⟨rfl, rfl⟩; have CM := Lib.hid (made_bad w.heap.size ⟨#[]⟩ ⟨#[]⟩ n0 n1 d0 d1 k2 y2 q2 hne))
          | (go_at_call 53; (with_reducible refine CM.out.mono ?_); rintro e wf ⟨rfl, hbf⟩; have qf := q2.below hbf))
      go_wp2_with fail
      go_ret2
      have bx : Below w.heap.size w x2.drew := bw2.drew
      have bx := bx.trans bl1
      have bx := bx.trans bl2
      obtain ⟨g1, g2⟩ := HR.out
      subst g1 g2
      exact ⟨rfl, bx.trans (hbf.mono bx.size)⟩
  · have HR := Lib.hid (hb1  z1)
    have hne : k1 ≠ 0 := z1
    have HNE := Lib.hid hne
    have hne := HNE.out
    clear hok z1 hb1 O1 hb2 O2 hb3 O3 hb4 O4
    go_enter Try.func39, Try.ntmps39
    go_wp2_with fail
    refine HBC.out.mono ?_
    rintro e w1 ⟨rfl, q, hbB, hltB⟩
    go_wp2_with fail
    refine (keep_fn w.heap.size 51 w1).mono ?_
    rintro e x1 ⟨rfl, m1, hbK1, hltK1⟩
    have hlt1 : w.heap.size < w1.heap.size := hltB
    have qk1 := q.below hbK1
    have bw1 := hbB.trans (hbK1.mono hbB.size)
    unfold kv
    go_wp2_with fail
    refine (keep_fn w.heap.size 52 x1).mono ?_
    rintro e x2 ⟨rfl, m2, hbK2, hltK2⟩
    have hlt2 : w.heap.size < x1.heap.size := by omega
    have qk2 := qk1.below hbK2
    have bw2 := bw1.trans (hbK2.mono bw1.size)
    have m1 := m1.keep hbK2
    generalize hh1 : w1.heap.size = h1 at *
    have HH1 := Lib.hid hh1
    clear hh1
    generalize hh2 : x1.heap.size = h2 at *
    have HH2 := Lib.hid hh2
    clear hh2
    unfold kv
    have c0 : x2.cell? ⟨w.heap.size, 0, none⟩ = some (.string n0) := qk2.cell 0
    have c1 : x2.cell? ⟨w.heap.size, 1, none⟩ = some (.string n1) := qk2.cell 1
    have c2 : x2.cell? ⟨w.heap.size, 2, none⟩ = some (.string d0) := qk2.cell 2
    have c3 : x2.cell? ⟨w.heap.size, 3, none⟩ = some (.string d1) := qk2.cell 3
    go_wp2_with fail
    have q0 : PB x2.drew w.heap.size n0 n1 d0 d1 0 := qk2
    have p1x : KP x2.drew w.heap.size 51 h1 := m1
    have p2x : KP x2.drew w.heap.size 52 h2 := m2
    have C1 := Lib.hid (kcall_mul w.heap.size h1 n0 d1 n0 n1 d0 d1 r1 k1 x2.drew q0 p1x hlt1 HO1.out)
    go_region_held3 (fun W => W.cell? ⟨w.heap.size, 0, none⟩ = some (.string n0) ∧ W.cell? ⟨w.heap.size, 1, none⟩ = some (.string n1) ∧ W.cell? ⟨w.heap.size, 2, none⟩ = some (.string d0) ∧ W.cell? ⟨w.heap.size, 3, none⟩ = some (.string d1))
      (first
        | exact ⟨q0.cell 0, q0.cell 1, q0.cell 2, q0.cell 3⟩
        | exact ⟨q1.cell 0, q1.cell 1, q1.cell 2, q1.cell 3⟩
        | exact ⟨qf.cell 0, qf.cell 1, qf.cell 2, qf.cell 3⟩)
      (first
        | (go_at_call 71; (with_reducible refine C1.out.mono ?_); rintro e y1 ⟨rfl, q1, kp1, _, bl1⟩; have p1_1 := kp1 _ _ hlt1 p1x; have p2_1 := kp1 _ _ hlt2 p2x; have C2 := Lib.hid (kcall_bad w.heap.size 51 h1 n1 d0 n0 n1 d0 d1 k1 y1 q1 p1_1 hne))
        | (go_at_call 71; (with_reducible refine C2.out.mono ?_); rintro e wz ⟨rfl, rfl⟩; have C3 := Lib.hid (kcall_bad w.heap.size 52 h2 r1 ⟨#[]⟩ n0 n1 d0 d1 k1 y1 q1 p2_1 hne))
        | (go_at_call 71; (with_reducible refine C3.out.mono ?_); rintro e wz ⟨rfl, rfl⟩; have C4 := Lib.hid (kcall_bad w.heap.size 51 h1 d0 d1 n0 n1 d0 d1 k1 y1 q1 p1_1 hne))
        | (go_at_call 71; (with_reducible refine C4.out.mono ?_); rintro e wz ⟨rfl, rfl⟩; have CM := Lib.hid (made_bad w.heap.size ⟨#[]⟩ ⟨#[]⟩ n0 n1 d0 d1 k1 y1 q1 hne))
        | (go_at_call 53; (with_reducible refine CM.out.mono ?_); rintro e wf ⟨rfl, hbf⟩; have qf := q1.below hbf))
    go_wp2_with fail
    go_ret2
    have bx : Below w.heap.size w x2.drew := bw2.drew
    have bx := bx.trans bl1
    obtain ⟨g1, g2⟩ := HR.out
    subst g1 g2
    exact ⟨rfl, bx.trans (hbf.mono bx.size)⟩
set_option maxRecDepth 100000 in
set_option maxHeartbeats 8000000 in
theorem qadd_bad (a b : ByteArray) (k : Int) (w : World) (BC : Calls Try.prog 49 #[.string a, .string b] w (BothBad k w)) (hne : k ≠ 0) :
    Calls Try.prog 39 #[.string a, .string b] w fun e w' => e = .returned (.tuple #[.string ⟨#[]⟩, .int .i64 k]) ∧ Below w.heap.size w w' := by
  have HBC := Lib.hid BC
  clear BC
  go_enter Try.func39, Try.ntmps39
  go_wp2_with fail
  refine HBC.out.mono ?_
  rintro e w1 ⟨n0, n1, d0, d1, rfl, q, hbB, hltB⟩
  go_wp2_with fail
  refine (keep_fn w.heap.size 51 w1).mono ?_
  rintro e x1 ⟨rfl, m1, hbK1, hltK1⟩
  have hlt1 : w.heap.size < w1.heap.size := hltB
  have qk1 := q.below hbK1
  have bw1 := hbB.trans (hbK1.mono hbB.size)
  unfold kv
  go_wp2_with fail
  refine (keep_fn w.heap.size 52 x1).mono ?_
  rintro e x2 ⟨rfl, m2, hbK2, hltK2⟩
  have hlt2 : w.heap.size < x1.heap.size := by omega
  have qk2 := qk1.below hbK2
  have bw2 := bw1.trans (hbK2.mono bw1.size)
  have m1 := m1.keep hbK2
  generalize hh1 : w1.heap.size = h1 at *
  have HH1 := Lib.hid hh1
  clear hh1
  generalize hh2 : x1.heap.size = h2 at *
  have HH2 := Lib.hid hh2
  clear hh2
  unfold kv
  have c0 : x2.cell? ⟨w.heap.size, 0, none⟩ = some (.string n0) := qk2.cell 0
  have c1 : x2.cell? ⟨w.heap.size, 1, none⟩ = some (.string n1) := qk2.cell 1
  have c2 : x2.cell? ⟨w.heap.size, 2, none⟩ = some (.string d0) := qk2.cell 2
  have c3 : x2.cell? ⟨w.heap.size, 3, none⟩ = some (.string d1) := qk2.cell 3
  go_wp2_with fail
  have q0 : PB x2.drew w.heap.size n0 n1 d0 d1 k := qk2
  have p1x : KP x2.drew w.heap.size 51 h1 := m1
  have p2x : KP x2.drew w.heap.size 52 h2 := m2
  have C1 := Lib.hid (kcall_bad w.heap.size 51 h1 n0 d1 n0 n1 d0 d1 k x2.drew q0 p1x hne)
  go_region_held3 (fun W => W.cell? ⟨w.heap.size, 0, none⟩ = some (.string n0) ∧ W.cell? ⟨w.heap.size, 1, none⟩ = some (.string n1) ∧ W.cell? ⟨w.heap.size, 2, none⟩ = some (.string d0) ∧ W.cell? ⟨w.heap.size, 3, none⟩ = some (.string d1))
    (first
      | exact ⟨q0.cell 0, q0.cell 1, q0.cell 2, q0.cell 3⟩
      | exact ⟨qf.cell 0, qf.cell 1, qf.cell 2, qf.cell 3⟩)
    (first
      | (go_at_call 71; (with_reducible refine C1.out.mono ?_); rintro e wz ⟨rfl, rfl⟩; have C2 := Lib.hid (kcall_bad w.heap.size 51 h1 n1 d0 n0 n1 d0 d1 k x2.drew q0 p1x hne))
      | (go_at_call 71; (with_reducible refine C2.out.mono ?_); rintro e wz ⟨rfl, rfl⟩; have C3 := Lib.hid (kcall_bad w.heap.size 52 h2 ⟨#[]⟩ ⟨#[]⟩ n0 n1 d0 d1 k x2.drew q0 p2x hne))
      | (go_at_call 71; (with_reducible refine C3.out.mono ?_); rintro e wz ⟨rfl, rfl⟩; have C4 := Lib.hid (kcall_bad w.heap.size 51 h1 d0 d1 n0 n1 d0 d1 k x2.drew q0 p1x hne))
      | (go_at_call 71; (with_reducible refine C4.out.mono ?_); rintro e wz ⟨rfl, rfl⟩; have CM := Lib.hid (made_bad w.heap.size ⟨#[]⟩ ⟨#[]⟩ n0 n1 d0 d1 k x2.drew q0 hne))
      | (go_at_call 53; (with_reducible refine CM.out.mono ?_); rintro e wf ⟨rfl, hbf⟩; have qf := q0.below hbf))
  go_wp2_with fail
  go_ret2
  have bx : Below w.heap.size w x2.drew := bw2.drew
  exact ⟨rfl, bx.trans (hbf.mono bx.size)⟩
end Go.Proofs.Ytdjghmpaopfboaa
