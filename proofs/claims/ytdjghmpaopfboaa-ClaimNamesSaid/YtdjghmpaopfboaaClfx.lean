/- The effects of Update's third loop, over any frame. -/
import Derived.Test.YtdjghmpaopfboaaClclone
import Derived.Great.Frames
namespace Go.Proofs.Ytdjghmpaopfboaa
open Go.RowKit
theorem ev_eq (a : Act) (n : Nat) : a.eval (.tmp n) = a.tmps[n]?.getD undef := by simp [Act.eval]
theorem fx37 {ops : Array Oper} {C : World → Prop} {R : Act → World → Prop} {o1 o2 o3 o4 o5 o6 : Oper} {a : Act} {W : World} {ob D wx mm n3 c3 : Nat} {A3 : Option Addr} {en : Int} {x : Z.Fl} {out : List Z.Cl} {X : Array Value}
    (g1 : o1.guard = none) (g2 : o2.guard = none) (g3 : o3.guard = none) (g4 : o4.guard = none) (g5 : o5.guard = none) (g6 : o6.guard = none)
    (p1 : o1.op = .call { callee := .value (.func 34), args := #[.tmp 158], argTypes := #[36] }) (d1 : o1.dst = some 159)
    (p2 : o2.op = .build 38 #[(0, .tmp 153), (1, .tmp 155), (2, .tmp 156), (3, .tmp 159)]) (d2 : o2.dst = some 160)
    (p3 : o3.op = .buildSlice 22 1 #[(0, .tmp 160)]) (d3 : o3.dst = some 161)
    (p4 : o4.op = .call { callee := .builtin .append, args := #[.tmp 149, .tmp 161], argTypes := #[22, 22] }) (d4 : o4.dst = some 162)
    (p5 : o5.op = .fieldAddr 24 (.tmp 22) 0) (d5 : o5.dst = some 163)
    (p6 : o6.op = .store 22 (.tmp 163) (.tmp 162)) (d6 : o6.dst = none)
    (hs : 190 ≤ a.tmps.size) (e22 : a.eval (.tmp 22) = .pointer (some ⟨ob, 0, none⟩)) (e149 : a.eval (.tmp 149) = .slice A3 n3 c3) (e153 : a.eval (.tmp 153) = .int .i64 ((n3 : Int) + 1))
    (e155 : a.eval (.tmp 155) = .int .i64 (mm : Int)) (e156 : a.eval (.tmp 156) = .int .i64 en) (e158 : a.eval (.tmp 158) = .agg #[.int .i64 x.d, .string x.f, .string x.t, .string x.c, .string x.a])
    (hC : ∀ w', Blk w' ob 24 #[.slice A3 n3 c3] → Blk w' wx 38 X → C w') (hq : Blk W ob 24 #[.slice A3 n3 c3]) (hx : Blk W wx 38 X)
    (hown : OC W D (.slice A3 n3 c3) out) (hnb : out.length ≤ 20000) (hD : D ≤ W.heap.size) (hne : some wx ≠ (Value.slice A3 n3 c3).ownBlock)
    (h : ∀ (A' : Option Addr) (m' c' : Nat) (w9 w12 : World) (v1 v2 v3 v4 v5 : Value), Below W.heap.size W w9 → OC w9 D (.slice A3 n3 c3) out → OC w12 D (.slice A' m' c') (out ++ [⟨(n3 : Int) + 1, (mm : Int), en, Z.opp x⟩]) → m' = out.length + 1 → Below D w9 w12 → w9.grownBy w12 (Value.slice A3 n3 c3).ownBlock →
      Blk w12 ob 24 #[.slice A3 n3 c3] → R (((((a.put (some 159) v1).put (some 160) v2).put (some 161) v3).put (some 162) v4).put (some 163) v5) (w12.setCell ⟨ob, 0, none⟩ (.slice A' m' c'))) :
    fxList Try.prog ops C 15 R [o1, o2, o3, o4, o5, o6] 11 a W.drew := by
  refine fx_enter (f := 34) (args := #[.agg #[.int .i64 x.d, .string x.f, .string x.t, .string x.c, .string x.a]]) (w' := W.drew) g1 ?_ ?_
  · have e := e158
    rw [ev_eq] at e
    simp [execOp, p1, go_sem, e]
  refine (opposite_any x W.drew).mono ?_
  rintro e w9 ⟨rfl, hb9⟩
  have hb9' : Below W.heap.size W w9 := (Below.refl _ W).drew.trans hb9
  have q9 := hq.below hb9'
  have x9 := hx.below hb9'
  have o9 := OL.below hown hb9'
  refine ⟨_, rfl, fun _ => hC _ q9 x9, ?_⟩
  rw [d1]
  generalize ha1 : a.put (some 159) (.agg #[.int .i64 x.d, .string x.t, .string x.f, .string x.c, .string x.a]) = a1
  have s1 : 190 ≤ a1.tmps.size := by rw [← ha1]; simpa [Act.put] using hs
  have f159 : a1.eval (.tmp 159) = .agg #[.int .i64 x.d, .string x.t, .string x.f, .string x.c, .string x.a] := by rw [← ha1]; exact Act.eval_put_same _ _ _ (by omega)
  have f153 : a1.eval (.tmp 153) = .int .i64 ((n3 : Int) + 1) := by rw [← ha1, Act.eval_put_ne _ _ _ _ (by decide)]; exact e153
  have f155 : a1.eval (.tmp 155) = .int .i64 (mm : Int) := by rw [← ha1, Act.eval_put_ne _ _ _ _ (by decide)]; exact e155
  have f156 : a1.eval (.tmp 156) = .int .i64 en := by rw [← ha1, Act.eval_put_ne _ _ _ _ (by decide)]; exact e156
  have f149 : a1.eval (.tmp 149) = .slice A3 n3 c3 := by rw [← ha1, Act.eval_put_ne _ _ _ _ (by decide)]; exact e149
  have f22 : a1.eval (.tmp 22) = .pointer (some ⟨ob, 0, none⟩) := by rw [← ha1, Act.eval_put_ne _ _ _ _ (by decide)]; exact e22
  refine fx_value (u := .agg #[.int .i64 ((n3 : Int) + 1), .int .i64 (mm : Int), .int .i64 en, .int .i64 x.d, .string x.t, .string x.f, .string x.c, .string x.a]) (w' := w9) g2 ?_ (fun _ => hC _ q9 x9) ?_
  · rw [ev_eq] at f153 f155 f156 f159
    simp [execOp, p2, go_sem, f153, f155, f156, f159]
  rw [d2]
  generalize ha2 : a1.put (some 160) (.agg #[.int .i64 ((n3 : Int) + 1), .int .i64 (mm : Int), .int .i64 en, .int .i64 x.d, .string x.t, .string x.f, .string x.c, .string x.a]) = a2
  have s2 : 190 ≤ a2.tmps.size := by rw [← ha2]; simpa [Act.put] using s1
  have f160 : a2.eval (.tmp 160) = .agg #[.int .i64 ((n3 : Int) + 1), .int .i64 (mm : Int), .int .i64 en, .int .i64 x.d, .string x.t, .string x.f, .string x.c, .string x.a] := by rw [← ha2]; exact Act.eval_put_same _ _ _ (by omega)
  have k149 : a2.eval (.tmp 149) = .slice A3 n3 c3 := by rw [← ha2, Act.eval_put_ne _ _ _ _ (by decide)]; exact f149
  have k22 : a2.eval (.tmp 22) = .pointer (some ⟨ob, 0, none⟩) := by rw [← ha2, Act.eval_put_ne _ _ _ _ (by decide)]; exact f22
  have hb10 := (Below.refl _ w9).alloc (Nat.le_refl w9.heap.size) (.cells #[.int .i64 ((n3 : Int) + 1), .int .i64 (mm : Int), .int .i64 en, .int .i64 x.d, .string x.t, .string x.f, .string x.c, .string x.a] 38)
  refine fx_value (u := .slice (some ⟨w9.heap.size, 0, none⟩) 1 1) (w' := w9.alloc (.cells #[.int .i64 ((n3 : Int) + 1), .int .i64 (mm : Int), .int .i64 en, .int .i64 x.d, .string x.t, .string x.f, .string x.c, .string x.a] 38)) g3 ?_ (fun _ => hC _ (q9.below hb10) (x9.below hb10)) ?_
  · rw [ev_eq] at f160
    simp [execOp, p3, go_sem, f160]
  rw [d3]
  generalize ha3 : a2.put (some 161) (.slice (some ⟨w9.heap.size, 0, none⟩) 1 1) = a3
  have s3 : 190 ≤ a3.tmps.size := by rw [← ha3]; simpa [Act.put] using s2
  have l161 : a3.eval (.tmp 161) = .slice (some ⟨w9.heap.size, 0, none⟩) 1 1 := by rw [← ha3]; exact Act.eval_put_same _ _ _ (by omega)
  have l149 : a3.eval (.tmp 149) = .slice A3 n3 c3 := by rw [← ha3, Act.eval_put_ne _ _ _ _ (by decide)]; exact k149
  have l22 : a3.eval (.tmp 22) = .pointer (some ⟨ob, 0, none⟩) := by rw [← ha3, Act.eval_put_ne _ _ _ _ (by decide)]; exact k22
  refine fx_appC g4 (.tmp 149) (.tmp 161) p4 w9 D (.slice A3 n3 c3) out ⟨(n3 : Int) + 1, (mm : Int), en, Z.opp x⟩ _ rfl l149 o9 l161 hnb (Nat.le_trans hD hb9'.size) ?_
  intro A' m' c' w12 hOC hm' hbB hgB
  have q12 := q9.kept hgB (q9.not_row (by decide) o9)
  have x12 := x9.kept hgB hne
  refine ⟨fun _ => hC _ q12 x12, ?_⟩
  rw [d4]
  generalize ha4 : a3.put (some 162) (.slice A' m' c') = a4
  have s4 : 190 ≤ a4.tmps.size := by rw [← ha4]; simpa [Act.put] using s3
  have m162 : a4.eval (.tmp 162) = .slice A' m' c' := by rw [← ha4]; exact Act.eval_put_same _ _ _ (by omega)
  have m22 : a4.eval (.tmp 22) = .pointer (some ⟨ob, 0, none⟩) := by rw [← ha4, Act.eval_put_ne _ _ _ _ (by decide)]; exact l22
  refine fx_value (u := .pointer (some ⟨ob, 0, none⟩)) (w' := w12) g5 ?_ (fun h9 => absurd h9 (by decide)) ?_
  · rw [ev_eq] at m22
    simp [execOp, p5, go_sem, m22]
  rw [d5]
  generalize ha5 : a4.put (some 163) (.pointer (some ⟨ob, 0, none⟩)) = a5
  have n163 : a5.eval (.tmp 163) = .pointer (some ⟨ob, 0, none⟩) := by rw [← ha5]; exact Act.eval_put_same _ _ _ (by omega)
  have n162 : a5.eval (.tmp 162) = .slice A' m' c' := by rw [← ha5, Act.eval_put_ne _ _ _ _ (by decide)]; exact m162
  have c0 := q12.cell 0
  have c1 := q12.frozen 0
  refine fx_skip (w' := w12.setCell ⟨ob, 0, none⟩ (.slice A' m' c')) g6 ?_ (fun h9 => absurd h9 (by decide)) ?_
  · rw [ev_eq] at n163 n162
    simp [execOp, p6, go_sem, n163, n162, c0, c1]
  rw [d6]
  refine fx_nil ?_
  have := h A' m' c' w9 w12 (.agg #[.int .i64 x.d, .string x.t, .string x.f, .string x.c, .string x.a]) (.agg #[.int .i64 ((n3 : Int) + 1), .int .i64 (mm : Int), .int .i64 en, .int .i64 x.d, .string x.t, .string x.f, .string x.c, .string x.a]) (.slice (some ⟨w9.heap.size, 0, none⟩) 1 1) (.slice A' m' c') (.pointer (some ⟨ob, 0, none⟩)) hb9' o9 hOC hm' hbB hgB q12
  rw [ha1, ha2, ha3, ha4, ha5] at this
  exact this
end Go.Proofs.Ytdjghmpaopfboaa
