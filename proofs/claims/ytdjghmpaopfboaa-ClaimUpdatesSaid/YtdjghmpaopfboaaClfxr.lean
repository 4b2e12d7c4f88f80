/- The effects of the reference's third loop in Update, over any frame. -/
import Derived.Test.YtdjghmpaopfboaaClfx
import Derived.Test.YtdjghmpaopfboaaClturn
namespace Go.Proofs.Ytdjghmpaopfboaa
open Go.RowKit
theorem fx31 {ops : Array Oper} {C : World → Prop} {R : Act → World → Prop} {o1 o2 o3 o4 o5 : Oper} {a : Act} {W W2 : World} {D n3 c3 : Nat} {A3 : Option Addr} {num en : Int} {x : Z.Fl} {out : List Z.Cl}
    (g1 : o1.guard = none) (g2 : o2.guard = none) (g3 : o3.guard = none) (g4 : o4.guard = none) (g5 : o5.guard = none)
    (p1 : o1.op = .call { callee := .value (.func 27), args := #[.tmp 134], argTypes := #[36] }) (d1 : o1.dst = some 135)
    (p2 : o2.op = .build 38 #[(0, .tmp 123), (1, .tmp 128), (2, .tmp 129), (3, .tmp 135)]) (d2 : o2.dst = some 136)
    (p3 : o3.op = .buildSlice 22 1 #[(0, .tmp 136)]) (d3 : o3.dst = some 137)
    (p4 : o4.op = .call { callee := .builtin .append, args := #[.tmp 120, .tmp 137], argTypes := #[22, 22] }) (d4 : o4.dst = some 138)
    (p5 : o5.op = .assign (.tmp 138)) (d5 : o5.dst = some 17)
    (hs : 160 ≤ a.tmps.size) (e120 : a.eval (.tmp 120) = .slice A3 n3 c3) (e123 : a.eval (.tmp 123) = .int .i64 ((n3 : Int) + 1))
    (e128 : a.eval (.tmp 128) = .int .i64 num) (e129 : a.eval (.tmp 129) = .int .i64 en) (e134 : a.eval (.tmp 134) = .agg #[.int .i64 x.d, .string x.f, .string x.t, .string x.c, .string x.a])
    (hC : ∀ w', Below D W2 w' → C w') (hW : Below D W2 W)
    (hown : OC W D (.slice A3 n3 c3) out) (hnb : out.length ≤ 20000) (hD : D ≤ W.heap.size)
    (h : ∀ (A' : Option Addr) (m' c' : Nat) (w9 w12 : World) (v1 v2 v3 v4 : Value), Below W.heap.size W w9 → OC w9 D (.slice A3 n3 c3) out → OC w12 D (.slice A' m' c') (out ++ [⟨(n3 : Int) + 1, num, en, Z.opp x⟩]) → m' = out.length + 1 → Below D w9 w12 → w9.grownBy w12 (Value.slice A3 n3 c3).ownBlock →
      R (((((a.put (some 135) v1).put (some 136) v2).put (some 137) v3).put (some 138) v4).put (some 17) (.slice A' m' c')) w12) :
    fxList Try.prog ops C 20 R [o1, o2, o3, o4, o5] 15 a W.drew := by
  refine fx_enter (f := 27) (args := #[.agg #[.int .i64 x.d, .string x.f, .string x.t, .string x.c, .string x.a]]) (w' := W.drew) g1 ?_ ?_
  · have e := e134
    rw [ev_eq] at e
    simp [execOp, p1, go_sem, e]
  refine (turned_any x W.drew).mono ?_
  rintro e w9 ⟨rfl, hb9⟩
  have hb9' : Below W.heap.size W w9 := (Below.refl _ W).drew.trans hb9
  have hw9 : Below D W2 w9 := hW.trans (hb9'.mono hD)
  have hD9 : D ≤ w9.heap.size := Nat.le_trans hD hb9'.size
  have o9 := OL.below hown hb9'
  refine ⟨_, rfl, fun _ => hC _ hw9, ?_⟩
  rw [d1]
  generalize ha1 : a.put (some 135) (.agg #[.int .i64 x.d, .string x.t, .string x.f, .string x.c, .string x.a]) = a1
  have s1 : 160 ≤ a1.tmps.size := by rw [← ha1]; simpa [Act.put] using hs
  have f135 : a1.eval (.tmp 135) = .agg #[.int .i64 x.d, .string x.t, .string x.f, .string x.c, .string x.a] := by rw [← ha1]; exact Act.eval_put_same _ _ _ (by omega)
  have f123 : a1.eval (.tmp 123) = .int .i64 ((n3 : Int) + 1) := by rw [← ha1, Act.eval_put_ne _ _ _ _ (by decide)]; exact e123
  have f128 : a1.eval (.tmp 128) = .int .i64 num := by rw [← ha1, Act.eval_put_ne _ _ _ _ (by decide)]; exact e128
  have f129 : a1.eval (.tmp 129) = .int .i64 en := by rw [← ha1, Act.eval_put_ne _ _ _ _ (by decide)]; exact e129
  have f120 : a1.eval (.tmp 120) = .slice A3 n3 c3 := by rw [← ha1, Act.eval_put_ne _ _ _ _ (by decide)]; exact e120
  refine fx_value (u := .agg #[.int .i64 ((n3 : Int) + 1), .int .i64 num, .int .i64 en, .int .i64 x.d, .string x.t, .string x.f, .string x.c, .string x.a]) (w' := w9) g2 ?_ (fun _ => hC _ hw9) ?_
  · rw [ev_eq] at f123 f128 f129 f135
    simp [execOp, p2, go_sem, f123, f128, f129, f135]
  rw [d2]
  generalize ha2 : a1.put (some 136) (.agg #[.int .i64 ((n3 : Int) + 1), .int .i64 num, .int .i64 en, .int .i64 x.d, .string x.t, .string x.f, .string x.c, .string x.a]) = a2
  have s2 : 160 ≤ a2.tmps.size := by rw [← ha2]; simpa [Act.put] using s1
  have f136 : a2.eval (.tmp 136) = .agg #[.int .i64 ((n3 : Int) + 1), .int .i64 num, .int .i64 en, .int .i64 x.d, .string x.t, .string x.f, .string x.c, .string x.a] := by rw [← ha2]; exact Act.eval_put_same _ _ _ (by omega)
  have k120 : a2.eval (.tmp 120) = .slice A3 n3 c3 := by rw [← ha2, Act.eval_put_ne _ _ _ _ (by decide)]; exact f120
  have hb10 := (Below.refl _ w9).alloc (Nat.le_refl w9.heap.size) (.cells #[.int .i64 ((n3 : Int) + 1), .int .i64 num, .int .i64 en, .int .i64 x.d, .string x.t, .string x.f, .string x.c, .string x.a] 38)
  refine fx_value (u := .slice (some ⟨w9.heap.size, 0, none⟩) 1 1) (w' := w9.alloc (.cells #[.int .i64 ((n3 : Int) + 1), .int .i64 num, .int .i64 en, .int .i64 x.d, .string x.t, .string x.f, .string x.c, .string x.a] 38)) g3 ?_ (fun _ => hC _ (hw9.trans (hb10.mono hD9))) ?_
  · rw [ev_eq] at f136
    simp [execOp, p3, go_sem, f136]
  rw [d3]
  generalize ha3 : a2.put (some 137) (.slice (some ⟨w9.heap.size, 0, none⟩) 1 1) = a3
  have s3 : 160 ≤ a3.tmps.size := by rw [← ha3]; simpa [Act.put] using s2
  have l137 : a3.eval (.tmp 137) = .slice (some ⟨w9.heap.size, 0, none⟩) 1 1 := by rw [← ha3]; exact Act.eval_put_same _ _ _ (by omega)
  have l120 : a3.eval (.tmp 120) = .slice A3 n3 c3 := by rw [← ha3, Act.eval_put_ne _ _ _ _ (by decide)]; exact k120
  refine fx_appC g4 (.tmp 120) (.tmp 137) p4 w9 D (.slice A3 n3 c3) out ⟨(n3 : Int) + 1, num, en, Z.opp x⟩ _ rfl l120 o9 l137 hnb hD9 ?_
  intro A' m' c' w12 hOC hm' hbB hgB
  refine ⟨fun _ => hC _ (hw9.trans hbB), ?_⟩
  rw [d4]
  generalize ha4 : a3.put (some 138) (.slice A' m' c') = a4
  have m138 : a4.eval (.tmp 138) = .slice A' m' c' := by rw [← ha4]; exact Act.eval_put_same _ _ _ (by omega)
  refine fx_value (u := .slice A' m' c') (w' := w12) g5 ?_ (fun _ => hC _ (hw9.trans hbB)) ?_
  · rw [ev_eq] at m138
    simp [execOp, p5, go_sem, m138]
  rw [d5]
  refine fx_nil ?_
  have := h A' m' c' w9 w12 (.agg #[.int .i64 x.d, .string x.t, .string x.f, .string x.c, .string x.a]) (.agg #[.int .i64 ((n3 : Int) + 1), .int .i64 num, .int .i64 en, .int .i64 x.d, .string x.t, .string x.f, .string x.c, .string x.a]) (.slice (some ⟨w9.heap.size, 0, none⟩) 1 1) (.slice A' m' c') hb9' o9 hOC hm' hbB hgB
  rw [ha1, ha2, ha3, ha4] at this
  exact this
end Go.Proofs.Ytdjghmpaopfboaa
