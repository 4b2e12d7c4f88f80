/- Walk: the reference's Turned. -/
import Derived.Test.YtdjghmpaopfboaaClrev
namespace Go.Proofs.Ytdjghmpaopfboaa
open Go.RowKit
theorem turned_any (f : Z.Fl) (w : World) : Calls Try.prog 27 #[.agg #[.int .i64 f.d, .string f.f, .string f.t, .string f.c, .string f.a]] w fun e w' => e = .returned (.agg #[.int .i64 f.d, .string f.t, .string f.f, .string f.c, .string f.a]) ∧ Below w.heap.size w w' := by
  have hs : (w.alloc (.cells #[.int .i64 f.d, .string f.f, .string f.t, .string f.c, .string f.a] 36)).heap.size = w.heap.size + 1 := Array.size_push _
  have hb1 := (Below.refl _ w).alloc (Nat.le_refl w.heap.size) (.cells #[.int .i64 f.d, .string f.f, .string f.t, .string f.c, .string f.a] 36)
  have hb := hb1.trans (((Below.refl _ (w.alloc (.cells #[.int .i64 f.d, .string f.f, .string f.t, .string f.c, .string f.a] 36))).alloc (Nat.le_refl _) (.cells #[.int .i64 f.d, .string f.t, .string f.f, .string f.c, .string f.a] 36)).mono hb1.size)
  have BY := Blk.new (w.alloc (.cells #[.int .i64 f.d, .string f.f, .string f.t, .string f.c, .string f.a] 36)) 36 #[.int .i64 f.d, .string f.t, .string f.f, .string f.c, .string f.a]
  rw [hs] at BY
  have q0 := BY.cell 0
  have q1 := BY.cell 1
  have q2 := BY.cell 2
  have q3 := BY.cell 3
  have q4 := BY.cell 4
  clear BY hs hb1
  go_enter Try.func27, Try.ntmps27
  go_wp2_with fail
  generalize ((w.alloc (.cells #[.int .i64 f.d, .string f.f, .string f.t, .string f.c, .string f.a] 36)).alloc (.cells #[.int .i64 f.d, .string f.t, .string f.f, .string f.c, .string f.a] 36)) = W at *
  refine bodyPost_ret (v := .agg #[.int .i64 f.d, .string f.t, .string f.f, .string f.c, .string f.a]) (by simp [results, Try.results27, go_sem, q0, q1, q2, q3, q4]) rfl ?_
  exact ⟨rfl, hb⟩
end Go.Proofs.Ytdjghmpaopfboaa
