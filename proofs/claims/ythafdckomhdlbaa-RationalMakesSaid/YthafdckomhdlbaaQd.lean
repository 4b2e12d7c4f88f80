/- Walks: rational's operations that keep the first error: keep, made. -/
import Derived.Test.YthafdckomhdlbaaQc
namespace Go.Proofs.Ythafdckomhdlbaa
open Go.RowKit

/-- The function value that keep returns: it knows the pair in block B and an operation. -/
def KP (W : World) (B F h : Nat) : Prop := Blk W h 72 #[.pointer (some ⟨B, 0, none⟩)] ∧ Blk W (h + 1) 56 #[.func (.func F) #[] #[]]
def kv (h : Nat) : Value := .func (.func 75) #[] #[.pointer (some ⟨h, 0, none⟩), .pointer (some ⟨h + 1, 0, none⟩)]
def KeepRet (B F : Nat) (w : World) (e : Ending) (w' : World) : Prop := e = .returned (kv w.heap.size) ∧ KP w' B F w.heap.size ∧ Below w.heap.size w w' ∧ w.heap.size + 1 < w'.heap.size
theorem keep_fn (B F : Nat) (w : World) : Calls Try.prog 45 #[.pointer (some ⟨B, 0, none⟩), .func (.func F) #[] #[]] w (KeepRet B F w) := by
  have hmf : ∀ (fn : Fn) (first cap : Array Value) (w : World), (Instr.makeFunc fn first cap).run Try.prog w = .ok (.func fn first cap) w := fun _ _ _ _ => rfl
  go_enter Try.func45, Try.ntmps45
  go_wp2_with fail
  go_ret
  have b2 := Blk.new (w.alloc (.cells #[.pointer (some ⟨B, 0, none⟩)] 72)) 56 #[.func (.func F) #[] #[]]
  rw [World.size_alloc] at b2
  exact ⟨rfl, ⟨(Blk.new w _ _).alloc _, b2⟩, ((Below.refl _ w).alloc (Nat.le_refl _) _).alloc (by simp) _, by simp⟩
/-- What an operation on two integers answers, as a contract of whatever function. -/
def OpC (F : Nat) (x y r : ByteArray) (k : Int) : Prop := ∀ W : World, Calls Try.prog F #[.string x, .string y] W fun e w' => e = .returned (.tuple #[.string r, .int .i64 k]) ∧ Below W.heap.size W w'
set_option maxHeartbeats 1000000 in
theorem kcall_bad (B F h : Nat) (x y n0 n1 d0 d1 : ByteArray) (k : Int) (w : World) (hp : PB w B n0 n1 d0 d1 k) (hk : KP w B F h) (h0 : k ≠ 0) :
    Calls Try.prog 75 #[.string x, .string y, .pointer (some ⟨h, 0, none⟩), .pointer (some ⟨h + 1, 0, none⟩)] w fun e w' => e = .returned (.string ⟨#[]⟩) ∧ w = w' := by
  have c4 : w.cell? ⟨B, 4, none⟩ = some (.int .i64 k) := hp.cell 4
  have e0 : w.cell? ⟨h, 0, none⟩ = some (.pointer (some ⟨B, 0, none⟩)) := hk.1.cell 0
  have e1 : w.cell? ⟨h + 1, 0, none⟩ = some (.func (.func F) #[] #[]) := hk.2.cell 0
  have hkb : (k != 0) = true := by simpa using h0
  clear h0
  go_enter Try.func75, Try.ntmps75
  go_wp2_with fail
  go_ret
  exact ⟨rfl, rfl⟩
/-- OK: behind a call of the function value: the pair's error, its numbers as before. -/
def KcRet (B : Nat) (r n0 n1 d0 d1 : ByteArray) (k : Int) (w : World) (e : Ending) (w' : World) : Prop := e = .returned (.string r) ∧ PB w' B n0 n1 d0 d1 k ∧ (∀ F' h', B < h' → KP w B F' h' → KP w' B F' h') ∧ (∀ b, b ≠ B → b < w.heap.size → w'.heap[b]? = w.heap[b]?) ∧ Below B w w'
theorem KP.keep {W W' : World} {B F h : Nat} (hk : KP W B F h) (hb : Below W.heap.size W W') : KP W' B F h := ⟨hk.1.below hb, hk.2.below hb⟩
theorem KP.away {W : World} {B F h : Nat} (hk : KP W B F h) (hB : B < h) (j : Nat) (u : Value) : KP (W.setCell ⟨B, j, none⟩ u) B F h := ⟨hk.1.other (by omega) u, hk.2.other (by omega) u⟩
set_option maxRecDepth 100000 in
set_option maxHeartbeats 2000000 in
theorem kcall_mul (B h : Nat) (x y n0 n1 d0 d1 r : ByteArray) (k : Int) (w : World) (hp : PB w B n0 n1 d0 d1 0) (hk : KP w B 46 h) (hB : B < h) (C : OpC 46 x y r k) :
    Calls Try.prog 75 #[.string x, .string y, .pointer (some ⟨h, 0, none⟩), .pointer (some ⟨h + 1, 0, none⟩)] w (KcRet B r n0 n1 d0 d1 k w) := by
  have HC : Hid (OpC 46 x y r k) := C
  clear C
  have c4 : w.cell? ⟨B, 4, none⟩ = some (.int .i64 0) := hp.cell 4
  have e0 : w.cell? ⟨h, 0, none⟩ = some (.pointer (some ⟨B, 0, none⟩)) := hk.1.cell 0
  have e1 : w.cell? ⟨h + 1, 0, none⟩ = some (.func (.func 46) #[] #[]) := hk.2.cell 0
  have l0 := hk.1.lt
  have l1 := hk.2.lt
  go_enter Try.func75, Try.ntmps75
  go_wp2_with fail
  go_region_held3 (fun W => W.cell? ⟨h, 0, none⟩ = some (.pointer (some ⟨B, 0, none⟩)) ∧ W.cell? ⟨h + 1, 0, none⟩ = some (.func (.func 46) #[] #[]))
    (first
      | exact ⟨e0, e1⟩
      | exact ⟨k0, k1⟩
      | exact ⟨cell_other (by omega) k0 _, cell_other (by omega) k1 _⟩)
    (first
      | (go_at_call 46; refine (HC.out _).mono ?_; rintro e w1 ⟨rfl, hb1⟩; have hb2 : Below w.heap.size w w1 := (below_of_drewN w 1 _).trans hb1; have q := hp.below hb2; have k0 := (hb2.cell (p := ⟨h, 0, none⟩) (by show h < w.heap.size; omega)).trans e0; have k1 := (hb2.cell (p := ⟨h + 1, 0, none⟩) (by show h + 1 < w.heap.size; omega)).trans e1; have d4 := q.cell 4; have f4 := q.frozen 4))
  go_wp2_with fail
  go_ret
  refine ⟨rfl, q.set 4 (.int .i64 k), fun F' h' hlt hk' => (hk'.keep hb2).away hlt 4 _, fun b hne hlt => (Below.heap_setCell _ _ _ b hne).trans (hb2.block b hlt), (show Below B w w1 from hb2.mono (by omega)).setCell (p := ⟨B, 4, none⟩) (Nat.le_refl _) _⟩
set_option maxRecDepth 100000 in
set_option maxHeartbeats 2000000 in
theorem kcall_add (B h : Nat) (x y n0 n1 d0 d1 r : ByteArray) (k : Int) (w : World) (hp : PB w B n0 n1 d0 d1 0) (hk : KP w B 47 h) (hB : B < h) (C : OpC 47 x y r k) :
    Calls Try.prog 75 #[.string x, .string y, .pointer (some ⟨h, 0, none⟩), .pointer (some ⟨h + 1, 0, none⟩)] w (KcRet B r n0 n1 d0 d1 k w) := by
  have HC : Hid (OpC 47 x y r k) := C
  clear C
  have c4 : w.cell? ⟨B, 4, none⟩ = some (.int .i64 0) := hp.cell 4
  have e0 : w.cell? ⟨h, 0, none⟩ = some (.pointer (some ⟨B, 0, none⟩)) := hk.1.cell 0
  have e1 : w.cell? ⟨h + 1, 0, none⟩ = some (.func (.func 47) #[] #[]) := hk.2.cell 0
  have l0 := hk.1.lt
  have l1 := hk.2.lt
  go_enter Try.func75, Try.ntmps75
  go_wp2_with fail
  go_region_held3 (fun W => W.cell? ⟨h, 0, none⟩ = some (.pointer (some ⟨B, 0, none⟩)) ∧ W.cell? ⟨h + 1, 0, none⟩ = some (.func (.func 47) #[] #[]))
    (first
      | exact ⟨e0, e1⟩
      | exact ⟨k0, k1⟩
      | exact ⟨cell_other (by omega) k0 _, cell_other (by omega) k1 _⟩)
    (first
      | (go_at_call 47; refine (HC.out _).mono ?_; rintro e w1 ⟨rfl, hb1⟩; have hb2 : Below w.heap.size w w1 := (below_of_drewN w 1 _).trans hb1; have q := hp.below hb2; have k0 := (hb2.cell (p := ⟨h, 0, none⟩) (by show h < w.heap.size; omega)).trans e0; have k1 := (hb2.cell (p := ⟨h + 1, 0, none⟩) (by show h + 1 < w.heap.size; omega)).trans e1; have d4 := q.cell 4; have f4 := q.frozen 4))
  go_wp2_with fail
  go_ret
  refine ⟨rfl, q.set 4 (.int .i64 k), fun F' h' hlt hk' => (hk'.keep hb2).away hlt 4 _, fun b hne hlt => (Below.heap_setCell _ _ _ b hne).trans (hb2.block b hlt), (show Below B w w1 from hb2.mono (by omega)).setCell (p := ⟨B, 4, none⟩) (Nat.le_refl _) _⟩
set_option maxRecDepth 100000 in
set_option maxHeartbeats 2000000 in
theorem kcall_sub (B h : Nat) (x y n0 n1 d0 d1 r : ByteArray) (k : Int) (w : World) (hp : PB w B n0 n1 d0 d1 0) (hk : KP w B 53 h) (hB : B < h) (C : OpC 53 x y r k) :
    Calls Try.prog 75 #[.string x, .string y, .pointer (some ⟨h, 0, none⟩), .pointer (some ⟨h + 1, 0, none⟩)] w (KcRet B r n0 n1 d0 d1 k w) := by
  have HC : Hid (OpC 53 x y r k) := C
  clear C
  have c4 : w.cell? ⟨B, 4, none⟩ = some (.int .i64 0) := hp.cell 4
  have e0 : w.cell? ⟨h, 0, none⟩ = some (.pointer (some ⟨B, 0, none⟩)) := hk.1.cell 0
  have e1 : w.cell? ⟨h + 1, 0, none⟩ = some (.func (.func 53) #[] #[]) := hk.2.cell 0
  have l0 := hk.1.lt
  have l1 := hk.2.lt
  go_enter Try.func75, Try.ntmps75
  go_wp2_with fail
  go_region_held3 (fun W => W.cell? ⟨h, 0, none⟩ = some (.pointer (some ⟨B, 0, none⟩)) ∧ W.cell? ⟨h + 1, 0, none⟩ = some (.func (.func 53) #[] #[]))
    (first
      | exact ⟨e0, e1⟩
      | exact ⟨k0, k1⟩
      | exact ⟨cell_other (by omega) k0 _, cell_other (by omega) k1 _⟩)
    (first
      | (go_at_call 53; refine (HC.out _).mono ?_; rintro e w1 ⟨rfl, hb1⟩; have hb2 : Below w.heap.size w w1 := (below_of_drewN w 1 _).trans hb1; have q := hp.below hb2; have k0 := (hb2.cell (p := ⟨h, 0, none⟩) (by show h < w.heap.size; omega)).trans e0; have k1 := (hb2.cell (p := ⟨h + 1, 0, none⟩) (by show h + 1 < w.heap.size; omega)).trans e1; have d4 := q.cell 4; have f4 := q.frozen 4))
  go_wp2_with fail
  go_ret
  refine ⟨rfl, q.set 4 (.int .i64 k), fun F' h' hlt hk' => (hk'.keep hb2).away hlt 4 _, fun b hne hlt => (Below.heap_setCell _ _ _ b hne).trans (hb2.block b hlt), (show Below B w w1 from hb2.mono (by omega)).setCell (p := ⟨B, 4, none⟩) (Nat.le_refl _) _⟩
set_option maxHeartbeats 1000000 in
theorem made_bad (B : Nat) (x y n0 n1 d0 d1 : ByteArray) (k : Int) (w : World) (hp : PB w B n0 n1 d0 d1 k) (h0 : k ≠ 0) :
    Calls Try.prog 48 #[.pointer (some ⟨B, 0, none⟩), .string x, .string y] w fun e w' => e = .returned (.tuple #[.string ⟨#[]⟩, .int .i64 k]) ∧ Below w.heap.size w w' := by
  have c4 : w.cell? ⟨B, 4, none⟩ = some (.int .i64 k) := hp.cell 4
  have hkb : (k != 0) = true := by simpa using h0
  clear h0
  go_enter Try.func48, Try.ntmps48
  go_wp2_with fail
  go_region
  go_wp2_with fail
  go_ret2
  exact ⟨rfl, (Below.refl _ _).drew⟩
theorem made_ok (B : Nat) (x y n0 n1 d0 d1 : ByteArray) (w : World) (hp : PB w B n0 n1 d0 d1 0) (hx : x.size ≤ maxLen) (hy : y.size ≤ maxLen) :
    Calls Try.prog 48 #[.pointer (some ⟨B, 0, none⟩), .string x, .string y] w (MakeRet x y w) := by
  have c4 : w.cell? ⟨B, 4, none⟩ = some (.int .i64 0) := hp.cell 4
  have M := Lib.hid (make_any x y w hx hy)
  unfold MakeRet at *
  generalize Z.makeS x y = r at *
  generalize Z.makeE x y = k at *
  go_enter Try.func48, Try.ntmps48
  go_wp2_with fail
  refine M.out.mono ?_
  rintro e w1 ⟨rfl, hb1⟩
  go_wp2_with fail
  go_ret2
  exact ⟨rfl, hb1⟩
end Go.Proofs.Ythafdckomhdlbaa
