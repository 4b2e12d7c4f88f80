/- Walks: the factor of a curve on a day, with a running error. -/
import Derived.Test.YtpnojgaehafjdaaZcue
import Derived.Test.YtpnojgaehafjdaaCvq
import Derived.Test.YtpnojgaehafjdaaFlo
namespace Go.Proofs.Ytpnojgaehafjdaa
open Go.RowKit Go.Shelf
attribute [local go_sem] Oper.semAt_some
theorem ownFrom_grown {β : Type} {B : Nat} {row : Option Nat} {w₀ : World} (hB : w₀.heap.size ≤ B) : OwnFrom B (fun (_ : β) W => w₀.grownBy W row) :=
  fun _ X Y r hs hg hr => ⟨hg.os.trans hs.os, hg.tape.trans hs.tape, hg.output.trans hs.output, Nat.le_trans hs.size hg.size, fun k hk hne => by
    refine (hg.block k (Nat.lt_of_lt_of_le hk hs.size) (fun e => ?_)).trans (hs.block k hk hne)
    have := (hr k e.symm).1
    omega⟩
theorem grown_set {w W : World} {b j : Nat} {row : Option Nat} (h : w.grownBy W row) (hb : w.heap.size ≤ b) (v : Value) : w.grownBy (W.setCell ⟨b, j, none⟩ v) row :=
  ⟨h.os, h.tape, h.output, Nat.le_trans h.size (grownBy_setAt W b j v).size, fun k hk hne => (Below.heap_setCell _ _ _ k (by show k ≠ b; omega)).trans (h.block k hk hne)⟩
theorem grown_alloc {w W : World} {row : Option Nat} (h : w.grownBy W row) (o : Obj) : w.grownBy (W.alloc o) row := h.trans (World.grownBy_alloc W o row)
theorem hasV_same {A W : World} (h : HasV A) (hs : ∀ j, j < A.heap.size → W.heap[j]? = A.heap[j]?) : HasV W := by
  obtain ⟨m, hm⟩ := h
  exact ⟨m, (World.cell?_of_block (hs _ (World.block_lt_of_cell? A _ hm))).trans hm⟩
theorem ownFrom_imp {β : Type} {B : Nat} {p : β → Prop} {I : β → World → Prop} (h : OwnFrom B I) : OwnFrom B (fun s W => p s → I s W) := fun s W W' row hs hg hr hp => h s W W' row (hs hp) hg hr
theorem grown_drew {w W : World} {row : Option Nat} (h : w.grownBy W row) : w.grownBy W.drew row := ⟨h.os, h.tape, h.output, h.size, h.block⟩
theorem kf_grown {n B : Nat} {W W' : World} (h : W.grownBy W' (some B)) (hB : B < n) : KeepsFrom n W W' := KeepsFrom.of_grownBy h fun j e => by injection e with e; omega
set_option maxRecDepth 100000 in
set_option maxHeartbeats 4000000 in
theorem factor_any (c : Z.Cu) (v : Value) (day e : Int) (B : Nat) (w0 w : World) (hV : HasV w0) (hSP : SP w0 v c.pts) (hw : Below w0.heap.size w0 w) (hB : w0.heap.size ≤ B) (hs : SB w B e) (hc : Z.cuE c = 0) (h1 : c.base ≤ day) (h2 : day ≤ 99999) :
    Calls Try.prog 32 #[.pointer (some ⟨B, 0, none⟩), .agg #[.int .i64 c.base, v], .int .i64 day] w (CalcRet B (Z.fac e c day) w) := by
  rw [← Z.fk_kn h1]
  have HF0 := Lib.hid (Z.Fk.nil (e := e) hc h1)
  have hBl := hs.lt
  refine (callsIn_wide (n := 6)).1 ?_
  refine callsIn_of_wp_marks Try.func32 rfl trivial ?_ rfl
  simp only [Try.ntmps32, List.size_toArray, List.length_cons, List.length_nil, Nat.reduceAdd, Nat.reduceSub, Array.replicate_succ, Array.replicate_zero, List.push_toArray, List.append_toArray, List.nil_append, List.cons_append]
  gi_wp2_with fail
  refine ⟨trivial, (callsIn_wide.2 (knots_any _ _ _)).mono ?_⟩
  rintro e1 W0 ⟨rfl, rfl⟩
  gi_wp2_with fail
  have hg0 : w.grownBy (((((((w.alloc (.cells #[.pointer (some ⟨B, 0, none⟩)] 82)).alloc (.cells #[.int .i64 c.base, v] 27)).alloc (.cells #[.int .i64 day] 3)).alloc (.cells #[.string ⟨#[]⟩] 35)).alloc (.cells #[.int .i64 c.base] 3)).alloc (.cells #[.string ⟨#[49]⟩] 35)).alloc (.cells #[.int .i64 c.base, v] 27)) (some B) := grown_alloc (grown_alloc (grown_alloc (grown_alloc (grown_alloc (grown_alloc (grown_alloc (grown_of_below (Below.refl _ w) (some B)) _) _) _) _) _) _) _
  have bp : Blk (((((((w.alloc (.cells #[.pointer (some ⟨B, 0, none⟩)] 82)).alloc (.cells #[.int .i64 c.base, v] 27)).alloc (.cells #[.int .i64 day] 3)).alloc (.cells #[.string ⟨#[]⟩] 35)).alloc (.cells #[.int .i64 c.base] 3)).alloc (.cells #[.string ⟨#[49]⟩] 35)).alloc (.cells #[.int .i64 c.base, v] 27)) (w.heap.size) 82 #[.pointer (some ⟨B, 0, none⟩)] := by
    have h := Blk.new w 82 #[.pointer (some ⟨B, 0, none⟩)]
    exact ((((((h.alloc (.cells #[.int .i64 c.base, v] 27)).alloc (.cells #[.int .i64 day] 3)).alloc (.cells #[.string ⟨#[]⟩] 35)).alloc (.cells #[.int .i64 c.base] 3)).alloc (.cells #[.string ⟨#[49]⟩] 35)).alloc (.cells #[.int .i64 c.base, v] 27))
  have bcc : Blk (((((((w.alloc (.cells #[.pointer (some ⟨B, 0, none⟩)] 82)).alloc (.cells #[.int .i64 c.base, v] 27)).alloc (.cells #[.int .i64 day] 3)).alloc (.cells #[.string ⟨#[]⟩] 35)).alloc (.cells #[.int .i64 c.base] 3)).alloc (.cells #[.string ⟨#[49]⟩] 35)).alloc (.cells #[.int .i64 c.base, v] 27)) (w.heap.size + 1) 27 #[.int .i64 c.base, v] := by
    have h := Blk.new (w.alloc (.cells #[.pointer (some ⟨B, 0, none⟩)] 82)) 27 #[.int .i64 c.base, v]
    rw [World.size_alloc] at h
    exact (((((h.alloc (.cells #[.int .i64 day] 3)).alloc (.cells #[.string ⟨#[]⟩] 35)).alloc (.cells #[.int .i64 c.base] 3)).alloc (.cells #[.string ⟨#[49]⟩] 35)).alloc (.cells #[.int .i64 c.base, v] 27))
  have bday : Blk (((((((w.alloc (.cells #[.pointer (some ⟨B, 0, none⟩)] 82)).alloc (.cells #[.int .i64 c.base, v] 27)).alloc (.cells #[.int .i64 day] 3)).alloc (.cells #[.string ⟨#[]⟩] 35)).alloc (.cells #[.int .i64 c.base] 3)).alloc (.cells #[.string ⟨#[49]⟩] 35)).alloc (.cells #[.int .i64 c.base, v] 27)) (w.heap.size + 1 + 1) 3 #[.int .i64 day] := by
    have h := Blk.new ((w.alloc (.cells #[.pointer (some ⟨B, 0, none⟩)] 82)).alloc (.cells #[.int .i64 c.base, v] 27)) 3 #[.int .i64 day]
    rw [World.size_alloc, World.size_alloc] at h
    exact ((((h.alloc (.cells #[.string ⟨#[]⟩] 35)).alloc (.cells #[.int .i64 c.base] 3)).alloc (.cells #[.string ⟨#[49]⟩] 35)).alloc (.cells #[.int .i64 c.base, v] 27))
  have br : Blk (((((((w.alloc (.cells #[.pointer (some ⟨B, 0, none⟩)] 82)).alloc (.cells #[.int .i64 c.base, v] 27)).alloc (.cells #[.int .i64 day] 3)).alloc (.cells #[.string ⟨#[]⟩] 35)).alloc (.cells #[.int .i64 c.base] 3)).alloc (.cells #[.string ⟨#[49]⟩] 35)).alloc (.cells #[.int .i64 c.base, v] 27)) (w.heap.size + 1 + 1 + 1) 35 #[.string ⟨#[]⟩] := by
    have h := Blk.new (((w.alloc (.cells #[.pointer (some ⟨B, 0, none⟩)] 82)).alloc (.cells #[.int .i64 c.base, v] 27)).alloc (.cells #[.int .i64 day] 3)) 35 #[.string ⟨#[]⟩]
    rw [World.size_alloc, World.size_alloc, World.size_alloc] at h
    exact (((h.alloc (.cells #[.int .i64 c.base] 3)).alloc (.cells #[.string ⟨#[49]⟩] 35)).alloc (.cells #[.int .i64 c.base, v] 27))
  have ba : Blk (((((((w.alloc (.cells #[.pointer (some ⟨B, 0, none⟩)] 82)).alloc (.cells #[.int .i64 c.base, v] 27)).alloc (.cells #[.int .i64 day] 3)).alloc (.cells #[.string ⟨#[]⟩] 35)).alloc (.cells #[.int .i64 c.base] 3)).alloc (.cells #[.string ⟨#[49]⟩] 35)).alloc (.cells #[.int .i64 c.base, v] 27)) (w.heap.size + 1 + 1 + 1 + 1) 3 #[.int .i64 c.base] := by
    have h := Blk.new ((((w.alloc (.cells #[.pointer (some ⟨B, 0, none⟩)] 82)).alloc (.cells #[.int .i64 c.base, v] 27)).alloc (.cells #[.int .i64 day] 3)).alloc (.cells #[.string ⟨#[]⟩] 35)) 3 #[.int .i64 c.base]
    rw [World.size_alloc, World.size_alloc, World.size_alloc, World.size_alloc] at h
    exact ((h.alloc (.cells #[.string ⟨#[49]⟩] 35)).alloc (.cells #[.int .i64 c.base, v] 27))
  have bf : Blk (((((((w.alloc (.cells #[.pointer (some ⟨B, 0, none⟩)] 82)).alloc (.cells #[.int .i64 c.base, v] 27)).alloc (.cells #[.int .i64 day] 3)).alloc (.cells #[.string ⟨#[]⟩] 35)).alloc (.cells #[.int .i64 c.base] 3)).alloc (.cells #[.string ⟨#[49]⟩] 35)).alloc (.cells #[.int .i64 c.base, v] 27)) (w.heap.size + 1 + 1 + 1 + 1 + 1) 35 #[.string ⟨#[49]⟩] := by
    have h := Blk.new (((((w.alloc (.cells #[.pointer (some ⟨B, 0, none⟩)] 82)).alloc (.cells #[.int .i64 c.base, v] 27)).alloc (.cells #[.int .i64 day] 3)).alloc (.cells #[.string ⟨#[]⟩] 35)).alloc (.cells #[.int .i64 c.base] 3)) 35 #[.string ⟨#[49]⟩]
    rw [World.size_alloc, World.size_alloc, World.size_alloc, World.size_alloc, World.size_alloc] at h
    exact (h.alloc (.cells #[.int .i64 c.base, v] 27))
  have bc : Blk (((((((w.alloc (.cells #[.pointer (some ⟨B, 0, none⟩)] 82)).alloc (.cells #[.int .i64 c.base, v] 27)).alloc (.cells #[.int .i64 day] 3)).alloc (.cells #[.string ⟨#[]⟩] 35)).alloc (.cells #[.int .i64 c.base] 3)).alloc (.cells #[.string ⟨#[49]⟩] 35)).alloc (.cells #[.int .i64 c.base, v] 27)) (w.heap.size + 1 + 1 + 1 + 1 + 1 + 1) 27 #[.int .i64 c.base, v] := by
    have h := Blk.new ((((((w.alloc (.cells #[.pointer (some ⟨B, 0, none⟩)] 82)).alloc (.cells #[.int .i64 c.base, v] 27)).alloc (.cells #[.int .i64 day] 3)).alloc (.cells #[.string ⟨#[]⟩] 35)).alloc (.cells #[.int .i64 c.base] 3)).alloc (.cells #[.string ⟨#[49]⟩] 35)) 27 #[.int .i64 c.base, v]
    rw [World.size_alloc, World.size_alloc, World.size_alloc, World.size_alloc, World.size_alloc, World.size_alloc] at h
    exact h
  have bs : SB (((((((w.alloc (.cells #[.pointer (some ⟨B, 0, none⟩)] 82)).alloc (.cells #[.int .i64 c.base, v] 27)).alloc (.cells #[.int .i64 day] 3)).alloc (.cells #[.string ⟨#[]⟩] 35)).alloc (.cells #[.int .i64 c.base] 3)).alloc (.cells #[.string ⟨#[49]⟩] 35)).alloc (.cells #[.int .i64 c.base, v] 27)) B e := (((((((hs.alloc (.cells #[.pointer (some ⟨B, 0, none⟩)] 82)).alloc (.cells #[.int .i64 c.base, v] 27)).alloc (.cells #[.int .i64 day] 3)).alloc (.cells #[.string ⟨#[]⟩] 35)).alloc (.cells #[.int .i64 c.base] 3)).alloc (.cells #[.string ⟨#[49]⟩] 35)).alloc (.cells #[.int .i64 c.base, v] 27))
  have hb0 : Below w0.heap.size w0 (((((((w.alloc (.cells #[.pointer (some ⟨B, 0, none⟩)] 82)).alloc (.cells #[.int .i64 c.base, v] 27)).alloc (.cells #[.int .i64 day] 3)).alloc (.cells #[.string ⟨#[]⟩] 35)).alloc (.cells #[.int .i64 c.base] 3)).alloc (.cells #[.string ⟨#[49]⟩] 35)).alloc (.cells #[.int .i64 c.base, v] 27)) := hw.trans ((Below.refl _ w).grown hg0 hw.size (fun k hk => by injection hk with hk; omega))
  generalize (((((((w.alloc (.cells #[.pointer (some ⟨B, 0, none⟩)] 82)).alloc (.cells #[.int .i64 c.base, v] 27)).alloc (.cells #[.int .i64 day] 3)).alloc (.cells #[.string ⟨#[]⟩] 35)).alloc (.cells #[.int .i64 c.base] 3)).alloc (.cells #[.string ⟨#[49]⟩] 35)).alloc (.cells #[.int .i64 c.base, v] 27)) = W0 at *
  have lc := bc.lt
  obtain ⟨S, hS⟩ : ∃ S : Nat → Prop, S = fun k => k < w0.heap.size ∨ k = w.heap.size ∨ k = w.heap.size + 1 ∨ k = w.heap.size + 1 + 1 ∨ k = w.heap.size + 1 + 1 + 1 + 1 + 1 + 1 := ⟨_, rfl⟩
  have hwz := hw.size
  have hS1 : ∀ k, S k → k < W0.heap.size := by rw [hS]; intro k hk; omega
  have hn4 : ¬ S (w.heap.size + 1 + 1 + 1 + 1) := by rw [hS]; omega
  have hn5 : ¬ S (w.heap.size + 1 + 1 + 1 + 1 + 1) := by rw [hS]; omega
  have hnB : ¬ S B := by rw [hS]; omega
  have hDD : ∀ W, Same S W0 W → Blk W (w.heap.size + 1 + 1 + 1 + 1 + 1 + 1) 27 #[.int .i64 c.base, v] ∧ SP W v c.pts := fun W h =>
    ⟨bc.same (by rw [hS]; simp) h, hSP.same (fun k hk => (h k (by rw [hS]; exact .inl hk)).trans (hb0.block k hk))⟩
  clear hS
  have hst := knots_stops (6 - 1) (by omega) (w.heap.size + 1 + 1 + 1 + 1 + 1 + 1) c v S W0 hS1 hDD
  have hle : w.heap.size ≤ W0.heap.size := hg0.size
  have HV : Hid (∀ W, w.grownBy W (some B) → HasV W) := Lib.hid fun W h => hasV_same hV (fun k hk => (h.block k (by omega) (fun e => by injection e with e; omega)).trans (hw.block k hk))
  clear hDD bc bcc hSP hV hw hb0 hs
  generalize hw : w.heap.size = B0 at *
  refine wpIn_rangeFunc_ownG (F := Fence.wide) rfl (by omega) (gf := 65) (lb := #[.pointer (some ⟨B0 + 1 + 1 + 1 + 1 + 1 + 1, 0, none⟩)]) rfl trivial (enters_of Try.func65 (by kernel_rfl) rfl)
    hst (fun h k => Same.trans h k) (Same.put (n := W0.heap.size) hS1) (Below.refl _ _) (fun _ => rfl)
    (fun pre W => Blk W B0 82 #[.pointer (some ⟨B, 0, none⟩)] ∧ (Blk W (B0 + 1 + 1) 3 #[.int .i64 day] ∧ (Blk W (B0 + 1 + 1 + 1 + 1) 3 #[.int .i64 (Z.lastB pre).1] ∧ (Blk W (B0 + 1 + 1 + 1 + 1 + 1) 35 #[.string (Z.lastB pre).2] ∧ (SB W B e ∧ (Blk W (B0 + 1 + 1 + 1) 35 #[.string ⟨#[]⟩] ∧ (Z.Fk c e day pre ∧ w.grownBy W (some B))))))))
    (fun cd pre W => cd = .ret ∧ (((∃ rest, c.kns = pre ++ rest) → (Blk W (B0 + 1 + 1 + 1) 35 #[.string (Z.fk e day c.base Z.z49 c.kn).1] ∧ SB W B (Z.fk e day c.base Z.z49 c.kn).2)) ∧ w.grownBy W (some B)))
    (OwnFrom.and (Own.from (blk_own (B0) 82 (fun pre : List (Kn c) => #[.pointer (some ⟨B, 0, none⟩)])) _) (OwnFrom.and (Own.from (blk_own (B0 + 1 + 1) 3 (fun pre : List (Kn c) => #[.int .i64 day])) _) (OwnFrom.and (Own.from (blk_own (B0 + 1 + 1 + 1 + 1) 3 (fun pre : List (Kn c) => #[.int .i64 (Z.lastB pre).1])) _) (OwnFrom.and (Own.from (blk_own (B0 + 1 + 1 + 1 + 1 + 1) 35 (fun pre : List (Kn c) => #[.string (Z.lastB pre).2])) _) (OwnFrom.and (Own.from (blk_own (B) 59 (fun pre : List (Kn c) => #[.int .i64 e])) _) (OwnFrom.and (Own.from (blk_own (B0 + 1 + 1 + 1) 35 (fun pre : List (Kn c) => #[.string ⟨#[]⟩])) _) (OwnFrom.and (ownFrom_pure _ (fun pre : List (Kn c) => Z.Fk c e day pre)) (ownFrom_grown (by omega)))))))))
    (fun cd => OwnFrom.and (ownFrom_pure _ (fun _ : List (Kn c) => cd = .ret)) (OwnFrom.and (ownFrom_imp (p := fun pre : List (Kn c) => ∃ rest, c.kns = pre ++ rest) (OwnFrom.and (Own.from (blk_own (B0 + 1 + 1 + 1) 35 (fun pre : List (Kn c) => #[.string (Z.fk e day c.base Z.z49 c.kn).1])) _) (Own.from (blk_own (B) 59 (fun pre : List (Kn c) => #[.int .i64 (Z.fk e day c.base Z.z49 c.kn).2])) _))) (ownFrom_grown (by omega))))
    ⟨bp, bday, ba, bf, bs, br, HF0.out, hg0⟩
    (fun x => { tmps := #[.pointer (some ⟨B, 0, none⟩), .agg #[.int .i64 c.base, v], .int .i64 day, .pointer (some ⟨B0, 0, none⟩), .pointer (some ⟨B0 + 1, 0, none⟩), .pointer (some ⟨B0 + 1 + 1, 0, none⟩), .pointer (some ⟨B0 + 1 + 1 + 1, 0, none⟩), .pointer (some ⟨B0 + 1 + 1 + 1 + 1, 0, none⟩), .pointer (some ⟨B0 + 1 + 1 + 1 + 1 + 1, 0, none⟩), .int .i64 x.1.1, .string x.1.2, undef, .pointer (some ⟨B0 + 1, 0, none⟩), .int .i64 c.base, .agg #[.int .i64 c.base, v], .func (.func 65) #[] #[.pointer (some ⟨B0 + 1 + 1 + 1 + 1 + 1 + 1, 0, none⟩)], .int .i64 x.1.1, .string x.1.2, undef, undef, undef, undef, undef, undef, undef, undef, undef, undef, undef, undef, undef, undef, undef, undef, undef, undef, undef, undef, undef, undef, undef, undef, undef, undef, undef, undef, undef, undef], defers := [] }) ?assign ?body ?done ?stop
  case assign =>
    intro l x W K hK
    gi_wp2
    exact hK
  case body =>
    rintro l pre x W ⟨vp, vd, va, vf, vs, vr, hF, hG⟩ _
    obtain ⟨⟨x0, x1⟩, x2⟩ := Z.kn_ok hc x.1 x.2
    obtain ⟨⟨a0, a1, a2⟩, _⟩ := id hF
    have HF := Lib.hid hF
    clear hF
    have cp := vp.cell 0
    have cd := vd.cell 0
    have ca := va.cell 0
    have cf := vf.cell 0
    have fa := va.frozen 0
    have ff := vf.frozen 0
    have cr := vr.cell 0
    have fr := vr.frozen 0
    by_cases e1 : x.1.1 = day
    · have hb1 : (x.1.1 == day) = true := by rw [beq_iff_eq]; exact e1
      have E1 := Lib.hid e1
      clear e1
      gi_wp2_with fail
      exact ⟨(KeepsOthers.setCell _ _ _).from _, rfl, fun ⟨rest, hr⟩ => by rw [HF.out.hit hr E1.out]; exact ⟨vr.set 0 _, vs.other (by omega) _⟩, grown_set hG (by omega) _⟩
    · have hb1 : (x.1.1 == day) = false := by rw [beq_eq_false_iff_ne]; exact e1
      have E1 := Lib.hid e1
      clear e1
      by_cases e2 : day < x.1.1
      · have HM := Lib.hid (fun (rest : List (Kn c)) (hr : c.kns = (pre ++ [x]) ++ rest) => HF.out.mid hr E1.out e2)
        have HSH := Lib.hid (share_any B e W (day - (Z.lastB pre).1) (x.1.1 - (Z.lastB pre).1) vs (by omega) (by omega) (by omega) (by omega))
        have zw : (Z.cRat e (day - (Z.lastB pre).1) (x.1.1 - (Z.lastB pre).1)).1.size ≤ 2100 := Z.cRat_sz (by omega) (by omega) (by omega) (by omega)
        generalize Z.cRat e (day - (Z.lastB pre).1) (x.1.1 - (Z.lastB pre).1) = p1 at *
        gi_wp2_with fail
        refine ⟨trivial, (callsIn_wide.2 HSH.out).mono ?_⟩
        rintro e3 W1 ⟨rfl, s1, g1⟩
        have hG1 := grown_drew (hG.trans g1)
        have vp1 := vp.kept g1 (fun e => by injection e with e; omega)
        have vf1 := vf.kept g1 (fun e => by injection e with e; omega)
        have vr1 := vr.kept g1 (fun e => by injection e with e; omega)
        obtain ⟨F, hFe⟩ : ∃ F : World → Prop, F = fun w' => Blk w' B0 82 #[.pointer (some ⟨B, 0, none⟩)] ∧ Blk w' (B0 + 1 + 1 + 1 + 1 + 1) 35 #[.string (Z.lastB pre).2] ∧ ∃ s, Blk w' (B0 + 1 + 1 + 1) 35 #[.string s] := ⟨_, rfl⟩
        have HF1 : Hid (F W1.drew) := Lib.hid (by rw [hFe]; exact ⟨vp1, vf1, _, vr1⟩)
        have HFE : Hid (∀ X, F X → Blk X B0 82 #[.pointer (some ⟨B, 0, none⟩)] ∧ Blk X (B0 + 1 + 1 + 1 + 1 + 1) 35 #[.string (Z.lastB pre).2] ∧ ∃ s, Blk X (B0 + 1 + 1 + 1) 35 #[.string s]) := Lib.hid (fun X h => by rw [hFe] at h; exact h)
        have HFG : Hid (∀ X Y, F X → X.grownBy Y (some B) → F Y) := Lib.hid (fun X Y h g => by
          rw [hFe] at h ⊢
          exact ⟨h.1.kept g (fun e => by injection e with e; omega), h.2.1.kept g (fun e => by injection e with e; omega), h.2.2.elim fun s k => ⟨s, k.kept g (fun e => by injection e with e; omega)⟩⟩)
        have HFS : Hid (∀ X u, F X → F (X.setCell ⟨B0 + 1 + 1 + 1, 0, none⟩ (.string u))) := Lib.hid (fun X u h => by
          rw [hFe] at h ⊢
          exact ⟨h.1.other (by omega) _, h.2.1.other (by omega) _, h.2.2.elim fun s k => ⟨u, k.set 0 _⟩⟩)
        have hq0 : ∀ y : Cl F, y.1.cell? ⟨B0, 0, none⟩ = some (.pointer (some ⟨B, 0, none⟩)) := fun y => (HFE.out y.1 y.2).1.cell 0
        have hq5 : ∀ y : Cl F, y.1.cell? ⟨B0 + 1 + 1 + 1 + 1 + 1, 0, none⟩ = some (.string (Z.lastB pre).2) := fun y => (HFE.out y.1 y.2).2.1.cell 0
        have z2 := Z.cOp_sz Z.sz_sub p1.2 x.1.2 (Z.lastB pre).2
        have z3 := Z.cOp_sz Z.sz_mul (Z.cOp Z.subP p1.2 x.1.2 (Z.lastB pre).2).2 (Z.cOp Z.subP p1.2 x.1.2 (Z.lastB pre).2).1 p1.1
        clear hFe vp1 vf1 vr1 cp cd ca cf fa ff cr fr HSH
        haveI : Nonempty (Cl F) := Cl.some_ HF1.out
        gi_wp2_with fail
        refine wpIn_region_float [0, 1, 2, 3, 4, 5, 7] [6, 8, 9, 10] (fun w' => ∃ y : Cl F, w' = y.1) (by kernel_rfl) (by kernel_rfl) (by kernel_rfl) ⟨⟨W1.drew, HF1.out⟩, rfl⟩ ?_
        simp only [opsAt, List.filterMap_cons, List.filterMap_nil, List.getElem?_toArray, List.getElem?_cons_succ, List.getElem?_cons_zero]
        show wpQuiet _ _ _ _ [_, _, _, _, _, _, _] _
        go_big_quiet_step (fail)
        repeat (go_big_quiet_step (fail))
        refine wpQuiet_nil ?_
        refine fxp_enter (f := 42) (args := #[.pointer (some ⟨B, 0, none⟩), .string x.1.2, .string (Z.lastB pre).2]) (w' := W1.drew) rfl (by simp [go_sem]) ?_
        refine (ssub_any B p1.2 x.1.2 (Z.lastB pre).2 W1.drew s1 (HV.out _ hG1) (by omega) (by omega)).mono ?_
        rintro e5 W2 ⟨rfl, s2, g2⟩
        have hG2 := hG1.trans g2
        have HF2 := Lib.hid (HFG.out _ _ HF1.out g2)
        refine ⟨_, rfl, ⟨⟨W2, HF2.out⟩, rfl⟩, ?_⟩
        generalize Z.cOp Z.subP p1.2 x.1.2 (Z.lastB pre).2 = p2 at *
        refine fxp_enter (f := 41) (args := #[.pointer (some ⟨B, 0, none⟩), .string p2.1, .string p1.1]) (w' := W2) rfl (by simp [go_sem]) ?_
        refine (smul_any B p2.2 p2.1 p1.1 W2 s2 (HV.out _ hG2) (by omega) (by omega)).mono ?_
        rintro e6 W3 ⟨rfl, s3, g3⟩
        have hG3 := hG2.trans g3
        have HF3 := Lib.hid (HFG.out _ _ HF2.out g3)
        refine ⟨_, rfl, ⟨⟨W3, HF3.out⟩, rfl⟩, ?_⟩
        generalize Z.cOp Z.mulP p2.2 p2.1 p1.1 = p3 at *
        refine fxp_enter (f := 40) (args := #[.pointer (some ⟨B, 0, none⟩), .string (Z.lastB pre).2, .string p3.1]) (w' := W3) rfl (by simp [go_sem]) ?_
        refine (sadd_any B p3.2 (Z.lastB pre).2 p3.1 W3 s3 (HV.out _ hG3) (by omega) (by omega)).mono ?_
        rintro e7 W4 ⟨rfl, s4, g4⟩
        have hG4 := hG3.trans g4
        have HF4 := Lib.hid (HFG.out _ _ HF3.out g4)
        refine ⟨_, rfl, ⟨⟨W4, HF4.out⟩, rfl⟩, ?_⟩
        obtain ⟨s0, k4⟩ := (HFE.out _ HF4.out).2.2
        have c4 := k4.cell 0
        have f4 := k4.frozen 0
        have HP := Lib.hid (HFS.out W4 (Z.cOp Z.addP p3.2 (Z.lastB pre).2 p3.1).1 HF4.out)
        refine fxp_skip (w' := W4.setCell ⟨B0 + 1 + 1 + 1, 0, none⟩ (.string (Z.cOp Z.addP p3.2 (Z.lastB pre).2 p3.1).1)) rfl (by simp [go_sem, c4, f4]) ⟨⟨_, HP.out⟩, rfl⟩ ?_
        refine fxp_nil ?_
        clear c4 f4
        gi_wp2_with fail
        exact ⟨(kf_grown (((grown_drew g1).trans g2).trans (g3.trans g4)) (by omega)).trans ((KeepsOthers.setCell _ _ _).from _), rfl, fun ⟨rest, hr⟩ => by rw [HM.out rest hr]; exact ⟨k4.set 0 _, s4.other (by omega) _⟩, grown_set hG4 (by omega) _⟩
      · have HN : Hid (Z.Fk c e day (pre ++ [x])) := Lib.hid (HF.out.next hc E1.out e2)
        gi_wp2_with fail
        exact ⟨((KeepsOthers.setCell _ _ _).trans (KeepsOthers.setCell _ _ _)).from _, (Same.set hn4 _ _).trans (Same.set hn5 _ _), (vp.other (by omega) _).other (by omega) _, (vd.other (by omega) _).other (by omega) _, by rw [Z.lastB_snoc]; exact (va.set 0 _).other (by omega) _, by rw [Z.lastB_snoc]; exact (vf.other (by omega) _).set 0 _, (vs.other (by omega) _).other (by omega) _, (vr.other (by omega) _).other (by omega) _, HN.out, grown_set (grown_set hG (by omega) _) (by omega) _⟩
  case done =>
    rintro D ys W hD rfl ⟨vp, vd, va, vf, vs, vr, hF, hG⟩ hK
    have HF := Lib.hid hF
    have cf := vf.cell 0
    have cr := vr.cell 0
    have fr := vr.frozen 0
    clear hF
    gi_wp2_with fail
    have hK' : (W.setCell ⟨B0 + 1 + 1 + 1, 0, none⟩ (.string (Z.lastB c.kns).2)).heap[D]? = some (.deferred (some [])) := (KeepsOthers.setCell W ⟨B0 + 1 + 1 + 1, 0, none⟩ (.string (Z.lastB c.kns).2)).same D _ hK rfl
    refine ⟨by simp, .inl ⟨_, _, rfl, run_takeDeferred hK', ?_⟩⟩
    have c1 := cell_kept ((vr.set 0 (.string (Z.lastB c.kns).2)).cell 0) (grownBy_putObj' _ D (.deferred none)) (fun r e => by cases e; exact ⟨_, hK', rfl⟩)
    have hGs := grown_set (j := 0) hG (show w.heap.size ≤ B0 + 1 + 1 + 1 by omega) (.string (Z.lastB c.kns).2)
    have hGf := (ownFrom_grown (β := Unit) (B := W0.heap.size) (row := some B) (w₀ := w) (by omega)).putObj (s := ()) (.deferred none) hGs hD hK' rfl
    have hsf := ((blk_own (β := Unit) B 59 (fun _ => #[.int .i64 e])).from W0.heap.size).putObj (s := ()) (.deferred none) (vs.other (by omega) (.string (Z.lastB c.kns).2) : Blk (W.setCell ⟨B0 + 1 + 1 + 1, 0, none⟩ _) B _ _) hD hK' rfl
    refine ⟨.string (Z.lastB c.kns).2, ?_, ?_⟩
    · simp [results, Try.f32, go_sem, c1]
    · rw [HF.out.end_]
      exact ⟨rfl, hsf, hGf⟩
  case stop =>
    rintro D cd pre W hD hpre ⟨rfl, himp, hG⟩ hK
    obtain ⟨rest, hr⟩ := hpre
    obtain ⟨vr, vs⟩ := himp ⟨rest, hr.symm⟩
    gi_wp2_with fail
    refine ⟨by simp, .inl ⟨_, _, rfl, run_takeDeferred hK, ?_⟩⟩
    have c1 := cell_kept (vr.cell 0) (grownBy_putObj' _ D (.deferred none)) (fun r e => by cases e; exact ⟨_, hK, rfl⟩)
    have hGf := (ownFrom_grown (β := Unit) (B := W0.heap.size) (row := some B) (w₀ := w) (by omega)).putObj (s := ()) (.deferred none) hG hD hK rfl
    have hsf := ((blk_own (β := Unit) B 59 (fun _ => #[.int .i64 (Z.fk e day c.base Z.z49 c.kn).2])).from W0.heap.size).putObj (s := ()) (.deferred none) vs hD hK rfl
    refine ⟨.string (Z.fk e day c.base Z.z49 c.kn).1, ?_, rfl, hsf, hGf⟩
    simp [results, Try.f32, go_sem, c1]
end Go.Proofs.Ytpnojgaehafjdaa
