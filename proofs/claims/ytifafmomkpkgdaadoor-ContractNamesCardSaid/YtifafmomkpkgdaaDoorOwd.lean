/- Walks: Parties and Currencies of a contract. -/
import Derived.Test.YtifafmomkpkgdaaDoorOwl
import Derived.Test.YtifafmomkpkgdaaDoorOck
namespace Go.Proofs.YtifafmomkpkgdaaDoor
open Go.RowKit Go.Shelf
attribute [local go_sem] Oper.semAt_some
namespace Z
/-- The words of a valid contract, each once, in order. -/
def wordsL {m : Nat} (at_ : CN m → List BS) (n : Nat) (c : Co m n) : List BS := if coE n c = 0 then uniqW (allW at_ n c) else []
end Z
section
variable {m : Nat}
theorem rowB_own {β : Type} (n₀ B : Nat) (t : TypeId) (f : β → List Z.BS) : Own (fun s W => ∃ v, Blk W B t #[v] ∧ OB W n₀ v (f s)) := by
  rintro s X Y row ⟨v, hv, hr⟩ hg hrow
  refine ⟨v, hv.kept hg (fun e' => ?_), OL.kept hr hg ?_⟩
  · obtain ⟨o, ho, hc⟩ := hrow B e'.symm
    rw [show X.heap[B]? = _ from hv] at ho; cases ho; cases hc
  · cases hb : v.ownBlock with
    | none => exact .inl rfl
    | some g =>
      refine .inr fun e' => ?_
      obtain ⟨o, ho, hc⟩ := hrow g e'.symm
      obtain ⟨cs, hcs⟩ := hr.cells_ g hb
      rw [hcs] at ho; cases ho; cases hc
/-- The words of the nodes so far. -/
def wdN {w : World} (at_ : Z.CN m → List Z.BS) (pre : List (On (Os (m := m) w))) : List Z.BS := pre.flatMap fun x => at_ x.1.r.a
theorem wdN_all {w : World} (at_ : Z.CN m → List Z.BS) {n : Nat} {c : Z.Co m n} {r : CR m} (hc : CV w n c r) {ys : List (On (Os (m := m) w))} (h : ys.map Subtype.val = enum w n c r) : wdN at_ ys = Z.allW at_ n c := by
  unfold wdN Z.allW
  rw [← enum_map n c r hc, ← h, List.flatMap_map, List.flatMap_map]
theorem wdN_len {w : World} (at_ : Z.CN m → List Z.BS) (ha : ∀ t, (at_ t).length ≤ 2) : ∀ pre : List (On (Os (m := m) w)), (wdN at_ pre).length ≤ 2 * pre.length
  | [] => by simp [wdN]
  | x :: r => by
    have h1 := wdN_len at_ ha r
    have h2 := ha x.1.r.a
    unfold wdN at h1 ⊢
    rw [List.flatMap_cons, List.length_append, List.length_cons]
    omega
theorem Z.pw_len (t : Z.CN m) : (Z.pw t).length ≤ 2 := by
  unfold Z.pw
  rw [List.length_map]
  exact List.length_filter_le _ _
theorem Z.mw_len (t : Z.CN m) : (Z.mw t).length ≤ 2 := by
  unfold Z.mw
  split
  · rw [List.length_map]
    have := List.length_filter_le Z.ne0 [t.nm]
    simp only [List.length_cons, List.length_nil] at this
    omega
  · simp

theorem atp_any (t : Z.CN m) (u dv sv : Value) (w : World) (hu : ∃ A k c, u = .slice A k c) (hd : ∃ A k c, dv = .slice A k c) (hs : ∃ A k c, sv = .slice A k c) :
    Calls Tryd.prog 48 #[.agg #[.int .u8 t.k, .string t.fr, .string t.tu, .string t.nm, .int .u8 t.ex.top.k, .string t.ex.top.rat, .string t.ex.top.name, .int .i64 t.ex.top.date, u, .int .i64 t.date, dv, sv]] w fun e w' => ∃ v l, e = .returned v ∧ OL 1 sE 9 w' w.heap.size v l ∧ l.length ≤ 2 ∧ (l.filter Z.ne0).map Z.bytesW = Z.pw t ∧ Below w.heap.size w w' := by
  obtain ⟨Au, ku, cu, rfl⟩ := hu
  obtain ⟨Ad, kd, cd, rfl⟩ := hd
  obtain ⟨As, ks, cs, rfl⟩ := hs
  have BX := Blk.new w 29 #[.int .u8 t.k, .string t.fr, .string t.tu, .string t.nm, .int .u8 t.ex.top.k, .string t.ex.top.rat, .string t.ex.top.name, .int .i64 t.ex.top.date, .slice Au ku cu, .int .i64 t.date, .slice Ad kd cd, .slice As ks cs]
  have hb1 := (Below.refl _ w).alloc (Nat.le_refl w.heap.size) (.cells #[.int .u8 t.k, .string t.fr, .string t.tu, .string t.nm, .int .u8 t.ex.top.k, .string t.ex.top.rat, .string t.ex.top.name, .int .i64 t.ex.top.date, .slice Au ku cu, .int .i64 t.date, .slice Ad kd cd, .slice As ks cs] 29)
  have c0 := BX.cell 0
  have c1 := BX.cell 1
  have c2 := BX.cell 2
  have c3 := BX.cell 3
  go_enter Tryd.func48, Tryd.ntmps48
  go_wp2_with fail
  go_ret
  have h := OL.lit (e := 9) sE_len (w.alloc (.cells #[.int .u8 t.k, .string t.fr, .string t.tu, .string t.nm, .int .u8 t.ex.top.k, .string t.ex.top.rat, .string t.ex.top.name, .int .i64 t.ex.top.date, .slice Au ku cu, .int .i64 t.date, .slice Ad kd cd, .slice As ks cs] 29)) [t.fr, t.tu] 2 #[.string t.fr, .string t.tu] rfl rfl (by simp)
  rw [World.size_alloc] at h
  exact ⟨_, [t.fr, t.tu], rfl, OL.mono h (Nat.le_succ _), by simp, rfl, hb1.alloc hb1.size _⟩
set_option maxRecDepth 100000 in
set_option maxHeartbeats 4000000 in
theorem wparties_any (n : Nat) (c : Z.Co m (n + 1)) (r : CR m) (w : World) (hc : CV w (n + 1) c r) (hL : Lay w) (hV : HasV w) (hs : Z.CSm (n + 1) c) :
    Calls Tryd.prog 47 #[r.ag, .func (.func 48) #[] #[]] w fun e w' => ∃ v, e = .returned (.tuple #[v, .int .i64 (Z.coE (n + 1) c)]) ∧ OB w' w.heap.size v (Z.wordsL Z.pw (n + 1) c) ∧ Below w.heap.size w w' := by
  obtain ⟨a, u, dv, sv⟩ := r
  obtain ⟨Au, ku, cu, rfl⟩ := hc.shape.1
  obtain ⟨Ad, kd, cd, rfl⟩ := hc.shape.2.1
  obtain ⟨As, ks, cs, rfl⟩ := hc.shape.2.2
  have HCK := Lib.hid (fun W (h : Below w.heap.size w W) => ccheck_any n c ⟨a, .slice Au ku cu, .slice Ad kd cd, .slice As ks cs⟩ W (CV.below h _ hc) (hL.below h) (hV.below h) hs)
  unfold CR.ag at HCK ⊢
  simp only at HCK ⊢
  have hWL : Z.wordsL Z.pw (n + 1) c = if Z.coE (n + 1) c = 0 then Z.uniqW (Z.allW Z.pw (n + 1) c) else [] := rfl
  have HWL := Lib.hid hWL
  have hlen : (enum w (n + 1) c ⟨a, .slice Au ku cu, .slice Ad kd cd, .slice As ks cs⟩).length ≤ 1500 := by rw [enum_len hc, Z.coNodes_len]; exact hs.cnt
  clear hWL
  generalize Z.wordsL Z.pw (n + 1) c = L at *
  generalize Z.coE (n + 1) c = E at *
  have hB2 : Below w.heap.size w ((w.alloc (.cells #[.int .u8 a.k, .string a.fr, .string a.tu, .string a.nm, .int .u8 a.ex.top.k, .string a.ex.top.rat, .string a.ex.top.name, .int .i64 a.ex.top.date, .slice Au ku cu, .int .i64 a.date, .slice Ad kd cd, .slice As ks cs] 29)).alloc (.cells #[.func (.func 48) #[] #[]] 65)) := ((Below.refl _ w).alloc (Nat.le_refl _) _).alloc (by simp) _
  have bx := (Blk.new w 29 #[.int .u8 a.k, .string a.fr, .string a.tu, .string a.nm, .int .u8 a.ex.top.k, .string a.ex.top.rat, .string a.ex.top.name, .int .i64 a.ex.top.date, .slice Au ku cu, .int .i64 a.date, .slice Ad kd cd, .slice As ks cs]).alloc (.cells #[.func (.func 48) #[] #[]] 65)
  have bf : Blk ((w.alloc (.cells #[.int .u8 a.k, .string a.fr, .string a.tu, .string a.nm, .int .u8 a.ex.top.k, .string a.ex.top.rat, .string a.ex.top.name, .int .i64 a.ex.top.date, .slice Au ku cu, .int .i64 a.date, .slice Ad kd cd, .slice As ks cs] 29)).alloc (.cells #[.func (.func 48) #[] #[]] 65)) (w.heap.size + 1) 65 #[.func (.func 48) #[] #[]] := by
    have h := Blk.new (w.alloc (.cells #[.int .u8 a.k, .string a.fr, .string a.tu, .string a.nm, .int .u8 a.ex.top.k, .string a.ex.top.rat, .string a.ex.top.name, .int .i64 a.ex.top.date, .slice Au ku cu, .int .i64 a.date, .slice Ad kd cd, .slice As ks cs] 29)) 65 #[.func (.func 48) #[] #[]]
    rwa [World.size_alloc] at h
  refine (callsIn_wide (n := 6)).1 ?_
  refine callsIn_of_wp_marks Tryd.func47 rfl trivial ?_ rfl
  simp only [Tryd.ntmps47, List.size_toArray, List.length_cons, List.length_nil, Nat.reduceAdd, Nat.reduceSub, Array.replicate_succ, Array.replicate_zero, List.push_toArray, List.append_toArray, List.nil_append, List.cons_append]
  have d0 := bx.cell 0
  have d1 := bx.cell 1
  have d2 := bx.cell 2
  have d3 := bx.cell 3
  have d4 := bx.cell 4
  have d5 := bx.cell 5
  have d6 := bx.cell 6
  have d7 := bx.cell 7
  have d8 := bx.cell 8
  have d9 := bx.cell 9
  have d10 := bx.cell 10
  have d11 := bx.cell 11
  gi_wp2_with fail
  refine ⟨trivial, (callsIn_wide.2 (HCK.out _ hB2)).mono ?_⟩
  rintro e W3 ⟨rfl, hb3⟩
  have bx3 := bx.below hb3
  have bf3 := bf.below hb3
  have hB3 := hB2.trans (hb3.mono hB2.size)
  clear d0 d1 d2 d3 d4 d5 d6 d7 d8 d9 d10 d11 bx bf hb3 hB2 HCK
  by_cases hE : E = 0
  rotate_left
  · have HR : Hid (L = []) := Lib.hid (HWL.out.trans (if_neg hE))
    have hE' : (E == 0) = false := by rw [beq_eq_false_iff_ne]; exact hE
    clear hE HWL
    gi_wp2_with fail
    exact ⟨.tuple #[.slice none 0 0, .int .i64 E], by simp [results, Tryd.f47, go_sem], _, rfl, by rw [HR.out]; exact OL.nil_, hB3⟩
  subst hE
  have HR : Hid (L = Z.uniqW (Z.allW Z.pw (n + 1) c)) := Lib.hid (HWL.out.trans (if_pos rfl))
  clear HWL
  have bx4 := bx3.alloc (.cells #[.slice none 0 0] 37)
  have d0 := bx4.cell 0
  have d1 := bx4.cell 1
  have d2 := bx4.cell 2
  have d3 := bx4.cell 3
  have d4 := bx4.cell 4
  have d5 := bx4.cell 5
  have d6 := bx4.cell 6
  have d7 := bx4.cell 7
  have d8 := bx4.cell 8
  have d9 := bx4.cell 9
  have d10 := bx4.cell 10
  have d11 := bx4.cell 11
  gi_wp2_with fail
  refine ⟨trivial, (callsIn_wide.2 (nodes_any a _ _ _ _ ⟨_, _, _, rfl⟩ ⟨_, _, _, rfl⟩ ⟨_, _, _, rfl⟩)).mono ?_⟩
  rintro e W0 ⟨rfl, rfl⟩
  clear d0 d1 d2 d3 d4 d5 d6 d7 d8 d9 d10 d11 bx3 bx4
  gi_wp2_with fail
  have hB0 : Below w.heap.size w ((W3.alloc (.cells #[.slice none 0 0] 37)).alloc (.cells #[.int .u8 a.k, .string a.fr, .string a.tu, .string a.nm, .int .u8 a.ex.top.k, .string a.ex.top.rat, .string a.ex.top.name, .int .i64 a.ex.top.date, .slice Au ku cu, .int .i64 a.date, .slice Ad kd cd, .slice As ks cs] 29)) := (hB3.alloc hB3.size _).alloc (by rw [World.size_alloc]; exact Nat.le_succ_of_le hB3.size) _
  have bl := (Blk.new W3 37 #[.slice none 0 0]).alloc (.cells #[.int .u8 a.k, .string a.fr, .string a.tu, .string a.nm, .int .u8 a.ex.top.k, .string a.ex.top.rat, .string a.ex.top.name, .int .i64 a.ex.top.date, .slice Au ku cu, .int .i64 a.date, .slice Ad kd cd, .slice As ks cs] 29)
  have bf0 := (bf3.alloc (.cells #[.slice none 0 0] 37)).alloc (.cells #[.int .u8 a.k, .string a.fr, .string a.tu, .string a.nm, .int .u8 a.ex.top.k, .string a.ex.top.rat, .string a.ex.top.name, .int .i64 a.ex.top.date, .slice Au ku cu, .int .i64 a.date, .slice Ad kd cd, .slice As ks cs] 29)
  have bc : Blk ((W3.alloc (.cells #[.slice none 0 0] 37)).alloc (.cells #[.int .u8 a.k, .string a.fr, .string a.tu, .string a.nm, .int .u8 a.ex.top.k, .string a.ex.top.rat, .string a.ex.top.name, .int .i64 a.ex.top.date, .slice Au ku cu, .int .i64 a.date, .slice Ad kd cd, .slice As ks cs] 29)) (W3.heap.size + 1) 29 #[.int .u8 a.k, .string a.fr, .string a.tu, .string a.nm, .int .u8 a.ex.top.k, .string a.ex.top.rat, .string a.ex.top.name, .int .i64 a.ex.top.date, .slice Au ku cu, .int .i64 a.date, .slice Ad kd cd, .slice As ks cs] := by
    have h := Blk.new (W3.alloc (.cells #[.slice none 0 0] 37)) 29 #[.int .u8 a.k, .string a.fr, .string a.tu, .string a.nm, .int .u8 a.ex.top.k, .string a.ex.top.rat, .string a.ex.top.name, .int .i64 a.ex.top.date, .slice Au ku cu, .int .i64 a.date, .slice Ad kd cd, .slice As ks cs]
    rwa [World.size_alloc] at h
  have hl3 := bf3.lt
  generalize ((W3.alloc (.cells #[.slice none 0 0] 37)).alloc (.cells #[.int .u8 a.k, .string a.fr, .string a.tu, .string a.nm, .int .u8 a.ex.top.k, .string a.ex.top.rat, .string a.ex.top.name, .int .i64 a.ex.top.date, .slice Au ku cu, .int .i64 a.date, .slice Ad kd cd, .slice As ks cs] 29)) = W0 at *
  have lc := bc.lt
  have hst := nodes_stops (E := fun k => k = W3.heap.size) (n + 1) (6 - 1) w W0 c ⟨a, .slice Au ku cu, .slice Ad kd cd, .slice As ks cs⟩ (W3.heap.size + 1) hc (os_of hc hs) ((AG.refl w).of_below hB0) (fun k hk => by omega) bc
  have HALL := Lib.hid (fun ys h => wdN_all Z.pw hc (ys := ys) h)
  refine rangeFunc_asg (F := Fence.wide) rfl (by omega) (gf := 67) (lb := #[.pointer (some ⟨W3.heap.size + 1, 0, none⟩)]) rfl trivial (enters_of Tryd.func67 (by kernel_rfl) rfl)
    hst (fun h k => Kq.trans h k) (Kq.put hB0.size) (Below.refl _ _) (fun _ => rfl)
    (fun pre W => (∃ v, Blk W W3.heap.size 37 #[v] ∧ OB W w.heap.size v (wdN Z.pw pre)) ∧ (Blk W (w.heap.size + 1) 65 #[.func (.func 48) #[] #[]] ∧ Below w.heap.size w W))
    (OwnFrom.and (Own.from (rowB_own w.heap.size W3.heap.size 37 (fun pre : List (On (Os (m := m) w)) => wdN Z.pw pre)) _) (OwnFrom.and (Own.from (blk_own (w.heap.size + 1) 65 (fun _ : List (On (Os (m := m) w)) => #[.func (.func 48) #[] #[]])) _) (ownFrom_below (Nat.le_refl _) hB0.size)))
    ⟨⟨_, bl, OL.nil_⟩, bf0, hB0⟩
    (fun pre x a' W => ∃ bx s0 s1 s2 s4 s5 s6 s9 s10 s11 s12 s13 s14 s15 s16 s17 s18 s19 s20 s21 s22 s23 s24 s25 s26 s27 s28 s29 s30 s31 s32 s33 s34 s35 s36 s37, a' = { tmps := #[s0, s1, s2, .pointer (some ⟨w.heap.size + 1, 0, none⟩), s4, s5, s6, .pointer (some ⟨W3.heap.size, 0, none⟩), .pointer (some ⟨bx, 0, none⟩), s9, s10, s11, s12, s13, s14, s15, s16, s17, s18, s19, s20, s21, s22, s23, s24, s25, s26, s27, s28, s29, s30, s31, s32, s33, s34, s35, s36, s37], defers := [] } ∧ (Blk W bx 29 #[.int .u8 x.1.r.a.k, .string x.1.r.a.fr, .string x.1.r.a.tu, .string x.1.r.a.nm, .int .u8 x.1.r.a.ex.top.k, .string x.1.r.a.ex.top.rat, .string x.1.r.a.ex.top.name, .int .i64 x.1.r.a.ex.top.date, x.1.r.u, .int .i64 x.1.r.a.date, x.1.r.dv, x.1.r.sv] ∧ (∃ v, Blk W W3.heap.size 37 #[v] ∧ OB W w.heap.size v (wdN Z.pw pre)) ∧ (Blk W (w.heap.size + 1) 65 #[.func (.func 48) #[] #[]] ∧ Below w.heap.size w W)))
    (fun pre x a' s X Y row h hg hr => by
      obtain ⟨bx, s0, s1, s2, s4, s5, s6, s9, s10, s11, s12, s13, s14, s15, s16, s17, s18, s19, s20, s21, s22, s23, s24, s25, s26, s27, s28, s29, s30, s31, s32, s33, s34, s35, s36, s37, h1, h2⟩ := h
      exact ⟨bx, s0, s1, s2, s4, s5, s6, s9, s10, s11, s12, s13, s14, s15, s16, s17, s18, s19, s20, s21, s22, s23, s24, s25, s26, s27, s28, s29, s30, s31, s32, s33, s34, s35, s36, s37, h1, OwnFrom.and (Own.from (blk_own bx 29 (fun _ : Unit => #[.int .u8 x.1.r.a.k, .string x.1.r.a.fr, .string x.1.r.a.tu, .string x.1.r.a.nm, .int .u8 x.1.r.a.ex.top.k, .string x.1.r.a.ex.top.rat, .string x.1.r.a.ex.top.name, .int .i64 x.1.r.a.ex.top.date, x.1.r.u, .int .i64 x.1.r.a.date, x.1.r.dv, x.1.r.sv])) _) (OwnFrom.and (Own.from (rowB_own w.heap.size W3.heap.size 37 (fun _ : Unit => wdN Z.pw pre)) _) (OwnFrom.and (Own.from (blk_own (w.heap.size + 1) 65 (fun _ : Unit => #[.func (.func 48) #[] #[]])) _) (ownFrom_below (Nat.le_refl _) hB0.size))) () X Y row h2 hg hr⟩) ?assign ?body ?done
  case assign =>
    rintro l pre ⟨⟨⟨t, u', dv', sv'⟩, ns⟩, hok, hsm⟩ W K ⟨⟨v, hv, hrow⟩, vf, hBW⟩ hK
    have hx1 : XV w (m + 1) t.ex (t.ex.top, u') := hok.ex
    have hx2 : SD w dv' t.dates := hok.dates
    obtain ⟨A3, c3, hx3⟩ := hok.sub
    have hx3' : sv' = .slice A3 ns c3 := hx3
    clear hx3
    obtain ⟨Au', ku', cu', rfl⟩ := hx1.shape
    obtain ⟨Ad', cd', rfl, _⟩ := hx2.shape
    subst hx3'
    gi_wp2_with fail
    exact hK _ _ ((KeepsOthers.alloc _ _).from _) (Kq.of_below hBW.size ((Below.refl _ W).alloc (Nat.le_refl _) _)) ⟨W.heap.size, _, _, _, _, _, _, _, _, _, _, _, _, _, _, _, _, _, _, _, _, _, _, _, _, _, _, _, _, _, _, _, _, _, _, _, rfl, Blk.new W 29 _, ⟨v, hv.alloc _, OL.alloc hrow _⟩, vf.alloc _, hBW.alloc hBW.size _⟩
  case body =>
    rintro l pre ⟨⟨⟨t, u', dv', sv'⟩, ns⟩, hok, hsm⟩ a' W ⟨bx, s0, s1, s2, s4, s5, s6, s9, s10, s11, s12, s13, s14, s15, s16, s17, s18, s19, s20, s21, s22, s23, s24, s25, s26, s27, s28, s29, s30, s31, s32, s33, s34, s35, s36, s37, rfl, vx, ⟨v, hv, hrow⟩, vf, hBW⟩ hpl
    have hx1 : XV w (m + 1) t.ex (t.ex.top, u') := hok.ex
    have hx2 : SD w dv' t.dates := hok.dates
    obtain ⟨A3, c3, hx3⟩ := hok.sub
    have hx3' : sv' = .slice A3 ns c3 := hx3
    clear hx3
    obtain ⟨Au', ku', cu', rfl⟩ := hx1.shape
    obtain ⟨Ad', cd', rfl, _⟩ := hx2.shape
    subst hx3'
    have HAT := Lib.hid (atp_any t (.slice Au' ku' cu') (.slice Ad' t.dates.length cd') (.slice A3 ns c3) W ⟨_, _, _, rfl⟩ ⟨_, _, _, rfl⟩ ⟨_, _, _, rfl⟩)
    have HSN : Hid (wdN Z.pw (pre ++ [(⟨⟨⟨t, .slice Au' ku' cu', .slice Ad' t.dates.length cd', .slice A3 ns c3⟩, ns⟩, hok, hsm⟩ : On (Os (m := m) w))]) = wdN Z.pw pre ++ Z.pw t) := Lib.hid (by unfold wdN; rw [List.flatMap_append]; simp)
    have HLN : Hid ((wdN Z.pw pre).length ≤ 3000) := Lib.hid (by have := wdN_len Z.pw Z.pw_len pre; omega)
    generalize wdN Z.pw pre = wd at *
    have x0 := vx.cell 0
    have x1 := vx.cell 1
    have x2 := vx.cell 2
    have x3 := vx.cell 3
    have x4 := vx.cell 4
    have x5 := vx.cell 5
    have x6 := vx.cell 6
    have x7 := vx.cell 7
    have x8 := vx.cell 8
    have x9 := vx.cell 9
    have x10 := vx.cell 10
    have x11 := vx.cell 11
    have f0 := vf.cell 0
    gi_wp2_with fail
    refine ⟨trivial, (callsIn_wide.2 HAT.out).mono ?_⟩
    rintro e W2 ⟨v2, l2, rfl, hO2, hl2, hat2, hb2⟩
    obtain ⟨A2, c2, rfl⟩ := hO2.shape
    rw [← hat2] at HSN
    have HK0 : Hid (∀ g, v.ownBlock = some g → (Value.slice A2 l2.length c2).ownBlock ≠ some g) := Lib.hid (fun g hg h2 => by
      have h3 := (hrow.lt_ g hg).2
      have h4 := (hO2.lt_ g h2).1
      omega)
    have hv2 := hv.below hb2
    have vf2 := vf.below hb2
    have hrow2 := OL.below hrow hb2
    have hB5 := hBW.trans (hb2.mono hBW.size)
    have HKO := Lib.hid (keeps_below hb2)
    have HKQ : Hid (Kq (fun k => k = W3.heap.size) w.heap.size W W2) := Lib.hid (Kq.of_below hBW.size hb2)
    have HO2 := Lib.hid hO2
    have HROW := Lib.hid hrow2
    clear x0 x1 x2 x3 x4 x5 x6 x7 x8 x9 x10 x11 f0 HAT hat2 hb2 hrow vf hv vx hrow2 hO2
    gi_wp2_with fail
    gi_loopw [23] (fun iv wr => ∃ (j : Nat), iv = .int .i64 j ∧ j ≤ l2.length ∧ (∃ v, Blk wr W3.heap.size 37 #[v] ∧ OB wr w.heap.size v (wd ++ ((l2.take j).filter Z.ne0).map Z.bytesW) ∧ Hid (∀ g, v.ownBlock = some g → (Value.slice A2 l2.length c2).ownBlock ≠ some g)) ∧ Hid (OL 1 sE 9 wr W.heap.size (.slice A2 l2.length c2) l2) ∧ Blk wr (w.heap.size + 1) 65 #[.func (.func 48) #[] #[]] ∧ Below w.heap.size w wr ∧ Hid (KeepsOthers W wr) ∧ Hid (Kq (fun k => k = W3.heap.size) w.heap.size W wr)) (fun iv _ => l2.length - (intOf iv).toNat)
    case atStart => exact ⟨0, rfl, Nat.zero_le _, ⟨v, hv2, (by rw [List.take_zero, List.filter_nil, List.map_nil, List.append_nil]; exact HROW.out), HK0⟩, HO2, vf2, hB5, HKO, HKQ⟩
    case round =>
      obtain ⟨j, rfl, hj, ⟨vj, hvj, hrj, HKj⟩, HOj, vfj, hBj, HKOj, HKQj⟩ := hrel
      by_cases hlt : j < l2.length
      · have hz : l2[j]? = some l2[j] := List.getElem?_eq_getElem hlt
        have HT : Hid (((l2.take (j + 1)).filter Z.ne0).map Z.bytesW = ((l2.take j).filter Z.ne0).map Z.bytesW ++ (if Z.ne0 l2[j] then [Z.bytesW l2[j]] else [])) := Lib.hid (by
          rw [List.take_add_one, hz, List.filter_append, List.map_append]
          congr 1
          cases h : Z.ne0 l2[j] <;> simp [h])
        have HLW : Hid ((wd ++ ((l2.take j).filter Z.ne0).map Z.bytesW).length ≤ 20000) := Lib.hid (by
          rw [List.length_append, List.length_map]
          have h1 := List.length_filter_le Z.ne0 (l2.take j)
          rw [List.length_take] at h1
          have := HLN.out
          omega)
        obtain ⟨b, o, hA2, hbl, q0⟩ := SL.cell1 (OL.sl sE_len HOj.out) hz rfl
        subst hA2
        clear hz
        generalize l2[j] = y at *
        generalize hcur : wd ++ ((l2.take j).filter Z.ne0).map Z.bytesW = cur at *
        have HCUR := Lib.hid hcur
        clear hcur
        have hi0 : (0 : Int) ≤ (j : Int) := by omega
        have hi1 : (j : Int) < (l2.length : Int) := by omega
        have hye := Z.isE y
        by_cases hy : y = Z.e0
        · rw [decide_eq_true hy] at hye
          have hn : Z.ne0 y = false := by unfold Z.ne0; rw [decide_eq_true hy]; rfl
          rw [hn] at HT
          have HT2 := Lib.hid HT.out
          clear hy HT hn
          gi_wp2_with fail
          go_roundw
          case rel => exact ⟨j + 1, by go_num, by omega, ⟨vj, hvj, (by rw [HT2.out]; rw [if_neg Bool.false_ne_true, List.append_nil, HCUR.out]; exact hrj), HKj⟩, HOj, vfj, hBj, HKOj, HKQj⟩
          case measure => simp [intOf]; omega
        · rw [decide_eq_false hy] at hye
          have hn : Z.ne0 y = true := by unfold Z.ne0; rw [decide_eq_false hy]; rfl
          rw [hn, if_pos rfl] at HT
          have HT2 := Lib.hid HT.out
          clear hy HT hn
          have kj := hvj.cell 0
          have hnol := Lib.hid (hvj.not_ol (show 37 ≠ 9 by decide) hrj)
          gi_wp2_with (gi_at_builtin; go_loud (refine appIn (Z.bytesW y) (bE_one _) (bE_len _) rfl _ _ rfl infoStr (by omega) (by omega) Tryd.underlying37 wr w.heap.size vj cur _ (by rw [bE_bytes]) rfl hrj rfl HLW.out hBj.size ?_; intro v6 w6 hO6 hb6 hg6 hat6; obtain ⟨A6, c6, hs6⟩ := OL.shape hO6; rw [List.length_append, List.length_singleton] at hs6; subst hs6; have hv6 := hvj.kept hg6 hnol.out; have k6 := hv6.cell 0; have k7 := hv6.frozen 0))
          have hne1 : w.heap.size + 1 ≠ W3.heap.size := by omega
          have hv7 : Blk (w6.setCell ⟨W3.heap.size, 0, none⟩ (.slice A6 (cur.length + 1) c6)) W3.heap.size 37 #[.slice A6 (cur.length + 1) c6] := hv6.set 0 _
          have gs7 := grownBy_setAt w6 W3.heap.size 0 (.slice A6 (cur.length + 1) c6)
          have hO7 := OL.kept hO6 gs7 (.inr (hv6.not_ol (show 37 ≠ 9 by decide) hO6).symm)
          have hO8 := OL.kept HOj.out hg6 (.inr (fun e => by
            have := HKj.out b (by rw [← e]; rfl)
            exact this rfl))
          have HO8 := Lib.hid (OL.kept hO8 gs7 (.inr (hv6.not_ol (show 37 ≠ 9 by decide) hO8).symm))
          have vf8 := (vfj.kept hg6 (vfj.not_ol (show 65 ≠ 9 by decide) hrj)).kept gs7 (by intro e; injection e with e; exact hne1 e)
          have hB8 := (hBj.trans hb6).setCell (p := ⟨W3.heap.size, 0, none⟩) (by simp only; have := hB3.size; omega) (.slice A6 (cur.length + 1) c6)
          have HKO8 := Lib.hid ((HKOj.out.trans (KeepsOthers.of_grownBy hg6 (fun j o ej hj => by
            obtain ⟨cs, hcs⟩ := OL.cells_ hrj j ej
            rw [hcs] at hj; cases hj; rfl))).trans (KeepsOthers.setCell w6 ⟨W3.heap.size, 0, none⟩ (.slice A6 (cur.length + 1) c6)))
          have HKQ8 := Lib.hid ((HKQj.out.trans (Kq.grown hBj.size hg6 (fun r er => ⟨(OL.lt_ hrj r er).1, fun cs hcs => by
            obtain ⟨cs', hcs'⟩ := OL.cells_ hrj r er
            rw [hcs] at hcs'
            simp only [Option.some.injEq, Obj.cells.injEq] at hcs'
            exact absurd hcs'.2.1 (by decide)⟩))).trans (Kq.set (E := fun k => k = W3.heap.size) (b := W3.heap.size) (j := 0) rfl (by have := hB3.size; omega) (.slice A6 (cur.length + 1) c6)))
          have HK8 : Hid (∀ g, (Value.slice A6 (cur.length + 1) c6).ownBlock = some g → (Value.slice (some ⟨b, o, none⟩) l2.length c2).ownBlock ≠ some g) := Lib.hid (fun g hg => by
            rcases hat6 with h | h
            · exact HKj.out g (h ▸ hg)
            · intro h2
              have h3 := (OL.lt_ HOj.out g h2).2
              rw [h] at hg
              injection hg with hg
              omega)
          go_roundw
          case rel => exact ⟨j + 1, by go_num, by omega, ⟨_, hv7, (by rw [HT2.out, ← List.append_assoc, HCUR.out]; exact hO7), HK8⟩, HO8, vf8, hB8, HKO8, HKQ8⟩
          case measure => simp [intOf]; omega
      · obtain rfl : j = l2.length := by omega
        rw [List.take_length] at hrj
        gi_wp2_with fail
        exact ⟨HKOj.out.from _, HKQj.out, ⟨vj, hvj, by rw [HSN.out]; exact hrj⟩, vfj, hBj⟩
  case done =>
    rintro D2 ys W hD hys ⟨⟨v, hv, hrow⟩, vf, hBW⟩ hK
    have hAL : (Z.allW Z.pw (n + 1) c).length ≤ 20000 := by
      rw [← HALL.out ys hys]
      have h1 := wdN_len Z.pw Z.pw_len ys
      have h2 : ys.length ≤ 1500 := by rw [← List.length_map (f := Subtype.val), hys]; exact hlen
      omega
    rw [HALL.out ys hys] at hrow
    generalize Z.allW Z.pw (n + 1) c = al at *
    have k0 := hv.cell 0
    have HRW := Lib.hid hrow
    clear hrow
    gi_wp2_with fail
    refine ⟨trivial, (callsIn_wide.2 (sort_own HRW.out hAL)).mono ?_⟩
    rintro e W5 ⟨rfl, hO5, hg5⟩
    have hv5 := hv.kept hg5 (hv.not_ol (show 37 ≠ 9 by decide) HRW.out)
    have k5 := hv5.cell 0
    have HO5 := Lib.hid hO5
    have HK5 := Lib.hid ((KeepsOthers.of_grownBy hg5 (fun j o ej hj => by
      obtain ⟨cs, hcs⟩ := OL.cells_ HRW.out j ej
      rw [hcs] at hj; cases hj; rfl)).same D2 _ hK rfl)
    have HB5 := Lib.hid (hBW.grown hg5 hBW.size (fun k hk => (OL.lt_ HRW.out k hk).1))
    clear k0 hO5
    gi_wp2_with fail
    refine ⟨trivial, (callsIn_wide.2 (compact_own HO5.out (by rw [List.length_mergeSort]; exact hAL))).mono ?_⟩
    rintro e W6 ⟨v6, rfl, hO6, hg6⟩
    have HK6 := Lib.hid ((KeepsOthers.of_grownBy hg6 (fun j o ej hj => by
      obtain ⟨cs, hcs⟩ := OL.cells_ HO5.out j ej
      rw [hcs] at hj; cases hj; rfl)).same D2 _ HK5.out rfl)
    have HB6 := Lib.hid (HB5.out.grown hg6 HB5.out.size (fun k hk => (OL.lt_ HO5.out k hk).1))
    have HO6 := Lib.hid hO6
    obtain ⟨A6, c6, rfl⟩ := OL.shape hO6
    clear hO6 hg6 k5 hv5 hg5
    gi_wp2_with fail
    refine ⟨by simp, .inl ⟨_, _, rfl, run_takeDeferred HK6.out, ?_⟩⟩
    refine ⟨.tuple #[.slice A6 (Lib.compact (al.mergeSort fun x y => decide (x ≤ y))).length c6, .int .i64 0], by simp [results, Tryd.f47, go_sem], _, rfl, ?_, HB6.out.trans (belowK_b (w := W0) hB0.size _ D2 _ _ hD HK6.out rfl rfl)⟩
    rw [HR.out]
    refine OL.kept HO6.out (grownBy_putObj' _ D2 (.deferred none)) (.inr fun e => ?_)
    obtain ⟨cs, hcs⟩ := OL.cells_ HO6.out D2 e
    rw [HK6.out] at hcs
    cases hcs

theorem atm_any (t : Z.CN m) (u dv sv : Value) (w : World) (hu : ∃ A k c, u = .slice A k c) (hd : ∃ A k c, dv = .slice A k c) (hs : ∃ A k c, sv = .slice A k c) :
    Calls Tryd.prog 50 #[.agg #[.int .u8 t.k, .string t.fr, .string t.tu, .string t.nm, .int .u8 t.ex.top.k, .string t.ex.top.rat, .string t.ex.top.name, .int .i64 t.ex.top.date, u, .int .i64 t.date, dv, sv]] w fun e w' => ∃ v l, e = .returned v ∧ OL 1 sE 9 w' w.heap.size v l ∧ l.length ≤ 2 ∧ (l.filter Z.ne0).map Z.bytesW = Z.mw t ∧ Below w.heap.size w w' := by
  obtain ⟨Au, ku, cu, rfl⟩ := hu
  obtain ⟨Ad, kd, cd, rfl⟩ := hd
  obtain ⟨As, ks, cs, rfl⟩ := hs
  have BX := Blk.new w 29 #[.int .u8 t.k, .string t.fr, .string t.tu, .string t.nm, .int .u8 t.ex.top.k, .string t.ex.top.rat, .string t.ex.top.name, .int .i64 t.ex.top.date, .slice Au ku cu, .int .i64 t.date, .slice Ad kd cd, .slice As ks cs]
  have hb1 := (Below.refl _ w).alloc (Nat.le_refl w.heap.size) (.cells #[.int .u8 t.k, .string t.fr, .string t.tu, .string t.nm, .int .u8 t.ex.top.k, .string t.ex.top.rat, .string t.ex.top.name, .int .i64 t.ex.top.date, .slice Au ku cu, .int .i64 t.date, .slice Ad kd cd, .slice As ks cs] 29)
  have c0 := BX.cell 0
  have c3 := BX.cell 3
  have HM : Hid (Z.mw t = if t.k = 2 then ([t.nm].filter Z.ne0).map Z.bytesW else []) := Lib.hid rfl
  by_cases hk : t.k = 2
  · rw [if_pos hk] at HM
    have hk' : (t.k == 2) = true := by rw [beq_iff_eq]; exact hk
    clear hk
    go_enter Tryd.func50, Tryd.ntmps50
    go_wp2_with fail
    go_ret
    have h := OL.lit (e := 9) sE_len (w.alloc (.cells #[.int .u8 t.k, .string t.fr, .string t.tu, .string t.nm, .int .u8 t.ex.top.k, .string t.ex.top.rat, .string t.ex.top.name, .int .i64 t.ex.top.date, .slice Au ku cu, .int .i64 t.date, .slice Ad kd cd, .slice As ks cs] 29)) [t.nm] 1 #[.string t.nm] rfl rfl (by simp)
    rw [World.size_alloc] at h
    exact ⟨_, [t.nm], rfl, OL.mono h (Nat.le_succ _), by simp, HM.out.symm, hb1.alloc hb1.size _⟩
  · rw [if_neg hk] at HM
    have hk' : (t.k == 2) = false := by rw [beq_eq_false_iff_ne]; exact hk
    clear hk
    go_enter Tryd.func50, Tryd.ntmps50
    go_wp2_with fail
    go_ret
    exact ⟨_, [], rfl, OL.nil_, by simp, HM.out.symm, hb1⟩
set_option maxRecDepth 100000 in
set_option maxHeartbeats 4000000 in
theorem wmoneys_any (n : Nat) (c : Z.Co m (n + 1)) (r : CR m) (w : World) (hc : CV w (n + 1) c r) (hL : Lay w) (hV : HasV w) (hs : Z.CSm (n + 1) c) :
    Calls Tryd.prog 47 #[r.ag, .func (.func 50) #[] #[]] w fun e w' => ∃ v, e = .returned (.tuple #[v, .int .i64 (Z.coE (n + 1) c)]) ∧ OB w' w.heap.size v (Z.wordsL Z.mw (n + 1) c) ∧ Below w.heap.size w w' := by
  obtain ⟨a, u, dv, sv⟩ := r
  obtain ⟨Au, ku, cu, rfl⟩ := hc.shape.1
  obtain ⟨Ad, kd, cd, rfl⟩ := hc.shape.2.1
  obtain ⟨As, ks, cs, rfl⟩ := hc.shape.2.2
  have HCK := Lib.hid (fun W (h : Below w.heap.size w W) => ccheck_any n c ⟨a, .slice Au ku cu, .slice Ad kd cd, .slice As ks cs⟩ W (CV.below h _ hc) (hL.below h) (hV.below h) hs)
  unfold CR.ag at HCK ⊢
  simp only at HCK ⊢
  have hWL : Z.wordsL Z.mw (n + 1) c = if Z.coE (n + 1) c = 0 then Z.uniqW (Z.allW Z.mw (n + 1) c) else [] := rfl
  have HWL := Lib.hid hWL
  have hlen : (enum w (n + 1) c ⟨a, .slice Au ku cu, .slice Ad kd cd, .slice As ks cs⟩).length ≤ 1500 := by rw [enum_len hc, Z.coNodes_len]; exact hs.cnt
  clear hWL
  generalize Z.wordsL Z.mw (n + 1) c = L at *
  generalize Z.coE (n + 1) c = E at *
  have hB2 : Below w.heap.size w ((w.alloc (.cells #[.int .u8 a.k, .string a.fr, .string a.tu, .string a.nm, .int .u8 a.ex.top.k, .string a.ex.top.rat, .string a.ex.top.name, .int .i64 a.ex.top.date, .slice Au ku cu, .int .i64 a.date, .slice Ad kd cd, .slice As ks cs] 29)).alloc (.cells #[.func (.func 50) #[] #[]] 65)) := ((Below.refl _ w).alloc (Nat.le_refl _) _).alloc (by simp) _
  have bx := (Blk.new w 29 #[.int .u8 a.k, .string a.fr, .string a.tu, .string a.nm, .int .u8 a.ex.top.k, .string a.ex.top.rat, .string a.ex.top.name, .int .i64 a.ex.top.date, .slice Au ku cu, .int .i64 a.date, .slice Ad kd cd, .slice As ks cs]).alloc (.cells #[.func (.func 50) #[] #[]] 65)
  have bf : Blk ((w.alloc (.cells #[.int .u8 a.k, .string a.fr, .string a.tu, .string a.nm, .int .u8 a.ex.top.k, .string a.ex.top.rat, .string a.ex.top.name, .int .i64 a.ex.top.date, .slice Au ku cu, .int .i64 a.date, .slice Ad kd cd, .slice As ks cs] 29)).alloc (.cells #[.func (.func 50) #[] #[]] 65)) (w.heap.size + 1) 65 #[.func (.func 50) #[] #[]] := by
    have h := Blk.new (w.alloc (.cells #[.int .u8 a.k, .string a.fr, .string a.tu, .string a.nm, .int .u8 a.ex.top.k, .string a.ex.top.rat, .string a.ex.top.name, .int .i64 a.ex.top.date, .slice Au ku cu, .int .i64 a.date, .slice Ad kd cd, .slice As ks cs] 29)) 65 #[.func (.func 50) #[] #[]]
    rwa [World.size_alloc] at h
  refine (callsIn_wide (n := 6)).1 ?_
  refine callsIn_of_wp_marks Tryd.func47 rfl trivial ?_ rfl
  simp only [Tryd.ntmps47, List.size_toArray, List.length_cons, List.length_nil, Nat.reduceAdd, Nat.reduceSub, Array.replicate_succ, Array.replicate_zero, List.push_toArray, List.append_toArray, List.nil_append, List.cons_append]
  have d0 := bx.cell 0
  have d1 := bx.cell 1
  have d2 := bx.cell 2
  have d3 := bx.cell 3
  have d4 := bx.cell 4
  have d5 := bx.cell 5
  have d6 := bx.cell 6
  have d7 := bx.cell 7
  have d8 := bx.cell 8
  have d9 := bx.cell 9
  have d10 := bx.cell 10
  have d11 := bx.cell 11
  gi_wp2_with fail
  refine ⟨trivial, (callsIn_wide.2 (HCK.out _ hB2)).mono ?_⟩
  rintro e W3 ⟨rfl, hb3⟩
  have bx3 := bx.below hb3
  have bf3 := bf.below hb3
  have hB3 := hB2.trans (hb3.mono hB2.size)
  clear d0 d1 d2 d3 d4 d5 d6 d7 d8 d9 d10 d11 bx bf hb3 hB2 HCK
  by_cases hE : E = 0
  rotate_left
  · have HR : Hid (L = []) := Lib.hid (HWL.out.trans (if_neg hE))
    have hE' : (E == 0) = false := by rw [beq_eq_false_iff_ne]; exact hE
    clear hE HWL
    gi_wp2_with fail
    exact ⟨.tuple #[.slice none 0 0, .int .i64 E], by simp [results, Tryd.f47, go_sem], _, rfl, by rw [HR.out]; exact OL.nil_, hB3⟩
  subst hE
  have HR : Hid (L = Z.uniqW (Z.allW Z.mw (n + 1) c)) := Lib.hid (HWL.out.trans (if_pos rfl))
  clear HWL
  have bx4 := bx3.alloc (.cells #[.slice none 0 0] 37)
  have d0 := bx4.cell 0
  have d1 := bx4.cell 1
  have d2 := bx4.cell 2
  have d3 := bx4.cell 3
  have d4 := bx4.cell 4
  have d5 := bx4.cell 5
  have d6 := bx4.cell 6
  have d7 := bx4.cell 7
  have d8 := bx4.cell 8
  have d9 := bx4.cell 9
  have d10 := bx4.cell 10
  have d11 := bx4.cell 11
  gi_wp2_with fail
  refine ⟨trivial, (callsIn_wide.2 (nodes_any a _ _ _ _ ⟨_, _, _, rfl⟩ ⟨_, _, _, rfl⟩ ⟨_, _, _, rfl⟩)).mono ?_⟩
  rintro e W0 ⟨rfl, rfl⟩
  clear d0 d1 d2 d3 d4 d5 d6 d7 d8 d9 d10 d11 bx3 bx4
  gi_wp2_with fail
  have hB0 : Below w.heap.size w ((W3.alloc (.cells #[.slice none 0 0] 37)).alloc (.cells #[.int .u8 a.k, .string a.fr, .string a.tu, .string a.nm, .int .u8 a.ex.top.k, .string a.ex.top.rat, .string a.ex.top.name, .int .i64 a.ex.top.date, .slice Au ku cu, .int .i64 a.date, .slice Ad kd cd, .slice As ks cs] 29)) := (hB3.alloc hB3.size _).alloc (by rw [World.size_alloc]; exact Nat.le_succ_of_le hB3.size) _
  have bl := (Blk.new W3 37 #[.slice none 0 0]).alloc (.cells #[.int .u8 a.k, .string a.fr, .string a.tu, .string a.nm, .int .u8 a.ex.top.k, .string a.ex.top.rat, .string a.ex.top.name, .int .i64 a.ex.top.date, .slice Au ku cu, .int .i64 a.date, .slice Ad kd cd, .slice As ks cs] 29)
  have bf0 := (bf3.alloc (.cells #[.slice none 0 0] 37)).alloc (.cells #[.int .u8 a.k, .string a.fr, .string a.tu, .string a.nm, .int .u8 a.ex.top.k, .string a.ex.top.rat, .string a.ex.top.name, .int .i64 a.ex.top.date, .slice Au ku cu, .int .i64 a.date, .slice Ad kd cd, .slice As ks cs] 29)
  have bc : Blk ((W3.alloc (.cells #[.slice none 0 0] 37)).alloc (.cells #[.int .u8 a.k, .string a.fr, .string a.tu, .string a.nm, .int .u8 a.ex.top.k, .string a.ex.top.rat, .string a.ex.top.name, .int .i64 a.ex.top.date, .slice Au ku cu, .int .i64 a.date, .slice Ad kd cd, .slice As ks cs] 29)) (W3.heap.size + 1) 29 #[.int .u8 a.k, .string a.fr, .string a.tu, .string a.nm, .int .u8 a.ex.top.k, .string a.ex.top.rat, .string a.ex.top.name, .int .i64 a.ex.top.date, .slice Au ku cu, .int .i64 a.date, .slice Ad kd cd, .slice As ks cs] := by
    have h := Blk.new (W3.alloc (.cells #[.slice none 0 0] 37)) 29 #[.int .u8 a.k, .string a.fr, .string a.tu, .string a.nm, .int .u8 a.ex.top.k, .string a.ex.top.rat, .string a.ex.top.name, .int .i64 a.ex.top.date, .slice Au ku cu, .int .i64 a.date, .slice Ad kd cd, .slice As ks cs]
    rwa [World.size_alloc] at h
  have hl3 := bf3.lt
  generalize ((W3.alloc (.cells #[.slice none 0 0] 37)).alloc (.cells #[.int .u8 a.k, .string a.fr, .string a.tu, .string a.nm, .int .u8 a.ex.top.k, .string a.ex.top.rat, .string a.ex.top.name, .int .i64 a.ex.top.date, .slice Au ku cu, .int .i64 a.date, .slice Ad kd cd, .slice As ks cs] 29)) = W0 at *
  have lc := bc.lt
  have hst := nodes_stops (E := fun k => k = W3.heap.size) (n + 1) (6 - 1) w W0 c ⟨a, .slice Au ku cu, .slice Ad kd cd, .slice As ks cs⟩ (W3.heap.size + 1) hc (os_of hc hs) ((AG.refl w).of_below hB0) (fun k hk => by omega) bc
  have HALL := Lib.hid (fun ys h => wdN_all Z.mw hc (ys := ys) h)
  refine rangeFunc_asg (F := Fence.wide) rfl (by omega) (gf := 67) (lb := #[.pointer (some ⟨W3.heap.size + 1, 0, none⟩)]) rfl trivial (enters_of Tryd.func67 (by kernel_rfl) rfl)
    hst (fun h k => Kq.trans h k) (Kq.put hB0.size) (Below.refl _ _) (fun _ => rfl)
    (fun pre W => (∃ v, Blk W W3.heap.size 37 #[v] ∧ OB W w.heap.size v (wdN Z.mw pre)) ∧ (Blk W (w.heap.size + 1) 65 #[.func (.func 50) #[] #[]] ∧ Below w.heap.size w W))
    (OwnFrom.and (Own.from (rowB_own w.heap.size W3.heap.size 37 (fun pre : List (On (Os (m := m) w)) => wdN Z.mw pre)) _) (OwnFrom.and (Own.from (blk_own (w.heap.size + 1) 65 (fun _ : List (On (Os (m := m) w)) => #[.func (.func 50) #[] #[]])) _) (ownFrom_below (Nat.le_refl _) hB0.size)))
    ⟨⟨_, bl, OL.nil_⟩, bf0, hB0⟩
    (fun pre x a' W => ∃ bx s0 s1 s2 s4 s5 s6 s9 s10 s11 s12 s13 s14 s15 s16 s17 s18 s19 s20 s21 s22 s23 s24 s25 s26 s27 s28 s29 s30 s31 s32 s33 s34 s35 s36 s37, a' = { tmps := #[s0, s1, s2, .pointer (some ⟨w.heap.size + 1, 0, none⟩), s4, s5, s6, .pointer (some ⟨W3.heap.size, 0, none⟩), .pointer (some ⟨bx, 0, none⟩), s9, s10, s11, s12, s13, s14, s15, s16, s17, s18, s19, s20, s21, s22, s23, s24, s25, s26, s27, s28, s29, s30, s31, s32, s33, s34, s35, s36, s37], defers := [] } ∧ (Blk W bx 29 #[.int .u8 x.1.r.a.k, .string x.1.r.a.fr, .string x.1.r.a.tu, .string x.1.r.a.nm, .int .u8 x.1.r.a.ex.top.k, .string x.1.r.a.ex.top.rat, .string x.1.r.a.ex.top.name, .int .i64 x.1.r.a.ex.top.date, x.1.r.u, .int .i64 x.1.r.a.date, x.1.r.dv, x.1.r.sv] ∧ (∃ v, Blk W W3.heap.size 37 #[v] ∧ OB W w.heap.size v (wdN Z.mw pre)) ∧ (Blk W (w.heap.size + 1) 65 #[.func (.func 50) #[] #[]] ∧ Below w.heap.size w W)))
    (fun pre x a' s X Y row h hg hr => by
      obtain ⟨bx, s0, s1, s2, s4, s5, s6, s9, s10, s11, s12, s13, s14, s15, s16, s17, s18, s19, s20, s21, s22, s23, s24, s25, s26, s27, s28, s29, s30, s31, s32, s33, s34, s35, s36, s37, h1, h2⟩ := h
      exact ⟨bx, s0, s1, s2, s4, s5, s6, s9, s10, s11, s12, s13, s14, s15, s16, s17, s18, s19, s20, s21, s22, s23, s24, s25, s26, s27, s28, s29, s30, s31, s32, s33, s34, s35, s36, s37, h1, OwnFrom.and (Own.from (blk_own bx 29 (fun _ : Unit => #[.int .u8 x.1.r.a.k, .string x.1.r.a.fr, .string x.1.r.a.tu, .string x.1.r.a.nm, .int .u8 x.1.r.a.ex.top.k, .string x.1.r.a.ex.top.rat, .string x.1.r.a.ex.top.name, .int .i64 x.1.r.a.ex.top.date, x.1.r.u, .int .i64 x.1.r.a.date, x.1.r.dv, x.1.r.sv])) _) (OwnFrom.and (Own.from (rowB_own w.heap.size W3.heap.size 37 (fun _ : Unit => wdN Z.mw pre)) _) (OwnFrom.and (Own.from (blk_own (w.heap.size + 1) 65 (fun _ : Unit => #[.func (.func 50) #[] #[]])) _) (ownFrom_below (Nat.le_refl _) hB0.size))) () X Y row h2 hg hr⟩) ?assign ?body ?done
  case assign =>
    rintro l pre ⟨⟨⟨t, u', dv', sv'⟩, ns⟩, hok, hsm⟩ W K ⟨⟨v, hv, hrow⟩, vf, hBW⟩ hK
    have hx1 : XV w (m + 1) t.ex (t.ex.top, u') := hok.ex
    have hx2 : SD w dv' t.dates := hok.dates
    obtain ⟨A3, c3, hx3⟩ := hok.sub
    have hx3' : sv' = .slice A3 ns c3 := hx3
    clear hx3
    obtain ⟨Au', ku', cu', rfl⟩ := hx1.shape
    obtain ⟨Ad', cd', rfl, _⟩ := hx2.shape
    subst hx3'
    gi_wp2_with fail
    exact hK _ _ ((KeepsOthers.alloc _ _).from _) (Kq.of_below hBW.size ((Below.refl _ W).alloc (Nat.le_refl _) _)) ⟨W.heap.size, _, _, _, _, _, _, _, _, _, _, _, _, _, _, _, _, _, _, _, _, _, _, _, _, _, _, _, _, _, _, _, _, _, _, _, rfl, Blk.new W 29 _, ⟨v, hv.alloc _, OL.alloc hrow _⟩, vf.alloc _, hBW.alloc hBW.size _⟩
  case body =>
    rintro l pre ⟨⟨⟨t, u', dv', sv'⟩, ns⟩, hok, hsm⟩ a' W ⟨bx, s0, s1, s2, s4, s5, s6, s9, s10, s11, s12, s13, s14, s15, s16, s17, s18, s19, s20, s21, s22, s23, s24, s25, s26, s27, s28, s29, s30, s31, s32, s33, s34, s35, s36, s37, rfl, vx, ⟨v, hv, hrow⟩, vf, hBW⟩ hpl
    have hx1 : XV w (m + 1) t.ex (t.ex.top, u') := hok.ex
    have hx2 : SD w dv' t.dates := hok.dates
    obtain ⟨A3, c3, hx3⟩ := hok.sub
    have hx3' : sv' = .slice A3 ns c3 := hx3
    clear hx3
    obtain ⟨Au', ku', cu', rfl⟩ := hx1.shape
    obtain ⟨Ad', cd', rfl, _⟩ := hx2.shape
    subst hx3'
    have HAT := Lib.hid (atm_any t (.slice Au' ku' cu') (.slice Ad' t.dates.length cd') (.slice A3 ns c3) W ⟨_, _, _, rfl⟩ ⟨_, _, _, rfl⟩ ⟨_, _, _, rfl⟩)
    have HSN : Hid (wdN Z.mw (pre ++ [(⟨⟨⟨t, .slice Au' ku' cu', .slice Ad' t.dates.length cd', .slice A3 ns c3⟩, ns⟩, hok, hsm⟩ : On (Os (m := m) w))]) = wdN Z.mw pre ++ Z.mw t) := Lib.hid (by unfold wdN; rw [List.flatMap_append]; simp)
    have HLN : Hid ((wdN Z.mw pre).length ≤ 3000) := Lib.hid (by have := wdN_len Z.mw Z.mw_len pre; omega)
    generalize wdN Z.mw pre = wd at *
    have x0 := vx.cell 0
    have x1 := vx.cell 1
    have x2 := vx.cell 2
    have x3 := vx.cell 3
    have x4 := vx.cell 4
    have x5 := vx.cell 5
    have x6 := vx.cell 6
    have x7 := vx.cell 7
    have x8 := vx.cell 8
    have x9 := vx.cell 9
    have x10 := vx.cell 10
    have x11 := vx.cell 11
    have f0 := vf.cell 0
    gi_wp2_with fail
    refine ⟨trivial, (callsIn_wide.2 HAT.out).mono ?_⟩
    rintro e W2 ⟨v2, l2, rfl, hO2, hl2, hat2, hb2⟩
    obtain ⟨A2, c2, rfl⟩ := hO2.shape
    rw [← hat2] at HSN
    have HK0 : Hid (∀ g, v.ownBlock = some g → (Value.slice A2 l2.length c2).ownBlock ≠ some g) := Lib.hid (fun g hg h2 => by
      have h3 := (hrow.lt_ g hg).2
      have h4 := (hO2.lt_ g h2).1
      omega)
    have hv2 := hv.below hb2
    have vf2 := vf.below hb2
    have hrow2 := OL.below hrow hb2
    have hB5 := hBW.trans (hb2.mono hBW.size)
    have HKO := Lib.hid (keeps_below hb2)
    have HKQ : Hid (Kq (fun k => k = W3.heap.size) w.heap.size W W2) := Lib.hid (Kq.of_below hBW.size hb2)
    have HO2 := Lib.hid hO2
    have HROW := Lib.hid hrow2
    clear x0 x1 x2 x3 x4 x5 x6 x7 x8 x9 x10 x11 f0 HAT hat2 hb2 hrow vf hv vx hrow2 hO2
    gi_wp2_with fail
    gi_loopw [23] (fun iv wr => ∃ (j : Nat), iv = .int .i64 j ∧ j ≤ l2.length ∧ (∃ v, Blk wr W3.heap.size 37 #[v] ∧ OB wr w.heap.size v (wd ++ ((l2.take j).filter Z.ne0).map Z.bytesW) ∧ Hid (∀ g, v.ownBlock = some g → (Value.slice A2 l2.length c2).ownBlock ≠ some g)) ∧ Hid (OL 1 sE 9 wr W.heap.size (.slice A2 l2.length c2) l2) ∧ Blk wr (w.heap.size + 1) 65 #[.func (.func 50) #[] #[]] ∧ Below w.heap.size w wr ∧ Hid (KeepsOthers W wr) ∧ Hid (Kq (fun k => k = W3.heap.size) w.heap.size W wr)) (fun iv _ => l2.length - (intOf iv).toNat)
    case atStart => exact ⟨0, rfl, Nat.zero_le _, ⟨v, hv2, (by rw [List.take_zero, List.filter_nil, List.map_nil, List.append_nil]; exact HROW.out), HK0⟩, HO2, vf2, hB5, HKO, HKQ⟩
    case round =>
      obtain ⟨j, rfl, hj, ⟨vj, hvj, hrj, HKj⟩, HOj, vfj, hBj, HKOj, HKQj⟩ := hrel
      by_cases hlt : j < l2.length
      · have hz : l2[j]? = some l2[j] := List.getElem?_eq_getElem hlt
        have HT : Hid (((l2.take (j + 1)).filter Z.ne0).map Z.bytesW = ((l2.take j).filter Z.ne0).map Z.bytesW ++ (if Z.ne0 l2[j] then [Z.bytesW l2[j]] else [])) := Lib.hid (by
          rw [List.take_add_one, hz, List.filter_append, List.map_append]
          congr 1
          cases h : Z.ne0 l2[j] <;> simp [h])
        have HLW : Hid ((wd ++ ((l2.take j).filter Z.ne0).map Z.bytesW).length ≤ 20000) := Lib.hid (by
          rw [List.length_append, List.length_map]
          have h1 := List.length_filter_le Z.ne0 (l2.take j)
          rw [List.length_take] at h1
          have := HLN.out
          omega)
        obtain ⟨b, o, hA2, hbl, q0⟩ := SL.cell1 (OL.sl sE_len HOj.out) hz rfl
        subst hA2
        clear hz
        generalize l2[j] = y at *
        generalize hcur : wd ++ ((l2.take j).filter Z.ne0).map Z.bytesW = cur at *
        have HCUR := Lib.hid hcur
        clear hcur
        have hi0 : (0 : Int) ≤ (j : Int) := by omega
        have hi1 : (j : Int) < (l2.length : Int) := by omega
        have hye := Z.isE y
        by_cases hy : y = Z.e0
        · rw [decide_eq_true hy] at hye
          have hn : Z.ne0 y = false := by unfold Z.ne0; rw [decide_eq_true hy]; rfl
          rw [hn] at HT
          have HT2 := Lib.hid HT.out
          clear hy HT hn
          gi_wp2_with fail
          go_roundw
          case rel => exact ⟨j + 1, by go_num, by omega, ⟨vj, hvj, (by rw [HT2.out]; rw [if_neg Bool.false_ne_true, List.append_nil, HCUR.out]; exact hrj), HKj⟩, HOj, vfj, hBj, HKOj, HKQj⟩
          case measure => simp [intOf]; omega
        · rw [decide_eq_false hy] at hye
          have hn : Z.ne0 y = true := by unfold Z.ne0; rw [decide_eq_false hy]; rfl
          rw [hn, if_pos rfl] at HT
          have HT2 := Lib.hid HT.out
          clear hy HT hn
          have kj := hvj.cell 0
          have hnol := Lib.hid (hvj.not_ol (show 37 ≠ 9 by decide) hrj)
          gi_wp2_with (gi_at_builtin; go_loud (refine appIn (Z.bytesW y) (bE_one _) (bE_len _) rfl _ _ rfl infoStr (by omega) (by omega) Tryd.underlying37 wr w.heap.size vj cur _ (by rw [bE_bytes]) rfl hrj rfl HLW.out hBj.size ?_; intro v6 w6 hO6 hb6 hg6 hat6; obtain ⟨A6, c6, hs6⟩ := OL.shape hO6; rw [List.length_append, List.length_singleton] at hs6; subst hs6; have hv6 := hvj.kept hg6 hnol.out; have k6 := hv6.cell 0; have k7 := hv6.frozen 0))
          have hne1 : w.heap.size + 1 ≠ W3.heap.size := by omega
          have hv7 : Blk (w6.setCell ⟨W3.heap.size, 0, none⟩ (.slice A6 (cur.length + 1) c6)) W3.heap.size 37 #[.slice A6 (cur.length + 1) c6] := hv6.set 0 _
          have gs7 := grownBy_setAt w6 W3.heap.size 0 (.slice A6 (cur.length + 1) c6)
          have hO7 := OL.kept hO6 gs7 (.inr (hv6.not_ol (show 37 ≠ 9 by decide) hO6).symm)
          have hO8 := OL.kept HOj.out hg6 (.inr (fun e => by
            have := HKj.out b (by rw [← e]; rfl)
            exact this rfl))
          have HO8 := Lib.hid (OL.kept hO8 gs7 (.inr (hv6.not_ol (show 37 ≠ 9 by decide) hO8).symm))
          have vf8 := (vfj.kept hg6 (vfj.not_ol (show 65 ≠ 9 by decide) hrj)).kept gs7 (by intro e; injection e with e; exact hne1 e)
          have hB8 := (hBj.trans hb6).setCell (p := ⟨W3.heap.size, 0, none⟩) (by simp only; have := hB3.size; omega) (.slice A6 (cur.length + 1) c6)
          have HKO8 := Lib.hid ((HKOj.out.trans (KeepsOthers.of_grownBy hg6 (fun j o ej hj => by
            obtain ⟨cs, hcs⟩ := OL.cells_ hrj j ej
            rw [hcs] at hj; cases hj; rfl))).trans (KeepsOthers.setCell w6 ⟨W3.heap.size, 0, none⟩ (.slice A6 (cur.length + 1) c6)))
          have HKQ8 := Lib.hid ((HKQj.out.trans (Kq.grown hBj.size hg6 (fun r er => ⟨(OL.lt_ hrj r er).1, fun cs hcs => by
            obtain ⟨cs', hcs'⟩ := OL.cells_ hrj r er
            rw [hcs] at hcs'
            simp only [Option.some.injEq, Obj.cells.injEq] at hcs'
            exact absurd hcs'.2.1 (by decide)⟩))).trans (Kq.set (E := fun k => k = W3.heap.size) (b := W3.heap.size) (j := 0) rfl (by have := hB3.size; omega) (.slice A6 (cur.length + 1) c6)))
          have HK8 : Hid (∀ g, (Value.slice A6 (cur.length + 1) c6).ownBlock = some g → (Value.slice (some ⟨b, o, none⟩) l2.length c2).ownBlock ≠ some g) := Lib.hid (fun g hg => by
            rcases hat6 with h | h
            · exact HKj.out g (h ▸ hg)
            · intro h2
              have h3 := (OL.lt_ HOj.out g h2).2
              rw [h] at hg
              injection hg with hg
              omega)
          go_roundw
          case rel => exact ⟨j + 1, by go_num, by omega, ⟨_, hv7, (by rw [HT2.out, ← List.append_assoc, HCUR.out]; exact hO7), HK8⟩, HO8, vf8, hB8, HKO8, HKQ8⟩
          case measure => simp [intOf]; omega
      · obtain rfl : j = l2.length := by omega
        rw [List.take_length] at hrj
        gi_wp2_with fail
        exact ⟨HKOj.out.from _, HKQj.out, ⟨vj, hvj, by rw [HSN.out]; exact hrj⟩, vfj, hBj⟩
  case done =>
    rintro D2 ys W hD hys ⟨⟨v, hv, hrow⟩, vf, hBW⟩ hK
    have hAL : (Z.allW Z.mw (n + 1) c).length ≤ 20000 := by
      rw [← HALL.out ys hys]
      have h1 := wdN_len Z.mw Z.mw_len ys
      have h2 : ys.length ≤ 1500 := by rw [← List.length_map (f := Subtype.val), hys]; exact hlen
      omega
    rw [HALL.out ys hys] at hrow
    generalize Z.allW Z.mw (n + 1) c = al at *
    have k0 := hv.cell 0
    have HRW := Lib.hid hrow
    clear hrow
    gi_wp2_with fail
    refine ⟨trivial, (callsIn_wide.2 (sort_own HRW.out hAL)).mono ?_⟩
    rintro e W5 ⟨rfl, hO5, hg5⟩
    have hv5 := hv.kept hg5 (hv.not_ol (show 37 ≠ 9 by decide) HRW.out)
    have k5 := hv5.cell 0
    have HO5 := Lib.hid hO5
    have HK5 := Lib.hid ((KeepsOthers.of_grownBy hg5 (fun j o ej hj => by
      obtain ⟨cs, hcs⟩ := OL.cells_ HRW.out j ej
      rw [hcs] at hj; cases hj; rfl)).same D2 _ hK rfl)
    have HB5 := Lib.hid (hBW.grown hg5 hBW.size (fun k hk => (OL.lt_ HRW.out k hk).1))
    clear k0 hO5
    gi_wp2_with fail
    refine ⟨trivial, (callsIn_wide.2 (compact_own HO5.out (by rw [List.length_mergeSort]; exact hAL))).mono ?_⟩
    rintro e W6 ⟨v6, rfl, hO6, hg6⟩
    have HK6 := Lib.hid ((KeepsOthers.of_grownBy hg6 (fun j o ej hj => by
      obtain ⟨cs, hcs⟩ := OL.cells_ HO5.out j ej
      rw [hcs] at hj; cases hj; rfl)).same D2 _ HK5.out rfl)
    have HB6 := Lib.hid (HB5.out.grown hg6 HB5.out.size (fun k hk => (OL.lt_ HO5.out k hk).1))
    have HO6 := Lib.hid hO6
    obtain ⟨A6, c6, rfl⟩ := OL.shape hO6
    clear hO6 hg6 k5 hv5 hg5
    gi_wp2_with fail
    refine ⟨by simp, .inl ⟨_, _, rfl, run_takeDeferred HK6.out, ?_⟩⟩
    refine ⟨.tuple #[.slice A6 (Lib.compact (al.mergeSort fun x y => decide (x ≤ y))).length c6, .int .i64 0], by simp [results, Tryd.f47, go_sem], _, rfl, ?_, HB6.out.trans (belowK_b (w := W0) hB0.size _ D2 _ _ hD HK6.out rfl rfl)⟩
    rw [HR.out]
    refine OL.kept HO6.out (grownBy_putObj' _ D2 (.deferred none)) (.inr fun e => ?_)
    obtain ⟨cs, hcs⟩ := OL.cells_ HO6.out D2 e
    rw [HK6.out] at hcs
    cases hcs

set_option maxRecDepth 100000 in
theorem cparties_any (n : Nat) (c : Z.Co m (n + 1)) (r : CR m) (w : World) (hc : CV w (n + 1) c r) (hL : Lay w) (hV : HasV w) (hs : Z.CSm (n + 1) c) :
    Calls Tryd.prog 17 #[r.ag] w fun e w' => ∃ v, e = .returned (.tuple #[v, .int .i64 (Z.coE (n + 1) c)]) ∧ OB w' w.heap.size v (Z.wordsL Z.pw (n + 1) c) ∧ Below w.heap.size w w' := by
  obtain ⟨t, u, dv, sv⟩ := r
  obtain ⟨Au, ku, cu, rfl⟩ := hc.shape.1
  obtain ⟨Ad, kd, cd, rfl⟩ := hc.shape.2.1
  obtain ⟨As, ks, cs, rfl⟩ := hc.shape.2.2
  have hb1 := (Below.refl _ w).alloc (Nat.le_refl w.heap.size) (.cells #[.int .u8 t.k, .string t.fr, .string t.tu, .string t.nm, .int .u8 t.ex.top.k, .string t.ex.top.rat, .string t.ex.top.name, .int .i64 t.ex.top.date, .slice Au ku cu, .int .i64 t.date, .slice Ad kd cd, .slice As ks cs] 29)
  have BX := Blk.new w 29 #[.int .u8 t.k, .string t.fr, .string t.tu, .string t.nm, .int .u8 t.ex.top.k, .string t.ex.top.rat, .string t.ex.top.name, .int .i64 t.ex.top.date, .slice Au ku cu, .int .i64 t.date, .slice Ad kd cd, .slice As ks cs]
  have HW := Lib.hid (wparties_any n c ⟨t, .slice Au ku cu, .slice Ad kd cd, .slice As ks cs⟩ _ (CV.below hb1 _ hc) (hL.below hb1) (hV.below hb1) hs)
  unfold CR.ag at HW ⊢
  simp only at HW ⊢
  have c0 := BX.cell 0
  have c1 := BX.cell 1
  have c2 := BX.cell 2
  have c3 := BX.cell 3
  have c4 := BX.cell 4
  have c5 := BX.cell 5
  have c6 := BX.cell 6
  have c7 := BX.cell 7
  have c8 := BX.cell 8
  have c9 := BX.cell 9
  have c10 := BX.cell 10
  have c11 := BX.cell 11
  go_enter Tryd.func17, Tryd.ntmps17
  go_wp2_with fail
  refine HW.out.mono ?_
  rintro e W1 ⟨v, rfl, hO, hb⟩
  obtain ⟨A6, c6, rfl⟩ := OL.shape hO
  have HO := Lib.hid (OL.mono hO hb1.size)
  have hb2 := hb1.trans (hb.mono hb1.size)
  clear hO hb HW
  go_wp2_with fail
  go_ret2
  exact ⟨_, rfl, HO.out, hb2⟩

set_option maxRecDepth 100000 in
theorem cmoneys_any (n : Nat) (c : Z.Co m (n + 1)) (r : CR m) (w : World) (hc : CV w (n + 1) c r) (hL : Lay w) (hV : HasV w) (hs : Z.CSm (n + 1) c) :
    Calls Tryd.prog 19 #[r.ag] w fun e w' => ∃ v, e = .returned (.tuple #[v, .int .i64 (Z.coE (n + 1) c)]) ∧ OB w' w.heap.size v (Z.wordsL Z.mw (n + 1) c) ∧ Below w.heap.size w w' := by
  obtain ⟨t, u, dv, sv⟩ := r
  obtain ⟨Au, ku, cu, rfl⟩ := hc.shape.1
  obtain ⟨Ad, kd, cd, rfl⟩ := hc.shape.2.1
  obtain ⟨As, ks, cs, rfl⟩ := hc.shape.2.2
  have hb1 := (Below.refl _ w).alloc (Nat.le_refl w.heap.size) (.cells #[.int .u8 t.k, .string t.fr, .string t.tu, .string t.nm, .int .u8 t.ex.top.k, .string t.ex.top.rat, .string t.ex.top.name, .int .i64 t.ex.top.date, .slice Au ku cu, .int .i64 t.date, .slice Ad kd cd, .slice As ks cs] 29)
  have BX := Blk.new w 29 #[.int .u8 t.k, .string t.fr, .string t.tu, .string t.nm, .int .u8 t.ex.top.k, .string t.ex.top.rat, .string t.ex.top.name, .int .i64 t.ex.top.date, .slice Au ku cu, .int .i64 t.date, .slice Ad kd cd, .slice As ks cs]
  have HW := Lib.hid (wmoneys_any n c ⟨t, .slice Au ku cu, .slice Ad kd cd, .slice As ks cs⟩ _ (CV.below hb1 _ hc) (hL.below hb1) (hV.below hb1) hs)
  unfold CR.ag at HW ⊢
  simp only at HW ⊢
  have c0 := BX.cell 0
  have c1 := BX.cell 1
  have c2 := BX.cell 2
  have c3 := BX.cell 3
  have c4 := BX.cell 4
  have c5 := BX.cell 5
  have c6 := BX.cell 6
  have c7 := BX.cell 7
  have c8 := BX.cell 8
  have c9 := BX.cell 9
  have c10 := BX.cell 10
  have c11 := BX.cell 11
  go_enter Tryd.func19, Tryd.ntmps19
  go_wp2_with fail
  refine HW.out.mono ?_
  rintro e W1 ⟨v, rfl, hO, hb⟩
  obtain ⟨A6, c6, rfl⟩ := OL.shape hO
  have HO := Lib.hid (OL.mono hO hb1.size)
  have hb2 := hb1.trans (hb.mono hb1.size)
  clear hO hb HW
  go_wp2_with fail
  go_ret2
  exact ⟨_, rfl, HO.out, hb2⟩
end
end Go.Proofs.YtifafmomkpkgdaaDoor
