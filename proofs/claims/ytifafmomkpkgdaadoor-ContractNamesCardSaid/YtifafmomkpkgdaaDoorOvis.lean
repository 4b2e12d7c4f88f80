/- Walks: visit and nodes: the iterator over the nodes of a contract. -/
import Derived.Test.YtifafmomkpkgdaaDoorOnv
import Derived.Test.YtifafmomkpkgdaaDoorRfa
import Derived.Shelf.Abstract
import Derived.Shelf.RegionOpen
import Derived.OwnWalkIn
import Derived.TacticsInMore
import Derived.LoopNIn
import Derived.LoopIn
import Derived.Laws.EntriesVeiled
namespace Go.Proofs.YtifafmomkpkgdaaDoor
open Go.RowKit Go.Shelf
attribute [local go_sem] Oper.semAt_some
theorem yieldAt_any {n k l : Nat} {P : Program} {args : Array Value} {W : World} {R : Ending → World → Prop} (h : YieldAt Fence.wide n P l args W R) : YieldAt Fence.wide k P l args W R := by
  obtain ⟨fn, t, a, b, e, h1, h2⟩ := h
  exact ⟨fn, t, a, b, e, h1, fun c cs _ => h2 c cs (room_wide _)⟩
section
variable {m : Nat}
set_option maxRecDepth 100000 in
set_option maxHeartbeats 4000000 in
theorem visit_in {E : Nat → Prop} {Pn : Nd m → Prop} (w : World) (l N : Nat) (J Jx : List (Nd m) → World → Prop) (hJd : ∀ p W W', J p W → Below W.heap.size W W' → J p W') (hEJ : ∀ p W, J p W → ∀ k, E k → k < W.heap.size)
    (hY : ∀ pre (x : Nd m) W, Pn x → J pre W → pre.length < N → YieldAt Fence.wide 1 Tryd.prog l #[x.r.ag] W fun e W' =>
      (e = .returned (.bool true) ∧ J (pre ++ [x]) W' ∧ Kq E w.heap.size W W') ∨ (e = .returned (.bool false) ∧ Jx (pre ++ [x]) W')) :
    ∀ (n k : Nat) (c : Z.Co m n) (r : CR m), CV w n c r → (∀ d ∈ enum w n c r, Pn d) → ∀ (pre : List (Nd m)) (W : World), AG w W → J pre W → pre.length + (enum w n c r).length ≤ N →
      CallsIn Fence.wide k Tryd.prog 68 #[r.ag, .func (.yield l) #[] #[]] W fun e W' =>
        (e = .returned (.bool true) ∧ J (pre ++ enum w n c r) W' ∧ AG w W') ∨ (e = .returned (.bool false) ∧ ∃ p, p <+: enum w n c r ∧ Jx (pre ++ p) W') := by
  intro n
  induction n with
  | zero => intro k c; exact c.no
  | succ n ih =>
    intro k c r hc hmem pre W hW h0 hN
    obtain ⟨a, u, dv, sv⟩ := r
    obtain ⟨Au, ku, cu, rfl⟩ := hc.shape.1
    obtain ⟨Ad, kd, cd, rfl⟩ := hc.shape.2.1
    obtain ⟨h1, h2, h3⟩ := rawsOf_spec hc.2.2.2.2
    obtain ⟨As, cs, hse, hl1, hl2⟩ := Dp.shape hc.2.2.2.2
    simp only at hse h1 h2 h3
    unfold maxLen at hl2
    subst hse
    have hE : enum w (n + 1) c ⟨a, .slice Au ku cu, .slice Ad kd cd, .slice As c.sub.length cs⟩ = ⟨⟨a, .slice Au ku cu, .slice Ad kd cd, .slice As c.sub.length cs⟩, c.sub.length⟩ :: (c.sub.zip (rawsOf w n (.slice As c.sub.length cs) c.sub)).flatMap fun p => enum w n p.1 p.2 := rfl
    rw [hE] at hN hmem ⊢
    have hzl : (c.sub.zip (rawsOf w n (.slice As c.sub.length cs) c.sub)).length = c.sub.length := by rw [List.length_zip, h2, Nat.min_self]
    have hzat : ∀ (j : Nat) (x : Z.Co m n) (q : CR m), c.sub[j]? = some x → (rawsOf w n (.slice As c.sub.length cs) c.sub)[j]? = some q → (c.sub.zip (rawsOf w n (.slice As c.sub.length cs) c.sub))[j]? = some (x, q) := fun j x q hx hq => by
      rw [List.getElem?_zip_eq_some]
      exact ⟨hx, hq⟩
    obtain ⟨zs, hzs⟩ : ∃ zs, zs = c.sub.zip (rawsOf w n (.slice As c.sub.length cs) c.sub) := ⟨_, rfl⟩
    rw [← hzs] at hN hzl hzat hmem ⊢
    have hnv := hmem _ (List.mem_cons_self ..)
    have hms : ∀ (x : Z.Co m n) (q : CR m), (x, q) ∈ zs → ∀ d ∈ enum w n x q, Pn d := fun x q hxq d hd => hmem d (List.mem_cons_of_mem _ (List.mem_flatMap.2 ⟨(x, q), hxq, hd⟩))
    clear hmem
    clear hE hzs hc
    generalize rawsOf w n (.slice As c.sub.length cs) c.sub = raws at *
    generalize c.sub = sub at *
    have hba := (Below.refl _ W).alloc (Nat.le_refl W.heap.size) (.cells #[.int .u8 a.k, .string a.fr, .string a.tu, .string a.nm, .int .u8 a.ex.top.k, .string a.ex.top.rat, .string a.ex.top.name, .int .i64 a.ex.top.date, .slice Au ku cu, .int .i64 a.date, .slice Ad kd cd, .slice As sub.length cs] 29)
    have BX := Blk.new W 29 #[.int .u8 a.k, .string a.fr, .string a.tu, .string a.nm, .int .u8 a.ex.top.k, .string a.ex.top.rat, .string a.ex.top.name, .int .i64 a.ex.top.date, .slice Au ku cu, .int .i64 a.date, .slice Ad kd cd, .slice As sub.length cs]
    have hWa := hW.of_below hba
    have hJa := hJd _ _ _ h0 hba
    have hEa := hEJ _ _ h0
    obtain ⟨fn, tmps, assign, body, hy, hR⟩ := yieldAt_any (k := k - 1) (hY pre ⟨⟨a, .slice Au ku cu, .slice Ad kd cd, .slice As sub.length cs⟩, sub.length⟩ _ hnv hJa (by rw [List.length_cons] at hN; omega))
    unfold CR.ag at hy ⊢
    simp only at hy ⊢
    have c0 := BX.cell 0
    have c1 := BX.cell 1
    have c2 := BX.cell 2
    have c3 := BX.cell 3
    have c4 := BX.cell 4
    have c5 := BX.cell 5
    have c6 := BX.cell 6
    have c7 := BX.cell 7
    have c8 := BX.cell 8
    have c9 := BX.cell 9
    have c10 := BX.cell 10
    have c11 := BX.cell 11
    have HR := Lib.hid hR
    clear hR
    refine callsIn_of_wp Tryd.func68 rfl trivial ?_ rfl
    simp only [Tryd.ntmps68, List.size_toArray, List.length_cons, List.length_nil, Nat.reduceAdd, Nat.reduceSub, Array.replicate_succ, Array.replicate_zero, List.push_toArray, List.append_toArray, List.nil_append, List.cons_append]
    gi_wp2_with fail
    refine ⟨fun h => (by simp [Fence.wide] at h), HR.out.mono ?_⟩
    obtain ⟨X, hX⟩ : ∃ X : Nd m, X = ⟨⟨a, .slice Au ku cu, .slice Ad kd cd, .slice As sub.length cs⟩, sub.length⟩ := ⟨_, rfl⟩
    have HX := Lib.hid hX
    rw [← hX] at hN ⊢
    rintro e W3 (⟨rfl, hJ3, hk3⟩ | ⟨rfl, hJx3⟩)
    · have BX3 : Blk W3 W.heap.size 29 #[.int .u8 a.k, .string a.fr, .string a.tu, .string a.nm, .int .u8 a.ex.top.k, .string a.ex.top.rat, .string a.ex.top.name, .int .i64 a.ex.top.date, .slice Au ku cu, .int .i64 a.date, .slice Ad kd cd, .slice As sub.length cs] := hk3.cells _ _ BX (fun h => absurd (hEa _ h) (Nat.lt_irrefl _))
      have c11 := BX3.cell 11
      have hA3 := hWa.kq hk3
      have hJ3' : J (pre ++ X :: (zs.take 0).flatMap fun p => enum w n p.1 p.2) W3 := hJ3
      have HI := Lib.hid ih
      have HZ := Lib.hid hzat
      have HN := Lib.hid hN
      have HL := Lib.hid hzl
      have H2 := Lib.hid h2
      have H3 := Lib.hid h3
      have HMS := Lib.hid hms
      clear c0 c1 c2 c3 c4 c5 c6 c7 c8 c9 c10 BX BX3 HR hy fn tmps assign body hJ3 hX hWa hJa h0 hW hnv hba hEa ih hzat hN hzl h2 h3 hk3 hms
      gi_wp2_with fail
      gi_loopw [14] (fun iv wr => ∃ (j : Nat), iv = .int .i64 j ∧ j ≤ sub.length ∧ J (pre ++ X :: (zs.take j).flatMap fun p => enum w n p.1 p.2) wr ∧ AG w wr) (fun iv _ => sub.length - (intOf iv).toNat)
      case atStart => exact ⟨0, rfl, Nat.zero_le _, hJ3', hA3⟩
      case round =>
        obtain ⟨j, rfl, hj, hJj, hAj⟩ := hrel
        by_cases hlt : j < sub.length
        · have hz : sub[j]? = some sub[j] := List.getElem?_eq_getElem hlt
          have hq : raws[j]? = some (raws[j]'(by rw [H2.out]; exact hlt)) := List.getElem?_eq_getElem _
          obtain ⟨b, o, rfl, hb, hcell⟩ := (h1.ag hAj).at_ (by rw [H2.out]; omega)
          have hcv := H3.out j _ _ hq hz
          have hzz := HZ.out j _ _ hz hq
          have hmy := HMS.out _ _ (List.mem_of_getElem? hzz)
          have q0 := hcell j _ hq 0 _ rfl
          have q1 := hcell j _ hq 1 _ rfl
          have q2 := hcell j _ hq 2 _ rfl
          have q3 := hcell j _ hq 3 _ rfl
          have q4 := hcell j _ hq 4 _ rfl
          have q5 := hcell j _ hq 5 _ rfl
          have q6 := hcell j _ hq 6 _ rfl
          have q7 := hcell j _ hq 7 _ rfl
          have q8 := hcell j _ hq 8 _ rfl
          have q9 := hcell j _ hq 9 _ rfl
          have q10 := hcell j _ hq 10 _ rfl
          have q11 := hcell j _ hq 11 _ rfl
          rw [Nat.add_zero] at q0
          clear hcell hz hq
          generalize raws[j]'(by rw [H2.out]; exact hlt) = q at *
          generalize sub[j] = y at *
          obtain ⟨a', u', dv', sv'⟩ := q
          obtain ⟨Au', ku', cu', rfl⟩ := hcv.shape.1
          obtain ⟨Ad', kd', cd', rfl⟩ := hcv.shape.2.1
          obtain ⟨As', ks', cs', rfl⟩ := hcv.shape.2.2
          simp only at q0 q1 q2 q3 q4 q5 q6 q7 q8 q9 q10 q11
          have hi0 : (0 : Int) ≤ (j : Int) := by omega
          have hi1 : (j : Int) < (sub.length : Int) := by omega
          have htk : (zs.take (j + 1)).flatMap (fun p => enum w n p.1 p.2) = (zs.take j).flatMap (fun p => enum w n p.1 p.2) ++ enum w n y ⟨a', .slice Au' ku' cu', .slice Ad' kd' cd', .slice As' ks' cs'⟩ := by
            rw [List.take_add_one, hzz]; simp
          have hpf : (zs.take (j + 1)).flatMap (fun p => enum w n p.1 p.2) <+: zs.flatMap (fun p => enum w n p.1 p.2) := ⟨(zs.drop (j + 1)).flatMap (fun p => enum w n p.1 p.2), by rw [← List.flatMap_append, List.take_append_drop]⟩
          have hln := hpf.length_le
          have hba := (Below.refl _ wr).alloc (Nat.le_refl wr.heap.size) (.cells #[.int .u8 a'.k, .string a'.fr, .string a'.tu, .string a'.nm, .int .u8 a'.ex.top.k, .string a'.ex.top.rat, .string a'.ex.top.name, .int .i64 a'.ex.top.date, .slice Au' ku' cu', .int .i64 a'.date, .slice Ad' kd' cd', .slice As' ks' cs'] 29)
          have BY := Blk.new wr 29 #[.int .u8 a'.k, .string a'.fr, .string a'.tu, .string a'.nm, .int .u8 a'.ex.top.k, .string a'.ex.top.rat, .string a'.ex.top.name, .int .i64 a'.ex.top.date, .slice Au' ku' cu', .int .i64 a'.date, .slice Ad' kd' cd', .slice As' ks' cs']
          have z0 := BY.cell 0
          have z1 := BY.cell 1
          have z2 := BY.cell 2
          have z3 := BY.cell 3
          have z4 := BY.cell 4
          have z5 := BY.cell 5
          have z6 := BY.cell 6
          have z7 := BY.cell 7
          have z8 := BY.cell 8
          have z9 := BY.cell 9
          have z10 := BY.cell 10
          have z11 := BY.cell 11
          have HC := Lib.hid (HI.out (k - 1) y _ hcv hmy (pre ++ X :: (zs.take j).flatMap fun p => enum w n p.1 p.2) _ (hAj.of_below hba) (hJd _ _ _ hJj hba) (by
            have := HN.out
            rw [htk, List.length_append] at hln
            rw [List.length_append, List.length_cons]
            rw [List.length_cons] at this
            omega))
          have HT := Lib.hid htk
          have HPF := Lib.hid hpf
          unfold CR.ag at HC
          simp only at HC
          clear htk hpf hln hzz hcv BY hba hmy
          gi_wp2_with fail
          refine ⟨trivial, fun h => (by simp [Fence.wide] at h), HC.out.mono ?_⟩
          rintro e W4 (⟨rfl, hJ4, hA4⟩ | ⟨rfl, p, hp, hJx4⟩)
          · have hJ4' : J (pre ++ X :: (zs.take (j + 1)).flatMap fun p => enum w n p.1 p.2) W4 := by
              rw [HT.out]
              rw [List.append_assoc, List.cons_append] at hJ4
              exact hJ4
            clear z0 z1 z2 z3 z4 z5 z6 z7 z8 z9 z10 z11 q0 q1 q2 q3 q4 q5 q6 q7 q8 q9 q10 q11 HC hJ4
            gi_wp2_with fail
            go_roundw
            case rel => exact ⟨j + 1, by go_num, by omega, hJ4', hA4⟩
            case measure => simp [intOf]; omega
          · clear z0 z1 z2 z3 z4 z5 z6 z7 z8 z9 z10 z11 q0 q1 q2 q3 q4 q5 q6 q7 q8 q9 q10 q11 HC
            gi_wp2_with fail
            go_ret
            have e := HX.out
            subst e
            refine .inr ⟨rfl, _ :: (zs.take j).flatMap (fun p => enum w n p.1 p.2) ++ p, ?_, by rw [← List.append_assoc]; exact hJx4⟩
            refine List.IsPrefix.trans ?_ (List.cons_prefix_cons.2 ⟨rfl, HPF.out⟩)
            rw [HT.out, List.cons_append]
            exact List.cons_prefix_cons.2 ⟨rfl, (List.prefix_append_right_inj _).2 hp⟩
        · obtain rfl : j = sub.length := by omega
          rw [← HL.out, List.take_length] at hJj
          gi_wp2_with fail
          go_ret
          have e := HX.out
          subst e
          exact .inl ⟨rfl, hJj, hAj⟩
    · clear c0 c1 c2 c3 c4 c5 c6 c7 c8 c9 c10 c11
      gi_wp2_with fail
      go_ret
      subst hX
      exact .inr ⟨rfl, [_], List.cons_prefix_cons.2 ⟨rfl, List.nil_prefix⟩, hJx3⟩
end
end Go.Proofs.YtifafmomkpkgdaaDoor
