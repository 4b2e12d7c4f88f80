/- Plain: contracts put together from valid parts. -/
import Derived.Test.YtifafmomkpkgdaaDoorZco
import Derived.Test.YtifafmomkpkgdaaDoorOhz
import Derived.Test.YtifafmomkpkgdaaDoorOlh
namespace Go.Proofs.YtifafmomkpkgdaaDoor
namespace Z
section
variable {m n : Nat}
theorem coCnt_size : ∀ (n : Nat) (c : Co m n), coCnt n c ≤ coSize n c
  | 0, c => c.no
  | n + 1, c => by
    have := sumL_le (f := coCnt n) (g := coSize n) 1 0 c.sub fun x _ => by rw [Nat.one_mul]; exact coCnt_size n x
    rw [coCnt, coSize]
    omega
theorem noX_sm : XSm (m + 1) noX := by
  constructor
  · show 1 + sumL (exSize m) [] ≤ 600
    simp [sumL]
  · show 0 + 0 + sumL (exBytes m) [] ≤ 3000
    simp [sumL]
theorem noX_last : exLast (m + 1) noX = 0 := rfl
theorem noX_bare : bareX (n := m) noX = true := by
  unfold bareX noX leafX Ex.mk Ex.top Ex.sub
  rfl
/-- What a contract made of valid parts is asked of. -/
structure Made (a b : Co m (n + 1)) (who : ByteArray) (day : Int) (days : List Int) (y : Co m (n + 2)) : Prop where
  subs : y.sub = [a] ∨ y.sub = [a, b]
  node : nodeB (y.top, y.sub.length) = true
  from_ : y.top.fr = e0 ∨ y.top.fr = who
  to_ : y.top.tu = e0
  kind : y.top.k ≠ 2
  at_ : y.top.k = 6 → y.sub = [a] ∧ y.top.date = day ∧ y.top.dates = [] ∧ y.top.ex = noX
  call : y.top.k = 8 → y.sub = [a] ∧ y.top.date = 0 ∧ y.top.dates = days ∧ y.top.ex = noX
  sm : NSm y.top
variable {a b : Co m (n + 1)} {who : ByteArray} {day : Int} {days : List Int} {y : Co m (n + 2)}
theorem Made.mem (h : Made a b who day days y) : ∀ x ∈ y.sub, x = a ∨ x = b := fun x hx => by
  rcases h.subs with e | e <;> rw [e] at hx <;> simp at hx
  · exact .inl hx
  · exact hx
theorem Made.a_in (h : Made a b who day days y) : a ∈ y.sub := by
  rcases h.subs with e | e <;> rw [e] <;> simp
theorem Made.formed (h : Made a b who day days y) (ha : coE (n + 1) a = 0) (hb : coE (n + 1) b = 0) : coFormed (n + 2) y = true := by
  rw [coFormed, Bool.and_eq_true, List.all_eq_true]
  refine ⟨fun x hx => ?_, h.node⟩
  rcases h.mem x hx with rfl | rfl
  · exact (coE_ok.1 ha).2.2
  · exact (coE_ok.1 hb).2.2
theorem Made.E_ok (h : Made a b who day days y) (ha : coE (n + 1) a = 0) (hb : coE (n + 1) b = 0) (hg : ¬ (500 < coSize (n + 2) y ∨ 60 < coDepth (n + 2) y)) : coE (n + 2) y = 0 :=
  coE_ok.2 ⟨by omega, by omega, h.formed ha hb⟩
theorem Made.csm (h : Made a b who day days y) (ha : coE (n + 1) a = 0) (hb : coE (n + 1) b = 0) (sa : CSm (n + 1) a) (sb : CSm (n + 1) b) : CSm (n + 2) y := by
  refine ⟨h.sm, ?_, fun x hx => ?_⟩
  · have h1 := coCnt_size (n + 1) a
    have h2 := coCnt_size (n + 1) b
    have h3 := (coE_ok.1 ha).1
    have h4 := (coE_ok.1 hb).1
    rw [coCnt]
    rcases h.subs with e | e <;> rw [e] <;> simp only [sumL] <;> omega
  · rcases h.mem x hx with rfl | rfl
    · exact sa
    · exact sb
/-- The parties of what is made. -/
theorem Made.words (h : Made a b who day days y) : uniqW (allW pw (n + 2) y) = (if ne0 y.top.fr = true then withB (if y.sub.length = 2 then (uniqW (allW pw (n + 1) b)).foldl withB (uniqW (allW pw (n + 1) a)) else uniqW (allW pw (n + 1) a)) (bytesW y.top.fr) else (if y.sub.length = 2 then (uniqW (allW pw (n + 1) b)).foldl withB (uniqW (allW pw (n + 1) a)) else uniqW (allW pw (n + 1) a))) := by
  have hA := uniqW_asc (allW pw (n + 1) a)
  have hW : Asc (if y.sub.length = 2 then (uniqW (allW pw (n + 1) b)).foldl withB (uniqW (allW pw (n + 1) a)) else uniqW (allW pw (n + 1) a)) := by
    split
    · exact foldW_asc _ _ hA
    · exact hA
  have hp : pw y.top = if ne0 y.top.fr = true then [bytesW y.top.fr] else [] := by
    have he : ne0 e0 = false := by unfold ne0; simp
    unfold pw
    rw [h.to_]
    cases h1 : ne0 y.top.fr <;> simp [List.filter, h1, he]
  refine bs_uniq _ _ (uniqW_asc _) ?_ fun s => ?_
  · split
    · exact withB_asc _ _ hW
    · exact hW
  · rw [uniqW_mem, allW_eq, List.mem_append, hp]
    have key : (s ∈ y.sub.flatMap (allW pw (n + 1))) ↔ s ∈ (if y.sub.length = 2 then (uniqW (allW pw (n + 1) b)).foldl withB (uniqW (allW pw (n + 1) a)) else uniqW (allW pw (n + 1) a)) := by
      rcases h.subs with e | e <;> rw [e] <;> simp [foldW_mem, uniqW_mem]
    rw [key]
    split
    · rw [withB_mem, List.mem_singleton, or_comm]
    · simp
theorem Made.moneys (h : Made a b who day days y) (hs : y.sub.length = 1) : allW mw (n + 2) y = allW mw (n + 1) a := by
  rw [allW_eq]
  have hm : mw y.top = [] := by unfold mw; rw [if_neg h.kind]
  rw [hm, List.nil_append]
  rcases h.subs with e | e
  · rw [e]; simp
  · rw [e] at hs; simp at hs
theorem lastL_ge {α : Type} {f : α → Int} : ∀ (l : List α) (a : Int), a ≤ lastL f a l ∧ ∀ x ∈ l, f x ≤ lastL f a l
  | [], a => ⟨Int.le_refl _, fun x hx => absurd hx (by simp)⟩
  | y :: r, a => by
    obtain ⟨h1, h2⟩ := lastL_ge (f := f) r (max a (f y))
    rw [lastL]
    refine ⟨by omega, fun x hx => ?_⟩
    rcases List.mem_cons.1 hx with rfl | hx
    · omega
    · exact h2 x hx
theorem horZ_ok {n : Nat} {c : Co m (n + 1)} (h : coE (n + 1) c = 0) : horZ (n + 1) c = max 0 (coLast (n + 1) c) := by
  unfold horZ
  rw [if_pos h, hor_nodes (n + 1) c (coE_nodes h) 0, if_neg (by omega)]
theorem Made.hor_ge (h : Made a b who day days y) (ha : coE (n + 1) a = 0) (hy : coE (n + 2) y = 0) : horZ (n + 1) a ≤ horZ (n + 2) y := by
  have e : coLast (n + 2) y = lastL (coLast (n + 1)) (y.top.dates.foldl max (max y.top.date (exLast (m + 1) y.top.ex))) y.sub := rfl
  rw [horZ_ok ha, horZ_ok hy, e]
  have := (lastL_ge (f := coLast (n + 1)) y.sub (y.top.dates.foldl max (max y.top.date (exLast (m + 1) y.top.ex)))).2 a h.a_in
  omega
theorem Made.hor_at (h : Made a b who day days y) (ha : coE (n + 1) a = 0) (hy : coE (n + 2) y = 0) (hd : dayC day = true) (hk : y.top.k = 6) : horZ (n + 2) y = max (horZ (n + 1) a) day := by
  obtain ⟨e1, e2, e3, e4⟩ := h.at_ hk
  have e : coLast (n + 2) y = lastL (coLast (n + 1)) (y.top.dates.foldl max (max y.top.date (exLast (m + 1) y.top.ex))) y.sub := rfl
  rw [horZ_ok ha, horZ_ok hy, e, e1, e2, e3, e4, noX_last]
  unfold dayC at hd
  simp only [Bool.and_eq_true, decide_eq_true_iff] at hd
  simp only [List.foldl_nil, lastL]
  omega
theorem Made.hor_call (h : Made a b who day days y) (ha : coE (n + 1) a = 0) (hy : coE (n + 2) y = 0) (hd : daysB days = true) (hk : y.top.k = 8) : horZ (n + 2) y = max (horZ (n + 1) a) (days.getLastD 0) := by
  obtain ⟨e1, e2, e3, e4⟩ := h.call hk
  have hf := node_foldmax h.node (max y.top.date (exLast (m + 1) y.top.ex))
  have e : coLast (n + 2) y = lastL (coLast (n + 1)) (y.top.dates.foldl max (max y.top.date (exLast (m + 1) y.top.ex))) y.sub := rfl
  rw [horZ_ok ha, horZ_ok hy, e]
  simp only at hf
  rw [hf, e1, e2, e3, e4, noX_last]
  unfold daysB at hd
  simp only [Bool.and_eq_true, decide_eq_true_iff] at hd
  rw [if_pos (by omega)]
  simp only [lastL]
  omega
/-! The eight kinds. -/
variable (a b) (x p : Ex (m + 1)) (who what : ByteArray) (day : Int) (days : List Int)
def mdN (i : Nat) : CN m :=
  match i with
  | 0 => ⟨3, e0, e0, e0, noX, 0, []⟩
  | 1 => ⟨4, e0, e0, e0, x, 0, []⟩
  | 2 => ⟨5, e0, e0, e0, p, 0, []⟩
  | 3 => ⟨6, e0, e0, e0, noX, day, []⟩
  | 4 => ⟨7, who, e0, what, noX, 0, []⟩
  | 5 => ⟨8, who, e0, what, noX, 0, days⟩
  | 6 => ⟨9, e0, e0, e0, p, 0, days⟩
  | _ => ⟨10, e0, e0, e0, p, 0, days⟩
def mdS (i : Nat) : List (Co m (n + 1)) := if i = 0 ∨ i = 2 ∨ i = 4 then [a, b] else [a]
def mdC (i : Nat) : Co m (n + 2) := Co.mk (mdN x p who what day days i) (mdS a b i)
def mdL : List (Co m (n + 2)) := (List.range 8).map (mdC a b x p who what day days)
variable {a b x p who what day days}
theorem mdL_made (hx : numB (m + 1) x = true) (hp : truB (m + 1) p = true) (hwho : nameB who = true) (hwhat : nameB what = true) (hday : dayC day = true) (hdays : daysB days = true) (sx : XSm (m + 1) x) (sp : XSm (m + 1) p) (sw : who.size ≤ 12000) (sv : what.size ≤ 12000) :
    ∀ y ∈ mdL a b x p who what day days, Made a b who day days y := by
  intro y hy
  obtain ⟨i, hi, rfl⟩ := List.mem_map.1 hy
  have hi := List.mem_range.1 hi
  have e00 : e0.size ≤ 12000 := by decide
  have hdl : days.length ≤ 12000 := by
    unfold daysB at hdays
    simp only [Bool.and_eq_true, decide_eq_true_iff] at hdays
    omega
  have nd : ∀ (N : CN m) (S : List (Co m (n + 1))) (P : Pa), pas N.k = some P → partB P N S.length = true → nodeB ((Co.mk N S : Co m (n + 2)).top, (Co.mk N S : Co m (n + 2)).sub.length) = true := fun N S P h1 h2 => by
    unfold nodeB
    show (match pas N.k with | none => false | some q => partB q N S.length) = true
    rw [h1]
    exact h2
  have hn0 : (noX : Ex (m + 1)).top = ⟨0, e0, e0, 0⟩ := rfl
  match i, hi with
  | 0, _ => exact ⟨.inr rfl, nd _ _ _ rfl (by simp [partB, wordB, noX_bare, mdN, mdS]), .inl rfl, rfl, (show (3 : Int) ≠ 2 by decide), fun h => absurd (show (3 : Int) = 6 from h) (by decide), fun h => absurd (show (3 : Int) = 8 from h) (by decide), ⟨noX_sm, e00, e00, e00, Nat.zero_le _⟩⟩
  | 1, _ => exact ⟨.inl rfl, nd _ _ _ rfl (by simp [partB, wordB, hx, mdN, mdS]), .inl rfl, rfl, (show (4 : Int) ≠ 2 by decide), fun h => absurd (show (4 : Int) = 6 from h) (by decide), fun h => absurd (show (4 : Int) = 8 from h) (by decide), ⟨sx, e00, e00, e00, Nat.zero_le _⟩⟩
  | 2, _ => exact ⟨.inr rfl, nd _ _ _ rfl (by simp [partB, wordB, hp, mdN, mdS]), .inl rfl, rfl, (show (5 : Int) ≠ 2 by decide), fun h => absurd (show (5 : Int) = 6 from h) (by decide), fun h => absurd (show (5 : Int) = 8 from h) (by decide), ⟨sp, e00, e00, e00, Nat.zero_le _⟩⟩
  | 3, _ => exact ⟨.inl rfl, nd _ _ _ rfl (by simp [partB, wordB, noX_bare, hday, mdN, mdS]), .inl rfl, rfl, (show (6 : Int) ≠ 2 by decide), fun _ => ⟨rfl, rfl, rfl, rfl⟩, fun h => absurd (show (6 : Int) = 8 from h) (by decide), ⟨noX_sm, e00, e00, e00, Nat.zero_le _⟩⟩
  | 4, _ => exact ⟨.inr rfl, nd _ _ _ rfl (by simp [partB, wordB, noX_bare, hwho, hwhat, mdN, mdS]), .inr rfl, rfl, (show (7 : Int) ≠ 2 by decide), fun h => absurd (show (7 : Int) = 6 from h) (by decide), fun h => absurd (show (7 : Int) = 8 from h) (by decide), ⟨noX_sm, sw, e00, sv, Nat.zero_le _⟩⟩
  | 5, _ => exact ⟨.inl rfl, nd _ _ _ rfl (by simp [partB, wordB, noX_bare, hwho, hwhat, hdays, mdN, mdS]), .inr rfl, rfl, (show (8 : Int) ≠ 2 by decide), fun h => absurd (show (8 : Int) = 6 from h) (by decide), fun _ => ⟨rfl, rfl, rfl, rfl⟩, ⟨noX_sm, sw, e00, sv, hdl⟩⟩
  | 6, _ => exact ⟨.inl rfl, nd _ _ _ rfl (by simp [partB, wordB, hp, hdays, mdN, mdS]), .inl rfl, rfl, (show (9 : Int) ≠ 2 by decide), fun h => absurd (show (9 : Int) = 6 from h) (by decide), fun h => absurd (show (9 : Int) = 8 from h) (by decide), ⟨sp, e00, e00, e00, hdl⟩⟩
  | 7, _ => exact ⟨.inl rfl, nd _ _ _ rfl (by simp [partB, wordB, hp, hdays, mdN, mdS]), .inl rfl, rfl, (show (10 : Int) ≠ 2 by decide), fun h => absurd (show (10 : Int) = 6 from h) (by decide), fun h => absurd (show (10 : Int) = 8 from h) (by decide), ⟨sp, e00, e00, e00, hdl⟩⟩
  | i + 8, h => omega
end
end Z
end Go.Proofs.YtifafmomkpkgdaaDoor
