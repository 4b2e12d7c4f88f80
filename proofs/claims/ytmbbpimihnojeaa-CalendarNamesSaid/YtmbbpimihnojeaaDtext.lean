/- Walks: date.digits, date.Text. -/
import Derived.Test.YtmbbpimihnojeaaDprg
import Derived.Test.YtmbbpimihnojeaaMi
namespace Go.Proofs.Ytmbbpimihnojeaa
open Go.RowKit

/-- A number's digits, so many, as bytes. -/
def digs : Nat → Nat → List Nat
  | 0, _ => []
  | k + 1, n => digs k (n / 10) ++ [48 + n % 10]
theorem digs_length : ∀ k n : Nat, (digs k n).length = k
  | 0, _ => rfl
  | k + 1, n => by simp [digs, digs_length k]
def OwRet (w : World) (B : Nat) (ms : List Nat) (e : Ending) (w' : World) : Prop := ∃ v', e = .returned v' ∧ Ow .u8 5 w' B v' ms ∧ Below B w w' ∧ w.heap.size < w'.heap.size
set_option maxHeartbeats 800000 in
theorem digits_any : ∀ (k : Nat) (n : Nat) (v : Value) (ms : List Nat) (B : Nat) (w : World), n ≤ 100000 → k ≤ 10 → ms.length ≤ 1000 → B ≤ w.heap.size → Ow .u8 5 w B v ms →
    Calls Try.prog 47 #[v, .int .i64 n, .int .i64 ((k + 1 : Nat) : Int)] w (OwRet w B (ms ++ digs (k + 1) n)) := by
  intro k
  induction k with
  | zero =>
    intro n v ms B w hn hk hl hB hown
    go_enter Try.func47, Try.ntmps47
    go_wp2_with (at_builtin; refine app1 rfl _ _ _ rfl elem8 Try.underlying72 (by omega) w B v ms _ (48 + n % 10) (by omega) rfl hown rfl (by omega) hB ?_; intro v2 w2 hown2 hb2 hs2)
    go_ret
    exact ⟨_, rfl, by simpa [digs] using hown2, hb2, hs2⟩
  | succ k ih =>
    intro n v ms B w hn hk hl hB hown
    have hq : ((n : Int) / 10) = ((n / 10 : Nat) : Int) := by omega
    have hi := ih (n / 10) v ms B w (by omega) (by omega) hl hB hown
    rw [← hq] at hi
    have he : ((k + 1 : Nat) : Int) = (k : Int) + 1 := by omega
    rw [he] at hi
    have hk2 : ((k : Int) + 1 + 1 - 1) = (k : Int) + 1 := by omega
    have HI := Lib.hid hi
    clear hi ih he hq
    go_enter Try.func47, Try.ntmps47
    go_wp2_with fail
    refine HI.out.mono ?_
    rintro e w1 ⟨v1, rfl, hown1, hb1, hs1⟩
    have hd := digs_length (k + 1) (n / 10)
    have hl1 : (ms ++ digs (k + 1) (n / 10)).length < 1000000000 := by rw [List.length_append, hd]; omega
    have hB1 : B ≤ w1.heap.size := Nat.le_trans hB hb1.size
    clear hd
    generalize hos : ms ++ digs (k + 1) (n / 10) = os at *
    have HOS := Lib.hid hos
    clear hos
    go_wp2_with (at_builtin; refine app1 rfl _ _ _ rfl elem8 Try.underlying72 (by omega) w1 B v1 os _ (48 + n % 10) (by omega) rfl hown1 rfl hl1 hB1 ?_; intro v2 w2 hown2 hb2 hs2)
    go_ret
    refine ⟨_, rfl, ?_, hb1.trans hb2, by omega⟩
    rw [← HOS.out] at hown2
    show Ow _ _ _ _ _ (ms ++ (digs (k + 1) (n / 10) ++ [48 + n % 10]))
    rw [← List.append_assoc]
    exact hown2

def dtext (y m d : Int) : ByteArray := strOf (digs 4 y.toNat ++ [45] ++ digs 2 m.toNat ++ [45] ++ digs 2 d.toNat)
def TextRet (day : Int) (w : World) (e : Ending) (w' : World) : Prop := ∃ y m d, Z.Dt day y m d ∧ e = .returned (.tuple #[.string (dtext y m d), .int .i64 0]) ∧ Below w.heap.size w w'
set_option maxHeartbeats 800000 in
theorem text_date (day : Int) (w : World) (h0 : 0 ≤ day) (h1 : day ≤ 99999) :
    Calls Try.prog 37 #[.int .i64 day] w (TextRet day w) := by
  go_enter Try.func37, Try.ntmps37
  go_wp2_with fail
  refine (parts_any _ _ h0 h1).mono ?_
  rintro e w1 ⟨y, m, d, hA, rfl, hbl1⟩
  have hA1 := hA.y0; have hA2 := hA.y1; have hA3 := hA.m0; have hA4 := hA.m1; have hA5 := hA.d0; have hA6 := hA.d1
  have hl1 := (Z.len_ge y m).2
  have hd31 : d ≤ 31 := by omega
  have HA := Lib.hid hA
  clear hA hA6 hl1
  obtain ⟨yn, rfl⟩ : ∃ n : Nat, y = n := ⟨y.toNat, by omega⟩
  obtain ⟨mn, rfl⟩ : ∃ n : Nat, m = n := ⟨m.toNat, by omega⟩
  obtain ⟨dn, rfl⟩ : ∃ n : Nat, d = n := ⟨d.toNat, by omega⟩
  have HT : Hid (dtext yn mn dn = strOf (digs 4 yn ++ [45] ++ digs 2 mn ++ [45] ++ digs 2 dn)) := Lib.hid rfl
  go_wp2_with fail
  refine (digits_any 3 yn (.slice none 0 0) [] w.heap.size w1 (by omega) (by omega) (by simp) hbl1.size (Ow.nil_ _)).mono ?_
  rintro e w2 ⟨v2, rfl, hown2, hb2, hs2⟩
  have hB2 : w.heap.size ≤ w2.heap.size := by have := hbl1.size; omega
  have l4 := digs_length 4 yn
  rw [List.nil_append] at hown2
  have hl4 : (digs 4 yn).length < 1000000000 := by omega
  generalize ho4 : digs 4 yn = o4 at *
  go_wp2_with (at_builtin; refine app1 rfl _ _ _ rfl elem8 Try.underlying72 (by omega) w2 w.heap.size v2 o4 45 45 rfl rfl hown2 rfl hl4 hB2 ?_; intro v3 w3 hown3 hb3 hs3)
  refine (digits_any 1 mn v3 (o4 ++ [45]) w.heap.size w3 (by omega) (by omega) (by simp; omega) (by omega) hown3).mono ?_
  rintro e w4 ⟨v4, rfl, hown4, hb4, hs4⟩
  have l2 := digs_length 2 mn
  have hl5 : (o4 ++ [45] ++ digs 2 mn).length < 1000000000 := by simp; omega
  have hB4 : w.heap.size ≤ w4.heap.size := by omega
  generalize ho5 : o4 ++ [45] ++ digs 2 mn = o5 at *
  have hl6 : o5.length ≤ 100 := by rw [← ho5]; simp; omega
  go_wp2_with (at_builtin; refine app1 rfl _ _ _ rfl elem8 Try.underlying72 (by omega) w4 w.heap.size v4 o5 45 45 rfl rfl hown4 rfl hl5 hB4 ?_; intro v5 w5 hown5 hb5 hs5)
  refine (digits_any 1 dn v5 (o5 ++ [45]) w.heap.size w5 (by omega) (by omega) (by simp; omega) (by omega) hown5).mono ?_
  rintro e w6 ⟨v6, rfl, hown6, hb6, hs6⟩
  have hcv := conv_string w6 72 9 5 Try.underlying72 Try.underlying5 Try.underlying9 v6 _ hown6.sn
  have hbf : Below w.heap.size w w6 := hbl1.trans (hb2.trans (hb3.trans (hb4.trans (hb5.trans hb6))))
  have hx : strOf (o5 ++ [45] ++ digs (1 + 1) dn) = dtext yn mn dn := HT.out.symm
  rw [hx] at hcv
  clear hown2 hown3 hown4 hown5 hown6
  go_wp2_with fail
  go_ret2
  exact ⟨_, _, _, HA.out, rfl, hbf⟩
end Go.Proofs.Ytmbbpimihnojeaa
