/- Plain: the further claims of ClaimNames, and what Update, Open and Net answer on them. -/
import Derived.Test.YtdjghmpaopfboaaClah
namespace Go.Proofs.Ytdjghmpaopfboaa
open Go.RowKit
namespace Z
def tA : ByteArray := ⟨#[97]⟩
def tB : ByteArray := ⟨#[98]⟩
def pf : Fl := ⟨3, ⟨#[97]⟩, ⟨#[98]⟩, usd, ⟨#[49]⟩⟩
def zFl : Fl := ⟨0, ⟨#[]⟩, ⟨#[]⟩, ⟨#[]⟩, ⟨#[]⟩⟩
def annF : Fl := ⟨10, ⟨#[65, 110, 110]⟩, ⟨#[65, 110, 110]⟩, usd, ⟨#[51]⟩⟩
def exO : List Cl := [⟨2, 0, 5, ⟨12, bob, ann, usd, ⟨#[49]⟩⟩⟩, ⟨4, 0, 6, ⟨10, ann, bob, usd, ⟨#[52]⟩⟩⟩]
theorem nm_open : openL ex2 = exO ∧ valid ex2 = true := by decide +kernel
theorem nm_f : updE ex2 [] 5 = 21 := by decide +kernel
theorem nm_g : updE ex2 [] (-1) = 2 := by decide +kernel
theorem nm_h : updE ex2 [annF] (-1) = 8 := by decide +kernel
theorem nm_i : updE ex2 (List.replicate 5001 zFl) 7 = 4 := by
  have h : flE (List.replicate 5001 zFl) = 4 := by
    unfold flE
    rw [if_pos (by rw [List.length_replicate]; omega)]
  unfold updE
  rw [if_pos nm_open.2, h]
  rfl
theorem nm_j : updE ex2 [] 1125899906842624 = 0 ∧ (updL ex2 [] 1125899906842624).length = 6 := by decide +kernel
theorem nm_k : netR ex2 ⟨#[]⟩ usd = (⟨#[]⟩, 2) := by decide +kernel
theorem nm_l : netR ex2 ⟨#[67, 121]⟩ usd = (⟨#[48]⟩, 0) := by decide +kernel
theorem nm_m : netR ex2 ann ⟨#[69, 85, 82]⟩ = (⟨#[48]⟩, 0) := by decide +kernel
def tw1 : List Cl := [⟨1, 0, 0, pf⟩, ⟨2, 0, 0, pf⟩]
def tw2 : List Cl := [⟨1, 0, 0, pf⟩, ⟨2, 0, 0, pf⟩, ⟨3, 2, 0, opp pf⟩]
theorem nm_n : updE [] [pf, pf] 0 = 0 ∧ updL [] [pf, pf] 0 = tw1 := by decide +kernel
theorem nm_o : updE tw1 [pf] 0 = 0 ∧ updL tw1 [pf] 0 = tw2 := by decide +kernel
theorem flsOk_rep : ∀ (n : Nat) (p : Int), p ≤ 3 → flsOk p (List.replicate n pf) = true
  | 0, _, _ => rfl
  | n + 1, p, hp => by
    rw [List.replicate_succ]
    unfold flsOk
    rw [Bool.and_eq_true]
    refine ⟨?_, flsOk_rep n 3 (by omega)⟩
    have h : flOk 3 pf = true := by decide +kernel
    exact flOk_low h hp
theorem flE_rep {n : Nat} (h : n ≤ 5000) : flE (List.replicate n pf) = 0 := by
  unfold flE
  rw [if_neg (by rw [List.length_replicate]; omega), if_pos (flsOk_rep n 0 (by omega))]
theorem cnt_rep (n : Nat) : cnt (List.replicate n pf) pf = n := by
  unfold cnt
  rw [filter_every (by intro x hx; exact decide_eq_true (List.eq_of_mem_replicate hx)), List.length_replicate]
theorem many_len (n : Nat) : (updL [] (List.replicate n pf) 0).length = n := by
  rw [updL_eq, List.length_append, List.length_append]
  unfold revL newL
  rw [revs_len, news_len]
  have e1 : (rmL [] (List.replicate n pf)).length = 0 := rfl
  have e2 : (frL [] (List.replicate n pf)).length = n := by
    have h := cnt_fr (openL []) (List.replicate n pf) pf (List.replicate n pf).length (Nat.le_refl _)
    rw [List.take_length, cnt_rep] at h
    have h2 : frL [] (List.replicate n pf) = fr (openL []) (List.replicate n pf) (List.replicate n pf).length := rfl
    rw [h2]
    have h3 : ∀ x ∈ fr (openL []) (List.replicate n pf) (List.replicate n pf).length, x = pf := fun x hx => List.eq_of_mem_replicate (fr_mem hx)
    have h4 : cnt (fr (openL []) (List.replicate n pf) (List.replicate n pf).length) pf = (fr (openL []) (List.replicate n pf) (List.replicate n pf).length).length := by
      unfold cnt
      rw [filter_every (fun x hx => decide_eq_true (h3 x hx))]
    rw [← h4, h]
    rfl
  rw [e1, e2]
  simp
theorem nm_p {n : Nat} (h : n ≤ 5000) : updE [] (List.replicate n pf) 0 = 0 :=
  upd_mk rfl (flE_rep h) (by omega) (by omega) (Int.le_refl 0) (by rw [many_len]; exact h)
theorem nm_q {n m : Nat} (hn : n = 5000) (hm : n = m + 1) : updE (updL [] (List.replicate n pf) 0) (List.replicate m pf) 0 = 22 := by
  have h5 : n ≤ 5000 := by omega
  have hv := valid_upd (nm_p h5)
  have hp := upd_prevE (nm_p h5) (i := (updL [] (List.replicate n pf) 0).length) (Nat.zero_le _) (Nat.le_refl _)
  have hc : ∀ f, cntO (openL (updL [] (List.replicate n pf) 0)) f = cnt (List.replicate n pf) f := open_cnt (nm_p h5)
  have hl := many_len n
  have hpe : ¬ (0 < (updL [] (List.replicate n pf) 0).length ∧ (0 : Int) < prevE (updL [] (List.replicate n pf) 0) (updL [] (List.replicate n pf) 0).length) := by omega
  generalize updL [] (List.replicate n pf) 0 = L at *
  unfold updE
  rw [if_pos hv, if_pos (flE_rep (by omega)), if_neg (by omega), if_neg hpe, if_pos]
  rw [updL_eq, List.length_append, List.length_append]
  unfold revL
  rw [revs_len, hl]
  have h1 := cntO_rm (openL L) (cnt (List.replicate m pf)) pf (openL L).length (Nat.le_refl _)
  rw [List.take_length, hc, cnt_rep, cnt_rep] at h1
  have h2 : 1 ≤ (rmL L (List.replicate m pf)).length := by
    have : cntO (rmL L (List.replicate m pf)) pf ≤ (rmL L (List.replicate m pf)).length := List.length_filter_le _ _
    unfold rmL at *
    omega
  omega
def bf : Fl := ⟨1, ⟨#[97]⟩, ⟨#[98]⟩, usd, ⟨#[49]⟩⟩
def bz : Fl := ⟨1, ⟨#[97]⟩, ⟨#[98]⟩, usd, ⟨#[48]⟩⟩
def bo : Fl := ⟨1, ⟨#[98]⟩, ⟨#[97]⟩, usd, ⟨#[49]⟩⟩
def bad : Nat → List Cl
  | 0 => [⟨2, 0, 0, bf⟩]
  | 1 => [⟨1, 0, -1, bf⟩]
  | 2 => [⟨1, 0, 0, bz⟩]
  | 3 => [⟨1, 1, 0, bf⟩]
  | 4 => [⟨1, 0, 0, bf⟩, ⟨2, 1, 0, bf⟩]
  | 5 => [⟨1, 0, 4, bf⟩, ⟨2, 0, 3, bf⟩]
  | _ => [⟨1, 0, 0, bf⟩, ⟨2, 1, 0, bo⟩, ⟨3, 1, 0, bo⟩]
theorem bad_no : ∀ k, k < 7 → valid (bad k) = false := by
  intro k hk
  have : k = 0 ∨ k = 1 ∨ k = 2 ∨ k = 3 ∨ k = 4 ∨ k = 5 ∨ k = 6 := by omega
  rcases this with rfl | rfl | rfl | rfl | rfl | rfl | rfl <;> decide +kernel
theorem bad_small : ∀ k, ∀ x ∈ bad k, x.fl.small := by
  intro k x hx
  match k with
  | 0 | 1 | 2 | 3 | 4 | 5 | n + 6 =>
    simp only [bad, List.mem_cons, List.not_mem_nil, or_false] at hx
    first
      | (subst hx; exact ⟨by decide, by decide, by decide, by decide⟩)
      | (rcases hx with rfl | rfl <;> exact ⟨by decide, by decide, by decide, by decide⟩)
      | (rcases hx with rfl | rfl | rfl <;> exact ⟨by decide, by decide, by decide, by decide⟩)
end Z
end Go.Proofs.Ytdjghmpaopfboaa
