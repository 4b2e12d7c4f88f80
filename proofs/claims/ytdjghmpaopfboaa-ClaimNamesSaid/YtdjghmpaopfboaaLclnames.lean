/-
  The example of the chapter, and further claims and errors.
-/
import Derived.Test.YtdjghmpaopfboaaRows
import Derived.Test.YtdjghmpaopfboaaClah
import Derived.Test.YtdjghmpaopfboaaClframe
import Derived.Test.YtdjghmpaopfboaaClsame
import Derived.Test.YtdjghmpaopfboaaZcln
import Derived.Test.YtdjghmpaopfboaaClnm
import Derived.HandedShaped
import Derived.ProofKit
import Derived.OpenShut
import Derived.ShutString
namespace Go.Proofs.Ytdjghmpaopfboaa.lawNames
open Go.ChangeShapes Go.WideShapes Go.ChangeAt Go.RowKit
open Go.ChangeMaps (open_string shut_string)

theorem own : ownKnob Try.prog.godebug = none := by kernel_rfl

theorem hz_ex : ∃ f : Nat → Array Value, ∀ n, f n = zfs n := ⟨zfs, fun _ => rfl⟩
/-- The cells of n zero flows, closed to the kernel. -/
noncomputable def hz : Nat → Array Value := Classical.choose hz_ex
theorem hz_eq (n : Nat) : hz n = zfs n := Classical.choose_spec hz_ex n
theorem hr_ex : ∃ f : Nat → List Z.Fl, ∀ n, f n = List.replicate n Z.zFl := ⟨fun n => List.replicate n Z.zFl, fun _ => rfl⟩
/-- n zero flows, closed to the kernel. -/
noncomputable def hr : Nat → List Z.Fl := Classical.choose hr_ex
theorem hr_eq (n : Nat) : hr n = List.replicate n Z.zFl := Classical.choose_spec hr_ex n
theorem hr_small (n : Nat) : ∀ x ∈ hr n, x.small := by
  rw [hr_eq]
  exact zFl_small n
theorem nm_ih : Z.updE Z.ex2 (hr 5001) 7 = 4 := by
  rw [hr_eq]
  exact Z.nm_i
theorem mk5001 (w : World) : (Instr.makeSlice 25 (.int .i64 5001) (.int .i64 5001)).run Try.prog w = .ok (.slice (some ⟨w.heap.size, 0, none⟩) 5001 5001) (w.alloc (.cells (hz 5001) 36)) := by
  rw [hz_eq]
  exact run_mk5001 w
theorem mk5000 (w : World) : (Instr.makeSlice 25 (.int .i64 5000) (.int .i64 5000)).run Try.prog w = .ok (.slice (some ⟨w.heap.size, 0, none⟩) 5000 5000) (w.alloc (.cells (hz 5000) 36)) := by
  rw [hz_eq]
  exact run_mk5000 w
attribute [local go_sem ↓] mk5001
attribute [local go_sem ↓] mk5000
theorem tw1_small : ∀ x ∈ Z.tw1, x.fl.small := by
  intro x hx
  simp only [Z.tw1, List.mem_cons, List.not_mem_nil, or_false] at hx
  rcases hx with rfl | rfl <;> exact ⟨by decide, by decide, by decide, by decide⟩
theorem sz1 (w : World) (o : Obj) : (w.alloc o).heap.size = w.heap.size + 1 := Array.size_push _
theorem sfa1 (w : World) : SF (w.alloc (.cells #[.int .i64 10, .string ⟨#[65, 110, 110]⟩, .string ⟨#[65, 110, 110]⟩, .string Z.usd, .string ⟨#[51]⟩] 36)) (.slice (some ⟨w.heap.size, 0, none⟩) 1 1) [Z.annF] := OL.sl Z.Fl.vs_len (lit_flows w [Z.annF] 1 _ rfl (by decide) rfl)
theorem sfa2 (w : World) (o : Obj) : SF ((w.alloc o).alloc (.cells #[.int .i64 10, .string ⟨#[65, 110, 110]⟩, .string ⟨#[65, 110, 110]⟩, .string Z.usd, .string ⟨#[51]⟩] 36)) (.slice (some ⟨w.heap.size + 1, 0, none⟩) 1 1) [Z.annF] := by
  have := sfa1 (w.alloc o)
  rw [sz1] at this
  exact this
theorem zfs_start (N : Nat) : zfs N = ((List.replicate 0 Z.pf ++ List.replicate (N - 0) Z.zFl).flatMap Z.Fl.vs).toArray := by
  unfold zfs
  rw [Nat.sub_zero]
  rfl
theorem blk_many {w : World} {g n m : Nat} (h : Blk w g 36 ((List.replicate n Z.pf).flatMap Z.Fl.vs).toArray) (hm : n = m) (hn : n ≤ 10000) : SF w (.slice (some ⟨g, 0, none⟩) m m) (List.replicate n Z.pf) := by
  subst hm
  have h2 := OL.sl Z.Fl.vs_len (blk_flows (B := 0) h (Nat.zero_le _) (by rw [List.length_replicate]; exact hn))
  rw [List.length_replicate] at h2
  exact h2
theorem many_end {w : World} {g n : Nat} (h : Blk w g 36 ((List.replicate 5000 Z.pf ++ List.replicate (n - 5000) Z.zFl).flatMap Z.Fl.vs).toArray) (hn : n = 5000) : SF w (.slice (some ⟨g, 0, none⟩) 5000 5000) (List.replicate n Z.pf) := by
  refine blk_many ?_ hn (by omega)
  rw [show n - 5000 = 0 by omega, List.replicate_zero, List.append_nil, ← hn] at h
  exact h
theorem many_tail {w : World} {g n m : Nat} (h : SF w (.slice (some ⟨g, 0, none⟩) 5000 5000) (List.replicate n Z.pf)) (hm : n = m + 1) : SF w (.slice (some ⟨g, 5, none⟩) 4999 4999) (List.replicate m Z.pf) := by
  have h2 := SL.tail_ (n := 4999) (c := 4999) h
  rw [List.drop_replicate, hm, Nat.add_sub_cancel, Nat.zero_add] at h2
  exact h2
theorem sfd {w : World} {v : Value} {l : List Z.Fl} (h : SF w v l) : SF w.drew v l := SL.below h (Below.refl _ w).drew
theorem bnd2 {W y : World} {o : Obj} (hb : Below ((W.alloc o).alloc (.cells #[.slice none 0 0] 24)).drew.heap.size ((W.alloc o).alloc (.cells #[.slice none 0 0] 24)).drew y) : Blk y (W.heap.size + 1) 24 #[.slice none 0 0] := by
  have := Blk.new (W.alloc o) 24 #[.slice none 0 0]
  rw [sz1] at this
  exact Blk.below (W := ((W.alloc o).alloc (.cells #[.slice none 0 0] 24)).drew) this hb
theorem bnd3 {W y : World} {cs : Array Value} (hb : Below ((W.alloc (.cells #[.slice none 0 0] 24)).alloc (.cells cs 36)).drew.heap.size ((W.alloc (.cells #[.slice none 0 0] 24)).alloc (.cells cs 36)).drew y) : Blk y W.heap.size 24 #[.slice none 0 0] :=
  Blk.below (W := ((W.alloc (.cells #[.slice none 0 0] 24)).alloc (.cells cs 36)).drew) ((Blk.new W 24 #[.slice none 0 0]).alloc _) hb
theorem sfmn (n : Nat) (hn : n ≤ 10000) (w : World) : SF (w.alloc (.cells (hz n) 36)) (.slice (some ⟨w.heap.size, 0, none⟩) n n) (hr n) := by
  rw [hz_eq, hr_eq]
  have h := OL.sl Z.Fl.vs_len (blk_flows (B := 0) (Blk.new w 36 ((List.replicate n Z.zFl).flatMap Z.Fl.vs).toArray) (Nat.zero_le _) (by rw [List.length_replicate]; exact hn))
  rw [List.length_replicate] at h
  exact h
theorem sfm1 (w : World) : SF (w.alloc (.cells (hz 5001) 36)) (.slice (some ⟨w.heap.size, 0, none⟩) 5001 5001) (hr 5001) := sfmn 5001 (by omega) w
theorem sfm2 (w : World) (o : Obj) : SF ((w.alloc o).alloc (.cells (hz 5001) 36)) (.slice (some ⟨w.heap.size + 1, 0, none⟩) 5001 5001) (hr 5001) := by
  have := sfm1 (w.alloc o)
  rw [sz1] at this
  exact this
set_option maxRecDepth 100000 in
set_option maxHeartbeats 64000000 in
theorem walk (w : World) (hV : HasV w) :
    Calls Try.prog 5 #[] w fun e w' => e = .returned (.bool true) ∧ Below w.heap.size w w' := by
  have HV := Lib.hid hV
  go_enter Try.func5, Try.ntmps5
  go_wp2_with fail
  refine (example_any w hV).mono ?_
  rintro e W1 ⟨h1, v, rfl, hO⟩
  obtain ⟨A, n, c, rfl⟩ := hO.shape3
  have h2 := h1.alloc h1.size (.cells #[.slice A n c] 24)
  have B2 := Blk.new W1 24 #[.slice A n c]
  have HO2 := Lib.hid (OL.sl Z.Cl.vs_len (hO.alloc (.cells #[.slice A n c] 24)))
  have hl2 := B2.cell 0
  clear hO h1 hV
  go_wp2_with fail
  generalize (W1.alloc (.cells #[.slice A n c] 24)) = W2 at *
  generalize W1.heap.size = g at *
  refine (open_any (.slice A n c) Z.ex2 W2 HO2.out (HV.out.below h2) ex2_small).mono ?_
  intro e W3 hr
  obtain ⟨hb, va, rfl, sa⟩ := open_uni hr
  rw [Z.nm_open.2, if_pos rfl, Z.nm_open.1] at sa
  rw [show Z.clE Z.ex2 = 0 by unfold Z.clE; rw [Z.nm_open.2]; rfl]
  obtain ⟨A3, c3, hva⟩ : ∃ A3 c3, va = .slice A3 2 c3 := by
    obtain ⟨A3, c3, hva, _⟩ := sa
    exact ⟨A3, c3, hva⟩
  subst hva
  have HN3 : Hid (NS w g A n c A3 c3 W3) := Lib.hid ⟨h2.trans (hb.mono h2.size), B2.below hb, HO2.out.below hb, sa⟩
  clear hr hb B2 HO2 hl2 h2 sa
  have hc3 := HN3.out.box
  go_wp2_with fail
  refine (NS.upd HV HN3 SL.nil_ nil_small Z.nm_f (by decide)).mono ?_
  rintro e X3 ⟨rfl, hb⟩
  have HN4 := Lib.hid ((HN3.out.below hb).alloc (.cells #[.slice none 0 0] 24))
  clear hb HN3 hc3
  have hc4 := HN4.out.box
  go_wp2_with fail
  refine (NS.upd HV HN4 SL.nil_ nil_small Z.nm_g (by decide)).mono ?_
  rintro e X4 ⟨rfl, hb⟩
  have HN5 := Lib.hid ((HN4.out.below hb).alloc (.cells #[.slice none 0 0] 24))
  clear hb HN4 hc4
  have hc5 := HN5.out.box
  go_upto_region 5 with fail
  generalize (X4.alloc (.cells #[.slice none 0 0] 24)) = W5 at *
  have UB := Lib.hid (fun W v (h : Below W5.heap.size W5 W) (hF : SF W v [Z.annF]) => NS.upd (en := -1) HV (Lib.hid (HN5.out.below h)) hF annF_small Z.nm_h (by decide))
  go_cut [9, 10] from 58 to 64 (fun _ ev wx => ev = .int .i64 8 ∧ Below W5.heap.size W5 wx)
  case first =>
    have N5 := HN5.out.2.1
    go_region_held3 (fun W => W.cell? ⟨g, 0, none⟩ = some (.slice A n c))
      (first
        | exact hc5
        | (refine cellB N5 ?_; repeat' (first | with_reducible exact Below.refl _ _ | with_reducible refine bs ?_ ?_ | with_reducible refine bs2 ?_ ?_ | with_reducible refine ba ?_ _ | with_reducible refine bd ?_ | (with_reducible apply bt; with_reducible assumption))))
      (first
        | (go_at_call 23; (with_reducible refine (pays_any 10 ⟨#[65, 110, 110]⟩ ⟨#[65, 110, 110]⟩ ⟨#[51]⟩ _).mono ?_); rintro e y ⟨rfl, hb⟩; (first | with_reducible have bg := bnd2 hb | with_reducible have bg := bnd3 hb | with_reducible have bg := bnd hb | with_reducible have bg := bn2 hb | with_reducible have bg := Blk.below (Blk.new _ 24 #[.slice none 0 0]) hb | with_reducible have bg := Blk.below (Blk.alloc (Blk.new _ 24 #[.slice none 0 0]) _) hb | with_reducible have bg := Blk.below bg hb | with_reducible have bg := Blk.below (Blk.alloc bg _) hb | skip); (first | (have hg0 := bg.cell 0; have hg1 := bg.frozen 0) | skip))
        | (go_at_call 13; (with_reducible refine (UB.out _ _ ?_ ?_).mono ?_); (focus repeat' (first | with_reducible exact Below.refl _ _ | with_reducible refine bs ?_ ?_ | with_reducible refine bs2 ?_ ?_ | with_reducible refine ba ?_ _ | with_reducible refine bd ?_ | (with_reducible apply bt; with_reducible assumption))); (focus repeat (first | with_reducible exact sfa1 _ | with_reducible exact sfa2 _ _ | with_reducible refine SL.alloc ?_ _ | with_reducible refine sfd ?_)); rintro e y ⟨rfl, hb⟩; have hz0 := (Blk.new y 24 #[.slice none 0 0]).cell 0; have hz1 := (Blk.new y 24 #[.slice none 0 0]).frozen 0; (first | with_reducible have bg := bnd2 hb | with_reducible have bg := bnd3 hb | with_reducible have bg := bnd hb | with_reducible have bg := bn2 hb | with_reducible have bg := Blk.below (Blk.new _ 24 #[.slice none 0 0]) hb | with_reducible have bg := Blk.below (Blk.alloc (Blk.new _ 24 #[.slice none 0 0]) _) hb | with_reducible have bg := Blk.below bg hb | with_reducible have bg := Blk.below (Blk.alloc bg _) hb | skip); (first | (have hg0 := bg.cell 0; have hg1 := bg.frozen 0) | skip)))
    all_goals (go_wp2_with fail)
    all_goals go_meet
    all_goals
      refine ⟨rfl, ?_⟩
      repeat' (first | with_reducible exact Below.refl _ _ | with_reducible refine bs ?_ ?_ | with_reducible refine bs2 ?_ ?_ | with_reducible refine ba ?_ _ | with_reducible refine bd ?_ | (with_reducible apply bt; with_reducible assumption))
  case rest =>
  obtain ⟨rfl, hb⟩ := hcut
  rename World => W6
  have HN6 := Lib.hid (HN5.out.below hb)
  clear hb HN5 hc5 UB
  have hc6 := HN6.out.box
  go_upto_region 6 with fail
  have UB := Lib.hid (fun W v (h : Below W6.heap.size W6 W) (hF : SF W v (hr 5001)) => NS.upd (en := 7) HV (Lib.hid (HN6.out.below h)) hF (hr_small 5001) nm_ih (by decide))
  go_cut [11, 12] from 65 to 70 (fun _ ev wx => ev = .int .i64 4 ∧ Below W6.heap.size W6 wx)
  case first =>
    have N5 := HN6.out.2.1
    go_region_held3 (fun W => W.cell? ⟨g, 0, none⟩ = some (.slice A n c))
      (first
        | exact hc6
        | (refine cellB N5 ?_; repeat' (first | with_reducible exact Below.refl _ _ | with_reducible refine bs ?_ ?_ | with_reducible refine bs2 ?_ ?_ | with_reducible refine ba ?_ _ | with_reducible refine bd ?_ | (with_reducible apply bt; with_reducible assumption))))
      (first
        | (go_at_call 13; (with_reducible refine (UB.out _ _ ?_ ?_).mono ?_); (focus repeat' (first | with_reducible exact Below.refl _ _ | with_reducible refine bs ?_ ?_ | with_reducible refine bs2 ?_ ?_ | with_reducible refine ba ?_ _ | with_reducible refine bd ?_ | (with_reducible apply bt; with_reducible assumption))); (focus repeat (first | with_reducible exact sfm1 _ | with_reducible exact sfm2 _ _ | with_reducible refine SL.alloc ?_ _ | with_reducible refine sfd ?_)); rintro e y ⟨rfl, hb⟩; have hz0 := (Blk.new y 24 #[.slice none 0 0]).cell 0; have hz1 := (Blk.new y 24 #[.slice none 0 0]).frozen 0; (first | with_reducible have bg := bnd2 hb | with_reducible have bg := bnd3 hb | with_reducible have bg := bnd hb | with_reducible have bg := bn2 hb | with_reducible have bg := Blk.below (Blk.new _ 24 #[.slice none 0 0]) hb | with_reducible have bg := Blk.below (Blk.alloc (Blk.new _ 24 #[.slice none 0 0]) _) hb | with_reducible have bg := Blk.below bg hb | with_reducible have bg := Blk.below (Blk.alloc bg _) hb | skip); (first | (have hg0 := bg.cell 0; have hg1 := bg.frozen 0) | skip)))
    all_goals (go_wp2_with fail)
    all_goals go_meet
    all_goals
      refine ⟨rfl, ?_⟩
      repeat' (first | with_reducible exact Below.refl _ _ | with_reducible refine bs ?_ ?_ | with_reducible refine bs2 ?_ ?_ | with_reducible refine ba ?_ _ | with_reducible refine bd ?_ | (with_reducible apply bt; with_reducible assumption))
  case rest =>
  obtain ⟨rfl, hb⟩ := hcut
  rename World => W7
  have HN7 := Lib.hid (HN6.out.below hb)
  clear hb HN6 hc6 UB
  have hc7 := HN7.out.box
  go_wp2_with fail
  refine (update_any _ _ Z.ex2 [] 1125899906842624 W7 HN7.out.2.2.1 SL.nil_ (HV.out.below HN7.out.1) ex2_small nil_small).mono ?_
  intro e X7 hr
  obtain ⟨hb, v7, rfl, hO⟩ := upd_good hr Z.nm_j.1
  obtain ⟨A7, c7, hv⟩ := hO.shape
  rw [Z.nm_j.2] at hv
  subst hv
  have HN8 := Lib.hid ((HN7.out.below hb).alloc (.cells #[.slice A7 6 c7] 24))
  have HJ8 := Lib.hid (Blk.new X7 24 #[.slice A7 6 c7])
  clear hr hb hO HN7 hc7
  have hc8 := HN8.out.box
  go_wp2_with fail
  generalize (X7.alloc (.cells #[.slice A7 6 c7] 24)) = W8 at *
  generalize X7.heap.size = gJ at *
  refine (NS.net HV HN8 (by decide) (by decide) Z.nm_k).mono ?_
  rintro e W9 ⟨rfl, hb⟩
  have HN9 := Lib.hid (HN8.out.below hb)
  have HJ9 := Lib.hid (HJ8.out.below hb)
  clear hb HN8 HJ8 hc8
  have hc9 := HN9.out.box
  go_wp2_with fail
  refine (NS.net HV HN9 (by decide) (by decide) Z.nm_l).mono ?_
  rintro e W10 ⟨rfl, hb⟩
  have HN10 := Lib.hid (HN9.out.below hb)
  have HJ10 := Lib.hid (HJ9.out.below hb)
  clear hb HN9 HJ9 hc9
  have hc10 := HN10.out.box
  go_wp2_with fail
  refine (NS.net HV HN10 (by decide) (by decide) Z.nm_m).mono ?_
  rintro e W11 ⟨rfl, hb⟩
  have HN11 := Lib.hid (HN10.out.below hb)
  have HJ11 := Lib.hid (HJ10.out.below hb)
  clear hb HN10 HJ10 hc10
  go_wp2_with fail
  refine (pays_any 3 ⟨#[97]⟩ ⟨#[98]⟩ ⟨#[49]⟩ W11).mono ?_
  rintro e W12 ⟨rfl, hb⟩
  have HN12 := Lib.hid (HN11.out.below hb)
  have HJ12 := Lib.hid (HJ11.out.below hb)
  clear hb HN11 HJ11
  go_wp2_with fail
  refine (pays_any 3 ⟨#[97]⟩ ⟨#[98]⟩ ⟨#[49]⟩ W12).mono ?_
  rintro e X12 ⟨rfl, hb⟩
  have HN13 := Lib.hid ((HN12.out.below hb).alloc (.cells #[.int .i64 3, .string ⟨#[97]⟩, .string ⟨#[98]⟩, .string Z.usd, .string ⟨#[49]⟩, .int .i64 3, .string ⟨#[97]⟩, .string ⟨#[98]⟩, .string Z.usd, .string ⟨#[49]⟩] 36))
  have HJ13 := Lib.hid ((HJ12.out.below hb).alloc (.cells #[.int .i64 3, .string ⟨#[97]⟩, .string ⟨#[98]⟩, .string Z.usd, .string ⟨#[49]⟩, .int .i64 3, .string ⟨#[97]⟩, .string ⟨#[98]⟩, .string Z.usd, .string ⟨#[49]⟩] 36))
  have HT13 : Hid (SF (X12.alloc (.cells #[.int .i64 3, .string ⟨#[97]⟩, .string ⟨#[98]⟩, .string Z.usd, .string ⟨#[49]⟩, .int .i64 3, .string ⟨#[97]⟩, .string ⟨#[98]⟩, .string Z.usd, .string ⟨#[49]⟩] 36)) (.slice (some ⟨X12.heap.size, 0, none⟩) 2 2) [Z.pf, Z.pf]) := Lib.hid (OL.sl Z.Fl.vs_len (lit_flows X12 [Z.pf, Z.pf] 2 _ rfl (by decide) rfl))
  clear hb HN12 HJ12
  go_wp2_with fail
  generalize (X12.alloc (.cells #[.int .i64 3, .string ⟨#[97]⟩, .string ⟨#[98]⟩, .string Z.usd, .string ⟨#[49]⟩, .int .i64 3, .string ⟨#[97]⟩, .string ⟨#[98]⟩, .string Z.usd, .string ⟨#[49]⟩] 36)) = W13 at *
  generalize X12.heap.size = gT at *
  refine (update_any _ _ [] [Z.pf, Z.pf] 0 W13 SL.nil_ HT13.out (HV.out.below HN13.out.1) (fun x hx => by cases hx) (pf_small 2)).mono ?_
  intro e X13 hr
  obtain ⟨hb, v13, rfl, hO⟩ := upd_good hr Z.nm_n.1
  rw [Z.nm_n.2] at hO
  obtain ⟨AD, nD, cD, rfl⟩ := hO.shape3
  have HNX := Lib.hid (HN13.out.below hb)
  have HJX := Lib.hid (HJ13.out.below hb)
  have hk14 := (Below.refl _ X13).alloc (Nat.le_refl X13.heap.size) (.cells #[.slice AD nD cD] 24)
  have HN14 := Lib.hid (HNX.out.below hk14)
  have HT14 := Lib.hid ((HT13.out.below hb).alloc (.cells #[.slice AD nD cD] 24))
  have HD14 := Lib.hid (OL.sl Z.Cl.vs_len (hO.alloc (.cells #[.slice AD nD cD] 24)))
  have BD14 := Blk.new X13 24 #[.slice AD nD cD]
  have hd14 := BD14.cell 0
  clear hr hb hO HN13 HJ13 HT13
  go_upto_region 13 with fail
  generalize (X13.alloc (.cells #[.slice AD nD cD] 24)) = W14 at *
  have hb14 : Below X13.heap.size X13 W14 := hk14
  have hdd : W14.drew.cell? ⟨X13.heap.size, 0, none⟩ = some (.slice AD nD cD) := hd14
  have UB : Hid (∀ W, Below W14.heap.size W14 W → Calls Try.prog 13 #[.agg #[.slice AD nD cD], .slice (some ⟨gT, 0, none⟩) 1 2, .int .i64 0] W (fun e w' => ∃ A c, e = .returned (.tuple #[.agg #[.slice A 3 c], .int .i64 0]) ∧ OC w' W.heap.size (.slice A 3 c) Z.tw2 ∧ Blk w' X13.heap.size 24 #[.slice AD nD cD] ∧ Below W14.heap.size W14 w')) := Lib.hid (fun W h => by
    refine (update_any _ _ Z.tw1 [Z.pf] 0 W (HD14.out.below h) ((HT14.out.below h).first (m := 1) (by decide)) (HV.out.below (HN14.out.below h).1) tw1_small (pf_small 1)).mono ?_
    intro e w' hr
    obtain ⟨hb, v, rfl, hO⟩ := upd_good hr Z.nm_o.1
    rw [Z.nm_o.2] at hO
    obtain ⟨A, c, hv⟩ := hO.shape
    have hv : v = .slice A 3 c := hv
    subst hv
    exact ⟨A, c, rfl, hO, (BD14.below h).below hb, h.trans (hb.mono h.size)⟩)
  clear hk14
  go_cut [24] from 100 to 106 (fun ev wx => ev = .int .i64 0 ∧ ∃ A c, Below X13.heap.size X13 wx ∧ Blk wx X13.heap.size 24 #[.slice A 3 c] ∧ SC wx (.slice A 3 c) Z.tw2)
  case first =>
    go_region_with (first
      | (go_at_call 13; (with_reducible refine (UB.out _ ?_).mono ?_); (focus repeat' (first | with_reducible exact Below.refl _ _ | with_reducible refine bs ?_ ?_ | with_reducible refine bs2 ?_ ?_ | with_reducible refine ba ?_ _ | with_reducible refine bd ?_ | (with_reducible apply bt; with_reducible assumption))); rintro e y ⟨A', c', rfl, hO, bD, hb⟩; have hd0 := bD.cell 0; have hd1 := bD.frozen 0))
    all_goals (go_wp2_with fail)
    all_goals go_meet
    all_goals exact ⟨rfl, A', c', (hb14.trans (hb.mono hb14.size)).setCell (p := ⟨X13.heap.size, 0, none⟩) (Nat.le_refl _) _, bD.set 0 _, OL.sl Z.Cl.vs_len (ocs bD hO)⟩
  case rest =>
  obtain ⟨rfl, AE, cE, hk17, BD17, sd⟩ := hcut
  rename World => W17
  have HD17 := Lib.hid sd
  have HN17 := Lib.hid (HNX.out.below hk17)
  have HJ17 := Lib.hid (HJX.out.below hk17)
  clear sd hk17 HNX HJX UB hb14 hdd hd14 BD14 HD14 HT14 HN14
  go_upto_region 14 with fail
  generalize X13.heap.size = gD at *
  have BM0 := Blk.new W17 36 (hz 5000)
  have hk18 := (Below.refl _ W17).alloc (Nat.le_refl W17.heap.size) (.cells (hz 5000) 36)
  obtain ⟨N, hN⟩ : ∃ N : Nat, N = 5000 := ⟨5000, rfl⟩
  have HNN := Lib.hid hN
  have HBM : Hid (Blk (W17.alloc (.cells (hz 5000) 36)) W17.heap.size 36 ((List.replicate 0 Z.pf ++ List.replicate (N - 0) Z.zFl).flatMap Z.Fl.vs).toArray ∧ Below W17.heap.size W17 (W17.alloc (.cells (hz 5000) 36))) := Lib.hid ⟨by rw [← zfs_start, hN, ← hz_eq]; exact BM0, hk18⟩
  clear BM0 hk18 hN
  go_wp2_with fail
  generalize (W17.alloc (.cells (hz 5000) 36)) = W18 at *
  go_loopw [26] (fun iv wr => ∃ k : Nat, k ≤ 5000 ∧ iv = .int .i64 k ∧ Hid (Blk wr W17.heap.size 36 ((List.replicate k Z.pf ++ List.replicate (N - k) Z.zFl).flatMap Z.Fl.vs).toArray ∧ Below W17.heap.size W17 wr)) (fun iv _ => 5000 - (intOf iv).toNat)
  case atStart => exact ⟨0, by omega, rfl, HBM⟩
  case round =>
    obtain ⟨k, hk, rfl, HB⟩ := hrel
    clear HBM
    by_cases hlt : k < 5000
    · skip
      go_wp2_with fail
      refine (pays_any 3 ⟨#[97]⟩ ⟨#[98]⟩ ⟨#[49]⟩ wr).mono ?_
      rintro e X ⟨rfl, hb⟩
      have hkl : k < (List.replicate k Z.pf ++ List.replicate (N - k) Z.zFl).length := by rw [List.length_append, List.length_replicate, List.length_replicate]; have := HNN.out; omega
      have BX := HB.out.1.below hb
      have hkx := HB.out.2.trans (hb.mono HB.out.2.size)
      have HS5 := Lib.hid (blk_set Z.pf BX hkl)
      have hcs : ((List.replicate k Z.pf ++ List.replicate (N - k) Z.zFl).flatMap Z.Fl.vs).toArray.size = 5000 * 5 := by rw [List.size_toArray, Z.flat_len Z.Fl.vs_len, List.length_append, List.length_replicate, List.length_replicate]; have := HNN.out; omega
      have hex : ∀ i, i < 25000 → ∃ y, X.cell? ⟨W17.heap.size, i, none⟩ = some y := fun i hi => ⟨_, (BX.cell i).trans (Array.getElem?_eq_getElem (by rw [hcs]; exact hi))⟩
      obtain ⟨z0, hz0⟩ := hex (k * 5) (by omega)
      obtain ⟨z1, hz1⟩ := hex (k * 5 + 1) (by omega)
      obtain ⟨z2, hz2⟩ := hex (k * 5 + 2) (by omega)
      obtain ⟨z3, hz3⟩ := hex (k * 5 + 3) (by omega)
      obtain ⟨z4, hz4⟩ := hex (k * 5 + 4) (by omega)
      have f0 := BX.frozen (k * 5)
      have f1 := BX.frozen (k * 5 + 1)
      have f2 := BX.frozen (k * 5 + 2)
      have f3 := BX.frozen (k * 5 + 3)
      have f4 := BX.frozen (k * 5 + 4)
      have hbl : W17.heap.size < X.heap.size := BX.lt
      have e1 : N - k = (N - (k + 1)) + 1 := by have := HNN.out; omega
      have hs6 := HS5.out
      rw [e1, rep_set] at hs6
      have HS6 := Lib.hid hs6
      have HK6 := Lib.hid (((((hkx.setCell (p := ⟨W17.heap.size, k * 5, none⟩) (Nat.le_refl _) (.int .i64 3)).setCell (p := ⟨W17.heap.size, k * 5 + 1, none⟩) (Nat.le_refl _) (.string ⟨#[97]⟩)).setCell (p := ⟨W17.heap.size, k * 5 + 2, none⟩) (Nat.le_refl _) (.string ⟨#[98]⟩)).setCell (p := ⟨W17.heap.size, k * 5 + 3, none⟩) (Nat.le_refl _) (.string Z.usd)).setCell (p := ⟨W17.heap.size, k * 5 + 4, none⟩) (Nat.le_refl _) (.string ⟨#[49]⟩))
      clear hex hcs hkl hb HB HS5 hs6 e1 BX hkx
      go_wp2_with fail
      go_roundw
      case rel => exact ⟨k + 1, by omega, by go_num, Lib.hid ⟨HS6.out, HK6.out⟩⟩
      case measure => simp [intOf] <;> omega
    · skip
      obtain rfl : k = 5000 := by omega
      have hbm := HB.out.1
      have hk19 := HB.out.2
      have hNk : (5000 : Nat) = N := HNN.out.symm
      have HM19 : Hid (SF wr (.slice (some ⟨W17.heap.size, 0, none⟩) 5000 5000) (List.replicate N Z.pf)) := Lib.hid (many_end hbm HNN.out)
      have HN19 := Lib.hid (HN17.out.below hk19)
      have HJ19 := Lib.hid (HJ17.out.below hk19)
      have HD19 := Lib.hid (HD17.out.below hk19)
      have BD19 := Lib.hid (BD17.below hk19)
      clear HB hbm hk19 hlt hk HN17 HJ17 HD17 BD17 hNk
      generalize W17.heap.size = gM at *
      go_wp2_with fail
      refine (update_any (.slice none 0 0) _ [] (List.replicate N Z.pf) 0 wr SL.nil_ HM19.out (HV.out.below HN19.out.1) (fun x hx => by cases hx) (pf_small N)).mono ?_
      intro e X19 hr
      obtain ⟨hb, v19, rfl, hO⟩ := upd_good hr (Z.nm_p (by rw [HNN.out]; exact Nat.le_refl _))
      obtain ⟨AF, cF, hv⟩ := hO.shape
      rw [Z.many_len, HNN.out] at hv
      subst hv
      have HN20 := Lib.hid ((HN19.out.below hb).alloc (.cells #[.slice AF 5000 cF] 24))
      have HJ20 := Lib.hid ((HJ19.out.below hb).alloc (.cells #[.slice AF 5000 cF] 24))
      have HD20 := Lib.hid ((HD19.out.below hb).alloc (.cells #[.slice AF 5000 cF] 24))
      have BD20 := Lib.hid ((BD19.out.below hb).alloc (.cells #[.slice AF 5000 cF] 24))
      have HM20 := Lib.hid ((HM19.out.below hb).alloc (.cells #[.slice AF 5000 cF] 24))
      have HF20 := Lib.hid (OL.sl Z.Cl.vs_len (hO.alloc (.cells #[.slice AF 5000 cF] 24)))
      have BF20 := Blk.new X19 24 #[.slice AF 5000 cF]
      have hf20 := BF20.cell 0
      clear hr hb hO HN19 HJ19 HD19 BD19 HM19
      go_upto_region 20 with fail
      generalize (X19.alloc (.cells #[.slice AF 5000 cF] 24)) = W20 at *
      generalize X19.heap.size = gF at *
      obtain ⟨M, hM⟩ : ∃ M, N = M + 1 := ⟨4999, HNN.out⟩
      have UB : Hid (∀ W, Below W20.heap.size W20 W → Calls Try.prog 13 #[.agg #[.slice AF 5000 cF], .slice (some ⟨gM, 5, none⟩) 4999 4999, .int .i64 0] W (fun e w' => e = .returned (.tuple #[.agg #[.slice none 0 0], .int .i64 22]) ∧ Below W.heap.size W w')) := Lib.hid (fun W h => 
        (update_any _ _ _ (List.replicate M Z.pf) 0 W (HF20.out.below h) (many_tail (HM20.out.below h) hM) (HV.out.below (HN20.out.below h).1) (upd_small (fun x hx => by cases hx) (pf_small N) 0) (pf_small M)).mono fun _ _ hr => upd_fail hr (Z.nm_q HNN.out hM) (by decide))
      go_cut [29, 30] from 124 to 130 (fun _ ev wx => ev = .int .i64 22 ∧ Below W20.heap.size W20 wx)
      case first =>
        clear hM
        go_region_held3 (fun W => W.cell? ⟨gF, 0, none⟩ = some (.slice AF 5000 cF))
          (first
            | exact hf20
            | (refine cellB BF20 ?_; repeat' (first | with_reducible exact Below.refl _ _ | with_reducible refine bs ?_ ?_ | with_reducible refine bs2 ?_ ?_ | with_reducible refine ba ?_ _ | with_reducible refine bd ?_ | (with_reducible apply bt; with_reducible assumption))))
          (first
            | (go_at_call 13; (with_reducible refine (UB.out _ ?_).mono ?_); (focus repeat' (first | with_reducible exact Below.refl _ _ | with_reducible refine bs ?_ ?_ | with_reducible refine bs2 ?_ ?_ | with_reducible refine ba ?_ _ | with_reducible refine bd ?_ | (with_reducible apply bt; with_reducible assumption))); rintro e y ⟨rfl, hb⟩; have hz0 := (Blk.new y 24 #[.slice none 0 0]).cell 0; have hz1 := (Blk.new y 24 #[.slice none 0 0]).frozen 0; (first | with_reducible have bg := bnd2 hb | with_reducible have bg := bnd3 hb | with_reducible have bg := bnd hb | with_reducible have bg := bn2 hb | with_reducible have bg := Blk.below (Blk.new _ 24 #[.slice none 0 0]) hb | with_reducible have bg := Blk.below (Blk.alloc (Blk.new _ 24 #[.slice none 0 0]) _) hb | with_reducible have bg := Blk.below bg hb | with_reducible have bg := Blk.below (Blk.alloc bg _) hb | skip); (first | (have hg0 := bg.cell 0; have hg1 := bg.frozen 0) | skip)))
        all_goals (go_wp2_with fail)
        all_goals go_meet
        all_goals
          refine ⟨rfl, ?_⟩
          repeat' (first | with_reducible exact Below.refl _ _ | with_reducible refine bs ?_ ?_ | with_reducible refine bs2 ?_ ?_ | with_reducible refine ba ?_ _ | with_reducible refine bd ?_ | (with_reducible apply bt; with_reducible assumption))
      case rest =>
      obtain ⟨rfl, hb⟩ := hcut
      rename World => W21
      have HN21 := Lib.hid (HN20.out.below hb)
      have HJ21 := Lib.hid (HJ20.out.below hb)
      have HD21 := Lib.hid (HD20.out.below hb)
      have BD21 := Lib.hid (BD20.out.below hb)
      have BF21 := Lib.hid (BF20.below hb)
      clear hb HN20 HJ20 HD20 BD20 HM20 HF20 BF20 hf20 UB hM
      have hk0 := Below.refl W21.heap.size W21
      go_wp2_with fail
      refine (pays_any 1 ⟨#[97]⟩ ⟨#[98]⟩ ⟨#[49]⟩ W21).mono ?_
      rintro e Y1 ⟨rfl, hb⟩
      have hk1 := hk0.trans (hb.mono hk0.size)
      clear hb hk0
      go_wp2_with fail
      have hk1' := hk1.alloc hk1.size (.cells #[.int .i64 2, .int .i64 0, .int .i64 0, .int .i64 1, .string ⟨#[97]⟩, .string ⟨#[98]⟩, .string Z.usd, .string ⟨#[49]⟩] 38)
      have S0' : SC (Y1.alloc (.cells #[.int .i64 2, .int .i64 0, .int .i64 0, .int .i64 1, .string ⟨#[97]⟩, .string ⟨#[98]⟩, .string Z.usd, .string ⟨#[49]⟩] 38)) (.slice (some ⟨Y1.heap.size, 0, none⟩) 1 1) (Z.bad 0) := OL.sl Z.Cl.vs_len (lit_claims Y1 (Z.bad 0) 1 _ rfl (by decide) rfl)
      clear hk1
      generalize (Y1.alloc (.cells #[.int .i64 2, .int .i64 0, .int .i64 0, .int .i64 1, .string ⟨#[97]⟩, .string ⟨#[98]⟩, .string Z.usd, .string ⟨#[49]⟩] 38)) = V0 at *
      generalize Y1.heap.size = q0 at *
      have hk1 := hk1'
      have S0 := S0'
      clear hk1' S0'
      refine (pays_any 1 ⟨#[97]⟩ ⟨#[98]⟩ ⟨#[49]⟩ V0).mono ?_
      rintro e Y2 ⟨rfl, hb⟩
      have hk2 := hk1.trans (hb.mono hk1.size)
      have S0' := SL.below S0 hb
      clear hb hk1 S0
      have S0 := S0'
      clear S0'
      go_wp2_with fail
      have hk2' := hk2.alloc hk2.size (.cells #[.int .i64 1, .int .i64 0, .int .i64 (-1), .int .i64 1, .string ⟨#[97]⟩, .string ⟨#[98]⟩, .string Z.usd, .string ⟨#[49]⟩] 38)
      have S0' := S0.alloc (.cells #[.int .i64 1, .int .i64 0, .int .i64 (-1), .int .i64 1, .string ⟨#[97]⟩, .string ⟨#[98]⟩, .string Z.usd, .string ⟨#[49]⟩] 38)
      have S1' : SC (Y2.alloc (.cells #[.int .i64 1, .int .i64 0, .int .i64 (-1), .int .i64 1, .string ⟨#[97]⟩, .string ⟨#[98]⟩, .string Z.usd, .string ⟨#[49]⟩] 38)) (.slice (some ⟨Y2.heap.size, 0, none⟩) 1 1) (Z.bad 1) := OL.sl Z.Cl.vs_len (lit_claims Y2 (Z.bad 1) 1 _ rfl (by decide) rfl)
      clear hk2 S0
      generalize (Y2.alloc (.cells #[.int .i64 1, .int .i64 0, .int .i64 (-1), .int .i64 1, .string ⟨#[97]⟩, .string ⟨#[98]⟩, .string Z.usd, .string ⟨#[49]⟩] 38)) = V1 at *
      generalize Y2.heap.size = q1 at *
      have hk2 := hk2'
      have S0 := S0'
      have S1 := S1'
      clear hk2' S0' S1'
      refine (pays_any 1 ⟨#[97]⟩ ⟨#[98]⟩ ⟨#[48]⟩ V1).mono ?_
      rintro e Y3 ⟨rfl, hb⟩
      have hk3 := hk2.trans (hb.mono hk2.size)
      have S0' := SL.below S0 hb
      have S1' := SL.below S1 hb
      clear hb hk2 S0 S1
      have S0 := S0'
      have S1 := S1'
      clear S0' S1'
      go_wp2_with fail
      have hk3' := hk3.alloc hk3.size (.cells #[.int .i64 1, .int .i64 0, .int .i64 0, .int .i64 1, .string ⟨#[97]⟩, .string ⟨#[98]⟩, .string Z.usd, .string ⟨#[48]⟩] 38)
      have S0' := S0.alloc (.cells #[.int .i64 1, .int .i64 0, .int .i64 0, .int .i64 1, .string ⟨#[97]⟩, .string ⟨#[98]⟩, .string Z.usd, .string ⟨#[48]⟩] 38)
      have S1' := S1.alloc (.cells #[.int .i64 1, .int .i64 0, .int .i64 0, .int .i64 1, .string ⟨#[97]⟩, .string ⟨#[98]⟩, .string Z.usd, .string ⟨#[48]⟩] 38)
      have S2' : SC (Y3.alloc (.cells #[.int .i64 1, .int .i64 0, .int .i64 0, .int .i64 1, .string ⟨#[97]⟩, .string ⟨#[98]⟩, .string Z.usd, .string ⟨#[48]⟩] 38)) (.slice (some ⟨Y3.heap.size, 0, none⟩) 1 1) (Z.bad 2) := OL.sl Z.Cl.vs_len (lit_claims Y3 (Z.bad 2) 1 _ rfl (by decide) rfl)
      clear hk3 S0 S1
      generalize (Y3.alloc (.cells #[.int .i64 1, .int .i64 0, .int .i64 0, .int .i64 1, .string ⟨#[97]⟩, .string ⟨#[98]⟩, .string Z.usd, .string ⟨#[48]⟩] 38)) = V2 at *
      generalize Y3.heap.size = q2 at *
      have hk3 := hk3'
      have S0 := S0'
      have S1 := S1'
      have S2 := S2'
      clear hk3' S0' S1' S2'
      refine (pays_any 1 ⟨#[97]⟩ ⟨#[98]⟩ ⟨#[49]⟩ V2).mono ?_
      rintro e Y4 ⟨rfl, hb⟩
      have hk4 := hk3.trans (hb.mono hk3.size)
      have S0' := SL.below S0 hb
      have S1' := SL.below S1 hb
      have S2' := SL.below S2 hb
      clear hb hk3 S0 S1 S2
      have S0 := S0'
      have S1 := S1'
      have S2 := S2'
      clear S0' S1' S2'
      go_wp2_with fail
      have hk4' := hk4.alloc hk4.size (.cells #[.int .i64 1, .int .i64 1, .int .i64 0, .int .i64 1, .string ⟨#[97]⟩, .string ⟨#[98]⟩, .string Z.usd, .string ⟨#[49]⟩] 38)
      have S0' := S0.alloc (.cells #[.int .i64 1, .int .i64 1, .int .i64 0, .int .i64 1, .string ⟨#[97]⟩, .string ⟨#[98]⟩, .string Z.usd, .string ⟨#[49]⟩] 38)
      have S1' := S1.alloc (.cells #[.int .i64 1, .int .i64 1, .int .i64 0, .int .i64 1, .string ⟨#[97]⟩, .string ⟨#[98]⟩, .string Z.usd, .string ⟨#[49]⟩] 38)
      have S2' := S2.alloc (.cells #[.int .i64 1, .int .i64 1, .int .i64 0, .int .i64 1, .string ⟨#[97]⟩, .string ⟨#[98]⟩, .string Z.usd, .string ⟨#[49]⟩] 38)
      have S3' : SC (Y4.alloc (.cells #[.int .i64 1, .int .i64 1, .int .i64 0, .int .i64 1, .string ⟨#[97]⟩, .string ⟨#[98]⟩, .string Z.usd, .string ⟨#[49]⟩] 38)) (.slice (some ⟨Y4.heap.size, 0, none⟩) 1 1) (Z.bad 3) := OL.sl Z.Cl.vs_len (lit_claims Y4 (Z.bad 3) 1 _ rfl (by decide) rfl)
      clear hk4 S0 S1 S2
      generalize (Y4.alloc (.cells #[.int .i64 1, .int .i64 1, .int .i64 0, .int .i64 1, .string ⟨#[97]⟩, .string ⟨#[98]⟩, .string Z.usd, .string ⟨#[49]⟩] 38)) = V3 at *
      generalize Y4.heap.size = q3 at *
      have hk4 := hk4'
      have S0 := S0'
      have S1 := S1'
      have S2 := S2'
      have S3 := S3'
      clear hk4' S0' S1' S2' S3'
      refine (pays_any 1 ⟨#[97]⟩ ⟨#[98]⟩ ⟨#[49]⟩ V3).mono ?_
      rintro e Y5 ⟨rfl, hb⟩
      have hk5 := hk4.trans (hb.mono hk4.size)
      have S0' := SL.below S0 hb
      have S1' := SL.below S1 hb
      have S2' := SL.below S2 hb
      have S3' := SL.below S3 hb
      clear hb hk4 S0 S1 S2 S3
      have S0 := S0'
      have S1 := S1'
      have S2 := S2'
      have S3 := S3'
      clear S0' S1' S2' S3'
      go_wp2_with fail
      refine (pays_any 1 ⟨#[97]⟩ ⟨#[98]⟩ ⟨#[49]⟩ Y5).mono ?_
      rintro e Y6 ⟨rfl, hb⟩
      have hk6 := hk5.trans (hb.mono hk5.size)
      have S0' := SL.below S0 hb
      have S1' := SL.below S1 hb
      have S2' := SL.below S2 hb
      have S3' := SL.below S3 hb
      clear hb hk5 S0 S1 S2 S3
      have S0 := S0'
      have S1 := S1'
      have S2 := S2'
      have S3 := S3'
      clear S0' S1' S2' S3'
      go_wp2_with fail
      have hk6' := hk6.alloc hk6.size (.cells #[.int .i64 1, .int .i64 0, .int .i64 0, .int .i64 1, .string ⟨#[97]⟩, .string ⟨#[98]⟩, .string Z.usd, .string ⟨#[49]⟩, .int .i64 2, .int .i64 1, .int .i64 0, .int .i64 1, .string ⟨#[97]⟩, .string ⟨#[98]⟩, .string Z.usd, .string ⟨#[49]⟩] 38)
      have S0' := S0.alloc (.cells #[.int .i64 1, .int .i64 0, .int .i64 0, .int .i64 1, .string ⟨#[97]⟩, .string ⟨#[98]⟩, .string Z.usd, .string ⟨#[49]⟩, .int .i64 2, .int .i64 1, .int .i64 0, .int .i64 1, .string ⟨#[97]⟩, .string ⟨#[98]⟩, .string Z.usd, .string ⟨#[49]⟩] 38)
      have S1' := S1.alloc (.cells #[.int .i64 1, .int .i64 0, .int .i64 0, .int .i64 1, .string ⟨#[97]⟩, .string ⟨#[98]⟩, .string Z.usd, .string ⟨#[49]⟩, .int .i64 2, .int .i64 1, .int .i64 0, .int .i64 1, .string ⟨#[97]⟩, .string ⟨#[98]⟩, .string Z.usd, .string ⟨#[49]⟩] 38)
      have S2' := S2.alloc (.cells #[.int .i64 1, .int .i64 0, .int .i64 0, .int .i64 1, .string ⟨#[97]⟩, .string ⟨#[98]⟩, .string Z.usd, .string ⟨#[49]⟩, .int .i64 2, .int .i64 1, .int .i64 0, .int .i64 1, .string ⟨#[97]⟩, .string ⟨#[98]⟩, .string Z.usd, .string ⟨#[49]⟩] 38)
      have S3' := S3.alloc (.cells #[.int .i64 1, .int .i64 0, .int .i64 0, .int .i64 1, .string ⟨#[97]⟩, .string ⟨#[98]⟩, .string Z.usd, .string ⟨#[49]⟩, .int .i64 2, .int .i64 1, .int .i64 0, .int .i64 1, .string ⟨#[97]⟩, .string ⟨#[98]⟩, .string Z.usd, .string ⟨#[49]⟩] 38)
      have S4' : SC (Y6.alloc (.cells #[.int .i64 1, .int .i64 0, .int .i64 0, .int .i64 1, .string ⟨#[97]⟩, .string ⟨#[98]⟩, .string Z.usd, .string ⟨#[49]⟩, .int .i64 2, .int .i64 1, .int .i64 0, .int .i64 1, .string ⟨#[97]⟩, .string ⟨#[98]⟩, .string Z.usd, .string ⟨#[49]⟩] 38)) (.slice (some ⟨Y6.heap.size, 0, none⟩) 2 2) (Z.bad 4) := OL.sl Z.Cl.vs_len (lit_claims Y6 (Z.bad 4) 2 _ rfl (by decide) rfl)
      clear hk6 S0 S1 S2 S3
      generalize (Y6.alloc (.cells #[.int .i64 1, .int .i64 0, .int .i64 0, .int .i64 1, .string ⟨#[97]⟩, .string ⟨#[98]⟩, .string Z.usd, .string ⟨#[49]⟩, .int .i64 2, .int .i64 1, .int .i64 0, .int .i64 1, .string ⟨#[97]⟩, .string ⟨#[98]⟩, .string Z.usd, .string ⟨#[49]⟩] 38)) = V4 at *
      generalize Y6.heap.size = q4 at *
      have hk6 := hk6'
      have S0 := S0'
      have S1 := S1'
      have S2 := S2'
      have S3 := S3'
      have S4 := S4'
      clear hk6' S0' S1' S2' S3' S4'
      refine (pays_any 1 ⟨#[97]⟩ ⟨#[98]⟩ ⟨#[49]⟩ V4).mono ?_
      rintro e Y7 ⟨rfl, hb⟩
      have hk7 := hk6.trans (hb.mono hk6.size)
      have S0' := SL.below S0 hb
      have S1' := SL.below S1 hb
      have S2' := SL.below S2 hb
      have S3' := SL.below S3 hb
      have S4' := SL.below S4 hb
      clear hb hk6 S0 S1 S2 S3 S4
      have S0 := S0'
      have S1 := S1'
      have S2 := S2'
      have S3 := S3'
      have S4 := S4'
      clear S0' S1' S2' S3' S4'
      go_wp2_with fail
      refine (pays_any 1 ⟨#[97]⟩ ⟨#[98]⟩ ⟨#[49]⟩ Y7).mono ?_
      rintro e Y8 ⟨rfl, hb⟩
      have hk8 := hk7.trans (hb.mono hk7.size)
      have S0' := SL.below S0 hb
      have S1' := SL.below S1 hb
      have S2' := SL.below S2 hb
      have S3' := SL.below S3 hb
      have S4' := SL.below S4 hb
      clear hb hk7 S0 S1 S2 S3 S4
      have S0 := S0'
      have S1 := S1'
      have S2 := S2'
      have S3 := S3'
      have S4 := S4'
      clear S0' S1' S2' S3' S4'
      go_wp2_with fail
      have hk8' := hk8.alloc hk8.size (.cells #[.int .i64 1, .int .i64 0, .int .i64 4, .int .i64 1, .string ⟨#[97]⟩, .string ⟨#[98]⟩, .string Z.usd, .string ⟨#[49]⟩, .int .i64 2, .int .i64 0, .int .i64 3, .int .i64 1, .string ⟨#[97]⟩, .string ⟨#[98]⟩, .string Z.usd, .string ⟨#[49]⟩] 38)
      have S0' := S0.alloc (.cells #[.int .i64 1, .int .i64 0, .int .i64 4, .int .i64 1, .string ⟨#[97]⟩, .string ⟨#[98]⟩, .string Z.usd, .string ⟨#[49]⟩, .int .i64 2, .int .i64 0, .int .i64 3, .int .i64 1, .string ⟨#[97]⟩, .string ⟨#[98]⟩, .string Z.usd, .string ⟨#[49]⟩] 38)
      have S1' := S1.alloc (.cells #[.int .i64 1, .int .i64 0, .int .i64 4, .int .i64 1, .string ⟨#[97]⟩, .string ⟨#[98]⟩, .string Z.usd, .string ⟨#[49]⟩, .int .i64 2, .int .i64 0, .int .i64 3, .int .i64 1, .string ⟨#[97]⟩, .string ⟨#[98]⟩, .string Z.usd, .string ⟨#[49]⟩] 38)
      have S2' := S2.alloc (.cells #[.int .i64 1, .int .i64 0, .int .i64 4, .int .i64 1, .string ⟨#[97]⟩, .string ⟨#[98]⟩, .string Z.usd, .string ⟨#[49]⟩, .int .i64 2, .int .i64 0, .int .i64 3, .int .i64 1, .string ⟨#[97]⟩, .string ⟨#[98]⟩, .string Z.usd, .string ⟨#[49]⟩] 38)
      have S3' := S3.alloc (.cells #[.int .i64 1, .int .i64 0, .int .i64 4, .int .i64 1, .string ⟨#[97]⟩, .string ⟨#[98]⟩, .string Z.usd, .string ⟨#[49]⟩, .int .i64 2, .int .i64 0, .int .i64 3, .int .i64 1, .string ⟨#[97]⟩, .string ⟨#[98]⟩, .string Z.usd, .string ⟨#[49]⟩] 38)
      have S4' := S4.alloc (.cells #[.int .i64 1, .int .i64 0, .int .i64 4, .int .i64 1, .string ⟨#[97]⟩, .string ⟨#[98]⟩, .string Z.usd, .string ⟨#[49]⟩, .int .i64 2, .int .i64 0, .int .i64 3, .int .i64 1, .string ⟨#[97]⟩, .string ⟨#[98]⟩, .string Z.usd, .string ⟨#[49]⟩] 38)
      have S5' : SC (Y8.alloc (.cells #[.int .i64 1, .int .i64 0, .int .i64 4, .int .i64 1, .string ⟨#[97]⟩, .string ⟨#[98]⟩, .string Z.usd, .string ⟨#[49]⟩, .int .i64 2, .int .i64 0, .int .i64 3, .int .i64 1, .string ⟨#[97]⟩, .string ⟨#[98]⟩, .string Z.usd, .string ⟨#[49]⟩] 38)) (.slice (some ⟨Y8.heap.size, 0, none⟩) 2 2) (Z.bad 5) := OL.sl Z.Cl.vs_len (lit_claims Y8 (Z.bad 5) 2 _ rfl (by decide) rfl)
      clear hk8 S0 S1 S2 S3 S4
      generalize (Y8.alloc (.cells #[.int .i64 1, .int .i64 0, .int .i64 4, .int .i64 1, .string ⟨#[97]⟩, .string ⟨#[98]⟩, .string Z.usd, .string ⟨#[49]⟩, .int .i64 2, .int .i64 0, .int .i64 3, .int .i64 1, .string ⟨#[97]⟩, .string ⟨#[98]⟩, .string Z.usd, .string ⟨#[49]⟩] 38)) = V5 at *
      generalize Y8.heap.size = q5 at *
      have hk8 := hk8'
      have S0 := S0'
      have S1 := S1'
      have S2 := S2'
      have S3 := S3'
      have S4 := S4'
      have S5 := S5'
      clear hk8' S0' S1' S2' S3' S4' S5'
      refine (pays_any 1 ⟨#[97]⟩ ⟨#[98]⟩ ⟨#[49]⟩ V5).mono ?_
      rintro e Y9 ⟨rfl, hb⟩
      have hk9 := hk8.trans (hb.mono hk8.size)
      have S0' := SL.below S0 hb
      have S1' := SL.below S1 hb
      have S2' := SL.below S2 hb
      have S3' := SL.below S3 hb
      have S4' := SL.below S4 hb
      have S5' := SL.below S5 hb
      clear hb hk8 S0 S1 S2 S3 S4 S5
      have S0 := S0'
      have S1 := S1'
      have S2 := S2'
      have S3 := S3'
      have S4 := S4'
      have S5 := S5'
      clear S0' S1' S2' S3' S4' S5'
      go_wp2_with fail
      refine (pays_any 1 ⟨#[98]⟩ ⟨#[97]⟩ ⟨#[49]⟩ Y9).mono ?_
      rintro e Y10 ⟨rfl, hb⟩
      have hk10 := hk9.trans (hb.mono hk9.size)
      have S0' := SL.below S0 hb
      have S1' := SL.below S1 hb
      have S2' := SL.below S2 hb
      have S3' := SL.below S3 hb
      have S4' := SL.below S4 hb
      have S5' := SL.below S5 hb
      clear hb hk9 S0 S1 S2 S3 S4 S5
      have S0 := S0'
      have S1 := S1'
      have S2 := S2'
      have S3 := S3'
      have S4 := S4'
      have S5 := S5'
      clear S0' S1' S2' S3' S4' S5'
      go_wp2_with fail
      refine (pays_any 1 ⟨#[98]⟩ ⟨#[97]⟩ ⟨#[49]⟩ Y10).mono ?_
      rintro e Y11 ⟨rfl, hb⟩
      have hk11 := hk10.trans (hb.mono hk10.size)
      have S0' := SL.below S0 hb
      have S1' := SL.below S1 hb
      have S2' := SL.below S2 hb
      have S3' := SL.below S3 hb
      have S4' := SL.below S4 hb
      have S5' := SL.below S5 hb
      clear hb hk10 S0 S1 S2 S3 S4 S5
      have S0 := S0'
      have S1 := S1'
      have S2 := S2'
      have S3 := S3'
      have S4 := S4'
      have S5 := S5'
      clear S0' S1' S2' S3' S4' S5'
      go_wp2_with fail
      have hk11' := hk11.alloc hk11.size (.cells #[.int .i64 1, .int .i64 0, .int .i64 0, .int .i64 1, .string ⟨#[97]⟩, .string ⟨#[98]⟩, .string Z.usd, .string ⟨#[49]⟩, .int .i64 2, .int .i64 1, .int .i64 0, .int .i64 1, .string ⟨#[98]⟩, .string ⟨#[97]⟩, .string Z.usd, .string ⟨#[49]⟩, .int .i64 3, .int .i64 1, .int .i64 0, .int .i64 1, .string ⟨#[98]⟩, .string ⟨#[97]⟩, .string Z.usd, .string ⟨#[49]⟩] 38)
      have S0' := S0.alloc (.cells #[.int .i64 1, .int .i64 0, .int .i64 0, .int .i64 1, .string ⟨#[97]⟩, .string ⟨#[98]⟩, .string Z.usd, .string ⟨#[49]⟩, .int .i64 2, .int .i64 1, .int .i64 0, .int .i64 1, .string ⟨#[98]⟩, .string ⟨#[97]⟩, .string Z.usd, .string ⟨#[49]⟩, .int .i64 3, .int .i64 1, .int .i64 0, .int .i64 1, .string ⟨#[98]⟩, .string ⟨#[97]⟩, .string Z.usd, .string ⟨#[49]⟩] 38)
      have S1' := S1.alloc (.cells #[.int .i64 1, .int .i64 0, .int .i64 0, .int .i64 1, .string ⟨#[97]⟩, .string ⟨#[98]⟩, .string Z.usd, .string ⟨#[49]⟩, .int .i64 2, .int .i64 1, .int .i64 0, .int .i64 1, .string ⟨#[98]⟩, .string ⟨#[97]⟩, .string Z.usd, .string ⟨#[49]⟩, .int .i64 3, .int .i64 1, .int .i64 0, .int .i64 1, .string ⟨#[98]⟩, .string ⟨#[97]⟩, .string Z.usd, .string ⟨#[49]⟩] 38)
      have S2' := S2.alloc (.cells #[.int .i64 1, .int .i64 0, .int .i64 0, .int .i64 1, .string ⟨#[97]⟩, .string ⟨#[98]⟩, .string Z.usd, .string ⟨#[49]⟩, .int .i64 2, .int .i64 1, .int .i64 0, .int .i64 1, .string ⟨#[98]⟩, .string ⟨#[97]⟩, .string Z.usd, .string ⟨#[49]⟩, .int .i64 3, .int .i64 1, .int .i64 0, .int .i64 1, .string ⟨#[98]⟩, .string ⟨#[97]⟩, .string Z.usd, .string ⟨#[49]⟩] 38)
      have S3' := S3.alloc (.cells #[.int .i64 1, .int .i64 0, .int .i64 0, .int .i64 1, .string ⟨#[97]⟩, .string ⟨#[98]⟩, .string Z.usd, .string ⟨#[49]⟩, .int .i64 2, .int .i64 1, .int .i64 0, .int .i64 1, .string ⟨#[98]⟩, .string ⟨#[97]⟩, .string Z.usd, .string ⟨#[49]⟩, .int .i64 3, .int .i64 1, .int .i64 0, .int .i64 1, .string ⟨#[98]⟩, .string ⟨#[97]⟩, .string Z.usd, .string ⟨#[49]⟩] 38)
      have S4' := S4.alloc (.cells #[.int .i64 1, .int .i64 0, .int .i64 0, .int .i64 1, .string ⟨#[97]⟩, .string ⟨#[98]⟩, .string Z.usd, .string ⟨#[49]⟩, .int .i64 2, .int .i64 1, .int .i64 0, .int .i64 1, .string ⟨#[98]⟩, .string ⟨#[97]⟩, .string Z.usd, .string ⟨#[49]⟩, .int .i64 3, .int .i64 1, .int .i64 0, .int .i64 1, .string ⟨#[98]⟩, .string ⟨#[97]⟩, .string Z.usd, .string ⟨#[49]⟩] 38)
      have S5' := S5.alloc (.cells #[.int .i64 1, .int .i64 0, .int .i64 0, .int .i64 1, .string ⟨#[97]⟩, .string ⟨#[98]⟩, .string Z.usd, .string ⟨#[49]⟩, .int .i64 2, .int .i64 1, .int .i64 0, .int .i64 1, .string ⟨#[98]⟩, .string ⟨#[97]⟩, .string Z.usd, .string ⟨#[49]⟩, .int .i64 3, .int .i64 1, .int .i64 0, .int .i64 1, .string ⟨#[98]⟩, .string ⟨#[97]⟩, .string Z.usd, .string ⟨#[49]⟩] 38)
      have S6' : SC (Y11.alloc (.cells #[.int .i64 1, .int .i64 0, .int .i64 0, .int .i64 1, .string ⟨#[97]⟩, .string ⟨#[98]⟩, .string Z.usd, .string ⟨#[49]⟩, .int .i64 2, .int .i64 1, .int .i64 0, .int .i64 1, .string ⟨#[98]⟩, .string ⟨#[97]⟩, .string Z.usd, .string ⟨#[49]⟩, .int .i64 3, .int .i64 1, .int .i64 0, .int .i64 1, .string ⟨#[98]⟩, .string ⟨#[97]⟩, .string Z.usd, .string ⟨#[49]⟩] 38)) (.slice (some ⟨Y11.heap.size, 0, none⟩) 3 3) (Z.bad 6) := OL.sl Z.Cl.vs_len (lit_claims Y11 (Z.bad 6) 3 _ rfl (by decide) rfl)
      clear hk11 S0 S1 S2 S3 S4 S5
      have hv6 : (Y11.alloc (.cells #[.int .i64 1, .int .i64 0, .int .i64 0, .int .i64 1, .string ⟨#[97]⟩, .string ⟨#[98]⟩, .string Z.usd, .string ⟨#[49]⟩, .int .i64 2, .int .i64 1, .int .i64 0, .int .i64 1, .string ⟨#[98]⟩, .string ⟨#[97]⟩, .string Z.usd, .string ⟨#[49]⟩, .int .i64 3, .int .i64 1, .int .i64 0, .int .i64 1, .string ⟨#[98]⟩, .string ⟨#[97]⟩, .string Z.usd, .string ⟨#[49]⟩] 38)).heap.size = Y11.heap.size + 1 := sz1 _ _
      generalize (Y11.alloc (.cells #[.int .i64 1, .int .i64 0, .int .i64 0, .int .i64 1, .string ⟨#[97]⟩, .string ⟨#[98]⟩, .string Z.usd, .string ⟨#[49]⟩, .int .i64 2, .int .i64 1, .int .i64 0, .int .i64 1, .string ⟨#[98]⟩, .string ⟨#[97]⟩, .string Z.usd, .string ⟨#[49]⟩, .int .i64 3, .int .i64 1, .int .i64 0, .int .i64 1, .string ⟨#[98]⟩, .string ⟨#[97]⟩, .string Z.usd, .string ⟨#[49]⟩] 38)) = V6 at *
      generalize Y11.heap.size = q6 at *
      have hk11 := hk11'
      have S0 := S0'
      have S1 := S1'
      have S2 := S2'
      have S3 := S3'
      have S4 := S4'
      have S5 := S5'
      have S6 := S6'
      clear hk11' S0' S1' S2' S3' S4' S5' S6'
      have BR : Blk (V6.alloc (.cells #[.slice (some ⟨q0, 0, none⟩) 1 1, .slice (some ⟨q1, 0, none⟩) 1 1, .slice (some ⟨q2, 0, none⟩) 1 1, .slice (some ⟨q3, 0, none⟩) 1 1, .slice (some ⟨q4, 0, none⟩) 2 2, .slice (some ⟨q5, 0, none⟩) 2 2, .slice (some ⟨q6, 0, none⟩) 3 3] 22)) (q6 + 1) 22 #[.slice (some ⟨q0, 0, none⟩) 1 1, .slice (some ⟨q1, 0, none⟩) 1 1, .slice (some ⟨q2, 0, none⟩) 1 1, .slice (some ⟨q3, 0, none⟩) 1 1, .slice (some ⟨q4, 0, none⟩) 2 2, .slice (some ⟨q5, 0, none⟩) 2 2, .slice (some ⟨q6, 0, none⟩) 3 3] := by
        have := Blk.new V6 22 #[.slice (some ⟨q0, 0, none⟩) 1 1, .slice (some ⟨q1, 0, none⟩) 1 1, .slice (some ⟨q2, 0, none⟩) 1 1, .slice (some ⟨q3, 0, none⟩) 1 1, .slice (some ⟨q4, 0, none⟩) 2 2, .slice (some ⟨q5, 0, none⟩) 2 2, .slice (some ⟨q6, 0, none⟩) 3 3]
        rw [hv6] at this
        exact this
      have hkz := hk11.alloc hk11.size (.cells #[.slice (some ⟨q0, 0, none⟩) 1 1, .slice (some ⟨q1, 0, none⟩) 1 1, .slice (some ⟨q2, 0, none⟩) 1 1, .slice (some ⟨q3, 0, none⟩) 1 1, .slice (some ⟨q4, 0, none⟩) 2 2, .slice (some ⟨q5, 0, none⟩) 2 2, .slice (some ⟨q6, 0, none⟩) 3 3] 22)
      have HR : Hid (∀ k, k < 7 → ∃ A n c, (V6.alloc (.cells #[.slice (some ⟨q0, 0, none⟩) 1 1, .slice (some ⟨q1, 0, none⟩) 1 1, .slice (some ⟨q2, 0, none⟩) 1 1, .slice (some ⟨q3, 0, none⟩) 1 1, .slice (some ⟨q4, 0, none⟩) 2 2, .slice (some ⟨q5, 0, none⟩) 2 2, .slice (some ⟨q6, 0, none⟩) 3 3] 22)).cell? ⟨q6 + 1, k, none⟩ = some (.slice A n c) ∧ SC (V6.alloc (.cells #[.slice (some ⟨q0, 0, none⟩) 1 1, .slice (some ⟨q1, 0, none⟩) 1 1, .slice (some ⟨q2, 0, none⟩) 1 1, .slice (some ⟨q3, 0, none⟩) 1 1, .slice (some ⟨q4, 0, none⟩) 2 2, .slice (some ⟨q5, 0, none⟩) 2 2, .slice (some ⟨q6, 0, none⟩) 3 3] 22)) (.slice A n c) (Z.bad k)) := Lib.hid (by
        intro k hk
        have hc : k = 0 ∨ k = 1 ∨ k = 2 ∨ k = 3 ∨ k = 4 ∨ k = 5 ∨ k = 6 := by omega
        rcases hc with rfl | rfl | rfl | rfl | rfl | rfl | rfl
        · exact ⟨_, _, _, BR.cell 0, S0.alloc _⟩
        · exact ⟨_, _, _, BR.cell 1, S1.alloc _⟩
        · exact ⟨_, _, _, BR.cell 2, S2.alloc _⟩
        · exact ⟨_, _, _, BR.cell 3, S3.alloc _⟩
        · exact ⟨_, _, _, BR.cell 4, S4.alloc _⟩
        · exact ⟨_, _, _, BR.cell 5, S5.alloc _⟩
        · exact ⟨_, _, _, BR.cell 6, S6.alloc _⟩)
      have HQ := Lib.hid BR.lt
      clear hv6 BR hk11 S0 S1 S2 S3 S4 S5 S6
      generalize (V6.alloc (.cells #[.slice (some ⟨q0, 0, none⟩) 1 1, .slice (some ⟨q1, 0, none⟩) 1 1, .slice (some ⟨q2, 0, none⟩) 1 1, .slice (some ⟨q3, 0, none⟩) 1 1, .slice (some ⟨q4, 0, none⟩) 2 2, .slice (some ⟨q5, 0, none⟩) 2 2, .slice (some ⟨q6, 0, none⟩) 3 3] 22)) = WZ at *
      go_loopw [31, 162] (fun bv iv wr => ∃ k : Nat, k ≤ 7 ∧ iv = .int .i64 k ∧ bv = .bool true ∧ Below WZ.heap.size WZ wr) (fun _ iv _ => 7 - (intOf iv).toNat)
      case atStart => exact ⟨0, by omega, rfl, rfl, Below.refl _ _⟩
      case round =>
        obtain ⟨k, hk, rfl, rfl, hbr⟩ := hrel
        have hw := hkz.trans (hbr.mono hkz.size)
        by_cases hlt : k < 7
        · skip
          obtain ⟨Ak, nk, ck, hcell0, hs⟩ := HR.out k hlt
          have hcell := (hbr.cell (p := ⟨q6 + 1, k, none⟩) HQ.out).trans hcell0
          have HS := Lib.hid ((SL.below hs hbr).alloc (.cells #[.slice Ak nk ck] 24))
          have BW := Blk.new wr 24 #[.slice Ak nk ck]
          have hwc := BW.cell 0
          have hba := (Below.refl _ wr).alloc (Nat.le_refl wr.heap.size) (.cells #[.slice Ak nk ck] 24)
          have hbx := hbr.trans (hba.mono hbr.size)
          have hi0 : (0 : Int) ≤ (k : Int) := by omega
          have hi1 : (k : Int) < 7 := by omega
          have HNO := Lib.hid (Z.bad_no k hlt)
          have HSM := Lib.hid (Z.bad_small k)
          have HVb := Lib.hid (HV.out.below (HN21.out.1.trans ((hkz.trans (hbx.mono hkz.size)).mono HN21.out.1.size)))
          clear hs hba hcell0
          generalize Z.bad k = lb at *
          go_wp2_with fail
          generalize (wr.alloc (.cells #[.slice Ak nk ck] 24)) = Wb at *
          refine (open_any (.slice Ak nk ck) lb Wb HS.out HVb.out HSM.out).mono ?_
          intro e Wc hr
          obtain ⟨hb, va, rfl, _⟩ := open_uni hr
          rw [show Z.clE lb = 8 by unfold Z.clE; rw [HNO.out]; rfl]
          have hwc2 := (BW.below hb).cell 0
          have HS2 := Lib.hid (HS.out.below hb)
          have HVc := Lib.hid (HVb.out.below hb)
          have hby := hbx.trans (hb.mono hbx.size)
          clear hr hb HS HVb hwc BW hbx hcell
          go_wp2_with fail
          refine (ccheckc_any (.slice Ak nk ck) lb Wc HS2.out HVc.out HSM.out).mono ?_
          rintro e Wd ⟨rfl, hb2⟩
          rw [show Z.clE lb = 8 by unfold Z.clE; rw [HNO.out]; rfl]
          have hbz := hby.trans (hb2.mono hby.size)
          clear hb2 hby hwc2 HS2 HVc
          go_wp2_with fail
          go_roundw
          case rel => exact ⟨k + 1, by omega, by go_num, rfl, hbz⟩
          case measure => simp [intOf] <;> omega
        · skip
          have HNe := Lib.hid (HN21.out.below hw)
          have hj := (HJ21.out.below hw).cell 0
          have hd := (BD21.out.below hw).cell 0
          have BFe := Lib.hid (BF21.out.below hw)
          obtain ⟨bD, oD, rfl, hbD, hcD⟩ := SL.at_ (HD21.out.below hw) (by decide)
          have hD2 : wr.cell? ⟨bD, oD + 16 + 1, none⟩ = some (.int .i64 2) := hcD 2 _ rfl 1 _ rfl
          have hD3 : wr.cell? ⟨bD, oD + 17, none⟩ = some (.int .i64 2) := hD2
          have HVe := Lib.hid (HV.out.below HNe.out.1)
          clear hcD hbD HD21 HJ21 BD21 BF21 HR HQ hkz hbr hw
          go_wp2_with fail
          refine (alive_any wr HVe.out).mono ?_
          rintro e We ⟨rfl, hb⟩
          have hne := HNe.out.below hb
          have bf := (BFe.out.below hb).cell 0
          obtain ⟨b3, o3, rfl, hb3, hc3⟩ := SL.at_ hne.2.2.2 (by decide)
          have hO0 : We.cell? ⟨b3, o3, none⟩ = some (.int .i64 2) := hc3 0 _ rfl 0 _ rfl
          have hO1 : We.cell? ⟨b3, o3 + 8, none⟩ = some (.int .i64 4) := hc3 1 _ rfl 0 _ rfl
          have hfin := hne.1
          clear hc3 hb3 hne HNe BFe hb
          go_wp2_with fail
          go_ret
          exact ⟨rfl, hfin⟩

set_option maxRecDepth 100000 in
theorem lifted (os : Go.Os) (started : os.Started) (H : Type) (enc : TypeId × Value → H) :
    ReturnsInHanded {} Try.checked os 5 .any (Rows.claimNamesSpec.pre6 enc Try.prog Try.f5 Rows.claimNamesRow.domain false) (Rows.claimNamesSpec.post enc Try.prog Try.f5 false true false false) := by
  refine returnsInHanded_of_change_shaped (C := Try.checked) own started (by kernel_rfl) Try.func5
    (ChangeSpec.witness6 (enc := enc) (C := Try.checked) false ⟨#[], #[], []⟩ 8 (by kernel_rfl) (by kernel_rfl) (by kernel_rfl) (by kernel_rfl)) ?_
  intro W base args ds gs before hval0 hW hcnd _ hsh _
  have hval : ∀ (j : Nat) t v, Try.f5.params[j]? = some t → args[j]? = some v → Value.okWide Try.prog W .any base t v := hval0
  have hW' := hW
  obtain ⟨p, q, hA0, hV, rfl, hfz, hnd⟩ := hW
  have hA : DataW.TrodAll enc Try.prog W 0 (fun _ => true) true Try.f5.params.toList args.toList ds p := hA0
  rw [Try.params5] at hA hval
  obtain ⟨hargs, rfl, rfl⟩ := trodAll_nil hA
  obtain rfl : args = #[] := by cases args; simp_all
  obtain ⟨rfl, rfl⟩ := trodVars_none hV
  clear hA0 hval0
  simp only [List.append_nil] at hW'
  refine (walk W (Try.laysM145.s1_3 W hsh)).mono fun e W' ⟨he, bel⟩ => ?_
  subst he
  exact ⟨_, rfl, _, _, _, [], _, [], hW', trodAll_mk1 (shut_bool Try.underlying4 _), trodAll_mk0, rfl, bel.frame _, fun h => by cases h⟩

theorem over : Rows.claimNamesRow.holds Try.pinned (OpenSpec.ofChange Rows.claimNamesSpec) :=
  OpenClaim.holds_of_wide 5 Try.f5 rfl rfl rfl rfl rfl rfl rfl ⟨rfl, rfl, rfl, rfl, rfl⟩ rfl rfl rfl rfl rfl (by kernel_rfl) Try.func5 (by kernel_rfl)
    (of_decide_eq_true (by kernel_rfl)) (by unfold Func.isWrapper; first | (rw [if_pos (by decide +kernel)]; kernel_rfl) | (rw [if_neg (by decide +kernel)]; exact ⟨rfl, rfl⟩))
    (fun os started H enc _ => lifted os started H enc)

theorem proved : Rows.ClaimNamesSaid := over
#print axioms proved
