/- Clah: Clmnet Clcnt Clex Clal Clupx -/
import Derived.Test.YtdjghmpaopfboaaZcx
import Derived.Test.YtdjghmpaopfboaaClgf
import Derived.Test.YtdjghmpaopfboaaCleq
import Derived.Test.YtdjghmpaopfboaaClupd
import Derived.Test.YtdjghmpaopfboaaClsame
import Derived.Test.YtdjghmpaopfboaaClnet
import Derived.Test.YtdjghmpaopfboaaClqj
import Derived.Deep.RegionHeld3
/- Walks: meaning.Net; the law's count and flowsOf; the reference's Turned. -/

namespace Go.Proofs.Ytdjghmpaopfboaa
open Go.RowKit
set_option maxRecDepth 100000 in
set_option maxHeartbeats 8000000 in
theorem mnet_any (v : Value) (l : List Z.Fl) (p c : ByteArray) (w : World) (hS : SF w v l) (hV : HasV w) (hs : ∀ x ∈ l, x.small) (hp : p.size ≤ 100000) (hc : c.size ≤ 100000) :
    Calls Try.prog 29 #[v, .string p, .string c] w (NetRet (Z.mnetR l p c) w) := by
  have CF := Lib.hid (fun W (h : Below w.heap.size w W) => flows_any v l W (hS.below h) (hV.below h) hs)
  have HS := Lib.hid hS
  have HVV := Lib.hid hV
  obtain ⟨A, cp, rfl, hlc, hcm, _⟩ := hS
  unfold maxLen at hcm
  have HR : Hid (Z.mnetR l p c = if Z.flE l = 0 then (if Z.nameB p = true then (if Z.nameB c = true then Z.netF p c Z.zeroS l else (⟨#[]⟩, 2)) else (⟨#[]⟩, 2)) else (⟨#[]⟩, Z.flE l)) := Lib.hid rfl
  generalize Z.mnetR l p c = R at *
  clear hV
  have hbw := Below.refl w.heap.size w
  go_enter Try.func29, Try.ntmps29
  go_wp2_with fail
  refine (CF.out _ hbw).mono ?_
  rintro e W1 ⟨rfl, hb1⟩
  have hbw := hb1
  clear CF hb1
  by_cases hv : Z.flE l = 0
  case neg =>
    rw [if_neg hv] at HR
    have hes : (Z.flE l != 0) = true := by rw [bne_iff_ne]; exact hv
    go_wp2_with fail
    go_ret2
    exact net_ret HR.out hbw
  rw [if_pos hv] at HR
  rw [hv]
  have hln : l.length ≤ 5000 := (Z.flE_len hv).1
  go_wp2_with fail
  refine (name_any _ _ (by unfold maxLen; omega)).mono ?_
  rintro e w2 ⟨rfl, rfl⟩
  cases np : Z.nameB p
  · rw [np] at HR
    go_wp2_with fail
    go_ret2
    exact net_ret HR.out hbw
  rw [np] at HR
  go_wp2_with fail
  refine (name_any _ _ (by unfold maxLen; omega)).mono ?_
  rintro e w2 ⟨rfl, rfl⟩
  cases nc : Z.nameB c
  · rw [nc] at HR
    go_wp2_with fail
    go_ret2
    exact net_ret HR.out hbw
  rw [nc] at HR
  have HR : Hid (R = Z.netF p c Z.zeroS l) := HR
  clear np nc hv
  have HI0 : Hid (R = Z.netF p c Z.zeroS (l.drop 0) ∧ Z.zeroS.size ≤ 100000) := Lib.hid ⟨HR.out, by decide⟩
  go_wp2_with fail
  go_loopw [9, 10, 28] (fun sv ev iv wr => ∃ (k : Nat) (s : ByteArray), k ≤ l.length ∧ iv = .int .i64 k ∧ ev = .int .i64 0 ∧ sv = .string s ∧ Hid (R = Z.netF p c s (l.drop k) ∧ s.size ≤ 100000) ∧ Below W1.heap.size W1 wr) (fun _ _ iv _ => l.length - (intOf iv).toNat)
  case atStart => exact ⟨0, Z.zeroS, by omega, rfl, rfl, rfl, HI0, Below.refl _ _⟩
  case round =>
    obtain ⟨k, s, hk, rfl, rfl, rfl, HI, hbr⟩ := hrel
    clear HI0 HR
    have hbwr := hbw.trans (hbr.mono hbw.size)
    by_cases hlt : k < l.length
    · have hz : l[k]? = some l[k] := List.getElem?_eq_getElem hlt
      obtain ⟨b, o, rfl, hbl, hcj⟩ := (HS.out.below hbwr).at_ (by omega)
      have hcc := fc_of (hcj k _ hz)
      have HD : Hid (l.drop k = l[k] :: l.drop (k + 1)) := Lib.hid (List.drop_eq_getElem_cons hlt)
      have hsm := hs _ (List.mem_of_getElem? hz)
      clear hcj hz
      generalize l[k] = x at *
      obtain ⟨c0, c1, c2, c3, c4⟩ := hcc
      obtain ⟨sm1, sm2, sm3, sm4⟩ := hsm
      have HN : Hid (R = if x.c = c then (if x.t = p then (if Z.addE s x.a = 0 then Z.netF p c (Z.addS s x.a) (l.drop (k + 1)) else (⟨#[]⟩, Z.addE s x.a)) else if x.f = p then (if Z.subE s x.a = 0 then Z.netF p c (Z.subS s x.a) (l.drop (k + 1)) else (⟨#[]⟩, Z.subE s x.a)) else Z.netF p c s (l.drop (k + 1))) else Z.netF p c s (l.drop (k + 1))) := Lib.hid (by rw [HI.out.1, HD.out]; rfl)
      have hss := HI.out.2
      have e1 := Z.eqB x.c c
      have e2 := Z.eqB x.t p
      have e3 := Z.eqB x.f p
      have BX := Blk.new wr 36 #[.int .i64 x.d, .string x.f, .string x.t, .string x.c, .string x.a]
      have hba := (Below.refl _ wr).alloc (Nat.le_refl wr.heap.size) (.cells #[.int .i64 x.d, .string x.f, .string x.t, .string x.c, .string x.a] 36)
      go_upto_region 10 with fail
      generalize (wr.alloc (.cells #[.int .i64 x.d, .string x.f, .string x.t, .string x.c, .string x.a] 36)) = W6 at *
      clear c0 c1 c2 c3 c4
      have q1 := BX.cell 1
      have q2 := BX.cell 2
      have q3 := BX.cell 3
      have q4 := BX.cell 4
      have hb6 := hbr.trans (hba.mono hbr.size)
      have HV6 := Lib.hid (HVV.out.below (hbw.trans (hb6.mono hbw.size)))
      clear hba
      have QA : Hid (Calls Try.prog 39 #[.string s, .string x.a] W6 fun e w' => e = .returned (.tuple #[.string (Z.addS s x.a), .int .i64 (Z.addE s x.a)]) ∧ Below W6.heap.size W6 w') := Lib.hid (qadd_any s x.a W6 HV6.out (by omega) (by omega))
      have QS : Hid (Calls Try.prog 40 #[.string s, .string x.a] W6 fun e w' => e = .returned (.tuple #[.string (Z.subS s x.a), .int .i64 (Z.subE s x.a)]) ∧ Below W6.heap.size W6 w') := Lib.hid (qsub_any s x.a W6 HV6.out (by omega) (by omega))
      cases d1 : decide (x.c = c)
      · rw [d1] at e1
        rw [if_neg (of_decide_eq_false d1)] at HN
        clear e2 e3 QA QS
        go_wp2_with fail
        go_roundw
        case rel => exact ⟨k + 1, _, by omega, by go_num, rfl, rfl, Lib.hid ⟨HN.out, hss⟩, hb6⟩
        case measure => simp [intOf]; omega
      rw [d1] at e1
      rw [if_pos (of_decide_eq_true d1)] at HN
      cases d2 : decide (x.t = p)
      case true =>
        rw [d2] at e2
        rw [if_pos (of_decide_eq_true d2)] at HN
        clear e3 QS
        go_wp2_with fail
        refine QA.out.mono ?_
        rintro e w7 ⟨rfl, hb7⟩
        have hb8 := hb6.trans (hb7.mono hb6.size)
        by_cases he : Z.addE s x.a = 0
        · rw [if_pos he] at HN
          have hsz := Z.add_size he
          rw [he]
          go_wp2_with fail
          go_roundw
          case rel => exact ⟨k + 1, _, by omega, by go_num, rfl, rfl, Lib.hid ⟨HN.out, hsz⟩, hb8⟩
          case measure => simp [intOf]; omega
        · rw [if_neg he] at HN
          have hes : (Z.addE s x.a != 0) = true := by rw [bne_iff_ne]; exact he
          go_wp2_with fail
          go_ret2
          exact net_ret HN.out (hbw.trans (Below.mono (hb8) hbw.size))
      rw [d2] at e2
      rw [if_neg (of_decide_eq_false d2)] at HN
      cases d3 : decide (x.f = p)
      case true =>
        rw [d3] at e3
        rw [if_pos (of_decide_eq_true d3)] at HN
        clear QA
        go_wp2_with fail
        refine QS.out.mono ?_
        rintro e w7 ⟨rfl, hb7⟩
        have hb8 := hb6.trans (hb7.mono hb6.size)
        by_cases he : Z.subE s x.a = 0
        · rw [if_pos he] at HN
          have hsz := Z.sub_size he
          rw [he]
          go_wp2_with fail
          go_roundw
          case rel => exact ⟨k + 1, _, by omega, by go_num, rfl, rfl, Lib.hid ⟨HN.out, hsz⟩, hb8⟩
          case measure => simp [intOf]; omega
        · rw [if_neg he] at HN
          have hes : (Z.subE s x.a != 0) = true := by rw [bne_iff_ne]; exact he
          go_wp2_with fail
          go_ret2
          exact net_ret HN.out (hbw.trans (Below.mono (hb8) hbw.size))
      · rw [d3] at e3
        rw [if_neg (of_decide_eq_false d3)] at HN
        clear QA QS
        go_wp2_with fail
        go_roundw
        case rel => exact ⟨k + 1, _, by omega, by go_num, rfl, rfl, Lib.hid ⟨HN.out, hss⟩, hb6⟩
        case measure => simp [intOf]; omega
    · obtain rfl : k = l.length := by omega
      have hd := HI.out.1
      rw [List.drop_length] at hd
      have HD := Lib.hid hd
      clear hd
      go_wp2_with fail
      go_ret2
      exact net_ret HD.out (hbw.trans (hbr.mono hbw.size))
end Go.Proofs.Ytdjghmpaopfboaa
/- Walks: the law's count and flowsOf. -/

namespace Go.Proofs.Ytdjghmpaopfboaa
open Go.RowKit
attribute [local go_sem ↓] eql_flow
theorem Z.cnt_le (l : List Z.Fl) (f : Z.Fl) : Z.cnt l f ≤ l.length := List.length_filter_le _ _
set_option maxRecDepth 100000 in
theorem count_any (v : Value) (l : List Z.Fl) (f : Z.Fl) (w : World) (hS : SF w v l) (hl : l.length ≤ 10000) :
    Calls Try.prog 25 #[v, .agg #[.int .i64 f.d, .string f.f, .string f.t, .string f.c, .string f.a]] w fun e w' => e = .returned (.int .i64 (Z.cnt l f : Nat)) ∧ Below w.heap.size w w' := by
  have hb0 := (Below.refl _ w).alloc (Nat.le_refl w.heap.size) (.cells #[.int .i64 f.d, .string f.f, .string f.t, .string f.c, .string f.a] 36)
  have BL := Blk.new w 36 #[.int .i64 f.d, .string f.f, .string f.t, .string f.c, .string f.a]
  have HS := Lib.hid (hS.below hb0)
  obtain ⟨A, c, rfl, hlc, hcm, _⟩ := hS
  unfold maxLen at hcm
  go_enter Try.func25, Try.ntmps25
  go_wp2_with fail
  generalize (w.alloc (.cells #[.int .i64 f.d, .string f.f, .string f.t, .string f.c, .string f.a] 36)) = W0 at *
  go_loopw [5, 6] (fun nv iv wr => ∃ k : Nat, k ≤ l.length ∧ iv = .int .i64 k ∧ nv = .int .i64 (Z.cnt (l.take k) f : Nat) ∧ Below W0.heap.size W0 wr) (fun _ iv _ => l.length - (intOf iv).toNat)
  case atStart => exact ⟨0, by omega, rfl, rfl, Below.refl _ _⟩
  case round =>
    obtain ⟨k, hk, rfl, rfl, hbr⟩ := hrel
    by_cases hlt : k < l.length
    · have hz : l[k]? = some l[k] := List.getElem?_eq_getElem hlt
      obtain ⟨b, o, rfl, hbl, hcj⟩ := (HS.out.below hbr).at_ (by omega)
      obtain ⟨q0, q1, q2, q3, q4⟩ := fc_of (hcj k _ hz)
      have BX := BL.below hbr
      have hB : w.heap.size < wr.heap.size := BX.lt
      have HC := Lib.hid (Z.cnt_snoc hz f)
      have hm : Z.cnt (l.take k) f ≤ 10000 := by have := Z.cnt_le (l.take k) f; rw [List.length_take] at this; omega
      clear hcj hz
      generalize l[k] = x at *
      generalize Z.cnt (l.take k) f = m at *
      generalize hN : Z.cnt (l.take (k + 1)) f = N at HC
      have x0 : ∀ q : Ab wr, q.1.cell? ⟨b, o + k * 5, none⟩ = some (.int .i64 x.d) := fun q => q.cell q0 hbl
      have x1 : ∀ q : Ab wr, q.1.cell? ⟨b, o + k * 5 + 1, none⟩ = some (.string x.f) := fun q => q.cell q1 hbl
      have x2 : ∀ q : Ab wr, q.1.cell? ⟨b, o + k * 5 + 2, none⟩ = some (.string x.t) := fun q => q.cell q2 hbl
      have x3 : ∀ q : Ab wr, q.1.cell? ⟨b, o + k * 5 + 3, none⟩ = some (.string x.c) := fun q => q.cell q3 hbl
      have x4 : ∀ q : Ab wr, q.1.cell? ⟨b, o + k * 5 + 4, none⟩ = some (.string x.a) := fun q => q.cell q4 hbl
      have y0 : ∀ q : Ab wr, q.1.cell? ⟨w.heap.size, 0, none⟩ = some (.int .i64 f.d) := fun q => q.cell (BX.cell 0) hB
      have y1 : ∀ q : Ab wr, q.1.cell? ⟨w.heap.size, 1, none⟩ = some (.string f.f) := fun q => q.cell (BX.cell 1) hB
      have y2 : ∀ q : Ab wr, q.1.cell? ⟨w.heap.size, 2, none⟩ = some (.string f.t) := fun q => q.cell (BX.cell 2) hB
      have y3 : ∀ q : Ab wr, q.1.cell? ⟨w.heap.size, 3, none⟩ = some (.string f.c) := fun q => q.cell (BX.cell 3) hB
      have y4 : ∀ q : Ab wr, q.1.cell? ⟨w.heap.size, 4, none⟩ = some (.string f.a) := fun q => q.cell (BX.cell 4) hB
      have HSM : Hid (Z.same (Z.Fl.mk x.d x.f x.t x.c x.a) (Z.Fl.mk f.d f.f f.t f.c f.a) = decide (x = f)) := Lib.hid rfl
      have hk0 : (0 : Int) ≤ (k : Int) := by omega
      have hk1 : (k : Int) < (l.length : Int) := by omega
      clear q0 q1 q2 q3 q4 BX
      go_upto_region 5 with fail
      refine wp_region_above (by kernel_rfl) (by kernel_rfl) ?_
      repeat (go_big_quiet_step (fail))
      refine wpQuiet_nil ?_
      rintro _ ⟨q', rfl⟩
      rw [HSM.out]
      clear x0 x1 x2 x3 x4 y0 y1 y2 y3 y4
      by_cases hsf : x = f
      · rw [decide_eq_true hsf]
        rw [if_pos hsf] at HC
        clear hsf HSM
        go_wp2_with fail
        go_roundw
        case rel => exact ⟨k + 1, by omega, by go_num, by rw [hN, HC.out]; go_num, hbr.trans (Below.mono q'.2 hbr.size)⟩
        case measure => simp [intOf] <;> omega
      · rw [decide_eq_false hsf]
        rw [if_neg hsf] at HC
        clear hsf HSM
        go_wp2_with fail
        go_roundw
        case rel => exact ⟨k + 1, by omega, by go_num, by rw [hN, HC.out]; go_num, hbr.trans (Below.mono q'.2 hbr.size)⟩
        case measure => simp [intOf] <;> omega
    · obtain rfl : k = l.length := by omega
      have HT : Hid (l.take l.length = l) := Lib.hid List.take_length
      have hbe := hb0.trans (hbr.mono hb0.size)
      go_wp2_with fail
      go_ret
      exact ⟨by first | rfl | (rw [HT.out]; rfl), hbe⟩
set_option maxRecDepth 100000 in
theorem flowsof_any (v : Value) (l : List Z.Cl) (w : World) (hS : SC w v l) (hl : l.length ≤ 10000) :
    Calls Try.prog 26 #[v] w fun e w' => ∃ v', e = .returned v' ∧ OFl w' w.heap.size v' (l.map Z.Cl.fl) ∧ Below w.heap.size w w' := by
  have HS := Lib.hid hS
  obtain ⟨A, c, rfl, hlc, hcm, _⟩ := hS
  unfold maxLen at hcm
  go_enter Try.func26, Try.ntmps26
  go_wp2_with fail
  go_loopw [3, 4] (fun fv iv wr => ∃ k : Nat, k ≤ l.length ∧ iv = .int .i64 k ∧ OFl wr w.heap.size fv ((l.map Z.Cl.fl).take k) ∧ Below w.heap.size w wr) (fun _ iv _ => l.length - (intOf iv).toNat)
  case atStart => exact ⟨0, by omega, rfl, OL.nil_, Below.refl _ _⟩
  case round =>
    obtain ⟨k, hk, rfl, hO, hbr⟩ := hrel
    by_cases hlt : k < l.length
    · have hz : l[k]? = some l[k] := List.getElem?_eq_getElem hlt
      obtain ⟨b, o, rfl, hbl, hcj⟩ := (HS.out.below hbr).at_ (by omega)
      obtain ⟨q0, q1, q2, q3, q4, q5, q6, q7⟩ := cc_of (hcj k _ hz)
      have hsn : (l.map Z.Cl.fl).take (k + 1) = (l.map Z.Cl.fl).take k ++ [l[k].fl] := by rw [List.take_add_one, List.getElem?_map, hz]; rfl
      have HSN := Lib.hid hsn
      have hlen : ((l.map Z.Cl.fl).take k).length ≤ 20000 := by rw [List.length_take, List.length_map]; omega
      have HO := Lib.hid hO
      have hsz := hbr.size
      clear hcj hz hO hsn
      generalize l[k] = x at *
      generalize (l.map Z.Cl.fl).take k = M at *
      go_wp2_with (at_builtin; go_loud (refine appL Z.Fl.vs_len Z.Fl.one rfl _ _ rfl infoF (by omega) (by omega) Try.underlying25 wr w.heap.size u3 M x.fl _ rfl rfl HO.out rfl hlen hsz ?_; intro v' w' hO' hb' hg'))
      go_roundw
      case rel => exact ⟨k + 1, by omega, by go_num, by rw [HSN.out]; exact hO', hbr.trans hb'⟩
      case measure => simp [intOf] <;> omega
    · obtain rfl : k = l.length := by omega
      rw [show (l.map Z.Cl.fl).take l.length = l.map Z.Cl.fl by rw [← List.length_map (f := Z.Cl.fl), List.take_length]] at hO
      go_wp2_with fail
      go_ret
      exact ⟨_, rfl, hO, hbr⟩
end Go.Proofs.Ytdjghmpaopfboaa
/- Walks: the law's example; it holds. -/

namespace Go.Proofs.Ytdjghmpaopfboaa
open Go.RowKit
namespace Z
def usd : ByteArray := ⟨#[85, 83, 68]⟩
def ann : ByteArray := ⟨#[65, 110, 110]⟩
def bob : ByteArray := ⟨#[66, 111, 98]⟩
def exA : List Fl := [⟨10, ann, bob, usd, ⟨#[51]⟩⟩, ⟨12, bob, ann, usd, ⟨#[49]⟩⟩]
def exB : List Fl := [⟨10, ann, bob, usd, ⟨#[52]⟩⟩, ⟨12, bob, ann, usd, ⟨#[49]⟩⟩]
def ex1 : List Cl := [⟨1, 0, 5, ⟨10, ann, bob, usd, ⟨#[51]⟩⟩⟩, ⟨2, 0, 5, ⟨12, bob, ann, usd, ⟨#[49]⟩⟩⟩]
def ex2 : List Cl := [⟨1, 0, 5, ⟨10, ann, bob, usd, ⟨#[51]⟩⟩⟩, ⟨2, 0, 5, ⟨12, bob, ann, usd, ⟨#[49]⟩⟩⟩, ⟨3, 1, 6, ⟨10, bob, ann, usd, ⟨#[51]⟩⟩⟩, ⟨4, 0, 6, ⟨10, ann, bob, usd, ⟨#[52]⟩⟩⟩]
instance : DecidableEq Cl := fun x y =>
  if h : x.n = y.n ∧ x.r = y.r ∧ x.e = y.e ∧ x.fl = y.fl then
    .isTrue (by obtain ⟨h1, h2, h3, h4⟩ := h; cases x; cases y; simp only at *; subst h1 h2 h3 h4; rfl)
  else .isFalse (fun e => h (by subst e; exact ⟨rfl, rfl, rfl, rfl⟩))
theorem ex1_E : updE [] exA 5 = 0 := by decide +kernel
theorem ex1_L : updL [] exA 5 = ex1 := by decide +kernel
theorem ex2_E : updE ex1 exB 6 = 0 := by decide +kernel
theorem ex2_L : updL ex1 exB 6 = ex2 := by decide +kernel
theorem ex2_N : netR ex2 ann usd = (⟨#[45, 51]⟩, 0) := by decide +kernel
end Z
theorem OL.shape3 {α : Type} {k : Nat} {enc : α → List Value} {e : TypeId} {w : World} {B : Nat} {v : Value} {l : List α} (h : OL k enc e w B v l) : ∃ A n c, v = .slice A n c := let ⟨A, c, h⟩ := h.shape; ⟨A, _, c, h⟩
theorem lit_flows (w : World) (fs : List Z.Fl) (n : Nat) (cs : Array Value) (hn : n = fs.length) (hl : fs.length ≤ 1000) (hc : cs = (fs.flatMap Z.Fl.vs).toArray) :
    OFl (w.alloc (.cells cs 36)) w.heap.size (.slice (some ⟨w.heap.size, 0, none⟩) n n) fs := by
  subst hn hc
  have := World.ownsRow_lit (base := w.heap.size) (e := 36) (size := 5) w (fs.flatMap Z.Fl.vs).toArray fs.length (Nat.le_refl _) (by unfold maxLen; omega) (by simp [Z.flat_len Z.Fl.vs_len])
  have h2 : (w.alloc (.cells (fs.flatMap Z.Fl.vs).toArray 36)).ownsRow w.heap.size 36 5 (.slice (some ⟨w.heap.size, 0, none⟩) fs.length fs.length) fs.length (fs.flatMap Z.Fl.vs) := by simpa using this
  exact h2
theorem lit_claims (w : World) (l : List Z.Cl) (n : Nat) (cs : Array Value) (hn : n = l.length) (hl : l.length ≤ 1000) (hc : cs = (l.flatMap Z.Cl.vs).toArray) :
    OC (w.alloc (.cells cs 38)) w.heap.size (.slice (some ⟨w.heap.size, 0, none⟩) n n) l := by
  subst hn hc
  have := World.ownsRow_lit (base := w.heap.size) (e := 38) (size := 8) w (l.flatMap Z.Cl.vs).toArray l.length (Nat.le_refl _) (by unfold maxLen; omega) (by simp [Z.flat_len Z.Cl.vs_len])
  have h2 : (w.alloc (.cells (l.flatMap Z.Cl.vs).toArray 38)).ownsRow w.heap.size 38 8 (.slice (some ⟨w.heap.size, 0, none⟩) l.length l.length) l.length (l.flatMap Z.Cl.vs) := by simpa using this
  exact h2
theorem pays_any (d : Int) (f t a : ByteArray) (w : World) : Calls Try.prog 23 #[.int .i64 d, .string f, .string t, .string a] w fun e w' => e = .returned (.agg #[.int .i64 d, .string f, .string t, .string Z.usd, .string a]) ∧ Below w.heap.size w w' := by
  have hb := (Below.refl _ w).alloc (Nat.le_refl w.heap.size) (.cells #[.int .i64 d, .string f, .string t, .string ⟨#[85, 83, 68]⟩, .string a] 36)
  have BY := Blk.new w 36 #[.int .i64 d, .string f, .string t, .string ⟨#[85, 83, 68]⟩, .string a]
  have q0 := BY.cell 0
  have q1 := BY.cell 1
  have q2 := BY.cell 2
  have q3 := BY.cell 3
  have q4 := BY.cell 4
  clear BY
  go_enter Try.func23, Try.ntmps23
  go_wp2_with fail
  generalize (w.alloc (.cells #[.int .i64 d, .string f, .string t, .string ⟨#[85, 83, 68]⟩, .string a] 36)) = W at *
  refine bodyPost_ret (v := .agg #[.int .i64 d, .string f, .string t, .string Z.usd, .string a]) (by simp [results, Try.results23, go_sem, q0, q1, q2, q3, q4, Z.usd]) rfl ?_
  exact ⟨rfl, hb⟩
theorem exA_small : ∀ x ∈ Z.exA, x.small := by
  intro x hx
  simp only [Z.exA, List.mem_cons, List.not_mem_nil, or_false] at hx
  rcases hx with rfl | rfl <;> exact ⟨by decide, by decide, by decide, by decide⟩
theorem exB_small : ∀ x ∈ Z.exB, x.small := by
  intro x hx
  simp only [Z.exB, List.mem_cons, List.not_mem_nil, or_false] at hx
  rcases hx with rfl | rfl <;> exact ⟨by decide, by decide, by decide, by decide⟩
theorem ex1_small : ∀ x ∈ Z.ex1, x.fl.small := by
  intro x hx
  simp only [Z.ex1, List.mem_cons, List.not_mem_nil, or_false] at hx
  rcases hx with rfl | rfl <;> exact ⟨by decide, by decide, by decide, by decide⟩
theorem ex2_small : ∀ x ∈ Z.ex2, x.fl.small := by
  intro x hx
  simp only [Z.ex2, List.mem_cons, List.not_mem_nil, or_false] at hx
  rcases hx with rfl | rfl | rfl | rfl <;> exact ⟨by decide, by decide, by decide, by decide⟩
theorem upd_good {l : List Z.Cl} {fs : List Z.Fl} {en : Int} {w w' : World} {e : Ending} (h : UpdRet l fs en w e w') (h0 : Z.updE l fs en = 0) : Below w.heap.size w w' ∧ ∃ v, e = .returned (.tuple #[.agg #[v], .int .i64 0]) ∧ OC w' w.heap.size v (Z.updL l fs en) := by
  obtain ⟨hb, ⟨h1, _⟩ | ⟨_, h⟩⟩ := h
  · exact absurd h0 h1
  · exact ⟨hb, h⟩
theorem ba {W w' : World} (h : Below W.heap.size W w') (o : Obj) : Below W.heap.size W (w'.alloc o) := h.alloc h.size o
theorem bd {W w' : World} (h : Below W.heap.size W w') : Below W.heap.size W w'.drew := h.drew
theorem bt {W a b : World} (h2 : Below a.heap.size a b) (h : Below W.heap.size W a) : Below W.heap.size W b := h.trans (h2.mono h.size)
theorem bs {W w' X : World} {u : Value} (h : Below W.heap.size W w') (h2 : Below W.heap.size W X) : Below W.heap.size W (w'.setCell ⟨X.heap.size, 0, none⟩ u) := h.setCell (p := ⟨X.heap.size, 0, none⟩) h2.size u
theorem bnd {W y : World} (hb : Below (W.alloc (.cells #[.slice none 0 0] 24)).drew.heap.size (W.alloc (.cells #[.slice none 0 0] 24)).drew y) : Blk y W.heap.size 24 #[.slice none 0 0] := Blk.below (W := (W.alloc (.cells #[.slice none 0 0] 24)).drew) (Blk.new W 24 #[.slice none 0 0]) hb
theorem bn2 {W y : World} {o : Obj} (hb : Below ((W.alloc o).alloc (.cells #[.slice none 0 0] 24)).heap.size ((W.alloc o).alloc (.cells #[.slice none 0 0] 24)) y) : Blk y (W.heap.size + 1) 24 #[.slice none 0 0] := by
  have := Blk.new (W.alloc o) 24 #[.slice none 0 0]
  rw [show (W.alloc o).heap.size = W.heap.size + 1 from Array.size_push _] at this
  exact this.below hb
theorem bs2 {W w' X : World} {u : Value} (h : Below W.heap.size W w') (h2 : Below W.heap.size W X) : Below W.heap.size W (w'.setCell ⟨X.heap.size + 1, 0, none⟩ u) := h.setCell (p := ⟨X.heap.size + 1, 0, none⟩) (Nat.le_trans h2.size (Nat.le_succ _)) u
theorem hle {w W5 X : World} (h5 : Below w.heap.size w W5) (h : Below W5.heap.size W5 X) : w.heap.size ≤ X.heap.size := Nat.le_trans h5.size h.size
theorem cellB {W w' : World} {B : Nat} {t : TypeId} {v : Value} (hN : Blk W B t #[v]) (h : Below W.heap.size W w') : w'.cell? ⟨B, 0, none⟩ = some v := (hN.below h).cell 0
theorem ocs {w' : World} {g B : Nat} {cs : Array Value} {u v : Value} {l : List Z.Cl} (bg : Blk w' g 24 cs) (hO : OC w' B v l) : OC (w'.setCell ⟨g, 0, none⟩ u) B v l :=
  OL.kept hO (grownBy_setAt w' g 0 u) fun j hj e => by
    injection e with e
    subst e
    exact bg.not_row (by decide) hO hj.symm
theorem sfl (w : World) : SF (w.alloc (.cells #[.int .i64 10, .string ⟨#[65, 110, 110]⟩, .string ⟨#[66, 111, 98]⟩, .string Z.usd, .string ⟨#[52]⟩, .int .i64 12, .string ⟨#[66, 111, 98]⟩, .string ⟨#[65, 110, 110]⟩, .string Z.usd, .string ⟨#[49]⟩] 36)) (.slice (some ⟨w.heap.size, 0, none⟩) 2 2) Z.exB := OL.sl Z.Fl.vs_len (lit_flows w Z.exB 2 #[.int .i64 10, .string ⟨#[65, 110, 110]⟩, .string ⟨#[66, 111, 98]⟩, .string Z.usd, .string ⟨#[52]⟩, .int .i64 12, .string ⟨#[66, 111, 98]⟩, .string ⟨#[65, 110, 110]⟩, .string Z.usd, .string ⟨#[49]⟩] rfl (by decide) rfl)
theorem sfl2 (w : World) (o : Obj) : SF ((w.alloc o).alloc (.cells #[.int .i64 10, .string ⟨#[65, 110, 110]⟩, .string ⟨#[66, 111, 98]⟩, .string Z.usd, .string ⟨#[52]⟩, .int .i64 12, .string ⟨#[66, 111, 98]⟩, .string ⟨#[65, 110, 110]⟩, .string Z.usd, .string ⟨#[49]⟩] 36)) (.slice (some ⟨w.heap.size + 1, 0, none⟩) 2 2) Z.exB := by
  have := sfl (w.alloc o)
  rw [show (w.alloc o).heap.size = w.heap.size + 1 from Array.size_push _] at this
  exact this
theorem updB {w W W5 : World} {A1 : Option Addr} {n1 c1 : Nat} {u : Value} (HV : Hid (HasV w)) (h5 : Below w.heap.size w W5) (HO : Hid (OC W5 w.heap.size (.slice A1 n1 c1) Z.ex1)) (h : Below W5.heap.size W5 W) (hF : SF W u Z.exB) :
    Calls Try.prog 13 #[.agg #[.slice A1 n1 c1], u, .int .i64 6] W fun e w' => ∃ A n c, e = .returned (.tuple #[.agg #[.slice A n c], .int .i64 0]) ∧ OC w' W.heap.size (.slice A n c) Z.ex2 ∧ Below W.heap.size W w' := by
  refine (update_any (.slice A1 n1 c1) u Z.ex1 Z.exB 6 W (OL.sl Z.Cl.vs_len (HO.out.below h)) hF (HV.out.below (h5.trans (h.mono h5.size))) ex1_small exB_small).mono ?_
  intro e w' hr
  obtain ⟨hb, v, rfl, hO⟩ := upd_good hr Z.ex2_E
  rw [Z.ex2_L] at hO
  obtain ⟨A, n, c, rfl⟩ := hO.shape3
  exact ⟨A, n, c, rfl, hO, hb⟩
set_option maxRecDepth 100000 in
set_option maxHeartbeats 4000000 in
theorem example_any (w : World) (hV : HasV w) :
    Calls Try.prog 22 #[] w fun e w' => Below w.heap.size w w' ∧ ∃ v, e = .returned (.tuple #[.agg #[v], .bool true]) ∧ OC w' w.heap.size v Z.ex2 := by
  have hb0 := (Below.refl _ w).alloc (Nat.le_refl w.heap.size) (.cells #[.slice none 0 0] 24)
  have B0 := Blk.new w 24 #[.slice none 0 0]
  have HV := Lib.hid hV
  go_enter Try.func22, Try.ntmps22
  go_wp2_with fail
  generalize (w.alloc (.cells #[.slice none 0 0] 24)) = W0 at *
  refine (pays_any 10 Z.ann Z.bob ⟨#[51]⟩ W0).mono ?_
  rintro e W1 ⟨rfl, hb⟩
  have h1 := hb0.trans (hb.mono hb0.size)
  have B1 := B0.below hb
  clear hb0 hb B0 hV
  go_wp2_with fail
  refine (pays_any 12 Z.bob Z.ann ⟨#[49]⟩ W1).mono ?_
  rintro e W2 ⟨rfl, hb⟩
  have h2 := h1.trans (hb.mono h1.size)
  have B2 := B1.below hb
  clear h1 hb B1
  go_wp2_with fail
  have h3 := h2.alloc h2.size (.cells #[.int .i64 10, .string Z.ann, .string Z.bob, .string Z.usd, .string ⟨#[51]⟩, .int .i64 12, .string Z.bob, .string Z.ann, .string Z.usd, .string ⟨#[49]⟩] 36)
  have B3 := B2.alloc (.cells #[.int .i64 10, .string Z.ann, .string Z.bob, .string Z.usd, .string ⟨#[51]⟩, .int .i64 12, .string Z.bob, .string Z.ann, .string Z.usd, .string ⟨#[49]⟩] 36)
  have O3 := lit_flows W2 Z.exA 2 #[.int .i64 10, .string Z.ann, .string Z.bob, .string Z.usd, .string ⟨#[51]⟩, .int .i64 12, .string Z.bob, .string Z.ann, .string Z.usd, .string ⟨#[49]⟩] rfl (by decide) rfl
  have hF3 := OL.sl Z.Fl.vs_len O3
  clear O3 h2 B2
  generalize (W2.alloc (.cells #[.int .i64 10, .string Z.ann, .string Z.bob, .string Z.usd, .string ⟨#[51]⟩, .int .i64 12, .string Z.bob, .string Z.ann, .string Z.usd, .string ⟨#[49]⟩] 36)) = W3 at *
  refine (update_any (.slice none 0 0) _ [] Z.exA 5 W3 SL.nil_ hF3 (HV.out.below h3) (fun x hx => by cases hx) exA_small).mono ?_
  intro e W4 hr
  obtain ⟨hb, v1, rfl, hO⟩ := upd_good hr Z.ex1_E
  rw [Z.ex1_L] at hO
  obtain ⟨A1, n1, c1, rfl⟩ := hO.shape3
  have h4 := h3.trans (hb.mono h3.size)
  have h3s := h3.size
  have B4 := B3.below hb
  clear hr h3 hb B3 hF3
  have B5 := B4.alloc (.cells #[(.slice A1 n1 c1)] 24)
  have N5 := Blk.new W4 24 #[(.slice A1 n1 c1)]
  have h5 := h4.alloc h4.size (.cells #[(.slice A1 n1 c1)] 24)
  have HO5 := Lib.hid (hO.alloc (.cells #[(.slice A1 n1 c1)] 24))
  clear B4 h4 hO
  go_upto_region 2 with fail
  generalize (W4.alloc (.cells #[(.slice A1 n1 c1)] 24)) = W5 at *
  have HO5' : Hid (OC W5 w.heap.size (.slice A1 n1 c1) Z.ex1) := Lib.hid (HO5.out.mono h3s)
  clear HO5
  go_cut [4, 5] (fun pv ev wx => ∃ (g : Nat) (A : Option Addr) (n c : Nat), pv = .pointer (some ⟨g, 0, none⟩) ∧ ev = .int .i64 0 ∧ Below W5.heap.size W5 wx ∧ Blk wx g 24 #[.slice A n c] ∧ OC wx w.heap.size (.slice A n c) Z.ex2)
  case first =>
    have y0 := N5.cell 0
    go_region_held3 (fun W => W.cell? ⟨W4.heap.size, 0, none⟩ = some (.slice A1 n1 c1))
      (first
        | exact y0
        | (refine cellB N5 ?_; repeat' (first | with_reducible exact Below.refl _ _ | with_reducible refine bs ?_ ?_ | with_reducible refine bs2 ?_ ?_ | with_reducible refine ba ?_ _ | with_reducible refine bd ?_ | (with_reducible apply bt; with_reducible assumption))))
      (first
        | (go_at_call 23; (first | with_reducible refine (pays_any 10 ⟨#[65, 110, 110]⟩ ⟨#[66, 111, 98]⟩ ⟨#[52]⟩ _).mono ?_ | with_reducible refine (pays_any 12 ⟨#[66, 111, 98]⟩ ⟨#[65, 110, 110]⟩ ⟨#[49]⟩ _).mono ?_); rintro e y ⟨rfl, hb⟩; (first | with_reducible have bg := bnd hb | with_reducible have bg := bn2 hb | with_reducible have bg := Blk.below (Blk.new _ 24 #[.slice none 0 0]) hb | with_reducible have bg := Blk.below (Blk.alloc (Blk.new _ 24 #[.slice none 0 0]) _) hb | with_reducible have bg := Blk.below bg hb | with_reducible have bg := Blk.below (Blk.alloc bg _) hb | skip); (first | (have hg0 := bg.cell 0; have hg1 := bg.frozen 0) | skip))
        | (go_at_call 13; (with_reducible refine (updB HV h5 HO5' ?_ ?_).mono ?_); (focus repeat' (first | with_reducible exact Below.refl _ _ | with_reducible refine bs ?_ ?_ | with_reducible refine bs2 ?_ ?_ | with_reducible refine ba ?_ _ | with_reducible refine bd ?_ | (with_reducible apply bt; with_reducible assumption))); (focus repeat (first | with_reducible exact sfl _ | with_reducible exact sfl2 _ _ | with_reducible refine SL.alloc ?_ _)); rintro e y ⟨A2, n2, c2, rfl, hO, hb⟩; have hz0 := (Blk.new y 24 #[.slice none 0 0]).cell 0; have hz1 := (Blk.new y 24 #[.slice none 0 0]).frozen 0; (first | with_reducible have bg := bnd hb | with_reducible have bg := bn2 hb | with_reducible have bg := Blk.below (Blk.new _ 24 #[.slice none 0 0]) hb | with_reducible have bg := Blk.below (Blk.alloc (Blk.new _ 24 #[.slice none 0 0]) _) hb | with_reducible have bg := Blk.below bg hb | with_reducible have bg := Blk.below (Blk.alloc bg _) hb | skip); (first | (have hg0 := bg.cell 0; have hg1 := bg.frozen 0) | skip)))
    all_goals (go_wp2_with fail)
    all_goals go_meet
    all_goals
      refine ⟨_, A2, n2, c2, rfl, rfl, ?_, ?_, ?_⟩
      · repeat' (first | with_reducible exact Below.refl _ _ | with_reducible refine bs ?_ ?_ | with_reducible refine bs2 ?_ ?_ | with_reducible refine ba ?_ _ | with_reducible refine bd ?_ | (with_reducible apply bt; with_reducible assumption))
      · first | exact Blk.new _ _ _ | exact Blk.set bg 0 _
      · refine OL.mono (by first | exact hO.alloc _ | exact ocs bg hO) (hle h5 ?_)
        repeat' (first | with_reducible exact Below.refl _ _ | with_reducible refine bs ?_ ?_ | with_reducible refine bs2 ?_ ?_ | with_reducible refine ba ?_ _ | with_reducible refine bd ?_ | (with_reducible apply bt; with_reducible assumption))
  case rest =>
    obtain ⟨g, A, n, c, rfl, rfl, hbx, bx, hox⟩ := hcut
    have B6 := B5.below hbx
    have hx0 := bx.cell 0
    have hb0 := B6.cell 0
    have hb1 := B6.frozen 0
    have hfin := (h5.trans (hbx.mono h5.size)).setCell (p := ⟨w.heap.size, 0, none⟩) (Nat.le_refl _) (.slice A n c)
    have hcell := (B6.set 0 (.slice A n c)).cell 0
    have hoc := ocs B6 hox (u := .slice A n c)
    clear B5 N5 h5 HO5' hbx bx hox B6
    go_wp2_with fail
    generalize World.setCell _ ⟨w.heap.size, 0, none⟩ (.slice A n c) = W at *
    refine bodyPost_ret (v := .tuple #[.agg #[.slice A n c], .bool true]) (by simp [results, Try.results22, go_sem, hcell]) rfl ?_
    exact ⟨hfin, _, rfl, hoc⟩
end Go.Proofs.Ytdjghmpaopfboaa
/- Walk: the law's example holds. -/

namespace Go.Proofs.Ytdjghmpaopfboaa
open Go.RowKit
theorem slit (w : World) : OC (w.alloc (.cells #[.int .i64 1, .int .i64 0, .int .i64 5, .int .i64 10, .string Z.ann, .string Z.bob, .string Z.usd, .string ⟨#[51]⟩, .int .i64 2, .int .i64 0, .int .i64 5, .int .i64 12, .string Z.bob, .string Z.ann, .string Z.usd, .string ⟨#[49]⟩, .int .i64 3, .int .i64 1, .int .i64 6, .int .i64 10, .string Z.bob, .string Z.ann, .string Z.usd, .string ⟨#[51]⟩, .int .i64 4, .int .i64 0, .int .i64 6, .int .i64 10, .string Z.ann, .string Z.bob, .string Z.usd, .string ⟨#[52]⟩] 38)) w.heap.size (.slice (some ⟨w.heap.size, 0, none⟩) 4 4) Z.ex2 :=
  lit_claims w Z.ex2 4 _ rfl (by decide) rfl
set_option maxRecDepth 100000 in
set_option maxHeartbeats 4000000 in
theorem alive_any (w : World) (hV : HasV w) :
    Calls Try.prog 24 #[] w fun e w' => e = .returned (.bool true) ∧ Below w.heap.size w w' := by
  have HV := Lib.hid hV
  go_enter Try.func24, Try.ntmps24
  go_wp2_with fail
  refine (example_any w hV).mono ?_
  rintro e W1 ⟨h1, v, rfl, hO⟩
  obtain ⟨A, n, c, rfl⟩ := hO.shape3
  have h2 := h1.alloc h1.size (.cells #[.slice A n c] 24)
  have B2 := Blk.new W1 24 #[.slice A n c]
  have HO2 := Lib.hid (hO.alloc (.cells #[.slice A n c] 24))
  have hl2 := B2.cell 0
  clear hO h1 hV
  go_wp2_with fail
  generalize (W1.alloc (.cells #[.slice A n c] 24)) = W2 at *
  refine (net_any (.slice A n c) Z.ex2 Z.ann Z.usd W2 (OL.sl Z.Cl.vs_len HO2.out) (HV.out.below h2) ex2_small (by decide) (by decide)).mono ?_
  rintro e W3 ⟨rfl, hb⟩
  rw [Z.ex2_N]
  have h3 := h2.trans (hb.mono h2.size)
  have B3 := B2.below hb
  have HO3 := Lib.hid (HO2.out.below hb)
  clear hb h2 B2 HO2 hl2
  go_wp2_with fail
  refine (pays_any 10 Z.ann Z.bob ⟨#[51]⟩ W3).mono ?_
  rintro e W4 ⟨rfl, hb⟩
  have h4 := h3.trans (hb.mono h3.size)
  have B4 := B3.below hb
  have HO4 := Lib.hid (HO3.out.below hb)
  clear hb h3 B3 HO3
  go_wp2_with fail
  refine (pays_any 12 Z.bob Z.ann ⟨#[49]⟩ W4).mono ?_
  rintro e W5 ⟨rfl, hb⟩
  have h5 := h4.trans (hb.mono h4.size)
  have B5 := B4.below hb
  have HO5 := Lib.hid (HO4.out.below hb)
  clear hb h4 B4 HO4
  go_wp2_with fail
  refine (pays_any 10 Z.bob Z.ann ⟨#[51]⟩ W5).mono ?_
  rintro e W6 ⟨rfl, hb⟩
  have h6 := h5.trans (hb.mono h5.size)
  have B6 := B5.below hb
  have HO6 := Lib.hid (HO5.out.below hb)
  clear hb h5 B5 HO5
  go_wp2_with fail
  refine (pays_any 10 Z.ann Z.bob ⟨#[52]⟩ W6).mono ?_
  rintro e W7 ⟨rfl, hb⟩
  have h7 := h6.trans (hb.mono h6.size)
  have B7 := B6.below hb
  have HO7 := Lib.hid (HO6.out.below hb)
  have S8 := slit W7
  have h8 := h7.alloc h7.size (.cells #[.int .i64 1, .int .i64 0, .int .i64 5, .int .i64 10, .string Z.ann, .string Z.bob, .string Z.usd, .string ⟨#[51]⟩, .int .i64 2, .int .i64 0, .int .i64 5, .int .i64 12, .string Z.bob, .string Z.ann, .string Z.usd, .string ⟨#[49]⟩, .int .i64 3, .int .i64 1, .int .i64 6, .int .i64 10, .string Z.bob, .string Z.ann, .string Z.usd, .string ⟨#[51]⟩, .int .i64 4, .int .i64 0, .int .i64 6, .int .i64 10, .string Z.ann, .string Z.bob, .string Z.usd, .string ⟨#[52]⟩] 38)
  have B8 := B7.alloc (.cells #[.int .i64 1, .int .i64 0, .int .i64 5, .int .i64 10, .string Z.ann, .string Z.bob, .string Z.usd, .string ⟨#[51]⟩, .int .i64 2, .int .i64 0, .int .i64 5, .int .i64 12, .string Z.bob, .string Z.ann, .string Z.usd, .string ⟨#[49]⟩, .int .i64 3, .int .i64 1, .int .i64 6, .int .i64 10, .string Z.bob, .string Z.ann, .string Z.usd, .string ⟨#[51]⟩, .int .i64 4, .int .i64 0, .int .i64 6, .int .i64 10, .string Z.ann, .string Z.bob, .string Z.usd, .string ⟨#[52]⟩] 38)
  have O8 := HO7.out.alloc (.cells #[.int .i64 1, .int .i64 0, .int .i64 5, .int .i64 10, .string Z.ann, .string Z.bob, .string Z.usd, .string ⟨#[51]⟩, .int .i64 2, .int .i64 0, .int .i64 5, .int .i64 12, .string Z.bob, .string Z.ann, .string Z.usd, .string ⟨#[49]⟩, .int .i64 3, .int .i64 1, .int .i64 6, .int .i64 10, .string Z.bob, .string Z.ann, .string Z.usd, .string ⟨#[51]⟩, .int .i64 4, .int .i64 0, .int .i64 6, .int .i64 10, .string Z.ann, .string Z.bob, .string Z.usd, .string ⟨#[52]⟩] 38)
  have SM := Lib.hid (rsame_claims _ _ Z.ex2 _ (OL.sl Z.Cl.vs_len O8) (OL.sl Z.Cl.vs_len S8))
  have hl8 := B8.cell 0
  clear hb h6 B6 HO6 h7 B7 HO7 S8 O8
  go_wp2_with fail
  refine SM.out.mono ?_
  rintro e W9 ⟨rfl, hb⟩
  have h9 := h8.trans (hb.mono h8.size)
  clear SM h8 B8 hl8 hb
  go_wp2_with fail
  go_ret
  exact ⟨rfl, h9⟩
end Go.Proofs.Ytdjghmpaopfboaa
/- Small facts of an update for the laws. -/

namespace Go.Proofs.Ytdjghmpaopfboaa
open Go.RowKit
theorem opp_small {f : Z.Fl} (h : f.small) : (Z.opp f).small := by
  unfold Z.Fl.small Z.opp at *
  exact ⟨h.2.1, h.1, h.2.2.1, h.2.2.2⟩
/-- The claims behind an update have short strings. -/
theorem upd_small {l : List Z.Cl} {fs : List Z.Fl} (h1 : ∀ x ∈ l, x.fl.small) (h2 : ∀ x ∈ fs, x.small) (en : Int) : ∀ x ∈ Z.updL l fs en, x.fl.small := by
  intro x hx
  obtain ⟨i, hi⟩ := List.getElem?_of_mem hx
  rcases Z.upd_at hi with ⟨h, _⟩ | ⟨j, y, _, hy, rfl⟩ | ⟨j, f, _, hf, rfl⟩
  · exact h1 x (List.mem_of_getElem? h)
  · exact opp_small (h1 y (Z.open_iff.1 (Z.rm_open (List.mem_of_getElem? hy))).1)
  · exact h2 f (Z.fr_mem (List.mem_of_getElem? hf))
theorem open_uni {l : List Z.Cl} {w w' : World} {e : Ending} (h : OpenRet l w e w') : Below w.heap.size w w' ∧ ∃ v, e = .returned (.tuple #[v, .int .i64 (Z.clE l)]) ∧ SC w' v (if Z.valid l = true then Z.openL l else []) := by
  obtain ⟨hb, ⟨hv, rfl⟩ | ⟨hv, v, rfl, hO⟩⟩ := h
  · exact ⟨hb, _, by unfold Z.clE; rw [hv]; rfl, by rw [hv]; exact SL.nil_⟩
  · exact ⟨hb, v, by unfold Z.clE; rw [hv]; rfl, by rw [hv]; exact OL.sl (fun _ => rfl) hO⟩
theorem none_open {l : List Z.Cl} {en : Int} (h : Z.updE l [] en = 0) : Z.openL (Z.updL l [] en) = [] := by
  have := (Z.open_perm h).length_eq
  rw [List.length_map] at this
  exact List.eq_nil_of_length_eq_zero this
theorem rm_all (op : List Z.Cl) : ∀ k, k ≤ op.length → (Z.rm op (Z.cnt []) k).length = k
  | 0, _ => rfl
  | k + 1, hk => by
    have e : op[k]? = some op[k] := List.getElem?_eq_getElem (by omega)
    rw [Z.rm_not e (by simp [Z.cnt]), List.length_append, rm_all op k (by omega)]
    rfl
theorem none_len {l : List Z.Cl} {en : Int} (_h : Z.updE l [] en = 0) : (Z.updL l [] en).length = l.length + (Z.openL l).length := by
  rw [Z.updL_eq, List.length_append, List.length_append]
  unfold Z.revL Z.newL
  rw [Z.revs_len, Z.news_len]
  have e : (Z.rmL l []).length = (Z.openL l).length := rm_all _ _ (Nat.le_refl _)
  have e2 : (Z.frL l []).length = 0 := rfl
  omega
theorem none_net {l : List Z.Cl} {en : Int} (h : Z.updE l [] en = 0) (p c : ByteArray) : Z.netR (Z.updL l [] en) p c = (⟨#[48]⟩, 0) ∨ Z.netR (Z.updL l [] en) p c = (⟨#[]⟩, 2) ∨ Z.netR (Z.updL l [] en) p c = (⟨#[]⟩, 14) := Z.nets_none h p c
theorem rflows_nil (W : World) : Calls Try.prog 28 #[.slice none 0 0] W fun e w' => e = .returned (.int .i64 0) ∧ Below W.heap.size W w' :=
  rflows_any (.slice none 0 0) [] W SL.nil_ (fun x hx => by cases hx)
theorem open_map_cnt {l : List Z.Cl} {fs : List Z.Fl} {en : Int} (h : Z.updE l fs en = 0) (f : Z.Fl) : Z.cnt ((Z.openL (Z.updL l fs en)).map Z.Cl.fl) f = Z.cnt fs f := by
  rw [← Z.open_cnt h f]
  unfold Z.cnt Z.cntO
  rw [List.filter_map, List.length_map]
  rfl
end Go.Proofs.Ytdjghmpaopfboaa
