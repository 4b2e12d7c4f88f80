/- Rf: Ors Orc Ofr Ork -/
import Derived.Test.YtifafmomkpkgdaaGreatDoorOsb
import Derived.Test.YtifafmomkpkgdaaGreatDoorOrd
import Derived.Test.YtifafmomkpkgdaaGreatDoorQ3
import Derived.Test.YtifafmomkpkgdaaGreatDoorClnamer
import Derived.Test.YtifafmomkpkgdaaGreatDoorOtc
/- Walks: the reference's sort of an expression. -/

namespace Go.Proofs.YtifafmomkpkgdaaGreatDoor
open Go.RowKit
namespace Z
theorem leaf_of {t : XN} {ls : List Int} {k : Int} {b1 b2 b3 : Bool} (hk : t.k = k) (hs : shp k = none) (h1 : decide (t.rat = e0) = b1) (h2 : decide (t.name = e0) = b2) (h3 : decide (t.date = 0) = b3) :
    sortN t ls = leafV k (decide (ls.length = 0)) (decide (rchk t.rat = 0)) b1 b2 (nameB t.name) (dayC t.date) b3 := by
  rw [sortN_none (by rw [hk]; exact hs), leafV_eq, hk, h1, h2, h3]
theorem srt_of {t : XN} {ls ps : List Int} {k own : Int} {b1 b2 b3 : Bool} (hk : t.k = k) (hs : shp k = some (ps, own)) (h1 : decide (t.rat = e0) = b1) (h2 : decide (t.name = e0) = b2) (h3 : decide (t.date = 0) = b3) :
    sortN t ls = if (decide (ls = ps) && (b1 && (b2 && b3))) = true then own else 0 := by
  rw [sortN_some (by rw [hk]; exact hs), h1, h2, h3]
  rfl
theorem none_of {t : XN} {ls : List Int} (h : t.k ≠ 1 ∧ t.k ≠ 2 ∧ t.k ≠ 3 ∧ t.k ≠ 4 ∧ t.k ≠ 5 ∧ t.k ≠ 6 ∧ t.k ≠ 7 ∧ t.k ≠ 8 ∧ t.k ≠ 9 ∧ t.k ≠ 11 ∧ t.k ≠ 12 ∧ t.k ≠ 13 ∧ t.k ≠ 14 ∧ t.k ≠ 15) : sortN t ls = 0 := by
  obtain ⟨h1, h2, h3, h4, h5, h6, h7, h8, h9, h11, h12, h13, h14, h15⟩ := h
  have hs : shp t.k = none := by unfold shp; simp [h4, h5, h6, h7, h8, h9, h11, h12, h13, h14, h15]
  rw [sortN_none hs]
  unfold leafS
  simp [h1, h2, h3]
end Z
namespace Z
def q1 (k : Int) (b4 b2 b3 br : Bool) : Bool := decide (k = 1) && (b4 && (b2 && (b3 && br)))
def q2 (k : Int) (b4 b1 bn bd : Bool) : Bool := decide (k = 2) && (b4 && (b1 && (bn && bd)))
def q3 (k : Int) (b4 b1 bn b3 : Bool) : Bool := decide (k = 3) && (b4 && (b1 && (bn && b3)))
def q4 (k : Int) (ba : Bool) (ls : List Int) : Bool := decide (4 ≤ k) && (decide (k ≤ 8) && (ba && decide (ls = [1, 1])))
def q5 (k : Int) (ba : Bool) (ls : List Int) : Bool := decide (k = 9) && (ba && decide (ls = [2, 1, 1]))
def q6 (k : Int) (ba : Bool) (ls : List Int) : Bool := (decide (k = 11) || decide (k = 12)) && (ba && decide (ls = [1, 1]))
def q7 (k : Int) (ba : Bool) (ls : List Int) : Bool := (decide (k = 13) || decide (k = 14)) && (ba && decide (ls = [2, 2]))
def q8 (k : Int) (ba : Bool) (ls : List Int) : Bool := decide (k = 15) && (ba && decide (ls = [2]))
def sel (c1 c2 c3 c4 c5 c6 c7 c8 : Bool) : Int := if c1 = true then 1 else if c2 = true then 1 else if c3 = true then 1 else if c4 = true then 1 else if c5 = true then 1 else if c6 = true then 2 else if c7 = true then 2 else if c8 = true then 2 else 0
theorem sort_sel (t : XN) (ls : List Int) (b1 b2 b3 : Bool) (h1 : decide (t.rat = e0) = b1) (h2 : decide (t.name = e0) = b2) (h3 : decide (t.date = 0) = b3) :
    sortN t ls = sel (q1 t.k (decide (ls.length = 0)) b2 b3 (decide (rchk t.rat = 0))) (q2 t.k (decide (ls.length = 0)) b1 (nameB t.name) (dayC t.date)) (q3 t.k (decide (ls.length = 0)) b1 (nameB t.name) b3) (q4 t.k (b1 && (b2 && b3)) ls) (q5 t.k (b1 && (b2 && b3)) ls) (q6 t.k (b1 && (b2 && b3)) ls) (q7 t.k (b1 && (b2 && b3)) ls) (q8 t.k (b1 && (b2 && b3)) ls) := by
  by_cases hs : ∃ ps own, shp t.k = some (ps, own)
  · obtain ⟨ps, own, hs⟩ := hs
    rw [srt_of rfl hs h1 h2 h3]
    unfold shp at hs
    generalize (b1 && (b2 && b3)) = ba
    split at hs
    · rename_i h
      simp only [Option.some.injEq, Prod.mk.injEq] at hs
      obtain ⟨rfl, rfl⟩ := hs
      have e4 : decide (4 ≤ t.k) = true := decide_eq_true (by omega)
      have e8 : decide (t.k ≤ 8) = true := decide_eq_true (by omega)
      have f1 : decide (t.k = 1) = false := decide_eq_false (by omega)
      have f2 : decide (t.k = 2) = false := decide_eq_false (by omega)
      have f3 : decide (t.k = 3) = false := decide_eq_false (by omega)
      have f9 : decide (t.k = 9) = false := decide_eq_false (by omega)
      have f11 : decide (t.k = 11) = false := decide_eq_false (by omega)
      have f12 : decide (t.k = 12) = false := decide_eq_false (by omega)
      have f13 : decide (t.k = 13) = false := decide_eq_false (by omega)
      have f14 : decide (t.k = 14) = false := decide_eq_false (by omega)
      have f15 : decide (t.k = 15) = false := decide_eq_false (by omega)
      unfold sel q1 q2 q3 q4 q5 q6 q7 q8
      rw [e4, e8, f1, f2, f3, f9, f11, f12, f13, f14, f15]
      generalize decide (ls = [1, 1]) = d
      rcases ba with _ | _ <;> rcases d with _ | _ <;> rfl
    split at hs
    · rename_i h
      simp only [Option.some.injEq, Prod.mk.injEq] at hs
      obtain ⟨rfl, rfl⟩ := hs
      unfold sel q1 q2 q3 q4 q5 q6 q7 q8
      rw [h]
      generalize decide (ls = [2, 1, 1]) = d
      rcases ba with _ | _ <;> rcases d with _ | _ <;> rfl
    split at hs
    · rename_i h
      simp only [Option.some.injEq, Prod.mk.injEq] at hs
      obtain ⟨rfl, rfl⟩ := hs
      unfold sel q1 q2 q3 q4 q5 q6 q7 q8
      generalize hd : decide (ls = [1, 1]) = d
      rcases h with h | h <;> rw [h] <;> rcases ba with _ | _ <;> rcases d with _ | _ <;> rfl
    split at hs
    · rename_i h
      simp only [Option.some.injEq, Prod.mk.injEq] at hs
      obtain ⟨rfl, rfl⟩ := hs
      unfold sel q1 q2 q3 q4 q5 q6 q7 q8
      generalize hd : decide (ls = [2, 2]) = d
      rcases h with h | h <;> rw [h] <;> rcases ba with _ | _ <;> rcases d with _ | _ <;> rfl
    split at hs
    · rename_i h
      simp only [Option.some.injEq, Prod.mk.injEq] at hs
      obtain ⟨rfl, rfl⟩ := hs
      unfold sel q1 q2 q3 q4 q5 q6 q7 q8
      rw [h]
      generalize decide (ls = [2]) = d
      rcases ba with _ | _ <;> rcases d with _ | _ <;> rfl
    · exact absurd hs (by simp)
  · have hn : shp t.k = none := by
      rcases h : shp t.k with _ | ⟨ps, own⟩
      · rfl
      · exact absurd ⟨ps, own, h⟩ hs
    have hk : ¬ (4 ≤ t.k ∧ t.k ≤ 8) ∧ t.k ≠ 9 ∧ t.k ≠ 11 ∧ t.k ≠ 12 ∧ t.k ≠ 13 ∧ t.k ≠ 14 ∧ t.k ≠ 15 := by
      refine ⟨fun h => ?_, ?_, ?_, ?_, ?_, ?_, ?_⟩
      · have h5 : t.k = 4 ∨ t.k = 5 ∨ t.k = 6 ∨ t.k = 7 ∨ t.k = 8 := by omega
        unfold shp at hn
        rw [if_pos h5] at hn
        exact absurd hn (by simp)
      all_goals (intro h; rw [h] at hn; exact absurd hn (by decide))
    rw [sortN_none hn, leafV_eq, h1, h2, h3]
    have e4 : (decide (4 ≤ t.k) && decide (t.k ≤ 8)) = false := by rw [← Bool.decide_and]; exact decide_eq_false hk.1
    have f9 : decide (t.k = 9) = false := decide_eq_false hk.2.1
    have f11 : decide (t.k = 11) = false := decide_eq_false hk.2.2.1
    have f12 : decide (t.k = 12) = false := decide_eq_false hk.2.2.2.1
    have f13 : decide (t.k = 13) = false := decide_eq_false hk.2.2.2.2.1
    have f14 : decide (t.k = 14) = false := decide_eq_false hk.2.2.2.2.2.1
    have f15 : decide (t.k = 15) = false := decide_eq_false hk.2.2.2.2.2.2
    unfold sel q1 q2 q3 q4 q5 q6 q7 q8 leafV
    rw [← Bool.and_assoc (decide (4 ≤ t.k)), e4, f9, f11, f12, f13, f14, f15]
    generalize (b1 && (b2 && b3)) = ba
    generalize decide (rchk t.rat = 0) = br
    generalize nameB t.name = bn
    generalize dayC t.date = bd
    generalize decide (ls.length = 0) = b4
    by_cases k1 : t.k = 1
    · rw [k1]
      rcases b4 with _ | _ <;> rcases br with _ | _ <;> rcases b2 with _ | _ <;> rcases b3 with _ | _ <;> rfl
    by_cases k2 : t.k = 2
    · rw [k2]
      rcases b4 with _ | _ <;> rcases b1 with _ | _ <;> rcases bn with _ | _ <;> rcases bd with _ | _ <;> rfl
    by_cases k3 : t.k = 3
    · rw [k3]
      rcases b4 with _ | _ <;> rcases b1 with _ | _ <;> rcases bn with _ | _ <;> rcases b3 with _ | _ <;> rfl
    rw [if_neg k1, if_neg k2, if_neg k3, decide_eq_false k1, decide_eq_false k2, decide_eq_false k3]
    rcases b4 with _ | _ <;> rfl
end Z
theorem infoInt : ∃ i z, Tryz.prog.info? 3 = some i ∧ i.zero = some z ∧ i.size = 1 ∧ i.bytes = 8 ∧ z.cells.size = 1 := by
  have h : ((Tryz.prog.info? 3).bind fun i => i.zero.map fun z => (i.size, i.bytes, z.cells.size)) = some (1, 8, 1) := by kernel_rfl
  rw [Option.bind_eq_some_iff] at h
  obtain ⟨i, hi, he⟩ := h
  rw [Option.map_eq_some_iff] at he
  obtain ⟨z, hz, he⟩ := he
  simp only [Prod.mk.injEq] at he
  exact ⟨i, z, hi, hz, he.1, he.2.1, he.2.2⟩
theorem dE_one (y : Int) : ∀ u ∈ dE y, u.oneCell' = true := fun u hu => by
  rw [dE, List.mem_singleton] at hu
  subst hu
  rfl
/-- One turn, and a way, into a code. -/
def turn : Nat → Code → Code
  | 0, .seq a _ => a
  | 1, .seq _ b => b
  | 2, .block _ b => b
  | 2, .loop b => b
  | 2, .scope b => b
  | 3, .cond _ a _ => a
  | 4, .cond _ _ b => b
  | _, c => c
def goTo : List Nat → Code → Code
  | [], c => c
  | p :: ps, c => goTo ps (turn p c)
theorem rs_one {l : List Int} (h : l.length = 1) : ∃ a, l = [a] := by
  rcases l with _ | ⟨a, _ | ⟨b, r⟩⟩
  · simp at h
  · exact ⟨a, rfl⟩
  · simp at h
theorem rs_two {l : List Int} (h : l.length = 2) : ∃ a b, l = [a, b] := by
  rcases l with _ | ⟨a, _ | ⟨b, _ | ⟨c, r⟩⟩⟩
  · simp at h
  · simp at h
  · exact ⟨a, b, rfl⟩
  · simp at h
theorem rs_three {l : List Int} (h : l.length = 3) : ∃ a b c, l = [a, b, c] := by
  rcases l with _ | ⟨a, _ | ⟨b, _ | ⟨c, _ | ⟨d, r⟩⟩⟩⟩
  · simp at h
  · simp at h
  · simp at h
  · exact ⟨a, b, c, rfl⟩
  · simp at h
set_option maxRecDepth 1000000 in
set_option maxHeartbeats 4000000 in
theorem rs_reg1 {W : World} {g N M : Nat} {K date rc : Int} {rat name : ByteArray} {ba b2 b3 b4 br p1 : Bool} {A' : Option Addr} {c' : Nat} {Q : Exit → Act → World → Prop} {y0 y2 y5 y7 y8 y9 y10 y11 y12 y13 y14 y15 y16 y17 y18 y19 y20 y21 y22 y23 y24 y25 y26 y27 y28 y29 y30 y31 y32 y33 y34 y35 y36 y37 y38 y39 y40 y41 y42 y43 y44 y45 y46 y47 y48 y49 y50 y51 y52 y53 y54 y55 y56 y57 y58 y59 y60 y61 y62 y63 y64 y65 y66 y67 y68 y69 y70 y71 y72 y73 y74 y75 y76 y77 y78 y79 y80 y81 y82 y83 y84 y85 y86 y87 y88 y89 y90 y91 y92 y93 y94 y95 y96 y97 y98 y99 y100 y101 y102 y103 y104 y105 y106 y107 y108 y109 y110 y111 y112 y113 y114 y115 y116 y117 y118 y119 y120 y121 y122 y123 y124 y125 y126 y127 y128 y129 y130 y131 y132 y133 y134 y135 y136 y137 y138 y139 y140 y141 y142 y143 y144 y145 y146 y147 y148 y149 y150 y151 y152 y153 y154 y155 y156 y157 y158 y159 y160 y161 y162 y163 y164 y165 y166 y167 y168 y169 y170 y171 y172 y173 y174 y175 y176 y177 y178 y179 y180 y181 y182 y183 y184 y185 y186 y187 y188 y189 y190 y191 y192 y193 y194 y195 y196 y197 y198 y199 y200 y201 y202 y203 y204 y205 y206 y207 y208 y209 y210 y211 y212 y213 y214 y215 y216 y217 y218 y219 y220 y221 y222 y223 y224 y225 y226 y227 y228 y229 y230 y231 y232 y233 y234 y235 y236 y237 : Value}
    (c0 : W.cell? ⟨g, 0, none⟩ = some (.int .u8 K)) (c1 : W.cell? ⟨g, 1, none⟩ = some (.string rat)) (c2 : W.cell? ⟨g, 2, none⟩ = some (.string name)) (c3 : W.cell? ⟨g, 3, none⟩ = some (.int .i64 date))
    (HQ : Hid (∀ W : World, Calls Tryz.prog 81 #[.string rat] W fun e w' => e = .returned (.int .i64 rc) ∧ Below W.heap.size W w')) (h2 : name.toList.isEmpty = b2) (h3 : (date == 0) = b3) (h4 : ((N : Int) == 0) = b4) (h5 : (rc == 0) = br) (HP1 : Hid (p1 = Z.q1 K b4 b2 b3 br))
    (hnext : ∀ (u39 u40 u41 u42 u43 u44 u45 u46 u47 u48 u49 u50 u51 u52 u53 u54 u55 u56 u57 u58 u59 u60 u61 : Value) (W' : World), Below W.heap.size W W' → Q .normal ⟨(y0 :: .pointer (some ⟨g, 0, none⟩) :: y2 :: .bool ba :: .slice A' M c' :: y5 :: .int .i64 (N : Int) :: y7 :: y8 :: y9 :: y10 :: y11 :: y12 :: y13 :: y14 :: y15 :: y16 :: y17 :: y18 :: y19 :: y20 :: y21 :: y22 :: y23 :: y24 :: y25 :: y26 :: y27 :: y28 :: y29 :: y30 :: y31 :: y32 :: y33 :: y34 :: y35 :: y36 :: y37 :: .bool p1 :: u39 :: u40 :: u41 :: u42 :: u43 :: u44 :: u45 :: u46 :: u47 :: u48 :: u49 :: u50 :: u51 :: u52 :: u53 :: u54 :: u55 :: u56 :: u57 :: u58 :: u59 :: u60 :: u61 :: y62 :: y63 :: y64 :: y65 :: y66 :: y67 :: y68 :: y69 :: y70 :: y71 :: y72 :: y73 :: y74 :: y75 :: y76 :: y77 :: y78 :: y79 :: y80 :: y81 :: y82 :: y83 :: y84 :: y85 :: y86 :: y87 :: y88 :: y89 :: y90 :: y91 :: y92 :: y93 :: y94 :: y95 :: y96 :: y97 :: y98 :: y99 :: y100 :: y101 :: y102 :: y103 :: y104 :: y105 :: y106 :: y107 :: y108 :: y109 :: y110 :: y111 :: y112 :: y113 :: y114 :: y115 :: y116 :: y117 :: y118 :: y119 :: y120 :: y121 :: y122 :: y123 :: y124 :: y125 :: y126 :: y127 :: y128 :: y129 :: y130 :: y131 :: y132 :: y133 :: y134 :: y135 :: y136 :: y137 :: y138 :: y139 :: y140 :: y141 :: y142 :: y143 :: y144 :: y145 :: y146 :: y147 :: y148 :: y149 :: y150 :: y151 :: y152 :: y153 :: y154 :: y155 :: y156 :: y157 :: y158 :: y159 :: y160 :: y161 :: y162 :: y163 :: y164 :: y165 :: y166 :: y167 :: y168 :: y169 :: y170 :: y171 :: y172 :: y173 :: y174 :: y175 :: y176 :: y177 :: y178 :: y179 :: y180 :: y181 :: y182 :: y183 :: y184 :: y185 :: y186 :: y187 :: y188 :: y189 :: y190 :: y191 :: y192 :: y193 :: y194 :: y195 :: y196 :: y197 :: y198 :: y199 :: y200 :: y201 :: y202 :: y203 :: y204 :: y205 :: y206 :: y207 :: y208 :: y209 :: y210 :: y211 :: y212 :: y213 :: y214 :: y215 :: y216 :: y217 :: y218 :: y219 :: y220 :: y221 :: y222 :: y223 :: y224 :: y225 :: y226 :: y227 :: y228 :: y229 :: y230 :: y231 :: y232 :: y233 :: y234 :: y235 :: y236 :: y237 :: []).toArray, []⟩ W') :
    Code.wp Tryz.prog (goTo [1, 1, 1, 1, 1, 0, 2, 0] (Tryz.f71.body.getD .skip)) Q ⟨(y0 :: .pointer (some ⟨g, 0, none⟩) :: y2 :: .bool ba :: .slice A' M c' :: y5 :: .int .i64 (N : Int) :: y7 :: y8 :: y9 :: y10 :: y11 :: y12 :: y13 :: y14 :: y15 :: y16 :: y17 :: y18 :: y19 :: y20 :: y21 :: y22 :: y23 :: y24 :: y25 :: y26 :: y27 :: y28 :: y29 :: y30 :: y31 :: y32 :: y33 :: y34 :: y35 :: y36 :: y37 :: y38 :: y39 :: y40 :: y41 :: y42 :: y43 :: y44 :: y45 :: y46 :: y47 :: y48 :: y49 :: y50 :: y51 :: y52 :: y53 :: y54 :: y55 :: y56 :: y57 :: y58 :: y59 :: y60 :: y61 :: y62 :: y63 :: y64 :: y65 :: y66 :: y67 :: y68 :: y69 :: y70 :: y71 :: y72 :: y73 :: y74 :: y75 :: y76 :: y77 :: y78 :: y79 :: y80 :: y81 :: y82 :: y83 :: y84 :: y85 :: y86 :: y87 :: y88 :: y89 :: y90 :: y91 :: y92 :: y93 :: y94 :: y95 :: y96 :: y97 :: y98 :: y99 :: y100 :: y101 :: y102 :: y103 :: y104 :: y105 :: y106 :: y107 :: y108 :: y109 :: y110 :: y111 :: y112 :: y113 :: y114 :: y115 :: y116 :: y117 :: y118 :: y119 :: y120 :: y121 :: y122 :: y123 :: y124 :: y125 :: y126 :: y127 :: y128 :: y129 :: y130 :: y131 :: y132 :: y133 :: y134 :: y135 :: y136 :: y137 :: y138 :: y139 :: y140 :: y141 :: y142 :: y143 :: y144 :: y145 :: y146 :: y147 :: y148 :: y149 :: y150 :: y151 :: y152 :: y153 :: y154 :: y155 :: y156 :: y157 :: y158 :: y159 :: y160 :: y161 :: y162 :: y163 :: y164 :: y165 :: y166 :: y167 :: y168 :: y169 :: y170 :: y171 :: y172 :: y173 :: y174 :: y175 :: y176 :: y177 :: y178 :: y179 :: y180 :: y181 :: y182 :: y183 :: y184 :: y185 :: y186 :: y187 :: y188 :: y189 :: y190 :: y191 :: y192 :: y193 :: y194 :: y195 :: y196 :: y197 :: y198 :: y199 :: y200 :: y201 :: y202 :: y203 :: y204 :: y205 :: y206 :: y207 :: y208 :: y209 :: y210 :: y211 :: y212 :: y213 :: y214 :: y215 :: y216 :: y217 :: y218 :: y219 :: y220 :: y221 :: y222 :: y223 :: y224 :: y225 :: y226 :: y227 :: y228 :: y229 :: y230 :: y231 :: y232 :: y233 :: y234 :: y235 :: y236 :: y237 :: []).toArray, []⟩ W := by
  conv => arg 2; whnf
  by_cases hk : K = 1
  rotate_left
  · have g : (K == 1) = false := by rw [beq_eq_false_iff_ne]; exact hk
    obtain rfl : p1 = false := by rw [HP1.out]; unfold Z.q1; rw [decide_eq_false hk]; rfl
    clear hk
    go_wp2_with fail
    all_goals (first | exact Below.refl _ _ | (apply hnext; exact Below.refl _ _) | apply hnext)
  subst hk
  rcases b4 with _ | _
  · (skip)
    obtain rfl : p1 = false := by rw [HP1.out]; rfl
    go_wp2_with fail
    all_goals (first | exact Below.refl _ _ | (apply hnext; exact Below.refl _ _) | apply hnext)
  rcases b2 with _ | _
  · (skip)
    obtain rfl : p1 = false := by rw [HP1.out]; rfl
    go_wp2_with fail
    all_goals (first | exact Below.refl _ _ | (apply hnext; exact Below.refl _ _) | apply hnext)
  rcases b3 with _ | _
  · (skip)
    obtain rfl : p1 = false := by rw [HP1.out]; rfl
    go_wp2_with fail
    all_goals (first | exact Below.refl _ _ | (apply hnext; exact Below.refl _ _) | apply hnext)
  obtain rfl : p1 = br := by rw [HP1.out]; rcases br with _ | _ <;> rfl
  go_wp2_with fail
  refine (HQ.out _).mono ?_
  rintro e W1 ⟨rfl, hb⟩
  go_wp2_with fail
  all_goals (first | exact hb | (apply hnext; exact hb) | apply hnext)
set_option maxRecDepth 1000000 in
set_option maxHeartbeats 4000000 in
theorem rs_reg2 {W : World} {g N M : Nat} {K date : Int} {rat name : ByteArray} {ba b1 b4 bn bd p2 : Bool} {A' : Option Addr} {c' : Nat} {Q : Exit → Act → World → Prop} {y0 y2 y5 y7 y8 y9 y10 y11 y12 y13 y14 y15 y16 y17 y18 y19 y20 y21 y22 y23 y24 y25 y26 y27 y28 y29 y30 y31 y32 y33 y34 y35 y36 y37 y38 y39 y40 y41 y42 y43 y44 y45 y46 y47 y48 y49 y50 y51 y52 y53 y54 y55 y56 y57 y58 y59 y60 y61 y62 y63 y64 y65 y66 y67 y68 y69 y70 y71 y72 y73 y74 y75 y76 y77 y78 y79 y80 y81 y82 y83 y84 y85 y86 y87 y88 y89 y90 y91 y92 y93 y94 y95 y96 y97 y98 y99 y100 y101 y102 y103 y104 y105 y106 y107 y108 y109 y110 y111 y112 y113 y114 y115 y116 y117 y118 y119 y120 y121 y122 y123 y124 y125 y126 y127 y128 y129 y130 y131 y132 y133 y134 y135 y136 y137 y138 y139 y140 y141 y142 y143 y144 y145 y146 y147 y148 y149 y150 y151 y152 y153 y154 y155 y156 y157 y158 y159 y160 y161 y162 y163 y164 y165 y166 y167 y168 y169 y170 y171 y172 y173 y174 y175 y176 y177 y178 y179 y180 y181 y182 y183 y184 y185 y186 y187 y188 y189 y190 y191 y192 y193 y194 y195 y196 y197 y198 y199 y200 y201 y202 y203 y204 y205 y206 y207 y208 y209 y210 y211 y212 y213 y214 y215 y216 y217 y218 y219 y220 y221 y222 y223 y224 y225 y226 y227 y228 y229 y230 y231 y232 y233 y234 y235 y236 y237 : Value}
    (c0 : W.cell? ⟨g, 0, none⟩ = some (.int .u8 K)) (c1 : W.cell? ⟨g, 1, none⟩ = some (.string rat)) (c2 : W.cell? ⟨g, 2, none⟩ = some (.string name)) (c3 : W.cell? ⟨g, 3, none⟩ = some (.int .i64 date))
    (HNA : Hid (∀ W : World, Calls Tryz.prog 44 #[.string name] W fun e w' => e = .returned (.bool bn) ∧ W = w')) (HDA : Hid (∀ W : World, Calls Tryz.prog 48 #[.int .i64 date] W fun e w' => e = .returned (.bool bd) ∧ W = w')) (h1 : rat.toList.isEmpty = b1) (h4 : ((N : Int) == 0) = b4) (HP2 : Hid (p2 = Z.q2 K b4 b1 bn bd))
    (hnext : ∀ (u63 u64 u65 u66 u67 u68 u69 u70 u71 u72 u73 u74 u75 u76 u77 u78 u79 u80 u81 u82 u83 u84 : Value) (W' : World), W = W' → Q .normal ⟨(y0 :: .pointer (some ⟨g, 0, none⟩) :: y2 :: .bool ba :: .slice A' M c' :: y5 :: .int .i64 (N : Int) :: y7 :: y8 :: y9 :: y10 :: y11 :: y12 :: y13 :: y14 :: y15 :: y16 :: y17 :: y18 :: y19 :: y20 :: y21 :: y22 :: y23 :: y24 :: y25 :: y26 :: y27 :: y28 :: y29 :: y30 :: y31 :: y32 :: y33 :: y34 :: y35 :: y36 :: y37 :: y38 :: y39 :: y40 :: y41 :: y42 :: y43 :: y44 :: y45 :: y46 :: y47 :: y48 :: y49 :: y50 :: y51 :: y52 :: y53 :: y54 :: y55 :: y56 :: y57 :: y58 :: y59 :: y60 :: y61 :: .bool p2 :: u63 :: u64 :: u65 :: u66 :: u67 :: u68 :: u69 :: u70 :: u71 :: u72 :: u73 :: u74 :: u75 :: u76 :: u77 :: u78 :: u79 :: u80 :: u81 :: u82 :: u83 :: u84 :: y85 :: y86 :: y87 :: y88 :: y89 :: y90 :: y91 :: y92 :: y93 :: y94 :: y95 :: y96 :: y97 :: y98 :: y99 :: y100 :: y101 :: y102 :: y103 :: y104 :: y105 :: y106 :: y107 :: y108 :: y109 :: y110 :: y111 :: y112 :: y113 :: y114 :: y115 :: y116 :: y117 :: y118 :: y119 :: y120 :: y121 :: y122 :: y123 :: y124 :: y125 :: y126 :: y127 :: y128 :: y129 :: y130 :: y131 :: y132 :: y133 :: y134 :: y135 :: y136 :: y137 :: y138 :: y139 :: y140 :: y141 :: y142 :: y143 :: y144 :: y145 :: y146 :: y147 :: y148 :: y149 :: y150 :: y151 :: y152 :: y153 :: y154 :: y155 :: y156 :: y157 :: y158 :: y159 :: y160 :: y161 :: y162 :: y163 :: y164 :: y165 :: y166 :: y167 :: y168 :: y169 :: y170 :: y171 :: y172 :: y173 :: y174 :: y175 :: y176 :: y177 :: y178 :: y179 :: y180 :: y181 :: y182 :: y183 :: y184 :: y185 :: y186 :: y187 :: y188 :: y189 :: y190 :: y191 :: y192 :: y193 :: y194 :: y195 :: y196 :: y197 :: y198 :: y199 :: y200 :: y201 :: y202 :: y203 :: y204 :: y205 :: y206 :: y207 :: y208 :: y209 :: y210 :: y211 :: y212 :: y213 :: y214 :: y215 :: y216 :: y217 :: y218 :: y219 :: y220 :: y221 :: y222 :: y223 :: y224 :: y225 :: y226 :: y227 :: y228 :: y229 :: y230 :: y231 :: y232 :: y233 :: y234 :: y235 :: y236 :: y237 :: []).toArray, []⟩ W') :
    Code.wp Tryz.prog (goTo [1, 1, 1, 1, 1, 0, 2, 1, 4, 0] (Tryz.f71.body.getD .skip)) Q ⟨(y0 :: .pointer (some ⟨g, 0, none⟩) :: y2 :: .bool ba :: .slice A' M c' :: y5 :: .int .i64 (N : Int) :: y7 :: y8 :: y9 :: y10 :: y11 :: y12 :: y13 :: y14 :: y15 :: y16 :: y17 :: y18 :: y19 :: y20 :: y21 :: y22 :: y23 :: y24 :: y25 :: y26 :: y27 :: y28 :: y29 :: y30 :: y31 :: y32 :: y33 :: y34 :: y35 :: y36 :: y37 :: y38 :: y39 :: y40 :: y41 :: y42 :: y43 :: y44 :: y45 :: y46 :: y47 :: y48 :: y49 :: y50 :: y51 :: y52 :: y53 :: y54 :: y55 :: y56 :: y57 :: y58 :: y59 :: y60 :: y61 :: y62 :: y63 :: y64 :: y65 :: y66 :: y67 :: y68 :: y69 :: y70 :: y71 :: y72 :: y73 :: y74 :: y75 :: y76 :: y77 :: y78 :: y79 :: y80 :: y81 :: y82 :: y83 :: y84 :: y85 :: y86 :: y87 :: y88 :: y89 :: y90 :: y91 :: y92 :: y93 :: y94 :: y95 :: y96 :: y97 :: y98 :: y99 :: y100 :: y101 :: y102 :: y103 :: y104 :: y105 :: y106 :: y107 :: y108 :: y109 :: y110 :: y111 :: y112 :: y113 :: y114 :: y115 :: y116 :: y117 :: y118 :: y119 :: y120 :: y121 :: y122 :: y123 :: y124 :: y125 :: y126 :: y127 :: y128 :: y129 :: y130 :: y131 :: y132 :: y133 :: y134 :: y135 :: y136 :: y137 :: y138 :: y139 :: y140 :: y141 :: y142 :: y143 :: y144 :: y145 :: y146 :: y147 :: y148 :: y149 :: y150 :: y151 :: y152 :: y153 :: y154 :: y155 :: y156 :: y157 :: y158 :: y159 :: y160 :: y161 :: y162 :: y163 :: y164 :: y165 :: y166 :: y167 :: y168 :: y169 :: y170 :: y171 :: y172 :: y173 :: y174 :: y175 :: y176 :: y177 :: y178 :: y179 :: y180 :: y181 :: y182 :: y183 :: y184 :: y185 :: y186 :: y187 :: y188 :: y189 :: y190 :: y191 :: y192 :: y193 :: y194 :: y195 :: y196 :: y197 :: y198 :: y199 :: y200 :: y201 :: y202 :: y203 :: y204 :: y205 :: y206 :: y207 :: y208 :: y209 :: y210 :: y211 :: y212 :: y213 :: y214 :: y215 :: y216 :: y217 :: y218 :: y219 :: y220 :: y221 :: y222 :: y223 :: y224 :: y225 :: y226 :: y227 :: y228 :: y229 :: y230 :: y231 :: y232 :: y233 :: y234 :: y235 :: y236 :: y237 :: []).toArray, []⟩ W := by
  conv => arg 2; whnf
  by_cases hk : K = 2
  rotate_left
  · have g : (K == 2) = false := by rw [beq_eq_false_iff_ne]; exact hk
    obtain rfl : p2 = false := by rw [HP2.out]; unfold Z.q2; rw [decide_eq_false hk]; rfl
    clear hk
    go_wp2_with fail
    all_goals (first | exact rfl | (apply hnext; exact rfl) | apply hnext)
  subst hk
  rcases b4 with _ | _
  · (skip)
    obtain rfl : p2 = false := by rw [HP2.out]; rfl
    go_wp2_with fail
    all_goals (first | exact rfl | (apply hnext; exact rfl) | apply hnext)
  rcases b1 with _ | _
  · (skip)
    obtain rfl : p2 = false := by rw [HP2.out]; rfl
    go_wp2_with fail
    all_goals (first | exact rfl | (apply hnext; exact rfl) | apply hnext)
  go_wp2_with fail
  refine (HNA.out _).mono ?_
  rintro e W2 ⟨rfl, rfl⟩
  rcases bn with _ | _
  · (skip)
    obtain rfl : p2 = false := by rw [HP2.out]; rfl
    go_wp2_with fail
    all_goals (first | exact rfl | (apply hnext; exact rfl) | apply hnext)
  obtain rfl : p2 = bd := by rw [HP2.out]; rcases bd with _ | _ <;> rfl
  go_wp2_with fail
  refine (HDA.out _).mono ?_
  rintro e W2 ⟨rfl, rfl⟩
  go_wp2_with fail
  all_goals (first | exact rfl | (apply hnext; exact rfl) | apply hnext)
set_option maxRecDepth 1000000 in
set_option maxHeartbeats 4000000 in
theorem rs_reg3 {W : World} {g N M : Nat} {K date : Int} {rat name : ByteArray} {ba b1 b3 b4 bn p3 : Bool} {A' : Option Addr} {c' : Nat} {Q : Exit → Act → World → Prop} {y0 y2 y5 y7 y8 y9 y10 y11 y12 y13 y14 y15 y16 y17 y18 y19 y20 y21 y22 y23 y24 y25 y26 y27 y28 y29 y30 y31 y32 y33 y34 y35 y36 y37 y38 y39 y40 y41 y42 y43 y44 y45 y46 y47 y48 y49 y50 y51 y52 y53 y54 y55 y56 y57 y58 y59 y60 y61 y62 y63 y64 y65 y66 y67 y68 y69 y70 y71 y72 y73 y74 y75 y76 y77 y78 y79 y80 y81 y82 y83 y84 y85 y86 y87 y88 y89 y90 y91 y92 y93 y94 y95 y96 y97 y98 y99 y100 y101 y102 y103 y104 y105 y106 y107 y108 y109 y110 y111 y112 y113 y114 y115 y116 y117 y118 y119 y120 y121 y122 y123 y124 y125 y126 y127 y128 y129 y130 y131 y132 y133 y134 y135 y136 y137 y138 y139 y140 y141 y142 y143 y144 y145 y146 y147 y148 y149 y150 y151 y152 y153 y154 y155 y156 y157 y158 y159 y160 y161 y162 y163 y164 y165 y166 y167 y168 y169 y170 y171 y172 y173 y174 y175 y176 y177 y178 y179 y180 y181 y182 y183 y184 y185 y186 y187 y188 y189 y190 y191 y192 y193 y194 y195 y196 y197 y198 y199 y200 y201 y202 y203 y204 y205 y206 y207 y208 y209 y210 y211 y212 y213 y214 y215 y216 y217 y218 y219 y220 y221 y222 y223 y224 y225 y226 y227 y228 y229 y230 y231 y232 y233 y234 y235 y236 y237 : Value}
    (c0 : W.cell? ⟨g, 0, none⟩ = some (.int .u8 K)) (c1 : W.cell? ⟨g, 1, none⟩ = some (.string rat)) (c2 : W.cell? ⟨g, 2, none⟩ = some (.string name)) (c3 : W.cell? ⟨g, 3, none⟩ = some (.int .i64 date))
    (HNA : Hid (∀ W : World, Calls Tryz.prog 44 #[.string name] W fun e w' => e = .returned (.bool bn) ∧ W = w')) (h1 : rat.toList.isEmpty = b1) (h3 : (date == 0) = b3) (h4 : ((N : Int) == 0) = b4) (HP3 : Hid (p3 = Z.q3 K b4 b1 bn b3))
    (hnext : ∀ (u86 u87 u88 u89 u90 u91 u92 u93 u94 u95 u96 u97 u98 u99 u100 u101 u102 u103 u104 u105 u106 u107 : Value) (W' : World), W = W' → Q .normal ⟨(y0 :: .pointer (some ⟨g, 0, none⟩) :: y2 :: .bool ba :: .slice A' M c' :: y5 :: .int .i64 (N : Int) :: y7 :: y8 :: y9 :: y10 :: y11 :: y12 :: y13 :: y14 :: y15 :: y16 :: y17 :: y18 :: y19 :: y20 :: y21 :: y22 :: y23 :: y24 :: y25 :: y26 :: y27 :: y28 :: y29 :: y30 :: y31 :: y32 :: y33 :: y34 :: y35 :: y36 :: y37 :: y38 :: y39 :: y40 :: y41 :: y42 :: y43 :: y44 :: y45 :: y46 :: y47 :: y48 :: y49 :: y50 :: y51 :: y52 :: y53 :: y54 :: y55 :: y56 :: y57 :: y58 :: y59 :: y60 :: y61 :: y62 :: y63 :: y64 :: y65 :: y66 :: y67 :: y68 :: y69 :: y70 :: y71 :: y72 :: y73 :: y74 :: y75 :: y76 :: y77 :: y78 :: y79 :: y80 :: y81 :: y82 :: y83 :: y84 :: .bool p3 :: u86 :: u87 :: u88 :: u89 :: u90 :: u91 :: u92 :: u93 :: u94 :: u95 :: u96 :: u97 :: u98 :: u99 :: u100 :: u101 :: u102 :: u103 :: u104 :: u105 :: u106 :: u107 :: y108 :: y109 :: y110 :: y111 :: y112 :: y113 :: y114 :: y115 :: y116 :: y117 :: y118 :: y119 :: y120 :: y121 :: y122 :: y123 :: y124 :: y125 :: y126 :: y127 :: y128 :: y129 :: y130 :: y131 :: y132 :: y133 :: y134 :: y135 :: y136 :: y137 :: y138 :: y139 :: y140 :: y141 :: y142 :: y143 :: y144 :: y145 :: y146 :: y147 :: y148 :: y149 :: y150 :: y151 :: y152 :: y153 :: y154 :: y155 :: y156 :: y157 :: y158 :: y159 :: y160 :: y161 :: y162 :: y163 :: y164 :: y165 :: y166 :: y167 :: y168 :: y169 :: y170 :: y171 :: y172 :: y173 :: y174 :: y175 :: y176 :: y177 :: y178 :: y179 :: y180 :: y181 :: y182 :: y183 :: y184 :: y185 :: y186 :: y187 :: y188 :: y189 :: y190 :: y191 :: y192 :: y193 :: y194 :: y195 :: y196 :: y197 :: y198 :: y199 :: y200 :: y201 :: y202 :: y203 :: y204 :: y205 :: y206 :: y207 :: y208 :: y209 :: y210 :: y211 :: y212 :: y213 :: y214 :: y215 :: y216 :: y217 :: y218 :: y219 :: y220 :: y221 :: y222 :: y223 :: y224 :: y225 :: y226 :: y227 :: y228 :: y229 :: y230 :: y231 :: y232 :: y233 :: y234 :: y235 :: y236 :: y237 :: []).toArray, []⟩ W') :
    Code.wp Tryz.prog (goTo [1, 1, 1, 1, 1, 0, 2, 1, 4, 1, 4, 0] (Tryz.f71.body.getD .skip)) Q ⟨(y0 :: .pointer (some ⟨g, 0, none⟩) :: y2 :: .bool ba :: .slice A' M c' :: y5 :: .int .i64 (N : Int) :: y7 :: y8 :: y9 :: y10 :: y11 :: y12 :: y13 :: y14 :: y15 :: y16 :: y17 :: y18 :: y19 :: y20 :: y21 :: y22 :: y23 :: y24 :: y25 :: y26 :: y27 :: y28 :: y29 :: y30 :: y31 :: y32 :: y33 :: y34 :: y35 :: y36 :: y37 :: y38 :: y39 :: y40 :: y41 :: y42 :: y43 :: y44 :: y45 :: y46 :: y47 :: y48 :: y49 :: y50 :: y51 :: y52 :: y53 :: y54 :: y55 :: y56 :: y57 :: y58 :: y59 :: y60 :: y61 :: y62 :: y63 :: y64 :: y65 :: y66 :: y67 :: y68 :: y69 :: y70 :: y71 :: y72 :: y73 :: y74 :: y75 :: y76 :: y77 :: y78 :: y79 :: y80 :: y81 :: y82 :: y83 :: y84 :: y85 :: y86 :: y87 :: y88 :: y89 :: y90 :: y91 :: y92 :: y93 :: y94 :: y95 :: y96 :: y97 :: y98 :: y99 :: y100 :: y101 :: y102 :: y103 :: y104 :: y105 :: y106 :: y107 :: y108 :: y109 :: y110 :: y111 :: y112 :: y113 :: y114 :: y115 :: y116 :: y117 :: y118 :: y119 :: y120 :: y121 :: y122 :: y123 :: y124 :: y125 :: y126 :: y127 :: y128 :: y129 :: y130 :: y131 :: y132 :: y133 :: y134 :: y135 :: y136 :: y137 :: y138 :: y139 :: y140 :: y141 :: y142 :: y143 :: y144 :: y145 :: y146 :: y147 :: y148 :: y149 :: y150 :: y151 :: y152 :: y153 :: y154 :: y155 :: y156 :: y157 :: y158 :: y159 :: y160 :: y161 :: y162 :: y163 :: y164 :: y165 :: y166 :: y167 :: y168 :: y169 :: y170 :: y171 :: y172 :: y173 :: y174 :: y175 :: y176 :: y177 :: y178 :: y179 :: y180 :: y181 :: y182 :: y183 :: y184 :: y185 :: y186 :: y187 :: y188 :: y189 :: y190 :: y191 :: y192 :: y193 :: y194 :: y195 :: y196 :: y197 :: y198 :: y199 :: y200 :: y201 :: y202 :: y203 :: y204 :: y205 :: y206 :: y207 :: y208 :: y209 :: y210 :: y211 :: y212 :: y213 :: y214 :: y215 :: y216 :: y217 :: y218 :: y219 :: y220 :: y221 :: y222 :: y223 :: y224 :: y225 :: y226 :: y227 :: y228 :: y229 :: y230 :: y231 :: y232 :: y233 :: y234 :: y235 :: y236 :: y237 :: []).toArray, []⟩ W := by
  conv => arg 2; whnf
  by_cases hk : K = 3
  rotate_left
  · have g : (K == 3) = false := by rw [beq_eq_false_iff_ne]; exact hk
    obtain rfl : p3 = false := by rw [HP3.out]; unfold Z.q3; rw [decide_eq_false hk]; rfl
    clear hk
    go_wp2_with fail
    all_goals (first | exact rfl | (apply hnext; exact rfl) | apply hnext)
  subst hk
  rcases b4 with _ | _
  · (skip)
    obtain rfl : p3 = false := by rw [HP3.out]; rfl
    go_wp2_with fail
    all_goals (first | exact rfl | (apply hnext; exact rfl) | apply hnext)
  rcases b1 with _ | _
  · (skip)
    obtain rfl : p3 = false := by rw [HP3.out]; rfl
    go_wp2_with fail
    all_goals (first | exact rfl | (apply hnext; exact rfl) | apply hnext)
  go_wp2_with fail
  refine (HNA.out _).mono ?_
  rintro e W2 ⟨rfl, rfl⟩
  rcases bn with _ | _
  · (skip)
    obtain rfl : p3 = false := by rw [HP3.out]; rfl
    go_wp2_with fail
    all_goals (first | exact rfl | (apply hnext; exact rfl) | apply hnext)
  obtain rfl : p3 = b3 := by rw [HP3.out]; rcases b3 with _ | _ <;> rfl
  go_wp2_with fail
  all_goals (first | exact rfl | (apply hnext; exact rfl) | apply hnext)
set_option maxRecDepth 1000000 in
set_option maxHeartbeats 4000000 in
theorem rs_reg4 {W : World} {g N : Nat} {K : Int} {ba p4 : Bool} {ls : List Int} {A' : Option Addr} {c' : Nat} {Q : Exit → Act → World → Prop} {y0 y2 y5 y7 y8 y9 y10 y11 y12 y13 y14 y15 y16 y17 y18 y19 y20 y21 y22 y23 y24 y25 y26 y27 y28 y29 y30 y31 y32 y33 y34 y35 y36 y37 y38 y39 y40 y41 y42 y43 y44 y45 y46 y47 y48 y49 y50 y51 y52 y53 y54 y55 y56 y57 y58 y59 y60 y61 y62 y63 y64 y65 y66 y67 y68 y69 y70 y71 y72 y73 y74 y75 y76 y77 y78 y79 y80 y81 y82 y83 y84 y85 y86 y87 y88 y89 y90 y91 y92 y93 y94 y95 y96 y97 y98 y99 y100 y101 y102 y103 y104 y105 y106 y107 y108 y109 y110 y111 y112 y113 y114 y115 y116 y117 y118 y119 y120 y121 y122 y123 y124 y125 y126 y127 y128 y129 y130 y131 y132 y133 y134 y135 y136 y137 y138 y139 y140 y141 y142 y143 y144 y145 y146 y147 y148 y149 y150 y151 y152 y153 y154 y155 y156 y157 y158 y159 y160 y161 y162 y163 y164 y165 y166 y167 y168 y169 y170 y171 y172 y173 y174 y175 y176 y177 y178 y179 y180 y181 y182 y183 y184 y185 y186 y187 y188 y189 y190 y191 y192 y193 y194 y195 y196 y197 y198 y199 y200 y201 y202 y203 y204 y205 y206 y207 y208 y209 y210 y211 y212 y213 y214 y215 y216 y217 y218 y219 y220 y221 y222 y223 y224 y225 y226 y227 y228 y229 y230 y231 y232 y233 y234 y235 y236 y237 : Value}
    (c0 : W.cell? ⟨g, 0, none⟩ = some (.int .u8 K)) 
    (HLL : Hid (ls.length = N)) (HSL : Hid (SL 1 dE W (.slice A' ls.length c') ls)) (hN : N ≤ 9223372036854775807) (HP4 : Hid (p4 = Z.q4 K ba ls))
    (hnext : ∀ (u109 u110 u111 u112 u113 u114 u115 u116 u117 u118 u119 u120 u121 u122 u123 u124 u125 u126 u127 u128 u129 u130 u131 u132 u133 u134 u135 : Value) (W' : World), W = W' → Q .normal ⟨(y0 :: .pointer (some ⟨g, 0, none⟩) :: y2 :: .bool ba :: .slice A' ls.length c' :: y5 :: .int .i64 (N : Int) :: y7 :: y8 :: y9 :: y10 :: y11 :: y12 :: y13 :: y14 :: y15 :: y16 :: y17 :: y18 :: y19 :: y20 :: y21 :: y22 :: y23 :: y24 :: y25 :: y26 :: y27 :: y28 :: y29 :: y30 :: y31 :: y32 :: y33 :: y34 :: y35 :: y36 :: y37 :: y38 :: y39 :: y40 :: y41 :: y42 :: y43 :: y44 :: y45 :: y46 :: y47 :: y48 :: y49 :: y50 :: y51 :: y52 :: y53 :: y54 :: y55 :: y56 :: y57 :: y58 :: y59 :: y60 :: y61 :: y62 :: y63 :: y64 :: y65 :: y66 :: y67 :: y68 :: y69 :: y70 :: y71 :: y72 :: y73 :: y74 :: y75 :: y76 :: y77 :: y78 :: y79 :: y80 :: y81 :: y82 :: y83 :: y84 :: y85 :: y86 :: y87 :: y88 :: y89 :: y90 :: y91 :: y92 :: y93 :: y94 :: y95 :: y96 :: y97 :: y98 :: y99 :: y100 :: y101 :: y102 :: y103 :: y104 :: y105 :: y106 :: y107 :: .bool p4 :: u109 :: u110 :: u111 :: u112 :: u113 :: u114 :: u115 :: u116 :: u117 :: u118 :: u119 :: u120 :: u121 :: u122 :: u123 :: u124 :: u125 :: u126 :: u127 :: u128 :: u129 :: u130 :: u131 :: u132 :: u133 :: u134 :: u135 :: y136 :: y137 :: y138 :: y139 :: y140 :: y141 :: y142 :: y143 :: y144 :: y145 :: y146 :: y147 :: y148 :: y149 :: y150 :: y151 :: y152 :: y153 :: y154 :: y155 :: y156 :: y157 :: y158 :: y159 :: y160 :: y161 :: y162 :: y163 :: y164 :: y165 :: y166 :: y167 :: y168 :: y169 :: y170 :: y171 :: y172 :: y173 :: y174 :: y175 :: y176 :: y177 :: y178 :: y179 :: y180 :: y181 :: y182 :: y183 :: y184 :: y185 :: y186 :: y187 :: y188 :: y189 :: y190 :: y191 :: y192 :: y193 :: y194 :: y195 :: y196 :: y197 :: y198 :: y199 :: y200 :: y201 :: y202 :: y203 :: y204 :: y205 :: y206 :: y207 :: y208 :: y209 :: y210 :: y211 :: y212 :: y213 :: y214 :: y215 :: y216 :: y217 :: y218 :: y219 :: y220 :: y221 :: y222 :: y223 :: y224 :: y225 :: y226 :: y227 :: y228 :: y229 :: y230 :: y231 :: y232 :: y233 :: y234 :: y235 :: y236 :: y237 :: []).toArray, []⟩ W') :
    Code.wp Tryz.prog (goTo [1, 1, 1, 1, 1, 0, 2, 1, 4, 1, 4, 1, 4, 0] (Tryz.f71.body.getD .skip)) Q ⟨(y0 :: .pointer (some ⟨g, 0, none⟩) :: y2 :: .bool ba :: .slice A' ls.length c' :: y5 :: .int .i64 (N : Int) :: y7 :: y8 :: y9 :: y10 :: y11 :: y12 :: y13 :: y14 :: y15 :: y16 :: y17 :: y18 :: y19 :: y20 :: y21 :: y22 :: y23 :: y24 :: y25 :: y26 :: y27 :: y28 :: y29 :: y30 :: y31 :: y32 :: y33 :: y34 :: y35 :: y36 :: y37 :: y38 :: y39 :: y40 :: y41 :: y42 :: y43 :: y44 :: y45 :: y46 :: y47 :: y48 :: y49 :: y50 :: y51 :: y52 :: y53 :: y54 :: y55 :: y56 :: y57 :: y58 :: y59 :: y60 :: y61 :: y62 :: y63 :: y64 :: y65 :: y66 :: y67 :: y68 :: y69 :: y70 :: y71 :: y72 :: y73 :: y74 :: y75 :: y76 :: y77 :: y78 :: y79 :: y80 :: y81 :: y82 :: y83 :: y84 :: y85 :: y86 :: y87 :: y88 :: y89 :: y90 :: y91 :: y92 :: y93 :: y94 :: y95 :: y96 :: y97 :: y98 :: y99 :: y100 :: y101 :: y102 :: y103 :: y104 :: y105 :: y106 :: y107 :: y108 :: y109 :: y110 :: y111 :: y112 :: y113 :: y114 :: y115 :: y116 :: y117 :: y118 :: y119 :: y120 :: y121 :: y122 :: y123 :: y124 :: y125 :: y126 :: y127 :: y128 :: y129 :: y130 :: y131 :: y132 :: y133 :: y134 :: y135 :: y136 :: y137 :: y138 :: y139 :: y140 :: y141 :: y142 :: y143 :: y144 :: y145 :: y146 :: y147 :: y148 :: y149 :: y150 :: y151 :: y152 :: y153 :: y154 :: y155 :: y156 :: y157 :: y158 :: y159 :: y160 :: y161 :: y162 :: y163 :: y164 :: y165 :: y166 :: y167 :: y168 :: y169 :: y170 :: y171 :: y172 :: y173 :: y174 :: y175 :: y176 :: y177 :: y178 :: y179 :: y180 :: y181 :: y182 :: y183 :: y184 :: y185 :: y186 :: y187 :: y188 :: y189 :: y190 :: y191 :: y192 :: y193 :: y194 :: y195 :: y196 :: y197 :: y198 :: y199 :: y200 :: y201 :: y202 :: y203 :: y204 :: y205 :: y206 :: y207 :: y208 :: y209 :: y210 :: y211 :: y212 :: y213 :: y214 :: y215 :: y216 :: y217 :: y218 :: y219 :: y220 :: y221 :: y222 :: y223 :: y224 :: y225 :: y226 :: y227 :: y228 :: y229 :: y230 :: y231 :: y232 :: y233 :: y234 :: y235 :: y236 :: y237 :: []).toArray, []⟩ W := by
  conv => arg 2; whnf
  by_cases hk : 4 ≤ K
  rotate_left
  · obtain rfl : p4 = false := by rw [HP4.out]; unfold Z.q4; rw [decide_eq_false hk]; rfl
    go_wp2_with fail
    all_goals (first | exact rfl | (apply hnext; exact rfl) | apply hnext)
  by_cases hk8 : K ≤ 8
  rotate_left
  · obtain rfl : p4 = false := by rw [HP4.out]; unfold Z.q4; rw [decide_eq_true hk, decide_eq_false hk8]; rfl
    go_wp2_with fail
    all_goals (first | exact rfl | (apply hnext; exact rfl) | apply hnext)
  have HD4 := Lib.hid (decide_eq_true hk)
  have HD8 := Lib.hid (decide_eq_true hk8)
  rcases ba with _ | _
  · (skip)
    obtain rfl : p4 = false := by rw [HP4.out]; unfold Z.q4; simp
    go_wp2_with fail
    all_goals (first | exact rfl | (apply hnext; exact rfl) | apply hnext)
  by_cases hm : ls.length = 2
  rotate_left
  · have hm' : ((N : Int) == 2) = false := by rw [beq_eq_false_iff_ne]; have := HLL.out; omega
    have hd : decide (ls = [1, 1]) = false := by rw [decide_eq_false_iff_not]; exact fun e => hm (by rw [e]; rfl)
    obtain rfl : p4 = false := by rw [HP4.out]; unfold Z.q4; rw [hd]; simp
    clear hm hd
    go_wp2_with fail
    all_goals (first | exact rfl | (apply hnext; exact rfl) | apply hnext)
  obtain ⟨x0, x1, rfl⟩ := rs_two hm
  obtain rfl : N = 2 := HLL.out.symm
  clear hm
  obtain ⟨b', o', rfl, hbl', q0⟩ := SL.cell1 (k := 0) HSL.out rfl rfl
  rw [Nat.add_zero] at q0
  obtain ⟨b1', o1', he1, _, q1⟩ := SL.cell1 (k := 1) HSL.out rfl rfl
  obtain ⟨rfl, rfl⟩ : b' = b1' ∧ o' = o1' := by simpa using he1
  clear he1
  by_cases e0 : x0 = 1
  rotate_left
  · have e' : (x0 == 1) = false := by rw [beq_eq_false_iff_ne]; exact e0
    have hd : decide ([x0, x1] = [1, 1]) = false := by rw [decide_eq_false_iff_not]; intro e; simp at e; omega
    obtain rfl : p4 = false := by rw [HP4.out]; unfold Z.q4; rw [hd]; simp
    clear e0 hd
    go_wp2_with fail
    all_goals (first | exact rfl | (apply hnext; exact rfl) | apply hnext)
  subst e0
  by_cases e1 : x1 = 1
  rotate_left
  · have e' : (x1 == 1) = false := by rw [beq_eq_false_iff_ne]; exact e1
    have hd : decide ([1, x1] = [1, 1]) = false := by rw [decide_eq_false_iff_not]; intro e; simp at e; omega
    obtain rfl : p4 = false := by rw [HP4.out]; unfold Z.q4; rw [hd]; simp
    clear e1 hd
    go_wp2_with fail
    all_goals (first | exact rfl | (apply hnext; exact rfl) | apply hnext)
  subst e1
  obtain rfl : p4 = true := by rw [HP4.out]; unfold Z.q4; rw [HD4.out, HD8.out]; rfl
  go_wp2_with fail
  all_goals (first | exact rfl | (apply hnext; exact rfl) | apply hnext)
set_option maxRecDepth 1000000 in
set_option maxHeartbeats 4000000 in
theorem rs_reg5 {W : World} {g N : Nat} {K : Int} {ba p5 : Bool} {ls : List Int} {A' : Option Addr} {c' : Nat} {Q : Exit → Act → World → Prop} {y0 y2 y5 y7 y8 y9 y10 y11 y12 y13 y14 y15 y16 y17 y18 y19 y20 y21 y22 y23 y24 y25 y26 y27 y28 y29 y30 y31 y32 y33 y34 y35 y36 y37 y38 y39 y40 y41 y42 y43 y44 y45 y46 y47 y48 y49 y50 y51 y52 y53 y54 y55 y56 y57 y58 y59 y60 y61 y62 y63 y64 y65 y66 y67 y68 y69 y70 y71 y72 y73 y74 y75 y76 y77 y78 y79 y80 y81 y82 y83 y84 y85 y86 y87 y88 y89 y90 y91 y92 y93 y94 y95 y96 y97 y98 y99 y100 y101 y102 y103 y104 y105 y106 y107 y108 y109 y110 y111 y112 y113 y114 y115 y116 y117 y118 y119 y120 y121 y122 y123 y124 y125 y126 y127 y128 y129 y130 y131 y132 y133 y134 y135 y136 y137 y138 y139 y140 y141 y142 y143 y144 y145 y146 y147 y148 y149 y150 y151 y152 y153 y154 y155 y156 y157 y158 y159 y160 y161 y162 y163 y164 y165 y166 y167 y168 y169 y170 y171 y172 y173 y174 y175 y176 y177 y178 y179 y180 y181 y182 y183 y184 y185 y186 y187 y188 y189 y190 y191 y192 y193 y194 y195 y196 y197 y198 y199 y200 y201 y202 y203 y204 y205 y206 y207 y208 y209 y210 y211 y212 y213 y214 y215 y216 y217 y218 y219 y220 y221 y222 y223 y224 y225 y226 y227 y228 y229 y230 y231 y232 y233 y234 y235 y236 y237 : Value}
    (c0 : W.cell? ⟨g, 0, none⟩ = some (.int .u8 K)) 
    (HLL : Hid (ls.length = N)) (HSL : Hid (SL 1 dE W (.slice A' ls.length c') ls)) (hN : N ≤ 9223372036854775807) (HP5 : Hid (p5 = Z.q5 K ba ls))
    (hnext : ∀ (u137 u138 u139 u140 u141 u142 u143 u144 u145 u146 u147 u148 u149 u150 u151 u152 u153 u154 u155 u156 u157 u158 u159 u160 u161 u162 u163 u164 : Value) (W' : World), W = W' → Q .normal ⟨(y0 :: .pointer (some ⟨g, 0, none⟩) :: y2 :: .bool ba :: .slice A' ls.length c' :: y5 :: .int .i64 (N : Int) :: y7 :: y8 :: y9 :: y10 :: y11 :: y12 :: y13 :: y14 :: y15 :: y16 :: y17 :: y18 :: y19 :: y20 :: y21 :: y22 :: y23 :: y24 :: y25 :: y26 :: y27 :: y28 :: y29 :: y30 :: y31 :: y32 :: y33 :: y34 :: y35 :: y36 :: y37 :: y38 :: y39 :: y40 :: y41 :: y42 :: y43 :: y44 :: y45 :: y46 :: y47 :: y48 :: y49 :: y50 :: y51 :: y52 :: y53 :: y54 :: y55 :: y56 :: y57 :: y58 :: y59 :: y60 :: y61 :: y62 :: y63 :: y64 :: y65 :: y66 :: y67 :: y68 :: y69 :: y70 :: y71 :: y72 :: y73 :: y74 :: y75 :: y76 :: y77 :: y78 :: y79 :: y80 :: y81 :: y82 :: y83 :: y84 :: y85 :: y86 :: y87 :: y88 :: y89 :: y90 :: y91 :: y92 :: y93 :: y94 :: y95 :: y96 :: y97 :: y98 :: y99 :: y100 :: y101 :: y102 :: y103 :: y104 :: y105 :: y106 :: y107 :: y108 :: y109 :: y110 :: y111 :: y112 :: y113 :: y114 :: y115 :: y116 :: y117 :: y118 :: y119 :: y120 :: y121 :: y122 :: y123 :: y124 :: y125 :: y126 :: y127 :: y128 :: y129 :: y130 :: y131 :: y132 :: y133 :: y134 :: y135 :: .bool p5 :: u137 :: u138 :: u139 :: u140 :: u141 :: u142 :: u143 :: u144 :: u145 :: u146 :: u147 :: u148 :: u149 :: u150 :: u151 :: u152 :: u153 :: u154 :: u155 :: u156 :: u157 :: u158 :: u159 :: u160 :: u161 :: u162 :: u163 :: u164 :: y165 :: y166 :: y167 :: y168 :: y169 :: y170 :: y171 :: y172 :: y173 :: y174 :: y175 :: y176 :: y177 :: y178 :: y179 :: y180 :: y181 :: y182 :: y183 :: y184 :: y185 :: y186 :: y187 :: y188 :: y189 :: y190 :: y191 :: y192 :: y193 :: y194 :: y195 :: y196 :: y197 :: y198 :: y199 :: y200 :: y201 :: y202 :: y203 :: y204 :: y205 :: y206 :: y207 :: y208 :: y209 :: y210 :: y211 :: y212 :: y213 :: y214 :: y215 :: y216 :: y217 :: y218 :: y219 :: y220 :: y221 :: y222 :: y223 :: y224 :: y225 :: y226 :: y227 :: y228 :: y229 :: y230 :: y231 :: y232 :: y233 :: y234 :: y235 :: y236 :: y237 :: []).toArray, []⟩ W') :
    Code.wp Tryz.prog (goTo [1, 1, 1, 1, 1, 0, 2, 1, 4, 1, 4, 1, 4, 1, 4, 0] (Tryz.f71.body.getD .skip)) Q ⟨(y0 :: .pointer (some ⟨g, 0, none⟩) :: y2 :: .bool ba :: .slice A' ls.length c' :: y5 :: .int .i64 (N : Int) :: y7 :: y8 :: y9 :: y10 :: y11 :: y12 :: y13 :: y14 :: y15 :: y16 :: y17 :: y18 :: y19 :: y20 :: y21 :: y22 :: y23 :: y24 :: y25 :: y26 :: y27 :: y28 :: y29 :: y30 :: y31 :: y32 :: y33 :: y34 :: y35 :: y36 :: y37 :: y38 :: y39 :: y40 :: y41 :: y42 :: y43 :: y44 :: y45 :: y46 :: y47 :: y48 :: y49 :: y50 :: y51 :: y52 :: y53 :: y54 :: y55 :: y56 :: y57 :: y58 :: y59 :: y60 :: y61 :: y62 :: y63 :: y64 :: y65 :: y66 :: y67 :: y68 :: y69 :: y70 :: y71 :: y72 :: y73 :: y74 :: y75 :: y76 :: y77 :: y78 :: y79 :: y80 :: y81 :: y82 :: y83 :: y84 :: y85 :: y86 :: y87 :: y88 :: y89 :: y90 :: y91 :: y92 :: y93 :: y94 :: y95 :: y96 :: y97 :: y98 :: y99 :: y100 :: y101 :: y102 :: y103 :: y104 :: y105 :: y106 :: y107 :: y108 :: y109 :: y110 :: y111 :: y112 :: y113 :: y114 :: y115 :: y116 :: y117 :: y118 :: y119 :: y120 :: y121 :: y122 :: y123 :: y124 :: y125 :: y126 :: y127 :: y128 :: y129 :: y130 :: y131 :: y132 :: y133 :: y134 :: y135 :: y136 :: y137 :: y138 :: y139 :: y140 :: y141 :: y142 :: y143 :: y144 :: y145 :: y146 :: y147 :: y148 :: y149 :: y150 :: y151 :: y152 :: y153 :: y154 :: y155 :: y156 :: y157 :: y158 :: y159 :: y160 :: y161 :: y162 :: y163 :: y164 :: y165 :: y166 :: y167 :: y168 :: y169 :: y170 :: y171 :: y172 :: y173 :: y174 :: y175 :: y176 :: y177 :: y178 :: y179 :: y180 :: y181 :: y182 :: y183 :: y184 :: y185 :: y186 :: y187 :: y188 :: y189 :: y190 :: y191 :: y192 :: y193 :: y194 :: y195 :: y196 :: y197 :: y198 :: y199 :: y200 :: y201 :: y202 :: y203 :: y204 :: y205 :: y206 :: y207 :: y208 :: y209 :: y210 :: y211 :: y212 :: y213 :: y214 :: y215 :: y216 :: y217 :: y218 :: y219 :: y220 :: y221 :: y222 :: y223 :: y224 :: y225 :: y226 :: y227 :: y228 :: y229 :: y230 :: y231 :: y232 :: y233 :: y234 :: y235 :: y236 :: y237 :: []).toArray, []⟩ W := by
  conv => arg 2; whnf
  by_cases hk : K = 9
  rotate_left
  · have g : (K == 9) = false := by rw [beq_eq_false_iff_ne]; exact hk
    obtain rfl : p5 = false := by rw [HP5.out]; unfold Z.q5; rw [decide_eq_false hk]; rfl
    clear hk
    go_wp2_with fail
    all_goals (first | exact rfl | (apply hnext; exact rfl) | apply hnext)
  subst hk
  rcases ba with _ | _
  · (skip)
    obtain rfl : p5 = false := by rw [HP5.out]; unfold Z.q5; simp
    go_wp2_with fail
    all_goals (first | exact rfl | (apply hnext; exact rfl) | apply hnext)
  by_cases hm : ls.length = 3
  rotate_left
  · have hm' : ((N : Int) == 3) = false := by rw [beq_eq_false_iff_ne]; have := HLL.out; omega
    have hd : decide (ls = [2, 1, 1]) = false := by rw [decide_eq_false_iff_not]; exact fun e => hm (by rw [e]; rfl)
    obtain rfl : p5 = false := by rw [HP5.out]; unfold Z.q5; rw [hd]; simp
    clear hm hd
    go_wp2_with fail
    all_goals (first | exact rfl | (apply hnext; exact rfl) | apply hnext)
  obtain ⟨x0, x1, x2, rfl⟩ := rs_three hm
  obtain rfl : N = 3 := HLL.out.symm
  clear hm
  obtain ⟨b', o', rfl, hbl', q0⟩ := SL.cell1 (k := 0) HSL.out rfl rfl
  rw [Nat.add_zero] at q0
  obtain ⟨b1', o1', he1, _, q1⟩ := SL.cell1 (k := 1) HSL.out rfl rfl
  obtain ⟨rfl, rfl⟩ : b' = b1' ∧ o' = o1' := by simpa using he1
  clear he1
  obtain ⟨b2', o2', he2, _, q2⟩ := SL.cell1 (k := 2) HSL.out rfl rfl
  obtain ⟨rfl, rfl⟩ : b' = b2' ∧ o' = o2' := by simpa using he2
  clear he2
  by_cases e0 : x0 = 2
  rotate_left
  · have e' : (x0 == 2) = false := by rw [beq_eq_false_iff_ne]; exact e0
    have hd : decide ([x0, x1, x2] = [2, 1, 1]) = false := by rw [decide_eq_false_iff_not]; intro e; simp at e; omega
    obtain rfl : p5 = false := by rw [HP5.out]; unfold Z.q5; rw [hd]; simp
    clear e0 hd
    go_wp2_with fail
    all_goals (first | exact rfl | (apply hnext; exact rfl) | apply hnext)
  subst e0
  by_cases e1 : x1 = 1
  rotate_left
  · have e' : (x1 == 1) = false := by rw [beq_eq_false_iff_ne]; exact e1
    have hd : decide ([2, x1, x2] = [2, 1, 1]) = false := by rw [decide_eq_false_iff_not]; intro e; simp at e; omega
    obtain rfl : p5 = false := by rw [HP5.out]; unfold Z.q5; rw [hd]; simp
    clear e1 hd
    go_wp2_with fail
    all_goals (first | exact rfl | (apply hnext; exact rfl) | apply hnext)
  subst e1
  by_cases e2 : x2 = 1
  rotate_left
  · have e' : (x2 == 1) = false := by rw [beq_eq_false_iff_ne]; exact e2
    have hd : decide ([2, 1, x2] = [2, 1, 1]) = false := by rw [decide_eq_false_iff_not]; intro e; simp at e; omega
    obtain rfl : p5 = false := by rw [HP5.out]; unfold Z.q5; rw [hd]; simp
    clear e2 hd
    go_wp2_with fail
    all_goals (first | exact rfl | (apply hnext; exact rfl) | apply hnext)
  subst e2
  obtain rfl : p5 = true := by rw [HP5.out]; rfl
  go_wp2_with fail
  all_goals (first | exact rfl | (apply hnext; exact rfl) | apply hnext)
set_option maxRecDepth 1000000 in
set_option maxHeartbeats 4000000 in
theorem rs_reg6 {W : World} {g N : Nat} {K : Int} {ba p6 : Bool} {ls : List Int} {A' : Option Addr} {c' : Nat} {Q : Exit → Act → World → Prop} {y0 y2 y5 y7 y8 y9 y10 y11 y12 y13 y14 y15 y16 y17 y18 y19 y20 y21 y22 y23 y24 y25 y26 y27 y28 y29 y30 y31 y32 y33 y34 y35 y36 y37 y38 y39 y40 y41 y42 y43 y44 y45 y46 y47 y48 y49 y50 y51 y52 y53 y54 y55 y56 y57 y58 y59 y60 y61 y62 y63 y64 y65 y66 y67 y68 y69 y70 y71 y72 y73 y74 y75 y76 y77 y78 y79 y80 y81 y82 y83 y84 y85 y86 y87 y88 y89 y90 y91 y92 y93 y94 y95 y96 y97 y98 y99 y100 y101 y102 y103 y104 y105 y106 y107 y108 y109 y110 y111 y112 y113 y114 y115 y116 y117 y118 y119 y120 y121 y122 y123 y124 y125 y126 y127 y128 y129 y130 y131 y132 y133 y134 y135 y136 y137 y138 y139 y140 y141 y142 y143 y144 y145 y146 y147 y148 y149 y150 y151 y152 y153 y154 y155 y156 y157 y158 y159 y160 y161 y162 y163 y164 y165 y166 y167 y168 y169 y170 y171 y172 y173 y174 y175 y176 y177 y178 y179 y180 y181 y182 y183 y184 y185 y186 y187 y188 y189 y190 y191 y192 y193 y194 y195 y196 y197 y198 y199 y200 y201 y202 y203 y204 y205 y206 y207 y208 y209 y210 y211 y212 y213 y214 y215 y216 y217 y218 y219 y220 y221 y222 y223 y224 y225 y226 y227 y228 y229 y230 y231 y232 y233 y234 y235 y236 y237 : Value}
    (c0 : W.cell? ⟨g, 0, none⟩ = some (.int .u8 K)) 
    (HLL : Hid (ls.length = N)) (HSL : Hid (SL 1 dE W (.slice A' ls.length c') ls)) (hN : N ≤ 9223372036854775807) (HP6 : Hid (p6 = Z.q6 K ba ls))
    (hnext : ∀ (u166 u167 u168 u169 u170 u171 u172 u173 u174 u175 u176 u177 u178 u179 u180 u181 u182 u183 u184 u185 u186 u187 u188 u189 u190 u191 u192 : Value) (W' : World), W = W' → Q .normal ⟨(y0 :: .pointer (some ⟨g, 0, none⟩) :: y2 :: .bool ba :: .slice A' ls.length c' :: y5 :: .int .i64 (N : Int) :: y7 :: y8 :: y9 :: y10 :: y11 :: y12 :: y13 :: y14 :: y15 :: y16 :: y17 :: y18 :: y19 :: y20 :: y21 :: y22 :: y23 :: y24 :: y25 :: y26 :: y27 :: y28 :: y29 :: y30 :: y31 :: y32 :: y33 :: y34 :: y35 :: y36 :: y37 :: y38 :: y39 :: y40 :: y41 :: y42 :: y43 :: y44 :: y45 :: y46 :: y47 :: y48 :: y49 :: y50 :: y51 :: y52 :: y53 :: y54 :: y55 :: y56 :: y57 :: y58 :: y59 :: y60 :: y61 :: y62 :: y63 :: y64 :: y65 :: y66 :: y67 :: y68 :: y69 :: y70 :: y71 :: y72 :: y73 :: y74 :: y75 :: y76 :: y77 :: y78 :: y79 :: y80 :: y81 :: y82 :: y83 :: y84 :: y85 :: y86 :: y87 :: y88 :: y89 :: y90 :: y91 :: y92 :: y93 :: y94 :: y95 :: y96 :: y97 :: y98 :: y99 :: y100 :: y101 :: y102 :: y103 :: y104 :: y105 :: y106 :: y107 :: y108 :: y109 :: y110 :: y111 :: y112 :: y113 :: y114 :: y115 :: y116 :: y117 :: y118 :: y119 :: y120 :: y121 :: y122 :: y123 :: y124 :: y125 :: y126 :: y127 :: y128 :: y129 :: y130 :: y131 :: y132 :: y133 :: y134 :: y135 :: y136 :: y137 :: y138 :: y139 :: y140 :: y141 :: y142 :: y143 :: y144 :: y145 :: y146 :: y147 :: y148 :: y149 :: y150 :: y151 :: y152 :: y153 :: y154 :: y155 :: y156 :: y157 :: y158 :: y159 :: y160 :: y161 :: y162 :: y163 :: y164 :: .bool p6 :: u166 :: u167 :: u168 :: u169 :: u170 :: u171 :: u172 :: u173 :: u174 :: u175 :: u176 :: u177 :: u178 :: u179 :: u180 :: u181 :: u182 :: u183 :: u184 :: u185 :: u186 :: u187 :: u188 :: u189 :: u190 :: u191 :: u192 :: y193 :: y194 :: y195 :: y196 :: y197 :: y198 :: y199 :: y200 :: y201 :: y202 :: y203 :: y204 :: y205 :: y206 :: y207 :: y208 :: y209 :: y210 :: y211 :: y212 :: y213 :: y214 :: y215 :: y216 :: y217 :: y218 :: y219 :: y220 :: y221 :: y222 :: y223 :: y224 :: y225 :: y226 :: y227 :: y228 :: y229 :: y230 :: y231 :: y232 :: y233 :: y234 :: y235 :: y236 :: y237 :: []).toArray, []⟩ W') :
    Code.wp Tryz.prog (goTo [1, 1, 1, 1, 1, 0, 2, 1, 4, 1, 4, 1, 4, 1, 4, 1, 4, 0] (Tryz.f71.body.getD .skip)) Q ⟨(y0 :: .pointer (some ⟨g, 0, none⟩) :: y2 :: .bool ba :: .slice A' ls.length c' :: y5 :: .int .i64 (N : Int) :: y7 :: y8 :: y9 :: y10 :: y11 :: y12 :: y13 :: y14 :: y15 :: y16 :: y17 :: y18 :: y19 :: y20 :: y21 :: y22 :: y23 :: y24 :: y25 :: y26 :: y27 :: y28 :: y29 :: y30 :: y31 :: y32 :: y33 :: y34 :: y35 :: y36 :: y37 :: y38 :: y39 :: y40 :: y41 :: y42 :: y43 :: y44 :: y45 :: y46 :: y47 :: y48 :: y49 :: y50 :: y51 :: y52 :: y53 :: y54 :: y55 :: y56 :: y57 :: y58 :: y59 :: y60 :: y61 :: y62 :: y63 :: y64 :: y65 :: y66 :: y67 :: y68 :: y69 :: y70 :: y71 :: y72 :: y73 :: y74 :: y75 :: y76 :: y77 :: y78 :: y79 :: y80 :: y81 :: y82 :: y83 :: y84 :: y85 :: y86 :: y87 :: y88 :: y89 :: y90 :: y91 :: y92 :: y93 :: y94 :: y95 :: y96 :: y97 :: y98 :: y99 :: y100 :: y101 :: y102 :: y103 :: y104 :: y105 :: y106 :: y107 :: y108 :: y109 :: y110 :: y111 :: y112 :: y113 :: y114 :: y115 :: y116 :: y117 :: y118 :: y119 :: y120 :: y121 :: y122 :: y123 :: y124 :: y125 :: y126 :: y127 :: y128 :: y129 :: y130 :: y131 :: y132 :: y133 :: y134 :: y135 :: y136 :: y137 :: y138 :: y139 :: y140 :: y141 :: y142 :: y143 :: y144 :: y145 :: y146 :: y147 :: y148 :: y149 :: y150 :: y151 :: y152 :: y153 :: y154 :: y155 :: y156 :: y157 :: y158 :: y159 :: y160 :: y161 :: y162 :: y163 :: y164 :: y165 :: y166 :: y167 :: y168 :: y169 :: y170 :: y171 :: y172 :: y173 :: y174 :: y175 :: y176 :: y177 :: y178 :: y179 :: y180 :: y181 :: y182 :: y183 :: y184 :: y185 :: y186 :: y187 :: y188 :: y189 :: y190 :: y191 :: y192 :: y193 :: y194 :: y195 :: y196 :: y197 :: y198 :: y199 :: y200 :: y201 :: y202 :: y203 :: y204 :: y205 :: y206 :: y207 :: y208 :: y209 :: y210 :: y211 :: y212 :: y213 :: y214 :: y215 :: y216 :: y217 :: y218 :: y219 :: y220 :: y221 :: y222 :: y223 :: y224 :: y225 :: y226 :: y227 :: y228 :: y229 :: y230 :: y231 :: y232 :: y233 :: y234 :: y235 :: y236 :: y237 :: []).toArray, []⟩ W := by
  conv => arg 2; whnf
  by_cases hk : K = 11 ∨ K = 12
  rotate_left
  · have f1 : ¬ K = 11 := fun e => hk (.inl e)
    have f2 : ¬ K = 12 := fun e => hk (.inr e)
    have g : (K == 11) = false := by rw [beq_eq_false_iff_ne]; exact f1
    have g' : (K == 12) = false := by rw [beq_eq_false_iff_ne]; exact f2
    obtain rfl : p6 = false := by rw [HP6.out]; unfold Z.q6; rw [decide_eq_false f1, decide_eq_false f2]; rfl
    clear hk
    go_wp2_with fail
    all_goals (first | exact rfl | (apply hnext; exact rfl) | apply hnext)
  rcases hk with rfl | rfl
  · rcases ba with _ | _
    · (skip)
      obtain rfl : p6 = false := by rw [HP6.out]; unfold Z.q6; simp
      go_wp2_with fail
      all_goals (first | exact rfl | (apply hnext; exact rfl) | apply hnext)
    by_cases hm : ls.length = 2
    rotate_left
    · have hm' : ((N : Int) == 2) = false := by rw [beq_eq_false_iff_ne]; have := HLL.out; omega
      have hd : decide (ls = [1, 1]) = false := by rw [decide_eq_false_iff_not]; exact fun e => hm (by rw [e]; rfl)
      obtain rfl : p6 = false := by rw [HP6.out]; unfold Z.q6; rw [hd]; simp
      clear hm hd
      go_wp2_with fail
      all_goals (first | exact rfl | (apply hnext; exact rfl) | apply hnext)
    obtain ⟨x0, x1, rfl⟩ := rs_two hm
    obtain rfl : N = 2 := HLL.out.symm
    clear hm
    obtain ⟨b', o', rfl, hbl', q0⟩ := SL.cell1 (k := 0) HSL.out rfl rfl
    rw [Nat.add_zero] at q0
    obtain ⟨b1', o1', he1, _, q1⟩ := SL.cell1 (k := 1) HSL.out rfl rfl
    obtain ⟨rfl, rfl⟩ : b' = b1' ∧ o' = o1' := by simpa using he1
    clear he1
    by_cases e0 : x0 = 1
    rotate_left
    · have e' : (x0 == 1) = false := by rw [beq_eq_false_iff_ne]; exact e0
      have hd : decide ([x0, x1] = [1, 1]) = false := by rw [decide_eq_false_iff_not]; intro e; simp at e; omega
      obtain rfl : p6 = false := by rw [HP6.out]; unfold Z.q6; rw [hd]; simp
      clear e0 hd
      go_wp2_with fail
      all_goals (first | exact rfl | (apply hnext; exact rfl) | apply hnext)
    subst e0
    by_cases e1 : x1 = 1
    rotate_left
    · have e' : (x1 == 1) = false := by rw [beq_eq_false_iff_ne]; exact e1
      have hd : decide ([1, x1] = [1, 1]) = false := by rw [decide_eq_false_iff_not]; intro e; simp at e; omega
      obtain rfl : p6 = false := by rw [HP6.out]; unfold Z.q6; rw [hd]; simp
      clear e1 hd
      go_wp2_with fail
      all_goals (first | exact rfl | (apply hnext; exact rfl) | apply hnext)
    subst e1
    obtain rfl : p6 = true := by rw [HP6.out]; rfl
    go_wp2_with fail
    all_goals (first | exact rfl | (apply hnext; exact rfl) | apply hnext)
  · rcases ba with _ | _
    · (skip)
      obtain rfl : p6 = false := by rw [HP6.out]; unfold Z.q6; simp
      go_wp2_with fail
      all_goals (first | exact rfl | (apply hnext; exact rfl) | apply hnext)
    by_cases hm : ls.length = 2
    rotate_left
    · have hm' : ((N : Int) == 2) = false := by rw [beq_eq_false_iff_ne]; have := HLL.out; omega
      have hd : decide (ls = [1, 1]) = false := by rw [decide_eq_false_iff_not]; exact fun e => hm (by rw [e]; rfl)
      obtain rfl : p6 = false := by rw [HP6.out]; unfold Z.q6; rw [hd]; simp
      clear hm hd
      go_wp2_with fail
      all_goals (first | exact rfl | (apply hnext; exact rfl) | apply hnext)
    obtain ⟨x0, x1, rfl⟩ := rs_two hm
    obtain rfl : N = 2 := HLL.out.symm
    clear hm
    obtain ⟨b', o', rfl, hbl', q0⟩ := SL.cell1 (k := 0) HSL.out rfl rfl
    rw [Nat.add_zero] at q0
    obtain ⟨b1', o1', he1, _, q1⟩ := SL.cell1 (k := 1) HSL.out rfl rfl
    obtain ⟨rfl, rfl⟩ : b' = b1' ∧ o' = o1' := by simpa using he1
    clear he1
    by_cases e0 : x0 = 1
    rotate_left
    · have e' : (x0 == 1) = false := by rw [beq_eq_false_iff_ne]; exact e0
      have hd : decide ([x0, x1] = [1, 1]) = false := by rw [decide_eq_false_iff_not]; intro e; simp at e; omega
      obtain rfl : p6 = false := by rw [HP6.out]; unfold Z.q6; rw [hd]; simp
      clear e0 hd
      go_wp2_with fail
      all_goals (first | exact rfl | (apply hnext; exact rfl) | apply hnext)
    subst e0
    by_cases e1 : x1 = 1
    rotate_left
    · have e' : (x1 == 1) = false := by rw [beq_eq_false_iff_ne]; exact e1
      have hd : decide ([1, x1] = [1, 1]) = false := by rw [decide_eq_false_iff_not]; intro e; simp at e; omega
      obtain rfl : p6 = false := by rw [HP6.out]; unfold Z.q6; rw [hd]; simp
      clear e1 hd
      go_wp2_with fail
      all_goals (first | exact rfl | (apply hnext; exact rfl) | apply hnext)
    subst e1
    obtain rfl : p6 = true := by rw [HP6.out]; rfl
    go_wp2_with fail
    all_goals (first | exact rfl | (apply hnext; exact rfl) | apply hnext)
set_option maxRecDepth 1000000 in
set_option maxHeartbeats 4000000 in
theorem rs_reg7 {W : World} {g N : Nat} {K : Int} {ba p7 : Bool} {ls : List Int} {A' : Option Addr} {c' : Nat} {Q : Exit → Act → World → Prop} {y0 y2 y5 y7 y8 y9 y10 y11 y12 y13 y14 y15 y16 y17 y18 y19 y20 y21 y22 y23 y24 y25 y26 y27 y28 y29 y30 y31 y32 y33 y34 y35 y36 y37 y38 y39 y40 y41 y42 y43 y44 y45 y46 y47 y48 y49 y50 y51 y52 y53 y54 y55 y56 y57 y58 y59 y60 y61 y62 y63 y64 y65 y66 y67 y68 y69 y70 y71 y72 y73 y74 y75 y76 y77 y78 y79 y80 y81 y82 y83 y84 y85 y86 y87 y88 y89 y90 y91 y92 y93 y94 y95 y96 y97 y98 y99 y100 y101 y102 y103 y104 y105 y106 y107 y108 y109 y110 y111 y112 y113 y114 y115 y116 y117 y118 y119 y120 y121 y122 y123 y124 y125 y126 y127 y128 y129 y130 y131 y132 y133 y134 y135 y136 y137 y138 y139 y140 y141 y142 y143 y144 y145 y146 y147 y148 y149 y150 y151 y152 y153 y154 y155 y156 y157 y158 y159 y160 y161 y162 y163 y164 y165 y166 y167 y168 y169 y170 y171 y172 y173 y174 y175 y176 y177 y178 y179 y180 y181 y182 y183 y184 y185 y186 y187 y188 y189 y190 y191 y192 y193 y194 y195 y196 y197 y198 y199 y200 y201 y202 y203 y204 y205 y206 y207 y208 y209 y210 y211 y212 y213 y214 y215 y216 y217 y218 y219 y220 y221 y222 y223 y224 y225 y226 y227 y228 y229 y230 y231 y232 y233 y234 y235 y236 y237 : Value}
    (c0 : W.cell? ⟨g, 0, none⟩ = some (.int .u8 K)) 
    (HLL : Hid (ls.length = N)) (HSL : Hid (SL 1 dE W (.slice A' ls.length c') ls)) (hN : N ≤ 9223372036854775807) (HP7 : Hid (p7 = Z.q7 K ba ls))
    (hnext : ∀ (u194 u195 u196 u197 u198 u199 u200 u201 u202 u203 u204 u205 u206 u207 u208 u209 u210 u211 u212 u213 u214 u215 u216 u217 u218 u219 u220 : Value) (W' : World), W = W' → Q .normal ⟨(y0 :: .pointer (some ⟨g, 0, none⟩) :: y2 :: .bool ba :: .slice A' ls.length c' :: y5 :: .int .i64 (N : Int) :: y7 :: y8 :: y9 :: y10 :: y11 :: y12 :: y13 :: y14 :: y15 :: y16 :: y17 :: y18 :: y19 :: y20 :: y21 :: y22 :: y23 :: y24 :: y25 :: y26 :: y27 :: y28 :: y29 :: y30 :: y31 :: y32 :: y33 :: y34 :: y35 :: y36 :: y37 :: y38 :: y39 :: y40 :: y41 :: y42 :: y43 :: y44 :: y45 :: y46 :: y47 :: y48 :: y49 :: y50 :: y51 :: y52 :: y53 :: y54 :: y55 :: y56 :: y57 :: y58 :: y59 :: y60 :: y61 :: y62 :: y63 :: y64 :: y65 :: y66 :: y67 :: y68 :: y69 :: y70 :: y71 :: y72 :: y73 :: y74 :: y75 :: y76 :: y77 :: y78 :: y79 :: y80 :: y81 :: y82 :: y83 :: y84 :: y85 :: y86 :: y87 :: y88 :: y89 :: y90 :: y91 :: y92 :: y93 :: y94 :: y95 :: y96 :: y97 :: y98 :: y99 :: y100 :: y101 :: y102 :: y103 :: y104 :: y105 :: y106 :: y107 :: y108 :: y109 :: y110 :: y111 :: y112 :: y113 :: y114 :: y115 :: y116 :: y117 :: y118 :: y119 :: y120 :: y121 :: y122 :: y123 :: y124 :: y125 :: y126 :: y127 :: y128 :: y129 :: y130 :: y131 :: y132 :: y133 :: y134 :: y135 :: y136 :: y137 :: y138 :: y139 :: y140 :: y141 :: y142 :: y143 :: y144 :: y145 :: y146 :: y147 :: y148 :: y149 :: y150 :: y151 :: y152 :: y153 :: y154 :: y155 :: y156 :: y157 :: y158 :: y159 :: y160 :: y161 :: y162 :: y163 :: y164 :: y165 :: y166 :: y167 :: y168 :: y169 :: y170 :: y171 :: y172 :: y173 :: y174 :: y175 :: y176 :: y177 :: y178 :: y179 :: y180 :: y181 :: y182 :: y183 :: y184 :: y185 :: y186 :: y187 :: y188 :: y189 :: y190 :: y191 :: y192 :: .bool p7 :: u194 :: u195 :: u196 :: u197 :: u198 :: u199 :: u200 :: u201 :: u202 :: u203 :: u204 :: u205 :: u206 :: u207 :: u208 :: u209 :: u210 :: u211 :: u212 :: u213 :: u214 :: u215 :: u216 :: u217 :: u218 :: u219 :: u220 :: y221 :: y222 :: y223 :: y224 :: y225 :: y226 :: y227 :: y228 :: y229 :: y230 :: y231 :: y232 :: y233 :: y234 :: y235 :: y236 :: y237 :: []).toArray, []⟩ W') :
    Code.wp Tryz.prog (goTo [1, 1, 1, 1, 1, 0, 2, 1, 4, 1, 4, 1, 4, 1, 4, 1, 4, 1, 4, 0] (Tryz.f71.body.getD .skip)) Q ⟨(y0 :: .pointer (some ⟨g, 0, none⟩) :: y2 :: .bool ba :: .slice A' ls.length c' :: y5 :: .int .i64 (N : Int) :: y7 :: y8 :: y9 :: y10 :: y11 :: y12 :: y13 :: y14 :: y15 :: y16 :: y17 :: y18 :: y19 :: y20 :: y21 :: y22 :: y23 :: y24 :: y25 :: y26 :: y27 :: y28 :: y29 :: y30 :: y31 :: y32 :: y33 :: y34 :: y35 :: y36 :: y37 :: y38 :: y39 :: y40 :: y41 :: y42 :: y43 :: y44 :: y45 :: y46 :: y47 :: y48 :: y49 :: y50 :: y51 :: y52 :: y53 :: y54 :: y55 :: y56 :: y57 :: y58 :: y59 :: y60 :: y61 :: y62 :: y63 :: y64 :: y65 :: y66 :: y67 :: y68 :: y69 :: y70 :: y71 :: y72 :: y73 :: y74 :: y75 :: y76 :: y77 :: y78 :: y79 :: y80 :: y81 :: y82 :: y83 :: y84 :: y85 :: y86 :: y87 :: y88 :: y89 :: y90 :: y91 :: y92 :: y93 :: y94 :: y95 :: y96 :: y97 :: y98 :: y99 :: y100 :: y101 :: y102 :: y103 :: y104 :: y105 :: y106 :: y107 :: y108 :: y109 :: y110 :: y111 :: y112 :: y113 :: y114 :: y115 :: y116 :: y117 :: y118 :: y119 :: y120 :: y121 :: y122 :: y123 :: y124 :: y125 :: y126 :: y127 :: y128 :: y129 :: y130 :: y131 :: y132 :: y133 :: y134 :: y135 :: y136 :: y137 :: y138 :: y139 :: y140 :: y141 :: y142 :: y143 :: y144 :: y145 :: y146 :: y147 :: y148 :: y149 :: y150 :: y151 :: y152 :: y153 :: y154 :: y155 :: y156 :: y157 :: y158 :: y159 :: y160 :: y161 :: y162 :: y163 :: y164 :: y165 :: y166 :: y167 :: y168 :: y169 :: y170 :: y171 :: y172 :: y173 :: y174 :: y175 :: y176 :: y177 :: y178 :: y179 :: y180 :: y181 :: y182 :: y183 :: y184 :: y185 :: y186 :: y187 :: y188 :: y189 :: y190 :: y191 :: y192 :: y193 :: y194 :: y195 :: y196 :: y197 :: y198 :: y199 :: y200 :: y201 :: y202 :: y203 :: y204 :: y205 :: y206 :: y207 :: y208 :: y209 :: y210 :: y211 :: y212 :: y213 :: y214 :: y215 :: y216 :: y217 :: y218 :: y219 :: y220 :: y221 :: y222 :: y223 :: y224 :: y225 :: y226 :: y227 :: y228 :: y229 :: y230 :: y231 :: y232 :: y233 :: y234 :: y235 :: y236 :: y237 :: []).toArray, []⟩ W := by
  conv => arg 2; whnf
  by_cases hk : K = 13 ∨ K = 14
  rotate_left
  · have f1 : ¬ K = 13 := fun e => hk (.inl e)
    have f2 : ¬ K = 14 := fun e => hk (.inr e)
    have g : (K == 13) = false := by rw [beq_eq_false_iff_ne]; exact f1
    have g' : (K == 14) = false := by rw [beq_eq_false_iff_ne]; exact f2
    obtain rfl : p7 = false := by rw [HP7.out]; unfold Z.q7; rw [decide_eq_false f1, decide_eq_false f2]; rfl
    clear hk
    go_wp2_with fail
    all_goals (first | exact rfl | (apply hnext; exact rfl) | apply hnext)
  rcases hk with rfl | rfl
  · rcases ba with _ | _
    · (skip)
      obtain rfl : p7 = false := by rw [HP7.out]; unfold Z.q7; simp
      go_wp2_with fail
      all_goals (first | exact rfl | (apply hnext; exact rfl) | apply hnext)
    by_cases hm : ls.length = 2
    rotate_left
    · have hm' : ((N : Int) == 2) = false := by rw [beq_eq_false_iff_ne]; have := HLL.out; omega
      have hd : decide (ls = [2, 2]) = false := by rw [decide_eq_false_iff_not]; exact fun e => hm (by rw [e]; rfl)
      obtain rfl : p7 = false := by rw [HP7.out]; unfold Z.q7; rw [hd]; simp
      clear hm hd
      go_wp2_with fail
      all_goals (first | exact rfl | (apply hnext; exact rfl) | apply hnext)
    obtain ⟨x0, x1, rfl⟩ := rs_two hm
    obtain rfl : N = 2 := HLL.out.symm
    clear hm
    obtain ⟨b', o', rfl, hbl', q0⟩ := SL.cell1 (k := 0) HSL.out rfl rfl
    rw [Nat.add_zero] at q0
    obtain ⟨b1', o1', he1, _, q1⟩ := SL.cell1 (k := 1) HSL.out rfl rfl
    obtain ⟨rfl, rfl⟩ : b' = b1' ∧ o' = o1' := by simpa using he1
    clear he1
    by_cases e0 : x0 = 2
    rotate_left
    · have e' : (x0 == 2) = false := by rw [beq_eq_false_iff_ne]; exact e0
      have hd : decide ([x0, x1] = [2, 2]) = false := by rw [decide_eq_false_iff_not]; intro e; simp at e; omega
      obtain rfl : p7 = false := by rw [HP7.out]; unfold Z.q7; rw [hd]; simp
      clear e0 hd
      go_wp2_with fail
      all_goals (first | exact rfl | (apply hnext; exact rfl) | apply hnext)
    subst e0
    by_cases e1 : x1 = 2
    rotate_left
    · have e' : (x1 == 2) = false := by rw [beq_eq_false_iff_ne]; exact e1
      have hd : decide ([2, x1] = [2, 2]) = false := by rw [decide_eq_false_iff_not]; intro e; simp at e; omega
      obtain rfl : p7 = false := by rw [HP7.out]; unfold Z.q7; rw [hd]; simp
      clear e1 hd
      go_wp2_with fail
      all_goals (first | exact rfl | (apply hnext; exact rfl) | apply hnext)
    subst e1
    obtain rfl : p7 = true := by rw [HP7.out]; rfl
    go_wp2_with fail
    all_goals (first | exact rfl | (apply hnext; exact rfl) | apply hnext)
  · rcases ba with _ | _
    · (skip)
      obtain rfl : p7 = false := by rw [HP7.out]; unfold Z.q7; simp
      go_wp2_with fail
      all_goals (first | exact rfl | (apply hnext; exact rfl) | apply hnext)
    by_cases hm : ls.length = 2
    rotate_left
    · have hm' : ((N : Int) == 2) = false := by rw [beq_eq_false_iff_ne]; have := HLL.out; omega
      have hd : decide (ls = [2, 2]) = false := by rw [decide_eq_false_iff_not]; exact fun e => hm (by rw [e]; rfl)
      obtain rfl : p7 = false := by rw [HP7.out]; unfold Z.q7; rw [hd]; simp
      clear hm hd
      go_wp2_with fail
      all_goals (first | exact rfl | (apply hnext; exact rfl) | apply hnext)
    obtain ⟨x0, x1, rfl⟩ := rs_two hm
    obtain rfl : N = 2 := HLL.out.symm
    clear hm
    obtain ⟨b', o', rfl, hbl', q0⟩ := SL.cell1 (k := 0) HSL.out rfl rfl
    rw [Nat.add_zero] at q0
    obtain ⟨b1', o1', he1, _, q1⟩ := SL.cell1 (k := 1) HSL.out rfl rfl
    obtain ⟨rfl, rfl⟩ : b' = b1' ∧ o' = o1' := by simpa using he1
    clear he1
    by_cases e0 : x0 = 2
    rotate_left
    · have e' : (x0 == 2) = false := by rw [beq_eq_false_iff_ne]; exact e0
      have hd : decide ([x0, x1] = [2, 2]) = false := by rw [decide_eq_false_iff_not]; intro e; simp at e; omega
      obtain rfl : p7 = false := by rw [HP7.out]; unfold Z.q7; rw [hd]; simp
      clear e0 hd
      go_wp2_with fail
      all_goals (first | exact rfl | (apply hnext; exact rfl) | apply hnext)
    subst e0
    by_cases e1 : x1 = 2
    rotate_left
    · have e' : (x1 == 2) = false := by rw [beq_eq_false_iff_ne]; exact e1
      have hd : decide ([2, x1] = [2, 2]) = false := by rw [decide_eq_false_iff_not]; intro e; simp at e; omega
      obtain rfl : p7 = false := by rw [HP7.out]; unfold Z.q7; rw [hd]; simp
      clear e1 hd
      go_wp2_with fail
      all_goals (first | exact rfl | (apply hnext; exact rfl) | apply hnext)
    subst e1
    obtain rfl : p7 = true := by rw [HP7.out]; rfl
    go_wp2_with fail
    all_goals (first | exact rfl | (apply hnext; exact rfl) | apply hnext)
set_option maxRecDepth 1000000 in
set_option maxHeartbeats 4000000 in
theorem rs_reg8 {W : World} {g N : Nat} {K : Int} {ba p8 : Bool} {ls : List Int} {A' : Option Addr} {c' : Nat} {Q : Exit → Act → World → Prop} {y0 y2 y5 y7 y8 y9 y10 y11 y12 y13 y14 y15 y16 y17 y18 y19 y20 y21 y22 y23 y24 y25 y26 y27 y28 y29 y30 y31 y32 y33 y34 y35 y36 y37 y38 y39 y40 y41 y42 y43 y44 y45 y46 y47 y48 y49 y50 y51 y52 y53 y54 y55 y56 y57 y58 y59 y60 y61 y62 y63 y64 y65 y66 y67 y68 y69 y70 y71 y72 y73 y74 y75 y76 y77 y78 y79 y80 y81 y82 y83 y84 y85 y86 y87 y88 y89 y90 y91 y92 y93 y94 y95 y96 y97 y98 y99 y100 y101 y102 y103 y104 y105 y106 y107 y108 y109 y110 y111 y112 y113 y114 y115 y116 y117 y118 y119 y120 y121 y122 y123 y124 y125 y126 y127 y128 y129 y130 y131 y132 y133 y134 y135 y136 y137 y138 y139 y140 y141 y142 y143 y144 y145 y146 y147 y148 y149 y150 y151 y152 y153 y154 y155 y156 y157 y158 y159 y160 y161 y162 y163 y164 y165 y166 y167 y168 y169 y170 y171 y172 y173 y174 y175 y176 y177 y178 y179 y180 y181 y182 y183 y184 y185 y186 y187 y188 y189 y190 y191 y192 y193 y194 y195 y196 y197 y198 y199 y200 y201 y202 y203 y204 y205 y206 y207 y208 y209 y210 y211 y212 y213 y214 y215 y216 y217 y218 y219 y220 y221 y222 y223 y224 y225 y226 y227 y228 y229 y230 y231 y232 y233 y234 y235 y236 y237 : Value}
    (c0 : W.cell? ⟨g, 0, none⟩ = some (.int .u8 K)) 
    (HLL : Hid (ls.length = N)) (HSL : Hid (SL 1 dE W (.slice A' ls.length c') ls)) (hN : N ≤ 9223372036854775807) (HP8 : Hid (p8 = Z.q8 K ba ls))
    (hnext : ∀ (u222 u223 u224 u225 u226 u227 u228 u229 u230 u231 u232 u233 u234 u235 u236 u237 : Value) (W' : World), W = W' → Q .normal ⟨(y0 :: .pointer (some ⟨g, 0, none⟩) :: y2 :: .bool ba :: .slice A' ls.length c' :: y5 :: .int .i64 (N : Int) :: y7 :: y8 :: y9 :: y10 :: y11 :: y12 :: y13 :: y14 :: y15 :: y16 :: y17 :: y18 :: y19 :: y20 :: y21 :: y22 :: y23 :: y24 :: y25 :: y26 :: y27 :: y28 :: y29 :: y30 :: y31 :: y32 :: y33 :: y34 :: y35 :: y36 :: y37 :: y38 :: y39 :: y40 :: y41 :: y42 :: y43 :: y44 :: y45 :: y46 :: y47 :: y48 :: y49 :: y50 :: y51 :: y52 :: y53 :: y54 :: y55 :: y56 :: y57 :: y58 :: y59 :: y60 :: y61 :: y62 :: y63 :: y64 :: y65 :: y66 :: y67 :: y68 :: y69 :: y70 :: y71 :: y72 :: y73 :: y74 :: y75 :: y76 :: y77 :: y78 :: y79 :: y80 :: y81 :: y82 :: y83 :: y84 :: y85 :: y86 :: y87 :: y88 :: y89 :: y90 :: y91 :: y92 :: y93 :: y94 :: y95 :: y96 :: y97 :: y98 :: y99 :: y100 :: y101 :: y102 :: y103 :: y104 :: y105 :: y106 :: y107 :: y108 :: y109 :: y110 :: y111 :: y112 :: y113 :: y114 :: y115 :: y116 :: y117 :: y118 :: y119 :: y120 :: y121 :: y122 :: y123 :: y124 :: y125 :: y126 :: y127 :: y128 :: y129 :: y130 :: y131 :: y132 :: y133 :: y134 :: y135 :: y136 :: y137 :: y138 :: y139 :: y140 :: y141 :: y142 :: y143 :: y144 :: y145 :: y146 :: y147 :: y148 :: y149 :: y150 :: y151 :: y152 :: y153 :: y154 :: y155 :: y156 :: y157 :: y158 :: y159 :: y160 :: y161 :: y162 :: y163 :: y164 :: y165 :: y166 :: y167 :: y168 :: y169 :: y170 :: y171 :: y172 :: y173 :: y174 :: y175 :: y176 :: y177 :: y178 :: y179 :: y180 :: y181 :: y182 :: y183 :: y184 :: y185 :: y186 :: y187 :: y188 :: y189 :: y190 :: y191 :: y192 :: y193 :: y194 :: y195 :: y196 :: y197 :: y198 :: y199 :: y200 :: y201 :: y202 :: y203 :: y204 :: y205 :: y206 :: y207 :: y208 :: y209 :: y210 :: y211 :: y212 :: y213 :: y214 :: y215 :: y216 :: y217 :: y218 :: y219 :: y220 :: .bool p8 :: u222 :: u223 :: u224 :: u225 :: u226 :: u227 :: u228 :: u229 :: u230 :: u231 :: u232 :: u233 :: u234 :: u235 :: u236 :: u237 :: []).toArray, []⟩ W') :
    Code.wp Tryz.prog (goTo [1, 1, 1, 1, 1, 0, 2, 1, 4, 1, 4, 1, 4, 1, 4, 1, 4, 1, 4, 1, 4, 0] (Tryz.f71.body.getD .skip)) Q ⟨(y0 :: .pointer (some ⟨g, 0, none⟩) :: y2 :: .bool ba :: .slice A' ls.length c' :: y5 :: .int .i64 (N : Int) :: y7 :: y8 :: y9 :: y10 :: y11 :: y12 :: y13 :: y14 :: y15 :: y16 :: y17 :: y18 :: y19 :: y20 :: y21 :: y22 :: y23 :: y24 :: y25 :: y26 :: y27 :: y28 :: y29 :: y30 :: y31 :: y32 :: y33 :: y34 :: y35 :: y36 :: y37 :: y38 :: y39 :: y40 :: y41 :: y42 :: y43 :: y44 :: y45 :: y46 :: y47 :: y48 :: y49 :: y50 :: y51 :: y52 :: y53 :: y54 :: y55 :: y56 :: y57 :: y58 :: y59 :: y60 :: y61 :: y62 :: y63 :: y64 :: y65 :: y66 :: y67 :: y68 :: y69 :: y70 :: y71 :: y72 :: y73 :: y74 :: y75 :: y76 :: y77 :: y78 :: y79 :: y80 :: y81 :: y82 :: y83 :: y84 :: y85 :: y86 :: y87 :: y88 :: y89 :: y90 :: y91 :: y92 :: y93 :: y94 :: y95 :: y96 :: y97 :: y98 :: y99 :: y100 :: y101 :: y102 :: y103 :: y104 :: y105 :: y106 :: y107 :: y108 :: y109 :: y110 :: y111 :: y112 :: y113 :: y114 :: y115 :: y116 :: y117 :: y118 :: y119 :: y120 :: y121 :: y122 :: y123 :: y124 :: y125 :: y126 :: y127 :: y128 :: y129 :: y130 :: y131 :: y132 :: y133 :: y134 :: y135 :: y136 :: y137 :: y138 :: y139 :: y140 :: y141 :: y142 :: y143 :: y144 :: y145 :: y146 :: y147 :: y148 :: y149 :: y150 :: y151 :: y152 :: y153 :: y154 :: y155 :: y156 :: y157 :: y158 :: y159 :: y160 :: y161 :: y162 :: y163 :: y164 :: y165 :: y166 :: y167 :: y168 :: y169 :: y170 :: y171 :: y172 :: y173 :: y174 :: y175 :: y176 :: y177 :: y178 :: y179 :: y180 :: y181 :: y182 :: y183 :: y184 :: y185 :: y186 :: y187 :: y188 :: y189 :: y190 :: y191 :: y192 :: y193 :: y194 :: y195 :: y196 :: y197 :: y198 :: y199 :: y200 :: y201 :: y202 :: y203 :: y204 :: y205 :: y206 :: y207 :: y208 :: y209 :: y210 :: y211 :: y212 :: y213 :: y214 :: y215 :: y216 :: y217 :: y218 :: y219 :: y220 :: y221 :: y222 :: y223 :: y224 :: y225 :: y226 :: y227 :: y228 :: y229 :: y230 :: y231 :: y232 :: y233 :: y234 :: y235 :: y236 :: y237 :: []).toArray, []⟩ W := by
  conv => arg 2; whnf
  by_cases hk : K = 15
  rotate_left
  · have g : (K == 15) = false := by rw [beq_eq_false_iff_ne]; exact hk
    obtain rfl : p8 = false := by rw [HP8.out]; unfold Z.q8; rw [decide_eq_false hk]; rfl
    clear hk
    go_wp2_with fail
    all_goals (first | exact rfl | (apply hnext; exact rfl) | apply hnext)
  subst hk
  rcases ba with _ | _
  · (skip)
    obtain rfl : p8 = false := by rw [HP8.out]; unfold Z.q8; simp
    go_wp2_with fail
    all_goals (first | exact rfl | (apply hnext; exact rfl) | apply hnext)
  by_cases hm : ls.length = 1
  rotate_left
  · have hm' : ((N : Int) == 1) = false := by rw [beq_eq_false_iff_ne]; have := HLL.out; omega
    have hd : decide (ls = [2]) = false := by rw [decide_eq_false_iff_not]; exact fun e => hm (by rw [e]; rfl)
    obtain rfl : p8 = false := by rw [HP8.out]; unfold Z.q8; rw [hd]; simp
    clear hm hd
    go_wp2_with fail
    all_goals (first | exact rfl | (apply hnext; exact rfl) | apply hnext)
  obtain ⟨x0, rfl⟩ := rs_one hm
  obtain rfl : N = 1 := HLL.out.symm
  clear hm
  obtain ⟨b', o', rfl, hbl', q0⟩ := SL.cell1 (k := 0) HSL.out rfl rfl
  rw [Nat.add_zero] at q0
  by_cases e0 : x0 = 2
  rotate_left
  · have e' : (x0 == 2) = false := by rw [beq_eq_false_iff_ne]; exact e0
    have hd : decide ([x0] = [2]) = false := by rw [decide_eq_false_iff_not]; intro e; simp at e; omega
    obtain rfl : p8 = false := by rw [HP8.out]; unfold Z.q8; rw [hd]; simp
    clear e0 hd
    go_wp2_with fail
    all_goals (first | exact rfl | (apply hnext; exact rfl) | apply hnext)
  subst e0
  obtain rfl : p8 = true := by rw [HP8.out]; rfl
  go_wp2_with fail
  all_goals (first | exact rfl | (apply hnext; exact rfl) | apply hnext)
set_option maxRecDepth 100000 in
set_option maxHeartbeats 8000000 in
theorem rsort_any : ∀ (n : Nat) (x : Z.Ex n) (a : Z.XN) (u : Value) (w : World), XV w n x (a, u) → HasV w → Z.XSm n x → Calls Tryz.prog 71 #[.agg #[.int .u8 a.k, .string a.rat, .string a.name, .int .i64 a.date, u]] w fun e w' => e = .returned (.int .i64 (Z.exSort n x)) ∧ Below w.heap.size w w' := by
  intro n
  induction n with
  | zero => intro x; exact x.no
  | succ n ih =>
    intro x a u w hx hV hle
    obtain ⟨rfl, hS⟩ := hx.open_
    have hkk := hx.kind
    obtain ⟨A, cp, rfl, hlc, hcm⟩ := hS.shape
    unfold maxLen at hcm
    have hb0 := (Below.refl _ w).alloc (Nat.le_refl w.heap.size) (.cells #[.int .u8 x.top.k, .string x.top.rat, .string x.top.name, .int .i64 x.top.date, .slice A x.sub.length cp] 25)
    have BX := Blk.new w 25 #[.int .u8 x.top.k, .string x.top.rat, .string x.top.name, .int .i64 x.top.date, .slice A x.sub.length cp]
    have HS := Lib.hid (ES.below hb0 hS)
    have HV := Lib.hid (hV.below hb0)
    have HLE := Lib.hid (fun y hy => Z.XSm.sub hle (x := y) hy)
    have HLN := Lib.hid hle.len
    have HST := Lib.hid hle.str
    have HR : Hid (Z.exSort (n + 1) x = Z.sortN x.top (x.sub.map (Z.exSort n))) := Lib.hid rfl
    clear hx hS hV hle
    generalize Z.exSort (n + 1) x = R at *
    generalize x.sub = l at *
    generalize x.top = t at *
    have c1 := BX.cell 1
    have c2 := BX.cell 2
    have c3 := BX.cell 3
    have c4 := BX.cell 4
    have h1 := Z.isE t.rat
    have h2 := Z.isE t.name
    have h3 := Z.eqI t.date 0
    generalize hb1 : decide (t.rat = Z.e0) = b1 at *
    generalize hb2 : decide (t.name = Z.e0) = b2 at *
    generalize hb3 : decide (t.date = 0) = b3 at *
    have HB1 := Lib.hid hb1
    have HB2 := Lib.hid hb2
    have HB3 := Lib.hid hb3
    clear hb1 hb2 hb3
    obtain ⟨ba, hba⟩ : ∃ o, o = (b1 && (b2 && b3)) := ⟨_, rfl⟩
    have HBA := Lib.hid hba
    clear hba
    go_enter Tryz.func71, Tryz.ntmps71
    go_upto_region 1 with fail
    generalize (w.alloc (.cells #[.int .u8 t.k, .string t.rat, .string t.name, .int .i64 t.date, .slice A l.length cp] 25)) = W0 at *
    go_cut [3] (fun bv wx => bv = .bool ba ∧ W0 = wx)
    case first =>
      rcases b1 with _ | _
      · go_wp2_with fail
        go_meet
        exact ⟨by rw [HBA.out]; rfl, rfl⟩
      rcases b2 with _ | _
      · go_wp2_with fail
        go_meet
        exact ⟨by rw [HBA.out]; rfl, rfl⟩
      go_wp2_with fail
      go_meet
      exact ⟨by rw [HBA.out]; rfl, rfl⟩
    case rest =>
    obtain ⟨rfl, rfl⟩ := hcut
    go_wp2_with fail
    go_loopw [4, 5] (fun lv iv wr => ∃ (k : Nat), k ≤ l.length ∧ iv = .int .i64 k ∧ OL 1 dE 3 wr W0.heap.size lv ((l.take k).map (Z.exSort n)) ∧ Below W0.heap.size W0 wr) (fun _ iv _ => l.length - (intOf iv).toNat)
    case atStart => exact ⟨0, by omega, rfl, OL.nil_, Below.refl _ _⟩
    case round =>
      obtain ⟨k, hk, rfl, hO, hbr⟩ := hrel
      have hbw := hb0.trans (hbr.mono hb0.size)
      have c4 := (BX.below hbr).cell 4
      by_cases hlt : k < l.length
      · have hz : l[k]? = some l[k] := List.getElem?_eq_getElem hlt
        obtain ⟨b, o, ax, ux, rfl, hbl, q0, q1, q2, q3, q4, hv⟩ := ES.cells (ES.below hbr HS.out) hz
        have HT : Hid ((l.take (k + 1)).map (Z.exSort n) = (l.take k).map (Z.exSort n) ++ [Z.exSort n l[k]]) := Lib.hid (by rw [List.take_add_one, hz, List.map_append]; rfl)
        have HM := Lib.hid (List.mem_of_getElem? hz)
        clear hz
        generalize l[k] = y at *
        have hi0 : (0 : Int) ≤ (k : Int) := by omega
        have hi1 : (k : Int) < (l.length : Int) := by omega
        obtain ⟨Ax, kx, cx, rfl⟩ := hv.shape
        have HC := Lib.hid (ih y ax (.slice Ax kx cx) wr hv (HV.out.below hbr) (HLE.out y HM.out))
        clear hv ih
        generalize Z.exSort n y = z at *
        have HO := Lib.hid hO
        clear hO
        go_wp2_with fail
        refine HC.out.mono ?_
        rintro e W1 ⟨rfl, hb⟩
        have hb1' := hbr.trans (hb.mono hbr.size)
        have HO1 := Lib.hid (HO.out.below hb)
        have HLK : Hid (((l.take k).map (Z.exSort n)).length ≤ 20000) := Lib.hid (by rw [List.length_map, List.length_take]; have := HLN.out; omega)
        clear HO HC hb q0 q1 q2 q3 q4
        go_wp2_with (at_builtin; go_loud (refine appL dE_len dE_one rfl _ _ rfl infoInt (by omega) (by omega) Tryz.underlying26 W1 W0.heap.size u4 ((l.take k).map (Z.exSort n)) z _ rfl rfl HO1.out rfl HLK.out hb1'.size ?_; intro v' w' hO' hb' _))
        go_roundw
        case rel => exact ⟨k + 1, by omega, by go_num, by rw [HT.out]; exact hO', hb1'.trans hb'⟩
        case measure => simp [intOf]; omega
      · obtain rfl : k = l.length := by omega
        rw [List.take_length] at hO
        have hSL := hO.sl dE_len
        obtain ⟨A', c', rfl, hc1, hc2⟩ := hSL.shape
        have HSL := Lib.hid hSL
        clear hO hSL HLE
        have BX := BX.below hbr
        have c0 := BX.cell 0
        have c1 := BX.cell 1
        have c2 := BX.cell 2
        have c3 := BX.cell 3
        go_upto_region 8 with fail
        have HQ := Lib.hid (fun W => rqcheck_any t.rat W (by have := HST.out.1; omega))
        unfold QchkRet at HQ
        have HNA := Lib.hid (fun W => rname_any t.name W (by unfold maxLen; have := HST.out.2; omega))
        have HDA := Lib.hid (fun W => rday_any t.date W)
        have h5 := Z.eqI (Z.rchk t.rat) 0
        have h4 := Z.eqN l.length
        have HLL : Hid ((l.map (Z.exSort n)).length = l.length) := Lib.hid (List.length_map ..)
        have HSS := Lib.hid (Z.sort_sel t (l.map (Z.exSort n)) b1 b2 b3 HB1.out HB2.out HB3.out)
        rw [← HBA.out, HLL.out, ← HR.out] at HSS
        have hN : l.length ≤ 9223372036854775807 := by have := HLN.out; omega
        clear HR HB1 HB2 HB3 HBA HST HLN
        generalize l.map (Z.exSort n) = ls at *
        obtain ⟨K, hK⟩ : ∃ K, K = t.k := ⟨_, rfl⟩
        rw [← hK] at c0 BX HSS hkk ⊢
        clear hK ih
        generalize Z.rchk t.rat = rc at *
        generalize Z.nameB t.name = bn at *
        generalize Z.dayC t.date = bd at *
        generalize decide (rc = 0) = br at *
        generalize decide (l.length = 0) = b4 at *
        obtain ⟨p1, hp1⟩ : ∃ p, p = Z.q1 K b4 b2 b3 br := ⟨_, rfl⟩
        obtain ⟨p2, hp2⟩ : ∃ p, p = Z.q2 K b4 b1 bn bd := ⟨_, rfl⟩
        obtain ⟨p3, hp3⟩ : ∃ p, p = Z.q3 K b4 b1 bn b3 := ⟨_, rfl⟩
        obtain ⟨p4, hp4⟩ : ∃ p, p = Z.q4 K ba ls := ⟨_, rfl⟩
        obtain ⟨p5, hp5⟩ : ∃ p, p = Z.q5 K ba ls := ⟨_, rfl⟩
        obtain ⟨p6, hp6⟩ : ∃ p, p = Z.q6 K ba ls := ⟨_, rfl⟩
        obtain ⟨p7, hp7⟩ : ∃ p, p = Z.q7 K ba ls := ⟨_, rfl⟩
        obtain ⟨p8, hp8⟩ : ∃ p, p = Z.q8 K ba ls := ⟨_, rfl⟩
        rw [← hp1, ← hp2, ← hp3, ← hp4, ← hp5, ← hp6, ← hp7, ← hp8] at HSS
        have HP1 := Lib.hid hp1
        have HP2 := Lib.hid hp2
        have HP3 := Lib.hid hp3
        have HP4 := Lib.hid hp4
        have HP5 := Lib.hid hp5
        have HP6 := Lib.hid hp6
        have HP7 := Lib.hid hp7
        have HP8 := Lib.hid hp8
        clear hp1 hp2 hp3 hp4 hp5 hp6 hp7 hp8
        go_cut [38] from 39 to 61 (fun bv wx => bv = .bool p1 ∧ Below wr.heap.size wr wx)
        case first =>
          refine rs_reg1 c0 c1 c2 c3 HQ h2 h3 h4 h5 HP1 ?_
          intro u39' u40' u41' u42' u43' u44' u45' u46' u47' u48' u49' u50' u51' u52' u53' u54' u55' u56' u57' u58' u59' u60' u61' W' hb'
          go_wp2_with fail
          go_meet
          exact ⟨rfl, hb'⟩
        case rest =>
        obtain ⟨rfl, hb⟩ := hcut
        rename World => W2
        have hbw2 := hbw.trans (hb.mono hbw.size)
        have BX2 := BX.below hb
        replace HSL := Lib.hid (SL.below HSL.out hb)
        clear c0 c1 c2 c3 hbw BX hb HQ
        have c0 := BX2.cell 0
        have c1 := BX2.cell 1
        have c2 := BX2.cell 2
        have c3 := BX2.cell 3
        rcases p1 with _ | _
        rotate_left
        · (skip)
          go_wp2_with fail
          go_ret
          exact ⟨ret_int (by rw [HSS.out]; rfl), hbw2⟩
        go_upto_region 10 with fail
        go_cut [62] from 63 to 84 (fun bv wx => bv = .bool p2 ∧ W2 = wx)
        case first =>
          refine rs_reg2 c0 c1 c2 c3 HNA HDA h1 h4 HP2 ?_
          intro u63' u64' u65' u66' u67' u68' u69' u70' u71' u72' u73' u74' u75' u76' u77' u78' u79' u80' u81' u82' u83' u84' W' hb'
          go_wp2_with fail
          go_meet
          exact ⟨rfl, hb'⟩
        case rest =>
        obtain ⟨rfl, rfl⟩ := hcut
        rcases p2 with _ | _
        rotate_left
        · (skip)
          go_wp2_with fail
          go_ret
          exact ⟨ret_int (by rw [HSS.out]; rfl), hbw2⟩
        go_upto_region 12 with fail
        go_cut [85] from 86 to 107 (fun bv wx => bv = .bool p3 ∧ W2 = wx)
        case first =>
          refine rs_reg3 c0 c1 c2 c3 HNA h1 h3 h4 HP3 ?_
          intro u86' u87' u88' u89' u90' u91' u92' u93' u94' u95' u96' u97' u98' u99' u100' u101' u102' u103' u104' u105' u106' u107' W' hb'
          go_wp2_with fail
          go_meet
          exact ⟨rfl, hb'⟩
        case rest =>
        obtain ⟨rfl, rfl⟩ := hcut
        rcases p3 with _ | _
        rotate_left
        · (skip)
          go_wp2_with fail
          go_ret
          exact ⟨ret_int (by rw [HSS.out]; rfl), hbw2⟩
        go_upto_region 14 with fail
        go_cut [108] from 109 to 135 (fun bv wx => bv = .bool p4 ∧ W2 = wx)
        case first =>
          refine rs_reg4 c0 HLL HSL hN HP4 ?_
          intro u109' u110' u111' u112' u113' u114' u115' u116' u117' u118' u119' u120' u121' u122' u123' u124' u125' u126' u127' u128' u129' u130' u131' u132' u133' u134' u135' W' hb'
          go_wp2_with fail
          go_meet
          exact ⟨rfl, hb'⟩
        case rest =>
        obtain ⟨rfl, rfl⟩ := hcut
        rcases p4 with _ | _
        rotate_left
        · (skip)
          go_wp2_with fail
          go_ret
          exact ⟨ret_int (by rw [HSS.out]; rfl), hbw2⟩
        go_upto_region 16 with fail
        go_cut [136] from 137 to 164 (fun bv wx => bv = .bool p5 ∧ W2 = wx)
        case first =>
          refine rs_reg5 c0 HLL HSL hN HP5 ?_
          intro u137' u138' u139' u140' u141' u142' u143' u144' u145' u146' u147' u148' u149' u150' u151' u152' u153' u154' u155' u156' u157' u158' u159' u160' u161' u162' u163' u164' W' hb'
          go_wp2_with fail
          go_meet
          exact ⟨rfl, hb'⟩
        case rest =>
        obtain ⟨rfl, rfl⟩ := hcut
        rcases p5 with _ | _
        rotate_left
        · (skip)
          go_wp2_with fail
          go_ret
          exact ⟨ret_int (by rw [HSS.out]; rfl), hbw2⟩
        go_upto_region 18 with fail
        go_cut [165] from 166 to 192 (fun bv wx => bv = .bool p6 ∧ W2 = wx)
        case first =>
          refine rs_reg6 c0 HLL HSL hN HP6 ?_
          intro u166' u167' u168' u169' u170' u171' u172' u173' u174' u175' u176' u177' u178' u179' u180' u181' u182' u183' u184' u185' u186' u187' u188' u189' u190' u191' u192' W' hb'
          go_wp2_with fail
          go_meet
          exact ⟨rfl, hb'⟩
        case rest =>
        obtain ⟨rfl, rfl⟩ := hcut
        rcases p6 with _ | _
        rotate_left
        · (skip)
          go_wp2_with fail
          go_ret
          exact ⟨ret_int (by rw [HSS.out]; rfl), hbw2⟩
        go_upto_region 20 with fail
        go_cut [193] from 194 to 220 (fun bv wx => bv = .bool p7 ∧ W2 = wx)
        case first =>
          refine rs_reg7 c0 HLL HSL hN HP7 ?_
          intro u194' u195' u196' u197' u198' u199' u200' u201' u202' u203' u204' u205' u206' u207' u208' u209' u210' u211' u212' u213' u214' u215' u216' u217' u218' u219' u220' W' hb'
          go_wp2_with fail
          go_meet
          exact ⟨rfl, hb'⟩
        case rest =>
        obtain ⟨rfl, rfl⟩ := hcut
        rcases p7 with _ | _
        rotate_left
        · (skip)
          go_wp2_with fail
          go_ret
          exact ⟨ret_int (by rw [HSS.out]; rfl), hbw2⟩
        go_upto_region 22 with fail
        go_cut [221] from 222 to 237 (fun bv wx => bv = .bool p8 ∧ W2 = wx)
        case first =>
          refine rs_reg8 c0 HLL HSL hN HP8 ?_
          intro u222' u223' u224' u225' u226' u227' u228' u229' u230' u231' u232' u233' u234' u235' u236' u237' W' hb'
          go_wp2_with fail
          go_meet
          exact ⟨rfl, hb'⟩
        case rest =>
        obtain ⟨rfl, rfl⟩ := hcut
        rcases p8 with _ | _
        rotate_left
        · (skip)
          go_wp2_with fail
          go_ret
          exact ⟨ret_int (by rw [HSS.out]; rfl), hbw2⟩
        go_wp2_with fail
        go_ret
        exact ⟨ret_int (by rw [HSS.out]; rfl), hbw2⟩
end Go.Proofs.YtifafmomkpkgdaaGreatDoor
/- Walks: the reference's check of an expression. -/

namespace Go.Proofs.YtifafmomkpkgdaaGreatDoor
open Go.RowKit
set_option maxRecDepth 100000 in
theorem rxcheck_any (n : Nat) (x : Z.Ex (n + 1)) (u : Value) (w : World) (hx : XV w (n + 1) x (x.top, u)) (hV : HasV w) (hs : Z.XSm (n + 1) x) :
    Calls Tryz.prog 70 #[.agg #[.int .u8 x.top.k, .string x.top.rat, .string x.top.name, .int .i64 x.top.date, u]] w fun e w' => e = .returned (.int .i64 (Z.exE (n + 1) x)) ∧ Below w.heap.size w w' := by
  obtain ⟨A, k, cp, rfl⟩ := hx.shape
  have hb0 := (Below.refl _ w).alloc (Nat.le_refl w.heap.size) (.cells #[.int .u8 x.top.k, .string x.top.rat, .string x.top.name, .int .i64 x.top.date, .slice A k cp] 25)
  have BX := Blk.new w 25 #[.int .u8 x.top.k, .string x.top.rat, .string x.top.name, .int .i64 x.top.date, .slice A k cp]
  have HS := Lib.hid (fun W (h : Below w.heap.size w W) => rxsize_any (n + 1) x x.top _ W (XV.below h _ hx) (by have := hs.1; omega))
  have HD := Lib.hid (fun W (h : Below w.heap.size w W) => rxdepth_any (n + 1) x x.top _ W (XV.below h _ hx) (by have := hs.1; have := Z.exDepth_le (n + 1) x; omega))
  have HT := Lib.hid (fun W (h : Below w.heap.size w W) => rsort_any (n + 1) x x.top _ W (XV.below h _ hx) (hV.below h) hs)
  have hR : Z.exE (n + 1) x = if 500 < Z.exSize (n + 1) x ∨ 60 < Z.exDepth (n + 1) x then 4 else if Z.exSort (n + 1) x = 0 then 8 else 0 := rfl
  have hN := hs.1
  clear hx hV hs
  generalize x.top = t at *
  generalize Z.exE (n + 1) x = R at *
  generalize Z.exSize (n + 1) x = N at *
  generalize Z.exDepth (n + 1) x = D at *
  generalize Z.exSort (n + 1) x = S at *
  have c0 := BX.cell 0
  have c1 := BX.cell 1
  have c2 := BX.cell 2
  have c3 := BX.cell 3
  have c4 := BX.cell 4
  have HN := Lib.hid hN
  have HR := Lib.hid hR
  clear hN hR
  go_enter Tryz.func70, Tryz.ntmps70
  by_cases h5 : 500 < N
  · have h5' : (N : Int) > 500 := by omega
    have HE := Lib.hid (if_pos (Or.inl h5) : (if 500 < N ∨ 60 < D then (4 : Int) else if S = 0 then 8 else 0) = 4)
    clear h5
    go_wp2_with fail
    refine (HS.out _ hb0).mono ?_
    rintro e W1 ⟨rfl, hb⟩
    have hb1 := hb0.trans (hb.mono hb0.size)
    go_wp2_with fail
    go_ret
    exact ⟨ret_int (HE.out.symm.trans HR.out.symm), hb1⟩
  · have h5' : ¬ (N : Int) > 500 := by omega
    go_wp2_with fail
    refine (HS.out _ hb0).mono ?_
    rintro e W1 ⟨rfl, hb⟩
    have hb1 := hb0.trans (hb.mono hb0.size)
    have c0 := (BX.below hb).cell 0
    have c1 := (BX.below hb).cell 1
    have c2 := (BX.below hb).cell 2
    have c3 := (BX.below hb).cell 3
    have c4 := (BX.below hb).cell 4
    have BX := BX.below hb
    clear hb hb0
    go_wp2_with fail
    refine (HD.out _ hb1).mono ?_
    rintro e W2 ⟨rfl, hb⟩
    have hb2 := hb1.trans (hb.mono hb1.size)
    have c0 := (BX.below hb).cell 0
    have c1 := (BX.below hb).cell 1
    have c2 := (BX.below hb).cell 2
    have c3 := (BX.below hb).cell 3
    have c4 := (BX.below hb).cell 4
    clear hb hb1
    by_cases h6 : 60 < D
    · have hE : (if 500 < N ∨ 60 < D then (4 : Int) else if S = 0 then 8 else 0) = 4 := if_pos (Or.inr h6)
      have HE := Lib.hid hE
      clear hE
      have h6' : (D : Int) > 60 := by omega
      clear h6 h5
      go_wp2_with fail
      go_ret
      exact ⟨ret_int (HE.out.symm.trans HR.out.symm), hb2⟩
    · have hE : (if 500 < N ∨ 60 < D then (4 : Int) else if S = 0 then 8 else 0) = if S = 0 then 8 else 0 := if_neg (show ¬ (500 < N ∨ 60 < D) by omega)
      have HE := Lib.hid hE
      clear hE
      have h6' : ¬ (D : Int) > 60 := by omega
      clear h6 h5
      go_wp2_with fail
      refine (HT.out _ hb2).mono ?_
      rintro e W3 ⟨rfl, hb⟩
      have hb3 := hb2.trans (hb.mono hb2.size)
      clear hb hb2
      by_cases h7 : S = 0
      · have h7' : (S == 0) = true := by simpa using h7
        have HE2 := Lib.hid (HE.out.trans (if_pos h7))
        clear h7
        go_wp2_with fail
        go_ret
        exact ⟨ret_int (HE2.out.symm.trans HR.out.symm), hb3⟩
      · have h7' : (S == 0) = false := by simpa using h7
        have HE2 := Lib.hid (HE.out.trans (if_neg h7))
        go_wp2_with fail
        go_ret
        exact ⟨ret_int (HE2.out.symm.trans HR.out.symm), hb3⟩
set_option maxRecDepth 100000 in
theorem rxnumber_any (n : Nat) (x : Z.Ex (n + 1)) (u : Value) (w : World) (hx : XV w (n + 1) x (x.top, u)) (hV : HasV w) (hs : Z.XSm (n + 1) x) :
    Calls Tryz.prog 46 #[.agg #[.int .u8 x.top.k, .string x.top.rat, .string x.top.name, .int .i64 x.top.date, u]] w fun e w' => e = .returned (.bool (Z.numB (n + 1) x)) ∧ Below w.heap.size w w' := by
  obtain ⟨A, k, cp, rfl⟩ := hx.shape
  have hb0 := (Below.refl _ w).alloc (Nat.le_refl w.heap.size) (.cells #[.int .u8 x.top.k, .string x.top.rat, .string x.top.name, .int .i64 x.top.date, .slice A k cp] 25)
  have BX := Blk.new w 25 #[.int .u8 x.top.k, .string x.top.rat, .string x.top.name, .int .i64 x.top.date, .slice A k cp]
  have HC := Lib.hid (fun W (h : Below w.heap.size w W) => rxcheck_any n x _ W (XV.below h _ hx) (hV.below h) hs)
  have HT := Lib.hid (fun W (h : Below w.heap.size w W) => rsort_any (n + 1) x x.top _ W (XV.below h _ hx) (hV.below h) hs)
  unfold Z.numB
  have h1 := Z.eqI (Z.exE (n + 1) x) 0
  have h2 := Z.eqI (Z.exSort (n + 1) x) 1
  clear hx hV hs
  generalize x.top = t at *
  generalize Z.exE (n + 1) x = E at *
  generalize Z.exSort (n + 1) x = S at *
  generalize decide (E = 0) = b0 at *
  generalize decide (S = 1) = b1 at *
  have c0 := BX.cell 0
  have c1 := BX.cell 1
  have c2 := BX.cell 2
  have c3 := BX.cell 3
  have c4 := BX.cell 4
  go_enter Tryz.func46, Tryz.ntmps46
  go_wp2_with fail
  refine (HC.out _ hb0).mono ?_
  rintro e W1 ⟨rfl, hb⟩
  have hb1 := hb0.trans (hb.mono hb0.size)
  have c0 := (BX.below hb).cell 0
  have c1 := (BX.below hb).cell 1
  have c2 := (BX.below hb).cell 2
  have c3 := (BX.below hb).cell 3
  have c4 := (BX.below hb).cell 4
  clear hb hb0
  rcases b0 with _ | _
  · go_wp2_with fail
    go_ret
    exact ⟨rfl, hb1⟩
  · go_wp2_with fail
    refine (HT.out _ hb1).mono ?_
    rintro e W2 ⟨rfl, hb⟩
    have hb2 := hb1.trans (hb.mono hb1.size)
    go_wp2_with fail
    go_ret
    exact ⟨rfl, hb2⟩
set_option maxRecDepth 100000 in
theorem rxtruth_any (n : Nat) (x : Z.Ex (n + 1)) (u : Value) (w : World) (hx : XV w (n + 1) x (x.top, u)) (hV : HasV w) (hs : Z.XSm (n + 1) x) :
    Calls Tryz.prog 47 #[.agg #[.int .u8 x.top.k, .string x.top.rat, .string x.top.name, .int .i64 x.top.date, u]] w fun e w' => e = .returned (.bool (Z.truB (n + 1) x)) ∧ Below w.heap.size w w' := by
  obtain ⟨A, k, cp, rfl⟩ := hx.shape
  have hb0 := (Below.refl _ w).alloc (Nat.le_refl w.heap.size) (.cells #[.int .u8 x.top.k, .string x.top.rat, .string x.top.name, .int .i64 x.top.date, .slice A k cp] 25)
  have BX := Blk.new w 25 #[.int .u8 x.top.k, .string x.top.rat, .string x.top.name, .int .i64 x.top.date, .slice A k cp]
  have HC := Lib.hid (fun W (h : Below w.heap.size w W) => rxcheck_any n x _ W (XV.below h _ hx) (hV.below h) hs)
  have HT := Lib.hid (fun W (h : Below w.heap.size w W) => rsort_any (n + 1) x x.top _ W (XV.below h _ hx) (hV.below h) hs)
  unfold Z.truB
  have h1 := Z.eqI (Z.exE (n + 1) x) 0
  have h2 := Z.eqI (Z.exSort (n + 1) x) 2
  clear hx hV hs
  generalize x.top = t at *
  generalize Z.exE (n + 1) x = E at *
  generalize Z.exSort (n + 1) x = S at *
  generalize decide (E = 0) = b0 at *
  generalize decide (S = 2) = b1 at *
  have c0 := BX.cell 0
  have c1 := BX.cell 1
  have c2 := BX.cell 2
  have c3 := BX.cell 3
  have c4 := BX.cell 4
  go_enter Tryz.func47, Tryz.ntmps47
  go_wp2_with fail
  refine (HC.out _ hb0).mono ?_
  rintro e W1 ⟨rfl, hb⟩
  have hb1 := hb0.trans (hb.mono hb0.size)
  have c0 := (BX.below hb).cell 0
  have c1 := (BX.below hb).cell 1
  have c2 := (BX.below hb).cell 2
  have c3 := (BX.below hb).cell 3
  have c4 := (BX.below hb).cell 4
  clear hb hb0
  rcases b0 with _ | _
  · go_wp2_with fail
    go_ret
    exact ⟨rfl, hb1⟩
  · go_wp2_with fail
    refine (HT.out _ hb1).mono ?_
    rintro e W2 ⟨rfl, hb⟩
    have hb2 := hb1.trans (hb.mono hb1.size)
    go_wp2_with fail
    go_ret
    exact ⟨rfl, hb2⟩
end Go.Proofs.YtifafmomkpkgdaaGreatDoor
/- Walks: the reference's well-formed contracts. -/

namespace Go.Proofs.YtifafmomkpkgdaaGreatDoor
open Go.RowKit
namespace Z
theorem node_k1 {m : Nat} {t : CN m} {n : Nat} (h : t.k = 1) : nodeB (t, n) = (decide (n = 0) && (decide (t.fr = e0) && (decide (t.tu = e0) && (decide (t.nm = e0) && (decide (t.date = 0) && (decide (t.dates.length = 0) && bareX t.ex)))))) := by
  unfold nodeB
  rw [show pas ((t, n) : CN m × Nat).1.k = pas 1 from congrArg pas h, show pas 1 = some _ from rfl]
  change partB _ t n = _
  unfold partB wordB
  generalize decide (t.fr = e0) = f7
  generalize decide (t.tu = e0) = f8
  generalize decide (t.nm = e0) = f9
  generalize decide (t.date = 0) = f10
  generalize decide (t.dates.length = 0) = f11
  generalize bareX t.ex = f12
  generalize decide (n = 0) = bn
  rcases f7 with _ | _ <;> rcases f8 with _ | _ <;> rcases f9 with _ | _ <;> rcases f10 with _ | _ <;> rcases f11 with _ | _ <;> rcases f12 with _ | _ <;> rcases bn with _ | _ <;> rfl
theorem node_k2 {m : Nat} {t : CN m} {n : Nat} (h : t.k = 2) : nodeB (t, n) = (decide (n = 0) && (nameB t.fr && (nameB t.tu && ((!decide (t.fr = t.tu)) && (nameB t.nm && (numB (m + 1) t.ex && (decide (t.date = 0) && decide (t.dates.length = 0)))))))) := by
  unfold nodeB
  rw [show pas ((t, n) : CN m × Nat).1.k = pas 2 from congrArg pas h, show pas 2 = some _ from rfl]
  change partB _ t n = _
  unfold partB wordB
  generalize nameB t.fr = f5
  generalize nameB t.tu = bt
  generalize decide (t.fr = t.tu) = bu
  generalize nameB t.nm = f6
  generalize numB (m + 1) t.ex = f14
  generalize decide (t.date = 0) = f10
  generalize decide (t.dates.length = 0) = f11
  generalize decide (n = 0) = bn
  rcases f5 with _ | _ <;> rcases bt with _ | _ <;> rcases bu with _ | _ <;> rcases f6 with _ | _ <;> rcases f14 with _ | _ <;> rcases f10 with _ | _ <;> rcases f11 with _ | _ <;> rcases bn with _ | _ <;> rfl
theorem node_k3 {m : Nat} {t : CN m} {n : Nat} (h : t.k = 3) : nodeB (t, n) = (decide (n = 2) && (decide (t.fr = e0) && (decide (t.tu = e0) && (decide (t.nm = e0) && (decide (t.date = 0) && (decide (t.dates.length = 0) && bareX t.ex)))))) := by
  unfold nodeB
  rw [show pas ((t, n) : CN m × Nat).1.k = pas 3 from congrArg pas h, show pas 3 = some _ from rfl]
  change partB _ t n = _
  unfold partB wordB
  generalize decide (t.fr = e0) = f7
  generalize decide (t.tu = e0) = f8
  generalize decide (t.nm = e0) = f9
  generalize decide (t.date = 0) = f10
  generalize decide (t.dates.length = 0) = f11
  generalize bareX t.ex = f12
  generalize decide (n = 2) = bn
  rcases f7 with _ | _ <;> rcases f8 with _ | _ <;> rcases f9 with _ | _ <;> rcases f10 with _ | _ <;> rcases f11 with _ | _ <;> rcases f12 with _ | _ <;> rcases bn with _ | _ <;> rfl
theorem node_k4 {m : Nat} {t : CN m} {n : Nat} (h : t.k = 4) : nodeB (t, n) = (decide (n = 1) && (decide (t.fr = e0) && (decide (t.tu = e0) && (decide (t.nm = e0) && (decide (t.date = 0) && (decide (t.dates.length = 0) && numB (m + 1) t.ex)))))) := by
  unfold nodeB
  rw [show pas ((t, n) : CN m × Nat).1.k = pas 4 from congrArg pas h, show pas 4 = some _ from rfl]
  change partB _ t n = _
  unfold partB wordB
  generalize decide (t.fr = e0) = f7
  generalize decide (t.tu = e0) = f8
  generalize decide (t.nm = e0) = f9
  generalize decide (t.date = 0) = f10
  generalize decide (t.dates.length = 0) = f11
  generalize numB (m + 1) t.ex = f14
  generalize decide (n = 1) = bn
  rcases f7 with _ | _ <;> rcases f8 with _ | _ <;> rcases f9 with _ | _ <;> rcases f10 with _ | _ <;> rcases f11 with _ | _ <;> rcases f14 with _ | _ <;> rcases bn with _ | _ <;> rfl
theorem node_k5 {m : Nat} {t : CN m} {n : Nat} (h : t.k = 5) : nodeB (t, n) = (decide (n = 2) && (decide (t.fr = e0) && (decide (t.tu = e0) && (decide (t.nm = e0) && (decide (t.date = 0) && (decide (t.dates.length = 0) && truB (m + 1) t.ex)))))) := by
  unfold nodeB
  rw [show pas ((t, n) : CN m × Nat).1.k = pas 5 from congrArg pas h, show pas 5 = some _ from rfl]
  change partB _ t n = _
  unfold partB wordB
  generalize decide (t.fr = e0) = f7
  generalize decide (t.tu = e0) = f8
  generalize decide (t.nm = e0) = f9
  generalize decide (t.date = 0) = f10
  generalize decide (t.dates.length = 0) = f11
  generalize truB (m + 1) t.ex = f15
  generalize decide (n = 2) = bn
  rcases f7 with _ | _ <;> rcases f8 with _ | _ <;> rcases f9 with _ | _ <;> rcases f10 with _ | _ <;> rcases f11 with _ | _ <;> rcases f15 with _ | _ <;> rcases bn with _ | _ <;> rfl
theorem node_k6 {m : Nat} {t : CN m} {n : Nat} (h : t.k = 6) : nodeB (t, n) = (decide (n = 1) && (decide (t.fr = e0) && (decide (t.tu = e0) && (decide (t.nm = e0) && (dayC t.date && (decide (t.dates.length = 0) && bareX t.ex)))))) := by
  unfold nodeB
  rw [show pas ((t, n) : CN m × Nat).1.k = pas 6 from congrArg pas h, show pas 6 = some _ from rfl]
  change partB _ t n = _
  unfold partB wordB
  generalize decide (t.fr = e0) = f7
  generalize decide (t.tu = e0) = f8
  generalize decide (t.nm = e0) = f9
  generalize dayC t.date = bd
  generalize decide (t.dates.length = 0) = f11
  generalize bareX t.ex = f12
  generalize decide (n = 1) = bn
  rcases f7 with _ | _ <;> rcases f8 with _ | _ <;> rcases f9 with _ | _ <;> rcases bd with _ | _ <;> rcases f11 with _ | _ <;> rcases f12 with _ | _ <;> rcases bn with _ | _ <;> rfl
theorem node_k7 {m : Nat} {t : CN m} {n : Nat} (h : t.k = 7) : nodeB (t, n) = (decide (n = 2) && (nameB t.fr && (decide (t.tu = e0) && (nameB t.nm && (decide (t.date = 0) && (decide (t.dates.length = 0) && bareX t.ex)))))) := by
  unfold nodeB
  rw [show pas ((t, n) : CN m × Nat).1.k = pas 7 from congrArg pas h, show pas 7 = some _ from rfl]
  change partB _ t n = _
  unfold partB wordB
  generalize nameB t.fr = f5
  generalize decide (t.tu = e0) = f8
  generalize nameB t.nm = f6
  generalize decide (t.date = 0) = f10
  generalize decide (t.dates.length = 0) = f11
  generalize bareX t.ex = f12
  generalize decide (n = 2) = bn
  rcases f5 with _ | _ <;> rcases f8 with _ | _ <;> rcases f6 with _ | _ <;> rcases f10 with _ | _ <;> rcases f11 with _ | _ <;> rcases f12 with _ | _ <;> rcases bn with _ | _ <;> rfl
theorem node_k8 {m : Nat} {t : CN m} {n : Nat} (h : t.k = 8) : nodeB (t, n) = (decide (n = 1) && (nameB t.fr && (decide (t.tu = e0) && (nameB t.nm && (decide (t.date = 0) && (daysB t.dates && bareX t.ex)))))) := by
  unfold nodeB
  rw [show pas ((t, n) : CN m × Nat).1.k = pas 8 from congrArg pas h, show pas 8 = some _ from rfl]
  change partB _ t n = _
  unfold partB wordB
  generalize nameB t.fr = f5
  generalize decide (t.tu = e0) = f8
  generalize nameB t.nm = f6
  generalize decide (t.date = 0) = f10
  generalize daysB t.dates = f13
  generalize bareX t.ex = f12
  generalize decide (n = 1) = bn
  rcases f5 with _ | _ <;> rcases f8 with _ | _ <;> rcases f6 with _ | _ <;> rcases f10 with _ | _ <;> rcases f13 with _ | _ <;> rcases f12 with _ | _ <;> rcases bn with _ | _ <;> rfl
theorem node_k9 {m : Nat} {t : CN m} {n : Nat} (h : t.k = 9) : nodeB (t, n) = (decide (n = 1) && (decide (t.fr = e0) && (decide (t.tu = e0) && (decide (t.nm = e0) && (decide (t.date = 0) && (daysB t.dates && truB (m + 1) t.ex)))))) := by
  unfold nodeB
  rw [show pas ((t, n) : CN m × Nat).1.k = pas 9 from congrArg pas h, show pas 9 = some _ from rfl]
  change partB _ t n = _
  unfold partB wordB
  generalize decide (t.fr = e0) = f7
  generalize decide (t.tu = e0) = f8
  generalize decide (t.nm = e0) = f9
  generalize decide (t.date = 0) = f10
  generalize daysB t.dates = f13
  generalize truB (m + 1) t.ex = f15
  generalize decide (n = 1) = bn
  rcases f7 with _ | _ <;> rcases f8 with _ | _ <;> rcases f9 with _ | _ <;> rcases f10 with _ | _ <;> rcases f13 with _ | _ <;> rcases f15 with _ | _ <;> rcases bn with _ | _ <;> rfl
theorem node_k10 {m : Nat} {t : CN m} {n : Nat} (h : t.k = 10) : nodeB (t, n) = (decide (n = 1) && (decide (t.fr = e0) && (decide (t.tu = e0) && (decide (t.nm = e0) && (decide (t.date = 0) && (daysB t.dates && truB (m + 1) t.ex)))))) := by
  unfold nodeB
  rw [show pas ((t, n) : CN m × Nat).1.k = pas 10 from congrArg pas h, show pas 10 = some _ from rfl]
  change partB _ t n = _
  unfold partB wordB
  generalize decide (t.fr = e0) = f7
  generalize decide (t.tu = e0) = f8
  generalize decide (t.nm = e0) = f9
  generalize decide (t.date = 0) = f10
  generalize daysB t.dates = f13
  generalize truB (m + 1) t.ex = f15
  generalize decide (n = 1) = bn
  rcases f7 with _ | _ <;> rcases f8 with _ | _ <;> rcases f9 with _ | _ <;> rcases f10 with _ | _ <;> rcases f13 with _ | _ <;> rcases f15 with _ | _ <;> rcases bn with _ | _ <;> rfl
theorem node_kx {m : Nat} {t : CN m} {n : Nat} (h : ¬ (1 ≤ t.k ∧ t.k ≤ 10)) : nodeB (t, n) = false := by
  unfold nodeB
  have hp : pas ((t, n) : CN m × Nat).1.k = none := by
    show pas t.k = none
    unfold pas
    rw [if_neg (by omega), if_neg (by omega), if_neg (by omega), if_neg (by omega), if_neg (by omega), if_neg (by omega), if_neg (by omega), if_neg (by omega), if_neg (by omega), if_neg (by omega)]
  rw [hp]
end Z
set_option maxRecDepth 1000000 in
set_option maxHeartbeats 4000000 in
theorem rf_reg19 {W : World} {g n : Nat}  {f7 f8 f9 f10 f11 f12 p : Bool} {Q : Exit → Act → World → Prop} {y0 y2 y3 y5 y6 y13 y14 y15 y16 y17 y18 y19 y20 y21 y22 y23 y24 y25 y26 y27 y28 y29 y30 y31 y32 y33 y34 y35 y36 y37 y38 y39 y40 y41 y42 y43 y44 y45 y46 y47 y48 y49 y50 y51 y52 y53 y54 y55 y56 y57 y58 y59 y60 y61 y62 y63 y64 y65 y66 y67 y68 y69 y70 y71 y72 y73 y74 y75 y76 y77 y78 y79 y80 y81 y82 y83 y84 y85 y86 y87 y88 y89 y90 y91 y92 y93 y94 y95 y96 y97 y98 y99 y100 y101 y102 y103 y104 y105 y106 y107 y108 y109 y110 y111 y112 y113 y114 y115 y116 y117 y118 y119 y120 y121 y122 y123 y124 y125 y126 y127 y128 y129 y130 y131 y132 y133 y134 y135 y136 y137 y138 y139 y140 y141 y142 y143 y144 y145 y146 y147 y148 y149 y150 y151 y152 y153 y154 y155 y156 y157 y158 y159 y160 y161 y162 y163 y164 y165 y166 y167 y168 y169 y170 y171 y172 y173 y174 y175 y176 y177 y178 y179 y180 y181 y182 y183 y184 y185 y186 y187 y188 y189 y190 y191 y192 y193 y194 y195 y196 y197 y198 y199 y200 y201 y202 y203 y204 y205 y206 y207 y208 y209 y210 y211 y212 y213 y214 y215 y216 y217 y218 y219 y220 y221 y222 y223 y224 y225 y226 y227 y228 y229 y230 y231 y232 y233 y234 y235 y236 y237 y238 y239 y240 y241 y242 y243 y244 y245 y246 y247 y248 y249 y250 y251 y252 y253 y254 y255 y256 y257 y258 y259 y260 y261 y262 y263 y264 y265 y266 y267 y268 y269 y270 y271 y272 y273 y274 y275 y276 y277 y278 : Value}
     (HP : Hid (p = (decide (n = 0) && (f7 && (f8 && (f9 && (f10 && (f11 && f12))))))))
    (hnext : ∀ (u71 u72 u73 u74 u75 u76 u77 u78 u79 u80 u81 u82 u83 u84 u85 u86 u87 u88 u89 u90 : Value) (W' : World), W = W' → Q .normal ⟨(y0 :: .pointer (some ⟨g, 0, none⟩) :: .bool p :: y3 :: .int .i64 (n : Int) :: y5 :: y6 :: .bool f7 :: .bool f8 :: .bool f9 :: .bool f10 :: .bool f11 :: .bool f12 :: y13 :: y14 :: y15 :: y16 :: y17 :: y18 :: y19 :: y20 :: y21 :: y22 :: y23 :: y24 :: y25 :: y26 :: y27 :: y28 :: y29 :: y30 :: y31 :: y32 :: y33 :: y34 :: y35 :: y36 :: y37 :: y38 :: y39 :: y40 :: y41 :: y42 :: y43 :: y44 :: y45 :: y46 :: y47 :: y48 :: y49 :: y50 :: y51 :: y52 :: y53 :: y54 :: y55 :: y56 :: y57 :: y58 :: y59 :: y60 :: y61 :: y62 :: y63 :: y64 :: y65 :: y66 :: y67 :: y68 :: y69 :: y70 :: u71 :: u72 :: u73 :: u74 :: u75 :: u76 :: u77 :: u78 :: u79 :: u80 :: u81 :: u82 :: u83 :: u84 :: u85 :: u86 :: u87 :: u88 :: u89 :: u90 :: y91 :: y92 :: y93 :: y94 :: y95 :: y96 :: y97 :: y98 :: y99 :: y100 :: y101 :: y102 :: y103 :: y104 :: y105 :: y106 :: y107 :: y108 :: y109 :: y110 :: y111 :: y112 :: y113 :: y114 :: y115 :: y116 :: y117 :: y118 :: y119 :: y120 :: y121 :: y122 :: y123 :: y124 :: y125 :: y126 :: y127 :: y128 :: y129 :: y130 :: y131 :: y132 :: y133 :: y134 :: y135 :: y136 :: y137 :: y138 :: y139 :: y140 :: y141 :: y142 :: y143 :: y144 :: y145 :: y146 :: y147 :: y148 :: y149 :: y150 :: y151 :: y152 :: y153 :: y154 :: y155 :: y156 :: y157 :: y158 :: y159 :: y160 :: y161 :: y162 :: y163 :: y164 :: y165 :: y166 :: y167 :: y168 :: y169 :: y170 :: y171 :: y172 :: y173 :: y174 :: y175 :: y176 :: y177 :: y178 :: y179 :: y180 :: y181 :: y182 :: y183 :: y184 :: y185 :: y186 :: y187 :: y188 :: y189 :: y190 :: y191 :: y192 :: y193 :: y194 :: y195 :: y196 :: y197 :: y198 :: y199 :: y200 :: y201 :: y202 :: y203 :: y204 :: y205 :: y206 :: y207 :: y208 :: y209 :: y210 :: y211 :: y212 :: y213 :: y214 :: y215 :: y216 :: y217 :: y218 :: y219 :: y220 :: y221 :: y222 :: y223 :: y224 :: y225 :: y226 :: y227 :: y228 :: y229 :: y230 :: y231 :: y232 :: y233 :: y234 :: y235 :: y236 :: y237 :: y238 :: y239 :: y240 :: y241 :: y242 :: y243 :: y244 :: y245 :: y246 :: y247 :: y248 :: y249 :: y250 :: y251 :: y252 :: y253 :: y254 :: y255 :: y256 :: y257 :: y258 :: y259 :: y260 :: y261 :: y262 :: y263 :: y264 :: y265 :: y266 :: y267 :: y268 :: y269 :: y270 :: y271 :: y272 :: y273 :: y274 :: y275 :: y276 :: y277 :: y278 :: []).toArray, []⟩ W') :
    Code.wp Tryz.prog (goTo [1, 1, 1, 1, 1, 1, 1, 1, 1, 1, 1, 1, 1, 0, 1, 2, 1, 3, 0] (Tryz.f30.body.getD .skip)) Q ⟨(y0 :: .pointer (some ⟨g, 0, none⟩) :: y2 :: y3 :: .int .i64 (n : Int) :: y5 :: y6 :: .bool f7 :: .bool f8 :: .bool f9 :: .bool f10 :: .bool f11 :: .bool f12 :: y13 :: y14 :: y15 :: y16 :: y17 :: y18 :: y19 :: y20 :: y21 :: y22 :: y23 :: y24 :: y25 :: y26 :: y27 :: y28 :: y29 :: y30 :: y31 :: y32 :: y33 :: y34 :: y35 :: y36 :: y37 :: y38 :: y39 :: y40 :: y41 :: y42 :: y43 :: y44 :: y45 :: y46 :: y47 :: y48 :: y49 :: y50 :: y51 :: y52 :: y53 :: y54 :: y55 :: y56 :: y57 :: y58 :: y59 :: y60 :: y61 :: y62 :: y63 :: y64 :: y65 :: y66 :: y67 :: y68 :: y69 :: y70 :: y71 :: y72 :: y73 :: y74 :: y75 :: y76 :: y77 :: y78 :: y79 :: y80 :: y81 :: y82 :: y83 :: y84 :: y85 :: y86 :: y87 :: y88 :: y89 :: y90 :: y91 :: y92 :: y93 :: y94 :: y95 :: y96 :: y97 :: y98 :: y99 :: y100 :: y101 :: y102 :: y103 :: y104 :: y105 :: y106 :: y107 :: y108 :: y109 :: y110 :: y111 :: y112 :: y113 :: y114 :: y115 :: y116 :: y117 :: y118 :: y119 :: y120 :: y121 :: y122 :: y123 :: y124 :: y125 :: y126 :: y127 :: y128 :: y129 :: y130 :: y131 :: y132 :: y133 :: y134 :: y135 :: y136 :: y137 :: y138 :: y139 :: y140 :: y141 :: y142 :: y143 :: y144 :: y145 :: y146 :: y147 :: y148 :: y149 :: y150 :: y151 :: y152 :: y153 :: y154 :: y155 :: y156 :: y157 :: y158 :: y159 :: y160 :: y161 :: y162 :: y163 :: y164 :: y165 :: y166 :: y167 :: y168 :: y169 :: y170 :: y171 :: y172 :: y173 :: y174 :: y175 :: y176 :: y177 :: y178 :: y179 :: y180 :: y181 :: y182 :: y183 :: y184 :: y185 :: y186 :: y187 :: y188 :: y189 :: y190 :: y191 :: y192 :: y193 :: y194 :: y195 :: y196 :: y197 :: y198 :: y199 :: y200 :: y201 :: y202 :: y203 :: y204 :: y205 :: y206 :: y207 :: y208 :: y209 :: y210 :: y211 :: y212 :: y213 :: y214 :: y215 :: y216 :: y217 :: y218 :: y219 :: y220 :: y221 :: y222 :: y223 :: y224 :: y225 :: y226 :: y227 :: y228 :: y229 :: y230 :: y231 :: y232 :: y233 :: y234 :: y235 :: y236 :: y237 :: y238 :: y239 :: y240 :: y241 :: y242 :: y243 :: y244 :: y245 :: y246 :: y247 :: y248 :: y249 :: y250 :: y251 :: y252 :: y253 :: y254 :: y255 :: y256 :: y257 :: y258 :: y259 :: y260 :: y261 :: y262 :: y263 :: y264 :: y265 :: y266 :: y267 :: y268 :: y269 :: y270 :: y271 :: y272 :: y273 :: y274 :: y275 :: y276 :: y277 :: y278 :: []).toArray, []⟩ W := by
  conv => arg 2; whnf
  by_cases hn : n = 0
  rotate_left
  · have g1 : ((n : Int) == 0) = false := by rw [beq_eq_false_iff_ne]; omega
    obtain rfl : p = false := by rw [HP.out, decide_eq_false hn]; rfl
    clear hn
    go_wp2_with fail
    all_goals (first | exact rfl | (apply hnext; exact rfl) | apply hnext)
  subst hn
  rcases f7 with _ | _
  · (skip)
    obtain rfl : p = false := by rw [HP.out]; rfl
    go_wp2_with fail
    all_goals (first | exact rfl | (apply hnext; exact rfl) | apply hnext)
  rcases f8 with _ | _
  · (skip)
    obtain rfl : p = false := by rw [HP.out]; rfl
    go_wp2_with fail
    all_goals (first | exact rfl | (apply hnext; exact rfl) | apply hnext)
  rcases f9 with _ | _
  · (skip)
    obtain rfl : p = false := by rw [HP.out]; rfl
    go_wp2_with fail
    all_goals (first | exact rfl | (apply hnext; exact rfl) | apply hnext)
  rcases f10 with _ | _
  · (skip)
    obtain rfl : p = false := by rw [HP.out]; rfl
    go_wp2_with fail
    all_goals (first | exact rfl | (apply hnext; exact rfl) | apply hnext)
  rcases f11 with _ | _
  · (skip)
    obtain rfl : p = false := by rw [HP.out]; rfl
    go_wp2_with fail
    all_goals (first | exact rfl | (apply hnext; exact rfl) | apply hnext)
  obtain rfl : p = f12 := by rw [HP.out]; rcases f12 with _ | _ <;> rfl
  go_wp2_with fail
  all_goals (first | exact rfl | (apply hnext; exact rfl) | apply hnext)
set_option maxRecDepth 1000000 in
set_option maxHeartbeats 4000000 in
theorem rf_reg23 {W : World} {g n : Nat}  {f7 f8 f9 f10 f11 f12 p : Bool} {Q : Exit → Act → World → Prop} {y0 y2 y3 y5 y6 y13 y14 y15 y16 y17 y18 y19 y20 y21 y22 y23 y24 y25 y26 y27 y28 y29 y30 y31 y32 y33 y34 y35 y36 y37 y38 y39 y40 y41 y42 y43 y44 y45 y46 y47 y48 y49 y50 y51 y52 y53 y54 y55 y56 y57 y58 y59 y60 y61 y62 y63 y64 y65 y66 y67 y68 y69 y70 y71 y72 y73 y74 y75 y76 y77 y78 y79 y80 y81 y82 y83 y84 y85 y86 y87 y88 y89 y90 y91 y92 y93 y94 y95 y96 y97 y98 y99 y100 y101 y102 y103 y104 y105 y106 y107 y108 y109 y110 y111 y112 y113 y114 y115 y116 y117 y118 y119 y120 y121 y122 y123 y124 y125 y126 y127 y128 y129 y130 y131 y132 y133 y134 y135 y136 y137 y138 y139 y140 y141 y142 y143 y144 y145 y146 y147 y148 y149 y150 y151 y152 y153 y154 y155 y156 y157 y158 y159 y160 y161 y162 y163 y164 y165 y166 y167 y168 y169 y170 y171 y172 y173 y174 y175 y176 y177 y178 y179 y180 y181 y182 y183 y184 y185 y186 y187 y188 y189 y190 y191 y192 y193 y194 y195 y196 y197 y198 y199 y200 y201 y202 y203 y204 y205 y206 y207 y208 y209 y210 y211 y212 y213 y214 y215 y216 y217 y218 y219 y220 y221 y222 y223 y224 y225 y226 y227 y228 y229 y230 y231 y232 y233 y234 y235 y236 y237 y238 y239 y240 y241 y242 y243 y244 y245 y246 y247 y248 y249 y250 y251 y252 y253 y254 y255 y256 y257 y258 y259 y260 y261 y262 y263 y264 y265 y266 y267 y268 y269 y270 y271 y272 y273 y274 y275 y276 y277 y278 : Value}
     (HP : Hid (p = (decide (n = 2) && (f7 && (f8 && (f9 && (f10 && (f11 && f12))))))))
    (hnext : ∀ (u124 u125 u126 u127 u128 u129 u130 u131 u132 u133 u134 u135 u136 u137 u138 u139 u140 u141 u142 u143 : Value) (W' : World), W = W' → Q .normal ⟨(y0 :: .pointer (some ⟨g, 0, none⟩) :: .bool p :: y3 :: .int .i64 (n : Int) :: y5 :: y6 :: .bool f7 :: .bool f8 :: .bool f9 :: .bool f10 :: .bool f11 :: .bool f12 :: y13 :: y14 :: y15 :: y16 :: y17 :: y18 :: y19 :: y20 :: y21 :: y22 :: y23 :: y24 :: y25 :: y26 :: y27 :: y28 :: y29 :: y30 :: y31 :: y32 :: y33 :: y34 :: y35 :: y36 :: y37 :: y38 :: y39 :: y40 :: y41 :: y42 :: y43 :: y44 :: y45 :: y46 :: y47 :: y48 :: y49 :: y50 :: y51 :: y52 :: y53 :: y54 :: y55 :: y56 :: y57 :: y58 :: y59 :: y60 :: y61 :: y62 :: y63 :: y64 :: y65 :: y66 :: y67 :: y68 :: y69 :: y70 :: y71 :: y72 :: y73 :: y74 :: y75 :: y76 :: y77 :: y78 :: y79 :: y80 :: y81 :: y82 :: y83 :: y84 :: y85 :: y86 :: y87 :: y88 :: y89 :: y90 :: y91 :: y92 :: y93 :: y94 :: y95 :: y96 :: y97 :: y98 :: y99 :: y100 :: y101 :: y102 :: y103 :: y104 :: y105 :: y106 :: y107 :: y108 :: y109 :: y110 :: y111 :: y112 :: y113 :: y114 :: y115 :: y116 :: y117 :: y118 :: y119 :: y120 :: y121 :: y122 :: y123 :: u124 :: u125 :: u126 :: u127 :: u128 :: u129 :: u130 :: u131 :: u132 :: u133 :: u134 :: u135 :: u136 :: u137 :: u138 :: u139 :: u140 :: u141 :: u142 :: u143 :: y144 :: y145 :: y146 :: y147 :: y148 :: y149 :: y150 :: y151 :: y152 :: y153 :: y154 :: y155 :: y156 :: y157 :: y158 :: y159 :: y160 :: y161 :: y162 :: y163 :: y164 :: y165 :: y166 :: y167 :: y168 :: y169 :: y170 :: y171 :: y172 :: y173 :: y174 :: y175 :: y176 :: y177 :: y178 :: y179 :: y180 :: y181 :: y182 :: y183 :: y184 :: y185 :: y186 :: y187 :: y188 :: y189 :: y190 :: y191 :: y192 :: y193 :: y194 :: y195 :: y196 :: y197 :: y198 :: y199 :: y200 :: y201 :: y202 :: y203 :: y204 :: y205 :: y206 :: y207 :: y208 :: y209 :: y210 :: y211 :: y212 :: y213 :: y214 :: y215 :: y216 :: y217 :: y218 :: y219 :: y220 :: y221 :: y222 :: y223 :: y224 :: y225 :: y226 :: y227 :: y228 :: y229 :: y230 :: y231 :: y232 :: y233 :: y234 :: y235 :: y236 :: y237 :: y238 :: y239 :: y240 :: y241 :: y242 :: y243 :: y244 :: y245 :: y246 :: y247 :: y248 :: y249 :: y250 :: y251 :: y252 :: y253 :: y254 :: y255 :: y256 :: y257 :: y258 :: y259 :: y260 :: y261 :: y262 :: y263 :: y264 :: y265 :: y266 :: y267 :: y268 :: y269 :: y270 :: y271 :: y272 :: y273 :: y274 :: y275 :: y276 :: y277 :: y278 :: []).toArray, []⟩ W') :
    Code.wp Tryz.prog (goTo [1, 1, 1, 1, 1, 1, 1, 1, 1, 1, 1, 1, 1, 0, 1, 2, 1, 4, 1, 4, 1, 3, 0] (Tryz.f30.body.getD .skip)) Q ⟨(y0 :: .pointer (some ⟨g, 0, none⟩) :: y2 :: y3 :: .int .i64 (n : Int) :: y5 :: y6 :: .bool f7 :: .bool f8 :: .bool f9 :: .bool f10 :: .bool f11 :: .bool f12 :: y13 :: y14 :: y15 :: y16 :: y17 :: y18 :: y19 :: y20 :: y21 :: y22 :: y23 :: y24 :: y25 :: y26 :: y27 :: y28 :: y29 :: y30 :: y31 :: y32 :: y33 :: y34 :: y35 :: y36 :: y37 :: y38 :: y39 :: y40 :: y41 :: y42 :: y43 :: y44 :: y45 :: y46 :: y47 :: y48 :: y49 :: y50 :: y51 :: y52 :: y53 :: y54 :: y55 :: y56 :: y57 :: y58 :: y59 :: y60 :: y61 :: y62 :: y63 :: y64 :: y65 :: y66 :: y67 :: y68 :: y69 :: y70 :: y71 :: y72 :: y73 :: y74 :: y75 :: y76 :: y77 :: y78 :: y79 :: y80 :: y81 :: y82 :: y83 :: y84 :: y85 :: y86 :: y87 :: y88 :: y89 :: y90 :: y91 :: y92 :: y93 :: y94 :: y95 :: y96 :: y97 :: y98 :: y99 :: y100 :: y101 :: y102 :: y103 :: y104 :: y105 :: y106 :: y107 :: y108 :: y109 :: y110 :: y111 :: y112 :: y113 :: y114 :: y115 :: y116 :: y117 :: y118 :: y119 :: y120 :: y121 :: y122 :: y123 :: y124 :: y125 :: y126 :: y127 :: y128 :: y129 :: y130 :: y131 :: y132 :: y133 :: y134 :: y135 :: y136 :: y137 :: y138 :: y139 :: y140 :: y141 :: y142 :: y143 :: y144 :: y145 :: y146 :: y147 :: y148 :: y149 :: y150 :: y151 :: y152 :: y153 :: y154 :: y155 :: y156 :: y157 :: y158 :: y159 :: y160 :: y161 :: y162 :: y163 :: y164 :: y165 :: y166 :: y167 :: y168 :: y169 :: y170 :: y171 :: y172 :: y173 :: y174 :: y175 :: y176 :: y177 :: y178 :: y179 :: y180 :: y181 :: y182 :: y183 :: y184 :: y185 :: y186 :: y187 :: y188 :: y189 :: y190 :: y191 :: y192 :: y193 :: y194 :: y195 :: y196 :: y197 :: y198 :: y199 :: y200 :: y201 :: y202 :: y203 :: y204 :: y205 :: y206 :: y207 :: y208 :: y209 :: y210 :: y211 :: y212 :: y213 :: y214 :: y215 :: y216 :: y217 :: y218 :: y219 :: y220 :: y221 :: y222 :: y223 :: y224 :: y225 :: y226 :: y227 :: y228 :: y229 :: y230 :: y231 :: y232 :: y233 :: y234 :: y235 :: y236 :: y237 :: y238 :: y239 :: y240 :: y241 :: y242 :: y243 :: y244 :: y245 :: y246 :: y247 :: y248 :: y249 :: y250 :: y251 :: y252 :: y253 :: y254 :: y255 :: y256 :: y257 :: y258 :: y259 :: y260 :: y261 :: y262 :: y263 :: y264 :: y265 :: y266 :: y267 :: y268 :: y269 :: y270 :: y271 :: y272 :: y273 :: y274 :: y275 :: y276 :: y277 :: y278 :: []).toArray, []⟩ W := by
  conv => arg 2; whnf
  by_cases hn : n = 2
  rotate_left
  · have g1 : ((n : Int) == 2) = false := by rw [beq_eq_false_iff_ne]; omega
    obtain rfl : p = false := by rw [HP.out, decide_eq_false hn]; rfl
    clear hn
    go_wp2_with fail
    all_goals (first | exact rfl | (apply hnext; exact rfl) | apply hnext)
  subst hn
  rcases f7 with _ | _
  · (skip)
    obtain rfl : p = false := by rw [HP.out]; rfl
    go_wp2_with fail
    all_goals (first | exact rfl | (apply hnext; exact rfl) | apply hnext)
  rcases f8 with _ | _
  · (skip)
    obtain rfl : p = false := by rw [HP.out]; rfl
    go_wp2_with fail
    all_goals (first | exact rfl | (apply hnext; exact rfl) | apply hnext)
  rcases f9 with _ | _
  · (skip)
    obtain rfl : p = false := by rw [HP.out]; rfl
    go_wp2_with fail
    all_goals (first | exact rfl | (apply hnext; exact rfl) | apply hnext)
  rcases f10 with _ | _
  · (skip)
    obtain rfl : p = false := by rw [HP.out]; rfl
    go_wp2_with fail
    all_goals (first | exact rfl | (apply hnext; exact rfl) | apply hnext)
  rcases f11 with _ | _
  · (skip)
    obtain rfl : p = false := by rw [HP.out]; rfl
    go_wp2_with fail
    all_goals (first | exact rfl | (apply hnext; exact rfl) | apply hnext)
  obtain rfl : p = f12 := by rw [HP.out]; rcases f12 with _ | _ <;> rfl
  go_wp2_with fail
  all_goals (first | exact rfl | (apply hnext; exact rfl) | apply hnext)
set_option maxRecDepth 1000000 in
set_option maxHeartbeats 4000000 in
theorem rf_reg25 {W : World} {g n : Nat}  {f7 f8 f9 f10 f11 f14 p : Bool} {Q : Exit → Act → World → Prop} {y0 y2 y3 y5 y6 y12 y13 y15 y16 y17 y18 y19 y20 y21 y22 y23 y24 y25 y26 y27 y28 y29 y30 y31 y32 y33 y34 y35 y36 y37 y38 y39 y40 y41 y42 y43 y44 y45 y46 y47 y48 y49 y50 y51 y52 y53 y54 y55 y56 y57 y58 y59 y60 y61 y62 y63 y64 y65 y66 y67 y68 y69 y70 y71 y72 y73 y74 y75 y76 y77 y78 y79 y80 y81 y82 y83 y84 y85 y86 y87 y88 y89 y90 y91 y92 y93 y94 y95 y96 y97 y98 y99 y100 y101 y102 y103 y104 y105 y106 y107 y108 y109 y110 y111 y112 y113 y114 y115 y116 y117 y118 y119 y120 y121 y122 y123 y124 y125 y126 y127 y128 y129 y130 y131 y132 y133 y134 y135 y136 y137 y138 y139 y140 y141 y142 y143 y144 y145 y146 y147 y148 y149 y150 y151 y152 y153 y154 y155 y156 y157 y158 y159 y160 y161 y162 y163 y164 y165 y166 y167 y168 y169 y170 y171 y172 y173 y174 y175 y176 y177 y178 y179 y180 y181 y182 y183 y184 y185 y186 y187 y188 y189 y190 y191 y192 y193 y194 y195 y196 y197 y198 y199 y200 y201 y202 y203 y204 y205 y206 y207 y208 y209 y210 y211 y212 y213 y214 y215 y216 y217 y218 y219 y220 y221 y222 y223 y224 y225 y226 y227 y228 y229 y230 y231 y232 y233 y234 y235 y236 y237 y238 y239 y240 y241 y242 y243 y244 y245 y246 y247 y248 y249 y250 y251 y252 y253 y254 y255 y256 y257 y258 y259 y260 y261 y262 y263 y264 y265 y266 y267 y268 y269 y270 y271 y272 y273 y274 y275 y276 y277 y278 : Value}
     (HP : Hid (p = (decide (n = 1) && (f7 && (f8 && (f9 && (f10 && (f11 && f14))))))))
    (hnext : ∀ (u146 u147 u148 u149 u150 u151 u152 u153 u154 u155 u156 u157 u158 u159 u160 u161 u162 u163 u164 u165 : Value) (W' : World), W = W' → Q .normal ⟨(y0 :: .pointer (some ⟨g, 0, none⟩) :: .bool p :: y3 :: .int .i64 (n : Int) :: y5 :: y6 :: .bool f7 :: .bool f8 :: .bool f9 :: .bool f10 :: .bool f11 :: y12 :: y13 :: .bool f14 :: y15 :: y16 :: y17 :: y18 :: y19 :: y20 :: y21 :: y22 :: y23 :: y24 :: y25 :: y26 :: y27 :: y28 :: y29 :: y30 :: y31 :: y32 :: y33 :: y34 :: y35 :: y36 :: y37 :: y38 :: y39 :: y40 :: y41 :: y42 :: y43 :: y44 :: y45 :: y46 :: y47 :: y48 :: y49 :: y50 :: y51 :: y52 :: y53 :: y54 :: y55 :: y56 :: y57 :: y58 :: y59 :: y60 :: y61 :: y62 :: y63 :: y64 :: y65 :: y66 :: y67 :: y68 :: y69 :: y70 :: y71 :: y72 :: y73 :: y74 :: y75 :: y76 :: y77 :: y78 :: y79 :: y80 :: y81 :: y82 :: y83 :: y84 :: y85 :: y86 :: y87 :: y88 :: y89 :: y90 :: y91 :: y92 :: y93 :: y94 :: y95 :: y96 :: y97 :: y98 :: y99 :: y100 :: y101 :: y102 :: y103 :: y104 :: y105 :: y106 :: y107 :: y108 :: y109 :: y110 :: y111 :: y112 :: y113 :: y114 :: y115 :: y116 :: y117 :: y118 :: y119 :: y120 :: y121 :: y122 :: y123 :: y124 :: y125 :: y126 :: y127 :: y128 :: y129 :: y130 :: y131 :: y132 :: y133 :: y134 :: y135 :: y136 :: y137 :: y138 :: y139 :: y140 :: y141 :: y142 :: y143 :: y144 :: y145 :: u146 :: u147 :: u148 :: u149 :: u150 :: u151 :: u152 :: u153 :: u154 :: u155 :: u156 :: u157 :: u158 :: u159 :: u160 :: u161 :: u162 :: u163 :: u164 :: u165 :: y166 :: y167 :: y168 :: y169 :: y170 :: y171 :: y172 :: y173 :: y174 :: y175 :: y176 :: y177 :: y178 :: y179 :: y180 :: y181 :: y182 :: y183 :: y184 :: y185 :: y186 :: y187 :: y188 :: y189 :: y190 :: y191 :: y192 :: y193 :: y194 :: y195 :: y196 :: y197 :: y198 :: y199 :: y200 :: y201 :: y202 :: y203 :: y204 :: y205 :: y206 :: y207 :: y208 :: y209 :: y210 :: y211 :: y212 :: y213 :: y214 :: y215 :: y216 :: y217 :: y218 :: y219 :: y220 :: y221 :: y222 :: y223 :: y224 :: y225 :: y226 :: y227 :: y228 :: y229 :: y230 :: y231 :: y232 :: y233 :: y234 :: y235 :: y236 :: y237 :: y238 :: y239 :: y240 :: y241 :: y242 :: y243 :: y244 :: y245 :: y246 :: y247 :: y248 :: y249 :: y250 :: y251 :: y252 :: y253 :: y254 :: y255 :: y256 :: y257 :: y258 :: y259 :: y260 :: y261 :: y262 :: y263 :: y264 :: y265 :: y266 :: y267 :: y268 :: y269 :: y270 :: y271 :: y272 :: y273 :: y274 :: y275 :: y276 :: y277 :: y278 :: []).toArray, []⟩ W') :
    Code.wp Tryz.prog (goTo [1, 1, 1, 1, 1, 1, 1, 1, 1, 1, 1, 1, 1, 0, 1, 2, 1, 4, 1, 4, 1, 4, 1, 3, 0] (Tryz.f30.body.getD .skip)) Q ⟨(y0 :: .pointer (some ⟨g, 0, none⟩) :: y2 :: y3 :: .int .i64 (n : Int) :: y5 :: y6 :: .bool f7 :: .bool f8 :: .bool f9 :: .bool f10 :: .bool f11 :: y12 :: y13 :: .bool f14 :: y15 :: y16 :: y17 :: y18 :: y19 :: y20 :: y21 :: y22 :: y23 :: y24 :: y25 :: y26 :: y27 :: y28 :: y29 :: y30 :: y31 :: y32 :: y33 :: y34 :: y35 :: y36 :: y37 :: y38 :: y39 :: y40 :: y41 :: y42 :: y43 :: y44 :: y45 :: y46 :: y47 :: y48 :: y49 :: y50 :: y51 :: y52 :: y53 :: y54 :: y55 :: y56 :: y57 :: y58 :: y59 :: y60 :: y61 :: y62 :: y63 :: y64 :: y65 :: y66 :: y67 :: y68 :: y69 :: y70 :: y71 :: y72 :: y73 :: y74 :: y75 :: y76 :: y77 :: y78 :: y79 :: y80 :: y81 :: y82 :: y83 :: y84 :: y85 :: y86 :: y87 :: y88 :: y89 :: y90 :: y91 :: y92 :: y93 :: y94 :: y95 :: y96 :: y97 :: y98 :: y99 :: y100 :: y101 :: y102 :: y103 :: y104 :: y105 :: y106 :: y107 :: y108 :: y109 :: y110 :: y111 :: y112 :: y113 :: y114 :: y115 :: y116 :: y117 :: y118 :: y119 :: y120 :: y121 :: y122 :: y123 :: y124 :: y125 :: y126 :: y127 :: y128 :: y129 :: y130 :: y131 :: y132 :: y133 :: y134 :: y135 :: y136 :: y137 :: y138 :: y139 :: y140 :: y141 :: y142 :: y143 :: y144 :: y145 :: y146 :: y147 :: y148 :: y149 :: y150 :: y151 :: y152 :: y153 :: y154 :: y155 :: y156 :: y157 :: y158 :: y159 :: y160 :: y161 :: y162 :: y163 :: y164 :: y165 :: y166 :: y167 :: y168 :: y169 :: y170 :: y171 :: y172 :: y173 :: y174 :: y175 :: y176 :: y177 :: y178 :: y179 :: y180 :: y181 :: y182 :: y183 :: y184 :: y185 :: y186 :: y187 :: y188 :: y189 :: y190 :: y191 :: y192 :: y193 :: y194 :: y195 :: y196 :: y197 :: y198 :: y199 :: y200 :: y201 :: y202 :: y203 :: y204 :: y205 :: y206 :: y207 :: y208 :: y209 :: y210 :: y211 :: y212 :: y213 :: y214 :: y215 :: y216 :: y217 :: y218 :: y219 :: y220 :: y221 :: y222 :: y223 :: y224 :: y225 :: y226 :: y227 :: y228 :: y229 :: y230 :: y231 :: y232 :: y233 :: y234 :: y235 :: y236 :: y237 :: y238 :: y239 :: y240 :: y241 :: y242 :: y243 :: y244 :: y245 :: y246 :: y247 :: y248 :: y249 :: y250 :: y251 :: y252 :: y253 :: y254 :: y255 :: y256 :: y257 :: y258 :: y259 :: y260 :: y261 :: y262 :: y263 :: y264 :: y265 :: y266 :: y267 :: y268 :: y269 :: y270 :: y271 :: y272 :: y273 :: y274 :: y275 :: y276 :: y277 :: y278 :: []).toArray, []⟩ W := by
  conv => arg 2; whnf
  by_cases hn : n = 1
  rotate_left
  · have g1 : ((n : Int) == 1) = false := by rw [beq_eq_false_iff_ne]; omega
    obtain rfl : p = false := by rw [HP.out, decide_eq_false hn]; rfl
    clear hn
    go_wp2_with fail
    all_goals (first | exact rfl | (apply hnext; exact rfl) | apply hnext)
  subst hn
  rcases f7 with _ | _
  · (skip)
    obtain rfl : p = false := by rw [HP.out]; rfl
    go_wp2_with fail
    all_goals (first | exact rfl | (apply hnext; exact rfl) | apply hnext)
  rcases f8 with _ | _
  · (skip)
    obtain rfl : p = false := by rw [HP.out]; rfl
    go_wp2_with fail
    all_goals (first | exact rfl | (apply hnext; exact rfl) | apply hnext)
  rcases f9 with _ | _
  · (skip)
    obtain rfl : p = false := by rw [HP.out]; rfl
    go_wp2_with fail
    all_goals (first | exact rfl | (apply hnext; exact rfl) | apply hnext)
  rcases f10 with _ | _
  · (skip)
    obtain rfl : p = false := by rw [HP.out]; rfl
    go_wp2_with fail
    all_goals (first | exact rfl | (apply hnext; exact rfl) | apply hnext)
  rcases f11 with _ | _
  · (skip)
    obtain rfl : p = false := by rw [HP.out]; rfl
    go_wp2_with fail
    all_goals (first | exact rfl | (apply hnext; exact rfl) | apply hnext)
  obtain rfl : p = f14 := by rw [HP.out]; rcases f14 with _ | _ <;> rfl
  go_wp2_with fail
  all_goals (first | exact rfl | (apply hnext; exact rfl) | apply hnext)
set_option maxRecDepth 1000000 in
set_option maxHeartbeats 4000000 in
theorem rf_reg27 {W : World} {g n : Nat}  {f7 f8 f9 f10 f11 f15 p : Bool} {Q : Exit → Act → World → Prop} {y0 y2 y3 y5 y6 y12 y13 y14 y16 y17 y18 y19 y20 y21 y22 y23 y24 y25 y26 y27 y28 y29 y30 y31 y32 y33 y34 y35 y36 y37 y38 y39 y40 y41 y42 y43 y44 y45 y46 y47 y48 y49 y50 y51 y52 y53 y54 y55 y56 y57 y58 y59 y60 y61 y62 y63 y64 y65 y66 y67 y68 y69 y70 y71 y72 y73 y74 y75 y76 y77 y78 y79 y80 y81 y82 y83 y84 y85 y86 y87 y88 y89 y90 y91 y92 y93 y94 y95 y96 y97 y98 y99 y100 y101 y102 y103 y104 y105 y106 y107 y108 y109 y110 y111 y112 y113 y114 y115 y116 y117 y118 y119 y120 y121 y122 y123 y124 y125 y126 y127 y128 y129 y130 y131 y132 y133 y134 y135 y136 y137 y138 y139 y140 y141 y142 y143 y144 y145 y146 y147 y148 y149 y150 y151 y152 y153 y154 y155 y156 y157 y158 y159 y160 y161 y162 y163 y164 y165 y166 y167 y168 y169 y170 y171 y172 y173 y174 y175 y176 y177 y178 y179 y180 y181 y182 y183 y184 y185 y186 y187 y188 y189 y190 y191 y192 y193 y194 y195 y196 y197 y198 y199 y200 y201 y202 y203 y204 y205 y206 y207 y208 y209 y210 y211 y212 y213 y214 y215 y216 y217 y218 y219 y220 y221 y222 y223 y224 y225 y226 y227 y228 y229 y230 y231 y232 y233 y234 y235 y236 y237 y238 y239 y240 y241 y242 y243 y244 y245 y246 y247 y248 y249 y250 y251 y252 y253 y254 y255 y256 y257 y258 y259 y260 y261 y262 y263 y264 y265 y266 y267 y268 y269 y270 y271 y272 y273 y274 y275 y276 y277 y278 : Value}
     (HP : Hid (p = (decide (n = 2) && (f7 && (f8 && (f9 && (f10 && (f11 && f15))))))))
    (hnext : ∀ (u168 u169 u170 u171 u172 u173 u174 u175 u176 u177 u178 u179 u180 u181 u182 u183 u184 u185 u186 u187 : Value) (W' : World), W = W' → Q .normal ⟨(y0 :: .pointer (some ⟨g, 0, none⟩) :: .bool p :: y3 :: .int .i64 (n : Int) :: y5 :: y6 :: .bool f7 :: .bool f8 :: .bool f9 :: .bool f10 :: .bool f11 :: y12 :: y13 :: y14 :: .bool f15 :: y16 :: y17 :: y18 :: y19 :: y20 :: y21 :: y22 :: y23 :: y24 :: y25 :: y26 :: y27 :: y28 :: y29 :: y30 :: y31 :: y32 :: y33 :: y34 :: y35 :: y36 :: y37 :: y38 :: y39 :: y40 :: y41 :: y42 :: y43 :: y44 :: y45 :: y46 :: y47 :: y48 :: y49 :: y50 :: y51 :: y52 :: y53 :: y54 :: y55 :: y56 :: y57 :: y58 :: y59 :: y60 :: y61 :: y62 :: y63 :: y64 :: y65 :: y66 :: y67 :: y68 :: y69 :: y70 :: y71 :: y72 :: y73 :: y74 :: y75 :: y76 :: y77 :: y78 :: y79 :: y80 :: y81 :: y82 :: y83 :: y84 :: y85 :: y86 :: y87 :: y88 :: y89 :: y90 :: y91 :: y92 :: y93 :: y94 :: y95 :: y96 :: y97 :: y98 :: y99 :: y100 :: y101 :: y102 :: y103 :: y104 :: y105 :: y106 :: y107 :: y108 :: y109 :: y110 :: y111 :: y112 :: y113 :: y114 :: y115 :: y116 :: y117 :: y118 :: y119 :: y120 :: y121 :: y122 :: y123 :: y124 :: y125 :: y126 :: y127 :: y128 :: y129 :: y130 :: y131 :: y132 :: y133 :: y134 :: y135 :: y136 :: y137 :: y138 :: y139 :: y140 :: y141 :: y142 :: y143 :: y144 :: y145 :: y146 :: y147 :: y148 :: y149 :: y150 :: y151 :: y152 :: y153 :: y154 :: y155 :: y156 :: y157 :: y158 :: y159 :: y160 :: y161 :: y162 :: y163 :: y164 :: y165 :: y166 :: y167 :: u168 :: u169 :: u170 :: u171 :: u172 :: u173 :: u174 :: u175 :: u176 :: u177 :: u178 :: u179 :: u180 :: u181 :: u182 :: u183 :: u184 :: u185 :: u186 :: u187 :: y188 :: y189 :: y190 :: y191 :: y192 :: y193 :: y194 :: y195 :: y196 :: y197 :: y198 :: y199 :: y200 :: y201 :: y202 :: y203 :: y204 :: y205 :: y206 :: y207 :: y208 :: y209 :: y210 :: y211 :: y212 :: y213 :: y214 :: y215 :: y216 :: y217 :: y218 :: y219 :: y220 :: y221 :: y222 :: y223 :: y224 :: y225 :: y226 :: y227 :: y228 :: y229 :: y230 :: y231 :: y232 :: y233 :: y234 :: y235 :: y236 :: y237 :: y238 :: y239 :: y240 :: y241 :: y242 :: y243 :: y244 :: y245 :: y246 :: y247 :: y248 :: y249 :: y250 :: y251 :: y252 :: y253 :: y254 :: y255 :: y256 :: y257 :: y258 :: y259 :: y260 :: y261 :: y262 :: y263 :: y264 :: y265 :: y266 :: y267 :: y268 :: y269 :: y270 :: y271 :: y272 :: y273 :: y274 :: y275 :: y276 :: y277 :: y278 :: []).toArray, []⟩ W') :
    Code.wp Tryz.prog (goTo [1, 1, 1, 1, 1, 1, 1, 1, 1, 1, 1, 1, 1, 0, 1, 2, 1, 4, 1, 4, 1, 4, 1, 4, 1, 3, 0] (Tryz.f30.body.getD .skip)) Q ⟨(y0 :: .pointer (some ⟨g, 0, none⟩) :: y2 :: y3 :: .int .i64 (n : Int) :: y5 :: y6 :: .bool f7 :: .bool f8 :: .bool f9 :: .bool f10 :: .bool f11 :: y12 :: y13 :: y14 :: .bool f15 :: y16 :: y17 :: y18 :: y19 :: y20 :: y21 :: y22 :: y23 :: y24 :: y25 :: y26 :: y27 :: y28 :: y29 :: y30 :: y31 :: y32 :: y33 :: y34 :: y35 :: y36 :: y37 :: y38 :: y39 :: y40 :: y41 :: y42 :: y43 :: y44 :: y45 :: y46 :: y47 :: y48 :: y49 :: y50 :: y51 :: y52 :: y53 :: y54 :: y55 :: y56 :: y57 :: y58 :: y59 :: y60 :: y61 :: y62 :: y63 :: y64 :: y65 :: y66 :: y67 :: y68 :: y69 :: y70 :: y71 :: y72 :: y73 :: y74 :: y75 :: y76 :: y77 :: y78 :: y79 :: y80 :: y81 :: y82 :: y83 :: y84 :: y85 :: y86 :: y87 :: y88 :: y89 :: y90 :: y91 :: y92 :: y93 :: y94 :: y95 :: y96 :: y97 :: y98 :: y99 :: y100 :: y101 :: y102 :: y103 :: y104 :: y105 :: y106 :: y107 :: y108 :: y109 :: y110 :: y111 :: y112 :: y113 :: y114 :: y115 :: y116 :: y117 :: y118 :: y119 :: y120 :: y121 :: y122 :: y123 :: y124 :: y125 :: y126 :: y127 :: y128 :: y129 :: y130 :: y131 :: y132 :: y133 :: y134 :: y135 :: y136 :: y137 :: y138 :: y139 :: y140 :: y141 :: y142 :: y143 :: y144 :: y145 :: y146 :: y147 :: y148 :: y149 :: y150 :: y151 :: y152 :: y153 :: y154 :: y155 :: y156 :: y157 :: y158 :: y159 :: y160 :: y161 :: y162 :: y163 :: y164 :: y165 :: y166 :: y167 :: y168 :: y169 :: y170 :: y171 :: y172 :: y173 :: y174 :: y175 :: y176 :: y177 :: y178 :: y179 :: y180 :: y181 :: y182 :: y183 :: y184 :: y185 :: y186 :: y187 :: y188 :: y189 :: y190 :: y191 :: y192 :: y193 :: y194 :: y195 :: y196 :: y197 :: y198 :: y199 :: y200 :: y201 :: y202 :: y203 :: y204 :: y205 :: y206 :: y207 :: y208 :: y209 :: y210 :: y211 :: y212 :: y213 :: y214 :: y215 :: y216 :: y217 :: y218 :: y219 :: y220 :: y221 :: y222 :: y223 :: y224 :: y225 :: y226 :: y227 :: y228 :: y229 :: y230 :: y231 :: y232 :: y233 :: y234 :: y235 :: y236 :: y237 :: y238 :: y239 :: y240 :: y241 :: y242 :: y243 :: y244 :: y245 :: y246 :: y247 :: y248 :: y249 :: y250 :: y251 :: y252 :: y253 :: y254 :: y255 :: y256 :: y257 :: y258 :: y259 :: y260 :: y261 :: y262 :: y263 :: y264 :: y265 :: y266 :: y267 :: y268 :: y269 :: y270 :: y271 :: y272 :: y273 :: y274 :: y275 :: y276 :: y277 :: y278 :: []).toArray, []⟩ W := by
  conv => arg 2; whnf
  by_cases hn : n = 2
  rotate_left
  · have g1 : ((n : Int) == 2) = false := by rw [beq_eq_false_iff_ne]; omega
    obtain rfl : p = false := by rw [HP.out, decide_eq_false hn]; rfl
    clear hn
    go_wp2_with fail
    all_goals (first | exact rfl | (apply hnext; exact rfl) | apply hnext)
  subst hn
  rcases f7 with _ | _
  · (skip)
    obtain rfl : p = false := by rw [HP.out]; rfl
    go_wp2_with fail
    all_goals (first | exact rfl | (apply hnext; exact rfl) | apply hnext)
  rcases f8 with _ | _
  · (skip)
    obtain rfl : p = false := by rw [HP.out]; rfl
    go_wp2_with fail
    all_goals (first | exact rfl | (apply hnext; exact rfl) | apply hnext)
  rcases f9 with _ | _
  · (skip)
    obtain rfl : p = false := by rw [HP.out]; rfl
    go_wp2_with fail
    all_goals (first | exact rfl | (apply hnext; exact rfl) | apply hnext)
  rcases f10 with _ | _
  · (skip)
    obtain rfl : p = false := by rw [HP.out]; rfl
    go_wp2_with fail
    all_goals (first | exact rfl | (apply hnext; exact rfl) | apply hnext)
  rcases f11 with _ | _
  · (skip)
    obtain rfl : p = false := by rw [HP.out]; rfl
    go_wp2_with fail
    all_goals (first | exact rfl | (apply hnext; exact rfl) | apply hnext)
  obtain rfl : p = f15 := by rw [HP.out]; rcases f15 with _ | _ <;> rfl
  go_wp2_with fail
  all_goals (first | exact rfl | (apply hnext; exact rfl) | apply hnext)
set_option maxRecDepth 1000000 in
set_option maxHeartbeats 4000000 in
theorem rf_reg29 {W : World} {g n : Nat} {date : Int} {f7 f8 f9 bd f11 f12 p : Bool} {Q : Exit → Act → World → Prop} {y0 y2 y3 y5 y6 y10 y13 y14 y15 y16 y17 y18 y19 y20 y21 y22 y23 y24 y25 y26 y27 y28 y29 y30 y31 y32 y33 y34 y35 y36 y37 y38 y39 y40 y41 y42 y43 y44 y45 y46 y47 y48 y49 y50 y51 y52 y53 y54 y55 y56 y57 y58 y59 y60 y61 y62 y63 y64 y65 y66 y67 y68 y69 y70 y71 y72 y73 y74 y75 y76 y77 y78 y79 y80 y81 y82 y83 y84 y85 y86 y87 y88 y89 y90 y91 y92 y93 y94 y95 y96 y97 y98 y99 y100 y101 y102 y103 y104 y105 y106 y107 y108 y109 y110 y111 y112 y113 y114 y115 y116 y117 y118 y119 y120 y121 y122 y123 y124 y125 y126 y127 y128 y129 y130 y131 y132 y133 y134 y135 y136 y137 y138 y139 y140 y141 y142 y143 y144 y145 y146 y147 y148 y149 y150 y151 y152 y153 y154 y155 y156 y157 y158 y159 y160 y161 y162 y163 y164 y165 y166 y167 y168 y169 y170 y171 y172 y173 y174 y175 y176 y177 y178 y179 y180 y181 y182 y183 y184 y185 y186 y187 y188 y189 y190 y191 y192 y193 y194 y195 y196 y197 y198 y199 y200 y201 y202 y203 y204 y205 y206 y207 y208 y209 y210 y211 y212 y213 y214 y215 y216 y217 y218 y219 y220 y221 y222 y223 y224 y225 y226 y227 y228 y229 y230 y231 y232 y233 y234 y235 y236 y237 y238 y239 y240 y241 y242 y243 y244 y245 y246 y247 y248 y249 y250 y251 y252 y253 y254 y255 y256 y257 y258 y259 y260 y261 y262 y263 y264 y265 y266 y267 y268 y269 y270 y271 y272 y273 y274 y275 y276 y277 y278 : Value}
    (c9 : W.cell? ⟨g, 9, none⟩ = some (.int .i64 date)) (HDA : Hid (∀ W : World, Calls Tryz.prog 48 #[.int .i64 date] W fun e w' => e = .returned (.bool bd) ∧ W = w')) (HP : Hid (p = (decide (n = 1) && (f7 && (f8 && (f9 && (bd && (f11 && f12))))))))
    (hnext : ∀ (u190 u191 u192 u193 u194 u195 u196 u197 u198 u199 u200 u201 u202 u203 u204 u205 u206 u207 u208 u209 u210 u211 : Value) (W' : World), W = W' → Q .normal ⟨(y0 :: .pointer (some ⟨g, 0, none⟩) :: .bool p :: y3 :: .int .i64 (n : Int) :: y5 :: y6 :: .bool f7 :: .bool f8 :: .bool f9 :: y10 :: .bool f11 :: .bool f12 :: y13 :: y14 :: y15 :: y16 :: y17 :: y18 :: y19 :: y20 :: y21 :: y22 :: y23 :: y24 :: y25 :: y26 :: y27 :: y28 :: y29 :: y30 :: y31 :: y32 :: y33 :: y34 :: y35 :: y36 :: y37 :: y38 :: y39 :: y40 :: y41 :: y42 :: y43 :: y44 :: y45 :: y46 :: y47 :: y48 :: y49 :: y50 :: y51 :: y52 :: y53 :: y54 :: y55 :: y56 :: y57 :: y58 :: y59 :: y60 :: y61 :: y62 :: y63 :: y64 :: y65 :: y66 :: y67 :: y68 :: y69 :: y70 :: y71 :: y72 :: y73 :: y74 :: y75 :: y76 :: y77 :: y78 :: y79 :: y80 :: y81 :: y82 :: y83 :: y84 :: y85 :: y86 :: y87 :: y88 :: y89 :: y90 :: y91 :: y92 :: y93 :: y94 :: y95 :: y96 :: y97 :: y98 :: y99 :: y100 :: y101 :: y102 :: y103 :: y104 :: y105 :: y106 :: y107 :: y108 :: y109 :: y110 :: y111 :: y112 :: y113 :: y114 :: y115 :: y116 :: y117 :: y118 :: y119 :: y120 :: y121 :: y122 :: y123 :: y124 :: y125 :: y126 :: y127 :: y128 :: y129 :: y130 :: y131 :: y132 :: y133 :: y134 :: y135 :: y136 :: y137 :: y138 :: y139 :: y140 :: y141 :: y142 :: y143 :: y144 :: y145 :: y146 :: y147 :: y148 :: y149 :: y150 :: y151 :: y152 :: y153 :: y154 :: y155 :: y156 :: y157 :: y158 :: y159 :: y160 :: y161 :: y162 :: y163 :: y164 :: y165 :: y166 :: y167 :: y168 :: y169 :: y170 :: y171 :: y172 :: y173 :: y174 :: y175 :: y176 :: y177 :: y178 :: y179 :: y180 :: y181 :: y182 :: y183 :: y184 :: y185 :: y186 :: y187 :: y188 :: y189 :: u190 :: u191 :: u192 :: u193 :: u194 :: u195 :: u196 :: u197 :: u198 :: u199 :: u200 :: u201 :: u202 :: u203 :: u204 :: u205 :: u206 :: u207 :: u208 :: u209 :: u210 :: u211 :: y212 :: y213 :: y214 :: y215 :: y216 :: y217 :: y218 :: y219 :: y220 :: y221 :: y222 :: y223 :: y224 :: y225 :: y226 :: y227 :: y228 :: y229 :: y230 :: y231 :: y232 :: y233 :: y234 :: y235 :: y236 :: y237 :: y238 :: y239 :: y240 :: y241 :: y242 :: y243 :: y244 :: y245 :: y246 :: y247 :: y248 :: y249 :: y250 :: y251 :: y252 :: y253 :: y254 :: y255 :: y256 :: y257 :: y258 :: y259 :: y260 :: y261 :: y262 :: y263 :: y264 :: y265 :: y266 :: y267 :: y268 :: y269 :: y270 :: y271 :: y272 :: y273 :: y274 :: y275 :: y276 :: y277 :: y278 :: []).toArray, []⟩ W') :
    Code.wp Tryz.prog (goTo [1, 1, 1, 1, 1, 1, 1, 1, 1, 1, 1, 1, 1, 0, 1, 2, 1, 4, 1, 4, 1, 4, 1, 4, 1, 4, 1, 3, 0] (Tryz.f30.body.getD .skip)) Q ⟨(y0 :: .pointer (some ⟨g, 0, none⟩) :: y2 :: y3 :: .int .i64 (n : Int) :: y5 :: y6 :: .bool f7 :: .bool f8 :: .bool f9 :: y10 :: .bool f11 :: .bool f12 :: y13 :: y14 :: y15 :: y16 :: y17 :: y18 :: y19 :: y20 :: y21 :: y22 :: y23 :: y24 :: y25 :: y26 :: y27 :: y28 :: y29 :: y30 :: y31 :: y32 :: y33 :: y34 :: y35 :: y36 :: y37 :: y38 :: y39 :: y40 :: y41 :: y42 :: y43 :: y44 :: y45 :: y46 :: y47 :: y48 :: y49 :: y50 :: y51 :: y52 :: y53 :: y54 :: y55 :: y56 :: y57 :: y58 :: y59 :: y60 :: y61 :: y62 :: y63 :: y64 :: y65 :: y66 :: y67 :: y68 :: y69 :: y70 :: y71 :: y72 :: y73 :: y74 :: y75 :: y76 :: y77 :: y78 :: y79 :: y80 :: y81 :: y82 :: y83 :: y84 :: y85 :: y86 :: y87 :: y88 :: y89 :: y90 :: y91 :: y92 :: y93 :: y94 :: y95 :: y96 :: y97 :: y98 :: y99 :: y100 :: y101 :: y102 :: y103 :: y104 :: y105 :: y106 :: y107 :: y108 :: y109 :: y110 :: y111 :: y112 :: y113 :: y114 :: y115 :: y116 :: y117 :: y118 :: y119 :: y120 :: y121 :: y122 :: y123 :: y124 :: y125 :: y126 :: y127 :: y128 :: y129 :: y130 :: y131 :: y132 :: y133 :: y134 :: y135 :: y136 :: y137 :: y138 :: y139 :: y140 :: y141 :: y142 :: y143 :: y144 :: y145 :: y146 :: y147 :: y148 :: y149 :: y150 :: y151 :: y152 :: y153 :: y154 :: y155 :: y156 :: y157 :: y158 :: y159 :: y160 :: y161 :: y162 :: y163 :: y164 :: y165 :: y166 :: y167 :: y168 :: y169 :: y170 :: y171 :: y172 :: y173 :: y174 :: y175 :: y176 :: y177 :: y178 :: y179 :: y180 :: y181 :: y182 :: y183 :: y184 :: y185 :: y186 :: y187 :: y188 :: y189 :: y190 :: y191 :: y192 :: y193 :: y194 :: y195 :: y196 :: y197 :: y198 :: y199 :: y200 :: y201 :: y202 :: y203 :: y204 :: y205 :: y206 :: y207 :: y208 :: y209 :: y210 :: y211 :: y212 :: y213 :: y214 :: y215 :: y216 :: y217 :: y218 :: y219 :: y220 :: y221 :: y222 :: y223 :: y224 :: y225 :: y226 :: y227 :: y228 :: y229 :: y230 :: y231 :: y232 :: y233 :: y234 :: y235 :: y236 :: y237 :: y238 :: y239 :: y240 :: y241 :: y242 :: y243 :: y244 :: y245 :: y246 :: y247 :: y248 :: y249 :: y250 :: y251 :: y252 :: y253 :: y254 :: y255 :: y256 :: y257 :: y258 :: y259 :: y260 :: y261 :: y262 :: y263 :: y264 :: y265 :: y266 :: y267 :: y268 :: y269 :: y270 :: y271 :: y272 :: y273 :: y274 :: y275 :: y276 :: y277 :: y278 :: []).toArray, []⟩ W := by
  conv => arg 2; whnf
  by_cases hn : n = 1
  rotate_left
  · have g1 : ((n : Int) == 1) = false := by rw [beq_eq_false_iff_ne]; omega
    obtain rfl : p = false := by rw [HP.out, decide_eq_false hn]; rfl
    clear hn
    go_wp2_with fail
    all_goals (first | exact rfl | (apply hnext; exact rfl) | apply hnext)
  subst hn
  rcases f7 with _ | _
  · (skip)
    obtain rfl : p = false := by rw [HP.out]; rfl
    go_wp2_with fail
    all_goals (first | exact rfl | (apply hnext; exact rfl) | apply hnext)
  rcases f8 with _ | _
  · (skip)
    obtain rfl : p = false := by rw [HP.out]; rfl
    go_wp2_with fail
    all_goals (first | exact rfl | (apply hnext; exact rfl) | apply hnext)
  rcases f9 with _ | _
  · (skip)
    obtain rfl : p = false := by rw [HP.out]; rfl
    go_wp2_with fail
    all_goals (first | exact rfl | (apply hnext; exact rfl) | apply hnext)
  go_wp2_with fail
  refine (HDA.out _).mono ?_
  rintro e W2 ⟨rfl, rfl⟩
  rcases bd with _ | _
  · (skip)
    obtain rfl : p = false := by rw [HP.out]; rfl
    go_wp2_with fail
    all_goals (first | exact rfl | (apply hnext; exact rfl) | apply hnext)
  rcases f11 with _ | _
  · (skip)
    obtain rfl : p = false := by rw [HP.out]; rfl
    go_wp2_with fail
    all_goals (first | exact rfl | (apply hnext; exact rfl) | apply hnext)
  obtain rfl : p = f12 := by rw [HP.out]; rcases f12 with _ | _ <;> rfl
  go_wp2_with fail
  all_goals (first | exact rfl | (apply hnext; exact rfl) | apply hnext)
set_option maxRecDepth 1000000 in
set_option maxHeartbeats 4000000 in
theorem rf_reg31 {W : World} {g n : Nat}  {f5 f8 f6 f10 f11 f12 p : Bool} {Q : Exit → Act → World → Prop} {y0 y2 y3 y7 y9 y13 y14 y15 y16 y17 y18 y19 y20 y21 y22 y23 y24 y25 y26 y27 y28 y29 y30 y31 y32 y33 y34 y35 y36 y37 y38 y39 y40 y41 y42 y43 y44 y45 y46 y47 y48 y49 y50 y51 y52 y53 y54 y55 y56 y57 y58 y59 y60 y61 y62 y63 y64 y65 y66 y67 y68 y69 y70 y71 y72 y73 y74 y75 y76 y77 y78 y79 y80 y81 y82 y83 y84 y85 y86 y87 y88 y89 y90 y91 y92 y93 y94 y95 y96 y97 y98 y99 y100 y101 y102 y103 y104 y105 y106 y107 y108 y109 y110 y111 y112 y113 y114 y115 y116 y117 y118 y119 y120 y121 y122 y123 y124 y125 y126 y127 y128 y129 y130 y131 y132 y133 y134 y135 y136 y137 y138 y139 y140 y141 y142 y143 y144 y145 y146 y147 y148 y149 y150 y151 y152 y153 y154 y155 y156 y157 y158 y159 y160 y161 y162 y163 y164 y165 y166 y167 y168 y169 y170 y171 y172 y173 y174 y175 y176 y177 y178 y179 y180 y181 y182 y183 y184 y185 y186 y187 y188 y189 y190 y191 y192 y193 y194 y195 y196 y197 y198 y199 y200 y201 y202 y203 y204 y205 y206 y207 y208 y209 y210 y211 y212 y213 y214 y215 y216 y217 y218 y219 y220 y221 y222 y223 y224 y225 y226 y227 y228 y229 y230 y231 y232 y233 y234 y235 y236 y237 y238 y239 y240 y241 y242 y243 y244 y245 y246 y247 y248 y249 y250 y251 y252 y253 y254 y255 y256 y257 y258 y259 y260 y261 y262 y263 y264 y265 y266 y267 y268 y269 y270 y271 y272 y273 y274 y275 y276 y277 y278 : Value}
     (HP : Hid (p = (decide (n = 2) && (f5 && (f8 && (f6 && (f10 && (f11 && f12))))))))
    (hnext : ∀ (u214 u215 u216 u217 u218 u219 u220 u221 u222 u223 u224 u225 u226 u227 u228 u229 u230 u231 u232 u233 : Value) (W' : World), W = W' → Q .normal ⟨(y0 :: .pointer (some ⟨g, 0, none⟩) :: .bool p :: y3 :: .int .i64 (n : Int) :: .bool f5 :: .bool f6 :: y7 :: .bool f8 :: y9 :: .bool f10 :: .bool f11 :: .bool f12 :: y13 :: y14 :: y15 :: y16 :: y17 :: y18 :: y19 :: y20 :: y21 :: y22 :: y23 :: y24 :: y25 :: y26 :: y27 :: y28 :: y29 :: y30 :: y31 :: y32 :: y33 :: y34 :: y35 :: y36 :: y37 :: y38 :: y39 :: y40 :: y41 :: y42 :: y43 :: y44 :: y45 :: y46 :: y47 :: y48 :: y49 :: y50 :: y51 :: y52 :: y53 :: y54 :: y55 :: y56 :: y57 :: y58 :: y59 :: y60 :: y61 :: y62 :: y63 :: y64 :: y65 :: y66 :: y67 :: y68 :: y69 :: y70 :: y71 :: y72 :: y73 :: y74 :: y75 :: y76 :: y77 :: y78 :: y79 :: y80 :: y81 :: y82 :: y83 :: y84 :: y85 :: y86 :: y87 :: y88 :: y89 :: y90 :: y91 :: y92 :: y93 :: y94 :: y95 :: y96 :: y97 :: y98 :: y99 :: y100 :: y101 :: y102 :: y103 :: y104 :: y105 :: y106 :: y107 :: y108 :: y109 :: y110 :: y111 :: y112 :: y113 :: y114 :: y115 :: y116 :: y117 :: y118 :: y119 :: y120 :: y121 :: y122 :: y123 :: y124 :: y125 :: y126 :: y127 :: y128 :: y129 :: y130 :: y131 :: y132 :: y133 :: y134 :: y135 :: y136 :: y137 :: y138 :: y139 :: y140 :: y141 :: y142 :: y143 :: y144 :: y145 :: y146 :: y147 :: y148 :: y149 :: y150 :: y151 :: y152 :: y153 :: y154 :: y155 :: y156 :: y157 :: y158 :: y159 :: y160 :: y161 :: y162 :: y163 :: y164 :: y165 :: y166 :: y167 :: y168 :: y169 :: y170 :: y171 :: y172 :: y173 :: y174 :: y175 :: y176 :: y177 :: y178 :: y179 :: y180 :: y181 :: y182 :: y183 :: y184 :: y185 :: y186 :: y187 :: y188 :: y189 :: y190 :: y191 :: y192 :: y193 :: y194 :: y195 :: y196 :: y197 :: y198 :: y199 :: y200 :: y201 :: y202 :: y203 :: y204 :: y205 :: y206 :: y207 :: y208 :: y209 :: y210 :: y211 :: y212 :: y213 :: u214 :: u215 :: u216 :: u217 :: u218 :: u219 :: u220 :: u221 :: u222 :: u223 :: u224 :: u225 :: u226 :: u227 :: u228 :: u229 :: u230 :: u231 :: u232 :: u233 :: y234 :: y235 :: y236 :: y237 :: y238 :: y239 :: y240 :: y241 :: y242 :: y243 :: y244 :: y245 :: y246 :: y247 :: y248 :: y249 :: y250 :: y251 :: y252 :: y253 :: y254 :: y255 :: y256 :: y257 :: y258 :: y259 :: y260 :: y261 :: y262 :: y263 :: y264 :: y265 :: y266 :: y267 :: y268 :: y269 :: y270 :: y271 :: y272 :: y273 :: y274 :: y275 :: y276 :: y277 :: y278 :: []).toArray, []⟩ W') :
    Code.wp Tryz.prog (goTo [1, 1, 1, 1, 1, 1, 1, 1, 1, 1, 1, 1, 1, 0, 1, 2, 1, 4, 1, 4, 1, 4, 1, 4, 1, 4, 1, 4, 1, 3, 0] (Tryz.f30.body.getD .skip)) Q ⟨(y0 :: .pointer (some ⟨g, 0, none⟩) :: y2 :: y3 :: .int .i64 (n : Int) :: .bool f5 :: .bool f6 :: y7 :: .bool f8 :: y9 :: .bool f10 :: .bool f11 :: .bool f12 :: y13 :: y14 :: y15 :: y16 :: y17 :: y18 :: y19 :: y20 :: y21 :: y22 :: y23 :: y24 :: y25 :: y26 :: y27 :: y28 :: y29 :: y30 :: y31 :: y32 :: y33 :: y34 :: y35 :: y36 :: y37 :: y38 :: y39 :: y40 :: y41 :: y42 :: y43 :: y44 :: y45 :: y46 :: y47 :: y48 :: y49 :: y50 :: y51 :: y52 :: y53 :: y54 :: y55 :: y56 :: y57 :: y58 :: y59 :: y60 :: y61 :: y62 :: y63 :: y64 :: y65 :: y66 :: y67 :: y68 :: y69 :: y70 :: y71 :: y72 :: y73 :: y74 :: y75 :: y76 :: y77 :: y78 :: y79 :: y80 :: y81 :: y82 :: y83 :: y84 :: y85 :: y86 :: y87 :: y88 :: y89 :: y90 :: y91 :: y92 :: y93 :: y94 :: y95 :: y96 :: y97 :: y98 :: y99 :: y100 :: y101 :: y102 :: y103 :: y104 :: y105 :: y106 :: y107 :: y108 :: y109 :: y110 :: y111 :: y112 :: y113 :: y114 :: y115 :: y116 :: y117 :: y118 :: y119 :: y120 :: y121 :: y122 :: y123 :: y124 :: y125 :: y126 :: y127 :: y128 :: y129 :: y130 :: y131 :: y132 :: y133 :: y134 :: y135 :: y136 :: y137 :: y138 :: y139 :: y140 :: y141 :: y142 :: y143 :: y144 :: y145 :: y146 :: y147 :: y148 :: y149 :: y150 :: y151 :: y152 :: y153 :: y154 :: y155 :: y156 :: y157 :: y158 :: y159 :: y160 :: y161 :: y162 :: y163 :: y164 :: y165 :: y166 :: y167 :: y168 :: y169 :: y170 :: y171 :: y172 :: y173 :: y174 :: y175 :: y176 :: y177 :: y178 :: y179 :: y180 :: y181 :: y182 :: y183 :: y184 :: y185 :: y186 :: y187 :: y188 :: y189 :: y190 :: y191 :: y192 :: y193 :: y194 :: y195 :: y196 :: y197 :: y198 :: y199 :: y200 :: y201 :: y202 :: y203 :: y204 :: y205 :: y206 :: y207 :: y208 :: y209 :: y210 :: y211 :: y212 :: y213 :: y214 :: y215 :: y216 :: y217 :: y218 :: y219 :: y220 :: y221 :: y222 :: y223 :: y224 :: y225 :: y226 :: y227 :: y228 :: y229 :: y230 :: y231 :: y232 :: y233 :: y234 :: y235 :: y236 :: y237 :: y238 :: y239 :: y240 :: y241 :: y242 :: y243 :: y244 :: y245 :: y246 :: y247 :: y248 :: y249 :: y250 :: y251 :: y252 :: y253 :: y254 :: y255 :: y256 :: y257 :: y258 :: y259 :: y260 :: y261 :: y262 :: y263 :: y264 :: y265 :: y266 :: y267 :: y268 :: y269 :: y270 :: y271 :: y272 :: y273 :: y274 :: y275 :: y276 :: y277 :: y278 :: []).toArray, []⟩ W := by
  conv => arg 2; whnf
  by_cases hn : n = 2
  rotate_left
  · have g1 : ((n : Int) == 2) = false := by rw [beq_eq_false_iff_ne]; omega
    obtain rfl : p = false := by rw [HP.out, decide_eq_false hn]; rfl
    clear hn
    go_wp2_with fail
    all_goals (first | exact rfl | (apply hnext; exact rfl) | apply hnext)
  subst hn
  rcases f5 with _ | _
  · (skip)
    obtain rfl : p = false := by rw [HP.out]; rfl
    go_wp2_with fail
    all_goals (first | exact rfl | (apply hnext; exact rfl) | apply hnext)
  rcases f8 with _ | _
  · (skip)
    obtain rfl : p = false := by rw [HP.out]; rfl
    go_wp2_with fail
    all_goals (first | exact rfl | (apply hnext; exact rfl) | apply hnext)
  rcases f6 with _ | _
  · (skip)
    obtain rfl : p = false := by rw [HP.out]; rfl
    go_wp2_with fail
    all_goals (first | exact rfl | (apply hnext; exact rfl) | apply hnext)
  rcases f10 with _ | _
  · (skip)
    obtain rfl : p = false := by rw [HP.out]; rfl
    go_wp2_with fail
    all_goals (first | exact rfl | (apply hnext; exact rfl) | apply hnext)
  rcases f11 with _ | _
  · (skip)
    obtain rfl : p = false := by rw [HP.out]; rfl
    go_wp2_with fail
    all_goals (first | exact rfl | (apply hnext; exact rfl) | apply hnext)
  obtain rfl : p = f12 := by rw [HP.out]; rcases f12 with _ | _ <;> rfl
  go_wp2_with fail
  all_goals (first | exact rfl | (apply hnext; exact rfl) | apply hnext)
set_option maxRecDepth 1000000 in
set_option maxHeartbeats 4000000 in
theorem rf_reg33 {W : World} {g n : Nat}  {f5 f8 f6 f10 f13 f12 p : Bool} {Q : Exit → Act → World → Prop} {y0 y2 y3 y7 y9 y11 y14 y15 y16 y17 y18 y19 y20 y21 y22 y23 y24 y25 y26 y27 y28 y29 y30 y31 y32 y33 y34 y35 y36 y37 y38 y39 y40 y41 y42 y43 y44 y45 y46 y47 y48 y49 y50 y51 y52 y53 y54 y55 y56 y57 y58 y59 y60 y61 y62 y63 y64 y65 y66 y67 y68 y69 y70 y71 y72 y73 y74 y75 y76 y77 y78 y79 y80 y81 y82 y83 y84 y85 y86 y87 y88 y89 y90 y91 y92 y93 y94 y95 y96 y97 y98 y99 y100 y101 y102 y103 y104 y105 y106 y107 y108 y109 y110 y111 y112 y113 y114 y115 y116 y117 y118 y119 y120 y121 y122 y123 y124 y125 y126 y127 y128 y129 y130 y131 y132 y133 y134 y135 y136 y137 y138 y139 y140 y141 y142 y143 y144 y145 y146 y147 y148 y149 y150 y151 y152 y153 y154 y155 y156 y157 y158 y159 y160 y161 y162 y163 y164 y165 y166 y167 y168 y169 y170 y171 y172 y173 y174 y175 y176 y177 y178 y179 y180 y181 y182 y183 y184 y185 y186 y187 y188 y189 y190 y191 y192 y193 y194 y195 y196 y197 y198 y199 y200 y201 y202 y203 y204 y205 y206 y207 y208 y209 y210 y211 y212 y213 y214 y215 y216 y217 y218 y219 y220 y221 y222 y223 y224 y225 y226 y227 y228 y229 y230 y231 y232 y233 y234 y235 y236 y237 y238 y239 y240 y241 y242 y243 y244 y245 y246 y247 y248 y249 y250 y251 y252 y253 y254 y255 y256 y257 y258 y259 y260 y261 y262 y263 y264 y265 y266 y267 y268 y269 y270 y271 y272 y273 y274 y275 y276 y277 y278 : Value}
     (HP : Hid (p = (decide (n = 1) && (f5 && (f8 && (f6 && (f10 && (f13 && f12))))))))
    (hnext : ∀ (u236 u237 u238 u239 u240 u241 u242 u243 u244 u245 u246 u247 u248 u249 u250 u251 u252 u253 u254 u255 : Value) (W' : World), W = W' → Q .normal ⟨(y0 :: .pointer (some ⟨g, 0, none⟩) :: .bool p :: y3 :: .int .i64 (n : Int) :: .bool f5 :: .bool f6 :: y7 :: .bool f8 :: y9 :: .bool f10 :: y11 :: .bool f12 :: .bool f13 :: y14 :: y15 :: y16 :: y17 :: y18 :: y19 :: y20 :: y21 :: y22 :: y23 :: y24 :: y25 :: y26 :: y27 :: y28 :: y29 :: y30 :: y31 :: y32 :: y33 :: y34 :: y35 :: y36 :: y37 :: y38 :: y39 :: y40 :: y41 :: y42 :: y43 :: y44 :: y45 :: y46 :: y47 :: y48 :: y49 :: y50 :: y51 :: y52 :: y53 :: y54 :: y55 :: y56 :: y57 :: y58 :: y59 :: y60 :: y61 :: y62 :: y63 :: y64 :: y65 :: y66 :: y67 :: y68 :: y69 :: y70 :: y71 :: y72 :: y73 :: y74 :: y75 :: y76 :: y77 :: y78 :: y79 :: y80 :: y81 :: y82 :: y83 :: y84 :: y85 :: y86 :: y87 :: y88 :: y89 :: y90 :: y91 :: y92 :: y93 :: y94 :: y95 :: y96 :: y97 :: y98 :: y99 :: y100 :: y101 :: y102 :: y103 :: y104 :: y105 :: y106 :: y107 :: y108 :: y109 :: y110 :: y111 :: y112 :: y113 :: y114 :: y115 :: y116 :: y117 :: y118 :: y119 :: y120 :: y121 :: y122 :: y123 :: y124 :: y125 :: y126 :: y127 :: y128 :: y129 :: y130 :: y131 :: y132 :: y133 :: y134 :: y135 :: y136 :: y137 :: y138 :: y139 :: y140 :: y141 :: y142 :: y143 :: y144 :: y145 :: y146 :: y147 :: y148 :: y149 :: y150 :: y151 :: y152 :: y153 :: y154 :: y155 :: y156 :: y157 :: y158 :: y159 :: y160 :: y161 :: y162 :: y163 :: y164 :: y165 :: y166 :: y167 :: y168 :: y169 :: y170 :: y171 :: y172 :: y173 :: y174 :: y175 :: y176 :: y177 :: y178 :: y179 :: y180 :: y181 :: y182 :: y183 :: y184 :: y185 :: y186 :: y187 :: y188 :: y189 :: y190 :: y191 :: y192 :: y193 :: y194 :: y195 :: y196 :: y197 :: y198 :: y199 :: y200 :: y201 :: y202 :: y203 :: y204 :: y205 :: y206 :: y207 :: y208 :: y209 :: y210 :: y211 :: y212 :: y213 :: y214 :: y215 :: y216 :: y217 :: y218 :: y219 :: y220 :: y221 :: y222 :: y223 :: y224 :: y225 :: y226 :: y227 :: y228 :: y229 :: y230 :: y231 :: y232 :: y233 :: y234 :: y235 :: u236 :: u237 :: u238 :: u239 :: u240 :: u241 :: u242 :: u243 :: u244 :: u245 :: u246 :: u247 :: u248 :: u249 :: u250 :: u251 :: u252 :: u253 :: u254 :: u255 :: y256 :: y257 :: y258 :: y259 :: y260 :: y261 :: y262 :: y263 :: y264 :: y265 :: y266 :: y267 :: y268 :: y269 :: y270 :: y271 :: y272 :: y273 :: y274 :: y275 :: y276 :: y277 :: y278 :: []).toArray, []⟩ W') :
    Code.wp Tryz.prog (goTo [1, 1, 1, 1, 1, 1, 1, 1, 1, 1, 1, 1, 1, 0, 1, 2, 1, 4, 1, 4, 1, 4, 1, 4, 1, 4, 1, 4, 1, 4, 1, 3, 0] (Tryz.f30.body.getD .skip)) Q ⟨(y0 :: .pointer (some ⟨g, 0, none⟩) :: y2 :: y3 :: .int .i64 (n : Int) :: .bool f5 :: .bool f6 :: y7 :: .bool f8 :: y9 :: .bool f10 :: y11 :: .bool f12 :: .bool f13 :: y14 :: y15 :: y16 :: y17 :: y18 :: y19 :: y20 :: y21 :: y22 :: y23 :: y24 :: y25 :: y26 :: y27 :: y28 :: y29 :: y30 :: y31 :: y32 :: y33 :: y34 :: y35 :: y36 :: y37 :: y38 :: y39 :: y40 :: y41 :: y42 :: y43 :: y44 :: y45 :: y46 :: y47 :: y48 :: y49 :: y50 :: y51 :: y52 :: y53 :: y54 :: y55 :: y56 :: y57 :: y58 :: y59 :: y60 :: y61 :: y62 :: y63 :: y64 :: y65 :: y66 :: y67 :: y68 :: y69 :: y70 :: y71 :: y72 :: y73 :: y74 :: y75 :: y76 :: y77 :: y78 :: y79 :: y80 :: y81 :: y82 :: y83 :: y84 :: y85 :: y86 :: y87 :: y88 :: y89 :: y90 :: y91 :: y92 :: y93 :: y94 :: y95 :: y96 :: y97 :: y98 :: y99 :: y100 :: y101 :: y102 :: y103 :: y104 :: y105 :: y106 :: y107 :: y108 :: y109 :: y110 :: y111 :: y112 :: y113 :: y114 :: y115 :: y116 :: y117 :: y118 :: y119 :: y120 :: y121 :: y122 :: y123 :: y124 :: y125 :: y126 :: y127 :: y128 :: y129 :: y130 :: y131 :: y132 :: y133 :: y134 :: y135 :: y136 :: y137 :: y138 :: y139 :: y140 :: y141 :: y142 :: y143 :: y144 :: y145 :: y146 :: y147 :: y148 :: y149 :: y150 :: y151 :: y152 :: y153 :: y154 :: y155 :: y156 :: y157 :: y158 :: y159 :: y160 :: y161 :: y162 :: y163 :: y164 :: y165 :: y166 :: y167 :: y168 :: y169 :: y170 :: y171 :: y172 :: y173 :: y174 :: y175 :: y176 :: y177 :: y178 :: y179 :: y180 :: y181 :: y182 :: y183 :: y184 :: y185 :: y186 :: y187 :: y188 :: y189 :: y190 :: y191 :: y192 :: y193 :: y194 :: y195 :: y196 :: y197 :: y198 :: y199 :: y200 :: y201 :: y202 :: y203 :: y204 :: y205 :: y206 :: y207 :: y208 :: y209 :: y210 :: y211 :: y212 :: y213 :: y214 :: y215 :: y216 :: y217 :: y218 :: y219 :: y220 :: y221 :: y222 :: y223 :: y224 :: y225 :: y226 :: y227 :: y228 :: y229 :: y230 :: y231 :: y232 :: y233 :: y234 :: y235 :: y236 :: y237 :: y238 :: y239 :: y240 :: y241 :: y242 :: y243 :: y244 :: y245 :: y246 :: y247 :: y248 :: y249 :: y250 :: y251 :: y252 :: y253 :: y254 :: y255 :: y256 :: y257 :: y258 :: y259 :: y260 :: y261 :: y262 :: y263 :: y264 :: y265 :: y266 :: y267 :: y268 :: y269 :: y270 :: y271 :: y272 :: y273 :: y274 :: y275 :: y276 :: y277 :: y278 :: []).toArray, []⟩ W := by
  conv => arg 2; whnf
  by_cases hn : n = 1
  rotate_left
  · have g1 : ((n : Int) == 1) = false := by rw [beq_eq_false_iff_ne]; omega
    obtain rfl : p = false := by rw [HP.out, decide_eq_false hn]; rfl
    clear hn
    go_wp2_with fail
    all_goals (first | exact rfl | (apply hnext; exact rfl) | apply hnext)
  subst hn
  rcases f5 with _ | _
  · (skip)
    obtain rfl : p = false := by rw [HP.out]; rfl
    go_wp2_with fail
    all_goals (first | exact rfl | (apply hnext; exact rfl) | apply hnext)
  rcases f8 with _ | _
  · (skip)
    obtain rfl : p = false := by rw [HP.out]; rfl
    go_wp2_with fail
    all_goals (first | exact rfl | (apply hnext; exact rfl) | apply hnext)
  rcases f6 with _ | _
  · (skip)
    obtain rfl : p = false := by rw [HP.out]; rfl
    go_wp2_with fail
    all_goals (first | exact rfl | (apply hnext; exact rfl) | apply hnext)
  rcases f10 with _ | _
  · (skip)
    obtain rfl : p = false := by rw [HP.out]; rfl
    go_wp2_with fail
    all_goals (first | exact rfl | (apply hnext; exact rfl) | apply hnext)
  rcases f13 with _ | _
  · (skip)
    obtain rfl : p = false := by rw [HP.out]; rfl
    go_wp2_with fail
    all_goals (first | exact rfl | (apply hnext; exact rfl) | apply hnext)
  obtain rfl : p = f12 := by rw [HP.out]; rcases f12 with _ | _ <;> rfl
  go_wp2_with fail
  all_goals (first | exact rfl | (apply hnext; exact rfl) | apply hnext)
set_option maxRecDepth 1000000 in
set_option maxHeartbeats 4000000 in
theorem rf_reg36 {W : World} {g n : Nat}  {f7 f8 f9 f10 f13 f15 p : Bool} {Q : Exit → Act → World → Prop} {y0 y2 y3 y5 y6 y11 y12 y14 y16 y17 y18 y19 y20 y21 y22 y23 y24 y25 y26 y27 y28 y29 y30 y31 y32 y33 y34 y35 y36 y37 y38 y39 y40 y41 y42 y43 y44 y45 y46 y47 y48 y49 y50 y51 y52 y53 y54 y55 y56 y57 y58 y59 y60 y61 y62 y63 y64 y65 y66 y67 y68 y69 y70 y71 y72 y73 y74 y75 y76 y77 y78 y79 y80 y81 y82 y83 y84 y85 y86 y87 y88 y89 y90 y91 y92 y93 y94 y95 y96 y97 y98 y99 y100 y101 y102 y103 y104 y105 y106 y107 y108 y109 y110 y111 y112 y113 y114 y115 y116 y117 y118 y119 y120 y121 y122 y123 y124 y125 y126 y127 y128 y129 y130 y131 y132 y133 y134 y135 y136 y137 y138 y139 y140 y141 y142 y143 y144 y145 y146 y147 y148 y149 y150 y151 y152 y153 y154 y155 y156 y157 y158 y159 y160 y161 y162 y163 y164 y165 y166 y167 y168 y169 y170 y171 y172 y173 y174 y175 y176 y177 y178 y179 y180 y181 y182 y183 y184 y185 y186 y187 y188 y189 y190 y191 y192 y193 y194 y195 y196 y197 y198 y199 y200 y201 y202 y203 y204 y205 y206 y207 y208 y209 y210 y211 y212 y213 y214 y215 y216 y217 y218 y219 y220 y221 y222 y223 y224 y225 y226 y227 y228 y229 y230 y231 y232 y233 y234 y235 y236 y237 y238 y239 y240 y241 y242 y243 y244 y245 y246 y247 y248 y249 y250 y251 y252 y253 y254 y255 y256 y257 y258 y259 y260 y261 y262 y263 y264 y265 y266 y267 y268 y269 y270 y271 y272 y273 y274 y275 y276 y277 y278 : Value}
     (HP : Hid (p = (decide (n = 1) && (f7 && (f8 && (f9 && (f10 && (f13 && f15))))))))
    (hnext : ∀ (u259 u260 u261 u262 u263 u264 u265 u266 u267 u268 u269 u270 u271 u272 u273 u274 u275 u276 u277 u278 : Value) (W' : World), W = W' → Q .normal ⟨(y0 :: .pointer (some ⟨g, 0, none⟩) :: .bool p :: y3 :: .int .i64 (n : Int) :: y5 :: y6 :: .bool f7 :: .bool f8 :: .bool f9 :: .bool f10 :: y11 :: y12 :: .bool f13 :: y14 :: .bool f15 :: y16 :: y17 :: y18 :: y19 :: y20 :: y21 :: y22 :: y23 :: y24 :: y25 :: y26 :: y27 :: y28 :: y29 :: y30 :: y31 :: y32 :: y33 :: y34 :: y35 :: y36 :: y37 :: y38 :: y39 :: y40 :: y41 :: y42 :: y43 :: y44 :: y45 :: y46 :: y47 :: y48 :: y49 :: y50 :: y51 :: y52 :: y53 :: y54 :: y55 :: y56 :: y57 :: y58 :: y59 :: y60 :: y61 :: y62 :: y63 :: y64 :: y65 :: y66 :: y67 :: y68 :: y69 :: y70 :: y71 :: y72 :: y73 :: y74 :: y75 :: y76 :: y77 :: y78 :: y79 :: y80 :: y81 :: y82 :: y83 :: y84 :: y85 :: y86 :: y87 :: y88 :: y89 :: y90 :: y91 :: y92 :: y93 :: y94 :: y95 :: y96 :: y97 :: y98 :: y99 :: y100 :: y101 :: y102 :: y103 :: y104 :: y105 :: y106 :: y107 :: y108 :: y109 :: y110 :: y111 :: y112 :: y113 :: y114 :: y115 :: y116 :: y117 :: y118 :: y119 :: y120 :: y121 :: y122 :: y123 :: y124 :: y125 :: y126 :: y127 :: y128 :: y129 :: y130 :: y131 :: y132 :: y133 :: y134 :: y135 :: y136 :: y137 :: y138 :: y139 :: y140 :: y141 :: y142 :: y143 :: y144 :: y145 :: y146 :: y147 :: y148 :: y149 :: y150 :: y151 :: y152 :: y153 :: y154 :: y155 :: y156 :: y157 :: y158 :: y159 :: y160 :: y161 :: y162 :: y163 :: y164 :: y165 :: y166 :: y167 :: y168 :: y169 :: y170 :: y171 :: y172 :: y173 :: y174 :: y175 :: y176 :: y177 :: y178 :: y179 :: y180 :: y181 :: y182 :: y183 :: y184 :: y185 :: y186 :: y187 :: y188 :: y189 :: y190 :: y191 :: y192 :: y193 :: y194 :: y195 :: y196 :: y197 :: y198 :: y199 :: y200 :: y201 :: y202 :: y203 :: y204 :: y205 :: y206 :: y207 :: y208 :: y209 :: y210 :: y211 :: y212 :: y213 :: y214 :: y215 :: y216 :: y217 :: y218 :: y219 :: y220 :: y221 :: y222 :: y223 :: y224 :: y225 :: y226 :: y227 :: y228 :: y229 :: y230 :: y231 :: y232 :: y233 :: y234 :: y235 :: y236 :: y237 :: y238 :: y239 :: y240 :: y241 :: y242 :: y243 :: y244 :: y245 :: y246 :: y247 :: y248 :: y249 :: y250 :: y251 :: y252 :: y253 :: y254 :: y255 :: y256 :: y257 :: y258 :: u259 :: u260 :: u261 :: u262 :: u263 :: u264 :: u265 :: u266 :: u267 :: u268 :: u269 :: u270 :: u271 :: u272 :: u273 :: u274 :: u275 :: u276 :: u277 :: u278 :: []).toArray, []⟩ W') :
    Code.wp Tryz.prog (goTo [1, 1, 1, 1, 1, 1, 1, 1, 1, 1, 1, 1, 1, 0, 1, 2, 1, 4, 1, 4, 1, 4, 1, 4, 1, 4, 1, 4, 1, 4, 1, 4, 1, 3, 0] (Tryz.f30.body.getD .skip)) Q ⟨(y0 :: .pointer (some ⟨g, 0, none⟩) :: y2 :: y3 :: .int .i64 (n : Int) :: y5 :: y6 :: .bool f7 :: .bool f8 :: .bool f9 :: .bool f10 :: y11 :: y12 :: .bool f13 :: y14 :: .bool f15 :: y16 :: y17 :: y18 :: y19 :: y20 :: y21 :: y22 :: y23 :: y24 :: y25 :: y26 :: y27 :: y28 :: y29 :: y30 :: y31 :: y32 :: y33 :: y34 :: y35 :: y36 :: y37 :: y38 :: y39 :: y40 :: y41 :: y42 :: y43 :: y44 :: y45 :: y46 :: y47 :: y48 :: y49 :: y50 :: y51 :: y52 :: y53 :: y54 :: y55 :: y56 :: y57 :: y58 :: y59 :: y60 :: y61 :: y62 :: y63 :: y64 :: y65 :: y66 :: y67 :: y68 :: y69 :: y70 :: y71 :: y72 :: y73 :: y74 :: y75 :: y76 :: y77 :: y78 :: y79 :: y80 :: y81 :: y82 :: y83 :: y84 :: y85 :: y86 :: y87 :: y88 :: y89 :: y90 :: y91 :: y92 :: y93 :: y94 :: y95 :: y96 :: y97 :: y98 :: y99 :: y100 :: y101 :: y102 :: y103 :: y104 :: y105 :: y106 :: y107 :: y108 :: y109 :: y110 :: y111 :: y112 :: y113 :: y114 :: y115 :: y116 :: y117 :: y118 :: y119 :: y120 :: y121 :: y122 :: y123 :: y124 :: y125 :: y126 :: y127 :: y128 :: y129 :: y130 :: y131 :: y132 :: y133 :: y134 :: y135 :: y136 :: y137 :: y138 :: y139 :: y140 :: y141 :: y142 :: y143 :: y144 :: y145 :: y146 :: y147 :: y148 :: y149 :: y150 :: y151 :: y152 :: y153 :: y154 :: y155 :: y156 :: y157 :: y158 :: y159 :: y160 :: y161 :: y162 :: y163 :: y164 :: y165 :: y166 :: y167 :: y168 :: y169 :: y170 :: y171 :: y172 :: y173 :: y174 :: y175 :: y176 :: y177 :: y178 :: y179 :: y180 :: y181 :: y182 :: y183 :: y184 :: y185 :: y186 :: y187 :: y188 :: y189 :: y190 :: y191 :: y192 :: y193 :: y194 :: y195 :: y196 :: y197 :: y198 :: y199 :: y200 :: y201 :: y202 :: y203 :: y204 :: y205 :: y206 :: y207 :: y208 :: y209 :: y210 :: y211 :: y212 :: y213 :: y214 :: y215 :: y216 :: y217 :: y218 :: y219 :: y220 :: y221 :: y222 :: y223 :: y224 :: y225 :: y226 :: y227 :: y228 :: y229 :: y230 :: y231 :: y232 :: y233 :: y234 :: y235 :: y236 :: y237 :: y238 :: y239 :: y240 :: y241 :: y242 :: y243 :: y244 :: y245 :: y246 :: y247 :: y248 :: y249 :: y250 :: y251 :: y252 :: y253 :: y254 :: y255 :: y256 :: y257 :: y258 :: y259 :: y260 :: y261 :: y262 :: y263 :: y264 :: y265 :: y266 :: y267 :: y268 :: y269 :: y270 :: y271 :: y272 :: y273 :: y274 :: y275 :: y276 :: y277 :: y278 :: []).toArray, []⟩ W := by
  conv => arg 2; whnf
  by_cases hn : n = 1
  rotate_left
  · have g1 : ((n : Int) == 1) = false := by rw [beq_eq_false_iff_ne]; omega
    obtain rfl : p = false := by rw [HP.out, decide_eq_false hn]; rfl
    clear hn
    go_wp2_with fail
    all_goals (first | exact rfl | (apply hnext; exact rfl) | apply hnext)
  subst hn
  rcases f7 with _ | _
  · (skip)
    obtain rfl : p = false := by rw [HP.out]; rfl
    go_wp2_with fail
    all_goals (first | exact rfl | (apply hnext; exact rfl) | apply hnext)
  rcases f8 with _ | _
  · (skip)
    obtain rfl : p = false := by rw [HP.out]; rfl
    go_wp2_with fail
    all_goals (first | exact rfl | (apply hnext; exact rfl) | apply hnext)
  rcases f9 with _ | _
  · (skip)
    obtain rfl : p = false := by rw [HP.out]; rfl
    go_wp2_with fail
    all_goals (first | exact rfl | (apply hnext; exact rfl) | apply hnext)
  rcases f10 with _ | _
  · (skip)
    obtain rfl : p = false := by rw [HP.out]; rfl
    go_wp2_with fail
    all_goals (first | exact rfl | (apply hnext; exact rfl) | apply hnext)
  rcases f13 with _ | _
  · (skip)
    obtain rfl : p = false := by rw [HP.out]; rfl
    go_wp2_with fail
    all_goals (first | exact rfl | (apply hnext; exact rfl) | apply hnext)
  obtain rfl : p = f15 := by rw [HP.out]; rcases f15 with _ | _ <;> rfl
  go_wp2_with fail
  all_goals (first | exact rfl | (apply hnext; exact rfl) | apply hnext)
set_option maxRecDepth 1000000 in
set_option maxHeartbeats 4000000 in
theorem rf_reg21 {W : World} {g n : Nat} {fr tu : ByteArray} {f5 bt bu f6 f14 f10 f11 p : Bool} {Q : Exit → Act → World → Prop} {y0 y2 y3 y7 y8 y9 y12 y13 y15 y16 y17 y18 y19 y20 y21 y22 y23 y24 y25 y26 y27 y28 y29 y30 y31 y32 y33 y34 y35 y36 y37 y38 y39 y40 y41 y42 y43 y44 y45 y46 y47 y48 y49 y50 y51 y52 y53 y54 y55 y56 y57 y58 y59 y60 y61 y62 y63 y64 y65 y66 y67 y68 y69 y70 y71 y72 y73 y74 y75 y76 y77 y78 y79 y80 y81 y82 y83 y84 y85 y86 y87 y88 y89 y90 y91 y92 y93 y94 y95 y96 y97 y98 y99 y100 y101 y102 y103 y104 y105 y106 y107 y108 y109 y110 y111 y112 y113 y114 y115 y116 y117 y118 y119 y120 y121 y122 y123 y124 y125 y126 y127 y128 y129 y130 y131 y132 y133 y134 y135 y136 y137 y138 y139 y140 y141 y142 y143 y144 y145 y146 y147 y148 y149 y150 y151 y152 y153 y154 y155 y156 y157 y158 y159 y160 y161 y162 y163 y164 y165 y166 y167 y168 y169 y170 y171 y172 y173 y174 y175 y176 y177 y178 y179 y180 y181 y182 y183 y184 y185 y186 y187 y188 y189 y190 y191 y192 y193 y194 y195 y196 y197 y198 y199 y200 y201 y202 y203 y204 y205 y206 y207 y208 y209 y210 y211 y212 y213 y214 y215 y216 y217 y218 y219 y220 y221 y222 y223 y224 y225 y226 y227 y228 y229 y230 y231 y232 y233 y234 y235 y236 y237 y238 y239 y240 y241 y242 y243 y244 y245 y246 y247 y248 y249 y250 y251 y252 y253 y254 y255 y256 y257 y258 y259 y260 y261 y262 y263 y264 y265 y266 y267 y268 y269 y270 y271 y272 y273 y274 y275 y276 y277 y278 : Value}
    (c1 : W.cell? ⟨g, 1, none⟩ = some (.string fr)) (c2 : W.cell? ⟨g, 2, none⟩ = some (.string tu)) (HNA : Hid (∀ W : World, Calls Tryz.prog 44 #[.string tu] W fun e w' => e = .returned (.bool bt) ∧ W = w')) (h12 : (fr.toList == tu.toList) = !bu) (HP : Hid (p = (decide (n = 0) && (f5 && (bt && (bu && (f6 && (f14 && (f10 && f11)))))))))
    (hnext : ∀ (u93 u94 u95 u96 u97 u98 u99 u100 u101 u102 u103 u104 u105 u106 u107 u108 u109 u110 u111 u112 u113 u114 u115 u116 u117 u118 u119 u120 u121 : Value) (W' : World), W = W' → Q .normal ⟨(y0 :: .pointer (some ⟨g, 0, none⟩) :: .bool p :: y3 :: .int .i64 (n : Int) :: .bool f5 :: .bool f6 :: y7 :: y8 :: y9 :: .bool f10 :: .bool f11 :: y12 :: y13 :: .bool f14 :: y15 :: y16 :: y17 :: y18 :: y19 :: y20 :: y21 :: y22 :: y23 :: y24 :: y25 :: y26 :: y27 :: y28 :: y29 :: y30 :: y31 :: y32 :: y33 :: y34 :: y35 :: y36 :: y37 :: y38 :: y39 :: y40 :: y41 :: y42 :: y43 :: y44 :: y45 :: y46 :: y47 :: y48 :: y49 :: y50 :: y51 :: y52 :: y53 :: y54 :: y55 :: y56 :: y57 :: y58 :: y59 :: y60 :: y61 :: y62 :: y63 :: y64 :: y65 :: y66 :: y67 :: y68 :: y69 :: y70 :: y71 :: y72 :: y73 :: y74 :: y75 :: y76 :: y77 :: y78 :: y79 :: y80 :: y81 :: y82 :: y83 :: y84 :: y85 :: y86 :: y87 :: y88 :: y89 :: y90 :: y91 :: y92 :: u93 :: u94 :: u95 :: u96 :: u97 :: u98 :: u99 :: u100 :: u101 :: u102 :: u103 :: u104 :: u105 :: u106 :: u107 :: u108 :: u109 :: u110 :: u111 :: u112 :: u113 :: u114 :: u115 :: u116 :: u117 :: u118 :: u119 :: u120 :: u121 :: y122 :: y123 :: y124 :: y125 :: y126 :: y127 :: y128 :: y129 :: y130 :: y131 :: y132 :: y133 :: y134 :: y135 :: y136 :: y137 :: y138 :: y139 :: y140 :: y141 :: y142 :: y143 :: y144 :: y145 :: y146 :: y147 :: y148 :: y149 :: y150 :: y151 :: y152 :: y153 :: y154 :: y155 :: y156 :: y157 :: y158 :: y159 :: y160 :: y161 :: y162 :: y163 :: y164 :: y165 :: y166 :: y167 :: y168 :: y169 :: y170 :: y171 :: y172 :: y173 :: y174 :: y175 :: y176 :: y177 :: y178 :: y179 :: y180 :: y181 :: y182 :: y183 :: y184 :: y185 :: y186 :: y187 :: y188 :: y189 :: y190 :: y191 :: y192 :: y193 :: y194 :: y195 :: y196 :: y197 :: y198 :: y199 :: y200 :: y201 :: y202 :: y203 :: y204 :: y205 :: y206 :: y207 :: y208 :: y209 :: y210 :: y211 :: y212 :: y213 :: y214 :: y215 :: y216 :: y217 :: y218 :: y219 :: y220 :: y221 :: y222 :: y223 :: y224 :: y225 :: y226 :: y227 :: y228 :: y229 :: y230 :: y231 :: y232 :: y233 :: y234 :: y235 :: y236 :: y237 :: y238 :: y239 :: y240 :: y241 :: y242 :: y243 :: y244 :: y245 :: y246 :: y247 :: y248 :: y249 :: y250 :: y251 :: y252 :: y253 :: y254 :: y255 :: y256 :: y257 :: y258 :: y259 :: y260 :: y261 :: y262 :: y263 :: y264 :: y265 :: y266 :: y267 :: y268 :: y269 :: y270 :: y271 :: y272 :: y273 :: y274 :: y275 :: y276 :: y277 :: y278 :: []).toArray, []⟩ W') :
    Code.wp Tryz.prog (goTo [1, 1, 1, 1, 1, 1, 1, 1, 1, 1, 1, 1, 1, 0, 1, 2, 1, 4, 1, 3, 0] (Tryz.f30.body.getD .skip)) Q ⟨(y0 :: .pointer (some ⟨g, 0, none⟩) :: y2 :: y3 :: .int .i64 (n : Int) :: .bool f5 :: .bool f6 :: y7 :: y8 :: y9 :: .bool f10 :: .bool f11 :: y12 :: y13 :: .bool f14 :: y15 :: y16 :: y17 :: y18 :: y19 :: y20 :: y21 :: y22 :: y23 :: y24 :: y25 :: y26 :: y27 :: y28 :: y29 :: y30 :: y31 :: y32 :: y33 :: y34 :: y35 :: y36 :: y37 :: y38 :: y39 :: y40 :: y41 :: y42 :: y43 :: y44 :: y45 :: y46 :: y47 :: y48 :: y49 :: y50 :: y51 :: y52 :: y53 :: y54 :: y55 :: y56 :: y57 :: y58 :: y59 :: y60 :: y61 :: y62 :: y63 :: y64 :: y65 :: y66 :: y67 :: y68 :: y69 :: y70 :: y71 :: y72 :: y73 :: y74 :: y75 :: y76 :: y77 :: y78 :: y79 :: y80 :: y81 :: y82 :: y83 :: y84 :: y85 :: y86 :: y87 :: y88 :: y89 :: y90 :: y91 :: y92 :: y93 :: y94 :: y95 :: y96 :: y97 :: y98 :: y99 :: y100 :: y101 :: y102 :: y103 :: y104 :: y105 :: y106 :: y107 :: y108 :: y109 :: y110 :: y111 :: y112 :: y113 :: y114 :: y115 :: y116 :: y117 :: y118 :: y119 :: y120 :: y121 :: y122 :: y123 :: y124 :: y125 :: y126 :: y127 :: y128 :: y129 :: y130 :: y131 :: y132 :: y133 :: y134 :: y135 :: y136 :: y137 :: y138 :: y139 :: y140 :: y141 :: y142 :: y143 :: y144 :: y145 :: y146 :: y147 :: y148 :: y149 :: y150 :: y151 :: y152 :: y153 :: y154 :: y155 :: y156 :: y157 :: y158 :: y159 :: y160 :: y161 :: y162 :: y163 :: y164 :: y165 :: y166 :: y167 :: y168 :: y169 :: y170 :: y171 :: y172 :: y173 :: y174 :: y175 :: y176 :: y177 :: y178 :: y179 :: y180 :: y181 :: y182 :: y183 :: y184 :: y185 :: y186 :: y187 :: y188 :: y189 :: y190 :: y191 :: y192 :: y193 :: y194 :: y195 :: y196 :: y197 :: y198 :: y199 :: y200 :: y201 :: y202 :: y203 :: y204 :: y205 :: y206 :: y207 :: y208 :: y209 :: y210 :: y211 :: y212 :: y213 :: y214 :: y215 :: y216 :: y217 :: y218 :: y219 :: y220 :: y221 :: y222 :: y223 :: y224 :: y225 :: y226 :: y227 :: y228 :: y229 :: y230 :: y231 :: y232 :: y233 :: y234 :: y235 :: y236 :: y237 :: y238 :: y239 :: y240 :: y241 :: y242 :: y243 :: y244 :: y245 :: y246 :: y247 :: y248 :: y249 :: y250 :: y251 :: y252 :: y253 :: y254 :: y255 :: y256 :: y257 :: y258 :: y259 :: y260 :: y261 :: y262 :: y263 :: y264 :: y265 :: y266 :: y267 :: y268 :: y269 :: y270 :: y271 :: y272 :: y273 :: y274 :: y275 :: y276 :: y277 :: y278 :: []).toArray, []⟩ W := by
  conv => arg 2; whnf
  by_cases hn : n = 0
  rotate_left
  · have g1 : ((n : Int) == 0) = false := by rw [beq_eq_false_iff_ne]; omega
    obtain rfl : p = false := by rw [HP.out, decide_eq_false hn]; rfl
    clear hn
    go_wp2_with fail
    all_goals (first | exact rfl | (apply hnext; exact rfl) | apply hnext)
  subst hn
  rcases f5 with _ | _
  · (skip)
    obtain rfl : p = false := by rw [HP.out]; rfl
    go_wp2_with fail
    all_goals (first | exact rfl | (apply hnext; exact rfl) | apply hnext)
  go_wp2_with fail
  refine (HNA.out _).mono ?_
  rintro e W2 ⟨rfl, rfl⟩
  rcases bt with _ | _
  · (skip)
    obtain rfl : p = false := by rw [HP.out]; rfl
    go_wp2_with fail
    all_goals (first | exact rfl | (apply hnext; exact rfl) | apply hnext)
  rcases bu with _ | _
  · (skip)
    obtain rfl : p = false := by rw [HP.out]; rfl
    go_wp2_with fail
    all_goals (first | exact rfl | (apply hnext; exact rfl) | apply hnext)
  rcases f6 with _ | _
  · (skip)
    obtain rfl : p = false := by rw [HP.out]; rfl
    go_wp2_with fail
    all_goals (first | exact rfl | (apply hnext; exact rfl) | apply hnext)
  rcases f14 with _ | _
  · (skip)
    obtain rfl : p = false := by rw [HP.out]; rfl
    go_wp2_with fail
    all_goals (first | exact rfl | (apply hnext; exact rfl) | apply hnext)
  rcases f10 with _ | _
  · (skip)
    obtain rfl : p = false := by rw [HP.out]; rfl
    go_wp2_with fail
    all_goals (first | exact rfl | (apply hnext; exact rfl) | apply hnext)
  obtain rfl : p = f11 := by rw [HP.out]; rcases f11 with _ | _ <;> rfl
  go_wp2_with fail
  all_goals (first | exact rfl | (apply hnext; exact rfl) | apply hnext)
set_option maxRecDepth 100000 in
set_option maxHeartbeats 8000000 in
theorem rformed_any {m : Nat} : ∀ (n : Nat) (c : Z.Co m n) (a : Z.CN m) (u dv sv : Value) (w : World), CV w n c ⟨a, u, dv, sv⟩ → HasV w → Z.CSm n c → Calls Tryz.prog 30 #[.agg #[.int .u8 a.k, .string a.fr, .string a.tu, .string a.nm, .int .u8 a.ex.top.k, .string a.ex.top.rat, .string a.ex.top.name, .int .i64 a.ex.top.date, u, .int .i64 a.date, dv, sv]] w fun e w' => e = .returned (.bool (Z.coFormed n c)) ∧ Below w.heap.size w w' := by
  intro n
  induction n with
  | zero => intro c; exact c.no
  | succ n ih =>
    intro c a u dv sv w hc hV hsm
    have HKS := Lib.hid hc.shape
    obtain ⟨rfl, hX, hD, hS⟩ := hc.open_
    obtain ⟨⟨Au, ku, cu, rfl⟩, _, _⟩ := HKS.out
    obtain ⟨Ad, cd, rfl, _, _⟩ := hD.shape
    obtain ⟨A, cp, rfl, hlc, hcm⟩ := hS.shape
    unfold maxLen at hcm
    have hb0 : Below w.heap.size w (w.alloc (.cells #[.int .u8 c.top.k, .string c.top.fr, .string c.top.tu, .string c.top.nm, .int .u8 c.top.ex.top.k, .string c.top.ex.top.rat, .string c.top.ex.top.name, .int .i64 c.top.ex.top.date, .slice Au ku cu, .int .i64 c.top.date, .slice Ad c.top.dates.length cd, .slice A c.sub.length cp] 29)) := (Below.refl _ w).alloc (Nat.le_refl w.heap.size) _
    have BX := Blk.new w 29 #[.int .u8 c.top.k, .string c.top.fr, .string c.top.tu, .string c.top.nm, .int .u8 c.top.ex.top.k, .string c.top.ex.top.rat, .string c.top.ex.top.name, .int .i64 c.top.ex.top.date, .slice Au ku cu, .int .i64 c.top.date, .slice Ad c.top.dates.length cd, .slice A c.sub.length cp]
    have HS := Lib.hid (CS.below hb0 hS)
    have HX := Lib.hid (XV.below hb0 (m + 1) hX)
    have HDV := Lib.hid (SL.below hD hb0)
    have HV := Lib.hid (hV.below hb0)
    have HSUB := Lib.hid hsm.sub
    have HTOP := Lib.hid hsm.top
    have HRR : Hid (Z.coFormed (n + 1) c = (c.sub.all (Z.coFormed n) && Z.nodeB (c.top, c.sub.length))) := Lib.hid rfl
    have HI0 : Hid (c.sub.all (Z.coFormed n) = (c.sub.drop 0).all (Z.coFormed n)) := Lib.hid (by rw [List.drop_zero])
    generalize Z.coFormed (n + 1) c = RR at *
    clear hsm hc hX hD hS HKS hV
    generalize c.sub = l at *
    generalize c.top = t at *
    have c0 := BX.cell 0
    have c1 := BX.cell 1
    have c2 := BX.cell 2
    have c3 := BX.cell 3
    have c4 := BX.cell 4
    have c5 := BX.cell 5
    have c6 := BX.cell 6
    have c7 := BX.cell 7
    have c8 := BX.cell 8
    have c9 := BX.cell 9
    have c10 := BX.cell 10
    have c11 := BX.cell 11
    go_enter Tryz.func30, Tryz.ntmps30
    go_wp2_with fail
    generalize (w.alloc (.cells #[.int .u8 t.k, .string t.fr, .string t.tu, .string t.nm, .int .u8 t.ex.top.k, .string t.ex.top.rat, .string t.ex.top.name, .int .i64 t.ex.top.date, .slice Au ku cu, .int .i64 t.date, .slice Ad t.dates.length cd, .slice A l.length cp] 29)) = W0 at *
    go_loopw [3] (fun iv wr => ∃ k : Nat, k ≤ l.length ∧ iv = .int .i64 k ∧ Hid (l.all (Z.coFormed n) = (l.drop k).all (Z.coFormed n)) ∧ Below W0.heap.size W0 wr) (fun iv _ => l.length - (intOf iv).toNat)
    case atStart => exact ⟨0, by omega, rfl, HI0, Below.refl _ _⟩
    case round =>
      obtain ⟨k, hk, rfl, HI, hbr⟩ := hrel
      clear HI0 c0 c1 c2 c3 c4 c5 c6 c7 c8 c9 c10 c11
      have hbw := hb0.trans (hbr.mono hb0.size)
      replace BX := BX.below hbr
      have c0 := BX.cell 0
      have c1 := BX.cell 1
      have c2 := BX.cell 2
      have c3 := BX.cell 3
      have c4 := BX.cell 4
      have c5 := BX.cell 5
      have c6 := BX.cell 6
      have c7 := BX.cell 7
      have c8 := BX.cell 8
      have c9 := BX.cell 9
      have c10 := BX.cell 10
      have c11 := BX.cell 11
      by_cases hlt : k < l.length
      · have hz : l[k]? = some l[k] := List.getElem?_eq_getElem hlt
        obtain ⟨b, o, ax, yu, yd, ys, rfl, hbl, q0, q1, q2, q3, q4, q5, q6, q7, q8, q9, q10, q11, hv⟩ := CS.cells (CS.below hbr HS.out) hz
        have HDR : Hid ((l.drop k).all (Z.coFormed n) = (Z.coFormed n l[k] && (l.drop (k + 1)).all (Z.coFormed n))) := Lib.hid (by rw [List.drop_eq_getElem_cons hlt]; rfl)
        have HM := Lib.hid (List.mem_of_getElem? hz)
        clear hz
        generalize l[k] = y at *
        have hi0 : (0 : Int) ≤ (k : Int) := by omega
        have hi1 : (k : Int) < (l.length : Int) := by omega
        obtain ⟨⟨Yu, yu1, yu2, rfl⟩, ⟨Yd, yd1, yd2, rfl⟩, ⟨Ys, ys1, ys2, rfl⟩⟩ := hv.shape
        have HC := Lib.hid (ih y ax (.slice Yu yu1 yu2) (.slice Yd yd1 yd2) (.slice Ys ys1 ys2) wr hv (HV.out.below hbr) (HSUB.out y HM.out))
        clear hv ih
        generalize Z.coFormed n y = z at *
        go_wp2_with fail
        refine HC.out.mono ?_
        rintro e W1 ⟨rfl, hb⟩
        have hb1 := hbr.trans (hb.mono hbr.size)
        clear HC hb q0 q1 q2 q3 q4 q5 q6 q7 q8 q9 q10 q11 c0 c1 c2 c3 c4 c5 c6 c7 c8 c9 c10 c11
        rcases z with _ | _
        · (skip)
          have HE : Hid (false = RR) := Lib.hid (by rw [HRR.out, HI.out, HDR.out]; rfl)
          go_wp2_with fail
          go_ret
          exact ⟨ret_bool HE.out, hb0.trans (hb1.mono hb0.size)⟩
        · (skip)
          have HN : Hid (l.all (Z.coFormed n) = (l.drop (k + 1)).all (Z.coFormed n)) := Lib.hid (by rw [HI.out, HDR.out, Bool.true_and])
          clear HI HDR
          go_wp2_with fail
          go_roundw
          case rel => exact ⟨k + 1, by omega, by go_num, HN, hb1⟩
          case measure => simp [intOf]; omega
      · obtain rfl : k = l.length := by omega
        have HR2 : Hid (Z.nodeB (t, l.length) = RR) := Lib.hid (by rw [HRR.out, HI.out, List.drop_length]; rfl)
        clear HRR HI ih HSUB HS
        have HXr := Lib.hid (XV.below hbr (m + 1) HX.out)
        have HDr := Lib.hid (SL.below HDV.out hbr)
        have HVr := Lib.hid (HV.out.below hbr)
        clear HX HDV HV
        have hN : l.length ≤ 9223372036854775807 := by omega
        have HN5 := Lib.hid (fun W => rname_any t.fr W (by have := HTOP.out.fr; unfold maxLen; omega))
        have HN6 := Lib.hid (fun W => rname_any t.nm W (by have := HTOP.out.nm; unfold maxLen; omega))
        have HNT := Lib.hid (fun W => rname_any t.tu W (by have := HTOP.out.tu; unfold maxLen; omega))
        have HDA := Lib.hid (fun W => rday_any t.date W)
        have HBA := Lib.hid (fun W (h : Below wr.heap.size wr W) => rbare_any m t.ex (.slice Au ku cu) W (XV.below h (m + 1) HXr.out))
        have HDS := Lib.hid (fun W (h : Below wr.heap.size wr W) => rdays_any _ t.dates W (SL.below HDr.out h))
        have HNU := Lib.hid (fun W (h : Below wr.heap.size wr W) => rxnumber_any m t.ex (.slice Au ku cu) W (XV.below h (m + 1) HXr.out) (HVr.out.below h) HTOP.out.ex)
        have HTR := Lib.hid (fun W (h : Below wr.heap.size wr W) => rxtruth_any m t.ex (.slice Au ku cu) W (XV.below h (m + 1) HXr.out) (HVr.out.below h) HTOP.out.ex)
        have e7 := Z.isE t.fr
        have e8 := Z.isE t.tu
        have e9 := Z.isE t.nm
        have e10 := Z.eqI t.date 0
        have e11 := Z.eqN t.dates.length
        have e12 : (t.fr.toList == t.tu.toList) = !(!decide (t.fr = t.tu)) := by rw [Bool.not_not]; exact Z.eqS t.fr t.tu
        have HK1 := Lib.hid (fun h => Z.node_k1 (t := t) (n := l.length) h)
        have HK2 := Lib.hid (fun h => Z.node_k2 (t := t) (n := l.length) h)
        have HK3 := Lib.hid (fun h => Z.node_k3 (t := t) (n := l.length) h)
        have HK4 := Lib.hid (fun h => Z.node_k4 (t := t) (n := l.length) h)
        have HK5 := Lib.hid (fun h => Z.node_k5 (t := t) (n := l.length) h)
        have HK6 := Lib.hid (fun h => Z.node_k6 (t := t) (n := l.length) h)
        have HK7 := Lib.hid (fun h => Z.node_k7 (t := t) (n := l.length) h)
        have HK8 := Lib.hid (fun h => Z.node_k8 (t := t) (n := l.length) h)
        have HK9 := Lib.hid (fun h => Z.node_k9 (t := t) (n := l.length) h)
        have HK10 := Lib.hid (fun h => Z.node_k10 (t := t) (n := l.length) h)
        have HKX := Lib.hid (fun h => Z.node_kx (t := t) (n := l.length) h)
        clear HTOP HXr HDr HVr
        generalize Z.nodeB (t, l.length) = ND at *
        generalize Z.nameB t.fr = f5 at *
        generalize Z.nameB t.nm = f6 at *
        generalize Z.nameB t.tu = bt at *
        generalize decide (t.fr = Z.e0) = f7 at *
        generalize decide (t.tu = Z.e0) = f8 at *
        generalize decide (t.nm = Z.e0) = f9 at *
        generalize decide (t.date = 0) = f10 at *
        generalize decide (t.dates.length = 0) = f11 at *
        generalize decide (t.fr = t.tu) = bx at *
        generalize Z.bareX t.ex = f12 at *
        generalize Z.daysB t.dates = f13 at *
        generalize Z.numB (m + 1) t.ex = f14 at *
        generalize Z.truB (m + 1) t.ex = f15 at *
        generalize Z.dayC t.date = bd at *
        obtain ⟨K, hK⟩ : ∃ K, K = t.k := ⟨_, rfl⟩
        rw [← hK] at c0 BX HK1 HK2 HK3 HK4 HK5 HK6 HK7 HK8 HK9 HK10 HKX ⊢
        clear hK
        go_upto_region 7 with fail
        go_cut [5, 6] from 33 to 38 (fun pv qv wx => pv = .bool f5 ∧ qv = .bool f6 ∧ Below wr.heap.size wr wx)
        case first =>
          have z1 : ∀ q : Ab wr, q.1.cell? ⟨w.heap.size, 1, none⟩ = some (.string t.fr) := fun q => (BX.below q.2).cell 1
          have z3 : ∀ q : Ab wr, q.1.cell? ⟨w.heap.size, 3, none⟩ = some (.string t.nm) := fun q => (BX.below q.2).cell 3
          have HA5 : Hid (∀ q : Ab wr, Calls Tryz.prog 44 #[.string t.fr] q.1 fun e w' => e = .returned (.bool f5) ∧ Below q.1.heap.size q.1 w') := Lib.hid (fun q => (HN5.out q.1).mono (fun e w' ⟨he, hw⟩ => ⟨he, hw ▸ Below.refl _ _⟩))
          have HA6 : Hid (∀ q : Ab wr, Calls Tryz.prog 44 #[.string t.nm] q.1 fun e w' => e = .returned (.bool f6) ∧ Below q.1.heap.size q.1 w') := Lib.hid (fun q => (HN6.out q.1).mono (fun e w' ⟨he, hw⟩ => ⟨he, hw ▸ Below.refl _ _⟩))
          clear HN5 HN6 c0 c1 c2 c3 c4 c5 c6 c7 c8 c9 c10 c11
          refine wp_region_above (by kernel_rfl) (by kernel_rfl) ?_
          repeat (go_big_quiet_step (first | (go_at_call 44; first | (with_reducible exact Ab.step (HA5.out _)) | (with_reducible exact Ab.step (HA6.out _)))))
          refine wpQuiet_nil ?_
          rintro _ ⟨q', rfl⟩
          have hq := q'.2
          clear z1 z3
          go_wp2_with fail
          go_meet
          exact ⟨rfl, rfl, hq⟩
        case rest =>
        obtain ⟨rfl, rfl, hb3⟩ := hcut
        rename World => W3
        have h3 := hbr.trans (hb3.mono hbr.size)
        replace BX := BX.below hb3
        clear c0 c1 c2 c3 c4 c5 c6 c7 c8 c9 c10 c11
        have c0 := BX.cell 0
        have c1 := BX.cell 1
        have c2 := BX.cell 2
        have c3 := BX.cell 3
        have c4 := BX.cell 4
        have c5 := BX.cell 5
        have c6 := BX.cell 6
        have c7 := BX.cell 7
        have c8 := BX.cell 8
        have c9 := BX.cell 9
        have c10 := BX.cell 10
        have c11 := BX.cell 11
        go_wp2_with fail
        refine (HBA.out _ hb3).mono ?_
        rintro e W4 ⟨rfl, hb⟩
        have hh0 := hb3.trans (hb.mono hb3.size)
        replace BX := BX.below hb
        clear c0 c1 c2 c3 c4 c5 c6 c7 c8 c9 c10 c11
        have c0 := BX.cell 0
        have c1 := BX.cell 1
        have c2 := BX.cell 2
        have c3 := BX.cell 3
        have c4 := BX.cell 4
        have c5 := BX.cell 5
        have c6 := BX.cell 6
        have c7 := BX.cell 7
        have c8 := BX.cell 8
        have c9 := BX.cell 9
        have c10 := BX.cell 10
        have c11 := BX.cell 11
        clear hb hb3 HBA
        go_wp2_with fail
        refine (HDS.out _ hh0).mono ?_
        rintro e W5 ⟨rfl, hb⟩
        have hh1 := hh0.trans (hb.mono hh0.size)
        replace BX := BX.below hb
        clear c0 c1 c2 c3 c4 c5 c6 c7 c8 c9 c10 c11
        have c0 := BX.cell 0
        have c1 := BX.cell 1
        have c2 := BX.cell 2
        have c3 := BX.cell 3
        have c4 := BX.cell 4
        have c5 := BX.cell 5
        have c6 := BX.cell 6
        have c7 := BX.cell 7
        have c8 := BX.cell 8
        have c9 := BX.cell 9
        have c10 := BX.cell 10
        have c11 := BX.cell 11
        clear hb hh0 HDS
        go_wp2_with fail
        refine (HNU.out _ hh1).mono ?_
        rintro e W6 ⟨rfl, hb⟩
        have hh2 := hh1.trans (hb.mono hh1.size)
        replace BX := BX.below hb
        clear c0 c1 c2 c3 c4 c5 c6 c7 c8 c9 c10 c11
        have c0 := BX.cell 0
        have c1 := BX.cell 1
        have c2 := BX.cell 2
        have c3 := BX.cell 3
        have c4 := BX.cell 4
        have c5 := BX.cell 5
        have c6 := BX.cell 6
        have c7 := BX.cell 7
        have c8 := BX.cell 8
        have c9 := BX.cell 9
        have c10 := BX.cell 10
        have c11 := BX.cell 11
        clear hb hh1 HNU
        go_wp2_with fail
        refine (HTR.out _ hh2).mono ?_
        rintro e W7 ⟨rfl, hb⟩
        have hh3 := hh2.trans (hb.mono hh2.size)
        replace BX := BX.below hb
        clear c0 c1 c2 c3 c4 c5 c6 c7 c8 c9 c10 c11
        have c0 := BX.cell 0
        have c1 := BX.cell 1
        have c2 := BX.cell 2
        have c3 := BX.cell 3
        have c4 := BX.cell 4
        have c5 := BX.cell 5
        have c6 := BX.cell 6
        have c7 := BX.cell 7
        have c8 := BX.cell 8
        have c9 := BX.cell 9
        have c10 := BX.cell 10
        have c11 := BX.cell 11
        clear hb hh2 HTR
        have hend := hb0.trans ((hbr.trans (hh3.mono hbr.size)).mono hb0.size)
        clear hh3 h3 hbr hbw hb0
        by_cases k1 : K = 1
        · subst k1
          obtain ⟨p, hp⟩ : ∃ p, p = (decide (l.length = 0) && (f7 && (f8 && (f9 && (f10 && (f11 && f12)))))) := ⟨_, rfl⟩
          have HP := Lib.hid hp
          have HE : Hid (p = RR) := Lib.hid (by rw [hp, ← HK1.out rfl]; exact HR2.out)
          clear hp HK1 HK2 HK3 HK4 HK5 HK6 HK7 HK8 HK9 HK10 HKX
          go_upto_region 19 with fail
          refine rf_reg19 HP ?_
          intro u71' u72' u73' u74' u75' u76' u77' u78' u79' u80' u81' u82' u83' u84' u85' u86' u87' u88' u89' u90' W' hW'
          subst hW'
          go_wp2_with fail
          go_ret
          exact ⟨ret_bool HE.out, hend⟩
        by_cases k2 : K = 2
        · subst k2
          obtain ⟨p, hp⟩ : ∃ p, p = (decide (l.length = 0) && (f5 && (bt && ((!bx) && (f6 && (f14 && (f10 && f11))))))) := ⟨_, rfl⟩
          have HP := Lib.hid hp
          have HE : Hid (p = RR) := Lib.hid (by rw [hp, ← HK2.out rfl]; exact HR2.out)
          clear hp HK1 HK2 HK3 HK4 HK5 HK6 HK7 HK8 HK9 HK10 HKX
          go_upto_region 21 with fail
          refine rf_reg21 c1 c2 HNT e12 HP ?_
          intro u93' u94' u95' u96' u97' u98' u99' u100' u101' u102' u103' u104' u105' u106' u107' u108' u109' u110' u111' u112' u113' u114' u115' u116' u117' u118' u119' u120' u121' W' hW'
          subst hW'
          go_wp2_with fail
          go_ret
          exact ⟨ret_bool HE.out, hend⟩
        by_cases k3 : K = 3
        · subst k3
          obtain ⟨p, hp⟩ : ∃ p, p = (decide (l.length = 2) && (f7 && (f8 && (f9 && (f10 && (f11 && f12)))))) := ⟨_, rfl⟩
          have HP := Lib.hid hp
          have HE : Hid (p = RR) := Lib.hid (by rw [hp, ← HK3.out rfl]; exact HR2.out)
          clear hp HK1 HK2 HK3 HK4 HK5 HK6 HK7 HK8 HK9 HK10 HKX
          go_upto_region 23 with fail
          refine rf_reg23 HP ?_
          intro u124' u125' u126' u127' u128' u129' u130' u131' u132' u133' u134' u135' u136' u137' u138' u139' u140' u141' u142' u143' W' hW'
          subst hW'
          go_wp2_with fail
          go_ret
          exact ⟨ret_bool HE.out, hend⟩
        by_cases k4 : K = 4
        · subst k4
          obtain ⟨p, hp⟩ : ∃ p, p = (decide (l.length = 1) && (f7 && (f8 && (f9 && (f10 && (f11 && f14)))))) := ⟨_, rfl⟩
          have HP := Lib.hid hp
          have HE : Hid (p = RR) := Lib.hid (by rw [hp, ← HK4.out rfl]; exact HR2.out)
          clear hp HK1 HK2 HK3 HK4 HK5 HK6 HK7 HK8 HK9 HK10 HKX
          go_upto_region 25 with fail
          refine rf_reg25 HP ?_
          intro u146' u147' u148' u149' u150' u151' u152' u153' u154' u155' u156' u157' u158' u159' u160' u161' u162' u163' u164' u165' W' hW'
          subst hW'
          go_wp2_with fail
          go_ret
          exact ⟨ret_bool HE.out, hend⟩
        by_cases k5 : K = 5
        · subst k5
          obtain ⟨p, hp⟩ : ∃ p, p = (decide (l.length = 2) && (f7 && (f8 && (f9 && (f10 && (f11 && f15)))))) := ⟨_, rfl⟩
          have HP := Lib.hid hp
          have HE : Hid (p = RR) := Lib.hid (by rw [hp, ← HK5.out rfl]; exact HR2.out)
          clear hp HK1 HK2 HK3 HK4 HK5 HK6 HK7 HK8 HK9 HK10 HKX
          go_upto_region 27 with fail
          refine rf_reg27 HP ?_
          intro u168' u169' u170' u171' u172' u173' u174' u175' u176' u177' u178' u179' u180' u181' u182' u183' u184' u185' u186' u187' W' hW'
          subst hW'
          go_wp2_with fail
          go_ret
          exact ⟨ret_bool HE.out, hend⟩
        by_cases k6 : K = 6
        · subst k6
          obtain ⟨p, hp⟩ : ∃ p, p = (decide (l.length = 1) && (f7 && (f8 && (f9 && (bd && (f11 && f12)))))) := ⟨_, rfl⟩
          have HP := Lib.hid hp
          have HE : Hid (p = RR) := Lib.hid (by rw [hp, ← HK6.out rfl]; exact HR2.out)
          clear hp HK1 HK2 HK3 HK4 HK5 HK6 HK7 HK8 HK9 HK10 HKX
          go_upto_region 29 with fail
          refine rf_reg29 c9 HDA HP ?_
          intro u190' u191' u192' u193' u194' u195' u196' u197' u198' u199' u200' u201' u202' u203' u204' u205' u206' u207' u208' u209' u210' u211' W' hW'
          subst hW'
          go_wp2_with fail
          go_ret
          exact ⟨ret_bool HE.out, hend⟩
        by_cases k7 : K = 7
        · subst k7
          obtain ⟨p, hp⟩ : ∃ p, p = (decide (l.length = 2) && (f5 && (f8 && (f6 && (f10 && (f11 && f12)))))) := ⟨_, rfl⟩
          have HP := Lib.hid hp
          have HE : Hid (p = RR) := Lib.hid (by rw [hp, ← HK7.out rfl]; exact HR2.out)
          clear hp HK1 HK2 HK3 HK4 HK5 HK6 HK7 HK8 HK9 HK10 HKX
          go_upto_region 31 with fail
          refine rf_reg31 HP ?_
          intro u214' u215' u216' u217' u218' u219' u220' u221' u222' u223' u224' u225' u226' u227' u228' u229' u230' u231' u232' u233' W' hW'
          subst hW'
          go_wp2_with fail
          go_ret
          exact ⟨ret_bool HE.out, hend⟩
        by_cases k8 : K = 8
        · subst k8
          obtain ⟨p, hp⟩ : ∃ p, p = (decide (l.length = 1) && (f5 && (f8 && (f6 && (f10 && (f13 && f12)))))) := ⟨_, rfl⟩
          have HP := Lib.hid hp
          have HE : Hid (p = RR) := Lib.hid (by rw [hp, ← HK8.out rfl]; exact HR2.out)
          clear hp HK1 HK2 HK3 HK4 HK5 HK6 HK7 HK8 HK9 HK10 HKX
          go_upto_region 33 with fail
          refine rf_reg33 HP ?_
          intro u236' u237' u238' u239' u240' u241' u242' u243' u244' u245' u246' u247' u248' u249' u250' u251' u252' u253' u254' u255' W' hW'
          subst hW'
          go_wp2_with fail
          go_ret
          exact ⟨ret_bool HE.out, hend⟩
        by_cases k9 : K = 9
        · subst k9
          obtain ⟨p, hp⟩ : ∃ p, p = (decide (l.length = 1) && (f7 && (f8 && (f9 && (f10 && (f13 && f15)))))) := ⟨_, rfl⟩
          have HP := Lib.hid hp
          have HE : Hid (p = RR) := Lib.hid (by rw [hp, ← HK9.out rfl]; exact HR2.out)
          clear hp HK1 HK2 HK3 HK4 HK5 HK6 HK7 HK8 HK9 HK10 HKX
          go_upto_region 36 with fail
          refine rf_reg36 HP ?_
          intro u259' u260' u261' u262' u263' u264' u265' u266' u267' u268' u269' u270' u271' u272' u273' u274' u275' u276' u277' u278' W' hW'
          subst hW'
          go_wp2_with fail
          go_ret
          exact ⟨ret_bool HE.out, hend⟩
        by_cases k10 : K = 10
        · subst k10
          obtain ⟨p, hp⟩ : ∃ p, p = (decide (l.length = 1) && (f7 && (f8 && (f9 && (f10 && (f13 && f15)))))) := ⟨_, rfl⟩
          have HP := Lib.hid hp
          have HE : Hid (p = RR) := Lib.hid (by rw [hp, ← HK10.out rfl]; exact HR2.out)
          clear hp HK1 HK2 HK3 HK4 HK5 HK6 HK7 HK8 HK9 HK10 HKX
          go_upto_region 36 with fail
          refine rf_reg36 HP ?_
          intro u259' u260' u261' u262' u263' u264' u265' u266' u267' u268' u269' u270' u271' u272' u273' u274' u275' u276' u277' u278' W' hW'
          subst hW'
          go_wp2_with fail
          go_ret
          exact ⟨ret_bool HE.out, hend⟩
        have HE : Hid (false = RR) := Lib.hid (by rw [← HKX.out (by omega)]; exact HR2.out)
        clear HK1 HK2 HK3 HK4 HK5 HK6 HK7 HK8 HK9 HK10 HKX
        go_wp2_with fail
        go_ret
        exact ⟨ret_bool HE.out, hend⟩
end Go.Proofs.YtifafmomkpkgdaaGreatDoor
/- Walk: the reference's Check of a contract. -/

namespace Go.Proofs.YtifafmomkpkgdaaGreatDoor
open Go.RowKit
set_option maxRecDepth 100000 in
set_option maxHeartbeats 2000000 in
theorem rccheck_any {m : Nat} (n : Nat) (c : Z.Co m (n + 1)) (a : Z.CN m) (u dv sv : Value) (w : World) (hc : CV w (n + 1) c ⟨a, u, dv, sv⟩) (hV : HasV w) (hs : Z.CSm (n + 1) c) :
    Calls Tryz.prog 16 #[.agg #[.int .u8 a.k, .string a.fr, .string a.tu, .string a.nm, .int .u8 a.ex.top.k, .string a.ex.top.rat, .string a.ex.top.name, .int .i64 a.ex.top.date, u, .int .i64 a.date, dv, sv]] w fun e w' => e = .returned (.int .i64 (Z.coE (n + 1) c)) ∧ Below w.heap.size w w' := by
  obtain ⟨Au, ku, cu, rfl⟩ := hc.shape.1
  obtain ⟨Ad, kd, cd, rfl⟩ := hc.shape.2.1
  obtain ⟨As, ks, cs, rfl⟩ := hc.shape.2.2
  have hb0 := (Below.refl _ w).alloc (Nat.le_refl w.heap.size) (.cells #[.int .u8 a.k, .string a.fr, .string a.tu, .string a.nm, .int .u8 a.ex.top.k, .string a.ex.top.rat, .string a.ex.top.name, .int .i64 a.ex.top.date, .slice Au ku cu, .int .i64 a.date, .slice Ad kd cd, .slice As ks cs] 29)
  have BX := Blk.new w 29 #[.int .u8 a.k, .string a.fr, .string a.tu, .string a.nm, .int .u8 a.ex.top.k, .string a.ex.top.rat, .string a.ex.top.name, .int .i64 a.ex.top.date, .slice Au ku cu, .int .i64 a.date, .slice Ad kd cd, .slice As ks cs]
  have HS := Lib.hid (fun W (h : Below w.heap.size w W) => rcsize_any (n + 1) c a _ _ _ W (CV.below h _ hc) hs)
  have HD := Lib.hid (fun W (h : Below w.heap.size w W) => rcdepth_any (n + 1) c a _ _ _ W (CV.below h _ hc) hs)
  have HT := Lib.hid (fun W (h : Below w.heap.size w W) => rformed_any (n + 1) c a _ _ _ W (CV.below h _ hc) (hV.below h) hs)
  have HR : Hid (Z.coE (n + 1) c = if 500 < Z.coSize (n + 1) c ∨ 60 < Z.coDepth (n + 1) c then 4 else if Z.coFormed (n + 1) c = true then 0 else 8) := Lib.hid rfl
  have hN := hs.size
  have hND := Z.CSm.depth hs
  clear hc hV hs
  generalize Z.coE (n + 1) c = R at *
  generalize Z.coSize (n + 1) c = N at *
  generalize Z.coDepth (n + 1) c = D at *
  generalize Z.coFormed (n + 1) c = S at *
  have c0 := BX.cell 0
  have c1 := BX.cell 1
  have c2 := BX.cell 2
  have c3 := BX.cell 3
  have c4 := BX.cell 4
  have c5 := BX.cell 5
  have c6 := BX.cell 6
  have c7 := BX.cell 7
  have c8 := BX.cell 8
  have c9 := BX.cell 9
  have c10 := BX.cell 10
  have c11 := BX.cell 11
  go_enter Tryz.func16, Tryz.ntmps16
  by_cases h5 : 500 < N
  · have h5' : (N : Int) > 500 := by omega
    have HE : Hid (4 = R) := Lib.hid (HR.out.trans (if_pos (Or.inl h5))).symm
    clear h5 HR
    go_wp2_with fail
    refine (HS.out _ hb0).mono ?_
    rintro e W1 ⟨rfl, hb⟩
    have hb1 := hb0.trans (hb.mono hb0.size)
    go_wp2_with fail
    go_ret
    exact ⟨ret_int HE.out, hb1⟩
  · have h5' : ¬ (N : Int) > 500 := by omega
    go_wp2_with fail
    refine (HS.out _ hb0).mono ?_
    rintro e W1 ⟨rfl, hb⟩
    have hb1 := hb0.trans (hb.mono hb0.size)
    replace BX := BX.below hb
    clear c0 c1 c2 c3 c4 c5 c6 c7 c8 c9 c10 c11 hb hb0
    have c0 := BX.cell 0
    have c1 := BX.cell 1
    have c2 := BX.cell 2
    have c3 := BX.cell 3
    have c4 := BX.cell 4
    have c5 := BX.cell 5
    have c6 := BX.cell 6
    have c7 := BX.cell 7
    have c8 := BX.cell 8
    have c9 := BX.cell 9
    have c10 := BX.cell 10
    have c11 := BX.cell 11
    go_wp2_with fail
    refine (HD.out _ hb1).mono ?_
    rintro e W2 ⟨rfl, hb⟩
    have hb2 := hb1.trans (hb.mono hb1.size)
    replace BX := BX.below hb
    clear c0 c1 c2 c3 c4 c5 c6 c7 c8 c9 c10 c11 hb hb1
    have c0 := BX.cell 0
    have c1 := BX.cell 1
    have c2 := BX.cell 2
    have c3 := BX.cell 3
    have c4 := BX.cell 4
    have c5 := BX.cell 5
    have c6 := BX.cell 6
    have c7 := BX.cell 7
    have c8 := BX.cell 8
    have c9 := BX.cell 9
    have c10 := BX.cell 10
    have c11 := BX.cell 11
    by_cases h6 : 60 < D
    · have HE : Hid (4 = R) := Lib.hid (HR.out.trans (if_pos (Or.inr h6))).symm
      have h6' : (D : Int) > 60 := by omega
      clear h6 h5 HR
      go_wp2_with fail
      go_ret
      exact ⟨ret_int HE.out, hb2⟩
    · have HE : Hid (R = if S = true then 0 else 8) := Lib.hid (HR.out.trans (if_neg (by omega)))
      have h6' : ¬ (D : Int) > 60 := by omega
      clear h6 h5 HR
      go_wp2_with fail
      refine (HT.out _ hb2).mono ?_
      rintro e W3 ⟨rfl, hb⟩
      have hb3 := hb2.trans (hb.mono hb2.size)
      clear hb hb2
      rcases S with _ | _
      · have HE2 : Hid (8 = R) := Lib.hid (HE.out.trans rfl).symm
        clear HE
        go_wp2_with fail
        go_ret
        exact ⟨ret_int HE2.out, hb3⟩
      · have HE2 : Hid (0 = R) := Lib.hid (HE.out.trans rfl).symm
        clear HE
        go_wp2_with fail
        go_ret
        exact ⟨ret_int HE2.out, hb3⟩
end Go.Proofs.YtifafmomkpkgdaaGreatDoor
