/- Walks: the loop of ContractBuilds. -/
import Derived.Test.YtifafmomkpkgdaaDoorOal
import Derived.Test.YtifafmomkpkgdaaDoorZcb
import Derived.Test.YtifafmomkpkgdaaDoorOrd
namespace Go.Proofs.YtifafmomkpkgdaaDoor
open Go.RowKit
/-- A region of a body, by its number. -/
def bRgn (n : Nat) : Code → Option Code
  | .region i o d => if i = n then some (.region i o d) else none
  | .loop c => bRgn n c
  | .seq a b => match bRgn n a with
    | some c => some c
    | none => bRgn n b
  | .block _ c => bRgn n c
  | .scope c => bRgn n c
  | .cond _ a b => match bRgn n a with
    | some c => some c
    | none => bRgn n b
  | _ => none
set_option maxRecDepth 1000000 in
set_option maxHeartbeats 8000000 in
theorem b_reg31 {W : World} {g s : Nat} {k R ho day : Int} {l : List Int} {mo ma : List Z.BS} {D9 D3 : Nat} {A9 A14 Av Ys : Option Addr} {c9 c14 cv ys2 : Nat} {Q : Exit → Act → World → Prop} {y0 y1 y2 y3 y4 y5 y8 y9 y10 y11 y12 y13 y14 y15 y16 y17 y18 y19 y20 y21 y23 y25 y26 y27 y29 y30 y31 y32 y34 y36 y37 y38 y39 y40 y41 y42 y43 y44 y45 y46 y47 y48 y49 y50 y51 y52 y53 y54 y55 y56 y57 y58 y59 y60 y61 y62 y63 y64 y65 y66 y67 y68 y69 y70 y71 y72 y73 y74 y75 y76 y77 y78 y79 y80 y81 y82 y83 y84 y85 y86 y87 y88 y89 y90 y91 y92 y93 y94 y95 y96 y97 y98 y99 y100 y101 y102 y103 y104 y105 y106 y107 y108 y109 y110 y111 y112 y113 y114 y115 y116 y117 y118 y119 y120 y121 y122 y123 y124 y125 y126 y127 y128 y129 y130 y131 y132 y133 y134 y135 y136 y137 y138 y139 y140 y141 y142 y143 y144 y145 y146 y147 y148 y149 y150 y151 y152 y153 y154 y155 y156 y157 y158 y159 y160 y161 y162 y163 y164 y165 y166 y167 y168 y169 y170 y171 y172 y173 y174 y175 y176 y177 y178 y179 y180 y181 y182 y183 y184 y185 y186 y187 y188 y189 y190 y191 y192 y193 y194 y195 y196 y197 y198 y199 y200 y201 y202 y203 y204 y205 y206 y207 y208 y209 y210 y211 y212 y213 y214 y215 y216 y217 y218 y219 y220 y221 y222 y223 y224 y225 y226 y227 y228 y229 y230 y231 y232 y233 y234 y235 y236 y237 y238 y239 y240 y241 y242 y243 y244 y245 y246 y247 y248 y249 y250 y251 y252 y253 y254 y255 y256 y257 y258 y259 y260 y261 y262 y263 y264 y265 y266 y267 y268 y269 y270 y271 y272 y273 y274 y275 y276 y277 y278 y279 y280 y281 y282 y283 y284 y285 y286 y287 y288 y289 y290 y291 y292 y293 y294 y295 y296 y297 y298 y299 y300 y301 y302 y303 y304 y305 y306 y307 y308 y309 y310 y311 y312 : Value}
    (hvl : l.length * 8 ≤ 140737488355328) (b0 : W.cell? ⟨g, 0, none⟩ = some (.int .u8 k)) (b11 : W.cell? ⟨g, 11, none⟩ = some (.slice Ys s ys2)) (hg : g < W.heap.size) (HSUBL : Hid (s = 1 ∨ s = 2)) (HMM : Hid (s = 1 → mo = ma)) (H6 : Hid (k = 6 → s = 1 ∧ R = max ho day)) (H8 : Hid (k = 8 → s = 1 ∧ R = max ho (l.getLastD 0))) (HDK : Hid (Z.daysB l = true)) (HDD : Hid (SD W (.slice Av l.length cv) l)) (HO9 : Hid (OB W D9 (.slice A9 mo.length c9) mo)) (HO3 : Hid (OB W D3 (.slice A14 ma.length c14) ma))
    (hnext : ∀ (u273 u274 u275 u276 u277 u278 u279 u280 u281 u282 u283 u284 u285 u286 u287 u288 u289 u290 u291 u292 u293 u294 u295 u296 u297 u298 u299 u300 u301 u302 u303 u304 u305 u306 u307 u308 u309 u310 : Value) (W' : World), Below W.heap.size W W' → Q .normal ⟨(y0 :: y1 :: y2 :: y3 :: y4 :: y5 :: .int .i64 day :: .slice Av l.length cv :: y8 :: y9 :: y10 :: y11 :: y12 :: y13 :: y14 :: y15 :: y16 :: y17 :: y18 :: y19 :: y20 :: y21 :: .int .i64 ho :: y23 :: .slice A14 ma.length c14 :: y25 :: y26 :: y27 :: .pointer (some ⟨g, 0, none⟩) :: y29 :: y30 :: y31 :: y32 :: .int .i64 R :: y34 :: .slice A9 mo.length c9 :: y36 :: y37 :: y38 :: y39 :: y40 :: y41 :: y42 :: y43 :: y44 :: y45 :: y46 :: y47 :: y48 :: y49 :: y50 :: y51 :: y52 :: y53 :: y54 :: y55 :: y56 :: y57 :: y58 :: y59 :: y60 :: y61 :: y62 :: y63 :: y64 :: y65 :: y66 :: y67 :: y68 :: y69 :: y70 :: y71 :: y72 :: y73 :: y74 :: y75 :: y76 :: y77 :: y78 :: y79 :: y80 :: y81 :: y82 :: y83 :: y84 :: y85 :: y86 :: y87 :: y88 :: y89 :: y90 :: y91 :: y92 :: y93 :: y94 :: y95 :: y96 :: y97 :: y98 :: y99 :: y100 :: y101 :: y102 :: y103 :: y104 :: y105 :: y106 :: y107 :: y108 :: y109 :: y110 :: y111 :: y112 :: y113 :: y114 :: y115 :: y116 :: y117 :: y118 :: y119 :: y120 :: y121 :: y122 :: y123 :: y124 :: y125 :: y126 :: y127 :: y128 :: y129 :: y130 :: y131 :: y132 :: y133 :: y134 :: y135 :: y136 :: y137 :: y138 :: y139 :: y140 :: y141 :: y142 :: y143 :: y144 :: y145 :: y146 :: y147 :: y148 :: y149 :: y150 :: y151 :: y152 :: y153 :: y154 :: y155 :: y156 :: y157 :: y158 :: y159 :: y160 :: y161 :: y162 :: y163 :: y164 :: y165 :: y166 :: y167 :: y168 :: y169 :: y170 :: y171 :: y172 :: y173 :: y174 :: y175 :: y176 :: y177 :: y178 :: y179 :: y180 :: y181 :: y182 :: y183 :: y184 :: y185 :: y186 :: y187 :: y188 :: y189 :: y190 :: y191 :: y192 :: y193 :: y194 :: y195 :: y196 :: y197 :: y198 :: y199 :: y200 :: y201 :: y202 :: y203 :: y204 :: y205 :: y206 :: y207 :: y208 :: y209 :: y210 :: y211 :: y212 :: y213 :: y214 :: y215 :: y216 :: y217 :: y218 :: y219 :: y220 :: y221 :: y222 :: y223 :: y224 :: y225 :: y226 :: y227 :: y228 :: y229 :: y230 :: y231 :: y232 :: y233 :: y234 :: y235 :: y236 :: y237 :: y238 :: y239 :: y240 :: y241 :: y242 :: y243 :: y244 :: y245 :: y246 :: y247 :: y248 :: y249 :: y250 :: y251 :: y252 :: y253 :: y254 :: y255 :: y256 :: y257 :: y258 :: y259 :: y260 :: y261 :: y262 :: y263 :: y264 :: y265 :: y266 :: y267 :: y268 :: y269 :: y270 :: y271 :: y272 :: u273 :: u274 :: u275 :: u276 :: u277 :: u278 :: u279 :: u280 :: u281 :: u282 :: u283 :: u284 :: u285 :: u286 :: u287 :: u288 :: u289 :: u290 :: u291 :: u292 :: u293 :: u294 :: u295 :: u296 :: u297 :: u298 :: u299 :: u300 :: u301 :: u302 :: u303 :: u304 :: u305 :: u306 :: u307 :: u308 :: u309 :: u310 :: .bool false :: y312 :: []).toArray, []⟩ W') :
    Code.wp Tryd.prog ((Tryd.f3.body.bind (bRgn 31)).getD .skip) Q ⟨(y0 :: y1 :: y2 :: y3 :: y4 :: y5 :: .int .i64 day :: .slice Av l.length cv :: y8 :: y9 :: y10 :: y11 :: y12 :: y13 :: y14 :: y15 :: y16 :: y17 :: y18 :: y19 :: y20 :: y21 :: .int .i64 ho :: y23 :: .slice A14 ma.length c14 :: y25 :: y26 :: y27 :: .pointer (some ⟨g, 0, none⟩) :: y29 :: y30 :: y31 :: y32 :: .int .i64 R :: y34 :: .slice A9 mo.length c9 :: y36 :: y37 :: y38 :: y39 :: y40 :: y41 :: y42 :: y43 :: y44 :: y45 :: y46 :: y47 :: y48 :: y49 :: y50 :: y51 :: y52 :: y53 :: y54 :: y55 :: y56 :: y57 :: y58 :: y59 :: y60 :: y61 :: y62 :: y63 :: y64 :: y65 :: y66 :: y67 :: y68 :: y69 :: y70 :: y71 :: y72 :: y73 :: y74 :: y75 :: y76 :: y77 :: y78 :: y79 :: y80 :: y81 :: y82 :: y83 :: y84 :: y85 :: y86 :: y87 :: y88 :: y89 :: y90 :: y91 :: y92 :: y93 :: y94 :: y95 :: y96 :: y97 :: y98 :: y99 :: y100 :: y101 :: y102 :: y103 :: y104 :: y105 :: y106 :: y107 :: y108 :: y109 :: y110 :: y111 :: y112 :: y113 :: y114 :: y115 :: y116 :: y117 :: y118 :: y119 :: y120 :: y121 :: y122 :: y123 :: y124 :: y125 :: y126 :: y127 :: y128 :: y129 :: y130 :: y131 :: y132 :: y133 :: y134 :: y135 :: y136 :: y137 :: y138 :: y139 :: y140 :: y141 :: y142 :: y143 :: y144 :: y145 :: y146 :: y147 :: y148 :: y149 :: y150 :: y151 :: y152 :: y153 :: y154 :: y155 :: y156 :: y157 :: y158 :: y159 :: y160 :: y161 :: y162 :: y163 :: y164 :: y165 :: y166 :: y167 :: y168 :: y169 :: y170 :: y171 :: y172 :: y173 :: y174 :: y175 :: y176 :: y177 :: y178 :: y179 :: y180 :: y181 :: y182 :: y183 :: y184 :: y185 :: y186 :: y187 :: y188 :: y189 :: y190 :: y191 :: y192 :: y193 :: y194 :: y195 :: y196 :: y197 :: y198 :: y199 :: y200 :: y201 :: y202 :: y203 :: y204 :: y205 :: y206 :: y207 :: y208 :: y209 :: y210 :: y211 :: y212 :: y213 :: y214 :: y215 :: y216 :: y217 :: y218 :: y219 :: y220 :: y221 :: y222 :: y223 :: y224 :: y225 :: y226 :: y227 :: y228 :: y229 :: y230 :: y231 :: y232 :: y233 :: y234 :: y235 :: y236 :: y237 :: y238 :: y239 :: y240 :: y241 :: y242 :: y243 :: y244 :: y245 :: y246 :: y247 :: y248 :: y249 :: y250 :: y251 :: y252 :: y253 :: y254 :: y255 :: y256 :: y257 :: y258 :: y259 :: y260 :: y261 :: y262 :: y263 :: y264 :: y265 :: y266 :: y267 :: y268 :: y269 :: y270 :: y271 :: y272 :: y273 :: y274 :: y275 :: y276 :: y277 :: y278 :: y279 :: y280 :: y281 :: y282 :: y283 :: y284 :: y285 :: y286 :: y287 :: y288 :: y289 :: y290 :: y291 :: y292 :: y293 :: y294 :: y295 :: y296 :: y297 :: y298 :: y299 :: y300 :: y301 :: y302 :: y303 :: y304 :: y305 :: y306 :: y307 :: y308 :: y309 :: y310 :: y311 :: y312 :: []).toArray, []⟩ W := by
  conv => arg 2; whnf
  rcases HSUBL.out with hs1 | hs2
  · obtain rfl : mo = ma := HMM.out hs1
    have HSS := Lib.hid (samestr_any _ _ mo mo W (OL.sl bE_len HO9.out) (OL.sl bE_len HO3.out))
    rw [(Z.eqB_iff mo mo).2 rfl] at HSS
    subst hs1
    by_cases h6 : k = 6
    · obtain ⟨_, hR⟩ := H6.out h6
      subst hR
      subst h6
      clear H6 H8
      go_wp2_with fail
      refine HSS.out.mono ?_
      rintro e V12 ⟨rfl, hb⟩
      replace b0 := (hb.cell (p := ⟨g, 0, none⟩) hg).trans b0
      go_wp2_with fail
      all_goals (first | exact hb | (apply hnext; exact hb))
    by_cases h8 : k = 8
    · obtain ⟨_, hR⟩ := H8.out h8
      have hdp : 0 < l.length := by
        have h := HDK.out
        unfold Z.daysB at h
        simp only [Bool.and_eq_true, decide_eq_true_eq] at h
        omega
      have hz : l[l.length - 1]? = some (l.getLastD 0) := by
        rw [List.getElem?_eq_getElem (by omega)]
        congr 1
        rw [List.getLastD_eq_getLast?, List.getLast?_eq_getElem?, List.getElem?_eq_getElem (by omega)]
        rfl
      obtain ⟨bd, od, hA, hbl, qd⟩ := SL.cell1 HDD.out hz rfl
      subst hA
      have hi0 : (0 : Int) ≤ (l.length : Int) - 1 := by omega
      have hi1 : (l.length : Int) - 1 < (l.length : Int) := by omega
      have hi2 : ((l.length : Int) - 1).toNat = l.length - 1 := by omega
      generalize l.getLastD 0 = dl at *
      subst hR
      subst h8
      clear H6 H8 hz
      go_wp2_with fail
      refine HSS.out.mono ?_
      rintro e V12 ⟨rfl, hb⟩
      replace qd := (hb.cell (p := ⟨bd, od + (l.length - 1), none⟩) hbl).trans qd
      replace b0 := (hb.cell (p := ⟨g, 0, none⟩) hg).trans b0
      go_wp2_with fail
      all_goals (first | exact hb | (apply hnext; exact hb))
    clear H6 H8
    go_wp2_with fail
    refine HSS.out.mono ?_
    rintro e V12 ⟨rfl, hb⟩
    replace b0 := (hb.cell (p := ⟨g, 0, none⟩) hg).trans b0
    go_wp2_with fail
    all_goals (first | exact hb | (apply hnext; exact hb))
  · have h6 : ¬ k = 6 := fun h => by have := (H6.out h).1; omega
    have h8 : ¬ k = 8 := fun h => by have := (H8.out h).1; omega
    subst hs2
    clear H6 H8 HMM
    go_wp2_with fail
    all_goals (first | exact Below.refl _ _ | (apply hnext; exact Below.refl _ _))
/-- The first loop of a body. -/
def bLoop : Code → Option Code
  | .loop c => some c
  | .seq a b => match bLoop a with
    | some c => some c
    | none => bLoop b
  | .block _ c => bLoop c
  | .scope c => bLoop c
  | .cond _ a b => match bLoop a with
    | some c => some c
    | none => bLoop b
  | _ => none
set_option maxRecDepth 1000000 in
set_option maxHeartbeats 8000000 in
theorem rounds {F : Nat} {c c' : Z.Co (F + 1) (F + 1 + 1)} {who : ByteArray} {day : Int} {l : List Int} {w M8 : World} {pa pb ma : List Z.BS} {ho : Int} {D1 D2 D3 bm : Nat} {A11 A12 A14 Av : Option Addr} {c11 c12 c14 cv : Nat} {ml : List (Z.Co (F + 1) (F + 1 + 1 + 1))} {K : Act → World → Prop} {Q' : Exit → Act → World → Prop} {y0 y1 y2 y3 y5 y8 y9 y10 y11 y12 y13 y14 y15 y16 y17 y19 y21 y23 y25 y28 y29 y30 y31 y32 y33 y34 y35 y36 y37 y38 y39 y40 y41 y42 y43 y44 y45 y46 y47 y48 y49 y50 y51 y52 y53 y54 y55 y56 y57 y58 y59 y60 y61 y62 y63 y64 y65 y66 y67 y68 y69 y70 y71 y72 y73 y74 y75 y76 y77 y78 y79 y80 y81 y82 y83 y84 y85 y86 y87 y88 y89 y90 y91 y92 y93 y94 y95 y96 y97 y98 y99 y100 y101 y102 y103 y104 y105 y106 y107 y108 y109 y110 y111 y112 y113 y114 y115 y116 y117 y118 y119 y120 y121 y122 y123 y124 y125 y126 y127 y128 y129 y130 y131 y132 y133 y134 y135 y136 y137 y138 y139 y140 y141 y142 y143 y144 y145 y146 y147 y148 y149 y150 y151 y152 y153 y154 y155 y156 y157 y158 y159 y160 y161 y162 y163 y164 y165 y166 y167 y168 y169 y170 y171 y172 y173 y174 y175 y176 y177 y178 y179 y180 y181 y182 y183 y184 y185 y186 y187 y188 y189 y190 y191 y192 y193 y194 y195 y196 y197 y198 y199 y200 y201 y202 y203 y204 y205 y206 y207 y208 y209 y210 y211 y212 y213 y214 y215 y216 y217 y218 y219 y220 y221 y222 y223 y224 y225 y226 y227 y228 y229 y230 y231 y232 y233 y234 y235 y236 y237 y238 y239 y240 y241 y242 y243 y244 y245 y246 y247 y248 y249 y250 y251 y252 y253 y254 y255 y256 y257 y258 y259 y260 y261 y262 y263 y264 y265 y266 y267 y268 y269 y270 y271 y272 y273 y274 y275 y276 y277 y278 y279 y280 y281 y282 y283 y284 y285 y286 y287 y288 y289 y290 y291 y292 y293 y294 y295 y296 y297 y298 y299 y300 y301 y302 y303 y304 y305 y306 y307 y308 y309 y310 y311 y312 : Value}
    (hvl : l.length * 8 ≤ 140737488355328) (hwM : Below w.heap.size w M8) (HMS : Hid (CS M8 (F + 1 + 1 + 1) (.slice (some ⟨bm, 0, none⟩) 8 8) ml)) (HM : Hid (∀ y ∈ ml, Z.Made c c' who day l y)) (HLM : Hid (ml.length = 8)) (HE : Hid (0 = Z.coE (F + 1 + 1) c)) (HE' : Hid (0 = Z.coE (F + 1 + 1) c')) (HS : Hid (Z.CSm (F + 1 + 1) c)) (HS' : Hid (Z.CSm (F + 1 + 1) c'))
    (HLL : Hid (∀ W, Below w.heap.size w W → Lay W)) (HVV : Hid (∀ W, Below w.heap.size w W → HasV W)) (HDC : Hid (Z.dayC day = true)) (HDYE : Hid (true = Z.daysB l)) (HDV : Hid (SD w (.slice Av l.length cv) l)) (HPAE : Hid (pa = Z.uniqW (Z.allW Z.pw (F + 1 + 1) c))) (HPBE : Hid (pb = Z.uniqW (Z.allW Z.pw (F + 1 + 1) c'))) (HMAE : Hid (ma = Z.uniqW (Z.allW Z.mw (F + 1 + 1) c))) (HHOE : Hid (ho = Z.horZ (F + 1 + 1) c))
    (HO1 : Hid (OB M8 D1 (.slice A11 pa.length c11) pa)) (HO2 : Hid (OB M8 D2 (.slice A12 pb.length c12) pb)) (HO3 : Hid (OB M8 D3 (.slice A14 ma.length c14) ma))
    (hexit : ∀ (u16 u27 u28 u29 u30 u31 u32 u33 u34 u35 u36 u186 u187 u188 u189 u190 u191 u192 u193 u194 u195 u196 u197 u198 u199 u200 u201 u202 u203 u204 u205 u206 u207 u208 u209 u210 u211 u212 u213 u214 u215 u216 u217 u218 u219 u220 u221 u222 u223 u224 u225 u226 u227 u228 u229 u230 u231 u232 u233 u234 u235 u236 u237 u238 u239 u240 u241 u242 u243 u244 u245 u246 u247 u248 u249 u250 u251 u252 u253 u254 u255 u256 u257 u258 u259 u260 u261 u262 u263 u264 u265 u266 u267 u268 u269 u270 u271 u272 u273 u274 u275 u276 u277 u278 u279 u280 u281 u282 u283 u284 u285 u286 u287 u288 u289 u290 u291 u292 u293 u294 u295 u296 u297 u298 u299 u300 u301 u302 u303 u304 u305 u306 u307 u308 u309 u310 u311 : Value) (W' : World), Below M8.heap.size M8 W' → K ⟨(y0 :: y1 :: y2 :: y3 :: .string who :: y5 :: .int .i64 day :: .slice Av l.length cv :: y8 :: y9 :: y10 :: y11 :: y12 :: y13 :: y14 :: y15 :: u16 :: y17 :: .slice A11 pa.length c11 :: y19 :: .slice A12 pb.length c12 :: y21 :: .int .i64 ho :: y23 :: .slice A14 ma.length c14 :: y25 :: .slice (some ⟨bm, 0, none⟩) 8 8 :: u27 :: u28 :: u29 :: u30 :: u31 :: u32 :: u33 :: u34 :: u35 :: u36 :: y37 :: y38 :: y39 :: y40 :: y41 :: y42 :: y43 :: y44 :: y45 :: y46 :: y47 :: y48 :: y49 :: y50 :: y51 :: y52 :: y53 :: y54 :: y55 :: y56 :: y57 :: y58 :: y59 :: y60 :: y61 :: y62 :: y63 :: y64 :: y65 :: y66 :: y67 :: y68 :: y69 :: y70 :: y71 :: y72 :: y73 :: y74 :: y75 :: y76 :: y77 :: y78 :: y79 :: y80 :: y81 :: y82 :: y83 :: y84 :: y85 :: y86 :: y87 :: y88 :: y89 :: y90 :: y91 :: y92 :: y93 :: y94 :: y95 :: y96 :: y97 :: y98 :: y99 :: y100 :: y101 :: y102 :: y103 :: y104 :: y105 :: y106 :: y107 :: y108 :: y109 :: y110 :: y111 :: y112 :: y113 :: y114 :: y115 :: y116 :: y117 :: y118 :: y119 :: y120 :: y121 :: y122 :: y123 :: y124 :: y125 :: y126 :: y127 :: y128 :: y129 :: y130 :: y131 :: y132 :: y133 :: y134 :: y135 :: y136 :: y137 :: y138 :: y139 :: y140 :: y141 :: y142 :: y143 :: y144 :: y145 :: y146 :: y147 :: y148 :: y149 :: y150 :: y151 :: y152 :: y153 :: y154 :: y155 :: y156 :: y157 :: y158 :: y159 :: y160 :: y161 :: y162 :: y163 :: y164 :: y165 :: y166 :: y167 :: y168 :: y169 :: y170 :: y171 :: y172 :: y173 :: y174 :: y175 :: y176 :: y177 :: y178 :: y179 :: y180 :: y181 :: y182 :: y183 :: y184 :: y185 :: u186 :: u187 :: u188 :: u189 :: u190 :: u191 :: u192 :: u193 :: u194 :: u195 :: u196 :: u197 :: u198 :: u199 :: u200 :: u201 :: u202 :: u203 :: u204 :: u205 :: u206 :: u207 :: u208 :: u209 :: u210 :: u211 :: u212 :: u213 :: u214 :: u215 :: u216 :: u217 :: u218 :: u219 :: u220 :: u221 :: u222 :: u223 :: u224 :: u225 :: u226 :: u227 :: u228 :: u229 :: u230 :: u231 :: u232 :: u233 :: u234 :: u235 :: u236 :: u237 :: u238 :: u239 :: u240 :: u241 :: u242 :: u243 :: u244 :: u245 :: u246 :: u247 :: u248 :: u249 :: u250 :: u251 :: u252 :: u253 :: u254 :: u255 :: u256 :: u257 :: u258 :: u259 :: u260 :: u261 :: u262 :: u263 :: u264 :: u265 :: u266 :: u267 :: u268 :: u269 :: u270 :: u271 :: u272 :: u273 :: u274 :: u275 :: u276 :: u277 :: u278 :: u279 :: u280 :: u281 :: u282 :: u283 :: u284 :: u285 :: u286 :: u287 :: u288 :: u289 :: u290 :: u291 :: u292 :: u293 :: u294 :: u295 :: u296 :: u297 :: u298 :: u299 :: u300 :: u301 :: u302 :: u303 :: u304 :: u305 :: u306 :: u307 :: u308 :: u309 :: u310 :: u311 :: y312 :: []).toArray, []⟩ W') :
    Code.wp Tryd.prog (.loop ((Tryd.f3.body.bind bLoop).getD .skip)) (Exit.inBlock 0 (Exit.then K Q')) ⟨(y0 :: y1 :: y2 :: y3 :: .string who :: y5 :: .int .i64 day :: .slice Av l.length cv :: y8 :: y9 :: y10 :: y11 :: y12 :: y13 :: y14 :: y15 :: y16 :: y17 :: .slice A11 pa.length c11 :: y19 :: .slice A12 pb.length c12 :: y21 :: .int .i64 ho :: y23 :: .slice A14 ma.length c14 :: y25 :: .slice (some ⟨bm, 0, none⟩) 8 8 :: .int .i64 0 :: y28 :: y29 :: y30 :: y31 :: y32 :: y33 :: y34 :: y35 :: y36 :: y37 :: y38 :: y39 :: y40 :: y41 :: y42 :: y43 :: y44 :: y45 :: y46 :: y47 :: y48 :: y49 :: y50 :: y51 :: y52 :: y53 :: y54 :: y55 :: y56 :: y57 :: y58 :: y59 :: y60 :: y61 :: y62 :: y63 :: y64 :: y65 :: y66 :: y67 :: y68 :: y69 :: y70 :: y71 :: y72 :: y73 :: y74 :: y75 :: y76 :: y77 :: y78 :: y79 :: y80 :: y81 :: y82 :: y83 :: y84 :: y85 :: y86 :: y87 :: y88 :: y89 :: y90 :: y91 :: y92 :: y93 :: y94 :: y95 :: y96 :: y97 :: y98 :: y99 :: y100 :: y101 :: y102 :: y103 :: y104 :: y105 :: y106 :: y107 :: y108 :: y109 :: y110 :: y111 :: y112 :: y113 :: y114 :: y115 :: y116 :: y117 :: y118 :: y119 :: y120 :: y121 :: y122 :: y123 :: y124 :: y125 :: y126 :: y127 :: y128 :: y129 :: y130 :: y131 :: y132 :: y133 :: y134 :: y135 :: y136 :: y137 :: y138 :: y139 :: y140 :: y141 :: y142 :: y143 :: y144 :: y145 :: y146 :: y147 :: y148 :: y149 :: y150 :: y151 :: y152 :: y153 :: y154 :: y155 :: y156 :: y157 :: y158 :: y159 :: y160 :: y161 :: y162 :: y163 :: y164 :: y165 :: y166 :: y167 :: y168 :: y169 :: y170 :: y171 :: y172 :: y173 :: y174 :: y175 :: y176 :: y177 :: y178 :: y179 :: y180 :: y181 :: y182 :: y183 :: y184 :: y185 :: y186 :: y187 :: y188 :: y189 :: y190 :: y191 :: y192 :: y193 :: y194 :: y195 :: y196 :: y197 :: y198 :: y199 :: y200 :: y201 :: y202 :: y203 :: y204 :: y205 :: y206 :: y207 :: y208 :: y209 :: y210 :: y211 :: y212 :: y213 :: y214 :: y215 :: y216 :: y217 :: y218 :: y219 :: y220 :: y221 :: y222 :: y223 :: y224 :: y225 :: y226 :: y227 :: y228 :: y229 :: y230 :: y231 :: y232 :: y233 :: y234 :: y235 :: y236 :: y237 :: y238 :: y239 :: y240 :: y241 :: y242 :: y243 :: y244 :: y245 :: y246 :: y247 :: y248 :: y249 :: y250 :: y251 :: y252 :: y253 :: y254 :: y255 :: y256 :: y257 :: y258 :: y259 :: y260 :: y261 :: y262 :: y263 :: y264 :: y265 :: y266 :: y267 :: y268 :: y269 :: y270 :: y271 :: y272 :: y273 :: y274 :: y275 :: y276 :: y277 :: y278 :: y279 :: y280 :: y281 :: y282 :: y283 :: y284 :: y285 :: y286 :: y287 :: y288 :: y289 :: y290 :: y291 :: y292 :: y293 :: y294 :: y295 :: y296 :: y297 :: y298 :: y299 :: y300 :: y301 :: y302 :: y303 :: y304 :: y305 :: y306 :: y307 :: y308 :: y309 :: y310 :: y311 :: y312 :: []).toArray, []⟩ M8 := by
  conv => arg 2; arg 1; whnf
  go_loopw [27] (fun iv wr => ∃ k : Nat, k ≤ 8 ∧ iv = .int .i64 k ∧ Below M8.heap.size M8 wr) (fun iv _ => 8 - (intOf iv).toNat)
  case atStart => exact ⟨0, by omega, rfl, Below.refl _ _⟩
  case round =>
    obtain ⟨k, hk, rfl, hbr⟩ := hrel
    have hwr := hwM.trans (hbr.mono hwM.size)
    by_cases hlt : k < 8
    rotate_left
    · obtain rfl : k = 8 := by omega
      go_wp2_with fail
      first | exact hbr | (apply hexit; exact hbr)
    have hlt' : k < ml.length := by rw [HLM.out]; exact hlt
    obtain ⟨y, hz⟩ : ∃ y, ml[k]? = some y := ⟨_, List.getElem?_eq_getElem hlt'⟩
    obtain ⟨b, o, ax, yu, yd, ys, hA, hbl, q0, q1, q2, q3, q4, q5, q6, q7, q8, q9, q10, q11, hv⟩ := CS.cells (CS.below hbr HMS.out) hz
    obtain ⟨rfl, rfl⟩ : b = bm ∧ o = 0 := by
      simp only [Option.some.injEq, Addr.mk.injEq, and_true] at hA
      exact ⟨hA.1.symm, hA.2.symm⟩
    simp only [Nat.zero_add] at q0 q1 q2 q3 q4 q5 q6 q7 q8 q9 q10 q11
    have hy := HM.out _ (List.mem_of_getElem? hz)
    clear hz hA hlt'
    obtain ⟨Yu, yu1, yu2, rfl⟩ := hv.shape.1
    obtain ⟨Yd, yd1, yd2, rfl⟩ := hv.shape.2.1
    obtain ⟨Ys, ys2, hse, _⟩ := Dp.shape hv.2.2.2.2
    simp only at hse
    subst hse
    obtain rfl : ax = y.top := hv.1
    have hys := hy.csm HE.out.symm HE'.out.symm HS.out HS'.out
    have HYZ := Lib.hid (fun W (h : Below wr.heap.size wr W) => csize_any (F + 1 + 1) y ⟨y.top, .slice Yu yu1 yu2, .slice Yd yd1 yd2, .slice Ys y.sub.length ys2⟩ W (CV.below h _ hv) hys)
    have HYD := Lib.hid (fun W (h : Below wr.heap.size wr W) => ccdepth_any (F + 1 + 1 + 1) y y.top _ _ _ W (CV.below h _ hv) hys)
    have HYP := Lib.hid (fun W (h : Below wr.heap.size wr W) => cparties_any (F + 1 + 1) y ⟨y.top, .slice Yu yu1 yu2, .slice Yd yd1 yd2, .slice Ys y.sub.length ys2⟩ W (CV.below h _ hv) (HLL.out W (hwr.trans (h.mono hwr.size))) (HVV.out W (hwr.trans (h.mono hwr.size))) hys)
    have HYM := Lib.hid (fun W (h : Below wr.heap.size wr W) => cmoneys_any (F + 1 + 1) y ⟨y.top, .slice Yu yu1 yu2, .slice Yd yd1 yd2, .slice Ys y.sub.length ys2⟩ W (CV.below h _ hv) (HLL.out W (hwr.trans (h.mono hwr.size))) (HVV.out W (hwr.trans (h.mono hwr.size))) hys)
    have HYH := Lib.hid (fun W (h : Below wr.heap.size wr W) => chor_any (F + 1 + 1) y ⟨y.top, .slice Yu yu1 yu2, .slice Yd yd1 yd2, .slice Ys y.sub.length ys2⟩ W (CV.below h _ hv) (HLL.out W (hwr.trans (h.mono hwr.size))) (HVV.out W (hwr.trans (h.mono hwr.size))) hys)
    have HYC := Lib.hid (fun W (h : Below wr.heap.size wr W) => ccheck_any (F + 1 + 1) y ⟨y.top, .slice Yu yu1 yu2, .slice Yd yd1 yd2, .slice Ys y.sub.length ys2⟩ W (CV.below h _ hv) (HLL.out W (hwr.trans (h.mono hwr.size))) (HVV.out W (hwr.trans (h.mono hwr.size))) hys)
    unfold CR.ag at HYZ HYP HYM HYH HYC
    simp only at HYZ HYP HYM HYH HYC
    have HG1 : Hid (500 < Z.coSize (F + 1 + 1 + 1) y ∨ 60 < Z.coDepth (F + 1 + 1 + 1) y → Z.coE (F + 1 + 1 + 1) y = 4) := Lib.hid (fun h => Z.coE_many h)
    have HG2 : Hid (¬ (500 < Z.coSize (F + 1 + 1 + 1) y ∨ 60 < Z.coDepth (F + 1 + 1 + 1) y) → Z.coE (F + 1 + 1 + 1) y = 0) := Lib.hid (fun h => hy.E_ok HE.out.symm HE'.out.symm h)
    have HW0 : Hid (∀ at_ : Z.CN (F + 1) → List Z.BS, Z.wordsL at_ (F + 1 + 1 + 1) y = if Z.coE (F + 1 + 1 + 1) y = 0 then Z.uniqW (Z.allW at_ (F + 1 + 1 + 1) y) else []) := Lib.hid (fun _ => rfl)
    have HYY := Lib.hid hy
    have HYS := Lib.hid hys
    have HSL : Hid (Z.coSize (F + 1 + 1 + 1) y ≤ 1000000) := Lib.hid hys.size
    have HSD : Hid (Z.coDepth (F + 1 + 1 + 1) y ≤ 1000000) := Lib.hid hys.depth
    have hsub : y.sub.length = 1 ∨ y.sub.length = 2 := by rcases hy.subs with e | e <;> rw [e] <;> simp
    have HSUBL := Lib.hid hsub
    have hfr := hy.from_
    have HFRO := Lib.hid hfr
    clear hy hys hv hsub hfr
    have BB := Blk.new wr 29 #[.int .u8 y.top.k, .string y.top.fr, .string y.top.tu, .string y.top.nm, .int .u8 y.top.ex.top.k, .string y.top.ex.top.rat, .string y.top.ex.top.name, .int .i64 y.top.ex.top.date, .slice Yu yu1 yu2, .int .i64 y.top.date, .slice Yd yd1 yd2, .slice Ys y.sub.length ys2]
    have g0 := (Below.refl _ wr).alloc (Nat.le_refl wr.heap.size) (.cells #[.int .u8 y.top.k, .string y.top.fr, .string y.top.tu, .string y.top.nm, .int .u8 y.top.ex.top.k, .string y.top.ex.top.rat, .string y.top.ex.top.name, .int .i64 y.top.ex.top.date, .slice Yu yu1 yu2, .int .i64 y.top.date, .slice Yd yd1 yd2, .slice Ys y.sub.length ys2] 29)
    obtain ⟨SZ, hSZ⟩ : ∃ n, n = Z.coSize (F + 1 + 1 + 1) y := ⟨_, rfl⟩
    obtain ⟨DP, hDP⟩ : ∃ n, n = Z.coDepth (F + 1 + 1 + 1) y := ⟨_, rfl⟩
    rw [← hSZ] at HYZ HG1 HG2 HSL
    rw [← hDP] at HYD HG1 HG2 HSD
    clear hSZ hDP
    have hi0 : (0 : Int) ≤ (k : Int) := by omega
    have hi1 : (k : Int) < 8 := by omega
    obtain ⟨s, hs⟩ : ∃ n, n = y.sub.length := ⟨_, rfl⟩
    rw [← hs] at HYZ HYD HYP HYM HYH HYC HSUBL BB g0 q11
    have HSE := Lib.hid hs
    obtain ⟨ax, hax⟩ : ∃ q, q = y.top := ⟨_, rfl⟩
    rw [← hax] at HYZ HYD HYP HYM HYH HYC HFRO BB g0 q0 q1 q2 q3 q4 q5 q6 q7 q9
    have HAX := Lib.hid hax
    clear hs hax
    have hsl := HSL.out
    have hsd := HSD.out
    by_cases hg1 : 500 < SZ
    · have hE4 := HG1.out (.inl hg1)
      have HWE : Hid (Z.wordsL Z.pw (F + 1 + 1 + 1) y = []) := Lib.hid (by rw [HW0.out, hE4]; rfl)
      rw [hE4] at HYP HYC
      have hg1' : (SZ : Int) > 500 := by omega
      clear hg1 hE4
      have b0 := BB.cell 0
      have b1 := BB.cell 1
      have b2 := BB.cell 2
      have b3 := BB.cell 3
      have b4 := BB.cell 4
      have b5 := BB.cell 5
      have b6 := BB.cell 6
      have b7 := BB.cell 7
      have b8 := BB.cell 8
      have b9 := BB.cell 9
      have b10 := BB.cell 10
      have b11 := BB.cell 11
      go_wp2_with fail
      refine (HYZ.out _ g0).mono ?_
      rintro e V3 ⟨rfl, hb⟩
      have g3 := g0.trans (hb.mono g0.size)
      replace BB := BB.below hb
      clear b0 b1 b2 b3 b4 b5 b6 b7 b8 b9 b10 b11
      have b0 := BB.cell 0
      have b1 := BB.cell 1
      have b2 := BB.cell 2
      have b3 := BB.cell 3
      have b4 := BB.cell 4
      have b5 := BB.cell 5
      have b6 := BB.cell 6
      have b7 := BB.cell 7
      have b8 := BB.cell 8
      have b9 := BB.cell 9
      have b10 := BB.cell 10
      have b11 := BB.cell 11
      clear hb q0 q1 q2 q3 q4 q5 q6 q7 q8 q9 q10 q11
      go_wp2_with fail
      refine (HYP.out V3 g3).mono ?_
      rintro e V5 ⟨v5, rfl, hO5, hb⟩
      rw [HWE.out] at hO5
      obtain ⟨A5, c5, rfl⟩ := OL.shape hO5
      clear hO5
      have g5 := g3.trans (hb.mono g3.size)
      replace BB := BB.below hb
      clear b0 b1 b2 b3 b4 b5 b6 b7 b8 b9 b10 b11
      have b0 := BB.cell 0
      have b1 := BB.cell 1
      have b2 := BB.cell 2
      have b3 := BB.cell 3
      have b4 := BB.cell 4
      have b5 := BB.cell 5
      have b6 := BB.cell 6
      have b7 := BB.cell 7
      have b8 := BB.cell 8
      have b9 := BB.cell 9
      have b10 := BB.cell 10
      have b11 := BB.cell 11
      clear hb
      have hz0 : (([] : List Z.BS).length : Int) = 0 := rfl
      go_wp2_with fail
      refine (HYC.out V5 g5).mono ?_
      rintro e V6 ⟨rfl, hb⟩
      have g6 := g5.trans (hb.mono g5.size)
      clear hb b0 b1 b2 b3 b4 b5 b6 b7 b8 b9 b10 b11 BB
      go_wp2_with fail
      go_roundw
      case rel => exact ⟨k + 1, by omega, by go_num, hbr.trans (g6.mono hbr.size)⟩
      case measure => simp [intOf]; omega
    by_cases hg2 : 60 < DP
    · have hE4 := HG1.out (.inr hg2)
      have HWE : Hid (Z.wordsL Z.pw (F + 1 + 1 + 1) y = []) := Lib.hid (by rw [HW0.out, hE4]; rfl)
      rw [hE4] at HYP HYC
      have hg1' : ¬ (SZ : Int) > 500 := by omega
      have hg2' : (DP : Int) > 60 := by omega
      clear hg1 hg2 hE4
      have b0 := BB.cell 0
      have b1 := BB.cell 1
      have b2 := BB.cell 2
      have b3 := BB.cell 3
      have b4 := BB.cell 4
      have b5 := BB.cell 5
      have b6 := BB.cell 6
      have b7 := BB.cell 7
      have b8 := BB.cell 8
      have b9 := BB.cell 9
      have b10 := BB.cell 10
      have b11 := BB.cell 11
      go_wp2_with fail
      refine (HYZ.out _ g0).mono ?_
      rintro e V3 ⟨rfl, hb⟩
      have g3 := g0.trans (hb.mono g0.size)
      replace BB := BB.below hb
      clear b0 b1 b2 b3 b4 b5 b6 b7 b8 b9 b10 b11
      have b0 := BB.cell 0
      have b1 := BB.cell 1
      have b2 := BB.cell 2
      have b3 := BB.cell 3
      have b4 := BB.cell 4
      have b5 := BB.cell 5
      have b6 := BB.cell 6
      have b7 := BB.cell 7
      have b8 := BB.cell 8
      have b9 := BB.cell 9
      have b10 := BB.cell 10
      have b11 := BB.cell 11
      clear hb q0 q1 q2 q3 q4 q5 q6 q7 q8 q9 q10 q11
      go_wp2_with fail
      refine (HYD.out V3 g3).mono ?_
      rintro e V4 ⟨rfl, hb⟩
      have g4 := g3.trans (hb.mono g3.size)
      replace BB := BB.below hb
      clear b0 b1 b2 b3 b4 b5 b6 b7 b8 b9 b10 b11
      have b0 := BB.cell 0
      have b1 := BB.cell 1
      have b2 := BB.cell 2
      have b3 := BB.cell 3
      have b4 := BB.cell 4
      have b5 := BB.cell 5
      have b6 := BB.cell 6
      have b7 := BB.cell 7
      have b8 := BB.cell 8
      have b9 := BB.cell 9
      have b10 := BB.cell 10
      have b11 := BB.cell 11
      clear hb
      go_wp2_with fail
      refine (HYP.out V4 g4).mono ?_
      rintro e V5 ⟨v5, rfl, hO5, hb⟩
      rw [HWE.out] at hO5
      obtain ⟨A5, c5, rfl⟩ := OL.shape hO5
      clear hO5
      have g5 := g4.trans (hb.mono g4.size)
      replace BB := BB.below hb
      clear b0 b1 b2 b3 b4 b5 b6 b7 b8 b9 b10 b11
      have b0 := BB.cell 0
      have b1 := BB.cell 1
      have b2 := BB.cell 2
      have b3 := BB.cell 3
      have b4 := BB.cell 4
      have b5 := BB.cell 5
      have b6 := BB.cell 6
      have b7 := BB.cell 7
      have b8 := BB.cell 8
      have b9 := BB.cell 9
      have b10 := BB.cell 10
      have b11 := BB.cell 11
      clear hb
      have hz0 : (([] : List Z.BS).length : Int) = 0 := rfl
      go_wp2_with fail
      refine (HYC.out V5 g5).mono ?_
      rintro e V6 ⟨rfl, hb⟩
      have g6 := g5.trans (hb.mono g5.size)
      clear hb b0 b1 b2 b3 b4 b5 b6 b7 b8 b9 b10 b11 BB
      go_wp2_with fail
      go_roundw
      case rel => exact ⟨k + 1, by omega, by go_num, hbr.trans (g6.mono hbr.size)⟩
      case measure => simp [intOf]; omega
    have hE0 := HG2.out (by omega)
    have hg1' : ¬ (SZ : Int) > 500 := by omega
    have hg2' : ¬ (DP : Int) > 60 := by omega
    have hpe : Z.wordsL Z.pw (F + 1 + 1 + 1) y = Z.uniqW (Z.allW Z.pw (F + 1 + 1 + 1) y) := by rw [HW0.out, if_pos hE0]
    have hme : Z.wordsL Z.mw (F + 1 + 1 + 1) y = Z.uniqW (Z.allW Z.mw (F + 1 + 1 + 1) y) := by rw [HW0.out, if_pos hE0]
    rw [hE0, hpe] at HYP
    rw [hE0, hme] at HYM
    rw [hE0] at HYH HYC
    have hW := HYY.out.words
    rw [← HPAE.out, ← HPBE.out, ← HSE.out, ← HAX.out] at hW
    have hmm : s = 1 → Z.uniqW (Z.allW Z.mw (F + 1 + 1 + 1) y) = ma := fun h => by rw [HMAE.out, HYY.out.moneys (by rw [← HSE.out]; exact h)]
    have hhg : ho ≤ Z.horZ (F + 1 + 1 + 1) y := by rw [HHOE.out]; exact HYY.out.hor_ge HE.out.symm hE0
    have h6 : ax.k = 6 → s = 1 ∧ Z.horZ (F + 1 + 1 + 1) y = max ho day := fun h => ⟨by rw [HSE.out, (HYY.out.at_ (by rw [← HAX.out]; exact h)).1]; rfl, by rw [HHOE.out]; exact HYY.out.hor_at HE.out.symm hE0 HDC.out (by rw [← HAX.out]; exact h)⟩
    have h8 : ax.k = 8 → s = 1 ∧ Z.horZ (F + 1 + 1 + 1) y = max ho (l.getLastD 0) := fun h => ⟨by rw [HSE.out, (HYY.out.call (by rw [← HAX.out]; exact h)).1]; rfl, by rw [HHOE.out]; exact HYY.out.hor_call HE.out.symm hE0 HDYE.out.symm (by rw [← HAX.out]; exact h)⟩
    obtain ⟨w2, hw2⟩ : ∃ q, q = (if s = 2 then pb.foldl Z.withB pa else pa) := ⟨_, rfl⟩
    rw [← hw2] at hW
    have hwl : w2.length ≤ 4000 := by
      have h1 := Z.words_len Z.pw_len HYS.out
      rw [hW] at h1
      split at h1
      · have := Z.withB_ge (Z.bytesW ax.fr) w2
        omega
      · omega
    have hpl : pa.length ≤ 4000 := by rw [HPAE.out]; have := Z.words_len Z.pw_len HS.out; omega
    have hpl' : pb.length ≤ 4000 := by rw [HPBE.out]; have := Z.words_len Z.pw_len HS'.out; omega
    have HW2 := Lib.hid hw2
    have HWL := Lib.hid hwl
    have HPL := Lib.hid hpl
    have HPL' := Lib.hid hpl'
    have HMM := Lib.hid hmm
    have HHG := Lib.hid hhg
    have H6 := Lib.hid h6
    have H8 := Lib.hid h8
    obtain ⟨w3, hw3⟩ : ∃ q, q = Z.uniqW (Z.allW Z.pw (F + 1 + 1 + 1) y) := ⟨_, rfl⟩
    rw [← hw3] at HYP hW
    have HW3 := Lib.hid hW
    obtain ⟨mo, hmo⟩ : ∃ q, q = Z.uniqW (Z.allW Z.mw (F + 1 + 1 + 1) y) := ⟨_, rfl⟩
    rw [← hmo] at HYM HMM
    obtain ⟨R, hR⟩ : ∃ q, q = Z.horZ (F + 1 + 1 + 1) y := ⟨_, rfl⟩
    rw [← hR] at HYH HHG H6 H8
    clear hw2 hwl hpl hpl' hmm hhg h6 h8 hw3 hW hmo hR hE0 hpe hme hg1 hg2 HG1 HG2 HW0 HYY HYS HSL HSD
    have b0 := BB.cell 0
    have b1 := BB.cell 1
    have b2 := BB.cell 2
    have b3 := BB.cell 3
    have b4 := BB.cell 4
    have b5 := BB.cell 5
    have b6 := BB.cell 6
    have b7 := BB.cell 7
    have b8 := BB.cell 8
    have b9 := BB.cell 9
    have b10 := BB.cell 10
    have b11 := BB.cell 11
    go_wp2_with fail
    refine (HYZ.out _ g0).mono ?_
    rintro e V3 ⟨rfl, hb⟩
    have g3 := g0.trans (hb.mono g0.size)
    replace BB := BB.below hb
    clear b0 b1 b2 b3 b4 b5 b6 b7 b8 b9 b10 b11
    have b0 := BB.cell 0
    have b1 := BB.cell 1
    have b2 := BB.cell 2
    have b3 := BB.cell 3
    have b4 := BB.cell 4
    have b5 := BB.cell 5
    have b6 := BB.cell 6
    have b7 := BB.cell 7
    have b8 := BB.cell 8
    have b9 := BB.cell 9
    have b10 := BB.cell 10
    have b11 := BB.cell 11
    clear hb q0 q1 q2 q3 q4 q5 q6 q7 q8 q9 q10 q11
    go_wp2_with fail
    refine (HYD.out V3 g3).mono ?_
    rintro e V4 ⟨rfl, hb⟩
    have g4 := g3.trans (hb.mono g3.size)
    replace BB := BB.below hb
    clear b0 b1 b2 b3 b4 b5 b6 b7 b8 b9 b10 b11
    have b0 := BB.cell 0
    have b1 := BB.cell 1
    have b2 := BB.cell 2
    have b3 := BB.cell 3
    have b4 := BB.cell 4
    have b5 := BB.cell 5
    have b6 := BB.cell 6
    have b7 := BB.cell 7
    have b8 := BB.cell 8
    have b9 := BB.cell 9
    have b10 := BB.cell 10
    have b11 := BB.cell 11
    clear hb
    go_wp2_with fail
    refine (HYP.out V4 g4).mono ?_
    rintro e V5 ⟨v5, rfl, hO5, hb⟩
    obtain ⟨A5, c5, rfl⟩ := OL.shape hO5
    have HO5 := Lib.hid hO5
    clear hO5
    have g5 := g4.trans (hb.mono g4.size)
    replace BB := BB.below hb
    clear b0 b1 b2 b3 b4 b5 b6 b7 b8 b9 b10 b11
    have b0 := BB.cell 0
    have b1 := BB.cell 1
    have b2 := BB.cell 2
    have b3 := BB.cell 3
    have b4 := BB.cell 4
    have b5 := BB.cell 5
    have b6 := BB.cell 6
    have b7 := BB.cell 7
    have b8 := BB.cell 8
    have b9 := BB.cell 9
    have b10 := BB.cell 10
    have b11 := BB.cell 11
    clear hb g0 g3 g4 HYZ HYD HYP hsl hsd
    replace HO1 := Lib.hid (OL.below HO1.out (hbr.trans (g5.mono hbr.size)))
    replace HO2 := Lib.hid (OL.below HO2.out (hbr.trans (g5.mono hbr.size)))
    replace HO3 := Lib.hid (OL.below HO3.out (hbr.trans (g5.mono hbr.size)))
    have ef := Z.isE ax.fr
    have HNF : Hid (Z.ne0 ax.fr = !decide (ax.fr = Z.e0)) := Lib.hid rfl
    have HFW : Hid (decide (ax.fr = Z.e0) = false → ax.fr = who) := Lib.hid (fun h => HFRO.out.resolve_left (of_decide_eq_false h))
    have HEQ := Lib.hid ((Z.eqB_iff w3 w3).2 rfl)
    have HLP : Hid (pb.length ≤ 4000) := HPL'
    go_upto_if 226 with fail
    go_cut [32] from 186 to 311 (fun wv wx => SB wx wv w2 ∧ Below V5.heap.size V5 wx)
    case first =>
      rcases HSUBL.out with hs1 | hs2
      · have HE1 : Hid (w2 = pa) := Lib.hid (by rw [HW2.out, if_neg (by omega)])
        have hs1' : ((s : Int) == 2) = false := by simp; omega
        have hs1'' : ¬ (s : Int) = 2 := by omega
        clear hs1
        go_wp2_with fail
        go_meet
        exact ⟨by rw [HE1.out]; exact OL.sl bE_len HO1.out, Below.refl _ _⟩
      · have HE1 : Hid (w2 = pb.foldl Z.withB pa) := Lib.hid (by rw [HW2.out, if_pos hs2])
        have HUN := Lib.hid (lunion_any _ _ pa pb V5 (OL.sl bE_len HO1.out) (OL.sl bE_len HO2.out) HPL.out HPL'.out)
        rw [← HE1.out] at HUN
        have hs1' : ((s : Int) == 2) = true := by simp; omega
        have hs1'' : (s : Int) = 2 := by omega
        clear hs2
        go_wp2_with fail
        refine HUN.out.mono ?_
        rintro e V6 ⟨v6, rfl, hO6, hb⟩
        have HO6 := Lib.hid hO6
        clear hO6 HUN
        go_wp2_with fail
        go_meet
        exact ⟨OL.sl bE_len HO6.out, hb⟩
    case rest =>
    obtain ⟨hO6, hb⟩ := hcut
    rename World => V6
    have g6 := g5.trans (hb.mono g5.size)
    replace BB := BB.below hb
    replace HO5 := Lib.hid (OL.below HO5.out hb)
    replace HO3 := Lib.hid (OL.below HO3.out hb)
    have HO6 := Lib.hid hO6
    clear b0 b1 b2 b3 b4 b5 b6 b7 b8 b9 b10 b11 hb hO6 g5
    have b1 := BB.cell 1
    generalize decide (ax.fr = Z.e0) = bf at *
    go_upto_if 232 with fail
    go_cut [32] from 186 to 311 (fun wv wx => SB wx wv w3 ∧ Below V6.heap.size V6 wx)
    case first =>
      rcases bf with _ | _
      rotate_left
      · have HE1 : Hid (w3 = w2) := Lib.hid (by rw [HW3.out, if_neg (by rw [HNF.out]; decide)])
        go_wp2_with fail
        go_meet
        exact ⟨by rw [HE1.out]; exact HO6.out, Below.refl _ _⟩
      · have hfw := HFW.out rfl
        have HE1 : Hid (w3 = [Z.bytesW who].foldl Z.withB w2) := Lib.hid (by rw [HW3.out, if_pos (by rw [HNF.out]; decide), hfw]; rfl)
        have HOL := OL.lit (e := 9) (enc := bE) bE_len V6 [Z.bytesW who] 1 #[.string who] rfl (by simp [bE_bytes]) (by simp)
        have hq := (Below.refl V6.heap.size V6).alloc (Nat.le_refl _) (.cells #[.string who] 9)
        have HUN := Lib.hid (lunion_any _ _ w2 [Z.bytesW who] (V6.alloc (.cells #[.string who] 9)) (SL.below HO6.out hq) (OL.sl bE_len HOL) HWL.out (by simp))
        rw [← HE1.out] at HUN
        have HQ := Lib.hid hq
        clear HOL hfw hq
        go_wp2_with fail
        refine HUN.out.mono ?_
        rintro e V7 ⟨v7, rfl, hO7, hb⟩
        have HO7 := Lib.hid hO7
        clear hO7 HUN
        go_wp2_with fail
        go_meet
        exact ⟨OL.sl bE_len HO7.out, HQ.out.trans (hb.mono HQ.out.size)⟩
    case rest =>
    obtain ⟨hO7, hb⟩ := hcut
    rename World => V7
    have g7 := g6.trans (hb.mono g6.size)
    replace BB := BB.below hb
    replace HO5 := Lib.hid (OL.below HO5.out hb)
    replace HO3 := Lib.hid (OL.below HO3.out hb)
    have HO7 := Lib.hid hO7
    clear b1 hb hO7 g6 ef HO6
    have b0 := BB.cell 0
    have b1 := BB.cell 1
    have b2 := BB.cell 2
    have b3 := BB.cell 3
    have b4 := BB.cell 4
    have b5 := BB.cell 5
    have b6 := BB.cell 6
    have b7 := BB.cell 7
    have b8 := BB.cell 8
    have b9 := BB.cell 9
    have b10 := BB.cell 10
    have b11 := BB.cell 11
    go_wp2_with fail
    refine (HYH.out V7 g7).mono ?_
    rintro e V8 ⟨rfl, hb⟩
    replace HO5 := Lib.hid (OL.below HO5.out hb)
    replace HO3 := Lib.hid (OL.below HO3.out hb)
    replace HO7 := Lib.hid (SL.below HO7.out hb)
    have g8 := g7.trans (hb.mono g7.size)
    replace BB := BB.below hb
    clear b0 b1 b2 b3 b4 b5 b6 b7 b8 b9 b10 b11
    have b0 := BB.cell 0
    have b1 := BB.cell 1
    have b2 := BB.cell 2
    have b3 := BB.cell 3
    have b4 := BB.cell 4
    have b5 := BB.cell 5
    have b6 := BB.cell 6
    have b7 := BB.cell 7
    have b8 := BB.cell 8
    have b9 := BB.cell 9
    have b10 := BB.cell 10
    have b11 := BB.cell 11
    clear hb g7
    go_wp2_with fail
    refine (HYM.out V8 g8).mono ?_
    rintro e V9 ⟨v9, rfl, hO9, hb⟩
    obtain ⟨A9, c9, rfl⟩ := OL.shape hO9
    have HO9 := Lib.hid hO9
    replace HO5 := Lib.hid (OL.below HO5.out hb)
    replace HO3 := Lib.hid (OL.below HO3.out hb)
    replace HO7 := Lib.hid (SL.below HO7.out hb)
    have g9 := g8.trans (hb.mono g8.size)
    replace BB := BB.below hb
    clear b0 b1 b2 b3 b4 b5 b6 b7 b8 b9 b10 b11
    have b0 := BB.cell 0
    have b1 := BB.cell 1
    have b2 := BB.cell 2
    have b3 := BB.cell 3
    have b4 := BB.cell 4
    have b5 := BB.cell 5
    have b6 := BB.cell 6
    have b7 := BB.cell 7
    have b8 := BB.cell 8
    have b9 := BB.cell 9
    have b10 := BB.cell 10
    have b11 := BB.cell 11
    clear hb g8 hO9
    go_wp2_with fail
    refine (HYC.out V9 g9).mono ?_
    rintro e V10 ⟨rfl, hb⟩
    replace HO9 := Lib.hid (OL.below HO9.out hb)
    replace HO5 := Lib.hid (OL.below HO5.out hb)
    replace HO3 := Lib.hid (OL.below HO3.out hb)
    replace HO7 := Lib.hid (SL.below HO7.out hb)
    have g10 := g9.trans (hb.mono g9.size)
    replace BB := BB.below hb
    clear b0 b1 b2 b3 b4 b5 b6 b7 b8 b9 b10 b11
    have b0 := BB.cell 0
    have b1 := BB.cell 1
    have b2 := BB.cell 2
    have b3 := BB.cell 3
    have b4 := BB.cell 4
    have b5 := BB.cell 5
    have b6 := BB.cell 6
    have b7 := BB.cell 7
    have b8 := BB.cell 8
    have b9 := BB.cell 9
    have b10 := BB.cell 10
    have b11 := BB.cell 11
    clear hb g9
    have HSS := Lib.hid (samestr_any _ _ w3 w3 V10 (OL.sl bE_len HO5.out) HO7.out)
    rw [HEQ.out] at HSS
    have hrh : ¬ R < ho := by have := HHG.out; omega
    go_wp2_with fail
    refine HSS.out.mono ?_
    rintro e V11 ⟨rfl, hb⟩
    replace HO9 := Lib.hid (OL.below HO9.out hb)
    replace HO3 := Lib.hid (OL.below HO3.out hb)
    have g11 := g10.trans (hb.mono g10.size)
    replace BB := BB.below hb
    clear b0 b1 b2 b3 b4 b5 b6 b7 b8 b9 b10 b11
    have b0 := BB.cell 0
    have b1 := BB.cell 1
    have b2 := BB.cell 2
    have b3 := BB.cell 3
    have b4 := BB.cell 4
    have b5 := BB.cell 5
    have b6 := BB.cell 6
    have b7 := BB.cell 7
    have b8 := BB.cell 8
    have b9 := BB.cell 9
    have b10 := BB.cell 10
    have b11 := BB.cell 11
    clear hb g10 HSS HO5 HO7
    have HDD := Lib.hid (SL.below HDV.out (hwr.trans (g11.mono hwr.size)))
    have HDK := Lib.hid (show Z.daysB l = true from HDYE.out.symm)
    have hg := BB.lt
    go_upto_region 31 with fail
    refine b_reg31 hvl b0 b11 hg HSUBL HMM H6 H8 HDK HDD HO9 HO3 ?_
    intro v273 v274 v275 v276 v277 v278 v279 v280 v281 v282 v283 v284 v285 v286 v287 v288 v289 v290 v291 v292 v293 v294 v295 v296 v297 v298 v299 v300 v301 v302 v303 v304 v305 v306 v307 v308 v309 v310 W' hb'
    clear b0 b1 b2 b3 b4 b5 b6 b7 b8 b9 b10 b11 H6 H8 HMM HDK HDD
    go_wp2_with fail
    go_roundw
    case rel => exact ⟨k + 1, by omega, by go_num, hbr.trans ((g11.trans (hb'.mono g11.size)).mono hbr.size)⟩
    case measure => simp [intOf]; omega
end Go.Proofs.YtifafmomkpkgdaaDoor
