/- Words for bytes: a slice of bytes as a string. -/
import Derived.Test.YthafdckomhdlbaaProg
import Derived.Test.YthafdckomhdlbaaMem
import Derived.WalkLawsBesides
import Derived.Laws.BytesArg
namespace Go.Proofs.Ythafdckomhdlbaa
open Go.RowKit

theorem elem8 : ElemInt Try.prog .u8 5 1 := by unfold ElemInt; kernel_rfl

/-- The bytes of a slice as a string. -/
def strOf (bs : List Nat) : ByteArray := ⟨(bs.map UInt8.ofNat).toArray⟩
theorem conv_string {P : Program} (w : World) (src dst e : TypeId) (hs : P.underlying src = some (.slice e)) (he : P.underlying e = some (.int .u8)) (hd : P.underlying dst = some .string) (v : Value) (bs : List Nat) (h : SN .u8 w v bs) :
    (convert src dst v).run P w = .ok (.string (strOf bs)) w := by
  obtain ⟨A, c, rfl, _, _, hcell⟩ := h
  by_cases h0 : 0 < bs.length
  · obtain ⟨g, o, rfl, _, hcl⟩ := hcell h0
    have hxs : strOfNums (bs.map fun n : Nat => (n : Int)) = strOf bs := by
      unfold strOfNums strOf
      rw [List.map_map]
      rfl
    rw [← hxs]
    refine run_convert_bytes_arg w src e hs he g o bs.length c _ (by simp) (fun i hi => ?_) dst hd
    rw [hcl i (bs[i]) (List.getElem?_eq_getElem hi)]
    simp [hi]
  · have hb : bs = [] := List.eq_nil_of_length_eq_zero (by omega)
    subst hb
    rcases A with _ | a
    · exact run_convert_bytes_nil w src e hs he _ c dst hd
    · show (convert src dst (.slice (some a) 0 c)).run P w = _
      rw [run_convert_bytes_string w src dst e _ 0 c hs he hd, run_bytesToString w a 0 c [] (by have h := run_loadCells_list (P := P) w a [] (fun j v hj => by simp at hj); simpa using h)]
      rfl

end Go.Proofs.Ythafdckomhdlbaa
