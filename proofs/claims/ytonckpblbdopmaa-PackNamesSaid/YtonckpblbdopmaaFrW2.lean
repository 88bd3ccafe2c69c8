/-
  Walks: a sum as bytes (seal), numbers as bytes (varint), and the document's.
-/
import Derived.Test.YtonckpblbdopmaaFrW1
import Derived.Test.YtonckpblbdopmaaVar
import Derived.Laws.BytesString
import Derived.Laws.IdiomStrings
import Derived.Lib.SlBytesConst
namespace Go.Proofs.Ytonckpblbdopmaa
set_option linter.unusedVariables false
open Go Go.RowKit

/-- A text came back, whose bytes are these. -/
def StrOf (w : World) (l : List Nat) (e : Ending) (w' : World) : Prop := ∃ s : ByteArray, e = .returned (.string s) ∧ byt s = l ∧ Below w.heap.size w w'
theorem byt_inj {s t : ByteArray} (h : byt s = byt t) : s = t := by
  cases s with | mk a => cases t with | mk b =>
  congr 1
  have hi : Function.Injective UInt8.toNat := fun x y h => UInt8.toNat_inj.1 h
  have := (List.map_inj_right (fun x y h => hi h)).1 h
  exact Array.toList_inj.1 this
theorem byt_mk (l : List UInt8) : byt ⟨l.toArray⟩ = l.map UInt8.toNat := by simp [byt]

/-- The text of some bytes. -/
def bstr (l : List Nat) : ByteArray := ⟨(l.map UInt8.ofNat).toArray⟩
theorem byt_bstr {l : List Nat} (h : ∀ c ∈ l, c < 256) : byt (bstr l) = l := by
  unfold bstr
  rw [byt_mk, List.map_map]
  conv => rhs; rw [← List.map_id l]
  refine List.map_congr_left fun c hc => ?_
  simp [UInt8.toNat_ofNat', Nat.mod_eq_of_lt (h c hc)]
theorem bstr_byt (s : ByteArray) : bstr (byt s) = s := byt_inj (byt_bstr (byt_lt s))
theorem run_conv_bytes (w : World) (b o cap : Nat) (l : List Nat) (hl : ∀ c ∈ l, c < 256) (hc : ∀ j (h : j < l.length), w.cell? ⟨b, o + j, none⟩ = some (.int .u8 (l[j] : Int))) :
    (convert 23 9 (.slice (some ⟨b, o, none⟩) l.length cap)).run Try.prog w = .ok (.string (bstr l)) w := by
  have h := run_convert_bytes_back (P := Try.prog) w 23 9 5 ⟨b, o, none⟩ cap (l.map UInt8.ofNat) Try.underlying23 Try.underlying5 Try.underlying9 (fun j hj => by
    have hj' : j < l.length := by simpa using hj
    have e1 : (⟨b, o, none⟩ : Addr).add j = ⟨b, o + j, none⟩ := by
      unfold Addr.add; split
      · rename_i h; subst h; simp
      · rfl
    rw [e1, hc j hj']
    have := hl l[j] (List.getElem_mem hj')
    simp [UInt8.toNat_ofNat', Nat.mod_eq_of_lt this])
  simpa [bstr] using h
theorem sealN_lt (r : Nat) (hr : r < 4294967296) : ∀ c ∈ sealN r, c < 256 := by
  intro c hc
  simp only [sealN, List.mem_cons, List.not_mem_nil, or_false] at hc
  omega
theorem run_seal (w : World) (r : Nat) (hr : r < 4294967296) :
    (convert 23 9 (.slice (some ⟨w.heap.size, 0, none⟩) 4 4)).run Try.prog (w.alloc (.cells #[.int .u8 ((r : Int) % 256), .int .u8 ((r : Int) / 256 % 256), .int .u8 ((r : Int) / 65536 % 256), .int .u8 ((r : Int) / 16777216)] 5)) =
      .ok (.string (bstr (sealN r))) (w.alloc (.cells #[.int .u8 ((r : Int) % 256), .int .u8 ((r : Int) / 256 % 256), .int .u8 ((r : Int) / 65536 % 256), .int .u8 ((r : Int) / 16777216)] 5)) := by
  have hb := Blk.new w #[.int .u8 ((r : Int) % 256), .int .u8 ((r : Int) / 256 % 256), .int .u8 ((r : Int) / 65536 % 256), .int .u8 ((r : Int) / 16777216)] 5
  refine run_conv_bytes _ _ 0 4 (sealN r) (sealN_lt r hr) (fun j hj => ?_)
  match j, hj with
  | 0, _ => exact hb.cell 0 (by simp [sealN])
  | 1, _ => exact hb.cell 1 (by simp [sealN])
  | 2, _ => exact hb.cell 2 (by simp [sealN])
  | 3, _ => exact hb.cell 3 (by simp [sealN])

set_option maxRecDepth 100000 in
set_option maxHeartbeats 4000000 in
theorem seal_any (r : Nat) (w : World) (hr : r < 4294967296) : Calls Try.prog 65 #[.int .u32 r] w (StrOf w (sealN r)) := by
  have h0 : (0 : Int) ≤ (r : Int) := by omega
  have h1 : (r : Int) ≤ 4294967295 := by omega
  have HR := hid hr
  have hk := run_seal w r hr
  clear hr
  go_enter Try.func65, Try.ntmps65
  go_wp2_with fail
  go_ret
  exact ⟨_, rfl, byt_bstr (sealN_lt r HR.out), ext_alloc (ext_refl _) _⟩
set_option maxRecDepth 100000 in
set_option maxHeartbeats 4000000 in
theorem rseal_any (r : Nat) (w : World) (hr : r < 4294967296) : Calls Try.prog 67 #[.int .u32 r] w (StrOf w (sealN r)) := by
  have h0 : (0 : Int) ≤ (r : Int) := by omega
  have h1 : (r : Int) ≤ 4294967295 := by omega
  have HR := hid hr
  have hk := run_seal w r hr
  clear hr
  go_enter Try.func67, Try.ntmps67
  go_wp2_with fail
  go_ret
  exact ⟨_, rfl, byt_bstr (sealN_lt r HR.out), ext_alloc (ext_refl _) _⟩
end Go.Proofs.Ytonckpblbdopmaa
