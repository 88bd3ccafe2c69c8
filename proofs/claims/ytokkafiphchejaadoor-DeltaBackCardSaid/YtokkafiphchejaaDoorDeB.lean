/-
  Texts and bytes (out of FrW1 and FrW2: what names no function).
-/
import Derived.Test.YtokkafiphchejaaDoorProg
import Derived.Test.YtokkafiphchejaaDoorKit
import Derived.Test.YtokkafiphchejaaDoorCrc
import Derived.Deep.QuietTactic
import Derived.BigQuiet
import Derived.RegionTactic
import Derived.Deep.CutBlock
import Derived.Test.YtokkafiphchejaaDoorVar
import Derived.Laws.BytesString
import Derived.Laws.IdiomStrings
import Derived.Lib.SlBytesConst
namespace Go.Proofs.YtokkafiphchejaaDoor
set_option linter.unusedVariables false
set_option linter.unusedSimpArgs false
open Go Go.RowKit
def byt (s : ByteArray) : List Nat := s.data.toList.map UInt8.toNat
theorem byt_lt (s : ByteArray) : ∀ c ∈ byt s, c < 256 := by
  intro c hc
  obtain ⟨u, -, rfl⟩ := List.mem_map.1 hc
  exact u.toNat_lt
theorem byt_len (s : ByteArray) : (byt s).length = s.size := by simp [byt]

theorem byt_take (s : ByteArray) (k : Nat) (h : k < s.size) : (byt s).take (k + 1) = (byt s).take k ++ [s[k].toNat] := by
  unfold byt
  rw [← List.map_take, List.take_succ_eq_append_getElem (by simpa using h), List.map_append, List.map_take]
  rfl
/-- A text came back, whose bytes are these. -/
def StrOf (w : World) (l : List Nat) (e : Ending) (w' : World) : Prop := ∃ s : ByteArray, e = .returned (.string s) ∧ byt s = l ∧ Below w.heap.size w w'
theorem byt_inj {s t : ByteArray} (h : byt s = byt t) : s = t := by
  cases s with | mk a => cases t with | mk b =>
  congr 1
  have hi : Function.Injective UInt8.toNat := fun x y h => UInt8.toNat_inj.1 h
  have := (List.map_inj_right (fun x y h => hi h)).1 h
  exact Array.toList_inj.1 this
theorem byt_mk (l : List UInt8) : byt ⟨l.toArray⟩ = l.map UInt8.toNat := by simp [byt]

/-- The text of some bytes. -/
def bstr (l : List Nat) : ByteArray := ⟨(l.map UInt8.ofNat).toArray⟩
theorem byt_bstr {l : List Nat} (h : ∀ c ∈ l, c < 256) : byt (bstr l) = l := by
  unfold bstr
  rw [byt_mk, List.map_map]
  conv => rhs; rw [← List.map_id l]
  refine List.map_congr_left fun c hc => ?_
  simp [UInt8.toNat_ofNat', Nat.mod_eq_of_lt (h c hc)]
theorem bstr_byt (s : ByteArray) : bstr (byt s) = s := byt_inj (byt_bstr (byt_lt s))
theorem run_conv_bytes (w : World) (b o cap : Nat) (l : List Nat) (hl : ∀ c ∈ l, c < 256) (hc : ∀ j (h : j < l.length), w.cell? ⟨b, o + j, none⟩ = some (.int .u8 (l[j] : Int))) :
    (convert 75 9 (.slice (some ⟨b, o, none⟩) l.length cap)).run Tryd.prog w = .ok (.string (bstr l)) w := by
  have h := run_convert_bytes_back (P := Tryd.prog) w 75 9 5 ⟨b, o, none⟩ cap (l.map UInt8.ofNat) Tryd.underlying75 Tryd.underlying5 Tryd.underlying9 (fun j hj => by
    have hj' : j < l.length := by simpa using hj
    have e1 : (⟨b, o, none⟩ : Addr).add j = ⟨b, o + j, none⟩ := by
      unfold Addr.add; split
      · rename_i h; subst h; simp
      · rfl
    rw [e1, hc j hj']
    have := hl l[j] (List.getElem_mem hj')
    simp [UInt8.toNat_ofNat', Nat.mod_eq_of_lt this])
  simpa [bstr] using h
end Go.Proofs.YtokkafiphchejaaDoor
