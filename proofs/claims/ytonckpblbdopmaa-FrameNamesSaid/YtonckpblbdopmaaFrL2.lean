/-
  Frames: what comes back (back, no); FrameBack.
-/
import Derived.Test.YtonckpblbdopmaaFrL1
namespace Go.Proofs.Ytonckpblbdopmaa
set_option linter.unusedVariables false
open Go Go.RowKit

theorem byt_bstr_wrap (b : ByteArray) : ∀ c ∈ (wrapL (byt b)).1, c < 256 := by
  unfold wrapL
  split
  · simp
  · intro c hc
    rcases List.mem_append.1 hc with h | h
    · rcases List.mem_append.1 h with h | h
      · exact putF_byte 10 _ c h
      · exact byt_lt b c h
    · exact sealN_lt _ (sumN_lt _) c h
theorem putN_pos (n : Nat) : 0 < (putN n).length := by
  unfold putN putF; split <;> simp
/-- Unwrap of Wrap is the body. -/
theorem unwrap_wrap {b : List Nat} (hl : b.length + 14 ≤ 16777216) (hb : ∀ c ∈ b, c < 256) : wrapL b = (putN b.length ++ b ++ sealN (sumN (putN b.length ++ b)), 0) ∧ unwrapL (putN b.length ++ b ++ sealN (sumN (putN b.length ++ b))) = (b, 0, 0) := by
  have h1 := putN_len b.length
  refine ⟨by unfold wrapL; rw [if_neg (by omega)], ?_⟩
  have hg : getN (putN b.length ++ b ++ sealN (sumN (putN b.length ++ b))) = (b.length, (putN b.length).length, 0) := by
    rw [List.append_assoc]
    exact get_put b.length _ (by omega)
  have h4 : (sealN (sumN (putN b.length ++ b))).length = 4 := rfl
  unfold unwrapL
  rw [hg]
  dsimp only
  rw [if_neg (by simp only [List.length_append, h4]; omega), if_neg (by simp), if_neg (by omega), if_neg (by simp only [List.length_append, h4]; omega), if_neg (by simp only [List.length_append, h4]; omega)]
  have e : (putN b.length ++ b).length = (putN b.length).length + b.length := by simp
  rw [← e, List.drop_left, List.take_left, if_neg (by simp), List.drop_left]
/-- A frame without its last byte: bytes are missing. -/
theorem unwrap_cut {b : List Nat} (hl : b.length + 14 ≤ 16777216) (hb : ∀ c ∈ b, c < 256) (f : List Nat) (hf : f = putN b.length ++ b ++ sealN (sumN (putN b.length ++ b))) :
    unwrapL (f.take (f.length - 1)) = ([], f.length - 1, 8) := by
  have h1 := putN_len b.length
  have h4 : (sealN (sumN (putN b.length ++ b))).length = 4 := rfl
  have hlen : f.length = (putN b.length).length + b.length + 4 := by rw [hf]; simp only [List.length_append, h4]
  have ht : f.take (f.length - 1) = putN b.length ++ (b ++ (sealN (sumN (putN b.length ++ b))).take 3) := by
    rw [hlen, hf, List.take_append, List.take_of_length_le (by simp), List.append_assoc]
    congr 3
    simp
  have hg : getN (f.take (f.length - 1)) = (b.length, (putN b.length).length, 0) := by
    rw [ht]; exact get_put b.length _ (by omega)
  have hl2 : (f.take (f.length - 1)).length = f.length - 1 := by simp
  unfold unwrapL
  rw [hg, hl2]
  dsimp only
  rw [if_neg (by omega), if_neg (by simp), if_neg (by omega), if_pos (by omega)]
/-- A frame with a byte more: bytes behind the end. -/
theorem unwrap_long {b : List Nat} (hl : b.length + 14 ≤ 16777215) (hb : ∀ c ∈ b, c < 256) (x : Nat) (f : List Nat) (hf : f = putN b.length ++ b ++ sealN (sumN (putN b.length ++ b))) :
    unwrapL (f ++ [x]) = ([], f.length, 10) := by
  have h1 := putN_len b.length
  have h4 : (sealN (sumN (putN b.length ++ b))).length = 4 := rfl
  have hlen : f.length = (putN b.length).length + b.length + 4 := by rw [hf]; simp only [List.length_append, h4]
  have hg : getN (f ++ [x]) = (b.length, (putN b.length).length, 0) := by
    rw [hf, List.append_assoc, List.append_assoc]; exact get_put b.length _ (by omega)
  unfold unwrapL
  rw [hg]
  dsimp only
  rw [if_neg (by simp; omega), if_neg (by simp), if_neg (by omega), if_neg (by simp; omega), if_pos (by simp; omega), ← hlen]
/-- What Unwrap told, wrapped anew, are the bytes. -/
theorem wrap_unwrap {s t : List Nat} {n : Nat} (hs : ∀ c ∈ s, c < 256) (h : unwrapL s = (t, n, 0)) : wrapL t = (s, 0) ∧ n = 0 := by
  unfold unwrapL at h
  split at h
  · simp at h
  rename_i c1
  split at h
  · simp at h; omega
  rename_i c2
  split at h
  · simp at h
  rename_i c3
  split at h
  · simp at h
  rename_i c4
  split at h
  · simp at h
  rename_i c5
  split at h
  · simp at h
  rename_i c6
  obtain ⟨m, k, e, hg⟩ : ∃ m k e, getN s = (m, k, e) := ⟨_, _, _, rfl⟩
  rw [hg] at h c2 c3 c4 c5 c6
  simp only [Prod.mk.injEq, and_true, ne_eq, Classical.not_not] at h c2 c6
  dsimp only at c3 c4 c5
  subst c2
  obtain ⟨h1, h2, h3, h4, h5⟩ := put_get hs hg
  obtain ⟨ht, rfl⟩ := h
  refine ⟨?_, rfl⟩
  have hsl : s.length = k + m + 4 := by omega
  have hkl : (s.take (k + m)).take k = putN m := by rw [List.take_take, Nat.min_eq_left (by omega), h1]
  have hpl : (putN m).length = k := by rw [← h1]; simp; omega
  have hcat : putN m ++ t = s.take (k + m) := by
    rw [← ht, ← hkl, List.take_append_drop]
  have htl : t.length = m := by rw [← ht]; simp; omega
  unfold wrapL
  rw [htl, if_neg (by rw [hpl]; omega), hcat, ← c6, List.take_append_drop]
/-- Whatever is refused, is so at a place within. -/
theorem unwrap_place {s t : List Nat} {n e : Nat} (h : unwrapL s = (t, n, e)) (he : e ≠ 0) : t = [] ∧ n ≤ s.length := by
  unfold unwrapL at h
  split at h
  · simp at h; obtain ⟨rfl, rfl, rfl⟩ := h; simp
  split at h
  · simp at h; obtain ⟨rfl, rfl, -⟩ := h; simp
  split at h
  · simp at h; obtain ⟨rfl, rfl, -⟩ := h; simp
  split at h
  · simp at h; obtain ⟨rfl, rfl, -⟩ := h; simp
  split at h
  · simp at h; obtain ⟨rfl, rfl, -⟩ := h; exact ⟨rfl, by omega⟩
  split at h
  · simp at h; obtain ⟨rfl, rfl, -⟩ := h; exact ⟨rfl, by omega⟩
  · simp at h; omega
end Go.Proofs.Ytonckpblbdopmaa
