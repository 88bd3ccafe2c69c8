/-
  Reckoning a program in the kernel: append, copy, make, conversions. Nothing of the program.
-/
import Derived.Test.YtonckpblbdopmaaRua
import Derived.Laws.AppendOwn
namespace Go.Proofs.Ytonckpblbdopmaa.Rk
set_option linter.unusedVariables false
open Go
set_option maxHeartbeats 1000000
set_option linter.unusedSimpArgs false

section
variable {w0 : World} {P : Program} {a : Tri AV} {s s' : St} {o : Oper} {v : AV} {m : Tl} {H : Hp} {W : World}
theorem run_lenOf {x : AV} {n : Nat} {z : Value} (h : lenA x = some n) (hv : VR m x z) (w : World) : (Builtin.lenOf z).run P w = .ok n w := by
  cases x <;> simp only [lenA] at h <;> cases h <;> cases hv <;> rfl
theorem rowA_spec {b off k : Nat} {new : List AV} (h : rowA b off k s = some (new, s')) : Seg s s' [b] [] ∧ s'.nx = s.nx ∧ b < s.nx ∧ ∀ (m : Tl) (H : Hp) (W : World) (G : Nat) (T : List Nat), Good w0 P G m H W → Agree H s T → b ∈ T →
    ∃ c arr, m b = some c ∧ (∀ w : World, w.heap = W.heap → (loadCells ⟨c, off, none⟩ k).run P w = .ok arr w) ∧ LR m new arr.toList := by
  obtain ⟨⟨cs, s1⟩, hr0, h_⟩ := ob_some h; clear h; have h := h_; clear h_
  obtain ⟨l, hl0, h_⟩ := ob_some h; clear h; have h := h_; clear h_
  cases h
  obtain ⟨hle, rfl⟩ := sub_some hl0
  obtain ⟨ob0, hlk0, _⟩ := cellsRd_look hr0
  obtain ⟨hlt, _, hseg, _, hnx⟩ := look_spec hlk0
  refine ⟨hseg, hnx, hlt, fun m H W G T hg ha hT => ?_⟩
  obtain ⟨c, ar, el, fr, hb, hh, hlen, hl⟩ := rd_obj hr0 ha hT hg
  exact ⟨c, _, hb, fun w hw => run_loadCells_rk (by rw [hw]; exact hh) (show off + k ≤ ar.size by omega), hl.sub rfl hle⟩
theorem firstA_spec {size n : Nat} {x : AV} {new : List AV} (h : firstA size n x s = some (new, s')) : ∃ T, Seg s s' T [] ∧ s'.nx = s.nx ∧ ∀ (m : Tl) (H : Hp) (W : World) (G : Nat) (T' : List Nat) (z : Value), Good w0 P G m H W → Agree H s T' → (∀ k ∈ T, k ∈ T') → VR m x z →
    ∃ arr, (∀ w : World, w.heap = W.heap → (Builtin.firstCells size n z).run P w = .ok arr w) ∧ LR m new arr.toList := by
  cases x <;> simp only [firstA] at h <;> (try (cases h; done))
  · rename_i l
    cases h
    refine ⟨[], Seg.refl s, rfl, fun m H W G T' z hg ha hT hv => ?_⟩
    cases hv
    refine ⟨_, fun w hw => rfl, ?_⟩
    have : (((ByteArray.mk ⟨l⟩).extract 0 n).data.map fun b => Value.int .u8 b.toNat).toList = (l.take n).map fun b => Value.int .u8 b.toNat := by
      have : ((ByteArray.mk ⟨l⟩).extract 0 n).data = (Array.mk l).extract 0 n := by simp [ByteArray.data_extract]
      rw [this]
      simp
    rw [this]
    refine ⟨by simp, fun i x u hx hu => ?_⟩
    simp only [List.getElem?_map] at hx hu
    cases hb : (l.take n)[i]? with
    | none => rw [hb] at hx; cases hx
    | some b => rw [hb] at hx hu; cases hx; cases hu; exact .int _ _
  · cases h
    refine ⟨[], Seg.refl s, rfl, fun m H W G T' z hg ha hT hv => ?_⟩
    cases hv
    exact ⟨#[], fun w hw => rfl, LR.nil m⟩
  · obtain ⟨hseg, hnx, _, hrow⟩ := rowA_spec (w0 := w0) (P := P) h
    refine ⟨_, hseg, hnx, fun m H W G T' z hg ha hT hv => ?_⟩
    obtain ⟨b, c, hm, rfl, _⟩ := hv.slice (.inl ⟨_, rfl⟩)
    obtain ⟨c', arr, hc, hrun, hl⟩ := hrow m H W G T' hg ha (hT _ (by simp))
    rw [hm] at hc; cases hc
    exact ⟨arr, hrun, hl⟩
  · obtain ⟨hseg, hnx, _, hrow⟩ := rowA_spec (w0 := w0) (P := P) h
    refine ⟨_, hseg, hnx, fun m H W G T' z hg ha hT hv => ?_⟩
    obtain ⟨b, c, hm, rfl, _⟩ := hv.slice (.inr ⟨_, rfl⟩)
    obtain ⟨c', arr, hc, hrun, hl⟩ := hrow m H W G T' hg ha (hT _ (by simp))
    rw [hm] at hc; cases hc
    exact ⟨arr, hrun, hl⟩
/-- append where there is room. -/
theorem run_append_in {t u ty e : TypeId} {d : TypeDesc} {i : TypeInfo} {base : Option Addr} {sLen sCap n : Nat} {Y : Value} {arr : Array Value} {W' : World} (ht : P.underlying t = some (.slice e)) (hu : P.underlying u = some d) (hd : ∀ k, d ≠ .int k) (hi : P.info? e = some i)
    (hn : (Builtin.lenOf Y).run P W = .ok n W) (hle : sLen + n ≤ sCap) (hf : (Builtin.firstCells i.size n Y).run P W = .ok arr W)
    (hst : ∀ b, base = some b → (storeCells (b.add (sLen * i.size)) arr.toList).run P W = .ok () W') (h0 : base = none → W' = W) :
    (Builtin.append_ #[t, u] ty #[.slice base sLen sCap, Y]).run P W = .ok (.slice base (sLen + n) sCap) W' := by
  have hz : (match d with | .int _ => true | _ => false) = false := by cases d <;> first | rfl | exact absurd rfl (hd _)
  have hsz : szT P e = some i.size := by simp [szT, hi]
  unfold Builtin.append_
  simp only [List.getElem?_toArray, List.getElem?_cons_zero, List.getElem?_cons_succ, Sem.run_bind, run_und ht, run_und hu, run_sz hsz, Result.andThen_ok, Sem.run_pure, hz, Bool.false_eq_true, if_false, hn, Bool.not_false, if_true]
  rw [if_pos hle]
  cases base with
  | none =>
    have := h0 rfl
    subst this
    simp only [Sem.run_bind, hf, Result.andThen_ok, Sem.run_pure]
  | some b =>
    simp only [Sem.run_bind, hf, Result.andThen_ok, Sem.run_pure, hst b rfl]
/-- append where there is no room: a new row. -/
theorem run_append_new {t u ty e : TypeId} {d : TypeDesc} {i : TypeInfo} {z : Value} {base : Option Addr} {sLen sCap n : Nat} {Y : Value} {old new : Array Value} (ht : P.underlying t = some (.slice e)) (hu : P.underlying u = some d) (hd : ∀ k, d ≠ .int k) (hi : P.info? e = some i)
    (hz : zeroT P e = some z) (hzs : z.cells.size = i.size) (hb0 : i.bytes ≠ 0) (hb1 : i.bytes ≤ 1048576) (hsm : sLen + n ≤ 1048576)
    (hn : (Builtin.lenOf Y).run P W = .ok n W) (hgt : sCap < sLen + n) (hold : ∀ w, w.heap = W.heap → (Builtin.firstCells i.size sLen (.slice base sLen sCap)).run P w = .ok old w) (hnew : ∀ w, w.heap = W.heap → (Builtin.firstCells i.size n Y).run P w = .ok new w) :
    ∃ newCap rest W', (sLen + n ≤ newCap ∧ newCap ≤ 9223372036854775807) ∧ rest.size = (newCap - (sLen + n)) * i.size ∧ W'.heap = W.heap.push (.cells (old ++ new ++ rest) e) ∧ SameOut W W' ∧
      (Builtin.append_ #[t, u] ty #[.slice base sLen sCap, Y]).run P W = .ok (.slice (some ⟨W.heap.size, 0, none⟩) (sLen + n) newCap) W' := by
  have hzz : (match d with | .int _ => true | _ => false) = false := by cases d <;> first | rfl | exact absurd rfl (hd _)
  have hsz : szT P e = some i.size := by simp [szT, hi]
  have hfit : ¬ (281474976710656 < Builtin.nextslicecap (sLen + n) sCap * i.bytes) := by
    have h1 : (sLen + n + (sLen + n) / 4 + 192) * i.bytes ≤ (1048576 + 1048576 / 4 + 192) * 1048576 := Nat.mul_le_mul (by omega) hb1
    have := growslice_fits_wide hgt (Nat.le_trans h1 (by decide))
    omega
  have hfit' : ¬ (Builtin.nextslicecap (sLen + n) sCap * i.bytes > 2 ^ 48) := by simpa using hfit
  let q : Question := .appendCap (sLen + n) sCap e
  let nc : Nat := q.cut (W.tape W.drawn q)
  have hcut : sLen + n ≤ nc := by show sLen + n ≤ sLen + n + _; omega
  have hcut2 : nc ≤ 9223372036854775807 := by
    have := grownCap_le_maxLen W (sLen + n) sCap e (by unfold maxLen; omega)
    unfold maxLen at this
    exact this
  have hch : (choose q).run P W = .ok nc W.drew := by rw [run_choose]; rfl
  have hzero : ∀ w, (zeroValue e).run P w = .ok z w := fun w => run_zero hz w
  refine ⟨nc, Builtin.zeroCells z.cells (nc - (sLen + n)), { W.drew with heap := W.drew.heap.push (.cells (old ++ new ++ Builtin.zeroCells z.cells (nc - (sLen + n))) e) }, ⟨hcut, hcut2⟩, by simp [Builtin.zeroCells, hzs], rfl, ⟨rfl, rfl, rfl⟩, ?_⟩
  unfold Builtin.append_
  simp only [List.getElem?_toArray, List.getElem?_cons_zero, List.getElem?_cons_succ, Sem.run_bind, run_und ht, run_und hu, run_sz hsz, Result.andThen_ok, Sem.run_pure, hzz, Bool.false_eq_true, if_false, hn, Bool.not_false, if_true]
  rw [if_neg (by omega)]
  simp only [Sem.run_bind, run_info hi, Result.andThen_ok, hb0, or_self, and_false, false_or, if_false, Sem.run_pure]
  rw [if_neg hfit']
  simp only [Sem.run_bind, Result.andThen_ok, Sem.run_pure]
  rw [hch]
  simp only [Result.andThen_ok, run_askRoom, run_info hi, hold W.drew rfl, hnew W.drew rfl, hzero, newRow, run_newObj, Sem.run_bind, Sem.run_pure]
  rfl
end
end Go.Proofs.Ytonckpblbdopmaa.Rk
