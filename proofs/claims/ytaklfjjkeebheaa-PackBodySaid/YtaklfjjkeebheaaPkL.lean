/-
  Walk: pack.Decode, of a frame.
-/
import Derived.Test.YtaklfjjkeebheaaPkG
import Derived.Test.YtaklfjjkeebheaaPkM
import Derived.Test.YtaklfjjkeebheaaPbF
import Derived.Test.YtaklfjjkeebheaaSuC2
namespace Go.Proofs.Ytaklfjjkeebheaa
set_option linter.unusedVariables false
set_option linter.unusedSimpArgs false
set_option linter.unusedVariables false
open Go Go.RowKit
/-- No setup, as a value. -/
def suZ : Value := .agg #[.int .i64 0, .int .i64 0, .int .i64 0, .slice none 0 0, .slice none 0 0]
/-- What Decode of a frame tells. -/
def DecP (s : ByteArray) (u : List Nat) (W : World) (e : Ending) (W' : World) : Prop :=
  Below W.heap.size W W' ∧
  (((endR (setupL ⟨u, 0, 0⟩).2).err ≠ 0 ∧ e = .returned (.tuple #[suZ, .int .i64 ((s.size : Int) - u.length - 4 + (endR (setupL ⟨u, 0, 0⟩).2).at_), .int .i64 ((endR (setupL ⟨u, 0, 0⟩).2).err : Int)])) ∨
   ((endR (setupL ⟨u, 0, 0⟩).2).err = 0 ∧ ¬ GoodS (setupL ⟨u, 0, 0⟩).1.st (setupL ⟨u, 0, 0⟩).1.ck (setupL ⟨u, 0, 0⟩).1.tr (setupL ⟨u, 0, 0⟩).1.init.length (setupL ⟨u, 0, 0⟩).1.ths ∧ e = .returned (.tuple #[suZ, .int .i64 ((s.size : Int) - u.length - 4 + u.length), .int .i64 4])) ∨
   ((endR (setupL ⟨u, 0, 0⟩).2).err = 0 ∧ GoodS (setupL ⟨u, 0, 0⟩).1.st (setupL ⟨u, 0, 0⟩).1.ck (setupL ⟨u, 0, 0⟩).1.tr (setupL ⟨u, 0, 0⟩).1.init.length (setupL ⟨u, 0, 0⟩).1.ths ∧
     ∃ vi vt, e = .returned (.tuple #[.agg #[.int .i64 (setupL ⟨u, 0, 0⟩).1.st, .int .i64 (setupL ⟨u, 0, 0⟩).1.ck, .int .i64 (setupL ⟨u, 0, 0⟩).1.tr, vi, vt], .int .i64 0, .int .i64 0]) ∧ RdSl RdI W' (setupL ⟨u, 0, 0⟩).1.init vi ∧ RdThs W' (setupL ⟨u, 0, 0⟩).1.ths vt))
theorem endR_kept {r : Rdr} : (endR r).s = r.s ∧ (endR r).at_ = r.at_ ∧ ((endR r).err = 0 → r.err = 0 ∧ r.s.length ≤ r.at_) ∧ ((endR r).err = r.err ∨ (endR r).err = 10) := by
  unfold endR
  split
  · exact ⟨rfl, rfl, fun h => absurd h (by assumption), .inl rfl⟩
  · split
    · exact ⟨rfl, rfl, (fun h => by cases h), .inr rfl⟩
    · exact ⟨rfl, rfl, fun h => ⟨h, by omega⟩, .inl rfl⟩
/-- What is read to the end is well formed, and its bytes are those. -/
theorem dec_law {u : List Nat} (hu : ∀ c ∈ u, c < 256) (he : (endR (setupL ⟨u, 0, 0⟩).2).err = 0) : setupB (setupL ⟨u, 0, 0⟩).1 = u := by
  have hr : RdB ⟨u, 0, 0⟩ := ⟨hu, Nat.zero_le _⟩
  obtain ⟨h1, h2⟩ := (endR_kept.2.2.1 he)
  have hw := setupL_went hr h1
  have hs := hw.s
  have hl := hw.len
  have ht := hw.tk
  rw [hs] at h2
  dsimp only at h2 hl ht
  rw [List.take_of_length_le h2, List.take_zero, List.nil_append] at ht
  exact ht.symm
theorem dec_ok {u : List Nat} (hu : ∀ c ∈ u, c < 256) (hl : u.length ≤ 1000000) (he : (endR (setupL ⟨u, 0, 0⟩).2).err = 0) : (∀ th ∈ (setupL ⟨u, 0, 0⟩).1.ths, okTh th) ∧ ∀ th ∈ (setupL ⟨u, 0, 0⟩).1.ths, ∀ t ∈ th, ∀ y ∈ flatT t, 1 ≤ y.kind ∧ y.kind ≤ 8 := by
  have hr : RdB ⟨u, 0, 0⟩ := ⟨hu, Nat.zero_le _⟩
  have hw := setupL_wf hr
  have hb := dec_law hu he
  refine ⟨fun th h => ⟨by have := (hw th h).1; omega, fun t ht => ⟨?_, fun y hy => ((hw th h).2 t ht y hy).ok⟩⟩, fun th h t ht y hy => ((hw th h).2 t ht y hy).kd⟩
  have h1 := (size_bytes (sizeT t)).2 t (Nat.le_refl _) ((hw th h).2 t ht)
  have h2 := tx_bytes h ht
  rw [hb] at h2
  omega
set_option maxHeartbeats 4000000 in
set_option maxRecDepth 100000 in
set_option maxHeartbeats 4000000 in
theorem dec_any (s : ByteArray) (u : List Nat) (W : World) (hs : s.size ≤ 1000000) (hu : unwrapL (byt s) = (u, 0, 0)) (hsu : u.length + 5 ≤ s.size) : Calls Try.prog 6 #[.string s] W (DecP s u W) := by
  have hub : ∀ c ∈ u, c < 256 := fun c hc => byt_lt s c ((unwrap_sub hu).2 c hc)
  have hby := byt_bstr hub
  have hbsz : (bstr u).size = u.length := by rw [← byt_len, hby]
  obtain ⟨W1, hW1⟩ : ∃ W1, W1 = W.alloc (.cells #[.int .i64 0, .int .i64 0, .int .i64 0, .slice none 0 0, .slice none 0 0] 27) := ⟨_, rfl⟩
  have hb1 : Below W.heap.size W W1 := by rw [hW1]; exact ext_alloc (ext_refl _) _
  have hsb : Blk W1 W.heap.size #[.int .i64 0, .int .i64 0, .int .i64 0, .slice none 0 0, .slice none 0 0] 27 := by rw [hW1]; exact Blk.new _ _ _
  have HUW := hid (unwrap_x s W1 (by omega))
  rw [hu] at HUW
  dsimp only at HUW
  have hrb : RdB ⟨u, 0, 0⟩ := ⟨hub, Nat.zero_le _⟩
  have hkp := setupL_kept hrb
  have hdl := fun h => dec_ok hub (by omega) h
  obtain ⟨r0, hr0⟩ : ∃ r0 : Rdr, r0 = ⟨u, 0, 0⟩ := ⟨_, rfl⟩
  obtain ⟨Q, hQ⟩ : ∃ Q, Q = DecP s u W := ⟨_, rfl⟩
  rw [← hQ]
  unfold DecP at hQ
  rw [← hr0] at hkp hdl hQ
  obtain ⟨q, hq⟩ : ∃ q, q = setupL r0 := ⟨_, rfl⟩
  have HSET := hid (fun (rb : Nat) (w : World) (h : RdM w rb (bstr u) r0) => setup_any rb (bstr u) r0 w h)
  rw [← hq] at hkp hdl hQ HSET
  have hk0 : r0.s = byt (bstr u) ∧ r0.at_ = 0 ∧ r0.err = 0 := by rw [hr0]; exact ⟨hby.symm, rfl, rfl⟩
  have HK0 := hid hk0
  have HQ := hid hQ
  have HKP := hid hkp
  have HDL := hid hdl
  have HB1 := hid hb1
  have HSB := hid hsb
  have HW1 := hid hW1
  have HSZ := hid (show s.size ≤ 1000000 ∧ u.length + 5 ≤ s.size ∧ (bstr u).size = u.length from ⟨hs, hsu, hbsz⟩)
  have k1 : IntKind.i64.wrap ((s.size : Int) - (u.length : Int)) = (s.size : Int) - (u.length : Int) := IntWalk.i64_in _ (by omega)
  have k2 : IntKind.i64.wrap ((s.size : Int) - (u.length : Int) - 4) = (s.size : Int) - (u.length : Int) - 4 := IntWalk.i64_in _ (by omega)
  have k3 : IntKind.i64.wrap (s.size : Int) = (s.size : Int) := IntWalk.i64_in _ (by omega)
  have k4 : IntKind.i64.wrap (u.length : Int) = (u.length : Int) := IntWalk.i64_in _ (by omega)
  clear hs hu hsu hub hby hb1 hsb hrb hkp hdl hr0 hq hQ hW1 hk0
  go_enter Try.func6, Try.ntmps6
  go_wp2_with fail
  rw [← HW1.out]
  refine HUW.out.mono ?_
  rintro e' W2 ⟨rfl, hb2⟩
  have HB2 := hid (ext_trans HB1.out hb2)
  have HSB2 := hid (HSB.out.below hb2)
  clear hb2 HUW HW1 HB1 HSB
  go_wp2_with fail
  refine (newReader_any (bstr u) W2 (by have := HSZ.out; omega)).mono ?_
  rintro e' W3 ⟨rfl, hr3, hb3⟩
  obtain ⟨rb, hrb⟩ : ∃ rb, rb = W2.heap.size := ⟨_, rfl⟩
  rw [← hrb] at hr3 ⊢
  have HR3 : Hid (RdM W3 rb (bstr u) r0) := hid ⟨by rw [HK0.out.2.1, HK0.out.2.2]; exact hr3, HK0.out.1, by rw [HK0.out.2.1]; exact Nat.zero_le _, by have := HSZ.out; omega⟩
  have HB3 := hid (ext_trans HB2.out hb3)
  have HSB3 := hid (HSB2.out.below hb3)
  have HRB := hid (show W.heap.size < rb ∧ rb = W2.heap.size from ⟨by rw [hrb]; exact HSB2.out.lt, hrb⟩)
  clear hr3 hb3 hrb
  go_wp2_with fail
  refine (HSET.out rb W3 HR3.out).mono ?_
  rintro e' w4 ⟨vs, rfl, hr4, hT4, hv⟩
  obtain ⟨vi, vt, rfl, hvi, hvt⟩ := hv w4 (Agree.refl _ _ _)
  obtain ⟨pi, ci, rfl, hil, -⟩ := hvi
  obtain ⟨pt, ct, rfl, htl, -⟩ := hvt
  have hrl := HR3.out.lt
  have hm4 := HR3.out.kept HKP.out hr4
  have hs4 := hT4.blk (by have := HRB.out.1; simp; omega) HSB3.out
  have c0 := hs4.cell 0 (v := .int .i64 0) rfl
  have c1 := hs4.cell 1 (v := .int .i64 0) rfl
  have c2 := hs4.cell 2 (v := .int .i64 0) rfl
  have c3 := hs4.cell 3 (v := .slice none 0 0) rfl
  have c4 := hs4.cell 4 (v := .slice none 0 0) rfl
  have z0 := hs4.free 0
  have z1 := hs4.free 1
  have z2 := hs4.free 2
  have z3 := hs4.free 3
  have z4 := hs4.free 4
  have hne : rb ≠ W.heap.size := by have := HRB.out.1; omega
  obtain ⟨W5, hW5⟩ : ∃ W5, W5 = ((((w4.setCell ⟨W.heap.size, 0, none⟩ (.int .i64 q.1.st)).setCell ⟨W.heap.size, 1, none⟩ (.int .i64 q.1.ck)).setCell ⟨W.heap.size, 2, none⟩ (.int .i64 q.1.tr)).setCell ⟨W.heap.size, 3, none⟩ (.slice pi q.1.init.length ci)).setCell ⟨W.heap.size, 4, none⟩ (.slice pt q.1.ths.length ct) := ⟨_, rfl⟩
  have hs5 : Blk W5 W.heap.size #[.int .i64 q.1.st, .int .i64 q.1.ck, .int .i64 q.1.tr, .slice pi q.1.init.length ci, .slice pt q.1.ths.length ct] 27 := by
    rw [hW5]; simpa using ((((hs4.set 0 (.int .i64 q.1.st)).set 1 (.int .i64 q.1.ck)).set 2 (.int .i64 q.1.tr)).set 3 (.slice pi q.1.init.length ci)).set 4 (.slice pt q.1.ths.length ct)
  have hr5 : RdrAt W5 rb (bstr u) q.2.at_ q.2.err := by
    rw [hW5]; exact ((((Blk.set_other hm4.blk _ _ hne).set_other _ _ hne).set_other _ _ hne).set_other _ _ hne).set_other _ _ hne
  have hA5 : Agree W3.heap.size w4.heap.size w4 W5 := by
    have hx : W.heap.size < W3.heap.size := HSB3.out.lt
    rw [hW5]; exact ((((Agree.set _ _ hx).trans (Agree.set _ _ hx)).trans (Agree.set _ _ hx)).trans (Agree.set _ _ hx)).trans (Agree.set _ _ hx)
  have hb5 : Below W.heap.size W W5 := by
    have h4 : Below W.heap.size W w4 := HB3.out.trans (hT4.below (fun x hx => by have := HRB.out.1; simp at hx; omega) HB3.out.size)
    rw [hW5]
    exact ((((h4.setCell (p := ⟨W.heap.size, 0, none⟩) (Nat.le_refl _) _).setCell (p := ⟨W.heap.size, 1, none⟩) (Nat.le_refl _) _).setCell (p := ⟨W.heap.size, 2, none⟩) (Nat.le_refl _) _).setCell (p := ⟨W.heap.size, 3, none⟩) (Nat.le_refl _) _).setCell (p := ⟨W.heap.size, 4, none⟩) (Nat.le_refl _) _
  have hsz5 : w4.heap.size = W5.heap.size := by rw [hW5]; simp [size_setCell]
  have HEND := hid (rend_any rb (bstr u) q.2.at_ q.2.err W5 hr5 hm4.sz hm4.at_)
  rw [← hm4.eta] at HEND
  have hat : (endR q.2).at_ ≤ u.length := by rw [endR_kept.2.1]; have := hm4.at_; have := HSZ.out; omega
  generalize endR q.2 = re at *
  have HAT := hid hat
  have HS5 := hid hs5
  have HA5 := hid hA5
  have HB5 := hid hb5
  have HV := hid hv
  have HW5 := hid hW5
  have HX5 := hid (show rb < W3.heap.size ∧ W3.heap.size ≤ w4.heap.size ∧ w4.heap.size = W5.heap.size from ⟨hrl, hT4.size, hsz5⟩)
  clear hr4 hT4 hv hm4 hs4 hs5 hr5 hA5 hb5 hsz5 hat hrl hW5
  go_wp2_with fail
  rw [← HW5.out]
  refine HEND.out.mono ?_
  rintro e' w6 ⟨rfl, hr6, hT6⟩
  have HWR := hid (rWrong_any rb (bstr u) re.at_ re.err w6 hr6)
  have HS6 := hid (hT6.blk (by simp; omega) HS5.out)
  have HA6 := hid (HA5.out.trans ((Agree.of_turn hT6 (by have := HX5.out; simp; omega)).sub (Nat.le_refl _) (by have := HX5.out; omega)))
  have HB6 := hid (HB5.out.trans (hT6.below (fun x hx => by have := HRB.out.1; simp at hx; omega) HB5.out.size))
  have HZ6 := hid (show w4.heap.size ≤ w6.heap.size by have := hT6.size; have := HX5.out; omega)
  clear hr6 hT6 c0 c1 c2 c3 c4 z0 z1 z2 z3 z4 HW5
  go_wp2_with fail
  by_cases he : re.err = 0
  · rw [if_pos he] at HWR
    have g1 : ((re.err : Int) != 0) = false := by rw [he]; rfl
    have g2 : (re.err != 0) = false := by rw [he]; rfl
    refine HWR.out.mono ?_
    rintro e' w7 ⟨rfl, hb7⟩
    have hS7 := HS6.out.below hb7
    have HA7 := hid (HA6.out.trans ((Agree.of_below (lo := W3.heap.size) hb7).sub (Nat.le_refl _) HZ6.out))
    have HB7 := hid (HB6.out.trans (hb7.mono HB6.out.size))
    have HZ7 := hid (Nat.le_trans HZ6.out hb7.size)
    obtain ⟨vi7, vt7, e7, hvi7, hvt7⟩ := HV.out w7 HA7.out
    obtain ⟨f1, f2⟩ : Value.slice pi q.1.init.length ci = vi7 ∧ Value.slice pt q.1.ths.length ct = vt7 := by simpa using e7
    subst f1 f2
    have HCK := hid (check_any q.1.st q.1.ck q.1.tr pi q.1.init.length ci q.1.ths _ w7 hvt7 (HDL.out he).1 hil)
    have d0 := hS7.cell 0 (v := .int .i64 q.1.st) rfl
    have d1 := hS7.cell 1 (v := .int .i64 q.1.ck) rfl
    have d2 := hS7.cell 2 (v := .int .i64 q.1.tr) rfl
    have d3 := hS7.cell 3 (v := .slice pi q.1.init.length ci) rfl
    have d4 := hS7.cell 4 (v := .slice pt q.1.ths.length ct) rfl
    have HS7 := hid hS7
    clear hb7 hS7 e7 hvi7 hvt7 HWR
    have he0 : (re.err : Int) = 0 := by omega
    go_wp2_with fail
    refine HCK.out.mono ?_
    rintro e' w8 ⟨hres, hb8⟩
    have hS8 := HS7.out.below hb8
    have HA8 := hid (HA7.out.trans ((Agree.of_below (lo := W3.heap.size) hb8).sub (Nat.le_refl _) HZ7.out))
    have HB8 := hid (HB7.out.trans (hb8.mono HB7.out.size))
    have HZ8 := hid (Nat.le_trans HZ7.out hb8.size)
    have d0 := hS8.cell 0 (v := .int .i64 q.1.st) rfl
    have d1 := hS8.cell 1 (v := .int .i64 q.1.ck) rfl
    have d2 := hS8.cell 2 (v := .int .i64 q.1.tr) rfl
    have d3 := hS8.cell 3 (v := .slice pi q.1.init.length ci) rfl
    have d4 := hS8.cell 4 (v := .slice pt q.1.ths.length ct) rfl
    have z0 := hS8.free 0
    have z1 := hS8.free 1
    have z2 := hS8.free 2
    have z3 := hS8.free 3
    have z4 := hS8.free 4
    have HS8 := hid hS8
    clear hb8 hS8
    rcases hres with ⟨rfl, hgood⟩ | ⟨rfl, hng⟩
    · have HGD := hid hgood
      clear hgood
      go_wp2_with fail
      have hF := ((((HS8.out.set 0 (.int .i64 q.1.st)).set 1 (.int .i64 q.1.ck)).set 2 (.int .i64 q.1.tr)).set 3 (.slice pi q.1.init.length ci)).set 4 (.slice pt q.1.ths.length ct)
      have t0 := hF.cell 0 (v := .int .i64 q.1.st) rfl
      have t1 := hF.cell 1 (v := .int .i64 q.1.ck) rfl
      have t2 := hF.cell 2 (v := .int .i64 q.1.tr) rfl
      have t3 := hF.cell 3 (v := .slice pi q.1.init.length ci) rfl
      have t4 := hF.cell 4 (v := .slice pt q.1.ths.length ct) rfl
      refine bodyPost_ret (v := .tuple #[.agg #[.int .i64 q.1.st, .int .i64 q.1.ck, .int .i64 q.1.tr, .slice pi q.1.init.length ci, .slice pt q.1.ths.length ct], .int .i64 0, .int .i64 0]) (by simp [results, Try.results6, go_sem, t0, t1, t2, t3, t4]) rfl ?_
      rw [HQ.out]
      have hx : W.heap.size < W3.heap.size := HSB3.out.lt
      have hA9 := HA8.out.trans ((((((Agree.set (hi := w4.heap.size) (p := ⟨W.heap.size, 0, none⟩) (w := w8) (.int .i64 q.1.st) hx).trans (Agree.set ⟨W.heap.size, 1, none⟩ (.int .i64 q.1.ck) hx)).trans (Agree.set ⟨W.heap.size, 2, none⟩ (.int .i64 q.1.tr) hx)).trans (Agree.set ⟨W.heap.size, 3, none⟩ (.slice pi q.1.init.length ci) hx)).trans (Agree.set ⟨W.heap.size, 4, none⟩ (.slice pt q.1.ths.length ct) hx)))
      obtain ⟨vi7, vt7, e7, hvi7, hvt7⟩ := HV.out _ hA9
      obtain ⟨f1, f2⟩ : Value.slice pi q.1.init.length ci = vi7 ∧ Value.slice pt q.1.ths.length ct = vt7 := by simpa using e7
      subst f1 f2
      refine ⟨((((HB8.out.setCell (p := ⟨W.heap.size, 0, none⟩) (Nat.le_refl _) _).setCell (p := ⟨W.heap.size, 1, none⟩) (Nat.le_refl _) _).setCell (p := ⟨W.heap.size, 2, none⟩) (Nat.le_refl _) _).setCell (p := ⟨W.heap.size, 3, none⟩) (Nat.le_refl _) _).setCell (p := ⟨W.heap.size, 4, none⟩) (Nat.le_refl _) _, .inr (.inr ⟨he, HGD.out, _, _, rfl, hvi7, hvt7⟩)⟩
    · have HNG := hid hng
      have k5 : IntKind.i64.wrap ((s.size : Int) - (u.length : Int) - 4 + (u.length : Int)) = (s.size : Int) - (u.length : Int) - 4 + (u.length : Int) := IntWalk.i64_in _ (by have := HSZ.out; omega)
      clear hng
      go_wp2_with fail
      have hF := ((((HS8.out.set 0 (.int .i64 0)).set 1 (.int .i64 0)).set 2 (.int .i64 0)).set 3 (.slice none 0 0)).set 4 (.slice none 0 0)
      have t0 := hF.cell 0 (v := .int .i64 0) rfl
      have t1 := hF.cell 1 (v := .int .i64 0) rfl
      have t2 := hF.cell 2 (v := .int .i64 0) rfl
      have t3 := hF.cell 3 (v := .slice none 0 0) rfl
      have t4 := hF.cell 4 (v := .slice none 0 0) rfl
      refine bodyPost_ret (v := .tuple #[suZ, .int .i64 ((s.size : Int) - u.length - 4 + u.length), .int .i64 4]) (by simp [suZ, results, Try.results6, go_sem, t0, t1, t2, t3, t4]) rfl ?_
      rw [HQ.out]
      exact ⟨((((HB8.out.setCell (p := ⟨W.heap.size, 0, none⟩) (Nat.le_refl _) _).setCell (p := ⟨W.heap.size, 1, none⟩) (Nat.le_refl _) _).setCell (p := ⟨W.heap.size, 2, none⟩) (Nat.le_refl _) _).setCell (p := ⟨W.heap.size, 3, none⟩) (Nat.le_refl _) _).setCell (p := ⟨W.heap.size, 4, none⟩) (Nat.le_refl _) _, .inr (.inl ⟨he, HNG.out, rfl⟩)⟩
  · rw [if_neg he] at HWR
    have g1 : ((re.err : Int) != 0) = true := bne_iff_ne.2 (by omega)
    have g2 : (re.err != 0) = true := bne_iff_ne.2 he
    have k5 : IntKind.i64.wrap ((s.size : Int) - (u.length : Int) - 4 + (re.at_ : Int)) = (s.size : Int) - (u.length : Int) - 4 + (re.at_ : Int) := IntWalk.i64_in _ (by have := HSZ.out; have := HAT.out; omega)
    refine HWR.out.mono ?_
    rintro e' w7 ⟨rfl, hb7⟩
    have hS7 := HS6.out.below hb7
    have HB7 := hid (HB6.out.trans (hb7.mono HB6.out.size))
    have d0 := hS7.cell 0 (v := .int .i64 q.1.st) rfl
    have d1 := hS7.cell 1 (v := .int .i64 q.1.ck) rfl
    have d2 := hS7.cell 2 (v := .int .i64 q.1.tr) rfl
    have d3 := hS7.cell 3 (v := .slice pi q.1.init.length ci) rfl
    have d4 := hS7.cell 4 (v := .slice pt q.1.ths.length ct) rfl
    have z0 := hS7.free 0
    have z1 := hS7.free 1
    have z2 := hS7.free 2
    have z3 := hS7.free 3
    have z4 := hS7.free 4
    have HS7 := hid hS7
    have HE := hid he
    clear hb7 hS7 HWR he
    go_wp2_with fail
    have hF := ((((HS7.out.set 0 (.int .i64 0)).set 1 (.int .i64 0)).set 2 (.int .i64 0)).set 3 (.slice none 0 0)).set 4 (.slice none 0 0)
    have t0 := hF.cell 0 (v := .int .i64 0) rfl
    have t1 := hF.cell 1 (v := .int .i64 0) rfl
    have t2 := hF.cell 2 (v := .int .i64 0) rfl
    have t3 := hF.cell 3 (v := .slice none 0 0) rfl
    have t4 := hF.cell 4 (v := .slice none 0 0) rfl
    refine bodyPost_ret (v := .tuple #[suZ, .int .i64 ((s.size : Int) - u.length - 4 + re.at_), .int .i64 (re.err : Int)]) (by simp [suZ, results, Try.results6, go_sem, t0, t1, t2, t3, t4]) rfl ?_
    rw [HQ.out]
    exact ⟨((((HB7.out.setCell (p := ⟨W.heap.size, 0, none⟩) (Nat.le_refl _) _).setCell (p := ⟨W.heap.size, 1, none⟩) (Nat.le_refl _) _).setCell (p := ⟨W.heap.size, 2, none⟩) (Nat.le_refl _) _).setCell (p := ⟨W.heap.size, 3, none⟩) (Nat.le_refl _) _).setCell (p := ⟨W.heap.size, 4, none⟩) (Nat.le_refl _) _, .inl ⟨HE.out, rfl⟩⟩
end Go.Proofs.Ytaklfjjkeebheaa
