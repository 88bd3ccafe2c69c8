/-
  Walk: the law EventBack.
-/
import Derived.Test.YtlbpollckiidlaaDoorEvW6
namespace Go.Proofs.YtlbpollckiidlaaDoor
set_option linter.unusedVariables false
set_option linter.unusedSimpArgs false
open Go Go.RowKit
theorem foldPut_ok : ∀ (fs : List FuncId) (ns : List Int) (e : Ev), EvOk e → (∀ n ∈ ns, -9223372036854775808 ≤ n ∧ n ≤ 9223372036854775807) → EvOk (foldPut e fs ns)
  | [], _, _, h, _ => h
  | _ :: _, [], _, h, _ => h
  | f :: fs, n :: ns, e, h, hn => foldPut_ok fs ns (putF e f n) (putF_ok h (hn n (by simp))) (fun m hm => hn m (by simp [hm]))
theorem okOf_bounds {t : List UInt8} {v : Int} (h : okOf (Lib.atoiAll t) = some v) : -9223372036854775808 ≤ v ∧ v ≤ 9223372036854775807 := by
  cases hr : Lib.atoiAll t with
  | ok u => rw [hr] at h; simp only [okOf, Option.some.injEq] at h; subst h; exact Lib.atoiAll_bounds hr
  | _ => rw [hr] at h; simp [okOf] at h
theorem numsOf_bounds : ∀ {T : List (List UInt8)} {ns : List Int}, numsOf T = some ns → ∀ n ∈ ns, -9223372036854775808 ≤ n ∧ n ≤ 9223372036854775807
  | [], ns, h, n, hn => by simp only [numsOf, Option.some.injEq] at h; subst h; simp at hn
  | t :: T, ns, h, n, hn => by
    unfold numsOf at h
    split at h
    · rename_i v l h1 h2
      simp only [Option.some.injEq] at h
      subst h
      rcases List.mem_cons.1 hn with rfl | hn
      · exact okOf_bounds h1
      · exact numsOf_bounds h2 n hn
    · cases h
theorem kindOf_lt {t : List UInt8} {k : Nat} (h : kindOf t = some k) : k < 14 := by
  have := kindOf_is h; omega
theorem parseE_ok {L : List UInt8} {e : Ev} (h : parseE L = some e) : EvOk e := by
  unfold parseE at h
  split at h
  · split at h
    · rename_i t0 t1 rest _ k th h1 h2
      split at h
      · obtain ⟨ns, h3, rfl⟩ := Option.map_eq_some_iff.1 h
        have hk := kindOf_lt h1
        have ht := okOf_bounds h2
        exact foldPut_ok _ _ _ ⟨by dsimp only; omega, ht, by dsimp only; omega, by dsimp only; omega, by dsimp only; omega, by dsimp only; omega, by dsimp only; omega⟩ (numsOf_bounds h3)
      · cases h
    · cases h
  · cases h
theorem evZ_ok : EvOk evZ := by unfold EvOk evZ; dsimp only; omega
theorem parseR_evok (L : List UInt8) : EvOk (parseR L).1 := by
  unfold parseR
  split
  · rename_i e h
    split
    · exact parseE_ok h
    · exact evZ_ok
  · exact evZ_ok
theorem showT_len' (e : Ev) (he : EvOk e) (hm : mayT e = true) : (showT e).length ≤ 1000 := by
  obtain ⟨hk, hth, -⟩ := mayT_of hm
  have hl : ∀ n : Int, -9223372036854775808 ≤ n → n ≤ 9223372036854775807 → (Lib.itoa n).length ≤ 21 := Lib.itoa_length_le
  have hn : (kindName e.kind).length ≤ 6 := by
    have : ∀ a : Fin 14, (kindNames.getD a.val []).length ≤ 6 := by decide
    exact this ⟨e.kind.toNat, by omega⟩
  have hp := parts_ok (e := e) ⟨he.2.2.1, he.2.2.2.1, he.2.2.2.2.1, he.2.2.2.2.2.1, he.2.2.2.2.2.2⟩
  have h1 := hl e.th (by omega) (by omega)
  have hpl : (partsE e).length ≤ 2 := by
    unfold partsE
    repeat' split
    all_goals simp
  unfold showT
  generalize partsE e = l at hp hpl
  match l, hpl with
  | [], _ => simp [Lib.join_length, Lib.lens]; omega
  | [a], _ =>
    have ha := hl a (hp a (by simp)).1 (hp a (by simp)).2
    simp [Lib.join_length, Lib.lens]; omega
  | [a, b], _ =>
    have ha := hl a (hp a (by simp)).1 (hp a (by simp)).2
    have hb := hl b (hp b (by simp)).1 (hp b (by simp)).2
    simp [Lib.join_length, Lib.lens]; omega
set_option maxRecDepth 100000 in
set_option maxHeartbeats 4000000 in
theorem back_long (e : Ev) (L : List UInt8) (w : World) (hS : Std w) (hl : L.length ≤ 9223372036854775807) (h : 300 < L.length) :
    Calls Tryd.prog 4 #[evA e, .string ⟨L.toArray⟩] w fun e' w' => e' = .returned (.bool true) ∧ Below w.heap.size w w' := by
  have HA := hid (fun W (hW : Below w.heap.size w W) => awake_any W (hS.below hW))
  have hsz : (⟨L.toArray⟩ : ByteArray).size = L.length := by show L.toArray.size = _; simp
  generalize (⟨L.toArray⟩ : ByteArray) = b at hsz ⊢
  obtain ⟨ekind, eth, etx, eat, ev, ex, ewhy⟩ := e
  clear hS
  dsimp only [evA]
  have HB : Hid (Below w.heap.size w (w.alloc (.cells #[.int .u8 ekind, .int .i64 eth, .int .i64 etx, .int .i64 eat, .int .i64 ev, .int .i64 ex, .int .u8 ewhy] 23))) := hid (ext_alloc (ext_refl _) _)
  go_enter Tryd.func4, Tryd.ntmps4
  go_wp2_with fail
  refine (HA.out _ HB.out).mono ?_
  rintro e' w2 ⟨rfl, hb2⟩
  have HB2 := hid (ext_trans HB.out hb2)
  go_wp2_with fail
  go_ret
  exact ⟨rfl, HB2.out⟩
set_option maxRecDepth 100000 in
set_option maxHeartbeats 4000000 in
theorem back_1 (e : Ev) (L : List UInt8) (w : World) (he : EvOk e) (hS : Std w) (h : L.length ≤ 300) (hm : mayT e = true) (g : Ev) (hp : parseR L = (g, 0)) (hg : mayT g = true ∧ showT g = L ∧ EvOk g) :
    Calls Tryd.prog 4 #[evA e, .string ⟨L.toArray⟩] w fun e' w' => e' = .returned (.bool true) ∧ Below w.heap.size w w' := by
  have HA := hid (fun W (hW : Below w.heap.size w W) => awake_any W (hS.below hW))
  have HE := hid (fun W (hW : Below w.heap.size w W) => show_any e W he (hS.below hW))
  have HM := hid (fun W (hW : Below w.heap.size w W) => may_any e 6 32 32 W he (hS.kinds.below hW))
  have HP := hid (fun W (hW : Below w.heap.size w W) => parse_any L (by omega) W (hS.below hW))
  unfold ParseP at HP
  rw [hp] at HP
  rw [show mayE e 6 32 32 = true from hm] at HM
  have HQ := hid (fun W (hW : Below w.heap.size w W) => parse_any (showT e) (showT_len' e he hm) W (hS.below hW))
  unfold ParseP at HQ
  rw [parseR_show he hm] at HQ
  have e1 : showR e = (showT e, 0) := by unfold showR; rw [hm]; rfl
  rw [e1] at HE
  generalize showT e = se at HE HQ
  obtain ⟨g1, g2, g3⟩ := hg
  have HG := hid (fun W (hW : Below w.heap.size w W) => show_any g W g3 (hS.below hW))
  have e2 : showR g = (L, 0) := by unfold showR; rw [if_pos g1, g2]
  rw [e2] at HG
  clear g1 g2 g3 e2
  obtain ⟨gkind, gth, gtx, gat, gv, gx, gwhy⟩ := g
  obtain ⟨ekind, eth, etx, eat, ev, ex, ewhy⟩ := e
  have hsz : (⟨L.toArray⟩ : ByteArray).size = L.length := by show L.toArray.size = _; simp
  have hsz2 : ((⟨L.toArray⟩ : ByteArray).size : Int) ≤ 300 := by rw [hsz]; omega
  clear he hS hp e1 hsz hm
  dsimp only [evA, evZ, strV] at HE HP HQ HG ⊢
  have HB : Hid (Below w.heap.size w (w.alloc (.cells #[.int .u8 ekind, .int .i64 eth, .int .i64 etx, .int .i64 eat, .int .i64 ev, .int .i64 ex, .int .u8 ewhy] 23))) := hid (ext_alloc (ext_refl _) _)
  have B1 : Hid (Blk (w.alloc (.cells #[.int .u8 ekind, .int .i64 eth, .int .i64 etx, .int .i64 eat, .int .i64 ev, .int .i64 ex, .int .u8 ewhy] 23)) w.heap.size #[.int .u8 ekind, .int .i64 eth, .int .i64 etx, .int .i64 eat, .int .i64 ev, .int .i64 ex, .int .u8 ewhy] 23) := hid (Blk.new _ _ _)
  go_enter Tryd.func4, Tryd.ntmps4
  go_wp2_with fail
  refine (HA.out _ HB.out).mono ?_
  rintro e' w2 ⟨rfl, hb2⟩
  have HB2 := hid (ext_trans HB.out hb2)
  have r0 := later hb2 (B1.out.cell 0 rfl)
  have r1 := later hb2 (B1.out.cell 1 rfl)
  have r2 := later hb2 (B1.out.cell 2 rfl)
  have r3 := later hb2 (B1.out.cell 3 rfl)
  have r4 := later hb2 (B1.out.cell 4 rfl)
  have r5 := later hb2 (B1.out.cell 5 rfl)
  have r6 := later hb2 (B1.out.cell 6 rfl)
  clear hb2
  go_wp2_with fail
  refine (HE.out _ HB2.out).mono ?_
  rintro e' w3 ⟨rfl, hb3⟩
  have HB3 := hid (ext_trans HB2.out hb3)
  have s0 := later hb3 r0
  have s1 := later hb3 r1
  have s2 := later hb3 r2
  have s3 := later hb3 r3
  have s4 := later hb3 r4
  have s5 := later hb3 r5
  have s6 := later hb3 r6
  clear hb3 r0 r1 r2 r3 r4 r5 r6
  go_wp2_with fail
  refine (HM.out _ HB3.out).mono ?_
  rintro e' w4 ⟨rfl, hb4⟩
  have HB4 := hid (ext_trans HB3.out hb4)
  have r0 := later hb4 s0
  have r1 := later hb4 s1
  have r2 := later hb4 s2
  have r3 := later hb4 s3
  have r4 := later hb4 s4
  have r5 := later hb4 s5
  have r6 := later hb4 s6
  clear hb4 s0 s1 s2 s3 s4 s5 s6
  go_wp2_with fail
  refine (HQ.out _ HB4.out).mono ?_
  rintro e' w5 ⟨rfl, hb5⟩
  have HB5 := hid (ext_trans HB4.out hb5)
  have s0 := later hb5 r0
  have s1 := later hb5 r1
  have s2 := later hb5 r2
  have s3 := later hb5 r3
  have s4 := later hb5 r4
  have s5 := later hb5 r5
  have s6 := later hb5 r6
  clear hb5 r0 r1 r2 r3 r4 r5 r6
  have HB5' := hid (ext_alloc HB5.out (.cells #[.int .u8 ekind, .int .i64 eth, .int .i64 etx, .int .i64 eat, .int .i64 ev, .int .i64 ex, .int .u8 ewhy] 23))
  have r0 := cell_alloc (x := .cells #[.int .u8 ekind, .int .i64 eth, .int .i64 etx, .int .i64 eat, .int .i64 ev, .int .i64 ex, .int .u8 ewhy] 23) s0
  have r1 := cell_alloc (x := .cells #[.int .u8 ekind, .int .i64 eth, .int .i64 etx, .int .i64 eat, .int .i64 ev, .int .i64 ex, .int .u8 ewhy] 23) s1
  have r2 := cell_alloc (x := .cells #[.int .u8 ekind, .int .i64 eth, .int .i64 etx, .int .i64 eat, .int .i64 ev, .int .i64 ex, .int .u8 ewhy] 23) s2
  have r3 := cell_alloc (x := .cells #[.int .u8 ekind, .int .i64 eth, .int .i64 etx, .int .i64 eat, .int .i64 ev, .int .i64 ex, .int .u8 ewhy] 23) s3
  have r4 := cell_alloc (x := .cells #[.int .u8 ekind, .int .i64 eth, .int .i64 etx, .int .i64 eat, .int .i64 ev, .int .i64 ex, .int .u8 ewhy] 23) s4
  have r5 := cell_alloc (x := .cells #[.int .u8 ekind, .int .i64 eth, .int .i64 etx, .int .i64 eat, .int .i64 ev, .int .i64 ex, .int .u8 ewhy] 23) s5
  have r6 := cell_alloc (x := .cells #[.int .u8 ekind, .int .i64 eth, .int .i64 etx, .int .i64 eat, .int .i64 ev, .int .i64 ex, .int .u8 ewhy] 23) s6
  clear s0 s1 s2 s3 s4 s5 s6
  go_wp2_with fail
  refine (HP.out _ HB5'.out).mono ?_
  rintro e' w6 ⟨rfl, hb6⟩
  have HB6 := hid (ext_trans HB5'.out hb6)
  clear hb6 r0 r1 r2 r3 r4 r5 r6
  have HB6' := hid (ext_alloc HB6.out (.cells #[.int .u8 gkind, .int .i64 gth, .int .i64 gtx, .int .i64 gat, .int .i64 gv, .int .i64 gx, .int .u8 gwhy] 23))
  go_wp2_with fail
  refine (HG.out _ HB6'.out).mono ?_
  rintro e' w7 ⟨rfl, hb7⟩
  have HB7 := hid (ext_trans HB6'.out hb7)
  go_wp2_with fail
  go_ret
  exact ⟨by simp, HB7.out⟩
set_option maxRecDepth 100000 in
set_option maxHeartbeats 4000000 in
theorem back_2 (e : Ev) (L : List UInt8) (w : World) (he : EvOk e) (hS : Std w) (h : L.length ≤ 300) (hm : mayT e = true) (g : Ev) (hp : parseR L = (g, 4)) (hg : g = evZ) :
    Calls Tryd.prog 4 #[evA e, .string ⟨L.toArray⟩] w fun e' w' => e' = .returned (.bool true) ∧ Below w.heap.size w w' := by
  have HA := hid (fun W (hW : Below w.heap.size w W) => awake_any W (hS.below hW))
  have HE := hid (fun W (hW : Below w.heap.size w W) => show_any e W he (hS.below hW))
  have HM := hid (fun W (hW : Below w.heap.size w W) => may_any e 6 32 32 W he (hS.kinds.below hW))
  have HP := hid (fun W (hW : Below w.heap.size w W) => parse_any L (by omega) W (hS.below hW))
  unfold ParseP at HP
  rw [hp] at HP
  rw [show mayE e 6 32 32 = true from hm] at HM
  have HQ := hid (fun W (hW : Below w.heap.size w W) => parse_any (showT e) (showT_len' e he hm) W (hS.below hW))
  unfold ParseP at HQ
  rw [parseR_show he hm] at HQ
  have e1 : showR e = (showT e, 0) := by unfold showR; rw [hm]; rfl
  rw [e1] at HE
  generalize showT e = se at HE HQ
  subst hg
  obtain ⟨ekind, eth, etx, eat, ev, ex, ewhy⟩ := e
  have hsz : (⟨L.toArray⟩ : ByteArray).size = L.length := by show L.toArray.size = _; simp
  have hsz2 : ((⟨L.toArray⟩ : ByteArray).size : Int) ≤ 300 := by rw [hsz]; omega
  clear he hS hp e1 hsz hm
  dsimp only [evA, evZ, strV] at HE HP HQ ⊢
  have HB : Hid (Below w.heap.size w (w.alloc (.cells #[.int .u8 ekind, .int .i64 eth, .int .i64 etx, .int .i64 eat, .int .i64 ev, .int .i64 ex, .int .u8 ewhy] 23))) := hid (ext_alloc (ext_refl _) _)
  have B1 : Hid (Blk (w.alloc (.cells #[.int .u8 ekind, .int .i64 eth, .int .i64 etx, .int .i64 eat, .int .i64 ev, .int .i64 ex, .int .u8 ewhy] 23)) w.heap.size #[.int .u8 ekind, .int .i64 eth, .int .i64 etx, .int .i64 eat, .int .i64 ev, .int .i64 ex, .int .u8 ewhy] 23) := hid (Blk.new _ _ _)
  go_enter Tryd.func4, Tryd.ntmps4
  go_wp2_with fail
  refine (HA.out _ HB.out).mono ?_
  rintro e' w2 ⟨rfl, hb2⟩
  have HB2 := hid (ext_trans HB.out hb2)
  have r0 := later hb2 (B1.out.cell 0 rfl)
  have r1 := later hb2 (B1.out.cell 1 rfl)
  have r2 := later hb2 (B1.out.cell 2 rfl)
  have r3 := later hb2 (B1.out.cell 3 rfl)
  have r4 := later hb2 (B1.out.cell 4 rfl)
  have r5 := later hb2 (B1.out.cell 5 rfl)
  have r6 := later hb2 (B1.out.cell 6 rfl)
  clear hb2
  go_wp2_with fail
  refine (HE.out _ HB2.out).mono ?_
  rintro e' w3 ⟨rfl, hb3⟩
  have HB3 := hid (ext_trans HB2.out hb3)
  have s0 := later hb3 r0
  have s1 := later hb3 r1
  have s2 := later hb3 r2
  have s3 := later hb3 r3
  have s4 := later hb3 r4
  have s5 := later hb3 r5
  have s6 := later hb3 r6
  clear hb3 r0 r1 r2 r3 r4 r5 r6
  go_wp2_with fail
  refine (HM.out _ HB3.out).mono ?_
  rintro e' w4 ⟨rfl, hb4⟩
  have HB4 := hid (ext_trans HB3.out hb4)
  have r0 := later hb4 s0
  have r1 := later hb4 s1
  have r2 := later hb4 s2
  have r3 := later hb4 s3
  have r4 := later hb4 s4
  have r5 := later hb4 s5
  have r6 := later hb4 s6
  clear hb4 s0 s1 s2 s3 s4 s5 s6
  go_wp2_with fail
  refine (HQ.out _ HB4.out).mono ?_
  rintro e' w5 ⟨rfl, hb5⟩
  have HB5 := hid (ext_trans HB4.out hb5)
  have s0 := later hb5 r0
  have s1 := later hb5 r1
  have s2 := later hb5 r2
  have s3 := later hb5 r3
  have s4 := later hb5 r4
  have s5 := later hb5 r5
  have s6 := later hb5 r6
  clear hb5 r0 r1 r2 r3 r4 r5 r6
  have HB5' := hid (ext_alloc HB5.out (.cells #[.int .u8 ekind, .int .i64 eth, .int .i64 etx, .int .i64 eat, .int .i64 ev, .int .i64 ex, .int .u8 ewhy] 23))
  have r0 := cell_alloc (x := .cells #[.int .u8 ekind, .int .i64 eth, .int .i64 etx, .int .i64 eat, .int .i64 ev, .int .i64 ex, .int .u8 ewhy] 23) s0
  have r1 := cell_alloc (x := .cells #[.int .u8 ekind, .int .i64 eth, .int .i64 etx, .int .i64 eat, .int .i64 ev, .int .i64 ex, .int .u8 ewhy] 23) s1
  have r2 := cell_alloc (x := .cells #[.int .u8 ekind, .int .i64 eth, .int .i64 etx, .int .i64 eat, .int .i64 ev, .int .i64 ex, .int .u8 ewhy] 23) s2
  have r3 := cell_alloc (x := .cells #[.int .u8 ekind, .int .i64 eth, .int .i64 etx, .int .i64 eat, .int .i64 ev, .int .i64 ex, .int .u8 ewhy] 23) s3
  have r4 := cell_alloc (x := .cells #[.int .u8 ekind, .int .i64 eth, .int .i64 etx, .int .i64 eat, .int .i64 ev, .int .i64 ex, .int .u8 ewhy] 23) s4
  have r5 := cell_alloc (x := .cells #[.int .u8 ekind, .int .i64 eth, .int .i64 etx, .int .i64 eat, .int .i64 ev, .int .i64 ex, .int .u8 ewhy] 23) s5
  have r6 := cell_alloc (x := .cells #[.int .u8 ekind, .int .i64 eth, .int .i64 etx, .int .i64 eat, .int .i64 ev, .int .i64 ex, .int .u8 ewhy] 23) s6
  clear s0 s1 s2 s3 s4 s5 s6
  go_wp2_with fail
  refine (HP.out _ HB5'.out).mono ?_
  rintro e' w6 ⟨rfl, hb6⟩
  have HB6 := hid (ext_trans HB5'.out hb6)
  clear hb6 r0 r1 r2 r3 r4 r5 r6
  have HB6' := hid (ext_alloc HB6.out (.cells #[.int .u8 0, .int .i64 0, .int .i64 0, .int .i64 0, .int .i64 0, .int .i64 0, .int .u8 0] 23))
  go_wp2_with fail
  go_ret
  exact ⟨rfl, HB6'.out⟩
set_option maxRecDepth 100000 in
set_option maxHeartbeats 4000000 in
theorem back_3 (e : Ev) (L : List UInt8) (w : World) (he : EvOk e) (hS : Std w) (h : L.length ≤ 300) (hm : mayT e = false) (g : Ev) (hp : parseR L = (g, 0)) (hg : mayT g = true ∧ showT g = L ∧ EvOk g) :
    Calls Tryd.prog 4 #[evA e, .string ⟨L.toArray⟩] w fun e' w' => e' = .returned (.bool true) ∧ Below w.heap.size w w' := by
  have HA := hid (fun W (hW : Below w.heap.size w W) => awake_any W (hS.below hW))
  have HE := hid (fun W (hW : Below w.heap.size w W) => show_any e W he (hS.below hW))
  have HM := hid (fun W (hW : Below w.heap.size w W) => may_any e 6 32 32 W he (hS.kinds.below hW))
  have HP := hid (fun W (hW : Below w.heap.size w W) => parse_any L (by omega) W (hS.below hW))
  unfold ParseP at HP
  rw [hp] at HP
  rw [show mayE e 6 32 32 = false from hm] at HM
  have e1 : showR e = ([], 4) := by unfold showR; rw [hm]; rfl
  rw [e1] at HE
  obtain ⟨g1, g2, g3⟩ := hg
  have HG := hid (fun W (hW : Below w.heap.size w W) => show_any g W g3 (hS.below hW))
  have e2 : showR g = (L, 0) := by unfold showR; rw [if_pos g1, g2]
  rw [e2] at HG
  clear g1 g2 g3 e2
  obtain ⟨gkind, gth, gtx, gat, gv, gx, gwhy⟩ := g
  obtain ⟨ekind, eth, etx, eat, ev, ex, ewhy⟩ := e
  have hsz : (⟨L.toArray⟩ : ByteArray).size = L.length := by show L.toArray.size = _; simp
  have hsz2 : ((⟨L.toArray⟩ : ByteArray).size : Int) ≤ 300 := by rw [hsz]; omega
  clear he hS hp e1 hsz hm
  dsimp only [evA, evZ, strV] at HE HP HG ⊢
  have HB : Hid (Below w.heap.size w (w.alloc (.cells #[.int .u8 ekind, .int .i64 eth, .int .i64 etx, .int .i64 eat, .int .i64 ev, .int .i64 ex, .int .u8 ewhy] 23))) := hid (ext_alloc (ext_refl _) _)
  have B1 : Hid (Blk (w.alloc (.cells #[.int .u8 ekind, .int .i64 eth, .int .i64 etx, .int .i64 eat, .int .i64 ev, .int .i64 ex, .int .u8 ewhy] 23)) w.heap.size #[.int .u8 ekind, .int .i64 eth, .int .i64 etx, .int .i64 eat, .int .i64 ev, .int .i64 ex, .int .u8 ewhy] 23) := hid (Blk.new _ _ _)
  go_enter Tryd.func4, Tryd.ntmps4
  go_wp2_with fail
  refine (HA.out _ HB.out).mono ?_
  rintro e' w2 ⟨rfl, hb2⟩
  have HB2 := hid (ext_trans HB.out hb2)
  have r0 := later hb2 (B1.out.cell 0 rfl)
  have r1 := later hb2 (B1.out.cell 1 rfl)
  have r2 := later hb2 (B1.out.cell 2 rfl)
  have r3 := later hb2 (B1.out.cell 3 rfl)
  have r4 := later hb2 (B1.out.cell 4 rfl)
  have r5 := later hb2 (B1.out.cell 5 rfl)
  have r6 := later hb2 (B1.out.cell 6 rfl)
  clear hb2
  go_wp2_with fail
  refine (HE.out _ HB2.out).mono ?_
  rintro e' w3 ⟨rfl, hb3⟩
  have HB3 := hid (ext_trans HB2.out hb3)
  have s0 := later hb3 r0
  have s1 := later hb3 r1
  have s2 := later hb3 r2
  have s3 := later hb3 r3
  have s4 := later hb3 r4
  have s5 := later hb3 r5
  have s6 := later hb3 r6
  clear hb3 r0 r1 r2 r3 r4 r5 r6
  go_wp2_with fail
  refine (HM.out _ HB3.out).mono ?_
  rintro e' w4 ⟨rfl, hb4⟩
  have HB4 := hid (ext_trans HB3.out hb4)
  have r0 := later hb4 s0
  have r1 := later hb4 s1
  have r2 := later hb4 s2
  have r3 := later hb4 s3
  have r4 := later hb4 s4
  have r5 := later hb4 s5
  have r6 := later hb4 s6
  clear hb4 s0 s1 s2 s3 s4 s5 s6
  go_wp2_with fail
  refine (HP.out _ HB4.out).mono ?_
  rintro e' w6 ⟨rfl, hb6⟩
  have HB6 := hid (ext_trans HB4.out hb6)
  clear hb6 r0 r1 r2 r3 r4 r5 r6
  have HB6' := hid (ext_alloc HB6.out (.cells #[.int .u8 gkind, .int .i64 gth, .int .i64 gtx, .int .i64 gat, .int .i64 gv, .int .i64 gx, .int .u8 gwhy] 23))
  go_wp2_with fail
  refine (HG.out _ HB6'.out).mono ?_
  rintro e' w7 ⟨rfl, hb7⟩
  have HB7 := hid (ext_trans HB6'.out hb7)
  go_wp2_with fail
  go_ret
  exact ⟨by simp, HB7.out⟩
set_option maxRecDepth 100000 in
set_option maxHeartbeats 4000000 in
theorem back_4 (e : Ev) (L : List UInt8) (w : World) (he : EvOk e) (hS : Std w) (h : L.length ≤ 300) (hm : mayT e = false) (g : Ev) (hp : parseR L = (g, 4)) (hg : g = evZ) :
    Calls Tryd.prog 4 #[evA e, .string ⟨L.toArray⟩] w fun e' w' => e' = .returned (.bool true) ∧ Below w.heap.size w w' := by
  have HA := hid (fun W (hW : Below w.heap.size w W) => awake_any W (hS.below hW))
  have HE := hid (fun W (hW : Below w.heap.size w W) => show_any e W he (hS.below hW))
  have HM := hid (fun W (hW : Below w.heap.size w W) => may_any e 6 32 32 W he (hS.kinds.below hW))
  have HP := hid (fun W (hW : Below w.heap.size w W) => parse_any L (by omega) W (hS.below hW))
  unfold ParseP at HP
  rw [hp] at HP
  rw [show mayE e 6 32 32 = false from hm] at HM
  have e1 : showR e = ([], 4) := by unfold showR; rw [hm]; rfl
  rw [e1] at HE
  subst hg
  obtain ⟨ekind, eth, etx, eat, ev, ex, ewhy⟩ := e
  have hsz : (⟨L.toArray⟩ : ByteArray).size = L.length := by show L.toArray.size = _; simp
  have hsz2 : ((⟨L.toArray⟩ : ByteArray).size : Int) ≤ 300 := by rw [hsz]; omega
  clear he hS hp e1 hsz hm
  dsimp only [evA, evZ, strV] at HE HP ⊢
  have HB : Hid (Below w.heap.size w (w.alloc (.cells #[.int .u8 ekind, .int .i64 eth, .int .i64 etx, .int .i64 eat, .int .i64 ev, .int .i64 ex, .int .u8 ewhy] 23))) := hid (ext_alloc (ext_refl _) _)
  have B1 : Hid (Blk (w.alloc (.cells #[.int .u8 ekind, .int .i64 eth, .int .i64 etx, .int .i64 eat, .int .i64 ev, .int .i64 ex, .int .u8 ewhy] 23)) w.heap.size #[.int .u8 ekind, .int .i64 eth, .int .i64 etx, .int .i64 eat, .int .i64 ev, .int .i64 ex, .int .u8 ewhy] 23) := hid (Blk.new _ _ _)
  go_enter Tryd.func4, Tryd.ntmps4
  go_wp2_with fail
  refine (HA.out _ HB.out).mono ?_
  rintro e' w2 ⟨rfl, hb2⟩
  have HB2 := hid (ext_trans HB.out hb2)
  have r0 := later hb2 (B1.out.cell 0 rfl)
  have r1 := later hb2 (B1.out.cell 1 rfl)
  have r2 := later hb2 (B1.out.cell 2 rfl)
  have r3 := later hb2 (B1.out.cell 3 rfl)
  have r4 := later hb2 (B1.out.cell 4 rfl)
  have r5 := later hb2 (B1.out.cell 5 rfl)
  have r6 := later hb2 (B1.out.cell 6 rfl)
  clear hb2
  go_wp2_with fail
  refine (HE.out _ HB2.out).mono ?_
  rintro e' w3 ⟨rfl, hb3⟩
  have HB3 := hid (ext_trans HB2.out hb3)
  have s0 := later hb3 r0
  have s1 := later hb3 r1
  have s2 := later hb3 r2
  have s3 := later hb3 r3
  have s4 := later hb3 r4
  have s5 := later hb3 r5
  have s6 := later hb3 r6
  clear hb3 r0 r1 r2 r3 r4 r5 r6
  go_wp2_with fail
  refine (HM.out _ HB3.out).mono ?_
  rintro e' w4 ⟨rfl, hb4⟩
  have HB4 := hid (ext_trans HB3.out hb4)
  have r0 := later hb4 s0
  have r1 := later hb4 s1
  have r2 := later hb4 s2
  have r3 := later hb4 s3
  have r4 := later hb4 s4
  have r5 := later hb4 s5
  have r6 := later hb4 s6
  clear hb4 s0 s1 s2 s3 s4 s5 s6
  go_wp2_with fail
  refine (HP.out _ HB4.out).mono ?_
  rintro e' w6 ⟨rfl, hb6⟩
  have HB6 := hid (ext_trans HB4.out hb6)
  clear hb6 r0 r1 r2 r3 r4 r5 r6
  have HB6' := hid (ext_alloc HB6.out (.cells #[.int .u8 0, .int .i64 0, .int .i64 0, .int .i64 0, .int .i64 0, .int .i64 0, .int .u8 0] 23))
  go_wp2_with fail
  go_ret
  exact ⟨rfl, HB6'.out⟩
theorem back_any (e : Ev) (L : List UInt8) (w : World) (he : EvOk e) (hl : L.length ≤ 9223372036854775807) (hS : Std w) :
    Calls Tryd.prog 4 #[evA e, .string ⟨L.toArray⟩] w fun e' w' => e' = .returned (.bool true) ∧ Below w.heap.size w w' := by
  by_cases h : 300 < L.length
  · exact back_long e L w hS hl h
  have h' : L.length ≤ 300 := by omega
  obtain ⟨⟨g, x⟩, hp⟩ : ∃ gx, parseR L = gx := ⟨_, rfl⟩
  have hg := parseR_evok L
  rw [hp] at hg
  rcases parseR_ok hp with ⟨rfl, h1, h2⟩ | ⟨rfl, h1⟩
  · cases hm : mayT e
    · exact back_3 e L w he hS h' hm g hp ⟨h1, h2, hg⟩
    · exact back_1 e L w he hS h' hm g hp ⟨h1, h2, hg⟩
  · cases hm : mayT e
    · exact back_4 e L w he hS h' hm g hp h1
    · exact back_2 e L w he hS h' hm g hp h1
end Go.Proofs.YtlbpollckiidlaaDoor
