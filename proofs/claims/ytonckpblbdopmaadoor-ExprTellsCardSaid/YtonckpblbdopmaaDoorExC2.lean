/-
  Copy of expressions, walked: the same expression in new memory.
-/
import Derived.Test.YtonckpblbdopmaaDoorExC1
import Derived.Deep.RegionHeld3
namespace Go.Proofs.YtonckpblbdopmaaDoor
set_option linter.unusedVariables false
open Go Go.RowKit

/-- From block lo on, below block hi, both worlds hold the same. -/
def Agree (lo hi : Nat) (w w' : World) : Prop := ∀ b, lo ≤ b → b < hi → w'.heap[b]? = w.heap[b]?
theorem Agree.sub {lo hi lo' hi' : Nat} {w w' : World} (h : Agree lo hi w w') (h1 : lo ≤ lo') (h2 : hi' ≤ hi) : Agree lo' hi' w w' := fun b hb hc => h b (by omega) (by omega)
theorem Agree.trans {lo hi : Nat} {a b c : World} (h : Agree lo hi a b) (k : Agree lo hi b c) : Agree lo hi a c := fun x h1 h2 => (k x h1 h2).trans (h x h1 h2)
theorem Agree.of_below {lo : Nat} {w w' : World} (h : Below w.heap.size w w') : Agree lo w.heap.size w w' := fun b _ hb => h.block b hb
theorem Agree.set {lo hi : Nat} {w : World} (p : Addr) (v : Value) (h : p.block < lo) : Agree lo hi w (w.setCell p v) := fun b hb _ => Below.heap_setCell w p v b (by omega)
theorem Agree.refl (lo hi : Nat) (w : World) : Agree lo hi w w := fun _ _ _ => rfl
theorem Blk.agree {lo hi : Nat} {w w' : World} {b : Nat} {cs : Array Value} {t : TypeId} (h : Blk w b cs t) (ha : Agree lo hi w w') (h1 : lo ≤ b) (h2 : b < hi) : Blk w' b cs t := (ha b h1 h2).trans h

theorem sizeL_length (l : List Ex) : l.length ≤ sizeL l := by
  induction l with
  | nil => simp [sizeL]
  | cons x xs ih => have := sizeE_pos x; simp [sizeL]; omega

/-- What Copy hands back: the same expression, all of it in blocks of its own. -/
def CopyOf (w : World) (e : Ex) (en : Ending) (w' : World) : Prop :=
  ∃ a cap, en = .returned (.agg #[.int .u8 e.op, .int .i64 e.n, .slice a e.args.length cap]) ∧ Below w.heap.size w w' ∧
    (∀ w'', Agree w.heap.size w'.heap.size w' w'' → RdEx w'' e (.int .u8 e.op) (.int .i64 e.n) (.slice a e.args.length cap)) ∧
    (e.args ≠ [] → ∃ g cells, a = some ⟨g, 0, none⟩ ∧ w.heap.size ≤ g ∧ Blk w' g cells 29 ∧ e.args.length * 3 ≤ cells.size)

/-- A row half copied: from place k on the old parts, ahead of it the copies. -/
def Half (w : World) (args : List Ex) (g : Nat) (cells : Array Value) (k : Nat) (wr : World) : Prop :=
  (∀ j (h : j < args.length), k ≤ j → ∃ a cap, cells[j * 3]? = some (.int .u8 args[j].op) ∧ cells[j * 3 + 1]? = some (.int .i64 args[j].n) ∧ cells[j * 3 + 2]? = some (.slice a args[j].args.length cap) ∧
      RdEx w args[j] (.int .u8 args[j].op) (.int .i64 args[j].n) (.slice a args[j].args.length cap)) ∧
  (∀ j (h : j < args.length), j < k → ∃ a cap, cells[j * 3]? = some (.int .u8 args[j].op) ∧ cells[j * 3 + 1]? = some (.int .i64 args[j].n) ∧ cells[j * 3 + 2]? = some (.slice a args[j].args.length cap) ∧
      ∀ w'', Agree (g + 1) wr.heap.size wr w'' → RdEx w'' args[j] (.int .u8 args[j].op) (.int .i64 args[j].n) (.slice a args[j].args.length cap))

def CopyRel (w : World) (args : List Ex) (op n : Int) (a' : Option Addr) (cap' : Nat) (k : Nat) (wr : World) : Prop :=
  Blk wr w.heap.size #[.int .u8 op, .int .i64 n, .slice a' args.length cap'] 29 ∧ Blk wr (w.heap.size + 1) #[.int .u8 0, .int .i64 0, .slice none 0 0] 29 ∧ Below w.heap.size w wr ∧
  (args ≠ [] → ∃ g cells, a' = some ⟨g, 0, none⟩ ∧ w.heap.size + 2 ≤ g ∧ Blk wr g cells 29 ∧ args.length * 3 ≤ cells.size ∧ Half w args g cells k wr)


theorem Agree.size {lo hi : Nat} {w w' : World} (h : Agree lo hi w w') (h2 : hi ≤ w.heap.size) (h1 : lo < hi) : hi ≤ w'.heap.size := by
  have := h (hi - 1) (by omega) (by omega)
  rcases Nat.lt_or_ge (hi - 1) w'.heap.size with h' | h'
  · omega
  · rw [Array.getElem?_eq_none h', Array.getElem?_eq_getElem (by omega)] at this; cases this
theorem size_setCell (w : World) (p : Addr) (v : Value) : (w.setCell p v).heap.size = w.heap.size := by simp [World.setCell]

theorem copyRel_step {w wr w2 X : World} {args : List Ex} {op n : Int} {g cap' k : Nat} {cells : Array Value} {a3 : Option Addr} {c3 : Nat} (hlt : k < args.length) (hE2 : Below wr.heap.size wr w2)
    (hB0 : Blk wr w.heap.size #[.int .u8 op, .int .i64 n, .slice (some ⟨g, 0, none⟩) args.length cap'] 29) (hB1 : Blk wr (w.heap.size + 1) #[.int .u8 0, .int .i64 0, .slice none 0 0] 29)
    (hbw : Below w.heap.size w wr) (hg : w.heap.size + 2 ≤ g) (hgb : Blk wr g cells 29) (hsz : args.length * 3 ≤ cells.size) (hhalf : Half w args g cells k wr) (hX : wr.heap.size ≤ X.heap.size)
    (hcp : ∀ w'', Agree X.heap.size w2.heap.size w2 w'' → RdEx w'' args[k] (.int .u8 args[k].op) (.int .i64 args[k].n) (.slice a3 args[k].args.length c3)) :
    CopyRel w args op n (some ⟨g, 0, none⟩) cap' (k + 1) (((w2.setCell ⟨g, k * 3, none⟩ (.int .u8 args[k].op)).setCell ⟨g, k * 3 + 1, none⟩ (.int .i64 args[k].n)).setCell ⟨g, k * 3 + 2, none⟩ (.slice a3 args[k].args.length c3)) := by
  have hgl := hgb.lt
  have hgb2 := (((hgb.below hE2).set (k * 3) (.int .u8 args[k].op)).set (k * 3 + 1) (.int .i64 args[k].n)).set (k * 3 + 2) (.slice a3 args[k].args.length c3)
  have hag : Agree (g + 1) wr.heap.size wr (((w2.setCell ⟨g, k * 3, none⟩ (.int .u8 args[k].op)).setCell ⟨g, k * 3 + 1, none⟩ (.int .i64 args[k].n)).setCell ⟨g, k * 3 + 2, none⟩ (.slice a3 args[k].args.length c3)) :=
    (((Agree.of_below hE2).trans (Agree.set _ _ (by simp))).trans (Agree.set _ _ (by simp))).trans (Agree.set _ _ (by simp))
  have hag2 : ∀ hi, Agree (g + 1) hi w2 (((w2.setCell ⟨g, k * 3, none⟩ (.int .u8 args[k].op)).setCell ⟨g, k * 3 + 1, none⟩ (.int .i64 args[k].n)).setCell ⟨g, k * 3 + 2, none⟩ (.slice a3 args[k].args.length c3)) :=
    fun hi => ((Agree.set _ _ (by simp)).trans (Agree.set _ _ (by simp))).trans (Agree.set _ _ (by simp))
  have hs2 := hE2.size
  refine ⟨(((hB0.below hE2).set_other _ _ (by simp; omega)).set_other _ _ (by simp; omega)).set_other _ _ (by simp; omega), (((hB1.below hE2).set_other _ _ (by simp; omega)).set_other _ _ (by simp; omega)).set_other _ _ (by simp; omega),
    ext_set (ext_set (ext_set (ext_trans hbw hE2) (by simp; omega) _) (by simp; omega) _) (by simp; omega) _, fun _ => ⟨g, _, rfl, hg, hgb2, by simpa using hsz, ?_, ?_⟩⟩
  · intro j hj hkj
    obtain ⟨a, c, e0, e1, e2, e3⟩ := hhalf.1 j hj (by omega)
    refine ⟨a, c, ?_, ?_, ?_, e3⟩
    · rw [Array.getElem?_setIfInBounds_ne (by omega), Array.getElem?_setIfInBounds_ne (by omega), Array.getElem?_setIfInBounds_ne (by omega)]; exact e0
    · rw [Array.getElem?_setIfInBounds_ne (by omega), Array.getElem?_setIfInBounds_ne (by omega), Array.getElem?_setIfInBounds_ne (by omega)]; exact e1
    · rw [Array.getElem?_setIfInBounds_ne (by omega), Array.getElem?_setIfInBounds_ne (by omega), Array.getElem?_setIfInBounds_ne (by omega)]; exact e2
  · intro j hj hjk
    by_cases h : j < k
    · obtain ⟨a, c, e0, e1, e2, e3⟩ := hhalf.2 j hj h
      refine ⟨a, c, ?_, ?_, ?_, fun w'' hw'' => e3 w'' (hag.trans (hw''.sub (Nat.le_refl _) (by simp only [size_setCell]; exact hs2)))⟩
      · rw [Array.getElem?_setIfInBounds_ne (by omega), Array.getElem?_setIfInBounds_ne (by omega), Array.getElem?_setIfInBounds_ne (by omega)]; exact e0
      · rw [Array.getElem?_setIfInBounds_ne (by omega), Array.getElem?_setIfInBounds_ne (by omega), Array.getElem?_setIfInBounds_ne (by omega)]; exact e1
      · rw [Array.getElem?_setIfInBounds_ne (by omega), Array.getElem?_setIfInBounds_ne (by omega), Array.getElem?_setIfInBounds_ne (by omega)]; exact e2
    · obtain rfl : j = k := by omega
      refine ⟨a3, c3, ?_, ?_, ?_, fun w'' hw'' => hcp w'' (((hag2 _).trans (hw''.sub (Nat.le_refl _) (by simp only [size_setCell]; exact Nat.le_refl _))).sub (by omega) (Nat.le_refl _))⟩
      · rw [Array.getElem?_setIfInBounds_ne (by omega), Array.getElem?_setIfInBounds_ne (by omega), Array.getElem?_setIfInBounds_self_of_lt (by omega)]
      · rw [Array.getElem?_setIfInBounds_ne (by omega), Array.getElem?_setIfInBounds_self_of_lt (by simp; omega)]
      · rw [Array.getElem?_setIfInBounds_self_of_lt (by simp; omega)]


theorem copyRel_end {w wr w3 : World} {args : List Ex} {op n : Int} {a' : Option Addr} {cap' : Nat} (hb0 : 0 ≤ op ∧ op ≤ 255) (hb1 : -9223372036854775808 ≤ n ∧ n ≤ 9223372036854775807) (hl : args.length ≤ 9223372036854775807)
    (h : CopyRel w args op n a' cap' args.length wr) (hw : Below w.heap.size w w3) (hag : Agree (w.heap.size + 2) wr.heap.size wr w3) (hs : wr.heap.size ≤ w3.heap.size) :
    CopyOf w (.mk op n args) (.returned (.agg #[.int .u8 op, .int .i64 n, .slice a' args.length cap'])) w3 := by
  obtain ⟨-, -, hbw, hrow⟩ := h
  refine ⟨a', cap', rfl, hw, fun w'' hw'' => ?_, fun hne => ?_⟩
  · unfold RdEx
    refine ⟨rfl, rfl, hb0, hb1, a', cap', rfl, hl, fun hne => ?_⟩
    obtain ⟨g, cells, rfl, hg, hgb, hsz, -, hnew⟩ := hrow hne
    refine ⟨g, 0, rfl, RdExs.of_get _ fun k hk => ?_⟩
    have hgl := hgb.lt
    have hgb3 := (hgb.agree hag hg hgl).agree hw'' (by omega) (by omega)
    obtain ⟨a, c, e0, e1, e2, e3⟩ := hnew k hk hk
    simp only [Nat.zero_add]
    exact ⟨_, _, _, hgb3.cell _ e0, hgb3.cell _ e1, hgb3.cell _ e2, e3 w'' ((hag.sub (by omega) (Nat.le_refl _)).trans (hw''.sub (by omega) hs))⟩
  · obtain ⟨g, cells, rfl, hg, hgb, hsz, -, -⟩ := hrow hne
    exact ⟨g, cells, rfl, by omega, hgb.agree hag hg hgb.lt, hsz⟩

set_option maxRecDepth 100000 in
set_option maxHeartbeats 4000000 in
theorem copy_any (s : Nat) : ∀ (e : Ex) (w : World) (v0 v1 v2 : Value), sizeE e ≤ s → sizeE e ≤ 1000000 → RdEx w e v0 v1 v2 →
    Calls Tryd.prog 23 #[.agg #[v0, v1, v2]] w (CopyOf w e) := by
  induction s with
  | zero => intro e w v0 v1 v2 h; have := sizeE_pos e; omega
  | succ s ih =>
  intro e w v0 v1 v2 hs hm hr
  cases e with | mk op n args =>
  have HR := hid hr
  unfold RdEx at hr
  obtain ⟨rfl, rfl, hb0, hn0, a, cap, rfl, hlen, hx⟩ := hr
  simp only [sizeE] at hs hm
  have IH := hid ih
  have HX := hid hx
  clear ih hx
  have hA := ext_alloc (ext_alloc (ext_refl w) (.cells #[.int .u8 op, .int .i64 n, .slice a args.length cap] 29)) (.cells #[.int .u8 0, .int .i64 0, .slice none 0 0] 29)
  have hla := sizeL_length args
  have HCL := hid (clone_any args w ((w.alloc (.cells #[.int .u8 op, .int .i64 n, .slice a args.length cap] 29)).alloc (.cells #[.int .u8 0, .int .i64 0, .slice none 0 0] 29)) hA a cap (by omega) HX.out)
  go_enter Tryd.func23, Tryd.ntmps23
  go_wp2_with fail
  refine HCL.out.mono ?_
  rintro e' w1 ⟨a', cap', rfl, hb1, hcl⟩
  have hc := bcell hb1
  have hf := bfroz hb1
  have hE := ext_trans hA hb1
  have hbk0 : Blk w1 w.heap.size #[.int .u8 op, .int .i64 n, .slice a args.length cap] 29 := Blk.below hb1 (Blk.alloc (Blk.new _ _ _) _)
  have hbk1 : Blk w1 (w.heap.size + 1) #[.int .u8 0, .int .i64 0, .slice none 0 0] 29 := Blk.below hb1 (Blk.new' _ _ _ (by simp))
  have hw0 := hbk0.cell 2 (v := .slice a args.length cap) rfl
  have hw1 := hbk0.free 2
  have hset : Blk (w1.setCell ⟨w.heap.size, 2, none⟩ (.slice a' args.length cap')) w.heap.size #[.int .u8 op, .int .i64 n, .slice a' args.length cap'] 29 := by simpa using hbk0.set 2 (.slice a' args.length cap')
  have hset1 := hset.cell 2 (v := .slice a' args.length cap') rfl
  have hrel0 : CopyRel w args op n a' cap' 0 (w1.setCell ⟨w.heap.size, 2, none⟩ (.slice a' args.length cap')) := by
    refine ⟨hset, hbk1.set_other _ _ (by simp), ext_set hE (by simp) _, fun hne => ?_⟩
    obtain ⟨g, cells, h1, h2, h3, h4, h5⟩ := hcl hne
    simp at h2
    exact ⟨g, cells, h1, h2, h3.set_other _ _ (by simp; omega), h4, fun j hj _ => h5 j hj, fun j hj h => by omega⟩
  have HREL0 := hid hrel0
  clear hcl hbk0 hbk1 hset hrel0 hf hc
  go_wp2_with fail
  go_loopw [12] (fun i wr => ∃ k : Nat, k ≤ args.length ∧ i = .int .i64 k ∧ Hid (CopyRel w args op n a' cap' k wr)) (fun i _ => args.length - (intOf i).toNat)
  case atStart => exact ⟨0, Nat.zero_le _, rfl, HREL0⟩
  case round =>
    obtain ⟨k, hk, rfl, HREL⟩ := hrel
    clear hw0 hw1 hset1
    obtain ⟨hB0, hB1, hbw, hrow⟩ := HREL.out
    by_cases hlt : k < args.length
    · have hne : args ≠ [] := by intro h; subst h; simp at hlt
      obtain ⟨g, cells, rfl, hg, hgb, hsz, hold, hnew⟩ := hrow hne
      obtain ⟨a2, c2, e0, e1, e2, e3⟩ := hold k hlt (Nat.le_refl _)
      have d0 := hgb.cell _ e0
      have d1 := hgb.cell _ e1
      have d2 := hgb.cell _ e2
      have q2 := hB0.cell 2 (v := .slice (some ⟨g, 0, none⟩) args.length cap') rfl
      have hle := sizeL_get_le args k hlt
      have HIH := hid (IH.out args[k] (wr.alloc (.cells #[.int .u8 args[k].op, .int .i64 args[k].n, .slice a2 args[k].args.length c2] 29)).drew _ _ _ (by omega) (by omega) ((e3.below hbw).below (ext_drew (ext_alloc (ext_refl _) _))))
      have HG := hid hgb
      have HOLD := hid hold
      have HNEW := hid hnew
      have HE3 := hid e3
      clear hold hnew hgb e0 e1 e2 e3 hrow hne hle
      have hgl := HG.out.lt
      go_wp2_with fail
      go_region_held3 (fun w' => w'.cell? ⟨w.heap.size, 2, none⟩ = some (.slice (some ⟨g, 0, none⟩) args.length cap') ∧ w'.cell? ⟨wr.heap.size, 0, none⟩ = some (.int .u8 args[k].op) ∧
          w'.cell? ⟨wr.heap.size, 1, none⟩ = some (.int .i64 args[k].n) ∧ w'.cell? ⟨wr.heap.size, 2, none⟩ = some (.slice a2 args[k].args.length c2))
        (first | go_keep | (go_split_ands; refine ⟨?_, ?_, ?_, ?_⟩ <;> exact later hb2 (by assumption)) | (go_split_ands; refine ⟨?_, ?_, ?_, ?_⟩ <;> exact cell_set (cell_set (cell_set (by assumption) _ _ (by simp; omega)) _ _ (by simp; omega)) _ _ (by simp; omega)))
        (first | (go_at_call 23; refine HIH.out.mono ?_; rintro e' w2 ⟨a3, c3, rfl, hb2, hcp1, hcp2⟩; have hE2 : Below wr.heap.size wr w2 := ext_trans (ext_drew (ext_alloc (ext_refl _) _)) hb2; have hgb2 := Blk.below hE2 HG.out; have f0 := hgb2.free (k * 3); have f1 := hgb2.free (k * 3 + 1); have f2 := hgb2.free (k * 3 + 2); have s0 := later hE2 d0; have s1 := later hE2 d1; have s2 := later hE2 d2; have HGB2 := hid hgb2; have HCP1 := hid hcp1; clear hgb2 hcp1 hcp2))
      have HST := hid (copyRel_step hlt hE2 hB0 hB1 hbw hg HG.out hsz ⟨HOLD.out, HNEW.out⟩ (by simp) HCP1.out)
      go_wp2_with fail
      go_roundw
      case rel => exact ⟨k + 1, hlt, by go_num, HST⟩
      case measure => simp [intOf]; omega
    · obtain rfl : k = args.length := by omega
      have q0 := hB0.cell 0 (v := .int .u8 op) rfl
      have q1 := hB0.cell 1 (v := .int .i64 n) rfl
      have q2 := hB0.cell 2 (v := .slice a' args.length cap') rfl
      have r0 := hB1.cell 0 rfl
      have r1 := hB1.cell 1 rfl
      have r2 := hB1.cell 2 rfl
      have r3 := fun o => hB1.free o
      have hfin := ((hB1.set 0 (.int .u8 op)).set 1 (.int .i64 n)).set 2 (.slice a' args.length cap')
      have t0 := hfin.cell 0 (v := .int .u8 op) (by simp)
      have t1 := hfin.cell 1 (v := .int .i64 n) (by simp)
      have t2 := hfin.cell 2 (v := .slice a' args.length cap') (by simp)
      have HEND := hid (copyRel_end (w3 := ((wr.setCell ⟨w.heap.size + 1, 0, none⟩ (.int .u8 op)).setCell ⟨w.heap.size + 1, 1, none⟩ (.int .i64 n)).setCell ⟨w.heap.size + 1, 2, none⟩ (.slice a' args.length cap')) hb0 hn0 hlen HREL.out
        (ext_set (ext_set (ext_set hbw (by simp) _) (by simp) _) (by simp) _) (((Agree.set _ _ (by simp)).trans (Agree.set _ _ (by simp))).trans (Agree.set _ _ (by simp))) (by simp only [size_setCell]; exact Nat.le_refl _))
      clear hfin hrow HREL HREL0
      go_wp2_with fail
      exact bodyPost_ret (v := .agg #[.int .u8 op, .int .i64 n, .slice a' args.length cap']) (by simp [results, Tryd.results23, go_sem, t0, t1, t2]) rfl HEND.out
end Go.Proofs.YtonckpblbdopmaaDoor
