/-
  Copied expressions, rows of statements and statements: what is known of them while a region runs.
-/
import Derived.Test.YtoeegiaajngpeaaCpG
import Derived.Test.YtoeegiaajngpeaaSuG1
import Derived.Test.YtoeegiaajngpeaaSuG5
import Derived.Test.YtoeegiaajngpeaaCoE
import Derived.Test.YtoeegiaajngpeaaSuD
namespace Go.Proofs.Ytoeegiaajngpeaa
set_option linter.unusedVariables false
set_option linter.unusedSimpArgs false
set_option linter.unusedVariables false
open Go Go.RowKit
theorem infoStmt : (Try.prog.info? 42).map (fun i => (i.zero, i.size, i.bytes)) = some (some (.agg #[.int .u8 0, .int .i64 0, .int .u8 0, .int .i64 0, .slice none 0 0, .int .u8 0, .int .i64 0, .slice none 0 0, .slice none 0 0, .slice none 0 0]), 10, 144) := by kernel_rfl
theorem flat_sub {l : List St} {k : Nat} (h : k < l.length) : (∀ s ∈ flatT (l[k]'h).body, s ∈ flatT l) ∧ (∀ s ∈ flatT (l[k]'h).els, s ∈ flatT l) ∧ l[k]'h ∈ flatT l := by
  refine ⟨fun s hs => flatT_mem l k h s (.inr ?_), fun s hs => flatT_mem l k h s (.inr ?_), flatT_mem l k h _ (.inr ?_)⟩
  all_goals rw [flatS_is]
  · exact List.mem_cons_of_mem _ (List.mem_append_left _ hs)
  · exact List.mem_cons_of_mem _ (List.mem_append_right _ hs)
  · exact List.mem_cons_self
theorem sizeS_pos (s : St) : 1 ≤ sizeS s := by cases s; simp only [sizeS]; omega
theorem sizeT_length (l : List St) : l.length ≤ sizeT l := by
  induction l with
  | nil => simp [sizeT]
  | cons x xs ih => simp only [sizeT, List.length_cons]; have := sizeS_pos x; omega
theorem RdSts.get10 {w : World} {q off : Nat} {l : List St} (h : RdSts w q off l) (n : Nat) (hn : n < l.length) : ∃ pa ca pb cb po co pe ce,
    w.cell? ⟨q, off + n * 10, none⟩ = some (.int .u8 (l[n]'hn).kind) ∧ w.cell? ⟨q, off + n * 10 + 1, none⟩ = some (.int .i64 (l[n]'hn).to) ∧ w.cell? ⟨q, off + n * 10 + 2, none⟩ = some (.int .u8 (l[n]'hn).a.op) ∧ w.cell? ⟨q, off + n * 10 + 3, none⟩ = some (.int .i64 (l[n]'hn).a.n) ∧ w.cell? ⟨q, off + n * 10 + 4, none⟩ = some (.slice pa (l[n]'hn).a.args.length ca) ∧
      w.cell? ⟨q, off + n * 10 + 5, none⟩ = some (.int .u8 (l[n]'hn).b.op) ∧ w.cell? ⟨q, off + n * 10 + 6, none⟩ = some (.int .i64 (l[n]'hn).b.n) ∧ w.cell? ⟨q, off + n * 10 + 7, none⟩ = some (.slice pb (l[n]'hn).b.args.length cb) ∧ w.cell? ⟨q, off + n * 10 + 8, none⟩ = some (.slice po (l[n]'hn).body.length co) ∧ w.cell? ⟨q, off + n * 10 + 9, none⟩ = some (.slice pe (l[n]'hn).els.length ce) ∧
      RdSt w (l[n]'hn) (.int .u8 (l[n]'hn).kind) (.int .i64 (l[n]'hn).to) (.int .u8 (l[n]'hn).a.op) (.int .i64 (l[n]'hn).a.n) (.slice pa (l[n]'hn).a.args.length ca) (.int .u8 (l[n]'hn).b.op) (.int .i64 (l[n]'hn).b.n) (.slice pb (l[n]'hn).b.args.length cb) (.slice po (l[n]'hn).body.length co) (.slice pe (l[n]'hn).els.length ce) := by
  obtain ⟨k, t, a0, a1, a2, b0, b1, b2, bo, el, h0, h1, h2, h3, h4, h5, h6, h7, h8, h9, h10⟩ := RdSts.get l h n hn
  obtain ⟨rfl, rfl, ha, hb, ho, he⟩ := h10.shape
  obtain ⟨pa, ca, rfl, rfl, rfl⟩ := ha.shape
  obtain ⟨pb, cb, rfl, rfl, rfl⟩ := hb.shape
  obtain ⟨po, co, rfl, -, -⟩ := ho
  obtain ⟨pe, ce, rfl, -, -⟩ := he
  exact ⟨pa, ca, pb, cb, po, co, pe, ce, h0, h1, h2, h3, h4, h5, h6, h7, h8, h9, h10⟩
/-- The reading of a statement out of the readings of its parts. -/
theorem RdSt.of_parts {w w' : World} {s : St} {a0 a1 a2 b0 b1 b2 bo el a0' a1' a2' b0' b1' b2' bo' el' : Value} (h : RdSt w s (.int .u8 s.kind) (.int .i64 s.to) a0 a1 a2 b0 b1 b2 bo el)
    (ha : RdEx w' s.a a0' a1' a2') (hb : RdEx w' s.b b0' b1' b2') (ho : RdTx w' s.body bo') (he : RdTx w' s.els el') : RdSt w' s (.int .u8 s.kind) (.int .i64 s.to) a0' a1' a2' b0' b1' b2' bo' el' := by
  cases s with | mk kind tt a b body els =>
  unfold RdSt at h ⊢
  obtain ⟨h0, h1, h2, h3, -⟩ := h
  exact ⟨h0, h1, h2, h3, ha, hb, ho, he⟩
def OwnE (e : Ex) (lo : Nat) (x : Value) (w : World) : Prop := ∃ a cap, x = .agg #[.int .u8 e.op, .int .i64 e.n, .slice a e.args.length cap] ∧ lo ≤ w.heap.size ∧ ∀ w'', Agree lo w.heap.size w w'' → RdEx w'' e (.int .u8 e.op) (.int .i64 e.n) (.slice a e.args.length cap)
def OwnT (l : List St) (lo : Nat) (x : Value) (w : World) : Prop := ∃ a cap, x = .slice a l.length cap ∧ lo ≤ w.heap.size ∧ ∀ w'', Agree lo w.heap.size w w'' → RdTx w'' l (.slice a l.length cap)
def OwnS (s : St) (lo : Nat) (x : Value) (w : World) : Prop := ∃ pa ca pb cb po co pe ce, x = .agg #[.int .u8 s.kind, .int .i64 s.to, .int .u8 s.a.op, .int .i64 s.a.n, .slice pa s.a.args.length ca, .int .u8 s.b.op, .int .i64 s.b.n, .slice pb s.b.args.length cb, .slice po s.body.length co, .slice pe s.els.length ce] ∧
  lo ≤ w.heap.size ∧ ∀ w'', Agree lo w.heap.size w w'' → RSt w'' s [.int .u8 s.kind, .int .i64 s.to, .int .u8 s.a.op, .int .i64 s.a.n, .slice pa s.a.args.length ca, .int .u8 s.b.op, .int .i64 s.b.n, .slice pb s.b.args.length cb, .slice po s.body.length co, .slice pe s.els.length ce]
def OwnB (s : St) (lo : Nat) (x : Value) (w : World) (t : TypeId) : Prop := ∃ g pa ca pb cb po co pe ce, x = .slice (some ⟨g, 0, none⟩) 1 1 ∧ Blk w g #[.int .u8 s.kind, .int .i64 s.to, .int .u8 s.a.op, .int .i64 s.a.n, .slice pa s.a.args.length ca, .int .u8 s.b.op, .int .i64 s.b.n, .slice pb s.b.args.length cb, .slice po s.body.length co, .slice pe s.els.length ce] t ∧
  lo ≤ w.heap.size ∧ ∀ w'', Agree lo w.heap.size w w'' → RSt w'' s [.int .u8 s.kind, .int .i64 s.to, .int .u8 s.a.op, .int .i64 s.a.n, .slice pa s.a.args.length ca, .int .u8 s.b.op, .int .i64 s.b.n, .slice pb s.b.args.length cb, .slice po s.body.length co, .slice pe s.els.length ce]
theorem blk_at {w : World} {g : Nat} {cs : List Value} {t : TypeId} (h : Blk w g cs.toArray t) : ∀ (j : Nat) (u : Value), cs[j]? = some u → w.cell? ((⟨g, 0, none⟩ : Addr).add j) = some u := by
  intro j u hu
  have := h.cell j (by simpa using hu)
  unfold Addr.add
  split
  · rename_i h; subst h; exact this
  · simpa using this
theorem agree_later {lo : Nat} {w w' w'' : World} (hb : Below w.heap.size w w') (h : Agree lo w'.heap.size w' w'') : Agree lo w.heap.size w w'' := ((Agree.of_below (lo := lo) hb)).trans (h.sub (Nat.le_refl _) hb.size)
theorem OwnE.below {e : Ex} {lo : Nat} {x : Value} {w w' : World} (hb : Below w.heap.size w w') (h : OwnE e lo x w) : OwnE e lo x w' := by
  obtain ⟨a, c, h1, h2, h3⟩ := h
  exact ⟨a, c, h1, Nat.le_trans h2 hb.size, fun w'' hw => h3 w'' (agree_later hb hw)⟩
theorem OwnT.below {l : List St} {lo : Nat} {x : Value} {w w' : World} (hb : Below w.heap.size w w') (h : OwnT l lo x w) : OwnT l lo x w' := by
  obtain ⟨a, c, h1, h2, h3⟩ := h
  exact ⟨a, c, h1, Nat.le_trans h2 hb.size, fun w'' hw => h3 w'' (agree_later hb hw)⟩
theorem OwnS.below {s : St} {lo : Nat} {x : Value} {w w' : World} (hb : Below w.heap.size w w') (h : OwnS s lo x w) : OwnS s lo x w' := by
  obtain ⟨pa, ca, pb, cb, po, co, pe, ce, h1, h2, h3⟩ := h
  exact ⟨pa, ca, pb, cb, po, co, pe, ce, h1, Nat.le_trans h2 hb.size, fun w'' hw => h3 w'' (agree_later hb hw)⟩
theorem OwnB.below {s : St} {lo : Nat} {x : Value} {w w' : World} {t : TypeId} (hb : Below w.heap.size w w') (h : OwnB s lo x w t) : OwnB s lo x w' t := by
  obtain ⟨g, pa, ca, pb, cb, po, co, pe, ce, h1, h0, h2, h3⟩ := h
  exact ⟨g, pa, ca, pb, cb, po, co, pe, ce, h1, h0.below hb, Nat.le_trans h2 hb.size, fun w'' hw => h3 w'' (agree_later hb hw)⟩
theorem OwnT.of {l : List St} {lo : Nat} {v : Value} {w1 w2 : World} (hb : Below w1.heap.size w1 w2) (hlo : lo ≤ w1.heap.size) (h : ∀ w'', Agree w1.heap.size w2.heap.size w2 w'' → RdTx w'' l v) : OwnT l lo v w2 := by
  obtain ⟨a, c, rfl, -, -⟩ := h w2 (Agree.refl _ _ _)
  exact ⟨a, c, rfl, Nat.le_trans hlo hb.size, fun w'' hw => h w'' (hw.sub hlo (Nat.le_refl _))⟩
theorem OwnS.mk {s : St} {lo : Nat} {W w : World} {xa xb xo xe a0 a1 a2 b0 b1 b2 bo el : Value} (h : RdSt W s (.int .u8 s.kind) (.int .i64 s.to) a0 a1 a2 b0 b1 b2 bo el) (ha : OwnE s.a lo xa w) (hb : OwnE s.b lo xb w) (ho : OwnT s.body lo xo w) (he : OwnT s.els lo xe w) :
    ∃ pa ca pb cb po co pe ce, xa = .agg #[.int .u8 s.a.op, .int .i64 s.a.n, .slice pa s.a.args.length ca] ∧ xb = .agg #[.int .u8 s.b.op, .int .i64 s.b.n, .slice pb s.b.args.length cb] ∧ xo = .slice po s.body.length co ∧ xe = .slice pe s.els.length ce ∧
    OwnS s lo (.agg #[.int .u8 s.kind, .int .i64 s.to, .int .u8 s.a.op, .int .i64 s.a.n, .slice pa s.a.args.length ca, .int .u8 s.b.op, .int .i64 s.b.n, .slice pb s.b.args.length cb, .slice po s.body.length co, .slice pe s.els.length ce]) w := by
  obtain ⟨pa, ca, rfl, h0, h1⟩ := ha
  obtain ⟨pb, cb, rfl, -, h2⟩ := hb
  obtain ⟨po, co, rfl, -, h3⟩ := ho
  obtain ⟨pe, ce, rfl, -, h4⟩ := he
  exact ⟨pa, ca, pb, cb, po, co, pe, ce, rfl, rfl, rfl, rfl, pa, ca, pb, cb, po, co, pe, ce, rfl, h0, fun w'' hw => ⟨_, _, _, _, _, _, _, _, rfl, h.of_parts (h1 w'' hw) (h2 w'' hw) (h3 w'' hw) (h4 w'' hw)⟩⟩
theorem OwnB.mk {s : St} {lo : Nat} {w : World} {t : TypeId} {pa pb po pe : Option Addr} {ca cb co ce : Nat} (hlo : lo ≤ w.heap.size) (h : ∀ w'', Agree lo w.heap.size w w'' → RSt w'' s [.int .u8 s.kind, .int .i64 s.to, .int .u8 s.a.op, .int .i64 s.a.n, .slice pa s.a.args.length ca, .int .u8 s.b.op, .int .i64 s.b.n, .slice pb s.b.args.length cb, .slice po s.body.length co, .slice pe s.els.length ce]) :
    OwnB s lo (.slice (some ⟨w.heap.size, 0, none⟩) 1 1) (w.alloc (.cells #[.int .u8 s.kind, .int .i64 s.to, .int .u8 s.a.op, .int .i64 s.a.n, .slice pa s.a.args.length ca, .int .u8 s.b.op, .int .i64 s.b.n, .slice pb s.b.args.length cb, .slice po s.body.length co, .slice pe s.els.length ce] t)) t :=
  ⟨_, pa, ca, pb, cb, po, co, pe, ce, rfl, Blk.new _ _ _, by simp; omega, fun w'' hw => h w'' (agree_later (ext_alloc (ext_refl w) _) hw)⟩
end Go.Proofs.Ytoeegiaajngpeaa
