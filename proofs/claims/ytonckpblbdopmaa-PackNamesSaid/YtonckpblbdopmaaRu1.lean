/-
  Reckoning a program in the kernel: the values, the memory, and how they stand for the model's. Said of any program. Nothing of the program.
-/
import Derived.RangeFuncLeaves
import Derived.OrdersIn
namespace Go.Proofs.Ytonckpblbdopmaa.Rk
set_option linter.unusedVariables false
open Go

/-! ### Places and tries -/
inductive Pt where
  | e
  | l (p : Pt)
  | r (p : Pt)
inductive Tri (α : Type) where
  | leaf
  | node (l : Tri α) (v : Option α) (r : Tri α)
noncomputable def Tri.up {α : Type} (v : Option α) (r : Tri α) : Tri α → Tri α :=
  Tri.rec (.node .leaf v r) (fun a b c _ _ => .node (.node a b c) v r)
noncomputable def Tri.ur {α : Type} (l : Tri α) (v : Option α) : Tri α → Tri α :=
  Tri.rec (.node l v .leaf) (fun a b c _ _ => .node l v (.node a b c))
noncomputable def Tri.get {α : Type} (p : Pt) : Tri α → Option α :=
  Pt.rec (fun t => Tri.rec none (fun _ v _ _ _ => v) t) (fun _ ih t => Tri.rec none (fun l _ _ _ _ => ih l) t) (fun _ ih t => Tri.rec none (fun _ _ r _ _ => ih r) t) p
noncomputable def Tri.set {α : Type} (x : Option α) (p : Pt) : Tri α → Tri α :=
  Pt.rec (fun t => Tri.rec (.node .leaf x .leaf) (fun l _ r _ _ => .node l x r) t)
   (fun _ ih t => Tri.rec (Tri.up none .leaf (ih .leaf)) (fun l v r _ _ => Tri.up v r (ih l)) t)
   (fun _ ih t => Tri.rec (Tri.ur .leaf none (ih .leaf)) (fun l v r _ _ => Tri.ur l v (ih r)) t) p
section
variable {α : Type}
theorem Tri.up_eq (v : Option α) (r t : Tri α) : Tri.up v r t = .node t v r := by cases t <;> rfl
theorem Tri.ur_eq (l : Tri α) (v : Option α) (t : Tri α) : Tri.ur l v t = .node l v t := by cases t <;> rfl
theorem Tri.get_leaf (p : Pt) : Tri.get p (.leaf : Tri α) = none := by cases p <;> rfl
theorem Tri.get_e (l r : Tri α) (v : Option α) : Tri.get .e (.node l v r) = v := rfl
theorem Tri.get_l (p : Pt) (l r : Tri α) (v : Option α) : Tri.get (.l p) (.node l v r) = Tri.get p l := rfl
theorem Tri.get_r (p : Pt) (l r : Tri α) (v : Option α) : Tri.get (.r p) (.node l v r) = Tri.get p r := rfl
theorem Tri.set_same (x : Option α) : ∀ (p : Pt) (t : Tri α), Tri.get p (Tri.set x p t) = x := by
  intro p
  induction p with
  | e => intro t; cases t <;> rfl
  | l p ih =>
    intro t
    cases t with
    | leaf => show Tri.get (.l p) (Tri.up none .leaf (Tri.set x p .leaf)) = x; rw [Tri.up_eq]; exact ih _
    | node l v r => show Tri.get (.l p) (Tri.up v r (Tri.set x p l)) = x; rw [Tri.up_eq]; exact ih _
  | r p ih =>
    intro t
    cases t with
    | leaf => show Tri.get (.r p) (Tri.ur .leaf none (Tri.set x p .leaf)) = x; rw [Tri.ur_eq]; exact ih _
    | node l v r => show Tri.get (.r p) (Tri.ur l v (Tri.set x p r)) = x; rw [Tri.ur_eq]; exact ih _
theorem Tri.set_other (x : Option α) : ∀ (p q : Pt) (t : Tri α), p ≠ q → Tri.get q (Tri.set x p t) = Tri.get q t := by
  intro p
  induction p with
  | e => intro q t h; cases q with
    | e => exact absurd rfl h
    | l q => cases t with
      | leaf => exact (Tri.get_leaf q)
      | node l v r => rfl
    | r q => cases t with
      | leaf => exact (Tri.get_leaf q)
      | node l v r => rfl
  | l p ih =>
    intro q t h
    cases t with
    | leaf =>
      show Tri.get q (Tri.up none .leaf (Tri.set x p .leaf)) = _
      rw [Tri.up_eq]
      cases q with
      | e => rfl
      | l q => exact (ih q .leaf (fun e => h (by rw [e]))).trans (Tri.get_leaf q)
      | r q => exact (Tri.get_leaf q)
    | node l v r =>
      show Tri.get q (Tri.up v r (Tri.set x p l)) = _
      rw [Tri.up_eq]
      cases q with
      | e => rfl
      | l q => exact ih q l (fun e => h (by rw [e]))
      | r q => rfl
  | r p ih =>
    intro q t h
    cases t with
    | leaf =>
      show Tri.get q (Tri.ur .leaf none (Tri.set x p .leaf)) = _
      rw [Tri.ur_eq]
      cases q with
      | e => rfl
      | r q => exact (ih q .leaf (fun e => h (by rw [e]))).trans (Tri.get_leaf q)
      | l q => exact (Tri.get_leaf q)
    | node l v r =>
      show Tri.get q (Tri.ur l v (Tri.set x p r)) = _
      rw [Tri.ur_eq]
      cases q with
      | e => rfl
      | r q => exact ih q r (fun e => h (by rw [e]))
      | l q => rfl
end
/-- The place of a number. -/
noncomputable def ptF : Nat → Nat → Pt :=
  Nat.rec (fun _ => .e) (fun _ ih k => Bool.rec (Bool.rec (.r (ih (k / 2 - 1))) (.l (ih (k / 2))) (Nat.beq (k % 2) 1)) .e (Nat.beq k 0))
noncomputable def pt (k : Nat) : Pt := ptF k k
def Pt.num : Pt → Nat
  | .e => 0
  | .l p => 2 * p.num + 1
  | .r p => 2 * p.num + 2
theorem num_ptF : ∀ (f k : Nat), k ≤ f → (ptF f k).num = k := by
  intro f
  induction f with
  | zero => intro k h; have : k = 0 := by omega
            subst this; rfl
  | succ f ih =>
    intro k h
    show Pt.num (Bool.rec (Bool.rec (.r (ptF f (k / 2 - 1))) (.l (ptF f (k / 2))) (Nat.beq (k % 2) 1)) .e (Nat.beq k 0)) = k
    cases h0 : Nat.beq k 0 with
    | true => have := Nat.eq_of_beq_eq_true h0; subst this; rfl
    | false =>
      have h0' : k ≠ 0 := Nat.ne_of_beq_eq_false h0
      cases h1 : Nat.beq (k % 2) 1 with
      | true =>
        have := Nat.eq_of_beq_eq_true h1
        show 2 * (ptF f (k / 2)).num + 1 = k
        rw [ih _ (by omega)]; omega
      | false =>
        have := Nat.ne_of_beq_eq_false h1
        show 2 * (ptF f (k / 2 - 1)).num + 2 = k
        rw [ih _ (by omega)]; omega
theorem num_pt (k : Nat) : (pt k).num = k := num_ptF k k (Nat.le_refl k)
theorem pt_inj {j k : Nat} (h : pt j = pt k) : j = k := by rw [← num_pt j, ← num_pt k, h]

/-! ### Values -/
/-- A telling: which block a name is of, and how many cells it has. -/
structure Tl where
  f : Nat → Option Nat
  c : Nat → Nat
instance : CoeFun Tl (fun _ => Nat → Option Nat) := ⟨Tl.f⟩
inductive AV where
  | int (k : IntKind) (n : Int)
  | bool (b : Bool)
  | str (l : List UInt8)
  | nilp
  | ptr (n off : Nat)
  | nils
  | sl (n off len cap : Nat)
  | slu (n off len size : Nat)
  | fn (f : Nat) (first caps : List AV)
  | yld (l : Nat)
  | nilf
  | agg (cs : List AV)
  | tup (vs : List AV)
  | nilm
  | map (n : Nat)

/-- What stands for a value; m tells the names' blocks. A slice whose capacity is not told has room enough for what it has. -/
inductive VR (m : Tl) : AV → Value → Prop where
  | int (k : IntKind) (n : Int) : VR m (.int k n) (.int k n)
  | bool (b : Bool) : VR m (.bool b) (.bool b)
  | str (l : List UInt8) : VR m (.str l) (.string ⟨⟨l⟩⟩)
  | nilp : VR m .nilp (.pointer none)
  | ptr {n b : Nat} (off : Nat) (h : m n = some b) : VR m (.ptr n off) (.pointer (some ⟨b, off, none⟩))
  | nils : VR m .nils (.slice none 0 0)
  | sl {n b : Nat} (off len cap : Nat) (h : m n = some b) (hl : len ≤ cap) : VR m (.sl n off len cap) (.slice (some ⟨b, off, none⟩) len cap)
  | slu {n b : Nat} (off len size cap : Nat) (h : m n = some b) (hl : len ≤ cap) (hc : off + cap * size ≤ m.c n) (hb : cap ≤ 9223372036854775807) : VR m (.slu n off len size) (.slice (some ⟨b, off, none⟩) len cap)
  | fn (f : Nat) {cs ds : List AV} {vs us : List Value} (hl : cs.length = vs.length) (h : ∀ (i : Nat) (a : AV) (v : Value), cs[i]? = some a → vs[i]? = some v → VR m a v)
      (hl' : ds.length = us.length) (h' : ∀ (i : Nat) (a : AV) (v : Value), ds[i]? = some a → us[i]? = some v → VR m a v) : VR m (.fn f cs ds) (.func (.func f) ⟨vs⟩ ⟨us⟩)
  | yld {l b : Nat} (h : m l = some b) : VR m (.yld l) (.func (.yield b) #[] #[])
  | nilf : VR m .nilf .nilFunc
  | agg {cs : List AV} {vs : List Value} (hl : cs.length = vs.length) (h : ∀ (i : Nat) (a : AV) (v : Value), cs[i]? = some a → vs[i]? = some v → VR m a v) : VR m (.agg cs) (.agg ⟨vs⟩)
  | tup {cs : List AV} {vs : List Value} (hl : cs.length = vs.length) (h : ∀ (i : Nat) (a : AV) (v : Value), cs[i]? = some a → vs[i]? = some v → VR m a v) : VR m (.tup cs) (.tuple ⟨vs⟩)
  | nilm : VR m .nilm (.map none)
  | map {n b : Nat} (h : m n = some b) : VR m (.map n) (.map (some b))

def LR (m : Tl) (cs : List AV) (vs : List Value) : Prop := cs.length = vs.length ∧ ∀ (i : Nat) (a : AV) (v : Value), cs[i]? = some a → vs[i]? = some v → VR m a v
/-- One telling of blocks goes on in another. -/
def MExt (m m' : Tl) : Prop := ∀ n b, m n = some b → m' n = some b ∧ m'.c n = m.c n
theorem MExt.refl (m : Tl) : MExt m m := fun _ _ h => ⟨h, rfl⟩
theorem MExt.trans {m m' m'' : Tl} (h : MExt m m') (h' : MExt m' m'') : MExt m m'' := fun n b hb => ⟨(h' n b (h n b hb).1).1, ((h' n b (h n b hb).1).2).trans (h n b hb).2⟩
theorem VR.mono {m m' : Tl} (hm : MExt m m') {a : AV} {v : Value} (h : VR m a v) : VR m' a v := by
  induction h with
  | int k n => exact .int k n
  | bool b => exact .bool b
  | str l => exact .str l
  | nilp => exact .nilp
  | ptr off h => exact .ptr off (hm _ _ h).1
  | nils => exact .nils
  | sl off len cap h hl => exact .sl off len cap (hm _ _ h).1 hl
  | slu off len size cap h hl hc hb => exact .slu off len size cap (hm _ _ h).1 hl (by rw [(hm _ _ h).2]; exact hc) hb
  | fn f hl _ hl' _ ih ih' => exact .fn f hl ih hl' ih'
  | yld h => exact .yld (hm _ _ h).1
  | nilf => exact .nilf
  | agg hl _ ih => exact .agg hl ih
  | tup hl _ ih => exact .tup hl ih
  | nilm => exact .nilm
  | map h => exact .map (hm _ _ h).1
theorem LR.mono {m m' : Tl} (hm : MExt m m') {cs : List AV} {vs : List Value} (h : LR m cs vs) : LR m' cs vs := ⟨h.1, fun i a v ha hv => (h.2 i a v ha hv).mono hm⟩
theorem LR.nil (m : Tl) : LR m [] [] := ⟨rfl, fun i a v h _ => by simp at h⟩
theorem LR.cons {m : Tl} {a : AV} {v : Value} {cs : List AV} {vs : List Value} (h : VR m a v) (hs : LR m cs vs) : LR m (a :: cs) (v :: vs) :=
  ⟨by simp [hs.1], fun i b u hb hu => by
    cases i with
    | zero => simp at hb hu; subst hb hu; exact h
    | succ i => simp at hb hu; exact hs.2 i b u hb hu⟩
theorem LR.inv_cons {m : Tl} {a : AV} {cs : List AV} {vs : List Value} (h : LR m (a :: cs) vs) : ∃ v us, vs = v :: us ∧ VR m a v ∧ LR m cs us := by
  cases vs with
  | nil => have := h.1; simp at this
  | cons v us => exact ⟨v, us, rfl, h.2 0 a v rfl rfl, by have := h.1; simpa using this, fun i b u hb hu => h.2 (i + 1) b u (by simpa using hb) (by simpa using hu)⟩
theorem LR.inv_nil {m : Tl} {vs : List Value} (h : LR m [] vs) : vs = [] := by
  have := h.1; simp at this; exact List.eq_nil_of_length_eq_zero this.symm
theorem LR.get {m : Tl} {cs : List AV} {vs : List Value} (h : LR m cs vs) {i : Nat} {a : AV} (ha : cs[i]? = some a) : ∃ v, vs[i]? = some v ∧ VR m a v := by
  obtain ⟨hi, _⟩ := List.getElem?_eq_some_iff.1 ha
  have hi' : i < vs.length := by rw [← h.1]; exact hi
  exact ⟨_, List.getElem?_eq_getElem hi', h.2 i a _ ha (List.getElem?_eq_getElem hi')⟩
theorem LR.append {m : Tl} {cs ds : List AV} {vs us : List Value} (h : LR m cs vs) (h' : LR m ds us) : LR m (cs ++ ds) (vs ++ us) :=
  ⟨by simp [h.1, h'.1], fun i a v ha hv => by
    rcases Nat.lt_or_ge i cs.length with hi | hi
    · rw [List.getElem?_append_left hi] at ha; rw [List.getElem?_append_left (by rw [← h.1]; exact hi)] at hv; exact h.2 i a v ha hv
    · rw [List.getElem?_append_right hi] at ha; rw [List.getElem?_append_right (by rw [← h.1]; exact hi)] at hv
      rw [← h.1] at hv
      exact h'.2 _ a v ha hv⟩
theorem LR.take {m : Tl} {cs : List AV} {vs : List Value} (h : LR m cs vs) (n : Nat) : LR m (cs.take n) (vs.take n) :=
  ⟨by simp [h.1], fun i a v ha hv => by
    rw [List.getElem?_take] at ha hv
    split at ha
    · rename_i hi; rw [if_pos hi] at hv; exact h.2 i a v ha hv
    · simp at ha⟩
theorem LR.drop {m : Tl} {cs : List AV} {vs : List Value} (h : LR m cs vs) (n : Nat) : LR m (cs.drop n) (vs.drop n) :=
  ⟨by simp [h.1], fun i a v ha hv => by
    rw [List.getElem?_drop] at ha hv
    exact h.2 _ a v ha hv⟩
theorem LR.set {m : Tl} {cs : List AV} {vs : List Value} (h : LR m cs vs) (n : Nat) {a : AV} {v : Value} (ha : VR m a v) : LR m (cs.set n a) (vs.set n v) :=
  ⟨by simp [h.1], fun i b u hb hu => by
    rw [List.getElem?_set] at hb hu
    split at hb
    · rename_i e
      rw [if_pos e] at hu
      split at hb
      · split at hu
        · cases hb; cases hu; exact ha
        · cases hu
      · cases hb
    · rename_i e; rw [if_neg e] at hu; exact h.2 i b u hb hu⟩
theorem LR.replicate {m : Tl} (n : Nat) {a : AV} {v : Value} (ha : VR m a v) : LR m (List.replicate n a) (List.replicate n v) := by
  induction n with
  | zero => exact LR.nil m
  | succ n ih => exact LR.cons ha ih
/-- What a value's cells are. -/
def AV.cells : AV → List AV
  | .agg cs => cs
  | v => [v]
theorem VR.cells {m : Tl} {a : AV} {v : Value} (h : VR m a v) : LR m a.cells v.cells.toList := by
  cases h with
  | agg hl h => exact ⟨hl, h⟩
  | int k n => exact LR.cons (.int k n) (LR.nil m)
  | bool b => exact LR.cons (.bool b) (LR.nil m)
  | str l => exact LR.cons (.str l) (LR.nil m)
  | nilp => exact LR.cons .nilp (LR.nil m)
  | ptr off h => exact LR.cons (.ptr off h) (LR.nil m)
  | nils => exact LR.cons .nils (LR.nil m)
  | sl off len cap h hl => exact LR.cons (.sl off len cap h hl) (LR.nil m)
  | slu off len size cap h hl hc hb => exact LR.cons (.slu off len size cap h hl hc hb) (LR.nil m)
  | fn f hl h hl' h' => exact LR.cons (.fn f hl h hl' h') (LR.nil m)
  | yld h => exact LR.cons (.yld h) (LR.nil m)
  | nilf => exact LR.cons .nilf (LR.nil m)
  | tup hl h => exact LR.cons (.tup hl h) (LR.nil m)
  | nilm => exact LR.cons .nilm (LR.nil m)
  | map h => exact LR.cons (.map h) (LR.nil m)
end Go.Proofs.Ytonckpblbdopmaa.Rk
