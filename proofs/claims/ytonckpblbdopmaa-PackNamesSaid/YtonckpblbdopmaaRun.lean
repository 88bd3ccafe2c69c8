/-
  Reckoning a program in the kernel: the reckoner touches its memory in no way but by its words. Nothing of the program.
-/
import Derived.Test.YtonckpblbdopmaaRul
namespace Go.Proofs.Ytonckpblbdopmaa.Rk
set_option linter.unusedVariables false
open Go
set_option maxHeartbeats 2000000
set_option linter.unusedSimpArgs false

def Sx (s s' : St) : Prop := ∃ T Wr, Seg s s' T Wr
def SxCl (cl : Nat → List AV → St → Option (AV × St)) : Prop := ∀ f args s v s', cl f args s = some (v, s') → Sx s s'
section
variable {s s' s1 s2 : St} {cl yl : Nat → List AV → St → Option (AV × St)}
theorem Sx.refl (s : St) : Sx s s := ⟨[], [], Seg.refl s⟩
theorem Sx.trans (h1 : Sx s s1) (h2 : Sx s1 s2) : Sx s s2 := by
  obtain ⟨T1, W1, g1⟩ := h1
  obtain ⟨T2, W2, g2⟩ := h2
  exact ⟨_, _, g1.trans g2⟩
theorem Sx.look {n : Nat} {o : AObj} (h : Proofs.Ytonckpblbdopmaa.Rk.look n s = some (o, s')) : Sx s s' := ⟨_, _, (look_spec h).2.2.1⟩
theorem Sx.put {n : Nat} {o : Option AObj} (h : putO n o s = some s') : Sx s s' := ⟨_, _, (putO_spec h).2.1⟩
theorem Sx.alloc {o : AObj} {n : Nat} (h : allocO o s = some (n, s')) : Sx s s' := ⟨_, _, (allocO_spec h).2.1⟩
theorem Sx.cells {n : Nat} {cs : List AV} {ex : Bool} (h : cellsAt n s = some (cs, ex, s')) : Sx s s' := .look (cellsAt_look h)
theorem Sx.rd {n : Nat} {cs : List AV} (h : cellsRd n s = some (cs, s')) : Sx s s' := by
  obtain ⟨o, hlk, _⟩ := cellsRd_look h
  exact .look hlk
theorem Sx.store {n off : Nat} {ds : List AV} (h : storeA n off ds s = some s') : Sx s s' := by
  obtain ⟨⟨cs, ex, s1⟩, hr0, h_⟩ := ob_some h; clear h; have h := h_; clear h_
  obtain ⟨_, h_⟩ := rec_some h; clear h; have h := h_; clear h_
  obtain ⟨_, h_⟩ := rec_some h; clear h; have h := h_; clear h_
  exact (Sx.cells hr0).trans (.put h)
theorem Sx.row {b off k : Nat} {new : List AV} (h : rowA b off k s = some (new, s')) : Sx s s' := by
  obtain ⟨⟨cs, s1⟩, hr0, h_⟩ := ob_some h; clear h; have h := h_; clear h_
  obtain ⟨_, _, h_⟩ := ob_some h; clear h; have h := h_; clear h_
  cases h
  exact .rd hr0
theorem Sx.first {size n : Nat} {x : AV} {new : List AV} (h : firstA size n x s = some (new, s')) : Sx s s' := by
  cases x <;> simp only [firstA] at h <;> (try (cases h; done)) <;> first | (cases h; exact .refl _) | exact .row h
theorem Sx.pureO {x : Option AV} {v : AV} (h : Proofs.Ytonckpblbdopmaa.Rk.pureO s x = some (v, s')) : Sx s s' := by
  obtain ⟨_, rfl⟩ := pureO_some h
  exact .refl _
theorem Sx.app {size : Nat} {x y v : AV} (h : appA size x y s = some (v, s')) : Sx s s' := by
  obtain ⟨n, _, h_⟩ := ob_some h; clear h; have h := h_; clear h_
  obtain ⟨⟨new, s1⟩, hf, h_⟩ := ob_some h; clear h; have h := h_; clear h_
  have h1 := Sx.first hf
  obtain ⟨_, h_⟩ := rec_some h; clear h; have h := h_; clear h_
  split at h
  · obtain ⟨_, h_⟩ := rec_some h; clear h; have h := h_; clear h_
    rcases rec_two h with ⟨_, h⟩ | ⟨_, h⟩
    · obtain ⟨⟨k, s2⟩, hal, h_⟩ := ob_some h; clear h; have h := h_; clear h_
      cases h
      exact h1.trans (.alloc hal)
    · cases h; exact h1
  · obtain ⟨_, h_⟩ := rec_some h; clear h; have h := h_; clear h_
    rcases rec_two h with ⟨_, h⟩ | ⟨_, h⟩
    · obtain ⟨⟨old, s2⟩, hrow, h_⟩ := ob_some h; clear h; have h := h_; clear h_
      obtain ⟨⟨k, s3⟩, hal, h_⟩ := ob_some h; clear h; have h := h_; clear h_
      cases h
      exact (h1.trans (.row hrow)).trans (.alloc hal)
    · obtain ⟨s2, hst, h_⟩ := ob_some h; clear h; have h := h_; clear h_
      cases h
      exact h1.trans (.store hst)
  · obtain ⟨_, h_⟩ := rec_some h; clear h; have h := h_; clear h_
    rcases rec_two h with ⟨_, h⟩ | ⟨_, h⟩
    · obtain ⟨⟨cs, ex, s2⟩, hc, h_⟩ := ob_some h; clear h; have h := h_; clear h_
      obtain ⟨_, h_⟩ := rec_some h; clear h; have h := h_; clear h_
      obtain ⟨s3, hp, h_⟩ := ob_some h; clear h; have h := h_; clear h_
      obtain ⟨⟨k, s4⟩, hal, h_⟩ := ob_some h; clear h; have h := h_; clear h_
      cases h
      exact ((h1.trans (.cells hc)).trans (.put hp)).trans (.alloc hal)
    · cases h; exact h1
  · cases h
theorem Sx.copy {size : Nat} {x y v : AV} (h : copyA size x y s = some (v, s')) : Sx s s' := by
  obtain ⟨n, _, h_⟩ := ob_some h; clear h; have h := h_; clear h_
  obtain ⟨k, _, h_⟩ := ob_some h; clear h; have h := h_; clear h_
  rw [fN_eq] at h
  obtain ⟨⟨new, s1⟩, hf, h_⟩ := ob_some h; clear h; have h := h_; clear h_
  have h1 := Sx.first hf
  dsimp only at h
  split at h
  · cases h; exact h1
  · obtain ⟨_, h_⟩ := rec_some h; clear h; have h := h_; clear h_
    obtain ⟨s2, hst, h_⟩ := ob_some h; clear h; have h := h_; clear h_
    cases h
    exact h1.trans (.store hst)
  · obtain ⟨_, h_⟩ := rec_some h; clear h; have h := h_; clear h_
    obtain ⟨s2, hst, h_⟩ := ob_some h; clear h; have h := h_; clear h_
    cases h
    exact h1.trans (.store hst)
  · cases h
theorem Sx.op {a : Tri AV} {o : EOp} {v : AV} (hcl : SxCl cl) (hyl : SxCl yl) (h : evOp cl yl a s o = some (v, s')) : Sx s s' := by
  cases o with
  | bad => cases h
  | mov x => exact .pureO h
  | pick c x y =>
    obtain ⟨c, _, h_⟩ := ob_some h; clear h; have h := h_; clear h_
    split at h
    · rcases rec_two h with ⟨_, h⟩ | ⟨_, h⟩ <;> exact .pureO h
    · cases h
  | alloc z => obtain ⟨⟨n, s1⟩, hal, h⟩ := ob_some h; cases h; exact .alloc hal
  | box x => obtain ⟨_, _, h⟩ := ob_some h; obtain ⟨⟨n, s1⟩, hal, h⟩ := ob_some h; cases h; exact .alloc hal
  | build z ps => exact .pureO h
  | buildSl z n ps => obtain ⟨_, _, h⟩ := ob_some h; obtain ⟨⟨n, s1⟩, hal, h⟩ := ob_some h; cases h; exact .alloc hal
  | load1 x =>
    obtain ⟨v, _, h_⟩ := ob_some h; clear h; have h := h_; clear h_
    split at h
    · obtain ⟨⟨cs, s1⟩, hc, h_⟩ := ob_some h; clear h; have h := h_; clear h_
      exact (Sx.rd hc).trans (.pureO h)
    · cases h
  | loadN k x =>
    obtain ⟨v, _, h_⟩ := ob_some h; clear h; have h := h_; clear h_
    split at h
    · obtain ⟨⟨cs, s1⟩, hc, h_⟩ := ob_some h; clear h; have h := h_; clear h_
      obtain ⟨_, _, h_⟩ := ob_some h; clear h; have h := h_; clear h_
      cases h
      exact .rd hc
    · cases h
  | store k x y =>
    obtain ⟨x, _, h_⟩ := ob_some h; clear h; have h := h_; clear h_
    obtain ⟨y, _, h_⟩ := ob_some h; clear h; have h := h_; clear h_
    split at h
    · obtain ⟨_, h_⟩ := rec_some h; clear h; have h := h_; clear h_
      obtain ⟨s1, hst, h_⟩ := ob_some h; clear h; have h := h_; clear h_
      cases h
      exact .store hst
    · cases h
  | nilck x =>
    obtain ⟨x, _, h_⟩ := ob_some h; clear h; have h := h_; clear h_
    split at h <;> cases h <;> exact .refl _
  | bin op x y => obtain ⟨_, _, h⟩ := ob_some h; obtain ⟨_, _, h⟩ := ob_some h; exact .pureO h
  | eq neg t x y => obtain ⟨_, _, h⟩ := ob_some h; obtain ⟨_, _, h⟩ := ob_some h; obtain ⟨_, _, h⟩ := ob_some h; exact .pureO h
  | un op x => obtain ⟨_, _, h⟩ := ob_some h; exact .pureO h
  | conv k x =>
    obtain ⟨_, _, h_⟩ := ob_some h; clear h; have h := h_; clear h_
    split at h
    · exact .pureO h
    · cases h
  | b2s x =>
    obtain ⟨_, _, h_⟩ := ob_some h; clear h; have h := h_; clear h_
    split at h
    · cases h; exact .refl _
    · obtain ⟨⟨cs, s1⟩, hr, h_⟩ := ob_some h; clear h; have h := h_; clear h_
      obtain ⟨_, _, h_⟩ := ob_some h; clear h; have h := h_; clear h_
      cases h
      exact .row hr
    · obtain ⟨⟨cs, s1⟩, hr, h_⟩ := ob_some h; clear h; have h := h_; clear h_
      obtain ⟨_, _, h_⟩ := ob_some h; clear h; have h := h_; clear h_
      cases h
      exact .row hr
    · cases h
  | mkfn f x y => obtain ⟨_, _, h⟩ := ob_some h; obtain ⟨_, _, h⟩ := ob_some h; cases h; exact .refl _
  | mksl z b l c =>
    obtain ⟨_, _, h_⟩ := ob_some h; clear h; have h := h_; clear h_
    obtain ⟨_, _, h_⟩ := ob_some h; clear h; have h := h_; clear h_
    split at h
    · obtain ⟨_, h_⟩ := rec_some h; clear h; have h := h_; clear h_
      obtain ⟨_, h_⟩ := rec_some h; clear h; have h := h_; clear h_
      obtain ⟨⟨n, s1⟩, hal, h_⟩ := ob_some h; clear h; have h := h_; clear h_
      cases h
      exact .alloc hal
    · cases h
  | slc k x lo hi =>
    obtain ⟨_, _, h_⟩ := ob_some h; clear h; have h := h_; clear h_
    split at h
    · obtain ⟨_, _, h_⟩ := ob_some h; clear h; have h := h_; clear h_
      obtain ⟨_, _, h_⟩ := ob_some h; clear h; have h := h_; clear h_
      cases h; exact .refl _
    · obtain ⟨_, _, h_⟩ := ob_some h; clear h; have h := h_; clear h_
      obtain ⟨_, _, h_⟩ := ob_some h; clear h; have h := h_; clear h_
      simp only [fN_eq] at h
      cases h; exact .refl _
    · obtain ⟨_, _, h_⟩ := ob_some h; clear h; have h := h_; clear h_
      obtain ⟨_, _, h_⟩ := ob_some h; clear h; have h := h_; clear h_
      simp only [fN_eq] at h
      obtain ⟨_, h_⟩ := rec_some h; clear h; have h := h_; clear h_
      rcases rec_two h with ⟨_, h⟩ | ⟨_, h⟩
      · obtain ⟨_, h_⟩ := rec_some h; clear h; have h := h_; clear h_
        cases h; exact .refl _
      · cases h; exact .refl _
    · cases h
  | slc3 k x lo hi mx =>
    obtain ⟨_, _, h_⟩ := ob_some h; clear h; have h := h_; clear h_
    split at h
    · obtain ⟨_, _, h_⟩ := ob_some h; clear h; have h := h_; clear h_
      obtain ⟨_, _, h_⟩ := ob_some h; clear h; have h := h_; clear h_
      obtain ⟨_, _, h_⟩ := ob_some h; clear h; have h := h_; clear h_
      cases h; exact .refl _
    · obtain ⟨_, _, h_⟩ := ob_some h; clear h; have h := h_; clear h_
      obtain ⟨_, _, h_⟩ := ob_some h; clear h; have h := h_; clear h_
      obtain ⟨_, _, h_⟩ := ob_some h; clear h; have h := h_; clear h_
      simp only [fN_eq] at h
      cases h; exact .refl _
    · obtain ⟨_, _, h_⟩ := ob_some h; clear h; have h := h_; clear h_
      obtain ⟨_, _, h_⟩ := ob_some h; clear h; have h := h_; clear h_
      obtain ⟨_, _, h_⟩ := ob_some h; clear h; have h := h_; clear h_
      simp only [fN_eq] at h
      cases h; exact .refl _
    · cases h
  | slcS x lo hi =>
    obtain ⟨_, _, h_⟩ := ob_some h; clear h; have h := h_; clear h_
    split at h
    · obtain ⟨_, _, h_⟩ := ob_some h; clear h; have h := h_; clear h_
      obtain ⟨_, _, h_⟩ := ob_some h; clear h; have h := h_; clear h_
      cases h; exact .refl _
    · cases h
  | slcA n k x lo hi =>
    obtain ⟨_, _, h_⟩ := ob_some h; clear h; have h := h_; clear h_
    split at h
    · obtain ⟨_, _, h_⟩ := ob_some h; clear h; have h := h_; clear h_
      obtain ⟨_, _, h_⟩ := ob_some h; clear h; have h := h_; clear h_
      simp only [fN_eq] at h
      cases h; exact .refl _
    · cases h
  | faddr k x =>
    obtain ⟨_, _, h_⟩ := ob_some h; clear h; have h := h_; clear h_
    split at h
    · rw [fN_eq] at h; cases h; exact .refl _
    · cases h
  | field k n x =>
    obtain ⟨_, _, h_⟩ := ob_some h; clear h; have h := h_; clear h_
    split at h
    · exact .pureO h
    · cases h
  | iaddrA len k x i =>
    obtain ⟨_, _, h_⟩ := ob_some h; clear h; have h := h_; clear h_
    obtain ⟨_, _, h_⟩ := ob_some h; clear h; have h := h_; clear h_
    split at h
    · obtain ⟨_, h_⟩ := rec_some h; clear h; have h := h_; clear h_
      rw [fN_eq] at h; cases h; exact .refl _
    · cases h
  | iaddrS k x i =>
    obtain ⟨_, _, h_⟩ := ob_some h; clear h; have h := h_; clear h_
    obtain ⟨_, _, h_⟩ := ob_some h; clear h; have h := h_; clear h_
    split at h
    · obtain ⟨_, h_⟩ := rec_some h; clear h; have h := h_; clear h_
      rw [fN_eq] at h; cases h; exact .refl _
    · obtain ⟨_, h_⟩ := rec_some h; clear h; have h := h_; clear h_
      rw [fN_eq] at h; cases h; exact .refl _
    · cases h
  | idxA len k n x i =>
    obtain ⟨_, _, h_⟩ := ob_some h; clear h; have h := h_; clear h_
    obtain ⟨_, _, h_⟩ := ob_some h; clear h; have h := h_; clear h_
    split at h
    · obtain ⟨_, h_⟩ := rec_some h; clear h; have h := h_; clear h_
      exact .pureO h
    · cases h
  | idxS x i =>
    obtain ⟨_, _, h_⟩ := ob_some h; clear h; have h := h_; clear h_
    obtain ⟨_, _, h_⟩ := ob_some h; clear h; have h := h_; clear h_
    split at h
    · obtain ⟨_, _, h_⟩ := ob_some h; clear h; have h := h_; clear h_
      cases h; exact .refl _
    · cases h
  | ext i x =>
    obtain ⟨_, _, h_⟩ := ob_some h; clear h; have h := h_; clear h_
    split at h
    · exact .pureO h
    · cases h
  | call x args =>
    obtain ⟨_, _, h_⟩ := ob_some h; clear h; have h := h_; clear h_
    obtain ⟨_, _, h_⟩ := ob_some h; clear h; have h := h_; clear h_
    split at h
    · exact hcl _ _ _ _ _ h
    · exact hyl _ _ _ _ _ h
    · cases h
  | len b x =>
    obtain ⟨_, _, h_⟩ := ob_some h; clear h; have h := h_; clear h_
    obtain ⟨_, _, h_⟩ := ob_some h; clear h; have h := h_; clear h_
    rw [fN_eq] at h; cases h; exact .refl _
  | app k x y => obtain ⟨_, _, h⟩ := ob_some h; obtain ⟨_, _, h⟩ := ob_some h; exact .app h
  | copy k x y => obtain ⟨_, _, h⟩ := ob_some h; obtain ⟨_, _, h⟩ := ob_some h; exact .copy h
  | max x y =>
    obtain ⟨_, _, h_⟩ := ob_some h; clear h; have h := h_; clear h_
    obtain ⟨_, _, h_⟩ := ob_some h; clear h; have h := h_; clear h_
    split at h <;> cases h
    exact .refl _
  | min x y =>
    obtain ⟨_, _, h_⟩ := ob_some h; clear h; have h := h_; clear h_
    obtain ⟨_, _, h_⟩ := ob_some h; clear h; have h := h_; clear h_
    split at h <;> cases h
    exact .refl _
  | rng x =>
    obtain ⟨_, _, h_⟩ := ob_some h; clear h; have h := h_; clear h_
    split at h
    · obtain ⟨⟨n, s1⟩, hal, h⟩ := ob_some h; cases h; exact .alloc hal
    · cases h
  | nxt x =>
    obtain ⟨_, _, h_⟩ := ob_some h; clear h; have h := h_; clear h_
    split at h
    · obtain ⟨⟨ob0, s1⟩, hlk, h_⟩ := ob_some h; clear h; have h := h_; clear h_
      split at h
      · rename_i heq
        cases heq
        obtain ⟨c?, hc?, h_⟩ := ob_some h; clear h; have h := h_; clear h_
        cases hc?
        split at h
        · rw [fN_eq] at h
          obtain ⟨_, h_⟩ := rec_some h; clear h; have h := h_; clear h_
          rw [fN_eq] at h
          obtain ⟨s2, hput, h_⟩ := ob_some h; clear h; have h := h_; clear h_
          cases h
          exact (Sx.look hlk).trans (Sx.put hput)
        · cases h
          exact Sx.look hlk
      · cases h
    · cases h
  | mkmap => obtain ⟨⟨n, s1⟩, hal, h⟩ := ob_some h; cases h; exact .alloc hal
  | lookup z ok x k =>
    obtain ⟨_, _, h_⟩ := ob_some h; clear h; have h := h_; clear h_
    obtain ⟨_, _, h_⟩ := ob_some h; clear h; have h := h_; clear h_
    split at h
    · obtain ⟨⟨r, s1⟩, hl, h_⟩ := ob_some h; clear h; have h := h_; clear h_
      split at h
      · rename_i heq
        cases heq
        obtain ⟨_, _, h_⟩ := ob_some h; clear h; have h := h_; clear h_
        cases ok <;> cases h <;> exact .look hl
      · cases h
    · cases h
  | mapup x k y =>
    obtain ⟨_, _, h_⟩ := ob_some h; clear h; have h := h_; clear h_
    obtain ⟨_, _, h_⟩ := ob_some h; clear h; have h := h_; clear h_
    obtain ⟨_, _, h_⟩ := ob_some h; clear h; have h := h_; clear h_
    split at h
    · obtain ⟨⟨r, s1⟩, hl, h_⟩ := ob_some h; clear h; have h := h_; clear h_
      split at h
      · rename_i heq
        cases heq
        obtain ⟨_, _, h_⟩ := ob_some h; clear h; have h := h_; clear h_
        obtain ⟨s2, hp, h_⟩ := ob_some h; clear h; have h := h_; clear h_
        cases h
        exact (Sx.look hl).trans (.put hp)
      · cases h
    · cases h
theorem Sx.putA {d : Option Pt} {v : AV} {a a' : Tri AV} (h : Proofs.Ytonckpblbdopmaa.Rk.putA d v a s = some (a', s')) : s' = s := by
  unfold Proofs.Ytonckpblbdopmaa.Rk.putA at h
  split at h
  · cases h; rfl
  · have := fT_some h
    cases this; rfl
theorem Sx.oper {a a' : Tri AV} {o : EOper} (hcl : SxCl cl) (hyl : SxCl yl) (h : evOper cl yl o a s = some (a', s')) : Sx s s' := by
  obtain ⟨b, _, h_⟩ := ob_some h; clear h; have h := h_; clear h_
  rcases rec_two h with ⟨_, h⟩ | ⟨_, h⟩
  · rw [Sx.putA h]; exact .refl _
  · obtain ⟨⟨v, s1⟩, ho, h_⟩ := ob_some h; clear h; have h := h_; clear h_
    rw [Sx.putA h]; exact .op hcl hyl ho
theorem Sx.ops (hcl : SxCl cl) (hyl : SxCl yl) : ∀ {l : List EOper} {a a' : Tri AV} {s s' : St}, evOps cl yl l a s = some (a', s') → Sx s s'
  | [], a, a', s, s', h => by cases h; exact .refl _
  | o :: l, a, a', s, s', h => by
    obtain ⟨⟨a1, s1⟩, h1, h_⟩ := ob_some h; clear h; have h := h_; clear h_
    exact (Sx.oper hcl hyl h1).trans (Sx.ops hcl hyl h)
theorem Sx.opsD (hcl : SxCl cl) (hyl : SxCl yl) : ∀ {l : List EOper} {i : Nat} {rs rs' : List Rec} {a a' : Tri AV} {s s' : St}, evOpsD cl yl l i rs a s = some (rs', a', s') → Sx s s'
  | [], i, rs, rs', a, a', s, s', h => by cases h; exact .refl _
  | o :: l, i, rs, rs', a, a', s, s', h => by
    obtain ⟨⟨a1, s1⟩, h1, h_⟩ := ob_some h; clear h; have h := h_; clear h_
    obtain ⟨T, Wr, g⟩ := Sx.oper hcl hyl h1
    refine Sx.trans (s1 := ⟨s1.h, s1.nx, Proofs.Ytonckpblbdopmaa.Rk.app s1.lg s.lg, Proofs.Ytonckpblbdopmaa.Rk.app s1.wl s.wl⟩) ⟨T, Wr, ?_⟩ (Sx.opsD hcl hyl h)
    have e1 : s1.lg = T := by have := g.lg; simpa using this
    have e2 : s1.wl = Wr := by have := g.wl; simpa using this
    exact ⟨(by show Proofs.Ytonckpblbdopmaa.Rk.app s1.lg s.lg = _; rw [app_eq, e1]), (by show Proofs.Ytonckpblbdopmaa.Rk.app s1.wl s.wl = _; rw [app_eq, e2]), g.sub, g.nx, g.same⟩
theorem Sx.regD {a a' : Tri AV} {l : List EOper} (hcl : SxCl cl) (hyl : SxCl yl) (h : evRegD cl yl l a s = some (a', s')) : Sx s s' := by
  obtain ⟨⟨rs, a1, s1⟩, hr, h_⟩ := ob_some h; clear h; have h := h_; clear h_
  obtain ⟨_, h_⟩ := rec_some h; clear h; have h := h_; clear h_
  cases h
  exact .opsD hcl hyl hr
/-- Code that is reckoned touches memory so. -/
def SxCode (ih : Nat → Nat → Bool → ECode → Tri AV → List Nat → St → Rz) : Prop := ∀ fid N rd c a ds s e a' ds' s', ih fid N rd c a ds s = .ok e a' ds' s' → Sx s s'
theorem Sx.take : ∀ {ds : List Nat} {s s' : St}, takeD ds s = some s' → Sx s s'
  | [], s, s', h => by cases h; exact .refl _
  | d :: ds, s, s', h => by
    obtain ⟨⟨o, s1⟩, hlk, h_⟩ := ob_some h; clear h; have h := h_; clear h_
    cases o <;> try (cases h; done)
    obtain ⟨s2, hput, h_⟩ := ob_some h; clear h; have h := h_; clear h_
    exact ((Sx.look hlk).trans (.put hput)).trans (Sx.take (ds := ds) h)
theorem Sx.res {a : Tri AV} : ∀ {l : List (Pt × Option (Option Nat))} {vs : List AV} {s' : St}, resA a s l = some (vs, s') → Sx s s'
  | [], vs, s', h => by cases h; exact .refl _
  | (p, none) :: l, vs, s', h => by
    obtain ⟨v, hv, h_⟩ := ob_some h; clear h; have h := h_; clear h_
    obtain ⟨⟨vs', s1⟩, hrest, h_⟩ := ob_some h; clear h; have h := h_; clear h_
    cases h
    exact Sx.res hrest
  | (p, some n) :: l, vs, s', h => by
    obtain ⟨v, hv, h_⟩ := ob_some h; clear h; have h := h_; clear h_
    dsimp only at h
    split at h
    · obtain ⟨⟨vs', s1⟩, hrest, h_⟩ := ob_some h; clear h; have h := h_; clear h_
      obtain ⟨⟨cs, s2⟩, hcells, h_⟩ := ob_some h; clear h; have h := h_; clear h_
      obtain ⟨u, hu, h_⟩ := ob_some h; clear h; have h := h_; clear h_
      cases h
      exact (Sx.res hrest).trans (.rd hcells)
    · cases h
theorem Sx.call {O : OrcT} (hO : SxCl O) {ft : Tri EFn} {ih : Nat → Nat → Bool → ECode → Tri AV → List Nat → St → Rz} (hih : SxCode ih) : SxCl (clE O ft ih) := by
  intro f args s v s' h
  unfold clE at h
  split at h
  case h_2 => exact hO f args s v s' h
  obtain ⟨e, he, h⟩ := ob_some h
  split at h
  · rename_i hev
    obtain ⟨s2, ht, h_⟩ := ob_some h; clear h; have h := h_; clear h_
    obtain ⟨⟨vs, s3⟩, hr, h_⟩ := ob_some h; clear h; have h := h_; clear h_
    cases h
    exact ((hih _ _ _ _ _ _ _ _ _ _ _ hev).trans (.take ht)).trans (.res hr)
  · rename_i hev
    obtain ⟨s2, ht, h_⟩ := ob_some h; clear h; have h := h_; clear h_
    obtain ⟨⟨vs, s3⟩, hr, h_⟩ := ob_some h; clear h; have h := h_; clear h_
    cases h
    exact ((hih _ _ _ _ _ _ _ _ _ _ _ hev).trans (.take ht)).trans (.res hr)
  · cases h
theorem loopAt_look {l : Nat} {st : LoopState} {pe : Option Out} {f N : Nat} {a0 : Tri AV} {ps : List Pt} {as bo : ECode} {d : Nat} (h : loopAt l s = some (st, pe, f, N, a0, ps, as, bo, d, s')) : look l s = some (.loop st pe f N a0 ps as bo d, s') := by
  obtain ⟨⟨o, s1⟩, hlk, h_⟩ := ob_some h; clear h; have h := h_; clear h_
  cases o <;> (try (cases h; done))
  cases h
  exact hlk
theorem Sx.yield {ih : Nat → Nat → Bool → ECode → Tri AV → List Nat → St → Rz} (hih : SxCode ih) : SxCl (fun l args s => evYield ih l args s) := by
  intro l args s v s' h
  obtain ⟨⟨st, pe, f, N, a0, ps, as, bo, d, s1⟩, hl1, h_⟩ := ob_some h; clear h; have h := h_; clear h_
  split at h
  case h_2 => cases h
  rename_i heq
  cases heq
  obtain ⟨a, hpar, h_⟩ := ob_some h; clear h; have h := h_; clear h_
  split at h
  case h_2 => cases h
  rename_i hev1
  obtain ⟨⟨st3, pe3, f3, N3, a3, ps3, as3, bo3, d3, s3⟩, hl2, h_⟩ := ob_some h; clear h; have h := h_; clear h_
  split at h
  case h_2 => cases h
  rename_i heq
  cases heq
  obtain ⟨s4, hput4, h_⟩ := ob_some h; clear h; have h := h_; clear h_
  split at h
  case h_2 => cases h
  rename_i hev2
  obtain ⟨⟨st6, pe6, f6, N6, a6, ps6, as6, bo6, d6, s6⟩, hl3, h_⟩ := ob_some h; clear h; have h := h_; clear h_
  have h1 := ((((Sx.look (loopAt_look hl1)).trans (hih _ _ _ _ _ _ _ _ _ _ _ hev1)).trans (.look (loopAt_look hl2))).trans (.put hput4)).trans ((hih _ _ _ _ _ _ _ _ _ _ _ hev2).trans (.look (loopAt_look hl3)))
  dsimp only at h
  split at h
  · obtain ⟨s7, hput, h_⟩ := ob_some h; clear h; have h := h_; clear h_
    cases h
    exact h1.trans (.put hput)
  · obtain ⟨s7, hput, h_⟩ := ob_some h; clear h; have h := h_; clear h_
    cases h
    exact h1.trans (.put hput)
  · obtain ⟨s7, hput, h_⟩ := ob_some h; clear h; have h := h_; clear h_
    cases h
    exact h1.trans (.put hput)
theorem Sx.rz {x : Option (Tri AV × St)} {ds ds' : List Nat} {e : Out} {a' : Tri AV} (h : rzO x ds = .ok e a' ds' s') (hx : ∀ a s', x = some (a, s') → Sx s s') : Sx s s' := by
  cases x with
  | none => cases h
  | some r =>
    obtain ⟨a, s1⟩ := r
    have h' : Rz.ok .norm a ds s1 = .ok e a' ds' s' := h
    cases h'
    exact hx _ _ rfl
theorem ev_sx (O : OrcT) (hO : SxCl O) (ft : Tri EFn) : ∀ n, SxCode (ev O ft n) := by
  intro n
  induction n with
  | zero => intro fid N rd c a ds s e a' ds' s' h; cases h
  | succ n ih =>
    intro fid N rd c a ds s e a' ds' s' h
    have hcl := Sx.call hO (ft := ft) ih
    have hyl := Sx.yield ih
    cases c with
    | bad => cases h
    | skip => cases h; exact .refl _
    | region ops draw =>
      cases draw with
      | false => exact Sx.rz h (fun a s' hx => .ops hcl hyl hx)
      | true => exact Sx.rz h (fun a s' hx => .regD hcl hyl hx)
    | seq x y =>
      have h' : (match ev O ft n fid N rd x a ds s with | .ok .norm a ds s => ev O ft n fid N rd y a ds s | r => r) = .ok e a' ds' s' := h
      split at h'
      · rename_i h1; exact (ih _ _ _ _ _ _ _ _ _ _ _ h1).trans (ih _ _ _ _ _ _ _ _ _ _ _ h')
      · exact ih _ _ _ _ _ _ _ _ _ _ _ h'
    | cond x t f =>
      have h' : (match rdo a x with | some (.bool b) => Bool.rec (ev O ft n fid N rd f a ds s) (ev O ft n fid N rd t a ds s) b | _ => .fail) = Rz.ok e a' ds' s' := h
      split at h'
      · rcases rec_two h' with ⟨_, h1⟩ | ⟨_, h1⟩ <;> exact ih _ _ _ _ _ _ _ _ _ _ _ h1
      · cases h'
    | block id c =>
      have h' : (match ev O ft n fid N rd c a ds s with | .ok (.exit j) a ds s => Bool.rec (.ok (.exit j) a ds s) (.ok .norm a ds s) (Nat.beq j id) | r => r) = Rz.ok e a' ds' s' := h
      split at h'
      · rename_i h1
        rcases rec_two h' with ⟨_, h2⟩ | ⟨_, h2⟩ <;> cases h2 <;> exact ih _ _ _ _ _ _ _ _ _ _ _ h1
      · exact ih _ _ _ _ _ _ _ _ _ _ _ h'
    | loop c =>
      have h' : (match ev O ft n fid N rd c a ds s with | .ok .norm a ds s => ev O ft n fid N rd (.loop c) a ds s | r => r) = .ok e a' ds' s' := h
      split at h'
      · rename_i h1; exact (ih _ _ _ _ _ _ _ _ _ _ _ h1).trans (ih _ _ _ _ _ _ _ _ _ _ _ h')
      · exact ih _ _ _ _ _ _ _ _ _ _ _ h'
    | exit id => cases h; exact .refl _
    | ret => cases h; exact .refl _
    | rangeF f ps as bo =>
      cases rd with
      | true => cases h
      | false =>
        have h' : (match rdo a f with
          | some (.fn g first caps) => match ob (allocO .dfr s) fun r => ob (allocO (.loop .ready none fid N a ps as bo r.1) r.2) fun q => ob (clE O ft (ev O ft n) g (first ++ [.yld q.1] ++ caps) q.2) fun p => ob (loopAt q.1 p.2) fun x => some (r.1, q.1, x) with
            | some (d, l, st, pe, f', N', a', ps', as', bo', d', s) => match st with
              | .busy => .fail
              | _ => match putO l (some (.loop .exhausted pe f' N' a' ps' as' bo' d')) s with
                | some s => .ok (Option.rec .norm (fun e => e) pe) a (d :: ds) s
                | none => .fail
            | none => .fail
          | _ => .fail) = Rz.ok e a' ds' s' := h
        split at h'
        · rename_i g first caps hf
          split at h'
          · rename_i d l st pe f' N' a0 ps' as' bo' d' s1 hx
            obtain ⟨⟨d1, t1⟩, ha1, hx_⟩ := ob_some hx; clear hx; have hx := hx_; clear hx_
            obtain ⟨⟨l1, t2⟩, ha2, hx_⟩ := ob_some hx; clear hx; have hx := hx_; clear hx_
            obtain ⟨⟨v1, t3⟩, hc, hx_⟩ := ob_some hx; clear hx; have hx := hx_; clear hx_
            obtain ⟨x1, hl, hx_⟩ := ob_some hx; clear hx; have hx := hx_; clear hx_
            cases hx
            have h1 := (((Sx.alloc ha1).trans (.alloc ha2)).trans (hcl _ _ _ _ _ hc)).trans (.look (loopAt_look hl))
            split at h'
            · cases h'
            · split at h'
              · rename_i hp
                cases h'
                exact h1.trans (.put hp)
              · cases h'
          · cases h'
        · cases h'
end
end Go.Proofs.Ytonckpblbdopmaa.Rk
