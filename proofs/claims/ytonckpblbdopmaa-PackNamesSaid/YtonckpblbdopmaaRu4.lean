/-
  Reckoning a program in the kernel: how the memory that is reckoned stands for the model's; what a step does to both. Nothing of the program.
-/
import Derived.Test.YtonckpblbdopmaaRu3
namespace Go.Proofs.Ytonckpblbdopmaa.Rk
set_option linter.unusedVariables false
open Go

def outC : Out → Code
  | .norm => .skip
  | .exit id => .exit id
  | .ret => .ret
/-- The temporaries. -/
def AT (N : Nat) (m : Tl) (a : Tri AV) (tmps : Array Value) : Prop :=
  N ≤ tmps.size ∧ ∀ (t : Nat) (v : AV), a.get (pt t) = some v → ∃ u, tmps[t]? = some u ∧ VR m v u
inductive OR (P : Program) (m : Tl) : AObj → Obj → Prop where
  | cells {cs : List AV} {ex : Bool} {c : Array Value} {el : TypeId} {lo hi : Nat} (hlen : cs.length ≤ c.size) (hex : ex = true → c.size = cs.length)
      (hval : ∀ (i : Nat) (a : AV), cs[i]? = some a → ∃ v, c[i]? = some v ∧ VR m a v) (hfr : ∀ i, i ≤ c.size → ¬ (lo ≤ i ∧ i < hi)) : OR P m (.cells cs ex) (.cells c el (lo, hi))
  | mapo {es : List (AV × AV)} {en : Array MapEntry} {clock : Nat} (hlen : es.length = en.size)
      (h : ∀ (i : Nat) (e : AV × AV) (x : MapEntry), es[i]? = some e → en[i]? = some x → VR m e.1 x.key ∧ VR m e.2 x.val) : OR P m (.mapo es) (.map en clock)
  | loop {st : LoopState} {pe : Option Out} {f N : Nat} {a : Tri AV} {ps : List Pt} {as bo : ECode} {d : Nat} {l : Loop} (h1 : l.state = st) (h2 : l.pending = pe.map outC)
      (h4 : AT N m a l.tmps) (h5 : l.params.toList.map ptc = ps) (h6 : cCode P N l.assign = as) (h7 : cCode P N l.body = bo) (h8 : m d = some l.defers) (h9 : ∀ p ∈ l.params.toList, p < N) (h10 : pe ≠ some .norm) :
      OR P m (.loop st pe f N a ps as bo d) (.loop l)
  | dfr : OR P m .dfr (.deferred (some []))
  | siter {l : List UInt8} {pos : Nat} : OR P m (.siter l pos) (.stringIter ⟨⟨l⟩⟩ pos)
theorem AT.mono {N : Nat} {m m' : Tl} (hm : MExt m m') {a : Tri AV} {t : Array Value} (h : AT N m a t) : AT N m' a t :=
  ⟨h.1, fun t v hv => let ⟨u, h1, h2⟩ := h.2 t v hv; ⟨u, h1, h2.mono hm⟩⟩
theorem OR.mono {P : Program} {m m' : Tl} (hm : MExt m m') {o : AObj} {b : Obj} (h : OR P m o b) : OR P m' o b := by
  cases h with
  | cells hlen hex hval hfr => exact .cells hlen hex (fun i a ha => let ⟨v, h1, h2⟩ := hval i a ha; ⟨v, h1, h2.mono hm⟩) hfr
  | mapo hlen h => exact .mapo hlen (fun i e x he hx => ⟨(h i e x he hx).1.mono hm, (h i e x he hx).2.mono hm⟩)
  | loop h1 h2 h4 h5 h6 h7 h8 h9 h10 => exact .loop h1 h2 (h4.mono hm) h5 h6 h7 (hm _ _ h8).1 h9 h10
  | dfr => exact .dfr
  | siter => exact .siter

abbrev Hp := Nat → Option AObj
noncomputable def St.H (s : St) : Hp := fun n => s.h.get (pt n)
def Sz (m : Tl) (n : Nat) (ob : Obj) : Prop := ∀ c el fr, ob = .cells c el fr → c.size = m.c n
def AObj.isRo : AObj → Bool
  | .ro _ => true
  | _ => false
def live : Option AObj → Bool
  | some o => !o.isRo
  | none => false
/-- H stands for W's heap; what was there when the world was w0 stands as it stood; the first G blocks bear their own numbers. -/
structure Good (w0 : World) (P : Program) (G : Nat) (m : Tl) (H : Hp) (W : World) : Prop where
  obj : ∀ n o, H n = some o → o.isRo = false → ∃ b ob, m n = some b ∧ W.heap[b]? = some ob ∧ OR P m o ob ∧ Sz m n ob ∧ w0.heap.size ≤ b
  ro : ∀ n cs, H n = some (.ro cs) → ∃ b c el fr, m n = some b ∧ w0.heap[b]? = some (.cells c el fr) ∧ cs.length ≤ c.size ∧ LR m cs (c.toList.take cs.length)
  inj : ∀ n n' b, live (H n) = true → live (H n') = true → m n = some b → m n' = some b → n = n'
  glob : ∀ g, g < G → m g = some g
  old : ∀ (k : Nat) (ob : Obj), w0.heap[k]? = some ob → W.heap[k]? = some ob
/-- What the reckoner has done from s to s': touched T, written Wr. -/
structure Seg (s s' : St) (T Wr : List Nat) : Prop where
  lg : s'.lg = T ++ s.lg
  wl : s'.wl = Wr ++ s.wl
  sub : ∀ n ∈ Wr, n ∈ T ∧ n < s'.nx
  nx : s.nx ≤ s'.nx
  same : ∀ n, n ∉ Wr → n < s.nx → s'.H n = s.H n
open Classical in
noncomputable def updH (H : Hp) (s s' : St) (Wr : List Nat) : Hp := fun n => if n ∈ Wr ∨ (s.nx ≤ n ∧ n < s'.nx) then s'.H n else H n
/-- Nothing has come out. -/
def SameOut (W W' : World) : Prop := W'.os = W.os ∧ W'.tape = W.tape ∧ W'.output = W.output
theorem SameOut.refl (W : World) : SameOut W W := ⟨rfl, rfl, rfl⟩
theorem SameOut.trans {W W1 W2 : World} (h : SameOut W W1) (h' : SameOut W1 W2) : SameOut W W2 := ⟨h'.1.trans h.1, h'.2.1.trans h.2.1, h'.2.2.trans h.2.2⟩
/-- What the model has done meanwhile. -/
structure Stp (w0 : World) (P : Program) (G : Nat) (s s' : St) (Wr : List Nat) (m m' : Tl) (H : Hp) (W W' : World) : Prop where
  ext : MExt m m'
  out : ∀ n, ¬ (s.nx ≤ n ∧ n < s'.nx) → m' n = m n
  new : ∀ n b, s.nx ≤ n → n < s'.nx → m' n = some b → W.heap[b]? = none ∨ ∃ k ∈ Wr, k < s.nx ∧ m k = some b
  good : Good w0 P G m' (updH H s s' Wr) W'
  frame : ∀ (b : Nat) (ob : Obj), W.heap[b]? = some ob → (∀ n ∈ Wr, n < s.nx → m n ≠ some b) → W'.heap[b]? = some ob
  rest : SameOut W W'
def Agree (H : Hp) (s : St) (T : List Nat) : Prop := ∀ n ∈ T, n < s.nx → H n = s.H n
def Fresh (m : Tl) (s s' : St) : Prop := ∀ n, s.nx ≤ n → n < s'.nx → m n = none
theorem Seg.refl (s : St) : Seg s s [] [] := ⟨rfl, rfl, by simp, Nat.le_refl _, fun _ _ _ => rfl⟩
theorem Seg.trans {s s1 s2 : St} {T1 T2 W1 W2 : List Nat} (h1 : Seg s s1 T1 W1) (h2 : Seg s1 s2 T2 W2) : Seg s s2 (T2 ++ T1) (W2 ++ W1) :=
  ⟨by rw [h2.lg, h1.lg, List.append_assoc], by rw [h2.wl, h1.wl, List.append_assoc],
   fun n hn => by
    rcases List.mem_append.1 hn with h | h
    · exact ⟨List.mem_append.2 (.inl (h2.sub n h).1), (h2.sub n h).2⟩
    · exact ⟨List.mem_append.2 (.inr (h1.sub n h).1), Nat.lt_of_lt_of_le (h1.sub n h).2 h2.nx⟩,
   Nat.le_trans h1.nx h2.nx,
   fun n hn hlt => by
    rw [List.mem_append, not_or] at hn
    rw [h2.same n hn.1 (Nat.lt_of_lt_of_le hlt h1.nx), h1.same n hn.2 hlt]⟩
theorem updH_trans {H : Hp} {s s1 s2 : St} {T1 T2 W1 W2 : List Nat} (h1 : Seg s s1 T1 W1) (h2 : Seg s1 s2 T2 W2) : updH (updH H s s1 W1) s1 s2 W2 = updH H s s2 (W2 ++ W1) := by
  funext n
  have hx1 := h1.nx
  have hx2 := h2.nx
  unfold updH
  by_cases ha : n ∈ W2 ∨ (s1.nx ≤ n ∧ n < s2.nx)
  · rw [if_pos ha, if_pos]
    rcases ha with ha | ha
    · exact .inl (List.mem_append.2 (.inl ha))
    · exact .inr ⟨by omega, ha.2⟩
  · rw [if_neg ha]
    rw [not_or] at ha
    by_cases hb : n ∈ W1 ∨ (s.nx ≤ n ∧ n < s1.nx)
    · rw [if_pos hb, if_pos]
      · have hlt : n < s1.nx := by
          rcases hb with hb | hb
          · exact (h1.sub n hb).2
          · exact hb.2
        exact (h2.same n ha.1 hlt).symm
      · rcases hb with hb | hb
        · exact .inl (List.mem_append.2 (.inr hb))
        · exact .inr ⟨hb.1, by omega⟩
    · rw [if_neg hb, if_neg]
      rw [not_or] at hb ⊢
      refine ⟨fun h => ?_, fun h => ?_⟩
      · rcases List.mem_append.1 h with h | h
        · exact ha.1 h
        · exact hb.1 h
      · rcases Nat.lt_or_ge n s1.nx with h' | h'
        · exact hb.2 ⟨h.1, h'⟩
        · exact ha.2 ⟨h', h.2⟩
theorem Stp.refl {w0 : World} {P : Program} {G : Nat} {s : St} {m : Tl} {H : Hp} {W : World} (h : Good w0 P G m H W) : Stp w0 P G s s [] m m H W W :=
  ⟨MExt.refl m, fun _ _ => rfl, fun n b h1 h2 _ => by omega, by
    have : updH H s s [] = H := by
      funext n
      unfold updH
      rw [if_neg]
      rintro (h | h)
      · cases h
      · omega
    rw [this]; exact h, fun _ _ h _ => h, SameOut.refl _⟩
theorem Stp.trans {w0 : World} {P : Program} {G : Nat} {s s1 s2 : St} {T1 T2 W1 W2 : List Nat} {m m1 m2 : Tl} {H : Hp} {W Wa Wb : World} (g1 : Seg s s1 T1 W1) (g2 : Seg s1 s2 T2 W2)
    (h1 : Stp w0 P G s s1 W1 m m1 H W Wa) (h2 : Stp w0 P G s1 s2 W2 m1 m2 (updH H s s1 W1) Wa Wb) : Stp w0 P G s s2 (W2 ++ W1) m m2 H W Wb := by
  have hx1 := g1.nx
  have hx2 := g2.nx
  refine ⟨h1.ext.trans h2.ext, fun n hn => ?_, fun n b hn1 hn2 hb => ?_, ?_, fun b ob hb hne => ?_, h1.rest.trans h2.rest⟩
  · rw [h2.out n (by omega), h1.out n (by omega)]
  · rcases Nat.lt_or_ge n s1.nx with hlt | hge
    · rw [h2.out n (by omega)] at hb
      rcases h1.new n b hn1 hlt hb with h | ⟨k, hk, h⟩
      · exact .inl h
      · exact .inr ⟨k, List.mem_append.2 (.inr hk), h⟩
    · have hold : ∀ ob, W.heap[b]? = some ob → Wa.heap[b]? = some ob ∨ ∃ k ∈ W2 ++ W1, k < s.nx ∧ m k = some b := by
        intro ob hob
        rcases Classical.em (∃ k ∈ W1, k < s.nx ∧ m k = some b) with ⟨k, hk, h⟩ | hno
        · exact .inr ⟨k, List.mem_append.2 (.inr hk), h⟩
        · exact .inl (h1.frame b ob hob (fun n hn hlt e => hno ⟨n, hn, hlt, e⟩))
      rcases h2.new n b hge hn2 hb with h | ⟨k, hk, hlt, hkb⟩
      · cases hob : W.heap[b]? with
        | none => exact .inl rfl
        | some ob =>
          rcases hold ob hob with h' | h'
          · rw [h] at h'; cases h'
          · exact .inr h'
      · rcases Nat.lt_or_ge k s.nx with hks | hks
        · rw [h1.out k (by omega)] at hkb
          exact .inr ⟨k, List.mem_append.2 (.inl hk), hks, hkb⟩
        · rcases h1.new k b hks hlt hkb with h | ⟨j, hj, h⟩
          · exact .inl h
          · exact .inr ⟨j, List.mem_append.2 (.inr hj), h⟩
  · rw [← updH_trans g1 g2]; exact h2.good
  · have hb1 := h1.frame b ob hb (fun n hn hlt => hne n (List.mem_append.2 (.inr hn)) hlt)
    refine h2.frame b ob hb1 (fun n hn hlt e => ?_)
    rcases Nat.lt_or_ge n s.nx with hns | hns
    · rw [h1.out n (by omega)] at e
      exact hne n (List.mem_append.2 (.inl hn)) hns e
    · rcases h1.new n b hns hlt e with h | ⟨j, hj, hjs, hjb⟩
      · rw [hb] at h; cases h
      · exact hne j (List.mem_append.2 (.inr hj)) hjs hjb
theorem Agree.left {H : Hp} {s s1 : St} {T1 T2 W1 : List Nat} (g1 : Seg s s1 T1 W1) (h : Agree H s (T2 ++ T1)) : Agree (updH H s s1 W1) s1 T2 := by
  intro n hn hlt
  unfold updH
  by_cases hb : n ∈ W1 ∨ (s.nx ≤ n ∧ n < s1.nx)
  · rw [if_pos hb]
  · rw [if_neg hb]
    rw [not_or] at hb
    have hns : n < s.nx := by
      rcases Nat.lt_or_ge n s.nx with h | h
      · exact h
      · exact absurd ⟨h, hlt⟩ hb.2
    rw [h n (List.mem_append.2 (.inl hn)) hns, g1.same n hb.1 hns]
theorem Agree.right {H : Hp} {s : St} {T1 T2 : List Nat} (h : Agree H s (T2 ++ T1)) : Agree H s T1 := fun n hn hlt => h n (List.mem_append.2 (.inr hn)) hlt
theorem Fresh.right {m : Tl} {s s1 s2 : St} {T2 W2 : List Nat} (g2 : Seg s1 s2 T2 W2) (h : Fresh m s s2) : Fresh m s s1 := fun n h1 h2 => h n h1 (Nat.lt_of_lt_of_le h2 g2.nx)
theorem Fresh.left {w0 : World} {P : Program} {G : Nat} {m m1 : Tl} {s s1 s2 : St} {T1 W1 : List Nat} {H : Hp} {W Wa : World} (g1 : Seg s s1 T1 W1) (h1 : Stp w0 P G s s1 W1 m m1 H W Wa) (h : Fresh m s s2) : Fresh m1 s1 s2 :=
  fun n hn hlt => by rw [h1.out n (by have := g1.nx; omega)]; exact h n (Nat.le_trans g1.nx hn) hlt
end Go.Proofs.Ytonckpblbdopmaa.Rk
