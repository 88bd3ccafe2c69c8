/-
  Walks: code.all, and its closure's word as a range's iterator.
-/
import Derived.Test.YtaklfjjkeebheaaCoE
import Derived.Test.YtaklfjjkeebheaaRgS
namespace Go.Proofs.Ytaklfjjkeebheaa
set_option linter.unusedVariables false
set_option linter.unusedSimpArgs false
set_option linter.unusedVariables false
open Go Go.RowKit
attribute [local go_sem] Oper.semAt_some
theorem roundIn_wide {m m' : Nat} {P : Program} {l : Nat} {f : FuncId} {tmps : Array Value} {assign body : Code} {w : World} {R : Ending → World → Prop} (h : RoundIn Fence.wide m P l f tmps assign body w R) : RoundIn Fence.wide m' P l f tmps assign body w R :=
  ⟨h.1, fun c cs _ => h.2 c cs (room_wide _)⟩
theorem yieldAt_wide {m m' : Nat} {P : Program} {l : Nat} {args : Array Value} {W : World} {R : Ending → World → Prop} (h : YieldAt Fence.wide m P l args W R) : YieldAt Fence.wide m' P l args W R := by
  obtain ⟨fn, tmps, assign, body, hy, hr⟩ := h
  exact ⟨fn, tmps, assign, body, hy, roundIn_wide hr⟩
set_option maxRecDepth 100000 in
set_option maxHeartbeats 4000000 in
theorem all_any (v : Value) (l : List St) (w : World) (hr : RdTx w l v) :
    Calls Try.prog 55 #[v] w fun e' w' => e' = .returned (.func (.func 65) #[] #[.pointer (some ⟨w.heap.size, 0, none⟩)]) ∧ w' = w.alloc (.cells #[v] 56) := by
  obtain ⟨a, cap, rfl, -, -⟩ := hr
  go_enter Try.func55, Try.ntmps55
  go_wp2_with fail
  go_ret
  exact ⟨rfl, rfl⟩
set_option maxRecDepth 100000 in
set_option maxHeartbeats 4000000 in
theorem all_seq (n : Nat) (l : List St) (v : Value) (b : Nat) (w w3 : World) (hr : RdTx w l v) (hw : Below w.heap.size w w3) (hb : Blk w3 b #[v] 56) (hok : ∀ s ∈ flatT l, okE s) :
    SeqStopsK Fence.wide n Try.prog 65 #[.pointer (some ⟨b, 0, none⟩)] (Item.enc (w0 := w)) (KeepE w.heap.size) (fun xs => xs.map Item.st = flatT l) (fun xs => ∀ s ∈ xs.map Item.st, s ∈ flatT l) (sizeT l) w3 := by
  intro lp J Jx W hW hJ hJx hY h0
  have HC : Hid (CallsIn Fence.wide (n - 1) Try.prog 66 #[v, .func (.yield lp) #[] #[]] W (EachPost J Jx [] l W)) := hid
    (each_in (sizeT l + 1) (n - 1) lp (sizeT l) w J Jx l v [] W (Nat.lt_succ_self _) hr (hw.trans (hW.mono hw.size)) (by simp) hJ (fun n' p x W1 hp hl => yieldAt_wide (hY p x W1 hp hl)) h0 hok)
  obtain ⟨a, cap, rfl, -, -⟩ := hr
  have hb' := (hb.below hW)
  have c0 := hb'.cell 0 (v := .slice a l.length cap) rfl
  clear hY h0 hJ hJx hb hb' hw
  refine callsIn_of_wp Try.func65 rfl trivial ?_ rfl
  simp only [Try.ntmps65, List.size_toArray, List.length_cons, List.length_nil, Nat.reduceAdd, Nat.reduceSub, Array.replicate_succ, Array.replicate_zero, List.push_toArray, List.append_toArray, List.nil_append, List.cons_append]
  gi_wp2
  refine ⟨trivial, (fun h => by cases h), ?_⟩
  refine HC.out.mono ?_
  rintro e' W2 (⟨rfl, xs, hxs, hJ2, -⟩ | ⟨rfl, xs, hm, hx⟩)
  · have HE : Hid ((∃ xs, List.map Item.st xs = flatT l ∧ J xs W2) ∨ ∃ pre, (∀ (s : St), s ∈ List.map Item.st pre → s ∈ flatT l) ∧ Jx pre W2) := hid (.inl ⟨xs, hxs, by simpa using hJ2⟩)
    clear hxs hJ2
    gi_wp2
    exact bodyPost_end (results_none rfl _ _ _) rfl ⟨⟨_, rfl⟩, HE.out⟩
  · have HE : Hid ((∃ xs, List.map Item.st xs = flatT l ∧ J xs W2) ∨ ∃ pre, (∀ (s : St), s ∈ List.map Item.st pre → s ∈ flatT l) ∧ Jx pre W2) := hid (.inr ⟨xs, hm, by simpa using hx⟩)
    clear hm hx
    gi_wp2
    exact bodyPost_end (results_none rfl _ _ _) rfl ⟨⟨_, rfl⟩, HE.out⟩
end Go.Proofs.Ytaklfjjkeebheaa
