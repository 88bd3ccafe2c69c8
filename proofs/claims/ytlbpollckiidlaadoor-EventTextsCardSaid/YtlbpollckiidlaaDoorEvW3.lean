/-
  What event.Parse leans on: the library's Split, Atoi, ParseInt; what a text is parsed to.
-/
import Derived.Test.YtlbpollckiidlaaDoorEvW2
import Derived.Lib.SplitLaws
import Derived.Lib.AtoiErrMem
import Derived.Lib.ParseIntBTie
namespace Go.Proofs.YtlbpollckiidlaaDoor
set_option linter.unusedVariables false
set_option linter.unusedSimpArgs false
open Go Go.RowKit
theorem strV_ba (b : ByteArray) : strV b.data.toList = .string b := by
  unfold strV; rw [← ba_eq b _ rfl]
theorem split_any (L : List UInt8) (hl : L.length ≤ 1000) (W : World) (hS : Std W) :
    Calls Tryd.prog 27 #[.string ⟨L.toArray⟩, .string ⟨#[32]⟩] W fun e w' => e = .returned (.slice (some ⟨W.heap.size, 0, none⟩) (Lib.split L [32]).length (Lib.split L [32]).length) ∧ w' = W.alloc (.cells ((Lib.split L [32]).map strV).toArray 9) := by
  obtain ⟨m, hm⟩ := hS.mx
  have h := Tryd.strings_Split ⟨L.toArray⟩ ⟨#[32]⟩ m W (by show L.toArray.size < _; simp; omega) hm (by decide)
  have hd := Lib.splitB_data ⟨#[32]⟩ 0 (Lib.countB ⟨L.toArray⟩ ⟨#[32]⟩) ⟨L.toArray⟩
  have hlen := Lib.splitB_all ⟨#[32]⟩ (by decide) 0 _ ⟨L.toArray⟩ rfl
  have e1 : Lib.splitK (⟨#[32]⟩ : ByteArray).data.toList 0 (Lib.countB ⟨L.toArray⟩ ⟨#[32]⟩) (⟨L.toArray⟩ : ByteArray).data.toList = Lib.split L [32] := by
    simp [Lib.split, Lib.countB]
  rw [e1] at hd
  have e2 : (Lib.splitB ⟨#[32]⟩ 0 (Lib.countB ⟨L.toArray⟩ ⟨#[32]⟩) ⟨L.toArray⟩).map Value.string = (Lib.split L [32]).map strV := by
    rw [← hd, List.map_map]
    exact List.map_congr_left fun b _ => (strV_ba b).symm
  have e3 : Lib.countB ⟨L.toArray⟩ ⟨#[32]⟩ + 1 = (Lib.split L [32]).length := by rw [← hd, List.length_map, hlen]
  rw [e2, e3] at h
  exact h
theorem split_len (L : List UInt8) : ∀ t ∈ Lib.split L [32], t.length ≤ L.length := by
  have key : ∀ (k : Nat) (s : List UInt8), ∀ t ∈ Lib.splitK [32] 0 k s, t.length ≤ s.length := by
    intro k
    induction k with
    | zero => intro s t ht; simp [Lib.splitK] at ht; subst ht; exact Nat.le_refl _
    | succ k ih =>
      intro s t ht
      unfold Lib.splitK at ht
      split at ht
      · simp at ht; subst ht; exact Nat.le_refl _
      · rcases List.mem_cons.1 ht with rfl | ht
        · rw [List.length_take]; omega
        · have := ih _ t ht
          rw [List.length_drop] at this
          omega
  exact fun t ht => key _ L t ht
theorem atoi_ok (t : List UInt8) (hl : t.length ≤ 1000) (v : Int) (h : Lib.atoiAll t = .ok v) (W : World) :
    Calls Tryd.prog 28 #[.string ⟨t.toArray⟩] W fun e w' => e = .returned (.tuple #[.int .i64 v, .nilIface]) ∧ Below W.heap.size W w' := by
  refine (Tryd.strconv_Atoi_ok ⟨t.toArray⟩ (by show t.toArray.size ≤ _; simp; omega) v (by simpa using h) W).mono ?_
  rintro e w' ⟨h1, rfl | ⟨q, rfl⟩⟩
  · exact ⟨h1, ext_refl _⟩
  · exact ⟨h1, Lib.bytesWorld_below _ _ _⟩
theorem atoi_bad (t : List UInt8) (hl : t.length ≤ 1000) (h : ∀ v, Lib.atoiAll t ≠ .ok v) (W : World) (hS : Std W) :
    Calls Tryd.prog 28 #[.string ⟨t.toArray⟩] W fun e w' => ∃ v N, e = .returned (.tuple #[.int .i64 v, .iface 92 (.pointer (some ⟨N, 0, none⟩))]) ∧ Below W.heap.size W w' := by
  obtain ⟨tp, p, h4⟩ := hS.syn
  obtain ⟨tq, q, h5⟩ := hS.ran
  have hsz : (⟨t.toArray⟩ : ByteArray).size ≤ 281474976710656 := by show t.toArray.size ≤ _; simp; omega
  cases hr : Lib.atoiAll t
  · exact absurd hr (h _)
  · refine (Tryd.strconv_Atoi_syntax_var ⟨t.toArray⟩ hsz (by rw [show (⟨t.toArray⟩ : ByteArray).data.toList = t by simp]; exact hr) tp p W h4).mono ?_
    rintro e w' ⟨N, h1, -, -, h2⟩
    exact ⟨_, N, h1, h2⟩
  · refine (Tryd.strconv_Atoi_range_var ⟨t.toArray⟩ hsz (by simpa using hr) tq q W h5).mono ?_
    rintro e w' ⟨N, h1, -, -, h2⟩
    exact ⟨_, N, h1, h2⟩
theorem pint_ok (t : List UInt8) (hl : t.length ≤ 1000) (v : Int) (h : Lib.atoiAll t = .ok v) (W : World) :
    Calls Tryd.prog 29 #[.string ⟨t.toArray⟩, .int .i64 10, .int .i64 64] W fun e w' => e = .returned (.tuple #[.int .i64 v, .nilIface]) ∧ Below W.heap.size W w' := by
  refine (Tryd.strconv_ParseInt_10_at64_ok ⟨t.toArray⟩ (by show t.toArray.size ≤ _; simp; omega) v (by rw [Lib.parseIntB_64]; simpa using h) W).mono ?_
  rintro e w' ⟨h1, rfl | ⟨q, rfl⟩⟩
  · exact ⟨h1, ext_refl _⟩
  · exact ⟨h1, Lib.bytesWorld_below _ _ _⟩
theorem pint_bad (t : List UInt8) (hl : t.length ≤ 1000) (h : ∀ v, Lib.atoiAll t ≠ .ok v) (W : World) (hS : Std W) :
    Calls Tryd.prog 29 #[.string ⟨t.toArray⟩, .int .i64 10, .int .i64 64] W fun e w' => ∃ v N, e = .returned (.tuple #[.int .i64 v, .iface 92 (.pointer (some ⟨N, 0, none⟩))]) ∧ Below W.heap.size W w' := by
  obtain ⟨tp, p, h4⟩ := hS.syn
  obtain ⟨tq, q, h5⟩ := hS.ran
  have hsz : (⟨t.toArray⟩ : ByteArray).size ≤ 281474976710656 := by show t.toArray.size ≤ _; simp; omega
  cases hr : Lib.atoiAll t
  · exact absurd hr (h _)
  · refine (Tryd.strconv_ParseInt_10_at64_syntax_var ⟨t.toArray⟩ hsz (by rw [show (⟨t.toArray⟩ : ByteArray).data.toList = t by simp, Lib.parseIntB_64, Lib.parseIntB_64]; exact hr) tp p W h4).mono ?_
    rintro e w' ⟨N, h1, -, -, h2⟩
    exact ⟨_, N, h1, h2⟩
  · refine (Tryd.strconv_ParseInt_10_at64_range_var ⟨t.toArray⟩ hsz (by rw [Lib.parseIntB_64]; simpa using hr) tq q W h5).mono ?_
    rintro e w' ⟨N, h1, -, -, h2⟩
    exact ⟨_, N, h1, h2⟩

/-! ### What a text is parsed to -/
def okOf : Lib.NumEnd Int → Option Int
  | .ok v => some v
  | _ => none
theorem okOf_none {r : Lib.NumEnd Int} (h : ∀ v, r ≠ .ok v) : okOf r = none := by
  cases r
  · exact absurd rfl (h _)
  · rfl
  · rfl
def numsOf : List (List UInt8) → Option (List Int)
  | [] => some []
  | t :: r => match okOf (Lib.atoiAll t), numsOf r with
    | some v, some l => some (v :: l)
    | _, _ => none
theorem numsOf_get : ∀ {T : List (List UInt8)} {ns : List Int}, ns.length = T.length → (∀ j (h : j < T.length) (h' : j < ns.length), Lib.atoiAll T[j] = .ok ns[j]) → numsOf T = some ns
  | [], [], _, _ => rfl
  | [], _ :: _, h, _ => by simp at h
  | _ :: _, [], h, _ => by simp at h
  | t :: T, n :: ns, h, hall => by
    have h0 := hall 0 (by simp) (by simp)
    simp only [List.getElem_cons_zero] at h0
    have ih := numsOf_get (T := T) (ns := ns) (by simpa using h) (fun j h1 h2 => by
      have := hall (j + 1) (by simpa using h1) (by simpa using h2)
      simp only [List.getElem_cons_succ] at this
      exact this)
    simp only [numsOf, h0, okOf, ih]
theorem numsOf_bad : ∀ {T : List (List UInt8)} (j : Nat) (h : j < T.length), (∀ v, Lib.atoiAll T[j] ≠ .ok v) → numsOf T = none
  | t :: T, 0, _, hb => by
    have := okOf_none (r := Lib.atoiAll t) hb
    simp [numsOf, this]
  | t :: T, j + 1, h, hb => by
    have ih := numsOf_bad (T := T) j (by simpa using h) (by simpa using hb)
    unfold numsOf
    rw [ih]
    cases okOf (Lib.atoiAll t) <;> rfl
def putF (e : Ev) (f : FuncId) (n : Int) : Ev :=
  if f = 107 then { e with tx := n } else if f = 101 then { e with at_ := n } else if f = 108 then { e with v := n } else if f = 109 then { e with x := n } else { e with why := n % 256 }
def foldPut (e : Ev) : List FuncId → List Int → Ev
  | f :: fs, n :: ns => foldPut (putF e f n) fs ns
  | _, _ => e
theorem foldPut_snoc : ∀ (e : Ev) (fs : List FuncId) (ns : List Int) (f : FuncId) (n : Int), fs.length = ns.length → foldPut e (fs ++ [f]) (ns ++ [n]) = putF (foldPut e fs ns) f n
  | e, [], [], f, n, _ => rfl
  | e, [], _ :: _, f, n, h => by simp at h
  | e, _ :: _, [], f, n, h => by simp at h
  | e, g :: fs, m :: ns, f, n, h => by
    simp only [List.cons_append, foldPut]
    exact foldPut_snoc _ fs ns f n (by simpa using h)
def evZ : Ev := ⟨0, 0, 0, 0, 0, 0, 0⟩
def parseE (L : List UInt8) : Option Ev :=
  match Lib.split L [32] with
  | t0 :: t1 :: rest =>
    match kindOf t1, okOf (Lib.atoiAll t0) with
    | some k, some th => if rest.length = (kindsL.getD k []).length then (numsOf rest).map fun ns => foldPut ⟨(k : Int), th, 0, 0, 0, 0, 0⟩ (kindsL.getD k []) ns else none
    | _, _ => none
  | _ => none
def parseR (L : List UInt8) : Ev × Int :=
  match parseE L with
  | some e => if mayT e = true ∧ showT e = L then (e, 0) else (evZ, 4)
  | none => (evZ, 4)
theorem parseR_none {L : List UInt8} (h : parseE L = none) : parseR L = (evZ, 4) := by unfold parseR; rw [h]
theorem parseR_some {L : List UInt8} {e : Ev} (h : parseE L = some e) : parseR L = if mayT e = true ∧ showT e = L then (e, 0) else (evZ, 4) := by unfold parseR; rw [h]
theorem numsOf_map : ∀ (l : List Int), (∀ n ∈ l, -9223372036854775808 ≤ n ∧ n ≤ 9223372036854775807) → numsOf (l.map Lib.itoa) = some l
  | [], _ => rfl
  | a :: l, h => by
    have ha := h a (by simp)
    simp only [List.map_cons, numsOf, atoi_itoa a ha.1 ha.2, okOf, numsOf_map l (fun n hn => h n (by simp [hn]))]
theorem foldPut_parts (e : Ev) (k : Nat) (hk : e.kind = (k : Int)) (h : k < 14) (hw : 0 ≤ e.why ∧ e.why ≤ 255) : foldPut ⟨(k : Int), e.th, 0, 0, 0, 0, 0⟩ (kindsL.getD k []) (partsE e) = bareE e := by
  have hc : k = 0 ∨ k = 1 ∨ k = 2 ∨ k = 3 ∨ k = 4 ∨ k = 5 ∨ k = 6 ∨ k = 7 ∨ k = 8 ∨ k = 9 ∨ k = 10 ∨ k = 11 ∨ k = 12 ∨ k = 13 := by omega
  have hm : e.why % 256 = e.why := by omega
  unfold partsE bareE
  rw [hk]
  rcases hc with rfl | rfl | rfl | rfl | rfl | rfl | rfl | rfl | rfl | rfl | rfl | rfl | rfl | rfl <;> simp [kindsL, foldPut, putF, hm]
/-- The text of an event that may be is parsed to it. -/
theorem parse_show {e : Ev} (he : EvOk e) (hm : mayT e = true) : parseE (showT e) = some e := by
  obtain ⟨hk, hth, hb⟩ := mayT_of hm
  obtain ⟨k, hkk⟩ : ∃ k : Nat, e.kind = (k : Int) := Int.eq_ofNat_of_zero_le (by omega)
  have hko : kindOf (kindName e.kind) = some k := by
    unfold kindName; rw [hkk]
    exact kindOf_some (by omega) (by omega) rfl
  have hp := parts_ok (e := e) ⟨he.2.2.1, he.2.2.2.1, he.2.2.2.2.1, he.2.2.2.2.2.1, he.2.2.2.2.2.2⟩
  unfold parseE
  rw [split_show]
  simp only [hko, atoi_itoa e.th (by omega) (by omega), okOf]
  rw [if_pos (by rw [List.length_map, parts_is e k hkk (by omega), List.length_map]), numsOf_map _ hp]
  simp only [Option.map_some]
  rw [foldPut_parts e k hkk (by omega) he.2.2.2.2.2.2, ← hb]
theorem parseR_show {e : Ev} (he : EvOk e) (hm : mayT e = true) : parseR (showT e) = (e, 0) := by
  rw [parseR_some (parse_show he hm), if_pos ⟨hm, rfl⟩]
theorem parseR_ok {L : List UInt8} {e : Ev} {x : Int} (h : parseR L = (e, x)) : x = 0 ∧ mayT e = true ∧ showT e = L ∨ x = 4 ∧ e = evZ := by
  unfold parseR at h
  split at h
  · split at h
    · rename_i hc; cases h; exact Or.inl ⟨rfl, hc⟩
    · cases h; exact Or.inr ⟨rfl, rfl⟩
  · cases h; exact Or.inr ⟨rfl, rfl⟩
end Go.Proofs.YtlbpollckiidlaaDoor
