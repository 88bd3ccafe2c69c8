/-
  Walks: event.Show.
-/
import Derived.Test.YtlbpollckiidlaaDoorEvW1
import Derived.Test.YtlbpollckiidlaaDoorShN
import Derived.Test.YtlbpollckiidlaaDoorReg4
import Derived.Test.YtlbpollckiidlaaDoorShelf
import Derived.Deep.MidRow
import Derived.Laws.AppendOwn
import Derived.Lib.ItoaLen
namespace Go.Proofs.YtlbpollckiidlaaDoor
set_option linter.unusedVariables false
set_option linter.unusedSimpArgs false
open Go Go.RowKit
theorem var_below {P : Program} {w w' : World} {n : String} {cs : Array Value} (hb : Below w.heap.size w w') (h : w.var? P n = some cs) : w'.var? P n = some cs := by
  unfold World.var? at h ⊢
  obtain ⟨g, hg, hc⟩ := Option.bind_eq_some_iff.1 h
  rw [hg]
  simp only [Option.bind_some]
  have hl : g < w.heap.size := by
    rcases Nat.lt_or_ge g w.heap.size with h' | h'
    · exact h'
    · rw [Array.getElem?_eq_none h'] at hc; simp at hc
  rw [hb.block g hl]; exact hc
/-- What the laws' rows lay: the tables and the errors of the library. -/
structure Std (w : World) : Prop where
  kinds : KindsAt w
  names : NamesAt w
  tab : Lib.TabIs Tryd.prog w "internal/strconv.uint64pow10" .u64 Lib.pow10Tab
  syn : ∃ tp p, w.var? Tryd.prog "strconv.ErrSyntax" = some #[.iface tp p]
  ran : ∃ tp p, w.var? Tryd.prog "strconv.ErrRange" = some #[.iface tp p]
  mx : ∃ m, w.cell? ⟨5, 0, none⟩ = some (.int .i64 m)
theorem Std.below {w w' : World} (hb : Below w.heap.size w w') (h : Std w) : Std w' := by
  obtain ⟨tp, p, h4⟩ := h.syn
  obtain ⟨tq, q, h5⟩ := h.ran
  obtain ⟨m, h6⟩ := h.mx
  exact ⟨h.kinds.below hb, h.names.below hb, var_below hb h.tab, ⟨tp, p, var_below hb h4⟩, ⟨tq, q, var_below hb h5⟩, ⟨m, later hb h6⟩⟩
theorem below_grown' (w : World) (k : Nat) (os : Array Obj) : Below w.heap.size w (Sort.grow (w.drewN k) os) := by
  have h := ext_drewN (ext_refl w) k
  refine ⟨h.os, h.tape, h.output, Nat.le_trans h.size (by simp [Sort.grow]), fun i hi => ?_⟩
  rw [← h.block i hi]
  simp only [Sort.grow]
  exact Array.getElem?_append_left (Nat.lt_of_lt_of_le hi h.size)
/-- What a part gets. -/
def partF (e : Ev) (f : FuncId) : Int := if f = 107 then e.tx else if f = 101 then e.at_ else if f = 108 then e.v else if f = 109 then e.x else e.why
theorem parts_is (e : Ev) (k : Nat) (hk : e.kind = (k : Int)) (h : k < 14) : partsE e = (kindsL.getD k []).map (partF e) := by
  have hc : k = 0 ∨ k = 1 ∨ k = 2 ∨ k = 3 ∨ k = 4 ∨ k = 5 ∨ k = 6 ∨ k = 7 ∨ k = 8 ∨ k = 9 ∨ k = 10 ∨ k = 11 ∨ k = 12 ∨ k = 13 := by omega
  unfold partsE
  rw [hk]
  rcases hc with rfl | rfl | rfl | rfl | rfl | rfl | rfl | rfl | rfl | rfl | rfl | rfl | rfl | rfl <;> simp [kindsL, partF]
theorem part_cases {k : Nat} {f : FuncId} (h : f ∈ kindsL.getD k []) : f = 107 ∨ f = 101 ∨ f = 108 ∨ f = 109 ∨ f = 110 := by
  have hall : ∀ l ∈ kindsL, ∀ f ∈ l, f = 107 ∨ f = 101 ∨ f = 108 ∨ f = 109 ∨ f = 110 := by decide
  rw [List.getD_eq_getElem?_getD] at h
  cases hl : kindsL[k]? with
  | none => rw [hl] at h; simp at h
  | some l => rw [hl] at h; exact hall l (List.mem_of_getElem? hl) f h
theorem infoStr : (Tryd.prog.info? 9).map (fun i => (i.zero, i.size, i.bytes)) = some (some (.string ByteArray.empty), 1, 16) := by kernel_rfl
set_option maxRecDepth 100000 in
set_option maxHeartbeats 4000000 in
theorem show_no (e : Ev) (w : World) (he : EvOk e) (hS : Std w) (hm : mayT e = false) : Calls Tryd.prog 11 #[evA e] w fun e' w' => e' = .returned (.tuple #[.string ⟨#[]⟩, .int .i64 4]) ∧ Below w.heap.size w w' := by
  have HM := hid (fun W (hW : Below w.heap.size w W) => may_any e 6 32 32 W he (hS.kinds.below hW))
  rw [show mayE e 6 32 32 = false from hm] at HM
  obtain ⟨kind, th, tx, at_, v, x, why⟩ := e
  clear he hS hm
  dsimp only [evA] at HM ⊢
  have HB : Hid (Below w.heap.size w (w.alloc (.cells #[.int .u8 kind, .int .i64 th, .int .i64 tx, .int .i64 at_, .int .i64 v, .int .i64 x, .int .u8 why] 23))) := hid (ext_alloc (ext_refl _) _)
  go_enter Tryd.func11, Tryd.ntmps11
  go_wp2_with fail
  refine (HM.out _ HB.out).mono ?_
  rintro e' w1 ⟨rfl, hb1⟩
  have HB1 := hid (ext_trans HB.out hb1)
  clear hb1
  go_wp2_with fail
  go_ret2
  exact ⟨rfl, HB1.out⟩
theorem cell_one (w : World) (v : Value) (t : TypeId) : ∀ (j : Nat) (u : Value), [v][j]? = some u → (w.alloc (.cells #[v] t)).cell? ((⟨w.heap.size, 0, none⟩ : Addr).add j) = some u := by
  intro j u hj
  match j, hj with
  | 0, hj =>
    simp at hj; subst hj
    have : (⟨w.heap.size, 0, none⟩ : Addr).add 0 = ⟨w.heap.size, 0, none⟩ := by simp [Addr.add]
    rw [this]
    exact (Blk.new w #[v] t).cell 0 rfl
theorem owns_below {w w' : World} {B n size : Nat} {e : TypeId} {v : Value} {xs : List Value} (h : w.ownsRow B e size v n xs) (hb : Below w.heap.size w w') : w'.ownsRow B e size v n xs := by
  obtain ⟨h0, h1⟩ := h
  refine ⟨h0, ?_⟩
  rcases h1 with h1 | ⟨g, cap, cur, e1, e2, e3, e4⟩
  · exact Or.inl h1
  · refine Or.inr ⟨g, cap, cur, e1, e2, ?_, e4⟩
    have : g < w.heap.size := by
      rcases Nat.lt_or_ge g w.heap.size with h' | h'
      · exact h'
      · rw [Array.getElem?_eq_none h'] at e3; simp at e3
    rw [hb.block g this]; exact e3
theorem row_grown {w wr w1 : World} {B n size : Nat} {e : TypeId} {v : Value} {xs : List Value} {o : Obj} (hb : Below B w wr) (h : wr.ownsRow B e size v n xs) (hg : (wr.alloc o).grownBy w1 v.ownBlock) (hB : B ≤ wr.heap.size) : Below B w w1 :=
  (hb.alloc hB o).grown hg (Nat.le_trans hB (by show _ ≤ (wr.heap.push _).size; rw [Array.size_push]; omega)) fun k hk => by
    rcases h.2 with ⟨rfl, -⟩ | ⟨g, cap, cur, rfl, hg2, -⟩
    · cases hk
    · cases hk; exact hg2
theorem showT_len (e : Ev) (he : EvOk e) (hm : mayT e = true) : (showT e).length ≤ 140737488355328 := by
  obtain ⟨hk, hth, -⟩ := mayT_of hm
  have hl : ∀ n : Int, -9223372036854775808 ≤ n → n ≤ 9223372036854775807 → (Lib.itoa n).length ≤ 21 := Lib.itoa_length_le
  have hn : (kindName e.kind).length ≤ 6 := by
    have : ∀ a : Fin 14, (kindNames.getD a.val []).length ≤ 6 := by decide
    exact this ⟨e.kind.toNat, by omega⟩
  have hp := parts_ok (e := e) ⟨he.2.2.1, he.2.2.2.1, he.2.2.2.2.1, he.2.2.2.2.2.1, he.2.2.2.2.2.2⟩
  have h1 := hl e.th (by omega) (by omega)
  have hpl : (partsE e).length ≤ 2 := by
    unfold partsE
    repeat' split
    all_goals simp
  unfold showT
  generalize partsE e = l at hp hpl
  match l, hpl with
  | [], _ => simp [Lib.join_length, Lib.lens]; omega
  | [a], _ =>
    have ha := hl a (hp a (by simp)).1 (hp a (by simp)).2
    simp [Lib.join_length, Lib.lens]; omega
  | [a, b], _ =>
    have ha := hl a (hp a (by simp)).1 (hp a (by simp)).2
    have hb := hl b (hp b (by simp)).1 (hp b (by simp)).2
    simp [Lib.join_length, Lib.lens]; omega
theorem owns_snoc {w : World} {B m : Nat} {e : TypeId} {v A C x : Value} {fs : List FuncId} {g : FuncId → Value} {f : FuncId} (hm : m < fs.length) (hf : fs[m] = f) (hg : g f = x) (h : w.ownsRow B e 1 v (2 + m + 1) ((A :: C :: (fs.take m).map g) ++ [x])) : w.ownsRow B e 1 v (2 + (m + 1)) (A :: C :: (fs.take (m + 1)).map g) := by
  rw [List.take_succ_eq_append_getElem hm, List.map_append, hf, List.map_cons, List.map_nil, hg]
  exact h
/-- What each operation of Show's row yields. -/
def ShowV (B B1 k : Nat) (th : Int) (i : Nat) (v : Value) (w : World) : Prop :=
  match i with
  | 0 => v = .pointer (some ⟨B, 1, none⟩)
  | 1 => v = .int .i64 th
  | 2 => v = strV (Lib.itoa th)
  | 3 => v = .pointer (some ⟨B, 0, none⟩)
  | 4 => v = .int .u8 (k : Int)
  | 5 => v = .pointer (some ⟨0, k * 2, none⟩)
  | 6 => v = .pointer (some ⟨0, k * 2, none⟩)
  | 7 => v = strV (kindNames.getD k [])
  | _ => ∃ b, B1 ≤ b ∧ v = .slice (some ⟨b, 0, none⟩) 2 2 ∧ Blk w b #[strV (Lib.itoa th), strV (kindNames.getD k [])] 9
theorem ShowV.below {B B1 k i : Nat} {th : Int} {v : Value} {w w' : World} (h : ShowV B B1 k th i v w) (hb : Below w.heap.size w w') : ShowV B B1 k th i v w' := by
  unfold ShowV at h ⊢
  split at h
  all_goals first
    | exact h
    | (obtain ⟨b, h1, h2, h3⟩ := h; exact ⟨b, h1, h2, h3.below hb⟩)
set_option maxRecDepth 100000 in
set_option maxHeartbeats 4000000 in
theorem show_yes (e : Ev) (w : World) (he : EvOk e) (hS : Std w) (hm : mayT e = true) : Calls Tryd.prog 11 #[evA e] w fun e' w' => e' = .returned (.tuple #[strV (showT e), .int .i64 0]) ∧ Below w.heap.size w w' := by
  have HM := hid (fun W (hW : Below w.heap.size w W) => may_any e 6 32 32 W he (hS.kinds.below hW))
  rw [show mayE e 6 32 32 = true from hm] at HM
  obtain ⟨hk, hth, -⟩ := mayT_of hm
  have HE := hid he
  have HS := hid hS
  obtain ⟨i0, hi, hz0, hz1, hz2⟩ := info_parts infoStr
  obtain ⟨k, hkk⟩ : ∃ k : Nat, e.kind = (k : Int) := Int.eq_ofNat_of_zero_le (by omega)
  obtain ⟨n, hnn⟩ : ∃ n : Nat, e.th = (n : Int) := Int.eq_ofNat_of_zero_le (by omega)
  have hk14 : k < 14 := by omega
  have hp := parts_is e k hkk hk14
  have HT1 : Hid (showT e = Lib.join (Lib.itoa (n : Int) :: kindNames.getD k [] :: ((kindsL.getD k []).map (partF e)).map Lib.itoa) [32]) := hid (by
    unfold showT kindName; rw [← hp, hkk, hnn]; rfl)
  have HSZ : Hid ((showT e).length ≤ 140737488355328) := hid (showT_len e he hm)
  have HP : Hid (∀ f ∈ kindsL.getD k [], -9223372036854775808 ≤ partF e f ∧ partF e f ≤ 9223372036854775807) := hid (by
    intro f hf
    have := parts_ok (e := e) ⟨he.2.2.1, he.2.2.2.1, he.2.2.2.2.1, he.2.2.2.2.2.1, he.2.2.2.2.2.2⟩ (partF e f) (by rw [hp]; exact List.mem_map_of_mem hf)
    exact this)
  have j1 : (0 : Int) ≤ (k : Int) := by omega
  have j2 : (k : Int) < 14 := by omega
  have HN6 := hid (show n < 100 by omega)
  have HK14 := hid hk14
  have HPF : Hid (∀ f, partF e f = partF e f) := hid fun _ => rfl
  generalize hfs : kindsL.getD k [] = fs at HT1 HP
  have HFS : Hid (kindsL[k]? = some fs) := hid (by
    rw [← hfs, List.getD_eq_getElem?_getD]
    cases hl : kindsL[k]? with
    | none => exact absurd (List.getElem?_eq_none_iff.1 hl) (by simp [kindsL]; omega)
    | some l => rfl)
  have HFC := hid (fun f (h : f ∈ fs) => part_cases (k := k) (f := f) (by rw [hfs]; exact h))
  have HFL : Hid (fs.length ≤ 2) := hid (by
    subst hfs
    have : ∀ a : Fin 14, (kindsL.getD a.val []).length ≤ 2 := by decide
    exact this ⟨k, hk14⟩)
  obtain ⟨kind, th, tx, at_, v, x, why⟩ := e
  dsimp only at hkk hnn
  subst hkk; subst hnn
  clear he hS hm hk hth hp hk14 hfs HPF
  have HM' := HM
  dsimp only [evA] at HM ⊢
  have HB : Hid (Below w.heap.size w (w.alloc (.cells #[.int .u8 (k : Int), .int .i64 (n : Int), .int .i64 tx, .int .i64 at_, .int .i64 v, .int .i64 x, .int .u8 why] 23))) := hid (ext_alloc (ext_refl _) _)
  have d := Blk.new w #[.int .u8 (k : Int), .int .i64 (n : Int), .int .i64 tx, .int .i64 at_, .int .i64 v, .int .i64 x, .int .u8 why] 23
  go_enter Tryd.func11, Tryd.ntmps11
  go_wp2_with fail
  refine (HM.out _ HB.out).mono ?_
  rintro e' w1 ⟨rfl, hb1⟩
  have HD : Hid (Blk w1 w.heap.size #[.int .u8 (k : Int), .int .i64 (n : Int), .int .i64 tx, .int .i64 at_, .int .i64 v, .int .i64 x, .int .u8 why] 23) := hid (d.below hb1)
  have HB1 := hid (ext_trans HB.out hb1)
  clear hb1 d
  go_wp2_with fail
  refine wp_region_ops (by kernel_rfl) (by kernel_rfl) (by kernel_rfl) (by kernel_rfl) (ShowV w.heap.size w1.heap.size k (n : Int)) (fun w' => Below w1.heap.size w1 w') (fun w1 w2 => Below w1.heap.size w1 w2) ?_ (by kernel_rfl) (fun i v w w' h g => h.below g) (ext_drew (ext_refl _)) ?_ ?_
  · intro i o hio
    match i with
    | 0 => obtain rfl := Option.some.inj hio; exact trivial
    | 1 => obtain rfl := Option.some.inj hio; exact trivial
    | 2 => obtain rfl := Option.some.inj hio; exact trivial
    | 3 => obtain rfl := Option.some.inj hio; exact trivial
    | 4 => obtain rfl := Option.some.inj hio; exact trivial
    | 5 => obtain rfl := Option.some.inj hio; exact trivial
    | 6 => obtain rfl := Option.some.inj hio; exact trivial
    | 7 => obtain rfl := Option.some.inj hio; exact trivial
    | 8 => obtain rfl := Option.some.inj hio; exact trivial
    | 9 => obtain rfl := Option.some.inj hio; exact trivial
    | n + 10 => exact absurd (Array.getElem?_eq_some_iff.1 hio).1 (by simp)
  · intro i o hio ρ w' hG hc hg hf hv hfar
    match i with
    | 0 =>
      obtain rfl := Option.some.inj hio
      unfold OpY
      have f1 : ρ (.tmp 1) = .pointer (some ⟨w.heap.size, 0, none⟩) := hfar 1 (by kernel_rfl)
      clear hv hfar
      go_simp
      exact ⟨rfl, hG, ext_refl _⟩
    | 1 =>
      obtain rfl := Option.some.inj hio
      unfold OpY
      have v0 : ρ (.tmp 10) = .pointer (some ⟨w.heap.size, 1, none⟩) := hv 0 10 (by kernel_rfl) rfl
      have d1 := (HD.out.below hG).cell 1 rfl
      clear hv hfar
      go_simp
      exact ⟨rfl, hG, ext_refl _⟩
    | 2 =>
      obtain rfl := Option.some.inj hio
      unfold OpY
      have v1 : ρ (.tmp 11) = .int .i64 (n : Int) := hv 1 11 (by kernel_rfl) rfl
      clear hv hfar
      go_simp
      unfold OpR
      refine (Tryd.strconv_Itoa_small n HN6.out w').mono ?_
      rintro e' w2 ⟨rfl, rfl⟩
      exact ⟨_, rfl, (show Value.string _ = strV _ by unfold strV; rw [show Lib.itoa (n : Int) = Lib.decDigits n by unfold Lib.itoa; rw [if_neg (by omega)]; simp]), hG, ext_refl _⟩
    | 3 =>
      obtain rfl := Option.some.inj hio
      unfold OpY
      have f1 : ρ (.tmp 1) = .pointer (some ⟨w.heap.size, 0, none⟩) := hfar 1 (by kernel_rfl)
      clear hv hfar
      go_simp
      exact ⟨rfl, hG, ext_refl _⟩
    | 4 =>
      obtain rfl := Option.some.inj hio
      unfold OpY
      have v3 : ρ (.tmp 13) = .pointer (some ⟨w.heap.size, 0, none⟩) := hv 3 13 (by kernel_rfl) rfl
      have d0 := (HD.out.below hG).cell 0 rfl
      clear hv hfar
      go_simp
      exact ⟨rfl, hG, ext_refl _⟩
    | 5 =>
      obtain rfl := Option.some.inj hio
      unfold OpY
      have v4 : ρ (.tmp 14) = .int .u8 (k : Int) := hv 4 14 (by kernel_rfl) rfl
      clear hv hfar
      go_simp
      exact ⟨rfl, hG, ext_refl _⟩
    | 6 =>
      obtain rfl := Option.some.inj hio
      unfold OpY
      have v5 : ρ (.tmp 15) = .pointer (some ⟨0, k * 2, none⟩) := hv 5 15 (by kernel_rfl) rfl
      clear hv hfar
      go_simp
      exact ⟨rfl, hG, ext_refl _⟩
    | 7 =>
      obtain rfl := Option.some.inj hio
      unfold OpY
      have v6 : ρ (.tmp 16) = .pointer (some ⟨0, k * 2, none⟩) := hv 6 16 (by kernel_rfl) rfl
      have c := (HS.out.names.below (ext_trans HB1.out hG)) k HK14.out
      unfold strV at c
      clear hv hfar
      go_simp
      exact ⟨rfl, hG, ext_refl _⟩
    | 8 =>
      obtain rfl := Option.some.inj hio
      unfold OpY
      have v2 : ρ (.tmp 12) = strV (Lib.itoa (n : Int)) := hv 2 12 (by kernel_rfl) rfl
      have v7 : ρ (.tmp 17) = strV (kindNames.getD k []) := hv 7 17 (by kernel_rfl) rfl
      unfold strV at v2 v7
      clear hv hfar
      go_simp
      exact ⟨⟨_, hG.size, rfl, Blk.new _ _ _⟩, ext_alloc hG _, ext_alloc (ext_refl _) _⟩
    | 9 =>
      obtain rfl := Option.some.inj hio
      unfold OpY
      obtain ⟨b, h1, v8, h2⟩ : ShowV w.heap.size w1.heap.size k (n : Int) 8 (ρ (.tmp 18)) w' := hv 8 18 (by kernel_rfl) rfl
      clear hv hfar
      go_simp
      exact ⟨⟨b, h1, rfl, h2⟩, hG, ext_refl _⟩
    | n + 10 => exact absurd (Array.getElem?_eq_some_iff.1 hio).1 (by simp)
  · intro vals w2 hG hV
    obtain ⟨b0, hb0, v9, hblk⟩ : ShowV w.heap.size w1.heap.size k (n : Int) 9 (vals 9) w2 := hV 9 (by decide)
    have HB2 := hid hG
    have HD2 := hid (HD.out.below hG)
    have HO2 : Hid (w2.ownsRow w1.heap.size 9 1 (.slice (some ⟨b0, 0, none⟩) 2 2) 2 [strV (Lib.itoa (n : Int)), strV (kindNames.getD k [])]) := hid ⟨rfl, Or.inr ⟨b0, 2, _, rfl, hb0, hblk, by omega, by unfold maxLen; omega, rfl, rfl⟩⟩
    clear hV hG hblk hb0
    simp [putAll, dstOf, Act.put, v9]
    obtain ⟨a, cap, c1, -, c3⟩ := HS.out.kinds k fs HFS.out
    have c1' := later (ext_trans HB1.out HB2.out) c1
    have d0 := HD2.out.cell 0 rfl
    have HC3 := hid c3
    clear c3 c1
    go_wp2_with fail
    clear c1' d0
    go_loopw [4, 25] (fun o i wr => ∃ m : Nat, m ≤ fs.length ∧ i = .int .i64 (m : Int) ∧ Hid (wr.ownsRow w1.heap.size 9 1 o (2 + m) (strV (Lib.itoa (n : Int)) :: strV (kindNames.getD k []) :: ((fs.take m).map fun f => strV (Lib.itoa (partF ⟨(k : Int), (n : Int), tx, at_, v, x, why⟩ f))))) ∧ Hid (Below w1.heap.size w1 wr)) (fun _ i _ => fs.length - (intOf i).toNat)
    case atStart => exact ⟨0, Nat.zero_le _, rfl, HO2, HB2⟩
    case round =>
      obtain ⟨m, hm, rfl, HO, HB5⟩ := hrel
      have HM5 := hid hm
      have HBW := hid (ext_trans HB1.out HB5.out)
      by_cases hlt : m < fs.length
      · have g1 : decide ((m : Int) < (fs.length : Int)) = true := by rw [decide_eq_true_iff]; omega
        have g2 : decide (m < fs.length) = true := by rw [decide_eq_true_iff]; omega
        have g3 : (0 : Int) ≤ (m : Int) := by omega
        have g4 : IntKind.i64.wrap ((m : Int) + 1) = (m : Int) + 1 := IntWalk.i64_in _ (by have := HFL.out; omega)
        obtain ⟨b, o, rfl, hcell⟩ := HC3.out (by intro h; rw [h] at hlt; simp at hlt)
        have c := later HBW.out (hcell m hlt)
        have HBD := hid (HP.out fs[m] (List.getElem_mem hlt))
        have HC5 := HFC.out fs[m] (List.getElem_mem hlt)
        have HLT := hid hlt
        generalize hfn : fs[m] = f at c HBD HC5
        have HFN := hid hfn
        have dd := HD.out.below HB5.out
        have d0 := dd.cell 0 rfl
        have d1 := dd.cell 1 rfl
        have d2 := dd.cell 2 rfl
        have d3 := dd.cell 3 rfl
        have d4 := dd.cell 4 rfl
        have d5 := dd.cell 5 rfl
        have d6 := dd.cell 6 rfl
        have dq := Blk.new wr #[.int .u8 (k : Int), .int .i64 (n : Int), .int .i64 tx, .int .i64 at_, .int .i64 v, .int .i64 x, .int .u8 why] 54
        have HBQ : Hid (Below wr.heap.size wr (wr.alloc (.cells #[.int .u8 (k : Int), .int .i64 (n : Int), .int .i64 tx, .int .i64 at_, .int .i64 v, .int .i64 x, .int .u8 why] 54))) := hid (ext_alloc (ext_refl _) _)
        clear hlt hcell hfn hm dd
        rcases HC5 with rfl | rfl | rfl | rfl | rfl
        · have hpv : partF ⟨(k : Int), (n : Int), tx, at_, v, x, why⟩ 107 = tx := rfl
          rw [hpv] at HBD
          have HGET := hid (fun (W : World) (hc : W.cell? ⟨wr.heap.size, 2, none⟩ = some (.int .i64 tx)) => get_tx wr.heap.size tx W hc (by have := HE.out; simp only [EvOk] at this; omega))
          clear hpv
          go_wp2_with fail
          refine (HGET.out _ (dq.cell 2 rfl)).mono ?_
          rintro e' w3 ⟨rfl, rfl⟩
          clear HGET
          go_wp2_with fail
          refine (Tryd.strconv_FormatInt_10 tx HBD.out.1 HBD.out.2 _ (HS.out.below (ext_trans HBW.out HBQ.out)).tab).mono ?_
          rintro e' w3 ⟨rfl, q1, q2, rfl⟩
          have HG3 : Hid (Below wr.heap.size wr _) := hid (ext_trans HBQ.out (below_grown' _ q1 q2))
          generalize Sort.grow (World.drewN _ q1) q2 = w3 at HG3 ⊢
          have HB6 := hid (HB5.out.trans (HG3.out.mono HB5.out.size))
          have HO6 := hid (owns_below HO.out HG3.out)
          clear dq
          have hML : 2 + m + 1 ≤ maxLen := by have := HFL.out; have := HLT.out; unfold maxLen; omega
          have hBY : (2 + m + 1) * 16 ≤ 140737488355328 := by have := HFL.out; have := HLT.out; omega
          have hBA : w1.heap.size ≤ (w3.alloc (.cells #[.string ⟨(Lib.itoa tx).toArray⟩] 9)).heap.size := by have := HB6.out.size; show _ ≤ (w3.heap.push _).size; rw [Array.size_push]; omega
          have HX := hid (HO6.out.alloc (.cells #[.string ⟨(Lib.itoa tx).toArray⟩] 9))
          go_wp2_with (at_builtin; refine wpList_append_own _ rfl _ _ 40 rfl w1.heap.size 9 i0 (.string ByteArray.empty) 1 16 Tryd.underlying40 hi hz0 hz1 hz2 rfl (by decide) _ _ _ rfl HX.out ⟨w3.heap.size, 0, none⟩ 1 1 [.string ⟨(Lib.itoa tx).toArray⟩] rfl rfl (cell_one _ _ _) (by simp [Value.oneCell']) hML hBY hBA ?_; intro v' w4 hown' hgrow _; have HB7 := hid (row_grown HB6.out HO6.out hgrow HB6.out.size); have HO7 := hid (owns_snoc HLT.out HFN.out rfl hown'); clear hown' hgrow)
          go_roundw
          case rel => exact ⟨m + 1, by have := HLT.out; omega, by simp, HO7, HB7⟩
          case measure => have := HLT.out; simp [intOf]; omega
        · have hpv : partF ⟨(k : Int), (n : Int), tx, at_, v, x, why⟩ 101 = at_ := rfl
          rw [hpv] at HBD
          have HGET := hid (fun (W : World) (hc : W.cell? ⟨wr.heap.size, 3, none⟩ = some (.int .i64 at_)) => get_at wr.heap.size at_ W hc (by have := HE.out; simp only [EvOk] at this; omega))
          clear hpv
          go_wp2_with fail
          refine (HGET.out _ (dq.cell 3 rfl)).mono ?_
          rintro e' w3 ⟨rfl, rfl⟩
          clear HGET
          go_wp2_with fail
          refine (Tryd.strconv_FormatInt_10 at_ HBD.out.1 HBD.out.2 _ (HS.out.below (ext_trans HBW.out HBQ.out)).tab).mono ?_
          rintro e' w3 ⟨rfl, q1, q2, rfl⟩
          have HG3 : Hid (Below wr.heap.size wr _) := hid (ext_trans HBQ.out (below_grown' _ q1 q2))
          generalize Sort.grow (World.drewN _ q1) q2 = w3 at HG3 ⊢
          have HB6 := hid (HB5.out.trans (HG3.out.mono HB5.out.size))
          have HO6 := hid (owns_below HO.out HG3.out)
          clear dq
          have hML : 2 + m + 1 ≤ maxLen := by have := HFL.out; have := HLT.out; unfold maxLen; omega
          have hBY : (2 + m + 1) * 16 ≤ 140737488355328 := by have := HFL.out; have := HLT.out; omega
          have hBA : w1.heap.size ≤ (w3.alloc (.cells #[.string ⟨(Lib.itoa at_).toArray⟩] 9)).heap.size := by have := HB6.out.size; show _ ≤ (w3.heap.push _).size; rw [Array.size_push]; omega
          have HX := hid (HO6.out.alloc (.cells #[.string ⟨(Lib.itoa at_).toArray⟩] 9))
          go_wp2_with (at_builtin; refine wpList_append_own _ rfl _ _ 40 rfl w1.heap.size 9 i0 (.string ByteArray.empty) 1 16 Tryd.underlying40 hi hz0 hz1 hz2 rfl (by decide) _ _ _ rfl HX.out ⟨w3.heap.size, 0, none⟩ 1 1 [.string ⟨(Lib.itoa at_).toArray⟩] rfl rfl (cell_one _ _ _) (by simp [Value.oneCell']) hML hBY hBA ?_; intro v' w4 hown' hgrow _; have HB7 := hid (row_grown HB6.out HO6.out hgrow HB6.out.size); have HO7 := hid (owns_snoc HLT.out HFN.out rfl hown'); clear hown' hgrow)
          go_roundw
          case rel => exact ⟨m + 1, by have := HLT.out; omega, by simp, HO7, HB7⟩
          case measure => have := HLT.out; simp [intOf]; omega
        · have hpv : partF ⟨(k : Int), (n : Int), tx, at_, v, x, why⟩ 108 = v := rfl
          rw [hpv] at HBD
          have HGET := hid (fun (W : World) (hc : W.cell? ⟨wr.heap.size, 4, none⟩ = some (.int .i64 v)) => get_v wr.heap.size v W hc (by have := HE.out; simp only [EvOk] at this; omega))
          clear hpv
          go_wp2_with fail
          refine (HGET.out _ (dq.cell 4 rfl)).mono ?_
          rintro e' w3 ⟨rfl, rfl⟩
          clear HGET
          go_wp2_with fail
          refine (Tryd.strconv_FormatInt_10 v HBD.out.1 HBD.out.2 _ (HS.out.below (ext_trans HBW.out HBQ.out)).tab).mono ?_
          rintro e' w3 ⟨rfl, q1, q2, rfl⟩
          have HG3 : Hid (Below wr.heap.size wr _) := hid (ext_trans HBQ.out (below_grown' _ q1 q2))
          generalize Sort.grow (World.drewN _ q1) q2 = w3 at HG3 ⊢
          have HB6 := hid (HB5.out.trans (HG3.out.mono HB5.out.size))
          have HO6 := hid (owns_below HO.out HG3.out)
          clear dq
          have hML : 2 + m + 1 ≤ maxLen := by have := HFL.out; have := HLT.out; unfold maxLen; omega
          have hBY : (2 + m + 1) * 16 ≤ 140737488355328 := by have := HFL.out; have := HLT.out; omega
          have hBA : w1.heap.size ≤ (w3.alloc (.cells #[.string ⟨(Lib.itoa v).toArray⟩] 9)).heap.size := by have := HB6.out.size; show _ ≤ (w3.heap.push _).size; rw [Array.size_push]; omega
          have HX := hid (HO6.out.alloc (.cells #[.string ⟨(Lib.itoa v).toArray⟩] 9))
          go_wp2_with (at_builtin; refine wpList_append_own _ rfl _ _ 40 rfl w1.heap.size 9 i0 (.string ByteArray.empty) 1 16 Tryd.underlying40 hi hz0 hz1 hz2 rfl (by decide) _ _ _ rfl HX.out ⟨w3.heap.size, 0, none⟩ 1 1 [.string ⟨(Lib.itoa v).toArray⟩] rfl rfl (cell_one _ _ _) (by simp [Value.oneCell']) hML hBY hBA ?_; intro v' w4 hown' hgrow _; have HB7 := hid (row_grown HB6.out HO6.out hgrow HB6.out.size); have HO7 := hid (owns_snoc HLT.out HFN.out rfl hown'); clear hown' hgrow)
          go_roundw
          case rel => exact ⟨m + 1, by have := HLT.out; omega, by simp, HO7, HB7⟩
          case measure => have := HLT.out; simp [intOf]; omega
        · have hpv : partF ⟨(k : Int), (n : Int), tx, at_, v, x, why⟩ 109 = x := rfl
          rw [hpv] at HBD
          have HGET := hid (fun (W : World) (hc : W.cell? ⟨wr.heap.size, 5, none⟩ = some (.int .i64 x)) => get_x wr.heap.size x W hc (by have := HE.out; simp only [EvOk] at this; omega))
          clear hpv
          go_wp2_with fail
          refine (HGET.out _ (dq.cell 5 rfl)).mono ?_
          rintro e' w3 ⟨rfl, rfl⟩
          clear HGET
          go_wp2_with fail
          refine (Tryd.strconv_FormatInt_10 x HBD.out.1 HBD.out.2 _ (HS.out.below (ext_trans HBW.out HBQ.out)).tab).mono ?_
          rintro e' w3 ⟨rfl, q1, q2, rfl⟩
          have HG3 : Hid (Below wr.heap.size wr _) := hid (ext_trans HBQ.out (below_grown' _ q1 q2))
          generalize Sort.grow (World.drewN _ q1) q2 = w3 at HG3 ⊢
          have HB6 := hid (HB5.out.trans (HG3.out.mono HB5.out.size))
          have HO6 := hid (owns_below HO.out HG3.out)
          clear dq
          have hML : 2 + m + 1 ≤ maxLen := by have := HFL.out; have := HLT.out; unfold maxLen; omega
          have hBY : (2 + m + 1) * 16 ≤ 140737488355328 := by have := HFL.out; have := HLT.out; omega
          have hBA : w1.heap.size ≤ (w3.alloc (.cells #[.string ⟨(Lib.itoa x).toArray⟩] 9)).heap.size := by have := HB6.out.size; show _ ≤ (w3.heap.push _).size; rw [Array.size_push]; omega
          have HX := hid (HO6.out.alloc (.cells #[.string ⟨(Lib.itoa x).toArray⟩] 9))
          go_wp2_with (at_builtin; refine wpList_append_own _ rfl _ _ 40 rfl w1.heap.size 9 i0 (.string ByteArray.empty) 1 16 Tryd.underlying40 hi hz0 hz1 hz2 rfl (by decide) _ _ _ rfl HX.out ⟨w3.heap.size, 0, none⟩ 1 1 [.string ⟨(Lib.itoa x).toArray⟩] rfl rfl (cell_one _ _ _) (by simp [Value.oneCell']) hML hBY hBA ?_; intro v' w4 hown' hgrow _; have HB7 := hid (row_grown HB6.out HO6.out hgrow HB6.out.size); have HO7 := hid (owns_snoc HLT.out HFN.out rfl hown'); clear hown' hgrow)
          go_roundw
          case rel => exact ⟨m + 1, by have := HLT.out; omega, by simp, HO7, HB7⟩
          case measure => have := HLT.out; simp [intOf]; omega
        · have hpv : partF ⟨(k : Int), (n : Int), tx, at_, v, x, why⟩ 110 = why := rfl
          rw [hpv] at HBD
          have HGET := hid (fun (W : World) (hc : W.cell? ⟨wr.heap.size, 6, none⟩ = some (.int .u8 why)) => get_why wr.heap.size why W hc (by have := HE.out; simp only [EvOk] at this; omega))
          clear hpv
          go_wp2_with fail
          refine (HGET.out _ (dq.cell 6 rfl)).mono ?_
          rintro e' w3 ⟨rfl, rfl⟩
          clear HGET
          go_wp2_with fail
          refine (Tryd.strconv_FormatInt_10 why HBD.out.1 HBD.out.2 _ (HS.out.below (ext_trans HBW.out HBQ.out)).tab).mono ?_
          rintro e' w3 ⟨rfl, q1, q2, rfl⟩
          have HG3 : Hid (Below wr.heap.size wr _) := hid (ext_trans HBQ.out (below_grown' _ q1 q2))
          generalize Sort.grow (World.drewN _ q1) q2 = w3 at HG3 ⊢
          have HB6 := hid (HB5.out.trans (HG3.out.mono HB5.out.size))
          have HO6 := hid (owns_below HO.out HG3.out)
          clear dq
          have hML : 2 + m + 1 ≤ maxLen := by have := HFL.out; have := HLT.out; unfold maxLen; omega
          have hBY : (2 + m + 1) * 16 ≤ 140737488355328 := by have := HFL.out; have := HLT.out; omega
          have hBA : w1.heap.size ≤ (w3.alloc (.cells #[.string ⟨(Lib.itoa why).toArray⟩] 9)).heap.size := by have := HB6.out.size; show _ ≤ (w3.heap.push _).size; rw [Array.size_push]; omega
          have HX := hid (HO6.out.alloc (.cells #[.string ⟨(Lib.itoa why).toArray⟩] 9))
          go_wp2_with (at_builtin; refine wpList_append_own _ rfl _ _ 40 rfl w1.heap.size 9 i0 (.string ByteArray.empty) 1 16 Tryd.underlying40 hi hz0 hz1 hz2 rfl (by decide) _ _ _ rfl HX.out ⟨w3.heap.size, 0, none⟩ 1 1 [.string ⟨(Lib.itoa why).toArray⟩] rfl rfl (cell_one _ _ _) (by simp [Value.oneCell']) hML hBY hBA ?_; intro v' w4 hown' hgrow _; have HB7 := hid (row_grown HB6.out HO6.out hgrow HB6.out.size); have HO7 := hid (owns_snoc HLT.out HFN.out rfl hown'); clear hown' hgrow)
          go_roundw
          case rel => exact ⟨m + 1, by have := HLT.out; omega, by simp, HO7, HB7⟩
          case measure => have := HLT.out; simp [intOf]; omega
      · obtain rfl : m = fs.length := by omega
        have g1 : decide ((fs.length : Int) < (fs.length : Int)) = false := by rw [decide_eq_false_iff_not]; omega
        have g2 : decide (fs.length < fs.length) = false := by rw [decide_eq_false_iff_not]; omega
        clear hlt hm
        have hown := HO.out
        rw [List.take_length] at hown
        obtain ⟨-, ⟨rfl, h0⟩ | ⟨g, cp, cur, rfl, hg1, hg2, hg3, hg4, hg5, hg6⟩⟩ := hown
        · omega
        have hxs : ∀ (j : Nat) y, ((Lib.itoa (n : Int) :: kindNames.getD k [] :: (fs.map (partF ⟨(k : Int), (n : Int), tx, at_, v, x, why⟩)).map Lib.itoa).map fun l : List UInt8 => (⟨l.toArray⟩ : ByteArray))[j]? = some y → wr.cell? ⟨g, 0 + j, none⟩ = some (.string y) := by
          intro j y hj
          have hl : j < 2 + fs.length := by
            have := (List.getElem?_eq_some_iff.1 hj).1
            simpa [Nat.add_comm, Nat.add_left_comm] using this
          refine Blk.cell (t := 9) hg2 _ ?_
          have e1 : cur.toList[j]? = (cur.toList.take ((2 + fs.length) * 1))[j]? := by rw [List.getElem?_take, if_pos (by omega)]
          rw [Nat.zero_add, ← Array.getElem?_toList, e1, hg6]
          have : (strV (Lib.itoa (n : Int)) :: strV (kindNames.getD k []) :: fs.map fun f => strV (Lib.itoa (partF ⟨(k : Int), (n : Int), tx, at_, v, x, why⟩ f))) = ((Lib.itoa (n : Int) :: kindNames.getD k [] :: (fs.map (partF ⟨(k : Int), (n : Int), tx, at_, v, x, why⟩)).map Lib.itoa).map fun l : List UInt8 => (⟨l.toArray⟩ : ByteArray)).map Value.string := by
            simp [strV, Function.comp_def]
          rw [this, List.getElem?_map, hj]; rfl
        have HXS := hid hxs
        have HGL := hid (lt_of_cell (hxs 0 _ rfl))
        have HCAP := hid (And.intro hg3 hg4)
        clear hxs hg1 hg2 hg3 hg4 hg5 hg6
        go_wp2_with fail
        have hlen : (Lib.join (((Lib.itoa (n : Int) :: kindNames.getD k [] :: (fs.map (partF ⟨(k : Int), (n : Int), tx, at_, v, x, why⟩)).map Lib.itoa).map fun l : List UInt8 => (⟨l.toArray⟩ : ByteArray)).map (·.data.toList)) (⟨#[32]⟩ : ByteArray).data.toList) = showT ⟨(k : Int), (n : Int), tx, at_, v, x, why⟩ := by
          rw [HT1.out]
          simp [Function.comp_def]
        have hJ := Tryd.strings_Join g 0 cp ((Lib.itoa (n : Int) :: kindNames.getD k [] :: (fs.map (partF ⟨(k : Int), (n : Int), tx, at_, v, x, why⟩)).map Lib.itoa).map fun l : List UInt8 => (⟨l.toArray⟩ : ByteArray)) ⟨#[32]⟩ wr HXS.out HGL.out (by have := HFL.out; simp; omega) (by have := HCAP.out.1; simp; omega) (by rw [hlen]; exact HSZ.out)
        rw [hlen] at hJ
        have hl2 : ((Lib.itoa (n : Int) :: kindNames.getD k [] :: (fs.map (partF ⟨(k : Int), (n : Int), tx, at_, v, x, why⟩)).map Lib.itoa).map fun l : List UInt8 => (⟨l.toArray⟩ : ByteArray)).length = 2 + fs.length := by simp; omega
        rw [hl2] at hJ
        refine hJ.mono ?_
        rintro e' w9 ⟨rfl, hb9⟩
        have HEND := hid (ext_trans HBW.out hb9)
        clear hb9
        go_wp2_with fail
        go_ret2
        exact ⟨rfl, HEND.out⟩
end Go.Proofs.YtlbpollckiidlaaDoor
