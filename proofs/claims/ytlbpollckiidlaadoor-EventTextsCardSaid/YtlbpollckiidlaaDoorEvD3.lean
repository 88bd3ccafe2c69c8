/-
  Walk: the document's Show.
-/
import Derived.Test.YtlbpollckiidlaaDoorEvD2
namespace Go.Proofs.YtlbpollckiidlaaDoor
set_option linter.unusedVariables false
set_option linter.unusedSimpArgs false
open Go Go.RowKit
def accS (base : List UInt8) (P : List Int) (n : Nat) : List UInt8 := base ++ (P.take n).flatMap fun x => 32 :: Lib.itoa x
theorem accS_succ {base : List UInt8} {P : List Int} {n : Nat} (h : n < P.length) : accS base P (n + 1) = (accS base P n ++ [32]) ++ Lib.itoa P[n] := by
  unfold accS
  rw [List.take_succ_eq_append_getElem h]
  simp only [List.flatMap_append, List.flatMap_cons, List.flatMap_nil, List.append_nil, List.append_assoc, List.cons_append, List.nil_append]
theorem flat_len : ∀ (P : List Int), (∀ x ∈ P, (Lib.itoa x).length ≤ 21) → (P.flatMap fun x => 32 :: Lib.itoa x).length ≤ 22 * P.length
  | [], _ => by simp
  | x :: P, h => by
    have h1 := h x (by simp)
    have h2 := flat_len P fun y hy => h y (by simp [hy])
    rw [List.flatMap_cons, List.length_append, List.length_cons, List.length_cons]
    omega
theorem accS_len {base : List UInt8} {P : List Int} (n : Nat) (h : ∀ x ∈ P, (Lib.itoa x).length ≤ 21) : (accS base P n).length ≤ base.length + 22 * P.length := by
  unfold accS
  rw [List.length_append]
  have h1 := flat_len (P.take n) fun x hx => h x (List.mem_of_mem_take hx)
  have h2 : (P.take n).length ≤ P.length := by rw [List.length_take]; omega
  omega
theorem join_flat : ∀ (x : List UInt8) (P : List Int), Lib.join (x :: P.map Lib.itoa) [32] = x ++ P.flatMap fun y => 32 :: Lib.itoa y
  | x, [] => by simp [Lib.join]
  | x, y :: P => by
    rw [List.map_cons, join_two, join_flat (Lib.itoa y) P, List.flatMap_cons]
    simp
theorem accS_show (e : Ev) : accS (Lib.itoa e.th ++ 32 :: kindName e.kind) (partsE e) (partsE e).length = showT e := by
  unfold accS showT
  rw [List.take_length, join_two, join_flat]
  simp
theorem partsE_len (e : Ev) : (partsE e).length ≤ 2 := by
  unfold partsE
  repeat' split
  all_goals simp
/-- What the row of numbers is. -/
def RowP (P : List Int) (v : Value) (w : World) : Prop := (P = [] ∧ v = .slice none 0 0) ∨ ∃ b cap, v = .slice (some ⟨b, 0, none⟩) P.length cap ∧ Blk w b (P.map fun n => Value.int .i64 n).toArray 2
def RShowP (e : Ev) (w : World) (e' : Ending) (w' : World) : Prop := e' = .returned (.tuple #[strV (showR e).1, .int .i64 (showR e).2]) ∧ Below w.heap.size w w'
set_option maxRecDepth 100000 in
set_option maxHeartbeats 4000000 in
theorem rshow_no (e : Ev) (w : World) (he : EvOk e) (hN : NamesR w) (hm : mayT e = false) : Calls Tryd.prog 12 #[evA e] w (RShowP e w) := by
  have HM := hid (fun W (hW : Below w.heap.size w W) => rmay_any e 6 32 32 W he (hN.below hW))
  have HR : Hid (showR e = ([], 4)) := hid (by unfold showR; rw [hm]; rfl)
  unfold mayT at hm
  rw [hm] at HM
  unfold RShowP
  rw [HR.out]
  clear hm HR
  obtain ⟨kind, th, tx, at_, v, x, why⟩ := e
  have HB : Hid (Below w.heap.size w (w.alloc (.cells #[.int .u8 kind, .int .i64 th, .int .i64 tx, .int .i64 at_, .int .i64 v, .int .i64 x, .int .u8 why] 23))) := hid (ext_alloc (ext_refl _) _)
  clear he hN
  unfold strV
  dsimp only [evA] at HM ⊢
  go_enter Tryd.func12, Tryd.ntmps12
  go_wp2_with fail
  refine (HM.out _ HB.out).mono ?_
  rintro e' w1 ⟨rfl, hb⟩
  have HB1 := hid (ext_trans HB.out hb)
  clear hb
  go_wp2_with fail
  go_ret2
  exact ⟨rfl, HB1.out⟩
set_option maxRecDepth 100000 in
set_option maxHeartbeats 4000000 in
theorem rshow_yes (e : Ev) (w : World) (he : EvOk e) (hN : NamesR w) (hm : mayT e = true) : Calls Tryd.prog 12 #[evA e] w (RShowP e w) := by
  have HM := hid (fun W (hW : Below w.heap.size w W) => rmay_any e 6 32 32 W he (hN.below hW))
  have HNA := hid (fun W (hW : Below w.heap.size w W) => rname_any e.kind he.1 W (hN.below hW))
  have HDT := hid (fun W => rdigits_any e.th he.2.1.1 he.2.1.2 W)
  have HR : Hid (showR e = (showT e, 0)) := hid (by unfold showR; rw [hm]; rfl)
  obtain ⟨hk, hth, hb⟩ := mayT_of hm
  have HPB := hid (parts_ok ⟨he.2.2.1, he.2.2.2.1, he.2.2.2.2.1, he.2.2.2.2.2.1, he.2.2.2.2.2.2⟩)
  have HPL := hid (partsE_len e)
  have hnm : nameT e.kind = kindName e.kind := by unfold nameT; rw [if_pos (by simp [inB]; omega)]
  have hnl : (kindName e.kind).length ≤ 6 := by
    have key : ∀ a : Fin 14, (kindName (a.val : Int)).length ≤ 6 := by decide
    obtain ⟨n, hn⟩ := Int.eq_ofNat_of_zero_le (show 0 ≤ e.kind by omega)
    rw [hn]
    exact key ⟨n, by omega⟩
  have hdl : (Lib.itoa e.th).length ≤ 21 := Lib.itoa_length_le _ he.2.1.1 he.2.1.2
  have HSH := hid (accS_show e)
  unfold mayT at hm
  rw [hm] at HM
  rw [hnm] at HNA
  unfold RShowP
  rw [HR.out]
  unfold DigP at HDT
  generalize showT e = sh at HSH HR ⊢
  generalize hP : partsE e = P at HSH HPB HPL
  generalize kindName e.kind = nm at HNA hnl HSH
  generalize Lib.itoa e.th = ds at HDT hdl HSH
  have HLEN := hid (And.intro hnl hdl)
  have l1 : ¬ 9223372036854775807 < ds.length + 1 := by omega
  have l2 : ¬ 9223372036854775807 < ds.length + 1 + nm.length := by omega
  clear hm HR hnm hnl hdl hth hb
  have hw := he.2.2.2.2.2.2
  obtain ⟨kind, th, tx, at_, v, x, why⟩ := e
  have hk : 1 ≤ kind ∧ kind ≤ 13 := hk
  have hw : 0 ≤ why ∧ why ≤ 255 := hw
  have jw : wrap64 why = why := by unfold wrap64; omega
  have HB : Hid (Below w.heap.size w (w.alloc (.cells #[.int .u8 kind, .int .i64 th, .int .i64 tx, .int .i64 at_, .int .i64 v, .int .i64 x, .int .u8 why] 23))) := hid (ext_alloc (ext_refl _) _)
  have HE : Hid (Blk (w.alloc (.cells #[.int .u8 kind, .int .i64 th, .int .i64 tx, .int .i64 at_, .int .i64 v, .int .i64 x, .int .u8 why] 23)) w.heap.size #[.int .u8 kind, .int .i64 th, .int .i64 tx, .int .i64 at_, .int .i64 v, .int .i64 x, .int .u8 why] 23) := hid (Blk.new _ _ _)
  have HK := hid hk
  have HPP := hid hP
  clear he hN hk hP hw
  unfold strV at HNA HDT ⊢
  dsimp only [evA] at HM HNA HDT ⊢
  have c0 := HE.out.cell 0 rfl
  have c1 := HE.out.cell 1 rfl
  have c2 := HE.out.cell 2 rfl
  have c3 := HE.out.cell 3 rfl
  have c4 := HE.out.cell 4 rfl
  have c5 := HE.out.cell 5 rfl
  have c6 := HE.out.cell 6 rfl
  go_enter Tryd.func12, Tryd.ntmps12
  go_wp2_with fail
  refine (HM.out _ HB.out).mono ?_
  rintro e' w1 ⟨rfl, hb⟩
  have HB1 := hid (ext_trans HB.out hb)
  have HE1 := hid (HE.out.below hb)
  clear hb c0 c1 c2 c3 c4 c5 c6 HE HB
  go_wp2_with fail
  apply wp_region_known (fun i => ([.pointer (some ⟨w.heap.size, 1, none⟩), .int .i64 th, .string ⟨ds.toArray⟩, .string ⟨(ds ++ [32]).toArray⟩, .pointer (some ⟨w.heap.size, 0, none⟩), .int .u8 kind, .string ⟨nm.toArray⟩, .string ⟨(ds ++ 32 :: nm).toArray⟩, .string ⟨(ds ++ 32 :: nm).toArray⟩] : List Value).getD i undef) (fun w' => Below w1.heap.size w1 w')
  focus (simp [putAll, dstOf, Act.put, List.getD]; rfl)
  case hm => kernel_rfl
  case hd => kernel_rfl
  case hb => kernel_rfl
  case hng => kernel_rfl
  case hsz => kernel_rfl
  case h0 => exact ext_drew (ext_refl _)
  case hstep =>
    refine ⟨?_, ?_, ?_, ?_, ?_, ?_, ?_, ?_, ?_, trivial⟩
    all_goals (
      refine ⟨(fun g b h => by cases h), fun w' hG hg ρ h1 h2 h3 h4 h5 => ?_⟩
      have hG := hid hG)
    · have f1 := h5 1 (by kernel_rfl)
      clear h4 h5
      unfold OpY
      go_simp
      exact ⟨rfl, hG.out⟩
    · have f1 : ρ (.tmp 10) = .pointer (some ⟨w.heap.size, 1, none⟩) := h4 0 10 (by kernel_rfl) (by kernel_rfl)
      have d1 := (HE1.out.below hG.out).cell 1 rfl
      clear h4 h5
      unfold OpY
      go_simp
      exact ⟨rfl, hG.out⟩
    · have f1 : ρ (.tmp 11) = .int .i64 th := h4 1 11 (by kernel_rfl) (by kernel_rfl)
      clear h4 h5
      unfold OpY
      go_simp
      unfold OpR
      refine (HDT.out _).mono ?_
      rintro e' w2 ⟨rfl, hb⟩
      exact ⟨_, rfl, rfl, ext_trans hG.out hb⟩
    · have f1 : ρ (.tmp 12) = .string ⟨ds.toArray⟩ := h4 2 12 (by kernel_rfl) (by kernel_rfl)
      clear h4 h5
      unfold OpY
      go_simp
      exact ⟨congrArg Value.string (ba_append ds [32]), hG.out⟩
    · have f1 := h5 1 (by kernel_rfl)
      clear h4 h5
      unfold OpY
      go_simp
      exact ⟨rfl, hG.out⟩
    · have f1 : ρ (.tmp 14) = .pointer (some ⟨w.heap.size, 0, none⟩) := h4 4 14 (by kernel_rfl) (by kernel_rfl)
      have d1 := (HE1.out.below hG.out).cell 0 rfl
      clear h4 h5
      unfold OpY
      go_simp
      exact ⟨rfl, hG.out⟩
    · have f1 : ρ (.tmp 15) = .int .u8 kind := h4 5 15 (by kernel_rfl) (by kernel_rfl)
      clear h4 h5
      unfold OpY
      go_simp
      unfold OpR
      refine (HNA.out _ (ext_trans HB1.out hG.out)).mono ?_
      rintro e' w2 ⟨rfl, rfl⟩
      exact ⟨_, rfl, rfl, hG.out⟩
    · have f1 : ρ (.tmp 13) = .string ⟨(ds ++ [32]).toArray⟩ := h4 3 13 (by kernel_rfl) (by kernel_rfl)
      have f2 : ρ (.tmp 16) = .string ⟨nm.toArray⟩ := h4 6 16 (by kernel_rfl) (by kernel_rfl)
      have hx : ds ++ 32 :: nm = (ds ++ [32]) ++ nm := by simp
      have HX := hid hx
      clear h4 h5 hx
      unfold OpY
      go_simp
      refine ⟨?_, hG.out⟩
      show _ = Value.string ⟨(ds ++ 32 :: nm).toArray⟩
      rw [HX.out]
      exact congrArg Value.string (ba_append (ds ++ [32]) nm)
    · have f1 : ρ (.tmp 17) = .string ⟨(ds ++ 32 :: nm).toArray⟩ := h4 7 17 (by kernel_rfl) (by kernel_rfl)
      clear h4 h5
      unfold OpY
      go_simp
      exact ⟨rfl, hG.out⟩
  case hdone =>
    intro w3 hG
    have HB3 := hid (ext_trans HB1.out hG)
    have HE3 := hid (HE1.out.below hG)
    clear hG HE1 HB1 l1 l2 HM HNA HDT
    generalize hbase : ds ++ 32 :: nm = base at HSH ⊢
    have hbl : base.length ≤ 28 := by rw [← hbase, List.length_append, List.length_cons]; have := HLEN.out; omega
    have HBL := hid hbl
    clear hbase HLEN hbl
    have c0 := HE3.out.cell 0 rfl
    have c1 := HE3.out.cell 1 rfl
    have c2 := HE3.out.cell 2 rfl
    have c3 := HE3.out.cell 3 rfl
    have c4 := HE3.out.cell 4 rfl
    have c5 := HE3.out.cell 5 rfl
    have c6 := HE3.out.cell 6 rfl
    go_upto_block 0 with fail
    go_cut [5] (fun s5 w' => RowP P s5 w' ∧ Below w.heap.size w w')
    case first =>
      have hk := HK.out
      have hc : kind = 1 ∨ kind = 2 ∨ kind = 3 ∨ kind = 4 ∨ kind = 5 ∨ kind = 6 ∨ kind = 7 ∨ kind = 8 ∨ kind = 9 ∨ kind = 10 ∨ kind = 11 ∨ kind = 12 ∨ kind = 13 := by omega
      clear hk
      rcases hc with rfl | rfl | rfl | rfl | rfl | rfl | rfl | rfl | rfl | rfl | rfl | rfl | rfl
      all_goals (
        go_wp2_with fail
        go_meet
        refine ⟨?_, by first | exact ext_alloc HB3.out _ | exact HB3.out⟩
        rw [← HPP.out]
        first
        | exact Or.inl ⟨rfl, rfl⟩
        | exact Or.inr ⟨_, _, rfl, Blk.new _ _ _⟩)
    case rest =>
      obtain ⟨hrow, hb⟩ := hcut
      clear c0 c1 c2 c3 c4 c5 c6
      have HB4 := hid hb
      clear hb jw
      rcases hrow with ⟨rfl, rfl⟩ | ⟨b, cap, rfl, hB⟩
      · have HSS : Hid (base = sh) := hid (by rw [← HSH.out]; unfold accS; simp)
        go_wp2_with fail
        refine wp_loop_rounds 1 ?_
        rw [rounds_succ]
        go_wp2_with fail
        go_ret2
        exact ⟨by rw [HSS.out]; rfl, HB4.out⟩
      · have HBK := hid hB
        have HI := hid (fun y (hy : y ∈ P) => Lib.itoa_length_le y (HPB.out y hy).1 (HPB.out y hy).2)
        have HAL := hid (fun n => accS_len (base := base) (P := P) n HI.out)
        clear hB
        go_wp2_with fail
        go_loopw [4, 6] (fun s4 s6 wr => ∃ (n : Nat) (S : ByteArray), n ≤ P.length ∧ s4 = .string S ∧ Hid (S = ⟨(accS base P n).toArray⟩) ∧ s6 = .int .i64 (n : Int) ∧ Below w.heap.size w wr ∧ Blk wr b (P.map fun n => Value.int .i64 n).toArray 2) (fun s4 s6 _ => P.length - (intOf s6).toNat)
        case atStart => exact ⟨0, _, by omega, rfl, hid (by unfold accS; simp), rfl, HB4.out, HBK.out⟩
        case round =>
          obtain ⟨n, S, h1, rfl, HS, rfl, hb, hB⟩ := hrel
          rename_i wr
          have HB5 := hid hb
          have HBK5 := hid hB
          have hpl := HPL.out
          have j1 : wrap64 (P.length : Int) = (P.length : Int) := by unfold wrap64; omega
          clear hb hB
          by_cases hlt : n < P.length
          · obtain ⟨y, hy⟩ : ∃ y, P[n] = y := ⟨_, rfl⟩
            have hmem : y ∈ P := by rw [← hy]; exact List.getElem_mem _
            have cy := HBK5.out.cell n (v := .int .i64 y) (by
              rw [List.getElem?_toArray, List.getElem?_map, List.getElem?_eq_getElem hlt, hy]; rfl)
            have k1 : decide ((n : Int) < (P.length : Int)) = true := decide_eq_true (by omega)
            have k2 : decide (n < P.length) = true := decide_eq_true hlt
            have k3 : (0 : Int) ≤ (n : Int) := by omega
            have k4 : (n : Int) < (P.length : Int) := by omega
            have k5 : wrap64 ((n : Int) + 1) = (n : Int) + 1 := by unfold wrap64; omega
            have HAS : Hid (accS base P (n + 1) = (accS base P n ++ [32]) ++ Lib.itoa y) := hid (by rw [accS_succ hlt, hy])
            have hal := HAL.out n
            have hil := HI.out y hmem
            have hbl := HBL.out
            have HDY := hid (fun W => rdigits_any y (HPB.out y hmem).1 (HPB.out y hmem).2 W)
            unfold DigP strV at HDY
            have HLT := hid hlt
            obtain ⟨A', hA'⟩ : ∃ A', accS base P (n + 1) = A' := ⟨_, rfl⟩
            rw [hA'] at HAS
            have HAp := hid hA'
            clear hA'
            generalize accS base P n = A at HAS hal HS
            generalize Lib.itoa y = ys at HAS HDY hil
            have hsz : S.size = A.length := by rw [HS.out]; simp [ByteArray.size]
            have l1 : ¬ 9223372036854775807 < S.size + 1 := by omega
            have l2 : ¬ 9223372036854775807 < S.size + 1 + ys.length := by omega
            obtain ⟨S', hS'⟩ : ∃ S', (S ++ ⟨#[32]⟩) ++ ⟨ys.toArray⟩ = S' := ⟨_, rfl⟩
            have HS' : Hid (S' = ⟨A'.toArray⟩) := hid (by
              rw [← hS', HS.out, HAS.out]
              rw [show (⟨#[32]⟩ : ByteArray) = ⟨[32].toArray⟩ from rfl, ba_append, ba_append])
            clear hsz
            clear hlt h1 hal hil hbl hpl hmem hy
            go_wp2_with fail
            refine (HDY.out _).mono ?_
            rintro e' w5 ⟨rfl, hb⟩
            have HB6 := hid (ext_trans HB5.out hb)
            have HBK6 := hid (HBK5.out.below hb)
            clear hb cy
            go_wp2_with fail
            go_roundw
            case rel => exact ⟨n + 1, _, by have := HLT.out; omega, rfl, by rw [HAp.out]; exact HS', by simp [k5], HB6.out, HBK6.out⟩
            case measure =>
              rw [k5]
              have := HLT.out
              clear l1 l2 k5 k3 k4 k1 k2 j1 hw hk
              simp only [intOf]
              omega
          · obtain rfl : n = P.length := by omega
            have k1 : decide ((P.length : Int) < (P.length : Int)) = false := decide_eq_false (by omega)
            have HSS : Hid (accS base P P.length = sh) := HSH
            clear hlt h1 hpl
            go_wp2_with fail
            go_ret2
            exact ⟨by rw [← HSS.out, ← HS.out]; rfl, HB5.out⟩
theorem rshow_any (e : Ev) (w : World) (he : EvOk e) (hN : NamesR w) : Calls Tryd.prog 12 #[evA e] w (RShowP e w) := by
  cases hm : mayT e with
  | true => exact rshow_yes e w he hN hm
  | false => exact rshow_no e w he hN hm
end Go.Proofs.YtlbpollckiidlaaDoor
