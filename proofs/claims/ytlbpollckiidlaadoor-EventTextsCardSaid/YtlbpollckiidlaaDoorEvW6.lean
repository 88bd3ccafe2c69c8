/-
  Walks: event.Show and event.Parse at every input; the examples that each law asks (awake).
-/
import Derived.Test.YtlbpollckiidlaaDoorEvW5
namespace Go.Proofs.YtlbpollckiidlaaDoor
set_option linter.unusedVariables false
set_option linter.unusedSimpArgs false
open Go Go.RowKit
def showR (e : Ev) : List UInt8 × Int := if mayT e = true then (showT e, 0) else ([], 4)
theorem show_any (e : Ev) (w : World) (he : EvOk e) (hS : Std w) : Calls Tryd.prog 11 #[evA e] w fun e' w' => e' = .returned (.tuple #[strV (showR e).1, .int .i64 (showR e).2]) ∧ Below w.heap.size w w' := by
  cases hm : mayT e with
  | true => unfold showR; rw [if_pos hm]; exact show_yes e w he hS hm
  | false => unfold showR; rw [if_neg (by rw [hm]; decide)]; exact show_no e w he hS hm
theorem parse_any (L : List UInt8) (hl : L.length ≤ 1000) (w : World) (hS : Std w) : Calls Tryd.prog 13 #[.string ⟨L.toArray⟩] w (ParseP L w) := by
  by_cases h2 : (Lib.split L [32]).length < 2
  · exact parse_few L hl w hS h2
  obtain ⟨t0, t1, rest, hT⟩ : ∃ t0 t1 rest, Lib.split L [32] = t0 :: t1 :: rest := by
    match hh : Lib.split L [32] with
    | [] => rw [hh] at h2; simp at h2
    | [x] => rw [hh] at h2; simp at h2
    | a :: b :: r => exact ⟨a, b, r, rfl⟩
  cases hk : kindOf t1 with
  | none => exact parse_nokind L hl w hS t0 t1 rest hT hk
  | some k =>
    by_cases ho : ∃ v, Lib.atoiAll t0 = .ok v
    · obtain ⟨th, hth⟩ := ho
      by_cases hlen : rest.length = (kindsL.getD k []).length
      · exact parse_loop L hl w hS t0 t1 rest hT k hk th hth hlen
      · exact parse_nolen L hl w hS t0 t1 rest hT k hk th hth hlen
    · exact parse_noint L hl w hS t0 t1 rest hT k hk (fun v hv => ho ⟨v, hv⟩)
theorem itoa_small (i : Nat) (h : i < 10) : Lib.itoa (i : Int) = [UInt8.ofNat (48 + i)] := by
  unfold Lib.itoa
  rw [if_neg (by omega), Int.toNat_natCast, Lib.decDigits_one h]
def exLook : Ev := ⟨2, 2, 0, 3, 7, 0, 0⟩
def exAbort : Ev := ⟨10, 0, 0, 0, 0, 0, 6⟩
def exWait : Ev := ⟨12, 1, 0, 0, 0, 0, 0⟩
def sLook : List UInt8 := [50, 32, 108, 111, 111, 107, 32, 51, 32, 55]
def sAbort : List UInt8 := [48, 32, 97, 98, 111, 114, 116, 32, 54, 32, 48]
def sWait : List UInt8 := [49, 32, 119, 97, 105, 116]
def sWait0 : List UInt8 := [49, 32, 119, 97, 105, 116, 32, 48]
def s01 : List UInt8 := [48, 49, 32, 119, 97, 105, 116]
def sBump : List UInt8 := [49, 32, 98, 117, 109, 112, 32, 48]
theorem show_look : showT exLook = sLook := by
  have h2 : Lib.itoa 2 = [UInt8.ofNat (48 + 2)] := itoa_small 2 (by omega)
  have h3 : Lib.itoa 3 = [UInt8.ofNat (48 + 3)] := itoa_small 3 (by omega)
  have h7 : Lib.itoa 7 = [UInt8.ofNat (48 + 7)] := itoa_small 7 (by omega)
  unfold showT
  simp only [exLook, partsE, if_neg (show ¬ (2 : Int) = 1 by decide), if_pos, List.map_cons, List.map_nil, h2, h3, h7]
  rfl
theorem show_abort : showT exAbort = sAbort := by
  have h0 : Lib.itoa 0 = [UInt8.ofNat (48 + 0)] := itoa_small 0 (by omega)
  have h6 : Lib.itoa 6 = [UInt8.ofNat (48 + 6)] := itoa_small 6 (by omega)
  unfold showT
  have : partsE exAbort = [6, 0] := by decide
  rw [this]
  simp only [exAbort, List.map_cons, List.map_nil, h0, h6]
  rfl
theorem show_wait : showT exWait = sWait := by
  have h1 : Lib.itoa 1 = [UInt8.ofNat (48 + 1)] := itoa_small 1 (by omega)
  unfold showT
  have : partsE exWait = [] := by decide
  rw [this]
  simp only [exWait, List.map_nil, h1]
  rfl
theorem evOk_ex : EvOk exLook ∧ EvOk exAbort ∧ EvOk exWait := by
  refine ⟨?_, ?_, ?_⟩ <;> simp [EvOk, exLook, exAbort, exWait]
theorem parse_wait : parseR sWait = (exWait, 0) := by rw [← show_wait]; exact parseR_show evOk_ex.2.2 (by decide)
theorem parse_wait0 : parseR sWait0 = (evZ, 4) := parseR_none (by kernel_rfl)
theorem parse_01 : parseR s01 = (evZ, 4) := by
  rw [parseR_some (e := exWait) (by kernel_rfl), if_neg (fun h => absurd h.2 (by rw [show_wait]; decide))]
theorem parse_bump : parseR sBump = (evZ, 4) := by
  rw [parseR_some (e := ⟨5, 1, 0, 0, 0, 0, 0⟩) (by kernel_rfl), if_neg (fun h => absurd h.1 (by decide))]
set_option maxRecDepth 100000 in
set_option maxHeartbeats 4000000 in
theorem awake_any (w : World) (hS : Std w) : Calls Tryd.prog 10 #[] w fun e w' => e = .returned (.bool true) ∧ Below w.heap.size w w' := by
  have HSH := hid (fun e (he : EvOk e) W (hW : Below w.heap.size w W) => show_any e W he (hS.below hW))
  have HPA := hid (fun L (hl : L.length ≤ 1000) W (hW : Below w.heap.size w W) => parse_any L hl W (hS.below hW))
  clear hS
  have h1 : Hid (showR exLook = (sLook, 0)) := hid (by unfold showR; rw [if_pos (by decide), show_look])
  have h2 : Hid (showR exAbort = (sAbort, 0)) := hid (by unfold showR; rw [if_pos (by decide), show_abort])
  have HS1 := hid (fun W hW => HSH.out exLook evOk_ex.1 W hW)
  rw [h1.out] at HS1
  have HS2 := hid (fun W hW => HSH.out exAbort evOk_ex.2.1 W hW)
  rw [h2.out] at HS2
  have HP1 := hid (fun W hW => HPA.out sWait (by decide) W hW)
  have HP2 := hid (fun W hW => HPA.out sWait0 (by decide) W hW)
  have HP3 := hid (fun W hW => HPA.out s01 (by decide) W hW)
  have HP4 := hid (fun W hW => HPA.out sBump (by decide) W hW)
  unfold ParseP at HP1 HP2 HP3 HP4
  rw [parse_wait] at HP1
  rw [parse_wait0] at HP2
  rw [parse_01] at HP3
  rw [parse_bump] at HP4
  clear h1 h2 HSH HPA
  simp only [evA, evZ, exLook, exAbort, exWait, sLook, sAbort, sWait, sWait0, s01, sBump, strV] at HS1 HS2 HP1 HP2 HP3 HP4
  go_enter Tryd.func10, Tryd.ntmps10
  go_wp2_with fail
  refine (HS1.out _ (ext_refl _)).mono ?_
  rintro e' w1 ⟨rfl, hb1⟩
  have HB1 := hid hb1
  clear hb1
  go_wp2_with fail
  refine (HS2.out _ HB1.out).mono ?_
  rintro e' w2 ⟨rfl, hb2⟩
  have HB2 := hid (ext_trans HB1.out hb2)
  clear hb2
  go_wp2_with fail
  refine (HP1.out _ HB2.out).mono ?_
  rintro e' w3 ⟨rfl, hb3⟩
  have HB3 := hid (ext_trans HB2.out hb3)
  clear hb3
  go_wp2_with fail
  have HR : Hid (Blk ((w3.alloc (.cells #[.int .u8 12, .int .i64 1, .int .i64 0, .int .i64 0, .int .i64 0, .int .i64 0, .int .u8 0] 23)).alloc (.cells #[.string ⟨#[49, 32, 119, 97, 105, 116, 32, 48]⟩, .string ⟨#[48, 49, 32, 119, 97, 105, 116]⟩, .string ⟨#[49, 32, 98, 117, 109, 112, 32, 48]⟩] 9)) (w3.heap.size + 1) #[.string ⟨#[49, 32, 119, 97, 105, 116, 32, 48]⟩, .string ⟨#[48, 49, 32, 119, 97, 105, 116]⟩, .string ⟨#[49, 32, 98, 117, 109, 112, 32, 48]⟩] 9) := hid (Blk.new' _ _ _ (Array.size_push ..).symm)
  have HB4 : Hid (Below w.heap.size w ((w3.alloc (.cells #[.int .u8 12, .int .i64 1, .int .i64 0, .int .i64 0, .int .i64 0, .int .i64 0, .int .u8 0] 23)).alloc (.cells #[.string ⟨#[49, 32, 119, 97, 105, 116, 32, 48]⟩, .string ⟨#[48, 49, 32, 119, 97, 105, 116]⟩, .string ⟨#[49, 32, 98, 117, 109, 112, 32, 48]⟩] 9))) := hid (ext_alloc (ext_alloc HB3.out _) _)
  generalize (w3.alloc (.cells #[.int .u8 12, .int .i64 1, .int .i64 0, .int .i64 0, .int .i64 0, .int .i64 0, .int .u8 0] 23)).alloc (.cells #[.string ⟨#[49, 32, 119, 97, 105, 116, 32, 48]⟩, .string ⟨#[48, 49, 32, 119, 97, 105, 116]⟩, .string ⟨#[49, 32, 98, 117, 109, 112, 32, 48]⟩] 9) = W4 at HR HB4 ⊢
  have r0 := HR.out.cell 0 rfl
  have r1 := HR.out.cell 1 rfl
  have r2 := HR.out.cell 2 rfl
  refine wp_loop_rounds 4 ?_; rw [rounds_succ]
  go_wp2_with fail
  refine (HP2.out _ HB4.out).mono ?_
  rintro e' w5 ⟨rfl, hb5⟩
  have HB5 := hid (ext_trans HB4.out hb5)
  have s1 := later hb5 r1
  have s2 := later hb5 r2
  have t1 := cell_alloc (x := .cells #[.int .u8 0, .int .i64 0, .int .i64 0, .int .i64 0, .int .i64 0, .int .i64 0, .int .u8 0] 23) s1
  have t2 := cell_alloc (x := .cells #[.int .u8 0, .int .i64 0, .int .i64 0, .int .i64 0, .int .i64 0, .int .i64 0, .int .u8 0] 23) s2
  have HB5' := hid (ext_alloc HB5.out (.cells #[.int .u8 0, .int .i64 0, .int .i64 0, .int .i64 0, .int .i64 0, .int .i64 0, .int .u8 0] 23))
  clear hb5 r0 r1 r2 s1 s2
  go_wp2_with fail
  rw [rounds_succ]
  go_wp2_with fail
  refine (HP3.out _ HB5'.out).mono ?_
  rintro e' w6 ⟨rfl, hb6⟩
  have HB6 := hid (ext_trans HB5'.out hb6)
  have s2 := later hb6 t2
  have u2 := cell_alloc (x := .cells #[.int .u8 0, .int .i64 0, .int .i64 0, .int .i64 0, .int .i64 0, .int .i64 0, .int .u8 0] 23) s2
  have HB6' := hid (ext_alloc HB6.out (.cells #[.int .u8 0, .int .i64 0, .int .i64 0, .int .i64 0, .int .i64 0, .int .i64 0, .int .u8 0] 23))
  clear hb6 t1 t2 s2
  go_wp2_with fail
  rw [rounds_succ]
  go_wp2_with fail
  refine (HP4.out _ HB6'.out).mono ?_
  rintro e' w7 ⟨rfl, hb7⟩
  have HB7 := hid (ext_trans HB6'.out hb7)
  have HB7' := hid (ext_alloc HB7.out (.cells #[.int .u8 0, .int .i64 0, .int .i64 0, .int .i64 0, .int .i64 0, .int .i64 0, .int .u8 0] 23))
  clear hb7 u2
  go_wp2_with fail
  rw [rounds_succ]
  go_wp2_with fail
  go_ret
  exact ⟨rfl, HB7'.out⟩
end Go.Proofs.YtlbpollckiidlaaDoor
