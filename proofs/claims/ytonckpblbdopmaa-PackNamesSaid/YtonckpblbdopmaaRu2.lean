/-
  Reckoning a program in the kernel: the code as it is reckoned, and the reckoner. Nothing of the program.
-/
import Derived.Test.YtonckpblbdopmaaRu1
namespace Go.Proofs.Ytonckpblbdopmaa.Rk
set_option linter.unusedVariables false
open Go

inductive Opd where
  | t (p : Pt)
  | c (v : AV)
  | g (n : Nat)
/-- What is compared by == where it is no number and no string. -/
inductive EqT where
  | ints (ks : List Nat)
  | bools (ks : List Nat)
  | nilP
  | nilS
  | nilM
  | nilF
  | bool
inductive EOp where
  | bad
  | mov (x : Opd)
  | pick (c x y : Opd)
  | alloc (zero : List AV)
  | box (x : Opd)
  | build (zero : List AV) (parts : List (Nat × Nat × Opd))
  | buildSl (zero : List AV) (len : Nat) (parts : List (Nat × Nat × Opd))
  | load1 (x : Opd)
  | loadN (n : Nat) (x : Opd)
  | store (n : Nat) (x v : Opd)
  | nilck (x : Opd)
  | bin (op : BinOp) (x y : Opd)
  | eq (neg : Bool) (t : EqT) (x y : Opd)
  | un (op : UnOp) (x : Opd)
  | conv (k : IntKind) (x : Opd)
  | b2s (x : Opd)
  | mkfn (f : Nat) (first caps : List Opd)
  | mksl (zero : List AV) (bytes : Nat) (l c : Opd)
  | slc (size : Nat) (x : Opd) (lo hi : Option Opd)
  | slc3 (size : Nat) (x : Opd) (lo hi mx : Option Opd)
  | slcS (x : Opd) (lo hi : Option Opd)
  | slcA (n size : Nat) (x : Opd) (lo hi : Option Opd)
  | faddr (off : Nat) (x : Opd)
  | field (off : Nat) (n : Option Nat) (x : Opd)
  | iaddrA (len size : Nat) (x i : Opd)
  | iaddrS (size : Nat) (x i : Opd)
  | idxA (len size : Nat) (n : Option Nat) (x i : Opd)
  | idxS (x i : Opd)
  | ext (i : Nat) (x : Opd)
  | call (x : Opd) (args : List Opd)
  | len (str : Bool) (x : Opd)
  | app (size : Nat) (x y : Opd)
  | copy (size : Nat) (x y : Opd)
  | max (x y : Opd)
  | min (x y : Opd)
  | mkmap
  | lookup (zero : AV) (ok : Bool) (x k : Opd)
  | mapup (x k v : Opd)
  | rng (x : Opd)
  | nxt (x : Opd)
structure EOper where
  dst : Option Pt
  op : EOp
  guard : Option (Pt × Bool)
  anc : Nat
inductive ECode where
  | bad
  | skip
  | region (ops : List EOper) (draw : Bool)
  | seq (a b : ECode)
  | cond (c : Opd) (a b : ECode)
  | block (id : Nat) (c : ECode)
  | loop (c : ECode)
  | rangeF (f : Opd) (params : List Pt) (assign body : ECode)
  | exit (id : Nat)
  | ret
inductive Out where
  | norm
  | exit (id : Nat)
  | ret
inductive AObj where
  | cells (cs : List AV) (exact : Bool)
  | mapo (es : List (AV × AV))
  | loop (st : LoopState) (pend : Option Out) (f : Nat) (N : Nat) (a : Tri AV) (params : List Pt) (assign body : ECode) (d : Nat)
  | dfr
  | ro (cs : List AV)
  | siter (l : List UInt8) (pos : Nat)
structure St where
  h : Tri AObj
  nx : Nat
  lg : List Nat
  wl : List Nat
structure EFn where
  id : Nat
  N : Nat
  res : List (Pt × Option (Option Nat))
  code : ECode
inductive Rz where
  | fail
  | ok (e : Out) (a : Tri AV) (ds : List Nat) (s : St)

noncomputable def ob {α β : Type} (x : Option α) (k : α → Option β) : Option β := Option.rec none k x
noncomputable def fN {β : Type} (n : Nat) (k : Nat → β) : β := Nat.rec (k 0) (fun m _ => k (Nat.succ m)) n
noncomputable def fI {β : Type} (n : Int) (k : Int → β) : β := Int.rec (fun n => fN n fun n => k (.ofNat n)) (fun n => fN n fun n => k (.negSucc n)) n
noncomputable def fB {β : Type} (b : Bool) (k : Bool → β) : β := Bool.rec (k false) (k true) b
theorem fN_eq {β : Type} (n : Nat) (k : Nat → β) : fN n k = k n := by cases n <;> rfl
theorem fI_eq {β : Type} (n : Int) (k : Int → β) : fI n k = k n := by cases n <;> simp [fI, fN_eq]
theorem fB_eq {β : Type} (b : Bool) (k : Bool → β) : fB b k = k b := by cases b <;> rfl
theorem ob_some {α β : Type} {x : Option α} {k : α → Option β} {b : β} (h : ob x k = some b) : ∃ a, x = some a ∧ k a = some b := by
  cases x with
  | none => simp [ob] at h
  | some a => exact ⟨a, rfl, h⟩

/-! ### Numbers -/
noncomputable def ble (x y : Int) : Bool := Int.rec (fun a => Int.rec (fun b => Nat.ble a b) (fun _ => false) y) (fun a => Int.rec (fun _ => true) (fun b => Nat.ble b a) y) x
theorem ble_eq (x y : Int) : ble x y = decide (x ≤ y) := by
  cases x with
  | ofNat a => cases y with
    | ofNat b => simp only [ble]; rw [Bool.eq_iff_iff]; simp
    | negSucc b => simp only [ble]; symm; rw [decide_eq_false_iff_not]; simp only [Int.ofNat_eq_natCast]; omega
  | negSucc a => cases y with
    | ofNat b => simp only [ble]; symm; rw [decide_eq_true_iff]; simp only [Int.ofNat_eq_natCast]; omega
    | negSucc b => simp only [ble]; rw [Bool.eq_iff_iff]; simp; omega
noncomputable def beqI (x y : Int) : Bool := Int.rec (fun a => Int.rec (fun b => Nat.beq a b) (fun _ => false) y) (fun a => Int.rec (fun _ => false) (fun b => Nat.beq a b) y) x
theorem beqI_eq (x y : Int) : beqI x y = decide (x = y) := by
  cases x with
  | ofNat a => cases y with
    | ofNat b => simp only [beqI]; rw [Bool.eq_iff_iff]; simp; omega
    | negSucc b => simp only [beqI]; symm; rw [decide_eq_false_iff_not]; simp only [Int.ofNat_eq_natCast]; omega
  | negSucc a => cases y with
    | ofNat b => simp only [beqI]; symm; rw [decide_eq_false_iff_not]; simp only [Int.ofNat_eq_natCast]; omega
    | negSucc b => simp only [beqI]; rw [Bool.eq_iff_iff]; simp
def kLo : IntKind → Int
  | .i8 => -128 | .i16 => -32768 | .i32 => -2147483648 | .i64 => -9223372036854775808 | _ => 0
def kHi : IntKind → Int
  | .i8 => 127 | .i16 => 32767 | .i32 => 2147483647 | .i64 => 9223372036854775807 | .u8 => 255 | .u16 => 65535 | .u32 => 4294967295 | .u64 => 18446744073709551615
noncomputable def wrapF (k : IntKind) (n : Int) : Int := Bool.rec (k.wrap n) (Bool.rec (k.wrap n) n (ble n (kHi k))) (ble (kLo k) n)
theorem wrapF_eq (k : IntKind) (n : Int) : wrapF k n = k.wrap n := by
  unfold wrapF
  cases h1 : ble (kLo k) n with
  | false => rfl
  | true =>
    cases h2 : ble n (kHi k) with
    | false => rfl
    | true =>
      rw [ble_eq, decide_eq_true_iff] at h1 h2
      show n = k.wrap n
      cases k <;> simp only [kLo, kHi] at h1 h2 <;> simp [IntKind.wrap, IntKind.bits, IntKind.signed] <;> omega
noncomputable def mkI (k : IntKind) (n : Int) : Option AV := fI (wrapF k n) fun n => some (.int k n)
theorem mkI_eq (k : IntKind) (n : Int) : mkI k n = some (.int k (k.wrap n)) := by simp [mkI, fI_eq, wrapF_eq]
noncomputable def mkB (b : Bool) : Option AV := fB b fun b => some (.bool b)
theorem mkB_eq (b : Bool) : mkB b = some (.bool b) := by simp [mkB, fB_eq]
def kEq : IntKind → IntKind → Bool
  | .i8, .i8 | .i16, .i16 | .i32, .i32 | .i64, .i64 | .u8, .u8 | .u16, .u16 | .u32, .u32 | .u64, .u64 => true
  | _, _ => false
theorem kEq_eq {k j : IntKind} (h : kEq k j = true) : k = j := by cases k <;> cases j <;> first | rfl | simp [kEq] at h
noncomputable def shN (y : Int) (bits : Nat) : Nat := Int.rec (fun a => Bool.rec bits a (Nat.ble a bits)) (fun _ => 0) y
noncomputable def binI (op : BinOp) (k : IntKind) (x : Int) (j : IntKind) (y : Int) : Option AV :=
  match op with
  | .shl => Bool.rec none (mkI k (x * ((2 ^ (shN y k.bits) : Nat) : Int))) (ble 0 y)
  | .shr => Bool.rec none (fI (x.fdiv ((2 ^ (shN y k.bits) : Nat) : Int)) fun n => some (.int k n)) (ble 0 y)
  | op => Bool.rec none (match op with
    | .add => mkI k (x + y)
    | .sub => mkI k (x - y)
    | .mul => mkI k (x * y)
    | .quo => Bool.rec (mkI k (x.tdiv y)) none (beqI y 0)
    | .rem => Bool.rec (fI (x.tmod y) fun n => some (.int k n)) none (beqI y 0)
    | .and => mkI k (BitVec.ofInt k.bits x &&& BitVec.ofInt k.bits y).toNat
    | .or => mkI k (BitVec.ofInt k.bits x ||| BitVec.ofInt k.bits y).toNat
    | .xor => mkI k (BitVec.ofInt k.bits x ^^^ BitVec.ofInt k.bits y).toNat
    | .andNot => mkI k (BitVec.ofInt k.bits x &&& ~~~BitVec.ofInt k.bits y).toNat
    | .eql => mkB (beqI x y)
    | .neq => mkB (!(beqI x y))
    | .lss => mkB (!(ble y x))
    | .leq => mkB (ble x y)
    | .gtr => mkB (!(ble x y))
    | .geq => mkB (ble y x)
    | _ => none) (kEq k j)
noncomputable def u8Eq (a b : UInt8) : Bool := Nat.beq a.toNat b.toNat
noncomputable def strEq : List UInt8 → List UInt8 → Bool :=
  List.rec (fun y => List.rec true (fun _ _ _ => false) y) (fun a _ ih y => List.rec false (fun b y _ => Bool.rec false (ih y) (u8Eq a b)) y)
theorem strEq_eq : ∀ (x y : List UInt8), strEq x y = (x == y)
  | [], [] => rfl
  | [], _ :: _ => rfl
  | _ :: _, [] => rfl
  | a :: x, b :: y => by
    show Bool.rec false (strEq x y) (u8Eq a b) = ((a :: x) == (b :: y))
    rw [strEq_eq x y, List.cons_beq_cons]
    have : u8Eq a b = (a == b) := by
      unfold u8Eq
      rw [Bool.eq_iff_iff]
      simp [UInt8.toNat_inj]
    rw [this]
    cases (a == b) <;> rfl
noncomputable def binS (op : BinOp) (x y : List UInt8) : Option AV :=
  match op with
  | .add => Bool.rec none (some (.str (x ++ y))) (Nat.ble (x.length + y.length) 9223372036854775807)
  | .eql => mkB (strEq x y)
  | .neq => mkB (!(strEq x y))
  | _ => none
noncomputable def bin (op : BinOp) (x y : AV) : Option AV :=
  match x, y with
  | .int k a, .int j b => binI op k a j b
  | .str a, .str b => binS op a b
  | _, _ => none
noncomputable def eqInts (xs ys : List AV) : List Nat → Option Bool :=
  List.rec (some true) (fun o _ ih => match xs[o]?, ys[o]? with
    | some (.int k a), some (.int j b) => Bool.rec none (Bool.rec (some false) ih (beqI a b)) (kEq k j)
    | _, _ => none)
noncomputable def eqBools (xs ys : List AV) : List Nat → Option Bool :=
  List.rec (some true) (fun o _ ih => match xs[o]?, ys[o]? with
    | some (.bool a), some (.bool b) => Bool.rec (some false) ih (a == b)
    | _, _ => none)
noncomputable def eqA (t : EqT) (x y : AV) : Option Bool :=
  match t, x, y with
  | .ints ks, .agg xs, .agg ys => eqInts xs ys ks
  | .bools ks, .agg xs, .agg ys => eqBools xs ys ks
  | .bool, .bool a, .bool b => some (a == b)
  | .nilP, .nilp, .nilp | .nilS, .nils, .nils | .nilF, .nilf, .nilf | .nilM, .nilm, .nilm => some true
  | .nilP, .nilp, .ptr _ _ | .nilP, .ptr _ _, .nilp | .nilS, .nils, .sl _ _ _ _ | .nilS, .sl _ _ _ _, .nils | .nilS, .nils, .slu _ _ _ _ | .nilS, .slu _ _ _ _, .nils | .nilF, .nilf, .fn _ _ _ | .nilF, .fn _ _ _, .nilf | .nilM, .nilm, .map _ | .nilM, .map _, .nilm => some false
  | _, _, _ => none
noncomputable def un (op : UnOp) (x : AV) : Option AV :=
  match op, x with
  | .neg, .int k n => mkI k (0 - n)
  | .not, .bool b => mkB (!b)
  | _, _ => none

/-! ### The memory -/
noncomputable def look (n : Nat) (s : St) : Option (AObj × St) := Bool.rec none (ob (s.h.get (pt n)) fun o => some (o, ⟨s.h, s.nx, n :: s.lg, s.wl⟩)) (Nat.ble (n + 1) s.nx)
noncomputable def fT {α β : Type} (t : Tri α) (k : Tri α → Option β) : Option β := Tri.rec none (fun l v r _ _ => k (.node l v r)) t
noncomputable def putO (n : Nat) (o : Option AObj) (s : St) : Option St :=
  Bool.rec none (fT (s.h.set o (pt n)) fun h => some ⟨h, s.nx, n :: s.lg, n :: s.wl⟩) (Nat.ble (n + 1) s.nx)
noncomputable def allocO (o : AObj) (s : St) : Option (Nat × St) := fN s.nx fun n => fT (s.h.set (some o) (pt n)) fun h => some (n, ⟨h, n + 1, s.lg, s.wl⟩)
/-- n elements from off on, if there are so many. -/
def sub? {α : Type} (l : List α) (off n : Nat) : Option (List α) :=
  match Nat.ble (off + n) l.length with
  | true => some ((l.drop off).take n)
  | false => none
noncomputable def oneCell : AV → Bool
  | .agg _ | .tup _ => false
  | _ => true
/-- Written over, from off on. -/
def ow {α : Type} : List α → List α → Nat → List α
  | [], cs, _ => cs
  | v :: vs, cs, off => ow vs (cs.set off v) (off + 1)
noncomputable def cellsAt (n : Nat) (s : St) : Option (List AV × Bool × St) := ob (look n s) fun r => match r with
  | (.cells cs ex, s) => some (cs, ex, s)
  | _ => none
noncomputable def cellsRd (n : Nat) (s : St) : Option (List AV × St) := ob (look n s) fun r => match r with
  | (.cells cs _, s) => some (cs, s)
  | (.ro cs, s) => some (cs, s)
  | _ => none
noncomputable def storeA (n off : Nat) (vs : List AV) (s : St) : Option St :=
  ob (cellsAt n s) fun r => match r with
  | (cs, ex, s) => Bool.rec none (Bool.rec none (putO n (some (.cells (ow vs cs off) ex)) s) (vs.all oneCell)) (Nat.ble (off + vs.length) cs.length)

/-! ### Operations -/
noncomputable def rdo (a : Tri AV) (x : Opd) : Option AV := match x with
  | .t p => a.get p
  | .c v => some v
  | .g n => some (.ptr n 0)
noncomputable def rdos (a : Tri AV) : List Opd → Option (List AV) :=
  List.rec (some []) (fun x _ ih => ob (rdo a x) fun v => ob ih fun vs => some (v :: vs))
noncomputable def fillA (a : Tri AV) : List (Nat × Nat × Opd) → List AV → Option (List AV) :=
  List.rec (fun cs => some cs) (fun p _ ih cs => ob (rdo a p.2.2) fun v => Bool.rec none (Bool.rec none (ih (ow v.cells cs p.1)) (Nat.ble (p.1 + p.2.1) cs.length)) (Nat.beq v.cells.length p.2.1))
/-- A bound of a slice, not above y. -/
noncomputable def bnd (a : Tri AV) (d y : Nat) (x : Option Opd) : Option Nat := match x with
  | none => some d
  | some x => ob (rdo a x) fun v => match v with
    | .int _ (.ofNat i) => Bool.rec none (some i) (Nat.ble i y)
    | _ => none
noncomputable def partA (cs : List AV) (off : Nat) (n : Option Nat) : Option AV := match n with
  | none => cs[off]?
  | some n => ob (sub? cs off n) fun cs => some (.agg cs)
noncomputable def u8s : List AV → Option (List UInt8) :=
  List.rec (some []) (fun x _ ih => match x with
    | .int .u8 (.ofNat n) => ob ih fun l => some (UInt8.ofNat n :: l)
    | _ => none)
/-- The first n elements of what is appended or copied. -/
noncomputable def rowA (b off k : Nat) (s : St) : Option (List AV × St) := ob (cellsRd b s) fun r => match r with
  | (cs, s) => ob (sub? cs off k) fun cs => some (cs, s)
noncomputable def firstA (size n : Nat) (x : AV) (s : St) : Option (List AV × St) := match x with
  | .nils => some ([], s)
  | .sl b off _ _ => rowA b off (n * size) s
  | .slu b off _ _ => rowA b off (n * size) s
  | .str l => some ((l.take n).map fun b => .int .u8 (.ofNat b.toNat), s)
  | _ => none
noncomputable def lenA (x : AV) : Option Nat := match x with
  | .nils => some 0
  | .sl _ _ n _ => some n
  | .slu _ _ n _ => some n
  | .str l => some l.length
  | _ => none
noncomputable def lenB (b : Bool) (x : AV) : Option Nat := match b, x with
  | true, .str l => some l.length
  | false, .nils => some 0
  | false, .sl _ _ n _ => some n
  | false, .slu _ _ n _ => some n
  | _, _ => none
noncomputable def appA (size : Nat) (x y : AV) (s : St) : Option (AV × St) :=
  ob (lenA y) fun n => ob (firstA size n y s) fun r => match r with
  | (new, s) => Bool.rec none (match x with
    | .nils => Bool.rec none (Bool.rec (ob (allocO (.cells new false) s) fun r => some (.slu r.1 0 n size, r.2)) (some (.nils, s)) (Nat.beq n 0)) (Nat.ble n 1048576)
    | .sl b off len cap => Bool.rec none (Bool.rec
        (ob (rowA b off (len * size) s) fun q => ob (allocO (.cells (q.1 ++ new) false) q.2) fun r => some (.slu r.1 0 (len + n) size, r.2))
        (ob (storeA b (off + len * size) new s) fun s => some (.sl b off (len + n) cap, s)) (Nat.ble (len + n) cap)) (Nat.ble (len + n) 1048576)
    | .slu b 0 len z => Bool.rec none (Bool.rec
        (ob (cellsAt b s) fun r => match r with
          | (cs, _, s) => Bool.rec none (ob (putO b none s) fun s => ob (allocO (.cells (cs ++ new) false) s) fun r => some (.slu r.1 0 (len + n) size, r.2)) (Nat.beq cs.length (len * size)))
        (some (.slu b 0 len z, s)) (Nat.beq n 0)) (Nat.ble (len + n) 1048576 && Nat.beq z size)
    | _ => none) (new.all oneCell && Nat.beq new.length (n * size))
noncomputable def copyA (size : Nat) (x y : AV) (s : St) : Option (AV × St) :=
  ob (lenA y) fun ny => ob (lenA x) fun nx => fN (Nat.min ny nx) fun n => ob (firstA size n y s) fun r => match r with
  | (new, s) => match x with
    | .nils => some (.int .i64 n, s)
    | .sl b off _ _ => Bool.rec none (ob (storeA b off new s) fun s => some (.int .i64 n, s)) (new.all oneCell)
    | .slu b off _ _ => Bool.rec none (ob (storeA b off new s) fun s => some (.int .i64 n, s)) (new.all oneCell)
    | _ => none
noncomputable def pureO (s : St) (x : Option AV) : Option (AV × St) := ob x fun v => some (v, s)
noncomputable def findA (k : Int) : List (AV × AV) → Option (Option AV) :=
  List.rec (some none) (fun e _ ih => match e.1 with
    | .int .i64 j => Bool.rec ih (some (some e.2)) (beqI k j)
    | _ => none)
noncomputable def setA (k : Int) (v : AV) : List (AV × AV) → Option (List (AV × AV)) :=
  List.rec (some [(.int .i64 k, v)]) (fun e es ih => match e.1 with
    | .int .i64 j => Bool.rec (ob ih fun es => some (e :: es)) (some ((e.1, v) :: es)) (beqI k j)
    | _ => none)
abbrev ClY := Nat → List AV → St → Option (AV × St)
abbrev OpY := ClY → ClY → Tri AV → St → Option (AV × St)
noncomputable def oBad : OpY := fun _ _ _ _ => none
noncomputable def oMov (x : Opd) : OpY := fun _ _ a s => pureO s (rdo a x)
noncomputable def oPick (c : Opd) (x : Opd) (y : Opd) : OpY := fun _ _ a s => ob (rdo a c) fun c => match c with
    | .bool b => Bool.rec (pureO s (rdo a y)) (pureO s (rdo a x)) b
    | _ => none
noncomputable def oAlloc (zero : List AV) : OpY := fun _ _ _ s => ob (allocO (.cells zero true) s) fun r => some (.ptr r.1 0, r.2)
noncomputable def oBox (x : Opd) : OpY := fun _ _ a s => ob (rdo a x) fun v => ob (allocO (.cells v.cells true) s) fun r => some (.ptr r.1 0, r.2)
noncomputable def oBuild (zero : List AV) (parts : List (Nat × Nat × Opd)) : OpY := fun _ _ a s => pureO s (ob (fillA a parts zero) fun cs => some (.agg cs))
noncomputable def oBuildSl (zero : List AV) (len : Nat) (parts : List (Nat × Nat × Opd)) : OpY := fun _ _ a s => ob (fillA a parts zero) fun cs => ob (allocO (.cells cs true) s) fun r => some (.sl r.1 0 len len, r.2)
noncomputable def oLoad1 (x : Opd) : OpY := fun _ _ a s => ob (rdo a x) fun v => match v with
    | .ptr n off => ob (cellsRd n s) fun r => match r with
      | (cs, s) => pureO s cs[off]?
    | _ => none
noncomputable def oLoadN (k : Nat) (x : Opd) : OpY := fun _ _ a s => ob (rdo a x) fun v => match v with
    | .ptr n off => ob (cellsRd n s) fun r => match r with
      | (cs, s) => ob (sub? cs off k) fun cs => some (.agg cs, s)
    | _ => none
noncomputable def oStore (k : Nat) (x : Opd) (v : Opd) : OpY := fun _ _ a s => ob (rdo a x) fun x => ob (rdo a v) fun v => match x with
    | .ptr n off => Bool.rec none (ob (storeA n off v.cells s) fun s => some (.tup [], s)) (Nat.beq v.cells.length k)
    | _ => none
noncomputable def oNilck (x : Opd) : OpY := fun _ _ a s => ob (rdo a x) fun v => match v with
    | .ptr n off => some (.ptr n off, s)
    | .fn f x y => some (.fn f x y, s)
    | .yld l => some (.yld l, s)
    | _ => none
noncomputable def oBin (op : BinOp) (x : Opd) (y : Opd) : OpY := fun _ _ a s => ob (rdo a x) fun x => ob (rdo a y) fun y => pureO s (bin op x y)
noncomputable def oEq (neg : Bool) (t : EqT) (x : Opd) (y : Opd) : OpY := fun _ _ a s => ob (rdo a x) fun x => ob (rdo a y) fun y => ob (eqA t x y) fun b => pureO s (mkB (neg ^^ b))
noncomputable def oUn (op : UnOp) (x : Opd) : OpY := fun _ _ a s => ob (rdo a x) fun x => pureO s (un op x)
noncomputable def oConv (k : IntKind) (x : Opd) : OpY := fun _ _ a s => ob (rdo a x) fun x => match x with
    | .int _ n => pureO s (mkI k n)
    | _ => none
noncomputable def oB2s (x : Opd) : OpY := fun _ _ a s => ob (rdo a x) fun x => match x with
    | .nils => some (.str [], s)
    | .sl b off len _ => ob (rowA b off len s) fun r => ob (u8s r.1) fun l => some (.str l, r.2)
    | .slu b off len _ => ob (rowA b off len s) fun r => ob (u8s r.1) fun l => some (.str l, r.2)
    | _ => none
noncomputable def oMkfn (f : Nat) (first : List Opd) (caps : List Opd) : OpY := fun _ _ a s => ob (rdos a first) fun first => ob (rdos a caps) fun caps => some (.fn f first caps, s)
noncomputable def oMksl (zero : List AV) (bytes : Nat) (l : Opd) (c : Opd) : OpY := fun _ _ a s => ob (rdo a l) fun l => ob (rdo a c) fun c => match l, c with
    | .int .i64 (.ofNat l), .int .i64 (.ofNat c) => Bool.rec none (Bool.rec none
        (ob (allocO (.cells (List.replicate c zero).flatten true) s) fun r => some (.sl r.1 0 l c, r.2)) (Nat.ble l c)) (Nat.ble (bytes * c) 281474976710656 && Nat.ble c 281474976710656)
    | _, _ => none
noncomputable def oSlc (size : Nat) (x : Opd) (lo : Option Opd) (hi : Option Opd) : OpY := fun _ _ a s => ob (rdo a x) fun x => match x with
    | .nils => ob (bnd a 0 0 hi) fun h => ob (bnd a 0 h lo) fun _ => some (.nils, s)
    | .sl b off len cap => ob (bnd a len cap hi) fun h => ob (bnd a 0 h lo) fun l => fN (off + l * size) fun off' => fN (h - l) fun n => fN (cap - l) fun c => some (.sl b (Bool.rec off' off (Nat.beq cap l)) n c, s)
    | .slu b off len z => ob (bnd a len len hi) fun h => ob (bnd a 0 h lo) fun l => fN (off + l * size) fun off' => fN (h - l) fun n => Bool.rec none (Bool.rec (Bool.rec none (some (.slu b off' n z, s)) (Nat.beq l 0)) (some (.slu b off' n z, s)) (Nat.ble (l + 1) h)) (Nat.beq z size)
    | _ => none
noncomputable def oSlc3 (size : Nat) (x : Opd) (lo : Option Opd) (hi : Option Opd) (mx : Option Opd) : OpY := fun _ _ a s => ob (rdo a x) fun x => match x with
    | .nils => ob (bnd a 0 0 mx) fun m => ob (bnd a 0 m hi) fun h => ob (bnd a 0 h lo) fun _ => some (.nils, s)
    | .slu b off len _ => ob (bnd a 0 len mx) fun m => ob (bnd a 0 m hi) fun h => ob (bnd a 0 h lo) fun l => fN (off + l * size) fun off' => fN (h - l) fun n => fN (m - l) fun c => some (.sl b (Bool.rec off' off (Nat.beq m l)) n c, s)
    | .sl b off len cap => ob (bnd a 0 cap mx) fun m => ob (bnd a 0 m hi) fun h => ob (bnd a 0 h lo) fun l => fN (off + l * size) fun off' => fN (h - l) fun n => fN (m - l) fun c => some (.sl b (Bool.rec off' off (Nat.beq m l)) n c, s)
    | _ => none
noncomputable def oSlcS (x : Opd) (lo : Option Opd) (hi : Option Opd) : OpY := fun _ _ a s => ob (rdo a x) fun x => match x with
    | .str t => ob (bnd a t.length t.length hi) fun h => ob (bnd a 0 h lo) fun l => some (.str ((t.drop l).take (h - l)), s)
    | _ => none
noncomputable def oSlcA (n : Nat) (size : Nat) (x : Opd) (lo : Option Opd) (hi : Option Opd) : OpY := fun _ _ a s => ob (rdo a x) fun x => match x with
    | .ptr b off => ob (bnd a n n hi) fun h => ob (bnd a 0 h lo) fun l => fN (off + l * size) fun off' => fN (h - l) fun m => fN (n - l) fun c => some (.sl b (Bool.rec off' off (Nat.beq n l)) m c, s)
    | _ => none
noncomputable def oFaddr (k : Nat) (x : Opd) : OpY := fun _ _ a s => ob (rdo a x) fun x => match x with
    | .ptr n off => fN (off + k) fun off => some (.ptr n off, s)
    | _ => none
noncomputable def oField (off : Nat) (n : Option Nat) (x : Opd) : OpY := fun _ _ a s => ob (rdo a x) fun x => match x with
    | .agg cs => pureO s (partA cs off n)
    | _ => none
noncomputable def oIaddrA (len : Nat) (size : Nat) (x : Opd) (i : Opd) : OpY := fun _ _ a s => ob (rdo a x) fun x => ob (rdo a i) fun i => match x, i with
    | .ptr n off, .int _ (.ofNat i) => Bool.rec none (fN (off + i * size) fun off => some (.ptr n off, s)) (Nat.ble (i + 1) len)
    | _, _ => none
noncomputable def oIaddrS (size : Nat) (x : Opd) (i : Opd) : OpY := fun _ _ a s => ob (rdo a x) fun x => ob (rdo a i) fun i => match x, i with
    | .sl n off len _, .int _ (.ofNat i) => Bool.rec none (fN (off + i * size) fun off => some (.ptr n off, s)) (Nat.ble (i + 1) len)
    | .slu n off len _, .int _ (.ofNat i) => Bool.rec none (fN (off + i * size) fun off => some (.ptr n off, s)) (Nat.ble (i + 1) len)
    | _, _ => none
noncomputable def oIdxA (len : Nat) (size : Nat) (n : Option Nat) (x : Opd) (i : Opd) : OpY := fun _ _ a s => ob (rdo a x) fun x => ob (rdo a i) fun i => match x, i with
    | .agg cs, .int _ (.ofNat i) => Bool.rec none (pureO s (partA cs (i * size) n)) (Nat.ble (i + 1) len)
    | _, _ => none
noncomputable def oIdxS (x : Opd) (i : Opd) : OpY := fun _ _ a s => ob (rdo a x) fun x => ob (rdo a i) fun i => match x, i with
    | .str t, .int _ (.ofNat i) => ob t[i]? fun b => some (.int .u8 (.ofNat b.toNat), s)
    | _, _ => none
noncomputable def oExt (i : Nat) (x : Opd) : OpY := fun _ _ a s => ob (rdo a x) fun x => match x with
    | .tup vs => pureO s vs[i]?
    | _ => none
noncomputable def oCall (x : Opd) (args : List Opd) : OpY := fun cl yl a s => ob (rdo a x) fun x => ob (rdos a args) fun args => match x with
    | .fn f first caps => cl f (first ++ args ++ caps) s
    | .yld l => yl l args s
    | _ => none
noncomputable def oLen (b : Bool) (x : Opd) : OpY := fun _ _ a s => ob (rdo a x) fun x => ob (lenB b x) fun n => fN n fun n => some (.int .i64 (.ofNat n), s)
noncomputable def oApp (size : Nat) (x : Opd) (y : Opd) : OpY := fun _ _ a s => ob (rdo a x) fun x => ob (rdo a y) fun y => appA size x y s
noncomputable def oCopy (size : Nat) (x : Opd) (y : Opd) : OpY := fun _ _ a s => ob (rdo a x) fun x => ob (rdo a y) fun y => copyA size x y s
noncomputable def oMax (x : Opd) (y : Opd) : OpY := fun _ _ a s => ob (rdo a x) fun x => ob (rdo a y) fun y => match x, y with
    | .int k x, .int _ y => some (.int k (Bool.rec y x (ble y x)), s)
    | _, _ => none
noncomputable def oMin (x : Opd) (y : Opd) : OpY := fun _ _ a s => ob (rdo a x) fun x => ob (rdo a y) fun y => match x, y with
    | .int k x, .int _ y => some (.int k (Bool.rec y x (ble x y)), s)
    | _, _ => none
noncomputable def oMkmap : OpY := fun _ _ _ s => ob (allocO (.mapo []) s) fun r => some (.map r.1, r.2)
noncomputable def oLookup (zero : AV) (ok : Bool) (x : Opd) (k : Opd) : OpY := fun _ _ a s => ob (rdo a x) fun x => ob (rdo a k) fun k => match x, k with
    | .map n, .int .i64 k => ob (look n s) fun r => match r with
      | (.mapo es, s) => ob (findA k es) fun f => Bool.rec (some (Option.rec zero (fun v => v) f, s)) (some (.tup [Option.rec zero (fun v => v) f, .bool (Option.rec false (fun _ => true) f)], s)) ok
      | _ => none
    | _, _ => none
noncomputable def oMapup (x : Opd) (k : Opd) (v : Opd) : OpY := fun _ _ a s => ob (rdo a x) fun x => ob (rdo a k) fun k => ob (rdo a v) fun v => match x, k with
    | .map n, .int .i64 k => ob (look n s) fun r => match r with
      | (.mapo es, s) => ob (setA k v es) fun es => ob (putO n (some (.mapo es)) s) fun s => some (.tup [], s)
      | _ => none
    | _, _ => none
noncomputable def oRng (x : Opd) : OpY := fun _ _ a s => ob (rdo a x) fun x => match x with
  | .str l => ob (allocO (.siter l 0) s) fun r => some (.ptr r.1 0, r.2)
  | _ => none
noncomputable def oNxt (x : Opd) : OpY := fun _ _ a s => ob (rdo a x) fun x => match x with
  | .ptr n 0 => ob (look n s) fun r => match r with
    | (.siter l pos, s) => ob (some (l[pos]?)) fun c => match c with
      | some c => fN c.toNat fun c => Bool.rec none (fN (pos + 1) fun p => ob (putO n (some (.siter l p)) s) fun s => some (.tup [.bool true, .int .i64 (.ofNat pos), .int .i32 (.ofNat c)], s)) (Nat.ble (c + 1) 128)
      | none => some (.tup [.bool false], s)
    | _ => none
  | _ => none
noncomputable def evOp (cl yl : ClY) (a : Tri AV) (s : St) (o : EOp) : Option (AV × St) :=
  EOp.rec (motive := fun _ => OpY) oBad oMov oPick oAlloc oBox oBuild oBuildSl oLoad1 oLoadN oStore oNilck oBin oEq oUn oConv oB2s oMkfn oMksl oSlc oSlc3 oSlcS oSlcA oFaddr oField oIaddrA oIaddrS oIdxA oIdxS oExt oCall oLen oApp oCopy oMax oMin oMkmap oLookup oMapup oRng oNxt o cl yl a s

/-! ### Regions and code -/
/-- Whether an operation is carried out. -/
noncomputable def guardA (a : Tri AV) (g : Option (Pt × Bool)) : Option Bool := match g with
  | none => some true
  | some (p, b) => ob (a.get p) fun v => match v with
    | .bool c => some (Bool.rec (!c) c b)
    | .tup _ => some false
    | _ => none
noncomputable def putA (d : Option Pt) (v : AV) (a : Tri AV) (s : St) : Option (Tri AV × St) := match d with
  | none => some (a, s)
  | some p => fT (a.set (some v) p) fun a => some (a, s)
noncomputable def evOper (cl yl : Nat → List AV → St → Option (AV × St)) (o : EOper) (a : Tri AV) (s : St) : Option (Tri AV × St) :=
  ob (guardA a o.guard) fun b => Bool.rec (putA o.dst (.tup []) a s) (ob (evOp cl yl a s o.op) fun r => putA o.dst r.1 a r.2) b
noncomputable def evOps (cl yl : Nat → List AV → St → Option (AV × St)) : List EOper → Tri AV → St → Option (Tri AV × St) :=
  List.rec (fun a s => some (a, s)) (fun o _ ih a s => ob (evOper cl yl o a s) fun r => ih r.1 r.2)
/-- What an operation of a region that draws its order has touched, written and laid. -/
structure Rec where
  i : Nat
  anc : Nat
  from_ : Nat
  to : Nat
  T : List Nat
  W : List Nat
noncomputable def memN (n : Nat) : List Nat → Bool := List.rec false (fun m _ ih => Bool.rec ih true (Nat.beq n m))
/-- x has not touched what y, which may come ahead of it or behind it, writes or lays. -/
noncomputable def clear1 (y : Rec) : List Nat → Bool :=
  List.rec true (fun n _ ih => Bool.rec (Bool.rec ih (Bool.rec ih false (Nat.ble (n + 1) y.to)) (Nat.ble y.from_ n)) false (memN n y.W))
noncomputable def isNil {α : Type} (l : List α) : Bool := List.rec true (fun _ _ _ => false) l
noncomputable def clearOf (x y : Rec) : Bool :=
  Nat.beq x.i y.i || x.anc.testBit y.i || y.anc.testBit x.i || (isNil y.W && Nat.beq y.from_ y.to) || clear1 y x.T
noncomputable def allR (p : Rec → Bool) : List Rec → Bool := List.rec true (fun x _ ih => Bool.rec false ih (p x))
noncomputable def clearAll (rs : List Rec) : Bool := allR (fun x => isNil x.T || allR (fun y => clearOf x y) rs) rs
/-- What is not of the operation's own laying. -/
noncomputable def trimL (f t : Nat) : List Nat → List Nat := List.rec [] (fun n _ ih => Bool.rec (n :: ih) (Bool.rec (n :: ih) ih (Nat.ble (n + 1) t)) (Nat.ble f n))
noncomputable def trim (x : Rec) : Rec := ⟨x.i, x.anc, x.from_, x.to, trimL x.from_ x.to x.T, trimL x.from_ x.to x.W⟩
noncomputable def trims : List Rec → List Rec := List.rec [] (fun x _ ih => trim x :: ih)
noncomputable def app {α : Type} (x y : List α) : List α := List.rec y (fun a _ ih => a :: ih) x
noncomputable def evOpsD (cl yl : Nat → List AV → St → Option (AV × St)) : List EOper → Nat → List Rec → Tri AV → St → Option (List Rec × Tri AV × St) :=
  List.rec (fun _ rs a s => some (rs, a, s)) (fun o _ ih i rs a s => ob (evOper cl yl o a ⟨s.h, s.nx, [], []⟩) fun r =>
    ih (i + 1) (⟨i, o.anc, s.nx, r.2.nx, r.2.lg, r.2.wl⟩ :: rs) r.1 ⟨r.2.h, r.2.nx, app r.2.lg s.lg, app r.2.wl s.wl⟩)
noncomputable def evRegD (cl yl : Nat → List AV → St → Option (AV × St)) (ops : List EOper) (a : Tri AV) (s : St) : Option (Tri AV × St) :=
  ob (evOpsD cl yl ops 0 [] a s) fun r => Bool.rec none (some r.2) (clearAll (trims r.1))
noncomputable def argT : List AV → Nat → Tri AV → Tri AV := List.rec (fun _ t => t) (fun v _ ih i t => ih (i + 1) (t.set (some v) (pt i)))
noncomputable def resA (a : Tri AV) (s : St) : List (Pt × Option (Option Nat)) → Option (List AV × St) :=
  List.rec (some ([], s)) (fun p _ ih => ob (a.get p.1) fun v => match p.2 with
    | none => ob ih fun r => some (v :: r.1, r.2)
    | some n => match v with
      | .ptr b off => ob ih fun r => ob (cellsRd b r.2) fun q => ob (partA q.1 off n) fun u => some (u :: r.1, q.2)
      | _ => none)
noncomputable def tupA (vs : List AV) : AV := match vs with
  | [v] => v
  | vs => .tup vs
noncomputable def takeD : List Nat → St → Option St :=
  List.rec (fun s => some s) (fun d _ ih s => ob (look d s) fun r => match r with
    | (.dfr, s) => ob (putO d none s) ih
    | _ => none)
/-- A call of a function; ih reckons its body. -/
noncomputable def evCall (ft : Tri EFn) (ih : Bool → ECode → Tri AV → List Nat → St → Rz) (f : Nat) (args : List AV) (s : St) : Option (AV × St) :=
  ob (ft.get (pt f)) fun e => match ih false e.code (argT args 0 .leaf) [] s with
  | .ok .norm a ds s | .ok .ret a ds s => ob (takeD ds s) fun s => ob (resA a s e.res) fun r => some (tupA r.1, r.2)
  | _ => none
noncomputable def parT : List Pt → List AV → Tri AV → Option (Tri AV) :=
  List.rec (fun vs t => match vs with | [] => some t | _ => none) (fun p _ ih vs t => match vs with | v :: vs => ih vs (t.set (some v) p) | [] => none)
noncomputable def loopAt (l : Nat) (s : St) : Option (LoopState × Option Out × Nat × Nat × Tri AV × List Pt × ECode × ECode × Nat × St) := ob (look l s) fun r => match r with
  | (.loop st pe f N a ps as bo d, s) => some (st, pe, f, N, a, ps, as, bo, d, s)
  | _ => none
/-- A round of a range over a function. -/
noncomputable def evYield (ih : Nat → Nat → Bool → ECode → Tri AV → List Nat → St → Rz) (l : Nat) (args : List AV) (s : St) : Option (AV × St) :=
  ob (loopAt l s) fun r => match r with
  | (.ready, _, f, N, a0, ps, as, bo, _, s) => ob (parT ps args a0) fun a => match ih f N true as a [] s with
    | .ok .norm a [] s => ob (loopAt l s) fun r => match r with
      | (.ready, pe, f1, N1, a1, ps1, as1, bo1, d1, s) => ob (putO l (some (.loop .busy pe f1 N1 a1 ps1 as1 bo1 d1)) s) fun s => match ih f N true bo a [] s with
        | .ok e _ [] s => ob (loopAt l s) fun r => match r with
          | (_, _, f2, N2, a2, ps2, as2, bo2, d2, s) => match e with
            | .norm => ob (putO l (some (.loop .ready none f2 N2 a2 ps2 as2 bo2 d2)) s) fun s => some (.bool true, s)
            | .ret => ob (putO l (some (.loop .done (some .ret) f2 N2 a2 ps2 as2 bo2 d2)) s) fun s => some (.bool false, s)
            | .exit id => ob (putO l (some (.loop .done (some (.exit id)) f2 N2 a2 ps2 as2 bo2 d2)) s) fun s => some (.bool false, s)
        | _ => none
      | _ => none
    | _ => none
  | _ => none
/-- What is known of some functions by contracts. -/
abbrev OrcT := Nat → List AV → St → Option (AV × St)
noncomputable def clE (O : OrcT) (ft : Tri EFn) (ih : Nat → Nat → Bool → ECode → Tri AV → List Nat → St → Rz) : Nat → List AV → St → Option (AV × St) := fun f args s => match ft.get (pt f) with
  | some e => evCall ft (ih f e.N) f args s
  | none => O f args s
noncomputable def rzO (x : Option (Tri AV × St)) (ds : List Nat) : Rz := Option.rec .fail (fun r => .ok .norm r.1 ds r.2) x
/-- The reckoner. fid, N: the function whose code it is, and how many temporaries it has. -/
abbrev IhY := Nat → Nat → Bool → ECode → Tri AV → List Nat → St → Rz
abbrev CdY := OrcT → Tri EFn → IhY → Nat → Nat → Bool → Tri AV → List Nat → St → Rz
noncomputable def cBad : CdY := fun _ _ _ _ _ _ _ _ _ => .fail
noncomputable def cSkip : CdY := fun _ _ _ _ _ _ a ds s => .ok .norm a ds s
noncomputable def cRegion (ops : List EOper) (draw : Bool) : CdY := fun O ft ih _ _ _ a ds s => Bool.rec
        (rzO (evOps (clE O ft ih) (fun l args s => evYield ih l args s) ops a s) ds)
        (rzO (evRegD (clE O ft ih) (fun l args s => evYield ih l args s) ops a s) ds) draw
noncomputable def cSeq (x y : ECode) : CdY := fun _ _ ih fid N rd a ds s => match ih fid N rd x a ds s with
      | .ok .norm a ds s => ih fid N rd y a ds s
      | r => r
noncomputable def cCond (x : Opd) (t e : ECode) : CdY := fun _ _ ih fid N rd a ds s => match rdo a x with
      | some (.bool b) => Bool.rec (ih fid N rd e a ds s) (ih fid N rd t a ds s) b
      | _ => .fail
noncomputable def cBlock (id : Nat) (c : ECode) : CdY := fun _ _ ih fid N rd a ds s => match ih fid N rd c a ds s with
      | .ok (.exit j) a ds s => Bool.rec (.ok (.exit j) a ds s) (.ok .norm a ds s) (Nat.beq j id)
      | r => r
noncomputable def cLoop (c : ECode) : CdY := fun _ _ ih fid N rd a ds s => match ih fid N rd c a ds s with
      | .ok .norm a ds s => ih fid N rd (.loop c) a ds s
      | r => r
noncomputable def cExit (id : Nat) : CdY := fun _ _ _ _ _ _ a ds s => .ok (.exit id) a ds s
noncomputable def cRet : CdY := fun _ _ _ _ _ _ a ds s => .ok .ret a ds s
noncomputable def cRangeF (f : Opd) (ps : List Pt) (as bo : ECode) : CdY := fun O ft ih fid N rd a ds s => Bool.rec (match rdo a f with
      | some (.fn g first caps) => match ob (allocO .dfr s) fun r => ob (allocO (.loop .ready none fid N a ps as bo r.1) r.2) fun q => ob (clE O ft ih g (first ++ [.yld q.1] ++ caps) q.2) fun p => ob (loopAt q.1 p.2) fun x => some (r.1, q.1, x) with
        | some (d, l, st, pe, f', N', a', ps', as', bo', d', s) => match st with
          | .busy => .fail
          | _ => match putO l (some (.loop .exhausted pe f' N' a' ps' as' bo' d')) s with
            | some s => .ok (Option.rec .norm (fun e => e) pe) a (d :: ds) s
            | none => .fail
        | none => .fail
      | _ => .fail) .fail rd
noncomputable def evC (c : ECode) : CdY :=
  ECode.rec (motive := fun _ => CdY) cBad cSkip cRegion (fun x y _ _ => cSeq x y) (fun x t e _ _ => cCond x t e) (fun id c _ => cBlock id c) (fun c _ => cLoop c) (fun f ps as bo _ _ => cRangeF f ps as bo) cExit cRet c
/-- The reckoner. fid, N: the function whose code it is, and how many temporaries it has. -/
noncomputable def ev (O : OrcT) (ft : Tri EFn) : Nat → Nat → Nat → Bool → ECode → Tri AV → List Nat → St → Rz :=
  Nat.rec (fun _ _ _ _ _ _ _ => .fail) (fun _ ih fid N rd c a ds s => evC c O ft ih fid N rd a ds s)
end Go.Proofs.Ytonckpblbdopmaa.Rk
