/-
  Reckoning a program in the kernel: from the program's code to the code as it is reckoned. Nothing of the program.
-/
import Derived.Test.YtonckpblbdopmaaRu2
namespace Go.Proofs.Ytonckpblbdopmaa.Rk
set_option linter.unusedVariables false
open Go

def ptG : Nat → Nat → Pt
  | 0, _ => .e
  | f + 1, k => if k = 0 then .e else if k % 2 = 1 then .l (ptG f (k / 2)) else .r (ptG f (k / 2 - 1))
theorem ptG_eq : ∀ (f k : Nat), ptG f k = ptF f k := by
  intro f
  induction f with
  | zero => intro k; rfl
  | succ f ih =>
    intro k
    show (if k = 0 then Pt.e else if k % 2 = 1 then .l (ptG f (k / 2)) else .r (ptG f (k / 2 - 1))) = Bool.rec (Bool.rec (.r (ptF f (k / 2 - 1))) (.l (ptF f (k / 2))) (Nat.beq (k % 2) 1)) .e (Nat.beq k 0)
    by_cases h0 : k = 0
    · subst h0; rfl
    · rw [if_neg h0]
      have h0' : Nat.beq k 0 = false := by cases h : Nat.beq k 0 with
        | false => rfl
        | true => exact absurd (Nat.eq_of_beq_eq_true h) h0
      rw [h0']
      by_cases h1 : k % 2 = 1
      · rw [if_pos h1]
        have h1' : Nat.beq (k % 2) 1 = true := by rw [h1]; rfl
        rw [h1']
        show Pt.l _ = Pt.l _
        rw [ih]
      · rw [if_neg h1]
        have h1' : Nat.beq (k % 2) 1 = false := by cases h : Nat.beq (k % 2) 1 with
          | false => rfl
          | true => exact absurd (Nat.eq_of_beq_eq_true h) h1
        rw [h1']
        show Pt.r _ = Pt.r _
        rw [ih]
def ptc (k : Nat) : Pt := ptG k k
theorem ptc_eq (k : Nat) : ptc k = pt k := ptG_eq k k

/-- A constant's cell. -/
def cS : Value → Option AV
  | .int k n => some (.int k n)
  | .bool b => some (.bool b)
  | .string s => some (.str s.data.toList)
  | .pointer none => some .nilp
  | .slice none 0 0 => some .nils
  | .nilFunc => some .nilf
  | .map none => some .nilm
  | .func (.func f) a b => if a.size = 0 && b.size = 0 then some (.fn f [] []) else none
  | _ => none
def cSs : List Value → Option (List AV)
  | [] => some []
  | v :: vs => match cS v, cSs vs with
    | some a, some l => some (a :: l)
    | _, _ => none
def cV : Value → Option AV
  | .agg cs => (cSs cs.toList).map .agg
  | .tuple vs => if vs.size = 0 then some (.tup []) else none
  | v => cS v
def cO (P : Program) : Operand → Option Opd
  | .tmp t => some (.t (ptc t))
  | .const v => (cV v).map .c
  | .global g => if g < P.globals.size then some (.g g) else none
  | .func f => some (.c (.fn f [] []))
def cOs (P : Program) : List Operand → Option (List Opd)
  | [] => some []
  | x :: xs => match cO P x, cOs P xs with
    | some a, some l => some (a :: l)
    | _, _ => none
def szT (P : Program) (t : TypeId) : Option Nat := (P.info? t).map (·.size)
def zeroT (P : Program) (t : TypeId) : Option Value := (P.info? t).bind (·.zero)
/-- The cells of a type that is held whole; none: it is one cell. -/
def aggT (P : Program) (t : TypeId) : Option (Option Nat) := match P.underlying t with
  | some (.struct _) | some (.array _ _) => (szT P t).map some
  | some _ => some none
  | none => none
def zCells (P : Program) (t : TypeId) : Option (List AV) := (zeroT P t).bind fun v => cSs v.cells.toList
def places (P : Program) : List Field → Option (List (Nat × Nat))
  | [] => some []
  | f :: fs => match szT P f.type, places P fs with
    | some n, some l => some ((f.offset, n) :: l)
    | _, _ => none
def cParts (P : Program) (place : Nat → Option (Nat × Nat)) : List (Nat × Operand) → Option (List (Nat × Nat × Opd))
  | [] => some []
  | (i, x) :: ps => match place i, cO P x, cParts P place ps with
    | some p, some o, some l => some ((p.1, p.2, o) :: l)
    | _, _, _ => none
def cOpt (P : Program) : Option Operand → Option (Option Opd)
  | none => some none
  | some x => (cO P x).map some
/-- The offsets of a struct's fields, all of them numbers. -/
def intFields (P : Program) : List Field → Option (List Nat)
  | [] => some []
  | f :: fs => match P.underlying f.type, f.name == "_", intFields P fs with
    | some (.int _), false, some l => some (f.offset :: l)
    | _, _, _ => none
/-- The offsets of a struct's fields, all of them truth values. -/
def boolFields (P : Program) : List Field → Option (List Nat)
  | [] => some []
  | f :: fs => match P.underlying f.type, f.name == "_", boolFields P fs with
    | some .bool, false, some l => some (f.offset :: l)
    | _, _, _ => none
def eqT (P : Program) (t : TypeId) : Option EqT := match P.underlying t with
  | some .bool => some .bool
  | some (.pointer _) => some .nilP
  | some (.slice _) => some .nilS
  | some (.map _ _) => some .nilM
  | some (.func _ _ _) => some .nilF
  | some (.struct fs) => if P.stoodInHeld t || P.eqGuardType P.depth t then none else match intFields P fs.toList with
    | some l => some (.ints l)
    | none => (boolFields P fs.toList).map .bools
  | _ => none
def cBin (P : Program) (op : BinOp) (t : TypeId) (x y : Operand) : Option EOp := match op with
  | .eql => match P.underlying t with
    | some (.int _) | some .string => (cO P x).bind fun x => (cO P y).map fun y => .bin op x y
    | _ => (eqT P t).bind fun e => (cO P x).bind fun x => (cO P y).map fun y => .eq false e x y
  | .neq => match P.underlying t with
    | some (.int _) | some .string => (cO P x).bind fun x => (cO P y).map fun y => .bin op x y
    | _ => (eqT P t).bind fun e => (cO P x).bind fun x => (cO P y).map fun y => .eq true e x y
  | op => (cO P x).bind fun x => (cO P y).map fun y => .bin op x y
def isU8 (P : Program) (e : TypeId) : Bool := match P.underlying e with
  | some (.int .u8) => true
  | _ => false
def cCall (P : Program) (c : Call) : Option EOp := match c.callee with
  | .value f => (cO P f).bind fun f => (cOs P c.args.toList).map fun xs => .call f xs
  | .builtin .len => match c.argTypes.toList, c.args.toList with
    | [t], [x] => match P.underlying t with
      | some .string => (cO P x).map (.len true)
      | some (.slice _) => (cO P x).map (.len false)
      | some (.array n _) => (cO P x).map fun _ => .mov (.c (.int .i64 n))
      | _ => none
    | _, _ => none
  | .builtin .append => match c.argTypes.toList, c.args.toList with
    | [t, u], [x, y] => match P.underlying t, P.underlying u with
      | some (.slice _), some (.int _) => none
      | some (.slice e), some _ => match P.info? e with
        | some i => if i.size = 0 || i.bytes = 0 || decide (1048576 < i.bytes) || (zeroT P e).all (fun z => decide (z.cells.size ≠ i.size)) then none else (cO P x).bind fun x => (cO P y).map fun y => .app i.size x y
        | none => none
      | _, _ => none
    | _, _ => none
  | .builtin .copy => match c.argTypes.toList, c.args.toList with
    | [t, _], [x, y] => match P.underlying t with
      | some (.slice e) => (szT P e).bind fun n => (cO P x).bind fun x => (cO P y).map fun y => .copy n x y
      | _ => none
    | _, _ => none
  | .builtin .max => match c.args.toList with
    | [x, y] => (cO P x).bind fun x => (cO P y).map fun y => .max x y
    | _ => none
  | .builtin .min => match c.args.toList with
    | [x, y] => (cO P x).bind fun x => (cO P y).map fun y => .min x y
    | _ => none
  | _ => none
def isI64 (P : Program) (e : TypeId) : Bool := match P.underlying e with
  | some (.int .i64) => true
  | _ => false
def cOp (P : Program) (o : Op) : Option EOp := match o with
  | .move x => (cO P x).map .mov
  | .assign x => (cO P x).map .mov
  | .pick c x y => (cO P c).bind fun c => (cO P x).bind fun x => (cO P y).map fun y => .pick c x y
  | .alloc t => (zCells P t).map .alloc
  | .box _ x => (cO P x).map .box
  | .build t ps => (zCells P t).bind fun z => match P.underlying t with
    | some (.struct fs) => (places P fs.toList).bind fun pl => (cParts P (pl[·]?) ps.toList).map fun l => .build z l
    | some (.array _ e) => (szT P e).bind fun n => (cParts P (fun i => some (i * n, n)) ps.toList).map fun l => .build z l
    | _ => none
  | .buildSlice t len ps => match P.underlying t with
    | some (.slice e) => (szT P e).bind fun n => if len = 0 then (match ps.toList with | [] => some (.buildSl [] 0 []) | _ => none) else if len * n = 0 || decide (16777216 < len * n) then none else (zCells P e).bind fun z =>
        if z.length = n then (cParts P (fun i => some (i * n, n)) ps.toList).map fun l => .buildSl (List.replicate len z).flatten len l else none
    | _ => none
  | .load t x => (aggT P t).bind fun n => (cO P x).map fun x => match n with
    | none => .load1 x
    | some n => .loadN n x
  | .store t x v => (szT P t).bind fun n => (cO P x).bind fun x => (cO P v).map fun v => .store n x v
  | .nilCheck x => (cO P x).map .nilck
  | .binOp op t x y _ => cBin P op t x y
  | .unOp op _ x => (cO P x).map fun x => .un op x
  | .convert s d x => match P.underlying s, P.underlying d with
    | some _, some (.int k) => (cO P x).map fun x => .conv k x
    | some (.slice e), some .string => if isU8 P e then (cO P x).map fun x => .b2s x else none
    | _, _ => none
  | .makeFunc (.func f) first caps => (cOs P first.toList).bind fun a => (cOs P caps.toList).map fun b => .mkfn f a b
  | .makeSlice t l c => match P.underlying t with
    | some (.slice e) => match P.info? e, zCells P e with
      | some i, some z => if z.length = i.size && i.size ≠ 0 then (cO P l).bind fun l => (cO P c).map fun c => .mksl z i.bytes l c else none
      | _, _ => none
    | _ => none
  | .slice t x lo hi none => (cO P x).bind fun x => (cOpt P lo).bind fun lo => (cOpt P hi).bind fun hi => match P.underlying t with
    | some .string => some (.slcS x lo hi)
    | some (.slice e) => (szT P e).map fun n => .slc n x lo hi
    | some (.array n e) => (szT P e).map fun k => .slcA n k x lo hi
    | _ => none
  | .slice t x lo (some hi) (some mx) => (cO P x).bind fun x => (cOpt P lo).bind fun lo => (cO P hi).bind fun hi => (cO P mx).bind fun mx => match P.underlying t with
    | some (.slice e) => (szT P e).map fun n => .slc3 n x lo (some hi) (some mx)
    | _ => none
  | .fieldAddr s x f => match P.underlying s with
    | some (.struct fs) => match fs[f]? with
      | some fd => (szT P fd.type).bind fun n => if n = 0 then none else (cO P x).map fun x => .faddr fd.offset x
      | none => none
    | _ => none
  | .field t x f => match P.underlying t with
    | some (.struct fs) => match fs[f]? with
      | some fd => (aggT P fd.type).bind fun n => (cO P x).map fun x => .field fd.offset n x
      | none => none
    | _ => none
  | .indexAddr t x i => match P.underlying t with
    | some (.array len e) => (szT P e).bind fun n => (cO P x).bind fun x => (cO P i).map fun i => .iaddrA len n x i
    | some (.slice e) => (szT P e).bind fun n => (cO P x).bind fun x => (cO P i).map fun i => .iaddrS n x i
    | _ => none
  | .index t x i => match P.underlying t with
    | some (.array len e) => (szT P e).bind fun k => (aggT P e).bind fun n => (cO P x).bind fun x => (cO P i).map fun i => .idxA len k n x i
    | some .string => (cO P x).bind fun x => (cO P i).map fun i => .idxS x i
    | _ => none
  | .extract x i => (cO P x).map fun x => .ext i x
  | .call c => cCall P c
  | .makeMap _ none => some .mkmap
  | .range t x => match P.underlying t with
    | some .string => (cO P x).map fun x => .rng x
    | _ => none
  | .next x true => (cO P x).map fun x => .nxt x
  | .lookup t x k ok => match P.underlying t with
    | some (.map kt e) => if isI64 P kt then (zeroT P e).bind fun z => (cV z).bind fun z => (cO P x).bind fun x => (cO P k).map fun k => .lookup z ok x k else none
    | _ => none
  | .mapUpdate t x k v => match P.underlying t with
    | some (.map kt _) => if isI64 P kt then (cO P x).bind fun x => (cO P k).bind fun k => (cO P v).map fun v => .mapup x k v else none
    | _ => none
  | _ => none
def cGuard (ops : Array Oper) : Option (Nat × Bool) → Option (Option (Pt × Bool))
  | none => some none
  | some (j, b) => match (ops[j]?).bind (·.dst) with
    | some d => some (some (ptc d, b))
    | none => none
def cOper (P : Program) (N : Nat) (ops : Array Oper) (anc : Nat) (o : Oper) : Option EOper :=
  if o.dst.all (fun d => decide (d < N)) then (cGuard ops o.guard).map fun g => { dst := o.dst.map ptc, op := (cOp P o.op).getD .bad, guard := g, anc := anc } else none
def cOpers (P : Program) (N : Nat) (ops : Array Oper) (anc : Array Nat) : List Oper → Nat → Option (List EOper)
  | [], _ => some []
  | o :: os, i => match cOper P N ops (anc.getD i 0) o, cOpers P N ops anc os (i + 1) with
    | some e, some l => some (e :: l)
    | _, _ => none
/-- Those that an operation waits for lie ahead of it. -/
def backs (ops : Array Oper) : Bool := (List.range ops.size).all fun i => match ops[i]? with
  | some o => o.after.toList.all fun e => !Region.binds .any e || decide (e.on < i)
  | none => true
/-- All slots that an operation names. -/
def slots (ops : Array Oper) (o : Oper) : List Nat :=
  o.dst.toList ++ (o.op.operands.toList.filterMap fun | .tmp t => some t | _ => none) ++ (match o.guard with | some (j, _) => ((ops[j]?).bind (·.dst)).toList | none => [])
/-- What one operation writes no other names that is not told to come ahead or behind. -/
def apartOk (ops : Array Oper) (anc : Array Nat) : Bool :=
  (List.range ops.size).all fun i => match ops[i]? with
    | some o => match o.dst with
      | some d => (List.range ops.size).all fun j => i == j || (anc.getD i 0).testBit j || (anc.getD j 0).testBit i || (match ops[j]? with | some q => !(slots ops q).contains d | none => true)
      | none => true
    | none => true
/-- What is told to come ahead does. -/
def ancOk (ops : Array Oper) (anc : Array Nat) : Bool :=
  (List.range ops.size).all fun i => match ops[i]? with
    | some o => decide (anc.getD i 0 < 2 ^ i) && (List.range i).all fun j => !(anc.getD i 0).testBit j || o.after.toList.any fun e => Region.binds .any e && (e.on == j || (anc.getD e.on 0).testBit j)
    | none => true
def cCode (P : Program) (N : Nat) : Code → ECode
  | .skip => .skip
  | .region _ ops draw =>
    let anc := Region.before ops
    if draw && !(P.follows .mixedOrders && backs ops && apartOk ops anc && ancOk ops anc) then .bad else
    match cOpers P N ops anc ops.toList 0 with
    | some l => .region l draw
    | none => .bad
  | .seq a b => .seq (cCode P N a) (cCode P N b)
  | .cond c a b => match cO P c with
    | some c => .cond c (cCode P N a) (cCode P N b)
    | none => .bad
  | .block id c => .block id (cCode P N c)
  | .loop c => .loop (cCode P N c)
  | .rangeFunc f ps a b => match cO P f with
    | some f => if ps.toList.all (fun p => decide (p < N)) then .rangeF f (ps.toList.map ptc) (cCode P N a) (cCode P N b) else .bad
    | none => .bad
  | .exit id => .exit id
  | .ret => .ret
  | .label _ => .skip
  | .scope c => cCode P N c
  | _ => .bad
def cRes (P : Program) : List ResultVar → Option (List (Pt × Option (Option Nat)))
  | [] => some []
  | .tmp t :: rs => (cRes P rs).map fun l => (ptc t, none) :: l
  | .cell a t :: rs => match aggT P t, cRes P rs with
    | some n, some l => some ((ptc a, some n) :: l)
    | _, _ => none
def cFn (P : Program) (f : Nat) : Option EFn := match P.funcs[f]? with
  | some fn => match fn.body, cRes P fn.results.toList with
    | some c, some r => if fn.name == "runtime.NumGoroutine" then none else some { id := f, N := fn.ntmps, res := r, code := cCode P fn.ntmps c }
    | _, _ => none
  | none => none
noncomputable def mkFT : List EFn → Tri EFn := List.rec .leaf (fun e _ ih => Tri.set (some e) (pt e.id) ih)
def FTok (P : Program) (ft : Tri EFn) : Prop := ∀ f e, ft.get (pt f) = some e → cFn P f = some e
theorem FTok.nil (P : Program) : FTok P (mkFT []) := fun f e h => by
  have : Tri.get (pt f) (Tri.leaf : Tri EFn) = some e := h
  rw [Tri.get_leaf] at this; cases this
theorem FTok.cons {P : Program} {e : EFn} {l : List EFn} (h : cFn P e.id = some e) (hl : FTok P (mkFT l)) : FTok P (mkFT (e :: l)) := fun f e' h' => by
  have h2 : Tri.get (pt f) (Tri.set (some e) (pt e.id) (mkFT l)) = some e' := h'
  by_cases he : e.id = f
  · subst he; rw [Tri.set_same] at h2; cases h2; exact h
  · rw [Tri.set_other _ _ _ _ (fun q => he (pt_inj q))] at h2; exact hl f e' h2
end Go.Proofs.Ytonckpblbdopmaa.Rk
