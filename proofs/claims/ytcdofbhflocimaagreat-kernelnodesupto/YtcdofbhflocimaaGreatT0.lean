/- Part 0 of the proof: Kg1 Kg2 Kg3 Kg4 Kg5. By AI agents; no person has read it. -/
import Derived.CallsIn
import Derived.RangeFuncLeaves
import Derived.Recover
import Derived.OrdersIn
set_option linter.unusedVariables false
set_option linter.unusedSimpArgs false
set_option linter.unusedSectionVars false
section
namespace Go.Lg
inductive Own where
  | none | exact | tok (n : Nat)
  deriving DecidableEq
inductive LV where
  | bool (b : Bool) | int (k : IntKind) (n : Int) | str (s : ByteArray)
  | nilp | ptr (b o : Nat) | ro (cells : List LV)
  | slice (xs : List LV) (own : Own) (nz : Option Bool)
  | mslice (b o len cap : Nat)
  | func (fn : Fn) (first captured : List LV) | nilFunc
  | iface (t : TypeId) (v : LV) | nilIface
  | agg (cells : List LV) | tuple (vs : List LV)
  | junk
instance : Inhabited LV := ⟨.junk⟩
def LV.cells : LV → List LV
  | .agg cs => cs
  | v => [v]
def LV.wd : LV → Nat
  | .agg cs => cs.length
  | _ => 1
def LV.scalar : LV → Bool
  | .agg _ => false
  | .tuple _ => false
  | .junk => false
  | _ => true
def LV.flat (v : LV) : Bool := v.cells.all LV.scalar
def LV.canon1 : LV → LV
  | .slice xs _ _ => .slice xs .none none
  | v => v
def LV.canon : LV → LV
  | .slice xs _ _ => .slice xs .none none
  | .agg cs => .agg (cs.map LV.canon1)
  | v => v
def LV.canonT : LV → LV
  | .slice xs _ nz => .slice xs .none nz
  | .agg cs => .agg (cs.map LV.canon1)
  | v => v
def LV.canonR : LV → LV
  | .slice xs o nz => .slice xs o nz
  | .agg cs => .agg (cs.map LV.canon1)
  | .tuple vs => .tuple (vs.map LV.canonT)
  | .iface t v => .iface t v.canon
  | v => v
def LV.canonA : LV → LV
  | .agg cs => .agg (cs.map LV.canon1)
  | v => v
mutual
def LV.refOK (N : Nat) : LV → Bool
  | .ptr b _ => b < N
  | .ro cs => LV.refsOK N cs
  | .slice xs _ _ => LV.refsOK N xs
  | .mslice b _ _ _ => b < N
  | .func (.yield l) fs cs => l < N && LV.refsOK N fs && LV.refsOK N cs
  | .func _ fs cs => LV.refsOK N fs && LV.refsOK N cs
  | .iface _ v => LV.refOK N v
  | .agg cs => LV.refsOK N cs
  | .tuple cs => LV.refsOK N cs
  | _ => true
def LV.refsOK (N : Nat) : List LV → Bool
  | [] => true
  | x :: xs => LV.refOK N x && LV.refsOK N xs
end
def Own.ok (T : Nat) : Own → Bool
  | .tok k => k < T
  | _ => true
mutual
def LV.tokOK (T : Nat) : LV → Bool
  | .ro cs => LV.toksOK T cs
  | .slice xs own _ => own.ok T && LV.toksOK T xs
  | .func _ fs cs => LV.toksOK T fs && LV.toksOK T cs
  | .iface _ v => LV.tokOK T v
  | .agg cs => LV.toksOK T cs
  | .tuple cs => LV.toksOK T cs
  | _ => true
def LV.toksOK (T : Nat) : List LV → Bool
  | [] => true
  | x :: xs => LV.tokOK T x && LV.toksOK T xs
end
inductive Tree where
  | nil
  | node (l : Tree) (v : LV) (r : Tree)
noncomputable def Tree.get (t : Tree) : Nat → Option LV :=
  Tree.rec (motive := fun _ => Nat → Option LV) (fun _ => none) (fun _ v _ l r k => Bool.rec (Bool.rec (r (Nat.sub (Nat.div k 2) 1)) (l (Nat.div k 2)) (Nat.beq (Nat.mod k 2) 1)) (some v) (Nat.beq k 0)) t
noncomputable def Tree.set (t : Tree) : Nat → LV → Tree :=
  Tree.rec (motive := fun _ => Nat → LV → Tree) (fun _ _ => .nil)
    (fun l v r sl sr k x => Bool.rec (Bool.rec (.node l v (sr (Nat.sub (Nat.div k 2) 1) x)) (.node (sl (Nat.div k 2) x) v r) (Nat.beq (Nat.mod k 2) 1)) (.node l x r) (Nat.beq k 0)) t
def Tree.full : Nat → Tree
  | 0 => .nil
  | n + 1 => .node (Tree.full n) (.tuple []) (Tree.full n)
structure Tm where
  n : Nat
  t : Tree
noncomputable def Tm.get (tm : Tm) (k : Nat) : Option LV := tm.t.get k
noncomputable def Tm.put (tm : Tm) (k : Nat) (x : LV) : Tm :=
  match Nat.ble (k + 1) tm.n with
  | true => { n := tm.n, t := tm.t.set k x }
  | false => tm
noncomputable def Tm.puts (tm : Tm) (k : Nat) : List LV → Tm
  | [] => tm
  | x :: xs => (tm.put k x).puts (k + 1) xs
structure LLoop where
  tmps : Tm
  params : List Tmp
  assign : Code
  body : Code
  state : LoopState
  pending : Option Code
inductive LObj where
  | cells (t : TypeId) (cs : List LV)
  | loop (r : LLoop)
  | dfr
  | gone
structure LH where
  boxes : List LObj
  toks : List Bool
  ws : List Nat
inductive LDef where
  | mark (d : Nat)
  | fn (f : FuncId) (args : List LV)
structure LAct where
  tmps : Tm
  defers : List LDef
inductive LExit where
  | normal | exit (id : Nat) | ret | panic (v : LV)
inductive LOut where
  | ret (v : LV) | pan (v : LV)
def ofV1 : Value → Option LV
  | .bool b => some (.bool b)
  | .int k n => some (.int k n)
  | .string s => some (.str s)
  | .pointer none => some .nilp
  | .slice none 0 0 => some (.slice [] .exact (some true))
  | .nilFunc => some .nilFunc
  | .nilIface => some .nilIface
  | .func (.func f) fs cs => if fs.size = 0 ∧ cs.size = 0 then some (.func (.func f) [] []) else none
  | _ => none
def ofV : Value → Option LV
  | .agg cs => (cs.toList.mapM ofV1).map .agg
  | v => ofV1 v
def toV : LV → Option Value
  | .bool b => some (.bool b)
  | .int k n => some (.int k n)
  | .str s => some (.string s)
  | _ => none
noncomputable def opv (tm : Tm) : Operand → Option LV
  | .tmp t => tm.get t
  | .const v => ofV v
  | .func f => some (.func (.func f) [] [])
  | .global _ => none
noncomputable def opvs (tm : Tm) : List Operand → Option (List LV)
  | [] => some []
  | x :: xs => match opv tm x, opvs tm xs with
    | some v, some vs => some (v :: vs)
    | _, _ => none
inductive BT (α : Type) where
  | nil
  | node (l : BT α) (v : α) (r : BT α)
noncomputable def BT.get {α : Type} (t : BT α) : Nat → Option α :=
  BT.rec (motive := fun _ => Nat → Option α) (fun _ => none) (fun _ v _ l r k => Bool.rec (Bool.rec (r (Nat.sub (Nat.div k 2) 1)) (l (Nat.div k 2)) (Nat.beq (Nat.mod k 2) 1)) (some v) (Nat.beq k 0)) t
structure TyL where
  size : Nat
  bytes : Nat
  zero : Option LV
  desc : TypeDesc
structure FnL where
  ntmps : Nat
  results : List ResultVar
  body : Code
structure Look where
  P : Program
  ty : BT (Option TyL)
  fn : BT (Option FnL)
  msl : TypeId → Option Tmp → Bool := fun _ _ => false
  cf : FuncId → Bool := fun _ => false
noncomputable def Look.tyOf (L : Look) (t : TypeId) : Option TyL := match L.ty.get t with
  | some (some y) => some y
  | _ => none
noncomputable def Look.fnOf (L : Look) (g : FuncId) : Option FnL := match L.fn.get g with
  | some (some y) => some y
  | _ => none
noncomputable def Look.und (L : Look) (t : TypeId) : Option TypeDesc := match L.tyOf t with
  | some y => some y.desc
  | none => none
noncomputable def zeroLV (L : Look) (t : TypeId) : Option LV := match L.tyOf t with
  | some y => y.zero
  | none => none
noncomputable def isAggL (L : Look) (t : TypeId) : Option Bool :=
  match L.und t with
  | some (.struct _) => some true
  | some (.array _ _) => some true
  | some _ => some false
  | none => none
noncomputable def sizeL (L : Look) (t : TypeId) : Option Nat := match L.tyOf t with
  | some y => some y.size
  | none => none
def semPure? {α : Type} (P : Program) : Sem α → Option α
  | .pure a => some a
  | .program k => semPure? P (k P)
  | _ => none
class Rel where
  rel : Bool
def refB [Rel] (b len : Nat) : Nat := bif Rel.rel then len else b + 1
theorem refB_le [Rel] {b len : Nat} (h : b < len) : refB b len ≤ len := by
  unfold refB; cases Rel.rel <;> simp <;> omega
theorem refB_mono [Rel] {b len len' : Nat} (h : len ≤ len') : refB b len ≤ refB b len' := by
  unfold refB; cases Rel.rel <;> simp <;> omega
theorem le_refB [Rel] {b len : Nat} (h : b < len) : b + 1 ≤ refB b len := by
  unfold refB; cases Rel.rel <;> simp <;> omega
def setRange (cells : List LV) (off : Nat) (vs : List LV) : List LV := cells.take off ++ vs ++ cells.drop (off + vs.length)
def fillL (place : Nat → Option (Nat × Nat)) (cells : List LV) : List (Nat × LV) → Option (List LV)
  | [] => some cells
  | (i, v) :: rest =>
    match place i with
    | none => none
    | some (off, size) => if v.wd = size ∧ v.flat = true ∧ off + size ≤ cells.length then fillL place (setRange cells off v.cells) rest else none
noncomputable def partsL (tm : Tm) : List (Nat × Operand) → Option (List (Nat × LV))
  | [] => some []
  | (i, x) :: xs => match opv tm x, partsL tm xs with
    | some v, some vs => some ((i, v) :: vs)
    | _, _ => none
noncomputable def placesL (L : Look) (fields : List Field) : Option (List (Nat × Nat)) := fields.mapM fun f => (L.tyOf f.type).map fun i => (f.offset, i.size)
noncomputable def buildL (L : Look) (t : TypeId) (parts : List (Nat × LV)) : Option LV :=
  match zeroLV L t, L.und t with
  | some z, some (.struct fields) => match placesL L fields.toList with
    | some places => (fillL (places[·]?) z.cells parts).map .agg
    | none => none
  | some z, some (.array _ elem) => match sizeL L elem with
    | some s => (fillL (fun i => some (i * s, s)) z.cells parts).map .agg
    | none => none
  | _, _ => none
def elemsL (z : LV) (size : Nat) (xs : List LV) : List (Nat × LV) → Option (List LV)
  | [] => some xs
  | (i, v) :: rest => if i < xs.length ∧ v.wd = size ∧ v.flat = true then elemsL z size (xs.set i v.canon) rest else none
noncomputable def buildSliceL (L : Look) (t : TypeId) (len : Nat) (parts : List (Nat × LV)) : Option LV :=
  match L.und t with
  | some (.slice elem) => match zeroLV L elem, sizeL L elem with
    | some z, some s => if z.wd = s ∧ z.flat = true ∧ 0 < s ∧ len * s ≤ 16777216 then (elemsL z s (List.replicate len z.canon) parts).map fun xs => .slice xs .exact (some false) else none
    | _, _ => none
  | _ => none
noncomputable def partL (L : Look) (t : TypeId) (cs : List LV) (off : Nat) : Option LV :=
  match isAggL L t, sizeL L t with
  | some true, some s => if off + s ≤ cs.length then some (.agg ((cs.drop off).take s)) else none
  | some false, some _ => cs[off]?
  | _, _ => none
noncomputable def fieldL (L : Look) (t : TypeId) (x : LV) (f : Nat) : Option LV :=
  match L.und t, x with
  | some (.struct fields), .agg cs => match fields[f]? with
    | some fd => partL L fd.type cs fd.offset
    | none => none
  | _, _ => none
noncomputable def fieldAddrL (L : Look) (t : TypeId) (x : LV) (f : Nat) : Option LV :=
  match L.und t with
  | some (.struct fields) => match fields[f]? with
    | some fd => match sizeL L fd.type, x with
      | some s, .ptr b o => if 0 < s then some (.ptr b (o + fd.offset)) else none
      | some s, .ro cs => if 0 < s then some (.ro (cs.drop fd.offset)) else none
      | _, _ => none
    | none => none
  | _ => none
noncomputable def indexAddrL (L : Look) (t : TypeId) (x ix : LV) : Option LV :=
  match ix with
  | .int _ i => if 0 ≤ i then
      match L.und t, x with
      | some (.slice elem), .slice xs _ _ => match xs[i.toNat]?, sizeL L elem with
        | some e, some s => if e.wd = s then some (.ro e.cells) else none
        | _, _ => none
      | some (.slice elem), .mslice b o len cap => match sizeL L elem with
        | some s => if i.toNat < len then some (.ptr b (o + i.toNat * s)) else none
        | none => none
      | some (.array len elem), .ptr b o => match sizeL L elem with
        | some s => if i.toNat < len then some (.ptr b (o + i.toNat * s)) else none
        | none => none
      | some (.array len elem), .ro cs => match sizeL L elem with
        | some s => if i.toNat < len then some (.ro (cs.drop (i.toNat * s))) else none
        | none => none
      | _, _ => none
    else none
  | _ => none
noncomputable def indexL (L : Look) (t : TypeId) (x ix : LV) : Option LV :=
  match ix with
  | .int _ i => if 0 ≤ i then
      match L.und t, x with
      | some (.array len elem), .agg cs => match sizeL L elem with
        | some s => if i.toNat < len then partL L elem cs (i.toNat * s) else none
        | none => none
      | some .string, .str s => match s[i.toNat]? with
        | some b => some (.int .u8 b.toNat)
        | none => none
      | _, _ => none
    else none
  | _ => none
def boundL (most : Nat) (dflt : Nat) : Option LV → Option Nat
  | none => some dflt
  | some (.int _ i) => if 0 ≤ i ∧ i ≤ most then some i.toNat else none
  | some _ => none
noncomputable def sliceL (L : Look) (t : TypeId) (x : LV) (lo hi mx : Option LV) : Option LV :=
  match L.und t, x with
  | some .string, .str s =>
    if mx.isSome then none else
    match boundL s.size s.size hi with
    | some h => match boundL h 0 lo with
      | some l => some (.str (s.extract l h))
      | none => none
    | none => none
  | some (.slice elem), .slice xs own nz =>
    if 0 < (sizeL L elem).getD 0 ∧ (xs.head?.all fun x => some x.wd == sizeL L elem) = true then
      match mx with
      | none =>
        match boundL xs.length xs.length hi with
        | some h => match boundL h 0 lo with
          | some l => some (.slice ((xs.take h).drop l) (if h = xs.length ∧ l < h then own else .none) (if l = 0 then nz else none))
          | none => none
        | none => none
      | some m => match boundL xs.length 0 mx with
        | some m => match hi with
          | none => none
          | some _ => match boundL m 0 hi with
            | some h => match boundL h 0 lo with
              | some l => some (.slice ((xs.take h).drop l) (if h = m then .exact else .none) (if l = 0 then nz else none))
              | none => none
            | none => none
        | none => none
    else none
  | _, _ => none
noncomputable def lenL (L : Look) (t : TypeId) (x : LV) : Option LV :=
  match L.und t, x with
  | some .string, .str s => some (.int .i64 s.size)
  | some (.slice _), .slice xs _ _ => some (.int .i64 xs.length)
  | some (.slice _), .mslice _ _ len _ => some (.int .i64 len)
  | _, _ => none
def eqInts : List LV → List LV → Option Bool
  | [], [] => some true
  | .int j a :: xs, .int k b :: ys => if j = k then (if a == b then eqInts xs ys else some false) else none
  | _, _ => none
def eqBools : List LV → List LV → Option Bool
  | [], [] => some true
  | .bool a :: xs, .bool b :: ys => if a == b then eqBools xs ys else some false
  | _, _ => none
noncomputable def eqArr (L : Look) (t : TypeId) (xs ys : List LV) : Option Bool :=
  match L.und t with
  | some (.array n e) => if xs.length = n ∧ ys.length = n ∧ sizeL L e = some 1 then
      match L.und e with
      | some (.int _) => eqInts xs ys
      | some .bool => eqBools xs ys
      | _ => none
    else none
  | _ => none
def nilOf : LV → Option Bool
  | .slice _ _ (some b) => some b
  | .slice (_ :: _) _ none => some false
  | _ => none
noncomputable def eqL (L : Look) (t : TypeId) (x y : LV) : Option Bool :=
  match x, y with
  | .int j a, .int k b => if j = k then some (a == b) else none
  | .str a, .str b => some (a.data.toList == b.data.toList)
  | .bool a, .bool b => match L.und t with
    | some .bool => some (a == b)
    | _ => none
  | .slice xs o nz, .slice [] _ (some true) => match L.und t with
    | some (.slice _) => nilOf (.slice xs o nz)
    | _ => none
  | .mslice .., .slice [] _ (some true) => match L.und t with
    | some (.slice _) => some false
    | _ => none
  | .nilIface, .nilIface => match L.und t with
    | some (.interface ms) => if ms.isEmpty then some true else none
    | _ => none
  | .iface .., .nilIface => match L.und t with
    | some (.interface _) => some false
    | _ => none
  | .nilFunc, .nilFunc => match L.und t with
    | some (.func ..) => some true
    | _ => none
  | .func .., .nilFunc => match L.und t with
    | some (.func ..) => some false
    | _ => none
  | .nilp, .nilp => match L.und t with
    | some (.pointer _) => some true
    | _ => none
  | .ptr .., .nilp => match L.und t with
    | some (.pointer _) => some false
    | _ => none
  | .agg xs, .agg ys => eqArr L t xs ys
  | _, _ => none
noncomputable def binL (L : Look) (op : BinOp) (t : TypeId) (x y : LV) : Option LV :=
  match op with
  | .eql => (eqL L t x y).map .bool
  | .neq => (eqL L t x y).map fun b => .bool (!b)
  | _ => match x, y with
    | .int j a, .int k b => match semPure? L.P (Go.binOp op t (.int j a) (.int k b)) with
      | some v => ofV1 v
      | none => none
    | .str a, .str b => match op with
      | .add => if a.size + b.size ≤ 4611686018427387904 then some (.str (a ++ b)) else none
      | .lss => some (.bool (Op.bytesLess a.data.toList b.data.toList))
      | _ => none
    | _, _ => none
noncomputable def unL (L : Look) (op : UnOp) (x : LV) : Option LV :=
  match toV x with
  | some v => match semPure? L.P (Op.unary op v) with
    | some v => ofV1 v
    | none => none
  | none => none
noncomputable def convL (L : Look) (src dst : TypeId) (x : LV) : Option LV :=
  match x with
  | .int k n => match L.und src, L.und dst with
    | some (.int _), some (.int k') => match semPure? L.P (Conv.intToInt k' n) with
      | some v => ofV1 v
      | none => none
    | _, _ => none
  | .str s => match L.und src, L.und dst with
    | some .string, some .string => some (.str s)
    | _, _ => none
  | _ => none
noncomputable def assertL (L : Look) (x : LV) (asserted : TypeId) (ok : Bool) : Option LV :=
  match L.und asserted with
  | some (.interface _) => none
  | some _ => match x with
    | .nilIface => if ok then (zeroLV L asserted).map fun z => .tuple [z, .bool false] else none
    | .iface t v => if t = asserted then some (if ok then .tuple [v, .bool true] else v)
      else if ok then (zeroLV L asserted).map fun z => .tuple [z, .bool false] else none
    | _ => none
  | none => none
noncomputable def ifaceL (L : Look) (t : TypeId) (x : LV) : Option LV :=
  match L.und t with
  | some (.interface _) => none
  | some _ => some (.iface t x)
  | none => none
noncomputable def optL (tm : Tm) : Option Operand → Option (Option LV)
  | none => some none
  | some x => (opv tm x).map some
noncomputable def minmaxL (L : Look) (b : Builtin) (ats : Array TypeId) (ty : TypeId) (args : List LV) : Option LV :=
  match args with
  | [.int j x, .int k y] => match semPure? L.P (match b with | .max => Builtin.max_ ats ty #[.int j x, .int k y] | _ => Builtin.min_ ats ty #[.int j x, .int k y]) with
    | some v => ofV1 v
    | none => none
  | _ => none
noncomputable def pureOp (L : Look) (tm : Tm) (o : Oper) : Option LV :=
  match o.op with
  | .move x => opv tm x
  | .assign x => opv tm x
  | .pick c a b => match opv tm c with
    | some (.bool t) => if t then opv tm a else opv tm b
    | _ => none
  | .build t ps => match partsL tm ps.toList with
    | some ps => buildL L t ps
    | none => none
  | .buildSlice t n ps => match partsL tm ps.toList with
    | some ps => buildSliceL L t n ps
    | none => none
  | .nilCheck x => match opv tm x with
    | some (.ptr b o) => some (.ptr b o)
    | some (.ro cs) => some (.ro cs)
    | some (.func (.func f) fs cs) => some (.func (.func f) fs cs)
    | _ => none
  | .binOp op t x y _ => match opv tm x, opv tm y with
    | some x, some y => binL L op t x y
    | _, _ => none
  | .unOp op _ x => match opv tm x with
    | some x => unL L op x
    | none => none
  | .convert s d x => match opv tm x with
    | some x => convL L s d x
    | none => none
  | .makeInterface t x => match opv tm x with
    | some x => ifaceL L t x
    | none => none
  | .makeFunc (.func f) fs cs => match opvs tm fs.toList, opvs tm cs.toList with
    | some fs, some cs => some (.func (.func f) fs cs)
    | _, _ => none
  | .slice t x lo hi mx => match opv tm x, optL tm lo, optL tm hi, optL tm mx with
    | some x, some lo, some hi, some mx => sliceL L t x lo hi mx
    | _, _, _, _ => none
  | .fieldAddr t x f => match opv tm x with
    | some x => fieldAddrL L t x f
    | none => none
  | .field t x f => match opv tm x with
    | some x => fieldL L t x f
    | none => none
  | .indexAddr t x i => match opv tm x, opv tm i with
    | some x, some i => indexAddrL L t x i
    | _, _ => none
  | .index t x i => match opv tm x, opv tm i with
    | some x, some i => indexL L t x i
    | _, _ => none
  | .typeAssert x _ a ok => match opv tm x with
    | some x => assertL L x a ok
    | none => none
  | .extract x i => match opv tm x with
    | some (.tuple vs) => vs[i]?
    | _ => none
  | .call { callee := .builtin .len, args, argTypes } => match opvs tm args.toList, argTypes[0]? with
    | some [x], some t => lenL L t x
    | _, _ => none
  | .call { callee := .builtin .max, args, argTypes } => match opvs tm args.toList with
    | some l => minmaxL L .max argTypes o.type l
    | none => none
  | .call { callee := .builtin .min, args, argTypes } => match opvs tm args.toList with
    | some l => minmaxL L .min argTypes o.type l
    | none => none
  | _ => none
def boxOf (σ : LH) (b : Nat) : Option (TypeId × List LV) :=
  match σ.boxes[b]? with
  | some (.cells t cs) => some (t, cs)
  | _ => none
noncomputable def loadL (L : Look) (σ : LH) (t : TypeId) : LV → Option LV
  | .ptr b o => match boxOf σ b with
    | some (_, cs) => partL L t cs o
    | none => none
  | .ro cs => partL L t cs 0
  | _ => none
noncomputable def storeL [Rel] (L : Look) (σ : LH) (t : TypeId) (a v : LV) : Option LH :=
  match a with
  | .ptr b o => match boxOf σ b, sizeL L t with
    | some (bt, cs), some s => if v.wd = s ∧ o + s ≤ cs.length ∧ v.flat = true ∧ v.refOK (refB b σ.boxes.length) = true
        then some { σ with boxes := σ.boxes.set b (.cells bt (setRange cs o v.cells)), ws := b :: σ.ws } else none
    | _, _ => none
  | _ => none
noncomputable def appendL (L : Look) (σ : LH) (sType : TypeId) (xType : Option TypeId) (s x : LV) : Option (LV × LH) :=
  match L.und sType, xType with
  | some (.slice elem), some xt => match L.und xt, L.tyOf elem, s, x with
    | some (.slice _), some i, .slice xs own nz, .slice ys _ _ =>
      if 0 < i.size ∧ i.bytes ≤ 16384 ∧ xs.length + ys.length ≤ 1073741824 ∧ (xs.head?.all (·.wd == i.size)) = true ∧ (ys.head?.all (·.wd == i.size)) = true ∧ (i.zero.any (·.wd == i.size)) = true then
        match ys with
        | [] => some (.slice xs own nz, σ)
        | _ :: _ => match own with
          | .none => none
          | .exact => some (.slice (xs ++ ys) (.tok σ.toks.length) (some false), { σ with toks := σ.toks ++ [true] })
          | .tok k => if σ.toks[k]? = some true then some (.slice (xs ++ ys) (.tok σ.toks.length) (some false), { σ with toks := σ.toks.set k false ++ [true] }) else none
      else none
    | _, _, _, _ => none
  | _, _ => none
noncomputable def makeSliceL (L : Look) (σ : LH) (t : TypeId) (l c : LV) : Option (LV × LH) :=
  match L.und t, l, c with
  | some (.slice elem), .int .i64 l, .int .i64 c => match L.tyOf elem, zeroLV L elem with
    | some i, some z => if l = c ∧ 0 ≤ l ∧ l ≤ 1073741824 ∧ 0 < i.size ∧ i.bytes ≤ 16384 ∧ z.wd = i.size ∧ z.flat = true ∧ z.refOK (σ.boxes.length + 1) = true then
        some (.mslice σ.boxes.length 0 l.toNat l.toNat, { σ with boxes := σ.boxes ++ [.cells elem (List.replicate l.toNat z.cells).flatten] }) else none
    | _, _ => none
  | _, _, _ => none
noncomputable def buildMsL (L : Look) (σ : LH) (t : TypeId) (len : Nat) (parts : List (Nat × LV)) : Option (LV × LH) :=
  match L.und t with
  | some (.slice elem) => match zeroLV L elem, sizeL L elem with
    | some z, some s => if z.wd = s ∧ z.flat = true ∧ 0 < s ∧ len * s ≤ 16777216 then
        match elemsL z s (List.replicate len z.canon) parts with
        | some xs => if LV.refsOK (σ.boxes.length + 1) (xs.map LV.cells).flatten = true then some (.mslice σ.boxes.length 0 len len, { σ with boxes := σ.boxes ++ [.cells elem (xs.map LV.cells).flatten] }) else none
        | none => none
      else none
    | _, _ => none
  | _ => none
inductive OpR where
  | val (v : LV) (σ : LH)
  | pan (v : LV) (σ : LH)
  | dfr (d : LDef) (σ : LH)
noncomputable def opStep [Rel] (L : Look) (callF : LV → List LV → LH → Option (LOut × LH)) (rnd : Bool) (tm : Tm) (o : Oper) (σ : LH) : Option OpR :=
  match o.op with
  | .alloc t => match zeroLV L t with
    | some z => if z.flat = true ∧ z.refOK (σ.boxes.length + 1) = true then some (.val (.ptr σ.boxes.length 0) { σ with boxes := σ.boxes ++ [.cells t z.cells] }) else none
    | none => none
  | .box t x => match opv tm x, sizeL L t with
    | some v, some s => if v.wd = s ∧ v.flat = true ∧ v.refOK (σ.boxes.length + 1) = true then some (.val (.ptr σ.boxes.length 0) { σ with boxes := σ.boxes ++ [.cells t v.cells] }) else none
    | _, _ => none
  | .load t a => match opv tm a with
    | some a => match loadL L σ t a with
      | some v => some (.val v σ)
      | none => none
    | none => none
  | .store t a x => match opv tm a, opv tm x with
    | some a, some v => match storeL L σ t a v with
      | some σ => some (.val (.tuple []) σ)
      | none => none
    | _, _ => none
  | .makeSlice t l c => match opv tm l, opv tm c with
    | some l, some c => match makeSliceL L σ t l c with
      | some (v, σ) => some (.val v σ)
      | none => none
    | _, _ => none
  | .call { callee := .builtin .append, args, argTypes } => match opvs tm args.toList, argTypes[0]? with
    | some [s, x], some st => match appendL L σ st argTypes[1]? s x with
      | some (v, σ) => some (.val v σ)
      | none => none
    | _, _ => none
  | .call { callee := .value f, args, .. } => match opv tm f, opvs tm args.toList with
    | some f, some l => match callF f l σ with
      | some (.ret v, σ) => some (.val v σ)
      | some (.pan v, σ) => some (.pan v σ)
      | none => none
    | _, _ => none
  | .buildSlice t n ps => match L.msl t o.dst with
    | true => match partsL tm ps.toList with
      | some ps => match buildMsL L σ t n ps with
        | some (v, σ) => some (.val v σ)
        | none => none
      | none => none
    | false => match pureOp L tm o with
      | some v => some (.val v σ)
      | none => none
  | .panic x => match opv tm x with
    | some (.iface t v) => some (.pan (.iface t v) σ)
    | _ => none
  | .defer { callee := .value f, args, .. } => match opv tm f, opvs tm args.toList with
    | some (.func (.func g) fs cs), some l => if rnd then none else some (.dfr (.fn g (fs ++ l ++ cs)) σ)
    | _, _ => none
  | _ => match pureOp L tm o with
    | some v => some (.val v σ)
    | none => none
end Go.Lg
end
section
set_option linter.unusedSectionVars false
namespace Go.Lg
variable [Rel]
inductive CR where
  | still (r : LOut)
  | moved (r : LOut) (σ : LH)
noncomputable def CR.out : CR → LOut
  | .still r => r
  | .moved r _ => r
noncomputable def CR.st : CR → LH → LH
  | .still _, σ => σ
  | .moved _ σ', _ => σ'
inductive RK where
  | pure | load (b : Nat) | call | move (ws : List Nat) | alloc (k : Nat)
noncomputable def isAlloc (o : Oper) : Bool :=
  match o.op with
  | .alloc _ => true
  | _ => false
noncomputable def putL (tm : Tm) (dst : Option Tmp) (v : LV) : Tm :=
  match dst with
  | some d => tm.put d v
  | none => tm
noncomputable def LAct.put (a : LAct) (dst : Option Tmp) (v : LV) : LAct := { a with tmps := putL a.tmps dst v }
noncomputable def wantedL (ops : Array Oper) (tm : Tm) (o : Oper) : Option Bool :=
  match o.guard with
  | none => some true
  | some (j, want) =>
    match (ops.toList[j]?).bind (·.dst) with
    | none => some false
    | some d =>
      match tm.get d with
      | some (.bool b) => some (b == want)
      | some (.tuple _) => some false
      | _ => none
noncomputable def callSt (callF : LV → List LV → LH → Option CR) (f : LV) (l : List LV) (σ : LH) : Option (LOut × LH) :=
  match callF f l σ with
  | some r => some (r.out, r.st σ)
  | none => none
noncomputable def runOps (L : Look) (callF : LV → List LV → LH → Option CR) (rnd : Bool) (ops : Array Oper) : List Oper → LAct → LH → Option (Option LV × LAct × LH)
  | [], a, σ => some (none, a, σ)
  | o :: os, a, σ =>
    match wantedL ops a.tmps o with
    | none => none
    | some false => runOps L callF rnd ops os (a.put o.dst (.tuple [])) σ
    | some true =>
      match opStep L (callSt callF) rnd a.tmps o σ with
      | none => none
      | some (.val v σ') => runOps L callF rnd ops os (a.put o.dst v) σ'
      | some (.pan v σ') => some (some v, a, σ')
      | some (.dfr d σ') => runOps L callF rnd ops os ({ a with defers := d :: a.defers }.put o.dst (.tuple [])) σ'
noncomputable def hoist (L : Look) : List Oper → LH → Option LH
  | [], σ => some σ
  | o :: os, σ =>
    match o.op with
    | .alloc t => match zeroLV L t with
      | some z => if z.flat = true ∧ z.refOK (σ.boxes.length + 1) = true ∧ o.guard = none then hoist L os { σ with boxes := σ.boxes ++ [.cells t z.cells] } else none
      | none => none
    | _ => hoist L os σ
noncomputable def slotsOf (ops : Array Oper) (o : Oper) : List Tmp :=
  (o.op.operands.toList.filterMap fun | .tmp t => some t | _ => none) ++ (match o.guard with | some (j, _) => ((ops.toList[j]?).bind (·.dst)).toList | none => [])
noncomputable def isCf (L : Look) : LV → Bool
  | .func (.func g) [] [] => L.cf g
  | _ => false
noncomputable def flF (L : Look) (callF : LV → List LV → LH → Option CR) : LV → List LV → LH → Option CR := fun f l σ => match isCf L f with
  | true => match LV.refsOK 0 l && LV.toksOK 0 l with
    | true => match callF f l { boxes := [], toks := [], ws := [] } with
      | some (.still (.ret v)) => match v.refOK 0 && v.tokOK 0 with
        | true => some (.still (.ret v))
        | false => none
      | _ => none
    | false => none
  | false => callF f l σ
noncomputable def kindOf (L : Look) (callF : LV → List LV → LH → Option CR) (tm : Tm) (o : Oper) (σ : LH) : RK :=
  match o.op with
  | .load _ a => match opv tm a with
    | some (.ptr b _) => .load b
    | _ => .pure
  | .store _ a _ => match opv tm a with
    | some (.ptr b _) => .move [b]
    | _ => .move []
  | .box .. => .move []
  | .makeSlice .. => .move []
  | .buildSlice t _ _ => match L.msl t o.dst with
    | true => .move []
    | false => .pure
  | .panic _ => .move []
  | .defer _ => .move []
  | .call { callee := .builtin .append, .. } => .move []
  | .call { callee := .value f, args, .. } => match opv tm f, opvs tm args.toList with
    | some f, some l => match isCf L f with
      | true => .pure
      | false => match callF f l σ with
        | some (.still (.ret _)) => .call
        | some (.still (.pan _)) => .move []
        | some (.moved _ σ') => .move (σ'.ws.take (σ'.ws.length - σ.ws.length))
        | none => .pure
    | _, _ => .pure
  | _ => .pure
structure Rec where
  i : Nat
  k : RK
noncomputable def runRec (L : Look) (callF : LV → List LV → LH → Option CR) (ops : Array Oper) : List Oper → Nat → Nat → LAct → LH → Option (Option (Nat × LV) × LAct × LH × List Rec)
  | [], _, _, a, σ => some (none, a, σ, [])
  | o :: os, i, k, a, σ =>
    match wantedL ops a.tmps o with
    | none => none
    | some false => runRec L callF ops os (i + 1) k (a.put o.dst (.tuple [])) σ
    | some true =>
      if isAlloc o then match runRec L callF ops os (i + 1) (k + 1) (a.put o.dst (.ptr k 0)) σ with
        | some (x, a', σ'', rs) => some (x, a', σ'', ⟨i, .alloc k⟩ :: rs)
        | none => none
      else
      match opStep L (callSt callF) true a.tmps o σ with
      | none => none
      | some (.val v σ') => match runRec L callF ops os (i + 1) k (a.put o.dst v) σ' with
        | some (x, a', σ'', rs) => some (x, a', σ'', ⟨i, kindOf L callF a.tmps o σ⟩ :: rs)
        | none => none
      | some (.pan v σ') => some (some (i, v), a, σ', [⟨i, .move []⟩])
      | some (.dfr d σ') => none
noncomputable def bitOf (anc : List Nat) (j i : Nat) : Bool := (anc.getD j 0).testBit i
noncomputable def staticOK (ops : List Oper) (opsA : Array Oper) (anc : List Nat) : Bool :=
  (ops.zipIdx.all fun (o, i) => o.after.toList.all fun e => !Region.binds .any e || e.on < i) &&
  (ops.zipIdx.all fun (o, i) => ops.zipIdx.all fun (o', j) => match o'.dst with
    | none => true
    | some d => i == j || ((o.dst != some d) && (!(slotsOf opsA o).contains d || bitOf anc i j || bitOf anc j i)))
noncomputable def pairOK (anc : List Nat) (x y : Rec) : Bool :=
  (match x.k, y.k with
    | .move ws, .alloc k => !ws.contains k
    | _, _ => true) &&
  (bitOf anc y.i x.i ||
    match x.k, y.k with
    | .move _, .move _ => false
    | .move _, .call => false
    | .call, .move _ => false
    | .move ws, .load b => !ws.contains b
    | .load b, .move ws => !ws.contains b
    | .alloc k, .move ws => !ws.contains k
    | _, _ => true)
noncomputable def pairsOK (anc : List Nat) (rs : List Rec) : Bool := rs.all fun x => rs.all fun y => Nat.ble y.i x.i || pairOK anc x y
noncomputable def drawOK (ops : Array Oper) (recs : List Rec) (pan : Option Nat) : Bool :=
  let anc := (Region.before ops).toList
  staticOK ops.toList ops anc && pairsOK anc recs &&
  match pan with
  | none => true
  | some p => ops.toList.zipIdx.all fun (o, i) => Nat.ble i p || bitOf anc i p
noncomputable def cnt (ops : Array Oper) (j : Nat) : Nat := ((ops.toList.take j).filter isAlloc).length
noncomputable def drawP (k0 : Nat) (ops : Array Oper) (recs : List Rec) (p : Nat) : Bool :=
  let anc := (Region.before ops).toList
  staticOK ops.toList ops anc && pairsOK anc recs &&
  (ops.toList.zipIdx.all fun (o, i) => Nat.ble i p || bitOf anc i p || isAlloc o) &&
  recs.all fun r => Nat.ble r.i p && match r.k with
    | .move ws => ws.all fun b => Nat.blt b (k0 + cnt ops p) || Nat.ble (k0 + cnt ops ops.size) b
    | _ => true
noncomputable def junkDst (ops : List Oper) (tm : Tm) : Tm :=
  match ops with
  | [] => tm
  | o :: os => junkDst os (putL tm o.dst .junk)
noncomputable def evRegion (L : Look) (callF : LV → List LV → LH → Option CR) (rnd : Bool) (ops : Array Oper) (draw : Bool) (a : LAct) (σ : LH) : Option (LExit × LAct × LH) :=
  if draw then
    match hoist L ops.toList σ with
    | none => none
    | some σh =>
      match runRec L (flF L callF) ops ops.toList 0 σ.boxes.length a σh with
      | some (none, a', σ', rs) => if drawOK ops rs none then some (.normal, a', σ') else none
      | some (some (p, v), _, σ', rs) => if drawP σ.boxes.length ops rs p then some (.panic v, { a with tmps := junkDst ops.toList a.tmps }, σ') else none
      | none => none
  else
    match runOps L callF rnd ops ops.toList a σ with
    | some (none, a', σ') => some (.normal, a', σ')
    | some (some v, a', σ') => some (.panic v, a', σ')
    | none => none
inductive LMode where
  | returning
  | panicking (v : LV) (recovered : Bool)
noncomputable def settleL : LMode → LMode
  | .panicking _ true => .returning
  | m => m
noncomputable def leaveL (evD : FuncId → List LV → LMode → LH → Option (LMode × LH)) : List LDef → LMode → LH → Option (LMode × LH)
  | [], m, σ => some (m, σ)
  | .mark d :: ds, m, σ => match σ.boxes[d]? with
    | some .dfr => leaveL evD ds m { σ with boxes := σ.boxes.set d .gone, ws := d :: σ.ws }
    | _ => none
  | .fn g args :: ds, m, σ => match evD g args m σ with
    | some (m', σ') => leaveL evD ds (settleL m') σ'
    | none => none
noncomputable def resultL (L : Look) (tm : Tm) (σ : LH) : ResultVar → Option LV
  | .tmp t => tm.get t
  | .cell a t => match tm.get a with
    | some p => loadL L σ t p
    | none => none
noncomputable def resultsL (L : Look) (tm : Tm) (σ : LH) : List ResultVar → Option (List LV)
  | [] => some []
  | r :: rs => match resultL L tm σ r, resultsL L tm σ rs with
    | some v, some vs => some (v :: vs)
    | _, _ => none
noncomputable def tupleL : List LV → LV
  | [v] => v
  | vs => .tuple vs
noncomputable def LV.canonP : LV → LV
  | .iface t v => .iface t v.canon
  | v => v
noncomputable def LOut.fin : LOut → LOut
  | .ret v => .ret v.canonR
  | .pan v => .pan v.canonP
noncomputable def LOut.val : LOut → LV
  | .ret v => v
  | .pan v => v
noncomputable def LOut.bare : LOut → LV
  | .ret (.slice xs _ nz) => .slice xs .none nz
  | .ret v => v
  | .pan v => v
def keepB (bs : List LObj) (n : Nat) : List LObj := match Rel.rel with
  | true => bs
  | false => bs.take n
theorem keepB_len {bs : List LObj} {n : Nat} (h : n ≤ bs.length) : n ≤ (keepB bs n).length := by
  unfold keepB; split
  · exact h
  · rw [List.length_take]; omega
theorem keepB_get {bs : List LObj} {n b : Nat} (h : b < n) : (keepB bs n)[b]? = bs[b]? := by
  unfold keepB; split
  · rfl
  · rw [List.getElem?_take, if_pos h]
noncomputable def finish (σ0 : LH) (r0 : LOut) (σ1 : LH) : CR :=
  let r := r0.fin
  let base := σ0.boxes.length
  let old := σ1.ws.filter (· < base)
  let T := σ0.toks.length
  if r.val.refOK base then
    if old = [] ∧ σ1.toks.take T = σ0.toks ∧ r.bare.tokOK T = true then
      match r with
      | .ret (.slice xs (.tok k) nz) =>
        if k < T then .still r
        else if σ1.toks[k]? = some true then .moved (.ret (.slice xs (.tok T) nz)) { σ0 with toks := σ0.toks ++ [true] }
        else .still (.ret (.slice xs .none nz))
      | _ => .still r
    else .moved r { boxes := keepB σ1.boxes base, toks := σ1.toks, ws := old ++ σ0.ws }
  else .moved r { boxes := σ1.boxes, toks := σ1.toks, ws := old ++ σ0.ws }
noncomputable def recovers : Code → Option (Tmp × Code)
  | .seq (.region _ ops false) rest =>
    match ops.toList with
    | [{ dst := some d, op := .call { callee := .builtin .recover, args, .. }, guard := none, .. }] => if args.size = 0 then some (d, rest) else none
    | _ => none
  | _ => none
abbrev Prim := FuncId → List LV → LH → Option CR
noncomputable def enterTmps (fn : FnL) (args : List LV) : Tm := Tm.puts { n := args.length + (fn.ntmps - args.length), t := Tree.full 9 } 0 args
structure Ev where
  c : Bool → Code → LAct → LH → Option (LExit × LAct × LH)
  f : LV → List LV → LH → Option CR
noncomputable def stepC (L : Look) (e : Ev) (rnd : Bool) (c : Code) (a : LAct) (σ : LH) : Option (LExit × LAct × LH) :=
    match c with
    | .skip => some (.normal, a, σ)
    | .region _ ops draw => evRegion L e.f rnd ops draw a σ
    | .seq x y => match e.c rnd x a σ with
      | some (.normal, a', σ') => e.c rnd y a' σ'
      | r => r
    | .cond c x y => match opv a.tmps c with
      | some (.bool b) => if b then e.c rnd x a σ else e.c rnd y a σ
      | _ => none
    | .block id b => match e.c rnd b a σ with
      | some (.exit id', a', σ') => if id' = id then some (.normal, a', σ') else some (.exit id', a', σ')
      | r => r
    | .loop b => match e.c rnd b a σ with
      | some (.normal, a', σ') => e.c rnd (.loop b) a' σ'
      | r => r
    | .exit id => some (.exit id, a, σ)
    | .ret => some (.ret, a, σ)
    | .rangeFunc g ps assign body =>
      match opv a.tmps g with
      | some (.func (.func g) fs cs) =>
        let d := σ.boxes.length
        if rnd then none else
        let σ1 : LH := { σ with boxes := σ.boxes ++ [.dfr] }
        let a1 : LAct := { a with defers := .mark d :: a.defers }
        let l := σ1.boxes.length
        let σ2 : LH := { σ1 with boxes := σ1.boxes ++ [.loop { tmps := a.tmps, params := ps.toList, assign, body, state := .ready, pending := none }] }
        match e.f (.func (.func g) fs cs) [.func (.yield l) [] []] σ2 with
        | some cr =>
          match cr.out, (cr.st σ2).boxes[l]? with
          | .ret _, some (.loop r) =>
            if r.state = .busy then none else
            let σ3 : LH := { cr.st σ2 with boxes := (cr.st σ2).boxes.set l (.loop { r with state := .exhausted }), ws := l :: (cr.st σ2).ws }
            match r.pending with
            | none => some (.normal, a1, σ3)
            | some .ret => some (.ret, a1, σ3)
            | some (.exit id) => some (.exit id, a1, σ3)
            | some _ => none
          | _, _ => none
        | none => none
      | _ => none
    | _ => none
noncomputable def stepD (L : Look) (e : Ev) (g' : FuncId) (args' : List LV) (m' : LMode) (σ' : LH) : Option (LMode × LH) :=
  match L.fnOf g' with
  | none => none
  | some fn' => match recovers fn'.body with
      | none => none
      | some (d, rest) =>
        let (v, m'') : LV × LMode := match m' with
          | .panicking v false => (v, .panicking v true)
          | m => (.nilIface, m)
        match e.c false rest { tmps := (enterTmps fn' (args'.map LV.canonA)).put d v, defers := [] } σ' with
        | some (.normal, a2, σ2) => if a2.defers.isEmpty = true ∧ fn'.results.isEmpty = true then some (m'', { boxes := keepB σ2.boxes σ'.boxes.length, toks := σ2.toks, ws := σ2.ws }) else none
        | some (.ret, a2, σ2) => if a2.defers.isEmpty = true ∧ fn'.results.isEmpty = true then some (m'', { boxes := keepB σ2.boxes σ'.boxes.length, toks := σ2.toks, ws := σ2.ws }) else none
        | _ => none
noncomputable def modeOf : LExit → Option LMode
  | .normal | .ret => some .returning
  | .panic v => some (.panicking v false)
  | .exit _ => none
noncomputable def runBody (L : Look) (e : Ev) (fn : FnL) (args : List LV) (σ : LH) : Option (LOut × LH) :=
  match e.c false fn.body { tmps := enterTmps fn args, defers := [] } σ with
  | none => none
  | some (x, a1, σ1) =>
    match modeOf x with
    | none => none
    | some m =>
      match leaveL (stepD L e) a1.defers m σ1 with
      | none => none
      | some (.panicking v _, σ2) => some (.pan v, σ2)
      | some (.returning, σ2) => match resultsL L a1.tmps σ2 fn.results with
        | some vs => some (.ret (tupleL vs), σ2)
        | none => none
noncomputable def LV.disown : LV → LV
  | .slice xs (.tok _) nz => .slice xs .none nz
  | v => v
noncomputable def LV.argC (v : LV) : LV := v.canonA.disown
noncomputable def closeF (σ : LH) (r0 : LOut) (σ1 : LH) : Option CR :=
  let r := r0.fin
  if r.val.refOK 0 = true ∧ r.bare.tokOK 0 = true then
    match r with
    | .ret (.slice xs (.tok k) nz) => if σ1.toks[k]? = some true then some (.moved (.ret (.slice xs (.tok σ.toks.length) nz)) { σ with toks := σ.toks ++ [true] }) else some (.still (.ret (.slice xs .none nz)))
    | _ => some (.still r)
  else none
noncomputable def closedF (L : Look) (e : Ev) (fn : FnL) (args : List LV) (σ : LH) : Option CR :=
  if LV.refsOK 0 args && LV.toksOK 0 args then
    match runBody L e fn args { boxes := [], toks := [], ws := [] } with
    | some (out, σ2) => closeF σ out σ2
    | none => none
  else none
noncomputable def openF (L : Look) (e : Ev) (fn : FnL) (args : List LV) (σ : LH) : Option CR :=
  match runBody L e fn args { σ with ws := [] } with
  | some (out, σ2) => some (finish σ out σ2)
  | none => none
noncomputable def stepF (L : Look) (pr : Prim) (e : Ev) (f : LV) (args : List LV) (σ : LH) : Option CR :=
    match f with
    | .func (.func g) fs cs =>
      match pr g (fs ++ args ++ cs) σ with
      | some cr => some cr
      | none =>
      match L.fnOf g with
      | none => none
      | some fn =>
        match closedF L e fn ((fs ++ args ++ cs).map LV.argC) σ with
        | some cr => some cr
        | none => openF L e fn ((fs ++ args ++ cs).map LV.canonA) σ
    | .func (.yield l) [] [] =>
      match σ.boxes[l]? with
      | some (.loop r) =>
        if args.length ≠ r.params.length then none else
        match e.c true r.assign { tmps := (r.params.zip (args.map LV.canonA)).foldl (fun tm (t, v) => tm.put t v) r.tmps, defers := [] } { σ with ws := [] } with
        | some (.normal, a1, σ1) =>
          match σ1.boxes[l]? with
          | some (.loop r1) =>
            if r1.state = .ready then
              match e.c true r.body a1 { σ1 with boxes := σ1.boxes.set l (.loop { r1 with state := .busy }), ws := l :: σ1.ws } with
              | none => none
              | some (x, a2, σ2) =>
                let jump : Option (Option Code) := match x with
                  | .normal => some none
                  | .ret => some (some .ret)
                  | .exit id => some (some (.exit id))
                  | .panic _ => none
                match jump, σ2.boxes[l]? with
                | some j, some (.loop r2) =>
                  if a2.defers.isEmpty then
                    some (finish σ (.ret (.bool j.isNone)) { σ2 with boxes := σ2.boxes.set l (.loop { r2 with state := (if j.isNone then .ready else .done), pending := j }), ws := l :: σ2.ws })
                  else none
                | _, _ => none
            else none
          | _ => none
        | _ => none
      | _ => none
    | _ => none
noncomputable def ev (L : Look) (pr : Prim) (n : Nat) : Ev :=
  Nat.rec (motive := fun _ => Ev) { c := fun _ _ _ _ => none, f := fun _ _ _ => none } (fun _ e => { c := stepC L e, f := stepF L pr e }) n
end Go.Lg
end
section
namespace Go.Lg
structure Gh where
  mu : Nat → Option Nat
  lim : Nat → Nat
  tok : Nat → Option (Nat × Nat)
  top : Nat := 0
  fix : Nat := 0
def OwnR (w : World) (G : Gh) (s n len cap : Nat) (a : Option Addr) : Own → Prop
  | .none => True
  | .exact => cap = len
  | .tok k => ∃ A, a = some A ∧ 0 < n ∧ G.tok k = some (A.block, A.off + n * s) ∧ ∃ t N, w.shape? A.block = some (t, N) ∧ A.off + cap * s ≤ N
inductive VR (w : World) (G : Gh) : LV → Value → Prop
  | bool (b : Bool) : VR w G (.bool b) (.bool b)
  | int (k : IntKind) (n : Int) : VR w G (.int k n) (.int k n)
  | str (s : ByteArray) : VR w G (.str s) (.string s)
  | nilp : VR w G .nilp (.pointer none)
  | ptr (b o B : Nat) (h : G.mu b = some B) : VR w G (.ptr b o) (.pointer (some ⟨B, o, none⟩))
  | ro (cs : List LV) (B o : Nat) (f : Nat → Value)
      (h : ∀ (j : Nat) (c : LV), cs[j]? = some c → o + j < G.lim B ∧ w.cell? ⟨B, o + j, none⟩ = some (f j) ∧ c.scalar = true)
      (hv : ∀ (j : Nat) (c : LV), cs[j]? = some c → VR w G c (f j)) : VR w G (.ro cs) (.pointer (some ⟨B, o, none⟩))
  | slice (xs : List LV) (own : Own) (nz : Option Bool) (a : Option Addr) (cap s : Nat) (f : Nat → Nat → Value)
      (hcap : xs.length ≤ cap) (hnz : ∀ b, nz = some b → a.isNone = b) (hnil : a = none → xs = [] ∧ cap = 0) (hsp : ∀ A, a = some A → cap = 0 ∨ A.spot = none)
      (hw : ∀ x ∈ xs, x.wd = s ∧ x.flat = true)
      (hown : OwnR w G s xs.length xs.length cap a own)
      (h : ∀ (A : Addr) (i : Nat) (x : LV) (j : Nat) (c : LV), a = some A → xs[i]? = some x → x.cells[j]? = some c → A.off + i * s + j < G.lim A.block ∧ w.cell? ⟨A.block, A.off + i * s + j, none⟩ = some (f i j))
      (hv : ∀ (i : Nat) (x : LV) (j : Nat) (c : LV), xs[i]? = some x → x.cells[j]? = some c → VR w G c (f i j)) :
      VR w G (.slice xs own nz) (.slice a xs.length cap)
  | mslice (b o len cap B : Nat) (h : G.mu b = some B) : VR w G (.mslice b o len cap) (.slice (some ⟨B, o, none⟩) len cap)
  | func (g : FuncId) (fs cs : List LV) (fs' cs' : Array Value) (hf : fs.length = fs'.size) (hc : cs.length = cs'.size)
      (hvf : ∀ (j : Nat) (x : LV) (v : Value), fs[j]? = some x → fs'[j]? = some v → VR w G x v) (hvc : ∀ (j : Nat) (x : LV) (v : Value), cs[j]? = some x → cs'[j]? = some v → VR w G x v) :
      VR w G (.func (.func g) fs cs) (.func (.func g) fs' cs')
  | yield (l L : Nat) (h : G.mu l = some L) : VR w G (.func (.yield l) [] []) (.func (.yield L) #[] #[])
  | nilFunc : VR w G .nilFunc .nilFunc
  | iface (t : TypeId) (x : LV) (v : Value) (h : VR w G x v) : VR w G (.iface t x) (.iface t v)
  | nilIface : VR w G .nilIface .nilIface
  | agg (cs : List LV) (vs : Array Value) (hl : cs.length = vs.size) (h : ∀ (j : Nat) (x : LV) (v : Value), cs[j]? = some x → vs[j]? = some v → VR w G x v) : VR w G (.agg cs) (.agg vs)
  | tuple (cs : List LV) (vs : Array Value) (hl : cs.length = vs.size) (h : ∀ (j : Nat) (x : LV) (v : Value), cs[j]? = some x → vs[j]? = some v → VR w G x v) : VR w G (.tuple cs) (.tuple vs)
  | junk (v : Value) : VR w G .junk v
def VRs (w : World) (G : Gh) (xs : List LV) (vs : List Value) : Prop :=
  xs.length = vs.length ∧ ∀ (j : Nat) (x : LV) (v : Value), xs[j]? = some x → vs[j]? = some v → VR w G x v
def Nt (w w' : World) : Prop := w'.os = w.os ∧ w'.output = w.output ∧ ∀ a, w'.frozen? a = w.frozen? a
theorem Nt.refl (w : World) : Nt w w := ⟨rfl, rfl, fun _ => rfl⟩
theorem Nt.trans {w w' w'' : World} (h : Nt w w') (h' : Nt w' w'') : Nt w w'' := ⟨h'.1.trans h.1, h'.2.1.trans h.2.1, fun a => (h'.2.2 a).trans (h.2.2 a)⟩
structure Ext0 (w : World) (G : Gh) (w' : World) (G' : Gh) : Prop where
  mu : ∀ b B, G.mu b = some B → G'.mu b = some B
  tok : ∀ k p, G.tok k = some p → G'.tok k = some p
  lim : ∀ B, G.lim B ≤ G'.lim B
  cell : ∀ B o, o < G.lim B → w'.cell? ⟨B, o, none⟩ = w.cell? ⟨B, o, none⟩
  shape : ∀ B s, w.shape? B = some s → w'.shape? B = some s
  fix : G.fix ≤ G'.fix
  old : ∀ B, B < G.fix → w'.heap[B]? = w.heap[B]?
  oldl : ∀ B, B < G.fix → G'.lim B = G.lim B
  nat : Nt w w'
structure Ext (w : World) (G : Gh) (w' : World) (G' : Gh) : Prop extends Ext0 w G w' G' where
  top : G.top ≤ G'.top
  new : ∀ b B, G'.mu b = some B → G.mu b = some B ∨ G.top ≤ b
theorem Ext0.refl (w : World) (G : Gh) : Ext0 w G w G := ⟨fun _ _ h => h, fun _ _ h => h, fun _ => Nat.le_refl _, fun _ _ _ => rfl, fun _ _ h => h, Nat.le_refl _, fun _ _ => rfl, fun _ _ => rfl, Nt.refl w⟩
theorem Ext.refl (w : World) (G : Gh) : Ext w G w G := ⟨Ext0.refl w G, Nat.le_refl _, fun _ _ h => .inl h⟩
theorem Ext0.trans {w w' w'' : World} {G G' G'' : Gh} (h : Ext0 w G w' G') (h' : Ext0 w' G' w'' G'') : Ext0 w G w'' G'' :=
  ⟨fun b B x => h'.mu b B (h.mu b B x), fun k p x => h'.tok k p (h.tok k p x), fun B => Nat.le_trans (h.lim B) (h'.lim B),
   fun B o x => (h'.cell B o (Nat.lt_of_lt_of_le x (h.lim B))).trans (h.cell B o x), fun B s x => h'.shape B s (h.shape B s x), Nat.le_trans h.fix h'.fix, fun B x => (h'.old B (Nat.lt_of_lt_of_le x h.fix)).trans (h.old B x), fun B x => (h'.oldl B (Nat.lt_of_lt_of_le x h.fix)).trans (h.oldl B x), h.nat.trans h'.nat⟩
theorem Ext.trans {w w' w'' : World} {G G' G'' : Gh} (h : Ext w G w' G') (h' : Ext w' G' w'' G'') : Ext w G w'' G'' :=
  ⟨h.toExt0.trans h'.toExt0, Nat.le_trans h.top h'.top, fun b B x => (h'.new b B x).elim (h.new b B) fun y => .inr (Nat.le_trans h.top y)⟩
structure ExtV (N : Nat) (w : World) (G : Gh) (w' : World) (G' : Gh) : Prop where
  mu : ∀ b B, b < N → G.mu b = some B → G'.mu b = some B
  lim : ∀ B, G.lim B ≤ G'.lim B
  cell : ∀ B o, o < G.lim B → w'.cell? ⟨B, o, none⟩ = w.cell? ⟨B, o, none⟩
theorem OwnR.ext0 {w w' : World} {G G' : Gh} (e : Ext0 w G w' G') {s n len cap : Nat} {a : Option Addr} {o : Own} (h : OwnR w G s n len cap a o) : OwnR w' G' s n len cap a o := by
  cases o with
  | none => trivial
  | exact => exact h
  | tok k =>
    obtain ⟨A, ha, hn, hk, t, N, hs, hle⟩ := h
    exact ⟨A, ha, hn, e.tok _ _ hk, t, N, e.shape _ _ hs, hle⟩
theorem VR.ext0 {w w' : World} {G G' : Gh} (e : Ext0 w G w' G') {x : LV} {v : Value} (h : VR w G x v) : VR w' G' x v := by
  induction h with
  | bool b => exact .bool b
  | int k n => exact .int k n
  | str s => exact .str s
  | nilp => exact .nilp
  | ptr b o B h => exact .ptr b o B (e.mu _ _ h)
  | ro cs B o f h hv ih => exact .ro cs B o f (fun j c hc => ⟨Nat.lt_of_lt_of_le (h j c hc).1 (e.lim B), (e.cell _ _ (h j c hc).1).trans (h j c hc).2.1, (h j c hc).2.2⟩) ih
  | slice xs own nz a cap s f hcap hnz hnil hsp hw hown h hv ih =>
    exact .slice xs own nz a cap s f hcap hnz hnil hsp hw (hown.ext0 e) (fun A i x j c ha hx hc => ⟨Nat.lt_of_lt_of_le (h A i x j c ha hx hc).1 (e.lim _), (e.cell _ _ (h A i x j c ha hx hc).1).trans (h A i x j c ha hx hc).2⟩) ih
  | mslice b o len cap B h => exact .mslice b o len cap B (e.mu _ _ h)
  | func g fs cs fs' cs' hf hc hvf hvc ihf ihc => exact .func g fs cs fs' cs' hf hc ihf ihc
  | yield l L h => exact .yield l L (e.mu _ _ h)
  | nilFunc => exact .nilFunc
  | iface t x v h ih => exact .iface t x v ih
  | nilIface => exact .nilIface
  | agg cs vs hl h ih => exact .agg cs vs hl ih
  | tuple cs vs hl h ih => exact .tuple cs vs hl ih
  | junk v => exact .junk v
theorem VR.ext {w w' : World} {G G' : Gh} (e : Ext w G w' G') {x : LV} {v : Value} (h : VR w G x v) : VR w' G' x v := h.ext0 e.toExt0
theorem VRs.ext0 {w w' : World} {G G' : Gh} (e : Ext0 w G w' G') {xs : List LV} {vs : List Value} (h : VRs w G xs vs) : VRs w' G' xs vs :=
  ⟨h.1, fun j x v hx hv => (h.2 j x v hx hv).ext0 e⟩
theorem VRs.ext {w w' : World} {G G' : Gh} (e : Ext w G w' G') {xs : List LV} {vs : List Value} (h : VRs w G xs vs) : VRs w' G' xs vs := h.ext0 e.toExt0
theorem refsOK_iff {N : Nat} {xs : List LV} : LV.refsOK N xs = true ↔ ∀ x ∈ xs, x.refOK N = true := by
  induction xs with
  | nil => simp [LV.refsOK]
  | cons x xs ih => simp [LV.refsOK, ih]
theorem refOK_cells {N : Nat} {x : LV} : LV.refsOK N x.cells = x.refOK N := by
  cases x <;> simp [LV.cells, LV.refsOK, LV.refOK]
theorem getElem?_mem' {α : Type} {l : List α} {i : Nat} {x : α} (h : l[i]? = some x) : x ∈ l := List.mem_of_getElem? h
theorem VR.refOK {w : World} {G : Gh} {N : Nat} (hN : ∀ b B, G.mu b = some B → b < N) {x : LV} {v : Value} (h : VR w G x v) : x.refOK N = true := by
  induction h with
  | ptr b o B h => simp [LV.refOK, hN _ _ h]
  | ro cs B o f h hv ih => simp only [LV.refOK, refsOK_iff]; intro x hx; obtain ⟨j, hj⟩ := List.getElem?_of_mem hx; exact ih j x hj
  | slice xs own nz a cap s f hcap hnz hnil hsp hw hown h hv ih =>
    simp only [LV.refOK, refsOK_iff]; intro x hx; obtain ⟨i, hi⟩ := List.getElem?_of_mem hx
    rw [← refOK_cells, refsOK_iff]; intro c hc; obtain ⟨j, hj⟩ := List.getElem?_of_mem hc
    exact ih i x j c hi hj
  | mslice b o len cap B h => simp [LV.refOK, hN _ _ h]
  | func g fs cs fs' cs' hf hc hvf hvc ihf ihc =>
    simp only [LV.refOK, Bool.and_eq_true, refsOK_iff]
    refine ⟨fun x hx => ?_, fun x hx => ?_⟩
    · obtain ⟨j, hj⟩ := List.getElem?_of_mem hx
      have hlt : j < fs'.size := hf ▸ (List.getElem?_eq_some_iff.1 hj).1
      exact ihf j x fs'[j] hj (by simp [hlt])
    · obtain ⟨j, hj⟩ := List.getElem?_of_mem hx
      have hlt : j < cs'.size := hc ▸ (List.getElem?_eq_some_iff.1 hj).1
      exact ihc j x cs'[j] hj (by simp [hlt])
  | yield l L h => simp [LV.refOK, LV.refsOK, hN _ _ h]
  | iface t x v h ih => simpa [LV.refOK] using ih
  | agg cs vs hl h ih =>
    simp only [LV.refOK, refsOK_iff]; intro x hx; obtain ⟨j, hj⟩ := List.getElem?_of_mem hx
    have hlt : j < vs.size := hl ▸ (List.getElem?_eq_some_iff.1 hj).1
    exact ih j x vs[j] hj (by simp [hlt])
  | tuple cs vs hl h ih =>
    simp only [LV.refOK, refsOK_iff]; intro x hx; obtain ⟨j, hj⟩ := List.getElem?_of_mem hx
    have hlt : j < vs.size := hl ▸ (List.getElem?_eq_some_iff.1 hj).1
    exact ih j x vs[j] hj (by simp [hlt])
  | _ => simp [LV.refOK]
theorem toksOK_iff {N : Nat} {xs : List LV} : LV.toksOK N xs = true ↔ ∀ x ∈ xs, x.tokOK N = true := by
  induction xs with
  | nil => simp [LV.toksOK]
  | cons x xs ih => simp [LV.toksOK, ih]
theorem tokOK_cells {N : Nat} {x : LV} : LV.toksOK N x.cells = x.tokOK N := by
  cases x <;> simp [LV.cells, LV.toksOK, LV.tokOK]
theorem VR.tokOK {w : World} {G : Gh} {N : Nat} (hN : ∀ k p, G.tok k = some p → k < N) {x : LV} {v : Value} (h : VR w G x v) : x.tokOK N = true := by
  induction h with
  | ro cs B o f h hv ih => simp only [LV.tokOK, toksOK_iff]; intro x hx; obtain ⟨j, hj⟩ := List.getElem?_of_mem hx; exact ih j x hj
  | slice xs own nz a cap s f hcap hnz hnil hsp hw hown h hv ih =>
    simp only [LV.tokOK, toksOK_iff, Bool.and_eq_true]
    refine ⟨?_, fun x hx => ?_⟩
    · cases own with
      | tok k => obtain ⟨A, ha, hn, hk, _⟩ := hown; simpa [Own.ok] using hN _ _ hk
      | _ => rfl
    obtain ⟨i, hi⟩ := List.getElem?_of_mem hx
    rw [← tokOK_cells, toksOK_iff]; intro c hc; obtain ⟨j, hj⟩ := List.getElem?_of_mem hc
    exact ih i x j c hi hj
  | func g fs cs fs' cs' hf hc hvf hvc ihf ihc =>
    simp only [LV.tokOK, Bool.and_eq_true, toksOK_iff]
    refine ⟨fun x hx => ?_, fun x hx => ?_⟩
    · obtain ⟨j, hj⟩ := List.getElem?_of_mem hx
      have hlt : j < fs'.size := hf ▸ (List.getElem?_eq_some_iff.1 hj).1
      exact ihf j x fs'[j] hj (by simp [hlt])
    · obtain ⟨j, hj⟩ := List.getElem?_of_mem hx
      have hlt : j < cs'.size := hc ▸ (List.getElem?_eq_some_iff.1 hj).1
      exact ihc j x cs'[j] hj (by simp [hlt])
  | yield l L h => simp [LV.tokOK, LV.toksOK]
  | iface t x v h ih => simpa [LV.tokOK] using ih
  | agg cs vs hl h ih =>
    simp only [LV.tokOK, toksOK_iff]; intro x hx; obtain ⟨j, hj⟩ := List.getElem?_of_mem hx
    have hlt : j < vs.size := hl ▸ (List.getElem?_eq_some_iff.1 hj).1
    exact ih j x vs[j] hj (by simp [hlt])
  | tuple cs vs hl h ih =>
    simp only [LV.tokOK, toksOK_iff]; intro x hx; obtain ⟨j, hj⟩ := List.getElem?_of_mem hx
    have hlt : j < vs.size := hl ▸ (List.getElem?_eq_some_iff.1 hj).1
    exact ih j x vs[j] hj (by simp [hlt])
  | _ => simp [LV.tokOK]
theorem VR.cut {w w' : World} {G G' : Gh} {N T : Nat} (e : ExtV N w G w' G') (ht : ∀ k p, k < T → G.tok k = some p → G'.tok k = some p) (hs : ∀ B s, w.shape? B = some s → w'.shape? B = some s) {x : LV} {v : Value} (h : VR w G x v) : x.refOK N = true → x.tokOK T = true → VR w' G' x v := by
  induction h with
  | bool b => exact fun _ _ => .bool b
  | int k n => exact fun _ _ => .int k n
  | str s => exact fun _ _ => .str s
  | nilp => exact fun _ _ => .nilp
  | ptr b o B h => exact fun hr _ => .ptr b o B (e.mu _ _ (by simpa [LV.refOK] using hr) h)
  | ro cs B o f h hv ih =>
    intro hr htk
    simp only [LV.refOK, refsOK_iff] at hr
    simp only [LV.tokOK, toksOK_iff, Bool.and_eq_true] at htk
    exact .ro cs B o f (fun j c hc => ⟨Nat.lt_of_lt_of_le (h j c hc).1 (e.lim B), (e.cell _ _ (h j c hc).1).trans (h j c hc).2.1, (h j c hc).2.2⟩) (fun j c hc => ih j c hc (hr c (List.mem_of_getElem? hc)) (htk c (List.mem_of_getElem? hc)))
  | slice xs own nz a cap s f hcap hnz hnil hsp hw hown h hv ih =>
    intro hr htk
    simp only [LV.refOK, refsOK_iff] at hr
    simp only [LV.tokOK, toksOK_iff, Bool.and_eq_true] at htk
    refine .slice xs own nz a cap s f hcap hnz hnil hsp hw ?_ (fun A i x j c ha hx hc => ⟨Nat.lt_of_lt_of_le (h A i x j c ha hx hc).1 (e.lim _), (e.cell _ _ (h A i x j c ha hx hc).1).trans (h A i x j c ha hx hc).2⟩) (fun i x j c hx hc => ih i x j c hx hc ?_ ?_)
    · cases own with
      | none => trivial
      | exact => exact hown
      | tok k => obtain ⟨A, ha, hn, hk, t, N, hsh, hle⟩ := hown; exact ⟨A, ha, hn, ht _ _ (by simpa [Own.ok] using htk.1) hk, t, N, hs _ _ hsh, hle⟩
    · have := hr x (List.mem_of_getElem? hx)
      rw [← refOK_cells, refsOK_iff] at this
      exact this c (List.mem_of_getElem? hc)
    · have := htk.2 x (List.mem_of_getElem? hx)
      rw [← tokOK_cells, toksOK_iff] at this
      exact this c (List.mem_of_getElem? hc)
  | mslice b o len cap B h => exact fun hr _ => .mslice b o len cap B (e.mu _ _ (by simpa [LV.refOK] using hr) h)
  | func g fs cs fs' cs' hf hc hvf hvc ihf ihc =>
    intro hr htk
    simp only [LV.refOK, Bool.and_eq_true, refsOK_iff] at hr
    simp only [LV.tokOK, toksOK_iff, Bool.and_eq_true] at htk
    exact .func g fs cs fs' cs' hf hc (fun j x v hx hv => ihf j x v hx hv (hr.1 x (List.mem_of_getElem? hx)) (htk.1 x (List.mem_of_getElem? hx))) (fun j x v hx hv => ihc j x v hx hv (hr.2 x (List.mem_of_getElem? hx)) (htk.2 x (List.mem_of_getElem? hx)))
  | yield l L h => exact fun hr _ => .yield l L (e.mu _ _ (by simp [LV.refOK, LV.refsOK] at hr; exact hr) h)
  | nilFunc => exact fun _ _ => .nilFunc
  | iface t x v h ih => exact fun hr hk => .iface t x v (ih (by simpa [LV.refOK] using hr) (by simpa [LV.tokOK] using hk))
  | nilIface => exact fun _ _ => .nilIface
  | agg cs vs hl h ih =>
    intro hr htk
    simp only [LV.refOK, refsOK_iff] at hr
    simp only [LV.tokOK, toksOK_iff, Bool.and_eq_true] at htk
    exact .agg cs vs hl (fun j x v hx hv => ih j x v hx hv (hr x (List.mem_of_getElem? hx)) (htk x (List.mem_of_getElem? hx)))
  | tuple cs vs hl h ih =>
    intro hr htk
    simp only [LV.refOK, refsOK_iff] at hr
    simp only [LV.tokOK, toksOK_iff, Bool.and_eq_true] at htk
    exact .tuple cs vs hl (fun j x v hx hv => ih j x v hx hv (hr x (List.mem_of_getElem? hx)) (htk x (List.mem_of_getElem? hx)))
  | junk v => exact fun _ _ => .junk v
theorem VR.canon1 {w : World} {G : Gh} {x : LV} {v : Value} (h : VR w G x v) : VR w G x.canon1 v := by
  cases h <;> first | exact .slice _ _ _ _ _ _ _ ‹_› (by simp) ‹_› ‹_› ‹_› trivial ‹_› ‹_› | (simp only [LV.canon1]; constructor <;> assumption)
theorem canon1_get {w : World} {G : Gh} {cs : List LV} {vs : Array Value} (h : ∀ (j : Nat) (x : LV) (v : Value), cs[j]? = some x → vs[j]? = some v → VR w G x v) :
    ∀ (j : Nat) (x : LV) (v : Value), (cs.map LV.canon1)[j]? = some x → vs[j]? = some v → VR w G x v := by
  intro j x v hx hv
  rw [List.getElem?_map] at hx
  cases hc : cs[j]? with
  | none => simp [hc] at hx
  | some c => simp [hc] at hx; subst hx; exact (h j c v hc hv).canon1
theorem VR.canon {w : World} {G : Gh} {x : LV} {v : Value} (h : VR w G x v) : VR w G x.canon v := by
  cases h <;> first
    | exact .slice _ _ _ _ _ _ _ ‹_› (by simp) ‹_› ‹_› ‹_› trivial ‹_› ‹_›
    | (rename_i cs vs hl h; exact .agg _ vs (by simpa using hl) (canon1_get h))
    | (simp only [LV.canon]; constructor <;> assumption)
theorem VR.canonT {w : World} {G : Gh} {x : LV} {v : Value} (h : VR w G x v) : VR w G x.canonT v := by
  cases h <;> first
    | exact .slice _ _ _ _ _ _ _ ‹_› ‹_› ‹_› ‹_› ‹_› trivial ‹_› ‹_›
    | (rename_i cs vs hl h; exact .agg _ vs (by simpa using hl) (canon1_get h))
    | (simp only [LV.canonT]; constructor <;> assumption)
theorem VR.canonA {w : World} {G : Gh} {x : LV} {v : Value} (h : VR w G x v) : VR w G x.canonA v := by
  cases h <;> first
    | (rename_i cs vs hl h; exact .agg _ vs (by simpa using hl) (canon1_get h))
    | exact .slice _ _ _ _ _ _ _ ‹_› ‹_› ‹_› ‹_› ‹_› ‹_› ‹_› ‹_›
    | (simp only [LV.canonA]; constructor <;> assumption)
theorem VR.canonR {w : World} {G : Gh} {x : LV} {v : Value} (h : VR w G x v) : VR w G x.canonR v := by
  cases h with
  | agg cs vs hl h => exact .agg _ vs (by simpa using hl) (canon1_get h)
  | tuple cs vs hl h =>
    refine .tuple _ vs (by simpa using hl) ?_
    intro j x v hx hv
    rw [List.getElem?_map] at hx
    cases hc : cs[j]? with
    | none => simp [hc] at hx
    | some c => simp [hc] at hx; subst hx; exact (h j c v hc hv).canonT
  | slice xs own nz a cap s f hcap hnz hnil hsp hw hown h hv => exact .slice _ _ _ _ _ _ _ hcap hnz hnil hsp hw hown h hv
  | iface t x v h => exact .iface t _ v h.canon
  | _ => simp only [LV.canonR]; constructor <;> assumption
theorem VR.canonP {w : World} {G : Gh} {x : LV} {v : Value} (h : VR w G x v) : VR w G x.canonP v := by
  cases h with
  | iface t x v h => exact .iface t _ v h.canon
  | slice xs own nz a cap s f hcap hnz hnil hsp hw hown h hv => exact .slice _ _ _ _ _ _ _ hcap hnz hnil hsp hw hown h hv
  | agg cs vs hl h => exact .agg _ vs hl h
  | tuple cs vs hl h => exact .tuple _ vs hl h
  | _ => simp only [LV.canonP]; constructor <;> assumption
theorem VR.disown {w : World} {G : Gh} {xs : List LV} {own : Own} {nz : Option Bool} {v : Value} (h : VR w G (.slice xs own nz) v) : VR w G (.slice xs .none nz) v := by
  cases h with
  | slice xs own nz a cap s f hcap hnz hnil hsp hw hown h hv => exact .slice _ _ _ _ _ _ _ hcap hnz hnil hsp hw trivial h hv
end Go.Lg
end
section
set_option linter.unusedSimpArgs false
set_option linter.unusedSectionVars false
namespace Go.Lg
structure TR (w : World) (G : Gh) (tm : Tm) (ts : Array Value) : Prop where
  size : tm.n = ts.size
  get : ∀ k x, tm.get k = some x → VR w G x (ts.getD k undef)
theorem TR.ext0 {w w' : World} {G G' : Gh} (e : Ext0 w G w' G') {tm : Tm} {ts : Array Value} (h : TR w G tm ts) : TR w' G' tm ts := ⟨h.size, fun k x hx => (h.get k x hx).ext0 e⟩
theorem TR.ext {w w' : World} {G G' : Gh} (e : Ext w G w' G') {tm : Tm} {ts : Array Value} (h : TR w G tm ts) : TR w' G' tm ts := h.ext0 e.toExt0
def LObj.refOK (N : Nat) : LObj → Prop
  | .cells _ cs => LV.refsOK N cs = true
  | .loop r => ∀ k x, r.tmps.get k = some x → x.refOK N = true
  | .dfr => True
  | .gone => True
def ObjR (w : World) (G : Gh) (B : Nat) : LObj → Prop
  | .cells t cs => ∃ c, w.heap[B]? = some (.cells c t (0, 0)) ∧ VRs w G cs c.toList
  | .loop r => ∃ L, w.heap[B]? = some (.loop L) ∧ L.state = r.state ∧ L.pending = r.pending ∧ TR w G r.tmps L.tmps ∧ L.params.toList = r.params ∧ L.assign = r.assign ∧ L.body = r.body
  | .dfr => w.heap[B]? = some (.deferred (some []))
  | .gone => True
theorem refOK_mono {N M : Nat} (h : N ≤ M) : (x : LV) → x.refOK N = true → x.refOK M = true := by
  intro x
  refine LV.rec (motive_1 := fun x => x.refOK N = true → x.refOK M = true) (motive_2 := fun xs => LV.refsOK N xs = true → LV.refsOK M xs = true) ?_ ?_ ?_ ?_ ?_ ?_ ?_ ?_ ?_ ?_ ?_ ?_ ?_ ?_ ?_ ?_ ?_ x
  all_goals try (intros; simp only [LV.refOK]; done)
  · intro b o hb; simp only [LV.refOK, decide_eq_true_eq] at hb ⊢; omega
  · intro cs ih hb; simp only [LV.refOK] at hb ⊢; exact ih hb
  · intro cs own nz ih hb; simp only [LV.refOK] at hb ⊢; exact ih hb
  · intro b o l c hb; simp only [LV.refOK, decide_eq_true_eq] at hb ⊢; omega
  · intro f fs cs ihf ihc hb
    cases f <;> simp only [LV.refOK, Bool.and_eq_true, decide_eq_true_eq] at hb ⊢ <;> first
      | exact ⟨ihf hb.1, ihc hb.2⟩
      | exact ⟨⟨by omega, ihf hb.1.2⟩, ihc hb.2⟩
  · intro t v ih hb; simp only [LV.refOK] at hb ⊢; exact ih hb
  · intro cs ih hb; simp only [LV.refOK] at hb ⊢; exact ih hb
  · intro cs ih hb; simp only [LV.refOK] at hb ⊢; exact ih hb
  · intro _; rfl
  · intro x xs ih1 ih2 hb; simp only [LV.refsOK, Bool.and_eq_true] at hb ⊢; exact ⟨ih1 hb.1, ih2 hb.2⟩
theorem refsOK_mono {N M : Nat} (h : N ≤ M) {xs : List LV} (hx : LV.refsOK N xs = true) : LV.refsOK M xs = true :=
  refsOK_iff.2 fun x hm => refOK_mono h x (refsOK_iff.1 hx x hm)
theorem objRef_mono {N M : Nat} (h : N ≤ M) {o : LObj} (ho : o.refOK N) : o.refOK M := by
  cases o with
  | cells t cs => exact refsOK_mono h ho
  | loop r => exact fun k x hx => refOK_mono h x (ho k x hx)
  | dfr => trivial
  | gone => trivial
variable [Rel]
structure WR0 (G : Gh) (σ : LH) (w : World) : Prop where
  box : ∀ b B, G.mu b = some B → ∃ o : LObj, σ.boxes[b]? = some o ∧ ObjR w G B o
  inj : ∀ b b' B, G.mu b = some B → G.mu b' = some B → b = b'
  low : ∀ b B, G.mu b = some B → G.lim B = 0 ∧ B < w.heap.size
  ref : ∀ (b : Nat) (o : LObj), σ.boxes[b]? = some o → o.refOK (refB b σ.boxes.length)
  fresh : ∀ B, w.heap.size ≤ B → G.lim B = 0
  tok : ∀ k : Nat, σ.toks[k]? = some true → ∃ B e, G.tok k = some (B, e) ∧ G.lim B = e ∧ (∀ b, G.mu b ≠ some B) ∧ ∃ c t, w.heap[B]? = some (.cells c t (0, 0))
  tokinj : ∀ (k k' B e e' : Nat), σ.toks[k]? = some true → σ.toks[k']? = some true → G.tok k = some (B, e) → G.tok k' = some (B, e') → k = k'
  tokdom : ∀ k p, G.tok k = some p → k < σ.toks.length
  top : G.top ≤ σ.boxes.length
  fixm : ∀ b B, G.mu b = some B → G.fix ≤ B
  fixt : ∀ (k B e : Nat), σ.toks[k]? = some true → G.tok k = some (B, e) → G.fix ≤ B
  fixh : G.fix ≤ w.heap.size
structure WR (G : Gh) (σ : LH) (w : World) : Prop extends WR0 G σ w where
  full : ∀ b, b < σ.boxes.length → G.mu b = none → b < G.top
theorem WR0.mudom {G : Gh} {σ : LH} {w : World} (h : WR0 G σ w) {b B : Nat} (hb : G.mu b = some B) : b < σ.boxes.length := by
  obtain ⟨o, ho, _⟩ := h.box b B hb
  exact (List.getElem?_eq_some_iff.1 ho).1
theorem cell?_heap {w w' : World} (h : w'.heap = w.heap) (a : Addr) : w'.cell? a = w.cell? a := by simp [World.cell?, h]
theorem shape?_heap {w w' : World} (h : w'.heap = w.heap) (r : Nat) : w'.shape? r = w.shape? r := by simp [World.shape?, h]
theorem Ext.of_heap {w w' : World} (h : w'.heap = w.heap) (G : Gh) (ho : w'.os = w.os := by rfl) (hp : w'.output = w.output := by rfl) : Ext w G w' G :=
  ⟨⟨fun _ _ x => x, fun _ _ x => x, fun _ => Nat.le_refl _, fun _ _ _ => cell?_heap h _, fun _ _ x => (shape?_heap h _).trans x, Nat.le_refl _, fun _ _ => by rw [h], fun _ _ => rfl, ho, hp, fun a => by simp [World.frozen?, h]⟩, Nat.le_refl _, fun _ _ h => .inl h⟩
theorem ObjR.ext0 {w w' : World} {G G' : Gh} (e : Ext0 w G w' G') {B : Nat} {o : LObj} (hB : w'.heap[B]? = w.heap[B]?) (h : ObjR w G B o) : ObjR w' G' B o := by
  cases o with
  | cells t cs => obtain ⟨c, h1, h2⟩ := h; exact ⟨c, hB.trans h1, h2.ext0 e⟩
  | loop r => obtain ⟨L, h1, h2, h3, h4, h5⟩ := h; exact ⟨L, hB.trans h1, h2, h3, h4.ext0 e, h5⟩
  | dfr => exact hB.trans h
  | gone => trivial
theorem ObjR.ext {w w' : World} {G G' : Gh} (e : Ext w G w' G') {B : Nat} {o : LObj} (hB : w'.heap[B]? = w.heap[B]?) (h : ObjR w G B o) : ObjR w' G' B o := h.ext0 e.toExt0 hB
theorem WR.of_heap {G : Gh} {σ : LH} {w w' : World} (hh : w'.heap = w.heap) (h : WR G σ w) (hos : w'.os = w.os := by rfl) (hou : w'.output = w.output := by rfl) : WR G σ w' where
  box b B hb := let ⟨o, ho, hr⟩ := h.box b B hb; ⟨o, ho, hr.ext (Ext.of_heap hh G hos hou) (by rw [hh])⟩
  inj := h.inj
  low := by rw [hh]; exact h.low
  ref := h.ref
  fresh := by rw [hh]; exact h.fresh
  tok := by rw [hh]; exact h.tok
  tokinj := h.tokinj
  tokdom := h.tokdom
  top := h.top
  full := h.full
  fixm := h.fixm
  fixt := h.fixt
  fixh := by rw [hh]; exact h.fixh
theorem WR.of_ws {G : Gh} {σ σ' : LH} {w : World} (hb : σ'.boxes = σ.boxes) (ht : σ'.toks = σ.toks) (h : WR G σ w) : WR G σ' w where
  box := by rw [hb]; exact h.box
  inj := h.inj
  low := h.low
  ref := by rw [hb]; exact h.ref
  fresh := h.fresh
  tok := by rw [ht]; exact h.tok
  tokinj := by rw [ht]; exact h.tokinj
  tokdom := by rw [ht]; exact h.tokdom
  top := by rw [hb]; exact h.top
  full := by rw [hb]; exact h.full
  fixm := h.fixm
  fixt := by rw [ht]; exact h.fixt
  fixh := h.fixh
def pushW (w : World) (o : Obj) : World := { w with heap := w.heap.push o }
theorem pushW_get {w : World} {o : Obj} {B : Nat} (h : B < w.heap.size) : (pushW w o).heap[B]? = w.heap[B]? := by
  simp [pushW, Array.getElem?_push_lt, h, Array.getElem?_eq_getElem]
theorem pushW_new (w : World) (o : Obj) : (pushW w o).heap[w.heap.size]? = some o := by simp [pushW]
theorem heap_lt {w : World} {B : Nat} {o : Obj} (h : w.heap[B]? = some o) : B < w.heap.size := (Array.getElem?_eq_some_iff.1 h).1
theorem cell?_lt {w : World} {a : Addr} {u : Value} (h : w.cell? a = some u) : a.block < w.heap.size := by
  simp only [World.cell?] at h
  split at h
  · rename_i c e f hc; exact heap_lt hc
  · cases h
theorem shape?_lt {w : World} {r : Nat} {s : TypeId × Nat} (h : w.shape? r = some s) : r < w.heap.size := by
  simp only [World.shape?] at h
  split at h
  · rename_i c e f hc; exact heap_lt hc
  · cases h
theorem cell?_get {w w' : World} {a : Addr} (h : w'.heap[a.block]? = w.heap[a.block]?) : w'.cell? a = w.cell? a := by simp [World.cell?, h]
theorem shape?_get {w w' : World} {r : Nat} (h : w'.heap[r]? = w.heap[r]?) : w'.shape? r = w.shape? r := by simp [World.shape?, h]
def Gh.setMu (G : Gh) (b B : Nat) : Gh := { G with mu := fun x => if x = b then some B else G.mu x }
def Gh.setLim (G : Gh) (B n : Nat) : Gh := { G with lim := fun x => if x = B then n else G.lim x }
theorem lim_lt {G : Gh} {σ : LH} {w : World} (h : WR0 G σ w) {B o : Nat} (ho : o < G.lim B) : B < w.heap.size := by
  rcases Nat.lt_or_ge B w.heap.size with h' | h'
  · exact h'
  · rw [h.fresh B h'] at ho; omega
def ObjN (o : Obj) : Prop := ∀ c t fr, o = .cells c t fr → fr = (0, 0)
theorem Nt.push (w : World) {o : Obj} (ho : ObjN o) : Nt w (pushW w o) := by
  refine ⟨rfl, rfl, fun a => ?_⟩
  by_cases h : a.block = w.heap.size
  · have e1 : (pushW w o).heap[a.block]? = some o := by simp [pushW, h]
    have e2 : w.heap[a.block]? = none := by rw [h]; exact Array.getElem?_eq_none (Nat.le_refl _)
    cases o with
    | cells c t fr => have := ho c t fr rfl; subst this; simp [World.frozen?, e1, e2]
    | _ => simp [World.frozen?, e1, e2]
  · have e1 : (pushW w o).heap[a.block]? = w.heap[a.block]? := by simp only [pushW]; rw [Array.getElem?_push]; simp [h]
    simp only [World.frozen?, e1]
theorem Ext0.push {G : Gh} {σ : LH} {w : World} (h : WR0 G σ w) (o : Obj) (G' : Gh) (hm : ∀ b B, G.mu b = some B → G'.mu b = some B) (ht : ∀ k p, G.tok k = some p → G'.tok k = some p) (hl : ∀ B, B ≠ w.heap.size → G'.lim B = G.lim B) (hf : G'.fix = G.fix) (hob : ObjN o) :
    Ext0 w G (pushW w o) G' where
  mu := hm
  tok := ht
  lim B := by
    by_cases hB : B = w.heap.size
    · subst hB; rw [h.fresh _ (Nat.le_refl _)]; omega
    · rw [hl B hB]; omega
  cell B x hx := cell?_get (pushW_get (lim_lt h hx))
  shape B s hs := (shape?_get (pushW_get (shape?_lt hs))).trans hs
  fix := by rw [hf]; exact Nat.le_refl _
  old B hB := pushW_get (Nat.lt_of_lt_of_le hB h.fixh)
  oldl B hB := hl B (by have := Nat.lt_of_lt_of_le hB h.fixh; omega)
  nat := Nt.push w hob
theorem WR0.setMu {G : Gh} {σ : LH} {w : World} (h : WR0 G σ w) {b : Nat} {o : LObj} {obj : Obj} (hb : G.mu b = none) (ho : σ.boxes[b]? = some o)
    (hobj : ∀ w' G', Ext0 w G w' G' → w'.heap[w.heap.size]? = some obj → ObjR w' G' w.heap.size o) (hob : ObjN obj := by intro _ _ _ h; cases h; rfl) :
    WR0 (G.setMu b w.heap.size) σ (pushW w obj) ∧ Ext0 w G (pushW w obj) (G.setMu b w.heap.size) := by
  have hmu : ∀ b' B, G.mu b' = some B → (G.setMu b w.heap.size).mu b' = some B := fun b' B h' => by
    simp only [Gh.setMu]; split
    · rename_i e; rw [e, hb] at h'; cases h'
    · exact h'
  have e : Ext0 w G (pushW w obj) (G.setMu b w.heap.size) := Ext0.push h obj _ hmu (fun _ _ x => x) (fun _ _ => rfl) rfl hob
  refine ⟨⟨fun b' B hB => ?_, fun b1 b2 B h1 h2 => ?_, fun b' B hB => ?_, h.ref, fun B hB => ?_, fun k hk => ?_, h.tokinj, h.tokdom, h.top, fun b' B hB => ?_, h.fixt, by simp [pushW]; exact Nat.le_succ_of_le h.fixh⟩, e⟩
  · simp only [Gh.setMu] at hB
    split at hB
    · rename_i e'; injection hB with hB; subst hB; subst e'; exact ⟨o, ho, hobj _ _ e (pushW_new _ _)⟩
    · obtain ⟨o', ho', hr⟩ := h.box b' B hB; exact ⟨o', ho', hr.ext0 e (pushW_get (h.low b' B hB).2)⟩
  · simp only [Gh.setMu] at h1 h2
    split at h1 <;> split at h2
    · omega
    · injection h1 with h1; have := (h.low _ _ h2).2; omega
    · injection h2 with h2; have := (h.low _ _ h1).2; omega
    · exact h.inj _ _ _ h1 h2
  · simp only [Gh.setMu] at hB
    simp only [pushW, Array.size_push]
    split at hB
    · injection hB with hB; subst hB; exact ⟨h.fresh _ (Nat.le_refl _), by omega⟩
    · have := h.low _ _ hB; exact ⟨this.1, by omega⟩
  · simp only [pushW, Array.size_push] at hB; exact h.fresh B (by omega)
  · obtain ⟨B, e', h1, h2, h3, c, t, h4⟩ := h.tok k hk
    refine ⟨B, e', h1, h2, fun b' hb' => ?_, c, t, (pushW_get (heap_lt h4)).trans h4⟩
    simp only [Gh.setMu] at hb'
    split at hb'
    · injection hb' with hb'; have := heap_lt h4; omega
    · exact h3 _ hb'
  · simp only [Gh.setMu] at hB
    split at hB
    · injection hB with hB; subst hB; exact h.fixh
    · exact h.fixm _ _ hB
theorem WR.setMu {G : Gh} {σ : LH} {w : World} (h : WR G σ w) {b : Nat} {o : LObj} {obj : Obj} (hb : G.mu b = none) (ho : σ.boxes[b]? = some o)
    (hobj : ∀ w' G', Ext0 w G w' G' → w'.heap[w.heap.size]? = some obj → ObjR w' G' w.heap.size o) (hob : ObjN obj := by intro _ _ _ h; cases h; rfl) :
    WR (G.setMu b w.heap.size) σ (pushW w obj) ∧ Ext0 w G (pushW w obj) (G.setMu b w.heap.size) :=
  have hs := h.toWR0.setMu hb ho hobj hob
  ⟨⟨hs.1, fun b' hl hn => h.full b' hl (by
    simp only [Gh.setMu] at hn
    split at hn
    · cases hn
    · exact hn)⟩, hs.2⟩
theorem WR0.snoc {G : Gh} {σ : LH} {w : World} (h : WR0 G σ w) (o : LObj) (ho : o.refOK (σ.boxes.length + 1)) : WR0 G { σ with boxes := σ.boxes ++ [o] } w where
  box b B hb := let ⟨o', ho', hr⟩ := h.box b B hb; ⟨o', by simp [List.getElem?_append_left (h.mudom hb), ho'], hr⟩
  inj := h.inj
  low := h.low
  ref b o' hb := by
    simp only [List.getElem?_append] at hb
    split at hb
    · exact objRef_mono (refB_mono (by simp)) (h.ref b o' hb)
    · rename_i hlt
      rcases Nat.eq_or_lt_of_le (Nat.le_of_not_lt hlt) with e | e
      · rw [← e] at hb ⊢; simp at hb; subst hb; exact objRef_mono (by have := le_refB (b := σ.boxes.length) (len := (σ.boxes ++ [o]).length) (by simp); simpa using this) ho
      · have : b - σ.boxes.length ≥ 1 := by omega
        rw [List.getElem?_eq_none (by simpa using this)] at hb; cases hb
  fresh := h.fresh
  tok := h.tok
  tokinj := h.tokinj
  tokdom := h.tokdom
  top := by have := h.top; simp; omega
  fixm := h.fixm
  fixt := h.fixt
  fixh := h.fixh
theorem WR0.munone {G : Gh} {σ : LH} {w : World} (h : WR0 G σ w) {b : Nat} (hb : σ.boxes.length ≤ b) : G.mu b = none := by
  cases hm : G.mu b with
  | none => rfl
  | some B => have := h.mudom hm; omega
theorem WR.newBox {G : Gh} {σ : LH} {w : World} (h : WR G σ w) {o : LObj} {obj : Obj} (hr : o.refOK (σ.boxes.length + 1))
    (hobj : ∀ w' G', Ext0 w G w' G' → w'.heap[w.heap.size]? = some obj → ObjR w' G' w.heap.size o) (hob : ObjN obj := by intro _ _ _ h; cases h; rfl) :
    WR (G.setMu σ.boxes.length w.heap.size) { σ with boxes := σ.boxes ++ [o] } (pushW w obj) ∧ Ext w G (pushW w obj) (G.setMu σ.boxes.length w.heap.size) :=
  have hs := WR0.setMu (h.toWR0.snoc o hr) (h.munone (Nat.le_refl _)) (by simp) hobj hob
  ⟨⟨hs.1, fun b hl hn => by
    simp only [Gh.setMu] at hn
    split at hn
    · cases hn
    · rename_i hne
      simp at hl
      exact h.full b (by omega) hn⟩, hs.2, Nat.le_refl _, fun b B hb => by
    simp only [Gh.setMu] at hb
    split at hb
    · rename_i e; exact .inr (by rw [e]; exact h.top)
    · exact .inl hb⟩
theorem WR.newRow {G : Gh} {σ : LH} {w : World} (h : WR G σ w) (obj : Obj) (n : Nat) (hob : ObjN obj := by intro _ _ _ h; cases h; rfl) :
    WR (G.setLim w.heap.size n) σ (pushW w obj) ∧ Ext w G (pushW w obj) (G.setLim w.heap.size n) := by
  have hl : ∀ B, B ≠ w.heap.size → (G.setLim w.heap.size n).lim B = G.lim B := fun B hB => by simp [Gh.setLim, hB]
  have e : Ext w G (pushW w obj) (G.setLim w.heap.size n) := ⟨Ext0.push h.toWR0 obj _ (fun _ _ x => x) (fun _ _ x => x) hl rfl hob, Nat.le_refl _, fun _ _ h => .inl h⟩
  refine ⟨⟨⟨fun b B hB => ?_, h.inj, fun b B hB => ?_, h.ref, fun B hB => ?_, fun k hk => ?_, h.tokinj, h.tokdom, h.top, h.fixm, h.fixt, by simp [pushW]; exact Nat.le_succ_of_le h.fixh⟩, h.full⟩, e⟩
  · obtain ⟨o', ho', hr⟩ := h.box b B hB; exact ⟨o', ho', hr.ext e (pushW_get (h.low b B hB).2)⟩
  · have := h.low b B hB; rw [hl B (by omega)]; exact ⟨this.1, by simp [pushW]; omega⟩
  · simp only [pushW, Array.size_push] at hB; rw [hl B (by omega)]; exact h.fresh B (by omega)
  · obtain ⟨B, e', h1, h2, h3, c, t, h4⟩ := h.tok k hk
    have := heap_lt h4
    exact ⟨B, e', h1, by rw [hl B (by omega)]; exact h2, h3, c, t, (pushW_get this).trans h4⟩
def Gh.addTok (G : Gh) (k B e : Nat) : Gh := { G with tok := fun x => if x = k then some (B, e) else G.tok x }
theorem WR.addTok {G : Gh} {σ : LH} {w : World} (h : WR G σ w) {B e : Nat} {c : Array Value} {t : TypeId} (hfx : G.fix ≤ B) (hl : G.lim B = e) (hm : ∀ b, G.mu b ≠ some B) (hc : w.heap[B]? = some (.cells c t (0, 0)))
    (hno : ∀ k p, σ.toks[k]? = some true → G.tok k = some p → p.1 ≠ B) :
    WR (G.addTok σ.toks.length B e) { σ with toks := σ.toks ++ [true] } w ∧ Ext w G w (G.addTok σ.toks.length B e) := by
  have ht : ∀ k p, G.tok k = some p → (G.addTok σ.toks.length B e).tok k = some p := fun k p hk => by
    have := h.tokdom k p hk
    simp only [Gh.addTok]; rw [if_neg (by omega)]; exact hk
  have e' : Ext w G w (G.addTok σ.toks.length B e) := ⟨⟨fun _ _ x => x, ht, fun _ => Nat.le_refl _, fun _ _ _ => rfl, fun _ _ x => x, Nat.le_refl _, fun _ _ => rfl, fun _ _ => rfl, Nt.refl w⟩, Nat.le_refl _, fun _ _ h => .inl h⟩
  have alive : ∀ k, (σ.toks ++ [true])[k]? = some true → (k < σ.toks.length ∧ σ.toks[k]? = some true) ∨ k = σ.toks.length := fun k hk => by
    simp only [List.getElem?_append] at hk
    split at hk
    · rename_i hlt; exact .inl ⟨hlt, hk⟩
    · rename_i hlt
      rcases Nat.eq_or_lt_of_le (Nat.le_of_not_lt hlt) with e | e
      · exact .inr e.symm
      · rw [List.getElem?_eq_none (by simp; omega)] at hk; cases hk
  refine ⟨⟨⟨fun b B' hB => ?_, h.inj, h.low, h.ref, h.fresh, fun k hk => ?_, fun k k' B' x x' hk hk' h1 h2 => ?_, fun k p hk => ?_, h.top, h.fixm, fun k B' x hk hp => ?_, h.fixh⟩, h.full⟩, e'⟩
  · obtain ⟨o', ho', hr⟩ := h.box b B' hB; exact ⟨o', ho', hr.ext e' rfl⟩
  · rcases alive k hk with ⟨hlt, hk⟩ | rfl
    · obtain ⟨B', x, h1, h2⟩ := h.tok k hk; exact ⟨B', x, ht _ _ h1, h2⟩
    · exact ⟨B, e, by simp [Gh.addTok], hl, hm, c, t, hc⟩
  · rcases alive k hk with ⟨hlt, hk⟩ | rfl <;> rcases alive k' hk' with ⟨hlt', hk'⟩ | rfl
    · simp only [Gh.addTok] at h1 h2
      rw [if_neg (by omega)] at h1 h2
      exact h.tokinj _ _ _ _ _ hk hk' h1 h2
    · simp only [Gh.addTok] at h1 h2
      rw [if_neg (by omega)] at h1
      simp at h2
      exact absurd (h2.1.symm) (hno _ _ hk h1)
    · simp only [Gh.addTok] at h1 h2
      rw [if_neg (by omega)] at h2
      simp at h1
      exact absurd (h1.1.symm) (hno _ _ hk' h2)
    · rfl
  · simp only [Gh.addTok] at hk
    simp only [List.length_append, List.length_singleton]
    split at hk
    · omega
    · have := h.tokdom k p hk; omega
  · rcases alive k hk with ⟨hlt, hk⟩ | rfl
    · simp only [Gh.addTok] at hp
      rw [if_neg (by omega)] at hp
      exact h.fixt k B' x hk hp
    · simp only [Gh.addTok, if_true] at hp
      injection hp with hp; injection hp with hp1 hp2; subst hp1; exact hfx
end Go.Lg
end
section
set_option linter.unusedSimpArgs false
set_option linter.unusedSectionVars false
namespace Go.Lg
variable [Rel]
theorem WR.upd {G : Gh} {σ : LH} {w w' : World} (h : WR G σ w) {b B : Nat} {o' : LObj} (hb : G.mu b = some B) (hsz : w'.heap.size = w.heap.size)
    (hne : ∀ B', B' ≠ B → w'.heap[B']? = w.heap[B']?) (hsh : ∀ s, w.shape? B = some s → w'.shape? B = some s) (hr : o'.refOK (refB b σ.boxes.length)) (hnt : Nt w w') (ho : Ext w G w' G → ObjR w' G B o') (ws : List Nat) :
    WR G { boxes := σ.boxes.set b o', toks := σ.toks, ws := ws } w' ∧ Ext w G w' G := by
  have e : Ext w G w' G := by
    refine ⟨⟨fun _ _ x => x, fun _ _ x => x, fun _ => Nat.le_refl _, fun B' x hx => ?_, fun B' s hs => ?_, Nat.le_refl _, fun B' hB' => hne B' fun hBB => by have := h.fixm b B hb; omega, fun _ _ => rfl, hnt⟩, Nat.le_refl _, fun _ _ h => .inl h⟩
    · by_cases hB : B' = B
      · subst hB; rw [(h.low b B' hb).1] at hx; omega
      · exact cell?_get (hne B' hB)
    · by_cases hB : B' = B
      · subst hB; exact hsh s hs
      · exact (shape?_get (hne B' hB)).trans hs
  refine ⟨⟨⟨fun b' B' hB => ?_, h.inj, fun b' B' hB => ?_, fun b' o hb' => ?_, fun B' hB => h.fresh B' (by omega), fun k hk => ?_, h.tokinj, h.tokdom, by simp; exact h.top, h.fixm, h.fixt, by rw [hsz]; exact h.fixh⟩, by simp; exact h.full⟩, e⟩
  · by_cases hbb : b' = b
    · subst hbb
      rw [hb] at hB; injection hB with hB; subst hB
      exact ⟨o', by simp [h.mudom hb], ho e⟩
    · obtain ⟨o, h1, h2⟩ := h.box b' B' hB
      refine ⟨o, by simp [List.getElem?_set, Ne.symm hbb, h1], h2.ext e (hne B' fun hBB => hbb ?_)⟩
      subst hBB; exact h.inj _ _ _ hB hb
  · rw [hsz]; exact h.low b' B' hB
  · show o.refOK (refB b' (σ.boxes.set b o').length)
    rw [List.length_set]
    simp only [List.getElem?_set] at hb'
    split at hb'
    · split at hb'
      · injection hb' with hb'; subst hb'; rename_i e' _; subst e'; exact hr
      · cases hb'
    · exact h.ref b' o hb'
  · obtain ⟨B', e', h1, h2, h3, c, t, h4⟩ := h.tok k hk
    refine ⟨B', e', h1, h2, h3, c, t, (hne B' fun hBB => ?_).trans h4⟩
    subst hBB; exact h3 b hb
theorem WR.spend {G : Gh} {σ : LH} {w : World} (h : WR G σ w) (k : Nat) : WR G { σ with toks := σ.toks.set k false } w where
  box := h.box
  inj := h.inj
  low := h.low
  ref := h.ref
  fresh := h.fresh
  tok k' hk := by
    simp only [List.getElem?_set] at hk
    split at hk
    · split at hk
      · injection hk with hk; cases hk
      · cases hk
    · exact h.tok k' hk
  tokinj k1 k2 B e e' h1 h2 := by
    simp only [List.getElem?_set] at h1 h2
    split at h1
    · split at h1
      · injection h1 with h1; cases h1
      · cases h1
    · split at h2
      · split at h2
        · injection h2 with h2; cases h2
        · cases h2
      · exact h.tokinj _ _ _ _ _ h1 h2
  tokdom k' p hk := by simpa using h.tokdom k' p hk
  top := h.top
  full := h.full
  fixm := h.fixm
  fixt k' B e hk := by
    simp only [List.getElem?_set] at hk
    split at hk
    · split at hk
      · injection hk with hk; cases hk
      · cases hk
    · exact h.fixt k' B e hk
  fixh := h.fixh
theorem WR.grow {G : Gh} {σ : LH} {w w' : World} (h : WR G σ w) {B n : Nat} (hfx : G.fix ≤ B) (hm : ∀ b, G.mu b ≠ some B) (hsz : w'.heap.size = w.heap.size) (hB : B < w.heap.size)
    (hne : ∀ B', B' ≠ B → w'.heap[B']? = w.heap[B']?) (hsh : ∀ s, w.shape? B = some s → w'.shape? B = some s) (hle : G.lim B ≤ n)
    (hc : ∀ o, o < G.lim B → w'.cell? ⟨B, o, none⟩ = w.cell? ⟨B, o, none⟩)
    (hno : ∀ k p, σ.toks[k]? = some true → G.tok k = some p → p.1 ≠ B) (hnt : Nt w w') :
    WR (G.setLim B n) σ w' ∧ Ext w G w' (G.setLim B n) := by
  have hl : ∀ B', B' ≠ B → (G.setLim B n).lim B' = G.lim B' := fun B' hB' => by simp [Gh.setLim, hB']
  have e : Ext w G w' (G.setLim B n) := by
    refine ⟨⟨fun _ _ x => x, fun _ _ x => x, fun B' => ?_, fun B' x hx => ?_, fun B' s hs => ?_, Nat.le_refl _, fun B' (hB' : B' < G.fix) => hne B' (by omega), fun B' (hB' : B' < G.fix) => by simp only [Gh.setLim]; rw [if_neg (by omega)], hnt⟩, Nat.le_refl _, fun _ _ h => .inl h⟩
    · by_cases hBB : B' = B
      · subst hBB; simp [Gh.setLim, hle]
      · rw [hl _ hBB]; omega
    · by_cases hBB : B' = B
      · subst hBB; exact hc x hx
      · exact cell?_get (hne B' hBB)
    · by_cases hBB : B' = B
      · subst hBB; exact hsh s hs
      · exact (shape?_get (hne B' hBB)).trans hs
  refine ⟨⟨⟨fun b' B' hB' => ?_, h.inj, fun b' B' hB' => ?_, h.ref, fun B' hB' => ?_, fun k hk => ?_, h.tokinj, h.tokdom, h.top, h.fixm, h.fixt, by rw [hsz]; exact h.fixh⟩, h.full⟩, e⟩
  · obtain ⟨o, h1, h2⟩ := h.box b' B' hB'
    exact ⟨o, h1, h2.ext e (hne B' fun hBB => hm b' (hBB ▸ hB'))⟩
  · rw [hl B' fun hBB => hm b' (hBB ▸ hB'), hsz]; exact h.low b' B' hB'
  · rw [hl B' (by omega)]; exact h.fresh B' (by omega)
  · obtain ⟨B', e', h1, h2, h3, c, t, h4⟩ := h.tok k hk
    have hBB := hno k _ hk h1
    exact ⟨B', e', h1, by rw [hl B' hBB]; exact h2, h3, c, t, (hne B' hBB).trans h4⟩
theorem addr_add {a : Addr} (h : a.spot = none) (n : Nat) : a.add n = ⟨a.block, a.off + n, none⟩ := by
  obtain ⟨b, o, s⟩ := a
  simp only at h; subst h
  simp only [Addr.add]
  split
  · subst n; rfl
  · rfl
theorem run_load {P : Program} {w : World} {a : Addr} {u : Value} (h : w.cell? a = some u) : (load a).run P w = .ok u w := by
  simp [load, Sem.run, h]
theorem run_loadCellsFrom {P : Program} {w : World} {a : Addr} (ha : a.spot = none) : ∀ (n i : Nat) (acc : Array Value) (vs : List Value), vs.length = n →
    (∀ (j : Nat) (u : Value), vs[j]? = some u → w.cell? ⟨a.block, a.off + (i + j), none⟩ = some u) → (loadCellsFrom a i n acc).run P w = .ok (acc ++ vs.toArray) w := by
  intro n
  induction n with
  | zero => intro i acc vs hl h; rw [List.length_eq_zero_iff.1 hl]; simp [loadCellsFrom]
  | succ n ih =>
    intro i acc vs hl h
    match vs, hl with
    | v :: vs, hl =>
      simp only [loadCellsFrom, Sem.run_bind, addr_add ha]
      have h0 := h 0 v rfl
      rw [Nat.add_zero] at h0
      rw [run_load h0]
      simp only [Result.andThen]
      rw [ih (i + 1) (acc.push v) vs (by simpa using hl) fun j u hj => by
        have := h (j + 1) u (by simpa using hj)
        rwa [show i + (j + 1) = i + 1 + j by omega] at this]
      simp
theorem run_loadCells {P : Program} {w : World} {a : Addr} (ha : a.spot = none) {n : Nat} {vs : List Value} (hl : vs.length = n)
    (h : ∀ (j : Nat) (u : Value), vs[j]? = some u → w.cell? ⟨a.block, a.off + j, none⟩ = some u) : (loadCells a n).run P w = .ok vs.toArray w := by
  have := run_loadCellsFrom (P := P) (w := w) ha n 0 #[] vs hl (by simpa using h)
  simpa [loadCells] using this
def putCells (c : Array Value) (o : Nat) : List Value → Array Value
  | [] => c
  | v :: vs => putCells (c.setIfInBounds o v) (o + 1) vs
theorem putCells_size (vs : List Value) : ∀ (c : Array Value) (o : Nat), (putCells c o vs).size = c.size := by
  induction vs with
  | nil => intro c o; rfl
  | cons v vs ih => intro c o; simp [putCells, ih]
theorem putCells_get (vs : List Value) : ∀ (c : Array Value) (o j : Nat), o + vs.length ≤ c.size →
    (putCells c o vs)[j]? = if o ≤ j ∧ j < o + vs.length then vs[j - o]? else c[j]? := by
  induction vs with
  | nil => intro c o j h; simp only [putCells, List.length_nil]; rw [if_neg (by omega)]
  | cons v vs ih =>
    intro c o j h
    simp only [List.length_cons] at h ⊢
    simp only [putCells]
    rw [ih _ _ _ (by simp; omega)]
    by_cases h1 : o + 1 ≤ j ∧ j < o + 1 + vs.length
    · rw [if_pos h1, if_pos (by omega)]
      rw [show j - o = (j - (o + 1)) + 1 by omega]; simp
    · rw [if_neg h1]
      by_cases h2 : j = o
      · subst h2; rw [if_pos (by omega)]; simp [Array.getElem?_setIfInBounds, show j < c.size by omega]
      · rw [if_neg (by omega)]; simp [Array.getElem?_setIfInBounds, Ne.symm h2]
def Value.scalar' : Value → Bool
  | .agg _ => false
  | .tuple _ => false
  | _ => true
theorem scalar_of {w : World} {G : Gh} {x : LV} {v : Value} (h : VR w G x v) (hs : x.scalar = true) : Value.scalar' v = true := by
  cases h <;> first | rfl | simp [LV.scalar] at hs
def setHeap (w : World) (B : Nat) (o : Obj) : World := { w with heap := w.heap.setIfInBounds B o }
theorem setHeap_get {w : World} {B : Nat} {o o' : Obj} (h : w.heap[B]? = some o') : (setHeap w B o).heap[B]? = some o := by
  simp [setHeap, Array.getElem?_setIfInBounds, heap_lt h]
theorem setHeap_ne {w : World} {B B' : Nat} {o : Obj} (h : B' ≠ B) : (setHeap w B o).heap[B']? = w.heap[B']? := by
  simp [setHeap, Array.getElem?_setIfInBounds, Ne.symm h]
theorem Nt.set {w : World} {B : Nat} {c c' : Array Value} {t t' : TypeId} {fr : Nat × Nat} (h : w.heap[B]? = some (.cells c t fr)) : Nt w (setHeap w B (.cells c' t' fr)) := by
  refine ⟨rfl, rfl, fun a => ?_⟩
  by_cases e : a.block = B
  · subst e
    simp only [World.frozen?, setHeap_get h, h]
  · simp only [World.frozen?, setHeap_ne e]
theorem setHeap_size (w : World) (B : Nat) (o : Obj) : (setHeap w B o).heap.size = w.heap.size := by simp [setHeap]
theorem run_store {P : Program} {w : World} {B o : Nat} {c : Array Value} {t : TypeId} {v : Value} (hB : w.heap[B]? = some (.cells c t (0, 0))) (ho : o < c.size) (hs : Value.scalar' v = true) :
    (store ⟨B, o, none⟩ v).run P w = .ok () (setHeap w B (.cells (c.setIfInBounds o v) t (0, 0))) := by
  have hc : w.cell? ⟨B, o, none⟩ = some c[o] := by simp [World.cell?, hB, ho]
  have hf : w.frozen? ⟨B, o, none⟩ = false := by simp [World.frozen?, hB]
  have hset : w.setCell ⟨B, o, none⟩ v = setHeap w B (.cells (c.setIfInBounds o v) t (0, 0)) := by
    simp only [World.setCell, setHeap]
    congr 1
    apply Array.ext
    · simp
    · intro i h1 h2
      have hlt := heap_lt hB
      have hB' : w.heap[B] = .cells c t (0, 0) := by
        have := hB; rw [Array.getElem?_eq_getElem hlt] at this; injection this
      by_cases hi : B = i
      · subst hi; simp [Array.getElem_modify, hB']
      · simp only [Array.getElem_modify, if_neg hi]; rw [Array.getElem_setIfInBounds_ne _ hi]
  cases v <;> first | (simp [Value.scalar'] at hs; done) | simp [store, Sem.run, hc, hf, hset]
theorem run_storeCells {P : Program} (vs : List Value) : ∀ {w : World} {B o i : Nat} {c : Array Value} {t : TypeId}, w.heap[B]? = some (.cells c t (0, 0)) → o + i + vs.length ≤ c.size → (∀ v ∈ vs, Value.scalar' v = true) →
    (storeCells ⟨B, o, none⟩ vs i).run P w = .ok () (setHeap w B (.cells (putCells c (o + i) vs) t (0, 0))) := by
  induction vs with
  | nil =>
    intro w B o i c t hB hl hs
    simp only [storeCells, putCells]
    have : setHeap w B (.cells c t (0, 0)) = w := by
      simp only [setHeap]
      have hlt := heap_lt hB
      have hB' : w.heap[B] = .cells c t (0, 0) := by
        have := hB; rw [Array.getElem?_eq_getElem hlt] at this; injection this
      have : w.heap.setIfInBounds B (.cells c t (0, 0)) = w.heap := by
        apply Array.ext
        · simp
        · intro j h1 h2
          by_cases hj : B = j
          · subst hj; simp [hB']
          · rw [Array.getElem_setIfInBounds_ne _ hj]
      rw [this]
    rw [this]; rfl
  | cons v vs ih =>
    intro w B o i c t hB hl hs
    simp only [List.length_cons] at hl
    simp only [storeCells, Sem.run_bind, addr_add (a := ⟨B, o, none⟩) rfl]
    rw [run_store hB (by omega) (hs v (by simp))]
    simp only [Result.andThen]
    rw [ih (c := c.setIfInBounds (o + i) v) (t := t) (setHeap_get hB) (by simp; omega) (fun u hu => hs u (by simp [hu]))]
    simp [putCells, setHeap, Nat.add_assoc]
end Go.Lg
end
