/-
 From a program's Code to the small machine's: types resolved, regions whose order is open looked at. Of no program.
-/
import Derived.Test.YtalknjppnkpmmaaDoorAi1
namespace Go.Proofs.YtalknjppnkpmmaaDoorW.Ai
def opdOk : Operand → Bool
 | .const v => flatV v
 | .global _ => false
 | _ => true
namespace Rs
variable (P : Program)
def size (t : TypeId) : Option Nat := (P.info? t).map (·.size)
def bytes (t : TypeId) : Option Nat := (P.info? t).map (·.bytes)
def aggN (t : TypeId) : Option (Option Nat) :=
 match P.underlying t with
 | some (.struct _) | some (.array _ _) => (size P t).map some
 | some _ => some none
 | none => none
def zero (t : TypeId) : Option (List Value) :=
 match (P.info? t).bind (·.zero), size P t with
 | some v, some n => if v.cells.size = n ∧ (v.cells.toList.all fun c => flat c && cellOk c) = true then some v.cells.toList else none
 | _, _ => none
def zero1 (t : TypeId) : Option Value :=
 match (P.info? t).bind (·.zero) with
 | some v => if flat v ∧ cellOk v = true then some v else none
 | _ => none
def kindsF (kd : TypeId → Option (List Nat)) : List Field → Nat → Option (List Nat)
 | [], _ => some []
 | f :: r, o => if f.offset = o ∧ (f.name == "_") = false then (kd f.type).bind fun ks => if aggN P f.type = some (some ks.length) ∧ 0 < ks.length ∨ aggN P f.type = some none ∧ ks.length = 1 then (kindsF kd r (o + ks.length)).map fun l => ks ++ l else none else none
def kinds : Nat → TypeId → Option (List Nat)
 | 0, _ => none
 | d + 1, t =>
  match P.underlying t with
  | some .bool => some [0]
  | some (.int _) => some [1]
  | some .string => some [2]
  | some (.struct fs) => if P.stoodInHeld t = false then kindsF P (kinds d) fs.toList 0 else none
  | _ => none
def eqKinds (t : TypeId) : Option (List Nat) := if P.eqGuardType P.depth t = false then kinds P 8 t else none
def nilKind (t : TypeId) : Option Nat :=
 match P.underlying t with
 | some (.slice _) => some 0
 | some (.pointer _) => some 1
 | some (.map _ _) => some 2
 | some (.func _ _ _) => some 3
 | some (.interface _) => some 4
 | _ => none
def isNilConst : Nat → Operand → Bool
 | 0, .const (.slice none 0 0) => true
 | 1, .const (.pointer none) => true
 | 2, .const (.map none) => true
 | 3, .const .nilFunc => true
 | 4, .const .nilIface => true
 | _, _ => false
def keyOk (t : TypeId) : Option Nat :=
 match P.underlying t with
 | some (.int _) => some 1
 | some .string => some 2
 | _ => none
def elemOfSlice (t : TypeId) : Option TypeId :=
 match P.underlying t with
 | some (.slice e) => some e
 | _ => none
def eqOp (neg : Bool) (op : BinOp) (xt : TypeId) (x y : Operand) : Option ROp :=
 match P.underlying xt with
 | some (.int _) | some .string => some (.bin op x y)
 | some .bool => some (.eq neg none x y)
 | some (.struct _) => (eqKinds P xt).map fun ks => .eq neg (some ks) x y
 | _ => (nilKind P xt).bind fun k => if isNilConst k y then some (.isNil neg k x) else if isNilConst k x then some (.isNil neg k y) else none
def builtin (b : Builtin) (args : List Operand) (ts : Array TypeId) : Option ROp :=
 match b, args with
 | .append, [s, x] =>
  match ts[0]?, ts[1]? with
  | some t, some u => (elemOfSlice P t).bind fun e => (size P e).bind fun n => (bytes P e).bind fun by_ =>
   if 0 < n ∧ 0 < by_ then
    match P.underlying u with
    | some (.int _) => (zero P e).map fun z => .appendZeros z by_ s x
    | some .string | some (.slice _) => (zero P e).map fun _ => .append n by_ s x
    | _ => none
   else none
  | _, _ => none
 | .len, [x] =>
  match ts[0]? with
  | some t => match P.underlying t with
   | some .string => some (.len 0 x)
   | some (.slice _) => some (.len 1 x)
   | some (.map _ _) => some (.len 2 x)
   | some (.array n _) => some (.lenArr n)
   | some (.pointer a) => match P.underlying a with | some (.array n _) => some (.lenArr n) | _ => none
   | _ => none
  | _ => none
 | .cap, [x] => match ts[0]? with
  | some t => (elemOfSlice P t).map fun _ => .cap x
  | _ => none
 | .copy, [d, s] => match ts[0]? with
  | some t => (elemOfSlice P t).bind fun e => (size P e).map fun n => .copy n d s
  | _ => none
 | .min, xs => some (.minmax false xs)
 | .max, xs => some (.minmax true xs)
 | .clear, [x] => match ts[0]? with
  | some t => (elemOfSlice P t).bind fun e => (zero P e).map fun z => .clear z x
  | _ => none
 | _, _ => none
def rop (o : Op) : Option ROp :=
 if o.operands.toList.all opdOk then
 match o with
 | .move x | .assign x => some (.mv x)
 | .pick c a b => some (.pick c a b)
 | .alloc e => (zero P e).map .new
 | .box _ x => some (.box x)
 | .build t ps =>
  match P.underlying t with
  | some (.struct fs) => if (fs.toList.all fun f => (size P f.type).isSome) = false then none else (zero P t).bind fun z => (ps.toList.mapM fun (p : Nat × Operand) => (fs[p.1]?).bind fun f => (size P f.type).map fun n => (f.offset, n, p.2)).map fun l => .build z l
  | some (.array _ e) => (zero P t).bind fun z => (size P e).map fun n => .build z (ps.toList.map fun p => (p.1 * n, n, p.2))
  | _ => none
 | .buildSlice t len ps => (elemOfSlice P t).bind fun e => (zero P e).bind fun z => if 0 < z.length ∧ len * z.length ≤ 2 ^ 24 then some (.buildSlice (reps z len) len (ps.toList.map fun p => (p.1 * z.length, z.length, p.2))) else none
 | .load t a => (aggN P t).map fun n => .load n a
 | .store t a v => (size P t).map fun n => .store n a v
 | .nilCheck x => some (.nilCheck x)
 | .binOp .eql xt x y _ => eqOp P false .eql xt x y
 | .binOp .neq xt x y _ => eqOp P true .neq xt x y
 | .binOp op _ x y _ => some (.bin op x y)
 | .unOp op _ x => some (.un op x)
 | .convert s d x =>
  match P.underlying s, P.underlying d with
  | some _, some (.int k) => some (.conv k x)
  | some .string, some .string => some (.convStr x)
  | some (.slice e), some .string => match P.underlying e with | some (.int .u8) => some (.bytesStr x) | _ => none
  | _, _ => none
 | .makeInterface t x => match P.underlying t with | some (.interface _) | none => none | _ => some (.iface t x)
 | .makeFunc fn a b => some (.func fn a.toList b.toList)
 | .makeMap _ none => some .mkMap
 | .makeSlice t l c => (elemOfSlice P t).bind fun e => (zero P e).bind fun z => (bytes P e).bind fun b => if 0 < z.length ∧ 0 < b then some (.mkSlice z b l c) else none
 | .slice t x lo hi mx =>
  match P.underlying t with
  | some .string => if mx.isNone then some (.sliceStr x lo hi) else none
  | some (.slice e) => (size P e).map fun n => .slice n x lo hi mx
  | some (.pointer a) => match P.underlying a with | some (.array n e) => (size P e).map fun s => .sliceArr n s x lo hi mx | _ => none
  | some (.array n e) => (size P e).map fun s => .sliceArr n s x lo hi mx
  | _ => none
 | .fieldAddr t x i =>
  match P.underlying t with
  | some (.struct fs) => (fs[i]?).bind fun f => (size P f.type).bind fun n => if n = 0 then none else some (.fieldAddr f.offset x)
  | _ => none
 | .field t x i =>
  match P.underlying t with
  | some (.struct fs) => (fs[i]?).bind fun f => (aggN P f.type).map fun n => .field f.offset n x
  | _ => none
 | .indexAddr t x i =>
  match P.underlying t with
  | some (.array n e) => (size P e).map fun s => .idxAddrArr n s x i
  | some (.slice e) => (size P e).map fun s => .idxAddr s x i
  | _ => none
 | .index t x i =>
  match P.underlying t with
  | some (.array n e) => (size P e).bind fun s => (aggN P e).map fun w => .idxArr n s w x i
  | some .string => some (.idxStr x i)
  | _ => none
 | .lookup t m k ok =>
  match P.underlying t with
  | some (.map kt et) => (keyOk P kt).bind fun kk => (zero1 P et).map fun z => .lookup kk z ok m k
  | _ => none
 | .mapUpdate t m k v | .insert t m k v =>
  match P.underlying t with
  | some (.map kt _) => (keyOk P kt).map fun kk => .mapSet kk m k v
  | _ => none
 | .extract x i => some (.extract x i)
 | .call c => match c.callee with
  | .value f => some (.call f c.args.toList)
  | .builtin b => builtin P b c.args.toList c.argTypes
  | .invoke _ _ => none
 | _ => none
 else none
def ropT (o : Op) : ROp := (rop P o).getD .fail
def rguard (ops : Array Oper) (o : Oper) : Option (Option (Nat × Bool)) :=
 match o.guard with
 | none => some none
 | some (j, b) => match (ops[j]?).bind (·.dst) with
  | some t => some (some (t, b))
  | none => none
def dstOk (nt : Nat) : Option Nat → Bool
 | some d => decide (d < nt)
 | none => true
def ropers (ntmps : Nat) (ops : Array Oper) (q : Nat → Bool) (av : Nat → List Operand) : List (Oper × Nat) → Option (List RO)
 | [] => some []
 | (o, i) :: r => (rguard ops o).bind fun g =>
   if dstOk ntmps o.dst = true then (ropers ntmps ops q av r).map fun l => ⟨o.dst, ropT P o.op, g, q i, av i⟩ :: l else none
/-! #### regions whose order is open -/
def ancs (ops : List Oper) : List (List Nat) :=
 ops.foldl (fun acc o => acc ++ [((o.after.toList.filter fun e => Region.binds .any e).flatMap fun e => e.on :: acc.getD e.on []).eraseDups]) []
def isAnc (A : List (List Nat)) (j i : Nat) : Bool := (A.getD i []).contains j
def opAt (ops : Array Oper) (i : Nat) : ROp :=
 match ops[i]? with
 | some o => ropT P o.op
 | none => .fail
def npures (ops : Array Oper) : List Nat := (List.range ops.size).filter fun i => !(opAt P ops i).pure
def floats (A : List (List Nat)) (ops : Array Oper) : List Nat :=
 let np := npures P ops
 let f1 := np.filter fun j => (opAt P ops j).loadOf.isSome && np.any fun k => (opAt P ops k).writes && decide (j < k) && !isAnc A j k
 if f1.isEmpty then [] else
 np.filter fun j => (opAt P ops j).loadOf.isSome && (f1.contains j || f1.any fun k => decide (j < k) && !isAnc A j k)
def heavies (A : List (List Nat)) (ops : Array Oper) : List Nat :=
 let fl := floats P A ops
 (npures P ops).filter fun j => !fl.contains j
def barrier (A : List (List Nat)) (hv : List Nat) (i : Nat) : Bool := hv.all fun j => if j < i then isAnc A j i else if i < j then isAnc A i j else true
def unwritten (ops : Array Oper) (j i : Nat) : Operand → Bool
 | .tmp t => (List.range ops.size).all fun k => !(decide (j ≤ k) && decide (k < i)) || match ops[k]? with | some o => o.dst != some t | none => true
 | _ => true
def avoid (A : List (List Nat)) (ops : Array Oper) (i : Nat) : List Operand :=
 let hv := heavies P A ops
 if hv.contains i && barrier A hv i then (floats P A ops).filterMap fun j => if j < i && !isAnc A j i then (opAt P ops j).loadOf else none else []
def floatOk (A : List (List Nat)) (ops : Array Oper) : Bool :=
 let hv := heavies P A ops
 (floats P A ops).all fun j => match (opAt P ops j).loadOf with
  | some x => hv.all fun i => !barrier A hv i || (if i < j then isAnc A i j else isAnc A j i || unwritten ops j i x)
  | none => false
def dataOk (A : List (List Nat)) (ops : Array Oper) : Bool :=
 (List.range ops.size).all fun i => (List.range ops.size).all fun j =>
  match ops[i]?, ops[j]? with
  | some oi, some oj => match oj.dst with
   | some t => (i == j || oi.dst != some t) && (!(oi.looksAt ops).contains t || isAnc A j i || isAnc A i j || i == j)
   | none => true
  | _, _ => true
def ancsOk (A : List (List Nat)) (ops : Array Oper) : Bool :=
 A.length == ops.size && (List.range ops.size).all fun i => match ops[i]? with
  | some o => (o.after.toList.all fun e => !Region.binds .any e || decide (e.on < i)) &&
    (A.getD i []).all fun j => o.after.toList.any fun e => Region.binds .any e && (e.on == j || isAnc A j e.on)
  | none => true
def code (nt : Nat) : Code → Option RC
 | .skip => some .skip
 | .label _ => some .skip
 | .region _ ops false => some (((ropers P nt ops (fun _ => false) (fun _ => []) ops.toList.zipIdx).map RC.ops).getD .fail)
 | .region _ ops true =>
  let A := ancs ops.toList
  if ancsOk A ops && dataOk A ops && floatOk P A ops then some (((ropers P nt ops (fun i => !barrier A (heavies P A ops) i) (avoid P A ops) ops.toList.zipIdx).map RC.ops).getD .fail) else some .fail
 | .seq a b => (code nt a).bind fun a => (code nt b).map fun b => .seq a b
 | .cond c a b => if opdOk c then (code nt a).bind fun a => (code nt b).map fun b => .cond c a b else some .fail
 | .block id a => (code nt a).map fun a => .block id a
 | .loop a => (code nt a).map fun a => .loop a
 | .scope a => some .fail
 | .exit id => some (.exit id)
 | .ret => some .ret
 | _ => some .fail
def res : ResultVar → Option RRes
 | .tmp t => some (.tmp t)
 | .cell t ty => (aggN P ty).map fun n => .cell t n
def func (f : FuncId) : Option RFunc :=
 match P.funcs[f]? with
 | none => none
 | some fn => if fn.name == "runtime.NumGoroutine" then none else
  match fn.body with
  | none => none
  | some c => (code P fn.ntmps c).bind fun b => (fn.results.toList.mapM (res P)).map fun r => ⟨fn.ntmps, r, b⟩
end Rs
end Go.Proofs.YtalknjppnkpmmaaDoorW.Ai
set_option linter.unusedVariables false
set_option linter.unusedSimpArgs false
