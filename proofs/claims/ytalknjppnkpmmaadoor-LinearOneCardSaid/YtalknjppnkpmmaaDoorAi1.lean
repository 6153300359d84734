/-
 A small deterministic machine for Go code: blocks are places in a list, types are resolved, whatever order Go leaves open is taken in the order of the text.
 This text: its definitions. Of no program.
-/
import Derived.Calls
import Derived.Orders
set_option linter.unusedVariables false
set_option linter.unusedSimpArgs false
namespace Go.Proofs.YtalknjppnkpmmaaDoorW.Ai
section
inductive Blk where
 | cells (cs : List Value)
 | map (es : List (Value × Value))
 | dead
 deriving Inhabited
abbrev AH := List Blk
abbrev Env := Nat → Value
inductive ROp where
 | mv (x : Operand)
 | pick (c a b : Operand)
 | new (cs : List Value)
 | box (x : Operand)
 | build (zero : List Value) (parts : List (Nat × Nat × Operand))
 | buildSlice (zero : List Value) (len : Nat) (parts : List (Nat × Nat × Operand))
 | load (n : Option Nat) (a : Operand)
 | store (n : Nat) (a v : Operand)
 | nilCheck (x : Operand)
 | bin (op : BinOp) (x y : Operand)
 | eq (neg : Bool) (ks : Option (List Nat)) (x y : Operand)
 | isNil (neg : Bool) (kind : Nat) (x : Operand)
 | un (op : UnOp) (x : Operand)
 | conv (k : IntKind) (x : Operand)
 | convStr (x : Operand)
 | bytesStr (x : Operand)
 | iface (t : TypeId) (x : Operand)
 | func (fn : Fn) (first captured : List Operand)
 | mkMap
 | mkSlice (zero : List Value) (bytes : Nat) (len cap : Operand)
 | slice (size : Nat) (x : Operand) (lo hi mx : Option Operand)
 | sliceArr (len size : Nat) (x : Operand) (lo hi mx : Option Operand)
 | sliceStr (x : Operand) (lo hi : Option Operand)
 | fieldAddr (off : Nat) (x : Operand)
 | field (off : Nat) (n : Option Nat) (x : Operand)
 | idxAddr (size : Nat) (x i : Operand)
 | idxAddrArr (len size : Nat) (x i : Operand)
 | idxArr (len size : Nat) (n : Option Nat) (x i : Operand)
 | idxStr (x i : Operand)
 | lookup (kk : Nat) (zero : Value) (ok : Bool) (m k : Operand)
 | mapSet (kk : Nat) (m k v : Operand)
 | extract (x : Operand) (i : Nat)
 | call (f : Operand) (args : List Operand)
 | append (size bytes : Nat) (s x : Operand)
 | appendZeros (zero : List Value) (bytes : Nat) (s x : Operand)
 | len (kind : Nat) (x : Operand)
 | lenArr (n : Nat)
 | cap (x : Operand)
 | fail
 | copy (size : Nat) (d s : Operand)
 | minmax (mx : Bool) (xs : List Operand)
 | clear (zero : List Value) (x : Operand)
structure RO where
 dst : Option Nat
 op : ROp
 guard : Option (Nat × Bool)
 q : Bool
 av : List Operand
inductive RC where
 | skip
 | ops (l : List RO)
 | seq (a b : RC)
 | cond (c : Operand) (a b : RC)
 | block (id : Nat) (a : RC)
 | loop (a : RC)
 | exit (id : Nat)
 | ret
 | fail
inductive RRes where
 | tmp (t : Nat)
 | cell (t : Nat) (n : Option Nat)
structure RFunc where
 ntmps : Nat
 results : List RRes
 body : RC
/-! ### The machine -/
def cellOk : Value → Bool
 | .agg _ | .tuple _ => false
 | _ => true
def flat : Value → Bool
 | .bool _ | .int _ _ | .string _ | .nilIface | .nilFunc | .pointer none | .slice none 0 0 | .map none => true
 | .func _ a b => a.isEmpty && b.isEmpty
 | _ => false
def flatV : Value → Bool
 | .agg cs => cs.toList.all flat
 | .tuple cs => cs.isEmpty
 | v => flat v
def ev (e : Env) : Operand → Value
 | .tmp t => e t
 | .const v => v
 | .global _ => undef
 | .func f => .func (.func f) #[] #[]
def upd (e : Env) (d : Option Nat) (v : Value) : Env :=
 match d with
 | some d => fun t => if t = d then v else e t
 | none => e
def cellsOf (h : AH) (b : Nat) : Option (List Value) :=
 match h[b]? with
 | some (.cells cs) => some cs
 | _ => none
def loadAt (n : Option Nat) (cs : List Value) (o : Nat) : Option Value :=
 match n with
 | none => cs[o]?
 | some n => if o + n ≤ cs.length then some (.agg ((cs.drop o).take n).toArray) else none
def aLoad (n : Option Nat) (h : AH) : Value → Option Value
 | .pointer (some ⟨b, o, none⟩) => (cellsOf h b).bind fun cs => loadAt n cs o
 | _ => none
def over (cs : List Value) (o : Nat) (vs : List Value) : List Value := cs.take o ++ vs ++ cs.drop (o + vs.length)
def aWrite (lim : Nat) (h : AH) (b o : Nat) (vs : List Value) : Option AH :=
 if vs = [] then some h else
 if lim ≤ b ∧ vs.all cellOk = true then
  (cellsOf h b).bind fun cs => if o + vs.length ≤ cs.length then some (h.set b (.cells (over cs o vs))) else none
 else none
def aStore (lim n : Nat) (h : AH) : Value → Value → Option AH
 | .pointer (some ⟨b, o, none⟩), v => if v.cells.size = n then aWrite lim h b o v.cells.toList else none
 | _, _ => none
def aBox (h : AH) (v : Value) : Option (Value × AH) :=
 if v.cells.toList.all cellOk then some (.pointer (some ⟨h.length, 0, none⟩), h ++ [.cells v.cells.toList]) else none
def aFill (e : Env) (cells : List Value) : List (Nat × Nat × Operand) → Option (List Value)
 | [] => some cells
 | (off, size, x) :: rest =>
  let v := ev e x
  if v.cells.size ≠ size ∨ off + size > cells.length then none else aFill e (over cells off v.cells.toList) rest
def aBin (op : BinOp) : Value → Value → Option Value
 | .int k a, .int k' b =>
  match op with
  | .shl => if b < 0 then none else some (.int k (k.wrap (a * 2 ^ (min b.toNat k.bits))))
  | .shr => if b < 0 then none else some (.int k (a.fdiv (2 ^ (min b.toNat k.bits))))
  | op => if k = k' then
   match op with
   | .add => some (.int k (k.wrap (a + b)))
   | .sub => some (.int k (k.wrap (a - b)))
   | .mul => some (.int k (k.wrap (a * b)))
   | .quo => if b = 0 then none else some (.int k (k.wrap (a.tdiv b)))
   | .rem => if b = 0 then none else some (.int k (a.tmod b))
   | .and => some (.int k (k.wrap (BitVec.ofInt k.bits a &&& BitVec.ofInt k.bits b).toNat))
   | .or => some (.int k (k.wrap (BitVec.ofInt k.bits a ||| BitVec.ofInt k.bits b).toNat))
   | .xor => some (.int k (k.wrap (BitVec.ofInt k.bits a ^^^ BitVec.ofInt k.bits b).toNat))
   | .eql => some (.bool (a == b))
   | .neq => some (.bool (a != b))
   | .lss => some (.bool (a < b))
   | .leq => some (.bool (a ≤ b))
   | .gtr => some (.bool (a > b))
   | .geq => some (.bool (a ≥ b))
   | _ => none
   else none
 | .string a, .string b =>
  match op with
  | .add => if ((a.size + b.size : Nat) : Int) > IntKind.i64.max then none else some (.string (a ++ b))
  | .eql => some (.bool (a.toList == b.toList))
  | .neq => some (.bool !(a.toList == b.toList))
  | _ => none
 | _, _ => none
def eqK : Nat → Value → Value → Option Bool
 | 0, .bool a, .bool b => some (a == b)
 | 1, .int k a, .int k' b => if k = k' then some (a == b) else none
 | 2, .string a, .string b => some (a == b)
 | _, _, _ => none
def eqKs : List Nat → List Value → List Value → Option Bool
 | [], [], [] => some true
 | k :: ks, x :: xs, y :: ys => (eqK k x y).bind fun b => (eqKs ks xs ys).map fun c => b && c
 | _, _, _ => none
def aEq : Option (List Nat) → Value → Value → Option Bool
 | none, x, y => eqK 0 x y
 | some ks, .agg xs, .agg ys => eqKs ks xs.toList ys.toList
 | _, _, _ => none
def aIsNil : Nat → Value → Option Bool
 | 0, .slice a _ _ => some a.isNone
 | 1, .pointer a => some a.isNone
 | 2, .map a => some a.isNone
 | 3, .nilFunc => some true
 | 3, .func .. => some false
 | 4, .nilIface => some true
 | 4, .iface .. => some false
 | _, _ => none
def aUn (op : UnOp) : Value → Option Value
 | .bool b => match op with | .not => some (.bool !b) | _ => none
 | .int k n => match op with | .neg => some (.int k (k.wrap (0 - n))) | _ => none
 | _ => none
def aBytes : List Value → Option (List UInt8)
 | [] => some []
 | .int .u8 n :: r => (aBytes r).map fun l => UInt8.ofNat n.toNat :: l
 | _ => none
def aElems (size : Nat) (h : AH) (n : Nat) : Value → Option (List Value)
 | .slice none _ _ => some []
 | .slice (some ⟨b, o, _⟩) _ c => if n ≤ c then if n * size = 0 then some [] else (cellsOf h b).bind fun cs => if o + n * size ≤ cs.length then some ((cs.drop o).take (n * size)) else none else none
 | .string s => if size = 1 then some (((s.extract 0 n).data.map fun b => Value.int .u8 b.toNat).toList) else none
 | _ => none
def aLen : Value → Option Nat
 | .slice _ n _ => some n
 | .string s => some s.size
 | _ => none
def bound (x : Option Value) (d y : Nat) : Option Nat :=
 match x with
 | none => some d
 | some (.int _ i) => if 0 ≤ i ∧ i ≤ (y : Int) then some i.toNat else none
 | some _ => none
def aCut (b o : Nat) (m : Option Nat) (n c size : Nat) (lo hi mx : Option Value) : Option Value :=
 match mx with
 | none => (bound hi n c).bind fun h => (bound lo 0 h).bind fun l => some (.slice (some ⟨b, o + l * size, m⟩) (h - l) (c - l))
 | some mx => match hi with
  | none => none
  | some hi => (bound (some mx) 0 c).bind fun x => (bound (some hi) 0 x).bind fun h => (bound lo 0 h).bind fun l => some (.slice (some ⟨b, o + l * size, none⟩) (h - l) (x - l))
def aSlice (size : Nat) (x : Value) (lo hi mx : Option Value) : Option Value :=
 match x with
 | .slice none n c => (aCut 0 0 none n c size lo hi mx).bind fun _ => some (.slice none 0 0)
 | .slice (some ⟨b, o, m⟩) n c => if m = none ∨ m = some size then aCut b o m n c size lo hi mx else none
 | _ => none
def aAppend (lim size bytes : Nat) (h : AH) (s : Value) (n : Nat) (news : List Value) : Option (Value × AH) :=
 match s with
 | .slice a len cap =>
  if len + n ≤ cap then
   match a with
   | none => some (.slice none 0 0, h)
   | some ⟨b, o, m⟩ => (aWrite lim h b (o + len * size) news).map fun h => (.slice (some ⟨b, o, m⟩) (len + n) cap, h)
  else if (len + n + (len + n) / 4 + 768) * bytes ≤ 2 ^ 48 ∧ len + n < 2 ^ 62 ∧ 0 < bytes ∧ news.all cellOk = true then
   (aElems size h len s).bind fun old =>
    match a with
    | none => some (.slice (some ⟨h.length, 0, some size⟩) (len + n) (len + n), h ++ [.cells (old ++ news)])
    | some ⟨_, _, none⟩ => some (.slice (some ⟨h.length, 0, some size⟩) (len + n) (len + n), h ++ [.cells (old ++ news)])
    | some ⟨b, o, some z⟩ => if lim ≤ b ∧ z = size then
      (cellsOf h b).bind fun cs => if cs.length ≤ o + cap * size then some (.slice (some ⟨h.length, 0, some size⟩) (len + n) (len + n), h.set b .dead ++ [.cells (old ++ news)]) else none
     else none
  else none
 | _ => none
def reps (zero : List Value) : Nat → List Value
 | 0 => []
 | n + 1 => zero ++ reps zero n
def mapFind (kk : Nat) (k : Value) : List (Value × Value) → Option (Option Value)
 | [] => some none
 | (k', v) :: r => match eqK kk k k' with
  | some true => some (some v)
  | some false => mapFind kk k r
  | none => none
def mapPut (kk : Nat) (k v : Value) : List (Value × Value) → List (Value × Value)
 | [] => [(k, v)]
 | (k', v') :: r => if eqK kk k k' = some true then (k, v) :: r else (k', v') :: mapPut kk k v r
def lookV (zero : Value) (ok : Bool) : Option Value → Value
 | some v => if ok then .tuple #[v, .bool true] else v
 | none => if ok then .tuple #[zero, .bool false] else zero
def minmax2 (mx : Bool) : Value → Value → Option Value
 | .int k x, .int _ y => some (.int k (if mx then (if y > x then y else x) else (if y < x then y else x)))
 | _, _ => none
abbrev Callee := Nat → FuncId → List Value → AH → Option (Value × AH)
def aop (call : Callee) (lim : Nat) (e : Env) (h : AH) : ROp → Option (Value × AH)
 | .mv x => some (ev e x, h)
 | .pick c a b => match ev e c with | .bool t => some (if t then ev e a else ev e b, h) | _ => none
 | .new cs => some (.pointer (some ⟨h.length, 0, none⟩), h ++ [.cells cs])
 | .box x => aBox h (ev e x)
 | .build zero parts => (aFill e zero parts).map fun cs => (.agg cs.toArray, h)
 | .buildSlice zero len parts => (aFill e zero parts).bind fun cs => if cs.all cellOk then some (.slice (some ⟨h.length, 0, none⟩) len len, h ++ [.cells cs]) else none
 | .load n a => (aLoad n h (ev e a)).map fun v => (v, h)
 | .store n a v => (aStore lim n h (ev e a) (ev e v)).map fun h => (undef, h)
 | .nilCheck x => match ev e x with
  | .pointer (some a) => some (.pointer (some a), h)
  | .func (.func f) a b => some (.func (.func f) a b, h)
  | _ => none
 | .bin op x y => (aBin op (ev e x) (ev e y)).map fun v => (v, h)
 | .eq neg n x y => (aEq n (ev e x) (ev e y)).map fun b => (.bool (if neg then !b else b), h)
 | .isNil neg k x => (aIsNil k (ev e x)).map fun b => (.bool (if neg then !b else b), h)
 | .un op x => (aUn op (ev e x)).map fun v => (v, h)
 | .conv k x => match ev e x with | .int _ n => some (.int k (k.wrap n), h) | _ => none
 | .convStr x => match ev e x with | .string s => some (.string s, h) | _ => none
 | .bytesStr x => match ev e x with
  | .slice a n c => (aElems 1 h n (.slice a n c)).bind fun cs => (aBytes cs).map fun l => (.string ⟨l.toArray⟩, h)
  | _ => none
 | .iface t x => some (.iface t (ev e x), h)
 | .func fn first captured => some (.func fn (first.map (ev e)).toArray (captured.map (ev e)).toArray, h)
 | .mkMap => some (.map (some h.length), h ++ [.map []])
 | .mkSlice zero bytes len cap => match ev e len, ev e cap with
  | .int .i64 l, .int .i64 c => if 0 ≤ l ∧ l ≤ c ∧ bytes * c ≤ 2 ^ 48 ∧ c < 2 ^ 62 then some (.slice (some ⟨h.length, 0, none⟩) l.toNat c.toNat, h ++ [.cells (reps zero c.toNat)]) else none
  | _, _ => none
 | .slice size x lo hi mx => (aSlice size (ev e x) (lo.map (ev e)) (hi.map (ev e)) (mx.map (ev e))).map fun v => (v, h)
 | .sliceArr n size x lo hi mx => match ev e x with
  | .pointer (some ⟨b, o, none⟩) => (aCut b o none n n size (lo.map (ev e)) (hi.map (ev e)) (mx.map (ev e))).map fun v => (v, h)
  | _ => none
 | .sliceStr x lo hi => match ev e x with
  | .string s => (bound (hi.map (ev e)) s.size s.size).bind fun j => (bound (lo.map (ev e)) 0 j).map fun i => (.string (s.extract i j), h)
  | _ => none
 | .fieldAddr off x => match ev e x with
  | .pointer (some ⟨b, o, none⟩) => some (.pointer (some ⟨b, o + off, none⟩), h)
  | _ => none
 | .field off n x => match ev e x with
  | .agg cs => (loadAt n cs.toList off).map fun v => (v, h)
  | _ => none
 | .idxAddr size x i => match ev e x, ev e i with
  | .slice (some ⟨b, o, _⟩) n _, .int _ j => if 0 ≤ j ∧ j < n then some (.pointer (some ⟨b, o + j.toNat * size, none⟩), h) else none
  | _, _ => none
 | .idxAddrArr n size x i => match ev e x, ev e i with
  | .pointer (some ⟨b, o, none⟩), .int _ j => if 0 ≤ j ∧ j < n then some (.pointer (some ⟨b, o + j.toNat * size, none⟩), h) else none
  | _, _ => none
 | .idxArr n size w x i => match ev e x, ev e i with
  | .agg cs, .int _ j => if 0 ≤ j ∧ j < n then (loadAt w cs.toList (j.toNat * size)).map fun v => (v, h) else none
  | _, _ => none
 | .idxStr x i => match ev e x, ev e i with
  | .string s, .int _ j => if 0 ≤ j then (s[j.toNat]?).map fun b => (.int .u8 b.toNat, h) else none
  | _, _ => none
 | .lookup kk zero ok m k => match ev e m with
  | .map none => some (lookV zero ok none, h)
  | .map (some r) => match h[r]? with
   | some (.map es) => (mapFind kk (ev e k) es).map fun v => (lookV zero ok v, h)
   | _ => none
  | _ => none
 | .mapSet kk m k v => match ev e m with
  | .map (some r) => match h[r]? with
   | some (.map es) => if lim ≤ r ∧ (eqK kk (ev e k) (ev e k)).isSome = true ∧ (1 ≤ kk) then (mapFind kk (ev e k) es).map fun _ => (undef, h.set r (.map (mapPut kk (ev e k) (ev e v) es))) else none
   | _ => none
  | _ => none
 | .extract x i => match ev e x with | .tuple vs => (vs[i]?).map fun v => (v, h) | _ => none
 | .call f args => match ev e f with
  | .func (.func g) first captured => call lim g (first.toList ++ args.map (ev e) ++ captured.toList) h
  | _ => none
 | .append size bytes s x => (aLen (ev e x)).bind fun n => (aElems size h n (ev e x)).bind fun news => aAppend lim size bytes h (ev e s) n news
 | .appendZeros zero bytes s x => match ev e x with
  | .int .i64 n => if 0 ≤ n ∧ n < 2 ^ 62 ∧ n * bytes ≤ 2 ^ 48 then aAppend lim zero.length bytes h (ev e s) n.toNat (reps zero n.toNat) else none
  | _ => none
 | .len k x => match k, ev e x with
  | 0, .string s => some (.int .i64 s.size, h)
  | 1, .slice _ n _ => some (.int .i64 n, h)
  | 2, .map none => some (.int .i64 0, h)
  | 2, .map (some r) => match h[r]? with | some (.map es) => some (.int .i64 es.length, h) | _ => none
  | _, _ => none
 | .lenArr n => some (.int .i64 n, h)
 | .cap x => match ev e x with
  | .slice none _ _ => some (.int .i64 0, h)
  | .slice (some ⟨_, _, none⟩) _ c => some (.int .i64 c, h)
  | _ => none
 | .fail => none
 | .copy size d s => match ev e d with
  | .slice a n _ => (aLen (ev e s)).bind fun m => (aElems size h (min m n) (ev e s)).bind fun cs =>
   match a with
   | none => some (.int .i64 (min m n : Nat), h)
   | some ⟨b, o, _⟩ => (aWrite lim h b o cs).map fun h => (.int .i64 (min m n : Nat), h)
  | _ => none
 | .minmax mx xs => match xs.map (ev e) with
  | [] => none
  | x :: r => (r.foldlM (minmax2 mx) x).map fun v => (v, h)
 | .clear zero x => match ev e x with
  | .slice none _ _ => some (.tuple #[], h)
  | .slice (some ⟨b, o, _⟩) n _ => (aWrite lim h b o (reps zero n)).map fun h => (.tuple #[], h)
  | _ => none
def ROp.pure : ROp → Bool
 | .mv _ | .pick .. | .build .. | .nilCheck _ | .bin .. | .eq .. | .isNil .. | .un .. | .conv .. | .convStr _ | .iface .. | .func .. | .slice .. | .sliceArr .. | .sliceStr .. | .fieldAddr .. | .field .. | .idxAddr .. | .idxAddrArr .. | .idxArr .. | .idxStr .. | .extract .. | .lenArr _ | .cap _ | .fail | .minmax .. => true
 | .len k _ => k != 2
 | _ => false
def ROp.loadOf : ROp → Option Operand
 | .load _ x => some x
 | _ => none
def ROp.writes : ROp → Bool
 | .store .. | .append .. => true
 | _ => false
def isBool (b : Bool) : Value → Bool
 | .bool c => b == c
 | _ => false
def wanted (e : Env) (o : RO) : Bool :=
 match o.guard with
 | none => true
 | some (t, b) => isBool b (e t)
def apart (e : Env) (p : ROp) (x : Operand) : Bool :=
 match ev e x with
 | .pointer (some a) => match p with
  | .store _ y _ => match ev e y with
   | .pointer (some b) => b.block != a.block
   | _ => false
  | .append _ _ s _ => match ev e s with
   | .slice (some b) _ _ => b.block != a.block
   | .slice none _ _ => true
   | _ => false
  | .call .. | .copy .. | .clear .. | .mapSet .. | .appendZeros .. => false
  | _ => true
 | _ => false
def aopc (call : Callee) (lim : Nat) (e : Env) (h : AH) (o : RO) : Option (Value × AH) :=
 if (o.av.all (apart e o.op)) = true then aop call (if o.q then h.length else lim) e h o.op else none
def aops (call : Callee) (lim : Nat) : List RO → Env → AH → Option (Env × AH)
 | [], e, h => some (e, h)
 | o :: l, e, h =>
  if wanted e o then (aopc call lim e h o).bind fun r => aops call lim l (upd e o.dst r.1) r.2
  else aops call lim l (upd e o.dst undef) h
inductive XT where
 | normal
 | exit (id : Nat)
 | ret
 deriving DecidableEq
abbrev Out := Option (XT × Env × AH)
def aloop (body : Env → AH → Out) : Nat → Env → AH → Out
 | 0, _, _ => none
 | n + 1, e, h => (body e h).bind fun r => match r.1 with
  | .normal => aloop body n r.2.1 r.2.2
  | _ => some r
def acode (call : Callee) (n lim : Nat) : RC → Env → AH → Out
 | .skip, e, h => some (.normal, e, h)
 | .ops l, e, h => (aops call lim l e h).map fun r => (.normal, r.1, r.2)
 | .seq a b, e, h => (acode call n lim a e h).bind fun r => match r.1 with
  | .normal => acode call n lim b r.2.1 r.2.2
  | _ => some r
 | .cond c a b, e, h => match ev e c with
  | .bool t => if t then acode call n lim a e h else acode call n lim b e h
  | _ => none
 | .block id a, e, h => (acode call n lim a e h).map fun r => match r.1 with
  | .exit i => if i = id then (.normal, r.2) else r
  | _ => r
 | .loop a, e, h => aloop (acode call n lim a) n e h
 | .exit id, e, h => some (.exit id, e, h)
 | .ret, e, h => some (.ret, e, h)
 | .fail, _, _ => none
def envOf (args : List Value) : Env := fun t => (args[t]?).getD undef
def aresults (e : Env) (h : AH) : List RRes → Option (List Value)
 | [] => some []
 | .tmp t :: r => (aresults e h r).map fun l => e t :: l
 | .cell t n :: r => (aLoad n h (e t)).bind fun v => (aresults e h r).map fun l => v :: l
def resultOf : List Value → Value
 | [v] => v
 | l => .tuple l.toArray
abbrev Ext := FuncId → Option (Nat → List Value → AH → Option (Value × AH))
def acall (X : Ext) (F : FuncId → Option RFunc) : Nat → Callee
 | 0 => fun _ _ _ _ => none
 | k + 1 => fun lim f args h => match X f with
  | some g => g lim args h
  | none => match F f with
   | none => none
   | some rf => if args.length ≤ rf.ntmps then (acode (acall X F k) k lim rf.body (envOf args) h).bind fun r => match r.1 with
     | .exit _ => none
     | _ => (aresults r.2.1 r.2.2 rf.results).map fun l => (resultOf l, r.2.2)
    else none
abbrev rO (d : Nat) (p : ROp) : RO := ⟨some d, p, none, false, []⟩
end
end Go.Proofs.YtalknjppnkpmmaaDoorW.Ai
