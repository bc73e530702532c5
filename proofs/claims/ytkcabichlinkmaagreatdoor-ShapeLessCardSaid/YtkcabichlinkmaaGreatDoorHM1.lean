/- A deterministic evaluator for compiled code, over canonical values: definitions. -/
import GoSem.Step
namespace Go.EV

/-! ## Values -/
inductive AV where
  | und
  | bool (b : Bool)
  | int (k : IntKind) (n : Int)
  | str (s : List Nat)
  | nilp
  | ptr (b o : Nat)
  | cptr (cs : List AV) (o : Nat)
  | nils
  | emp
  | lst (l : List (List AV))
  | sl (es b o len : Nat)
  | nilm
  | map (b : Nat)
  | nilf
  | fn (f : Nat) (caps : List AV)
  | yld (b : Nat)
  | nili
  | iface (t : Nat) (v : AV)
  | err
  | agg (cs : List AV)
  | tup (vs : List AV)
  /-- A slice that grows (by the place where it is made) and what it holds: the pure machine's alone (Pv). -/
  | own (s ty : Nat) (l : List (List AV))
  deriving Inhabited

/-- Does it take one cell? -/
def AV.one : AV → Bool
  | .agg _ => false
  | .tup _ => false
  | .und => false
  | _ => true
def AV.isUnd : AV → Bool
  | .und => true
  | _ => false
def AV.cells : AV → List AV
  | .agg cs => cs
  | v => [v]

/-! ## Frames: trees by paths -/
inductive Pth where
  | h
  | l (p : Pth)
  | r (p : Pth)
  deriving DecidableEq, Repr, Inhabited
def Pth.n : Pth → Nat
  | .h => 0
  | .l p => 2 * p.n + 1
  | .r p => 2 * p.n + 2

inductive Tr (α : Type) where
  | leaf
  | node (l : Tr α) (x : α) (r : Tr α)
  deriving Inhabited
namespace Tr
variable {α : Type}
def get : Pth → Tr α → Option α
  | .h, .node _ x _ => some x
  | .l p, .node l _ _ => get p l
  | .r p, .node _ _ r => get p r
  | _, .leaf => none
def set : Pth → α → Tr α → Tr α
  | .h, v, .node l _ r => .node l v r
  | .l p, v, .node l x r => .node (set p v l) x r
  | .r p, v, .node l x r => .node l x (set p v r)
  | _, _, .leaf => .leaf
/-- The places below n. -/
def fillN (v : α) : Nat → Nat → Tr α
  | 0, _ => .leaf
  | d + 1, n => match n with
    | 0 => .leaf
    | n + 1 => .node (fillN v d ((n + 1) / 2)) v (fillN v d (n / 2))
end Tr
abbrev Fr := Tr AV

inductive CX where
  | t (p : Pth)
  | c (v : AV)
  deriving Inhabited
def CX.ev (f : Fr) : CX → AV
  | .t p => match f.get p with | some v => v | none => .und
  | .c v => v

/-! ## Compiled code -/
/-- A struct's cell: a whole number's, a bool's, a string's. -/
inductive FK where
  | i
  | b
  | s
  deriving DecidableEq, Repr, Inhabited
/-- How two values are held against each other: single values; structs of whole numbers, bools and strings. -/
inductive EqK where
  | num
  | bool
  | ptr
  | slice
  | iface
  | cells (l : List FK)
  deriving Inhabited

inductive CI where
  | mv (x : CX)
  | pick (c a b : CX)
  | alloc (ty : Nat) (z : List AV)
  | box (ty : Nat) (x : CX)
  | build (z : List AV) (ps : List (Nat × Nat × CX))
  | bslice (ty es : Nat) (z : List AV) (len : Nat) (ps : List (Nat × CX))
  | load (n : Nat) (ag : Bool) (x : CX)
  | store (n : Nat) (x y : CX)
  | nilck (x : CX)
  | bin (o : BinOp) (k : EqK) (x y : CX)
  | un (o : UnOp) (x : CX)
  | toint (k : IntKind) (x : CX)
  | same (x : CX)
  | s2b (x : CX)
  | b2s (x : CX)
  | mkif (t : Nat) (x : CX)
  | mkfn (f : Nat) (caps : List CX)
  | slice (es : Nat) (x : CX) (lo hi mx : Option CX)
  | slices (x : CX) (lo hi : Option CX)
  | faddr (off : Nat) (x : CX)
  | field (off n : Nat) (ag : Bool) (x : CX)
  | iaddr (es : Nat) (x i : CX)
  | iaddrA (len es : Nat) (x i : CX)
  | index (x i : CX)
  | ext (i : Nat) (x : CX)
  | len (k : Nat) (x : CX)
  | append (ty es : Nat) (s x : CX)
  | mkmap
  | lookup (ks : Bool) (z : AV) (ok : Bool) (m k : CX)
  | mapup (ks : Bool) (m k v : CX)
  | call (f : CX) (args : List CX)
  | minmax (mx : Bool) (x y : CX)
  | clear (es : Nat) (z : List AV) (x : CX)
  | bad
  deriving Inhabited

structure CO where
  dst : Option Pth
  guard : Option (Pth × Bool)
  ins : CI
  fl : List Nat := []
  ix : Nat := 0
  deriving Inhabited

inductive CC where
  | skip
  | reg (ops : List CO) (draw : Bool)
  | seq (a b : CC)
  | cond (c : CX) (a b : CC)
  | blk (id : Nat) (c : CC)
  | loop (c : CC)
  | scope (c : CC)
  | rng (f : CX) (ps : List Pth) (a b : CC)
  | coin (q t : Pth) (a b : CC)
  | exit (id : Nat)
  | ret
  deriving Inhabited

inductive CR where
  | t (p : Pth)
  | cell (p : Pth) (n : Nat) (ag : Bool)
  deriving Inhabited

/-- mode 0: the callee works in the caller's heap; 1: in a heap of its own, on frozen arguments, its results frozen; 2: in the caller's heap, its results frozen and what it made struck. -/
structure CF where
  np : Nat
  params : List Pth
  depth : Nat
  body : CC
  results : List CR
  mode : Nat
  deriving Inhabited

inductive Ex where
  | norm
  | ret
  | exit (id : Nat)
  deriving DecidableEq, Repr, Inhabited

/-! ## Heaps -/
inductive Blk where
  | cells (st : Nat) (ty : Nat) (cs : List AV)
  | dead
  | map (es : List (AV × AV))
  | loop (st : Nat) (pend : Ex) (f : Fr) (ps : List Pth) (a b : CC)
  deriving Inhabited
abbrev Hp := List Blk

inductive Res where
  | ok (e : Ex) (f : Fr) (H : Hp)
  | val (v : AV) (H : Hp)
  | bad
  deriving Inhabited

inductive Task where
  | code (c : CC) (f : Fr) (H : Hp)
  | call (g : AV) (args : List AV) (H : Hp)
  deriving Inhabited

/-- The functions: compiled ones, and those whose answers are told. -/
structure Env where
  fs : Nat → Option CF
  pr : Nat → List AV → Hp → Option (AV × Hp)
  /-- Which of these touch no heap. -/
  quiet : Nat → Bool

/-! ## Single operations -/
def mxLen : Nat := 68719476736
def bytesAV (s : List Nat) : List (List AV) := s.map fun (b : Nat) => [AV.int .u8 (Int.ofNat b)]
def byteOf : List AV → Option Nat
  | [.int .u8 (.ofNat n)] => if n < 256 then some n else none
  | _ => none
def optL {α β : Type} (g : α → Option β) : List α → Option (List β)
  | [] => some []
  | a :: r => match g a with | some b => (optL g r).map (b :: ·) | none => none
def ldc (cs : List AV) (o n : Nat) : Bool → Option AV
  | true => if o + n ≤ cs.length then some (.agg ((cs.drop o).take n)) else none
  | false => cs[o]?

def evLoad (H : Hp) (n : Nat) (ag : Bool) : AV → Option AV
  | .ptr b o => match H[b]? with
    | some (.cells _ _ cs) => ldc cs o n ag
    | _ => none
  | .cptr cs o => ldc cs o n ag
  | _ => none

def stc (cs : List AV) (o : Nat) (vs : List AV) : List AV := cs.take o ++ (vs ++ cs.drop (o + vs.length))

def evStore (H : Hp) (n : Nat) (x y : AV) : Option Hp :=
  match x with
  | .ptr b o => match H[b]? with
    | some (.cells 1 ty cs) => if y.cells.length = n ∧ o + n ≤ cs.length ∧ y.cells.all AV.one = true ∧ 0 < n then some (H.set b (.cells 1 ty (stc cs o y.cells))) else none
    | _ => none
  | _ => none

/-- Are two lists of single comparable values equal? -/
def eqCells : List FK → List AV → List AV → Option Bool
  | [], [], [] => some true
  | .i :: l, .int k a :: x, .int k' b :: y => if k = k' then (eqCells l x y).map fun r => decide (a = b) && r else none
  | .b :: l, .bool a :: x, .bool b :: y => (eqCells l x y).map fun r => decide (a = b) && r
  | .s :: l, .str a :: x, .str b :: y => (eqCells l x y).map fun r => decide (a = b) && r
  | _, _, _ => none

def evEq : EqK → AV → AV → Option Bool
  | .bool, .bool a, .bool b => some (a == b)
  | .ptr, .nilp, .nilp => some true
  | .ptr, .nilp, .ptr _ _ => some false
  | .ptr, .nilp, .cptr _ _ => some false
  | .ptr, .ptr _ _, .nilp => some false
  | .ptr, .cptr _ _, .nilp => some false
  | .iface, .nili, .nili => some true
  | .iface, .nili, .iface _ _ => some false
  | .iface, .iface _ _, .nili => some false
  | .iface, .nili, .err => some false
  | .iface, .err, .nili => some false
  | .slice, .nils, .nils => some true
  | .slice, .nils, .emp => some false
  | .slice, .nils, .lst (_ :: _) => some false
  | .slice, .nils, .sl _ _ _ _ => some false
  | .slice, .emp, .nils => some false
  | .slice, .lst (_ :: _), .nils => some false
  | .slice, .sl _ _ _ _, .nils => some false
  | .cells l, .agg x, .agg y => eqCells l x y
  | _, _, _ => none

def bytesLt : List Nat → List Nat → Bool
  | _, [] => false
  | [], _ :: _ => true
  | a :: x, b :: y => decide (a < b) || (decide (a = b) && bytesLt x y)

def evInt (op : BinOp) (k : IntKind) (a b : Int) : Option AV :=
  match op with
  | .add => some (.int k (k.wrap (a + b)))
  | .sub => some (.int k (k.wrap (a - b)))
  | .mul => some (.int k (k.wrap (a * b)))
  | .quo => if b = 0 then none else some (.int k (k.wrap (a.tdiv b)))
  | .rem => if b = 0 then none else some (.int k (a.tmod b))
  | .and => some (.int k (k.wrap (BitVec.ofInt k.bits a &&& BitVec.ofInt k.bits b).toNat))
  | .or => some (.int k (k.wrap (BitVec.ofInt k.bits a ||| BitVec.ofInt k.bits b).toNat))
  | .xor => some (.int k (k.wrap (BitVec.ofInt k.bits a ^^^ BitVec.ofInt k.bits b).toNat))
  | .andNot => some (.int k (k.wrap (BitVec.ofInt k.bits a &&& ~~~ BitVec.ofInt k.bits b).toNat))
  | .eql => some (.bool (decide (a = b)))
  | .neq => some (.bool (!decide (a = b)))
  | .lss => some (.bool (decide (a < b)))
  | .leq => some (.bool (decide (a ≤ b)))
  | .gtr => some (.bool (decide (b < a)))
  | .geq => some (.bool (decide (b ≤ a)))
  | _ => none

def evShift (op : BinOp) (k : IntKind) (a b : Int) : Option AV :=
  if b < 0 then none else
    match op with
    | .shl => some (.int k (k.wrap (a * 2 ^ (min b.toNat k.bits))))
    | .shr => some (.int k (a.fdiv (2 ^ (min b.toNat k.bits))))
    | _ => none

def evStr (op : BinOp) (a b : List Nat) : Option AV :=
  match op with
  | .add => if a.length + b.length ≤ mxLen then some (.str (a ++ b)) else none
  | .eql => some (.bool (decide (a = b)))
  | .neq => some (.bool (!decide (a = b)))
  | .lss => some (.bool (bytesLt a b))
  | .leq => some (.bool (bytesLt a b || decide (a = b)))
  | .gtr => some (.bool (!(bytesLt a b || decide (a = b))))
  | .geq => some (.bool (!bytesLt a b))
  | _ => none

def isShift : BinOp → Bool
  | .shl => true
  | .shr => true
  | _ => false

def evBin (op : BinOp) (k : EqK) (x y : AV) : Option AV :=
  match x, y with
  | .int q a, .int q' b => if isShift op then evShift op q a b else if q = q' then evInt op q a b else none
  | .str a, .str b => evStr op a b
  | x, y => match op with
    | .eql => (evEq k x y).map .bool
    | .neq => (evEq k x y).map fun b => .bool (!b)
    | _ => none

def evUn : UnOp → AV → Option AV
  | .neg, .int k n => some (.int k (k.wrap (0 - n)))
  | .not, .bool b => some (.bool (!b))
  | _, _ => none

def evIdx (x i : AV) : Option AV :=
  match x with
  | .str s => match i with
    | .int _ (.ofNat n) => match s[n]? with | some b => some (.int .u8 b) | none => none
    | _ => none
  | _ => none

def evIaddr (es : Nat) (x i : AV) : Option AV :=
  match i with
  | .int _ (.ofNat n) => match x with
    | .lst l => match l[n]? with | some c => if c.length = es then some (.cptr c 0) else none | none => none
    | .sl es' b o len => if es' = es ∧ n < len then some (.ptr b (o + n * es)) else none
    | _ => none
  | _ => none

def evIaddrA (len es : Nat) (x i : AV) : Option AV :=
  match i with
  | .int _ (.ofNat n) => if n < len then match x with
    | .ptr b o => some (.ptr b (o + n * es))
    | .cptr cs o => some (.cptr cs (o + n * es))
    | _ => none else none
  | _ => none

def evFaddr (off : Nat) : AV → Option AV
  | .ptr b o => some (.ptr b (o + off))
  | .cptr cs o => some (.cptr cs (o + off))
  | _ => none

def natOf : AV → Option Nat
  | .int _ (.ofNat n) => some n
  | _ => none
def optOf (f : Fr) (d : Nat) : Option CX → Option Nat
  | none => some d
  | some x => natOf (x.ev f)

def evLen (H : Hp) : AV → Option Nat
  | .str s => some s.length
  | .lst l => some l.length
  | .sl _ _ _ n => some n
  | .nils => some 0
  | .emp => some 0
  | .nilm => some 0
  | .map b => match H[b]? with | some (.map es) => some es.length | _ => none
  | _ => none

/-- Has a value the kind whose length is asked for: a string's, a slice's, a map's? -/
def lenOk : Nat → AV → Bool
  | 0, .str _ => true
  | 1, .lst _ => true
  | 1, .sl _ _ _ _ => true
  | 1, .nils => true
  | 1, .emp => true
  | 2, .nilm => true
  | 2, .map _ => true
  | _, _ => false

/-- Has the first element this many cells? -/
def headOk (es : Nat) : List (List AV) → Bool
  | [] => true
  | c :: _ => Nat.beq c.length es

/-- x[lo:hi:mx] of a slice; mx: is there a third index, and which. -/
def evSlice (es : Nat) (x : AV) (lo hi : Nat) (mx : Option Nat) : Option AV :=
  match x with
  | .nils => if lo = 0 ∧ hi = 0 ∧ (mx = none ∨ mx = some 0) then some .nils else none
  | .emp => if lo = 0 ∧ hi = 0 ∧ (mx = none ∨ mx = some 0) then some .emp else none
  | .lst l => if headOk es l = true ∧ lo ≤ hi ∧ hi ≤ l.length then
      match mx with
      | none => some (.lst ((l.drop lo).take (hi - lo)))
      | some m => if m = hi ∧ lo = hi then some (.lst []) else if hi ≤ m ∧ m ≤ l.length then some (.lst ((l.drop lo).take (hi - lo))) else none
    else none
  | .sl es' b o len => if (es' = es ∨ len = 0) ∧ lo ≤ hi ∧ hi ≤ len then
      match mx with
      | none => some (.sl es' b (o + lo * es') (hi - lo))
      | some m => if m = hi ∧ lo = hi then some .emp else if hi ≤ m ∧ m ≤ len then some (.sl es' b (o + lo * es') (hi - lo)) else none
    else none
  | _ => none

def evSliceS (s : List Nat) (lo hi : Nat) : Option AV := if lo ≤ hi ∧ hi ≤ s.length then some (.str ((s.drop lo).take (hi - lo))) else none

/-- The n elements, of es cells each, from cell o on. -/
def chunks (es : Nat) (cs : List AV) (o : Nat) : Nat → List (List AV)
  | 0 => []
  | n + 1 => (cs.drop o).take es :: chunks es cs (o + es) n

def elemsOf (es : Nat) (H : Hp) : AV → Option (List (List AV))
  | .nils => some []
  | .emp => some []
  | .lst l => if headOk es l = true then some l else none
  | .sl es' b o len => if es' = es ∨ len = 0 then match H[b]? with
      | some (.cells _ _ cs) => if o + len * es ≤ cs.length then some (chunks es cs o len) else none
      | _ => none else none
  | .str s => if es = 1 then some (bytesAV s) else none
  | _ => none

def evAppend (ty es : Nat) (H : Hp) (s x : AV) : Option (AV × Hp) :=
  match elemsOf es H x with
  | none => none
  | some new => match s with
    | .nils => if new.isEmpty then some (.nils, H) else if new.length ≤ mxLen ∧ new.flatten.all AV.one = true then some (.sl es H.length 0 new.length, H ++ [.cells 1 ty new.flatten]) else none
    | .emp => if new.isEmpty then some (.emp, H) else if new.length ≤ mxLen ∧ new.flatten.all AV.one = true then some (.sl es H.length 0 new.length, H ++ [.cells 1 ty new.flatten]) else none
    | .sl es' b o len => if es' = es then
        if new.isEmpty then some (s, H) else
        if len + new.length ≤ mxLen ∧ new.flatten.all AV.one = true then
          match H[b]? with
          | some (.cells (st + 1) ty' cs) => if ty' = ty ∧ o + len * es ≤ cs.length ∧ (st = 0 ∨ o + len * es = cs.length) then some (.sl es H.length 0 (len + new.length), H.set b .dead ++ [.cells (st + 1) ty ((cs.drop o).take (len * es) ++ new.flatten)]) else none
          | _ => none
        else none
      else none
    | _ => none

def putPart (cs : List AV) (off n : Nat) (v : AV) : Option (List AV) := if v.cells.length = n ∧ off + n ≤ cs.length ∧ v.isUnd = false then some (stc cs off v.cells) else none
def evBuild (f : Fr) : List (Nat × Nat × CX) → List AV → Option (List AV)
  | [], cs => some cs
  | (off, n, x) :: r, cs => match putPart cs off n (x.ev f) with | some cs => evBuild f r cs | none => none
def evBuildS (f : Fr) (es : Nat) : List (Nat × CX) → List AV → Option (List AV)
  | [], cs => some cs
  | (i, x) :: r, cs => match putPart cs (i * es) es (x.ev f) with | some cs => evBuildS f es r cs | none => none
def rep (z : List AV) : Nat → List AV
  | 0 => []
  | n + 1 => z ++ rep z n

/-- ks: strings, or whole numbers. -/
def keyEq : Bool → AV → AV → Option Bool
  | true, .str a, .str b => some (decide (a = b))
  | false, .int k a, .int k' b => if k = k' then some (decide (a = b)) else none
  | _, _, _ => none
def findKey (ks : Bool) (k : AV) : List (AV × AV) → Option (Option AV)
  | [] => some none
  | (q, v) :: r => match keyEq ks k q with | some true => some (some v) | some false => findKey ks k r | none => none
def putKey (ks : Bool) (k v : AV) : List (AV × AV) → Option (List (AV × AV))
  | [] => some [(k, v)]
  | (q, u) :: r => match keyEq ks k q with | some true => some ((q, v) :: r) | some false => (putKey ks k v r).map ((q, u) :: ·) | none => none

/-- What an operation that calls nothing answers. -/
def evI (f : Fr) (H : Hp) : CI → Option (AV × Hp)
  | .mv x => some (x.ev f, H)
  | .pick c a b => match c.ev f with | .bool t => some (bif t then a.ev f else b.ev f, H) | _ => none
  | .alloc ty z => some (.ptr H.length 0, H ++ [.cells 1 ty z])
  | .box ty x => match (x.ev f).isUnd with
    | true => none
    | false => some (.ptr H.length 0, H ++ [.cells 1 ty (x.ev f).cells])
  | .build z ps => (evBuild f ps z).map fun cs => (.agg cs, H)
  | .bslice ty es z len ps => (evBuildS f es ps (rep z len)).map fun cs => if len = 0 then (.emp, H) else (.sl es H.length 0 len, H ++ [.cells 1 ty cs])
  | .load n ag x => (evLoad H n ag (x.ev f)).map fun v => (v, H)
  | .store n x y => (evStore H n (x.ev f) (y.ev f)).map fun H => (.tup [], H)
  | .nilck x => match x.ev f with
    | .ptr b o => some (.ptr b o, H)
    | .cptr cs o => some (.cptr cs o, H)
    | .fn g cs => some (.fn g cs, H)
    | .yld b => some (.yld b, H)
    | _ => none
  | .bin o k x y => (evBin o k (x.ev f) (y.ev f)).map fun v => (v, H)
  | .un o x => (evUn o (x.ev f)).map fun v => (v, H)
  | .toint k x => match x.ev f with | .int _ n => some (.int k (k.wrap n), H) | _ => none
  | .same x => match x.ev f with | .str s => some (.str s, H) | _ => none
  | .s2b x => match x.ev f with | .str s => some (.lst (bytesAV s), H) | _ => none
  | .b2s x => match elemsOf 1 H (x.ev f) with
    | some l => (optL byteOf l).map fun s => (.str s, H)
    | none => none
  | .mkif t x => some (.iface t (x.ev f), H)
  | .mkfn g caps => some (.fn g (caps.map (·.ev f)), H)
  | .slice es x lo hi mx => match evLen H (x.ev f) with
    | some n => match optOf f 0 lo, optOf f n hi with
      | some a, some b => match mx with
        | none => (evSlice es (x.ev f) a b none).map fun v => (v, H)
        | some m => match natOf (m.ev f) with | some m => (evSlice es (x.ev f) a b (some m)).map fun v => (v, H) | none => none
      | _, _ => none
    | none => none
  | .slices x lo hi => match x.ev f with
    | .str s => match optOf f 0 lo, optOf f s.length hi with | some a, some b => (evSliceS s a b).map fun v => (v, H) | _, _ => none
    | _ => none
  | .faddr off x => (evFaddr off (x.ev f)).map fun v => (v, H)
  | .field off n ag x => match x.ev f with | .agg cs => (ldc cs off n ag).map fun v => (v, H) | _ => none
  | .iaddr es x i => (evIaddr es (x.ev f) (i.ev f)).map fun v => (v, H)
  | .iaddrA len es x i => (evIaddrA len es (x.ev f) (i.ev f)).map fun v => (v, H)
  | .index x i => (evIdx (x.ev f) (i.ev f)).map fun v => (v, H)
  | .ext i x => match x.ev f with | .tup vs => (vs[i]?).map fun v => (v, H) | _ => none
  | .len k x => match lenOk k (x.ev f) with
    | true => (evLen H (x.ev f)).map fun n => (.int .i64 n, H)
    | false => none
  | .append ty es s x => evAppend ty es H (s.ev f) (x.ev f)
  | .mkmap => some (.map H.length, H ++ [.map []])
  | .lookup ks z ok m k => match m.ev f with
    | .map b => match H[b]? with
      | some (.map es) => match findKey ks (k.ev f) es with
        | some r => some (bif ok then .tup [r.getD z, .bool r.isSome] else r.getD z, H)
        | none => none
      | _ => none
    | _ => none
  | .mapup ks m k v => match m.ev f with
    | .map b => match H[b]? with
      | some (.map es) => (putKey ks (k.ev f) (v.ev f) es).map fun es => (.tup [], H.set b (.map es))
      | _ => none
    | _ => none
  | .minmax mx x y => match x.ev f, y.ev f with
    | .int k a, .int _ b => some (.int k (if mx then (if b > a then b else a) else (if b < a then b else a)), H)
    | _, _ => none
  | .clear es z x => match x.ev f with
    | .nils => some (.tup [], H)
    | .emp => some (.tup [], H)
    | .sl es' b o len => if es' = es then match H[b]? with
      | some (.cells 1 ty cs) => if o + len * es ≤ cs.length then some (.tup [], H.set b (.cells 1 ty (stc cs o (rep z len)))) else none
      | _ => none else none
    | _ => none
  | .bad => none
  | .call _ _ => none

/-! ## Freezing -/
mutual
/-- Does a value lead to no block? -/
def hf : AV → Bool
  | .ptr _ _ => false
  | .sl _ _ _ _ => false
  | .map _ => false
  | .yld _ => false
  | .own _ _ _ => false
  | .fn _ cs => hfL cs
  | .iface _ v => hf v
  | .agg cs => hfL cs
  | .tup cs => hfL cs
  | _ => true
def hfL : List AV → Bool
  | [] => true
  | v :: r => hf v && hfL r
end

/-- A value whose slices are told by what they hold; the blocks from base on may be frozen; q: nil slices stay told as such. -/
def frz (q : Bool) (H : Hp) (base : Nat) : Nat → AV → Option AV
  | 0, _ => none
  | n + 1, .sl es b o len => if base ≤ b then match H[b]? with
      | some (.cells _ _ cs) => if o + len * es ≤ cs.length then (optL (optL (frz q H base n)) (chunks es cs o len)).map .lst else none
      | _ => none else none
  | _ + 1, .nils => some (bif q then .nils else .lst [])
  | _ + 1, .emp => some (.lst [])
  | n + 1, .agg cs => (optL (frz q H base n) cs).map .agg
  | n + 1, .tup cs => (optL (frz q H base n) cs).map .tup
  | _ + 1, v => if hf v then some v else none

/-- The blocks that freezing a value freezes. -/
def frzB (H : Hp) : Nat → AV → List Nat
  | 0, _ => []
  | n + 1, .sl es b o len => match H[b]? with
      | some (.cells _ _ cs) => b :: ((chunks es cs o len).flatten.flatMap (frzB H n))
      | _ => []
  | n + 1, .agg cs => cs.flatMap (frzB H n)
  | n + 1, .tup cs => cs.flatMap (frzB H n)
  | _ + 1, _ => []
def markRo (H : Hp) (b : Nat) : Hp := match H[b]? with | some (.cells _ ty cs) => H.set b (.cells 0 ty cs) | _ => H

/-! ## Two ways that meet -/
mutual
def AV.beq : AV → AV → Bool
  | .und, .und => true
  | .bool a, .bool b => a == b
  | .int k a, .int q b => decide (k = q) && decide (a = b)
  | .str a, .str b => decide (a = b)
  | .nilp, .nilp => true
  | .ptr a b, .ptr c d => decide (a = c) && decide (b = d)
  | .cptr a b, .cptr c d => AV.beqL a c && decide (b = d)
  | .nils, .nils => true
  | .emp, .emp => true
  | .lst b, .lst d => AV.beqLL b d
  | .sl a b c d, .sl a' b' c' d' => decide (a = a') && decide (b = b') && decide (c = c') && decide (d = d')
  | .nilm, .nilm => true
  | .map a, .map b => decide (a = b)
  | .nilf, .nilf => true
  | .fn a b, .fn c d => decide (a = c) && AV.beqL b d
  | .yld a, .yld b => decide (a = b)
  | .nili, .nili => true
  | .err, .err => true
  | .iface a b, .iface c d => decide (a = c) && AV.beq b d
  | .agg a, .agg b => AV.beqL a b
  | .tup a, .tup b => AV.beqL a b
  | .own a t b, .own c u d => decide (a = c) && decide (t = u) && AV.beqLL b d
  | _, _ => false
def AV.beqL : List AV → List AV → Bool
  | [], [] => true
  | a :: x, b :: y => AV.beq a b && AV.beqL x y
  | _, _ => false
def AV.beqLL : List (List AV) → List (List AV) → Bool
  | [], [] => true
  | a :: x, b :: y => AV.beqL a b && AV.beqLL x y
  | _, _ => false
end
def joinV (a b : AV) : AV := bif AV.beq a b then a else .und
def joinF : Fr → Fr → Fr
  | .node l x r, .node l' x' r' => .node (joinF l l') (joinV x x') (joinF r r')
  | _, _ => .leaf
def joinB : Blk → Blk → Blk
  | .cells s t a, .cells s' t' b => bif decide (s = s') && decide (t = t') && AV.beqL a b then .cells s t a else .dead
  | .map a, .map b => bif AV.beqL (a.map (·.1)) (b.map (·.1)) && AV.beqL (a.map (·.2)) (b.map (·.2)) then .map a else .dead
  | _, _ => .dead
def joinH : Hp → Hp → Hp → Option Hp
  | [], a :: x, b :: y => (joinH [] x y).map (joinB a b :: ·)
  | .loop s e f p c d :: z, a :: x, b :: y => match a, b with
    | .loop s1 e1 _ _ _ _, .loop s2 e2 _ _ _ _ => if s1 = s ∧ s2 = s ∧ e1 = e ∧ e2 = e then (joinH z x y).map (.loop s e f p c d :: ·) else none
    | _, _ => none
  | _ :: z, a :: x, b :: y => (joinH z x y).map (joinB a b :: ·)
  | [], [], [] => some []
  | _, _, _ => none

/-! ## Calls and code -/
def setAll : List Pth → List AV → Fr → Option Fr
  | [], [], f => some f
  | p :: ps, v :: vs, f => setAll ps vs (f.set p v)
  | _, _, _ => none

def evRes1 (f : Fr) (H : Hp) : CR → Option AV
  | .t p => f.get p
  | .cell p n ag => match f.get p with | some v => evLoad H n ag v | none => none
def evRes (f : Fr) (H : Hp) (rs : List CR) : Option AV := (optL (evRes1 f H) rs).map fun l => match l with | [v] => v | l => .tup l

mutual
/-- Does a value lead to blocks below n alone? -/
def low (n : Nat) : AV → Bool
  | .ptr b _ => decide (b < n)
  | .sl _ b _ _ => decide (b < n)
  | .map b => decide (b < n)
  | .yld b => decide (b < n)
  | .fn _ cs => lowL n cs
  | .iface _ v => low n v
  | .agg cs => lowL n cs
  | .tup cs => lowL n cs
  | _ => true
def lowL (n : Nat) : List AV → Bool
  | [] => true
  | v :: r => low n v && lowL n r
end
def lowT (n : Nat) : Fr → Bool
  | .leaf => true
  | .node l x r => lowT n l && (low n x && lowT n r)
def blkLow (n : Nat) : Blk → Bool
  | .cells _ _ cs => lowL n cs
  | .dead => true
  | .map es => es.all fun p => low n p.1 && low n p.2
  | .loop _ _ f _ _ _ => lowT n f
def heapLow (H : Hp) (n : Nat) : Bool := (H.take n).all (blkLow n)

/-- The modes in which a function works in a heap of its own: are nil slices told as such? -/
def own : Nat → Option Bool
  | 1 => some false
  | 3 => some true
  | _ => none
def evCO (rec : Task → Res) (o : CO) (f : Fr) (H : Hp) : Option (AV × Hp) :=
  match o.ins with
  | .call g args => match rec (.call (g.ev f) (args.map (·.ev f)) H) with
    | .val v H => some (v, H)
    | _ => none
  | i => evI f H i
def putD (d : Option Pth) (v : AV) (f : Fr) : Fr := match d with | some p => f.set p v | none => f
def wanted (g : Option (Pth × Bool)) (f : Fr) : Option Bool :=
  match g with
  | none => some true
  | some (p, b) => match f.get p with | some (.bool c) => some (c == b) | some .und => none | some _ => some false | none => none

def evOps (rec : Task → Res) : List CO → Fr → Hp → Res
  | [], f, H => .ok .norm f H
  | o :: r, f, H => match wanted o.guard f with
    | some true => match evCO rec o f H with
      | some (v, H) => evOps rec r (putD o.dst v f) H
      | none => .bad
    | some false => evOps rec r (putD o.dst (.tup []) f) H
    | none => .bad

/-- What an operation touches of the heap: nothing; cells; all. -/
inductive Tch where
  | no
  | rd (b o n : Nat)
  | wr (b o n : Nat)
  | hp (H H' : Hp)
  | mk (b : Nat)
  | del (b : Nat)
  | all
  deriving Inhabited
/-- Functions that touch no heap, if their arguments lead to none. -/
def quietCall (E : Env) (g : AV) (as : List AV) : Bool := match g with
  | .fn k cs => E.quiet k && (hfL cs && hfL as)
  | _ => false
/-- What it asks to be left alone by what may come before or behind it; what it turns. -/
def touch (E : Env) (f : Fr) (H H' : Hp) : CI → Tch × Tch
  | .load n _ x => match x.ev f with | .ptr b o => (.rd b o n, .no) | _ => (.no, .no)
  | .store n x _ => match x.ev f with | .ptr b o => (.wr b o n, .wr b o n) | _ => (.all, .all)
  | .append _ _ s _ => match s.ev f with
    | .sl _ b _ _ => (.all, .del b)
    | _ => (.all, .no)
  | .mapup _ _ _ _ => (.all, .all)
  | .clear _ _ _ => (.all, .all)
  | .lookup _ _ _ _ _ => (.all, .no)
  | .b2s _ => (.all, .no)
  | .call g as => if quietCall E (g.ev f) (as.map (·.ev f)) then (.no, .no) else (.all, .hp H H')
  | .alloc _ _ => (.mk H.length, .no)
  | .box _ _ => (.mk H.length, .no)
  | .mkmap => (.mk H.length, .no)
  | .bslice _ _ _ n _ => (if n = 0 then .no else .mk H.length, .no)
  | .len _ x => match x.ev f with | .map _ => (.all, .no) | _ => (.no, .no)
  | _ => (.no, .no)
def calm : Tch → Tch → Bool
  | .no, _ => true
  | _, .no => true
  | .rd b o n, .hp H H' => match H[b]?, H'[b]? with
    | some (.cells _ _ cs), some (.cells _ _ cs') => decide (cs.length = cs'.length) && AV.beqL ((cs.drop o).take n) ((cs'.drop o).take n)
    | _, _ => false
  | .mk b, .hp H H' => match H[b]?, H'[b]? with
    | some (.cells s t a), some (.cells s' t' a') => decide (s = s') && decide (t = t') && AV.beqL a a'
    | some (.map []), some (.map []) => true
    | _, _ => false
  | .mk b, .wr b' _ _ => decide (b ≠ b')
  | .mk b, .del b' => decide (b ≠ b')
  | .rd b _ _, .del b' => decide (b ≠ b')
  | .rd b o n, .wr b' o' n' => decide (b ≠ b') || decide (o + n ≤ o') || decide (o' + n' ≤ o)
  | .wr b o n, .wr b' o' n' => decide (b ≠ b') || decide (o + n ≤ o') || decide (o' + n' ≤ o)
  | _, _ => false
set_option linter.unusedVariables false in
/-- The operations in the text's order; behind it what each touched. -/
def evDraw (E : Env) (rec : Task → Res) : List CO → Fr → Hp → List (Tch × Tch) → Option (Fr × Hp × List (Tch × Tch))
  | [], f, H, ts => some (f, H, ts.reverse)
  | o :: r, f, H, ts => match wanted o.guard f with
    | some true => match evCO rec o f H with
      | some (v, H') => evDraw E rec r (putD o.dst v f) H' (touch E f H H' o.ins :: ts)
      | none => none
    | some false => evDraw E rec r (putD o.dst (.tup []) f) H ((.no, .no) :: ts)
    | none => none
def flOk (ops : List CO) (ts : List (Tch × Tch)) : Bool :=
  (ops.zip ts).all fun (o, t) => o.fl.all fun j => calm t.1 (ts.getD j (.all, .all)).2

def evStep (E : Env) (d : Nat) (rec : Task → Res) : Task → Res
  | .code c f H => match c with
    | .skip => .ok .norm f H
    | .ret => .ok .ret f H
    | .exit id => .ok (.exit id) f H
    | .seq a b => match rec (.code a f H) with
      | .ok .norm f H => rec (.code b f H)
      | r => r
    | .cond x a b => match x.ev f with
      | .bool t => rec (.code (bif t then a else b) f H)
      | _ => .bad
    | .blk id c => match rec (.code c f H) with
      | .ok (.exit i) f H => .ok (bif i == id then .norm else .exit i) f H
      | r => r
    | .loop c => match rec (.code c f H) with
      | .ok .norm f H => rec (.code (.loop c) f H)
      | r => r
    | .scope c => rec (.code c f H)
    | .coin q t a b => match f.get q, f.get t with
      | some _, some _ => match rec (.code a ((f.set q .und).set t .und) (H ++ [.dead])), rec (.code b ((f.set q .und).set t .und) (H ++ [.dead])) with
        | .ok e f1 H1, .ok e' f2 H2 => if e = e' then match joinH (H ++ [.dead]) H1 H2 with
          | some H => .ok e (joinF f1 f2) H
          | none => .bad else .bad
        | _, _ => .bad
      | _, _ => .bad
    | .reg ops false => evOps rec ops f H
    | .reg ops true => match evDraw E rec ops f H [] with
      | some (f', H', ts) => bif flOk ops ts then .ok .norm f' H' else .bad
      | none => .bad
    | .rng g ps a b => match g.ev f with
      | .fn k cs => match rec (.call (.fn k cs) [.yld H.length] (H ++ [.loop 0 .norm f ps a b])) with
        | .val _ H' => match H'[H.length]? with
          | some (.loop 0 .norm _ _ _ _) => .ok .norm f (H'.set H.length .dead)
          | some (.loop 2 e _ _ _ _) => .ok e f (H'.set H.length .dead)
          | _ => .bad
        | _ => .bad
      | _ => .bad
  | .call g args H => match g with
    | .fn k caps => match E.pr k (args ++ caps) H with
      | some (r, H) => .val r H
      | none => match E.fs k with
        | none => .bad
        | some F => match own F.mode with
          | some q => match optL (frz q H 0 d) (args ++ caps) with
            | none => .bad
            | some vs => match setAll F.params vs (Tr.fillN (.tup []) F.depth F.np) with
              | none => .bad
              | some f => match rec (.code F.body f []) with
                | .ok (.exit _) _ _ => .bad
                | .ok _ f' H' => match evRes f' H' F.results with
                  | some v => match frz q H' 0 d v with
                    | some v => .val v (((args ++ caps).flatMap (frzB H d)).foldl markRo H)
                    | none => .bad
                  | none => .bad
                | _ => .bad
          | none => match setAll F.params (args ++ caps) (Tr.fillN (.tup []) F.depth F.np) with
            | none => .bad
            | some f => match rec (.code F.body f H) with
              | .ok (.exit _) _ _ => .bad
              | .ok _ f' H' => match evRes f' H' F.results with
                | some v => match F.mode with
                  | 2 => match frz false H' H.length d v with
                    | some v => bif heapLow H' H.length then .val v (H'.take H.length) else .bad
                    | none => .bad
                  | _ => .val v H'
                | none => .bad
              | _ => .bad
    | .yld l => match H[l]? with
      | some (.loop 0 _ f ps a _) => match setAll ps args f with
        | none => .bad
        | some f => match rec (.code a f H) with
          | .ok .norm f1 H1 => match H1[l]? with
            | some (.loop 0 _ f0 ps a b) => match rec (.code b f1 (H1.set l (.loop 1 .norm f0 ps a b))) with
              | .ok e _ H2 => match H2[l]? with
                | some (.loop 1 _ f0 ps a b) => match e with
                  | .norm => .val (.bool true) (H2.set l (.loop 0 .norm f0 ps a b))
                  | e => .val (.bool false) (H2.set l (.loop 2 e f0 ps a b))
                | _ => .bad
              | _ => .bad
            | _ => .bad
          | _ => .bad
      | _ => .bad
    | _ => .bad

def ev (E : Env) (n : Nat) : Task → Res := Nat.rec (fun _ => .bad) (fun d r => evStep E d r) n
theorem ev_zero (E : Env) (t : Task) : ev E 0 t = .bad := rfl
theorem ev_succ (E : Env) (n : Nat) (t : Task) : ev E (n + 1) t = evStep E n (ev E n) t := rfl

end Go.EV

/- From the program's code to the evaluator's: a checked translation. -/
namespace Go.EV

def avL (ofV : Value → Option AV) : List Value → Option (List AV)
  | [] => some []
  | v :: r => match ofV v with | some a => (avL ofV r).map (a :: ·) | none => none
/-- A constant; a struct's cells are single. -/
def ofVal1 : Value → Option AV
  | .bool b => some (.bool b)
  | .int k n => some (.int k n)
  | .string s => some (.str (s.data.toList.map (·.toNat)))
  | .pointer none => some .nilp
  | .slice none 0 0 => some .nils
  | .map none => some .nilm
  | .nilFunc => some .nilf
  | .nilIface => some .nili
  | _ => none
def ofVal : Value → Option AV
  | .agg cs => (avL ofVal1 cs.toList).map .agg
  | v => ofVal1 v

def pthF : Nat → Nat → Pth
  | 0, _ => .h
  | f + 1, i => bif Nat.beq i 0 then .h else bif Nat.beq (i % 2) 1 then .l (pthF f (i / 2)) else .r (pthF f (i / 2 - 1))
def toPth (i : Nat) : Option Pth := let p := pthF 12 i; if p.n = i then some p else none

def compX : Operand → Option CX
  | .tmp t => (toPth t).map .t
  | .const v => (ofVal v).map .c
  | .func f => some (.c (.fn f []))
  | .global _ => none
def compXs : List Operand → Option (List CX)
  | [] => some []
  | x :: r => match compX x with | some a => (compXs r).map (a :: ·) | none => none
def compO : Option Operand → Option (Option CX)
  | none => some none
  | some x => (compX x).map some

def sizeOf? (P : Program) (t : TypeId) : Option Nat := (P.info? t).map (·.size)
def bytesOf? (P : Program) (t : TypeId) : Option Nat := (P.info? t).map (·.bytes)
def isAgg? (P : Program) (t : TypeId) : Option Bool := (P.underlying t).map fun d => match d with | .struct _ => true | .array _ _ => true | _ => false
/-- A type's zero cells. -/
def zero? (P : Program) (t : TypeId) : Option (List AV) := match (P.info? t).bind (·.zero) with | some z => avL ofVal1 z.cells.toList | none => none
def zeroV? (P : Program) (t : TypeId) : Option AV := ((P.info? t).bind (·.zero)).bind ofVal
/-- The fields' places. -/
def places? (P : Program) (fs : Array Field) : Option (List (Nat × Nat)) := fs.toList.mapM fun f => (P.info? f.type).map fun i => (f.offset, i.size)
/-- A size, and whether the type is a struct's or an array's; a single cell where it is none. -/
def lay? (P : Program) (t : TypeId) : Option (Nat × Bool) :=
  match sizeOf? P t, isAgg? P t with
  | some n, some true => some (n, true)
  | some 1, some false => some (1, false)
  | _, _ => none

def fk? (P : Program) (t : TypeId) : Option FK := match P.underlying t with
  | some (.int _) => some .i
  | some .bool => some .b
  | some .string => some .s
  | _ => none
/-- Fields of whole numbers, bools and strings, a cell each, one behind the other from cell i on. -/
def flatFields (P : Program) : Nat → List Field → Option (List FK)
  | _, [] => some []
  | i, f :: r => if f.offset = i ∧ f.name ≠ "_" then match fk? P f.type, flatFields P (i + 1) r with | some k, some l => some (k :: l) | _, _ => none else none
def flat? (P : Program) (t : TypeId) : Option (List FK) :=
  match P.underlying t with
  | some (.struct fs) => if P.stoodInHeld t = false ∧ P.eqGuardType P.depth t = false then flatFields P 0 fs.toList else none
  | _ => none

def eqk? (P : Program) (op : BinOp) (t : TypeId) (x y : Operand) : Option EqK :=
  match op with
  | .eql | .neq => match P.underlying t with
    | some (.int _) => some .num
    | some .string => some .num
    | some .bool => some .bool
    | some (.pointer _) => some .ptr
    | some (.slice _) => some .slice
    | some (.interface _) => (match x, y with | .const _, _ => some .iface | _, .const _ => some .iface | _, _ => none)
    | some (.struct _) => (flat? P t).map .cells
    | _ => none
  | _ => some .num

def compParts (P : Program) (fs : Array Field) : List (Nat × Operand) → Option (List (Nat × Nat × CX))
  | [] => some []
  | (i, x) :: r => match fs[i]? with
    | some f => match sizeOf? P f.type, compX x with
      | some n, some a => (compParts P fs r).map ((f.offset, n, a) :: ·)
      | _, _ => none
    | none => none
def compPartsS : List (Nat × Operand) → Option (List (Nat × CX))
  | [] => some []
  | (i, x) :: r => match compX x with
    | some a => (compPartsS r).map ((i, a) :: ·)
    | none => none

/-- A struct whose first field points to such a struct; a struct that begins with one: its variables stand in blocks of their own. -/
def selfish (P : Program) (t : TypeId) : Bool := match P.underlying t with
  | some (.struct fs) => (match fs[0]? with
    | some f => (match P.underlying f.type with | some (.pointer u) => u == t | _ => false)
    | none => false)
  | _ => false
def spec (P : Program) (t : TypeId) : Bool := selfish P t || (match P.underlying t with
  | some (.struct fs) => (match fs[0]? with | some f => selfish P f.type | none => false)
  | _ => false)

def compI0 (P : Program) (o : Oper) : Option CI :=
  match o.op with
  | .move x => (compX x).map .mv
  | .assign x => (compX x).map .mv
  | .pick c a b => match compX c, compX a, compX b with | some c, some a, some b => some (.pick c a b) | _, _, _ => none
  | .alloc t => (zero? P t).map (.alloc t)
  | .box t x => (compX x).map (.box t)
  | .build t ps => match P.underlying t, zero? P t with
    | some (.struct fs), some z => (match places? P fs, compParts P fs ps.toList with | some _, some ps => some (.build z ps) | _, _ => none)
    | _, _ => none
  | .buildSlice t len ps => match P.underlying t with
    | some (.slice e) => match sizeOf? P e, zero? P e, compPartsS ps.toList with
      | some es, some z, some ps => if len * es ≤ 16777216 ∧ z.length = es ∧ 0 < es then some (.bslice e es z len ps) else none
      | _, _, _ => none
    | _ => none
  | .load t x => match lay? P t, compX x with | some (n, ag), some x => some (.load n ag x) | _, _ => none
  | .store t x y => match lay? P t, compX x, compX y with | some (n, _), some x, some y => some (.store n x y) | _, _, _ => none
  | .nilCheck x => (compX x).map .nilck
  | .binOp op t x y _ => match eqk? P op t x y, compX x, compX y with | some k, some x, some y => some (.bin op k x y) | _, _, _ => none
  | .unOp op _ x => (compX x).map (.un op)
  | .convert s d x => match P.underlying s, P.underlying d, compX x with
    | some (.int _), some (.int k), some x => some (.toint k x)
    | some .string, some .string, some x => some (.same x)
    | some .string, some (.slice e), some x => (match P.underlying e with | some (.int .u8) => some (.s2b x) | _ => none)
    | some (.slice e), some .string, some x => (match P.underlying e with | some (.int .u8) => some (.b2s x) | _ => none)
    | _, _, _ => none
  | .makeInterface t x => match P.underlying t, compX x with
    | some (.interface _), _ => none
    | some _, some x => some (.mkif t x)
    | _, _ => none
  | .makeFunc (.func f) first caps => if first.isEmpty then (compXs caps.toList).map (.mkfn f) else none
  | .makeMap _ none => some .mkmap
  | .slice t x lo hi mx => match P.underlying t, compX x, compO lo, compO hi, compO mx with
    | some (.slice e), some x, some lo, some hi, some mx => (match sizeOf? P e with | some es => if 0 < es ∧ (mx.isNone ∨ hi.isSome) then some (.slice es x lo hi mx) else none | none => none)
    | some .string, some x, some lo, some hi, some none => some (.slices x lo hi)
    | _, _, _, _, _ => none
  | .fieldAddr s x f => match P.underlying s, compX x with
    | some (.struct fs), some x => (match fs[f]? with | some fd => (match sizeOf? P fd.type with | some (_ + 1) => some (.faddr fd.offset x) | _ => none) | none => none)
    | _, _ => none
  | .field s x f => match P.underlying s, compX x with
    | some (.struct fs), some x => (match fs[f]? with | some fd => (match lay? P fd.type with | some (n, ag) => some (.field fd.offset n ag x) | none => none) | none => none)
    | _, _ => none
  | .indexAddr t x i => match P.underlying t, compX x, compX i with
    | some (.slice e), some x, some i => (match sizeOf? P e with | some es => if 0 < es then some (.iaddr es x i) else none | none => none)
    | some (.array n e), some x, some i => (match sizeOf? P e with | some es => if 0 < es then some (.iaddrA n es x i) else none | none => none)
    | _, _, _ => none
  | .index t x i => match P.underlying t, compX x, compX i with
    | some .string, some x, some i => some (.index x i)
    | _, _, _ => none
  | .extract x i => (compX x).map (.ext i)
  | .lookup t m k ok => match P.underlying t, compX m, compX k with
    | some (.map kt et), some m, some k => (match P.underlying kt, zeroV? P et with
      | some .string, some z => some (.lookup true z ok m k)
      | some (.int _), some z => some (.lookup false z ok m k)
      | _, _ => none)
    | _, _, _ => none
  | .mapUpdate t m k v => match P.underlying t, compX m, compX k, compX v with
    | some (.map kt _), some m, some k, some v => (match P.underlying kt with
      | some .string => some (.mapup true m k v)
      | some (.int _) => some (.mapup false m k v)
      | _ => none)
    | _, _, _, _ => none
  | .call c => match c.callee with
    | .value f => match compX f, compXs c.args.toList with | some f, some xs => some (.call f xs) | _, _ => none
    | .builtin .len => match c.args.toList, c.argTypes.toList with
      | [x], [t] => (match P.underlying t, compX x with
        | some .string, some x => some (.len 0 x)
        | some (.slice _), some x => some (.len 1 x)
        | some (.map _ _), some x => some (.len 2 x)
        | _, _ => none)
      | _, _ => none
    | .builtin .append => match c.args.toList, c.argTypes.toList with
      | [s, x], [t, u] => (match P.underlying t, P.underlying u, compX s, compX x with
        | some (.slice e), some (.slice _), some s, some x => (match sizeOf? P e, bytesOf? P e, zero? P e with | some es, some bs, some z => if (0 < es ∧ 0 < bs ∧ bs ≤ 1024 ∧ z.length = es) ∧ spec P e = false then some (.append e es s x) else none | _, _, _ => none)
        | some (.slice e), some .string, some s, some x => (match sizeOf? P e, bytesOf? P e, zero? P e with | some es, some bs, some z => if (es = 1 ∧ 0 < bs ∧ bs ≤ 1024 ∧ z.length = es) ∧ spec P e = false then some (.append e es s x) else none | _, _, _ => none)
        | _, _, _, _ => none)
      | _, _ => none
    | .builtin .clear => match c.args.toList, c.argTypes.toList with
      | [x], [t] => (match P.underlying t, compX x with
        | some (.slice e), some x => (match sizeOf? P e, zero? P e with | some es, some z => if 0 < es ∧ z.length = es then some (.clear es z x) else none | _, _ => none)
        | _, _ => none)
      | _, _ => none
    | .builtin .max => match c.args.toList with | [x, y] => (match compX x, compX y with | some x, some y => some (.minmax true x y) | _, _ => none) | _ => none
    | .builtin .min => match c.args.toList with | [x, y] => (match compX x, compX y with | some x, some y => some (.minmax false x y) | _, _ => none) | _ => none
    | _ => none
  | _ => none

/-- What isn't taken stops the evaluator. -/
def compI (P : Program) (o : Oper) : CI := (compI0 P o).getD .bad

/-- Does it change the heap? -/
def CI.eff : CI → Bool
  | .store _ _ _ => true
  | .append _ _ _ _ => true
  | .mapup _ _ _ _ => true
  | .clear _ _ _ => true
  | .call _ _ => true
  | _ => false
/-- Does it make a block? -/
def CI.makes : CI → Bool
  | .alloc _ _ => true
  | .box _ _ => true
  | .mkmap => true
  | .bslice _ _ _ _ _ => true
  | _ => false
/-- Does it look into the heap, at cells alone? -/
def CI.reads : CI → Bool
  | .load _ _ _ => true
  | _ => false
/-- Does it look into the heap, farther? -/
def CI.peeks : CI → Bool
  | .b2s _ => true
  | .len 2 _ => true
  | .lookup _ _ _ _ _ => true
  | _ => false
/-- The temporaries that it reads. -/
def CX.ps : CX → List Pth
  | .t p => [p]
  | .c _ => []
def optPs : Option CX → List Pth
  | none => []
  | some x => x.ps
def CI.ps : CI → List Pth
  | .mv x => x.ps
  | .pick a b c => a.ps ++ b.ps ++ c.ps
  | .box _ x => x.ps
  | .build _ l => l.flatMap fun (_, _, x) => x.ps
  | .bslice _ _ _ _ l => l.flatMap fun (_, x) => x.ps
  | .load _ _ x => x.ps
  | .store _ x y => x.ps ++ y.ps
  | .nilck x => x.ps
  | .bin _ _ x y => x.ps ++ y.ps
  | .un _ x => x.ps
  | .toint _ x => x.ps
  | .same x => x.ps
  | .s2b x => x.ps
  | .b2s x => x.ps
  | .mkif _ x => x.ps
  | .mkfn _ l => l.flatMap CX.ps
  | .slice _ x a b c => x.ps ++ optPs a ++ optPs b ++ optPs c
  | .slices x a b => x.ps ++ optPs a ++ optPs b
  | .faddr _ x => x.ps
  | .field _ _ _ x => x.ps
  | .iaddr _ x i => x.ps ++ i.ps
  | .iaddrA _ _ x i => x.ps ++ i.ps
  | .index x i => x.ps ++ i.ps
  | .ext _ x => x.ps
  | .len _ x => x.ps
  | .append _ _ x y => x.ps ++ y.ps
  | .lookup _ _ _ x y => x.ps ++ y.ps
  | .mapup _ x y z => x.ps ++ y.ps ++ z.ps
  | .call g l => g.ps ++ l.flatMap CX.ps
  | .minmax _ x y => x.ps ++ y.ps
  | .clear _ _ x => x.ps
  | _ => []
def CO.ps (o : CO) : List Pth := (match o.guard with | some (p, _) => [p] | none => []) ++ o.ins.ps

def compG (ops : Array Oper) (g : Option (Nat × Bool)) : Option (Option (Pth × Bool)) :=
  match g with
  | none => some none
  | some (j, b) => match (ops[j]?).bind (·.dst) with | some t => (toPth t).map fun p => some (p, b) | none => none
def compD : Option Tmp → Option (Option Pth)
  | none => some none
  | some t => (toPth t).map some
def compO1 (P : Program) (ops : Array Oper) (i : Nat) : Option CO :=
  match ops[i]? with
  | none => none
  | some o => match compD o.dst, compG ops o.guard with
    | some d, some g => some { dst := d, guard := g, ins := compI P o, ix := i }
    | _, _ => none
def optM {α β : Type} (g : α → Option β) : List α → Option (List β)
  | [] => some []
  | a :: r => match g a with | some b => (optM g r).map (b :: ·) | none => none

/-- What must come before each operation. -/
def maskOf (acc : List Nat) : List Edge → Nat
  | [] => 0
  | e :: r => if Region.binds .any e then 2 ^ e.on ||| acc.getD e.on 0 ||| maskOf acc r else maskOf acc r
def masks : List Oper → List Nat → List Nat
  | [], acc => acc
  | o :: r, acc => masks r (acc ++ [maskOf acc o.after.toList])
def pred (ms : List Nat) (i j : Nat) : Bool := (ms.getD i 0).testBit j
/-- An order in which changes of the heap come as late as may be. -/
def eager (ms : List Nat) (eff : Nat → Bool) : Nat → List Nat → List Nat → List Nat
  | 0, _, done => done.reverse
  | n + 1, todo, done =>
    let ready := todo.filter fun i => todo.all fun j => !pred ms i j
    match ready.find? (fun i => !eff i), ready with
    | some i, _ => eager ms eff n (todo.erase i) (i :: done)
    | none, i :: _ => eager ms eff n (todo.erase i) (i :: done)
    | none, [] => done.reverse
/-- Every two of a list, in its order. -/
def pairs {α : Type} (r : α → α → Bool) : List α → Bool
  | [] => true
  | a :: l => l.all (r a) && pairs r l
/-- The changes of the heap that are free to come before or behind the operation at a place. -/
def floats (ms : List Nat) (cos : List CO) (o : CO) : List Nat :=
  if o.ins.makes || o.ins.reads || o.ins.peeks then (List.range cos.length).filter fun j => match cos[j]? with
    | some q => q.ix != o.ix && q.ins.eff && !pred ms o.ix q.ix && !pred ms q.ix o.ix
    | none => false
  else []
def okDraw (n : Nat) (ms : List Nat) (cos : List CO) : Bool :=
  (cos.length == n) && (List.range n).all (fun i => cos.any fun o => o.ix == i) &&
  pairs (fun a b => !(a.ix == b.ix) && !pred ms a.ix b.ix && (!a.ins.eff || pred ms b.ix a.ix) && !(a.dst.isSome && a.dst == b.dst)) cos &&
  cos.all (fun b => !(b.ins.peeks && !b.fl.isEmpty) && b.ps.all fun p => cos.all fun a => !(a.dst == some p) || (pred ms b.ix a.ix || pred ms a.ix b.ix || a.ix == b.ix)) &&
  (List.range n).all (fun i => decide (ms.getD i 0 < 2 ^ i))
def compDraw (P : Program) (ops : Array Oper) : Option (List CO) :=
  let ms := masks ops.toList []
  match optM (compO1 P ops) (eager ms (fun i => ((ops[i]?).map fun o => (compI P o).eff).getD false) ops.size (List.range ops.size) []) with
  | some cos =>
    let cos := cos.map fun o => { o with fl := floats ms cos o }
    if okDraw ops.size ms cos = true then some cos else none
  | none => none

def compPths : List Tmp → Option (List Pth)
  | [] => some []
  | t :: r => match toPth t with | some p => (compPths r).map (p :: ·) | none => none

/-- The four parts of a place at which the order of an append in place is left open: a bool, either way. -/
def isMk : CI → Bool
  | .alloc _ [.bool _] => true
  | _ => false
def isPut (b : Bool) (q : Pth) : CI → Bool
  | .store 1 (.t p) (.c (.bool c)) => decide (p = q) && c == b
  | _ => false
def isGet (q : Pth) : CI → Bool
  | .load 1 false (.t p) => decide (p = q)
  | _ => false
def coinOk (ms : List Nat) (q r : Pth) (a b c d : CO) : Bool :=
  a.guard.isNone && b.guard.isNone && c.guard.isNone && d.guard.isNone && b.dst.isNone && c.dst.isNone && !decide (q = r) &&
  isMk a.ins && isPut true q b.ins && isPut false q c.ins && isGet q d.ins && pred ms 1 0 && pred ms 2 0 && pred ms 3 0 && (List.range 4).all (fun i => decide (ms.getD i 0 < 2 ^ i))
def coinR (P : Program) (ops : Array Oper) : Option (Pth × Pth) :=
  if ops.size = 4 then
    match optM (compO1 P ops) [0, 1, 2, 3] with
    | some [a, b, c, d] => (match a.dst, d.dst with
      | some q, some r => if coinOk (masks ops.toList []) q r a b c d = true then some (q, r) else none
      | _, _ => none)
    | _ => none
  else none
def coin? (P : Program) : Code → Option (Pth × Pth)
  | .region _ ops true => coinR P ops
  | _ => none

def compC (P : Program) : Code → Option CC
  | .skip => some .skip
  | .label _ => some .skip
  | .ret => some .ret
  | .exit id => some (.exit id)
  | .seq a b => match coin? P a, b with
    | some (q, r), .cond (.tmp r') x y => if toPth r' = some r then match compC P x, compC P y with | some x, some y => some (.coin q r x y) | _, _ => none else none
    | some _, _ => none
    | none, b => match compC P a, compC P b with | some a, some b => some (.seq a b) | _, _ => none
  | .cond x a b => match compX x, compC P a, compC P b with | some x, some a, some b => some (.cond x a b) | _, _, _ => none
  | .block id c => (compC P c).map (.blk id)
  | .loop c => (compC P c).map .loop
  | .scope c => (compC P c).map .scope
  | .rangeFunc g ps a b => match compX g, compPths ps.toList, compC P a, compC P b with | some g, some ps, some a, some b => some (.rng g ps a b) | _, _, _, _ => none
  | .region _ ops true => (compDraw P ops).map fun l => .reg l true
  | .region _ ops false => (optM (compO1 P ops) (List.range ops.size)).map fun l => .reg l false
  | _ => none

def compR (P : Program) : ResultVar → Option CR
  | .tmp t => (toPth t).map .t
  | .cell a t => match toPth a, lay? P t with | some p, some (n, ag) => some (.cell p n ag) | _, _ => none
def compRs (P : Program) : List ResultVar → Option (List CR)
  | [] => some []
  | x :: r => match compR P x with | some a => (compRs P r).map (a :: ·) | none => none

def depthFor (n : Nat) : Nat := if n < 4 then 2 else if n < 8 then 3 else if n < 16 then 4 else if n < 32 then 5 else if n < 64 then 6 else if n < 128 then 7 else if n < 256 then 8 else if n < 512 then 9 else 10

def compF (P : Program) (mode : Nat) (fn : Func) : Option CF :=
  match fn.body with
  | none => none
  | some c => match compC P c, compRs P fn.results.toList, compPths (List.range (fn.params.size + fn.nfree)) with
    | some c, some rs, some ps => if fn.params.size + fn.nfree ≤ fn.ntmps ∧ fn.ntmps + 1 ≤ 2 ^ depthFor fn.ntmps then some { np := fn.ntmps, params := ps, depth := depthFor fn.ntmps, body := c, results := rs, mode := mode } else none
    | _, _, _ => none

end Go.EV
