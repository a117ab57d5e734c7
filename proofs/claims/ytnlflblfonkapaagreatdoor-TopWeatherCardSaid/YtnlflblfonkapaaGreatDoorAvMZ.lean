/- The interpreter: values, a lowered language, its meaning: no condition. -/
import GoSem.Dispatch
set_option linter.all false
set_option linter.unusedSectionVars false
set_option linter.unusedVariables false
set_option linter.unusedSimpArgs false
set_option linter.unnecessarySimpa false
section
/- An abstract interpreter: values, a lowered language, its meaning as a function with fuel, and the limit of that function over all fuel. Nothing of Go's memory stands here. -/
namespace Av
open Go (IntKind BinOp UnOp)

/-- What is known of a slice's room: none (or it is nil); a token's; nothing. -/
inductive SK where | exact | opn (t : Nat) | shut
  deriving DecidableEq, Repr

inductive AV where
  | bool (b : Bool)
  | int (k : IntKind) (n : Int)
  | nilp
  | ptr (b off : Nat)
  | cptr (cs : List AV)
  | lptr (s g off : Nat)
  | lbox (g : Nat) (cs : List AV)
  | fbox (g : Nat) (cs : List AV)
  | sl (es : List AV) (k : SK)
  | msl (b off len sz : Nat)
  | mp (b : Nat)
  | mv (ks vs : List AV)
  | nilm
  | fn (f : Nat) (first cap : List AV)
  | nilf
  | yld (l : Nat)
  | agg (cs : List AV)
  | tup (vs : List AV)
  | junk
  deriving Inhabited, Repr

/-- The cells of a value, as memory has them. -/
def AV.cells : AV → List AV
  | .agg cs => cs
  | v => [v]

abbrev Env := Nat → AV
def Env.set (e : Env) (k : Nat) (v : AV) : Env := fun j => if j = k then v else e j
def Env.dst (e : Env) (d : Option Nat) (v : AV) : Env := match d with | some k => e.set k v | none => e

inductive Opd where | t (n : Nat) | c (v : AV) | g (n : Nat) | f (n : Nat)
  deriving Inhabited, Repr

/-- Operations that read and write temporaries (and boxes of the frame's own) alone. -/
inductive PIns where
  | mov (x : Opd)
  | pick (c a b : Opd)
  | allocL (s : Nat) (zs : List AV)
  | boxL (s : Nat) (x : Opd)
  | build (zs : List AV) (ps : List (Nat × Nat × Opd))
  | bslice (sz : Nat) (zs : List AV) (len : Nat) (ps : List (Nat × Opd))
  | lad (s : Nat) (off : Nat)
  | faddr (off : Nat) (a : Opd)
  | iaddr (arr : Option Nat) (sz : Nat) (x i : Opd)
  | ladi (s : Nat) (len sz : Nat) (i : Opd)
  | loadL (s : Nat) (n : Nat) (agg : Bool) (a : Option Opd)
  | storeL (s : Nat) (n : Nat) (a : Option Opd) (x : Opd)
  | loadC (n : Nat) (agg : Bool) (a : Opd)
  | lookupV (n : Nat) (zero : AV) (m k : Opd)
  | bin (op : BinOp) (x y : Opd)
  | eqn (k : Option Nat) (neg : Bool) (x y : Opd)
  | un (op : UnOp) (x : Opd)
  | index (len sz : Nat) (agg : Bool) (x i : Opd)
  | field (off n : Nat) (agg : Bool) (x : Opd)
  | slice (sz : Nat) (x : Opd) (lo hi mx : Option Opd)
  | slica (n sz : Nat) (a : Opd)
  /-- all of an array in a box of the frame's own that is never written again -/
  | slicL (s n sz : Nat) (a : Opd)
  | mkfn (f : Nat) (first cap : List Opd)
  | extract (x : Opd) (i : Nat)
  | len (x : Opd)
  | mn (xs : List Opd)
  | mx (xs : List Opd)
  | nilchk (x : Opd)
  deriving Inhabited, Repr

/-- Operations that read or write shared memory. -/
inductive HIns where
  | alloc (zs : List AV)
  | box (x : Opd)
  | load (n : Nat) (agg : Bool) (a : Opd)
  | store (n : Nat) (a x : Opd)
  | bsliceM (sz : Nat) (zs : List AV) (len : Nat) (ps : List (Nat × Opd))
  | mslice (sz : Nat) (zs : List AV) (l c : Opd)
  | mkmap
  | lookup (n : Nat) (zero : AV) (m k : Opd)
  | mapupd (n : Nat) (m k v : Opd)
  | append (sz bytes : Nat) (s x : Opd)
  | appendM (sz bytes : Nat) (s x : Opd)
  /-- elements of memory, appended to a new slice -/
  | appendC (sz bytes : Nat) (s x : Opd)
  /-- a struct is read, and slices of memory in it come to stay -/
  | loadz (n : Nat) (a : Opd)
  /-- zeros, appended to a slice of memory -/
  | appendZ (sz bytes : Nat) (zs : List AV) (s : Opd) (n : Nat)
  /-- an entry of a map of memory, and whether there is one -/
  | lookup2 (n : Nat) (zero : AV) (m k : Opd)
  /-- an entry of a map of memory, laid if there is none, and its place -/
  | mapent (n : Nat) (zero : AV) (m k : Opd)
  | entst (m i v : Opd)
  deriving Inhabited, Repr

inductive Ins where
  | p (i : PIns)
  | h (i : HIns)
  | call (f : Opd) (args : List Opd)
  /-- a call in a memory of its own: arguments and result hold no reference -/
  | calli (f : Opd) (args : List Opd)
  /-- the same, its arguments' slices turned into values first -/
  | callf (f : Opd) (args : List Opd)
  deriving Inhabited, Repr

structure GIns where
  dst : Option Nat
  ins : Ins
  guard : Option (Nat × Bool)
  deriving Inhabited, Repr

inductive ACode where
  | skip | ret | exit (id : Nat)
  | reg (ops : List GIns)
  | seq (a b : ACode)
  | cond (x : Opd) (a b : ACode)
  | block (id : Nat) (c : ACode)
  | loop (c : ACode)
  | rangeF (f : Opd) (ps : List Nat) (asn body : ACode)
  | scope (c : ACode)
  /-- boxes of the frame's own are never written again: no step of the program -/
  | frz (ss : List Nat) (c : ACode)
  /-- slices of memory that lie in a box are never written again: no step of the program -/
  | frzm (s : Nat) (c : ACode)
  /-- a box of the frame's own is memory from here on: no step of the program -/
  | shr (s : Nat) (c : ACode)
  deriving Inhabited, Repr

inductive Res where | t (n : Nat) | cell (a n : Nat) (agg : Bool) | cellL (s n : Nat) (agg : Bool)
  deriving Inhabited, Repr

structure AFn where
  body : ACode
  res : List Res
  nargs : Nat
  deriving Inhabited, Repr

structure Loop where
  env : Env
  ps : List Nat
  asn : ACode
  body : ACode
  state : Nat           -- 0 ready, 1 busy, 2 done, 3 exhausted
  pending : Option ACode

inductive AObj where
  | cells (cs : List AV)
  | frz (cs : List AV)
  | tok
  | dead
  | mp (es : List (AV × AV))
  | fmp (es : List (AV × AV))
  | loop (r : Loop)

structure H where
  n : Nat
  get : Nat → Option AObj
def H.put (h : H) (k : Nat) (o : AObj) : H := ⟨h.n, fun j => if j = k then some o else h.get j⟩
def H.new (h : H) (o : AObj) : H := ⟨h.n + 1, fun j => if j = h.n then some o else h.get j⟩
def H.emp : H := ⟨0, fun _ => none⟩

structure AProg where
  fn : Nat → Option AFn
  glob : Nat → List AV

/-- A value that may be moved: no address of a frame's own box. -/
def AV.okv : AV → Bool
  | .lptr .. | .lbox .. | .fbox .. => false
  | _ => true

/-- what fits into one cell of memory -/
def AV.flat : AV → Bool
  | .agg _ | .tup _ | .junk | .lptr .. | .lbox .. | .fbox .. => false
  | _ => true
def AV.flats (v : AV) : Bool := v.cells.all AV.flat

section
variable (p : AProg)

def evr (e : Env) : Opd → AV
  | .t n => match e n with | .fbox _ cs => .cptr cs | v => v
  | .c v => v
  | .g n => .cptr (p.glob n)
  | .f n => .fn n [] []
def ev (e : Env) (x : Opd) : Option AV := if (evr p e x).okv then some (evr p e x) else none
def evs (e : Env) : List Opd → Option (List AV)
  | [] => some []
  | x :: xs => match ev p e x, evs e xs with
    | some v, some vs => some (v :: vs)
    | _, _ => none

/-- what a slice is as an element, an argument or a result: nothing is known of its room -/
def AV.shut1 : AV → AV
  | .sl es _ => .sl es .shut
  | v => v
def AV.shuts : List AV → List AV
  | [] => []
  | v :: vs => v.shut1 :: AV.shuts vs
def AV.shut2 : AV → AV
  | .agg cs => .agg (AV.shuts cs)
  | v => v.shut1
def AV.shut2s : List AV → List AV
  | [] => []
  | v :: vs => v.shut2 :: AV.shut2s vs
def AV.shutv : AV → AV
  | .tup vs => .tup (AV.shut2s vs)
  | v => v.shut2

mutual
/-- no reference to memory, and nothing open -/
def AV.clean : AV → Bool
  | .bool _ | .int .. | .nilp | .nilm | .nilf => true
  | .sl es k => (match k with | .opn _ => false | _ => true) && cleans es
  | .agg cs => cleans cs
  | .tup vs => cleans vs
  | .cptr cs => cleans cs
  | .mv ks vs => cleans ks && cleans vs
  | .fn _ a b => cleans a && cleans b
  | _ => false
def cleans : List AV → Bool
  | [] => true
  | x :: xs => x.clean && cleans xs
end

def wantI : AV → Option Int
  | .int _ n => some n
  | _ => none

/-- are two numbers the same? -/
def aeq1 : AV → AV → Option Bool
  | .int k a, .int k' b => if k = k' then some (a == b) else none
  | _, _ => none
def aeqs : List AV → List AV → Option Bool
  | [], [] => some true
  | x :: xs, y :: ys => match aeq1 x y, aeqs xs ys with
    | some a, some b => some (a && b)
    | _, _ => none
  | _, _ => none
def eqk : Option Nat → AV → AV → Option Bool
  | none, .bool a, .bool b => some (a == b)
  | some n, .agg xs, .agg ys => if xs.length = n ∧ ys.length = n then aeqs xs ys else none
  | _, _, _ => none

def binI (op : BinOp) (k : IntKind) (a b : Int) : Option AV :=
  match op with
  | .add => some (.int k (k.wrap (a + b)))
  | .sub => some (.int k (k.wrap (a - b)))
  | .mul => some (.int k (k.wrap (a * b)))
  | .quo => if b = 0 then none else some (.int k (k.wrap (a.tdiv b)))
  | .rem => if b = 0 then none else some (.int k (a.tmod b))
  | .and => some (.int k (k.wrap ((BitVec.ofInt k.bits a &&& BitVec.ofInt k.bits b).toNat : Int)))
  | .or => some (.int k (k.wrap ((BitVec.ofInt k.bits a ||| BitVec.ofInt k.bits b).toNat : Int)))
  | .xor => some (.int k (k.wrap ((BitVec.ofInt k.bits a ^^^ BitVec.ofInt k.bits b).toNat : Int)))
  | .andNot => some (.int k (k.wrap ((BitVec.ofInt k.bits a &&& ~~~ BitVec.ofInt k.bits b).toNat : Int)))
  | .eql => some (.bool (a == b))
  | .neq => some (.bool (a != b))
  | .lss => some (.bool (decide (a < b)))
  | .leq => some (.bool (decide (a ≤ b)))
  | .gtr => some (.bool (decide (a > b)))
  | .geq => some (.bool (decide (a ≥ b)))
  | _ => none

def shift (op : BinOp) (k : IntKind) (a b : Int) : Option AV :=
  if b < 0 then none else
  match op with
  | .shl => some (.int k (k.wrap (a * 2 ^ (min b.toNat k.bits))))
  | .shr => some (.int k (a.fdiv (2 ^ (min b.toNat k.bits))))
  | _ => none

def bin (op : BinOp) (x y : AV) : Option AV :=
  match x, y with
  | .int k a, .int k' b =>
    match op with
    | .shl | .shr => shift op k a b
    | _ => if k = k' then binI op k a b else none
  | _, _ => none

def un (op : UnOp) : AV → Option AV
  | .int k n => match op with | .neg => some (.int k (k.wrap (0 - n))) | _ => none
  | .bool b => match op with | .not => some (.bool !b) | _ => none
  | _ => none

/-- parts of a struct's or an array's cells -/
def part (cs : List AV) (off n : Nat) (agg : Bool) : Option AV :=
  if off + n ≤ cs.length then
    if agg then some (.agg ((cs.drop off).take n))
    else match cs[off]? with | some v => some v | none => none
  else none
def splice (cs : List AV) (off : Nat) (new : List AV) : List AV := cs.take off ++ new ++ cs.drop (off + new.length)
def okc (cs : List AV) : Bool := cs.all AV.okv

def fill (e : Env) (cs : List AV) : List (Nat × Nat × Opd) → Option (List AV)
  | [] => some cs
  | (off, n, x) :: ps => match ev p e x with
    | some v => if v.flats = true ∧ v.cells.length = n ∧ off + n ≤ cs.length then fill e (splice cs off v.cells) ps else none
    | none => none
/-- elements of a slice literal -/
def elems (e : Env) (sz : Nat) (es : List AV) : List (Nat × Opd) → Option (List AV)
  | [] => some es
  | (i, x) :: ps => match ev p e x with
    | some v => if v.flats = true ∧ v.cells.length = sz ∧ i < es.length then elems e sz (es.set i v.shutv) ps else none
    | none => none

/-- the element of so many cells -/
def unit : List AV → AV
  | [z] => z
  | zs => .agg zs

def natOf : AV → Option Nat
  | .int _ n => if 0 ≤ n then some n.toNat else none
  | _ => none
def onat (e : Env) (d : Nat) : Option Opd → Option Nat
  | none => some d
  | some x => match ev p e x with | some v => natOf v | none => none

def omx (e : Env) : Option Opd → Option (Option Nat)
  | none => some none
  | some x => match onat p e 0 (some x) with | some n => some (some n) | none => none
/-- a part of a slice -/
def cut (es : List AV) (l h : Nat) : Option Nat → Option AV
  | none => if l ≤ h ∧ h ≤ es.length then some (.sl ((es.take h).drop l) .shut) else none
  | some m => if l ≤ h ∧ h ≤ m ∧ m ≤ es.length then some (.sl ((es.take h).drop l) (if m = h then .exact else .shut)) else none

def foldI (f : Int → Int → Int) (k : IntKind) : List AV → Option Int
  | [] => none
  | [.int k' a] => if k = k' then some a else none
  | .int k' a :: xs => if k = k' then (foldI f k xs).map (f a) else none
  | _ => none

def mmI (f : Int → Int → Int) : List AV → Option AV
  | .int k a :: xs => (xs.foldl (init := some a) fun acc x => match acc, x with | some a, .int k' b => if k = k' then some (f a b) else none | _, _ => none).map (.int k)
  | _ => none

/-- the address operand of a frame's own box: 'none' is its begin -/
def lofs (e : Env) (s g : Nat) : Option Opd → Option Nat
  | none => some 0
  | some (.t n) => match e n with | .lptr s' g' off => if s' = s ∧ g' = g then some off else none | _ => none
  | some _ => none

def keyLen (n : Nat) : AV → Bool
  | .agg xs => decide (xs.length = n)
  | _ => false
def findv (n : Nat) (k : AV) : List AV → List AV → Option (Option AV)
  | [], _ => some none
  | k' :: ks, vs => match eqk (some n) k k' with
    | some true => (match vs with | v :: _ => some (some v) | [] => none)
    | some false => findv n k ks vs.tail
    | none => none

/-- a box of the frame's own is laid anew -/
def gen (e : Env) (s : Nat) : Nat := match e s with | .lbox g _ | .fbox g _ => g + 1 | _ => 0

/-- cells of memory as elements -/
def chunk (sz : Nat) : Nat → List AV → List AV
  | 0, _ => []
  | n + 1, cs => (if sz = 1 then (match cs with | c :: _ => c | [] => .junk) else .agg (cs.take sz)) :: chunk sz n (cs.drop sz)
/-- A value, and what is written besides it (a slot). -/
def stepP (e : Env) : PIns → Option (AV × Option (Nat × AV))
  | .mov x => match ev p e x with | some v => some (v, none) | none => none
  | .pick c a b => match ev p e c with
    | some (.bool true) => match ev p e a with | some v => some (v, none) | none => none
    | some (.bool false) => match ev p e b with | some v => some (v, none) | none => none
    | _ => none
  | .allocL s zs => some (.lbox (gen e s) zs, none)
  | .boxL s x => match ev p e x with | some v => if v.flats then some (.lbox (gen e s) v.cells, none) else none | none => none
  | .build zs ps => match fill p e zs ps with | some cs => some (.agg cs, none) | none => none
  | .bslice sz zs len ps => match elems p e sz (List.replicate len (unit zs)) ps with
    | some es => some (.sl es .exact, none)
    | none => none
  | .lad s off => match e s with | .lbox g _ | .fbox g _ => some (.lptr s g off, none) | _ => none
  | .ladi s len sz i => match e s, ev p e i with
    | .lbox g _, some (.int _ i) | .fbox g _, some (.int _ i) => if 0 ≤ i ∧ i < len then some (.lptr s g (i.toNat * sz), none) else none
    | _, _ => none
  | .faddr off a => match evr p e a with
    | .ptr b o => some (.ptr b (o + off), none)
    | .cptr cs => if off ≤ cs.length then some (.cptr (cs.drop off), none) else none
    | .lptr s g o => some (.lptr s g (o + off), none)
    | _ => none
  | .iaddr arr sz x i => match ev p e i with
    | some (.int _ i) =>
      match arr, evr p e x with
      | some len, .ptr b o => if 0 ≤ i ∧ i < len then some (.ptr b (o + i.toNat * sz), none) else none
      | some len, .cptr cs => if 0 ≤ i ∧ i < len ∧ i.toNat * sz ≤ cs.length then some (.cptr (cs.drop (i.toNat * sz)), none) else none
      | some len, .lptr s g o => if 0 ≤ i ∧ i < len then some (.lptr s g (o + i.toNat * sz), none) else none
      | none, .sl es _ => if 0 ≤ i then (match es[i.toNat]? with
          | some v => if v.cells.length = sz then some (.cptr v.cells, none) else none
          | none => none) else none
      | none, .msl b o len sz' => if 0 ≤ i ∧ i < len ∧ sz' = sz then some (.ptr b (o + i.toNat * sz), none) else none
      | _, _ => none
    | _ => none
  | .loadL s n agg a => match e s with
    | .lbox g cs | .fbox g cs => match lofs e s g a with
      | some off => match part cs off n agg with | some v => some (v, none) | none => none
      | none => none
    | _ => none
  | .storeL s n a x => match e s, ev p e x with
    | .lbox g cs, some v => match lofs e s g a with
      | some off => if v.flats = true ∧ v.cells.length = n ∧ off + n ≤ cs.length then some (.tup [], some (s, .lbox g (splice cs off v.cells))) else none
      | none => none
    | _, _ => none
  | .loadC n agg a => match ev p e a with
    | some (.cptr cs) => match part cs 0 n agg with | some v => some (v, none) | none => none
    | _ => none
  | .lookupV n z m k => match ev p e m, ev p e k with
    | some (.mv ks vs), some k => if keyLen n k then (match findv n k ks vs with
      | some (some v) => some (v, none)
      | some none => some (z, none)
      | none => none) else none
    | _, _ => none
  | .bin op x y => match ev p e x, ev p e y with
    | some v, some w => match bin op v w with | some r => some (r, none) | none => none
    | _, _ => none
  | .eqn k neg x y => match ev p e x, ev p e y with
    | some v, some w => match eqk k v w with | some b => some (.bool (if neg then !b else b), none) | none => none
    | _, _ => none
  | .un op x => match ev p e x with
    | some v => match un op v with | some r => some (r, none) | none => none
    | none => none
  | .index len sz agg x i => match ev p e x, ev p e i with
    | some (.agg cs), some (.int _ i) => if 0 ≤ i ∧ i < len then (match part cs (i.toNat * sz) sz agg with | some v => some (v, none) | none => none) else none
    | _, _ => none
  | .field off n agg x => match ev p e x with
    | some (.agg cs) => match part cs off n agg with | some v => some (v, none) | none => none
    | _ => none
  | .slice sz x lo hi mx => match ev p e x with
    | some (.sl es _) => if es.all (fun v => decide (v.cells.length = sz)) then
        (match onat p e 0 lo, onat p e es.length hi, omx p e mx with
        | some l, some h, some m => (match cut es l h m with | some v => some (v, none) | none => none)
        | _, _, _ => none) else none
    | _ => none
  | .slica n sz a => match ev p e a with
    | some (.ptr b o) => some (.msl b o n sz, none)
    | _ => none
  | .slicL s n sz a => match e s with
    | .fbox g cs => match lofs e s g (some a) with
      | some off => if off + n * sz ≤ cs.length ∧ cs.all AV.flat = true then some (.sl (chunk sz n (cs.drop off)) .shut, none) else none
      | none => none
    | _ => none
  | .mkfn f first cap => match evs p e first, evs p e cap with
    | some a, some b => some (.fn f a b, none)
    | _, _ => none
  | .extract x i => match ev p e x with
    | some (.tup vs) => match vs[i]? with | some v => some (v, none) | none => none
    | _ => none
  | .len x => match ev p e x with
    | some (.sl es _) => some (.int .i64 es.length, none)
    | some (.msl _ _ len _) => some (.int .i64 len, none)
    | _ => none
  | .mn xs => match evs p e xs with | some vs => (match mmI (fun a b => if b < a then b else a) vs with | some v => some (v, none) | none => none) | none => none
  | .mx xs => match evs p e xs with | some vs => (match mmI (fun a b => if b > a then b else a) vs with | some v => some (v, none) | none => none) | none => none
  | .nilchk x => match ev p e x with
    | some (.ptr b o) => some (.ptr b o, none)
    | some (.cptr cs) => some (.cptr cs, none)
    | _ => none

/-- the elements of what is appended, or frozen -/
def elemsOf (sz : Nat) : AV → Option (List AV)
  | .sl es _ => if es.all (fun v => decide (v.cells.length = sz) && v.flats) then some es else none
  | _ => none

def roomFor (n bytes : Nat) : Bool := decide (n * bytes ≤ 140737488355328 ∧ n ≤ 4611686018427387904)

def findk (n : Nat) (k : AV) : List (AV × AV) → Option (Option AV)
  | [] => some none
  | (k', v) :: es => match eqk (some n) k k' with
    | some true => some (some v)
    | some false => findk n k es
    | none => none
def setk (n : Nat) (k v : AV) : List (AV × AV) → Option (List (AV × AV))
  | [] => some [(k, v)]
  | (k', v') :: es => match eqk (some n) k k' with
    | some true => some ((k, v) :: es)
    | some false => (setk n k v es).map ((k', v') :: ·)
    | none => none

/-- the place of an entry -/
def findi (n : Nat) (k : AV) : List (AV × AV) → Option (Option Nat)
  | [] => some none
  | (k', _) :: es => match eqk (some n) k k' with
    | some true => some (some 0)
    | some false => (match findi n k es with | some (some i) => some (some (i + 1)) | some none => some none | none => none)
    | none => none
/-- elements are appended to a slice of memory, or to an empty one -/
def appM (h : H) (sz bytes : Nat) (new : List AV) : AV → Option (AV × H)
  | .sl [] .exact => if new.length = 0 then some (.sl [] .exact, h) else
      if roomFor new.length bytes = true then some (.msl h.n 0 new.length sz, h.new (.cells (new.flatMap AV.cells))) else none
  | .msl b 0 len sz' => match h.get b with
    | some (.cells cs) => if sz' = sz ∧ cs.length = len * sz ∧ roomFor (len + new.length) bytes = true ∧ new.length ≠ 0 then
        some (.msl h.n 0 (len + new.length) sz, (h.put b .dead).new (.cells (cs ++ new.flatMap AV.cells))) else none
    | _ => none
  | _ => none
/-- the elements of a slice of memory -/
def elemsM (h : H) (sz : Nat) : AV → Option (List AV)
  | .msl b off len sz' => match h.get b with
    | some (.cells cs) => if sz' = sz ∧ off + len * sz ≤ cs.length ∧ cs.all AV.flat = true then some (chunk sz len (cs.drop off)) else none
    | _ => none
  | _ => none

/-- slices of memory that are frozen, as values -/
def fzv (h : H) (v : AV) : AV := match v with
  | .msl b off len sz => match h.get b with
    | some (.frz cs) => if off + len * sz ≤ cs.length ∧ cs.all AV.flat = true then .sl (chunk sz len (cs.drop off)) .shut else .junk
    | _ => .junk
  | v => v
def fzvs (h : H) : List AV → List AV
  | [] => []
  | v :: vs => fzv h v :: fzvs h vs
def fzid (v : AV) : List Nat := match v with | .msl b _ _ _ => [b] | _ => []
def fzids : List AV → List Nat
  | [] => []
  | v :: vs => fzid v ++ fzids vs
def fzH (h : H) : List Nat → H
  | [] => h
  | b :: bs => fzH (match h.get b with | some (.cells cs) => h.put b (.frz cs) | _ => h) bs

def stepH (e : Env) (h : H) : HIns → Option (AV × H)
  | .alloc zs => some (.ptr h.n 0, h.new (.cells zs))
  | .box x => match ev p e x with | some v => if v.flats then some (.ptr h.n 0, h.new (.cells v.cells)) else none | none => none
  | .load n agg a => match ev p e a with
    | some (.ptr b o) => if b < h.n then (match h.get b with
      | some (.cells cs) => (match part cs o n agg with | some v => some (v, h) | none => none)
      | some (.frz cs) => (match part cs o n agg with | some v => some (v, h) | none => none)
      | _ => none) else none
    | some (.cptr cs) => match part cs 0 n agg with | some v => some (v, h) | none => none
    | _ => none
  | .store n a x => match ev p e a, ev p e x with
    | some (.ptr b o), some v => match h.get b with
      | some (.cells cs) => if v.flats = true ∧ v.cells.length = n ∧ o + n ≤ cs.length then some (.tup [], h.put b (.cells (splice cs o v.cells))) else none
      | _ => none
    | _, _ => none
  | .bsliceM sz zs len ps => match elems p e sz (List.replicate len (unit zs)) ps with
    | some es => some (.msl h.n 0 len sz, h.new (.cells (es.flatMap AV.cells)))
    | none => none
  | .mslice sz zs l c => match ev p e l, ev p e c with
    | some (.int _ l), some (.int _ c) => if 0 ≤ l ∧ l = c ∧ l ≤ 1048576 then
        some (.msl h.n 0 l.toNat sz, h.new (.cells ((List.replicate l.toNat zs).flatten))) else none
    | _, _ => none
  | .mkmap => some (.mp h.n, h.new (.mp []))
  | .lookup n z m k => match ev p e m, ev p e k with
    | some (.mp b), some k => if keyLen n k = false then none else match h.get b with
      | some (.mp es) => match findk n k es with
        | some (some v) => some (v, h)
        | some none => some (z, h)
        | none => none
      | _ => none
    | _, _ => none
  | .mapupd n m k v => match ev p e m, ev p e k, ev p e v with
    | some (.mp b), some k, some v => if keyLen n k = false ∨ v.flat = false then none else match h.get b with
      | some (.mp es) => match setk n k v es with | some es' => some (.tup [], h.put b (.mp es')) | none => none
      | _ => none
    | _, _, _ => none
  | .append sz bytes s x => match ev p e s, ev p e x with
    | some (.sl es k), some x => match elemsOf sz x with
      | some new =>
        if new.length = 0 then some (.sl es k, h) else
        if es.all (fun v => decide (v.cells.length = sz)) = true ∧ roomFor (es.length + new.length) bytes = true then
          match k with
          | .exact => some (.sl (es ++ new.map AV.shutv) (.opn h.n), h.new .tok)
          | .opn t => match h.get t with
            | some .tok => some (.sl (es ++ new.map AV.shutv) (.opn h.n), (h.put t .dead).new .tok)
            | _ => none
          | .shut => none
        else none
      | none => none
    | _, _ => none
  | .appendM sz bytes s x => match ev p e s, ev p e x with
    | some s, some x => match elemsOf sz x with
      | some new => appM h sz bytes new s
      | none => none
    | _, _ => none
  | .appendC sz bytes s x => match ev p e s, ev p e x with
    | some (.sl [] .exact), some x => match elemsM h sz x with
      | some new => if new.length = 0 then some (.sl [] .exact, h) else
          if roomFor new.length bytes = true then some (.sl (new.map AV.shutv) (.opn h.n), h.new .tok) else none
      | none => none
    | _, _ => none
  | .loadz n a => match ev p e a with
    | some (.ptr b o) => match h.get b with
      | some (.cells cs) => (match part cs o n true with | some (.agg vs) => some (.agg (fzvs (fzH h (fzids vs)) vs), fzH h (fzids vs)) | _ => none)
      | _ => none
    | _ => none
  | .appendZ sz bytes zs s n => match ev p e s with
    | some (.msl b 0 len sz') => match h.get b with
      | some (.cells cs) => if sz' = sz ∧ cs.length = len * sz ∧ roomFor (len + n) bytes = true ∧ n ≠ 0 then
          some (.msl h.n 0 (len + n) sz, (h.put b .dead).new (.cells (cs ++ (List.replicate n zs).flatten))) else none
      | _ => none
    | _ => none
  | .lookup2 n z m k => match ev p e m, ev p e k with
    | some (.mp b), some k => if keyLen n k = false then none else match h.get b with
      | some (.mp es) => match findk n k es with
        | some (some v) => some (.tup [v, .bool true], h)
        | some none => some (.tup [z, .bool false], h)
        | none => none
      | _ => none
    | _, _ => none
  | .mapent n z m k => match ev p e m, ev p e k with
    | some (.mp b), some k => if keyLen n k = false then none else match h.get b with
      | some (.mp es) => match findi n k es with
        | some (some i) => (match es[i]? with
          | some q => some (.tup [q.2, .int .i64 i], h.put b (.mp (es.set i (k, q.2))))
          | none => none)
        | some none => if es.length < 1048576 then some (.tup [z, .int .i64 es.length], h.put b (.mp (es ++ [(k, z)]))) else none
        | none => none
      | _ => none
    | _, _ => none
  | .entst m i v => match ev p e m, ev p e i, ev p e v with
    | some (.mp b), some (.int .i64 i), some v => if i < 0 ∨ v.flat = false then none else match h.get b with
      | some (.mp es) => (match es[i.toNat]? with
        | some q => some (.tup [], h.put b (.mp (es.set i.toNat (q.1, v))))
        | none => none)
      | _ => none
    | _, _, _ => none

/-- slices and maps of memory turned into values, in a value and its parts -/
def frz1 (h : H) (v : AV) : AV := match v with
  | .msl b off len sz => match h.get b with
    | some (.cells cs) | some (.frz cs) => if off + len * sz ≤ cs.length ∧ cs.all AV.flat = true then .sl (chunk sz len (cs.drop off)) .shut else .junk
    | _ => .junk
  | .mp b => match h.get b with
    | some (.mp es) | some (.fmp es) => .mv (es.map (·.1)) (es.map fun q => q.2.shut1)
    | _ => .junk
  | v => v.shut1
def frzs (h : H) : List AV → List AV
  | [] => []
  | v :: vs => frz1 h v :: frzs h vs
def frz2 (h : H) : AV → AV
  | .agg cs => .agg (frzs h cs)
  | v => frz1 h v
def frz2s (h : H) : List AV → List AV
  | [] => []
  | v :: vs => frz2 h v :: frz2s h vs
def frz3 (h : H) : AV → AV
  | .tup vs => .tup (frz2s h vs)
  | v => frz2 h v
def fid (v : AV) : List Nat := match v with | .msl b _ _ _ | .mp b => [b] | _ => []
def fids : AV → List Nat
  | .agg cs => cs.flatMap fid
  | v => fid v
def frzH (h : H) : List Nat → H
  | [] => h
  | b :: bs => frzH (match h.get b with | some (.cells cs) => h.put b (.frz cs) | some (.mp es) => h.put b (.fmp es) | _ => h) bs
def frzE (e : Env) : List Nat → Option Env
  | [] => some e
  | s :: ss => match e s with
    | .lbox g cs => frzE (e.set s (.fbox g cs)) ss
    | .fbox _ _ => frzE e ss
    | _ => none

def wantedA (e : Env) : Option (Nat × Bool) → Option Bool
  | none => some true
  | some (s, w) => match e s with
    | .bool b => some (b == w)
    | .tup [] => some false
    | _ => none

inductive Out where | normal | exit (id : Nat) | ret
  deriving DecidableEq, Repr

def rdRes (e : Env) (h : H) : Res → Option AV
  | .t n => ev p e (.t n)
  | .cell a n agg => match e a with
    | .ptr b o => match h.get b with
      | some (.cells cs) | some (.frz cs) => part cs o n agg
      | _ => none
    | _ => none
  | .cellL s n agg => match e s with
    | .lbox _ cs | .fbox _ cs => part cs 0 n agg
    | _ => none
def rdRess (e : Env) (h : H) : List Res → Option (List AV)
  | [] => some []
  | r :: rs => match rdRes p e h r, rdRess e h rs with
    | some v, some vs => some (v :: vs)
    | _, _ => none
def results (F : AFn) (e : Env) (h : H) : Option AV := match rdRess p e h F.res with
  | some [v] => some v
  | some vs => some (.tup vs)
  | none => none

def init (args : List AV) : Env := fun j => args.getD j (.tup [])
/-- what a round's frame may know of its loop's frame -/
def unl (s : Nat) : AV → AV
  | .lptr s' g o => if s' = s then .junk else .lptr s' g o
  | v => v
/-- the box at s becomes memory -/
def Env.shr (e : Env) (s n : Nat) : Env := fun k => if k = s then .ptr n 0 else unl s (e k)
def snap (e : Env) : Env := fun j => match e j with
  | .fbox _ cs => .cptr cs
  | v => if v.okv then v else .junk
def setAll (e : Env) : List Nat → List AV → Env
  | k :: ks, v :: vs => setAll (e.set k v) ks vs
  | _, _ => e

def pend : ACode → Option Out
  | .ret => some .ret
  | .exit i => some (.exit i)
  | _ => none

mutual
def exec : Nat → ACode → Env → H → Option (Out × Env × H)
  | 0, _, _, _ => none
  | _ + 1, .skip, e, h => some (.normal, e, h)
  | _ + 1, .ret, e, h => some (.ret, e, h)
  | _ + 1, .exit i, e, h => some (.exit i, e, h)
  | n + 1, .reg ops, e, h => match opsx n ops e h with | some (e, h) => some (.normal, e, h) | none => none
  | n + 1, .seq a b, e, h => match exec n a e h with
    | some (.normal, e, h) => exec n b e h
    | some (.exit i, e, h) => some (.exit i, e, h)
    | some (.ret, e, h) => some (.ret, e, h)
    | none => none
  | n + 1, .cond x a b, e, h => match ev p e x with
    | some (.bool true) => exec n a e h
    | some (.bool false) => exec n b e h
    | _ => none
  | n + 1, .block i c, e, h => match exec n c e h with
    | some (.normal, e, h) => some (.normal, e, h)
    | some (.exit j, e, h) => if j = i then some (.normal, e, h) else some (.exit j, e, h)
    | some (.ret, e, h) => some (.ret, e, h)
    | none => none
  | n + 1, .loop c, e, h => match exec n c e h with
    | some (.normal, e, h) => exec n (.loop c) e h
    | some (.exit i, e, h) => some (.exit i, e, h)
    | some (.ret, e, h) => some (.ret, e, h)
    | none => none
  | n + 1, .scope c, e, h => exec n c e h
  | n + 1, .frz ss c, e, h => match frzE e ss with | some e => exec n c e h | none => none
  | n + 1, .frzm s c, e, h => match e s with
    | .lbox g cs => exec n c (e.set s (.lbox g (fzvs (fzH h (fzids cs)) cs))) (fzH h (fzids cs))
    | _ => none
  | n + 1, .shr s c, e, h => match e s with
    | .lbox _ cs => exec n c (e.shr s h.n) (h.new (.cells cs))
    | _ => none
  | n + 1, .rangeF f ps asn body, e, h => match ev p e f with
    | some f =>
      match callx n f [.yld h.n] (h.new (.loop ⟨snap e, ps, asn, body, 0, none⟩)) with
      | some (_, h2) => match h2.get h.n with
        | some (.loop r) =>
          if r.state = 1 then none else
          match r.pending with
          | none => some (.normal, e, h2.put h.n (.loop { r with state := 3 }))
          | some c => match pend c with
            | some o => some (o, e, h2.put h.n (.loop { r with state := 3 }))
            | none => none
        | _ => none
      | none => none
    | none => none
def opsx : Nat → List GIns → Env → H → Option (Env × H)
  | 0, _, _, _ => none
  | _ + 1, [], e, h => some (e, h)
  | n + 1, o :: os, e, h => match wantedA e o.guard with
    | some false => opsx n os (e.dst o.dst (.tup [])) h
    | some true => match o.ins with
      | .p i => match stepP p e i with
        | some (v, none) => opsx n os (e.dst o.dst v) h
        | some (v, some (s, w)) => opsx n os ((e.set s w).dst o.dst v) h
        | none => none
      | .h i => match stepH p e h i with
        | some (v, h) => opsx n os (e.dst o.dst v) h
        | none => none
      | .call f args => match ev p e f, evs p e args with
        | some f, some vs => match callx n f vs h with
          | some (v, h) => opsx n os (e.dst o.dst v) h
          | none => none
        | _, _ => none
      | .calli f args => match ev p e f, evs p e args with
        | some f, some vs => if f.clean && cleans (vs.map AV.shutv) then
            match callx n f (vs.map AV.shutv) H.emp with
            | some (v, h') => if (frz3 h' v).clean then opsx n os (e.dst o.dst (frz3 h' v)) h else none
            | none => none
          else none
        | _, _ => none
      | .callf f args => match ev p e f, evs p e args with
        | some f, some vs => if f.clean && cleans (vs.map (frz2 h)) then
            match callx n f (vs.map (frz2 h)) H.emp with
            | some (v, h') => if (frz3 h' v).clean then opsx n os (e.dst o.dst (frz3 h' v)) (frzH h (vs.flatMap fids)) else none
            | none => none
          else none
        | _, _ => none
    | none => none
def callx : Nat → AV → List AV → H → Option (AV × H)
  | 0, _, _, _ => none
  | n + 1, .fn f first cap, args, h => match p.fn f with
    | some F => if (first ++ args ++ cap).length = F.nargs then
        match exec n F.body (init (first ++ args ++ cap)) h with
        | some (.normal, e, h) | some (.ret, e, h) => (match results p F e h with | some v => some (v, h) | none => none)
        | _ => none
      else none
    | none => none
  | n + 1, .yld l, args, h => match h.get l with
    | some (.loop r) =>
      if args.length = r.ps.length ∧ r.state = 0 then
        match exec n r.asn (setAll r.env r.ps args) h with
        | some (.normal, e, h) => match h.get l with
          | some (.loop r1) =>
            if r1.state = 0 then
              match exec n r.body e (h.put l (.loop { r1 with state := 1 })) with
              | some (o, _, h) => match h.get l with
                | some (.loop r) => match o with
                  | .normal => some (.bool true, h.put l (.loop { r with state := 0, pending := none }))
                  | .ret => some (.bool false, h.put l (.loop { r with state := 2, pending := some .ret }))
                  | .exit i => some (.bool false, h.put l (.loop { r with state := 2, pending := some (.exit i) }))
                | _ => none
              | none => none
            else none
          | _ => none
        | _ => none
      else none
    | _ => none
  | _ + 1, _, _, _ => none
end
end
end Av
end
