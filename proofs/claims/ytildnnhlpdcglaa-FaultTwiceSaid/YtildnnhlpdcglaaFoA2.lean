/-
  A machine over values without memory, for the model's code: its operations and its code (part 2).
-/
import Derived.Test.YtildnnhlpdcglaaFoA1
namespace Fo
open Go

inductive Mode where
  | lend | give | bor
  deriving DecidableEq, Repr, Inhabited

/-- What is known of numbers that are not told: is a below b (or: is it b)? -/
abbrev Fact := Bool × SE × SE × Bool

/-- How functions take what they are given; what is known. -/
structure Abi where
  modes : Nat → List Mode
  fx : List Fact := []

instance : CoeFun Abi (fun _ => Nat → List Mode) := ⟨Abi.modes⟩

/-- What an operation does with the values of its operands. -/
inductive K where
  | mv
  | lit
  | nilck
  | pick
  | box (n : Nat)
  | zero (cells : List V)
  | build (zero : List V) (places : List (Nat × Nat))
  | buildSl (n : Nat) (zero : List V) (len : Nat) (places : List Nat)
  | load (n : Option Nat)
  | store (n : Nat)
  | storeL (n : Nat)
  | faddr (off : Nat)
  | iaddr (n : Nat)
  | iaddrA (len n : Nat)
  | field (off : Nat) (n : Option Nat)
  | index (len size : Nat) (n : Option Nat)
  | extract (k : Nat)
  | bin (op : BinOp)
  | eqnil (neg : Bool)
  | eqv (agg : Bool) (sig : List (Option IntKind)) (neg : Bool)
  | un (op : UnOp)
  | conv (k : IntKind)
  | len
  | lenA (n : Nat)
  | app (n bytes : Nat) (zero : List V)
  | slice (n : Nat) (lo hi : Bool)
  | clear (zero : List V)
  | least
  | most
  | mkmap
  | mkslice (zero : List V) (bytes : Nat)
  | mkfn (f nfirst : Nat)
  | lookup (agg : Bool) (sig : List (Option IntKind)) (zero : V) (ok : Bool)
  | mapset (agg : Bool) (sig : List (Option IntKind))
  | call (f : Nat)
  | callv
  | bad
  | capE
  | slice3
  | buildSlL (n : Nat) (zero : List V) (len : Nat) (places : List Nat)
  | appZ (bytes : Nat) (zero : List V)
  deriving Inhabited

/-- Whether it may make memory. -/
def K.makes : K → Bool
  | .lit | .box _ | .zero _ | .build _ _ | .buildSl _ _ _ _ | .storeL _ | .app _ _ _ | .mkmap | .mkslice _ _ | .call _ | .callv | .appZ _ _ | .buildSlL _ _ _ _ => true
  | _ => false

structure Res where
  v : V
  h : Heap
  bx : List ((Nat × Nat × Nat) × List V) := []
  fz : Ids := []

def unit : V := .tup []

/-- A number of a kind is one of it. -/
def binInt (op : BinOp) (k : IntKind) (a : Int) (yk : IntKind) (b : Int) : Option V :=
  match op with
  | .shl => if b < 0 then none else some (.int k (k.wrap (a * 2 ^ (min b.toNat k.bits))))
  | .shr => if b < 0 then none else some (.int k (a.fdiv (2 ^ (min b.toNat k.bits))))
  | op =>
    if k ≠ yk then none else
    match op with
    | .add => some (.int k (k.wrap (a + b)))
    | .sub => some (.int k (k.wrap (a - b)))
    | .mul => some (.int k (k.wrap (a * b)))
    | .quo => if b = 0 then none else some (.int k (k.wrap (a.tdiv b)))
    | .rem => if b = 0 then none else some (.int k (a.tmod b))
    | .and => some (.int k (k.wrap (BitVec.ofInt k.bits a &&& BitVec.ofInt k.bits b).toNat))
    | .or => some (.int k (k.wrap (BitVec.ofInt k.bits a ||| BitVec.ofInt k.bits b).toNat))
    | .xor => some (.int k (k.wrap (BitVec.ofInt k.bits a ^^^ BitVec.ofInt k.bits b).toNat))
    | .andNot => some (.int k (k.wrap (BitVec.ofInt k.bits a &&& ~~~ (BitVec.ofInt k.bits b)).toNat))
    | .eql => some (.bool (a == b))
    | .neq => some (.bool (a != b))
    | .lss => some (.bool (a < b))
    | .leq => some (.bool (a ≤ b))
    | .gtr => some (.bool (a > b))
    | .geq => some (.bool (a ≥ b))
    | _ => none

mutual
def evalE (nf : Nm) : SE → Int
  | .var i => nf.ρ i
  | .con n => n
  | .bin op k a b => match binInt op k (evalE nf a) k (evalE nf b) with | some (.int _ n) => n | _ => 0
  | .conv k a => k.wrap (evalE nf a)
  | .app f l => nf.φ f (evalEs nf l)
def evalEs (nf : Nm) : List SE → List Int
  | [] => []
  | a :: l => evalE nf a :: evalEs nf l
end

mutual
def beqE : SE → SE → Bool
  | .var i, .var j => i == j
  | .con a, .con b => a == b
  | .bin op k a b, .bin op' k' c d => op == op' && k == k' && beqE a c && beqE b d
  | .conv k a, .conv k' b => k == k' && beqE a b
  | .app f l, .app g m => f == g && beqEs l m
  | _, _ => false
def beqEs : List SE → List SE → Bool
  | [], [] => true
  | a :: l, b :: m => beqE a b && beqEs l m
  | _, _ => false
end

/-- A number, told or not: kind, how it came, its bounds. -/
def symOf : V → Option (IntKind × SE × Int × Int)
  | .int k n => some (k, .con n, n, n)
  | .sym k e lo hi _ _ => some (k, e, lo, hi)
  | _ => none

/-- All its bits are turned. -/
def isNot : SE → SE → Bool
  | .bin .xor .u32 (.con c) a, b => c == 4294967295 && beqE a b
  | _, _ => false

def symEq (a b : SE) (l1 h1 l2 h2 : Int) : Option Bool :=
  if beqE a b then some true else if h1 < l2 || h2 < l1 || isNot a b || isNot b a then some false else none
def symLt (a b : SE) (l1 h1 l2 h2 : Int) : Option Bool :=
  if h1 < l2 then some true else if h2 ≤ l1 || beqE a b then some false else none

/-- Operations on numbers that are not told. -/
def symShl (k : IntKind) (a b : SE) : Option V :=
  match b with
  | .con n => if n < 0 then none else some (.sym k (.bin .shl k a b) k.min k.max 1 0)
  | _ => none
def symShr (k : IntKind) (a b : SE) (l1 h1 : Int) : Option V :=
  match b with
  | .con n => if n < 0 ∨ l1 < 0 then none else some (.sym k (.bin .shr k a b) 0 h1 1 0)
  | _ => none
def symRem (x y : V) : Option V :=
  match x, y with
  | .sym k e lo _ m r, .int _ n =>
    if 0 ≤ lo ∧ 0 < n then
      if 0 < m ∧ m % n = 0 then some (.int k (r % n)) else some (.sym k (.bin .rem k e (.con n)) 0 (n - 1) 1 0)
    else none
  | _, _ => none
def symOp (op : BinOp) (x y : V) (k : IntKind) (a b : SE) (l1 h1 l2 h2 : Int) : Option V :=
  match op with
  | .eql => (symEq a b l1 h1 l2 h2).map .bool
  | .neq => (symEq a b l1 h1 l2 h2).map fun q => .bool (!q)
  | .lss => (symLt a b l1 h1 l2 h2).map .bool
  | .geq => (symLt a b l1 h1 l2 h2).map fun q => .bool (!q)
  | .gtr => (symLt b a l2 h2 l1 h1).map .bool
  | .leq => (symLt b a l2 h2 l1 h1).map fun q => .bool (!q)
  | .rem => symRem x y
  | .add => if k.min ≤ l1 + l2 ∧ h1 + h2 ≤ k.max then some (.sym k (.bin .add k a b) (l1 + l2) (h1 + h2) 1 0) else some (.sym k (.bin .add k a b) k.min k.max 1 0)
  | .sub => if k.min ≤ l1 - h2 ∧ h1 - l2 ≤ k.max then some (.sym k (.bin .sub k a b) (l1 - h2) (h1 - l2) 1 0) else some (.sym k (.bin .sub k a b) k.min k.max 1 0)
  | .mul => some (.sym k (.bin .mul k a b) k.min k.max 1 0)
  | .and => some (.sym k (.bin .and k a b) k.min k.max 1 0)
  | .or => some (.sym k (.bin .or k a b) k.min k.max 1 0)
  | .xor => some (.sym k (.bin .xor k a b) k.min k.max 1 0)
  | .andNot => some (.sym k (.bin .andNot k a b) k.min k.max 1 0)
  | _ => none
def symBin (op : BinOp) (x y : V) : Option V :=
  match symOf x, symOf y with
  | some (k, a, l1, h1), some (k', b, l2, h2) =>
    match op with
    | .shl => symShl k a b
    | .shr => symShr k a b l1 h1
    | op => if k = k' then symOp op x y k a b l1 h1 l2 h2 else none
  | _, _ => none

def symConv (k : IntKind) : V → Option V
  | .sym _ e lo hi m r => if k.min ≤ lo ∧ hi ≤ k.max then some (.sym k e lo hi m r) else some (.sym k (.conv k e) k.min k.max 1 0)
  | _ => none

/- Equality of bools, numbers, and flat rows of them. -/
def okS : List (Option IntKind) → List V → Bool
  | [], [] => true
  | none :: s, .bool _ :: l => okS s l
  | some k :: s, .int k' _ :: l => k == k' && okS s l
  | some k :: s, .sym k' _ _ _ _ _ :: l => k == k' && okS s l
  | _, _ => false
def eqC : List V → List V → Option Bool
  | [], [] => some true
  | .bool a :: l, .bool b :: m => if a == b then eqC l m else some false
  | .int _ a :: l, .int _ b :: m => if a == b then eqC l m else some false
  | x :: l, y :: m =>
    match symOf x, symOf y with
    | some (_, a, l1, h1), some (_, b, l2, h2) =>
      match symEq a b l1 h1 l2 h2 with
      | some true => eqC l m
      | some false => some false
      | none => none
    | _, _ => none
  | _, _ => none
def flatC (agg : Bool) : V → Option (List V)
  | .agg l => if agg then some l else none
  | .int k n => if agg then none else some [.int k n]
  | .bool b => if agg then none else some [.bool b]
  | .sym k e lo hi m r => if agg then none else some [.sym k e lo hi m r]
  | _ => none

def splice (row : List V) (off : Nat) (cells : List V) : List V := row.take off ++ (cells ++ row.drop (off + cells.length))

/-- Parts laid over a row. -/
def fillV : List V → List ((Nat × Nat) × V) → Option (List V)
  | row, [] => some row
  | row, ((off, size), v) :: rest =>
    if v.cells.length = size ∧ off + size ≤ row.length ∧ v.cells.all V.one then fillV (splice row off v.cells) rest else none

/-- The rows of a slice that is made of parts; what they show of the frame's own. -/
def fillR (h : Heap) (n : Nat) : List (List V) → List (Nat × V) → Option (List (List V) × Ids)
  | rows, [] => some (rows, [])
  | rows, (i, v) :: rest =>
    match lendL h v.cells with
    | none => none
    | some r => if r.1.length = n ∧ i < rows.length ∧ r.1.all V.one then (fillR h n (rows.set i r.1) rest).map fun s => (s.1, r.2 ++ s.2) else none

/-- The row that an address stands in, and where in it. -/
def rowAt (h : Heap) : V → Option (List V × Nat)
  | .ptr d v j row off =>
    match h.bl d v j with
    | .box r => if row = 0 then some (r, off) else none
    | .rows r => match r[row]? with | some x => some (x, off) | none => none
    | .frz r => match r[row]? with | some x => some (x, off) | none => none
    | _ => none
  | .iptr row off => some (row, off)
  | _ => none

def partV (row : List V) (off : Nat) : Option Nat → Option V
  | some n => if off + n ≤ row.length then some (.agg ((row.drop off).take n)) else none
  | none => row[off]?

def storeV (n : Nat) (p v : V) (h : Heap) : Option Res :=
  match p with
  | .ptr d w j row off =>
    match h.bl d w j with
    | .box r => if v.cells.length = n ∧ off + n ≤ r.length ∧ row = 0 ∧ v.cells.all V.one then some ⟨unit, h.set d w j .dead, [((d, w, j), splice r off v.cells)], []⟩ else none
    | .rows r =>
      match r[row]?, lendL h v.cells with
      | some x, some c =>
        match (freeze h c.2).bl d w j with
        | .rows _ => if c.1.length = n ∧ off + n ≤ x.length ∧ c.1.all V.one then some ⟨unit, (freeze h c.2).set d w j (.rows (r.set row (splice x off c.1))), [], []⟩ else none
        | _ => none
      | _, _ => none
    | _ => none
  | _ => none

/-- The rows of a block. -/
def allRows : Bc → Option (List (List V))
  | .rows r => some r
  | .frz r => some r
  | _ => none

/-- The rows that a slice has. -/
def rowsOf (h : Heap) : V → Option (List (List V))
  | .sl rows => some rows
  | .fresh rows => match rows with | [] => some [] | _ => none
  | .e _ => some []
  | .own d v j fr len => (allRows (h.bl d v j)).map fun r => (r.drop fr).take len
  | _ => none

/-- More than this many rows nothing is let grow. -/
def room : Nat := 4294967296

def appV (n bytes : Nat) (zero : List V) (x y : V) (h : Heap) : Option Res :=
  match rowsOf h y with
  | none => none
  | some ys =>
    if ¬ (ys.all (·.length = n) ∧ zero.length = n ∧ bytes ≤ 4096) then none else
    match x with
    | .fresh [] => if ys.length ≤ room then some ⟨.fresh ys, h, [], []⟩ else none
    | .e true => if ys.length ≤ room then some ⟨.fresh ys, h, [], []⟩ else none
    | .own d v j fr len =>
      match h.bl d v j with
      | .rows r =>
        if fr + len ≤ r.length ∧ r.all (·.length = n) then
          if fr + len + ys.length ≤ r.length then
            some ⟨.own d v j fr (len + ys.length), h.set d v j (.rows (r.take (fr + len) ++ (ys ++ r.drop (fr + len + ys.length)))), [], []⟩
          else if len + ys.length ≤ room then
            some ⟨.fresh ((r.drop fr).take len ++ ys), h.set d v j .dead, [], []⟩
          else none
        else none
      | _ => none
    | _ => none

def sliceV (n : Nat) (h : Heap) (x : V) (lo hi : Option V) : Option V :=
  match lo with
  | some (.int .i64 a) =>
    match hi with
    | some (.int .i64 b) => go a (some b)
    | none => go a none
    | _ => none
  | none =>
    match hi with
    | some (.int .i64 b) => go 0 (some b)
    | none => go 0 none
    | _ => none
  | _ => none
where
  go (a : Int) (b : Option Int) : Option V :=
    match x with
    | .sl rows =>
      let e := b.getD rows.length
      if 0 ≤ a ∧ a ≤ e ∧ e ≤ rows.length ∧ rows.all (·.length = n) then some (.sl ((rows.drop a.toNat).take (e.toNat - a.toNat))) else none
    | .e q => if a = 0 ∧ b.getD 0 = 0 then some (.e q) else none
    | .own d v j fr len =>
      let e := b.getD len
      match allRows (h.bl d v j) with
      | some r => if 0 ≤ a ∧ a ≤ e ∧ (fr + e.toNat ≤ r.length) ∧ r.all (·.length = n) then some (.own d v j (fr + a.toNat) (e.toNat - a.toNat)) else none
      | none => none
    | _ => none

/-- What stands at a key. -/
def findKey (agg : Bool) (sig : List (Option IntKind)) (k : List V) : List (V × V) → Option (Option V)
  | [] => some none
  | (q, v) :: rest =>
    match flatC agg q with
    | some m => if okS sig m then (match eqC k m with | some true => some (some v) | some false => findKey agg sig k rest | none => none) else none
    | none => none

def allInts (k : IntKind) : List V → Option (List Int)
  | [] => some []
  | .int k' n :: l => if k' = k then (allInts k l).map (n :: ·) else none
  | _ => none

def binV (op : BinOp) (x y : V) : Option V :=
  match x, y with
  | .int k a, .int yk b => binInt op k a yk b
  | x, y => symBin op x y

def convV (k : IntKind) (x : V) : Option V :=
  match x with
  | .int _ n => some (.int k (k.wrap n))
  | x => symConv k x

/-- A slice that has no places. -/
def noCap (h : Heap) : V → Bool
  | .e n => n
  | .fresh [] => true
  | .own d v j _ _ => match h.bl d v j with | .rows r => r.isEmpty | _ => false
  | _ => false

def appZV (bytes : Nat) (zero : List V) (x y : V) (h : Heap) : Option Res :=
  match y with
  | .int .i64 k => if noCap h x ∧ 1 ≤ k ∧ k ≤ room ∧ bytes ≤ 4096 then some ⟨.fresh (List.replicate k.toNat zero), h, [], []⟩ else none
  | _ => none

def slice3V (h : Heap) (x a b c : V) : Option Res :=
  match x, a, b, c with
  | .own d v j fr _, .int .i64 a, .int .i64 b, .int .i64 c =>
    match allRows (h.bl d v j) with
    | some r => if 0 ≤ a ∧ a ≤ b ∧ b ≤ c ∧ fr + c.toNat ≤ r.length then some ⟨.any, h, [], []⟩ else none
    | none => none
  | _, _, _, _ => none

def mksliceV (zero : List V) (bytes : Nat) (x y : V) (h : Heap) : Option Res :=
  match x, y with
  | .int .i64 l, .int .i64 c => if 0 ≤ l ∧ l = c ∧ l ≤ room ∧ bytes ≤ 4096 then some ⟨.fresh (List.replicate l.toNat zero), h, [], []⟩ else none
  | _, _ => none

/-- All operations but calls. -/
def comp : K → List V → Heap → Option Res
  | .mv, [x], h => some ⟨x, h, [], []⟩
  | .lit, [x], h => some ⟨x, h, [], []⟩
  | .nilck, [x], h =>
    match x with
    | .ptr _ _ _ _ _ => some ⟨x, h, [], []⟩
    | .iptr _ _ => some ⟨x, h, [], []⟩
    | _ => none
  | .pick, [.bool c, a, b], h => some ⟨if c then a else b, h, [], []⟩
  | .box n, [x], h => if x.cells.length = n ∧ x.cells.all V.one then some ⟨.pbox x.cells 0, h, [], []⟩ else none
  | .zero cells, [], h => if cells.all V.one then some ⟨.pbox cells 0, h, [], []⟩ else none
  | .build zero places, xs, h =>
    if xs.length = places.length ∧ zero.all V.one then (fillV zero (places.zip xs)).map fun l => ⟨.agg l, h, [], []⟩ else none
  | .buildSl n zero len places, xs, h =>
    if xs.length = places.length ∧ zero.length = n ∧ zero.all V.one then
      (fillR h n (List.replicate len zero) (places.zip xs)).map fun r => ⟨.fresh r.1, h, [], r.2⟩
    else none
  | .buildSlL n zero len places, xs, h =>
    if xs.length = places.length ∧ zero.length = n ∧ zero.all V.one then
      (fillR h n (List.replicate len zero) (places.zip xs)).map fun r => ⟨.fresh r.1, h, [], r.2⟩
    else none
  | .load n, [p], h =>
    match rowAt h p with
    | some (row, off) => (partV row off n).map fun v => ⟨v, h, [], []⟩
    | none => none
  | .store n, [p, v], h => storeV n p v h
  | .storeL n, [p, v], h => storeV n p v h
  | .faddr off, [p], h =>
    match p with
    | .ptr d v j row o => some ⟨.ptr d v j row (o + off), h, [], []⟩
    | .iptr row o => some ⟨.iptr row (o + off), h, [], []⟩
    | _ => none
  | .iaddr n, [x, .int _ i], h =>
    match x with
    | .sl rows =>
      if 0 ≤ i ∧ i < rows.length then
        match rows[i.toNat]? with
        | some row => if row.length = n then some ⟨.iptr row 0, h, [], []⟩ else none
        | none => none
      else none
    | .own d v j fr len =>
      if 0 ≤ i ∧ i < len then
        match allRows (h.bl d v j) with
        | some r =>
          match r[fr + i.toNat]? with
          | some row => if row.length = n then some ⟨.ptr d v j (fr + i.toNat) 0, h, [], []⟩ else none
          | none => none
        | none => none
      else none
    | _ => none
  | .iaddrA len n, [p, .int _ i], h =>
    if 0 ≤ i ∧ i < len then
      match p with
      | .ptr d v j row o => some ⟨.ptr d v j row (o + i.toNat * n), h, [], []⟩
      | .iptr row o => some ⟨.iptr row (o + i.toNat * n), h, [], []⟩
      | _ => none
    else none
  | .field off n, [.agg l], h => (partV l off n).map fun v => ⟨v, h, [], []⟩
  | .index len size n, [.agg l, .int _ i], h => if 0 ≤ i ∧ i < len then (partV l (i.toNat * size) n).map fun v => ⟨v, h, [], []⟩ else none
  | .extract k, [.tup l], h => (l[k]?).map fun v => ⟨v, h, [], []⟩
  | .bin op, [x, y], h => (binV op x y).map fun v => ⟨v, h, [], []⟩
  | .eqnil neg, [x], h =>
    match x with
    | .e n => some ⟨.bool (if neg then !n else n), h, [], []⟩
    | .fresh _ => none
    | .sl (_ :: _) => some ⟨.bool neg, h, [], []⟩
    | .own _ _ _ _ (_ + 1) => some ⟨.bool neg, h, [], []⟩
    | _ => none
  | .eqv agg sig neg, [x, y], h =>
    match flatC agg x, flatC agg y with
    | some l, some m => if okS sig l && okS sig m then (eqC l m).map fun q => ⟨.bool (if neg then !q else q), h, [], []⟩ else none
    | _, _ => none
  | .un op, [x], h =>
    match op, x with
    | .not, .bool b => some ⟨.bool (!b), h, [], []⟩
    | .xor, .sym k e _ _ _ _ => some ⟨.sym k (.bin .xor k (.con (if k.signed then -1 else k.max)) e) k.min k.max 1 0, h, [], []⟩
    | .neg, .int k n => some ⟨.int k (k.wrap (0 - n)), h, [], []⟩
    | .xor, .int k n => (binInt .xor k (if k.signed then -1 else k.max) k n).map fun v => ⟨v, h, [], []⟩
    | _, _ => none
  | .conv k, [x], h => (convV k x).map fun v => ⟨v, h, [], []⟩
  | .len, [x], h =>
    match x with
    | .sl rows => some ⟨.int .i64 rows.length, h, [], []⟩
    | .own _ _ _ _ len => some ⟨.int .i64 len, h, [], []⟩
    | .fresh [] => some ⟨.int .i64 0, h, [], []⟩
    | .e _ => some ⟨.int .i64 0, h, [], []⟩
    | _ => none
  | .lenA n, [_], h => some ⟨.int .i64 n, h, [], []⟩
  | .app n bytes zero, [x, y], h => appV n bytes zero x y h
  | .slice n lo hi, xs, h =>
    match lo, hi, xs with
    | false, false, [x] => (sliceV n h x none none).map fun v => ⟨v, h, [], []⟩
    | true, false, [x, a] => (sliceV n h x (some a) none).map fun v => ⟨v, h, [], []⟩
    | false, true, [x, b] => (sliceV n h x none (some b)).map fun v => ⟨v, h, [], []⟩
    | true, true, [x, a, b] => (sliceV n h x (some a) (some b)).map fun v => ⟨v, h, [], []⟩
    | _, _, _ => none
  | .capE, [x], h => if noCap h x then some ⟨.int .i64 0, h, [], []⟩ else none
  | .appZ bytes zero, [x, y], h => appZV bytes zero x y h
  | .slice3, [x, a, b, c], h => slice3V h x a b c
  | .clear zero, [x], h =>
    match x with
    | .own d v j fr len =>
      match h.bl d v j with
      | .rows r =>
        if fr + len ≤ r.length ∧ r.all (·.length = zero.length) ∧ zero ≠ [] then some ⟨unit, h.set d v j (.rows (r.take fr ++ (List.replicate len zero ++ r.drop (fr + len)))), [], []⟩ else none
      | _ => none
    | _ => none
  | .least, .int k a :: xs, h => (allInts k xs).map fun l => ⟨.int k (l.foldl (fun x y => if y < x then y else x) a), h, [], []⟩
  | .most, .int k a :: xs, h => (allInts k xs).map fun l => ⟨.int k (l.foldl (fun x y => if x < y then y else x) a), h, [], []⟩
  | .mkmap, [], h => some ⟨.fmap [] [], h, [], []⟩
  | .mkslice zero bytes, [x, y], h => mksliceV zero bytes x y h
  | .mkfn f nfirst, xs, h => some ⟨.fn f (xs.take nfirst) (xs.drop nfirst), h, [], []⟩
  | .lookup agg sig zero ok, [.map d v j, k], h =>
    match h.bl d v j, flatC agg k with
    | .mp es, some l => if okS sig l then (findKey agg sig l es).map fun r => ⟨if ok then .tup [r.getD zero, .bool r.isSome] else r.getD zero, h, [], []⟩ else none
    | _, _ => none
  | .mapset agg sig, [.map d v j, k, x], h =>
    match h.bl d v j, flatC agg k with
    | .mp es, some l =>
      if okS sig l then
        match findKey agg sig l es with
        | some none => some ⟨unit, h.set d v j (.mp (es ++ [(k, x)])), [], []⟩
        | _ => none
      else none
    | _, _ => none
  | _, _, _ => none

/- Calls: what is given, what is borrowed, what is lent. -/
def pass1 : List Mode → List V → Heap → Option (List V × Heap × Ids)
  | _, [], h => some ([], h, [])
  | ms, x :: xs, h =>
    match ms.headD .lend with
    | .lend => (pass1 ms.tail xs h).map fun r => (x :: r.1, r.2)
    | .give =>
      match give h x with
      | none => none
      | some y => (pass1 ms.tail xs y.2).map fun r => (y.1 :: r.1, r.2)
    | .bor =>
      match x with
      | .ptr d v j 0 off =>
        match h.bl d v j with
        | .box row =>
          match giveL (h.set d v j .dead) row with
          | none => none
          | some y => (pass1 ms.tail xs y.2).map fun r => (.pbox y.1 off :: r.1, r.2.1, (d, v, j) :: r.2.2)
        | _ => none
      | _ => none

def pass2 (h : Heap) : List Mode → List V → Option (List V × Ids)
  | _, [] => some ([], [])
  | ms, x :: xs =>
    match ms.headD .lend with
    | .lend =>
      match lendArg h x with
      | none => none
      | some y => (pass2 h ms.tail xs).map fun r => (y.1 :: r.1, y.2 ++ r.2)
    | _ => (pass2 h ms.tail xs).map fun r => (x :: r.1, r.2)

def isPb : V → Bool
  | .pbox _ _ => true
  | _ => false

/-- The boxes that come back are as long as those that went. -/
def lensEq : List V → List (List V) → Bool
  | [], [] => true
  | .pbox row _ :: xs, o :: os => row.length == o.length && lensEq xs os
  | .pbox _ _ :: _, [] => false
  | _ :: xs, os => lensEq xs os
  | [], _ :: _ => false

/-- Boxes, as they come back. -/
def rebox : List V → List (List V) → List V
  | .pbox _ off :: xs, o :: os => .pbox o off :: rebox xs os
  | .pbox _ _ :: _, [] => []
  | _ :: xs, os => rebox xs os
  | [], _ => []

inductive AOpd where
  | s (t : Nat)
  | c (v : V)
  deriving Inhabited

def ev (e : Env) : AOpd → V
  | .s t => e t
  | .c v => v

/-- An operation: where it writes (w: it does write there), under which guard; u: what is done in any order with it. -/
structure AOp where
  d : Nat
  w : Bool
  k : K
  xs : List AOpd
  g : Option (Nat × Bool) := none
  u : List Nat := []
  uw : List Nat := []
  deriving Inhabited

structure St where
  env : Env
  h : Heap

def restore (d v : Nat) : List ((Nat × Nat × Nat) × List V) → Nat → Heap → Heap
  | [], _, h => h
  | ((a, b, c), row) :: l, j, h =>
    let r := thawL d v row j h
    restore d v l r.2.1 (r.2.2.set a b c (.box r.1))

def setEnv (e : Env) (w : Bool) (d : Nat) (v : V) : Env := if w then upd e d v else e

def apply (σ : St) (o : AOp) (r : Res) : St :=
  if o.k.makes then
    let h0 := freeze r.h r.fz
    let h1 : Heap := { h0 with cnt := upd h0.cnt o.d (h0.cnt o.d + 1) }
    let t := thaw o.d (h0.cnt o.d) r.v 0 h1
    ⟨setEnv σ.env o.w o.d t.1, restore o.d (h0.cnt o.d) r.bx t.2.1 t.2.2⟩
  else ⟨setEnv σ.env o.w o.d r.v, r.bx.foldl (fun h b => h.set b.1.1 b.1.2.1 b.1.2.2 (.box b.2)) (freeze r.h r.fz)⟩

/-- Which guard lets it be done. -/
def guarded (e : Env) : Option (Nat × Bool) → Option Bool
  | none => some true
  | some (t, want) =>
    match e t with
    | .bool b => some (b == want)
    | .tup [] => some false
    | _ => none

def factOf (lt : Bool) (a b : SE) : List Fact → Option Bool
  | [] => none
  | (lt', a', b', q) :: l => if lt == lt' && beqE a a' && beqE b b' then some q else factOf lt a b l

def factEq (a b : SE) (fx : List Fact) : Option Bool :=
  match factOf false a b fx with
  | some q => some q
  | none => factOf false b a fx

/-- A comparison of which it is known how it ends. -/
def factBin (fx : List Fact) (op : BinOp) (x y : V) : Option V :=
  match symOf x, symOf y with
  | some (k, a, _, _), some (k', b, _, _) =>
    if k = k' then
      match op with
      | .eql => (factEq a b fx).map .bool
      | .neq => (factEq a b fx).map fun q => .bool (!q)
      | .lss => (factOf true a b fx).map .bool
      | .geq => (factOf true a b fx).map fun q => .bool (!q)
      | .gtr => (factOf true b a fx).map .bool
      | .leq => (factOf true b a fx).map fun q => .bool (!q)
      | _ => none
    else none
  | _, _ => none
def factRes (fx : List Fact) (op : BinOp) (xs : List V) (h : Heap) : Option Res :=
  match xs with
  | [x, y] => (factBin fx op x y).map fun v => ⟨v, h, [], []⟩
  | _ => none

section
variable (abi : Abi) (Γ : Nat → List V → V → List (List V) → Prop)

/-- A call: of whom, with what; what it tells. -/
def Called (f : Nat) (args : List V) (h : Heap) (r : Res) : Prop :=
  ∃ a1 h1 bs a2 ids v outs, pass1 (abi f) args h = some (a1, h1, bs) ∧ pass2 h1 (abi f) a1 = some (a2, ids) ∧ Γ f a2 v outs ∧ lensEq a2 outs = true ∧
    r = ⟨v, h1, bs.zip outs, if ids.isEmpty then [] else if shows v || showsR outs then ids else []⟩

def Comes (k : K) (xs : List V) (h : Heap) (r : Res) : Prop :=
  match k with
  | .call f => Called abi Γ f xs h r
  | .callv => match xs with | .fn f first caps :: args => Called abi Γ f (first ++ (args ++ caps)) h r | _ => False
  | .bin op => comp (.bin op) xs h = some r ∨ factRes abi.fx op xs h = some r
  | k => comp k xs h = some r

/-- One operation behind the other. -/
inductive Ops : List AOp → St → St → Prop where
  | nil (σ : St) : Ops [] σ σ
  | skip {o : AOp} {l : List AOp} {σ σ' : St} (hg : guarded σ.env o.g = some false) (h : Ops l ⟨setEnv σ.env o.w o.d unit, σ.h⟩ σ') : Ops (o :: l) σ σ'
  | cons {o : AOp} {l : List AOp} {σ σ' : St} (r : Res) (hg : guarded σ.env o.g = some true)
      (hr : Comes abi Γ o.k (o.xs.map (ev σ.env)) σ.h r) (h : Ops l (apply σ o r) σ') : Ops (o :: l) σ σ'

/- Regions whose order is drawn: what an operation may touch of the frame's own memory: classes of blocks. -/
mutual
def idsV : V → List Nat
  | .own d _ _ _ _ => [d]
  | .ptr d _ _ _ _ => [d]
  | .map d _ _ => [d]
  | .agg l => idsL l
  | .tup l => idsL l
  | .fn _ a b => idsL a ++ idsL b
  | _ => []
def idsL : List V → List Nat
  | [] => []
  | x :: l => idsV x ++ idsL l
end

def boxIds1 (h : Heap) : V → List Nat
  | .ptr d v j _ _ => match h.bl d v j with | .box row => idsL row | _ => []
  | _ => []
def boxIdsL (h : Heap) : List V → List Nat
  | [] => []
  | x :: l => boxIds1 h x ++ boxIdsL h l
def boxIds (h : Heap) : V → List Nat
  | .fn _ a b => boxIdsL h a ++ boxIdsL h b
  | x => boxIds1 h x
def boxIdsA (h : Heap) : List V → List Nat
  | [] => []
  | x :: l => boxIds h x ++ boxIdsA h l

/-- It looks at no memory, and makes none. -/
def K.n : K → Bool
  | .mv | .nilck | .pick | .faddr _ | .iaddrA _ _ | .field _ _ | .index _ _ _ | .extract _ | .bin _ | .eqnil _ | .eqv _ _ _ | .un _ | .conv _ | .len | .lenA _ | .mkfn _ _ | .least | .most | .bad => true
  | _ => false
/-- It changes no memory that was there. -/
def K.r : K → Bool
  | .lit | .box _ | .zero _ | .build _ _ | .buildSl _ _ _ _ | .load _ | .iaddr _ | .slice _ _ _ | .mkmap | .mkslice _ _ | .lookup _ _ _ _ | .capE => true
  | .call f => (abi f).all (· == .lend)
  | _ => false
/-- It touches no memory but what it is given. -/
def K.l (k : K) : Bool :=
  match k with
  | .app _ _ _ | .store _ | .storeL _ | .call _ | .callv | .buildSlL _ _ _ _ => true
  | k => K.r abi k

/-- It changes no memory that was there, and lends none that is shown. -/
def rOf (o : AOp) : Bool := K.r abi o.k && o.uw.isEmpty

def touch (k : K) (xs : List V) (h : Heap) : List Nat :=
  match k with
  | .call _ => idsL xs ++ boxIdsA h xs
  | .callv => match xs with | .fn _ first caps :: args => idsL (first ++ (args ++ caps)) ++ boxIdsA h (first ++ (args ++ caps)) | _ => []
  | _ => if k.n then [] else idsL xs

/-- Does it lead into a variable? -/
def isBoxed (h : Heap) : V → Bool
  | .ptr d v j _ _ => match h.bl d v j with | .box _ => true | _ => false
  | _ => false

/-- What it may write. -/
def touchW (k : K) (xs : List V) (h : Heap) : List Nat :=
  match k with
  | .app _ _ _ => match xs with | x :: _ => idsV x | [] => []
  | .store _ => match xs with | p :: rest => if isBoxed h p then idsV p else idsL (p :: rest) | [] => []
  | k => touch k xs h

/-- Operations whose order is drawn, in one order. -/
inductive DOps : List AOp → St → St → Prop where
  | nil (σ : St) : DOps [] σ σ
  | skip {o : AOp} {l : List AOp} {σ σ' : St} (hg : guarded σ.env o.g = some false) (h : DOps l ⟨setEnv σ.env o.w o.d unit, σ.h⟩ σ') : DOps (o :: l) σ σ'
  | cons {o : AOp} {l : List AOp} {σ σ' : St} (r : Res) (hg : guarded σ.env o.g = some true)
      (hr : Comes abi Γ o.k (o.xs.map (ev σ.env)) σ.h r) (ht : ∀ x ∈ touch o.k (o.xs.map (ev σ.env)) σ.h, x ∈ o.u) (hw : rOf abi o = false → ∀ x ∈ touchW o.k (o.xs.map (ev σ.env)) σ.h, x ∈ o.uw) (hf : rOf abi o = true → r.fz = [])
      (h : DOps l (apply σ o r) σ') : DOps (o :: l) σ σ'

inductive AC where
  | skip
  | reg (ops : List AOp)
  | drw (ops : List AOp)
  | seq (a b : AC)
  | cond (c : AOpd) (a b : AC)
  | block (id : Nat) (a : AC)
  | loop (a : AC)
  | exit (id : Nat)
  | ret
  deriving Inhabited

inductive AE where
  | normal
  | exit (id : Nat)
  | ret
  deriving DecidableEq

/-- What a piece of code comes to. -/
inductive Ex : AC → St → AE → St → Prop where
  | skip (σ : St) : Ex .skip σ .normal σ
  | reg {l : List AOp} {σ σ' : St} (h : Ops abi Γ l σ σ') : Ex (.reg l) σ .normal σ'
  | drw {l : List AOp} {σ σ' : St} (h : DOps abi Γ l σ σ') : Ex (.drw l) σ .normal σ'
  | seq {a b : AC} {σ σ' σ'' : St} {e : AE} (h : Ex a σ .normal σ') (k : Ex b σ' e σ'') : Ex (.seq a b) σ e σ''
  | seqX {a b : AC} {σ σ' : St} {e : AE} (h : Ex a σ e σ') (ne : e ≠ .normal) : Ex (.seq a b) σ e σ'
  | cond {c : AOpd} {a b : AC} {σ σ' : St} {e : AE} (t : Bool) (hc : ev σ.env c = .bool t) (h : Ex (if t then a else b) σ e σ') : Ex (.cond c a b) σ e σ'
  | block {i : Nat} {a : AC} {σ σ' : St} {e : AE} (h : Ex a σ e σ') (ne : e ≠ .exit i) : Ex (.block i a) σ e σ'
  | blockX {i : Nat} {a : AC} {σ σ' : St} (h : Ex a σ (.exit i) σ') : Ex (.block i a) σ .normal σ'
  | loop {a : AC} {σ σ' σ'' : St} {e : AE} (h : Ex a σ .normal σ') (k : Ex (.loop a) σ' e σ'') : Ex (.loop a) σ e σ''
  | loopX {a : AC} {σ σ' : St} {e : AE} (h : Ex a σ e σ') (ne : e ≠ .normal) : Ex (.loop a) σ e σ'
  | exit (i : Nat) (σ : St) : Ex (.exit i) σ (.exit i) σ
  | ret (σ : St) : Ex .ret σ .ret σ
end

end Fo
