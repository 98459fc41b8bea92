/-
  A machine over values without memory, for the model's code: its words (part 1 of the frame of all proofs).
-/
import GoSem.Claims
import Derived.Calls
namespace Fo
open Go

/-- Numbers that are not told: how they came. -/
inductive SE where
  | var (i : Nat)
  | con (n : Int)
  | bin (op : BinOp) (k : IntKind) (a b : SE)
  | conv (k : IntKind) (a : SE)
  | app (f : Nat) (l : List SE)
  deriving Inhabited

/-- What the names stand for: functions, numbers, functions of numbers. -/
structure Nm where
  fn : Nat → Option FuncId
  ρ : Nat → Int
  φ : Nat → List Int → Int

instance : CoeFun Nm (fun _ => Nat → Option FuncId) := ⟨Nm.fn⟩

inductive V where
  | int (k : IntKind) (n : Int)
  | bool (b : Bool)
  | sym (k : IntKind) (e : SE) (lo hi m r : Int)
  | e (isnil : Bool)
  | agg (l : List V)
  | tup (l : List V)
  | sl (rows : List (List V))
  | fresh (rows : List (List V))
  | own (d ver j fr len : Nat)
  | ptr (d ver j row off : Nat)
  | pbox (row : List V) (off : Nat)
  | iptr (row : List V) (off : Nat)
  | fn (f : Nat) (first caps : List V)
  | fmap (ks vs : List V)
  | spare (rows : List (List V))
  | map (d ver j : Nat)
  | any
  deriving Inhabited

inductive Bc where
  | dead
  | rows (r : List (List V))
  | box (r : List V)
  | frz (r : List (List V))
  | mp (e : List (V × V))
  deriving Inhabited

/-- The frame's own memory: how often something was made at a place of the text; what each holds. -/
structure Heap where
  cnt : Nat → Nat
  bl : Nat → Nat → Nat → Bc

abbrev Env := Nat → V

def upd {α : Type} (f : Nat → α) (i : Nat) (x : α) : Nat → α := fun j => if j = i then x else f j
def Heap.set (h : Heap) (d v j : Nat) (c : Bc) : Heap := { h with bl := fun d' v' j' => if d' = d ∧ v' = v ∧ j' = j then c else h.bl d' v' j' }

@[simp] theorem upd_eq {α : Type} (f : Nat → α) (i : Nat) (x : α) : upd f i x i = x := by simp [upd]
theorem upd_ne {α : Type} (f : Nat → α) (i j : Nat) (x : α) (h : j ≠ i) : upd f i x j = f j := by simp [upd, h]
@[simp] theorem Heap.set_cnt (h : Heap) (d v j : Nat) (c : Bc) : (h.set d v j c).cnt = h.cnt := rfl
theorem Heap.set_bl (h : Heap) (d v j : Nat) (c : Bc) (d' v' j' : Nat) : (h.set d v j c).bl d' v' j' = if d' = d ∧ v' = v ∧ j' = j then c else h.bl d' v' j' := rfl

/-- A value of one cell. -/
def V.one : V → Bool
  | .agg _ | .tup _ | .any => false
  | _ => true

/-- The cells of a value. -/
def V.cells : V → List V
  | .agg l => l
  | v => [v]

/- What is new is laid into the frame's own memory, at (d, v). -/
mutual
def thaw (d v : Nat) : V → Nat → Heap → V × Nat × Heap
  | .fresh rows, j, h => (.own d v j 0 rows.length, j + 1, h.set d v j (.rows rows))
  | .spare rows, j, h => (.own d v j 0 0, j + 1, h.set d v j (.rows rows))
  | .fmap ks vs, j, h => (.map d v j, j + 1, h.set d v j (.mp (ks.zip vs)))
  | .agg l, j, h => let r := thawL d v l j h; (.agg r.1, r.2.1, r.2.2)
  | .tup l, j, h => let r := thawL d v l j h; (.tup r.1, r.2.1, r.2.2)
  | .pbox row off, j, h =>
    let r := thawL d v row (j + 1) h
    (.ptr d v j 0 off, r.2.1, r.2.2.set d v j (.box r.1))
  | x, j, h => (x, j, h)
def thawL (d v : Nat) : List V → Nat → Heap → List V × Nat × Heap
  | [], j, h => ([], j, h)
  | x :: l, j, h =>
    let r := thaw d v x j h
    let s := thawL d v l r.2.1 r.2.2
    (r.1 :: s.1, s.2.1, s.2.2)
end

abbrev Ids := List (Nat × Nat × Nat)

/- A value as others may read it, and which memory of the frame's own that shows. -/
mutual
def lend (h : Heap) : V → Option (V × Ids)
  | .int k n => some (.int k n, [])
  | .bool b => some (.bool b, [])
  | .sym k e lo hi m r => some (.sym k e lo hi m r, [])
  | .e _ => some (.sl [], [])
  | .sl rows => some (.sl rows, [])
  | .iptr row off => some (.iptr row off, [])
  | .agg l => (lendL h l).map fun r => (.agg r.1, r.2)
  | .tup l => (lendL h l).map fun r => (.tup r.1, r.2)
  | .fresh rows => match rows with | [] => some (.sl [], []) | _ => none
  | .own d v j fr len =>
    match h.bl d v j with
    | .rows r => some (.sl ((r.drop fr).take len), [(d, v, j)])
    | .frz r => some (.sl ((r.drop fr).take len), [(d, v, j)])
    | _ => none
  | _ => none
def lendL (h : Heap) : List V → Option (List V × Ids)
  | [] => some ([], [])
  | x :: l =>
    match lend h x with
    | none => none
    | some r => (lendL h l).map fun s => (r.1 :: s.1, r.2 ++ s.2)
end

/-- A captured variable, as others may read it. -/
def lendCap (h : Heap) : V → Option (V × Ids)
  | .ptr d v j 0 off =>
    match h.bl d v j with
    | .box row => (lendL h row).map fun r => (.iptr r.1 off, (d, v, j) :: r.2)
    | _ => none
  | x => lend h x

def lendCaps (h : Heap) : List V → Option (List V × Ids)
  | [] => some ([], [])
  | x :: l =>
    match lendCap h x with
    | none => none
    | some r => (lendCaps h l).map fun s => (r.1 :: s.1, r.2 ++ s.2)

/-- An argument, as others may read it: a function with what it captured. -/
def lendArg (h : Heap) : V → Option (V × Ids)
  | .fn f first caps =>
    match lendCaps h first, lendCaps h caps with
    | some a, some b => some (.fn f a.1 b.1, a.2 ++ b.2)
    | _, _ => none
  | x => lend h x

/-- A number or a truth. -/
def plainV : V → Bool
  | .int _ _ | .bool _ | .sym _ _ _ _ _ _ => true
  | _ => false

/- A value that is given away with its memory. -/
mutual
def give (h : Heap) : V → Option (V × Heap)
  | .own d v j fr len =>
    match h.bl d v j with
    | .rows r => if len = 0 ∧ r.isEmpty = false then (if (r.drop fr).isEmpty then none else some (.spare (r.drop fr), h.set d v j .dead)) else some (.fresh ((r.drop fr).take len), if r.isEmpty then h else h.set d v j .dead)
    | .frz r => some (.sl ((r.drop fr).take len), h)
    | _ => none
  | .map d v j =>
    match h.bl d v j with
    | .mp es => if es.all (fun e => plainV e.2) then some (.fmap (es.map (·.1)) (es.map (·.2)), h.set d v j .dead) else none
    | _ => none
  | .fresh rows => match rows with | [] => some (.fresh [], h) | _ => none
  | .agg l => (giveL h l).map fun r => (.agg r.1, r.2)
  | .tup l => (giveL h l).map fun r => (.tup r.1, r.2)
  | .int k n => some (.int k n, h)
  | .bool b => some (.bool b, h)
  | .sym k e lo hi m r => some (.sym k e lo hi m r, h)
  | .e n => some (if n then .fresh [] else .sl [], h)
  | .sl rows => some (.sl rows, h)
  | .iptr row off => some (.iptr row off, h)
  | _ => none
def giveL (h : Heap) : List V → Option (List V × Heap)
  | [] => some ([], h)
  | x :: l =>
    match give h x with
    | none => none
    | some r => (giveL r.2 l).map fun s => (r.1 :: s.1, s.2)
end

/- May what is told show memory that was lent? -/
mutual
def shows : V → Bool
  | .int _ _ | .bool _ | .e _ | .any | .sym _ _ _ _ _ _ => false
  | .agg l => showsL l
  | .tup l => showsL l
  | .fresh rows => showsR rows
  | _ => true
def showsL : List V → Bool
  | [] => false
  | v :: l => shows v || showsL l
def showsR : List (List V) → Bool
  | [] => false
  | r :: l => showsL r || showsR l
end

/-- What was lent and may be seen is written no more. -/
def freeze (h : Heap) : Ids → Heap
  | [] => h
  | (d, v, j) :: l =>
    freeze (match h.bl d v j with
      | .rows r => h.set d v j (.frz r)
      | .box _ => h.set d v j .dead
      | _ => h) l

end Fo
