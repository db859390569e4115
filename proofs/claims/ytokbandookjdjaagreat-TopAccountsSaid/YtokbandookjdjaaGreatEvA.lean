/- A symbolic evaluator of the model's code: definitions. -/
import Derived.Orders
import Derived.Tactics
import Derived.Lib.ReflectliteSwap
import Derived.Scope
import Derived.LoopN
namespace Go.Proofs.YtokbandookjdjaaGreat.Ev
open Go
/-- abstract values: what memory they point to is named by a number of its own -/
inductive AV where
  | lit (v : Value)
  | ptr (id off : Nat)
  | sl (id off len : Nat) (cap : Option Nat)
  | mp (id : Nat)
  | fn (f : FuncId) (caps : List AV)
  | agg (cs : List AV)
  | tup (cs : List AV)
  | ifc (t : TypeId) (v : AV)
inductive AObj where
  | cells (cs : List AV) (ty : TypeId) (grown : Option Nat)
  | map (es : Array MapEntry) (clock : Nat)
  | iter (m : Nat) (clock : Nat)
abbrev Heap := List (Nat × AObj)
structure AS where
  next : Nat
  heap : Heap
noncomputable def Heap.get (h : Heap) (i : Nat) : Option AObj := List.rec none (fun p _ ih => bif Nat.beq p.1 i then some p.2 else ih) h
noncomputable def Heap.put (h : Heap) (i : Nat) (o : AObj) : Heap := List.rec [(i, o)] (fun p r ih => bif Nat.beq p.1 i then (i, o) :: r else p :: ih) h
noncomputable def Heap.rm (h : Heap) (i : Nat) : Heap := List.rec [] (fun p _ ih => bif Nat.beq p.1 i then ih else p :: ih) h
mutual
def lits : AV → Option Value
  | .lit v => some v
  | .fn f caps => match litsL caps with | some l => some (.func (.func f) #[] l.toArray) | none => none
  | .agg cs => match litsL cs with | some l => some (.agg l.toArray) | none => none
  | .tup cs => match litsL cs with | some l => some (.tuple l.toArray) | none => none
  | .ifc t v => match lits v with | some x => some (.iface t x) | none => none
  | _ => none
def litsL : List AV → Option (List Value)
  | [] => some []
  | x :: r => match lits x, litsL r with | some v, some l => some (v :: l) | _, _ => none
end
/-- the cells of a value -/
def cellsA : AV → List AV
  | .agg cs => cs
  | .lit (.agg cs) => cs.toList.map .lit
  | v => [v]
/-- a value of one cell -/
def oneA : AV → Bool
  | .agg _ => false
  | .tup _ => false
  | .lit (.agg _) => false
  | .lit (.tuple _) => false
  | _ => true
/-- what a Sem that asks nothing of the world yields -/
def pureRun {α : Type} (P : Program) : Sem α → Option α
  | .pure a => some a
  | .program k => pureRun P (k P)
  | .mark _ k => pureRun P k
  | .choose q k => bif q.forced then pureRun P (k 0) else none
  | _ => none
/-- the value in a slot -/
noncomputable def getT (aa : List AV) : Nat → AV := List.rec (fun _ => .lit undef) (fun x _ ih t => Nat.rec x (fun t' _ => ih t') t) aa
noncomputable def setA (aa : List AV) (n : Nat) (v : AV) : List AV := List.rec (fun _ => []) (fun x r ih n => Nat.rec (v :: r) (fun n' _ => x :: ih n') n) aa n
noncomputable def evalA (aa : List AV) : Operand → AV
  | .tmp t => getT aa t
  | .const v => .lit v
  | .global g => .lit (.pointer (some ⟨g, 0, none⟩))
  | .func f => .fn f []
noncomputable def litOp (aa : List AV) (x : Operand) : Value := (lits (evalA aa x)).getD undef
def isSelect : Op → Bool
  | .select _ _ => true
  | _ => false
noncomputable def evPure (P : Program) (aa : List AV) (o : Oper) : Option AV :=
  bif isSelect o.op then none else
  bif o.op.operands.all (fun x => (lits (evalA aa x)).isSome) then
    match pureRun P (execOp (litOp aa) o) with
    | some (.value v) => some (.lit v)
    | _ => none
  else none
def isAggB (P : Program) (t : TypeId) : Option Bool :=
  match P.underlying t with
  | some (.struct _) | some (.array _ _) => some true
  | some _ => some false
  | none => none
def sizeB (P : Program) (t : TypeId) : Option Nat := (P.info? t).map (·.size)
def zeroB (P : Program) (t : TypeId) : Option Value := (P.info? t).bind (·.zero)
/-- a value of type t out of cells -/
def partA (P : Program) (t : TypeId) (cs : List AV) (off : Nat) : Option AV :=
  match isAggB P t with
  | some true => match sizeB P t with
    | some n => bif Nat.ble (off + n) cs.length then some (.agg ((cs.drop off).take n)) else none
    | none => none
  | some false => cs[off]?
  | none => none
noncomputable def readA (P : Program) (h : Heap) (t : TypeId) (id off : Nat) : Option AV :=
  match h.get id with
  | some (.cells cs _ _) => partA P t cs off
  | _ => none
def writeL (cs : List AV) (off : Nat) (vs : List AV) : List AV := cs.take off ++ vs ++ cs.drop (off + vs.length)
noncomputable def writeA (P : Program) (h : Heap) (t : TypeId) (id off : Nat) (v : AV) : Option Heap :=
  match h.get id with
  | some (.cells cs ty z) =>
    let vs := cellsA v
    bif Nat.ble (off + vs.length) cs.length && (sizeB P t == some vs.length) && vs.all oneA then some (h.put id (.cells (writeL cs off vs) ty z)) else none
  | _ => none
def fillA (place : Nat → Option (Nat × Nat)) (cells : List AV) : List (Nat × AV) → Option (List AV)
  | [] => some cells
  | (i, v) :: rest => match place i with
    | none => none
    | some (off, size) =>
      let vs := cellsA v
      bif Nat.beq vs.length size && Nat.ble (off + size) cells.length then fillA place (writeL cells off vs) rest else none
def intOfA : AV → Option Int
  | .lit (.int _ n) => some n
  | _ => none
end Go.Proofs.YtokbandookjdjaaGreat.Ev
