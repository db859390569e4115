/- A symbolic evaluator of the model's code: code and calls. -/
import Derived.Test.YtokbandookjdjaaGreatEvB
namespace Go.Proofs.YtokbandookjdjaaGreat.Ev
open Go
inductive Rs (α : Type) where
  | ok (a : α)
  | err (why : String) (pos : String)
inductive AX where
  | normal
  | exit (id : Nat)
  | ret
noncomputable def putA (aa : List AV) (d : Option Tmp) (v : AV) : List AV := match d with | some t => setA aa t v | none => aa
noncomputable def yieldedA (ops : Array Oper) (aa : List AV) (g : Nat) : Option Bool :=
  match (ops[g]?).bind (·.dst) with
  | some t => match getT aa t with | .lit (.bool b) => some b | _ => none
  | none => none
noncomputable def wantedA (ops : Array Oper) (aa : List AV) (o : Oper) : Bool :=
  match o.guard with
  | none => true
  | some (g, b) => match yieldedA ops aa g with
    | some y => bif b then y else !y
    | none => false
noncomputable def resultOne (P : Program) (h : Heap) (aa : List AV) : ResultVar → Option AV
  | .tmp t => some (getT aa t)
  | .cell t ty => match getT aa t with
    | .ptr id off => readA P h ty id off
    | _ => none
noncomputable def resultA (P : Program) (fn : Func) (h : Heap) (aa : List AV) : Option AV :=
  match fn.results.toList with
  | [] => some (.lit (.tuple #[]))
  | [r] => resultOne P h aa r
  | rs => (rs.mapM (resultOne P h aa)).map .tup
/-- the value is without addresses: what the call made may be forgotten -/
def dropA (keep : Bool) (n : Nat) (v : AV) (h : Heap) : Heap := bif !keep && (lits v).isSome then h.filter (fun p => Nat.blt p.1 n) else h
/-- who answers a call -/
abbrev Answer := FuncId → List AV → AS → Rs (AV × AS)
noncomputable def evTarget (P : Program) (X : Nat → Option Ext) (call : Answer) (g : FuncId) (args : List AV) (s : AS) : Rs (AV × AS) :=
  match X g with
  | some k => match evExt P k s args with
    | some r => .ok r
    | none => .err "ext" ""
  | none => call g args s
noncomputable def evValue (P : Program) (X : Nat → Option Ext) (call : Answer) (f : AV) (args : List AV) (s : AS) : Rs (AV × AS) :=
  match f with
  | .fn g caps => evTarget P X call g (args ++ caps) s
  | .lit (.func (.func g) first caps) => bif first.isEmpty then evTarget P X call g (args ++ caps.toList.map .lit) s else .err "first" ""
  | _ => .err "callee" ""
noncomputable def evOper (P : Program) (X : Nat → Option Ext) (call : Answer) (o : Oper) (aa : List AV) (s : AS) : Rs (AV × AS) :=
  match o.op with
  | .call { callee := .value f, args, .. } => evValue P X call (evalA aa f) (args.toList.map (evalA aa)) s
  | _ => match evOp P s aa o with
    | some r => .ok r
    | none => .err "op" o.pos
noncomputable def stepOp (P : Program) (X : Nat → Option Ext) (call : Answer) (ops : Array Oper) (o : Oper) (aa : List AV) (s : AS) : Rs (List AV × AS) :=
  bif wantedA ops aa o then
    match evOper P X call o aa s with
    | .ok (v, s') => .ok (putA aa o.dst v, s')
    | .err a b => .err a b
  else .ok (putA aa o.dst (.lit undef), s)
noncomputable def evOps (P : Program) (X : Nat → Option Ext) (call : Answer) (ops : Array Oper) (l : List Oper) : List AV → AS → Rs (List AV × AS) :=
  List.rec (fun aa s => .ok (aa, s)) (fun o _ ih aa s => match stepOp P X call ops o aa s with | .ok (aa', s') => ih aa' s' | .err a b => .err a b) l
def isNewOp : Op → Bool
  | .alloc _ => true
  | .box _ _ => true
  | .buildSlice _ _ _ => true
  | .makeSlice _ _ _ => true
  | .makeMap _ _ => true
  | _ => false
def isLoudB : Builtin → Bool
  | .append => true
  | .copy => true
  | _ => false
def isLoudC : Callee → Bool
  | .value _ => true
  | .invoke _ _ => true
  | .builtin b => isLoudB b
def isLoud : Op → Bool
  | .store _ _ _ => true
  | .mapUpdate _ _ _ _ => true
  | .range _ _ => true
  | .call c => isLoudC c.callee
  | _ => false
/-- who stands ahead of an operation, as bits -/
def maskOf (acc : List Nat) (o : Oper) : Nat := o.after.toList.foldl (fun s e => bif Region.binds .any e then s ||| (2 ^ e.on ||| acc.getD e.on 0) else s) 0
def masks (l : List Oper) : List Nat := l.foldl (fun acc o => acc ++ [maskOf acc o]) []
def bm (M : List Nat) (i j : Nat) : Bool := Nat.testBit (M.getD j 0) i
abbrev News := List (Nat × Nat × AObj)
abbrev Louds := List (Nat × AS)
/-- made by somebody ahead of j, and not yet in the hands of a loud one -/
def freeN (M : List Nat) (news : News) (louds : Louds) (j : Nat) : Heap := (news.filter fun x => bm M x.1 j && !(louds.any fun l => bm M x.1 l.1)).map (·.2)
structure St where
  aa : List AV
  nid : Nat
  news : News
  louds : Louds
  s : AS
inductive RK where
  | skip
  | quiet (v : AV)
  | new (v : AV) (id : Nat) (o : AObj)
  | loud (v : AV)
def RK.val : RK → AV
  | .skip => .lit undef
  | .quiet v => v
  | .new v _ _ => v
  | .loud v => v
noncomputable def stepD (P : Program) (X : Nat → Option Ext) (call : Answer) (ops : Array Oper) (M : List Nat) (o : Oper) (i : Nat) (st : St) : Rs (RK × St) :=
  bif wantedA ops st.aa o then
    bif isNewOp o.op then
      match evOp P ⟨st.nid, []⟩ st.aa o with
      | some (v, s1) => match s1.heap with
        | [(id, ob)] => bif Nat.beq id st.nid then .ok (.new v st.nid ob, ⟨putA st.aa o.dst v, st.nid + 1, st.news ++ [(i, st.nid, ob)], st.louds, st.s⟩) else .err "id" o.pos
        | _ => .err "new" o.pos
      | none => .err "op new" o.pos
    else bif isLoud o.op then
      match evOper P X call o st.aa ⟨st.s.next, freeN M st.news st.louds i ++ st.s.heap⟩ with
      | .ok (v, s1) => .ok (.loud v, ⟨putA st.aa o.dst v, st.nid, st.news, st.louds ++ [(i, st.s)], s1⟩)
      | .err a b => .err a b
    else match evOp P ⟨st.s.next, freeN M st.news st.louds i ++ st.s.heap⟩ st.aa o with
      | some (v, _) => .ok (.quiet v, ⟨putA st.aa o.dst v, st.nid, st.news, st.louds, st.s⟩)
      | none => .err "op" o.pos
  else .ok (.skip, ⟨putA st.aa o.dst (.lit undef), st.nid, st.news, st.louds, st.s⟩)
abbrev Recs := List (RK × List AV)
noncomputable def runD (P : Program) (X : Nat → Option Ext) (call : Answer) (ops : Array Oper) (M : List Nat) (l : List Oper) : Nat → St → Rs (Recs × St) :=
  List.rec (fun _ st => .ok ([], st)) (fun o _ ih i st => match stepD P X call ops M o i st with
    | .ok (k, st') => match ih (i + 1) st' with
      | .ok (rs, stF) => .ok ((k, st.aa) :: rs, stF)
      | .err a b => .err a b
    | .err a b => .err a b) l
def sameCell : Value → Value → Bool
  | .bool a, .bool b => a == b
  | .int k a, .int k' b => decide (k = k') && decide (a = b)
  | .string a, .string b => decide (a.data.toList = b.data.toList)
  | .pointer none, .pointer none => true
  | .slice none a b, .slice none c d => Nat.beq a c && Nat.beq b d
  | .nilFunc, .nilFunc => true
  | .map none, .map none => true
  | _, _ => false
def sameCells : List Value → List Value → Bool
  | [], [] => true
  | a :: x, b :: y => sameCell a b && sameCells x y
  | _, _ => false
def sameV (a b : Value) : Bool := match a, b with
  | .agg x, .agg y => sameCells x.toList y.toList
  | .tuple x, .tuple y => sameCells x.toList y.toList
  | a, b => sameCell a b
mutual
def sameA : AV → AV → Bool
  | .lit a, .lit b => sameV a b
  | .ptr i a, .ptr j b => Nat.beq i j && Nat.beq a b
  | .sl i a n c, .sl j b m d => Nat.beq i j && Nat.beq a b && Nat.beq n m && decide (c = d)
  | .mp i, .mp j => Nat.beq i j
  | .fn f x, .fn g y => Nat.beq f g && sameAL x y
  | .agg x, .agg y => sameAL x y
  | .tup x, .tup y => sameAL x y
  | .ifc t a, .ifc u b => Nat.beq t u && sameA a b
  | _, _ => false
def sameAL : List AV → List AV → Bool
  | [], [] => true
  | a :: x, b :: y => sameA a b && sameAL x y
  | _, _ => false
end
/-- the state when q of the loud ones have been -/
def stateAt (louds : Louds) (sF : AS) (q : Nat) : AS := match louds[q]? with | some p => p.2 | none => sF
def readsT (ops : Array Oper) (o : Oper) (t : Nat) : Bool :=
  o.op.operands.toList.any (fun x => match x with | .tmp u => Nat.beq u t | _ => false) ||
  (match o.guard with | some (g, _) => (match (ops[g]?).bind (·.dst) with | some u => Nat.beq u t | none => false) | none => false)
def distinctN (l : List Nat) : Bool := match l with | [] => true | a :: r => !(r.any fun b => Nat.beq a b) && distinctN r
/-- whoever writes a slot that j reads stands ahead of j or behind it -/
def okReads (ops : Array Oper) (M : List Nat) (l : List Oper) : Bool :=
  l.zipIdx.all fun (o, j) => l.zipIdx.all fun (o', i) => Nat.beq i j || (match o'.dst with
    | some t => !(readsT ops o t) || (bif Nat.blt i j then bm M i j else bm M j i)
    | none => true)
def okLouds (M : List Nat) (louds : Louds) : Bool := match louds with | [] => true | a :: r => (r.all fun b => bm M a.1 b.1) && okLouds M r
noncomputable def okQuiet (P : Program) (M : List Nat) (news : News) (louds : Louds) (sF : AS) (o : Oper) (j : Nat) (v : AV) (aa : List AV) : Bool :=
  (List.range (louds.length + 1)).all fun q =>
    !((louds.take q).all (fun l => !(bm M j l.1)) && (louds.drop q).all (fun l => !(bm M l.1 j))) ||
    (match evOp P ⟨(stateAt louds sF q).next, freeN M news (louds.take q) j ++ (stateAt louds sF q).heap⟩ aa o with
      | some (v', _) => sameA v v'
      | none => false)
noncomputable def okD (P : Program) (ops : Array Oper) (M : List Nat) (n0 len : Nat) (recs : Recs) (st : St) : Bool :=
  distinctN (ops.toList.filterMap (·.dst)) &&
  ops.toList.all (fun o => match o.dst with | some t => Nat.blt t len | none => true) &&
  okReads ops M ops.toList &&
  okLouds M st.louds &&
  ops.toList.zipIdx.all (fun (o, j) => o.after.toList.all fun e => !(Region.binds .any e) || Nat.blt e.on j) &&
  st.news.all (fun x => Nat.ble n0 x.2.1 && Nat.blt x.2.1 (stateAt st.louds st.s 0).next) &&
  distinctN (st.news.map (·.2.1)) &&
  (List.range (st.louds.length + 1)).all (fun q => st.news.all fun x => ((st.louds.take q).any fun l => bm M x.1 l.1) || ((stateAt st.louds st.s q).heap.get x.2.1).isNone) &&
  (ops.toList.zip recs).zipIdx.all (fun (p, j) => match p.2.1 with | .quiet v => okQuiet P M st.news st.louds st.s p.1 j v p.2.2 | _ => true)
noncomputable def evDraw (P : Program) (X : Nat → Option Ext) (call : Answer) (ops : Array Oper) (aa : List AV) (s : AS) : Rs (List AV × AS) :=
  match runD P X call ops (masks ops.toList) ops.toList 0 ⟨aa, s.next, [], [], ⟨s.next + (ops.toList.countP fun o => isNewOp o.op), s.heap⟩⟩ with
  | .ok (recs, st) =>
    bif okD P ops (masks ops.toList) s.next aa.length recs st then
      .ok (st.aa, ⟨st.s.next, (st.news.filter fun x => !(st.louds.any fun l => bm (masks ops.toList) x.1 l.1)).map (·.2) ++ st.s.heap⟩)
    else .err "draw" (match ops.toList with | o :: _ => o.pos | [] => "")
  | .err a b => .err a b
abbrev CodeFn := Nat → List AV → AS → Rs (AX × List AV × AS)
noncomputable def loopR (b : List AV → AS → Rs (AX × List AV × AS)) (m : Nat) : List AV → AS → Rs (AX × List AV × AS) :=
  Nat.rec (fun _ _ => .err "rounds" "") (fun _ ih aa s => match b aa s with
    | .ok (.normal, aa', s') => ih aa' s'
    | r => r) m
noncomputable def evCode (P : Program) (X : Nat → Option Ext) (call : Answer) (c : Code) : CodeFn :=
  Code.rec (motive := fun _ => CodeFn)
    (fun _ aa s => .ok (.normal, aa, s)) -- skip
    (fun _ ops draw _ aa s => match (bif draw then evDraw P X call ops aa s else evOps P X call ops ops.toList aa s) with | .ok (aa', s') => .ok (.normal, aa', s') | .err a b => .err a b) -- region
    (fun _ _ ia ib n aa s => match ia n aa s with | .ok (.normal, aa', s') => ib n aa' s' | r => r) -- seq
    (fun c _ _ ia ib n aa s => match evalA aa c with | .lit (.bool b) => bif b then ia n aa s else ib n aa s | _ => .err "cond" "") -- cond
    (fun id _ ih n aa s => match ih n aa s with | .ok (.exit i, aa', s') => .ok (bif Nat.beq i id then .normal else .exit i, aa', s') | r => r) -- block
    (fun _ ih n aa s => loopR (ih n) n aa s) -- loop
    (fun _ _ _ _ _ _ _ _ _ => .err "rangeFunc" "") -- rangeFunc
    (fun id _ aa s => .ok (.exit id, aa, s)) -- exit
    (fun _ ih n aa s => ih n aa s) -- scope
    (fun _ _ aa s => .ok (.normal, aa, s)) -- label
    (fun _ _ _ _ => .err "goto" "") -- goto
    (fun _ aa s => .ok (.ret, aa, s)) -- ret
    (fun _ _ _ _ => .err "refuse" "") -- refuse
    c
noncomputable def evBody (P : Program) (X : Nat → Option Ext) (keep : Nat → Bool) (n : Nat) (call : Answer) (f : FuncId) (args : List AV) (s : AS) : Rs (AV × AS) :=
  match P.funcs[f]? with
  | none => .err "no func" ""
  | some fn => match fn.body with
    | none => .err "no body" fn.name
    | some c => match evCode P X call c n (args ++ List.replicate (fn.ntmps - args.length) (.lit undef)) s with
      | .ok (x, aa, s') => match x with
        | .exit _ => .err "exit" fn.name
        | _ => match resultA P fn s'.heap aa with
          | some v => .ok (v, ⟨s'.next, dropA (keep f) s.next v s'.heap⟩)
          | none => .err "result" fn.name
      | .err a b => .err a b
noncomputable def evCall (P : Program) (X : Nat → Option Ext) (keep : Nat → Bool) (n : Nat) (d : Nat) : Answer :=
  Nat.rec (fun _ _ _ => .err "depth" "") (fun _ ih f args s => evBody P X keep n ih f args s) d
end Go.Proofs.YtokbandookjdjaaGreat.Ev
