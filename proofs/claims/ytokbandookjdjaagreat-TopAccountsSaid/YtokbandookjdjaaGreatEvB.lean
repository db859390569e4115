/- A symbolic evaluator of the model's code: operations that are no calls. -/
import Derived.Test.YtokbandookjdjaaGreatEvA
namespace Go.Proofs.YtokbandookjdjaaGreat.Ev
open Go
/-- what is appended: cells, and how many elements -/
noncomputable def srcA (h : Heap) (z : Nat) : AV → Option (List AV × Nat)
  | .lit (.slice none 0 _) => some ([], 0)
  | .sl id off len _ => match h.get id with
    | some (.cells cs _ _) => bif Nat.ble (off + len * z) cs.length then some ((cs.drop off).take (len * z), len) else none
    | _ => none
  | _ => none
noncomputable def appendA (P : Program) (s : AS) (t : TypeId) (x y : AV) : Option (AV × AS) :=
  match P.underlying t with
  | some (.slice e) =>
    match P.info? e with
    | some i =>
      match i.zero with
      | some zv =>
        match srcA s.heap i.size y with
        | some (vs, n) =>
          bif Nat.beq zv.cells.size i.size && Nat.ble 1 i.size && vs.all oneA then
            match x with
            | .lit (.slice none 0 0) =>
              bif Nat.beq n 0 then some (x, s) else
              bif Nat.ble (n * i.bytes + n) 1000000 then some (.sl s.next 0 n none, ⟨s.next + 1, (s.next, .cells vs e (some i.size)) :: s.heap⟩) else none
            | .sl id off len (some c) =>
              match s.heap.get id with
              | some (.cells cs ty gz) =>
                bif Nat.ble (len + n) c then
                  bif Nat.ble (off + len * i.size + vs.length) cs.length then some (.sl id off (len + n) (some c), ⟨s.next, s.heap.put id (.cells (writeL cs (off + len * i.size) vs) ty gz)⟩) else none
                else bif Nat.ble (off + len * i.size) cs.length && Nat.ble ((len + n) * i.bytes + (len + n)) 1000000 then
                  some (.sl s.next 0 (len + n) none, ⟨s.next + 1, (s.next, .cells ((cs.drop off).take (len * i.size) ++ vs) e (some i.size)) :: s.heap⟩)
                else none
              | _ => none
            | .sl id 0 len none =>
              match s.heap.get id with
              | some (.cells cs ty (some gz)) =>
                bif Nat.beq gz i.size && Nat.beq ty e && Nat.ble (len * i.size) cs.length && Nat.ble ((len + n) * i.bytes + (len + n)) 1000000 then
                  bif Nat.beq n 0 then some (x, s) else
                  some (.sl s.next 0 (len + n) none, ⟨s.next + 1, (s.next, .cells (cs.take (len * i.size) ++ vs) e (some i.size)) :: s.heap.rm id⟩)
                else none
              | _ => none
            | _ => none
          else none
        | none => none
      | none => none
    | none => none
  | _ => none
/-- append(nil, make([]E, n)...) -/
noncomputable def growA (P : Program) (s : AS) (t : TypeId) (x y : AV) : Option (AV × AS) :=
  match P.underlying t, x, y with
  | some (.slice e), .lit (.slice none 0 0), .lit (.int .i64 n) =>
    match P.info? e with
    | some i => match i.zero with
      | some z =>
        bif decide (1 ≤ n) && Nat.ble (n.toNat * i.bytes + n.toNat) 1000000 && Nat.beq z.cells.size i.size && Nat.ble 1 i.size then
          some (.sl s.next 0 n.toNat none, ⟨s.next + 1, (s.next, .cells ((List.replicate n.toNat (z.cells.toList.map AV.lit)).flatten) e (some i.size)) :: s.heap⟩) else none
      | none => none
    | none => none
  | _, _, _ => none
noncomputable def copyA (P : Program) (s : AS) (t : TypeId) (x y : AV) : Option (AV × AS) :=
  match P.underlying t, x with
  | some (.slice e), .sl id off len _ =>
    match P.info? e with
    | some i =>
      match srcA s.heap i.size y, s.heap.get id with
      | some (vs, n), some (.cells cs ty gz) =>
        let m := Nat.min n len
        let ws := vs.take (m * i.size)
        bif ws.all oneA && Nat.ble (off + ws.length) cs.length then some (.lit (goInt m), ⟨s.next, s.heap.put id (.cells (writeL cs off ws) ty gz)⟩) else none
      | _, _ => none
    | none => none
  | _, _ => none
/-- functions without a body -/
inductive Ext where
  | valueOf
  | swapper (g : FuncId)
  | valueLen
  | swap
noncomputable def evExt (P : Program) (k : Ext) (s : AS) (args : List AV) : Option (AV × AS) :=
  match k, args with
  | .valueOf, [.ifc t (.sl id off n c)] =>
    match P.info? t with
    | some i => match i.desc with
      | .slice _ => some (.agg [.lit (typeHandle P t), .ptr s.next 0, .lit (.int .u64 151)], ⟨s.next + 1, (s.next, .cells [.sl id off n c] t none) :: s.heap⟩)
      | _ => none
    | none => none
  | .swapper g, [.ifc t (.sl id off n c)] =>
    match P.info? t with
    | some i => match i.desc with
      | .slice e => match P.info? e, pureRun P (Extern.Rtype.kind e) with
        | some ie, some _ => bif Nat.ble 2 n && !ie.hasPointers && Nat.beq ie.bytes 8 then some (.fn g [.sl id off n c, .lit (typeHandle P e)], s) else none
        | _, _ => none
      | _ => none
    | none => none
  | .valueLen, [.agg [.lit (.pointer (some ⟨hb, t, none⟩)), .ptr a 0, .lit (.int .u64 151)]] =>
    match P.info? t, s.heap.get a with
    | some i, some (.cells [.sl _ _ n _] _ none) => match i.desc with
      | .slice _ => bif Nat.beq hb P.globals.size && !(P.packed t) then some (.lit (goInt n), s) else none
      | _ => none
    | _, _ => none
  | .swap, [.lit (.int .i64 i), .lit (.int .i64 j), .sl id off n _, .lit (.pointer (some ⟨hb, e, none⟩))] =>
    match P.info? e, isAggB P e, s.heap.get id with
    | some ie, some false, some (.cells cs ty gz) =>
      match cs[off + i.toNat]?, cs[off + j.toNat]? with
      | some x, some y =>
        bif Nat.beq hb P.globals.size && Nat.beq ie.size 1 && decide (0 ≤ i) && decide (0 ≤ j) && Nat.blt i.toNat n && Nat.blt j.toNat n && oneA x && oneA y then
          some (.lit (.tuple #[]), ⟨s.next, s.heap.put id (.cells (writeL (writeL cs (off + i.toNat) [y]) (off + j.toNat) [x]) ty gz)⟩) else none
      | _, _ => none
    | _, _, _ => none
  | _, _ => none
/-- an operation on two numbers -/
def intBin (op : BinOp) (k : IntKind) (a b : Int) : Option Value :=
  match op with
  | .add => some (.int k (k.wrap (a + b)))
  | .sub => some (.int k (k.wrap (a - b)))
  | .lss => some (.bool (decide (a < b)))
  | .leq => some (.bool (decide (a ≤ b)))
  | .gtr => some (.bool (decide (a > b)))
  | .geq => some (.bool (decide (a ≥ b)))
  | .eql => some (.bool (a == b))
  | .neq => some (.bool (a != b))
  | _ => none
noncomputable def evPick (s : AS) (aa : List AV) (c a b : Operand) : Option (AV × AS) := match evalA aa c with
  | .lit (.bool t) => some (evalA aa (bif t then a else b), s)
  | _ => none
noncomputable def evLoad (P : Program) (s : AS) (aa : List AV) (t : TypeId) (x : Operand) : Option (AV × AS) := match evalA aa x with
  | .ptr id off => match readA P s.heap t id off with
    | some v => some (v, s)
    | none => none
  | _ => none
noncomputable def evStore (P : Program) (s : AS) (aa : List AV) (t : TypeId) (x v : Operand) : Option (AV × AS) := match evalA aa x with
  | .ptr id off => match writeA P s.heap t id off (evalA aa v) with
    | some h => some (.lit undef, ⟨s.next, h⟩)
    | none => none
  | _ => none
def evAlloc (P : Program) (s : AS) (t : TypeId) : Option (AV × AS) := match zeroB P t with
  | some z => some (.ptr s.next 0, ⟨s.next + 1, (s.next, .cells (z.cells.toList.map .lit) t none) :: s.heap⟩)
  | none => none
noncomputable def evBuild (P : Program) (s : AS) (aa : List AV) (t : TypeId) (parts : Array (Nat × Operand)) : Option (AV × AS) :=
  match zeroB P t, P.underlying t with
  | some z, some (.struct fields) =>
    match fields.toList.mapM (fun f => (P.info? f.type).map fun i => (f.offset, i.size)) with
    | some places =>
      match fillA (places[·]?) (z.cells.toList.map .lit) (parts.toList.map fun (i, x) => (i, evalA aa x)) with
      | some cs => some (.agg cs, s)
      | none => none
    | none => none
  | some z, some (.array _ elem) =>
    match sizeB P elem with
    | some size =>
      match fillA (fun i => some (i * size, size)) (z.cells.toList.map .lit) (parts.toList.map fun (i, x) => (i, evalA aa x)) with
      | some cs => some (.agg cs, s)
      | none => none
    | none => none
  | _, _ => none
noncomputable def evBuildSlice (P : Program) (s : AS) (aa : List AV) (t : TypeId) (len : Nat) (parts : Array (Nat × Operand)) : Option (AV × AS) :=
  match P.underlying t with
  | some (.slice elem) =>
    match sizeB P elem, zeroB P elem with
    | some size, some z =>
      bif Nat.beq len 0 && parts.isEmpty then some (.sl s.next 0 0 (some 0), ⟨s.next + 1, (s.next, .cells [] elem none) :: s.heap⟩) else
      bif Nat.ble (len * size) 65536 && Nat.ble 1 (len * size) && Nat.beq z.cells.size size then
        match fillA (fun i => some (i * size, size)) ((List.replicate len (z.cells.toList.map AV.lit)).flatten) (parts.toList.map fun (i, x) => (i, evalA aa x)) with
        | some cs => some (.sl s.next 0 len (some len), ⟨s.next + 1, (s.next, .cells cs elem none) :: s.heap⟩)
        | none => none
      else none
    | _, _ => none
  | _ => none
noncomputable def evFieldAddr (P : Program) (s : AS) (aa : List AV) (t : TypeId) (x : Operand) (f : Nat) : Option (AV × AS) :=
  match evalA aa x with
  | .ptr id off => match P.underlying t with
    | some (.struct fields) => match fields[f]? with
      | some fd => match sizeB P fd.type with
        | some n => bif Nat.beq n 0 then none else some (.ptr id (off + fd.offset), s)
        | none => none
      | none => none
    | _ => none
  | _ => none
noncomputable def evField (P : Program) (s : AS) (aa : List AV) (t : TypeId) (x : Operand) (f : Nat) : Option (AV × AS) :=
  match evalA aa x with
  | .agg cs => match P.underlying t with
    | some (.struct fields) => match fields[f]? with
      | some fd => match partA P fd.type cs fd.offset with
        | some v => some (v, s)
        | none => none
      | none => none
    | _ => none
  | _ => none
noncomputable def evIndexAddr (P : Program) (s : AS) (aa : List AV) (t : TypeId) (x i : Operand) : Option (AV × AS) :=
  match evalA aa x, evalA aa i with
  | .sl id off len _, .lit (.int _ n) => match P.underlying t with
    | some (.slice e) => match sizeB P e with
      | some z => bif decide (0 ≤ n) && Nat.blt n.toNat len then some (.ptr id (off + n.toNat * z), s) else none
      | none => none
    | _ => none
  | .ptr id off, .lit (.int _ n) => match P.underlying t with
    | some (.array len e) => match sizeB P e with
      | some z => bif decide (0 ≤ n) && Nat.blt n.toNat len then some (.ptr id (off + n.toNat * z), s) else none
      | none => none
    | _ => none
  | _, _ => none
/-- a bound of a slice expression -/
noncomputable def boundA (aa : List AV) (d : Nat) : Option Operand → Option Nat
  | none => some d
  | some y => match evalA aa y with
    | .lit (.int _ n) => bif decide (0 ≤ n) then some n.toNat else none
    | _ => none
noncomputable def evSlice (P : Program) (s : AS) (aa : List AV) (t : TypeId) (x : Operand) (lo hi : Option Operand) : Option (AV × AS) :=
  match evalA aa x, P.underlying t with
  | .sl id off len c, some (.slice e) =>
    match boundA aa 0 lo, boundA aa len hi, sizeB P e, c with
    | some l, some h, some z, some c => bif Nat.ble l h && Nat.ble h c then some (.sl id (bif Nat.beq c l then off else off + l * z) (h - l) (some (c - l)), s) else none
    | some 0, some h, some z, none =>
      match s.heap.get id with
      | some (.cells cs _ (some gz)) => bif Nat.beq gz z && Nat.ble 1 z && Nat.ble (h * z) cs.length && Nat.beq off 0 then some (.sl id 0 h none, s) else none
      | _ => none
    | _, _, _, _ => none
  | _, _ => none
noncomputable def evSlice3 (P : Program) (s : AS) (aa : List AV) (t : TypeId) (x h m : Operand) : Option (AV × AS) :=
  match evalA aa x, P.underlying t, evalA aa h, evalA aa m with
  | .sl id off _ _, some (.slice e), .lit (.int _ n), .lit (.int _ mn) => bif decide (mn = 0) && decide (n = 0) && (sizeB P e).isSome then some (.sl id off 0 (some 0), s) else none
  | _, _, _, _ => none
noncomputable def evNilCheck (s : AS) (aa : List AV) (x : Operand) : Option (AV × AS) := match evalA aa x with
  | .ptr id off => some (.ptr id off, s)
  | .sl id off n c => some (.sl id off n c, s)
  | .mp id => some (.mp id, s)
  | .fn f cs => some (.fn f cs, s)
  | _ => none
noncomputable def evMakeFunc (s : AS) (aa : List AV) (fn : Fn) (first captured : Array Operand) : Option (AV × AS) := match fn with
  | .func f => bif first.isEmpty then some (.fn f (captured.toList.map (evalA aa)), s) else none
  | _ => none
noncomputable def evExtract (s : AS) (aa : List AV) (x : Operand) (i : Nat) : Option (AV × AS) := match evalA aa x with
  | .tup cs => match cs[i]? with
    | some v => some (v, s)
    | none => none
  | _ => none
def nilEq (op : BinOp) (s : AS) : Option (AV × AS) := match op with
  | .eql => some (.lit (.bool false), s)
  | .neq => some (.lit (.bool true), s)
  | _ => none
noncomputable def evBin (P : Program) (s : AS) (aa : List AV) (op : BinOp) (xt : TypeId) (x y : Operand) : Option (AV × AS) :=
  match evalA aa x, evalA aa y with
  | .lit (.int k a), .lit (.int k' b) => bif decide (k = k') then (match intBin op k a b with | some v => some (.lit v, s) | none => none) else none
  | .sl .., .lit (.slice none _ _) => match P.underlying xt with
    | some (.slice _) => nilEq op s
    | _ => none
  | .ptr .., .lit (.pointer none) => match P.underlying xt with
    | some (.pointer _) => nilEq op s
    | _ => none
  | _, _ => none
noncomputable def evMakeSlice (P : Program) (s : AS) (aa : List AV) (t : TypeId) (l c : Operand) : Option (AV × AS) :=
  match P.underlying t, evalA aa l, evalA aa c with
  | some (.slice e), .lit (.int _ n), .lit (.int _ m) =>
    match P.info? e with
    | some i => match i.zero with
      | some z =>
        bif decide (0 ≤ n) && decide (n = m) && Nat.ble (n.toNat * i.bytes + n.toNat) 1000000 && Nat.beq z.cells.size i.size && Nat.ble 1 i.size then
          some (.sl s.next 0 n.toNat (some n.toNat), ⟨s.next + 1, (s.next, .cells ((List.replicate n.toNat (z.cells.toList.map AV.lit)).flatten) e none) :: s.heap⟩)
        else none
      | none => none
    | none => none
  | _, _, _ => none
noncomputable def evLen (P : Program) (s : AS) (aa : List AV) (x : Operand) (t : TypeId) : Option (AV × AS) :=
  match evalA aa x with
  | .sl _ _ n _ => match P.underlying t with
    | some (.slice _) => some (.lit (goInt n), s)
    | _ => none
  | .mp id => match P.underlying t with
    | some (.map _ _) => match s.heap.get id with
      | some (.map es _) => some (.lit (goInt es.size), s)
      | _ => none
    | _ => none
  | _ => none
noncomputable def evCap (P : Program) (s : AS) (aa : List AV) (x : Operand) (t : TypeId) : Option (AV × AS) :=
  match evalA aa x, P.underlying t with
  | .sl _ _ _ (some c), some (.slice _) => some (.lit (goInt c), s)
  | _, _ => none
noncomputable def evAppend (P : Program) (s : AS) (aa : List AV) (x y : Operand) (t u : TypeId) : Option (AV × AS) :=
  match P.underlying u with
  | some (.slice _) => appendA P s t (evalA aa x) (evalA aa y)
  | some (.int _) => growA P s t (evalA aa x) (evalA aa y)
  | _ => none
noncomputable def evBuiltin (P : Program) (s : AS) (aa : List AV) (b : Builtin) (args : Array Operand) (argTypes : Array TypeId) : Option (AV × AS) :=
  match b, args.toList, argTypes.toList with
  | .len, [x], [t] => evLen P s aa x t
  | .cap, [x], [t] => evCap P s aa x t
  | .copy, [x, y], [t, _] => copyA P s t (evalA aa x) (evalA aa y)
  | .append, [x, y], [t, u] => evAppend P s aa x y t u
  | _, _, _ => none
noncomputable def evMakeInterface (P : Program) (s : AS) (aa : List AV) (t : TypeId) (x : Operand) : Option (AV × AS) := match P.underlying t with
  | some (.interface _) => none
  | some _ => some (.ifc t (evalA aa x), s)
  | none => none
def evMakeMap (P : Program) (s : AS) (t : TypeId) (r : Option Operand) : Option (AV × AS) := match P.underlying t, r with
  | some (.map _ _), none => some (.mp s.next, ⟨s.next + 1, (s.next, .map #[] 0) :: s.heap⟩)
  | _, _ => none
noncomputable def evLookup (P : Program) (s : AS) (aa : List AV) (t : TypeId) (x k : Operand) (ok : Bool) : Option (AV × AS) :=
  match evalA aa x, lits (evalA aa k), P.underlying t with
  | .mp id, some kv, some (.map key elem) =>
    match s.heap.get id with
    | some (.map es _) => match pureRun P (Instr.checkKey es.isEmpty 10000 key kv), pureRun P (Instr.findKey key kv es.toList) with
      | some _, some (some (_, v)) => some (.lit (if ok then .tuple #[v, .bool true] else v), s)
      | some _, some none => match zeroB P elem with
        | some z => some (.lit (if ok then .tuple #[z, .bool false] else z), s)
        | none => none
      | _, _ => none
    | _ => none
  | _, _, _ => none
noncomputable def evMapUpdate (P : Program) (s : AS) (aa : List AV) (t : TypeId) (x k v : Operand) : Option (AV × AS) :=
  match evalA aa x, lits (evalA aa k), lits (evalA aa v), P.underlying t with
  | .mp id, some kv, some vv, some (.map key _) =>
    match s.heap.get id with
    | some (.map es clock) =>
      match pureRun P (Instr.checkKey false 10000 key kv), pureRun P (Instr.findKey key kv es.toList) with
      | some _, some none => some (.lit undef, ⟨s.next, s.heap.put id (.map (es.push { key := kv, val := vv, born := clock }) (clock + 1))⟩)
      | _, _ => none
    | _ => none
  | _, _, _, _ => none
noncomputable def evRange (P : Program) (s : AS) (aa : List AV) (t : TypeId) (x : Operand) : Option (AV × AS) := match evalA aa x, P.underlying t with
  | .mp id, some (.map _ _) => match s.heap.get id with
    | some (.map _ clock) => some (.ptr s.next 0, ⟨s.next + 1, (s.next, .iter id clock) :: s.heap⟩)
    | _ => none
  | _, _ => none
noncomputable def evNext (s : AS) (aa : List AV) (x : Operand) (b : Bool) : Option (AV × AS) := bif b then none else match evalA aa x with
  | .ptr i 0 => match s.heap.get i with
    | some (.iter m _) => match s.heap.get m with
      | some (.map es _) => bif es.isEmpty then some (.lit (.tuple #[.bool false]), s) else none
      | _ => none
    | _ => none
  | _ => none
noncomputable def evOwn (P : Program) (s : AS) (aa : List AV) (op : Op) : Option (AV × AS) :=
  match op with
  | .move x => some (evalA aa x, s)
  | .assign x => some (evalA aa x, s)
  | .pick c a b => evPick s aa c a b
  | .load t x => evLoad P s aa t x
  | .store t x v => evStore P s aa t x v
  | .alloc t => evAlloc P s t
  | .box t x => some (.ptr s.next 0, ⟨s.next + 1, (s.next, .cells (cellsA (evalA aa x)) t none) :: s.heap⟩)
  | .build t parts => evBuild P s aa t parts
  | .buildSlice t len parts => evBuildSlice P s aa t len parts
  | .fieldAddr t x f => evFieldAddr P s aa t x f
  | .field t x f => evField P s aa t x f
  | .indexAddr t x i => evIndexAddr P s aa t x i
  | .slice t x lo hi none => evSlice P s aa t x lo hi
  | .slice t x none (some h) (some m) => evSlice3 P s aa t x h m
  | .nilCheck x => evNilCheck s aa x
  | .makeFunc fn first captured => evMakeFunc s aa fn first captured
  | .extract x i => evExtract s aa x i
  | .binOp op xt x y _ => evBin P s aa op xt x y
  | .makeSlice t l c => evMakeSlice P s aa t l c
  | .call { callee := .builtin b, args, argTypes } => evBuiltin P s aa b args argTypes
  | .makeInterface t x => evMakeInterface P s aa t x
  | .makeMap t r => evMakeMap P s t r
  | .lookup t x k ok => evLookup P s aa t x k ok
  | .mapUpdate t x k v => evMapUpdate P s aa t x k v
  | .range t x => evRange P s aa t x
  | .next x b => evNext s aa x b
  | _ => none
noncomputable def evOp (P : Program) (s : AS) (aa : List AV) (o : Oper) : Option (AV × AS) :=
  match evOwn P s aa o.op with
  | some r => some r
  | none => match evPure P aa o with
    | some v => some (v, s)
    | none => none
end Go.Proofs.YtokbandookjdjaaGreat.Ev
