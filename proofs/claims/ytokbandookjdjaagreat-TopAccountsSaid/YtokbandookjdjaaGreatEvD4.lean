/- A symbolic evaluator of the model's code: an operation looks at its operands alone. -/
import Derived.Test.YtokbandookjdjaaGreatEvD3
namespace Go.Proofs.YtokbandookjdjaaGreat.Ev
open Go
section
variable {P : Program} {X : Nat → Option Ext} {call : Answer} {s : AS} {aa aa' : List AV}
theorem bound_congr {d : Nat} : ∀ (x : Option Operand), (∀ y, x = some y → evalA aa y = evalA aa' y) → boundA aa d x = boundA aa' d x
  | none, _ => rfl
  | some y, h => by unfold boundA; dsimp only; rw [h y rfl]
theorem parts_congr {parts : Array (Nat × Operand)} (h : ∀ p ∈ parts.toList, evalA aa p.2 = evalA aa' p.2) : (parts.toList.map fun (i, x) => (i, evalA aa x)) = parts.toList.map fun (i, x) => (i, evalA aa' x) := by
  apply List.map_congr_left
  intro p hp
  show (p.1, evalA aa p.2) = (p.1, evalA aa' p.2)
  rw [h p hp]
theorem builtin_congr {b : Builtin} {args : Array Operand} {ts : Array TypeId} (h : ∀ x ∈ args, evalA aa x = evalA aa' x) : evBuiltin P s aa b args ts = evBuiltin P s aa' b args ts := by
  unfold evBuiltin
  split
  · next x t h1 _ =>
    have hx := h x (Array.mem_toList_iff.1 (by rw [h1]; simp))
    unfold evLen
    rw [hx]
  · next x t h1 _ =>
    have hx := h x (Array.mem_toList_iff.1 (by rw [h1]; simp))
    unfold evCap
    rw [hx]
  · next x y t u h1 _ =>
    have hx := h x (Array.mem_toList_iff.1 (by rw [h1]; simp))
    have hy := h y (Array.mem_toList_iff.1 (by rw [h1]; simp))
    rw [hx, hy]
  · next x y t u h1 _ =>
    have hx := h x (Array.mem_toList_iff.1 (by rw [h1]; simp))
    have hy := h y (Array.mem_toList_iff.1 (by rw [h1]; simp))
    unfold evAppend
    rw [hx, hy]
  · rfl
theorem own_congr (op : Op) (h : ∀ x ∈ op.operands, evalA aa x = evalA aa' x) : evOwn P s aa op = evOwn P s aa' op := by
  unfold evOwn
  split
  · next x => rw [h x (by simp [Op.operands])]
  · next x => rw [h x (by simp [Op.operands])]
  · next c a b =>
    have h1 := h c (by simp [Op.operands])
    have h2 := h a (by simp [Op.operands])
    have h3 := h b (by simp [Op.operands])
    unfold evPick
    rw [h1]
    split
    · next t _ => cases t <;> simp only [cond_true, cond_false, h2, h3]
    · rfl
  · next t x => unfold evLoad; rw [h x (by simp [Op.operands])]
  · next t x y => unfold evStore; rw [h x (by simp [Op.operands]), h y (by simp [Op.operands])]
  · rfl
  · next t x => rw [h x (by simp [Op.operands])]
  · next t parts =>
    have hp := parts_congr (aa := aa) (aa' := aa') (parts := parts) (fun p hp => h p.2 (by
      show p.2 ∈ (parts.toList.map (·.2)).toArray
      simp
      exact ⟨p.1, by simpa using hp⟩))
    unfold evBuild
    rw [hp]
  · next t len parts =>
    have hp := parts_congr (aa := aa) (aa' := aa') (parts := parts) (fun p hp => h p.2 (by
      show p.2 ∈ (parts.toList.map (·.2)).toArray
      simp
      exact ⟨p.1, by simpa using hp⟩))
    unfold evBuildSlice
    rw [hp]
  · next t x f => unfold evFieldAddr; rw [h x (by simp [Op.operands])]
  · next t x f => unfold evField; rw [h x (by simp [Op.operands])]
  · next t x i => unfold evIndexAddr; rw [h x (by simp [Op.operands]), h i (by simp [Op.operands])]
  · next t x lo hi =>
    unfold evSlice
    rw [h x (by simp [Op.operands]), bound_congr (d := 0) lo (fun y hy => h y (by simp [Op.operands, hy]))]
    split
    · next _ _ len _ _ _ _ => rw [bound_congr (d := len) hi (fun y hy => h y (by simp [Op.operands, hy]))]
    · rfl
  · next t x hh m => unfold evSlice3; rw [h x (by simp [Op.operands]), h hh (by simp [Op.operands]), h m (by simp [Op.operands])]
  · next x => unfold evNilCheck; rw [h x (by simp [Op.operands])]
  · next fn first captured =>
    have hm : captured.toList.map (evalA aa) = captured.toList.map (evalA aa') := List.map_congr_left fun x hx => h x (by
      show x ∈ first ++ captured
      exact Array.mem_append.2 (Or.inr (Array.mem_toList_iff.1 hx)))
    unfold evMakeFunc
    rw [hm]
  · next x i => unfold evExtract; rw [h x (by simp [Op.operands])]
  · next op xt x y _ => unfold evBin; rw [h x (by simp [Op.operands]), h y (by simp [Op.operands])]
  · next t l c => unfold evMakeSlice; rw [h l (by simp [Op.operands]), h c (by simp [Op.operands])]
  · next b args ts => exact builtin_congr fun x hx => h x (by
      show x ∈ #[] ++ args
      simpa using hx)
  · next t x => unfold evMakeInterface; rw [h x (by simp [Op.operands])]
  · rfl
  · next t x k ok => unfold evLookup; rw [h x (by simp [Op.operands]), h k (by simp [Op.operands])]
  · next t x k y => unfold evMapUpdate; rw [h x (by simp [Op.operands]), h k (by simp [Op.operands]), h y (by simp [Op.operands])]
  · next t x => unfold evRange; rw [h x (by simp [Op.operands])]
  · next x b => unfold evNext; rw [h x (by simp [Op.operands])]
  · rfl
theorem op_congr (o : Oper) (h : ∀ x ∈ o.op.operands, evalA aa x = evalA aa' x) : evOp P s aa o = evOp P s aa' o := by
  unfold evOp
  rw [own_congr o.op h]
  have hp : evPure P aa o = evPure P aa' o := by
    unfold evPure
    cases hsel : isSelect o.op with
    | true => rfl
    | false =>
      have hns : ∀ cs b, o.op ≠ .select cs b := fun cs b e => by rw [e] at hsel; cases hsel
      have h1 : o.op.operands.all (fun x => (lits (evalA aa x)).isSome) = o.op.operands.all (fun x => (lits (evalA aa' x)).isSome) := by
        rw [Bool.eq_iff_iff, Array.all_eq_true_iff_forall_mem, Array.all_eq_true_iff_forall_mem]
        exact ⟨fun h2 x hx => by rw [← h x hx]; exact h2 x hx, fun h2 x hx => by rw [h x hx]; exact h2 x hx⟩
      have h2 : execOp (litOp aa) o = execOp (litOp aa') o := execOp_congr o hns fun x hx => by unfold litOp; rw [h x hx]
      rw [h1, h2]
  rw [hp]
theorem oper_congr (o : Oper) (h : ∀ x ∈ o.op.operands, evalA aa x = evalA aa' x) : evOper P X call o aa s = evOper P X call o aa' s := by
  unfold evOper
  split
  · next f args ts hop =>
    have hops : o.op.operands = #[f] ++ args := by rw [hop]; rfl
    rw [hops] at h
    have hm : args.toList.map (evalA aa) = args.toList.map (evalA aa') := List.map_congr_left fun x hx => h x (Array.mem_append.2 (Or.inr (Array.mem_toList_iff.1 hx)))
    rw [h f (by simp), hm]
  · rw [op_congr o h]
/-- the slots that R names alone -/
def maskA (R : Nat → Bool) (aa : List AV) : List AV := aa.zipIdx.map fun p => if R p.2 then p.1 else .lit undef
theorem getT_mask (R : Nat → Bool) (aa : List AV) (t : Nat) : getT (maskA R aa) t = if R t then getT aa t else .lit undef := by
  rw [getT_eq, getT_eq]
  unfold maskA
  rw [List.getElem?_map, List.getElem?_zipIdx]
  cases aa[t]? with
  | none => simp
  | some y => simp
theorem okL_mask {E : Emb} {R : Nat → Bool} {aa : List AV} (h : ∀ t, R t = true → okA E (getT aa t) = true) : okL E (maskA R aa) = true := by
  rw [okL_iff]
  intro x hx
  obtain ⟨t, ht⟩ := List.getElem?_of_mem hx
  have h1 := getT_mask R aa t
  rw [getT_eq, ht] at h1
  simp only [Option.getD_some] at h1
  rw [h1]
  split
  · next hr => exact h t hr
  · rfl
end
end Go.Proofs.YtokbandookjdjaaGreat.Ev
