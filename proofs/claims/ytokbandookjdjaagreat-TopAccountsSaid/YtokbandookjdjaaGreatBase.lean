/- Small lemmas on worlds, rows of 32-bit words and integers that the other texts of this claim use. No condition beyond what each lemma states. -/
import Derived.Test.YtokbandookjdjaaGreatProg
import Derived.WalkKit
import Derived.WalkLawsBesides
import Derived.Lib.Hide
import Derived.Deep.Draws
import Derived.Deep.WholeRow
import Derived.Deep.MidRow
import Derived.StillTailTactics
import Derived.Deep.RegionHeld3
import Derived.Laws.IdiomStrings
import Derived.Laws.BytesArg
namespace Go.Proofs.YtokbandookjdjaaGreat
open Go.RowKit
theorem below_drewN {B n : Nat} {w w' : World} (h : Below B w w') : Below B w (w'.drewN n) := h.trans ⟨rfl, rfl, rfl, Nat.le_refl _, fun _ _ => rfl⟩
theorem below_setRow {B g : Nat} {w w' : World} (h : Below B w w') (hg : B ≤ g) (cs : Array Value) : Below B w (w'.setRow g cs) :=
  h.trans ⟨rfl, rfl, rfl, by simp, fun k hk => setRow_other _ _ _ _ (by omega)⟩
def u32v (vs : List Int) : Array Value := (vs.map (Value.int .u32)).toArray
theorem u32v_get (vs : List Int) (i : Nat) (h : i < vs.length) : (u32v vs)[i]? = some (.int .u32 (vs[i]?.getD 0)) := by
  unfold u32v
  simp [h]
theorem u32v_size (vs : List Int) : (u32v vs).size = vs.length := by simp [u32v]
theorem u32v_set (vs : List Int) (i : Nat) (z : Int) : (u32v vs).setIfInBounds i (.int .u32 z) = u32v (vs.set i z) := by
  unfold u32v
  simp [List.map_set]
theorem u32v_one (vs : List Int) : (u32v vs).all (·.oneCell') = true := by
  simp [u32v, Value.oneCell']
/-- all members are 32-bit words -/
def W32 (vs : List Int) : Prop := ∀ i : Nat, 0 ≤ vs[i]?.getD 0 ∧ vs[i]?.getD 0 ≤ 4294967295
theorem W32.set {vs : List Int} (h : W32 vs) (i : Nat) {z : Int} (h0 : 0 ≤ z) (h1 : z ≤ 4294967295) : W32 (vs.set i z) := by
  intro j
  rw [List.getElem?_set]
  split
  · split
    · exact ⟨h0, h1⟩
    · exact ⟨by simp, by simp⟩
  · exact h j
theorem W32.nil : W32 [] := fun i => by simp
theorem W32.cons {vs : List Int} {z : Int} (h0 : 0 ≤ z) (h1 : z ≤ 4294967295) (h : W32 vs) : W32 (z :: vs) := by
  intro j
  cases j with
  | zero => exact ⟨h0, h1⟩
  | succ j => simpa using h j
theorem W32.replicate (n : Nat) : W32 (List.replicate n 0) := by
  intro j
  rw [List.getElem?_replicate]
  split <;> simp
/-- a row that is read in a region that draws, among operations that leave the world as it is -/
theorem wpStill_load_mid {P : Program} {ops : Array Oper} {w : World} {Q : Act → Prop} {a : Act} {o : Oper} {rest : List Oper} (hgd : o.guard = none) (ty : TypeId) (x : Operand) (ho : o.op = .load ty x)
    (b off : Nat) (hx : a.eval x = .pointer (some ⟨b, off, none⟩)) (cs : List Value) (d : TypeDesc) (hc : w.rangeAt b off cs)
    (hu : P.underlying ty = some d) (hd : d.isRow = true) (hi : (P.info? ty).map (·.size) = some cs.length)
    (h : wpStill P ops w Q rest (a.put o.dst (.agg cs.toArray))) : wpStill P ops w Q (o :: rest) a := by
  refine wpStill_step (fun K hK => ?_)
  rw [if_pos (by simp [Region.wanted, hgd])]
  unfold Oper.still execOp
  simp only [ho, hx, Instr.loadAt, Instr.sureAddr, Sem.run_bind, Sem.run_pure, Result.andThen_ok, run_loadVar_mid w b off ty cs d hc hu hd hi]
  exact ⟨rfl, hK _ h⟩
theorem rangeAt_row {w : World} {g : Nat} {cs : List Value} {t : TypeId} {fr : Nat × Nat} (h : w.heap[g]? = some (.cells cs.toArray t fr)) : w.rangeAt g 0 cs := fun j v hv => by
  rw [cell_of_row w g _ _ _ _ h]
  simpa using hv
theorem rangeAt_below {B b o : Nat} {cs : List Value} {w w' : World} (h : w.rangeAt b o cs) (hb : Below B w w') (hB : b < B) : w'.rangeAt b o cs := fun j v hv =>
  (hb.cell (p := ⟨b, o + j, none⟩) hB).trans (h j v hv)
theorem blk_below {B g : Nat} {x : Option Obj} {w w' : World} (h : w.heap[g]? = x) (hb : Below B w w') (hB : g < B) : w'.heap[g]? = x := (hb.block g hB).trans h
theorem blk_lt {g : Nat} {o : Obj} {w : World} (h : w.heap[g]? = some o) : g < w.heap.size := by
  rcases Nat.lt_or_ge g w.heap.size with hlt | hge
  · exact hlt
  · rw [Array.getElem?_eq_none hge] at h; cases h
/-- bytes as the cells of a slice -/
def bytesV (bs : List UInt8) : List Value := bs.map fun b => Value.int .u8 (b.toNat : Int)
theorem bytesV_append (a b : List UInt8) : bytesV (a ++ b) = bytesV a ++ bytesV b := List.map_append
theorem bytesV_length (a : List UInt8) : (bytesV a).length = a.length := List.length_map _
theorem bytesV_one (a : List UInt8) : ∀ u ∈ bytesV a, u.oneCell' = true := by
  intro u hu
  simp only [bytesV, List.mem_map] at hu
  obtain ⟨b, _, rfl⟩ := hu
  rfl
/-- the cells of a block that was just made -/
theorem cells_new (w : World) (C : Array Value) (t : TypeId) : ∀ (j : Nat) (u : Value), C.toList[j]? = some u → (w.alloc (.cells C t)).cell? ((⟨w.heap.size, 0, none⟩ : Addr).add j) = some u := fun j u h => by
  rw [Addr.add_mid, Nat.zero_add, cell_of_row _ _ _ _ _ _ (heap_alloc_new w _)]
  simpa using h
/-- a slice of bytes of the call's own, turned into a string -/
theorem wpList_string_own {P : Program} {w : World} {ops : Array Oper} {rest : List Oper} {o : Oper} {a : Act} {Q : Exit → Act → World → Prop} (hgd : o.guard = none) (T S e : TypeId) (x : Operand) (ho : o.op = .convert T S x)
    (hT : P.underlying T = some (.slice e)) (he : P.underlying e = some (.int .u8)) (hS : P.underlying S = some .string) (v : Value) (hx : a.eval x = v) (base n : Nat) (bs : List UInt8) (hown : w.ownsRow base e 1 v n (bytesV bs))
    (h : wpList P ops Q rest (a.put o.dst (.string ⟨bs.toArray⟩)) w) : wpList P ops Q (o :: rest) a w := by
  have hrun : (convert T S v).run P w = .ok (.string ⟨bs.toArray⟩) w := by
    have hlen : bs.length = n := by have := hown.1; rw [bytesV_length] at this; omega
    rcases hown.2 with ⟨rfl, hn⟩ | ⟨g, cap, cur, rfl, _, hh, hnc, _, hcs, htk⟩
    · have : bs = [] := List.eq_nil_of_length_eq_zero (by omega)
      subst this
      exact run_convert_bytes_nil w T e hT he 0 0 S hS
    · subst hlen
      refine run_convert_bytes_back w T S e _ cap bs hT he hS fun j hj => ?_
      rw [Addr.add_mid, Nat.zero_add, cell_of_row _ _ _ _ _ _ hh]
      have h1 : (cur.toList.take (bs.length * 1))[j]? = (bytesV bs)[j]? := by rw [htk]
      rw [List.getElem?_take] at h1
      simpa [hj, bytesV] using h1
  refine wpList_plain hgd fun K hK => ?_
  unfold Oper.wp execOp
  simp only [ho, hx, hrun, Result.andThen, Sem.run_bind, Sem.run_pure]
  exact hK _ _ h
theorem heap_alloc4 (w : World) (A B C D : Obj) : ((((w.alloc A).alloc B).alloc C).alloc D).heap[w.heap.size]? = some A ∧ ((((w.alloc A).alloc B).alloc C).alloc D).heap[w.heap.size + 1]? = some B ∧
    ((((w.alloc A).alloc B).alloc C).alloc D).heap[w.heap.size + 1 + 1]? = some C ∧ ((((w.alloc A).alloc B).alloc C).alloc D).heap[w.heap.size + 1 + 1 + 1]? = some D := by
  show ((((w.heap.push A).push B).push C).push D)[_]? = _ ∧ ((((w.heap.push A).push B).push C).push D)[_]? = _ ∧ ((((w.heap.push A).push B).push C).push D)[_]? = _ ∧ ((((w.heap.push A).push B).push C).push D)[_]? = _
  simp only [Array.getElem?_push, Array.size_push]
  refine ⟨?_, ?_, ?_, ?_⟩
  · rw [if_neg (by omega), if_neg (by omega), if_neg (by omega), if_pos trivial]
  · rw [if_neg (by omega), if_neg (by omega), if_pos trivial]
  · rw [if_neg (by omega), if_pos trivial]
  · rw [if_pos trivial]
theorem wpStill_load_row {P : Program} {ops : Array Oper} {w : World} {Q : Act → Prop} {a : Act} {o : Oper} {rest : List Oper} (hgd : o.guard = none) (ty : TypeId) (x : Operand) (ho : o.op = .load ty x)
    (g : Nat) (hx : a.eval x = .pointer (some ⟨g, 0, none⟩)) (t : TypeId) (cs : Array Value) (fr : Nat × Nat) (d : TypeDesc) (hg : w.heap[g]? = some (.cells cs t fr))
    (hu : P.underlying ty = some d) (hd : (match d with | .struct _ | .array _ _ => true | _ => false) = true) (hi : (P.info? ty).map (·.size) = some cs.size)
    (h : wpStill P ops w Q rest (a.put o.dst (.agg cs))) : wpStill P ops w Q (o :: rest) a := by
  refine wpStill_step (fun K hK => ?_)
  rw [if_pos (by simp [Region.wanted, hgd])]
  unfold Oper.still execOp
  simp only [ho, hx, Instr.loadAt, Instr.sureAddr, Sem.run_bind, Sem.run_pure, Result.andThen_ok, run_loadVar_row w g t ty cs fr d hg hu hd hi]
  exact ⟨rfl, hK _ h⟩
end Go.Proofs.YtokbandookjdjaaGreat
