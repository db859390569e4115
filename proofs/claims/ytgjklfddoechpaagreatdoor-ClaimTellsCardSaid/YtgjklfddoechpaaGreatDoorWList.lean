/- Package wire: a reader's lists: Nums, Texts. -/
import Derived.Test.YtgjklfddoechpaaGreatDoorWText
import Derived.Deep.Heap
namespace Go.Proofs.YtgjklfddoechpaaGreatDoor
open Go.RowKit
theorem rdList_nil {α : Type} (f : List UInt8 → Option (α × List UInt8)) (n : Nat) : rdList f n [] = none := by cases n <;> rfl
theorem rdList_end {α : Type} (f : List UInt8 → Option (α × List UInt8)) (n : Nat) (t : List UInt8) : rdList f (n + 1) (0 :: t) = some ([], t) := rfl
theorem rdList_one {α : Type} (f : List UInt8 → Option (α × List UInt8)) (n : Nat) (t : List UInt8) : rdList f (n + 1) (1 :: t) = match f t with | none => none | some (x, r) => (rdList f n r).map fun p => (x :: p.1, p.2) := rfl
theorem rdList_other {α : Type} (f : List UInt8 → Option (α × List UInt8)) (n : Nat) (c : UInt8) (t : List UInt8) (h0 : c ≠ 0) (h1 : c ≠ 1) : rdList f n (c :: t) = none := by
  cases n with
  | zero => rfl
  | succ n => simp only [rdList]; rw [if_neg h0, if_neg h1]
/-- what reading a list has come to: acc has been read, st is left -/
def LInv {α : Type} (f : List UInt8 → Option (α × List UInt8)) (R : Option (List α × List UInt8)) (acc : List α) (st : RSt) : Prop :=
  match st with
  | none => R = none
  | some cur => ∃ n, cur.length < n ∧ R = (rdList f n cur).map fun p => (acc ++ p.1, p.2)
theorem LInv.start {α : Type} (f : List UInt8 → Option (α × List UInt8)) (s : List UInt8) : LInv f (rdList f (s.length + 1) s) [] (some s) := ⟨_, Nat.lt_succ_self _, by simp⟩
theorem LInv.fin {α : Type} {f : List UInt8 → Option (α × List UInt8)} {R : Option (List α × List UInt8)} {acc : List α} {t : List UInt8} (h : LInv f R acc (some (0 :: t))) : R = some (acc, t) := by
  obtain ⟨n, hn, h⟩ := h
  cases n with
  | zero => omega
  | succ n => rw [h, rdList_end]; simp
theorem LInv.empty {α : Type} {f : List UInt8 → Option (α × List UInt8)} {R : Option (List α × List UInt8)} {acc : List α} (h : LInv f R acc (some [])) : R = none := by
  obtain ⟨n, hn, h⟩ := h
  rw [h, rdList_nil]; rfl
theorem LInv.other {α : Type} {f : List UInt8 → Option (α × List UInt8)} {R : Option (List α × List UInt8)} {acc : List α} {c : UInt8} {t : List UInt8} (h : LInv f R acc (some (c :: t))) (h0 : c ≠ 0) (h1 : c ≠ 1) : R = none := by
  obtain ⟨n, hn, h⟩ := h
  rw [h, rdList_other f n c t h0 h1]; rfl
theorem LInv.step {α : Type} {f : List UInt8 → Option (α × List UInt8)} (hf : ∀ s x r, f s = some (x, r) → r.length < s.length) {R : Option (List α × List UInt8)} {acc : List α} {t : List UInt8} (h : LInv f R acc (some (1 :: t))) :
    (∀ x r, f t = some (x, r) → LInv f R (acc ++ [x]) (some r)) ∧ (f t = none → R = none) := by
  obtain ⟨n, hn, h⟩ := h
  cases n with
  | zero => omega
  | succ n =>
    rw [rdList_one] at h
    constructor
    · intro x r hx
      rw [hx] at h
      simp only at h
      have := hf _ _ _ hx
      simp only [List.length_cons] at hn
      refine ⟨n, by omega, ?_⟩
      rw [h, Option.map_map]
      congr 1
      funext p
      simp
    · intro hx
      rw [hx] at h
      exact h
def outL {α : Type} (R : Option (List α × List UInt8)) : List α × RSt := match R with | none => ([], none) | some (n, r') => (n, some r')
theorem opList_of {α : Type} {f : List UInt8 → Option (α × List UInt8)} {s : List UInt8} : opList f (some s) = outL (rdList f (s.length + 1) s) := by
  show (match rdList f (s.length + 1) s with | none => ([], none) | some (n, r') => (n, some r')) = _
  rfl
theorem rdInt_of_op {t r : List UInt8} {x : Int} {st : RSt} (h : opInt (some t) = (x, st)) : (st = none → rdInt t = none) ∧ (st = some r → rdInt t = some (x, r)) := by
  unfold opInt at h
  cases hq : rdInt t with
  | none => simp only [hq, Prod.mk.injEq] at h; exact ⟨fun _ => rfl, (fun e => by rw [← h.2] at e; cases e)⟩
  | some p => simp only [hq, Prod.mk.injEq] at h; exact ⟨(fun e => by rw [← h.2] at e; cases e), (fun e => by rw [← h.2] at e; cases e; rw [← h.1])⟩
theorem rdText_of_op {t r : List UInt8} {x : List UInt8} {st : RSt} (h : opText (some t) = (x, st)) : (st = none → rdText t = none) ∧ (st = some r → rdText t = some (x, r)) := by
  unfold opText at h
  cases hq : rdText t with
  | none => simp only [hq, Prod.mk.injEq] at h; exact ⟨fun _ => rfl, (fun e => by rw [← h.2] at e; cases e)⟩
  | some p => simp only [hq, Prod.mk.injEq] at h; exact ⟨(fun e => by rw [← h.2] at e; cases e), (fun e => by rw [← h.2] at e; cases e; rw [← h.1])⟩
/-- how much a reader still holds -/
def rdMeas (g : Nat) (w : World) : Nat := match w.cell? ⟨g, 1, none⟩, w.cell? ⟨g, 0, none⟩ with | some (.bool false), some (.string b) => b.size + 1 | _, _ => 0
theorem rdMeas_of {g : Nat} {st : RSt} {w : World} (h : RdAt g st w) : rdMeas g w = match st with | none => 0 | some s => s.length + 1 := by
  obtain ⟨rest, bad, hb, hl, rfl⟩ := h
  have c0 : w.cell? ⟨g, 0, none⟩ = some (.string rest) := by rw [Lib.cell_of_heap hb]; rfl
  have c1 : w.cell? ⟨g, 1, none⟩ = some (.bool bad) := by rw [Lib.cell_of_heap hb]; rfl
  unfold rdMeas
  rw [c0, c1]
  cases bad with
  | true => rfl
  | false => simp
theorem rdInt_lt' : ∀ s x r, rdInt s = some (x, r) → r.length < s.length := fun _ _ _ h => rdInt_lt h
theorem rdText_lt' : ∀ s x r, rdText s = some (x, r) → r.length < s.length := fun _ _ _ h => rdText_lt h
def encT (l : List UInt8) : Value := .string ⟨l.toArray⟩
theorem undIs : Tryz.prog.underlying 30 = some (.slice 3) := by kernel_rfl
theorem infoI : (Tryz.prog.info? 3).map (fun i => (i.zero, i.size, i.bytes)) = some (some (.int .i64 0), 1, 8) := by kernel_rfl
theorem undSs : Tryz.prog.underlying 52 = some (.slice 9) := by kernel_rfl
theorem infoS : (Tryz.prog.info? 9).map (fun i => (i.zero, i.size, i.bytes)) = some (some (.string ⟨#[]⟩), 1, 16) := by kernel_rfl
theorem grown_up {w w1 : World} {g : Nat} (h : Below w.heap.size w w1) : w.grownBy w1 (some g) := grownBy_of_below h _
theorem owns_set {w : World} {base n size : Nat} {e : TypeId} {v : Value} {xs : List Value} (h : w.ownsRow base e size v n xs) {g o : Nat} (hg : g < base) (u : Value) : (w.setCell ⟨g, o, none⟩ u).ownsRow base e size v n xs := ownsRow_setCell_below h hg u
theorem owns_grown {w w' : World} {base n size g : Nat} {e : TypeId} {v : Value} {xs : List Value} (h : w.ownsRow base e size v n xs) (hg : w.grownBy w' (some g)) (hb : g < base) : w'.ownsRow base e size v n xs :=
  h.kept hg (by
    cases hq : v.ownBlock with
    | none => exact Or.inl rfl
    | some k => exact Or.inr (fun e => by have := h.block_ge hq; simp at e; omega))
theorem grown_own {w w1 w2 : World} {base n size g : Nat} {e : TypeId} {v : Value} {xs : List Value} (h : w.grownBy w1 (some g)) (hown : w1.ownsRow base e size v n xs) (hb : w.heap.size ≤ base) (h2 : w1.grownBy w2 v.ownBlock) : w.grownBy w2 (some g) :=
  ⟨h2.os.trans h.os, h2.tape.trans h.tape, h2.output.trans h.output, Nat.le_trans h.size h2.size, fun k hk hne => (h2.block k (Nat.lt_of_lt_of_le hk h.size) (fun e => by have := hown.block_ge e.symm; omega)).trans (h.block k hk hne)⟩

end Go.Proofs.YtgjklfddoechpaaGreatDoor
