/- Package wire: lists: join, Nums, Texts. A slice that came in, or that the call made, as a list (CArg). -/
import Derived.Test.YtgjklfddoechpaaGreatDoorWBuild
namespace Go.Proofs.YtgjklfddoechpaaGreatDoor
open Go.RowKit
/-- v is a slice whose elements are xs, each one cell, anywhere in a block that exists -/
def CArg {α : Type} (enc : α → Value) (v : Value) (xs : List α) (w : World) : Prop :=
  ∃ a c, v = .slice a xs.length c ∧ ∀ j x, xs[j]? = some x → ∃ p, a = some p ∧ (p.add j).block < w.heap.size ∧ w.cell? (p.add j) = some (enc x)
theorem CArg.below {α : Type} {enc : α → Value} {v : Value} {xs : List α} {B : Nat} {w w' : World} (h : CArg enc v xs w) (hb : Below B w w') (hB : w.heap.size ≤ B) : CArg enc v xs w' := by
  obtain ⟨a, c, rfl, h⟩ := h
  refine ⟨a, c, rfl, fun j s hj => ?_⟩
  obtain ⟨p, h1, h2, h3⟩ := h j s hj
  exact ⟨p, h1, Nat.lt_of_lt_of_le h2 hb.size, (hb.cell (Nat.lt_of_lt_of_le h2 hB)).trans h3⟩
theorem CArg.grown {α : Type} {enc : α → Value} {v : Value} {xs : List α} {w w' : World} {row : Option Nat} (h : CArg enc v xs w) (hg : w.grownBy w' row) (hne : ∀ a n c, v = .slice (some a) n c → some a.block ≠ row) : CArg enc v xs w' := by
  obtain ⟨a, c, rfl, h⟩ := h
  refine ⟨a, c, rfl, fun j s hj => ?_⟩
  obtain ⟨p, rfl, h2, h3⟩ := h j s hj
  refine ⟨p, rfl, Nat.lt_of_lt_of_le h2 hg.size, hg.cell h3 ?_⟩
  have := hne p _ _ rfl
  have e : (p.add j).block = p.block := by
    unfold Addr.add
    split <;> rfl
  rw [e]
  exact this
theorem CArg.of_owns {α : Type} {enc : α → Value} {w : World} {base n : Nat} {e : TypeId} {v : Value} {xs : List α} (hn : xs.length = n) (h : w.ownsRow base e 1 v n (xs.map enc)) : CArg enc v xs w := by
  subst hn
  rcases h.2 with ⟨rfl, h0⟩ | ⟨g, cap, cur, rfl, hg, hh, hnc, _, hcs, htk⟩
  · have : xs = [] := List.eq_nil_of_length_eq_zero h0
    subst this
    exact ⟨none, 0, rfl, fun j x hj => by simp at hj⟩
  · refine ⟨_, cap, rfl, fun j x hj => ⟨⟨g, 0, none⟩, rfl, by rw [Addr.add_mid]; exact blk_lt hh, ?_⟩⟩
    have hjl : j < xs.length := (List.getElem?_eq_some_iff.1 hj).1
    have h1 : (cur.toList.take (xs.length * 1))[j]? = (xs.map enc)[j]? := by rw [htk]
    rw [List.getElem?_take, if_pos (by omega), List.getElem?_map, hj] at h1
    rw [Addr.add_mid, Nat.zero_add, cell_of_row _ _ _ _ _ _ hh]
    simpa using h1
theorem grownBy_of_below {w w' : World} (hb : Below w.heap.size w w') (row : Option Nat) : w.grownBy w' row := ⟨hb.os, hb.tape, hb.output, hb.size, fun k hk _ => hb.block k hk⟩
theorem owns_up {w w' : World} {base n size : Nat} {e : TypeId} {v : Value} {xs : List Value} (h : w.ownsRow base e size v n xs) (hb : Below w.heap.size w w') : w'.ownsRow base e size v n xs :=
  h.kept (grownBy_of_below hb none) (by cases v.ownBlock <;> simp)
theorem builderAt_up {T e : TypeId} {B b : Nat} {p : Value} {bs : List Value} {w w' : World} (h : Lib.BuilderAt T e B b p bs w) (hb : Below w.heap.size w w') : Lib.BuilderAt T e B b p bs w' := by
  obtain ⟨hB, v, hbk, hown, hne⟩ := h
  exact ⟨hB, v, blk_below hbk hb (blk_lt hbk), owns_up hown hb, hne⟩
theorem builder_up {T e : TypeId} {B b : Nat} {bs : List Value} {w w' : World} (h : Lib.IsBuilder T e B b bs w) (hb : Below w.heap.size w w') : Lib.IsBuilder T e B b bs w' :=
  h.imp (fun h => builderAt_up h hb) (fun h => builderAt_up h hb)
def textB (s : ByteArray) : List UInt8 := textL s.data.toList
theorem textB_any (s : ByteArray) (w : World) (hs : s.size ≤ 1000000) (hm : MLen w) :
    Calls Tryz.prog 49 #[.string s] w fun e w' => e = .returned (.string ⟨(textB s).toArray⟩) ∧ Below w.heap.size w w' := text_any s w hs hm
theorem textB_len (s : ByteArray) (h : s.size ≤ 100000) : (textB s).length ≤ 200002 := by
  have h5 := textL_len s.data.toList
  have h6 : s.data.toList.length = s.size := by simp
  have h7 : (textB s).length = (textL s.data.toList).length := rfl
  omega
def joinPre {α : Type} (f : α → List UInt8) (l : List α) : List UInt8 := l.flatMap fun x => 1 :: f x
theorem joinPre_snoc {α : Type} (f : α → List UInt8) (l : List α) (k : Nat) (x : α) (h : l[k]? = some x) : joinPre f (l.take (k + 1)) = joinPre f (l.take k) ++ (1 :: f x) := by
  unfold joinPre
  rw [List.take_add_one, h]
  simp [List.flatMap_append]
theorem joinPre_len {α : Type} (f : α → List UInt8) (B : Nat) (l : List α) (h : ∀ x ∈ l, (f x).length < B) : (joinPre f l).length ≤ l.length * B := by
  induction l with
  | nil => simp [joinPre]
  | cons x l ih =>
    have h1 := ih (fun y hy => h y (by simp [hy]))
    have h2 := h x (by simp)
    unfold joinPre at h1 ⊢
    simp only [List.flatMap_cons, List.length_append, List.length_cons, Nat.succ_mul]
    omega
theorem joinL_pre {α : Type} (f : α → List UInt8) (l : List α) : joinL f l = joinPre f l ++ [0] := rfl

end Go.Proofs.YtgjklfddoechpaaGreatDoor
