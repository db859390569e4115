/- Package wire: lists: join, Nums, Texts. A slice that came in, or that the call made, as a list (CArg). -/
import Derived.Test.YtleiiedacachjaaWBuild
namespace Go.Proofs.Ytleiiedacachjaa
open Go.RowKit
/-- v is a slice whose elements are xs, each one cell, anywhere in a block that exists -/
def CArg {α : Type} (enc : α → Value) (v : Value) (xs : List α) (w : World) : Prop :=
  ∃ a c, v = .slice a xs.length c ∧ ∀ j x, xs[j]? = some x → ∃ p, a = some p ∧ (p.add j).block < w.heap.size ∧ w.cell? (p.add j) = some (enc x)
theorem CArg.below {α : Type} {enc : α → Value} {v : Value} {xs : List α} {B : Nat} {w w' : World} (h : CArg enc v xs w) (hb : Below B w w') (hB : w.heap.size ≤ B) : CArg enc v xs w' := by
  obtain ⟨a, c, rfl, h⟩ := h
  refine ⟨a, c, rfl, fun j s hj => ?_⟩
  obtain ⟨p, h1, h2, h3⟩ := h j s hj
  exact ⟨p, h1, Nat.lt_of_lt_of_le h2 hb.size, (hb.cell (Nat.lt_of_lt_of_le h2 hB)).trans h3⟩
theorem CArg.grown {α : Type} {enc : α → Value} {v : Value} {xs : List α} {w w' : World} {row : Option Nat} (h : CArg enc v xs w) (hg : w.grownBy w' row) (hne : ∀ a n c, v = .slice (some a) n c → some a.block ≠ row) : CArg enc v xs w' := by
  obtain ⟨a, c, rfl, h⟩ := h
  refine ⟨a, c, rfl, fun j s hj => ?_⟩
  obtain ⟨p, rfl, h2, h3⟩ := h j s hj
  refine ⟨p, rfl, Nat.lt_of_lt_of_le h2 hg.size, hg.cell h3 ?_⟩
  have := hne p _ _ rfl
  have e : (p.add j).block = p.block := by
    unfold Addr.add
    split <;> rfl
  rw [e]
  exact this
theorem CArg.of_owns {α : Type} {enc : α → Value} {w : World} {base n : Nat} {e : TypeId} {v : Value} {xs : List α} (hn : xs.length = n) (h : w.ownsRow base e 1 v n (xs.map enc)) : CArg enc v xs w := by
  subst hn
  rcases h.2 with ⟨rfl, h0⟩ | ⟨g, cap, cur, rfl, hg, hh, hnc, _, hcs, htk⟩
  · have : xs = [] := List.eq_nil_of_length_eq_zero h0
    subst this
    exact ⟨none, 0, rfl, fun j x hj => by simp at hj⟩
  · refine ⟨_, cap, rfl, fun j x hj => ⟨⟨g, 0, none⟩, rfl, by rw [Addr.add_mid]; exact blk_lt hh, ?_⟩⟩
    have hjl : j < xs.length := (List.getElem?_eq_some_iff.1 hj).1
    have h1 : (cur.toList.take (xs.length * 1))[j]? = (xs.map enc)[j]? := by rw [htk]
    rw [List.getElem?_take, if_pos (by omega), List.getElem?_map, hj] at h1
    rw [Addr.add_mid, Nat.zero_add, cell_of_row _ _ _ _ _ _ hh]
    simpa using h1
theorem grownBy_of_below {w w' : World} (hb : Below w.heap.size w w') (row : Option Nat) : w.grownBy w' row := ⟨hb.os, hb.tape, hb.output, hb.size, fun k hk _ => hb.block k hk⟩
theorem owns_up {w w' : World} {base n size : Nat} {e : TypeId} {v : Value} {xs : List Value} (h : w.ownsRow base e size v n xs) (hb : Below w.heap.size w w') : w'.ownsRow base e size v n xs :=
  h.kept (grownBy_of_below hb none) (by cases v.ownBlock <;> simp)
theorem builderAt_up {T e : TypeId} {B b : Nat} {p : Value} {bs : List Value} {w w' : World} (h : Lib.BuilderAt T e B b p bs w) (hb : Below w.heap.size w w') : Lib.BuilderAt T e B b p bs w' := by
  obtain ⟨hB, v, hbk, hown, hne⟩ := h
  exact ⟨hB, v, blk_below hbk hb (blk_lt hbk), owns_up hown hb, hne⟩
theorem builder_up {T e : TypeId} {B b : Nat} {bs : List Value} {w w' : World} (h : Lib.IsBuilder T e B b bs w) (hb : Below w.heap.size w w') : Lib.IsBuilder T e B b bs w' :=
  h.imp (fun h => builderAt_up h hb) (fun h => builderAt_up h hb)
def textB (s : ByteArray) : List UInt8 := textL s.data.toList
theorem textB_len (s : ByteArray) (h : s.size ≤ 100000) : (textB s).length ≤ 200002 := by
  have h5 := textL_len s.data.toList
  have h6 : s.data.toList.length = s.size := by simp
  have h7 : (textB s).length = (textL s.data.toList).length := rfl
  omega
def joinPre {α : Type} (f : α → List UInt8) (l : List α) : List UInt8 := l.flatMap fun x => 1 :: f x
theorem joinPre_snoc {α : Type} (f : α → List UInt8) (l : List α) (k : Nat) (x : α) (h : l[k]? = some x) : joinPre f (l.take (k + 1)) = joinPre f (l.take k) ++ (1 :: f x) := by
  unfold joinPre
  rw [List.take_add_one, h]
  simp [List.flatMap_append]
theorem joinPre_len {α : Type} (f : α → List UInt8) (B : Nat) (l : List α) (h : ∀ x ∈ l, (f x).length < B) : (joinPre f l).length ≤ l.length * B := by
  induction l with
  | nil => simp [joinPre]
  | cons x l ih =>
    have h1 := ih (fun y hy => h y (by simp [hy]))
    have h2 := h x (by simp)
    unfold joinPre at h1 ⊢
    simp only [List.flatMap_cons, List.length_append, List.length_cons, Nat.succ_mul]
    omega
theorem joinL_pre {α : Type} (f : α → List UInt8) (l : List α) : joinL f l = joinPre f l ++ [0] := rfl

set_option maxRecDepth 100000 in
set_option maxHeartbeats 2000000 in
theorem joinInt_any (v : Value) (xs : List Int) (w : World) (h : CArg (Value.int .i64) v xs w) (hl : xs.length ≤ 1000) (hx : ∀ x ∈ xs, I64 x) :
    Calls Try.prog 33 #[v, .func (.func 34) #[] #[]] w fun e w' => e = .returned (.string ⟨(joinL intL xs).toArray⟩) ∧ Below w.heap.size w w' := by
  obtain ⟨a, c, rfl, h⟩ := h
  have HC := Lib.hid h
  have HX := Lib.hid hx
  
  
  clear h hx
  go_enter Try.func33, Try.ntmps33
  have HLen : Hid (∀ k, (joinPre intL (xs.take k)).length ≤ 10000) := by
    refine Lib.hid fun k => ?_
    have h1 := joinPre_len intL 10 (xs.take k) (fun x hx => ?_)
    · have h2 : (xs.take k).length ≤ 1000 := Nat.le_trans (List.length_take_le' _ _) hl
      exact Nat.le_trans h1 (Nat.mul_le_mul_right _ h2)
    · have h4 := HX.out x (List.mem_of_mem_take hx)
      exact Nat.lt_succ_of_le (intL_len h4).2
  go_wp2_with fail
  have hI := Lib.fresh_isBuilder 77 5 w
  have hB0 : Below w.heap.size w (w.alloc (.cells #[.pointer none, .slice none 0 0] 77)) := (Below.refl _ _).alloc (Nat.le_refl _) _
  have HI0 := Lib.hid hI
  have HB0 := Lib.hid hB0
  clear hI hB0
  generalize w.alloc (.cells #[.pointer none, .slice none 0 0] 77) = w0 at *
  go_loopw [10] (fun i wr => ∃ k : Nat, k ≤ xs.length ∧ i = .int .i64 k ∧ Lib.IsBuilder 77 5 w.heap.size w.heap.size (Lib.byteCells (joinPre intL (xs.take k))) wr ∧ Below w.heap.size w wr) (fun i _ => xs.length - (intOf i).toNat)
  case atStart => exact ⟨0, by omega, rfl, HI0.out, HB0.out⟩
  case round =>
    obtain ⟨k, hk, rfl, hI, hB⟩ := hrel
    clear HI0 HB0
    have HI := Lib.hid hI
    have HB := Lib.hid hB
    have hsz := hB.size
    clear hI hB
    by_cases hlt : k < xs.length
    · have H1 : Hid (xs[k]? = some xs[k]) := Lib.hid (List.getElem?_eq_getElem hlt)
      have HXI := Lib.hid (HX.out xs[k] (List.getElem_mem hlt))
      obtain ⟨p, rfl, h2, h3⟩ := HC.out k _ H1.out
      have hc := (HB.out.cell h2).trans h3
      have HS := Lib.hid (joinPre_snoc intL xs k _ H1.out)
      clear h2 h3
      generalize xs[k] = x at *
      go_wp2_with fail
      refine (writeByte_any w.heap.size w.heap.size _ 1 _ HI.out (by rw [Lib.byteCells_length]; have := HLen.out k; omega) hsz).mono ?_
      rintro e w1 ⟨rfl, hI1, hB1⟩
      have HI1 := Lib.hid hI1
      have HB1 := Lib.hid (HB.out.trans hB1)
      
      clear hI1 hB1
      go_wp2_with fail
      refine (int_any x _ HXI.out).mono ?_
      rintro e w2 ⟨rfl, hb⟩
      have HI2 := Lib.hid (builderAt_up HI1.out hb)
      have HB2 := Lib.hid (HB1.out.trans (hb.mono HB1.out.size))
      clear hb
      go_wp2_with fail
      refine (writeString_any w.heap.size w.heap.size _ _ _ (Or.inr HI2.out) (by
        have h5 := HLen.out (k + 1)
        rw [HS.out] at h5
        rw [List.length_append, Lib.byteCells_length]
        simp only [List.length_append, List.length_cons, List.length_nil] at h5 ⊢
        rw [show (ByteArray.mk ((intL x).toArray)).size = (intL x).length from rfl]
        omega) HB2.out.size).mono ?_
      rintro e w3 ⟨rfl, hI3, hB3⟩
      have HI3 : Hid (Lib.IsBuilder 77 5 w.heap.size w.heap.size (Lib.byteCells (joinPre intL (xs.take (k + 1)))) w3) := by
        refine Lib.hid (Or.inr ?_)
        rw [HS.out]
        rw [strCells_byteCells] at hI3
        have e : Lib.byteCells (joinPre intL (xs.take k) ++ (1 :: intL x)) = (Lib.byteCells (joinPre intL (xs.take k)) ++ [.int .u8 1]) ++ Lib.byteCells (intL x) := by
          simp [Lib.byteCells]
        rw [e]
        exact hI3
      have HB3 := Lib.hid (HB2.out.trans hB3)
      clear hI3 hB3
      go_wp2_with fail
      go_roundw
      case rel => exact ⟨k + 1, by omega, by go_num, HI3.out, HB3.out⟩
      case measure => simp [intOf]; omega
    · obtain rfl : k = xs.length := by omega
      have HI' : Hid (Lib.IsBuilder 77 5 w.heap.size w.heap.size (Lib.byteCells (joinPre intL xs)) wr) := by
        have := HI.out
        rw [List.take_of_length_le (Nat.le_refl _)] at this
        exact Lib.hid this
      have hlx : (joinPre intL xs).length ≤ 10000 := by
        have := HLen.out xs.length
        rwa [List.take_of_length_le (Nat.le_refl _)] at this
      clear HI hlt hk
      go_wp2_with fail
      refine (writeByte_any w.heap.size w.heap.size _ 0 _ HI'.out (by rw [Lib.byteCells_length]; omega) hsz).mono ?_
      rintro e w1 ⟨rfl, hI1, hB1⟩
      have HI1 : Hid (Lib.IsBuilder 77 5 w.heap.size w.heap.size (Lib.byteCells (joinL intL xs)) w1) := by
        refine Lib.hid (Or.inr ?_)
        rw [joinL_pre, byteCells_append]
        exact hI1
      have HB1 := Lib.hid (HB.out.trans hB1)
      clear hI1 hB1
      go_wp2_with fail
      refine (Try.Builder_String_any _ _ _ _ HI1.out HB1.out.size).mono ?_
      rintro e w2 ⟨rfl, hb⟩
      have HB2 := Lib.hid (HB1.out.trans hb)
      clear hb
      go_wp2_with fail
      go_ret
      exact ⟨rfl, HB2.out⟩
set_option maxRecDepth 100000 in
set_option maxHeartbeats 1000000 in
theorem nums_any (v : Value) (xs : List Int) (w : World) (h : CArg (Value.int .i64) v xs w) (hl : xs.length ≤ 1000) (hx : ∀ x ∈ xs, I64 x) :
    Calls Try.prog 13 #[v] w fun e w' => e = .returned (.string ⟨(joinL intL xs).toArray⟩) ∧ Below w.heap.size w w' := by
  have HC := Lib.hid h
  have HX := Lib.hid hx
  
  clear h hx
  go_enter Try.func13, Try.ntmps13
  go_wp2_with fail
  refine (joinInt_any v xs _ HC.out hl HX.out ).mono ?_
  rintro e w1 ⟨rfl, hb⟩
  have HB := Lib.hid hb
  clear hb
  go_wp2_with fail
  go_ret
  exact ⟨rfl, HB.out⟩

end Go.Proofs.Ytleiiedacachjaa
