/- bournelaw44.WardenAside: what holds at each step of its first loop. -/
import Derived.Test.YthijckdablkofaaDClimbs
import Derived.Test.YthijckdablkofaaDAside
import Derived.Maps.AppendAt
namespace Go.Proofs.Ythijckdablkofaa
open Go.RowKit
theorem own_mv {w w' : World} {base size n pb mb : Nat} {e : TypeId} {v : Value} {xs : List Value} (h : w.ownsRow base e size v n xs) (hv : Mv pb mb w w') (h1 : pb < base) (h2 : mb < base) : w'.ownsRow base e size v n xs := by
  refine ⟨h.1, ?_⟩
  rcases h.2 with hn | ⟨g, cap, cur, rfl, hb, hg, rest⟩
  · exact .inl hn
  · exact .inr ⟨g, cap, cur, rfl, hb, (hv.block g (Array.getElem?_eq_some_iff.1 hg).1 (by omega) (by omega)).trans hg, rest⟩
theorem PAt.grown {w w' : World} {pb mb : Nat} {s : WS} {row : Option Nat} (h : PAt w pb mb s) (hg : w.grownBy w' row) (h1 : some pb ≠ row) (h2 : some mb ≠ row) : PAt w' pb mb s :=
  ⟨(hg.block pb (blk_lt h.row) h1).trans h.row, by
    obtain ⟨es, clock, hm, h5⟩ := h.map
    have hlt := (Array.getElem?_eq_some_iff.1 hm).1
    exact ⟨es, clock, (hg.block mb hlt h2).trans hm, h5⟩⟩
def secs (n : Nat) : List Int := (List.range n).map fun j : Nat => (j : Int) + 1
theorem secs_succ (n : Nat) : secs (n + 1) = secs n ++ [(n : Int) + 1] := by
  unfold secs
  rw [List.range_succ, List.map_append]
  rfl
theorem secs_len (n : Nat) : (secs n).length = n := by
  unfold secs
  rw [List.length_map, List.length_range]
theorem secs_get {n j : Nat} (h : j < n) : (secs n)[j]? = some ((j : Int) + 1) := by
  unfold secs
  rw [List.getElem?_map, List.getElem?_range h]
  rfl
/-- two posts and two lists of numbers in memory -/
structure AMem (W : World) (B0 pb mb pc mc : Nat) (fv sv : Value) (w : World) (sp sq : WS) (L1 L2 : List Int) : Prop where
  pb0 : pb < B0
  mb0 : mb < B0
  pc0 : pc < B0
  mc0 : mc < B0
  n1 : pb ≠ pc
  n2 : pb ≠ mc
  n3 : mb ≠ pc
  n4 : mb ≠ mc
  size : B0 ≤ w.heap.size
  p : PAt w pb mb sp
  q : PAt w pc mc sq
  f : w.ownsRow B0 3 1 fv L1.length (intV L1)
  s : w.ownsRow B0 3 1 sv L2.length (intV L2)
  apart : fv.ownBlock = none ∨ fv.ownBlock ≠ sv.ownBlock
  below : Below W.heap.size W w
  W0 : W.heap.size ≤ pb ∧ W.heap.size ≤ mb ∧ W.heap.size ≤ pc ∧ W.heap.size ≤ mc
section
variable {W w w' : World} {B0 pb mb pc mc : Nat} {fv sv : Value} {sp sq s' : WS} {L1 L2 : List Int}
theorem AMem.W1 (h : AMem W B0 pb mb pc mc fv sv w sp sq L1 L2) : W.heap.size ≤ B0 := Nat.le_trans h.W0.1 (Nat.le_of_lt h.pb0)
/-- a change of a block that is neither list's, or of none -/
theorem AMem.grown {row : Option Nat} (h : AMem W B0 pb mb pc mc fv sv w sp sq L1 L2) (hg : w.grownBy w' row) (hB : ∀ g, row = some g → B0 ≤ g) (h1 : fv.ownBlock = none ∨ fv.ownBlock ≠ row) (h2 : sv.ownBlock = none ∨ sv.ownBlock ≠ row) : AMem W B0 pb mb pc mc fv sv w' sp sq L1 L2 :=
  have e1 : some pb ≠ row := fun e => by have := hB pb e.symm; have := h.pb0; omega
  have e2 : some mb ≠ row := fun e => by have := hB mb e.symm; have := h.mb0; omega
  have e3 : some pc ≠ row := fun e => by have := hB pc e.symm; have := h.pc0; omega
  have e4 : some mc ≠ row := fun e => by have := hB mc e.symm; have := h.mc0; omega
  { h with
    size := Nat.le_trans h.size hg.size
    p := h.p.grown hg e1 e2
    q := h.q.grown hg e3 e4
    f := h.f.kept hg h1
    s := h.s.kept hg h2
    below := h.below.grown hg (Nat.le_trans h.W1 h.size) (fun g e => Nat.le_trans h.W1 (hB g e)) }
theorem AMem.below' (h : AMem W B0 pb mb pc mc fv sv w sp sq L1 L2) (hb : Below w.heap.size w w') : AMem W B0 pb mb pc mc fv sv w' sp sq L1 L2 :=
  h.grown (row := none) ⟨hb.os, hb.tape, hb.output, hb.size, fun k hk _ => hb.block k hk⟩ (fun g e => by cases e) (by cases fv.ownBlock <;> simp) (by cases sv.ownBlock <;> simp)
theorem AMem.moveP (h : AMem W B0 pb mb pc mc fv sv w sp sq L1 L2) (hP : PAt w' pb mb s') (hv : Mv pb mb w w') : AMem W B0 pb mb pc mc fv sv w' s' sq L1 L2 :=
  { h with
    size := Nat.le_trans h.size hv.size
    p := hP
    q := h.q.mv hv h.n1.symm h.n3.symm h.n2.symm h.n4.symm
    f := own_mv h.f hv h.pb0 h.mb0
    s := own_mv h.s hv h.pb0 h.mb0
    below := hv.below h.below h.W0.1 h.W0.2.1 h.below.size }
theorem AMem.moveQ (h : AMem W B0 pb mb pc mc fv sv w sp sq L1 L2) (hP : PAt w' pc mc s') (hv : Mv pc mc w w') : AMem W B0 pb mb pc mc fv sv w' sp s' L1 L2 :=
  { h with
    size := Nat.le_trans h.size hv.size
    q := hP
    p := h.p.mv hv h.n1 h.n2 h.n3 h.n4
    f := own_mv h.f hv h.pc0 h.mc0
    s := own_mv h.s hv h.pc0 h.mc0
    below := hv.below h.below h.W0.2.2.1 h.W0.2.2.2 h.below.size }
theorem AMem.rows (h : AMem W B0 pb mb pc mc fv sv w sp sq L1 L2) {u : Value} (hu : u = fv ∨ u = sv) (hg : w.grownBy w' u.ownBlock) : PAt w' pb mb sp ∧ PAt w' pc mc sq ∧ Below W.heap.size W w' := by
  have hB : ∀ g, u.ownBlock = some g → B0 ≤ g := fun g e => by
    rcases hu with rfl | rfl
    · exact (h.f.lt g e).1
    · exact (h.s.lt g e).1
  refine ⟨h.p.grown hg (fun e => ?_) (fun e => ?_), h.q.grown hg (fun e => ?_) (fun e => ?_), h.below.grown hg (Nat.le_trans h.W1 h.size) (fun g e => Nat.le_trans h.W1 (hB g e))⟩
  · have := hB pb e.symm; have := h.pb0; omega
  · have := hB mb e.symm; have := h.mb0; omega
  · have := hB pc e.symm; have := h.pc0; omega
  · have := hB mc e.symm; have := h.mc0; omega
theorem AMem.appF (h : AMem W B0 pb mb pc mc fv sv w sp sq L1 L2) {v' : Value} {L : List Int} (ho : w'.ownsRow B0 3 1 v' L.length (intV L)) (hg : w.grownBy w' fv.ownBlock) (hl : v'.ownBlock = fv.ownBlock ∨ v'.ownBlock = some w.heap.size) : AMem W B0 pb mb pc mc v' sv w' sp sq L L2 :=
  have hr := h.rows (u := fv) (Or.inl rfl) hg
  have hne : sv.ownBlock = none ∨ sv.ownBlock ≠ fv.ownBlock := by
    cases hs : sv.ownBlock with
    | none => exact Or.inl rfl
    | some g =>
      refine Or.inr fun e => ?_
      rcases h.apart with h1 | h1
      · rw [h1] at e; cases e
      · exact h1 (e.symm.trans hs.symm)
  { h with
    size := Nat.le_trans h.size hg.size
    p := hr.1
    q := hr.2.1
    f := ho
    s := h.s.kept hg hne
    apart := by
      rcases hl with hl | hl
      · rw [hl]; exact h.apart
      · refine Or.inr fun e => ?_
        rw [hl] at e
        have := (h.s.lt _ e.symm).2
        omega
    below := hr.2.2 }
theorem AMem.appS (h : AMem W B0 pb mb pc mc fv sv w sp sq L1 L2) {v' : Value} {L : List Int} (ho : w'.ownsRow B0 3 1 v' L.length (intV L)) (hg : w.grownBy w' sv.ownBlock) (hl : v'.ownBlock = sv.ownBlock ∨ v'.ownBlock = some w.heap.size) : AMem W B0 pb mb pc mc fv v' w' sp sq L1 L :=
  have hr := h.rows (u := sv) (Or.inr rfl) hg
  { h with
    size := Nat.le_trans h.size hg.size
    p := hr.1
    q := hr.2.1
    f := h.f.kept hg h.apart
    s := ho
    apart := by
      rcases hl with hl | hl
      · rw [hl]; exact h.apart
      · cases hf : fv.ownBlock with
        | none => exact Or.inl rfl
        | some g =>
          refine Or.inr fun e => ?_
          rw [hl] at e
          have := (h.f.lt g hf).2
          have := Option.some.inj e
          omega
    below := hr.2.2 }
end
/-- what holds of the states after k steps -/
structure ALog (town : Int) (m k : Nat) (sp sq : WS) (F : List Int) : Prop where
  aside : Aside sp sq town F
  okp : WOk sp
  okq : WOk sq
  r : sp.r ≤ k
  fl : F.length ≤ k
  pn : sp.n = m
section
variable {town : Int} {m k : Nat} {sp sq : WS} {F : List Int}
theorem ALog.qr (h : ALog town m k sp sq F) : sq.r = F.length := h.aside.r
theorem ALog.more (h : ALog town m k sp sq F) : ALog town m (k + 1) sp sq F := { h with r := Nat.le_succ_of_le h.r, fl := Nat.le_succ_of_le h.fl }
theorem ALog.raise_in (h : ALog town m k sp sq F) {l hr : Int} (hok : okRaise town l hr) : ALog town m (k + 1) (raiseS sp town l hr).2 (raiseS sq town l hr).2 (F ++ [(sp.r : Int) + 1]) :=
  { aside := aside_raise h.aside hok
    okp := raise_ok h.okp _ _ _
    okq := raise_ok h.okq _ _ _
    r := Nat.le_trans (raise_r sp town l hr) (Nat.succ_le_succ h.r)
    fl := by rw [List.length_append]; exact Nat.succ_le_succ h.fl
    pn := (raise_n sp town l hr).trans h.pn }
theorem ALog.raise_out (h : ALog town m k sp sq F) {t l hr : Int} (ht : ¬ (t = town ∧ okRaise t l hr)) : ALog town m (k + 1) (raiseS sp t l hr).2 sq F := by
  by_cases hok : okRaise t l hr
  · exact { h with
      aside := aside_raise_other h.aside (fun e => ht ⟨e, hok⟩)
      okp := raise_ok h.okp _ _ _
      r := Nat.le_trans (raise_r sp t l hr) (Nat.succ_le_succ h.r)
      fl := Nat.le_succ_of_le h.fl
      pn := (raise_n sp t l hr).trans h.pn }
  · rw [raise_no hok]
    exact h.more
theorem ALog.ack_out (h : ALog town m k sp sq F) {c : CV} (ht : ¬ c.town = town) : ALog town m (k + 1) (ackS sp c).2 sq F :=
  { h with
    aside := aside_ack_other h.aside ht
    okp := ack_ok h.okp c
    r := by rw [(ack_r sp c).1]; exact Nat.le_succ_of_le h.r
    fl := Nat.le_succ_of_le h.fl
    pn := (ack_r sp c).2.trans h.pn }
theorem ALog.ack_in (h : ALog town m k sp sq F) {c : CV} (ht : c.town = town) : ALog town m (k + 1) (ackS sp c).2 (ackS sq ⟨c.town, c.level, trN F 0 c.number, c.warden⟩).2 F :=
  { aside := aside_ack h.aside ht
    okp := ack_ok h.okp c
    okq := ack_ok h.okq _
    r := by rw [(ack_r sp c).1]; exact Nat.le_succ_of_le h.r
    fl := Nat.le_succ_of_le h.fl
    pn := (ack_r sp c).2.trans h.pn }
end
theorem raise_fst (s : WS) (t l hr : Int) : (raiseS s t l hr).1 = if okRaise t l hr then (s.r : Int) + 1 else 0 := by
  unfold raiseS
  split <;> rfl
theorem ack_fst (s : WS) (c : CV) : (ackS s c).1 = awaitsS s c := by
  unfold ackS
  cases h : awaitsS s c <;> simp
theorem trN_snoc (L : List Int) (y x : Int) : ∀ (k : Nat), (L ++ [y]).Pairwise (· < ·) → trN (L ++ [y]) k x = if y = x then (k : Int) + L.length + 1 else trN L k x := by
  induction L with
  | nil =>
    intro k _
    simp only [List.nil_append, trN, List.length_nil]
    split <;> simp
  | cons z L ih =>
    intro k hp
    simp only [List.cons_append] at hp ⊢
    have hz := (List.pairwise_cons.1 hp).1 y (by simp)
    have h2 := ih (k + 1) (List.pairwise_cons.1 hp).2
    simp only [trN, List.length_cons]
    rw [h2]
    by_cases e1 : z = x
    · rw [if_pos e1, if_neg (by omega), if_pos e1]
    · rw [if_neg e1, if_neg e1]
      split
      · push_cast; omega
      · rfl
theorem trN_bd (L : List Int) (x : Int) : ∀ (k : Nat), -1 ≤ trN L k x ∧ trN L k x ≤ (k : Int) + L.length := by
  induction L with
  | nil => intro k; simp only [trN, List.length_nil]; omega
  | cons z L ih =>
    intro k
    have := ih (k + 1)
    simp only [trN, List.length_cons]
    split
    · push_cast; omega
    · push_cast at this ⊢; omega
end Go.Proofs.Ythijckdablkofaa
