/- A symbolic evaluator of the model's code: the small effects. -/
import Derived.Test.YtokbandookjdjaaGreatEvH
import Derived.Deep.AppendSrc
import Derived.Deep.MidRow
import Derived.Laws.MakeOwn
namespace Go.Proofs.YtokbandookjdjaaGreat.Ev
open Go
theorem oneA_cell {E : Emb} {v : AV} (h : oneA v = true) : (conc E v).oneCell' = true := by
  have := oneA_conc E h
  cases hv : conc E v <;> first | rfl | exact absurd hv (this.1 _) | exact absurd hv (this.2 _)
/-- the cells of a named block -/
theorem HSim.row {E : Emb} {h : Heap} {w : World} (hs : HSim E h w) {i : Nat} {cs : List AV} {ty : TypeId} {z : Option Nat} (hi : h.get i = some (.cells cs ty z)) :
    ∃ ext : List Value, w.heap[blk E i]? = some (.cells (concL E cs ++ ext).toArray ty (0, 0)) ∧ (z = none → ext = []) ∧ (∀ k, z = some k → cs.length + ext.length = kap E i * k) ∧ okL E cs = true ∧ (E i).isSome = true := by
  obtain ⟨h1, h2, h3⟩ := hs.obj i _ hi
  cases z with
  | none =>
    unfold objR at h3
    dsimp only at h3
    exact ⟨[], by rw [List.append_nil]; exact h3, fun _ => rfl, (fun k hk => by cases hk), h2, h1⟩
  | some k =>
    unfold objR at h3
    dsimp only at h3
    obtain ⟨ext, h4, h5⟩ := h3
    exact ⟨ext, h4, (fun hk => by cases hk), (fun k' hk => by cases hk; exact h5), h2, h1⟩
theorem HSim.range {E : Emb} {h : Heap} {w : World} (hs : HSim E h w) {i : Nat} {cs : List AV} {ty : TypeId} {z : Option Nat} (hi : h.get i = some (.cells cs ty z)) (off n : Nat) :
    w.rangeAt (blk E i) off (concL E ((cs.drop off).take n)) := by
  obtain ⟨ext, h1, -⟩ := hs.row hi
  intro j v hv
  rw [cell_of_row _ _ _ _ _ _ h1]
  rw [concL_take, concL_drop, List.getElem?_take] at hv
  split at hv
  · rw [List.getElem?_drop] at hv
    rw [List.getElem?_toArray, List.getElem?_append_left (List.getElem?_eq_some_iff.1 hv).1]
    exact hv
  · cases hv
theorem HSim.there {E : Emb} {h : Heap} {w : World} (hs : HSim E h w) {i : Nat} {cs : List AV} {ty : TypeId} {z : Option Nat} (hi : h.get i = some (.cells cs ty z)) {off n : Nat} (hn : off + n ≤ cs.length) : w.there (blk E i) off n := by
  obtain ⟨ext, h1, -⟩ := hs.row hi
  intro j hj
  refine ⟨?_, frozen_of_row _ _ _ _ _ h1⟩
  rw [cell_of_row _ _ _ _ _ _ h1, List.getElem?_toArray, List.getElem?_append_left (by rw [concL_length]; omega), List.getElem?_eq_getElem (by rw [concL_length]; omega)]
  rfl
/-- what a row of stores does to a row -/
theorem setCells_row (b : Nat) : ∀ (vs : List Value) (o : Nat) (w : World) (arr : List Value) (ty : TypeId) (fr : Nat × Nat), w.heap[b]? = some (.cells arr.toArray ty fr) → o + vs.length ≤ arr.length →
    (w.setCells b o vs).heap[b]? = some (.cells (arr.take o ++ vs ++ arr.drop (o + vs.length)).toArray ty fr)
  | [], o, w, arr, ty, fr, h, _ => by
    show w.heap[b]? = _
    rw [h, List.append_nil, List.length_nil, Nat.add_zero, List.take_append_drop]
  | v :: r, o, w, arr, ty, fr, h, hl => by
    rw [List.length_cons] at hl
    have h1 : (w.setCell ⟨b, o, none⟩ v).heap[b]? = some (.cells (arr.set o v).toArray ty fr) := by
      rw [setCell_eq_setRow w b o _ ty fr v h, setRow_heap w b _ _ ty _ h]
      simp
    have h2 := setCells_row b r (o + 1) (w.setCell ⟨b, o, none⟩ v) (arr.set o v) ty fr h1 (by rw [List.length_set]; omega)
    show ((w.setCell ⟨b, o, none⟩ v).setCells b (o + 1) r).heap[b]? = _
    rw [h2]
    congr 2
    have e1 : (arr.set o v).take (o + 1) = arr.take o ++ [v] := by
      rw [List.take_add_one, List.getElem?_set_self (by omega), List.take_set_of_le (Nat.le_refl _)]
      rfl
    have e2 : (arr.set o v).drop (o + 1 + r.length) = arr.drop (o + (r.length + 1)) := by
      rw [List.drop_set_of_lt (by omega)]
      congr 1
      omega
    rw [e1, e2, List.length_cons]
    simp
theorem setCells_other (b : Nat) : ∀ (vs : List Value) (o : Nat) (w : World), (w.setCells b o vs).os = w.os ∧ (w.setCells b o vs).tape = w.tape ∧ (w.setCells b o vs).output = w.output ∧ (w.setCells b o vs).heap.size = w.heap.size ∧ ∀ c, c ≠ b → (w.setCells b o vs).heap[c]? = w.heap[c]?
  | [], _, _ => ⟨rfl, rfl, rfl, rfl, fun _ _ => rfl⟩
  | v :: r, o, w => by
    have h := setCells_other b r (o + 1) (w.setCell ⟨b, o, none⟩ v)
    have e : (w.setCell ⟨b, o, none⟩ v).heap.size = w.heap.size := by simp [World.setCell]
    have e2 : ∀ c, c ≠ b → (w.setCell ⟨b, o, none⟩ v).heap[c]? = w.heap[c]? := fun c hc => by
      simp only [World.setCell]
      rw [Array.getElem?_modify, if_neg (fun e => hc e.symm)]
    exact ⟨h.1, h.2.1, h.2.2.1, h.2.2.2.1.trans e, fun c hc => (h.2.2.2.2 c hc).trans (e2 c hc)⟩
/-- one named block holds something else -/
theorem eff_put {n : Nat} {E : Emb} {h : Heap} {w w' : World} (hs : HSim E h w) (hf : Fresh E n) {i : Nat} {o o' : AObj} (hi : h.get i = some o) (h1 : w'.os = w.os) (h2 : w'.tape = w.tape) (h3 : w'.output = w.output) (h4 : w'.heap.size = w.heap.size)
    (h5 : ∀ c, c ≠ blk E i → w'.heap[c]? = w.heap[c]?) (h6 : objR E o' (kap E i) w'.heap[blk E i]?) (h7 : okO E o' = true) : Eff n E h w n E (h.put i o') w' := by
  have hg : ∀ j p, (h.put i o').get j = some p → (j = i ∧ p = o') ∨ (j ≠ i ∧ h.get j = some p) := fun j p hj => by
    by_cases e : j = i
    · subst e
      rw [get_put_same] at hj
      cases hj
      exact Or.inl ⟨rfl, rfl⟩
    · rw [get_put_other (fun e2 => e e2.symm)] at hj
      exact Or.inr ⟨e, hj⟩
  have hd : ∀ j p, (h.put i o').get j = some p → ∃ q, h.get j = some q := fun j p hj => by
    rcases hg j p hj with ⟨rfl, -⟩ | ⟨-, h8⟩
    · exact ⟨o, hi⟩
    · exact ⟨p, h8⟩
  refine ⟨Nat.le_refl _, fun _ _ => rfl, hf, h1, h2, h3, by omega, fun b _ hk => h5 b (fun e => hk i o hi e.symm), fun j p hj => ?_, ⟨fun j p hj => ?_, fun j k p q hj hk e => ?_⟩⟩
  · obtain ⟨q, hq⟩ := hd j p hj
    exact Or.inl ⟨j, q, hq, rfl⟩
  · rcases hg j p hj with ⟨rfl, rfl⟩ | ⟨hne, h8⟩
    · exact ⟨(hs.obj j o hi).1, h7, h6⟩
    · have h9 := hs.obj j p h8
      refine ⟨h9.1, h9.2.1, ?_⟩
      rw [h5 _ (fun e => hne (hs.inj j i p o h8 hi e))]
      exact h9.2.2
  · obtain ⟨p', hp'⟩ := hd j p hj
    obtain ⟨q', hq'⟩ := hd k q hk
    exact hs.inj j k p' q' hp' hq' e
def upd (E : Emb) (n : Nat) (p : Nat × Nat) : Emb := fun i => if i = n then some p else E i
theorem upd_le {E : Emb} {n : Nat} (hf : E n = none) (p : Nat × Nat) : Le E (upd E n p) := fun i q hi => by
  unfold upd
  by_cases e : i = n
  · subst e; rw [hf] at hi; cases hi
  · rw [if_neg e]; exact hi
theorem upd_same (E : Emb) (n : Nat) (p : Nat × Nat) : blk (upd E n p) n = p.1 ∧ kap (upd E n p) n = p.2 ∧ (upd E n p n).isSome = true := by simp [blk, kap, upd]
/-- a new block under a new name (a name that was put aside) -/
theorem sim_new {E : Emb} {h : Heap} {w w' : World} (hs : HSim E h w) {n k : Nat} (hn : E n = none) {o : AObj} {ob : Obj} (h1 : w'.heap = w.heap.push ob)
    (h6 : objR (upd E n (w.heap.size, k)) o k (some ob)) (h7 : okO (upd E n (w.heap.size, k)) o = true) : HSim (upd E n (w.heap.size, k)) ((n, o) :: h) w' := by
  have hl := upd_le hn (w.heap.size, k)
  have hne : ∀ i p, h.get i = some p → i ≠ n := fun i p hi e => by
    subst e
    have := (hs.obj i p hi).1
    rw [hn] at this
    cases this
  have hb : ∀ i p, h.get i = some p → blk (upd E n (w.heap.size, k)) i = blk E i ∧ kap (upd E n (w.heap.size, k)) i = kap E i ∧ (upd E n (w.heap.size, k) i).isSome = true := fun i p hi => hl.blk (hs.obj i p hi).1
  have hst : ∀ c, c < w.heap.size → w'.heap[c]? = w.heap[c]? := fun c hc => by
    rw [h1, Array.getElem?_push, if_neg (by omega)]
  refine ⟨fun i p hi => ?_, fun i j p q hi hj e => ?_⟩
  · rw [get_cons] at hi
    split at hi
    · next e =>
      subst e
      cases hi
      obtain ⟨e1, e2, e3⟩ := upd_same E n (w.heap.size, k)
      refine ⟨e3, h7, ?_⟩
      rw [e1, e2, h1, Array.getElem?_push_size]
      exact h6
    · have h8 := hs.obj i p hi
      have h9 := objR_le hl h8.2.1 h8.2.2
      have h10 := hb i p hi
      refine ⟨h10.2.2, h9.2, ?_⟩
      rw [h10.1, h10.2.1, hst _ (hs.lt hi)]
      exact h9.1
  · rw [get_cons] at hi hj
    split at hi <;> split at hj
    · next e1 e2 => exact e1.symm.trans e2
    · next e1 e2 =>
      subst e1
      rw [(upd_same E n (w.heap.size, k)).1, (hb j q hj).1] at e
      have := hs.lt hj
      omega
    · next e1 e2 =>
      subst e2
      rw [(upd_same E n (w.heap.size, k)).1, (hb i p hi).1] at e
      have := hs.lt hi
      omega
    · rw [(hb i p hi).1, (hb j q hj).1] at e
      exact hs.inj i j p q hi hj e
theorem eff_new {n : Nat} {E : Emb} {h : Heap} {w w' : World} (hs : HSim E h w) (hf : Fresh E n) {k : Nat} {o : AObj} {ob : Obj} (h1 : w'.heap = w.heap.push ob) (h2 : w'.os = w.os) (h3 : w'.tape = w.tape) (h4 : w'.output = w.output)
    (h6 : objR (upd E n (w.heap.size, k)) o k (some ob)) (h7 : okO (upd E n (w.heap.size, k)) o = true) : Eff n E h w (n + 1) (upd E n (w.heap.size, k)) ((n, o) :: h) w' := by
  have hn := hf n (Nat.le_refl _)
  have hl := upd_le hn (w.heap.size, k)
  refine ⟨Nat.le_succ _, fun i hi => by unfold upd; rw [if_neg (by omega)], fun i hi => by unfold upd; rw [if_neg (by omega)]; exact hf i (by omega), h2, h3, h4, by rw [h1, Array.size_push]; omega, fun c hc _ => by rw [h1, Array.getElem?_push, if_neg (by omega)], fun i p hi => ?_, sim_new hs hn h1 h6 h7⟩
  rw [get_cons] at hi
  split at hi
  · next e =>
    subst e
    exact Or.inr (by rw [(upd_same E n (w.heap.size, k)).1]; exact Nat.le_refl _)
  · exact Or.inl ⟨i, p, hi, (hl.blk (hs.obj i p hi).1).1.symm⟩
end Go.Proofs.YtokbandookjdjaaGreat.Ev
