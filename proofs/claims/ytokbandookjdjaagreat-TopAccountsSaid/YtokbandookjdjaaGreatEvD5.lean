/- A symbolic evaluator of the model's code: regions that draw their order: what the checks say. -/
import Derived.Test.YtokbandookjdjaaGreatEvD4
namespace Go.Proofs.YtokbandookjdjaaGreat.Ev
open Go
theorem sameCell_eq {a b : Value} (h : sameCell a b = true) : a = b := by
  unfold sameCell at h
  split at h
  · rw [eq_of_beq h]
  · rw [Bool.and_eq_true, decide_eq_true_eq, decide_eq_true_eq] at h
    rw [h.1, h.2]
  · next a b =>
    rw [decide_eq_true_eq] at h
    have h1 : a.data = b.data := Array.ext' h
    cases a
    cases b
    dsimp only at h1
    rw [h1]
  · rfl
  · rw [Bool.and_eq_true] at h
    rw [Nat.eq_of_beq_eq_true h.1, Nat.eq_of_beq_eq_true h.2]
  · rfl
  · rfl
  · cases h
theorem sameCells_eq : ∀ {a b : List Value}, sameCells a b = true → a = b
  | [], [], _ => rfl
  | a :: x, b :: y, h => by
    rw [sameCells, Bool.and_eq_true] at h
    rw [sameCell_eq h.1, sameCells_eq h.2]
  | [], _ :: _, h => by cases h
  | _ :: _, [], h => by cases h
theorem sameV_eq {a b : Value} (h : sameV a b = true) : a = b := by
  unfold sameV at h
  split at h
  · rw [Array.ext' (sameCells_eq h)]
  · rw [Array.ext' (sameCells_eq h)]
  · exact sameCell_eq h
mutual
theorem sameA_eq : ∀ {a b : AV}, sameA a b = true → a = b
  | .lit a, b, h => by
    cases b <;> first | (rw [sameA] at h; rw [sameV_eq h]; done) | (unfold sameA at h; cases h)
  | .ptr i a, b, h => by
    cases b <;> first | (rw [sameA, Bool.and_eq_true] at h; rw [Nat.eq_of_beq_eq_true h.1, Nat.eq_of_beq_eq_true h.2]; done) | (unfold sameA at h; cases h)
  | .sl i a n c, b, h => by
    cases b <;> first | (rw [sameA, Bool.and_eq_true, Bool.and_eq_true, Bool.and_eq_true, decide_eq_true_eq] at h; rw [Nat.eq_of_beq_eq_true h.1.1.1, Nat.eq_of_beq_eq_true h.1.1.2, Nat.eq_of_beq_eq_true h.1.2, h.2]; done) | (unfold sameA at h; cases h)
  | .mp i, b, h => by
    cases b <;> first | (rw [sameA] at h; rw [Nat.eq_of_beq_eq_true h]; done) | (unfold sameA at h; cases h)
  | .fn f x, b, h => by
    cases b <;> first | (rw [sameA, Bool.and_eq_true] at h; rw [Nat.eq_of_beq_eq_true h.1, sameAL_eq h.2]; done) | (unfold sameA at h; cases h)
  | .agg x, b, h => by
    cases b <;> first | (rw [sameA] at h; rw [sameAL_eq h]; done) | (unfold sameA at h; cases h)
  | .tup x, b, h => by
    cases b <;> first | (rw [sameA] at h; rw [sameAL_eq h]; done) | (unfold sameA at h; cases h)
  | .ifc t a, b, h => by
    cases b <;> first | (rw [sameA, Bool.and_eq_true] at h; rw [Nat.eq_of_beq_eq_true h.1, sameA_eq h.2]; done) | (unfold sameA at h; cases h)
theorem sameAL_eq : ∀ {a b : List AV}, sameAL a b = true → a = b
  | [], [], _ => rfl
  | a :: x, b :: y, h => by
    rw [sameAL, Bool.and_eq_true] at h
    rw [sameA_eq h.1, sameAL_eq h.2]
  | [], _ :: _, h => by unfold sameAL at h; cases h
  | _ :: _, [], h => by unfold sameAL at h; cases h
end
theorem okLouds_chain {M : List Nat} : ∀ {l : Louds}, okLouds M l = true → ∀ (p q : Nat) (a b : Nat × AS), p < q → l[p]? = some a → l[q]? = some b → bm M a.1 b.1 = true
  | [], _, p, q, a, b, _, ha, _ => by simp at ha
  | c :: r, h, p, q, a, b, hpq, ha, hb => by
    rw [okLouds, Bool.and_eq_true] at h
    cases q with
    | zero => omega
    | succ q =>
      rw [List.getElem?_cons_succ] at hb
      cases p with
      | zero =>
        cases ha
        exact List.all_eq_true.1 h.1 b (List.mem_of_getElem? hb)
      | succ p =>
        rw [List.getElem?_cons_succ] at ha
        exact okLouds_chain h.2 p q a b (by omega) ha hb
theorem mem_zip {α : Type} {l : List α} {j : Nat} {o : α} (h : l[j]? = some o) : (o, j) ∈ l.zipIdx := by
  rw [List.mem_zipIdx_iff_getElem?]
  exact h
/-- what the checks of a region that draws its order say -/
structure DF (P : Program) (ops : Array Oper) (M : List Nat) (n0 len : Nat) (recs : Recs) (st : St) : Prop where
  dist : distinctN (ops.toList.filterMap (·.dst)) = true
  dlt : ∀ i u, Wr ops i u → u < len
  reads : ∀ i j o t, Wr ops i t → ops.toList[j]? = some o → readsT ops o t = true → i = j ∨ (i < j ∧ bm M i j = true) ∨ (j ≤ i ∧ bm M j i = true)
  louds : ∀ (p q : Nat) (a b : Nat × AS), p < q → st.louds[p]? = some a → st.louds[q]? = some b → bm M a.1 b.1 = true
  back : Back ops.toList
  ids : ∀ x ∈ st.news, n0 ≤ x.2.1 ∧ x.2.1 < (stateAt st.louds st.s 0).next
  idn : (st.news.map (·.2.1)).Nodup
  free : ∀ q, q ≤ st.louds.length → ∀ x ∈ st.news, ((st.louds.take q).any fun l => bm M x.1 l.1) = true ∨ (stateAt st.louds st.s q).heap.get x.2.1 = none
  quiet : ∀ j o v a, ops.toList[j]? = some o → recs[j]? = some (.quiet v, a) → okQuiet P M st.news st.louds st.s o j v a = true
theorem okD_facts {P : Program} {ops : Array Oper} {M : List Nat} {n0 len : Nat} {recs : Recs} {st : St} (h : okD P ops M n0 len recs st = true) : DF P ops M n0 len recs st := by
  unfold okD at h
  simp only [Bool.and_eq_true] at h
  obtain ⟨⟨⟨⟨⟨⟨⟨⟨h1, h2⟩, h3⟩, h4⟩, h5⟩, h6⟩, h7⟩, h8⟩, h9⟩ := h
  refine ⟨h1, fun i u hw => ?_, fun i j o t hw ho hr => ?_, okLouds_chain h4, fun j o ho e he hb => ?_, fun x hx => ?_, distinctN_nodup h7, fun q hq x hx => ?_, fun j o v a ho hr => ?_⟩
  · obtain ⟨o, ho, hd⟩ := hw
    have := List.all_eq_true.1 h2 o (List.mem_of_getElem? ho)
    rw [hd] at this
    exact Nat.le_of_ble_eq_true this
  · obtain ⟨o', ho', hd⟩ := hw
    unfold okReads at h3
    have := List.all_eq_true.1 (List.all_eq_true.1 h3 (o, j) (mem_zip ho)) (o', i) (mem_zip ho')
    dsimp only at this
    rw [hd] at this
    dsimp only at this
    rw [hr] at this
    rw [Bool.or_eq_true] at this
    rcases this with e | e
    · exact Or.inl (Nat.eq_of_beq_eq_true e)
    · simp only [Bool.not_true, Bool.false_or] at e
      cases hl : Nat.blt i j with
      | true => rw [hl] at e; exact Or.inr (Or.inl ⟨Nat.le_of_ble_eq_true hl, e⟩)
      | false =>
        rw [hl] at e
        refine Or.inr (Or.inr ⟨?_, e⟩)
        rcases Nat.lt_or_ge i j with h | h
        · have h' : Nat.blt i j = true := Nat.ble_eq_true_of_le h
          rw [h'] at hl
          cases hl
        · exact h
  · have h10 := List.all_eq_true.1 h5 (o, j) (mem_zip ho)
    dsimp only at h10
    have h11 := List.all_eq_true.1 h10 e (Array.mem_toList_iff.2 he)
    rw [hb] at h11
    exact Nat.le_of_ble_eq_true h11
  · have h10 := List.all_eq_true.1 h6 x hx
    rw [Bool.and_eq_true] at h10
    exact ⟨Nat.le_of_ble_eq_true h10.1, Nat.le_of_ble_eq_true h10.2⟩
  · have h10 := List.all_eq_true.1 (List.all_eq_true.1 h8 q (List.mem_range.2 (by omega))) x hx
    rw [Bool.or_eq_true] at h10
    exact h10.imp id fun e => by simpa using e
  · have hm : ((o, (RK.quiet v, a)), j) ∈ (ops.toList.zip recs).zipIdx := mem_zip (by rw [List.getElem?_zip_eq_some]; exact ⟨ho, hr⟩)
    have h10 := List.all_eq_true.1 h9 _ hm
    exact h10
section
variable {news : News}
/-- some of the news, as a heap -/
def F (news : News) (p : Nat × Nat × AObj → Bool) : Heap := (news.filter p).map (·.2)
theorem mem_of_getF {p : Nat × Nat × AObj → Bool} {i : Nat} {o : AObj} (h : (F news p).get i = some o) : ∃ x ∈ news, p x = true ∧ x.2 = (i, o) := by
  have key : ∀ l : News, Heap.get (l.map (·.2)) i = some o → ∃ x ∈ l, x.2 = (i, o) := by
    intro l
    induction l with
    | nil => intro h; rw [List.map_nil, heap_get_nil] at h; cases h
    | cons x l ih =>
      intro h
      obtain ⟨j, k, ob⟩ := x
      rw [List.map_cons, get_cons] at h
      split at h
      · next e => exact ⟨_, List.mem_cons_self, by rw [e, Option.some.inj h]⟩
      · obtain ⟨y, hy, hy2⟩ := ih h
        exact ⟨y, List.mem_cons_of_mem _ hy, hy2⟩
  obtain ⟨x, hx, hx2⟩ := key _ h
  rw [List.mem_filter] at hx
  exact ⟨x, hx.1, hx.2, hx2⟩
theorem get_of_memF (hn : (news.map (·.2.1)).Nodup) {p : Nat × Nat × AObj → Bool} {x : Nat × Nat × AObj} (hx : x ∈ news) (hp : p x = true) : (F news p).get x.2.1 = some x.2.2 := by
  unfold F
  induction news with
  | nil => cases hx
  | cons y l ih =>
    rw [List.map_cons, List.nodup_cons] at hn
    rw [List.filter_cons]
    rcases List.mem_cons.1 hx with e | hx2
    · subst e
      rw [if_pos hp, List.map_cons]
      obtain ⟨j, k, ob⟩ := x
      rw [get_cons, if_pos rfl]
    · split
      · rw [List.map_cons]
        obtain ⟨j, k, ob⟩ := y
        rw [get_cons, if_neg (fun (e : k = x.2.1) => hn.1 (List.mem_map.2 ⟨x, hx2, e.symm⟩))]
        exact ih hn.2 hx2
      · exact ih hn.2 hx2
theorem news_eq (hn : (news.map (·.2.1)).Nodup) {x y : Nat × Nat × AObj} (hx : x ∈ news) (hy : y ∈ news) (e : x.2.1 = y.2.1) : x = y := by
  induction news with
  | nil => cases hx
  | cons z l ih =>
    rw [List.map_cons, List.nodup_cons] at hn
    rcases List.mem_cons.1 hx with e1 | hx2 <;> rcases List.mem_cons.1 hy with e2 | hy2
    · rw [e1, e2]
    · subst e1
      exact absurd (List.mem_map.2 ⟨y, hy2, e.symm⟩) hn.1
    · subst e2
      exact absurd (List.mem_map.2 ⟨x, hx2, e⟩) hn.1
    · exact ih hn.2 hx2 hy2
theorem getFS (hn : (news.map (·.2.1)).Nodup) {p : Nat × Nat × AObj → Bool} {S : Heap} (hd : ∀ x ∈ news, p x = true → S.get x.2.1 = none) {i : Nat} {o : AObj} : Heap.get (F news p ++ S) i = some o ↔ (∃ x ∈ news, p x = true ∧ x.2 = (i, o)) ∨ S.get i = some o := by
  rw [get_append]
  constructor
  · intro h
    cases hf : (F news p).get i with
    | none => rw [hf] at h; exact Or.inr h
    | some q =>
      rw [hf] at h
      have hq : q = o := Option.some.inj h
      subst hq
      exact Or.inl (mem_of_getF hf)
  · rintro (⟨x, hx, hp, e⟩ | h)
    · have := get_of_memF hn hx hp
      rw [e] at this
      rw [this]
    · cases hf : (F news p).get i with
      | none => exact h
      | some q =>
        obtain ⟨x, hx, hp, e⟩ := mem_of_getF hf
        have := hd x hx hp
        rw [e] at this
        rw [this] at h
        cases h
theorem F_none (hn : (news.map (·.2.1)).Nodup) {p : Nat × Nat × AObj → Bool} {x : Nat × Nat × AObj} (hx : x ∈ news) (hp : p x = false) : (F news p).get x.2.1 = none := by
  cases hf : (F news p).get x.2.1 with
  | none => rfl
  | some q =>
    obtain ⟨y, hy, hpy, e⟩ := mem_of_getF hf
    have : y = x := news_eq hn hy hx (by rw [e])
    rw [this, hp] at hpy
    cases hpy
theorem F_congr {p q : Nat × Nat × AObj → Bool} (h : ∀ x ∈ news, p x = q x) : F news p = F news q := by
  unfold F
  rw [List.filter_congr h]
/-- two parts of the news, one after the other -/
theorem getFFS (hn : (news.map (·.2.1)).Nodup) {r f p : Nat × Nat × AObj → Bool} {S : Heap} (hp : ∀ x ∈ news, p x = (r x || f x)) (hrf : ∀ x ∈ news, r x = true → f x = false) (hd : ∀ x ∈ news, p x = true → S.get x.2.1 = none) {i : Nat} {o : AObj} : Heap.get (F news r ++ (F news f ++ S)) i = some o ↔ Heap.get (F news p ++ S) i = some o := by
  have hdf : ∀ x ∈ news, f x = true → S.get x.2.1 = none := fun x hx hf => hd x hx (by rw [hp x hx, hf, Bool.or_true])
  have hdr : ∀ x ∈ news, r x = true → Heap.get (F news f ++ S) x.2.1 = none := fun x hx hr => by
    rw [get_append, F_none hn hx (hrf x hx hr)]
    exact hd x hx (by rw [hp x hx, hr, Bool.true_or])
  rw [getFS hn hdr, getFS hn hdf, getFS hn hd]
  constructor
  · rintro (⟨x, hx, h, e⟩ | ⟨x, hx, h, e⟩ | h)
    · exact Or.inl ⟨x, hx, by rw [hp x hx, h, Bool.true_or], e⟩
    · exact Or.inl ⟨x, hx, by rw [hp x hx, h, Bool.or_true], e⟩
    · exact Or.inr h
  · rintro (⟨x, hx, h, e⟩ | h)
    · rw [hp x hx, Bool.or_eq_true] at h
      rcases h with h | h
      · exact Or.inl ⟨x, hx, h, e⟩
      · exact Or.inr (Or.inl ⟨x, hx, h, e⟩)
    · exact Or.inr (Or.inr h)
end
/-- a new block under a name that was put aside -/
theorem eff_aside {n0 n : Nat} {E0 E : Emb} {h0 h : Heap} {w0 w w' : World} (he : Eff n0 E0 h0 w0 n E h w) {id : Nat} (hid : n0 ≤ id) (hidn : id < n) (hn : E id = none) {o : AObj} {ob : Obj} (h1 : w'.heap = w.heap.push ob) (h2 : w'.os = w.os) (h3 : w'.tape = w.tape) (h4 : w'.output = w.output)
    (h6 : objR (upd E id (w.heap.size, 0)) o 0 (some ob)) (h7 : okO (upd E id (w.heap.size, 0)) o = true) : Eff n0 E0 h0 w0 n (upd E id (w.heap.size, 0)) ((id, o) :: h) w' := by
  have hl := upd_le hn (w.heap.size, 0)
  refine ⟨he.nn, fun i hi => ?_, fun i hi => ?_, h2.trans he.os, h3.trans he.tape, h4.trans he.output, ?_, fun c hc hk => ?_, fun i p hi => ?_, sim_new he.sim hn h1 h6 h7⟩
  · unfold upd
    rw [if_neg (by omega)]
    exact he.ext i hi
  · unfold upd
    rw [if_neg (by omega)]
    exact he.fresh i hi
  · rw [h1, Array.size_push]
    have := he.size
    omega
  · have := he.size
    rw [h1, Array.getElem?_push, if_neg (by omega)]
    exact he.keep c hc hk
  · rw [get_cons] at hi
    split at hi
    · next e =>
      subst e
      refine Or.inr ?_
      rw [(upd_same E id (w.heap.size, 0)).1]
      exact he.size
    · rw [(hl.blk (he.sim.obj i p hi).1).1]
      exact he.img i p hi
end Go.Proofs.YtokbandookjdjaaGreat.Ev
