/- Plain laws for GramFrames: the sealed telegrams that are well formed, and the stream of their frames. -/
import Derived.Test.YtmlfkhpmgjcliaaDoorHL
import Derived.Test.YtmlfkhpmgjcliaaDoorGSeals
namespace Go.Proofs.YtmlfkhpmgjcliaaDoor
open Go.RowKit
def sealG (s : ByteArray) (g : GV) : GV := ⟨g.gauge, g.seq, g.clock, g.value, ⟨(tagL s g).toArray⟩⟩
def wantL (s : ByteArray) (gs : List GV) : List GV := (gs.map (sealG s)).filter fun x => decide (Formed x)
def strmL (W : List GV) : List UInt8 := frL (W.map gramL)
theorem wantL_snoc (s : ByteArray) {gs : List GV} {k : Nat} {g : GV} (h : gs[k]? = some g) : wantL s (gs.take (k + 1)) = wantL s (gs.take k) ++ (if Formed (sealG s g) then [sealG s g] else []) := by
  rw [List.take_add_one, h]
  unfold wantL
  rw [List.map_append, List.filter_append]
  by_cases hf : Formed (sealG s g)
  · simp [hf]
  · simp [hf]
theorem strmL_snoc (W : List GV) (x : GV) : strmL (W ++ [x]) = strmL W ++ encL (gramL x) := by
  unfold strmL
  rw [List.map_append]
  exact frL_snoc _ _
theorem wantL_len (s : ByteArray) (gs : List GV) : (wantL s gs).length ≤ gs.length := by
  unfold wantL
  exact Nat.le_trans (List.length_filter_le _ _) (by simp)
theorem encL_short {l : List UInt8} (h : l.length ≤ 60) : encL l ≠ [] := by
  unfold encL
  rw [if_neg]
  · simp
  · have h1 := escL_len (bodyL l)
    have h2 : (bodyL l).length = l.length + 2 := by simp [bodyL, crcB]
    omega
theorem keptL_all {qs : List (List UInt8)} (h : ∀ q ∈ qs, q.length ≤ 60) : keptL qs = qs := by
  unfold keptL
  rw [List.filter_eq_self]
  intro q hq
  have := encL_short (h q hq)
  simp [this]
theorem frames_law (W : List GV) (k : Nat) : decL ((strmL W).take k) ++ decL (restL ((strmL W).take k) ++ (strmL W).drop k) = W.map gramL := by
  have h1 := (stream_cut ((strmL W).take k) ((strmL W).drop k)).1
  rw [List.take_append_drop] at h1
  rw [← h1]
  have h2 := back_dec [] (by simp) (W.map gramL)
  rw [List.nil_append] at h2
  unfold strmL
  rw [h2]
  exact keptL_all (fun q hq => by
    obtain ⟨g, _, rfl⟩ := List.mem_map.1 hq
    exact gramL_len g)
theorem strmL_len (W : List GV) : (strmL W).length ≤ 2050 * W.length := by
  have := frL_len (W.map gramL)
  rw [List.length_map] at this
  exact this
theorem want_mem {s : ByteArray} {gs : List GV} {x : GV} (h : x ∈ wantL s gs) : Formed x ∧ genB s x = true := by
  unfold wantL at h
  rw [List.mem_filter] at h
  obtain ⟨h1, h2⟩ := h
  have hf := of_decide_eq_true h2
  obtain ⟨g, _, rfl⟩ := List.mem_map.1 h1
  exact ⟨hf, decide_eq_true ⟨hf, rfl⟩⟩
/-- a telegram's five cells -/
def gCl (g : GV) : List Value := [.int .i64 g.gauge, .int .i64 g.seq, .int .i64 g.clock, .int .i64 g.value, .string g.tag]
def gRow (W : List GV) : List Value := W.flatMap gCl
theorem gRow_snoc (W : List GV) (x : GV) : gRow (W ++ [x]) = gRow W ++ gCl x := by simp [gRow]
theorem gRow_len (W : List GV) : (gRow W).length = W.length * 5 := by
  induction W with
  | nil => rfl
  | cons x W ih =>
    have : gRow (x :: W) = gCl x ++ gRow W := by simp [gRow]
    rw [this, List.length_append, ih, List.length_cons]
    simp [gCl]
    omega
theorem gRow_get : ∀ (W : List GV) (k : Nat) (x : GV), W[k]? = some x → ∀ j v, (gCl x)[j]? = some v → (gRow W)[k * 5 + j]? = some v
  | [], k, x, h, j, v, hj => by simp at h
  | y :: W, 0, x, h, j, v, hj => by
    simp only [List.getElem?_cons_zero, Option.some.injEq] at h
    subst h
    have e : gRow (y :: W) = gCl y ++ gRow W := by simp [gRow]
    have hl : j < (gCl y).length := (List.getElem?_eq_some_iff.1 hj).1
    rw [e, Nat.zero_mul, Nat.zero_add, List.getElem?_append_left hl]
    exact hj
  | y :: W, k + 1, x, h, j, v, hj => by
    simp only [List.getElem?_cons_succ] at h
    have e : gRow (y :: W) = gCl y ++ gRow W := by simp [gRow]
    have hl : (gCl y).length = 5 := rfl
    rw [e, List.getElem?_append_right (by rw [hl]; omega), hl]
    have := gRow_get W k x h j v hj
    rw [show (k + 1) * 5 + j - 5 = k * 5 + j by omega]
    exact this
theorem gCl_one (x : GV) : ∀ u ∈ gCl x, u.oneCell' = true := by
  intro u hu
  simp only [gCl, List.mem_cons, List.not_mem_nil, or_false] at hu
  rcases hu with rfl | rfl | rfl | rfl | rfl <;> rfl
end Go.Proofs.YtmlfkhpmgjcliaaDoor
