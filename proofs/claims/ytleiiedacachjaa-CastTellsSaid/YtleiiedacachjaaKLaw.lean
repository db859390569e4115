/- Forecasts: news as bytes. Plain. -/
import Derived.Test.YtleiiedacachjaaKOpen
import Derived.Test.YtleiiedacachjaaWJoin
namespace Go.Proofs.Ytleiiedacachjaa
def endsL (r : List SpanV) : List Int := r.flatMap fun s => [s.lo, s.hi]
def rowB (r : List SpanV) : List UInt8 := joinL intL (endsL r)
def heads (n : NewsV) : List Int := [n.known, n.kind, n.cast.id, n.cast.src]
def headK (n : NewsV) (k : Nat) : List UInt8 := ((heads n).take k).flatMap intL
def headB (n : NewsV) : List UInt8 := (heads n).flatMap intL
def newsB (n : NewsV) : List UInt8 := headB n ++ joinL rowB n.cast.rain
def I64n (n : NewsV) : Prop := I64 n.kind ∧ I64 n.known ∧ I64 n.cast.id ∧ I64 n.cast.src
def SpanI (r : List SpanV) : Prop := ∀ s ∈ r, I64 s.lo ∧ I64 s.hi
theorem heads_I {n : NewsV} (h : I64n n) : ∀ x ∈ heads n, I64 x := fun x hx => by
  obtain ⟨h1, h2, h3, h4⟩ := h
  unfold heads at hx
  simp only [List.mem_cons, List.not_mem_nil, or_false] at hx
  rcases hx with rfl | rfl | rfl | rfl <;> assumption
theorem flat_len (l : List Int) (h : ∀ x ∈ l, I64 x) : (l.flatMap intL).length ≤ l.length * 9 := by
  induction l with
  | nil => simp
  | cons x l ih =>
    have h1 := (intL_len (h x (by simp))).2
    have h2 := ih fun y hy => h y (by simp [hy])
    simp only [List.flatMap_cons, List.length_append, List.length_cons, Nat.succ_mul]
    omega
theorem headK_len {n : NewsV} (h : I64n n) (k : Nat) : (headK n k).length ≤ 36 := by
  have h1 := flat_len ((heads n).take k) (fun x hx => heads_I h x (List.mem_of_mem_take hx))
  have h2 : ((heads n).take k).length ≤ 4 := by rw [List.length_take]; exact Nat.min_le_right _ _
  unfold headK
  omega
theorem headK_succ {n : NewsV} {k : Nat} {x : Int} (h : (heads n)[k]? = some x) : headK n (k + 1) = headK n k ++ intL x := by
  unfold headK
  rw [List.take_add_one, h]
  simp [List.flatMap_append]
theorem headK_all (n : NewsV) : headK n 4 = headB n := rfl
theorem ends_len (r : List SpanV) : (endsL r).length = 2 * r.length := by
  induction r with
  | nil => rfl
  | cons x r ih =>
    have : endsL (x :: r) = [x.lo, x.hi] ++ endsL r := rfl
    rw [this, List.length_append, ih]
    simp
    omega
theorem ends_take {r : List SpanV} {j : Nat} {s : SpanV} (h : r[j]? = some s) : endsL (r.take (j + 1)) = endsL (r.take j) ++ [s.lo, s.hi] := by
  unfold endsL
  rw [List.take_add_one, h]
  simp [List.flatMap_append]
theorem ends_I {r : List SpanV} (h : SpanI r) : ∀ x ∈ endsL r, I64 x := fun x hx => by
  unfold endsL at hx
  rw [List.mem_flatMap] at hx
  obtain ⟨s, hs, hx⟩ := hx
  simp only [List.mem_cons, List.not_mem_nil, or_false] at hx
  rcases hx with rfl | rfl
  · exact (h s hs).1
  · exact (h s hs).2
theorem rowB_len {r : List SpanV} (h : SpanI r) (hl : r.length ≤ 70) : (rowB r).length ≤ 1401 := by
  have h1 := joinPre_len intL 10 (endsL r) (fun x hx => Nat.lt_succ_of_le (intL_len (ends_I h x hx)).2)
  have h2 := ends_len r
  unfold rowB
  rw [joinL_pre, List.length_append]
  simp only [List.length_cons, List.length_nil]
  omega
end Go.Proofs.Ytleiiedacachjaa
