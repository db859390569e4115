/- The bulk of what came in bounds the length of a slice. -/
import Derived.Test.YtleiiedacachjaaRows
import Derived.Test.YtleiiedacachjaaRd
import Derived.OpenShut
namespace Go.Proofs.Ytleiiedacachjaa
open Go.RowKit
theorem bulk_pos {H : Type} (d : DataW H) : 1 ≤ Rows.uptoBulk d := by
  cases d with
  | lit l => cases l <;> (simp only [Rows.uptoBulk]; omega)
  | nil => simp only [Rows.uptoBulk]; omega
  | ptr d => simp only [Rows.uptoBulk]; omega
  | slice a b => simp only [Rows.uptoBulk]; omega
  | agg l => simp only [Rows.uptoBulk]; omega
  | iface t d => simp only [Rows.uptoBulk]; omega
  | map l => simp only [Rows.uptoBulk]; omega
  | held h => simp only [Rows.uptoBulk]; omega
theorem bulk_len {H : Type} : ∀ l : List (DataW H), l.length ≤ Rows.uptoBulkAll l
  | [] => by simp only [Rows.uptoBulkAll]; simp
  | d :: r => by
    have h1 := bulk_pos d
    have h2 := bulk_len r
    simp only [Rows.uptoBulkAll, List.length_cons]
    omega
theorem bulk_mem {H : Type} : ∀ (l : List (DataW H)) (j : Nat) (d : DataW H), l[j]? = some d → Rows.uptoBulk d ≤ Rows.uptoBulkAll l
  | [], j, d, h => by simp at h
  | e :: r, 0, d, h => by
    simp only [List.getElem?_cons_zero, Option.some.injEq] at h
    subst h
    simp only [Rows.uptoBulkAll]
    omega
  | e :: r, j + 1, d, h => by
    have := bulk_mem r j d (by simpa using h)
    simp only [Rows.uptoBulkAll]
    omega
theorem bulk_slice {α H : Type} {enc : TypeId × Value → H} {W : World} {P : Program} {ds : List (DataW H)} {t e : TypeId} {v : Value} {d : DataW H} {ps : List MemPlace} {R : α → List Value → World → Prop} {size : Nat} {l : List α}
    (hl : LArg R size v l W) (ht : DataW.Trod enc P W 0 (fun _ => true) true t v d ps) (hu : P.underlying t = some (.slice e)) (hk : Rows.uptoSmall H ds = true) {j : Nat} (h2 : ds[j]? = some d) : l.length ≤ 1048576 := by
  have hk' : Rows.uptoBulkAll ds ≤ 1048576 := of_decide_eq_true hk
  obtain ⟨n, ht⟩ := ht
  obtain ⟨a, c, rfl, -, -⟩ := hl.slice
  rcases DataW.trod_slice hu ht with ⟨h0, h3⟩ | ⟨a', len, cap, elems, rest, m, _, h0, hx, _, _, _, hlen, _⟩
  · have h0' := (List.cons.inj h0).1
    simp only [Value.slice.injEq] at h0'
    omega
  · have h0' := (List.cons.inj h0).1
    simp only [Value.slice.injEq] at h0'
    simp only [Prod.mk.injEq] at hx
    obtain ⟨rfl, -⟩ := hx
    have h4 := bulk_mem ds j _ h2
    have h5 := bulk_len (elems.map (·.1))
    rw [List.length_map] at h5
    simp only [Rows.uptoBulk] at h4
    omega
end Go.Proofs.Ytleiiedacachjaa
