/- Forecasts: slices.Sorted(maps.Keys(orders)). -/
import Derived.Test.YtleiiedacachjaaKShelf
import Derived.Test.YtleiiedacachjaaKMap
namespace Go.Proofs.Ytleiiedacachjaa
open Go.RowKit Go.Maps Go.Sort Go.Shelf
theorem sortsA (m : Nat) : AnyZI.SortsIn Try.prog Try.sortedA_ren Fence.wide m :=
  ⟨fun blk off cap ss W hH hblk hsz => callsIn_wide.2 (AnyM.slices_Sort_int Try.sortA blk off cap ss W hH hblk hsz),
   fun p cap W => callsIn_wide.2 (AnyM.slices_Sort_int_none Try.sortA p cap W)⟩
theorem keys_any (mb : Nat) (W : World) :
    Calls Try.prog 32 #[.map (some mb)] W fun e w' => e = .returned (.func (.func 48) #[] #[.pointer (some ⟨W.heap.size, 0, none⟩)]) ∧ w' = W.alloc (.cells #[.map (some mb)] 64) :=
  (callsIn_wide (n := 5)).1 (AnyZI.keys_in Try.keysA Fence.wide 5 trivial rfl (some mb) W)
set_option maxHeartbeats 1000000 in
theorem sorted_any (mb : Nat) (m : OM) (W : World) {R : Value → Option (DataW Unit × List MemPlace)} (h : MapAt R W mb m.length m) (hs : SortedM m) (hl : m.length ≤ 1000) :
    Calls Try.prog 31 #[.func (.func 48) #[] #[.pointer (some ⟨W.heap.size, 0, none⟩)]] (W.alloc (.cells #[.map (some mb)] 64)) fun e w' =>
      ∃ v : Value, e = .returned v ∧ w'.ownsRow W.heap.size 3 1 v m.length (m.map fun p => Value.int .i64 p.1) ∧ Below W.heap.size W w' := by
  have hbl := h.lt
  have hseq : SeqGives Fence.wide 2 Try.prog 48 #[.pointer (some ⟨W.heap.size, 0, none⟩)] encZ (fun ss => ss.Perm (intKeys (omD (H := Unit) m))) (Maps.size (omD (H := Unit) m)) (W.alloc (.cells #[.map (some mb)] 64)) :=
    AnyZI.keys_gives (ρ := Try.keysA_ren) { Try.keysA with } Fence.wide _ trivial rfl (by omega) W.heap.size mb m.length (omD m) _ (by simp) (by simp) (by
      obtain ⟨es, clock, hb, Ft, hs, hD⟩ := h
      exact ⟨es, clock, (Below.heap_alloc _ _ mb hbl).trans hb, Ft, hs, hD⟩)
  have cS := AnyZI.sorted_in Try.sortedA Fence.wide 5 trivial trivial trivial trivial rfl (by omega) (sortsA _) (enters_of Try.func47 (by kernel_rfl) rfl) 48 #[.pointer (some ⟨W.heap.size, 0, none⟩)] trivial (enters_of Try.func48 (by kernel_rfl) rfl) _ _ (by rw [omD_size]; unfold maxLen; omega) (by rw [omD_size]; omega) _ hseq
  have cS2 := (callsIn_wide (n := 5)).1 cS
  refine Calls.mono cS2 ?_
  rintro e w' ⟨v, ss, rfl, hS, hrow, hnil, hb⟩
  have hlen : ss.length = m.length := by
    have := hS.length_eq
    rw [omD_keys, List.length_map] at this
    exact this
  have hms : ss.mergeSort leI = m.map (·.1) := by
    rw [mergeSort_of_perm_i hS, omD_keys, keys_sorted hs]
  refine ⟨v, rfl, ?_, ((Below.refl _ W).alloc (Nat.le_refl _) _).trans (hb.mono (by simp))⟩
  have h2 := ownsRow_base_a hrow (base' := W.heap.size) (by simp)
  rw [hlen] at h2
  have e1 : ss.mergeSort (fun x y => decide (x ≤ y)) = m.map (·.1) := hms
  rw [e1, List.map_map] at h2
  exact h2
end Go.Proofs.Ytleiiedacachjaa
