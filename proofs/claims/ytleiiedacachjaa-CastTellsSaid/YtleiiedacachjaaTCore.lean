/- A row of elements of k cells handed to the stable sort, and read behind it. -/
import Derived.Test.YtleiiedacachjaaTStable
import Derived.Lib.Bytealg
namespace Go.Proofs.Ytleiiedacachjaa
open Go.Shelf Go.RowKit Go.Lib Go.Sort Stab
theorem holdsK_row {α : Type} [Inhabited α] {enc : α → List Value} {k : Nat} (hk : ∀ x, (enc x).length = k) {w : World} {g : Nat} {cur : Array Value} {e : TypeId} (hh : w.heap[g]? = some (.cells cur e (0, 0))) (l : List α)
    (hc : ∀ (i : Nat) (x : α), l[i]? = some x → ∀ (c : Nat) (u : Value), (enc x)[c]? = some u → cur[i * k + c]? = some u) : HoldsK enc k w g 0 l.toArray := by
  intro t ht
  rw [size_flatK] at ht
  have k0 : 0 < k := by
    rcases Nat.eq_zero_or_pos k with h | h
    · subst h; simp at ht
    · exact h
  rw [get_flatK _ _ _ _ ht]
  have hlt : t / k < l.length := by
    rw [Nat.div_lt_iff_lt_mul k0]
    simpa using ht
  obtain ⟨x, hx⟩ : ∃ x, l[t / k]? = some x := ⟨_, List.getElem?_eq_getElem hlt⟩
  have e1 : (l.toArray)[t / k]! = x := by
    simp [hx]
  rw [e1]
  have hm : t % k < k := Nat.mod_lt _ k0
  obtain ⟨u, hu⟩ : ∃ u, (enc x)[t % k]? = some u := ⟨_, List.getElem?_eq_getElem (by rw [hk]; exact hm)⟩
  have e2 : (enc x)[t % k]! = u := by simp [List.getElem!_eq_getElem?_getD, hu]
  have h1 := hc _ x hx _ u hu
  rw [Nat.div_add_mod'] at h1
  rw [e2, Nat.zero_add]
  exact ⟨(cell_of_row _ _ _ _ _ _ hh).trans h1, frozen_of_row _ _ _ _ _ hh⟩
theorem swk_range {α : Type} [Inhabited α] {enc : α → List Value} {k : Nat} {w0 W : World} {g : Nat} {d0 d : Array α} (R : RowK enc k w0 g 0 d0) (hs : d.size = d0.size) (S : SWK enc k w0 g 0 d W) (i : Nat) (x : α) (hx : d[i]? = some x) : W.rangeAt g (0 + i * k) (enc x) := fun c u hu => by
  have hi : i < d.size := (Array.getElem?_eq_some_iff.1 hx).1
  have hc : c < k := by rw [← R.hk x]; exact (List.getElem?_eq_some_iff.1 hu).1
  have h := (HoldsK.cell (S.holds R.hblk R.hH hs) hi hc).1
  have e1 : d[i]! = x := by rw [getElem!_pos d i hi]; exact (Array.getElem?_eq_some_iff.1 hx).2
  rw [e1] at h
  rw [h]
  simp [List.getElem!_eq_getElem?_getD, hu]
theorem swk_below {α : Type} [Inhabited α] {enc : α → List Value} {k B : Nat} {w0 W : World} {g : Nat} {d : Array α} (hg : g < w0.heap.size) (S : SWK enc k w0 g 0 d W) (hB : B ≤ g) : Go.RowKit.Below B w0 W := by
  have hle := S.le
  obtain ⟨n, os, rfl⟩ := S
  refine ⟨rfl, rfl, rfl, hle, fun j hj => ?_⟩
  unfold sortWorldK
  rw [heap_grow_old _ _ (by rw [size_putRowK]; show j < w0.heap.size; omega)]
  unfold putRowK putRow mapBlock
  show ((Sort.ahead w0 n).heap.modify g _)[j]? = w0.heap[j]?
  rw [Array.getElem?_modify, if_neg (by omega)]
  rfl
/-- strings in byte order -/
theorem cmp_neg : ∀ (a b : List UInt8), Lib.compareBytes a b < 0 ↔ a < b
  | [], [] => by simp [Lib.compareBytes]
  | [], b :: bs => by simp [Lib.compareBytes]
  | a :: ar, [] => by simp [Lib.compareBytes]
  | a :: ar, b :: bs => by
    unfold Lib.compareBytes
    rw [List.cons_lt_cons_iff]
    by_cases h : a < b
    · simp [h]
    · by_cases h2 : b < a
      · have : ¬ a = b := fun e => by rw [e] at h2; exact absurd h2 (by rw [e] at h; exact h)
        simp [h, h2, this]
      · have he : a = b := by
          apply UInt8.toNat_inj.1
          rw [UInt8.lt_iff_toNat_lt] at h h2
          omega
        rw [if_neg h, if_neg h2, cmp_neg ar bs]
        subst he
        simp
theorem ltOf_key {α : Type} (key : α → List UInt8) (x y : α) : ltOf (fun x y => Lib.compareBytes (key x) (key y)) x y = ltStr (key x) (key y) := by
  unfold ltOf ltStr
  exact decide_eq_decide.2 (cmp_neg _ _)
theorem swo_key {α : Type} (key : α → List UInt8) : SWO (ltOf fun x y => Lib.compareBytes (key x) (key y)) where
  irrefl x := by rw [ltOf_key]; exact swo_ltStr.irrefl _
  trans x y z h1 h2 := by rw [ltOf_key] at *; exact swo_ltStr.trans _ _ _ h1 h2
  ntrans x y z h1 h2 := by rw [ltOf_key] at *; exact swo_ltStr.ntrans _ _ _ h1 h2
/-- what the sort leaves, as a list -/
theorem perm_list {α : Type} [Inhabited α] {l : List α} {d : Array α} (h : PermIn 0 l.toArray.size l.toArray d) : d.toList.Perm l := by
  obtain ⟨h1, -, h2⟩ := h
  have e1 : d.extract 0 l.toArray.size = d := by rw [← h1]; simp
  have e2 : l.toArray.extract 0 l.toArray.size = l.toArray := by simp
  rw [e1, e2] at h2
  simpa using h2
theorem sorted_list {α : Type} [Inhabited α] {lt : α → α → Bool} {d : Array α} {n : Nat} (hn : d.size = n) (h : SortedIn lt 0 n d) : d.toList.Pairwise fun x y => lt y x = false := by
  rw [List.pairwise_iff_getElem]
  intro i j hi hj hij
  have := h i j (Nat.zero_le _) hij (by rw [← hn]; simpa using hj)
  rw [getElem!_pos d i (by simpa using hi), getElem!_pos d j (by simpa using hj)] at this
  simpa using this
end Go.Proofs.Ytleiiedacachjaa
