/- Arguments as the statements hand them over, turned into what the walks of package wire use. -/
import Derived.Test.YtapbehipdeabbaaDoorWSmall
import Derived.Test.YtapbehipdeabbaaDoorRows
import Derived.JoinedCond
import Derived.ProofKit
import Derived.OpenShut
import Derived.ChangeSlices
import Derived.SliceStrings
import Derived.Carry
import Derived.Shelf.Vars
namespace Go.Proofs.YtapbehipdeabbaaDoor
open Go.ChangeShapes Go.WideShapes Go.ChangeAt Go.RowKit Go.WideMaps Go.WideElems
open Go.ChangeMaps (open_string shut_string)
theorem own : ownKnob Tryd.prog.godebug = none := by kernel_rfl
theorem laidOut : laidOutB Tryd.prog = true := by kernel_rfl
theorem mlen_of {W : World} (h : W.ShapedOpen Tryd.prog) : MLen W :=
  Go.Proofs.cell_of_shapedOpen_int (zero := #[.int .i64 0]) (t := 3) h (of_decide_eq_true (by kernel_rfl)) (by kernel_rfl) rfl (by kernel_rfl) (by kernel_rfl) Tryd.underlying3
theorem cell_lt {w : World} {a : Addr} {v : Value} (h : w.cell? a = some v) : a.block < w.heap.size := by
  rcases Nat.lt_or_ge a.block w.heap.size with h' | h'
  · exact h'
  · simp [World.cell?, Array.getElem?_eq_none h'] at h
theorem trod_below {H : Type} {enc : TypeId × Value → H} {W : World} {t : TypeId} {v : Value} {d : DataW H} {ps : List MemPlace} (h : DataW.Trod enc Tryd.prog W 0 (fun _ => true) true t v d ps) : ∀ x ∈ ps, x.block < W.heap.size := fun x hx => by
  obtain ⟨n, h⟩ := h
  exact DataW.trod_lt n _ _ _ h x hx
theorem arg_bytes {H : Type} {enc : TypeId × Value → H} {W : World} {base : Nat} {v : Value} {d : DataW H} {ps : List MemPlace} (hval : Value.okWide Tryd.prog W .any base 39 v)
    (h : DataW.Trod enc Tryd.prog W 0 (fun _ => true) true 39 v d ps) :
    ∃ zs : List UInt8, CArg encU8 v zs W ∧ (zs.length : Int) ≤ maxLen := by
  obtain ⟨a0, len, cap, rfl⟩ := okWide_slice undBs hval
  obtain ⟨n, h⟩ := h
  rcases open_ints undBs undB (by kernel_rfl) h with ⟨h1, _⟩ | ⟨a, len', cap', zs, h1, _, hlc, hcm, hn, _, hcell, hwf⟩
  · have h1' : Value.slice a0 len cap = .slice none 0 0 := (List.cons.inj h1).1
    exact ⟨[], ⟨none, 0, h1', by simp⟩, by unfold maxLen; simp⟩
  · have h1' : Value.slice a0 len cap = .slice (some a) len' cap' := (List.cons.inj h1).1
    rw [if_pos rfl] at hn
    have hlen : ((zs.take len').map fun z => UInt8.ofNat z.toNat).length = len' := by rw [List.length_map, List.length_take]; omega
    refine ⟨(zs.take len').map fun z => UInt8.ofNat z.toNat, ⟨some a, cap', by rw [hlen]; exact h1', fun j z hj => ?_⟩, ?_⟩
    · have hjl : j < len' := by
        have := (List.getElem?_eq_some_iff.1 hj).1
        omega
      rw [List.getElem?_map, List.getElem?_take_of_lt hjl, Option.map_eq_some_iff] at hj
      obtain ⟨y, hy, rfl⟩ := hj
      have hw := hwf y (List.mem_of_getElem? hy)
      have hb : 0 ≤ y ∧ y ≤ 255 := by simpa [Lit.wf, IntKind.min, IntKind.max, IntKind.signed, IntKind.bits] using hw
      have hc := hcell j (by omega)
      rw [List.getD_eq_getElem?_getD, hy] at hc
      refine ⟨a, rfl, cell_lt hc, ?_⟩
      rw [hc]
      simp only [Option.getD_some, encU8, Option.some.injEq, Value.int.injEq, true_and]
      rw [ofNat_toNat _ (by omega)]
      omega
    · rw [hlen]
      have : len' ≤ maxLen := Nat.le_trans hlc hcm
      omega
end Go.Proofs.YtapbehipdeabbaaDoor
