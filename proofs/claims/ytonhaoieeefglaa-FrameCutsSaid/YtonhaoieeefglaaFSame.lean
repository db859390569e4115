/- bourneref23.Same compares two lists of strings. -/
import Derived.Test.YtonhaoieeefglaaFDec
namespace Go.Proofs.Ytonhaoieeefglaa
open Go.RowKit
/-- a slice value that holds the strings ls -/
def SlOf (v : Value) (ls : List ByteArray) (w : World) : Prop :=
  ∃ a c, v = .slice a ls.length c ∧ ((a = none ∧ c = 0 ∧ ls = []) ∨ ∃ g, a = some ⟨g, 0, none⟩ ∧ g < w.heap.size ∧ ∀ j x, ls[j]? = some x → w.cell? ⟨g, j, none⟩ = some (.string x))
def strB (ls : List (List UInt8)) : List ByteArray := ls.map fun l => (⟨l.toArray⟩ : ByteArray)
theorem strB_inj {a b : List (List UInt8)} : strB a = strB b ↔ a = b := by
  constructor
  · intro h
    have := congrArg (List.map fun x : ByteArray => x.data.toList) h
    simpa [strB, List.map_map, Function.comp_def] using this
  · intro h; rw [h]
theorem SlOf.of_owns {w : World} {base n : Nat} {v : Value} {ls : List (List UInt8)} (hn : ls.length = n) (h : w.ownsRow base 9 1 v n (strV ls)) : SlOf v (strB ls) w := by
  subst hn
  have hl : (strB ls).length = ls.length := List.length_map _
  rcases h.2 with ⟨rfl, h0⟩ | ⟨g, cap, cur, rfl, hg, hh, hnc, _, hcs, htk⟩
  · have : ls = [] := List.eq_nil_of_length_eq_zero h0
    subst this
    exact ⟨none, 0, rfl, Or.inl ⟨rfl, rfl, rfl⟩⟩
  · refine ⟨_, cap, by rw [hl], Or.inr ⟨g, rfl, blk_lt hh, fun j x hj => ?_⟩⟩
    rw [cell_of_row _ _ _ _ _ _ hh]
    have h1 : (cur.toList.take (ls.length * 1))[j]? = (strV ls)[j]? := by rw [htk]
    have hjl : j < ls.length := by have := (List.getElem?_eq_some_iff.1 hj).1; omega
    rw [List.getElem?_take, if_pos (by omega)] at h1
    have h2 : (strV ls)[j]? = some (.string x) := by
      unfold strV
      unfold strB at hj
      rw [List.getElem?_map] at hj ⊢
      obtain ⟨y, hy, rfl⟩ := Option.map_eq_some_iff.1 hj
      rw [hy]; rfl
    rw [h2] at h1
    simpa using h1
theorem SlOf.below {v : Value} {ls : List ByteArray} {w w' : World} {B : Nat} (h : SlOf v ls w) (hb : Below B w w') (hB : w.heap.size ≤ B) : SlOf v ls w' := by
  obtain ⟨a, c, rfl, h⟩ := h
  refine ⟨a, c, rfl, h.imp id ?_⟩
  rintro ⟨g, rfl, hg, hc⟩
  exact ⟨g, rfl, Nat.lt_of_lt_of_le hg hb.size, fun j x hj => (hb.cell (p := ⟨g, j, none⟩) (Nat.lt_of_lt_of_le hg hB)).trans (hc j x hj)⟩
theorem take_step {α : Type} {a b : List α} {k : Nat} {x : α} (h : a.take k = b.take k) (ha : a[k]? = some x) (hb : b[k]? = some x) : a.take (k + 1) = b.take (k + 1) := by
  rw [List.take_add_one, List.take_add_one, h, ha, hb]
theorem str_eq {s t : ByteArray} (h : s.toList = t.toList) : s = t := by
  rw [ByteArray.toList_eq, ByteArray.toList_eq] at h
  cases s; cases t; simp at h; rw [h]
set_option maxRecDepth 100000 in
set_option maxHeartbeats 1000000 in
theorem same_any (va vb : Value) (la lb : List ByteArray) (w : World) (ha : SlOf va la w) (hb : SlOf vb lb w) (hla : la.length ≤ 1000000) (hlb : lb.length ≤ 1000000) :
    Calls Try.prog 12 #[va, vb] w fun e w' => e = .returned (.bool (decide (la = lb))) ∧ ∃ k, w' = w.drewN k := by
  obtain ⟨a, c, rfl, ha⟩ := ha
  obtain ⟨b, d, rfl, hb⟩ := hb
  by_cases hlen : la.length = lb.length
  · have hl2 : ((la.length : Int) != (lb.length : Int)) = false := by rw [hlen]; simp
    have HL := Lib.hid hlen
    have HA := Lib.hid ha
    have HB := Lib.hid hb
    clear ha hb hlen
    go_enter Try.func12, Try.ntmps12
    go_wp2_with fail
    go_loopw [5] (fun i wr => ∃ k m : Nat, k ≤ la.length ∧ i = .int .i64 k ∧ la.take k = lb.take k ∧ wr = w.drewN m) (fun i _ => la.length - (intOf i).toNat)
    case atStart => exact ⟨0, 0, by omega, rfl, by simp, rfl⟩
    case round =>
      obtain ⟨k, m, hk, rfl, ht, rfl⟩ := hrel
      have HT := Lib.hid ht
      clear ht
      by_cases hlt : k < la.length
      · have hlt2 : k < lb.length := by rw [← HL.out]; exact hlt
        obtain ⟨g, rfl, hg, hca⟩ := HA.out.resolve_left (fun h => by rw [h.2.2] at hlt; simp at hlt)
        obtain ⟨g2, rfl, hg2, hcb⟩ := HB.out.resolve_left (fun h => by rw [h.2.2] at hlt2; simp at hlt2)
        have c1 := hca k la[k] (List.getElem?_eq_getElem hlt)
        have c2 := hcb k lb[k] (List.getElem?_eq_getElem hlt2)
        have H1 : Hid (la[k]? = some la[k]) := Lib.hid (List.getElem?_eq_getElem hlt)
        have H2 : Hid (lb[k]? = some lb[k]) := Lib.hid (List.getElem?_eq_getElem hlt2)
        clear hca hcb HA HB hg hg2
        generalize la[k] = x at *
        generalize lb[k] = y at *
        by_cases hxy : x = y
        · subst hxy
          have HS := Lib.hid (take_step HT.out H1.out H2.out)
          go_wp2_with fail
          go_quiet (fail)
          go_wp2_with fail
          go_roundw
          case rel => exact ⟨k + 1, _, by omega, by go_num, HS.out, rfl⟩
          case measure => simp [intOf]; omega
        · have hne : (x.toList == y.toList) = false := beq_eq_false_iff_ne.2 (fun e => hxy (str_eq e))
          have HE : Hid (decide (la = lb) = false) := Lib.hid (by
            simp only [decide_eq_false_iff_not]
            intro e
            subst e
            exact hxy (Option.some.inj (H1.out.symm.trans H2.out)))
          go_wp2_with fail
          go_quiet (fail)
          go_wp2_with fail
          rw [HE.out]
          go_ret
          exact ⟨rfl, m + nq, by rw [World.drewN_drewN]⟩
      · obtain rfl : k = la.length := by omega
        have HE : Hid (decide (la = lb) = true) := Lib.hid (by
          have := HT.out
          rw [List.take_of_length_le (Nat.le_refl _), List.take_of_length_le (by rw [HL.out]; exact Nat.le_refl _)] at this
          simp [this])
        clear hlt hk
        go_wp2_with fail
        rw [HE.out]
        go_ret
        exact ⟨rfl, _, rfl⟩
  · have hl2 : ((la.length : Int) != (lb.length : Int)) = true := by rw [bne_iff_ne]; omega
    have HE : Hid (decide (la = lb) = false) := Lib.hid (by
      simp only [decide_eq_false_iff_not]
      intro e
      exact hlen (by rw [e]))
    clear ha hb hlen
    go_enter Try.func12, Try.ntmps12
    go_wp2_with fail
    rw [HE.out]
    go_ret
    exact ⟨rfl, 0, rfl⟩
end Go.Proofs.Ytonhaoieeefglaa
