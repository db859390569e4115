/- Names of a basin. -/
import Derived.Test.YtepidpegoihllaaGreatDoorBMark
namespace Go.Proofs.YtepidpegoihllaaGreatDoor
open Go.RowKit Go.Maps
def RetP (w : World) (e : Ending) (w' : World) : Prop := ∃ b : Bool, e = .returned (.bool b) ∧ w' = w
theorem retP_mk {b : Bool} {w : World} : RetP w (.returned (.bool b)) w := ⟨b, rfl, rfl⟩
set_option maxRecDepth 100000 in
set_option maxHeartbeats 2000000 in
theorem isName_any (s : ByteArray) (w : World) (hs : s.size ≤ maxLen) : Calls Tryz.prog 91 #[.string s] w (RetP w) := by
  unfold maxLen at hs
  by_cases h1 : s.size < 1
  · go_enter Tryz.func91, Tryz.ntmps91
    go_wp2_with fail
    go_ret
    exact retP_mk
  by_cases h2 : 24 < s.size
  · go_enter Tryz.func91, Tryz.ntmps91
    go_wp2_with fail
    go_ret
    exact retP_mk
  cases h3 : (s.toList == [111, 117, 116])
  rotate_left 1
  · go_enter Tryz.func91, Tryz.ntmps91
    go_wp2_with fail
    go_ret
    exact retP_mk
  obtain ⟨c0, hc0⟩ : ∃ c : Int, ((s[0]'(by omega)).toNat : Int) = c := ⟨_, rfl⟩
  by_cases h4 : c0 < 97
  · go_enter Tryz.func91, Tryz.ntmps91
    go_wp2_with fail
    go_ret
    exact retP_mk
  by_cases h5 : 122 < c0
  · go_enter Tryz.func91, Tryz.ntmps91
    go_wp2_with fail
    go_ret
    exact retP_mk
  go_enter Tryz.func91, Tryz.ntmps91
  go_wp2_with fail
  clear h1 h3 h4 h5 hc0
  go_loopw [3] (fun iv wr => ∃ k : Nat, 1 ≤ k ∧ k ≤ s.size ∧ iv = .int .i64 k ∧ Hid (wr = w)) (fun iv _ => s.size - (Go.RowKit.intOf iv).toNat)
  case atStart => exact ⟨1, Nat.le_refl _, by omega, rfl, Lib.hid (by first | rfl | trivial)⟩
  case round =>
    obtain ⟨k, hk1, hk, rfl, hw⟩ := hrel
    cases hw.out
    by_cases hlt : k < s.size
    · go_upto_region 7 with fail
      generalize ((s[k]).toNat : Int) = c at *
      by_cases q1 : c < 97
      · by_cases q3 : c < 48
        · cases q5 : (c != 95)
          · go_wp2_with fail
            go_roundw
            case rel => exact ⟨k + 1, by omega, by omega, by go_num, Lib.hid (by first | rfl | trivial)⟩
            case measure => simp [Go.RowKit.intOf]; omega
          · go_wp2_with fail
            go_ret
            exact retP_mk
        · by_cases q4 : 57 < c
          · cases q5 : (c != 95)
            · go_wp2_with fail
              go_roundw
              case rel => exact ⟨k + 1, by omega, by omega, by go_num, Lib.hid (by first | rfl | trivial)⟩
              case measure => simp [Go.RowKit.intOf]; omega
            · go_wp2_with fail
              go_ret
              exact retP_mk
          · go_wp2_with fail
            go_roundw
            case rel => exact ⟨k + 1, by omega, by omega, by go_num, Lib.hid (by first | rfl | trivial)⟩
            case measure => simp [Go.RowKit.intOf]; omega
      · by_cases q2 : 122 < c
        · by_cases q4 : 57 < c
          · cases q5 : (c != 95)
            · go_wp2_with fail
              go_roundw
              case rel => exact ⟨k + 1, by omega, by omega, by go_num, Lib.hid (by first | rfl | trivial)⟩
              case measure => simp [Go.RowKit.intOf]; omega
            · go_wp2_with fail
              go_ret
              exact retP_mk
          · exact absurd q2 (by omega)
        · go_wp2_with fail
          go_roundw
          case rel => exact ⟨k + 1, by omega, by omega, by go_num, Lib.hid (by first | rfl | trivial)⟩
          case measure => simp [Go.RowKit.intOf]; omega
    · go_wp2_with fail
      go_ret
      exact retP_mk
structure Keep (mb : Nat) (w w' : World) : Prop where
  os : w'.os = w.os
  tape : w'.tape = w.tape
  output : w'.output = w.output
  size : w.heap.size ≤ w'.heap.size
  block : ∀ k, k < w.heap.size → k ≠ mb → w'.heap[k]? = w.heap[k]?
theorem Keep.of_below {mb : Nat} {w w' : World} (h : Below w.heap.size w w') : Keep mb w w' := ⟨h.os, h.tape, h.output, h.size, fun k hk _ => h.block k hk⟩
theorem Keep.trans {mb : Nat} {a b c : World} (h : Keep mb a b) (k : Keep mb b c) : Keep mb a c :=
  ⟨k.os.trans h.os, k.tape.trans h.tape, k.output.trans h.output, Nat.le_trans h.size k.size, fun i hi hn => (k.block i (Nat.lt_of_lt_of_le hi h.size) hn).trans (h.block i hi hn)⟩
theorem Keep.grown {mb : Nat} {w w' : World} (h : w.grownBy w' (some mb)) : Keep mb w w' := ⟨h.os, h.tape, h.output, h.size, fun k hk hn => h.block k hk (fun e => hn (Option.some.inj e))⟩
theorem MarkM.keep {w w' : World} {mb n : Nat} (h : MarkM w mb n) (hk : w'.heap[mb]? = w.heap[mb]?) : MarkM w' mb n := by
  obtain ⟨D, es, clock, hb, r⟩ := h
  exact ⟨D, es, clock, hk.trans hb, r⟩
theorem MarkM.mono {w : World} {mb n k : Nat} (h : MarkM w mb n) (hk : n ≤ k) : MarkM w mb k := by
  obtain ⟨D, h⟩ := h
  exact ⟨D, h.mono hk⟩
theorem MarkM.lt {w : World} {mb n : Nat} (h : MarkM w mb n) : mb < w.heap.size := by
  obtain ⟨D, h⟩ := h
  exact h.lt
set_option maxRecDepth 100000 in
theorem MarkM.look {w : World} {mb n : Nat} (h : MarkM w mb n) {s t : ByteArray} (hs : s.size ≤ maxLen) (ht : t.size ≤ maxLen) : ∃ c : Bool, (Instr.lookup 99 (.map (some mb)) (.agg #[.string s, .string t]) false).run Tryz.prog w = .ok (.bool c) w := by
  obtain ⟨D, h⟩ := h
  obtain ⟨kl, hkl⟩ := keyMk s t hs ht
  obtain ⟨v, ps, hrun, hR⟩ := h.lookup lawMk undMm (zeroBo w) (plainElem_bool Tryz.underlying4 false) hkl
  have hv : ∃ c : Bool, v = .bool c := by
    unfold plainElem at hR
    rw [Tryz.underlying4] at hR
    cases v <;> simp at hR
    exact ⟨_, rfl⟩
  obtain ⟨c, rfl⟩ := hv
  exact ⟨c, hrun⟩
set_option maxRecDepth 100000 in
theorem MarkM.put {w : World} {mb n : Nat} (h : MarkM w mb n) (hn : n ≤ 100000) {s t : ByteArray} (hs : s.size ≤ maxLen) (ht : t.size ≤ maxLen) (c : Bool) :
    ∃ w', (Instr.mapUpdate 99 (.map (some mb)) (.agg #[.string s, .string t]) (.bool c)).run Tryz.prog w = .ok () w' ∧ MarkM w' mb (n + 1) ∧ w.grownBy w' (some mb) := by
  obtain ⟨D, h⟩ := h
  obtain ⟨kl, hkl⟩ := keyMk s t hs ht
  obtain ⟨w', hrun, hown, hg⟩ := h.update lawMk undMm (by unfold maxLen; omega) hkl (plainElem_bool Tryz.underlying4 c)
  exact ⟨w', hrun, ⟨_, hown⟩, hg⟩
def FreshPost (mb n : Nat) (w : World) (e : Ending) (w' : World) : Prop := ∃ b : Bool, e = .returned (.bool b) ∧ MarkM w' mb (n + 1) ∧ Keep mb w w'
theorem fresh_mk {mb n : Nat} {w w' : World} {b : Bool} (h : MarkM w' mb (n + 1)) (hk : Keep mb w w') : FreshPost mb n w (.returned (.bool b)) w' := ⟨b, rfl, h, hk⟩
set_option maxRecDepth 100000 in
set_option maxHeartbeats 2000000 in
theorem fresh_any (mb n : Nat) (sort name : ByteArray) (w : World) (hM : MarkM w mb n) (hn : n ≤ 100000) (hs : sort.size ≤ maxLen) (hm : name.size ≤ maxLen) : Calls Tryz.prog 60 #[.map (some mb), .string sort, .string name] w (FreshPost mb n w) := by
  have HM := Lib.hid hM
  have HS := Lib.hid hs
  have HN := Lib.hid hm
  have HLN := Lib.hid hn
  clear hM hs hm hn
  cases h1 : (sort.toList == [115, 104, 101, 108, 116, 101, 114])
  · go_enter Tryz.func60, Tryz.ntmps60
    go_upto_region 4 with fail
    have hb : Below w.heap.size w (w.alloc (.cells #[.string sort, .string name] 148)) := (Below.refl _ _).alloc (Nat.le_refl _) (.cells #[.string sort, .string name] 148)
    have HR1 := Lib.hid (heap_alloc_new w (.cells #[.string sort, .string name] 148))
    have HM1 := Lib.hid (HM.out.keep (hb.block mb HM.out.lt))
    have HB1 := Lib.hid (Keep.of_below (mb := mb) hb)
    clear hb
    generalize w.alloc (.cells #[.string sort, .string name] 148) = w1 at *
    generalize w.heap.size = b1 at *
    have c0 := rowNG HR1.out 0 (.string sort) rfl
    have c1 := rowNG HR1.out 1 (.string name) rfl
    go_wp2_with fail
    refine (isName_any name _ HN.out).mono ?_
    rintro e w2 ⟨b, rfl, rfl⟩
    cases b
    · go_wp2_with fail
      go_ret
      exact fresh_mk (HM1.out.mono (Nat.le_succ _)) HB1.out
    · obtain ⟨c, hlk⟩ := HM1.out.look HS.out HN.out
      cases c
      · obtain ⟨w3, hup, hm3, hg3⟩ := HM1.out.put HLN.out HS.out HN.out true
        have HM3 := Lib.hid hm3
        have HB3 := Lib.hid (HB1.out.trans (Keep.grown hg3))
        clear hm3 hg3
        go_wp2_with fail
        go_ret
        exact fresh_mk HM3.out HB3.out
      · go_wp2_with fail
        go_ret
        exact fresh_mk (HM1.out.mono (Nat.le_succ _)) HB1.out
  · go_enter Tryz.func60, Tryz.ntmps60
    go_upto_region 4 with fail
    have hb : Below w.heap.size w (w.alloc (.cells #[.string ⟨#[116, 111, 119, 110]⟩, .string name] 148)) := (Below.refl _ _).alloc (Nat.le_refl _) (.cells #[.string ⟨#[116, 111, 119, 110]⟩, .string name] 148)
    have HR1 := Lib.hid (heap_alloc_new w (.cells #[.string ⟨#[116, 111, 119, 110]⟩, .string name] 148))
    have HM1 := Lib.hid (HM.out.keep (hb.block mb HM.out.lt))
    have HB1 := Lib.hid (Keep.of_below (mb := mb) hb)
    clear hb
    generalize w.alloc (.cells #[.string ⟨#[116, 111, 119, 110]⟩, .string name] 148) = w1 at *
    generalize w.heap.size = b1 at *
    have c0 := rowNG HR1.out 0 (.string ⟨#[116, 111, 119, 110]⟩) rfl
    have c1 := rowNG HR1.out 1 (.string name) rfl
    go_wp2_with fail
    refine (isName_any name _ HN.out).mono ?_
    rintro e w2 ⟨b, rfl, rfl⟩
    cases b
    · go_wp2_with fail
      go_ret
      exact fresh_mk (HM1.out.mono (Nat.le_succ _)) HB1.out
    · obtain ⟨c, hlk⟩ := HM1.out.look (show (ByteArray.mk #[116, 111, 119, 110]).size ≤ maxLen by unfold maxLen; decide) HN.out
      cases c
      · obtain ⟨w3, hup, hm3, hg3⟩ := HM1.out.put HLN.out (show (ByteArray.mk #[116, 111, 119, 110]).size ≤ maxLen by unfold maxLen; decide) HN.out true
        have HM3 := Lib.hid hm3
        have HB3 := Lib.hid (HB1.out.trans (Keep.grown hg3))
        clear hm3 hg3
        go_wp2_with fail
        go_ret
        exact fresh_mk HM3.out HB3.out
      · go_wp2_with fail
        go_ret
        exact fresh_mk (HM1.out.mono (Nat.le_succ _)) HB1.out
/-- the state of rightNames: the map's cell, the flag's cell, the map -/
structure NS (mb bc bo n : Nat) (w : World) : Prop where
  cell : w.heap[bc]? = some (.cells #[.map (some mb)] 99 (0, 0))
  flag : ∃ ok : Bool, w.heap[bo]? = some (.cells #[.bool ok] 4 (0, 0))
  map : MarkM w mb n
structure Keep2 (mb bo : Nat) (w w' : World) : Prop where
  os : w'.os = w.os
  tape : w'.tape = w.tape
  output : w'.output = w.output
  size : w.heap.size ≤ w'.heap.size
  block : ∀ k, k < w.heap.size → k ≠ mb → k ≠ bo → w'.heap[k]? = w.heap[k]?
def CheckPost (mb bc bo n : Nat) (w : World) (e : Ending) (w' : World) : Prop := e = .returned (.tuple #[]) ∧ NS mb bc bo (n + 1) w' ∧ Keep2 mb bo w w'
theorem check_mk {mb bc bo n : Nat} {w w3 : World} {c : Bool} (hs : NS mb bc bo n w) (hm : MarkM w3 mb (n + 1)) (hk : Keep mb w w3) (h1 : bc ≠ mb) (h2 : bo ≠ mb) (h3 : bc ≠ bo) : CheckPost mb bc bo n w (.returned (.tuple #[])) (w3.setCell ⟨bo, 0, none⟩ (.bool c)) := by
  obtain ⟨ok, ho⟩ := hs.flag
  have hc3 := (hk.block bc (blk_lt hs.cell) h1).trans hs.cell
  have ho3 := (hk.block bo (blk_lt ho) h2).trans ho
  refine ⟨rfl, ⟨?_, ⟨c, ?_⟩, hm.keep (heap_setCell_other w3 ⟨bo, 0, none⟩ mb (.bool c) h2.symm)⟩, ⟨hk.os, hk.tape, hk.output, ?_, fun k hkl hn hn2 => (heap_setCell_other w3 ⟨bo, 0, none⟩ k (.bool c) hn2).trans (hk.block k hkl hn)⟩⟩
  · exact (heap_setCell_other w3 ⟨bo, 0, none⟩ bc (.bool c) h3).trans hc3
  · exact heap_setCell_same _ _ _ _ _ _ ho3
  · exact Nat.le_trans hk.size (by simp)
set_option maxRecDepth 100000 in
set_option maxHeartbeats 2000000 in
theorem check_any (mb bc bo n : Nat) (sort name : ByteArray) (w : World) (hS : NS mb bc bo n w) (h1 : bc ≠ mb) (h2 : bo ≠ mb) (h3 : bc ≠ bo) (hn : n ≤ 100000) (hs : sort.size ≤ maxLen) (hm : name.size ≤ maxLen) :
    Calls Tryz.prog 59 (#[.string sort, .string name] ++ #[.pointer (some ⟨bc, 0, none⟩), .pointer (some ⟨bo, 0, none⟩)]) w (CheckPost mb bc bo n w) := by
  have HS := Lib.hid hS
  obtain ⟨ok, ho⟩ := hS.flag
  have HO := Lib.hid ho
  have c0 := rowNG hS.cell 0 (.map (some mb)) rfl
  clear hS ho
  go_enter Tryz.func59, Tryz.ntmps59
  go_wp2_with fail
  refine (fresh_any mb n sort name _ HS.out.map hn hs hm).mono ?_
  rintro e w3 ⟨b, rfl, hm3, hk3⟩
  have ho3 := (hk3.block bo (blk_lt HO.out) h2).trans HO.out
  have o0 := rowNG ho3 0 (.bool ok) rfl
  have z0 : w3.frozen? ⟨bo, 0, none⟩ = false := frozen_of_row _ _ _ _ _ ho3
  have HM3 := Lib.hid hm3
  have HK3 := Lib.hid hk3
  clear hm3 hk3 ho3 c0
  cases b
  · go_wp2_with fail
    go_end0
    exact check_mk HS.out HM3.out HK3.out h1 h2 h3
  · go_wp2_with fail
    go_end0
    exact check_mk HS.out HM3.out HK3.out h1 h2 h3
/-- what holds in rightNames: base, the basin's row -/
structure NamesI (w : World) (R : Array Value) (mb bc bo : Nat) (wr : World) (n : Nat) : Prop where
  row : wr.heap[w.heap.size]? = some (.cells R 31 (0, 0))
  ns : NS mb bc bo n wr
  below : Below w.heap.size w wr
  lm : w.heap.size < mb
  lo : w.heap.size < bo
theorem NamesI.alloc {w wr : World} {R : Array Value} {mb bc bo n : Nat} (h : NamesI w R mb bc bo wr n) (o : Obj) : NamesI w R mb bc bo (wr.alloc o) n := by
  have hb : Below wr.heap.size wr (wr.alloc o) := (Below.refl _ _).alloc (Nat.le_refl _) o
  obtain ⟨ok, ho⟩ := h.ns.flag
  exact ⟨blk_below h.row hb (blk_lt h.row), ⟨blk_below h.ns.cell hb (blk_lt h.ns.cell), ⟨ok, blk_below ho hb (blk_lt ho)⟩, h.ns.map.keep (hb.block _ h.ns.map.lt)⟩, h.below.trans (hb.mono h.below.size), h.lm, h.lo⟩
theorem NamesI.step {w wr w' : World} {R : Array Value} {mb bc bo n : Nat} (h : NamesI w R mb bc bo wr n) (hs : NS mb bc bo (n + 1) w') (hk : Keep2 mb bo wr w') : NamesI w R mb bc bo w' (n + 1) :=
  ⟨(hk.block _ (blk_lt h.row) (Nat.ne_of_lt h.lm) (Nat.ne_of_lt h.lo)).trans h.row, hs, h.below.trans ⟨hk.os, hk.tape, hk.output, hk.size, fun k hkl => hk.block k (Nat.lt_of_lt_of_le hkl h.below.size) (by have := h.lm; omega) (by have := h.lo; omega)⟩, h.lm, h.lo⟩
theorem NamesI.mono {w wr : World} {R : Array Value} {mb bc bo n k : Nat} (h : NamesI w R mb bc bo wr n) (hk : n ≤ k) : NamesI w R mb bc bo wr k := ⟨h.row, ⟨h.ns.cell, h.ns.flag, h.ns.map.mono hk⟩, h.below, h.lm, h.lo⟩
theorem names_start {w : World} {R : Array Value} : NamesI w R (w.heap.size + 1) (w.heap.size + 1 + 1) (w.heap.size + 1 + 1 + 1) ((((w.alloc (.cells R 31)).alloc (.map #[] 0)).alloc (.cells #[.map (some (w.heap.size + 1))] 99)).alloc (.cells #[.bool true] 4)) 0 := by
  have s1 : (w.alloc (.cells R 31)).heap.size = w.heap.size + 1 := by simp
  have s2 : ((w.alloc (.cells R 31)).alloc (.map #[] 0)).heap.size = w.heap.size + 1 + 1 := by simp
  have s3 : (((w.alloc (.cells R 31)).alloc (.map #[] 0)).alloc (.cells #[.map (some (w.heap.size + 1))] 99)).heap.size = w.heap.size + 1 + 1 + 1 := by simp
  have h0 := heap_alloc_new w (.cells R 31)
  have hm := World.ownsMap_made (H := Unit) (w.alloc (.cells R 31)) Tryz.prog 148 (plainElem Tryz.prog 4)
  have h2 := heap_alloc_new ((w.alloc (.cells R 31)).alloc (.map #[] 0)) (.cells #[.map (some (w.heap.size + 1))] 99)
  have h3 := heap_alloc_new (((w.alloc (.cells R 31)).alloc (.map #[] 0)).alloc (.cells #[.map (some (w.heap.size + 1))] 99)) (.cells #[.bool true] 4)
  rw [s1] at hm
  rw [s2] at h2
  rw [s3] at h3
  have b1 : Below _ _ ((w.alloc (.cells R 31)).alloc (.map #[] 0)) := (Below.refl (w.alloc (.cells R 31)).heap.size (w.alloc (.cells R 31))).alloc (Nat.le_refl _) (.map #[] 0)
  have b2 : Below _ _ (((w.alloc (.cells R 31)).alloc (.map #[] 0)).alloc (.cells #[.map (some (w.heap.size + 1))] 99)) := (Below.refl ((w.alloc (.cells R 31)).alloc (.map #[] 0)).heap.size _).alloc (Nat.le_refl _) (.cells #[.map (some (w.heap.size + 1))] 99)
  have b3 : Below _ _ ((((w.alloc (.cells R 31)).alloc (.map #[] 0)).alloc (.cells #[.map (some (w.heap.size + 1))] 99)).alloc (.cells #[.bool true] 4)) := (Below.refl (((w.alloc (.cells R 31)).alloc (.map #[] 0)).alloc (.cells #[.map (some (w.heap.size + 1))] 99)).heap.size _).alloc (Nat.le_refl _) (.cells #[.bool true] 4)
  have b12 := b1.trans (b2.mono b1.size)
  have b13 := b12.trans (b3.mono b12.size)
  have b23 := b2.trans (b3.mono b2.size)
  have b0 : Below w.heap.size w (w.alloc (.cells R 31)) := (Below.refl _ _).alloc (Nat.le_refl _) _
  have m0 : MarkM ((w.alloc (.cells R 31)).alloc (.map #[] 0)) (w.heap.size + 1) 0 := ⟨_, hm⟩
  exact ⟨blk_below h0 b13 (blk_lt h0), ⟨blk_below h2 b3 (blk_lt h2), ⟨true, h3⟩, m0.keep (b23.block _ m0.lt)⟩, b0.trans (b13.mono b0.size), by omega, by omega⟩
set_option maxRecDepth 100000 in
set_option maxHeartbeats 8000000 in
theorem names_any (b : BasinV) (p0 p1 p2 p3 p4 p5 p6 p7 : Option Addr) (q0 q1 q2 q3 q4 q5 q6 q7 : Nat) (w : World) (hS : BasinS b p0 p1 p2 p3 p4 p5 p6 p7 q0 q1 q2 q3 q4 q5 q6 q7 w) (hN : BasinLen b) : Calls Tryz.prog 22 #[.agg #[.string b.name, .slice p0 b.owners.length q0, .int .i64 b.cells, .slice p1 b.places.length q1, .slice p2 b.links.length q2, .slice p3 b.towns.length q3, .slice p4 b.gauges.length q4, .slice p5 b.roads.length q5, .slice p6 b.shelters.length q6, .slice p7 b.room.length q7, .int .i64 b.err]] w (RetT (True) w) := by
  have HS := Lib.hid hS
  obtain ⟨n0, n0', n1, n1', n2, n3, n4, n5, n6, n7⟩ := hN
  clear hS
  go_enter Tryz.func22, Tryz.ntmps22
  have hmm := @run_makeMap Tryz.prog
  go_upto_region 4 with fail
  clear hmm
  have HN0 := Lib.hid (names_start (w := w) (R := #[.string b.name, .slice p0 b.owners.length q0, .int .i64 b.cells, .slice p1 b.places.length q1, .slice p2 b.links.length q2, .slice p3 b.towns.length q3, .slice p4 b.gauges.length q4, .slice p5 b.roads.length q5, .slice p6 b.shelters.length q6, .slice p7 b.room.length q7, .int .i64 b.err]))
  generalize ((((w.alloc (.cells #[.string b.name, .slice p0 b.owners.length q0, .int .i64 b.cells, .slice p1 b.places.length q1, .slice p2 b.links.length q2, .slice p3 b.towns.length q3, .slice p4 b.gauges.length q4, .slice p5 b.roads.length q5, .slice p6 b.shelters.length q6, .slice p7 b.room.length q7, .int .i64 b.err] 31)).alloc (.map #[] 0)).alloc (.cells #[.map (some (w.heap.size + 1))] 99)).alloc (.cells #[.bool true] 4)) = w0 at *
  obtain ⟨mb, hmb⟩ : ∃ m, m = w.heap.size + 1 := ⟨_, rfl⟩
  obtain ⟨bc, hbc⟩ : ∃ m, m = w.heap.size + 1 + 1 := ⟨_, rfl⟩
  obtain ⟨bo, hbo⟩ : ∃ m, m = w.heap.size + 1 + 1 + 1 := ⟨_, rfl⟩
  rw [← hbo, ← hbc, ← hmb] at HN0
  have HD1 : Hid (bc ≠ mb) := Lib.hid (by omega)
  have HD2 : Hid (bo ≠ mb) := Lib.hid (by omega)
  have HD3 : Hid (bc ≠ bo) := Lib.hid (by omega)
  try rw [← hbo]
  try rw [← hbc]
  try rw [← hmb]
  clear hmb hbc hbo
  obtain ⟨R, hR⟩ : ∃ R : Array Value, R = #[.string b.name, .slice p0 b.owners.length q0, .int .i64 b.cells, .slice p1 b.places.length q1, .slice p2 b.links.length q2, .slice p3 b.towns.length q3, .slice p4 b.gauges.length q4, .slice p5 b.roads.length q5, .slice p6 b.shelters.length q6, .slice p7 b.room.length q7, .int .i64 b.err] := ⟨_, rfl⟩
  rw [← hR] at HN0
  have HF1 : Hid (R[1]? = some (.slice p0 b.owners.length q0)) := Lib.hid (by rw [hR]; rfl)
  have HF3 : Hid (R[3]? = some (.slice p1 b.places.length q1)) := Lib.hid (by rw [hR]; rfl)
  have HF4 : Hid (R[4]? = some (.slice p2 b.links.length q2)) := Lib.hid (by rw [hR]; rfl)
  have HF5 : Hid (R[5]? = some (.slice p3 b.towns.length q3)) := Lib.hid (by rw [hR]; rfl)
  have HF6 : Hid (R[6]? = some (.slice p4 b.gauges.length q4)) := Lib.hid (by rw [hR]; rfl)
  have HF7 : Hid (R[7]? = some (.slice p5 b.roads.length q5)) := Lib.hid (by rw [hR]; rfl)
  have HF8 : Hid (R[8]? = some (.slice p6 b.shelters.length q6)) := Lib.hid (by rw [hR]; rfl)
  clear hR
  have b1 := rowNG HN0.out.row 1 _ HF1.out
  go_wp2_with fail
  clear b1
  go_loopw [25] (fun iv wr => ∃ k : Nat, k ≤ b.owners.length ∧ iv = .int .i64 k ∧ NamesI w R mb bc bo wr (0 + k)) (fun iv _ => b.owners.length - (Go.RowKit.intOf iv).toNat)
  case atStart => exact ⟨0, Nat.zero_le _, rfl, HN0.out⟩
  case round =>
    obtain ⟨k, hk, rfl, hni⟩ := hrel
    have HNI := Lib.hid hni
    clear hni
    by_cases hlt : k < b.owners.length
    · obtain ⟨x, hx⟩ : ∃ x, b.owners[k]? = some x := ⟨_, List.getElem?_eq_getElem hlt⟩
      obtain ⟨g, o, cs, ha, hbl, -, hrg, hcs⟩ := (HS.out.below HNI.out.below).l0.at hx
      subst ha
      obtain ⟨rfl, hsz⟩ := hcs
      have c0 : wr.cell? ⟨g, o + k * 1, none⟩ = some (.string x) := hrg 0 _ rfl
      rw [Nat.mul_one] at c0
      have HSZ := Lib.hid hsz
      have HN3 := HNI
      clear hx hrg hsz
      go_wp2_with fail
      refine (check_any mb bc bo (0 + k) _ x wr HN3.out.ns HD1.out HD2.out HD3.out (by omega) (show (ByteArray.mk #[111, 119, 110, 101, 114]).size ≤ maxLen by unfold maxLen; decide) HSZ.out).mono ?_
      rintro e w4 ⟨rfl, hns, hkp⟩
      have HN4 := Lib.hid (HN3.out.step hns hkp)
      clear hns hkp HN3 HSZ c0
      go_wp2_with fail
      go_roundw
      case rel => exact ⟨k + 1, by omega, by go_num, HN4.out⟩
      case measure => simp [Go.RowKit.intOf]; omega
    · have b3 := rowNG HNI.out.row 3 _ HF3.out
      have HNJ := Lib.hid (HNI.out.mono (show 0 + k ≤ 16 + 0 by omega))
      clear HNI
      go_wp2_with fail
      clear b3
      go_loopw [36] (fun iv wr => ∃ k : Nat, k ≤ b.places.length ∧ iv = .int .i64 k ∧ NamesI w R mb bc bo wr (16 + k)) (fun iv _ => b.places.length - (Go.RowKit.intOf iv).toNat)
      case atStart => exact ⟨0, Nat.zero_le _, rfl, HNJ.out⟩
      case round =>
        obtain ⟨k, hk, rfl, hni⟩ := hrel
        have HNI := Lib.hid hni
        clear hni
        by_cases hlt : k < b.places.length
        · obtain ⟨x, hx⟩ : ∃ x, b.places[k]? = some x := ⟨_, List.getElem?_eq_getElem hlt⟩
          obtain ⟨g, o, cs, ha, hbl, -, hrg, hcs⟩ := (HS.out.below HNI.out.below).l1.at hx
          subst ha
          obtain ⟨v0, v1, v2, rfl, hsz, -, -, -, -, -, -, -, -, hv0, hv1, hv2⟩ := hcs
          obtain ⟨a0, n0, rfl, -, -⟩ := hv0.slice
          obtain ⟨a1, n1, rfl, -, -⟩ := hv1.slice
          obtain ⟨a2, n2, rfl, -, -⟩ := hv2.slice
          clear hv0 hv1 hv2
          have HSZ := Lib.hid hsz
          have HRG := Lib.hid hrg
          have HX3 := Lib.hid (heap_alloc_new wr (.cells #[.string x.name, .int .i64 x.kind, .int .i64 x.office, .int .i64 x.cap, .slice a0 x.level.length n0, .slice a1 x.start.length n1, .int .i64 x.num, .int .i64 x.den, .int .i64 x.down, .int .i64 x.delay, .int .i64 x.floor, .slice a2 x.rain.length n2] 68))
          have HN3 := Lib.hid (HNI.out.alloc (.cells #[.string x.name, .int .i64 x.kind, .int .i64 x.office, .int .i64 x.cap, .slice a0 x.level.length n0, .slice a1 x.start.length n1, .int .i64 x.num, .int .i64 x.den, .int .i64 x.down, .int .i64 x.delay, .int .i64 x.floor, .slice a2 x.rain.length n2] 68))
          clear hx hrg hsz
          go_upto_region 12 with (first | (refine wpList_load_rangeG (by rfl) 68 _ rfl _ _ rfl _ _ HRG.out undPl rfl infoPl ?_) | (refine wpList_store_row rfl 68 _ _ rfl wr.heap.size #[.string x.name, .int .i64 x.kind, .int .i64 x.office, .int .i64 x.cap, .slice a0 x.level.length n0, .slice a1 x.start.length n1, .int .i64 x.num, .int .i64 x.den, .int .i64 x.down, .int .i64 x.delay, .int .i64 x.floor, .slice a2 x.rain.length n2] rfl rfl 68 #[.string ⟨#[]⟩, .int .i64 0, .int .i64 0, .int .i64 0, .slice none 0 0, .slice none 0 0, .int .i64 0, .int .i64 0, .int .i64 0, .int .i64 0, .int .i64 0, .slice none 0 0] (heap_alloc_new wr (.cells #[.string ⟨#[]⟩, .int .i64 0, .int .i64 0, .int .i64 0, .slice none 0 0, .slice none 0 0, .int .i64 0, .int .i64 0, .int .i64 0, .int .i64 0, .int .i64 0, .slice none 0 0] 68)) infoPl rfl (by simp [Value.oneCell']) ?_))
          rw [World.setRow_alloc_new]
          generalize wr.alloc (.cells #[.string x.name, .int .i64 x.kind, .int .i64 x.office, .int .i64 x.cap, .slice a0 x.level.length n0, .slice a1 x.start.length n1, .int .i64 x.num, .int .i64 x.den, .int .i64 x.down, .int .i64 x.delay, .int .i64 x.floor, .slice a2 x.rain.length n2] 68) = w3 at *
          generalize wr.heap.size = bx at *
          have d0 := rowNG HX3.out 0 (.string x.name) rfl
          go_wp2_with fail
          refine (check_any mb bc bo (16 + k) _ x.name w3 HN3.out.ns HD1.out HD2.out HD3.out (by omega) (show (ByteArray.mk #[112, 108, 97, 99, 101]).size ≤ maxLen by unfold maxLen; decide) HSZ.out).mono ?_
          rintro e w4 ⟨rfl, hns, hkp⟩
          have HN4 := Lib.hid (HN3.out.step hns hkp)
          clear hns hkp HN3 HSZ d0 HX3
          go_wp2_with fail
          go_roundw
          case rel => exact ⟨k + 1, by omega, by go_num, HN4.out⟩
          case measure => simp [Go.RowKit.intOf]; omega
        · have b4 := rowNG HNI.out.row 4 _ HF4.out
          have HNJ := Lib.hid (HNI.out.mono (show 16 + k ≤ 80 + 0 by omega))
          clear HNI
          go_wp2_with fail
          clear b4
          go_loopw [48] (fun iv wr => ∃ k : Nat, k ≤ b.links.length ∧ iv = .int .i64 k ∧ NamesI w R mb bc bo wr (80 + k)) (fun iv _ => b.links.length - (Go.RowKit.intOf iv).toNat)
          case atStart => exact ⟨0, Nat.zero_le _, rfl, HNJ.out⟩
          case round =>
            obtain ⟨k, hk, rfl, hni⟩ := hrel
            have HNI := Lib.hid hni
            clear hni
            by_cases hlt : k < b.links.length
            · obtain ⟨x, hx⟩ : ∃ x, b.links[k]? = some x := ⟨_, List.getElem?_eq_getElem hlt⟩
              obtain ⟨g, o, cs, ha, hbl, -, hrg, hcs⟩ := (HS.out.below HNI.out.below).l2.at hx
              subst ha
              obtain ⟨v0, v1, v2, rfl, hsz, -, -, -, -, -, -, -, -, -, -, -, -, -, -, hv0, hv1, hv2⟩ := hcs
              obtain ⟨a0, n0, rfl, -, -⟩ := hv0.slice
              obtain ⟨a1, n1, rfl, -, -⟩ := hv1.slice
              obtain ⟨a2, n2, rfl, -, -⟩ := hv2.slice
              clear hv0 hv1 hv2
              have HSZ := Lib.hid hsz
              have HRG := Lib.hid hrg
              have HX3 := Lib.hid (heap_alloc_new wr (.cells #[.string x.name, .int .i64 x.kind, .int .i64 x.src, .int .i64 x.dst, .slice a0 x.rate.length n0, .slice a1 x.band.lo.length n1, .slice a2 x.band.hi.length n2, .int .i64 x.positions, .int .i64 x.speed, .int .i64 x.leak, .int .i64 x.crest, .int .i64 x.num, .int .i64 x.den, .int .i64 x.prime, .int .i64 x.brk, .int .i64 x.backNum, .int .i64 x.backDen, .int .i64 x.delay] 72))
              have HN3 := Lib.hid (HNI.out.alloc (.cells #[.string x.name, .int .i64 x.kind, .int .i64 x.src, .int .i64 x.dst, .slice a0 x.rate.length n0, .slice a1 x.band.lo.length n1, .slice a2 x.band.hi.length n2, .int .i64 x.positions, .int .i64 x.speed, .int .i64 x.leak, .int .i64 x.crest, .int .i64 x.num, .int .i64 x.den, .int .i64 x.prime, .int .i64 x.brk, .int .i64 x.backNum, .int .i64 x.backDen, .int .i64 x.delay] 72))
              clear hx hrg hsz
              go_upto_region 17 with (first | (refine wpList_load_rangeG (by rfl) 72 _ rfl _ _ rfl _ _ HRG.out undLk rfl infoLk ?_) | (refine wpList_store_row rfl 72 _ _ rfl wr.heap.size #[.string x.name, .int .i64 x.kind, .int .i64 x.src, .int .i64 x.dst, .slice a0 x.rate.length n0, .slice a1 x.band.lo.length n1, .slice a2 x.band.hi.length n2, .int .i64 x.positions, .int .i64 x.speed, .int .i64 x.leak, .int .i64 x.crest, .int .i64 x.num, .int .i64 x.den, .int .i64 x.prime, .int .i64 x.brk, .int .i64 x.backNum, .int .i64 x.backDen, .int .i64 x.delay] rfl rfl 72 #[.string ⟨#[]⟩, .int .i64 0, .int .i64 0, .int .i64 0, .slice none 0 0, .slice none 0 0, .slice none 0 0, .int .i64 0, .int .i64 0, .int .i64 0, .int .i64 0, .int .i64 0, .int .i64 0, .int .i64 0, .int .i64 0, .int .i64 0, .int .i64 0, .int .i64 0] (heap_alloc_new wr (.cells #[.string ⟨#[]⟩, .int .i64 0, .int .i64 0, .int .i64 0, .slice none 0 0, .slice none 0 0, .slice none 0 0, .int .i64 0, .int .i64 0, .int .i64 0, .int .i64 0, .int .i64 0, .int .i64 0, .int .i64 0, .int .i64 0, .int .i64 0, .int .i64 0, .int .i64 0] 72)) infoLk rfl (by simp [Value.oneCell']) ?_))
              rw [World.setRow_alloc_new]
              generalize wr.alloc (.cells #[.string x.name, .int .i64 x.kind, .int .i64 x.src, .int .i64 x.dst, .slice a0 x.rate.length n0, .slice a1 x.band.lo.length n1, .slice a2 x.band.hi.length n2, .int .i64 x.positions, .int .i64 x.speed, .int .i64 x.leak, .int .i64 x.crest, .int .i64 x.num, .int .i64 x.den, .int .i64 x.prime, .int .i64 x.brk, .int .i64 x.backNum, .int .i64 x.backDen, .int .i64 x.delay] 72) = w3 at *
              generalize wr.heap.size = bx at *
              have d0 := rowNG HX3.out 0 (.string x.name) rfl
              go_wp2_with fail
              refine (check_any mb bc bo (80 + k) _ x.name w3 HN3.out.ns HD1.out HD2.out HD3.out (by omega) (show (ByteArray.mk #[108, 105, 110, 107]).size ≤ maxLen by unfold maxLen; decide) HSZ.out).mono ?_
              rintro e w4 ⟨rfl, hns, hkp⟩
              have HN4 := Lib.hid (HN3.out.step hns hkp)
              clear hns hkp HN3 HSZ d0 HX3
              go_wp2_with fail
              go_roundw
              case rel => exact ⟨k + 1, by omega, by go_num, HN4.out⟩
              case measure => simp [Go.RowKit.intOf]; omega
            · have b5 := rowNG HNI.out.row 5 _ HF5.out
              have HNJ := Lib.hid (HNI.out.mono (show 80 + k ≤ 176 + 0 by omega))
              clear HNI
              go_wp2_with fail
              clear b5
              go_loopw [60] (fun iv wr => ∃ k : Nat, k ≤ b.towns.length ∧ iv = .int .i64 k ∧ NamesI w R mb bc bo wr (176 + k)) (fun iv _ => b.towns.length - (Go.RowKit.intOf iv).toNat)
              case atStart => exact ⟨0, Nat.zero_le _, rfl, HNJ.out⟩
              case round =>
                obtain ⟨k, hk, rfl, hni⟩ := hrel
                have HNI := Lib.hid hni
                clear hni
                by_cases hlt : k < b.towns.length
                · obtain ⟨x, hx⟩ : ∃ x, b.towns[k]? = some x := ⟨_, List.getElem?_eq_getElem hlt⟩
                  obtain ⟨g, o, cs, ha, hbl, -, hrg, hcs⟩ := (HS.out.below HNI.out.below).l3.at hx
                  subst ha
                  obtain ⟨rfl, hsz, -⟩ := hcs
                  have HSZ := Lib.hid hsz
                  have HRG := Lib.hid hrg
                  have HX3 := Lib.hid (heap_alloc_new wr (.cells #[.string x.name, .int .i64 x.place, .int .i64 x.flood, .int .i64 x.lead, .int .i64 x.people, .int .i64 x.watch, .int .i64 x.quorum] 103))
                  have HN3 := Lib.hid (HNI.out.alloc (.cells #[.string x.name, .int .i64 x.place, .int .i64 x.flood, .int .i64 x.lead, .int .i64 x.people, .int .i64 x.watch, .int .i64 x.quorum] 103))
                  clear hx hrg hsz
                  go_upto_region 22 with (refine wpList_load_rangeG (by rfl) 103 _ rfl _ _ rfl _ _ HRG.out undTn rfl infoTn ?_)
                  generalize wr.alloc (.cells #[.string x.name, .int .i64 x.place, .int .i64 x.flood, .int .i64 x.lead, .int .i64 x.people, .int .i64 x.watch, .int .i64 x.quorum] 103) = w3 at *
                  generalize wr.heap.size = bx at *
                  have d0 := rowNG HX3.out 0 (.string x.name) rfl
                  go_wp2_with fail
                  refine (check_any mb bc bo (176 + k) _ x.name w3 HN3.out.ns HD1.out HD2.out HD3.out (by omega) (show (ByteArray.mk #[116, 111, 119, 110]).size ≤ maxLen by unfold maxLen; decide) HSZ.out).mono ?_
                  rintro e w4 ⟨rfl, hns, hkp⟩
                  have HN4 := Lib.hid (HN3.out.step hns hkp)
                  clear hns hkp HN3 HSZ d0 HX3
                  go_wp2_with fail
                  go_roundw
                  case rel => exact ⟨k + 1, by omega, by go_num, HN4.out⟩
                  case measure => simp [Go.RowKit.intOf]; omega
                · have b8 := rowNG HNI.out.row 8 _ HF8.out
                  have HNJ := Lib.hid (HNI.out.mono (show 176 + k ≤ 216 + 0 by omega))
                  clear HNI
                  go_wp2_with fail
                  clear b8
                  go_loopw [72] (fun iv wr => ∃ k : Nat, k ≤ b.shelters.length ∧ iv = .int .i64 k ∧ NamesI w R mb bc bo wr (216 + k)) (fun iv _ => b.shelters.length - (Go.RowKit.intOf iv).toNat)
                  case atStart => exact ⟨0, Nat.zero_le _, rfl, HNJ.out⟩
                  case round =>
                    obtain ⟨k, hk, rfl, hni⟩ := hrel
                    have HNI := Lib.hid hni
                    clear hni
                    by_cases hlt : k < b.shelters.length
                    · obtain ⟨x, hx⟩ : ∃ x, b.shelters[k]? = some x := ⟨_, List.getElem?_eq_getElem hlt⟩
                      obtain ⟨g, o, cs, ha, hbl, -, hrg, hcs⟩ := (HS.out.below HNI.out.below).l6.at hx
                      subst ha
                      obtain ⟨rfl, hsz, -⟩ := hcs
                      have HSZ := Lib.hid hsz
                      have HRG := Lib.hid hrg
                      have HX3 := Lib.hid (heap_alloc_new wr (.cells #[.string x.name, .int .i64 x.room] 105))
                      have HN3 := Lib.hid (HNI.out.alloc (.cells #[.string x.name, .int .i64 x.room] 105))
                      clear hx hrg hsz
                      go_upto_region 27 with (refine wpList_load_rangeG (by rfl) 105 _ rfl _ _ rfl _ _ HRG.out undSh rfl infoSh ?_)
                      generalize wr.alloc (.cells #[.string x.name, .int .i64 x.room] 105) = w3 at *
                      generalize wr.heap.size = bx at *
                      have d0 := rowNG HX3.out 0 (.string x.name) rfl
                      go_wp2_with fail
                      refine (check_any mb bc bo (216 + k) _ x.name w3 HN3.out.ns HD1.out HD2.out HD3.out (by omega) (show (ByteArray.mk #[115, 104, 101, 108, 116, 101, 114]).size ≤ maxLen by unfold maxLen; decide) HSZ.out).mono ?_
                      rintro e w4 ⟨rfl, hns, hkp⟩
                      have HN4 := Lib.hid (HN3.out.step hns hkp)
                      clear hns hkp HN3 HSZ d0 HX3
                      go_wp2_with fail
                      go_roundw
                      case rel => exact ⟨k + 1, by omega, by go_num, HN4.out⟩
                      case measure => simp [Go.RowKit.intOf]; omega
                    · have b6 := rowNG HNI.out.row 6 _ HF6.out
                      have HNJ := Lib.hid (HNI.out.mono (show 216 + k ≤ 256 + 0 by omega))
                      clear HNI
                      go_wp2_with fail
                      clear b6
                      go_loopw [84] (fun iv wr => ∃ k : Nat, k ≤ b.gauges.length ∧ iv = .int .i64 k ∧ NamesI w R mb bc bo wr (256 + k)) (fun iv _ => b.gauges.length - (Go.RowKit.intOf iv).toNat)
                      case atStart => exact ⟨0, Nat.zero_le _, rfl, HNJ.out⟩
                      case round =>
                        obtain ⟨k, hk, rfl, hni⟩ := hrel
                        have HNI := Lib.hid hni
                        clear hni
                        by_cases hlt : k < b.gauges.length
                        · obtain ⟨x, hx⟩ : ∃ x, b.gauges[k]? = some x := ⟨_, List.getElem?_eq_getElem hlt⟩
                          obtain ⟨g, o, cs, ha, hbl, -, hrg, hcs⟩ := (HS.out.below HNI.out.below).l4.at hx
                          subst ha
                          obtain ⟨rfl, hsz, -⟩ := hcs
                          have HSZ := Lib.hid hsz
                          have HRG := Lib.hid hrg
                          have HX3 := Lib.hid (heap_alloc_new wr (.cells #[.string x.name, .int .i64 x.kind, .int .i64 x.target, .int .i64 x.err, .int .i64 x.drift] 107))
                          have HN3 := Lib.hid (HNI.out.alloc (.cells #[.string x.name, .int .i64 x.kind, .int .i64 x.target, .int .i64 x.err, .int .i64 x.drift] 107))
                          clear hx hrg hsz
                          go_upto_region 32 with (refine wpList_load_rangeG (by rfl) 107 _ rfl _ _ rfl _ _ HRG.out undGg rfl infoGg ?_)
                          generalize wr.alloc (.cells #[.string x.name, .int .i64 x.kind, .int .i64 x.target, .int .i64 x.err, .int .i64 x.drift] 107) = w3 at *
                          generalize wr.heap.size = bx at *
                          have d0 := rowNG HX3.out 0 (.string x.name) rfl
                          go_wp2_with fail
                          refine (check_any mb bc bo (256 + k) _ x.name w3 HN3.out.ns HD1.out HD2.out HD3.out (by omega) (show (ByteArray.mk #[103, 97, 117, 103, 101]).size ≤ maxLen by unfold maxLen; decide) HSZ.out).mono ?_
                          rintro e w4 ⟨rfl, hns, hkp⟩
                          have HN4 := Lib.hid (HN3.out.step hns hkp)
                          clear hns hkp HN3 HSZ d0 HX3
                          go_wp2_with fail
                          go_roundw
                          case rel => exact ⟨k + 1, by omega, by go_num, HN4.out⟩
                          case measure => simp [Go.RowKit.intOf]; omega
                        · have b7 := rowNG HNI.out.row 7 _ HF7.out
                          have HNJ := Lib.hid (HNI.out.mono (show 256 + k ≤ 384 + 0 by omega))
                          clear HNI
                          go_wp2_with fail
                          clear b7
                          go_loopw [96] (fun iv wr => ∃ k : Nat, k ≤ b.roads.length ∧ iv = .int .i64 k ∧ NamesI w R mb bc bo wr (384 + k)) (fun iv _ => b.roads.length - (Go.RowKit.intOf iv).toNat)
                          case atStart => exact ⟨0, Nat.zero_le _, rfl, HNJ.out⟩
                          case round =>
                            obtain ⟨k, hk, rfl, hni⟩ := hrel
                            have HNI := Lib.hid hni
                            clear hni
                            by_cases hlt : k < b.roads.length
                            · obtain ⟨x, hx⟩ : ∃ x, b.roads[k]? = some x := ⟨_, List.getElem?_eq_getElem hlt⟩
                              obtain ⟨g, o, cs, ha, hbl, -, hrg, hcs⟩ := (HS.out.below HNI.out.below).l5.at hx
                              subst ha
                              obtain ⟨rfl, hsz, -⟩ := hcs
                              have HSZ := Lib.hid hsz
                              have HRG := Lib.hid hrg
                              have HX3 := Lib.hid (heap_alloc_new wr (.cells #[.string x.name, .int .i64 x.src, .int .i64 x.dst, .int .i64 x.hours, .int .i64 x.flow, .int .i64 x.byp, .int .i64 x.limit] 109))
                              have HN3 := Lib.hid (HNI.out.alloc (.cells #[.string x.name, .int .i64 x.src, .int .i64 x.dst, .int .i64 x.hours, .int .i64 x.flow, .int .i64 x.byp, .int .i64 x.limit] 109))
                              clear hx hrg hsz
                              go_upto_region 37 with (refine wpList_load_rangeG (by rfl) 109 _ rfl _ _ rfl _ _ HRG.out undRo rfl infoRo ?_)
                              generalize wr.alloc (.cells #[.string x.name, .int .i64 x.src, .int .i64 x.dst, .int .i64 x.hours, .int .i64 x.flow, .int .i64 x.byp, .int .i64 x.limit] 109) = w3 at *
                              generalize wr.heap.size = bx at *
                              have d0 := rowNG HX3.out 0 (.string x.name) rfl
                              go_wp2_with fail
                              refine (check_any mb bc bo (384 + k) _ x.name w3 HN3.out.ns HD1.out HD2.out HD3.out (by omega) (show (ByteArray.mk #[114, 111, 97, 100]).size ≤ maxLen by unfold maxLen; decide) HSZ.out).mono ?_
                              rintro e w4 ⟨rfl, hns, hkp⟩
                              have HN4 := Lib.hid (HN3.out.step hns hkp)
                              clear hns hkp HN3 HSZ d0 HX3
                              go_wp2_with fail
                              go_roundw
                              case rel => exact ⟨k + 1, by omega, by go_num, HN4.out⟩
                              case measure => simp [Go.RowKit.intOf]; omega
                            · obtain ⟨ok, ho⟩ := HNI.out.ns.flag
                              have o0 := rowNG ho 0 (.bool ok) rfl
                              clear ho
                              go_wp2_with fail
                              go_ret
                              exact ⟨_, (fun _ => trivial), rfl, HNI.out.below⟩
end Go.Proofs.YtepidpegoihllaaGreatDoor

