/- strings.Builder: copyCheck and WriteByte on a builder that the call itself has made. -/
import Derived.Test.YtonhaoieeefglaaBytes
import Derived.Test.YtonhaoieeefglaaFShelf
import Derived.Lib.UnsafeStr
import Derived.Laws.Externs
namespace Go.Proofs.Ytonhaoieeefglaa
open Go.RowKit
theorem undBp : Try.prog.underlying 45 = some (.pointer 47) := by kernel_rfl
theorem undUp : Try.prog.underlying 55 = some .unsafePointer := by kernel_rfl
theorem infoBuilder : (Try.prog.info? 47).map (·.size) = some 2 := by kernel_rfl
theorem liesBuilder : liesAt Try.prog Try.prog.depth 47 (2 / Try.prog.cellsOf 47) 0 47 1 = true := by kernel_rfl
set_option maxHeartbeats 1000000 in
set_option maxRecDepth 100000 in
theorem copyCheck_used (b : Nat) (w : World) (h0 : w.cell? ⟨b, 0, none⟩ = some (.pointer (some ⟨b, 0, none⟩))) :
    Calls Try.prog 31 #[.pointer (some ⟨b, 0, none⟩)] w fun e w' => e = .returned (.tuple #[]) ∧ w' = w := by
  obtain ⟨j, hj, _⟩ := Option.map_eq_some_iff.1 infoBuilder
  go_enter Try.func31, Try.ntmps31
  go_wp2
  rw [Lib.run_neq_ptr_same w _ undBp hj]
  go_wp2
  go_end0
  exact ⟨rfl, rfl⟩
set_option maxHeartbeats 1000000 in
set_option maxRecDepth 100000 in
theorem copyCheck_fresh (b : Nat) (w : World) (h0 : w.cell? ⟨b, 0, none⟩ = some (.pointer none)) (hsh : w.shape? b = some (47, 2)) (hfz : w.frozen? ⟨b, 0, none⟩ = false) :
    Calls Try.prog 31 #[.pointer (some ⟨b, 0, none⟩)] w fun e w' => e = .returned (.tuple #[]) ∧ w' = w.setCell ⟨b, 0, none⟩ (.pointer (some ⟨b, 0, none⟩)) := by
  obtain ⟨j, hj, hjs⟩ := Option.map_eq_some_iff.1 infoBuilder
  go_enter Try.func31, Try.ntmps31
  go_wp2
  rw [Lib.run_to_unsafe w ⟨b, 0, none⟩ undBp undUp hj (by rw [hjs]; decide) hsh (Nat.zero_lt_succ 1)]
  simp only [Result.andThen]
  rw [Oper.upon_value]
  go_wp2
  rw [run_callFunc_extern Try.func33 (by kernel_rfl) (by kernel_rfl) (by kernel_rfl) (e := Extern.AbiNoEscape.same) (by kernel_rfl)]
  rw [Lib.run_noEscape]
  simp only [Result.andThen]
  rw [Oper.upon_value]
  go_wp2
  rw [Lib.run_from_unsafe w ⟨b, 0, none⟩ undUp undBp hj hsh liesBuilder]
  simp only [Result.andThen]
  rw [Oper.upon_value]
  go_wp2
  go_end0
  exact ⟨rfl, rfl⟩
theorem copyCheck_any (B b : Nat) (bs : List Value) (w : World) (h : Lib.IsBuilder 47 5 B b bs w) :
    Calls Try.prog 31 #[.pointer (some ⟨b, 0, none⟩)] w fun e w' => e = .returned (.tuple #[]) ∧ (Lib.BuilderAt 47 5 B b (.pointer (some ⟨b, 0, none⟩)) bs w' ∧ Below B w w') := by
  rcases h with h | h
  · refine (copyCheck_fresh b w h.cell0 h.shape h.frozen0).mono ?_
    rintro e w' ⟨rfl, rfl⟩
    exact ⟨rfl, h.used _, (Below.refl B w).setCell (p := ⟨b, 0, none⟩) h.1 _⟩
  · refine (copyCheck_used b w h.cell0).mono ?_
    rintro e w' ⟨rfl, rfl⟩
    exact ⟨rfl, h, Below.refl B _⟩
set_option maxHeartbeats 2000000 in
set_option maxRecDepth 100000 in
theorem writeByte_any (B b : Nat) (bs : List Value) (c : Int) (w : World) (h : Lib.IsBuilder 47 5 B b bs w) (hlen : bs.length + 1 ≤ 140737488355328) (hBw : B ≤ w.heap.size) :
    Calls Try.prog 23 #[.pointer (some ⟨b, 0, none⟩), .int .u8 c] w fun e w' => e = .returned .nilIface ∧ (Lib.BuilderAt 47 5 B b (.pointer (some ⟨b, 0, none⟩)) (bs ++ [.int .u8 c]) w' ∧ Below B w w') := by
  obtain ⟨i0, hi, hz0, hz1, hz2⟩ := info_parts infoB
  go_enter Try.func23, Try.ntmps23
  go_wp2_with fail
  refine (copyCheck_any B b bs _ h).mono ?_
  rintro e w1 ⟨rfl, h1, hb1⟩
  obtain ⟨hB, v, hbk, hown, hne⟩ := h1
  have c0 : w1.cell? ⟨b, 0, none⟩ = some (.pointer (some ⟨b, 0, none⟩)) := by rw [Lib.cell_of_heap hbk]; rfl
  have c1 : w1.cell? ⟨b, 1, none⟩ = some v := by rw [Lib.cell_of_heap hbk]; rfl
  go_wp2_with (at_builtin; refine wpList_append_own _ rfl _ _ 35 rfl B 5 i0 (.int .u8 0) 1 1 undBs hi hz0 hz1 hz2 rfl (by decide) _ _ _ rfl (hown.alloc _) ⟨w1.heap.size, 0, none⟩ 1 1 [.int .u8 c] rfl rfl ?c1 ?c2 ?c3 ?c4 ?c5 ?_)
  case c1 => exact cells_new _ _ _
  case c2 => intro u hu; simp at hu; subst hu; rfl
  case c3 => unfold maxLen; omega
  case c4 => omega
  case c5 => have := hb1.size; simp; omega
  intro v' w2 hown' hgrow _
  have hlt : b < w1.heap.size := blk_lt hbk
  have hb2 : w2.heap[b]? = some (.cells #[.pointer (some ⟨b, 0, none⟩), v] 47 (0, 0)) := by
    rw [hgrow.block b (by simp; omega) (fun e => hne e.symm), Lib.alloc_old w1 _ b hlt]
    exact hbk
  have d0 : w2.cell? ⟨b, 0, none⟩ = some (.pointer (some ⟨b, 0, none⟩)) := by rw [Lib.cell_of_heap hb2]; rfl
  have d1 : w2.cell? ⟨b, 1, none⟩ = some v := by rw [Lib.cell_of_heap hb2]; rfl
  have f1 : w2.frozen? ⟨b, 1, none⟩ = false := Lib.frozen_of_heap hb2 1
  obtain ⟨g, cap, rfl⟩ : ∃ g cap, v' = .slice (some ⟨g, 0, none⟩) (bs.length + 1) cap := by
    rcases hown'.2 with ⟨_, h0⟩ | ⟨g, cap, cur, hv, _⟩
    · omega
    · exact ⟨g, cap, hv⟩
  go_wp2
  go_ret
  refine ⟨rfl, ?_, ?_⟩
  · exact Lib.BuilderAt.put (T := 47) (e := 5) hB hb2 (bs' := bs ++ [.int .u8 c]) (by simpa using hown') (by decide)
  · exact ((hb1.alloc (by have := hb1.size; omega) _).grown hgrow (by have := hb1.size; simp; omega) (fun k hk => (hown.lt k hk).1)).setCell (p := ⟨b, 1, none⟩) hB _
/-- a byte as it is written into a frame -/
def escB (c : UInt8) : List UInt8 := if c = 126 then [125, 94] else if c = 125 then [125, 93] else [c]
def escL : List UInt8 → List UInt8
  | [] => []
  | c :: l => escB c ++ escL l
theorem escL_append (a b : List UInt8) : escL (a ++ b) = escL a ++ escL b := by
  induction a with
  | nil => rfl
  | cons x a ih => simp [escL, ih]
theorem escB_len (c : UInt8) : 1 ≤ (escB c).length ∧ (escB c).length ≤ 2 := by
  unfold escB
  split
  · simp
  · split <;> simp
theorem escL_len (l : List UInt8) : (escL l).length ≤ 2 * l.length := by
  induction l with
  | nil => simp [escL]
  | cons x l ih =>
    have := (escB_len x).2
    simp only [escL, List.length_append, List.length_cons]
    omega
theorem escL_take (l : List UInt8) (k : Nat) (h : k < l.length) : escL (l.take (k + 1)) = escL (l.take k) ++ escB l[k] := by
  rw [List.take_succ_eq_append_getElem h, escL_append]
  simp [escL]
theorem byteCells_append (a b : List UInt8) : Lib.byteCells (a ++ b) = Lib.byteCells a ++ Lib.byteCells b := List.map_append
set_option maxHeartbeats 2000000 in
set_option maxRecDepth 100000 in
theorem escaped_any (B b : Nat) (pre : List UInt8) (s : ByteArray) (w : World) (h : Lib.IsBuilder 47 5 B b (Lib.byteCells pre) w) (hlen : pre.length + 2 * s.size ≤ 1000000) (hBw : B ≤ w.heap.size) :
    Calls Try.prog 24 #[.pointer (some ⟨b, 0, none⟩), .string s] w fun e w' => e = .returned (.tuple #[]) ∧ Lib.IsBuilder 47 5 B b (Lib.byteCells (pre ++ escL s.data.toList)) w' ∧ Below B w w' := by
  go_enter Try.func24, Try.ntmps24
  have H := Lib.hid h
  clear h
  go_wp2_with fail
  go_loopw [7] (fun i wr => ∃ k : Nat, k ≤ s.size ∧ i = .int .i64 k ∧ Lib.IsBuilder 47 5 B b (Lib.byteCells (pre ++ escL (s.data.toList.take k))) wr ∧ Below B w wr) (fun i _ => s.size - (intOf i).toNat)
  case atStart => exact ⟨0, by omega, rfl, by simpa [escL] using H.out, Below.refl _ _⟩
  case round =>
    obtain ⟨k, hk, rfl, hI, hB⟩ := hrel
    have HI := Lib.hid hI
    have HB := Lib.hid hB
    clear hI hB H
    have hsz : B ≤ wr.heap.size := Nat.le_trans hBw HB.out.size
    by_cases hlt : k < s.size
    · have HT : Hid (escL (s.data.toList.take (k + 1)) = escL (s.data.toList.take k) ++ escB s[k]) := Lib.hid (escL_take _ k (by simpa using hlt))
      have HL : Hid ((Lib.byteCells (pre ++ escL (s.data.toList.take k))).length + 2 ≤ 2000000) := by
        refine Lib.hid ?_
        have h1 := escL_len (s.data.toList.take k)
        have h2 : (s.data.toList.take k).length ≤ k := List.length_take_le _ _
        simp only [Lib.byteCells, List.length_map, List.length_append]
        omega
      have hb := (s[k]).toNat_lt
      have HE : Hid (escB s[k] = if s[k] = 126 then [125, 94] else if s[k] = 125 then [125, 93] else [s[k]]) := rfl
      by_cases h1 : s[k].toNat = 126
      · have hc : s[k] = 126 := UInt8.toNat_inj.1 (by rw [h1]; rfl)
        rw [if_pos hc] at HE
        have e1 : ((s[k].toNat : Int) == 126) = true := beq_iff_eq.2 (by omega)
        clear h1
        go_wp2_with fail
        refine (writeByte_any B b _ 125 _ HI.out (by have := HL.out; omega) hsz).mono ?_
        rintro e w1 ⟨rfl, hI1, hB1⟩
        go_wp2_with fail
        refine (writeByte_any B b _ 94 _ (Or.inr hI1) (by have := HL.out; simp; omega) (Nat.le_trans hsz hB1.size)).mono ?_
        rintro e w2 ⟨rfl, hI2, hB2⟩
        have HI2 : Hid (Lib.IsBuilder 47 5 B b (Lib.byteCells (pre ++ escL (s.data.toList.take (k + 1)))) w2) := by
          refine Lib.hid (Or.inr ?_)
          rw [HT.out, HE.out, ← List.append_assoc, byteCells_append]
          simpa [Lib.byteCells] using hI2
        have HB2 : Hid (Below B w w2) := Lib.hid ((HB.out.trans hB1).trans hB2)
        clear hI1 hB1 hI2 hB2
        go_wp2_with fail
        go_roundw
        case rel => exact ⟨k + 1, by omega, by go_num, HI2.out, HB2.out⟩
        case measure => simp [intOf]; omega
      · have hc : ¬ s[k] = 126 := fun e => h1 (by rw [e]; rfl)
        rw [if_neg hc] at HE
        have e1 : ((s[k].toNat : Int) == 126) = false := beq_eq_false_iff_ne.2 (by omega)
        clear h1
        by_cases h1 : s[k].toNat = 125
        · have hc : s[k] = 125 := UInt8.toNat_inj.1 (by rw [h1]; rfl)
          rw [if_pos hc] at HE
          have e2 : ((s[k].toNat : Int) == 125) = true := beq_iff_eq.2 (by omega)
          clear h1
          go_wp2_with fail
          refine (writeByte_any B b _ 125 _ HI.out (by have := HL.out; omega) hsz).mono ?_
          rintro e w1 ⟨rfl, hI1, hB1⟩
          go_wp2_with fail
          refine (writeByte_any B b _ 93 _ (Or.inr hI1) (by have := HL.out; simp; omega) (Nat.le_trans hsz hB1.size)).mono ?_
          rintro e w2 ⟨rfl, hI2, hB2⟩
          have HI2 : Hid (Lib.IsBuilder 47 5 B b (Lib.byteCells (pre ++ escL (s.data.toList.take (k + 1)))) w2) := by
            refine Lib.hid (Or.inr ?_)
            rw [HT.out, HE.out, ← List.append_assoc, byteCells_append]
            simpa [Lib.byteCells] using hI2
          have HB2 : Hid (Below B w w2) := Lib.hid ((HB.out.trans hB1).trans hB2)
          clear hI1 hB1 hI2 hB2
          go_wp2_with fail
          go_roundw
          case rel => exact ⟨k + 1, by omega, by go_num, HI2.out, HB2.out⟩
          case measure => simp [intOf]; omega
        · have hc : ¬ s[k] = 125 := fun e => h1 (by rw [e]; rfl)
          rw [if_neg hc] at HE
          have e2 : ((s[k].toNat : Int) == 125) = false := beq_eq_false_iff_ne.2 (by omega)
          clear h1
          go_wp2_with fail
          refine (writeByte_any B b _ _ _ HI.out (by have := HL.out; omega) hsz).mono ?_
          rintro e w1 ⟨rfl, hI1, hB1⟩
          have HI2 : Hid (Lib.IsBuilder 47 5 B b (Lib.byteCells (pre ++ escL (s.data.toList.take (k + 1)))) w1) := by
            refine Lib.hid (Or.inr ?_)
            rw [HT.out, HE.out, ← List.append_assoc, byteCells_append]
            simpa [Lib.byteCells] using hI1
          have HB2 : Hid (Below B w w1) := Lib.hid (HB.out.trans hB1)
          clear hI1 hB1
          go_wp2_with fail
          go_roundw
          case rel => exact ⟨k + 1, by omega, by go_num, HI2.out, HB2.out⟩
          case measure => simp [intOf]; omega
    · obtain rfl : k = s.size := by omega
      clear hlt hk
      have ht : s.data.toList.take s.size = s.data.toList := List.take_of_length_le (by simp)
      rw [ht] at HI
      go_wp2_with fail
      go_end0
      exact ⟨rfl, HI.out, HB.out⟩
end Go.Proofs.Ytonhaoieeefglaa
