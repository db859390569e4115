/- Wardens: Open. -/
import Derived.Test.YthijckdablkofaaDPost
import Derived.Test.YthijckdablkofaaDKeys
import Derived.Laws.AppendOwn
namespace Go.Proofs.Ythijckdablkofaa
open Go.RowKit Go.Maps
theorem owns_below {w w' : World} {base size n : Nat} {e : TypeId} {v : Value} {xs : List Value} (h : w.ownsRow base e size v n xs) (hb : Below w.heap.size w w') : w'.ownsRow base e size v n xs :=
  h.kept (row := none) ⟨hb.os, hb.tape, hb.output, hb.size, fun k hk _ => hb.block k hk⟩ (by cases v.ownBlock <;> simp)
theorem row_base {w : World} {base base' : Nat} {e : TypeId} {size n : Nat} {v : Value} {xs : List Value} (h : w.ownsRow base e size v n xs) (hb : base' ≤ base) : w.ownsRow base' e size v n xs :=
  ⟨h.1, h.2.imp id fun ⟨g, cap, cur, h1, h2, h3⟩ => ⟨g, cap, cur, h1, Nat.le_trans hb h2, h3⟩⟩
def intV (l : List Int) : List Value := l.map (Value.int .i64)
/-- v is a slice of the ints l, in a block that exists -/
def IArg (v : Value) (l : List Int) (w : World) : Prop :=
  ∃ a c, v = .slice a l.length c ∧ ∀ j x, l[j]? = some x → ∃ b, a = some ⟨b, 0, none⟩ ∧ b < w.heap.size ∧ w.cell? ⟨b, j, none⟩ = some (.int .i64 x)
theorem IArg.below {v : Value} {l : List Int} {w w' : World} (h : IArg v l w) (hb : Below w.heap.size w w') : IArg v l w' := by
  obtain ⟨a, c, rfl, h⟩ := h
  refine ⟨a, c, rfl, fun j x hj => ?_⟩
  obtain ⟨b, h1, h2, h3⟩ := h j x hj
  exact ⟨b, h1, Nat.lt_of_lt_of_le h2 hb.size, (hb.cell (p := ⟨b, j, none⟩) h2).trans h3⟩
theorem IArg.of_owns {w : World} {base n : Nat} {v : Value} {l : List Int} (h : w.ownsRow base 3 1 v n (intV l)) : IArg v l w := by
  have hn : n = l.length := by
    have := h.1
    unfold intV at this
    rw [List.length_map] at this
    omega
  subst hn
  rcases h.2 with ⟨rfl, h0⟩ | ⟨g, cap, cur, rfl, hg, hh, hnc, _, hcs, htk⟩
  · exact ⟨none, 0, by rw [h0], fun j x hj => by
      have := (List.getElem?_eq_some_iff.1 hj).1
      omega⟩
  · refine ⟨_, _, rfl, fun j x hj => ⟨g, rfl, blk_lt hh, ?_⟩⟩
    have h1 : (intV l)[j]? = some (.int .i64 x) := by
      unfold intV
      rw [List.getElem?_map, hj]
      rfl
    rw [← htk, List.getElem?_take] at h1
    split at h1
    · rw [cell_of_row _ _ _ _ _ _ hh, ← Array.getElem?_toList]
      exact h1
    · cases h1
theorem infoInt : (Try.prog.info? 3).map (fun i => (i.zero, i.size, i.bytes)) = some (some (.int .i64 0), 1, 8) := by kernel_rfl
theorem undIs : Try.prog.underlying 38 = some (.slice 3) := by kernel_rfl
theorem open_take {m : OM} {k : Nat} {p : Int × OV} (h : m[k]? = some p) : (openM (m.take (k + 1))).map (·.1) = (openM (m.take k)).map (·.1) ++ (if p.2.done then [] else [p.1]) := by
  unfold openM
  rw [List.take_add_one, h, List.filter_append, List.map_append]
  cases hd : p.2.done <;> simp [hd]
theorem open_len (m : OM) (k : Nat) : ((openM (m.take k)).map (·.1)).length ≤ k := by
  rw [List.length_map]
  unfold openM
  exact Nat.le_trans (List.length_filter_le _ _) (List.length_take_le _ _)
theorem field_done (a b c : Int) (d : Bool) (w : World) : (Instr.field 60 (.agg #[.int .i64 a, .int .i64 b, .int .i64 c, .bool d]) 3).run Try.prog w = .ok (.bool d) w := by kernel_rfl
theorem look_at {m : OM} (hs : SortedM m) {k : Nat} {p : Int × OV} (h : m[k]? = some p) : ordAt m p.1 = p.2 := by
  unfold ordAt
  rw [mem_get hs (List.mem_of_getElem? h)]
  rfl
set_option maxRecDepth 100000 in
set_option maxHeartbeats 4000000 in
theorem open_any (pb mb : Nat) (s : WS) (w : World) (hP : PAt w pb mb s) (hs : WOk s) :
    Calls Try.prog 21 #[.pointer (some ⟨pb, 0, none⟩)] w fun e w' => ∃ v, e = .returned v ∧ w'.ownsRow w.heap.size 3 1 v (openS s).length (intV (openS s)) ∧ Below w.heap.size w w' := by
  obtain ⟨i0, hi, hz0, hz1, hz2⟩ := info_parts infoInt
  have hfd := field_done
  have HP := Lib.hid hP
  have HS := Lib.hid hs
  have hl40 := m_len hs
  obtain ⟨c0, c1, c2⟩ := row3 hP.row
  clear hP hs
  go_enter Try.func21, Try.ntmps21
  go_wp2_with fail
  refine (keys_any mb _).mono ?_
  rintro e w1 ⟨rfl, rfl⟩
  clear c0 c1 c2
  go_wp2_with fail
  refine (sorted_any mb s.m w HP.out.map HS.out.sorted (by omega)).mono ?_
  rintro e w2 ⟨v, rfl, hown, hb⟩
  have HK : Hid (IArg v (s.m.map (·.1)) w2) := Lib.hid (IArg.of_owns (base := w.heap.size) (n := s.m.length) (by
    unfold intV
    rw [List.map_map]
    exact hown))
  have HB2 := Lib.hid hb
  obtain ⟨av, cv, rfl, _⟩ := HK.out
  have hml : (s.m.map (·.1)).length = s.m.length := List.length_map _
  have HML := Lib.hid hml
  rw [hml]
  clear hml hown hb
  go_wp2_with fail
  go_loopw [3, 13] (fun tv iv wr => ∃ k : Nat, k ≤ s.m.length ∧ iv = .int .i64 k ∧ wr.ownsRow w2.heap.size 3 1 tv ((openM (s.m.take k)).map (·.1)).length (intV ((openM (s.m.take k)).map (·.1))) ∧ Below w2.heap.size w2 wr) (fun _ iv _ => s.m.length - (intOf iv).toNat)
  case atStart => exact ⟨0, by omega, rfl, World.ownsRow_nil _ _ _ _, Below.refl _ _⟩
  case round =>
    obtain ⟨k, hk, rfl, hown, hB⟩ := hrel
    have HB := Lib.hid hB
    have HW := Lib.hid hown
    clear hB hown
    by_cases hlt : k < s.m.length
    · have H1 : Hid (s.m[k]? = some s.m[k]) := Lib.hid (List.getElem?_eq_getElem hlt)
      obtain ⟨a2, c2, he, hel⟩ := HK.out.below HB.out
      obtain ⟨b, ha, hb, hcell⟩ := hel k s.m[k].1 (by rw [List.getElem?_map, H1.out]; rfl)
      rw [HML.out] at he
      simp only [Value.slice.injEq] at he
      obtain ⟨rfl, _, rfl⟩ := he
      subst ha
      have hB0 := HB2.out.trans (HB.out.mono HB2.out.size)
      have hP2 := HP.out.below hB0
      have HBw := Lib.hid hB0
      have htn := HS.out.ok _ (List.mem_of_getElem? H1.out)
      have hlk := run_look hP2.map (t := s.m[k].1) (by unfold I64; omega)
      rw [look_at HS.out.sorted H1.out] at hlk
      unfold ordV at hlk
      obtain ⟨c0, c1, c2'⟩ := row3 hP2.row
      have HT := Lib.hid (open_take H1.out)
      have hol := open_len s.m k
      clear hel hB0 hP2 htn hb
      generalize s.m[k] = p at *
      obtain ⟨pt, ol, on, oh, od⟩ := p
      dsimp only at hcell hlk HT
      cases od with
      | true =>
        simp only [if_true, List.append_nil] at HT
        go_wp2_with fail
        go_roundw
        case rel => exact ⟨k + 1, by omega, by go_num, by rw [HT.out]; exact HW.out, HB.out⟩
        case measure => simp [intOf]; omega
      | false =>
        simp only [Bool.false_eq_true, if_false] at HT
        have hnew : ∀ j u, ([Value.int .i64 pt])[j]? = some u → (wr.alloc (.cells #[.int .i64 pt] 3)).cell? ((⟨wr.heap.size, 0, none⟩ : Addr).add j) = some u := fun j u hj => by
          rw [Addr.add_mid, Nat.zero_add, cell_of_row _ _ _ _ _ _ (heap_alloc_new wr (.cells #[.int .i64 pt] 3)), ← Array.getElem?_toList]
          exact hj
        have HW4 := Lib.hid (HW.out.alloc (.cells #[.int .i64 pt] 3))
        have HB4 := Lib.hid (HBw.out.alloc HBw.out.size (.cells #[.int .i64 pt] 3))
        go_wp2_with (at_builtin; refine Hid.out ?_)
        refine Lib.hid ?_
        refine wpList_append_own _ rfl _ _ 38 rfl w2.heap.size 3 i0 (.int .i64 0) 1 8 undIs hi hz0 hz1 hz2 rfl (by decide) _ ((openM (s.m.take k)).map fun p : Int × OV => p.1).length _ rfl HW4.out ⟨wr.heap.size, 0, none⟩ 1 1 [.int .i64 pt] rfl rfl hnew (by simp [Value.oneCell']) (by unfold maxLen; omega) (by omega) (HB.out.alloc HB.out.size (.cells #[.int .i64 pt] 3)).size ?_
        intro v' w4 hown4 hgr4 _
        have HW5 : Hid (w4.ownsRow w2.heap.size 3 1 v' ((openM (s.m.take (k + 1))).map (·.1)).length (intV ((openM (s.m.take (k + 1))).map (·.1)))) := Lib.hid (by
          rw [HT.out, List.length_append]
          unfold intV
          rw [List.map_append]
          exact hown4)
        have HB5 : Hid (Below w2.heap.size w2 w4) := Lib.hid ((HB.out.alloc HB.out.size (.cells #[.int .i64 pt] 3)).grown hgr4 (HB.out.alloc HB.out.size (.cells #[.int .i64 pt] 3)).size (fun q e => (HW4.out.lt q e).1))
        clear hown4 hgr4 hnew HW4 HB4
        go_wp2_with fail
        go_roundw
        case rel => exact ⟨k + 1, by omega, by go_num, HW5.out, HB5.out⟩
        case measure => simp [intOf]; omega
    · obtain rfl : k = s.m.length := by omega
      rw [List.take_length] at HW
      clear hlt hk
      go_wp2_with fail
      go_ret
      exact ⟨_, rfl, row_base HW.out HB2.out.size, HB2.out.trans (HB.out.mono HB2.out.size)⟩
end Go.Proofs.Ythijckdablkofaa
