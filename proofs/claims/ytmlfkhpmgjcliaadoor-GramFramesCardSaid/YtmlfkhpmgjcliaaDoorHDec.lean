/- frame.Decode returns the payloads and the rest that the plain functions decL and restL say, for streams of at most 100000 bytes. -/
import Derived.Test.YtmlfkhpmgjcliaaDoorHIter
import Derived.Test.YtmlfkhpmgjcliaaDoorHPay
import Derived.Lib.LastIndexByte
import Derived.RegionIn
namespace Go.Proofs.YtmlfkhpmgjcliaaDoor
open Go.RowKit Go.Shelf
attribute [local go_sem] Oper.semAt_some
/-- the payloads of a stream -/
def decL (l : List UInt8) : List (List UInt8) := (strL l).filterMap payOpt
/-- from the last flag on; nothing where there is none -/
def tailF : List UInt8 → List UInt8
  | [] => []
  | c :: l => if tailF l = [] then (if c = 126 then c :: l else []) else tailF l
def restL (l : List UInt8) : List UInt8 := if 2049 < (tailF l).length then [] else tailF l
theorem tailF_none : ∀ (l : List UInt8), ¬ (126 : UInt8) ∈ l → tailF l = []
  | [], _ => rfl
  | c :: l, h => by
    simp only [List.mem_cons, not_or] at h
    have ih := tailF_none l h.2
    simp only [tailF, ih, if_true]
    rw [if_neg (fun e => h.1 e.symm)]
theorem tailF_some : ∀ (a b : List UInt8), ¬ (126 : UInt8) ∈ b → tailF (a ++ 126 :: b) = 126 :: b
  | [], b, h => by simp [tailF, tailF_none b h]
  | c :: a, b, h => by
    have ih := tailF_some a b h
    simp [tailF, ih]
def strV (ls : List (List UInt8)) : List Value := ls.map fun l => Value.string ⟨l.toArray⟩
theorem strV_append (a b : List (List UInt8)) : strV (a ++ b) = strV a ++ strV b := List.map_append
theorem strV_length (a : List (List UInt8)) : (strV a).length = a.length := List.length_map _
theorem infoS : (Tryd.prog.info? 9).map (fun i => (i.zero, i.size, i.bytes)) = some (some (.string ⟨#[]⟩), 1, 16) := by kernel_rfl
theorem undSs : Tryd.prog.underlying 27 = some (.slice 9) := by kernel_rfl
def DecPost (l : List UInt8) (w : World) (e : Ending) (w' : World) : Prop :=
  ∃ v, e = .returned (.tuple #[v, .string ⟨(restL l).toArray⟩]) ∧ w'.ownsRow w.heap.size 9 1 v (decL l).length (strV (decL l)) ∧ Below w.heap.size w w'
/-- what has been collected from the stretches so far -/
def collL (pre : List ByteArray) : List (List UInt8) := (pre.map (fun x => x.data.toList)).filterMap payOpt
theorem collL_snoc_some {pre : List ByteArray} {x : ByteArray} {p : List UInt8} (h : payOpt x.data.toList = some p) : collL (pre ++ [x]) = collL pre ++ [p] := by
  simp [collL, h]
theorem collL_snoc_none {pre : List ByteArray} {x : ByteArray} (h : payOpt x.data.toList = none) : collL (pre ++ [x]) = collL pre := by
  simp [collL, h]
theorem collL_len (pre : List ByteArray) : (collL pre).length ≤ pre.length := by
  unfold collL
  exact Nat.le_trans (List.length_filterMap_le _ _) (by simp)
theorem byte_at (s : ByteArray) (j : Nat) (h : j < s.size) : s.data.toList[j]? = some s.data[j]! := by
  have h' : j < s.data.size := h
  rw [List.getElem?_eq_getElem (by simpa using h'), getElem!_pos s.data j h']
  rfl
theorem rest_none (s : ByteArray) (hno : ∀ j, j < s.size → ((s.data[j]!).toNat : Int) ≠ 126) : restL s.data.toList = [] := by
  have h : ¬ (126 : UInt8) ∈ s.data.toList := fun hm => by
    obtain ⟨j, hj⟩ := List.getElem?_of_mem hm
    have hlt : j < s.size := by have := (List.getElem?_eq_some_iff.1 hj).1; simpa using this
    rw [byte_at s j hlt] at hj
    refine hno j hlt ?_
    rw [Option.some.inj hj]
    rfl
  unfold restL
  rw [tailF_none _ h]
  rfl
theorem tail_at (s : ByteArray) (i : Nat) (hi : i < s.size) (hat : ((s.data[i]!).toNat : Int) = 126) (hno : ∀ j, i < j → j < s.size → ((s.data[j]!).toNat : Int) ≠ 126) : tailF s.data.toList = s.data.toList.drop i := by
  have h126 : s.data[i]! = 126 := UInt8.toNat_inj.1 (by have : (126 : UInt8).toNat = 126 := rfl; omega)
  have hb := byte_at s i hi
  rw [h126] at hb
  have hd := drop_at hb
  have h : ¬ (126 : UInt8) ∈ s.data.toList.drop (i + 1) := fun hm => by
    obtain ⟨j, hj⟩ := List.getElem?_of_mem hm
    rw [List.getElem?_drop] at hj
    have hlt : i + 1 + j < s.size := by have := (List.getElem?_eq_some_iff.1 hj).1; simpa using this
    rw [byte_at s _ hlt] at hj
    refine hno _ (by omega) hlt ?_
    rw [Option.some.inj hj]
    rfl
  rw [hd]
  conv => lhs; rw [← List.take_append_drop i s.data.toList, hd]
  exact tailF_some _ _ h
theorem row_ne {w : World} {base : Nat} {e : TypeId} {size n : Nat} {v : Value} {xs : List Value} (h : w.ownsRow base e size v n xs) (k : Nat) (hk : k < base) : some k ≠ v.ownBlock := fun e => by
  have := (h.lt k e.symm).1
  omega
theorem row_cells {w : World} {base : Nat} {e : TypeId} {size n : Nat} {v : Value} {xs : List Value} (h : w.ownsRow base e size v n xs) (j : Nat) (o : Obj) (he : v.ownBlock = some j) (ho : w.heap[j]? = some o) : o.isCells = true := by
  rcases h.2 with ⟨rfl, _⟩ | ⟨g, cap, cur, rfl, _, hgb, _⟩
  · simp [Value.ownBlock] at he
  · obtain rfl : g = j := by simpa [Value.ownBlock] using he
    rw [hgb] at ho
    cases ho
    rfl
theorem row_base {w : World} {base base' : Nat} {e : TypeId} {size n : Nat} {v : Value} {xs : List Value} (h : w.ownsRow base e size v n xs) (hb : base' ≤ base) : w.ownsRow base' e size v n xs :=
  ⟨h.1, h.2.imp id fun ⟨g, cap, cur, h1, h2, h3⟩ => ⟨g, cap, cur, h1, Nat.le_trans hb h2, h3⟩⟩
set_option maxRecDepth 100000 in
set_option maxHeartbeats 4000000 in
theorem decode_any (s : ByteArray) (w : World) (hs : s.size ≤ 100000) :
    Calls Tryd.prog 24 #[.string s] w (DecPost s.data.toList w) := by
  obtain ⟨i0, hi, hz0, hz1, hz2⟩ := info_parts infoS
  refine (callsIn_wide (n := 5)).1 ?_
  refine callsIn_of_wp_marks Tryd.func24 rfl trivial ?_ rfl
  simp only [Tryd.ntmps24, List.size_toArray, List.length_cons, List.length_nil, Nat.reduceAdd, Nat.reduceSub, Array.replicate_succ, Array.replicate_zero, List.push_toArray, List.append_toArray, List.nil_append, List.cons_append]
  gi_wp2_with (refine ⟨trivial, ?_⟩; gi_at_call 49; refine (callsIn_wide.2 (stretches_any _ _)).mono ?_; rintro e w' ⟨rfl, rfl⟩)
  have bO := Boxed.new w 27 (.slice none 0 0)
  have bN := Boxed.new (w.alloc (.cells #[.slice none 0 0] 27)) 9 (.string s)
  rw [World.size_alloc] at bN
  have hB0 : Below w.heap.size w ((w.alloc (.cells #[.slice none 0 0] 27)).alloc (.cells #[.string s] 9)) := ((Below.refl _ w).alloc (Nat.le_refl _) _).alloc (by simp) _
  refine wpIn_rangeFunc_ownG rfl (by decide) (gf := 63) (lb := #[.pointer (some ⟨w.heap.size + 1, 0, none⟩)]) rfl trivial (enters_of Tryd.func63 (by kernel_rfl) rfl)
    (stretches_stops (5 - 1) (by decide) (w.heap.size + 1) s hs _ (by simp) bN.cell) KB.trans (KB.back (by simp)) (Below.refl _ _) (fun _ => rfl)
    (fun pre W => (∃ v, Boxed W w.heap.size 27 v ∧ W.ownsRow (w.heap.size + 2) 9 1 v (collL pre).length (strV (collL pre)) ∧ True) ∧ Below w.heap.size w W ∧ Boxed W (w.heap.size + 1) 9 (.string s))
    (fun _ _ _ => False)
    (OwnFrom.and (Own.from (holdsRow_own (w.heap.size + 2) w.heap.size 27 9 1 (fun pre => (collL pre).length) (fun pre => strV (collL pre)) (fun _ _ => True)) _) (OwnFrom.and (ownFrom_below (Nat.le_refl _) (by simp; omega)) (Own.from (boxed_own _ _ _) _)))
    (fun _ _ _ _ _ hs _ _ => hs)
    ⟨⟨_, bO.alloc _, World.ownsRow_nil _ _ _ _, trivial⟩, hB0, bN⟩
    (fun x => { tmps := #[.string s, undef, .slice none 0 0, .string ⟨#[]⟩, .pointer (some ⟨w.heap.size, 0, none⟩), .string x, undef, undef, undef, .string s, .func (.func 63) #[] #[.pointer (some ⟨w.heap.size + 1, 0, none⟩)], .string x,
      undef, undef, undef, undef, undef, undef, undef, undef, undef, undef, undef, undef, undef, undef, undef, undef, undef, undef, undef, undef, undef, undef, undef, undef, undef, undef, undef], defers := [] }) ?assign ?body ?done ?stop
  case assign =>
    intro l x W K hK
    gi_wp2
    exact hK
  case body =>
    rintro l pre x W ⟨⟨v, hv, hrow, _⟩, hB, hN⟩ hlt
    have hcl := collL_len pre
    cases hp : payOpt x.data.toList with
    | none =>
      have HS := Lib.hid (collL_snoc_none (pre := pre) hp)
      have HP := Lib.hid hp
      have HV := Lib.hid hv
      have HR := Lib.hid hrow
      have HB := Lib.hid hB
      have HN := Lib.hid hN
      clear hp hv hrow hB hN
      gi_wp2_with (refine ⟨trivial, ?_⟩; gi_at_call 50; refine (CallsIn.inRound l (callsIn_wide.2 (payload_any _ _))).mono ?_)
      rintro e W1 ⟨q, rfl, _, hb⟩
      rw [HP.out, Option.isSome_none]
      have hg : W.grownBy W1 none := ⟨hb.os, hb.tape, hb.output, hb.size, fun k hk _ => hb.block k hk⟩
      gi_wp2
      refine ⟨(KeepsOthers.of_grownBy hg (fun j o e => by cases e)).from _, hb.block _ HN.out.lt, ⟨v, HV.out.kept hg (by simp), ?_, trivial⟩, HB.out.trans (hb.mono HB.out.size), HN.out.kept hg (by simp)⟩
      rw [HS.out]
      exact HR.out.kept hg (by cases v.ownBlock <;> simp)
    | some p =>
      have HS := Lib.hid (collL_snoc_some (pre := pre) hp)
      have HP := Lib.hid hp
      have HV := Lib.hid hv
      have HR := Lib.hid hrow
      have HB := Lib.hid hB
      have HN := Lib.hid hN
      have HCL : Hid ((collL pre).length + 1 ≤ 100002) := Lib.hid (by omega)
      clear hp hv hrow hB hN hcl
      gi_wp2_with (refine ⟨trivial, ?_⟩; gi_at_call 50; refine (CallsIn.inRound l (callsIn_wide.2 (payload_any _ _))).mono ?_)
      rintro e W1 ⟨q, rfl, hq, hb⟩
      obtain rfl := hq p HP.out
      rw [HP.out, Option.isSome_some]
      have hg : W.grownBy W1 none := ⟨hb.os, hb.tape, hb.output, hb.size, fun k hk _ => hb.block k hk⟩
      have hv1 := HV.out.kept hg (by simp)
      have hrow1 := HR.out.kept hg (by cases v.ownBlock <;> simp)
      have HV1 := Lib.hid hv1
      have HR1 := Lib.hid hrow1
      have HK1 := Lib.hid ((KeepsOthers.of_grownBy hg (fun j o e => by cases e)))
      have HB1 := Lib.hid (HB.out.trans (hb.mono HB.out.size))
      have HN1 := Lib.hid (HN.out.kept hg (by simp))
      have HKB := Lib.hid (hb.block _ HN.out.lt)
      have hc := hv1.cell
      clear hg hb hv1 hrow1 HV HR
      gi_wp2_with (gi_at_builtin; refine wpListIn_append_own _ rfl _ _ 27 rfl (w.heap.size + 2) 9 i0 (.string ⟨#[]⟩) 1 16 undSs hi hz0 hz1 hz2 rfl (by decide) _ _ _ rfl (HR1.out.alloc _) ⟨W1.heap.size, 0, none⟩ 1 1 [.string ⟨q.toArray⟩] rfl rfl (cell_one_new _ _ _) (by simp [Value.oneCell']) (by unfold maxLen; have := HCL.out; omega) (by have := HCL.out; omega) (by have := HN1.out.lt; simp; omega) ?_; intro v' w1 hown' hgrow _; obtain ⟨g', cap', rfl⟩ := ownsRow_succ hown'; have hnr := row_ne HR1.out; have hv1 := (HV1.out.alloc _).kept hgrow (hnr _ (by omega)); have hc1 := hv1.cell; have hf1 := hv1.frozen)
      have hn1 := (HN1.out.alloc _).kept hgrow (hnr _ (by omega))
      have hg2 : (w1.grownBy (w1.setCell ⟨w.heap.size, 0, none⟩ (.slice (some ⟨g', 0, none⟩) ((collL pre).length + 1) cap')) (some w.heap.size)) := grownBy_setCell' _ _ _
      have hsz : w.heap.size + 1 < W1.heap.size := HN1.out.lt
      refine ⟨((HK1.out.trans ((KeepsOthers.alloc _ _).trans (KeepsOthers.of_grownBy hgrow (row_cells (HR1.out.alloc _))))).trans (KeepsOthers.setCell _ _ _)).from _, ?_, ⟨_, hv1.set _, ?_, trivial⟩, ?_, hn1.kept hg2 (by simp)⟩
      · refine Eq.trans (hg2.block _ hn1.lt (by simp)) ?_
        exact Eq.trans (show w1.heap[w.heap.size + 1]? = _ from hn1) HN.out.symm
      · rw [HS.out, strV_append, List.length_append]
        exact hown'.kept hg2 (.inr (row_ne hown' _ (by omega)).symm)
      · exact ((HB1.out.alloc HB1.out.size _).grown hgrow (by simp; omega) (fun k e => by have := (HR1.out.lt k e).1; omega)).setCell (Nat.le_refl _) _
  case done =>
    rintro D ys W hD hS ⟨⟨v, hv, hrow, _⟩, hB, _⟩ hK
    have hc := hv.cell
    have HD : Hid (decL s.data.toList = collL ys) := Lib.hid (by unfold decL collL; rw [hS])
    have HR := Lib.hid hrow
    have HB := Lib.hid hB
    have HV := Lib.hid hv
    clear hS hrow hB hv
    rcases Lib.lastIdx_spec s 126 s.size with ⟨hl, hno⟩ | ⟨i, hi1, hl, hat, hno⟩
    · have HL : Hid (Lib.lastIndexByte s 126 = -1) := Lib.hid hl
      have HT : Hid (restL s.data.toList = []) := Lib.hid (rest_none s hno)
      clear hl hno
      gi_wp2_with (refine ⟨trivial, ?_⟩; gi_at_call 51; refine (callsIn_wide.2 (Tryd.strings_LastIndexByte _ _ (by omega) _)).mono ?_; rintro e w' ⟨rfl, rfl⟩; rw [HL.out])
      refine ⟨by simp, .inl ⟨_, _, rfl, run_takeDeferred hK, ?_⟩⟩
      exact ⟨_, results_tmp2 rfl _ _ _, v, by rw [HT.out]; rfl, by rw [HD.out]; exact row_base (ownsRow_putObj HR.out _ hK rfl) (by omega), HB.out.trans (belowK_b (w := w) (Nat.le_refl _) w' D _ _ (by simp at hD; omega) hK rfl rfl)⟩
    · have HL : Hid (Lib.lastIndexByte s 126 = (i : Int)) := Lib.hid hl
      have HT : Hid (tailF s.data.toList = s.data.toList.drop i) := Lib.hid (tail_at s i hi1 hat hno)
      clear hl hno hat
      by_cases hbig : 2048 < s.size - i - 1
      · have HT2 : Hid (restL s.data.toList = []) := Lib.hid (by unfold restL; rw [HT.out, if_pos (by rw [List.length_drop]; simp; omega)])
        gi_wp2_with (refine ⟨trivial, ?_⟩; gi_at_call 51; refine (callsIn_wide.2 (Tryd.strings_LastIndexByte _ _ (by omega) _)).mono ?_; rintro e w' ⟨rfl, rfl⟩; rw [HL.out])
        refine ⟨by simp, .inl ⟨_, _, rfl, run_takeDeferred hK, ?_⟩⟩
        exact ⟨_, results_tmp2 rfl _ _ _, v, by rw [HT2.out]; rfl, by rw [HD.out]; exact row_base (ownsRow_putObj HR.out _ hK rfl) (by omega), HB.out.trans (belowK_b (w := w) (Nat.le_refl _) w' D _ _ (by simp at hD; omega) hK rfl rfl)⟩
      · have HX : Hid ((⟨(restL s.data.toList).toArray⟩ : ByteArray) = s.extract i s.size) := by
          refine Lib.hid ?_
          have hd : (s.extract i s.size).data.toList = s.data.toList.drop i := by
            rw [Lib.extract_data]
            exact List.take_of_length_le (by simp)
          unfold restL
          rw [HT.out, if_neg (by rw [List.length_drop]; simp; omega), ← hd]
        gi_wp2_with (refine ⟨trivial, ?_⟩; gi_at_call 51; refine (callsIn_wide.2 (Tryd.strings_LastIndexByte _ _ (by omega) _)).mono ?_; rintro e w' ⟨rfl, rfl⟩; rw [HL.out])
        gi_region
        all_goals gi_wp2
        refine ⟨by simp, .inl ⟨_, _, rfl, run_takeDeferred (w := w'.drew) hK, ?_⟩⟩
        exact ⟨_, results_tmp2 rfl _ _ _, v, by rw [HX.out]; rfl, by rw [HD.out]; exact row_base (ownsRow_putObj (W := w'.drew) HR.out _ hK rfl) (by omega), HB.out.drew.trans (belowK_b (w := w) (Nat.le_refl _) w'.drew D _ _ (by simp at hD; omega) hK rfl rfl)⟩
  case stop =>
    rintro D c pre W _ _ h _
    exact h.elim
end Go.Proofs.YtmlfkhpmgjcliaaDoor
