/- Texts merged: AFindC AFindD -/
import Derived.Test.YtjbjpkhibcnenaaGreatDoorAFindB
import Derived.Deep.DeepCutAuto
/- audit.Find: what a finder answers; store. -/
namespace Go.Proofs.YtjbjpkhibcnenaaGreatDoor
open Go.RowKit
theorem flatC_get : ∀ (l : List CV) (k : Nat) (x : CV), l[k]? = some x → ∀ j v, (cellsC x)[j]? = some v → (l.flatMap cellsC)[k * 8 + j]? = some v
  | [], k, x, h, _, _, _ => by simp at h
  | y :: l, 0, x, h, j, v, hj => by
    simp only [List.getElem?_cons_zero, Option.some.injEq] at h
    subst h
    have hl := (List.getElem?_eq_some_iff.1 hj).1
    rw [List.flatMap_cons, Nat.zero_mul, Nat.zero_add, List.getElem?_append_left hl, hj]
  | y :: l, k + 1, x, h, j, v, hj => by
    have h8 : (cellsC y).length = 8 := rfl
    rw [List.flatMap_cons, List.getElem?_append_right (by rw [h8]; omega), h8]
    have e : (k + 1) * 8 + j - 8 = k * 8 + j := by omega
    rw [e]
    exact flatC_get l k x (by simpa using h) j v hj
def CGood (c : CV) : Prop := COk c ∧ c.prev.size ≤ maxLen
theorem larg_rowC {w : World} {b : Nat} {l : List CV} (h : w.heap[b]? = some (.cells (l.flatMap cellsC).toArray 63 (0, 0))) (hx : ∀ x ∈ l, CGood x) (hl : l.length ≤ 1000) : LArg RC 8 (.slice (some ⟨b, 0, none⟩) l.length l.length) l w := by
  refine ⟨some ⟨b, 0, none⟩, l.length, rfl, Nat.le_refl _, by unfold maxLen; omega, fun j x hj => ⟨b, 0, cellsC x, rfl, blk_lt h, rfl, ?_, rfl, hx x (List.mem_of_getElem? hj)⟩⟩
  intro i u hi
  have h1 := cell_of_row _ _ (0 + j * 8 + i) _ _ _ h
  rw [← Array.getElem?_toList] at h1
  refine h1.trans ?_
  rw [Nat.zero_add]
  exact flatC_get l j x hj i u hi
theorem good_of {a : Option Addr} {n k : Nat} {L : List CV} {w : World} (h : LArg RC 8 (.slice a n k) L w) {c : CV} (hc : c ∈ L) : CGood c := by
  obtain ⟨j, hj⟩ := List.getElem?_of_mem hc
  obtain ⟨_, _, _, _, _, _, _, _, h2, h3⟩ := h.at hj
  exact ⟨h2, h3⟩
/-- what a finder answers -/
def RetF (r : Option BlV) (w : World) (e : Ending) (w' : World) : Prop :=
  (match r with | some x => ∃ v, e = .returned (.tuple #[.agg (cellsB x v).toArray, .bool true]) ∧ LArg RC 8 v x.claims w' ∧ (∃ b n k, v = .slice (some ⟨b, 0, none⟩) n k ∧ w.heap.size ≤ b) | none => e = .returned (.tuple #[.agg #[.int .i64 0, .int .i64 0, .slice none 0 0, .int .i64 0, .int .i64 0, .int .i64 0, .int .i64 0, .int .i64 0, .int .i64 0], .bool false])) ∧ Below w.heap.size w w'
theorem retF_none {r : Option BlV} {w w' : World} (h : r = none) (hb : Below w.heap.size w w') : RetF r w (.returned (.tuple #[.agg #[.int .i64 0, .int .i64 0, .slice none 0 0, .int .i64 0, .int .i64 0, .int .i64 0, .int .i64 0, .int .i64 0, .int .i64 0], .bool false])) w' := by subst h; exact ⟨rfl, hb⟩
theorem retF_some {r : Option BlV} {o why : Int} {l : List CV} {p : PV} {b n k : Nat} {w w' : World} (h : r = some ⟨o, why, l, p⟩) (hl : LArg RC 8 (.slice (some ⟨b, 0, none⟩) n k) l w') (hge : w.heap.size ≤ b) (hb : Below w.heap.size w w') : RetF r w (.returned (.tuple #[.agg #[.int .i64 o, .int .i64 why, .slice (some ⟨b, 0, none⟩) n k, .int .i64 p.office, .int .i64 p.since, .int .i64 p.till, .int .i64 p.litres, .int .i64 p.e, .int .i64 p.s], .bool true])) w' := by subst h; exact ⟨⟨_, rfl, hl, b, n, k, rfl, hge⟩, hb⟩
theorem larg_setRow {w : World} {g b n k : Nat} {l : List CV} (h : LArg RC 8 (.slice (some ⟨g, 0, none⟩) n k) l w) (hne : g ≠ b) (cs : Array Value) : LArg RC 8 (.slice (some ⟨g, 0, none⟩) n k) l (w.setRow b cs) := by
  obtain ⟨a, c, h1, h2, h3, h4⟩ := h
  refine ⟨a, c, h1, h2, h3, fun j x hj => ?_⟩
  obtain ⟨b2, o, cs2, e1, e2, e3, e4, e5⟩ := h4 j x hj
  simp only [Value.slice.injEq] at h1
  rw [e1] at h1
  simp only [Option.some.injEq, Addr.mk.injEq, and_true] at h1
  obtain ⟨⟨rfl, rfl⟩, -, -⟩ := h1
  refine ⟨_, _, cs2, e1, by simpa [World.setRow] using e2, e3, fun i v hi => ?_, e5⟩
  exact (World.cell?_of_block (setRow_other w b g cs hne)).trans (e4 i v hi)
theorem find_none {P : CV → Bool} {l : List CV} (h : ∀ (i : Nat) (x : CV), i < l.length → l[i]? = some x → P x = false) : l.find? P = none := by
  rw [List.find?_eq_none]
  intro x hx
  obtain ⟨i, hi⟩ := List.getElem?_of_mem hx
  rw [h i x (List.getElem?_eq_some_iff.1 hi).1 hi]
  decide
theorem find_found {P : CV → Bool} {l : List CV} {k : Nat} {c : CV} (h : ∀ (i : Nat) (x : CV), i < k → l[i]? = some x → P x = false) (hc : l[k]? = some c) (hP : P c = true) : l.find? P = some c := by
  have e1 : l = l.take k ++ c :: l.drop (k + 1) := by
    obtain ⟨hk, e⟩ := List.getElem?_eq_some_iff.1 hc
    rw [← e, List.getElem_cons_drop, List.take_append_drop]
  rw [e1, List.find?_append]
  have : (l.take k).find? P = none := find_none (fun i x hi hx => by
    rw [List.getElem?_take] at hx
    split at hx
    · exact h i x (by assumption) hx
    · cases hx)
  rw [this, List.find?_cons_of_pos hP]
  rfl
set_option maxRecDepth 100000 in
set_option maxHeartbeats 8000000 in
theorem store_any (jb mb : Nat) (ar ap : Option Addr) (cr cp : Nat) (err : Int) (room ps : List Int) (pubs : List PublicV) (sb j : Nat) (ao : Option Addr) (ko : Nat) (L : List CV) (last : Int) (w : World) (hJ : JudgeAt jb mb ar ap cr cp err room ps pubs w) (hS : SOf sb jb j ao ko L last w) :
    Calls Tryz.prog 26 #[.pointer (some ⟨sb, 0, none⟩), .int .i64 (j : Int)] w (RetF ((L.find? (rangeB (judgeV err room ps pubs))).map fun c => ⟨(j : Int), 2, [c], zeroP⟩) w) := by
  have HJd := Lib.hid hJ
  have HSO := Lib.hid hS
  have hj3 := hS.j3
  have hj3i : (j : Int) < 3 := by omega
  have hll := hS.ll
  have HR := Lib.hid ((RowsS.nil w).alloc (.cells #[.int .i64 0, .int .i64 0, .slice none 0 0, .int .i64 0, .int .i64 0, .int .i64 0, .int .i64 0, .int .i64 0, .int .i64 0] 40))
  clear hJ hS
  go_enter Tryz.func26, Tryz.ntmps26
  go_upto_region 1 with fail
  generalize w.alloc (.cells #[.int .i64 0, .int .i64 0, .slice none 0 0, .int .i64 0, .int .i64 0, .int .i64 0, .int .i64 0, .int .i64 0, .int .i64 0] 40) = w0 at *
  have hcj := (HSO.out.below HR.out.below).cj
  go_wp2_with fail
  clear hcj
  go_loopw [15] (fun iv wx => ∃ k : Nat, k ≤ L.length ∧ iv = .int .i64 k ∧ (∀ (i : Nat) (y : CV), i < k → L[i]? = some y → rangeB (judgeV err room ps pubs) y = false) ∧ RowsS w [(w.heap.size, .cells #[.int .i64 0, .int .i64 0, .slice none 0 0, .int .i64 0, .int .i64 0, .int .i64 0, .int .i64 0, .int .i64 0, .int .i64 0] 40)] wx) (fun iv _ => L.length - (Go.RowKit.intOf iv).toNat)
  case atStart => exact ⟨0, Nat.zero_le _, rfl, fun i x h => absurd h (Nat.not_lt_zero _), HR.out⟩
  case round =>
    obtain ⟨k, hk, rfl, hno, hr⟩ := hrel
    have HNO := Lib.hid hno
    have HR1 := Lib.hid hr
    clear hno hr HR
    by_cases hlt : k < L.length
    · obtain ⟨c, hc⟩ : ∃ c, L[k]? = some c := ⟨_, List.getElem?_eq_getElem hlt⟩
      obtain ⟨hcn, -, -, hco⟩ := HSO.out.hk c (List.mem_of_getElem? hc)
      have hcg := good_of HSO.out.l (List.mem_of_getElem? hc)
      obtain ⟨b, o, cs, rfl, hbl, -, hrg, hcs, -⟩ := HSO.out.l.at hc
      unfold cellsC at hcs
      subst hcs
      have HRG := Lib.hid (rangeAt_below hrg HR1.out.below hbl)
      have HC := Lib.hid hc
      have HCO := Lib.hid hco
      have HR2 := Lib.hid (HR1.out.alloc (.cells #[.int .i64 c.office, .int .i64 c.hour, .int .i64 c.inn, .int .i64 c.out, .int .i64 c.store, .string c.prev, .int .i64 c.e, .int .i64 c.s] 63))
      clear hc hrg HR1 hco
      go_upto_region 4 with (refine wpList_load_range (by first | (go_simp; done) | rfl) 63 _ rfl _ _ rfl _ _ HRG.out undCm rfl infoCm ?_)
      clear HRG
      generalize wr.alloc (.cells #[.int .i64 c.office, .int .i64 c.hour, .int .i64 c.inn, .int .i64 c.out, .int .i64 c.store, .string c.prev, .int .i64 c.e, .int .i64 c.s] 63) = w2 at *
      generalize wr.heap.size = bC at *
      refine wp_region_noPanic ?_
      refine wp_region_held_drew (S := fun cw => RowsS w [(w.heap.size, .cells #[.int .i64 0, .int .i64 0, .slice none 0 0, .int .i64 0, .int .i64 0, .int .i64 0, .int .i64 0, .int .i64 0, .int .i64 0] 40), (bC, .cells #[.int .i64 c.office, .int .i64 c.hour, .int .i64 c.inn, .int .i64 c.out, .int .i64 c.store, .string c.prev, .int .i64 c.e, .int .i64 c.s] 63)] cw) (by kernel_rfl) (HR2.out.drew) (fun hHeld => ?_)
      refine tn 0 ?_
      try simp only [Act.put, aL1, aL2, aL3]
      refine tn 1 ?_
      try simp only [Act.put, aL1, aL2, aL3]
      refine tn 2 ?_
      try simp only [Act.put, aL1, aL2, aL3]
      refine tn 3 ?_ (hx := fun wz hSw => by have e4 := (hSw.below.cell (p := ⟨sb, 0, none⟩) HSO.out.lt).trans HSO.out.c0; go_simp; try with_reducible rfl)
      try simp only [Act.put, aL1, aL2, aL3]
      refine tn 4 ?_ (hx := fun wz hSw => by refine exec_load_row 63 ?_ ?_ _ ?_ 63 _ _ _ (hSw.row 1 rfl) undCm rfl infoCm; rotate_left 1; exact rfl; exact rfl)
      try simp only [Act.put, aL1, aL2, aL3]
      cases hrb : rangeB (judgeV err room ps pubs) c with
      | true =>
        have HRa : Hid (∀ w0, Below w.heap.size w w0 → Calls Tryz.prog 54 #[.pointer (some ⟨jb, 0, none⟩), .agg #[.int .i64 c.office, .int .i64 c.hour, .int .i64 c.inn, .int .i64 c.out, .int .i64 c.store, .string c.prev, .int .i64 c.e, .int .i64 c.s]] w0 fun e w' => e = .returned (.bool true) ∧ Below w0.heap.size w0 w') := Lib.hid (fun w0 hb => by have h := range_any jb mb ar ap cr cp err room ps pubs (hoursF pubs) (kB ps) (vB ps) c j w0 (HJd.out.below hb) hj3 HCO.out hcn; rw [← HCO.out, show rangeB ⟨err, room, hoursF pubs, kB ps, vB ps⟩ c = true from hrb] at h; exact h)
        have HRB := Lib.hid hrb
        clear hrb
        refine rd1 5 (fun K hK => ?_)
        go_simp
        refine (HRa.out _ hHeld.below).mono ?_
        rintro e w' ⟨rfl, hb⟩
        refine hK.out _ _ (hHeld.step hb) (fun hHeld => ?_)
        clear hK K
        try simp only [Act.put, aL1, aL2, aL3]
        refine rdone (NoPanic.normal ?_)
        have HR3 := Lib.hid hHeld
        rename World => w3
        clear hHeld
        have HF := Lib.hid (find_found HNO.out HC.out HRB.out)
        have HR4 := Lib.hid (HR3.out.alloc (.cells #[.int .i64 c.office, .int .i64 c.hour, .int .i64 c.inn, .int .i64 c.out, .int .i64 c.store, .string c.prev, .int .i64 c.e, .int .i64 c.s] 63))
        go_wp2_with (refine wpList_load_rowW (by first | (go_simp; done) | rfl) 63 _ rfl _ rfl 63 _ _ _ (HR3.out.row 1 rfl) undCm rfl infoCm ?_)
        have HL1 : Hid (LArg RC 8 (.slice (some ⟨w3.heap.size, 0, none⟩) 1 1) [c] (w3.alloc (.cells #[.int .i64 c.office, .int .i64 c.hour, .int .i64 c.inn, .int .i64 c.out, .int .i64 c.store, .string c.prev, .int .i64 c.e, .int .i64 c.s] 63))) := Lib.hid (larg_rowC (l := [c]) (heap_alloc_new _ _) (by
          intro x hx
          simp only [List.mem_cons, List.not_mem_nil, or_false] at hx
          subst hx
          all_goals assumption) (by simp))
        have hgeb : w.heap.size ≤ w3.heap.size := HR3.out.below.size
        have hne : w3.heap.size ≠ w.heap.size := (Nat.ne_of_lt (blk_lt (HR3.out.row 0 rfl))).symm
        generalize (w3.alloc (.cells #[.int .i64 c.office, .int .i64 c.hour, .int .i64 c.inn, .int .i64 c.out, .int .i64 c.store, .string c.prev, .int .i64 c.e, .int .i64 c.s] 63)) = w6 at *
        generalize w3.heap.size = bs at *
        refine (proof_any (j : Int) 2 (some ⟨bs, 0, none⟩) 1 1 _).mono ?_
        rintro e w7 ⟨rfl, hb7⟩
        have HR7 := Lib.hid (HR4.out.step hb7)
        have HL7 := Lib.hid (HL1.out.below stays_RC hb7)
        clear hb7 HL1 HR4 HR3
        go_wp2_with (refine wpList_store_row rfl 40 _ _ rfl w.heap.size #[.int .i64 (j : Int), .int .i64 2, .slice (some ⟨bs, 0, none⟩) 1 1, .int .i64 0, .int .i64 0, .int .i64 0, .int .i64 0, .int .i64 0, .int .i64 0] rfl rfl 40 #[.int .i64 0, .int .i64 0, .slice none 0 0, .int .i64 0, .int .i64 0, .int .i64 0, .int .i64 0, .int .i64 0, .int .i64 0] (HR7.out.row 0 rfl) infoBl rfl (by simp [Value.oneCell']) ?_)
        have HRZ := Lib.hid (HR7.out.set (i := 0) (cs' := #[.int .i64 (j : Int), .int .i64 2, .slice (some ⟨bs, 0, none⟩) 1 1, .int .i64 0, .int .i64 0, .int .i64 0, .int .i64 0, .int .i64 0, .int .i64 0]) rfl)
        exact bodyPost_ret (v := .tuple #[.agg #[.int .i64 (j : Int), .int .i64 2, .slice (some ⟨bs, 0, none⟩) 1 1, .int .i64 0, .int .i64 0, .int .i64 0, .int .i64 0, .int .i64 0, .int .i64 0], .bool true]) (Eq.trans (results_row_tmp rfl _ _ w.heap.size 40 #[.int .i64 (j : Int), .int .i64 2, .slice (some ⟨bs, 0, none⟩) 1 1, .int .i64 0, .int .i64 0, .int .i64 0, .int .i64 0, .int .i64 0, .int .i64 0] (0, 0) _ rfl (HRZ.out.row 0 rfl) undBl rfl infoBl) rfl) rfl (retF_some (p := zeroP) (by rw [HF.out]; rfl) (larg_setRow HL7.out hne _) hgeb HRZ.out.below)
      | false =>
        have HRa : Hid (∀ w0, Below w.heap.size w w0 → Calls Tryz.prog 54 #[.pointer (some ⟨jb, 0, none⟩), .agg #[.int .i64 c.office, .int .i64 c.hour, .int .i64 c.inn, .int .i64 c.out, .int .i64 c.store, .string c.prev, .int .i64 c.e, .int .i64 c.s]] w0 fun e w' => e = .returned (.bool false) ∧ Below w0.heap.size w0 w') := Lib.hid (fun w0 hb => by have h := range_any jb mb ar ap cr cp err room ps pubs (hoursF pubs) (kB ps) (vB ps) c j w0 (HJd.out.below hb) hj3 HCO.out hcn; rw [← HCO.out, show rangeB ⟨err, room, hoursF pubs, kB ps, vB ps⟩ c = false from hrb] at h; exact h)
        have HRB := Lib.hid hrb
        clear hrb
        refine rd1 5 (fun K hK => ?_)
        go_simp
        refine (HRa.out _ hHeld.below).mono ?_
        rintro e w' ⟨rfl, hb⟩
        refine hK.out _ _ (hHeld.step hb) (fun hHeld => ?_)
        clear hK K
        try simp only [Act.put, aL1, aL2, aL3]
        refine rdone (NoPanic.normal ?_)
        have HR3 := Lib.hid (hHeld.take 1)
        clear hHeld
        have HN2 : Hid (∀ (i : Nat) (y : CV), i < k + 1 → L[i]? = some y → rangeB (judgeV err room ps pubs) y = false) := Lib.hid (fun i y hi hy => by
          by_cases e : i = k
          · subst e; rw [HC.out] at hy; cases hy; exact HRB.out
          · exact HNO.out i y (by omega) hy)
        go_wp2_with fail
        go_roundw
        case rel => exact ⟨k + 1, by omega, by go_num, HN2.out, HR3.out⟩
        case measure => simp [Go.RowKit.intOf]; omega
    · obtain rfl : k = L.length := by omega
      have HF := Lib.hid (find_none HNO.out)
      clear hlt hk
      go_wp2_with (refine wpList_store_row rfl 40 _ _ rfl w.heap.size #[.int .i64 0, .int .i64 0, .slice none 0 0, .int .i64 0, .int .i64 0, .int .i64 0, .int .i64 0, .int .i64 0, .int .i64 0] rfl rfl 40 #[.int .i64 0, .int .i64 0, .slice none 0 0, .int .i64 0, .int .i64 0, .int .i64 0, .int .i64 0, .int .i64 0, .int .i64 0] (HR1.out.row 0 rfl) infoBl rfl (by simp [Value.oneCell']) ?_)
      have HRZ := Lib.hid (HR1.out.set (i := 0) (cs' := #[.int .i64 0, .int .i64 0, .slice none 0 0, .int .i64 0, .int .i64 0, .int .i64 0, .int .i64 0, .int .i64 0, .int .i64 0]) rfl)
      exact bodyPost_ret (v := .tuple #[.agg #[.int .i64 0, .int .i64 0, .slice none 0 0, .int .i64 0, .int .i64 0, .int .i64 0, .int .i64 0, .int .i64 0, .int .i64 0], .bool false]) (Eq.trans (results_row_tmp rfl _ _ w.heap.size 40 #[.int .i64 0, .int .i64 0, .slice none 0 0, .int .i64 0, .int .i64 0, .int .i64 0, .int .i64 0, .int .i64 0, .int .i64 0] (0, 0) _ rfl (HRZ.out.row 0 rfl) undBl rfl infoBl) rfl) rfl (retF_none (by rw [HF.out]; rfl) HRZ.out.below)
end Go.Proofs.YtjbjpkhibcnenaaGreatDoor
/- audit.Find: outlet. -/
namespace Go.Proofs.YtjbjpkhibcnenaaGreatDoor
open Go.RowKit
set_option maxRecDepth 100000 in
set_option maxHeartbeats 8000000 in
theorem outlet_any (jb mb : Nat) (ar ap : Option Addr) (cr cp : Nat) (err : Int) (room ps : List Int) (pubs : List PublicV) (sb j : Nat) (ao : Option Addr) (ko : Nat) (L : List CV) (last : Int) (w : World) (hJ : JudgeAt jb mb ar ap cr cp err room ps pubs w) (hS : SOf sb jb j ao ko L last w) (hI : ∀ p ∈ pubs, PbI p) (hpl : pubs.length ≤ 1000) :
    Calls Tryz.prog 27 #[.pointer (some ⟨sb, 0, none⟩), .int .i64 (j : Int)] w (RetF (if (j : Int) = 2 then two (j : Int) 3 (first2 (laterB (hoursF pubs) mouthP (contrB err)) L L) else none) w) := by
  have HJd := Lib.hid hJ
  have HSO := Lib.hid hS
  have HR := Lib.hid ((RowsS.nil w).alloc (.cells #[.int .i64 0, .int .i64 0, .slice none 0 0, .int .i64 0, .int .i64 0, .int .i64 0, .int .i64 0, .int .i64 0, .int .i64 0] 40))
  have hs0 := ((HSO.out.below HR.out.below).c0)
  clear hJ hS
  by_cases hj2 : (j : Int) = 2
  · have q1 : ((j : Int) != 2) = false := by rw [bne_eq_false_iff_eq]; exact hj2
    have q2 : ((j : Int) == 2) = true := by rw [beq_iff_eq]; exact hj2
    have q3 : decide ((j : Int) = 2) = true := decide_eq_true hj2
    rw [if_pos hj2]
    clear hj2
    go_enter Tryz.func27, Tryz.ntmps27
    go_upto_region 1 with fail
    generalize w.alloc (.cells #[.int .i64 0, .int .i64 0, .slice none 0 0, .int .i64 0, .int .i64 0, .int .i64 0, .int .i64 0, .int .i64 0, .int .i64 0] 40) = w0 at *
    cases hf2 : first2 (laterB (hoursF pubs) mouthP (contrB err)) L L with
    | none =>
      have HLa : Hid (∀ w0, Below w.heap.size w w0 → Calls Tryz.prog 52 #[.pointer (some ⟨sb, 0, none⟩), .int .i64 (j : Int), .func (.func 55) #[] #[], .func (.func 56) #[.pointer (some ⟨jb, 0, none⟩)] #[]] w0 fun e w' => e = .returned (.tuple #[.agg #[.int .i64 0, .int .i64 0, .int .i64 0, .int .i64 0, .int .i64 0, .string ⟨#[]⟩, .int .i64 0, .int .i64 0], .agg #[.int .i64 0, .int .i64 0, .int .i64 0, .int .i64 0, .int .i64 0, .string ⟨#[]⟩, .int .i64 0, .int .i64 0], .bool false]) ∧ Below w0.heap.size w0 w') := Lib.hid (fun w0 hb => by have h := laterM_any jb mb ar ap cr cp err room ps pubs sb j ao ko L last w0 (HJd.out.below hb) (HSO.out.below hb) hI hpl; rw [hf2] at h; exact h)
      have HF : Hid (two (j : Int) 3 (first2 (laterB (hoursF pubs) mouthP (contrB err)) L L) = none) := Lib.hid (by rw [hf2]; rfl)
      clear hf2
      go_wp2_with fail
      refine (HLa.out _ HR.out.below).mono ?_
      rintro e w1 ⟨rfl, hb1⟩
      have HR1 := Lib.hid (HR.out.step hb1)
      have HR2 := Lib.hid ((HR1.out.alloc (.cells #[.int .i64 0, .int .i64 0, .int .i64 0, .int .i64 0, .int .i64 0, .string ⟨#[]⟩, .int .i64 0, .int .i64 0] 63)).alloc (.cells #[.int .i64 0, .int .i64 0, .int .i64 0, .int .i64 0, .int .i64 0, .string ⟨#[]⟩, .int .i64 0, .int .i64 0] 63))
      clear hb1 HR hs0
      go_upto_region 5 with fail
      generalize ((w1.alloc (.cells #[.int .i64 0, .int .i64 0, .int .i64 0, .int .i64 0, .int .i64 0, .string ⟨#[]⟩, .int .i64 0, .int .i64 0] 63)).alloc (.cells #[.int .i64 0, .int .i64 0, .int .i64 0, .int .i64 0, .int .i64 0, .string ⟨#[]⟩, .int .i64 0, .int .i64 0] 63)) = w2 at *
      go_wp2_with (refine wpList_store_row rfl 40 _ _ rfl w.heap.size #[.int .i64 0, .int .i64 0, .slice none 0 0, .int .i64 0, .int .i64 0, .int .i64 0, .int .i64 0, .int .i64 0, .int .i64 0] rfl rfl 40 #[.int .i64 0, .int .i64 0, .slice none 0 0, .int .i64 0, .int .i64 0, .int .i64 0, .int .i64 0, .int .i64 0, .int .i64 0] (HR2.out.row 0 rfl) infoBl rfl (by simp [Value.oneCell']) ?_)
      have HRZ := Lib.hid (HR2.out.set (i := 0) (cs' := #[.int .i64 0, .int .i64 0, .slice none 0 0, .int .i64 0, .int .i64 0, .int .i64 0, .int .i64 0, .int .i64 0, .int .i64 0]) rfl)
      exact bodyPost_ret (v := .tuple #[.agg #[.int .i64 0, .int .i64 0, .slice none 0 0, .int .i64 0, .int .i64 0, .int .i64 0, .int .i64 0, .int .i64 0, .int .i64 0], .bool false]) (Eq.trans (results_row_tmp rfl _ _ w.heap.size 40 #[.int .i64 0, .int .i64 0, .slice none 0 0, .int .i64 0, .int .i64 0, .int .i64 0, .int .i64 0, .int .i64 0, .int .i64 0] (0, 0) _ rfl (HRZ.out.row 0 rfl) undBl rfl infoBl) rfl) rfl (retF_none HF.out HRZ.out.below)
    | some x =>
      obtain ⟨c, d⟩ := x
      have HLa : Hid (∀ w0, Below w.heap.size w w0 → Calls Tryz.prog 52 #[.pointer (some ⟨sb, 0, none⟩), .int .i64 (j : Int), .func (.func 55) #[] #[], .func (.func 56) #[.pointer (some ⟨jb, 0, none⟩)] #[]] w0 fun e w' => e = .returned (.tuple #[.agg #[.int .i64 c.office, .int .i64 c.hour, .int .i64 c.inn, .int .i64 c.out, .int .i64 c.store, .string c.prev, .int .i64 c.e, .int .i64 c.s], .agg #[.int .i64 d.office, .int .i64 d.hour, .int .i64 d.inn, .int .i64 d.out, .int .i64 d.store, .string d.prev, .int .i64 d.e, .int .i64 d.s], .bool true]) ∧ Below w0.heap.size w0 w') := Lib.hid (fun w0 hb => by have h := laterM_any jb mb ar ap cr cp err room ps pubs sb j ao ko L last w0 (HJd.out.below hb) (HSO.out.below hb) hI hpl; rw [hf2] at h; exact h)
      have HF : Hid (two (j : Int) 3 (first2 (laterB (hoursF pubs) mouthP (contrB err)) L L) = some ⟨(j : Int), 3, [c, d], zeroP⟩) := Lib.hid (by rw [hf2]; rfl)
      obtain ⟨hcm, hdm, -⟩ := first2_some hf2
      have hcg := good_of HSO.out.l hcm
      have hdg := good_of HSO.out.l hdm
      clear hf2 hcm hdm
      go_wp2_with fail
      refine (HLa.out _ HR.out.below).mono ?_
      rintro e w1 ⟨rfl, hb1⟩
      have HR1 := Lib.hid (HR.out.step hb1)
      have s1 : (w1.alloc (.cells #[.int .i64 c.office, .int .i64 c.hour, .int .i64 c.inn, .int .i64 c.out, .int .i64 c.store, .string c.prev, .int .i64 c.e, .int .i64 c.s] 63)).heap.size = w1.heap.size + 1 := by simp
      have HR2 : Hid (RowsS w [(w.heap.size, .cells #[.int .i64 0, .int .i64 0, .slice none 0 0, .int .i64 0, .int .i64 0, .int .i64 0, .int .i64 0, .int .i64 0, .int .i64 0] 40), (w1.heap.size, .cells #[.int .i64 c.office, .int .i64 c.hour, .int .i64 c.inn, .int .i64 c.out, .int .i64 c.store, .string c.prev, .int .i64 c.e, .int .i64 c.s] 63), (w1.heap.size + 1, .cells #[.int .i64 d.office, .int .i64 d.hour, .int .i64 d.inn, .int .i64 d.out, .int .i64 d.store, .string d.prev, .int .i64 d.e, .int .i64 d.s] 63)] ((w1.alloc (.cells #[.int .i64 c.office, .int .i64 c.hour, .int .i64 c.inn, .int .i64 c.out, .int .i64 c.store, .string c.prev, .int .i64 c.e, .int .i64 c.s] 63)).alloc (.cells #[.int .i64 d.office, .int .i64 d.hour, .int .i64 d.inn, .int .i64 d.out, .int .i64 d.store, .string d.prev, .int .i64 d.e, .int .i64 d.s] 63))) := Lib.hid (by
        have := (HR1.out.alloc (.cells #[.int .i64 c.office, .int .i64 c.hour, .int .i64 c.inn, .int .i64 c.out, .int .i64 c.store, .string c.prev, .int .i64 c.e, .int .i64 c.s] 63)).alloc (.cells #[.int .i64 d.office, .int .i64 d.hour, .int .i64 d.inn, .int .i64 d.out, .int .i64 d.store, .string d.prev, .int .i64 d.e, .int .i64 d.s] 63)
        rw [s1] at this
        exact this)
      clear hb1 HR hs0 HR1 s1
      go_upto_region 6 with fail
      generalize ((w1.alloc (.cells #[.int .i64 c.office, .int .i64 c.hour, .int .i64 c.inn, .int .i64 c.out, .int .i64 c.store, .string c.prev, .int .i64 c.e, .int .i64 c.s] 63)).alloc (.cells #[.int .i64 d.office, .int .i64 d.hour, .int .i64 d.inn, .int .i64 d.out, .int .i64 d.store, .string d.prev, .int .i64 d.e, .int .i64 d.s] 63)) = w2 at *
      generalize w1.heap.size + 1 = bD at *
      generalize w1.heap.size = bC at *
      have HR4 := Lib.hid (HR2.out.alloc (.cells #[.int .i64 c.office, .int .i64 c.hour, .int .i64 c.inn, .int .i64 c.out, .int .i64 c.store, .string c.prev, .int .i64 c.e, .int .i64 c.s, .int .i64 d.office, .int .i64 d.hour, .int .i64 d.inn, .int .i64 d.out, .int .i64 d.store, .string d.prev, .int .i64 d.e, .int .i64 d.s] 63))
      go_wp2_with (first | (refine wpList_load_rowW (by first | (go_simp; done) | rfl) 63 _ rfl _ rfl 63 _ _ _ (HR2.out.row 1 rfl) undCm rfl infoCm ?_) | (refine wpList_load_rowW (by first | (go_simp; done) | rfl) 63 _ rfl _ rfl 63 _ _ _ (HR2.out.row 2 rfl) undCm rfl infoCm ?_))
      have HL1 : Hid (LArg RC 8 (.slice (some ⟨w2.heap.size, 0, none⟩) 2 2) [c, d] (w2.alloc (.cells #[.int .i64 c.office, .int .i64 c.hour, .int .i64 c.inn, .int .i64 c.out, .int .i64 c.store, .string c.prev, .int .i64 c.e, .int .i64 c.s, .int .i64 d.office, .int .i64 d.hour, .int .i64 d.inn, .int .i64 d.out, .int .i64 d.store, .string d.prev, .int .i64 d.e, .int .i64 d.s] 63))) := Lib.hid (larg_rowC (l := [c, d]) (heap_alloc_new _ _) (by
        intro x hx
        simp only [List.mem_cons, List.not_mem_nil, or_false] at hx
        rcases hx with rfl | rfl
        all_goals assumption) (by simp))
      have hgeb : w.heap.size ≤ w2.heap.size := HR2.out.below.size
      have hne : w2.heap.size ≠ w.heap.size := (Nat.ne_of_lt (blk_lt (HR2.out.row 0 rfl))).symm
      generalize (w2.alloc (.cells #[.int .i64 c.office, .int .i64 c.hour, .int .i64 c.inn, .int .i64 c.out, .int .i64 c.store, .string c.prev, .int .i64 c.e, .int .i64 c.s, .int .i64 d.office, .int .i64 d.hour, .int .i64 d.inn, .int .i64 d.out, .int .i64 d.store, .string d.prev, .int .i64 d.e, .int .i64 d.s] 63)) = w6 at *
      generalize w2.heap.size = bs at *
      refine (proof_any (j : Int) 3 (some ⟨bs, 0, none⟩) 2 2 _).mono ?_
      rintro e w7 ⟨rfl, hb7⟩
      have HR7 := Lib.hid (HR4.out.step hb7)
      have HL7 := Lib.hid (HL1.out.below stays_RC hb7)
      clear hb7 HL1 HR4 HR2
      go_wp2_with (refine wpList_store_row rfl 40 _ _ rfl w.heap.size #[.int .i64 (j : Int), .int .i64 3, .slice (some ⟨bs, 0, none⟩) 2 2, .int .i64 0, .int .i64 0, .int .i64 0, .int .i64 0, .int .i64 0, .int .i64 0] rfl rfl 40 #[.int .i64 0, .int .i64 0, .slice none 0 0, .int .i64 0, .int .i64 0, .int .i64 0, .int .i64 0, .int .i64 0, .int .i64 0] (HR7.out.row 0 rfl) infoBl rfl (by simp [Value.oneCell']) ?_)
      have HRZ := Lib.hid (HR7.out.set (i := 0) (cs' := #[.int .i64 (j : Int), .int .i64 3, .slice (some ⟨bs, 0, none⟩) 2 2, .int .i64 0, .int .i64 0, .int .i64 0, .int .i64 0, .int .i64 0, .int .i64 0]) rfl)
      exact bodyPost_ret (v := .tuple #[.agg #[.int .i64 (j : Int), .int .i64 3, .slice (some ⟨bs, 0, none⟩) 2 2, .int .i64 0, .int .i64 0, .int .i64 0, .int .i64 0, .int .i64 0, .int .i64 0], .bool true]) (Eq.trans (results_row_tmp rfl _ _ w.heap.size 40 #[.int .i64 (j : Int), .int .i64 3, .slice (some ⟨bs, 0, none⟩) 2 2, .int .i64 0, .int .i64 0, .int .i64 0, .int .i64 0, .int .i64 0, .int .i64 0] (0, 0) _ rfl (HRZ.out.row 0 rfl) undBl rfl infoBl) rfl) rfl (retF_some (p := zeroP) HF.out (larg_setRow HL7.out hne _) hgeb HRZ.out.below)
  · have q1 : ((j : Int) != 2) = true := by rw [bne_iff_ne]; exact hj2
    have q2 : ((j : Int) == 2) = false := by rw [beq_eq_false_iff_ne]; exact hj2
    have q3 : decide ((j : Int) = 2) = false := decide_eq_false hj2
    rw [if_neg hj2]
    clear hj2
    go_enter Tryz.func27, Tryz.ntmps27
    go_upto_region 1 with fail
    generalize w.alloc (.cells #[.int .i64 0, .int .i64 0, .slice none 0 0, .int .i64 0, .int .i64 0, .int .i64 0, .int .i64 0, .int .i64 0, .int .i64 0] 40) = w0 at *
    go_wp2_with (refine wpList_store_row rfl 40 _ _ rfl w.heap.size #[.int .i64 0, .int .i64 0, .slice none 0 0, .int .i64 0, .int .i64 0, .int .i64 0, .int .i64 0, .int .i64 0, .int .i64 0] rfl rfl 40 #[.int .i64 0, .int .i64 0, .slice none 0 0, .int .i64 0, .int .i64 0, .int .i64 0, .int .i64 0, .int .i64 0, .int .i64 0] (HR.out.row 0 rfl) infoBl rfl (by simp [Value.oneCell']) ?_)
    have HRZ := Lib.hid (HR.out.set (i := 0) (cs' := #[.int .i64 0, .int .i64 0, .slice none 0 0, .int .i64 0, .int .i64 0, .int .i64 0, .int .i64 0, .int .i64 0, .int .i64 0]) rfl)
    exact bodyPost_ret (v := .tuple #[.agg #[.int .i64 0, .int .i64 0, .slice none 0 0, .int .i64 0, .int .i64 0, .int .i64 0, .int .i64 0, .int .i64 0, .int .i64 0], .bool false]) (Eq.trans (results_row_tmp rfl _ _ w.heap.size 40 #[.int .i64 0, .int .i64 0, .slice none 0 0, .int .i64 0, .int .i64 0, .int .i64 0, .int .i64 0, .int .i64 0, .int .i64 0] (0, 0) _ rfl (HRZ.out.row 0 rfl) undBl rfl infoBl) rfl) rfl (retF_none rfl HRZ.out.below)
end Go.Proofs.YtjbjpkhibcnenaaGreatDoor
