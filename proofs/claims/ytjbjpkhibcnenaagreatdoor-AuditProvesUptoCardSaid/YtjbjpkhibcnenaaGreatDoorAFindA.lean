/- audit.Find: proof, boundary. -/
import Derived.Deep.DeepCutAuto
import Derived.Test.YtjbjpkhibcnenaaGreatDoorACheckC
namespace Go.Proofs.YtjbjpkhibcnenaaGreatDoor
open Go.RowKit
theorem results_rows_tmp {P : Program} {fn : Func} {p q u : Tmp} {ty : TypeId} (h : fn.results = #[.cell p ty, .cell q ty, .tmp u]) (tmps : Array Value) (w : World) (g g2 : Nat) (t t2 : TypeId) (cs cs2 : Array Value) (d : TypeDesc)
    (hp : tmps.getD p undef = .pointer (some ⟨g, 0, none⟩)) (hg : w.heap[g]? = some (.cells cs t (0, 0))) (hq : tmps.getD q undef = .pointer (some ⟨g2, 0, none⟩)) (hg2 : w.heap[g2]? = some (.cells cs2 t2 (0, 0)))
    (hu : P.underlying ty = some d) (hd : (match d with | .struct _ | .array _ _ => true | _ => false) = true) (hi : (P.info? ty).map (·.size) = some cs.size) (hi2 : (P.info? ty).map (·.size) = some cs2.size) :
    (results fn tmps).run P w = .ok (.tuple #[.agg cs, .agg cs2, tmps.getD u undef]) w := by
  have e : (results fn tmps).run P w = ((asAddr (tmps.getD p undef)).run P w).andThen fun a w1 => ((loadVar ty a).run P w1).andThen fun v w2 => ((asAddr (tmps.getD q undef)).run P w2).andThen fun a2 w3 => ((loadVar ty a2).run P w3).andThen fun v2 w4 => .ok (.tuple #[v, v2, tmps.getD u undef]) w4 := by
    simp only [results, h]
    simp [Sem.run_bind, Result.andThen]
  rw [e, hp, hq]
  simp [asAddr, run_loadVar_row w g t ty cs (0, 0) d hg hu hd hi, run_loadVar_row w g2 t2 ty cs2 (0, 0) d hg2 hu hd hi2]
theorem first2_found {P : CV → CV → Bool} {l m : List CV} {k j : Nat} {c d : CV} (h1 : ∀ (i : Nat) (x : CV), i < k → l[i]? = some x → ∀ y ∈ m, P x y = false) (hc : l[k]? = some c) (h2 : ∀ (i : Nat) (y : CV), i < j → m[i]? = some y → P c y = false) (hd : m[j]? = some d) (hP : P c d = true) : first2 P l m = some (c, d) := by
  have e1 : l = l.take k ++ c :: l.drop (k + 1) := by
    obtain ⟨hk, e⟩ := List.getElem?_eq_some_iff.1 hc
    rw [← e, List.getElem_cons_drop, List.take_append_drop]
  have e2 : m = m.take j ++ d :: m.drop (j + 1) := by
    obtain ⟨hk, e⟩ := List.getElem?_eq_some_iff.1 hd
    rw [← e, List.getElem_cons_drop, List.take_append_drop]
  have f2 : m.find? (P c) = some d := by
    rw [e2, List.find?_append]
    have : (m.take j).find? (P c) = none := by
      rw [List.find?_eq_none]
      intro y hy
      obtain ⟨i, hi⟩ := List.getElem?_of_mem hy
      rw [List.getElem?_take] at hi
      split at hi
      · rw [h2 i y (by assumption) hi]; decide
      · cases hi
    rw [this, List.find?_cons_of_pos hP]
    rfl
  unfold first2
  rw [e1, List.findSome?_append]
  have : (l.take k).findSome? (fun c => (m.find? (P c)).map fun d => (c, d)) = none := by
    rw [List.findSome?_eq_none_iff]
    intro x hx
    obtain ⟨i, hi⟩ := List.getElem?_of_mem hx
    rw [List.getElem?_take] at hi
    split at hi
    · have : m.find? (P x) = none := by
        rw [List.find?_eq_none]
        intro y hy
        rw [h1 i x (by assumption) hi y hy]
        decide
      rw [this]
      rfl
    · cases hi
  rw [this, List.findSome?_cons, f2]
  rfl
theorem first2_none {P : CV → CV → Bool} {l m : List CV} (h : ∀ (i : Nat) (x : CV), i < l.length → l[i]? = some x → ∀ y ∈ m, P x y = false) : first2 P l m = none := by
  unfold first2
  rw [List.findSome?_eq_none_iff]
  intro x hx
  obtain ⟨i, hi⟩ := List.getElem?_of_mem hx
  have : m.find? (P x) = none := by
    rw [List.find?_eq_none]
    intro y hy
    rw [h i x (List.getElem?_eq_some_iff.1 hi).1 hi y hy]
    decide
  rw [this]
  rfl
def aggC (c : CV) : Value := .agg #[.int .i64 c.office, .int .i64 c.hour, .int .i64 c.inn, .int .i64 c.out, .int .i64 c.store, .string c.prev, .int .i64 c.e, .int .i64 c.s]
/-- what boundary and later answer -/
def RetP (r : Option (CV × CV)) (w : World) (e : Ending) (w' : World) : Prop :=
  (match r with | some x => e = .returned (.tuple #[aggC x.1, aggC x.2, .bool true]) | none => e = .returned (.tuple #[aggC zeroC, aggC zeroC, .bool false])) ∧ Below w.heap.size w w'
theorem retP_some {r : Option (CV × CV)} {c d : CV} {w w' : World} (h : r = some (c, d)) (hb : Below w.heap.size w w') : RetP r w (.returned (.tuple #[.agg #[.int .i64 c.office, .int .i64 c.hour, .int .i64 c.inn, .int .i64 c.out, .int .i64 c.store, .string c.prev, .int .i64 c.e, .int .i64 c.s], .agg #[.int .i64 d.office, .int .i64 d.hour, .int .i64 d.inn, .int .i64 d.out, .int .i64 d.store, .string d.prev, .int .i64 d.e, .int .i64 d.s], .bool true])) w' := by subst h; exact ⟨rfl, hb⟩
theorem retP_none {r : Option (CV × CV)} {w w' : World} (h : r = none) (hb : Below w.heap.size w w') : RetP r w (.returned (.tuple #[.agg #[.int .i64 0, .int .i64 0, .int .i64 0, .int .i64 0, .int .i64 0, .string ⟨#[]⟩, .int .i64 0, .int .i64 0], .agg #[.int .i64 0, .int .i64 0, .int .i64 0, .int .i64 0, .int .i64 0, .string ⟨#[]⟩, .int .i64 0, .int .i64 0], .bool false])) w' := by subst h; exact ⟨rfl, hb⟩
set_option maxRecDepth 100000 in
set_option maxHeartbeats 4000000 in
theorem proof_any (o why : Int) (al : Option Addr) (n lc : Nat) (w : World) : Calls Tryz.prog 51 #[.int .i64 o, .int .i64 why, .slice al n lc] w fun e w' => e = .returned (.tuple #[.agg #[.int .i64 o, .int .i64 why, .slice al n lc, .int .i64 0, .int .i64 0, .int .i64 0, .int .i64 0, .int .i64 0, .int .i64 0], .bool true]) ∧ Below w.heap.size w w' := by
  have HR := Lib.hid ((RowsS.nil w).alloc (.cells #[.int .i64 0, .int .i64 0, .slice none 0 0, .int .i64 0, .int .i64 0, .int .i64 0, .int .i64 0, .int .i64 0, .int .i64 0] 40))
  go_enter Tryz.func51, Tryz.ntmps51
  go_upto_region 1 with fail
  generalize w.alloc (.cells #[.int .i64 0, .int .i64 0, .slice none 0 0, .int .i64 0, .int .i64 0, .int .i64 0, .int .i64 0, .int .i64 0, .int .i64 0] 40) = w0 at *
  go_wp2_with (refine wpList_store_row rfl 40 _ _ rfl w.heap.size #[.int .i64 o, .int .i64 why, .slice al n lc, .int .i64 0, .int .i64 0, .int .i64 0, .int .i64 0, .int .i64 0, .int .i64 0] rfl rfl 40 #[.int .i64 0, .int .i64 0, .slice none 0 0, .int .i64 0, .int .i64 0, .int .i64 0, .int .i64 0, .int .i64 0, .int .i64 0] (HR.out.row 0 rfl) infoBl rfl (by simp [Value.oneCell']) ?_)
  have HR1 := Lib.hid (HR.out.set (i := 0) (cs' := #[.int .i64 o, .int .i64 why, .slice al n lc, .int .i64 0, .int .i64 0, .int .i64 0, .int .i64 0, .int .i64 0, .int .i64 0]) rfl)
  exact bodyPost_ret (v := .tuple #[.agg #[.int .i64 o, .int .i64 why, .slice al n lc, .int .i64 0, .int .i64 0, .int .i64 0, .int .i64 0, .int .i64 0, .int .i64 0], .bool true]) (Eq.trans (results_row_tmp rfl _ _ w.heap.size 40 #[.int .i64 o, .int .i64 why, .slice al n lc, .int .i64 0, .int .i64 0, .int .i64 0, .int .i64 0, .int .i64 0, .int .i64 0] (0, 0) _ rfl (HR1.out.row 0 rfl) undBl rfl infoBl) rfl) rfl ⟨rfl, HR1.out.below⟩
set_option maxRecDepth 100000 in
set_option maxHeartbeats 8000000 in
theorem boundaryD_any (P : CV → CV → Bool) (l m : List CV) (vl vm : Value) (jb : Nat) (w : World) (hl : LArg RC 8 vl l w) (hm : LArg RC 8 vm m w) (hll : l.length ≤ 1000) (hml : m.length ≤ 1000) (hP : ∀ (w0 : World), Below w.heap.size w w0 → ∀ c ∈ l, ∀ d ∈ m, Calls Tryz.prog 58 #[.pointer (some ⟨jb, 0, none⟩), .agg #[.int .i64 c.office, .int .i64 c.hour, .int .i64 c.inn, .int .i64 c.out, .int .i64 c.store, .string c.prev, .int .i64 c.e, .int .i64 c.s], .agg #[.int .i64 d.office, .int .i64 d.hour, .int .i64 d.inn, .int .i64 d.out, .int .i64 d.store, .string d.prev, .int .i64 d.e, .int .i64 d.s]] w0 (RetB (P c d) w0)) :
    Calls Tryz.prog 57 #[vl, vm, .func (.func 58) #[.pointer (some ⟨jb, 0, none⟩)] #[]] w (RetP (first2 P l m) w) := by
  obtain ⟨al, lc, rfl, hlc, hlm⟩ := hl.slice
  obtain ⟨am, mc, rfl, hmc, hmm⟩ := hm.slice
  have HL := Lib.hid hl
  have HM := Lib.hid hm
  have HP := Lib.hid hP
  have s1 : (w.alloc (.cells #[.int .i64 0, .int .i64 0, .int .i64 0, .int .i64 0, .int .i64 0, .string ⟨#[]⟩, .int .i64 0, .int .i64 0] 63)).heap.size = w.heap.size + 1 := by simp
  have HR : Hid (RowsS w [(w.heap.size, .cells #[.int .i64 0, .int .i64 0, .int .i64 0, .int .i64 0, .int .i64 0, .string ⟨#[]⟩, .int .i64 0, .int .i64 0] 63), (w.heap.size + 1, .cells #[.int .i64 0, .int .i64 0, .int .i64 0, .int .i64 0, .int .i64 0, .string ⟨#[]⟩, .int .i64 0, .int .i64 0] 63)] ((w.alloc (.cells #[.int .i64 0, .int .i64 0, .int .i64 0, .int .i64 0, .int .i64 0, .string ⟨#[]⟩, .int .i64 0, .int .i64 0] 63)).alloc (.cells #[.int .i64 0, .int .i64 0, .int .i64 0, .int .i64 0, .int .i64 0, .string ⟨#[]⟩, .int .i64 0, .int .i64 0] 63))) := Lib.hid (by
    have := ((RowsS.nil w).alloc (.cells #[.int .i64 0, .int .i64 0, .int .i64 0, .int .i64 0, .int .i64 0, .string ⟨#[]⟩, .int .i64 0, .int .i64 0] 63)).alloc (.cells #[.int .i64 0, .int .i64 0, .int .i64 0, .int .i64 0, .int .i64 0, .string ⟨#[]⟩, .int .i64 0, .int .i64 0] 63)
    rw [s1] at this
    exact this)
  clear hl hm hP hlc hlm hmc hmm s1
  go_enter Tryz.func57, Tryz.ntmps57
  go_upto_region 1 with fail
  generalize ((w.alloc (.cells #[.int .i64 0, .int .i64 0, .int .i64 0, .int .i64 0, .int .i64 0, .string ⟨#[]⟩, .int .i64 0, .int .i64 0] 63)).alloc (.cells #[.int .i64 0, .int .i64 0, .int .i64 0, .int .i64 0, .int .i64 0, .string ⟨#[]⟩, .int .i64 0, .int .i64 0] 63)) = w0 at *
  go_wp2_with fail
  go_loopw [15] (fun iv wx => ∃ k : Nat, k ≤ l.length ∧ iv = .int .i64 k ∧ (∀ (i : Nat) (x : CV), i < k → l[i]? = some x → ∀ y ∈ m, P x y = false) ∧ RowsS w [(w.heap.size, .cells #[.int .i64 0, .int .i64 0, .int .i64 0, .int .i64 0, .int .i64 0, .string ⟨#[]⟩, .int .i64 0, .int .i64 0] 63), (w.heap.size + 1, .cells #[.int .i64 0, .int .i64 0, .int .i64 0, .int .i64 0, .int .i64 0, .string ⟨#[]⟩, .int .i64 0, .int .i64 0] 63)] wx) (fun iv _ => l.length - (Go.RowKit.intOf iv).toNat)
  case atStart => exact ⟨0, Nat.zero_le _, rfl, fun i x h => absurd h (Nat.not_lt_zero _), HR.out⟩
  case round =>
    obtain ⟨k, hk, rfl, hno, hr⟩ := hrel
    have HNO := Lib.hid hno
    have HR1 := Lib.hid hr
    clear hno hr HR
    by_cases hlt : k < l.length
    · obtain ⟨c, hc⟩ : ∃ c, l[k]? = some c := ⟨_, List.getElem?_eq_getElem hlt⟩
      obtain ⟨b, o, cs, rfl, hbl, -, hrg, hcs, -⟩ := HL.out.at hc
      unfold cellsC at hcs
      subst hcs
      have HRG := Lib.hid (rangeAt_below hrg HR1.out.below hbl)
      have HC := Lib.hid hc
      have HR2 := Lib.hid (HR1.out.alloc (.cells #[.int .i64 c.office, .int .i64 c.hour, .int .i64 c.inn, .int .i64 c.out, .int .i64 c.store, .string c.prev, .int .i64 c.e, .int .i64 c.s] 63))
      clear hc hrg HR1
      go_upto_region 4 with (refine wpList_load_range (by first | (go_simp; done) | rfl) 63 _ rfl _ _ rfl _ _ HRG.out undCm rfl infoCm ?_)
      clear HRG
      generalize wr.alloc (.cells #[.int .i64 c.office, .int .i64 c.hour, .int .i64 c.inn, .int .i64 c.out, .int .i64 c.store, .string c.prev, .int .i64 c.e, .int .i64 c.s] 63) = w2 at *
      generalize wr.heap.size = bC at *
      go_wp2_with fail
      go_loopw [21] (fun iv wx => ∃ j : Nat, j ≤ m.length ∧ iv = .int .i64 j ∧ (∀ (i : Nat) (y : CV), i < j → m[i]? = some y → P c y = false) ∧ RowsS w [(w.heap.size, .cells #[.int .i64 0, .int .i64 0, .int .i64 0, .int .i64 0, .int .i64 0, .string ⟨#[]⟩, .int .i64 0, .int .i64 0] 63), (w.heap.size + 1, .cells #[.int .i64 0, .int .i64 0, .int .i64 0, .int .i64 0, .int .i64 0, .string ⟨#[]⟩, .int .i64 0, .int .i64 0] 63), (bC, .cells #[.int .i64 c.office, .int .i64 c.hour, .int .i64 c.inn, .int .i64 c.out, .int .i64 c.store, .string c.prev, .int .i64 c.e, .int .i64 c.s] 63)] wx) (fun iv _ => m.length - (Go.RowKit.intOf iv).toNat)
      case atStart => exact ⟨0, Nat.zero_le _, rfl, fun i x h => absurd h (Nat.not_lt_zero _), HR2.out⟩
      case round =>
        obtain ⟨j, hj, rfl, hnd, hr⟩ := hrel
        have HND := Lib.hid hnd
        have HR3 := Lib.hid hr
        clear hnd hr HR2
        by_cases hlj : j < m.length
        · obtain ⟨d, hd⟩ : ∃ d, m[j]? = some d := ⟨_, List.getElem?_eq_getElem hlj⟩
          obtain ⟨b2, o2, cs, rfl, hbm, -, hrg, hcs, -⟩ := HM.out.at hd
          unfold cellsC at hcs
          subst hcs
          have HRG := Lib.hid (rangeAt_below hrg HR3.out.below hbm)
          have HD := Lib.hid hd
          have HR4 := Lib.hid (HR3.out.alloc (.cells #[.int .i64 d.office, .int .i64 d.hour, .int .i64 d.inn, .int .i64 d.out, .int .i64 d.store, .string d.prev, .int .i64 d.e, .int .i64 d.s] 63))
          have HPc := Lib.hid (HP.out _ HR4.out.below c (List.mem_of_getElem? HC.out) d (List.mem_of_getElem? hd))
          clear hd hrg HR3
          go_upto_region 7 with (refine wpList_load_range (by first | (go_simp; done) | rfl) 63 _ rfl _ _ rfl _ _ HRG.out undCm rfl infoCm ?_)
          clear HRG
          generalize wr.alloc (.cells #[.int .i64 d.office, .int .i64 d.hour, .int .i64 d.inn, .int .i64 d.out, .int .i64 d.store, .string d.prev, .int .i64 d.e, .int .i64 d.s] 63) = w3 at *
          generalize wr.heap.size = bD at *
          go_wp2_with (first | (refine wpList_load_rowW (by first | (go_simp; done) | rfl) 63 _ rfl _ rfl 63 _ _ _ (HR4.out.row 2 rfl) undCm rfl infoCm ?_) | (refine wpList_load_rowW (by first | (go_simp; done) | rfl) 63 _ rfl _ rfl 63 _ _ _ (HR4.out.row 3 rfl) undCm rfl infoCm ?_))
          refine HPc.out.mono ?_
          rintro e w4 ⟨rfl, hb4⟩
          have HR5 := Lib.hid (HR4.out.step hb4)
          clear hb4 HR4 HPc
          cases hpp : P c d with
          | true =>
            have HF := Lib.hid (first2_found HNO.out HC.out HND.out HD.out hpp)
            clear hpp
            go_upto_region 8 with fail
            obtain ⟨hRs, hZR, hgR, hnR⟩ := HR5.out.split
            obtain ⟨hRs, hZS, hgS, hnS⟩ := hRs.split
            have hnR : w.heap.size ∉ ([(bC, Obj.cells #[.int .i64 c.office, .int .i64 c.hour, .int .i64 c.inn, .int .i64 c.out, .int .i64 c.store, .string c.prev, .int .i64 c.e, .int .i64 c.s] 63), (bD, Obj.cells #[.int .i64 d.office, .int .i64 d.hour, .int .i64 d.inn, .int .i64 d.out, .int .i64 d.store, .string d.prev, .int .i64 d.e, .int .i64 d.s] 63)] : List (Nat × Obj)).map (·.1) := fun h => hnR (List.mem_cons_of_mem _ h)
            refine wp_region_noPanic ?_
            refine wp_region_held_drew (S := fun cw => RowsS w [(bC, .cells #[.int .i64 c.office, .int .i64 c.hour, .int .i64 c.inn, .int .i64 c.out, .int .i64 c.store, .string c.prev, .int .i64 c.e, .int .i64 c.s] 63), (bD, .cells #[.int .i64 d.office, .int .i64 d.hour, .int .i64 d.inn, .int .i64 d.out, .int .i64 d.store, .string d.prev, .int .i64 d.e, .int .i64 d.s] 63)] cw) (by kernel_rfl) (hRs.drew) (fun hHeld => ?_)
            refine tn 0 ?_ (hx := fun wz hSw => by refine exec_load_row 63 ?_ ?_ _ ?_ 63 _ _ _ (hSw.row 0 rfl) undCm rfl infoCm; rotate_left 1; exact rfl; exact rfl)
            try simp only [Act.put, aL1, aL2, aL3]
            refine tn 1 ?_ (hx := fun wz hSw => by refine exec_load_row 63 ?_ ?_ _ ?_ 63 _ _ _ (hSw.row 1 rfl) undCm rfl infoCm; rotate_left 1; exact rfl; exact rfl)
            try simp only [Act.put, aL1, aL2, aL3]
            refine rd1 2 (fun K hK => ?_)
            rw [if_pos (by rfl)]
            refine wp_store_row 63 _ _ rfl w.heap.size #[.int .i64 c.office, .int .i64 c.hour, .int .i64 c.inn, .int .i64 c.out, .int .i64 c.store, .string c.prev, .int .i64 c.e, .int .i64 c.s] rfl rfl 63 #[.int .i64 0, .int .i64 0, .int .i64 0, .int .i64 0, .int .i64 0, .string ⟨#[]⟩, .int .i64 0, .int .i64 0] hZR infoCm rfl (by simp [Value.oneCell']) ?_
            have hZS := (setRow_other _ w.heap.size (w.heap.size + 1) #[.int .i64 c.office, .int .i64 c.hour, .int .i64 c.inn, .int .i64 c.out, .int .i64 c.store, .string c.prev, .int .i64 c.e, .int .i64 c.s] (by omega)).trans hZS
            have hZR := setRow_heap _ _ _ #[.int .i64 c.office, .int .i64 c.hour, .int .i64 c.inn, .int .i64 c.out, .int .i64 c.store, .string c.prev, .int .i64 c.e, .int .i64 c.s] _ _ hZR
            refine hK.out _ _ (hHeld.setOther hgR hnR _) (fun hHeld => ?_)
            clear hK K
            try simp only [Act.put]
            refine rd1 3 (fun K hK => ?_)
            rw [if_pos (by rfl)]
            refine wp_store_row 63 _ _ rfl (w.heap.size + 1) #[.int .i64 d.office, .int .i64 d.hour, .int .i64 d.inn, .int .i64 d.out, .int .i64 d.store, .string d.prev, .int .i64 d.e, .int .i64 d.s] rfl rfl 63 #[.int .i64 0, .int .i64 0, .int .i64 0, .int .i64 0, .int .i64 0, .string ⟨#[]⟩, .int .i64 0, .int .i64 0] hZS infoCm rfl (by simp [Value.oneCell']) ?_
            have hZR := (setRow_other _ (w.heap.size + 1) w.heap.size #[.int .i64 d.office, .int .i64 d.hour, .int .i64 d.inn, .int .i64 d.out, .int .i64 d.store, .string d.prev, .int .i64 d.e, .int .i64 d.s] (by omega)).trans hZR
            have hZS := setRow_heap _ _ _ #[.int .i64 d.office, .int .i64 d.hour, .int .i64 d.inn, .int .i64 d.out, .int .i64 d.store, .string d.prev, .int .i64 d.e, .int .i64 d.s] _ _ hZS
            refine hK.out _ _ (hHeld.setOther hgS hnS _) (fun hHeld => ?_)
            clear hK K
            try simp only [Act.put]
            refine tn 4 ?_
            try simp only [Act.put, aL1, aL2, aL3]
            refine rdone (NoPanic.normal ?_)
            have HRF := Lib.hid ((hHeld.cons hZS hgS hnS).cons hZR hgR (fun h => (List.mem_cons.1 h).elim (fun e => absurd e (Nat.ne_of_lt (Nat.lt_succ_self _))) hnR))
            clear hHeld hZS hZR hgS hgR hnS hnR
            go_wp2_with fail
            exact bodyPost_ret (v := .tuple #[.agg #[.int .i64 c.office, .int .i64 c.hour, .int .i64 c.inn, .int .i64 c.out, .int .i64 c.store, .string c.prev, .int .i64 c.e, .int .i64 c.s], .agg #[.int .i64 d.office, .int .i64 d.hour, .int .i64 d.inn, .int .i64 d.out, .int .i64 d.store, .string d.prev, .int .i64 d.e, .int .i64 d.s], .bool true]) (Eq.trans (results_rows_tmp rfl _ _ w.heap.size (w.heap.size + 1) 63 63 #[.int .i64 c.office, .int .i64 c.hour, .int .i64 c.inn, .int .i64 c.out, .int .i64 c.store, .string c.prev, .int .i64 c.e, .int .i64 c.s] #[.int .i64 d.office, .int .i64 d.hour, .int .i64 d.inn, .int .i64 d.out, .int .i64 d.store, .string d.prev, .int .i64 d.e, .int .i64 d.s] _ rfl (HRF.out.row 0 rfl) rfl (HRF.out.row 1 rfl) undCm rfl infoCm infoCm) rfl) rfl (retP_some HF.out HRF.out.below)
          | false =>
            have HN2 : Hid (∀ (i : Nat) (y : CV), i < j + 1 → m[i]? = some y → P c y = false) := Lib.hid (fun i y hi hy => by
              by_cases e : i = j
              · subst e; rw [HD.out] at hy; cases hy; exact hpp
              · exact HND.out i y (by omega) hy)
            have HR6 := Lib.hid (HR5.out.take 3)
            clear hpp HR5
            go_wp2_with fail
            go_roundw
            case rel => exact ⟨j + 1, by omega, by go_num, HN2.out, HR6.out⟩
            case measure => simp [Go.RowKit.intOf]; omega
        · obtain rfl : j = m.length := by omega
          have HN2 : Hid (∀ (i : Nat) (x : CV), i < k + 1 → l[i]? = some x → ∀ y ∈ m, P x y = false) := Lib.hid (fun i x hi hx y hy => by
            by_cases e : i = k
            · subst e
              rw [HC.out] at hx
              cases hx
              obtain ⟨q, hq⟩ := List.getElem?_of_mem hy
              exact HND.out q y (List.getElem?_eq_some_iff.1 hq).1 hq
            · exact HNO.out i x (by omega) hx y hy)
          have HR6 := Lib.hid (HR3.out.take 2)
          clear HR3 hlj hj
          go_wp2_with fail
          go_roundw
          case rel => exact ⟨k + 1, by omega, by go_num, HN2.out, HR6.out⟩
          case measure => simp [Go.RowKit.intOf]; omega
    · obtain rfl : k = l.length := by omega
      have HF := Lib.hid (first2_none HNO.out)
      clear hlt hk
      go_wp2_with (first | (refine wpList_store_row rfl 63 _ _ rfl w.heap.size #[.int .i64 0, .int .i64 0, .int .i64 0, .int .i64 0, .int .i64 0, .string ⟨#[]⟩, .int .i64 0, .int .i64 0] rfl rfl 63 #[.int .i64 0, .int .i64 0, .int .i64 0, .int .i64 0, .int .i64 0, .string ⟨#[]⟩, .int .i64 0, .int .i64 0] (HR1.out.row 0 rfl) infoCm rfl (by simp [Value.oneCell']) ?_) | (refine wpList_store_row rfl 63 _ _ rfl (w.heap.size + 1) #[.int .i64 0, .int .i64 0, .int .i64 0, .int .i64 0, .int .i64 0, .string ⟨#[]⟩, .int .i64 0, .int .i64 0] rfl rfl 63 #[.int .i64 0, .int .i64 0, .int .i64 0, .int .i64 0, .int .i64 0, .string ⟨#[]⟩, .int .i64 0, .int .i64 0] ((HR1.out.set (i := 0) (cs' := #[.int .i64 0, .int .i64 0, .int .i64 0, .int .i64 0, .int .i64 0, .string ⟨#[]⟩, .int .i64 0, .int .i64 0]) rfl).row 1 rfl) infoCm rfl (by simp [Value.oneCell']) ?_))
      have HRZ := Lib.hid ((HR1.out.set (i := 0) (cs' := #[.int .i64 0, .int .i64 0, .int .i64 0, .int .i64 0, .int .i64 0, .string ⟨#[]⟩, .int .i64 0, .int .i64 0]) rfl).set (i := 1) (cs' := #[.int .i64 0, .int .i64 0, .int .i64 0, .int .i64 0, .int .i64 0, .string ⟨#[]⟩, .int .i64 0, .int .i64 0]) rfl)
      exact bodyPost_ret (v := .tuple #[.agg #[.int .i64 0, .int .i64 0, .int .i64 0, .int .i64 0, .int .i64 0, .string ⟨#[]⟩, .int .i64 0, .int .i64 0], .agg #[.int .i64 0, .int .i64 0, .int .i64 0, .int .i64 0, .int .i64 0, .string ⟨#[]⟩, .int .i64 0, .int .i64 0], .bool false]) (Eq.trans (results_rows_tmp rfl _ _ w.heap.size (w.heap.size + 1) 63 63 #[.int .i64 0, .int .i64 0, .int .i64 0, .int .i64 0, .int .i64 0, .string ⟨#[]⟩, .int .i64 0, .int .i64 0] #[.int .i64 0, .int .i64 0, .int .i64 0, .int .i64 0, .int .i64 0, .string ⟨#[]⟩, .int .i64 0, .int .i64 0] _ rfl (HRZ.out.row 0 rfl) rfl (HRZ.out.row 1 rfl) undCm rfl infoCm infoCm) rfl) rfl (retP_none HF.out HRZ.out.below)
set_option maxRecDepth 100000 in
set_option maxHeartbeats 8000000 in
theorem boundaryB_any (P : CV → CV → Bool) (l m : List CV) (vl vm : Value) (tb pb : Nat) (w : World) (hl : LArg RC 8 vl l w) (hm : LArg RC 8 vm m w) (hll : l.length ≤ 1000) (hml : m.length ≤ 1000) (hP : ∀ (w0 : World), Below w.heap.size w w0 → ∀ c ∈ l, ∀ d ∈ m, Calls Tryz.prog 59 #[.agg #[.int .i64 c.office, .int .i64 c.hour, .int .i64 c.inn, .int .i64 c.out, .int .i64 c.store, .string c.prev, .int .i64 c.e, .int .i64 c.s], .agg #[.int .i64 d.office, .int .i64 d.hour, .int .i64 d.inn, .int .i64 d.out, .int .i64 d.store, .string d.prev, .int .i64 d.e, .int .i64 d.s], .pointer (some ⟨tb, 0, none⟩), .pointer (some ⟨pb, 0, none⟩)] w0 (RetB (P c d) w0)) :
    Calls Tryz.prog 57 #[vl, vm, .func (.func 59) #[] #[.pointer (some ⟨tb, 0, none⟩), .pointer (some ⟨pb, 0, none⟩)]] w (RetP (first2 P l m) w) := by
  obtain ⟨al, lc, rfl, hlc, hlm⟩ := hl.slice
  obtain ⟨am, mc, rfl, hmc, hmm⟩ := hm.slice
  have HL := Lib.hid hl
  have HM := Lib.hid hm
  have HP := Lib.hid hP
  have s1 : (w.alloc (.cells #[.int .i64 0, .int .i64 0, .int .i64 0, .int .i64 0, .int .i64 0, .string ⟨#[]⟩, .int .i64 0, .int .i64 0] 63)).heap.size = w.heap.size + 1 := by simp
  have HR : Hid (RowsS w [(w.heap.size, .cells #[.int .i64 0, .int .i64 0, .int .i64 0, .int .i64 0, .int .i64 0, .string ⟨#[]⟩, .int .i64 0, .int .i64 0] 63), (w.heap.size + 1, .cells #[.int .i64 0, .int .i64 0, .int .i64 0, .int .i64 0, .int .i64 0, .string ⟨#[]⟩, .int .i64 0, .int .i64 0] 63)] ((w.alloc (.cells #[.int .i64 0, .int .i64 0, .int .i64 0, .int .i64 0, .int .i64 0, .string ⟨#[]⟩, .int .i64 0, .int .i64 0] 63)).alloc (.cells #[.int .i64 0, .int .i64 0, .int .i64 0, .int .i64 0, .int .i64 0, .string ⟨#[]⟩, .int .i64 0, .int .i64 0] 63))) := Lib.hid (by
    have := ((RowsS.nil w).alloc (.cells #[.int .i64 0, .int .i64 0, .int .i64 0, .int .i64 0, .int .i64 0, .string ⟨#[]⟩, .int .i64 0, .int .i64 0] 63)).alloc (.cells #[.int .i64 0, .int .i64 0, .int .i64 0, .int .i64 0, .int .i64 0, .string ⟨#[]⟩, .int .i64 0, .int .i64 0] 63)
    rw [s1] at this
    exact this)
  clear hl hm hP hlc hlm hmc hmm s1
  go_enter Tryz.func57, Tryz.ntmps57
  go_upto_region 1 with fail
  generalize ((w.alloc (.cells #[.int .i64 0, .int .i64 0, .int .i64 0, .int .i64 0, .int .i64 0, .string ⟨#[]⟩, .int .i64 0, .int .i64 0] 63)).alloc (.cells #[.int .i64 0, .int .i64 0, .int .i64 0, .int .i64 0, .int .i64 0, .string ⟨#[]⟩, .int .i64 0, .int .i64 0] 63)) = w0 at *
  go_wp2_with fail
  go_loopw [15] (fun iv wx => ∃ k : Nat, k ≤ l.length ∧ iv = .int .i64 k ∧ (∀ (i : Nat) (x : CV), i < k → l[i]? = some x → ∀ y ∈ m, P x y = false) ∧ RowsS w [(w.heap.size, .cells #[.int .i64 0, .int .i64 0, .int .i64 0, .int .i64 0, .int .i64 0, .string ⟨#[]⟩, .int .i64 0, .int .i64 0] 63), (w.heap.size + 1, .cells #[.int .i64 0, .int .i64 0, .int .i64 0, .int .i64 0, .int .i64 0, .string ⟨#[]⟩, .int .i64 0, .int .i64 0] 63)] wx) (fun iv _ => l.length - (Go.RowKit.intOf iv).toNat)
  case atStart => exact ⟨0, Nat.zero_le _, rfl, fun i x h => absurd h (Nat.not_lt_zero _), HR.out⟩
  case round =>
    obtain ⟨k, hk, rfl, hno, hr⟩ := hrel
    have HNO := Lib.hid hno
    have HR1 := Lib.hid hr
    clear hno hr HR
    by_cases hlt : k < l.length
    · obtain ⟨c, hc⟩ : ∃ c, l[k]? = some c := ⟨_, List.getElem?_eq_getElem hlt⟩
      obtain ⟨b, o, cs, rfl, hbl, -, hrg, hcs, -⟩ := HL.out.at hc
      unfold cellsC at hcs
      subst hcs
      have HRG := Lib.hid (rangeAt_below hrg HR1.out.below hbl)
      have HC := Lib.hid hc
      have HR2 := Lib.hid (HR1.out.alloc (.cells #[.int .i64 c.office, .int .i64 c.hour, .int .i64 c.inn, .int .i64 c.out, .int .i64 c.store, .string c.prev, .int .i64 c.e, .int .i64 c.s] 63))
      clear hc hrg HR1
      go_upto_region 4 with (refine wpList_load_range (by first | (go_simp; done) | rfl) 63 _ rfl _ _ rfl _ _ HRG.out undCm rfl infoCm ?_)
      clear HRG
      generalize wr.alloc (.cells #[.int .i64 c.office, .int .i64 c.hour, .int .i64 c.inn, .int .i64 c.out, .int .i64 c.store, .string c.prev, .int .i64 c.e, .int .i64 c.s] 63) = w2 at *
      generalize wr.heap.size = bC at *
      go_wp2_with fail
      go_loopw [21] (fun iv wx => ∃ j : Nat, j ≤ m.length ∧ iv = .int .i64 j ∧ (∀ (i : Nat) (y : CV), i < j → m[i]? = some y → P c y = false) ∧ RowsS w [(w.heap.size, .cells #[.int .i64 0, .int .i64 0, .int .i64 0, .int .i64 0, .int .i64 0, .string ⟨#[]⟩, .int .i64 0, .int .i64 0] 63), (w.heap.size + 1, .cells #[.int .i64 0, .int .i64 0, .int .i64 0, .int .i64 0, .int .i64 0, .string ⟨#[]⟩, .int .i64 0, .int .i64 0] 63), (bC, .cells #[.int .i64 c.office, .int .i64 c.hour, .int .i64 c.inn, .int .i64 c.out, .int .i64 c.store, .string c.prev, .int .i64 c.e, .int .i64 c.s] 63)] wx) (fun iv _ => m.length - (Go.RowKit.intOf iv).toNat)
      case atStart => exact ⟨0, Nat.zero_le _, rfl, fun i x h => absurd h (Nat.not_lt_zero _), HR2.out⟩
      case round =>
        obtain ⟨j, hj, rfl, hnd, hr⟩ := hrel
        have HND := Lib.hid hnd
        have HR3 := Lib.hid hr
        clear hnd hr HR2
        by_cases hlj : j < m.length
        · obtain ⟨d, hd⟩ : ∃ d, m[j]? = some d := ⟨_, List.getElem?_eq_getElem hlj⟩
          obtain ⟨b2, o2, cs, rfl, hbm, -, hrg, hcs, -⟩ := HM.out.at hd
          unfold cellsC at hcs
          subst hcs
          have HRG := Lib.hid (rangeAt_below hrg HR3.out.below hbm)
          have HD := Lib.hid hd
          have HR4 := Lib.hid (HR3.out.alloc (.cells #[.int .i64 d.office, .int .i64 d.hour, .int .i64 d.inn, .int .i64 d.out, .int .i64 d.store, .string d.prev, .int .i64 d.e, .int .i64 d.s] 63))
          have HPc := Lib.hid (HP.out _ HR4.out.below c (List.mem_of_getElem? HC.out) d (List.mem_of_getElem? hd))
          clear hd hrg HR3
          go_upto_region 7 with (refine wpList_load_range (by first | (go_simp; done) | rfl) 63 _ rfl _ _ rfl _ _ HRG.out undCm rfl infoCm ?_)
          clear HRG
          generalize wr.alloc (.cells #[.int .i64 d.office, .int .i64 d.hour, .int .i64 d.inn, .int .i64 d.out, .int .i64 d.store, .string d.prev, .int .i64 d.e, .int .i64 d.s] 63) = w3 at *
          generalize wr.heap.size = bD at *
          go_wp2_with (first | (refine wpList_load_rowW (by first | (go_simp; done) | rfl) 63 _ rfl _ rfl 63 _ _ _ (HR4.out.row 2 rfl) undCm rfl infoCm ?_) | (refine wpList_load_rowW (by first | (go_simp; done) | rfl) 63 _ rfl _ rfl 63 _ _ _ (HR4.out.row 3 rfl) undCm rfl infoCm ?_))
          refine HPc.out.mono ?_
          rintro e w4 ⟨rfl, hb4⟩
          have HR5 := Lib.hid (HR4.out.step hb4)
          clear hb4 HR4 HPc
          cases hpp : P c d with
          | true =>
            have HF := Lib.hid (first2_found HNO.out HC.out HND.out HD.out hpp)
            clear hpp
            go_upto_region 8 with fail
            obtain ⟨hRs, hZR, hgR, hnR⟩ := HR5.out.split
            obtain ⟨hRs, hZS, hgS, hnS⟩ := hRs.split
            have hnR : w.heap.size ∉ ([(bC, Obj.cells #[.int .i64 c.office, .int .i64 c.hour, .int .i64 c.inn, .int .i64 c.out, .int .i64 c.store, .string c.prev, .int .i64 c.e, .int .i64 c.s] 63), (bD, Obj.cells #[.int .i64 d.office, .int .i64 d.hour, .int .i64 d.inn, .int .i64 d.out, .int .i64 d.store, .string d.prev, .int .i64 d.e, .int .i64 d.s] 63)] : List (Nat × Obj)).map (·.1) := fun h => hnR (List.mem_cons_of_mem _ h)
            refine wp_region_noPanic ?_
            refine wp_region_held_drew (S := fun cw => RowsS w [(bC, .cells #[.int .i64 c.office, .int .i64 c.hour, .int .i64 c.inn, .int .i64 c.out, .int .i64 c.store, .string c.prev, .int .i64 c.e, .int .i64 c.s] 63), (bD, .cells #[.int .i64 d.office, .int .i64 d.hour, .int .i64 d.inn, .int .i64 d.out, .int .i64 d.store, .string d.prev, .int .i64 d.e, .int .i64 d.s] 63)] cw) (by kernel_rfl) (hRs.drew) (fun hHeld => ?_)
            refine tn 0 ?_ (hx := fun wz hSw => by refine exec_load_row 63 ?_ ?_ _ ?_ 63 _ _ _ (hSw.row 0 rfl) undCm rfl infoCm; rotate_left 1; exact rfl; exact rfl)
            try simp only [Act.put, aL1, aL2, aL3]
            refine tn 1 ?_ (hx := fun wz hSw => by refine exec_load_row 63 ?_ ?_ _ ?_ 63 _ _ _ (hSw.row 1 rfl) undCm rfl infoCm; rotate_left 1; exact rfl; exact rfl)
            try simp only [Act.put, aL1, aL2, aL3]
            refine rd1 2 (fun K hK => ?_)
            rw [if_pos (by rfl)]
            refine wp_store_row 63 _ _ rfl w.heap.size #[.int .i64 c.office, .int .i64 c.hour, .int .i64 c.inn, .int .i64 c.out, .int .i64 c.store, .string c.prev, .int .i64 c.e, .int .i64 c.s] rfl rfl 63 #[.int .i64 0, .int .i64 0, .int .i64 0, .int .i64 0, .int .i64 0, .string ⟨#[]⟩, .int .i64 0, .int .i64 0] hZR infoCm rfl (by simp [Value.oneCell']) ?_
            have hZS := (setRow_other _ w.heap.size (w.heap.size + 1) #[.int .i64 c.office, .int .i64 c.hour, .int .i64 c.inn, .int .i64 c.out, .int .i64 c.store, .string c.prev, .int .i64 c.e, .int .i64 c.s] (by omega)).trans hZS
            have hZR := setRow_heap _ _ _ #[.int .i64 c.office, .int .i64 c.hour, .int .i64 c.inn, .int .i64 c.out, .int .i64 c.store, .string c.prev, .int .i64 c.e, .int .i64 c.s] _ _ hZR
            refine hK.out _ _ (hHeld.setOther hgR hnR _) (fun hHeld => ?_)
            clear hK K
            try simp only [Act.put]
            refine rd1 3 (fun K hK => ?_)
            rw [if_pos (by rfl)]
            refine wp_store_row 63 _ _ rfl (w.heap.size + 1) #[.int .i64 d.office, .int .i64 d.hour, .int .i64 d.inn, .int .i64 d.out, .int .i64 d.store, .string d.prev, .int .i64 d.e, .int .i64 d.s] rfl rfl 63 #[.int .i64 0, .int .i64 0, .int .i64 0, .int .i64 0, .int .i64 0, .string ⟨#[]⟩, .int .i64 0, .int .i64 0] hZS infoCm rfl (by simp [Value.oneCell']) ?_
            have hZR := (setRow_other _ (w.heap.size + 1) w.heap.size #[.int .i64 d.office, .int .i64 d.hour, .int .i64 d.inn, .int .i64 d.out, .int .i64 d.store, .string d.prev, .int .i64 d.e, .int .i64 d.s] (by omega)).trans hZR
            have hZS := setRow_heap _ _ _ #[.int .i64 d.office, .int .i64 d.hour, .int .i64 d.inn, .int .i64 d.out, .int .i64 d.store, .string d.prev, .int .i64 d.e, .int .i64 d.s] _ _ hZS
            refine hK.out _ _ (hHeld.setOther hgS hnS _) (fun hHeld => ?_)
            clear hK K
            try simp only [Act.put]
            refine tn 4 ?_
            try simp only [Act.put, aL1, aL2, aL3]
            refine rdone (NoPanic.normal ?_)
            have HRF := Lib.hid ((hHeld.cons hZS hgS hnS).cons hZR hgR (fun h => (List.mem_cons.1 h).elim (fun e => absurd e (Nat.ne_of_lt (Nat.lt_succ_self _))) hnR))
            clear hHeld hZS hZR hgS hgR hnS hnR
            go_wp2_with fail
            exact bodyPost_ret (v := .tuple #[.agg #[.int .i64 c.office, .int .i64 c.hour, .int .i64 c.inn, .int .i64 c.out, .int .i64 c.store, .string c.prev, .int .i64 c.e, .int .i64 c.s], .agg #[.int .i64 d.office, .int .i64 d.hour, .int .i64 d.inn, .int .i64 d.out, .int .i64 d.store, .string d.prev, .int .i64 d.e, .int .i64 d.s], .bool true]) (Eq.trans (results_rows_tmp rfl _ _ w.heap.size (w.heap.size + 1) 63 63 #[.int .i64 c.office, .int .i64 c.hour, .int .i64 c.inn, .int .i64 c.out, .int .i64 c.store, .string c.prev, .int .i64 c.e, .int .i64 c.s] #[.int .i64 d.office, .int .i64 d.hour, .int .i64 d.inn, .int .i64 d.out, .int .i64 d.store, .string d.prev, .int .i64 d.e, .int .i64 d.s] _ rfl (HRF.out.row 0 rfl) rfl (HRF.out.row 1 rfl) undCm rfl infoCm infoCm) rfl) rfl (retP_some HF.out HRF.out.below)
          | false =>
            have HN2 : Hid (∀ (i : Nat) (y : CV), i < j + 1 → m[i]? = some y → P c y = false) := Lib.hid (fun i y hi hy => by
              by_cases e : i = j
              · subst e; rw [HD.out] at hy; cases hy; exact hpp
              · exact HND.out i y (by omega) hy)
            have HR6 := Lib.hid (HR5.out.take 3)
            clear hpp HR5
            go_wp2_with fail
            go_roundw
            case rel => exact ⟨j + 1, by omega, by go_num, HN2.out, HR6.out⟩
            case measure => simp [Go.RowKit.intOf]; omega
        · obtain rfl : j = m.length := by omega
          have HN2 : Hid (∀ (i : Nat) (x : CV), i < k + 1 → l[i]? = some x → ∀ y ∈ m, P x y = false) := Lib.hid (fun i x hi hx y hy => by
            by_cases e : i = k
            · subst e
              rw [HC.out] at hx
              cases hx
              obtain ⟨q, hq⟩ := List.getElem?_of_mem hy
              exact HND.out q y (List.getElem?_eq_some_iff.1 hq).1 hq
            · exact HNO.out i x (by omega) hx y hy)
          have HR6 := Lib.hid (HR3.out.take 2)
          clear HR3 hlj hj
          go_wp2_with fail
          go_roundw
          case rel => exact ⟨k + 1, by omega, by go_num, HN2.out, HR6.out⟩
          case measure => simp [Go.RowKit.intOf]; omega
    · obtain rfl : k = l.length := by omega
      have HF := Lib.hid (first2_none HNO.out)
      clear hlt hk
      go_wp2_with (first | (refine wpList_store_row rfl 63 _ _ rfl w.heap.size #[.int .i64 0, .int .i64 0, .int .i64 0, .int .i64 0, .int .i64 0, .string ⟨#[]⟩, .int .i64 0, .int .i64 0] rfl rfl 63 #[.int .i64 0, .int .i64 0, .int .i64 0, .int .i64 0, .int .i64 0, .string ⟨#[]⟩, .int .i64 0, .int .i64 0] (HR1.out.row 0 rfl) infoCm rfl (by simp [Value.oneCell']) ?_) | (refine wpList_store_row rfl 63 _ _ rfl (w.heap.size + 1) #[.int .i64 0, .int .i64 0, .int .i64 0, .int .i64 0, .int .i64 0, .string ⟨#[]⟩, .int .i64 0, .int .i64 0] rfl rfl 63 #[.int .i64 0, .int .i64 0, .int .i64 0, .int .i64 0, .int .i64 0, .string ⟨#[]⟩, .int .i64 0, .int .i64 0] ((HR1.out.set (i := 0) (cs' := #[.int .i64 0, .int .i64 0, .int .i64 0, .int .i64 0, .int .i64 0, .string ⟨#[]⟩, .int .i64 0, .int .i64 0]) rfl).row 1 rfl) infoCm rfl (by simp [Value.oneCell']) ?_))
      have HRZ := Lib.hid ((HR1.out.set (i := 0) (cs' := #[.int .i64 0, .int .i64 0, .int .i64 0, .int .i64 0, .int .i64 0, .string ⟨#[]⟩, .int .i64 0, .int .i64 0]) rfl).set (i := 1) (cs' := #[.int .i64 0, .int .i64 0, .int .i64 0, .int .i64 0, .int .i64 0, .string ⟨#[]⟩, .int .i64 0, .int .i64 0]) rfl)
      exact bodyPost_ret (v := .tuple #[.agg #[.int .i64 0, .int .i64 0, .int .i64 0, .int .i64 0, .int .i64 0, .string ⟨#[]⟩, .int .i64 0, .int .i64 0], .agg #[.int .i64 0, .int .i64 0, .int .i64 0, .int .i64 0, .int .i64 0, .string ⟨#[]⟩, .int .i64 0, .int .i64 0], .bool false]) (Eq.trans (results_rows_tmp rfl _ _ w.heap.size (w.heap.size + 1) 63 63 #[.int .i64 0, .int .i64 0, .int .i64 0, .int .i64 0, .int .i64 0, .string ⟨#[]⟩, .int .i64 0, .int .i64 0] #[.int .i64 0, .int .i64 0, .int .i64 0, .int .i64 0, .int .i64 0, .string ⟨#[]⟩, .int .i64 0, .int .i64 0] _ rfl (HRZ.out.row 0 rfl) rfl (HRZ.out.row 1 rfl) undCm rfl infoCm infoCm) rfl) rfl (retP_none HF.out HRZ.out.below)
end Go.Proofs.YtjbjpkhibcnenaaGreatDoor

