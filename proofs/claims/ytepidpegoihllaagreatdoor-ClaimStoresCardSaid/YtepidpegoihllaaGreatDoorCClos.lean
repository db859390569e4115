/- The conditions of claim.Chain. -/
import Derived.Outline
import Derived.Test.YtepidpegoihllaaGreatDoorCSign
import Derived.Test.YtepidpegoihllaaGreatDoorUOpen
namespace Go.Proofs.YtepidpegoihllaaGreatDoor
open Go.RowKit
def cellsC (c : CV) : List Value := [.int .i64 c.office, .int .i64 c.hour, .int .i64 c.inn, .int .i64 c.out, .int .i64 c.store, .string c.prev, .int .i64 c.e, .int .i64 c.s]
/-- a claim's cells -/
def RC (c : CV) (cs : List Value) (_ : World) : Prop := cs = cellsC c ∧ COk c ∧ c.prev.size ≤ maxLen
theorem stays_RC : Stays RC := fun _ _ _ _ h _ => h
def digB (c : CV) : ByteArray := ⟨(digC c).toArray⟩
/-- what Chain's conditions see: two variables that hold slices -/
structure ChCtx (ps : List Int) (l : List CV) (Pb Lb : Nat) (vp vl : Value) (w : World) : Prop where
  hP : w.heap[Pb]? = some (.cells #[vp] 29)
  hL : w.heap[Lb]? = some (.cells #[vl] 54)
  lp : LArg RInt 1 vp ps w
  ll : LArg RC 8 vl l w
theorem ChCtx.below {ps : List Int} {l : List CV} {Pb Lb : Nat} {vp vl : Value} {w w' : World} (h : ChCtx ps l Pb Lb vp vl w) (hb : Below w.heap.size w w') : ChCtx ps l Pb Lb vp vl w' :=
  ⟨blk_below h.hP hb (blk_lt h.hP), blk_below h.hL hb (blk_lt h.hL), h.lp.below stays_int hb, h.ll.below stays_RC hb⟩
theorem ChCtx.claim {ps : List Int} {l : List CV} {Pb Lb : Nat} {vp : Value} {al : Option Addr} {n k : Nat} {w : World} (h : ChCtx ps l Pb Lb vp (.slice al n k) w) {i : Nat} {c : CV} (hc : l[i]? = some c) :
    ∃ b o, al = some ⟨b, o, none⟩ ∧ n = l.length ∧ n ≤ k ∧ b < w.heap.size ∧ w.rangeAt b (o + i * 8) (cellsC c) ∧ COk c := by
  obtain ⟨b, o, cs, h1, h2, h3, h4, h5⟩ := h.ll.at hc
  obtain ⟨a, c2, e, h6, _⟩ := h.ll.slice
  simp only [Value.slice.injEq] at e
  rw [h5.1] at h4
  exact ⟨b, o, h1, e.2.1, by omega, h2, h4, h5.2.1⟩
theorem ChCtx.pub {ps : List Int} {l : List CV} {Pb Lb : Nat} {vl : Value} {al : Option Addr} {n k : Nat} {w : World} (h : ChCtx ps l Pb Lb (.slice al n k) vl w) {i : Nat} {x : Int} (hc : ps[i]? = some x) :
    ∃ b o, al = some ⟨b, o, none⟩ ∧ n = ps.length ∧ n ≤ k ∧ b < w.heap.size ∧ w.cell? ⟨b, o + i, none⟩ = some (.int .i64 x) ∧ I64 x := by
  obtain ⟨b, o, cs, h1, h2, h3, h4, h5⟩ := h.lp.at hc
  obtain ⟨a, c2, e, h6, _⟩ := h.lp.slice
  simp only [Value.slice.injEq] at e
  rw [h5.1] at h4
  refine ⟨b, o, h1, e.2.1, by omega, h2, ?_, h5.2⟩
  have h7 := h4 0 _ rfl
  rw [Nat.mul_one, Nat.add_zero] at h7
  exact h7
set_option maxRecDepth 100000 in
set_option maxHeartbeats 2000000 in
theorem clos1_any (ps : List Int) (l : List CV) (Pb Lb : Nat) (vp : Value) (al : Option Addr) (ln lc : Nat) (i : Nat) (c : CV) (w : World) (hX : ChCtx ps l Pb Lb vp (.slice al ln lc) w) (hc : l[i]? = some c) (_hl : l.length ≤ 100) (_hps : ps.length ≤ 100) :
    Calls Tryz.prog 49 #[.int .i64 i, .pointer (some ⟨Lb, 0, none⟩), .pointer (some ⟨Pb, 0, none⟩)] w fun e w' => e = .returned (.bool (decide (0 ≤ c.office ∧ c.office < ps.length))) ∧ Below w.heap.size w w' := by
  obtain ⟨b, o, rfl, rfl, hlc, hb, hrg, hok⟩ := hX.claim hc
  have hil : i < l.length := (List.getElem?_eq_some_iff.1 hc).1
  obtain ⟨ap, pc, rfl, hpc, hpm⟩ := hX.lp.slice
  have bl : w.cell? ⟨Lb, 0, none⟩ = some (.slice (some ⟨b, o, none⟩) l.length lc) := (cell_of_row _ _ _ _ _ _ hX.hL).trans rfl
  have bp : w.cell? ⟨Pb, 0, none⟩ = some (.slice ap ps.length pc) := (cell_of_row _ _ _ _ _ _ hX.hP).trans rfl
  have c0 : w.cell? ⟨b, o + i * 8, none⟩ = some (.int .i64 c.office) := hrg 0 _ rfl
  have ho := hok.1
  unfold I64 at ho
  clear hX hrg
  by_cases h1 : 0 ≤ c.office
  · have t1 : decide (0 ≤ c.office) = true := decide_eq_true h1
    by_cases h2 : c.office < ps.length
    · have t2 : decide (c.office < (ps.length : Int)) = true := decide_eq_true h2
      rw [decide_eq_true ⟨h1, h2⟩]
      generalize c.office = x at *
      go_enter Tryz.func49, Tryz.ntmps49
      go_upto_region 1 with fail
      go_quiet (fail)
      go_wp2_with fail
      go_ret
      exact ⟨rfl, below_drewN (Below.refl _ _)⟩
    · have t2 : decide (c.office < (ps.length : Int)) = false := decide_eq_false h2
      rw [decide_eq_false (fun h => h2 h.2)]
      generalize c.office = x at *
      go_enter Tryz.func49, Tryz.ntmps49
      go_upto_region 1 with fail
      go_quiet (fail)
      go_wp2_with fail
      go_ret
      exact ⟨rfl, below_drewN (Below.refl _ _)⟩
  · have t1 : decide (0 ≤ c.office) = false := decide_eq_false h1
    rw [decide_eq_false (fun h => h1 h.1)]
    generalize c.office = x at *
    go_enter Tryz.func49, Tryz.ntmps49
    go_upto_region 1 with fail
    go_quiet (fail)
    go_wp2_with fail
    go_ret
    exact ⟨rfl, below_drewN (Below.refl _ _)⟩
set_option maxRecDepth 100000 in
set_option maxHeartbeats 2000000 in
theorem clos2_any (ps : List Int) (l : List CV) (Pb Lb : Nat) (vp : Value) (al : Option Addr) (ln lc : Nat) (i j : Nat) (c : CV) (x : Int) (w : World) (hX : ChCtx ps l Pb Lb vp (.slice al ln lc) w) (hc : l[i]? = some c) (hj : c.office = (j : Int)) (hx : ps[j]? = some x) (hp : c.prev.size ≤ 900) (hl : l.length ≤ 100) (hps : ps.length ≤ 100) (hg : Glob w) (hml : MLen w) :
    Calls Tryz.prog 50 #[.int .i64 i, .pointer (some ⟨Pb, 0, none⟩), .pointer (some ⟨Lb, 0, none⟩)] w fun e w' => e = .returned (.bool (decide (VouchedC x c))) ∧ Below w.heap.size w w' := by
  obtain ⟨b, o, rfl, rfl, hlc, hb, hrg, hok⟩ := hX.claim hc
  have hil : i < l.length := (List.getElem?_eq_some_iff.1 hc).1
  obtain ⟨ap, pc, rfl, hpc, hpm⟩ := hX.lp.slice
  obtain ⟨pb, po, rfl, -, -, hpb, hpx, hxi⟩ := hX.pub hx
  have hjl : j < ps.length := (List.getElem?_eq_some_iff.1 hx).1
  have hPl := blk_lt hX.hP
  have hLl := blk_lt hX.hL
  have HSB : Hid (∀ w', Below w.heap.size w w' → Below w.heap.size w w' ∧ w'.cell? ⟨Lb, 0, none⟩ = some (.slice (some ⟨b, o, none⟩) l.length lc) ∧ w'.cell? ⟨Pb, 0, none⟩ = some (.slice (some ⟨pb, po, none⟩) ps.length pc) ∧ w'.cell? ⟨pb, po + j, none⟩ = some (.int .i64 x) ∧ w'.cell? ⟨b, o + i * 8, none⟩ = some (.int .i64 c.office) ∧ w'.cell? ⟨b, o + i * 8 + 1, none⟩ = some (.int .i64 c.hour) ∧ w'.cell? ⟨b, o + i * 8 + 2, none⟩ = some (.int .i64 c.inn) ∧ w'.cell? ⟨b, o + i * 8 + 3, none⟩ = some (.int .i64 c.out) ∧ w'.cell? ⟨b, o + i * 8 + 4, none⟩ = some (.int .i64 c.store) ∧ w'.cell? ⟨b, o + i * 8 + 5, none⟩ = some (.string c.prev) ∧ w'.cell? ⟨b, o + i * 8 + 6, none⟩ = some (.int .i64 c.e) ∧ w'.cell? ⟨b, o + i * 8 + 7, none⟩ = some (.int .i64 c.s)) := Lib.hid (fun w' h => ⟨h, (h.cell (p := ⟨Lb, 0, none⟩) hLl).trans ((cell_of_row _ _ _ _ _ _ hX.hL).trans rfl), (h.cell (p := ⟨Pb, 0, none⟩) hPl).trans ((cell_of_row _ _ _ _ _ _ hX.hP).trans rfl), (h.cell (p := ⟨pb, po + j, none⟩) hpb).trans hpx, (h.cell (p := ⟨b, o + i * 8, none⟩) hb).trans (hrg 0 _ rfl), (h.cell (p := ⟨b, o + i * 8 + 1, none⟩) hb).trans (hrg 1 _ rfl), (h.cell (p := ⟨b, o + i * 8 + 2, none⟩) hb).trans (hrg 2 _ rfl), (h.cell (p := ⟨b, o + i * 8 + 3, none⟩) hb).trans (hrg 3 _ rfl), (h.cell (p := ⟨b, o + i * 8 + 4, none⟩) hb).trans (hrg 4 _ rfl), (h.cell (p := ⟨b, o + i * 8 + 5, none⟩) hb).trans (hrg 5 _ rfl), (h.cell (p := ⟨b, o + i * 8 + 6, none⟩) hb).trans (hrg 6 _ rfl), (h.cell (p := ⟨b, o + i * 8 + 7, none⟩) hb).trans (hrg 7 _ rfl)⟩)
  obtain ⟨r, hr⟩ : ∃ r, r = decide (VouchedC x c) := ⟨_, rfl⟩
  have HV : Hid (∀ w0, Below w.heap.size w w0 → Calls Tryz.prog 19 #[.int .i64 x, .agg #[.int .i64 c.office, .int .i64 c.hour, .int .i64 c.inn, .int .i64 c.out, .int .i64 c.store, .string c.prev, .int .i64 c.e, .int .i64 c.s]] w0 fun e w' => e = .returned (.bool r) ∧ Below w0.heap.size w0 w') := Lib.hid (fun w0 h => by
    rw [hr]
    exact verifyC_any x c w0 hxi hok (by omega) (hg.below h hg.size) (hml.up h))
  rw [← hr]
  have ho : c.office = (j : Int) := hj
  have hj100 : j < 100 := by omega
  have hi100 : i < 100 := by omega
  clear hX hrg hpx hxi hok hp hg hml hr hPl hLl hc hx hj
  rw [ho] at HSB HV
  go_enter Tryz.func50, Tryz.ntmps50
  go_upto_region 1 with fail
  go_region_held3 (fun w' => Below w.heap.size w w' ∧ w'.cell? ⟨Lb, 0, none⟩ = some (.slice (some ⟨b, o, none⟩) l.length lc) ∧ w'.cell? ⟨Pb, 0, none⟩ = some (.slice (some ⟨pb, po, none⟩) ps.length pc) ∧ w'.cell? ⟨pb, po + j, none⟩ = some (.int .i64 x) ∧ w'.cell? ⟨b, o + i * 8, none⟩ = some (.int .i64 (j : Int)) ∧ w'.cell? ⟨b, o + i * 8 + 1, none⟩ = some (.int .i64 c.hour) ∧ w'.cell? ⟨b, o + i * 8 + 2, none⟩ = some (.int .i64 c.inn) ∧ w'.cell? ⟨b, o + i * 8 + 3, none⟩ = some (.int .i64 c.out) ∧ w'.cell? ⟨b, o + i * 8 + 4, none⟩ = some (.int .i64 c.store) ∧ w'.cell? ⟨b, o + i * 8 + 5, none⟩ = some (.string c.prev) ∧ w'.cell? ⟨b, o + i * 8 + 6, none⟩ = some (.int .i64 c.e) ∧ w'.cell? ⟨b, o + i * 8 + 7, none⟩ = some (.int .i64 c.s)) (first | assumption | exact HSB.out _ (Below.refl _ _) | exact HSB.out _ (Below.refl _ _).drew | exact HSB.out _ ((show Below w.heap.size w _ ∧ _ by assumption).1.trans (hb.mono (show Below w.heap.size w _ ∧ _ by assumption).1.size)) | exact HSB.out _ (below_drewN (show Below w.heap.size w _ ∧ _ by assumption).1)) ((first | (go_at_call 19; refine (HV.out _ (show Below w.heap.size w _ ∧ _ by assumption).1).mono ?_; rintro e w' ⟨rfl, hb⟩)))
  rename _ ∧ _ => hFin
  have HBf := Lib.hid hFin.1
  go_wp2_with fail
  go_ret
  exact ⟨rfl, HBf.out⟩
set_option maxRecDepth 100000 in
set_option maxHeartbeats 2000000 in
theorem clos3_any (ps : List Int) (l : List CV) (Pb Lb : Nat) (vp : Value) (al : Option Addr) (ln lc : Nat) (i : Nat) (c : CV) (w : World) (hX : ChCtx ps l Pb Lb vp (.slice al ln lc) w) (hc : l[i]? = some c) (_hl : l.length ≤ 100) :
    Calls Tryz.prog 51 #[.int .i64 i, .pointer (some ⟨Lb, 0, none⟩)] w fun e w' => e = .returned (.bool (decide (0 < i ∨ c.prev = ⟨#[]⟩))) ∧ Below w.heap.size w w' := by
  obtain ⟨b, o, rfl, rfl, hlc, hb, hrg, hok⟩ := hX.claim hc
  have hil : i < l.length := (List.getElem?_eq_some_iff.1 hc).1
  have bl : w.cell? ⟨Lb, 0, none⟩ = some (.slice (some ⟨b, o, none⟩) l.length lc) := (cell_of_row _ _ _ _ _ _ hX.hL).trans rfl
  have c5 : w.cell? ⟨b, o + i * 8 + 5, none⟩ = some (.string c.prev) := hrg 5 _ rfl
  clear hX hrg
  by_cases h1 : 0 < i
  · have t1 : decide (0 < (i : Int)) = true := decide_eq_true (by omega)
    rw [decide_eq_true (Or.inl h1)]
    go_enter Tryz.func51, Tryz.ntmps51
    go_wp2_with fail
    go_ret
    exact ⟨rfl, Below.refl _ _⟩
  · obtain rfl : i = 0 := by omega
    by_cases h2 : c.prev = ⟨#[]⟩
    · have t2 : (c.prev.toList == []) = true := by rw [h2, ByteArray.toList_eq]; rfl
      rw [decide_eq_true (Or.inr h2)]
      generalize c.prev = p at *
      go_enter Tryz.func51, Tryz.ntmps51
      go_wp2_with fail
      go_ret
      exact ⟨rfl, Below.refl _ _⟩
    · have t2 : (c.prev.toList == []) = false := by
        rw [beq_eq_false_iff_ne, ByteArray.toList_eq]
        intro h
        apply h2
        apply ByteArray.ext
        apply Array.ext'
        exact h
      rw [decide_eq_false (fun h => h.elim (fun a => by omega) h2)]
      generalize c.prev = p at *
      go_enter Tryz.func51, Tryz.ntmps51
      go_wp2_with fail
      go_ret
      exact ⟨rfl, Below.refl _ _⟩
set_option maxRecDepth 100000 in
set_option maxHeartbeats 2000000 in
theorem clos4_zero (Lb : Nat) (w : World) :
    Calls Tryz.prog 52 #[.int .i64 0, .pointer (some ⟨Lb, 0, none⟩)] w fun e w' => e = .returned (.bool true) ∧ Below w.heap.size w w' := by
  go_enter Tryz.func52, Tryz.ntmps52
  go_upto_region 1 with fail
  go_quiet (fail)
  go_wp2_with fail
  go_ret
  exact ⟨rfl, below_drewN (Below.refl _ _)⟩
set_option maxRecDepth 100000 in
set_option maxHeartbeats 2000000 in
theorem clos5_zero (Lb : Nat) (w : World) :
    Calls Tryz.prog 53 #[.int .i64 0, .pointer (some ⟨Lb, 0, none⟩)] w fun e w' => e = .returned (.bool true) ∧ Below w.heap.size w w' := by
  go_enter Tryz.func53, Tryz.ntmps53
  go_upto_region 1 with fail
  go_quiet (fail)
  go_wp2_with fail
  go_ret
  exact ⟨rfl, below_drewN (Below.refl _ _)⟩
set_option maxRecDepth 100000 in
set_option maxHeartbeats 2000000 in
theorem clos4_pos (ps : List Int) (l : List CV) (Pb Lb : Nat) (vp : Value) (al : Option Addr) (ln lc : Nat) (i m : Nat) (c d f : CV) (w : World) (hX : ChCtx ps l Pb Lb vp (.slice al ln lc) w) (him : i = m + 1) (hc : l[i]? = some c) (hd : l[m]? = some d) (hf : l[0]? = some f) (hl : l.length ≤ 100) :
    Calls Tryz.prog 52 #[.int .i64 i, .pointer (some ⟨Lb, 0, none⟩)] w fun e w' => e = .returned (.bool (decide (c.office = f.office ∧ d.hour < c.hour))) ∧ Below w.heap.size w w' := by
  obtain ⟨b, o, rfl, rfl, hlc, hb, hrg, hok⟩ := hX.claim hc
  obtain ⟨b1, o1, e1, -, -, hb1, hrg1, hok1⟩ := hX.claim hd
  obtain ⟨rfl, rfl⟩ : b = b1 ∧ o = o1 := by simpa using e1
  have hil : i < l.length := (List.getElem?_eq_some_iff.1 hc).1
  have hi0 : ((i : Int) == 0) = false := by rw [beq_eq_false_iff_ne]; omega
  have F : (i : Int) - 1 = (m : Int) := by omega
  obtain ⟨b2, o2, e2, -, -, hb2, hrg2, hok2⟩ := hX.claim hf
  obtain ⟨rfl, rfl⟩ : b = b2 ∧ o = o2 := by simpa using e2
  have bl : w.cell? ⟨Lb, 0, none⟩ = some (.slice (some ⟨b, o, none⟩) l.length lc) := (cell_of_row _ _ _ _ _ _ hX.hL).trans rfl
  have c0 : w.cell? ⟨b, o + i * 8, none⟩ = some (.int .i64 c.office) := hrg 0 _ rfl
  have c1 : w.cell? ⟨b, o + i * 8 + 1, none⟩ = some (.int .i64 c.hour) := hrg 1 _ rfl
  have d1 : w.cell? ⟨b, o + m * 8 + 1, none⟩ = some (.int .i64 d.hour) := hrg1 1 _ rfl
  have f0 : w.cell? ⟨b, o, none⟩ = some (.int .i64 f.office) := by
    have h := hrg2 0 _ rfl
    rw [Nat.zero_mul] at h
    exact h
  have hml : m < l.length := by omega
  have h0l : 0 < l.length := by omega
  clear him hX hrg hrg1 hrg2 e1 e2 hok hok1 hok2 hc hd hf
  by_cases h1 : c.office = f.office
  · have t1 : (c.office == f.office) = true := by rw [beq_iff_eq]; exact h1
    by_cases h2 : d.hour < c.hour
    · have t2 : decide (d.hour < c.hour) = true := decide_eq_true h2
      rw [decide_eq_true ⟨h1, h2⟩]
      generalize c.office = x1 at *
      generalize f.office = x2 at *
      generalize d.hour = x3 at *
      generalize c.hour = x4 at *
      go_enter Tryz.func52, Tryz.ntmps52
      go_upto_region 1 with fail
      go_quiet (fail)
      go_wp2_with fail
      go_ret
      exact ⟨rfl, below_drewN (Below.refl _ _)⟩
    · have t2 : decide (d.hour < c.hour) = false := decide_eq_false h2
      rw [decide_eq_false (fun h => h2 h.2)]
      generalize c.office = x1 at *
      generalize f.office = x2 at *
      generalize d.hour = x3 at *
      generalize c.hour = x4 at *
      go_enter Tryz.func52, Tryz.ntmps52
      go_upto_region 1 with fail
      go_quiet (fail)
      go_wp2_with fail
      go_ret
      exact ⟨rfl, below_drewN (Below.refl _ _)⟩
  · have t1 : (c.office == f.office) = false := by rw [beq_eq_false_iff_ne]; exact h1
    rw [decide_eq_false (fun h => h1 h.1)]
    generalize c.office = x1 at *
    generalize f.office = x2 at *
    generalize d.hour = x3 at *
    generalize c.hour = x4 at *
    go_enter Tryz.func52, Tryz.ntmps52
    go_upto_region 1 with fail
    go_quiet (fail)
    go_wp2_with fail
    go_ret
    exact ⟨rfl, below_drewN (Below.refl _ _)⟩
set_option maxRecDepth 100000 in
set_option maxHeartbeats 2000000 in
theorem clos5_pos (ps : List Int) (l : List CV) (Pb Lb : Nat) (vp : Value) (al : Option Addr) (ln lc : Nat) (i m : Nat) (c d : CV) (w : World) (hX : ChCtx ps l Pb Lb vp (.slice al ln lc) w) (him : i = m + 1) (hc : l[i]? = some c) (hd : l[m]? = some d) (hp : d.prev.size ≤ 900) (hl : l.length ≤ 100) (hg : Glob w) (hml : MLen w) :
    Calls Tryz.prog 53 #[.int .i64 i, .pointer (some ⟨Lb, 0, none⟩)] w fun e w' => e = .returned (.bool (decide (c.prev = digB d))) ∧ Below w.heap.size w w' := by
  obtain ⟨b, o, rfl, rfl, hlc, hb, hrg, hok⟩ := hX.claim hc
  obtain ⟨b1, o1, e1, -, -, hb1, hrg1, hok1⟩ := hX.claim hd
  obtain ⟨rfl, rfl⟩ : b = b1 ∧ o = o1 := by simpa using e1
  have hil : i < l.length := (List.getElem?_eq_some_iff.1 hc).1
  have hi0 : ((i : Int) == 0) = false := by rw [beq_eq_false_iff_ne]; omega
  have F : (i : Int) - 1 = (m : Int) := by omega
  have hm2 : m < l.length := by omega
  have FW : IntKind.i64.wrap ((i : Int) - 1) = (m : Int) := by
    rw [F]
    exact IntWalk.i64_in _ (by omega)
  have hLl := blk_lt hX.hL
  have HSB : Hid (∀ w', Below w.heap.size w w' → Below w.heap.size w w' ∧ w'.cell? ⟨Lb, 0, none⟩ = some (.slice (some ⟨b, o, none⟩) l.length lc) ∧ w'.cell? ⟨b, o + i * 8 + 5, none⟩ = some (.string c.prev) ∧ w'.cell? ⟨b, o + m * 8, none⟩ = some (.int .i64 d.office) ∧ w'.cell? ⟨b, o + m * 8 + 1, none⟩ = some (.int .i64 d.hour) ∧ w'.cell? ⟨b, o + m * 8 + 2, none⟩ = some (.int .i64 d.inn) ∧ w'.cell? ⟨b, o + m * 8 + 3, none⟩ = some (.int .i64 d.out) ∧ w'.cell? ⟨b, o + m * 8 + 4, none⟩ = some (.int .i64 d.store) ∧ w'.cell? ⟨b, o + m * 8 + 5, none⟩ = some (.string d.prev) ∧ w'.cell? ⟨b, o + m * 8 + 6, none⟩ = some (.int .i64 d.e) ∧ w'.cell? ⟨b, o + m * 8 + 7, none⟩ = some (.int .i64 d.s)) := Lib.hid (fun w' h => ⟨h, (h.cell (p := ⟨Lb, 0, none⟩) hLl).trans ((cell_of_row _ _ _ _ _ _ hX.hL).trans rfl), (h.cell (p := ⟨b, o + i * 8 + 5, none⟩) hb).trans (hrg 5 _ rfl), (h.cell (p := ⟨b, o + m * 8, none⟩) hb).trans (hrg1 0 _ rfl), (h.cell (p := ⟨b, o + m * 8 + 1, none⟩) hb).trans (hrg1 1 _ rfl), (h.cell (p := ⟨b, o + m * 8 + 2, none⟩) hb).trans (hrg1 2 _ rfl), (h.cell (p := ⟨b, o + m * 8 + 3, none⟩) hb).trans (hrg1 3 _ rfl), (h.cell (p := ⟨b, o + m * 8 + 4, none⟩) hb).trans (hrg1 4 _ rfl), (h.cell (p := ⟨b, o + m * 8 + 5, none⟩) hb).trans (hrg1 5 _ rfl), (h.cell (p := ⟨b, o + m * 8 + 6, none⟩) hb).trans (hrg1 6 _ rfl), (h.cell (p := ⟨b, o + m * 8 + 7, none⟩) hb).trans (hrg1 7 _ rfl)⟩)
  obtain ⟨D, hD⟩ : ∃ D, D = digB d := ⟨_, rfl⟩
  have HV : Hid (∀ w0, Below w.heap.size w w0 → Calls Tryz.prog 18 #[.agg #[.int .i64 d.office, .int .i64 d.hour, .int .i64 d.inn, .int .i64 d.out, .int .i64 d.store, .string d.prev, .int .i64 d.e, .int .i64 d.s]] w0 fun e w' => e = .returned (.string D) ∧ Below w0.heap.size w0 w') := Lib.hid (fun w0 h => by
    rw [hD]
    exact digestC_any d w0 hok1 (by omega) (hg.below h hg.size) (hml.up h))
  have hq : (c.prev.toList == D.toList) = decide (c.prev = digB d) := by
    rw [← hD]
    by_cases h : c.prev = D
    · rw [h, decide_eq_true rfl]; simp
    · rw [decide_eq_false h, beq_eq_false_iff_ne, ByteArray.toList_eq, ByteArray.toList_eq]
      intro e
      apply h
      apply ByteArray.ext
      apply Array.ext'
      exact e
  generalize decide (c.prev = digB d) = r at *
  clear him hX hrg hrg1 e1 hok hok1 hc hd hp hg hml hLl hD
  generalize c.prev = cp at *
  go_enter Tryz.func53, Tryz.ntmps53
  go_upto_region 1 with fail
  refine wp_region_noPanic ?_
  refine wp_region_held_drew (S := fun w' => Below w.heap.size w w' ∧ w'.cell? ⟨Lb, 0, none⟩ = some (.slice (some ⟨b, o, none⟩) l.length lc) ∧ w'.cell? ⟨b, o + i * 8 + 5, none⟩ = some (.string cp) ∧ w'.cell? ⟨b, o + m * 8, none⟩ = some (.int .i64 d.office) ∧ w'.cell? ⟨b, o + m * 8 + 1, none⟩ = some (.int .i64 d.hour) ∧ w'.cell? ⟨b, o + m * 8 + 2, none⟩ = some (.int .i64 d.inn) ∧ w'.cell? ⟨b, o + m * 8 + 3, none⟩ = some (.int .i64 d.out) ∧ w'.cell? ⟨b, o + m * 8 + 4, none⟩ = some (.int .i64 d.store) ∧ w'.cell? ⟨b, o + m * 8 + 5, none⟩ = some (.string d.prev) ∧ w'.cell? ⟨b, o + m * 8 + 6, none⟩ = some (.int .i64 d.e) ∧ w'.cell? ⟨b, o + m * 8 + 7, none⟩ = some (.int .i64 d.s)) (by kernel_rfl) (HSB.out _ (Below.refl _ _).drew) (fun hHeld => ?_)
  refine' wpAnyH_take (i := 0) (v := _) (by simp only [List.getElem?_toArray, List.getElem?_cons_zero]; exact rfl) (by kernel_rfl) (by kernel_rfl) (by kernel_rfl) (fun _ _ _ h => h) (Or.inl ⟨by rfl, ?y0x1⟩) hHeld ?r0x1
  case y0x1 => (intro w hSw; (try dsimp only at hSw); go_simp; try with_reducible rfl)
  try simp only [Act.put, List.setIfInBounds_toArray, List.set_cons_zero, List.set_cons_succ]
  refine' wpAnyH_take (i := 1) (v := _) (by simp only [List.getElem?_toArray, List.getElem?_cons_succ, List.getElem?_cons_zero]; exact rfl) (by kernel_rfl) (by kernel_rfl) (by kernel_rfl) (fun _ _ _ h => h) (Or.inl ⟨by rfl, ?y1x2⟩) hHeld ?r1x2
  case y1x2 => (intro w hSw; (try dsimp only at hSw); go_simp; try with_reducible rfl)
  try simp only [Act.put, List.setIfInBounds_toArray, List.set_cons_zero, List.set_cons_succ]
  refine' wpAnyH_take (i := 2) (v := _) (by simp only [List.getElem?_toArray, List.getElem?_cons_succ, List.getElem?_cons_zero]; exact rfl) (by kernel_rfl) (by kernel_rfl) (by kernel_rfl) (fun _ _ _ h => h) (Or.inl ⟨by rfl, ?y2x3⟩) hHeld ?r2x3
  case y2x3 => (intro w hSw; (try dsimp only at hSw); go_simp; try with_reducible rfl)
  try simp only [Act.put, List.setIfInBounds_toArray, List.set_cons_zero, List.set_cons_succ]
  refine' wpAnyH_take (i := 3) (v := _) (by simp only [List.getElem?_toArray, List.getElem?_cons_succ, List.getElem?_cons_zero]; exact rfl) (by kernel_rfl) (by kernel_rfl) (by kernel_rfl) (fun _ _ _ h => h) (Or.inl ⟨by rfl, ?y3x4⟩) hHeld ?r3x4
  case y3x4 => (intro w hSw; (try dsimp only at hSw); go_simp; try with_reducible rfl)
  try simp only [Act.put, List.setIfInBounds_toArray, List.set_cons_zero, List.set_cons_succ]
  refine' wpAnyH_take (i := 4) (v := _) (by simp only [List.getElem?_toArray, List.getElem?_cons_succ, List.getElem?_cons_zero]; exact rfl) (by kernel_rfl) (by kernel_rfl) (by kernel_rfl) (fun _ _ _ h => h) (Or.inl ⟨by rfl, ?y4x5⟩) hHeld ?r4x5
  case y4x5 => (intro w hSw; (try dsimp only at hSw); go_simp; try with_reducible rfl)
  try simp only [Act.put, List.setIfInBounds_toArray, List.set_cons_zero, List.set_cons_succ]
  refine' wpAnyH_take (i := 5) (v := _) (by simp only [List.getElem?_toArray, List.getElem?_cons_succ, List.getElem?_cons_zero]; exact rfl) (by kernel_rfl) (by kernel_rfl) (by kernel_rfl) (fun _ _ _ h => h) (Or.inl ⟨by rfl, ?y5x6⟩) hHeld ?r5x6
  case y5x6 => (intro w hSw; (try dsimp only at hSw); go_simp; try with_reducible rfl)
  try simp only [Act.put, List.setIfInBounds_toArray, List.set_cons_zero, List.set_cons_succ]
  refine' wpAnyH_take (i := 6) (v := _) (by simp only [List.getElem?_toArray, List.getElem?_cons_succ, List.getElem?_cons_zero]; exact rfl) (by kernel_rfl) (by kernel_rfl) (by kernel_rfl) (fun _ _ _ h => h) (Or.inl ⟨by rfl, ?y6x7⟩) hHeld ?r6x7
  case y6x7 => (intro w hSw; (try dsimp only at hSw); go_simp; try with_reducible rfl)
  try simp only [Act.put, List.setIfInBounds_toArray, List.set_cons_zero, List.set_cons_succ]
  refine' wpAnyH_take (i := 7) (v := _) (by simp only [List.getElem?_toArray, List.getElem?_cons_succ, List.getElem?_cons_zero]; exact rfl) (by kernel_rfl) (by kernel_rfl) (by kernel_rfl) (fun _ _ _ h => h) (Or.inl ⟨by rfl, ?y7x8⟩) hHeld ?r7x8
  case y7x8 => (intro w hSw; (try dsimp only at hSw); go_simp; try with_reducible rfl)
  try simp only [Act.put, List.setIfInBounds_toArray, List.set_cons_zero, List.set_cons_succ]
  refine' wpAnyH_take (i := 8) (v := _) (by simp only [List.getElem?_toArray, List.getElem?_cons_succ, List.getElem?_cons_zero]; exact rfl) (by kernel_rfl) (by kernel_rfl) (by kernel_rfl) (fun _ _ _ h => h) (Or.inl ⟨by rfl, ?y8x9⟩) hHeld ?r8x9
  case y8x9 => (intro w hSw; (try dsimp only at hSw); go_simp; try with_reducible rfl)
  try simp only [Act.put, List.setIfInBounds_toArray, List.set_cons_zero, List.set_cons_succ]
  refine' wpAnyH_take (i := 9) (v := _) (by simp only [List.getElem?_toArray, List.getElem?_cons_succ, List.getElem?_cons_zero]; exact rfl) (by kernel_rfl) (by kernel_rfl) (by kernel_rfl) (fun _ _ _ h => h) (Or.inl ⟨by rfl, ?y9x10⟩) hHeld ?r9x10
  case y9x10 => (intro w hSw; (try dsimp only at hSw); go_simp; try with_reducible rfl)
  try simp only [Act.put, List.setIfInBounds_toArray, List.set_cons_zero, List.set_cons_succ]
  refine' wpAnyH_take (i := 10) (v := _) (by simp only [List.getElem?_toArray, List.getElem?_cons_succ, List.getElem?_cons_zero]; exact rfl) (by kernel_rfl) (by kernel_rfl) (by kernel_rfl) (fun _ _ _ h => h) (Or.inl ⟨by rfl, ?y10x11⟩) hHeld ?r10x11
  case y10x11 => (intro w hSw; (try dsimp only at hSw); go_simp; try with_reducible rfl)
  try simp only [Act.put, List.setIfInBounds_toArray, List.set_cons_zero, List.set_cons_succ]
  have FW2 : IntKind.i64.wrap (m : Int) = (m : Int) := IntWalk.i64_in _ (by omega)
  try simp only [FW]
  try simp only [FW2]
  refine' wpAnyH_take (i := 11) (v := _) (by simp only [List.getElem?_toArray, List.getElem?_cons_succ, List.getElem?_cons_zero]; exact rfl) (by kernel_rfl) (by kernel_rfl) (by kernel_rfl) (fun _ _ _ h => h) (Or.inl ⟨by rfl, ?y11x12⟩) hHeld ?r11x12
  case y11x12 => (intro w hSw; (try dsimp only at hSw); go_simp; try with_reducible rfl)
  try simp only [Act.put, List.setIfInBounds_toArray, List.set_cons_zero, List.set_cons_succ]
  refine' wpAnyH_take (i := 12) (v := _) (by simp only [List.getElem?_toArray, List.getElem?_cons_succ, List.getElem?_cons_zero]; exact rfl) (by kernel_rfl) (by kernel_rfl) (by kernel_rfl) (fun _ _ _ h => h) (Or.inl ⟨by rfl, ?y12x13⟩) hHeld ?r12x13
  case y12x13 => (intro w hSw; (try dsimp only at hSw); go_simp; try with_reducible rfl)
  try simp only [Act.put, List.setIfInBounds_toArray, List.set_cons_zero, List.set_cons_succ]
  refine wpAnyH_ready (rs := [13]) (by kernel_rfl) (by simp) ?_
  refine AllReadyH.cons (by simp only [List.getElem?_toArray, List.getElem?_cons_succ, List.getElem?_cons_zero]; exact rfl) (fun K hK => ?_) AllReadyH.nil
  go_simp
  refine (HV.out _ hHeld.1).mono ?_
  rintro e w' ⟨rfl, hb⟩
  refine hK.out _ _ (HSB.out _ (hHeld.1.trans (hb.mono hHeld.1.size))) (fun hHeld => ?_)
  clear hK K hb
  try simp only [Act.put, List.setIfInBounds_toArray, List.set_cons_zero, List.set_cons_succ]
  refine' wpAnyH_take (i := 14) (v := _) (by simp only [List.getElem?_toArray, List.getElem?_cons_succ, List.getElem?_cons_zero]; exact rfl) (by kernel_rfl) (by kernel_rfl) (by kernel_rfl) (fun _ _ _ h => h) (Or.inl ⟨by rfl, ?y14x14⟩) hHeld ?r14x14
  case y14x14 => (intro w hSw; (try dsimp only at hSw); go_simp; try with_reducible rfl)
  try simp only [Act.put, List.setIfInBounds_toArray, List.set_cons_zero, List.set_cons_succ]
  refine' wpAnyH_take (i := 15) (v := _) (by simp only [List.getElem?_toArray, List.getElem?_cons_succ, List.getElem?_cons_zero]; exact rfl) (by kernel_rfl) (by kernel_rfl) (by kernel_rfl) (fun _ _ _ h => h) (Or.inl ⟨by rfl, ?y15x15⟩) hHeld ?r15x15
  case y15x15 => (intro w hSw; (try dsimp only at hSw); go_simp; try with_reducible rfl)
  try simp only [Act.put, List.setIfInBounds_toArray, List.set_cons_zero, List.set_cons_succ]
  refine' wpAnyH_take (i := 16) (v := _) (by simp only [List.getElem?_toArray, List.getElem?_cons_succ, List.getElem?_cons_zero]; exact rfl) (by kernel_rfl) (by kernel_rfl) (by kernel_rfl) (fun _ _ _ h => h) (Or.inl ⟨by rfl, ?y16x16⟩) hHeld ?r16x16
  case y16x16 => (intro w hSw; (try dsimp only at hSw); go_simp; try with_reducible rfl)
  try simp only [Act.put, List.setIfInBounds_toArray, List.set_cons_zero, List.set_cons_succ]
  refine wpAnyH_done (by kernel_rfl) ?_ _
  refine NoPanic.normal ?_
  have HBf := Lib.hid hHeld.1
  go_wp2_with fail
  go_ret
  exact ⟨rfl, HBf.out⟩
end Go.Proofs.YtepidpegoihllaaGreatDoor

