/- Texts merged: ASpan AMap AHours AForkL -/
import Derived.Test.YtjbjpkhibcnenaaGreatDoorAOpen
import Derived.Test.YtjbjpkhibcnenaaGreatDoorLoad
import Derived.Maps.OwnSet
import Derived.Maps.OwnOps
import Derived.Below
import Derived.WalkKit
import Derived.Test.YtjbjpkhibcnenaaGreatDoorNDiv
import Derived.Test.YtjbjpkhibcnenaaGreatDoorProg
import Derived.Test.YtjbjpkhibcnenaaGreatDoorWList
/- exact.Add, span.Right, span.Of, span.Add, audit.within, audit.mouth, audit.net. -/
namespace Go.Proofs.YtjbjpkhibcnenaaGreatDoor
set_option maxRecDepth 100000
set_option maxHeartbeats 4000000
open Go.RowKit
instance : Coe Int Value := ⟨fun n => .int .i64 n⟩
instance : Coe ByteArray Value := ⟨fun s => .string s⟩
instance : Coe Unit Value := ⟨fun _ => .int .i64 0⟩
theorem hD {p : Prop} (h : p) : Hid p := h
theorem ret_int {k : IntKind} {a b : Int} (h : a = b) : Ending.returned (.int k a) = .returned (.int k b) := by rw [h]
theorem ret_bool {a b : Bool} (h : a = b) : Ending.returned (.bool a) = .returned (.bool b) := by rw [h]
theorem two_rows {w : World} {A B : Obj} : ((w.alloc A).alloc B).heap[w.heap.size]? = some A ∧ ((w.alloc A).alloc B).heap[w.heap.size + 1]? = some B ∧ Below w.heap.size w ((w.alloc A).alloc B) := by
 have s1 : (w.alloc A).heap.size = w.heap.size + 1 := by simp
 have h2 := heap_alloc_new (w.alloc A) B; rw [s1] at h2; have h1 := heap_alloc_new w A; have hb : Below (w.alloc A).heap.size (w.alloc A) ((w.alloc A).alloc B) := (Below.refl _ _).alloc (Nat.le_refl _) _; exact ⟨blk_below h1 hb (blk_lt h1), h2, ((Below.refl _ _).alloc (Nat.le_refl _) A).trans (hb.mono (by rw [s1]; omega))⟩
def RetB (b : Bool) (w : World) (e : Ending) (w' : World) : Prop := e = .returned (.bool b) ∧ Below w.heap.size w w'
theorem retB_mk {b c : Bool} {w w' : World} (h : b = c) (hb : Below w.heap.size w w') : RetB b w (.returned (.bool c)) w' := by subst h; exact ⟨rfl, hb⟩
def RetS (s : SpanV) (w : World) (e : Ending) (w' : World) : Prop := e = .returned (.agg #[.int .i64 s.lo, .int .i64 s.hi]) ∧ Below w.heap.size w w'
theorem retS_mk {s : SpanV} {a b : Int} {w w' : World} (h : s = ⟨a, b⟩) (hb : Below w.heap.size w w') : RetS s w (.returned (.agg #[.int .i64 a, .int .i64 b])) w' := by subst h; exact ⟨rfl, hb⟩
theorem undSp : Tryz.prog.underlying 53 = some (.struct (Tryz.prog.fieldsOf 53)) := by kernel_rfl
theorem infoSp : (Tryz.prog.info? 53).map (·.size) = some 2 := by kernel_rfl
theorem undPb : Tryz.prog.underlying 55 = some (.struct (Tryz.prog.fieldsOf 55)) := by kernel_rfl
theorem infoPb : (Tryz.prog.info? 55).map (·.size) = some 4 := by kernel_rfl
theorem undCm : Tryz.prog.underlying 63 = some (.struct (Tryz.prog.fieldsOf 63)) := by kernel_rfl
theorem infoCm : (Tryz.prog.info? 63).map (·.size) = some 8 := by kernel_rfl
theorem undPm : Tryz.prog.underlying 38 = some (.struct (Tryz.prog.fieldsOf 38)) := by kernel_rfl
theorem infoPm : (Tryz.prog.info? 38).map (·.size) = some 6 := by kernel_rfl
theorem undBl : Tryz.prog.underlying 40 = some (.struct (Tryz.prog.fieldsOf 40)) := by kernel_rfl
theorem infoBl : (Tryz.prog.info? 40).map (·.size) = some 9 := by kernel_rfl
theorem add_any (a b : Int) (w : World) (ha : I64 a) (hb : I64 b) : Calls Tryz.prog 98 #[.int .i64 a, .int .i64 b] w fun e w' => e = .returned (.int .i64 (addS a b)) ∧ w = w' := by
 unfold I64 at ha hb; by_cases h1 : 0 < b
 ·
  by_cases h2 : 9223372036854775807 - b < a
  ·
   have HE : Hid (addS a b = 9223372036854775807) := hD (by unfold addS; rw [if_pos (by omega)]); go_enter Tryz.func98, Tryz.ntmps98; go_wp2; go_ret; exact ⟨ret_int HE.out.symm, rfl⟩
  ·
   have HE : Hid (addS a b = a + b) := hD (addS_in (by omega) (by omega)); have t1 : ¬ b < 0 := by omega
   go_enter Tryz.func98, Tryz.ntmps98; go_wp2; go_ret; exact ⟨ret_int HE.out.symm, rfl⟩
 ·
  by_cases h2 : b < 0
  ·
   by_cases h3 : a < -9223372036854775808 - b
   ·
    have HE : Hid (addS a b = -9223372036854775808) := hD (by unfold addS; rw [if_neg (by omega), if_pos (by omega)]); go_enter Tryz.func98, Tryz.ntmps98; go_wp2; go_ret; exact ⟨ret_int HE.out.symm, rfl⟩
   ·
    have HE : Hid (addS a b = a + b) := hD (addS_in (by omega) (by omega)); go_enter Tryz.func98, Tryz.ntmps98; go_wp2; go_ret; exact ⟨ret_int HE.out.symm, rfl⟩
  ·
   have HE : Hid (addS a b = a + b) := hD (addS_in (by omega) (by omega)); go_enter Tryz.func98, Tryz.ntmps98; go_wp2; go_ret; exact ⟨ret_int HE.out.symm, rfl⟩
theorem addSp_any (a b : SpanV) (w : World) (ha : SpI a) (hb : SpI b) :
 Calls Tryz.prog 78 #[.agg #[.int .i64 a.lo, .int .i64 a.hi], .agg #[.int .i64 b.lo, .int .i64 b.hi]] w (RetS (addSp a b) w) := by
 obtain ⟨r0, r1, r2, rb⟩ := three_rows (w := w) (A := .cells #[.int .i64 a.lo, .int .i64 a.hi] 53) (B := .cells #[.int .i64 b.lo, .int .i64 b.hi] 53) (C := .cells #[.int .i64 0, .int .i64 0] 53); go_enter Tryz.func78, Tryz.ntmps78; go_upto_region 1 with fail; generalize ((w.alloc (.cells #[.int .i64 a.lo, .int .i64 a.hi] 53)).alloc (.cells #[.int .i64 b.lo, .int .i64 b.hi] 53)).alloc (.cells #[.int .i64 0, .int .i64 0] 53) = w0 at *; refine wp_region_noPanic ?_; refine wp_region_held_drew (S := fun c => c.heap[w.heap.size]? = some (.cells #[.int .i64 a.lo, .int .i64 a.hi] 53 (0, 0)) ∧ c.heap[w.heap.size + 1]? = some (.cells #[.int .i64 b.lo, .int .i64 b.hi] 53 (0, 0)) ∧ Below w.heap.size w c) (by kernel_rfl) ⟨r0, r1, rb.drew⟩ (fun yH => ?_); refine tm 0 ?_; refine tm 1 ?_ (hx := by intro wz hSw; have e4 := rowN hSw.1 0 (.int .i64 a.lo) rfl; go_simp; try with_reducible rfl); refine tm 2 ?_; refine tm 3 ?_ (hx := by intro wz hSw; have e4 := rowN hSw.2.1 0 (.int .i64 b.lo) rfl; go_simp; try with_reducible rfl); refine tm 5 ?_; refine tm 6 ?_ (hx := by intro wz hSw; have e4 := rowN hSw.1 1 (.int .i64 a.hi) rfl; go_simp; try with_reducible rfl); refine tm 7 ?_; refine tm 8 ?_ (hx := by intro wz hSw; have e4 := rowN hSw.2.1 1 (.int .i64 b.hi) rfl; go_simp; try with_reducible rfl); refine wpAnyH_ready (rs := [4]) (by kernel_rfl) (by simp) ?_; refine AllReadyH.cons (by simp only [List.getElem?_toArray, List.getElem?_cons_succ, List.getElem?_cons_zero]; exact rfl) (fun K hK => ?_) AllReadyH.nil
 go_simp; refine (add_any a.lo b.lo _ ha.1 hb.1).mono ?_; rintro e w' ⟨rfl, rfl⟩; refine hK.out _ _ yH (fun yH => ?_); clear hK K; (try simp only [Act.put, List.setIfInBounds_toArray, List.set_cons_zero, List.set_cons_succ]); refine wpAnyH_ready (rs := [9]) (by kernel_rfl) (by simp) ?_; refine AllReadyH.cons (by simp only [List.getElem?_toArray, List.getElem?_cons_succ, List.getElem?_cons_zero]; exact rfl) (fun K hK => ?_) AllReadyH.nil; go_simp; refine (add_any a.hi b.hi _ ha.2 hb.2).mono ?_; rintro e w' ⟨rfl, rfl⟩; refine hK.out _ _ yH (fun yH => ?_); clear hK K; (try simp only [Act.put, List.setIfInBounds_toArray, List.set_cons_zero, List.set_cons_succ]); refine tm 10 ?_; refine wpAnyH_ready (rs := [11]) (by kernel_rfl) (by simp) ?_; refine AllReadyH.cons (by simp only [List.getElem?_toArray, List.getElem?_cons_succ, List.getElem?_cons_zero]; exact rfl) (fun K hK => ?_) AllReadyH.nil; rw [if_pos (by rfl)]; refine wp_store_row 53 _ _ rfl (w.heap.size + 1 + 1) #[.int .i64 (addS a.lo b.lo), .int .i64 (addS a.hi b.hi)] rfl rfl 53 #[.int .i64 0, .int .i64 0] r2 infoSp rfl (by simp [Value.oneCell']) ?_; have hH := setRow_heap w0.drew _ _ #[.int .i64 (addS a.lo b.lo), .int .i64 (addS a.hi b.hi)] _ _ r2; refine hK.out _ _ ⟨(setRow_other _ _ _ _ (by omega)).trans yH.1, (setRow_other _ _ _ _ (by omega)).trans yH.2.1, below_setRow yH.2.2 (by omega) _⟩ (fun yH => ?_); clear hK K; (try simp only [Act.put]); refine wpAnyH_done (by kernel_rfl) ?_ _; refine NoPanic.normal ?_; go_wp2_with fail
 exact bodyPost_ret (v := .agg #[.int .i64 (addS a.lo b.lo), .int .i64 (addS a.hi b.hi)]) (results_cell_row rfl _ _ _ 53 _ (0, 0) _ rfl hH undSp rfl infoSp) rfl (retS_mk rfl yH.2.2)

theorem rightSp_any (s : SpanV) (w : World) : Calls Tryz.prog 79 #[.agg #[.int .i64 s.lo, .int .i64 s.hi]] w (RetB (rightSp s) w) := by
 go_enter Tryz.func79, Tryz.ntmps79; go_wp2_with fail; go_ret; exact retB_mk rfl ((Below.refl _ _).alloc (Nat.le_refl _) _)
theorem ofSp_any (n : Int) (w : World) : Calls Tryz.prog 77 #[.int .i64 n] w (RetS ⟨n, n⟩ w) := by
 have HB := hD ((Below.refl w.heap.size w).alloc (Nat.le_refl _) (.cells #[.int .i64 0, .int .i64 0] 53)); have HH := hD (heap_alloc_new w (.cells #[.int .i64 0, .int .i64 0] 53)); go_enter Tryz.func77, Tryz.ntmps77; go_upto_region 1 with fail; generalize w.alloc (.cells #[.int .i64 0, .int .i64 0] 53) = w0 at *; go_wp2_with (refine sRW #[.int .i64 n, .int .i64 n] HH.out infoSp ?_); have hH := setRow_heap w0 _ _ #[.int .i64 n, .int .i64 n] _ _ HH.out; exact bodyPost_ret (v := .agg #[.int .i64 n, .int .i64 n]) (results_cell_row rfl _ _ _ 53 _ (0, 0) _ rfl hH undSp rfl infoSp) rfl (retS_mk rfl (below_setRow HB.out (Nat.le_refl _) _))
def withinB (n : Int) : Bool := decide (-1152921504606846976 ≤ n ∧ n ≤ 1152921504606846976)
theorem within_any (n : Int) (w : World) : Calls Tryz.prog 68 #[.int .i64 n] w fun e w' => e = .returned (.bool (withinB n)) ∧ w = w' := by
 by_cases h1 : -1152921504606846976 ≤ n
 ·
  by_cases h2 : n ≤ 1152921504606846976
  ·
   have HE : Hid (withinB n = true) := hD (decide_eq_true ⟨h1, h2⟩); go_enter Tryz.func68, Tryz.ntmps68; go_wp2_with fail; go_ret; exact ⟨ret_bool HE.out.symm, rfl⟩
  ·
   have HE : Hid (withinB n = false) := hD (decide_eq_false (fun h => h2 h.2)); go_enter Tryz.func68, Tryz.ntmps68; go_wp2_with fail; go_ret; exact ⟨ret_bool HE.out.symm, rfl⟩
 ·
  have HE : Hid (withinB n = false) := hD (decide_eq_false (fun h => h1 h.1)); go_enter Tryz.func68, Tryz.ntmps68; go_wp2_with fail; go_ret; exact ⟨ret_bool HE.out.symm, rfl⟩
def PbI (p : PublicV) : Prop := I64 p.hour ∧ SpI p.mouth ∧ ∀ s ∈ p.net, SpI s
theorem mouth_any (p : PublicV) (v : Value) (w : World) : Calls Tryz.prog 55 #[.agg #[.int .i64 p.hour, v, .int .i64 p.mouth.lo, .int .i64 p.mouth.hi]] w (RetS (mouthP p) w) := by
 have HB := hD (((Below.refl w.heap.size w).alloc (Nat.le_refl _) (.cells #[.int .i64 p.hour, v, .int .i64 p.mouth.lo, .int .i64 p.mouth.hi] 55)).alloc (by simp) (.cells #[.int .i64 0, .int .i64 0] 53)); have HR := hD (two_rows (w := w) (A := .cells #[.int .i64 p.hour, v, .int .i64 p.mouth.lo, .int .i64 p.mouth.hi] 55) (B := .cells #[.int .i64 0, .int .i64 0] 53)); go_enter Tryz.func55, Tryz.ntmps55; go_upto_region 1 with fail; generalize (w.alloc (.cells #[.int .i64 p.hour, v, .int .i64 p.mouth.lo, .int .i64 p.mouth.hi] 55)).alloc (.cells #[.int .i64 0, .int .i64 0] 53) = w0 at *; have HG : Hid (w0.rangeAt w.heap.size 2 [.int .i64 p.mouth.lo, .int .i64 p.mouth.hi]) := hD (range2 (rowN HR.out.1 2 _ rfl) (rowN HR.out.1 3 _ rfl)); go_wp2_with (first | (refine lRG HG.out undSp infoSp ?_) | (refine sRW #[.int .i64 p.mouth.lo, .int .i64 p.mouth.hi] HR.out.2.1 infoSp ?_)); have hH := setRow_heap w0 _ _ #[.int .i64 p.mouth.lo, .int .i64 p.mouth.hi] _ _ HR.out.2.1; exact bodyPost_ret (v := .agg #[.int .i64 p.mouth.lo, .int .i64 p.mouth.hi]) (results_cell_row rfl _ _ _ 53 _ (0, 0) _ rfl hH undSp rfl infoSp) rfl (retS_mk rfl (below_setRow HB.out (by omega) _))
theorem net1_any (p : PublicV) (v : Value) (o : Nat) (ob : Nat) (w : World) (hv : LArg RSpan 2 v p.net w) (h3 : p.net.length = 3) (ho : o < 3) (hob : w.cell? ⟨ob, 0, none⟩ = some (.int .i64 (o : Int))) (hlt : ob < w.heap.size) : Calls Tryz.prog 80 #[.agg #[.int .i64 p.hour, v, .int .i64 p.mouth.lo, .int .i64 p.mouth.hi], .pointer (some ⟨ob, 0, none⟩)] w (RetS (netP o p) w) := by
 obtain ⟨al, lc, rfl, hlc, hlm⟩ := hv.slice; obtain ⟨s, hs⟩ : ∃ s, p.net[o]? = some s := ⟨_, List.getElem?_eq_getElem (by omega)⟩; obtain ⟨b, q, cs, rfl, hb, hcl, hrg, rfl, hI⟩ := hv.at hs; have HE : Hid (netP o p = s) := hD (by unfold netP; rw [Int.toNat_natCast, hs]; rfl); have HB := hD (((Below.refl w.heap.size w).alloc (Nat.le_refl _) (.cells #[.int .i64 p.hour, .slice (some ⟨b, q, none⟩) p.net.length lc, .int .i64 p.mouth.lo, .int .i64 p.mouth.hi] 55)).alloc (by simp) (.cells #[.int .i64 0, .int .i64 0] 53)); have HR := hD (two_rows (w := w) (A := .cells #[.int .i64 p.hour, .slice (some ⟨b, q, none⟩) p.net.length lc, .int .i64 p.mouth.lo, .int .i64 p.mouth.hi] 55) (B := .cells #[.int .i64 0, .int .i64 0] 53)); have HG := hD (rangeAt_below hrg HB.out hb); have c9 := (HB.out.cell (p := ⟨ob, 0, none⟩) hlt).trans hob; have hol : o < p.net.length := by omega
 clear hs hv h3 hob hrg; go_enter Tryz.func80, Tryz.ntmps80; go_upto_region 1 with fail; generalize (w.alloc (.cells #[.int .i64 p.hour, .slice (some ⟨b, q, none⟩) p.net.length lc, .int .i64 p.mouth.lo, .int .i64 p.mouth.hi] 55)).alloc (.cells #[.int .i64 0, .int .i64 0] 53) = w0 at *; have c1 := rowN HR.out.1 1 (.slice (some ⟨b, q, none⟩) p.net.length lc) rfl; go_wp2_with (first | (refine lRG HG.out undSp infoSp ?_) | (refine sRW #[.int .i64 s.lo, .int .i64 s.hi] HR.out.2.1 infoSp ?_)); have hH := setRow_heap w0 _ _ #[.int .i64 s.lo, .int .i64 s.hi] _ _ HR.out.2.1; exact bodyPost_ret (v := .agg #[.int .i64 s.lo, .int .i64 s.hi]) (results_cell_row rfl _ _ _ 53 _ (0, 0) _ rfl hH undSp rfl infoSp) rfl (retS_mk HE.out (below_setRow HB.out (by omega) _))
theorem net_any (o : Int) (w : World) : Calls Tryz.prog 45 #[.int .i64 o] w fun e w' => e = .returned (.func (.func 80) #[] #[.pointer (some ⟨w.heap.size, 0, none⟩)]) ∧ w' = w.alloc (.cells #[.int .i64 o] 3) := by
 go_enter Tryz.func45, Tryz.ntmps45; go_wp2_with fail; go_ret; exact ⟨rfl, rfl⟩
end Go.Proofs.YtjbjpkhibcnenaaGreatDoor
/- Maps from int to any values of a list, as functions. -/
namespace Go.Proofs.YtjbjpkhibcnenaaGreatDoor
open Go.RowKit Go.Maps
theorem i64_mk {n : Int} (h : I64 n) : (Lit.int .i64 n).wf = true := by
 unfold I64 at h
 simp [Lit.wf, IntKind.min, IntKind.max, IntKind.signed, IntKind.bits]
 omega
theorem ovD_inj {a b : OV} (h : ovD (H := Unit) a = ovD b) : a = b := by
 unfold ovD at h
 simp only [DataW.agg.injEq, List.cons.injEq, DataW.lit.injEq, Lit.int.injEq, Lit.bool.injEq, true_and, and_true] at h
 obtain ⟨h1, h2, h3, h4⟩ := h
 cases a; cases b
 simp only [OV.mk.injEq]
 exact ⟨h1, h2, h3, h4⟩
abbrev RdR := Value → Option (DataW Unit × List MemPlace)
def zeroO : OV := ⟨-1, 0, 0, false⟩
def ixO (j : Nat) : OV := ⟨(j : Int), 0, 0, false⟩
open Classical in
noncomputable def ixR (z : Value) (vs : List Value) : RdR := fun v =>
 if v = z then some (ovD zeroO, []) else if h : ∃ j : Nat, vs[j]? = some v then some (ovD (ixO (Classical.choose h)), []) else none
open Classical in
noncomputable def decO (z : Value) (vs : List Value) (o : OV) : Value := if o = zeroO then z else (vs[o.level.toNat]?).getD z
theorem ix_ne (j : Nat) : ixO j ≠ zeroO := fun h => by
 unfold ixO zeroO at h
 simp only [OV.mk.injEq] at h
 omega
theorem decO_zero (z : Value) (vs : List Value) : decO z vs zeroO = z := by unfold decO; rw [if_pos rfl]
theorem ixR_zero (z : Value) (vs : List Value) : ixR z vs z = some (ovD zeroO, []) := by unfold ixR; rw [if_pos rfl]
theorem ixR_mk {z : Value} {vs : List Value} {v : Value} (h : v = z ∨ v ∈ vs) : ∃ o, ixR z vs v = some (ovD o, []) ∧ decO z vs o = v := by
 by_cases hz : v = z
 ·
  subst hz
  exact ⟨zeroO, ixR_zero _ _, decO_zero _ _⟩
 ·
  have hj : ∃ j : Nat, vs[j]? = some v := by
   rcases h with h | h
   · exact absurd h hz
   · exact List.getElem?_of_mem h
  refine ⟨ixO (Classical.choose hj), ?_, ?_⟩
  ·
   unfold ixR
   rw [if_neg hz, dif_pos hj]
  ·
   unfold decO
   rw [if_neg (ix_ne _)]
   have := Classical.choose_spec hj
   show (vs[(Int.toNat (Classical.choose hj : Nat))]?).getD z = v
   rw [Int.toNat_natCast, this]
   rfl
theorem ixR_inv {z : Value} {vs : List Value} {v : Value} {o : OV} {ps : List MemPlace} (h : ixR z vs v = some (ovD o, ps)) : v = decO z vs o := by
 unfold ixR at h
 split at h
 ·
  next hz =>
  simp only [Option.some.injEq, Prod.mk.injEq] at h
  have := ovD_inj h.1
  subst this
  rw [decO_zero]
  exact hz
 ·
  split at h
  ·
   next hj =>
   simp only [Option.some.injEq, Prod.mk.injEq] at h
   have := ovD_inj h.1
   subst this
   unfold decO
   rw [if_neg (ix_ne _)]
   have := Classical.choose_spec hj
   show v = (vs[(Int.toNat (Classical.choose hj : Nat))]?).getD z
   rw [Int.toNat_natCast, this]
   rfl
  · cases h
theorem lawI : Keyed Tryz.prog 3 := int_keyed Tryz.underlying3
/-- the map in block mb holds f; at most n entries; its values are z or of the list vs -/
def MapF (z : Value) (vs : List Value) (w : World) (mb n : Nat) (f : Int → Option Value) : Prop :=
 ∃ m : OM, w.ownsMap Tryz.prog 3 (ixR z vs) mb n (omD m) ∧ ∀ t, f t = (getM m t).map (decO z vs)
theorem MapF.made (z : Value) (vs : List Value) (w : World) : MapF z vs (w.alloc (.map #[] 0)) w.heap.size 0 (fun _ => none) :=
 ⟨[], World.ownsMap_made w Tryz.prog 3 (ixR z vs), fun _ => rfl⟩
theorem MapF.lt {z : Value} {vs : List Value} {w : World} {mb n : Nat} {f : Int → Option Value} (h : MapF z vs w mb n f) : mb < w.heap.size := by
 obtain ⟨m, ⟨es, clock, hm, _⟩, _⟩ := h
 exact (Array.getElem?_eq_some_iff.1 hm).1
theorem MapF.keep {z : Value} {vs : List Value} {w w' : World} {mb n : Nat} {f : Int → Option Value} (h : MapF z vs w mb n f) (hb : w'.heap[mb]? = w.heap[mb]?) : MapF z vs w' mb n f := by
 obtain ⟨m, ⟨es, clock, hm, h2⟩, h3⟩ := h
 exact ⟨m, ⟨es, clock, hb.trans hm, h2⟩, h3⟩
theorem MapF.below {z : Value} {vs : List Value} {w w' : World} {mb n : Nat} {f : Int → Option Value} (h : MapF z vs w mb n f) (hb : Below w.heap.size w w') : MapF z vs w' mb n f := h.keep (hb.block mb h.lt)
theorem MapF.mono {z : Value} {vs : List Value} {w : World} {mb n n' : Nat} {f : Int → Option Value} (h : MapF z vs w mb n f) (hn : n ≤ n') : MapF z vs w mb n' f := by
 obtain ⟨m, h2, h3⟩ := h
 exact ⟨m, h2.mono hn, h3⟩
theorem atKey_ordA (m : OM) (t : Int) : (omD (H := Unit) m).atKey (.int .i64 t) (ovD zeroO) = ovD ((getM m t).getD zeroO) := by
 rw [omD_atKey]
 cases getM m t <;> rfl
theorem MapF.look {mt vt : TypeId} {z : Value} {vs : List Value} {w : World} {mb n : Nat} {f : Int → Option Value} (hu : Tryz.prog.underlying mt = some (.map 3 vt)) (hz : (zeroValue vt).run Tryz.prog w = .ok z w) (h : MapF z vs w mb n f) {t : Int} (ht : I64 t) :
 (Instr.lookup mt (.map (some mb)) (.int .i64 t) false).run Tryz.prog w = .ok ((f t).getD z) w := by
 obtain ⟨m, h, hf⟩ := h
 obtain ⟨v, ps, hrun, hR⟩ := h.lookup lawI hu hz (ixR_zero z vs) (keyOf_int_mk Tryz.underlying3 (i64_mk ht))
 rw [atKey_ordA] at hR
 have := ixR_inv hR
 rw [hrun, hf, this]
 cases getM m t with
 | none => show _ = Result.ok z w; rw [Option.getD_none, decO_zero]
 | some o => rfl
theorem MapF.look_ok {mt vt : TypeId} {z : Value} {vs : List Value} {w : World} {mb n : Nat} {f : Int → Option Value} (hu : Tryz.prog.underlying mt = some (.map 3 vt)) (hz : (zeroValue vt).run Tryz.prog w = .ok z w) (h : MapF z vs w mb n f) {t : Int} (ht : I64 t) :
 (Instr.lookup mt (.map (some mb)) (.int .i64 t) true).run Tryz.prog w = .ok (.tuple #[(f t).getD z, .bool (f t).isSome]) w := by
 have hkey := keyOf_int_mk Tryz.underlying3 (i64_mk ht)
 obtain ⟨m, ⟨es, clock, hb, F, _, hD⟩, hf⟩ := h
 rcases Maps.fit_look true lawI hu hz hb F hkey with ⟨hrun, hno, hat⟩ | ⟨e0, y, hm, he, hrun, hRv, hat, _⟩
 ·
  rw [← hD] at hat
  have h1 : (omD (H := Unit) m).atKey (.int .i64 t) (.lit (.bool true)) = .lit (.bool true) := hat _
  rw [omD_atKey] at h1
  cases hg : getM m t with
  | none =>
   rw [hf, hg]
   exact hrun
  | some o =>
   rw [hg] at h1
   cases h1
 ·
  rw [← hD] at hat
  have h1 := hat (.lit (.bool true))
  rw [omD_atKey] at h1
  cases hg : getM m t with
  | none =>
   have h2 := hat (.lit (.bool false))
   rw [omD_atKey, hg] at h2
   rw [hg] at h1
   rw [← h1] at h2
   cases h2
  | some o =>
   rw [hg] at h1
   obtain ⟨y1, y2⟩ := y
   simp only at h1
   subst h1
   have := ixR_inv hRv
   rw [hf, hg]
   show _ = Result.ok (Value.tuple #[decO z vs o, .bool true]) w
   rw [← this]
   exact hrun
theorem MapF.put {mt vt : TypeId} {z : Value} {vs : List Value} {w : World} {mb n : Nat} {f : Int → Option Value} (hu : Tryz.prog.underlying mt = some (.map 3 vt)) (h : MapF z vs w mb n f) {t : Int} (ht : I64 t) {v : Value} (hv : v = z ∨ v ∈ vs) (hn : n < maxLen) :
 ∃ w', (Instr.mapUpdate mt (.map (some mb)) (.int .i64 t) v).run Tryz.prog w = .ok () w' ∧ MapF z vs w' mb (n + 1) (fun s => if s = t then some v else f s) ∧ w.grownBy w' (some mb) := by
 obtain ⟨m, h, hf⟩ := h
 obtain ⟨o, ho, hd⟩ := ixR_mk hv
 obtain ⟨w', hup, hown, hgr⟩ := World.ownsMap.update (H := Unit) h lawI hu hn (keyOf_int_mk Tryz.underlying3 (i64_mk ht)) ho
 rw [omD_put] at hown
 refine ⟨w', hup, ⟨_, hown, fun s => ?_⟩, hgr⟩
 show (if s = t then some v else f s) = _
 rw [getM_put]
 by_cases e : s = t
 ·
  rw [if_pos e, if_pos e]
  show some v = some (decO z vs o)
  rw [hd]
 ·
  rw [if_neg e, if_neg e]
  exact hf s
end Go.Proofs.YtjbjpkhibcnenaaGreatDoor
/- audit.byHour: the public data that count, by hour. -/
namespace Go.Proofs.YtjbjpkhibcnenaaGreatDoor
open Go.RowKit Go.Maps
theorem undMB : Tryz.prog.underlying 122 = some (.map 3 4) := by kernel_rfl
theorem undMP : Tryz.prog.underlying 90 = some (.map 3 55) := by kernel_rfl
theorem zeroB (w : World) : (zeroValue 4).run Tryz.prog w = .ok (.bool false) w := by kernel_rfl
def zPb : Value := .agg #[(), .slice none 0 0, (), ()]
theorem zeroPb (w : World) : (zeroValue 55).run Tryz.prog w = .ok zPb w := by kernel_rfl
abbrev QV := PublicV × Value
def pbV (q : QV) : Value := .agg #[.int .i64 q.1.hour, q.2, .int .i64 q.1.mouth.lo, .int .i64 q.1.mouth.hi]
def seenF (zs : List QV) (h : Int) : Option Value := (zs.find? (fun q => decide (q.1.hour = h))).map fun _ => .bool true
def hoursV (zs : List QV) (h : Int) : Option Value :=
 match zs.find? (fun q => decide (q.1.hour = h)) with
 | some q => if rightPb q.1 = true then some (pbV q) else none
 | none => none
theorem find_snoc {α : Type} {zs : List α} {k : Nat} {q : α} (h : zs[k]? = some q) (P : α → Bool) : (zs.take (k + 1)).find? P = match (zs.take k).find? P with | some y => some y | none => if P q = true then some q else none := by
 rw [List.take_add_one, h, List.find?_append]
 cases (zs.take k).find? P with
 | some y => rfl
 | none =>
  by_cases hP : P q = true
  · simp [hP]
  · simp [hP]
theorem seen_old {zs : List QV} {k : Nat} {q : QV} (h : zs[k]? = some q) (hs : (seenF (zs.take k) q.1.hour).isSome = true) : seenF (zs.take (k + 1)) = seenF (zs.take k) ∧ hoursV (zs.take (k + 1)) = hoursV (zs.take k) := by
 have key : ∀ t, (zs.take (k + 1)).find? (fun q => decide (q.1.hour = t)) = (zs.take k).find? (fun q => decide (q.1.hour = t)) := fun t => by
  rw [find_snoc h]
  cases hf : (zs.take k).find? (fun q => decide (q.1.hour = t)) with
  | some y => rfl
  | none =>
   by_cases e : q.1.hour = t
   ·
    unfold seenF at hs; rw [e, hf] at hs
    cases hs
   · simp [e]
 constructor
 · funext t; unfold seenF; rw [key t]
 · funext t; unfold hoursV; rw [key t]
theorem seen_new {zs : List QV} {k : Nat} {q : QV} (h : zs[k]? = some q) (hs : seenF (zs.take k) q.1.hour = none) :
 seenF (zs.take (k + 1)) = (fun s => if s = q.1.hour then some (.bool true) else seenF (zs.take k) s) ∧
 (rightPb q.1 = true → hoursV (zs.take (k + 1)) = fun s => if s = q.1.hour then some (pbV q) else hoursV (zs.take k) s) ∧
 (rightPb q.1 = false → hoursV (zs.take (k + 1)) = hoursV (zs.take k)) := by
 have h0 : (zs.take k).find? (fun p => decide (p.1.hour = q.1.hour)) = none := by
  unfold seenF at hs; rw [Option.map_eq_none_iff] at hs; exact hs
 refine ⟨?_, fun hr => ?_, fun hr => ?_⟩
 ·
  funext s
  unfold seenF; rw [find_snoc h]; by_cases e : s = q.1.hour
  ·
   subst e; rw [h0]; simp
  ·
   rw [if_neg e]
   cases (zs.take k).find? (fun p => decide (p.1.hour = s)) with
   | some y => rfl
   | none => simp [show ¬ q.1.hour = s from fun e2 => e e2.symm]
 ·
  funext s
  unfold hoursV; rw [find_snoc h]; by_cases e : s = q.1.hour
  ·
   subst e; rw [h0]; simp [hr]
  ·
   rw [if_neg e]
   cases (zs.take k).find? (fun p => decide (p.1.hour = s)) with
   | some y => rfl
   | none => simp [show ¬ q.1.hour = s from fun e2 => e e2.symm]
 ·
  funext s
  unfold hoursV; rw [find_snoc h]; by_cases e : s = q.1.hour
  ·
   subst e; rw [h0]; simp [hr]
  ·
   cases (zs.take k).find? (fun p => decide (p.1.hour = s)) with
   | some y => rfl
   | none => simp [show ¬ q.1.hour = s from fun e2 => e e2.symm]
def QsAt (zs : List QV) (a : Option Addr) (w : World) : Prop :=
 ∀ (j : Nat) (q : QV), zs[j]? = some q → ∃ b o, a = some ⟨b, o, none⟩ ∧ b < w.heap.size ∧ w.rangeAt b (o + j * 4) [.int .i64 q.1.hour, q.2, .int .i64 q.1.mouth.lo, .int .i64 q.1.mouth.hi] ∧ I64 q.1.hour ∧ SpI q.1.mouth ∧ LArg RSpan 2 q.2 q.1.net w
theorem zip_list {α β : Type} (P : Nat → α → β → Prop) : ∀ (l : List α) (i : Nat), (∀ j x, l[j]? = some x → ∃ y, P (i + j) x y) → ∃ zs : List (α × β), zs.map (·.1) = l ∧ ∀ j q, zs[j]? = some q → P (i + j) q.1 q.2
 | [], _, _ => ⟨[], rfl, fun j q h => by simp at h⟩
 | x :: l, i, h => by
  obtain ⟨y, hy⟩ := h 0 x rfl
  obtain ⟨zs, h1, h2⟩ := zip_list P l (i + 1) (fun j z hz => by
   obtain ⟨u, hu⟩ := h (j + 1) z hz
   exact ⟨u, by rw [show i + 1 + j = i + (j + 1) by omega]; exact hu⟩)
  refine ⟨(x, y) :: zs, by simp [h1], fun j q hq => ?_⟩
  cases j with
  | zero => cases hq; exact hy
  | succ j =>
   have := h2 j q hq; rw [show i + 1 + j = i + (j + 1) by omega] at this; exact this
theorem qs_of {pubs : List PublicV} {a : Option Addr} {n c : Nat} {w : World} (h : LArg RPublic 4 (.slice a n c) pubs w) : ∃ zs : List QV, zs.map (·.1) = pubs ∧ QsAt zs a w := by
 obtain ⟨zs, h1, h2⟩ := zip_list (fun (j : Nat) (p : PublicV) (v : Value) => ∃ b o, a = some ⟨b, o, none⟩ ∧ b < w.heap.size ∧ w.rangeAt b (o + j * 4) [.int .i64 p.hour, v, .int .i64 p.mouth.lo, .int .i64 p.mouth.hi] ∧ I64 p.hour ∧ SpI p.mouth ∧ LArg RSpan 2 v p.net w) pubs 0 (fun j p hp => by
  obtain ⟨b, o, cs, h1, h2, h3, h4, v, rfl, h5, h6, h7, h8⟩ := h.at hp; rw [Nat.zero_add]
  exact ⟨v, b, o, h1, h2, h4, h5, ⟨h6, h7⟩, h8⟩)
 refine ⟨zs, h1, fun j q hq => ?_⟩; have := h2 j q hq; rw [Nat.zero_add] at this; exact this
def HoursAt (mb : Nat) (pubs : List PublicV) (w : World) : Prop :=
 ∃ (vs : List Value) (n : Nat) (f : Int → Option Value), MapF zPb vs w mb n f ∧ ∀ h, match hoursF pubs h with
  | none => f h = none
  | some p => ∃ v, f h = some (pbV (p, v)) ∧ LArg RSpan 2 v p.net w
theorem HoursAt.below {mb : Nat} {pubs : List PublicV} {w w' : World} (h : HoursAt mb pubs w) (hb : Below w.heap.size w w') : HoursAt mb pubs w' := by
 obtain ⟨vs, n, f, h1, h2⟩ := h; refine ⟨vs, n, f, h1.below hb, fun t => ?_⟩; have := h2 t
 cases e : hoursF pubs t with
 | none => rw [e] at this; exact this
 | some p =>
  rw [e] at this; obtain ⟨v, h3, h4⟩ := this; exact ⟨v, h3, h4.below stays_Span hb⟩
theorem HoursAt.look {mb : Nat} {pubs : List PublicV} {w : World} (h : HoursAt mb pubs w) {t : Int} (ht : I64 t) :
 match hoursF pubs t with
 | none => (Instr.lookup 90 (.map (some mb)) (.int .i64 t) true).run Tryz.prog w = .ok (.tuple #[zPb, .bool false]) w
 | some p => ∃ v, (Instr.lookup 90 (.map (some mb)) (.int .i64 t) true).run Tryz.prog w = .ok (.tuple #[pbV (p, v), .bool true]) w ∧ LArg RSpan 2 v p.net w := by
 obtain ⟨vs, n, f, h1, h2⟩ := h; have h3 := h1.look_ok undMP (zeroPb w) ht; have := h2 t
 cases e : hoursF pubs t with
 | none =>
  rw [e] at this; rw [this] at h3; exact h3
 | some p =>
  rw [e] at this; obtain ⟨v, h4, h5⟩ := this; rw [h4] at h3; exact ⟨v, h3, h5⟩
theorem hours_made {zs : List QV} {pubs : List PublicV} (h : zs.map (·.1) = pubs) (t : Int) : match hoursF pubs t with
 | none => hoursV zs t = none
 | some p => ∃ q ∈ zs, q.1 = p ∧ hoursV zs t = some (pbV q) := by
 subst h
 have key : (zs.map (·.1)).find? (fun p => decide (p.hour = t)) = (zs.find? (fun q => decide (q.1.hour = t))).map (·.1) := by
  induction zs with
  | nil => rfl
  | cons q zs ih =>
   by_cases e : q.1.hour = t
   · simp [e]
   ·
    simp only [List.map_cons, List.find?_cons, e, decide_false]; exact ih
 unfold hoursF hoursV; rw [key]
 cases hf : zs.find? (fun q => decide (q.1.hour = t)) with
 | none => rfl
 | some q =>
  simp only [Option.map_some]; by_cases hr : rightPb q.1 = true
  ·
   rw [if_pos hr]; exact ⟨q, List.mem_of_find?_eq_some hf, rfl, by rw [if_pos hr]⟩
  ·
   rw [if_neg hr]; simp only; rw [if_neg hr]
structure BY (w : World) (zs : List QV) (bE sb mb n : Nat) (fs fh : Int → Option Value) (q : QV) (c : World) : Prop where
 row : c.heap[bE]? = some (.cells #[.int .i64 q.1.hour, q.2, .int .i64 q.1.mouth.lo, .int .i64 q.1.mouth.hi] 55 (0, 0))
 seen : MapF (.bool false) [.bool true] c sb n fs
 hours : MapF zPb (zs.map pbV) c mb n fh
 below : Below w.heap.size w c
theorem BY.step {w c c' : World} {zs : List QV} {bE sb mb n : Nat} {fs fh : Int → Option Value} {q : QV} (h : BY w zs bE sb mb n fs fh q c) (hb : Below c.heap.size c c') : BY w zs bE sb mb n fs fh q c' :=
 ⟨blk_below h.row hb (blk_lt h.row), h.seen.below hb, h.hours.below hb, h.below.trans (hb.mono h.below.size)⟩
end Go.Proofs.YtjbjpkhibcnenaaGreatDoor
/- audit.Find: the plain law of fork. -/
namespace Go.Proofs.YtjbjpkhibcnenaaGreatDoor
def firstF (L : List CV) (h : Int) : Option CV := L.find? (fun c => decide (c.hour = h))
def splitF (L : List CV) (h : Int) : Option CV :=
 match firstF L h with
 | some f => L.find? (fun c => decide (c.hour = h) && decide (c ≠ f))
 | none => none
def forkF (L : List CV) : Option (CV × CV) := L.findSome? (fun c => (splitF L c.hour).map fun d => (c, d))
theorem firstF_new {L : List CV} {k : Nat} {c : CV} (hc : L[k]? = some c) (h : firstF (L.take k) c.hour = none) :
 (firstF (L.take (k + 1)) = fun s => if s = c.hour then some c else firstF (L.take k) s) ∧ splitF (L.take (k + 1)) = splitF (L.take k) := by
 have h1 : firstF (L.take (k + 1)) = fun s => if s = c.hour then some c else firstF (L.take k) s := by
  funext s
  unfold firstF at h ⊢; rw [find_snoc hc]; by_cases e : s = c.hour
  ·
   subst e; rw [h]; simp
  ·
   rw [if_neg e]
   cases (L.take k).find? (fun c => decide (c.hour = s)) with
   | some y => rfl
   | none => simp [show ¬ c.hour = s from fun e2 => e e2.symm]
 refine ⟨h1, ?_⟩
 funext s
 unfold splitF; rw [h1]; dsimp only; by_cases e : s = c.hour
 ·
  subst e; rw [if_pos rfl, h]; simp only; rw [find_snoc hc]
  have : (L.take k).find? (fun d => decide (d.hour = c.hour) && decide (d ≠ c)) = none := by
   rw [List.find?_eq_none]; intro d hd hh; unfold firstF at h; rw [List.find?_eq_none] at h; exact h d hd (by simp at hh; simp [hh.1])
  rw [this]; simp
 ·
  rw [if_neg e]
  cases firstF (L.take k) s with
  | none => rfl
  | some f =>
   simp only; rw [find_snoc hc]
   cases (L.take k).find? (fun d => decide (d.hour = s) && decide (d ≠ f)) with
   | some y => rfl
   | none => simp [show ¬ c.hour = s from fun e2 => e e2.symm]
theorem firstF_old {L : List CV} {k : Nat} {c f : CV} (hc : L[k]? = some c) (h : firstF (L.take k) c.hour = some f) :
 firstF (L.take (k + 1)) = firstF (L.take k) ∧
 ((splitF (L.take k) c.hour = none ∧ c ≠ f) → splitF (L.take (k + 1)) = fun s => if s = c.hour then some c else splitF (L.take k) s) ∧
 (¬ (splitF (L.take k) c.hour = none ∧ c ≠ f) → splitF (L.take (k + 1)) = splitF (L.take k)) := by
 have h1 : firstF (L.take (k + 1)) = firstF (L.take k) := by
  funext s
  by_cases e : s = c.hour
  ·
   subst e; rw [h]; unfold firstF at h ⊢; rw [find_snoc hc, h]
  ·
   unfold firstF; rw [find_snoc hc]
   cases (L.take k).find? (fun c => decide (c.hour = s)) with
   | some y => rfl
   | none => simp [show ¬ c.hour = s from fun e2 => e e2.symm]
 have h2 : ∀ s, s ≠ c.hour → splitF (L.take (k + 1)) s = splitF (L.take k) s := fun s e => by
  unfold splitF; rw [h1]
  cases firstF (L.take k) s with
  | none => rfl
  | some g =>
   simp only; rw [find_snoc hc]
   cases (L.take k).find? (fun d => decide (d.hour = s) && decide (d ≠ g)) with
   | some y => rfl
   | none => simp [show ¬ c.hour = s from fun e2 => e e2.symm]
 have h3 : splitF (L.take (k + 1)) c.hour = match splitF (L.take k) c.hour with | some y => some y | none => if c ≠ f then some c else none := by
  unfold splitF; rw [h1, h]; simp only; rw [find_snoc hc]
  cases (L.take k).find? (fun d => decide (d.hour = c.hour) && decide (d ≠ f)) with
  | some y => rfl
  | none => simp
 refine ⟨h1, fun ⟨e1, e2⟩ => ?_, fun hn => ?_⟩
 ·
  funext s
  by_cases e : s = c.hour
  ·
   subst e; rw [if_pos rfl, h3, e1]; simp [e2]
  · rw [if_neg e, h2 s e]
 ·
  funext s
  by_cases e : s = c.hour
  ·
   subst e; rw [h3]
   cases hs : splitF (L.take k) c.hour with
   | some y => rfl
   | none =>
    have : c = f := Classical.byContradiction (fun e2 => hn ⟨hs, e2⟩); simp [this]
  · exact h2 s e
theorem splitF_none {L : List CV} {c : CV} (hc : c ∈ L) : splitF L c.hour = none ↔ ∀ d ∈ L, forkB c d = false := by
 cases hf : firstF L c.hour with
 | none =>
  unfold firstF at hf; rw [List.find?_eq_none] at hf; exact absurd (hf c hc) (by simp)
 | some f =>
  have hfm := List.mem_of_find?_eq_some hf; have hfh : f.hour = c.hour := by have := List.find?_some hf; simpa using this
  unfold splitF; rw [hf]; simp only; rw [List.find?_eq_none]
  constructor
  ·
   intro h d hd; have e1 : c = f := Classical.byContradiction (fun e => h c hc (by simp [e])); unfold forkB; by_cases e : c.hour = d.hour
   ·
    have e2 : d = f := Classical.byContradiction (fun e3 => h d hd (by simp [e, e3])); simp [e1, e2]
   · simp [e]
  ·
   intro h d hd hh; simp only [Bool.and_eq_true, decide_eq_true_eq] at hh; have g1 := h f hfm; have g2 := h d hd; unfold forkB at g1 g2; have e1 : c = f := Classical.byContradiction (fun e => by simp [hfh, e] at g1); have e2 : c = d := Classical.byContradiction (fun e => by simp [hh.1, e] at g2); exact hh.2 (e2.symm.trans e1)
theorem forkF_is (L : List CV) : forkF L = first2 forkB L L := by
 have key : ∀ (l1 l2 : List CV), L = l1 ++ l2 → (∀ c ∈ l1, ∀ d ∈ L, forkB c d = false) → l2.findSome? (fun c => (splitF L c.hour).map fun d => (c, d)) = l2.findSome? (fun c => (L.find? (forkB c)).map fun d => (c, d)) := by
  intro l1 l2
  induction l2 generalizing l1 with
  | nil => intro _ _; rfl
  | cons c l2 ih =>
   intro hL hno; have hcm : c ∈ L := by rw [hL]; simp
   rw [List.findSome?_cons, List.findSome?_cons]
   cases hs : splitF L c.hour with
   | none =>
    have hn := (splitF_none hcm).1 hs
    have : L.find? (forkB c) = none := by
     rw [List.find?_eq_none]; intro d hd; rw [hn d hd]
     decide
    rw [this]; simp only [Option.map_none]
    exact ih (l1 ++ [c]) (by rw [hL]; simp) (fun x hx d hd => by
     rcases List.mem_append.1 hx with hx | hx
     · exact hno x hx d hd
     ·
      have : x = c := by simpa using hx
      rw [this]; exact hn d hd)
   | some d =>
    have hf : firstF L c.hour = some c := by
     cases hg : firstF L c.hour with
     | none =>
      unfold splitF at hs; rw [hg] at hs
      cases hs
     | some f =>
      have hfh : f.hour = c.hour := by have := List.find?_some hg; simpa using this
      have hfm := List.mem_of_find?_eq_some hg; by_cases e : f = c
      · rw [e]
      ·
       exfalso
       unfold firstF at hg; rw [hL, List.find?_append] at hg
       cases h1 : l1.find? (fun x => decide (x.hour = c.hour)) with
       | some g =>
        rw [h1] at hg; have : g = f := by simpa using hg
        subst this; have := hno g (List.mem_of_find?_eq_some h1) c hcm; unfold forkB at this; simp [hfh, e] at this
       | none =>
        rw [h1, List.find?_cons_of_pos (by simp)] at hg; exact e (by simpa using hg.symm)
    unfold splitF at hs; rw [hf] at hs; simp only at hs
    have : L.find? (forkB c) = some d := by
     rw [← hs]
     congr 1
     funext x
     unfold forkB; by_cases e1 : c.hour = x.hour
     ·
      by_cases e2 : c = x
      · simp [e2]
      · simp [e1, e2, show ¬ x = c from fun h => e2 h.symm]
     · simp [e1, show ¬ x.hour = c.hour from fun h => e1 h.symm]
    rw [this]
    rfl
 exact key [] L rfl (fun c hc => by simp at hc)
end Go.Proofs.YtjbjpkhibcnenaaGreatDoor
