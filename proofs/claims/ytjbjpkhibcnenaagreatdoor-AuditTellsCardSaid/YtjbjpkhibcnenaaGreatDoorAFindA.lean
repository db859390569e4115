/- Texts merged: ACheckC AFindA -/
import Derived.Test.YtjbjpkhibcnenaaGreatDoorACheckB
import Derived.Test.YtjbjpkhibcnenaaGreatDoorACheckM
import Derived.Deep.DeepCutAuto
/- audit.newJudge, conditions, Check. -/
namespace Go.Proofs.YtjbjpkhibcnenaaGreatDoor
set_option maxRecDepth 100000
set_option maxHeartbeats 4000000
open Go.RowKit
theorem undBn : Tryz.prog.underlying 31 = some (.struct (Tryz.prog.fieldsOf 31)) := by kernel_rfl
theorem infoBn : (Tryz.prog.info? 31).map (·.size) = some 11 := by kernel_rfl
structure JIn (ar ap : Option Addr) (cr cp : Nat) (err : Int) (room ps : List Int) (vq : Value) (pubs : List PublicV) (w : World) : Prop where
 lroom : LArg RInt 1 (.slice ar 3 cr) room w
 lpubs : LArg RInt 1 (.slice ap 3 cp) ps w
 lq : LArg RPublic 4 vq pubs w
 lr : room.length = 3
 lp : ps.length = 3
 e0 : 0 ≤ err ∧ err ≤ 1099511627776
 r0 : ∀ r ∈ room, 0 ≤ r ∧ r ≤ 1125899906842624
 hl : pubs.length ≤ 1000
theorem JIn.below {ar ap : Option Addr} {cr cp : Nat} {err : Int} {room ps : List Int} {vq : Value} {pubs : List PublicV} {w w' : World} (h : JIn ar ap cr cp err room ps vq pubs w) (hb : Below w.heap.size w w') : JIn ar ap cr cp err room ps vq pubs w' :=
 ⟨h.lroom.below stays_int hb, h.lpubs.below stays_int hb, h.lq.below stays_Public hb, h.lr, h.lp, h.e0, h.r0, h.hl⟩
theorem JIn.pbI {ar ap : Option Addr} {cr cp : Nat} {err : Int} {room ps : List Int} {vq : Value} {pubs : List PublicV} {w : World} (h : JIn ar ap cr cp err room ps vq pubs w) : ∀ p ∈ pubs, PbI p := fun p hp => by
 obtain ⟨j, hj⟩ := List.getElem?_of_mem hp; obtain ⟨a, c, rfl, _⟩ := h.lq.slice; obtain ⟨b, o, cs, _, _, _, _, v, _, h1, h2, h3, h4⟩ := h.lq.at hj; refine ⟨h1, ⟨h2, h3⟩, fun s hs => ?_⟩; obtain ⟨i, hi⟩ := List.getElem?_of_mem hs; obtain ⟨a2, c2, rfl, _⟩ := h4.slice; obtain ⟨_, _, _, _, _, _, _, _, h5⟩ := h4.at hi; exact h5
def RetJ (ar ap : Option Addr) (cr cp : Nat) (err : Int) (room ps : List Int) (pubs : List PublicV) (w : World) (e : Ending) (w' : World) : Prop :=
 ∃ jb mb, e = .returned (.pointer (some ⟨jb, 0, none⟩)) ∧ JudgeAt jb mb ar ap cr cp err room ps pubs w' ∧ w.heap.size ≤ jb ∧ Below w.heap.size w w'
theorem newJudge_any (x : BsX) (ar ap : Option Addr) (cr cp : Nat) (err : Int) (room ps : List Int) (vq : Value) (pubs : List PublicV) (w : World) (hI : JIn ar ap cr cp err room ps vq pubs w) : Calls Tryz.prog 23 #[.agg #[x.nm, .slice x.a1 x.n1 x.c1, x.k, .slice x.a3 x.n3 x.c3, .slice x.a4 x.n4 x.c4, .slice x.a5 x.n5 x.c5, .slice x.a6 x.n6 x.c6, .slice x.a7 x.n7 x.c7, .slice x.a8 x.n8 x.c8, .slice ar 3 cr, err], .slice ap 3 cp, vq] w (RetJ ar ap cr cp err room ps pubs w) := by
 have HI := hD hI; clear hI; have HR := hD ((RowsS.nil w).alloc (.cells #[x.nm, .slice x.a1 x.n1 x.c1, x.k, .slice x.a3 x.n3 x.c3, .slice x.a4 x.n4 x.c4, .slice x.a5 x.n5 x.c5, .slice x.a6 x.n6 x.c6, .slice x.a7 x.n7 x.c7, .slice x.a8 x.n8 x.c8, .slice ar 3 cr, err] 31)); go_enter Tryz.func23, Tryz.ntmps23; go_upto_region 1 with fail; generalize w.alloc (.cells #[x.nm, .slice x.a1 x.n1 x.c1, x.k, .slice x.a3 x.n3 x.c3, .slice x.a4 x.n4 x.c4, .slice x.a5 x.n5 x.c5, .slice x.a6 x.n6 x.c6, .slice x.a7 x.n7 x.c7, .slice x.a8 x.n8 x.c8, .slice ar 3 cr, err] 31) = w0 at *; refine wrd (S := RowsS w _) (HR.out.drew) (fun yH => ?_); refine tn 0 ?_; refine tn 1 ?_ (hx := cx fun _ h => h.cell 0 10 rfl rfl); refine tn 2 ?_; refine tn 3 ?_ (hx := cx fun _ h => h.cell 0 9 rfl rfl); refine tn 4 ?_; refine tn 5 ?_; refine rd1 6 (fun K hK => ?_); go_simp; refine (byHour_any pubs vq _ (HI.out.lq.below stays_Public yH.below) HI.out.hl).mono ?_; rintro e w' ⟨mb, rfl, hH, hb⟩; refine hK.out _ _ (yH.step hb) (fun yH => ?_); clear hK K; refine tn 7 ?_; refine rd1 8 (fun K hK => ?_); go_simp; obtain ⟨jb, hbe, hS1, hZJ, hgJ, hnJ, hbA⟩ := yH.allocB (.cells #[err, .slice ar 3 cr, .slice ap 3 cp, .map (some mb)] 102); have hH := hH.below hbA; (try simp only [World.alloc, Array.size_push] at hbe); rw [← hbe]; refine hK.out _ _ hS1 (fun yH => ?_); clear hK K hS1 hbe hbA; refine tn 9 ?_; refine rdn ?_; go_wp2_with fail; go_ret; have hbs := yH.below; exact ⟨_, mb, rfl, ⟨hZJ, HI.out.lroom.below stays_int hbs, HI.out.lpubs.below stays_int hbs, hH, HI.out.lr, HI.out.lp, HI.out.e0, HI.out.r0⟩, hgJ, hbs⟩
theorem conditions_any (jb : Nat) (w : World) : Calls Tryz.prog 31 #[.pointer (some ⟨jb, 0, none⟩)] w fun e w' => e = .returned (.slice (some ⟨w.heap.size, 0, none⟩) 6 6) ∧ w' = w.alloc (.cells #[.func (.func 62) #[.pointer (some ⟨jb, 0, none⟩)] #[], .func (.func 63) #[.pointer (some ⟨jb, 0, none⟩)] #[], .func (.func 64) #[.pointer (some ⟨jb, 0, none⟩)] #[], .func (.func 65) #[.pointer (some ⟨jb, 0, none⟩)] #[], .func (.func 66) #[.pointer (some ⟨jb, 0, none⟩)] #[], .func (.func 67) #[.pointer (some ⟨jb, 0, none⟩)] #[]] 79) := by
 go_enter Tryz.func31, Tryz.ntmps31; go_wp2_with fail; go_ret; exact ⟨rfl, rfl⟩
end Go.Proofs.YtjbjpkhibcnenaaGreatDoor
/- audit.Find: proof, boundary. -/
namespace Go.Proofs.YtjbjpkhibcnenaaGreatDoor
set_option maxRecDepth 100000
set_option maxHeartbeats 8000000
open Go.RowKit
theorem results_rows_tmp {P : Program} {fn : Func} {p q u : Tmp} {ty : TypeId} (h : fn.results = #[.cell p ty, .cell q ty, .tmp u]) (tmps : Array Value) (w : World) (g g2 : Nat) (t t2 : TypeId) (cs cs2 : Array Value) (d : TypeDesc)
 (hp : tmps.getD p undef = .pointer (some ⟨g, 0, none⟩)) (hg : w.heap[g]? = some (.cells cs t (0, 0))) (hq : tmps.getD q undef = .pointer (some ⟨g2, 0, none⟩)) (hg2 : w.heap[g2]? = some (.cells cs2 t2 (0, 0)))
 (hu : P.underlying ty = some d) (hd : (match d with | .struct _ | .array _ _ => true | _ => false) = true) (hi : (P.info? ty).map (·.size) = some cs.size) (hi2 : (P.info? ty).map (·.size) = some cs2.size) :
 (results fn tmps).run P w = .ok (.tuple #[.agg cs, .agg cs2, tmps.getD u undef]) w := by
 have e : (results fn tmps).run P w = ((asAddr (tmps.getD p undef)).run P w).andThen fun a w1 => ((loadVar ty a).run P w1).andThen fun v w2 => ((asAddr (tmps.getD q undef)).run P w2).andThen fun a2 w3 => ((loadVar ty a2).run P w3).andThen fun v2 w4 => .ok (.tuple #[v, v2, tmps.getD u undef]) w4 := by
  simp only [results, h]; simp [Sem.run_bind, Result.andThen]
 rw [e, hp, hq]; simp [asAddr, run_loadVar_row w g t ty cs (0, 0) d hg hu hd hi, run_loadVar_row w g2 t2 ty cs2 (0, 0) d hg2 hu hd hi2]
theorem first2_found {P : CV → CV → Bool} {l m : List CV} {k j : Nat} {c d : CV} (h1 : ∀ (i : Nat) (x : CV), i < k → l[i]? = some x → ∀ y ∈ m, P x y = false) (hc : l[k]? = some c) (h2 : ∀ (i : Nat) (y : CV), i < j → m[i]? = some y → P c y = false) (hd : m[j]? = some d) (hP : P c d = true) : first2 P l m = some (c, d) := by
 have e1 : l = l.take k ++ c :: l.drop (k + 1) := by
  obtain ⟨hk, e⟩ := List.getElem?_eq_some_iff.1 hc; rw [← e, List.getElem_cons_drop, List.take_append_drop]
 have e2 : m = m.take j ++ d :: m.drop (j + 1) := by
  obtain ⟨hk, e⟩ := List.getElem?_eq_some_iff.1 hd; rw [← e, List.getElem_cons_drop, List.take_append_drop]
 have f2 : m.find? (P c) = some d := by
  rw [e2, List.find?_append]
  have : (m.take j).find? (P c) = none := by
   rw [List.find?_eq_none]; intro y hy; obtain ⟨i, hi⟩ := List.getElem?_of_mem hy; rw [List.getElem?_take] at hi
   split at hi
   · rw [h2 i y (by assumption) hi]; decide
   · cases hi
  rw [this, List.find?_cons_of_pos hP]
  rfl
 unfold first2; rw [e1, List.findSome?_append]
 have : (l.take k).findSome? (fun c => (m.find? (P c)).map fun d => (c, d)) = none := by
  rw [List.findSome?_eq_none_iff]; intro x hx; obtain ⟨i, hi⟩ := List.getElem?_of_mem hx; rw [List.getElem?_take] at hi
  split at hi
  ·
   have : m.find? (P x) = none := by
    rw [List.find?_eq_none]; intro y hy; rw [h1 i x (by assumption) hi y hy]
    decide
   rw [this]
   rfl
  · cases hi
 rw [this, List.findSome?_cons, f2]
 rfl
theorem first2_none {P : CV → CV → Bool} {l m : List CV} (h : ∀ (i : Nat) (x : CV), i < l.length → l[i]? = some x → ∀ y ∈ m, P x y = false) : first2 P l m = none := by
 unfold first2; rw [List.findSome?_eq_none_iff]; intro x hx; obtain ⟨i, hi⟩ := List.getElem?_of_mem hx
 have : m.find? (P x) = none := by
  rw [List.find?_eq_none]; intro y hy; rw [h i x (List.getElem?_eq_some_iff.1 hi).1 hi y hy]
  decide
 rw [this]
 rfl
def aggC (c : CV) : Value := .agg #[c.office, c.hour, c.inn, c.out, c.store, c.prev, c.e, c.s]
def RetP (r : Option (CV × CV)) (w : World) (e : Ending) (w' : World) : Prop :=
 (match r with | some x => e = .returned (.tuple #[aggC x.1, aggC x.2, .bool true]) | none => e = .returned (.tuple #[aggC zeroC, aggC zeroC, .bool false])) ∧ Below w.heap.size w w'
theorem retP_some {r : Option (CV × CV)} {c d : CV} {w w' : World} (h : r = some (c, d)) (hb : Below w.heap.size w w') : RetP r w (.returned (.tuple #[.agg #[c.office, c.hour, c.inn, c.out, c.store, c.prev, c.e, c.s], .agg #[d.office, d.hour, d.inn, d.out, d.store, d.prev, d.e, d.s], .bool true])) w' := by subst h; exact ⟨rfl, hb⟩
theorem retP_none {r : Option (CV × CV)} {w w' : World} (h : r = none) (hb : Below w.heap.size w w') : RetP r w (.returned (.tuple #[.agg #[(), (), (), (), (), .string ⟨#[]⟩, (), ()], .agg #[(), (), (), (), (), .string ⟨#[]⟩, (), ()], .bool false])) w' := by subst h; exact ⟨rfl, hb⟩
theorem proof_any (o why : Int) (al : Option Addr) (n lc : Nat) (w : World) : Calls Tryz.prog 51 #[o, .int .i64 why, .slice al n lc] w fun e w' => e = .returned (.tuple #[.agg #[o, .int .i64 why, .slice al n lc, (), (), (), (), (), ()], .bool true]) ∧ Below w.heap.size w w' := by
 have HR := hD ((RowsS.nil w).alloc (.cells #[(), (), .slice none 0 0, (), (), (), (), (), ()] 40)); go_enter Tryz.func51, Tryz.ntmps51; go_upto_region 1 with fail; generalize w.alloc (.cells #[(), (), .slice none 0 0, (), (), (), (), (), ()] 40) = w0 at *; go_wp2_with (refine sRW #[o, .int .i64 why, .slice al n lc, (), (), (), (), (), ()] (HR.out.row 0 rfl) infoBl ?_); have HR1 := hD (HR.out.set (i := 0) (cs' := #[o, .int .i64 why, .slice al n lc, (), (), (), (), (), ()]) rfl); exact bpr (HR1.out.row 0 rfl) undBl infoBl ⟨rfl, HR1.out.below⟩
theorem boundaryD_any (P : CV → CV → Bool) (l m : List CV) (vl vm : Value) (jb : Nat) (w : World) (hl : LArg RC 8 vl l w) (hm : LArg RC 8 vm m w) (hll : l.length ≤ 1000) (hml : m.length ≤ 1000) (hP : ∀ (w0 : World), Below w.heap.size w w0 → ∀ c ∈ l, ∀ d ∈ m, Calls Tryz.prog 58 #[.pointer (some ⟨jb, 0, none⟩), .agg #[c.office, c.hour, c.inn, c.out, c.store, c.prev, c.e, c.s], .agg #[d.office, d.hour, d.inn, d.out, d.store, d.prev, d.e, d.s]] w0 (RetB (P c d) w0)) :
 Calls Tryz.prog 57 #[vl, vm, .func (.func 58) #[.pointer (some ⟨jb, 0, none⟩)] #[]] w (RetP (first2 P l m) w) := by
 obtain ⟨al, lc, rfl, hlc, hlm⟩ := hl.slice; obtain ⟨am, mc, rfl, hmc, hmm⟩ := hm.slice; have HL := hD hl; have HM := hD hm; have HP := hD hP; obtain ⟨w0, hw0, hR0⟩ := RowsS.twoE w (.cells #[(), (), (), (), (), .string ⟨#[]⟩, (), ()] 63) (.cells #[(), (), (), (), (), .string ⟨#[]⟩, (), ()] 63); have HR := hD hR0; have HW0 := hD hw0; clear hR0 hw0; clear hl hm hP hlc hlm hmc hmm; go_enter Tryz.func57, Tryz.ntmps57; go_upto_region 1 with fail; rw [HW0.out]; go_wp2_with fail; go_loopw [15] (fun iv wx => ∃ k : Nat, k ≤ l.length ∧ iv = .int .i64 k ∧ (∀ (i : Nat) (x : CV), i < k → l[i]? = some x → ∀ y ∈ m, P x y = false) ∧ RowsS w [(w.heap.size, .cells #[(), (), (), (), (), .string ⟨#[]⟩, (), ()] 63), (w.heap.size + 1, .cells #[(), (), (), (), (), .string ⟨#[]⟩, (), ()] 63)] wx) (fun iv _ => l.length - (Go.RowKit.intOf iv).toNat)
 case atStart => exact ⟨0, Nat.zero_le _, rfl, fun i x h => absurd h (Nat.not_lt_zero _), HR.out⟩
 case round =>
  obtain ⟨k, hk, rfl, hno, hr⟩ := hrel; have HNO := hD hno; have HR1 := hD hr; clear hno hr HR; by_cases hlt : k < l.length
  ·
   obtain ⟨c, hc⟩ : ∃ c, l[k]? = some c := ⟨_, List.getElem?_eq_getElem hlt⟩; obtain ⟨b, o, cs, rfl, hbl, -, hrg, hcs, -⟩ := HL.out.at hc; unfold cellsC at hcs; subst hcs; have HRG := hD (rangeAt_below hrg HR1.out.below hbl); have HC := hD hc; have HR2 := hD (HR1.out.alloc (.cells #[c.office, c.hour, c.inn, c.out, c.store, c.prev, c.e, c.s] 63)); clear hc hrg HR1; go_upto_region 4 with (refine lRG HRG.out undCm infoCm ?_); clear HRG; generalize wr.alloc (.cells #[c.office, c.hour, c.inn, c.out, c.store, c.prev, c.e, c.s] 63) = w2 at *; generalize wr.heap.size = bC at *; go_wp2_with fail; go_loopw [21] (fun iv wx => ∃ j : Nat, j ≤ m.length ∧ iv = .int .i64 j ∧ (∀ (i : Nat) (y : CV), i < j → m[i]? = some y → P c y = false) ∧ RowsS w [(w.heap.size, .cells #[(), (), (), (), (), .string ⟨#[]⟩, (), ()] 63), (w.heap.size + 1, .cells #[(), (), (), (), (), .string ⟨#[]⟩, (), ()] 63), (bC, .cells #[c.office, c.hour, c.inn, c.out, c.store, c.prev, c.e, c.s] 63)] wx) (fun iv _ => m.length - (Go.RowKit.intOf iv).toNat)
   case atStart => exact ⟨0, Nat.zero_le _, rfl, fun i x h => absurd h (Nat.not_lt_zero _), HR2.out⟩
   case round =>
    obtain ⟨j, hj, rfl, hnd, hr⟩ := hrel; have HND := hD hnd; have HR3 := hD hr; clear hnd hr HR2; by_cases hlj : j < m.length
    ·
     obtain ⟨d, hd⟩ : ∃ d, m[j]? = some d := ⟨_, List.getElem?_eq_getElem hlj⟩; obtain ⟨b2, o2, cs, rfl, hbm, -, hrg, hcs, -⟩ := HM.out.at hd; unfold cellsC at hcs; subst hcs; have HRG := hD (rangeAt_below hrg HR3.out.below hbm); have HD := hD hd; have HR4 := hD (HR3.out.alloc (.cells #[d.office, d.hour, d.inn, d.out, d.store, d.prev, d.e, d.s] 63)); have HPc := hD (HP.out _ HR4.out.below c (List.mem_of_getElem? HC.out) d (List.mem_of_getElem? hd)); clear hd hrg HR3; go_upto_region 7 with (refine lRG HRG.out undCm infoCm ?_); clear HRG; generalize wr.alloc (.cells #[d.office, d.hour, d.inn, d.out, d.store, d.prev, d.e, d.s] 63) = w3 at *; generalize wr.heap.size = bD at *; go_wp2_with (first | (refine lRW (HR4.out.row 2 rfl) undCm infoCm ?_) | (refine lRW (HR4.out.row 3 rfl) undCm infoCm ?_)); refine HPc.out.mono ?_; rintro e w4 ⟨rfl, hb4⟩; have HR5 := hD (HR4.out.step hb4); clear hb4 HR4 HPc
     cases hpp : P c d with
     | true =>
      have HF := hD (first2_found HNO.out HC.out HND.out HD.out hpp); clear hpp; go_upto_region 8 with fail; obtain ⟨hRs, hZR, hgR, hnR⟩ := HR5.out.split; obtain ⟨hRs, hZS, hgS, hnS⟩ := hRs.split; have hnR : w.heap.size ∉ ([(bC, Obj.cells #[c.office, c.hour, c.inn, c.out, c.store, c.prev, c.e, c.s] 63), (bD, Obj.cells #[d.office, d.hour, d.inn, d.out, d.store, d.prev, d.e, d.s] 63)] : List (Nat × Obj)).map (·.1) := fun h => hnR (List.mem_cons_of_mem _ h); refine wrd (S := RowsS w _) (hRs.drew) (fun yH => ?_); refine tn 0 ?_ (hx := ldw 0 undCm infoCm); refine tn 1 ?_ (hx := ldw 1 undCm infoCm); refine rd1 2 (fun K hK => ?_); rw [if_pos (by rfl)]; refine wp_store_row 63 _ _ rfl w.heap.size #[c.office, c.hour, c.inn, c.out, c.store, c.prev, c.e, c.s] rfl rfl 63 #[(), (), (), (), (), .string ⟨#[]⟩, (), ()] hZR infoCm rfl (by simp [Value.oneCell']) ?_; have hZS := (setRow_other _ w.heap.size (w.heap.size + 1) #[.int .i64 c.office, .int .i64 c.hour, .int .i64 c.inn, .int .i64 c.out, .int .i64 c.store, .string c.prev, .int .i64 c.e, .int .i64 c.s] (by omega)).trans hZS; have hZR := setRow_heap _ _ _ #[.int .i64 c.office, .int .i64 c.hour, .int .i64 c.inn, .int .i64 c.out, .int .i64 c.store, .string c.prev, .int .i64 c.e, .int .i64 c.s] _ _ hZR; refine hK.out _ _ (yH.setOther hgR hnR _) (fun yH => ?_); clear hK K; (try simp only [Act.put]); refine rd1 3 (fun K hK => ?_); rw [if_pos (by rfl)]; refine wp_store_row 63 _ _ rfl (w.heap.size + 1) #[d.office, d.hour, d.inn, d.out, d.store, d.prev, d.e, d.s] rfl rfl 63 #[(), (), (), (), (), .string ⟨#[]⟩, (), ()] hZS infoCm rfl (by simp [Value.oneCell']) ?_
      have hZR := (setRow_other _ (w.heap.size + 1) w.heap.size #[.int .i64 d.office, .int .i64 d.hour, .int .i64 d.inn, .int .i64 d.out, .int .i64 d.store, .string d.prev, .int .i64 d.e, .int .i64 d.s] (by omega)).trans hZR; have hZS := setRow_heap _ _ _ #[.int .i64 d.office, .int .i64 d.hour, .int .i64 d.inn, .int .i64 d.out, .int .i64 d.store, .string d.prev, .int .i64 d.e, .int .i64 d.s] _ _ hZS; refine hK.out _ _ (yH.setOther hgS hnS _) (fun yH => ?_); clear hK K; (try simp only [Act.put]); refine tn 4 ?_; refine rdn ?_; have HRF := hD ((yH.cons hZS hgS hnS).cons hZR hgR (fun h => (List.mem_cons.1 h).elim (fun e => absurd e (Nat.ne_of_lt (Nat.lt_succ_self _))) hnR)); clear yH hZS hZR hgS hgR hnS hnR; go_wp2_with fail; exact bodyPost_ret (v := .tuple #[.agg #[c.office, c.hour, c.inn, c.out, c.store, c.prev, c.e, c.s], .agg #[d.office, d.hour, d.inn, d.out, d.store, d.prev, d.e, d.s], .bool true]) (Eq.trans (results_rows_tmp rfl _ _ w.heap.size (w.heap.size + 1) 63 63 #[.int .i64 c.office, .int .i64 c.hour, .int .i64 c.inn, .int .i64 c.out, .int .i64 c.store, .string c.prev, .int .i64 c.e, .int .i64 c.s] #[.int .i64 d.office, .int .i64 d.hour, .int .i64 d.inn, .int .i64 d.out, .int .i64 d.store, .string d.prev, .int .i64 d.e, .int .i64 d.s] _ rfl (HRF.out.row 0 rfl) rfl (HRF.out.row 1 rfl) undCm rfl infoCm infoCm) rfl) rfl (retP_some HF.out HRF.out.below)
     | false =>
      have HN2 : Hid (∀ (i : Nat) (y : CV), i < j + 1 → m[i]? = some y → P c y = false) := hD (fun i y hi hy => by
       by_cases e : i = j
       · subst e; rw [HD.out] at hy; cases hy; exact hpp
       · exact HND.out i y (by omega) hy)
      have HR6 := hD (HR5.out.take 3); clear hpp HR5; go_wp2_with fail; go_roundw
      case rel => exact ⟨j + 1, by omega, by go_num, HN2.out, HR6.out⟩
      case measure => simp [Go.RowKit.intOf]; omega
    ·
     obtain rfl : j = m.length := by omega
     have HN2 : Hid (∀ (i : Nat) (x : CV), i < k + 1 → l[i]? = some x → ∀ y ∈ m, P x y = false) := hD (fun i x hi hx y hy => by
      by_cases e : i = k
      ·
       subst e; rw [HC.out] at hx
       cases hx
       obtain ⟨q, hq⟩ := List.getElem?_of_mem hy; exact HND.out q y (List.getElem?_eq_some_iff.1 hq).1 hq
      · exact HNO.out i x (by omega) hx y hy)
     have HR6 := hD (HR3.out.take 2); clear HR3 hlj hj; go_wp2_with fail; go_roundw
     case rel => exact ⟨k + 1, by omega, by go_num, HN2.out, HR6.out⟩
     case measure => simp [Go.RowKit.intOf]; omega
  ·
   obtain rfl : k = l.length := by omega
   have HF := hD (first2_none HNO.out); clear hlt hk; go_wp2_with (first | (refine sRW #[(), (), (), (), (), .string ⟨#[]⟩, (), ()] (HR1.out.row 0 rfl) infoCm ?_) | (refine sRW #[(), (), (), (), (), .string ⟨#[]⟩, (), ()] ((HR1.out.set (i := 0) (cs' := #[(), (), (), (), (), .string ⟨#[]⟩, (), ()]) rfl).row 1 rfl) infoCm ?_)); have HRZ := hD ((HR1.out.set (i := 0) (cs' := #[(), (), (), (), (), .string ⟨#[]⟩, (), ()]) rfl).set (i := 1) (cs' := #[(), (), (), (), (), .string ⟨#[]⟩, (), ()]) rfl); exact bodyPost_ret (v := .tuple #[.agg #[(), (), (), (), (), .string ⟨#[]⟩, (), ()], .agg #[(), (), (), (), (), .string ⟨#[]⟩, (), ()], .bool false]) (Eq.trans (results_rows_tmp rfl _ _ w.heap.size (w.heap.size + 1) 63 63 #[.int .i64 0, .int .i64 0, .int .i64 0, .int .i64 0, .int .i64 0, .string ⟨#[]⟩, .int .i64 0, .int .i64 0] #[.int .i64 0, .int .i64 0, .int .i64 0, .int .i64 0, .int .i64 0, .string ⟨#[]⟩, .int .i64 0, .int .i64 0] _ rfl (HRZ.out.row 0 rfl) rfl (HRZ.out.row 1 rfl) undCm rfl infoCm infoCm) rfl) rfl (retP_none HF.out HRZ.out.below)
theorem boundaryB_any (P : CV → CV → Bool) (l m : List CV) (vl vm : Value) (tb pb : Nat) (w : World) (hl : LArg RC 8 vl l w) (hm : LArg RC 8 vm m w) (hll : l.length ≤ 1000) (hml : m.length ≤ 1000) (hP : ∀ (w0 : World), Below w.heap.size w w0 → ∀ c ∈ l, ∀ d ∈ m, Calls Tryz.prog 59 #[.agg #[c.office, c.hour, c.inn, c.out, c.store, c.prev, c.e, c.s], .agg #[d.office, d.hour, d.inn, d.out, d.store, d.prev, d.e, d.s], .pointer (some ⟨tb, 0, none⟩), .pointer (some ⟨pb, 0, none⟩)] w0 (RetB (P c d) w0)) :
 Calls Tryz.prog 57 #[vl, vm, .func (.func 59) #[] #[.pointer (some ⟨tb, 0, none⟩), .pointer (some ⟨pb, 0, none⟩)]] w (RetP (first2 P l m) w) := by
 obtain ⟨al, lc, rfl, hlc, hlm⟩ := hl.slice; obtain ⟨am, mc, rfl, hmc, hmm⟩ := hm.slice; have HL := hD hl; have HM := hD hm; have HP := hD hP; obtain ⟨w0, hw0, hR0⟩ := RowsS.twoE w (.cells #[(), (), (), (), (), .string ⟨#[]⟩, (), ()] 63) (.cells #[(), (), (), (), (), .string ⟨#[]⟩, (), ()] 63); have HR := hD hR0; have HW0 := hD hw0; clear hR0 hw0; clear hl hm hP hlc hlm hmc hmm; go_enter Tryz.func57, Tryz.ntmps57; go_upto_region 1 with fail; rw [HW0.out]; go_wp2_with fail; go_loopw [15] (fun iv wx => ∃ k : Nat, k ≤ l.length ∧ iv = .int .i64 k ∧ (∀ (i : Nat) (x : CV), i < k → l[i]? = some x → ∀ y ∈ m, P x y = false) ∧ RowsS w [(w.heap.size, .cells #[(), (), (), (), (), .string ⟨#[]⟩, (), ()] 63), (w.heap.size + 1, .cells #[(), (), (), (), (), .string ⟨#[]⟩, (), ()] 63)] wx) (fun iv _ => l.length - (Go.RowKit.intOf iv).toNat)
 case atStart => exact ⟨0, Nat.zero_le _, rfl, fun i x h => absurd h (Nat.not_lt_zero _), HR.out⟩
 case round =>
  obtain ⟨k, hk, rfl, hno, hr⟩ := hrel; have HNO := hD hno; have HR1 := hD hr; clear hno hr HR; by_cases hlt : k < l.length
  ·
   obtain ⟨c, hc⟩ : ∃ c, l[k]? = some c := ⟨_, List.getElem?_eq_getElem hlt⟩; obtain ⟨b, o, cs, rfl, hbl, -, hrg, hcs, -⟩ := HL.out.at hc; unfold cellsC at hcs; subst hcs; have HRG := hD (rangeAt_below hrg HR1.out.below hbl); have HC := hD hc; have HR2 := hD (HR1.out.alloc (.cells #[c.office, c.hour, c.inn, c.out, c.store, c.prev, c.e, c.s] 63)); clear hc hrg HR1; go_upto_region 4 with (refine lRG HRG.out undCm infoCm ?_); clear HRG; generalize wr.alloc (.cells #[c.office, c.hour, c.inn, c.out, c.store, c.prev, c.e, c.s] 63) = w2 at *; generalize wr.heap.size = bC at *; go_wp2_with fail; go_loopw [21] (fun iv wx => ∃ j : Nat, j ≤ m.length ∧ iv = .int .i64 j ∧ (∀ (i : Nat) (y : CV), i < j → m[i]? = some y → P c y = false) ∧ RowsS w [(w.heap.size, .cells #[(), (), (), (), (), .string ⟨#[]⟩, (), ()] 63), (w.heap.size + 1, .cells #[(), (), (), (), (), .string ⟨#[]⟩, (), ()] 63), (bC, .cells #[c.office, c.hour, c.inn, c.out, c.store, c.prev, c.e, c.s] 63)] wx) (fun iv _ => m.length - (Go.RowKit.intOf iv).toNat)
   case atStart => exact ⟨0, Nat.zero_le _, rfl, fun i x h => absurd h (Nat.not_lt_zero _), HR2.out⟩
   case round =>
    obtain ⟨j, hj, rfl, hnd, hr⟩ := hrel; have HND := hD hnd; have HR3 := hD hr; clear hnd hr HR2; by_cases hlj : j < m.length
    ·
     obtain ⟨d, hd⟩ : ∃ d, m[j]? = some d := ⟨_, List.getElem?_eq_getElem hlj⟩; obtain ⟨b2, o2, cs, rfl, hbm, -, hrg, hcs, -⟩ := HM.out.at hd; unfold cellsC at hcs; subst hcs; have HRG := hD (rangeAt_below hrg HR3.out.below hbm); have HD := hD hd; have HR4 := hD (HR3.out.alloc (.cells #[d.office, d.hour, d.inn, d.out, d.store, d.prev, d.e, d.s] 63)); have HPc := hD (HP.out _ HR4.out.below c (List.mem_of_getElem? HC.out) d (List.mem_of_getElem? hd)); clear hd hrg HR3; go_upto_region 7 with (refine lRG HRG.out undCm infoCm ?_); clear HRG; generalize wr.alloc (.cells #[d.office, d.hour, d.inn, d.out, d.store, d.prev, d.e, d.s] 63) = w3 at *; generalize wr.heap.size = bD at *; go_wp2_with (first | (refine lRW (HR4.out.row 2 rfl) undCm infoCm ?_) | (refine lRW (HR4.out.row 3 rfl) undCm infoCm ?_)); refine HPc.out.mono ?_; rintro e w4 ⟨rfl, hb4⟩; have HR5 := hD (HR4.out.step hb4); clear hb4 HR4 HPc
     cases hpp : P c d with
     | true =>
      have HF := hD (first2_found HNO.out HC.out HND.out HD.out hpp); clear hpp; go_upto_region 8 with fail; obtain ⟨hRs, hZR, hgR, hnR⟩ := HR5.out.split; obtain ⟨hRs, hZS, hgS, hnS⟩ := hRs.split; have hnR : w.heap.size ∉ ([(bC, Obj.cells #[c.office, c.hour, c.inn, c.out, c.store, c.prev, c.e, c.s] 63), (bD, Obj.cells #[d.office, d.hour, d.inn, d.out, d.store, d.prev, d.e, d.s] 63)] : List (Nat × Obj)).map (·.1) := fun h => hnR (List.mem_cons_of_mem _ h); refine wrd (S := RowsS w _) (hRs.drew) (fun yH => ?_); refine tn 0 ?_ (hx := ldw 0 undCm infoCm); refine tn 1 ?_ (hx := ldw 1 undCm infoCm); refine rd1 2 (fun K hK => ?_); rw [if_pos (by rfl)]; refine wp_store_row 63 _ _ rfl w.heap.size #[c.office, c.hour, c.inn, c.out, c.store, c.prev, c.e, c.s] rfl rfl 63 #[(), (), (), (), (), .string ⟨#[]⟩, (), ()] hZR infoCm rfl (by simp [Value.oneCell']) ?_; have hZS := (setRow_other _ w.heap.size (w.heap.size + 1) #[.int .i64 c.office, .int .i64 c.hour, .int .i64 c.inn, .int .i64 c.out, .int .i64 c.store, .string c.prev, .int .i64 c.e, .int .i64 c.s] (by omega)).trans hZS; have hZR := setRow_heap _ _ _ #[.int .i64 c.office, .int .i64 c.hour, .int .i64 c.inn, .int .i64 c.out, .int .i64 c.store, .string c.prev, .int .i64 c.e, .int .i64 c.s] _ _ hZR; refine hK.out _ _ (yH.setOther hgR hnR _) (fun yH => ?_); clear hK K; (try simp only [Act.put]); refine rd1 3 (fun K hK => ?_); rw [if_pos (by rfl)]; refine wp_store_row 63 _ _ rfl (w.heap.size + 1) #[d.office, d.hour, d.inn, d.out, d.store, d.prev, d.e, d.s] rfl rfl 63 #[(), (), (), (), (), .string ⟨#[]⟩, (), ()] hZS infoCm rfl (by simp [Value.oneCell']) ?_
      have hZR := (setRow_other _ (w.heap.size + 1) w.heap.size #[.int .i64 d.office, .int .i64 d.hour, .int .i64 d.inn, .int .i64 d.out, .int .i64 d.store, .string d.prev, .int .i64 d.e, .int .i64 d.s] (by omega)).trans hZR; have hZS := setRow_heap _ _ _ #[.int .i64 d.office, .int .i64 d.hour, .int .i64 d.inn, .int .i64 d.out, .int .i64 d.store, .string d.prev, .int .i64 d.e, .int .i64 d.s] _ _ hZS; refine hK.out _ _ (yH.setOther hgS hnS _) (fun yH => ?_); clear hK K; (try simp only [Act.put]); refine tn 4 ?_; refine rdn ?_; have HRF := hD ((yH.cons hZS hgS hnS).cons hZR hgR (fun h => (List.mem_cons.1 h).elim (fun e => absurd e (Nat.ne_of_lt (Nat.lt_succ_self _))) hnR)); clear yH hZS hZR hgS hgR hnS hnR; go_wp2_with fail; exact bodyPost_ret (v := .tuple #[.agg #[c.office, c.hour, c.inn, c.out, c.store, c.prev, c.e, c.s], .agg #[d.office, d.hour, d.inn, d.out, d.store, d.prev, d.e, d.s], .bool true]) (Eq.trans (results_rows_tmp rfl _ _ w.heap.size (w.heap.size + 1) 63 63 #[.int .i64 c.office, .int .i64 c.hour, .int .i64 c.inn, .int .i64 c.out, .int .i64 c.store, .string c.prev, .int .i64 c.e, .int .i64 c.s] #[.int .i64 d.office, .int .i64 d.hour, .int .i64 d.inn, .int .i64 d.out, .int .i64 d.store, .string d.prev, .int .i64 d.e, .int .i64 d.s] _ rfl (HRF.out.row 0 rfl) rfl (HRF.out.row 1 rfl) undCm rfl infoCm infoCm) rfl) rfl (retP_some HF.out HRF.out.below)
     | false =>
      have HN2 : Hid (∀ (i : Nat) (y : CV), i < j + 1 → m[i]? = some y → P c y = false) := hD (fun i y hi hy => by
       by_cases e : i = j
       · subst e; rw [HD.out] at hy; cases hy; exact hpp
       · exact HND.out i y (by omega) hy)
      have HR6 := hD (HR5.out.take 3); clear hpp HR5; go_wp2_with fail; go_roundw
      case rel => exact ⟨j + 1, by omega, by go_num, HN2.out, HR6.out⟩
      case measure => simp [Go.RowKit.intOf]; omega
    ·
     obtain rfl : j = m.length := by omega
     have HN2 : Hid (∀ (i : Nat) (x : CV), i < k + 1 → l[i]? = some x → ∀ y ∈ m, P x y = false) := hD (fun i x hi hx y hy => by
      by_cases e : i = k
      ·
       subst e; rw [HC.out] at hx
       cases hx
       obtain ⟨q, hq⟩ := List.getElem?_of_mem hy; exact HND.out q y (List.getElem?_eq_some_iff.1 hq).1 hq
      · exact HNO.out i x (by omega) hx y hy)
     have HR6 := hD (HR3.out.take 2); clear HR3 hlj hj; go_wp2_with fail; go_roundw
     case rel => exact ⟨k + 1, by omega, by go_num, HN2.out, HR6.out⟩
     case measure => simp [Go.RowKit.intOf]; omega
  ·
   obtain rfl : k = l.length := by omega
   have HF := hD (first2_none HNO.out); clear hlt hk; go_wp2_with (first | (refine sRW #[(), (), (), (), (), .string ⟨#[]⟩, (), ()] (HR1.out.row 0 rfl) infoCm ?_) | (refine sRW #[(), (), (), (), (), .string ⟨#[]⟩, (), ()] ((HR1.out.set (i := 0) (cs' := #[(), (), (), (), (), .string ⟨#[]⟩, (), ()]) rfl).row 1 rfl) infoCm ?_)); have HRZ := hD ((HR1.out.set (i := 0) (cs' := #[(), (), (), (), (), .string ⟨#[]⟩, (), ()]) rfl).set (i := 1) (cs' := #[(), (), (), (), (), .string ⟨#[]⟩, (), ()]) rfl); exact bodyPost_ret (v := .tuple #[.agg #[(), (), (), (), (), .string ⟨#[]⟩, (), ()], .agg #[(), (), (), (), (), .string ⟨#[]⟩, (), ()], .bool false]) (Eq.trans (results_rows_tmp rfl _ _ w.heap.size (w.heap.size + 1) 63 63 #[.int .i64 0, .int .i64 0, .int .i64 0, .int .i64 0, .int .i64 0, .string ⟨#[]⟩, .int .i64 0, .int .i64 0] #[.int .i64 0, .int .i64 0, .int .i64 0, .int .i64 0, .int .i64 0, .string ⟨#[]⟩, .int .i64 0, .int .i64 0] _ rfl (HRZ.out.row 0 rfl) rfl (HRZ.out.row 1 rfl) undCm rfl infoCm infoCm) rfl) rfl (retP_none HF.out HRZ.out.below)
end Go.Proofs.YtjbjpkhibcnenaaGreatDoor
