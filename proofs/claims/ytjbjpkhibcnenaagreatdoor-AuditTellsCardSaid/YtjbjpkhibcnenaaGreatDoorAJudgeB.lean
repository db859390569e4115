/- Texts merged: AJudgeD AJudgeB -/
import Derived.Test.YtjbjpkhibcnenaaGreatDoorAJudgeC
import Derived.Test.YtjbjpkhibcnenaaGreatDoorAJudge
/- The judge of package audit: all, between. -/
namespace Go.Proofs.YtjbjpkhibcnenaaGreatDoor
set_option maxRecDepth 100000
set_option maxHeartbeats 8000000
open Go.RowKit
theorem results_row_tmp {P : Program} {fn : Func} {p u : Tmp} {ty : TypeId} (h : fn.results = #[.cell p ty, .tmp u]) (tmps : Array Value) (w : World) (g : Nat) (t : TypeId) (cs : Array Value) (fr : Nat × Nat) (d : TypeDesc)
 (hp : tmps.getD p undef = .pointer (some ⟨g, 0, none⟩)) (hg : w.heap[g]? = some (.cells cs t fr))
 (hu : P.underlying ty = some d) (hd : (match d with | .struct _ | .array _ _ => true | _ => false) = true) (hi : (P.info? ty).map (·.size) = some cs.size) :
 (results fn tmps).run P w = .ok (.tuple #[.agg cs, tmps.getD u undef]) w := by
 rw [results_cell_tmp h, hp]; simp [asAddr, run_loadVar_row w g t ty cs fr d hg hu hd hi]
theorem bpr {P : Program} {fn : Func} {R : Ending → World → Prop} {a : Act} {w : World} {p u : Tmp} {ty : TypeId} {g : Nat} {t : TypeId} {cs : Array Value} {d : TypeDesc} {v2 : Value} (hg : w.heap[g]? = some (.cells cs t (0, 0))) (hu : P.underlying ty = some d) {n : Nat} (hi : (P.info? ty).map (·.size) = some n) (hR : R (.returned (.tuple #[.agg cs, v2])) w)
 (h : fn.results = #[.cell p ty, .tmp u] := by exact rfl) (hp : a.tmps.getD p undef = .pointer (some ⟨g, 0, none⟩) := by exact rfl) (hv : a.tmps.getD u undef = v2 := by exact rfl) (hd : (match d with | .struct _ | .array _ _ => true | _ => false) = true := by exact rfl) (hd0 : a.defers = [] := by exact rfl) (hn : cs.size = n := by exact rfl) : bodyPost P fn R .ret a w := by
 subst hv; exact bodyPost_ret (results_row_tmp h a.tmps w g t cs (0, 0) d hp hg hu hd (by rw [hi, hn])) hd0 hR
theorem isSums_last {H : Int → Option PublicV} {pick : PublicV → SpanV} {f u : Int} {L : List SpanV} (h : IsSums H pick f u L) (hfu : f < u) :
 match sumN H pick f (u - f).toNat with
 | some s => L.length = (u - f).toNat + 1 ∧ L[(u - f).toNat]? = some s
 | none => L.length ≤ (u - f).toNat := by
 have h1 := h (u - f).toNat; have h2 := h ((u - f).toNat + 1); rw [if_pos (by omega)] at h1; rw [if_neg (by omega)] at h2; have h3 := List.getElem?_eq_none_iff.1 h2
 cases e : sumN H pick f (u - f).toNat with
 | some s =>
  rw [e] at h1; have := (List.getElem?_eq_some_iff.1 h1).1; exact ⟨by omega, h1⟩
 | none =>
  rw [e] at h1; exact List.getElem?_eq_none_iff.1 h1
def RetBt (r : Option SpanV) (w : World) (e : Ending) (w' : World) : Prop := e = .returned (.tuple #[.agg #[.int .i64 (r.getD ⟨0, 0⟩).lo, .int .i64 (r.getD ⟨0, 0⟩).hi], .bool r.isSome]) ∧ Below w.heap.size w w'
theorem retBt_none {r : Option SpanV} {w w' : World} (h : r = none) (hb : Below w.heap.size w w') : RetBt r w (.returned (.tuple #[.agg #[(), ()], .bool false])) w' := by subst h; exact ⟨rfl, hb⟩
theorem retBt_some {r : Option SpanV} {s : SpanV} {w w' : World} (h : r = some s) (hb : Below w.heap.size w w') : RetBt r w (.returned (.tuple #[.agg #[s.lo, s.hi], .bool true])) w' := by subst h; exact ⟨rfl, hb⟩
theorem allB_snoc {l : List CV} {k : Nat} {c : CV} (h : l[k]? = some c) (o : Int) : allB (l.take (k + 1)) o = (allB (l.take k) o && decide (c.office = o)) := by
 unfold allB; rw [List.take_add_one, h]; simp
theorem allB_no {l : List CV} {k : Nat} {c : CV} (h : l[k]? = some c) {o : Int} (hc : c.office ≠ o) : allB l o = false := by
 unfold allB; rw [List.all_eq_false]; exact ⟨c, List.mem_of_getElem? h, by simp [hc]⟩
theorem all_any (l : List CV) (v : Value) (n : Nat) (o : Int) (w : World) (h : LArg RC 8 v l w) (hl : l.length ≤ 1000) (_hn : n ≤ 1000) : Calls Tryz.prog 92 #[v, (n : Int), o] w (RetB (decide (l.length = n) && allB l o) w) := by
 obtain ⟨al, lc, rfl, hlc, hlm⟩ := h.slice; have HL := hD h; have hl2 : l.length ≤ 9223372036854775807 := by omega
 clear h hlm hlc; by_cases hln : l.length = n
 ·
  have q1 : ((l.length : Int) == (n : Int)) = true := by rw [beq_iff_eq]; omega
  have q2 : ((l.length : Int) != (n : Int)) = false := by simp [hln]
  have q3 : decide ((l.length : Int) = (n : Int)) = true := decide_eq_true (by omega); have HE : Hid (decide (l.length = n) = true) := hD (decide_eq_true hln); clear hln; go_enter Tryz.func92, Tryz.ntmps92; go_wp2_with fail; go_loopw [15] (fun iv wx => ∃ k : Nat, k ≤ l.length ∧ iv = .int .i64 k ∧ allB (l.take k) o = true ∧ Below w.heap.size w wx) (fun iv _ => l.length - (Go.RowKit.intOf iv).toNat)
  case atStart => exact ⟨0, Nat.zero_le _, rfl, rfl, Below.refl _ _⟩
  case round =>
   obtain ⟨k, hk, rfl, ha, hb⟩ := hrel; have HA := hD ha; have HB := hD hb; clear ha hb; by_cases hlt : k < l.length
   ·
    obtain ⟨c, hc⟩ : ∃ c, l[k]? = some c := ⟨_, List.getElem?_eq_getElem hlt⟩; obtain ⟨b, q, cs, rfl, hbl, -, hrg, hcs, hok⟩ := HL.out.at hc; unfold cellsC at hcs; subst hcs; have HRG := hD (rangeAt_below hrg HB.out hbl); have HS := hD (allB_snoc hc o); have HC := hD hc; have HB2 := hD (HB.out.alloc HB.out.size (.cells #[c.office, c.hour, c.inn, c.out, c.store, c.prev, c.e, c.s] 63)); have HR2 := hD (heap_alloc_new wr (.cells #[c.office, c.hour, c.inn, c.out, c.store, c.prev, c.e, c.s] 63)); clear hc hrg hok HB; go_upto_region 6 with (refine lRG HRG.out undCm infoCm ?_); clear HRG; generalize wr.alloc (.cells #[c.office, c.hour, c.inn, c.out, c.store, c.prev, c.e, c.s] 63) = w2 at *; generalize wr.heap.size = bC at *; have c0 := rowN HR2.out 0 (.int .i64 c.office) rfl; by_cases ho : c.office = o
    ·
     have q5 : (c.office == o) = true := by rw [beq_iff_eq]; exact ho
     have q6 : (c.office != o) = false := by simp [ho]
     have HS2 : Hid (allB (l.take (k + 1)) o = true) := hD (by rw [HS.out, HA.out, decide_eq_true ho]; rfl); clear ho; go_wp2_with fail; go_roundw
     case rel => exact ⟨k + 1, by omega, by go_num, HS2.out, HB2.out⟩
     case measure => simp [Go.RowKit.intOf]; omega
    ·
     have q5 : (c.office == o) = false := by rw [beq_eq_false_iff_ne]; exact ho
     have q6 : (c.office != o) = true := by simp [ho]
     have HX : Hid (allB l o = false) := hD (allB_no HC.out ho); clear ho; go_wp2_with fail; go_ret; exact retB_mk (by rw [HE.out, HX.out]; rfl) HB2.out
   ·
    obtain rfl : k = l.length := by omega
    rw [List.take_length] at HA; clear hlt hk; go_wp2_with fail; go_ret; exact retB_mk (by rw [HE.out, HA.out]; rfl) HB.out
 ·
  have q1 : ((l.length : Int) == (n : Int)) = false := by rw [beq_eq_false_iff_ne]; omega
  have q2 : ((l.length : Int) != (n : Int)) = true := by simp; omega
  have q3 : decide ((l.length : Int) = (n : Int)) = false := decide_eq_false (by omega); have HE : Hid (decide (l.length = n) = false) := hD (decide_eq_false hln); clear hln; go_enter Tryz.func92, Tryz.ntmps92; go_wp2_with fail; go_ret; exact retB_mk (by rw [HE.out]; rfl) (Below.refl _ _)
theorem betweenM_any (jb mb : Nat) (ar ap : Option Addr) (cr cp : Nat) (err : Int) (room ps : List Int) (pubs : List PublicV) (c d : CV)  (w : World) (hJ : JudgeAt jb mb ar ap cr cp err room ps pubs w) (hc : I64 c.hour) (hd : I64 d.hour) (hI : ∀ p ∈ pubs, PbI p) (hl : pubs.length ≤ 1000) (hch : 0 ≤ c.hour) (hdh : 0 ≤ d.hour) : Calls Tryz.prog 93 #[.pointer (some ⟨jb, 0, none⟩), .agg #[c.office, c.hour, c.inn, c.out, c.store, c.prev, c.e, c.s], .agg #[d.office, d.hour, d.inn, d.out, d.store, d.prev, d.e, d.s], .func (.func 55) #[] #[]] w (RetBt (betwN (hoursF pubs) (mouthP) c.hour d.hour) w) := by
 have HJ := hD hJ.row; have hjl := blk_lt hJ.row; have HH := hD hJ.hours; have hcI := hD hc; have hdI := hD hd; unfold I64 at hc hd; obtain ⟨w0, hw0, hR0⟩ := RowsS.threeE w (.cells #[c.office, c.hour, c.inn, c.out, c.store, c.prev, c.e, c.s] 63) (.cells #[d.office, d.hour, d.inn, d.out, d.store, d.prev, d.e, d.s] 63) (.cells #[(), ()] 53); have HR := hD hR0; have HW0 := hD hw0; clear hR0 hw0; clear hJ; go_enter Tryz.func93, Tryz.ntmps93; go_upto_region 1 with fail; rw [HW0.out]; have c1 := HR.out.cell 0 1 rfl rfl; have d1 := HR.out.cell 1 1 rfl rfl; by_cases hcd : d.hour ≤ c.hour
 ·
  have HE : Hid (betwN (hoursF pubs) (mouthP) c.hour d.hour = none) := hD (by unfold betwN; rw [if_neg (by omega)]); go_wp2_with (refine sRW #[(), ()] (HR.out.row 2 rfl) infoSp ?_); have HRZ := hD (HR.out.set (i := 2) (cs' := #[(), ()]) rfl); exact bpr (HRZ.out.row 2 rfl) undSp infoSp (retBt_none HE.out HRZ.out.below)
 ·
  have HE : Hid (betwN (hoursF pubs) (mouthP) c.hour d.hour = sumN (hoursF pubs) (mouthP) c.hour (d.hour - c.hour).toNat) := hD (by unfold betwN; rw [if_pos (by omega)]); have hlt : c.hour < d.hour := by omega
  go_upto_region 3 with fail; clear c1 d1; refine wrd (S := RowsS w _) (HR.out.drew) (fun yH => ?_); refine tn 0 ?_; refine tn 1 ?_; refine tn 2 ?_; refine tn 3 ?_ (hx := cx fun _ h => h.old HJ 3 rfl); refine tn 4 ?_; refine tn 5 ?_ (hx := cx fun _ h => h.cell 0 1 rfl rfl); refine tn 6 ?_; refine tn 7 ?_ (hx := cx fun _ h => h.cell 1 1 rfl rfl); refine tn 8 ?_; refine rd1 9 (fun K hK => ?_); go_simp; refine (sumsM_any pubs mb c.hour d.hour _ (HH.out.below yH.below) hcI.out hdI.out hI hl).mono ?_; rintro e w' ⟨v, L, rfl, hL, hS, hb⟩; refine hK.out _ _ (yH.step hb) (fun yH => ?_); clear hK K; refine tn 10 ?_; refine rdn ?_; have HR1 := hD yH; have HL := hD hL; have HS := hD hS; clear yH hL hS; obtain ⟨aL, cL, rfl, hlc, hlm⟩ := HL.out.slice; have hLm : L.length ≤ 9223372036854775807 := by unfold maxLen at hlm; omega
  have W1 : IntKind.i64.wrap ((L.length : Int) - 1) = (L.length : Int) - 1 := IntWalk.i64_in _ (by omega); have W2 : IntKind.i64.wrap (d.hour - c.hour) = d.hour - c.hour := IntWalk.i64_in _ (by omega); have c1 := HR1.out.cell 0 1 rfl rfl; have d1 := HR1.out.cell 1 1 rfl rfl; have hlast := isSums_last HS.out hlt
  cases hs : sumN (hoursF pubs) (mouthP) c.hour (d.hour - c.hour).toNat with
  | none =>
   rw [hs] at hlast HE; dsimp only at hlast; have q1 : ((L.length : Int) - 1 == d.hour - c.hour) = false := by rw [beq_eq_false_iff_ne]; omega
   have q2 : ((L.length : Int) - 1 != d.hour - c.hour) = true := by rw [bne_iff_ne]; omega
   clear hs hlast; go_wp2_with (refine sRW #[(), ()] (HR1.out.row 2 rfl) infoSp ?_); have HRZ := hD (HR1.out.set (i := 2) (cs' := #[(), ()]) rfl); exact bpr (HRZ.out.row 2 rfl) undSp infoSp (retBt_none HE.out HRZ.out.below)
  | some s =>
   rw [hs] at hlast HE; dsimp only at hlast; obtain ⟨hl1, hl2⟩ := hlast; have q1 : ((L.length : Int) - 1 == d.hour - c.hour) = true := by rw [beq_iff_eq]; omega
   have q2 : ((L.length : Int) - 1 != d.hour - c.hour) = false := by rw [bne_eq_false_iff_eq]; omega
   obtain ⟨b, o, cs, rfl, hb2, -, hrg, rfl, -⟩ := HL.out.at hl2; obtain ⟨m, hm⟩ : ∃ m, m = (d.hour - c.hour).toNat := ⟨_, rfl⟩; rw [← hm] at hrg hl1; have HRG := hD hrg; have W3 : (L.length : Int) - 1 = (m : Int) := by omega
   have W4 : IntKind.i64.wrap (m : Int) = (m : Int) := IntWalk.i64_in _ (by omega); have hml : m < L.length := by omega
   have hmi : (m : Int) < L.length := by omega
   clear hs hl1 hl2 hrg hm; rw [W3] at W1 q1 q2; go_wp2_with (first | (refine lRG HRG.out undSp infoSp ?_) | (refine sRW #[s.lo, s.hi] (HR1.out.row 2 rfl) infoSp ?_)); have HRZ := hD (HR1.out.set (i := 2) (cs' := #[s.lo, s.hi]) rfl); exact bpr (HRZ.out.row 2 rfl) undSp infoSp (retBt_some HE.out HRZ.out.below)
theorem betweenN_any (jb mb : Nat) (ar ap : Option Addr) (cr cp : Nat) (err : Int) (room ps : List Int) (pubs : List PublicV) (c d : CV) (o ob : Nat) (w : World) (hJ : JudgeAt jb mb ar ap cr cp err room ps pubs w) (hc : I64 c.hour) (hd : I64 d.hour) (hI : ∀ p ∈ pubs, PbI p) (hl : pubs.length ≤ 1000) (hch : 0 ≤ c.hour) (hdh : 0 ≤ d.hour) (ho : o < 3) (hob : w.cell? ⟨ob, 0, none⟩ = some (.int .i64 (o : Int))) (hobl : ob < w.heap.size) : Calls Tryz.prog 93 #[.pointer (some ⟨jb, 0, none⟩), .agg #[c.office, c.hour, c.inn, c.out, c.store, c.prev, c.e, c.s], .agg #[d.office, d.hour, d.inn, d.out, d.store, d.prev, d.e, d.s], .func (.func 80) #[] #[.pointer (some ⟨ob, 0, none⟩)]] w (RetBt (betwN (hoursF pubs) (netP o) c.hour d.hour) w) := by
 have HJ := hD hJ.row; have hjl := blk_lt hJ.row; have HH := hD hJ.hours; have HOB := hD hob; clear hob; have hcI := hD hc; have hdI := hD hd; unfold I64 at hc hd; obtain ⟨w0, hw0, hR0⟩ := RowsS.threeE w (.cells #[c.office, c.hour, c.inn, c.out, c.store, c.prev, c.e, c.s] 63) (.cells #[d.office, d.hour, d.inn, d.out, d.store, d.prev, d.e, d.s] 63) (.cells #[(), ()] 53); have HR := hD hR0; have HW0 := hD hw0; clear hR0 hw0; clear hJ; go_enter Tryz.func93, Tryz.ntmps93; go_upto_region 1 with fail; rw [HW0.out]; have c1 := HR.out.cell 0 1 rfl rfl; have d1 := HR.out.cell 1 1 rfl rfl; by_cases hcd : d.hour ≤ c.hour
 ·
  have HE : Hid (betwN (hoursF pubs) (netP o) c.hour d.hour = none) := hD (by unfold betwN; rw [if_neg (by omega)]); go_wp2_with (refine sRW #[(), ()] (HR.out.row 2 rfl) infoSp ?_); have HRZ := hD (HR.out.set (i := 2) (cs' := #[(), ()]) rfl); exact bpr (HRZ.out.row 2 rfl) undSp infoSp (retBt_none HE.out HRZ.out.below)
 ·
  have HE : Hid (betwN (hoursF pubs) (netP o) c.hour d.hour = sumN (hoursF pubs) (netP o) c.hour (d.hour - c.hour).toNat) := hD (by unfold betwN; rw [if_pos (by omega)]); have hlt : c.hour < d.hour := by omega
  go_upto_region 3 with fail; clear c1 d1; refine wrd (S := RowsS w _) (HR.out.drew) (fun yH => ?_); refine tn 0 ?_; refine tn 1 ?_; refine tn 2 ?_; refine tn 3 ?_ (hx := cx fun _ h => h.old HJ 3 rfl); refine tn 4 ?_; refine tn 5 ?_ (hx := cx fun _ h => h.cell 0 1 rfl rfl); refine tn 6 ?_; refine tn 7 ?_ (hx := cx fun _ h => h.cell 1 1 rfl rfl); refine tn 8 ?_; refine rd1 9 (fun K hK => ?_); go_simp; refine (sumsN_any pubs mb c.hour d.hour _ (HH.out.below yH.below) hcI.out hdI.out hI hl o ob ho ((yH.below.cell (p := ⟨ob, 0, none⟩) hobl).trans HOB.out) (Nat.lt_of_lt_of_le hobl yH.below.size)).mono ?_; rintro e w' ⟨v, L, rfl, hL, hS, hb⟩; refine hK.out _ _ (yH.step hb) (fun yH => ?_); clear hK K; refine tn 10 ?_; refine rdn ?_; have HR1 := hD yH; have HL := hD hL; have HS := hD hS; clear yH hL hS; obtain ⟨aL, cL, rfl, hlc, hlm⟩ := HL.out.slice; have hLm : L.length ≤ 9223372036854775807 := by unfold maxLen at hlm; omega
  have W1 : IntKind.i64.wrap ((L.length : Int) - 1) = (L.length : Int) - 1 := IntWalk.i64_in _ (by omega); have W2 : IntKind.i64.wrap (d.hour - c.hour) = d.hour - c.hour := IntWalk.i64_in _ (by omega); have c1 := HR1.out.cell 0 1 rfl rfl; have d1 := HR1.out.cell 1 1 rfl rfl; have hlast := isSums_last HS.out hlt
  cases hs : sumN (hoursF pubs) (netP o) c.hour (d.hour - c.hour).toNat with
  | none =>
   rw [hs] at hlast HE; dsimp only at hlast; have q1 : ((L.length : Int) - 1 == d.hour - c.hour) = false := by rw [beq_eq_false_iff_ne]; omega
   have q2 : ((L.length : Int) - 1 != d.hour - c.hour) = true := by rw [bne_iff_ne]; omega
   clear hs hlast; go_wp2_with (refine sRW #[(), ()] (HR1.out.row 2 rfl) infoSp ?_); have HRZ := hD (HR1.out.set (i := 2) (cs' := #[(), ()]) rfl); exact bpr (HRZ.out.row 2 rfl) undSp infoSp (retBt_none HE.out HRZ.out.below)
  | some s =>
   rw [hs] at hlast HE; dsimp only at hlast; obtain ⟨hl1, hl2⟩ := hlast; have q1 : ((L.length : Int) - 1 == d.hour - c.hour) = true := by rw [beq_iff_eq]; omega
   have q2 : ((L.length : Int) - 1 != d.hour - c.hour) = false := by rw [bne_eq_false_iff_eq]; omega
   obtain ⟨b, o, cs, rfl, hb2, -, hrg, rfl, -⟩ := HL.out.at hl2; obtain ⟨m, hm⟩ : ∃ m, m = (d.hour - c.hour).toNat := ⟨_, rfl⟩; rw [← hm] at hrg hl1; have HRG := hD hrg; have W3 : (L.length : Int) - 1 = (m : Int) := by omega
   have W4 : IntKind.i64.wrap (m : Int) = (m : Int) := IntWalk.i64_in _ (by omega); have hml : m < L.length := by omega
   have hmi : (m : Int) < L.length := by omega
   clear hs hl1 hl2 hrg hm; rw [W3] at W1 q1 q2; go_wp2_with (first | (refine lRG HRG.out undSp infoSp ?_) | (refine sRW #[s.lo, s.hi] (HR1.out.row 2 rfl) infoSp ?_)); have HRZ := hD (HR1.out.set (i := 2) (cs' := #[s.lo, s.hi]) rfl); exact bpr (HRZ.out.row 2 rfl) undSp infoSp (retBt_some HE.out HRZ.out.below)
end Go.Proofs.YtjbjpkhibcnenaaGreatDoor
/- The judge of package audit: outOfRange, disagree, breaks, counts, promised. -/
namespace Go.Proofs.YtjbjpkhibcnenaaGreatDoor
set_option maxRecDepth 100000
set_option maxHeartbeats 4000000
open Go.RowKit
theorem range_any (jb mb : Nat) (ar ap : Option Addr) (cr cp : Nat) (err : Int) (room ps : List Int) (pubs : List PublicV) (H : Int → Option PublicV) (K : CV → Bool) (V : PV → Bool) (c : CV) (j : Nat) (w : World) (hJ : JudgeAt jb mb ar ap cr cp err room ps pubs w) (hj : j < 3) (ho : c.office = (j : Int)) (_hc : CNum c) : Calls Tryz.prog 54 #[.pointer (some ⟨jb, 0, none⟩), .agg #[(j : Int), c.hour, c.inn, c.out, c.store, c.prev, c.e, c.s]] w (RetB (rangeB ⟨err, room, H, K, V⟩ c) w) := by
 have HJ := hD hJ.row; have hjl := blk_lt hJ.row; have he := hJ.e0; obtain ⟨r, hr⟩ : ∃ r, room[j]? = some r := ⟨_, List.getElem?_eq_getElem (by rw [hJ.lr]; exact hj)⟩; obtain ⟨b, o, cs, rfl, hbr, -, hrg, rfl, hrI⟩ := hJ.lroom.at hr; have hrb := hJ.r0 r (List.mem_of_getElem? hr); have HRM : Hid (w.cell? ⟨b, o + j, none⟩ = some (.int .i64 r)) := hD (by have := hrg 0 _ rfl; rw [Nat.mul_one, Nat.add_zero] at this; exact this); have W1 : IntKind.i64.wrap (-err) = -err := IntWalk.i64_in _ (by omega); have W2 : IntKind.i64.wrap (r + err) = r + err := IntWalk.i64_in _ (by omega); have h0 : ¬ (3 : Int) ≤ (j : Int) := by omega
 have h00 : (j : Int) < 3 := by omega
 have HR := hD ((RowsS.nil w).alloc (.cells #[(j : Int), c.hour, c.inn, c.out, c.store, c.prev, c.e, c.s] 63)); clear hJ hrg hrI; have HOc := hD ho; have HRr := hD hr; clear ho hr; go_enter Tryz.func54, Tryz.ntmps54; go_upto_region 1 with fail; generalize w.alloc (.cells #[(j : Int), c.hour, c.inn, c.out, c.store, c.prev, c.e, c.s] 63) = w0 at *; refine wrd (S := RowsS w _) (HR.out.drew) (fun yH => ?_); refine tn 0 ?_; refine tn 1 ?_ (hx := cx fun _ h => h.cell 0 0 rfl rfl); refine tn 2 ?_; refine tn 3 ?_; refine tn 4 ?_; refine tn 5 ?_ (hx := cx fun _ h => h.old HJ 1 rfl); refine tn 6 ?_; refine tn 7 ?_; refine rdn ?_; have HR1 := hD yH; clear yH; go_upto_region 3 with fail; refine wrd (S := RowsS w _) (HR1.out.drew) (fun yH => ?_); refine tn 0 ?_; refine tn 1 ?_ (hx := cx fun _ h => h.cell 0 4 rfl rfl); refine tn 2 ?_; refine tn 3 ?_; refine tn 4 ?_; refine tn 5 ?_ (hx := cx fun _ h => h.old HJ 0 rfl); refine tn 6 ?_; by_cases h1 : c.store < -err
 ·
  refine tn 7 ?_; (try simp only [Act.put, aL1, aL2, aL3]); refine tn 8 ?_; refine skn 26 [(9, some 22), (10, some 23), (11, some 24), (12, some 25), (13, some 26), (14, some 27), (15, some 28), (16, some 29), (17, some 30), (18, some 31), (19, some 32), (20, some 33), (21, some 34), (22, some 35), (23, some 36), (24, some 37)] ?_; refine tn 25 ?_; refine tn 26 ?_; refine skn 2 [(27, some 40), (28, some 41), (29, some 42), (30, some 43), (31, some 44), (32, some 45), (33, some 46), (34, some 47), (35, some 48), (36, some 49), (37, some 50), (38, some 51), (39, some 52), (40, some 53), (41, some 54), (42, some 55), (43, some 56), (44, some 57), (45, some 58), (46, some 59), (47, some 60), (48, some 61)] ?_; refine tn 49 ?_; refine tn 50 ?_; refine rdn ?_; have HT : Hid (rangeB ⟨err, room, H, K, V⟩ c = true) := hD (by (try have h3 := H3.out); unfold rangeB; simp only [HOc.out, Int.toNat_natCast, HRr.out]; simp [*]); go_wp2_with fail; go_ret; exact retB_mk HT.out yH.below
 ·
  refine tn 7 ?_; (try simp only [Act.put, aL1, aL2, aL3]); refine tn 8 ?_; refine tn 9 ?_; refine tn 10 ?_ (hx := cx fun _ h => h.cell 0 4 rfl rfl); refine tn 11 ?_; refine tn 12 ?_; refine tn 13 ?_; refine tn 14 ?_ (hx := cx fun _ h => h.old HJ 1 rfl); refine tn 15 ?_; refine tn 16 ?_ (hx := cx fun _ h => h.cell 0 0 rfl rfl); refine tn 17 ?_; refine tn 18 ?_ (hx := fun wz hSw => by have e4 := (hSw.below.cell hbr).trans HRM.out; go_simp; try with_reducible rfl); refine tn 19 ?_; refine tn 20 ?_; refine tn 21 ?_; refine tn 22 ?_ (hx := cx fun _ h => h.old HJ 0 rfl); refine tn 23 ?_; by_cases h2 : r + err < c.store
  ·
   refine tn 24 ?_; (try simp only [Act.put, aL1, aL2, aL3]); refine tn 25 ?_; refine tn 26 ?_; refine skn 2 [(27, some 40), (28, some 41), (29, some 42), (30, some 43), (31, some 44), (32, some 45), (33, some 46), (34, some 47), (35, some 48), (36, some 49), (37, some 50), (38, some 51), (39, some 52), (40, some 53), (41, some 54), (42, some 55), (43, some 56), (44, some 57), (45, some 58), (46, some 59), (47, some 60), (48, some 61)] ?_; refine tn 49 ?_; refine tn 50 ?_; refine rdn ?_; have HT : Hid (rangeB ⟨err, room, H, K, V⟩ c = true) := hD (by (try have h3 := H3.out); unfold rangeB; simp only [HOc.out, Int.toNat_natCast, HRr.out]; simp [*]); go_wp2_with fail; go_ret; exact retB_mk HT.out yH.below
  ·
   refine tn 24 ?_; (try simp only [Act.put, aL1, aL2, aL3]); refine tn 25 ?_; refine tn 26 ?_; refine tn 27 ?_; refine tn 28 ?_ (hx := cx fun _ h => h.cell 0 0 rfl rfl); by_cases h3 : j = 0
   ·
    have q1 : ((j : Int) == 0) = true := by rw [beq_iff_eq]; omega
    have q2 : decide ((j : Int) = 0) = true := decide_eq_true (by omega); have H3 := hD h3; clear h3; refine tn 29 ?_; refine tn 30 ?_; refine tn 31 ?_; refine tn 32 ?_ (hx := cx fun _ h => h.cell 0 2 rfl rfl); refine tn 33 ?_; refine tn 34 ?_; refine tn 35 ?_; refine tn 36 ?_ (hx := cx fun _ h => h.old HJ 0 rfl); refine tn 37 ?_; by_cases h4 : c.inn < -err
    ·
     refine tn 38 ?_; (try simp only [Act.put, aL1, aL2, aL3]); refine tn 39 ?_; refine skn 4 [(40, some 53), (41, some 54), (42, some 55), (43, some 56), (44, some 57), (45, some 58), (46, some 59)] ?_; refine tn 47 ?_; refine tn 48 ?_; refine tn 49 ?_; refine tn 50 ?_; refine rdn ?_; have HT : Hid (rangeB ⟨err, room, H, K, V⟩ c = true) := hD (by (try have h3 := H3.out); unfold rangeB; simp only [HOc.out, Int.toNat_natCast, HRr.out]; simp [*]); go_wp2_with fail; go_ret; exact retB_mk HT.out yH.below
    ·
     refine tn 38 ?_; (try simp only [Act.put, aL1, aL2, aL3]); refine tn 39 ?_; refine tn 40 ?_; refine tn 41 ?_ (hx := cx fun _ h => h.cell 0 2 rfl rfl); refine tn 42 ?_; refine tn 43 ?_; refine tn 44 ?_; refine tn 45 ?_ (hx := cx fun _ h => h.old HJ 0 rfl); by_cases h5 : err < c.inn
     ·
      refine tn 46 ?_; (try simp only [Act.put, aL1, aL2, aL3]); refine tn 47 ?_; refine tn 48 ?_; refine tn 49 ?_; refine tn 50 ?_; refine rdn ?_; have HT : Hid (rangeB ⟨err, room, H, K, V⟩ c = true) := hD (by (try have h3 := H3.out); unfold rangeB; simp only [HOc.out, Int.toNat_natCast, HRr.out]; simp [*]); go_wp2_with fail; go_ret; exact retB_mk HT.out yH.below
     ·
      refine tn 46 ?_; (try simp only [Act.put, aL1, aL2, aL3]); refine tn 47 ?_; refine tn 48 ?_; refine tn 49 ?_; refine tn 50 ?_; refine rdn ?_; have HT : Hid (rangeB ⟨err, room, H, K, V⟩ c = false) := hD (by (try have h3 := H3.out); unfold rangeB; simp only [HOc.out, Int.toNat_natCast, HRr.out]; simp [*]); go_wp2_with fail; go_ret; exact retB_mk HT.out yH.below
   ·
    have q1 : ((j : Int) == 0) = false := by rw [beq_eq_false_iff_ne]; omega
    have q2 : decide ((j : Int) = 0) = false := decide_eq_false (by omega); have H3 := hD h3; clear h3; refine tn 29 ?_; refine tn 30 ?_; refine skn 3 [(31, some 44), (32, some 45), (33, some 46), (34, some 47), (35, some 48), (36, some 49), (37, some 50), (38, some 51), (39, some 52), (40, some 53), (41, some 54), (42, some 55), (43, some 56), (44, some 57), (45, some 58), (46, some 59), (47, some 60)] ?_; refine tn 48 ?_; refine tn 49 ?_; refine tn 50 ?_; refine rdn ?_; have HT : Hid (rangeB ⟨err, room, H, K, V⟩ c = false) := hD (by (try have h3 := H3.out); unfold rangeB; simp only [HOc.out, Int.toNat_natCast, HRr.out]; simp [*]); go_wp2_with fail; go_ret; exact retB_mk HT.out yH.below
theorem disagree_any (jb mb : Nat) (ar ap : Option Addr) (cr cp : Nat) (err : Int) (room ps : List Int) (pubs : List PublicV) (H : Int → Option PublicV) (K : CV → Bool) (V : PV → Bool) (c d : CV) (w : World) (hJ : JudgeAt jb mb ar ap cr cp err room ps pubs w) (hc : CNum c) (hd : CNum d) : Calls Tryz.prog 58 #[.pointer (some ⟨jb, 0, none⟩), .agg #[c.office, c.hour, c.inn, c.out, c.store, c.prev, c.e, c.s], .agg #[d.office, d.hour, d.inn, d.out, d.store, d.prev, d.e, d.s]] w (RetB (disB ⟨err, room, H, K, V⟩ c d) w) := by
 have HJ := hD hJ.row; have hjl := blk_lt hJ.row; have he := hJ.e0; unfold CNum at hc hd; have W1 : IntKind.i64.wrap (c.out - d.inn) = c.out - d.inn := IntWalk.i64_in _ (by omega); have W2 : IntKind.i64.wrap (2 * err) = 2 * err := IntWalk.i64_in _ (by omega); have W3 : IntKind.i64.wrap (-2 * err) = -2 * err := IntWalk.i64_in _ (by omega); have W4 : IntKind.i64.wrap (-(2 * err)) = -(2 * err) := IntWalk.i64_in _ (by omega); obtain ⟨w0, hw0, hR0⟩ := RowsS.twoE w (.cells #[c.office, c.hour, c.inn, c.out, c.store, c.prev, c.e, c.s] 63) (.cells #[d.office, d.hour, d.inn, d.out, d.store, d.prev, d.e, d.s] 63); have HR := hD hR0; have HW0 := hD hw0; clear hR0 hw0; clear hJ; by_cases h1 : c.hour = d.hour
 ·
  have q1 : (c.hour == d.hour) = true := by rw [beq_iff_eq]; exact h1
  have q2 : decide (c.hour = d.hour) = true := decide_eq_true h1; obtain ⟨x, hx⟩ : ∃ x, x = c.hour := ⟨_, rfl⟩; by_cases h2 : 2 * err < c.out - d.inn
  ·
   clear h1; have HT : Hid (disB ⟨err, room, H, K, V⟩ c d = true) := hD (by unfold disB; simp [*]); go_enter Tryz.func58, Tryz.ntmps58; go_upto_region 1 with fail; rw [HW0.out]; have c3 := rowN (HR.out.rows 0 _ rfl) 3 (.int .i64 c.out) rfl; have c1 := rowN (HR.out.rows 0 _ rfl) 1 (.int .i64 c.hour) rfl; have d2 := rowN (HR.out.rows 1 _ rfl) 2 (.int .i64 d.inn) rfl; have d1 := rowN (HR.out.rows 1 _ rfl) 1 (.int .i64 d.hour) rfl; have j0 := rowN (blk_below HJ.out HR.out.below hjl) 0 (.int .i64 err) rfl; dsimp only at c3 c1 d2 d1; clear HJ; go_wp2_with fail; go_ret; exact retB_mk (by first | exact HT.out | (rw [HT.out]; simp [*])) HR.out.below
  ·
   by_cases h3 : c.out - d.inn < -(2 * err)
   ·
    have h4 : c.out - d.inn < -2 * err := by omega
    clear h1; have HT : Hid (disB ⟨err, room, H, K, V⟩ c d = true) := hD (by unfold disB; simp [*]); go_enter Tryz.func58, Tryz.ntmps58; go_upto_region 1 with fail; rw [HW0.out]; have c3 := rowN (HR.out.rows 0 _ rfl) 3 (.int .i64 c.out) rfl; have c1 := rowN (HR.out.rows 0 _ rfl) 1 (.int .i64 c.hour) rfl; have d2 := rowN (HR.out.rows 1 _ rfl) 2 (.int .i64 d.inn) rfl; have d1 := rowN (HR.out.rows 1 _ rfl) 1 (.int .i64 d.hour) rfl; have j0 := rowN (blk_below HJ.out HR.out.below hjl) 0 (.int .i64 err) rfl; dsimp only at c3 c1 d2 d1; clear HJ; go_wp2_with fail; go_ret; exact retB_mk (by first | exact HT.out | (rw [HT.out]; simp [*])) HR.out.below
   ·
    have h4 : ¬ c.out - d.inn < -2 * err := by omega
    clear h1; have HT : Hid (disB ⟨err, room, H, K, V⟩ c d = false) := hD (by unfold disB; simp [*]); go_enter Tryz.func58, Tryz.ntmps58; go_upto_region 1 with fail; rw [HW0.out]; have c3 := rowN (HR.out.rows 0 _ rfl) 3 (.int .i64 c.out) rfl; have c1 := rowN (HR.out.rows 0 _ rfl) 1 (.int .i64 c.hour) rfl; have d2 := rowN (HR.out.rows 1 _ rfl) 2 (.int .i64 d.inn) rfl; have d1 := rowN (HR.out.rows 1 _ rfl) 1 (.int .i64 d.hour) rfl; have j0 := rowN (blk_below HJ.out HR.out.below hjl) 0 (.int .i64 err) rfl; dsimp only at c3 c1 d2 d1; clear HJ; go_wp2_with fail; go_ret; exact retB_mk (by first | exact HT.out | (rw [HT.out]; simp [*])) HR.out.below
 ·
  have q1 : (c.hour == d.hour) = false := by rw [beq_eq_false_iff_ne]; exact h1
  have q2 : decide (c.hour = d.hour) = false := decide_eq_false h1; have HT : Hid (disB ⟨err, room, H, K, V⟩ c d = false) := hD (by unfold disB; simp [*]); go_enter Tryz.func58, Tryz.ntmps58; go_upto_region 1 with fail; rw [HW0.out]; have c3 := rowN (HR.out.rows 0 _ rfl) 3 (.int .i64 c.out) rfl; have c1 := rowN (HR.out.rows 0 _ rfl) 1 (.int .i64 c.hour) rfl; have d2 := rowN (HR.out.rows 1 _ rfl) 2 (.int .i64 d.inn) rfl; have d1 := rowN (HR.out.rows 1 _ rfl) 1 (.int .i64 d.hour) rfl; have j0 := rowN (blk_below HJ.out HR.out.below hjl) 0 (.int .i64 err) rfl; dsimp only at c3 c1 d2 d1; clear HJ; go_wp2_with fail; go_ret; exact retB_mk (by first | exact HT.out | (rw [HT.out]; simp [*])) HR.out.below
end Go.Proofs.YtjbjpkhibcnenaaGreatDoor
