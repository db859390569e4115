/- The judge of package audit: all, between. -/
import Derived.Test.YtjbjpkhibcnenaaGreatDoorAJudgeC
namespace Go.Proofs.YtjbjpkhibcnenaaGreatDoor
open Go.RowKit
theorem results_row_tmp {P : Program} {fn : Func} {p u : Tmp} {ty : TypeId} (h : fn.results = #[.cell p ty, .tmp u]) (tmps : Array Value) (w : World) (g : Nat) (t : TypeId) (cs : Array Value) (fr : Nat × Nat) (d : TypeDesc)
    (hp : tmps.getD p undef = .pointer (some ⟨g, 0, none⟩)) (hg : w.heap[g]? = some (.cells cs t fr))
    (hu : P.underlying ty = some d) (hd : (match d with | .struct _ | .array _ _ => true | _ => false) = true) (hi : (P.info? ty).map (·.size) = some cs.size) :
    (results fn tmps).run P w = .ok (.tuple #[.agg cs, tmps.getD u undef]) w := by
  rw [results_cell_tmp h, hp]
  simp [asAddr, run_loadVar_row w g t ty cs fr d hg hu hd hi]
theorem isSums_last {H : Int → Option PublicV} {pick : PublicV → SpanV} {f u : Int} {L : List SpanV} (h : IsSums H pick f u L) (hfu : f < u) :
    match sumN H pick f (u - f).toNat with
    | some s => L.length = (u - f).toNat + 1 ∧ L[(u - f).toNat]? = some s
    | none => L.length ≤ (u - f).toNat := by
  have h1 := h (u - f).toNat
  have h2 := h ((u - f).toNat + 1)
  rw [if_pos (by omega)] at h1
  rw [if_neg (by omega)] at h2
  have h3 := List.getElem?_eq_none_iff.1 h2
  cases e : sumN H pick f (u - f).toNat with
  | some s =>
    rw [e] at h1
    have := (List.getElem?_eq_some_iff.1 h1).1
    exact ⟨by omega, h1⟩
  | none =>
    rw [e] at h1
    exact List.getElem?_eq_none_iff.1 h1
def RetBt (r : Option SpanV) (w : World) (e : Ending) (w' : World) : Prop := e = .returned (.tuple #[.agg #[.int .i64 (r.getD ⟨0, 0⟩).lo, .int .i64 (r.getD ⟨0, 0⟩).hi], .bool r.isSome]) ∧ Below w.heap.size w w'
theorem retBt_none {r : Option SpanV} {w w' : World} (h : r = none) (hb : Below w.heap.size w w') : RetBt r w (.returned (.tuple #[.agg #[.int .i64 0, .int .i64 0], .bool false])) w' := by subst h; exact ⟨rfl, hb⟩
theorem retBt_some {r : Option SpanV} {s : SpanV} {w w' : World} (h : r = some s) (hb : Below w.heap.size w w') : RetBt r w (.returned (.tuple #[.agg #[.int .i64 s.lo, .int .i64 s.hi], .bool true])) w' := by subst h; exact ⟨rfl, hb⟩
theorem allB_snoc {l : List CV} {k : Nat} {c : CV} (h : l[k]? = some c) (o : Int) : allB (l.take (k + 1)) o = (allB (l.take k) o && decide (c.office = o)) := by
  unfold allB
  rw [List.take_add_one, h]
  simp
theorem allB_no {l : List CV} {k : Nat} {c : CV} (h : l[k]? = some c) {o : Int} (hc : c.office ≠ o) : allB l o = false := by
  unfold allB
  rw [List.all_eq_false]
  exact ⟨c, List.mem_of_getElem? h, by simp [hc]⟩
set_option maxRecDepth 100000 in
set_option maxHeartbeats 4000000 in
theorem all_any (l : List CV) (v : Value) (n : Nat) (o : Int) (w : World) (h : LArg RC 8 v l w) (hl : l.length ≤ 1000) (_hn : n ≤ 1000) : Calls Tryz.prog 92 #[v, .int .i64 (n : Int), .int .i64 o] w (RetB (decide (l.length = n) && allB l o) w) := by
  obtain ⟨al, lc, rfl, hlc, hlm⟩ := h.slice
  have HL := Lib.hid h
  have hl2 : l.length ≤ 9223372036854775807 := by omega
  clear h hlm hlc
  by_cases hln : l.length = n
  · have q1 : ((l.length : Int) == (n : Int)) = true := by rw [beq_iff_eq]; omega
    have q2 : ((l.length : Int) != (n : Int)) = false := by simp [hln]
    have q3 : decide ((l.length : Int) = (n : Int)) = true := decide_eq_true (by omega)
    have HE : Hid (decide (l.length = n) = true) := Lib.hid (decide_eq_true hln)
    clear hln
    go_enter Tryz.func92, Tryz.ntmps92
    go_wp2_with fail
    go_loopw [15] (fun iv wx => ∃ k : Nat, k ≤ l.length ∧ iv = .int .i64 k ∧ allB (l.take k) o = true ∧ Below w.heap.size w wx) (fun iv _ => l.length - (Go.RowKit.intOf iv).toNat)
    case atStart => exact ⟨0, Nat.zero_le _, rfl, rfl, Below.refl _ _⟩
    case round =>
      obtain ⟨k, hk, rfl, ha, hb⟩ := hrel
      have HA := Lib.hid ha
      have HB := Lib.hid hb
      clear ha hb
      by_cases hlt : k < l.length
      · obtain ⟨c, hc⟩ : ∃ c, l[k]? = some c := ⟨_, List.getElem?_eq_getElem hlt⟩
        obtain ⟨b, q, cs, rfl, hbl, -, hrg, hcs, hok⟩ := HL.out.at hc
        unfold cellsC at hcs
        subst hcs
        have HRG := Lib.hid (rangeAt_below hrg HB.out hbl)
        have HS := Lib.hid (allB_snoc hc o)
        have HC := Lib.hid hc
        have HB2 := Lib.hid (HB.out.alloc HB.out.size (.cells #[.int .i64 c.office, .int .i64 c.hour, .int .i64 c.inn, .int .i64 c.out, .int .i64 c.store, .string c.prev, .int .i64 c.e, .int .i64 c.s] 63))
        have HR2 := Lib.hid (heap_alloc_new wr (.cells #[.int .i64 c.office, .int .i64 c.hour, .int .i64 c.inn, .int .i64 c.out, .int .i64 c.store, .string c.prev, .int .i64 c.e, .int .i64 c.s] 63))
        clear hc hrg hok HB
        go_upto_region 6 with (refine wpList_load_range (by first | (go_simp; done) | rfl) 63 _ rfl _ _ rfl _ _ HRG.out undCm rfl infoCm ?_)
        clear HRG
        generalize wr.alloc (.cells #[.int .i64 c.office, .int .i64 c.hour, .int .i64 c.inn, .int .i64 c.out, .int .i64 c.store, .string c.prev, .int .i64 c.e, .int .i64 c.s] 63) = w2 at *
        generalize wr.heap.size = bC at *
        have c0 := rowN HR2.out 0 (.int .i64 c.office) rfl
        by_cases ho : c.office = o
        · have q5 : (c.office == o) = true := by rw [beq_iff_eq]; exact ho
          have q6 : (c.office != o) = false := by simp [ho]
          have HS2 : Hid (allB (l.take (k + 1)) o = true) := Lib.hid (by rw [HS.out, HA.out, decide_eq_true ho]; rfl)
          clear ho
          go_wp2_with fail
          go_roundw
          case rel => exact ⟨k + 1, by omega, by go_num, HS2.out, HB2.out⟩
          case measure => simp [Go.RowKit.intOf]; omega
        · have q5 : (c.office == o) = false := by rw [beq_eq_false_iff_ne]; exact ho
          have q6 : (c.office != o) = true := by simp [ho]
          have HX : Hid (allB l o = false) := Lib.hid (allB_no HC.out ho)
          clear ho
          go_wp2_with fail
          go_ret
          exact retB_mk (by rw [HE.out, HX.out]; rfl) HB2.out
      · obtain rfl : k = l.length := by omega
        rw [List.take_length] at HA
        clear hlt hk
        go_wp2_with fail
        go_ret
        exact retB_mk (by rw [HE.out, HA.out]; rfl) HB.out
  · have q1 : ((l.length : Int) == (n : Int)) = false := by rw [beq_eq_false_iff_ne]; omega
    have q2 : ((l.length : Int) != (n : Int)) = true := by simp; omega
    have q3 : decide ((l.length : Int) = (n : Int)) = false := decide_eq_false (by omega)
    have HE : Hid (decide (l.length = n) = false) := Lib.hid (decide_eq_false hln)
    clear hln
    go_enter Tryz.func92, Tryz.ntmps92
    go_wp2_with fail
    go_ret
    exact retB_mk (by rw [HE.out]; rfl) (Below.refl _ _)
set_option maxRecDepth 100000 in
set_option maxHeartbeats 8000000 in
theorem betweenM_any (jb mb : Nat) (ar ap : Option Addr) (cr cp : Nat) (err : Int) (room ps : List Int) (pubs : List PublicV) (c d : CV)  (w : World) (hJ : JudgeAt jb mb ar ap cr cp err room ps pubs w) (hc : I64 c.hour) (hd : I64 d.hour) (hI : ∀ p ∈ pubs, PbI p) (hl : pubs.length ≤ 1000) (hch : 0 ≤ c.hour) (hdh : 0 ≤ d.hour) : Calls Tryz.prog 93 #[.pointer (some ⟨jb, 0, none⟩), .agg #[.int .i64 c.office, .int .i64 c.hour, .int .i64 c.inn, .int .i64 c.out, .int .i64 c.store, .string c.prev, .int .i64 c.e, .int .i64 c.s], .agg #[.int .i64 d.office, .int .i64 d.hour, .int .i64 d.inn, .int .i64 d.out, .int .i64 d.store, .string d.prev, .int .i64 d.e, .int .i64 d.s], .func (.func 55) #[] #[]] w (RetBt (betwN (hoursF pubs) (mouthP) c.hour d.hour) w) := by
  have HJ := Lib.hid hJ.row
  have hjl := blk_lt hJ.row
  have HH := Lib.hid hJ.hours
  have hcI := Lib.hid hc
  have hdI := Lib.hid hd
  unfold I64 at hc hd
  have s1 : (w.alloc (.cells #[.int .i64 c.office, .int .i64 c.hour, .int .i64 c.inn, .int .i64 c.out, .int .i64 c.store, .string c.prev, .int .i64 c.e, .int .i64 c.s] 63)).heap.size = w.heap.size + 1 := by simp
  have s2 : ((w.alloc (.cells #[.int .i64 c.office, .int .i64 c.hour, .int .i64 c.inn, .int .i64 c.out, .int .i64 c.store, .string c.prev, .int .i64 c.e, .int .i64 c.s] 63)).alloc (.cells #[.int .i64 d.office, .int .i64 d.hour, .int .i64 d.inn, .int .i64 d.out, .int .i64 d.store, .string d.prev, .int .i64 d.e, .int .i64 d.s] 63)).heap.size = w.heap.size + 1 + 1 := by simp
  have HR : Hid (RowsS w [(w.heap.size, .cells #[.int .i64 c.office, .int .i64 c.hour, .int .i64 c.inn, .int .i64 c.out, .int .i64 c.store, .string c.prev, .int .i64 c.e, .int .i64 c.s] 63), ((w.heap.size + 1), .cells #[.int .i64 d.office, .int .i64 d.hour, .int .i64 d.inn, .int .i64 d.out, .int .i64 d.store, .string d.prev, .int .i64 d.e, .int .i64 d.s] 63), ((w.heap.size + 1 + 1), .cells #[.int .i64 0, .int .i64 0] 53)] (((w.alloc (.cells #[.int .i64 c.office, .int .i64 c.hour, .int .i64 c.inn, .int .i64 c.out, .int .i64 c.store, .string c.prev, .int .i64 c.e, .int .i64 c.s] 63)).alloc (.cells #[.int .i64 d.office, .int .i64 d.hour, .int .i64 d.inn, .int .i64 d.out, .int .i64 d.store, .string d.prev, .int .i64 d.e, .int .i64 d.s] 63)).alloc (.cells #[.int .i64 0, .int .i64 0] 53))) := Lib.hid (by
    have := (((RowsS.nil w).alloc (.cells #[.int .i64 c.office, .int .i64 c.hour, .int .i64 c.inn, .int .i64 c.out, .int .i64 c.store, .string c.prev, .int .i64 c.e, .int .i64 c.s] 63)).alloc (.cells #[.int .i64 d.office, .int .i64 d.hour, .int .i64 d.inn, .int .i64 d.out, .int .i64 d.store, .string d.prev, .int .i64 d.e, .int .i64 d.s] 63)).alloc (.cells #[.int .i64 0, .int .i64 0] 53)
    rw [s1, s2] at this
    exact this)
  clear hJ s1 s2
  go_enter Tryz.func93, Tryz.ntmps93
  go_upto_region 1 with fail
  generalize ((w.alloc (.cells #[.int .i64 c.office, .int .i64 c.hour, .int .i64 c.inn, .int .i64 c.out, .int .i64 c.store, .string c.prev, .int .i64 c.e, .int .i64 c.s] 63)).alloc (.cells #[.int .i64 d.office, .int .i64 d.hour, .int .i64 d.inn, .int .i64 d.out, .int .i64 d.store, .string d.prev, .int .i64 d.e, .int .i64 d.s] 63)).alloc (.cells #[.int .i64 0, .int .i64 0] 53) = w0 at *
  have c1 := HR.out.cell 0 1 rfl rfl
  have d1 := HR.out.cell 1 1 rfl rfl
  by_cases hcd : d.hour ≤ c.hour
  · have HE : Hid (betwN (hoursF pubs) (mouthP) c.hour d.hour = none) := Lib.hid (by unfold betwN; rw [if_neg (by omega)])
    go_wp2_with (refine wpList_store_row rfl 53 _ _ rfl (w.heap.size + 1 + 1) #[.int .i64 0, .int .i64 0] rfl rfl 53 #[.int .i64 0, .int .i64 0] (HR.out.row 2 rfl) infoSp rfl (by simp [Value.oneCell']) ?_)
    have HRZ := Lib.hid (HR.out.set (i := 2) (cs' := #[.int .i64 0, .int .i64 0]) rfl)
    exact bodyPost_ret (v := .tuple #[.agg #[.int .i64 0, .int .i64 0], .bool false]) (Eq.trans (results_row_tmp rfl _ _ (w.heap.size + 1 + 1) 53 #[.int .i64 0, .int .i64 0] (0, 0) _ rfl (HRZ.out.row 2 rfl) undSp rfl infoSp) rfl) rfl (retBt_none HE.out HRZ.out.below)
  · have HE : Hid (betwN (hoursF pubs) (mouthP) c.hour d.hour = sumN (hoursF pubs) (mouthP) c.hour (d.hour - c.hour).toNat) := Lib.hid (by unfold betwN; rw [if_pos (by omega)])
    have hlt : c.hour < d.hour := by omega
    go_upto_region 3 with fail
    clear c1 d1
    refine wp_region_noPanic ?_
    refine wp_region_held_drew (S := fun cw => RowsS w [(w.heap.size, .cells #[.int .i64 c.office, .int .i64 c.hour, .int .i64 c.inn, .int .i64 c.out, .int .i64 c.store, .string c.prev, .int .i64 c.e, .int .i64 c.s] 63), ((w.heap.size + 1), .cells #[.int .i64 d.office, .int .i64 d.hour, .int .i64 d.inn, .int .i64 d.out, .int .i64 d.store, .string d.prev, .int .i64 d.e, .int .i64 d.s] 63), ((w.heap.size + 1 + 1), .cells #[.int .i64 0, .int .i64 0] 53)] cw) (by kernel_rfl) (HR.out.drew) (fun hHeld => ?_)
    refine tn 0 ?_
    try simp only [Act.put, aL1, aL2, aL3]
    refine tn 1 ?_
    try simp only [Act.put, aL1, aL2, aL3]
    refine tn 2 ?_
    try simp only [Act.put, aL1, aL2, aL3]
    refine tn 3 ?_ (hx := fun wz hSw => by have e4 := hSw.old HJ 3 rfl; go_simp; try with_reducible rfl)
    try simp only [Act.put, aL1, aL2, aL3]
    refine tn 4 ?_
    try simp only [Act.put, aL1, aL2, aL3]
    refine tn 5 ?_ (hx := fun wz hSw => by have e4 := hSw.cell 0 1 rfl rfl; go_simp; try with_reducible rfl)
    try simp only [Act.put, aL1, aL2, aL3]
    refine tn 6 ?_
    try simp only [Act.put, aL1, aL2, aL3]
    refine tn 7 ?_ (hx := fun wz hSw => by have e4 := hSw.cell 1 1 rfl rfl; go_simp; try with_reducible rfl)
    try simp only [Act.put, aL1, aL2, aL3]
    refine tn 8 ?_
    try simp only [Act.put, aL1, aL2, aL3]
    refine rd1 9 (fun K hK => ?_)
    go_simp
    refine (sumsM_any pubs mb c.hour d.hour _ (HH.out.below hHeld.below) hcI.out hdI.out hI hl).mono ?_
    rintro e w' ⟨v, L, rfl, hL, hS, hb⟩
    refine hK.out _ _ (hHeld.step hb) (fun hHeld => ?_)
    clear hK K
    try simp only [Act.put, aL1, aL2, aL3]
    refine tn 10 ?_
    try simp only [Act.put, aL1, aL2, aL3]
    refine rdone (NoPanic.normal ?_)
    have HR1 := Lib.hid hHeld
    have HL := Lib.hid hL
    have HS := Lib.hid hS
    clear hHeld hL hS
    obtain ⟨aL, cL, rfl, hlc, hlm⟩ := HL.out.slice
    have hLm : L.length ≤ 9223372036854775807 := by unfold maxLen at hlm; omega
    have W1 : IntKind.i64.wrap ((L.length : Int) - 1) = (L.length : Int) - 1 := IntWalk.i64_in _ (by omega)
    have W2 : IntKind.i64.wrap (d.hour - c.hour) = d.hour - c.hour := IntWalk.i64_in _ (by omega)
    have c1 := HR1.out.cell 0 1 rfl rfl
    have d1 := HR1.out.cell 1 1 rfl rfl
    have hlast := isSums_last HS.out hlt
    cases hs : sumN (hoursF pubs) (mouthP) c.hour (d.hour - c.hour).toNat with
    | none =>
      rw [hs] at hlast HE
      dsimp only at hlast
      have q1 : ((L.length : Int) - 1 == d.hour - c.hour) = false := by rw [beq_eq_false_iff_ne]; omega
      have q2 : ((L.length : Int) - 1 != d.hour - c.hour) = true := by rw [bne_iff_ne]; omega
      clear hs hlast
      go_wp2_with (refine wpList_store_row rfl 53 _ _ rfl (w.heap.size + 1 + 1) #[.int .i64 0, .int .i64 0] rfl rfl 53 #[.int .i64 0, .int .i64 0] (HR1.out.row 2 rfl) infoSp rfl (by simp [Value.oneCell']) ?_)
      have HRZ := Lib.hid (HR1.out.set (i := 2) (cs' := #[.int .i64 0, .int .i64 0]) rfl)
      exact bodyPost_ret (v := .tuple #[.agg #[.int .i64 0, .int .i64 0], .bool false]) (Eq.trans (results_row_tmp rfl _ _ (w.heap.size + 1 + 1) 53 #[.int .i64 0, .int .i64 0] (0, 0) _ rfl (HRZ.out.row 2 rfl) undSp rfl infoSp) rfl) rfl (retBt_none HE.out HRZ.out.below)
    | some s =>
      rw [hs] at hlast HE
      dsimp only at hlast
      obtain ⟨hl1, hl2⟩ := hlast
      have q1 : ((L.length : Int) - 1 == d.hour - c.hour) = true := by rw [beq_iff_eq]; omega
      have q2 : ((L.length : Int) - 1 != d.hour - c.hour) = false := by rw [bne_eq_false_iff_eq]; omega
      obtain ⟨b, o, cs, rfl, hb2, -, hrg, rfl, -⟩ := HL.out.at hl2
      obtain ⟨m, hm⟩ : ∃ m, m = (d.hour - c.hour).toNat := ⟨_, rfl⟩
      rw [← hm] at hrg hl1
      have HRG := Lib.hid hrg
      have W3 : (L.length : Int) - 1 = (m : Int) := by omega
      have W4 : IntKind.i64.wrap (m : Int) = (m : Int) := IntWalk.i64_in _ (by omega)
      have hml : m < L.length := by omega
      have hmi : (m : Int) < L.length := by omega
      clear hs hl1 hl2 hrg hm
      rw [W3] at W1 q1 q2
      go_wp2_with (first | (refine wpList_load_range (by first | (go_simp; done) | rfl) 53 _ rfl _ _ rfl _ _ HRG.out undSp rfl infoSp ?_) | (refine wpList_store_row rfl 53 _ _ rfl (w.heap.size + 1 + 1) #[.int .i64 s.lo, .int .i64 s.hi] rfl rfl 53 #[.int .i64 0, .int .i64 0] (HR1.out.row 2 rfl) infoSp rfl (by simp [Value.oneCell']) ?_))
      have HRZ := Lib.hid (HR1.out.set (i := 2) (cs' := #[.int .i64 s.lo, .int .i64 s.hi]) rfl)
      exact bodyPost_ret (v := .tuple #[.agg #[.int .i64 s.lo, .int .i64 s.hi], .bool true]) (Eq.trans (results_row_tmp rfl _ _ (w.heap.size + 1 + 1) 53 #[.int .i64 s.lo, .int .i64 s.hi] (0, 0) _ rfl (HRZ.out.row 2 rfl) undSp rfl infoSp) rfl) rfl (retBt_some HE.out HRZ.out.below)
set_option maxRecDepth 100000 in
set_option maxHeartbeats 8000000 in
theorem betweenN_any (jb mb : Nat) (ar ap : Option Addr) (cr cp : Nat) (err : Int) (room ps : List Int) (pubs : List PublicV) (c d : CV) (o ob : Nat) (w : World) (hJ : JudgeAt jb mb ar ap cr cp err room ps pubs w) (hc : I64 c.hour) (hd : I64 d.hour) (hI : ∀ p ∈ pubs, PbI p) (hl : pubs.length ≤ 1000) (hch : 0 ≤ c.hour) (hdh : 0 ≤ d.hour) (ho : o < 3) (hob : w.cell? ⟨ob, 0, none⟩ = some (.int .i64 (o : Int))) (hobl : ob < w.heap.size) : Calls Tryz.prog 93 #[.pointer (some ⟨jb, 0, none⟩), .agg #[.int .i64 c.office, .int .i64 c.hour, .int .i64 c.inn, .int .i64 c.out, .int .i64 c.store, .string c.prev, .int .i64 c.e, .int .i64 c.s], .agg #[.int .i64 d.office, .int .i64 d.hour, .int .i64 d.inn, .int .i64 d.out, .int .i64 d.store, .string d.prev, .int .i64 d.e, .int .i64 d.s], .func (.func 80) #[] #[.pointer (some ⟨ob, 0, none⟩)]] w (RetBt (betwN (hoursF pubs) (netP o) c.hour d.hour) w) := by
  have HJ := Lib.hid hJ.row
  have hjl := blk_lt hJ.row
  have HH := Lib.hid hJ.hours
  have HOB := Lib.hid hob
  clear hob
  have hcI := Lib.hid hc
  have hdI := Lib.hid hd
  unfold I64 at hc hd
  have s1 : (w.alloc (.cells #[.int .i64 c.office, .int .i64 c.hour, .int .i64 c.inn, .int .i64 c.out, .int .i64 c.store, .string c.prev, .int .i64 c.e, .int .i64 c.s] 63)).heap.size = w.heap.size + 1 := by simp
  have s2 : ((w.alloc (.cells #[.int .i64 c.office, .int .i64 c.hour, .int .i64 c.inn, .int .i64 c.out, .int .i64 c.store, .string c.prev, .int .i64 c.e, .int .i64 c.s] 63)).alloc (.cells #[.int .i64 d.office, .int .i64 d.hour, .int .i64 d.inn, .int .i64 d.out, .int .i64 d.store, .string d.prev, .int .i64 d.e, .int .i64 d.s] 63)).heap.size = w.heap.size + 1 + 1 := by simp
  have HR : Hid (RowsS w [(w.heap.size, .cells #[.int .i64 c.office, .int .i64 c.hour, .int .i64 c.inn, .int .i64 c.out, .int .i64 c.store, .string c.prev, .int .i64 c.e, .int .i64 c.s] 63), ((w.heap.size + 1), .cells #[.int .i64 d.office, .int .i64 d.hour, .int .i64 d.inn, .int .i64 d.out, .int .i64 d.store, .string d.prev, .int .i64 d.e, .int .i64 d.s] 63), ((w.heap.size + 1 + 1), .cells #[.int .i64 0, .int .i64 0] 53)] (((w.alloc (.cells #[.int .i64 c.office, .int .i64 c.hour, .int .i64 c.inn, .int .i64 c.out, .int .i64 c.store, .string c.prev, .int .i64 c.e, .int .i64 c.s] 63)).alloc (.cells #[.int .i64 d.office, .int .i64 d.hour, .int .i64 d.inn, .int .i64 d.out, .int .i64 d.store, .string d.prev, .int .i64 d.e, .int .i64 d.s] 63)).alloc (.cells #[.int .i64 0, .int .i64 0] 53))) := Lib.hid (by
    have := (((RowsS.nil w).alloc (.cells #[.int .i64 c.office, .int .i64 c.hour, .int .i64 c.inn, .int .i64 c.out, .int .i64 c.store, .string c.prev, .int .i64 c.e, .int .i64 c.s] 63)).alloc (.cells #[.int .i64 d.office, .int .i64 d.hour, .int .i64 d.inn, .int .i64 d.out, .int .i64 d.store, .string d.prev, .int .i64 d.e, .int .i64 d.s] 63)).alloc (.cells #[.int .i64 0, .int .i64 0] 53)
    rw [s1, s2] at this
    exact this)
  clear hJ s1 s2
  go_enter Tryz.func93, Tryz.ntmps93
  go_upto_region 1 with fail
  generalize ((w.alloc (.cells #[.int .i64 c.office, .int .i64 c.hour, .int .i64 c.inn, .int .i64 c.out, .int .i64 c.store, .string c.prev, .int .i64 c.e, .int .i64 c.s] 63)).alloc (.cells #[.int .i64 d.office, .int .i64 d.hour, .int .i64 d.inn, .int .i64 d.out, .int .i64 d.store, .string d.prev, .int .i64 d.e, .int .i64 d.s] 63)).alloc (.cells #[.int .i64 0, .int .i64 0] 53) = w0 at *
  have c1 := HR.out.cell 0 1 rfl rfl
  have d1 := HR.out.cell 1 1 rfl rfl
  by_cases hcd : d.hour ≤ c.hour
  · have HE : Hid (betwN (hoursF pubs) (netP o) c.hour d.hour = none) := Lib.hid (by unfold betwN; rw [if_neg (by omega)])
    go_wp2_with (refine wpList_store_row rfl 53 _ _ rfl (w.heap.size + 1 + 1) #[.int .i64 0, .int .i64 0] rfl rfl 53 #[.int .i64 0, .int .i64 0] (HR.out.row 2 rfl) infoSp rfl (by simp [Value.oneCell']) ?_)
    have HRZ := Lib.hid (HR.out.set (i := 2) (cs' := #[.int .i64 0, .int .i64 0]) rfl)
    exact bodyPost_ret (v := .tuple #[.agg #[.int .i64 0, .int .i64 0], .bool false]) (Eq.trans (results_row_tmp rfl _ _ (w.heap.size + 1 + 1) 53 #[.int .i64 0, .int .i64 0] (0, 0) _ rfl (HRZ.out.row 2 rfl) undSp rfl infoSp) rfl) rfl (retBt_none HE.out HRZ.out.below)
  · have HE : Hid (betwN (hoursF pubs) (netP o) c.hour d.hour = sumN (hoursF pubs) (netP o) c.hour (d.hour - c.hour).toNat) := Lib.hid (by unfold betwN; rw [if_pos (by omega)])
    have hlt : c.hour < d.hour := by omega
    go_upto_region 3 with fail
    clear c1 d1
    refine wp_region_noPanic ?_
    refine wp_region_held_drew (S := fun cw => RowsS w [(w.heap.size, .cells #[.int .i64 c.office, .int .i64 c.hour, .int .i64 c.inn, .int .i64 c.out, .int .i64 c.store, .string c.prev, .int .i64 c.e, .int .i64 c.s] 63), ((w.heap.size + 1), .cells #[.int .i64 d.office, .int .i64 d.hour, .int .i64 d.inn, .int .i64 d.out, .int .i64 d.store, .string d.prev, .int .i64 d.e, .int .i64 d.s] 63), ((w.heap.size + 1 + 1), .cells #[.int .i64 0, .int .i64 0] 53)] cw) (by kernel_rfl) (HR.out.drew) (fun hHeld => ?_)
    refine tn 0 ?_
    try simp only [Act.put, aL1, aL2, aL3]
    refine tn 1 ?_
    try simp only [Act.put, aL1, aL2, aL3]
    refine tn 2 ?_
    try simp only [Act.put, aL1, aL2, aL3]
    refine tn 3 ?_ (hx := fun wz hSw => by have e4 := hSw.old HJ 3 rfl; go_simp; try with_reducible rfl)
    try simp only [Act.put, aL1, aL2, aL3]
    refine tn 4 ?_
    try simp only [Act.put, aL1, aL2, aL3]
    refine tn 5 ?_ (hx := fun wz hSw => by have e4 := hSw.cell 0 1 rfl rfl; go_simp; try with_reducible rfl)
    try simp only [Act.put, aL1, aL2, aL3]
    refine tn 6 ?_
    try simp only [Act.put, aL1, aL2, aL3]
    refine tn 7 ?_ (hx := fun wz hSw => by have e4 := hSw.cell 1 1 rfl rfl; go_simp; try with_reducible rfl)
    try simp only [Act.put, aL1, aL2, aL3]
    refine tn 8 ?_
    try simp only [Act.put, aL1, aL2, aL3]
    refine rd1 9 (fun K hK => ?_)
    go_simp
    refine (sumsN_any pubs mb c.hour d.hour _ (HH.out.below hHeld.below) hcI.out hdI.out hI hl o ob ho ((hHeld.below.cell (p := ⟨ob, 0, none⟩) hobl).trans HOB.out) (Nat.lt_of_lt_of_le hobl hHeld.below.size)).mono ?_
    rintro e w' ⟨v, L, rfl, hL, hS, hb⟩
    refine hK.out _ _ (hHeld.step hb) (fun hHeld => ?_)
    clear hK K
    try simp only [Act.put, aL1, aL2, aL3]
    refine tn 10 ?_
    try simp only [Act.put, aL1, aL2, aL3]
    refine rdone (NoPanic.normal ?_)
    have HR1 := Lib.hid hHeld
    have HL := Lib.hid hL
    have HS := Lib.hid hS
    clear hHeld hL hS
    obtain ⟨aL, cL, rfl, hlc, hlm⟩ := HL.out.slice
    have hLm : L.length ≤ 9223372036854775807 := by unfold maxLen at hlm; omega
    have W1 : IntKind.i64.wrap ((L.length : Int) - 1) = (L.length : Int) - 1 := IntWalk.i64_in _ (by omega)
    have W2 : IntKind.i64.wrap (d.hour - c.hour) = d.hour - c.hour := IntWalk.i64_in _ (by omega)
    have c1 := HR1.out.cell 0 1 rfl rfl
    have d1 := HR1.out.cell 1 1 rfl rfl
    have hlast := isSums_last HS.out hlt
    cases hs : sumN (hoursF pubs) (netP o) c.hour (d.hour - c.hour).toNat with
    | none =>
      rw [hs] at hlast HE
      dsimp only at hlast
      have q1 : ((L.length : Int) - 1 == d.hour - c.hour) = false := by rw [beq_eq_false_iff_ne]; omega
      have q2 : ((L.length : Int) - 1 != d.hour - c.hour) = true := by rw [bne_iff_ne]; omega
      clear hs hlast
      go_wp2_with (refine wpList_store_row rfl 53 _ _ rfl (w.heap.size + 1 + 1) #[.int .i64 0, .int .i64 0] rfl rfl 53 #[.int .i64 0, .int .i64 0] (HR1.out.row 2 rfl) infoSp rfl (by simp [Value.oneCell']) ?_)
      have HRZ := Lib.hid (HR1.out.set (i := 2) (cs' := #[.int .i64 0, .int .i64 0]) rfl)
      exact bodyPost_ret (v := .tuple #[.agg #[.int .i64 0, .int .i64 0], .bool false]) (Eq.trans (results_row_tmp rfl _ _ (w.heap.size + 1 + 1) 53 #[.int .i64 0, .int .i64 0] (0, 0) _ rfl (HRZ.out.row 2 rfl) undSp rfl infoSp) rfl) rfl (retBt_none HE.out HRZ.out.below)
    | some s =>
      rw [hs] at hlast HE
      dsimp only at hlast
      obtain ⟨hl1, hl2⟩ := hlast
      have q1 : ((L.length : Int) - 1 == d.hour - c.hour) = true := by rw [beq_iff_eq]; omega
      have q2 : ((L.length : Int) - 1 != d.hour - c.hour) = false := by rw [bne_eq_false_iff_eq]; omega
      obtain ⟨b, o, cs, rfl, hb2, -, hrg, rfl, -⟩ := HL.out.at hl2
      obtain ⟨m, hm⟩ : ∃ m, m = (d.hour - c.hour).toNat := ⟨_, rfl⟩
      rw [← hm] at hrg hl1
      have HRG := Lib.hid hrg
      have W3 : (L.length : Int) - 1 = (m : Int) := by omega
      have W4 : IntKind.i64.wrap (m : Int) = (m : Int) := IntWalk.i64_in _ (by omega)
      have hml : m < L.length := by omega
      have hmi : (m : Int) < L.length := by omega
      clear hs hl1 hl2 hrg hm
      rw [W3] at W1 q1 q2
      go_wp2_with (first | (refine wpList_load_range (by first | (go_simp; done) | rfl) 53 _ rfl _ _ rfl _ _ HRG.out undSp rfl infoSp ?_) | (refine wpList_store_row rfl 53 _ _ rfl (w.heap.size + 1 + 1) #[.int .i64 s.lo, .int .i64 s.hi] rfl rfl 53 #[.int .i64 0, .int .i64 0] (HR1.out.row 2 rfl) infoSp rfl (by simp [Value.oneCell']) ?_))
      have HRZ := Lib.hid (HR1.out.set (i := 2) (cs' := #[.int .i64 s.lo, .int .i64 s.hi]) rfl)
      exact bodyPost_ret (v := .tuple #[.agg #[.int .i64 s.lo, .int .i64 s.hi], .bool true]) (Eq.trans (results_row_tmp rfl _ _ (w.heap.size + 1 + 1) 53 #[.int .i64 s.lo, .int .i64 s.hi] (0, 0) _ rfl (HRZ.out.row 2 rfl) undSp rfl infoSp) rfl) rfl (retBt_some HE.out HRZ.out.below)
end Go.Proofs.YtjbjpkhibcnenaaGreatDoor

