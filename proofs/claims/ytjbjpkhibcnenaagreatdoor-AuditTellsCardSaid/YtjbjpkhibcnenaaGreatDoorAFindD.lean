/- Texts merged: AFindB AFindC AFindD -/
import Derived.Test.YtjbjpkhibcnenaaGreatDoorAFindA
import Derived.Deep.DeepCutAuto
/- audit.Find: later. -/
namespace Go.Proofs.YtjbjpkhibcnenaaGreatDoor
set_option maxRecDepth 100000
set_option maxHeartbeats 8000000
open Go.RowKit
structure SOf (sb jb j : Nat) (ao : Option Addr) (ko : Nat) (L : List CV) (last : Int) (w : World) : Prop where
 lt : sb < w.heap.size
 c0 : w.cell? ⟨sb, 0, none⟩ = some (.pointer (some ⟨jb, 0, none⟩))
 cj : w.cell? ⟨sb, 1 + j, none⟩ = some (.slice ao L.length ko)
 c5 : w.cell? ⟨sb, 5, none⟩ = some (.int .i64 last)
 l : LArg RC 8 (.slice ao L.length ko) L w
 ll : L.length ≤ 1000
 hk : ∀ c ∈ L, CNum c ∧ 0 ≤ c.hour ∧ c.hour ≤ last ∧ c.office = (j : Int)
 la : last ≤ 16777216
 j3 : j < 3
theorem SOf.below {sb jb j : Nat} {ao : Option Addr} {ko : Nat} {L : List CV} {last : Int} {w w' : World} (h : SOf sb jb j ao ko L last w) (hb : Below w.heap.size w w') : SOf sb jb j ao ko L last w' :=
 ⟨Nat.lt_of_lt_of_le h.lt hb.size, (hb.cell (p := ⟨sb, 0, none⟩) h.lt).trans h.c0, (hb.cell (p := ⟨sb, 1 + j, none⟩) h.lt).trans h.cj, (hb.cell (p := ⟨sb, 5, none⟩) h.lt).trans h.c5, h.l.below stays_RC hb, h.ll, h.hk, h.la, h.j3⟩
theorem later_is {H : Int → Option PublicV} {pick : PublicV → SpanV} {bad : CV → CV → SpanV → Bool} {c d : CV} {last : Int} {Ls : List SpanV} (hS : IsSums H pick c.hour last Ls) (hd : d.hour ≤ last) :
 (¬ c.hour < d.hour → laterB H pick bad c d = false) ∧ (c.hour < d.hour → ¬ (d.hour - c.hour).toNat < Ls.length → laterB H pick bad c d = false) ∧ (∀ s, c.hour < d.hour → Ls[(d.hour - c.hour).toNat]? = some s → laterB H pick bad c d = bad c d s) := by
 have key : c.hour < d.hour → betwN H pick c.hour d.hour = Ls[(d.hour - c.hour).toNat]? := fun h => by
  unfold betwN; rw [if_pos h, hS, if_pos (by omega)]
 refine ⟨fun h => ?_, fun h h2 => ?_, fun s h h2 => ?_⟩
 ·
  unfold laterB betwN; rw [if_neg h]
 ·
  unfold laterB; rw [key h, List.getElem?_eq_none (by omega)]
 ·
  unfold laterB; rw [key h, h2]
theorem laterM_any (jb mb : Nat) (ar ap : Option Addr) (cr cp : Nat) (err : Int) (room ps : List Int) (pubs : List PublicV) (sb j : Nat) (ao : Option Addr) (ko : Nat) (L : List CV) (last : Int)  (w : World) (hJ : JudgeAt jb mb ar ap cr cp err room ps pubs w) (hS : SOf sb jb j ao ko L last w) (hI : ∀ p ∈ pubs, PbI p) (hpl : pubs.length ≤ 1000)  :
 Calls Tryz.prog 52 #[.pointer (some ⟨sb, 0, none⟩), (j : Int), .func (.func 55) #[] #[], .func (.func 56) #[.pointer (some ⟨jb, 0, none⟩)] #[]] w (RetP (first2 (laterB (hoursF pubs) (mouthP) (contrB err)) L L) w) := by
 have HJ := hD hJ.row; have hjl := blk_lt hJ.row; have HJd := hD hJ; have HSO := hD hS; have hj3 := hS.j3; have hj3i : (j : Int) < 3 := by omega
 have hla := hS.la; have hll := hS.ll; obtain ⟨w0, hw0, hR0⟩ := RowsS.twoE w (.cells #[(), (), (), (), (), .string ⟨#[]⟩, (), ()] 63) (.cells #[(), (), (), (), (), .string ⟨#[]⟩, (), ()] 63); have HR := hD hR0; have HW0 := hD hw0; clear hR0 hw0; clear hJ hS; go_enter Tryz.func52, Tryz.ntmps52; go_upto_region 1 with fail; rw [HW0.out]; have HSO0 := hD (HSO.out.below HR.out.below); have hcj := HSO0.out.cj; go_wp2_with fail; clear hcj HSO0; go_loopw [24] (fun iv wx => ∃ k : Nat, k ≤ L.length ∧ iv = .int .i64 k ∧ (∀ (i : Nat) (x : CV), i < k → L[i]? = some x → ∀ y ∈ L, (laterB (hoursF pubs) (mouthP) (contrB err)) x y = false) ∧ RowsS w [(w.heap.size, .cells #[(), (), (), (), (), .string ⟨#[]⟩, (), ()] 63), (w.heap.size + 1, .cells #[(), (), (), (), (), .string ⟨#[]⟩, (), ()] 63)] wx) (fun iv _ => L.length - (Go.RowKit.intOf iv).toNat)
 case atStart => exact ⟨0, Nat.zero_le _, rfl, fun i x h => absurd h (Nat.not_lt_zero _), HR.out⟩
 case round =>
  obtain ⟨k, hk, rfl, hno, hr⟩ := hrel; have HNO := hD hno; have HR1 := hD hr; clear hno hr HR; by_cases hlt : k < L.length
  ·
   obtain ⟨c, hc⟩ : ∃ c, L[k]? = some c := ⟨_, List.getElem?_eq_getElem hlt⟩; obtain ⟨hcn, hch, hchl, hco⟩ := HSO.out.hk c (List.mem_of_getElem? hc); obtain ⟨b, o, cs, rfl, hbl, -, hrg, hcs, -⟩ := HSO.out.l.at hc; unfold cellsC at hcs; subst hcs; have HRG := hD (rangeAt_below hrg HR1.out.below hbl); have HC := hD hc; have HR2 := hD (HR1.out.alloc (.cells #[c.office, c.hour, c.inn, c.out, c.store, c.prev, c.e, c.s] 63)); clear hc hrg HR1 hco; go_upto_region 4 with (refine lRG HRG.out undCm infoCm ?_); clear HRG; generalize wr.alloc (.cells #[c.office, c.hour, c.inn, c.out, c.store, c.prev, c.e, c.s] 63) = w2 at *; generalize wr.heap.size = bC at *; refine wrd (S := RowsS w _) (HR2.out.drew) (fun yH => ?_); refine tn 0 ?_; refine tn 1 ?_; refine tn 2 ?_; refine tn 3 ?_ (hx := fun wz hSw => by have e4 := (hSw.below.cell (p := ⟨sb, 0, none⟩) HSO.out.lt).trans HSO.out.c0; go_simp; try with_reducible rfl); refine tn 4 ?_; refine tn 5 ?_; refine tn 6 ?_ (hx := cx fun _ h => h.old HJ 3 rfl); refine tn 7 ?_; refine tn 8 ?_ (hx := cx fun _ h => h.cell 2 1 rfl rfl); refine tn 9 ?_; refine tn 10 ?_; refine tn 11 ?_; refine tn 12 ?_ (hx := fun wz hSw => by have e4 := (hSw.below.cell (p := ⟨sb, 5, none⟩) HSO.out.lt).trans HSO.out.c5; go_simp; try with_reducible rfl); refine tn 13 ?_; refine rd1 14 (fun K hK => ?_); go_simp; refine (sumsM_any pubs mb c.hour last _ (HJd.out.hours.below yH.below) ⟨by omega, by omega⟩ ⟨by omega, by omega⟩ hI hpl).mono ?_; rintro e w' ⟨vS, Ls, rfl, hLs, hIs, hb⟩
   refine hK.out _ _ (yH.step hb) (fun yH => ?_); clear hK K; refine tn 15 ?_; refine rdn ?_; have HRb := hD yH; have HLs := hD hLs; have HIs := hD hIs; clear yH hLs hIs; obtain ⟨aS, cS, rfl, hSl, hSm⟩ := HLs.out.slice; have hLm : Ls.length ≤ 9223372036854775807 := by unfold maxLen at hSm; omega
   have HSOb := hD (HSO.out.below HRb.out.below); have HJdb := hD (HJd.out.below HRb.out.below); have hcj := HSOb.out.cj; clear hSm hSl HR2; go_wp2_with fail; clear hcj; go_loopw [50] (fun iv wx => ∃ q : Nat, q ≤ L.length ∧ iv = .int .i64 q ∧ (∀ (i : Nat) (y : CV), i < q → L[i]? = some y → (laterB (hoursF pubs) (mouthP) (contrB err)) c y = false) ∧ SOf sb jb j (some ⟨b, o, none⟩) ko L last wx ∧ LArg RSpan 2 (.slice aS Ls.length cS) Ls wx ∧ JudgeAt jb mb ar ap cr cp err room ps pubs wx ∧ RowsS w [(w.heap.size, .cells #[(), (), (), (), (), .string ⟨#[]⟩, (), ()] 63), (w.heap.size + 1, .cells #[(), (), (), (), (), .string ⟨#[]⟩, (), ()] 63), (bC, .cells #[c.office, c.hour, c.inn, c.out, c.store, c.prev, c.e, c.s] 63)] wx) (fun iv _ => L.length - (Go.RowKit.intOf iv).toNat)
   case atStart => exact ⟨0, Nat.zero_le _, rfl, fun i x h => absurd h (Nat.not_lt_zero _), HSOb.out, HLs.out, HJdb.out, HRb.out⟩
   case round =>
    obtain ⟨q, hq, rfl, hnd, hso, hsl0, hjd, hr⟩ := hrel; have HND := hD hnd; have HR3 := hD hr; have HSO3 := hD hso; have HSL3 := hD hsl0; have HJd3 := hD hjd; clear hnd hr hso hsl0 hjd HRb HLs HSOb HJdb; by_cases hlq : q < L.length
    ·
     obtain ⟨d, hd⟩ : ∃ d, L[q]? = some d := ⟨_, List.getElem?_eq_getElem hlq⟩; obtain ⟨hdn, hdh, hdhl, hdo⟩ := HSO.out.hk d (List.mem_of_getElem? hd); obtain ⟨b', o', cs, he, hbm, -, hrg, hcs, -⟩ := HSO3.out.l.at hd; simp only [Option.some.injEq, Addr.mk.injEq, and_true] at he; obtain ⟨rfl, rfl⟩ := he; unfold cellsC at hcs; subst hcs; have HRG := hD hrg; have HD := hD hd; have hal : Below wr.heap.size wr (wr.alloc (.cells #[d.office, d.hour, d.inn, d.out, d.store, d.prev, d.e, d.s] 63)) := (Below.refl _ _).alloc (Nat.le_refl _) _; have HR5 := hD (HR3.out.alloc (.cells #[d.office, d.hour, d.inn, d.out, d.store, d.prev, d.e, d.s] 63)); have HSO5 := hD (HSO3.out.below hal); have HSL5 := hD (HSL3.out.below stays_Span hal); have HJd5 := hD (HJd3.out.below hal); clear hd hrg HR3 HSO3 HSL3 HJd3 hal hdo; go_upto_region 8 with (refine lRG HRG.out undCm infoCm ?_); clear HRG; generalize wr.alloc (.cells #[d.office, d.hour, d.inn, d.out, d.store, d.prev, d.e, d.s] 63) = w5 at *; generalize wr.heap.size = bD at *; have HCR := hD (HR5.out.row 2 rfl); have HDR := hD (HR5.out.row 3 rfl); have c1 := HR5.out.cell 2 1 rfl rfl; have d1 := HR5.out.cell 3 1 rfl rfl; have HLI := hD (later_is (bad := contrB err) HIs.out hdhl); obtain ⟨z, hz⟩ : ∃ z, z = d.hour - c.hour := ⟨_, rfl⟩; have W1 : IntKind.i64.wrap (d.hour - c.hour) = z := by rw [hz]; exact IntWalk.i64_in _ (by omega)
     have HZ := hD hz; clear hz; go_upto_region 9 with fail; clear c1 d1 W1; refine wrd (S := RowsS w5 _) ((RowsS.nil w5).drew) (fun yH => ?_); refine tn 0 ?_; by_cases h1 : c.hour < d.hour
     ·
      have h0 : (0 : Int) < z := by have hz := HZ.out; omega
      obtain ⟨m, hzm⟩ : ∃ m : Nat, z = (m : Int) := ⟨z.toNat, by omega⟩; subst hzm; have hm0 : 0 < m := by omega
      have hm1 : decide (0 < m) = true := decide_eq_true hm0; have HMT : Hid ((d.hour - c.hour).toNat = m) := hD (by have hz := HZ.out; omega); refine tn 1 ?_; refine tn 2 ?_; refine tn 3 ?_; refine tn 4 ?_; refine tn 5 ?_; by_cases h2 : m < Ls.length
      ·
       have h3 : (m : Int) < (Ls.length : Int) := by omega
       obtain ⟨s, hs⟩ : ∃ s, Ls[m]? = some s := ⟨_, List.getElem?_eq_getElem h2⟩; obtain ⟨bs, os, cs, rfl, hsl, -, hsg, rfl, hsI⟩ := HSL5.out.at hs; have HSG := hD hsg; have HSs : Hid (Ls[(d.hour - c.hour).toNat]? = some s) := hD (by rw [HMT.out]; exact hs); clear hs hsg; refine tn 6 ?_; refine tn 7 ?_; refine tn 8 ?_; refine tn 9 ?_; refine tn 10 ?_ (hx := fun wz hSw => by refine exec_load_row 63 ?_ ?_ _ ?_ 63 _ _ _ (hSw.oldRow HCR) undCm rfl infoCm; rotate_left 1; exact rfl; exact rfl); refine tn 11 ?_ (hx := fun wz hSw => by refine exec_load_row 63 ?_ ?_ _ ?_ 63 _ _ _ (hSw.oldRow HDR) undCm rfl infoCm; rotate_left 1; exact rfl; exact rfl); refine tn 12 ?_; refine tn 13 ?_; refine tn 14 ?_; refine tn 15 ?_ (hx := ldr HSG hsl undSp infoSp)
       cases huv : contrB err c d s with
       | true =>
        have HUv := hD huv; have HBD : Hid (∀ w0, Below w5.heap.size w5 w0 → Calls Tryz.prog 56 #[.pointer (some ⟨jb, 0, none⟩), .agg #[c.office, c.hour, c.inn, c.out, c.store, c.prev, c.e, c.s], .agg #[d.office, d.hour, d.inn, d.out, d.store, d.prev, d.e, d.s], .agg #[s.lo, s.hi]] w0 fun e w' => e = .returned (.bool true) ∧ Below w0.heap.size w0 w') := hD (fun w0 hb => by have h := contradicts_any jb mb ar ap cr cp err room ps pubs c d s w0 (HJd5.out.below hb) hcn hdn hsI; rw [huv] at h; exact h); have HPP : Hid ((laterB (hoursF pubs) (mouthP) (contrB err)) c d = true) := hD ((HLI.out.2.2 s h1 HSs.out).trans huv); clear huv; refine rd1 16 (fun K hK => ?_); go_simp; refine (HBD.out _ yH.below).mono ?_; rintro e w' ⟨rfl, hb⟩; refine hK.out _ _ (yH.step hb) (fun yH => ?_); clear hK K; refine tn 17 ?_; refine rdn ?_; have HR6 := hD (HR5.out.step yH.below); have HSO6 := hD (HSO5.out.below yH.below); have HSL6 := hD (HSL5.out.below stays_Span yH.below); have HJ6 := hD (HJd5.out.below yH.below); clear HR5 HSO5 HSL5 HJd5; have HF := hD (first2_found HNO.out HC.out HND.out HD.out HPP.out); go_upto_region 10 with fail; obtain ⟨hRs, hZR, hgR, hnR⟩ := HR6.out.split; obtain ⟨hRs, hZS, hgS, hnS⟩ := hRs.split; have hnR : w.heap.size ∉ ([(bC, Obj.cells #[c.office, c.hour, c.inn, c.out, c.store, c.prev, c.e, c.s] 63), (bD, Obj.cells #[d.office, d.hour, d.inn, d.out, d.store, d.prev, d.e, d.s] 63)] : List (Nat × Obj)).map (·.1) := fun h => hnR (List.mem_cons_of_mem _ h); refine wrd (S := RowsS w _) (hRs.drew) (fun yH => ?_)
        refine tn 0 ?_ (hx := ldw 0 undCm infoCm); refine tn 1 ?_ (hx := ldw 1 undCm infoCm); refine rd1 2 (fun K hK => ?_); rw [if_pos (by rfl)]; refine wp_store_row 63 _ _ rfl w.heap.size #[c.office, c.hour, c.inn, c.out, c.store, c.prev, c.e, c.s] rfl rfl 63 #[(), (), (), (), (), .string ⟨#[]⟩, (), ()] hZR infoCm rfl (by simp [Value.oneCell']) ?_; have hZS := (setRow_other _ w.heap.size (w.heap.size + 1) #[.int .i64 c.office, .int .i64 c.hour, .int .i64 c.inn, .int .i64 c.out, .int .i64 c.store, .string c.prev, .int .i64 c.e, .int .i64 c.s] (by omega)).trans hZS; have hZR := setRow_heap _ _ _ #[.int .i64 c.office, .int .i64 c.hour, .int .i64 c.inn, .int .i64 c.out, .int .i64 c.store, .string c.prev, .int .i64 c.e, .int .i64 c.s] _ _ hZR; refine hK.out _ _ (yH.setOther hgR hnR _) (fun yH => ?_); clear hK K; (try simp only [Act.put]); refine rd1 3 (fun K hK => ?_); rw [if_pos (by rfl)]; refine wp_store_row 63 _ _ rfl (w.heap.size + 1) #[d.office, d.hour, d.inn, d.out, d.store, d.prev, d.e, d.s] rfl rfl 63 #[(), (), (), (), (), .string ⟨#[]⟩, (), ()] hZS infoCm rfl (by simp [Value.oneCell']) ?_; have hZR := (setRow_other _ (w.heap.size + 1) w.heap.size #[.int .i64 d.office, .int .i64 d.hour, .int .i64 d.inn, .int .i64 d.out, .int .i64 d.store, .string d.prev, .int .i64 d.e, .int .i64 d.s] (by omega)).trans hZR; have hZS := setRow_heap _ _ _ #[.int .i64 d.office, .int .i64 d.hour, .int .i64 d.inn, .int .i64 d.out, .int .i64 d.store, .string d.prev, .int .i64 d.e, .int .i64 d.s] _ _ hZS
        refine hK.out _ _ (yH.setOther hgS hnS _) (fun yH => ?_); clear hK K; (try simp only [Act.put]); refine tn 4 ?_; refine rdn ?_; have HRF := hD ((yH.cons hZS hgS hnS).cons hZR hgR (fun h => (List.mem_cons.1 h).elim (fun e => absurd e (Nat.ne_of_lt (Nat.lt_succ_self _))) hnR)); clear yH hZS hZR hgS hgR hnS hnR; go_wp2_with fail; exact bodyPost_ret (v := .tuple #[.agg #[c.office, c.hour, c.inn, c.out, c.store, c.prev, c.e, c.s], .agg #[d.office, d.hour, d.inn, d.out, d.store, d.prev, d.e, d.s], .bool true]) (Eq.trans (results_rows_tmp rfl _ _ w.heap.size (w.heap.size + 1) 63 63 #[.int .i64 c.office, .int .i64 c.hour, .int .i64 c.inn, .int .i64 c.out, .int .i64 c.store, .string c.prev, .int .i64 c.e, .int .i64 c.s] #[.int .i64 d.office, .int .i64 d.hour, .int .i64 d.inn, .int .i64 d.out, .int .i64 d.store, .string d.prev, .int .i64 d.e, .int .i64 d.s] _ rfl (HRF.out.row 0 rfl) rfl (HRF.out.row 1 rfl) undCm rfl infoCm infoCm) rfl) rfl (retP_some HF.out HRF.out.below)
       | false =>
        have HUv := hD huv; have HBD : Hid (∀ w0, Below w5.heap.size w5 w0 → Calls Tryz.prog 56 #[.pointer (some ⟨jb, 0, none⟩), .agg #[c.office, c.hour, c.inn, c.out, c.store, c.prev, c.e, c.s], .agg #[d.office, d.hour, d.inn, d.out, d.store, d.prev, d.e, d.s], .agg #[s.lo, s.hi]] w0 fun e w' => e = .returned (.bool false) ∧ Below w0.heap.size w0 w') := hD (fun w0 hb => by have h := contradicts_any jb mb ar ap cr cp err room ps pubs c d s w0 (HJd5.out.below hb) hcn hdn hsI; rw [huv] at h; exact h); have HPP : Hid ((laterB (hoursF pubs) (mouthP) (contrB err)) c d = false) := hD ((HLI.out.2.2 s h1 HSs.out).trans huv); clear huv; refine rd1 16 (fun K hK => ?_); go_simp; refine (HBD.out _ yH.below).mono ?_; rintro e w' ⟨rfl, hb⟩; refine hK.out _ _ (yH.step hb) (fun yH => ?_); clear hK K; refine tn 17 ?_; refine rdn ?_; have HR6 := hD (HR5.out.step yH.below); have HSO6 := hD (HSO5.out.below yH.below); have HSL6 := hD (HSL5.out.below stays_Span yH.below); have HJ6 := hD (HJd5.out.below yH.below); clear HR5 HSO5 HSL5 HJd5
        have HN2 : Hid (∀ (i : Nat) (y : CV), i < q + 1 → L[i]? = some y → (laterB (hoursF pubs) (mouthP) (contrB err)) c y = false) := hD (fun i y hi hy => by
         by_cases e : i = q
         · subst e; rw [HD.out] at hy; cases hy; exact HPP.out
         · exact HND.out i y (by omega) hy)
        have HR7 := hD (HR6.out.take 3); clear HR6; go_wp2_with fail; go_roundw
        case rel => exact ⟨q + 1, by omega, by go_num, HN2.out, HSO6.out, HSL6.out, HJ6.out, HR7.out⟩
        case measure => simp [Go.RowKit.intOf]; omega
      ·
       have h3 : ¬ (m : Int) < (Ls.length : Int) := by omega
       have HPP : Hid ((laterB (hoursF pubs) (mouthP) (contrB err)) c d = false) := hD (HLI.out.2.1 h1 (by rw [HMT.out]; exact h2)); refine tn 6 ?_; refine tn 7 ?_; refine tn 8 ?_; refine skn 1 [(9, some 68), (10, some 69), (11, some 70), (12, some 71), (13, some 72), (14, some 73), (15, some 74), (16, some 75)] ?_; refine tn 17 ?_; refine rdn ?_; have HR6 := hD (HR5.out.step yH.below); have HSO6 := hD (HSO5.out.below yH.below); have HSL6 := hD (HSL5.out.below stays_Span yH.below); have HJ6 := hD (HJd5.out.below yH.below); clear HR5 HSO5 HSL5 HJd5
       have HN2 : Hid (∀ (i : Nat) (y : CV), i < q + 1 → L[i]? = some y → (laterB (hoursF pubs) (mouthP) (contrB err)) c y = false) := hD (fun i y hi hy => by
        by_cases e : i = q
        · subst e; rw [HD.out] at hy; cases hy; exact HPP.out
        · exact HND.out i y (by omega) hy)
       have HR7 := hD (HR6.out.take 3); clear HR6; go_wp2_with fail; go_roundw
       case rel => exact ⟨q + 1, by omega, by go_num, HN2.out, HSO6.out, HSL6.out, HJ6.out, HR7.out⟩
       case measure => simp [Go.RowKit.intOf]; omega
     ·
      have h0 : ¬ (0 : Int) < z := by have hz := HZ.out; omega
      have HPP : Hid ((laterB (hoursF pubs) (mouthP) (contrB err)) c d = false) := hD (HLI.out.1 h1); refine tn 1 ?_; refine tn 2 ?_; refine skn 11 [(3, some 62), (4, some 63), (5, some 64), (6, some 65)] ?_; refine tn 7 ?_; refine tn 8 ?_; refine skn 1 [(9, some 68), (10, some 69), (11, some 70), (12, some 71), (13, some 72), (14, some 73), (15, some 74), (16, some 75)] ?_; refine tn 17 ?_; refine rdn ?_; have HR6 := hD (HR5.out.step yH.below); have HSO6 := hD (HSO5.out.below yH.below); have HSL6 := hD (HSL5.out.below stays_Span yH.below); have HJ6 := hD (HJd5.out.below yH.below); clear HR5 HSO5 HSL5 HJd5
      have HN2 : Hid (∀ (i : Nat) (y : CV), i < q + 1 → L[i]? = some y → (laterB (hoursF pubs) (mouthP) (contrB err)) c y = false) := hD (fun i y hi hy => by
       by_cases e : i = q
       · subst e; rw [HD.out] at hy; cases hy; exact HPP.out
       · exact HND.out i y (by omega) hy)
      have HR7 := hD (HR6.out.take 3); clear HR6; go_wp2_with fail; go_roundw
      case rel => exact ⟨q + 1, by omega, by go_num, HN2.out, HSO6.out, HSL6.out, HJ6.out, HR7.out⟩
      case measure => simp [Go.RowKit.intOf]; omega
    ·
     obtain rfl : q = L.length := by omega
     have HN2 : Hid (∀ (i : Nat) (x : CV), i < k + 1 → L[i]? = some x → ∀ y ∈ L, (laterB (hoursF pubs) (mouthP) (contrB err)) x y = false) := hD (fun i x hi hx y hy => by
      by_cases e : i = k
      ·
       subst e; rw [HC.out] at hx
       cases hx
       obtain ⟨q, hq⟩ := List.getElem?_of_mem hy; exact HND.out q y (List.getElem?_eq_some_iff.1 hq).1 hq
      · exact HNO.out i x (by omega) hx y hy)
     have HR6 := hD (HR3.out.take 2); clear HR3 hlq hq; go_wp2_with fail; go_roundw
     case rel => exact ⟨k + 1, by omega, by go_num, HN2.out, HR6.out⟩
     case measure => simp [Go.RowKit.intOf]; omega
  ·
   obtain rfl : k = L.length := by omega
   have HF := hD (first2_none HNO.out); clear hlt hk; go_wp2_with (first | (refine sRW #[(), (), (), (), (), .string ⟨#[]⟩, (), ()] (HR1.out.row 0 rfl) infoCm ?_) | (refine sRW #[(), (), (), (), (), .string ⟨#[]⟩, (), ()] ((HR1.out.set (i := 0) (cs' := #[(), (), (), (), (), .string ⟨#[]⟩, (), ()]) rfl).row 1 rfl) infoCm ?_)); have HRZ := hD ((HR1.out.set (i := 0) (cs' := #[(), (), (), (), (), .string ⟨#[]⟩, (), ()]) rfl).set (i := 1) (cs' := #[(), (), (), (), (), .string ⟨#[]⟩, (), ()]) rfl); exact bodyPost_ret (v := .tuple #[.agg #[(), (), (), (), (), .string ⟨#[]⟩, (), ()], .agg #[(), (), (), (), (), .string ⟨#[]⟩, (), ()], .bool false]) (Eq.trans (results_rows_tmp rfl _ _ w.heap.size (w.heap.size + 1) 63 63 #[.int .i64 0, .int .i64 0, .int .i64 0, .int .i64 0, .int .i64 0, .string ⟨#[]⟩, .int .i64 0, .int .i64 0] #[.int .i64 0, .int .i64 0, .int .i64 0, .int .i64 0, .int .i64 0, .string ⟨#[]⟩, .int .i64 0, .int .i64 0] _ rfl (HRZ.out.row 0 rfl) rfl (HRZ.out.row 1 rfl) undCm rfl infoCm infoCm) rfl) rfl (retP_none HF.out HRZ.out.below)
end Go.Proofs.YtjbjpkhibcnenaaGreatDoor
/- audit.Find: what a finder answers; store. -/
namespace Go.Proofs.YtjbjpkhibcnenaaGreatDoor
set_option maxRecDepth 100000
set_option maxHeartbeats 8000000
open Go.RowKit
theorem flatC_get : ∀ (l : List CV) (k : Nat) (x : CV), l[k]? = some x → ∀ j v, (cellsC x)[j]? = some v → (l.flatMap cellsC)[k * 8 + j]? = some v
 | [], k, x, h, _, _, _ => by simp at h
 | y :: l, 0, x, h, j, v, hj => by
  simp only [List.getElem?_cons_zero, Option.some.injEq] at h; subst h; have hl := (List.getElem?_eq_some_iff.1 hj).1; rw [List.flatMap_cons, Nat.zero_mul, Nat.zero_add, List.getElem?_append_left hl, hj]
 | y :: l, k + 1, x, h, j, v, hj => by
  have h8 : (cellsC y).length = 8 := rfl; rw [List.flatMap_cons, List.getElem?_append_right (by rw [h8]; omega), h8]; have e : (k + 1) * 8 + j - 8 = k * 8 + j := by omega
  rw [e]; exact flatC_get l k x (by simpa using h) j v hj
def CGood (c : CV) : Prop := COk c ∧ c.prev.size ≤ maxLen
theorem larg_rowC {w : World} {b : Nat} {l : List CV} (h : w.heap[b]? = some (.cells (l.flatMap cellsC).toArray 63 (0, 0))) (hx : ∀ x ∈ l, CGood x) (hl : l.length ≤ 1000) : LArg RC 8 (.slice (some ⟨b, 0, none⟩) l.length l.length) l w := by
 refine ⟨some ⟨b, 0, none⟩, l.length, rfl, Nat.le_refl _, by unfold maxLen; omega, fun j x hj => ⟨b, 0, cellsC x, rfl, blk_lt h, rfl, ?_, rfl, hx x (List.mem_of_getElem? hj)⟩⟩; intro i u hi; have h1 := cell_of_row _ _ (0 + j * 8 + i) _ _ _ h; rw [← Array.getElem?_toList] at h1; refine h1.trans ?_; rw [Nat.zero_add]; exact flatC_get l j x hj i u hi
theorem good_of {a : Option Addr} {n k : Nat} {L : List CV} {w : World} (h : LArg RC 8 (.slice a n k) L w) {c : CV} (hc : c ∈ L) : CGood c := by
 obtain ⟨j, hj⟩ := List.getElem?_of_mem hc; obtain ⟨_, _, _, _, _, _, _, _, h2, h3⟩ := h.at hj; exact ⟨h2, h3⟩
def RetF (r : Option BlV) (w : World) (e : Ending) (w' : World) : Prop :=
 (match r with | some x => ∃ v, e = .returned (.tuple #[.agg (cellsB x v).toArray, .bool true]) ∧ LArg RC 8 v x.claims w' ∧ (∃ b n k, v = .slice (some ⟨b, 0, none⟩) n k ∧ w.heap.size ≤ b) | none => e = .returned (.tuple #[.agg #[(), (), .slice none 0 0, (), (), (), (), (), ()], .bool false])) ∧ Below w.heap.size w w'
theorem retF_none {r : Option BlV} {w w' : World} (h : r = none) (hb : Below w.heap.size w w') : RetF r w (.returned (.tuple #[.agg #[(), (), .slice none 0 0, (), (), (), (), (), ()], .bool false])) w' := by subst h; exact ⟨rfl, hb⟩
theorem retF_some {r : Option BlV} {o why : Int} {l : List CV} {p : PV} {b n k : Nat} {w w' : World} (h : r = some ⟨o, why, l, p⟩) (hl : LArg RC 8 (.slice (some ⟨b, 0, none⟩) n k) l w') (hge : w.heap.size ≤ b) (hb : Below w.heap.size w w') : RetF r w (.returned (.tuple #[.agg #[o, .int .i64 why, .slice (some ⟨b, 0, none⟩) n k, p.office, p.since, p.till, p.litres, p.e, p.s], .bool true])) w' := by subst h; exact ⟨⟨_, rfl, hl, b, n, k, rfl, hge⟩, hb⟩
theorem larg_setRow {w : World} {g b n k : Nat} {l : List CV} (h : LArg RC 8 (.slice (some ⟨g, 0, none⟩) n k) l w) (hne : g ≠ b) (cs : Array Value) : LArg RC 8 (.slice (some ⟨g, 0, none⟩) n k) l (w.setRow b cs) := by
 obtain ⟨a, c, h1, h2, h3, h4⟩ := h; refine ⟨a, c, h1, h2, h3, fun j x hj => ?_⟩; obtain ⟨b2, o, cs2, e1, e2, e3, e4, e5⟩ := h4 j x hj; simp only [Value.slice.injEq] at h1; rw [e1] at h1; simp only [Option.some.injEq, Addr.mk.injEq, and_true] at h1; obtain ⟨⟨rfl, rfl⟩, -, -⟩ := h1; refine ⟨_, _, cs2, e1, by simpa [World.setRow] using e2, e3, fun i v hi => ?_, e5⟩; exact (World.cell?_of_block (setRow_other w b g cs hne)).trans (e4 i v hi)
theorem find_none {P : CV → Bool} {l : List CV} (h : ∀ (i : Nat) (x : CV), i < l.length → l[i]? = some x → P x = false) : l.find? P = none := by
 rw [List.find?_eq_none]; intro x hx; obtain ⟨i, hi⟩ := List.getElem?_of_mem hx; rw [h i x (List.getElem?_eq_some_iff.1 hi).1 hi]
 decide
theorem find_found {P : CV → Bool} {l : List CV} {k : Nat} {c : CV} (h : ∀ (i : Nat) (x : CV), i < k → l[i]? = some x → P x = false) (hc : l[k]? = some c) (hP : P c = true) : l.find? P = some c := by
 have e1 : l = l.take k ++ c :: l.drop (k + 1) := by
  obtain ⟨hk, e⟩ := List.getElem?_eq_some_iff.1 hc; rw [← e, List.getElem_cons_drop, List.take_append_drop]
 rw [e1, List.find?_append]
 have : (l.take k).find? P = none := find_none (fun i x hi hx => by
  rw [List.getElem?_take] at hx
  split at hx
  · exact h i x (by assumption) hx
  · cases hx)
 rw [this, List.find?_cons_of_pos hP]
 rfl
theorem store_any (jb mb : Nat) (ar ap : Option Addr) (cr cp : Nat) (err : Int) (room ps : List Int) (pubs : List PublicV) (sb j : Nat) (ao : Option Addr) (ko : Nat) (L : List CV) (last : Int) (w : World) (hJ : JudgeAt jb mb ar ap cr cp err room ps pubs w) (hS : SOf sb jb j ao ko L last w) :
 Calls Tryz.prog 26 #[.pointer (some ⟨sb, 0, none⟩), (j : Int)] w (RetF ((L.find? (rangeB (judgeV err room ps pubs))).map fun c => ⟨(j : Int), 2, [c], zeroP⟩) w) := by
 have HJd := hD hJ; have HSO := hD hS; have hj3 := hS.j3; have hj3i : (j : Int) < 3 := by omega
 have hll := hS.ll; have HR := hD ((RowsS.nil w).alloc (.cells #[(), (), .slice none 0 0, (), (), (), (), (), ()] 40)); clear hJ hS; go_enter Tryz.func26, Tryz.ntmps26; go_upto_region 1 with fail; generalize w.alloc (.cells #[(), (), .slice none 0 0, (), (), (), (), (), ()] 40) = w0 at *; have hcj := (HSO.out.below HR.out.below).cj; go_wp2_with fail; clear hcj; go_loopw [15] (fun iv wx => ∃ k : Nat, k ≤ L.length ∧ iv = .int .i64 k ∧ (∀ (i : Nat) (y : CV), i < k → L[i]? = some y → rangeB (judgeV err room ps pubs) y = false) ∧ RowsS w [(w.heap.size, .cells #[(), (), .slice none 0 0, (), (), (), (), (), ()] 40)] wx) (fun iv _ => L.length - (Go.RowKit.intOf iv).toNat)
 case atStart => exact ⟨0, Nat.zero_le _, rfl, fun i x h => absurd h (Nat.not_lt_zero _), HR.out⟩
 case round =>
  obtain ⟨k, hk, rfl, hno, hr⟩ := hrel; have HNO := hD hno; have HR1 := hD hr; clear hno hr HR; by_cases hlt : k < L.length
  ·
   obtain ⟨c, hc⟩ : ∃ c, L[k]? = some c := ⟨_, List.getElem?_eq_getElem hlt⟩; obtain ⟨hcn, -, -, hco⟩ := HSO.out.hk c (List.mem_of_getElem? hc); have hcg := good_of HSO.out.l (List.mem_of_getElem? hc); obtain ⟨b, o, cs, rfl, hbl, -, hrg, hcs, -⟩ := HSO.out.l.at hc; unfold cellsC at hcs; subst hcs; have HRG := hD (rangeAt_below hrg HR1.out.below hbl); have HC := hD hc; have HCO := hD hco; have HR2 := hD (HR1.out.alloc (.cells #[c.office, c.hour, c.inn, c.out, c.store, c.prev, c.e, c.s] 63)); clear hc hrg HR1 hco; go_upto_region 4 with (refine lRG HRG.out undCm infoCm ?_); clear HRG; generalize wr.alloc (.cells #[c.office, c.hour, c.inn, c.out, c.store, c.prev, c.e, c.s] 63) = w2 at *; generalize wr.heap.size = bC at *; refine wrd (S := RowsS w _) (HR2.out.drew) (fun yH => ?_); refine tn 0 ?_; refine tn 1 ?_; refine tn 2 ?_; refine tn 3 ?_ (hx := fun wz hSw => by have e4 := (hSw.below.cell (p := ⟨sb, 0, none⟩) HSO.out.lt).trans HSO.out.c0; go_simp; try with_reducible rfl); refine tn 4 ?_ (hx := ldw 1 undCm infoCm)
   cases hrb : rangeB (judgeV err room ps pubs) c with
   | true =>
    have HRa : Hid (∀ w0, Below w.heap.size w w0 → Calls Tryz.prog 54 #[.pointer (some ⟨jb, 0, none⟩), .agg #[c.office, c.hour, c.inn, c.out, c.store, c.prev, c.e, c.s]] w0 fun e w' => e = .returned (.bool true) ∧ Below w0.heap.size w0 w') := hD (fun w0 hb => by have h := range_any jb mb ar ap cr cp err room ps pubs (hoursF pubs) (kB ps) (vB ps) c j w0 (HJd.out.below hb) hj3 HCO.out hcn; rw [← HCO.out, show rangeB ⟨err, room, hoursF pubs, kB ps, vB ps⟩ c = true from hrb] at h; exact h); have HRB := hD hrb; clear hrb; refine rd1 5 (fun K hK => ?_); go_simp; refine (HRa.out _ yH.below).mono ?_; rintro e w' ⟨rfl, hb⟩; refine hK.out _ _ (yH.step hb) (fun yH => ?_); clear hK K; refine rdn ?_; have HR3 := hD yH; rename World => w3; clear yH; have HF := hD (find_found HNO.out HC.out HRB.out); have HR4 := hD (HR3.out.alloc (.cells #[c.office, c.hour, c.inn, c.out, c.store, c.prev, c.e, c.s] 63)); go_wp2_with (refine lRW (HR3.out.row 1 rfl) undCm infoCm ?_)
    have HL1 : Hid (LArg RC 8 (.slice (some ⟨w3.heap.size, 0, none⟩) 1 1) [c] (w3.alloc (.cells #[c.office, c.hour, c.inn, c.out, c.store, c.prev, c.e, c.s] 63))) := hD (larg_rowC (l := [c]) (heap_alloc_new _ _) (by
     intro x hx; simp only [List.mem_cons, List.not_mem_nil, or_false] at hx; subst hx
     all_goals assumption) (by simp))
    have hgeb : w.heap.size ≤ w3.heap.size := HR3.out.below.size; have hne : w3.heap.size ≠ w.heap.size := (Nat.ne_of_lt (blk_lt (HR3.out.row 0 rfl))).symm; generalize (w3.alloc (.cells #[c.office, c.hour, c.inn, c.out, c.store, c.prev, c.e, c.s] 63)) = w6 at *; generalize w3.heap.size = bs at *; refine (proof_any (j : Int) 2 (some ⟨bs, 0, none⟩) 1 1 _).mono ?_; rintro e w7 ⟨rfl, hb7⟩; have HR7 := hD (HR4.out.step hb7); have HL7 := hD (HL1.out.below stays_RC hb7); clear hb7 HL1 HR4 HR3; go_wp2_with (refine sRW #[(j : Int), .int .i64 2, .slice (some ⟨bs, 0, none⟩) 1 1, (), (), (), (), (), ()] (HR7.out.row 0 rfl) infoBl ?_); have HRZ := hD (HR7.out.set (i := 0) (cs' := #[(j : Int), .int .i64 2, .slice (some ⟨bs, 0, none⟩) 1 1, (), (), (), (), (), ()]) rfl); exact bpr (HRZ.out.row 0 rfl) undBl infoBl (retF_some (p := zeroP) (by rw [HF.out]; rfl) (larg_setRow HL7.out hne _) hgeb HRZ.out.below)
   | false =>
    have HRa : Hid (∀ w0, Below w.heap.size w w0 → Calls Tryz.prog 54 #[.pointer (some ⟨jb, 0, none⟩), .agg #[c.office, c.hour, c.inn, c.out, c.store, c.prev, c.e, c.s]] w0 fun e w' => e = .returned (.bool false) ∧ Below w0.heap.size w0 w') := hD (fun w0 hb => by have h := range_any jb mb ar ap cr cp err room ps pubs (hoursF pubs) (kB ps) (vB ps) c j w0 (HJd.out.below hb) hj3 HCO.out hcn; rw [← HCO.out, show rangeB ⟨err, room, hoursF pubs, kB ps, vB ps⟩ c = false from hrb] at h; exact h); have HRB := hD hrb; clear hrb; refine rd1 5 (fun K hK => ?_); go_simp; refine (HRa.out _ yH.below).mono ?_; rintro e w' ⟨rfl, hb⟩; refine hK.out _ _ (yH.step hb) (fun yH => ?_); clear hK K; refine rdn ?_; have HR3 := hD (yH.take 1); clear yH
    have HN2 : Hid (∀ (i : Nat) (y : CV), i < k + 1 → L[i]? = some y → rangeB (judgeV err room ps pubs) y = false) := hD (fun i y hi hy => by
     by_cases e : i = k
     · subst e; rw [HC.out] at hy; cases hy; exact HRB.out
     · exact HNO.out i y (by omega) hy)
    go_wp2_with fail; go_roundw
    case rel => exact ⟨k + 1, by omega, by go_num, HN2.out, HR3.out⟩
    case measure => simp [Go.RowKit.intOf]; omega
  ·
   obtain rfl : k = L.length := by omega
   have HF := hD (find_none HNO.out); clear hlt hk; go_wp2_with (refine sRW #[(), (), .slice none 0 0, (), (), (), (), (), ()] (HR1.out.row 0 rfl) infoBl ?_); have HRZ := hD (HR1.out.set (i := 0) (cs' := #[(), (), .slice none 0 0, (), (), (), (), (), ()]) rfl); exact bpr (HRZ.out.row 0 rfl) undBl infoBl (retF_none (by rw [HF.out]; rfl) HRZ.out.below)
end Go.Proofs.YtjbjpkhibcnenaaGreatDoor
/- audit.Find: outlet. -/
namespace Go.Proofs.YtjbjpkhibcnenaaGreatDoor
set_option maxRecDepth 100000
set_option maxHeartbeats 8000000
open Go.RowKit
theorem outlet_any (jb mb : Nat) (ar ap : Option Addr) (cr cp : Nat) (err : Int) (room ps : List Int) (pubs : List PublicV) (sb j : Nat) (ao : Option Addr) (ko : Nat) (L : List CV) (last : Int) (w : World) (hJ : JudgeAt jb mb ar ap cr cp err room ps pubs w) (hS : SOf sb jb j ao ko L last w) (hI : ∀ p ∈ pubs, PbI p) (hpl : pubs.length ≤ 1000) :
 Calls Tryz.prog 27 #[.pointer (some ⟨sb, 0, none⟩), (j : Int)] w (RetF (if (j : Int) = 2 then two (j : Int) 3 (first2 (laterB (hoursF pubs) mouthP (contrB err)) L L) else none) w) := by
 have HJd := hD hJ; have HSO := hD hS; have HR := hD ((RowsS.nil w).alloc (.cells #[(), (), .slice none 0 0, (), (), (), (), (), ()] 40)); have hs0 := ((HSO.out.below HR.out.below).c0); clear hJ hS; by_cases hj2 : (j : Int) = 2
 ·
  have q1 : ((j : Int) != 2) = false := by rw [bne_eq_false_iff_eq]; exact hj2
  have q2 : ((j : Int) == 2) = true := by rw [beq_iff_eq]; exact hj2
  have q3 : decide ((j : Int) = 2) = true := decide_eq_true hj2; rw [if_pos hj2]; clear hj2; go_enter Tryz.func27, Tryz.ntmps27; go_upto_region 1 with fail; generalize w.alloc (.cells #[(), (), .slice none 0 0, (), (), (), (), (), ()] 40) = w0 at *
  cases hf2 : first2 (laterB (hoursF pubs) mouthP (contrB err)) L L with
  | none =>
   have HLa : Hid (∀ w0, Below w.heap.size w w0 → Calls Tryz.prog 52 #[.pointer (some ⟨sb, 0, none⟩), (j : Int), .func (.func 55) #[] #[], .func (.func 56) #[.pointer (some ⟨jb, 0, none⟩)] #[]] w0 fun e w' => e = .returned (.tuple #[.agg #[(), (), (), (), (), .string ⟨#[]⟩, (), ()], .agg #[(), (), (), (), (), .string ⟨#[]⟩, (), ()], .bool false]) ∧ Below w0.heap.size w0 w') := hD (fun w0 hb => by have h := laterM_any jb mb ar ap cr cp err room ps pubs sb j ao ko L last w0 (HJd.out.below hb) (HSO.out.below hb) hI hpl; rw [hf2] at h; exact h); have HF : Hid (two (j : Int) 3 (first2 (laterB (hoursF pubs) mouthP (contrB err)) L L) = none) := hD (by rw [hf2]; rfl); clear hf2; go_wp2_with fail; refine (HLa.out _ HR.out.below).mono ?_; rintro e w1 ⟨rfl, hb1⟩; have HR1 := hD (HR.out.step hb1); have HR2 := hD ((HR1.out.alloc (.cells #[(), (), (), (), (), .string ⟨#[]⟩, (), ()] 63)).alloc (.cells #[(), (), (), (), (), .string ⟨#[]⟩, (), ()] 63)); clear hb1 HR hs0; go_upto_region 5 with fail; generalize ((w1.alloc (.cells #[(), (), (), (), (), .string ⟨#[]⟩, (), ()] 63)).alloc (.cells #[(), (), (), (), (), .string ⟨#[]⟩, (), ()] 63)) = w2 at *; go_wp2_with (refine sRW #[(), (), .slice none 0 0, (), (), (), (), (), ()] (HR2.out.row 0 rfl) infoBl ?_); have HRZ := hD (HR2.out.set (i := 0) (cs' := #[(), (), .slice none 0 0, (), (), (), (), (), ()]) rfl); exact bpr (HRZ.out.row 0 rfl) undBl infoBl (retF_none HF.out HRZ.out.below)
  | some x =>
   obtain ⟨c, d⟩ := x; have HLa : Hid (∀ w0, Below w.heap.size w w0 → Calls Tryz.prog 52 #[.pointer (some ⟨sb, 0, none⟩), (j : Int), .func (.func 55) #[] #[], .func (.func 56) #[.pointer (some ⟨jb, 0, none⟩)] #[]] w0 fun e w' => e = .returned (.tuple #[.agg #[c.office, c.hour, c.inn, c.out, c.store, c.prev, c.e, c.s], .agg #[d.office, d.hour, d.inn, d.out, d.store, d.prev, d.e, d.s], .bool true]) ∧ Below w0.heap.size w0 w') := hD (fun w0 hb => by have h := laterM_any jb mb ar ap cr cp err room ps pubs sb j ao ko L last w0 (HJd.out.below hb) (HSO.out.below hb) hI hpl; rw [hf2] at h; exact h); have HF : Hid (two (j : Int) 3 (first2 (laterB (hoursF pubs) mouthP (contrB err)) L L) = some ⟨(j : Int), 3, [c, d], zeroP⟩) := hD (by rw [hf2]; rfl); obtain ⟨hcm, hdm, -⟩ := first2_some hf2; have hcg := good_of HSO.out.l hcm; have hdg := good_of HSO.out.l hdm; clear hf2 hcm hdm; go_wp2_with fail; refine (HLa.out _ HR.out.below).mono ?_; rintro e w1 ⟨rfl, hb1⟩; have HR1 := hD (HR.out.step hb1); have s1 : (w1.alloc (.cells #[c.office, c.hour, c.inn, c.out, c.store, c.prev, c.e, c.s] 63)).heap.size = w1.heap.size + 1 := by simp
   have HR2 : Hid (RowsS w [(w.heap.size, .cells #[(), (), .slice none 0 0, (), (), (), (), (), ()] 40), (w1.heap.size, .cells #[c.office, c.hour, c.inn, c.out, c.store, c.prev, c.e, c.s] 63), (w1.heap.size + 1, .cells #[d.office, d.hour, d.inn, d.out, d.store, d.prev, d.e, d.s] 63)] ((w1.alloc (.cells #[c.office, c.hour, c.inn, c.out, c.store, c.prev, c.e, c.s] 63)).alloc (.cells #[d.office, d.hour, d.inn, d.out, d.store, d.prev, d.e, d.s] 63))) := hD (by
    have := (HR1.out.alloc (.cells #[c.office, c.hour, c.inn, c.out, c.store, c.prev, c.e, c.s] 63)).alloc (.cells #[d.office, d.hour, d.inn, d.out, d.store, d.prev, d.e, d.s] 63); rw [s1] at this
    exact this)
   clear hb1 HR hs0 HR1 s1; go_upto_region 6 with fail; generalize ((w1.alloc (.cells #[c.office, c.hour, c.inn, c.out, c.store, c.prev, c.e, c.s] 63)).alloc (.cells #[d.office, d.hour, d.inn, d.out, d.store, d.prev, d.e, d.s] 63)) = w2 at *; generalize w1.heap.size + 1 = bD at *; generalize w1.heap.size = bC at *; have HR4 := hD (HR2.out.alloc (.cells #[c.office, c.hour, c.inn, c.out, c.store, c.prev, c.e, c.s, d.office, d.hour, d.inn, d.out, d.store, d.prev, d.e, d.s] 63)); go_wp2_with (first | (refine lRW (HR2.out.row 1 rfl) undCm infoCm ?_) | (refine lRW (HR2.out.row 2 rfl) undCm infoCm ?_))
   have HL1 : Hid (LArg RC 8 (.slice (some ⟨w2.heap.size, 0, none⟩) 2 2) [c, d] (w2.alloc (.cells #[c.office, c.hour, c.inn, c.out, c.store, c.prev, c.e, c.s, d.office, d.hour, d.inn, d.out, d.store, d.prev, d.e, d.s] 63))) := hD (larg_rowC (l := [c, d]) (heap_alloc_new _ _) (by
    intro x hx; simp only [List.mem_cons, List.not_mem_nil, or_false] at hx; rcases hx with rfl | rfl
    all_goals assumption) (by simp))
   have hgeb : w.heap.size ≤ w2.heap.size := HR2.out.below.size; have hne : w2.heap.size ≠ w.heap.size := (Nat.ne_of_lt (blk_lt (HR2.out.row 0 rfl))).symm; generalize (w2.alloc (.cells #[c.office, c.hour, c.inn, c.out, c.store, c.prev, c.e, c.s, d.office, d.hour, d.inn, d.out, d.store, d.prev, d.e, d.s] 63)) = w6 at *; generalize w2.heap.size = bs at *; refine (proof_any (j : Int) 3 (some ⟨bs, 0, none⟩) 2 2 _).mono ?_; rintro e w7 ⟨rfl, hb7⟩; have HR7 := hD (HR4.out.step hb7); have HL7 := hD (HL1.out.below stays_RC hb7); clear hb7 HL1 HR4 HR2; go_wp2_with (refine sRW #[(j : Int), .int .i64 3, .slice (some ⟨bs, 0, none⟩) 2 2, (), (), (), (), (), ()] (HR7.out.row 0 rfl) infoBl ?_); have HRZ := hD (HR7.out.set (i := 0) (cs' := #[(j : Int), .int .i64 3, .slice (some ⟨bs, 0, none⟩) 2 2, (), (), (), (), (), ()]) rfl); exact bpr (HRZ.out.row 0 rfl) undBl infoBl (retF_some (p := zeroP) HF.out (larg_setRow HL7.out hne _) hgeb HRZ.out.below)
 ·
  have q1 : ((j : Int) != 2) = true := by rw [bne_iff_ne]; exact hj2
  have q2 : ((j : Int) == 2) = false := by rw [beq_eq_false_iff_ne]; exact hj2
  have q3 : decide ((j : Int) = 2) = false := decide_eq_false hj2; rw [if_neg hj2]; clear hj2; go_enter Tryz.func27, Tryz.ntmps27; go_upto_region 1 with fail; generalize w.alloc (.cells #[(), (), .slice none 0 0, (), (), (), (), (), ()] 40) = w0 at *; go_wp2_with (refine sRW #[(), (), .slice none 0 0, (), (), (), (), (), ()] (HR.out.row 0 rfl) infoBl ?_); have HRZ := hD (HR.out.set (i := 0) (cs' := #[(), (), .slice none 0 0, (), (), (), (), (), ()]) rfl); exact bpr (HRZ.out.row 0 rfl) undBl infoBl (retF_none rfl HRZ.out.below)
end Go.Proofs.YtjbjpkhibcnenaaGreatDoor
