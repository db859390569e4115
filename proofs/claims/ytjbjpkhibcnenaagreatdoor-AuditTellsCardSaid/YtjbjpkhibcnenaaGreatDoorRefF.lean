/- The reference's compress returns the state that the plain function compL says. -/
import Derived.Deep.DeepCutAuto
import Derived.Test.YtjbjpkhibcnenaaGreatDoorRefE
namespace Go.Proofs.YtjbjpkhibcnenaaGreatDoor
set_option maxRecDepth 100000
set_option maxHeartbeats 8000000
open Go.RowKit
def CompPost (h : List Int) (l : List UInt8) (a E : Nat) (last : Bool) (w : World) (e : Ending) (w' : World) : Prop :=
 ∃ g c, e = .returned (.slice (some ⟨g, 0, none⟩) 8 c) ∧ Row32 g 8 (compL h (mAt l a) (E : Int) last) w' ∧ w.heap.size ≤ g ∧ Below w.heap.size w w'
theorem rcomp_any (h : List Int) (gh ch : Nat) (s : ByteArray) (n : Nat) (w : World) (hl : h.length = 8) (hh : W32 h) (hr : Row32 gh 8 h w) (hs : s.size ≤ 1000000) (ha : n ≤ 1000000) :
 Calls Tryz.prog 145 #[.slice (some ⟨gh, 0, none⟩) 8 ch, .string s, .int .i64 (n : Int)] w (CompPost h s.data.toList n (min (n + 64) s.size) (decide (min (n + 64) s.size = s.size)) w) := by
 have Hl := Lib.hid hl
 have Hh := Lib.hid hh
 have Hr := Lib.hid hr
 clear hl hh hr
 obtain ⟨i0, hi, hz0, hz1, hz2⟩ := info_parts infoU
 go_enter Tryz.func145, Tryz.ntmps145
 go_wp2_with fail
 go_loopw [7, 8] (fun v i wr => ∃ k : Nat, k ≤ 16 ∧ i = .int .i64 k ∧ wr.ownsRow w.heap.size 148 1 v k (u32L ((mAt s.data.toList n).take k)) ∧ Below w.heap.size w wr) (fun _ i _ => 16 - (Go.RowKit.intOf i).toNat)
 case atStart => exact ⟨0, by omega, rfl, World.ownsRow_nil _ _ _ _, Below.refl _ _⟩
 case round =>
  obtain ⟨k, hk, rfl, hown, hB⟩ := hrel
  have HO := Lib.hid hown
  have HB := Lib.hid hB
  clear hown hB
  by_cases hlt : k < 16
  ·
   have HT := Lib.hid (mAt_take s.data.toList n k hlt)
   go_wp2_with fail
   refine (rword_any s _ _ hs (by omega) (by omega)).mono ?_
   rintro e w' ⟨rfl, rfl⟩
   rw [show ((n : Int) + 4 * (k : Int)).toNat = n + 4 * k by omega]
   generalize topW s.data.toList (n + 4 * k) 4 = q at *
   go_wp2_with (at_builtin; refine Hid.out ?_)
   refine Lib.hid ?_
   refine wpList_append_own _ rfl _ _ 167 rfl w.heap.size 148 i0 (.int .u32 0) 1 4 undUs hi hz0 hz1 hz2 rfl (by decide) _ _ _ rfl (HO.out.alloc _) ⟨wr.heap.size, 0, none⟩ 1 1 [.int .u32 (q : Int)] rfl (by rfl) (cells_new _ _ _) (by simp [Value.oneCell']) (by unfold maxLen; omega) (by omega) (by have := HB.out.size; simpa using Nat.le_succ_of_le this) ?_
   intro v' w1 hown1 hgr1 _
   have HO1 : Hid (w1.ownsRow w.heap.size 148 1 v' (k + 1) (u32L ((mAt s.data.toList n).take (k + 1)))) := by
    refine Lib.hid ?_
    rw [HT.out]
    unfold u32L at hown1 ⊢
    rw [List.map_append]
    exact hown1
   have HB1 : Hid (Below w.heap.size w w1) := Lib.hid ((HB.out.alloc HB.out.size _).grown hgr1 (by have := HB.out.size; simpa using Nat.le_succ_of_le this) (fun q e => HO.out.block_ge e))
   clear hown1 hgr1
   go_wp2_with fail
   go_roundw
   case rel => exact ⟨k + 1, by omega, by go_num, HO1.out, HB1.out⟩
   case measure => simp [Go.RowKit.intOf]; omega
  ·
   obtain rfl : k = 16 := by omega
   clear hlt hk
   rw [show ((16 : Nat) : Int) = 16 from rfl]
   have hO := HO.out
   rw [List.take_of_length_le (by rw [mAt_len]; exact Nat.le_refl _)] at hO
   obtain ⟨gm, cm, rfl, hgm, hm⟩ := Row32.of_owns (by decide) (mAt_len _ _) hO
   clear hO HO
   have Hm := Lib.hid hm
   have Hgm := Lib.hid hgm
   clear hm hgm
   generalize hM : mAt s.data.toList n = M at *
   have HM := Lib.hid hM
   have HM32 : Hid (W32 M) := Lib.hid (by rw [← hM]; exact mAt_32 _ _)
   have HML : Hid (M.length = 16) := Lib.hid (by rw [← hM]; exact mAt_len _ _)
   clear hM
   go_wp2_with (at_builtin; refine Hid.out ?_)
   refine Lib.hid ?_
   refine wpList_append_own _ rfl _ _ 167 rfl wr.heap.size 148 i0 (.int .u32 0) 1 4 undUs hi hz0 hz1 hz2 rfl (by decide) _ 0 [] rfl ⟨rfl, Or.inr ⟨wr.heap.size, 0, #[], rfl, Nat.le_refl _, heap_alloc_new _ _, Nat.le_refl _, by unfold maxLen; omega, rfl, rfl⟩⟩ ⟨gh, 0, none⟩ 8 ch (u32L h) rfl (by simp [u32L, Hl.out]) ?hn (u32L_one _) (by unfold maxLen; omega) (by omega) (by simp) ?_
   case hn =>
    intro j u hu
    have hj : j < 8 := by
     have := (List.getElem?_eq_some_iff.1 hu).1
     simpa [u32L, Hl.out] using this
    rw [Addr.add_mid, Nat.zero_add]
    have h2 : Row32 gh 8 h (wr.alloc (.cells #[] 148)) := Hr.out.same (((HB.out.alloc HB.out.size _)).block _ Hr.out.lt)
    rw [h2.cell j hj, ← hu, u32L_get _ _ (by rw [Hl.out]; exact hj)]
   intro v1 w1 hown1 hgr1 _
   have HB1 : Hid (Below wr.heap.size wr w1) := Lib.hid (((Below.refl wr.heap.size wr).alloc (Nat.le_refl _) _).grown hgr1 (by simp) (fun q e => Nat.le_of_eq (Option.some.inj e)))
   have HO1 := Lib.hid hown1
   clear hown1 hgr1
   go_wp2_with fail
   refine (rconst_any _).mono ?_
   rintro e w2 ⟨rfl, rfl⟩
   go_wp2_with (at_builtin; refine Hid.out ?_)
   refine Lib.hid ?_
   refine wpList_append_own _ rfl _ _ 167 rfl wr.heap.size 148 i0 (.int .u32 0) 1 4 undUs hi hz0 hz1 hz2 rfl (by decide) _ _ _ rfl (HO1.out.alloc _) ⟨w1.heap.size, 0, none⟩ 8 8 (u32L startL) rfl (by rfl) ?hn2 (u32L_one _) (by unfold maxLen; omega) (by omega) (by have := HB1.out.size; simpa using Nat.le_succ_of_le this) ?_
   case hn2 => exact cells_new _ _ _
   intro v2 w2 hown2 hgr2 _
   have HB2 : Hid (Below wr.heap.size wr w2) := Lib.hid ((HB1.out.alloc HB1.out.size _).grown hgr2 (by have := HB1.out.size; simpa using Nat.le_succ_of_le this) (fun q e => HO1.out.block_ge e))
   have hown2' : w2.ownsRow wr.heap.size 148 1 v2 16 (u32L (vInit h 8)) := by
    rw [vInit_eq h Hl.out]
    unfold u32L at hown2 ⊢
    rw [List.map_append]
    exact hown2
   obtain ⟨gv, cv, rfl, hgv, hv⟩ := Row32.of_owns (by decide) (vInit_len h 8) hown2'
   clear hown2 hown2' hgr2 HO1 HB1
   have hQ : QI w gm gv M (vInit h 8) w2 := ⟨Hm.out.same (HB2.out.block _ Hm.out.lt), hv, by have := Hm.out.lt; omega, Hgm.out, by have := HB.out.size; omega, HB.out.trans (HB2.out.mono HB.out.size)⟩
   have HQ := Lib.hid hQ
   have HV0 : Hid ((vInit h 8).length = 16) := Lib.hid (vInit_len h 8)
   have HV32 : Hid (W32 (vInit h 8)) := Lib.hid (vInit_32 Hh.out 8)
   clear hQ hv hgv HB2
   go_upto_region 9 with (fail)
   first | rw [show (if (s.size : Int) < (n : Int) + 64 then (s.size : Int) else (n : Int) + 64) = ((min (n + 64) s.size : Nat) : Int) by split <;> omega] | rw [show min ((n : Int) + 64) (s.size : Int) = ((min (n + 64) s.size : Nat) : Int) by omega]
   have hE : min (n + 64) s.size ≤ 1000000 := by omega
   generalize min (n + 64) s.size = E at *
   have c12 := HQ.out.hv.cell 12 (by omega)
   have c13 := HQ.out.hv.cell 13 (by omega)
   have f12 := HQ.out.hv.free 12
   have f13 := HQ.out.hv.free 13
   have y1 : IntKind.u32.wrap (E : Int) = (E : Int) := IntWalk.u32_in _ (by omega)
   have y2 : (E : Int) % 4294967296 = (E : Int) := by omega
   have y3 : (E : Int) / 4294967296 = 0 := by omega
   have HVI : Hid (vInit h 8 = vInit h 8) := rfl
   generalize hvI : vInit h 8 = vI at *
   have HvI := Lib.hid hvI
   clear hvI HVI
   generalize hx12 : vI[12]?.getD 0 = x12 at *
   generalize hx13 : vI[13]?.getD 0 = x13 at *
   have X12 := Lib.hid hx12
   have X13 := Lib.hid hx13
   clear hx12 hx13
   go_upto_if 60 with (fail)
   generalize hW3 : (w2.setCell _ _).setCell _ _ = W3
   have hQ3 : QI w gm gv M ((vI.set 12 (bits BinOp.xor IntKind.u32 x12 (E : Int))).set 13 (bits BinOp.xor IntKind.u32 x13 0)) W3 := by
    rw [← hW3]
    exact (HQ.out.setV HV0.out 12 (by omega) _).setV (by simp [HV0.out]) 13 (by omega) _
   clear hW3 c12 c13 f12 f13
   generalize hx14 : vI[14]?.getD 0 = x14 at *
   have c14 : W3.cell? ⟨gv, 14, none⟩ = some (.int .u32 x14) := by
    have := hQ3.hv.cell 14 (by omega)
    rw [this]
    simp only [List.getElem?_set_ne (show (13 : Nat) ≠ 14 by decide), List.getElem?_set_ne (show (12 : Nat) ≠ 14 by decide), hx14]
   have f14 := hQ3.hv.free 14
   have b14 : 0 ≤ x14 ∧ x14 ≤ 4294967295 := by rw [← hx14]; exact HV32.out 14
   obtain ⟨b1, b2⟩ := b14
   have X14 := Lib.hid hx14
   have HQ3 := Lib.hid hQ3
   have Y2 := Lib.hid y2
   have Y3 := Lib.hid y3
   clear hQ3 hx14 y1 y2 y3
   go_cut [] (fun w' => QI w gm gv M (vMark vI (E : Int) (decide (E = s.size))) w')
   case first =>
    by_cases hes : E = s.size
    ·
     have hd : ((E : Int) == (s.size : Int)) = true := beq_iff_eq.2 (by omega)
     have HD : Hid (decide (E = s.size) = true) := Lib.hid (by simp [hes])
     clear hes
     go_wp2_with fail
     go_meet
     case rel =>
      have := HQ3.out.setV (by simp [HV0.out]) 14 (by omega) (4294967295 - x14)
      rw [HD.out]
      simp only [vMark, X12.out, List.getElem?_set_ne (show (12 : Nat) ≠ 13 by decide), X13.out, List.getElem?_set_ne (show (13 : Nat) ≠ 14 by decide), List.getElem?_set_ne (show (12 : Nat) ≠ 14 by decide), X14.out, Y2.out, Y3.out]
      exact this
    ·
     have hd : ((E : Int) == (s.size : Int)) = false := beq_eq_false_iff_ne.2 (by omega)
     have HD : Hid (decide (E = s.size) = false) := Lib.hid (by simp [hes])
     clear hes
     go_wp2_with fail
     go_meet
     case rel =>
      have := HQ3.out
      rw [HD.out]
      simp only [vMark, X12.out, List.getElem?_set_ne (show (12 : Nat) ≠ 13 by decide), X13.out, Y2.out, Y3.out]
      exact this
   case rest =>
    have HCC := Lib.hid hcut
    clear hcut HQ HQ3 c14 f14 X12 X13 X14 b1 b2 x12 x13 x14 Y2 Y3
    have HV : Hid ((vMark vI (E : Int) (decide (E = s.size))).length = 16) := Lib.hid ((vMark_len _ _ _).trans HV0.out)
    have HW32 : Hid (W32 (vMark vI (E : Int) (decide (E = s.size)))) := Lib.hid (vMark_32 HV32.out _ _)
    have HVE : Hid (compL h M (E : Int) (decide (E = s.size)) = hOut h (rounds M (vMark vI (E : Int) (decide (E = s.size))) 10) 8) := by
     refine Lib.hid ?_
     unfold compL
     rw [HvI.out]
    have HP : Hid (∀ e w', (∃ g c, e = Ending.returned (.slice (some ⟨g, 0, none⟩) 8 c) ∧ Row32 g 8 (compL h M (E : Int) (decide (E = s.size))) w' ∧ w.heap.size ≤ g ∧ Below w.heap.size w w') → CompPost h s.data.toList n E (decide (E = s.size)) w e w') := by
     refine Lib.hid ?_
     intro e w' hx
     unfold CompPost
     rw [HM.out]
     exact hx
    generalize decide (E = s.size) = last at *
    generalize vMark vI (E : Int) last = v0 at *
    clear HvI HV0 HV32 vI
    go_wp2_with fail
    go_loopw [11] (fun i wr => ∃ r : Nat, r ≤ 10 ∧ i = .int .i64 r ∧ QI w gm gv M (rounds M v0 r) wr) (fun i _ => 10 - (Go.RowKit.intOf i).toNat)
    case atStart => exact ⟨0, by omega, rfl, HCC.out⟩
    case round =>
     obtain ⟨r, hr, rfl, hQ⟩ := hrel
     clear HCC
     have HQ := Lib.hid hQ
     clear hQ
     by_cases hlt : r < 10
     ·
      go_wp2_with fail
      refine (rorder_any r hlt _).mono ?_
      rintro e w' ⟨rfl, rfl⟩
      generalize hW : wr.alloc (.cells (ordI r) 3) = W0
      have hR : RI w gm gv wr.heap.size r M (rounds M v0 r) W0 := by
       rw [← hW]
       exact ⟨HQ.out.later ((Below.refl wr.heap.size wr).alloc (Nat.le_refl _) _) HQ.out.hm.lt HQ.out.hv.lt, heap_alloc_new _ _, by have := HQ.out.hv.lt; omega⟩
      clear hW
      have HR0 := Lib.hid hR
      have HL0 : Hid ((rounds M v0 r).length = 16) := Lib.hid ((rounds_len _ _ _).trans HV.out)
      have H320 : Hid (W32 (rounds M v0 r)) := Lib.hid (rounds_32 HW32.out _ _)
      have HRd : Hid (roundL M (rounds M v0 r) r = rounds M v0 (r + 1)) := rfl
      clear hR HQ
      generalize rounds M v0 r = V0 at *
      generalize wr.heap.size = zb at *
      go_wp2_with fail
      have hR := HR0.out.drew
      have hz1 := hR.zcell hlt 0 (by omega)
      have hz2 := hR.zcell hlt 1 (by omega)
      obtain ⟨b1, b2⟩ := ord_b r 0
      obtain ⟨b3, b4⟩ := ord_b r 1
      have hM : Hid (mixR M r 0 0 4 8 12 V0 = mixL V0 0 4 8 12 (M[(ord r 0).toNat]?.getD 0) (M[(ord r 1).toNat]?.getD 0)) := rfl
      generalize ord r 0 = p1 at *
      generalize ord r 1 = p2 at *
      have hm1 := hR.q.hm.cell p1.toNat (by omega)
      have hm2 := hR.q.hm.cell p2.toNat (by omega)
      obtain ⟨hx1, hx2⟩ := HM32.out p1.toNat
      obtain ⟨hx3, hx4⟩ := HM32.out p2.toNat
      generalize M[p1.toNat]?.getD 0 = x1 at *
      generalize M[p2.toNat]?.getD 0 = x2 at *
      have HR := Lib.hid hR
      clear hR HR0
      go_still_tail 13, (by kernel_rfl)
      change wpList _ _ _ _ _ W0.drew
      generalize W0.drew = U at *
      go_wp2_with fail
      refine (rg_any V0 gv cv 0 4 8 12 x1 x2 U (by exact HR.out.q.hv) H320.out (by decide) (by decide) (by decide) (by decide) (by decide) (by decide) (by decide) (by decide) (by decide) (by decide) (by decide) (by decide) (by decide) (by decide) hx1 hx2 hx3 hx4).mono ?_
      rintro e W1 ⟨rfl, hV⟩
      have hR2 : RI w gm gv zb r M (mixL V0 0 4 8 12 x1 x2) W1 := HR.out.mix (a := 0) (b := 4) (c := 8) (d := 12) hV HL0.out (by decide) (by decide) (by decide) (by decide) (by decide) (by decide) (by decide) (by decide) (by decide) (by decide) rfl
      rw [← hM.out] at hR2
      have HR1 := Lib.hid hR2
      clear hz1 hz2 hm1 hm2 b1 b2 b3 b4 hx1 hx2 hx3 hx4 hV hR2 HR hM
      have HL1 : Hid ((mixR M r 0 0 4 8 12 V0).length = 16) := Lib.hid ((mixR_len _ _ _ _ _ _ _ _).trans HL0.out)
      have H321 : Hid (W32 (mixR M r 0 0 4 8 12 V0)) := Lib.hid (mixR_32 H320.out _ _ _ _ _ _ _)
      generalize hV1 : mixR M r 0 0 4 8 12 V0 = V1 at *
      have HE1 := Lib.hid hV1
      clear hV1 HL0 H320
      go_wp2_with fail
      have hR := HR1.out.drew
      have hz1 := hR.zcell hlt 2 (by omega)
      have hz2 := hR.zcell hlt 3 (by omega)
      obtain ⟨b1, b2⟩ := ord_b r 2
      obtain ⟨b3, b4⟩ := ord_b r 3
      have hM : Hid (mixR M r 1 1 5 9 13 V1 = mixL V1 1 5 9 13 (M[(ord r 2).toNat]?.getD 0) (M[(ord r 3).toNat]?.getD 0)) := rfl
      generalize ord r 2 = p1 at *
      generalize ord r 3 = p2 at *
      have hm1 := hR.q.hm.cell p1.toNat (by omega)
      have hm2 := hR.q.hm.cell p2.toNat (by omega)
      obtain ⟨hx1, hx2⟩ := HM32.out p1.toNat
      obtain ⟨hx3, hx4⟩ := HM32.out p2.toNat
      generalize M[p1.toNat]?.getD 0 = x1 at *
      generalize M[p2.toNat]?.getD 0 = x2 at *
      have HR := Lib.hid hR
      clear hR HR1
      go_still_tail 13, (by kernel_rfl)
      change wpList _ _ _ _ _ W1.drew
      generalize W1.drew = U at *
      go_wp2_with fail
      refine (rg_any V1 gv cv 1 5 9 13 x1 x2 U (by exact HR.out.q.hv) H321.out (by decide) (by decide) (by decide) (by decide) (by decide) (by decide) (by decide) (by decide) (by decide) (by decide) (by decide) (by decide) (by decide) (by decide) hx1 hx2 hx3 hx4).mono ?_
      rintro e W2 ⟨rfl, hV⟩
      have hR2 : RI w gm gv zb r M (mixL V1 1 5 9 13 x1 x2) W2 := HR.out.mix (a := 1) (b := 5) (c := 9) (d := 13) hV HL1.out (by decide) (by decide) (by decide) (by decide) (by decide) (by decide) (by decide) (by decide) (by decide) (by decide) rfl
      rw [← hM.out] at hR2
      have HR2 := Lib.hid hR2
      clear hz1 hz2 hm1 hm2 b1 b2 b3 b4 hx1 hx2 hx3 hx4 hV hR2 HR hM
      have HL2 : Hid ((mixR M r 1 1 5 9 13 V1).length = 16) := Lib.hid ((mixR_len _ _ _ _ _ _ _ _).trans HL1.out)
      have H322 : Hid (W32 (mixR M r 1 1 5 9 13 V1)) := Lib.hid (mixR_32 H321.out _ _ _ _ _ _ _)
      generalize hV2 : mixR M r 1 1 5 9 13 V1 = V2 at *
      have HE2 := Lib.hid hV2
      clear hV2 HL1 H321
      go_wp2_with fail
      have hR := HR2.out.drew
      have hz1 := hR.zcell hlt 4 (by omega)
      have hz2 := hR.zcell hlt 5 (by omega)
      obtain ⟨b1, b2⟩ := ord_b r 4
      obtain ⟨b3, b4⟩ := ord_b r 5
      have hM : Hid (mixR M r 2 2 6 10 14 V2 = mixL V2 2 6 10 14 (M[(ord r 4).toNat]?.getD 0) (M[(ord r 5).toNat]?.getD 0)) := rfl
      generalize ord r 4 = p1 at *
      generalize ord r 5 = p2 at *
      have hm1 := hR.q.hm.cell p1.toNat (by omega)
      have hm2 := hR.q.hm.cell p2.toNat (by omega)
      obtain ⟨hx1, hx2⟩ := HM32.out p1.toNat
      obtain ⟨hx3, hx4⟩ := HM32.out p2.toNat
      generalize M[p1.toNat]?.getD 0 = x1 at *
      generalize M[p2.toNat]?.getD 0 = x2 at *
      have HR := Lib.hid hR
      clear hR HR2
      go_still_tail 13, (by kernel_rfl)
      change wpList _ _ _ _ _ W2.drew
      generalize W2.drew = U at *
      go_wp2_with fail
      refine (rg_any V2 gv cv 2 6 10 14 x1 x2 U (by exact HR.out.q.hv) H322.out (by decide) (by decide) (by decide) (by decide) (by decide) (by decide) (by decide) (by decide) (by decide) (by decide) (by decide) (by decide) (by decide) (by decide) hx1 hx2 hx3 hx4).mono ?_
      rintro e W3 ⟨rfl, hV⟩
      have hR2 : RI w gm gv zb r M (mixL V2 2 6 10 14 x1 x2) W3 := HR.out.mix (a := 2) (b := 6) (c := 10) (d := 14) hV HL2.out (by decide) (by decide) (by decide) (by decide) (by decide) (by decide) (by decide) (by decide) (by decide) (by decide) rfl
      rw [← hM.out] at hR2
      have HR3 := Lib.hid hR2
      clear hz1 hz2 hm1 hm2 b1 b2 b3 b4 hx1 hx2 hx3 hx4 hV hR2 HR hM
      have HL3 : Hid ((mixR M r 2 2 6 10 14 V2).length = 16) := Lib.hid ((mixR_len _ _ _ _ _ _ _ _).trans HL2.out)
      have H323 : Hid (W32 (mixR M r 2 2 6 10 14 V2)) := Lib.hid (mixR_32 H322.out _ _ _ _ _ _ _)
      generalize hV3 : mixR M r 2 2 6 10 14 V2 = V3 at *
      have HE3 := Lib.hid hV3
      clear hV3 HL2 H322
      go_wp2_with fail
      have hR := HR3.out.drew
      have hz1 := hR.zcell hlt 6 (by omega)
      have hz2 := hR.zcell hlt 7 (by omega)
      obtain ⟨b1, b2⟩ := ord_b r 6
      obtain ⟨b3, b4⟩ := ord_b r 7
      have hM : Hid (mixR M r 3 3 7 11 15 V3 = mixL V3 3 7 11 15 (M[(ord r 6).toNat]?.getD 0) (M[(ord r 7).toNat]?.getD 0)) := rfl
      generalize ord r 6 = p1 at *
      generalize ord r 7 = p2 at *
      have hm1 := hR.q.hm.cell p1.toNat (by omega)
      have hm2 := hR.q.hm.cell p2.toNat (by omega)
      obtain ⟨hx1, hx2⟩ := HM32.out p1.toNat
      obtain ⟨hx3, hx4⟩ := HM32.out p2.toNat
      generalize M[p1.toNat]?.getD 0 = x1 at *
      generalize M[p2.toNat]?.getD 0 = x2 at *
      have HR := Lib.hid hR
      clear hR HR3
      go_still_tail 13, (by kernel_rfl)
      change wpList _ _ _ _ _ W3.drew
      generalize W3.drew = U at *
      go_wp2_with fail
      refine (rg_any V3 gv cv 3 7 11 15 x1 x2 U (by exact HR.out.q.hv) H323.out (by decide) (by decide) (by decide) (by decide) (by decide) (by decide) (by decide) (by decide) (by decide) (by decide) (by decide) (by decide) (by decide) (by decide) hx1 hx2 hx3 hx4).mono ?_
      rintro e W4 ⟨rfl, hV⟩
      have hR2 : RI w gm gv zb r M (mixL V3 3 7 11 15 x1 x2) W4 := HR.out.mix (a := 3) (b := 7) (c := 11) (d := 15) hV HL3.out (by decide) (by decide) (by decide) (by decide) (by decide) (by decide) (by decide) (by decide) (by decide) (by decide) rfl
      rw [← hM.out] at hR2
      have HR4 := Lib.hid hR2
      clear hz1 hz2 hm1 hm2 b1 b2 b3 b4 hx1 hx2 hx3 hx4 hV hR2 HR hM
      have HL4 : Hid ((mixR M r 3 3 7 11 15 V3).length = 16) := Lib.hid ((mixR_len _ _ _ _ _ _ _ _).trans HL3.out)
      have H324 : Hid (W32 (mixR M r 3 3 7 11 15 V3)) := Lib.hid (mixR_32 H323.out _ _ _ _ _ _ _)
      generalize hV4 : mixR M r 3 3 7 11 15 V3 = V4 at *
      have HE4 := Lib.hid hV4
      clear hV4 HL3 H323
      go_wp2_with fail
      have hR := HR4.out.drew
      have hz1 := hR.zcell hlt 8 (by omega)
      have hz2 := hR.zcell hlt 9 (by omega)
      obtain ⟨b1, b2⟩ := ord_b r 8
      obtain ⟨b3, b4⟩ := ord_b r 9
      have hM : Hid (mixR M r 4 0 5 10 15 V4 = mixL V4 0 5 10 15 (M[(ord r 8).toNat]?.getD 0) (M[(ord r 9).toNat]?.getD 0)) := rfl
      generalize ord r 8 = p1 at *
      generalize ord r 9 = p2 at *
      have hm1 := hR.q.hm.cell p1.toNat (by omega)
      have hm2 := hR.q.hm.cell p2.toNat (by omega)
      obtain ⟨hx1, hx2⟩ := HM32.out p1.toNat
      obtain ⟨hx3, hx4⟩ := HM32.out p2.toNat
      generalize M[p1.toNat]?.getD 0 = x1 at *
      generalize M[p2.toNat]?.getD 0 = x2 at *
      have HR := Lib.hid hR
      clear hR HR4
      go_still_tail 13, (by kernel_rfl)
      change wpList _ _ _ _ _ W4.drew
      generalize W4.drew = U at *
      go_wp2_with fail
      refine (rg_any V4 gv cv 0 5 10 15 x1 x2 U (by exact HR.out.q.hv) H324.out (by decide) (by decide) (by decide) (by decide) (by decide) (by decide) (by decide) (by decide) (by decide) (by decide) (by decide) (by decide) (by decide) (by decide) hx1 hx2 hx3 hx4).mono ?_
      rintro e W5 ⟨rfl, hV⟩
      have hR2 : RI w gm gv zb r M (mixL V4 0 5 10 15 x1 x2) W5 := HR.out.mix (a := 0) (b := 5) (c := 10) (d := 15) hV HL4.out (by decide) (by decide) (by decide) (by decide) (by decide) (by decide) (by decide) (by decide) (by decide) (by decide) rfl
      rw [← hM.out] at hR2
      have HR5 := Lib.hid hR2
      clear hz1 hz2 hm1 hm2 b1 b2 b3 b4 hx1 hx2 hx3 hx4 hV hR2 HR hM
      have HL5 : Hid ((mixR M r 4 0 5 10 15 V4).length = 16) := Lib.hid ((mixR_len _ _ _ _ _ _ _ _).trans HL4.out)
      have H325 : Hid (W32 (mixR M r 4 0 5 10 15 V4)) := Lib.hid (mixR_32 H324.out _ _ _ _ _ _ _)
      generalize hV5 : mixR M r 4 0 5 10 15 V4 = V5 at *
      have HE5 := Lib.hid hV5
      clear hV5 HL4 H324
      go_wp2_with fail
      have hR := HR5.out.drew
      have hz1 := hR.zcell hlt 10 (by omega)
      have hz2 := hR.zcell hlt 11 (by omega)
      obtain ⟨b1, b2⟩ := ord_b r 10
      obtain ⟨b3, b4⟩ := ord_b r 11
      have hM : Hid (mixR M r 5 1 6 11 12 V5 = mixL V5 1 6 11 12 (M[(ord r 10).toNat]?.getD 0) (M[(ord r 11).toNat]?.getD 0)) := rfl
      generalize ord r 10 = p1 at *
      generalize ord r 11 = p2 at *
      have hm1 := hR.q.hm.cell p1.toNat (by omega)
      have hm2 := hR.q.hm.cell p2.toNat (by omega)
      obtain ⟨hx1, hx2⟩ := HM32.out p1.toNat
      obtain ⟨hx3, hx4⟩ := HM32.out p2.toNat
      generalize M[p1.toNat]?.getD 0 = x1 at *
      generalize M[p2.toNat]?.getD 0 = x2 at *
      have HR := Lib.hid hR
      clear hR HR5
      go_still_tail 13, (by kernel_rfl)
      change wpList _ _ _ _ _ W5.drew
      generalize W5.drew = U at *
      go_wp2_with fail
      refine (rg_any V5 gv cv 1 6 11 12 x1 x2 U (by exact HR.out.q.hv) H325.out (by decide) (by decide) (by decide) (by decide) (by decide) (by decide) (by decide) (by decide) (by decide) (by decide) (by decide) (by decide) (by decide) (by decide) hx1 hx2 hx3 hx4).mono ?_
      rintro e W6 ⟨rfl, hV⟩
      have hR2 : RI w gm gv zb r M (mixL V5 1 6 11 12 x1 x2) W6 := HR.out.mix (a := 1) (b := 6) (c := 11) (d := 12) hV HL5.out (by decide) (by decide) (by decide) (by decide) (by decide) (by decide) (by decide) (by decide) (by decide) (by decide) rfl
      rw [← hM.out] at hR2
      have HR6 := Lib.hid hR2
      clear hz1 hz2 hm1 hm2 b1 b2 b3 b4 hx1 hx2 hx3 hx4 hV hR2 HR hM
      have HL6 : Hid ((mixR M r 5 1 6 11 12 V5).length = 16) := Lib.hid ((mixR_len _ _ _ _ _ _ _ _).trans HL5.out)
      have H326 : Hid (W32 (mixR M r 5 1 6 11 12 V5)) := Lib.hid (mixR_32 H325.out _ _ _ _ _ _ _)
      generalize hV6 : mixR M r 5 1 6 11 12 V5 = V6 at *
      have HE6 := Lib.hid hV6
      clear hV6 HL5 H325
      go_wp2_with fail
      have hR := HR6.out.drew
      have hz1 := hR.zcell hlt 12 (by omega)
      have hz2 := hR.zcell hlt 13 (by omega)
      obtain ⟨b1, b2⟩ := ord_b r 12
      obtain ⟨b3, b4⟩ := ord_b r 13
      have hM : Hid (mixR M r 6 2 7 8 13 V6 = mixL V6 2 7 8 13 (M[(ord r 12).toNat]?.getD 0) (M[(ord r 13).toNat]?.getD 0)) := rfl
      generalize ord r 12 = p1 at *
      generalize ord r 13 = p2 at *
      have hm1 := hR.q.hm.cell p1.toNat (by omega)
      have hm2 := hR.q.hm.cell p2.toNat (by omega)
      obtain ⟨hx1, hx2⟩ := HM32.out p1.toNat
      obtain ⟨hx3, hx4⟩ := HM32.out p2.toNat
      generalize M[p1.toNat]?.getD 0 = x1 at *
      generalize M[p2.toNat]?.getD 0 = x2 at *
      have HR := Lib.hid hR
      clear hR HR6
      go_still_tail 13, (by kernel_rfl)
      change wpList _ _ _ _ _ W6.drew
      generalize W6.drew = U at *
      go_wp2_with fail
      refine (rg_any V6 gv cv 2 7 8 13 x1 x2 U (by exact HR.out.q.hv) H326.out (by decide) (by decide) (by decide) (by decide) (by decide) (by decide) (by decide) (by decide) (by decide) (by decide) (by decide) (by decide) (by decide) (by decide) hx1 hx2 hx3 hx4).mono ?_
      rintro e W7 ⟨rfl, hV⟩
      have hR2 : RI w gm gv zb r M (mixL V6 2 7 8 13 x1 x2) W7 := HR.out.mix (a := 2) (b := 7) (c := 8) (d := 13) hV HL6.out (by decide) (by decide) (by decide) (by decide) (by decide) (by decide) (by decide) (by decide) (by decide) (by decide) rfl
      rw [← hM.out] at hR2
      have HR7 := Lib.hid hR2
      clear hz1 hz2 hm1 hm2 b1 b2 b3 b4 hx1 hx2 hx3 hx4 hV hR2 HR hM
      have HL7 : Hid ((mixR M r 6 2 7 8 13 V6).length = 16) := Lib.hid ((mixR_len _ _ _ _ _ _ _ _).trans HL6.out)
      have H327 : Hid (W32 (mixR M r 6 2 7 8 13 V6)) := Lib.hid (mixR_32 H326.out _ _ _ _ _ _ _)
      generalize hV7 : mixR M r 6 2 7 8 13 V6 = V7 at *
      have HE7 := Lib.hid hV7
      clear hV7 HL6 H326
      go_wp2_with fail
      have hR := HR7.out.drew
      have hz1 := hR.zcell hlt 14 (by omega)
      have hz2 := hR.zcell hlt 15 (by omega)
      obtain ⟨b1, b2⟩ := ord_b r 14
      obtain ⟨b3, b4⟩ := ord_b r 15
      have hM : Hid (mixR M r 7 3 4 9 14 V7 = mixL V7 3 4 9 14 (M[(ord r 14).toNat]?.getD 0) (M[(ord r 15).toNat]?.getD 0)) := rfl
      generalize ord r 14 = p1 at *
      generalize ord r 15 = p2 at *
      have hm1 := hR.q.hm.cell p1.toNat (by omega)
      have hm2 := hR.q.hm.cell p2.toNat (by omega)
      obtain ⟨hx1, hx2⟩ := HM32.out p1.toNat
      obtain ⟨hx3, hx4⟩ := HM32.out p2.toNat
      generalize M[p1.toNat]?.getD 0 = x1 at *
      generalize M[p2.toNat]?.getD 0 = x2 at *
      have HR := Lib.hid hR
      clear hR HR7
      go_still_tail 13, (by kernel_rfl)
      change wpList _ _ _ _ _ W7.drew
      generalize W7.drew = U at *
      go_wp2_with fail
      refine (rg_any V7 gv cv 3 4 9 14 x1 x2 U (by exact HR.out.q.hv) H327.out (by decide) (by decide) (by decide) (by decide) (by decide) (by decide) (by decide) (by decide) (by decide) (by decide) (by decide) (by decide) (by decide) (by decide) hx1 hx2 hx3 hx4).mono ?_
      rintro e W8 ⟨rfl, hV⟩
      have hR2 : RI w gm gv zb r M (mixL V7 3 4 9 14 x1 x2) W8 := HR.out.mix (a := 3) (b := 4) (c := 9) (d := 14) hV HL7.out (by decide) (by decide) (by decide) (by decide) (by decide) (by decide) (by decide) (by decide) (by decide) (by decide) rfl
      rw [← hM.out] at hR2
      have HR8 := Lib.hid hR2
      clear hz1 hz2 hm1 hm2 b1 b2 b3 b4 hx1 hx2 hx3 hx4 hV hR2 HR hM
      have HL8 : Hid ((mixR M r 7 3 4 9 14 V7).length = 16) := Lib.hid ((mixR_len _ _ _ _ _ _ _ _).trans HL7.out)
      have H328 : Hid (W32 (mixR M r 7 3 4 9 14 V7)) := Lib.hid (mixR_32 H327.out _ _ _ _ _ _ _)
      generalize hV8 : mixR M r 7 3 4 9 14 V7 = V8 at *
      have HE8 := Lib.hid hV8
      clear hV8 HL7 H327
      go_wp2_with fail
      go_roundw
      case rel =>
       refine ⟨r + 1, by omega, by go_num, ?_⟩
       have hE : roundL M V0 r = V8 := by
        unfold roundL
        rw [HE1.out, HE2.out, HE3.out, HE4.out, HE5.out, HE6.out, HE7.out, HE8.out]
       rw [← HRd.out, hE]
       exact HR8.out.q
      case measure => simp [Go.RowKit.intOf]; omega
     ·
      obtain rfl : r = 10 := by omega
      clear hlt hr
      rw [show ((10 : Nat) : Int) = 10 from rfl]
      have HT32 : Hid (W32 (rounds M v0 10)) := Lib.hid (rounds_32 HW32.out _ _)
      generalize rounds M v0 10 = V at *
      obtain ⟨W3, hW3⟩ : ∃ W3 : World, W3 = wr := ⟨_, rfl⟩
      subst hW3
      have HrW : Hid (Row32 gh 8 h W3) := Lib.hid (Hr.out.same (HQ.out.below.block _ Hr.out.lt))
      go_wp2_with fail
      go_loopw [13, 14] (fun v i wr => ∃ k : Nat, k ≤ 8 ∧ i = .int .i64 k ∧ wr.ownsRow W3.heap.size 148 1 v k (u32L ((hOut h V 8).take k)) ∧ Below W3.heap.size W3 wr) (fun _ i _ => 8 - (Go.RowKit.intOf i).toNat)
      case atStart => exact ⟨0, by omega, rfl, World.ownsRow_nil _ _ _ _, Below.refl _ _⟩
      case round =>
       obtain ⟨k, hk, rfl, hown, hB⟩ := hrel
       have HO := Lib.hid hown
       have HB3 := Lib.hid hB
       clear hown hB
       by_cases hlt : k < 8
       ·
        have HT := Lib.hid (hOut_take h V Hl.out Hh.out HT32.out k hlt)
        have hv := HQ.out.hv.same (HB3.out.block _ HQ.out.hv.lt)
        have hh := HrW.out.same (HB3.out.block _ HrW.out.lt)
        have c1 := hh.cell k (by omega)
        have c2 := hv.cell k (by omega)
        have c3 := hv.cell (k + 8) (by omega)
        have HC1 := Lib.hid hh
        have HC2 := Lib.hid hv
        clear hh hv
        have z1 : (0 : Int) ≤ (k : Int) + 8 := by omega
        have z2 : (k : Int) + 8 < 16 := by omega
        have z3 : ((k : Int) + 8).toNat = k + 8 := by omega
        have z4 : IntKind.i64.wrap ((k : Int) + 8) = (k : Int) + 8 := IntWalk.i64_in _ (by omega)
        have SA : ∀ o : Obj, (wr.drew.alloc o).cell? ⟨gh, k, none⟩ = some (.int .u32 (h[k]?.getD 0)) ∧ (wr.drew.alloc o).cell? ⟨gv, k, none⟩ = some (.int .u32 (V[k]?.getD 0)) ∧ (wr.drew.alloc o).cell? ⟨gv, k + 8, none⟩ = some (.int .u32 (V[k + 8]?.getD 0)) := fun o => by
         have hb : Below wr.heap.size wr (wr.drew.alloc o) := (Below.refl wr.heap.size wr).drew.alloc (Nat.le_refl _) _
         exact ⟨(HC1.out.same (hb.block _ HC1.out.lt)).cell k (by omega), (HC2.out.same (hb.block _ HC2.out.lt)).cell k (by omega), (HC2.out.same (hb.block _ HC2.out.lt)).cell (k + 8) (by omega)⟩
        have SG : ∀ (o : Obj) (w1 : World), (wr.drew.alloc o).grownBy w1 u13.ownBlock → w1.cell? ⟨gh, k, none⟩ = some (.int .u32 (h[k]?.getD 0)) ∧ w1.cell? ⟨gv, k, none⟩ = some (.int .u32 (V[k]?.getD 0)) ∧ w1.cell? ⟨gv, k + 8, none⟩ = some (.int .u32 (V[k + 8]?.getD 0)) := fun o w1 hg => by
         have hb : Below W3.heap.size wr w1 := ((Below.refl W3.heap.size wr).drew.alloc HB3.out.size _).grown hg (by have := HB3.out.size; simpa using Nat.le_succ_of_le this) (fun q e => HO.out.block_ge e)
         have l1 := HrW.out.lt
         have l2 := HQ.out.hv.lt
         exact ⟨(HC1.out.same (hb.block _ l1)).cell k (by omega), (HC2.out.same (hb.block _ l2)).cell k (by omega), (HC2.out.same (hb.block _ l2)).cell (k + 8) (by omega)⟩
        have HSA := Lib.hid SA
        have HSG := Lib.hid SG
        have HO' := Lib.hid HO.out.drew
        have HB' := Lib.hid HB3.out.drew
        clear SA SG
        go_wp2_with fail
        go_region_held_law (fun w' => w'.cell? ⟨gh, k, none⟩ = some (.int .u32 (h[k]?.getD 0)) ∧ w'.cell? ⟨gv, k, none⟩ = some (.int .u32 (V[k]?.getD 0)) ∧ w'.cell? ⟨gv, k + 8, none⟩ = some (.int .u32 (V[k + 8]?.getD 0))) (first | exact ⟨c1, c2, c3⟩ | exact HSA.out _ | exact HSG.out _ _ hgr1) (first | (refine step_append_own rfl _ _ 167 rfl W3.heap.size 148 i0 (.int .u32 0) 1 4 undUs hi hz0 hz1 hz2 rfl (by decide) _ _ _ rfl (HO'.out.alloc _) ⟨wr.heap.size, 0, none⟩ 1 1 _ rfl (by rfl) (cells_new _ _ _) (by simp [Value.oneCell']) (by unfold maxLen; omega) (by omega) (by have := HB'.out.size; simpa using Nat.le_succ_of_le this) ?_; intro v' w1 hown1 hgr1 _) | fail)
        all_goals
         have HO1 : Hid (w1.ownsRow W3.heap.size 148 1 v' (k + 1) (u32L ((hOut h V 8).take (k + 1)))) := by
          refine Lib.hid ?_
          rw [HT.out]
          unfold u32L at hown1 ⊢
          rw [List.map_append]
          exact hown1
         have HB1 : Hid (Below W3.heap.size W3 w1) := Lib.hid ((HB'.out.alloc HB'.out.size _).grown hgr1 (by have := HB'.out.size; simpa using Nat.le_succ_of_le this) (fun q e => HO'.out.block_ge e))
         clear hown1 hgr1 c1 c2 c3 z1 z2 z3 z4
         go_wp2_with fail
         go_roundw
         case rel => exact ⟨k + 1, by omega, by go_num, HO1.out, HB1.out⟩
         case measure => simp [Go.RowKit.intOf]; omega
       ·
        obtain rfl : k = 8 := by omega
        clear hlt hk
        rw [show ((8 : Nat) : Int) = 8 from rfl]
        have hO := HO.out
        rw [List.take_of_length_le (by rw [hOut_len, Hl.out]; exact Nat.le_refl _)] at hO
        obtain ⟨go, co, rfl, hgo, hrow⟩ := Row32.of_owns (by decide) ((hOut_len h V 8).trans Hl.out) hO
        have HF : Hid (Row32 go 8 (compL h M (E : Int) last) wr) := Lib.hid (by rw [HVE.out]; exact hrow)
        have hsz := HQ.out.below.size
        have HG : Hid (w.heap.size ≤ go) := Lib.hid (by omega)
        have HBB := Lib.hid (HQ.out.below.trans (HB3.out.mono HQ.out.below.size))
        clear hO hgo hrow hsz
        go_wp2_with fail
        go_ret
        exact HP.out _ _ ⟨go, co, rfl, HF.out, HG.out, HBB.out⟩
end Go.Proofs.YtjbjpkhibcnenaaGreatDoor

