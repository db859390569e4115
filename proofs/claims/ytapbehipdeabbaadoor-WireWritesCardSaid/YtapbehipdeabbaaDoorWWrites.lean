/- bournelaw02.WireWrites returns true for all values. -/
import Derived.Test.YtapbehipdeabbaaDoorWRefN
import Derived.Deep.RegionHeld3
namespace Go.Proofs.YtapbehipdeabbaaDoor
open Go.RowKit
theorem sw_step {w cur w' : World} {nb : Nat} {a b c d : Value} (h : cur.cell? ⟨nb, 1, none⟩ = some a ∧ cur.cell? ⟨nb, 2, none⟩ = some b ∧ cur.cell? ⟨nb, 3, none⟩ = some c ∧ cur.cell? ⟨nb, 4, none⟩ = some d ∧ nb < cur.heap.size ∧ Below w.heap.size w cur)
    (hb : Below cur.heap.size cur w') : w'.cell? ⟨nb, 1, none⟩ = some a ∧ w'.cell? ⟨nb, 2, none⟩ = some b ∧ w'.cell? ⟨nb, 3, none⟩ = some c ∧ w'.cell? ⟨nb, 4, none⟩ = some d ∧ nb < w'.heap.size ∧ Below w.heap.size w w' := by
  obtain ⟨h1, h2, h3, h4, h5, h6⟩ := h
  exact ⟨(hb.cell (p := ⟨nb, 1, none⟩) h5).trans h1, (hb.cell (p := ⟨nb, 2, none⟩) h5).trans h2, (hb.cell (p := ⟨nb, 3, none⟩) h5).trans h3, (hb.cell (p := ⟨nb, 4, none⟩) h5).trans h4, Nat.lt_of_lt_of_le h5 hb.size, h6.trans (hb.mono h6.size)⟩
set_option maxRecDepth 100000 in
set_option maxHeartbeats 8000000 in
theorem writes_core (v : Value) (xs : List VV) (n : Int) (w : World) (h : VArg v xs w) (hl : (xs.length : Int) ≤ maxLen) (hn : I64 n) (hm : MLen w) :
    Calls Tryd.prog 3 #[v, .int .i64 n] w fun e w' => e = .returned (.bool true) ∧ Below w.heap.size w w' := by
  obtain ⟨fs, hu, _⟩ := structV
  have HV := Lib.hid h
  have HM := Lib.hid hm
  have HLn := Lib.hid hl
  have HN := Lib.hid hn
  have hv : ∃ a c, v = .slice a xs.length c := by obtain ⟨a, c, hv, _⟩ := h; exact ⟨a, c, hv⟩
  obtain ⟨a, c, rfl⟩ := hv
  clear h hm hn
  unfold maxLen at hl
  go_enter Tryd.func3, Tryd.ntmps3
  go_wp2_with fail
  refine (small_any _ HM.out).mono ?_
  rintro e w1 ⟨rfl, hb⟩
  have HB1 := Lib.hid hb
  have HV1 := Lib.hid (HV.out.below hb)
  clear hb
  go_wp2_with fail
  refine (light_any _ xs _ HV1.out HLn.out).mono ?_
  rintro e w1' ⟨b, rfl, hlt, rfl⟩
  cases b with
  | false =>
    go_wp2_with fail
    go_ret
    exact ⟨rfl, HB1.out⟩
  | true =>
    have HL := Lib.hid (hlt rfl)
    clear hlt
    go_wp2_with fail
    go_loopw [7] (fun iv wr => ∃ k : Nat, k ≤ xs.length ∧ iv = .int .i64 k ∧ Below w.heap.size w wr) (fun iv _ => xs.length - (intOf iv).toNat)
    case atStart => exact ⟨0, by omega, rfl, HB1.out⟩
    case round =>
      obtain ⟨k, hk, rfl, hB⟩ := hrel
      clear HB1 HV1
      have HBw := Lib.hid hB
      clear hB
      by_cases hlt : k < xs.length
      · have H1 : Hid (xs[k]? = some xs[k]) := Lib.hid (List.getElem?_eq_getElem hlt)
        have hLx := HL.out.2 _ (List.mem_of_getElem? H1.out)
        obtain ⟨a2, c2, he, hel⟩ := HV.out
        obtain ⟨b, o, ha, hb, hat, hok⟩ := hel k _ H1.out
        simp only [Value.slice.injEq] at he
        obtain ⟨rfl, _, rfl⟩ := he
        subst ha
        obtain ⟨vl, vt, hrg0, c5, c6⟩ := hat.range
        have hrg := rangeAt_below hrg0 HBw.out hb
        obtain ⟨al, cl, rfl⟩ : ∃ al cl, vl = .slice al xs[k].l.length cl := by obtain ⟨p, q, h, _⟩ := c5; exact ⟨p, q, h⟩
        obtain ⟨at_, ct, rfl⟩ : ∃ at_ ct, vt = .slice at_ xs[k].t.length ct := by obtain ⟨p, q, h, _⟩ := c6; exact ⟨p, q, h⟩
        have HC5 := Lib.hid c5
        have HC6 := Lib.hid c6
        have HOx := Lib.hid hok
        have HLx := Lib.hid hLx
        have HRg := Lib.hid hrg
        clear hel hat hok hLx hrg hrg0 c5 c6
        generalize xs[k] = x at *
        go_upto_region 9 with (refine wpList_load_mid rfl 28 _ rfl b (o + k * 5) rfl [.int .i64 x.kind, .int .i64 x.n, .string x.s, .slice al x.l.length cl, .slice at_ x.t.length ct] _ HRg.out hu rfl sizeV ?_)
        obtain ⟨W2, hW2⟩ : ∃ W2, W2 = wr.alloc (.cells #[.int .i64 x.kind, .int .i64 x.n, .string x.s, .slice al x.l.length cl, .slice at_ x.t.length ct] 28) := ⟨_, rfl⟩
        rw [← hW2]
        have hBa : Below w.heap.size w W2 := by rw [hW2]; exact HBw.out.alloc HBw.out.size _
        have HB2 := Lib.hid hBa
        have HS0 : Hid (W2.drew.cell? ⟨wr.heap.size, 1, none⟩ = some (.int .i64 x.n) ∧ W2.drew.cell? ⟨wr.heap.size, 2, none⟩ = some (.string x.s) ∧ W2.drew.cell? ⟨wr.heap.size, 3, none⟩ = some (.slice al x.l.length cl) ∧ W2.drew.cell? ⟨wr.heap.size, 4, none⟩ = some (.slice at_ x.t.length ct) ∧ wr.heap.size < W2.drew.heap.size ∧ Below w.heap.size w W2.drew) := Lib.hid (by
          refine ⟨?_, ?_, ?_, ?_, ?_, hBa.drew⟩
          · show W2.cell? _ = _
            rw [hW2, cell_of_row _ _ _ _ _ _ (heap_alloc_new _ _)]; rfl
          · show W2.cell? _ = _
            rw [hW2, cell_of_row _ _ _ _ _ _ (heap_alloc_new _ _)]; rfl
          · show W2.cell? _ = _
            rw [hW2, cell_of_row _ _ _ _ _ _ (heap_alloc_new _ _)]; rfl
          · show W2.cell? _ = _
            rw [hW2, cell_of_row _ _ _ _ _ _ (heap_alloc_new _ _)]; rfl
          · show wr.heap.size < W2.heap.size
            rw [hW2]; simp)
        clear hW2 hBa
        have hs5 := HLx.out.1
        have hl5 := HLx.out.2.1
        have ht5 := HLx.out.2.2.1
        have HT5 : Hid (∀ y ∈ x.t, y.size ≤ 100000) := Lib.hid (fun y hy => by have := HLx.out.2.2.2 y hy; omega)
        go_region_held3 (fun w' => w'.cell? ⟨wr.heap.size, 1, none⟩ = some (.int .i64 x.n) ∧ w'.cell? ⟨wr.heap.size, 2, none⟩ = some (.string x.s) ∧ w'.cell? ⟨wr.heap.size, 3, none⟩ = some (.slice al x.l.length cl) ∧ w'.cell? ⟨wr.heap.size, 4, none⟩ = some (.slice at_ x.t.length ct) ∧ wr.heap.size < w'.heap.size ∧ Below w.heap.size w w') (first | exact HS0.out | exact sw_step (by assumption) hb) ((first | (go_at_call 10; refine (int_any x.n _ HOx.out.2.1).mono ?_; rintro e w' ⟨rfl, hb⟩) | (go_at_call 11; refine (rint_any x.n _ HOx.out.2.1).mono ?_; rintro e w' ⟨rfl, hb⟩) | (go_at_call 12; refine (num_any x.n _ HOx.out.2.1).mono ?_; rintro e w' ⟨rfl, hb⟩) | (go_at_call 13; refine (rnum_any x.n _ HOx.out.2.1).mono ?_; rintro e w' ⟨rfl, hb⟩) | (go_at_call 14; refine (text_any x.s _ (by omega) (HM.out.up (show _ ∧ _ ∧ _ ∧ _ ∧ _ ∧ Below w.heap.size w _ by assumption).2.2.2.2.2)).mono ?_; rintro e w' ⟨rfl, hb⟩) | (go_at_call 15; refine (rtext_any x.s _ (by omega)).mono ?_; rintro e w' ⟨rfl, hb⟩) | (go_at_call 16; refine (nums_any _ x.l _ (HC5.out.below (show _ ∧ _ ∧ _ ∧ _ ∧ _ ∧ Below w.heap.size w _ by assumption).2.2.2.2.2 (Nat.le_refl _)) (by omega) HOx.out.2.2.2.2.1).mono ?_; rintro e w' ⟨rfl, hb⟩) | (go_at_call 17; refine (rNums_any _ x.l _ (HC5.out.below (show _ ∧ _ ∧ _ ∧ _ ∧ _ ∧ Below w.heap.size w _ by assumption).2.2.2.2.2 (Nat.le_refl _)) (by omega) HOx.out.2.2.2.2.1).mono ?_; rintro e w' ⟨rfl, hb⟩) | (go_at_call 18; refine (texts_any _ x.t _ (HC6.out.below (show _ ∧ _ ∧ _ ∧ _ ∧ _ ∧ Below w.heap.size w _ by assumption).2.2.2.2.2 (Nat.le_refl _)) (by omega) HT5.out (HM.out.up (show _ ∧ _ ∧ _ ∧ _ ∧ _ ∧ Below w.heap.size w _ by assumption).2.2.2.2.2)).mono ?_; rintro e w' ⟨rfl, hb⟩) | (go_at_call 19; refine (rTexts_any _ x.t _ (HC6.out.below (show _ ∧ _ ∧ _ ∧ _ ∧ _ ∧ Below w.heap.size w _ by assumption).2.2.2.2.2 (Nat.le_refl _)) (by omega) HT5.out).mono ?_; rintro e w' ⟨rfl, hb⟩)))
        have HBf : Hid (Below w.heap.size w _) := Lib.hid (show _ ∧ _ ∧ _ ∧ _ ∧ _ ∧ Below w.heap.size w _ by assumption).2.2.2.2.2
        go_wp2_with fail
        go_roundw
        case rel => exact ⟨k + 1, by omega, by go_num, HBf.out⟩
        case measure => simp [intOf]; omega
      · obtain rfl : k = xs.length := by omega
        clear hlt hk
        go_wp2_with fail
        refine (int_any n _ HN.out).mono ?_
        rintro e w3 ⟨rfl, hb⟩
        have HB3 := Lib.hid (HBw.out.trans (hb.mono HBw.out.size))
        clear hb
        go_wp2_with fail
        refine (rint_any n _ HN.out).mono ?_
        rintro e w4 ⟨rfl, hb⟩
        have HB4 := Lib.hid (HB3.out.trans (hb.mono HB3.out.size))
        clear hb
        go_wp2_with fail
        go_ret
        exact ⟨by simp, HB4.out⟩
theorem i64_wf {n : Int} (h : (Lit.int .i64 n).wf = true) : I64 n := by
  simp [Lit.wf, IntKind.min, IntKind.max, IntKind.signed, IntKind.bits] at h
  exact h
end Go.Proofs.YtapbehipdeabbaaDoor
