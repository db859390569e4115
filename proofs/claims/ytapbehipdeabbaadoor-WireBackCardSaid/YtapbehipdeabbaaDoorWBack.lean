/- bournelaw02.WireBack returns true for all values and what follows. -/
import Derived.Test.YtapbehipdeabbaaDoorWAll
import Derived.Test.YtapbehipdeabbaaDoorWSame
import Derived.Deep.DeepCutAuto
import Derived.Deep.CutBlock
namespace Go.Proofs.YtapbehipdeabbaaDoor
open Go.RowKit
theorem RdAt.lt' {g : Nat} {st : RSt} {w : World} (h : RdAt g st w) : g < w.heap.size := by
  obtain ⟨_, _, hb, _⟩ := h
  exact blk_lt hb
theorem toList_arr (s : ByteArray) : (⟨s.data.toList.toArray⟩ : ByteArray) = s := by cases s; simp
theorem encT_toList : (encT ∘ fun s : ByteArray => s.data.toList) = Value.string := by
  funext s
  show Value.string ⟨s.data.toList.toArray⟩ = _
  rw [toList_arr]
theorem grown_drawn' (w : World) (n : Nat) (row : Option Nat) : w.grownBy (w.drewN n) row := ⟨rfl, rfl, rfl, Nat.le_refl _, fun _ _ _ => rfl⟩
theorem drop_all (xs : List VV) (k : Nat) (x : VV) (h : xs[k]? = some x) : allL (xs.drop k) = encV x ++ allL (xs.drop (k + 1)) := by
  have hl := (List.getElem?_eq_some_iff.1 h).1
  rw [List.getElem?_eq_getElem hl] at h
  rw [List.drop_eq_getElem_cons hl, Option.some.inj h]
  rfl
set_option maxRecDepth 100000 in
set_option maxHeartbeats 4000000 in
theorem back_core (v : Value) (xs : List VV) (rest : ByteArray) (w : World) (h : VArg v xs w) (hl : (xs.length : Int) ≤ maxLen) (hs : rest.size ≤ maxLen) (hm : MLen w) :
    Calls Tryd.prog 6 #[v, .string rest] w fun e w' => e = .returned (.bool true) ∧ Below w.heap.size w w' := by
  obtain ⟨fs, hu, _⟩ := structV
  have HV := Lib.hid h
  have HM := Lib.hid hm
  have HLn := Lib.hid hl
  have hv : ∃ a c, v = .slice a xs.length c := by obtain ⟨a, c, hv, _⟩ := h; exact ⟨a, c, hv⟩
  obtain ⟨a, c, rfl⟩ := hv
  clear h hm
  unfold maxLen at hl hs
  go_enter Tryd.func6, Tryd.ntmps6
  go_wp2_with fail
  refine (small_any _ HM.out).mono ?_
  rintro e w1 ⟨rfl, hb⟩
  have HB1 := Lib.hid hb
  have HV1 := Lib.hid (HV.out.below hb)
  clear hb
  go_wp2_with fail
  refine (light_any _ xs _ HV1.out HLn.out).mono ?_
  rintro e w1' ⟨b, rfl, hlt, rfl⟩
  cases b with
  | false =>
    go_wp2_with fail
    go_ret
    exact ⟨rfl, HB1.out⟩
  | true =>
    have HL := Lib.hid (hlt rfl)
    clear hlt
    by_cases h500 : 500 < rest.size
    · have t1 : decide (500 < (rest.size : Int)) = true := by simp; omega
      go_wp2_with fail
      go_ret
      exact ⟨rfl, HB1.out⟩
    · have hOk : ∀ x ∈ xs, VOk x := fun x hx => by
        obtain ⟨a, c, _, h⟩ := HV.out
        obtain ⟨k, hk⟩ := List.mem_iff_getElem?.1 hx
        obtain ⟨_, _, _, _, _, ho⟩ := h k x hk
        exact ho
      have hal : (allL xs).length ≤ 1004000 := by
        have h1 := allL_len HL.out.2 hOk
        have h2 : xs.length * 50200 ≤ 20 * 50200 := Nat.mul_le_mul_right _ HL.out.1
        omega
      have hlen20 := HL.out.1
      clear hOk
      go_wp2_with fail
      refine (all_any _ xs _ HV1.out HL.out (HM.out.up HB1.out)).mono ?_
      rintro e w2 ⟨rfl, hb⟩
      have HB2 := Lib.hid (HB1.out.trans (hb.mono HB1.out.size))
      have hsz := HB2.out.size
      have hA : (⟨(allL xs).toArray⟩ : ByteArray).size ≤ 1004000 := hal
      have HAl : Hid ((⟨(allL xs).toArray⟩ ++ rest : ByteArray).data.toList = allL xs ++ rest.data.toList) := Lib.hid (by rw [toList_append])
      have hAs : (⟨(allL xs).toArray⟩ ++ rest : ByteArray).size ≤ 2000000 := by rw [ByteArray.size_append]; omega
      clear hb
      go_wp2_with fail
      refine (open_any _ _ hAs).mono ?_
      rintro e w3 ⟨rfl, hr3, hb⟩
      rw [HAl.out] at hr3
      obtain ⟨g, hg⟩ : ∃ g, g = w2.heap.size := ⟨_, rfl⟩
      have HB3 := Lib.hid (HB2.out.trans (hb.mono HB2.out.size))
      rw [← hg] at hr3 hsz ⊢
      have HR3 := Lib.hid hr3
      clear hr3 hb hg hA hAs HAl
      go_wp2_with fail
      go_loopg [8] xs.length (fun m s8 wr => ∃ k : Nat, k ≤ xs.length ∧ xs.length - k ≤ m ∧ s8 = .int .i64 k ∧ RdAt g (some (allL (xs.drop k) ++ rest.data.toList)) wr ∧ Below w.heap.size w wr)
      case atStart => exact ⟨0, by omega, by omega, rfl, HR3.out, HB3.out⟩
      case round =>
        obtain ⟨k, hk, hkm, rfl, hrd, hB⟩ := hrel
        clear HR3 HB3 HB2 HB1 HV1
        have HR := Lib.hid hrd
        have HBw := Lib.hid hB
        clear hrd hB
        by_cases hlt : k < xs.length
        · have H1 : Hid (xs[k]? = some xs[k]) := Lib.hid (List.getElem?_eq_getElem hlt)
          have hLx := HL.out.2 _ (List.mem_of_getElem? H1.out)
          obtain ⟨a2, c2, he, hel⟩ := HV.out
          obtain ⟨b, o, ha, hb, hat, hok⟩ := hel k _ H1.out
          simp only [Value.slice.injEq] at he
          obtain ⟨rfl, _, rfl⟩ := he
          subst ha
          obtain ⟨vl, vt, hrg0, c5, c6⟩ := hat.range
          have hrg := rangeAt_below hrg0 HBw.out hb
          clear hrg0
          obtain ⟨al, cl, rfl⟩ : ∃ al cl, vl = .slice al xs[k].l.length cl := by obtain ⟨p, q, h, _⟩ := c5; exact ⟨p, q, h⟩
          obtain ⟨at_, ct, rfl⟩ : ∃ at_ ct, vt = .slice at_ xs[k].t.length ct := by obtain ⟨p, q, h, _⟩ := c6; exact ⟨p, q, h⟩
          have HC5 := Lib.hid c5
          have HC6 := Lib.hid c6
          have HOx := Lib.hid hok
          have HLx := Lib.hid hLx
          have HRg := Lib.hid hrg
          have HD := Lib.hid (drop_all xs k _ H1.out)
          clear hel hat hok hLx hrg c5 c6
          generalize xs[k] = x at *
          obtain ⟨r, hr⟩ : ∃ r, r = k4 x := ⟨_, rfl⟩
          have hk2 : bits BinOp.and IntKind.i64 x.kind 3 = r := by rw [i64_and3, hr]; rfl
          have HRr := Lib.hid hr
          clear hr
          go_upto_block 2 with (refine wpList_load_mid rfl 28 _ rfl b (o + k * 5) rfl [.int .i64 x.kind, .int .i64 x.n, .string x.s, .slice al x.l.length cl, .slice at_ x.t.length ct] _ HRg.out hu rfl sizeV ?_)
          obtain ⟨W2, hW2⟩ : ∃ W2, W2 = wr.alloc (.cells #[.int .i64 x.kind, .int .i64 x.n, .string x.s, .slice al x.l.length cl, .slice at_ x.t.length ct] 28) := ⟨_, rfl⟩
          rw [← hW2]
          have hBa : Below w.heap.size w W2 := by rw [hW2]; exact HBw.out.alloc HBw.out.size _
          have HB2 := Lib.hid hBa
          have HR2 : Hid (RdAt g (some (encV x ++ (allL (xs.drop (k + 1)) ++ rest.data.toList))) W2.drew) := Lib.hid (by
            have := HR.out
            rw [HD.out, List.append_assoc] at this
            have h2 : RdAt g (some (encV x ++ (allL (xs.drop (k + 1)) ++ rest.data.toList))) W2 := by rw [hW2]; exact this.below ((Below.refl _ _).alloc (Nat.le_refl _) _) this.lt'
            exact h2)
          have D1 : Hid (W2.cell? ⟨wr.heap.size, 1, none⟩ = some (.int .i64 x.n)) := Lib.hid (by rw [hW2, cell_of_row _ _ _ _ _ _ (heap_alloc_new _ _)]; rfl)
          have D2 : Hid (W2.cell? ⟨wr.heap.size, 2, none⟩ = some (.string x.s)) := Lib.hid (by rw [hW2, cell_of_row _ _ _ _ _ _ (heap_alloc_new _ _)]; rfl)
          have D3 : Hid (W2.cell? ⟨wr.heap.size, 3, none⟩ = some (.slice al x.l.length cl)) := Lib.hid (by rw [hW2, cell_of_row _ _ _ _ _ _ (heap_alloc_new _ _)]; rfl)
          have D4 : Hid (W2.cell? ⟨wr.heap.size, 4, none⟩ = some (.slice at_ x.t.length ct)) := Lib.hid (by rw [hW2, cell_of_row _ _ _ _ _ _ (heap_alloc_new _ _)]; rfl)
          have hglt := HR.out.lt'
          have hW2s : wr.heap.size < W2.heap.size := by rw [hW2]; simp
          clear hW2 hBa
          go_cut [10] (fun sv wx => sv = .bool true ∧ RdAt g (some (allL (xs.drop (k + 1)) ++ rest.data.toList)) wx ∧ Below w.heap.size w wx)
          case first =>
            by_cases h0 : r = 0
            · have t0 : (r == 0) = true := beq_iff_eq.2 h0
              have HE : Hid (encV x = intL x.n) := Lib.hid (by unfold encV; rw [← HRr.out]; rw [if_pos h0])
              have hcon : Calls Tryd.prog 28 #[.pointer (some ⟨g, 0, none⟩)] W2.drew fun e w' => e = .returned (.int .i64 x.n) ∧ RdAt g (some (allL (xs.drop (k + 1)) ++ rest.data.toList)) w' ∧ W2.drew.grownBy w' (some g) := by
                have := rdInt_any g _ _ HR2.out
                rw [HE.out, opInt_enc HOx.out.2.1] at this
                
                exact this
              have HCon := Lib.hid hcon
              clear hcon

              have HS : Hid (∀ w', W2.drew.grownBy w' (some g) → w'.cell? ⟨wr.heap.size, 1, none⟩ = some (.int .i64 x.n)) := Lib.hid (fun w' hgr => hgr.cell (a := ⟨wr.heap.size, 1, none⟩) D1.out (by simp; omega))

              clear h0
              go_wp2_with fail
              go_region_held3 (fun w' => w'.cell? ⟨wr.heap.size, 1, none⟩ = some (.int .i64 x.n)) (first | exact HS.out _ (grown_refl _ _) | exact HS.out _ hg) ((go_at_call 28; refine (HCon.out).mono ?_; rintro e w' ⟨rfl, hr, hg⟩))
              go_wp2_with fail
              go_meet
              exact ⟨rfl, by assumption, HB2.out.drew.grown (row := some g) (by assumption) HB2.out.size (fun k e => by cases e; exact hsz)⟩
            · have t0 : (r == 0) = false := beq_eq_false_iff_ne.2 h0
              by_cases h1 : r = 1
              · have t1 : (r == 1) = true := beq_iff_eq.2 h1
                have HE : Hid (encV x = textC x.s) := Lib.hid (by unfold encV; rw [← HRr.out]; rw [if_neg h0, if_pos h1])
                have hcon : Calls Tryd.prog 30 #[.pointer (some ⟨g, 0, none⟩)] W2.drew fun e w' => e = .returned (.string x.s) ∧ RdAt g (some (allL (xs.drop (k + 1)) ++ rest.data.toList)) w' ∧ W2.drew.grownBy w' (some g) := by
                  have := rdText_any g _ _ HR2.out
                  rw [HE.out, show textC x.s = textL x.s.data.toList from rfl, opText_enc] at this
                  simp only [toList_arr] at this
                  exact this
                have HCon := Lib.hid hcon
                clear hcon

                have HS : Hid (∀ w', W2.drew.grownBy w' (some g) → w'.cell? ⟨wr.heap.size, 2, none⟩ = some (.string x.s)) := Lib.hid (fun w' hgr => hgr.cell (a := ⟨wr.heap.size, 2, none⟩) D2.out (by simp; omega))

                clear h0 h1
                go_wp2_with fail
                go_region_held3 (fun w' => w'.cell? ⟨wr.heap.size, 2, none⟩ = some (.string x.s)) (first | exact HS.out _ (grown_refl _ _) | exact HS.out _ hg) ((go_at_call 30; refine (HCon.out).mono ?_; rintro e w' ⟨rfl, hr, hg⟩))
                go_wp2_with fail
                go_meet
                exact ⟨rfl, by assumption, HB2.out.drew.grown (row := some g) (by assumption) HB2.out.size (fun k e => by cases e; exact hsz)⟩
              · have t1 : (r == 1) = false := beq_eq_false_iff_ne.2 h1
                by_cases h2 : r = 2
                · have t2 : (r == 2) = true := beq_iff_eq.2 h2
                  have HE : Hid (encV x = joinL intL x.l) := Lib.hid (by unfold encV; rw [← HRr.out]; rw [if_neg h0, if_neg h1, if_pos h2])
                  have hcon : Calls Tryd.prog 33 #[.pointer (some ⟨g, 0, none⟩)] W2.drew fun e w' => ∃ v, e = .returned v ∧ w'.ownsRow W2.drew.heap.size 3 1 v x.l.length (x.l.map (Value.int .i64)) ∧ RdAt g (some (allL (xs.drop (k + 1)) ++ rest.data.toList)) w' ∧ W2.drew.grownBy w' (some g) := by
                    have := rdNums_any g _ _ HR2.out
                    rw [HE.out, opNums_enc HOx.out.2.2.2.2.1] at this
                    
                    exact this
                  have HCon := Lib.hid hcon
                  have HLn : Hid (x.l.length ≤ 2000010) := Lib.hid (by have := HLx.out.2.1; omega)
                  clear hcon

                  have HS : Hid (∀ w', W2.drew.grownBy w' (some g) → w'.cell? ⟨wr.heap.size, 3, none⟩ = some (.slice al x.l.length cl)) := Lib.hid (fun w' hgr => hgr.cell (a := ⟨wr.heap.size, 3, none⟩) D3.out (by simp; omega))

                  clear h0 h1 h2
                  go_wp2_with fail
                  go_region_held3 (fun w' => w'.cell? ⟨wr.heap.size, 3, none⟩ = some (.slice al x.l.length cl)) (first | exact HS.out _ (grown_refl _ _) | exact HS.out _ hg | exact HS.out _ (grown_trans hg (grown_drawn' _ _ _))) ((first | (go_at_call 33; refine (HCon.out).mono ?_; rintro e w' ⟨v3, rfl, hown, hr, hg⟩) | (go_at_call 32; refine (sameNums_any _ _ x.l x.l _ (CArg.of_owns rfl hown) (HC5.out.below (HB2.out.drew.grown hg HB2.out.size (fun k e => by cases e; exact hsz)) (Nat.le_refl _)) HLn.out HLn.out).mono ?_; rintro e w'' ⟨rfl, nd, rfl⟩)))
                  go_wp2_with fail
                  go_meet
                  exact ⟨by simp, RdAt.grown (by assumption) (grown_drawn' _ _ none) (by simp), below_drewN (HB2.out.drew.grown (row := some g) (by assumption) HB2.out.size (fun k e => by cases e; exact hsz))⟩
                · have t2 : (r == 2) = false := beq_eq_false_iff_ne.2 h2
                  have HE : Hid (encV x = joinL textL (x.t.map (·.data.toList))) := Lib.hid (by unfold encV; rw [← HRr.out]; rw [if_neg h0, if_neg h1, if_neg h2, joinC])
                  have hcon : Calls Tryd.prog 36 #[.pointer (some ⟨g, 0, none⟩)] W2.drew fun e w' => ∃ v, e = .returned v ∧ w'.ownsRow W2.drew.heap.size 9 1 v x.t.length (x.t.map Value.string) ∧ RdAt g (some (allL (xs.drop (k + 1)) ++ rest.data.toList)) w' ∧ W2.drew.grownBy w' (some g) := by
                    have := rdTexts_any g _ _ HR2.out
                    rw [HE.out, opTexts_enc] at this
                    simp only [List.length_map, List.map_map, encT_toList] at this
                    exact this
                  have HCon := Lib.hid hcon
                  have HLn : Hid (x.t.length ≤ 2000010) := Lib.hid (by have := HLx.out.2.2.1; omega)
                  clear hcon

                  have HS : Hid (∀ w', W2.drew.grownBy w' (some g) → w'.cell? ⟨wr.heap.size, 4, none⟩ = some (.slice at_ x.t.length ct)) := Lib.hid (fun w' hgr => hgr.cell (a := ⟨wr.heap.size, 4, none⟩) D4.out (by simp; omega))

                  clear h0 h1 h2
                  go_wp2_with fail
                  go_region_held3 (fun w' => w'.cell? ⟨wr.heap.size, 4, none⟩ = some (.slice at_ x.t.length ct)) (first | exact HS.out _ (grown_refl _ _) | exact HS.out _ hg | exact HS.out _ (grown_trans hg (grown_drawn' _ _ _))) ((first | (go_at_call 36; refine (HCon.out).mono ?_; rintro e w' ⟨v3, rfl, hown, hr, hg⟩) | (go_at_call 35; refine (sameTexts_any _ _ x.t x.t _ (CArg.of_owns rfl hown) (HC6.out.below (HB2.out.drew.grown hg HB2.out.size (fun k e => by cases e; exact hsz)) (Nat.le_refl _)) HLn.out HLn.out).mono ?_; rintro e w'' ⟨rfl, nd, rfl⟩)))
                  go_wp2_with fail
                  go_meet
                  exact ⟨by simp, RdAt.grown (by assumption) (grown_drawn' _ _ none) (by simp), below_drewN (HB2.out.drew.grown (row := some g) (by assumption) HB2.out.size (fun k e => by cases e; exact hsz))⟩
          case rest =>
            obtain ⟨rfl, hrd, hB⟩ := hcut
            have HR4 := Lib.hid hrd
            have HB4 := Lib.hid hB
            clear hrd hB
            go_wp2_with fail
            go_roundg (xs.length - (k + 1))
            case measure => omega
            case rel => exact ⟨k + 1, by omega, Nat.le_refl _, by go_num, HR4.out, HB4.out⟩
        · obtain rfl : k = xs.length := by omega
          have HR4 : Hid (RdAt g (some rest.data.toList) wr) := Lib.hid (by
            have := HR.out
            rw [List.drop_eq_nil_of_le (Nat.le_refl _)] at this
            exact this)
          have HLe : Hid (leftOf (some rest.data.toList) = rest.size) := Lib.hid (by simp [leftOf])
          have HDe : Hid (doneOf (some rest.data.toList) = (rest.toList == [])) := Lib.hid (by rw [ByteArray.toList_eq]; rfl)
          clear hlt hk HR
          go_wp2_with fail
          refine (rdLeft_any g _ _ HR4.out).mono ?_
          rintro e w' ⟨rfl, rfl⟩
          rw [HLe.out]
          go_wp2_with fail
          refine (rdDone_any g _ _ HR4.out).mono ?_
          rintro e w' ⟨rfl, rfl⟩
          rw [HDe.out]
          go_wp2_with fail
          go_ret
          exact ⟨by simp, HBw.out⟩
end Go.Proofs.YtapbehipdeabbaaDoor
