/- bournetop.TopAccounts returns true. -/
import Derived.Test.YtokbandookjdjaaGreatZLaw
import Derived.Test.YtokbandookjdjaaGreatEvZ
namespace Go.Proofs.YtokbandookjdjaaGreat
open Go.Shelf Go.RowKit Go.Lib
theorem take_bd {l : List EntryV} {k : Nat} {x : EntryV} (h : l[k]? = some x) (hb : ∀ y ∈ l.take k, -1099511627776 ≤ y.litres ∧ y.litres ≤ 1099511627776) (hx : -1099511627776 ≤ x.litres ∧ x.litres ≤ 1099511627776) : ∀ y ∈ l.take (k + 1), -1099511627776 ≤ y.litres ∧ y.litres ≤ 1099511627776 := fun y hy => by
  rw [List.take_add_one, h] at hy
  rcases List.mem_append.1 hy with h1 | h1
  · exact hb y h1
  · have : y = x := by simpa using h1
    rw [this]
    exact hx
set_option maxRecDepth 100000 in
set_option maxHeartbeats 8000000 in
theorem core (v : Value) (l : List EntryV) (ow d f s : Int) (w : World) (hL : LArg REntry 7 v l w) :
    Calls Tryz.prog 3 #[v, .int .i64 ow, .int .i64 d, .int .i64 f, .int .i64 s] w fun e w' => e = .returned (.bool true) ∧ Below w.heap.size w w' := by
  obtain ⟨a, c, rfl, _, _⟩ := hL.slice
  have HL := Lib.hid hL
  clear hL
  go_enter Tryz.func3, Tryz.ntmps3
  go_wp2_with fail
  refine (small_true _).mono ?_
  rintro e w1 ⟨rfl, hb1⟩
  have HB1 := Lib.hid hb1
  clear hb1
  by_cases h1 : 20 < l.length
  · have hz : (20 : Int) < (l.length : Int) := by omega
    go_wp2_with fail
    go_ret
    exact ⟨rfl, HB1.out⟩
  · have hz : ¬ (20 : Int) < (l.length : Int) := by omega
    by_cases h2 : ow < 0
    · go_wp2_with fail
      go_ret
      exact ⟨rfl, HB1.out⟩
    · by_cases h3 : s < f
      · go_wp2_with fail
        go_ret
        exact ⟨rfl, HB1.out⟩
      · go_wp2_with fail
        go_loopw [12] (fun iv wr => ∃ k : Nat, k ≤ l.length ∧ iv = .int .i64 k ∧ (∀ y ∈ l.take k, -1099511627776 ≤ y.litres ∧ y.litres ≤ 1099511627776) ∧ Below w.heap.size w wr) (fun iv _ => l.length - (intOf iv).toNat)
        case atStart => exact ⟨0, Nat.zero_le _, rfl, fun y hy => by simp at hy, HB1.out⟩
        case round =>
          obtain ⟨k, hk, rfl, hbd, hB⟩ := hrel
          have HBw := Lib.hid hB
          have HBD := Lib.hid hbd
          clear hB hbd HB1
          by_cases hlt : k < l.length
          · have H1 : Hid (l[k]? = some l[k]) := Lib.hid (List.getElem?_eq_getElem hlt)
            obtain ⟨b, o, cs, rfl, hbl, hcl, hra, hrx⟩ := (HL.out.below stays_Entry HBw.out).at H1.out
            generalize l[k] = x at *
            obtain ⟨rfl, -⟩ := hrx
            clear hcl
            have hltz : (k : Int) < (l.length : Int) := by omega
            obtain ⟨c0, c1, c2, c3, c4, c5, c6⟩ := ent_cells hra
            clear hra
            by_cases h5 : 1099511627776 < x.litres
            · go_wp2_with fail
              go_ret
              exact ⟨rfl, HBw.out⟩
            · by_cases h6 : x.litres < -1099511627776
              · go_wp2_with fail
                go_ret
                exact ⟨rfl, HBw.out⟩
              · have hBD := Lib.hid (take_bd H1.out HBD.out ⟨by omega, by omega⟩)
                go_wp2_with fail
                go_roundw
                case rel => exact ⟨k + 1, by omega, by go_num, hBD.out, HBw.out⟩
                case measure => simp [intOf]; omega
          · obtain rfl : k = l.length := by omega
            rw [List.take_length] at HBD
            have hltz : ¬ (l.length : Int) < (l.length : Int) := by omega
            have HC := Lib.hid (change_any l _ ow d f s wr (HL.out.below stays_Entry HBw.out) (by omega) (by omega))
            go_wp2_with fail
            refine HC.out.mono ?_
            rintro e w2 ⟨v2, l2, rfl, hp, hL2, hb2⟩
            obtain ⟨a2, cc2, rfl, hcc, hcm⟩ := hL2.slice
            have HL2 := Lib.hid hL2
            have HP := Lib.hid hp
            have HB2 := Lib.hid (HBw.out.trans (hb2.mono HBw.out.size))
            have hl20 : l2.length ≤ 20 := by
              have e1 := hp.length_eq
              have e2 := chg_len l ow d f s l.length
              rw [List.take_length] at e2
              omega
            have HCH : Hid (∀ y ∈ l2, (y.owner = ow ∧ y.day ≤ d ∧ f < y.known ∧ y.known ≤ s) ∧ -1099511627776 ≤ y.litres ∧ y.litres ≤ 1099511627776) := Lib.hid fun y hy => by
              have h7 := List.mem_filter.1 (hp.mem_iff.1 hy)
              have h8 := h7.2
              unfold chgB at h8
              simp only [Bool.and_eq_true, decide_eq_true_eq] at h8
              exact ⟨⟨h8.1.1.1, h8.1.1.2, h8.1.2, h8.2⟩, HBD.out y h7.1⟩
            clear hL2 hp hb2 HC hcc hcm
            go_wp2_with fail
            go_loopw [14, 15] (fun nv iv wq => ∃ k : Nat, k ≤ l2.length ∧ nv = .int .i64 ((l2.take k).map (·.litres)).sum ∧ iv = .int .i64 k ∧ Below w2.heap.size w2 wq) (fun _ iv _ => l2.length - (intOf iv).toNat)
            case atStart => exact ⟨0, Nat.zero_le _, rfl, rfl, Below.refl _ _⟩
            case round =>
              obtain ⟨k, hk, rfl, rfl, hB⟩ := hrel
              have HBq := Lib.hid hB
              clear hB
              obtain ⟨n, hn⟩ : ∃ n, n = ((l2.take k).map (·.litres)).sum := ⟨_, rfl⟩
              rw [← hn]
              have hnb : -21990232555520 ≤ n ∧ n ≤ 21990232555520 := by
                have h7 := sum_bd ((l2.take k).map (·.litres)) fun y hy => by
                  obtain ⟨x, hx, rfl⟩ := List.mem_map.1 hy
                  exact (HCH.out x (List.mem_of_mem_take hx)).2
                rw [List.length_map, List.length_take] at h7
                rw [hn]
                omega
              have HNN := Lib.hid hn
              clear hn
              by_cases hlt : k < l2.length
              · have H1 : Hid (l2[k]? = some l2[k]) := Lib.hid (List.getElem?_eq_getElem hlt)
                obtain ⟨b, o, cs, rfl, hbl, hcl, hra, hrx⟩ := (HL2.out.below stays_Entry HBq.out).at H1.out
                have hx := HCH.out _ (List.mem_of_getElem? H1.out)
                have HN : Hid (((l2.take (k + 1)).map (·.litres)).sum = n + l2[k].litres) := Lib.hid (by
                  rw [HNN.out, List.take_add_one, H1.out, List.map_append, List.sum_append]
                  simp)
                generalize l2[k] = x at *
                obtain ⟨rfl, -⟩ := hrx
                clear hcl
                have hkz : (k : Int) < (l2.length : Int) := by omega
                obtain ⟨c0, c1, c2, c3, c4, c5, c6⟩ := ent_cells hra
                clear hra
                obtain ⟨⟨e1, e2, e3, e4⟩, e5, e6⟩ := hx
                have e7 : ¬ x.known ≤ f := by omega
                have e8 : ¬ s < x.known := by omega
                have e9 : ¬ d < x.day := by omega
                have hw1 : IntKind.i64.wrap (n + x.litres) = n + x.litres := IntWalk.i64_in _ (by omega)
                go_wp2_with fail
                go_roundw
                case rel => exact ⟨k + 1, by omega, by rw [HN.out], by go_num, HBq.out⟩
                case measure => simp [intOf]; omega
              · obtain rfl : k = l2.length := by omega
                rw [List.take_length] at HNN
                have hkz : ¬ (l2.length : Int) < (l2.length : Int) := by omega
                have HBz := Lib.hid (HB2.out.trans (HBq.out.mono HB2.out.size))
                have HLq := Lib.hid (HL.out.below stays_Entry HBz.out)
                have HA2 := Lib.hid (at_any l _ ow d s _ HLq.out (by omega) HBD.out (by omega))
                obtain ⟨r2, hr2⟩ : ∃ r2, r2 = (accL l ow d s).sum := ⟨_, rfl⟩
                obtain ⟨r1, hr1⟩ : ∃ r1, r1 = (accL l ow d f).sum := ⟨_, rfl⟩
                have hdif : r2 = r1 + n := by
                  rw [hr2, hr1, HNN.out, learned ow d f s (by omega) l, perm_sum (HP.out.map (·.litres))]
                have hw1 : IntKind.i64.wrap (r2 - r1) = n := by
                  rw [IntWalk.i64_in _ (by omega)]
                  omega
                rw [← hr2] at HA2
                have HR1 := Lib.hid hr1
                clear hr2 hr1 hdif
                go_wp2_with fail
                refine HA2.out.mono ?_
                rintro e w3 ⟨rfl, hb3⟩
                have HB3 := Lib.hid (HBz.out.trans (hb3.mono HBz.out.size))
                have HA1 := Lib.hid (at_any l _ ow d f _ (HL.out.below stays_Entry HB3.out) (by omega) HBD.out (by omega))
                rw [← HR1.out] at HA1
                clear hb3 HA2
                go_wp2_with fail
                refine HA1.out.mono ?_
                rintro e w4 ⟨rfl, hb4⟩
                have HB4 := Lib.hid (HB3.out.trans (hb4.mono HB3.out.size))
                clear hb4 HA1
                go_wp2_with fail
                go_ret
                exact ⟨by simp, HB4.out⟩
end Go.Proofs.YtokbandookjdjaaGreat
