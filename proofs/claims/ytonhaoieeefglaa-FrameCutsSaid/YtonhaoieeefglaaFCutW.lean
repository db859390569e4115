/- bournelaw23.FrameCuts returns true for every stream and all cuts. -/
import Derived.Test.YtonhaoieeefglaaFCutLaw
import Derived.Test.YtonhaoieeefglaaFRDec
import Derived.Test.YtonhaoieeefglaaFSmall
import Derived.Deep.AppendSrc
import Derived.Deep.MidRow
namespace Go.Proofs.Ytonhaoieeefglaa
open Go.RowKit
/-- v is a slice whose elements are the numbers zs of 16 bits, anywhere in a block that exists -/
def UArg (v : Value) (zs : List Nat) (w : World) : Prop :=
  ∃ a c, v = .slice a zs.length c ∧ ∀ (j z : Nat), zs[j]? = some z → z ≤ 65535 ∧ ∃ p, a = some p ∧ (p.add j).block < w.heap.size ∧ w.cell? (p.add j) = some (.int .u16 (z : Int))
theorem piece_next {s R X : ByteArray} {q T : Nat} (hqT : q ≤ T) (hX : X.data.toList = (s.data.toList.drop q).take (T - q)) (hR : R.data.toList = restL (s.data.toList.take q)) :
    decL (s.data.toList.take T) = decL (s.data.toList.take q) ++ decL (R ++ X).data.toList ∧ restL (s.data.toList.take T) = restL (R ++ X).data.toList := by
  have h1 : s.data.toList.take T = s.data.toList.take q ++ X.data.toList := by
    rw [hX, ← List.take_add]
    congr 1
    omega
  rw [h1, toList_append, hR]
  exact stream_cut _ _
theorem str_cells {g c : Nat} {ls : List (List UInt8)} {w : World} (h : SlOf (.slice (some ⟨g, 0, none⟩) ls.length c) (strB ls) w) : ∀ j u, (strV ls)[j]? = some u → w.cell? ((⟨g, 0, none⟩ : Addr).add j) = some u := by
  intro j u hj
  unfold strV at hj
  rw [List.getElem?_map, Option.map_eq_some_iff] at hj
  obtain ⟨p, hp, rfl⟩ := hj
  obtain ⟨a, c', h1, h2⟩ := h
  rw [Addr.add_mid, Nat.zero_add]
  simp only [Value.slice.injEq] at h1
  rcases h2 with ⟨h3, _⟩ | ⟨g', h3, _, h4⟩
  · rw [h3] at h1; cases h1.1
  · rw [h3] at h1
    simp only [Option.some.injEq, Addr.mk.injEq, and_true] at h1
    rw [h1.1]
    exact h4 j _ (strB_get hp)
theorem str_one (ls : List (List UInt8)) : ∀ u ∈ strV ls, u.oneCell' = true := by
  intro u hu
  obtain ⟨p, _, rfl⟩ := List.mem_map.1 hu
  rfl
theorem run_append_none {P : Program} {base n : Nat} {e : TypeId} {i : TypeInfo} {v : Value} {xs : List Value} (w : World) (t ty : TypeId) (ht : P.underlying t = some (.slice e)) (hi : P.info? e = some i) (hz : i.size = 1)
    (ho : w.ownsRow base e 1 v n xs) : (Builtin.append_ #[t, t] ty #[v, .slice none 0 0]).run P w = .ok v w := by
  rcases ho.2 with ⟨rfl, rfl⟩ | ⟨g, cap, cur, rfl, hg, hh, hnc, _⟩
  · have h1 : (Builtin.lenOf (.slice none 0 0)).run P w = .ok 0 w := (Src.ofNil (size := i.size) w ht 0).len w
    have h2 : (Builtin.firstCells i.size 0 (.slice none 0 0)).run P w = .ok #[] w := (Src.ofNil (size := i.size) w ht 0).cells
    simp [Builtin.append_, run_underlying ht, sizeOf, typeInfo, hi, h1, h2]
  · have := run_append_room_src (P := P) w t t ty e i ht hi g 0 n cap (.slice none 0 0) 0 [] (Src.ofNil w ht 0) (by omega) (by simp) (by simp)
    exact this
theorem wpList_append_none {P : Program} {ops : Array Oper} {rest : List Oper} {o : Oper} {a : Act} {w : World} {Q : Exit → Act → World → Prop} (hgd : o.guard = none) (s x : Operand) (t : TypeId)
    (ho : o.op = .call { callee := .builtin .append, args := #[s, x], argTypes := #[t, t] }) (v : Value) (hs : a.eval s = v) (hx : a.eval x = .slice none 0 0)
    (hr : (Builtin.append_ #[t, t] o.type #[v, .slice none 0 0]).run P w = .ok v w) (h : wpList P ops Q rest (a.put o.dst v) w) : wpList P ops Q (o :: rest) a w := by
  refine wpList_plain hgd fun K hK => ?_
  unfold Oper.wp execOp
  simp only [ho, resolve, invoke, builtin, Sem.run_bind, Sem.run_pure, Result.andThen_ok, List.map_toArray, List.map_cons, List.map_nil, hs, hx, hr]
  exact hK _ _ h
set_option maxRecDepth 100000 in
set_option maxHeartbeats 1000000 in
theorem cuts_core (s : ByteArray) (v : Value) (zs : List Nat) (w : World) (hs : s.size ≤ maxLen) (h : UArg v zs w) (hl : (zs.length : Int) ≤ maxLen) :
    Calls Try.prog 5 #[.string s, v] w fun e w' => e = .returned (.bool true) ∧ Below w.heap.size w w' := by
  obtain ⟨i0, hi, hz0, hz1, hz2⟩ := info_parts infoS
  unfold maxLen at hs hl
  obtain ⟨a, c, rfl, hcell⟩ := h
  have HC := Lib.hid hcell
  clear hcell
  by_cases g1 : 8000 < s.size
  · go_enter Try.func5, Try.ntmps5
    go_wp2_with fail
    refine (small_any _).mono ?_
    rintro e w1 ⟨rfl, hb⟩
    have HB := Lib.hid hb
    clear hb
    go_wp2_with fail
    go_ret
    exact ⟨rfl, HB.out⟩
  · by_cases g2 : 30 < zs.length
    · go_enter Try.func5, Try.ntmps5
      go_wp2_with fail
      refine (small_any _).mono ?_
      rintro e w1 ⟨rfl, hb⟩
      have HB := Lib.hid hb
      clear hb
      go_wp2_with fail
      go_ret
      exact ⟨rfl, HB.out⟩
    · go_enter Try.func5, Try.ntmps5
      go_wp2_with fail
      refine (small_any _).mono ?_
      rintro e w1 ⟨rfl, hb⟩
      have HB := Lib.hid hb
      clear hb
      go_wp2_with fail
      refine (decode_any s _ (by omega)).mono ?_
      rintro e w2 ⟨v2, rfl, hown2, hb⟩
      have HB2 := Lib.hid (HB.out.trans (hb.mono HB.out.size))
      have HS2 := Lib.hid (SlOf.of_owns rfl hown2)
      clear hown2 hb
      go_wp2_with fail
      go_loopw [8, 9, 10, 11] (fun gv rv qv iv wr => ∃ (k q : Nat) (R : ByteArray), k ≤ zs.length + 1 ∧ q ≤ s.size ∧ (k = zs.length + 1 → q = s.size) ∧ iv = .int .i64 k ∧ qv = .int .i64 q ∧ rv = .string R ∧
        R.data.toList = restL (s.data.toList.take q) ∧ wr.ownsRow w2.heap.size 9 1 gv (decL (s.data.toList.take q)).length (strV (decL (s.data.toList.take q))) ∧ Below w2.heap.size w2 wr) (fun _ _ _ iv _ => zs.length + 1 - (intOf iv).toNat)
      case atStart => exact ⟨0, 0, ⟨#[]⟩, by omega, by omega, by omega, rfl, rfl, rfl, rfl, World.ownsRow_nil _ _ _ _, Below.refl _ _⟩
      case round =>
        obtain ⟨k, q, R, hk, hq, hkq, rfl, rfl, rfl, hR, hown, hB⟩ := hrel
        have HR := Lib.hid hR
        have HO := Lib.hid hown
        have HBW := Lib.hid hB
        have hRl : R.size ≤ 2049 := by
          have h1 := rest_len (s.data.toList.take q)
          rw [← hR] at h1
          simpa using h1
        clear hR hown hB
        by_cases hlt : k < zs.length
        · have hkl : (k : Int) ≤ (zs.length : Int) := by omega
          have H1 : Hid (zs[k]? = some zs[k]) := Lib.hid (List.getElem?_eq_getElem hlt)
          obtain ⟨hz, p, rfl, h2, h3⟩ := HC.out k _ H1.out
          have hc := ((HBW.out.cell (Nat.lt_of_lt_of_le h2 (HB2.out.size))).trans (HB2.out.cell h2)).trans h3
          clear h2 h3
          generalize zs[k] = z at *
          obtain ⟨r, hr⟩ : ∃ r, z % 3000 = r := ⟨_, rfl⟩
          have hr3 : r < 3000 := by omega
          have hr1 : ((z : Int)).tmod 3000 = (r : Int) := by
            rw [Int.tmod_eq_emod_of_nonneg (by omega)]
            omega
          have hr2 : (z : Int) % 3000 = (r : Int) := by omega
          by_cases hqr : q + r < s.size
          · have x1 : decide ((q : Int) + (r : Int) < (s.size : Int)) = true := by simp; omega
            have x2 : (q : Int) + (r : Int) < (s.size : Int) := by omega
            have x4 : ¬ ((s.size : Int) ≤ (q : Int) + (r : Int)) := by omega
            have hm : min (s.size : Int) ((q : Int) + (r : Int)) = (q : Int) + (r : Int) := by omega
            have y1 : (0 : Int) ≤ (q : Int) := by omega
            have y2 : (q : Int) ≤ (q : Int) + (r : Int) := by omega
            have y3 : (q : Int) + (r : Int) ≤ (s.size : Int) := by omega
            have y4 : ((q : Int) + (r : Int)).toNat = q + r := by omega
            have hqT : q ≤ q + r := by omega
            have hTs : q + r ≤ s.size := by omega
            have HX := Lib.hid (cut_list s q (q + r))
            have hX : (s.extract q (q + r)).size ≤ 8000 := by rw [ByteArray.size_extract]; omega
            have HD := Lib.hid (piece_next hqT HX.out HR.out)
            go_wp2_with fail
            refine (decode_any _ _ (by rw [ByteArray.size_append]; omega)).mono ?_
            rintro e w3 ⟨v3, rfl, hown3, hb⟩
            have hg : wr.grownBy w3 none := ⟨hb.os, hb.tape, hb.output, hb.size, fun k hk _ => hb.block k hk⟩
            have HO1 := Lib.hid (HO.out.kept hg (by cases u8.ownBlock <;> simp))
            have HB1 := Lib.hid (HBW.out.trans (hb.mono HBW.out.size))
            have HN1 := Lib.hid (HD.out.1)
            have HN2 := Lib.hid (HD.out.2)
            have hl1 : (decL (s.data.toList.take q)).length ≤ 8000 := Nat.le_trans (dec_len _) (by rw [List.length_take]; omega)
            have hl2 : (decL (R ++ s.extract q (q + r)).data.toList).length ≤ 20000 := Nat.le_trans (dec_len _) (by
              have : (R ++ s.extract q (q + r)).data.toList.length = (R ++ s.extract q (q + r)).size := by first | (simp; done) | (simp; omega)
              rw [this, ByteArray.size_append]
              omega)
            have HRR : Hid ((⟨(restL (R ++ s.extract q (q + r)).data.toList).toArray⟩ : ByteArray).data.toList = restL (R ++ s.extract q (q + r)).data.toList) := rfl
            clear hg hb
            generalize decL (R ++ s.extract q (q + r)).data.toList = ls at *
            generalize restL (R ++ s.extract q (q + r)).data.toList = rs at *
            have HS3 := Lib.hid (SlOf.of_owns rfl hown3)
            have HW3 := Lib.hid hown3
            clear hown3
            rcases HW3.out.2 with ⟨hv3, hn3⟩ | ⟨g3, cap3, cur3, hv3, _⟩
            · subst hv3
              obtain rfl : ls = [] := List.eq_nil_of_length_eq_zero hn3
              rw [List.append_nil] at HN1
              have hap := run_append_none w3 23 23 undSs hi hz1 HO1.out
              go_wp2_with (at_builtin; refine Hid.out ?_)
              refine Lib.hid ?_
              refine wpList_append_none rfl _ _ 23 rfl _ rfl rfl hap ?_
              clear hap
              go_wp2_with fail
              go_roundw
              case rel => exact ⟨k + 1, q + r, _, by omega, by omega, by omega, by go_num, by go_num, rfl, by rw [HN2.out], by rw [HN1.out]; exact HO1.out, HB1.out⟩
              case measure => first | omega | (simp [intOf]; done) | (simp [intOf]; omega)
            · subst hv3
              go_wp2_with (at_builtin; refine Hid.out ?_)
              refine Lib.hid ?_
              refine wpList_append_own _ rfl _ _ 23 rfl w2.heap.size 9 i0 (.string ⟨#[]⟩) 1 16 undSs hi hz0 hz1 hz2 rfl (by decide) _ _ _ rfl HO1.out ⟨g3, 0, none⟩ ls.length cap3 (strV ls) rfl (by rw [strV_length, Nat.mul_one]) (str_cells HS3.out) (str_one ls) (by unfold maxLen; omega) (by omega) HB1.out.size ?_
              intro v' w4 hown4 hgr4 _
              have HO2 : Hid (w4.ownsRow w2.heap.size 9 1 v' (decL (s.data.toList.take (q + r))).length (strV (decL (s.data.toList.take (q + r))))) := by
                refine Lib.hid ?_
                rw [HN1.out, strV_append, List.length_append]
                exact hown4
              have HB2' : Hid (Below w2.heap.size w2 w4) := Lib.hid (HB1.out.grown hgr4 HB1.out.size (fun q e => HO1.out.block_ge e))
              clear hown4 hgr4
              go_wp2_with fail
              go_roundw
              case rel => exact ⟨k + 1, q + r, _, by omega, by omega, by omega, by go_num, by go_num, rfl, by rw [HN2.out], HO2.out, HB2'.out⟩
              case measure => first | omega | (simp [intOf]; done) | (simp [intOf]; omega)
          · have x2 : ¬ ((q : Int) + (r : Int) < (s.size : Int)) := by omega
            have x4 : (s.size : Int) ≤ (q : Int) + (r : Int) := by omega
            have hm : min (s.size : Int) ((q : Int) + (r : Int)) = (s.size : Int) := by omega
            have y1 : (0 : Int) ≤ (q : Int) := by omega
            have y2 : (q : Int) ≤ (s.size : Int) := by omega
            have hqT : q ≤ s.size := by omega
            have hTs : s.size ≤ s.size := by omega
            have HX := Lib.hid (cut_list s q (s.size))
            have hX : (s.extract q (s.size)).size ≤ 8000 := by rw [ByteArray.size_extract]; omega
            have HD := Lib.hid (piece_next hqT HX.out HR.out)
            go_wp2_with fail
            refine (decode_any _ _ (by rw [ByteArray.size_append]; omega)).mono ?_
            rintro e w3 ⟨v3, rfl, hown3, hb⟩
            have hg : wr.grownBy w3 none := ⟨hb.os, hb.tape, hb.output, hb.size, fun k hk _ => hb.block k hk⟩
            have HO1 := Lib.hid (HO.out.kept hg (by cases u8.ownBlock <;> simp))
            have HB1 := Lib.hid (HBW.out.trans (hb.mono HBW.out.size))
            have HN1 := Lib.hid (HD.out.1)
            have HN2 := Lib.hid (HD.out.2)
            have hl1 : (decL (s.data.toList.take q)).length ≤ 8000 := Nat.le_trans (dec_len _) (by rw [List.length_take]; omega)
            have hl2 : (decL (R ++ s.extract q (s.size)).data.toList).length ≤ 20000 := Nat.le_trans (dec_len _) (by
              have : (R ++ s.extract q (s.size)).data.toList.length = (R ++ s.extract q (s.size)).size := by first | (simp; done) | (simp; omega)
              rw [this, ByteArray.size_append]
              omega)
            have HRR : Hid ((⟨(restL (R ++ s.extract q (s.size)).data.toList).toArray⟩ : ByteArray).data.toList = restL (R ++ s.extract q (s.size)).data.toList) := rfl
            clear hg hb
            generalize decL (R ++ s.extract q (s.size)).data.toList = ls at *
            generalize restL (R ++ s.extract q (s.size)).data.toList = rs at *
            have HS3 := Lib.hid (SlOf.of_owns rfl hown3)
            have HW3 := Lib.hid hown3
            clear hown3
            rcases HW3.out.2 with ⟨hv3, hn3⟩ | ⟨g3, cap3, cur3, hv3, _⟩
            · subst hv3
              obtain rfl : ls = [] := List.eq_nil_of_length_eq_zero hn3
              rw [List.append_nil] at HN1
              have hap := run_append_none w3 23 23 undSs hi hz1 HO1.out
              go_wp2_with (at_builtin; refine Hid.out ?_)
              refine Lib.hid ?_
              refine wpList_append_none rfl _ _ 23 rfl _ rfl rfl hap ?_
              clear hap
              go_wp2_with fail
              go_roundw
              case rel => exact ⟨k + 1, s.size, _, by omega, by omega, by omega, by go_num, by go_num, rfl, by rw [HN2.out], by rw [HN1.out]; exact HO1.out, HB1.out⟩
              case measure => first | omega | (simp [intOf]; done) | (simp [intOf]; omega)
            · subst hv3
              go_wp2_with (at_builtin; refine Hid.out ?_)
              refine Lib.hid ?_
              refine wpList_append_own _ rfl _ _ 23 rfl w2.heap.size 9 i0 (.string ⟨#[]⟩) 1 16 undSs hi hz0 hz1 hz2 rfl (by decide) _ _ _ rfl HO1.out ⟨g3, 0, none⟩ ls.length cap3 (strV ls) rfl (by rw [strV_length, Nat.mul_one]) (str_cells HS3.out) (str_one ls) (by unfold maxLen; omega) (by omega) HB1.out.size ?_
              intro v' w4 hown4 hgr4 _
              have HO2 : Hid (w4.ownsRow w2.heap.size 9 1 v' (decL (s.data.toList.take (s.size))).length (strV (decL (s.data.toList.take (s.size))))) := by
                refine Lib.hid ?_
                rw [HN1.out, strV_append, List.length_append]
                exact hown4
              have HB2' : Hid (Below w2.heap.size w2 w4) := Lib.hid (HB1.out.grown hgr4 HB1.out.size (fun q e => HO1.out.block_ge e))
              clear hown4 hgr4
              go_wp2_with fail
              go_roundw
              case rel => exact ⟨k + 1, s.size, _, by omega, by omega, by omega, by go_num, by go_num, rfl, by rw [HN2.out], HO2.out, HB2'.out⟩
              case measure => first | omega | (simp [intOf]; done) | (simp [intOf]; omega)
        · by_cases hke : k = zs.length
          · subst hke
            have y1 : (0 : Int) ≤ (q : Int) := by omega
            have y2 : (q : Int) ≤ (s.size : Int) := by omega
            have hqT : q ≤ s.size := by omega
            have hTs : s.size ≤ s.size := by omega
            have HX := Lib.hid (cut_list s q (s.size))
            have hX : (s.extract q (s.size)).size ≤ 8000 := by rw [ByteArray.size_extract]; omega
            have HD := Lib.hid (piece_next hqT HX.out HR.out)
            go_wp2_with fail
            refine (decode_any _ _ (by rw [ByteArray.size_append]; omega)).mono ?_
            rintro e w3 ⟨v3, rfl, hown3, hb⟩
            have hg : wr.grownBy w3 none := ⟨hb.os, hb.tape, hb.output, hb.size, fun k hk _ => hb.block k hk⟩
            have HO1 := Lib.hid (HO.out.kept hg (by cases u8.ownBlock <;> simp))
            have HB1 := Lib.hid (HBW.out.trans (hb.mono HBW.out.size))
            have HN1 := Lib.hid (HD.out.1)
            have HN2 := Lib.hid (HD.out.2)
            have hl1 : (decL (s.data.toList.take q)).length ≤ 8000 := Nat.le_trans (dec_len _) (by rw [List.length_take]; omega)
            have hl2 : (decL (R ++ s.extract q (s.size)).data.toList).length ≤ 20000 := Nat.le_trans (dec_len _) (by
              have : (R ++ s.extract q (s.size)).data.toList.length = (R ++ s.extract q (s.size)).size := by first | (simp; done) | (simp; omega)
              rw [this, ByteArray.size_append]
              omega)
            have HRR : Hid ((⟨(restL (R ++ s.extract q (s.size)).data.toList).toArray⟩ : ByteArray).data.toList = restL (R ++ s.extract q (s.size)).data.toList) := rfl
            clear hg hb
            generalize decL (R ++ s.extract q (s.size)).data.toList = ls at *
            generalize restL (R ++ s.extract q (s.size)).data.toList = rs at *
            have HS3 := Lib.hid (SlOf.of_owns rfl hown3)
            have HW3 := Lib.hid hown3
            clear hown3
            rcases HW3.out.2 with ⟨hv3, hn3⟩ | ⟨g3, cap3, cur3, hv3, _⟩
            · subst hv3
              obtain rfl : ls = [] := List.eq_nil_of_length_eq_zero hn3
              rw [List.append_nil] at HN1
              have hap := run_append_none w3 23 23 undSs hi hz1 HO1.out
              go_wp2_with (at_builtin; refine Hid.out ?_)
              refine Lib.hid ?_
              refine wpList_append_none rfl _ _ 23 rfl _ rfl rfl hap ?_
              clear hap
              go_wp2_with fail
              go_roundw
              case rel => exact ⟨zs.length + 1, s.size, _, by omega, by omega, by omega, by go_num, by go_num, rfl, by rw [HN2.out], by rw [HN1.out]; exact HO1.out, HB1.out⟩
              case measure => first | omega | (simp [intOf]; done) | (simp [intOf]; omega)
            · subst hv3
              go_wp2_with (at_builtin; refine Hid.out ?_)
              refine Lib.hid ?_
              refine wpList_append_own _ rfl _ _ 23 rfl w2.heap.size 9 i0 (.string ⟨#[]⟩) 1 16 undSs hi hz0 hz1 hz2 rfl (by decide) _ _ _ rfl HO1.out ⟨g3, 0, none⟩ ls.length cap3 (strV ls) rfl (by rw [strV_length, Nat.mul_one]) (str_cells HS3.out) (str_one ls) (by unfold maxLen; omega) (by omega) HB1.out.size ?_
              intro v' w4 hown4 hgr4 _
              have HO2 : Hid (w4.ownsRow w2.heap.size 9 1 v' (decL (s.data.toList.take (s.size))).length (strV (decL (s.data.toList.take (s.size))))) := by
                refine Lib.hid ?_
                rw [HN1.out, strV_append, List.length_append]
                exact hown4
              have HB2' : Hid (Below w2.heap.size w2 w4) := Lib.hid (HB1.out.grown hgr4 HB1.out.size (fun q e => HO1.out.block_ge e))
              clear hown4 hgr4
              go_wp2_with fail
              go_roundw
              case rel => exact ⟨zs.length + 1, s.size, _, by omega, by omega, by omega, by go_num, by go_num, rfl, by rw [HN2.out], HO2.out, HB2'.out⟩
              case measure => first | omega | (simp [intOf]; done) | (simp [intOf]; omega)
          · obtain rfl : k = zs.length + 1 := by omega
            obtain rfl : q = s.size := hkq rfl
            have ht : s.data.toList.take s.size = s.data.toList := List.take_of_length_le (by simp)
            rw [ht] at HR HO
            obtain rfl : R = ⟨(restL s.data.toList).toArray⟩ := by
              rw [← HR.out]
            have HS8 := Lib.hid (SlOf.of_owns rfl HO.out)
            have HS6 := Lib.hid (HS2.out.below HBW.out (Nat.le_refl _))
            have hls : (strB (decL s.data.toList)).length ≤ 1000000 := by
              unfold strB
              rw [List.length_map]
              have h1 := dec_len s.data.toList
              have h2 : s.data.toList.length = s.size := by simp
              omega
            have HBX := Lib.hid (HB2.out.trans (HBW.out.mono HB2.out.size))
            clear hlt hke hk hkq ht
            go_wp2_with fail
            refine (same_any u8 v2 _ _ _ HS8.out HS6.out hls hls).mono ?_
            rintro e w6 ⟨rfl, m, rfl⟩
            rw [decide_eq_true rfl]
            have HB6 : Hid (Below w.heap.size w (wr.drewN m)) := Lib.hid (below_drewN HBX.out)
            generalize wr.drewN m = w6 at *
            go_wp2_with fail
            go_ret
            exact ⟨rfl, HB6.out⟩
end Go.Proofs.Ytonhaoieeefglaa
