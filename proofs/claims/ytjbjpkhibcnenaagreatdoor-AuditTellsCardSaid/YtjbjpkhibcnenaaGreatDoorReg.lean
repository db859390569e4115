/- Texts merged: WRefA Reg -/
import Derived.Deep.AppendSrc
import Derived.Test.YtjbjpkhibcnenaaGreatDoorWList
import Derived.Deep.RegionHeldLaw
import Derived.Test.YtjbjpkhibcnenaaGreatDoorWShelf
/- bourneref02: digits, Int, Num, Text. -/
namespace Go.Proofs.YtjbjpkhibcnenaaGreatDoor
set_option maxRecDepth 100000
set_option maxHeartbeats 2000000
open Go.RowKit
theorem run_append_nil {P : Program} {base n : Nat} {e : TypeId} {i : TypeInfo} {v : Value} {xs : List Value} (w : World) (t ty : TypeId) (ht : P.underlying t = some (.slice e)) (hi : P.info? e = some i)
 (ho : w.ownsRow base e 1 v n xs) : (Builtin.append_ #[t, t] ty #[v, .slice none 0 0]).run P w = .ok v w := by
 rcases ho.2 with ⟨rfl, rfl⟩ | ⟨g, cap, cur, rfl, hg, hh, hnc, _⟩
 ·
  have h1 : (Builtin.lenOf (.slice none 0 0)).run P w = .ok 0 w := (Src.ofNil (size := i.size) w ht 0).len w
  have h2 : (Builtin.firstCells i.size 0 (.slice none 0 0)).run P w = .ok #[] w := (Src.ofNil (size := i.size) w ht 0).cells
  simp [Builtin.append_, run_underlying ht, sizeOf, typeInfo, hi, h1, h2]
 ·
  have := run_append_room_src (P := P) w t t ty e i ht hi g 0 n cap (.slice none 0 0) 0 [] (Src.ofNil w ht 0) (by omega) (by simp) (by simp)
  exact this
/-- 'append(v, s...)', both slices of the call's own, s nil or not -/
theorem wpList_append_src {P : Program} (w : World) {ops : Array Oper} {rest : List Oper} {o : Oper} {a : Act} {Q : Exit → Act → World → Prop} (hgd : o.guard = none) (s x : Operand) (t : TypeId)
 (ho : o.op = .call { callee := .builtin .append, args := #[s, x], argTypes := #[t, t] })
 (base : Nat) (e : TypeId) (i : TypeInfo) (z : Value) (bytes : Nat) (ht : P.underlying t = some (.slice e)) (hi : P.info? e = some i) (hz : i.zero = some z)
 (hsize : i.size = 1) (hby : i.bytes = bytes) (hzs : z.cells.size = 1)
 (v : Value) (n : Nat) (xs : List Value) (hs : a.eval s = v) (hown : w.ownsRow base e 1 v n xs)
 (sv : Value) (m : Nat) (ys : List Value) (hx : a.eval x = sv) (hsrc : w.ownsRow base e 1 sv m ys) (h1 : ∀ u ∈ ys, u.oneCell' = true)
 (h63 : n + m ≤ maxLen) (hbytes : (n + m) * bytes ≤ 140737488355328) (hbase : base ≤ w.heap.size)
 (h : ∀ v' w', w'.ownsRow base e 1 v' (n + m) (xs ++ ys) → w.grownBy w' v.ownBlock → wpList P ops Q rest (a.put o.dst v') w') : wpList P ops Q (o :: rest) a w := by
 rcases hsrc.2 with ⟨rfl, rfl⟩ | ⟨g, cap, cur, rfl, hg, hh, hnc, hcm, hcs, htk⟩
 ·
  have hy : ys = [] := List.eq_nil_of_length_eq_zero (by have := hsrc.1; omega)
  subst hy
  have hr := run_append_nil (P := P) w t o.type ht hi hown
  have hk := h v w (by simpa using hown) (grown_refl _ _)
  refine wpList_plain hgd fun K hK => ?_
  unfold Oper.wp execOp
  simp only [ho, resolve, invoke, builtin, Sem.run_bind, Sem.run_pure, Result.andThen_ok, List.map_toArray, List.map_cons, List.map_nil, hs, hx, hr]
  exact hK _ _ hk
 ·
  refine wpList_append_own w hgd s x t ho base e i z 1 bytes ht hi hz hsize hby hzs (by decide) v n xs hs hown ⟨g, 0, none⟩ m cap ys hx (by have := hsrc.1; omega) (fun j u hj => ?_) h1 h63 hbytes hbase (fun v' w' h2 h3 _ => h v' w' h2 h3)
  rw [Addr.add_mid, Nat.zero_add, cell_of_row _ _ _ _ _ _ hh]
  have hyl := hsrc.1
  have hjl : j < ys.length := (List.getElem?_eq_some_iff.1 hj).1
  have h2 : (cur.toList.take (m * 1))[j]? = ys[j]? := by rw [htk]
  rw [List.getElem?_take, if_pos (by omega), hj] at h2
  simpa using h2
theorem owns_fresh (w : World) (cs : List Value) (e : TypeId) (base : Nat) (hb : base ≤ w.heap.size) (hl : cs.length ≤ maxLen) :
 (w.alloc (.cells cs.toArray e)).ownsRow base e 1 (.slice (some ⟨w.heap.size, 0, none⟩) cs.length cs.length) cs.length cs :=
 ⟨by simp, .inr ⟨w.heap.size, cs.length, cs.toArray, rfl, hb, heap_alloc_new _ _, Nat.le_refl _, hl, by simp, by simp⟩⟩
theorem bytes_one (l : List UInt8) : ∀ u ∈ bytesV l, u.oneCell' = true := bytesV_one l
theorem rdigits_any (m : Nat) (w : World) (hm : m < 18446744073709551616) :
 Calls Tryz.prog 149 #[.int .u64 m] w fun e w' => ∃ v, e = .returned v ∧ w'.ownsRow w.heap.size 5 1 v (lebL m).length (bytesV (lebL m).reverse) ∧ Below w.heap.size w w' := by
 obtain ⟨i0, hi, hz0, hz1, hz2⟩ := info_parts infoB
 have HM := Lib.hid hm
 clear hm
 go_enter Tryz.func149, Tryz.ntmps149
 go_wp2_with fail
 go_loopw [0, 3] (fun iv v wr => ∃ (q : Nat) (done : List UInt8), lebL m = done ++ lebL q ∧ q < 18446744073709551616 ∧ iv = .int .u64 q ∧ wr.ownsRow w.heap.size 5 1 v done.length (bytesV done.reverse) ∧ Below w.heap.size w wr) (fun iv _ _ => (Go.RowKit.intOf iv).toNat)
 case atStart => exact ⟨m, [], rfl, HM.out, rfl, World.ownsRow_nil _ _ _ _, Below.refl _ _⟩
 case round =>
  obtain ⟨q, done, hq, hq64, rfl, hown, hB⟩ := hrel
  have HQ := Lib.hid hq
  have HO := Lib.hid hown
  have HB := Lib.hid hB
  have hsz := hB.size
  clear hq hown hB
  by_cases h0 : 0 < q
  ·
   obtain ⟨x, hx⟩ : ∃ x : UInt8, x = UInt8.ofNat (q % 256) := ⟨_, rfl⟩
   have hxx : (q : Int) % 256 = (x.toNat : Int) := by rw [hx, ofNat_toNat _ (by omega)]; omega
   have HX : Hid (lebL m = (done ++ [x]) ++ lebL (q / 256)) := by
    refine Lib.hid ?_
    rw [HQ.out, leb_pos (by omega : q ≠ 0), hx]
    simp
   have HL : Hid (done.length < 8) := by
    refine Lib.hid ?_
    have h1 := leb_len8 HM.out
    rw [HX.out] at h1
    simp at h1
    omega
   have HE : Hid ([Value.int .u8 (x.toNat : Int)] ++ bytesV done.reverse = bytesV (done ++ [x]).reverse) := by
    refine Lib.hid ?_
    simp [bytesV]
   clear hx
   have h0' : decide ((q : Int) > 0) = true := by simp; omega
   have hqd : q / 256 < 18446744073709551616 := by omega
   have HF := Lib.hid (owns_fresh wr [Value.int .u8 (x.toNat : Int)] 5 w.heap.size hsz (by unfold maxLen; simp))
   go_wp2_with (at_builtin; refine Hid.out ?_)
   refine Lib.hid ?_
   refine wpList_append_src _ rfl _ _ 113 rfl w.heap.size 5 i0 (.int .u8 0) 1 undBs hi hz0 hz1 hz2 rfl _ 1 [Value.int .u8 (x.toNat : Int)] rfl HF.out _ _ _ rfl (HO.out.alloc _) (bytes_one _) (by have := HL.out; unfold maxLen; omega) (by have := HL.out; omega) (by simp; omega) ?_
   intro v' w2 hown' hgrow
   have HO2 : Hid (w2.ownsRow w.heap.size 5 1 v' (done ++ [x]).length (bytesV (done ++ [x]).reverse)) := by
    refine Lib.hid ?_
    rw [← HE.out, List.length_append, Nat.add_comm]
    exact hown'
   have HB2 : Hid (Below w.heap.size w w2) := Lib.hid ((HB.out.alloc (by omega) _).grown hgrow (by simp; omega) (fun k hk => HF.out.block_ge hk))
   clear hown' hgrow
   go_wp2_with fail
   go_roundw
   case rel => exact ⟨q / 256, done ++ [x], HX.out, hqd, by simp, HO2.out, HB2.out⟩
   case measure => simp [Go.RowKit.intOf]; omega
  ·
   obtain rfl : q = 0 := by omega
   have HD : Hid (done = lebL m) := Lib.hid (by rw [HQ.out, leb_zero, List.append_nil])
   clear h0 hq64
   go_wp2_with fail
   go_ret
   exact ⟨_, rfl, by rw [← HD.out]; exact HO.out, HB.out⟩
theorem rint_pos (m : Nat) (w : World) (hm : m < 9223372036854775808) :
 Calls Tryz.prog 128 #[.int .i64 m] w fun e w' => e = .returned (.string ⟨(intL m).toArray⟩) ∧ Below w.heap.size w w' := by
 obtain ⟨i0, hi, hz0, hz1, hz2⟩ := info_parts infoB
 have hl8 := leb_len8 (m := m) (by omega)
 have HI : Hid ([Value.int .u8 (128 + ((lebL m).length : Int))] ++ bytesV (lebL m).reverse = bytesV (intL (m : Int))) := by
  refine Lib.hid ?_
  unfold intL
  rw [if_pos (by omega), Int.toNat_natCast]
  show _ = Value.int .u8 ((UInt8.ofNat (128 + (lebL m).length)).toNat : Int) :: bytesV (lebL m).reverse
  rw [ofNat_toNat _ (by omega), Int.natCast_add]
  rfl
 go_enter Tryz.func128, Tryz.ntmps128
 go_wp2_with fail
 refine (rdigits_any m _ (by omega)).mono ?_
 rintro e w1 ⟨v, rfl, hown, hb⟩
 have HO := Lib.hid hown
 have HB := Lib.hid hb
 have hsz := hb.size
 obtain ⟨ad, cap, rfl⟩ : ∃ ad cap, v = .slice ad (lebL m).length cap := by
  rcases hown.2 with ⟨h1, h2⟩ | ⟨g, cap, cur, h1, _⟩
  · exact ⟨none, 0, by rw [h1, h2]⟩
  · exact ⟨_, _, h1⟩
 clear hown hb
 have HF := Lib.hid (owns_fresh w1 [Value.int .u8 (128 + ((lebL m).length : Int))] 5 w.heap.size hsz (by unfold maxLen; simp))
 go_wp2_with (at_builtin; refine Hid.out ?_)
 refine Lib.hid ?_
 refine wpList_append_src _ rfl _ _ 113 rfl w.heap.size 5 i0 (.int .u8 0) 1 undBs hi hz0 hz1 hz2 rfl _ 1 [Value.int .u8 (128 + ((lebL m).length : Int))] rfl HF.out _ _ _ rfl (HO.out.alloc _) (bytes_one _) (by unfold maxLen; omega) (by omega) (by simp; omega) ?_
 intro v' w2 hown' hgrow
 have HO2 : Hid (w2.ownsRow w.heap.size 5 1 v' (1 + (lebL m).length) (bytesV (intL (m : Int)))) := by
  refine Lib.hid ?_
  rw [← HI.out]
  exact hown'
 have HB2 : Hid (Below w.heap.size w w2) := Lib.hid ((HB.out.alloc (by omega) _).grown hgrow (by simp; omega) (fun k hk => HF.out.block_ge hk))
 clear hown' hgrow
 go_wp2_with (refine wpList_string_own rfl 113 9 5 _ rfl undBs undB undS _ rfl w.heap.size _ (intL (m : Int)) HO2.out ?_)
 go_wp2_with fail
 go_ret
 exact ⟨rfl, HB2.out⟩
theorem cell_of_owns {w : World} {base n : Nat} {e : TypeId} {v : Value} {xs : List Value} (h : w.ownsRow base e 1 v n xs) {j : Nat} {u : Value} (hj : xs[j]? = some u) : ∃ g cap, v = .slice (some ⟨g, 0, none⟩) n cap ∧ base ≤ g ∧ g < w.heap.size ∧ w.cell? ⟨g, j, none⟩ = some u := by
 have hjl : j < xs.length := (List.getElem?_eq_some_iff.1 hj).1
 rcases h.2 with ⟨rfl, h0⟩ | ⟨g, cap, cur, rfl, hg, hh, hnc, _, hcs, htk⟩
 · have := h.1; omega
 ·
  refine ⟨g, cap, rfl, hg, blk_lt hh, ?_⟩
  have := h.1
  rw [cell_of_row _ _ _ _ _ _ hh]
  have h1 : (cur.toList.take (n * 1))[j]? = xs[j]? := by rw [htk]
  rw [List.getElem?_take, if_pos (by omega), hj] at h1
  simpa using h1
theorem flip_int (b : UInt8) : 255 - (b.toNat : Int) = ((255 - b).toNat : Int) := by
 rw [flip_toNat]
 have := b.toNat_lt
 omega
theorem rint_neg (m : Nat) (w : World) (hm : m < 9223372036854775808) :
 Calls Tryz.prog 128 #[.int .i64 (-(m : Int) - 1)] w fun e w' => e = .returned (.string ⟨(intL (-(m : Int) - 1)).toArray⟩) ∧ Below w.heap.size w w' := by
 obtain ⟨i0, hi, hz0, hz1, hz2⟩ := info_parts infoB
 have hl8 := leb_len8 (m := m) (by omega)
 obtain ⟨l, hl⟩ : ∃ l, l = (lebL m).reverse := ⟨_, rfl⟩
 have hll : (lebL m).length = l.length := by rw [hl]; simp
 have HI : Hid (UInt8.ofNat (127 - l.length) :: flipL l = intL (-(m : Int) - 1)) := by
  refine Lib.hid ?_
  unfold intL
  have : (-(-(m : Int) - 1 + 1)).toNat = m := by omega
  rw [if_neg (by omega), this, ← hll, hl, ← List.map_reverse]
  rfl
 have e1 : -(m : Int) - 1 + 1 = -(m : Int) := by omega
 have e2 : IntKind.u64.wrap (m : Int) = (m : Int) := IntWalk.u64_in _ (by omega)
 rw [hll] at hl8
 have HL := Lib.hid hl
 have HLL := Lib.hid hll
 clear hl hll
 go_enter Tryz.func128, Tryz.ntmps128
 go_wp2_with fail
 refine (rdigits_any m _ (by omega)).mono ?_
 rintro e w1 ⟨v, rfl, hown, hb⟩
 rw [← HL.out, HLL.out] at hown
 have HO := Lib.hid hown
 have HB := Lib.hid hb
 have hsz := hb.size
 obtain ⟨ad, cap, rfl⟩ : ∃ ad cap, v = .slice ad l.length cap := by
  rcases hown.2 with ⟨h1, h2⟩ | ⟨g, cap, cur, h1, _⟩
  · exact ⟨none, 0, by rw [h1, h2]⟩
  · exact ⟨_, _, h1⟩
 clear hown hb
 go_wp2_with fail
 have hown0 := owns_fresh w1 [Value.int .u8 (127 - (l.length : Int))] 5 w1.heap.size (Nat.le_refl _) (by unfold maxLen; simp)
 have HO0 : Hid ((w1.alloc (.cells #[Value.int .u8 (127 - (l.length : Int))] 5)).ownsRow w1.heap.size 5 1 (.slice (some ⟨w1.heap.size, 0, none⟩) 1 1) (1 + 0) (bytesV (UInt8.ofNat (127 - l.length) :: flipL (l.take 0)))) := by
  refine Lib.hid ?_
  have : bytesV (UInt8.ofNat (127 - l.length) :: flipL (l.take 0)) = [Value.int .u8 (127 - (l.length : Int))] := by
   show [Value.int .u8 ((UInt8.ofNat (127 - l.length)).toNat : Int)] = _
   rw [ofNat_toNat _ (by omega), Int.natCast_sub (by omega)]
   rfl
  rw [this]
  exact hown0
 have HB0 : Hid (Below w1.heap.size w1 (w1.alloc (.cells #[Value.int .u8 (127 - (l.length : Int))] 5))) := Lib.hid ((Below.refl _ _).alloc (Nat.le_refl _) _)
 clear hown0
 generalize w1.alloc (.cells #[Value.int .u8 (127 - (l.length : Int))] 5) = w2 at *
 go_loopw [5, 6] (fun v iv wr => ∃ k : Nat, k ≤ l.length ∧ iv = .int .i64 k ∧ wr.ownsRow w1.heap.size 5 1 v (1 + k) (bytesV (UInt8.ofNat (127 - l.length) :: flipL (l.take k))) ∧ Below w1.heap.size w1 wr) (fun _ iv _ => l.length - (Go.RowKit.intOf iv).toNat)
 case atStart => exact ⟨0, by omega, rfl, HO0.out, HB0.out⟩
 case round =>
  obtain ⟨k, hk, rfl, hown, hb⟩ := hrel
  clear HO0 HB0
  have HOr := Lib.hid hown
  have HBr := Lib.hid hb
  have hszr := hb.size
  clear hown hb
  by_cases hlt : k < l.length
  ·
   have H1 : (bytesV l)[k]? = some (.int .u8 (l[k].toNat : Int)) := by
    unfold bytesV
    rw [List.getElem?_map, List.getElem?_eq_getElem hlt]
    rfl
   obtain ⟨g, cap', hv, hg1, hg2, hcell⟩ := cell_of_owns HO.out H1
   simp only [Value.slice.injEq, true_and] at hv
   obtain ⟨rfl, rfl⟩ := hv
   have hc := (HBr.out.cell (p := ⟨g, k, none⟩) hg2).trans hcell
   have HE : Hid (bytesV (UInt8.ofNat (127 - l.length) :: flipL (l.take k)) ++ [Value.int .u8 (255 - (l[k].toNat : Int))] = bytesV (UInt8.ofNat (127 - l.length) :: flipL (l.take (k + 1)))) := by
    refine Lib.hid ?_
    rw [List.take_succ_eq_append_getElem hlt, flipL_append, ← List.cons_append, bytesV_append, flip_int]
    rfl
   have hx := l[k].toNat_lt
   clear H1 hcell
   generalize l[k] = x at *
   go_wp2_with (at_builtin; refine Hid.out ?_)
   refine Lib.hid ?_
   refine wpList_append_own _ rfl _ _ 113 rfl w1.heap.size 5 i0 (.int .u8 0) 1 1 undBs hi hz0 hz1 hz2 rfl (by decide) _ _ _ rfl (HOr.out.alloc _) ⟨wr.heap.size, 0, none⟩ 1 1 [.int .u8 (255 - (x.toNat : Int))] rfl rfl (cells_new _ _ _) (by intro u hu; simp at hu; subst hu; rfl) (by unfold maxLen; omega) (by omega) (by simp; omega) ?_
   intro v' w3 hown' hgrow _
   have HO2 : Hid (w3.ownsRow w1.heap.size 5 1 v' (1 + (k + 1)) (bytesV (UInt8.ofNat (127 - l.length) :: flipL (l.take (k + 1))))) := by
    refine Lib.hid ?_
    rw [← HE.out]
    exact hown'
   have HB2 : Hid (Below w1.heap.size w1 w3) := Lib.hid ((HBr.out.alloc hszr _).grown hgrow (by simp; omega) (fun k hk => HOr.out.block_ge hk))
   clear hown' hgrow
   go_wp2_with fail
   go_roundw
   case rel => exact ⟨k + 1, by omega, by go_num, HO2.out, HB2.out⟩
   case measure => simp [Go.RowKit.intOf]; omega
  ·
   obtain rfl : k = l.length := by omega
   have HO2 : Hid (wr.ownsRow w1.heap.size 5 1 u5 (1 + l.length) (bytesV (intL (-(m : Int) - 1)))) := by
    refine Lib.hid ?_
    rw [← HI.out]
    have := HOr.out
    rw [List.take_of_length_le (Nat.le_refl _)] at this
    exact this
   clear hlt hk
   go_wp2_with (refine wpList_string_own rfl 113 9 5 _ rfl undBs undB undS _ rfl w1.heap.size _ (intL (-(m : Int) - 1)) HO2.out ?_)
   go_wp2_with fail
   go_ret
   exact ⟨rfl, HB.out.trans (HBr.out.mono HB.out.size)⟩
theorem rint_any (n : Int) (w : World) (hn : I64 n) :
 Calls Tryz.prog 128 #[.int .i64 n] w fun e w' => e = .returned (.string ⟨(intL n).toArray⟩) ∧ Below w.heap.size w w' := by
 unfold I64 at hn
 by_cases h0 : 0 ≤ n
 ·
  obtain ⟨m, rfl⟩ : ∃ m : Nat, n = (m : Int) := ⟨n.toNat, by omega⟩
  exact rint_pos m w (by omega)
 ·
  obtain ⟨m, rfl⟩ : ∃ m : Nat, n = -(m : Int) - 1 := ⟨(-n - 1).toNat, by omega⟩
  exact rint_neg m w (by omega)
theorem rnum_any (n : Int) (w : World) (hn : I64 n) :
 Calls Tryz.prog 147 #[.int .i64 n] w fun e w' => e = .returned (.string ⟨(numL n).toArray⟩) ∧ Below w.heap.size w w' := by
 have HN := Lib.hid hn
 unfold I64 at hn
 by_cases h0 : n < 0
 ·
  have HI : Hid (numL n = []) := Lib.hid (by unfold numL; rw [if_pos h0])
  rw [HI.out]
  go_enter Tryz.func147, Tryz.ntmps147
  go_wp2_with fail
  go_ret
  exact ⟨rfl, Below.refl _ _⟩
 ·
  have HI : Hid (numL n = intL n) := Lib.hid (by unfold numL; rw [if_neg h0])
  rw [HI.out]
  go_enter Tryz.func147, Tryz.ntmps147
  go_wp2_with fail
  refine (rint_any n _ HN.out).mono ?_
  rintro e w1 ⟨rfl, hb⟩
  have HB := Lib.hid hb
  clear hb
  go_wp2_with fail
  go_ret
  exact ⟨rfl, HB.out⟩
theorem rtext_any (s : ByteArray) (w : World) (hs : s.size ≤ 1000000) :
 Calls Tryz.prog 91 #[.string s] w fun e w' => e = .returned (.string ⟨(textL s.data.toList).toArray⟩) ∧ Below w.heap.size w w' := by
 obtain ⟨i0, hi, hz0, hz1, hz2⟩ := info_parts infoB
 have HLn : Hid (∀ k, (escTs (s.data.toList.take k)).length ≤ 2000000) := by
  refine Lib.hid fun k => ?_
  have h1 := (escTs_len (s.data.toList.take k)).2
  have h2 := List.length_take_le' k s.data.toList
  have h3 : s.data.toList.length = s.size := by simp
  omega
 go_enter Tryz.func91, Tryz.ntmps91
 go_wp2_with fail
 go_loopw [3, 4] (fun v iv wr => ∃ k : Nat, k ≤ s.size ∧ iv = .int .i64 k ∧ wr.ownsRow w.heap.size 5 1 v (escTs (s.data.toList.take k)).length (bytesV (escTs (s.data.toList.take k))) ∧ Below w.heap.size w wr) (fun _ iv _ => s.size - (Go.RowKit.intOf iv).toNat)
 case atStart => exact ⟨0, by omega, rfl, World.ownsRow_nil _ _ _ _, Below.refl _ _⟩
 case round =>
  obtain ⟨k, hk, rfl, hown, hb⟩ := hrel
  have HO := Lib.hid hown
  have HB := Lib.hid hb
  have hsz := hb.size
  clear hown hb
  by_cases hlt : k < s.size
  ·
   have HT : Hid (escTs (s.data.toList.take (k + 1)) = escTs (s.data.toList.take k) ++ escT s[k]) := Lib.hid (by
    rw [List.take_succ_eq_append_getElem (by simpa using hlt), escTs_append]
    simp [escTs]
    rfl)
   have hx := s[k].toNat_lt
   have hl2 := HLn.out k
   by_cases hz : s[k] = 0
   ·
    have hzn : s[k].toNat = 0 := by rw [hz]; rfl
    have t0 : ((s[k].toNat : Int) == 0) = true := beq_iff_eq.2 (by omega)
    have HE : Hid ((bytesV (escTs (s.data.toList.take k)) ++ [Value.int .u8 (s[k].toNat : Int)]) ++ [Value.int .u8 255] = bytesV (escTs (s.data.toList.take (k + 1))) ∧ ((escTs (s.data.toList.take k)).length + 1) + 1 = (escTs (s.data.toList.take (k + 1))).length) := Lib.hid (by
     rw [HT.out, hz, bytesV_append]
     exact ⟨by simp [escT, bytesV], by simp [escT]⟩)
    clear hz hzn
    go_wp2_with (at_builtin; refine Hid.out ?_)
    refine Lib.hid ?_
    refine wpList_append_own _ rfl _ _ 113 rfl w.heap.size 5 i0 (.int .u8 0) 1 1 undBs hi hz0 hz1 hz2 rfl (by decide) _ _ _ rfl (HO.out.alloc _) ⟨wr.heap.size, 0, none⟩ 1 1 [.int .u8 (s[k].toNat : Int)] rfl rfl (cells_new _ _ _) (by intro u hu; simp at hu; subst hu; rfl) (by unfold maxLen; omega) (by omega) (by simp; omega) ?_
    intro v' w3 hown' hgrow _
    have HO2 := Lib.hid hown'
    have HB2 : Hid (Below w.heap.size w w3) := Lib.hid ((HB.out.alloc hsz _).grown hgrow (by simp; omega) (fun k hk => HO.out.block_ge hk))
    have hsz2 := HB2.out.size
    clear hown' hgrow
    go_wp2_with (at_builtin; refine Hid.out ?_)
    refine Lib.hid ?_
    refine wpList_append_own _ rfl _ _ 113 rfl w.heap.size 5 i0 (.int .u8 0) 1 1 undBs hi hz0 hz1 hz2 rfl (by decide) _ _ _ rfl (HO2.out.alloc _) ⟨w3.heap.size, 0, none⟩ 1 1 [.int .u8 255] rfl rfl (cells_new _ _ _) (by intro u hu; simp at hu; subst hu; rfl) (by unfold maxLen; omega) (by omega) (by simp; omega) ?_
    intro v2 w4 hown' hgrow _
    have HO3 : Hid (w4.ownsRow w.heap.size 5 1 v2 (escTs (s.data.toList.take (k + 1))).length (bytesV (escTs (s.data.toList.take (k + 1))))) := Lib.hid (by
     rw [← HE.out.1, ← HE.out.2]
     exact hown')
    have HB3 : Hid (Below w.heap.size w w4) := Lib.hid ((HB2.out.alloc hsz2 _).grown hgrow (by simp; omega) (fun k hk => HO2.out.block_ge hk))
    clear hown' hgrow
    go_wp2_with fail
    go_roundw
    case rel => exact ⟨k + 1, by omega, by go_num, HO3.out, HB3.out⟩
    case measure => simp [Go.RowKit.intOf]; omega
   ·
    have hzn : ¬ s[k].toNat = 0 := fun e => hz (UInt8.toNat_inj.1 (by rw [e]; rfl))
    have t0 : ((s[k].toNat : Int) == 0) = false := beq_eq_false_iff_ne.2 (by omega)
    have HE : Hid (bytesV (escTs (s.data.toList.take k)) ++ [Value.int .u8 (s[k].toNat : Int)] = bytesV (escTs (s.data.toList.take (k + 1))) ∧ (escTs (s.data.toList.take k)).length + 1 = (escTs (s.data.toList.take (k + 1))).length) := Lib.hid (by
     rw [HT.out, bytesV_append, escT, if_neg hz]
     exact ⟨by simp [bytesV], by simp⟩)
    clear hz hzn
    go_wp2_with (at_builtin; refine Hid.out ?_)
    refine Lib.hid ?_
    refine wpList_append_own _ rfl _ _ 113 rfl w.heap.size 5 i0 (.int .u8 0) 1 1 undBs hi hz0 hz1 hz2 rfl (by decide) _ _ _ rfl (HO.out.alloc _) ⟨wr.heap.size, 0, none⟩ 1 1 [.int .u8 (s[k].toNat : Int)] rfl rfl (cells_new _ _ _) (by intro u hu; simp at hu; subst hu; rfl) (by unfold maxLen; omega) (by omega) (by simp; omega) ?_
    intro v' w3 hown' hgrow _
    have HO3 : Hid (w3.ownsRow w.heap.size 5 1 v' (escTs (s.data.toList.take (k + 1))).length (bytesV (escTs (s.data.toList.take (k + 1))))) := Lib.hid (by
     rw [← HE.out.1, ← HE.out.2]
     exact hown')
    have HB3 : Hid (Below w.heap.size w w3) := Lib.hid ((HB.out.alloc hsz _).grown hgrow (by simp; omega) (fun k hk => HO.out.block_ge hk))
    clear hown' hgrow
    go_wp2_with fail
    go_roundw
    case rel => exact ⟨k + 1, by omega, by go_num, HO3.out, HB3.out⟩
    case measure => simp [Go.RowKit.intOf]; omega
  ·
   obtain rfl : k = s.size := by omega
   have hl2 := HLn.out s.size
   have htk : s.data.toList.take s.size = s.data.toList := List.take_of_length_le (by simp)
   rw [htk] at HO hl2
   have HE : Hid (bytesV (escTs s.data.toList) ++ [Value.int .u8 0, Value.int .u8 1] = bytesV (textL s.data.toList)) := Lib.hid (by
    unfold textL
    rw [bytesV_append]
    rfl)
   clear hlt hk htk
   go_wp2_with (at_builtin; refine Hid.out ?_)
   refine Lib.hid ?_
   refine wpList_append_own _ rfl _ _ 113 rfl w.heap.size 5 i0 (.int .u8 0) 1 1 undBs hi hz0 hz1 hz2 rfl (by decide) _ _ _ rfl (HO.out.alloc _) ⟨wr.heap.size, 0, none⟩ 2 2 [.int .u8 0, .int .u8 1] rfl rfl (cells_new _ _ _) (by intro u hu; simp at hu; rcases hu with rfl | rfl <;> rfl) (by unfold maxLen; omega) (by omega) (by simp; omega) ?_
   intro v' w3 hown' hgrow _
   have HO3 : Hid (w3.ownsRow w.heap.size 5 1 v' ((escTs s.data.toList).length + 2) (bytesV (textL s.data.toList))) := Lib.hid (by
    rw [← HE.out]
    exact hown')
   have HB3 : Hid (Below w.heap.size w w3) := Lib.hid ((HB.out.alloc hsz _).grown hgrow (by simp; omega) (fun k hk => HO.out.block_ge hk))
   clear hown' hgrow
   go_wp2_with (refine wpList_string_own rfl 113 9 5 _ rfl undBs undB undS _ rfl w.heap.size _ (textL s.data.toList) HO3.out ?_)
   go_wp2_with fail
   go_ret
   exact ⟨rfl, HB3.out⟩
end Go.Proofs.YtjbjpkhibcnenaaGreatDoor
/- append to a slice of the call's own, as one step of a region that draws its order. -/
namespace Go.Proofs.YtjbjpkhibcnenaaGreatDoor
open Go.RowKit
theorem step_append_own {P : Program} {ops : Array Oper} {o : Oper} {a : Act} {w : World} {K : Act → World → Prop} {Q : Exit → Act → World → Prop} {E : Prop}
 (hg : o.guard = none) (s x : Operand) (t : TypeId)
 (ho : o.op = .call { callee := .builtin .append, args := #[s, x], argTypes := #[t, t] })
 (base : Nat) (e : TypeId) (i : TypeInfo) (z : Value) (size bytes : Nat) (ht : P.underlying t = some (.slice e)) (hi : P.info? e = some i) (hz : i.zero = some z)
 (hsize : i.size = size) (hby : i.bytes = bytes) (hzs : z.cells.size = size) (hsz : 0 < size)
 (v : Value) (n : Nat) (xs : List Value) (hs : a.eval s = v) (hown : w.ownsRow base e size v n xs)
 (ad : Addr) (m c : Nat) (news : List Value) (hx : a.eval x = .slice (some ad) m c) (hl : news.length = m * size) (hnews : ∀ j u, news[j]? = some u → w.cell? (ad.add j) = some u) (h1 : ∀ u ∈ news, u.oneCell' = true)
 (h63 : n + m ≤ maxLen) (hbytes : (n + m) * bytes ≤ 140737488355328) (hbase : base ≤ w.heap.size)
 (h : ∀ v' w', w'.ownsRow base e size v' (n + m) (xs ++ news) → w.grownBy w' v.ownBlock → (v' = .slice none 0 0 ↔ v = .slice none 0 0 ∧ m = 0) → K (a.put o.dst v') w') :
 if Region.wanted o (yielded ops a.tmps) = true then Oper.wp P o a w K Q else E := by
 have hw : Region.wanted o (yielded ops a.tmps) = true := by simp [Region.wanted, hg]
 rw [if_pos hw]
 exact wp_append_own _ s x t ho base e i z size bytes ht hi hz hsize hby hzs hsz v n xs hs hown ad m c news hx hl hnews h1 h63 hbytes hbase h
end Go.Proofs.YtjbjpkhibcnenaaGreatDoor
