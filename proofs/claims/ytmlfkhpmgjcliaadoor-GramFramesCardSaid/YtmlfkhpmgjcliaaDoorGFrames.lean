/- bournelaw24.GramFrames returns true. -/
import Derived.Test.YtmlfkhpmgjcliaaDoorGFrArg
import Derived.Test.YtmlfkhpmgjcliaaDoorWRefA
import Derived.Deep.AppendSrc
namespace Go.Proofs.YtmlfkhpmgjcliaaDoor
open Go.RowKit
theorem infoGm : ∃ i z, Tryd.prog.info? 23 = some i ∧ i.size = 5 ∧ i.zero = some z ∧ z.cells.size = 5 ∧ i.bytes * 64 ≤ 140737488355328 := by
  have h : (Tryd.prog.info? 23).map (fun i => (i.size, i.zero.map (fun z => z.cells.size), decide (i.bytes * 64 ≤ 140737488355328))) = some (5, some 5, true) := by kernel_rfl
  cases hi : Tryd.prog.info? 23 with
  | none => rw [hi] at h; cases h
  | some i =>
    rw [hi] at h
    simp only [Option.map_some, Option.some.injEq, Prod.mk.injEq] at h
    obtain ⟨h1, h2, h3⟩ := h
    cases hz : i.zero with
    | none => rw [hz] at h2; cases h2
    | some z =>
      rw [hz] at h2
      simp only [Option.map_some, Option.some.injEq] at h2
      exact ⟨i, z, rfl, h1, hz, h2, of_decide_eq_true h3⟩
theorem owns_below {w w' : World} {base size n : Nat} {e : TypeId} {v : Value} {xs : List Value} (h : w.ownsRow base e size v n xs) (hb : Below w.heap.size w w') : w'.ownsRow base e size v n xs :=
  h.kept (row := none) ⟨hb.os, hb.tape, hb.output, hb.size, fun k hk _ => hb.block k hk⟩ (by cases v.ownBlock <;> simp)
theorem wpList_append_src2 {P : Program} (w : World) {ops : Array Oper} {rest : List Oper} {o : Oper} {a : Act} {Q : Exit → Act → World → Prop} (hgd : o.guard = none) (s x : Operand) (t : TypeId)
    (ho : o.op = .call { callee := .builtin .append, args := #[s, x], argTypes := #[t, t] })
    (base base2 : Nat) (e : TypeId) (i : TypeInfo) (z : Value) (bytes : Nat) (ht : P.underlying t = some (.slice e)) (hi : P.info? e = some i) (hz : i.zero = some z)
    (hsize : i.size = 1) (hby : i.bytes = bytes) (hzs : z.cells.size = 1)
    (v : Value) (n : Nat) (xs : List Value) (hs : a.eval s = v) (hown : w.ownsRow base e 1 v n xs)
    (sv : Value) (m : Nat) (ys : List Value) (hx : a.eval x = sv) (hsrc : w.ownsRow base2 e 1 sv m ys) (h1 : ∀ u ∈ ys, u.oneCell' = true)
    (h63 : n + m ≤ maxLen) (hbytes : (n + m) * bytes ≤ 140737488355328) (hbase : base ≤ w.heap.size)
    (h : ∀ v' w', w'.ownsRow base e 1 v' (n + m) (xs ++ ys) → w.grownBy w' v.ownBlock → wpList P ops Q rest (a.put o.dst v') w') : wpList P ops Q (o :: rest) a w := by
  rcases hsrc.2 with ⟨rfl, rfl⟩ | ⟨g, cap, cur, rfl, hg, hh, hnc, hcm, hcs, htk⟩
  · have hy : ys = [] := List.eq_nil_of_length_eq_zero (by have := hsrc.1; omega)
    subst hy
    have hr := run_append_nil (P := P) w t o.type ht hi hown
    have hk := h v w (by simpa using hown) (grown_refl _ _)
    refine wpList_plain hgd fun K hK => ?_
    unfold Oper.wp execOp
    simp only [ho, resolve, invoke, builtin, Sem.run_bind, Sem.run_pure, Result.andThen_ok, List.map_toArray, List.map_cons, List.map_nil, hs, hx, hr]
    exact hK _ _ hk
  · refine wpList_append_own w hgd s x t ho base e i z 1 bytes ht hi hz hsize hby hzs (by decide) v n xs hs hown ⟨g, 0, none⟩ m cap ys hx (by have := hsrc.1; omega) (fun j u hj => ?_) h1 h63 hbytes hbase (fun v' w' h2 h3 _ => h v' w' h2 h3)
    rw [Addr.add_mid, Nat.zero_add, cell_of_row _ _ _ _ _ _ hh]
    have hyl := hsrc.1
    have hjl : j < ys.length := (List.getElem?_eq_some_iff.1 hj).1
    have h2 : (cur.toList.take (m * 1))[j]? = ys[j]? := by rw [htk]
    rw [List.getElem?_take, if_pos (by omega), hj] at h2
    simpa using h2
/-- v is a slice of the strings L, in a block that exists -/
def StArg (v : Value) (L : List (List UInt8)) (w : World) : Prop :=
  ∃ a c, v = .slice a L.length c ∧ ∀ j l, L[j]? = some l → ∃ b, a = some ⟨b, 0, none⟩ ∧ b < w.heap.size ∧ w.cell? ⟨b, j, none⟩ = some (.string ⟨l.toArray⟩)
theorem StArg.below {v : Value} {L : List (List UInt8)} {w w' : World} (h : StArg v L w) (hb : Below w.heap.size w w') : StArg v L w' := by
  obtain ⟨a, c, rfl, h⟩ := h
  refine ⟨a, c, rfl, fun j l hj => ?_⟩
  obtain ⟨b, h1, h2, h3⟩ := h j l hj
  exact ⟨b, h1, Nat.lt_of_lt_of_le h2 hb.size, (hb.cell (p := ⟨b, j, none⟩) h2).trans h3⟩
theorem StArg.of_owns {w : World} {base n : Nat} {v : Value} {L : List (List UInt8)} (h : w.ownsRow base 9 1 v n (strV L)) : StArg v L w := by
  have hn : n = L.length := by
    have := h.1
    rw [strV_length] at this
    omega
  subst hn
  rcases h.2 with ⟨rfl, h0⟩ | ⟨g, cap, cur, rfl, hg, hh, hnc, _, hcs, htk⟩
  · exact ⟨none, 0, by rw [h0], fun j x hj => by
      have := (List.getElem?_eq_some_iff.1 hj).1
      omega⟩
  · refine ⟨_, _, rfl, fun j l hj => ⟨g, rfl, blk_lt hh, ?_⟩⟩
    have h1 : (strV L)[j]? = some (.string ⟨l.toArray⟩) := by
      unfold strV
      rw [List.getElem?_map, hj]
      rfl
    rw [← htk, List.getElem?_take] at h1
    split at h1
    · rw [cell_of_row _ _ _ _ _ _ hh, ← Array.getElem?_toList]
      exact h1
    · cases h1
theorem r5_step {cur w' : World} {b o : Nat} {a0 a1 a2 a3 a4 : Value} (h : cur.cell? ⟨b, o, none⟩ = some a0 ∧ cur.cell? ⟨b, o + 1, none⟩ = some a1 ∧ cur.cell? ⟨b, o + 2, none⟩ = some a2 ∧ cur.cell? ⟨b, o + 3, none⟩ = some a3 ∧ cur.cell? ⟨b, o + 4, none⟩ = some a4 ∧ b < cur.heap.size) (hb : Below cur.heap.size cur w') : w'.cell? ⟨b, o, none⟩ = some a0 ∧ w'.cell? ⟨b, o + 1, none⟩ = some a1 ∧ w'.cell? ⟨b, o + 2, none⟩ = some a2 ∧ w'.cell? ⟨b, o + 3, none⟩ = some a3 ∧ w'.cell? ⟨b, o + 4, none⟩ = some a4 ∧ b < w'.heap.size := by
  obtain ⟨h0, h1, h2, h3, h4, hl⟩ := h
  exact ⟨(hb.cell (p := ⟨b, o, none⟩) hl).trans h0, (hb.cell (p := ⟨b, o + 1, none⟩) hl).trans h1, (hb.cell (p := ⟨b, o + 2, none⟩) hl).trans h2, (hb.cell (p := ⟨b, o + 3, none⟩) hl).trans h3, (hb.cell (p := ⟨b, o + 4, none⟩) hl).trans h4, Nat.lt_of_lt_of_le hl hb.size⟩
theorem r5_range {cur : World} {b o : Nat} {a0 a1 a2 a3 a4 : Value} (h : cur.rangeAt b o [a0, a1, a2, a3, a4]) (hl : b < cur.heap.size) : cur.cell? ⟨b, o, none⟩ = some a0 ∧ cur.cell? ⟨b, o + 1, none⟩ = some a1 ∧ cur.cell? ⟨b, o + 2, none⟩ = some a2 ∧ cur.cell? ⟨b, o + 3, none⟩ = some a3 ∧ cur.cell? ⟨b, o + 4, none⟩ = some a4 ∧ b < cur.heap.size :=
  ⟨h 0 _ rfl, h 1 _ rfl, h 2 _ rfl, h 3 _ rfl, h 4 _ rfl, hl⟩
theorem str_one (ls : List (List UInt8)) : ∀ u ∈ strV ls, u.oneCell' = true := by
  intro u hu
  obtain ⟨p, _, rfl⟩ := List.mem_map.1 hu
  rfl
/-- a row of telegrams of the call's own, as an argument would be -/
theorem GsArg.of_owns {w : World} {base n : Nat} {v : Value} {W : List GV} (h : w.ownsRow base 23 5 v n (gRow W)) (hok : ∀ x ∈ W, GOk x) : GsArg v W w := by
  have hn : n = W.length := by
    have := h.1
    rw [gRow_len] at this
    omega
  subst hn
  rcases h.2 with ⟨rfl, h0⟩ | ⟨g, cap, cur, rfl, hg, hh, hnc, _, hcs, htk⟩
  · exact ⟨none, 0, by rw [h0], fun j x hj => by
      have := (List.getElem?_eq_some_iff.1 hj).1
      omega⟩
  · refine ⟨_, _, rfl, fun j x hj => ⟨g, 0, rfl, blk_lt hh, fun i u hi => ?_, hok x (List.mem_of_getElem? hj)⟩⟩
    have h1 := gRow_get W j x hj i u hi
    rw [← htk, List.getElem?_take] at h1
    split at h1
    · rw [cell_of_row _ _ _ _ _ _ hh]
      rw [Nat.zero_add, ← Array.getElem?_toList]
      exact h1
    · cases h1
set_option maxRecDepth 100000 in
set_option maxHeartbeats 8000000 in
theorem frames_core (s : ByteArray) (v : Value) (gs : List GV) (cut : Int) (w : World) (h : GsArg v gs w) (hl : (gs.length : Int) ≤ maxLen) (hG : Glob w) (hM : MLen w) :
    Calls Tryd.prog 7 #[.string s, v, .int .i64 cut] w fun e w' => e = .returned (.bool true) ∧ Below w.heap.size w w' := by
  obtain ⟨i0, hi, hz0, hz1, hz2⟩ := info_parts infoS
  obtain ⟨fs, hu⟩ := undG
  obtain ⟨ig, zg, hig, hsz, hzg, hcz, hbg⟩ := infoGm
  have HV := Lib.hid h
  have HG := Lib.hid hG
  have HM := Lib.hid hM
  have hv : ∃ a c, v = .slice a gs.length c := by obtain ⟨a, c, hv, _⟩ := h; exact ⟨a, c, hv⟩
  obtain ⟨av, cv, rfl⟩ := hv
  unfold maxLen at hl
  clear h hG hM
  go_enter Tryd.func7, Tryd.ntmps7
  go_wp2_with fail
  refine (small_any _ HG.out HM.out).mono ?_
  rintro e w1 ⟨rfl, hb⟩
  have HB1 := Lib.hid hb
  clear hb
  go_wp2_with fail
  refine (short_any _ _ _ _).mono ?_
  rintro e w1' ⟨rfl, rfl⟩
  by_cases hsh : s.size ≤ 300 ∧ (⟨#[]⟩ : ByteArray).size ≤ 300 ∧ (⟨#[]⟩ : ByteArray).size ≤ 300
  case neg =>
    rw [decide_eq_false hsh]
    go_wp2_with fail
    go_ret
    exact ⟨rfl, HB1.out⟩
  rw [decide_eq_true hsh]
  have hs1 := hsh.1
  clear hsh
  by_cases hl10 : 10 < gs.length
  · go_wp2_with fail
    go_ret
    exact ⟨rfl, HB1.out⟩
  go_wp2_with fail
  go_loopw [8, 9, 10] (fun sv wv iv wr => ∃ (k : Nat) (S : ByteArray), k ≤ gs.length ∧ iv = .int .i64 k ∧ sv = .string S ∧ S.data.toList = strmL (wantL s (gs.take k)) ∧ wr.ownsRow w.heap.size 23 5 wv (wantL s (gs.take k)).length (gRow (wantL s (gs.take k))) ∧ Below w.heap.size w wr) (fun _ _ iv _ => gs.length - (intOf iv).toNat)
  case atStart => exact ⟨0, ⟨#[]⟩, by omega, rfl, rfl, rfl, World.ownsRow_nil _ _ _ _, HB1.out⟩
  case round =>
    obtain ⟨k, S, hk, rfl, rfl, hS, hown, hB⟩ := hrel
    have HB := Lib.hid hB
    have HS := Lib.hid hS
    have HW := Lib.hid hown
    clear hB hS hown HB1
    by_cases hlt : k < gs.length
    · have H1 : Hid (gs[k]? = some gs[k]) := Lib.hid (List.getElem?_eq_getElem hlt)
      obtain ⟨a2, c2, he, hel⟩ := HV.out.below HB.out
      obtain ⟨b, o, ha, hb, hat, hok⟩ := hel k _ H1.out
      simp only [Value.slice.injEq] at he
      obtain ⟨rfl, _, rfl⟩ := he
      subst ha
      have HOx := Lib.hid hok
      have HRg := Lib.hid hat
      have HSn := Lib.hid (wantL_snoc s H1.out)
      have hSz : S.size ≤ 30000 := by
        have h1 := strmL_len (wantL s (gs.take k))
        have h2 := wantL_len s (gs.take k)
        have h3 : (gs.take k).length ≤ k := List.length_take_le _ _
        have h4 : S.size = S.data.toList.length := by simp
        have h5 := HS.out
        rw [h4, h5]
        have h6 : 2050 * (wantL s (gs.take k)).length ≤ 2050 * 10 := Nat.mul_le_mul_left _ (by omega)
        omega
      have hWl : (wantL s (gs.take k)).length ≤ 10 := by
        have h2 := wantL_len s (gs.take k)
        have h3 : (gs.take k).length ≤ k := List.length_take_le _ _
        omega
      clear hel hat hok hb
      generalize gs[k] = g at *
      go_wp2_with (refine wpList_load_mid rfl 23 _ rfl b (o + k * 5) rfl (gCl g) _ HRg.out hu rfl infoG ?_)
      obtain ⟨x, hx⟩ : ∃ x, x = sealG s g := ⟨_, rfl⟩
      obtain ⟨X, hX⟩ : ∃ X, X = (⟨(gramL x).toArray⟩ : ByteArray) := ⟨_, rfl⟩
      obtain ⟨E, hE⟩ : ∃ E, E = (⟨(encL (gramL x)).toArray⟩ : ByteArray) := ⟨_, rfl⟩
      have hXs : X.size ≤ 60 := by rw [hX]; exact gramL_len x
      have hEs : E.size ≤ 2050 := by rw [hE]; exact encL_len _
      have HT8 : Hid (x.tag.size ≤ 300) := Lib.hid (by rw [hx]; exact Nat.le_trans (Nat.le_of_eq (tagL_len s g)) (by decide))
      have HOs : Hid (GOk x) := Lib.hid (by rw [hx]; exact HOx.out)
      have HSe : Hid (∀ w', Glob w' → MLen w' → Calls Tryd.prog 12 #[.string s, .agg (gCl g).toArray] w' fun e w'' => e = .returned (.agg #[.int .i64 x.gauge, .int .i64 x.seq, .int .i64 x.clock, .int .i64 x.value, .string x.tag]) ∧ Below w'.heap.size w' w'') := Lib.hid (fun w' h1 h2 => by rw [hx]; exact seal_any s g w' hs1 HOx.out h1 h2)
      have HBy : Hid (∀ w', MLen w' → Calls Tryd.prog 18 #[.agg #[.int .i64 x.gauge, .int .i64 x.seq, .int .i64 x.clock, .int .i64 x.value, .string x.tag]] w' fun e w'' => e = .returned (.string X) ∧ Below w'.heap.size w' w'') := Lib.hid (fun w' h => by rw [hX]; exact bytes_any x w' HOs.out h HT8.out)
      have HEn : Hid (∀ w', Calls Tryd.prog 23 #[.string X] w' fun e w'' => e = .returned (.string E) ∧ Below w'.heap.size w' w'') := Lib.hid (fun w' => by
        have := encode_any X w' (by omega)
        rw [show X.data.toList = gramL x from by rw [hX], ← hE] at this
        exact this)
      have hne := ne_gram x
      rw [← hX] at hne
      have HEd : Hid (E.data.toList = encL (gramL x)) := Lib.hid (by rw [hE])
      rw [← hx] at HSn
      clear hX hE hx
      refine (HSe.out _ (HG.out.below HB.out HG.out.size) (HM.out.up HB.out)).mono ?_
      rintro e w2 ⟨rfl, hb⟩
      have HB2 := Lib.hid ((HB.out.trans (hb.mono HB.out.size)).alloc (HB.out.trans (hb.mono HB.out.size)).size (.cells #[.int .i64 x.gauge, .int .i64 x.seq, .int .i64 x.clock, .int .i64 x.value, .string x.tag] 23))
      have HW2 := Lib.hid ((owns_below HW.out hb).alloc (.cells #[.int .i64 x.gauge, .int .i64 x.seq, .int .i64 x.clock, .int .i64 x.value, .string x.tag] 23))
      have HX2 := Lib.hid (heap_alloc_new w2 (.cells #[.int .i64 x.gauge, .int .i64 x.seq, .int .i64 x.clock, .int .i64 x.value, .string x.tag] 23))
      clear hb HB HW
      go_wp2_with fail
      generalize w2.alloc (.cells #[.int .i64 x.gauge, .int .i64 x.seq, .int .i64 x.clock, .int .i64 x.value, .string x.tag] 23) = v2 at *
      generalize w2.heap.size = px at *
      refine (HBy.out _ (HM.out.up HB2.out)).mono ?_
      rintro e w3 ⟨rfl, hb⟩
      have HB3 := Lib.hid (HB2.out.trans (hb.mono HB2.out.size))
      have HW3 := Lib.hid (owns_below HW2.out hb)
      have HX3 := Lib.hid (blk_below HX2.out hb (blk_lt HX2.out))
      clear hb HB2 HW2 HX2
      by_cases hf : Formed x
      · rw [decide_eq_true hf, Bool.not_true] at hne
        rw [if_pos hf] at HSn
        clear hf
        obtain ⟨x0, x1, x2, x3, x4⟩ := row5 HX3.out
        go_wp2_with (at_builtin; refine Hid.out ?_)
        have HW4 := Lib.hid (HW3.out.alloc (.cells #[.int .i64 x.gauge, .int .i64 x.seq, .int .i64 x.clock, .int .i64 x.value, .string x.tag] 23))
        have HB4 := Lib.hid (HB3.out.alloc HB3.out.size (.cells #[.int .i64 x.gauge, .int .i64 x.seq, .int .i64 x.clock, .int .i64 x.value, .string x.tag] 23))
        have hnew : ∀ j u, (gCl x)[j]? = some u → (w3.alloc (.cells #[.int .i64 x.gauge, .int .i64 x.seq, .int .i64 x.clock, .int .i64 x.value, .string x.tag] 23)).cell? ((⟨w3.heap.size, 0, none⟩ : Addr).add j) = some u := fun j u hj => by
          rw [Addr.add_mid, Nat.zero_add, cell_of_row _ _ _ _ _ _ (heap_alloc_new w3 (.cells #[.int .i64 x.gauge, .int .i64 x.seq, .int .i64 x.clock, .int .i64 x.value, .string x.tag] 23))]
          rw [← Array.getElem?_toList]
          exact hj
        clear x0 x1 x2 x3 x4
        refine Lib.hid ?_
        refine wpList_append_own _ rfl _ _ 47 rfl w.heap.size 23 ig zg 5 ig.bytes undGms hig hzg hsz rfl hcz (by decide) _ _ _ rfl HW4.out ⟨w3.heap.size, 0, none⟩ 1 1 (gCl x) rfl rfl hnew (gCl_one x) (by unfold maxLen; omega) (Nat.le_trans (Nat.mul_le_mul_right _ (show (wantL s (gs.take k)).length + 1 ≤ 64 by omega)) (by rw [Nat.mul_comm]; exact hbg)) HB4.out.size ?_
        intro v' w4 hown4 hgr4 _
        have HW5 : Hid (w4.ownsRow w.heap.size 23 5 v' (wantL s (gs.take (k + 1))).length (gRow (wantL s (gs.take (k + 1))))) := Lib.hid (by
          rw [HSn.out, gRow_snoc, List.length_append]
          exact hown4)
        have HB5 := Lib.hid (HB4.out.grown hgr4 HB4.out.size (fun q e => HW4.out.block_ge e))
        clear hown4 hgr4 hnew HW4 HB4 HW3 HB3 HX3
        go_wp2_with fail
        refine (HEn.out _).mono ?_
        rintro e w6 ⟨rfl, hb⟩
        have HW6 := Lib.hid (owns_below HW5.out hb)
        have HB6 := Lib.hid (HB5.out.trans (hb.mono HB5.out.size))
        clear hb HW5 HB5
        have hcat : ¬ 9223372036854775807 < S.size + E.size := by omega
        have HSt : Hid ((S ++ E).data.toList = strmL (wantL s (gs.take (k + 1)))) := Lib.hid (by
          rw [HSn.out, strmL_snoc, ByteArray.data_append, Array.toList_append, HS.out, HEd.out])
        go_wp2_with fail
        go_roundw
        case rel => exact ⟨k + 1, _, by omega, by go_num, rfl, HSt.out, HW6.out, HB6.out⟩
        case measure => simp [intOf]; omega
      · rw [decide_eq_false hf, Bool.not_false] at hne
        rw [if_neg hf, List.append_nil] at HSn
        clear hf
        go_wp2_with fail
        go_roundw
        case rel => exact ⟨k + 1, _, by omega, by go_num, rfl, by rw [HSn.out]; exact HS.out, by rw [HSn.out]; exact HW3.out, HB3.out⟩
        case measure => simp [intOf]; omega
    · obtain rfl : k = gs.length := by omega
      rw [List.take_length] at HS HW
      clear hlt hk
      have HWm : Hid (∀ x ∈ wantL s gs, Formed x ∧ genB s x = true) := Lib.hid (fun x hx => want_mem hx)
      have hWl : (wantL s gs).length ≤ 10 := Nat.le_trans (wantL_len s gs) (by omega)
      generalize wantL s gs = W at *
      obtain ⟨aw, cw, rfl, hwel⟩ := GsArg.of_owns HW.out (fun x hx => (HWm.out x hx).1.ok)
      have HWa : Hid (GsArg (.slice aw W.length cw) W wr) := Lib.hid ⟨aw, cw, rfl, hwel⟩
      have hSz : S.size ≤ 30000 := by
        have h1 := strmL_len W
        have h4 : S.size = S.data.toList.length := by simp
        have h5 := HS.out
        rw [h4, h5]
        have h6 : 2050 * W.length ≤ 2050 * 10 := Nat.mul_le_mul_left _ hWl
        omega
      clear hwel HW
      by_cases hc0 : cut < 0
      · go_wp2_with fail
        go_ret
        exact ⟨rfl, HB.out⟩
      by_cases hc1 : (S.size : Int) < cut
      · go_wp2_with fail
        go_ret
        exact ⟨rfl, HB.out⟩
      obtain ⟨q, hq⟩ : ∃ q : Nat, cut = (q : Int) := ⟨cut.toNat, by omega⟩
      subst hq
      have hqS : q ≤ S.size := by omega
      have hq1 : (q : Int) ≤ (S.size : Int) := by omega
      have hq2 : 0 ≤ (q : Int) := by omega
      have hq3 : ((q : Int)).toNat = q := by omega
      have HX1 : Hid ((S.extract 0 q).data.toList = (strmL W).take q) := Lib.hid (by
        rw [← HS.out]
        simp)
      have HX2 : Hid ((S.extract q S.size).data.toList = (strmL W).drop q) := Lib.hid (by
        rw [← HS.out]
        have h1 : S.data.toList.length = S.size := by simp
        simp only [ByteArray.data_extract, Array.toList_extract, List.extract_eq_take_drop]
        exact List.take_of_length_le (by rw [List.length_drop]; omega))
      have HXs1 : (S.extract 0 q).size ≤ 30000 := by rw [ByteArray.size_extract]; omega
      have HXs2 : (S.extract q S.size).size ≤ 30000 := by rw [ByteArray.size_extract]; omega
      have HLaw := Lib.hid (frames_law W q)
      go_wp2_with fail
      refine (decode_any _ _ (by omega)).mono ?_
      rintro e w3 ⟨v3, rfl, hown3, hb⟩
      rw [HX1.out] at hown3 ⊢
      have hR1 : (⟨(restL ((strmL W).take q)).toArray⟩ : ByteArray).size ≤ 2049 := rest_len _
      have HR1 : Hid ((⟨(restL ((strmL W).take q)).toArray⟩ : ByteArray).data.toList = restL ((strmL W).take q)) := rfl
      have HB3 := Lib.hid (HB.out.trans (hb.mono HB.out.size))
      have HW3 := Lib.hid (HWa.out.below hb)
      have HO3 := Lib.hid (row_base hown3 HB.out.size)
      clear hb hown3 HB HWa
      generalize (⟨(restL ((strmL W).take q)).toArray⟩ : ByteArray) = R at *
      have hcat : ¬ 9223372036854775807 < R.size + (S.extract q S.size).size := by omega
      have HRX : Hid ((R ++ S.extract q S.size).data.toList = restL ((strmL W).take q) ++ (strmL W).drop q) := Lib.hid (by
        rw [ByteArray.data_append, Array.toList_append, HR1.out, HX2.out])
      go_wp2_with fail
      refine (decode_any _ _ (by rw [ByteArray.size_append]; omega)).mono ?_
      rintro e w4 ⟨v4, rfl, hown4, hb⟩
      rw [HRX.out] at hown4
      have HB4 := Lib.hid (HB3.out.trans (hb.mono HB3.out.size))
      have HW4 := Lib.hid (HW3.out.below hb)
      have HO4 := Lib.hid (owns_below HO3.out hb)
      have HP4 := Lib.hid (row_base hown4 HB3.out.size)
      clear hb hown4 HB3 HW3 HO3
      generalize (⟨(restL (R ++ S.extract q S.size).data.toList).toArray⟩ : ByteArray) = R2 at *
      have hsum : (decL ((strmL W).take q)).length + (decL (restL ((strmL W).take q) ++ (strmL W).drop q)).length = W.length := by
        rw [← List.length_append, HLaw.out, List.length_map]
      generalize decL ((strmL W).take q) = l1 at *
      generalize decL (restL ((strmL W).take q) ++ (strmL W).drop q) = l2 at *
      have hl1 : l1.length ≤ 10 := by omega
      have hl2 : l2.length ≤ 10 := by omega
      go_wp2_with (at_builtin; refine Hid.out ?_)
      have hAl := (Below.refl w4.heap.size w4).alloc (Nat.le_refl _) (.cells #[] 9)
      have HN5 : Hid ((w4.alloc (.cells #[] 9)).ownsRow w4.heap.size 9 1 (.slice (some ⟨w4.heap.size, 0, none⟩) 0 0) 0 []) := Lib.hid (owns_fresh w4 [] 9 w4.heap.size (Nat.le_refl _) (by unfold maxLen; simp))
      have HO5 := Lib.hid (owns_below HO4.out hAl)
      refine Lib.hid ?_
      refine wpList_append_src2 _ rfl _ _ 27 rfl w4.heap.size w.heap.size 9 i0 (.string ⟨#[]⟩) 16 undSs hi hz0 hz1 hz2 rfl _ 0 [] rfl HN5.out _ _ (strV l1) rfl HO5.out (str_one l1) (by unfold maxLen; omega) (by omega) hAl.size ?_
      intro v5 w5 hown5 hgr5
      have hBl5 := hAl.grown hgr5 hAl.size (fun q e => HN5.out.block_ge e)
      have HP5 := Lib.hid (owns_below HP4.out hBl5)
      have HO6 := Lib.hid hown5
      clear hAl HN5 HO5 hgr5 hown5 HO4
      go_wp2_with (at_builtin; refine Hid.out ?_)
      refine Lib.hid ?_
      refine wpList_append_src2 _ rfl _ _ 27 rfl w4.heap.size w.heap.size 9 i0 (.string ⟨#[]⟩) 16 undSs hi hz0 hz1 hz2 rfl _ _ _ rfl HO6.out _ _ (strV l2) rfl HP5.out (str_one l2) (by unfold maxLen; omega) (by omega) hBl5.size ?_
      intro v6 w6 hown6 hgr6
      have hBl6 := hBl5.grown hgr6 hBl5.size (fun q e => HO6.out.block_ge e)
      have HB6 := Lib.hid (HB4.out.trans (hBl6.mono HB4.out.size))
      have HW6 := Lib.hid (HW4.out.below hBl6)
      have hst : StArg v6 (W.map gramL) w6 := by
        refine StArg.of_owns (base := w4.heap.size) (n := 0 + l1.length + l2.length) ?_
        rw [← HLaw.out, strV_append]
        exact hown6
      have HA6 := Lib.hid hst
      obtain ⟨aa, ca, rfl, _⟩ := hst
      clear hBl5 hBl6 HP5 HP4 HO6 hgr6 hown6 HB4 HW4
      have hml : (W.map gramL).length = W.length := List.length_map _
      have HML := Lib.hid hml
      rw [hml]
      clear hml
      go_wp2_with fail
      go_loopw [18] (fun iv wr => ∃ k : Nat, k ≤ W.length ∧ iv = .int .i64 k ∧ Below w6.heap.size w6 wr) (fun iv _ => W.length - (intOf iv).toNat)
      case atStart => exact ⟨0, by omega, rfl, Below.refl _ _⟩
      case round =>
        obtain ⟨k, hk, rfl, hB⟩ := hrel
        have HBr := Lib.hid hB
        clear hB
        by_cases hlt : k < W.length
        · have H1 : Hid (W[k]? = some W[k]) := Lib.hid (List.getElem?_eq_getElem hlt)
          obtain ⟨a2, c2, he, hel⟩ := HW6.out.below HBr.out
          obtain ⟨b, o, ha, hb, hat, hok⟩ := hel k _ H1.out
          simp only [Value.slice.injEq] at he
          obtain ⟨rfl, _, rfl⟩ := he
          subst ha
          obtain ⟨a3, c3, he3, hel3⟩ := HA6.out.below HBr.out
          obtain ⟨b3, ha3, hb3, hcell⟩ := hel3 k (gramL W[k]) (by rw [List.getElem?_map, H1.out]; rfl)
          rw [HML.out] at he3
          simp only [Value.slice.injEq] at he3
          obtain ⟨rfl, _, rfl⟩ := he3
          subst ha3
          have HWx := Lib.hid (HWm.out _ (List.mem_of_getElem? H1.out))
          have hki : (k : Int) < (W.length : Int) := by omega
          clear hel hel3
          generalize W[k] = x at *
          obtain ⟨X, hX⟩ : ∃ X, X = (⟨(gramL x).toArray⟩ : ByteArray) := ⟨_, rfl⟩
          rw [← hX] at hcell
          have HRe : Hid (∀ w', Calls Tryd.prog 10 #[.string X] w' fun e w'' => e = .returned (.tuple #[.agg #[.int .i64 x.gauge, .int .i64 x.seq, .int .i64 x.clock, .int .i64 x.value, .string x.tag], .bool true]) ∧ Below w'.heap.size w' w'') := Lib.hid (fun w' => by
            have := read_any X w' (by rw [hX]; exact Nat.le_trans (gramL_len x) (by decide))
            rw [show X.data.toList = gramL x from by rw [hX], read_enc HWx.out.1] at this
            exact this)
          have HGe : Hid (∀ w', Glob w' → MLen w' → Calls Tryd.prog 14 #[.string s, .agg #[.int .i64 x.gauge, .int .i64 x.seq, .int .i64 x.clock, .int .i64 x.value, .string x.tag]] w' fun e w'' => e = .returned (.bool true) ∧ Below w'.heap.size w' w'') := Lib.hid (fun w' h1 h2 => by
            have := genuine_any s x w' hs1 hok h1 h2
            rw [HWx.out.2] at this
            exact this)
          have HRg := Lib.hid hat
          clear hX hat hok HWx
          go_wp2_with fail
          refine (HRe.out _).mono ?_
          rintro e w7 ⟨rfl, hb7⟩
          have hAl := hb7.alloc hb7.size (.cells #[.int .i64 x.gauge, .int .i64 x.seq, .int .i64 x.clock, .int .i64 x.value, .string x.tag] 23)
          have HB8 := Lib.hid (HBr.out.trans (hAl.mono HBr.out.size))
          have HR8 := Lib.hid (rangeAt_belowG HRg.out hAl hb)
          have hb8 : b < (w7.alloc (.cells #[.int .i64 x.gauge, .int .i64 x.seq, .int .i64 x.clock, .int .i64 x.value, .string x.tag] 23)).heap.size := Nat.lt_of_lt_of_le hb hAl.size
          have HX8 := Lib.hid (heap_alloc_new w7 (.cells #[.int .i64 x.gauge, .int .i64 x.seq, .int .i64 x.clock, .int .i64 x.value, .string x.tag] 23))
          clear hAl hb7 HBr HRg hcell hb3 hb HRe
          go_wp2_with fail
          generalize w7.alloc (.cells #[.int .i64 x.gauge, .int .i64 x.seq, .int .i64 x.clock, .int .i64 x.value, .string x.tag] 23) = w8 at *
          generalize w7.heap.size = px at *
          have HS8 : Hid ((w8.drew.cell? ⟨px, 0, none⟩ = some (.int .i64 x.gauge) ∧ w8.drew.cell? ⟨px, 1, none⟩ = some (.int .i64 x.seq) ∧ w8.drew.cell? ⟨px, 2, none⟩ = some (.int .i64 x.clock) ∧ w8.drew.cell? ⟨px, 3, none⟩ = some (.int .i64 x.value) ∧ w8.drew.cell? ⟨px, 4, none⟩ = some (.string x.tag) ∧ px < w8.drew.heap.size) ∧ (w8.drew.cell? ⟨b, o + k * 5, none⟩ = some (.int .i64 x.gauge) ∧ w8.drew.cell? ⟨b, o + k * 5 + 1, none⟩ = some (.int .i64 x.seq) ∧ w8.drew.cell? ⟨b, o + k * 5 + 2, none⟩ = some (.int .i64 x.clock) ∧ w8.drew.cell? ⟨b, o + k * 5 + 3, none⟩ = some (.int .i64 x.value) ∧ w8.drew.cell? ⟨b, o + k * 5 + 4, none⟩ = some (.string x.tag) ∧ b < w8.drew.heap.size) ∧ Below w6.heap.size w6 w8.drew) := Lib.hid ⟨c5_row HX8.out, r5_range HR8.out hb8, HB8.out.drew⟩
          clear HX8 HR8 HB8 hb8
          have heq1 := eqG x.gauge x.seq x.clock x.value x.gauge x.seq x.clock x.value x.tag x.tag
          rw [decide_eq_true ⟨rfl, rfl, rfl, rfl, rfl⟩] at heq1
          go_region_held3 (fun w' => (w'.cell? ⟨px, 0, none⟩ = some (.int .i64 x.gauge) ∧ w'.cell? ⟨px, 1, none⟩ = some (.int .i64 x.seq) ∧ w'.cell? ⟨px, 2, none⟩ = some (.int .i64 x.clock) ∧ w'.cell? ⟨px, 3, none⟩ = some (.int .i64 x.value) ∧ w'.cell? ⟨px, 4, none⟩ = some (.string x.tag) ∧ px < w'.heap.size) ∧ (w'.cell? ⟨b, o + k * 5, none⟩ = some (.int .i64 x.gauge) ∧ w'.cell? ⟨b, o + k * 5 + 1, none⟩ = some (.int .i64 x.seq) ∧ w'.cell? ⟨b, o + k * 5 + 2, none⟩ = some (.int .i64 x.clock) ∧ w'.cell? ⟨b, o + k * 5 + 3, none⟩ = some (.int .i64 x.value) ∧ w'.cell? ⟨b, o + k * 5 + 4, none⟩ = some (.string x.tag) ∧ b < w'.heap.size) ∧ Below w6.heap.size w6 w') (first | assumption | exact HS8.out | exact ⟨c5_step (show (_ ∧ _) ∧ (_ ∧ _) ∧ Below w6.heap.size w6 _ by assumption).1 hb, r5_step (show (_ ∧ _) ∧ (_ ∧ _) ∧ Below w6.heap.size w6 _ by assumption).2.1 hb, (show (_ ∧ _) ∧ (_ ∧ _) ∧ Below w6.heap.size w6 _ by assumption).2.2.trans (hb.mono (show (_ ∧ _) ∧ (_ ∧ _) ∧ Below w6.heap.size w6 _ by assumption).2.2.size)⟩) ((first | (go_at_call 14; refine (HGe.out _ (HG.out.below (HB6.out.trans ((show (_ ∧ _) ∧ (_ ∧ _) ∧ Below w6.heap.size w6 _ by assumption).2.2.mono HB6.out.size)) HG.out.size) (HM.out.up (HB6.out.trans ((show (_ ∧ _) ∧ (_ ∧ _) ∧ Below w6.heap.size w6 _ by assumption).2.2.mono HB6.out.size)))).mono ?_; rintro e w' ⟨rfl, hb⟩)))
          all_goals (
            have HBf := Lib.hid (show (_ ∧ _) ∧ (_ ∧ _) ∧ Below w6.heap.size w6 _ by assumption).2.2
            go_wp2_with fail
            go_roundw
            case rel => exact ⟨k + 1, by omega, by go_num, HBf.out⟩
            case measure => simp [intOf]; omega)
        · obtain rfl : k = W.length := by omega
          clear hlt hk
          go_wp2_with fail
          go_ret
          exact ⟨rfl, HB6.out.trans (HBr.out.mono HB6.out.size)⟩
end Go.Proofs.YtmlfkhpmgjcliaaDoor
