/- bournelaw29.CastCovers returns true. -/
import Derived.Test.YtleiiedacachjaaKSum
import Derived.Test.YtleiiedacachjaaKSmall
import Derived.Test.YtleiiedacachjaaKRows
namespace Go.Proofs.Ytleiiedacachjaa
open Go.RowKit
theorem undPs : Try.prog.underlying 41 = some (.slice 145) := by kernel_rfl
theorem make_places (n : Nat) (w : World) (hn : n ≤ 1048576) : ∃ cs, (Instr.makeSlice 41 (.int .i64 (n : Int)) (.int .i64 (n : Int))).run Try.prog w = .ok (.slice (some ⟨w.heap.size, 0, none⟩) n n) (w.alloc (.cells cs 145)) := by
  obtain ⟨i0, hi⟩ : ∃ i, Try.prog.info? 145 = some i := Option.isSome_iff_exists.1 (by kernel_rfl)
  obtain ⟨z, hz⟩ : ∃ z, i0.zero = some z := by
    have h : (Try.prog.info? 145).map (fun i => i.zero.isSome) = some true := by kernel_rfl
    rw [hi] at h
    exact Option.isSome_iff_exists.1 (Option.some.inj h)
  have hz2 : i0.bytes = 152 := by
    have h : (Try.prog.info? 145).map (·.bytes) = some 152 := by kernel_rfl
    rw [hi] at h; exact Option.some.inj h
  exact ⟨_, run_make (P := Try.prog) w 41 145 i0 _ undPs hi hz .i64 .i64 (n : Int) (n : Int) (by omega) (by omega) (by rw [hz2]; omega) (by omega)⟩
theorem undBaK : Try.prog.underlying 48 = some (.struct (Try.prog.fieldsOf 48)) := by kernel_rfl
theorem infoBaK : (Try.prog.info? 48).map (·.size) = some 11 := by kernel_rfl
theorem int_new (w : World) (z : Int) : ∀ j u, ([Value.int .i64 z])[j]? = some u → (w.alloc (.cells #[.int .i64 z] 3)).cell? ((⟨w.heap.size, 0, none⟩ : Addr).add j) = some u := fun j u hj => by
  rw [Addr.add_mid, Nat.zero_add, cell_of_row _ _ _ _ _ _ (heap_alloc_new w (.cells #[.int .i64 z] 3)), ← Array.getElem?_toList]
  exact hj
theorem own_parts {w : World} {base n : Nat} {e : TypeId} {v : Value} {ls : List Int} (h : w.ownsRow base e 1 v n (ls.map (Value.int .i64))) (h0 : 0 < n) :
    ∃ g c cur, v = .slice (some ⟨g, 0, none⟩) n c ∧ n ≤ c ∧ c ≤ maxLen ∧ base ≤ g ∧ w.heap[g]? = some (.cells cur e (0, 0)) ∧ ∀ (j : Nat) (x : Int), ls[j]? = some x → cur[j]? = some (.int .i64 x) := by
  rcases h.2 with ⟨rfl, h1⟩ | ⟨g, cap, cur, rfl, hg, hh, hnc, hcm, hcs, htk⟩
  · omega
  · refine ⟨g, cap, cur, rfl, hnc, hcm, hg, hh, fun j x hj => ?_⟩
    have h1 : (ls.map (Value.int .i64))[j]? = some (.int .i64 x) := by rw [List.getElem?_map, hj]; rfl
    rw [← htk, List.getElem?_take] at h1
    split at h1
    · rw [← Array.getElem?_toList]; exact h1
    · cases h1
theorem larg_row {w : World} {g n c : Nat} {e : TypeId} {cur : Array Value} {ls : List Int} (hh : w.heap[g]? = some (.cells cur e (0, 0))) (hc : ∀ (j : Nat) (x : Int), ls[j]? = some x → cur[j]? = some (.int .i64 x)) (hI : ∀ x ∈ ls, I64 x) (hn : ls.length = n) (h1 : n ≤ c) (h2 : c ≤ maxLen) : LArg RInt 1 (.slice (some ⟨g, 0, none⟩) n c) ls w := by
  subst hn
  exact ⟨_, _, rfl, h1, h2, fun j x hj => ⟨g, 0, [.int .i64 x], rfl, blk_lt hh, rfl, (fun i u hu => by
    match i, hu with
    | 0, hu => cases hu; simp only [Nat.mul_one, Nat.add_zero, Nat.zero_add]; exact rowN hh j _ (hc j x hj)), rfl, (hI x (List.mem_of_getElem? hj)).1, (hI x (List.mem_of_getElem? hj)).2⟩⟩
def insL (fl : List Int) (L : List SpanV) (k : Nat) : List Int := (List.range k).map fun i => clampN ((fl[i]?).getD 0) ((L[i]?).getD ⟨0, 0⟩).lo ((L[i]?).getD ⟨0, 0⟩).hi
theorem insL_len (fl : List Int) (L : List SpanV) (k : Nat) : (insL fl L k).length = k := by unfold insL; simp
theorem insL_step {fl : List Int} {L : List SpanV} {k : Nat} {n : Int} {s : SpanV} (h1 : fl[k]? = some n) (h2 : L[k]? = some s) : insL fl L (k + 1) = insL fl L k ++ [clampN n s.lo s.hi] := by
  unfold insL
  rw [List.range_succ, List.map_append, List.map_cons, List.map_nil, h1, h2]
  rfl
theorem insL_get {fl : List Int} {L : List SpanV} {k i : Nat} (h : i < k) : (insL fl L k)[i]? = some (clampN ((fl[i]?).getD 0) ((L[i]?).getD ⟨0, 0⟩).lo ((L[i]?).getD ⟨0, 0⟩).hi) := by
  unfold insL
  rw [List.getElem?_map, List.getElem?_range h]
  rfl
theorem insL_sum {fl : List Int} {L : List SpanV} (hO : OkL L) : ∀ k, k ≤ L.length → sumLo (L.take k) ≤ (insL fl L k).sum ∧ (insL fl L k).sum ≤ sumHi (L.take k)
  | 0, _ => by simp [sumLo, sumHi, insL]
  | k + 1, h => by
    obtain ⟨s, hs⟩ : ∃ s, L[k]? = some s := ⟨_, List.getElem?_eq_getElem (by omega)⟩
    obtain ⟨e1, e2⟩ := sum_step hs
    obtain ⟨i1, i2⟩ := insL_sum (fl := fl) hO k (by omega)
    have e : insL fl L (k + 1) = insL fl L k ++ [clampN ((fl[k]?).getD 0) s.lo s.hi] := by
      unfold insL
      rw [List.range_succ, List.map_append, List.map_cons, List.map_nil, hs]
      rfl
    have hc := clampN_in (n := (fl[k]?).getD 0) (hO s (List.mem_of_getElem? hs)).1
    rw [e, List.sum_append, e1, e2]
    simp only [List.sum_cons, List.sum_nil]
    omega
/-- the rain of an hour of a right forecast -/
theorem atL_ok {x : CastV} {np : Nat} (h : Int) (hr : rightC np x) : OkL (atL x h np) := by
  have hz : ∀ s ∈ zerosS np, okSp s := fun s hs => by
    unfold zerosS at hs
    rw [List.eq_of_mem_replicate hs]
    exact ⟨by decide, by decide, by decide⟩
  intro s hs
  unfold atL at hs
  split at hs
  · exact hz s hs
  · split at hs
    · rename_i r hrr
      rcases List.mem_append.1 hs with h1 | h1
      · exact (hr.2.2.2 r (List.mem_of_getElem? hrr)).2 s (List.mem_of_mem_take h1)
      · exact hz s (List.mem_of_mem_drop h1)
    · exact hz s hs
theorem zerosS_get {n i : Nat} (h : i < n) : (zerosS n)[i]? = some ⟨0, 0⟩ := by unfold zerosS; rw [List.getElem?_replicate, if_pos h]
theorem atL_more {x : CastV} {np : Nat} (h : Int) (hr : rightC np x) (h64 : np ≤ 64) {i : Nat} (hi : i < 64) : (atL x h 64)[i]? = if i < np then (atL x h np)[i]? else some ⟨0, 0⟩ := by
  have hz : (zerosS 64)[i]? = if i < np then (zerosS np)[i]? else some ⟨0, 0⟩ := by
    rw [zerosS_get hi]
    split
    · rename_i h1; rw [zerosS_get h1]
    · rfl
  unfold atL
  split
  · exact hz
  · split
    · rename_i r hrr
      have hl := (hr.2.2.2 r (List.mem_of_getElem? hrr)).1
      rw [List.take_of_length_le (by omega), List.take_of_length_le (by omega)]
      by_cases h1 : i < np
      · rw [if_pos h1, List.getElem?_append_left (by omega), List.getElem?_append_left (by omega)]
      · rw [if_neg h1, List.getElem?_append_right (by omega), List.getElem?_drop, zerosS_get (by omega)]
    · exact hz
theorem cov_yes {x : CastV} {h : Int} {fl : List Int} (hr : rightC fl.length x) (h64 : fl.length ≤ 64) : coversB x h (insL fl (atL x h fl.length) fl.length) = true := by
  refine coversB_yes ⟨by rw [insL_len]; exact h64, fun i s hs => ?_⟩
  have hi : i < 64 := by
    have := (List.getElem?_eq_some_iff.1 hs).1
    rw [atL_len] at this
    exact this
  rw [atL_more h hr h64 hi] at hs
  by_cases h1 : i < fl.length
  · rw [if_pos h1] at hs
    rw [insL_get h1, hs]
    simp only [Option.getD_some]
    exact clampN_in (atL_ok h hr s (List.mem_of_getElem? hs)).1
  · rw [if_neg h1] at hs
    cases hs
    rw [List.getElem?_eq_none (by rw [insL_len]; omega)]
    exact ⟨by decide, by decide⟩
theorem cov_no {x : CastV} {h : Int} {fl : List Int} {i : Nat} {s : SpanV} (hr : rightC fl.length x) (h64 : fl.length ≤ 64) (hs : (atL x h fl.length)[i]? = some s) (l : List Int) (hl : l[i]? = some (s.hi + 1)) : coversB x h l = false := by
  have hi : i < fl.length := by
    have := (List.getElem?_eq_some_iff.1 hs).1
    rw [atL_len] at this
    exact this
  refine coversB_no (fun hc => ?_)
  have := hc.2 i s (by rw [atL_more h hr h64 (by omega), if_pos hi]; exact hs)
  rw [hl] at this
  simp only [Option.getD_some] at this
  omega
theorem i64_sp {s : SpanV} (h : okSp s) (n : Int) : I64 (clampN n s.lo s.hi) ∧ I64 (s.hi + 1) := by
  have := clampN_in (n := n) h.1
  obtain ⟨h1, h2, h3⟩ := h
  exact ⟨⟨by omega, by omega⟩, ⟨by omega, by omega⟩⟩
theorem insL_I {fl : List Int} {L : List SpanV} {k : Nat} (hO : OkL L) (hk : k ≤ L.length) : ∀ y ∈ insL fl L k, I64 y := fun y hy => by
  obtain ⟨i, hi⟩ := List.getElem?_of_mem hy
  have hik : i < k := by have := (List.getElem?_eq_some_iff.1 hi).1; rw [insL_len] at this; exact this
  obtain ⟨s, hs⟩ : ∃ s, L[i]? = some s := ⟨_, List.getElem?_eq_getElem (by omega)⟩
  rw [insL_get hik, hs] at hi
  cases hi
  exact (i64_sp (hO s (List.mem_of_getElem? hs)) _).1
set_option maxRecDepth 100000 in
set_option maxHeartbeats 8000000 in
theorem covers_core (x : CastV) (a0 : Option Addr) (q0 : Nat) (h : Int) (fl : List Int) (af : Option Addr) (qf : Nat) (i : Int) (w : World) (hr : LArg (RList RSpan 2) 1 (.slice a0 x.rain.length q0) x.rain w) (hf : LArg RInt 1 (.slice af fl.length qf) fl w) (hh : I64 h) (hs : I64 x.src) (hn : fl.length ≤ 1048576) :
    Calls Try.prog 6 #[.agg #[.int .i64 x.id, .int .i64 x.src, .slice a0 x.rain.length q0], .int .i64 h, .slice af fl.length qf, .int .i64 i] w fun e w' => e = .returned (.bool true) ∧ Below w.heap.size w w' := by
  obtain ⟨iI, hiI, hzI, hsI, hbI⟩ := info_parts infoIn
  have HR := Lib.hid hr
  have HF := Lib.hid hf
  have HX0 := Lib.hid (heap_alloc_new w (.cells #[.int .i64 x.id, .int .i64 x.src, .slice a0 x.rain.length q0] 27))
  have HB0 := Lib.hid ((Below.refl w.heap.size w).alloc (Nat.le_refl _) (.cells #[.int .i64 x.id, .int .i64 x.src, .slice a0 x.rain.length q0] 27))
  clear hr hf
  go_enter Try.func6, Try.ntmps6
  go_upto_region 1 with fail
  generalize w.alloc (.cells #[.int .i64 x.id, .int .i64 x.src, .slice a0 x.rain.length q0] 27) = w0 at *
  have HBX : Hid (w.heap.size ≤ w.heap.size) := Lib.hid (Nat.le_refl _)
  generalize hbX : w.heap.size = bX at HX0 ⊢
  rw [hbX] at HBX
  go_wp2_with fail
  refine (small_any _).mono ?_
  rintro e w1 ⟨rfl, hb⟩
  have HX1 := Lib.hid (blk_below HX0.out hb (blk_lt HX0.out))
  have HB1 := Lib.hid (HB0.out.trans (hb.mono HB0.out.size))
  clear hb HB0 HX0
  obtain ⟨pcs, hmk⟩ := make_places fl.length w1 hn
  have HMK := hmk
  clear hmk
  go_upto_region 3 with fail
  obtain ⟨r0, r1, rb⟩ := two_rowsK (w := w1) (A := .cells pcs 145) (B := .cells #[.string ⟨#[]⟩, .slice none 0 0, .int .i64 0, .slice (some ⟨w1.heap.size, 0, none⟩) fl.length fl.length, .slice none 0 0, .slice none 0 0, .slice none 0 0, .slice none 0 0, .slice none 0 0, .slice none 0 0, .int .i64 0] 48)
  have HBB := Lib.hid r1
  have HX2 := Lib.hid (blk_below HX1.out rb (blk_lt HX1.out))
  have HB2 := Lib.hid (HB1.out.trans (rb.mono HB1.out.size))
  clear r0 r1 rb HMK HX1 HB1
  generalize (w1.alloc (.cells pcs 145)).alloc (.cells #[.string ⟨#[]⟩, .slice none 0 0, .int .i64 0, .slice (some ⟨w1.heap.size, 0, none⟩) fl.length fl.length, .slice none 0 0, .slice none 0 0, .slice none 0 0, .slice none 0 0, .slice none 0 0, .slice none 0 0, .int .i64 0] 48) = w2 at *
  generalize w1.heap.size = bP at *
  by_cases t1 : (fl.length : Int) < 1
  · go_wp2_with fail
    go_ret
    exact ⟨rfl, by first | exact HB2.out | (rw [← hbX]; exact HB2.out)⟩
  by_cases t2 : (64 : Int) < (fl.length : Int)
  · go_wp2_with fail
    go_ret
    exact ⟨rfl, by first | exact HB2.out | (rw [← hbX]; exact HB2.out)⟩
  have h1 : 1 ≤ fl.length := by omega
  have h64 : fl.length ≤ 64 := by omega
  have HRW2 := Lib.hid (HR.out.below (stays_list stays_Span 2) HB2.out)
  go_wp2_with (first | (refine wpList_load_rowW (by first | (go_simp; done) | rfl) 48 _ rfl _ rfl 48 _ _ _ HBB.out undBaK rfl infoBaK ?_) | (refine wpList_load_rowW (by first | (go_simp; done) | rfl) 27 _ rfl _ rfl 27 _ _ _ HX2.out undKs rfl infoKs ?_))
  refine (right_any fl.length fl.length (some ⟨bP, 0, none⟩) x (.slice a0 x.rain.length q0) _ HRW2.out (by omega)).mono ?_
  rintro e w3 ⟨rfl, hb⟩
  have HX3 := Lib.hid (blk_below HX2.out hb (blk_lt HX2.out))
  have HB3 := Lib.hid (HB2.out.trans (hb.mono HB2.out.size))
  clear hb HX2 HB2 HBB HRW2
  cases hRt : rightB fl.length x
  · go_wp2_with fail
    go_ret
    exact ⟨rfl, by first | exact HB3.out | (rw [← hbX]; exact HB3.out)⟩
  have HRC := Lib.hid (rightB_iff.1 hRt)
  clear hRt
  by_cases t3 : i < 0
  · go_wp2_with fail
    go_ret
    exact ⟨rfl, by first | exact HB3.out | (rw [← hbX]; exact HB3.out)⟩
  by_cases t4 : (fl.length : Int) ≤ i
  · go_wp2_with fail
    go_ret
    exact ⟨rfl, by first | exact HB3.out | (rw [← hbX]; exact HB3.out)⟩
  obtain ⟨m, rfl⟩ : ∃ m : Nat, i = (m : Int) := ⟨i.toNat, by omega⟩
  have hml : m < fl.length := by omega
  have HRW3 := Lib.hid (HR.out.below (stays_list stays_Span 2) HB3.out)
  go_wp2_with (refine wpList_load_rowW (by first | (go_simp; done) | rfl) 27 _ rfl _ rfl 27 _ _ _ HX3.out undKs rfl infoKs ?_)
  refine (at_any x (.slice a0 x.rain.length q0) h fl.length _ HRW3.out hh hs h1 h64).mono ?_
  rintro e w6 ⟨b, rfl, hle, hrow, hb⟩
  rw [atL_len]
  have HX6 := Lib.hid (blk_below HX3.out hb (blk_lt HX3.out))
  have HB6 := Lib.hid (HB3.out.trans (hb.mono HB3.out.size))
  obtain ⟨Lr, hLr⟩ : ∃ Lr, Lr = atL x h fl.length := ⟨_, rfl⟩
  rw [← hLr] at hrow
  have HLR := Lib.hid hLr
  have HRow := Lib.hid hrow
  have hLl : Lr.length = fl.length := by rw [hLr, atL_len]
  have HOK : Hid (OkL Lr) := Lib.hid (by rw [hLr]; exact atL_ok h HRC.out)
  have HXL := Lib.hid (blk_lt HX6.out)
  clear hb hrow HX3 HB3 HRW3 hLr t1 t2 t3 t4
  have HLL := Lib.hid hLl
  clear hLl
  go_wp2_with fail
  go_loopw [12, 13, 14] (fun vv tv kv wr => ∃ k : Nat, k ≤ fl.length ∧ kv = .int .i64 (k : Int) ∧ tv = .int .i64 ((insL fl Lr k).sum) ∧ wr.ownsRow w6.heap.size 3 1 vv k ((insL fl Lr k).map (Value.int .i64)) ∧ Below w6.heap.size w6 wr) (fun _ _ kv _ => fl.length - (intOf kv).toNat)
  case atStart => exact ⟨0, Nat.zero_le _, rfl, rfl, World.ownsRow_nil _ _ _ _, Below.refl _ _⟩
  case round =>
    obtain ⟨k, hk, rfl, rfl, ho, hB⟩ := hrel
    have HO1 := Lib.hid ho
    have HB := Lib.hid hB
    clear ho hB
    by_cases hlt : k < fl.length
    · obtain ⟨n, hn⟩ : ∃ n, fl[k]? = some n := ⟨_, List.getElem?_eq_getElem hlt⟩
      obtain ⟨s, hss⟩ : ∃ s, Lr[k]? = some s := ⟨_, List.getElem?_eq_getElem (by rw [HLL.out]; exact hlt)⟩
      obtain ⟨gf, of, csf, haf, hblf, -, hrgf, rfl, -, -⟩ := (HF.out.below stays_int HB6.out).at hn
      subst haf
      have cf := hrgf 0 _ rfl
      simp only [Nat.mul_one, Nat.add_zero] at cf
      have HCF := Lib.hid cf
      have HGF := Lib.hid hblf
      have HRG := range_sp HRow.out hss
      have HLO := Lib.hid (HRG 0 _ rfl)
      have HHI := Lib.hid (HRG 1 _ rfl)
      simp only [Nat.add_zero] at HLO
      have HGL := Lib.hid (blk_lt HRow.out)
      have hok := HOK.out s (List.mem_of_getElem? hss)
      have HZI := Lib.hid (clampN_in (n := n) hok.1)
      have hbd := insL_sum (fl := fl) HOK.out k (by rw [HLL.out]; omega)
      have hbd2 := sum_bd HOK.out k
      have HE := Lib.hid (insL_step hn hss)
      obtain ⟨z, hz⟩ : ∃ z, z = clampN n s.lo s.hi := ⟨_, rfl⟩
      rw [← hz] at HE HZI
      have HCL : Hid (∀ W, Calls Try.prog 18 #[.int .i64 n, .int .i64 s.lo, .int .i64 s.hi] W fun e w' => e = .returned (.int .i64 z) ∧ W = w') := Lib.hid (fun W => by rw [hz]; exact clamp_any n s.lo s.hi W)
      have HSM : Hid ((insL fl Lr (k + 1)).sum = (insL fl Lr k).sum + z) := Lib.hid (by rw [HE.out, List.sum_append]; simp)
      obtain ⟨o1, o2, o3⟩ := hok
      have z1 := HZI.out.1
      have z2 := HZI.out.2
      generalize hS : (insL fl Lr k).sum = S0 at *
      have hsz : IntKind.i64.wrap (S0 + z) = S0 + z := IntWalk.i64_in _ (by omega)
      have hkf : (k : Int) < (fl.length : Int) := by omega
      clear cf hrgf hblf hn HRG hz hbd hbd2 hS z1 z2 o1 o2 o3
      go_upto_region 13 with fail
      refine wp_region_noPanic ?_
      refine wp_region_held_drew (S := fun w' => Below w6.heap.size w6 w') (by kernel_rfl) HB.out.drew (fun hHeld => ?_)
      refine' wpAnyH_take (i := 0) (v := _) (by simp only [List.getElem?_toArray, List.getElem?_cons_zero]; exact rfl) (by kernel_rfl) (by kernel_rfl) (by kernel_rfl) (fun _ _ _ h => h) (Or.inl ⟨by rfl, ?y0x1⟩) hHeld ?r0x1
      case y0x1 => (intro w hSw; (try dsimp only at hSw); go_simp; try with_reducible rfl)
      try simp only [Act.put, List.setIfInBounds_toArray, List.set_cons_zero, List.set_cons_succ]
      refine' wpAnyH_take (i := 1) (v := _) (by simp only [List.getElem?_toArray, List.getElem?_cons_succ, List.getElem?_cons_zero]; exact rfl) (by kernel_rfl) (by kernel_rfl) (by kernel_rfl) (fun _ _ _ h => h) (Or.inl ⟨by rfl, ?y1x2⟩) hHeld ?r1x2
      case y1x2 => (intro w hSw; (try dsimp only at hSw); go_simp; try with_reducible rfl)
      try simp only [Act.put, List.setIfInBounds_toArray, List.set_cons_zero, List.set_cons_succ]
      refine' wpAnyH_take (i := 2) (v := _) (by simp only [List.getElem?_toArray, List.getElem?_cons_succ, List.getElem?_cons_zero]; exact rfl) (by kernel_rfl) (by kernel_rfl) (by kernel_rfl) (fun _ _ _ h => h) (Or.inl ⟨by rfl, ?y2x3⟩) hHeld ?r2x3
      case y2x3 => (intro w hSw; (try dsimp only at hSw); go_simp; try with_reducible rfl)
      try simp only [Act.put, List.setIfInBounds_toArray, List.set_cons_zero, List.set_cons_succ]
      refine' wpAnyH_take (i := 3) (v := _) (by simp only [List.getElem?_toArray, List.getElem?_cons_succ, List.getElem?_cons_zero]; exact rfl) (by kernel_rfl) (by kernel_rfl) (by kernel_rfl) (fun _ _ _ h => h) (Or.inl ⟨by rfl, ?y3x4⟩) hHeld ?r3x4
      case y3x4 => (intro w hSw; (try dsimp only at hSw); go_simp; try with_reducible rfl)
      try simp only [Act.put, List.setIfInBounds_toArray, List.set_cons_zero, List.set_cons_succ]
      refine' wpAnyH_take (i := 4) (v := _) (by simp only [List.getElem?_toArray, List.getElem?_cons_succ, List.getElem?_cons_zero]; exact rfl) (by kernel_rfl) (by kernel_rfl) (by kernel_rfl) (fun _ _ _ h => h) (Or.inl ⟨by rfl, ?y4x5⟩) hHeld ?r4x5
      case y4x5 => (intro wz hSw; have e4 := (hSw.cell HGF.out).trans HCF.out; go_simp; try with_reducible rfl)
      try simp only [Act.put, List.setIfInBounds_toArray, List.set_cons_zero, List.set_cons_succ]
      refine' wpAnyH_take (i := 5) (v := _) (by simp only [List.getElem?_toArray, List.getElem?_cons_succ, List.getElem?_cons_zero]; exact rfl) (by kernel_rfl) (by kernel_rfl) (by kernel_rfl) (fun _ _ _ h => h) (Or.inl ⟨by rfl, ?y5x6⟩) hHeld ?r5x6
      case y5x6 => (intro w hSw; (try dsimp only at hSw); go_simp; try with_reducible rfl)
      try simp only [Act.put, List.setIfInBounds_toArray, List.set_cons_zero, List.set_cons_succ]
      refine' wpAnyH_take (i := 6) (v := _) (by simp only [List.getElem?_toArray, List.getElem?_cons_succ, List.getElem?_cons_zero]; exact rfl) (by kernel_rfl) (by kernel_rfl) (by kernel_rfl) (fun _ _ _ h => h) (Or.inl ⟨by rfl, ?y6x7⟩) hHeld ?r6x7
      case y6x7 => (intro w hSw; (try dsimp only at hSw); go_simp; try with_reducible rfl)
      try simp only [Act.put, List.setIfInBounds_toArray, List.set_cons_zero, List.set_cons_succ]
      refine' wpAnyH_take (i := 7) (v := _) (by simp only [List.getElem?_toArray, List.getElem?_cons_succ, List.getElem?_cons_zero]; exact rfl) (by kernel_rfl) (by kernel_rfl) (by kernel_rfl) (fun _ _ _ h => h) (Or.inl ⟨by rfl, ?y7x8⟩) hHeld ?r7x8
      case y7x8 => (intro w hSw; (try dsimp only at hSw); go_simp; try with_reducible rfl)
      try simp only [Act.put, List.setIfInBounds_toArray, List.set_cons_zero, List.set_cons_succ]
      refine' wpAnyH_take (i := 8) (v := _) (by simp only [List.getElem?_toArray, List.getElem?_cons_succ, List.getElem?_cons_zero]; exact rfl) (by kernel_rfl) (by kernel_rfl) (by kernel_rfl) (fun _ _ _ h => h) (Or.inl ⟨by rfl, ?y8x9⟩) hHeld ?r8x9
      case y8x9 => (intro w hSw; (try dsimp only at hSw); go_simp; try with_reducible rfl)
      try simp only [Act.put, List.setIfInBounds_toArray, List.set_cons_zero, List.set_cons_succ]
      refine' wpAnyH_take (i := 9) (v := _) (by simp only [List.getElem?_toArray, List.getElem?_cons_succ, List.getElem?_cons_zero]; exact rfl) (by kernel_rfl) (by kernel_rfl) (by kernel_rfl) (fun _ _ _ h => h) (Or.inl ⟨by rfl, ?y9x10⟩) hHeld ?r9x10
      case y9x10 => (intro wz hSw; have e4 := (hSw.cell HGL.out).trans HLO.out; go_simp; try with_reducible rfl)
      try simp only [Act.put, List.setIfInBounds_toArray, List.set_cons_zero, List.set_cons_succ]
      refine' wpAnyH_take (i := 10) (v := _) (by simp only [List.getElem?_toArray, List.getElem?_cons_succ, List.getElem?_cons_zero]; exact rfl) (by kernel_rfl) (by kernel_rfl) (by kernel_rfl) (fun _ _ _ h => h) (Or.inl ⟨by rfl, ?y10x11⟩) hHeld ?r10x11
      case y10x11 => (intro w hSw; (try dsimp only at hSw); go_simp; try with_reducible rfl)
      try simp only [Act.put, List.setIfInBounds_toArray, List.set_cons_zero, List.set_cons_succ]
      refine' wpAnyH_take (i := 11) (v := _) (by simp only [List.getElem?_toArray, List.getElem?_cons_succ, List.getElem?_cons_zero]; exact rfl) (by kernel_rfl) (by kernel_rfl) (by kernel_rfl) (fun _ _ _ h => h) (Or.inl ⟨by rfl, ?y11x12⟩) hHeld ?r11x12
      case y11x12 => (intro w hSw; (try dsimp only at hSw); go_simp; try with_reducible rfl)
      try simp only [Act.put, List.setIfInBounds_toArray, List.set_cons_zero, List.set_cons_succ]
      refine' wpAnyH_take (i := 12) (v := _) (by simp only [List.getElem?_toArray, List.getElem?_cons_succ, List.getElem?_cons_zero]; exact rfl) (by kernel_rfl) (by kernel_rfl) (by kernel_rfl) (fun _ _ _ h => h) (Or.inl ⟨by rfl, ?y12x13⟩) hHeld ?r12x13
      case y12x13 => (intro w hSw; (try dsimp only at hSw); go_simp; try with_reducible rfl)
      try simp only [Act.put, List.setIfInBounds_toArray, List.set_cons_zero, List.set_cons_succ]
      refine' wpAnyH_take (i := 13) (v := _) (by simp only [List.getElem?_toArray, List.getElem?_cons_succ, List.getElem?_cons_zero]; exact rfl) (by kernel_rfl) (by kernel_rfl) (by kernel_rfl) (fun _ _ _ h => h) (Or.inl ⟨by rfl, ?y13x14⟩) hHeld ?r13x14
      case y13x14 => (intro w hSw; (try dsimp only at hSw); go_simp; try with_reducible rfl)
      try simp only [Act.put, List.setIfInBounds_toArray, List.set_cons_zero, List.set_cons_succ]
      refine' wpAnyH_take (i := 14) (v := _) (by simp only [List.getElem?_toArray, List.getElem?_cons_succ, List.getElem?_cons_zero]; exact rfl) (by kernel_rfl) (by kernel_rfl) (by kernel_rfl) (fun _ _ _ h => h) (Or.inl ⟨by rfl, ?y14x15⟩) hHeld ?r14x15
      case y14x15 => (intro wz hSw; have e4 := (hSw.cell HGL.out).trans HHI.out; go_simp; try with_reducible rfl)
      try simp only [Act.put, List.setIfInBounds_toArray, List.set_cons_zero, List.set_cons_succ]
      refine wpAnyH_ready (rs := [15]) (by kernel_rfl) (by simp) ?_
      refine AllReadyH.cons (by simp only [List.getElem?_toArray, List.getElem?_cons_succ, List.getElem?_cons_zero]; exact rfl) (fun K hK => ?_) AllReadyH.nil
      go_simp
      refine (HCL.out _).mono ?_
      rintro e w' ⟨rfl, rfl⟩
      refine hK.out _ _ hHeld (fun hHeld => ?_)
      clear hK K
      try simp only [Act.put, List.setIfInBounds_toArray, List.set_cons_zero, List.set_cons_succ]
      refine wpAnyH_ready (rs := [16]) (by kernel_rfl) (by simp) ?_
      refine AllReadyH.cons (by simp only [List.getElem?_toArray, List.getElem?_cons_succ, List.getElem?_cons_zero]; exact rfl) (fun K hK => ?_) AllReadyH.nil
      go_simp
      refine hK.out _ _ (HB.out.alloc HB.out.size (.cells #[.int .i64 z] 3)).drew (fun hHeld => ?_)
      clear hK K
      try simp only [Act.put, List.setIfInBounds_toArray, List.set_cons_zero, List.set_cons_succ]
      refine wpAnyH_ready (rs := [17]) (by kernel_rfl) (by simp) ?_
      refine AllReadyH.cons (by simp only [List.getElem?_toArray, List.getElem?_cons_succ, List.getElem?_cons_zero]; exact rfl) (fun K hK => ?_) AllReadyH.nil
      refine step_append_own rfl _ _ 36 rfl w6.heap.size 3 iI (.int .i64 0) 1 8 undIs hiI hzI hsI hbI rfl (by decide) _ k _ rfl (HO1.out.alloc (.cells #[.int .i64 z] 3)).drew ⟨wr.heap.size, 0, none⟩ 1 1 [.int .i64 z] rfl rfl (int_new wr z) (by simp [Value.oneCell']) (by unfold maxLen; omega) (by omega) (HB.out.alloc HB.out.size (.cells #[.int .i64 z] 3)).size ?_
      intro v' w8 hown8 hgr8 _
      have HO8 : Hid (w8.ownsRow w6.heap.size 3 1 v' (k + 1) ((insL fl Lr (k + 1)).map (Value.int .i64))) := Lib.hid (by
        rw [HE.out, List.map_append]
        exact hown8)
      have HB8 : Hid (Below w6.heap.size w6 w8) := Lib.hid ((HB.out.alloc HB.out.size (.cells #[.int .i64 z] 3)).drew.grown hgr8 (HB.out.alloc HB.out.size (.cells #[.int .i64 z] 3)).size (fun q e => (HO1.out.lt q e).1))
      refine hK.out _ _ HB8.out (fun hHeld => ?_)
      clear hK K hown8 hgr8
      try simp only [Act.put, List.setIfInBounds_toArray, List.set_cons_zero, List.set_cons_succ]
      refine' wpAnyH_take (i := 18) (v := _) (by simp only [List.getElem?_toArray, List.getElem?_cons_succ, List.getElem?_cons_zero]; exact rfl) (by kernel_rfl) (by kernel_rfl) (by kernel_rfl) (fun _ _ _ h => h) (Or.inl ⟨by rfl, ?y18x16⟩) hHeld ?r18x16
      case y18x16 => (intro w hSw; (try dsimp only at hSw); go_simp; try with_reducible rfl)
      try simp only [Act.put, List.setIfInBounds_toArray, List.set_cons_zero, List.set_cons_succ]
      refine wpAnyH_done (by kernel_rfl) ?_ _
      refine NoPanic.normal ?_
      obtain ⟨gi, ci, cur, rfl, hc1, hc2, hgb, hh8, hcur⟩ := own_parts HO8.out (Nat.succ_pos k)
      have hlast : cur[k]? = some (.int .i64 z) := hcur k z (by rw [HE.out, List.getElem?_append_right (by rw [insL_len]; omega), insL_len, Nat.sub_self]; rfl)
      have hcz := rowN hh8 k _ hlast
      have hkk : (k : Int) < (k : Int) + 1 := by omega
      clear hh8 hcur hc1 hc2 hgb hlast
      go_wp2_with fail
      go_roundw
      case rel => exact ⟨k + 1, by omega, by go_num, by rw [HSM.out], HO8.out, HB8.out⟩
      case measure => simp [intOf]; omega
    · obtain rfl : k = fl.length := by omega
      obtain ⟨gi, ci, cur, rfl, hc1, hc2, hgb, hhi, hcur⟩ := own_parts HO1.out (by omega)
      have hLd : fl.length ≤ Lr.length := by rw [HLL.out]; exact Nat.le_refl _
      have HIN := Lib.hid (larg_row hhi hcur (insL_I HOK.out hLd) (insL_len _ _ _) hc1 hc2)
      have HCR := Lib.hid hhi
      have HCC := Lib.hid hcur
      have HGB := Lib.hid hgb
      have hcl := hc1
      have hcm := hc2
      have HRr := Lib.hid (blk_below HRow.out HB.out (blk_lt HRow.out))
      have HXr := Lib.hid (blk_below HX6.out HB.out (blk_lt HX6.out))
      have HBr := Lib.hid (HB6.out.trans (HB.out.mono HB6.out.size))
      have HRWr := Lib.hid (HR.out.below (stays_list stays_Span 2) HBr.out)
      have HSUM : Hid (hasS ⟨sumLo Lr, sumHi Lr⟩ (insL fl Lr fl.length).sum = true) := Lib.hid (by
        rw [hasS_iff]
        have := insL_sum (fl := fl) HOK.out fl.length hLd
        rw [show Lr.take fl.length = Lr from by rw [← HLL.out]; exact List.take_length] at this
        exact this)
      obtain ⟨sm, hsm⟩ : ∃ sm, sm = (insL fl Lr fl.length).sum := ⟨_, rfl⟩
      rw [← hsm] at HSUM ⊢
      clear hhi hcur hc1 hc2 hgb hLd hsm hlt hk HX6
      go_wp2_with (refine wpList_load_rowW (by first | (go_simp; done) | rfl) 27 _ rfl _ rfl 27 _ _ _ HXr.out undKs rfl infoKs ?_)
      refine (covers_any x (.slice a0 x.rain.length q0) h (insL fl Lr fl.length) (.slice (some ⟨gi, 0, none⟩) fl.length ci) _ HRWr.out hh hs HIN.out).mono ?_
      rintro e w7 ⟨rfl, hb7⟩
      rw [show coversB x h (insL fl Lr fl.length) = true from by rw [HLR.out]; exact cov_yes HRC.out h64]
      have HR7 := Lib.hid (blk_below HRr.out hb7 (blk_lt HRr.out))
      have HX7 := Lib.hid (blk_below HXr.out hb7 (blk_lt HXr.out))
      have HC7 := Lib.hid (blk_below HCR.out hb7 (blk_lt HCR.out))
      have HB7 := Lib.hid (HBr.out.trans (hb7.mono HBr.out.size))
      clear hb7 HRr HXr HBr HCR HIN HRWr
      have hsumc := sum_any Lr b fl.length w7 HR7.out (by rw [HLL.out]; exact h64) HOK.out
      rw [HLL.out] at hsumc
      go_wp2_with fail
      refine hsumc.mono ?_
      rintro e w8 ⟨rfl, hb8⟩
      have HR8 := Lib.hid (blk_below HR7.out hb8 (blk_lt HR7.out))
      have HX8 := Lib.hid (blk_below HX7.out hb8 (blk_lt HX7.out))
      have HC8 := Lib.hid (blk_below HC7.out hb8 (blk_lt HC7.out))
      have HB8 := Lib.hid (HB7.out.trans (hb8.mono HB7.out.size))
      clear hb8 HR7 HX7 HC7 HB7 hsumc
      go_wp2_with fail
      refine (has_any ⟨sumLo Lr, sumHi Lr⟩ sm _).mono ?_
      rintro e w9 ⟨rfl, hb9⟩
      rw [HSUM.out]
      obtain ⟨s, hss⟩ : ∃ s, Lr[m]? = some s := ⟨_, List.getElem?_eq_getElem (by rw [HLL.out]; exact hml)⟩
      have HX9 := Lib.hid (blk_below HX8.out hb9 (blk_lt HX8.out))
      have HC9 := Lib.hid (blk_below HC8.out hb9 (blk_lt HC8.out))
      have HR9 := Lib.hid (blk_below HR8.out hb9 (blk_lt HR8.out))
      have HB9 := Lib.hid (HB8.out.trans (hb9.mono HB8.out.size))
      have hrgs := range_sp HR9.out hss
      have hhi := hrgs 1 _ rfl
      obtain ⟨o1, o2, o3⟩ := HOK.out s (List.mem_of_getElem? hss)
      have hw1 : IntKind.i64.wrap (s.hi + 1) = s.hi + 1 := IntWalk.i64_in _ (by omega)
      have HSS := Lib.hid hss
      have hmz : (m : Int) < (fl.length : Int) := by omega
      have hcm9 := rowN HC9.out m _ (HCC.out m _ (insL_get hml))
      have hfz9 : w9.frozen? ⟨gi, m, none⟩ = false := frozen_of_row _ _ _ _ _ HC9.out
      clear hb9 HX8 HC8 HR8 HB8 hrgs hss
      have hgi : gi ≠ bX := by
        have e1 := HXL.out
        have e2 := HGB.out
        have e3 := HB6.out.size
        omega
      have hle9 : w.heap.size ≤ gi := Nat.le_trans HB6.out.size HGB.out
      go_upto_region 18 with fail
      have hr := heap_setCell_same w9 gi m _ _ (.int .i64 (s.hi + 1)) HC9.out
      have HX10 := Lib.hid ((heap_setCell_other w9 ⟨gi, m, none⟩ bX (.int .i64 (s.hi + 1)) hgi.symm).trans HX9.out)
      have HB10 : Hid (Below w.heap.size w (w9.setCell ⟨gi, m, none⟩ (.int .i64 (s.hi + 1)))) := Lib.hid (HB9.out.setCell hle9 _)
      have HIN := Lib.hid (larg_row (ls := (insL fl Lr fl.length).set m (s.hi + 1)) (n := fl.length) (c := ci) hr (fun j y hj => by
        rw [List.getElem?_set] at hj
        by_cases e : m = j
        · subst e
          have hjl : m < cur.size := (Array.getElem?_eq_some_iff.1 (HCC.out m _ (insL_get hml))).1
          rw [if_pos rfl, if_pos (by rw [insL_len]; exact hml)] at hj
          cases hj
          rw [Array.getElem?_setIfInBounds, if_pos rfl, if_pos hjl]
        · rw [if_neg e] at hj
          rw [Array.getElem?_setIfInBounds, if_neg e]
          exact HCC.out j y hj) (fun y hy => by
        rcases List.mem_or_eq_of_mem_set hy with h1 | rfl
        · exact insL_I HOK.out (by rw [HLL.out]; exact Nat.le_refl _) y h1
        · exact (i64_sp ⟨o1, o2, o3⟩ 0).2) (by rw [List.length_set, insL_len]) hcl hcm)
      have HNO : Hid (coversB x h ((insL fl Lr fl.length).set m (s.hi + 1)) = false) := Lib.hid (cov_no HRC.out h64 (i := m) (s := s) (by rw [← HLR.out]; exact HSS.out) _ (by rw [List.getElem?_set_self (by rw [insL_len]; exact hml)]))
      have HRW := Lib.hid (HR.out.below (stays_list stays_Span 2) HB10.out)
      clear hr HX9 HC9 HR9 HB9 hcm9 hfz9 hhi o1 o2 o3 hw1 hmz HSS
      generalize w9.setCell ⟨gi, m, none⟩ (.int .i64 (s.hi + 1)) = w10 at *
      go_wp2_with (refine wpList_load_rowW (by first | (go_simp; done) | rfl) 27 _ rfl _ rfl 27 _ _ _ HX10.out undKs rfl infoKs ?_)
      refine (covers_any x (.slice a0 x.rain.length q0) h ((insL fl Lr fl.length).set m (s.hi + 1)) (.slice (some ⟨gi, 0, none⟩) fl.length ci) _ HRW.out hh hs HIN.out).mono ?_
      rintro e w11 ⟨rfl, hb11⟩
      rw [HNO.out]
      have HB11 := Lib.hid (HB10.out.trans (hb11.mono HB10.out.size))
      clear hb11 HB10 HIN HRW HX10
      go_wp2_with fail
      go_ret
      exact ⟨rfl, by first | exact HB11.out | (rw [← hbX]; exact HB11.out)⟩
end Go.Proofs.Ytleiiedacachjaa
