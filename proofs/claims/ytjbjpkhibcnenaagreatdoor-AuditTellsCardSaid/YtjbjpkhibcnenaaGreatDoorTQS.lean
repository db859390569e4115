/- Named: the offices of a list of blames, in ascending order; slices of ints of the call's own. -/
import Derived.Lib.SlicesCompact
import Derived.Test.YtjbjpkhibcnenaaGreatDoorTQM
import Derived.Test.YtjbjpkhibcnenaaGreatDoorAFind
import Derived.Test.YtjbjpkhibcnenaaGreatDoorAPre
namespace Go.Proofs.YtjbjpkhibcnenaaGreatDoor
set_option maxRecDepth 100000
set_option maxHeartbeats 16000000
open Go.RowKit
def namedL (l : List BlV) : List Int := Lib.compact (l.map (·.office))
def namedK (l : List BlV) (k : Nat) : List Int := Lib.compactUpTo (l.map (·.office)).toArray k
theorem namedK_all (l : List BlV) : namedK l l.length = namedL l := by
 unfold namedK namedL Lib.compact; rw [List.length_map]
theorem arr_at {d : List Int} {k : Nat} {o : Int} (h : d[k]? = some o) : (d.toArray)[k]! = o := by
 rw [getElem!_def, List.getElem?_toArray, h]
theorem upTo_last {d : List Int} (hd : d.Pairwise (· ≤ ·)) : ∀ (k : Nat) (p : Int), d[k]? = some p → ∃ m, Lib.compactUpTo d.toArray (k + 1) = m ++ [p] ∧ ∀ y ∈ m, y < p
 | 0, p, h => ⟨[], by rw [Lib.compactUpTo_succ, show Lib.keeps d.toArray 0 = true from Lib.keeps_lt_one _ 0 (by decide), arr_at h]; rfl, fun y hy => by simp at hy⟩
 | k + 1, p, h => by
  have hk : k + 1 < d.length := (List.getElem?_eq_some_iff.1 h).1; obtain ⟨q, hq⟩ : ∃ q, d[k]? = some q := ⟨_, List.getElem?_eq_getElem (by omega)⟩; obtain ⟨m, hm, hlt⟩ := upTo_last hd k q hq
  have hle : q ≤ p := by
   rw [List.pairwise_iff_getElem] at hd; have := hd k (k + 1) (by omega) hk (by omega); rw [(List.getElem?_eq_some_iff.1 hq).2, (List.getElem?_eq_some_iff.1 h).2] at this; exact this
  rw [Lib.compactUpTo_succ, hm]; by_cases e : p = q
  ·
   subst e; rw [Lib.keeps_neg (by omega) (by rw [arr_at h, show k + 1 - 1 = k from rfl, arr_at hq])]; exact ⟨m, by simp, hlt⟩
  ·
   rw [Lib.keeps_pos (by rw [arr_at h, show k + 1 - 1 = k from rfl, arr_at hq]; exact e), if_pos rfl, arr_at h]; refine ⟨m ++ [q], rfl, fun y hy => ?_⟩; rcases List.mem_append.1 hy with hy | hy
   · have := hlt y hy; omega
   ·
    have : y = q := by simpa using hy
    omega
theorem named_step {l : List BlV} (hd : (l.map (·.office)).Pairwise (· ≤ ·)) {k : Nat} {x : BlV} (hk : l[k]? = some x) :
 ((∀ y ∈ namedK l k, y < x.office) ∧ namedK l (k + 1) = namedK l k ++ [x.office]) ∨ (∃ m, namedK l k = m ++ [x.office] ∧ (∀ y ∈ m, y < x.office) ∧ namedK l (k + 1) = namedK l k) := by
 have ho : (l.map (·.office))[k]? = some x.office := by rw [List.getElem?_map, hk]; rfl
 unfold namedK; rcases k with _ | k
 ·
  left
  refine ⟨fun y hy => by simp [Lib.compactUpTo] at hy, ?_⟩; rw [Lib.compactUpTo_succ, show Lib.keeps _ 0 = true from Lib.keeps_lt_one _ 0 (by decide), arr_at ho]
  rfl
 ·
  have hkl : k + 1 < (l.map (·.office)).length := (List.getElem?_eq_some_iff.1 ho).1; obtain ⟨q, hq⟩ : ∃ q, (l.map (·.office))[k]? = some q := ⟨_, List.getElem?_eq_getElem (by omega)⟩; obtain ⟨m, hm, hlt⟩ := upTo_last hd k q hq
  have hle : q ≤ x.office := by
   rw [List.pairwise_iff_getElem] at hd; have := hd k (k + 1) (by omega) hkl (by omega); rw [(List.getElem?_eq_some_iff.1 hq).2, (List.getElem?_eq_some_iff.1 ho).2] at this; exact this
  by_cases e : x.office = q
  ·
   right
   refine ⟨m, by rw [hm, e], by rw [e]; exact hlt, ?_⟩; rw [Lib.compactUpTo_succ (m := k + 1), Lib.keeps_neg (by omega) (by rw [arr_at ho, show k + 1 - 1 = k from rfl, arr_at hq]; exact e)]; simp
  ·
   left
   refine ⟨fun y hy => ?_, ?_⟩
   ·
    rw [hm] at hy; rcases List.mem_append.1 hy with hy | hy
    · have := hlt y hy; omega
    ·
     have : y = q := by simpa using hy
     omega
   · rw [Lib.compactUpTo_succ (m := k + 1), Lib.keeps_pos (by rw [arr_at ho, show k + 1 - 1 = k from rfl, arr_at hq]; exact e), if_pos rfl, arr_at ho]
theorem namedK_len (l : List BlV) (k : Nat) : (namedK l k).length ≤ k := by
 unfold namedK Lib.compactUpTo; rw [List.length_map]; refine Nat.le_trans (List.length_filter_le _ _) ?_; rw [List.length_range]; exact Nat.le_refl _
theorem namedK_I64 {l : List BlV} (h : ∀ x ∈ l, I64 x.office) {k : Nat} (hk : k ≤ l.length) : ∀ y ∈ namedK l k, I64 y := fun y hy => by
 unfold namedK Lib.compactUpTo at hy; obtain ⟨j, hj, rfl⟩ := List.mem_map.1 hy; have hjk := List.mem_range.1 (List.mem_filter.1 hj).1; obtain ⟨x, hx⟩ : ∃ x, l[j]? = some x := ⟨_, List.getElem?_eq_getElem (by omega)⟩; rw [arr_at (o := x.office) (by rw [List.getElem?_map, hx]; rfl)]; exact h x (List.mem_of_getElem? hx)
theorem findL_offices (J : JV) (l : List CV) (vows : List PV) : ((findL J l vows).map (·.office)).Pairwise (· ≤ ·) := by
 rw [List.pairwise_map]; refine List.Pairwise.imp ?_ (findL_sorted J l vows); intro a b h; unfold ltOW at h; omega
theorem undSI : Tryz.prog.underlying 29 = some (.slice 3) := by kernel_rfl
theorem elemSI : Tryz.prog.elem 29 = 3 := by kernel_rfl
theorem sizeSI (W : World) : (sizeOf 3).run Tryz.prog W = .ok 1 W := by kernel_rfl
theorem infoI8 : ∃ i z, Tryz.prog.info? 3 = some i ∧ i.size = 1 ∧ i.zero = some z ∧ z.cells.size = 1 ∧ i.bytes = 8 := by
 have h : (Tryz.prog.info? 3).map (fun i => (i.size, i.zero.map (fun z => z.cells.size), i.bytes)) = some (1, some 1, 8) := by kernel_rfl
 cases hi : Tryz.prog.info? 3 with
 | none => rw [hi] at h; cases h
 | some i =>
  rw [hi] at h; simp only [Option.map_some, Option.some.injEq, Prod.mk.injEq] at h; obtain ⟨h1, h2, h3⟩ := h
  cases hz : i.zero with
  | none => rw [hz] at h2; cases h2
  | some z =>
   rw [hz] at h2; simp only [Option.map_some, Option.some.injEq] at h2; exact ⟨i, z, rfl, h1, hz, h2, h3⟩
def flI (l : List Int) : List Value := l.map (Value.int .i64)
theorem flI_len (l : List Int) : (flI l).length = l.length * 1 := by unfold flI; rw [List.length_map, Nat.mul_one]
theorem flI_one (l : List Int) : ∀ u ∈ flI l, u.oneCell' = true := fun u hu => by
 obtain ⟨x, _, rfl⟩ := List.mem_map.1 hu
 rfl
theorem flI_get {l : List Int} {j : Nat} {u : Value} (h : (flI l)[j]? = some u) : ∃ x, l[j]? = some x ∧ u = .int .i64 x := by
 unfold flI at h; rw [List.getElem?_map, Option.map_eq_some_iff] at h; obtain ⟨x, h1, h2⟩ := h; exact ⟨x, h1, h2.symm⟩
theorem larg_ownI {c : World} {base n : Nat} {v : Value} {l : List Int} (h : c.ownsRow base 3 1 v n (flI l)) (hx : ∀ x ∈ l, I64 x) : ∃ a k, v = .slice a l.length k ∧ LArg RInt 1 (.slice a l.length k) l c := by
 have hn : n = l.length := by have := h.1; rw [flI_len] at this; omega
 subst hn; rcases h.2 with ⟨rfl, h0⟩ | ⟨g, cap, cur, rfl, _, hg, hc, hm, hs, ht⟩
 ·
  rw [h0]; refine ⟨none, 0, rfl, none, 0, by rw [h0], by omega, by unfold maxLen; omega, fun j x hj => ?_⟩; rw [List.eq_nil_of_length_eq_zero h0] at hj; simp at hj
 ·
  refine ⟨_, _, rfl, _, _, rfl, hc, hm, fun j x hj => ⟨g, 0, [.int .i64 x], rfl, blk_lt hg, rfl, ?_, rfl, hx x (List.mem_of_getElem? hj)⟩⟩; intro i u hi
  have hi0 : i = 0 := by
   have := (List.getElem?_eq_some_iff.1 hi).1; simp at this; omega
  subst hi0; have e : u = .int .i64 x := by simpa using hi.symm
  subst e; have h1 := cell_of_row _ _ (0 + j * 1 + 0) _ _ _ hg; rw [← Array.getElem?_toList] at h1; refine h1.trans ?_; have h3 : (flI l)[j]? = some (.int .i64 x) := by unfold flI; rw [List.getElem?_map, hj]; rfl
  rw [← ht, List.getElem?_take] at h3
  split at h3
  · rw [Nat.zero_add, Nat.mul_one, Nat.add_zero]; exact h3
  · cases h3
theorem larg_newsI {w : World} {a : Option Addr} {n c : Nat} {l : List Int} (h : LArg RInt 1 (.slice a n c) l w) : ∀ j u, (flI l)[j]? = some u → ∃ ad, a = some ad ∧ w.cell? (ad.add j) = some u := fun j u hj => by
 obtain ⟨x, hx, rfl⟩ := flI_get hj; obtain ⟨b, o, cs, h1, _, _, h2, h3, _⟩ := h.at hx; refine ⟨⟨b, o, none⟩, h1, ?_⟩; rw [Addr.add_mid]; have := h2 0 (.int .i64 x) (by rw [h3]; rfl); rw [Nat.mul_one, Nat.add_zero] at this; exact this
def RetI (L : List Int) (w : World) (e : Ending) (w' : World) : Prop := ∃ a n, e = .returned (.slice a L.length n) ∧ LArg RInt 1 (.slice a L.length n) L w' ∧ Below w.heap.size w w'
theorem range_sub {w : World} {b o k : Nat} {cs : List Value} (h : w.rangeAt b o cs) (ls : List Value) (hl : (cs.drop k).take ls.length = ls) : w.rangeAt b (o + k) ls := fun j v hv => by
 have h1 : cs[k + j]? = some v := by
  have h2 : ((cs.drop k).take ls.length)[j]? = some v := by rw [hl]; exact hv
  rw [List.getElem?_take] at h2
  split at h2
  · rw [List.getElem?_drop] at h2; exact h2
  · cases h2
 have := h (k + j) v h1; rw [Nat.add_assoc]; exact this
theorem neqP (p : PV) {w : World} {o : Oper} {ev : Operand → Value} {x y : Operand} {u : TypeId} (ho : o.op = .binOp .neq 38 x y u) (hx : ev x = .agg #[p.office, p.since, p.till, p.litres, p.e, p.s]) (hy : ev y = .agg #[p.office, p.since, p.till, p.litres, p.e, p.s]) : (execOp ev o).run Tryz.prog w = .ok (.value (.bool false)) w := by
 unfold execOp; go_simp; (try simp)
theorem rsameB (L : List BlV) (va vb : Value) (w : World) (hA : LArg RBl 9 va L w) (hB : LArg RBl 9 vb L w) (hl : ∀ x ∈ L, x.claims.length ≤ 100) (hL : L.length ≤ 1000) :
 Calls Tryz.prog 14 #[va, vb] w (RetB true w) := by
 obtain ⟨a1, q1, rfl, -, -⟩ := hA.slice; obtain ⟨a2, q2, rfl, -, -⟩ := hB.slice; have HA := hD hA; have HB := hD hB; have HLN := hD hl; clear hA hB hl; go_enter Tryz.func14, Tryz.ntmps14; go_wp2_with fail; go_loopw [5] (fun iv wx => ∃ k : Nat, k ≤ L.length ∧ iv = .int .i64 k ∧ RowsS w [] wx) (fun iv _ => L.length - (Go.RowKit.intOf iv).toNat)
 case atStart => exact ⟨0, Nat.zero_le _, rfl, RowsS.nil _⟩
 case round =>
  obtain ⟨k, hk, rfl, hr⟩ := hrel; have HR1 := hD hr; clear hr; by_cases hlt : k < L.length
  ·
   obtain ⟨z, hz⟩ : ∃ z, L[k]? = some z := ⟨_, List.getElem?_eq_getElem hlt⟩; have HZL := hD (HLN.out z (List.mem_of_getElem? hz)); obtain ⟨b1, o1, cs, rfl, hb1, -, hrg, v1, rfl, -, hu1⟩ := HA.out.at hz; obtain ⟨b2, o2, cs, rfl, hb2, -, hrg2, v2, rfl, -, hu2⟩ := HB.out.at hz; obtain ⟨u1, n1, rfl, -, -⟩ := hu1.slice; obtain ⟨u2, n2, rfl, -, -⟩ := hu2.slice; have HU1 := hD hu1; have HU2 := hD hu2; have HRG1 : Hid (w.rangeAt b1 (o1 + k * 9) [.int .i64 z.office, .int .i64 z.why, .slice u1 z.claims.length n1, .int .i64 z.prom.office, .int .i64 z.prom.since, .int .i64 z.prom.till, .int .i64 z.prom.litres, .int .i64 z.prom.e, .int .i64 z.prom.s]) := hD hrg; have HRG2 : Hid (w.rangeAt b2 (o2 + k * 9) [.int .i64 z.office, .int .i64 z.why, .slice u2 z.claims.length n2, .int .i64 z.prom.office, .int .i64 z.prom.since, .int .i64 z.prom.till, .int .i64 z.prom.litres, .int .i64 z.prom.e, .int .i64 z.prom.s]) := hD hrg2; clear hrg hrg2 hu1 hu2 hz; go_upto_region 6 with fail; refine wrd (S := RowsS w _) (HR1.out.drew) (fun yH => ?_); refine tn 0 ?_; refine tn 1 ?_; refine tn 2 ?_; refine tn 3 ?_; refine tn 4 ?_ (hx := fun wz hSw => by have e4 := (rangeAt_below HRG1.out hSw.below hb1) 0 (.int .i64 z.office) rfl; rw [Nat.add_zero] at e4; go_simp; try with_reducible rfl); refine tn 5 ?_; refine tn 6 ?_; refine tn 7 ?_; refine tn 8 ?_; refine tn 9 ?_ (hx := fun wz hSw => by have e4 := (rangeAt_below HRG2.out hSw.below hb2) 0 (.int .i64 z.office) rfl; rw [Nat.add_zero] at e4; go_simp; try with_reducible rfl)
   refine tn 10 ?_; refine tn 11 ?_; refine tn 12 ?_; refine tn 13 ?_; refine tn 14 ?_; refine tn 15 ?_; refine tn 16 ?_ (hx := fun wz hSw => by have e4 := (rangeAt_below HRG1.out hSw.below hb1) 1 (.int .i64 z.why) rfl; go_simp; try with_reducible rfl); refine tn 17 ?_; refine tn 18 ?_; refine tn 19 ?_; refine tn 20 ?_; refine tn 21 ?_ (hx := fun wz hSw => by have e4 := (rangeAt_below HRG2.out hSw.below hb2) 1 (.int .i64 z.why) rfl; go_simp; try with_reducible rfl); refine tn 22 ?_; refine tn 23 ?_; refine tn 24 ?_; refine tn 25 ?_; refine tn 26 ?_; refine tn 27 ?_; refine tn 28 ?_; refine tn 29 ?_ (hx := fun wz hSw => by refine exec_load_range 38 _ rfl _ _ ?_ _ _ (range_sub (k := 3) (rangeAt_below HRG1.out hSw.below hb1) [.int .i64 z.prom.office, .int .i64 z.prom.since, .int .i64 z.prom.till, .int .i64 z.prom.litres, .int .i64 z.prom.e, .int .i64 z.prom.s] rfl) undPm rfl infoPm; exact rfl); refine tn 30 ?_; refine tn 31 ?_; refine tn 32 ?_; refine tn 33 ?_; refine tn 34 ?_ (hx := fun wz hSw => by refine exec_load_range 38 _ rfl _ _ ?_ _ _ (range_sub (k := 3) (rangeAt_below HRG2.out hSw.below hb2) [.int .i64 z.prom.office, .int .i64 z.prom.since, .int .i64 z.prom.till, .int .i64 z.prom.litres, .int .i64 z.prom.e, .int .i64 z.prom.s] rfl) undPm rfl infoPm; exact rfl); refine tn 35 ?_ (hx := fun wz hSw => by exact neqP z.prom rfl rfl rfl); refine tn 36 ?_; refine tn 37 ?_; refine tn 38 ?_; refine tn 39 ?_; refine tn 40 ?_; refine tn 41 ?_; refine tn 42 ?_ (hx := fun wz hSw => by have e4 := (rangeAt_below HRG1.out hSw.below hb1) 2 (.slice u1 z.claims.length n1) rfl; go_simp; try with_reducible rfl)
   refine tn 43 ?_; refine tn 44 ?_; refine tn 45 ?_; refine tn 46 ?_; refine tn 47 ?_ (hx := fun wz hSw => by have e4 := (rangeAt_below HRG2.out hSw.below hb2) 2 (.slice u2 z.claims.length n2) rfl; go_simp; try with_reducible rfl); refine rd1 48 (fun K hK => ?_); go_simp; refine (rsame_any z.claims _ _ _ (HU1.out.below stays_RC yH.below) (HU2.out.below stays_RC yH.below) HZL.out).mono ?_; rintro e w' ⟨rfl, hb⟩; refine hK.out _ _ (yH.step hb) (fun yH => ?_); clear hK K; refine tn 49 ?_; refine tn 50 ?_; refine rdn ?_; have HR5 := hD yH; clear yH HR1; go_wp2_with fail; go_roundw
   case rel => exact ⟨k + 1, by omega, by go_num, HR5.out⟩
   case measure => simp [Go.RowKit.intOf]; omega
  ·
   go_wp2_with fail; go_ret; exact retB_mk rfl HR1.out.below
end Go.Proofs.YtjbjpkhibcnenaaGreatDoor

