/- basin.rightSlopes. -/
import Derived.Deep.RegionLaw
import Derived.Laws.MakeOwn
import Derived.Test.YtepidpegoihllaaGreatDoorBPlaces
import Derived.Test.YtepidpegoihllaaGreatDoorBLinks
import Derived.Test.YtepidpegoihllaaGreatDoorBCtx
namespace Go.Proofs.YtepidpegoihllaaGreatDoor
open Go.RowKit
def i64v (vs : List Int) : Array Value := (vs.map (Value.int .i64)).toArray
theorem i64v_get {vs : List Int} {i : Nat} {z : Int} (h : vs[i]? = some z) : (i64v vs)[i]? = some (.int .i64 z) := by simp [i64v, h]
theorem i64v_set (vs : List Int) (i : Nat) (z : Int) : (i64v vs).setIfInBounds i (.int .i64 z) = i64v (vs.set i z) := by simp [i64v, List.map_set]
/-- at least as great, one by one -/
def GeV (vs us : List Int) : Prop := us.length = vs.length ∧ ∀ (i : Nat) z, us[i]? = some z → ∃ y, vs[i]? = some y ∧ y ≤ z
theorem GeV.refl (vs : List Int) : GeV vs vs := ⟨rfl, fun _ z h => ⟨z, h, Int.le_refl _⟩⟩
theorem GeV.trans {a b c : List Int} (h : GeV a b) (k : GeV b c) : GeV a c := ⟨k.1.trans h.1, fun i z hz => by
  obtain ⟨y, hy, h1⟩ := k.2 i z hz
  obtain ⟨x, hx, h2⟩ := h.2 i y hy
  exact ⟨x, hx, Int.le_trans h2 h1⟩⟩
theorem ge_set {vs : List Int} {m : Nat} {z c : Int} (h : vs[m]? = some z) (hc : 0 ≤ c) : GeV vs (vs.set m (z + c)) := by
  refine ⟨List.length_set, fun i y hy => ?_⟩
  by_cases e : m = i
  · subst e
    rw [List.getElem?_set_self (List.getElem?_eq_some_iff.1 h).1] at hy
    cases hy
    exact ⟨z, h, by omega⟩
  · rw [List.getElem?_set_ne e] at hy
    exact ⟨y, hy, Int.le_refl _⟩
def BndV (vs : List Int) (B : Int) : Prop := ∀ v ∈ vs, 0 ≤ v ∧ v ≤ B
theorem BndV.mono {vs : List Int} {B C : Int} (h : BndV vs B) (hc : B ≤ C) : BndV vs C := fun v hv => ⟨(h v hv).1, Int.le_trans (h v hv).2 hc⟩
theorem bnd_set {vs : List Int} {m : Nat} {z c B C : Int} (h : BndV vs B) (hz : vs[m]? = some z) (hc : 0 ≤ c) (hC : c ≤ C) : BndV (vs.set m (z + c)) (B + C) := fun v hv => by
  have hzm := h z (List.mem_of_getElem? hz)
  rcases List.mem_or_eq_of_mem_set hv with h1 | h1
  · have := h v h1
    omega
  · subst h1
    omega
theorem upd {us : List Int} {m n : Nat} {z s B C : Int} (hz : us[m]? = some z) (hl : us.length = n) (hb : BndV us B) (h0 : 0 ≤ s) (hc : s ≤ C) : ∃ us2, us.set m (z + s) = us2 ∧ us2.length = n ∧ BndV us2 (B + C) ∧ GeV us us2 ∧ us2[m]? = some (z + s) :=
  ⟨_, rfl, List.length_set.trans hl, bnd_set hb hz h0 hc, ge_set hz h0, List.getElem?_set_self (List.getElem?_eq_some_iff.1 hz).1⟩
theorem row_eq {w4 c : World} {b : Nat} {o : Obj} (hw : w4 = c) (h : c.heap[b]? = some o) : w4.heap[b]? = some o := by rw [hw]; exact h
theorem bnd_put {vs : List Int} {m : Nat} {c B : Int} (h : BndV vs B) (hc : 0 ≤ c) (hC : c ≤ B) : BndV (vs.set m c) B := fun v hv => by
  rcases List.mem_or_eq_of_mem_set hv with h1 | h1
  · exact h v h1
  · subst h1
    exact ⟨hc, hC⟩
/-- what the sums hold of a link -/
def SlopeLow (y : LinkV) (vs : List Int) : Prop :=
  (y.kind = 0 → (∀ z, vs[y.src.toNat]? = some z → SlUp y.rate y.rate.length z) ∧ (y.dst ≠ -1 → ∀ z, vs[y.dst.toNat]? = some z → slopeN y.backNum y.backDen ≤ z)) ∧
  (y.kind = 1 ∨ y.kind = 3 ∨ y.kind = 5 → ∀ z, vs[y.src.toNat]? = some z → slopeN y.num y.den ≤ z)
theorem SlopeLow.mono {y : LinkV} {vs us : List Int} (h : SlopeLow y vs) (hg : GeV vs us) : SlopeLow y us := by
  refine ⟨fun hk => ⟨fun z hz => ?_, fun hd z hz => ?_⟩, fun hk z hz => ?_⟩
  · obtain ⟨a, ha, hl⟩ := hg.2 _ z hz
    exact ((h.1 hk).1 a ha).le hl
  · obtain ⟨a, ha, hl⟩ := hg.2 _ z hz
    exact Int.le_trans ((h.1 hk).2 hd a ha) hl
  · obtain ⟨a, ha, hl⟩ := hg.2 _ z hz
    exact Int.le_trans (h.2 hk a ha) hl
/-- what the sums give of a link -/
def SlopeR (y : LinkV) : Prop := (y.kind = 0 → Gentle y.rate ∧ (y.dst = -1 ∨ y.backNum ≤ y.backDen)) ∧ (y.kind = 1 ∨ y.kind = 3 ∨ y.kind = 5 → y.num ≤ y.den)
theorem slopeR_of {b : BasinV} {y : LinkV} {vs : List Int} (hl : LinkR b y) (h : SlopeLow y vs) (hv : vs.length = b.places.length) (hb : ∀ v ∈ vs, v ≤ 1099511627776) : SlopeR y := by
  obtain ⟨-, hs, hd, hf, -⟩ := hl
  obtain ⟨z, hz⟩ : ∃ z, vs[y.src.toNat]? = some z := ⟨_, List.getElem?_eq_getElem (by omega)⟩
  have hzb := hb z (List.mem_of_getElem? hz)
  refine ⟨fun hk => ?_, fun hk => ?_⟩
  · obtain ⟨r1, -, -, -, -, -, -, -, f1, f2, f3, f4, f5⟩ := hf.1 hk
    refine ⟨gentle_of_up r1 (((h.1 hk).1 z hz).le hzb), ?_⟩
    by_cases e : y.dst = -1
    · exact Or.inl e
    · obtain ⟨u, hu⟩ : ∃ u, vs[y.dst.toNat]? = some u := ⟨_, List.getElem?_eq_getElem (by omega)⟩
      have hub := hb u (List.mem_of_getElem? hu)
      have := (h.1 hk).2 e u hu
      by_cases e0 : y.backDen = 0
      · exact Or.inr (by have := f5 e0; omega)
      · exact Or.inr ((slope_ok f1 f3).2.2 e0 (by omega))
  · have h2 := h.2 hk z hz
    have hnd : 0 ≤ y.num ∧ 1 ≤ y.den := by
      rcases hk with hk | hk | hk
      · have := hf.2.1 (Or.inl hk); omega
      · have := hf.2.2.2.1 hk; omega
      · have := hf.2.1 (Or.inr hk); omega
    exact (slope_ok hnd.1 (by omega)).2.2 (by omega) (by omega)
theorem lows_succ {b : BasinV} {k : Nat} {x : LinkV} {vs us : List Int} (hx : b.links[k]? = some x) (h : ∀ (j : Nat) (y : LinkV), j < k → b.links[j]? = some y → SlopeLow y vs) (hg : GeV vs us) (h1 : SlopeLow x us) : ∀ (j : Nat) (y : LinkV), j < k + 1 → b.links[j]? = some y → SlopeLow y us := fun j y hj hy => by
  rcases Nat.lt_or_eq_of_le (show j ≤ k by omega) with h2 | rfl
  · exact (h j y h2 hy).mono hg
  · rw [hx] at hy; cases hy; exact h1
/-- a slice of three slices of points that lie in memory -/
theorem larg_three {w : World} {g : Nat} {v0 v1 v2 : Value} {l0 l1 l2 : List PointV} {t : TypeId} (h : w.heap[g]? = some (.cells #[v0, v1, v2] t (0, 0))) (h0 : LArg RPoint 2 v0 l0 w) (h1 : LArg RPoint 2 v1 l1 w) (h2 : LArg RPoint 2 v2 l2 w) :
    LArg (RList RPoint 2) 1 (.slice (some ⟨g, 0, none⟩) 3 3) [l0, l1, l2] w := by
  have hr := rowNG h
  have hlt := blk_lt h
  refine ⟨_, _, rfl, Nat.le_refl _, by unfold maxLen; decide, fun j x hj => ?_⟩
  match j, hj with
  | 0, hj => cases hj; exact ⟨g, 0, [v0], rfl, hlt, rfl, (fun i u hu => by
      match i, hu with
      | 0, hu => cases hu; exact hr 0 _ rfl), v0, rfl, h0⟩
  | 1, hj => cases hj; exact ⟨g, 0, [v1], rfl, hlt, rfl, (fun i u hu => by
      match i, hu with
      | 0, hu => cases hu; exact hr 1 _ rfl), v1, rfl, h1⟩
  | 2, hj => cases hj; exact ⟨g, 0, [v2], rfl, hlt, rfl, (fun i u hu => by
      match i, hu with
      | 0, hu => cases hu; exact hr 2 _ rfl), v2, rfl, h2⟩
theorem make_ints (n : Nat) (w : World) (hn : n ≤ 1000) : (Instr.makeSlice 29 (.int .i64 (n : Int)) (.int .i64 (n : Int))).run Tryz.prog w = .ok (.slice (some ⟨w.heap.size, 0, none⟩) n n) (w.alloc (.cells (i64v (List.replicate n 0)) 3)) := by
  obtain ⟨i0, hi⟩ : ∃ i, Tryz.prog.info? 3 = some i := Option.isSome_iff_exists.1 (by kernel_rfl)
  have hz0 : i0.zero = some (.int .i64 0) := by
    have h : (Tryz.prog.info? 3).bind (·.zero) = some (.int .i64 0) := by kernel_rfl
    rw [hi] at h; exact h
  have hz2 : i0.bytes = 8 := by
    have h : (Tryz.prog.info? 3).map (·.bytes) = some 8 := by kernel_rfl
    rw [hi] at h; exact Option.some.inj h
  have hz3 : i0.size = 1 := by
    have h : (Tryz.prog.info? 3).map (·.size) = some 1 := by kernel_rfl
    rw [hi] at h; exact Option.some.inj h
  have hr := run_make (P := Tryz.prog) w 29 3 i0 (.int .i64 0) und_L1 hi hz0 .i64 .i64 (n : Int) (n : Int) (by omega) (by omega) (by rw [hz2]; omega) (by omega)
  rw [hr, hz3]
  have hc : madeCells (Value.cells (.int .i64 0)) ((n : Int).toNat * 1) = i64v (List.replicate n 0) := by
    rw [Int.toNat_natCast, Nat.mul_one]
    unfold madeCells i64v
    apply Array.ext
    · simp
    · intro i h1 h2
      simp
      show (#[Value.int .i64 0] : Array Value)[i % 1]! = _
      rw [Nat.mod_one]
      rfl
  rw [← hc]
  rfl
set_option maxRecDepth 100000 in
set_option maxHeartbeats 8000000 in
theorem slopes_right (b : BasinV) (p0 p1 p2 p3 p4 p5 p6 p7 : Option Addr) (q0 q1 q2 q3 q4 q5 q6 q7 : Nat) (w : World) (hS : BasinS b p0 p1 p2 p3 p4 p5 p6 p7 q0 q1 q2 q3 q4 q5 q6 q7 w) (hN : BasinLen b) (hpr : ∀ y ∈ b.places, PlaceR b y) (hlr : ∀ y ∈ b.links, LinkR b y) : Calls Tryz.prog 26 #[.agg #[.string b.name, .slice p0 b.owners.length q0, .int .i64 b.cells, .slice p1 b.places.length q1, .slice p2 b.links.length q2, .slice p3 b.towns.length q3, .slice p4 b.gauges.length q4, .slice p5 b.roads.length q5, .slice p6 b.shelters.length q6, .slice p7 b.room.length q7, .int .i64 b.err]] w (RetT (∀ y ∈ b.links, SlopeR y) w) := by
  have HS := Lib.hid hS
  obtain ⟨n0, n0', n1, n1', n2, n3, n4, n5, n6, n7⟩ := hN
  clear hS
  go_enter Tryz.func26, Tryz.ntmps26
  go_upto_region 1 with fail
  have HR0 := Lib.hid (heap_alloc_new w (.cells #[.string b.name, .slice p0 b.owners.length q0, .int .i64 b.cells, .slice p1 b.places.length q1, .slice p2 b.links.length q2, .slice p3 b.towns.length q3, .slice p4 b.gauges.length q4, .slice p5 b.roads.length q5, .slice p6 b.shelters.length q6, .slice p7 b.room.length q7, .int .i64 b.err] 31))
  have HB0 := Lib.hid ((Below.refl w.heap.size w).alloc (Nat.le_refl _) (.cells #[.string b.name, .slice p0 b.owners.length q0, .int .i64 b.cells, .slice p1 b.places.length q1, .slice p2 b.links.length q2, .slice p3 b.towns.length q3, .slice p4 b.gauges.length q4, .slice p5 b.roads.length q5, .slice p6 b.shelters.length q6, .slice p7 b.room.length q7, .int .i64 b.err] 31))
  generalize w.alloc (.cells #[.string b.name, .slice p0 b.owners.length q0, .int .i64 b.cells, .slice p1 b.places.length q1, .slice p2 b.links.length q2, .slice p3 b.towns.length q3, .slice p4 b.gauges.length q4, .slice p5 b.roads.length q5, .slice p6 b.shelters.length q6, .slice p7 b.room.length q7, .int .i64 b.err] 31) = w0 at *
  have hmk : ∀ w, (Instr.makeSlice 29 (.int .i64 (b.places.length : Int)) (.int .i64 (b.places.length : Int))).run Tryz.prog w = .ok (.slice (some ⟨w.heap.size, 0, none⟩) b.places.length b.places.length) (w.alloc (.cells (i64v (List.replicate b.places.length 0)) 3)) := fun w => make_ints b.places.length w (by omega)
  have HPR := Lib.hid hpr
  have HLR := Lib.hid hlr
  clear hpr hlr
  have b3 := rowNG HR0.out 3 (.slice p1 b.places.length q1) rfl
  go_upto_region 2 with fail
  clear hmk b3
  have hst : Below w0.heap.size w0 (w0.alloc (.cells (i64v (List.replicate b.places.length 0)) 3)) := (Below.refl _ _).alloc (Nat.le_refl _) _
  have HR1 := Lib.hid (blk_below HR0.out hst (blk_lt HR0.out))
  have HB1 := Lib.hid (HB0.out.alloc HB0.out.size (.cells (i64v (List.replicate b.places.length 0)) 3))
  have HM1 := Lib.hid (heap_alloc_new w0 (.cells (i64v (List.replicate b.places.length 0)) 3))
  have HLE : Hid (w.heap.size ≤ w0.heap.size) := Lib.hid HB0.out.size
  have HNB : Hid (w.heap.size ≠ w0.heap.size) := Lib.hid (Nat.ne_of_lt (blk_lt HR0.out))
  clear hst
  generalize w0.alloc (.cells (i64v (List.replicate b.places.length 0)) 3) = w1 at *
  generalize w0.heap.size = bs at *
  have b3 := rowNG HR1.out 3 (.slice p1 b.places.length q1) rfl
  go_wp2_with fail
  clear b3
  go_loopw [17] (fun iv wr => ∃ (k : Nat) (vs : List Int), k ≤ b.places.length ∧ iv = .int .i64 k ∧ vs.length = b.places.length ∧ BndV vs 1099511627777 ∧ wr.heap[bs]? = some (.cells (i64v vs) 3 (0, 0)) ∧ wr.heap[w.heap.size]? = some (.cells #[.string b.name, .slice p0 b.owners.length q0, .int .i64 b.cells, .slice p1 b.places.length q1, .slice p2 b.links.length q2, .slice p3 b.towns.length q3, .slice p4 b.gauges.length q4, .slice p5 b.roads.length q5, .slice p6 b.shelters.length q6, .slice p7 b.room.length q7, .int .i64 b.err] 31 (0, 0)) ∧ Below w.heap.size w wr) (fun iv _ => b.places.length - (Go.RowKit.intOf iv).toNat)
  case atStart => exact ⟨0, List.replicate b.places.length 0, Nat.zero_le _, rfl, List.length_replicate, (fun v hv => by rw [List.eq_of_mem_replicate hv]; decide), HM1.out, HR1.out, HB1.out⟩
  case round =>
    obtain ⟨k, vs, hk, rfl, hvl, hvb, hmr, hrow, hb⟩ := hrel
    have HRr := Lib.hid hrow
    have HMr := Lib.hid hmr
    have HBr := Lib.hid hb
    have HVB := Lib.hid hvb
    have HVL := Lib.hid hvl
    clear hrow hb hmr hvb hvl
    by_cases hlt : k < b.places.length
    · obtain ⟨x, hx⟩ : ∃ x, b.places[k]? = some x := ⟨_, List.getElem?_eq_getElem hlt⟩
      obtain ⟨g, o, cs, ha, hbl, -, hrg, hcs⟩ := (HS.out.below HBr.out).l1.at hx
      subst ha
      obtain ⟨v0, v1, v2, rfl, -, -, -, -, -, -, -, -, -, hv0, hv1, hv2⟩ := hcs
      obtain ⟨a0, n0, rfl, -, -⟩ := hv0.slice
      obtain ⟨a1, n1, rfl, -, -⟩ := hv1.slice
      obtain ⟨a2, n2, rfl, -, -⟩ := hv2.slice
      have hst : Below wr.heap.size wr (wr.alloc (.cells #[.string x.name, .int .i64 x.kind, .int .i64 x.office, .int .i64 x.cap, .slice a0 x.level.length n0, .slice a1 x.start.length n1, .int .i64 x.num, .int .i64 x.den, .int .i64 x.down, .int .i64 x.delay, .int .i64 x.floor, .slice a2 x.rain.length n2] 68)) := (Below.refl _ _).alloc (Nat.le_refl _) (.cells #[.string x.name, .int .i64 x.kind, .int .i64 x.office, .int .i64 x.cap, .slice a0 x.level.length n0, .slice a1 x.start.length n1, .int .i64 x.num, .int .i64 x.den, .int .i64 x.down, .int .i64 x.delay, .int .i64 x.floor, .slice a2 x.rain.length n2] 68)
      have HR3 := Lib.hid (blk_below HRr.out hst (blk_lt HRr.out))
      have HM3 := Lib.hid (blk_below HMr.out hst (blk_lt HMr.out))
      have HNE : Hid (bs ≠ wr.heap.size) := Lib.hid (Nat.ne_of_lt (blk_lt HMr.out))
      have HB3 := Lib.hid (HBr.out.alloc HBr.out.size (.cells #[.string x.name, .int .i64 x.kind, .int .i64 x.office, .int .i64 x.cap, .slice a0 x.level.length n0, .slice a1 x.start.length n1, .int .i64 x.num, .int .i64 x.den, .int .i64 x.down, .int .i64 x.delay, .int .i64 x.floor, .slice a2 x.rain.length n2] 68))
      have HX3 := Lib.hid (heap_alloc_new wr (.cells #[.string x.name, .int .i64 x.kind, .int .i64 x.office, .int .i64 x.cap, .slice a0 x.level.length n0, .slice a1 x.start.length n1, .int .i64 x.num, .int .i64 x.den, .int .i64 x.down, .int .i64 x.delay, .int .i64 x.floor, .slice a2 x.rain.length n2] 68))
      have HRG := Lib.hid hrg
      have HX := Lib.hid hx
      have HV0 := Lib.hid (hv0.below stays_Point hst)
      have HV1 := Lib.hid (hv1.below stays_int hst)
      have HV2 := Lib.hid (hv2.below stays_Cell hst)
      clear hrg hx hv0 hv1 hv2 hst
      go_upto_region 5 with (first | (refine wpList_load_rangeG (by rfl) 68 _ rfl _ _ rfl _ _ HRG.out undPl rfl infoPl ?_) | (refine wpList_store_row rfl 68 _ _ rfl wr.heap.size #[.string x.name, .int .i64 x.kind, .int .i64 x.office, .int .i64 x.cap, .slice a0 x.level.length n0, .slice a1 x.start.length n1, .int .i64 x.num, .int .i64 x.den, .int .i64 x.down, .int .i64 x.delay, .int .i64 x.floor, .slice a2 x.rain.length n2] rfl rfl 68 #[.string ⟨#[]⟩, .int .i64 0, .int .i64 0, .int .i64 0, .slice none 0 0, .slice none 0 0, .int .i64 0, .int .i64 0, .int .i64 0, .int .i64 0, .int .i64 0, .slice none 0 0] (heap_alloc_new wr (.cells #[.string ⟨#[]⟩, .int .i64 0, .int .i64 0, .int .i64 0, .slice none 0 0, .slice none 0 0, .int .i64 0, .int .i64 0, .int .i64 0, .int .i64 0, .int .i64 0, .slice none 0 0] 68)) infoPl rfl (by simp [Value.oneCell']) ?_))
      rw [World.setRow_alloc_new]
      generalize wr.alloc (.cells #[.string x.name, .int .i64 x.kind, .int .i64 x.office, .int .i64 x.cap, .slice a0 x.level.length n0, .slice a1 x.start.length n1, .int .i64 x.num, .int .i64 x.den, .int .i64 x.down, .int .i64 x.delay, .int .i64 x.floor, .slice a2 x.rain.length n2] 68) = w3 at *
      generalize wr.heap.size = bx at *
      obtain ⟨f1, f2, f3, f4, -⟩ := (HPR.out x (List.mem_of_getElem? HX.out)).2.2.2.2.2.2.2.1
      have d6 := rowNG HX3.out 6 (.int .i64 x.num) rfl
      have d7 := rowNG HX3.out 7 (.int .i64 x.den) rfl
      have HSB := Lib.hid (slope_ok (n := x.num) (d := x.den) f1 f3)
      have kq : k < vs.length := by rw [HVL.out]; exact hlt
      have m0 : (w3.cell? ⟨bs, k, none⟩).isSome = true := by rw [cell_of_row _ _ _ _ _ _ HM3.out, i64v_get (List.getElem?_eq_getElem kq)]; rfl
      have mf : w3.frozen? ⟨bs, k, none⟩ = false := frozen_of_row _ _ _ _ _ HM3.out
      go_wp2_with fail
      refine (slope_any x.num x.den _ ⟨f1, f2⟩ ⟨f3, f4⟩).mono ?_
      rintro e w4 ⟨rfl, nq, rfl⟩
      obtain ⟨c0, hc0⟩ : ∃ c0, vs[k]? = some c0 := ⟨_, List.getElem?_eq_getElem kq⟩
      have c0' : (w3.drewN nq).cell? ⟨bs, k, none⟩ = some (.int .i64 c0) := (cell_of_row _ _ _ _ _ _ HM3.out).trans (i64v_get hc0)
      have z0 : (w3.drewN nq).frozen? ⟨bs, k, none⟩ = false := mf
      clear mf m0
      have HS2 := HSB.out
      generalize slopeN x.num x.den = sl at *
      go_wp2_with fail
      go_roundw
      case rel => exact ⟨k + 1, vs.set k sl, by omega, by go_num, List.length_set.trans HVL.out, bnd_put HVB.out HS2.1 HS2.2.1, (heap_setCell_same _ _ _ _ _ _ (show (w3.drewN nq).heap[bs]? = _ from HM3.out)).trans (by rw [i64v_set]), (heap_setCell_other _ _ _ _ HNB.out).trans HR3.out, (below_drewN HB3.out).setCell HLE.out _⟩
      case measure => simp [Go.RowKit.intOf]; omega
    · have b4 := rowNG HRr.out 4 (.slice p2 b.links.length q2) rfl
      go_wp2_with fail
      clear b4
      go_loopw [34] (fun iv wr => ∃ (k : Nat) (vs : List Int), k ≤ b.links.length ∧ iv = .int .i64 k ∧ vs.length = b.places.length ∧ BndV vs ((1 + 4 * k) * 1099511627777) ∧ (∀ (j : Nat) (y : LinkV), j < k → b.links[j]? = some y → SlopeLow y vs) ∧ wr.heap[bs]? = some (.cells (i64v vs) 3 (0, 0)) ∧ wr.heap[w.heap.size]? = some (.cells #[.string b.name, .slice p0 b.owners.length q0, .int .i64 b.cells, .slice p1 b.places.length q1, .slice p2 b.links.length q2, .slice p3 b.towns.length q3, .slice p4 b.gauges.length q4, .slice p5 b.roads.length q5, .slice p6 b.shelters.length q6, .slice p7 b.room.length q7, .int .i64 b.err] 31 (0, 0)) ∧ Below w.heap.size w wr) (fun iv _ => b.links.length - (Go.RowKit.intOf iv).toNat)
      case atStart => exact ⟨0, vs, Nat.zero_le _, rfl, HVL.out, HVB.out.mono (by omega), (fun j y hj => by omega), HMr.out, HRr.out, HBr.out⟩
      case round =>
        obtain ⟨k, us, hk, rfl, hvl, hvb, hlow, hmr, hrow, hb⟩ := hrel
        have HRr := Lib.hid hrow
        have HMr := Lib.hid hmr
        have HBr := Lib.hid hb
        have HVB := Lib.hid hvb
        have HVL := Lib.hid hvl
        have HLOW := Lib.hid hlow
        clear hrow hb hmr hvb hvl hlow
        by_cases hlt : k < b.links.length
        · obtain ⟨x, hx⟩ : ∃ x, b.links[k]? = some x := ⟨_, List.getElem?_eq_getElem hlt⟩
          obtain ⟨g, o, cs, ha, hbl, -, hrg, hcs⟩ := (HS.out.below HBr.out).l2.at hx
          subst ha
          obtain ⟨v0, v1, v2, rfl, -, -, -, -, -, -, -, -, -, -, -, -, -, -, -, hv0, hv1, hv2⟩ := hcs
          obtain ⟨a0, n0, rfl, -, -⟩ := hv0.slice
          obtain ⟨a1, n1, rfl, -, -⟩ := hv1.slice
          obtain ⟨a2, n2, rfl, -, -⟩ := hv2.slice
          have hst : Below wr.heap.size wr (wr.alloc (.cells #[.string x.name, .int .i64 x.kind, .int .i64 x.src, .int .i64 x.dst, .slice a0 x.rate.length n0, .slice a1 x.band.lo.length n1, .slice a2 x.band.hi.length n2, .int .i64 x.positions, .int .i64 x.speed, .int .i64 x.leak, .int .i64 x.crest, .int .i64 x.num, .int .i64 x.den, .int .i64 x.prime, .int .i64 x.brk, .int .i64 x.backNum, .int .i64 x.backDen, .int .i64 x.delay] 72)) := (Below.refl _ _).alloc (Nat.le_refl _) (.cells #[.string x.name, .int .i64 x.kind, .int .i64 x.src, .int .i64 x.dst, .slice a0 x.rate.length n0, .slice a1 x.band.lo.length n1, .slice a2 x.band.hi.length n2, .int .i64 x.positions, .int .i64 x.speed, .int .i64 x.leak, .int .i64 x.crest, .int .i64 x.num, .int .i64 x.den, .int .i64 x.prime, .int .i64 x.brk, .int .i64 x.backNum, .int .i64 x.backDen, .int .i64 x.delay] 72)
          have HR3 := Lib.hid (blk_below HRr.out hst (blk_lt HRr.out))
          have HM3 := Lib.hid (blk_below HMr.out hst (blk_lt HMr.out))
          have HNE : Hid (bs ≠ wr.heap.size) := Lib.hid (Nat.ne_of_lt (blk_lt HMr.out))
          have HB3 := Lib.hid (HBr.out.alloc HBr.out.size (.cells #[.string x.name, .int .i64 x.kind, .int .i64 x.src, .int .i64 x.dst, .slice a0 x.rate.length n0, .slice a1 x.band.lo.length n1, .slice a2 x.band.hi.length n2, .int .i64 x.positions, .int .i64 x.speed, .int .i64 x.leak, .int .i64 x.crest, .int .i64 x.num, .int .i64 x.den, .int .i64 x.prime, .int .i64 x.brk, .int .i64 x.backNum, .int .i64 x.backDen, .int .i64 x.delay] 72))
          have HX3 := Lib.hid (heap_alloc_new wr (.cells #[.string x.name, .int .i64 x.kind, .int .i64 x.src, .int .i64 x.dst, .slice a0 x.rate.length n0, .slice a1 x.band.lo.length n1, .slice a2 x.band.hi.length n2, .int .i64 x.positions, .int .i64 x.speed, .int .i64 x.leak, .int .i64 x.crest, .int .i64 x.num, .int .i64 x.den, .int .i64 x.prime, .int .i64 x.brk, .int .i64 x.backNum, .int .i64 x.backDen, .int .i64 x.delay] 72))
          have HRG := Lib.hid hrg
          have HX := Lib.hid hx
          have HV0 := Lib.hid (hv0.below stays_Point hst)
          have HV1 := Lib.hid (hv1.below stays_Point hst)
          have HV2 := Lib.hid (hv2.below stays_Point hst)
          clear hrg hx hv0 hv1 hv2 hst
          go_upto_region 10 with (first | (refine wpList_load_rangeG (by rfl) 72 _ rfl _ _ rfl _ _ HRG.out undLk rfl infoLk ?_) | (refine wpList_store_row rfl 72 _ _ rfl wr.heap.size #[.string x.name, .int .i64 x.kind, .int .i64 x.src, .int .i64 x.dst, .slice a0 x.rate.length n0, .slice a1 x.band.lo.length n1, .slice a2 x.band.hi.length n2, .int .i64 x.positions, .int .i64 x.speed, .int .i64 x.leak, .int .i64 x.crest, .int .i64 x.num, .int .i64 x.den, .int .i64 x.prime, .int .i64 x.brk, .int .i64 x.backNum, .int .i64 x.backDen, .int .i64 x.delay] rfl rfl 72 #[.string ⟨#[]⟩, .int .i64 0, .int .i64 0, .int .i64 0, .slice none 0 0, .slice none 0 0, .slice none 0 0, .int .i64 0, .int .i64 0, .int .i64 0, .int .i64 0, .int .i64 0, .int .i64 0, .int .i64 0, .int .i64 0, .int .i64 0, .int .i64 0, .int .i64 0] (heap_alloc_new wr (.cells #[.string ⟨#[]⟩, .int .i64 0, .int .i64 0, .int .i64 0, .slice none 0 0, .slice none 0 0, .slice none 0 0, .int .i64 0, .int .i64 0, .int .i64 0, .int .i64 0, .int .i64 0, .int .i64 0, .int .i64 0, .int .i64 0, .int .i64 0, .int .i64 0, .int .i64 0] 72)) infoLk rfl (by simp [Value.oneCell']) ?_))
          rw [World.setRow_alloc_new]
          generalize wr.alloc (.cells #[.string x.name, .int .i64 x.kind, .int .i64 x.src, .int .i64 x.dst, .slice a0 x.rate.length n0, .slice a1 x.band.lo.length n1, .slice a2 x.band.hi.length n2, .int .i64 x.positions, .int .i64 x.speed, .int .i64 x.leak, .int .i64 x.crest, .int .i64 x.num, .int .i64 x.den, .int .i64 x.prime, .int .i64 x.brk, .int .i64 x.backNum, .int .i64 x.backDen, .int .i64 x.delay] 72) = w3 at *
          generalize wr.heap.size = bx at *
          obtain ⟨⟨hk1, hk2⟩, hsrc, hdst, hfld, -⟩ := HLR.out x (List.mem_of_getElem? HX.out)
          obtain ⟨m, hm⟩ : ∃ m : Nat, x.src = m := ⟨x.src.toNat, by omega⟩
          have hmv : m < b.places.length := by omega
          obtain ⟨z, hz⟩ : ∃ z, us[m]? = some z := ⟨_, List.getElem?_eq_getElem (by rw [HVL.out]; exact hmv)⟩
          have hzb := HVB.out z (List.mem_of_getElem? hz)
          have hk96 : (k : Int) ≤ 96 := by omega
          have d1 := rowNG HX3.out 1 (.int .i64 x.kind) rfl
          have d2 : w3.cell? ⟨bx, 2, none⟩ = some (.int .i64 (m : Int)) := hm ▸ rowNG HX3.out 2 (.int .i64 x.src) rfl
          have Hz := Lib.hid hz
          have HZ := Lib.hid hz
          have HM := Lib.hid hm
          have HD := Lib.hid hdst
          have HF := Lib.hid hfld
          clear hz hm hsrc hdst hfld
          rcases (show x.kind = 0 ∨ x.kind = 1 ∨ x.kind = 2 ∨ x.kind = 3 ∨ x.kind = 4 ∨ x.kind = 5 by omega) with hk | hk | hk | hk | hk | hk
          · obtain ⟨r1, r2, r3, -, -, -, -, -, g1, g2, g3, g4, -⟩ := HF.out.1 hk
            have HKZ : Hid (x.kind = 0) := Lib.hid hk
            have HRC3 : Hid (∀ c ∈ [x.rate, x.band.lo, x.band.hi], rightC c = true) := Lib.hid fun c hc => by
              simp only [List.mem_cons, List.not_mem_nil, or_false] at hc
              rcases hc with rfl | rfl | rfl <;> assumption
            clear r1 r2 r3
            have kc0 : (x.kind == 0) = true := by rw [hk]; rfl
            have kc1 : (x.kind == 1) = false := by rw [hk]; rfl
            have kc5 : (x.kind == 5) = false := by rw [hk]; rfl
            have kc3 : (x.kind == 3) = false := by rw [hk]; rfl
            have kc4 : (x.kind == 4) = false := by rw [hk]; rfl
            clear hk
            go_upto_region 12 with fail
            have e2 : w3.cell? ⟨bx, 2, none⟩ = some (.int .i64 (m : Int)) := d2
            have e4 : w3.cell? ⟨bx, 4, none⟩ = some (.slice a0 x.rate.length n0) := rowNG HX3.out 4 _ rfl
            have e5 : w3.cell? ⟨bx, 5, none⟩ = some (.slice a1 x.band.lo.length n1) := rowNG HX3.out 5 _ rfl
            have e6 : w3.cell? ⟨bx, 6, none⟩ = some (.slice a2 x.band.hi.length n2) := rowNG HX3.out 6 _ rfl
            have mc : w3.cell? ⟨bs, m, none⟩ = some (.int .i64 z) := (cell_of_row _ _ _ _ _ _ HM3.out).trans (i64v_get Hz.out)
            have mf : w3.frozen? ⟨bs, m, none⟩ = false := frozen_of_row _ _ _ _ _ HM3.out
            refine wp_region_noPanic ?_
            refine wp_region_held_drew (S := (fun c => c.cell? ⟨bx, 2, none⟩ = some (.int .i64 (m : Int)) ∧ c.cell? ⟨bx, 4, none⟩ = some (.slice a0 x.rate.length n0) ∧ c.cell? ⟨bx, 5, none⟩ = some (.slice a1 x.band.lo.length n1) ∧ c.cell? ⟨bx, 6, none⟩ = some (.slice a2 x.band.hi.length n2))) (by kernel_rfl) ⟨e2, e4, e5, e6⟩ (fun hHeld => ?_)
            refine' wpAnyH_take (i := 0) (v := _) (by simp only [List.getElem?_toArray, List.getElem?_cons_zero]; exact rfl) (by kernel_rfl) (by kernel_rfl) (by kernel_rfl) (fun _ _ _ h => h) (Or.inl ⟨by rfl, ?y0x1⟩) hHeld ?r0x1
            case y0x1 => (intro w hSw; (try dsimp only at hSw); go_simp; try with_reducible rfl)
            try simp only [Act.put, List.setIfInBounds_toArray, List.set_cons_zero, List.set_cons_succ]
            refine' wpAnyH_take (i := 1) (v := _) (by simp only [List.getElem?_toArray, List.getElem?_cons_succ, List.getElem?_cons_zero]; exact rfl) (by kernel_rfl) (by kernel_rfl) (by kernel_rfl) (fun _ _ _ h => h) (Or.inl ⟨by rfl, ?y1x2⟩) hHeld ?r1x2
            case y1x2 => (intro w hSw; (try dsimp only at hSw); go_simp; try with_reducible rfl)
            try simp only [Act.put, List.setIfInBounds_toArray, List.set_cons_zero, List.set_cons_succ]
            refine' wpAnyH_take (i := 2) (v := _) (by simp only [List.getElem?_toArray, List.getElem?_cons_succ, List.getElem?_cons_zero]; exact rfl) (by kernel_rfl) (by kernel_rfl) (by kernel_rfl) (fun _ _ _ h => h) (Or.inl ⟨by rfl, ?y2x3⟩) hHeld ?r2x3
            case y2x3 => (intro w hSw; (try dsimp only at hSw); go_simp; try with_reducible rfl)
            try simp only [Act.put, List.setIfInBounds_toArray, List.set_cons_zero, List.set_cons_succ]
            refine' wpAnyH_take (i := 3) (v := _) (by simp only [List.getElem?_toArray, List.getElem?_cons_succ, List.getElem?_cons_zero]; exact rfl) (by kernel_rfl) (by kernel_rfl) (by kernel_rfl) (fun _ _ _ h => h) (Or.inl ⟨by rfl, ?y3x4⟩) hHeld ?r3x4
            case y3x4 => (intro w hSw; (try dsimp only at hSw); go_simp; try with_reducible rfl)
            try simp only [Act.put, List.setIfInBounds_toArray, List.set_cons_zero, List.set_cons_succ]
            refine' wpAnyH_take (i := 5) (v := _) (by simp only [List.getElem?_toArray, List.getElem?_cons_succ, List.getElem?_cons_zero]; exact rfl) (by kernel_rfl) (by kernel_rfl) (by kernel_rfl) (fun _ _ _ h => h) (Or.inl ⟨by rfl, ?y5x5⟩) hHeld ?r5x5
            case y5x5 => (intro w hSw; (try dsimp only at hSw); go_simp; try with_reducible rfl)
            try simp only [Act.put, List.setIfInBounds_toArray, List.set_cons_zero, List.set_cons_succ]
            refine' wpAnyH_take (i := 6) (v := _) (by simp only [List.getElem?_toArray, List.getElem?_cons_succ, List.getElem?_cons_zero]; exact rfl) (by kernel_rfl) (by kernel_rfl) (by kernel_rfl) (fun _ _ _ h => h) (Or.inl ⟨by rfl, ?y6x6⟩) hHeld ?r6x6
            case y6x6 => (intro w hSw; (try dsimp only at hSw); go_simp; try with_reducible rfl)
            try simp only [Act.put, List.setIfInBounds_toArray, List.set_cons_zero, List.set_cons_succ]
            refine' wpAnyH_take (i := 7) (v := _) (by simp only [List.getElem?_toArray, List.getElem?_cons_succ, List.getElem?_cons_zero]; exact rfl) (by kernel_rfl) (by kernel_rfl) (by kernel_rfl) (fun _ _ _ h => h) (Or.inl ⟨by rfl, ?y7x7⟩) hHeld ?r7x7
            case y7x7 => (intro w hSw; (try dsimp only at hSw); go_simp; try with_reducible rfl)
            try simp only [Act.put, List.setIfInBounds_toArray, List.set_cons_zero, List.set_cons_succ]
            refine' wpAnyH_take (i := 8) (v := _) (by simp only [List.getElem?_toArray, List.getElem?_cons_succ, List.getElem?_cons_zero]; exact rfl) (by kernel_rfl) (by kernel_rfl) (by kernel_rfl) (fun _ _ _ h => h) (Or.inl ⟨by rfl, ?y8x8⟩) hHeld ?r8x8
            case y8x8 => (intro w hSw; (try dsimp only at hSw); go_simp; try with_reducible rfl)
            try simp only [Act.put, List.setIfInBounds_toArray, List.set_cons_zero, List.set_cons_succ]
            refine' wpAnyH_take (i := 9) (v := _) (by simp only [List.getElem?_toArray, List.getElem?_cons_succ, List.getElem?_cons_zero]; exact rfl) (by kernel_rfl) (by kernel_rfl) (by kernel_rfl) (fun _ _ _ h => h) (Or.inl ⟨by rfl, ?y9x9⟩) hHeld ?r9x9
            case y9x9 => (intro w hSw; (try dsimp only at hSw); go_simp; try with_reducible rfl)
            try simp only [Act.put, List.setIfInBounds_toArray, List.set_cons_zero, List.set_cons_succ]
            refine' wpAnyH_take (i := 10) (v := _) (by simp only [List.getElem?_toArray, List.getElem?_cons_succ, List.getElem?_cons_zero]; exact rfl) (by kernel_rfl) (by kernel_rfl) (by kernel_rfl) (fun _ _ _ h => h) (Or.inl ⟨by rfl, ?y10x10⟩) hHeld ?r10x10
            case y10x10 => (intro w hSw; (try dsimp only at hSw); go_simp; try with_reducible rfl)
            try simp only [Act.put, List.setIfInBounds_toArray, List.set_cons_zero, List.set_cons_succ]
            refine' wpAnyH_take (i := 11) (v := _) (by simp only [List.getElem?_toArray, List.getElem?_cons_succ, List.getElem?_cons_zero]; exact rfl) (by kernel_rfl) (by kernel_rfl) (by kernel_rfl) (fun _ _ _ h => h) (Or.inl ⟨by rfl, ?y11x11⟩) hHeld ?r11x11
            case y11x11 => (intro w hSw; (try dsimp only at hSw); go_simp; try with_reducible rfl)
            try simp only [Act.put, List.setIfInBounds_toArray, List.set_cons_zero, List.set_cons_succ]
            refine' wpAnyH_take (i := 12) (v := _) (by simp only [List.getElem?_toArray, List.getElem?_cons_succ, List.getElem?_cons_zero]; exact rfl) (by kernel_rfl) (by kernel_rfl) (by kernel_rfl) (fun _ _ _ h => h) (Or.inl ⟨by rfl, ?y12x12⟩) hHeld ?r12x12
            case y12x12 => (intro w hSw; (try dsimp only at hSw); go_simp; try with_reducible rfl)
            try simp only [Act.put, List.setIfInBounds_toArray, List.set_cons_zero, List.set_cons_succ]
            refine wpAnyH_ready (rs := [4, 13]) (by kernel_rfl) (by simp) ?_
            refine (AllReadyH.cons (by simp only [List.getElem?_toArray, List.getElem?_cons_succ, List.getElem?_cons_zero]; exact rfl) (fun K hK => ?_) (AllReadyH.cons (by simp only [List.getElem?_toArray, List.getElem?_cons_succ, List.getElem?_cons_zero]; exact rfl) (fun K hK => ?_) AllReadyH.nil))
            · go_simp
              refine hK.out _ _ hHeld (fun hHeld => ?_)
              clear hK K
              try simp only [Act.put, List.setIfInBounds_toArray, List.set_cons_zero, List.set_cons_succ]
              refine wpAnyH_ready (rs := [13]) (by kernel_rfl) (by simp) ?_
              refine (AllReadyH.cons (by simp only [List.getElem?_toArray, List.getElem?_cons_succ, List.getElem?_cons_zero]; exact rfl) (fun K hK => ?_) AllReadyH.nil)
              go_simp
              obtain ⟨wa, hwa⟩ : ∃ c, c = (w3.alloc (.cells #[.slice a0 x.rate.length n0, .slice a1 x.band.lo.length n1, .slice a2 x.band.hi.length n2] 65)).drew := ⟨_, rfl⟩
              rw [← hwa]
              have hba : Below w3.heap.size w3 wa := by rw [hwa]; exact ((Below.refl _ _).alloc (Nat.le_refl _) _).drew
              have HRa := Lib.hid (blk_below HR3.out hba (blk_lt HR3.out))
              have HXa := Lib.hid (blk_below HX3.out hba (blk_lt HX3.out))
              have HMa := Lib.hid (blk_below HM3.out hba (blk_lt HM3.out))
              have HBa := Lib.hid (HB3.out.trans (hba.mono HB3.out.size))
              have HL3 := Lib.hid (larg_three (row_eq (o := (.cells #[.slice a0 x.rate.length n0, .slice a1 x.band.lo.length n1, .slice a2 x.band.hi.length n2] 65)) hwa (heap_alloc_new w3 (.cells #[.slice a0 x.rate.length n0, .slice a1 x.band.lo.length n1, .slice a2 x.band.hi.length n2] 65))) (HV0.out.below stays_Point hba) (HV1.out.below stays_Point hba) (HV2.out.below stays_Point hba))
              refine hK.out _ _ ⟨(hba.cell (p := ⟨bx, 2, none⟩) (World.block_lt_of_cell? _ _ e2)).trans e2, (hba.cell (p := ⟨bx, 4, none⟩) (World.block_lt_of_cell? _ _ e4)).trans e4, (hba.cell (p := ⟨bx, 5, none⟩) (World.block_lt_of_cell? _ _ e5)).trans e5, (hba.cell (p := ⟨bx, 6, none⟩) (World.block_lt_of_cell? _ _ e6)).trans e6⟩ (fun hHeld => ?_)
              have mca : wa.cell? ⟨bs, m, none⟩ = some (.int .i64 z) := (cell_of_row _ _ _ _ _ _ HMa.out).trans (i64v_get Hz.out)
              clear hK K hwa hba
              try simp only [Act.put, List.setIfInBounds_toArray, List.set_cons_zero, List.set_cons_succ]
              refine wpAnyH_ready (rs := [14]) (by kernel_rfl) (by simp) ?_
              refine (AllReadyH.cons (by simp only [List.getElem?_toArray, List.getElem?_cons_succ, List.getElem?_cons_zero]; exact rfl) (fun K hK => ?_) AllReadyH.nil)
              go_simp
              refine (steep_any [x.rate, x.band.lo, x.band.hi] _ _ HL3.out HRC3.out (by show 3 ≤ 10; decide)).mono ?_
              rintro e w4 ⟨sl, ⟨hsa, hsb, hup⟩, rfl, hb⟩
              have HR4 := Lib.hid (blk_below HRa.out hb (blk_lt HRa.out))
              have HX4 := Lib.hid (blk_below HXa.out hb (blk_lt HXa.out))
              have HM4 := Lib.hid (blk_below HMa.out hb (blk_lt HMa.out))
              have HB4 := Lib.hid (HBa.out.trans (hb.mono HBa.out.size))
              refine hK.out _ _ ⟨(hb.cell (p := ⟨bx, 2, none⟩) (World.block_lt_of_cell? _ _ (hHeld.1))).trans (hHeld.1), (hb.cell (p := ⟨bx, 4, none⟩) (World.block_lt_of_cell? _ _ (hHeld.2.1))).trans (hHeld.2.1), (hb.cell (p := ⟨bx, 5, none⟩) (World.block_lt_of_cell? _ _ (hHeld.2.2.1))).trans (hHeld.2.2.1), (hb.cell (p := ⟨bx, 6, none⟩) (World.block_lt_of_cell? _ _ (hHeld.2.2.2))).trans (hHeld.2.2.2)⟩ (fun hHeld => ?_)
              have mc4 : w4.cell? ⟨bs, m, none⟩ = some (.int .i64 z) := (cell_of_row _ _ _ _ _ _ HM4.out).trans (i64v_get Hz.out)
              have mf4 : w4.frozen? ⟨bs, m, none⟩ = false := frozen_of_row _ _ _ _ _ HM4.out
              have HUP := Lib.hid (hup x.rate (List.mem_cons_self ..))
              have F1 : IntKind.i64.wrap (z + sl) = z + sl := IntWalk.i64_in _ (by omega)
              obtain ⟨us2, hus2, ul2, ub2, ug2, uz2⟩ := upd Hz.out HVL.out HVB.out hsa hsb
              have Hus2 := Lib.hid hus2
              have HUL := Lib.hid ul2
              have HUB := Lib.hid ub2
              have HUG := Lib.hid ug2
              have HUZ := Lib.hid uz2
              clear hus2 ul2 ub2 ug2 uz2 hup hb hK K
              try simp only [Act.put, List.setIfInBounds_toArray, List.set_cons_zero, List.set_cons_succ]
              refine' wpAnyH_take (i := 15) (v := _) (by simp only [List.getElem?_toArray, List.getElem?_cons_succ, List.getElem?_cons_zero]; exact rfl) (by kernel_rfl) (by kernel_rfl) (by kernel_rfl) (fun _ _ _ h => h) (Or.inl ⟨by rfl, ?y15x13u1⟩) hHeld ?r15x13u1
              case y15x13u1 => (intro w hSw; (try dsimp only at hSw); go_simp; try with_reducible rfl)
              try simp only [Act.put, List.setIfInBounds_toArray, List.set_cons_zero, List.set_cons_succ]
              refine' wpAnyH_take (i := 16) (v := _) (by simp only [List.getElem?_toArray, List.getElem?_cons_succ, List.getElem?_cons_zero]; exact rfl) (by kernel_rfl) (by kernel_rfl) (by kernel_rfl) (fun _ _ _ h => h) (Or.inl ⟨by rfl, ?y16x14u1⟩) hHeld ?r16x14u1
              case y16x14u1 => (intro w hSw; (try dsimp only at hSw); go_simp; try with_reducible rfl)
              try simp only [Act.put, List.setIfInBounds_toArray, List.set_cons_zero, List.set_cons_succ]
              refine wpAnyH_ready (rs := [17]) (by kernel_rfl) (by simp) ?_
              refine (AllReadyH.cons (by simp only [List.getElem?_toArray, List.getElem?_cons_succ, List.getElem?_cons_zero]; exact rfl) (fun K hK => ?_) AllReadyH.nil)
              go_simp
              refine hK.out _ _ ⟨cell_other (hHeld.1) HNE.out.symm, cell_other (hHeld.2.1) HNE.out.symm, cell_other (hHeld.2.2.1) HNE.out.symm, cell_other (hHeld.2.2.2) HNE.out.symm⟩ (fun hHeld => ?_)
              clear hK K
              try simp only [Act.put, List.setIfInBounds_toArray, List.set_cons_zero, List.set_cons_succ]
              refine wpAnyH_done (by kernel_rfl) ?_ _
              refine NoPanic.normal ?_
              have HM5 : Hid ((w4.setCell ⟨bs, m, none⟩ (.int .i64 (z + sl))).heap[bs]? = some (.cells (i64v us2) 3 (0, 0))) := Lib.hid ((heap_setCell_same _ _ _ _ _ _ HM4.out).trans (by rw [i64v_set, Hus2.out]))
              have HR5 := Lib.hid ((heap_setCell_other w4 ⟨bs, m, none⟩ w.heap.size (.int .i64 (z + sl)) HNB.out).trans HR4.out)
              have HX5 := Lib.hid ((heap_setCell_other w4 ⟨bs, m, none⟩ bx (.int .i64 (z + sl)) HNE.out.symm).trans HX4.out)
              have HB5 : Hid (Below w.heap.size w (w4.setCell ⟨bs, m, none⟩ (.int .i64 (z + sl)))) := Lib.hid (HB4.out.setCell HLE.out _)
              clear HM4 HR4 HX4 HB4 mc4 mf4 hHeld mc mf mca F1 e2 e4 e5 e6
              generalize w4.setCell ⟨bs, m, none⟩ (.int .i64 (z + sl)) = w5 at *
              have d3 := rowNG HX5.out 3 (.int .i64 x.dst) rfl
              by_cases hd1 : x.dst = -1
              · have tq : (x.dst != -1) = false := by rw [hd1]; rfl
                have HSX : Hid (SlopeLow x us2) := Lib.hid ⟨fun _ => ⟨fun u hu => by
                  rw [HM.out, Int.toNat_natCast] at hu
                  rw [HUZ.out] at hu
                  cases hu
                  exact HUP.out.le (by omega), fun h => absurd hd1 h⟩, fun h => by have := HKZ.out; omega⟩
                clear hd1
                go_wp2_with fail
                go_roundw
                case rel => exact ⟨k + 1, us2, by omega, by go_num, HUL.out, HUB.out.mono (by omega), lows_succ HX.out HLOW.out HUG.out HSX.out, HM5.out, HR5.out, HB5.out⟩
                case measure => simp [Go.RowKit.intOf]; omega
              · have tq : (x.dst != -1) = true := by rw [bne_iff_ne]; exact hd1
                obtain ⟨m2, hm2⟩ : ∃ m2 : Nat, x.dst = m2 := ⟨x.dst.toNat, by have := HD.out; omega⟩
                have hmv2 : m2 < b.places.length := by have := HD.out; omega
                obtain ⟨y, hy⟩ : ∃ y, us2[m2]? = some y := ⟨_, List.getElem?_eq_getElem (by rw [HUL.out]; exact hmv2)⟩
                have hyb := HUB.out y (List.mem_of_getElem? hy)
                have Hy := Lib.hid hy
                have HM2 := Lib.hid hm2
                clear hy hm2 hd1
                have HSB := Lib.hid (slope_ok (n := x.backNum) (d := x.backDen) g1 g3).2.1
                have HSA := Lib.hid (slope_ok (n := x.backNum) (d := x.backDen) g1 g3).1
                have HSM : Hid (∀ W, Calls Tryz.prog 68 #[.int .i64 x.backNum, .int .i64 x.backDen] W fun e w' => e = .returned (.int .i64 (slopeN x.backNum x.backDen)) ∧ ∃ m, w' = W.drewN m) := Lib.hid fun W => slope_any _ _ W ⟨g1, g2⟩ ⟨g3, g4⟩
                obtain ⟨sm, hsm⟩ : ∃ s, s = slopeN x.backNum x.backDen := ⟨_, rfl⟩
                rw [← hsm] at HSB HSA HSM
                have HSQ := Lib.hid hsm
                clear hsm
                have hta := HSA.out
                have htb := HSB.out
                have F1 : IntKind.i64.wrap (y + sm) = y + sm := IntWalk.i64_in _ (by omega)
                obtain ⟨us22, hus22, ul2, ub2, ug2, uz2⟩ := upd Hy.out HUL.out HUB.out hta htb
                have Hus22 := Lib.hid hus22
                have HUL2 := Lib.hid ul2
                have HUB2 := Lib.hid ub2
                have HUG2 := Lib.hid (HUG.out.trans ug2)
                have HSX : Hid (SlopeLow x us22) := Lib.hid ⟨fun _ => ⟨fun u hu => by
                  rw [HM.out, Int.toNat_natCast] at hu
                  obtain ⟨v, hv, hle⟩ := ug2.2 _ u hu
                  rw [HUZ.out] at hv
                  cases hv
                  exact HUP.out.le (by omega), fun _ u hu => by
                  rw [HM2.out, Int.toNat_natCast] at hu
                  rw [uz2] at hu
                  cases hu
                  rw [← HSQ.out]
                  omega⟩, fun h => by have := HKZ.out; omega⟩
                clear hus22 ul2 ub2 ug2 uz2
                clear d3
                have d3 : w5.cell? ⟨bx, 3, none⟩ = some (.int .i64 x.dst) := rowNG HX5.out 3 (.int .i64 x.dst) rfl
                go_upto_region 14 with fail
                have e3 : w5.cell? ⟨bx, 3, none⟩ = some (.int .i64 (m2 : Int)) := HM2.out ▸ rowNG HX5.out 3 (.int .i64 x.dst) rfl
                have e15 : w5.cell? ⟨bx, 15, none⟩ = some (.int .i64 x.backNum) := rowNG HX5.out 15 _ rfl
                have e16 : w5.cell? ⟨bx, 16, none⟩ = some (.int .i64 x.backDen) := rowNG HX5.out 16 _ rfl
                have mc : w5.cell? ⟨bs, m2, none⟩ = some (.int .i64 y) := (cell_of_row _ _ _ _ _ _ HM5.out).trans (i64v_get Hy.out)
                have mf : w5.frozen? ⟨bs, m2, none⟩ = false := frozen_of_row _ _ _ _ _ HM5.out
                refine wp_region_noPanic ?_
                refine wp_region_held_drew (S := (fun c => c.cell? ⟨bx, 3, none⟩ = some (.int .i64 (m2 : Int)) ∧ c.cell? ⟨bx, 15, none⟩ = some (.int .i64 x.backNum) ∧ c.cell? ⟨bx, 16, none⟩ = some (.int .i64 x.backDen))) (by kernel_rfl) ⟨e3, e15, e16⟩ (fun hHeld => ?_)
                refine' wpAnyH_take (i := 0) (v := _) (by simp only [List.getElem?_toArray, List.getElem?_cons_zero]; exact rfl) (by kernel_rfl) (by kernel_rfl) (by kernel_rfl) (fun _ _ _ h => h) (Or.inl ⟨by rfl, ?y0x15u1⟩) hHeld ?r0x15u1
                case y0x15u1 => (intro w hSw; (try dsimp only at hSw); go_simp; try with_reducible rfl)
                try simp only [Act.put, List.setIfInBounds_toArray, List.set_cons_zero, List.set_cons_succ]
                refine' wpAnyH_take (i := 1) (v := _) (by simp only [List.getElem?_toArray, List.getElem?_cons_succ, List.getElem?_cons_zero]; exact rfl) (by kernel_rfl) (by kernel_rfl) (by kernel_rfl) (fun _ _ _ h => h) (Or.inl ⟨by rfl, ?y1x16u1⟩) hHeld ?r1x16u1
                case y1x16u1 => (intro w hSw; (try dsimp only at hSw); go_simp; try with_reducible rfl)
                try simp only [Act.put, List.setIfInBounds_toArray, List.set_cons_zero, List.set_cons_succ]
                refine' wpAnyH_take (i := 2) (v := _) (by simp only [List.getElem?_toArray, List.getElem?_cons_succ, List.getElem?_cons_zero]; exact rfl) (by kernel_rfl) (by kernel_rfl) (by kernel_rfl) (fun _ _ _ h => h) (Or.inl ⟨by rfl, ?y2x17u1⟩) hHeld ?r2x17u1
                case y2x17u1 => (intro w hSw; (try dsimp only at hSw); go_simp; try with_reducible rfl)
                try simp only [Act.put, List.setIfInBounds_toArray, List.set_cons_zero, List.set_cons_succ]
                refine' wpAnyH_take (i := 3) (v := _) (by simp only [List.getElem?_toArray, List.getElem?_cons_succ, List.getElem?_cons_zero]; exact rfl) (by kernel_rfl) (by kernel_rfl) (by kernel_rfl) (fun _ _ _ h => h) (Or.inl ⟨by rfl, ?y3x18u1⟩) hHeld ?r3x18u1
                case y3x18u1 => (intro w hSw; (try dsimp only at hSw); go_simp; try with_reducible rfl)
                try simp only [Act.put, List.setIfInBounds_toArray, List.set_cons_zero, List.set_cons_succ]
                refine' wpAnyH_take (i := 5) (v := _) (by simp only [List.getElem?_toArray, List.getElem?_cons_succ, List.getElem?_cons_zero]; exact rfl) (by kernel_rfl) (by kernel_rfl) (by kernel_rfl) (fun _ _ _ h => h) (Or.inl ⟨by rfl, ?y5x19u1⟩) hHeld ?r5x19u1
                case y5x19u1 => (intro w hSw; (try dsimp only at hSw); go_simp; try with_reducible rfl)
                try simp only [Act.put, List.setIfInBounds_toArray, List.set_cons_zero, List.set_cons_succ]
                refine' wpAnyH_take (i := 6) (v := _) (by simp only [List.getElem?_toArray, List.getElem?_cons_succ, List.getElem?_cons_zero]; exact rfl) (by kernel_rfl) (by kernel_rfl) (by kernel_rfl) (fun _ _ _ h => h) (Or.inl ⟨by rfl, ?y6x20u1⟩) hHeld ?r6x20u1
                case y6x20u1 => (intro w hSw; (try dsimp only at hSw); go_simp; try with_reducible rfl)
                try simp only [Act.put, List.setIfInBounds_toArray, List.set_cons_zero, List.set_cons_succ]
                refine' wpAnyH_take (i := 7) (v := _) (by simp only [List.getElem?_toArray, List.getElem?_cons_succ, List.getElem?_cons_zero]; exact rfl) (by kernel_rfl) (by kernel_rfl) (by kernel_rfl) (fun _ _ _ h => h) (Or.inl ⟨by rfl, ?y7x21u1⟩) hHeld ?r7x21u1
                case y7x21u1 => (intro w hSw; (try dsimp only at hSw); go_simp; try with_reducible rfl)
                try simp only [Act.put, List.setIfInBounds_toArray, List.set_cons_zero, List.set_cons_succ]
                refine' wpAnyH_take (i := 8) (v := _) (by simp only [List.getElem?_toArray, List.getElem?_cons_succ, List.getElem?_cons_zero]; exact rfl) (by kernel_rfl) (by kernel_rfl) (by kernel_rfl) (fun _ _ _ h => h) (Or.inl ⟨by rfl, ?y8x22u1⟩) hHeld ?r8x22u1
                case y8x22u1 => (intro w hSw; (try dsimp only at hSw); go_simp; try with_reducible rfl)
                try simp only [Act.put, List.setIfInBounds_toArray, List.set_cons_zero, List.set_cons_succ]
                refine wpAnyH_ready (rs := [4, 9]) (by kernel_rfl) (by simp) ?_
                refine (AllReadyH.cons (by simp only [List.getElem?_toArray, List.getElem?_cons_succ, List.getElem?_cons_zero]; exact rfl) (fun K hK => ?_) (AllReadyH.cons (by simp only [List.getElem?_toArray, List.getElem?_cons_succ, List.getElem?_cons_zero]; exact rfl) (fun K hK => ?_) AllReadyH.nil))
                · go_simp
                  refine hK.out _ _ hHeld (fun hHeld => ?_)
                  clear hK K
                  try simp only [Act.put, List.setIfInBounds_toArray, List.set_cons_zero, List.set_cons_succ]
                  refine wpAnyH_ready (rs := [9]) (by kernel_rfl) (by simp) ?_
                  refine (AllReadyH.cons (by simp only [List.getElem?_toArray, List.getElem?_cons_succ, List.getElem?_cons_zero]; exact rfl) (fun K hK => ?_) AllReadyH.nil)
                  go_simp
                  refine (HSM.out _).mono ?_
                  rintro e w6 ⟨rfl, mm, hw⟩
                  have HR6 := Lib.hid (row_eq hw HR5.out)
                  have HX6 := Lib.hid (row_eq hw HX5.out)
                  have HM6 := Lib.hid (row_eq hw HM5.out)
                  have HB6 : Hid (Below w.heap.size w w6) := Lib.hid (by rw [hw]; exact ⟨HB5.out.os, HB5.out.tape, HB5.out.output, HB5.out.size, HB5.out.block⟩)
                  refine hK.out _ _ (by rw [hw]; exact hHeld) (fun hHeld => ?_)
                  clear hK K hw
                  try simp only [Act.put, List.setIfInBounds_toArray, List.set_cons_zero, List.set_cons_succ]
                  have mc6 : w6.cell? ⟨bs, m2, none⟩ = some (.int .i64 y) := (cell_of_row _ _ _ _ _ _ HM6.out).trans (i64v_get Hy.out)
                  have mf6 : w6.frozen? ⟨bs, m2, none⟩ = false := frozen_of_row _ _ _ _ _ HM6.out
                  refine' wpAnyH_take (i := 10) (v := _) (by simp only [List.getElem?_toArray, List.getElem?_cons_succ, List.getElem?_cons_zero]; exact rfl) (by kernel_rfl) (by kernel_rfl) (by kernel_rfl) (fun _ _ _ h => h) (Or.inl ⟨by rfl, ?y10x23u1⟩) hHeld ?r10x23u1
                  case y10x23u1 => (intro w hSw; (try dsimp only at hSw); go_simp; try with_reducible rfl)
                  try simp only [Act.put, List.setIfInBounds_toArray, List.set_cons_zero, List.set_cons_succ]
                  refine' wpAnyH_take (i := 11) (v := _) (by simp only [List.getElem?_toArray, List.getElem?_cons_succ, List.getElem?_cons_zero]; exact rfl) (by kernel_rfl) (by kernel_rfl) (by kernel_rfl) (fun _ _ _ h => h) (Or.inl ⟨by rfl, ?y11x24u1⟩) hHeld ?r11x24u1
                  case y11x24u1 => (intro w hSw; (try dsimp only at hSw); go_simp; try with_reducible rfl)
                  try simp only [Act.put, List.setIfInBounds_toArray, List.set_cons_zero, List.set_cons_succ]
                  refine wpAnyH_ready (rs := [12]) (by kernel_rfl) (by simp) ?_
                  refine (AllReadyH.cons (by simp only [List.getElem?_toArray, List.getElem?_cons_succ, List.getElem?_cons_zero]; exact rfl) (fun K hK => ?_) AllReadyH.nil)
                  go_simp
                  refine hK.out _ _ ⟨cell_other (hHeld.1) HNE.out.symm, cell_other (hHeld.2.1) HNE.out.symm, cell_other (hHeld.2.2) HNE.out.symm⟩ (fun hHeld => ?_)
                  clear hK K
                  try simp only [Act.put, List.setIfInBounds_toArray, List.set_cons_zero, List.set_cons_succ]
                  refine wpAnyH_done (by kernel_rfl) ?_ _
                  refine NoPanic.normal ?_
                  have HM7 : Hid ((w6.setCell ⟨bs, m2, none⟩ (.int .i64 (y + sm))).heap[bs]? = some (.cells (i64v us22) 3 (0, 0))) := Lib.hid ((heap_setCell_same _ _ _ _ _ _ HM6.out).trans (by rw [i64v_set, Hus22.out]))
                  have HR7 := Lib.hid ((heap_setCell_other w6 ⟨bs, m2, none⟩ w.heap.size (.int .i64 (y + sm)) HNB.out).trans HR6.out)
                  have HX7 := Lib.hid ((heap_setCell_other w6 ⟨bs, m2, none⟩ bx (.int .i64 (y + sm)) HNE.out.symm).trans HX6.out)
                  have HB7 : Hid (Below w.heap.size w (w6.setCell ⟨bs, m2, none⟩ (.int .i64 (y + sm)))) := Lib.hid (HB6.out.setCell HLE.out _)
                  clear HM6 HR6 HX6 HB6 mc6 mf6 hHeld
                  generalize w6.setCell ⟨bs, m2, none⟩ (.int .i64 (y + sm)) = w7 at *
                  go_wp2_with fail
                  go_roundw
                  case rel => exact ⟨k + 1, us22, by omega, by go_num, HUL2.out, HUB2.out.mono (by omega), lows_succ HX.out HLOW.out HUG2.out HSX.out, HM7.out, HR7.out, HB7.out⟩
                  case measure => simp [Go.RowKit.intOf]; omega
                · go_simp
                  refine (HSM.out _).mono ?_
                  rintro e w6 ⟨rfl, mm, hw⟩
                  have HR6 := Lib.hid (row_eq hw HR5.out)
                  have HX6 := Lib.hid (row_eq hw HX5.out)
                  have HM6 := Lib.hid (row_eq hw HM5.out)
                  have HB6 : Hid (Below w.heap.size w w6) := Lib.hid (by rw [hw]; exact ⟨HB5.out.os, HB5.out.tape, HB5.out.output, HB5.out.size, HB5.out.block⟩)
                  refine hK.out _ _ (by rw [hw]; exact hHeld) (fun hHeld => ?_)
                  clear hK K hw
                  try simp only [Act.put, List.setIfInBounds_toArray, List.set_cons_zero, List.set_cons_succ]
                  have mc6 : w6.cell? ⟨bs, m2, none⟩ = some (.int .i64 y) := (cell_of_row _ _ _ _ _ _ HM6.out).trans (i64v_get Hy.out)
                  have mf6 : w6.frozen? ⟨bs, m2, none⟩ = false := frozen_of_row _ _ _ _ _ HM6.out
                  refine wpAnyH_ready (rs := [4]) (by kernel_rfl) (by simp) ?_
                  refine (AllReadyH.cons (by simp only [List.getElem?_toArray, List.getElem?_cons_succ, List.getElem?_cons_zero]; exact rfl) (fun K hK => ?_) AllReadyH.nil)
                  go_simp
                  refine hK.out _ _ hHeld (fun hHeld => ?_)
                  clear hK K
                  try simp only [Act.put, List.setIfInBounds_toArray, List.set_cons_zero, List.set_cons_succ]
                  refine' wpAnyH_take (i := 10) (v := _) (by simp only [List.getElem?_toArray, List.getElem?_cons_succ, List.getElem?_cons_zero]; exact rfl) (by kernel_rfl) (by kernel_rfl) (by kernel_rfl) (fun _ _ _ h => h) (Or.inl ⟨by rfl, ?y10x25u1⟩) hHeld ?r10x25u1
                  case y10x25u1 => (intro w hSw; (try dsimp only at hSw); go_simp; try with_reducible rfl)
                  try simp only [Act.put, List.setIfInBounds_toArray, List.set_cons_zero, List.set_cons_succ]
                  refine' wpAnyH_take (i := 11) (v := _) (by simp only [List.getElem?_toArray, List.getElem?_cons_succ, List.getElem?_cons_zero]; exact rfl) (by kernel_rfl) (by kernel_rfl) (by kernel_rfl) (fun _ _ _ h => h) (Or.inl ⟨by rfl, ?y11x26u1⟩) hHeld ?r11x26u1
                  case y11x26u1 => (intro w hSw; (try dsimp only at hSw); go_simp; try with_reducible rfl)
                  try simp only [Act.put, List.setIfInBounds_toArray, List.set_cons_zero, List.set_cons_succ]
                  refine wpAnyH_ready (rs := [12]) (by kernel_rfl) (by simp) ?_
                  refine (AllReadyH.cons (by simp only [List.getElem?_toArray, List.getElem?_cons_succ, List.getElem?_cons_zero]; exact rfl) (fun K hK => ?_) AllReadyH.nil)
                  go_simp
                  refine hK.out _ _ ⟨cell_other (hHeld.1) HNE.out.symm, cell_other (hHeld.2.1) HNE.out.symm, cell_other (hHeld.2.2) HNE.out.symm⟩ (fun hHeld => ?_)
                  clear hK K
                  try simp only [Act.put, List.setIfInBounds_toArray, List.set_cons_zero, List.set_cons_succ]
                  refine wpAnyH_done (by kernel_rfl) ?_ _
                  refine NoPanic.normal ?_
                  have HM7 : Hid ((w6.setCell ⟨bs, m2, none⟩ (.int .i64 (y + sm))).heap[bs]? = some (.cells (i64v us22) 3 (0, 0))) := Lib.hid ((heap_setCell_same _ _ _ _ _ _ HM6.out).trans (by rw [i64v_set, Hus22.out]))
                  have HR7 := Lib.hid ((heap_setCell_other w6 ⟨bs, m2, none⟩ w.heap.size (.int .i64 (y + sm)) HNB.out).trans HR6.out)
                  have HX7 := Lib.hid ((heap_setCell_other w6 ⟨bs, m2, none⟩ bx (.int .i64 (y + sm)) HNE.out.symm).trans HX6.out)
                  have HB7 : Hid (Below w.heap.size w (w6.setCell ⟨bs, m2, none⟩ (.int .i64 (y + sm)))) := Lib.hid (HB6.out.setCell HLE.out _)
                  clear HM6 HR6 HX6 HB6 mc6 mf6 hHeld
                  generalize w6.setCell ⟨bs, m2, none⟩ (.int .i64 (y + sm)) = w7 at *
                  go_wp2_with fail
                  go_roundw
                  case rel => exact ⟨k + 1, us22, by omega, by go_num, HUL2.out, HUB2.out.mono (by omega), lows_succ HX.out HLOW.out HUG2.out HSX.out, HM7.out, HR7.out, HB7.out⟩
                  case measure => simp [Go.RowKit.intOf]; omega
            · go_simp
              obtain ⟨wa, hwa⟩ : ∃ c, c = (w3.alloc (.cells #[.slice a0 x.rate.length n0, .slice a1 x.band.lo.length n1, .slice a2 x.band.hi.length n2] 65)).drew := ⟨_, rfl⟩
              rw [← hwa]
              have hba : Below w3.heap.size w3 wa := by rw [hwa]; exact ((Below.refl _ _).alloc (Nat.le_refl _) _).drew
              have HRa := Lib.hid (blk_below HR3.out hba (blk_lt HR3.out))
              have HXa := Lib.hid (blk_below HX3.out hba (blk_lt HX3.out))
              have HMa := Lib.hid (blk_below HM3.out hba (blk_lt HM3.out))
              have HBa := Lib.hid (HB3.out.trans (hba.mono HB3.out.size))
              have HL3 := Lib.hid (larg_three (row_eq (o := (.cells #[.slice a0 x.rate.length n0, .slice a1 x.band.lo.length n1, .slice a2 x.band.hi.length n2] 65)) hwa (heap_alloc_new w3 (.cells #[.slice a0 x.rate.length n0, .slice a1 x.band.lo.length n1, .slice a2 x.band.hi.length n2] 65))) (HV0.out.below stays_Point hba) (HV1.out.below stays_Point hba) (HV2.out.below stays_Point hba))
              refine hK.out _ _ ⟨(hba.cell (p := ⟨bx, 2, none⟩) (World.block_lt_of_cell? _ _ e2)).trans e2, (hba.cell (p := ⟨bx, 4, none⟩) (World.block_lt_of_cell? _ _ e4)).trans e4, (hba.cell (p := ⟨bx, 5, none⟩) (World.block_lt_of_cell? _ _ e5)).trans e5, (hba.cell (p := ⟨bx, 6, none⟩) (World.block_lt_of_cell? _ _ e6)).trans e6⟩ (fun hHeld => ?_)
              have mca : wa.cell? ⟨bs, m, none⟩ = some (.int .i64 z) := (cell_of_row _ _ _ _ _ _ HMa.out).trans (i64v_get Hz.out)
              clear hK K hwa hba
              try simp only [Act.put, List.setIfInBounds_toArray, List.set_cons_zero, List.set_cons_succ]
              refine wpAnyH_ready (rs := [4, 14]) (by kernel_rfl) (by simp) ?_
              refine (AllReadyH.cons (by simp only [List.getElem?_toArray, List.getElem?_cons_succ, List.getElem?_cons_zero]; exact rfl) (fun K hK => ?_) (AllReadyH.cons (by simp only [List.getElem?_toArray, List.getElem?_cons_succ, List.getElem?_cons_zero]; exact rfl) (fun K hK => ?_) AllReadyH.nil))
              · go_simp
                refine hK.out _ _ hHeld (fun hHeld => ?_)
                clear hK K
                try simp only [Act.put, List.setIfInBounds_toArray, List.set_cons_zero, List.set_cons_succ]
                refine wpAnyH_ready (rs := [14]) (by kernel_rfl) (by simp) ?_
                refine (AllReadyH.cons (by simp only [List.getElem?_toArray, List.getElem?_cons_succ, List.getElem?_cons_zero]; exact rfl) (fun K hK => ?_) AllReadyH.nil)
                go_simp
                refine (steep_any [x.rate, x.band.lo, x.band.hi] _ _ HL3.out HRC3.out (by show 3 ≤ 10; decide)).mono ?_
                rintro e w4 ⟨sl, ⟨hsa, hsb, hup⟩, rfl, hb⟩
                have HR4 := Lib.hid (blk_below HRa.out hb (blk_lt HRa.out))
                have HX4 := Lib.hid (blk_below HXa.out hb (blk_lt HXa.out))
                have HM4 := Lib.hid (blk_below HMa.out hb (blk_lt HMa.out))
                have HB4 := Lib.hid (HBa.out.trans (hb.mono HBa.out.size))
                refine hK.out _ _ ⟨(hb.cell (p := ⟨bx, 2, none⟩) (World.block_lt_of_cell? _ _ (hHeld.1))).trans (hHeld.1), (hb.cell (p := ⟨bx, 4, none⟩) (World.block_lt_of_cell? _ _ (hHeld.2.1))).trans (hHeld.2.1), (hb.cell (p := ⟨bx, 5, none⟩) (World.block_lt_of_cell? _ _ (hHeld.2.2.1))).trans (hHeld.2.2.1), (hb.cell (p := ⟨bx, 6, none⟩) (World.block_lt_of_cell? _ _ (hHeld.2.2.2))).trans (hHeld.2.2.2)⟩ (fun hHeld => ?_)
                have mc4 : w4.cell? ⟨bs, m, none⟩ = some (.int .i64 z) := (cell_of_row _ _ _ _ _ _ HM4.out).trans (i64v_get Hz.out)
                have mf4 : w4.frozen? ⟨bs, m, none⟩ = false := frozen_of_row _ _ _ _ _ HM4.out
                have HUP := Lib.hid (hup x.rate (List.mem_cons_self ..))
                have F1 : IntKind.i64.wrap (z + sl) = z + sl := IntWalk.i64_in _ (by omega)
                obtain ⟨us2, hus2, ul2, ub2, ug2, uz2⟩ := upd Hz.out HVL.out HVB.out hsa hsb
                have Hus2 := Lib.hid hus2
                have HUL := Lib.hid ul2
                have HUB := Lib.hid ub2
                have HUG := Lib.hid ug2
                have HUZ := Lib.hid uz2
                clear hus2 ul2 ub2 ug2 uz2 hup hb hK K
                try simp only [Act.put, List.setIfInBounds_toArray, List.set_cons_zero, List.set_cons_succ]
                refine' wpAnyH_take (i := 15) (v := _) (by simp only [List.getElem?_toArray, List.getElem?_cons_succ, List.getElem?_cons_zero]; exact rfl) (by kernel_rfl) (by kernel_rfl) (by kernel_rfl) (fun _ _ _ h => h) (Or.inl ⟨by rfl, ?y15x13u2⟩) hHeld ?r15x13u2
                case y15x13u2 => (intro w hSw; (try dsimp only at hSw); go_simp; try with_reducible rfl)
                try simp only [Act.put, List.setIfInBounds_toArray, List.set_cons_zero, List.set_cons_succ]
                refine' wpAnyH_take (i := 16) (v := _) (by simp only [List.getElem?_toArray, List.getElem?_cons_succ, List.getElem?_cons_zero]; exact rfl) (by kernel_rfl) (by kernel_rfl) (by kernel_rfl) (fun _ _ _ h => h) (Or.inl ⟨by rfl, ?y16x14u2⟩) hHeld ?r16x14u2
                case y16x14u2 => (intro w hSw; (try dsimp only at hSw); go_simp; try with_reducible rfl)
                try simp only [Act.put, List.setIfInBounds_toArray, List.set_cons_zero, List.set_cons_succ]
                refine wpAnyH_ready (rs := [17]) (by kernel_rfl) (by simp) ?_
                refine (AllReadyH.cons (by simp only [List.getElem?_toArray, List.getElem?_cons_succ, List.getElem?_cons_zero]; exact rfl) (fun K hK => ?_) AllReadyH.nil)
                go_simp
                refine hK.out _ _ ⟨cell_other (hHeld.1) HNE.out.symm, cell_other (hHeld.2.1) HNE.out.symm, cell_other (hHeld.2.2.1) HNE.out.symm, cell_other (hHeld.2.2.2) HNE.out.symm⟩ (fun hHeld => ?_)
                clear hK K
                try simp only [Act.put, List.setIfInBounds_toArray, List.set_cons_zero, List.set_cons_succ]
                refine wpAnyH_done (by kernel_rfl) ?_ _
                refine NoPanic.normal ?_
                have HM5 : Hid ((w4.setCell ⟨bs, m, none⟩ (.int .i64 (z + sl))).heap[bs]? = some (.cells (i64v us2) 3 (0, 0))) := Lib.hid ((heap_setCell_same _ _ _ _ _ _ HM4.out).trans (by rw [i64v_set, Hus2.out]))
                have HR5 := Lib.hid ((heap_setCell_other w4 ⟨bs, m, none⟩ w.heap.size (.int .i64 (z + sl)) HNB.out).trans HR4.out)
                have HX5 := Lib.hid ((heap_setCell_other w4 ⟨bs, m, none⟩ bx (.int .i64 (z + sl)) HNE.out.symm).trans HX4.out)
                have HB5 : Hid (Below w.heap.size w (w4.setCell ⟨bs, m, none⟩ (.int .i64 (z + sl)))) := Lib.hid (HB4.out.setCell HLE.out _)
                clear HM4 HR4 HX4 HB4 mc4 mf4 hHeld mc mf mca F1 e2 e4 e5 e6
                generalize w4.setCell ⟨bs, m, none⟩ (.int .i64 (z + sl)) = w5 at *
                have d3 := rowNG HX5.out 3 (.int .i64 x.dst) rfl
                by_cases hd1 : x.dst = -1
                · have tq : (x.dst != -1) = false := by rw [hd1]; rfl
                  have HSX : Hid (SlopeLow x us2) := Lib.hid ⟨fun _ => ⟨fun u hu => by
                    rw [HM.out, Int.toNat_natCast] at hu
                    rw [HUZ.out] at hu
                    cases hu
                    exact HUP.out.le (by omega), fun h => absurd hd1 h⟩, fun h => by have := HKZ.out; omega⟩
                  clear hd1
                  go_wp2_with fail
                  go_roundw
                  case rel => exact ⟨k + 1, us2, by omega, by go_num, HUL.out, HUB.out.mono (by omega), lows_succ HX.out HLOW.out HUG.out HSX.out, HM5.out, HR5.out, HB5.out⟩
                  case measure => simp [Go.RowKit.intOf]; omega
                · have tq : (x.dst != -1) = true := by rw [bne_iff_ne]; exact hd1
                  obtain ⟨m2, hm2⟩ : ∃ m2 : Nat, x.dst = m2 := ⟨x.dst.toNat, by have := HD.out; omega⟩
                  have hmv2 : m2 < b.places.length := by have := HD.out; omega
                  obtain ⟨y, hy⟩ : ∃ y, us2[m2]? = some y := ⟨_, List.getElem?_eq_getElem (by rw [HUL.out]; exact hmv2)⟩
                  have hyb := HUB.out y (List.mem_of_getElem? hy)
                  have Hy := Lib.hid hy
                  have HM2 := Lib.hid hm2
                  clear hy hm2 hd1
                  have HSB := Lib.hid (slope_ok (n := x.backNum) (d := x.backDen) g1 g3).2.1
                  have HSA := Lib.hid (slope_ok (n := x.backNum) (d := x.backDen) g1 g3).1
                  have HSM : Hid (∀ W, Calls Tryz.prog 68 #[.int .i64 x.backNum, .int .i64 x.backDen] W fun e w' => e = .returned (.int .i64 (slopeN x.backNum x.backDen)) ∧ ∃ m, w' = W.drewN m) := Lib.hid fun W => slope_any _ _ W ⟨g1, g2⟩ ⟨g3, g4⟩
                  obtain ⟨sm, hsm⟩ : ∃ s, s = slopeN x.backNum x.backDen := ⟨_, rfl⟩
                  rw [← hsm] at HSB HSA HSM
                  have HSQ := Lib.hid hsm
                  clear hsm
                  have hta := HSA.out
                  have htb := HSB.out
                  have F1 : IntKind.i64.wrap (y + sm) = y + sm := IntWalk.i64_in _ (by omega)
                  obtain ⟨us22, hus22, ul2, ub2, ug2, uz2⟩ := upd Hy.out HUL.out HUB.out hta htb
                  have Hus22 := Lib.hid hus22
                  have HUL2 := Lib.hid ul2
                  have HUB2 := Lib.hid ub2
                  have HUG2 := Lib.hid (HUG.out.trans ug2)
                  have HSX : Hid (SlopeLow x us22) := Lib.hid ⟨fun _ => ⟨fun u hu => by
                    rw [HM.out, Int.toNat_natCast] at hu
                    obtain ⟨v, hv, hle⟩ := ug2.2 _ u hu
                    rw [HUZ.out] at hv
                    cases hv
                    exact HUP.out.le (by omega), fun _ u hu => by
                    rw [HM2.out, Int.toNat_natCast] at hu
                    rw [uz2] at hu
                    cases hu
                    rw [← HSQ.out]
                    omega⟩, fun h => by have := HKZ.out; omega⟩
                  clear hus22 ul2 ub2 ug2 uz2
                  clear d3
                  have d3 : w5.cell? ⟨bx, 3, none⟩ = some (.int .i64 x.dst) := rowNG HX5.out 3 (.int .i64 x.dst) rfl
                  go_upto_region 14 with fail
                  have e3 : w5.cell? ⟨bx, 3, none⟩ = some (.int .i64 (m2 : Int)) := HM2.out ▸ rowNG HX5.out 3 (.int .i64 x.dst) rfl
                  have e15 : w5.cell? ⟨bx, 15, none⟩ = some (.int .i64 x.backNum) := rowNG HX5.out 15 _ rfl
                  have e16 : w5.cell? ⟨bx, 16, none⟩ = some (.int .i64 x.backDen) := rowNG HX5.out 16 _ rfl
                  have mc : w5.cell? ⟨bs, m2, none⟩ = some (.int .i64 y) := (cell_of_row _ _ _ _ _ _ HM5.out).trans (i64v_get Hy.out)
                  have mf : w5.frozen? ⟨bs, m2, none⟩ = false := frozen_of_row _ _ _ _ _ HM5.out
                  refine wp_region_noPanic ?_
                  refine wp_region_held_drew (S := (fun c => c.cell? ⟨bx, 3, none⟩ = some (.int .i64 (m2 : Int)) ∧ c.cell? ⟨bx, 15, none⟩ = some (.int .i64 x.backNum) ∧ c.cell? ⟨bx, 16, none⟩ = some (.int .i64 x.backDen))) (by kernel_rfl) ⟨e3, e15, e16⟩ (fun hHeld => ?_)
                  refine' wpAnyH_take (i := 0) (v := _) (by simp only [List.getElem?_toArray, List.getElem?_cons_zero]; exact rfl) (by kernel_rfl) (by kernel_rfl) (by kernel_rfl) (fun _ _ _ h => h) (Or.inl ⟨by rfl, ?y0x15u2⟩) hHeld ?r0x15u2
                  case y0x15u2 => (intro w hSw; (try dsimp only at hSw); go_simp; try with_reducible rfl)
                  try simp only [Act.put, List.setIfInBounds_toArray, List.set_cons_zero, List.set_cons_succ]
                  refine' wpAnyH_take (i := 1) (v := _) (by simp only [List.getElem?_toArray, List.getElem?_cons_succ, List.getElem?_cons_zero]; exact rfl) (by kernel_rfl) (by kernel_rfl) (by kernel_rfl) (fun _ _ _ h => h) (Or.inl ⟨by rfl, ?y1x16u2⟩) hHeld ?r1x16u2
                  case y1x16u2 => (intro w hSw; (try dsimp only at hSw); go_simp; try with_reducible rfl)
                  try simp only [Act.put, List.setIfInBounds_toArray, List.set_cons_zero, List.set_cons_succ]
                  refine' wpAnyH_take (i := 2) (v := _) (by simp only [List.getElem?_toArray, List.getElem?_cons_succ, List.getElem?_cons_zero]; exact rfl) (by kernel_rfl) (by kernel_rfl) (by kernel_rfl) (fun _ _ _ h => h) (Or.inl ⟨by rfl, ?y2x17u2⟩) hHeld ?r2x17u2
                  case y2x17u2 => (intro w hSw; (try dsimp only at hSw); go_simp; try with_reducible rfl)
                  try simp only [Act.put, List.setIfInBounds_toArray, List.set_cons_zero, List.set_cons_succ]
                  refine' wpAnyH_take (i := 3) (v := _) (by simp only [List.getElem?_toArray, List.getElem?_cons_succ, List.getElem?_cons_zero]; exact rfl) (by kernel_rfl) (by kernel_rfl) (by kernel_rfl) (fun _ _ _ h => h) (Or.inl ⟨by rfl, ?y3x18u2⟩) hHeld ?r3x18u2
                  case y3x18u2 => (intro w hSw; (try dsimp only at hSw); go_simp; try with_reducible rfl)
                  try simp only [Act.put, List.setIfInBounds_toArray, List.set_cons_zero, List.set_cons_succ]
                  refine' wpAnyH_take (i := 5) (v := _) (by simp only [List.getElem?_toArray, List.getElem?_cons_succ, List.getElem?_cons_zero]; exact rfl) (by kernel_rfl) (by kernel_rfl) (by kernel_rfl) (fun _ _ _ h => h) (Or.inl ⟨by rfl, ?y5x19u2⟩) hHeld ?r5x19u2
                  case y5x19u2 => (intro w hSw; (try dsimp only at hSw); go_simp; try with_reducible rfl)
                  try simp only [Act.put, List.setIfInBounds_toArray, List.set_cons_zero, List.set_cons_succ]
                  refine' wpAnyH_take (i := 6) (v := _) (by simp only [List.getElem?_toArray, List.getElem?_cons_succ, List.getElem?_cons_zero]; exact rfl) (by kernel_rfl) (by kernel_rfl) (by kernel_rfl) (fun _ _ _ h => h) (Or.inl ⟨by rfl, ?y6x20u2⟩) hHeld ?r6x20u2
                  case y6x20u2 => (intro w hSw; (try dsimp only at hSw); go_simp; try with_reducible rfl)
                  try simp only [Act.put, List.setIfInBounds_toArray, List.set_cons_zero, List.set_cons_succ]
                  refine' wpAnyH_take (i := 7) (v := _) (by simp only [List.getElem?_toArray, List.getElem?_cons_succ, List.getElem?_cons_zero]; exact rfl) (by kernel_rfl) (by kernel_rfl) (by kernel_rfl) (fun _ _ _ h => h) (Or.inl ⟨by rfl, ?y7x21u2⟩) hHeld ?r7x21u2
                  case y7x21u2 => (intro w hSw; (try dsimp only at hSw); go_simp; try with_reducible rfl)
                  try simp only [Act.put, List.setIfInBounds_toArray, List.set_cons_zero, List.set_cons_succ]
                  refine' wpAnyH_take (i := 8) (v := _) (by simp only [List.getElem?_toArray, List.getElem?_cons_succ, List.getElem?_cons_zero]; exact rfl) (by kernel_rfl) (by kernel_rfl) (by kernel_rfl) (fun _ _ _ h => h) (Or.inl ⟨by rfl, ?y8x22u2⟩) hHeld ?r8x22u2
                  case y8x22u2 => (intro w hSw; (try dsimp only at hSw); go_simp; try with_reducible rfl)
                  try simp only [Act.put, List.setIfInBounds_toArray, List.set_cons_zero, List.set_cons_succ]
                  refine wpAnyH_ready (rs := [4, 9]) (by kernel_rfl) (by simp) ?_
                  refine (AllReadyH.cons (by simp only [List.getElem?_toArray, List.getElem?_cons_succ, List.getElem?_cons_zero]; exact rfl) (fun K hK => ?_) (AllReadyH.cons (by simp only [List.getElem?_toArray, List.getElem?_cons_succ, List.getElem?_cons_zero]; exact rfl) (fun K hK => ?_) AllReadyH.nil))
                  · go_simp
                    refine hK.out _ _ hHeld (fun hHeld => ?_)
                    clear hK K
                    try simp only [Act.put, List.setIfInBounds_toArray, List.set_cons_zero, List.set_cons_succ]
                    refine wpAnyH_ready (rs := [9]) (by kernel_rfl) (by simp) ?_
                    refine (AllReadyH.cons (by simp only [List.getElem?_toArray, List.getElem?_cons_succ, List.getElem?_cons_zero]; exact rfl) (fun K hK => ?_) AllReadyH.nil)
                    go_simp
                    refine (HSM.out _).mono ?_
                    rintro e w6 ⟨rfl, mm, hw⟩
                    have HR6 := Lib.hid (row_eq hw HR5.out)
                    have HX6 := Lib.hid (row_eq hw HX5.out)
                    have HM6 := Lib.hid (row_eq hw HM5.out)
                    have HB6 : Hid (Below w.heap.size w w6) := Lib.hid (by rw [hw]; exact ⟨HB5.out.os, HB5.out.tape, HB5.out.output, HB5.out.size, HB5.out.block⟩)
                    refine hK.out _ _ (by rw [hw]; exact hHeld) (fun hHeld => ?_)
                    clear hK K hw
                    try simp only [Act.put, List.setIfInBounds_toArray, List.set_cons_zero, List.set_cons_succ]
                    have mc6 : w6.cell? ⟨bs, m2, none⟩ = some (.int .i64 y) := (cell_of_row _ _ _ _ _ _ HM6.out).trans (i64v_get Hy.out)
                    have mf6 : w6.frozen? ⟨bs, m2, none⟩ = false := frozen_of_row _ _ _ _ _ HM6.out
                    refine' wpAnyH_take (i := 10) (v := _) (by simp only [List.getElem?_toArray, List.getElem?_cons_succ, List.getElem?_cons_zero]; exact rfl) (by kernel_rfl) (by kernel_rfl) (by kernel_rfl) (fun _ _ _ h => h) (Or.inl ⟨by rfl, ?y10x23u2⟩) hHeld ?r10x23u2
                    case y10x23u2 => (intro w hSw; (try dsimp only at hSw); go_simp; try with_reducible rfl)
                    try simp only [Act.put, List.setIfInBounds_toArray, List.set_cons_zero, List.set_cons_succ]
                    refine' wpAnyH_take (i := 11) (v := _) (by simp only [List.getElem?_toArray, List.getElem?_cons_succ, List.getElem?_cons_zero]; exact rfl) (by kernel_rfl) (by kernel_rfl) (by kernel_rfl) (fun _ _ _ h => h) (Or.inl ⟨by rfl, ?y11x24u2⟩) hHeld ?r11x24u2
                    case y11x24u2 => (intro w hSw; (try dsimp only at hSw); go_simp; try with_reducible rfl)
                    try simp only [Act.put, List.setIfInBounds_toArray, List.set_cons_zero, List.set_cons_succ]
                    refine wpAnyH_ready (rs := [12]) (by kernel_rfl) (by simp) ?_
                    refine (AllReadyH.cons (by simp only [List.getElem?_toArray, List.getElem?_cons_succ, List.getElem?_cons_zero]; exact rfl) (fun K hK => ?_) AllReadyH.nil)
                    go_simp
                    refine hK.out _ _ ⟨cell_other (hHeld.1) HNE.out.symm, cell_other (hHeld.2.1) HNE.out.symm, cell_other (hHeld.2.2) HNE.out.symm⟩ (fun hHeld => ?_)
                    clear hK K
                    try simp only [Act.put, List.setIfInBounds_toArray, List.set_cons_zero, List.set_cons_succ]
                    refine wpAnyH_done (by kernel_rfl) ?_ _
                    refine NoPanic.normal ?_
                    have HM7 : Hid ((w6.setCell ⟨bs, m2, none⟩ (.int .i64 (y + sm))).heap[bs]? = some (.cells (i64v us22) 3 (0, 0))) := Lib.hid ((heap_setCell_same _ _ _ _ _ _ HM6.out).trans (by rw [i64v_set, Hus22.out]))
                    have HR7 := Lib.hid ((heap_setCell_other w6 ⟨bs, m2, none⟩ w.heap.size (.int .i64 (y + sm)) HNB.out).trans HR6.out)
                    have HX7 := Lib.hid ((heap_setCell_other w6 ⟨bs, m2, none⟩ bx (.int .i64 (y + sm)) HNE.out.symm).trans HX6.out)
                    have HB7 : Hid (Below w.heap.size w (w6.setCell ⟨bs, m2, none⟩ (.int .i64 (y + sm)))) := Lib.hid (HB6.out.setCell HLE.out _)
                    clear HM6 HR6 HX6 HB6 mc6 mf6 hHeld
                    generalize w6.setCell ⟨bs, m2, none⟩ (.int .i64 (y + sm)) = w7 at *
                    go_wp2_with fail
                    go_roundw
                    case rel => exact ⟨k + 1, us22, by omega, by go_num, HUL2.out, HUB2.out.mono (by omega), lows_succ HX.out HLOW.out HUG2.out HSX.out, HM7.out, HR7.out, HB7.out⟩
                    case measure => simp [Go.RowKit.intOf]; omega
                  · go_simp
                    refine (HSM.out _).mono ?_
                    rintro e w6 ⟨rfl, mm, hw⟩
                    have HR6 := Lib.hid (row_eq hw HR5.out)
                    have HX6 := Lib.hid (row_eq hw HX5.out)
                    have HM6 := Lib.hid (row_eq hw HM5.out)
                    have HB6 : Hid (Below w.heap.size w w6) := Lib.hid (by rw [hw]; exact ⟨HB5.out.os, HB5.out.tape, HB5.out.output, HB5.out.size, HB5.out.block⟩)
                    refine hK.out _ _ (by rw [hw]; exact hHeld) (fun hHeld => ?_)
                    clear hK K hw
                    try simp only [Act.put, List.setIfInBounds_toArray, List.set_cons_zero, List.set_cons_succ]
                    have mc6 : w6.cell? ⟨bs, m2, none⟩ = some (.int .i64 y) := (cell_of_row _ _ _ _ _ _ HM6.out).trans (i64v_get Hy.out)
                    have mf6 : w6.frozen? ⟨bs, m2, none⟩ = false := frozen_of_row _ _ _ _ _ HM6.out
                    refine wpAnyH_ready (rs := [4]) (by kernel_rfl) (by simp) ?_
                    refine (AllReadyH.cons (by simp only [List.getElem?_toArray, List.getElem?_cons_succ, List.getElem?_cons_zero]; exact rfl) (fun K hK => ?_) AllReadyH.nil)
                    go_simp
                    refine hK.out _ _ hHeld (fun hHeld => ?_)
                    clear hK K
                    try simp only [Act.put, List.setIfInBounds_toArray, List.set_cons_zero, List.set_cons_succ]
                    refine' wpAnyH_take (i := 10) (v := _) (by simp only [List.getElem?_toArray, List.getElem?_cons_succ, List.getElem?_cons_zero]; exact rfl) (by kernel_rfl) (by kernel_rfl) (by kernel_rfl) (fun _ _ _ h => h) (Or.inl ⟨by rfl, ?y10x25u2⟩) hHeld ?r10x25u2
                    case y10x25u2 => (intro w hSw; (try dsimp only at hSw); go_simp; try with_reducible rfl)
                    try simp only [Act.put, List.setIfInBounds_toArray, List.set_cons_zero, List.set_cons_succ]
                    refine' wpAnyH_take (i := 11) (v := _) (by simp only [List.getElem?_toArray, List.getElem?_cons_succ, List.getElem?_cons_zero]; exact rfl) (by kernel_rfl) (by kernel_rfl) (by kernel_rfl) (fun _ _ _ h => h) (Or.inl ⟨by rfl, ?y11x26u2⟩) hHeld ?r11x26u2
                    case y11x26u2 => (intro w hSw; (try dsimp only at hSw); go_simp; try with_reducible rfl)
                    try simp only [Act.put, List.setIfInBounds_toArray, List.set_cons_zero, List.set_cons_succ]
                    refine wpAnyH_ready (rs := [12]) (by kernel_rfl) (by simp) ?_
                    refine (AllReadyH.cons (by simp only [List.getElem?_toArray, List.getElem?_cons_succ, List.getElem?_cons_zero]; exact rfl) (fun K hK => ?_) AllReadyH.nil)
                    go_simp
                    refine hK.out _ _ ⟨cell_other (hHeld.1) HNE.out.symm, cell_other (hHeld.2.1) HNE.out.symm, cell_other (hHeld.2.2) HNE.out.symm⟩ (fun hHeld => ?_)
                    clear hK K
                    try simp only [Act.put, List.setIfInBounds_toArray, List.set_cons_zero, List.set_cons_succ]
                    refine wpAnyH_done (by kernel_rfl) ?_ _
                    refine NoPanic.normal ?_
                    have HM7 : Hid ((w6.setCell ⟨bs, m2, none⟩ (.int .i64 (y + sm))).heap[bs]? = some (.cells (i64v us22) 3 (0, 0))) := Lib.hid ((heap_setCell_same _ _ _ _ _ _ HM6.out).trans (by rw [i64v_set, Hus22.out]))
                    have HR7 := Lib.hid ((heap_setCell_other w6 ⟨bs, m2, none⟩ w.heap.size (.int .i64 (y + sm)) HNB.out).trans HR6.out)
                    have HX7 := Lib.hid ((heap_setCell_other w6 ⟨bs, m2, none⟩ bx (.int .i64 (y + sm)) HNE.out.symm).trans HX6.out)
                    have HB7 : Hid (Below w.heap.size w (w6.setCell ⟨bs, m2, none⟩ (.int .i64 (y + sm)))) := Lib.hid (HB6.out.setCell HLE.out _)
                    clear HM6 HR6 HX6 HB6 mc6 mf6 hHeld
                    generalize w6.setCell ⟨bs, m2, none⟩ (.int .i64 (y + sm)) = w7 at *
                    go_wp2_with fail
                    go_roundw
                    case rel => exact ⟨k + 1, us22, by omega, by go_num, HUL2.out, HUB2.out.mono (by omega), lows_succ HX.out HLOW.out HUG2.out HSX.out, HM7.out, HR7.out, HB7.out⟩
                    case measure => simp [Go.RowKit.intOf]; omega
              · go_simp
                refine (steep_any [x.rate, x.band.lo, x.band.hi] _ _ HL3.out HRC3.out (by show 3 ≤ 10; decide)).mono ?_
                rintro e w4 ⟨sl, ⟨hsa, hsb, hup⟩, rfl, hb⟩
                have HR4 := Lib.hid (blk_below HRa.out hb (blk_lt HRa.out))
                have HX4 := Lib.hid (blk_below HXa.out hb (blk_lt HXa.out))
                have HM4 := Lib.hid (blk_below HMa.out hb (blk_lt HMa.out))
                have HB4 := Lib.hid (HBa.out.trans (hb.mono HBa.out.size))
                refine hK.out _ _ ⟨(hb.cell (p := ⟨bx, 2, none⟩) (World.block_lt_of_cell? _ _ (hHeld.1))).trans (hHeld.1), (hb.cell (p := ⟨bx, 4, none⟩) (World.block_lt_of_cell? _ _ (hHeld.2.1))).trans (hHeld.2.1), (hb.cell (p := ⟨bx, 5, none⟩) (World.block_lt_of_cell? _ _ (hHeld.2.2.1))).trans (hHeld.2.2.1), (hb.cell (p := ⟨bx, 6, none⟩) (World.block_lt_of_cell? _ _ (hHeld.2.2.2))).trans (hHeld.2.2.2)⟩ (fun hHeld => ?_)
                have mc4 : w4.cell? ⟨bs, m, none⟩ = some (.int .i64 z) := (cell_of_row _ _ _ _ _ _ HM4.out).trans (i64v_get Hz.out)
                have mf4 : w4.frozen? ⟨bs, m, none⟩ = false := frozen_of_row _ _ _ _ _ HM4.out
                have HUP := Lib.hid (hup x.rate (List.mem_cons_self ..))
                have F1 : IntKind.i64.wrap (z + sl) = z + sl := IntWalk.i64_in _ (by omega)
                obtain ⟨us2, hus2, ul2, ub2, ug2, uz2⟩ := upd Hz.out HVL.out HVB.out hsa hsb
                have Hus2 := Lib.hid hus2
                have HUL := Lib.hid ul2
                have HUB := Lib.hid ub2
                have HUG := Lib.hid ug2
                have HUZ := Lib.hid uz2
                clear hus2 ul2 ub2 ug2 uz2 hup hb hK K
                try simp only [Act.put, List.setIfInBounds_toArray, List.set_cons_zero, List.set_cons_succ]
                refine wpAnyH_ready (rs := [4]) (by kernel_rfl) (by simp) ?_
                refine (AllReadyH.cons (by simp only [List.getElem?_toArray, List.getElem?_cons_succ, List.getElem?_cons_zero]; exact rfl) (fun K hK => ?_) AllReadyH.nil)
                go_simp
                refine hK.out _ _ hHeld (fun hHeld => ?_)
                clear hK K
                try simp only [Act.put, List.setIfInBounds_toArray, List.set_cons_zero, List.set_cons_succ]
                refine' wpAnyH_take (i := 15) (v := _) (by simp only [List.getElem?_toArray, List.getElem?_cons_succ, List.getElem?_cons_zero]; exact rfl) (by kernel_rfl) (by kernel_rfl) (by kernel_rfl) (fun _ _ _ h => h) (Or.inl ⟨by rfl, ?y15x13u3⟩) hHeld ?r15x13u3
                case y15x13u3 => (intro w hSw; (try dsimp only at hSw); go_simp; try with_reducible rfl)
                try simp only [Act.put, List.setIfInBounds_toArray, List.set_cons_zero, List.set_cons_succ]
                refine' wpAnyH_take (i := 16) (v := _) (by simp only [List.getElem?_toArray, List.getElem?_cons_succ, List.getElem?_cons_zero]; exact rfl) (by kernel_rfl) (by kernel_rfl) (by kernel_rfl) (fun _ _ _ h => h) (Or.inl ⟨by rfl, ?y16x14u3⟩) hHeld ?r16x14u3
                case y16x14u3 => (intro w hSw; (try dsimp only at hSw); go_simp; try with_reducible rfl)
                try simp only [Act.put, List.setIfInBounds_toArray, List.set_cons_zero, List.set_cons_succ]
                refine wpAnyH_ready (rs := [17]) (by kernel_rfl) (by simp) ?_
                refine (AllReadyH.cons (by simp only [List.getElem?_toArray, List.getElem?_cons_succ, List.getElem?_cons_zero]; exact rfl) (fun K hK => ?_) AllReadyH.nil)
                go_simp
                refine hK.out _ _ ⟨cell_other (hHeld.1) HNE.out.symm, cell_other (hHeld.2.1) HNE.out.symm, cell_other (hHeld.2.2.1) HNE.out.symm, cell_other (hHeld.2.2.2) HNE.out.symm⟩ (fun hHeld => ?_)
                clear hK K
                try simp only [Act.put, List.setIfInBounds_toArray, List.set_cons_zero, List.set_cons_succ]
                refine wpAnyH_done (by kernel_rfl) ?_ _
                refine NoPanic.normal ?_
                have HM5 : Hid ((w4.setCell ⟨bs, m, none⟩ (.int .i64 (z + sl))).heap[bs]? = some (.cells (i64v us2) 3 (0, 0))) := Lib.hid ((heap_setCell_same _ _ _ _ _ _ HM4.out).trans (by rw [i64v_set, Hus2.out]))
                have HR5 := Lib.hid ((heap_setCell_other w4 ⟨bs, m, none⟩ w.heap.size (.int .i64 (z + sl)) HNB.out).trans HR4.out)
                have HX5 := Lib.hid ((heap_setCell_other w4 ⟨bs, m, none⟩ bx (.int .i64 (z + sl)) HNE.out.symm).trans HX4.out)
                have HB5 : Hid (Below w.heap.size w (w4.setCell ⟨bs, m, none⟩ (.int .i64 (z + sl)))) := Lib.hid (HB4.out.setCell HLE.out _)
                clear HM4 HR4 HX4 HB4 mc4 mf4 hHeld mc mf mca F1 e2 e4 e5 e6
                generalize w4.setCell ⟨bs, m, none⟩ (.int .i64 (z + sl)) = w5 at *
                have d3 := rowNG HX5.out 3 (.int .i64 x.dst) rfl
                by_cases hd1 : x.dst = -1
                · have tq : (x.dst != -1) = false := by rw [hd1]; rfl
                  have HSX : Hid (SlopeLow x us2) := Lib.hid ⟨fun _ => ⟨fun u hu => by
                    rw [HM.out, Int.toNat_natCast] at hu
                    rw [HUZ.out] at hu
                    cases hu
                    exact HUP.out.le (by omega), fun h => absurd hd1 h⟩, fun h => by have := HKZ.out; omega⟩
                  clear hd1
                  go_wp2_with fail
                  go_roundw
                  case rel => exact ⟨k + 1, us2, by omega, by go_num, HUL.out, HUB.out.mono (by omega), lows_succ HX.out HLOW.out HUG.out HSX.out, HM5.out, HR5.out, HB5.out⟩
                  case measure => simp [Go.RowKit.intOf]; omega
                · have tq : (x.dst != -1) = true := by rw [bne_iff_ne]; exact hd1
                  obtain ⟨m2, hm2⟩ : ∃ m2 : Nat, x.dst = m2 := ⟨x.dst.toNat, by have := HD.out; omega⟩
                  have hmv2 : m2 < b.places.length := by have := HD.out; omega
                  obtain ⟨y, hy⟩ : ∃ y, us2[m2]? = some y := ⟨_, List.getElem?_eq_getElem (by rw [HUL.out]; exact hmv2)⟩
                  have hyb := HUB.out y (List.mem_of_getElem? hy)
                  have Hy := Lib.hid hy
                  have HM2 := Lib.hid hm2
                  clear hy hm2 hd1
                  have HSB := Lib.hid (slope_ok (n := x.backNum) (d := x.backDen) g1 g3).2.1
                  have HSA := Lib.hid (slope_ok (n := x.backNum) (d := x.backDen) g1 g3).1
                  have HSM : Hid (∀ W, Calls Tryz.prog 68 #[.int .i64 x.backNum, .int .i64 x.backDen] W fun e w' => e = .returned (.int .i64 (slopeN x.backNum x.backDen)) ∧ ∃ m, w' = W.drewN m) := Lib.hid fun W => slope_any _ _ W ⟨g1, g2⟩ ⟨g3, g4⟩
                  obtain ⟨sm, hsm⟩ : ∃ s, s = slopeN x.backNum x.backDen := ⟨_, rfl⟩
                  rw [← hsm] at HSB HSA HSM
                  have HSQ := Lib.hid hsm
                  clear hsm
                  have hta := HSA.out
                  have htb := HSB.out
                  have F1 : IntKind.i64.wrap (y + sm) = y + sm := IntWalk.i64_in _ (by omega)
                  obtain ⟨us22, hus22, ul2, ub2, ug2, uz2⟩ := upd Hy.out HUL.out HUB.out hta htb
                  have Hus22 := Lib.hid hus22
                  have HUL2 := Lib.hid ul2
                  have HUB2 := Lib.hid ub2
                  have HUG2 := Lib.hid (HUG.out.trans ug2)
                  have HSX : Hid (SlopeLow x us22) := Lib.hid ⟨fun _ => ⟨fun u hu => by
                    rw [HM.out, Int.toNat_natCast] at hu
                    obtain ⟨v, hv, hle⟩ := ug2.2 _ u hu
                    rw [HUZ.out] at hv
                    cases hv
                    exact HUP.out.le (by omega), fun _ u hu => by
                    rw [HM2.out, Int.toNat_natCast] at hu
                    rw [uz2] at hu
                    cases hu
                    rw [← HSQ.out]
                    omega⟩, fun h => by have := HKZ.out; omega⟩
                  clear hus22 ul2 ub2 ug2 uz2
                  clear d3
                  have d3 : w5.cell? ⟨bx, 3, none⟩ = some (.int .i64 x.dst) := rowNG HX5.out 3 (.int .i64 x.dst) rfl
                  go_upto_region 14 with fail
                  have e3 : w5.cell? ⟨bx, 3, none⟩ = some (.int .i64 (m2 : Int)) := HM2.out ▸ rowNG HX5.out 3 (.int .i64 x.dst) rfl
                  have e15 : w5.cell? ⟨bx, 15, none⟩ = some (.int .i64 x.backNum) := rowNG HX5.out 15 _ rfl
                  have e16 : w5.cell? ⟨bx, 16, none⟩ = some (.int .i64 x.backDen) := rowNG HX5.out 16 _ rfl
                  have mc : w5.cell? ⟨bs, m2, none⟩ = some (.int .i64 y) := (cell_of_row _ _ _ _ _ _ HM5.out).trans (i64v_get Hy.out)
                  have mf : w5.frozen? ⟨bs, m2, none⟩ = false := frozen_of_row _ _ _ _ _ HM5.out
                  refine wp_region_noPanic ?_
                  refine wp_region_held_drew (S := (fun c => c.cell? ⟨bx, 3, none⟩ = some (.int .i64 (m2 : Int)) ∧ c.cell? ⟨bx, 15, none⟩ = some (.int .i64 x.backNum) ∧ c.cell? ⟨bx, 16, none⟩ = some (.int .i64 x.backDen))) (by kernel_rfl) ⟨e3, e15, e16⟩ (fun hHeld => ?_)
                  refine' wpAnyH_take (i := 0) (v := _) (by simp only [List.getElem?_toArray, List.getElem?_cons_zero]; exact rfl) (by kernel_rfl) (by kernel_rfl) (by kernel_rfl) (fun _ _ _ h => h) (Or.inl ⟨by rfl, ?y0x15u3⟩) hHeld ?r0x15u3
                  case y0x15u3 => (intro w hSw; (try dsimp only at hSw); go_simp; try with_reducible rfl)
                  try simp only [Act.put, List.setIfInBounds_toArray, List.set_cons_zero, List.set_cons_succ]
                  refine' wpAnyH_take (i := 1) (v := _) (by simp only [List.getElem?_toArray, List.getElem?_cons_succ, List.getElem?_cons_zero]; exact rfl) (by kernel_rfl) (by kernel_rfl) (by kernel_rfl) (fun _ _ _ h => h) (Or.inl ⟨by rfl, ?y1x16u3⟩) hHeld ?r1x16u3
                  case y1x16u3 => (intro w hSw; (try dsimp only at hSw); go_simp; try with_reducible rfl)
                  try simp only [Act.put, List.setIfInBounds_toArray, List.set_cons_zero, List.set_cons_succ]
                  refine' wpAnyH_take (i := 2) (v := _) (by simp only [List.getElem?_toArray, List.getElem?_cons_succ, List.getElem?_cons_zero]; exact rfl) (by kernel_rfl) (by kernel_rfl) (by kernel_rfl) (fun _ _ _ h => h) (Or.inl ⟨by rfl, ?y2x17u3⟩) hHeld ?r2x17u3
                  case y2x17u3 => (intro w hSw; (try dsimp only at hSw); go_simp; try with_reducible rfl)
                  try simp only [Act.put, List.setIfInBounds_toArray, List.set_cons_zero, List.set_cons_succ]
                  refine' wpAnyH_take (i := 3) (v := _) (by simp only [List.getElem?_toArray, List.getElem?_cons_succ, List.getElem?_cons_zero]; exact rfl) (by kernel_rfl) (by kernel_rfl) (by kernel_rfl) (fun _ _ _ h => h) (Or.inl ⟨by rfl, ?y3x18u3⟩) hHeld ?r3x18u3
                  case y3x18u3 => (intro w hSw; (try dsimp only at hSw); go_simp; try with_reducible rfl)
                  try simp only [Act.put, List.setIfInBounds_toArray, List.set_cons_zero, List.set_cons_succ]
                  refine' wpAnyH_take (i := 5) (v := _) (by simp only [List.getElem?_toArray, List.getElem?_cons_succ, List.getElem?_cons_zero]; exact rfl) (by kernel_rfl) (by kernel_rfl) (by kernel_rfl) (fun _ _ _ h => h) (Or.inl ⟨by rfl, ?y5x19u3⟩) hHeld ?r5x19u3
                  case y5x19u3 => (intro w hSw; (try dsimp only at hSw); go_simp; try with_reducible rfl)
                  try simp only [Act.put, List.setIfInBounds_toArray, List.set_cons_zero, List.set_cons_succ]
                  refine' wpAnyH_take (i := 6) (v := _) (by simp only [List.getElem?_toArray, List.getElem?_cons_succ, List.getElem?_cons_zero]; exact rfl) (by kernel_rfl) (by kernel_rfl) (by kernel_rfl) (fun _ _ _ h => h) (Or.inl ⟨by rfl, ?y6x20u3⟩) hHeld ?r6x20u3
                  case y6x20u3 => (intro w hSw; (try dsimp only at hSw); go_simp; try with_reducible rfl)
                  try simp only [Act.put, List.setIfInBounds_toArray, List.set_cons_zero, List.set_cons_succ]
                  refine' wpAnyH_take (i := 7) (v := _) (by simp only [List.getElem?_toArray, List.getElem?_cons_succ, List.getElem?_cons_zero]; exact rfl) (by kernel_rfl) (by kernel_rfl) (by kernel_rfl) (fun _ _ _ h => h) (Or.inl ⟨by rfl, ?y7x21u3⟩) hHeld ?r7x21u3
                  case y7x21u3 => (intro w hSw; (try dsimp only at hSw); go_simp; try with_reducible rfl)
                  try simp only [Act.put, List.setIfInBounds_toArray, List.set_cons_zero, List.set_cons_succ]
                  refine' wpAnyH_take (i := 8) (v := _) (by simp only [List.getElem?_toArray, List.getElem?_cons_succ, List.getElem?_cons_zero]; exact rfl) (by kernel_rfl) (by kernel_rfl) (by kernel_rfl) (fun _ _ _ h => h) (Or.inl ⟨by rfl, ?y8x22u3⟩) hHeld ?r8x22u3
                  case y8x22u3 => (intro w hSw; (try dsimp only at hSw); go_simp; try with_reducible rfl)
                  try simp only [Act.put, List.setIfInBounds_toArray, List.set_cons_zero, List.set_cons_succ]
                  refine wpAnyH_ready (rs := [4, 9]) (by kernel_rfl) (by simp) ?_
                  refine (AllReadyH.cons (by simp only [List.getElem?_toArray, List.getElem?_cons_succ, List.getElem?_cons_zero]; exact rfl) (fun K hK => ?_) (AllReadyH.cons (by simp only [List.getElem?_toArray, List.getElem?_cons_succ, List.getElem?_cons_zero]; exact rfl) (fun K hK => ?_) AllReadyH.nil))
                  · go_simp
                    refine hK.out _ _ hHeld (fun hHeld => ?_)
                    clear hK K
                    try simp only [Act.put, List.setIfInBounds_toArray, List.set_cons_zero, List.set_cons_succ]
                    refine wpAnyH_ready (rs := [9]) (by kernel_rfl) (by simp) ?_
                    refine (AllReadyH.cons (by simp only [List.getElem?_toArray, List.getElem?_cons_succ, List.getElem?_cons_zero]; exact rfl) (fun K hK => ?_) AllReadyH.nil)
                    go_simp
                    refine (HSM.out _).mono ?_
                    rintro e w6 ⟨rfl, mm, hw⟩
                    have HR6 := Lib.hid (row_eq hw HR5.out)
                    have HX6 := Lib.hid (row_eq hw HX5.out)
                    have HM6 := Lib.hid (row_eq hw HM5.out)
                    have HB6 : Hid (Below w.heap.size w w6) := Lib.hid (by rw [hw]; exact ⟨HB5.out.os, HB5.out.tape, HB5.out.output, HB5.out.size, HB5.out.block⟩)
                    refine hK.out _ _ (by rw [hw]; exact hHeld) (fun hHeld => ?_)
                    clear hK K hw
                    try simp only [Act.put, List.setIfInBounds_toArray, List.set_cons_zero, List.set_cons_succ]
                    have mc6 : w6.cell? ⟨bs, m2, none⟩ = some (.int .i64 y) := (cell_of_row _ _ _ _ _ _ HM6.out).trans (i64v_get Hy.out)
                    have mf6 : w6.frozen? ⟨bs, m2, none⟩ = false := frozen_of_row _ _ _ _ _ HM6.out
                    refine' wpAnyH_take (i := 10) (v := _) (by simp only [List.getElem?_toArray, List.getElem?_cons_succ, List.getElem?_cons_zero]; exact rfl) (by kernel_rfl) (by kernel_rfl) (by kernel_rfl) (fun _ _ _ h => h) (Or.inl ⟨by rfl, ?y10x23u3⟩) hHeld ?r10x23u3
                    case y10x23u3 => (intro w hSw; (try dsimp only at hSw); go_simp; try with_reducible rfl)
                    try simp only [Act.put, List.setIfInBounds_toArray, List.set_cons_zero, List.set_cons_succ]
                    refine' wpAnyH_take (i := 11) (v := _) (by simp only [List.getElem?_toArray, List.getElem?_cons_succ, List.getElem?_cons_zero]; exact rfl) (by kernel_rfl) (by kernel_rfl) (by kernel_rfl) (fun _ _ _ h => h) (Or.inl ⟨by rfl, ?y11x24u3⟩) hHeld ?r11x24u3
                    case y11x24u3 => (intro w hSw; (try dsimp only at hSw); go_simp; try with_reducible rfl)
                    try simp only [Act.put, List.setIfInBounds_toArray, List.set_cons_zero, List.set_cons_succ]
                    refine wpAnyH_ready (rs := [12]) (by kernel_rfl) (by simp) ?_
                    refine (AllReadyH.cons (by simp only [List.getElem?_toArray, List.getElem?_cons_succ, List.getElem?_cons_zero]; exact rfl) (fun K hK => ?_) AllReadyH.nil)
                    go_simp
                    refine hK.out _ _ ⟨cell_other (hHeld.1) HNE.out.symm, cell_other (hHeld.2.1) HNE.out.symm, cell_other (hHeld.2.2) HNE.out.symm⟩ (fun hHeld => ?_)
                    clear hK K
                    try simp only [Act.put, List.setIfInBounds_toArray, List.set_cons_zero, List.set_cons_succ]
                    refine wpAnyH_done (by kernel_rfl) ?_ _
                    refine NoPanic.normal ?_
                    have HM7 : Hid ((w6.setCell ⟨bs, m2, none⟩ (.int .i64 (y + sm))).heap[bs]? = some (.cells (i64v us22) 3 (0, 0))) := Lib.hid ((heap_setCell_same _ _ _ _ _ _ HM6.out).trans (by rw [i64v_set, Hus22.out]))
                    have HR7 := Lib.hid ((heap_setCell_other w6 ⟨bs, m2, none⟩ w.heap.size (.int .i64 (y + sm)) HNB.out).trans HR6.out)
                    have HX7 := Lib.hid ((heap_setCell_other w6 ⟨bs, m2, none⟩ bx (.int .i64 (y + sm)) HNE.out.symm).trans HX6.out)
                    have HB7 : Hid (Below w.heap.size w (w6.setCell ⟨bs, m2, none⟩ (.int .i64 (y + sm)))) := Lib.hid (HB6.out.setCell HLE.out _)
                    clear HM6 HR6 HX6 HB6 mc6 mf6 hHeld
                    generalize w6.setCell ⟨bs, m2, none⟩ (.int .i64 (y + sm)) = w7 at *
                    go_wp2_with fail
                    go_roundw
                    case rel => exact ⟨k + 1, us22, by omega, by go_num, HUL2.out, HUB2.out.mono (by omega), lows_succ HX.out HLOW.out HUG2.out HSX.out, HM7.out, HR7.out, HB7.out⟩
                    case measure => simp [Go.RowKit.intOf]; omega
                  · go_simp
                    refine (HSM.out _).mono ?_
                    rintro e w6 ⟨rfl, mm, hw⟩
                    have HR6 := Lib.hid (row_eq hw HR5.out)
                    have HX6 := Lib.hid (row_eq hw HX5.out)
                    have HM6 := Lib.hid (row_eq hw HM5.out)
                    have HB6 : Hid (Below w.heap.size w w6) := Lib.hid (by rw [hw]; exact ⟨HB5.out.os, HB5.out.tape, HB5.out.output, HB5.out.size, HB5.out.block⟩)
                    refine hK.out _ _ (by rw [hw]; exact hHeld) (fun hHeld => ?_)
                    clear hK K hw
                    try simp only [Act.put, List.setIfInBounds_toArray, List.set_cons_zero, List.set_cons_succ]
                    have mc6 : w6.cell? ⟨bs, m2, none⟩ = some (.int .i64 y) := (cell_of_row _ _ _ _ _ _ HM6.out).trans (i64v_get Hy.out)
                    have mf6 : w6.frozen? ⟨bs, m2, none⟩ = false := frozen_of_row _ _ _ _ _ HM6.out
                    refine wpAnyH_ready (rs := [4]) (by kernel_rfl) (by simp) ?_
                    refine (AllReadyH.cons (by simp only [List.getElem?_toArray, List.getElem?_cons_succ, List.getElem?_cons_zero]; exact rfl) (fun K hK => ?_) AllReadyH.nil)
                    go_simp
                    refine hK.out _ _ hHeld (fun hHeld => ?_)
                    clear hK K
                    try simp only [Act.put, List.setIfInBounds_toArray, List.set_cons_zero, List.set_cons_succ]
                    refine' wpAnyH_take (i := 10) (v := _) (by simp only [List.getElem?_toArray, List.getElem?_cons_succ, List.getElem?_cons_zero]; exact rfl) (by kernel_rfl) (by kernel_rfl) (by kernel_rfl) (fun _ _ _ h => h) (Or.inl ⟨by rfl, ?y10x25u3⟩) hHeld ?r10x25u3
                    case y10x25u3 => (intro w hSw; (try dsimp only at hSw); go_simp; try with_reducible rfl)
                    try simp only [Act.put, List.setIfInBounds_toArray, List.set_cons_zero, List.set_cons_succ]
                    refine' wpAnyH_take (i := 11) (v := _) (by simp only [List.getElem?_toArray, List.getElem?_cons_succ, List.getElem?_cons_zero]; exact rfl) (by kernel_rfl) (by kernel_rfl) (by kernel_rfl) (fun _ _ _ h => h) (Or.inl ⟨by rfl, ?y11x26u3⟩) hHeld ?r11x26u3
                    case y11x26u3 => (intro w hSw; (try dsimp only at hSw); go_simp; try with_reducible rfl)
                    try simp only [Act.put, List.setIfInBounds_toArray, List.set_cons_zero, List.set_cons_succ]
                    refine wpAnyH_ready (rs := [12]) (by kernel_rfl) (by simp) ?_
                    refine (AllReadyH.cons (by simp only [List.getElem?_toArray, List.getElem?_cons_succ, List.getElem?_cons_zero]; exact rfl) (fun K hK => ?_) AllReadyH.nil)
                    go_simp
                    refine hK.out _ _ ⟨cell_other (hHeld.1) HNE.out.symm, cell_other (hHeld.2.1) HNE.out.symm, cell_other (hHeld.2.2) HNE.out.symm⟩ (fun hHeld => ?_)
                    clear hK K
                    try simp only [Act.put, List.setIfInBounds_toArray, List.set_cons_zero, List.set_cons_succ]
                    refine wpAnyH_done (by kernel_rfl) ?_ _
                    refine NoPanic.normal ?_
                    have HM7 : Hid ((w6.setCell ⟨bs, m2, none⟩ (.int .i64 (y + sm))).heap[bs]? = some (.cells (i64v us22) 3 (0, 0))) := Lib.hid ((heap_setCell_same _ _ _ _ _ _ HM6.out).trans (by rw [i64v_set, Hus22.out]))
                    have HR7 := Lib.hid ((heap_setCell_other w6 ⟨bs, m2, none⟩ w.heap.size (.int .i64 (y + sm)) HNB.out).trans HR6.out)
                    have HX7 := Lib.hid ((heap_setCell_other w6 ⟨bs, m2, none⟩ bx (.int .i64 (y + sm)) HNE.out.symm).trans HX6.out)
                    have HB7 : Hid (Below w.heap.size w (w6.setCell ⟨bs, m2, none⟩ (.int .i64 (y + sm)))) := Lib.hid (HB6.out.setCell HLE.out _)
                    clear HM6 HR6 HX6 HB6 mc6 mf6 hHeld
                    generalize w6.setCell ⟨bs, m2, none⟩ (.int .i64 (y + sm)) = w7 at *
                    go_wp2_with fail
                    go_roundw
                    case rel => exact ⟨k + 1, us22, by omega, by go_num, HUL2.out, HUB2.out.mono (by omega), lows_succ HX.out HLOW.out HUG2.out HSX.out, HM7.out, HR7.out, HB7.out⟩
                    case measure => simp [Go.RowKit.intOf]; omega
          · obtain ⟨-, ⟨f1, f2⟩, f3', f4⟩ := HF.out.2.1 (Or.inl hk)
            have f3 : 0 ≤ x.den := by omega
            have HK0 : Hid (x.kind ≠ 0) := Lib.hid (by omega)
            have kc0 : (x.kind == 0) = false := by rw [hk]; rfl
            have kc1 : (x.kind == 1) = true := by rw [hk]; rfl
            have kc5 : (x.kind == 5) = false := by rw [hk]; rfl
            have kc3 : (x.kind == 3) = false := by rw [hk]; rfl
            have kc4 : (x.kind == 4) = false := by rw [hk]; rfl
            clear hk
            have HSB := Lib.hid (slope_ok (n := x.num) (d := x.den) f1 f3).2.1
            have HSA := Lib.hid (slope_ok (n := x.num) (d := x.den) f1 f3).1
            have HSL : Hid (∀ W, Calls Tryz.prog 68 #[.int .i64 x.num, .int .i64 x.den] W fun e w' => e = .returned (.int .i64 (slopeN x.num x.den)) ∧ ∃ m, w' = W.drewN m) := Lib.hid fun W => slope_any _ _ W ⟨f1, f2⟩ ⟨f3, f4⟩
            obtain ⟨sl, hsl⟩ : ∃ s, s = slopeN x.num x.den := ⟨_, rfl⟩
            rw [← hsl] at HSB HSA HSL
            have HSQ := Lib.hid hsl
            clear hsl
            have hsa := HSA.out
            have hsb := HSB.out
            have F1 : IntKind.i64.wrap (z + sl) = z + sl := IntWalk.i64_in _ (by omega)
            obtain ⟨us2, hus2, ul2, ub2, ug2, uz2⟩ := upd HZ.out HVL.out HVB.out hsa hsb
            have Hus2 := Lib.hid hus2
            have HUL := Lib.hid ul2
            have HUB := Lib.hid ub2
            have HUG := Lib.hid ug2
            have HSX : Hid (SlopeLow x us2) := Lib.hid ⟨fun h => absurd h HK0.out, fun _ u hu => by
              rw [HM.out, Int.toNat_natCast] at hu
              rw [uz2] at hu
              cases hu
              rw [← HSQ.out]
              omega⟩
            clear hus2 ul2 ub2 ug2 uz2
            go_upto_region 18 with fail
            have e2 : w3.cell? ⟨bx, 2, none⟩ = some (.int .i64 (m : Int)) := d2
            have e11 : w3.cell? ⟨bx, 11, none⟩ = some (.int .i64 x.num) := rowNG HX3.out 11 _ rfl
            have e12 : w3.cell? ⟨bx, 12, none⟩ = some (.int .i64 x.den) := rowNG HX3.out 12 _ rfl
            have mc : w3.cell? ⟨bs, m, none⟩ = some (.int .i64 z) := (cell_of_row _ _ _ _ _ _ HM3.out).trans (i64v_get Hz.out)
            have mf : w3.frozen? ⟨bs, m, none⟩ = false := frozen_of_row _ _ _ _ _ HM3.out
            refine wp_region_noPanic ?_
            refine wp_region_held_drew (S := (fun c => c.cell? ⟨bx, 2, none⟩ = some (.int .i64 (m : Int)) ∧ c.cell? ⟨bx, 11, none⟩ = some (.int .i64 x.num) ∧ c.cell? ⟨bx, 12, none⟩ = some (.int .i64 x.den))) (by kernel_rfl) ⟨e2, e11, e12⟩ (fun hHeld => ?_)
            refine' wpAnyH_take (i := 0) (v := _) (by simp only [List.getElem?_toArray, List.getElem?_cons_zero]; exact rfl) (by kernel_rfl) (by kernel_rfl) (by kernel_rfl) (fun _ _ _ h => h) (Or.inl ⟨by rfl, ?y0x27⟩) hHeld ?r0x27
            case y0x27 => (intro w hSw; (try dsimp only at hSw); go_simp; try with_reducible rfl)
            try simp only [Act.put, List.setIfInBounds_toArray, List.set_cons_zero, List.set_cons_succ]
            refine' wpAnyH_take (i := 1) (v := _) (by simp only [List.getElem?_toArray, List.getElem?_cons_succ, List.getElem?_cons_zero]; exact rfl) (by kernel_rfl) (by kernel_rfl) (by kernel_rfl) (fun _ _ _ h => h) (Or.inl ⟨by rfl, ?y1x28⟩) hHeld ?r1x28
            case y1x28 => (intro w hSw; (try dsimp only at hSw); go_simp; try with_reducible rfl)
            try simp only [Act.put, List.setIfInBounds_toArray, List.set_cons_zero, List.set_cons_succ]
            refine' wpAnyH_take (i := 2) (v := _) (by simp only [List.getElem?_toArray, List.getElem?_cons_succ, List.getElem?_cons_zero]; exact rfl) (by kernel_rfl) (by kernel_rfl) (by kernel_rfl) (fun _ _ _ h => h) (Or.inl ⟨by rfl, ?y2x29⟩) hHeld ?r2x29
            case y2x29 => (intro w hSw; (try dsimp only at hSw); go_simp; try with_reducible rfl)
            try simp only [Act.put, List.setIfInBounds_toArray, List.set_cons_zero, List.set_cons_succ]
            refine' wpAnyH_take (i := 3) (v := _) (by simp only [List.getElem?_toArray, List.getElem?_cons_succ, List.getElem?_cons_zero]; exact rfl) (by kernel_rfl) (by kernel_rfl) (by kernel_rfl) (fun _ _ _ h => h) (Or.inl ⟨by rfl, ?y3x30⟩) hHeld ?r3x30
            case y3x30 => (intro w hSw; (try dsimp only at hSw); go_simp; try with_reducible rfl)
            try simp only [Act.put, List.setIfInBounds_toArray, List.set_cons_zero, List.set_cons_succ]
            refine' wpAnyH_take (i := 5) (v := _) (by simp only [List.getElem?_toArray, List.getElem?_cons_succ, List.getElem?_cons_zero]; exact rfl) (by kernel_rfl) (by kernel_rfl) (by kernel_rfl) (fun _ _ _ h => h) (Or.inl ⟨by rfl, ?y5x31⟩) hHeld ?r5x31
            case y5x31 => (intro w hSw; (try dsimp only at hSw); go_simp; try with_reducible rfl)
            try simp only [Act.put, List.setIfInBounds_toArray, List.set_cons_zero, List.set_cons_succ]
            refine' wpAnyH_take (i := 6) (v := _) (by simp only [List.getElem?_toArray, List.getElem?_cons_succ, List.getElem?_cons_zero]; exact rfl) (by kernel_rfl) (by kernel_rfl) (by kernel_rfl) (fun _ _ _ h => h) (Or.inl ⟨by rfl, ?y6x32⟩) hHeld ?r6x32
            case y6x32 => (intro w hSw; (try dsimp only at hSw); go_simp; try with_reducible rfl)
            try simp only [Act.put, List.setIfInBounds_toArray, List.set_cons_zero, List.set_cons_succ]
            refine' wpAnyH_take (i := 7) (v := _) (by simp only [List.getElem?_toArray, List.getElem?_cons_succ, List.getElem?_cons_zero]; exact rfl) (by kernel_rfl) (by kernel_rfl) (by kernel_rfl) (fun _ _ _ h => h) (Or.inl ⟨by rfl, ?y7x33⟩) hHeld ?r7x33
            case y7x33 => (intro w hSw; (try dsimp only at hSw); go_simp; try with_reducible rfl)
            try simp only [Act.put, List.setIfInBounds_toArray, List.set_cons_zero, List.set_cons_succ]
            refine' wpAnyH_take (i := 8) (v := _) (by simp only [List.getElem?_toArray, List.getElem?_cons_succ, List.getElem?_cons_zero]; exact rfl) (by kernel_rfl) (by kernel_rfl) (by kernel_rfl) (fun _ _ _ h => h) (Or.inl ⟨by rfl, ?y8x34⟩) hHeld ?r8x34
            case y8x34 => (intro w hSw; (try dsimp only at hSw); go_simp; try with_reducible rfl)
            try simp only [Act.put, List.setIfInBounds_toArray, List.set_cons_zero, List.set_cons_succ]
            refine wpAnyH_ready (rs := [4, 9]) (by kernel_rfl) (by simp) ?_
            refine (AllReadyH.cons (by simp only [List.getElem?_toArray, List.getElem?_cons_succ, List.getElem?_cons_zero]; exact rfl) (fun K hK => ?_) (AllReadyH.cons (by simp only [List.getElem?_toArray, List.getElem?_cons_succ, List.getElem?_cons_zero]; exact rfl) (fun K hK => ?_) AllReadyH.nil))
            · go_simp
              refine hK.out _ _ hHeld (fun hHeld => ?_)
              clear hK K
              try simp only [Act.put, List.setIfInBounds_toArray, List.set_cons_zero, List.set_cons_succ]
              refine wpAnyH_ready (rs := [9]) (by kernel_rfl) (by simp) ?_
              refine (AllReadyH.cons (by simp only [List.getElem?_toArray, List.getElem?_cons_succ, List.getElem?_cons_zero]; exact rfl) (fun K hK => ?_) AllReadyH.nil)
              go_simp
              refine (HSL.out _).mono ?_
              rintro e w4 ⟨rfl, mm, hw⟩
              have HR4 := Lib.hid (row_eq hw HR3.out)
              have HX4 := Lib.hid (row_eq hw HX3.out)
              have HM4 := Lib.hid (row_eq hw HM3.out)
              have HB4 : Hid (Below w.heap.size w w4) := Lib.hid (by rw [hw]; exact ⟨HB3.out.os, HB3.out.tape, HB3.out.output, HB3.out.size, HB3.out.block⟩)
              refine hK.out _ _ (by rw [hw]; exact hHeld) (fun hHeld => ?_)
              clear hK K hw
              try simp only [Act.put, List.setIfInBounds_toArray, List.set_cons_zero, List.set_cons_succ]
              have mc4 : w4.cell? ⟨bs, m, none⟩ = some (.int .i64 z) := (cell_of_row _ _ _ _ _ _ HM4.out).trans (i64v_get Hz.out)
              have mf4 : w4.frozen? ⟨bs, m, none⟩ = false := frozen_of_row _ _ _ _ _ HM4.out
              refine' wpAnyH_take (i := 10) (v := _) (by simp only [List.getElem?_toArray, List.getElem?_cons_succ, List.getElem?_cons_zero]; exact rfl) (by kernel_rfl) (by kernel_rfl) (by kernel_rfl) (fun _ _ _ h => h) (Or.inl ⟨by rfl, ?y10x35⟩) hHeld ?r10x35
              case y10x35 => (intro w hSw; (try dsimp only at hSw); go_simp; try with_reducible rfl)
              try simp only [Act.put, List.setIfInBounds_toArray, List.set_cons_zero, List.set_cons_succ]
              refine' wpAnyH_take (i := 11) (v := _) (by simp only [List.getElem?_toArray, List.getElem?_cons_succ, List.getElem?_cons_zero]; exact rfl) (by kernel_rfl) (by kernel_rfl) (by kernel_rfl) (fun _ _ _ h => h) (Or.inl ⟨by rfl, ?y11x36⟩) hHeld ?r11x36
              case y11x36 => (intro w hSw; (try dsimp only at hSw); go_simp; try with_reducible rfl)
              try simp only [Act.put, List.setIfInBounds_toArray, List.set_cons_zero, List.set_cons_succ]
              refine wpAnyH_ready (rs := [12]) (by kernel_rfl) (by simp) ?_
              refine (AllReadyH.cons (by simp only [List.getElem?_toArray, List.getElem?_cons_succ, List.getElem?_cons_zero]; exact rfl) (fun K hK => ?_) AllReadyH.nil)
              go_simp
              refine hK.out _ _ ⟨cell_other (hHeld.1) HNE.out.symm, cell_other (hHeld.2.1) HNE.out.symm, cell_other (hHeld.2.2) HNE.out.symm⟩ (fun hHeld => ?_)
              clear hK K
              try simp only [Act.put, List.setIfInBounds_toArray, List.set_cons_zero, List.set_cons_succ]
              refine wpAnyH_done (by kernel_rfl) ?_ _
              refine NoPanic.normal ?_
              have HM5 : Hid ((w4.setCell ⟨bs, m, none⟩ (.int .i64 (z + sl))).heap[bs]? = some (.cells (i64v us2) 3 (0, 0))) := Lib.hid ((heap_setCell_same _ _ _ _ _ _ HM4.out).trans (by rw [i64v_set, Hus2.out]))
              have HR5 := Lib.hid ((heap_setCell_other w4 ⟨bs, m, none⟩ w.heap.size (.int .i64 (z + sl)) HNB.out).trans HR4.out)
              have HX5 := Lib.hid ((heap_setCell_other w4 ⟨bs, m, none⟩ bx (.int .i64 (z + sl)) HNE.out.symm).trans HX4.out)
              have HB5 : Hid (Below w.heap.size w (w4.setCell ⟨bs, m, none⟩ (.int .i64 (z + sl)))) := Lib.hid (HB4.out.setCell HLE.out _)
              clear HM4 HR4 HX4 HB4 mc4 mf4 hHeld
              generalize w4.setCell ⟨bs, m, none⟩ (.int .i64 (z + sl)) = w5 at *
              go_wp2_with fail
              go_roundw
              case rel => exact ⟨k + 1, us2, by omega, by go_num, HUL.out, HUB.out.mono (by omega), lows_succ HX.out HLOW.out HUG.out HSX.out, HM5.out, HR5.out, HB5.out⟩
              case measure => simp [Go.RowKit.intOf]; omega
            · go_simp
              refine (HSL.out _).mono ?_
              rintro e w4 ⟨rfl, mm, hw⟩
              have HR4 := Lib.hid (row_eq hw HR3.out)
              have HX4 := Lib.hid (row_eq hw HX3.out)
              have HM4 := Lib.hid (row_eq hw HM3.out)
              have HB4 : Hid (Below w.heap.size w w4) := Lib.hid (by rw [hw]; exact ⟨HB3.out.os, HB3.out.tape, HB3.out.output, HB3.out.size, HB3.out.block⟩)
              refine hK.out _ _ (by rw [hw]; exact hHeld) (fun hHeld => ?_)
              clear hK K hw
              try simp only [Act.put, List.setIfInBounds_toArray, List.set_cons_zero, List.set_cons_succ]
              have mc4 : w4.cell? ⟨bs, m, none⟩ = some (.int .i64 z) := (cell_of_row _ _ _ _ _ _ HM4.out).trans (i64v_get Hz.out)
              have mf4 : w4.frozen? ⟨bs, m, none⟩ = false := frozen_of_row _ _ _ _ _ HM4.out
              refine wpAnyH_ready (rs := [4]) (by kernel_rfl) (by simp) ?_
              refine (AllReadyH.cons (by simp only [List.getElem?_toArray, List.getElem?_cons_succ, List.getElem?_cons_zero]; exact rfl) (fun K hK => ?_) AllReadyH.nil)
              go_simp
              refine hK.out _ _ hHeld (fun hHeld => ?_)
              clear hK K
              try simp only [Act.put, List.setIfInBounds_toArray, List.set_cons_zero, List.set_cons_succ]
              refine' wpAnyH_take (i := 10) (v := _) (by simp only [List.getElem?_toArray, List.getElem?_cons_succ, List.getElem?_cons_zero]; exact rfl) (by kernel_rfl) (by kernel_rfl) (by kernel_rfl) (fun _ _ _ h => h) (Or.inl ⟨by rfl, ?y10x37⟩) hHeld ?r10x37
              case y10x37 => (intro w hSw; (try dsimp only at hSw); go_simp; try with_reducible rfl)
              try simp only [Act.put, List.setIfInBounds_toArray, List.set_cons_zero, List.set_cons_succ]
              refine' wpAnyH_take (i := 11) (v := _) (by simp only [List.getElem?_toArray, List.getElem?_cons_succ, List.getElem?_cons_zero]; exact rfl) (by kernel_rfl) (by kernel_rfl) (by kernel_rfl) (fun _ _ _ h => h) (Or.inl ⟨by rfl, ?y11x38⟩) hHeld ?r11x38
              case y11x38 => (intro w hSw; (try dsimp only at hSw); go_simp; try with_reducible rfl)
              try simp only [Act.put, List.setIfInBounds_toArray, List.set_cons_zero, List.set_cons_succ]
              refine wpAnyH_ready (rs := [12]) (by kernel_rfl) (by simp) ?_
              refine (AllReadyH.cons (by simp only [List.getElem?_toArray, List.getElem?_cons_succ, List.getElem?_cons_zero]; exact rfl) (fun K hK => ?_) AllReadyH.nil)
              go_simp
              refine hK.out _ _ ⟨cell_other (hHeld.1) HNE.out.symm, cell_other (hHeld.2.1) HNE.out.symm, cell_other (hHeld.2.2) HNE.out.symm⟩ (fun hHeld => ?_)
              clear hK K
              try simp only [Act.put, List.setIfInBounds_toArray, List.set_cons_zero, List.set_cons_succ]
              refine wpAnyH_done (by kernel_rfl) ?_ _
              refine NoPanic.normal ?_
              have HM5 : Hid ((w4.setCell ⟨bs, m, none⟩ (.int .i64 (z + sl))).heap[bs]? = some (.cells (i64v us2) 3 (0, 0))) := Lib.hid ((heap_setCell_same _ _ _ _ _ _ HM4.out).trans (by rw [i64v_set, Hus2.out]))
              have HR5 := Lib.hid ((heap_setCell_other w4 ⟨bs, m, none⟩ w.heap.size (.int .i64 (z + sl)) HNB.out).trans HR4.out)
              have HX5 := Lib.hid ((heap_setCell_other w4 ⟨bs, m, none⟩ bx (.int .i64 (z + sl)) HNE.out.symm).trans HX4.out)
              have HB5 : Hid (Below w.heap.size w (w4.setCell ⟨bs, m, none⟩ (.int .i64 (z + sl)))) := Lib.hid (HB4.out.setCell HLE.out _)
              clear HM4 HR4 HX4 HB4 mc4 mf4 hHeld
              generalize w4.setCell ⟨bs, m, none⟩ (.int .i64 (z + sl)) = w5 at *
              go_wp2_with fail
              go_roundw
              case rel => exact ⟨k + 1, us2, by omega, by go_num, HUL.out, HUB.out.mono (by omega), lows_succ HX.out HLOW.out HUG.out HSX.out, HM5.out, HR5.out, HB5.out⟩
              case measure => simp [Go.RowKit.intOf]; omega
          · have HSX : Hid (SlopeLow x us) := Lib.hid ⟨fun h => by omega, fun h => by omega⟩
            have HK0 : Hid (x.kind ≠ 0) := Lib.hid (by omega)
            have kc0 : (x.kind == 0) = false := by rw [hk]; rfl
            have kc1 : (x.kind == 1) = false := by rw [hk]; rfl
            have kc5 : (x.kind == 5) = false := by rw [hk]; rfl
            have kc3 : (x.kind == 3) = false := by rw [hk]; rfl
            have kc4 : (x.kind == 4) = false := by rw [hk]; rfl
            clear hk
            go_wp2_with fail
            go_roundw
            case rel => exact ⟨k + 1, us, by omega, by go_num, HVL.out, HVB.out.mono (by omega), lows_succ HX.out HLOW.out (GeV.refl _) HSX.out, HM3.out, HR3.out, HB3.out⟩
            case measure => simp [Go.RowKit.intOf]; omega
          · obtain ⟨⟨f1, f2⟩, f3', f4⟩ := HF.out.2.2.2.1 hk
            have f3 : 0 ≤ x.den := by omega
            have HK0 : Hid (x.kind ≠ 0) := Lib.hid (by omega)
            have kc0 : (x.kind == 0) = false := by rw [hk]; rfl
            have kc1 : (x.kind == 1) = false := by rw [hk]; rfl
            have kc5 : (x.kind == 5) = false := by rw [hk]; rfl
            have kc3 : (x.kind == 3) = true := by rw [hk]; rfl
            have kc4 : (x.kind == 4) = false := by rw [hk]; rfl
            clear hk
            have HSB := Lib.hid (slope_ok (n := x.num) (d := x.den) f1 f3).2.1
            have HSA := Lib.hid (slope_ok (n := x.num) (d := x.den) f1 f3).1
            have HSL : Hid (∀ W, Calls Tryz.prog 68 #[.int .i64 x.num, .int .i64 x.den] W fun e w' => e = .returned (.int .i64 (slopeN x.num x.den)) ∧ ∃ m, w' = W.drewN m) := Lib.hid fun W => slope_any _ _ W ⟨f1, f2⟩ ⟨f3, f4⟩
            obtain ⟨sl, hsl⟩ : ∃ s, s = slopeN x.num x.den := ⟨_, rfl⟩
            rw [← hsl] at HSB HSA HSL
            have HSQ := Lib.hid hsl
            clear hsl
            have hsa := HSA.out
            have hsb := HSB.out
            have F1 : IntKind.i64.wrap (z + sl) = z + sl := IntWalk.i64_in _ (by omega)
            obtain ⟨us2, hus2, ul2, ub2, ug2, uz2⟩ := upd HZ.out HVL.out HVB.out hsa hsb
            have Hus2 := Lib.hid hus2
            have HUL := Lib.hid ul2
            have HUB := Lib.hid ub2
            have HUG := Lib.hid ug2
            have HSX : Hid (SlopeLow x us2) := Lib.hid ⟨fun h => absurd h HK0.out, fun _ u hu => by
              rw [HM.out, Int.toNat_natCast] at hu
              rw [uz2] at hu
              cases hu
              rw [← HSQ.out]
              omega⟩
            clear hus2 ul2 ub2 ug2 uz2
            go_upto_region 18 with fail
            have e2 : w3.cell? ⟨bx, 2, none⟩ = some (.int .i64 (m : Int)) := d2
            have e11 : w3.cell? ⟨bx, 11, none⟩ = some (.int .i64 x.num) := rowNG HX3.out 11 _ rfl
            have e12 : w3.cell? ⟨bx, 12, none⟩ = some (.int .i64 x.den) := rowNG HX3.out 12 _ rfl
            have mc : w3.cell? ⟨bs, m, none⟩ = some (.int .i64 z) := (cell_of_row _ _ _ _ _ _ HM3.out).trans (i64v_get Hz.out)
            have mf : w3.frozen? ⟨bs, m, none⟩ = false := frozen_of_row _ _ _ _ _ HM3.out
            refine wp_region_noPanic ?_
            refine wp_region_held_drew (S := (fun c => c.cell? ⟨bx, 2, none⟩ = some (.int .i64 (m : Int)) ∧ c.cell? ⟨bx, 11, none⟩ = some (.int .i64 x.num) ∧ c.cell? ⟨bx, 12, none⟩ = some (.int .i64 x.den))) (by kernel_rfl) ⟨e2, e11, e12⟩ (fun hHeld => ?_)
            refine' wpAnyH_take (i := 0) (v := _) (by simp only [List.getElem?_toArray, List.getElem?_cons_zero]; exact rfl) (by kernel_rfl) (by kernel_rfl) (by kernel_rfl) (fun _ _ _ h => h) (Or.inl ⟨by rfl, ?y0x39⟩) hHeld ?r0x39
            case y0x39 => (intro w hSw; (try dsimp only at hSw); go_simp; try with_reducible rfl)
            try simp only [Act.put, List.setIfInBounds_toArray, List.set_cons_zero, List.set_cons_succ]
            refine' wpAnyH_take (i := 1) (v := _) (by simp only [List.getElem?_toArray, List.getElem?_cons_succ, List.getElem?_cons_zero]; exact rfl) (by kernel_rfl) (by kernel_rfl) (by kernel_rfl) (fun _ _ _ h => h) (Or.inl ⟨by rfl, ?y1x40⟩) hHeld ?r1x40
            case y1x40 => (intro w hSw; (try dsimp only at hSw); go_simp; try with_reducible rfl)
            try simp only [Act.put, List.setIfInBounds_toArray, List.set_cons_zero, List.set_cons_succ]
            refine' wpAnyH_take (i := 2) (v := _) (by simp only [List.getElem?_toArray, List.getElem?_cons_succ, List.getElem?_cons_zero]; exact rfl) (by kernel_rfl) (by kernel_rfl) (by kernel_rfl) (fun _ _ _ h => h) (Or.inl ⟨by rfl, ?y2x41⟩) hHeld ?r2x41
            case y2x41 => (intro w hSw; (try dsimp only at hSw); go_simp; try with_reducible rfl)
            try simp only [Act.put, List.setIfInBounds_toArray, List.set_cons_zero, List.set_cons_succ]
            refine' wpAnyH_take (i := 3) (v := _) (by simp only [List.getElem?_toArray, List.getElem?_cons_succ, List.getElem?_cons_zero]; exact rfl) (by kernel_rfl) (by kernel_rfl) (by kernel_rfl) (fun _ _ _ h => h) (Or.inl ⟨by rfl, ?y3x42⟩) hHeld ?r3x42
            case y3x42 => (intro w hSw; (try dsimp only at hSw); go_simp; try with_reducible rfl)
            try simp only [Act.put, List.setIfInBounds_toArray, List.set_cons_zero, List.set_cons_succ]
            refine' wpAnyH_take (i := 5) (v := _) (by simp only [List.getElem?_toArray, List.getElem?_cons_succ, List.getElem?_cons_zero]; exact rfl) (by kernel_rfl) (by kernel_rfl) (by kernel_rfl) (fun _ _ _ h => h) (Or.inl ⟨by rfl, ?y5x43⟩) hHeld ?r5x43
            case y5x43 => (intro w hSw; (try dsimp only at hSw); go_simp; try with_reducible rfl)
            try simp only [Act.put, List.setIfInBounds_toArray, List.set_cons_zero, List.set_cons_succ]
            refine' wpAnyH_take (i := 6) (v := _) (by simp only [List.getElem?_toArray, List.getElem?_cons_succ, List.getElem?_cons_zero]; exact rfl) (by kernel_rfl) (by kernel_rfl) (by kernel_rfl) (fun _ _ _ h => h) (Or.inl ⟨by rfl, ?y6x44⟩) hHeld ?r6x44
            case y6x44 => (intro w hSw; (try dsimp only at hSw); go_simp; try with_reducible rfl)
            try simp only [Act.put, List.setIfInBounds_toArray, List.set_cons_zero, List.set_cons_succ]
            refine' wpAnyH_take (i := 7) (v := _) (by simp only [List.getElem?_toArray, List.getElem?_cons_succ, List.getElem?_cons_zero]; exact rfl) (by kernel_rfl) (by kernel_rfl) (by kernel_rfl) (fun _ _ _ h => h) (Or.inl ⟨by rfl, ?y7x45⟩) hHeld ?r7x45
            case y7x45 => (intro w hSw; (try dsimp only at hSw); go_simp; try with_reducible rfl)
            try simp only [Act.put, List.setIfInBounds_toArray, List.set_cons_zero, List.set_cons_succ]
            refine' wpAnyH_take (i := 8) (v := _) (by simp only [List.getElem?_toArray, List.getElem?_cons_succ, List.getElem?_cons_zero]; exact rfl) (by kernel_rfl) (by kernel_rfl) (by kernel_rfl) (fun _ _ _ h => h) (Or.inl ⟨by rfl, ?y8x46⟩) hHeld ?r8x46
            case y8x46 => (intro w hSw; (try dsimp only at hSw); go_simp; try with_reducible rfl)
            try simp only [Act.put, List.setIfInBounds_toArray, List.set_cons_zero, List.set_cons_succ]
            refine wpAnyH_ready (rs := [4, 9]) (by kernel_rfl) (by simp) ?_
            refine (AllReadyH.cons (by simp only [List.getElem?_toArray, List.getElem?_cons_succ, List.getElem?_cons_zero]; exact rfl) (fun K hK => ?_) (AllReadyH.cons (by simp only [List.getElem?_toArray, List.getElem?_cons_succ, List.getElem?_cons_zero]; exact rfl) (fun K hK => ?_) AllReadyH.nil))
            · go_simp
              refine hK.out _ _ hHeld (fun hHeld => ?_)
              clear hK K
              try simp only [Act.put, List.setIfInBounds_toArray, List.set_cons_zero, List.set_cons_succ]
              refine wpAnyH_ready (rs := [9]) (by kernel_rfl) (by simp) ?_
              refine (AllReadyH.cons (by simp only [List.getElem?_toArray, List.getElem?_cons_succ, List.getElem?_cons_zero]; exact rfl) (fun K hK => ?_) AllReadyH.nil)
              go_simp
              refine (HSL.out _).mono ?_
              rintro e w4 ⟨rfl, mm, hw⟩
              have HR4 := Lib.hid (row_eq hw HR3.out)
              have HX4 := Lib.hid (row_eq hw HX3.out)
              have HM4 := Lib.hid (row_eq hw HM3.out)
              have HB4 : Hid (Below w.heap.size w w4) := Lib.hid (by rw [hw]; exact ⟨HB3.out.os, HB3.out.tape, HB3.out.output, HB3.out.size, HB3.out.block⟩)
              refine hK.out _ _ (by rw [hw]; exact hHeld) (fun hHeld => ?_)
              clear hK K hw
              try simp only [Act.put, List.setIfInBounds_toArray, List.set_cons_zero, List.set_cons_succ]
              have mc4 : w4.cell? ⟨bs, m, none⟩ = some (.int .i64 z) := (cell_of_row _ _ _ _ _ _ HM4.out).trans (i64v_get Hz.out)
              have mf4 : w4.frozen? ⟨bs, m, none⟩ = false := frozen_of_row _ _ _ _ _ HM4.out
              refine' wpAnyH_take (i := 10) (v := _) (by simp only [List.getElem?_toArray, List.getElem?_cons_succ, List.getElem?_cons_zero]; exact rfl) (by kernel_rfl) (by kernel_rfl) (by kernel_rfl) (fun _ _ _ h => h) (Or.inl ⟨by rfl, ?y10x47⟩) hHeld ?r10x47
              case y10x47 => (intro w hSw; (try dsimp only at hSw); go_simp; try with_reducible rfl)
              try simp only [Act.put, List.setIfInBounds_toArray, List.set_cons_zero, List.set_cons_succ]
              refine' wpAnyH_take (i := 11) (v := _) (by simp only [List.getElem?_toArray, List.getElem?_cons_succ, List.getElem?_cons_zero]; exact rfl) (by kernel_rfl) (by kernel_rfl) (by kernel_rfl) (fun _ _ _ h => h) (Or.inl ⟨by rfl, ?y11x48⟩) hHeld ?r11x48
              case y11x48 => (intro w hSw; (try dsimp only at hSw); go_simp; try with_reducible rfl)
              try simp only [Act.put, List.setIfInBounds_toArray, List.set_cons_zero, List.set_cons_succ]
              refine wpAnyH_ready (rs := [12]) (by kernel_rfl) (by simp) ?_
              refine (AllReadyH.cons (by simp only [List.getElem?_toArray, List.getElem?_cons_succ, List.getElem?_cons_zero]; exact rfl) (fun K hK => ?_) AllReadyH.nil)
              go_simp
              refine hK.out _ _ ⟨cell_other (hHeld.1) HNE.out.symm, cell_other (hHeld.2.1) HNE.out.symm, cell_other (hHeld.2.2) HNE.out.symm⟩ (fun hHeld => ?_)
              clear hK K
              try simp only [Act.put, List.setIfInBounds_toArray, List.set_cons_zero, List.set_cons_succ]
              refine wpAnyH_done (by kernel_rfl) ?_ _
              refine NoPanic.normal ?_
              have HM5 : Hid ((w4.setCell ⟨bs, m, none⟩ (.int .i64 (z + sl))).heap[bs]? = some (.cells (i64v us2) 3 (0, 0))) := Lib.hid ((heap_setCell_same _ _ _ _ _ _ HM4.out).trans (by rw [i64v_set, Hus2.out]))
              have HR5 := Lib.hid ((heap_setCell_other w4 ⟨bs, m, none⟩ w.heap.size (.int .i64 (z + sl)) HNB.out).trans HR4.out)
              have HX5 := Lib.hid ((heap_setCell_other w4 ⟨bs, m, none⟩ bx (.int .i64 (z + sl)) HNE.out.symm).trans HX4.out)
              have HB5 : Hid (Below w.heap.size w (w4.setCell ⟨bs, m, none⟩ (.int .i64 (z + sl)))) := Lib.hid (HB4.out.setCell HLE.out _)
              clear HM4 HR4 HX4 HB4 mc4 mf4 hHeld
              generalize w4.setCell ⟨bs, m, none⟩ (.int .i64 (z + sl)) = w5 at *
              go_wp2_with fail
              go_roundw
              case rel => exact ⟨k + 1, us2, by omega, by go_num, HUL.out, HUB.out.mono (by omega), lows_succ HX.out HLOW.out HUG.out HSX.out, HM5.out, HR5.out, HB5.out⟩
              case measure => simp [Go.RowKit.intOf]; omega
            · go_simp
              refine (HSL.out _).mono ?_
              rintro e w4 ⟨rfl, mm, hw⟩
              have HR4 := Lib.hid (row_eq hw HR3.out)
              have HX4 := Lib.hid (row_eq hw HX3.out)
              have HM4 := Lib.hid (row_eq hw HM3.out)
              have HB4 : Hid (Below w.heap.size w w4) := Lib.hid (by rw [hw]; exact ⟨HB3.out.os, HB3.out.tape, HB3.out.output, HB3.out.size, HB3.out.block⟩)
              refine hK.out _ _ (by rw [hw]; exact hHeld) (fun hHeld => ?_)
              clear hK K hw
              try simp only [Act.put, List.setIfInBounds_toArray, List.set_cons_zero, List.set_cons_succ]
              have mc4 : w4.cell? ⟨bs, m, none⟩ = some (.int .i64 z) := (cell_of_row _ _ _ _ _ _ HM4.out).trans (i64v_get Hz.out)
              have mf4 : w4.frozen? ⟨bs, m, none⟩ = false := frozen_of_row _ _ _ _ _ HM4.out
              refine wpAnyH_ready (rs := [4]) (by kernel_rfl) (by simp) ?_
              refine (AllReadyH.cons (by simp only [List.getElem?_toArray, List.getElem?_cons_succ, List.getElem?_cons_zero]; exact rfl) (fun K hK => ?_) AllReadyH.nil)
              go_simp
              refine hK.out _ _ hHeld (fun hHeld => ?_)
              clear hK K
              try simp only [Act.put, List.setIfInBounds_toArray, List.set_cons_zero, List.set_cons_succ]
              refine' wpAnyH_take (i := 10) (v := _) (by simp only [List.getElem?_toArray, List.getElem?_cons_succ, List.getElem?_cons_zero]; exact rfl) (by kernel_rfl) (by kernel_rfl) (by kernel_rfl) (fun _ _ _ h => h) (Or.inl ⟨by rfl, ?y10x49⟩) hHeld ?r10x49
              case y10x49 => (intro w hSw; (try dsimp only at hSw); go_simp; try with_reducible rfl)
              try simp only [Act.put, List.setIfInBounds_toArray, List.set_cons_zero, List.set_cons_succ]
              refine' wpAnyH_take (i := 11) (v := _) (by simp only [List.getElem?_toArray, List.getElem?_cons_succ, List.getElem?_cons_zero]; exact rfl) (by kernel_rfl) (by kernel_rfl) (by kernel_rfl) (fun _ _ _ h => h) (Or.inl ⟨by rfl, ?y11x50⟩) hHeld ?r11x50
              case y11x50 => (intro w hSw; (try dsimp only at hSw); go_simp; try with_reducible rfl)
              try simp only [Act.put, List.setIfInBounds_toArray, List.set_cons_zero, List.set_cons_succ]
              refine wpAnyH_ready (rs := [12]) (by kernel_rfl) (by simp) ?_
              refine (AllReadyH.cons (by simp only [List.getElem?_toArray, List.getElem?_cons_succ, List.getElem?_cons_zero]; exact rfl) (fun K hK => ?_) AllReadyH.nil)
              go_simp
              refine hK.out _ _ ⟨cell_other (hHeld.1) HNE.out.symm, cell_other (hHeld.2.1) HNE.out.symm, cell_other (hHeld.2.2) HNE.out.symm⟩ (fun hHeld => ?_)
              clear hK K
              try simp only [Act.put, List.setIfInBounds_toArray, List.set_cons_zero, List.set_cons_succ]
              refine wpAnyH_done (by kernel_rfl) ?_ _
              refine NoPanic.normal ?_
              have HM5 : Hid ((w4.setCell ⟨bs, m, none⟩ (.int .i64 (z + sl))).heap[bs]? = some (.cells (i64v us2) 3 (0, 0))) := Lib.hid ((heap_setCell_same _ _ _ _ _ _ HM4.out).trans (by rw [i64v_set, Hus2.out]))
              have HR5 := Lib.hid ((heap_setCell_other w4 ⟨bs, m, none⟩ w.heap.size (.int .i64 (z + sl)) HNB.out).trans HR4.out)
              have HX5 := Lib.hid ((heap_setCell_other w4 ⟨bs, m, none⟩ bx (.int .i64 (z + sl)) HNE.out.symm).trans HX4.out)
              have HB5 : Hid (Below w.heap.size w (w4.setCell ⟨bs, m, none⟩ (.int .i64 (z + sl)))) := Lib.hid (HB4.out.setCell HLE.out _)
              clear HM4 HR4 HX4 HB4 mc4 mf4 hHeld
              generalize w4.setCell ⟨bs, m, none⟩ (.int .i64 (z + sl)) = w5 at *
              go_wp2_with fail
              go_roundw
              case rel => exact ⟨k + 1, us2, by omega, by go_num, HUL.out, HUB.out.mono (by omega), lows_succ HX.out HLOW.out HUG.out HSX.out, HM5.out, HR5.out, HB5.out⟩
              case measure => simp [Go.RowKit.intOf]; omega
          · obtain ⟨⟨f1, f2⟩, ⟨f3', f4⟩, ⟨g1, g2, g3, g4, -⟩, hd1⟩ := HF.out.2.2.2.2 hk
            have f3 : 0 ≤ x.den := by omega
            have HK4 : Hid (x.kind = 4) := Lib.hid hk
            have HK0 : Hid (x.kind ≠ 0) := Lib.hid (by omega)
            have kc0 : (x.kind == 0) = false := by rw [hk]; rfl
            have kc1 : (x.kind == 1) = false := by rw [hk]; rfl
            have kc5 : (x.kind == 5) = false := by rw [hk]; rfl
            have kc3 : (x.kind == 3) = false := by rw [hk]; rfl
            have kc4 : (x.kind == 4) = true := by rw [hk]; rfl
            clear hk
            have HSB := Lib.hid (slope_ok (n := x.num) (d := x.den) f1 f3).2.1
            have HSA := Lib.hid (slope_ok (n := x.num) (d := x.den) f1 f3).1
            have HSL : Hid (∀ W, Calls Tryz.prog 68 #[.int .i64 x.num, .int .i64 x.den] W fun e w' => e = .returned (.int .i64 (slopeN x.num x.den)) ∧ ∃ m, w' = W.drewN m) := Lib.hid fun W => slope_any _ _ W ⟨f1, f2⟩ ⟨f3, f4⟩
            obtain ⟨sl, hsl⟩ : ∃ s, s = slopeN x.num x.den := ⟨_, rfl⟩
            rw [← hsl] at HSB HSA HSL
            have HSQ := Lib.hid hsl
            clear hsl
            have hsa := HSA.out
            have hsb := HSB.out
            have F1 : IntKind.i64.wrap (2 * sl) = 2 * sl := IntWalk.i64_in _ (by omega)
            have F2 : IntKind.i64.wrap (z + 2 * sl) = z + 2 * sl := IntWalk.i64_in _ (by omega)
            obtain ⟨us2, hus2, ul2, ub2, ug2, uz2⟩ := upd (C := 2199023255554) HZ.out HVL.out HVB.out (show 0 ≤ 2 * sl by omega) (by omega)
            have Hus2 := Lib.hid hus2
            have HUL := Lib.hid ul2
            have HUB := Lib.hid ub2
            have HUG := Lib.hid ug2
            clear hus2 ul2 ub2 ug2 uz2
            obtain ⟨m2, hm2⟩ : ∃ m2 : Nat, x.dst = m2 := ⟨x.dst.toNat, by have := HD.out; omega⟩
            have hmv2 : m2 < b.places.length := by have := HD.out; omega
            obtain ⟨y, hy⟩ : ∃ y, us2[m2]? = some y := ⟨_, List.getElem?_eq_getElem (by rw [HUL.out]; exact hmv2)⟩
            have hyb := HUB.out y (List.mem_of_getElem? hy)
            have Hy := Lib.hid hy
            have HM2 := Lib.hid hm2
            clear hy hm2
            go_upto_region 20 with fail
            have e2 : w3.cell? ⟨bx, 2, none⟩ = some (.int .i64 (m : Int)) := d2
            have e11 : w3.cell? ⟨bx, 11, none⟩ = some (.int .i64 x.num) := rowNG HX3.out 11 _ rfl
            have e12 : w3.cell? ⟨bx, 12, none⟩ = some (.int .i64 x.den) := rowNG HX3.out 12 _ rfl
            have mc : w3.cell? ⟨bs, m, none⟩ = some (.int .i64 z) := (cell_of_row _ _ _ _ _ _ HM3.out).trans (i64v_get Hz.out)
            have mf : w3.frozen? ⟨bs, m, none⟩ = false := frozen_of_row _ _ _ _ _ HM3.out
            refine wp_region_noPanic ?_
            refine wp_region_held_drew (S := (fun c => c.cell? ⟨bx, 2, none⟩ = some (.int .i64 (m : Int)) ∧ c.cell? ⟨bx, 11, none⟩ = some (.int .i64 x.num) ∧ c.cell? ⟨bx, 12, none⟩ = some (.int .i64 x.den))) (by kernel_rfl) ⟨e2, e11, e12⟩ (fun hHeld => ?_)
            refine' wpAnyH_take (i := 0) (v := _) (by simp only [List.getElem?_toArray, List.getElem?_cons_zero]; exact rfl) (by kernel_rfl) (by kernel_rfl) (by kernel_rfl) (fun _ _ _ h => h) (Or.inl ⟨by rfl, ?y0x51⟩) hHeld ?r0x51
            case y0x51 => (intro w hSw; (try dsimp only at hSw); go_simp; try with_reducible rfl)
            try simp only [Act.put, List.setIfInBounds_toArray, List.set_cons_zero, List.set_cons_succ]
            refine' wpAnyH_take (i := 1) (v := _) (by simp only [List.getElem?_toArray, List.getElem?_cons_succ, List.getElem?_cons_zero]; exact rfl) (by kernel_rfl) (by kernel_rfl) (by kernel_rfl) (fun _ _ _ h => h) (Or.inl ⟨by rfl, ?y1x52⟩) hHeld ?r1x52
            case y1x52 => (intro w hSw; (try dsimp only at hSw); go_simp; try with_reducible rfl)
            try simp only [Act.put, List.setIfInBounds_toArray, List.set_cons_zero, List.set_cons_succ]
            refine' wpAnyH_take (i := 2) (v := _) (by simp only [List.getElem?_toArray, List.getElem?_cons_succ, List.getElem?_cons_zero]; exact rfl) (by kernel_rfl) (by kernel_rfl) (by kernel_rfl) (fun _ _ _ h => h) (Or.inl ⟨by rfl, ?y2x53⟩) hHeld ?r2x53
            case y2x53 => (intro w hSw; (try dsimp only at hSw); go_simp; try with_reducible rfl)
            try simp only [Act.put, List.setIfInBounds_toArray, List.set_cons_zero, List.set_cons_succ]
            refine' wpAnyH_take (i := 3) (v := _) (by simp only [List.getElem?_toArray, List.getElem?_cons_succ, List.getElem?_cons_zero]; exact rfl) (by kernel_rfl) (by kernel_rfl) (by kernel_rfl) (fun _ _ _ h => h) (Or.inl ⟨by rfl, ?y3x54⟩) hHeld ?r3x54
            case y3x54 => (intro w hSw; (try dsimp only at hSw); go_simp; try with_reducible rfl)
            try simp only [Act.put, List.setIfInBounds_toArray, List.set_cons_zero, List.set_cons_succ]
            refine' wpAnyH_take (i := 5) (v := _) (by simp only [List.getElem?_toArray, List.getElem?_cons_succ, List.getElem?_cons_zero]; exact rfl) (by kernel_rfl) (by kernel_rfl) (by kernel_rfl) (fun _ _ _ h => h) (Or.inl ⟨by rfl, ?y5x55⟩) hHeld ?r5x55
            case y5x55 => (intro w hSw; (try dsimp only at hSw); go_simp; try with_reducible rfl)
            try simp only [Act.put, List.setIfInBounds_toArray, List.set_cons_zero, List.set_cons_succ]
            refine' wpAnyH_take (i := 6) (v := _) (by simp only [List.getElem?_toArray, List.getElem?_cons_succ, List.getElem?_cons_zero]; exact rfl) (by kernel_rfl) (by kernel_rfl) (by kernel_rfl) (fun _ _ _ h => h) (Or.inl ⟨by rfl, ?y6x56⟩) hHeld ?r6x56
            case y6x56 => (intro w hSw; (try dsimp only at hSw); go_simp; try with_reducible rfl)
            try simp only [Act.put, List.setIfInBounds_toArray, List.set_cons_zero, List.set_cons_succ]
            refine' wpAnyH_take (i := 7) (v := _) (by simp only [List.getElem?_toArray, List.getElem?_cons_succ, List.getElem?_cons_zero]; exact rfl) (by kernel_rfl) (by kernel_rfl) (by kernel_rfl) (fun _ _ _ h => h) (Or.inl ⟨by rfl, ?y7x57⟩) hHeld ?r7x57
            case y7x57 => (intro w hSw; (try dsimp only at hSw); go_simp; try with_reducible rfl)
            try simp only [Act.put, List.setIfInBounds_toArray, List.set_cons_zero, List.set_cons_succ]
            refine' wpAnyH_take (i := 8) (v := _) (by simp only [List.getElem?_toArray, List.getElem?_cons_succ, List.getElem?_cons_zero]; exact rfl) (by kernel_rfl) (by kernel_rfl) (by kernel_rfl) (fun _ _ _ h => h) (Or.inl ⟨by rfl, ?y8x58⟩) hHeld ?r8x58
            case y8x58 => (intro w hSw; (try dsimp only at hSw); go_simp; try with_reducible rfl)
            try simp only [Act.put, List.setIfInBounds_toArray, List.set_cons_zero, List.set_cons_succ]
            refine wpAnyH_ready (rs := [4, 9]) (by kernel_rfl) (by simp) ?_
            refine (AllReadyH.cons (by simp only [List.getElem?_toArray, List.getElem?_cons_succ, List.getElem?_cons_zero]; exact rfl) (fun K hK => ?_) (AllReadyH.cons (by simp only [List.getElem?_toArray, List.getElem?_cons_succ, List.getElem?_cons_zero]; exact rfl) (fun K hK => ?_) AllReadyH.nil))
            · go_simp
              refine hK.out _ _ hHeld (fun hHeld => ?_)
              clear hK K
              try simp only [Act.put, List.setIfInBounds_toArray, List.set_cons_zero, List.set_cons_succ]
              refine wpAnyH_ready (rs := [9]) (by kernel_rfl) (by simp) ?_
              refine (AllReadyH.cons (by simp only [List.getElem?_toArray, List.getElem?_cons_succ, List.getElem?_cons_zero]; exact rfl) (fun K hK => ?_) AllReadyH.nil)
              go_simp
              refine (HSL.out _).mono ?_
              rintro e w4 ⟨rfl, mm, hw⟩
              have HR4 := Lib.hid (row_eq hw HR3.out)
              have HX4 := Lib.hid (row_eq hw HX3.out)
              have HM4 := Lib.hid (row_eq hw HM3.out)
              have HB4 : Hid (Below w.heap.size w w4) := Lib.hid (by rw [hw]; exact ⟨HB3.out.os, HB3.out.tape, HB3.out.output, HB3.out.size, HB3.out.block⟩)
              refine hK.out _ _ (by rw [hw]; exact hHeld) (fun hHeld => ?_)
              clear hK K hw
              try simp only [Act.put, List.setIfInBounds_toArray, List.set_cons_zero, List.set_cons_succ]
              have mc4 : w4.cell? ⟨bs, m, none⟩ = some (.int .i64 z) := (cell_of_row _ _ _ _ _ _ HM4.out).trans (i64v_get Hz.out)
              have mf4 : w4.frozen? ⟨bs, m, none⟩ = false := frozen_of_row _ _ _ _ _ HM4.out
              refine' wpAnyH_take (i := 10) (v := _) (by simp only [List.getElem?_toArray, List.getElem?_cons_succ, List.getElem?_cons_zero]; exact rfl) (by kernel_rfl) (by kernel_rfl) (by kernel_rfl) (fun _ _ _ h => h) (Or.inl ⟨by rfl, ?y10x59⟩) hHeld ?r10x59
              case y10x59 => (intro w hSw; (try dsimp only at hSw); go_simp; try with_reducible rfl)
              try simp only [Act.put, List.setIfInBounds_toArray, List.set_cons_zero, List.set_cons_succ]
              refine' wpAnyH_take (i := 11) (v := _) (by simp only [List.getElem?_toArray, List.getElem?_cons_succ, List.getElem?_cons_zero]; exact rfl) (by kernel_rfl) (by kernel_rfl) (by kernel_rfl) (fun _ _ _ h => h) (Or.inl ⟨by rfl, ?y11x60⟩) hHeld ?r11x60
              case y11x60 => (intro w hSw; (try dsimp only at hSw); go_simp; try with_reducible rfl)
              try simp only [Act.put, List.setIfInBounds_toArray, List.set_cons_zero, List.set_cons_succ]
              refine' wpAnyH_take (i := 12) (v := _) (by simp only [List.getElem?_toArray, List.getElem?_cons_succ, List.getElem?_cons_zero]; exact rfl) (by kernel_rfl) (by kernel_rfl) (by kernel_rfl) (fun _ _ _ h => h) (Or.inl ⟨by rfl, ?y12x61⟩) hHeld ?r12x61
              case y12x61 => (intro w hSw; (try dsimp only at hSw); go_simp; try with_reducible rfl)
              try simp only [Act.put, List.setIfInBounds_toArray, List.set_cons_zero, List.set_cons_succ]
              refine wpAnyH_ready (rs := [13]) (by kernel_rfl) (by simp) ?_
              refine (AllReadyH.cons (by simp only [List.getElem?_toArray, List.getElem?_cons_succ, List.getElem?_cons_zero]; exact rfl) (fun K hK => ?_) AllReadyH.nil)
              go_simp
              refine hK.out _ _ ⟨cell_other (hHeld.1) HNE.out.symm, cell_other (hHeld.2.1) HNE.out.symm, cell_other (hHeld.2.2) HNE.out.symm⟩ (fun hHeld => ?_)
              clear hK K
              try simp only [Act.put, List.setIfInBounds_toArray, List.set_cons_zero, List.set_cons_succ]
              refine wpAnyH_done (by kernel_rfl) ?_ _
              refine NoPanic.normal ?_
              have HM5 : Hid ((w4.setCell ⟨bs, m, none⟩ (.int .i64 (z + 2 * sl))).heap[bs]? = some (.cells (i64v us2) 3 (0, 0))) := Lib.hid ((heap_setCell_same _ _ _ _ _ _ HM4.out).trans (by rw [i64v_set, Hus2.out]))
              have HR5 := Lib.hid ((heap_setCell_other w4 ⟨bs, m, none⟩ w.heap.size (.int .i64 (z + 2 * sl)) HNB.out).trans HR4.out)
              have HX5 := Lib.hid ((heap_setCell_other w4 ⟨bs, m, none⟩ bx (.int .i64 (z + 2 * sl)) HNE.out.symm).trans HX4.out)
              have HB5 : Hid (Below w.heap.size w (w4.setCell ⟨bs, m, none⟩ (.int .i64 (z + 2 * sl)))) := Lib.hid (HB4.out.setCell HLE.out _)
              clear HM4 HR4 HX4 HB4 mc4 mf4 hHeld
              generalize w4.setCell ⟨bs, m, none⟩ (.int .i64 (z + 2 * sl)) = w5 at *
              clear e2 e11 e12 mc mf HSL HSQ HSA HSB F1 F2 hsa hsb hzb d2 d1
              have HSB := Lib.hid (slope_ok (n := x.backNum) (d := x.backDen) g1 g3).2.1
              have HSA := Lib.hid (slope_ok (n := x.backNum) (d := x.backDen) g1 g3).1
              have HSL : Hid (∀ W, Calls Tryz.prog 68 #[.int .i64 x.backNum, .int .i64 x.backDen] W fun e w' => e = .returned (.int .i64 (slopeN x.backNum x.backDen)) ∧ ∃ m, w' = W.drewN m) := Lib.hid fun W => slope_any _ _ W ⟨g1, g2⟩ ⟨g3, g4⟩
              obtain ⟨sm, hsm⟩ : ∃ s, s = slopeN x.backNum x.backDen := ⟨_, rfl⟩
              rw [← hsm] at HSB HSA HSL
              have HSQ := Lib.hid hsm
              clear hsm
              have hsa := HSA.out
              have hsb := HSB.out
              have F1 : IntKind.i64.wrap (2 * sm) = 2 * sm := IntWalk.i64_in _ (by omega)
              have F2 : IntKind.i64.wrap (y + 2 * sm) = y + 2 * sm := IntWalk.i64_in _ (by omega)
              obtain ⟨us22, hus22, ul2, ub2, ug2, uz2⟩ := upd (C := 2199023255554) Hy.out HUL.out HUB.out (show 0 ≤ 2 * sm by omega) (by omega)
              have Hus22 := Lib.hid hus22
              have HUL2 := Lib.hid ul2
              have HUB2 := Lib.hid ub2
              have HUG2 := Lib.hid (HUG.out.trans ug2)
              have HSX : Hid (SlopeLow x us22) := Lib.hid ⟨fun h => absurd h HK0.out, fun h => by have := HK4.out; omega⟩
              clear hus22 ul2 ub2 ug2 uz2
              go_upto_region 21 with fail
              have e3 : w5.cell? ⟨bx, 3, none⟩ = some (.int .i64 (m2 : Int)) := HM2.out ▸ rowNG HX5.out 3 (.int .i64 x.dst) rfl
              have e15 : w5.cell? ⟨bx, 15, none⟩ = some (.int .i64 x.backNum) := rowNG HX5.out 15 _ rfl
              have e16 : w5.cell? ⟨bx, 16, none⟩ = some (.int .i64 x.backDen) := rowNG HX5.out 16 _ rfl
              have mc : w5.cell? ⟨bs, m2, none⟩ = some (.int .i64 y) := (cell_of_row _ _ _ _ _ _ HM5.out).trans (i64v_get Hy.out)
              have mf : w5.frozen? ⟨bs, m2, none⟩ = false := frozen_of_row _ _ _ _ _ HM5.out
              refine wp_region_noPanic ?_
              refine wp_region_held_drew (S := (fun c => c.cell? ⟨bx, 3, none⟩ = some (.int .i64 (m2 : Int)) ∧ c.cell? ⟨bx, 15, none⟩ = some (.int .i64 x.backNum) ∧ c.cell? ⟨bx, 16, none⟩ = some (.int .i64 x.backDen))) (by kernel_rfl) ⟨e3, e15, e16⟩ (fun hHeld => ?_)
              refine' wpAnyH_take (i := 0) (v := _) (by simp only [List.getElem?_toArray, List.getElem?_cons_zero]; exact rfl) (by kernel_rfl) (by kernel_rfl) (by kernel_rfl) (fun _ _ _ h => h) (Or.inl ⟨by rfl, ?y0x65⟩) hHeld ?r0x65
              case y0x65 => (intro w hSw; (try dsimp only at hSw); go_simp; try with_reducible rfl)
              try simp only [Act.put, List.setIfInBounds_toArray, List.set_cons_zero, List.set_cons_succ]
              refine' wpAnyH_take (i := 1) (v := _) (by simp only [List.getElem?_toArray, List.getElem?_cons_succ, List.getElem?_cons_zero]; exact rfl) (by kernel_rfl) (by kernel_rfl) (by kernel_rfl) (fun _ _ _ h => h) (Or.inl ⟨by rfl, ?y1x66⟩) hHeld ?r1x66
              case y1x66 => (intro w hSw; (try dsimp only at hSw); go_simp; try with_reducible rfl)
              try simp only [Act.put, List.setIfInBounds_toArray, List.set_cons_zero, List.set_cons_succ]
              refine' wpAnyH_take (i := 2) (v := _) (by simp only [List.getElem?_toArray, List.getElem?_cons_succ, List.getElem?_cons_zero]; exact rfl) (by kernel_rfl) (by kernel_rfl) (by kernel_rfl) (fun _ _ _ h => h) (Or.inl ⟨by rfl, ?y2x67⟩) hHeld ?r2x67
              case y2x67 => (intro w hSw; (try dsimp only at hSw); go_simp; try with_reducible rfl)
              try simp only [Act.put, List.setIfInBounds_toArray, List.set_cons_zero, List.set_cons_succ]
              refine' wpAnyH_take (i := 3) (v := _) (by simp only [List.getElem?_toArray, List.getElem?_cons_succ, List.getElem?_cons_zero]; exact rfl) (by kernel_rfl) (by kernel_rfl) (by kernel_rfl) (fun _ _ _ h => h) (Or.inl ⟨by rfl, ?y3x68⟩) hHeld ?r3x68
              case y3x68 => (intro w hSw; (try dsimp only at hSw); go_simp; try with_reducible rfl)
              try simp only [Act.put, List.setIfInBounds_toArray, List.set_cons_zero, List.set_cons_succ]
              refine' wpAnyH_take (i := 5) (v := _) (by simp only [List.getElem?_toArray, List.getElem?_cons_succ, List.getElem?_cons_zero]; exact rfl) (by kernel_rfl) (by kernel_rfl) (by kernel_rfl) (fun _ _ _ h => h) (Or.inl ⟨by rfl, ?y5x69⟩) hHeld ?r5x69
              case y5x69 => (intro w hSw; (try dsimp only at hSw); go_simp; try with_reducible rfl)
              try simp only [Act.put, List.setIfInBounds_toArray, List.set_cons_zero, List.set_cons_succ]
              refine' wpAnyH_take (i := 6) (v := _) (by simp only [List.getElem?_toArray, List.getElem?_cons_succ, List.getElem?_cons_zero]; exact rfl) (by kernel_rfl) (by kernel_rfl) (by kernel_rfl) (fun _ _ _ h => h) (Or.inl ⟨by rfl, ?y6x70⟩) hHeld ?r6x70
              case y6x70 => (intro w hSw; (try dsimp only at hSw); go_simp; try with_reducible rfl)
              try simp only [Act.put, List.setIfInBounds_toArray, List.set_cons_zero, List.set_cons_succ]
              refine' wpAnyH_take (i := 7) (v := _) (by simp only [List.getElem?_toArray, List.getElem?_cons_succ, List.getElem?_cons_zero]; exact rfl) (by kernel_rfl) (by kernel_rfl) (by kernel_rfl) (fun _ _ _ h => h) (Or.inl ⟨by rfl, ?y7x71⟩) hHeld ?r7x71
              case y7x71 => (intro w hSw; (try dsimp only at hSw); go_simp; try with_reducible rfl)
              try simp only [Act.put, List.setIfInBounds_toArray, List.set_cons_zero, List.set_cons_succ]
              refine' wpAnyH_take (i := 8) (v := _) (by simp only [List.getElem?_toArray, List.getElem?_cons_succ, List.getElem?_cons_zero]; exact rfl) (by kernel_rfl) (by kernel_rfl) (by kernel_rfl) (fun _ _ _ h => h) (Or.inl ⟨by rfl, ?y8x72⟩) hHeld ?r8x72
              case y8x72 => (intro w hSw; (try dsimp only at hSw); go_simp; try with_reducible rfl)
              try simp only [Act.put, List.setIfInBounds_toArray, List.set_cons_zero, List.set_cons_succ]
              refine wpAnyH_ready (rs := [4, 9]) (by kernel_rfl) (by simp) ?_
              refine (AllReadyH.cons (by simp only [List.getElem?_toArray, List.getElem?_cons_succ, List.getElem?_cons_zero]; exact rfl) (fun K hK => ?_) (AllReadyH.cons (by simp only [List.getElem?_toArray, List.getElem?_cons_succ, List.getElem?_cons_zero]; exact rfl) (fun K hK => ?_) AllReadyH.nil))
              · go_simp
                refine hK.out _ _ hHeld (fun hHeld => ?_)
                clear hK K
                try simp only [Act.put, List.setIfInBounds_toArray, List.set_cons_zero, List.set_cons_succ]
                refine wpAnyH_ready (rs := [9]) (by kernel_rfl) (by simp) ?_
                refine (AllReadyH.cons (by simp only [List.getElem?_toArray, List.getElem?_cons_succ, List.getElem?_cons_zero]; exact rfl) (fun K hK => ?_) AllReadyH.nil)
                go_simp
                refine (HSL.out _).mono ?_
                rintro e w6 ⟨rfl, mm, hw⟩
                have HR6 := Lib.hid (row_eq hw HR5.out)
                have HX6 := Lib.hid (row_eq hw HX5.out)
                have HM6 := Lib.hid (row_eq hw HM5.out)
                have HB6 : Hid (Below w.heap.size w w6) := Lib.hid (by rw [hw]; exact ⟨HB5.out.os, HB5.out.tape, HB5.out.output, HB5.out.size, HB5.out.block⟩)
                refine hK.out _ _ (by rw [hw]; exact hHeld) (fun hHeld => ?_)
                clear hK K hw
                try simp only [Act.put, List.setIfInBounds_toArray, List.set_cons_zero, List.set_cons_succ]
                have mc6 : w6.cell? ⟨bs, m2, none⟩ = some (.int .i64 y) := (cell_of_row _ _ _ _ _ _ HM6.out).trans (i64v_get Hy.out)
                have mf6 : w6.frozen? ⟨bs, m2, none⟩ = false := frozen_of_row _ _ _ _ _ HM6.out
                refine' wpAnyH_take (i := 10) (v := _) (by simp only [List.getElem?_toArray, List.getElem?_cons_succ, List.getElem?_cons_zero]; exact rfl) (by kernel_rfl) (by kernel_rfl) (by kernel_rfl) (fun _ _ _ h => h) (Or.inl ⟨by rfl, ?y10x73⟩) hHeld ?r10x73
                case y10x73 => (intro w hSw; (try dsimp only at hSw); go_simp; try with_reducible rfl)
                try simp only [Act.put, List.setIfInBounds_toArray, List.set_cons_zero, List.set_cons_succ]
                refine' wpAnyH_take (i := 11) (v := _) (by simp only [List.getElem?_toArray, List.getElem?_cons_succ, List.getElem?_cons_zero]; exact rfl) (by kernel_rfl) (by kernel_rfl) (by kernel_rfl) (fun _ _ _ h => h) (Or.inl ⟨by rfl, ?y11x74⟩) hHeld ?r11x74
                case y11x74 => (intro w hSw; (try dsimp only at hSw); go_simp; try with_reducible rfl)
                try simp only [Act.put, List.setIfInBounds_toArray, List.set_cons_zero, List.set_cons_succ]
                refine' wpAnyH_take (i := 12) (v := _) (by simp only [List.getElem?_toArray, List.getElem?_cons_succ, List.getElem?_cons_zero]; exact rfl) (by kernel_rfl) (by kernel_rfl) (by kernel_rfl) (fun _ _ _ h => h) (Or.inl ⟨by rfl, ?y12x75⟩) hHeld ?r12x75
                case y12x75 => (intro w hSw; (try dsimp only at hSw); go_simp; try with_reducible rfl)
                try simp only [Act.put, List.setIfInBounds_toArray, List.set_cons_zero, List.set_cons_succ]
                refine wpAnyH_ready (rs := [13]) (by kernel_rfl) (by simp) ?_
                refine (AllReadyH.cons (by simp only [List.getElem?_toArray, List.getElem?_cons_succ, List.getElem?_cons_zero]; exact rfl) (fun K hK => ?_) AllReadyH.nil)
                go_simp
                refine hK.out _ _ ⟨cell_other (hHeld.1) HNE.out.symm, cell_other (hHeld.2.1) HNE.out.symm, cell_other (hHeld.2.2) HNE.out.symm⟩ (fun hHeld => ?_)
                clear hK K
                try simp only [Act.put, List.setIfInBounds_toArray, List.set_cons_zero, List.set_cons_succ]
                refine wpAnyH_done (by kernel_rfl) ?_ _
                refine NoPanic.normal ?_
                have HM7 : Hid ((w6.setCell ⟨bs, m2, none⟩ (.int .i64 (y + 2 * sm))).heap[bs]? = some (.cells (i64v us22) 3 (0, 0))) := Lib.hid ((heap_setCell_same _ _ _ _ _ _ HM6.out).trans (by rw [i64v_set, Hus22.out]))
                have HR7 := Lib.hid ((heap_setCell_other w6 ⟨bs, m2, none⟩ w.heap.size (.int .i64 (y + 2 * sm)) HNB.out).trans HR6.out)
                have HX7 := Lib.hid ((heap_setCell_other w6 ⟨bs, m2, none⟩ bx (.int .i64 (y + 2 * sm)) HNE.out.symm).trans HX6.out)
                have HB7 : Hid (Below w.heap.size w (w6.setCell ⟨bs, m2, none⟩ (.int .i64 (y + 2 * sm)))) := Lib.hid (HB6.out.setCell HLE.out _)
                clear HM6 HR6 HX6 HB6 mc6 mf6 hHeld
                generalize w6.setCell ⟨bs, m2, none⟩ (.int .i64 (y + 2 * sm)) = w7 at *
                go_wp2_with fail
                go_roundw
                case rel => exact ⟨k + 1, us22, by omega, by go_num, HUL2.out, HUB2.out.mono (by omega), lows_succ HX.out HLOW.out HUG2.out HSX.out, HM7.out, HR7.out, HB7.out⟩
                case measure => simp [Go.RowKit.intOf]; omega
              · go_simp
                refine (HSL.out _).mono ?_
                rintro e w6 ⟨rfl, mm, hw⟩
                have HR6 := Lib.hid (row_eq hw HR5.out)
                have HX6 := Lib.hid (row_eq hw HX5.out)
                have HM6 := Lib.hid (row_eq hw HM5.out)
                have HB6 : Hid (Below w.heap.size w w6) := Lib.hid (by rw [hw]; exact ⟨HB5.out.os, HB5.out.tape, HB5.out.output, HB5.out.size, HB5.out.block⟩)
                refine hK.out _ _ (by rw [hw]; exact hHeld) (fun hHeld => ?_)
                clear hK K hw
                try simp only [Act.put, List.setIfInBounds_toArray, List.set_cons_zero, List.set_cons_succ]
                have mc6 : w6.cell? ⟨bs, m2, none⟩ = some (.int .i64 y) := (cell_of_row _ _ _ _ _ _ HM6.out).trans (i64v_get Hy.out)
                have mf6 : w6.frozen? ⟨bs, m2, none⟩ = false := frozen_of_row _ _ _ _ _ HM6.out
                refine' wpAnyH_take (i := 10) (v := _) (by simp only [List.getElem?_toArray, List.getElem?_cons_succ, List.getElem?_cons_zero]; exact rfl) (by kernel_rfl) (by kernel_rfl) (by kernel_rfl) (fun _ _ _ h => h) (Or.inl ⟨by rfl, ?y10x76⟩) hHeld ?r10x76
                case y10x76 => (intro w hSw; (try dsimp only at hSw); go_simp; try with_reducible rfl)
                try simp only [Act.put, List.setIfInBounds_toArray, List.set_cons_zero, List.set_cons_succ]
                refine wpAnyH_ready (rs := [4]) (by kernel_rfl) (by simp) ?_
                refine (AllReadyH.cons (by simp only [List.getElem?_toArray, List.getElem?_cons_succ, List.getElem?_cons_zero]; exact rfl) (fun K hK => ?_) AllReadyH.nil)
                go_simp
                refine hK.out _ _ hHeld (fun hHeld => ?_)
                clear hK K
                try simp only [Act.put, List.setIfInBounds_toArray, List.set_cons_zero, List.set_cons_succ]
                refine' wpAnyH_take (i := 11) (v := _) (by simp only [List.getElem?_toArray, List.getElem?_cons_succ, List.getElem?_cons_zero]; exact rfl) (by kernel_rfl) (by kernel_rfl) (by kernel_rfl) (fun _ _ _ h => h) (Or.inl ⟨by rfl, ?y11x77⟩) hHeld ?r11x77
                case y11x77 => (intro w hSw; (try dsimp only at hSw); go_simp; try with_reducible rfl)
                try simp only [Act.put, List.setIfInBounds_toArray, List.set_cons_zero, List.set_cons_succ]
                refine' wpAnyH_take (i := 12) (v := _) (by simp only [List.getElem?_toArray, List.getElem?_cons_succ, List.getElem?_cons_zero]; exact rfl) (by kernel_rfl) (by kernel_rfl) (by kernel_rfl) (fun _ _ _ h => h) (Or.inl ⟨by rfl, ?y12x78⟩) hHeld ?r12x78
                case y12x78 => (intro w hSw; (try dsimp only at hSw); go_simp; try with_reducible rfl)
                try simp only [Act.put, List.setIfInBounds_toArray, List.set_cons_zero, List.set_cons_succ]
                refine wpAnyH_ready (rs := [13]) (by kernel_rfl) (by simp) ?_
                refine (AllReadyH.cons (by simp only [List.getElem?_toArray, List.getElem?_cons_succ, List.getElem?_cons_zero]; exact rfl) (fun K hK => ?_) AllReadyH.nil)
                go_simp
                refine hK.out _ _ ⟨cell_other (hHeld.1) HNE.out.symm, cell_other (hHeld.2.1) HNE.out.symm, cell_other (hHeld.2.2) HNE.out.symm⟩ (fun hHeld => ?_)
                clear hK K
                try simp only [Act.put, List.setIfInBounds_toArray, List.set_cons_zero, List.set_cons_succ]
                refine wpAnyH_done (by kernel_rfl) ?_ _
                refine NoPanic.normal ?_
                have HM7 : Hid ((w6.setCell ⟨bs, m2, none⟩ (.int .i64 (y + 2 * sm))).heap[bs]? = some (.cells (i64v us22) 3 (0, 0))) := Lib.hid ((heap_setCell_same _ _ _ _ _ _ HM6.out).trans (by rw [i64v_set, Hus22.out]))
                have HR7 := Lib.hid ((heap_setCell_other w6 ⟨bs, m2, none⟩ w.heap.size (.int .i64 (y + 2 * sm)) HNB.out).trans HR6.out)
                have HX7 := Lib.hid ((heap_setCell_other w6 ⟨bs, m2, none⟩ bx (.int .i64 (y + 2 * sm)) HNE.out.symm).trans HX6.out)
                have HB7 : Hid (Below w.heap.size w (w6.setCell ⟨bs, m2, none⟩ (.int .i64 (y + 2 * sm)))) := Lib.hid (HB6.out.setCell HLE.out _)
                clear HM6 HR6 HX6 HB6 mc6 mf6 hHeld
                generalize w6.setCell ⟨bs, m2, none⟩ (.int .i64 (y + 2 * sm)) = w7 at *
                go_wp2_with fail
                go_roundw
                case rel => exact ⟨k + 1, us22, by omega, by go_num, HUL2.out, HUB2.out.mono (by omega), lows_succ HX.out HLOW.out HUG2.out HSX.out, HM7.out, HR7.out, HB7.out⟩
                case measure => simp [Go.RowKit.intOf]; omega
            · go_simp
              refine (HSL.out _).mono ?_
              rintro e w4 ⟨rfl, mm, hw⟩
              have HR4 := Lib.hid (row_eq hw HR3.out)
              have HX4 := Lib.hid (row_eq hw HX3.out)
              have HM4 := Lib.hid (row_eq hw HM3.out)
              have HB4 : Hid (Below w.heap.size w w4) := Lib.hid (by rw [hw]; exact ⟨HB3.out.os, HB3.out.tape, HB3.out.output, HB3.out.size, HB3.out.block⟩)
              refine hK.out _ _ (by rw [hw]; exact hHeld) (fun hHeld => ?_)
              clear hK K hw
              try simp only [Act.put, List.setIfInBounds_toArray, List.set_cons_zero, List.set_cons_succ]
              have mc4 : w4.cell? ⟨bs, m, none⟩ = some (.int .i64 z) := (cell_of_row _ _ _ _ _ _ HM4.out).trans (i64v_get Hz.out)
              have mf4 : w4.frozen? ⟨bs, m, none⟩ = false := frozen_of_row _ _ _ _ _ HM4.out
              refine' wpAnyH_take (i := 10) (v := _) (by simp only [List.getElem?_toArray, List.getElem?_cons_succ, List.getElem?_cons_zero]; exact rfl) (by kernel_rfl) (by kernel_rfl) (by kernel_rfl) (fun _ _ _ h => h) (Or.inl ⟨by rfl, ?y10x62⟩) hHeld ?r10x62
              case y10x62 => (intro w hSw; (try dsimp only at hSw); go_simp; try with_reducible rfl)
              try simp only [Act.put, List.setIfInBounds_toArray, List.set_cons_zero, List.set_cons_succ]
              refine wpAnyH_ready (rs := [4]) (by kernel_rfl) (by simp) ?_
              refine (AllReadyH.cons (by simp only [List.getElem?_toArray, List.getElem?_cons_succ, List.getElem?_cons_zero]; exact rfl) (fun K hK => ?_) AllReadyH.nil)
              go_simp
              refine hK.out _ _ hHeld (fun hHeld => ?_)
              clear hK K
              try simp only [Act.put, List.setIfInBounds_toArray, List.set_cons_zero, List.set_cons_succ]
              refine' wpAnyH_take (i := 11) (v := _) (by simp only [List.getElem?_toArray, List.getElem?_cons_succ, List.getElem?_cons_zero]; exact rfl) (by kernel_rfl) (by kernel_rfl) (by kernel_rfl) (fun _ _ _ h => h) (Or.inl ⟨by rfl, ?y11x63⟩) hHeld ?r11x63
              case y11x63 => (intro w hSw; (try dsimp only at hSw); go_simp; try with_reducible rfl)
              try simp only [Act.put, List.setIfInBounds_toArray, List.set_cons_zero, List.set_cons_succ]
              refine' wpAnyH_take (i := 12) (v := _) (by simp only [List.getElem?_toArray, List.getElem?_cons_succ, List.getElem?_cons_zero]; exact rfl) (by kernel_rfl) (by kernel_rfl) (by kernel_rfl) (fun _ _ _ h => h) (Or.inl ⟨by rfl, ?y12x64⟩) hHeld ?r12x64
              case y12x64 => (intro w hSw; (try dsimp only at hSw); go_simp; try with_reducible rfl)
              try simp only [Act.put, List.setIfInBounds_toArray, List.set_cons_zero, List.set_cons_succ]
              refine wpAnyH_ready (rs := [13]) (by kernel_rfl) (by simp) ?_
              refine (AllReadyH.cons (by simp only [List.getElem?_toArray, List.getElem?_cons_succ, List.getElem?_cons_zero]; exact rfl) (fun K hK => ?_) AllReadyH.nil)
              go_simp
              refine hK.out _ _ ⟨cell_other (hHeld.1) HNE.out.symm, cell_other (hHeld.2.1) HNE.out.symm, cell_other (hHeld.2.2) HNE.out.symm⟩ (fun hHeld => ?_)
              clear hK K
              try simp only [Act.put, List.setIfInBounds_toArray, List.set_cons_zero, List.set_cons_succ]
              refine wpAnyH_done (by kernel_rfl) ?_ _
              refine NoPanic.normal ?_
              have HM5 : Hid ((w4.setCell ⟨bs, m, none⟩ (.int .i64 (z + 2 * sl))).heap[bs]? = some (.cells (i64v us2) 3 (0, 0))) := Lib.hid ((heap_setCell_same _ _ _ _ _ _ HM4.out).trans (by rw [i64v_set, Hus2.out]))
              have HR5 := Lib.hid ((heap_setCell_other w4 ⟨bs, m, none⟩ w.heap.size (.int .i64 (z + 2 * sl)) HNB.out).trans HR4.out)
              have HX5 := Lib.hid ((heap_setCell_other w4 ⟨bs, m, none⟩ bx (.int .i64 (z + 2 * sl)) HNE.out.symm).trans HX4.out)
              have HB5 : Hid (Below w.heap.size w (w4.setCell ⟨bs, m, none⟩ (.int .i64 (z + 2 * sl)))) := Lib.hid (HB4.out.setCell HLE.out _)
              clear HM4 HR4 HX4 HB4 mc4 mf4 hHeld
              generalize w4.setCell ⟨bs, m, none⟩ (.int .i64 (z + 2 * sl)) = w5 at *
              clear e2 e11 e12 mc mf HSL HSQ HSA HSB F1 F2 hsa hsb hzb d2 d1
              have HSB := Lib.hid (slope_ok (n := x.backNum) (d := x.backDen) g1 g3).2.1
              have HSA := Lib.hid (slope_ok (n := x.backNum) (d := x.backDen) g1 g3).1
              have HSL : Hid (∀ W, Calls Tryz.prog 68 #[.int .i64 x.backNum, .int .i64 x.backDen] W fun e w' => e = .returned (.int .i64 (slopeN x.backNum x.backDen)) ∧ ∃ m, w' = W.drewN m) := Lib.hid fun W => slope_any _ _ W ⟨g1, g2⟩ ⟨g3, g4⟩
              obtain ⟨sm, hsm⟩ : ∃ s, s = slopeN x.backNum x.backDen := ⟨_, rfl⟩
              rw [← hsm] at HSB HSA HSL
              have HSQ := Lib.hid hsm
              clear hsm
              have hsa := HSA.out
              have hsb := HSB.out
              have F1 : IntKind.i64.wrap (2 * sm) = 2 * sm := IntWalk.i64_in _ (by omega)
              have F2 : IntKind.i64.wrap (y + 2 * sm) = y + 2 * sm := IntWalk.i64_in _ (by omega)
              obtain ⟨us22, hus22, ul2, ub2, ug2, uz2⟩ := upd (C := 2199023255554) Hy.out HUL.out HUB.out (show 0 ≤ 2 * sm by omega) (by omega)
              have Hus22 := Lib.hid hus22
              have HUL2 := Lib.hid ul2
              have HUB2 := Lib.hid ub2
              have HUG2 := Lib.hid (HUG.out.trans ug2)
              have HSX : Hid (SlopeLow x us22) := Lib.hid ⟨fun h => absurd h HK0.out, fun h => by have := HK4.out; omega⟩
              clear hus22 ul2 ub2 ug2 uz2
              go_upto_region 21 with fail
              have e3 : w5.cell? ⟨bx, 3, none⟩ = some (.int .i64 (m2 : Int)) := HM2.out ▸ rowNG HX5.out 3 (.int .i64 x.dst) rfl
              have e15 : w5.cell? ⟨bx, 15, none⟩ = some (.int .i64 x.backNum) := rowNG HX5.out 15 _ rfl
              have e16 : w5.cell? ⟨bx, 16, none⟩ = some (.int .i64 x.backDen) := rowNG HX5.out 16 _ rfl
              have mc : w5.cell? ⟨bs, m2, none⟩ = some (.int .i64 y) := (cell_of_row _ _ _ _ _ _ HM5.out).trans (i64v_get Hy.out)
              have mf : w5.frozen? ⟨bs, m2, none⟩ = false := frozen_of_row _ _ _ _ _ HM5.out
              refine wp_region_noPanic ?_
              refine wp_region_held_drew (S := (fun c => c.cell? ⟨bx, 3, none⟩ = some (.int .i64 (m2 : Int)) ∧ c.cell? ⟨bx, 15, none⟩ = some (.int .i64 x.backNum) ∧ c.cell? ⟨bx, 16, none⟩ = some (.int .i64 x.backDen))) (by kernel_rfl) ⟨e3, e15, e16⟩ (fun hHeld => ?_)
              refine' wpAnyH_take (i := 0) (v := _) (by simp only [List.getElem?_toArray, List.getElem?_cons_zero]; exact rfl) (by kernel_rfl) (by kernel_rfl) (by kernel_rfl) (fun _ _ _ h => h) (Or.inl ⟨by rfl, ?y0x79⟩) hHeld ?r0x79
              case y0x79 => (intro w hSw; (try dsimp only at hSw); go_simp; try with_reducible rfl)
              try simp only [Act.put, List.setIfInBounds_toArray, List.set_cons_zero, List.set_cons_succ]
              refine' wpAnyH_take (i := 1) (v := _) (by simp only [List.getElem?_toArray, List.getElem?_cons_succ, List.getElem?_cons_zero]; exact rfl) (by kernel_rfl) (by kernel_rfl) (by kernel_rfl) (fun _ _ _ h => h) (Or.inl ⟨by rfl, ?y1x80⟩) hHeld ?r1x80
              case y1x80 => (intro w hSw; (try dsimp only at hSw); go_simp; try with_reducible rfl)
              try simp only [Act.put, List.setIfInBounds_toArray, List.set_cons_zero, List.set_cons_succ]
              refine' wpAnyH_take (i := 2) (v := _) (by simp only [List.getElem?_toArray, List.getElem?_cons_succ, List.getElem?_cons_zero]; exact rfl) (by kernel_rfl) (by kernel_rfl) (by kernel_rfl) (fun _ _ _ h => h) (Or.inl ⟨by rfl, ?y2x81⟩) hHeld ?r2x81
              case y2x81 => (intro w hSw; (try dsimp only at hSw); go_simp; try with_reducible rfl)
              try simp only [Act.put, List.setIfInBounds_toArray, List.set_cons_zero, List.set_cons_succ]
              refine' wpAnyH_take (i := 3) (v := _) (by simp only [List.getElem?_toArray, List.getElem?_cons_succ, List.getElem?_cons_zero]; exact rfl) (by kernel_rfl) (by kernel_rfl) (by kernel_rfl) (fun _ _ _ h => h) (Or.inl ⟨by rfl, ?y3x82⟩) hHeld ?r3x82
              case y3x82 => (intro w hSw; (try dsimp only at hSw); go_simp; try with_reducible rfl)
              try simp only [Act.put, List.setIfInBounds_toArray, List.set_cons_zero, List.set_cons_succ]
              refine' wpAnyH_take (i := 5) (v := _) (by simp only [List.getElem?_toArray, List.getElem?_cons_succ, List.getElem?_cons_zero]; exact rfl) (by kernel_rfl) (by kernel_rfl) (by kernel_rfl) (fun _ _ _ h => h) (Or.inl ⟨by rfl, ?y5x83⟩) hHeld ?r5x83
              case y5x83 => (intro w hSw; (try dsimp only at hSw); go_simp; try with_reducible rfl)
              try simp only [Act.put, List.setIfInBounds_toArray, List.set_cons_zero, List.set_cons_succ]
              refine' wpAnyH_take (i := 6) (v := _) (by simp only [List.getElem?_toArray, List.getElem?_cons_succ, List.getElem?_cons_zero]; exact rfl) (by kernel_rfl) (by kernel_rfl) (by kernel_rfl) (fun _ _ _ h => h) (Or.inl ⟨by rfl, ?y6x84⟩) hHeld ?r6x84
              case y6x84 => (intro w hSw; (try dsimp only at hSw); go_simp; try with_reducible rfl)
              try simp only [Act.put, List.setIfInBounds_toArray, List.set_cons_zero, List.set_cons_succ]
              refine' wpAnyH_take (i := 7) (v := _) (by simp only [List.getElem?_toArray, List.getElem?_cons_succ, List.getElem?_cons_zero]; exact rfl) (by kernel_rfl) (by kernel_rfl) (by kernel_rfl) (fun _ _ _ h => h) (Or.inl ⟨by rfl, ?y7x85⟩) hHeld ?r7x85
              case y7x85 => (intro w hSw; (try dsimp only at hSw); go_simp; try with_reducible rfl)
              try simp only [Act.put, List.setIfInBounds_toArray, List.set_cons_zero, List.set_cons_succ]
              refine' wpAnyH_take (i := 8) (v := _) (by simp only [List.getElem?_toArray, List.getElem?_cons_succ, List.getElem?_cons_zero]; exact rfl) (by kernel_rfl) (by kernel_rfl) (by kernel_rfl) (fun _ _ _ h => h) (Or.inl ⟨by rfl, ?y8x86⟩) hHeld ?r8x86
              case y8x86 => (intro w hSw; (try dsimp only at hSw); go_simp; try with_reducible rfl)
              try simp only [Act.put, List.setIfInBounds_toArray, List.set_cons_zero, List.set_cons_succ]
              refine wpAnyH_ready (rs := [4, 9]) (by kernel_rfl) (by simp) ?_
              refine (AllReadyH.cons (by simp only [List.getElem?_toArray, List.getElem?_cons_succ, List.getElem?_cons_zero]; exact rfl) (fun K hK => ?_) (AllReadyH.cons (by simp only [List.getElem?_toArray, List.getElem?_cons_succ, List.getElem?_cons_zero]; exact rfl) (fun K hK => ?_) AllReadyH.nil))
              · go_simp
                refine hK.out _ _ hHeld (fun hHeld => ?_)
                clear hK K
                try simp only [Act.put, List.setIfInBounds_toArray, List.set_cons_zero, List.set_cons_succ]
                refine wpAnyH_ready (rs := [9]) (by kernel_rfl) (by simp) ?_
                refine (AllReadyH.cons (by simp only [List.getElem?_toArray, List.getElem?_cons_succ, List.getElem?_cons_zero]; exact rfl) (fun K hK => ?_) AllReadyH.nil)
                go_simp
                refine (HSL.out _).mono ?_
                rintro e w6 ⟨rfl, mm, hw⟩
                have HR6 := Lib.hid (row_eq hw HR5.out)
                have HX6 := Lib.hid (row_eq hw HX5.out)
                have HM6 := Lib.hid (row_eq hw HM5.out)
                have HB6 : Hid (Below w.heap.size w w6) := Lib.hid (by rw [hw]; exact ⟨HB5.out.os, HB5.out.tape, HB5.out.output, HB5.out.size, HB5.out.block⟩)
                refine hK.out _ _ (by rw [hw]; exact hHeld) (fun hHeld => ?_)
                clear hK K hw
                try simp only [Act.put, List.setIfInBounds_toArray, List.set_cons_zero, List.set_cons_succ]
                have mc6 : w6.cell? ⟨bs, m2, none⟩ = some (.int .i64 y) := (cell_of_row _ _ _ _ _ _ HM6.out).trans (i64v_get Hy.out)
                have mf6 : w6.frozen? ⟨bs, m2, none⟩ = false := frozen_of_row _ _ _ _ _ HM6.out
                refine' wpAnyH_take (i := 10) (v := _) (by simp only [List.getElem?_toArray, List.getElem?_cons_succ, List.getElem?_cons_zero]; exact rfl) (by kernel_rfl) (by kernel_rfl) (by kernel_rfl) (fun _ _ _ h => h) (Or.inl ⟨by rfl, ?y10x87⟩) hHeld ?r10x87
                case y10x87 => (intro w hSw; (try dsimp only at hSw); go_simp; try with_reducible rfl)
                try simp only [Act.put, List.setIfInBounds_toArray, List.set_cons_zero, List.set_cons_succ]
                refine' wpAnyH_take (i := 11) (v := _) (by simp only [List.getElem?_toArray, List.getElem?_cons_succ, List.getElem?_cons_zero]; exact rfl) (by kernel_rfl) (by kernel_rfl) (by kernel_rfl) (fun _ _ _ h => h) (Or.inl ⟨by rfl, ?y11x88⟩) hHeld ?r11x88
                case y11x88 => (intro w hSw; (try dsimp only at hSw); go_simp; try with_reducible rfl)
                try simp only [Act.put, List.setIfInBounds_toArray, List.set_cons_zero, List.set_cons_succ]
                refine' wpAnyH_take (i := 12) (v := _) (by simp only [List.getElem?_toArray, List.getElem?_cons_succ, List.getElem?_cons_zero]; exact rfl) (by kernel_rfl) (by kernel_rfl) (by kernel_rfl) (fun _ _ _ h => h) (Or.inl ⟨by rfl, ?y12x89⟩) hHeld ?r12x89
                case y12x89 => (intro w hSw; (try dsimp only at hSw); go_simp; try with_reducible rfl)
                try simp only [Act.put, List.setIfInBounds_toArray, List.set_cons_zero, List.set_cons_succ]
                refine wpAnyH_ready (rs := [13]) (by kernel_rfl) (by simp) ?_
                refine (AllReadyH.cons (by simp only [List.getElem?_toArray, List.getElem?_cons_succ, List.getElem?_cons_zero]; exact rfl) (fun K hK => ?_) AllReadyH.nil)
                go_simp
                refine hK.out _ _ ⟨cell_other (hHeld.1) HNE.out.symm, cell_other (hHeld.2.1) HNE.out.symm, cell_other (hHeld.2.2) HNE.out.symm⟩ (fun hHeld => ?_)
                clear hK K
                try simp only [Act.put, List.setIfInBounds_toArray, List.set_cons_zero, List.set_cons_succ]
                refine wpAnyH_done (by kernel_rfl) ?_ _
                refine NoPanic.normal ?_
                have HM7 : Hid ((w6.setCell ⟨bs, m2, none⟩ (.int .i64 (y + 2 * sm))).heap[bs]? = some (.cells (i64v us22) 3 (0, 0))) := Lib.hid ((heap_setCell_same _ _ _ _ _ _ HM6.out).trans (by rw [i64v_set, Hus22.out]))
                have HR7 := Lib.hid ((heap_setCell_other w6 ⟨bs, m2, none⟩ w.heap.size (.int .i64 (y + 2 * sm)) HNB.out).trans HR6.out)
                have HX7 := Lib.hid ((heap_setCell_other w6 ⟨bs, m2, none⟩ bx (.int .i64 (y + 2 * sm)) HNE.out.symm).trans HX6.out)
                have HB7 : Hid (Below w.heap.size w (w6.setCell ⟨bs, m2, none⟩ (.int .i64 (y + 2 * sm)))) := Lib.hid (HB6.out.setCell HLE.out _)
                clear HM6 HR6 HX6 HB6 mc6 mf6 hHeld
                generalize w6.setCell ⟨bs, m2, none⟩ (.int .i64 (y + 2 * sm)) = w7 at *
                go_wp2_with fail
                go_roundw
                case rel => exact ⟨k + 1, us22, by omega, by go_num, HUL2.out, HUB2.out.mono (by omega), lows_succ HX.out HLOW.out HUG2.out HSX.out, HM7.out, HR7.out, HB7.out⟩
                case measure => simp [Go.RowKit.intOf]; omega
              · go_simp
                refine (HSL.out _).mono ?_
                rintro e w6 ⟨rfl, mm, hw⟩
                have HR6 := Lib.hid (row_eq hw HR5.out)
                have HX6 := Lib.hid (row_eq hw HX5.out)
                have HM6 := Lib.hid (row_eq hw HM5.out)
                have HB6 : Hid (Below w.heap.size w w6) := Lib.hid (by rw [hw]; exact ⟨HB5.out.os, HB5.out.tape, HB5.out.output, HB5.out.size, HB5.out.block⟩)
                refine hK.out _ _ (by rw [hw]; exact hHeld) (fun hHeld => ?_)
                clear hK K hw
                try simp only [Act.put, List.setIfInBounds_toArray, List.set_cons_zero, List.set_cons_succ]
                have mc6 : w6.cell? ⟨bs, m2, none⟩ = some (.int .i64 y) := (cell_of_row _ _ _ _ _ _ HM6.out).trans (i64v_get Hy.out)
                have mf6 : w6.frozen? ⟨bs, m2, none⟩ = false := frozen_of_row _ _ _ _ _ HM6.out
                refine' wpAnyH_take (i := 10) (v := _) (by simp only [List.getElem?_toArray, List.getElem?_cons_succ, List.getElem?_cons_zero]; exact rfl) (by kernel_rfl) (by kernel_rfl) (by kernel_rfl) (fun _ _ _ h => h) (Or.inl ⟨by rfl, ?y10x90⟩) hHeld ?r10x90
                case y10x90 => (intro w hSw; (try dsimp only at hSw); go_simp; try with_reducible rfl)
                try simp only [Act.put, List.setIfInBounds_toArray, List.set_cons_zero, List.set_cons_succ]
                refine wpAnyH_ready (rs := [4]) (by kernel_rfl) (by simp) ?_
                refine (AllReadyH.cons (by simp only [List.getElem?_toArray, List.getElem?_cons_succ, List.getElem?_cons_zero]; exact rfl) (fun K hK => ?_) AllReadyH.nil)
                go_simp
                refine hK.out _ _ hHeld (fun hHeld => ?_)
                clear hK K
                try simp only [Act.put, List.setIfInBounds_toArray, List.set_cons_zero, List.set_cons_succ]
                refine' wpAnyH_take (i := 11) (v := _) (by simp only [List.getElem?_toArray, List.getElem?_cons_succ, List.getElem?_cons_zero]; exact rfl) (by kernel_rfl) (by kernel_rfl) (by kernel_rfl) (fun _ _ _ h => h) (Or.inl ⟨by rfl, ?y11x91⟩) hHeld ?r11x91
                case y11x91 => (intro w hSw; (try dsimp only at hSw); go_simp; try with_reducible rfl)
                try simp only [Act.put, List.setIfInBounds_toArray, List.set_cons_zero, List.set_cons_succ]
                refine' wpAnyH_take (i := 12) (v := _) (by simp only [List.getElem?_toArray, List.getElem?_cons_succ, List.getElem?_cons_zero]; exact rfl) (by kernel_rfl) (by kernel_rfl) (by kernel_rfl) (fun _ _ _ h => h) (Or.inl ⟨by rfl, ?y12x92⟩) hHeld ?r12x92
                case y12x92 => (intro w hSw; (try dsimp only at hSw); go_simp; try with_reducible rfl)
                try simp only [Act.put, List.setIfInBounds_toArray, List.set_cons_zero, List.set_cons_succ]
                refine wpAnyH_ready (rs := [13]) (by kernel_rfl) (by simp) ?_
                refine (AllReadyH.cons (by simp only [List.getElem?_toArray, List.getElem?_cons_succ, List.getElem?_cons_zero]; exact rfl) (fun K hK => ?_) AllReadyH.nil)
                go_simp
                refine hK.out _ _ ⟨cell_other (hHeld.1) HNE.out.symm, cell_other (hHeld.2.1) HNE.out.symm, cell_other (hHeld.2.2) HNE.out.symm⟩ (fun hHeld => ?_)
                clear hK K
                try simp only [Act.put, List.setIfInBounds_toArray, List.set_cons_zero, List.set_cons_succ]
                refine wpAnyH_done (by kernel_rfl) ?_ _
                refine NoPanic.normal ?_
                have HM7 : Hid ((w6.setCell ⟨bs, m2, none⟩ (.int .i64 (y + 2 * sm))).heap[bs]? = some (.cells (i64v us22) 3 (0, 0))) := Lib.hid ((heap_setCell_same _ _ _ _ _ _ HM6.out).trans (by rw [i64v_set, Hus22.out]))
                have HR7 := Lib.hid ((heap_setCell_other w6 ⟨bs, m2, none⟩ w.heap.size (.int .i64 (y + 2 * sm)) HNB.out).trans HR6.out)
                have HX7 := Lib.hid ((heap_setCell_other w6 ⟨bs, m2, none⟩ bx (.int .i64 (y + 2 * sm)) HNE.out.symm).trans HX6.out)
                have HB7 : Hid (Below w.heap.size w (w6.setCell ⟨bs, m2, none⟩ (.int .i64 (y + 2 * sm)))) := Lib.hid (HB6.out.setCell HLE.out _)
                clear HM6 HR6 HX6 HB6 mc6 mf6 hHeld
                generalize w6.setCell ⟨bs, m2, none⟩ (.int .i64 (y + 2 * sm)) = w7 at *
                go_wp2_with fail
                go_roundw
                case rel => exact ⟨k + 1, us22, by omega, by go_num, HUL2.out, HUB2.out.mono (by omega), lows_succ HX.out HLOW.out HUG2.out HSX.out, HM7.out, HR7.out, HB7.out⟩
                case measure => simp [Go.RowKit.intOf]; omega
          · obtain ⟨-, ⟨f1, f2⟩, f3', f4⟩ := HF.out.2.1 (Or.inr hk)
            have f3 : 0 ≤ x.den := by omega
            have HK0 : Hid (x.kind ≠ 0) := Lib.hid (by omega)
            have kc0 : (x.kind == 0) = false := by rw [hk]; rfl
            have kc1 : (x.kind == 1) = false := by rw [hk]; rfl
            have kc5 : (x.kind == 5) = true := by rw [hk]; rfl
            have kc3 : (x.kind == 3) = false := by rw [hk]; rfl
            have kc4 : (x.kind == 4) = false := by rw [hk]; rfl
            clear hk
            have HSB := Lib.hid (slope_ok (n := x.num) (d := x.den) f1 f3).2.1
            have HSA := Lib.hid (slope_ok (n := x.num) (d := x.den) f1 f3).1
            have HSL : Hid (∀ W, Calls Tryz.prog 68 #[.int .i64 x.num, .int .i64 x.den] W fun e w' => e = .returned (.int .i64 (slopeN x.num x.den)) ∧ ∃ m, w' = W.drewN m) := Lib.hid fun W => slope_any _ _ W ⟨f1, f2⟩ ⟨f3, f4⟩
            obtain ⟨sl, hsl⟩ : ∃ s, s = slopeN x.num x.den := ⟨_, rfl⟩
            rw [← hsl] at HSB HSA HSL
            have HSQ := Lib.hid hsl
            clear hsl
            have hsa := HSA.out
            have hsb := HSB.out
            have F1 : IntKind.i64.wrap (z + sl) = z + sl := IntWalk.i64_in _ (by omega)
            obtain ⟨us2, hus2, ul2, ub2, ug2, uz2⟩ := upd HZ.out HVL.out HVB.out hsa hsb
            have Hus2 := Lib.hid hus2
            have HUL := Lib.hid ul2
            have HUB := Lib.hid ub2
            have HUG := Lib.hid ug2
            have HSX : Hid (SlopeLow x us2) := Lib.hid ⟨fun h => absurd h HK0.out, fun _ u hu => by
              rw [HM.out, Int.toNat_natCast] at hu
              rw [uz2] at hu
              cases hu
              rw [← HSQ.out]
              omega⟩
            clear hus2 ul2 ub2 ug2 uz2
            go_upto_region 18 with fail
            have e2 : w3.cell? ⟨bx, 2, none⟩ = some (.int .i64 (m : Int)) := d2
            have e11 : w3.cell? ⟨bx, 11, none⟩ = some (.int .i64 x.num) := rowNG HX3.out 11 _ rfl
            have e12 : w3.cell? ⟨bx, 12, none⟩ = some (.int .i64 x.den) := rowNG HX3.out 12 _ rfl
            have mc : w3.cell? ⟨bs, m, none⟩ = some (.int .i64 z) := (cell_of_row _ _ _ _ _ _ HM3.out).trans (i64v_get Hz.out)
            have mf : w3.frozen? ⟨bs, m, none⟩ = false := frozen_of_row _ _ _ _ _ HM3.out
            refine wp_region_noPanic ?_
            refine wp_region_held_drew (S := (fun c => c.cell? ⟨bx, 2, none⟩ = some (.int .i64 (m : Int)) ∧ c.cell? ⟨bx, 11, none⟩ = some (.int .i64 x.num) ∧ c.cell? ⟨bx, 12, none⟩ = some (.int .i64 x.den))) (by kernel_rfl) ⟨e2, e11, e12⟩ (fun hHeld => ?_)
            refine' wpAnyH_take (i := 0) (v := _) (by simp only [List.getElem?_toArray, List.getElem?_cons_zero]; exact rfl) (by kernel_rfl) (by kernel_rfl) (by kernel_rfl) (fun _ _ _ h => h) (Or.inl ⟨by rfl, ?y0x93⟩) hHeld ?r0x93
            case y0x93 => (intro w hSw; (try dsimp only at hSw); go_simp; try with_reducible rfl)
            try simp only [Act.put, List.setIfInBounds_toArray, List.set_cons_zero, List.set_cons_succ]
            refine' wpAnyH_take (i := 1) (v := _) (by simp only [List.getElem?_toArray, List.getElem?_cons_succ, List.getElem?_cons_zero]; exact rfl) (by kernel_rfl) (by kernel_rfl) (by kernel_rfl) (fun _ _ _ h => h) (Or.inl ⟨by rfl, ?y1x94⟩) hHeld ?r1x94
            case y1x94 => (intro w hSw; (try dsimp only at hSw); go_simp; try with_reducible rfl)
            try simp only [Act.put, List.setIfInBounds_toArray, List.set_cons_zero, List.set_cons_succ]
            refine' wpAnyH_take (i := 2) (v := _) (by simp only [List.getElem?_toArray, List.getElem?_cons_succ, List.getElem?_cons_zero]; exact rfl) (by kernel_rfl) (by kernel_rfl) (by kernel_rfl) (fun _ _ _ h => h) (Or.inl ⟨by rfl, ?y2x95⟩) hHeld ?r2x95
            case y2x95 => (intro w hSw; (try dsimp only at hSw); go_simp; try with_reducible rfl)
            try simp only [Act.put, List.setIfInBounds_toArray, List.set_cons_zero, List.set_cons_succ]
            refine' wpAnyH_take (i := 3) (v := _) (by simp only [List.getElem?_toArray, List.getElem?_cons_succ, List.getElem?_cons_zero]; exact rfl) (by kernel_rfl) (by kernel_rfl) (by kernel_rfl) (fun _ _ _ h => h) (Or.inl ⟨by rfl, ?y3x96⟩) hHeld ?r3x96
            case y3x96 => (intro w hSw; (try dsimp only at hSw); go_simp; try with_reducible rfl)
            try simp only [Act.put, List.setIfInBounds_toArray, List.set_cons_zero, List.set_cons_succ]
            refine' wpAnyH_take (i := 5) (v := _) (by simp only [List.getElem?_toArray, List.getElem?_cons_succ, List.getElem?_cons_zero]; exact rfl) (by kernel_rfl) (by kernel_rfl) (by kernel_rfl) (fun _ _ _ h => h) (Or.inl ⟨by rfl, ?y5x97⟩) hHeld ?r5x97
            case y5x97 => (intro w hSw; (try dsimp only at hSw); go_simp; try with_reducible rfl)
            try simp only [Act.put, List.setIfInBounds_toArray, List.set_cons_zero, List.set_cons_succ]
            refine' wpAnyH_take (i := 6) (v := _) (by simp only [List.getElem?_toArray, List.getElem?_cons_succ, List.getElem?_cons_zero]; exact rfl) (by kernel_rfl) (by kernel_rfl) (by kernel_rfl) (fun _ _ _ h => h) (Or.inl ⟨by rfl, ?y6x98⟩) hHeld ?r6x98
            case y6x98 => (intro w hSw; (try dsimp only at hSw); go_simp; try with_reducible rfl)
            try simp only [Act.put, List.setIfInBounds_toArray, List.set_cons_zero, List.set_cons_succ]
            refine' wpAnyH_take (i := 7) (v := _) (by simp only [List.getElem?_toArray, List.getElem?_cons_succ, List.getElem?_cons_zero]; exact rfl) (by kernel_rfl) (by kernel_rfl) (by kernel_rfl) (fun _ _ _ h => h) (Or.inl ⟨by rfl, ?y7x99⟩) hHeld ?r7x99
            case y7x99 => (intro w hSw; (try dsimp only at hSw); go_simp; try with_reducible rfl)
            try simp only [Act.put, List.setIfInBounds_toArray, List.set_cons_zero, List.set_cons_succ]
            refine' wpAnyH_take (i := 8) (v := _) (by simp only [List.getElem?_toArray, List.getElem?_cons_succ, List.getElem?_cons_zero]; exact rfl) (by kernel_rfl) (by kernel_rfl) (by kernel_rfl) (fun _ _ _ h => h) (Or.inl ⟨by rfl, ?y8x100⟩) hHeld ?r8x100
            case y8x100 => (intro w hSw; (try dsimp only at hSw); go_simp; try with_reducible rfl)
            try simp only [Act.put, List.setIfInBounds_toArray, List.set_cons_zero, List.set_cons_succ]
            refine wpAnyH_ready (rs := [4, 9]) (by kernel_rfl) (by simp) ?_
            refine (AllReadyH.cons (by simp only [List.getElem?_toArray, List.getElem?_cons_succ, List.getElem?_cons_zero]; exact rfl) (fun K hK => ?_) (AllReadyH.cons (by simp only [List.getElem?_toArray, List.getElem?_cons_succ, List.getElem?_cons_zero]; exact rfl) (fun K hK => ?_) AllReadyH.nil))
            · go_simp
              refine hK.out _ _ hHeld (fun hHeld => ?_)
              clear hK K
              try simp only [Act.put, List.setIfInBounds_toArray, List.set_cons_zero, List.set_cons_succ]
              refine wpAnyH_ready (rs := [9]) (by kernel_rfl) (by simp) ?_
              refine (AllReadyH.cons (by simp only [List.getElem?_toArray, List.getElem?_cons_succ, List.getElem?_cons_zero]; exact rfl) (fun K hK => ?_) AllReadyH.nil)
              go_simp
              refine (HSL.out _).mono ?_
              rintro e w4 ⟨rfl, mm, hw⟩
              have HR4 := Lib.hid (row_eq hw HR3.out)
              have HX4 := Lib.hid (row_eq hw HX3.out)
              have HM4 := Lib.hid (row_eq hw HM3.out)
              have HB4 : Hid (Below w.heap.size w w4) := Lib.hid (by rw [hw]; exact ⟨HB3.out.os, HB3.out.tape, HB3.out.output, HB3.out.size, HB3.out.block⟩)
              refine hK.out _ _ (by rw [hw]; exact hHeld) (fun hHeld => ?_)
              clear hK K hw
              try simp only [Act.put, List.setIfInBounds_toArray, List.set_cons_zero, List.set_cons_succ]
              have mc4 : w4.cell? ⟨bs, m, none⟩ = some (.int .i64 z) := (cell_of_row _ _ _ _ _ _ HM4.out).trans (i64v_get Hz.out)
              have mf4 : w4.frozen? ⟨bs, m, none⟩ = false := frozen_of_row _ _ _ _ _ HM4.out
              refine' wpAnyH_take (i := 10) (v := _) (by simp only [List.getElem?_toArray, List.getElem?_cons_succ, List.getElem?_cons_zero]; exact rfl) (by kernel_rfl) (by kernel_rfl) (by kernel_rfl) (fun _ _ _ h => h) (Or.inl ⟨by rfl, ?y10x101⟩) hHeld ?r10x101
              case y10x101 => (intro w hSw; (try dsimp only at hSw); go_simp; try with_reducible rfl)
              try simp only [Act.put, List.setIfInBounds_toArray, List.set_cons_zero, List.set_cons_succ]
              refine' wpAnyH_take (i := 11) (v := _) (by simp only [List.getElem?_toArray, List.getElem?_cons_succ, List.getElem?_cons_zero]; exact rfl) (by kernel_rfl) (by kernel_rfl) (by kernel_rfl) (fun _ _ _ h => h) (Or.inl ⟨by rfl, ?y11x102⟩) hHeld ?r11x102
              case y11x102 => (intro w hSw; (try dsimp only at hSw); go_simp; try with_reducible rfl)
              try simp only [Act.put, List.setIfInBounds_toArray, List.set_cons_zero, List.set_cons_succ]
              refine wpAnyH_ready (rs := [12]) (by kernel_rfl) (by simp) ?_
              refine (AllReadyH.cons (by simp only [List.getElem?_toArray, List.getElem?_cons_succ, List.getElem?_cons_zero]; exact rfl) (fun K hK => ?_) AllReadyH.nil)
              go_simp
              refine hK.out _ _ ⟨cell_other (hHeld.1) HNE.out.symm, cell_other (hHeld.2.1) HNE.out.symm, cell_other (hHeld.2.2) HNE.out.symm⟩ (fun hHeld => ?_)
              clear hK K
              try simp only [Act.put, List.setIfInBounds_toArray, List.set_cons_zero, List.set_cons_succ]
              refine wpAnyH_done (by kernel_rfl) ?_ _
              refine NoPanic.normal ?_
              have HM5 : Hid ((w4.setCell ⟨bs, m, none⟩ (.int .i64 (z + sl))).heap[bs]? = some (.cells (i64v us2) 3 (0, 0))) := Lib.hid ((heap_setCell_same _ _ _ _ _ _ HM4.out).trans (by rw [i64v_set, Hus2.out]))
              have HR5 := Lib.hid ((heap_setCell_other w4 ⟨bs, m, none⟩ w.heap.size (.int .i64 (z + sl)) HNB.out).trans HR4.out)
              have HX5 := Lib.hid ((heap_setCell_other w4 ⟨bs, m, none⟩ bx (.int .i64 (z + sl)) HNE.out.symm).trans HX4.out)
              have HB5 : Hid (Below w.heap.size w (w4.setCell ⟨bs, m, none⟩ (.int .i64 (z + sl)))) := Lib.hid (HB4.out.setCell HLE.out _)
              clear HM4 HR4 HX4 HB4 mc4 mf4 hHeld
              generalize w4.setCell ⟨bs, m, none⟩ (.int .i64 (z + sl)) = w5 at *
              go_wp2_with fail
              go_roundw
              case rel => exact ⟨k + 1, us2, by omega, by go_num, HUL.out, HUB.out.mono (by omega), lows_succ HX.out HLOW.out HUG.out HSX.out, HM5.out, HR5.out, HB5.out⟩
              case measure => simp [Go.RowKit.intOf]; omega
            · go_simp
              refine (HSL.out _).mono ?_
              rintro e w4 ⟨rfl, mm, hw⟩
              have HR4 := Lib.hid (row_eq hw HR3.out)
              have HX4 := Lib.hid (row_eq hw HX3.out)
              have HM4 := Lib.hid (row_eq hw HM3.out)
              have HB4 : Hid (Below w.heap.size w w4) := Lib.hid (by rw [hw]; exact ⟨HB3.out.os, HB3.out.tape, HB3.out.output, HB3.out.size, HB3.out.block⟩)
              refine hK.out _ _ (by rw [hw]; exact hHeld) (fun hHeld => ?_)
              clear hK K hw
              try simp only [Act.put, List.setIfInBounds_toArray, List.set_cons_zero, List.set_cons_succ]
              have mc4 : w4.cell? ⟨bs, m, none⟩ = some (.int .i64 z) := (cell_of_row _ _ _ _ _ _ HM4.out).trans (i64v_get Hz.out)
              have mf4 : w4.frozen? ⟨bs, m, none⟩ = false := frozen_of_row _ _ _ _ _ HM4.out
              refine wpAnyH_ready (rs := [4]) (by kernel_rfl) (by simp) ?_
              refine (AllReadyH.cons (by simp only [List.getElem?_toArray, List.getElem?_cons_succ, List.getElem?_cons_zero]; exact rfl) (fun K hK => ?_) AllReadyH.nil)
              go_simp
              refine hK.out _ _ hHeld (fun hHeld => ?_)
              clear hK K
              try simp only [Act.put, List.setIfInBounds_toArray, List.set_cons_zero, List.set_cons_succ]
              refine' wpAnyH_take (i := 10) (v := _) (by simp only [List.getElem?_toArray, List.getElem?_cons_succ, List.getElem?_cons_zero]; exact rfl) (by kernel_rfl) (by kernel_rfl) (by kernel_rfl) (fun _ _ _ h => h) (Or.inl ⟨by rfl, ?y10x103⟩) hHeld ?r10x103
              case y10x103 => (intro w hSw; (try dsimp only at hSw); go_simp; try with_reducible rfl)
              try simp only [Act.put, List.setIfInBounds_toArray, List.set_cons_zero, List.set_cons_succ]
              refine' wpAnyH_take (i := 11) (v := _) (by simp only [List.getElem?_toArray, List.getElem?_cons_succ, List.getElem?_cons_zero]; exact rfl) (by kernel_rfl) (by kernel_rfl) (by kernel_rfl) (fun _ _ _ h => h) (Or.inl ⟨by rfl, ?y11x104⟩) hHeld ?r11x104
              case y11x104 => (intro w hSw; (try dsimp only at hSw); go_simp; try with_reducible rfl)
              try simp only [Act.put, List.setIfInBounds_toArray, List.set_cons_zero, List.set_cons_succ]
              refine wpAnyH_ready (rs := [12]) (by kernel_rfl) (by simp) ?_
              refine (AllReadyH.cons (by simp only [List.getElem?_toArray, List.getElem?_cons_succ, List.getElem?_cons_zero]; exact rfl) (fun K hK => ?_) AllReadyH.nil)
              go_simp
              refine hK.out _ _ ⟨cell_other (hHeld.1) HNE.out.symm, cell_other (hHeld.2.1) HNE.out.symm, cell_other (hHeld.2.2) HNE.out.symm⟩ (fun hHeld => ?_)
              clear hK K
              try simp only [Act.put, List.setIfInBounds_toArray, List.set_cons_zero, List.set_cons_succ]
              refine wpAnyH_done (by kernel_rfl) ?_ _
              refine NoPanic.normal ?_
              have HM5 : Hid ((w4.setCell ⟨bs, m, none⟩ (.int .i64 (z + sl))).heap[bs]? = some (.cells (i64v us2) 3 (0, 0))) := Lib.hid ((heap_setCell_same _ _ _ _ _ _ HM4.out).trans (by rw [i64v_set, Hus2.out]))
              have HR5 := Lib.hid ((heap_setCell_other w4 ⟨bs, m, none⟩ w.heap.size (.int .i64 (z + sl)) HNB.out).trans HR4.out)
              have HX5 := Lib.hid ((heap_setCell_other w4 ⟨bs, m, none⟩ bx (.int .i64 (z + sl)) HNE.out.symm).trans HX4.out)
              have HB5 : Hid (Below w.heap.size w (w4.setCell ⟨bs, m, none⟩ (.int .i64 (z + sl)))) := Lib.hid (HB4.out.setCell HLE.out _)
              clear HM4 HR4 HX4 HB4 mc4 mf4 hHeld
              generalize w4.setCell ⟨bs, m, none⟩ (.int .i64 (z + sl)) = w5 at *
              go_wp2_with fail
              go_roundw
              case rel => exact ⟨k + 1, us2, by omega, by go_num, HUL.out, HUB.out.mono (by omega), lows_succ HX.out HLOW.out HUG.out HSX.out, HM5.out, HR5.out, HB5.out⟩
              case measure => simp [Go.RowKit.intOf]; omega
        · go_wp2_with fail
          go_loopw [121] (fun iv wr => ∃ k : Nat, k ≤ b.places.length ∧ iv = .int .i64 k ∧ (∀ (j : Nat) (v : Int), j < k → us[j]? = some v → v ≤ 1099511627776) ∧ wr.heap[bs]? = some (.cells (i64v us) 3 (0, 0)) ∧ Below w.heap.size w wr) (fun iv _ => b.places.length - (Go.RowKit.intOf iv).toNat)
          case atStart => exact ⟨0, Nat.zero_le _, rfl, (fun j v hj => by omega), HMr.out, HBr.out⟩
          case round =>
            obtain ⟨k, hk, rfl, hle, hmr, hb⟩ := hrel
            have HMq := Lib.hid hmr
            have HBq := Lib.hid hb
            have HLEs := Lib.hid hle
            clear hmr hb hle
            by_cases hlt : k < b.places.length
            · obtain ⟨z, hz⟩ : ∃ z, us[k]? = some z := ⟨_, List.getElem?_eq_getElem (by rw [HVL.out]; exact hlt)⟩
              have mc : wr.cell? ⟨bs, k, none⟩ = some (.int .i64 z) := (cell_of_row _ _ _ _ _ _ HMq.out).trans (i64v_get hz)
              have Hz := Lib.hid hz
              clear hz
              by_cases hgt : 1099511627776 < z
              · go_wp2_with fail
                go_ret
                exact retT_no HBq.out
              · have HNX : Hid (∀ (j : Nat) (v : Int), j < k + 1 → us[j]? = some v → v ≤ 1099511627776) := Lib.hid fun j v hj hv => by
                  rcases Nat.lt_or_eq_of_le (show j ≤ k by omega) with h2 | rfl
                  · exact HLEs.out j v h2 hv
                  · rw [Hz.out] at hv; cases hv; omega
                go_wp2_with fail
                go_roundw
                case rel => exact ⟨k + 1, by omega, by go_num, HNX.out, HMq.out, HBq.out⟩
                case measure => simp [Go.RowKit.intOf]; omega
            · have HEND : Hid (∀ y ∈ b.links, SlopeR y) := Lib.hid fun y hy => by
                obtain ⟨j, hj⟩ := List.getElem?_of_mem hy
                have hjl := (List.getElem?_eq_some_iff.1 hj).1
                refine slopeR_of (HLR.out y hy) (HLOW.out j y (by omega) hj) HVL.out fun v hv => ?_
                obtain ⟨i, hi⟩ := List.getElem?_of_mem hv
                have hil := (List.getElem?_eq_some_iff.1 hi).1
                rw [HVL.out] at hil
                exact HLEs.out i v (by omega) hi
              go_wp2_with fail
              go_ret
              exact retT_yes HEND.out HBq.out
end Go.Proofs.YtepidpegoihllaaGreatDoor

