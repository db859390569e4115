/- Texts merged: VValue VUnder -/
import Derived.Test.YtepidpegoihllaaGreatDoorVShelf
/- curve.value and curve.At. -/
namespace Go.Proofs.YtepidpegoihllaaGreatDoor
open Go.RowKit Go.Sort
set_option maxRecDepth 100000 in
set_option maxHeartbeats 2000000 in
/-- the closure that value hands to Search -/
theorem clo_any (l : List PointV) (v : Value) (x : Int) (i b1 b2 : Nat) (p : PointV) (W : World) (h1 : W.cell? ⟨b1, 0, none⟩ = some v) (h2 : W.cell? ⟨b2, 0, none⟩ = some (.int .i64 x)) (hL : LArg RPoint 2 v l W) (hp : l[i]? = some p) :
    Calls Tryz.prog 117 (#[.int .i64 i] ++ #[.pointer (some ⟨b1, 0, none⟩), .pointer (some ⟨b2, 0, none⟩)]) W fun e w' => e = .returned (.bool (decide (x < p.x))) ∧ ∃ q, w' = W.drewN q := by
  obtain ⟨a, c, rfl, hc, hm⟩ := hL.slice
  unfold maxLen at hm
  obtain ⟨b, o, cs, rfl, hbl, _, hrg, hcs⟩ := hL.at hp
  obtain ⟨rfl, -, -⟩ := hcs
  have c0 : W.cell? ⟨b, o + i * 2, none⟩ = some (.int .i64 p.x) := hrg 0 _ rfl
  have hi : i < l.length := (List.getElem?_eq_some_iff.1 hp).1
  have hiz : (i : Int) < (l.length : Int) := by omega
  clear hL hrg hp
  go_enter Tryz.func117, Tryz.ntmps117
  go_wp2_with fail
  go_quiet (fail)
  go_wp2_with fail
  go_ret
  exact ⟨rfl, nq, rfl⟩
theorem count_split (p : Nat → Bool) : ∀ n, (∀ a b, a ≤ b → b < n → p a = true → p b = true) → ∃ k, k ≤ n ∧ (List.range n).countP (fun i => !p i) = k ∧ (∀ i, i < k → p i = false) ∧ ∀ i, k ≤ i → i < n → p i = true
  | 0, _ => ⟨0, Nat.le_refl _, rfl, fun i h => by omega, fun i _ h => by omega⟩
  | n + 1, hm => by
    obtain ⟨k, h1, h2, h3, h4⟩ := count_split p n fun a b hab hb h => hm a b hab (by omega) h
    rw [List.range_succ, List.countP_append, h2]
    cases hp : p n
    · have hk : k = n := by
        rcases Nat.lt_or_eq_of_le h1 with h5 | h5
        · have := h4 k (Nat.le_refl _) h5
          have := hm k n h1 (by omega) this
          rw [hp] at this
          cases this
        · exact h5
      subst hk
      refine ⟨k + 1, Nat.le_refl _, by simp [hp], fun i hi => ?_, fun i h5 h6 => by omega⟩
      rcases Nat.lt_or_eq_of_le (show i ≤ k by omega) with h5 | h5
      · exact h3 i h5
      · rw [h5]; exact hp
    · refine ⟨k, by omega, by simp [hp], h3, fun i h5 h6 => ?_⟩
      rcases Nat.lt_or_eq_of_le (show i ≤ n by omega) with h7 | h7
      · exact h4 i h5 h7
      · rw [h7]; exact hp
/-- k points lie at or before x -/
def Cnt (l : List PointV) (x : Int) (k : Nat) : Prop := k ≤ l.length ∧ (∀ i p, l[i]? = some p → i < k → p.x ≤ x) ∧ ∀ i p, l[i]? = some p → k ≤ i → x < p.x
theorem search_any (l : List PointV) (v : Value) (x : Int) (b1 b2 : Nat) (W : World) (h1 : W.cell? ⟨b1, 0, none⟩ = some v) (h2 : W.cell? ⟨b2, 0, none⟩ = some (.int .i64 x)) (hL : LArg RPoint 2 v l W) (hs : Sorted l) (hn : l.length ≤ 32) :
    Calls Tryz.prog 116 #[.int .i64 l.length, .func (.func 117) #[] #[.pointer (some ⟨b1, 0, none⟩), .pointer (some ⟨b2, 0, none⟩)]] W fun e w' => ∃ k : Nat, Cnt l x k ∧ e = .returned (.int .i64 k) ∧ Below W.heap.size W w' := by
  have eg : ∀ args w, (callFunc 117 args).run Tryz.prog w = .ok (.enter 117 args) w := enters_of Tryz.func117 (by kernel_rfl) rfl
  have hmono : ∀ a b, a ≤ b → b < l.length → (fun i => decide (x < (l[i]?.getD ⟨0, 0⟩).x)) a = true → (fun i => decide (x < (l[i]?.getD ⟨0, 0⟩).x)) b = true := by
    intro a b hab hb h
    obtain ⟨p, hp⟩ : ∃ p, l[a]? = some p := ⟨_, List.getElem?_eq_getElem (by omega)⟩
    obtain ⟨q, hq⟩ : ∃ p, l[b]? = some p := ⟨_, List.getElem?_eq_getElem hb⟩
    simp only [hp, hq, Option.getD_some, decide_eq_true_eq] at h ⊢
    rcases Nat.lt_or_eq_of_le hab with h5 | h5
    · have := sorted_lt l a b p q hs hp hq h5
      omega
    · subst h5
      rw [hp] at hq
      cases hq
      exact h
  have lt1 := World.block_lt_of_cell? _ _ h1
  have lt2 := World.block_lt_of_cell? _ _ h2
  have hS := Tryz.sort_Search 117 #[.pointer (some ⟨b1, 0, none⟩), .pointer (some ⟨b2, 0, none⟩)] l.length (fun i => decide (x < (l[i]?.getD ⟨0, 0⟩).x)) W eg (by omega)
    (fun m os i hi => by
      obtain ⟨p, hp⟩ : ∃ p, l[i]? = some p := ⟨_, List.getElem?_eq_getElem hi⟩
      have hb : Below W.heap.size W (grow (W.drewN m) os) := below_grown_sl W.heap.size W m os (Nat.le_refl _)
      refine (clo_any l v x i b1 b2 p (grow (W.drewN m) os) ((hb.cell (p := ⟨b1, 0, none⟩) lt1).trans h1) ((hb.cell (p := ⟨b2, 0, none⟩) lt2).trans h2) (hL.below stays_Point hb) hp).mono fun e w' ⟨he, q, hq⟩ => ⟨?_, q, #[], by rw [hq, grow_empty]⟩
      rw [he]
      simp only [hp, Option.getD_some]) hmono
  obtain ⟨k, k1, k2, k3, k4⟩ := count_split (fun i => decide (x < (l[i]?.getD ⟨0, 0⟩).x)) l.length hmono
  refine hS.mono fun e w' ⟨he, q, os, hw⟩ => ⟨k, ⟨k1, fun i p hp hi => ?_, fun i p hp hi => ?_⟩, by rw [he, k2], by rw [hw]; exact below_grown_sl W.heap.size W q os (Nat.le_refl _)⟩
  · have := k3 i hi
    simp only [hp, Option.getD_some, decide_eq_false_iff_not] at this
    omega
  · have := k4 i hi (List.getElem?_eq_some_iff.1 hp).1
    simpa only [hp, Option.getD_some, decide_eq_true_eq] using this
theorem okY {l : List PointV} {k : Nat} {p q : PointV} (hs : Sorted l) (hp : l[k]? = some p) (hq : l[k + 1]? = some q) : p.y ≤ q.y := by
  induction l generalizing k with
  | nil => simp at hp
  | cons a t ih =>
    match t, k, hs with
    | [], k, _ => simp at hq
    | b :: t, 0, hs =>
      have e1 : a = p := by simpa using hp
      have e2 : b = q := by simpa using hq
      rw [← e1, ← e2]
      exact hs.2.1
    | b :: t, k + 1, hs => exact ih (k := k) hs.2.2 (by simpa using hp) (by simpa using hq)
/-- Scale gives the rise on a segment -/
theorem seg_ok {p q : PointV} {x : Int} (h1 : p.x ≤ x) (h2 : p.y ≤ q.y) (h3 : x < q.x) (h4 : 0 ≤ p.x) (h5 : q.x ≤ 1125899906842624) (h6 : 0 ≤ p.y) (h7 : q.y ≤ 1125899906842624) :
    scaleOk (x - p.x) (q.y - p.y) (q.x - p.x) = true ∧ interp p q x = (p.y + scaleQ (x - p.x) (q.y - p.y) (q.x - p.x), decide (0 < scaleM (x - p.x) (q.y - p.y) (q.x - p.x))) ∧ p.y + scaleQ (x - p.x) (q.y - p.y) (q.x - p.x) ≤ q.y := by
  have h := seg_hi (p := p) (q := q) (x := x) (by omega) h2 (by omega)
  have hle : (x - p.x) * (q.y - p.y) / (q.x - p.x) ≤ q.y - p.y := by
    have : (interp p q x).1 = p.y + (x - p.x) * (q.y - p.y) / (q.x - p.x) := rfl
    omega
  have ok : scaleOk (x - p.x) (q.y - p.y) (q.x - p.x) = true := scaleOk_iff.2 ⟨by omega, by omega, by omega, by omega, by omega, by omega, by omega⟩
  refine ⟨ok, ?_, ?_⟩
  · unfold scaleQ scaleM
    rw [if_pos ok, if_pos ok]
    rfl
  · unfold scaleQ
    rw [if_pos ok]
    omega
def RetIB (r : Int × Bool) (w : World) (e : Ending) (w' : World) : Prop := e = .returned (.tuple #[.int .i64 r.1, .bool r.2]) ∧ Below w.heap.size w w'
theorem retIB_mk {r : Int × Bool} {y : Int} {m : Bool} {w w' : World} (h : r = (y, m)) (hb : Below w.heap.size w w') : RetIB r w (.returned (.tuple #[.int .i64 y, .bool m])) w' := by subst h; exact ⟨rfl, hb⟩
theorem cell_of_at {l : List PointV} {a : Option Addr} {n c i : Nat} {p : PointV} {b o : Nat} {W : World} (hL : LArg RPoint 2 (.slice a n c) l W) (ha : a = some ⟨b, o, none⟩) (hp : l[i]? = some p) :
    W.cell? ⟨b, o + i * 2, none⟩ = some (.int .i64 p.x) ∧ W.cell? ⟨b, o + i * 2 + 1, none⟩ = some (.int .i64 p.y) := by
  obtain ⟨b', o', cs, ha', hbl, _, hrg, hcs⟩ := hL.at hp
  rw [ha] at ha'
  simp only [Option.some.injEq, Addr.mk.injEq, and_true] at ha'
  obtain ⟨rfl, rfl⟩ := ha'
  obtain ⟨rfl, -, -⟩ := hcs
  exact ⟨hrg 0 _ rfl, hrg 1 _ rfl⟩
theorem two_rowsV {w : World} {A B : Obj} : ((w.alloc A).alloc B).heap[w.heap.size]? = some A ∧ ((w.alloc A).alloc B).heap[w.heap.size + 1]? = some B ∧ Below w.heap.size w ((w.alloc A).alloc B) := by
  have s1 : (w.alloc A).heap.size = w.heap.size + 1 := by simp
  have r1 := heap_alloc_new w A
  have r2 := heap_alloc_new (w.alloc A) B
  rw [s1] at r2
  exact ⟨(heap_alloc_old _ _ (by omega)).trans r1, r2, ((Below.refl _ _).alloc (Nat.le_refl _) _).alloc (by simp) _⟩
set_option maxRecDepth 100000 in
set_option maxHeartbeats 4000000 in
theorem value_any (l : List PointV) (v : Value) (x : Int) (w : World) (hL : LArg RPoint 2 v l w) (hr : rightC l = true) : Calls Tryz.prog 105 #[v, .int .i64 x] w (RetIB (value l x) w) := by
  have hs := rightC_sorted hr
  have hn := rightC_at hr
  obtain ⟨a, c, rfl, hc, hm⟩ := hL.slice
  unfold maxLen at hm
  obtain ⟨r0, r1, rb⟩ := two_rowsV (w := w) (A := .cells #[.slice a l.length c] 65) (B := .cells #[.int .i64 x] 3)
  have HR0 := Lib.hid r0
  have HR1 := Lib.hid r1
  have HB := Lib.hid rb
  have HL := Lib.hid hL
  have HS := Lib.hid hs
  have hn1 := hn.1
  have hn2 := hn.2.1
  have HPT := Lib.hid (fun p hp => rightC_pt hr (p := p) hp)
  clear r0 r1 rb hL hs hn hr
  go_enter Tryz.func105, Tryz.ntmps105
  go_wp2_with fail
  refine (search_any l (.slice a l.length c) x w.heap.size (w.heap.size + 1) _ ((cell_of_row _ _ _ _ _ _ HR0.out).trans rfl) ((cell_of_row _ _ _ _ _ _ HR1.out).trans rfl) (HL.out.below stays_Point HB.out) HS.out hn2).mono ?_
  rintro e w1 ⟨k, hcnt, rfl, hb⟩
  have HC := Lib.hid hcnt
  have hk := hcnt.1
  have HB1 := Lib.hid (HB.out.trans (hb.mono HB.out.size))
  have HR01 := Lib.hid (blk_below HR0.out hb (blk_lt HR0.out))
  have HR11 := Lib.hid (blk_below HR1.out hb (blk_lt HR1.out))
  have HL1 := Lib.hid (HL.out.below stays_Point HB1.out)
  clear hcnt hb HR0 HR1 HB HL
  have q0 : w1.cell? ⟨w.heap.size, 0, none⟩ = some (.slice a l.length c) := (cell_of_row _ _ _ _ _ _ HR01.out).trans rfl
  have q1 : w1.cell? ⟨w.heap.size + 1, 0, none⟩ = some (.int .i64 x) := (cell_of_row _ _ _ _ _ _ HR11.out).trans rfl
  rcases k with _ | k
  · obtain ⟨p, hp⟩ : ∃ p, l[0]? = some p := ⟨_, List.getElem?_eq_getElem (by omega)⟩
    have HE : Hid (value l x = (p.y, false)) := Lib.hid (val_first hp (HC.out.2.2 0 p hp (Nat.le_refl _)))
    obtain ⟨b, o, cs, ha, -, -, -, -⟩ := HL1.out.at hp
    subst ha
    obtain ⟨c0, c1⟩ := cell_of_at HL1.out rfl hp
    rw [Nat.zero_mul, Nat.add_zero] at c0 c1
    have hl0 : 0 < l.length := by omega
    clear hp hk
    go_wp2_with fail
    go_ret2
    exact retIB_mk HE.out HB1.out
  · obtain ⟨p, hp⟩ : ∃ p, l[k]? = some p := ⟨_, List.getElem?_eq_getElem (by omega)⟩
    obtain ⟨b, o, cs, ha, hbl, -, -, -⟩ := HL1.out.at hp
    subst ha
    obtain ⟨c0, c1⟩ := cell_of_at HL1.out rfl hp
    have hz1 : w.heap.size + 1 < w1.heap.size := blk_lt HR11.out
    have hz0 : w.heap.size < w1.heap.size := by omega
    have hpx := HC.out.2.1 k p hp (by omega)
    have hpp := HPT.out p (List.mem_of_getElem? hp)
    have K1 : ((k + 1 : Nat) : Int) - 1 = (k : Int) := by omega
    have K3 : IntKind.i64.wrap (k : Int) = (k : Int) := IntWalk.i64_in _ (by omega)
    have K4 : ¬ ((k : Int) < 0) := by omega
    have K6 : k < l.length := by omega
    have t0 : ((((k + 1 : Nat) : Int)) == 0) = false := by rw [beq_eq_false_iff_ne]; omega
    have HP := Lib.hid hp
    clear hp
    by_cases hlast : k + 1 = l.length
    · have HE : Hid (value l x = (p.y, false)) := Lib.hid (val_last HS.out (by rw [← hlast]; exact HP.out) hpx)
      have t2 : ((k : Int) + 1 == (l.length : Int)) = true := by rw [beq_iff_eq]; omega
      clear hlast
      go_wp2_with fail
      go_ret2
      exact retIB_mk HE.out (HB1.out.alloc HB1.out.size _)
    · obtain ⟨q, hq⟩ : ∃ p, l[k + 1]? = some p := ⟨_, List.getElem?_eq_getElem (by omega)⟩
      obtain ⟨d0, d1⟩ := cell_of_at HL1.out rfl hq
      have hqx := HC.out.2.2 (k + 1) q hq (Nat.le_refl _)
      have hqq := HPT.out q (List.mem_of_getElem? hq)
      have hst := sorted_lt l k (k + 1) p q HS.out HP.out hq (by omega)
      have hy := okY HS.out HP.out hq
      have HE := Lib.hid (val_seg HS.out HP.out hq hpx hqx)
      have HSC := Lib.hid (seg_ok (p := p) (q := q) (x := x) (by omega) hy hqx (by omega) (by omega) (by omega) (by omega))
      have t1 : ((((k + 1 : Nat) : Int)) == (l.length : Int)) = false := by rw [beq_eq_false_iff_ne]; omega
      have t2 : ((k : Int) + 1 == (l.length : Int)) = false := by rw [beq_eq_false_iff_ne]; omega
      have t3 : ¬ (k : Int) + 1 = (l.length : Int) := by omega
      have K7 : k + 1 < l.length := by omega
      have HB2 := Lib.hid (HB1.out.alloc HB1.out.size (.cells #[.int .i64 p.x, .int .i64 p.y] 151))
      clear hq hlast
      go_upto_region 7 with fail
      have F1 : IntKind.i64.wrap (x - p.x) = x - p.x := IntWalk.i64_in _ (by omega)
      have F2 : IntKind.i64.wrap (q.y - p.y) = q.y - p.y := IntWalk.i64_in _ (by omega)
      have F3 : IntKind.i64.wrap (q.x - p.x) = q.x - p.x := IntWalk.i64_in _ (by omega)
      go_quiet ((go_at_call 118; exact Calls.quiet_of (scale_any _ _ _ _)))
      rw [HSC.out.1]
      have G1 := (scaleQ_bd (x - p.x) (q.y - p.y) (q.x - p.x))
      have G2 := HSC.out.2.2
      go_wp2_with fail
      go_ret2
      exact retIB_mk (HE.out.trans HSC.out.2.1) (below_drewN HB2.out)
end Go.Proofs.YtepidpegoihllaaGreatDoor
/- curve.Under. -/
namespace Go.Proofs.YtepidpegoihllaaGreatDoor
open Go.RowKit
def uA (b : List PointV) (p : PointV) : Bool := decide (p.y ≤ (value b p.x).1)
def uB (a : List PointV) (p : PointV) : Bool := decide ((value a p.x).1 < p.y) || (decide ((value a p.x).1 = p.y) && !(value a p.x).2)
theorem underC_eq (a b : List PointV) : underC a b = (rightC a && rightC b && a.all (uA b) && b.all (uB a)) := rfl
theorem all_of {l : List PointV} {f : PointV → Bool} (h : ∀ (j : Nat) (p : PointV), l[j]? = some p → f p = true) : l.all f = true := by
  rw [List.all_eq_true]
  intro p hp
  obtain ⟨i, hi⟩ := List.getElem?_of_mem hp
  exact h i p hi
theorem all_no {l : List PointV} {f : PointV → Bool} {j : Nat} {p : PointV} (hp : l[j]? = some p) (h : f p = false) : l.all f = false := by
  rw [List.all_eq_false]
  exact ⟨p, List.mem_of_getElem? hp, by rw [h]; simp⟩
theorem upto_succ {l : List PointV} {f : PointV → Bool} {k : Nat} {p : PointV} (hp : l[k]? = some p) (h : ∀ j q, j < k → l[j]? = some q → f q = true) (h1 : f p = true) : ∀ j q, j < k + 1 → l[j]? = some q → f q = true := fun j q hj hq => by
  rcases Nat.lt_or_eq_of_le (show j ≤ k by omega) with h2 | rfl
  · exact h j q h2 hq
  · rw [hp] at hq; cases hq; exact h1
set_option maxRecDepth 100000 in
set_option maxHeartbeats 8000000 in
theorem under_any (a b : List PointV) (va vb : Value) (w : World) (hA : LArg RPoint 2 va a w) (hB : LArg RPoint 2 vb b w) : Calls Tryz.prog 92 #[va, vb] w (RetB (underC a b) w) := by
  obtain ⟨pa, ca, rfl, hca, hma⟩ := hA.slice
  obtain ⟨pb, cb, rfl, hcb, hmb⟩ := hB.slice
  have HA := Lib.hid hA
  have HBB := Lib.hid hB
  clear hA hB hma hmb
  cases hr : rightC a
  · have HE : Hid (underC a b = false) := Lib.hid (by rw [underC_eq, hr]; rfl)
    have HR := Lib.hid hr
    clear hr
    go_enter Tryz.func92, Tryz.ntmps92
    go_wp2_with fail
    refine (right_anyG a _ _ HA.out).mono ?_
    rintro e w1 ⟨rfl, hb⟩
    rw [HR.out]
    go_wp2_with fail
    go_ret
    exact retB_mk HE.out hb
  cases hs : rightC b
  · have HE : Hid (underC a b = false) := Lib.hid (by rw [underC_eq, hr, hs]; rfl)
    have HR := Lib.hid hr
    have HS := Lib.hid hs
    clear hr hs
    go_enter Tryz.func92, Tryz.ntmps92
    go_wp2_with fail
    refine (right_anyG a _ _ HA.out).mono ?_
    rintro e w1 ⟨rfl, hb⟩
    rw [HR.out]
    go_wp2_with fail
    refine (right_anyG b _ _ (HBB.out.below stays_Point hb)).mono ?_
    rintro e w2 ⟨rfl, hb2⟩
    rw [HS.out]
    go_wp2_with fail
    go_ret
    exact retB_mk HE.out (hb.trans (hb2.mono hb.size))
  have hla := rightC_at hr
  have hlb := rightC_at hs
  have la2 := hla.2.1
  have lb2 := hlb.2.1
  have HR := Lib.hid hr
  have HS := Lib.hid hs
  clear hr hs hla hlb
  go_enter Tryz.func92, Tryz.ntmps92
  go_wp2_with fail
  refine (right_anyG a _ _ HA.out).mono ?_
  rintro e w1 ⟨rfl, hb⟩
  rw [HR.out]
  have HB1 := Lib.hid hb
  clear hb
  go_wp2_with fail
  refine (right_anyG b _ _ (HBB.out.below stays_Point HB1.out)).mono ?_
  rintro e w2 ⟨rfl, hb⟩
  rw [HS.out]
  have HB2 := Lib.hid (HB1.out.trans (hb.mono HB1.out.size))
  clear hb HB1
  go_wp2_with fail
  go_loopw [23] (fun iv wr => ∃ k : Nat, k ≤ a.length ∧ iv = .int .i64 k ∧ (∀ j q, j < k → a[j]? = some q → uA b q = true) ∧ Below w.heap.size w wr) (fun iv _ => a.length - (Go.RowKit.intOf iv).toNat)
  case atStart => exact ⟨0, Nat.zero_le _, rfl, (fun j q hj => by omega), HB2.out⟩
  case round =>
    obtain ⟨k, hk, rfl, hok, hb⟩ := hrel
    have HOK := Lib.hid hok
    have HBr := Lib.hid hb
    clear hok hb HB2
    by_cases hlt : k < a.length
    · obtain ⟨p, hp⟩ : ∃ p, a[k]? = some p := ⟨_, List.getElem?_eq_getElem hlt⟩
      obtain ⟨bk, o, cs, ha, hbl, _, hrg, hcs⟩ := (HA.out.below stays_Point HBr.out).at hp
      subst ha
      obtain ⟨rfl, hpx, hpy⟩ := hcs
      have c0 : wr.cell? ⟨bk, o + k * 2, none⟩ = some (.int .i64 p.x) := hrg 0 _ rfl
      have c1 : wr.cell? ⟨bk, o + k * 2 + 1, none⟩ = some (.int .i64 p.y) := hrg 1 _ rfl
      have HP := Lib.hid hp
      have HB3 := Lib.hid (HBr.out.alloc HBr.out.size (.cells #[.int .i64 p.x, .int .i64 p.y] 151))
      have HQ3 := Lib.hid (heap_alloc_new wr (.cells #[.int .i64 p.x, .int .i64 p.y] 151))
      clear hrg hp
      go_upto_region 6 with fail
      generalize wr.alloc (.cells #[.int .i64 p.x, .int .i64 p.y] 151) = w3 at *
      generalize wr.heap.size = bp at *
      clear c0 c1
      have d0 : w3.cell? ⟨bp, 0, none⟩ = some (.int .i64 p.x) := (cell_of_row _ _ _ _ _ _ HQ3.out).trans rfl
      go_wp2_with fail
      refine (value_any b _ p.x _ (HBB.out.below stays_Point HB3.out) HS.out).mono ?_
      rintro e w4 ⟨rfl, hb⟩
      have HB4 := Lib.hid (HB3.out.trans (hb.mono HB3.out.size))
      have e1 : w4.cell? ⟨bp, 1, none⟩ = some (.int .i64 p.y) := (cell_of_row _ _ _ _ _ _ (blk_below HQ3.out hb (blk_lt HQ3.out))).trans rfl
      obtain ⟨y, hy⟩ : ∃ y, y = (value b p.x).1 := ⟨_, rfl⟩
      rw [← hy]
      have HU : Hid (uA b p = decide (p.y ≤ y)) := Lib.hid (by rw [hy]; rfl)
      clear hb d0 HB3 HQ3 hy
      by_cases hc : y < p.y
      · have HE : Hid (underC a b = false) := Lib.hid (by rw [underC_eq, all_no HP.out (by rw [HU.out]; exact decide_eq_false (by omega)), Bool.and_false]; rfl)
        go_wp2_with fail
        go_ret
        exact retB_mk HE.out HB4.out
      · have HN := Lib.hid (upto_succ HP.out HOK.out (by rw [HU.out]; exact decide_eq_true (by omega)))
        go_wp2_with fail
        go_roundw
        case rel => exact ⟨k + 1, by omega, by go_num, HN.out, HB4.out⟩
        case measure => simp [Go.RowKit.intOf]; omega
    · have HAll : Hid (a.all (uA b) = true) := Lib.hid (all_of fun j p hj => HOK.out j p (by have := (List.getElem?_eq_some_iff.1 hj).1; omega) hj)
      go_wp2_with fail
      go_loopw [41] (fun iv wx => ∃ m : Nat, m ≤ b.length ∧ iv = .int .i64 m ∧ (∀ j q, j < m → b[j]? = some q → uB a q = true) ∧ Below w.heap.size w wx) (fun iv _ => b.length - (Go.RowKit.intOf iv).toNat)
      case atStart => exact ⟨0, Nat.zero_le _, rfl, (fun j q hj => by omega), HBr.out⟩
      case round =>
        obtain ⟨m, hm, rfl, hok, hb⟩ := hrel
        have HOM := Lib.hid hok
        have HBx := Lib.hid hb
        clear hok hb HBr
        by_cases hlm : m < b.length
        · obtain ⟨p, hp⟩ : ∃ p, b[m]? = some p := ⟨_, List.getElem?_eq_getElem hlm⟩
          obtain ⟨bk, o, cs, ha, hbl, _, hrg, hcs⟩ := (HBB.out.below stays_Point HBx.out).at hp
          subst ha
          obtain ⟨rfl, hpx, hpy⟩ := hcs
          have c0 : wr.cell? ⟨bk, o + m * 2, none⟩ = some (.int .i64 p.x) := hrg 0 _ rfl
          have c1 : wr.cell? ⟨bk, o + m * 2 + 1, none⟩ = some (.int .i64 p.y) := hrg 1 _ rfl
          have HP := Lib.hid hp
          have HB3 := Lib.hid (HBx.out.alloc HBx.out.size (.cells #[.int .i64 p.x, .int .i64 p.y] 151))
          have HQ3 := Lib.hid (heap_alloc_new wr (.cells #[.int .i64 p.x, .int .i64 p.y] 151))
          clear hrg hp
          go_upto_region 13 with fail
          generalize wr.alloc (.cells #[.int .i64 p.x, .int .i64 p.y] 151) = w3 at *
          generalize wr.heap.size = bp at *
          clear c0 c1
          have d0 : w3.cell? ⟨bp, 0, none⟩ = some (.int .i64 p.x) := (cell_of_row _ _ _ _ _ _ HQ3.out).trans rfl
          go_wp2_with fail
          refine (value_any a _ p.x _ (HA.out.below stays_Point HB3.out) HR.out).mono ?_
          rintro e w4 ⟨rfl, hb⟩
          have HB4 := Lib.hid (HB3.out.trans (hb.mono HB3.out.size))
          have e1 : w4.cell? ⟨bp, 1, none⟩ = some (.int .i64 p.y) := (cell_of_row _ _ _ _ _ _ (blk_below HQ3.out hb (blk_lt HQ3.out))).trans rfl
          obtain ⟨y, hy⟩ : ∃ y, y = (value a p.x).1 := ⟨_, rfl⟩
          obtain ⟨mo, hmo⟩ : ∃ z, z = (value a p.x).2 := ⟨_, rfl⟩
          rw [← hy, ← hmo]
          have HU : Hid (uB a p = (decide (y < p.y) || (decide (y = p.y) && !mo))) := Lib.hid (by rw [hy, hmo]; rfl)
          clear hb d0 HB3 HQ3 hy hmo
          by_cases hc : p.y < y
          · have HE : Hid (underC a b = false) := Lib.hid (by rw [underC_eq, all_no HP.out (by rw [HU.out, decide_eq_false (show ¬ y < p.y by omega), decide_eq_false (show ¬ y = p.y by omega)]; rfl), Bool.and_false])
            go_wp2_with fail
            go_ret
            exact retB_mk HE.out HB4.out
          · by_cases hq : y = p.y
            · cases mo
              · have HN := Lib.hid (upto_succ HP.out HOM.out (by rw [HU.out, decide_eq_true hq]; simp))
                have q1 : (y == p.y) = true := beq_iff_eq.2 hq
                clear hq
                go_wp2_with fail
                go_roundw
                case rel => exact ⟨m + 1, by omega, by go_num, HN.out, HB4.out⟩
                case measure => simp [Go.RowKit.intOf]; omega
              · have HE : Hid (underC a b = false) := Lib.hid (by rw [underC_eq, all_no HP.out (by rw [HU.out, decide_eq_false (show ¬ y < p.y by omega)]; simp), Bool.and_false])
                have q1 : (y == p.y) = true := beq_iff_eq.2 hq
                clear hq
                go_wp2_with fail
                go_ret
                exact retB_mk HE.out HB4.out
            · have HN := Lib.hid (upto_succ HP.out HOM.out (by rw [HU.out, decide_eq_true (show y < p.y by omega)]; rfl))
              have q1 : (y == p.y) = false := beq_eq_false_iff_ne.2 hq
              clear hq
              go_wp2_with fail
              go_roundw
              case rel => exact ⟨m + 1, by omega, by go_num, HN.out, HB4.out⟩
              case measure => simp [Go.RowKit.intOf]; omega
        · have HE : Hid (underC a b = true) := Lib.hid (by rw [underC_eq, HR.out, HS.out, HAll.out, all_of (fun j p hj => HOM.out j p (by have := (List.getElem?_eq_some_iff.1 hj).1; omega) hj)]; rfl)
          go_wp2_with fail
          go_ret
          exact retB_mk HE.out HBx.out
end Go.Proofs.YtepidpegoihllaaGreatDoor
