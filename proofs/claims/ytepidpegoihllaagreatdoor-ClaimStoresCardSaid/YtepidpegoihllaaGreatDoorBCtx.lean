/- Texts merged: BIn UAsks UDrift UBounds UEq BSlope BSteep BCtx -/
import Derived.Test.YtepidpegoihllaaGreatDoorUExact
import Derived.Deep.RegionHeld3
import Derived.BigQuiet
import Derived.Deep.QuietTactic
import Derived.Test.YtepidpegoihllaaGreatDoorVUnder
import Derived.Test.YtepidpegoihllaaGreatDoorVShelf
import Derived.Test.YtepidpegoihllaaGreatDoorLoad
import Derived.Deep.RegionLaw
import Derived.StillTailTactics
import Derived.Laws.StructEq
import Derived.Test.YtepidpegoihllaaGreatDoorSShelf
/- basin.in, volume, index and fraction. -/
namespace Go.Proofs.YtepidpegoihllaaGreatDoor
open Go.RowKit
def inB (n lo hi : Int) : Bool := decide (lo ≤ n) && decide (n ≤ hi)
def volB (n : Int) : Bool := inB n 0 1125899906842624
def fracB (n d : Int) : Bool := volB n && volB d && (d != 0 || n == 0)
theorem inB_iff {n lo hi : Int} : inB n lo hi = true ↔ lo ≤ n ∧ n ≤ hi := by
  unfold inB
  simp
theorem volB_iff {n : Int} : volB n = true ↔ 0 ≤ n ∧ n ≤ 1125899906842624 := inB_iff
theorem fracB_iff {n d : Int} : fracB n d = true ↔ 0 ≤ n ∧ n ≤ 1125899906842624 ∧ 0 ≤ d ∧ d ≤ 1125899906842624 ∧ (d = 0 → n = 0) := by
  unfold fracB
  simp only [Bool.and_eq_true, volB_iff, Bool.or_eq_true, bne_iff_ne, beq_iff_eq, ne_eq]
  by_cases h : d = 0
  · simp [h]; omega
  · simp [h]; omega
def SameB (b : Bool) (w : World) (e : Ending) (w' : World) : Prop := e = .returned (.bool b) ∧ w = w'
theorem sameB_mk {b c : Bool} {w : World} (h : b = c) : SameB b w (.returned (.bool c)) w := ⟨by rw [h], rfl⟩
set_option maxRecDepth 100000 in
set_option maxHeartbeats 1000000 in
theorem in_anyG (n lo hi : Int) (w : World) : Calls Tryz.prog 57 #[.int .i64 n, .int .i64 lo, .int .i64 hi] w (SameB (inB n lo hi) w) := by
  by_cases h1 : lo ≤ n
  · by_cases h2 : n ≤ hi
    · have HE : Hid (inB n lo hi = true) := Lib.hid (inB_iff.2 ⟨h1, h2⟩)
      go_enter Tryz.func57, Tryz.ntmps57
      go_wp2
      go_ret
      exact sameB_mk HE.out
    · have HE : Hid (inB n lo hi = false) := Lib.hid (by unfold inB; rw [decide_eq_false h2, Bool.and_false])
      go_enter Tryz.func57, Tryz.ntmps57
      go_wp2
      go_ret
      exact sameB_mk HE.out
  · have HE : Hid (inB n lo hi = false) := Lib.hid (by unfold inB; rw [decide_eq_false h1, Bool.false_and])
    go_enter Tryz.func57, Tryz.ntmps57
    go_wp2
    go_ret
    exact sameB_mk HE.out
set_option maxRecDepth 100000 in
set_option maxHeartbeats 1000000 in
theorem volume_any (n : Int) (w : World) : Calls Tryz.prog 58 #[.int .i64 n] w (SameB (volB n) w) := by
  go_enter Tryz.func58, Tryz.ntmps58
  go_wp2_with fail
  refine (in_anyG n 0 1125899906842624 _).mono ?_
  rintro e w1 ⟨rfl, rfl⟩
  go_wp2_with fail
  go_ret
  exact sameB_mk rfl
set_option maxRecDepth 100000 in
set_option maxHeartbeats 1000000 in
theorem index_any (n len : Int) (w : World) (hl : 0 ≤ len ∧ len ≤ 9223372036854775807) : Calls Tryz.prog 64 #[.int .i64 n, .int .i64 len] w (SameB (inB n 0 (len - 1)) w) := by
  go_enter Tryz.func64, Tryz.ntmps64
  go_wp2_with fail
  refine (in_anyG n 0 (len - 1) _).mono ?_
  rintro e w1 ⟨rfl, rfl⟩
  go_wp2_with fail
  go_ret
  exact sameB_mk rfl
set_option maxRecDepth 100000 in
set_option maxHeartbeats 1000000 in
theorem fraction_any (n d : Int) (w : World) : Calls Tryz.prog 62 #[.int .i64 n, .int .i64 d] w (SameB (fracB n d) w) := by
  cases h1 : volB n
  · have HE : Hid (fracB n d = false) := Lib.hid (by unfold fracB; rw [h1]; rfl)
    have H1 := Lib.hid h1
    clear h1
    go_enter Tryz.func62, Tryz.ntmps62
    go_wp2_with fail
    refine (volume_any n _).mono ?_
    rintro e w1 ⟨rfl, rfl⟩
    rw [H1.out]
    go_wp2_with fail
    go_ret
    exact sameB_mk HE.out
  · cases h2 : volB d
    · have HE : Hid (fracB n d = false) := Lib.hid (by unfold fracB; rw [h1, h2]; rfl)
      have H1 := Lib.hid h1
      have H2 := Lib.hid h2
      clear h1 h2
      go_enter Tryz.func62, Tryz.ntmps62
      go_wp2_with fail
      refine (volume_any n _).mono ?_
      rintro e w1 ⟨rfl, rfl⟩
      rw [H1.out]
      go_wp2_with fail
      refine (volume_any d _).mono ?_
      rintro e w1 ⟨rfl, rfl⟩
      rw [H2.out]
      go_wp2_with fail
      go_ret
      exact sameB_mk HE.out
    · have HE : Hid (fracB n d = (d != 0 || n == 0)) := Lib.hid (by unfold fracB; rw [h1, h2]; rfl)
      have H1 := Lib.hid h1
      have H2 := Lib.hid h2
      clear h1 h2
      by_cases h3 : d = 0
      · have b3 : (d != 0) = false := by rw [h3]; rfl
        have HF : Hid ((d != 0 || n == 0) = (n == 0)) := Lib.hid (by rw [b3]; rfl)
        clear h3
        go_enter Tryz.func62, Tryz.ntmps62
        go_wp2_with fail
        refine (volume_any n _).mono ?_
        rintro e w1 ⟨rfl, rfl⟩
        rw [H1.out]
        go_wp2_with fail
        refine (volume_any d _).mono ?_
        rintro e w1 ⟨rfl, rfl⟩
        rw [H2.out]
        go_wp2_with fail
        go_ret
        exact sameB_mk (HE.out.trans HF.out)
      · have b3 : (d != 0) = true := bne_iff_ne.2 h3
        have HF : Hid ((d != 0 || n == 0) = true) := Lib.hid (by rw [b3]; rfl)
        clear h3
        go_enter Tryz.func62, Tryz.ntmps62
        go_wp2_with fail
        refine (volume_any n _).mono ?_
        rintro e w1 ⟨rfl, rfl⟩
        rw [H1.out]
        go_wp2_with fail
        refine (volume_any d _).mono ?_
        rintro e w1 ⟨rfl, rfl⟩
        rw [H2.out]
        go_wp2_with fail
        go_ret
        exact sameB_mk (HE.out.trans HF.out)
end Go.Proofs.YtepidpegoihllaaGreatDoor
/- gate.head and asks. -/
namespace Go.Proofs.YtepidpegoihllaaGreatDoor
open Go.RowKit
theorem I64.of {n : Int} (h : -9223372036854775808 ≤ n ∧ n ≤ 9223372036854775807) : I64 n := h
theorem undLk : Tryz.prog.underlying 72 = some (.struct (Tryz.prog.fieldsOf 72)) := by kernel_rfl
theorem infoLk : (Tryz.prog.info? 72).map (·.size) = some 18 := by kernel_rfl
end Go.Proofs.YtepidpegoihllaaGreatDoor
/- gate.Ask and Drift. -/
namespace Go.Proofs.YtepidpegoihllaaGreatDoor
open Go.RowKit
theorem rowNG {w : World} {b : Nat} {cs : Array Value} {t : TypeId} (h : w.heap[b]? = some (.cells cs t (0, 0))) : ∀ j (v : Value), cs[j]? = some v → w.cell? ⟨b, j, none⟩ = some v := fun j v hj => by
  rw [cell_of_row _ _ _ _ _ _ h]
  exact hj
end Go.Proofs.YtepidpegoihllaaGreatDoor
/- gate.Bounds. -/
namespace Go.Proofs.YtepidpegoihllaaGreatDoor
open Go.RowKit
theorem cell_other {w : World} {b c j i : Nat} {v x : Value} (h : w.cell? ⟨b, j, none⟩ = some v) (hne : b ≠ c) : (w.setCell ⟨c, i, none⟩ x).cell? ⟨b, j, none⟩ = some v := by
  rw [← h]
  unfold World.cell?
  rw [heap_setCell_other _ _ _ _ hne]
end Go.Proofs.YtepidpegoihllaaGreatDoor
/- Equality of gates and of spans, few and valid, package span. -/
namespace Go.Proofs.YtepidpegoihllaaGreatDoor
open Go.RowKit
/-- a load of a whole struct behind '&&' -/
theorem wpList_load_rowWG {P : Program} {Q : Exit → Act → World → Prop} {a : Act} {w : World} {ops : Array Oper} {rest : List Oper} {o : Oper} (hgd : Region.wanted o (yielded ops a.tmps) = true) (ty : TypeId) (x : Operand) (ho : o.op = .load ty x)
    (g : Nat) (hx : a.eval x = .pointer (some ⟨g, 0, none⟩)) (t : TypeId) (cs : Array Value) (fr : Nat × Nat) (d : TypeDesc) (hg : w.heap[g]? = some (.cells cs t fr))
    (hu : P.underlying ty = some d) (hd : (match d with | .struct _ | .array _ _ => true | _ => false) = true) (hi : (P.info? ty).map (·.size) = some cs.size)
    (h : wpList P ops Q rest (a.put o.dst (.agg cs)) w) : wpList P ops Q (o :: rest) a w :=
  wpList_step fun _ hK => by
    rw [if_pos hgd]
    exact wp_load_row ty x ho g hx t cs fr d hg hu hd hi (hK _ _ h)
/-- valid -/
def ValidG (l : LinkV) (g : GateV) : Prop := 0 ≤ g.pos ∧ g.pos ≤ l.positions ∧ 0 ≤ g.target ∧ g.target ≤ l.positions
instance (l : LinkV) (g : GateV) : Decidable (ValidG l g) := by unfold ValidG; infer_instance
end Go.Proofs.YtepidpegoihllaaGreatDoor
/- basin.slope; loads of structs that lie anywhere. -/
namespace Go.Proofs.YtepidpegoihllaaGreatDoor
open Go.RowKit
theorem run_loadVar_rangeG {P : Program} (w : World) (b o : Nat) (ty : TypeId) (cs : List Value) (d : TypeDesc) (h : w.rangeAt b o cs)
    (hu : P.underlying ty = some d) (hd : (match d with | .struct _ | .array _ _ => true | _ => false) = true) (hi : (P.info? ty).map (·.size) = some cs.length) :
    (loadVar ty ⟨b, o, none⟩).run P w = .ok (.agg cs.toArray) w := by
  have hl : (loadCells ⟨b, o, none⟩ cs.length).run P w = .ok cs.toArray w :=
    run_loadCells_list (P := P) w ⟨b, o, none⟩ cs (fun j v hv => by
      rw [Addr.add_mid]
      exact h j v hv)
  cases hq : P.info? ty with
  | none => simp [hq] at hi
  | some i =>
    have hs : i.size = cs.length := by simpa [hq] using hi
    have hagg : (isAgg ty).run P w = .ok true w := by
      unfold isAgg
      rw [Sem.run_bind, run_underlying hu w]
      cases d <;> simp_all
    simp [loadVar, Sem.run_bind, hagg, sizeOf, typeInfo, hq, hs, hl]
theorem wpList_load_rangeG {P : Program} {Q : Exit → Act → World → Prop} {a : Act} {w : World} {ops : Array Oper} {rest : List Oper} {o : Oper} (hgd : Region.wanted o (yielded ops a.tmps) = true) (ty : TypeId) (x : Operand) (ho : o.op = .load ty x)
    (b k : Nat) (hx : a.eval x = .pointer (some ⟨b, k, none⟩)) (cs : List Value) (d : TypeDesc) (h : w.rangeAt b k cs)
    (hu : P.underlying ty = some d) (hd : (match d with | .struct _ | .array _ _ => true | _ => false) = true) (hi : (P.info? ty).map (·.size) = some cs.length)
    (hK : wpList P ops Q rest (a.put o.dst (.agg cs.toArray)) w) : wpList P ops Q (o :: rest) a w :=
  wpList_step fun K hk => by
    rw [if_pos hgd]
    unfold Oper.wp execOp
    simp only [ho, hx, Instr.loadAt, Instr.sureAddr, Sem.run_bind, Sem.run_pure, Result.andThen_ok, run_loadVar_rangeG w b k ty cs d h hu hd hi]
    exact hk _ _ hK
/-- what slope returns -/
def slopeN (n d : Int) : Int := if d = 0 then 0 else if d < n then 1099511627777 else n * 1099511627776 / d + (if n * 1099511627776 % d = 0 then 0 else 1)
theorem slope_ok {n d : Int} (hn : 0 ≤ n) (hd : 0 ≤ d) : 0 ≤ slopeN n d ∧ slopeN n d ≤ 1099511627777 ∧ (d ≠ 0 → slopeN n d ≤ 1099511627776 → n ≤ d) := by
  unfold slopeN
  by_cases h0 : d = 0
  · rw [if_pos h0]; exact ⟨by decide, by decide, fun h => absurd h0 h⟩
  · rw [if_neg h0]
    by_cases h1 : d < n
    · rw [if_pos h1]; exact ⟨by decide, by decide, fun _ h => by omega⟩
    · rw [if_neg h1]
      have h2 := Int.ediv_nonneg (Int.mul_nonneg hn (show (0 : Int) ≤ 1099511627776 by decide)) hd
      have h3 : n * 1099511627776 / d ≤ 1099511627776 := by
        have k : n * 1099511627776 ≤ 1099511627776 * d := by rw [Int.mul_comm]; exact Int.mul_le_mul_of_nonneg_left (by omega) (by decide)
        have := Int.ediv_le_ediv (show 0 < d by omega) k
        rwa [Int.mul_ediv_cancel _ h0] at this
      split <;> exact ⟨by omega, by omega, fun _ _ => by omega⟩
def SlopePost (n d : Int) (w : World) (e : Ending) (w' : World) : Prop := e = .returned (.int .i64 (slopeN n d)) ∧ ∃ m, w' = w.drewN m
theorem slope_mk {n d s : Int} {w : World} (m : Nat) (h : slopeN n d = s) : SlopePost n d w (.returned (.int .i64 s)) (w.drewN m) := ⟨by rw [h], m, rfl⟩
theorem slope_mk0 {n d s : Int} {w : World} (h : slopeN n d = s) : SlopePost n d w (.returned (.int .i64 s)) w := ⟨by rw [h], 0, rfl⟩
set_option maxRecDepth 100000 in
set_option maxHeartbeats 4000000 in
theorem slope_nat (n d : Nat) (w : World) (hn : n ≤ 1125899906842624) (hd : d ≤ 1125899906842624) : Calls Tryz.prog 68 #[.int .i64 n, .int .i64 d] w (SlopePost n d w) := by
  by_cases h0 : d = 0
  · have HP : Hid (slopeN n d = 0) := Lib.hid (by unfold slopeN; rw [if_pos (by omega)])
    have b0 : ((d : Int) == 0) = true := by rw [h0]; rfl
    clear h0
    go_enter Tryz.func68, Tryz.ntmps68
    go_wp2_with fail
    go_ret
    exact slope_mk0 HP.out
  · have b0 : ((d : Int) == 0) = false := by rw [beq_eq_false_iff_ne]; omega
    by_cases h1 : d < n
    · have HP : Hid (slopeN n d = 1099511627777) := Lib.hid (by unfold slopeN; rw [if_neg (by omega), if_pos (by omega)])
      have t1 : decide ((d : Int) < (n : Int)) = true := decide_eq_true (by omega)
      have t2 : (d : Int) < (n : Int) := by omega
      clear h0
      go_enter Tryz.func68, Tryz.ntmps68
      go_wp2_with fail
      go_ret
      exact slope_mk0 HP.out
    · have t2 : ¬ (d : Int) < (n : Int) := by omega
      obtain ⟨h, hh⟩ : ∃ h, h = n * 1099511627776 / 18446744073709551616 := ⟨_, rfl⟩
      obtain ⟨l, hl⟩ : ∃ l, l = n * 1099511627776 % 18446744073709551616 := ⟨_, rfl⟩
      have hlb : l < 18446744073709551616 := by rw [hl]; exact Nat.mod_lt _ (by decide)
      have hp : n * 1099511627776 = h * 18446744073709551616 + l := by rw [hh, hl, Nat.div_add_mod']
      have hhd : h < d := by omega
      obtain ⟨q, hq⟩ : ∃ q, q = (h * 18446744073709551616 + l) / d := ⟨_, rfl⟩
      obtain ⟨r, hr⟩ : ∃ r, r = (h * 18446744073709551616 + l) % d := ⟨_, rfl⟩
      have hqI : (n : Int) * 1099511627776 / (d : Int) = (q : Int) := by rw [hq, ← hp, Int.natCast_ediv, Int.natCast_mul]; rfl
      have hrI : (n : Int) * 1099511627776 % (d : Int) = (r : Int) := by rw [hr, ← hp, Int.natCast_emod, Int.natCast_mul]; rfl
      have HV : Hid (slopeN n d = (q : Int) + (if (r : Int) = 0 then 0 else 1)) := Lib.hid (by unfold slopeN; rw [if_neg (by omega), if_neg t2, hqI, hrI])
      have hqb := (slope_ok (n := (n : Int)) (d := (d : Int)) (by omega) (by omega)).2.1
      rw [HV.out] at hqb
      have HH := Lib.hid hh
      have HL := Lib.hid hl
      have HLB := Lib.hid hlb
      have HQ := Lib.hid hq
      have HR := Lib.hid hr
      have W1 : IntKind.u64.wrap (n : Int) = (n : Int) := IntWalk.u64_in _ (by omega)
      have W2 : IntKind.u64.wrap (d : Int) = (d : Int) := IntWalk.u64_in _ (by omega)
      clear hh hl hlb hp hq hr hqI hrI h0 h1
      by_cases hr0 : r = 0
      · have br : ((r : Int) != 0) = false := by rw [hr0]; rfl
        have HP : Hid (slopeN n d = q) := Lib.hid (by rw [HV.out, if_pos (by omega)]; omega)
        have q1 : q ≤ 1099511627777 := by split at hqb <;> omega
        clear hr0 hqb
        go_enter Tryz.func68, Tryz.ntmps68
        go_wp2_with fail
        refine (Tryz.bits_Mul64 n 1099511627776 (by omega) (by decide) _).mono ?_
        rintro e w1 ⟨rfl, rfl⟩
        rw [← HH.out, ← HL.out]
        go_wp2_with fail
        refine (div64_any h l d _ hhd (by omega) HLB.out).mono ?_
        rintro e w2 ⟨rfl, m, rfl⟩
        rw [← HQ.out, ← HR.out]
        go_wp2_with fail
        go_ret
        exact slope_mk m HP.out
      · have br : ((r : Int) != 0) = true := by rw [bne_iff_ne]; omega
        have HP : Hid (slopeN n d = (q : Int) + 1) := Lib.hid (by rw [HV.out, if_neg (by omega)])
        have q1 : q ≤ 1099511627776 := by split at hqb <;> omega
        clear hr0 hqb
        go_enter Tryz.func68, Tryz.ntmps68
        go_wp2_with fail
        refine (Tryz.bits_Mul64 n 1099511627776 (by omega) (by decide) _).mono ?_
        rintro e w1 ⟨rfl, rfl⟩
        rw [← HH.out, ← HL.out]
        go_wp2_with fail
        refine (div64_any h l d _ hhd (by omega) HLB.out).mono ?_
        rintro e w2 ⟨rfl, m, rfl⟩
        rw [← HQ.out, ← HR.out]
        go_wp2_with fail
        go_ret
        exact slope_mk m HP.out
theorem slope_any (n d : Int) (w : World) (hn : 0 ≤ n ∧ n ≤ 1125899906842624) (hd : 0 ≤ d ∧ d ≤ 1125899906842624) : Calls Tryz.prog 68 #[.int .i64 n, .int .i64 d] w (SlopePost n d w) := by
  obtain ⟨x, rfl⟩ := Int.eq_ofNat_of_zero_le hn.1
  obtain ⟨y, rfl⟩ := Int.eq_ofNat_of_zero_le hd.1
  exact slope_nat x y w (by omega) (by omega)
end Go.Proofs.YtepidpegoihllaaGreatDoor
/- basin.steepest: at least the slope of every segment. -/
namespace Go.Proofs.YtepidpegoihllaaGreatDoor
open Go.RowKit
/-- the first n points rise by no more than s -/
def SlUp (c : List PointV) (n : Nat) (s : Int) : Prop := ∀ i p q, i + 1 < n → c[i]? = some p → c[i + 1]? = some q → slopeN (q.y - p.y) (q.x - p.x) ≤ s
theorem SlUp.le {c : List PointV} {n : Nat} {s t : Int} (h : SlUp c n s) (hs : s ≤ t) : SlUp c n t := fun i p q h1 h2 h3 => Int.le_trans (h i p q h1 h2 h3) hs
theorem SlUp.next {c : List PointV} {n : Nat} {s : Int} {p q : PointV} (h : SlUp c n s) (hp : c[n - 1]? = some p) (hq : c[n]? = some q) (hn : 1 ≤ n) : SlUp c (n + 1) (max s (slopeN (q.y - p.y) (q.x - p.x))) := fun i a b h1 h2 h3 => by
  rcases Nat.lt_or_eq_of_le (show i + 1 ≤ n by omega) with h4 | h4
  · have := h i a b h4 h2 h3
    omega
  · have e : i = n - 1 := by omega
    subst e
    rw [h4, hq] at h3
    rw [hp] at h2
    cases h2
    cases h3
    omega
theorem gentle_of_up {c : List PointV} (hr : rightC c = true) (h : SlUp c c.length 1099511627776) : Gentle c := gentle_of c fun i q p hq hp => by
  have hl := (List.getElem?_eq_some_iff.1 hp).1
  have h1 := h i q p hl hq hp
  have h2 := sorted_lt c i (i + 1) q p (rightC_sorted hr) hq hp (by omega)
  have h3 := okY (rightC_sorted hr) hq hp
  exact (slope_ok (n := p.y - q.y) (d := p.x - q.x) (by omega) (by omega)).2.2 (by omega) h1
def SteepPost (cs : List (List PointV)) (w : World) (e : Ending) (w' : World) : Prop := ∃ s : Int, (0 ≤ s ∧ s ≤ 1099511627777 ∧ ∀ c ∈ cs, SlUp c c.length s) ∧ e = .returned (.int .i64 s) ∧ Below w.heap.size w w'
set_option maxRecDepth 100000 in
set_option maxHeartbeats 8000000 in
theorem steep_any (cs : List (List PointV)) (v : Value) (w : World) (hL : LArg (RList RPoint 2) 1 v cs w) (hr : ∀ c ∈ cs, rightC c = true) (hn : cs.length ≤ 10) : Calls Tryz.prog 69 #[v] w (SteepPost cs w) := by
  obtain ⟨pa, ca, rfl, hca, hma⟩ := hL.slice
  have HL := Lib.hid hL
  have HR := Lib.hid hr
  clear hL hr hma
  go_enter Tryz.func69, Tryz.ntmps69
  go_wp2_with fail
  go_loopw [3, 9] (fun sv kv wr => ∃ (s : Int) (k : Nat), sv = .int .i64 s ∧ kv = .int .i64 k ∧ k ≤ cs.length ∧ 0 ≤ s ∧ s ≤ 1099511627777 ∧ (∀ j c, j < k → cs[j]? = some c → SlUp c c.length s) ∧ Below w.heap.size w wr) (fun _ kv _ => cs.length - (Go.RowKit.intOf kv).toNat)
  case atStart => exact ⟨0, 0, rfl, rfl, Nat.zero_le _, by decide, by decide, (fun j c hj => by omega), Below.refl _ _⟩
  case round =>
    obtain ⟨s, k, rfl, rfl, hk, s1, s2, hup, hb⟩ := hrel
    have HUP := Lib.hid hup
    have HB := Lib.hid hb
    clear hup hb
    by_cases hlt : k < cs.length
    · obtain ⟨c, hc⟩ : ∃ c, cs[k]? = some c := ⟨_, List.getElem?_eq_getElem hlt⟩
      obtain ⟨b, o, cl, ha, hbl, _, hrg, hcs⟩ := (HL.out.below (stays_list stays_Point 2) HB.out).at hc
      subst ha
      obtain ⟨vc, rfl, hvc⟩ := hcs
      obtain ⟨pc, cc, rfl, hcc, hmc⟩ := hvc.slice
      unfold maxLen at hmc
      have c0 : wr.cell? ⟨b, o + k * 1, none⟩ = some (.slice pc c.length cc) := hrg 0 _ rfl
      rw [Nat.mul_one] at c0
      have hrc := HR.out c (List.mem_of_getElem? hc)
      have hl1 := (rightC_at hrc).1
      have hl2 := (rightC_at hrc).2.1
      have HRC := Lib.hid hrc
      have HVC := Lib.hid (show LArg RPoint 2 (.slice pc c.length cc) c wr from hvc)
      have HC := Lib.hid hc
      clear hrg hc hvc hrc
      go_wp2_with fail
      go_loopw [3, 6] (fun sv iv wx => ∃ (t : Int) (i : Nat), sv = .int .i64 t ∧ iv = .int .i64 i ∧ 1 ≤ i ∧ i ≤ c.length ∧ s ≤ t ∧ t ≤ 1099511627777 ∧ SlUp c i t ∧ Below wr.heap.size wr wx) (fun _ iv _ => c.length - (Go.RowKit.intOf iv).toNat)
      case atStart => exact ⟨s, 1, rfl, rfl, Nat.le_refl _, hl1, Int.le_refl _, s2, (fun i p q h => by omega), Below.refl _ _⟩
      case round =>
        obtain ⟨t, i, rfl, rfl, i1, i2, t1, t2, hsl, hb⟩ := hrel
        have HSL := Lib.hid hsl
        have HBx := Lib.hid hb
        clear hsl hb c0
        by_cases hli : i < c.length
        · obtain ⟨q, hq⟩ : ∃ p, c[i]? = some p := ⟨_, List.getElem?_eq_getElem hli⟩
          obtain ⟨p, hp⟩ : ∃ p, c[i - 1]? = some p := ⟨_, List.getElem?_eq_getElem (by omega)⟩
          obtain ⟨m, rfl⟩ : ∃ m, i = m + 1 := ⟨i - 1, by omega⟩
          rw [Nat.add_sub_cancel] at hp
          have hVX := HVC.out.below stays_Point HBx.out
          obtain ⟨b2, o2, cl2, ha2, -, -, -, -⟩ := hVX.at hq
          subst ha2
          obtain ⟨q0, q1⟩ := cell_of_at hVX rfl hq
          obtain ⟨p0, p1⟩ := cell_of_at hVX rfl hp
          have hqq := rightC_pt HRC.out (List.mem_of_getElem? hq)
          have hpp := rightC_pt HRC.out (List.mem_of_getElem? hp)
          have hst := sorted_lt c m (m + 1) p q (rightC_sorted HRC.out) hp hq (by omega)
          have hsy := okY (rightC_sorted HRC.out) hp hq
          have K1 : ((m + 1 : Nat) : Int) - 1 = (m : Int) := by omega
          have K3 : IntKind.i64.wrap (m : Int) = (m : Int) := IntWalk.i64_in _ (by omega)
          have K4 : ¬ ((m : Int) < 0) := by omega
          have K5 : (0 : Int) ≤ (m : Int) := by omega
          have K6 : m < c.length := by omega
          have F1 : IntKind.i64.wrap (q.y - p.y) = q.y - p.y := IntWalk.i64_in _ (by omega)
          have F2 : IntKind.i64.wrap (q.x - p.x) = q.x - p.x := IntWalk.i64_in _ (by omega)
          have HN := Lib.hid (HSL.out.next (by rw [Nat.add_sub_cancel]; exact hp) hq (by omega))
          have HSB := Lib.hid (slope_ok (n := q.y - p.y) (d := q.x - p.x) (by omega) (by omega)).2.1
          have HSA := Lib.hid (slope_any (q.y - p.y) (q.x - p.x))
          have A1 : Hid (0 ≤ q.y - p.y ∧ q.y - p.y ≤ 1125899906842624) := Lib.hid (by omega)
          have A2 : Hid (0 ≤ q.x - p.x ∧ q.x - p.x ≤ 1125899906842624) := Lib.hid (by omega)
          clear hq hp hVX
          go_wp2_with fail
          go_quiet ((go_at_call 68; exact Calls.quiet_of (HSA.out _ A1.out A2.out)))
          have HSB2 := HSB.out
          generalize slopeN (q.y - p.y) (q.x - p.x) = z at *
          clear F1 F2 K1 K3 q0 q1 p0 p1
          go_wp2_with fail
          go_roundw
          case rel => exact ⟨max t z, m + 1 + 1, rfl, by go_num, by omega, by omega, by omega, by omega, HN.out, below_drewN HBx.out⟩
          case measure => simp [Go.RowKit.intOf]; omega
        · have HD : Hid (SlUp c c.length t) := Lib.hid (by have e : i = c.length := by omega
                                                           rw [← e]; exact HSL.out)
          have HU2 : Hid (∀ j c', j < k + 1 → cs[j]? = some c' → SlUp c' c'.length t) := Lib.hid fun j c' hj hc' => by
            rcases Nat.lt_or_eq_of_le (show j ≤ k by omega) with h2 | rfl
            · exact (HUP.out j c' h2 hc').le t1
            · rw [HC.out] at hc'; cases hc'; exact HD.out
          go_wp2_with fail
          go_roundw
          case rel => exact ⟨t, k + 1, rfl, by go_num, by omega, by omega, t2, HU2.out, HB.out.trans (HBx.out.mono HB.out.size)⟩
          case measure => simp [Go.RowKit.intOf]; omega
    · go_wp2_with fail
      go_ret
      refine ⟨s, ⟨s1, s2, fun c hc => ?_⟩, rfl, HB.out⟩
      obtain ⟨j, hj⟩ := List.getElem?_of_mem hc
      exact HUP.out j c (by have := (List.getElem?_eq_some_iff.1 hj).1; omega) hj
end Go.Proofs.YtepidpegoihllaaGreatDoor
/- A basin that came in, in memory. -/
namespace Go.Proofs.YtepidpegoihllaaGreatDoor
open Go.RowKit
structure BasinS (b : BasinV) (p0 p1 p2 p3 p4 p5 p6 p7 : Option Addr) (q0 q1 q2 q3 q4 q5 q6 q7 : Nat) (w : World) : Prop where
  l0 : LArg RStr 1 (.slice p0 b.owners.length q0) b.owners w
  l1 : LArg RPlace 12 (.slice p1 b.places.length q1) b.places w
  l2 : LArg RLink 18 (.slice p2 b.links.length q2) b.links w
  l3 : LArg RTown 7 (.slice p3 b.towns.length q3) b.towns w
  l4 : LArg RGauge 5 (.slice p4 b.gauges.length q4) b.gauges w
  l5 : LArg RRoad 7 (.slice p5 b.roads.length q5) b.roads w
  l6 : LArg RShelter 2 (.slice p6 b.shelters.length q6) b.shelters w
  l7 : LArg RInt 1 (.slice p7 b.room.length q7) b.room w
theorem BasinS.below {b : BasinV} {p0 p1 p2 p3 p4 p5 p6 p7 : Option Addr} {q0 q1 q2 q3 q4 q5 q6 q7 : Nat} {w w' : World} (h : BasinS b p0 p1 p2 p3 p4 p5 p6 p7 q0 q1 q2 q3 q4 q5 q6 q7 w) (hb : Below w.heap.size w w') : BasinS b p0 p1 p2 p3 p4 p5 p6 p7 q0 q1 q2 q3 q4 q5 q6 q7 w' :=
  ⟨h.l0.below stays_str hb, h.l1.below stays_Place hb, h.l2.below stays_Link hb, h.l3.below stays_Town hb, h.l4.below stays_Gauge hb, h.l5.below stays_Road hb, h.l6.below stays_Shelter hb, h.l7.below stays_int hb⟩
/-- what rightHead asks of the lengths -/
def BasinLen (b : BasinV) : Prop := 1 ≤ b.owners.length ∧ b.owners.length ≤ 16 ∧ 1 ≤ b.places.length ∧ b.places.length ≤ 64 ∧ b.links.length ≤ 96 ∧ b.towns.length ≤ 40 ∧ b.gauges.length ≤ 128 ∧ b.roads.length ≤ 128 ∧ b.shelters.length ≤ 40 ∧ b.room.length ≤ 3
/-- a Bool that, if true, says P -/
def RetT (P : Prop) (w : World) (e : Ending) (w' : World) : Prop := ∃ b : Bool, (b = true → P) ∧ e = .returned (.bool b) ∧ Below w.heap.size w w'
theorem retT_no {P : Prop} {w w' : World} (hb : Below w.heap.size w w') : RetT P w (.returned (.bool false)) w' := ⟨false, (fun h => by cases h), rfl, hb⟩
theorem retT_yes {P : Prop} {w w' : World} (h : P) (hb : Below w.heap.size w w') : RetT P w (.returned (.bool true)) w' := ⟨true, fun _ => h, rfl, hb⟩
theorem undTn : Tryz.prog.underlying 103 = some (.struct (Tryz.prog.fieldsOf 103)) := by kernel_rfl
theorem infoTn : (Tryz.prog.info? 103).map (·.size) = some 7 := by kernel_rfl
theorem undGg : Tryz.prog.underlying 107 = some (.struct (Tryz.prog.fieldsOf 107)) := by kernel_rfl
theorem infoGg : (Tryz.prog.info? 107).map (·.size) = some 5 := by kernel_rfl
theorem undRo : Tryz.prog.underlying 109 = some (.struct (Tryz.prog.fieldsOf 109)) := by kernel_rfl
theorem infoRo : (Tryz.prog.info? 109).map (·.size) = some 7 := by kernel_rfl
theorem undSh : Tryz.prog.underlying 105 = some (.struct (Tryz.prog.fieldsOf 105)) := by kernel_rfl
theorem infoSh : (Tryz.prog.info? 105).map (·.size) = some 2 := by kernel_rfl
theorem undPl : Tryz.prog.underlying 68 = some (.struct (Tryz.prog.fieldsOf 68)) := by kernel_rfl
theorem infoPl : (Tryz.prog.info? 68).map (·.size) = some 12 := by kernel_rfl
theorem undBa : Tryz.prog.underlying 31 = some (.struct (Tryz.prog.fieldsOf 31)) := by kernel_rfl
theorem infoBa : (Tryz.prog.info? 31).map (·.size) = some 11 := by kernel_rfl
end Go.Proofs.YtepidpegoihllaaGreatDoor
