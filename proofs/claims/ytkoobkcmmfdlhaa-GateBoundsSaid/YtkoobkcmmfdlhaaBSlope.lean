/- basin.slope; loads of structs that lie anywhere. -/
import Derived.Test.YtkoobkcmmfdlhaaVUnder
import Derived.Test.YtkoobkcmmfdlhaaBIn
import Derived.Test.YtkoobkcmmfdlhaaUEq
namespace Go.Proofs.Ytkoobkcmmfdlhaa
open Go.RowKit
theorem run_loadVar_range {P : Program} (w : World) (b o : Nat) (ty : TypeId) (cs : List Value) (d : TypeDesc) (h : w.rangeAt b o cs)
    (hu : P.underlying ty = some d) (hd : (match d with | .struct _ | .array _ _ => true | _ => false) = true) (hi : (P.info? ty).map (·.size) = some cs.length) :
    (loadVar ty ⟨b, o, none⟩).run P w = .ok (.agg cs.toArray) w := by
  have hl : (loadCells ⟨b, o, none⟩ cs.length).run P w = .ok cs.toArray w :=
    run_loadCells_list (P := P) w ⟨b, o, none⟩ cs (fun j v hv => by
      rw [Addr.add_mid]
      exact h j v hv)
  cases hq : P.info? ty with
  | none => simp [hq] at hi
  | some i =>
    have hs : i.size = cs.length := by simpa [hq] using hi
    have hagg : (isAgg ty).run P w = .ok true w := by
      unfold isAgg
      rw [Sem.run_bind, run_underlying hu w]
      cases d <;> simp_all
    simp [loadVar, Sem.run_bind, hagg, sizeOf, typeInfo, hq, hs, hl]
theorem wpList_load_range {P : Program} {Q : Exit → Act → World → Prop} {a : Act} {w : World} {ops : Array Oper} {rest : List Oper} {o : Oper} (hgd : Region.wanted o (yielded ops a.tmps) = true) (ty : TypeId) (x : Operand) (ho : o.op = .load ty x)
    (b k : Nat) (hx : a.eval x = .pointer (some ⟨b, k, none⟩)) (cs : List Value) (d : TypeDesc) (h : w.rangeAt b k cs)
    (hu : P.underlying ty = some d) (hd : (match d with | .struct _ | .array _ _ => true | _ => false) = true) (hi : (P.info? ty).map (·.size) = some cs.length)
    (hK : wpList P ops Q rest (a.put o.dst (.agg cs.toArray)) w) : wpList P ops Q (o :: rest) a w :=
  wpList_step fun K hk => by
    rw [if_pos hgd]
    unfold Oper.wp execOp
    simp only [ho, hx, Instr.loadAt, Instr.sureAddr, Sem.run_bind, Sem.run_pure, Result.andThen_ok, run_loadVar_range w b k ty cs d h hu hd hi]
    exact hk _ _ hK
/-- what slope returns -/
def slopeN (n d : Int) : Int := if d = 0 then 0 else if d < n then 1099511627777 else n * 1099511627776 / d + (if n * 1099511627776 % d = 0 then 0 else 1)
theorem slope_ok {n d : Int} (hn : 0 ≤ n) (hd : 0 ≤ d) : 0 ≤ slopeN n d ∧ slopeN n d ≤ 1099511627777 ∧ (d ≠ 0 → slopeN n d ≤ 1099511627776 → n ≤ d) := by
  unfold slopeN
  by_cases h0 : d = 0
  · rw [if_pos h0]; exact ⟨by decide, by decide, fun h => absurd h0 h⟩
  · rw [if_neg h0]
    by_cases h1 : d < n
    · rw [if_pos h1]; exact ⟨by decide, by decide, fun _ h => by omega⟩
    · rw [if_neg h1]
      have h2 := Int.ediv_nonneg (Int.mul_nonneg hn (show (0 : Int) ≤ 1099511627776 by decide)) hd
      have h3 : n * 1099511627776 / d ≤ 1099511627776 := by
        have k : n * 1099511627776 ≤ 1099511627776 * d := by rw [Int.mul_comm]; exact Int.mul_le_mul_of_nonneg_left (by omega) (by decide)
        have := Int.ediv_le_ediv (show 0 < d by omega) k
        rwa [Int.mul_ediv_cancel _ h0] at this
      split <;> exact ⟨by omega, by omega, fun _ _ => by omega⟩
def SlopePost (n d : Int) (w : World) (e : Ending) (w' : World) : Prop := e = .returned (.int .i64 (slopeN n d)) ∧ ∃ m, w' = w.drewN m
theorem slope_mk {n d s : Int} {w : World} (m : Nat) (h : slopeN n d = s) : SlopePost n d w (.returned (.int .i64 s)) (w.drewN m) := ⟨by rw [h], m, rfl⟩
theorem slope_mk0 {n d s : Int} {w : World} (h : slopeN n d = s) : SlopePost n d w (.returned (.int .i64 s)) w := ⟨by rw [h], 0, rfl⟩
set_option maxRecDepth 100000 in
set_option maxHeartbeats 4000000 in
theorem slope_nat (n d : Nat) (w : World) (hn : n ≤ 1125899906842624) (hd : d ≤ 1125899906842624) : Calls Try.prog 56 #[.int .i64 n, .int .i64 d] w (SlopePost n d w) := by
  by_cases h0 : d = 0
  · have HP : Hid (slopeN n d = 0) := Lib.hid (by unfold slopeN; rw [if_pos (by omega)])
    have b0 : ((d : Int) == 0) = true := by rw [h0]; rfl
    clear h0
    go_enter Try.func56, Try.ntmps56
    go_wp2_with fail
    go_ret
    exact slope_mk0 HP.out
  · have b0 : ((d : Int) == 0) = false := by rw [beq_eq_false_iff_ne]; omega
    by_cases h1 : d < n
    · have HP : Hid (slopeN n d = 1099511627777) := Lib.hid (by unfold slopeN; rw [if_neg (by omega), if_pos (by omega)])
      have t1 : decide ((d : Int) < (n : Int)) = true := decide_eq_true (by omega)
      have t2 : (d : Int) < (n : Int) := by omega
      clear h0
      go_enter Try.func56, Try.ntmps56
      go_wp2_with fail
      go_ret
      exact slope_mk0 HP.out
    · have t2 : ¬ (d : Int) < (n : Int) := by omega
      obtain ⟨h, hh⟩ : ∃ h, h = n * 1099511627776 / 18446744073709551616 := ⟨_, rfl⟩
      obtain ⟨l, hl⟩ : ∃ l, l = n * 1099511627776 % 18446744073709551616 := ⟨_, rfl⟩
      have hlb : l < 18446744073709551616 := by rw [hl]; exact Nat.mod_lt _ (by decide)
      have hp : n * 1099511627776 = h * 18446744073709551616 + l := by rw [hh, hl, Nat.div_add_mod']
      have hhd : h < d := by omega
      obtain ⟨q, hq⟩ : ∃ q, q = (h * 18446744073709551616 + l) / d := ⟨_, rfl⟩
      obtain ⟨r, hr⟩ : ∃ r, r = (h * 18446744073709551616 + l) % d := ⟨_, rfl⟩
      have hqI : (n : Int) * 1099511627776 / (d : Int) = (q : Int) := by rw [hq, ← hp, Int.natCast_ediv, Int.natCast_mul]; rfl
      have hrI : (n : Int) * 1099511627776 % (d : Int) = (r : Int) := by rw [hr, ← hp, Int.natCast_emod, Int.natCast_mul]; rfl
      have HV : Hid (slopeN n d = (q : Int) + (if (r : Int) = 0 then 0 else 1)) := Lib.hid (by unfold slopeN; rw [if_neg (by omega), if_neg t2, hqI, hrI])
      have hqb := (slope_ok (n := (n : Int)) (d := (d : Int)) (by omega) (by omega)).2.1
      rw [HV.out] at hqb
      have HH := Lib.hid hh
      have HL := Lib.hid hl
      have HLB := Lib.hid hlb
      have HQ := Lib.hid hq
      have HR := Lib.hid hr
      have W1 : IntKind.u64.wrap (n : Int) = (n : Int) := IntWalk.u64_in _ (by omega)
      have W2 : IntKind.u64.wrap (d : Int) = (d : Int) := IntWalk.u64_in _ (by omega)
      clear hh hl hlb hp hq hr hqI hrI h0 h1
      by_cases hr0 : r = 0
      · have br : ((r : Int) != 0) = false := by rw [hr0]; rfl
        have HP : Hid (slopeN n d = q) := Lib.hid (by rw [HV.out, if_pos (by omega)]; omega)
        have q1 : q ≤ 1099511627777 := by split at hqb <;> omega
        clear hr0 hqb
        go_enter Try.func56, Try.ntmps56
        go_wp2_with fail
        refine (Try.bits_Mul64 n 1099511627776 (by omega) (by decide) _).mono ?_
        rintro e w1 ⟨rfl, rfl⟩
        rw [← HH.out, ← HL.out]
        go_wp2_with fail
        refine (div64_any h l d _ hhd (by omega) HLB.out).mono ?_
        rintro e w2 ⟨rfl, m, rfl⟩
        rw [← HQ.out, ← HR.out]
        go_wp2_with fail
        go_ret
        exact slope_mk m HP.out
      · have br : ((r : Int) != 0) = true := by rw [bne_iff_ne]; omega
        have HP : Hid (slopeN n d = (q : Int) + 1) := Lib.hid (by rw [HV.out, if_neg (by omega)])
        have q1 : q ≤ 1099511627776 := by split at hqb <;> omega
        clear hr0 hqb
        go_enter Try.func56, Try.ntmps56
        go_wp2_with fail
        refine (Try.bits_Mul64 n 1099511627776 (by omega) (by decide) _).mono ?_
        rintro e w1 ⟨rfl, rfl⟩
        rw [← HH.out, ← HL.out]
        go_wp2_with fail
        refine (div64_any h l d _ hhd (by omega) HLB.out).mono ?_
        rintro e w2 ⟨rfl, m, rfl⟩
        rw [← HQ.out, ← HR.out]
        go_wp2_with fail
        go_ret
        exact slope_mk m HP.out
theorem slope_any (n d : Int) (w : World) (hn : 0 ≤ n ∧ n ≤ 1125899906842624) (hd : 0 ≤ d ∧ d ≤ 1125899906842624) : Calls Try.prog 56 #[.int .i64 n, .int .i64 d] w (SlopePost n d w) := by
  obtain ⟨x, rfl⟩ := Int.eq_ofNat_of_zero_le hn.1
  obtain ⟨y, rfl⟩ := Int.eq_ofNat_of_zero_le hd.1
  exact slope_nat x y w (by omega) (by omega)
end Go.Proofs.Ytkoobkcmmfdlhaa
