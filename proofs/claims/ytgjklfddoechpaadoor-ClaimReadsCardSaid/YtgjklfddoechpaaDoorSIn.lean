/- group.In, Inv, AddQ. -/
import Derived.Test.YtgjklfddoechpaaDoorSExp
namespace Go.Proofs.YtgjklfddoechpaaDoor
open Go.RowKit
def InG (y : Int) : Prop := 1 ≤ y ∧ y < 2305843009213691579 ∧ y.toNat ^ gQ % gP = 1
instance (y : Int) : Decidable (InG y) := by
  unfold InG
  exact @instDecidableAnd _ _ _ (@instDecidableAnd _ _ _ (Nat.decEq _ _))
theorem resN_in {y : Int} (h1 : 1 ≤ y) (h2 : y < 2305843009213691579) : resN y gP = y.toNat := by
  obtain ⟨n, rfl⟩ : ∃ n : Nat, y = n := ⟨y.toNat, by omega⟩
  rw [Int.toNat_natCast]
  exact resN_of (show n < 2305843009213691579 by omega)
set_option maxRecDepth 100000 in
set_option maxHeartbeats 2000000 in
theorem in_any (y : Int) (w : World) (hy : -9223372036854775808 ≤ y ∧ y ≤ 9223372036854775807) :
    ∃ b : Bool, (b = true ↔ InG y) ∧ Calls Tryd.prog 48 #[.int .i64 y] w fun e w' => e = .returned (.bool b) ∧ ∃ n, w' = w.drewN n := by
  by_cases h1 : 1 ≤ y
  · by_cases h2 : y < 2305843009213691579
    · obtain ⟨z, hz⟩ : ∃ z, z = resN y gP ^ (1152921504606845789 : Int).toNat % gP := ⟨_, rfl⟩
      have hz2 : z = y.toNat ^ gQ % gP := by rw [hz, resN_in h1 h2]; rfl
      have HZ := Lib.hid hz
      have HY := Lib.hid hy
      clear hz hy
      have t1 : decide (1 ≤ y) = true := decide_eq_true h1
      have t2 : decide (y < 2305843009213691579) = true := decide_eq_true h2
      by_cases h3 : z = 1
      · refine ⟨true, ⟨fun _ => ⟨h1, h2, by rw [← hz2]; exact h3⟩, fun _ => rfl⟩, ?_⟩
        have H3 := Lib.hid h3
        have t3 : ((z : Int) == 1) = true := by rw [beq_iff_eq]; omega
        clear h1 h2 h3 hz2
        go_enter Tryd.func48, Tryd.ntmps48
        go_wp2_with fail
        refine (exp_any y 1152921504606845789 _ HY.out (by decide)).mono ?_
        rintro e w1 ⟨rfl, n, rfl⟩
        rw [← HZ.out]
        go_wp2_with fail
        go_ret
        exact ⟨rfl, n, rfl⟩
      · refine ⟨false, ⟨(fun h => by cases h), fun h => absurd (hz2.trans h.2.2) h3⟩, ?_⟩
        have t3 : ((z : Int) == 1) = false := by rw [beq_eq_false_iff_ne]; omega
        clear h1 h2 h3 hz2
        go_enter Tryd.func48, Tryd.ntmps48
        go_wp2_with fail
        refine (exp_any y 1152921504606845789 _ HY.out (by decide)).mono ?_
        rintro e w1 ⟨rfl, n, rfl⟩
        rw [← HZ.out]
        go_wp2_with fail
        go_ret
        exact ⟨rfl, n, rfl⟩
    · refine ⟨false, ⟨(fun h => by cases h), fun h => absurd h.2.1 h2⟩, ?_⟩
      have t1 : decide (1 ≤ y) = true := decide_eq_true h1
      have t2 : decide (y < 2305843009213691579) = false := decide_eq_false h2
      clear h1 h2
      go_enter Tryd.func48, Tryd.ntmps48
      go_wp2_with fail
      go_ret
      exact ⟨rfl, 0, rfl⟩
  · refine ⟨false, ⟨(fun h => by cases h), fun h => absurd h.1 h1⟩, ?_⟩
    have t1 : decide (1 ≤ y) = false := decide_eq_false h1
    clear h1
    go_enter Tryd.func48, Tryd.ntmps48
    go_wp2_with fail
    go_ret
    exact ⟨rfl, 0, rfl⟩
set_option maxRecDepth 100000 in
set_option maxHeartbeats 2000000 in
theorem addQ_any (a b : Int) (w : World) (ha : -9223372036854775808 ≤ a ∧ a ≤ 9223372036854775807) (hb : -9223372036854775808 ≤ b ∧ b ≤ 9223372036854775807) :
    Calls Tryd.prog 54 #[.int .i64 a, .int .i64 b] w fun e w' => e = .returned (.int .i64 ((resN a gQ + resN b gQ) % gQ : Nat)) ∧ w' = w := by
  obtain ⟨x, hx⟩ : ∃ x, x = resN a gQ := ⟨_, rfl⟩
  obtain ⟨y, hy⟩ : ∃ y, y = resN b gQ := ⟨_, rfl⟩
  have hxm : x < 1152921504606845789 := by rw [hx]; exact resN_lt a (show 0 < gQ by decide)
  have hym : y < 1152921504606845789 := by rw [hy]; exact resN_lt b (show 0 < gQ by decide)
  obtain ⟨z, hz⟩ : ∃ z, z = (x + y) % gQ := ⟨_, rfl⟩
  have FZ : ((x : Int) + (y : Int)) % 1152921504606845789 = (z : Int) := by rw [hz]; exact (Int.natCast_emod (x + y) gQ).symm
  have HX := Lib.hid hx
  have HY := Lib.hid hy
  have HZ := Lib.hid hz
  have HA := Lib.hid ha
  have HB := Lib.hid hb
  rw [← hx, ← hy, ← hz]
  clear hx hy hz ha hb
  go_enter Tryd.func54, Tryd.ntmps54
  go_wp2_with fail
  refine (residue_any a gQ _ HA.out (by decide) (by decide)).mono ?_
  rintro e w1 ⟨rfl, rfl⟩
  rw [← HX.out]
  go_wp2_with fail
  refine (residue_any b gQ _ HB.out (by decide) (by decide)).mono ?_
  rintro e w1 ⟨rfl, rfl⟩
  rw [← HY.out]
  go_wp2_with fail
  go_ret
  exact ⟨congrArg (fun v => Ending.returned (Value.int .i64 v)) FZ, rfl⟩
end Go.Proofs.YtgjklfddoechpaaDoor
