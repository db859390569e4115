/- exact.Scale and gate.part. -/
import Derived.Test.YtkoobkcmmfdlhaaUExact
import Derived.Test.YtkoobkcmmfdlhaaSDiv
import Derived.Outline
namespace Go.Proofs.Ytkoobkcmmfdlhaa
open Go.RowKit
def ScalePost (a n d : Int) (w : World) (e : Ending) (w' : World) : Prop :=
  e = .returned (.tuple #[.int .i64 (scaleQ a n d), .int .i64 (scaleM a n d), .bool (scaleOk a n d)]) ∧ ∃ m, w' = w.drewN m
theorem scale_no {a n d : Int} {w : World} {m : Nat} (h : ¬ scaleOk a n d = true) : ScalePost a n d w (.returned (.tuple #[.int .i64 0, .int .i64 0, .bool false])) (w.drewN m) := by
  have h' : scaleOk a n d = false := by simpa using h
  unfold ScalePost scaleQ scaleM
  rw [h']
  exact ⟨rfl, m, rfl⟩
theorem scale_no0 {a n d : Int} {w : World} (h : ¬ scaleOk a n d = true) : ScalePost a n d w (.returned (.tuple #[.int .i64 0, .int .i64 0, .bool false])) w := scale_no (m := 0) h
theorem scale_yes {a n d : Int} {q r : Nat} {w : World} {m : Nat} (h : scaleOk a n d = true) (hq : (q : Int) = a * n / d) (hr : (r : Int) = a * n % d) : ScalePost a n d w (.returned (.tuple #[.int .i64 q, .int .i64 r, .bool true])) (w.drewN m) := by
  unfold ScalePost scaleQ scaleM
  rw [if_pos h, if_pos h, hq, hr, h]
  exact ⟨rfl, m, rfl⟩
set_option maxRecDepth 100000 in
set_option maxHeartbeats 2000000 in
theorem scale_out (a n d : Int) (w : World) (h : ¬ (0 ≤ a ∧ a ≤ 1125899906842624 ∧ 0 ≤ n ∧ n ≤ 1125899906842624 ∧ 1 ≤ d ∧ d ≤ 1125899906842624)) :
    Calls Try.prog 45 #[.int .i64 a, .int .i64 n, .int .i64 d] w (ScalePost a n d w) := by
  have H0 : Hid (¬ scaleOk a n d = true) := Lib.hid fun k => h (by have := scaleOk_iff.1 k; omega)
  by_cases h1 : a < 0
  · clear h
    go_enter Try.func45, Try.ntmps45
    go_wp2
    exact bodyPost_ret (v := .tuple #[.int .i64 0, .int .i64 0, .bool false]) (by simp [results, Try.results45, go_sem]) rfl (scale_no0 H0.out)
  · by_cases h2 : 1125899906842624 < a
    · clear h
      go_enter Try.func45, Try.ntmps45
      go_wp2
      exact bodyPost_ret (v := .tuple #[.int .i64 0, .int .i64 0, .bool false]) (by simp [results, Try.results45, go_sem]) rfl (scale_no0 H0.out)
    · by_cases h3 : n < 0
      · clear h
        go_enter Try.func45, Try.ntmps45
        go_wp2
        exact bodyPost_ret (v := .tuple #[.int .i64 0, .int .i64 0, .bool false]) (by simp [results, Try.results45, go_sem]) rfl (scale_no0 H0.out)
      · by_cases h4 : 1125899906842624 < n
        · clear h
          go_enter Try.func45, Try.ntmps45
          go_wp2
          exact bodyPost_ret (v := .tuple #[.int .i64 0, .int .i64 0, .bool false]) (by simp [results, Try.results45, go_sem]) rfl (scale_no0 H0.out)
        · by_cases h5 : d < 1
          · clear h
            go_enter Try.func45, Try.ntmps45
            go_wp2
            exact bodyPost_ret (v := .tuple #[.int .i64 0, .int .i64 0, .bool false]) (by simp [results, Try.results45, go_sem]) rfl (scale_no0 H0.out)
          · have h6 : 1125899906842624 < d := by omega
            clear h
            go_enter Try.func45, Try.ntmps45
            go_wp2
            exact bodyPost_ret (v := .tuple #[.int .i64 0, .int .i64 0, .bool false]) (by simp [results, Try.results45, go_sem]) rfl (scale_no0 H0.out)
set_option maxRecDepth 100000 in
set_option maxHeartbeats 2000000 in
theorem scale_in (a n d : Nat) (w : World) (ha : a ≤ 1125899906842624) (hn : n ≤ 1125899906842624) (hd0 : 1 ≤ d) (hd : d ≤ 1125899906842624) :
    Calls Try.prog 45 #[.int .i64 a, .int .i64 n, .int .i64 d] w (ScalePost a n d w) := by
  obtain ⟨h, hh⟩ : ∃ h, h = a * n / 18446744073709551616 := ⟨_, rfl⟩
  obtain ⟨l, hl⟩ : ∃ l, l = a * n % 18446744073709551616 := ⟨_, rfl⟩
  have hlb : l < 18446744073709551616 := by rw [hl]; exact Nat.mod_lt _ (by decide)
  have hp : a * n = h * 18446744073709551616 + l := by rw [hh, hl, Nat.div_add_mod']
  have HH := Lib.hid hh
  have HL := Lib.hid hl
  have HLB := Lib.hid hlb
  have e1 : ∀ x : Nat, x ≤ 1125899906842624 → IntKind.u64.wrap (x : Int) = (x : Int) := fun x hx => IntWalk.u64_in _ (by omega)
  have W1 := e1 a ha
  have W2 := e1 n hn
  have W3 := e1 d hd
  clear hh hl e1 hlb
  by_cases hhi : h < d
  · obtain ⟨q, hq⟩ : ∃ q, q = (h * 18446744073709551616 + l) / d := ⟨_, rfl⟩
    obtain ⟨r, hr⟩ : ∃ r, r = (h * 18446744073709551616 + l) % d := ⟨_, rfl⟩
    have HQ := Lib.hid hq
    have HR := Lib.hid hr
    have hrd : r < d := by rw [hr]; exact Nat.mod_lt _ hd0
    have HP := Lib.hid hp
    have t1 : ¬ (d : Int) ≤ (h : Int) := by omega
    clear hp hq hr
    by_cases hqm : q ≤ 1125899906842624
    · have W4 : IntKind.i64.wrap (q : Int) = (q : Int) := IntWalk.i64_in _ (by omega)
      have W5 : IntKind.i64.wrap (r : Int) = (r : Int) := IntWalk.i64_in _ (by omega)
      have t2 : ¬ (1125899906842624 : Int) < (q : Int) := by omega
      have G1 : Hid ((q : Int) = (a : Int) * n / d) := Lib.hid (by rw [← Int.natCast_mul, HP.out, ← Int.natCast_ediv, ← HQ.out])
      have G2 : Hid ((r : Int) = (a : Int) * n % d) := Lib.hid (by rw [← Int.natCast_mul, HP.out, ← Int.natCast_emod, ← HR.out])
      have G3 : Hid (scaleOk a n d = true) := Lib.hid (scaleOk_iff.2 ⟨by omega, by omega, by omega, by omega, by omega, by omega, by rw [← G1.out]; omega⟩)
      go_enter Try.func45, Try.ntmps45
      go_wp2_with fail
      refine (Try.bits_Mul64 a n (by omega) (by omega) _).mono ?_
      rintro e w1 ⟨rfl, rfl⟩
      rw [← HH.out, ← HL.out]
      go_wp2_with fail
      refine (div64_any h l d _ hhi (by omega) HLB.out).mono ?_
      rintro e w2 ⟨rfl, m, rfl⟩
      rw [← HQ.out, ← HR.out]
      go_wp2_with fail
      exact bodyPost_ret (v := .tuple #[.int .i64 q, .int .i64 r, .bool true]) (by simp [results, Try.results45, go_sem]) rfl (scale_yes G3.out G1.out G2.out)
    · have t2 : (1125899906842624 : Int) < (q : Int) := by omega
      have G3 : Hid (¬ scaleOk a n d = true) := Lib.hid fun k => by
        have k2 := (scaleOk_iff.1 k).2.2.2.2.2.2
        rw [← Int.natCast_mul, HP.out, ← Int.natCast_ediv, ← HQ.out] at k2
        omega
      go_enter Try.func45, Try.ntmps45
      go_wp2_with fail
      refine (Try.bits_Mul64 a n (by omega) (by omega) _).mono ?_
      rintro e w1 ⟨rfl, rfl⟩
      rw [← HH.out, ← HL.out]
      go_wp2_with fail
      refine (div64_any h l d _ hhi (by omega) HLB.out).mono ?_
      rintro e w2 ⟨rfl, m, rfl⟩
      rw [← HQ.out, ← HR.out]
      go_wp2_with fail
      exact bodyPost_ret (v := .tuple #[.int .i64 0, .int .i64 0, .bool false]) (by simp [results, Try.results45, go_sem]) rfl (scale_no G3.out)
  · have t1 : (d : Int) ≤ (h : Int) := by omega
    have G3 : Hid (¬ scaleOk a n d = true) := Lib.hid fun k => by
      have k2 := (scaleOk_iff.1 k).2.2.2.2.2.2
      rw [← Int.natCast_mul, hp, ← Int.natCast_ediv] at k2
      have k3 := Nat.div_le_div_right (c := d) (show d * 18446744073709551616 ≤ h * 18446744073709551616 + l by omega)
      rw [Nat.mul_div_cancel_left _ hd0] at k3
      omega
    clear hp
    go_enter Try.func45, Try.ntmps45
    go_wp2_with fail
    refine (Try.bits_Mul64 a n (by omega) (by omega) _).mono ?_
    rintro e w1 ⟨rfl, rfl⟩
    rw [← HH.out, ← HL.out]
    go_wp2_with fail
    exact bodyPost_ret (v := .tuple #[.int .i64 0, .int .i64 0, .bool false]) (by simp [results, Try.results45, go_sem]) rfl (scale_no0 G3.out)
theorem scale_any (a n d : Int) (w : World) : Calls Try.prog 45 #[.int .i64 a, .int .i64 n, .int .i64 d] w (ScalePost a n d w) := by
  by_cases h : 0 ≤ a ∧ a ≤ 1125899906842624 ∧ 0 ≤ n ∧ n ≤ 1125899906842624 ∧ 1 ≤ d ∧ d ≤ 1125899906842624
  · obtain ⟨h1, h2, h3, h4, h5, h6⟩ := h
    obtain ⟨x, rfl⟩ := Int.eq_ofNat_of_zero_le h1
    obtain ⟨y, rfl⟩ := Int.eq_ofNat_of_zero_le h3
    obtain ⟨z, rfl⟩ := Int.eq_ofNat_of_zero_le (show 0 ≤ d by omega)
    exact scale_in x y z w (by omega) (by omega) (by omega) (by omega)
  · exact scale_out a n d w h
set_option maxRecDepth 100000 in
set_option maxHeartbeats 1000000 in
theorem part_any (a n d : Int) (w : World) : Calls Try.prog 40 #[.int .i64 a, .int .i64 n, .int .i64 d] w fun e w' => e = .returned (.int .i64 (scaleQ a n d)) ∧ ∃ m, w' = w.drewN m := by
  cases hk : scaleOk a n d
  · have HE : Hid (scaleQ a n d = 0) := Lib.hid (by unfold scaleQ; rw [hk]; rfl)
    have HK := Lib.hid hk
    clear hk
    go_enter Try.func40, Try.ntmps40
    go_wp2_with fail
    refine (scale_any a n d _).mono ?_
    rintro e w1 ⟨rfl, m, rfl⟩
    rw [HK.out]
    go_wp2_with fail
    go_ret
    exact ⟨ret_int HE.out.symm, m, rfl⟩
  · have HK := Lib.hid hk
    clear hk
    go_enter Try.func40, Try.ntmps40
    go_wp2_with fail
    refine (scale_any a n d _).mono ?_
    rintro e w1 ⟨rfl, m, rfl⟩
    rw [HK.out]
    go_wp2_with fail
    go_ret
    exact ⟨rfl, m, rfl⟩
end Go.Proofs.Ytkoobkcmmfdlhaa
