/- exact.Sum at lists of small numbers. -/
import Derived.Test.YtokbandookjdjaaGreatZBase
import Derived.Laws.Externs
import Derived.IntWalk
namespace Go.Proofs.YtokbandookjdjaaGreat
open Go.RowKit
theorem run_add (x y c : Int) (hx : 0 ≤ x) (hy : 0 ≤ y) (hc0 : 0 ≤ c) (hc : c ≤ 1) (w : World) : (callFunc 78 #[.int .u64 x, .int .u64 y, .int .u64 c]).run Tryz.prog w = .ok (.value (.tuple #[.int .u64 ((x + y + c) % 18446744073709551616), .int .u64 ((x + y + c) / 18446744073709551616)])) w := by
  rw [run_callFunc_extern Tryz.func78 (by kernel_rfl) (by kernel_rfl) (by kernel_rfl) (e := add64Entry) (by kernel_rfl), run_add64 x y c hx hy hc0 hc]
  rfl
def loS (s : Int) : Int := s % 18446744073709551616
def hiS (s : Int) : Int := if s < 0 then 18446744073709551615 else 0
theorem sum_bd : ∀ (l : List Int), (∀ x ∈ l, -1099511627776 ≤ x ∧ x ≤ 1099511627776) → -1099511627776 * l.length ≤ l.sum ∧ l.sum ≤ 1099511627776 * l.length
  | [], _ => by simp
  | x :: l, h => by
    have h1 := sum_bd l fun y hy => h y (by simp [hy])
    have h2 := h x (by simp)
    rw [List.sum_cons, List.length_cons]
    omega
theorem take_sum {l : List Int} {k : Nat} {x : Int} (h : l[k]? = some x) : (l.take (k + 1)).sum = (l.take k).sum + x := by
  rw [List.take_add_one, h, List.sum_append]
  simp
theorem wrap_u (n : Int) : IntKind.u64.wrap n = n % 18446744073709551616 := by simp [IntKind.wrap, IntKind.bits, IntKind.signed]
theorem sum_step (s x : Int) (hs1 : -21990232555520 ≤ s) (hs2 : s ≤ 21990232555520) (hx1 : -1099511627776 ≤ x) (hx2 : x ≤ 1099511627776) :
    0 ≤ (loS s + IntKind.u64.wrap x + 0) / 18446744073709551616 ∧ (loS s + IntKind.u64.wrap x + 0) / 18446744073709551616 ≤ 1 ∧ (loS s + IntKind.u64.wrap x + 0) % 18446744073709551616 = loS (s + x) ∧
    (hiS s + IntKind.u64.wrap (x / 9223372036854775808) + (loS s + IntKind.u64.wrap x + 0) / 18446744073709551616) % 18446744073709551616 = hiS (s + x) ∧ 0 ≤ loS s ∧ 0 ≤ IntKind.u64.wrap x ∧ 0 ≤ hiS s ∧ 0 ≤ IntKind.u64.wrap (x / 9223372036854775808) := by
  rw [wrap_u, wrap_u]
  unfold loS hiS
  by_cases h1 : s < 0 <;> by_cases h2 : s + x < 0 <;> (first | rw [if_pos h1] | rw [if_neg h1]) <;> (first | rw [if_pos h2] | rw [if_neg h2]) <;> by_cases h3 : x < 0 <;> omega
set_option maxRecDepth 100000 in
set_option maxHeartbeats 4000000 in
theorem sum_any (l : List Int) (v : Value) (w : World) (hL : LArg RInt 1 v l w) (hn : l.length ≤ 20) (hb : ∀ x ∈ l, -1099511627776 ≤ x ∧ x ≤ 1099511627776) :
    Calls Tryz.prog 41 #[v] w fun e w' => e = .returned (.tuple #[.int .i64 l.sum, .bool true]) ∧ Below w.heap.size w w' := by
  obtain ⟨a, c, rfl, _, _⟩ := hL.slice
  have HL := Lib.hid hL
  have HB := Lib.hid hb
  clear hL hb
  go_enter Tryz.func41, Tryz.ntmps41
  go_wp2_with fail
  go_loopw [4, 5, 11] (fun hv lv iv wr => ∃ k : Nat, k ≤ l.length ∧ hv = .int .u64 (hiS (l.take k).sum) ∧ lv = .int .u64 (loS (l.take k).sum) ∧ iv = .int .i64 k ∧ Below w.heap.size w wr) (fun _ _ iv _ => l.length - (intOf iv).toNat)
  case atStart => exact ⟨0, Nat.zero_le _, rfl, rfl, rfl, Below.refl _ _⟩
  case round =>
    obtain ⟨k, hk, rfl, rfl, rfl, hB⟩ := hrel
    have HBw := Lib.hid hB
    have hbd := sum_bd (l.take k) fun x hx => HB.out x (List.mem_of_mem_take hx)
    have hlen : ((l.take k).length : Int) ≤ 20 := by rw [List.length_take]; omega
    have hk0 : (0 : Int) ≤ ((l.take k).length : Int) := by omega
    obtain ⟨s, hs⟩ : ∃ s, s = (l.take k).sum := ⟨_, rfl⟩
    rw [← hs] at hbd ⊢
    have hs1 : -21990232555520 ≤ s := by omega
    have hs2 : s ≤ 21990232555520 := by omega
    have HS := Lib.hid hs
    clear hB hbd hlen hk0 hs
    by_cases hlt : k < l.length
    · have H1 : Hid (l[k]? = some l[k]) := Lib.hid (List.getElem?_eq_getElem hlt)
      obtain ⟨b, o, cs, rfl, hbl, hcl, hra, rfl, hx1, hx2⟩ := (HL.out.below stays_int HBw.out).at H1.out
      have hx := HB.out _ (List.mem_of_getElem? H1.out)
      have HN := Lib.hid (take_sum H1.out)
      rw [← HS.out] at HN
      generalize l[k] = x at *
      have hcell : wr.cell? ⟨b, o + k, none⟩ = some (.int .i64 x) := by
        have := hra 0 (.int .i64 x) rfl
        rw [Nat.mul_one] at this
        exact this
      clear hra hcl
      have hltz : (k : Int) < (l.length : Int) := by omega
      have hstep := sum_step s x hs1 hs2 hx.1 hx.2
      obtain ⟨cy, hcy⟩ : ∃ cy, cy = (loS s + IntKind.u64.wrap x + 0) / 18446744073709551616 := ⟨_, rfl⟩
      rw [← hcy] at hstep
      obtain ⟨c0, c1, e1, e2, p1, p2, p3, p4⟩ := hstep
      have h6 : ∀ W, (callFunc 78 #[.int .u64 (loS s), .int .u64 (IntKind.u64.wrap x), .int .u64 0]).run Tryz.prog W = .ok (.value (.tuple #[.int .u64 (loS (s + x)), .int .u64 cy])) W := fun W => by
        rw [run_add _ _ _ p1 p2 (by omega) (by omega), e1, hcy]
      obtain ⟨c2, h7⟩ : ∃ c2, ∀ W, (callFunc 78 #[.int .u64 (hiS s), .int .u64 (IntKind.u64.wrap (x / 9223372036854775808)), .int .u64 cy]).run Tryz.prog W = .ok (.value (.tuple #[.int .u64 (hiS (s + x)), .int .u64 c2])) W := ⟨_, fun W => by
        rw [run_add _ _ _ p3 p4 c0 c1, e2]⟩
      clear hcy c0 c1 e1 e2 p1 p2 p3 p4 hx hx1 hx2 hs1 hs2
      go_wp2_with fail
      go_roundw
      case rel => exact ⟨k + 1, by omega, by rw [HN.out], by rw [HN.out], by go_num, HBw.out⟩
      case measure => simp [intOf]; omega
    · obtain rfl : k = l.length := by omega
      rw [List.take_length] at HS
      have hltz : ¬ (l.length : Int) < (l.length : Int) := by omega
      have hw1 : wrap64 (loS s) = s := by unfold wrap64 loS; omega
      have hw2 : IntKind.u64.wrap (s / 9223372036854775808) = hiS s := by
        rw [wrap_u]
        unfold hiS
        split <;> omega
      clear hs1 hs2
      go_wp2_with fail
      refine bodyPost_ret (v := .tuple #[.int .i64 s, .bool true]) (by simp [results, Tryz.results41, go_sem]) rfl ?_
      exact ⟨by rw [HS.out], HBw.out⟩
end Go.Proofs.YtokbandookjdjaaGreat
