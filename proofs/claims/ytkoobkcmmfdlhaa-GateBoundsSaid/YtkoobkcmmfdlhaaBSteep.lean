/- basin.steepest: at least the slope of every segment. -/
import Derived.Test.YtkoobkcmmfdlhaaBSlope
namespace Go.Proofs.Ytkoobkcmmfdlhaa
open Go.RowKit
/-- the first n points rise by no more than s -/
def SlUp (c : List PointV) (n : Nat) (s : Int) : Prop := ∀ i p q, i + 1 < n → c[i]? = some p → c[i + 1]? = some q → slopeN (q.y - p.y) (q.x - p.x) ≤ s
theorem SlUp.le {c : List PointV} {n : Nat} {s t : Int} (h : SlUp c n s) (hs : s ≤ t) : SlUp c n t := fun i p q h1 h2 h3 => Int.le_trans (h i p q h1 h2 h3) hs
theorem SlUp.next {c : List PointV} {n : Nat} {s : Int} {p q : PointV} (h : SlUp c n s) (hp : c[n - 1]? = some p) (hq : c[n]? = some q) (hn : 1 ≤ n) : SlUp c (n + 1) (max s (slopeN (q.y - p.y) (q.x - p.x))) := fun i a b h1 h2 h3 => by
  rcases Nat.lt_or_eq_of_le (show i + 1 ≤ n by omega) with h4 | h4
  · have := h i a b h4 h2 h3
    omega
  · have e : i = n - 1 := by omega
    subst e
    rw [h4, hq] at h3
    rw [hp] at h2
    cases h2
    cases h3
    omega
theorem gentle_of_up {c : List PointV} (hr : rightC c = true) (h : SlUp c c.length 1099511627776) : Gentle c := gentle_of c fun i q p hq hp => by
  have hl := (List.getElem?_eq_some_iff.1 hp).1
  have h1 := h i q p hl hq hp
  have h2 := sorted_lt c i (i + 1) q p (rightC_sorted hr) hq hp (by omega)
  have h3 := okY (rightC_sorted hr) hq hp
  exact (slope_ok (n := p.y - q.y) (d := p.x - q.x) (by omega) (by omega)).2.2 (by omega) h1
def SteepPost (cs : List (List PointV)) (w : World) (e : Ending) (w' : World) : Prop := ∃ s : Int, (0 ≤ s ∧ s ≤ 1099511627777 ∧ ∀ c ∈ cs, SlUp c c.length s) ∧ e = .returned (.int .i64 s) ∧ Below w.heap.size w w'
set_option maxRecDepth 100000 in
set_option maxHeartbeats 8000000 in
theorem steep_any (cs : List (List PointV)) (v : Value) (w : World) (hL : LArg (RList RPoint 2) 1 v cs w) (hr : ∀ c ∈ cs, rightC c = true) (hn : cs.length ≤ 10) : Calls Try.prog 57 #[v] w (SteepPost cs w) := by
  obtain ⟨pa, ca, rfl, hca, hma⟩ := hL.slice
  have HL := Lib.hid hL
  have HR := Lib.hid hr
  clear hL hr hma
  go_enter Try.func57, Try.ntmps57
  go_wp2_with fail
  go_loopw [3, 9] (fun sv kv wr => ∃ (s : Int) (k : Nat), sv = .int .i64 s ∧ kv = .int .i64 k ∧ k ≤ cs.length ∧ 0 ≤ s ∧ s ≤ 1099511627777 ∧ (∀ j c, j < k → cs[j]? = some c → SlUp c c.length s) ∧ Below w.heap.size w wr) (fun _ kv _ => cs.length - (intOf kv).toNat)
  case atStart => exact ⟨0, 0, rfl, rfl, Nat.zero_le _, by decide, by decide, (fun j c hj => by omega), Below.refl _ _⟩
  case round =>
    obtain ⟨s, k, rfl, rfl, hk, s1, s2, hup, hb⟩ := hrel
    have HUP := Lib.hid hup
    have HB := Lib.hid hb
    clear hup hb
    by_cases hlt : k < cs.length
    · obtain ⟨c, hc⟩ : ∃ c, cs[k]? = some c := ⟨_, List.getElem?_eq_getElem hlt⟩
      obtain ⟨b, o, cl, ha, hbl, _, hrg, hcs⟩ := (HL.out.below (stays_list stays_Point 2) HB.out).at hc
      subst ha
      obtain ⟨vc, rfl, hvc⟩ := hcs
      obtain ⟨pc, cc, rfl, hcc, hmc⟩ := hvc.slice
      unfold maxLen at hmc
      have c0 : wr.cell? ⟨b, o + k * 1, none⟩ = some (.slice pc c.length cc) := hrg 0 _ rfl
      rw [Nat.mul_one] at c0
      have hrc := HR.out c (List.mem_of_getElem? hc)
      have hl1 := (rightC_at hrc).1
      have hl2 := (rightC_at hrc).2.1
      have HRC := Lib.hid hrc
      have HVC := Lib.hid (show LArg RPoint 2 (.slice pc c.length cc) c wr from hvc)
      have HC := Lib.hid hc
      clear hrg hc hvc hrc
      go_wp2_with fail
      go_loopw [3, 6] (fun sv iv wx => ∃ (t : Int) (i : Nat), sv = .int .i64 t ∧ iv = .int .i64 i ∧ 1 ≤ i ∧ i ≤ c.length ∧ s ≤ t ∧ t ≤ 1099511627777 ∧ SlUp c i t ∧ Below wr.heap.size wr wx) (fun _ iv _ => c.length - (intOf iv).toNat)
      case atStart => exact ⟨s, 1, rfl, rfl, Nat.le_refl _, hl1, Int.le_refl _, s2, (fun i p q h => by omega), Below.refl _ _⟩
      case round =>
        obtain ⟨t, i, rfl, rfl, i1, i2, t1, t2, hsl, hb⟩ := hrel
        have HSL := Lib.hid hsl
        have HBx := Lib.hid hb
        clear hsl hb c0
        by_cases hli : i < c.length
        · obtain ⟨q, hq⟩ : ∃ p, c[i]? = some p := ⟨_, List.getElem?_eq_getElem hli⟩
          obtain ⟨p, hp⟩ : ∃ p, c[i - 1]? = some p := ⟨_, List.getElem?_eq_getElem (by omega)⟩
          obtain ⟨m, rfl⟩ : ∃ m, i = m + 1 := ⟨i - 1, by omega⟩
          rw [Nat.add_sub_cancel] at hp
          have hVX := HVC.out.below stays_Point HBx.out
          obtain ⟨b2, o2, cl2, ha2, -, -, -, -⟩ := hVX.at hq
          subst ha2
          obtain ⟨q0, q1⟩ := cell_of_at hVX rfl hq
          obtain ⟨p0, p1⟩ := cell_of_at hVX rfl hp
          have hqq := rightC_pt HRC.out (List.mem_of_getElem? hq)
          have hpp := rightC_pt HRC.out (List.mem_of_getElem? hp)
          have hst := sorted_lt c m (m + 1) p q (rightC_sorted HRC.out) hp hq (by omega)
          have hsy := okY (rightC_sorted HRC.out) hp hq
          have K1 : ((m + 1 : Nat) : Int) - 1 = (m : Int) := by omega
          have K3 : IntKind.i64.wrap (m : Int) = (m : Int) := IntWalk.i64_in _ (by omega)
          have K4 : ¬ ((m : Int) < 0) := by omega
          have K5 : (0 : Int) ≤ (m : Int) := by omega
          have K6 : m < c.length := by omega
          have F1 : IntKind.i64.wrap (q.y - p.y) = q.y - p.y := IntWalk.i64_in _ (by omega)
          have F2 : IntKind.i64.wrap (q.x - p.x) = q.x - p.x := IntWalk.i64_in _ (by omega)
          have HN := Lib.hid (HSL.out.next (by rw [Nat.add_sub_cancel]; exact hp) hq (by omega))
          have HSB := Lib.hid (slope_ok (n := q.y - p.y) (d := q.x - p.x) (by omega) (by omega)).2.1
          have HSA := Lib.hid (slope_any (q.y - p.y) (q.x - p.x))
          have A1 : Hid (0 ≤ q.y - p.y ∧ q.y - p.y ≤ 1125899906842624) := Lib.hid (by omega)
          have A2 : Hid (0 ≤ q.x - p.x ∧ q.x - p.x ≤ 1125899906842624) := Lib.hid (by omega)
          clear hq hp hVX
          go_wp2_with fail
          go_quiet ((go_at_call 56; exact Calls.quiet_of (HSA.out _ A1.out A2.out)))
          have HSB2 := HSB.out
          generalize slopeN (q.y - p.y) (q.x - p.x) = z at *
          clear F1 F2 K1 K3 q0 q1 p0 p1
          go_wp2_with fail
          go_roundw
          case rel => exact ⟨max t z, m + 1 + 1, rfl, by go_num, by omega, by omega, by omega, by omega, HN.out, below_drewN HBx.out⟩
          case measure => simp [intOf]; omega
        · have HD : Hid (SlUp c c.length t) := Lib.hid (by have e : i = c.length := by omega
                                                           rw [← e]; exact HSL.out)
          have HU2 : Hid (∀ j c', j < k + 1 → cs[j]? = some c' → SlUp c' c'.length t) := Lib.hid fun j c' hj hc' => by
            rcases Nat.lt_or_eq_of_le (show j ≤ k by omega) with h2 | rfl
            · exact (HUP.out j c' h2 hc').le t1
            · rw [HC.out] at hc'; cases hc'; exact HD.out
          go_wp2_with fail
          go_roundw
          case rel => exact ⟨t, k + 1, rfl, by go_num, by omega, by omega, t2, HU2.out, HB.out.trans (HBx.out.mono HB.out.size)⟩
          case measure => simp [intOf]; omega
    · go_wp2_with fail
      go_ret
      refine ⟨s, ⟨s1, s2, fun c hc => ?_⟩, rfl, HB.out⟩
      obtain ⟨j, hj⟩ := List.getElem?_of_mem hc
      exact HUP.out j c (by have := (List.getElem?_eq_some_iff.1 hj).1; omega) hj
end Go.Proofs.Ytkoobkcmmfdlhaa
