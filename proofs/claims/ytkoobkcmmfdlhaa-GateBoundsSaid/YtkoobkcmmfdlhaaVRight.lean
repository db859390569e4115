/- curve.Right. -/
import Derived.Test.YtkoobkcmmfdlhaaUMove
import Derived.Test.YtkoobkcmmfdlhaaUOpen
import Derived.Deep.LoopGhost
namespace Go.Proofs.Ytkoobkcmmfdlhaa
open Go.RowKit
def RetB (b : Bool) (w : World) (e : Ending) (w' : World) : Prop := e = .returned (.bool b) ∧ Below w.heap.size w w'
theorem retB_mk {b c : Bool} {w w' : World} (h : b = c) (hb : Below w.heap.size w w') : RetB b w (.returned (.bool c)) w' := ⟨by rw [h], hb⟩
theorem rightC_len {l : List PointV} (h : l.length < 1 ∨ 32 < l.length) : rightC l = false := by
  cases hr : rightC l with
  | false => rfl
  | true => have := rightC_at hr; omega
theorem rightC_no {l : List PointV} {k : Nat} (hk : k < l.length) (h : okAt l k = false) : rightC l = false := by
  cases hr : rightC l with
  | false => rfl
  | true => have := (rightC_at hr).2.2 k hk; rw [h] at this; cases this
theorem okAt_bad {l : List PointV} {k : Nat} {p : PointV} (hp : l[k]? = some p) (h : p.x < 0 ∨ 1125899906842624 < p.x ∨ p.y < 0 ∨ 1125899906842624 < p.y) : okAt l k = false := by
  cases hr : okAt l k with
  | false => rfl
  | true => have := okAt_pt hp hr; omega
theorem okAt_worse {l : List PointV} {k : Nat} {p q : PointV} (hq : l[k]? = some q) (hp : l[k + 1]? = some p) (h : p.x ≤ q.x ∨ p.y < q.y) : okAt l (k + 1) = false := by
  cases hr : okAt l (k + 1) with
  | false => rfl
  | true => have := okAt_step hq hp hr; omega
theorem okAt_zero {l : List PointV} {p : PointV} (hp : l[0]? = some p) (h : 0 ≤ p.x ∧ p.x ≤ 1125899906842624 ∧ 0 ≤ p.y ∧ p.y ≤ 1125899906842624) : okAt l 0 = true := by
  simp [okAt, okPt, hp]
  omega
theorem okAt_next {l : List PointV} {k : Nat} {p q : PointV} (hq : l[k]? = some q) (hp : l[k + 1]? = some p) (h : 0 ≤ p.x ∧ p.x ≤ 1125899906842624 ∧ 0 ≤ p.y ∧ p.y ≤ 1125899906842624) (h1 : q.x < p.x) (h2 : q.y ≤ p.y) : okAt l (k + 1) = true := by
  unfold okAt okPt
  rw [hp]
  simp only [Nat.add_sub_cancel, hq]
  rw [if_neg (by omega)]
  simp only [Bool.and_eq_true, decide_eq_true_eq]
  omega
theorem okAt_succ {l : List PointV} {k : Nat} (h : ∀ j, j < k → okAt l j = true) (h1 : okAt l k = true) : ∀ j, j < k + 1 → okAt l j = true := fun j hj => by
  rcases Nat.lt_or_eq_of_le (show j ≤ k by omega) with h2 | rfl
  · exact h j h2
  · exact h1
set_option maxRecDepth 100000 in
set_option maxHeartbeats 4000000 in
theorem right_any (l : List PointV) (v : Value) (w : World) (hL : LArg RPoint 2 v l w) : Calls Try.prog 29 #[v] w (RetB (rightC l) w) := by
  obtain ⟨a, c, rfl, hc, hm⟩ := hL.slice
  unfold maxLen at hm
  have HL := Lib.hid hL
  clear hL
  by_cases h1 : l.length < 1
  · have HE := Lib.hid (rightC_len (Or.inl h1))
    go_enter Try.func29, Try.ntmps29
    go_wp2_with fail
    go_ret
    exact retB_mk HE.out (Below.refl _ _)
  · by_cases h2 : 32 < l.length
    · have HE := Lib.hid (rightC_len (Or.inr h2))
      go_enter Try.func29, Try.ntmps29
      go_wp2_with fail
      go_ret
      exact retB_mk HE.out (Below.refl _ _)
    · go_enter Try.func29, Try.ntmps29
      go_wp2_with fail
      go_loopw [15] (fun iv wr => ∃ k : Nat, k ≤ l.length ∧ iv = .int .i64 k ∧ (∀ j, j < k → okAt l j = true) ∧ Below w.heap.size w wr) (fun iv _ => l.length - (intOf iv).toNat)
      case atStart => exact ⟨0, Nat.zero_le _, rfl, (fun j hj => by omega), Below.refl _ _⟩
      case round =>
        obtain ⟨k, hk, rfl, hok, hb⟩ := hrel
        have HOK := Lib.hid hok
        have HB := Lib.hid hb
        clear hok hb
        by_cases hlt : k < l.length
        · obtain ⟨p, hp⟩ : ∃ p, l[k]? = some p := ⟨_, List.getElem?_eq_getElem hlt⟩
          obtain ⟨b, o, cs, ha, hbl, _, hrg, hcs⟩ := (HL.out.below stays_Point HB.out).at hp
          subst ha
          obtain ⟨rfl, hpx, hpy⟩ := hcs
          have c0 : wr.cell? ⟨b, o + k * 2, none⟩ = some (.int .i64 p.x) := hrg 0 _ rfl
          have c1 : wr.cell? ⟨b, o + k * 2 + 1, none⟩ = some (.int .i64 p.y) := hrg 1 _ rfl
          have HP := Lib.hid hp
          have HB1 := Lib.hid (HB.out.alloc HB.out.size (.cells #[.int .i64 p.x, .int .i64 p.y] 63))
          clear hrg hp
          by_cases hok : 0 ≤ p.x ∧ p.x ≤ 1125899906842624 ∧ 0 ≤ p.y ∧ p.y ≤ 1125899906842624
          · rcases k with _ | k
            · have HN := Lib.hid (okAt_succ HOK.out (okAt_zero HP.out hok))
              obtain ⟨o1, o2, o3, o4⟩ := hok
              rw [Nat.zero_mul, Nat.add_zero] at c0 c1
              go_wp2_with fail
              go_quiet (fail)
              go_wp2_with fail
              go_roundw
              case rel => exact ⟨1, by omega, rfl, HN.out, below_drewN HB1.out⟩
              case measure => simp [intOf]; omega
            · obtain ⟨o1, o2, o3, o4⟩ := hok
              obtain ⟨q, hq⟩ : ∃ p, l[k]? = some p := ⟨_, List.getElem?_eq_getElem (by omega)⟩
              obtain ⟨b2, o2', cs2, ha2, _, _, hrg2, hcs2⟩ := (HL.out.below stays_Point HB.out).at hq
              simp only [Option.some.injEq, Addr.mk.injEq, and_true] at ha2
              obtain ⟨rfl, rfl⟩ := ha2
              obtain ⟨rfl, -, -⟩ := hcs2
              have d0 : wr.cell? ⟨b, o + k * 2, none⟩ = some (.int .i64 q.x) := hrg2 0 _ rfl
              have d1 : wr.cell? ⟨b, o + k * 2 + 1, none⟩ = some (.int .i64 q.y) := hrg2 1 _ rfl
              have HQ := Lib.hid hq
              clear hrg2 hq
              have K1 : ((k + 1 : Nat) : Int) - 1 = (k : Int) := by omega
              have K4 : ¬ ((k : Int) < 0) := by omega
              have K5 : (0 : Int) ≤ (k : Int) := by omega
              have K6 : k < l.length := by omega
              have K3 : IntKind.i64.wrap (k : Int) = (k : Int) := IntWalk.i64_in _ (by omega)
              have K2 : (0 : Int) < ((k + 1 : Nat) : Int) := by omega
              by_cases g1 : p.x ≤ q.x
              · have HE : Hid (rightC l = false) := Lib.hid (rightC_no hlt (okAt_worse HQ.out HP.out (Or.inl g1)))
                go_wp2_with fail
                go_quiet (fail)
                go_wp2_with fail
                go_ret
                exact retB_mk HE.out (below_drewN HB1.out)
              · by_cases g2 : p.y < q.y
                · have HE : Hid (rightC l = false) := Lib.hid (rightC_no hlt (okAt_worse HQ.out HP.out (Or.inr g2)))
                  go_wp2_with fail
                  go_quiet (fail)
                  go_wp2_with fail
                  go_ret
                  exact retB_mk HE.out (below_drewN HB1.out)
                · have HN := Lib.hid (okAt_succ HOK.out (okAt_next HQ.out HP.out ⟨o1, o2, o3, o4⟩ (by omega) (by omega)))
                  go_wp2_with fail
                  go_quiet (fail)
                  go_wp2_with fail
                  go_roundw
                  case rel => exact ⟨k + 1 + 1, by omega, by go_num, HN.out, below_drewN HB1.out⟩
                  case measure => simp [intOf]; omega
          · have HE : Hid (rightC l = false) := Lib.hid (rightC_no hlt (okAt_bad HP.out (by omega)))
            have hbad : p.x < 0 ∨ (0 ≤ p.x ∧ 1125899906842624 < p.x) ∨ (0 ≤ p.x ∧ p.x ≤ 1125899906842624 ∧ p.y < 0) ∨ (0 ≤ p.x ∧ p.x ≤ 1125899906842624 ∧ 0 ≤ p.y ∧ 1125899906842624 < p.y) := by omega
            clear hok
            rcases hbad with g1 | ⟨g1, g2⟩ | ⟨g1, g2, g3⟩ | ⟨g1, g2, g3, g4⟩
            all_goals
              go_wp2_with fail
              go_ret
              exact retB_mk HE.out HB1.out
        · have HE : Hid (rightC l = true) := Lib.hid (rightC_mk (by omega) (by omega) fun i hi => HOK.out i (by omega))
          go_wp2_with fail
          go_ret
          exact retB_mk HE.out HB.out
end Go.Proofs.Ytkoobkcmmfdlhaa
