/- The plain law of GateDrifts. -/
import Derived.Test.YtkoobkcmmfdlhaaUSpan
namespace Go.Proofs.Ytkoobkcmmfdlhaa
theorem clampS {n P : Int} (h : 0 ≤ P) : clampN n 0 P = max 0 (min n P) := by unfold clampN; split <;> (try split) <;> omega
theorem mv_free {l : LinkV} {p t : Int} {o : Bool} (h1 : 0 ≤ l.speed) (h2 : l.speed ≤ l.positions) (h3 : l.positions ≤ 64) (h4 : 0 ≤ p ∧ p ≤ l.positions) (h5 : 0 ≤ t ∧ t ≤ l.positions) :
    moveN l ⟨p, t, false, o⟩ = ⟨p + max (-l.speed) (min (t - p) l.speed), t, false, o⟩ := by
  have h := move_in (l := l) (g := ⟨p, t, false, o⟩) h1 h2 h3 h4 h5
  have e : moveN l ⟨p, t, false, o⟩ = ⟨moveP l ⟨p, t, false, o⟩, t, false, o⟩ := rfl
  rw [e, h]
  rfl
/-- what a drifted span is, and what the moves give -/
theorem drifts_law {l : LinkV} {p t : Int} {st o : Bool} {k : KnownV} (hl : LinkOk l) (hp : 0 ≤ p ∧ p ≤ l.positions) (ht : 0 ≤ t ∧ t ≤ l.positions) (hk0 : 0 ≤ k.pos.lo) (hk1 : k.pos.hi ≤ l.positions) (hkt : 0 ≤ k.target ∧ k.target ≤ l.positions) (hh : k.pos.lo ≤ p ∧ p ≤ k.pos.hi) :
    ∃ wl wh sl sh m q : Int, driftN l k false = ⟨⟨wl, wh⟩, k.target, k.opened⟩ ∧ driftN l k true = ⟨⟨sl, sh⟩, k.target, k.opened⟩ ∧
      moveN l ⟨p, t, st, o⟩ = ⟨m, t, st, o⟩ ∧ moveN l ⟨p, k.target, false, o⟩ = ⟨q, k.target, false, o⟩ ∧
      moveN l ⟨k.pos.lo, 0, false, false⟩ = ⟨wl, 0, false, false⟩ ∧ moveN l ⟨k.pos.hi, l.positions, false, false⟩ = ⟨wh, l.positions, false, false⟩ ∧
      hasS ⟨wl, wh⟩ m = true ∧ hasS ⟨sl, sh⟩ q = true ∧ withinS ⟨sl, sh⟩ ⟨wl, wh⟩ = true ∧ 0 ≤ wl ∧ wh ≤ l.positions := by
  obtain ⟨h0, h1, h2, h3⟩ := link_pos hl
  have el := mv_free (o := false) h2 h3 h1 (show 0 ≤ k.pos.lo ∧ k.pos.lo ≤ l.positions by omega) (show 0 ≤ (0 : Int) ∧ (0 : Int) ≤ l.positions by omega)
  have eh := mv_free (o := false) h2 h3 h1 (show 0 ≤ k.pos.hi ∧ k.pos.hi ≤ l.positions by omega) (show 0 ≤ l.positions ∧ l.positions ≤ l.positions by omega)
  have sl := mv_free (o := false) h2 h3 h1 (show 0 ≤ k.pos.lo ∧ k.pos.lo ≤ l.positions by omega) hkt
  have sh := mv_free (o := false) h2 h3 h1 (show 0 ≤ k.pos.hi ∧ k.pos.hi ≤ l.positions by omega) hkt
  have eq := mv_free (o := o) h2 h3 h1 hp hkt
  have esl : moveP l ⟨k.pos.lo, k.target, false, false⟩ = k.pos.lo + max (-l.speed) (min (k.target - k.pos.lo) l.speed) := congrArg GateV.pos sl
  have esh : moveP l ⟨k.pos.hi, k.target, false, false⟩ = k.pos.hi + max (-l.speed) (min (k.target - k.pos.hi) l.speed) := congrArg GateV.pos sh
  have w1 : clampN (subS k.pos.lo l.speed) 0 l.positions = k.pos.lo + max (-l.speed) (min (0 - k.pos.lo) l.speed) := by
    rw [subS_in (by omega) (by omega), clampS h0]; omega
  have w2 : clampN (addS k.pos.hi l.speed) 0 l.positions = k.pos.hi + max (-l.speed) (min (l.positions - k.pos.hi) l.speed) := by
    rw [addS_in (by omega) (by omega), clampS h0]; omega
  refine ⟨_, _, k.pos.lo + max (-l.speed) (min (k.target - k.pos.lo) l.speed), k.pos.hi + max (-l.speed) (min (k.target - k.pos.hi) l.speed), _, _, ?_, ?_, rfl, eq, el, eh, ?_, ?_, ?_, by omega, by omega⟩
  · show (⟨⟨_, _⟩, _, _⟩ : KnownV) = _
    rw [w1, w2]
  · show (⟨⟨moveP l ⟨k.pos.lo, k.target, false, false⟩, moveP l ⟨k.pos.hi, k.target, false, false⟩⟩, _, _⟩ : KnownV) = _
    rw [esl, esh]
  · have hm := move_in (l := l) (g := ⟨p, t, st, o⟩) h2 h3 h1 hp ht
    rw [hm]
    refine hasS_iff.2 ?_
    cases st
    · simp only [Bool.false_eq_true, if_false]
      constructor <;> omega
    · simp only [if_true]
      constructor <;> omega
  · refine hasS_iff.2 ?_
    constructor
    · dsimp only
      omega
    · dsimp only
      omega
  · refine withinS_iff.2 ?_
    constructor
    · dsimp only
      omega
    · dsimp only
      omega
end Go.Proofs.Ytkoobkcmmfdlhaa
