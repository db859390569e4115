/- Package gram: the order of telegrams' bytes. No program in this text. -/
import Derived.Test.YtmlfkhpmgjcliaaDoorGLaw
namespace Go.Proofs.YtmlfkhpmgjcliaaDoor
theorem gramL_formed {g : GV} (h : Formed g) : gramL g = coreL g ++ textC g.tag := if_pos h
theorem apart_cmp {a b : Int} {x y : List UInt8} (hne : a ≠ b) (h1 : a < b → Apart x y) (h2 : b < a → Apart y x) : decide (x < y) = decide (a < b) ∧ x ≠ y := by
  rcases Int.lt_or_gt_of_ne hne with h | h
  · have := (h1 h).lt
    refine ⟨by rw [decide_eq_true this, decide_eq_true h], fun e => ?_⟩
    rw [e] at this
    exact List.lt_irrefl _ this
  · have := (h2 h).lt
    refine ⟨?_, fun e => ?_⟩
    · rw [decide_eq_false (fun h3 => List.lt_irrefl _ (List.lt_trans h3 this)), decide_eq_false (by omega)]
    · rw [e] at this
      exact List.lt_irrefl _ this
theorem ord_gauge {g h : GV} (fg : Formed g) (fh : Formed h) (hne : g.gauge ≠ h.gauge) : decide (gramL g < gramL h) = decide (g.gauge < h.gauge) ∧ gramL g ≠ gramL h := by
  rw [gramL_formed fg, gramL_formed fh]
  unfold coreL
  exact apart_cmp hne (fun hl => ((intL_apart fg.ok.1 fh.ok.1 hl).back _ _).back _ _) (fun hl => ((intL_apart fh.ok.1 fg.ok.1 hl).back _ _).back _ _)
theorem ord_seq {g h : GV} (fg : Formed g) (fh : Formed h) (e0 : g.gauge = h.gauge) (hne : g.seq ≠ h.seq) : decide (gramL g < gramL h) = decide (g.seq < h.seq) ∧ gramL g ≠ gramL h := by
  rw [gramL_formed fg, gramL_formed fh]
  unfold coreL
  rw [e0]
  exact apart_cmp hne (fun hl => (((intL_apart fg.ok.2.1 fh.ok.2.1 hl).back _ _).front _).back _ _) (fun hl => (((intL_apart fh.ok.2.1 fg.ok.2.1 hl).back _ _).front _).back _ _)
theorem ord_clock {g h : GV} (fg : Formed g) (fh : Formed h) (e0 : g.gauge = h.gauge) (e1 : g.seq = h.seq) (hne : g.clock ≠ h.clock) : decide (gramL g < gramL h) = decide (g.clock < h.clock) ∧ gramL g ≠ gramL h := by
  rw [gramL_formed fg, gramL_formed fh]
  unfold coreL
  rw [e0, e1]
  exact apart_cmp hne (fun hl => ((((intL_apart fg.ok.2.2.1 fh.ok.2.2.1 hl).back _ _).front _).front _).back _ _) (fun hl => ((((intL_apart fh.ok.2.2.1 fg.ok.2.2.1 hl).back _ _).front _).front _).back _ _)
theorem ord_value {g h : GV} (fg : Formed g) (fh : Formed h) (e0 : g.gauge = h.gauge) (e1 : g.seq = h.seq) (e2 : g.clock = h.clock) (hne : g.value ≠ h.value) : decide (gramL g < gramL h) = decide (g.value < h.value) ∧ gramL g ≠ gramL h := by
  rw [gramL_formed fg, gramL_formed fh]
  unfold coreL
  rw [e0, e1, e2]
  exact apart_cmp hne (fun hl => ((((intL_apart fg.ok.2.2.2 fh.ok.2.2.2 hl).front _).front _).front _).back _ _) (fun hl => ((((intL_apart fh.ok.2.2.2 fg.ok.2.2.2 hl).front _).front _).front _).back _ _)
theorem ord_tag {g h : GV} (fg : Formed g) (fh : Formed h) (e0 : g.gauge = h.gauge) (e1 : g.seq = h.seq) (e2 : g.clock = h.clock) (e3 : g.value = h.value) :
    decide (gramL g < gramL h) = decide (g.tag.data.toList < h.tag.data.toList) ∧ (gramL g = gramL h ↔ g.tag = h.tag) := by
  rw [gramL_formed fg, gramL_formed fh]
  unfold coreL
  rw [e0, e1, e2, e3]
  unfold textC
  rcases list_tri g.tag.data.toList h.tag.data.toList with hl | hl | hl
  · have h2 := ((textL_apart hl).front (intL h.gauge ++ (intL h.seq ++ (intL h.clock ++ intL h.value)))).lt
    refine ⟨by rw [decide_eq_true h2, decide_eq_true hl], ⟨fun e => ?_, fun e => ?_⟩⟩
    · rw [e] at h2; exact absurd h2 (List.lt_irrefl _)
    · rw [e] at hl; exact absurd hl (List.lt_irrefl _)
  · rw [hl]
    refine ⟨by rw [decide_eq_false (List.lt_irrefl _), decide_eq_false (List.lt_irrefl _)], ⟨fun _ => ?_, fun _ => rfl⟩⟩
    have : g.tag.data = h.tag.data := Array.ext' hl
    cases hg : g.tag; cases hh : h.tag
    rw [hg, hh] at this
    simp at this
    rw [this]
  · have h2 := ((textL_apart hl).front (intL h.gauge ++ (intL h.seq ++ (intL h.clock ++ intL h.value)))).lt
    refine ⟨?_, ⟨fun e => ?_, fun e => ?_⟩⟩
    · rw [decide_eq_false (fun h3 => List.lt_irrefl _ (List.lt_trans h3 h2)), decide_eq_false (fun h3 => List.lt_irrefl _ (List.lt_trans h3 hl))]
    · rw [e] at h2; exact absurd h2 (List.lt_irrefl _)
    · rw [e] at hl; exact absurd hl (List.lt_irrefl _)
end Go.Proofs.YtmlfkhpmgjcliaaDoor
