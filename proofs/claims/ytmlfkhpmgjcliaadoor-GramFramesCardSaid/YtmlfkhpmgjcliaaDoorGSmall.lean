/- bournelaw24.small returns true. -/
import Derived.Test.YtmlfkhpmgjcliaaDoorGGen
namespace Go.Proofs.YtmlfkhpmgjcliaaDoor
open Go.RowKit
def g0 : GV := ⟨3, 1, 600, -5, ⟨#[]⟩⟩
def gT (T : ByteArray) : GV := ⟨3, 1, 600, -5, T⟩
theorem g0_ok : GOk g0 := by unfold GOk I64 g0; decide
theorem gT_ok (T : ByteArray) : GOk (gT T) := by unfold GOk I64 gT; simp only []; decide
theorem gT_formed {T : ByteArray} (h : T.size = 8) : Formed (gT T) := ⟨by show (0 : Int) ≤ 3; decide, by show (3 : Int) ≤ 127; decide, by show (0 : Int) ≤ 1; decide, by show (1 : Int) ≤ 1099511627776; decide, by show (0 : Int) ≤ 600; decide, by show (600 : Int) ≤ 1006633019; decide, by show (-1099511627776 : Int) ≤ -5; decide, by show (-5 : Int) ≤ 1099511627776; decide, h⟩
theorem kat_tags : tagL ⟨#[115]⟩ g0 ≠ tagL ⟨#[116]⟩ g0 := by decide +kernel
/-- what the walk of small needs of the sealed telegram's tag -/
structure SealFacts (T : ByteArray) : Prop where
  size : T.size = 8
  sealT : ∀ w', Glob w' → MLen w' → Calls Tryd.prog 12 #[.string ⟨#[115]⟩, .agg #[.int .i64 3, .int .i64 1, .int .i64 600, .int .i64 (-5), .string ⟨#[]⟩]] w' fun e w'' => e = .returned (.agg #[.int .i64 3, .int .i64 1, .int .i64 600, .int .i64 (-5), .string T]) ∧ Below w'.heap.size w' w''
  bytes : ∀ w', MLen w' → Calls Tryd.prog 18 #[.agg #[.int .i64 3, .int .i64 1, .int .i64 600, .int .i64 (-5), .string T]] w' fun e w'' => e = .returned (.string ⟨(gramL (gT T)).toArray⟩) ∧ Below w'.heap.size w' w''
  back : ∀ w', Calls Tryd.prog 10 #[.string ⟨(gramL (gT T)).toArray⟩] w' fun e w'' => e = .returned (.tuple #[.agg #[.int .i64 3, .int .i64 1, .int .i64 600, .int .i64 (-5), .string T], .bool true]) ∧ Below w'.heap.size w' w''
  genS : ∀ w', Glob w' → MLen w' → Calls Tryd.prog 14 #[.string ⟨#[115]⟩, .agg #[.int .i64 3, .int .i64 1, .int .i64 600, .int .i64 (-5), .string T]] w' fun e w'' => e = .returned (.bool true) ∧ Below w'.heap.size w' w''
  genT : ∀ w', Glob w' → MLen w' → Calls Tryd.prog 14 #[.string ⟨#[116]⟩, .agg #[.int .i64 3, .int .i64 1, .int .i64 600, .int .i64 (-5), .string T]] w' fun e w'' => e = .returned (.bool false) ∧ Below w'.heap.size w' w''
  formed : ∀ w', Calls Tryd.prog 29 #[.agg #[.int .i64 3, .int .i64 1, .int .i64 600, .int .i64 (-5), .string T]] w' fun e w'' => e = .returned (.bool true) ∧ Below w'.heap.size w' w''
theorem readNone : ∀ w', Calls Tryd.prog 10 #[.string ⟨#[]⟩] w' fun e w'' => e = .returned (.tuple #[.agg #[.int .i64 0, .int .i64 0, .int .i64 0, .int .i64 0, .string ⟨#[]⟩], .bool false]) ∧ Below w'.heap.size w' w'' := fun w' => by
  refine (read_any ⟨#[]⟩ w' (by decide)).mono ?_
  rintro e w1 ⟨he, hb⟩
  rw [show readG (⟨#[]⟩ : ByteArray).data.toList = (zeroG, false) from read_not read_nil] at he
  exact ⟨he, hb⟩
theorem bytesNone : ∀ w', MLen w' → Calls Tryd.prog 18 #[.agg #[.int .i64 0, .int .i64 0, .int .i64 0, .int .i64 0, .string ⟨#[]⟩]] w' fun e w'' => e = .returned (.string ⟨#[]⟩) ∧ Below w'.heap.size w' w'' := fun w' h => by
  refine (bytes_any zeroG w' (by unfold GOk I64 zeroG; decide) h (by decide)).mono ?_
  rintro e w1 ⟨he, hb⟩
  rw [gramL_nil.2 (by decide)] at he
  exact ⟨he, hb⟩
set_option maxRecDepth 10000 in
theorem sealFacts : ∃ T, SealFacts T := by
  obtain ⟨T, hT⟩ : ∃ T, T = (⟨(tagL ⟨#[115]⟩ g0).toArray⟩ : ByteArray) := ⟨_, rfl⟩
  have h8 : T.size = 8 := by rw [hT]; exact tagL_len _ _
  have hF := gT_formed h8
  have hO := gT_ok T
  have e1 : tagL ⟨#[115]⟩ (gT T) = tagL ⟨#[115]⟩ g0 := by unfold tagL tagIn coreL gT g0; rfl
  have e2 : tagL ⟨#[116]⟩ (gT T) = tagL ⟨#[116]⟩ g0 := by unfold tagL tagIn coreL gT g0; rfl
  have g1 : genB ⟨#[115]⟩ (gT T) = true := decide_eq_true ⟨hF, by rw [e1, ← hT]; rfl⟩
  have g2 : genB ⟨#[116]⟩ (gT T) = false := decide_eq_false (fun e => by
    have h := e.2
    rw [e2] at h
    have h3 : T = ⟨(tagL ⟨#[116]⟩ g0).toArray⟩ := h
    rw [hT] at h3
    have h2 : (tagL ⟨#[115]⟩ g0).toArray.toList = (tagL ⟨#[116]⟩ g0).toArray.toList := congrArg (fun b : ByteArray => b.data.toList) h3
    simp only at h2
    exact kat_tags h2)
  refine ⟨T, h8, fun w' h1 h2 => ?_, fun w' h => ?_, fun w' => ?_, fun w' h1 h2 => ?_, fun w' h1 h2 => ?_, fun w' => ?_⟩
  · have := seal_any ⟨#[115]⟩ g0 w' (by decide) g0_ok h1 h2
    rw [← hT] at this
    exact this
  · exact bytes_any (gT T) w' hO h (by show T.size ≤ 300; omega)
  · refine (read_any ⟨(gramL (gT T)).toArray⟩ w' (Nat.le_trans (gramL_len (gT T)) (by decide))).mono ?_
    rintro e w1 ⟨he, hb⟩
    rw [show (⟨(gramL (gT T)).toArray⟩ : ByteArray).data.toList = gramL (gT T) from by simp, read_enc hF] at he
    exact ⟨he, hb⟩
  · have := genuine_any ⟨#[115]⟩ (gT T) w' (by decide) hO h1 h2
    rw [g1] at this
    exact this
  · have := genuine_any ⟨#[116]⟩ (gT T) w' (by decide) hO h1 h2
    rw [g2] at this
    exact this
  · have := wellFormed_any (gT T) w' hO
    rw [decide_eq_true hF] at this
    exact this
set_option maxRecDepth 100000 in
set_option maxHeartbeats 1000000 in
theorem gright_any (T : ByteArray) (hF : SealFacts T) (p : Option Addr) (n c : Nat) (b : Bool) (hb : b = decide ((3 : Int) < n)) (w : World) :
    Calls Tryd.prog 16 #[.agg #[.string ⟨#[]⟩, .slice none 0 0, .int .i64 0, .slice none 0 0, .slice none 0 0, .slice none 0 0, .slice p n c, .slice none 0 0, .slice none 0 0, .slice none 0 0, .int .i64 0], .agg #[.int .i64 3, .int .i64 1, .int .i64 600, .int .i64 (-5), .string T]] w fun e w' => e = .returned (.bool b) ∧ Below w.heap.size w w' := by
  have HF := Lib.hid hF
  have hB0 : Below w.heap.size w ((w.alloc (.cells #[.string ⟨#[]⟩, .slice none 0 0, .int .i64 0, .slice none 0 0, .slice none 0 0, .slice none 0 0, .slice p n c, .slice none 0 0, .slice none 0 0, .slice none 0 0, .int .i64 0] 35)).alloc (.cells #[.int .i64 3, .int .i64 1, .int .i64 600, .int .i64 (-5), .string T] 23)) := ((Below.refl _ _).alloc (Nat.le_refl _) _).alloc (by simp) _
  have h0 := (two_rows' (w := w) (A := .cells #[.string ⟨#[]⟩, .slice none 0 0, .int .i64 0, .slice none 0 0, .slice none 0 0, .slice none 0 0, .slice p n c, .slice none 0 0, .slice none 0 0, .slice none 0 0, .int .i64 0] 35) (B := .cells #[.int .i64 3, .int .i64 1, .int .i64 600, .int .i64 (-5), .string T] 23))
  clear hF
  go_enter Tryd.func16, Tryd.ntmps16
  go_wp2_with fail
  refine (HF.out.formed _).mono ?_
  rintro e w1 ⟨rfl, hb1⟩
  have H0 := blk_below h0.1 hb1 (by simp only [World.size_alloc]; omega)
  have H1 := blk_below h0.2 hb1 (by simp only [World.size_alloc]; omega)
  have c0 : w1.cell? ⟨w.heap.size, 6, none⟩ = some (.slice p n c) := (cell_of_row _ _ _ _ _ _ H0).trans rfl
  have c1 : w1.cell? ⟨w.heap.size + 1, 0, none⟩ = some (.int .i64 3) := (cell_of_row _ _ _ _ _ _ H1).trans rfl
  have HB := Lib.hid (hB0.trans (hb1.mono hB0.size))
  clear h0 hB0 hb1 H0 H1
  have HE := Lib.hid hb
  clear hb
  go_wp2_with fail
  go_ret
  exact ⟨by rw [HE.out]; rfl, HB.out⟩
end Go.Proofs.YtmlfkhpmgjcliaaDoor
