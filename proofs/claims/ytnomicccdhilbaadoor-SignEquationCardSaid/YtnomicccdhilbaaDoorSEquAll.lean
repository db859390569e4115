/- bournelaw05.SignEquation returns true for every input that the statement speaks of, and leaves its arguments as they were. -/
import Derived.Test.YtnomicccdhilbaaDoorSSmall
import Derived.Test.YtnomicccdhilbaaDoorSRef5
import Derived.Outline
import Derived.Test.YtnomicccdhilbaaDoorSArg
import Derived.Test.YtnomicccdhilbaaDoorGArgs
import Derived.Test.YtnomicccdhilbaaDoorGGlob
import Derived.Test.YtnomicccdhilbaaDoorGLaid
import Derived.Test.YtnomicccdhilbaaDoorCards
import Derived.Test.YtnomicccdhilbaaDoorTie
import Derived.Deep.DeepHandedRow
import Derived.SizedLaws
/- bournelaw05.SignEquation returns true. -/
namespace Go.Proofs.YtnomicccdhilbaaDoor
open Go.RowKit
structure EquFacts (c m : ByteArray) (p E S x x1 x2 v r : Int) : Prop where
  inP : ∀ w, Calls Tryd.prog 22 #[.int .i64 p] w fun e w' => e = .returned (.bool true) ∧ ∃ n, w' = w.drewN n
  inR : ∀ w, Calls Tryd.prog 22 #[.int .i64 r] w fun e w' => e = .returned (.bool true) ∧ ∃ n, w' = w.drewN n
  inv : ∀ w, Calls Tryd.prog 23 #[.int .i64 x1] w fun e w' => e = .returned (.tuple #[.int .i64 v, .bool true]) ∧ ∃ n, w' = w.drewN n
  chal : ∀ w, Calls Tryd.prog 21 #[.int .i64 r, .int .i64 p, .string c, .string m] w fun e w' => e = .returned (.int .i64 E) ∧ Below w.heap.size w w'
  ver : ∀ w, Glob w → MLen w → Calls Tryd.prog 18 #[.int .i64 p, .string c, .string m, .agg #[.int .i64 E, .int .i64 S]] w fun e w' => e = .returned (.bool true) ∧ Below w.heap.size w w'
  p1 : (p == 1) = false
  E0 : decide (E < 0) = false
  E1 : decide (1152921504606845789 ≤ E) = false
  S0 : decide (S < 0) = false
  S1 : decide (1152921504606845789 ≤ S) = false
theorem elem_inv {p E S : Int} (hI : InG p) (hE : 0 ≤ E ∧ E < 1152921504606845789) :
    (4 ^ S.toNat % gP) * ((p.toNat ^ E.toNat % gP) ^ (gP - 2) % gP) % gP = elemN p E S := by
  have hq := hI.2.2
  have he : E.toNat ≤ gQ := by show E.toNat ≤ 1152921504606845789; omega
  have hz : (p.toNat ^ E.toNat % gP) ^ gQ % gP = 1 := in_pow hq _
  have h1 := inv_mul hz
  have h2 := rest_inv hq he
  have h3 := inv_unique h1 h2
  rw [Nat.mod_mod, Nat.mod_mod] at h3
  rw [h3]
  rfl
theorem elem_in {p E S : Int} (hI : InG p) : elemN p E S ^ gQ % gP = 1 := by
  unfold elemN
  exact in_mul (four_in _) (in_pow hI.2.2 _)
theorem elem_back {p E S : Int} (hI : InG p) (hE : 0 ≤ E ∧ E < 1152921504606845789) :
    elemN p E S * (p.toNat ^ E.toNat % gP) % gP = 4 ^ S.toNat % gP := by
  have hq := hI.2.2
  have he : E.toNat ≤ gQ := by show E.toNat ≤ 1152921504606845789; omega
  have h2 := rest_inv hq he
  unfold elemN
  rw [Nat.mul_mod, Nat.mod_mod, ← Nat.mul_mod, Nat.mul_assoc, Nat.mul_mod, h2, Nat.mul_one, Nat.mod_mod, Nat.mod_mod]
theorem equ_step {w cur w' : World} {k0 : Nat} {A0 : Obj} {v0 v1 : Value} (h : cur.heap[k0]? = some A0 ∧ cur.cell? ⟨k0, 0, none⟩ = some v0 ∧ cur.cell? ⟨k0, 1, none⟩ = some v1 ∧ Below w.heap.size w cur) (hb : Below cur.heap.size cur w') : w'.heap[k0]? = some A0 ∧ w'.cell? ⟨k0, 0, none⟩ = some v0 ∧ w'.cell? ⟨k0, 1, none⟩ = some v1 ∧ Below w.heap.size w w' := by
  obtain ⟨a0, c0, c1, d⟩ := h
  exact ⟨blk_below a0 hb (blk_lt a0), (hb.cell (p := ⟨_, 0, none⟩) (blk_lt a0)).trans c0, (hb.cell (p := ⟨_, 1, none⟩) (blk_lt a0)).trans c1, d.trans (hb.mono d.size)⟩
theorem equ_stepN {w cur : World} {k0 : Nat} {A0 : Obj} {v0 v1 : Value} (h : cur.heap[k0]? = some A0 ∧ cur.cell? ⟨k0, 0, none⟩ = some v0 ∧ cur.cell? ⟨k0, 1, none⟩ = some v1 ∧ Below w.heap.size w cur) (n : Nat) : (cur.drewN n).heap[k0]? = some A0 ∧ (cur.drewN n).cell? ⟨k0, 0, none⟩ = some v0 ∧ (cur.drewN n).cell? ⟨k0, 1, none⟩ = some v1 ∧ Below w.heap.size w (cur.drewN n) := by
  obtain ⟨a0, c0, c1, d⟩ := h
  exact ⟨a0, c0, c1, below_drewN d⟩
theorem equ_stepU {w cur : World} {k0 : Nat} {A0 : Obj} {v0 v1 : Value} {n : Nat} (h : (cur.drewN n).heap[k0]? = some A0 ∧ (cur.drewN n).cell? ⟨k0, 0, none⟩ = some v0 ∧ (cur.drewN n).cell? ⟨k0, 1, none⟩ = some v1 ∧ Below w.heap.size w (cur.drewN n)) : cur.heap[k0]? = some A0 ∧ cur.cell? ⟨k0, 0, none⟩ = some v0 ∧ cur.cell? ⟨k0, 1, none⟩ = some v1 ∧ Below w.heap.size w cur := by
  obtain ⟨a0, c0, c1, d⟩ := h
  exact ⟨a0, c0, c1, ⟨d.os, d.tape, d.output, d.size, d.block⟩⟩
set_option maxRecDepth 100000 in
set_option maxHeartbeats 8000000 in
theorem equation_core (p : Int) (c m : ByteArray) (E S : Int) (w : World) (hp : I64 p) (hEi : I64 E) (hSi : I64 S) (hg : Glob w) (hml : MLen w) (hs : c.size + m.size ≤ 4611686018427387904) :
    Calls Tryd.prog 7 #[.int .i64 p, .string c, .string m, .agg #[.int .i64 E, .int .i64 S]] w fun e w' => e = .returned (.bool true) ∧ Below w.heap.size w w' := by
  have HG := Lib.hid hg
  have HM := Lib.hid hml
  have HSh : Hid (∀ w0, Calls Tryd.prog 9 #[.string ⟨#[]⟩, .string c, .string m] w0 fun e w' => e = .returned (.bool (decide ((⟨#[]⟩ : ByteArray).size + c.size + m.size ≤ 2000))) ∧ w' = w0) := Lib.hid (fun w0 => shorts_any ⟨#[]⟩ c m w0 (by show 0 + c.size + m.size ≤ _; omega))
  clear hg hml hs
  by_cases hs : (⟨#[]⟩ : ByteArray).size + c.size + m.size ≤ 2000
  · rw [decide_eq_true hs] at HSh
    have hs2 : 0 + c.size + m.size ≤ 2000 := hs
    have hc : c.size ≤ 2000 := by omega
    have hm : m.size ≤ 2000 := by omega
    by_cases hV : VerOk p E S c.data.toList m.data.toList
    · obtain ⟨J, hJ⟩ : ∃ J : Int → Int → Int, J = fun a e => ((resN a gP ^ e.toNat % gP : Nat) : Int) := ⟨_, rfl⟩
      obtain ⟨M, hM⟩ : ∃ M : Int → Int → Int, M = fun a b => ((mulN a b gP : Nat) : Int) := ⟨_, rfl⟩
      have HJ : Hid (∀ a e n, I64 a ∧ 0 ≤ e ∧ e ≤ 9223372036854775807 → Calls Tryd.prog 24 #[.int .i64 a, .int .i64 e] n fun e' w' => e' = .returned (.int .i64 (J a e)) ∧ ∃ k, w' = n.drewN k) := Lib.hid (fun a e n h => by rw [hJ]; exact exp_any a e n h.1 h.2)
      have HU : Hid (∀ a b n, I64 a ∧ I64 b → Calls Tryd.prog 25 #[.int .i64 a, .int .i64 b] n fun e' w' => e' = .returned (.int .i64 (M a b)) ∧ ∃ k, w' = n.drewN k) := Lib.hid (fun a b n h => by rw [hM]; exact mul_any a b n h.1 h.2)
      obtain ⟨h1, hI, hE, hS, hch⟩ := hV
      obtain ⟨x1, hx1⟩ : ∃ x1, x1 = p.toNat ^ E.toNat % gP := ⟨_, rfl⟩
      obtain ⟨x2, hx2⟩ : ∃ x2, x2 = 4 ^ S.toNat % gP := ⟨_, rfl⟩
      obtain ⟨v, hv⟩ : ∃ v, v = x1 ^ (gP - 2) % gP := ⟨_, rfl⟩
      obtain ⟨r, hr⟩ : ∃ r, r = elemN p E S := ⟨_, rfl⟩
      have b1 : x1 < 2305843009213691579 := by rw [hx1]; exact lt_p _
      have b2 : x2 < 2305843009213691579 := by rw [hx2]; exact lt_p _
      have b3 : v < 2305843009213691579 := by rw [hv]; exact lt_p _
      have b4 : r < 2305843009213691579 := by rw [hr]; exact lt_p _
      have hin : InG (r : Int) := by
        have g : r ^ gQ % gP = 1 := by rw [hr]; exact elem_in hI
        have g1 := in_pos g
        exact ⟨by omega, by omega, by rw [Int.toNat_natCast]; exact g⟩
      have hx1p : 1 ≤ x1 := by
        have g : x1 ^ gQ % gP = 1 := by rw [hx1]; exact in_pow hI.2.2 _
        exact in_pos g
      have e1 : J p E = (x1 : Nat) := by
        rw [hJ, hx1]
        show ((resN p gP ^ E.toNat % gP : Nat) : Int) = _
        rw [resN_in hI.1 hI.2.1]
      have e2 : J 4 S = (x2 : Nat) := by rw [hJ, hx2]; show ((resN 4 gP ^ S.toNat % gP : Nat) : Int) = _; rw [res4]
      have e3 : M (J 4 S) v = (r : Nat) := by
        rw [e2, hM]
        show ((mulN _ _ gP : Nat) : Int) = _
        rw [mulN_nat (m := gP) b2 b3, hx2, hv, hx1, elem_inv hI hE, hr]
      have e4 : M r (J p E) = J 4 S := by
        rw [e1, e2, hM]
        show ((mulN _ _ gP : Nat) : Int) = _
        rw [mulN_nat (m := gP) b4 b1, hr, hx1, elem_back hI hE, hx2]
      have hF : EquFacts c m p E S (J 4 S) (J p E) (J 4 S) v r := by
        refine ⟨fun w => ?_, fun w => ?_, fun w => ?_, fun w => ?_, fun w hg hml => ?_, by rw [beq_eq_false_iff_ne]; exact h1, decide_eq_false (by omega), decide_eq_false (by omega), decide_eq_false (by omega), decide_eq_false (by omega)⟩
        · obtain ⟨b, hb, h⟩ := in_any p w hp
          rw [hb.2 hI] at h
          exact h
        · obtain ⟨b, hb, h⟩ := in_any r w ⟨by omega, by omega⟩
          rw [hb.2 hin] at h
          exact h
        · rw [e1]
          have h := inv_any x1 w ⟨by omega, by omega⟩
          rw [Int.toNat_natCast, ← hv] at h
          exact h
        · have h := rchal_any r p c m w ⟨by omega, by omega⟩ hp hc hm
          rw [hr, hch] at h
          rw [hr]
          exact h
        · have h := verify_any p E S c m w hp hc hm hg hml
          rw [decide_eq_true ⟨h1, hI, hE, hS, hch⟩] at h
          exact h
      have HF := Lib.hid hF
      have B1 : Hid (I64 p ∧ 0 ≤ E ∧ E ≤ 9223372036854775807) := Lib.hid ⟨hp, by omega, by omega⟩
      have B2 : Hid (I64 (4 : Int) ∧ 0 ≤ S ∧ S ≤ 9223372036854775807) := Lib.hid ⟨⟨by omega, by omega⟩, by omega, by omega⟩
      have B3 : Hid (I64 (J 4 S) ∧ I64 (v : Int)) := Lib.hid (by rw [e2]; exact ⟨⟨by omega, by omega⟩, ⟨by omega, by omega⟩⟩)
      have B4 : Hid (I64 (r : Int) ∧ I64 (J p E)) := Lib.hid (by rw [e1]; exact ⟨⟨by omega, by omega⟩, ⟨by omega, by omega⟩⟩)
      have HE3 := Lib.hid e3
      have HE4 := Lib.hid e4
      have p1 := HF.out.p1
      have E0 := HF.out.E0
      have E1 := HF.out.E1
      have S0 := HF.out.S0
      have S1 := HF.out.S1
      clear hJ hM h1 hI hE hS hch hx1 hx2 hv hr b1 b2 b3 b4 hin hx1p e1 e2 e3 e4 hF hs hs2 hc hm hp hEi hSi
      generalize (v : Int) = v at *
      generalize (r : Int) = r at *
      go_enter Tryd.func7, Tryd.ntmps7
      go_upto_region 1 with fail
      have HB1 := Lib.hid ((Below.refl w.heap.size w).alloc (Nat.le_refl _) (.cells #[.int .i64 E, .int .i64 S] 25))
      have Sh1 := Lib.hid (heap_alloc_new w (.cells #[.int .i64 E, .int .i64 S] 25))
      generalize w.alloc (.cells #[.int .i64 E, .int .i64 S] 25) = w1 at *
      have cS0 : w1.cell? ⟨w.heap.size, 0, none⟩ = some (.int .i64 E) := (cell_of_row _ _ _ _ _ _ Sh1.out).trans rfl
      have cS1 : w1.cell? ⟨w.heap.size, 1, none⟩ = some (.int .i64 S) := (cell_of_row _ _ _ _ _ _ Sh1.out).trans rfl
      go_wp2_with fail
      refine (small_any _ (HG.out.below HB1.out HG.out.size) (HM.out.up HB1.out)).mono ?_
      rintro e w2 ⟨rfl, hb⟩
      have HB2 := Lib.hid (HB1.out.trans (hb.mono HB1.out.size))
      have Sh2 := Lib.hid (blk_below Sh1.out hb (blk_lt Sh1.out))
      clear cS0 cS1
      clear HB1 Sh1
      clear hb
      have cS0 : w2.cell? ⟨w.heap.size, 0, none⟩ = some (.int .i64 E) := (cell_of_row _ _ _ _ _ _ Sh2.out).trans rfl
      have cS1 : w2.cell? ⟨w.heap.size, 1, none⟩ = some (.int .i64 S) := (cell_of_row _ _ _ _ _ _ Sh2.out).trans rfl
      go_wp2_with fail
      refine (HSh.out _).mono ?_
      rintro e wq ⟨rfl, rfl⟩
      go_wp2_with fail
      refine (HF.out.ver _ (HG.out.below HB2.out HG.out.size) (HM.out.up HB2.out)).mono ?_
      rintro e w3 ⟨rfl, hb⟩
      have HB3 := Lib.hid (HB2.out.trans (hb.mono HB2.out.size))
      have Sh3 := Lib.hid (blk_below Sh2.out hb (blk_lt Sh2.out))
      clear cS0 cS1
      clear HB2 Sh2
      clear hb
      have cS0 : w3.cell? ⟨w.heap.size, 0, none⟩ = some (.int .i64 E) := (cell_of_row _ _ _ _ _ _ Sh3.out).trans rfl
      have cS1 : w3.cell? ⟨w.heap.size, 1, none⟩ = some (.int .i64 S) := (cell_of_row _ _ _ _ _ _ Sh3.out).trans rfl
      go_wp2_with fail
      refine (HF.out.inP _).mono ?_
      rintro e wd ⟨rfl, kd, rfl⟩
      have HB4 := Lib.hid (below_drewN (n := kd) HB3.out)
      have Sh4 : Hid ((w3.drewN kd).heap[w.heap.size]? = some (.cells #[.int .i64 E, .int .i64 S] 25)) := Lib.hid Sh3.out
      clear cS0 cS1
      clear HB3 Sh3
      generalize w3.drewN kd = w4 at *
      have cS0 : w4.cell? ⟨w.heap.size, 0, none⟩ = some (.int .i64 E) := (cell_of_row _ _ _ _ _ _ Sh4.out).trans rfl
      have cS1 : w4.cell? ⟨w.heap.size, 1, none⟩ = some (.int .i64 S) := (cell_of_row _ _ _ _ _ _ Sh4.out).trans rfl
      go_wp2_with fail
      refine (HJ.out p E _ B1.out).mono ?_
      rintro e wd ⟨rfl, kd, rfl⟩
      have HB5 := Lib.hid (below_drewN (n := kd) HB4.out)
      have Sh5 : Hid ((w4.drewN kd).heap[w.heap.size]? = some (.cells #[.int .i64 E, .int .i64 S] 25)) := Lib.hid Sh4.out
      clear cS0 cS1
      clear HB4 Sh4
      generalize w4.drewN kd = w5 at *
      have cS0 : w5.cell? ⟨w.heap.size, 0, none⟩ = some (.int .i64 E) := (cell_of_row _ _ _ _ _ _ Sh5.out).trans rfl
      have cS1 : w5.cell? ⟨w.heap.size, 1, none⟩ = some (.int .i64 S) := (cell_of_row _ _ _ _ _ _ Sh5.out).trans rfl
      go_wp2_with fail
      refine (HF.out.inv _).mono ?_
      rintro e wd ⟨rfl, kd, rfl⟩
      have HB6 := Lib.hid (below_drewN (n := kd) HB5.out)
      have Sh6 : Hid ((w5.drewN kd).heap[w.heap.size]? = some (.cells #[.int .i64 E, .int .i64 S] 25)) := Lib.hid Sh5.out
      clear cS0 cS1
      clear HB5 Sh5
      generalize w5.drewN kd = w6 at *
      have cS0 : w6.cell? ⟨w.heap.size, 0, none⟩ = some (.int .i64 E) := (cell_of_row _ _ _ _ _ _ Sh6.out).trans rfl
      have cS1 : w6.cell? ⟨w.heap.size, 1, none⟩ = some (.int .i64 S) := (cell_of_row _ _ _ _ _ _ Sh6.out).trans rfl
      go_wp2_with fail
      refine (HJ.out 4 S _ B2.out).mono ?_
      rintro e wd ⟨rfl, kd, rfl⟩
      have HB7 := Lib.hid (below_drewN (n := kd) HB6.out)
      have Sh7 : Hid ((w6.drewN kd).heap[w.heap.size]? = some (.cells #[.int .i64 E, .int .i64 S] 25)) := Lib.hid Sh6.out
      clear cS0 cS1
      clear HB6 Sh6
      generalize w6.drewN kd = w7 at *
      have cS0 : w7.cell? ⟨w.heap.size, 0, none⟩ = some (.int .i64 E) := (cell_of_row _ _ _ _ _ _ Sh7.out).trans rfl
      have cS1 : w7.cell? ⟨w.heap.size, 1, none⟩ = some (.int .i64 S) := (cell_of_row _ _ _ _ _ _ Sh7.out).trans rfl
      go_wp2_with fail
      refine (HU.out (J 4 S) v _ B3.out).mono ?_
      rintro e wd ⟨rfl, kd, rfl⟩
      have HB8 := Lib.hid (below_drewN (n := kd) HB7.out)
      have Sh8 : Hid ((w7.drewN kd).heap[w.heap.size]? = some (.cells #[.int .i64 E, .int .i64 S] 25)) := Lib.hid Sh7.out
      clear cS0 cS1
      clear HB7 Sh7
      generalize w7.drewN kd = w8 at *
      have cS0 : w8.cell? ⟨w.heap.size, 0, none⟩ = some (.int .i64 E) := (cell_of_row _ _ _ _ _ _ Sh8.out).trans rfl
      have cS1 : w8.cell? ⟨w.heap.size, 1, none⟩ = some (.int .i64 S) := (cell_of_row _ _ _ _ _ _ Sh8.out).trans rfl
      rw [HE3.out]
      go_upto_region 9 with fail
      have hfin : (J 4 S == M r (J p E)) = true := by rw [HE4.out]; exact beq_self_eq_true _
      clear cS0 cS1
      have HS0 : Hid (w8.heap[w.heap.size]? = some (.cells #[.int .i64 E, .int .i64 S] 25) ∧ w8.cell? ⟨w.heap.size, 0, none⟩ = some (.int .i64 E) ∧ w8.cell? ⟨w.heap.size, 1, none⟩ = some (.int .i64 S) ∧ Below w.heap.size w w8) := Lib.hid ⟨Sh8.out, (cell_of_row _ _ _ _ _ _ Sh8.out).trans rfl, (cell_of_row _ _ _ _ _ _ Sh8.out).trans rfl, HB8.out⟩
      clear Sh8 HB8
      go_region_held3 (fun w' => w'.heap[w.heap.size]? = some (.cells #[.int .i64 E, .int .i64 S] 25) ∧ w'.cell? ⟨w.heap.size, 0, none⟩ = some (.int .i64 E) ∧ w'.cell? ⟨w.heap.size, 1, none⟩ = some (.int .i64 S) ∧ Below w.heap.size w w') (first | assumption | exact HS0.out | exact equ_step (by assumption) hb | exact equ_stepN (by assumption) _ | exact equ_stepU (by assumption) | exact equ_stepN (equ_stepU (by assumption)) _) ((first | (go_at_call 22; refine (HF.out.inR _).mono ?_; rintro e w' ⟨rfl, k, rfl⟩) | (go_at_call 21; refine (HF.out.chal _).mono ?_; rintro e w' ⟨rfl, hb⟩) | (go_at_call 24; refine (HJ.out _ _ _ (by first | exact B1.out | exact B2.out)).mono ?_; rintro e w' ⟨rfl, k, rfl⟩) | (go_at_call 25; refine (HU.out _ _ _ B4.out).mono ?_; rintro e w' ⟨rfl, k, rfl⟩)))
      rename World => w9
      rename _ ∧ _ => hFin
      obtain ⟨qS, -, -, qBel⟩ := hFin
      have Sh9 := Lib.hid qS
      have HB9 := Lib.hid qBel
      clear HS0 qBel qS
      have cS0 : w9.cell? ⟨w.heap.size, 0, none⟩ = some (.int .i64 E) := (cell_of_row _ _ _ _ _ _ Sh9.out).trans rfl
      have cS1 : w9.cell? ⟨w.heap.size, 1, none⟩ = some (.int .i64 S) := (cell_of_row _ _ _ _ _ _ Sh9.out).trans rfl
      go_wp2_with fail
      go_ret
      exact ⟨rfl, HB9.out⟩
    · have HV : Hid (∀ w, Glob w → MLen w → Calls Tryd.prog 18 #[.int .i64 p, .string c, .string m, .agg #[.int .i64 E, .int .i64 S]] w fun e w' => e = .returned (.bool false) ∧ Below w.heap.size w w') := Lib.hid (fun w a b => by
        have h := verify_any p E S c m w hp hc hm a b
        rw [decide_eq_false hV] at h
        exact h)
      clear hs hs2 hc hm hV hp hEi hSi
      go_enter Tryd.func7, Tryd.ntmps7
      go_upto_region 1 with fail
      have HB1 := Lib.hid ((Below.refl w.heap.size w).alloc (Nat.le_refl _) (.cells #[.int .i64 E, .int .i64 S] 25))
      have Sh1 := Lib.hid (heap_alloc_new w (.cells #[.int .i64 E, .int .i64 S] 25))
      generalize w.alloc (.cells #[.int .i64 E, .int .i64 S] 25) = w1 at *
      have cS0 : w1.cell? ⟨w.heap.size, 0, none⟩ = some (.int .i64 E) := (cell_of_row _ _ _ _ _ _ Sh1.out).trans rfl
      have cS1 : w1.cell? ⟨w.heap.size, 1, none⟩ = some (.int .i64 S) := (cell_of_row _ _ _ _ _ _ Sh1.out).trans rfl
      go_wp2_with fail
      refine (small_any _ (HG.out.below HB1.out HG.out.size) (HM.out.up HB1.out)).mono ?_
      rintro e w2 ⟨rfl, hb⟩
      have HB2 := Lib.hid (HB1.out.trans (hb.mono HB1.out.size))
      have Sh2 := Lib.hid (blk_below Sh1.out hb (blk_lt Sh1.out))
      clear cS0 cS1
      clear HB1 Sh1
      clear hb
      have cS0 : w2.cell? ⟨w.heap.size, 0, none⟩ = some (.int .i64 E) := (cell_of_row _ _ _ _ _ _ Sh2.out).trans rfl
      have cS1 : w2.cell? ⟨w.heap.size, 1, none⟩ = some (.int .i64 S) := (cell_of_row _ _ _ _ _ _ Sh2.out).trans rfl
      go_wp2_with fail
      refine (HSh.out _).mono ?_
      rintro e wq ⟨rfl, rfl⟩
      go_wp2_with fail
      refine (HV.out _ (HG.out.below HB2.out HG.out.size) (HM.out.up HB2.out)).mono ?_
      rintro e w3 ⟨rfl, hb⟩
      have HB3 := Lib.hid (HB2.out.trans (hb.mono HB2.out.size))
      have Sh3 := Lib.hid (blk_below Sh2.out hb (blk_lt Sh2.out))
      clear cS0 cS1
      clear HB2 Sh2
      clear hb
      have cS0 : w3.cell? ⟨w.heap.size, 0, none⟩ = some (.int .i64 E) := (cell_of_row _ _ _ _ _ _ Sh3.out).trans rfl
      have cS1 : w3.cell? ⟨w.heap.size, 1, none⟩ = some (.int .i64 S) := (cell_of_row _ _ _ _ _ _ Sh3.out).trans rfl
      go_wp2_with fail
      go_ret
      exact ⟨rfl, HB3.out⟩
  · rw [decide_eq_false hs] at HSh
    clear hs hp hEi hSi
    go_enter Tryd.func7, Tryd.ntmps7
    go_upto_region 1 with fail
    have HB1 := Lib.hid ((Below.refl w.heap.size w).alloc (Nat.le_refl _) (.cells #[.int .i64 E, .int .i64 S] 25))
    have Sh1 := Lib.hid (heap_alloc_new w (.cells #[.int .i64 E, .int .i64 S] 25))
    generalize w.alloc (.cells #[.int .i64 E, .int .i64 S] 25) = w1 at *
    have cS0 : w1.cell? ⟨w.heap.size, 0, none⟩ = some (.int .i64 E) := (cell_of_row _ _ _ _ _ _ Sh1.out).trans rfl
    have cS1 : w1.cell? ⟨w.heap.size, 1, none⟩ = some (.int .i64 S) := (cell_of_row _ _ _ _ _ _ Sh1.out).trans rfl
    go_wp2_with fail
    refine (small_any _ (HG.out.below HB1.out HG.out.size) (HM.out.up HB1.out)).mono ?_
    rintro e w2 ⟨rfl, hb⟩
    have HB2 := Lib.hid (HB1.out.trans (hb.mono HB1.out.size))
    have Sh2 := Lib.hid (blk_below Sh1.out hb (blk_lt Sh1.out))
    clear cS0 cS1
    clear HB1 Sh1
    clear hb
    have cS0 : w2.cell? ⟨w.heap.size, 0, none⟩ = some (.int .i64 E) := (cell_of_row _ _ _ _ _ _ Sh2.out).trans rfl
    have cS1 : w2.cell? ⟨w.heap.size, 1, none⟩ = some (.int .i64 S) := (cell_of_row _ _ _ _ _ _ Sh2.out).trans rfl
    go_wp2_with fail
    refine (HSh.out _).mono ?_
    rintro e wq ⟨rfl, rfl⟩
    go_wp2_with fail
    go_ret
    exact ⟨rfl, HB2.out⟩
end Go.Proofs.YtnomicccdhilbaaDoor
/- bournelaw05.SignEquation returns true for every input that the statement speaks of, and leaves its arguments as they were. -/
namespace Go.Proofs.YtnomicccdhilbaaDoor.signEquation
open Go.ChangeShapes Go.WideShapes Go.ChangeAt Go.RowKit Go.WideMaps Go.WideElems
open Go.ChangeMaps (open_string shut_string)
set_option maxRecDepth 100000 in
/-- what the walk gives, for all arguments -/
theorem contract (H : Type) (enc : TypeId × Value → H) (W : World) (base : Nat) (args : Array Value) (ds gs : List (DataW H)) (before : List MemPlace)
    (hval : ∀ (j : Nat) t v, Tryd.f7.params[j]? = some t → args[j]? = some v → Value.okWide Tryd.prog W .any base t v)
    (hW : DataW.Whole enc Tryd.prog Tryd.f7.params.toList Rows.signEquationSpec.vars false W args.toList ds gs before) (hsh : W.ShapedOpen Tryd.prog) (hL : laidMetH Tryd.prog Rows.signEquationRow.laid W)
    (hsz : (DataW.weightsEach Tryd.prog (Tryd.f7.params.toList ++ (OpenSpec.ofChange Rows.signEquationSpec).bare.plain.varTypes Tryd.prog) (ds ++ gs)).all (· ≤ reachBytes) = true) :
    Calls Tryd.prog 7 args W fun e W' => ∃ v, e = .returned v ∧ Rows.signEquationSpec.post enc Tryd.prog Tryd.f7 false true false false W args v W' := by
  have hW' := hW
  have hz : ∀ (j : Nat) t bytes, Tryd.f7.params.toList[j]? = some t → ds[j]? = some (.lit (.string bytes)) → bytes.length ≤ reachBytes := by
    intro j t bytes ht hd
    refine sized_string hsz (j := j) (t := t) ?_ ?_
    · rw [List.getElem?_append_left (List.getElem?_eq_some_iff.1 ht).1]; exact ht
    · rw [List.getElem?_append_left (List.getElem?_eq_some_iff.1 hd).1]; exact hd
  obtain ⟨p, q, hA0, hV, rfl, hfz, hnd⟩ := hW
  have hA : DataW.TrodAll enc Tryd.prog W 0 (fun _ => true) true Tryd.f7.params.toList args.toList ds p := hA0
  rw [Tryd.params7] at hA hval hz
  obtain ⟨v0, vs0, d0, ds0, p0, q0, hargs, rfl, rfl, h0, r0⟩ := trodAll_cons hA
  obtain ⟨v1, vs1, d1, ds1, p1, q1, rfl, rfl, rfl, h1, r1⟩ := trodAll_cons r0
  obtain ⟨v2, vs2, d2, ds2, p2, q2, rfl, rfl, rfl, h2, r2⟩ := trodAll_cons r1
  obtain ⟨v3, vs3, d3, ds3, p3, q3, rfl, rfl, rfl, h3, r3⟩ := trodAll_cons r2
  obtain ⟨rfl, rfl, rfl⟩ := trodAll_nil r3
  obtain rfl : args = #[v0, v1, v2, v3] := by cases args; simp_all
  obtain ⟨rfl, rfl⟩ := trodVars_none hV
  obtain ⟨a0, rfl, rfl, rfl, w0⟩ := open_int Tryd.underlying3 (hval 0 3 v0 rfl rfl) h0
  obtain ⟨a1, rfl, rfl, rfl, w1⟩ := open_string Tryd.underlying9 (hval 1 9 v1 rfl rfl) h1
  have z1 : a1.size ≤ reachBytes := hz 1 9 _ rfl rfl
  obtain ⟨a2, rfl, rfl, rfl, w2⟩ := open_string Tryd.underlying9 (hval 2 9 v2 rfl rfl) h2
  have z2 : a2.size ≤ reachBytes := hz 2 9 _ rfl rfl
  obtain ⟨a3, b3, rfl, w3, l3⟩ := arg_sig (hval 3 25 v3 rfl rfl) h3
  have lt3 := trod_below h3
  clear hA0
  simp only [List.append_nil] at hW'
  refine (equation_core a0 a1 a2 a3 b3 W (i64_wf w0) w3 l3 (glob_of_laid hL) (mlen_of hsh) (by have hr := reachBytes_lt; omega)).mono fun e W' ⟨he, hb⟩ => ?_
  subst he
  exact ⟨_, rfl, _, _, _, [], _, [], hW', trodAll_cons_mk (shut_bool Tryd.underlying4 _) trodAll_mk0, (trodAll_cons_mk (shut_int Tryd.underlying3 w0) (trodAll_cons_mk (shut_string Tryd.underlying9 w1) (trodAll_cons_mk (shut_string Tryd.underlying9 w2) (trodAll_cons_mk (Below.trod laidOut (by kernel_rfl) (of_decide_eq_true (by kernel_rfl)) h3 hb lt3) trodAll_mk0)))), rfl, hb.frame _, fun h => by cases h⟩
theorem laid_met (os : Os) : laidMet Tryd.prog Rows.signEquationRow.laid ((laidWorld os).forCall (fun _ _ => 0) ⟨#[], #[.int .i64 0, .string ⟨#[]⟩, .string ⟨#[]⟩, .agg #[.int .i64 0, .int .i64 0]], []⟩).memory :=
  laidMet_of_run' 8 (by kernel_rfl) (by kernel_rfl)
theorem reads (os : Os) {H : Type} (enc : TypeId × Value → H) : ∃ places, DataW.whole enc Tryd.prog ((laidWorld os).forCall (fun _ _ => 0) ⟨#[], #[.int .i64 0, .string ⟨#[]⟩, .string ⟨#[]⟩, .agg #[.int .i64 0, .int .i64 0]], []⟩).memory Tryd.f7.params.toList Rows.signEquationSpec.vars false (#[.int .i64 0, .string ⟨#[]⟩, .string ⟨#[]⟩, .agg #[.int .i64 0, .int .i64 0]] : Array Value).toList 8 = some ([.lit (.int .i64 0), .lit (.string []), .lit (.string []), .agg [.lit (.int .i64 0), .lit (.int .i64 0)]], [], places) :=
  ⟨[], by kernel_rfl⟩
set_option maxRecDepth 100000 in
theorem lifted (os : Os) (started : os.Started) (H : Type) (enc : TypeId × Value → H) (F : Stop.Interp) :
    ReturnsInHanded {} Tryd.checked os 7 .any ((OpenSpec.ofChange Rows.signEquationSpec).preRow enc Tryd.prog Tryd.f7 Rows.signEquationRow.domain false Rows.signEquationRow.laid) (((OpenSpec.ofChange Rows.signEquationSpec).at F).post enc Tryd.prog Tryd.f7 false true false false) := by
  obtain ⟨places, hx⟩ := reads os enc
  refine returnsInHanded_of_row (C := Tryd.checked) (s := OpenSpec.ofChange Rows.signEquationSpec) own started (by kernel_rfl) Tryd.func7
    (witness_row_at (enc := enc) (C := Tryd.checked) false (laidWorld os) #[.int .i64 0, .string ⟨#[]⟩, .string ⟨#[]⟩, .agg #[.int .i64 0, .int .i64 0]] rfl (by kernel_rfl) (by kernel_rfl) (by kernel_rfl)
      (OpenSpec.preRow_of_cond 8 hx (by kernel_rfl) (fun k hk => by cases hk) (by kernel_rfl) (laid_met os))) ?_
  intro W base args ds gs before hval hW _ _ hsz hL hsh _
  exact contract H enc W base args ds gs before hval hW hsh hL hsz
theorem said : Rows.SignEquationSaid :=
  OpenClaim.holds_of_cond 7 Tryd.f7 rfl rfl rfl rfl rfl rfl rfl ⟨rfl, rfl, rfl, rfl, rfl⟩ rfl rfl rfl rfl rfl (by kernel_rfl) Tryd.func7 (by kernel_rfl)
    (of_decide_eq_true (by kernel_rfl)) (by unfold Func.isWrapper; first | (rw [if_pos (by decide +kernel)]; kernel_rfl) | (rw [if_neg (by decide +kernel)]; exact ⟨rfl, rfl⟩))
    (fun os started H enc _ F => by rw [OpenClaim.pre_eq_preRow]; exact lifted os started H enc F)
theorem plain (f : FuncId) (fn : Func) (hf : Tryd.pinned.checked.prog.funcNamed "bourne/bournelaw05.SignEquation" = some f) (hfn : Tryd.pinned.checked.prog.funcs[f]? = some fn) :
    false = Tryd.pinned.checked.prog.looks [] ∧ ∀ (j : Nat) t, fn.params[j]? = some t → Tryd.pinned.checked.prog.wantsStandIn t = false := by
  obtain rfl : f = 7 := Option.some.inj ((show Tryd.prog.funcNamed "bourne/bournelaw05.SignEquation" = some 7 by kernel_rfl).symm.trans hf) |>.symm
  obtain rfl : fn = Tryd.f7 := (Option.some.inj (Tryd.func7.symm.trans hfn)).symm
  refine ⟨by kernel_rfl, fun j t ht => ?_⟩
  rw [Tryd.params7] at ht
  have hm : t = 3 ∨ t = 9 ∨ t = 9 ∨ t = 25 := by simpa using Array.mem_of_getElem? ht
  have h1 : ∀ t, (t = 3 ∨ t = 9 ∨ t = 9 ∨ t = 25) → Tryd.prog.wantsStandIn t = false := by
    intro t ht
    rcases ht with rfl | rfl | rfl | rfl
    · exact (show Tryd.prog.wantsStandIn 3 = false by kernel_rfl)
    · exact (show Tryd.prog.wantsStandIn 9 = false by kernel_rfl)
    · exact (show Tryd.prog.wantsStandIn 9 = false by kernel_rfl)
    · exact (show Tryd.prog.wantsStandIn 25 = false by kernel_rfl)
  exact h1 t hm
/-- the tied card -/
theorem card : Rows.SignEquationCardSaid :=
  Claim7.holds_tied_plain_at .later [] _ _ _ _ said (fun _ h => by cases h) (by kernel_rfl) (fun _ h => by cases h) signEquation_row_tie rfl ⟨rfl, rfl⟩ (by kernel_rfl) rfl plain (by kernel_rfl)
end Go.Proofs.YtnomicccdhilbaaDoor.signEquation
