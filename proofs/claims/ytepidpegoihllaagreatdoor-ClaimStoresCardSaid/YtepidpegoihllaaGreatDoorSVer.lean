/- sign.Verify. -/
import Derived.Outline
import Derived.Test.YtepidpegoihllaaGreatDoorSKeyA
namespace Go.Proofs.YtepidpegoihllaaGreatDoor
open Go.RowKit
/-- what a signature stands for -/
def elemN (p E S : Int) : Nat := (4 ^ S.toNat % gP) * (p.toNat ^ (gQ - E.toNat) % gP) % gP
def VerOk (p E S : Int) (c m : List UInt8) : Prop := p ≠ 1 ∧ InG p ∧ (0 ≤ E ∧ E < 1152921504606845789) ∧ (0 ≤ S ∧ S < 1152921504606845789) ∧ ((chalN (elemN p E S : Nat) p c m : Nat) : Int) = E
theorem mulN_nat {x y m : Nat} (hx : x < m) (hy : y < m) : mulN (x : Int) (y : Int) m = x * y % m := by
  unfold mulN
  rw [resN_of hx, resN_of hy]
theorem res4 : resN 4 gP = 4 := by decide +kernel
theorem s1_step {w cur w' : World} {nb : Nat} {b0 : Value} (h : cur.cell? ⟨nb, 0, none⟩ = some b0 ∧ nb < cur.heap.size ∧ Below w.heap.size w cur)
    (hb : Below cur.heap.size cur w') : w'.cell? ⟨nb, 0, none⟩ = some b0 ∧ nb < w'.heap.size ∧ Below w.heap.size w w' := by
  obtain ⟨h0, h5, h6⟩ := h
  exact ⟨(hb.cell (p := ⟨nb, 0, none⟩) h5).trans h0, Nat.lt_of_lt_of_le h5 hb.size, h6.trans (hb.mono h6.size)⟩
set_option maxRecDepth 100000 in
set_option maxHeartbeats 2000000 in
theorem ver_out (p E S : Int) (c m : ByteArray) (w : World) (hp : I64 p) (hn : ¬ (p ≠ 1 ∧ InG p ∧ (0 ≤ E ∧ E < 1152921504606845789) ∧ (0 ≤ S ∧ S < 1152921504606845789))) :
    Calls Tryz.prog 56 #[.int .i64 p, .string c, .string m, .agg #[.int .i64 E, .int .i64 S]] w fun e w' => e = .returned (.bool false) ∧ Below w.heap.size w w' := by
  have HZ := Lib.hid (heap_alloc_new w (.cells #[.int .i64 E, .int .i64 S] 41))
  have HB := Lib.hid ((Below.refl w.heap.size w).alloc (Nat.le_refl _) (.cells #[.int .i64 E, .int .i64 S] 41))
  by_cases h1 : p = 1
  · subst h1
    clear hn hp
    go_enter Tryz.func56, Tryz.ntmps56
    go_wp2_with fail
    go_ret
    exact ⟨rfl, HB.out⟩
  · obtain ⟨b, hb, hc⟩ : ∃ b : Bool, (b = true ↔ InG p) ∧ ∀ w0, Calls Tryz.prog 89 #[.int .i64 p] w0 fun e w' => e = .returned (.bool b) ∧ ∃ n, w' = w0.drewN n := by
      obtain ⟨b, hb, _⟩ := in_any p w hp
      refine ⟨b, hb, fun w0 => ?_⟩
      obtain ⟨b', hb', h'⟩ := in_any p w0 hp
      have e : b = b' := by
        rw [Bool.eq_iff_iff, hb, hb']
      rw [e]
      exact h'
    have HC := Lib.hid hc
    have t1 : (p == 1) = false := by rw [beq_eq_false_iff_ne]; exact h1
    clear hc
    cases b with
    | false =>
      clear hn hp hb h1
      go_enter Tryz.func56, Tryz.ntmps56
      go_wp2_with fail
      refine (HC.out _).mono ?_
      rintro e w1 ⟨rfl, k, rfl⟩
      have HB1 := Lib.hid (below_drewN (n := k) HB.out)
      go_wp2_with fail
      go_ret
      exact ⟨rfl, HB1.out⟩
    | true =>
      have hIn : InG p := hb.1 rfl
      have hd : E < 0 ∨ (0 ≤ E ∧ 1152921504606845789 ≤ E) ∨ (0 ≤ E ∧ E < 1152921504606845789 ∧ S < 0) ∨ (0 ≤ E ∧ E < 1152921504606845789 ∧ 0 ≤ S ∧ 1152921504606845789 ≤ S) := by
        by_cases e1 : E < 0
        · exact .inl e1
        · by_cases e2 : E < 1152921504606845789
          · by_cases e3 : S < 0
            · exact .inr (.inr (.inl ⟨by omega, e2, e3⟩))
            · by_cases e4 : S < 1152921504606845789
              · exact absurd ⟨h1, hIn, ⟨by omega, e2⟩, ⟨by omega, e4⟩⟩ hn
              · exact .inr (.inr (.inr ⟨by omega, e2, by omega, by omega⟩))
          · exact .inr (.inl ⟨by omega, by omega⟩)
      clear hn hp hb h1 hIn
      go_enter Tryz.func56, Tryz.ntmps56
      go_wp2_with fail
      refine (HC.out _).mono ?_
      rintro e w1 ⟨rfl, k, rfl⟩
      have HB1 := Lib.hid (below_drewN (n := k) HB.out)
      have c0 : ((w.alloc (.cells #[.int .i64 E, .int .i64 S] 41)).drewN k).cell? ⟨w.heap.size, 0, none⟩ = some (.int .i64 E) := (cell_of_row _ _ _ _ _ _ HZ.out).trans rfl
      have c1 : ((w.alloc (.cells #[.int .i64 E, .int .i64 S] 41)).drewN k).cell? ⟨w.heap.size, 1, none⟩ = some (.int .i64 S) := (cell_of_row _ _ _ _ _ _ HZ.out).trans rfl
      generalize (w.alloc (.cells #[.int .i64 E, .int .i64 S] 41)).drewN k = w1 at *
      rcases hd with d | d | d | d
      · have u1 : decide (E < 0) = true := decide_eq_true d
        clear d
        go_wp2_with fail
        go_ret
        exact ⟨rfl, HB1.out⟩
      · have u1 : decide (E < 0) = false := decide_eq_false (by omega)
        have u2 : decide (1152921504606845789 ≤ E) = true := decide_eq_true d.2
        clear d
        go_wp2_with fail
        go_ret
        exact ⟨rfl, HB1.out⟩
      · have u1 : decide (E < 0) = false := decide_eq_false (by omega)
        have u2 : decide (1152921504606845789 ≤ E) = false := decide_eq_false (by omega)
        have u3 : decide (S < 0) = true := decide_eq_true d.2.2
        clear d
        go_wp2_with fail
        go_ret
        exact ⟨rfl, HB1.out⟩
      · have u1 : decide (E < 0) = false := decide_eq_false (by omega)
        have u2 : decide (1152921504606845789 ≤ E) = false := decide_eq_false (by omega)
        have u3 : decide (S < 0) = false := decide_eq_false (by omega)
        have u4 : decide (1152921504606845789 ≤ S) = true := decide_eq_true d.2.2.2
        clear d
        go_wp2_with fail
        go_ret
        exact ⟨rfl, HB1.out⟩
set_option maxRecDepth 100000 in
set_option maxHeartbeats 4000000 in
theorem ver_in (p E S : Int) (c m : ByteArray) (w : World) (hc : c.size ≤ 2000) (hm : m.size ≤ 10000000) (hg : Glob w) (hml : MLen w)
    (h1 : p ≠ 1) (hI : InG p) (hE : 0 ≤ E ∧ E < 1152921504606845789) (hS : 0 ≤ S ∧ S < 1152921504606845789) :
    Calls Tryz.prog 56 #[.int .i64 p, .string c, .string m, .agg #[.int .i64 E, .int .i64 S]] w fun e w' => e = .returned (.bool (((chalN (elemN p E S : Nat) p c.data.toList m.data.toList : Nat) : Int) == E)) ∧ Below w.heap.size w w' := by
  have HZ := Lib.hid (heap_alloc_new w (.cells #[.int .i64 E, .int .i64 S] 41))
  have HB := Lib.hid ((Below.refl w.heap.size w).alloc (Nat.le_refl _) (.cells #[.int .i64 E, .int .i64 S] 41))
  have hp : I64 p := ⟨by have := hI.1; omega, by have := hI.2.1; omega⟩
  have HC : Hid (∀ w0, Calls Tryz.prog 89 #[.int .i64 p] w0 fun e w' => e = .returned (.bool true) ∧ ∃ n, w' = w0.drewN n) := Lib.hid (fun w0 => by
    obtain ⟨b, hb, h⟩ := in_any p w0 hp
    rw [hb.2 hI] at h
    exact h)
  obtain ⟨J, hJ⟩ : ∃ J : Int → Int → Int, J = fun a e => ((resN a gP ^ e.toNat % gP : Nat) : Int) := ⟨_, rfl⟩
  obtain ⟨M, hM⟩ : ∃ M : Int → Int → Int, M = fun a b => ((mulN a b gP : Nat) : Int) := ⟨_, rfl⟩
  obtain ⟨q, hq⟩ : ∃ q : Int, q = 1152921504606845789 - E := ⟨_, rfl⟩
  have HJ : Hid (∀ a e n, I64 a ∧ 0 ≤ e ∧ e ≤ 9223372036854775807 → Calls Tryz.prog 72 #[.int .i64 a, .int .i64 e] n fun e' w' => e' = .returned (.int .i64 (J a e)) ∧ ∃ k, w' = n.drewN k) := Lib.hid (fun a e n h => by rw [hJ]; exact exp_any a e n h.1 h.2)
  have HU : Hid (∀ a b n, I64 a ∧ I64 b → Calls Tryz.prog 90 #[.int .i64 a, .int .i64 b] n fun e' w' => e' = .returned (.int .i64 (M a b)) ∧ ∃ k, w' = n.drewN k) := Lib.hid (fun a b n h => by rw [hM]; exact mul_any a b n h.1 h.2)
  have e1 : J 4 S = ((4 ^ S.toNat % gP : Nat) : Int) := by rw [hJ]; show ((resN 4 gP ^ S.toNat % gP : Nat) : Int) = _; rw [res4]
  have e2 : J p q = ((p.toNat ^ (gQ - E.toNat) % gP : Nat) : Int) := by
    rw [hJ]
    show ((resN p gP ^ q.toNat % gP : Nat) : Int) = _
    rw [resN_in hI.1 hI.2.1]
    have e : q.toNat = gQ - E.toNat := by show q.toNat = 1152921504606845789 - E.toNat; omega
    rw [e]
  have e3 : M (J 4 S) (J p q) = ((elemN p E S : Nat) : Int) := by
    rw [e1, e2, hM]
    show ((mulN _ _ gP : Nat) : Int) = _
    rw [mulN_nat (m := gP) (lt_p _) (lt_p _)]
    rfl
  have B1 : Hid (I64 (4 : Int) ∧ 0 ≤ S ∧ S ≤ 9223372036854775807) := Lib.hid ⟨⟨by omega, by omega⟩, by omega, by omega⟩
  have B2 : Hid (I64 p ∧ 0 ≤ q ∧ q ≤ 9223372036854775807) := Lib.hid ⟨hp, by omega, by omega⟩
  have B3 : Hid (I64 (J 4 S) ∧ I64 (J p q)) := Lib.hid (by
    rw [e1, e2]
    have a1 : 4 ^ S.toNat % gP < 2305843009213691579 := lt_p _
    have a2 : p.toNat ^ (gQ - E.toNat) % gP < 2305843009213691579 := lt_p _
    generalize 4 ^ S.toNat % gP = z1 at *
    generalize p.toNat ^ (gQ - E.toNat) % gP = z2 at *
    exact ⟨⟨by omega, by omega⟩, ⟨by omega, by omega⟩⟩)
  obtain ⟨x3, hx3⟩ : ∃ x3, x3 = elemN p E S := ⟨_, rfl⟩
  have hx3l : x3 < 2305843009213691579 := by rw [hx3]; exact lt_p _
  rw [← hx3] at e3 ⊢
  obtain ⟨y, hy⟩ : ∃ y, y = chalN (x3 : Nat) p c.data.toList m.data.toList := ⟨_, rfl⟩
  rw [← hy]
  have H4 : Hid (∀ n, Glob n → MLen n → Calls Tryz.prog 78 #[.int .i64 (M (J 4 S) (J p q)), .int .i64 p, .string c, .string m] n fun e w' => e = .returned (.int .i64 (y : Nat)) ∧ Below n.heap.size n w') := Lib.hid (fun n a b => by
    have h := chal_any x3 p c m n ⟨by omega, by omega⟩ hp hc hm a b
    rw [← hy, ← e3] at h
    exact h)
  clear e1 e2 e3
  have HG := Lib.hid hg
  have HM := Lib.hid hml
  have t1 : (p == 1) = false := by rw [beq_eq_false_iff_ne]; exact h1
  have u1 : decide (E < 0) = false := decide_eq_false (by omega)
  have u2 : decide (1152921504606845789 ≤ E) = false := decide_eq_false (by omega)
  have u3 : decide (S < 0) = false := decide_eq_false (by omega)
  have u4 : decide (1152921504606845789 ≤ S) = false := decide_eq_false (by omega)
  have hq2 : 1152921504606845789 - E = q := hq.symm
  have hqb : 0 ≤ q ∧ q ≤ 1152921504606845789 := ⟨by omega, by omega⟩
  clear hJ hM hx3 hy hg hml hc hm h1 hI hp hq
  go_enter Tryz.func56, Tryz.ntmps56
  go_wp2_with fail
  refine (HC.out _).mono ?_
  rintro e w1 ⟨rfl, k, rfl⟩
  have HB1 := Lib.hid (below_drewN (n := k) HB.out)
  have c0 : ((w.alloc (.cells #[.int .i64 E, .int .i64 S] 41)).drewN k).cell? ⟨w.heap.size, 0, none⟩ = some (.int .i64 E) := (cell_of_row _ _ _ _ _ _ HZ.out).trans rfl
  have c1 : ((w.alloc (.cells #[.int .i64 E, .int .i64 S] 41)).drewN k).cell? ⟨w.heap.size, 1, none⟩ = some (.int .i64 S) := (cell_of_row _ _ _ _ _ _ HZ.out).trans rfl
  have HL : Hid (w.heap.size < ((w.alloc (.cells #[.int .i64 E, .int .i64 S] 41)).drewN k).heap.size) := Lib.hid (blk_lt (show ((w.alloc (.cells #[.int .i64 E, .int .i64 S] 41)).drewN k).heap[w.heap.size]? = _ from HZ.out))
  generalize (w.alloc (.cells #[.int .i64 E, .int .i64 S] 41)).drewN k = w1 at *
  go_upto_region 5 with fail
  go_quiet ((first | (go_at_call 72; exact Calls.quiet_of (HJ.out _ _ _ (by first | exact B1.out | exact B2.out))) | (go_at_call 90; exact Calls.quiet_of (HU.out _ _ _ B3.out))))
  go_upto_region 6 with fail
  generalize hWn : w1.drewN nq = w2 at *
  have HS0 : Hid (w2.drew.cell? ⟨w.heap.size, 0, none⟩ = some (.int .i64 E) ∧ w.heap.size < w2.drew.heap.size ∧ Below w.heap.size w w2.drew) := Lib.hid (by
    rw [← hWn]
    exact ⟨c0, HL.out, (below_drewN (n := nq) HB1.out).drew⟩)
  clear hWn c0 c1 HL HB1
  go_region_held3 (fun w' => w'.cell? ⟨w.heap.size, 0, none⟩ = some (.int .i64 E) ∧ w.heap.size < w'.heap.size ∧ Below w.heap.size w w') (first | assumption | exact HS0.out | exact s1_step (by assumption) hb) ((first | (go_at_call 78; refine (H4.out _ (HG.out.below (show _ ∧ _ ∧ Below w.heap.size w _ by assumption).2.2 HG.out.size) (HM.out.up (show _ ∧ _ ∧ Below w.heap.size w _ by assumption).2.2)).mono ?_; rintro e w' ⟨rfl, hb⟩)))
  all_goals (have HBf : Hid (Below w.heap.size w _) := Lib.hid (show _ ∧ _ ∧ Below w.heap.size w _ by assumption).2.2; go_wp2_with fail; go_ret; exact ⟨rfl, HBf.out⟩)
instance (p E S : Int) (c m : List UInt8) : Decidable (VerOk p E S c m) := by
  unfold VerOk
  infer_instance
theorem verify_any (p E S : Int) (c m : ByteArray) (w : World) (hp : I64 p) (hc : c.size ≤ 2000) (hm : m.size ≤ 10000000) (hg : Glob w) (hml : MLen w) :
    Calls Tryz.prog 56 #[.int .i64 p, .string c, .string m, .agg #[.int .i64 E, .int .i64 S]] w fun e w' => e = .returned (.bool (decide (VerOk p E S c.data.toList m.data.toList))) ∧ Below w.heap.size w w' := by
  by_cases h : p ≠ 1 ∧ InG p ∧ (0 ≤ E ∧ E < 1152921504606845789) ∧ (0 ≤ S ∧ S < 1152921504606845789)
  · have h2 := ver_in p E S c m w hc hm hg hml h.1 h.2.1 h.2.2.1 h.2.2.2
    have e : decide (VerOk p E S c.data.toList m.data.toList) = (((chalN (elemN p E S : Nat) p c.data.toList m.data.toList : Nat) : Int) == E) := by
      rw [Bool.eq_iff_iff, decide_eq_true_iff, beq_iff_eq]
      exact ⟨fun g => g.2.2.2.2, fun g => ⟨h.1, h.2.1, h.2.2.1, h.2.2.2, g⟩⟩
    rw [e]
    exact h2
  · have e : decide (VerOk p E S c.data.toList m.data.toList) = false := decide_eq_false (fun g => h ⟨g.1, g.2.1, g.2.2.1, g.2.2.2.1⟩)
    rw [e]
    exact ver_out p E S c m w hp h
end Go.Proofs.YtepidpegoihllaaGreatDoor

