/- bourneref05: Of, Right, Key, Sign, Ranges, Verify. -/
import Derived.Test.YtgjklfddoechpaaGreatDoorSRef5
import Derived.Test.YtgjklfddoechpaaGreatDoorSLaw
import Derived.Outline
namespace Go.Proofs.YtgjklfddoechpaaGreatDoor
open Go.RowKit
set_option maxRecDepth 100000 in
set_option maxHeartbeats 2000000 in
theorem rof_any (x : Nat) (w : World) (h1 : 1 ≤ x) (h2 : x < 1152921504606845789) :
    Calls Tryz.prog 144 #[.int .i64 x] w fun e w' => e = .returned (.agg #[.int .i64 x, .int .i64 (pubN x : Nat)]) ∧ Below w.heap.size w w' := by
  have HZ := Lib.hid (heap_alloc_new w (.cells #[.int .i64 0, .int .i64 0] 29))
  have HB := Lib.hid ((Below.refl w.heap.size w).alloc (Nat.le_refl _) (.cells #[.int .i64 0, .int .i64 0] 29))
  obtain ⟨z, hz⟩ : ∃ z, z = pubN x := ⟨_, rfl⟩
  have HE : Hid (resN 4 gP ^ ((x : Int)).toNat % gP = z) := Lib.hid (by rw [hz, Int.toNat_natCast]; rfl)
  rw [← hz]
  clear hz
  go_enter Tryz.func144, Tryz.ntmps144
  go_wp2_with fail
  refine (rexp_any 4 x _ (by decide) ⟨by omega, by omega⟩).mono ?_
  rintro e w1 ⟨rfl, rfl⟩
  rw [HE.out]
  go_wp2_with fail
  refine bodyPost_ret (v := .agg #[.int .i64 x, .int .i64 z]) (results_cell_row rfl _ _ _ 29 _ (0, 0) _ rfl (heap_alloc_new _ _) undKey rfl infoKey) rfl ⟨rfl, ?_⟩
  exact (Below.refl _ _).alloc (Nat.le_refl _) _
set_option maxRecDepth 100000 in
set_option maxHeartbeats 2000000 in
theorem rof_none (x : Int) (w : World) (h : x < 1 ∨ 1152921504606845789 ≤ x) :
    Calls Tryz.prog 144 #[.int .i64 x] w fun e w' => e = .returned (.agg #[.int .i64 0, .int .i64 0]) ∧ Below w.heap.size w w' := by
  have HZ := Lib.hid (heap_alloc_new w (.cells #[.int .i64 0, .int .i64 0] 29))
  have HB := Lib.hid ((Below.refl w.heap.size w).alloc (Nat.le_refl _) (.cells #[.int .i64 0, .int .i64 0] 29))
  by_cases h1 : x < 1
  · clear h
    go_enter Tryz.func144, Tryz.ntmps144
    go_wp2_with fail
    refine bodyPost_ret (v := .agg #[.int .i64 0, .int .i64 0]) (results_cell_row rfl _ _ _ 29 _ (0, 0) _ rfl HZ.out undKey rfl infoKey) rfl ⟨rfl, HB.out⟩
  · have h2 : 1152921504606845789 ≤ x := by omega
    clear h
    go_enter Tryz.func144, Tryz.ntmps144
    go_wp2_with fail
    refine bodyPost_ret (v := .agg #[.int .i64 0, .int .i64 0]) (results_cell_row rfl _ _ _ 29 _ (0, 0) _ rfl HZ.out undKey rfl infoKey) rfl ⟨rfl, HB.out⟩
/-- what the reference's Of answers -/
def ofR (x : Int) : Int × Int := if 1 ≤ x ∧ x < 1152921504606845789 then (x, (pubN x.toNat : Nat)) else (0, 0)
theorem rof_all (x : Int) (w : World) :
    Calls Tryz.prog 144 #[.int .i64 x] w fun e w' => e = .returned (.agg #[.int .i64 (ofR x).1, .int .i64 (ofR x).2]) ∧ Below w.heap.size w w' := by
  unfold ofR
  by_cases h : 1 ≤ x ∧ x < 1152921504606845789
  · rw [if_pos h]
    obtain ⟨n, rfl⟩ : ∃ n : Nat, x = n := ⟨x.toNat, by omega⟩
    exact rof_any n w (by omega) (by omega)
  · rw [if_neg h]
    exact rof_none x w (by omega)
theorem of_all (x : Int) (w : World) :
    Calls Tryz.prog 89 #[.int .i64 x] w fun e w' => e = .returned (.agg #[.int .i64 (ofR x).1, .int .i64 (ofR x).2]) ∧ Below w.heap.size w w' := by
  unfold ofR
  by_cases h : 1 ≤ x ∧ x < 1152921504606845789
  · rw [if_pos h]
    obtain ⟨n, rfl⟩ : ∃ n : Nat, x = n := ⟨x.toNat, by omega⟩
    exact of_any n w (by omega) (by omega)
  · rw [if_neg h]
    exact of_none x w (by omega)
theorem right_of (x p : Int) (h : 1 ≤ x) : (x = (ofR x).1 ∧ p = (ofR x).2) ↔ RightK x p := by
  unfold ofR RightK
  by_cases g : x < 1152921504606845789
  · rw [if_pos ⟨h, g⟩]
    exact ⟨fun a => ⟨h, g, a.2⟩, fun a => ⟨rfl, a.2.2⟩⟩
  · rw [if_neg (fun a => g a.2)]
    constructor
    · rintro ⟨a, b⟩
      have a2 : x = 0 := a
      omega
    · exact fun a => absurd a.2.1 g
theorem c2_step {w cur w' : World} {k0 : Nat} {A0 : Obj} {v0 v1 : Value} (h : cur.heap[k0]? = some A0 ∧ cur.cell? ⟨k0, 0, none⟩ = some v0 ∧ cur.cell? ⟨k0, 1, none⟩ = some v1 ∧ Below w.heap.size w cur) (hb : Below cur.heap.size cur w') : w'.heap[k0]? = some A0 ∧ w'.cell? ⟨k0, 0, none⟩ = some v0 ∧ w'.cell? ⟨k0, 1, none⟩ = some v1 ∧ Below w.heap.size w w' := by
  obtain ⟨a0, c0, c1, d⟩ := h
  exact ⟨blk_below a0 hb (blk_lt a0), (hb.cell (p := ⟨_, 0, none⟩) (blk_lt a0)).trans c0, (hb.cell (p := ⟨_, 1, none⟩) (blk_lt a0)).trans c1, d.trans (hb.mono d.size)⟩
theorem c2_stepN {w cur : World} {k0 : Nat} {A0 : Obj} {v0 v1 : Value} (h : cur.heap[k0]? = some A0 ∧ cur.cell? ⟨k0, 0, none⟩ = some v0 ∧ cur.cell? ⟨k0, 1, none⟩ = some v1 ∧ Below w.heap.size w cur) (n : Nat) : (cur.drewN n).heap[k0]? = some A0 ∧ (cur.drewN n).cell? ⟨k0, 0, none⟩ = some v0 ∧ (cur.drewN n).cell? ⟨k0, 1, none⟩ = some v1 ∧ Below w.heap.size w (cur.drewN n) := by
  obtain ⟨a0, c0, c1, d⟩ := h
  exact ⟨a0, c0, c1, below_drewN d⟩
theorem c2_stepU {w cur : World} {k0 : Nat} {A0 : Obj} {v0 v1 : Value} {n : Nat} (h : (cur.drewN n).heap[k0]? = some A0 ∧ (cur.drewN n).cell? ⟨k0, 0, none⟩ = some v0 ∧ (cur.drewN n).cell? ⟨k0, 1, none⟩ = some v1 ∧ Below w.heap.size w (cur.drewN n)) : cur.heap[k0]? = some A0 ∧ cur.cell? ⟨k0, 0, none⟩ = some v0 ∧ cur.cell? ⟨k0, 1, none⟩ = some v1 ∧ Below w.heap.size w cur := by
  obtain ⟨a0, c0, c1, d⟩ := h
  exact ⟨a0, c0, c1, ⟨d.os, d.tape, d.output, d.size, d.block⟩⟩
set_option maxRecDepth 100000 in
set_option maxHeartbeats 2000000 in
theorem rrightK_any (x p : Int) (w : World) :
    Calls Tryz.prog 108 #[.agg #[.int .i64 x, .int .i64 p]] w fun e w' => e = .returned (.bool (decide (RightK x p))) ∧ Below w.heap.size w w' := by
  have HZ := Lib.hid (heap_alloc_new w (.cells #[.int .i64 x, .int .i64 p] 29))
  have HB := Lib.hid ((Below.refl w.heap.size w).alloc (Nat.le_refl _) (.cells #[.int .i64 x, .int .i64 p] 29))
  by_cases h1 : 1 ≤ x
  · have t1 : decide (1 ≤ x) = true := decide_eq_true h1
    have HR := Lib.hid (right_of x p h1)
    obtain ⟨a, ha⟩ : ∃ a, a = (ofR x).1 := ⟨_, rfl⟩
    obtain ⟨b, hb⟩ : ∃ b, b = (ofR x).2 := ⟨_, rfl⟩
    have HO : Hid (∀ w0, Calls Tryz.prog 144 #[.int .i64 x] w0 fun e w' => e = .returned (.agg #[.int .i64 a, .int .i64 b]) ∧ Below w0.heap.size w0 w') := Lib.hid (fun w0 => by rw [ha, hb]; exact rof_all x w0)
    rw [← ha, ← hb] at HR
    have hd : decide (RightK x p) = decide (x = a ∧ p = b) := by
      rw [Bool.eq_iff_iff, decide_eq_true_iff, decide_eq_true_iff]
      exact HR.out.symm
    rw [hd]
    have heq := eqK x p a b
    generalize decide (x = a ∧ p = b) = d at *
    clear h1 ha hb hd HR
    go_enter Tryz.func108, Tryz.ntmps108
    go_upto_region 1 with fail
    generalize w.alloc (.cells #[.int .i64 x, .int .i64 p] 29) = w2 at *
    have HS0 : Hid (w2.heap[w.heap.size]? = some (.cells #[.int .i64 x, .int .i64 p] 29) ∧ w2.cell? ⟨w.heap.size, 0, none⟩ = some (.int .i64 x) ∧ w2.cell? ⟨w.heap.size, 1, none⟩ = some (.int .i64 p) ∧ Below w.heap.size w w2) := Lib.hid ⟨HZ.out, (cell_of_row _ _ _ _ _ _ HZ.out).trans rfl, (cell_of_row _ _ _ _ _ _ HZ.out).trans rfl, HB.out⟩
    go_region_held3 (fun w' => w'.heap[w.heap.size]? = some (.cells #[.int .i64 x, .int .i64 p] 29) ∧ w'.cell? ⟨w.heap.size, 0, none⟩ = some (.int .i64 x) ∧ w'.cell? ⟨w.heap.size, 1, none⟩ = some (.int .i64 p) ∧ Below w.heap.size w w') (first | assumption | exact HS0.out | exact c2_step (by assumption) hb | exact c2_stepN (by assumption) _ | exact c2_stepU (by assumption) | exact c2_stepN (c2_stepU (by assumption)) _) ((first | (go_at_call 144; refine (HO.out _).mono ?_; rintro e w' ⟨rfl, hb⟩)))
    rename World => w3
    rename _ ∧ _ => hFin
    have HBf := Lib.hid hFin.2.2.2
    go_wp2_with fail
    go_ret
    exact ⟨rfl, HBf.out⟩
  · have t1 : decide (1 ≤ x) = false := decide_eq_false h1
    rw [decide_eq_false (fun h : RightK x p => h1 h.1)]
    clear h1
    go_enter Tryz.func108, Tryz.ntmps108
    go_upto_region 1 with fail
    generalize w.alloc (.cells #[.int .i64 x, .int .i64 p] 29) = w2 at *
    have c0 : w2.cell? ⟨w.heap.size, 0, none⟩ = some (.int .i64 x) := (cell_of_row _ _ _ _ _ _ HZ.out).trans rfl
    go_quiet (fail)
    go_wp2_with fail
    go_ret
    exact ⟨rfl, below_drewN HB.out⟩
def RangeOk (p E S : Int) : Prop := p ≠ 1 ∧ InG p ∧ (0 ≤ E ∧ E < 1152921504606845789) ∧ (0 ≤ S ∧ S < 1152921504606845789)
instance (p E S : Int) : Decidable (RangeOk p E S) := by
  unfold RangeOk
  infer_instance
set_option maxRecDepth 100000 in
set_option maxHeartbeats 2000000 in
theorem rranges_any (p E S : Int) (w : World) (hp : I64 p) :
    Calls Tryz.prog 113 #[.int .i64 p, .agg #[.int .i64 E, .int .i64 S]] w fun e w' => e = .returned (.bool (decide (RangeOk p E S))) ∧ Below w.heap.size w w' := by
  have HZ := Lib.hid (heap_alloc_new w (.cells #[.int .i64 E, .int .i64 S] 23))
  have HB := Lib.hid ((Below.refl w.heap.size w).alloc (Nat.le_refl _) (.cells #[.int .i64 E, .int .i64 S] 23))
  by_cases h1 : InG p
  · have HC : Hid (∀ w0, Calls Tryz.prog 145 #[.int .i64 p] w0 fun e w' => e = .returned (.bool true) ∧ w' = w0) := Lib.hid (fun w0 => by
      obtain ⟨b, hb, h⟩ := rin_any p w0 hp
      rw [hb.2 h1] at h
      exact h)
    by_cases h2 : p = 1
    · rw [decide_eq_false (fun h : RangeOk p E S => h.1 h2)]
      have t1 : (p == 1) = true := by rw [beq_iff_eq]; exact h2
      have t1' : (p != 1) = false := by rw [bne_eq_false_iff_eq]; exact h2
      clear h1 h2 hp
      go_enter Tryz.func113, Tryz.ntmps113
      go_upto_region 1 with fail
      generalize w.alloc (.cells #[.int .i64 E, .int .i64 S] 23) = w2 at *
      have c0 : w2.cell? ⟨w.heap.size, 0, none⟩ = some (.int .i64 E) := (cell_of_row _ _ _ _ _ _ HZ.out).trans rfl
      have c1 : w2.cell? ⟨w.heap.size, 1, none⟩ = some (.int .i64 S) := (cell_of_row _ _ _ _ _ _ HZ.out).trans rfl
      go_wp2_with fail
      refine (HC.out _).mono ?_
      rintro e w3 ⟨rfl, rfl⟩
      go_wp2_with fail
      go_ret
      exact ⟨rfl, HB.out⟩
    · have t1 : (p == 1) = false := by rw [beq_eq_false_iff_ne]; exact h2
      have t1' : (p != 1) = true := by rw [bne_iff_ne]; exact h2
      by_cases h3 : 0 ≤ E
      · have t2 : decide (0 ≤ E) = true := decide_eq_true h3
        by_cases h4 : E < 1152921504606845789
        · have t3 : decide (E < 1152921504606845789) = true := decide_eq_true h4
          by_cases h5 : 0 ≤ S
          · have t4 : decide (0 ≤ S) = true := decide_eq_true h5
            by_cases h6 : S < 1152921504606845789
            · have t5 : decide (S < 1152921504606845789) = true := decide_eq_true h6
              rw [decide_eq_true (show RangeOk p E S from ⟨h2, h1, ⟨h3, h4⟩, ⟨h5, h6⟩⟩)]
              clear h1 h2 h3 h4 h5 h6 hp
              go_enter Tryz.func113, Tryz.ntmps113
              go_upto_region 1 with fail
              generalize w.alloc (.cells #[.int .i64 E, .int .i64 S] 23) = w2 at *
              have c0 : w2.cell? ⟨w.heap.size, 0, none⟩ = some (.int .i64 E) := (cell_of_row _ _ _ _ _ _ HZ.out).trans rfl
              have c1 : w2.cell? ⟨w.heap.size, 1, none⟩ = some (.int .i64 S) := (cell_of_row _ _ _ _ _ _ HZ.out).trans rfl
              go_wp2_with fail
              refine (HC.out _).mono ?_
              rintro e w3 ⟨rfl, rfl⟩
              go_wp2_with fail
              go_ret
              exact ⟨rfl, HB.out⟩
            · have t5 : decide (S < 1152921504606845789) = false := decide_eq_false h6
              rw [decide_eq_false (fun h : RangeOk p E S => h6 h.2.2.2.2)]
              clear h1 h2 h3 h4 h5 h6 hp
              go_enter Tryz.func113, Tryz.ntmps113
              go_upto_region 1 with fail
              generalize w.alloc (.cells #[.int .i64 E, .int .i64 S] 23) = w2 at *
              have c0 : w2.cell? ⟨w.heap.size, 0, none⟩ = some (.int .i64 E) := (cell_of_row _ _ _ _ _ _ HZ.out).trans rfl
              have c1 : w2.cell? ⟨w.heap.size, 1, none⟩ = some (.int .i64 S) := (cell_of_row _ _ _ _ _ _ HZ.out).trans rfl
              go_wp2_with fail
              refine (HC.out _).mono ?_
              rintro e w3 ⟨rfl, rfl⟩
              go_wp2_with fail
              go_ret
              exact ⟨rfl, HB.out⟩
          · have t4 : decide (0 ≤ S) = false := decide_eq_false h5
            rw [decide_eq_false (fun h : RangeOk p E S => h5 h.2.2.2.1)]
            clear h1 h2 h3 h4 h5 hp
            go_enter Tryz.func113, Tryz.ntmps113
            go_upto_region 1 with fail
            generalize w.alloc (.cells #[.int .i64 E, .int .i64 S] 23) = w2 at *
            have c0 : w2.cell? ⟨w.heap.size, 0, none⟩ = some (.int .i64 E) := (cell_of_row _ _ _ _ _ _ HZ.out).trans rfl
            have c1 : w2.cell? ⟨w.heap.size, 1, none⟩ = some (.int .i64 S) := (cell_of_row _ _ _ _ _ _ HZ.out).trans rfl
            go_wp2_with fail
            refine (HC.out _).mono ?_
            rintro e w3 ⟨rfl, rfl⟩
            go_wp2_with fail
            go_ret
            exact ⟨rfl, HB.out⟩
        · have t3 : decide (E < 1152921504606845789) = false := decide_eq_false h4
          rw [decide_eq_false (fun h : RangeOk p E S => h4 h.2.2.1.2)]
          clear h1 h2 h3 h4 hp
          go_enter Tryz.func113, Tryz.ntmps113
          go_upto_region 1 with fail
          generalize w.alloc (.cells #[.int .i64 E, .int .i64 S] 23) = w2 at *
          have c0 : w2.cell? ⟨w.heap.size, 0, none⟩ = some (.int .i64 E) := (cell_of_row _ _ _ _ _ _ HZ.out).trans rfl
          have c1 : w2.cell? ⟨w.heap.size, 1, none⟩ = some (.int .i64 S) := (cell_of_row _ _ _ _ _ _ HZ.out).trans rfl
          go_wp2_with fail
          refine (HC.out _).mono ?_
          rintro e w3 ⟨rfl, rfl⟩
          go_wp2_with fail
          go_ret
          exact ⟨rfl, HB.out⟩
      · have t2 : decide (0 ≤ E) = false := decide_eq_false h3
        rw [decide_eq_false (fun h : RangeOk p E S => h3 h.2.2.1.1)]
        clear h1 h2 h3 hp
        go_enter Tryz.func113, Tryz.ntmps113
        go_upto_region 1 with fail
        generalize w.alloc (.cells #[.int .i64 E, .int .i64 S] 23) = w2 at *
        have c0 : w2.cell? ⟨w.heap.size, 0, none⟩ = some (.int .i64 E) := (cell_of_row _ _ _ _ _ _ HZ.out).trans rfl
        have c1 : w2.cell? ⟨w.heap.size, 1, none⟩ = some (.int .i64 S) := (cell_of_row _ _ _ _ _ _ HZ.out).trans rfl
        go_wp2_with fail
        refine (HC.out _).mono ?_
        rintro e w3 ⟨rfl, rfl⟩
        go_wp2_with fail
        go_ret
        exact ⟨rfl, HB.out⟩
  · have HC : Hid (∀ w0, Calls Tryz.prog 145 #[.int .i64 p] w0 fun e w' => e = .returned (.bool false) ∧ w' = w0) := Lib.hid (fun w0 => by
      obtain ⟨b, hb, h⟩ := rin_any p w0 hp
      have e : b = false := by
        cases b with
        | false => rfl
        | true => exact absurd (hb.1 rfl) h1
      rw [e] at h
      exact h)
    rw [decide_eq_false (fun h : RangeOk p E S => h1 h.2.1)]
    clear h1 hp
    go_enter Tryz.func113, Tryz.ntmps113
    go_upto_region 1 with fail
    generalize w.alloc (.cells #[.int .i64 E, .int .i64 S] 23) = w2 at *
    have c0 : w2.cell? ⟨w.heap.size, 0, none⟩ = some (.int .i64 E) := (cell_of_row _ _ _ _ _ _ HZ.out).trans rfl
    have c1 : w2.cell? ⟨w.heap.size, 1, none⟩ = some (.int .i64 S) := (cell_of_row _ _ _ _ _ _ HZ.out).trans rfl
    go_wp2_with fail
    refine (HC.out _).mono ?_
    rintro e w3 ⟨rfl, rfl⟩
    go_wp2_with fail
    go_ret
    exact ⟨rfl, HB.out⟩
set_option maxRecDepth 100000 in
set_option maxHeartbeats 4000000 in
theorem rverify_any (p E S : Int) (c m : ByteArray) (w : World) (hp : I64 p) (hc : c.size ≤ 2000) (hm : m.size ≤ 2000) :
    Calls Tryz.prog 59 #[.int .i64 p, .string c, .string m, .agg #[.int .i64 E, .int .i64 S]] w fun e w' => e = .returned (.bool (decide (VerOk p E S c.data.toList m.data.toList))) ∧ Below w.heap.size w w' := by
  have HZ := Lib.hid (heap_alloc_new w (.cells #[.int .i64 E, .int .i64 S] 23))
  have HB := Lib.hid ((Below.refl w.heap.size w).alloc (Nat.le_refl _) (.cells #[.int .i64 E, .int .i64 S] 23))
  have HRg : Hid (∀ w0, Calls Tryz.prog 113 #[.int .i64 p, .agg #[.int .i64 E, .int .i64 S]] w0 fun e w' => e = .returned (.bool (decide (RangeOk p E S))) ∧ Below w0.heap.size w0 w') := Lib.hid (fun w0 => rranges_any p E S w0 hp)
  by_cases h : RangeOk p E S
  · rw [decide_eq_true h] at HRg
    obtain ⟨r, hr⟩ : ∃ r, r = elemN p E S := ⟨_, rfl⟩
    have hrl : r < 2305843009213691579 := by rw [hr]; exact lt_p _
    obtain ⟨y, hy⟩ : ∃ y, y = chalN (r : Nat) p c.data.toList m.data.toList := ⟨_, rfl⟩
    have hd : decide (VerOk p E S c.data.toList m.data.toList) = ((y : Int) == E) := by
      rw [Bool.eq_iff_iff, decide_eq_true_iff, beq_iff_eq, hy, hr]
      exact ⟨fun g => g.2.2.2.2, fun g => ⟨h.1, h.2.1, h.2.2.1, h.2.2.2, g⟩⟩
    rw [hd]
    have HE : Hid (∀ w0, Calls Tryz.prog 32 #[.int .i64 p, .agg #[.int .i64 E, .int .i64 S]] w0 fun e w' => e = .returned (.int .i64 (r : Nat)) ∧ Below w0.heap.size w0 w') := Lib.hid (fun w0 => by rw [hr]; exact relem_any p E S w0 h.2.1 h.2.2.1 h.2.2.2)
    have HC : Hid (∀ w0, Calls Tryz.prog 33 #[.int .i64 (r : Nat), .int .i64 p, .string c, .string m] w0 fun e w' => e = .returned (.int .i64 (y : Nat)) ∧ Below w0.heap.size w0 w') := Lib.hid (fun w0 => by rw [hy]; exact rchal_any r p c m w0 ⟨by omega, by omega⟩ hp hc hm)
    clear hy hr hrl hd h hp hc hm
    go_enter Tryz.func59, Tryz.ntmps59
    go_upto_region 1 with fail
    have hzl := blk_lt HZ.out
    generalize w.alloc (.cells #[.int .i64 E, .int .i64 S] 23) = w1 at *
    have c0 : w1.cell? ⟨w.heap.size, 0, none⟩ = some (.int .i64 E) := (cell_of_row _ _ _ _ _ _ HZ.out).trans rfl
    have c1 : w1.cell? ⟨w.heap.size, 1, none⟩ = some (.int .i64 S) := (cell_of_row _ _ _ _ _ _ HZ.out).trans rfl
    go_wp2_with fail
    refine (HRg.out _).mono ?_
    rintro e w2 ⟨rfl, hb⟩
    have HZ2 := Lib.hid (blk_below HZ.out hb hzl)
    have HB2 := Lib.hid (HB.out.trans (hb.mono HB.out.size))
    clear hb c0 c1 HZ HB hzl
    go_upto_region 2 with fail
    have HS0 : Hid (w2.heap[w.heap.size]? = some (.cells #[.int .i64 E, .int .i64 S] 23) ∧ w2.cell? ⟨w.heap.size, 0, none⟩ = some (.int .i64 E) ∧ w2.cell? ⟨w.heap.size, 1, none⟩ = some (.int .i64 S) ∧ Below w.heap.size w w2) := Lib.hid ⟨HZ2.out, (cell_of_row _ _ _ _ _ _ HZ2.out).trans rfl, (cell_of_row _ _ _ _ _ _ HZ2.out).trans rfl, HB2.out⟩
    clear HZ2 HB2
    go_region_held3 (fun w' => w'.heap[w.heap.size]? = some (.cells #[.int .i64 E, .int .i64 S] 23) ∧ w'.cell? ⟨w.heap.size, 0, none⟩ = some (.int .i64 E) ∧ w'.cell? ⟨w.heap.size, 1, none⟩ = some (.int .i64 S) ∧ Below w.heap.size w w') (first | assumption | exact HS0.out | exact c2_step (by assumption) hb | exact c2_stepN (by assumption) _ | exact c2_stepU (by assumption) | exact c2_stepN (c2_stepU (by assumption)) _) ((first | (go_at_call 32; refine (HE.out _).mono ?_; rintro e w' ⟨rfl, hb⟩) | (go_at_call 33; refine (HC.out _).mono ?_; rintro e w' ⟨rfl, hb⟩)))
    rename World => w3
    rename _ ∧ _ => hFin
    have HBf := Lib.hid hFin.2.2.2
    go_wp2_with fail
    go_ret
    exact ⟨rfl, HBf.out⟩
  · rw [decide_eq_false h] at HRg
    rw [decide_eq_false (fun g : VerOk p E S c.data.toList m.data.toList => h ⟨g.1, g.2.1, g.2.2.1, g.2.2.2.1⟩)]
    clear h hp hc hm
    go_enter Tryz.func59, Tryz.ntmps59
    go_upto_region 1 with fail
    generalize w.alloc (.cells #[.int .i64 E, .int .i64 S] 23) = w1 at *
    have c0 : w1.cell? ⟨w.heap.size, 0, none⟩ = some (.int .i64 E) := (cell_of_row _ _ _ _ _ _ HZ.out).trans rfl
    have c1 : w1.cell? ⟨w.heap.size, 1, none⟩ = some (.int .i64 S) := (cell_of_row _ _ _ _ _ _ HZ.out).trans rfl
    go_wp2_with fail
    refine (HRg.out _).mono ?_
    rintro e w2 ⟨rfl, hb⟩
    have HB2 := Lib.hid (HB.out.trans (hb.mono HB.out.size))
    clear hb c0 c1
    go_upto_region 2 with fail
    go_quiet (fail)
    go_wp2_with fail
    go_ret
    exact ⟨rfl, below_drewN HB2.out⟩
end Go.Proofs.YtgjklfddoechpaaGreatDoor
