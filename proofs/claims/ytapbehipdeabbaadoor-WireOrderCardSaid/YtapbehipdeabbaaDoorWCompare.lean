/- bournelaw02.compare, for all pairs of values. -/
import Derived.Test.YtapbehipdeabbaaDoorWCmp
import Derived.Test.YtapbehipdeabbaaDoorWSame
namespace Go.Proofs.YtapbehipdeabbaaDoor
open Go.RowKit
theorem two_rows {w : World} {A B : Array Value} {t s : TypeId} : ((w.alloc (.cells A t)).alloc (.cells B s)).heap[w.heap.size]? = some (.cells A t) ∧ ((w.alloc (.cells A t)).alloc (.cells B s)).heap[w.heap.size + 1]? = some (.cells B s) := by
  constructor
  · rw [heap_alloc_old _ _ (by simp), heap_alloc_new]
  · have h : w.heap.size + 1 = (w.alloc (.cells A t)).heap.size := by simp
    rw [h, heap_alloc_new]
theorem take_step' {α : Type} {a b : List α} {k : Nat} {x y : α} (h : a.take k = b.take k) (ha : a[k]? = some x) (hb : b[k]? = some y) (e : x = y) : a.take (k + 1) = b.take (k + 1) := by
  subst e
  rw [List.take_add_one, List.take_add_one, h, ha, hb]
set_option maxRecDepth 100000 in
set_option maxHeartbeats 4000000 in
theorem compare_any (a b : VV) (al at_ bl bt : Value) (w : World) (hal : CArg (Value.int .i64) al a.l w) (hat : CArg Value.string at_ a.t w) (hbl : CArg (Value.int .i64) bl b.l w) (hbt : CArg Value.string bt b.t w) (oa : VOk a) (ob : VOk b) :
    Calls Tryd.prog 21 #[.agg #[.int .i64 a.kind, .int .i64 a.n, .string a.s, al, at_], .agg #[.int .i64 b.kind, .int .i64 b.n, .string b.s, bl, bt]] w fun e w' => e = .returned (.int .i64 (cmpV a b)) ∧ Below w.heap.size w w' := by
  have HB0 : Hid (Below w.heap.size w ((w.alloc (.cells #[.int .i64 a.kind, .int .i64 a.n, .string a.s, al, at_] 28)).alloc (.cells #[.int .i64 b.kind, .int .i64 b.n, .string b.s, bl, bt] 28))) :=
    Lib.hid (((Below.refl _ _).alloc (Nat.le_refl _) _).alloc (by simp) _)
  have hmv : VOk.maxV ≤ 9223372036854775807 := by decide
  have hal1 := Nat.le_trans oa.2.2.2.1 hmv
  have hat1 := Nat.le_trans oa.2.2.2.2.2.1 hmv
  have hbl1 := Nat.le_trans ob.2.2.2.1 hmv
  have hbt1 := Nat.le_trans ob.2.2.2.2.2.1 hmv
  have HAl := Lib.hid hal
  have HAt := Lib.hid hat
  have HBl := Lib.hid hbl
  have HBt := Lib.hid hbt
  obtain ⟨la, lc, rfl⟩ : ∃ p q, al = .slice p a.l.length q := by obtain ⟨p, q, h, _⟩ := hal; exact ⟨p, q, h⟩
  obtain ⟨lb, ld, rfl⟩ : ∃ p q, bl = .slice p b.l.length q := by obtain ⟨p, q, h, _⟩ := hbl; exact ⟨p, q, h⟩
  obtain ⟨ta, tc, rfl⟩ : ∃ p q, at_ = .slice p a.t.length q := by obtain ⟨p, q, h, _⟩ := hat; exact ⟨p, q, h⟩
  obtain ⟨tb, td, rfl⟩ : ∃ p q, bt = .slice p b.t.length q := by obtain ⟨p, q, h, _⟩ := hbt; exact ⟨p, q, h⟩
  have hk := i64_and3 a.kind
  obtain ⟨r, hr⟩ : ∃ r, r = k4 a := ⟨_, rfl⟩
  have hk2 : bits BinOp.and IntKind.i64 a.kind 3 = r := by rw [hk, hr]; rfl
  have HR := Lib.hid hr
  clear hal hat hbl hbt oa ob hk hr hmv
  by_cases h0 : r = 0
  · have HE : Hid (cmpV a b = cmpI a.n b.n) := Lib.hid (by unfold cmpV; rw [← HR.out, if_pos h0])
    have t0 : (r == 0) = true := beq_iff_eq.2 h0
    clear h0
    rw [HE.out]
    go_enter Tryd.func21, Tryd.ntmps21
    go_wp2_with fail
    refine (number_any _ _ _).mono ?_
    rintro e w1 ⟨rfl, rfl⟩
    go_wp2_with fail
    go_ret
    exact ⟨rfl, HB0.out⟩
  · have t0 : (r == 0) = false := beq_eq_false_iff_ne.2 h0
    by_cases h1 : r = 1
    · have HE : Hid (cmpV a b = cmpT a.s b.s) := Lib.hid (by unfold cmpV; rw [← HR.out, if_neg h0, if_pos h1])
      have t1 : (r == 1) = true := beq_iff_eq.2 h1
      clear h0 h1
      rw [HE.out]
      go_enter Tryd.func21, Tryd.ntmps21
      go_wp2_with fail
      refine (cmptext_any _ _ _).mono ?_
      rintro e w1 ⟨rfl, rfl⟩
      go_wp2_with fail
      go_ret
      exact ⟨rfl, HB0.out⟩
    · have t1 : (r == 1) = false := beq_eq_false_iff_ne.2 h1
      by_cases h2 : r = 2
      · have HE : Hid (cmpV a b = cmpLs cmpI a.l b.l) := Lib.hid (by unfold cmpV; rw [← HR.out, if_neg h0, if_neg h1, if_pos h2])
        have t2 : (r == 2) = true := beq_iff_eq.2 h2
        clear h0 h1 h2
        rw [HE.out]
        go_enter Tryd.func21, Tryd.ntmps21
        go_wp2_with fail
        go_loopw [5] (fun iv wr => ∃ k : Nat, k ≤ a.l.length ∧ k ≤ b.l.length ∧ iv = .int .i64 k ∧ a.l.take k = b.l.take k ∧ wr.cell? ⟨w.heap.size, 3, none⟩ = some (.slice la a.l.length lc) ∧ wr.cell? ⟨w.heap.size + 1, 3, none⟩ = some (.slice lb b.l.length ld) ∧ Below w.heap.size w wr) (fun iv _ => a.l.length - (intOf iv).toNat)
        case atStart => exact ⟨0, by omega, by omega, rfl, by simp, by rw [cell_of_row _ _ _ _ _ _ two_rows.1]; rfl, by rw [cell_of_row _ _ _ _ _ _ two_rows.2]; rfl, HB0.out⟩
        case round =>
          obtain ⟨k, hka, hkb, rfl, ht, d1, d2, hB⟩ := hrel
          have HT := Lib.hid ht
          have HBw := Lib.hid hB
          obtain ⟨e1, e2, he1, hea⟩ := HAl.out.below hB (Nat.le_refl _)
          obtain ⟨e3, e4, he2, heb⟩ := HBl.out.below hB (Nat.le_refl _)
          simp only [Value.slice.injEq] at he1 he2
          obtain ⟨rfl, _, rfl⟩ := he1
          obtain ⟨rfl, _, rfl⟩ := he2
          clear ht hB
          by_cases hla : k < a.l.length
          · by_cases hlb : k < b.l.length
            · have H1 : Hid (a.l[k]? = some a.l[k]) := Lib.hid (List.getElem?_eq_getElem hla)
              have H2 : Hid (b.l[k]? = some b.l[k]) := Lib.hid (List.getElem?_eq_getElem hlb)
              obtain ⟨p, rfl, _, c1⟩ := hea k _ H1.out
              obtain ⟨q, rfl, _, c2⟩ := heb k _ H2.out
              clear hea heb
              generalize a.l[k] = x at *
              generalize b.l[k] = y at *
              by_cases hxy : x = y
              · have HS := Lib.hid (take_step' HT.out H1.out H2.out hxy)
                subst hxy
                go_wp2_with fail
                go_quiet (fail)
                go_wp2_with fail
                go_roundw
                case rel => exact ⟨k + 1, by omega, by omega, by go_num, HS.out, d1, d2, below_drewN HBw.out⟩
                case measure => simp [intOf]; omega
              · have hne : (x != y) = true := bne_iff_ne.2 hxy
                have HC : Hid (cmpLs cmpI a.l b.l = cmpI x y) := Lib.hid (cmpLs_at cmpI _ _ k x y HT.out H1.out H2.out hxy)
                clear hxy
                go_wp2_with fail
                go_quiet (fail)
                obtain ⟨wq, hwq⟩ : ∃ wq, wq = wr.drewN nq := ⟨_, rfl⟩
                have d1' : wq.cell? ⟨w.heap.size, 3, none⟩ = some (.slice (some p) a.l.length lc) := by rw [hwq]; exact d1
                have d2' : wq.cell? ⟨w.heap.size + 1, 3, none⟩ = some (.slice (some q) b.l.length ld) := by rw [hwq]; exact d2
                have c1' : wq.cell? (p.add k) = some (Value.int .i64 x) := by rw [hwq]; exact c1
                have c2' : wq.cell? (q.add k) = some (Value.int .i64 y) := by rw [hwq]; exact c2
                have HBq : Hid (Below w.heap.size w wq) := Lib.hid (by rw [hwq]; exact below_drewN HBw.out)
                rw [← hwq]
                clear hwq d1 d2 c1 c2 HBw
                go_wp2_with fail
                go_quiet ((go_at_call 48; exact Calls.quiet_of_same (number_any _ _ _)))
                go_wp2_with fail
                go_ret
                exact ⟨by rw [HC.out]; rfl, below_drewN HBq.out⟩
            · have HC : Hid (cmpLs cmpI a.l b.l = cmpI a.l.length b.l.length) := Lib.hid (cmpLs_end cmpI _ _ k HT.out (Or.inr (by omega)) hka hkb)
              clear hea heb
              go_wp2_with fail
              refine (number_any _ _ _).mono ?_
              rintro e w' ⟨rfl, rfl⟩
              go_wp2_with fail
              go_ret
              exact ⟨by rw [HC.out]; rfl, HBw.out⟩
          · have HC : Hid (cmpLs cmpI a.l b.l = cmpI a.l.length b.l.length) := Lib.hid (cmpLs_end cmpI _ _ k HT.out (Or.inl (by omega)) hka hkb)
            clear hea heb
            go_wp2_with fail
            refine (number_any _ _ _).mono ?_
            rintro e w' ⟨rfl, rfl⟩
            go_wp2_with fail
            go_ret
            exact ⟨by rw [HC.out]; rfl, HBw.out⟩
      · have HE : Hid (cmpV a b = cmpLs cmpT a.t b.t) := Lib.hid (by unfold cmpV; rw [← HR.out, if_neg h0, if_neg h1, if_neg h2])
        have t2 : (r == 2) = false := beq_eq_false_iff_ne.2 h2
        clear h0 h1 h2
        rw [HE.out]
        go_enter Tryd.func21, Tryd.ntmps21
        go_wp2_with fail
        go_loopw [6] (fun iv wr => ∃ k : Nat, k ≤ a.t.length ∧ k ≤ b.t.length ∧ iv = .int .i64 k ∧ a.t.take k = b.t.take k ∧ wr.cell? ⟨w.heap.size, 4, none⟩ = some (.slice ta a.t.length tc) ∧ wr.cell? ⟨w.heap.size + 1, 4, none⟩ = some (.slice tb b.t.length td) ∧ Below w.heap.size w wr) (fun iv _ => a.t.length - (intOf iv).toNat)
        case atStart => exact ⟨0, by omega, by omega, rfl, by simp, by rw [cell_of_row _ _ _ _ _ _ two_rows.1]; rfl, by rw [cell_of_row _ _ _ _ _ _ two_rows.2]; rfl, HB0.out⟩
        case round =>
          obtain ⟨k, hka, hkb, rfl, ht, d1, d2, hB⟩ := hrel
          have HT := Lib.hid ht
          have HBw := Lib.hid hB
          obtain ⟨e1, e2, he1, hea⟩ := HAt.out.below hB (Nat.le_refl _)
          obtain ⟨e3, e4, he2, heb⟩ := HBt.out.below hB (Nat.le_refl _)
          simp only [Value.slice.injEq] at he1 he2
          obtain ⟨rfl, _, rfl⟩ := he1
          obtain ⟨rfl, _, rfl⟩ := he2
          clear ht hB
          by_cases hla : k < a.t.length
          · by_cases hlb : k < b.t.length
            · have H1 : Hid (a.t[k]? = some a.t[k]) := Lib.hid (List.getElem?_eq_getElem hla)
              have H2 : Hid (b.t[k]? = some b.t[k]) := Lib.hid (List.getElem?_eq_getElem hlb)
              obtain ⟨p, rfl, _, c1⟩ := hea k _ H1.out
              obtain ⟨q, rfl, _, c2⟩ := heb k _ H2.out
              clear hea heb
              generalize a.t[k] = x at *
              generalize b.t[k] = y at *
              by_cases hxy : x = y
              · have HS := Lib.hid (take_step' HT.out H1.out H2.out hxy)
                subst hxy
                go_wp2_with fail
                go_quiet (fail)
                go_wp2_with fail
                go_roundw
                case rel => exact ⟨k + 1, by omega, by omega, by go_num, HS.out, d1, d2, below_drewN HBw.out⟩
                case measure => simp [intOf]; omega
              · have hne : (x.toList == y.toList) = false := beq_eq_false_iff_ne.2 (fun e => hxy (str_eq e))
                have HC : Hid (cmpLs cmpT a.t b.t = cmpT x y) := Lib.hid (cmpLs_at cmpT _ _ k x y HT.out H1.out H2.out hxy)
                clear hxy
                go_wp2_with fail
                go_quiet (fail)
                obtain ⟨wq, hwq⟩ : ∃ wq, wq = wr.drewN nq := ⟨_, rfl⟩
                have d1' : wq.cell? ⟨w.heap.size, 4, none⟩ = some (.slice (some p) a.t.length tc) := by rw [hwq]; exact d1
                have d2' : wq.cell? ⟨w.heap.size + 1, 4, none⟩ = some (.slice (some q) b.t.length td) := by rw [hwq]; exact d2
                have c1' : wq.cell? (p.add k) = some (Value.string x) := by rw [hwq]; exact c1
                have c2' : wq.cell? (q.add k) = some (Value.string y) := by rw [hwq]; exact c2
                have HBq : Hid (Below w.heap.size w wq) := Lib.hid (by rw [hwq]; exact below_drewN HBw.out)
                rw [← hwq]
                clear hwq d1 d2 c1 c2 HBw
                go_wp2_with fail
                go_quiet ((go_at_call 22; exact Calls.quiet_of_same (cmptext_any _ _ _)))
                go_wp2_with fail
                go_ret
                exact ⟨by rw [HC.out]; rfl, below_drewN HBq.out⟩
            · have HC : Hid (cmpLs cmpT a.t b.t = cmpI a.t.length b.t.length) := Lib.hid (cmpLs_end cmpT _ _ k HT.out (Or.inr (by omega)) hka hkb)
              clear hea heb
              go_wp2_with fail
              refine (number_any _ _ _).mono ?_
              rintro e w' ⟨rfl, rfl⟩
              go_wp2_with fail
              go_ret
              exact ⟨by rw [HC.out]; rfl, HBw.out⟩
          · have HC : Hid (cmpLs cmpT a.t b.t = cmpI a.t.length b.t.length) := Lib.hid (cmpLs_end cmpT _ _ k HT.out (Or.inl (by omega)) hka hkb)
            clear hea heb
            go_wp2_with fail
            refine (number_any _ _ _).mono ?_
            rintro e w' ⟨rfl, rfl⟩
            go_wp2_with fail
            go_ret
            exact ⟨by rw [HC.out]; rfl, HBw.out⟩
end Go.Proofs.YtapbehipdeabbaaDoor
