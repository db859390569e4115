/- Package wire: a reader's lists: Nums, Texts. -/
import Derived.Test.YtapbehipdeabbaaDoorWText
import Derived.Deep.Heap
namespace Go.Proofs.YtapbehipdeabbaaDoor
open Go.RowKit
theorem rdList_nil {α : Type} (f : List UInt8 → Option (α × List UInt8)) (n : Nat) : rdList f n [] = none := by cases n <;> rfl
theorem rdList_end {α : Type} (f : List UInt8 → Option (α × List UInt8)) (n : Nat) (t : List UInt8) : rdList f (n + 1) (0 :: t) = some ([], t) := rfl
theorem rdList_one {α : Type} (f : List UInt8 → Option (α × List UInt8)) (n : Nat) (t : List UInt8) : rdList f (n + 1) (1 :: t) = match f t with | none => none | some (x, r) => (rdList f n r).map fun p => (x :: p.1, p.2) := rfl
theorem rdList_other {α : Type} (f : List UInt8 → Option (α × List UInt8)) (n : Nat) (c : UInt8) (t : List UInt8) (h0 : c ≠ 0) (h1 : c ≠ 1) : rdList f n (c :: t) = none := by
  cases n with
  | zero => rfl
  | succ n => simp only [rdList]; rw [if_neg h0, if_neg h1]
/-- what reading a list has come to: acc has been read, st is left -/
def LInv {α : Type} (f : List UInt8 → Option (α × List UInt8)) (R : Option (List α × List UInt8)) (acc : List α) (st : RSt) : Prop :=
  match st with
  | none => R = none
  | some cur => ∃ n, cur.length < n ∧ R = (rdList f n cur).map fun p => (acc ++ p.1, p.2)
theorem LInv.start {α : Type} (f : List UInt8 → Option (α × List UInt8)) (s : List UInt8) : LInv f (rdList f (s.length + 1) s) [] (some s) := ⟨_, Nat.lt_succ_self _, by simp⟩
theorem LInv.fin {α : Type} {f : List UInt8 → Option (α × List UInt8)} {R : Option (List α × List UInt8)} {acc : List α} {t : List UInt8} (h : LInv f R acc (some (0 :: t))) : R = some (acc, t) := by
  obtain ⟨n, hn, h⟩ := h
  cases n with
  | zero => omega
  | succ n => rw [h, rdList_end]; simp
theorem LInv.empty {α : Type} {f : List UInt8 → Option (α × List UInt8)} {R : Option (List α × List UInt8)} {acc : List α} (h : LInv f R acc (some [])) : R = none := by
  obtain ⟨n, hn, h⟩ := h
  rw [h, rdList_nil]; rfl
theorem LInv.other {α : Type} {f : List UInt8 → Option (α × List UInt8)} {R : Option (List α × List UInt8)} {acc : List α} {c : UInt8} {t : List UInt8} (h : LInv f R acc (some (c :: t))) (h0 : c ≠ 0) (h1 : c ≠ 1) : R = none := by
  obtain ⟨n, hn, h⟩ := h
  rw [h, rdList_other f n c t h0 h1]; rfl
theorem LInv.step {α : Type} {f : List UInt8 → Option (α × List UInt8)} (hf : ∀ s x r, f s = some (x, r) → r.length < s.length) {R : Option (List α × List UInt8)} {acc : List α} {t : List UInt8} (h : LInv f R acc (some (1 :: t))) :
    (∀ x r, f t = some (x, r) → LInv f R (acc ++ [x]) (some r)) ∧ (f t = none → R = none) := by
  obtain ⟨n, hn, h⟩ := h
  cases n with
  | zero => omega
  | succ n =>
    rw [rdList_one] at h
    constructor
    · intro x r hx
      rw [hx] at h
      simp only at h
      have := hf _ _ _ hx
      simp only [List.length_cons] at hn
      refine ⟨n, by omega, ?_⟩
      rw [h, Option.map_map]
      congr 1
      funext p
      simp
    · intro hx
      rw [hx] at h
      exact h
def outL {α : Type} (R : Option (List α × List UInt8)) : List α × RSt := match R with | none => ([], none) | some (n, r') => (n, some r')
theorem opList_of {α : Type} {f : List UInt8 → Option (α × List UInt8)} {s : List UInt8} : opList f (some s) = outL (rdList f (s.length + 1) s) := by
  show (match rdList f (s.length + 1) s with | none => ([], none) | some (n, r') => (n, some r')) = _
  rfl
theorem rdInt_of_op {t r : List UInt8} {x : Int} {st : RSt} (h : opInt (some t) = (x, st)) : (st = none → rdInt t = none) ∧ (st = some r → rdInt t = some (x, r)) := by
  unfold opInt at h
  cases hq : rdInt t with
  | none => simp only [hq, Prod.mk.injEq] at h; exact ⟨fun _ => rfl, (fun e => by rw [← h.2] at e; cases e)⟩
  | some p => simp only [hq, Prod.mk.injEq] at h; exact ⟨(fun e => by rw [← h.2] at e; cases e), (fun e => by rw [← h.2] at e; cases e; rw [← h.1])⟩
theorem rdText_of_op {t r : List UInt8} {x : List UInt8} {st : RSt} (h : opText (some t) = (x, st)) : (st = none → rdText t = none) ∧ (st = some r → rdText t = some (x, r)) := by
  unfold opText at h
  cases hq : rdText t with
  | none => simp only [hq, Prod.mk.injEq] at h; exact ⟨fun _ => rfl, (fun e => by rw [← h.2] at e; cases e)⟩
  | some p => simp only [hq, Prod.mk.injEq] at h; exact ⟨(fun e => by rw [← h.2] at e; cases e), (fun e => by rw [← h.2] at e; cases e; rw [← h.1])⟩
/-- how much a reader still holds -/
def rdMeas (g : Nat) (w : World) : Nat := match w.cell? ⟨g, 1, none⟩, w.cell? ⟨g, 0, none⟩ with | some (.bool false), some (.string b) => b.size + 1 | _, _ => 0
theorem rdMeas_of {g : Nat} {st : RSt} {w : World} (h : RdAt g st w) : rdMeas g w = match st with | none => 0 | some s => s.length + 1 := by
  obtain ⟨rest, bad, hb, hl, rfl⟩ := h
  have c0 : w.cell? ⟨g, 0, none⟩ = some (.string rest) := by rw [Lib.cell_of_heap hb]; rfl
  have c1 : w.cell? ⟨g, 1, none⟩ = some (.bool bad) := by rw [Lib.cell_of_heap hb]; rfl
  unfold rdMeas
  rw [c0, c1]
  cases bad with
  | true => rfl
  | false => simp
theorem rdInt_lt' : ∀ s x r, rdInt s = some (x, r) → r.length < s.length := fun _ _ _ h => rdInt_lt h
theorem rdText_lt' : ∀ s x r, rdText s = some (x, r) → r.length < s.length := fun _ _ _ h => rdText_lt h
def encT (l : List UInt8) : Value := .string ⟨l.toArray⟩
theorem undIs : Tryd.prog.underlying 25 = some (.slice 3) := by kernel_rfl
theorem infoI : (Tryd.prog.info? 3).map (fun i => (i.zero, i.size, i.bytes)) = some (some (.int .i64 0), 1, 8) := by kernel_rfl
theorem undSs : Tryd.prog.underlying 26 = some (.slice 9) := by kernel_rfl
theorem infoS : (Tryd.prog.info? 9).map (fun i => (i.zero, i.size, i.bytes)) = some (some (.string ⟨#[]⟩), 1, 16) := by kernel_rfl
theorem grown_up {w w1 : World} {g : Nat} (h : Below w.heap.size w w1) : w.grownBy w1 (some g) := grownBy_of_below h _
theorem owns_set {w : World} {base n size : Nat} {e : TypeId} {v : Value} {xs : List Value} (h : w.ownsRow base e size v n xs) {g o : Nat} (hg : g < base) (u : Value) : (w.setCell ⟨g, o, none⟩ u).ownsRow base e size v n xs := ownsRow_setCell_below h hg u
theorem owns_grown {w w' : World} {base n size g : Nat} {e : TypeId} {v : Value} {xs : List Value} (h : w.ownsRow base e size v n xs) (hg : w.grownBy w' (some g)) (hb : g < base) : w'.ownsRow base e size v n xs :=
  h.kept hg (by
    cases hq : v.ownBlock with
    | none => exact Or.inl rfl
    | some k => exact Or.inr (fun e => by have := h.block_ge hq; simp at e; omega))
theorem grown_own {w w1 w2 : World} {base n size g : Nat} {e : TypeId} {v : Value} {xs : List Value} (h : w.grownBy w1 (some g)) (hown : w1.ownsRow base e size v n xs) (hb : w.heap.size ≤ base) (h2 : w1.grownBy w2 v.ownBlock) : w.grownBy w2 (some g) :=
  ⟨h2.os.trans h.os, h2.tape.trans h.tape, h2.output.trans h.output, Nat.le_trans h.size h2.size, fun k hk hne => (h2.block k (Nat.lt_of_lt_of_le hk h.size) (fun e => by have := hown.block_ge e.symm; omega)).trans (h.block k hk hne)⟩

set_option maxRecDepth 100000 in
set_option maxHeartbeats 4000000 in
theorem listInt_any (g : Nat) (st : RSt) (w : World) (h : RdAt g st w) :
    Calls Tryd.prog 55 #[.pointer (some ⟨g, 0, none⟩), .func (.func 28) #[.pointer (some ⟨g, 0, none⟩)] #[]] w fun e w' => ∃ v, e = .returned v ∧
      w'.ownsRow w.heap.size 3 1 v (opList rdInt st).1.length ((opList rdInt st).1.map (Value.int .i64)) ∧ RdAt g (opList rdInt st).2 w' ∧ w.grownBy w' (some g) := by
  obtain ⟨i0, hi, hz0, hz1, hz2⟩ := info_parts infoI
  have hg : g < w.heap.size := by obtain ⟨_, _, hb, _⟩ := h; exact blk_lt hb
  obtain ⟨res, hres⟩ : ∃ res, res = opList rdInt st := ⟨_, rfl⟩
  rw [← hres]
  have HL0 : Hid (leftOf st ≤ 2000000) := by
    obtain ⟨rest, bad, hb, hl, rfl⟩ := h
    cases bad with
    | true => exact Lib.hid (Nat.zero_le _)
    | false => exact Lib.hid (by simpa [leftOf] using hl)
  obtain ⟨R, HI0, HR⟩ : ∃ R, Hid (LInv rdInt R [] st) ∧ Hid (res = outL R) := by
    cases st with
    | none => exact ⟨none, Lib.hid rfl, Lib.hid hres⟩
    | some s => exact ⟨_, Lib.hid (LInv.start rdInt s), Lib.hid (by rw [hres, opList_of])⟩
  have H := Lib.hid h
  clear h hres
  go_enter Tryd.func55, Tryd.ntmps55
  go_wp2_with fail
  go_loopw [5] (fun v wr => ∃ (acc : List Int) (cur : RSt), LInv rdInt R acc cur ∧ (∀ s, cur = some s → acc.length + s.length ≤ 2000000) ∧ wr.ownsRow w.heap.size 3 1 v acc.length (acc.map (Value.int .i64)) ∧ RdAt g cur wr ∧ w.grownBy wr (some g)) (fun _ wr => rdMeas g wr)
  case atStart => exact ⟨[], st, HI0.out, fun s hs => by subst hs; simpa [leftOf] using HL0.out, World.ownsRow_nil _ _ _ _, H.out, grown_refl _ _⟩
  case round =>
    obtain ⟨acc, cur, hI, hl, hown, hrd, hgr⟩ := hrel
    clear H HI0 HL0
    have HI := Lib.hid hI
    have HL := Lib.hid hl
    have HO := Lib.hid hown
    have HG := Lib.hid hgr
    have HRD := Lib.hid hrd
    obtain ⟨rest, bad, hb, hr, rfl⟩ := hrd
    have c0 : wr.cell? ⟨g, 0, none⟩ = some (.string rest) := by rw [Lib.cell_of_heap hb]; rfl
    have c1 : wr.cell? ⟨g, 1, none⟩ = some (.bool bad) := by rw [Lib.cell_of_heap hb]; rfl
    have f0 : wr.frozen? ⟨g, 0, none⟩ = false := Lib.frozen_of_heap hb 0
    have f1 : wr.frozen? ⟨g, 1, none⟩ = false := Lib.frozen_of_heap hb 1
    have HB := Lib.hid hb
    have hsz := hgr.size
    clear hI hl hown hgr hb
    cases bad with
    | true =>
      have HE : Hid (res = ([], none)) := Lib.hid (by
        have : R = none := HI.out
        rw [HR.out, this]; rfl)
      go_wp2_with fail
      go_ret
      exact ⟨_, rfl, by rw [HE.out]; exact World.ownsRow_nil _ _ _ _, by rw [HE.out]; exact ⟨rest, true, two_set1 HB.out, hr, rfl⟩, grown_set HG.out _⟩
    | false =>
      simp only [Bool.false_eq_true, if_false] at HI HL HRD
      have e0 : rest.toList = rest.data.toList := ByteArray.toList_eq _
      by_cases hz : rest.size = 0
      · have hnil : rest.data.toList = [] := List.eq_nil_of_length_eq_zero (by simpa using hz)
        have HE : Hid (res = ([], none)) := Lib.hid (by
          have h := HI.out
          rw [hnil] at h
          rw [HR.out, h.empty]; rfl)
        have hnl : rest.toList = [] := by rw [e0, hnil]
        clear e0 hnil hz
        go_wp2_with fail
        go_ret
        exact ⟨_, rfl, by rw [HE.out]; exact World.ownsRow_nil _ _ _ _, by rw [HE.out]; exact ⟨rest, true, two_set1 HB.out, hr, rfl⟩, grown_set HG.out _⟩
      · have h0 : 0 < rest.size := by omega
        have hcons := str_cons rest h0
        have hnl : rest.toList ≠ [] := toList_ne rest h0
        have hn2 : rest.toList.isEmpty = false := by rw [List.isEmpty_eq_false_iff]; exact hnl
        have hn3 : (rest.toList == []) = false := beq_eq_false_iff_ne.2 hnl
        have hn4 : (rest.toList != []) = true := by rw [bne, hn3]; rfl
        have hcl := (rest[0]'h0).toNat_lt
        have HX := Lib.hid (extract_toList rest 1)
        have hxl : (rest.extract 1 rest.size).size = rest.size - 1 := by rw [ByteArray.size_extract]; omega
        clear e0 hz
        by_cases d0 : rest[0]'h0 = 0
        · have d0n : (rest[0]'h0).toNat = 0 := by rw [d0]; rfl
          have t0 : (((rest[0]'h0).toNat : Int) == 0) = true := beq_iff_eq.2 (by omega)
          have HE : Hid (res = (acc, some (rest.extract 1 rest.size).data.toList)) := Lib.hid (by
            have h := HI.out
            rw [hcons, d0] at h
            rw [HR.out, h.fin, HX.out]; rfl)
          clear hcons d0 d0n hnl
          go_wp2_with fail
          go_ret
          exact ⟨_, rfl, by rw [HE.out]; exact owns_set HO.out hg _, by rw [HE.out]; exact ⟨_, false, two_set0 HB.out, by omega, rfl⟩, grown_set HG.out _⟩
        · have d0n : ¬ (rest[0]'h0).toNat = 0 := fun e => d0 (UInt8.toNat_inj.1 (by rw [e]; rfl))
          have t0 : (((rest[0]'h0).toNat : Int) == 0) = false := beq_eq_false_iff_ne.2 (by omega)
          by_cases d1 : rest[0]'h0 = 1
          · have d1n : (rest[0]'h0).toNat = 1 := by rw [d1]; rfl
            have t1 : (((rest[0]'h0).toNat : Int) != 1) = false := by rw [bne, beq_iff_eq.2 (show ((rest[0]'h0).toNat : Int) = 1 by omega)]; rfl
            have HI2 : Hid (LInv rdInt R acc (some (1 :: (rest.extract 1 rest.size).data.toList))) := Lib.hid (by
              have h := HI.out
              rw [hcons, d1] at h
              rw [HX.out]
              exact h)
            have HL2 : Hid (acc.length + rest.size ≤ 2000000) := Lib.hid (by
              have := HL.out _ rfl
              simpa using this)
            clear hcons d0 d0n d1 d1n hnl HI HL
            go_wp2_with fail
            refine (rdInt_any g (some (rest.extract 1 rest.size).data.toList) _ ⟨_, false, two_set0 HB.out, by omega, rfl⟩).mono ?_
            rintro e w1 ⟨rfl, hr1, hg1⟩
            have HR1 := Lib.hid hr1
            have HG1 := Lib.hid (grown_trans (grown_set HG.out (.string (rest.extract 1 rest.size))) hg1)
            have HO1 := Lib.hid (owns_grown (owns_set HO.out hg (.string (rest.extract 1 rest.size)) (o := 0)) hg1 hg)
            have hsz1 := HG1.out.size
            clear hr1 hg1
            have HTL : Hid ((rest.extract 1 rest.size).data.toList.length = rest.size - 1) := Lib.hid (by simp)
            generalize hop : opInt (some (rest.extract 1 rest.size).data.toList) = q at *
            obtain ⟨x, st1⟩ := q
            have HOP := Lib.hid hop
            clear hop
            simp only at HR1
            go_wp2_with (at_builtin; refine Hid.out ?_)
            refine Lib.hid ?_
            refine wpList_append_own _ rfl _ _ 25 rfl w.heap.size 3 i0 (.int .i64 0) 1 8 undIs hi hz0 hz1 hz2 rfl (by decide) _ _ _ rfl (HO1.out.alloc _) ⟨w1.heap.size, 0, none⟩ 1 1 [.int .i64 x] rfl rfl (cells_new _ _ _) (by intro u hu; simp at hu; subst hu; rfl) (by have := HL2.out; unfold maxLen; omega) (by have := HL2.out; omega) (by simp; omega) ?_
            intro v' w2 hown' hgrow _
            have HO2 : Hid (w2.ownsRow w.heap.size 3 1 v' (acc ++ [x]).length ((acc ++ [x]).map (Value.int .i64))) := by
              refine Lib.hid ?_
              rw [List.length_append, List.map_append]
              exact hown'
            have hA : w1.grownBy (w1.alloc (.cells #[.int .i64 x] 3)) (some g) := World.grownBy_alloc _ _ _
            have HG2 : Hid (w.grownBy w2 (some g)) := Lib.hid (grown_own (grown_trans HG1.out hA) (HO1.out.alloc _) (Nat.le_refl _) hgrow)
            have HR2 : Hid (RdAt g st1 w2) := Lib.hid ((HR1.out.grown (World.grownBy_alloc _ _ none) (by simp)).grown hgrow (fun e => by have := HO1.out.block_ge e.symm; omega))
            have HI3 : Hid (LInv rdInt R (acc ++ [x]) st1 ∧ (∀ s, st1 = some s → (acc ++ [x]).length + s.length ≤ 2000000) ∧ rdMeas g w2 < rest.size + 1) := by
              refine Lib.hid ?_
              have hm := rdMeas_of HR2.out
              rw [hm]
              cases st1 with
              | none => exact ⟨(HI2.out.step rdInt_lt').2 ((rdInt_of_op (r := []) HOP.out).1 rfl), fun s hs => (by cases hs), Nat.succ_pos _⟩
              | some r =>
                have h1 := (rdInt_of_op (r := r) HOP.out).2 rfl
                have h2 := rdInt_lt h1
                rw [HTL.out] at h2
                refine ⟨(HI2.out.step rdInt_lt').1 _ _ h1, fun s hs => ?_, by simp; omega⟩
                cases hs
                have := HL2.out
                simp only [List.length_append, List.length_cons, List.length_nil]
                omega
            have HM : Hid (rdMeas g wr = rest.size + 1) := Lib.hid (by rw [rdMeas_of HRD.out]; simp)
            clear hown' hgrow hA
            go_wp2_with fail
            go_roundw
            case rel => exact ⟨_, _, HI3.out.1, HI3.out.2.1, HO2.out, HR2.out, HG2.out⟩
            case measure => rw [HM.out]; exact HI3.out.2.2
          · have d1n : ¬ (rest[0]'h0).toNat = 1 := fun e => d1 (UInt8.toNat_inj.1 (by rw [e]; rfl))
            have t1 : (((rest[0]'h0).toNat : Int) != 1) = true := by rw [bne, beq_eq_false_iff_ne.2 (show ¬ ((rest[0]'h0).toNat : Int) = 1 by omega)]; rfl
            have HE : Hid (res = ([], none)) := Lib.hid (by
              have h := HI.out
              rw [hcons] at h
              rw [HR.out, h.other d0 d1]; rfl)
            clear hcons d0 d0n d1 d1n hnl
            go_wp2_with fail
            go_ret
            exact ⟨_, rfl, by rw [HE.out]; exact World.ownsRow_nil _ _ _ _, by rw [HE.out]; exact ⟨_, true, two_set1 (two_set0 HB.out), by omega, rfl⟩, grown_set (grown_set HG.out _) _⟩

set_option maxRecDepth 100000 in
set_option maxHeartbeats 4000000 in
theorem listText_any (g : Nat) (st : RSt) (w : World) (h : RdAt g st w) :
    Calls Tryd.prog 57 #[.pointer (some ⟨g, 0, none⟩), .func (.func 30) #[.pointer (some ⟨g, 0, none⟩)] #[]] w fun e w' => ∃ v, e = .returned v ∧
      w'.ownsRow w.heap.size 9 1 v (opList rdText st).1.length ((opList rdText st).1.map encT) ∧ RdAt g (opList rdText st).2 w' ∧ w.grownBy w' (some g) := by
  obtain ⟨i0, hi, hz0, hz1, hz2⟩ := info_parts infoS
  have hg : g < w.heap.size := by obtain ⟨_, _, hb, _⟩ := h; exact blk_lt hb
  obtain ⟨res, hres⟩ : ∃ res, res = opList rdText st := ⟨_, rfl⟩
  rw [← hres]
  have HL0 : Hid (leftOf st ≤ 2000000) := by
    obtain ⟨rest, bad, hb, hl, rfl⟩ := h
    cases bad with
    | true => exact Lib.hid (Nat.zero_le _)
    | false => exact Lib.hid (by simpa [leftOf] using hl)
  obtain ⟨R, HI0, HR⟩ : ∃ R, Hid (LInv rdText R [] st) ∧ Hid (res = outL R) := by
    cases st with
    | none => exact ⟨none, Lib.hid rfl, Lib.hid hres⟩
    | some s => exact ⟨_, Lib.hid (LInv.start rdText s), Lib.hid (by rw [hres, opList_of])⟩
  have H := Lib.hid h
  clear h hres
  go_enter Tryd.func57, Tryd.ntmps57
  go_wp2_with fail
  go_loopw [5] (fun v wr => ∃ (acc : List (List UInt8)) (cur : RSt), LInv rdText R acc cur ∧ (∀ s, cur = some s → acc.length + s.length ≤ 2000000) ∧ wr.ownsRow w.heap.size 9 1 v acc.length (acc.map encT) ∧ RdAt g cur wr ∧ w.grownBy wr (some g)) (fun _ wr => rdMeas g wr)
  case atStart => exact ⟨[], st, HI0.out, fun s hs => by subst hs; simpa [leftOf] using HL0.out, World.ownsRow_nil _ _ _ _, H.out, grown_refl _ _⟩
  case round =>
    obtain ⟨acc, cur, hI, hl, hown, hrd, hgr⟩ := hrel
    clear H HI0 HL0
    have HI := Lib.hid hI
    have HL := Lib.hid hl
    have HO := Lib.hid hown
    have HG := Lib.hid hgr
    have HRD := Lib.hid hrd
    obtain ⟨rest, bad, hb, hr, rfl⟩ := hrd
    have c0 : wr.cell? ⟨g, 0, none⟩ = some (.string rest) := by rw [Lib.cell_of_heap hb]; rfl
    have c1 : wr.cell? ⟨g, 1, none⟩ = some (.bool bad) := by rw [Lib.cell_of_heap hb]; rfl
    have f0 : wr.frozen? ⟨g, 0, none⟩ = false := Lib.frozen_of_heap hb 0
    have f1 : wr.frozen? ⟨g, 1, none⟩ = false := Lib.frozen_of_heap hb 1
    have HB := Lib.hid hb
    have hsz := hgr.size
    clear hI hl hown hgr hb
    cases bad with
    | true =>
      have HE : Hid (res = ([], none)) := Lib.hid (by
        have : R = none := HI.out
        rw [HR.out, this]; rfl)
      go_wp2_with fail
      go_ret
      exact ⟨_, rfl, by rw [HE.out]; exact World.ownsRow_nil _ _ _ _, by rw [HE.out]; exact ⟨rest, true, two_set1 HB.out, hr, rfl⟩, grown_set HG.out _⟩
    | false =>
      simp only [Bool.false_eq_true, if_false] at HI HL HRD
      have e0 : rest.toList = rest.data.toList := ByteArray.toList_eq _
      by_cases hz : rest.size = 0
      · have hnil : rest.data.toList = [] := List.eq_nil_of_length_eq_zero (by simpa using hz)
        have HE : Hid (res = ([], none)) := Lib.hid (by
          have h := HI.out
          rw [hnil] at h
          rw [HR.out, h.empty]; rfl)
        have hnl : rest.toList = [] := by rw [e0, hnil]
        clear e0 hnil hz
        go_wp2_with fail
        go_ret
        exact ⟨_, rfl, by rw [HE.out]; exact World.ownsRow_nil _ _ _ _, by rw [HE.out]; exact ⟨rest, true, two_set1 HB.out, hr, rfl⟩, grown_set HG.out _⟩
      · have h0 : 0 < rest.size := by omega
        have hcons := str_cons rest h0
        have hnl : rest.toList ≠ [] := toList_ne rest h0
        have hn2 : rest.toList.isEmpty = false := by rw [List.isEmpty_eq_false_iff]; exact hnl
        have hn3 : (rest.toList == []) = false := beq_eq_false_iff_ne.2 hnl
        have hn4 : (rest.toList != []) = true := by rw [bne, hn3]; rfl
        have hcl := (rest[0]'h0).toNat_lt
        have HX := Lib.hid (extract_toList rest 1)
        have hxl : (rest.extract 1 rest.size).size = rest.size - 1 := by rw [ByteArray.size_extract]; omega
        clear e0 hz
        by_cases d0 : rest[0]'h0 = 0
        · have d0n : (rest[0]'h0).toNat = 0 := by rw [d0]; rfl
          have t0 : (((rest[0]'h0).toNat : Int) == 0) = true := beq_iff_eq.2 (by omega)
          have HE : Hid (res = (acc, some (rest.extract 1 rest.size).data.toList)) := Lib.hid (by
            have h := HI.out
            rw [hcons, d0] at h
            rw [HR.out, h.fin, HX.out]; rfl)
          clear hcons d0 d0n hnl
          go_wp2_with fail
          go_ret
          exact ⟨_, rfl, by rw [HE.out]; exact owns_set HO.out hg _, by rw [HE.out]; exact ⟨_, false, two_set0 HB.out, by omega, rfl⟩, grown_set HG.out _⟩
        · have d0n : ¬ (rest[0]'h0).toNat = 0 := fun e => d0 (UInt8.toNat_inj.1 (by rw [e]; rfl))
          have t0 : (((rest[0]'h0).toNat : Int) == 0) = false := beq_eq_false_iff_ne.2 (by omega)
          by_cases d1 : rest[0]'h0 = 1
          · have d1n : (rest[0]'h0).toNat = 1 := by rw [d1]; rfl
            have t1 : (((rest[0]'h0).toNat : Int) != 1) = false := by rw [bne, beq_iff_eq.2 (show ((rest[0]'h0).toNat : Int) = 1 by omega)]; rfl
            have HI2 : Hid (LInv rdText R acc (some (1 :: (rest.extract 1 rest.size).data.toList))) := Lib.hid (by
              have h := HI.out
              rw [hcons, d1] at h
              rw [HX.out]
              exact h)
            have HL2 : Hid (acc.length + rest.size ≤ 2000000) := Lib.hid (by
              have := HL.out _ rfl
              simpa using this)
            clear hcons d0 d0n d1 d1n hnl HI HL
            go_wp2_with fail
            refine (rdText_any g (some (rest.extract 1 rest.size).data.toList) _ ⟨_, false, two_set0 HB.out, by omega, rfl⟩).mono ?_
            rintro e w1 ⟨rfl, hr1, hg1⟩
            have HR1 := Lib.hid hr1
            have HG1 := Lib.hid (grown_trans (grown_set HG.out (.string (rest.extract 1 rest.size))) hg1)
            have HO1 := Lib.hid (owns_grown (owns_set HO.out hg (.string (rest.extract 1 rest.size)) (o := 0)) hg1 hg)
            have hsz1 := HG1.out.size
            clear hr1 hg1
            have HTL : Hid ((rest.extract 1 rest.size).data.toList.length = rest.size - 1) := Lib.hid (by simp)
            generalize hop : opText (some (rest.extract 1 rest.size).data.toList) = q at *
            obtain ⟨x, st1⟩ := q
            have HOP := Lib.hid hop
            clear hop
            simp only at HR1
            go_wp2_with (at_builtin; refine Hid.out ?_)
            refine Lib.hid ?_
            refine wpList_append_own _ rfl _ _ 26 rfl w.heap.size 9 i0 (.string ⟨#[]⟩) 1 16 undSs hi hz0 hz1 hz2 rfl (by decide) _ _ _ rfl (HO1.out.alloc _) ⟨w1.heap.size, 0, none⟩ 1 1 [encT x] rfl rfl (cells_new _ _ _) (by intro u hu; simp at hu; subst hu; rfl) (by have := HL2.out; unfold maxLen; omega) (by have := HL2.out; omega) (by simp; omega) ?_
            intro v' w2 hown' hgrow _
            have HO2 : Hid (w2.ownsRow w.heap.size 9 1 v' (acc ++ [x]).length ((acc ++ [x]).map encT)) := by
              refine Lib.hid ?_
              rw [List.length_append, List.map_append]
              exact hown'
            have hA : w1.grownBy (w1.alloc (.cells #[encT x] 9)) (some g) := World.grownBy_alloc _ _ _
            have HG2 : Hid (w.grownBy w2 (some g)) := Lib.hid (grown_own (grown_trans HG1.out hA) (HO1.out.alloc _) (Nat.le_refl _) hgrow)
            have HR2 : Hid (RdAt g st1 w2) := Lib.hid ((HR1.out.grown (World.grownBy_alloc _ _ none) (by simp)).grown hgrow (fun e => by have := HO1.out.block_ge e.symm; omega))
            have HI3 : Hid (LInv rdText R (acc ++ [x]) st1 ∧ (∀ s, st1 = some s → (acc ++ [x]).length + s.length ≤ 2000000) ∧ rdMeas g w2 < rest.size + 1) := by
              refine Lib.hid ?_
              have hm := rdMeas_of HR2.out
              rw [hm]
              cases st1 with
              | none => exact ⟨(HI2.out.step rdText_lt').2 ((rdText_of_op (r := []) HOP.out).1 rfl), fun s hs => (by cases hs), Nat.succ_pos _⟩
              | some r =>
                have h1 := (rdText_of_op (r := r) HOP.out).2 rfl
                have h2 := rdText_lt h1
                rw [HTL.out] at h2
                refine ⟨(HI2.out.step rdText_lt').1 _ _ h1, fun s hs => ?_, by simp; omega⟩
                cases hs
                have := HL2.out
                simp only [List.length_append, List.length_cons, List.length_nil]
                omega
            have HM : Hid (rdMeas g wr = rest.size + 1) := Lib.hid (by rw [rdMeas_of HRD.out]; simp)
            clear hown' hgrow hA
            go_wp2_with fail
            go_roundw
            case rel => exact ⟨_, _, HI3.out.1, HI3.out.2.1, HO2.out, HR2.out, HG2.out⟩
            case measure => rw [HM.out]; exact HI3.out.2.2
          · have d1n : ¬ (rest[0]'h0).toNat = 1 := fun e => d1 (UInt8.toNat_inj.1 (by rw [e]; rfl))
            have t1 : (((rest[0]'h0).toNat : Int) != 1) = true := by rw [bne, beq_eq_false_iff_ne.2 (show ¬ ((rest[0]'h0).toNat : Int) = 1 by omega)]; rfl
            have HE : Hid (res = ([], none)) := Lib.hid (by
              have h := HI.out
              rw [hcons] at h
              rw [HR.out, h.other d0 d1]; rfl)
            clear hcons d0 d0n d1 d1n hnl
            go_wp2_with fail
            go_ret
            exact ⟨_, rfl, by rw [HE.out]; exact World.ownsRow_nil _ _ _ _, by rw [HE.out]; exact ⟨_, true, two_set1 (two_set0 HB.out), by omega, rfl⟩, grown_set (grown_set HG.out _) _⟩
set_option maxRecDepth 100000 in
set_option maxHeartbeats 2000000 in
theorem rdNums_any (g : Nat) (st : RSt) (w : World) (h : RdAt g st w) :
    Calls Tryd.prog 33 #[.pointer (some ⟨g, 0, none⟩)] w fun e w' => ∃ v, e = .returned v ∧
      w'.ownsRow w.heap.size 3 1 v (opNums st).1.length ((opNums st).1.map (Value.int .i64)) ∧ RdAt g (opNums st).2 w' ∧ w.grownBy w' (some g) := by
  have H := Lib.hid h
  clear h
  go_enter Tryd.func33, Tryd.ntmps33
  go_wp2_with fail
  refine (listInt_any g st _ H.out).mono ?_
  rintro e w1 ⟨v, rfl, h1, h2, h3⟩
  have H1 := Lib.hid h1
  have H2 := Lib.hid h2
  have H3 := Lib.hid h3
  clear h1 h2 h3
  go_wp2_with fail
  go_ret
  exact ⟨_, rfl, H1.out, H2.out, H3.out⟩
set_option maxRecDepth 100000 in
set_option maxHeartbeats 2000000 in
theorem rdTexts_any (g : Nat) (st : RSt) (w : World) (h : RdAt g st w) :
    Calls Tryd.prog 36 #[.pointer (some ⟨g, 0, none⟩)] w fun e w' => ∃ v, e = .returned v ∧
      w'.ownsRow w.heap.size 9 1 v (opTexts st).1.length ((opTexts st).1.map encT) ∧ RdAt g (opTexts st).2 w' ∧ w.grownBy w' (some g) := by
  have H := Lib.hid h
  clear h
  go_enter Tryd.func36, Tryd.ntmps36
  go_wp2_with fail
  refine (listText_any g st _ H.out).mono ?_
  rintro e w1 ⟨v, rfl, h1, h2, h3⟩
  have H1 := Lib.hid h1
  have H2 := Lib.hid h2
  have H3 := Lib.hid h3
  clear h1 h2 h3
  go_wp2_with fail
  go_ret
  exact ⟨_, rfl, H1.out, H2.out, H3.out⟩
end Go.Proofs.YtapbehipdeabbaaDoor
