/- Texts merged: PTot POpen PLaw -/
import Derived.Test.YtepidpegoihllaaGreatDoorUExact
import Derived.Test.YtepidpegoihllaaGreatDoorUOpen
import Derived.KernelRfl
import Derived.Test.YtepidpegoihllaaGreatDoorProg
/- Sums of lists: bourneref01.Add, pool.Total, bourneref17.Total. -/
namespace Go.Proofs.YtepidpegoihllaaGreatDoor
open Go.RowKit
set_option maxRecDepth 100000 in
set_option maxHeartbeats 1000000 in
theorem radd_any (a b : Int) (w : World) (ha : I64 a) (hb : I64 b) : Calls Tryz.prog 36 #[.int .i64 a, .int .i64 b] w fun e w' => e = .returned (.int .i64 (addS a b)) ∧ w = w' := by
  unfold I64 at ha hb
  by_cases h1 : 0 < b
  · by_cases h2 : 9223372036854775807 - b < a
    · have HE : Hid (addS a b = 9223372036854775807) := Lib.hid (by unfold addS; rw [if_pos (by omega)])
      go_enter Tryz.func36, Tryz.ntmps36
      go_wp2
      go_ret
      exact ⟨ret_int HE.out.symm, rfl⟩
    · have HE : Hid (addS a b = a + b) := Lib.hid (addS_in (by omega) (by omega))
      have t1 : ¬ b < 0 := by omega
      go_enter Tryz.func36, Tryz.ntmps36
      go_wp2
      go_ret
      exact ⟨ret_int HE.out.symm, rfl⟩
  · by_cases h2 : b < 0
    · by_cases h3 : a < -9223372036854775808 - b
      · have HE : Hid (addS a b = -9223372036854775808) := Lib.hid (by unfold addS; rw [if_neg (by omega), if_pos (by omega)])
        go_enter Tryz.func36, Tryz.ntmps36
        go_wp2
        go_ret
        exact ⟨ret_int HE.out.symm, rfl⟩
      · have HE : Hid (addS a b = a + b) := Lib.hid (addS_in (by omega) (by omega))
        go_enter Tryz.func36, Tryz.ntmps36
        go_wp2
        go_ret
        exact ⟨ret_int HE.out.symm, rfl⟩
    · have HE : Hid (addS a b = a + b) := Lib.hid (addS_in (by omega) (by omega))
      go_enter Tryz.func36, Tryz.ntmps36
      go_wp2
      go_ret
      exact ⟨ret_int HE.out.symm, rfl⟩
/-- the sum of a list, limited to the range of an int -/
def totS (p : List Int) : Int := p.foldl addS 0
theorem totS_snoc {p : List Int} {k : Nat} {x : Int} (h : p[k]? = some x) : totS (p.take (k + 1)) = addS (totS (p.take k)) x := by
  unfold totS
  rw [List.take_add_one, h]
  simp
theorem totS_bd (p : List Int) : I64 (totS p) := by
  rcases List.eq_nil_or_concat p with rfl | ⟨q, x, rfl⟩
  · exact ⟨by decide, by decide⟩
  · unfold totS
    rw [List.concat_eq_append, List.foldl_append]
    exact addS_bd _ _
theorem totS_sum : ∀ (p : List Int) (a : Int), 0 ≤ a → (∀ x ∈ p, 0 ≤ x) → a + p.sum ≤ 9223372036854775807 → p.foldl addS a = a + p.sum
  | [], a, _, _, _ => by simp
  | x :: p, a, ha, h, hs => by
    have hx := h x (by simp)
    have hp : 0 ≤ p.sum := by
      have : ∀ (q : List Int), (∀ x ∈ q, 0 ≤ x) → 0 ≤ q.sum := by
        intro q
        induction q with
        | nil => intro _; simp
        | cons y q ih =>
          intro hq
          have h1 := hq y (by simp)
          have h2 := ih (fun z hz => hq z (by simp [hz]))
          rw [List.sum_cons]
          omega
      exact this p (fun y hy => h y (by simp [hy]))
    rw [List.sum_cons] at hs ⊢
    rw [List.foldl_cons, addS_in (by omega) (by omega), totS_sum p (a + x) (by omega) (fun y hy => h y (by simp [hy])) (by omega)]
    omega
set_option maxRecDepth 100000 in
set_option maxHeartbeats 1000000 in
theorem total_any (p : List Int) (v : Value) (w : World) (h : LArg RInt 1 v p w) : Calls Tryz.prog 33 #[v] w fun e w' => e = .returned (.int .i64 (totS p)) ∧ w = w' := by
  obtain ⟨al, lc, rfl, hlc, hlm⟩ := h.slice
  have hl : p.length ≤ 9223372036854775807 := by unfold maxLen at hlm; omega
  have HL := Lib.hid h
  clear h hlm
  go_enter Tryz.func33, Tryz.ntmps33
  go_wp2_with fail
  go_loop [3, 8] (fun sv iv => ∃ k : Nat, k ≤ p.length ∧ iv = .int .i64 k ∧ sv = .int .i64 (totS (p.take k))) (fun _ iv => p.length - (Go.RowKit.intOf iv).toNat)
  case atStart => exact ⟨0, by omega, rfl, rfl⟩
  case round =>
    obtain ⟨k, hk, rfl, rfl⟩ := hrel
    by_cases hlt : k < p.length
    · obtain ⟨x, hx⟩ : ∃ x, p[k]? = some x := ⟨_, List.getElem?_eq_getElem hlt⟩
      obtain ⟨b, o, cs, hal, hb, h8, hrg, hcs⟩ := HL.out.at hx
      subst hal
      rw [hcs.1] at hrg
      have c0 : w.cell? ⟨b, o + k, none⟩ = some (.int .i64 x) := by
        have h7 := hrg 0 _ rfl
        rw [Nat.mul_one, Nat.add_zero] at h7
        exact h7
      have HX : Hid (I64 x) := Lib.hid hcs.2
      have HB := Lib.hid (totS_bd (p.take k))
      have HS := Lib.hid (totS_snoc hx)
      clear hrg hcs h8 hb hx
      generalize totS (p.take k) = s at *
      go_wp2_with fail
      refine (add_any s x _ HB.out HX.out).mono ?_
      rintro e w2 ⟨rfl, rfl⟩
      go_wp2_with fail
      go_round
      case rel => exact ⟨k + 1, by omega, by go_num, by rw [HS.out]⟩
      case measure => simp [Go.RowKit.intOf]; omega
    · obtain rfl : k = p.length := by omega
      have HE : Hid (totS (p.take p.length) = totS p) := Lib.hid (by rw [List.take_length])
      generalize totS (p.take p.length) = s at *
      go_wp2_with fail
      rw [← HE.out]
      go_ret
      exact ⟨rfl, rfl⟩
set_option maxRecDepth 100000 in
set_option maxHeartbeats 1000000 in
theorem rtotal_any (p : List Int) (v : Value) (w : World) (h : LArg RInt 1 v p w) : Calls Tryz.prog 35 #[v] w fun e w' => e = .returned (.int .i64 (totS p)) ∧ w = w' := by
  obtain ⟨al, lc, rfl, hlc, hlm⟩ := h.slice
  have hl : p.length ≤ 9223372036854775807 := by unfold maxLen at hlm; omega
  have HL := Lib.hid h
  clear h hlm
  go_enter Tryz.func35, Tryz.ntmps35
  go_wp2_with fail
  go_loop [3, 4] (fun sv iv => ∃ k : Nat, k ≤ p.length ∧ iv = .int .i64 k ∧ sv = .int .i64 (totS (p.take k))) (fun _ iv => p.length - (Go.RowKit.intOf iv).toNat)
  case atStart => exact ⟨0, by omega, rfl, rfl⟩
  case round =>
    obtain ⟨k, hk, rfl, rfl⟩ := hrel
    by_cases hlt : k < p.length
    · obtain ⟨x, hx⟩ : ∃ x, p[k]? = some x := ⟨_, List.getElem?_eq_getElem hlt⟩
      obtain ⟨b, o, cs, hal, hb, h8, hrg, hcs⟩ := HL.out.at hx
      subst hal
      rw [hcs.1] at hrg
      have c0 : w.cell? ⟨b, o + k, none⟩ = some (.int .i64 x) := by
        have h7 := hrg 0 _ rfl
        rw [Nat.mul_one, Nat.add_zero] at h7
        exact h7
      have HX : Hid (I64 x) := Lib.hid hcs.2
      have HB := Lib.hid (totS_bd (p.take k))
      have HS := Lib.hid (totS_snoc hx)
      clear hrg hcs h8 hb hx
      generalize totS (p.take k) = s at *
      go_wp2_with fail
      refine (radd_any s x _ HB.out HX.out).mono ?_
      rintro e w2 ⟨rfl, rfl⟩
      go_wp2_with fail
      go_round
      case rel => exact ⟨k + 1, by omega, by go_num, by rw [HS.out]⟩
      case measure => simp [Go.RowKit.intOf]; omega
    · obtain rfl : k = p.length := by omega
      have HE : Hid (totS (p.take p.length) = totS p) := Lib.hid (by rw [List.take_length])
      generalize totS (p.take p.length) = s at *
      go_wp2_with fail
      rw [← HE.out]
      go_ret
      exact ⟨rfl, rfl⟩
end Go.Proofs.YtepidpegoihllaaGreatDoor
/- States that came in. -/
namespace Go.Proofs.YtepidpegoihllaaGreatDoor
open Go.RowKit
theorem und_IP : Tryz.prog.underlying 3 = some (.int .i64) := by kernel_rfl
theorem und_L0P : Tryz.prog.underlying 29 = some (.slice 3) := by kernel_rfl
theorem und_L1P : Tryz.prog.underlying 32 = some (.slice 29) := by kernel_rfl
theorem und_L2P : Tryz.prog.underlying 33 = some (.slice 83) := by kernel_rfl
theorem und_L3P : Tryz.prog.underlying 34 = some (.slice 74) := by kernel_rfl
structure LoadV where
  at_ : Int
  to_ : Int
  part : (List Int)
def RLoad (x : LoadV) (cs : List Value) (w : World) : Prop := ∃ v0 : Value, cs = [.int .i64 x.at_, .int .i64 x.to_, v0] ∧ (-9223372036854775808 ≤ x.at_ ∧ x.at_ ≤ 9223372036854775807) ∧ (-9223372036854775808 ≤ x.to_ ∧ x.to_ ≤ 9223372036854775807) ∧ LArg RInt 1 v0 x.part w
theorem stays_Load : Stays RLoad := fun _ _ _ _ ⟨v0, h0, b0, b1, l0⟩ hb => ⟨v0, h0, b0, b1, l0.below stays_int hb⟩
theorem struct_Load : (match Tryz.prog.underlying 83 with | some (.struct fs) => some (fs.map fun f => (f.type, f.offset)) | _ => none) = some #[(3, 0), (3, 1), (29, 2)] := by kernel_rfl
theorem cells_Load : Tryz.prog.cellsOf 83 = 3 := by kernel_rfl
set_option maxRecDepth 100000 in
theorem Load_of_rd {w : World} (cs : List Value) (h : Rd Tryz.prog w 83 cs) : ∃ x : LoadV, RLoad x cs w := by
  have hl := h.len struct_Load
  rw [cells_Load] at hl
  have h0 := h.field struct_Load (i := 0) (u := 3) (o := 0) (size := 1) rfl (by kernel_rfl)
  have h1 := h.field struct_Load (i := 1) (u := 3) (o := 1) (size := 1) rfl (by kernel_rfl)
  have h2 := h.field struct_Load (i := 2) (u := 29) (o := 2) (size := 1) rfl (by kernel_rfl)
  match cs, hl with
  | [c0, c1, c2], _ =>
    simp only [List.drop_zero, List.drop_succ_cons, List.take_succ_cons, List.take_zero] at h0 h1 h2
    obtain ⟨x0, e0, b0⟩ := rint_of_rd (w := w) und_IP _ h0
    obtain ⟨x1, e1, b1⟩ := rint_of_rd (w := w) und_IP _ h1
    obtain ⟨x2, w2, e2, l2⟩ := rlist_of_rd (w := w) (R := RInt) (size := 1) und_L0P (by kernel_rfl) (by decide) (rint_of_rd und_IP) _ h2
    simp only [List.cons.injEq, and_true] at e0 e1 e2
    exact ⟨⟨x0, x1, x2⟩, w2, by rw [e0, e1, e2], b0, b1, l2⟩
structure StateV where
  hour : Int
  own : (List (List Int))
  rem : (List Int)
  queue : (List LoadV)
  gates : (List GateV)
  inn : (List Int)
  out : (List Int)
def RState (x : StateV) (cs : List Value) (w : World) : Prop := ∃ v0 v1 v2 v3 v4 v5 : Value, cs = [.int .i64 x.hour, v0, v1, v2, v3, v4, v5] ∧ (-9223372036854775808 ≤ x.hour ∧ x.hour ≤ 9223372036854775807) ∧ LArg (RList RInt 1) 1 v0 x.own w ∧ LArg RInt 1 v1 x.rem w ∧ LArg RLoad 3 v2 x.queue w ∧ LArg RGate 4 v3 x.gates w ∧ LArg RInt 1 v4 x.inn w ∧ LArg RInt 1 v5 x.out w
theorem struct_State : (match Tryz.prog.underlying 36 with | some (.struct fs) => some (fs.map fun f => (f.type, f.offset)) | _ => none) = some #[(3, 0), (32, 1), (29, 2), (33, 3), (34, 4), (29, 5), (29, 6)] := by kernel_rfl
theorem cells_State : Tryz.prog.cellsOf 36 = 7 := by kernel_rfl
set_option maxRecDepth 100000 in
theorem State_of_rd {w : World} (cs : List Value) (h : Rd Tryz.prog w 36 cs) : ∃ x : StateV, RState x cs w := by
  have hl := h.len struct_State
  rw [cells_State] at hl
  have h0 := h.field struct_State (i := 0) (u := 3) (o := 0) (size := 1) rfl (by kernel_rfl)
  have h1 := h.field struct_State (i := 1) (u := 32) (o := 1) (size := 1) rfl (by kernel_rfl)
  have h2 := h.field struct_State (i := 2) (u := 29) (o := 2) (size := 1) rfl (by kernel_rfl)
  have h3 := h.field struct_State (i := 3) (u := 33) (o := 3) (size := 1) rfl (by kernel_rfl)
  have h4 := h.field struct_State (i := 4) (u := 34) (o := 4) (size := 1) rfl (by kernel_rfl)
  have h5 := h.field struct_State (i := 5) (u := 29) (o := 5) (size := 1) rfl (by kernel_rfl)
  have h6 := h.field struct_State (i := 6) (u := 29) (o := 6) (size := 1) rfl (by kernel_rfl)
  match cs, hl with
  | [c0, c1, c2, c3, c4, c5, c6], _ =>
    simp only [List.drop_zero, List.drop_succ_cons, List.take_succ_cons, List.take_zero] at h0 h1 h2 h3 h4 h5 h6
    obtain ⟨x0, e0, b0⟩ := rint_of_rd (w := w) und_IP _ h0
    obtain ⟨x1, w1, e1, l1⟩ := rlist_of_rd (w := w) (R := (RList RInt 1)) (size := 1) und_L1P (by kernel_rfl) (by decide) (rlist_of_rd und_L0P (by kernel_rfl) (by decide) (rint_of_rd und_IP)) _ h1
    obtain ⟨x2, w2, e2, l2⟩ := rlist_of_rd (w := w) (R := RInt) (size := 1) und_L0P (by kernel_rfl) (by decide) (rint_of_rd und_IP) _ h2
    obtain ⟨x3, w3, e3, l3⟩ := rlist_of_rd (w := w) (R := RLoad) (size := 3) und_L2P (by kernel_rfl) (by decide) Load_of_rd _ h3
    obtain ⟨x4, w4, e4, l4⟩ := rlist_of_rd (w := w) (R := RGate) (size := 4) und_L3P (by kernel_rfl) (by decide) Gate_of_rd _ h4
    obtain ⟨x5, w5, e5, l5⟩ := rlist_of_rd (w := w) (R := RInt) (size := 1) und_L0P (by kernel_rfl) (by decide) (rint_of_rd und_IP) _ h5
    obtain ⟨x6, w6, e6, l6⟩ := rlist_of_rd (w := w) (R := RInt) (size := 1) und_L0P (by kernel_rfl) (by decide) (rint_of_rd und_IP) _ h6
    simp only [List.cons.injEq, and_true] at e0 e1 e2 e3 e4 e5 e6
    exact ⟨⟨x0, x1, x2, x3, x4, x5, x6⟩, w1, w2, w3, w4, w5, w6, by rw [e0, e1, e2, e3, e4, e5, e6], b0, l1, l2, l3, l4, l5, l6⟩
set_option maxRecDepth 100000 in
theorem arg_State {H : Type} {enc : TypeId × Value → H} {W : World} {base : Nat} {v : Value} {d : DataW H} {ps : List MemPlace} (hval : Value.okWide Tryz.prog W .any base 36 v)
    (h : DataW.Trod enc Tryz.prog W 0 (fun _ => true) true 36 v d ps) : ∃ (x : StateV) (cs : List Value), v = .agg cs.toArray ∧ RState x cs W := by
  have hs := struct_State
  split at hs
  · next fs hu =>
    obtain ⟨cs, rfl, _⟩ := Go.WideShapes.okWide_struct hu hval
    obtain ⟨x, hx⟩ := State_of_rd _ (Rd.of_trod h)
    exact ⟨x, cs.toList, rfl, hx⟩
  · cases hs
end Go.Proofs.YtepidpegoihllaaGreatDoor
/- The stores of the offices are together the litres of a state (plain law). -/
namespace Go.Proofs.YtepidpegoihllaaGreatDoor
/-- the sum of the weights that bear the mark o -/
def foldS (W : List (Int × Int)) (o : Int) : Int := W.foldl (fun s x => if x.2 = o then addS s x.1 else s) 0
def sumO (W : List (Int × Int)) (o : Int) : Int := (W.map fun x => if x.2 = o then x.1 else 0).sum
def sumW (W : List (Int × Int)) : Int := (W.map (·.1)).sum
theorem foldS_snoc {W : List (Int × Int)} {k : Nat} {x : Int × Int} (h : W[k]? = some x) (o : Int) : foldS (W.take (k + 1)) o = if x.2 = o then addS (foldS (W.take k) o) x.1 else foldS (W.take k) o := by
  unfold foldS
  rw [List.take_add_one, h]
  simp
theorem foldS_bd (W : List (Int × Int)) (o : Int) : I64 (foldS W o) := by
  have key : ∀ (W : List (Int × Int)) (a : Int), I64 a → I64 (W.foldl (fun s x => if x.2 = o then addS s x.1 else s) a) := by
    intro W
    induction W with
    | nil => intro a h; exact h
    | cons x W ih =>
      intro a h
      rw [List.foldl_cons]
      refine ih _ ?_
      split
      · exact addS_bd _ _
      · exact h
  exact key W 0 ⟨by decide, by decide⟩
theorem foldS_from (o : Int) : ∀ (W : List (Int × Int)) (a : Int), 0 ≤ a → (∀ x ∈ W, 0 ≤ x.1) → a + sumW W ≤ 1125899906842624 → W.foldl (fun s x => if x.2 = o then addS s x.1 else s) a = a + sumO W o
  | [], a, _, _, _ => by simp [sumO]
  | x :: W, a, ha, h, hs => by
    have hx := h x (by simp)
    have hW : ∀ y ∈ W, 0 ≤ y.1 := fun y hy => h y (by simp [hy])
    have hp : 0 ≤ sumW W := by
      have : ∀ (q : List (Int × Int)), (∀ y ∈ q, 0 ≤ y.1) → 0 ≤ sumW q := by
        intro q
        induction q with
        | nil => intro _; simp [sumW]
        | cons y q ih =>
          intro hq
          have h1 := hq y (by simp)
          have h2 := ih (fun z hz => hq z (by simp [hz]))
          unfold sumW at h2 ⊢
          rw [List.map_cons, List.sum_cons]
          omega
      exact this W hW
    have e1 : sumW (x :: W) = x.1 + sumW W := by unfold sumW; rw [List.map_cons, List.sum_cons]
    have e2 : sumO (x :: W) o = (if x.2 = o then x.1 else 0) + sumO W o := by unfold sumO; rw [List.map_cons, List.sum_cons]
    rw [e1] at hs
    rw [List.foldl_cons, e2]
    by_cases ho : x.2 = o
    · rw [if_pos ho, if_pos ho, addS_in (by omega) (by omega), foldS_from o W (a + x.1) (by omega) hW (by omega)]
      omega
    · rw [if_neg ho, if_neg ho, foldS_from o W a ha hW (by omega)]
      omega
theorem foldS_sum {W : List (Int × Int)} (o : Int) (h : ∀ x ∈ W, 0 ≤ x.1) (hs : sumW W ≤ 1125899906842624) : foldS W o = sumO W o := by
  unfold foldS
  rw [foldS_from o W 0 (by decide) h (by omega)]
  omega
theorem sumW_nonneg {W : List (Int × Int)} (h : ∀ x ∈ W, 0 ≤ x.1) : 0 ≤ sumW W := by
  induction W with
  | nil => simp [sumW]
  | cons y q ih =>
    have h1 := h y (by simp)
    have h2 := ih (fun z hz => h z (by simp [hz]))
    unfold sumW at h2 ⊢
    rw [List.map_cons, List.sum_cons]
    omega
theorem sumO_bd {W : List (Int × Int)} (o : Int) (h : ∀ x ∈ W, 0 ≤ x.1) : 0 ≤ sumO W o ∧ sumO W o ≤ sumW W := by
  induction W with
  | nil => simp [sumO, sumW]
  | cons y q ih =>
    have h1 := h y (by simp)
    have h2 := ih (fun z hz => h z (by simp [hz]))
    unfold sumO sumW at h2 ⊢
    rw [List.map_cons, List.sum_cons, List.map_cons, List.sum_cons]
    split <;> omega
theorem sumO_three {W : List (Int × Int)} (h : ∀ x ∈ W, 0 ≤ x.2 ∧ x.2 < 3) : sumO W 0 + sumO W 1 + sumO W 2 = sumW W ∧ sumO W 3 = 0 := by
  induction W with
  | nil => simp [sumO, sumW]
  | cons y q ih =>
    have h1 := h y (by simp)
    have h2 := ih (fun z hz => h z (by simp [hz]))
    unfold sumO sumW at h2 ⊢
    simp only [List.map_cons, List.sum_cons]
    have : y.2 = 0 ∨ y.2 = 1 ∨ y.2 = 2 := by omega
    rcases this with e | e | e <;> rw [e] <;> simp <;> omega
/-- the weights of the places' own water -/
def ownW (O : List Int) (own : List (List Int)) : List (Int × Int) := (own.zip O).map fun x => (totS x.1, x.2)
/-- the weights of the queue -/
def queW (O : List Int) (q : List LoadV) : List (Int × Int) := q.map fun l => (totS l.part, if 0 ≤ l.to_ then (O[l.to_.toNat]?).getD (-1) else -1)
/-- what claim.Make writes as the store of an office -/
def storeS (O : List Int) (own : List (List Int)) (q : List LoadV) (o : Int) : Int := addS (foldS (ownW O own) o) (foldS (queW O q) o)
/-- the litres of each owner -/
def ownerS (parts : List (List Int)) (i : Nat) : Int := parts.foldl (fun s p => addS s (p.getD i 0)) 0
def totalS (n : Nat) (parts : List (List Int)) : List Int := (List.range n).map (ownerS parts)
/-- what step.Right gives -/
structure RightS (n : Nat) (O : List Int) (own : List (List Int)) (q : List LoadV) : Prop where
  len : own.length = O.length
  hown : ∀ p ∈ own, p.length = n ∧ ∀ x ∈ p, 0 ≤ x
  que : ∀ l ∈ q, (0 ≤ l.to_ ∧ l.to_ < O.length) ∧ l.part.length = n ∧ ∀ x ∈ l.part, 0 ≤ x
  sum : ((own ++ q.map (fun l : LoadV => l.part)).map List.sum).sum ≤ 1125899906842624
theorem sum_nonneg {p : List Int} (h : ∀ x ∈ p, 0 ≤ x) : 0 ≤ p.sum := by
  induction p with
  | nil => simp
  | cons x p ih =>
    have := h x (by simp)
    have := ih (fun y hy => h y (by simp [hy]))
    rw [List.sum_cons]
    omega
theorem sums_nonneg {ps : List (List Int)} (h : ∀ p ∈ ps, ∀ x ∈ p, 0 ≤ x) : 0 ≤ (ps.map List.sum).sum := by
  refine sum_nonneg fun x hx => ?_
  obtain ⟨p, hp, rfl⟩ := List.mem_map.1 hx
  exact sum_nonneg (h p hp)
theorem sums_le {ps : List (List Int)} (h : ∀ p ∈ ps, ∀ x ∈ p, 0 ≤ x) {p : List Int} (hp : p ∈ ps) : p.sum ≤ (ps.map List.sum).sum := by
  induction ps with
  | nil => simp at hp
  | cons r ps ih =>
    have h1 := sum_nonneg (h r (by simp))
    have h2 := sums_nonneg (fun q hq => h q (by simp [hq]) : ∀ q ∈ ps, ∀ x ∈ q, 0 ≤ x)
    rw [List.map_cons, List.sum_cons]
    rcases List.mem_cons.1 hp with rfl | hp
    · omega
    · have := ih (fun q hq => h q (by simp [hq])) hp
      omega
theorem totS_is {p : List Int} (h : ∀ x ∈ p, 0 ≤ x) (hs : p.sum ≤ 1125899906842624) : totS p = p.sum := by
  unfold totS
  rw [totS_sum p 0 (by decide) h (by omega)]
  omega
theorem ownerS_from (i : Nat) : ∀ (ps : List (List Int)) (a : Int), 0 ≤ a → (∀ p ∈ ps, ∀ x ∈ p, 0 ≤ x) → a + (ps.map List.sum).sum ≤ 1125899906842624 → ps.foldl (fun s p => addS s (p.getD i 0)) a = a + (ps.map fun p => p.getD i 0).sum
  | [], a, _, _, _ => by simp
  | p :: ps, a, ha, h, hs => by
    have hp := h p (by simp)
    have hps : ∀ q ∈ ps, ∀ x ∈ q, 0 ≤ x := fun q hq => h q (by simp [hq])
    have h1 := sums_nonneg hps
    have h2 : 0 ≤ p.getD i 0 ∧ p.getD i 0 ≤ p.sum := by
      have : ∀ (q : List Int) (i : Nat), (∀ x ∈ q, 0 ≤ x) → 0 ≤ q.getD i 0 ∧ q.getD i 0 ≤ q.sum := by
        intro q
        induction q with
        | nil => intro i _; simp
        | cons x q ih =>
          intro i hq
          have hx := hq x (by simp)
          have hq' : ∀ y ∈ q, 0 ≤ y := fun y hy => hq y (by simp [hy])
          have hn := sum_nonneg hq'
          rw [List.sum_cons]
          cases i with
          | zero => simp only [List.getD_cons_zero]; omega
          | succ i => simp only [List.getD_cons_succ]; have := ih i hq'; omega
      exact this p i hp
    rw [List.map_cons, List.sum_cons] at hs
    rw [List.foldl_cons, List.map_cons, List.sum_cons, addS_in (by omega) (by omega), ownerS_from i ps (a + p.getD i 0) (by omega) hps (by omega)]
    omega
theorem sum_map_add {α : Type} (f g : α → Int) (l : List α) : (l.map fun x => f x + g x).sum = (l.map f).sum + (l.map g).sum := by
  induction l with
  | nil => simp
  | cons x l ih =>
    simp only [List.map_cons, List.sum_cons, ih]
    omega
theorem range_getD : ∀ (p : List Int), ((List.range p.length).map fun i => p.getD i 0).sum = p.sum
  | [] => by simp
  | x :: p => by
    rw [List.length_cons, List.range_succ_eq_map, List.map_cons, List.sum_cons, List.map_map, List.sum_cons]
    have := range_getD p
    simp only [List.getD_cons_zero, Function.comp_def, List.getD_cons_succ]
    omega
theorem sum_exchange (n : Nat) : ∀ (ps : List (List Int)), (∀ p ∈ ps, p.length = n) → ((List.range n).map fun i => (ps.map fun p => p.getD i 0).sum).sum = (ps.map List.sum).sum
  | [], _ => by
    simp only [List.map_nil, List.sum_nil]
    have key : ∀ m : Nat, ((List.range m).map fun _ => (0 : Int)).sum = 0 := by
      intro m
      induction m with
      | zero => simp
      | succ m ih => rw [List.range_succ, List.map_append, List.sum_append, ih]; simp
    exact key n
  | p :: ps, h => by
    have e : (fun i => ((p :: ps).map fun p => p.getD i 0).sum) = fun i => p.getD i 0 + (ps.map fun p => p.getD i 0).sum := by
      funext i
      rw [List.map_cons, List.sum_cons]
    rw [e, sum_map_add, sum_exchange n ps (fun q hq => h q (by simp [hq])), List.map_cons, List.sum_cons]
    have hp := h p (by simp)
    have := range_getD p
    rw [hp] at this
    omega
/-- the litres of all owners are the litres of all parts -/
theorem totalS_sum {n : Nat} {ps : List (List Int)} (h1 : ∀ p ∈ ps, p.length = n) (h2 : ∀ p ∈ ps, ∀ x ∈ p, 0 ≤ x) (hs : (ps.map List.sum).sum ≤ 1125899906842624) : (totalS n ps).sum = (ps.map List.sum).sum := by
  rw [← sum_exchange n ps h1]
  unfold totalS
  congr 1
  apply List.map_congr_left
  intro i _
  unfold ownerS
  rw [ownerS_from i ps 0 (by decide) h2 (by omega)]
  omega
theorem RightS.parts {n : Nat} {O : List Int} {own : List (List Int)} {q : List LoadV} (h : RightS n O own q) : ∀ p ∈ own ++ q.map (fun l : LoadV => l.part), p.length = n ∧ ∀ x ∈ p, 0 ≤ x := fun p hp => by
  rcases List.mem_append.1 hp with hp | hp
  · exact h.hown p hp
  · obtain ⟨l, hl, rfl⟩ := List.mem_map.1 hp
    exact (h.que l hl).2
theorem ownW_sum : ∀ {own : List (List Int)} {O : List Int}, own.length = O.length → (∀ p ∈ own, totS p = p.sum) → sumW (ownW O own) = (own.map List.sum).sum
  | [], [], _, _ => by simp [sumW, ownW]
  | p :: own, o :: O, h, ht => by
    have ih := ownW_sum (own := own) (O := O) (by simpa using h) (fun r hr => ht r (by simp [hr]))
    unfold sumW ownW at ih ⊢
    rw [List.zip_cons_cons, List.map_cons, List.map_cons, List.sum_cons, List.map_cons, List.sum_cons, ih, ht p (by simp)]
  | [], _ :: _, h, _ => by simp at h
  | _ :: _, [], h, _ => by simp at h
theorem stores_law {n : Nat} {O : List Int} {own : List (List Int)} {q : List LoadV} (h : RightS n O own q) (hO : ∀ o ∈ O, 0 ≤ o ∧ o < 3) :
    storeS O own q 0 + storeS O own q 1 + storeS O own q 2 = (totalS n (own ++ q.map (fun l : LoadV => l.part))).sum ∧ storeS O own q 3 = 0 ∧ (∀ o, 0 ≤ storeS O own q o ∧ storeS O own q o ≤ 1125899906842624) := by
  have hp := h.parts
  have hs := h.sum
  have hl : ∀ p ∈ own ++ q.map (fun l : LoadV => l.part), totS p = p.sum := fun p hp' => totS_is (hp p hp').2 (Int.le_trans (sums_le (fun r hr => (hp r hr).2) hp') hs)
  have e1 := ownW_sum (O := O) h.len (fun p hp' => hl p (List.mem_append_left _ hp'))
  have e2 : sumW (queW O q) = ((q.map (fun l : LoadV => l.part)).map List.sum).sum := by
    unfold sumW queW
    rw [List.map_map, List.map_map]
    congr 1
    apply List.map_congr_left
    intro l hl'
    exact hl _ (List.mem_append_right _ (List.mem_map.2 ⟨l, hl', rfl⟩))
  have e3 : ((own ++ q.map (fun l : LoadV => l.part)).map List.sum).sum = (own.map List.sum).sum + ((q.map (fun l : LoadV => l.part)).map List.sum).sum := by rw [List.map_append, List.sum_append]
  have n1 : ∀ x ∈ ownW O own, 0 ≤ x.1 := fun x hx => by
    unfold ownW at hx
    obtain ⟨y, hy, rfl⟩ := List.mem_map.1 hx
    have hm := (List.of_mem_zip hy).1
    show 0 ≤ totS y.1
    rw [hl _ (List.mem_append_left _ hm)]
    exact sum_nonneg (h.hown _ hm).2
  have n2 : ∀ x ∈ queW O q, 0 ≤ x.1 := fun x hx => by
    unfold queW at hx
    obtain ⟨l, hl', rfl⟩ := List.mem_map.1 hx
    show 0 ≤ totS l.part
    rw [hl _ (List.mem_append_right _ (List.mem_map.2 ⟨l, hl', rfl⟩))]
    exact sum_nonneg (h.que l hl').2.2
  have o1 : ∀ x ∈ ownW O own, 0 ≤ x.2 ∧ x.2 < 3 := fun x hx => by
    unfold ownW at hx
    obtain ⟨y, hy, rfl⟩ := List.mem_map.1 hx
    exact hO _ (List.of_mem_zip hy).2
  have o2 : ∀ x ∈ queW O q, 0 ≤ x.2 ∧ x.2 < 3 := fun x hx => by
    unfold queW at hx
    obtain ⟨l, hl', rfl⟩ := List.mem_map.1 hx
    obtain ⟨⟨g1, g2⟩, -⟩ := h.que l hl'
    obtain ⟨o, ho⟩ : ∃ o, O[l.to_.toNat]? = some o := ⟨_, List.getElem?_eq_getElem (by omega)⟩
    show 0 ≤ (if 0 ≤ l.to_ then (O[l.to_.toNat]?).getD (-1) else -1) ∧ (if 0 ≤ l.to_ then (O[l.to_.toNat]?).getD (-1) else -1) < 3
    rw [if_pos g1, ho]
    exact hO o (List.mem_of_getElem? ho)
  have p1 := sumW_nonneg n1
  have p2 := sumW_nonneg n2
  have b1 : sumW (ownW O own) ≤ 1125899906842624 := by omega
  have b2 : sumW (queW O q) ≤ 1125899906842624 := by omega
  have st : ∀ o, storeS O own q o = sumO (ownW O own) o + sumO (queW O q) o := fun o => by
    unfold storeS
    rw [foldS_sum o n1 b1, foldS_sum o n2 b2]
    have q1 := sumO_bd o n1
    have q2 := sumO_bd o n2
    exact addS_in (by omega) (by omega)
  have t1 := sumO_three o1
  have t2 := sumO_three o2
  have ts := totalS_sum (n := n) (fun p hp' => (hp p hp').1) (fun p hp' => (hp p hp').2) hs
  refine ⟨?_, ?_, fun o => ?_⟩
  · rw [st, st, st, ts]
    omega
  · rw [st]
    omega
  · rw [st]
    have q1 := sumO_bd o n1
    have q2 := sumO_bd o n2
    omega
end Go.Proofs.YtepidpegoihllaaGreatDoor
