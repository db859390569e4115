/- Texts merged: UScale VRight VShelf -/
import Derived.Outline
import Derived.Test.YtepidpegoihllaaGreatDoorUExact
import Derived.Test.YtepidpegoihllaaGreatDoorSDiv
import Derived.Deep.LoopGhost
import Derived.BigQuiet
import Derived.Deep.QuietTactic
import Derived.Test.YtepidpegoihllaaGreatDoorLoad
import Derived.Test.YtepidpegoihllaaGreatDoorUOpen
import Derived.Shelf.SlSorted.Search
import Derived.Test.YtepidpegoihllaaGreatDoorProg
/- exact.Scale and gate.part. -/
namespace Go.Proofs.YtepidpegoihllaaGreatDoor
open Go.RowKit
def ScalePost (a n d : Int) (w : World) (e : Ending) (w' : World) : Prop :=
  e = .returned (.tuple #[.int .i64 (scaleQ a n d), .int .i64 (scaleM a n d), .bool (scaleOk a n d)]) ∧ ∃ m, w' = w.drewN m
theorem scale_no {a n d : Int} {w : World} {m : Nat} (h : ¬ scaleOk a n d = true) : ScalePost a n d w (.returned (.tuple #[.int .i64 0, .int .i64 0, .bool false])) (w.drewN m) := by
  have h' : scaleOk a n d = false := by simpa using h
  unfold ScalePost scaleQ scaleM
  rw [h']
  exact ⟨rfl, m, rfl⟩
theorem scale_no0 {a n d : Int} {w : World} (h : ¬ scaleOk a n d = true) : ScalePost a n d w (.returned (.tuple #[.int .i64 0, .int .i64 0, .bool false])) w := scale_no (m := 0) h
theorem scale_yes {a n d : Int} {q r : Nat} {w : World} {m : Nat} (h : scaleOk a n d = true) (hq : (q : Int) = a * n / d) (hr : (r : Int) = a * n % d) : ScalePost a n d w (.returned (.tuple #[.int .i64 q, .int .i64 r, .bool true])) (w.drewN m) := by
  unfold ScalePost scaleQ scaleM
  rw [if_pos h, if_pos h, hq, hr, h]
  exact ⟨rfl, m, rfl⟩
set_option maxRecDepth 100000 in
set_option maxHeartbeats 2000000 in
theorem scale_out (a n d : Int) (w : World) (h : ¬ (0 ≤ a ∧ a ≤ 1125899906842624 ∧ 0 ≤ n ∧ n ≤ 1125899906842624 ∧ 1 ≤ d ∧ d ≤ 1125899906842624)) :
    Calls Tryz.prog 118 #[.int .i64 a, .int .i64 n, .int .i64 d] w (ScalePost a n d w) := by
  have H0 : Hid (¬ scaleOk a n d = true) := Lib.hid fun k => h (by have := scaleOk_iff.1 k; omega)
  by_cases h1 : a < 0
  · clear h
    go_enter Tryz.func118, Tryz.ntmps118
    go_wp2
    exact bodyPost_ret (v := .tuple #[.int .i64 0, .int .i64 0, .bool false]) (by simp [results, Tryz.results118, go_sem]) rfl (scale_no0 H0.out)
  · by_cases h2 : 1125899906842624 < a
    · clear h
      go_enter Tryz.func118, Tryz.ntmps118
      go_wp2
      exact bodyPost_ret (v := .tuple #[.int .i64 0, .int .i64 0, .bool false]) (by simp [results, Tryz.results118, go_sem]) rfl (scale_no0 H0.out)
    · by_cases h3 : n < 0
      · clear h
        go_enter Tryz.func118, Tryz.ntmps118
        go_wp2
        exact bodyPost_ret (v := .tuple #[.int .i64 0, .int .i64 0, .bool false]) (by simp [results, Tryz.results118, go_sem]) rfl (scale_no0 H0.out)
      · by_cases h4 : 1125899906842624 < n
        · clear h
          go_enter Tryz.func118, Tryz.ntmps118
          go_wp2
          exact bodyPost_ret (v := .tuple #[.int .i64 0, .int .i64 0, .bool false]) (by simp [results, Tryz.results118, go_sem]) rfl (scale_no0 H0.out)
        · by_cases h5 : d < 1
          · clear h
            go_enter Tryz.func118, Tryz.ntmps118
            go_wp2
            exact bodyPost_ret (v := .tuple #[.int .i64 0, .int .i64 0, .bool false]) (by simp [results, Tryz.results118, go_sem]) rfl (scale_no0 H0.out)
          · have h6 : 1125899906842624 < d := by omega
            clear h
            go_enter Tryz.func118, Tryz.ntmps118
            go_wp2
            exact bodyPost_ret (v := .tuple #[.int .i64 0, .int .i64 0, .bool false]) (by simp [results, Tryz.results118, go_sem]) rfl (scale_no0 H0.out)
set_option maxRecDepth 100000 in
set_option maxHeartbeats 2000000 in
theorem scale_in (a n d : Nat) (w : World) (ha : a ≤ 1125899906842624) (hn : n ≤ 1125899906842624) (hd0 : 1 ≤ d) (hd : d ≤ 1125899906842624) :
    Calls Tryz.prog 118 #[.int .i64 a, .int .i64 n, .int .i64 d] w (ScalePost a n d w) := by
  obtain ⟨h, hh⟩ : ∃ h, h = a * n / 18446744073709551616 := ⟨_, rfl⟩
  obtain ⟨l, hl⟩ : ∃ l, l = a * n % 18446744073709551616 := ⟨_, rfl⟩
  have hlb : l < 18446744073709551616 := by rw [hl]; exact Nat.mod_lt _ (by decide)
  have hp : a * n = h * 18446744073709551616 + l := by rw [hh, hl, Nat.div_add_mod']
  have HH := Lib.hid hh
  have HL := Lib.hid hl
  have HLB := Lib.hid hlb
  have e1 : ∀ x : Nat, x ≤ 1125899906842624 → IntKind.u64.wrap (x : Int) = (x : Int) := fun x hx => IntWalk.u64_in _ (by omega)
  have W1 := e1 a ha
  have W2 := e1 n hn
  have W3 := e1 d hd
  clear hh hl e1 hlb
  by_cases hhi : h < d
  · obtain ⟨q, hq⟩ : ∃ q, q = (h * 18446744073709551616 + l) / d := ⟨_, rfl⟩
    obtain ⟨r, hr⟩ : ∃ r, r = (h * 18446744073709551616 + l) % d := ⟨_, rfl⟩
    have HQ := Lib.hid hq
    have HR := Lib.hid hr
    have hrd : r < d := by rw [hr]; exact Nat.mod_lt _ hd0
    have HP := Lib.hid hp
    have t1 : ¬ (d : Int) ≤ (h : Int) := by omega
    clear hp hq hr
    by_cases hqm : q ≤ 1125899906842624
    · have W4 : IntKind.i64.wrap (q : Int) = (q : Int) := IntWalk.i64_in _ (by omega)
      have W5 : IntKind.i64.wrap (r : Int) = (r : Int) := IntWalk.i64_in _ (by omega)
      have t2 : ¬ (1125899906842624 : Int) < (q : Int) := by omega
      have G1 : Hid ((q : Int) = (a : Int) * n / d) := Lib.hid (by rw [← Int.natCast_mul, HP.out, ← Int.natCast_ediv, ← HQ.out])
      have G2 : Hid ((r : Int) = (a : Int) * n % d) := Lib.hid (by rw [← Int.natCast_mul, HP.out, ← Int.natCast_emod, ← HR.out])
      have G3 : Hid (scaleOk a n d = true) := Lib.hid (scaleOk_iff.2 ⟨by omega, by omega, by omega, by omega, by omega, by omega, by rw [← G1.out]; omega⟩)
      go_enter Tryz.func118, Tryz.ntmps118
      go_wp2_with fail
      refine (Tryz.bits_Mul64 a n (by omega) (by omega) _).mono ?_
      rintro e w1 ⟨rfl, rfl⟩
      rw [← HH.out, ← HL.out]
      go_wp2_with fail
      refine (div64_any h l d _ hhi (by omega) HLB.out).mono ?_
      rintro e w2 ⟨rfl, m, rfl⟩
      rw [← HQ.out, ← HR.out]
      go_wp2_with fail
      exact bodyPost_ret (v := .tuple #[.int .i64 q, .int .i64 r, .bool true]) (by simp [results, Tryz.results118, go_sem]) rfl (scale_yes G3.out G1.out G2.out)
    · have t2 : (1125899906842624 : Int) < (q : Int) := by omega
      have G3 : Hid (¬ scaleOk a n d = true) := Lib.hid fun k => by
        have k2 := (scaleOk_iff.1 k).2.2.2.2.2.2
        rw [← Int.natCast_mul, HP.out, ← Int.natCast_ediv, ← HQ.out] at k2
        omega
      go_enter Tryz.func118, Tryz.ntmps118
      go_wp2_with fail
      refine (Tryz.bits_Mul64 a n (by omega) (by omega) _).mono ?_
      rintro e w1 ⟨rfl, rfl⟩
      rw [← HH.out, ← HL.out]
      go_wp2_with fail
      refine (div64_any h l d _ hhi (by omega) HLB.out).mono ?_
      rintro e w2 ⟨rfl, m, rfl⟩
      rw [← HQ.out, ← HR.out]
      go_wp2_with fail
      exact bodyPost_ret (v := .tuple #[.int .i64 0, .int .i64 0, .bool false]) (by simp [results, Tryz.results118, go_sem]) rfl (scale_no G3.out)
  · have t1 : (d : Int) ≤ (h : Int) := by omega
    have G3 : Hid (¬ scaleOk a n d = true) := Lib.hid fun k => by
      have k2 := (scaleOk_iff.1 k).2.2.2.2.2.2
      rw [← Int.natCast_mul, hp, ← Int.natCast_ediv] at k2
      have k3 := Nat.div_le_div_right (c := d) (show d * 18446744073709551616 ≤ h * 18446744073709551616 + l by omega)
      rw [Nat.mul_div_cancel_left _ hd0] at k3
      omega
    clear hp
    go_enter Tryz.func118, Tryz.ntmps118
    go_wp2_with fail
    refine (Tryz.bits_Mul64 a n (by omega) (by omega) _).mono ?_
    rintro e w1 ⟨rfl, rfl⟩
    rw [← HH.out, ← HL.out]
    go_wp2_with fail
    exact bodyPost_ret (v := .tuple #[.int .i64 0, .int .i64 0, .bool false]) (by simp [results, Tryz.results118, go_sem]) rfl (scale_no0 G3.out)
theorem scale_any (a n d : Int) (w : World) : Calls Tryz.prog 118 #[.int .i64 a, .int .i64 n, .int .i64 d] w (ScalePost a n d w) := by
  by_cases h : 0 ≤ a ∧ a ≤ 1125899906842624 ∧ 0 ≤ n ∧ n ≤ 1125899906842624 ∧ 1 ≤ d ∧ d ≤ 1125899906842624
  · obtain ⟨h1, h2, h3, h4, h5, h6⟩ := h
    obtain ⟨x, rfl⟩ := Int.eq_ofNat_of_zero_le h1
    obtain ⟨y, rfl⟩ := Int.eq_ofNat_of_zero_le h3
    obtain ⟨z, rfl⟩ := Int.eq_ofNat_of_zero_le (show 0 ≤ d by omega)
    exact scale_in x y z w (by omega) (by omega) (by omega) (by omega)
  · exact scale_out a n d w h
end Go.Proofs.YtepidpegoihllaaGreatDoor
/- curve.Right. -/
namespace Go.Proofs.YtepidpegoihllaaGreatDoor
open Go.RowKit
def RetB (b : Bool) (w : World) (e : Ending) (w' : World) : Prop := e = .returned (.bool b) ∧ Below w.heap.size w w'
theorem retB_mk {b c : Bool} {w w' : World} (h : b = c) (hb : Below w.heap.size w w') : RetB b w (.returned (.bool c)) w' := ⟨by rw [h], hb⟩
theorem rightC_len {l : List PointV} (h : l.length < 1 ∨ 32 < l.length) : rightC l = false := by
  cases hr : rightC l with
  | false => rfl
  | true => have := rightC_at hr; omega
theorem rightC_no {l : List PointV} {k : Nat} (hk : k < l.length) (h : okAt l k = false) : rightC l = false := by
  cases hr : rightC l with
  | false => rfl
  | true => have := (rightC_at hr).2.2 k hk; rw [h] at this; cases this
theorem okAt_bad {l : List PointV} {k : Nat} {p : PointV} (hp : l[k]? = some p) (h : p.x < 0 ∨ 1125899906842624 < p.x ∨ p.y < 0 ∨ 1125899906842624 < p.y) : okAt l k = false := by
  cases hr : okAt l k with
  | false => rfl
  | true => have := okAt_pt hp hr; omega
theorem okAt_worse {l : List PointV} {k : Nat} {p q : PointV} (hq : l[k]? = some q) (hp : l[k + 1]? = some p) (h : p.x ≤ q.x ∨ p.y < q.y) : okAt l (k + 1) = false := by
  cases hr : okAt l (k + 1) with
  | false => rfl
  | true => have := okAt_step hq hp hr; omega
theorem okAt_zero {l : List PointV} {p : PointV} (hp : l[0]? = some p) (h : 0 ≤ p.x ∧ p.x ≤ 1125899906842624 ∧ 0 ≤ p.y ∧ p.y ≤ 1125899906842624) : okAt l 0 = true := by
  simp [okAt, okPt, hp]
  omega
theorem okAt_next {l : List PointV} {k : Nat} {p q : PointV} (hq : l[k]? = some q) (hp : l[k + 1]? = some p) (h : 0 ≤ p.x ∧ p.x ≤ 1125899906842624 ∧ 0 ≤ p.y ∧ p.y ≤ 1125899906842624) (h1 : q.x < p.x) (h2 : q.y ≤ p.y) : okAt l (k + 1) = true := by
  unfold okAt okPt
  rw [hp]
  simp only [Nat.add_sub_cancel, hq]
  rw [if_neg (by omega)]
  simp only [Bool.and_eq_true, decide_eq_true_eq]
  omega
theorem okAt_succ {l : List PointV} {k : Nat} (h : ∀ j, j < k → okAt l j = true) (h1 : okAt l k = true) : ∀ j, j < k + 1 → okAt l j = true := fun j hj => by
  rcases Nat.lt_or_eq_of_le (show j ≤ k by omega) with h2 | rfl
  · exact h j h2
  · exact h1
set_option maxRecDepth 100000 in
set_option maxHeartbeats 4000000 in
theorem right_anyG (l : List PointV) (v : Value) (w : World) (hL : LArg RPoint 2 v l w) : Calls Tryz.prog 61 #[v] w (RetB (rightC l) w) := by
  obtain ⟨a, c, rfl, hc, hm⟩ := hL.slice
  unfold maxLen at hm
  have HL := Lib.hid hL
  clear hL
  by_cases h1 : l.length < 1
  · have HE := Lib.hid (rightC_len (Or.inl h1))
    go_enter Tryz.func61, Tryz.ntmps61
    go_wp2_with fail
    go_ret
    exact retB_mk HE.out (Below.refl _ _)
  · by_cases h2 : 32 < l.length
    · have HE := Lib.hid (rightC_len (Or.inr h2))
      go_enter Tryz.func61, Tryz.ntmps61
      go_wp2_with fail
      go_ret
      exact retB_mk HE.out (Below.refl _ _)
    · go_enter Tryz.func61, Tryz.ntmps61
      go_wp2_with fail
      go_loopw [15] (fun iv wr => ∃ k : Nat, k ≤ l.length ∧ iv = .int .i64 k ∧ (∀ j, j < k → okAt l j = true) ∧ Below w.heap.size w wr) (fun iv _ => l.length - (Go.RowKit.intOf iv).toNat)
      case atStart => exact ⟨0, Nat.zero_le _, rfl, (fun j hj => by omega), Below.refl _ _⟩
      case round =>
        obtain ⟨k, hk, rfl, hok, hb⟩ := hrel
        have HOK := Lib.hid hok
        have HB := Lib.hid hb
        clear hok hb
        by_cases hlt : k < l.length
        · obtain ⟨p, hp⟩ : ∃ p, l[k]? = some p := ⟨_, List.getElem?_eq_getElem hlt⟩
          obtain ⟨b, o, cs, ha, hbl, _, hrg, hcs⟩ := (HL.out.below stays_Point HB.out).at hp
          subst ha
          obtain ⟨rfl, hpx, hpy⟩ := hcs
          have c0 : wr.cell? ⟨b, o + k * 2, none⟩ = some (.int .i64 p.x) := hrg 0 _ rfl
          have c1 : wr.cell? ⟨b, o + k * 2 + 1, none⟩ = some (.int .i64 p.y) := hrg 1 _ rfl
          have HP := Lib.hid hp
          have HB1 := Lib.hid (HB.out.alloc HB.out.size (.cells #[.int .i64 p.x, .int .i64 p.y] 151))
          clear hrg hp
          by_cases hok : 0 ≤ p.x ∧ p.x ≤ 1125899906842624 ∧ 0 ≤ p.y ∧ p.y ≤ 1125899906842624
          · rcases k with _ | k
            · have HN := Lib.hid (okAt_succ HOK.out (okAt_zero HP.out hok))
              obtain ⟨o1, o2, o3, o4⟩ := hok
              rw [Nat.zero_mul, Nat.add_zero] at c0 c1
              go_wp2_with fail
              go_quiet (fail)
              go_wp2_with fail
              go_roundw
              case rel => exact ⟨1, by omega, rfl, HN.out, below_drewN HB1.out⟩
              case measure => simp [Go.RowKit.intOf]; omega
            · obtain ⟨o1, o2, o3, o4⟩ := hok
              obtain ⟨q, hq⟩ : ∃ p, l[k]? = some p := ⟨_, List.getElem?_eq_getElem (by omega)⟩
              obtain ⟨b2, o2', cs2, ha2, _, _, hrg2, hcs2⟩ := (HL.out.below stays_Point HB.out).at hq
              simp only [Option.some.injEq, Addr.mk.injEq, and_true] at ha2
              obtain ⟨rfl, rfl⟩ := ha2
              obtain ⟨rfl, -, -⟩ := hcs2
              have d0 : wr.cell? ⟨b, o + k * 2, none⟩ = some (.int .i64 q.x) := hrg2 0 _ rfl
              have d1 : wr.cell? ⟨b, o + k * 2 + 1, none⟩ = some (.int .i64 q.y) := hrg2 1 _ rfl
              have HQ := Lib.hid hq
              clear hrg2 hq
              have K1 : ((k + 1 : Nat) : Int) - 1 = (k : Int) := by omega
              have K4 : ¬ ((k : Int) < 0) := by omega
              have K5 : (0 : Int) ≤ (k : Int) := by omega
              have K6 : k < l.length := by omega
              have K3 : IntKind.i64.wrap (k : Int) = (k : Int) := IntWalk.i64_in _ (by omega)
              have K2 : (0 : Int) < ((k + 1 : Nat) : Int) := by omega
              by_cases g1 : p.x ≤ q.x
              · have HE : Hid (rightC l = false) := Lib.hid (rightC_no hlt (okAt_worse HQ.out HP.out (Or.inl g1)))
                go_wp2_with fail
                go_quiet (fail)
                go_wp2_with fail
                go_ret
                exact retB_mk HE.out (below_drewN HB1.out)
              · by_cases g2 : p.y < q.y
                · have HE : Hid (rightC l = false) := Lib.hid (rightC_no hlt (okAt_worse HQ.out HP.out (Or.inr g2)))
                  go_wp2_with fail
                  go_quiet (fail)
                  go_wp2_with fail
                  go_ret
                  exact retB_mk HE.out (below_drewN HB1.out)
                · have HN := Lib.hid (okAt_succ HOK.out (okAt_next HQ.out HP.out ⟨o1, o2, o3, o4⟩ (by omega) (by omega)))
                  go_wp2_with fail
                  go_quiet (fail)
                  go_wp2_with fail
                  go_roundw
                  case rel => exact ⟨k + 1 + 1, by omega, by go_num, HN.out, below_drewN HB1.out⟩
                  case measure => simp [Go.RowKit.intOf]; omega
          · have HE : Hid (rightC l = false) := Lib.hid (rightC_no hlt (okAt_bad HP.out (by omega)))
            have hbad : p.x < 0 ∨ (0 ≤ p.x ∧ 1125899906842624 < p.x) ∨ (0 ≤ p.x ∧ p.x ≤ 1125899906842624 ∧ p.y < 0) ∨ (0 ≤ p.x ∧ p.x ≤ 1125899906842624 ∧ 0 ≤ p.y ∧ 1125899906842624 < p.y) := by omega
            clear hok
            rcases hbad with g1 | ⟨g1, g2⟩ | ⟨g1, g2, g3⟩ | ⟨g1, g2, g3, g4⟩
            all_goals
              go_wp2_with fail
              go_ret
              exact retB_mk HE.out HB1.out
        · have HE : Hid (rightC l = true) := Lib.hid (rightC_mk (by omega) (by omega) fun i hi => HOK.out i (by omega))
          go_wp2_with fail
          go_ret
          exact retB_mk HE.out HB.out
end Go.Proofs.YtepidpegoihllaaGreatDoor
/- sort.Search by contract (laid by the shelf of the kit, in plain words). -/
namespace Go.Proofs
open Go.Shelf Go.RowKit Go.Lib Go.Sort
def Tryz.laysSe_ren : Go.Shelf.Ren := ⟨fun | 16 => 116 | n => n, fun | 3 => 3 | 35 => 95 | 4 => 4 | 38 => 146 | n => n, fun | n => n⟩
theorem Tryz.laysSe : Go.Proofs.SlLaysO.n16 Tryz.prog Tryz.laysSe_ren := {
  mixed := by kernel_rfl
  f16 := Tryz.func116.trans (congrArg some (by kernel_rfl))
  t3 := Tryz.underlying3
  a3 := Tryz.isAgg3
  z3 := Tryz.sizeOf3
  v3 := Tryz.zeroValue3
  t4 := Tryz.underlying4
  a4 := Tryz.isAgg4
  z4 := Tryz.sizeOf4
  v4 := Tryz.zeroValue4
  t35 := Tryz.underlying95
  a35 := Tryz.isAgg95
  z35 := Tryz.sizeOf95
  v35 := Tryz.zeroValue95
  t38 := Tryz.underlying146
  a38 := Tryz.isAgg146
  z38 := Tryz.sizeOf146
  v38 := Tryz.zeroValue146 }
theorem Tryz.sort_Search (g : Nat) (cb : Array Value) (n : Nat) (p : Nat → Bool) (w : World) (eg : ∀ args w, (callFunc g args).run Tryz.prog w = .ok (.enter g args) w) (hsz : n < 4611686018427387904)
    (hf : ∀ (m : Nat) (os : Array Obj) (i : Nat), i < n → Calls Tryz.prog g (#[.int .i64 i] ++ cb) (grow (w.drewN m) os) fun e w' => e = .returned (.bool (p i)) ∧ ∃ q os', w' = grow ((grow (w.drewN m) os).drewN q) os')
    (hmono : ∀ a b, a ≤ b → b < n → p a = true → p b = true) :
    Calls Tryz.prog 116 #[.int .i64 n, .func (.func g) #[] cb] w fun e w' => e = .returned (.int .i64 ((List.range n).countP (fun i => !p i) : Nat)) ∧ ∃ q os, w' = grow (w.drewN q) os := Any.sort_Search Tryz.laysSe g cb n p w eg hsz hf hmono
end Go.Proofs
