/- bournelaw44.run: the calls of Raise and Ack, one after the other. -/
import Derived.Test.YthijckdablkofaaDStep
import Derived.StillTailTactics
namespace Go.Proofs.Ythijckdablkofaa
open Go.RowKit
def act3 (n : Int) : Int := bits .and .i64 n 3
def stepS (s : WS) (x : SV) : WS := if act3 x.act = 0 then (raiseS s x.town x.level x.hour).2 else if act3 x.act = 1 then (ackS s x.call).2 else s
def runS (s : WS) (l : List SV) : WS := l.foldl stepS s
theorem step_ok {s : WS} (h : WOk s) (x : SV) : WOk (stepS s x) := by
  unfold stepS
  split
  · exact raise_ok h _ _ _
  · split
    · exact ack_ok h _
    · exact h
theorem step_r (s : WS) (x : SV) : (stepS s x).r ≤ s.r + 1 ∧ (stepS s x).n = s.n := by
  unfold stepS
  split
  · exact ⟨raise_r _ _ _ _, raise_n _ _ _ _⟩
  · split
    · have := ack_r s x.call
      omega
    · exact ⟨Nat.le_succ _, rfl⟩
theorem run_ok : ∀ (l : List SV) {s : WS}, WOk s → WOk (runS s l) ∧ (runS s l).r ≤ s.r + l.length ∧ (runS s l).n = s.n
  | [], _, h => ⟨h, Nat.le_refl _, rfl⟩
  | x :: l, s, h => by
    have h1 := run_ok l (step_ok h x)
    have h2 := step_r s x
    simp only [runS, List.foldl_cons, List.length_cons] at h1 ⊢
    exact ⟨h1.1, by omega, by omega⟩
theorem run_take {s : WS} {l : List SV} {k : Nat} {x : SV} (h : l[k]? = some x) : runS s (l.take (k + 1)) = stepS (runS s (l.take k)) x := by
  unfold runS
  rw [List.take_add_one, h, List.foldl_append]
  rfl
theorem range8 {w : World} {b o : Nat} {x : SV} (h : w.rangeAt b o (sCl x)) : w.cell? ⟨b, o, none⟩ = some (.int .i64 x.act) ∧ w.cell? ⟨b, o + 1, none⟩ = some (.int .i64 x.town) ∧ w.cell? ⟨b, o + 2, none⟩ = some (.int .i64 x.level) ∧ w.cell? ⟨b, o + 3, none⟩ = some (.int .i64 x.hour)
    ∧ w.cell? ⟨b, o + 4, none⟩ = some (.int .i64 x.call.town) ∧ w.cell? ⟨b, o + 5, none⟩ = some (.int .i64 x.call.level) ∧ w.cell? ⟨b, o + 6, none⟩ = some (.int .i64 x.call.number) ∧ w.cell? ⟨b, o + 7, none⟩ = some (.int .i64 x.call.warden) :=
  ⟨h 0 _ rfl, h 1 _ rfl, h 2 _ rfl, h 3 _ rfl, h 4 _ rfl, h 5 _ rfl, h 6 _ rfl, h 7 _ rfl⟩
/-- a step that came in, as it lies later on -/
theorem SArg.at {W w : World} {l : List SV} {v : Value} (h : SArg v l W) (hb : Below W.heap.size W w) {k : Nat} {x : SV} (hx : l[k]? = some x) :
    ∃ b o c, v = .slice (some ⟨b, o, none⟩) l.length c ∧ b < W.heap.size ∧ w.rangeAt b (o + k * 8) (sCl x) ∧ SOk x := by
  obtain ⟨a, c, rfl, h⟩ := h
  obtain ⟨b, o, rfl, h2, h3, h4⟩ := h k x hx
  exact ⟨b, o, c, rfl, h2, rangeAt_belowD h3 hb h2, h4⟩
theorem PAt.drew {w : World} {pb mb : Nat} {s : WS} (h : PAt w pb mb s) : PAt w.drew pb mb s := ⟨h.row, h.map.drew⟩
set_option maxRecDepth 100000 in
set_option maxHeartbeats 4000000 in
theorem run_any (pb mb : Nat) (s : WS) (v : Value) (l : List SV) (W w : World) (hS : SArg v l W) (hB : Below W.heap.size W w) (hP : PAt w pb mb s) (hs : WOk s) (hr : s.r ≤ 1000) (hl : l.length ≤ 40) (h1 : W.heap.size ≤ pb) (h2 : W.heap.size ≤ mb) :
    Calls Try.prog 23 #[.pointer (some ⟨pb, 0, none⟩), v] w fun e w' => e = .returned (.tuple #[]) ∧ PAt w' pb mb (runS s l) ∧ Mv pb mb w w' := by
  have HP := Lib.hid hP
  have HS := Lib.hid hS
  have HB := Lib.hid hB
  have HO := Lib.hid hs
  obtain ⟨a, c, rfl, _⟩ := HS.out
  clear hP hS hB hs
  go_enter Try.func23, Try.ntmps23
  go_wp2_with fail
  go_loopw [4] (fun i wr => ∃ k : Nat, k ≤ l.length ∧ i = .int .i64 k ∧ PAt wr pb mb (runS s (l.take k)) ∧ Mv pb mb w wr) (fun i _ => l.length - (intOf i).toNat)
  case atStart => exact ⟨0, Nat.zero_le _, rfl, HP.out, Mv.refl _ _ _⟩
  case round =>
    obtain ⟨k, hk, rfl, hP, hV⟩ := hrel
    have HPk := Lib.hid hP
    have HVk := Lib.hid hV
    clear hP hV
    by_cases hlt : k < l.length
    · obtain ⟨x, hx⟩ : ∃ x, l[k]? = some x := ⟨_, List.getElem?_eq_getElem hlt⟩
      have HX := Lib.hid hx
      obtain ⟨b, o, c', he, hbl, hrg, hok⟩ := HS.out.at (HVk.out.below HB.out h1 h2 HB.out.size) hx
      simp only [Value.slice.injEq, true_and] at he
      obtain ⟨rfl, rfl⟩ := he
      have HOk := Lib.hid hok
      obtain ⟨c0, c1, c2, c3, c4, c5, c6, c7⟩ := range8 hrg
      have HT := Lib.hid (run_take (s := s) hx)
      have hro := run_ok (l.take k) HO.out
      have hrr : (runS s (l.take k)).r ≤ 1040 := by have := List.length_take_le k l; omega
      have HRo := Lib.hid hro.1
      have hml := m_len hro.1
      clear hx hrg hok hro hr
      have he0 : bits .and .i64 x.act 3 = act3 x.act := rfl
      have HE : Hid (bits .and .i64 x.act 3 = act3 x.act) := Lib.hid he0
      clear he0
      by_cases h0 : act3 x.act = 0
      · have HT0 : Hid (runS s (l.take (k + 1)) = (raiseS (runS s (l.take k)) x.town x.level x.hour).2) := Lib.hid (HT.out.trans (if_pos h0))
        have hb0 : bits .and .i64 x.act 3 = 0 := HE.out.trans h0
        clear h0
        go_wp2_with fail
        clear hb0
        go_still_tail 16, (by kernel_rfl)
        have HPd := Lib.hid HPk.out.drew
        go_wp2_with fail
        refine (raise_any pb mb _ _ _ _ _ HPd.out (by omega) (by omega)).mono ?_
        rintro e w1 ⟨rfl, hP, hv⟩
        have HP1 := Lib.hid hP
        have HV1 := Lib.hid (HVk.out.drew.trans hv)
        clear hP hv
        go_wp2_with fail
        go_roundw
        case rel => exact ⟨k + 1, by omega, by go_num, by rw [HT0.out]; exact HP1.out, HV1.out⟩
        case measure => simp [intOf]; omega
      · have hb0 : ¬ bits .and .i64 x.act 3 = 0 := fun e => h0 (HE.out.symm.trans e)
        by_cases h1' : act3 x.act = 1
        · have HT0 : Hid (runS s (l.take (k + 1)) = (ackS (runS s (l.take k)) x.call).2) := Lib.hid (HT.out.trans ((if_neg h0).trans (if_pos h1')))
          have hb1 : bits .and .i64 x.act 3 = 1 := HE.out.trans h1'
          clear h0 h1' hb0
          go_wp2_with fail
          refine (ack_any pb mb _ x.call _ HPk.out HOk.out.2.2.2.2 (by omega)).mono ?_
          rintro e w1 ⟨rfl, hP, hv⟩
          have HP1 := Lib.hid hP
          have HV1 := Lib.hid (HVk.out.trans hv)
          clear hP hv
          go_wp2_with fail
          go_roundw
          case rel => exact ⟨k + 1, by omega, by go_num, by rw [HT0.out]; exact HP1.out, HV1.out⟩
          case measure => simp [intOf]; omega
        · have HT0 : Hid (runS s (l.take (k + 1)) = runS s (l.take k)) := Lib.hid (HT.out.trans ((if_neg h0).trans (if_neg h1')))
          have hb1 : ¬ bits .and .i64 x.act 3 = 1 := fun e => h1' (HE.out.symm.trans e)
          clear h0 h1'
          go_wp2_with fail
          go_roundw
          case rel => exact ⟨k + 1, by omega, by go_num, by rw [HT0.out]; exact HPk.out, HVk.out⟩
          case measure => simp [intOf]; omega
    · have hkl : k = l.length := by omega
      subst hkl
      go_wp2_with fail
      have hP := HPk.out
      rw [List.take_length] at hP
      go_end0
      exact ⟨rfl, hP, HVk.out⟩
end Go.Proofs.Ythijckdablkofaa
