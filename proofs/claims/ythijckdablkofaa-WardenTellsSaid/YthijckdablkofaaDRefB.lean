/- The reference's wardens: Awaits. -/
import Derived.Test.YthijckdablkofaaDRefA
namespace Go.Proofs.Ythijckdablkofaa
open Go.RowKit
set_option maxRecDepth 100000 in
set_option maxHeartbeats 4000000 in
theorem rawaits_any (qb base : Nat) (q : RS) (c : CV) (w : World) (hQ : QAt w qb base q) (hl : q.l.length ≤ 1000) (_hn : q.n ≤ 16) (hc : COk c) :
    Calls Try.prog 16 #[.pointer (some ⟨qb, 0, none⟩), .agg #[.int .i64 c.town, .int .i64 c.level, .int .i64 c.number, .int .i64 c.warden]] w fun e w' => e = .returned (.bool (awaitsR q c)) ∧ Below w.heap.size w w' := by
  have HQ := Lib.hid (hQ.below ((Below.refl w.heap.size w).alloc (Nat.le_refl _) (.cells #[.int .i64 c.town, .int .i64 c.level, .int .i64 c.number, .int .i64 c.warden] 29)))
  have HB := Lib.hid ((Below.refl w.heap.size w).alloc (Nat.le_refl _) (.cells #[.int .i64 c.town, .int .i64 c.level, .int .i64 c.number, .int .i64 c.warden] 29))
  have HC := Lib.hid (heap_alloc_new w (.cells #[.int .i64 c.town, .int .i64 c.level, .int .i64 c.number, .int .i64 c.warden] 29))
  unfold COk I64 at hc
  have HN := Lib.hid (lastN_le c.town q.l)
  have hlb : -1 ≤ lastI c.town q.l ∧ lastI c.town q.l ≤ 1000 := by have := HN.out; unfold lastI; omega
  clear hQ
  go_enter Try.func16, Try.ntmps16
  go_upto_region 1 with fail
  generalize w.alloc (.cells #[.int .i64 c.town, .int .i64 c.level, .int .i64 c.number, .int .i64 c.warden] 29) = w2 at *
  obtain ⟨y0, y1, y2, y3⟩ := row4 HC.out
  go_wp2_with fail
  refine (rlast_any qb base q c.town _ HQ.out hl).mono ?_
  rintro e w3 ⟨rfl, rfl⟩
  obtain ⟨a, cap, hrow, _, hel⟩ := HQ.out.open
  obtain ⟨r0, r1⟩ := row2 hrow
  have HEL := Lib.hid hel
  clear hrow hel HQ HC
  by_cases h0 : 0 ≤ lastI c.town q.l
  · obtain ⟨x, hx, hxt, hg, htn⟩ := lastI_get h0
    obtain ⟨b, ha, _, _, hrg⟩ := HEL.out _ x hx
    subst ha
    have c3 := (rangeR hrg).2.2.2
    have HG := Lib.hid (ovR_some hg)
    have hlt : lastI c.town q.l < q.l.length := by have := (List.getElem?_eq_some_iff.1 hx).1; omega
    have hli : (lastN c.town q.l : Int) = lastI c.town q.l + 1 := by unfold lastI; omega
    have HLI := Lib.hid hli
    clear hx hxt hg hrg hli
    generalize lastI c.town q.l = li at *
    have HA : Hid (awaitsR q c = awaitsO q.n c (some ⟨x.level, li + 1, x.hour, x.done⟩)) := Lib.hid (by unfold awaitsR; rw [HG.out, HLI.out])
    have g0 : decide (0 ≤ li) = true := decide_eq_true h0
    by_cases hnum : li + 1 = c.number
    · have T1 : (li == c.number - 1) = true := by rw [beq_iff_eq]; omega
      have T2 : IntKind.i64.wrap (c.number - 1) = c.number - 1 := IntWalk.i64_in _ (by omega)
      have HNum := Lib.hid hnum
      clear hnum
      by_cases hd : x.done = true
      · have HF : Hid (awaitsR q c = false) := Lib.hid (by rw [HA.out]; simp [awaitsO, hd])
        rw [hd] at c3
        clear hd
        go_wp2_with fail
        go_quiet (fail)
        go_wp2_with fail
        go_ret
        exact ⟨by rw [HF.out]; rfl, below_drewN HB.out⟩
      · have hd' : x.done = false := by simpa using hd
        rw [hd'] at c3
        by_cases w0 : 0 ≤ c.warden
        · have g1 : decide (0 ≤ c.warden) = true := decide_eq_true w0
          by_cases w1 : c.warden < q.n
          · have g2 : decide (c.warden < (q.n : Int)) = true := decide_eq_true w1
            have HF : Hid (awaitsR q c = true) := Lib.hid (by rw [HA.out]; simp [awaitsO, hd', HNum.out, w0, w1])
            clear hd hd'
            go_wp2_with fail
            go_quiet (fail)
            go_wp2_with fail
            go_ret
            exact ⟨by rw [HF.out]; rfl, below_drewN HB.out⟩
          · have g2 : decide (c.warden < (q.n : Int)) = false := decide_eq_false w1
            have HF : Hid (awaitsR q c = false) := Lib.hid (by rw [HA.out]; simp [awaitsO, w1])
            clear hd hd'
            go_wp2_with fail
            go_quiet (fail)
            go_wp2_with fail
            go_ret
            exact ⟨by rw [HF.out]; rfl, below_drewN HB.out⟩
        · have g1 : decide (0 ≤ c.warden) = false := decide_eq_false w0
          have HF : Hid (awaitsR q c = false) := Lib.hid (by rw [HA.out]; simp [awaitsO, w0])
          clear hd hd'
          go_wp2_with fail
          go_quiet (fail)
          go_wp2_with fail
          go_ret
          exact ⟨by rw [HF.out]; rfl, below_drewN HB.out⟩
    · have HF : Hid (awaitsR q c = false) := Lib.hid (by rw [HA.out]; simp [awaitsO, hnum])
      by_cases hb : c.number = -9223372036854775808
      · obtain ⟨M, hM⟩ : ∃ M : Int, M = 9223372036854775807 := ⟨_, rfl⟩
        have T2 : IntKind.i64.wrap (c.number - 1) = M := by rw [hb, hM]; decide
        have T1 : (li == M) = false := by rw [beq_eq_false_iff_ne]; omega
        clear hM
        clear hnum hb hc HN
        go_wp2_with fail
        go_quiet (fail)
        go_wp2_with fail
        go_ret
        exact ⟨by rw [HF.out]; rfl, below_drewN HB.out⟩
      · have T1 : (li == c.number - 1) = false := by rw [beq_eq_false_iff_ne]; omega
        have T2 : IntKind.i64.wrap (c.number - 1) = c.number - 1 := IntWalk.i64_in _ (by omega)
        clear hnum hb
        go_wp2_with fail
        go_quiet (fail)
        go_wp2_with fail
        go_ret
        exact ⟨by rw [HF.out]; rfl, below_drewN HB.out⟩
  · have HG := Lib.hid (lastI_none h0)
    have HF : Hid (awaitsR q c = false) := Lib.hid (by unfold awaitsR; rw [HG.out]; rfl)
    have g0 : decide (0 ≤ lastI c.town q.l) = false := decide_eq_false h0
    go_wp2_with fail
    go_quiet (fail)
    go_wp2_with fail
    go_ret
    exact ⟨by rw [HF.out]; rfl, below_drewN HB.out⟩
end Go.Proofs.Ythijckdablkofaa
