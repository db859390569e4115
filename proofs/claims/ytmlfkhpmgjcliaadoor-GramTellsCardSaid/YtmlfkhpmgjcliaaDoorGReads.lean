/- bournelaw24.GramReads returns true. -/
import Derived.Test.YtmlfkhpmgjcliaaDoorGSmallW
import Derived.Deep.DeepCutAuto
import Derived.Deep.CutRange
namespace Go.Proofs.YtmlfkhpmgjcliaaDoor
open Go.RowKit
set_option maxRecDepth 100000 in
set_option maxHeartbeats 1000000 in
theorem short_any (a b c : ByteArray) (w : World) :
    Calls Tryd.prog 9 #[.string a, .string b, .string c] w fun e w' => e = .returned (.bool (decide (a.size ≤ 300 ∧ b.size ≤ 300 ∧ c.size ≤ 300))) ∧ w = w' := by
  by_cases h1 : a.size ≤ 300
  · have t1 : decide ((a.size : Int) ≤ 300) = true := by simp; omega
    by_cases h2 : b.size ≤ 300
    · have t2 : decide ((b.size : Int) ≤ 300) = true := by simp; omega
      by_cases h3 : c.size ≤ 300
      · have t3 : decide ((c.size : Int) ≤ 300) = true := by simp; omega
        rw [decide_eq_true ⟨h1, h2, h3⟩]
        go_enter Tryd.func9, Tryd.ntmps9
        go_wp2_with fail
        go_ret
        exact ⟨rfl, rfl⟩
      · have t3 : decide ((c.size : Int) ≤ 300) = false := by simp; omega
        rw [decide_eq_false (fun h => h3 h.2.2)]
        go_enter Tryd.func9, Tryd.ntmps9
        go_wp2_with fail
        go_ret
        exact ⟨rfl, rfl⟩
    · have t2 : decide ((b.size : Int) ≤ 300) = false := by simp; omega
      rw [decide_eq_false (fun h => h2 h.2.1)]
      go_enter Tryd.func9, Tryd.ntmps9
      go_wp2_with fail
      go_ret
      exact ⟨rfl, rfl⟩
  · have t1 : decide ((a.size : Int) ≤ 300) = false := by simp; omega
    rw [decide_eq_false (fun h => h1 h.1)]
    go_enter Tryd.func9, Tryd.ntmps9
    go_wp2_with fail
    go_ret
    exact ⟨rfl, rfl⟩
set_option maxRecDepth 100000 in
set_option maxHeartbeats 4000000 in
theorem reads_core (g : GV) (s : ByteArray) (w : World) (hO : GOk g) (hG : Glob w) (hM : MLen w) :
    Calls Tryd.prog 4 #[.agg #[.int .i64 g.gauge, .int .i64 g.seq, .int .i64 g.clock, .int .i64 g.value, .string g.tag], .string s] w fun e w' => e = .returned (.bool true) ∧ Below w.heap.size w w' := by
  have HO := Lib.hid hO
  have HG := Lib.hid hG
  have HM := Lib.hid hM
  have hB0 := (Below.refl w.heap.size w).alloc (Nat.le_refl _) (.cells #[.int .i64 g.gauge, .int .i64 g.seq, .int .i64 g.clock, .int .i64 g.value, .string g.tag] 23)
  have h0 := heap_alloc_new w (.cells #[.int .i64 g.gauge, .int .i64 g.seq, .int .i64 g.clock, .int .i64 g.value, .string g.tag] 23)
  clear hO hG hM
  go_enter Tryd.func4, Tryd.ntmps4
  go_wp2_with fail
  refine (small_any _ (HG.out.below hB0 HG.out.size) (HM.out.up hB0)).mono ?_
  rintro e w1 ⟨rfl, hb⟩
  have h1 := blk_below h0 hb (blk_lt h0)
  have HB1 := Lib.hid (hB0.trans (hb.mono hB0.size))
  have x0 : w1.cell? ⟨w.heap.size, 0, none⟩ = some (.int .i64 g.gauge) := (cell_of_row _ _ _ _ _ _ h1).trans rfl
  have x1 : w1.cell? ⟨w.heap.size, 1, none⟩ = some (.int .i64 g.seq) := (cell_of_row _ _ _ _ _ _ h1).trans rfl
  have x2 : w1.cell? ⟨w.heap.size, 2, none⟩ = some (.int .i64 g.clock) := (cell_of_row _ _ _ _ _ _ h1).trans rfl
  have x3 : w1.cell? ⟨w.heap.size, 3, none⟩ = some (.int .i64 g.value) := (cell_of_row _ _ _ _ _ _ h1).trans rfl
  have x4 : w1.cell? ⟨w.heap.size, 4, none⟩ = some (.string g.tag) := (cell_of_row _ _ _ _ _ _ h1).trans rfl
  have H1 := Lib.hid h1
  clear h0 hB0 hb h1
  go_wp2_with fail
  refine (short_any _ _ _ _).mono ?_
  rintro e w1' ⟨rfl, rfl⟩
  by_cases hsh : g.tag.size ≤ 300 ∧ s.size ≤ 300 ∧ (⟨#[]⟩ : ByteArray).size ≤ 300
  · rw [decide_eq_true hsh]
    obtain ⟨hs1, hs2, _⟩ := hsh
    go_wp2_with fail
    refine (bytes_any g _ HO.out (HM.out.up HB1.out) hs1).mono ?_
    rintro e w2 ⟨rfl, hb⟩
    have h2 := blk_below H1.out hb (blk_lt H1.out)
    have HB2 := Lib.hid (HB1.out.trans (hb.mono HB1.out.size))
    clear x0 x1 x2 x3 x4 hb H1 HB1
    have x0 : w2.cell? ⟨w.heap.size, 0, none⟩ = some (.int .i64 g.gauge) := (cell_of_row _ _ _ _ _ _ h2).trans rfl
    have x1 : w2.cell? ⟨w.heap.size, 1, none⟩ = some (.int .i64 g.seq) := (cell_of_row _ _ _ _ _ _ h2).trans rfl
    have x2 : w2.cell? ⟨w.heap.size, 2, none⟩ = some (.int .i64 g.clock) := (cell_of_row _ _ _ _ _ _ h2).trans rfl
    have x3 : w2.cell? ⟨w.heap.size, 3, none⟩ = some (.int .i64 g.value) := (cell_of_row _ _ _ _ _ _ h2).trans rfl
    have x4 : w2.cell? ⟨w.heap.size, 4, none⟩ = some (.string g.tag) := (cell_of_row _ _ _ _ _ _ h2).trans rfl
    have H2 := Lib.hid h2
    clear h2
    go_upto_region 5 with (fail)
    go_cut [7] from 23 to 66 (fun v wx => v = .bool (decide (Formed g)) ∧ wx = w2)
    case first =>
      by_cases f1 : 0 ≤ g.gauge
      · by_cases f2 : g.gauge < 128
        · by_cases f3 : 0 ≤ g.seq
          · by_cases f4 : g.seq ≤ 1099511627776
            · by_cases f5 : 0 ≤ g.clock
              · by_cases f6 : g.clock < 1006633020
                · by_cases f7 : -1099511627776 ≤ g.value
                  · by_cases f8 : g.value ≤ 1099511627776
                    · by_cases f9 : g.tag.size = 8
                      · have t9 : ((g.tag.size : Int) == 8) = true := by rw [beq_iff_eq]; omega
                        go_wp2_with fail
                        go_meet
                        exact ⟨by rw [decide_eq_true (show Formed g from by unfold Formed; omega)], rfl⟩
                      · have t9 : ((g.tag.size : Int) == 8) = false := by rw [beq_eq_false_iff_ne]; omega
                        go_wp2_with fail
                        go_meet
                        exact ⟨by rw [decide_eq_false (show ¬ Formed g from by unfold Formed; omega)], rfl⟩
                    · go_wp2_with fail
                      go_meet
                      exact ⟨by rw [decide_eq_false (show ¬ Formed g from by unfold Formed; omega)], rfl⟩
                  · go_wp2_with fail
                    go_meet
                    exact ⟨by rw [decide_eq_false (show ¬ Formed g from by unfold Formed; omega)], rfl⟩
                · go_wp2_with fail
                  go_meet
                  exact ⟨by rw [decide_eq_false (show ¬ Formed g from by unfold Formed; omega)], rfl⟩
              · go_wp2_with fail
                go_meet
                exact ⟨by rw [decide_eq_false (show ¬ Formed g from by unfold Formed; omega)], rfl⟩
            · go_wp2_with fail
              go_meet
              exact ⟨by rw [decide_eq_false (show ¬ Formed g from by unfold Formed; omega)], rfl⟩
          · go_wp2_with fail
            go_meet
            exact ⟨by rw [decide_eq_false (show ¬ Formed g from by unfold Formed; omega)], rfl⟩
        · go_wp2_with fail
          go_meet
          exact ⟨by rw [decide_eq_false (show ¬ Formed g from by unfold Formed; omega)], rfl⟩
      · go_wp2_with fail
        go_meet
        exact ⟨by rw [decide_eq_false (show ¬ Formed g from by unfold Formed; omega)], rfl⟩
    case rest =>
      obtain ⟨rfl, rfl⟩ := hcut
      have hreadS : ∃ y is, readG s.data.toList = (y, is) := ⟨_, _, rfl⟩
      obtain ⟨y, is, hys⟩ := hreadS
      have HYS := Lib.hid hys
      have HRs : Hid (∀ w', Calls Tryd.prog 10 #[.string s] w' fun e w'' => e = .returned (.tuple #[.agg #[.int .i64 y.gauge, .int .i64 y.seq, .int .i64 y.clock, .int .i64 y.value, .string y.tag], .bool is]) ∧ Below w'.heap.size w' w'') := Lib.hid (fun w' => by
        have := read_any s w' (by omega)
        rw [hys] at this
        exact this)
      clear hys
      by_cases hF : Formed g
      · have HRt : Hid (∀ w', Calls Tryd.prog 10 #[.string ⟨(gramL g).toArray⟩] w' fun e w'' => e = .returned (.tuple #[.agg #[.int .i64 g.gauge, .int .i64 g.seq, .int .i64 g.clock, .int .i64 g.value, .string g.tag], .bool true]) ∧ Below w'.heap.size w' w'') := Lib.hid (fun w' => by
          have := read_any ⟨(gramL g).toArray⟩ w' (Nat.le_trans (gramL_len g) (by decide))
          rw [show (⟨(gramL g).toArray⟩ : ByteArray).data.toList = gramL g from by simp, read_enc hF] at this
          exact this)
        have HRx : Hid (∀ w', Calls Tryd.prog 10 #[.string ((⟨(gramL g).toArray⟩ : ByteArray) ++ ⟨#[120]⟩)] w' fun e w'' => e = .returned (.tuple #[.agg #[.int .i64 0, .int .i64 0, .int .i64 0, .int .i64 0, .string ⟨#[]⟩], .bool false]) ∧ Below w'.heap.size w' w'') := Lib.hid (fun w' => by
          have := read_any ((⟨(gramL g).toArray⟩ : ByteArray) ++ ⟨#[120]⟩) w' (by
            rw [ByteArray.size_append]
            have h := gramL_len g
            have h2 : (⟨(gramL g).toArray⟩ : ByteArray).size = (gramL g).length := rfl
            have h3 : (⟨#[120]⟩ : ByteArray).size = 1 := rfl
            omega)
          rw [show ((⟨(gramL g).toArray⟩ : ByteArray) ++ ⟨#[120]⟩).data.toList = gramL g ++ [120] from by simp [ByteArray.data_append], read_not (read_more hF 120 [])] at this
          exact this)
        have hne : ((⟨(gramL g).toArray⟩ : ByteArray).toList == []) = false := by
          rw [ByteArray.toList_eq, beq_eq_false_iff_ne]
          simp only
          exact fun e => (gramL_nil.1 e) hF
        have hsz : (⟨(gramL g).toArray⟩ : ByteArray).size ≤ 60 := gramL_len g
        rw [decide_eq_true hF]
        clear hF
        generalize (⟨(gramL g).toArray⟩ : ByteArray) = tS at *
        go_wp2_with fail
        refine (HRt.out _).mono ?_
        rintro e w3 ⟨rfl, hb⟩
        have HB3 := Lib.hid ((HB2.out.trans (hb.mono HB2.out.size)).alloc (HB2.out.trans (hb.mono HB2.out.size)).size (.cells #[.int .i64 g.gauge, .int .i64 g.seq, .int .i64 g.clock, .int .i64 g.value, .string g.tag] 23))
        have r0 := blk_below (blk_below H2.out hb (blk_lt H2.out)) ((Below.refl w3.heap.size w3).alloc (Nat.le_refl _) (.cells #[.int .i64 g.gauge, .int .i64 g.seq, .int .i64 g.clock, .int .i64 g.value, .string g.tag] 23)) (blk_lt (blk_below H2.out hb (blk_lt H2.out)))
        have r8 := heap_alloc_new w3 (.cells #[.int .i64 g.gauge, .int .i64 g.seq, .int .i64 g.clock, .int .i64 g.value, .string g.tag] 23)
        have R0 := Lib.hid r0
        have R8 := Lib.hid r8
        clear hb x0 x1 x2 x3 x4 H2 r0 r8 HB2
        go_wp2_with fail
        generalize w3.alloc (.cells #[.int .i64 g.gauge, .int .i64 g.seq, .int .i64 g.clock, .int .i64 g.value, .string g.tag] 23) = v3 at *
        generalize w3.heap.size = p8 at *
        refine (HRs.out _).mono ?_
        rintro e w4 ⟨rfl, hb⟩
        have HB4 := Lib.hid ((HB3.out.trans (hb.mono HB3.out.size)).alloc (HB3.out.trans (hb.mono HB3.out.size)).size (.cells #[.int .i64 y.gauge, .int .i64 y.seq, .int .i64 y.clock, .int .i64 y.value, .string y.tag] 23))
        have Q0 := Lib.hid (blk_below (blk_below R0.out hb (blk_lt R0.out)) ((Below.refl w4.heap.size w4).alloc (Nat.le_refl _) (.cells #[.int .i64 y.gauge, .int .i64 y.seq, .int .i64 y.clock, .int .i64 y.value, .string y.tag] 23)) (blk_lt (blk_below R0.out hb (blk_lt R0.out))))
        have Q8 := Lib.hid (blk_below (blk_below R8.out hb (blk_lt R8.out)) ((Below.refl w4.heap.size w4).alloc (Nat.le_refl _) (.cells #[.int .i64 y.gauge, .int .i64 y.seq, .int .i64 y.clock, .int .i64 y.value, .string y.tag] 23)) (blk_lt (blk_below R8.out hb (blk_lt R8.out))))
        have Q10 := Lib.hid (heap_alloc_new w4 (.cells #[.int .i64 y.gauge, .int .i64 y.seq, .int .i64 y.clock, .int .i64 y.value, .string y.tag] 23))
        clear hb R0 R8 HB3
        go_wp2_with fail
        generalize w4.alloc (.cells #[.int .i64 y.gauge, .int .i64 y.seq, .int .i64 y.clock, .int .i64 y.value, .string y.tag] 23) = v4 at *
        generalize w4.heap.size = p10 at *
        refine (HRx.out _).mono ?_
        rintro e w5 ⟨rfl, hb⟩
        have HB5 := Lib.hid (HB4.out.trans (hb.mono HB4.out.size))
        have s0 := blk_below Q0.out hb (blk_lt Q0.out)
        have s8 := blk_below Q8.out hb (blk_lt Q8.out)
        have s10 := blk_below Q10.out hb (blk_lt Q10.out)
        have hlt0 := blk_lt s0
        have hlt8 := blk_lt s8
        have hlt10 := blk_lt s10
        have x0 : w5.cell? ⟨w.heap.size, 0, none⟩ = some (.int .i64 g.gauge) := (cell_of_row _ _ _ _ _ _ s0).trans rfl
        have x1 : w5.cell? ⟨w.heap.size, 1, none⟩ = some (.int .i64 g.seq) := (cell_of_row _ _ _ _ _ _ s0).trans rfl
        have x2 : w5.cell? ⟨w.heap.size, 2, none⟩ = some (.int .i64 g.clock) := (cell_of_row _ _ _ _ _ _ s0).trans rfl
        have x3 : w5.cell? ⟨w.heap.size, 3, none⟩ = some (.int .i64 g.value) := (cell_of_row _ _ _ _ _ _ s0).trans rfl
        have x4 : w5.cell? ⟨w.heap.size, 4, none⟩ = some (.string g.tag) := (cell_of_row _ _ _ _ _ _ s0).trans rfl
        have a0 : w5.cell? ⟨p8, 0, none⟩ = some (.int .i64 g.gauge) := (cell_of_row _ _ _ _ _ _ s8).trans rfl
        have a1 : w5.cell? ⟨p8, 1, none⟩ = some (.int .i64 g.seq) := (cell_of_row _ _ _ _ _ _ s8).trans rfl
        have a2 : w5.cell? ⟨p8, 2, none⟩ = some (.int .i64 g.clock) := (cell_of_row _ _ _ _ _ _ s8).trans rfl
        have a3 : w5.cell? ⟨p8, 3, none⟩ = some (.int .i64 g.value) := (cell_of_row _ _ _ _ _ _ s8).trans rfl
        have a4 : w5.cell? ⟨p8, 4, none⟩ = some (.string g.tag) := (cell_of_row _ _ _ _ _ _ s8).trans rfl
        have b0 : w5.cell? ⟨p10, 0, none⟩ = some (.int .i64 y.gauge) := (cell_of_row _ _ _ _ _ _ s10).trans rfl
        have b1 : w5.cell? ⟨p10, 1, none⟩ = some (.int .i64 y.seq) := (cell_of_row _ _ _ _ _ _ s10).trans rfl
        have b2 : w5.cell? ⟨p10, 2, none⟩ = some (.int .i64 y.clock) := (cell_of_row _ _ _ _ _ _ s10).trans rfl
        have b3 : w5.cell? ⟨p10, 3, none⟩ = some (.int .i64 y.value) := (cell_of_row _ _ _ _ _ _ s10).trans rfl
        have b4 : w5.cell? ⟨p10, 4, none⟩ = some (.string y.tag) := (cell_of_row _ _ _ _ _ _ s10).trans rfl
        have HS10 := Lib.hid s10
        clear hb Q0 Q8 Q10 s0 s8 s10 HB4
        have heq := eqG g.gauge g.seq g.clock g.value g.gauge g.seq g.clock g.value g.tag g.tag
        rw [decide_eq_true ⟨rfl, rfl, rfl, rfl, rfl⟩] at heq
        cases is with
        | true =>
          obtain ⟨hyb, hyf⟩ := read_back HYS.out
          have HBy : Hid (∀ w', MLen w' → Calls Tryd.prog 18 #[.agg #[.int .i64 y.gauge, .int .i64 y.seq, .int .i64 y.clock, .int .i64 y.value, .string y.tag]] w' fun e w'' => e = .returned (.string s) ∧ Below w'.heap.size w' w'') := Lib.hid (fun w' h => by
            have := bytes_any y w' hyf.ok h (by have := hyf.2.2.2.2.2.2.2.2; omega)
            rw [show (⟨(gramL y).toArray⟩ : ByteArray) = s from by rw [hyb]] at this
            exact this)
          clear hyb hyf
          go_wp2_with fail
          refine (HBy.out _ (HM.out.up (HB5.out.alloc HB5.out.size _))).mono ?_
          rintro e w6 ⟨rfl, hb⟩
          have HB6 := Lib.hid ((HB5.out.alloc HB5.out.size _).trans (hb.mono (HB5.out.alloc HB5.out.size _).size))
          clear hb
          go_wp2_with fail
          go_ret
          exact ⟨rfl, HB6.out⟩
        | false =>
          have hyz : y = zeroG := by
            have h := read_not (s := s.data.toList) (by rw [HYS.out])
            rw [HYS.out] at h
            exact (Prod.mk.inj h).1
          have y0 : y.gauge = 0 := by rw [hyz]; rfl
          have y1 : y.seq = 0 := by rw [hyz]; rfl
          have y2 : y.clock = 0 := by rw [hyz]; rfl
          have y3 : y.value = 0 := by rw [hyz]; rfl
          have y4 : y.tag.toList = [] := by rw [hyz, ByteArray.toList_eq]; rfl
          clear hyz
          go_wp2_with fail
          go_ret
          exact ⟨rfl, HB5.out.alloc HB5.out.size _⟩
      · have hE : (⟨(gramL g).toArray⟩ : ByteArray) = ⟨#[]⟩ := by rw [gramL_nil.2 hF]
        have HRt : Hid (∀ w', Calls Tryd.prog 10 #[.string ⟨(gramL g).toArray⟩] w' fun e w'' => e = .returned (.tuple #[.agg #[.int .i64 0, .int .i64 0, .int .i64 0, .int .i64 0, .string ⟨#[]⟩], .bool false]) ∧ Below w'.heap.size w' w'') := Lib.hid (fun w' => by
          rw [hE]
          exact readNone w')
        have HRx : Hid (∀ w', Calls Tryd.prog 10 #[.string ((⟨(gramL g).toArray⟩ : ByteArray) ++ ⟨#[120]⟩)] w' fun e w'' => e = .returned (.tuple #[.agg #[.int .i64 0, .int .i64 0, .int .i64 0, .int .i64 0, .string ⟨#[]⟩], .bool false]) ∧ Below w'.heap.size w' w'') := Lib.hid (fun w' => by
          rw [hE]
          have := read_any ((⟨#[]⟩ : ByteArray) ++ ⟨#[120]⟩) w' (by decide)
          rw [show ((⟨#[]⟩ : ByteArray) ++ ⟨#[120]⟩).data.toList = [120] from by simp [ByteArray.data_append], read_not read_x] at this
          exact this)
        have hne : ((⟨(gramL g).toArray⟩ : ByteArray).toList == []) = true := by
          rw [hE, ByteArray.toList_eq]
          rfl
        have hsz : (⟨(gramL g).toArray⟩ : ByteArray).size ≤ 60 := gramL_len g
        rw [decide_eq_false hF]
        clear hE
        clear hF
        generalize (⟨(gramL g).toArray⟩ : ByteArray) = tS at *
        go_wp2_with fail
        refine (HRt.out _).mono ?_
        rintro e w3 ⟨rfl, hb⟩
        have HB3 := Lib.hid ((HB2.out.trans (hb.mono HB2.out.size)).alloc (HB2.out.trans (hb.mono HB2.out.size)).size (.cells #[.int .i64 0, .int .i64 0, .int .i64 0, .int .i64 0, .string ⟨#[]⟩] 23))
        have r0 := blk_below (blk_below H2.out hb (blk_lt H2.out)) ((Below.refl w3.heap.size w3).alloc (Nat.le_refl _) (.cells #[.int .i64 0, .int .i64 0, .int .i64 0, .int .i64 0, .string ⟨#[]⟩] 23)) (blk_lt (blk_below H2.out hb (blk_lt H2.out)))
        have r8 := heap_alloc_new w3 (.cells #[.int .i64 0, .int .i64 0, .int .i64 0, .int .i64 0, .string ⟨#[]⟩] 23)
        have R0 := Lib.hid r0
        have R8 := Lib.hid r8
        clear hb x0 x1 x2 x3 x4 H2 r0 r8 HB2
        go_wp2_with fail
        generalize w3.alloc (.cells #[.int .i64 0, .int .i64 0, .int .i64 0, .int .i64 0, .string ⟨#[]⟩] 23) = v3 at *
        generalize w3.heap.size = p8 at *
        refine (HRs.out _).mono ?_
        rintro e w4 ⟨rfl, hb⟩
        have HB4 := Lib.hid ((HB3.out.trans (hb.mono HB3.out.size)).alloc (HB3.out.trans (hb.mono HB3.out.size)).size (.cells #[.int .i64 y.gauge, .int .i64 y.seq, .int .i64 y.clock, .int .i64 y.value, .string y.tag] 23))
        have Q0 := Lib.hid (blk_below (blk_below R0.out hb (blk_lt R0.out)) ((Below.refl w4.heap.size w4).alloc (Nat.le_refl _) (.cells #[.int .i64 y.gauge, .int .i64 y.seq, .int .i64 y.clock, .int .i64 y.value, .string y.tag] 23)) (blk_lt (blk_below R0.out hb (blk_lt R0.out))))
        have Q8 := Lib.hid (blk_below (blk_below R8.out hb (blk_lt R8.out)) ((Below.refl w4.heap.size w4).alloc (Nat.le_refl _) (.cells #[.int .i64 y.gauge, .int .i64 y.seq, .int .i64 y.clock, .int .i64 y.value, .string y.tag] 23)) (blk_lt (blk_below R8.out hb (blk_lt R8.out))))
        have Q10 := Lib.hid (heap_alloc_new w4 (.cells #[.int .i64 y.gauge, .int .i64 y.seq, .int .i64 y.clock, .int .i64 y.value, .string y.tag] 23))
        clear hb R0 R8 HB3
        go_wp2_with fail
        generalize w4.alloc (.cells #[.int .i64 y.gauge, .int .i64 y.seq, .int .i64 y.clock, .int .i64 y.value, .string y.tag] 23) = v4 at *
        generalize w4.heap.size = p10 at *
        refine (HRx.out _).mono ?_
        rintro e w5 ⟨rfl, hb⟩
        have HB5 := Lib.hid (HB4.out.trans (hb.mono HB4.out.size))
        have s0 := blk_below Q0.out hb (blk_lt Q0.out)
        have s8 := blk_below Q8.out hb (blk_lt Q8.out)
        have s10 := blk_below Q10.out hb (blk_lt Q10.out)
        have hlt0 := blk_lt s0
        have hlt8 := blk_lt s8
        have hlt10 := blk_lt s10
        have x0 : w5.cell? ⟨w.heap.size, 0, none⟩ = some (.int .i64 g.gauge) := (cell_of_row _ _ _ _ _ _ s0).trans rfl
        have x1 : w5.cell? ⟨w.heap.size, 1, none⟩ = some (.int .i64 g.seq) := (cell_of_row _ _ _ _ _ _ s0).trans rfl
        have x2 : w5.cell? ⟨w.heap.size, 2, none⟩ = some (.int .i64 g.clock) := (cell_of_row _ _ _ _ _ _ s0).trans rfl
        have x3 : w5.cell? ⟨w.heap.size, 3, none⟩ = some (.int .i64 g.value) := (cell_of_row _ _ _ _ _ _ s0).trans rfl
        have x4 : w5.cell? ⟨w.heap.size, 4, none⟩ = some (.string g.tag) := (cell_of_row _ _ _ _ _ _ s0).trans rfl
        have b0 : w5.cell? ⟨p10, 0, none⟩ = some (.int .i64 y.gauge) := (cell_of_row _ _ _ _ _ _ s10).trans rfl
        have b1 : w5.cell? ⟨p10, 1, none⟩ = some (.int .i64 y.seq) := (cell_of_row _ _ _ _ _ _ s10).trans rfl
        have b2 : w5.cell? ⟨p10, 2, none⟩ = some (.int .i64 y.clock) := (cell_of_row _ _ _ _ _ _ s10).trans rfl
        have b3 : w5.cell? ⟨p10, 3, none⟩ = some (.int .i64 y.value) := (cell_of_row _ _ _ _ _ _ s10).trans rfl
        have b4 : w5.cell? ⟨p10, 4, none⟩ = some (.string y.tag) := (cell_of_row _ _ _ _ _ _ s10).trans rfl
        have HS10 := Lib.hid s10
        clear hb Q0 Q8 Q10 s0 s8 s10 HB4
        cases is with
        | true =>
          obtain ⟨hyb, hyf⟩ := read_back HYS.out
          have HBy : Hid (∀ w', MLen w' → Calls Tryd.prog 18 #[.agg #[.int .i64 y.gauge, .int .i64 y.seq, .int .i64 y.clock, .int .i64 y.value, .string y.tag]] w' fun e w'' => e = .returned (.string s) ∧ Below w'.heap.size w' w'') := Lib.hid (fun w' h => by
            have := bytes_any y w' hyf.ok h (by have := hyf.2.2.2.2.2.2.2.2; omega)
            rw [show (⟨(gramL y).toArray⟩ : ByteArray) = s from by rw [hyb]] at this
            exact this)
          clear hyb hyf
          go_wp2_with fail
          refine (HBy.out _ (HM.out.up (HB5.out.alloc HB5.out.size _))).mono ?_
          rintro e w6 ⟨rfl, hb⟩
          have HB6 := Lib.hid ((HB5.out.alloc HB5.out.size _).trans (hb.mono (HB5.out.alloc HB5.out.size _).size))
          clear hb
          go_wp2_with fail
          go_ret
          exact ⟨rfl, HB6.out⟩
        | false =>
          have hyz : y = zeroG := by
            have h := read_not (s := s.data.toList) (by rw [HYS.out])
            rw [HYS.out] at h
            exact (Prod.mk.inj h).1
          have y0 : y.gauge = 0 := by rw [hyz]; rfl
          have y1 : y.seq = 0 := by rw [hyz]; rfl
          have y2 : y.clock = 0 := by rw [hyz]; rfl
          have y3 : y.value = 0 := by rw [hyz]; rfl
          have y4 : y.tag.toList = [] := by rw [hyz, ByteArray.toList_eq]; rfl
          clear hyz
          go_wp2_with fail
          go_ret
          exact ⟨rfl, HB5.out.alloc HB5.out.size _⟩
  · rw [decide_eq_false hsh]
    go_wp2_with fail
    go_ret
    exact ⟨rfl, HB1.out⟩
end Go.Proofs.YtmlfkhpmgjcliaaDoor
