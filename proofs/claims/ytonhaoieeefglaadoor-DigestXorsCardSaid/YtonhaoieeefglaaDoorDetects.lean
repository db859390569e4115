/- bournelaw03.DigestDetects returns true for all strings, bits and patterns. -/
import Derived.Test.YtonhaoieeefglaaDoorSmall
import Derived.Test.YtonhaoieeefglaaDoorFlip
namespace Go.Proofs.YtonhaoieeefglaaDoor
open Go.RowKit
theorem ret_true {b : Bool} (h : b = true) : Ending.returned (.bool b) = .returned (.bool true) := by rw [h]
set_option maxRecDepth 100000 in
set_option maxHeartbeats 1000000 in
theorem detects_core (s : ByteArray) (bit pat : Int) (w : World) (hg : Glob w) (hs : s.size ≤ maxLen) (hbit : (Lit.int .i64 bit).wf = true) (hpat : (Lit.int .i64 pat).wf = true) :
    Calls Tryd.prog 4 #[.string s, .int .i64 bit, .int .i64 pat] w fun e w' => e = .returned (.bool true) ∧ Below w.heap.size w w' := by
  unfold maxLen at hs
  have hb : -9223372036854775808 ≤ bit ∧ bit ≤ 9223372036854775807 := by simpa [Lit.wf, IntKind.min, IntKind.max, IntKind.signed, IntKind.bits] using hbit
  have hp : -9223372036854775808 ≤ pat ∧ pat ≤ 9223372036854775807 := by simpa [Lit.wf, IntKind.min, IntKind.max, IntKind.signed, IntKind.bits] using hpat
  have Hg := Lib.hid hg
  clear hg hbit hpat
  by_cases g1 : 2000 < s.size
  · clear hb hp
    go_enter Tryd.func4, Tryd.ntmps4
    go_wp2_with fail
    refine (small_any _ Hg.out).mono ?_
    rintro e w1 ⟨rfl, hb⟩
    have HB := Lib.hid hb
    clear hb
    go_wp2_with fail
    go_ret
    exact ⟨rfl, HB.out⟩
  · by_cases g2 : bit < 0
    · clear hb hp
      go_enter Tryd.func4, Tryd.ntmps4
      go_wp2_with fail
      refine (small_any _ Hg.out).mono ?_
      rintro e w1 ⟨rfl, hb⟩
      have HB := Lib.hid hb
      clear hb
      go_wp2_with fail
      go_ret
      exact ⟨rfl, HB.out⟩
    · obtain ⟨n, rfl⟩ := Int.eq_ofNat_of_zero_le (show 0 ≤ bit by omega)
      by_cases g3 : 8 * s.size ≤ n
      · clear hb hp g2
        go_enter Tryd.func4, Tryd.ntmps4
        go_wp2_with fail
        refine (small_any _ Hg.out).mono ?_
        rintro e w1 ⟨rfl, hb⟩
        have HB := Lib.hid hb
        clear hb
        go_wp2_with fail
        go_ret
        exact ⟨rfl, HB.out⟩
      · have HP := Lib.hid hp
        clear hb hp g2
        go_enter Tryd.func4, Tryd.ntmps4
        go_wp2_with fail
        refine (small_any _ Hg.out).mono ?_
        rintro e w1 ⟨rfl, hb⟩
        have HB := Lib.hid hb
        clear hb
        go_wp2_with fail
        refine (flipped_any s n pat _ (by omega) (by omega) HP.out.1 HP.out.2).mono ?_
        rintro e w2 ⟨t, p, rfl, ht, hp, hn, hb⟩
        have HB2 := Lib.hid (HB.out.trans (hb.mono HB.out.size))
        clear hb HB
        have hT : (⟨t.toArray⟩ : ByteArray).size ≤ 2000 := by show t.length ≤ 2000; omega
        have HL : Hid ((crcL s.data.toList = crcL (⟨t.toArray⟩ : ByteArray).data.toList) ↔ s = (⟨t.toArray⟩ : ByteArray)) := by
          show _ ↔ _
          rw [crcL_inj, burst (s := s.data.toList) (t := t) (by simpa using ht) hp (by simp; omega) hn]
          constructor
          · intro h
            rw [← h]
          · intro h; rw [h]
        clear hn hp ht
        generalize (⟨t.toArray⟩ : ByteArray) = T at *
        go_wp2_with fail
        refine (crc_any _ _ (by unfold maxLen; omega)).mono ?_
        rintro e w3 ⟨rfl, rfl⟩
        go_wp2_with fail
        refine (crc_any _ _ (by unfold maxLen; omega)).mono ?_
        rintro e w3 ⟨rfl, rfl⟩
        go_wp2_with fail
        have hE : ((s.toList == T.toList) == (((crcL s.data.toList : Nat) : Int) == ((crcL T.data.toList : Nat) : Int))) = true := by
          by_cases h : s = T
          · rw [← h]; simp
          · have h1 : ¬ crcL s.data.toList = crcL T.data.toList := fun e => h (HL.out.1 e)
            have h2 : (s.toList == T.toList) = false := beq_eq_false_iff_ne.2 fun e => h (by
              rw [ByteArray.toList_eq, ByteArray.toList_eq] at e
              cases s; cases T; simp at e; rw [e])
            have h3 : (((crcL s.data.toList : Nat) : Int) == ((crcL T.data.toList : Nat) : Int)) = false := beq_eq_false_iff_ne.2 (by omega)
            rw [h2, h3]; rfl
        go_ret
        exact ⟨ret_true hE, HB2.out⟩
end Go.Proofs.YtonhaoieeefglaaDoor
