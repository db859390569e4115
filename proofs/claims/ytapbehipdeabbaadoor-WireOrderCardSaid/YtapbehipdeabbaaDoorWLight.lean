/- bournelaw02: light, write, all. -/
import Derived.Test.YtapbehipdeabbaaDoorWVal
namespace Go.Proofs.YtapbehipdeabbaaDoor
open Go.RowKit
def LightV (x : VV) : Prop := x.s.size ≤ 500 ∧ x.l.length ≤ 50 ∧ x.t.length ≤ 50 ∧ ∀ s ∈ x.t, s.size ≤ 500
def Light (xs : List VV) : Prop := xs.length ≤ 20 ∧ ∀ x ∈ xs, LightV x
/-- what light gives -/
def SaysLight (xs : List VV) (w : World) (e : Ending) (w' : World) : Prop := ∃ b : Bool, e = .returned (.bool b) ∧ (b = true → Light xs) ∧ w = w'
set_option maxRecDepth 100000 in
set_option maxHeartbeats 4000000 in
theorem light_any (v : Value) (xs : List VV) (w : World) (h : VArg v xs w) (hl : (xs.length : Int) ≤ maxLen) :
    Calls Tryd.prog 9 #[v] w (SaysLight xs w) := by
  obtain ⟨a, c, rfl, h⟩ := h
  unfold maxLen at hl
  have HC := Lib.hid h
  clear h
  by_cases h20 : 20 < xs.length
  · go_enter Tryd.func9, Tryd.ntmps9
    go_wp2_with fail
    go_ret
    exact ⟨false, rfl, (fun h => by cases h), rfl⟩
  · go_enter Tryd.func9, Tryd.ntmps9
    go_wp2_with fail
    go_loop [3] (fun iv => ∃ k : Nat, k ≤ xs.length ∧ iv = .int .i64 k ∧ ∀ x ∈ xs.take k, LightV x) (fun iv => xs.length - (intOf iv).toNat)
    case atStart => exact ⟨0, by omega, rfl, by simp⟩
    case round =>
      obtain ⟨k, hk, rfl, ht⟩ := hrel
      have HT := Lib.hid ht
      clear ht
      by_cases hlt : k < xs.length
      · have H1 : Hid (xs[k]? = some xs[k]) := Lib.hid (List.getElem?_eq_getElem hlt)
        obtain ⟨b, o, rfl, hb, ⟨vl, vt, c0, c1, c2, c3, c4, hvl, hvt⟩, hok⟩ := HC.out k _ H1.out
        have HOK := Lib.hid hok
        clear hok c0 c1
        generalize xs[k] = x at *
        obtain ⟨al, cl, rfl, hvl⟩ := hvl
        obtain ⟨at_, ct, rfl, hvt⟩ := hvt
        have HVT := Lib.hid hvt
        clear hvl hvt
        by_cases hs : 500 < x.s.size
        · have t1 : decide (500 < (x.s.size : Int)) = true := by simp; omega
          go_wp2_with fail
          go_ret
          exact ⟨false, rfl, (fun h => by cases h), rfl⟩
        · by_cases hl5 : 50 < x.l.length
          · have t1 : decide (50 < (x.l.length : Int)) = true := by simp; omega
            go_wp2_with fail
            go_ret
            exact ⟨false, rfl, (fun h => by cases h), rfl⟩
          · by_cases ht5 : 50 < x.t.length
            · have t1 : decide (50 < (x.t.length : Int)) = true := by simp; omega
              go_wp2_with fail
              go_ret
              exact ⟨false, rfl, (fun h => by cases h), rfl⟩
            · go_wp2_with fail
              go_loop [4] (fun jv => ∃ j : Nat, j ≤ x.t.length ∧ jv = .int .i64 j ∧ ∀ s ∈ x.t.take j, s.size ≤ 500) (fun jv => x.t.length - (intOf jv).toNat)
              case atStart => exact ⟨0, by omega, rfl, by simp⟩
              case round =>
                obtain ⟨j, hj, rfl, hts⟩ := hrel
                have HTS := Lib.hid hts
                clear hts
                by_cases hjl : j < x.t.length
                · have HJ : Hid (x.t[j]? = some x.t[j]) := Lib.hid (List.getElem?_eq_getElem hjl)
                  obtain ⟨p, rfl, _, hcs⟩ := HVT.out j _ HJ.out
                  generalize x.t[j] = y at *
                  by_cases hy : 500 < y.size
                  · have t1 : decide (500 < (y.size : Int)) = true := by simp; omega
                    go_wp2_with fail
                    go_ret
                    exact ⟨false, rfl, (fun h => by cases h), rfl⟩
                  · have HS : Hid (∀ s ∈ x.t.take (j + 1), s.size ≤ 500) := Lib.hid (by
                      rw [List.take_add_one, HJ.out]
                      intro s hs
                      simp only [List.mem_append, Option.toList_some, List.mem_singleton] at hs
                      rcases hs with hs | rfl
                      · exact HTS.out s hs
                      · omega)
                    go_wp2_with fail
                    go_round
                    case rel => exact ⟨j + 1, by omega, by go_num, HS.out⟩
                    case measure => simp [intOf]; omega
                · obtain rfl : j = x.t.length := by omega
                  have HS : Hid (∀ z ∈ xs.take (k + 1), LightV z) := Lib.hid (by
                    rw [List.take_add_one, H1.out]
                    intro z hz
                    simp only [List.mem_append, Option.toList_some, List.mem_singleton] at hz
                    rcases hz with hz | rfl
                    · exact HT.out z hz
                    · have := HTS.out
                      rw [List.take_of_length_le (Nat.le_refl _)] at this
                      exact ⟨by omega, by omega, by omega, this⟩)
                  clear hjl hj
                  go_wp2_with fail
                  go_round
                  case rel => exact ⟨k + 1, by omega, by go_num, HS.out⟩
                  case measure => simp [intOf]; omega
      · obtain rfl : k = xs.length := by omega
        have HT2 : Hid (∀ x ∈ xs, LightV x) := Lib.hid (by
          have := HT.out
          rwa [List.take_of_length_le (Nat.le_refl _)] at this)
        clear hlt hk
        go_wp2_with fail
        go_ret
        exact ⟨true, rfl, fun _ => ⟨by omega, HT2.out⟩, rfl⟩
end Go.Proofs.YtapbehipdeabbaaDoor
