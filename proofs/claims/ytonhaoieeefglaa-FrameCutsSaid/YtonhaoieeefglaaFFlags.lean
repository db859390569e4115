/- bournelaw23.FrameFlags returns true for all strings. -/
import Derived.Test.YtonhaoieeefglaaFSmall
namespace Go.Proofs.Ytonhaoieeefglaa
open Go.RowKit
theorem escB_no (c : UInt8) : ¬ (126 : UInt8) ∈ escB c := by
  unfold escB
  split
  · decide
  · split
    · decide
    · rename_i h _
      simp only [List.mem_singleton]
      exact fun e => h e.symm
theorem escL_no : ∀ (l : List UInt8), ¬ (126 : UInt8) ∈ escL l
  | [] => by simp [escL]
  | c :: l => by
    simp only [escL, List.mem_append, not_or]
    exact ⟨escB_no c, escL_no l⟩
theorem unesc_esc_all : ∀ (l : List UInt8), unescL (escL l) = some l
  | [] => rfl
  | c :: l => by
    have ih := unesc_esc_all l
    unfold escL escB
    by_cases h1 : c = 126
    · subst h1
      simp only [if_true]
      show unescL (125 :: 94 :: escL l) = _
      rw [unesc_flag, ih]; rfl
    · by_cases h2 : c = 125
      · subst h2
        simp only [if_true]
        show unescL (125 :: 93 :: escL l) = _
        rw [unesc_esc, ih]; rfl
      · rw [if_neg h1, if_neg h2]
        show unescL (c :: escL l) = _
        rw [unesc_plain h2, ih]; rfl
theorem escL_inj {a b : List UInt8} (h : escL a = escL b) : a = b := by
  have := congrArg unescL h
  rw [unesc_esc_all, unesc_esc_all] at this
  exact Option.some.inj this
theorem bodyL_inj {a b : List UInt8} (h : bodyL a = bodyL b) : a = b := by
  unfold bodyL at h
  have hl : a.length = b.length := by
    have := congrArg List.length h
    simp [crcB] at this
    exact this
  exact (List.append_inj h hl).1
theorem encL_inj {a b : List UInt8} (h0 : encL a ≠ []) (h : encL a = encL b) : a = b := by
  unfold encL at h h0
  split at h
  · rename_i hl; rw [if_pos hl] at h0; exact absurd rfl h0
  · split at h
    · cases h
    · have h2 := (List.cons.inj h).2
      exact bodyL_inj (escL_inj (List.append_inj' h2 rfl).1)
theorem encL_len (l : List UInt8) : (encL l).length ≤ 2050 := by
  unfold encL
  split
  · simp
  · simp only [List.length_cons, List.length_append, List.length_nil]
    omega
theorem encL_at (l : List UInt8) (k : Nat) (hk : k < (encL l).length) : ((encL l)[k]?.getD 0 = 126) ↔ (k = 0 ∨ k = (encL l).length - 1) := by
  have hno := escL_no (bodyL l)
  unfold encL at hk ⊢
  split at hk
  · simp at hk
  · rename_i hl
    rw [if_neg hl]
    simp only [List.length_cons, List.length_append, List.length_nil] at hk ⊢
    cases k with
    | zero => simp
    | succ k =>
      rw [List.getElem?_cons_succ]
      by_cases hk2 : k < (escL (bodyL l)).length
      · rw [List.getElem?_append_left hk2, List.getElem?_eq_getElem hk2]
        simp only [Option.getD_some]
        constructor
        · intro e
          exact absurd (e ▸ List.getElem_mem hk2) hno
        · intro e; omega
      · have hk3 : k = (escL (bodyL l)).length := by omega
        rw [List.getElem?_append_right (by omega), hk3]
        simp
theorem ba_eq {s t : ByteArray} (h : s.data.toList = t.data.toList) : s = t := by
  cases s; cases t; simp at h; rw [h]
set_option maxRecDepth 100000 in
set_option maxHeartbeats 2000000 in
theorem flags_core (s o : ByteArray) (w : World) (hs : s.size ≤ maxLen) (ho : o.size ≤ maxLen) :
    Calls Try.prog 8 #[.string s, .string o] w fun e w' => e = .returned (.bool true) ∧ Below w.heap.size w w' := by
  unfold maxLen at hs ho
  by_cases g1 : 3000 < s.size
  · go_enter Try.func8, Try.ntmps8
    go_wp2_with fail
    refine (small_any _).mono ?_
    rintro e w1 ⟨rfl, hb⟩
    have HB := Lib.hid hb
    clear hb
    go_wp2_with fail
    go_ret
    exact ⟨rfl, HB.out⟩
  · by_cases g2 : 3000 < o.size
    · go_enter Try.func8, Try.ntmps8
      go_wp2_with fail
      refine (small_any _).mono ?_
      rintro e w1 ⟨rfl, hb⟩
      have HB := Lib.hid hb
      clear hb
      go_wp2_with fail
      go_ret
      exact ⟨rfl, HB.out⟩
    · go_enter Try.func8, Try.ntmps8
      go_wp2_with fail
      refine (small_any _).mono ?_
      rintro e w1 ⟨rfl, hb⟩
      have HB := Lib.hid hb
      clear hb
      go_wp2_with fail
      refine (encode_any s _ (by omega)).mono ?_
      rintro e w2 ⟨rfl, hb⟩
      have HB2 := Lib.hid (HB.out.trans (hb.mono HB.out.size))
      clear hb HB
      have hlF : (⟨(encL s.data.toList).toArray⟩ : ByteArray).size ≤ 2050 := encL_len _
      have HF : Hid ((⟨(encL s.data.toList).toArray⟩ : ByteArray).data.toList = encL s.data.toList) := rfl
      have HAt : Hid (∀ k, k < (⟨(encL s.data.toList).toArray⟩ : ByteArray).size → ((encL s.data.toList)[k]?.getD 0 = 126 ↔ (k = 0 ∨ k = (⟨(encL s.data.toList).toArray⟩ : ByteArray).size - 1))) := Lib.hid (fun k hk => encL_at _ k hk)
      generalize (⟨(encL s.data.toList).toArray⟩ : ByteArray) = F at *
      go_wp2_with fail
      go_loop [7] (fun i => ∃ k : Nat, k ≤ F.size ∧ i = .int .i64 k) (fun i => F.size - (intOf i).toNat)
      case atStart => exact ⟨0, by omega, rfl⟩
      case round =>
        obtain ⟨k, hk, rfl⟩ := hrel
        by_cases hlt : k < F.size
        · have hat := HAt.out k hlt
          have hgk : (encL s.data.toList)[k]?.getD 0 = F[k] := by
            rw [← HF.out, List.getElem?_eq_getElem (by simpa using hlt)]
            rfl
          rw [hgk] at hat
          have i1 := fun w => index_str F (k : Int) k rfl hlt w
          have lb := (F[k]).toNat_lt
          have h126 : F[k] = 126 ↔ F[k].toNat = 126 := ⟨fun e => by rw [e]; rfl, fun e => UInt8.toNat_inj.1 (by rw [e]; rfl)⟩
          rw [h126] at hat
          have HAT := Lib.hid hat
          clear hat hgk h126 HAt
          generalize F[k].toNat = b at *
          by_cases hk0 : k = 0
          · have e1 : ((b : Int) == 126) = true := by have := HAT.out.2 (Or.inl hk0); simp; omega
            have e2 : ((k : Int) == 0) = true := by simp; omega
            clear HAT hk0
            go_wp2_with fail
            go_round
            case rel => exact ⟨k + 1, by omega, by go_num⟩
            case measure => simp [intOf]; omega
          · have e2 : ((k : Int) == 0) = false := beq_eq_false_iff_ne.2 (by omega)
            by_cases hkl : k = F.size - 1
            · have e1 : ((b : Int) == 126) = true := by have := HAT.out.2 (Or.inr hkl); simp; omega
              have e3 : ((k : Int) == (F.size : Int) - 1) = true := by simp; omega
              clear HAT hkl hk0
              go_wp2_with fail
              go_round
              case rel => exact ⟨k + 1, by omega, by go_num⟩
              case measure => simp [intOf]; omega
            · have e1 : ((b : Int) == 126) = false := beq_eq_false_iff_ne.2 (fun e => by
                have h3 := HAT.out.1 (by omega)
                omega)
              have e3 : ((k : Int) == (F.size : Int) - 1) = false := beq_eq_false_iff_ne.2 (by omega)
              clear HAT hkl hk0
              go_wp2_with fail
              go_round
              case rel => exact ⟨k + 1, by omega, by go_num⟩
              case measure => simp [intOf]; omega
        · have hl2 : decide ((F.size : Int) ≤ 2050) = true := by simp; omega
          clear HAt
          by_cases hemp : F.toList = []
          · have e1 : (F.toList == ([] : List UInt8)) = true := by rw [hemp]; rfl
            have e2 : F.toList.isEmpty = true := by rw [hemp]; rfl
            go_wp2_with fail
            go_ret
            exact ⟨rfl, HB2.out⟩
          · have e2 : F.toList.isEmpty = false := by cases h : F.toList with | nil => exact absurd h hemp | cons _ _ => rfl
            by_cases hso : s = o
            · subst hso
              clear hemp
              go_wp2_with fail
              go_ret
              exact ⟨rfl, HB2.out⟩
            · have hne : (s.toList == o.toList) = false := beq_eq_false_iff_ne.2 (fun e => hso (str_eq e))
              have hne2 : ∀ G : ByteArray, G.data.toList = encL o.data.toList → (F.toList == G.toList) = false := fun G hG => beq_eq_false_iff_ne.2 (fun e => by
                have h1 : F = G := str_eq e
                have h2 : encL s.data.toList = encL o.data.toList := by rw [← HF.out, h1, hG]
                refine hso (ba_eq (encL_inj ?_ h2))
                intro h3
                rw [← HF.out] at h3
                rw [ByteArray.toList_eq] at hemp
                exact hemp h3)
              have HNE := Lib.hid hne2
              clear hne2 hemp hso
              go_wp2_with fail
              refine (encode_any o _ (by omega)).mono ?_
              rintro e w3 ⟨rfl, hb⟩
              have HB3 := Lib.hid (HB2.out.trans (hb.mono HB2.out.size))
              have hq := HNE.out (⟨(encL o.data.toList).toArray⟩ : ByteArray) rfl
              clear hb HB2
              generalize (⟨(encL o.data.toList).toArray⟩ : ByteArray) = G at *
              go_wp2_with fail
              go_ret
              exact ⟨rfl, HB3.out⟩
end Go.Proofs.Ytonhaoieeefglaa
