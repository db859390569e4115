/- bournelaw03.flipped: the string with some of sixteen bits in a row inverted; seen as a number it is the old one exclusive or a pattern of sixteen bits, shifted. -/
import Derived.Test.YtonhaoieeefglaaDoorBytes
import Derived.Test.YtonhaoieeefglaaDoorCrcLaw
import Derived.StillTailTactics
namespace Go.Proofs.YtonhaoieeefglaaDoor
open Go.RowKit
/-- what flipped leaves: a string as long, which differs by a shifted pattern -/
def FlipPost (s : ByteArray) (bit : Nat) (w : World) (e : Ending) (w' : World) : Prop :=
  ∃ (t : List UInt8) (p : Nat), e = .returned (.string ⟨t.toArray⟩) ∧ t.length = s.size ∧ p < 65536 ∧ numL t = numL s.data.toList ^^^ (2 ^ bit * p) ∧ Below w.heap.size w w'
/-- what flipped holds: a block whose first cells are the bytes t -/
structure FInv (w0 : World) (n : Nat) (t : List UInt8) (w : World) : Prop where
  blk : ∃ (cur : Array Value) (c : Nat), w.heap[w0.heap.size]? = some (.cells cur 5 (c, c + 1)) ∧ n ≤ c ∧ ∀ (j : Nat) (b : UInt8), t[j]? = some b → cur[j]? = some (.int .u8 (b.toNat : Int))
  len : t.length = n
  below : Below w0.heap.size w0 w
theorem FInv.cell {w0 w : World} {n : Nat} {t : List UInt8} (h : FInv w0 n t w) {j : Nat} {b : UInt8} (hb : t[j]? = some b) : w.cell? ⟨w0.heap.size, j, none⟩ = some (.int .u8 (b.toNat : Int)) := by
  obtain ⟨cur, c, hh, _, hc⟩ := h.blk
  rw [cell_of_row _ _ _ _ _ _ hh]
  exact hc j b hb
theorem FInv.free {w0 w : World} {n : Nat} {t : List UInt8} (h : FInv w0 n t w) {j : Nat} (hj : j < n) : w.frozen? ⟨w0.heap.size, j, none⟩ = false := by
  obtain ⟨cur, c, hh, hn, _⟩ := h.blk
  simp only [World.frozen?, hh]
  simp
  omega
theorem FInv.set {w0 w : World} {n : Nat} {t : List UInt8} (h : FInv w0 n t w) {j : Nat} (hj : j < n) (b : UInt8) : FInv w0 n (t.set j b) (w.setCell ⟨w0.heap.size, j, none⟩ (.int .u8 (b.toNat : Int))) := by
  obtain ⟨cur, c, hh, hn, hc⟩ := h.blk
  refine ⟨⟨cur.setIfInBounds j (.int .u8 (b.toNat : Int)), c, ?_, hn, ?_⟩, by rw [List.length_set]; exact h.len, h.below.setCell (Nat.le_refl _) _⟩
  · rw [setCell_eq_setRow _ _ _ _ _ _ _ hh]
    exact setRow_heap _ _ _ _ _ _ hh
  · intro i b' hb'
    rw [Array.getElem?_setIfInBounds]
    have hl := h.len
    have hjc : j < cur.size := by
      have h1 := hc j t[j] (List.getElem?_eq_getElem (by omega))
      exact (Array.getElem?_eq_some_iff.1 h1).1
    rw [List.getElem?_set] at hb'
    split at hb'
    · rename_i e
      subst e
      rw [if_pos rfl, if_pos hjc]
      rw [if_pos (by omega)] at hb'
      simp only [Option.some.injEq] at hb'
      rw [hb']
    · rename_i e
      rw [if_neg e]
      exact hc i b' hb'
theorem FInv.drew {w0 w : World} {n : Nat} {t : List UInt8} (h : FInv w0 n t w) : FInv w0 n t w.drew := ⟨h.blk, h.len, h.below.drew⟩
theorem conv_row {w0 w : World} {n : Nat} {t : List UInt8} (h : FInv w0 n t w) (C : Nat) : (convert 30 9 (.slice (some ⟨w0.heap.size, 0, none⟩) n C)).run Tryd.prog w = .ok (.string ⟨t.toArray⟩) w := by
  have hl := h.len
  subst hl
  refine run_convert_bytes_back w _ _ _ _ C t undBs undB undS fun j hj => ?_
  rw [Addr.add_mid, Nat.zero_add]
  exact h.cell (List.getElem?_eq_getElem hj)
theorem flip_byte (b : UInt8) (m : Nat) (hm : m < 8) : bits BinOp.xor IntKind.u8 (b.toNat : Int) (IntKind.u8.wrap (2 ^ m)) = (((b ^^^ UInt8.ofNat (2 ^ m)).toNat : Nat) : Int) := by
  have hb := b.toNat_lt
  have h2 : (2 : Nat) ^ m < 256 := Nat.lt_of_lt_of_le (Nat.pow_lt_pow_right (by decide) hm) (by decide)
  have e0 : ((2 : Int) ^ m) = ((2 ^ m : Nat) : Int) := (Int.natCast_pow 2 m).symm
  have e : IntKind.u8.wrap (2 ^ m) = ((2 ^ m : Nat) : Int) := by
    rw [e0]
    exact IntWalk.u8_in _ ⟨Int.natCast_nonneg _, by omega⟩
  rw [e, u8_xor_nat _ _ hb h2, UInt8.toNat_xor, UInt8.toNat_ofNat', Nat.mod_eq_of_lt h2]
theorem flip_num (bit k p x n : Nat) (h : x = n ^^^ (2 ^ bit * p)) : x ^^^ (2 ^ (8 * ((bit + k) / 8)) * (UInt8.ofNat (2 ^ ((bit + k) % 8))).toNat) = n ^^^ (2 ^ bit * (p ^^^ 2 ^ k)) := by
  have h2 : (2 : Nat) ^ ((bit + k) % 8) < 256 := Nat.lt_of_lt_of_le (Nat.pow_lt_pow_right (by decide) (Nat.mod_lt _ (by decide))) (by decide)
  have hm : ∀ x y : Nat, 2 ^ bit * (x ^^^ y) = (2 ^ bit * x) ^^^ (2 ^ bit * y) := fun x y => by
    have := Nat.shiftLeft_xor_distrib (a := x) (b := y) (i := bit)
    simpa [Nat.shiftLeft_eq, Nat.mul_comm] using this
  rw [UInt8.toNat_ofNat', Nat.mod_eq_of_lt h2, ← Nat.pow_add, Nat.div_add_mod, hm, h, Nat.xor_assoc, ← Nat.pow_add]
set_option maxRecDepth 100000 in
set_option maxHeartbeats 1000000 in
theorem flipped_any (s : ByteArray) (bit : Nat) (pat : Int) (w : World) (hs : s.size ≤ 2000) (hb : bit < 8 * s.size) (hp0 : -9223372036854775808 ≤ pat) (hp1 : pat ≤ 9223372036854775807) :
    Calls Tryd.prog 12 #[.string s, .int .i64 (bit : Int), .int .i64 pat] w (FlipPost s bit w) := by
  have kc := fun (w : World) => run_bytes_of_string (P := Tryd.prog) w 9 30 5 s undS undBs undB
  go_enter Tryd.func12, Tryd.ntmps12
  go_upto_region 2 with (fail)
  have hI : FInv w s.size s.data.toList (w.alloc (.cells (bytesRow s (grownCap w s.size 0 5)) 5 ((bytesRow s (grownCap w s.size 0 5)).size, (bytesRow s (grownCap w s.size 0 5)).size + 1))).drew := by
    refine ⟨⟨_, _, heap_alloc_new _ _, ?_, ?_⟩, by simp, ((Below.refl w.heap.size w).alloc (Nat.le_refl _) _).drew⟩
    · simp [bytesRow]
    · intro j b hb
      obtain ⟨h1, h2⟩ := List.getElem?_eq_some_iff.1 hb
      rw [bytesRow_at s _ j (by simpa using h1), ← h2]
      rfl
  have HI := Lib.hid hI
  clear hI kc
  generalize (w.alloc (.cells (bytesRow s (grownCap w s.size 0 5)) 5 ((bytesRow s (grownCap w s.size 0 5)).size, (bytesRow s (grownCap w s.size 0 5)).size + 1))).drew = W0 at *
  generalize grownCap w s.size 0 5 = C at *
  go_wp2_with fail
  go_loopw [8] (fun i wr => ∃ (k : Nat) (t : List UInt8) (p : Nat), k ≤ 16 ∧ i = .int .i64 k ∧ p < 2 ^ k ∧ numL t = numL s.data.toList ^^^ (2 ^ bit * p) ∧ FInv w s.size t wr) (fun i _ => 16 - (intOf i).toNat)
  case atStart => exact ⟨0, s.data.toList, 0, by omega, rfl, by simp, by simp, HI.out⟩
  case round =>
    obtain ⟨k, t, p, hk, rfl, hp, hn, hI⟩ := hrel
    have HN := Lib.hid hn
    have HP := Lib.hid hp
    clear HI
    have HI := Lib.hid hI
    clear hn hp hI
    by_cases hlt : k < 16
    · by_cases h8 : bit + k < 8 * s.size
      · have hd : decide ((bit : Int) + (k : Int) < 8 * (s.size : Int)) = true := by simp; omega
        have hj : (bit + k) / 8 < s.size := by omega
        obtain ⟨b, hbj⟩ : ∃ b, t[(bit + k) / 8]? = some b := ⟨_, List.getElem?_eq_getElem (by rw [HI.out.len]; exact hj)⟩
        have hc := HI.out.drew.cell hbj
        have hf := HI.out.drew.free hj
        have HI' := Lib.hid HI.out.drew
        have HBJ := Lib.hid hbj
        clear hbj
        go_wp2_with fail
        · have x1 : (0 : Int) ≤ ((bit : Int) + (k : Int)) / 8 := by omega
          have x2 : ((bit : Int) + (k : Int)) / 8 < (s.size : Int) := by omega
          have x3 : (((bit : Int) + (k : Int)) / 8).toNat = (bit + k) / 8 := by omega
          have x4 : IntKind.i64.wrap (((bit : Int) + (k : Int)) / 8) = ((bit : Int) + (k : Int)) / 8 := IntWalk.i64_in _ (by omega)
          have x9 : ((bit : Int) + (k : Int)).tdiv 8 = ((bit : Int) + (k : Int)) / 8 := Int.tdiv_eq_ediv_of_nonneg (by omega)
          have x5 : ((bit : Int) + (k : Int)).tmod 8 = ((bit : Int) + (k : Int)) % 8 := Int.tmod_eq_emod_of_nonneg (by omega)
          have x6 : (0 : Int) ≤ ((bit : Int) + (k : Int)) % 8 := by omega
          have x7 : ((bit : Int) + (k : Int)) % 8 < 8 := by omega
          have x8 : (((bit : Int) + (k : Int)) % 8).toNat = (bit + k) % 8 := by omega
          go_still_tail 13, (by kernel_rfl)
          change wpList _ _ _ _ _ wr.drew
          generalize wr.drew = w2 at *
          clear x1 x2 x3 x4 x5 x6 x7 x8 x9
          have HX := Lib.hid (flip_byte b ((bit + k) % 8) (Nat.mod_lt _ (by decide)))
          have HS := Lib.hid (HI'.out.set hj (b ^^^ UInt8.ofNat (2 ^ ((bit + k) % 8))))
          have HL := Lib.hid (numL_set t ((bit + k) / 8) b (UInt8.ofNat (2 ^ ((bit + k) % 8))) HBJ.out)
          clear HI
          go_wp2_with fail
          go_roundw
          case rel =>
            refine ⟨k + 1, t.set ((bit + k) / 8) (b ^^^ UInt8.ofNat (2 ^ ((bit + k) % 8))), p ^^^ 2 ^ k, by omega, by go_num, ?_, ?_, ?_⟩
            · exact Nat.xor_lt_two_pow (Nat.lt_trans HP.out (Nat.pow_lt_pow_right (by decide) (Nat.lt_succ_self k))) (Nat.pow_lt_pow_right (by decide) (Nat.lt_succ_self k))
            · exact (HL.out.trans (flip_num _ _ _ _ _ HN.out))
            · have hx := HX.out
              rw [IntKind.wrap_u8] at hx
              rw [hx]; exact HS.out
          case measure => simp [intOf]; omega
        · go_roundw
          case rel => exact ⟨k + 1, t, p, by omega, by go_num, Nat.lt_trans HP.out (Nat.pow_lt_pow_right (by decide) (Nat.lt_succ_self k)), HN.out, HI.out⟩
          case measure => simp [intOf]; omega
      · have hd : decide ((bit : Int) + (k : Int) < 8 * (s.size : Int)) = false := by simp; omega
        go_wp2_with fail
        all_goals
          go_roundw
          case rel => exact ⟨k + 1, t, p, by omega, by go_num, Nat.lt_trans HP.out (Nat.pow_lt_pow_right (by decide) (Nat.lt_succ_self k)), HN.out, HI.out⟩
          case measure => simp [intOf]; omega
    · obtain rfl : k = 16 := by omega
      clear hlt hk
      have hc := conv_row HI.out C
      go_wp2_with fail
      go_ret
      exact ⟨t, p, rfl, HI.out.len, HP.out, HN.out, HI.out.below⟩
end Go.Proofs.YtonhaoieeefglaaDoor
