/- Package wire: slices.Reverse on bytes, digits, Int and Num. -/
import Derived.Test.YtleiiedacachjaaBytes
import Derived.Test.YtleiiedacachjaaWOrd
import Derived.Deep.LoopGhost
import Derived.Sort.WalkB12
import Derived.Lib.SlicesMore
import Derived.Lib.OwnBridge
namespace Go.Proofs.Ytleiiedacachjaa
open Go.RowKit Go.Sort
def encU8 (b : UInt8) : Value := .int .u8 (b.toNat : Int)
theorem bytesV_enc (l : List UInt8) : bytesV l = l.map encU8 := rfl
set_option maxHeartbeats 1600000 in
set_option maxRecDepth 1000000 in
theorem reverse_arr (blk off cap : Nat) (d : Array UInt8) (w : World) (hH : Holds encU8 w blk off d) (hsz : d.size ≤ 9223372036854775807) :
    Calls Try.prog 58 #[.slice (some ⟨blk, off, none⟩) d.size cap] w fun e w' => e = .returned (.tuple #[]) ∧ ∃ n, w' = putRow encU8 (Sort.ahead w n) blk off d.reverse := by
  go_enter Try.func58, Try.ntmps58
  go_wp2_with fail
  go_loopg [2, 3] d.size (fun k s2 s3 wr => ∃ (i jn : Nat) (jz : Int) (dk : Array UInt8) (n : Nat), s2 = .int .i64 i ∧ s3 = .int .i64 jz ∧ ((i : Int) < jz → jz = jn ∧ jn < d.size) ∧ (¬ (i : Int) < jz → ¬ i < jn) ∧ jn - i ≤ k ∧
    dk.size = d.size ∧ wr = putRow encU8 (Sort.ahead w n) blk off dk ∧ reverseLoop i jn dk = reverseLoop 0 (d.size - 1) d)
  case atStart => exact ⟨0, d.size - 1, (d.size : Int) - 1, d, 0, rfl, rfl, fun h => ⟨by omega, by omega⟩, fun h => by omega, by omega, rfl, (putRow_self encU8 w blk off d hH).symm, rfl⟩
  case round =>
    obtain ⟨i, jn, jz, dk, n, rfl, rfl, h1, h2, hk, hds, hwr, heq⟩ := hrel
    by_cases hlt : (i : Int) < jz
    · obtain ⟨rfl, hjn⟩ := h1 hlt
      have hij : i < jn := by omega
      have hHk : Holds encU8 wr blk off dk := by rw [hwr]; exact holds_putRow encU8 _ blk off d dk (holds_ahead encU8 w n blk off d hH) hds
      obtain ⟨ci, fi⟩ := hHk i (by omega)
      obtain ⟨cj, fj⟩ := hHk jn (by omega)
      have A : Aside (wr = putRow encU8 (Sort.ahead w n) blk off dk) := hwr
      have hi1 : i < d.size := by omega
      have hj1 : jn < d.size := by omega
      unfold encU8 at ci cj
      clear hwr hHk hH h1 h2
      go_wp2_with fail
      go_region
      go_wp2
      go_roundg (jn - 1 - (i + 1))
      case measure => omega
      case rel =>
        rw [reverseLoop, if_pos hij] at heq
        exact ⟨i + 1, jn - 1, (jn : Int) - 1, swp dk i jn, n + 1, by simp, rfl, fun h => ⟨by omega, by omega⟩, fun h => by omega, Nat.le_refl _, by rw [size_swp]; exact hds,
          swap_world encU8 (by omega) (by omega) A.out (by first | rfl | simp [encU8, getElem!_pos, show jn < dk.size by omega]) (by first | rfl | simp [encU8, getElem!_pos, show i < dk.size by omega]), heq⟩
    · have hnot := h2 hlt
      go_wp2
      go_end0
      refine ⟨rfl, n, ?_⟩
      rw [reverseLoop, if_neg hnot] at heq
      rw [← Lib.reverseLoop_reverse, ← heq]
theorem reverse_any (base n : Nat) (v : Value) (l : List UInt8) (w w0 : World) (B : Nat) (h : w.ownsRow base 5 1 v n (bytesV l)) (hn : 0 < n) (hb : Below B w0 w) (hB : B ≤ base) :
    Calls Try.prog 58 #[v] w fun e w' => e = .returned (.tuple #[]) ∧ w'.ownsRow base 5 1 v n (bytesV l.reverse) ∧ Below B w0 w' := by
  have hv : v ≠ .slice none 0 0 := by
    rintro rfl
    rcases h.2 with ⟨_, h0⟩ | ⟨g, cap, cur, h1, _⟩
    · omega
    · cases h1
  rw [bytesV_enc] at h
  obtain ⟨g, cap, rfl, hbg, hlt, hnc, hcm, hl, hH⟩ := Lib.holds_of_ownsRow h hv
  have hs : l.toArray.size = n := by simpa using hl
  have hm : cap ≤ 9223372036854775807 := by unfold maxLen at hcm; exact hcm
  have hc := reverse_arr g 0 cap l.toArray w hH (by omega)
  rw [hs] at hc
  refine hc.mono ?_
  rintro e w' ⟨rfl, q, rfl⟩
  refine ⟨rfl, ?_, Lib.below_putRow hb (by omega)⟩
  have := Lib.ownsRow_putRow (q := q) (k := n) (ys := l.reverse) h (by simpa using hl) (Nat.le_refl _)
  rw [List.take_of_length_le (by simp; omega)] at this
  rw [bytesV_enc]
  simpa using this
end Go.Proofs.Ytleiiedacachjaa
