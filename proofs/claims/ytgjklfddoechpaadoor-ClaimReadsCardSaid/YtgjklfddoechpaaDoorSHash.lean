/- sign.hash, nonce and challenge. -/
import Derived.Test.YtgjklfddoechpaaDoorSIn
import Derived.Test.YtgjklfddoechpaaDoorSShort
import Derived.Test.YtgjklfddoechpaaDoorWText
import Derived.Test.YtgjklfddoechpaaDoorWOps
import Derived.Outline
namespace Go.Proofs.YtgjklfddoechpaaDoor
open Go.RowKit
theorem join_empty : ∀ l : List (List UInt8), Lib.join l [] = l.flatten
  | [] => rfl
  | x :: r => by
    rw [Lib.join_cons, List.flatten_cons]
    unfold Lib.joinTail
    simp
set_option maxRecDepth 100000 in
set_option maxHeartbeats 2000000 in
theorem hash_any (bk : Nat) (xs : List ByteArray) (w : World) (hg : Glob w) (hcells : ∀ (j : Nat) x, xs[j]? = some x → w.cell? ⟨bk, 0 + j, none⟩ = some (.string x)) (hbk : bk < w.heap.size) (hN : xs.length ≤ 100) (hlen : (xs.map (·.data.toList)).flatten.length ≤ 1000000) :
    Calls Tryd.prog 36 #[.slice (some ⟨bk, 0, none⟩) xs.length xs.length] w fun e w' => e = .returned (.int .i64 (shortL (xs.map (·.data.toList)).flatten : Nat)) ∧ Below w.heap.size w w' := by
  have HG := Lib.hid hg
  have HC := Lib.hid hcells
  have hj : (Lib.join (xs.map (·.data.toList)) (ByteArray.mk #[]).data.toList) = (xs.map (·.data.toList)).flatten := join_empty _
  have HJ := Lib.hid hj
  obtain ⟨F, hF⟩ : ∃ F, F = (xs.map (·.data.toList)).flatten := ⟨_, rfl⟩
  rw [← hF] at HJ hlen ⊢
  obtain ⟨S, hS⟩ : ∃ S : ByteArray, S = ⟨F.toArray⟩ := ⟨_, rfl⟩
  have HL : Hid (S.size ≤ 1000000) := Lib.hid (by rw [hS]; show F.toArray.size ≤ _; rw [List.size_toArray]; exact hlen)
  have HL2 := Lib.hid hlen
  have HS : Hid (S.data.toList = F) := Lib.hid (by rw [hS])
  have HSd := Lib.hid hS
  obtain ⟨z, hz⟩ : ∃ z, z = shortL F := ⟨_, rfl⟩
  have HZ := Lib.hid hz
  rw [← hz]
  clear hg hcells hj hlen hF hS hz
  go_enter Tryd.func36, Tryd.ntmps36
  go_wp2_with fail
  refine (Tryd.strings_Join bk 0 xs.length xs ⟨#[]⟩ _ HC.out hbk (by omega) (Nat.le_refl _) (by rw [HJ.out]; exact Nat.le_trans HL2.out (by decide))).mono ?_
  rintro e w1 ⟨rfl, hb⟩
  rw [HJ.out, ← HSd.out]
  have HG1 := Lib.hid (HG.out.below hb HG.out.size)
  have HB1 := Lib.hid hb
  clear hb
  go_wp2_with fail
  refine (short_any S _ HG1.out HL.out).mono ?_
  rintro e w2 ⟨rfl, hb⟩
  rw [HS.out, ← HZ.out]
  have HB2 := Lib.hid (HB1.out.trans (hb.mono HB1.out.size))
  clear hb
  go_wp2_with fail
  go_ret
  exact ⟨rfl, HB2.out⟩
end Go.Proofs.YtgjklfddoechpaaDoor
