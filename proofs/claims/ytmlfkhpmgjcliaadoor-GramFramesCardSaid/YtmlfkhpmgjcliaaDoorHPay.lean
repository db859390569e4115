/- frame.payload returns what the plain function payOpt says, for all stretches. -/
import Derived.Test.YtmlfkhpmgjcliaaDoorHA
import Derived.BigQuiet
import Derived.Deep.QuietTactic
namespace Go.Proofs.YtmlfkhpmgjcliaaDoor
open Go.RowKit
theorem own_slice {w : World} {base n : Nat} {v : Value} {bs : List UInt8} (hn : 0 < n) (h : w.ownsRow base 5 1 v n (bytesV bs)) : ∃ g c, v = .slice (some ⟨g, 0, none⟩) n c ∧ n ≤ c ∧ (∀ j b, bs[j]? = some b → w.cell? ⟨g, j, none⟩ = some (.int .u8 (b.toNat : Int))) := by
  have hlen : bs.length = n := by have := h.1; rw [bytesV_length] at this; omega
  rcases h.2 with ⟨_, h0⟩ | ⟨g, cap, cur, rfl, hg, hh, hnc, _, hcs, htk⟩
  · omega
  · refine ⟨g, cap, rfl, hnc, fun j b hb => ?_⟩
    rw [cell_of_row _ _ _ _ _ _ hh]
    have h1 : (cur.toList.take (n * 1))[j]? = (bytesV bs)[j]? := by rw [htk]
    have hj : j < n := by rw [← hlen]; exact (List.getElem?_eq_some_iff.1 hb).1
    rw [List.getElem?_take, if_pos (by omega)] at h1
    simpa [bytesV, hb] using h1
theorem ret2_eq {a : ByteArray} {b b' : Bool} (h : b = b') : Ending.returned (.tuple #[.string a, .bool b]) = .returned (.tuple #[.string a, .bool b']) := by rw [h]
theorem bodyOk_at {pre : List UInt8} {m : Nat} (hm : pre.length = m + 2) : bodyOk pre = decide (crcL (pre.take m) = (pre[m]?.getD 0).toNat + 256 * (pre[m + 1]?.getD 0).toNat) := by
  unfold bodyOk
  rw [hm, show m + 2 - 2 = m by omega, show m + 2 - 1 = m + 1 by omega]
  simp
theorem getD_at {pre : List UInt8} {j : Nat} (h : j < pre.length) : pre[j]? = some (pre[j]?.getD 0) := by
  rw [List.getElem?_eq_getElem h]
  rfl
set_option maxHeartbeats 4000000 in
set_option maxRecDepth 100000 in
theorem payload_any (s : ByteArray) (w : World) :
    Calls Tryd.prog 50 #[.string s] w (PayPost s.data.toList w) := by
  obtain ⟨i0, hi, hz0, hz1, hz2⟩ := info_parts infoB
  have hlen : s.data.toList.length = s.size := by simp
  by_cases hbig : 2048 < s.size
  · have HN := Lib.hid (payOpt_long (l := s.data.toList) (by omega))
    clear hlen
    go_enter Tryd.func50, Tryd.ntmps50
    go_wp2_with fail
    go_ret2
    exact pay_none HN.out rfl (Below.refl _ _)
  · have HL := Lib.hid hlen
    clear hlen
    go_enter Tryd.func50, Tryd.ntmps50
    go_wp2_with fail
    go_loopw [4, 5] (fun v i wr => ∃ (k : Nat) (pre : List UInt8), k ≤ s.size ∧ pre.length ≤ k ∧ i = .int .i64 (k : Int) ∧ wr.ownsRow w.heap.size 5 1 v pre.length (bytesV pre) ∧ Below w.heap.size w wr ∧
      unescL s.data.toList = (unescL (s.data.toList.drop k)).map fun t => pre ++ t) (fun _ i _ => s.size - (intOf i).toNat)
    case atStart => exact ⟨0, [], by omega, by simp, rfl, World.ownsRow_nil _ _ _ _, Below.refl _ _, unesc_start _⟩
    case round =>
      obtain ⟨k, pre, hk, hp, rfl, hown, hB, hU⟩ := hrel
      have HP := Lib.hid hp
      have HO := Lib.hid hown
      have HB := Lib.hid hB
      have HU := Lib.hid hU
      clear hp hown hB hU
      by_cases hlt : k < s.size
      · have i1 := fun w => index_str s (k : Int) k rfl hlt w
        have E1 : Hid (s.data.toList[k]? = some s[k]) := by
          refine Lib.hid ?_
          rw [List.getElem?_eq_getElem (by rw [HL.out]; exact hlt)]
          rfl
        generalize s[k] = c at *
        have lc := c.toNat_lt
        by_cases hc : c.toNat = 125
        · obtain rfl : c = 125 := UInt8.toNat_inj.1 (by rw [hc]; rfl)
          clear hc
          by_cases hlt2 : k + 1 < s.size
          · have i2 := fun w => index_str s ((k : Int) + 1) (k + 1) (by omega) hlt2 w
            have E2 : Hid (s.data.toList[k + 1]? = some s[k + 1]) := by
              refine Lib.hid ?_
              rw [List.getElem?_eq_getElem (by rw [HL.out]; exact hlt2)]
              rfl
            generalize s[k + 1] = d at *
            have ld := d.toNat_lt
            by_cases h94 : d.toNat = 94
            · obtain rfl : d = 94 := UInt8.toNat_inj.1 (by rw [h94]; rfl)
              have HS := Lib.hid (unesc_step2 HU.out E1.out E2.out (Or.inl ⟨rfl, rfl⟩))
              clear h94
              go_wp2_with (at_builtin; refine Hid.out ?_)
              refine Lib.hid ?_
              refine wpList_append_own _ rfl _ _ 65 rfl w.heap.size 5 i0 (.int .u8 0) 1 1 undBs hi hz0 hz1 hz2 rfl (by decide) _ _ _ rfl (HO.out.alloc _) ⟨wr.heap.size, 0, none⟩ 1 1 _ rfl (by rfl) (cells_new _ _ _) (by simp [Value.oneCell']) (by unfold maxLen; have := HP.out; omega) (by have := HP.out; omega) (by have := HB.out.size; simpa using Nat.le_succ_of_le this) ?_
              intro v' w1 hown1 hgr1 _
              have HO1 : Hid (w1.ownsRow w.heap.size 5 1 v' (pre ++ [126]).length (bytesV (pre ++ [126]))) := by
                refine Lib.hid ?_
                rw [bytesV_append, List.length_append]
                exact hown1
              have HB1 : Hid (Below w.heap.size w w1) := Lib.hid ((HB.out.alloc HB.out.size _).grown hgr1 (by have := HB.out.size; simpa using Nat.le_succ_of_le this) (fun q e => HO.out.block_ge e))
              clear hown1 hgr1
              go_wp2_with fail
              go_roundw
              case rel => exact ⟨k + 2, _, by omega, by have := HP.out; simp; omega, by go_num, HO1.out, HB1.out, HS.out⟩
              case measure => simp [intOf]; omega
            · have n94 : ((d.toNat : Int) == 94) = false := beq_eq_false_iff_ne.2 (by omega)
              have d94 : ¬ d = 94 := fun e => h94 (by rw [e]; rfl)
              have D94 := Lib.hid d94
              clear h94 d94
              by_cases h93 : d.toNat = 93
              · obtain rfl : d = 93 := UInt8.toNat_inj.1 (by rw [h93]; rfl)
                have HS := Lib.hid (unesc_step2 HU.out E1.out E2.out (Or.inr ⟨rfl, rfl⟩))
                clear h93
                go_wp2_with (at_builtin; refine Hid.out ?_)
                refine Lib.hid ?_
                refine wpList_append_own _ rfl _ _ 65 rfl w.heap.size 5 i0 (.int .u8 0) 1 1 undBs hi hz0 hz1 hz2 rfl (by decide) _ _ _ rfl (HO.out.alloc _) ⟨wr.heap.size, 0, none⟩ 1 1 _ rfl (by rfl) (cells_new _ _ _) (by simp [Value.oneCell']) (by unfold maxLen; have := HP.out; omega) (by have := HP.out; omega) (by have := HB.out.size; simpa using Nat.le_succ_of_le this) ?_
                intro v' w1 hown1 hgr1 _
                have HO1 : Hid (w1.ownsRow w.heap.size 5 1 v' (pre ++ [125]).length (bytesV (pre ++ [125]))) := by
                  refine Lib.hid ?_
                  rw [bytesV_append, List.length_append]
                  exact hown1
                have HB1 : Hid (Below w.heap.size w w1) := Lib.hid ((HB.out.alloc HB.out.size _).grown hgr1 (by have := HB.out.size; simpa using Nat.le_succ_of_le this) (fun q e => HO.out.block_ge e))
                clear hown1 hgr1
                go_wp2_with fail
                go_roundw
                case rel => exact ⟨k + 2, _, by omega, by have := HP.out; simp; omega, by go_num, HO1.out, HB1.out, HS.out⟩
                case measure => simp [intOf]; omega
              · have n93 : ((d.toNat : Int) == 93) = false := beq_eq_false_iff_ne.2 (by omega)
                have d93 : ¬ d = 93 := fun e => h93 (by rw [e]; rfl)
                have HS := Lib.hid (payOpt_none (unesc_fail2 HU.out E1.out E2.out D94.out d93))
                clear h93 d93
                go_wp2_with fail
                go_ret2
                exact pay_none HS.out rfl HB.out
          · have HS := Lib.hid (payOpt_none (unesc_fail1 HU.out E1.out (by rw [HL.out]; omega)))
            go_wp2_with fail
            go_ret2
            exact pay_none HS.out rfl HB.out
        · have n125 : ((c.toNat : Int) == 125) = false := beq_eq_false_iff_ne.2 (by omega)
          have HS := Lib.hid (unesc_step1 HU.out E1.out (fun e => hc (by rw [e]; rfl)))
          clear hc
          go_wp2_with (at_builtin; refine Hid.out ?_)
          refine Lib.hid ?_
          refine wpList_append_own _ rfl _ _ 65 rfl w.heap.size 5 i0 (.int .u8 0) 1 1 undBs hi hz0 hz1 hz2 rfl (by decide) _ _ _ rfl (HO.out.alloc _) ⟨wr.heap.size, 0, none⟩ 1 1 _ rfl (by rfl) (cells_new _ _ _) (by simp [Value.oneCell']) (by unfold maxLen; have := HP.out; omega) (by have := HP.out; omega) (by have := HB.out.size; simpa using Nat.le_succ_of_le this) ?_
          intro v' w1 hown1 hgr1 _
          have HO1 : Hid (w1.ownsRow w.heap.size 5 1 v' (pre ++ [c]).length (bytesV (pre ++ [c]))) := by
            refine Lib.hid ?_
            rw [bytesV_append, List.length_append]
            exact hown1
          have HB1 : Hid (Below w.heap.size w w1) := Lib.hid ((HB.out.alloc HB.out.size _).grown hgr1 (by have := HB.out.size; simpa using Nat.le_succ_of_le this) (fun q e => HO.out.block_ge e))
          clear hown1 hgr1
          go_wp2_with fail
          go_roundw
          case rel => exact ⟨k + 1, _, by omega, by have := HP.out; simp; omega, by go_num, HO1.out, HB1.out, HS.out⟩
          case measure => simp [intOf]; omega
      · obtain rfl : k = s.size := by omega
        have HS := Lib.hid (unesc_done HU.out (by rw [HL.out]))
        have HPL : Hid (pre.length ≤ 2048) := Lib.hid (by have := HP.out; omega)
        clear hlt hk HP HU
        by_cases hsh : pre.length < 2
        · obtain ⟨a, c, rfl⟩ : ∃ a c, u4 = .slice a pre.length c := by
            rcases HO.out.2 with ⟨h1, h2⟩ | ⟨g, cap, cur, h1, _⟩
            · exact ⟨none, 0, by rw [h1, h2]⟩
            · exact ⟨_, _, h1⟩
          have HN : Hid (payOpt s.data.toList = none) := by
            refine Lib.hid ?_
            rw [payOpt_some (by rw [HL.out]; exact hbig) HS.out]
            have : bodyOk pre = false := by
              unfold bodyOk
              have : decide (2 ≤ pre.length) = false := by simp; omega
              rw [this]; rfl
            rw [this]
            rfl
          have x1 : decide ((pre.length : Int) - 2 < 0) = true := by simp; omega
          go_wp2_with fail
          go_ret2
          exact pay_none HN.out rfl HB.out
        · obtain ⟨m, hm⟩ : ∃ m, pre.length = m + 2 := ⟨pre.length - 2, by omega⟩
          obtain ⟨g, c, rfl, hcap, hcell⟩ := own_slice (by omega) HO.out
          rw [hm] at hcap ⊢
          have hconv : (convert 65 9 (.slice (some ⟨g, 0, none⟩) m c)).run Tryd.prog wr = .ok (.string ⟨(pre.take m).toArray⟩) wr := by
            have hml : (pre.take m).length = m := by rw [List.length_take]; omega
            have := run_convert_bytes_back wr 65 9 5 ⟨g, 0, none⟩ c (pre.take m) undBs undB undS (fun j hj => by
              rw [Addr.add_mid, Nat.zero_add]
              rw [hml] at hj
              rw [hcell j pre[j] (List.getElem?_eq_getElem (by omega))]
              simp)
            rwa [hml] at this
          have hc1 := hcell m _ (getD_at (by omega))
          have hc2 := hcell (m + 1) _ (getD_at (by omega))
          have HOK := Lib.hid (bodyOk_at hm)
          have HSM : Hid (∀ nq e, e = Ending.returned (.tuple #[.string ⟨(pre.take m).toArray⟩, .bool (bodyOk pre)]) → PayPost s.data.toList w e (wr.drewN nq)) := by
            refine Lib.hid (fun nq e he => pay_some (by rw [HL.out]; exact hbig) HS.out ?_ (below_drewN HB.out))
            rw [he, hm, show m + 2 - 2 = m by omega]
          have b1 := (pre[m]?.getD 0).toNat_lt
          have b2 := (pre[m + 1]?.getD 0).toNat_lt
          have hM : m ≤ 2048 := by have := HPL.out; omega
          have HMl := Lib.hid hm
          generalize (pre[m]?.getD 0).toNat = p1 at *
          generalize (pre[m + 1]?.getD 0).toNat = p2 at *
          have hX : (⟨(pre.take m).toArray⟩ : ByteArray).size ≤ 2048 := by
            show (pre.take m).length ≤ 2048
            rw [List.length_take]
            omega
          have HXd : Hid ((⟨(pre.take m).toArray⟩ : ByteArray).data.toList = pre.take m) := rfl
          clear hcell hsh hm hbig
          have hcr := crcL_lt (pre.take m)
          go_upto_region 20 with (fail)
          have z1 : (0 : Int) ≤ (m : Int) := by omega
          have z2 : (m : Int) < (m : Int) + 2 := by omega
          have z3 : (m : Int) + 1 < (m : Int) + 2 := by omega
          have z4 : (0 : Int) ≤ (m : Int) + 1 := by omega
          have z5 : ((m : Int) + 1).toNat = m + 1 := by omega
          go_quiet ((go_at_call 44; exact Calls.quiet_of_same ((crc_any _ _ (by unfold maxLen; omega)).mono fun e w' h => ⟨h.1, h.2.symm⟩)))
          go_wp2_with fail
          have hE : ((crcL (pre.take m) : Int) == (p1 : Int) + 256 * (p2 : Int)) = bodyOk pre := by
            rw [HOK.out, Bool.eq_iff_iff, beq_iff_eq, decide_eq_true_iff]
            omega
          go_ret2
          exact HSM.out _ _ (ret2_eq hE)
end Go.Proofs.YtmlfkhpmgjcliaaDoor
