/- bourneref23.Payload returns what the plain function payOpt says. -/
import Derived.Test.YtonhaoieeefglaaFInv
import Derived.Deep.RegionHeld3
namespace Go.Proofs.Ytonhaoieeefglaa
open Go.RowKit
def RPayPost (l : List UInt8) (w : World) (e : Ending) (w' : World) : Prop :=
  e = .returned (.tuple #[.string ⟨((payOpt l).getD []).toArray⟩, .bool (payOpt l).isSome]) ∧ Below w.heap.size w w'
theorem rpay_none {l : List UInt8} {w w' : World} {e : Ending} (h : payOpt l = none) (he : e = .returned (.tuple #[.string ⟨#[]⟩, .bool false])) (hb : Below w.heap.size w w') : RPayPost l w e w' :=
  ⟨by rw [he, h]; rfl, hb⟩
theorem rpay_some {l p : List UInt8} {w w' : World} {e : Ending} (h : payOpt l = some p) (he : e = .returned (.tuple #[.string ⟨p.toArray⟩, .bool true])) (hb : Below w.heap.size w w') : RPayPost l w e w' :=
  ⟨by rw [he, h]; rfl, hb⟩
theorem conv_any {w : World} {pre : List UInt8} {g c : Nat} (hc : ∀ j b, pre[j]? = some b → w.cell? ⟨g, j, none⟩ = some (.int .u8 (b.toNat : Int))) (n : Nat) (hn : n ≤ pre.length) :
    (convert 35 9 (.slice (some ⟨g, 0, none⟩) n c)).run Try.prog w = .ok (.string ⟨(pre.take n).toArray⟩) w := by
  have hml : (pre.take n).length = n := by rw [List.length_take]; omega
  have := run_convert_bytes_back w 35 9 5 ⟨g, 0, none⟩ c (pre.take n) undBs undB undS (fun j hj => by
    rw [Addr.add_mid, Nat.zero_add]
    rw [hml] at hj
    rw [hc j pre[j] (List.getElem?_eq_getElem (by omega))]
    simp)
  rwa [hml] at this
theorem ok_iff {pre : List UInt8} {m : Nat} (hm : pre.length = m + 2) : bodyOk pre = decide (bodyL (pre.take m) = pre) := by
  rw [Bool.eq_iff_iff, decide_eq_true_iff]
  constructor
  · intro h
    have := body_of_ok h
    rwa [show pre.length - 2 = m by omega] at this
  · intro h
    rw [← h]
    exact bodyOk_body _
set_option maxHeartbeats 4000000 in
set_option maxRecDepth 100000 in
theorem rpayload_any (s : ByteArray) (w : World) (hs : s.size ≤ 100000) :
    Calls Try.prog 21 #[.string s] w (RPayPost s.data.toList w) := by
  obtain ⟨i0, hi, hz0, hz1, hz2⟩ := info_parts infoB
  have hlen : s.data.toList.length = s.size := by simp
  have HL := Lib.hid hlen
  clear hlen
  go_enter Try.func21, Try.ntmps21
  go_wp2_with fail
  go_loopw [4, 5] (fun v i wr => ∃ (k : Nat) (pre : List UInt8), k ≤ s.size ∧ pre.length ≤ k ∧ i = .int .i64 (k : Int) ∧ wr.ownsRow w.heap.size 5 1 v pre.length (bytesV pre) ∧ Below w.heap.size w wr ∧
    unescL s.data.toList = (unescL (s.data.toList.drop k)).map fun t => pre ++ t) (fun _ i _ => s.size - (intOf i).toNat)
  case atStart => exact ⟨0, [], by omega, by simp, rfl, World.ownsRow_nil _ _ _ _, Below.refl _ _, unesc_start _⟩
  case round =>
    obtain ⟨k, pre, hk, hp, rfl, hown, hB, hU⟩ := hrel
    have HP := Lib.hid hp
    have HO := Lib.hid hown
    have HB := Lib.hid hB
    have HU := Lib.hid hU
    clear hp hown hB hU
    by_cases hlt : k < s.size
    · have i1 := fun w => index_str s (k : Int) k rfl hlt w
      have E1 : Hid (s.data.toList[k]? = some s[k]) := by
        refine Lib.hid ?_
        rw [List.getElem?_eq_getElem (by rw [HL.out]; exact hlt)]
        rfl
      generalize s[k] = c at *
      have lc := c.toNat_lt
      by_cases hc : c.toNat = 125
      · obtain rfl : c = 125 := UInt8.toNat_inj.1 (by rw [hc]; rfl)
        clear hc
        by_cases hlt2 : k + 1 < s.size
        · have i2 := fun w => index_str s ((k : Int) + 1) (k + 1) (by omega) hlt2 w
          have q1 : (((k : Int) + 1) == (s.size : Int)) = false := beq_eq_false_iff_ne.2 (by omega)
          have E2 : Hid (s.data.toList[k + 1]? = some s[k + 1]) := by
            refine Lib.hid ?_
            rw [List.getElem?_eq_getElem (by rw [HL.out]; exact hlt2)]
            rfl
          generalize s[k + 1] = d at *
          have ld := d.toNat_lt
          by_cases h94 : d.toNat = 94
          · obtain rfl : d = 94 := UInt8.toNat_inj.1 (by rw [h94]; rfl)
            have HS := Lib.hid (unesc_step2 HU.out E1.out E2.out (Or.inl ⟨rfl, rfl⟩))
            clear h94
            go_wp2_with (at_builtin; refine Hid.out ?_)
            refine Lib.hid ?_
            refine wpList_append_own _ rfl _ _ 35 rfl w.heap.size 5 i0 (.int .u8 0) 1 1 undBs hi hz0 hz1 hz2 rfl (by decide) _ _ _ rfl (HO.out.alloc _) ⟨wr.heap.size, 0, none⟩ 1 1 _ rfl (by rfl) (cells_new _ _ _) (by simp [Value.oneCell']) (by unfold maxLen; have := HP.out; omega) (by have := HP.out; omega) (by have := HB.out.size; simpa using Nat.le_succ_of_le this) ?_
            intro v' w1 hown1 hgr1 _
            have HO1 : Hid (w1.ownsRow w.heap.size 5 1 v' (pre ++ [126]).length (bytesV (pre ++ [126]))) := by
              refine Lib.hid ?_
              rw [bytesV_append, List.length_append]
              exact hown1
            have HB1 : Hid (Below w.heap.size w w1) := Lib.hid ((HB.out.alloc HB.out.size _).grown hgr1 (by have := HB.out.size; simpa using Nat.le_succ_of_le this) (fun q e => HO.out.block_ge e))
            clear hown1 hgr1
            go_wp2_with fail
            go_roundw
            case rel => exact ⟨k + 2, _, by omega, by have := HP.out; simp; omega, by go_num, HO1.out, HB1.out, HS.out⟩
            case measure => simp [intOf]; omega
          · have n94 : ((d.toNat : Int) == 94) = false := beq_eq_false_iff_ne.2 (by omega)
            have d94 : ¬ d = 94 := fun e => h94 (by rw [e]; rfl)
            have D94 := Lib.hid d94
            clear h94 d94
            by_cases h93 : d.toNat = 93
            · obtain rfl : d = 93 := UInt8.toNat_inj.1 (by rw [h93]; rfl)
              have HS := Lib.hid (unesc_step2 HU.out E1.out E2.out (Or.inr ⟨rfl, rfl⟩))
              clear h93
              go_wp2_with (at_builtin; refine Hid.out ?_)
              refine Lib.hid ?_
              refine wpList_append_own _ rfl _ _ 35 rfl w.heap.size 5 i0 (.int .u8 0) 1 1 undBs hi hz0 hz1 hz2 rfl (by decide) _ _ _ rfl (HO.out.alloc _) ⟨wr.heap.size, 0, none⟩ 1 1 _ rfl (by rfl) (cells_new _ _ _) (by simp [Value.oneCell']) (by unfold maxLen; have := HP.out; omega) (by have := HP.out; omega) (by have := HB.out.size; simpa using Nat.le_succ_of_le this) ?_
              intro v' w1 hown1 hgr1 _
              have HO1 : Hid (w1.ownsRow w.heap.size 5 1 v' (pre ++ [125]).length (bytesV (pre ++ [125]))) := by
                refine Lib.hid ?_
                rw [bytesV_append, List.length_append]
                exact hown1
              have HB1 : Hid (Below w.heap.size w w1) := Lib.hid ((HB.out.alloc HB.out.size _).grown hgr1 (by have := HB.out.size; simpa using Nat.le_succ_of_le this) (fun q e => HO.out.block_ge e))
              clear hown1 hgr1
              go_wp2_with fail
              go_roundw
              case rel => exact ⟨k + 2, _, by omega, by have := HP.out; simp; omega, by go_num, HO1.out, HB1.out, HS.out⟩
              case measure => simp [intOf]; omega
            · have n93 : ((d.toNat : Int) == 93) = false := beq_eq_false_iff_ne.2 (by omega)
              have b93 : ((d.toNat : Int) != 93) = true := by rw [bne_iff_ne]; omega
              have b94 : ((d.toNat : Int) != 94) = true := by rw [bne, n94]; rfl
              have d93 : ¬ d = 93 := fun e => h93 (by rw [e]; rfl)
              have HS := Lib.hid (payOpt_none (unesc_fail2 HU.out E1.out E2.out D94.out d93))
              clear h93 d93
              go_wp2_with fail
              go_ret2
              exact rpay_none HS.out rfl HB.out
        · have q1 : (((k : Int) + 1) == (s.size : Int)) = true := beq_iff_eq.2 (by omega)
          have HS := Lib.hid (payOpt_none (unesc_fail1 HU.out E1.out (by rw [HL.out]; omega)))
          go_wp2_with fail
          go_ret2
          exact rpay_none HS.out rfl HB.out
      · have n125 : ((c.toNat : Int) == 125) = false := beq_eq_false_iff_ne.2 (by omega)
        have HS := Lib.hid (unesc_step1 HU.out E1.out (fun e => hc (by rw [e]; rfl)))
        clear hc
        go_wp2_with (at_builtin; refine Hid.out ?_)
        refine Lib.hid ?_
        refine wpList_append_own _ rfl _ _ 35 rfl w.heap.size 5 i0 (.int .u8 0) 1 1 undBs hi hz0 hz1 hz2 rfl (by decide) _ _ _ rfl (HO.out.alloc _) ⟨wr.heap.size, 0, none⟩ 1 1 _ rfl (by rfl) (cells_new _ _ _) (by simp [Value.oneCell']) (by unfold maxLen; have := HP.out; omega) (by have := HP.out; omega) (by have := HB.out.size; simpa using Nat.le_succ_of_le this) ?_
        intro v' w1 hown1 hgr1 _
        have HO1 : Hid (w1.ownsRow w.heap.size 5 1 v' (pre ++ [c]).length (bytesV (pre ++ [c]))) := by
          refine Lib.hid ?_
          rw [bytesV_append, List.length_append]
          exact hown1
        have HB1 : Hid (Below w.heap.size w w1) := Lib.hid ((HB.out.alloc HB.out.size _).grown hgr1 (by have := HB.out.size; simpa using Nat.le_succ_of_le this) (fun q e => HO.out.block_ge e))
        clear hown1 hgr1
        go_wp2_with fail
        go_roundw
        case rel => exact ⟨k + 1, _, by omega, by have := HP.out; simp; omega, by go_num, HO1.out, HB1.out, HS.out⟩
        case measure => simp [intOf]; omega
    · obtain rfl : k = s.size := by omega
      have HS := Lib.hid (unesc_done HU.out (by rw [HL.out]))
      have hpl : pre.length ≤ 100000 := by have := HP.out; omega
      clear hlt hk HP HU
      by_cases hbig : 2048 < s.size
      · have HN : Hid (payOpt s.data.toList = none) := Lib.hid (payOpt_long (by rw [HL.out]; exact hbig))
        obtain ⟨a, c, rfl⟩ : ∃ a c, u4 = .slice a pre.length c := by
          rcases HO.out.2 with ⟨h1, h2⟩ | ⟨g, cap, cur, h1, _⟩
          · exact ⟨none, 0, by rw [h1, h2]⟩
          · exact ⟨_, _, h1⟩
        have x1 : decide (2048 < (s.size : Int)) = true := by simp; omega
        go_wp2_with fail
        go_quiet (fail)
        go_wp2_with fail
        go_ret2
        exact rpay_none HN.out rfl (below_drewN HB.out)
      · have x1 : decide (2048 < (s.size : Int)) = false := by simp; omega
        by_cases hsh : pre.length < 2
        · obtain ⟨a, c, rfl⟩ : ∃ a c, u4 = .slice a pre.length c := by
            rcases HO.out.2 with ⟨h1, h2⟩ | ⟨g, cap, cur, h1, _⟩
            · exact ⟨none, 0, by rw [h1, h2]⟩
            · exact ⟨_, _, h1⟩
          have HN : Hid (payOpt s.data.toList = none) := by
            refine Lib.hid ?_
            rw [payOpt_some (by rw [HL.out]; exact hbig) HS.out]
            have : bodyOk pre = false := by
              unfold bodyOk
              have : decide (2 ≤ pre.length) = false := by simp; omega
              rw [this]; rfl
            rw [this]
            rfl
          have x2 : decide ((pre.length : Int) - 2 < 0) = true := by simp; omega
          go_wp2_with fail
          go_quiet (fail)
          go_wp2_with fail
          go_ret2
          exact rpay_none HN.out rfl (below_drewN HB.out)
        · obtain ⟨m, hm⟩ : ∃ m, pre.length = m + 2 := ⟨pre.length - 2, by omega⟩
          obtain ⟨g, c, rfl, hcap, hcell⟩ := own_slice (by omega) HO.out
          have hgl : g < wr.heap.size := by
            rcases HO.out.2 with ⟨h1, h2⟩ | ⟨g', cap, cur, h1, _, hh, _⟩
            · cases h1
            · simp only [Value.slice.injEq, Option.some.injEq, Addr.mk.injEq] at h1
              rw [h1.1.1]
              exact blk_lt hh
          rw [hm] at hcap ⊢
          have hS0 : ∀ w1, Below wr.heap.size wr.drew w1 → (convert 35 9 (.slice (some ⟨g, 0, none⟩) m c)).run Try.prog w1 = .ok (.string ⟨(pre.take m).toArray⟩) w1 ∧ (convert 35 9 (.slice (some ⟨g, 0, none⟩) (m + 2) c)).run Try.prog w1 = .ok (.string ⟨pre.toArray⟩) w1 := fun w1 hb => by
            have hc1 : ∀ j b, pre[j]? = some b → w1.cell? ⟨g, j, none⟩ = some (.int .u8 (b.toNat : Int)) := fun j b hj => (hb.cell (p := ⟨g, j, none⟩) hgl).trans (hcell j b hj)
            have h2 := conv_any (c := c) hc1 (m + 2) (by omega)
            rw [List.take_of_length_le (by omega)] at h2
            exact ⟨conv_any hc1 m (by omega), h2⟩
          have HS0 := Lib.hid hS0
          have hX : (⟨(pre.take m).toArray⟩ : ByteArray).size ≤ 100000 := by
            show (pre.take m).length ≤ 100000
            rw [List.length_take]
            omega
          have HXd : Hid ((⟨(pre.take m).toArray⟩ : ByteArray).data.toList = pre.take m) := rfl
          have hM : m ≤ 100000 := by omega
          have HPO := Lib.hid (payOpt_some (by rw [HL.out]; exact hbig) HS.out)
          have HOK := Lib.hid (ok_iff hm)
          have HMM := Lib.hid hm
          have z1 : (0 : Int) ≤ (m : Int) := by omega
          have z2 : (m : Int) ≤ (c : Int) := by omega
          have z3 : decide ((m : Int) < 0) = false := by simp
          clear hcell hsh hm hbig hS0 hpl hgl
          by_cases hok : bodyL (pre.take m) = pre
          · have hcmp : (bodyL (pre.take m) == pre) = true := beq_iff_eq.2 hok
            have HF : Hid (payOpt s.data.toList = some (pre.take m)) := Lib.hid (by
              rw [HPO.out, HOK.out, hok, HMM.out]
              simp)
            clear hok
            go_wp2_with fail
            go_region_held3 (fun w' => (convert 35 9 (.slice (some ⟨g, 0, none⟩) m c)).run Try.prog w' = .ok (.string ⟨(pre.take m).toArray⟩) w' ∧ (convert 35 9 (.slice (some ⟨g, 0, none⟩) (m + 2) c)).run Try.prog w' = .ok (.string ⟨pre.toArray⟩) w') (first | exact HS0.out _ (Below.refl _ _) | exact HS0.out _ hb) ((go_at_call 16; refine (body_any _ _ hX).mono ?_; rintro e w' ⟨rfl, hb⟩))
            have hc2 := (HS0.out _ (by assumption)).1
            go_wp2_with fail
            go_ret2
            exact rpay_some HF.out rfl (HB.out.drew.trans (Below.mono (by assumption) HB.out.size))
          · have hcmp : (bodyL (pre.take m) == pre) = false := beq_eq_false_iff_ne.2 hok
            have HF : Hid (payOpt s.data.toList = none) := Lib.hid (by
              rw [HPO.out, HOK.out, decide_eq_false hok]
              rfl)
            clear hok
            go_wp2_with fail
            go_region_held3 (fun w' => (convert 35 9 (.slice (some ⟨g, 0, none⟩) m c)).run Try.prog w' = .ok (.string ⟨(pre.take m).toArray⟩) w' ∧ (convert 35 9 (.slice (some ⟨g, 0, none⟩) (m + 2) c)).run Try.prog w' = .ok (.string ⟨pre.toArray⟩) w') (first | exact HS0.out _ (Below.refl _ _) | exact HS0.out _ hb) ((go_at_call 16; refine (body_any _ _ hX).mono ?_; rintro e w' ⟨rfl, hb⟩))
            go_wp2_with fail
            go_ret2
            exact rpay_none HF.out rfl (HB.out.drew.trans (Below.mono (by assumption) HB.out.size))
end Go.Proofs.Ytonhaoieeefglaa
