/- bourneref23.Decode returns the payloads and the rest that the plain functions decL and restL say, for streams of at most 100000 bytes. -/
import Derived.Test.YtonhaoieeefglaaFRPay
import Derived.Test.YtonhaoieeefglaaFDec
namespace Go.Proofs.Ytonhaoieeefglaa
open Go.RowKit
/-- what the reference decoder has collected before byte k; the last flag stands at 'last' -/
def DInv (L : List UInt8) (k : Nat) (last : Int) (pre : List (List UInt8)) : Prop :=
  (last = -1 ∧ pre = [] ∧ strL L = strL (L.drop k) ∧ ¬ (126 : UInt8) ∈ L.take k) ∨
  (∃ j : Nat, last = (j : Int) ∧ j < k ∧ L[j]? = some 126 ∧ ¬ (126 : UInt8) ∈ (L.drop (j + 1)).take (k - (j + 1)) ∧
    decL L = pre ++ (segs ((L.drop (j + 1)).take (k - (j + 1))) (L.drop k)).filterMap payOpt)
theorem DInv.start (L : List UInt8) : DInv L 0 (-1) [] := .inl ⟨rfl, rfl, rfl, by simp⟩
theorem take_snoc {L : List UInt8} {k : Nat} {c : UInt8} (h : L[k]? = some c) : L.take (k + 1) = L.take k ++ [c] := by
  obtain ⟨h1, h2⟩ := List.getElem?_eq_some_iff.1 h
  rw [List.take_add_one, h]
  rfl
theorem cut_snoc {L : List UInt8} {j k : Nat} {c : UInt8} (hj : j < k) (h : L[k]? = some c) : (L.drop (j + 1)).take (k + 1 - (j + 1)) = (L.drop (j + 1)).take (k - (j + 1)) ++ [c] := by
  rw [show k + 1 - (j + 1) = (k - (j + 1)) + 1 by omega]
  refine take_snoc ?_
  rw [List.getElem?_drop, ← h]
  congr 1
  omega
theorem DInv.no {L : List UInt8} {k : Nat} {last : Int} {pre : List (List UInt8)} {c : UInt8} (h : DInv L k last pre) (hk : L[k]? = some c) (hc : ¬ c = 126) : DInv L (k + 1) last pre := by
  have hd := drop_at hk
  rcases h with ⟨h1, h2, h3, h4⟩ | ⟨j, h1, h2, h3, h4, h5⟩
  · refine .inl ⟨h1, h2, ?_, ?_⟩
    · rw [h3, hd]
      simp [strL, hc]
    · rw [take_snoc hk]
      simp only [List.mem_append, List.mem_singleton, not_or]
      exact ⟨h4, fun e => hc e.symm⟩
  · refine .inr ⟨j, h1, by omega, h3, ?_, ?_⟩
    · rw [cut_snoc h2 hk]
      simp only [List.mem_append, List.mem_singleton, not_or]
      exact ⟨h4, fun e => hc e.symm⟩
    · rw [h5, hd, cut_snoc h2 hk]
      simp [segs, hc]
theorem DInv.first {L : List UInt8} {k : Nat} {pre : List (List UInt8)} (h : DInv L k (-1) pre) (hk : L[k]? = some 126) : DInv L (k + 1) (k : Int) pre := by
  have hd := drop_at hk
  rcases h with ⟨_, h2, h3, h4⟩ | ⟨j, h1, _⟩
  · refine .inr ⟨k, rfl, by omega, hk, ?_, ?_⟩
    · simp
    · unfold decL
      rw [h3, hd, h2]
      simp [strL]
  · omega
theorem DInv.next {L : List UInt8} {k j : Nat} {pre : List (List UInt8)} (h : DInv L k (j : Int) pre) (hk : L[k]? = some 126) : DInv L (k + 1) (k : Int) (pre ++ (payOpt ((L.drop (j + 1)).take (k - (j + 1)))).toList) := by
  have hd := drop_at hk
  rcases h with ⟨h1, _⟩ | ⟨j', h1, h2, h3, h4, h5⟩
  · omega
  · obtain rfl : j' = j := by omega
    refine .inr ⟨k, rfl, by omega, hk, ?_, ?_⟩
    · simp
    · rw [h5, hd]
      cases hp : payOpt ((L.drop (j' + 1)).take (k - (j' + 1))) <;> simp [segs, hp]
theorem DInv.lt {L : List UInt8} {k j : Nat} {pre : List (List UInt8)} (h : DInv L k (j : Int) pre) : j < k := by
  rcases h with ⟨h1, _⟩ | ⟨j', h1, h2, _⟩
  · omega
  · omega
theorem DInv.cases {L : List UInt8} {k : Nat} {last : Int} {pre : List (List UInt8)} (h : DInv L k last pre) : last = -1 ∨ ∃ j : Nat, last = (j : Int) := by
  rcases h with ⟨h1, _⟩ | ⟨j', h1, h2, _⟩
  · exact .inl h1
  · exact .inr ⟨j', h1⟩
theorem DInv.none {L : List UInt8} {pre : List (List UInt8)} (h : DInv L L.length (-1) pre) : decL L = pre ∧ restL L = [] := by
  rcases h with ⟨_, h2, h3, h4⟩ | ⟨j, h1, _⟩
  · rw [List.take_length] at h4
    constructor
    · unfold decL
      rw [h3, h2]
      simp [strL]
    · unfold restL
      rw [tailF_none _ h4]
      rfl
  · omega
theorem DInv.some {L : List UInt8} {j : Nat} {pre : List (List UInt8)} (h : DInv L L.length (j : Int) pre) : decL L = pre ∧ tailF L = L.drop j := by
  rcases h with ⟨h1, _⟩ | ⟨j', h1, h2, h3, h4, h5⟩
  · omega
  · obtain rfl : j' = j := by omega
    constructor
    · rw [h5]
      simp [segs]
    · have hd := drop_at h3
      rw [List.take_of_length_le (by simp)] at h4
      rw [hd]
      conv => lhs; rw [← List.take_append_drop j' L, hd]
      exact tailF_some _ _ h4
theorem cut_list (s : ByteArray) (i k : Nat) : (s.extract i k).data.toList = (s.data.toList.drop i).take (k - i) := by
  rw [Lib.extract_data]
theorem dec_ret {l r : List UInt8} {ls : List (List UInt8)} {w w' : World} {e : Ending} {v : Value} (hr : restL l = r) (hd : decL l = ls) (he : e = .returned (.tuple #[v, .string ⟨r.toArray⟩]))
    (ho : w'.ownsRow w.heap.size 9 1 v ls.length (strV ls)) (hb : Below w.heap.size w w') : DecPost l w e w' :=
  ⟨v, by rw [he, hr], by rw [hd]; exact ho, hb⟩
set_option maxHeartbeats 4000000 in
set_option maxRecDepth 100000 in
theorem rdecode_any (s : ByteArray) (w : World) (hs : s.size ≤ 100000) :
    Calls Try.prog 11 #[.string s] w (DecPost s.data.toList w) := by
  obtain ⟨i0, hi, hz0, hz1, hz2⟩ := info_parts infoS
  have hlen : s.data.toList.length = s.size := by simp
  have HL := Lib.hid hlen
  clear hlen
  go_enter Try.func11, Try.ntmps11
  go_wp2_with fail
  go_loopw [4, 5, 6] (fun v la i wr => ∃ (k : Nat) (last : Int) (pre : List (List UInt8)), k ≤ s.size ∧ pre.length ≤ k ∧ i = .int .i64 (k : Int) ∧ la = .int .i64 last ∧ wr.ownsRow w.heap.size 9 1 v pre.length (strV pre) ∧ Below w.heap.size w wr ∧
    DInv s.data.toList k last pre) (fun _ _ i _ => s.size - (intOf i).toNat)
  case atStart => exact ⟨0, -1, [], by omega, by simp, rfl, rfl, World.ownsRow_nil _ _ _ _, Below.refl _ _, DInv.start _⟩
  case round =>
    obtain ⟨k, last, pre, hk, hp, rfl, rfl, hown, hB, hU⟩ := hrel
    have HP := Lib.hid hp
    have HO := Lib.hid hown
    have HB := Lib.hid hB
    have HU := Lib.hid hU
    clear hp hown hB hU
    by_cases hlt : k < s.size
    · have i1 := fun w => index_str s (k : Int) k rfl hlt w
      have E1 : Hid (s.data.toList[k]? = some s[k]) := by
        refine Lib.hid ?_
        rw [List.getElem?_eq_getElem (by rw [HL.out]; exact hlt)]
        rfl
      generalize s[k] = c at *
      have lc := c.toNat_lt
      by_cases hc : c.toNat = 126
      · obtain rfl : c = 126 := UInt8.toNat_inj.1 (by rw [hc]; rfl)
        clear hc
        rcases HU.out.cases with rfl | ⟨j, rfl⟩
        · have HS := Lib.hid (HU.out.first E1.out)
          go_wp2_with fail
          go_roundw
          case rel => exact ⟨k + 1, k, _, by omega, by have := HP.out; omega, by go_num, rfl, HO.out, HB.out, HS.out⟩
          case measure => simp [intOf]; omega
        · have hjk := HU.out.lt
          have z1 : (0 : Int) ≤ (j : Int) + 1 := by omega
          have z2 : (j : Int) + 1 ≤ (k : Int) := by omega
          have z3 : (k : Int) ≤ (s.size : Int) := by omega
          have z4 : ((j : Int) + 1).toNat = j + 1 := by omega
          have HX := Lib.hid (cut_list s (j + 1) k)
          have hX : (s.extract (j + 1) k).size ≤ 100000 := by rw [ByteArray.size_extract]; omega
          cases hp : payOpt ((s.data.toList.drop (j + 1)).take (k - (j + 1))) with
          | none =>
            have HS : Hid (DInv s.data.toList (k + 1) (k : Int) pre) := by
              refine Lib.hid ?_
              have := HU.out.next E1.out
              rw [hp] at this
              simpa using this
            have HQ := Lib.hid hp
            clear hp
            go_wp2_with (go_at_call 21; refine (rpayload_any _ _ hX).mono ?_; rintro e w' ⟨rfl, hb⟩; rw [HX.out, HQ.out])
            have hg : wr.grownBy w' none := ⟨hb.os, hb.tape, hb.output, hb.size, fun k hk _ => hb.block k hk⟩
            have HO1 := Lib.hid (HO.out.kept hg (by cases u4.ownBlock <;> simp))
            have HB1 := Lib.hid (HB.out.trans (hb.mono HB.out.size))
            clear hg hb
            go_roundw
            case rel => exact ⟨k + 1, k, _, by omega, by have := HP.out; omega, by go_num, rfl, HO1.out, HB1.out, HS.out⟩
            case measure => simp [intOf]; omega
          | some q =>
            have HS : Hid (DInv s.data.toList (k + 1) (k : Int) (pre ++ [q])) := by
              refine Lib.hid ?_
              have := HU.out.next E1.out
              rw [hp] at this
              simpa using this
            have HQ := Lib.hid hp
            clear hp
            go_wp2_with (first | (go_at_call 21; refine (rpayload_any _ _ hX).mono ?_; rintro e w' ⟨rfl, hb⟩; rw [HX.out, HQ.out]) | (at_builtin; refine Hid.out ?_))
            have hg : wr.grownBy w' none := ⟨hb.os, hb.tape, hb.output, hb.size, fun k hk _ => hb.block k hk⟩
            have HO1 := Lib.hid (HO.out.kept hg (by cases u4.ownBlock <;> simp))
            have HB1 := Lib.hid (HB.out.trans (hb.mono HB.out.size))
            clear hg hb
            refine Lib.hid ?_
            refine wpList_append_own _ rfl _ _ 23 rfl w.heap.size 9 i0 (.string ⟨#[]⟩) 1 16 undSs hi hz0 hz1 hz2 rfl (by decide) _ _ _ rfl (HO1.out.alloc _) ⟨w'.heap.size, 0, none⟩ 1 1 [.string ⟨q.toArray⟩] rfl (by rfl) (cell_one_new _ _ _) (by simp [Value.oneCell']) (by unfold maxLen; have := HP.out; omega) (by have := HP.out; omega) (by have := HB1.out.size; simpa using Nat.le_succ_of_le this) ?_
            intro v' w1 hown1 hgr1 _
            have HO2 : Hid (w1.ownsRow w.heap.size 9 1 v' (pre ++ [q]).length (strV (pre ++ [q]))) := by
              refine Lib.hid ?_
              rw [strV_append, List.length_append]
              exact hown1
            have HB2 : Hid (Below w.heap.size w w1) := Lib.hid ((HB1.out.alloc HB1.out.size _).grown hgr1 (by have := HB1.out.size; simpa using Nat.le_succ_of_le this) (fun q e => HO1.out.block_ge e))
            clear hown1 hgr1
            go_wp2_with fail
            go_roundw
            case rel => exact ⟨k + 1, k, _, by omega, by have := HP.out; simp; omega, by go_num, rfl, HO2.out, HB2.out, HS.out⟩
            case measure => simp [intOf]; omega
      · have n126 : ((c.toNat : Int) == 126) = false := beq_eq_false_iff_ne.2 (by omega)
        have b126 : ((c.toNat : Int) != 126) = true := by rw [bne, n126]; rfl
        have HS := Lib.hid (HU.out.no E1.out (fun e => hc (by rw [e]; rfl)))
        clear hc
        go_wp2_with fail
        go_roundw
        case rel => exact ⟨k + 1, last, _, by omega, by have := HP.out; omega, by go_num, rfl, HO.out, HB.out, HS.out⟩
        case measure => simp [intOf]; omega
    · obtain rfl : k = s.size := by omega
      clear hlt hk
      rcases HU.out.cases with rfl | ⟨j, rfl⟩
      · have HS := Lib.hid (DInv.none (by rw [HL.out]; exact HU.out))
        go_wp2_with fail
        go_ret2
        exact dec_ret HS.out.2 HS.out.1 rfl HO.out HB.out
      · have hjk := HU.out.lt
        have HS := Lib.hid (DInv.some (by rw [HL.out]; exact HU.out))
        have z1 : (0 : Int) ≤ (j : Int) := by omega
        have z2 : (j : Int) ≤ (s.size : Int) := by omega
        by_cases hbig : 2048 < s.size - j - 1
        · have HT2 : Hid (restL s.data.toList = []) := Lib.hid (by unfold restL; rw [HS.out.2, if_pos (by rw [List.length_drop, HL.out]; omega)])
          have x1 : decide (2048 < (s.size : Int) - (j : Int) - 1) = true := by simp; omega
          go_wp2_with fail
          go_ret2
          exact dec_ret HT2.out HS.out.1 rfl HO.out HB.out
        · have x1 : decide (2048 < (s.size : Int) - (j : Int) - 1) = false := by simp; omega
          have HX : Hid ((⟨(restL s.data.toList).toArray⟩ : ByteArray) = s.extract j s.size) := by
            refine Lib.hid ?_
            have hd : (s.extract j s.size).data.toList = s.data.toList.drop j := by
              rw [Lib.extract_data]
              exact List.take_of_length_le (by simp)
            unfold restL
            rw [HS.out.2, if_neg (by rw [List.length_drop, HL.out]; omega), ← hd]
          go_wp2_with fail
          go_quiet (fail)
          go_wp2_with fail
          go_ret2
          exact dec_ret rfl HS.out.1 (by rw [HX.out]; rfl) HO.out (below_drewN HB.out)
end Go.Proofs.Ytonhaoieeefglaa
