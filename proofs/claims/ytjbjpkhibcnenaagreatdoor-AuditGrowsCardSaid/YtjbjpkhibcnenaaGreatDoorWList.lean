/- Texts merged: AFind SRef4 WList -/
import Derived.Test.YtjbjpkhibcnenaaGreatDoorAFindL
import Derived.Outline
import Derived.Test.YtjbjpkhibcnenaaGreatDoorSIn
import Derived.Deep.Heap
import Derived.OneCell
import Derived.Test.YtjbjpkhibcnenaaGreatDoorSKeyA
/- audit.Find. -/
namespace Go.Proofs.YtjbjpkhibcnenaaGreatDoor
open Go.RowKit
theorem undBS : Tryz.prog.underlying 44 = some (.slice 40) := by kernel_rfl
theorem infoB88 : ∃ i z, Tryz.prog.info? 40 = some i ∧ i.size = 9 ∧ i.zero = some z ∧ z.cells.size = 9 ∧ i.bytes = 88 := by
  have h : (Tryz.prog.info? 40).map (fun i => (i.size, i.zero.map (fun z => z.cells.size), i.bytes)) = some (9, some 9, 88) := by kernel_rfl
  cases hi : Tryz.prog.info? 40 with
  | none => rw [hi] at h; cases h
  | some i =>
    rw [hi] at h
    simp only [Option.map_some, Option.some.injEq, Prod.mk.injEq] at h
    obtain ⟨h1, h2, h3⟩ := h
    cases hz : i.zero with
    | none => rw [hz] at h2; cases h2
    | some z =>
      rw [hz] at h2
      simp only [Option.map_some, Option.some.injEq] at h2
      exact ⟨i, z, rfl, h1, hz, h2, h3⟩
/-- one finder by its number -/
theorem finder_at (jb mb : Nat) (ar ap : Option Addr) (cr cp : Nat) (err : Int) (room ps : List Int) (pubs : List PublicV) {sb : Nat} {a0 a1 a2 av : Option Addr} {k0 k1 k2 kv : Nat} (l : List CV) (vows : List PV) (w4 : World) (fb : Nat) (hJ : JudgeAt jb mb ar ap cr cp err room ps pubs w4) (hS : SearchAt sb jb a0 a1 a2 av k0 k1 k2 kv (clO (judgeV err room ps pubs) l 0) (clO (judgeV err room ps pubs) l 1) (clO (judgeV err room ps pubs) l 2) (vows.filter (vB ps)) (lastN (judgeV err room ps pubs) l) w4) (hI : ∀ p ∈ pubs, PbI p) (hpl : pubs.length ≤ 1000)
    (hf : w4.heap[fb]? = some (.cells #[.func (.func 24) #[.pointer (some ⟨sb, 0, none⟩)] #[], .func (.func 25) #[.pointer (some ⟨sb, 0, none⟩)] #[], .func (.func 26) #[.pointer (some ⟨sb, 0, none⟩)] #[], .func (.func 27) #[.pointer (some ⟨sb, 0, none⟩)] #[], .func (.func 28) #[.pointer (some ⟨sb, 0, none⟩)] #[], .func (.func 29) #[.pointer (some ⟨sb, 0, none⟩)] #[]] 69 (0, 0))) (k : Nat) (hk : k < 6) : ∃ f, w4.cell? ⟨fb, k, none⟩ = some (.func (.func f) #[.pointer (some ⟨sb, 0, none⟩)] #[]) ∧ (∀ args w, (callFunc f args).run Tryz.prog w = .ok (.enter f args) w) ∧ ∀ (j : Nat) (w : World), j < 3 → Below w4.heap.size w4 w → Calls Tryz.prog f #[.pointer (some ⟨sb, 0, none⟩), .int .i64 (j : Int)] w (RetF (blameL (judgeV err room ps pubs) l vows (j : Int) k) w) := by
  have below : ∀ w, Below w4.heap.size w4 w → JudgeAt jb mb ar ap cr cp err room ps pubs w ∧ SearchAt sb jb a0 a1 a2 av k0 k1 k2 kv (clO (judgeV err room ps pubs) l 0) (clO (judgeV err room ps pubs) l 1) (clO (judgeV err room ps pubs) l 2) (vows.filter (vB ps)) (lastN (judgeV err room ps pubs) l) w := fun w hb => ⟨hJ.below hb, hS.below hb⟩
  rcases k with _ | _ | _ | _ | _ | _ | k
  · exact ⟨_, rowN hf 0 _ rfl, Tryz.call24, fun j w hj hb => fd0 jb mb ar ap cr cp err room ps pubs l vows j w (below w hb).1 (below w hb).2 hj hI hpl⟩
  · exact ⟨_, rowN hf 1 _ rfl, Tryz.call25, fun j w hj hb => fd1 jb mb ar ap cr cp err room ps pubs l vows j w (below w hb).1 (below w hb).2 hj hI hpl⟩
  · exact ⟨_, rowN hf 2 _ rfl, Tryz.call26, fun j w hj hb => fd2 jb mb ar ap cr cp err room ps pubs l vows j w (below w hb).1 (below w hb).2 hj hI hpl⟩
  · exact ⟨_, rowN hf 3 _ rfl, Tryz.call27, fun j w hj hb => fd3 jb mb ar ap cr cp err room ps pubs l vows j w (below w hb).1 (below w hb).2 hj hI hpl⟩
  · exact ⟨_, rowN hf 4 _ rfl, Tryz.call28, fun j w hj hb => fd4 jb mb ar ap cr cp err room ps pubs l vows j w (below w hb).1 (below w hb).2 hj hI hpl⟩
  · exact ⟨_, rowN hf 5 _ rfl, Tryz.call29, fun j w hj hb => fd5 jb mb ar ap cr cp err room ps pubs l vows j w (below w hb).1 (below w hb).2 hj hI hpl⟩
  · omega
set_option maxRecDepth 100000 in
set_option maxHeartbeats 8000000 in
theorem find_any (x : BsX) (ar ap : Option Addr) (cr cp : Nat) (err : Int) (room ps : List Int) (vq : Value) (pubs : List PublicV) (al av : Option Addr) (lc vc : Nat) (l : List CV) (vows : List PV) (w : World) (hI : JIn ar ap cr cp err room ps vq pubs w) (hL : LArg RC 8 (.slice al l.length lc) l w) (hV : LArg RP 6 (.slice av vows.length vc) vows w) (hl : l.length ≤ 1000) (hvl : vows.length ≤ 1000) (hC : ∀ c ∈ l, c.prev.size ≤ 900) (hg : Glob w) (hml : MLen w) :
    Calls Tryz.prog 9 #[.agg #[.string x.nm, .slice x.a1 x.n1 x.c1, .int .i64 x.k, .slice x.a3 x.n3 x.c3, .slice x.a4 x.n4 x.c4, .slice x.a5 x.n5 x.c5, .slice x.a6 x.n6 x.c6, .slice x.a7 x.n7 x.c7, .slice x.a8 x.n8 x.c8, .slice ar 3 cr, .int .i64 err], .slice ap 3 cp, vq, .slice al l.length lc, .slice av vows.length vc] w (RetL (findL (judgeV err room ps pubs) l vows) w) := by
  obtain ⟨ib, zb, hib, hsz, hzb, hcz, hbb⟩ := infoB88
  have HI := Lib.hid hI
  have HL := Lib.hid hL
  have HV := Lib.hid hV
  have HC9 := Lib.hid hC
  have HGl := Lib.hid hg
  have HML := Lib.hid hml
  have HPI := Lib.hid hI.pbI
  have hpl := hI.hl
  have HVO : Hid (∀ p ∈ vows, POk p) := Lib.hid (fun p hp => by
    obtain ⟨j, hj⟩ := List.getElem?_of_mem hp
    obtain ⟨_, _, _, _, _, _, _, _, h⟩ := hV.at hj
    exact h)
  clear hI hL hV hC hg hml
  have HR := Lib.hid ((RowsS.nil w).alloc (.cells #[.string x.nm, .slice x.a1 x.n1 x.c1, .int .i64 x.k, .slice x.a3 x.n3 x.c3, .slice x.a4 x.n4 x.c4, .slice x.a5 x.n5 x.c5, .slice x.a6 x.n6 x.c6, .slice x.a7 x.n7 x.c7, .slice x.a8 x.n8 x.c8, .slice ar 3 cr, .int .i64 err] 31))
  go_enter Tryz.func9, Tryz.ntmps9
  go_upto_region 1 with fail
  generalize w.alloc (.cells #[.string x.nm, .slice x.a1 x.n1 x.c1, .int .i64 x.k, .slice x.a3 x.n3 x.c3, .slice x.a4 x.n4 x.c4, .slice x.a5 x.n5 x.c5, .slice x.a6 x.n6 x.c6, .slice x.a7 x.n7 x.c7, .slice x.a8 x.n8 x.c8, .slice ar 3 cr, .int .i64 err] 31) = w0 at *
  go_wp2_with (first | (refine wpList_load_rowW (by first | (go_simp; done) | rfl) 31 _ rfl _ rfl 31 _ _ _ (HR.out.row 0 rfl) undBn rfl infoBn ?_))
  refine (newJudge_any x ar ap cr cp err room ps vq pubs _ (HI.out.below HR.out.below)).mono ?_
  rintro e w1 ⟨jb, mb, rfl, hj1, -, hb1⟩
  have HB1 := Lib.hid (HR.out.below.trans (hb1.mono HR.out.below.size))
  have HJ1 := Lib.hid hj1
  clear hj1 hb1 HR
  go_wp2_with fail
  refine (newSearch_any jb mb ar ap cr cp err room ps pubs al av lc vc l vows _ HJ1.out (HL.out.below stays_RC HB1.out) (HV.out.below stays_RP HB1.out) hl hvl HC9.out (HGl.out.below HB1.out HGl.out.size) (HML.out.up HB1.out)).mono ?_
  rintro e w2 ⟨sb, a0, a1, a2, av2, k0, k1, k2, kv, rfl, hs2, hb2⟩
  have HJ2 := Lib.hid (HJ1.out.below hb2)
  have HB2 := Lib.hid (HB1.out.trans (hb2.mono HB1.out.size))
  have HS2 := Lib.hid hs2
  clear hs2 hb2 HJ1 HB1
  go_upto_region 3 with fail
  have ha : Below w2.heap.size w2 (w2.alloc (.cells #[.func (.func 24) #[.pointer (some ⟨sb, 0, none⟩)] #[], .func (.func 25) #[.pointer (some ⟨sb, 0, none⟩)] #[], .func (.func 26) #[.pointer (some ⟨sb, 0, none⟩)] #[], .func (.func 27) #[.pointer (some ⟨sb, 0, none⟩)] #[], .func (.func 28) #[.pointer (some ⟨sb, 0, none⟩)] #[], .func (.func 29) #[.pointer (some ⟨sb, 0, none⟩)] #[]] 69)) := (Below.refl _ _).alloc (Nat.le_refl _) _
  have HJ4 := Lib.hid (HJ2.out.below ha)
  have HS4 := Lib.hid (HS2.out.below ha)
  have HB4 := Lib.hid (HB2.out.trans (ha.mono HB2.out.size))
  have HF4 := Lib.hid (heap_alloc_new w2 (.cells #[.func (.func 24) #[.pointer (some ⟨sb, 0, none⟩)] #[], .func (.func 25) #[.pointer (some ⟨sb, 0, none⟩)] #[], .func (.func 26) #[.pointer (some ⟨sb, 0, none⟩)] #[], .func (.func 27) #[.pointer (some ⟨sb, 0, none⟩)] #[], .func (.func 28) #[.pointer (some ⟨sb, 0, none⟩)] #[], .func (.func 29) #[.pointer (some ⟨sb, 0, none⟩)] #[]] 69))
  clear ha HJ2 HS2 HB2
  generalize w2.alloc (.cells #[.func (.func 24) #[.pointer (some ⟨sb, 0, none⟩)] #[], .func (.func 25) #[.pointer (some ⟨sb, 0, none⟩)] #[], .func (.func 26) #[.pointer (some ⟨sb, 0, none⟩)] #[], .func (.func 27) #[.pointer (some ⟨sb, 0, none⟩)] #[], .func (.func 28) #[.pointer (some ⟨sb, 0, none⟩)] #[], .func (.func 29) #[.pointer (some ⟨sb, 0, none⟩)] #[]] 69) = w4 at *
  generalize w2.heap.size = fb at *
  have HFD := Lib.hid (finder_at jb mb ar ap cr cp err room ps pubs l vows w4 fb HJ4.out HS4.out HPI.out hpl HF4.out)
  have hfl := blk_lt HF4.out
  clear HF4
  go_wp2_with fail
  go_loopw [13, 39] (fun sv iv wx => ∃ (bv : Value) (o : Nat) (zs : List (BlV × Value)), bv = sv ∧ o ≤ 3 ∧ iv = .int .i64 (o : Int) ∧ zs.map (·.1) = preL (judgeV err room ps pubs) l vows o 0 ∧ BLS w4 bv zs wx) (fun _ iv _ => 3 - (Go.RowKit.intOf iv).toNat)
  case atStart => exact ⟨_, 0, [], rfl, by omega, rfl, rfl, BLS.start (Below.refl _ _)⟩
  case round =>
    obtain ⟨bv, o, zs, rfl, ho, rfl, hz, hbl⟩ := hrel
    have HZ := Lib.hid hz
    have HBL := Lib.hid hbl
    clear hz hbl
    by_cases hlt : o < 3
    · have ho3 : (o : Int) < 3 := by omega
      have HO3 := Lib.hid hlt
      go_wp2_with fail
      rename World => wy
      go_loopw [13, 44] (fun sv iv wx => ∃ (bv : Value) (k : Nat) (zs : List (BlV × Value)), bv = sv ∧ k ≤ 6 ∧ iv = .int .i64 (k : Int) ∧ zs.map (·.1) = preL (judgeV err room ps pubs) l vows o k ∧ BLS w4 bv zs wx) (fun _ iv _ => 6 - (Go.RowKit.intOf iv).toNat)
      case atStart => exact ⟨_, 0, zs, rfl, by omega, rfl, HZ.out, HBL.out⟩
      case round =>
        clear HZ HBL
        obtain ⟨bv, k, zs, rfl, hk, rfl, hz, hbl⟩ := hrel
        have HZ := Lib.hid hz
        have HBL := Lib.hid hbl
        have hzl : zs.length ≤ 24 := by
          have h1 := congrArg List.length hz
          rw [List.length_map] at h1
          have h2 := preL_len (J := (judgeV err room ps pubs)) (l := l) (vows := vows) (o := o) (k := k) ho hk
          omega
        clear hz hbl
        by_cases hlk : k < 6
        · obtain ⟨f, hfc, hen, hcall⟩ := HFD.out k hlk
          have hk6 : (k : Int) < 6 := by omega
          have hfc2 := (HBL.out.below.cell (p := ⟨fb, k, none⟩) hfl).trans hfc
          have HCL := Lib.hid hcall
          clear hfc hcall
          go_wp2_with fail
          refine (HCL.out o _ HO3.out HBL.out.below).mono ?_
          rintro e w5 hret
          cases hb : blameL (judgeV err room ps pubs) l vows (o : Int) k with
          | none =>
            rw [hb] at hret
            obtain ⟨rfl, hb5⟩ := hret
            have HBL5 := Lib.hid ((HBL.out.step hb5).step ((Below.refl _ _).alloc (Nat.le_refl _) (.cells #[.int .i64 0, .int .i64 0, .slice none 0 0, .int .i64 0, .int .i64 0, .int .i64 0, .int .i64 0, .int .i64 0, .int .i64 0] 40)))
            have HZ5 := Lib.hid (HZ.out.trans (preL_none hb).symm)
            clear hb hb5 HBL HZ hfc2 HCL
            go_wp2_with fail
            go_roundw
            case rel => exact ⟨_, k + 1, zs, rfl, by omega, by go_num, HZ5.out, HBL5.out⟩
            case measure => simp [Go.RowKit.intOf]; omega
          | some x =>
            rw [hb] at hret
            obtain ⟨⟨v, he, hlv, b, n, m, rfl, hge⟩, hb5⟩ := hret
            rw [show (cellsB x (.slice (some ⟨b, 0, none⟩) n m)).toArray = #[.int .i64 x.office, .int .i64 x.why, .slice (some ⟨b, 0, none⟩) n m, .int .i64 x.prom.office, .int .i64 x.prom.since, .int .i64 x.prom.till, .int .i64 x.prom.litres, .int .i64 x.prom.e, .int .i64 x.prom.s] from rfl] at he
            subst he
            have HO := Lib.hid (blame_ok ⟨by omega, by omega⟩ hb)
            have hxc := Lib.hid (check_claims HO.out.2.2.2.1)
            have hbne : bv.ownBlock ≠ some b := fun e => by have := HBL.out.lt b e; omega
            have HNE := Lib.hid hbne
            have hal : Below w5.heap.size w5 (w5.alloc (.cells #[.int .i64 x.office, .int .i64 x.why, .slice (some ⟨b, 0, none⟩) n m, .int .i64 x.prom.office, .int .i64 x.prom.since, .int .i64 x.prom.till, .int .i64 x.prom.litres, .int .i64 x.prom.e, .int .i64 x.prom.s] 40)) := (Below.refl _ _).alloc (Nat.le_refl _) _
            have HBL6 := Lib.hid ((HBL.out.step hb5).step hal)
            have HLV6 := Lib.hid (hlv.below stays_RC hal)
            have HX6 := Lib.hid (heap_alloc_new w5 (.cells #[.int .i64 x.office, .int .i64 x.why, .slice (some ⟨b, 0, none⟩) n m, .int .i64 x.prom.office, .int .i64 x.prom.since, .int .i64 x.prom.till, .int .i64 x.prom.litres, .int .i64 x.prom.e, .int .i64 x.prom.s] 40))
            have HZ5 := Lib.hid (preL_some hb)
            clear hb hb5 HBL hfc2 HCL hal hlv hge hbne HO
            go_upto_region 12 with fail
            generalize w5.alloc (.cells #[.int .i64 x.office, .int .i64 x.why, .slice (some ⟨b, 0, none⟩) n m, .int .i64 x.prom.office, .int .i64 x.prom.since, .int .i64 x.prom.till, .int .i64 x.prom.litres, .int .i64 x.prom.e, .int .i64 x.prom.s] 40) = w6 at *
            generalize w5.heap.size = bX at *
            have hal : Below w6.heap.size w6 (w6.alloc (.cells #[.int .i64 x.office, .int .i64 x.why, .slice (some ⟨b, 0, none⟩) n m, .int .i64 x.prom.office, .int .i64 x.prom.since, .int .i64 x.prom.till, .int .i64 x.prom.litres, .int .i64 x.prom.e, .int .i64 x.prom.s] 40)) := (Below.refl _ _).alloc (Nat.le_refl _) _
            have HBL7 := Lib.hid (HBL6.out.step hal)
            have HLV7 := Lib.hid (HLV6.out.below stays_RC hal)
            have hnew := new_cells (l := [.int .i64 x.office, .int .i64 x.why, .slice (some ⟨b, 0, none⟩) n m, .int .i64 x.prom.office, .int .i64 x.prom.since, .int .i64 x.prom.till, .int .i64 x.prom.litres, .int .i64 x.prom.e, .int .i64 x.prom.s]) (heap_alloc_new w6 (.cells #[.int .i64 x.office, .int .i64 x.why, .slice (some ⟨b, 0, none⟩) n m, .int .i64 x.prom.office, .int .i64 x.prom.since, .int .i64 x.prom.till, .int .i64 x.prom.litres, .int .i64 x.prom.e, .int .i64 x.prom.s] 40))
            clear hal HBL6 HLV6
            go_wp2_with (first | (refine wpList_load_rowW (by first | (go_simp; done) | rfl) 40 _ rfl _ rfl 40 _ _ _ HX6.out undBl rfl infoBl ?_) | (at_builtin; refine Hid.out ?_))
            refine Lib.hid ?_
            refine wpList_append_own_at _ rfl _ _ 44 rfl w4.heap.size 40 ib zb 9 ib.bytes undBS hib hzb hsz rfl hcz (by decide) bv zs.length _ rfl HBL7.out.own ⟨w6.heap.size, 0, none⟩ 1 1 [.int .i64 x.office, .int .i64 x.why, .slice (some ⟨b, 0, none⟩) n m, .int .i64 x.prom.office, .int .i64 x.prom.since, .int .i64 x.prom.till, .int .i64 x.prom.litres, .int .i64 x.prom.e, .int .i64 x.prom.s] rfl rfl hnew (by simp [Value.oneCell']) (by unfold maxLen; omega) (by rw [hbb]; omega) HBL7.out.below.size ?_
            intro v' w8 hown8 hgr8 _ hat8
            have HBL8 := Lib.hid (HBL7.out.add HLV7.out rfl hxc.out HNE.out hgr8 hown8 hat8)
            have HZ8 : Hid ((zs ++ [(x, Value.slice (some ⟨b, 0, none⟩) n m)]).map (·.1) = preL (judgeV err room ps pubs) l vows o (k + 1)) := Lib.hid (by rw [HZ5.out, ← HZ.out, List.map_append]; rfl)
            clear hown8 hgr8 hat8 hnew HX6 HLV7 HBL7 HZ5
            go_wp2_with fail
            go_roundw
            case rel => exact ⟨_, k + 1, _, rfl, by omega, by go_num, HZ8.out, HBL8.out⟩
            case measure => simp [Go.RowKit.intOf]; omega
        · obtain rfl : k = 6 := by omega
          have HZ6 := Lib.hid (HZ.out.trans (preL_office _ _ _ _))
          clear hlk hk HZ
          go_wp2_with fail
          go_roundw
          case rel => exact ⟨_, o + 1, zs, rfl, by omega, by go_num, HZ6.out, HBL.out⟩
          case measure => simp [Go.RowKit.intOf]; omega
    · obtain rfl : o = 3 := by omega
      have HZ3 := Lib.hid (HZ.out.trans (preL_end _ _ _))
      clear hlt ho HZ
      go_wp2_with fail
      go_ret
      exact ⟨_, rfl, by rw [← HZ3.out]; exact HBL.out.larg (fun z hz => findL_BOk HVO.out z.1 (by rw [← HZ3.out]; exact List.mem_map.2 ⟨z, hz, rfl⟩)), HB4.out.trans (HBL.out.below.mono HB4.out.size)⟩
end Go.Proofs.YtjbjpkhibcnenaaGreatDoor
/- bourneref04: Mod, times, Mul, Exp, In, AddQ, MulQ. -/
namespace Go.Proofs.YtjbjpkhibcnenaaGreatDoor
open Go.RowKit
set_option maxRecDepth 100000 in
set_option maxHeartbeats 1000000 in
theorem rmod_any (n : Int) (m : Nat) (w : World) (hn : -9223372036854775808 ≤ n ∧ n ≤ 9223372036854775807) (hm0 : 0 < m) (hm : m < 4611686018427387904) :
    Calls Tryz.prog 142 #[.int .i64 n, .int .i64 m] w fun e w' => e = .returned (.int .i64 (resN n m : Nat)) ∧ w' = w := by
  have t1 : ¬ (m : Int) = 0 := by omega
  have hr := resN_cast n hm0
  have hb := Int.emod_lt_of_pos n (show (0 : Int) < m by omega)
  have h0 := Int.emod_nonneg n (show (m : Int) ≠ 0 by omega)
  have HR := Lib.hid hr
  clear hr
  by_cases hneg : 0 ≤ n
  · have F1 : n % (m : Int) = (resN n m : Int) := HR.out.symm
    have F2 : ¬ ((resN n m : Int) < 0) := by omega
    go_enter Tryz.func142, Tryz.ntmps142
    go_wp2_with fail
    go_ret
    exact ⟨by first | rfl | rw [HR.out], rfl⟩
  · obtain ⟨k, hk⟩ : ∃ k : Nat, (k : Int) = (-n) % (m : Int) := ⟨((-n) % (m : Int)).toNat, by have := Int.emod_nonneg (-n) (show (m : Int) ≠ 0 by omega); omega⟩
    have hkm : (k : Int) < m := by rw [hk]; exact Int.emod_lt_of_pos _ (by omega)
    have F1 : n.tmod (m : Int) = -(k : Int) := by
      rw [hk, ← Int.tmod_eq_emod_of_nonneg (show 0 ≤ -n by omega), Int.neg_tmod, Int.neg_neg]
    have e1 : n = -(k : Int) + (m : Int) * (-((-n) / (m : Int))) := by
      have := Int.emod_add_mul_ediv (-n) (m : Int)
      rw [← hk] at this
      rw [Int.mul_neg]
      omega
    have e2 : n % (m : Int) = (-(k : Int)) % (m : Int) := by
      conv => lhs; rw [e1]
      exact Int.add_mul_emod_self_left _ _ _
    by_cases h0k : k = 0
    · have HE : Hid ((resN n m : Int) = 0) := Lib.hid (by rw [HR.out, e2, h0k]; simp)
      have F3 : ¬ (-(k : Int) < 0) := by omega
      clear hk e1 e2
      go_enter Tryz.func142, Tryz.ntmps142
      go_wp2_with fail
      go_ret
      exact ⟨by rw [HE.out]; first | rfl | (congr 2; omega), rfl⟩
    · have HE : Hid ((resN n m : Int) = -(k : Int) + m) := Lib.hid (by
        rw [HR.out, e2, ← Int.add_emod_right, Int.emod_eq_of_lt (by omega) (by omega)])
      have F3 : -(k : Int) < 0 := by omega
      clear hk e1 e2
      go_enter Tryz.func142, Tryz.ntmps142
      go_wp2_with fail
      go_ret
      exact ⟨by rw [HE.out]; first | rfl | (congr 2; omega), rfl⟩
/-- the product of two residues -/

theorem times_step {x a b m T : Nat} (hT : (x + a * b) % m = T) (_hx : x < m) (_ha : a < m) :
    ((if b % 2 = 1 then (if m ≤ x + a then x + a - m else x + a) else x) + (if m ≤ a + a then a + a - m else a + a) * (b / 2)) % m = T := by
  have e1 : (if m ≤ a + a then a + a - m else a + a) % m = (a + a) % m := by
    split
    · rename_i h
      rw [← Nat.add_mod_right (a + a - m), Nat.sub_add_cancel h]
    · rfl
  have e2 : (if b % 2 = 1 then (if m ≤ x + a then x + a - m else x + a) else x) % m = (x + a * (b % 2)) % m := by
    rcases Nat.mod_two_eq_zero_or_one b with h | h <;> rw [h]
    · simp
    · simp only [if_pos]
      split
      · rename_i h2
        rw [← Nat.add_mod_right (x + a - m), Nat.sub_add_cancel h2, Nat.mul_one]
      · rw [Nat.mul_one]
  rw [Nat.add_mod, Nat.mul_mod, e1, ← Nat.mul_mod, e2, ← Nat.add_mod, ← hT]
  congr 1
  have hb := Nat.div_add_mod b 2
  generalize b / 2 = q at *
  generalize b % 2 = r at *
  rw [← hb, Nat.mul_add, Nat.add_mul]
  have e3 : a * (2 * q) = a * q + a * q := by rw [Nat.mul_left_comm, Nat.two_mul]
  rw [e3]
  omega
set_option maxRecDepth 100000 in
set_option maxHeartbeats 4000000 in
theorem times_any (a0 b0 m : Nat) (w : World) (ha : a0 < m) (hb : b0 < 4611686018427387904) (hm : m < 4611686018427387904) :
    Calls Tryz.prog 143 #[.int .i64 a0, .int .i64 b0, .int .i64 m] w fun e w' => e = .returned (.int .i64 (a0 * b0 % m : Nat)) ∧ w' = w := by
  obtain ⟨T, hT⟩ : ∃ T, T = a0 * b0 % m := ⟨_, rfl⟩
  rw [← hT]
  have HT0 : Hid ((0 + a0 * b0) % m = T) := Lib.hid (by rw [Nat.zero_add, hT])
  clear hT
  have HA := Lib.hid ha
  have HB := Lib.hid hb
  clear ha hb
  go_enter Tryz.func143, Tryz.ntmps143
  go_wp2_with fail
  go_loop [0, 1, 7] (fun av bv xv => ∃ a b x : Nat, av = .int .i64 a ∧ bv = .int .i64 b ∧ xv = .int .i64 x ∧ a < m ∧ x < m ∧ b < 4611686018427387904 ∧ Hid ((x + a * b) % m = T)) (fun _ bv _ => (intOf bv).toNat)
  case atStart => exact ⟨a0, b0, 0, rfl, rfl, rfl, HA.out, (by have := HA.out; omega), HB.out, HT0⟩
  case round =>
    obtain ⟨a, b, x, rfl, rfl, rfl, ha, hx, hb, HT⟩ := hrel
    by_cases h0 : 0 < b
    · have HS := Lib.hid (times_step HT.out hx ha)
      have HBh : Hid (b / 2 < b ∧ b / 2 < 4611686018427387904) := Lib.hid (by omega)
      have F0 : bits .and .i64 (b : Int) 1 = ((b % 2 : Nat) : Int) := and1 b (by omega)
      have F1 : (b : Int) / 2 = ((b / 2 : Nat) : Int) := by omega
      obtain ⟨q, hq⟩ : ∃ q, q = b / 2 := ⟨_, rfl⟩
      rw [← hq] at HS HBh F1
      clear HT hq
      have hqb : q < 4611686018427387904 := HBh.out.2
      by_cases h1 : b % 2 = 1
      · have G1 : bits .and .i64 (b : Int) 1 = 1 := by rw [F0, h1]; rfl
        rw [if_pos h1] at HS
        clear F0 h1
        by_cases h2 : m ≤ x + a
        · rw [if_pos h2] at HS
          by_cases h3 : m ≤ a + a
          · rw [if_pos h3] at HS
            go_wp2_with fail
            go_round
            case rel => exact ⟨a + a - m, q, x + a - m, by go_num, by go_num, by go_num, by omega, by omega, hqb, HS⟩
            case measure => have := HBh.out.1; simp [intOf]; omega
          · rw [if_neg h3] at HS
            go_wp2_with fail
            go_round
            case rel => exact ⟨a + a, q, x + a - m, by go_num, by go_num, by go_num, by omega, by omega, hqb, HS⟩
            case measure => have := HBh.out.1; simp [intOf]; omega
        · rw [if_neg h2] at HS
          by_cases h3 : m ≤ a + a
          · rw [if_pos h3] at HS
            go_wp2_with fail
            go_round
            case rel => exact ⟨a + a - m, q, x + a, by go_num, by go_num, by go_num, by omega, by omega, hqb, HS⟩
            case measure => have := HBh.out.1; simp [intOf]; omega
          · rw [if_neg h3] at HS
            go_wp2_with fail
            go_round
            case rel => exact ⟨a + a, q, x + a, by go_num, by go_num, by go_num, by omega, by omega, hqb, HS⟩
            case measure => have := HBh.out.1; simp [intOf]; omega
      · have G1 : bits .and .i64 (b : Int) 1 = 0 := by rw [F0]; omega
        rw [if_neg h1] at HS
        clear F0 h1
        by_cases h3 : m ≤ a + a
        · rw [if_pos h3] at HS
          go_wp2_with fail
          go_round
          case rel => exact ⟨a + a - m, q, x, by go_num, by go_num, by go_num, by omega, by omega, hqb, HS⟩
          case measure => have := HBh.out.1; simp [intOf]; omega
        · rw [if_neg h3] at HS
          go_wp2_with fail
          go_round
          case rel => exact ⟨a + a, q, x, by go_num, by go_num, by go_num, by omega, by omega, hqb, HS⟩
          case measure => have := HBh.out.1; simp [intOf]; omega
    · obtain rfl : b = 0 := by omega
      have HE : Hid (x = T) := Lib.hid (by have h := HT.out; rw [Nat.mul_zero, Nat.add_zero, Nat.mod_eq_of_lt hx] at h; exact h)
      go_wp2_with fail
      go_ret
      exact ⟨by rw [HE.out]; rfl, rfl⟩
theorem exp_step {x b e T : Nat} (hT : x * b ^ e % gP = T) (_h0 : 0 < e) :
    (if e % 2 = 1 then x * b % gP else x) * (b * b % gP) ^ (e / 2) % gP = T := by
  have h := Nat.div_add_mod e 2
  have e1 : (b * b % gP) ^ (e / 2) % gP = b ^ (2 * (e / 2)) % gP := by
    rw [← Nat.pow_mod, Nat.pow_mul, Nat.pow_two]
  rw [Nat.mul_mod, e1, ← Nat.mul_mod, ← hT]
  rcases Nat.mod_two_eq_zero_or_one e with g | g
  · rw [g, if_neg (by decide)]
    rw [g, Nat.add_zero] at h
    rw [h]
  · rw [g, if_pos rfl]
    rw [g] at h
    conv => rhs; rw [← h, Nat.pow_succ, ← Nat.mul_assoc, Nat.mul_right_comm]
    rw [Nat.mul_mod, Nat.mod_mod, ← Nat.mul_mod]
set_option maxRecDepth 100000 in
set_option maxHeartbeats 4000000 in
theorem rexp_any (a e0 : Int) (w : World) (ha : -9223372036854775808 ≤ a ∧ a ≤ 9223372036854775807) (he : 0 ≤ e0 ∧ e0 ≤ 9223372036854775807) :
    Calls Tryz.prog 121 #[.int .i64 a, .int .i64 e0] w fun e w' => e = .returned (.int .i64 (resN a gP ^ e0.toNat % gP : Nat)) ∧ w' = w := by
  obtain ⟨E, rfl⟩ : ∃ E : Nat, e0 = E := ⟨e0.toNat, by omega⟩
  rw [Int.toNat_natCast]
  obtain ⟨b0, hb0⟩ : ∃ b0, b0 = resN a gP := ⟨_, rfl⟩
  have hb0m : b0 < 2305843009213691579 := by rw [hb0]; exact resN_lt a (show 0 < gP by decide)
  obtain ⟨T, hT⟩ : ∃ T, T = b0 ^ E % gP := ⟨_, rfl⟩
  rw [← hb0, ← hT]
  have HT0 : Hid (1 * b0 ^ E % gP = T) := Lib.hid (by rw [Nat.one_mul, hT])
  have HB0 := Lib.hid hb0
  have HA := Lib.hid ha
  have hEb : E < 9223372036854775808 := by omega
  have HEb := Lib.hid hEb
  have F0 : ¬ ((E : Int) < 0) := by omega
  clear hb0 hT ha he hEb
  go_enter Tryz.func121, Tryz.ntmps121
  go_wp2_with fail
  refine (rmod_any a gP _ HA.out (by decide) (by decide)).mono ?_
  rintro e w1 ⟨rfl, rfl⟩
  rw [← HB0.out]
  go_wp2_with fail
  go_loop [1, 5, 6] (fun ev xv bv => ∃ e x b : Nat, ev = .int .i64 e ∧ xv = .int .i64 x ∧ bv = .int .i64 b ∧ x < 2305843009213691579 ∧ b < 2305843009213691579 ∧ e < 9223372036854775808 ∧ Hid (x * b ^ e % gP = T)) (fun ev _ _ => (intOf ev).toNat)
  case atStart => exact ⟨E, 1, b0, rfl, rfl, rfl, by decide, hb0m, HEb.out, HT0⟩
  case round =>
    obtain ⟨e, x, b, rfl, rfl, rfl, hx, hb, he, HT⟩ := hrel
    by_cases h0 : 0 < e
    · have HS := Lib.hid (exp_step HT.out h0)
      have HQ : Hid (e / 2 < e ∧ e / 2 < 9223372036854775808) := Lib.hid (by omega)
      have F1 : (e : Int) / 2 = ((e / 2 : Nat) : Int) := by omega
      obtain ⟨q, hq⟩ : ∃ q, q = e / 2 := ⟨_, rfl⟩
      rw [← hq] at HS HQ F1
      clear HT hq
      have hqb : q < 9223372036854775808 := HQ.out.2
      obtain ⟨b2, hb2⟩ : ∃ b2, b2 = b * b % gP := ⟨_, rfl⟩
      have hb2m : b2 < 2305843009213691579 := by rw [hb2]; exact lt_p _
      have HB2 := Lib.hid hb2
      rw [← hb2] at HS
      clear hb2
      by_cases h1 : e % 2 = 1
      · have G1 : (e : Int) % 2 = 1 := by omega
        rw [if_pos h1] at HS
        clear h1
        obtain ⟨x2, hx2⟩ : ∃ x2, x2 = x * b % gP := ⟨_, rfl⟩
        have hx2m : x2 < 2305843009213691579 := by rw [hx2]; exact lt_p _
        have HX2 := Lib.hid hx2
        rw [← hx2] at HS
        clear hx2
        go_wp2_with fail
        refine (times_any x b gP _ hx (by omega) (by decide)).mono ?_
        rintro e' w2 ⟨rfl, rfl⟩
        rw [← HX2.out]
        go_wp2_with fail
        refine (times_any b b gP _ hb (by omega) (by decide)).mono ?_
        rintro e' w3 ⟨rfl, rfl⟩
        rw [← HB2.out]
        go_wp2_with fail
        go_round
        case rel => exact ⟨q, x2, b2, by go_num, by go_num, by go_num, hx2m, hb2m, hqb, HS⟩
        case measure => have := HQ.out.1; simp [intOf]; omega
      · have G1 : (e : Int) % 2 = 0 := by omega
        rw [if_neg h1] at HS
        clear h1
        go_wp2_with fail
        refine (times_any b b gP _ hb (by omega) (by decide)).mono ?_
        rintro e' w3 ⟨rfl, rfl⟩
        rw [← HB2.out]
        go_wp2_with fail
        go_round
        case rel => exact ⟨q, x, b2, by go_num, by go_num, by go_num, hx, hb2m, hqb, HS⟩
        case measure => have := HQ.out.1; simp [intOf]; omega
    · obtain rfl : e = 0 := by omega
      have HE : Hid (x = T) := Lib.hid (by have h := HT.out; rw [Nat.pow_zero, Nat.mul_one, Nat.mod_eq_of_lt (show x < gP from hx)] at h; exact h)
      go_wp2_with fail
      go_ret
      exact ⟨by rw [HE.out]; rfl, rfl⟩
end Go.Proofs.YtjbjpkhibcnenaaGreatDoor
/- Package wire: a reader's lists: Nums, Texts. -/
namespace Go.Proofs.YtjbjpkhibcnenaaGreatDoor
open Go.RowKit
theorem rdList_one {α : Type} (f : List UInt8 → Option (α × List UInt8)) (n : Nat) (t : List UInt8) : rdList f (n + 1) (1 :: t) = match f t with | none => none | some (x, r) => (rdList f n r).map fun p => (x :: p.1, p.2) := rfl
/-- what reading a list has come to: acc has been read, st is left -/
def LInv {α : Type} (f : List UInt8 → Option (α × List UInt8)) (R : Option (List α × List UInt8)) (acc : List α) (st : RSt) : Prop :=
  match st with
  | none => R = none
  | some cur => ∃ n, cur.length < n ∧ R = (rdList f n cur).map fun p => (acc ++ p.1, p.2)
theorem LInv.start {α : Type} (f : List UInt8 → Option (α × List UInt8)) (s : List UInt8) : LInv f (rdList f (s.length + 1) s) [] (some s) := ⟨_, Nat.lt_succ_self _, by simp⟩
theorem LInv.step {α : Type} {f : List UInt8 → Option (α × List UInt8)} (hf : ∀ s x r, f s = some (x, r) → r.length < s.length) {R : Option (List α × List UInt8)} {acc : List α} {t : List UInt8} (h : LInv f R acc (some (1 :: t))) :
    (∀ x r, f t = some (x, r) → LInv f R (acc ++ [x]) (some r)) ∧ (f t = none → R = none) := by
  obtain ⟨n, hn, h⟩ := h
  cases n with
  | zero => omega
  | succ n =>
    rw [rdList_one] at h
    constructor
    · intro x r hx
      rw [hx] at h
      simp only at h
      have := hf _ _ _ hx
      simp only [List.length_cons] at hn
      refine ⟨n, by omega, ?_⟩
      rw [h, Option.map_map]
      congr 1
      funext p
      simp
    · intro hx
      rw [hx] at h
      exact h
end Go.Proofs.YtjbjpkhibcnenaaGreatDoor
