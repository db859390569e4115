/- Texts merged: AFind ALawA -/
import Derived.Test.YtjbjpkhibcnenaaGreatDoorAFindL
import Derived.Outline
import Derived.Test.YtjbjpkhibcnenaaGreatDoorCEq
import Derived.Test.YtjbjpkhibcnenaaGreatDoorSRef6
/- audit.Find. -/
namespace Go.Proofs.YtjbjpkhibcnenaaGreatDoor
open Go.RowKit
theorem undBS : Tryz.prog.underlying 44 = some (.slice 40) := by kernel_rfl
theorem infoB88 : ∃ i z, Tryz.prog.info? 40 = some i ∧ i.size = 9 ∧ i.zero = some z ∧ z.cells.size = 9 ∧ i.bytes = 88 := by
  have h : (Tryz.prog.info? 40).map (fun i => (i.size, i.zero.map (fun z => z.cells.size), i.bytes)) = some (9, some 9, 88) := by kernel_rfl
  cases hi : Tryz.prog.info? 40 with
  | none => rw [hi] at h; cases h
  | some i =>
    rw [hi] at h
    simp only [Option.map_some, Option.some.injEq, Prod.mk.injEq] at h
    obtain ⟨h1, h2, h3⟩ := h
    cases hz : i.zero with
    | none => rw [hz] at h2; cases h2
    | some z =>
      rw [hz] at h2
      simp only [Option.map_some, Option.some.injEq] at h2
      exact ⟨i, z, rfl, h1, hz, h2, h3⟩
/-- one finder by its number -/
theorem finder_at (jb mb : Nat) (ar ap : Option Addr) (cr cp : Nat) (err : Int) (room ps : List Int) (pubs : List PublicV) {sb : Nat} {a0 a1 a2 av : Option Addr} {k0 k1 k2 kv : Nat} (l : List CV) (vows : List PV) (w4 : World) (fb : Nat) (hJ : JudgeAt jb mb ar ap cr cp err room ps pubs w4) (hS : SearchAt sb jb a0 a1 a2 av k0 k1 k2 kv (clO (judgeV err room ps pubs) l 0) (clO (judgeV err room ps pubs) l 1) (clO (judgeV err room ps pubs) l 2) (vows.filter (vB ps)) (lastN (judgeV err room ps pubs) l) w4) (hI : ∀ p ∈ pubs, PbI p) (hpl : pubs.length ≤ 1000)
    (hf : w4.heap[fb]? = some (.cells #[.func (.func 24) #[.pointer (some ⟨sb, 0, none⟩)] #[], .func (.func 25) #[.pointer (some ⟨sb, 0, none⟩)] #[], .func (.func 26) #[.pointer (some ⟨sb, 0, none⟩)] #[], .func (.func 27) #[.pointer (some ⟨sb, 0, none⟩)] #[], .func (.func 28) #[.pointer (some ⟨sb, 0, none⟩)] #[], .func (.func 29) #[.pointer (some ⟨sb, 0, none⟩)] #[]] 69 (0, 0))) (k : Nat) (hk : k < 6) : ∃ f, w4.cell? ⟨fb, k, none⟩ = some (.func (.func f) #[.pointer (some ⟨sb, 0, none⟩)] #[]) ∧ (∀ args w, (callFunc f args).run Tryz.prog w = .ok (.enter f args) w) ∧ ∀ (j : Nat) (w : World), j < 3 → Below w4.heap.size w4 w → Calls Tryz.prog f #[.pointer (some ⟨sb, 0, none⟩), .int .i64 (j : Int)] w (RetF (blameL (judgeV err room ps pubs) l vows (j : Int) k) w) := by
  have below : ∀ w, Below w4.heap.size w4 w → JudgeAt jb mb ar ap cr cp err room ps pubs w ∧ SearchAt sb jb a0 a1 a2 av k0 k1 k2 kv (clO (judgeV err room ps pubs) l 0) (clO (judgeV err room ps pubs) l 1) (clO (judgeV err room ps pubs) l 2) (vows.filter (vB ps)) (lastN (judgeV err room ps pubs) l) w := fun w hb => ⟨hJ.below hb, hS.below hb⟩
  rcases k with _ | _ | _ | _ | _ | _ | k
  · exact ⟨_, rowN hf 0 _ rfl, Tryz.call24, fun j w hj hb => fd0 jb mb ar ap cr cp err room ps pubs l vows j w (below w hb).1 (below w hb).2 hj hI hpl⟩
  · exact ⟨_, rowN hf 1 _ rfl, Tryz.call25, fun j w hj hb => fd1 jb mb ar ap cr cp err room ps pubs l vows j w (below w hb).1 (below w hb).2 hj hI hpl⟩
  · exact ⟨_, rowN hf 2 _ rfl, Tryz.call26, fun j w hj hb => fd2 jb mb ar ap cr cp err room ps pubs l vows j w (below w hb).1 (below w hb).2 hj hI hpl⟩
  · exact ⟨_, rowN hf 3 _ rfl, Tryz.call27, fun j w hj hb => fd3 jb mb ar ap cr cp err room ps pubs l vows j w (below w hb).1 (below w hb).2 hj hI hpl⟩
  · exact ⟨_, rowN hf 4 _ rfl, Tryz.call28, fun j w hj hb => fd4 jb mb ar ap cr cp err room ps pubs l vows j w (below w hb).1 (below w hb).2 hj hI hpl⟩
  · exact ⟨_, rowN hf 5 _ rfl, Tryz.call29, fun j w hj hb => fd5 jb mb ar ap cr cp err room ps pubs l vows j w (below w hb).1 (below w hb).2 hj hI hpl⟩
  · omega
set_option maxRecDepth 100000 in
set_option maxHeartbeats 8000000 in
theorem find_any (x : BsX) (ar ap : Option Addr) (cr cp : Nat) (err : Int) (room ps : List Int) (vq : Value) (pubs : List PublicV) (al av : Option Addr) (lc vc : Nat) (l : List CV) (vows : List PV) (w : World) (hI : JIn ar ap cr cp err room ps vq pubs w) (hL : LArg RC 8 (.slice al l.length lc) l w) (hV : LArg RP 6 (.slice av vows.length vc) vows w) (hl : l.length ≤ 1000) (hvl : vows.length ≤ 1000) (hC : ∀ c ∈ l, c.prev.size ≤ 900) (hg : Glob w) (hml : MLen w) :
    Calls Tryz.prog 9 #[.agg #[.string x.nm, .slice x.a1 x.n1 x.c1, .int .i64 x.k, .slice x.a3 x.n3 x.c3, .slice x.a4 x.n4 x.c4, .slice x.a5 x.n5 x.c5, .slice x.a6 x.n6 x.c6, .slice x.a7 x.n7 x.c7, .slice x.a8 x.n8 x.c8, .slice ar 3 cr, .int .i64 err], .slice ap 3 cp, vq, .slice al l.length lc, .slice av vows.length vc] w (RetL (findL (judgeV err room ps pubs) l vows) w) := by
  obtain ⟨ib, zb, hib, hsz, hzb, hcz, hbb⟩ := infoB88
  have HI := Lib.hid hI
  have HL := Lib.hid hL
  have HV := Lib.hid hV
  have HC9 := Lib.hid hC
  have HGl := Lib.hid hg
  have HML := Lib.hid hml
  have HPI := Lib.hid hI.pbI
  have hpl := hI.hl
  have HVO : Hid (∀ p ∈ vows, POk p) := Lib.hid (fun p hp => by
    obtain ⟨j, hj⟩ := List.getElem?_of_mem hp
    obtain ⟨_, _, _, _, _, _, _, _, h⟩ := hV.at hj
    exact h)
  clear hI hL hV hC hg hml
  have HR := Lib.hid ((RowsS.nil w).alloc (.cells #[.string x.nm, .slice x.a1 x.n1 x.c1, .int .i64 x.k, .slice x.a3 x.n3 x.c3, .slice x.a4 x.n4 x.c4, .slice x.a5 x.n5 x.c5, .slice x.a6 x.n6 x.c6, .slice x.a7 x.n7 x.c7, .slice x.a8 x.n8 x.c8, .slice ar 3 cr, .int .i64 err] 31))
  go_enter Tryz.func9, Tryz.ntmps9
  go_upto_region 1 with fail
  generalize w.alloc (.cells #[.string x.nm, .slice x.a1 x.n1 x.c1, .int .i64 x.k, .slice x.a3 x.n3 x.c3, .slice x.a4 x.n4 x.c4, .slice x.a5 x.n5 x.c5, .slice x.a6 x.n6 x.c6, .slice x.a7 x.n7 x.c7, .slice x.a8 x.n8 x.c8, .slice ar 3 cr, .int .i64 err] 31) = w0 at *
  go_wp2_with (first | (refine wpList_load_rowW (by first | (go_simp; done) | rfl) 31 _ rfl _ rfl 31 _ _ _ (HR.out.row 0 rfl) undBn rfl infoBn ?_))
  refine (newJudge_any x ar ap cr cp err room ps vq pubs _ (HI.out.below HR.out.below)).mono ?_
  rintro e w1 ⟨jb, mb, rfl, hj1, -, hb1⟩
  have HB1 := Lib.hid (HR.out.below.trans (hb1.mono HR.out.below.size))
  have HJ1 := Lib.hid hj1
  clear hj1 hb1 HR
  go_wp2_with fail
  refine (newSearch_any jb mb ar ap cr cp err room ps pubs al av lc vc l vows _ HJ1.out (HL.out.below stays_RC HB1.out) (HV.out.below stays_RP HB1.out) hl hvl HC9.out (HGl.out.below HB1.out HGl.out.size) (HML.out.up HB1.out)).mono ?_
  rintro e w2 ⟨sb, a0, a1, a2, av2, k0, k1, k2, kv, rfl, hs2, hb2⟩
  have HJ2 := Lib.hid (HJ1.out.below hb2)
  have HB2 := Lib.hid (HB1.out.trans (hb2.mono HB1.out.size))
  have HS2 := Lib.hid hs2
  clear hs2 hb2 HJ1 HB1
  go_upto_region 3 with fail
  have ha : Below w2.heap.size w2 (w2.alloc (.cells #[.func (.func 24) #[.pointer (some ⟨sb, 0, none⟩)] #[], .func (.func 25) #[.pointer (some ⟨sb, 0, none⟩)] #[], .func (.func 26) #[.pointer (some ⟨sb, 0, none⟩)] #[], .func (.func 27) #[.pointer (some ⟨sb, 0, none⟩)] #[], .func (.func 28) #[.pointer (some ⟨sb, 0, none⟩)] #[], .func (.func 29) #[.pointer (some ⟨sb, 0, none⟩)] #[]] 69)) := (Below.refl _ _).alloc (Nat.le_refl _) _
  have HJ4 := Lib.hid (HJ2.out.below ha)
  have HS4 := Lib.hid (HS2.out.below ha)
  have HB4 := Lib.hid (HB2.out.trans (ha.mono HB2.out.size))
  have HF4 := Lib.hid (heap_alloc_new w2 (.cells #[.func (.func 24) #[.pointer (some ⟨sb, 0, none⟩)] #[], .func (.func 25) #[.pointer (some ⟨sb, 0, none⟩)] #[], .func (.func 26) #[.pointer (some ⟨sb, 0, none⟩)] #[], .func (.func 27) #[.pointer (some ⟨sb, 0, none⟩)] #[], .func (.func 28) #[.pointer (some ⟨sb, 0, none⟩)] #[], .func (.func 29) #[.pointer (some ⟨sb, 0, none⟩)] #[]] 69))
  clear ha HJ2 HS2 HB2
  generalize w2.alloc (.cells #[.func (.func 24) #[.pointer (some ⟨sb, 0, none⟩)] #[], .func (.func 25) #[.pointer (some ⟨sb, 0, none⟩)] #[], .func (.func 26) #[.pointer (some ⟨sb, 0, none⟩)] #[], .func (.func 27) #[.pointer (some ⟨sb, 0, none⟩)] #[], .func (.func 28) #[.pointer (some ⟨sb, 0, none⟩)] #[], .func (.func 29) #[.pointer (some ⟨sb, 0, none⟩)] #[]] 69) = w4 at *
  generalize w2.heap.size = fb at *
  have HFD := Lib.hid (finder_at jb mb ar ap cr cp err room ps pubs l vows w4 fb HJ4.out HS4.out HPI.out hpl HF4.out)
  have hfl := blk_lt HF4.out
  clear HF4
  go_wp2_with fail
  go_loopw [13, 39] (fun sv iv wx => ∃ (bv : Value) (o : Nat) (zs : List (BlV × Value)), bv = sv ∧ o ≤ 3 ∧ iv = .int .i64 (o : Int) ∧ zs.map (·.1) = preL (judgeV err room ps pubs) l vows o 0 ∧ BLS w4 bv zs wx) (fun _ iv _ => 3 - (Go.RowKit.intOf iv).toNat)
  case atStart => exact ⟨_, 0, [], rfl, by omega, rfl, rfl, BLS.start (Below.refl _ _)⟩
  case round =>
    obtain ⟨bv, o, zs, rfl, ho, rfl, hz, hbl⟩ := hrel
    have HZ := Lib.hid hz
    have HBL := Lib.hid hbl
    clear hz hbl
    by_cases hlt : o < 3
    · have ho3 : (o : Int) < 3 := by omega
      have HO3 := Lib.hid hlt
      go_wp2_with fail
      rename World => wy
      go_loopw [13, 44] (fun sv iv wx => ∃ (bv : Value) (k : Nat) (zs : List (BlV × Value)), bv = sv ∧ k ≤ 6 ∧ iv = .int .i64 (k : Int) ∧ zs.map (·.1) = preL (judgeV err room ps pubs) l vows o k ∧ BLS w4 bv zs wx) (fun _ iv _ => 6 - (Go.RowKit.intOf iv).toNat)
      case atStart => exact ⟨_, 0, zs, rfl, by omega, rfl, HZ.out, HBL.out⟩
      case round =>
        clear HZ HBL
        obtain ⟨bv, k, zs, rfl, hk, rfl, hz, hbl⟩ := hrel
        have HZ := Lib.hid hz
        have HBL := Lib.hid hbl
        have hzl : zs.length ≤ 24 := by
          have h1 := congrArg List.length hz
          rw [List.length_map] at h1
          have h2 := preL_len (J := (judgeV err room ps pubs)) (l := l) (vows := vows) (o := o) (k := k) ho hk
          omega
        clear hz hbl
        by_cases hlk : k < 6
        · obtain ⟨f, hfc, hen, hcall⟩ := HFD.out k hlk
          have hk6 : (k : Int) < 6 := by omega
          have hfc2 := (HBL.out.below.cell (p := ⟨fb, k, none⟩) hfl).trans hfc
          have HCL := Lib.hid hcall
          clear hfc hcall
          go_wp2_with fail
          refine (HCL.out o _ HO3.out HBL.out.below).mono ?_
          rintro e w5 hret
          cases hb : blameL (judgeV err room ps pubs) l vows (o : Int) k with
          | none =>
            rw [hb] at hret
            obtain ⟨rfl, hb5⟩ := hret
            have HBL5 := Lib.hid ((HBL.out.step hb5).step ((Below.refl _ _).alloc (Nat.le_refl _) (.cells #[.int .i64 0, .int .i64 0, .slice none 0 0, .int .i64 0, .int .i64 0, .int .i64 0, .int .i64 0, .int .i64 0, .int .i64 0] 40)))
            have HZ5 := Lib.hid (HZ.out.trans (preL_none hb).symm)
            clear hb hb5 HBL HZ hfc2 HCL
            go_wp2_with fail
            go_roundw
            case rel => exact ⟨_, k + 1, zs, rfl, by omega, by go_num, HZ5.out, HBL5.out⟩
            case measure => simp [Go.RowKit.intOf]; omega
          | some x =>
            rw [hb] at hret
            obtain ⟨⟨v, he, hlv, b, n, m, rfl, hge⟩, hb5⟩ := hret
            rw [show (cellsB x (.slice (some ⟨b, 0, none⟩) n m)).toArray = #[.int .i64 x.office, .int .i64 x.why, .slice (some ⟨b, 0, none⟩) n m, .int .i64 x.prom.office, .int .i64 x.prom.since, .int .i64 x.prom.till, .int .i64 x.prom.litres, .int .i64 x.prom.e, .int .i64 x.prom.s] from rfl] at he
            subst he
            have HO := Lib.hid (blame_ok ⟨by omega, by omega⟩ hb)
            have hxc := Lib.hid (check_claims HO.out.2.2.2.1)
            have hbne : bv.ownBlock ≠ some b := fun e => by have := HBL.out.lt b e; omega
            have HNE := Lib.hid hbne
            have hal : Below w5.heap.size w5 (w5.alloc (.cells #[.int .i64 x.office, .int .i64 x.why, .slice (some ⟨b, 0, none⟩) n m, .int .i64 x.prom.office, .int .i64 x.prom.since, .int .i64 x.prom.till, .int .i64 x.prom.litres, .int .i64 x.prom.e, .int .i64 x.prom.s] 40)) := (Below.refl _ _).alloc (Nat.le_refl _) _
            have HBL6 := Lib.hid ((HBL.out.step hb5).step hal)
            have HLV6 := Lib.hid (hlv.below stays_RC hal)
            have HX6 := Lib.hid (heap_alloc_new w5 (.cells #[.int .i64 x.office, .int .i64 x.why, .slice (some ⟨b, 0, none⟩) n m, .int .i64 x.prom.office, .int .i64 x.prom.since, .int .i64 x.prom.till, .int .i64 x.prom.litres, .int .i64 x.prom.e, .int .i64 x.prom.s] 40))
            have HZ5 := Lib.hid (preL_some hb)
            clear hb hb5 HBL hfc2 HCL hal hlv hge hbne HO
            go_upto_region 12 with fail
            generalize w5.alloc (.cells #[.int .i64 x.office, .int .i64 x.why, .slice (some ⟨b, 0, none⟩) n m, .int .i64 x.prom.office, .int .i64 x.prom.since, .int .i64 x.prom.till, .int .i64 x.prom.litres, .int .i64 x.prom.e, .int .i64 x.prom.s] 40) = w6 at *
            generalize w5.heap.size = bX at *
            have hal : Below w6.heap.size w6 (w6.alloc (.cells #[.int .i64 x.office, .int .i64 x.why, .slice (some ⟨b, 0, none⟩) n m, .int .i64 x.prom.office, .int .i64 x.prom.since, .int .i64 x.prom.till, .int .i64 x.prom.litres, .int .i64 x.prom.e, .int .i64 x.prom.s] 40)) := (Below.refl _ _).alloc (Nat.le_refl _) _
            have HBL7 := Lib.hid (HBL6.out.step hal)
            have HLV7 := Lib.hid (HLV6.out.below stays_RC hal)
            have hnew := new_cells (l := [.int .i64 x.office, .int .i64 x.why, .slice (some ⟨b, 0, none⟩) n m, .int .i64 x.prom.office, .int .i64 x.prom.since, .int .i64 x.prom.till, .int .i64 x.prom.litres, .int .i64 x.prom.e, .int .i64 x.prom.s]) (heap_alloc_new w6 (.cells #[.int .i64 x.office, .int .i64 x.why, .slice (some ⟨b, 0, none⟩) n m, .int .i64 x.prom.office, .int .i64 x.prom.since, .int .i64 x.prom.till, .int .i64 x.prom.litres, .int .i64 x.prom.e, .int .i64 x.prom.s] 40))
            clear hal HBL6 HLV6
            go_wp2_with (first | (refine wpList_load_rowW (by first | (go_simp; done) | rfl) 40 _ rfl _ rfl 40 _ _ _ HX6.out undBl rfl infoBl ?_) | (at_builtin; refine Hid.out ?_))
            refine Lib.hid ?_
            refine wpList_append_own_at _ rfl _ _ 44 rfl w4.heap.size 40 ib zb 9 ib.bytes undBS hib hzb hsz rfl hcz (by decide) bv zs.length _ rfl HBL7.out.own ⟨w6.heap.size, 0, none⟩ 1 1 [.int .i64 x.office, .int .i64 x.why, .slice (some ⟨b, 0, none⟩) n m, .int .i64 x.prom.office, .int .i64 x.prom.since, .int .i64 x.prom.till, .int .i64 x.prom.litres, .int .i64 x.prom.e, .int .i64 x.prom.s] rfl rfl hnew (by simp [Value.oneCell']) (by unfold maxLen; omega) (by rw [hbb]; omega) HBL7.out.below.size ?_
            intro v' w8 hown8 hgr8 _ hat8
            have HBL8 := Lib.hid (HBL7.out.add HLV7.out rfl hxc.out HNE.out hgr8 hown8 hat8)
            have HZ8 : Hid ((zs ++ [(x, Value.slice (some ⟨b, 0, none⟩) n m)]).map (·.1) = preL (judgeV err room ps pubs) l vows o (k + 1)) := Lib.hid (by rw [HZ5.out, ← HZ.out, List.map_append]; rfl)
            clear hown8 hgr8 hat8 hnew HX6 HLV7 HBL7 HZ5
            go_wp2_with fail
            go_roundw
            case rel => exact ⟨_, k + 1, _, rfl, by omega, by go_num, HZ8.out, HBL8.out⟩
            case measure => simp [Go.RowKit.intOf]; omega
        · obtain rfl : k = 6 := by omega
          have HZ6 := Lib.hid (HZ.out.trans (preL_office _ _ _ _))
          clear hlk hk HZ
          go_wp2_with fail
          go_roundw
          case rel => exact ⟨_, o + 1, zs, rfl, by omega, by go_num, HZ6.out, HBL.out⟩
          case measure => simp [Go.RowKit.intOf]; omega
    · obtain rfl : o = 3 := by omega
      have HZ3 := Lib.hid (HZ.out.trans (preL_end _ _ _))
      clear hlt ho HZ
      go_wp2_with fail
      go_ret
      exact ⟨_, rfl, by rw [← HZ3.out]; exact HBL.out.larg (fun z hz => findL_BOk HVO.out z.1 (by rw [← HZ3.out]; exact List.mem_map.2 ⟨z, hz, rfl⟩)), HB4.out.trans (HBL.out.below.mono HB4.out.size)⟩
end Go.Proofs.YtjbjpkhibcnenaaGreatDoor
/- bournelaw46: Key, Publics, signed. -/
namespace Go.Proofs.YtjbjpkhibcnenaaGreatDoor
open Go.RowKit
/-- the keys of the offices -/
def xk : Nat → Nat | 0 => keyN [97, 48] | 1 => keyN [97, 49] | _ => keyN [97, 50]
def pk (j : Nat) : Int := (pubN (xk j) : Nat)
def PSK : List Int := [pk 0, pk 1, pk 2]
theorem xk_bd (j : Nat) : 1 ≤ xk j ∧ xk j < 1152921504606845789 := by
  unfold xk
  split <;> exact keyN_bd _
theorem pk_I (j : Nat) : I64 (pk j) := by
  have h := pub_lt (xk j)
  unfold pk I64
  omega
theorem psk_I : ∀ p ∈ PSK, I64 p := fun p hp => by
  unfold PSK at hp
  simp only [List.mem_cons, List.not_mem_nil, or_false] at hp
  rcases hp with rfl | rfl | rfl
  · exact pk_I 0
  · exact pk_I 1
  · exact pk_I 2
theorem psk_at {j : Nat} (hj : j < 3) : (PSK[j]?).getD 0 = pk j := by
  rcases j with _ | _ | _ | j
  · rfl
  · rfl
  · rfl
  · omega
theorem field_pub (a b : Int) (w : World) : (Instr.field 73 (.agg #[.int .i64 a, .int .i64 b]) 1).run Tryz.prog w = .ok (.int .i64 b) w := by kernel_rfl
/-- a claim, signed by an office's key -/
def sgC (j : Nat) (c : CV) : CV := ⟨c.office, c.hour, c.inn, c.out, c.store, c.prev, (signR (xk j : Nat) (pk j) ctxC (coreC c)).1, (signR (xk j : Nat) (pk j) ctxC (coreC c)).2⟩
theorem sgC_core (j : Nat) (c : CV) : coreC (sgC j c) = coreC c := rfl
theorem sgC_vouched (j : Nat) (c : CV) : VouchedC (pk j) (sgC j c) := by
  have hb := xk_bd j
  have h := ver_same hb.1 hb.2 ctxC (coreC c)
  have hr : RightK (xk j : Nat) (pk j) := ⟨by omega, by omega, by rw [Int.toNat_natCast]; rfl⟩
  unfold VouchedC
  rw [sgC_core]
  unfold sgC signR
  simp only
  rw [if_pos hr, Int.toNat_natCast]
  exact h
theorem sgC_I (j : Nat) (c : CV) : I64 (sgC j c).e ∧ I64 (sgC j c).s := by
  have h := sgC_vouched j c
  unfold VouchedC VerOk at h
  obtain ⟨-, -, ⟨h1, h2⟩, ⟨h3, h4⟩, -⟩ := h
  exact ⟨⟨by omega, by omega⟩, ⟨by omega, by omega⟩⟩
set_option maxRecDepth 100000 in
set_option maxHeartbeats 4000000 in
theorem lkey0 (w : World) : Calls Tryz.prog 30 #[.int .i64 0] w fun e w' => e = .returned (.agg #[.int .i64 ((xk 0 : Nat) : Int), .int .i64 (pk 0)]) ∧ Below w.heap.size w w' := by
  have hk : ∀ w, Calls Tryz.prog 61 #[.string ⟨#[97, 48]⟩] w fun e w' => e = .returned (.agg #[.int .i64 ((xk 0 : Nat) : Int), .int .i64 (pk 0)]) ∧ Below w.heap.size w w' := fun w => rkey_any ⟨#[97, 48]⟩ w (by decide)
  have HKy := Lib.hid hk
  clear hk
  obtain ⟨x, hx⟩ : ∃ x : Int, x = ((xk 0 : Nat) : Int) := ⟨_, rfl⟩
  obtain ⟨p, hp⟩ : ∃ p : Int, p = pk 0 := ⟨_, rfl⟩
  rw [← hx, ← hp] at HKy ⊢
  clear hx hp
  have HR := Lib.hid ((RowsS.nil w).alloc (.cells #[.int .i64 0, .int .i64 0] 73))
  go_enter Tryz.func30, Tryz.ntmps30
  go_upto_region 1 with fail
  generalize w.alloc (.cells #[.int .i64 0, .int .i64 0] 73) = w0 at *
  have ha : Below w0.heap.size w0 (w0.alloc (.cells #[.int .u8 48] 5)) := (Below.refl _ _).alloc (Nat.le_refl _) _
  have HO : Hid ((w0.alloc (.cells #[.int .u8 48] 5)).ownsRow 0 5 1 (.slice (some ⟨w0.heap.size, 0, none⟩) 1 1) 1 (bytesV [48])) := Lib.hid ⟨rfl, Or.inr ⟨w0.heap.size, 1, #[.int .u8 48], rfl, Nat.zero_le _, heap_alloc_new _ _, Nat.le_refl _, by decide, rfl, rfl⟩⟩
  have HR1 := Lib.hid (HR.out.step ha)
  clear ha HR
  go_wp2_with (refine wpList_string_own rfl 113 9 5 _ rfl undBs undB undS _ rfl 0 1 [48] HO.out ?_)
  refine (HKy.out _).mono ?_
  rintro e w2 ⟨rfl, hb2⟩
  have HR2 := Lib.hid (HR1.out.step hb2)
  clear hb2 HR1 HO
  go_wp2_with (refine wpList_store_row rfl 73 _ _ rfl w.heap.size #[.int .i64 x, .int .i64 p] rfl rfl 73 #[.int .i64 0, .int .i64 0] (HR2.out.row 0 rfl) infoKey rfl (by simp [Value.oneCell']) ?_)
  have HRZ := Lib.hid (HR2.out.set (i := 0) (cs' := #[.int .i64 x, .int .i64 p]) rfl)
  exact bodyPost_ret (v := .agg #[.int .i64 x, .int .i64 p]) (results_cell_row rfl _ _ _ 73 _ (0, 0) _ rfl (HRZ.out.row 0 rfl) undKey rfl infoKey) rfl ⟨rfl, HRZ.out.below⟩
set_option maxRecDepth 100000 in
set_option maxHeartbeats 4000000 in
theorem lkey1 (w : World) : Calls Tryz.prog 30 #[.int .i64 1] w fun e w' => e = .returned (.agg #[.int .i64 ((xk 1 : Nat) : Int), .int .i64 (pk 1)]) ∧ Below w.heap.size w w' := by
  have hk : ∀ w, Calls Tryz.prog 61 #[.string ⟨#[97, 49]⟩] w fun e w' => e = .returned (.agg #[.int .i64 ((xk 1 : Nat) : Int), .int .i64 (pk 1)]) ∧ Below w.heap.size w w' := fun w => rkey_any ⟨#[97, 49]⟩ w (by decide)
  have HKy := Lib.hid hk
  clear hk
  obtain ⟨x, hx⟩ : ∃ x : Int, x = ((xk 1 : Nat) : Int) := ⟨_, rfl⟩
  obtain ⟨p, hp⟩ : ∃ p : Int, p = pk 1 := ⟨_, rfl⟩
  rw [← hx, ← hp] at HKy ⊢
  clear hx hp
  have HR := Lib.hid ((RowsS.nil w).alloc (.cells #[.int .i64 0, .int .i64 0] 73))
  go_enter Tryz.func30, Tryz.ntmps30
  go_upto_region 1 with fail
  generalize w.alloc (.cells #[.int .i64 0, .int .i64 0] 73) = w0 at *
  have ha : Below w0.heap.size w0 (w0.alloc (.cells #[.int .u8 49] 5)) := (Below.refl _ _).alloc (Nat.le_refl _) _
  have HO : Hid ((w0.alloc (.cells #[.int .u8 49] 5)).ownsRow 0 5 1 (.slice (some ⟨w0.heap.size, 0, none⟩) 1 1) 1 (bytesV [49])) := Lib.hid ⟨rfl, Or.inr ⟨w0.heap.size, 1, #[.int .u8 49], rfl, Nat.zero_le _, heap_alloc_new _ _, Nat.le_refl _, by decide, rfl, rfl⟩⟩
  have HR1 := Lib.hid (HR.out.step ha)
  clear ha HR
  go_wp2_with (refine wpList_string_own rfl 113 9 5 _ rfl undBs undB undS _ rfl 0 1 [49] HO.out ?_)
  refine (HKy.out _).mono ?_
  rintro e w2 ⟨rfl, hb2⟩
  have HR2 := Lib.hid (HR1.out.step hb2)
  clear hb2 HR1 HO
  go_wp2_with (refine wpList_store_row rfl 73 _ _ rfl w.heap.size #[.int .i64 x, .int .i64 p] rfl rfl 73 #[.int .i64 0, .int .i64 0] (HR2.out.row 0 rfl) infoKey rfl (by simp [Value.oneCell']) ?_)
  have HRZ := Lib.hid (HR2.out.set (i := 0) (cs' := #[.int .i64 x, .int .i64 p]) rfl)
  exact bodyPost_ret (v := .agg #[.int .i64 x, .int .i64 p]) (results_cell_row rfl _ _ _ 73 _ (0, 0) _ rfl (HRZ.out.row 0 rfl) undKey rfl infoKey) rfl ⟨rfl, HRZ.out.below⟩
set_option maxRecDepth 100000 in
set_option maxHeartbeats 4000000 in
theorem lkey2 (w : World) : Calls Tryz.prog 30 #[.int .i64 2] w fun e w' => e = .returned (.agg #[.int .i64 ((xk 2 : Nat) : Int), .int .i64 (pk 2)]) ∧ Below w.heap.size w w' := by
  have hk : ∀ w, Calls Tryz.prog 61 #[.string ⟨#[97, 50]⟩] w fun e w' => e = .returned (.agg #[.int .i64 ((xk 2 : Nat) : Int), .int .i64 (pk 2)]) ∧ Below w.heap.size w w' := fun w => rkey_any ⟨#[97, 50]⟩ w (by decide)
  have HKy := Lib.hid hk
  clear hk
  obtain ⟨x, hx⟩ : ∃ x : Int, x = ((xk 2 : Nat) : Int) := ⟨_, rfl⟩
  obtain ⟨p, hp⟩ : ∃ p : Int, p = pk 2 := ⟨_, rfl⟩
  rw [← hx, ← hp] at HKy ⊢
  clear hx hp
  have HR := Lib.hid ((RowsS.nil w).alloc (.cells #[.int .i64 0, .int .i64 0] 73))
  go_enter Tryz.func30, Tryz.ntmps30
  go_upto_region 1 with fail
  generalize w.alloc (.cells #[.int .i64 0, .int .i64 0] 73) = w0 at *
  have ha : Below w0.heap.size w0 (w0.alloc (.cells #[.int .u8 50] 5)) := (Below.refl _ _).alloc (Nat.le_refl _) _
  have HO : Hid ((w0.alloc (.cells #[.int .u8 50] 5)).ownsRow 0 5 1 (.slice (some ⟨w0.heap.size, 0, none⟩) 1 1) 1 (bytesV [50])) := Lib.hid ⟨rfl, Or.inr ⟨w0.heap.size, 1, #[.int .u8 50], rfl, Nat.zero_le _, heap_alloc_new _ _, Nat.le_refl _, by decide, rfl, rfl⟩⟩
  have HR1 := Lib.hid (HR.out.step ha)
  clear ha HR
  go_wp2_with (refine wpList_string_own rfl 113 9 5 _ rfl undBs undB undS _ rfl 0 1 [50] HO.out ?_)
  refine (HKy.out _).mono ?_
  rintro e w2 ⟨rfl, hb2⟩
  have HR2 := Lib.hid (HR1.out.step hb2)
  clear hb2 HR1 HO
  go_wp2_with (refine wpList_store_row rfl 73 _ _ rfl w.heap.size #[.int .i64 x, .int .i64 p] rfl rfl 73 #[.int .i64 0, .int .i64 0] (HR2.out.row 0 rfl) infoKey rfl (by simp [Value.oneCell']) ?_)
  have HRZ := Lib.hid (HR2.out.set (i := 0) (cs' := #[.int .i64 x, .int .i64 p]) rfl)
  exact bodyPost_ret (v := .agg #[.int .i64 x, .int .i64 p]) (results_cell_row rfl _ _ _ 73 _ (0, 0) _ rfl (HRZ.out.row 0 rfl) undKey rfl infoKey) rfl ⟨rfl, HRZ.out.below⟩
theorem lkey_any (j : Nat) (hj : j < 3) (w : World) : Calls Tryz.prog 30 #[.int .i64 (j : Int)] w fun e w' => e = .returned (.agg #[.int .i64 ((xk j : Nat) : Int), .int .i64 (pk j)]) ∧ Below w.heap.size w w' := by
  rcases j with _ | _ | _ | j
  · exact lkey0 w
  · exact lkey1 w
  · exact lkey2 w
  · omega
set_option maxRecDepth 100000 in
set_option maxHeartbeats 4000000 in
theorem publics_any (w : World) : Calls Tryz.prog 10 #[] w fun e w' => ∃ b, e = .returned (.slice (some ⟨b, 0, none⟩) 3 3) ∧ w'.heap[b]? = some (.cells #[.int .i64 (pk 0), .int .i64 (pk 1), .int .i64 (pk 2)] 3 (0, 0)) ∧ w.heap.size ≤ b ∧ Below w.heap.size w w' := by
  have hf := field_pub
  have HK0 := Lib.hid lkey0
  have HK1 := Lib.hid lkey1
  have HK2 := Lib.hid lkey2
  obtain ⟨x0, hx0⟩ : ∃ x : Int, x = ((xk 0 : Nat) : Int) := ⟨_, rfl⟩
  obtain ⟨x1, hx1⟩ : ∃ x : Int, x = ((xk 1 : Nat) : Int) := ⟨_, rfl⟩
  obtain ⟨x2, hx2⟩ : ∃ x : Int, x = ((xk 2 : Nat) : Int) := ⟨_, rfl⟩
  obtain ⟨p0, hp0⟩ : ∃ p : Int, p = pk 0 := ⟨_, rfl⟩
  obtain ⟨p1, hp1⟩ : ∃ p : Int, p = pk 1 := ⟨_, rfl⟩
  obtain ⟨p2, hp2⟩ : ∃ p : Int, p = pk 2 := ⟨_, rfl⟩
  rw [← hx0, ← hp0] at HK0
  rw [← hx1, ← hp1] at HK1
  rw [← hx2, ← hp2] at HK2
  rw [← hp0, ← hp1, ← hp2]
  clear hx0 hx1 hx2 hp0 hp1 hp2
  go_enter Tryz.func10, Tryz.ntmps10
  go_wp2_with fail
  refine (HK0.out _).mono ?_
  rintro e w1 ⟨rfl, hb1⟩
  have HB1 := Lib.hid hb1
  clear hb1
  go_wp2_with fail
  refine (HK1.out _).mono ?_
  rintro e w2 ⟨rfl, hb2⟩
  have HB2 := Lib.hid (HB1.out.trans (hb2.mono HB1.out.size))
  clear hb2 HB1
  go_wp2_with fail
  refine (HK2.out _).mono ?_
  rintro e w3 ⟨rfl, hb3⟩
  have HB3 := Lib.hid (HB2.out.trans (hb3.mono HB2.out.size))
  clear hb3 HB2
  go_wp2_with fail
  go_ret
  exact ⟨_, rfl, heap_alloc_new _ _, HB3.out.size, HB3.out.alloc HB3.out.size _⟩
set_option maxRecDepth 100000 in
set_option maxHeartbeats 8000000 in
theorem signed_any (j : Nat) (c : CV) (w : World) (hj : j < 3) (hjo : c.office = (j : Int)) (hO : COk c) (hp : c.prev.size ≤ 900) (hg : Glob w) (hml : MLen w) : Calls Tryz.prog 21 #[.agg #[.int .i64 (j : Int), .int .i64 c.hour, .int .i64 c.inn, .int .i64 c.out, .int .i64 c.store, .string c.prev, .int .i64 c.e, .int .i64 c.s]] w fun e w' => e = .returned (aggC (sgC j c)) ∧ Below w.heap.size w w' := by
  have HK := Lib.hid (fun w => lkey_any j hj w)
  have hs : ∀ w0, Below w.heap.size w w0 → Calls Tryz.prog 49 #[.agg #[.int .i64 ((xk j : Nat) : Int), .int .i64 (pk j)], .agg #[.int .i64 (j : Int), .int .i64 c.hour, .int .i64 c.inn, .int .i64 c.out, .int .i64 c.store, .string c.prev, .int .i64 c.e, .int .i64 c.s]] w0 fun e w' => e = .returned (.agg #[.int .i64 (j : Int), .int .i64 c.hour, .int .i64 c.inn, .int .i64 c.out, .int .i64 c.store, .string c.prev, .int .i64 (sgC j c).e, .int .i64 (sgC j c).s]) ∧ Below w0.heap.size w0 w' := fun w0 hb => by
    have h := signC_any ((xk j : Nat) : Int) (pk j) c w0 hO hp (hg.below hb hg.size) (hml.up hb)
    rw [hjo] at h
    exact h
  have HSg := Lib.hid hs
  have he : aggC (sgC j c) = .agg #[.int .i64 (j : Int), .int .i64 c.hour, .int .i64 c.inn, .int .i64 c.out, .int .i64 c.store, .string c.prev, .int .i64 (sgC j c).e, .int .i64 (sgC j c).s] := by
    rw [← hjo]
    rfl
  rw [he]
  obtain ⟨x, hx⟩ : ∃ x : Int, x = ((xk j : Nat) : Int) := ⟨_, rfl⟩
  obtain ⟨p, hp⟩ : ∃ p : Int, p = pk j := ⟨_, rfl⟩
  obtain ⟨E, hE⟩ : ∃ E : Int, E = (sgC j c).e := ⟨_, rfl⟩
  obtain ⟨S, hS⟩ : ∃ S : Int, S = (sgC j c).s := ⟨_, rfl⟩
  rw [← hx, ← hp] at HK
  rw [← hx, ← hp, ← hE, ← hS] at HSg
  rw [← hE, ← hS]
  have t1 : ¬ (j : Int) < 0 := by omega
  have t2 : (j : Int) < 3 := by omega
  have t3 : ¬ (3 : Int) ≤ (j : Int) := by omega
  clear hs he hx hp hE hS
  have s1 : (w.alloc (.cells #[.int .i64 (j : Int), .int .i64 c.hour, .int .i64 c.inn, .int .i64 c.out, .int .i64 c.store, .string c.prev, .int .i64 c.e, .int .i64 c.s] 63)).heap.size = w.heap.size + 1 := by simp
  have HR : Hid (RowsS w [(w.heap.size, .cells #[.int .i64 (j : Int), .int .i64 c.hour, .int .i64 c.inn, .int .i64 c.out, .int .i64 c.store, .string c.prev, .int .i64 c.e, .int .i64 c.s] 63), ((w.heap.size + 1), .cells #[.int .i64 0, .int .i64 0, .int .i64 0, .int .i64 0, .int .i64 0, .string ⟨#[]⟩, .int .i64 0, .int .i64 0] 63)] ((w.alloc (.cells #[.int .i64 (j : Int), .int .i64 c.hour, .int .i64 c.inn, .int .i64 c.out, .int .i64 c.store, .string c.prev, .int .i64 c.e, .int .i64 c.s] 63)).alloc (.cells #[.int .i64 0, .int .i64 0, .int .i64 0, .int .i64 0, .int .i64 0, .string ⟨#[]⟩, .int .i64 0, .int .i64 0] 63))) := Lib.hid (by
    have := ((RowsS.nil w).alloc (.cells #[.int .i64 (j : Int), .int .i64 c.hour, .int .i64 c.inn, .int .i64 c.out, .int .i64 c.store, .string c.prev, .int .i64 c.e, .int .i64 c.s] 63)).alloc (.cells #[.int .i64 0, .int .i64 0, .int .i64 0, .int .i64 0, .int .i64 0, .string ⟨#[]⟩, .int .i64 0, .int .i64 0] 63)
    rw [s1] at this
    exact this)
  clear s1
  go_enter Tryz.func21, Tryz.ntmps21
  go_upto_region 1 with fail
  generalize ((w.alloc (.cells #[.int .i64 (j : Int), .int .i64 c.hour, .int .i64 c.inn, .int .i64 c.out, .int .i64 c.store, .string c.prev, .int .i64 c.e, .int .i64 c.s] 63)).alloc (.cells #[.int .i64 0, .int .i64 0, .int .i64 0, .int .i64 0, .int .i64 0, .string ⟨#[]⟩, .int .i64 0, .int .i64 0] 63)) = w0 at *
  have c0 := HR.out.cell 0 0 rfl rfl
  go_upto_region 3 with fail
  clear c0
  have hRs := HR.out.take 1
  have hZZ := HR.out.row 1 rfl
  have hgZ : w.heap.size ≤ w.heap.size + 1 := Nat.le_succ _
  have hnZ : w.heap.size + 1 ∉ [w.heap.size] := by simp
  refine wp_region_noPanic ?_
  refine wp_region_held_drew (S := fun cw => RowsS w [(w.heap.size, .cells #[.int .i64 (j : Int), .int .i64 c.hour, .int .i64 c.inn, .int .i64 c.out, .int .i64 c.store, .string c.prev, .int .i64 c.e, .int .i64 c.s] 63)] cw) (by kernel_rfl) (hRs.drew) (fun hHeld => ?_)
  refine tn 0 ?_
  try simp only [Act.put, aL1, aL2, aL3]
  refine tn 1 ?_ (hx := fun wz hSw => by have e4 := hSw.cell 0 0 rfl rfl; go_simp; try with_reducible rfl)
  try simp only [Act.put, aL1, aL2, aL3]
  refine tn 3 ?_ (hx := fun wz hSw => by refine exec_load_row 63 ?_ ?_ _ ?_ 63 _ _ _ (hSw.row 0 rfl) undCm rfl infoCm; rotate_left 1; exact rfl; exact rfl)
  try simp only [Act.put, aL1, aL2, aL3]
  refine rd1 2 (fun K hK => ?_)
  go_simp
  refine (HK.out _).mono ?_
  rintro e w' ⟨rfl, hb⟩
  have hZZ := (hb.block (w.heap.size + 1) (blk_lt hZZ)).trans hZZ
  refine hK.out _ _ (hHeld.step hb) (fun hHeld => ?_)
  clear hK K
  try simp only [Act.put, aL1, aL2, aL3]
  refine rd1 4 (fun K hK => ?_)
  go_simp
  refine (HSg.out _ hHeld.below).mono ?_
  rintro e w' ⟨rfl, hb⟩
  have hZZ := (hb.block (w.heap.size + 1) (blk_lt hZZ)).trans hZZ
  refine hK.out _ _ (hHeld.step hb) (fun hHeld => ?_)
  clear hK K
  try simp only [Act.put, aL1, aL2, aL3]
  refine rd1 5 (fun K hK => ?_)
  rw [if_pos (by rfl)]
  refine wp_store_row 63 _ _ rfl (w.heap.size + 1) #[.int .i64 (j : Int), .int .i64 c.hour, .int .i64 c.inn, .int .i64 c.out, .int .i64 c.store, .string c.prev, .int .i64 E, .int .i64 S] rfl rfl 63 #[.int .i64 0, .int .i64 0, .int .i64 0, .int .i64 0, .int .i64 0, .string ⟨#[]⟩, .int .i64 0, .int .i64 0] hZZ infoCm rfl (by simp [Value.oneCell']) ?_
  have hZZ := setRow_heap _ _ _ #[.int .i64 (j : Int), .int .i64 c.hour, .int .i64 c.inn, .int .i64 c.out, .int .i64 c.store, .string c.prev, .int .i64 E, .int .i64 S] _ _ hZZ
  refine hK.out _ _ (hHeld.setOther hgZ hnZ _) (fun hHeld => ?_)
  clear hK K
  try simp only [Act.put]
  refine rdone (NoPanic.normal ?_)
  go_wp2_with fail
  exact bodyPost_ret (v := .agg #[.int .i64 (j : Int), .int .i64 c.hour, .int .i64 c.inn, .int .i64 c.out, .int .i64 c.store, .string c.prev, .int .i64 E, .int .i64 S]) (results_cell_row rfl _ _ _ 63 _ (0, 0) _ rfl hZZ undCm rfl infoCm) rfl ⟨rfl, hHeld.below⟩
end Go.Proofs.YtjbjpkhibcnenaaGreatDoor
