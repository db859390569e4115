/- Texts merged: BRight WOrd WOps WValLaw CLaw NPow -/
import Derived.Test.YtepidpegoihllaaGreatDoorBNames
import Derived.Test.YtepidpegoihllaaGreatDoorBHead
import Derived.Test.YtepidpegoihllaaGreatDoorBTowns
import Derived.Test.YtepidpegoihllaaGreatDoorBOffices
import Derived.Test.YtepidpegoihllaaGreatDoorBSlopes
import Derived.Test.YtepidpegoihllaaGreatDoorUExact
/- basin.Right. -/
namespace Go.Proofs.YtepidpegoihllaaGreatDoor
open Go.RowKit
/-- what is known of a right basin -/
def RightB (b : BasinV) : Prop := BasinLen b ∧ (∀ y ∈ b.places, PlaceR b y) ∧ (∀ y ∈ b.links, LinkR b y) ∧ (∀ y ∈ b.links, SlopeR y)
set_option maxRecDepth 100000 in
set_option maxHeartbeats 8000000 in
theorem basin_right (b : BasinV) (p0 p1 p2 p3 p4 p5 p6 p7 : Option Addr) (q0 q1 q2 q3 q4 q5 q6 q7 : Nat) (w : World) (hS : BasinS b p0 p1 p2 p3 p4 p5 p6 p7 q0 q1 q2 q3 q4 q5 q6 q7 w) (hnm : b.name.size ≤ maxLen) : Calls Tryz.prog 5 #[.agg #[.string b.name, .slice p0 b.owners.length q0, .int .i64 b.cells, .slice p1 b.places.length q1, .slice p2 b.links.length q2, .slice p3 b.towns.length q3, .slice p4 b.gauges.length q4, .slice p5 b.roads.length q5, .slice p6 b.shelters.length q6, .slice p7 b.room.length q7, .int .i64 b.err]] w (RetT (RightB b) w) := by
  have HS := Lib.hid hS
  have HNM := Lib.hid hnm
  clear hS hnm
  go_enter Tryz.func5, Tryz.ntmps5
  go_upto_region 1 with fail
  have HR0 := Lib.hid (heap_alloc_new w (.cells #[.string b.name, .slice p0 b.owners.length q0, .int .i64 b.cells, .slice p1 b.places.length q1, .slice p2 b.links.length q2, .slice p3 b.towns.length q3, .slice p4 b.gauges.length q4, .slice p5 b.roads.length q5, .slice p6 b.shelters.length q6, .slice p7 b.room.length q7, .int .i64 b.err] 31))
  have HB0 := Lib.hid ((Below.refl w.heap.size w).alloc (Nat.le_refl _) (.cells #[.string b.name, .slice p0 b.owners.length q0, .int .i64 b.cells, .slice p1 b.places.length q1, .slice p2 b.links.length q2, .slice p3 b.towns.length q3, .slice p4 b.gauges.length q4, .slice p5 b.roads.length q5, .slice p6 b.shelters.length q6, .slice p7 b.room.length q7, .int .i64 b.err] 31))
  generalize w.alloc (.cells #[.string b.name, .slice p0 b.owners.length q0, .int .i64 b.cells, .slice p1 b.places.length q1, .slice p2 b.links.length q2, .slice p3 b.towns.length q3, .slice p4 b.gauges.length q4, .slice p5 b.roads.length q5, .slice p6 b.shelters.length q6, .slice p7 b.room.length q7, .int .i64 b.err] 31) = w0 at *
  go_wp2_with (refine wpList_load_rowWG (by first | (go_simp; done) | rfl) 31 _ rfl _ rfl 31 _ _ _ HR0.out undBa rfl infoBa ?_)
  refine (head_right b _ _ _ _ _ _ _ _ _ _ _ _ _ _ _ _ _ (HS.out.below HB0.out) HNM.out).mono ?_
  rintro e w1 ⟨b0, hq, rfl, hb⟩
  have HR1 := Lib.hid (blk_below HR0.out hb (blk_lt HR0.out))
  have HB1 := Lib.hid (HB0.out.trans (hb.mono HB0.out.size))
  have HQ0 := Lib.hid hq
  clear hq hb HR0 HB0
  cases b0
  · go_wp2_with fail
    go_ret
    exact retT_no HB1.out
  · have HH := Lib.hid (HQ0.out (by trivial))
    have HLN := Lib.hid HH.out.1
    have HCL : Hid (0 ≤ b.cells ∧ b.cells ≤ 9223372036854775807) := Lib.hid ⟨HH.out.2.1, by have := HH.out.2.2.1; omega⟩
    go_wp2_with (refine wpList_load_rowWG (by first | (go_simp; done) | rfl) 31 _ rfl _ rfl 31 _ _ _ HR1.out undBa rfl infoBa ?_)
    refine (names_any b _ _ _ _ _ _ _ _ _ _ _ _ _ _ _ _ _ (HS.out.below HB1.out) HLN.out).mono ?_
    rintro e w2 ⟨b1, hq, rfl, hb⟩
    have HR2 := Lib.hid (blk_below HR1.out hb (blk_lt HR1.out))
    have HB2 := Lib.hid (HB1.out.trans (hb.mono HB1.out.size))
    have HQ1 := Lib.hid hq
    clear hq hb HR1 HB1
    cases b1
    · go_wp2_with fail
      go_ret
      exact retT_no HB2.out
    · go_wp2_with (refine wpList_load_rowWG (by first | (go_simp; done) | rfl) 31 _ rfl _ rfl 31 _ _ _ HR2.out undBa rfl infoBa ?_)
      refine (places_right b _ _ _ _ _ _ _ _ _ _ _ _ _ _ _ _ _ (HS.out.below HB2.out) HLN.out).mono ?_
      rintro e w3 ⟨b2, hq, rfl, hb⟩
      have HR3 := Lib.hid (blk_below HR2.out hb (blk_lt HR2.out))
      have HB3 := Lib.hid (HB2.out.trans (hb.mono HB2.out.size))
      have HQ2 := Lib.hid hq
      clear hq hb HR2 HB2
      cases b2
      · go_wp2_with fail
        go_ret
        exact retT_no HB3.out
      · have HPL := Lib.hid (HQ2.out (by trivial))
        go_wp2_with (refine wpList_load_rowWG (by first | (go_simp; done) | rfl) 31 _ rfl _ rfl 31 _ _ _ HR3.out undBa rfl infoBa ?_)
        refine (links_right b _ _ _ _ _ _ _ _ _ _ _ _ _ _ _ _ _ (HS.out.below HB3.out) HLN.out).mono ?_
        rintro e w4 ⟨b3, hq, rfl, hb⟩
        have HR4 := Lib.hid (blk_below HR3.out hb (blk_lt HR3.out))
        have HB4 := Lib.hid (HB3.out.trans (hb.mono HB3.out.size))
        have HQ3 := Lib.hid hq
        clear hq hb HR3 HB3
        cases b3
        · go_wp2_with fail
          go_ret
          exact retT_no HB4.out
        · have HLK := Lib.hid (HQ3.out (by trivial))
          go_wp2_with (refine wpList_load_rowWG (by first | (go_simp; done) | rfl) 31 _ rfl _ rfl 31 _ _ _ HR4.out undBa rfl infoBa ?_)
          refine (offices_any b _ _ _ _ _ _ _ _ _ _ _ _ _ _ _ _ _ (HS.out.below HB4.out) HLN.out HPL.out HLK.out).mono ?_
          rintro e w5 ⟨b4, hq, rfl, hb⟩
          have HR5 := Lib.hid (blk_below HR4.out hb (blk_lt HR4.out))
          have HB5 := Lib.hid (HB4.out.trans (hb.mono HB4.out.size))
          have HQ4 := Lib.hid hq
          clear hq hb HR4 HB4
          cases b4
          · go_wp2_with fail
            go_ret
            exact retT_no HB5.out
          · go_wp2_with (refine wpList_load_rowWG (by first | (go_simp; done) | rfl) 31 _ rfl _ rfl 31 _ _ _ HR5.out undBa rfl infoBa ?_)
            refine (slopes_right b _ _ _ _ _ _ _ _ _ _ _ _ _ _ _ _ _ (HS.out.below HB5.out) HLN.out HPL.out HLK.out).mono ?_
            rintro e w6 ⟨b5, hq, rfl, hb⟩
            have HR6 := Lib.hid (blk_below HR5.out hb (blk_lt HR5.out))
            have HB6 := Lib.hid (HB5.out.trans (hb.mono HB5.out.size))
            have HQ5 := Lib.hid hq
            clear hq hb HR5 HB5
            cases b5
            · go_wp2_with fail
              go_ret
              exact retT_no HB6.out
            · have HSL := Lib.hid (HQ5.out (by trivial))
              go_wp2_with (refine wpList_load_rowWG (by first | (go_simp; done) | rfl) 31 _ rfl _ rfl 31 _ _ _ HR6.out undBa rfl infoBa ?_)
              refine (towns_any b _ _ _ _ _ _ _ _ _ _ _ _ _ _ _ _ _ (HS.out.below HB6.out) HLN.out).mono ?_
              rintro e w7 ⟨b6, hq, rfl, hb⟩
              have HR7 := Lib.hid (blk_below HR6.out hb (blk_lt HR6.out))
              have HB7 := Lib.hid (HB6.out.trans (hb.mono HB6.out.size))
              have HQ6 := Lib.hid hq
              clear hq hb HR6 HB6
              cases b6
              · go_wp2_with fail
                go_ret
                exact retT_no HB7.out
              · go_wp2_with (refine wpList_load_rowWG (by first | (go_simp; done) | rfl) 31 _ rfl _ rfl 31 _ _ _ HR7.out undBa rfl infoBa ?_)
                refine (gauges_any b _ _ _ _ _ _ _ _ _ _ _ _ _ _ _ _ _ (HS.out.below HB7.out) HLN.out HCL.out).mono ?_
                rintro e w8 ⟨b7, hq, rfl, hb⟩
                have HR8 := Lib.hid (blk_below HR7.out hb (blk_lt HR7.out))
                have HB8 := Lib.hid (HB7.out.trans (hb.mono HB7.out.size))
                have HQ7 := Lib.hid hq
                clear hq hb HR7 HB7
                cases b7
                · go_wp2_with fail
                  go_ret
                  exact retT_no HB8.out
                · go_wp2_with (refine wpList_load_rowWG (by first | (go_simp; done) | rfl) 31 _ rfl _ rfl 31 _ _ _ HR8.out undBa rfl infoBa ?_)
                  refine (roads_any b _ _ _ _ _ _ _ _ _ _ _ _ _ _ _ _ _ (HS.out.below HB8.out) HLN.out).mono ?_
                  rintro e w9 ⟨b8, hq, rfl, hb⟩
                  have HR9 := Lib.hid (blk_below HR8.out hb (blk_lt HR8.out))
                  have HB9 := Lib.hid (HB8.out.trans (hb.mono HB8.out.size))
                  have HQ8 := Lib.hid hq
                  clear hq hb HR8 HB8
                  cases b8
                  · go_wp2_with fail
                    go_ret
                    exact retT_no HB9.out
                  · go_wp2_with fail
                    go_ret
                    exact retT_yes ⟨HLN.out, HPL.out, HLK.out, HSL.out⟩ HB9.out
end Go.Proofs.YtepidpegoihllaaGreatDoor
/- Package wire: the order of encodings, and what a reader's calls return, as plain functions. No program in this text. -/
namespace Go.Proofs.YtepidpegoihllaaGreatDoor
/-- x and y part at some place: x has the lower byte there -/
def Apart (x y : List UInt8) : Prop := ∃ p u v x' y', x = p ++ u :: x' ∧ y = p ++ v :: y' ∧ u.toNat < v.toNat
theorem Apart.front {x y : List UInt8} (h : Apart x y) (p : List UInt8) : Apart (p ++ x) (p ++ y) := by
  obtain ⟨q, u, v, x', y', rfl, rfl, hlt⟩ := h
  exact ⟨p ++ q, u, v, x', y', by simp, by simp, hlt⟩
theorem Apart.cons {u v : UInt8} (h : u.toNat < v.toNat) (x y : List UInt8) : Apart (u :: x) (v :: y) := ⟨[], u, v, x, y, rfl, rfl, h⟩
theorem Apart.lt {x y : List UInt8} (h : Apart x y) : x < y := by
  obtain ⟨p, u, v, x', y', rfl, rfl, hlt⟩ := h
  induction p with
  | nil => exact List.Lex.rel (by rw [UInt8.lt_iff_toNat_lt]; exact hlt)
  | cons c p ih => exact List.Lex.cons ih
/-- two lists of bytes are equal, or one is the other's beginning, or they part -/
theorem parts (x y : List UInt8) : x = y ∨ (∃ c z, y = x ++ c :: z) ∨ (∃ c z, x = y ++ c :: z) ∨ Apart x y ∨ Apart y x := by
  induction x generalizing y with
  | nil =>
    cases y with
    | nil => exact Or.inl rfl
    | cons c y => exact Or.inr (Or.inl ⟨c, y, rfl⟩)
  | cons a x ih =>
    cases y with
    | nil => exact Or.inr (Or.inr (Or.inl ⟨a, x, rfl⟩))
    | cons b y =>
      rcases Nat.lt_trichotomy a.toNat b.toNat with h | h | h
      · exact Or.inr (Or.inr (Or.inr (Or.inl (Apart.cons h _ _))))
      · have : a = b := UInt8.toNat_inj.1 h
        subst this
        rcases ih y with rfl | ⟨c, z, rfl⟩ | ⟨c, z, rfl⟩ | h | h
        · exact Or.inl rfl
        · exact Or.inr (Or.inl ⟨c, z, rfl⟩)
        · exact Or.inr (Or.inr (Or.inl ⟨c, z, rfl⟩))
        · exact Or.inr (Or.inr (Or.inr (Or.inl (h.front [a]))))
        · exact Or.inr (Or.inr (Or.inr (Or.inr (h.front [a]))))
      · exact Or.inr (Or.inr (Or.inr (Or.inr (Apart.cons h _ _))))
/-- what a reader holds: none once it has failed -/
abbrev RSt := Option (List UInt8)
def opInt (s : RSt) : Int × RSt :=
  match s with
  | none => (0, none)
  | some r => match rdInt r with | none => (0, none) | some (n, r') => (n, some r')
def opText (s : RSt) : List UInt8 × RSt :=
  match s with
  | none => ([], none)
  | some r => match rdText r with | none => ([], none) | some (n, r') => (n, some r')
def doneOf (s : RSt) : Bool := s == some []
end Go.Proofs.YtepidpegoihllaaGreatDoor
/- Package wire: what a reader's calls have read, and known answers. No program in this text. -/
namespace Go.Proofs.YtepidpegoihllaaGreatDoor
/-- E has been read of cur, st is left; or the call has failed, and cur is not E -/
def OpOk (cur E : List UInt8) (st : RSt) : Prop := (∃ r, st = some r ∧ cur = E ++ r) ∨ (st = none ∧ cur ≠ E ∧ E.length ≤ 2)
theorem OpOk.len {cur E : List UInt8} {st : RSt} (h : OpOk cur E st) : E.length ≤ cur.length + 2 := by
  rcases h with ⟨r, _, h⟩ | ⟨_, _, h⟩
  · rw [h, List.length_append]; omega
  · omega
end Go.Proofs.YtepidpegoihllaaGreatDoor
/- bournelaw02: values, their encodings, and their order. No program in this text. -/
namespace Go.Proofs.YtepidpegoihllaaGreatDoor
structure VV where
  kind : Int
  n : Int
  s : ByteArray
  l : List Int
  t : List ByteArray
def k4 (x : VV) : Int := x.kind % 4
def textC (s : ByteArray) : List UInt8 := textL s.data.toList
theorem opInt_enc {n : Int} (h : I64 n) (r : List UInt8) : opInt (some (intL n ++ r)) = (n, some r) := by
  unfold opInt
  simp only [rdInt_intL h]
theorem opText_enc (s r : List UInt8) : opText (some (textL s ++ r)) = (s, some r) := by
  unfold opText
  simp only [rdText_textL]
/-- what a comparison says of the encodings -/
def Says (c : Int) (x y : List UInt8) : Prop := (c = -1 ∧ Apart x y) ∨ (c = 1 ∧ Apart y x) ∨ (c = 0 ∧ x = y)
theorem Says.cons {c : Int} {x y : List UInt8} (p : List UInt8) (h : Says c x y) : Says c (p ++ x) (p ++ y) := by
  rcases h with ⟨h1, h2⟩ | ⟨h1, h2⟩ | ⟨h1, h2⟩
  · exact Or.inl ⟨h1, h2.front p⟩
  · exact Or.inr (Or.inl ⟨h1, h2.front p⟩)
  · exact Or.inr (Or.inr ⟨h1, by rw [h2]⟩)
end Go.Proofs.YtepidpegoihllaaGreatDoor
/- Package claim: claims and promises as plain values. No program in this text. -/
namespace Go.Proofs.YtepidpegoihllaaGreatDoor
/-- a claim -/
structure CV where
  office : Int
  hour : Int
  inn : Int
  out : Int
  store : Int
  prev : ByteArray
  e : Int
  s : Int
/-- a promise -/
structure PV where
  office : Int
  since : Int
  till : Int
  litres : Int
  e : Int
  s : Int
def zeroC : CV := ⟨0, 0, 0, 0, 0, ⟨#[]⟩, 0, 0⟩
def zeroP : PV := ⟨0, 0, 0, 0, 0, 0⟩
def COk (c : CV) : Prop := I64 c.office ∧ I64 c.hour ∧ I64 c.inn ∧ I64 c.out ∧ I64 c.store ∧ I64 c.e ∧ I64 c.s
def POk (p : PV) : Prop := I64 p.office ∧ I64 p.since ∧ I64 p.till ∧ I64 p.litres ∧ I64 p.e ∧ I64 p.s
def coreC (c : CV) : List UInt8 := intL c.office ++ (intL c.hour ++ (intL c.inn ++ (intL c.out ++ (intL c.store ++ (textC c.prev)))))
def bytesC (c : CV) : List UInt8 := coreC c ++ (intL c.e ++ intL c.s)
def callsC (s : RSt) : CV × RSt :=
  let x0 := opInt s
  let x1 := opInt x0.2
  let x2 := opInt x1.2
  let x3 := opInt x2.2
  let x4 := opInt x3.2
  let x5 := opText x4.2
  let x6 := opInt x5.2
  let x7 := opInt x6.2
  (⟨x0.1, x1.1, x2.1, x3.1, x4.1, ⟨x5.1.toArray⟩, x6.1, x7.1⟩, x7.2)
def readC (s : List UInt8) : CV × Bool := if doneOf (callsC (some s)).2 = true then ((callsC (some s)).1, true) else (zeroC, false)
theorem callsC_enc {c : CV} (h : COk c) (r : List UInt8) : callsC (some (bytesC c ++ r)) = (c, some r) := by
  obtain ⟨h_office, h_hour, h_inn, h_out, h_store, h_e, h_s⟩ := h
  have e1 : bytesC c ++ r = intL c.office ++ (intL c.hour ++ (intL c.inn ++ (intL c.out ++ (intL c.store ++ (textC c.prev ++ (intL c.e ++ (intL c.s ++ (r)))))))) := by simp [bytesC, coreC]
  unfold callsC
  rw [e1]
  rw [opInt_enc h_office]
  simp only
  rw [opInt_enc h_hour]
  simp only
  rw [opInt_enc h_inn]
  simp only
  rw [opInt_enc h_out]
  simp only
  rw [opInt_enc h_store]
  simp only
  unfold textC
  rw [opText_enc]
  simp only
  rw [opInt_enc h_e]
  simp only
  rw [opInt_enc h_s]
theorem readC_enc {c : CV} (h : COk c) : readC (bytesC c) = (c, true) := by
  unfold readC
  have e := callsC_enc h []
  rw [List.append_nil] at e
  rw [e]
  exact if_pos rfl
theorem readC_not {s : List UInt8} (h : (readC s).2 = false) : readC s = (zeroC, false) := by
  unfold readC at h ⊢
  split
  · next hc => rw [if_pos hc] at h; cases h
  · rfl
theorem coreC_len {c : CV} (h : COk c) (hp : c.prev.size ≤ 1000) : (coreC c).length ≤ 2047 := by
  obtain ⟨h_office, h_hour, h_inn, h_out, h_store, h_e, h_s⟩ := h
  have l_office := intL_len h_office
  have l_hour := intL_len h_hour
  have l_inn := intL_len h_inn
  have l_out := intL_len h_out
  have l_store := intL_len h_store
  have l2 := textL_len c.prev.data.toList
  have l3 : c.prev.data.toList.length = c.prev.size := by simp
  simp [coreC, textC]
  omega
def coreP (c : PV) : List UInt8 := intL c.office ++ (intL c.since ++ (intL c.till ++ (intL c.litres)))
def bytesP (c : PV) : List UInt8 := coreP c ++ (intL c.e ++ intL c.s)
def callsP (s : RSt) : PV × RSt :=
  let x0 := opInt s
  let x1 := opInt x0.2
  let x2 := opInt x1.2
  let x3 := opInt x2.2
  let x4 := opInt x3.2
  let x5 := opInt x4.2
  (⟨x0.1, x1.1, x2.1, x3.1, x4.1, x5.1⟩, x5.2)
def readP (s : List UInt8) : PV × Bool := if doneOf (callsP (some s)).2 = true then ((callsP (some s)).1, true) else (zeroP, false)
theorem callsP_enc {c : PV} (h : POk c) (r : List UInt8) : callsP (some (bytesP c ++ r)) = (c, some r) := by
  obtain ⟨h_office, h_since, h_till, h_litres, h_e, h_s⟩ := h
  have e1 : bytesP c ++ r = intL c.office ++ (intL c.since ++ (intL c.till ++ (intL c.litres ++ (intL c.e ++ (intL c.s ++ (r)))))) := by simp [bytesP, coreP]
  unfold callsP
  rw [e1]
  rw [opInt_enc h_office]
  simp only
  rw [opInt_enc h_since]
  simp only
  rw [opInt_enc h_till]
  simp only
  rw [opInt_enc h_litres]
  simp only
  rw [opInt_enc h_e]
  simp only
  rw [opInt_enc h_s]
theorem readP_enc {c : PV} (h : POk c) : readP (bytesP c) = (c, true) := by
  unfold readP
  have e := callsP_enc h []
  rw [List.append_nil] at e
  rw [e]
  exact if_pos rfl
theorem coreP_len {c : PV} (h : POk c) : (coreP c).length ≤ 36 := by
  obtain ⟨h_office, h_since, h_till, h_litres, h_e, h_s⟩ := h
  have l_office := intL_len h_office
  have l_since := intL_len h_since
  have l_till := intL_len h_till
  have l_litres := intL_len h_litres
  simp [coreP]
  omega
end Go.Proofs.YtepidpegoihllaaGreatDoor
/- Powers modulo a number: plain laws. -/

namespace Go.Proofs.YtepidpegoihllaaGreatDoor
/-- the same by squaring; fuel first -/
def powF (m : Nat) : Nat → Nat → Nat → Nat
  | 0, _, _ => 1 % m
  | f + 1, a, e => if e = 0 then 1 % m else
      let h := powF m f (a * a % m) (e / 2)
      if e % 2 = 1 then a * h % m else h
theorem powF_eq (m : Nat) : ∀ (f a e : Nat), e < 2 ^ f → powF m f a e = a ^ e % m
  | 0, a, e, h => by
    have : e = 0 := by simpa using h
    subst this
    rfl
  | f + 1, a, e, h => by
    simp only [powF]
    by_cases h0 : e = 0
    · rw [if_pos h0, h0, Nat.pow_zero]
    · rw [if_neg h0, powF_eq m f (a * a % m) (e / 2) (by rw [Nat.pow_succ] at h; omega)]
      have e1 : (a * a % m) ^ (e / 2) % m = a ^ (2 * (e / 2)) % m := by
        rw [← Nat.pow_mod, Nat.pow_mul, Nat.pow_two]
      rw [e1]
      by_cases h1 : e % 2 = 1
      · rw [if_pos h1]
        have e2 : a ^ e = a * a ^ (2 * (e / 2)) := by
          conv => lhs; rw [show e = 2 * (e / 2) + 1 by omega, Nat.pow_succ, Nat.mul_comm]
        rw [e2, Nat.mul_mod, Nat.mod_mod, ← Nat.mul_mod]
      · rw [if_neg h1]
        have e2 : 2 * (e / 2) = e := by omega
        rw [e2]
def gP : Nat := 2305843009213691579
def gQ : Nat := 1152921504606845789
theorem four_q : 4 ^ gQ % gP = 1 := by
  rw [← powF_eq gP 61 4 gQ (by decide +kernel)]
  decide +kernel
/-- a prime -/
def Prm (n : Nat) : Prop := 2 ≤ n ∧ ∀ d, d ∣ n → d = 1 ∨ d = n
theorem mod_mul {a b c m : Nat} (h : a % m = b % m) : a * c % m = b * c % m := by rw [Nat.mul_mod, h, ← Nat.mul_mod]
theorem mod_pow {a b m : Nat} (h : a % m = b % m) (k : Nat) : a ^ k % m = b ^ k % m := by rw [Nat.pow_mod, h, ← Nat.pow_mod]
theorem pow_one_mod {a m : Nat} (h : a % m = 1 % m) (k : Nat) : a ^ k % m = 1 % m := by rw [mod_pow h, Nat.one_pow]
theorem order_one {b q d : Nat} (hq : Prm q) (h : b ^ q % d = 1 % d) : ∀ t, 0 < t → t < q → b ^ t % d = 1 % d → b % d = 1 % d := by
  intro t
  induction t using Nat.strongRecOn with
  | ind t ih =>
    intro h0 hlt ht
    have hs : b ^ (q % t) % d = 1 % d := by
      have e : b ^ q = (b ^ t) ^ (q / t) * b ^ (q % t) := by
        rw [← Nat.pow_mul, ← Nat.pow_add, Nat.div_add_mod]
      rw [e, mod_mul (pow_one_mod ht _), Nat.one_mul] at h
      exact h
    by_cases hz : q % t = 0
    · rcases hq.2 t (Nat.dvd_of_mod_eq_zero hz) with h1 | h1
      · rw [h1, Nat.pow_one] at ht
        exact ht
      · omega
    · exact ih (q % t) (Nat.mod_lt _ h0) (Nat.pos_of_ne_zero hz) (Nat.lt_trans (Nat.mod_lt _ h0) hlt) hs
theorem pigeon : ∀ (m n : Nat) (f : Nat → Nat), (∀ i, i < n → f i < m) → (∀ i j, i < n → j < n → f i = f j → i = j) → n ≤ m
  | 0, n, f, h1, _ => by
    rcases Nat.eq_zero_or_pos n with h | h
    · omega
    · exact absurd (h1 0 h) (Nat.not_lt_zero _)
  | m + 1, n, f, h1, h2 => by
    by_cases hex : ∃ i, i < n ∧ f i = m
    · obtain ⟨i, hi, hfi⟩ := hex
      have := pigeon m (n - 1) (fun j => if j < i then f j else f (j + 1)) (fun j hj => by
        split
        · have a := h1 j (by omega)
          have : f j ≠ m := fun e => by have := h2 j i (by omega) hi (e.trans hfi.symm); omega
          omega
        · have a := h1 (j + 1) (by omega)
          have : f (j + 1) ≠ m := fun e => by have := h2 (j + 1) i (by omega) hi (e.trans hfi.symm); omega
          omega) (fun j k hj hk he => by
        split at he <;> split at he
        · exact h2 _ _ (by omega) (by omega) he
        · have := h2 _ _ (by omega) (by omega) he; omega
        · have := h2 _ _ (by omega) (by omega) he; omega
        · have := h2 _ _ (by omega) (by omega) he; omega)
      omega
    · have := pigeon m n f (fun i hi => by
        have a := h1 i hi
        have : f i ≠ m := fun e => hex ⟨i, hi, e⟩
        omega) h2
      omega
/-- a divisor of n is at least the order of a number whose powers are 1 -/
theorem div_big {n q b d : Nat} (hq : Prm q) (hb1 : 1 ≤ b) (hb : b ^ q % n = 1 % n) (hg : Nat.gcd (b - 1) n = 1) (hd : d ∣ n) (hd1 : d ≠ 1) (hn : 0 < n) : q ≤ d := by
  have hd0 : 0 < d := Nat.pos_of_dvd_of_pos hd hn
  have hbd : b ^ q % d = 1 % d := by
    rw [← Nat.mod_mod_of_dvd (b ^ q) hd, hb, Nat.mod_mod_of_dvd 1 hd]
  have hne : b % d ≠ 1 % d := by
    intro e
    have h1 : d ∣ b - 1 := by
      refine Nat.dvd_of_mod_eq_zero ?_
      obtain ⟨c, rfl⟩ : ∃ c, b = c + 1 := ⟨b - 1, by omega⟩
      rw [Nat.add_sub_cancel]
      have h1 : (c + 1) % d = (0 + 1) % d := by simpa using e
      have h2 : (c + 1 + (d - 1)) % d = (0 + 1 + (d - 1)) % d := by rw [Nat.add_mod, h1, ← Nat.add_mod]
      rw [show c + 1 + (d - 1) = c + d by omega, show 0 + 1 + (d - 1) = d by omega, Nat.add_mod_right, Nat.mod_self] at h2
      exact h2
    have := Nat.dvd_gcd h1 hd
    rw [hg] at this
    exact hd1 (Nat.dvd_one.1 this)
  refine pigeon d q (fun i => b ^ i % d) (fun i _ => Nat.mod_lt _ hd0) ?_
  have key : ∀ i j, i < j → j < q → b ^ i % d = b ^ j % d → False := fun i j hij hj he => by
    have e1 : b ^ i * b ^ (q - i) = b ^ q := by rw [← Nat.pow_add]; congr 1; omega
    have e2 : b ^ j * b ^ (q - i) = b ^ q * b ^ (j - i) := by rw [← Nat.pow_add, ← Nat.pow_add]; congr 1; omega
    have h1 := mod_mul (c := b ^ (q - i)) he
    rw [e1, e2, mod_mul hbd, Nat.one_mul, hbd] at h1
    exact hne (order_one hq hbd (j - i) (by omega) (by omega) h1.symm)
  intro i j hi hj he
  rcases Nat.lt_trichotomy i j with h | h | h
  · exact (key i j h hj he).elim
  · exact h
  · exact (key j i h hi he.symm).elim
theorem pock {n q b : Nat} (hq : Prm q) (h1 : 1 < n) (hn : n < q * q) (hb1 : 1 ≤ b) (hb : b ^ q % n = 1 % n) (hg : Nat.gcd (b - 1) n = 1) : Prm n := by
  refine ⟨h1, fun d hd => ?_⟩
  by_cases e1 : d = 1
  · exact Or.inl e1
  · obtain ⟨e, he⟩ := hd
    by_cases e2 : e = 1
    · exact Or.inr (by rw [he, e2, Nat.mul_one])
    · exfalso
      have a := div_big hq hb1 hb hg ⟨e, he⟩ e1 (by omega)
      have c := div_big hq hb1 hb hg ⟨d, by rw [he, Nat.mul_comm]⟩ e2 (by omega)
      have := Nat.mul_le_mul a c
      omega
/-- no number from lo on, 2 ^ k of them, divides n -/
def noDiv (n : Nat) : Nat → Nat → Bool
  | 0, lo => n % lo != 0
  | k + 1, lo => noDiv n k lo && noDiv n k (lo + 2 ^ k)
theorem noDiv_spec (n : Nat) : ∀ (k lo d : Nat), noDiv n k lo = true → lo ≤ d → d < lo + 2 ^ k → n % d ≠ 0
  | 0, lo, d, h, h1, h2 => by
    have : d = lo := by rw [Nat.pow_zero] at h2; omega
    subst this
    simpa [noDiv] using h
  | k + 1, lo, d, h, h1, h2 => by
    simp only [noDiv, Bool.and_eq_true] at h
    rw [Nat.pow_succ] at h2
    by_cases hd : d < lo + 2 ^ k
    · exact noDiv_spec n k lo d h.1 h1 hd
    · exact noDiv_spec n k (lo + 2 ^ k) d h.2 (by omega) (by omega)
theorem trial {n k : Nat} (h2 : 2 ≤ n) (h : noDiv n k 2 = true) (hk : n < (2 + 2 ^ k) * (2 + 2 ^ k)) : Prm n := by
  refine ⟨h2, fun d hd => ?_⟩
  by_cases e1 : d = 1
  · exact Or.inl e1
  · obtain ⟨e, he⟩ := hd
    by_cases e2 : e = 1
    · exact Or.inr (by rw [he, e2, Nat.mul_one])
    · exfalso
      have d0 : d ≠ 0 := fun h0 => by rw [h0, Nat.zero_mul] at he; omega
      have e0 : e ≠ 0 := fun h0 => by rw [h0, Nat.mul_zero] at he; omega
      by_cases hd : d < 2 + 2 ^ k
      · exact noDiv_spec n k 2 d h (by omega) hd (by rw [he, Nat.mul_mod_right])
      · by_cases hee : e < 2 + 2 ^ k
        · exact noDiv_spec n k 2 e h (by omega) hee (by rw [he, Nat.mul_mod_left])
        · have := Nat.mul_le_mul (Nat.le_of_not_lt hd) (Nat.le_of_not_lt hee)
          omega
theorem prm_p0 : Prm 5671741379 := trial (k := 17) (by decide) (by decide +kernel) (by decide)
theorem prm_r : Prm 288230376151711447 :=
  pock (b := 269194018563725675) prm_p0 (by decide) (by decide) (by decide) (by rw [← powF_eq 288230376151711447 33 269194018563725675 5671741379 (by decide)]; decide +kernel) (by decide +kernel)
theorem prm_q : Prm gQ :=
  pock (b := 16) prm_r (by decide) (by decide) (by decide) (by rw [← powF_eq gQ 58 16 288230376151711447 (by decide)]; decide +kernel) (by decide +kernel)
/-- no lesser power of 4 is 1 -/
theorem four_ne {x : Nat} (h0 : 0 < x) (h : x < gQ) : 4 ^ x % gP ≠ 1 := by
  intro e
  have := order_one prm_q (b := 4) (d := gP) (by rw [four_q]; decide) x h0 h (by rw [e]; decide)
  revert this
  decide
end Go.Proofs.YtepidpegoihllaaGreatDoor
