/- basin.Right. -/
import Derived.Test.YtkoobkcmmfdlhaaBNames
import Derived.Test.YtkoobkcmmfdlhaaBHead
import Derived.Test.YtkoobkcmmfdlhaaBTowns
import Derived.Test.YtkoobkcmmfdlhaaBOffices
import Derived.Test.YtkoobkcmmfdlhaaBSlopes
namespace Go.Proofs.Ytkoobkcmmfdlhaa
open Go.RowKit
/-- what is known of a right basin -/
def RightB (b : BasinV) : Prop := BasinLen b ∧ (∀ y ∈ b.places, PlaceR b y) ∧ (∀ y ∈ b.links, LinkR b y) ∧ (∀ y ∈ b.links, SlopeR y)
set_option maxRecDepth 100000 in
set_option maxHeartbeats 8000000 in
theorem basin_right (b : BasinV) (p0 p1 p2 p3 p4 p5 p6 p7 : Option Addr) (q0 q1 q2 q3 q4 q5 q6 q7 : Nat) (w : World) (hS : BasinS b p0 p1 p2 p3 p4 p5 p6 p7 q0 q1 q2 q3 q4 q5 q6 q7 w) (hnm : b.name.size ≤ maxLen) : Calls Try.prog 25 #[.agg #[.string b.name, .slice p0 b.owners.length q0, .int .i64 b.cells, .slice p1 b.places.length q1, .slice p2 b.links.length q2, .slice p3 b.towns.length q3, .slice p4 b.gauges.length q4, .slice p5 b.roads.length q5, .slice p6 b.shelters.length q6, .slice p7 b.room.length q7, .int .i64 b.err]] w (RetT (RightB b) w) := by
  have HS := Lib.hid hS
  have HNM := Lib.hid hnm
  clear hS hnm
  go_enter Try.func25, Try.ntmps25
  go_upto_region 1 with fail
  have HR0 := Lib.hid (heap_alloc_new w (.cells #[.string b.name, .slice p0 b.owners.length q0, .int .i64 b.cells, .slice p1 b.places.length q1, .slice p2 b.links.length q2, .slice p3 b.towns.length q3, .slice p4 b.gauges.length q4, .slice p5 b.roads.length q5, .slice p6 b.shelters.length q6, .slice p7 b.room.length q7, .int .i64 b.err] 45))
  have HB0 := Lib.hid ((Below.refl w.heap.size w).alloc (Nat.le_refl _) (.cells #[.string b.name, .slice p0 b.owners.length q0, .int .i64 b.cells, .slice p1 b.places.length q1, .slice p2 b.links.length q2, .slice p3 b.towns.length q3, .slice p4 b.gauges.length q4, .slice p5 b.roads.length q5, .slice p6 b.shelters.length q6, .slice p7 b.room.length q7, .int .i64 b.err] 45))
  generalize w.alloc (.cells #[.string b.name, .slice p0 b.owners.length q0, .int .i64 b.cells, .slice p1 b.places.length q1, .slice p2 b.links.length q2, .slice p3 b.towns.length q3, .slice p4 b.gauges.length q4, .slice p5 b.roads.length q5, .slice p6 b.shelters.length q6, .slice p7 b.room.length q7, .int .i64 b.err] 45) = w0 at *
  go_wp2_with (refine wpList_load_rowW (by first | (go_simp; done) | rfl) 45 _ rfl _ rfl 45 _ _ _ HR0.out undBa rfl infoBa ?_)
  refine (head_right b _ _ _ _ _ _ _ _ _ _ _ _ _ _ _ _ _ (HS.out.below HB0.out) HNM.out).mono ?_
  rintro e w1 ⟨b0, hq, rfl, hb⟩
  have HR1 := Lib.hid (blk_below HR0.out hb (blk_lt HR0.out))
  have HB1 := Lib.hid (HB0.out.trans (hb.mono HB0.out.size))
  have HQ0 := Lib.hid hq
  clear hq hb HR0 HB0
  cases b0
  · go_wp2_with fail
    go_ret
    exact retT_no HB1.out
  · have HH := Lib.hid (HQ0.out (by trivial))
    have HLN := Lib.hid HH.out.1
    have HCL : Hid (0 ≤ b.cells ∧ b.cells ≤ 9223372036854775807) := Lib.hid ⟨HH.out.2.1, by have := HH.out.2.2.1; omega⟩
    go_wp2_with (refine wpList_load_rowW (by first | (go_simp; done) | rfl) 45 _ rfl _ rfl 45 _ _ _ HR1.out undBa rfl infoBa ?_)
    refine (names_any b _ _ _ _ _ _ _ _ _ _ _ _ _ _ _ _ _ (HS.out.below HB1.out) HLN.out).mono ?_
    rintro e w2 ⟨b1, hq, rfl, hb⟩
    have HR2 := Lib.hid (blk_below HR1.out hb (blk_lt HR1.out))
    have HB2 := Lib.hid (HB1.out.trans (hb.mono HB1.out.size))
    have HQ1 := Lib.hid hq
    clear hq hb HR1 HB1
    cases b1
    · go_wp2_with fail
      go_ret
      exact retT_no HB2.out
    · go_wp2_with (refine wpList_load_rowW (by first | (go_simp; done) | rfl) 45 _ rfl _ rfl 45 _ _ _ HR2.out undBa rfl infoBa ?_)
      refine (places_right b _ _ _ _ _ _ _ _ _ _ _ _ _ _ _ _ _ (HS.out.below HB2.out) HLN.out).mono ?_
      rintro e w3 ⟨b2, hq, rfl, hb⟩
      have HR3 := Lib.hid (blk_below HR2.out hb (blk_lt HR2.out))
      have HB3 := Lib.hid (HB2.out.trans (hb.mono HB2.out.size))
      have HQ2 := Lib.hid hq
      clear hq hb HR2 HB2
      cases b2
      · go_wp2_with fail
        go_ret
        exact retT_no HB3.out
      · have HPL := Lib.hid (HQ2.out (by trivial))
        go_wp2_with (refine wpList_load_rowW (by first | (go_simp; done) | rfl) 45 _ rfl _ rfl 45 _ _ _ HR3.out undBa rfl infoBa ?_)
        refine (links_right b _ _ _ _ _ _ _ _ _ _ _ _ _ _ _ _ _ (HS.out.below HB3.out) HLN.out).mono ?_
        rintro e w4 ⟨b3, hq, rfl, hb⟩
        have HR4 := Lib.hid (blk_below HR3.out hb (blk_lt HR3.out))
        have HB4 := Lib.hid (HB3.out.trans (hb.mono HB3.out.size))
        have HQ3 := Lib.hid hq
        clear hq hb HR3 HB3
        cases b3
        · go_wp2_with fail
          go_ret
          exact retT_no HB4.out
        · have HLK := Lib.hid (HQ3.out (by trivial))
          go_wp2_with (refine wpList_load_rowW (by first | (go_simp; done) | rfl) 45 _ rfl _ rfl 45 _ _ _ HR4.out undBa rfl infoBa ?_)
          refine (offices_any b _ _ _ _ _ _ _ _ _ _ _ _ _ _ _ _ _ (HS.out.below HB4.out) HLN.out HPL.out HLK.out).mono ?_
          rintro e w5 ⟨b4, hq, rfl, hb⟩
          have HR5 := Lib.hid (blk_below HR4.out hb (blk_lt HR4.out))
          have HB5 := Lib.hid (HB4.out.trans (hb.mono HB4.out.size))
          have HQ4 := Lib.hid hq
          clear hq hb HR4 HB4
          cases b4
          · go_wp2_with fail
            go_ret
            exact retT_no HB5.out
          · go_wp2_with (refine wpList_load_rowW (by first | (go_simp; done) | rfl) 45 _ rfl _ rfl 45 _ _ _ HR5.out undBa rfl infoBa ?_)
            refine (slopes_right b _ _ _ _ _ _ _ _ _ _ _ _ _ _ _ _ _ (HS.out.below HB5.out) HLN.out HPL.out HLK.out).mono ?_
            rintro e w6 ⟨b5, hq, rfl, hb⟩
            have HR6 := Lib.hid (blk_below HR5.out hb (blk_lt HR5.out))
            have HB6 := Lib.hid (HB5.out.trans (hb.mono HB5.out.size))
            have HQ5 := Lib.hid hq
            clear hq hb HR5 HB5
            cases b5
            · go_wp2_with fail
              go_ret
              exact retT_no HB6.out
            · have HSL := Lib.hid (HQ5.out (by trivial))
              go_wp2_with (refine wpList_load_rowW (by first | (go_simp; done) | rfl) 45 _ rfl _ rfl 45 _ _ _ HR6.out undBa rfl infoBa ?_)
              refine (towns_any b _ _ _ _ _ _ _ _ _ _ _ _ _ _ _ _ _ (HS.out.below HB6.out) HLN.out).mono ?_
              rintro e w7 ⟨b6, hq, rfl, hb⟩
              have HR7 := Lib.hid (blk_below HR6.out hb (blk_lt HR6.out))
              have HB7 := Lib.hid (HB6.out.trans (hb.mono HB6.out.size))
              have HQ6 := Lib.hid hq
              clear hq hb HR6 HB6
              cases b6
              · go_wp2_with fail
                go_ret
                exact retT_no HB7.out
              · go_wp2_with (refine wpList_load_rowW (by first | (go_simp; done) | rfl) 45 _ rfl _ rfl 45 _ _ _ HR7.out undBa rfl infoBa ?_)
                refine (gauges_any b _ _ _ _ _ _ _ _ _ _ _ _ _ _ _ _ _ (HS.out.below HB7.out) HLN.out HCL.out).mono ?_
                rintro e w8 ⟨b7, hq, rfl, hb⟩
                have HR8 := Lib.hid (blk_below HR7.out hb (blk_lt HR7.out))
                have HB8 := Lib.hid (HB7.out.trans (hb.mono HB7.out.size))
                have HQ7 := Lib.hid hq
                clear hq hb HR7 HB7
                cases b7
                · go_wp2_with fail
                  go_ret
                  exact retT_no HB8.out
                · go_wp2_with (refine wpList_load_rowW (by first | (go_simp; done) | rfl) 45 _ rfl _ rfl 45 _ _ _ HR8.out undBa rfl infoBa ?_)
                  refine (roads_any b _ _ _ _ _ _ _ _ _ _ _ _ _ _ _ _ _ (HS.out.below HB8.out) HLN.out).mono ?_
                  rintro e w9 ⟨b8, hq, rfl, hb⟩
                  have HR9 := Lib.hid (blk_below HR8.out hb (blk_lt HR8.out))
                  have HB9 := Lib.hid (HB8.out.trans (hb.mono HB8.out.size))
                  have HQ8 := Lib.hid hq
                  clear hq hb HR8 HB8
                  cases b8
                  · go_wp2_with fail
                    go_ret
                    exact retT_no HB9.out
                  · go_wp2_with fail
                    go_ret
                    exact retT_yes ⟨HLN.out, HPL.out, HLK.out, HSL.out⟩ HB9.out
theorem linkOk_of {b : BasinV} {l : LinkV} (h : RightB b) (hl : l ∈ b.links) : LinkOk l := by
  obtain ⟨-, -, h1, h2⟩ := h
  obtain ⟨hk, hs, hd, hf, hu⟩ := h1 l hl
  have hsl := h2 l hl
  unfold UnusedOk at hu
  rcases (show l.kind = 0 ∨ l.kind = 1 ∨ l.kind = 2 ∨ l.kind = 3 ∨ l.kind = 4 ∨ l.kind = 5 by omega) with e | e | e | e | e | e
  · obtain ⟨r1, r2, r3, r4, r5, r6, r7, r8, r9⟩ := hf.1 e
    obtain ⟨s1, s2⟩ := hsl.1 e
    exact Or.inl ⟨e, r1, r2, r3, r4, r5, s1, r6.1, r6.2, r7.1, r7.2, r8.1, r8.2, r9.1, r9.2.2.1, r9.2.2.2.1, s2⟩
  · have f := hf.2.1 (Or.inl e)
    have s := hsl.2 (Or.inl e)
    have u := hu (by omega) (by omega)
    exact Or.inr (Or.inl ⟨Or.inl e, u.1, u.2, f.1.1, f.1.2, f.2.1.1, s, f.2.2.1, f.2.2.2⟩)
  · have f := hf.2.2.1 e
    exact Or.inr (Or.inr (Or.inl ⟨e, f.1.1, f.1.2, f.2.1.1, f.2.1.2, f.2.2.1, f.2.2.2⟩))
  · have f := hf.2.2.2.1 e
    have s := hsl.2 (Or.inr (Or.inl e))
    have u := hu (by omega) (by omega)
    exact Or.inr (Or.inr (Or.inr (Or.inl ⟨e, u.1, u.2, f.1.1, s, f.2.1, f.2.2⟩)))
  · have u := hu (by omega) (by omega)
    exact Or.inr (Or.inr (Or.inr (Or.inr ⟨e, u.1, u.2⟩)))
  · have f := hf.2.1 (Or.inr e)
    have s := hsl.2 (Or.inr (Or.inr e))
    have u := hu (by omega) (by omega)
    exact Or.inr (Or.inl ⟨Or.inr e, u.1, u.2, f.1.1, f.1.2, f.2.1.1, s, f.2.2.1, f.2.2.2⟩)
end Go.Proofs.Ytkoobkcmmfdlhaa
