/- The reference's right, g and word. -/
import Derived.Test.YtgjklfddoechpaaGreatDoorReg
import Derived.Test.YtgjklfddoechpaaGreatDoorMix
import Derived.StillTailTactics
namespace Go.Proofs.YtgjklfddoechpaaGreatDoor
open Go.RowKit
theorem rright_any (x n : Int) (w : World) (_h0 : 0 ≤ x) (_h1 : x ≤ 4294967295) (h2 : 1 ≤ n) (h3 : n ≤ 31) :
    Calls Tryz.prog 159 #[.int .u32 x, .int .u32 n] w fun e w' => e = .returned (.int .u32 (rotr x n)) ∧ w' = w := by
  go_enter Tryz.func159, Tryz.ntmps159
  go_wp2_with fail
  go_ret
  exact ⟨rfl, rfl⟩
/-- a block whose first sixteen cells are words: those at a, b, c, d are given, the others are those of vs -/
structure VR (w0 : World) (g : Nat) (vs : List Int) (a b c d : Nat) (va vb vc vd : Int) (w : World) : Prop where
  blk : ∃ cur : Array Value, w.heap[g]? = some (.cells cur 129 (0, 0)) ∧ cur[a]? = some (.int .u32 va) ∧ cur[b]? = some (.int .u32 vb) ∧ cur[c]? = some (.int .u32 vc) ∧ cur[d]? = some (.int .u32 vd) ∧
    ∀ j, j < 16 → j ≠ a → j ≠ b → j ≠ c → j ≠ d → cur[j]? = some (.int .u32 (vs[j]?.getD 0))
  grown : w0.grownBy w (some g)
  size : w.heap.size = w0.heap.size
theorem VR.drew {w0 w : World} {g : Nat} {vs : List Int} {a b c d : Nat} {va vb vc vd : Int} (h : VR w0 g vs a b c d va vb vc vd w) : VR w0 g vs a b c d va vb vc vd w.drew := ⟨h.blk, ⟨h.grown.os, h.grown.tape, h.grown.output, h.grown.size, h.grown.block⟩, h.size⟩
theorem VR.free {w0 w : World} {g : Nat} {vs : List Int} {a b c d : Nat} {va vb vc vd : Int} (h : VR w0 g vs a b c d va vb vc vd w) (j : Nat) : w.frozen? ⟨g, j, none⟩ = false := by
  obtain ⟨cur, hh, _⟩ := h.blk
  exact frozen_of_row _ _ _ _ _ hh
theorem VR.ca {w0 w : World} {g : Nat} {vs : List Int} {a b c d : Nat} {va vb vc vd : Int} (h : VR w0 g vs a b c d va vb vc vd w) : w.cell? ⟨g, a, none⟩ = some (.int .u32 va) := by
  obtain ⟨cur, hh, ha, hb, hc, hd, _⟩ := h.blk
  rw [cell_of_row _ _ _ _ _ _ hh]
  exact ha
theorem VR.cb {w0 w : World} {g : Nat} {vs : List Int} {a b c d : Nat} {va vb vc vd : Int} (h : VR w0 g vs a b c d va vb vc vd w) : w.cell? ⟨g, b, none⟩ = some (.int .u32 vb) := by
  obtain ⟨cur, hh, ha, hb, hc, hd, _⟩ := h.blk
  rw [cell_of_row _ _ _ _ _ _ hh]
  exact hb
theorem VR.cc {w0 w : World} {g : Nat} {vs : List Int} {a b c d : Nat} {va vb vc vd : Int} (h : VR w0 g vs a b c d va vb vc vd w) : w.cell? ⟨g, c, none⟩ = some (.int .u32 vc) := by
  obtain ⟨cur, hh, ha, hb, hc, hd, _⟩ := h.blk
  rw [cell_of_row _ _ _ _ _ _ hh]
  exact hc
theorem VR.cd {w0 w : World} {g : Nat} {vs : List Int} {a b c d : Nat} {va vb vc vd : Int} (h : VR w0 g vs a b c d va vb vc vd w) : w.cell? ⟨g, d, none⟩ = some (.int .u32 vd) := by
  obtain ⟨cur, hh, ha, hb, hc, hd, _⟩ := h.blk
  rw [cell_of_row _ _ _ _ _ _ hh]
  exact hd
theorem grown_setCell {w0 w : World} {g : Nat} (h : w0.grownBy w (some g)) (j : Nat) (v : Value) : w0.grownBy (w.setCell ⟨g, j, none⟩ v) (some g) :=
  have hB : Below g w (w.setCell ⟨g, j, none⟩ v) := (Below.refl g w).setCell (Nat.le_refl _) v
  ⟨hB.os.trans h.os, hB.tape.trans h.tape, hB.output.trans h.output, by simpa using h.size, fun k hk he => by
    rw [heap_setCell_other _ _ _ _ (fun e => he (by rw [e]))]
    exact h.block k hk he⟩
theorem mixF_steps {va vb vc vd x y va1 r1 vc1 r2 va2 r3 vc2 r4 : Int} (h1 : va1 = IntKind.u32.wrap (IntKind.u32.wrap (va + vb) + x)) (h2 : r1 = rotr (bits BinOp.xor IntKind.u32 vd va1) 16) (h3 : vc1 = IntKind.u32.wrap (vc + r1))
    (h4 : r2 = rotr (bits BinOp.xor IntKind.u32 vb vc1) 12) (h5 : va2 = IntKind.u32.wrap (IntKind.u32.wrap (va1 + r2) + y)) (h6 : r3 = rotr (bits BinOp.xor IntKind.u32 r1 va2) 8) (h7 : vc2 = IntKind.u32.wrap (vc1 + r3))
    (h8 : r4 = rotr (bits BinOp.xor IntKind.u32 r2 vc2) 7) : mixF va vb vc vd x y = (va2, r4, vc2, r3) := by
  simp only [IntKind.wrap_u32] at h1 h3 h5 h7
  have e1 : va1 = (va + (vb + x)) % 4294967296 := by omega
  have e5 : va2 = (va + (vb + x) + (r2 + y)) % 4294967296 := by omega
  have e7 : vc2 = (vc + r1 + r3) % 4294967296 := by omega
  rw [e1] at h2
  rw [h3] at h4
  rw [e5] at h6
  rw [e7] at h8
  unfold mixF
  dsimp only
  rw [← h2, ← h4, ← h6, ← h8, e5, e7]
theorem VR.sa {w0 w : World} {g : Nat} {vs : List Int} {a b c d : Nat} {va vb vc vd : Int} (h : VR w0 g vs a b c d va vb vc vd w) (hb : a ≠ b) (hc : a ≠ c) (hd : a ≠ d) (z : Int) : VR w0 g vs a b c d z vb vc vd (w.setCell ⟨g, a, none⟩ (.int .u32 z)) := by
  obtain ⟨cur, hh, ga, gb, gc, gd, go⟩ := h.blk
  have hs : a < cur.size := (Array.getElem?_eq_some_iff.1 ga).1
  refine ⟨⟨cur.setIfInBounds a (.int .u32 z), ?_, ?_, ?_, ?_, ?_, ?_⟩, grown_setCell h.grown _ _, by simpa using h.size⟩
  · rw [setCell_eq_setRow _ _ _ _ _ _ _ hh]
    exact setRow_heap _ _ _ _ _ _ hh
  · rw [Array.getElem?_setIfInBounds, if_pos rfl, if_pos hs]
  · rw [Array.getElem?_setIfInBounds, if_neg hb]; exact gb
  · rw [Array.getElem?_setIfInBounds, if_neg hc]; exact gc
  · rw [Array.getElem?_setIfInBounds, if_neg hd]; exact gd
  · intro j hj na nb nc nd
    rw [Array.getElem?_setIfInBounds, if_neg (Ne.symm na)]
    exact go j hj na nb nc nd
theorem VR.sb {w0 w : World} {g : Nat} {vs : List Int} {a b c d : Nat} {va vb vc vd : Int} (h : VR w0 g vs a b c d va vb vc vd w) (ha : b ≠ a) (hc : b ≠ c) (hd : b ≠ d) (z : Int) : VR w0 g vs a b c d va z vc vd (w.setCell ⟨g, b, none⟩ (.int .u32 z)) := by
  obtain ⟨cur, hh, ga, gb, gc, gd, go⟩ := h.blk
  have hs : b < cur.size := (Array.getElem?_eq_some_iff.1 gb).1
  refine ⟨⟨cur.setIfInBounds b (.int .u32 z), ?_, ?_, ?_, ?_, ?_, ?_⟩, grown_setCell h.grown _ _, by simpa using h.size⟩
  · rw [setCell_eq_setRow _ _ _ _ _ _ _ hh]
    exact setRow_heap _ _ _ _ _ _ hh
  · rw [Array.getElem?_setIfInBounds, if_neg ha]; exact ga
  · rw [Array.getElem?_setIfInBounds, if_pos rfl, if_pos hs]
  · rw [Array.getElem?_setIfInBounds, if_neg hc]; exact gc
  · rw [Array.getElem?_setIfInBounds, if_neg hd]; exact gd
  · intro j hj na nb nc nd
    rw [Array.getElem?_setIfInBounds, if_neg (Ne.symm nb)]
    exact go j hj na nb nc nd
theorem VR.sc {w0 w : World} {g : Nat} {vs : List Int} {a b c d : Nat} {va vb vc vd : Int} (h : VR w0 g vs a b c d va vb vc vd w) (ha : c ≠ a) (hb : c ≠ b) (hd : c ≠ d) (z : Int) : VR w0 g vs a b c d va vb z vd (w.setCell ⟨g, c, none⟩ (.int .u32 z)) := by
  obtain ⟨cur, hh, ga, gb, gc, gd, go⟩ := h.blk
  have hs : c < cur.size := (Array.getElem?_eq_some_iff.1 gc).1
  refine ⟨⟨cur.setIfInBounds c (.int .u32 z), ?_, ?_, ?_, ?_, ?_, ?_⟩, grown_setCell h.grown _ _, by simpa using h.size⟩
  · rw [setCell_eq_setRow _ _ _ _ _ _ _ hh]
    exact setRow_heap _ _ _ _ _ _ hh
  · rw [Array.getElem?_setIfInBounds, if_neg ha]; exact ga
  · rw [Array.getElem?_setIfInBounds, if_neg hb]; exact gb
  · rw [Array.getElem?_setIfInBounds, if_pos rfl, if_pos hs]
  · rw [Array.getElem?_setIfInBounds, if_neg hd]; exact gd
  · intro j hj na nb nc nd
    rw [Array.getElem?_setIfInBounds, if_neg (Ne.symm nc)]
    exact go j hj na nb nc nd
theorem VR.sd {w0 w : World} {g : Nat} {vs : List Int} {a b c d : Nat} {va vb vc vd : Int} (h : VR w0 g vs a b c d va vb vc vd w) (ha : d ≠ a) (hb : d ≠ b) (hc : d ≠ c) (z : Int) : VR w0 g vs a b c d va vb vc z (w.setCell ⟨g, d, none⟩ (.int .u32 z)) := by
  obtain ⟨cur, hh, ga, gb, gc, gd, go⟩ := h.blk
  have hs : d < cur.size := (Array.getElem?_eq_some_iff.1 gd).1
  refine ⟨⟨cur.setIfInBounds d (.int .u32 z), ?_, ?_, ?_, ?_, ?_, ?_⟩, grown_setCell h.grown _ _, by simpa using h.size⟩
  · rw [setCell_eq_setRow _ _ _ _ _ _ _ hh]
    exact setRow_heap _ _ _ _ _ _ hh
  · rw [Array.getElem?_setIfInBounds, if_neg ha]; exact ga
  · rw [Array.getElem?_setIfInBounds, if_neg hb]; exact gb
  · rw [Array.getElem?_setIfInBounds, if_neg hc]; exact gc
  · rw [Array.getElem?_setIfInBounds, if_pos rfl, if_pos hs]
  · intro j hj na nb nc nd
    rw [Array.getElem?_setIfInBounds, if_neg (Ne.symm nd)]
    exact go j hj na nb nc nd
set_option maxRecDepth 100000 in
set_option maxHeartbeats 2000000 in
theorem rg_any (vs : List Int) (g cap : Nat) (a b c d x y : Int) (w : World) (hv : ∃ cur : Array Value, w.heap[g]? = some (.cells cur 129 (0, 0)) ∧ ∀ j, j < 16 → cur[j]? = some (.int .u32 (vs[j]?.getD 0))) (hb : W32 vs)
    (ha0 : 0 ≤ a) (ha : a < 16) (hb0 : 0 ≤ b) (hb1 : b < 16) (hc0 : 0 ≤ c) (hc : c < 16) (hd0 : 0 ≤ d) (hd : d < 16)
    (hab : a.toNat ≠ b.toNat) (hac : a.toNat ≠ c.toNat) (had : a.toNat ≠ d.toNat) (hbc : b.toNat ≠ c.toNat) (hbd : b.toNat ≠ d.toNat) (hcd : c.toNat ≠ d.toNat)
    (_hx0 : 0 ≤ x) (_hx1 : x ≤ 4294967295) (_hy0 : 0 ≤ y) (_hy1 : y ≤ 4294967295) :
    Calls Tryz.prog 141 #[.slice (some ⟨g, 0, none⟩) 16 cap, .int .i64 a, .int .i64 b, .int .i64 c, .int .i64 d, .int .u32 x, .int .u32 y] w fun e w' =>
      e = .returned (.tuple #[]) ∧ VR w g vs a.toNat b.toNat c.toNat d.toNat (mixF (vs[a.toNat]?.getD 0) (vs[b.toNat]?.getD 0) (vs[c.toNat]?.getD 0) (vs[d.toNat]?.getD 0) x y).1 (mixF (vs[a.toNat]?.getD 0) (vs[b.toNat]?.getD 0) (vs[c.toNat]?.getD 0) (vs[d.toNat]?.getD 0) x y).2.1 (mixF (vs[a.toNat]?.getD 0) (vs[b.toNat]?.getD 0) (vs[c.toNat]?.getD 0) (vs[d.toNat]?.getD 0) x y).2.2.1 (mixF (vs[a.toNat]?.getD 0) (vs[b.toNat]?.getD 0) (vs[c.toNat]?.getD 0) (vs[d.toNat]?.getD 0) x y).2.2.2 w' := by
  have H0 : Hid (VR w g vs a.toNat b.toNat c.toNat d.toNat (vs[a.toNat]?.getD 0) (vs[b.toNat]?.getD 0) (vs[c.toNat]?.getD 0) (vs[d.toNat]?.getD 0) w) := by
    obtain ⟨cur, hh, hcur⟩ := hv
    exact ⟨⟨cur, hh, hcur _ (by omega), hcur _ (by omega), hcur _ (by omega), hcur _ (by omega), fun j hj _ _ _ _ => hcur j hj⟩, ⟨rfl, rfl, rfl, Nat.le_refl _, fun _ _ _ => rfl⟩, rfl⟩
  clear hv
  obtain ⟨p1, p2⟩ := hb a.toNat
  obtain ⟨p3, p4⟩ := hb b.toNat
  obtain ⟨p5, p6⟩ := hb c.toNat
  obtain ⟨p7, p8⟩ := hb d.toNat
  have N : Hid (a.toNat ≠ b.toNat ∧ a.toNat ≠ c.toNat ∧ a.toNat ≠ d.toNat ∧ b.toNat ≠ c.toNat ∧ b.toNat ≠ d.toNat ∧ c.toNat ≠ d.toNat) := ⟨hab, hac, had, hbc, hbd, hcd⟩
  clear hab hac had hbc hbd hcd hb
  generalize vs[a.toNat]?.getD 0 = va0 at *
  generalize vs[b.toNat]?.getD 0 = vb0 at *
  generalize vs[c.toNat]?.getD 0 = vc0 at *
  generalize vs[d.toNat]?.getD 0 = vd0 at *
  go_enter Tryz.func141, Tryz.ntmps141
  go_wp2_with fail
  have H0d := Lib.hid H0.out.drew
  have f0a := H0d.out.ca
  have f0b := H0d.out.cb
  have f0c := H0d.out.free a.toNat
  clear H0
  go_still_tail 14, (by kernel_rfl)
  change wpList _ _ _ _ _ w.drew
  generalize w.drew = u0 at *
  generalize e0 : IntKind.u32.wrap (IntKind.u32.wrap (va0 + vb0) + x) = va1
  have E0 := Lib.hid e0
  clear e0
  have H1 := Lib.hid (H0d.out.sa N.out.1 N.out.2.1 N.out.2.2.1 va1)
  go_wp2_with fail
  clear f0a f0b f0c H0d
  generalize u0.setCell ⟨g, a.toNat, none⟩ (.int .u32 va1) = w1 at *
  have H1d := Lib.hid H1.out.drew
  have f1a := H1d.out.cd
  have f1b := H1d.out.ca
  have f1c := H1d.out.free d.toNat
  clear H1
  go_still_tail 13, (by kernel_rfl)
  still_call (rright_any _ _ _ (bits_lo_u32 _ _ _) (bits_hi_u32 _ _ _) (by omega) (by omega))
  repeat still_step
  refine wpStill_nil ?_
  change wpList _ _ _ _ _ w1.drew
  generalize w1.drew = u1 at *
  generalize e1 : rotr (bits BinOp.xor IntKind.u32 vd0 va1) 16 = r1
  have E1 := Lib.hid e1
  clear e1
  have H2 := Lib.hid (H1d.out.sd (Ne.symm N.out.2.2.1) (Ne.symm N.out.2.2.2.2.1) (Ne.symm N.out.2.2.2.2.2) r1)
  go_wp2_with fail
  clear f1a f1b f1c H1d
  generalize u1.setCell ⟨g, d.toNat, none⟩ (.int .u32 r1) = w2 at *
  have H2d := Lib.hid H2.out.drew
  have f2a := H2d.out.cc
  have f2b := H2d.out.cd
  have f2c := H2d.out.free c.toNat
  clear H2
  go_still_tail 12, (by kernel_rfl)
  change wpList _ _ _ _ _ w2.drew
  generalize w2.drew = u2 at *
  generalize e2 : IntKind.u32.wrap (vc0 + r1) = vc1
  have E2 := Lib.hid e2
  clear e2
  have H3 := Lib.hid (H2d.out.sc (Ne.symm N.out.2.1) (Ne.symm N.out.2.2.2.1) N.out.2.2.2.2.2 vc1)
  go_wp2_with fail
  clear f2a f2b f2c H2d
  generalize u2.setCell ⟨g, c.toNat, none⟩ (.int .u32 vc1) = w3 at *
  have H3d := Lib.hid H3.out.drew
  have f3a := H3d.out.cb
  have f3b := H3d.out.cc
  have f3c := H3d.out.free b.toNat
  clear H3
  go_still_tail 13, (by kernel_rfl)
  still_call (rright_any _ _ _ (bits_lo_u32 _ _ _) (bits_hi_u32 _ _ _) (by omega) (by omega))
  repeat still_step
  refine wpStill_nil ?_
  change wpList _ _ _ _ _ w3.drew
  generalize w3.drew = u3 at *
  generalize e3 : rotr (bits BinOp.xor IntKind.u32 vb0 vc1) 12 = r2
  have E3 := Lib.hid e3
  clear e3
  have H4 := Lib.hid (H3d.out.sb (Ne.symm N.out.1) N.out.2.2.2.1 N.out.2.2.2.2.1 r2)
  go_wp2_with fail
  clear f3a f3b f3c H3d
  generalize u3.setCell ⟨g, b.toNat, none⟩ (.int .u32 r2) = w4 at *
  have H4d := Lib.hid H4.out.drew
  have f4a := H4d.out.ca
  have f4b := H4d.out.cb
  have f4c := H4d.out.free a.toNat
  clear H4
  go_still_tail 14, (by kernel_rfl)
  change wpList _ _ _ _ _ w4.drew
  generalize w4.drew = u4 at *
  generalize e4 : IntKind.u32.wrap (IntKind.u32.wrap (va1 + r2) + y) = va2
  have E4 := Lib.hid e4
  clear e4
  have H5 := Lib.hid (H4d.out.sa N.out.1 N.out.2.1 N.out.2.2.1 va2)
  go_wp2_with fail
  clear f4a f4b f4c H4d
  generalize u4.setCell ⟨g, a.toNat, none⟩ (.int .u32 va2) = w5 at *
  have H5d := Lib.hid H5.out.drew
  have f5a := H5d.out.cd
  have f5b := H5d.out.ca
  have f5c := H5d.out.free d.toNat
  clear H5
  go_still_tail 13, (by kernel_rfl)
  still_call (rright_any _ _ _ (bits_lo_u32 _ _ _) (bits_hi_u32 _ _ _) (by omega) (by omega))
  repeat still_step
  refine wpStill_nil ?_
  change wpList _ _ _ _ _ w5.drew
  generalize w5.drew = u5 at *
  generalize e5 : rotr (bits BinOp.xor IntKind.u32 r1 va2) 8 = r3
  have E5 := Lib.hid e5
  clear e5
  have H6 := Lib.hid (H5d.out.sd (Ne.symm N.out.2.2.1) (Ne.symm N.out.2.2.2.2.1) (Ne.symm N.out.2.2.2.2.2) r3)
  go_wp2_with fail
  clear f5a f5b f5c H5d
  generalize u5.setCell ⟨g, d.toNat, none⟩ (.int .u32 r3) = w6 at *
  have H6d := Lib.hid H6.out.drew
  have f6a := H6d.out.cc
  have f6b := H6d.out.cd
  have f6c := H6d.out.free c.toNat
  clear H6
  go_still_tail 12, (by kernel_rfl)
  change wpList _ _ _ _ _ w6.drew
  generalize w6.drew = u6 at *
  generalize e6 : IntKind.u32.wrap (vc1 + r3) = vc2
  have E6 := Lib.hid e6
  clear e6
  have H7 := Lib.hid (H6d.out.sc (Ne.symm N.out.2.1) (Ne.symm N.out.2.2.2.1) N.out.2.2.2.2.2 vc2)
  go_wp2_with fail
  clear f6a f6b f6c H6d
  generalize u6.setCell ⟨g, c.toNat, none⟩ (.int .u32 vc2) = w7 at *
  have H7d := Lib.hid H7.out.drew
  have f7a := H7d.out.cb
  have f7b := H7d.out.cc
  have f7c := H7d.out.free b.toNat
  clear H7
  go_still_tail 13, (by kernel_rfl)
  still_call (rright_any _ _ _ (bits_lo_u32 _ _ _) (bits_hi_u32 _ _ _) (by omega) (by omega))
  repeat still_step
  refine wpStill_nil ?_
  change wpList _ _ _ _ _ w7.drew
  generalize w7.drew = u7 at *
  generalize e7 : rotr (bits BinOp.xor IntKind.u32 r2 vc2) 7 = r4
  have E7 := Lib.hid e7
  clear e7
  have H8 := Lib.hid (H7d.out.sb (Ne.symm N.out.1) N.out.2.2.2.1 N.out.2.2.2.2.1 r4)
  go_wp2_with fail
  clear f7a f7b f7c H7d
  generalize u7.setCell ⟨g, b.toNat, none⟩ (.int .u32 r4) = w8 at *
  rw [mixF_steps E0.out.symm E1.out.symm E2.out.symm E3.out.symm E4.out.symm E5.out.symm E6.out.symm E7.out.symm]
  go_end0
  exact ⟨rfl, H8.out⟩
end Go.Proofs.YtgjklfddoechpaaGreatDoor
