/- Texts merged: RefB SIdx RefD RefE -/
import Derived.StillTailTactics
import Derived.Test.YtjbjpkhibcnenaaGreatDoorReg
import Derived.Test.YtjbjpkhibcnenaaGreatDoorMix
import Derived.Test.YtjbjpkhibcnenaaGreatDoorWShelf
/- The reference's right, g and word. -/
namespace Go.Proofs.YtjbjpkhibcnenaaGreatDoor
set_option maxRecDepth 100000
set_option maxHeartbeats 2000000
open Go.RowKit
theorem rright_any (x n : Int) (w : World) (_h0 : 0 ≤ x) (_h1 : x ≤ 4294967295) (h2 : 1 ≤ n) (h3 : n ≤ 31) :
 Calls Tryz.prog 169 #[.int .u32 x, .int .u32 n] w fun e w' => e = .returned (.int .u32 (rotr x n)) ∧ w' = w := by
 go_enter Tryz.func169, Tryz.ntmps169
 go_wp2_with fail
 go_ret
 exact ⟨rfl, rfl⟩
/-- a block whose first sixteen cells are words: those at a, b, c, d are given, the others are those of vs -/
structure VR (w0 : World) (g : Nat) (vs : List Int) (a b c d : Nat) (va vb vc vd : Int) (w : World) : Prop where
 blk : ∃ cur : Array Value, w.heap[g]? = some (.cells cur 148 (0, 0)) ∧ cur[a]? = some (.int .u32 va) ∧ cur[b]? = some (.int .u32 vb) ∧ cur[c]? = some (.int .u32 vc) ∧ cur[d]? = some (.int .u32 vd) ∧
  ∀ j, j < 16 → j ≠ a → j ≠ b → j ≠ c → j ≠ d → cur[j]? = some (.int .u32 (vs[j]?.getD 0))
 grown : w0.grownBy w (some g)
 size : w.heap.size = w0.heap.size
theorem VR.drew {w0 w : World} {g : Nat} {vs : List Int} {a b c d : Nat} {va vb vc vd : Int} (h : VR w0 g vs a b c d va vb vc vd w) : VR w0 g vs a b c d va vb vc vd w.drew := ⟨h.blk, ⟨h.grown.os, h.grown.tape, h.grown.output, h.grown.size, h.grown.block⟩, h.size⟩
theorem VR.free {w0 w : World} {g : Nat} {vs : List Int} {a b c d : Nat} {va vb vc vd : Int} (h : VR w0 g vs a b c d va vb vc vd w) (j : Nat) : w.frozen? ⟨g, j, none⟩ = false := by
 obtain ⟨cur, hh, _⟩ := h.blk
 exact frozen_of_row _ _ _ _ _ hh
theorem VR.ca {w0 w : World} {g : Nat} {vs : List Int} {a b c d : Nat} {va vb vc vd : Int} (h : VR w0 g vs a b c d va vb vc vd w) : w.cell? ⟨g, a, none⟩ = some (.int .u32 va) := by
 obtain ⟨cur, hh, ha, hb, hc, hd, _⟩ := h.blk
 rw [cell_of_row _ _ _ _ _ _ hh]
 exact ha
theorem VR.cb {w0 w : World} {g : Nat} {vs : List Int} {a b c d : Nat} {va vb vc vd : Int} (h : VR w0 g vs a b c d va vb vc vd w) : w.cell? ⟨g, b, none⟩ = some (.int .u32 vb) := by
 obtain ⟨cur, hh, ha, hb, hc, hd, _⟩ := h.blk
 rw [cell_of_row _ _ _ _ _ _ hh]
 exact hb
theorem VR.cc {w0 w : World} {g : Nat} {vs : List Int} {a b c d : Nat} {va vb vc vd : Int} (h : VR w0 g vs a b c d va vb vc vd w) : w.cell? ⟨g, c, none⟩ = some (.int .u32 vc) := by
 obtain ⟨cur, hh, ha, hb, hc, hd, _⟩ := h.blk
 rw [cell_of_row _ _ _ _ _ _ hh]
 exact hc
theorem VR.cd {w0 w : World} {g : Nat} {vs : List Int} {a b c d : Nat} {va vb vc vd : Int} (h : VR w0 g vs a b c d va vb vc vd w) : w.cell? ⟨g, d, none⟩ = some (.int .u32 vd) := by
 obtain ⟨cur, hh, ha, hb, hc, hd, _⟩ := h.blk
 rw [cell_of_row _ _ _ _ _ _ hh]
 exact hd
theorem grown_setCell {w0 w : World} {g : Nat} (h : w0.grownBy w (some g)) (j : Nat) (v : Value) : w0.grownBy (w.setCell ⟨g, j, none⟩ v) (some g) :=
 have hB : Below g w (w.setCell ⟨g, j, none⟩ v) := (Below.refl g w).setCell (Nat.le_refl _) v
 ⟨hB.os.trans h.os, hB.tape.trans h.tape, hB.output.trans h.output, by simpa using h.size, fun k hk he => by
  rw [heap_setCell_other _ _ _ _ (fun e => he (by rw [e]))]
  exact h.block k hk he⟩
theorem mixF_steps {va vb vc vd x y va1 r1 vc1 r2 va2 r3 vc2 r4 : Int} (h1 : va1 = IntKind.u32.wrap (IntKind.u32.wrap (va + vb) + x)) (h2 : r1 = rotr (bits BinOp.xor IntKind.u32 vd va1) 16) (h3 : vc1 = IntKind.u32.wrap (vc + r1))
 (h4 : r2 = rotr (bits BinOp.xor IntKind.u32 vb vc1) 12) (h5 : va2 = IntKind.u32.wrap (IntKind.u32.wrap (va1 + r2) + y)) (h6 : r3 = rotr (bits BinOp.xor IntKind.u32 r1 va2) 8) (h7 : vc2 = IntKind.u32.wrap (vc1 + r3))
 (h8 : r4 = rotr (bits BinOp.xor IntKind.u32 r2 vc2) 7) : mixF va vb vc vd x y = (va2, r4, vc2, r3) := by
 simp only [IntKind.wrap_u32] at h1 h3 h5 h7
 have e1 : va1 = (va + (vb + x)) % 4294967296 := by omega
 have e5 : va2 = (va + (vb + x) + (r2 + y)) % 4294967296 := by omega
 have e7 : vc2 = (vc + r1 + r3) % 4294967296 := by omega
 rw [e1] at h2
 rw [h3] at h4
 rw [e5] at h6
 rw [e7] at h8
 unfold mixF
 dsimp only
 rw [← h2, ← h4, ← h6, ← h8, e5, e7]
theorem VR.sa {w0 w : World} {g : Nat} {vs : List Int} {a b c d : Nat} {va vb vc vd : Int} (h : VR w0 g vs a b c d va vb vc vd w) (hb : a ≠ b) (hc : a ≠ c) (hd : a ≠ d) (z : Int) : VR w0 g vs a b c d z vb vc vd (w.setCell ⟨g, a, none⟩ (.int .u32 z)) := by
 obtain ⟨cur, hh, ga, gb, gc, gd, go⟩ := h.blk
 have hs : a < cur.size := (Array.getElem?_eq_some_iff.1 ga).1
 refine ⟨⟨cur.setIfInBounds a (.int .u32 z), ?_, ?_, ?_, ?_, ?_, ?_⟩, grown_setCell h.grown _ _, by simpa using h.size⟩
 ·
  rw [setCell_eq_setRow _ _ _ _ _ _ _ hh]
  exact setRow_heap _ _ _ _ _ _ hh
 · rw [Array.getElem?_setIfInBounds, if_pos rfl, if_pos hs]
 · rw [Array.getElem?_setIfInBounds, if_neg hb]; exact gb
 · rw [Array.getElem?_setIfInBounds, if_neg hc]; exact gc
 · rw [Array.getElem?_setIfInBounds, if_neg hd]; exact gd
 ·
  intro j hj na nb nc nd
  rw [Array.getElem?_setIfInBounds, if_neg (Ne.symm na)]
  exact go j hj na nb nc nd
theorem VR.sb {w0 w : World} {g : Nat} {vs : List Int} {a b c d : Nat} {va vb vc vd : Int} (h : VR w0 g vs a b c d va vb vc vd w) (ha : b ≠ a) (hc : b ≠ c) (hd : b ≠ d) (z : Int) : VR w0 g vs a b c d va z vc vd (w.setCell ⟨g, b, none⟩ (.int .u32 z)) := by
 obtain ⟨cur, hh, ga, gb, gc, gd, go⟩ := h.blk
 have hs : b < cur.size := (Array.getElem?_eq_some_iff.1 gb).1
 refine ⟨⟨cur.setIfInBounds b (.int .u32 z), ?_, ?_, ?_, ?_, ?_, ?_⟩, grown_setCell h.grown _ _, by simpa using h.size⟩
 ·
  rw [setCell_eq_setRow _ _ _ _ _ _ _ hh]
  exact setRow_heap _ _ _ _ _ _ hh
 · rw [Array.getElem?_setIfInBounds, if_neg ha]; exact ga
 · rw [Array.getElem?_setIfInBounds, if_pos rfl, if_pos hs]
 · rw [Array.getElem?_setIfInBounds, if_neg hc]; exact gc
 · rw [Array.getElem?_setIfInBounds, if_neg hd]; exact gd
 ·
  intro j hj na nb nc nd
  rw [Array.getElem?_setIfInBounds, if_neg (Ne.symm nb)]
  exact go j hj na nb nc nd
theorem VR.sc {w0 w : World} {g : Nat} {vs : List Int} {a b c d : Nat} {va vb vc vd : Int} (h : VR w0 g vs a b c d va vb vc vd w) (ha : c ≠ a) (hb : c ≠ b) (hd : c ≠ d) (z : Int) : VR w0 g vs a b c d va vb z vd (w.setCell ⟨g, c, none⟩ (.int .u32 z)) := by
 obtain ⟨cur, hh, ga, gb, gc, gd, go⟩ := h.blk
 have hs : c < cur.size := (Array.getElem?_eq_some_iff.1 gc).1
 refine ⟨⟨cur.setIfInBounds c (.int .u32 z), ?_, ?_, ?_, ?_, ?_, ?_⟩, grown_setCell h.grown _ _, by simpa using h.size⟩
 ·
  rw [setCell_eq_setRow _ _ _ _ _ _ _ hh]
  exact setRow_heap _ _ _ _ _ _ hh
 · rw [Array.getElem?_setIfInBounds, if_neg ha]; exact ga
 · rw [Array.getElem?_setIfInBounds, if_neg hb]; exact gb
 · rw [Array.getElem?_setIfInBounds, if_pos rfl, if_pos hs]
 · rw [Array.getElem?_setIfInBounds, if_neg hd]; exact gd
 ·
  intro j hj na nb nc nd
  rw [Array.getElem?_setIfInBounds, if_neg (Ne.symm nc)]
  exact go j hj na nb nc nd
theorem VR.sd {w0 w : World} {g : Nat} {vs : List Int} {a b c d : Nat} {va vb vc vd : Int} (h : VR w0 g vs a b c d va vb vc vd w) (ha : d ≠ a) (hb : d ≠ b) (hc : d ≠ c) (z : Int) : VR w0 g vs a b c d va vb vc z (w.setCell ⟨g, d, none⟩ (.int .u32 z)) := by
 obtain ⟨cur, hh, ga, gb, gc, gd, go⟩ := h.blk
 have hs : d < cur.size := (Array.getElem?_eq_some_iff.1 gd).1
 refine ⟨⟨cur.setIfInBounds d (.int .u32 z), ?_, ?_, ?_, ?_, ?_, ?_⟩, grown_setCell h.grown _ _, by simpa using h.size⟩
 ·
  rw [setCell_eq_setRow _ _ _ _ _ _ _ hh]
  exact setRow_heap _ _ _ _ _ _ hh
 · rw [Array.getElem?_setIfInBounds, if_neg ha]; exact ga
 · rw [Array.getElem?_setIfInBounds, if_neg hb]; exact gb
 · rw [Array.getElem?_setIfInBounds, if_neg hc]; exact gc
 · rw [Array.getElem?_setIfInBounds, if_pos rfl, if_pos hs]
 ·
  intro j hj na nb nc nd
  rw [Array.getElem?_setIfInBounds, if_neg (Ne.symm nd)]
  exact go j hj na nb nc nd
theorem rg_any (vs : List Int) (g cap : Nat) (a b c d x y : Int) (w : World) (hv : ∃ cur : Array Value, w.heap[g]? = some (.cells cur 148 (0, 0)) ∧ ∀ j, j < 16 → cur[j]? = some (.int .u32 (vs[j]?.getD 0))) (hb : W32 vs)
 (ha0 : 0 ≤ a) (ha : a < 16) (hb0 : 0 ≤ b) (hb1 : b < 16) (hc0 : 0 ≤ c) (hc : c < 16) (hd0 : 0 ≤ d) (hd : d < 16)
 (hab : a.toNat ≠ b.toNat) (hac : a.toNat ≠ c.toNat) (had : a.toNat ≠ d.toNat) (hbc : b.toNat ≠ c.toNat) (hbd : b.toNat ≠ d.toNat) (hcd : c.toNat ≠ d.toNat)
 (_hx0 : 0 ≤ x) (_hx1 : x ≤ 4294967295) (_hy0 : 0 ≤ y) (_hy1 : y ≤ 4294967295) :
 Calls Tryz.prog 159 #[.slice (some ⟨g, 0, none⟩) 16 cap, .int .i64 a, .int .i64 b, .int .i64 c, .int .i64 d, .int .u32 x, .int .u32 y] w fun e w' =>
  e = .returned (.tuple #[]) ∧ VR w g vs a.toNat b.toNat c.toNat d.toNat (mixF (vs[a.toNat]?.getD 0) (vs[b.toNat]?.getD 0) (vs[c.toNat]?.getD 0) (vs[d.toNat]?.getD 0) x y).1 (mixF (vs[a.toNat]?.getD 0) (vs[b.toNat]?.getD 0) (vs[c.toNat]?.getD 0) (vs[d.toNat]?.getD 0) x y).2.1 (mixF (vs[a.toNat]?.getD 0) (vs[b.toNat]?.getD 0) (vs[c.toNat]?.getD 0) (vs[d.toNat]?.getD 0) x y).2.2.1 (mixF (vs[a.toNat]?.getD 0) (vs[b.toNat]?.getD 0) (vs[c.toNat]?.getD 0) (vs[d.toNat]?.getD 0) x y).2.2.2 w' := by
 have H0 : Hid (VR w g vs a.toNat b.toNat c.toNat d.toNat (vs[a.toNat]?.getD 0) (vs[b.toNat]?.getD 0) (vs[c.toNat]?.getD 0) (vs[d.toNat]?.getD 0) w) := by
  obtain ⟨cur, hh, hcur⟩ := hv
  exact ⟨⟨cur, hh, hcur _ (by omega), hcur _ (by omega), hcur _ (by omega), hcur _ (by omega), fun j hj _ _ _ _ => hcur j hj⟩, ⟨rfl, rfl, rfl, Nat.le_refl _, fun _ _ _ => rfl⟩, rfl⟩
 clear hv
 obtain ⟨p1, p2⟩ := hb a.toNat
 obtain ⟨p3, p4⟩ := hb b.toNat
 obtain ⟨p5, p6⟩ := hb c.toNat
 obtain ⟨p7, p8⟩ := hb d.toNat
 have N : Hid (a.toNat ≠ b.toNat ∧ a.toNat ≠ c.toNat ∧ a.toNat ≠ d.toNat ∧ b.toNat ≠ c.toNat ∧ b.toNat ≠ d.toNat ∧ c.toNat ≠ d.toNat) := ⟨hab, hac, had, hbc, hbd, hcd⟩
 clear hab hac had hbc hbd hcd hb
 generalize vs[a.toNat]?.getD 0 = va0 at *
 generalize vs[b.toNat]?.getD 0 = vb0 at *
 generalize vs[c.toNat]?.getD 0 = vc0 at *
 generalize vs[d.toNat]?.getD 0 = vd0 at *
 go_enter Tryz.func159, Tryz.ntmps159
 go_wp2_with fail
 have H0d := Lib.hid H0.out.drew
 have f0a := H0d.out.ca
 have f0b := H0d.out.cb
 have f0c := H0d.out.free a.toNat
 clear H0
 go_still_tail 14, (by kernel_rfl)
 change wpList _ _ _ _ _ w.drew
 generalize w.drew = u0 at *
 generalize e0 : IntKind.u32.wrap (IntKind.u32.wrap (va0 + vb0) + x) = va1
 have E0 := Lib.hid e0
 clear e0
 have H1 := Lib.hid (H0d.out.sa N.out.1 N.out.2.1 N.out.2.2.1 va1)
 go_wp2_with fail
 clear f0a f0b f0c H0d
 generalize u0.setCell ⟨g, a.toNat, none⟩ (.int .u32 va1) = w1 at *
 have H1d := Lib.hid H1.out.drew
 have f1a := H1d.out.cd
 have f1b := H1d.out.ca
 have f1c := H1d.out.free d.toNat
 clear H1
 go_still_tail 13, (by kernel_rfl)
 still_call (rright_any _ _ _ (bits_lo_u32 _ _ _) (bits_hi_u32 _ _ _) (by omega) (by omega))
 repeat still_step
 refine wpStill_nil ?_
 change wpList _ _ _ _ _ w1.drew
 generalize w1.drew = u1 at *
 generalize e1 : rotr (bits BinOp.xor IntKind.u32 vd0 va1) 16 = r1
 have E1 := Lib.hid e1
 clear e1
 have H2 := Lib.hid (H1d.out.sd (Ne.symm N.out.2.2.1) (Ne.symm N.out.2.2.2.2.1) (Ne.symm N.out.2.2.2.2.2) r1)
 go_wp2_with fail
 clear f1a f1b f1c H1d
 generalize u1.setCell ⟨g, d.toNat, none⟩ (.int .u32 r1) = w2 at *
 have H2d := Lib.hid H2.out.drew
 have f2a := H2d.out.cc
 have f2b := H2d.out.cd
 have f2c := H2d.out.free c.toNat
 clear H2
 go_still_tail 12, (by kernel_rfl)
 change wpList _ _ _ _ _ w2.drew
 generalize w2.drew = u2 at *
 generalize e2 : IntKind.u32.wrap (vc0 + r1) = vc1
 have E2 := Lib.hid e2
 clear e2
 have H3 := Lib.hid (H2d.out.sc (Ne.symm N.out.2.1) (Ne.symm N.out.2.2.2.1) N.out.2.2.2.2.2 vc1)
 go_wp2_with fail
 clear f2a f2b f2c H2d
 generalize u2.setCell ⟨g, c.toNat, none⟩ (.int .u32 vc1) = w3 at *
 have H3d := Lib.hid H3.out.drew
 have f3a := H3d.out.cb
 have f3b := H3d.out.cc
 have f3c := H3d.out.free b.toNat
 clear H3
 go_still_tail 13, (by kernel_rfl)
 still_call (rright_any _ _ _ (bits_lo_u32 _ _ _) (bits_hi_u32 _ _ _) (by omega) (by omega))
 repeat still_step
 refine wpStill_nil ?_
 change wpList _ _ _ _ _ w3.drew
 generalize w3.drew = u3 at *
 generalize e3 : rotr (bits BinOp.xor IntKind.u32 vb0 vc1) 12 = r2
 have E3 := Lib.hid e3
 clear e3
 have H4 := Lib.hid (H3d.out.sb (Ne.symm N.out.1) N.out.2.2.2.1 N.out.2.2.2.2.1 r2)
 go_wp2_with fail
 clear f3a f3b f3c H3d
 generalize u3.setCell ⟨g, b.toNat, none⟩ (.int .u32 r2) = w4 at *
 have H4d := Lib.hid H4.out.drew
 have f4a := H4d.out.ca
 have f4b := H4d.out.cb
 have f4c := H4d.out.free a.toNat
 clear H4
 go_still_tail 14, (by kernel_rfl)
 change wpList _ _ _ _ _ w4.drew
 generalize w4.drew = u4 at *
 generalize e4 : IntKind.u32.wrap (IntKind.u32.wrap (va1 + r2) + y) = va2
 have E4 := Lib.hid e4
 clear e4
 have H5 := Lib.hid (H4d.out.sa N.out.1 N.out.2.1 N.out.2.2.1 va2)
 go_wp2_with fail
 clear f4a f4b f4c H4d
 generalize u4.setCell ⟨g, a.toNat, none⟩ (.int .u32 va2) = w5 at *
 have H5d := Lib.hid H5.out.drew
 have f5a := H5d.out.cd
 have f5b := H5d.out.ca
 have f5c := H5d.out.free d.toNat
 clear H5
 go_still_tail 13, (by kernel_rfl)
 still_call (rright_any _ _ _ (bits_lo_u32 _ _ _) (bits_hi_u32 _ _ _) (by omega) (by omega))
 repeat still_step
 refine wpStill_nil ?_
 change wpList _ _ _ _ _ w5.drew
 generalize w5.drew = u5 at *
 generalize e5 : rotr (bits BinOp.xor IntKind.u32 r1 va2) 8 = r3
 have E5 := Lib.hid e5
 clear e5
 have H6 := Lib.hid (H5d.out.sd (Ne.symm N.out.2.2.1) (Ne.symm N.out.2.2.2.2.1) (Ne.symm N.out.2.2.2.2.2) r3)
 go_wp2_with fail
 clear f5a f5b f5c H5d
 generalize u5.setCell ⟨g, d.toNat, none⟩ (.int .u32 r3) = w6 at *
 have H6d := Lib.hid H6.out.drew
 have f6a := H6d.out.cc
 have f6b := H6d.out.cd
 have f6c := H6d.out.free c.toNat
 clear H6
 go_still_tail 12, (by kernel_rfl)
 change wpList _ _ _ _ _ w6.drew
 generalize w6.drew = u6 at *
 generalize e6 : IntKind.u32.wrap (vc1 + r3) = vc2
 have E6 := Lib.hid e6
 clear e6
 have H7 := Lib.hid (H6d.out.sc (Ne.symm N.out.2.1) (Ne.symm N.out.2.2.2.1) N.out.2.2.2.2.2 vc2)
 go_wp2_with fail
 clear f6a f6b f6c H6d
 generalize u6.setCell ⟨g, c.toNat, none⟩ (.int .u32 vc2) = w7 at *
 have H7d := Lib.hid H7.out.drew
 have f7a := H7d.out.cb
 have f7b := H7d.out.cc
 have f7c := H7d.out.free b.toNat
 clear H7
 go_still_tail 13, (by kernel_rfl)
 still_call (rright_any _ _ _ (bits_lo_u32 _ _ _) (bits_hi_u32 _ _ _) (by omega) (by omega))
 repeat still_step
 refine wpStill_nil ?_
 change wpList _ _ _ _ _ w7.drew
 generalize w7.drew = u7 at *
 generalize e7 : rotr (bits BinOp.xor IntKind.u32 r2 vc2) 7 = r4
 have E7 := Lib.hid e7
 clear e7
 have H8 := Lib.hid (H7d.out.sb (Ne.symm N.out.1) N.out.2.2.2.1 N.out.2.2.2.2.1 r4)
 go_wp2_with fail
 clear f7a f7b f7c H7d
 generalize u7.setCell ⟨g, b.toNat, none⟩ (.int .u32 r4) = w8 at *
 rw [mixF_steps E0.out.symm E1.out.symm E2.out.symm E3.out.symm E4.out.symm E5.out.symm E6.out.symm E7.out.symm]
 go_end0
 exact ⟨rfl, H8.out⟩
end Go.Proofs.YtjbjpkhibcnenaaGreatDoor
/- An index into a string. -/
namespace Go.Proofs.YtjbjpkhibcnenaaGreatDoor
open Go.RowKit
theorem index_str (s : ByteArray) (i : Int) (n : Nat) (hi : i = (n : Int)) (hn : n < s.size) (w : World) : (Instr.index 9 (.string s) (.int .i64 i)).run Tryz.prog w = .ok (.int .u8 (s[n].toNat : Int)) w := by
 subst hi
 have h0 : (0 : Int) ≤ (n : Int) := Int.natCast_nonneg _
 have h : s[n]? = some s[n] := by simp [hn]
 simp [Instr.index, asIntOf, run_underlying undS, h]
end Go.Proofs.YtjbjpkhibcnenaaGreatDoor
/- The reference's word, constants and order; the words of a block as the program has them. -/
namespace Go.Proofs.YtjbjpkhibcnenaaGreatDoor
set_option maxRecDepth 100000
set_option maxHeartbeats 4000000
open Go.RowKit
def byteAt (l : List UInt8) (j : Nat) : Nat := (l[j]?.getD 0).toNat
theorem byteAt_lt (l : List UInt8) (j : Nat) : byteAt l j < 256 := (l[j]?.getD 0).toNat_lt
/-- the bytes a+3, a+2, .. as a number, k of them -/
def topW (l : List UInt8) (a : Nat) : Nat → Nat
 | 0 => 0
 | k + 1 => topW l a k * 256 + byteAt l (a + (3 - k))
theorem topW_lt (l : List UInt8) (a : Nat) : ∀ k, topW l a k < 256 ^ k
 | 0 => by simp [topW]
 | k + 1 => by
  have h := topW_lt l a k
  have b := byteAt_lt l (a + (3 - k))
  rw [Nat.pow_succ]
  simp only [topW]
  omega
theorem topW_small (l : List UInt8) (a : Nat) (k : Nat) (hk : k < 4) : topW l a k < 16777216 :=
 Nat.lt_of_lt_of_le (topW_lt l a k) (Nat.le_trans (Nat.pow_le_pow_right (by decide) (show k ≤ 3 by omega)) (by decide))
theorem or_low (n b : Nat) (hn : n < 16777216) (hb : b < 256) : bits .or .u32 ((n : Int) * 256) (b : Int) = ((n * 256 + b : Nat) : Int) := by
 rw [show ((n : Int) * 256) = ((n * 256 : Nat) : Int) by omega]
 have e : n * 256 + b = n * 256 ||| b := by
  have := Nat.shiftLeft_add_eq_or_of_lt (a := n) (b := b) (i := 8) hb
  simpa [Nat.shiftLeft_eq] using this
 rw [e]
 exact u32_or_nat _ _ (by omega) (by omega)
theorem rword_any (s : ByteArray) (a : Int) (w : World) (hs : s.size ≤ 1000000) (ha0 : 0 ≤ a) (ha : a ≤ 2000000) :
 Calls Tryz.prog 157 #[.string s, .int .i64 a] w fun e w' => e = .returned (.int .u32 (topW s.data.toList a.toNat 4 : Nat)) ∧ w = w' := by
 obtain ⟨n, rfl⟩ := Int.eq_ofNat_of_zero_le ha0
 rw [Int.toNat_natCast]
 go_enter Tryz.func157, Tryz.ntmps157
 go_wp2_with fail
 go_loop [5, 6] (fun x i => ∃ k : Nat, k ≤ 4 ∧ i = .int .i64 (3 - (k : Int)) ∧ x = .int .u32 (topW s.data.toList n k : Nat)) (fun _ i => (Go.RowKit.intOf i + 1).toNat)
 case atStart => exact ⟨0, by omega, rfl, rfl⟩
 case round =>
  obtain ⟨k, hk, rfl, rfl⟩ := hrel
  by_cases hlt : k < 4
  ·
   have hN := topW_small s.data.toList n k hlt
   have HT : Hid (topW s.data.toList n (k + 1) = topW s.data.toList n k * 256 + byteAt s.data.toList (n + (3 - k))) := rfl
   generalize topW s.data.toList n k = q at *
   have x1 : IntKind.u32.wrap ((q : Int) * 256) = ((q * 256 : Nat) : Int) := by rw [IntWalk.u32_in _ (by omega)]; omega
   by_cases hin : n + (3 - k) < s.size
   ·
    have x2 : decide ((n : Int) + (3 - (k : Int)) < (s.size : Int)) = true := by simp; omega
    have i1 := fun w => index_str s ((n : Int) + (3 - (k : Int))) (n + (3 - k)) (by omega) hin w
    have HB : Hid (byteAt s.data.toList (n + (3 - k)) = s[n + (3 - k)].toNat) := by
     show _ = _
     unfold byteAt
     rw [List.getElem?_eq_getElem (by simpa using hin)]
     rfl
    have hb := (s[n + (3 - k)]).toNat_lt
    generalize s[n + (3 - k)].toNat = b at *
    have X3 := Lib.hid (or_low q b hN hb)
    go_wp2_with fail
    go_round
    case rel => exact ⟨k + 1, by omega, by go_num, by rw [HT.out, HB.out]; exact congrArg (Value.int .u32) X3.out⟩
    case measure => simp [Go.RowKit.intOf]; omega
   ·
    have x2 : decide ((n : Int) + (3 - (k : Int)) < (s.size : Int)) = false := by simp; omega
    have HB : Hid (byteAt s.data.toList (n + (3 - k)) = 0) := by
     show _ = _
     unfold byteAt
     rw [List.getElem?_eq_none (by simp; omega)]
     rfl
    go_wp2_with fail
    go_round
    case rel => exact ⟨k + 1, by omega, by go_num, by rw [HT.out, HB.out]; exact congrArg (Value.int .u32) (by omega)⟩
    case measure => simp [Go.RowKit.intOf]; omega
  ·
   obtain rfl : k = 4 := by omega
   go_wp2_with fail
   go_ret
   exact ⟨rfl, rfl⟩
theorem startV : u32v startL = #[.int .u32 1779033703, .int .u32 3144134277, .int .u32 1013904242, .int .u32 2773480762, .int .u32 1359893119, .int .u32 2600822924, .int .u32 528734635, .int .u32 1541459225] := by simp [u32v, startL]
theorem rconst_any (w : World) :
 Calls Tryz.prog 144 #[] w fun e w' => e = .returned (.slice (some ⟨w.heap.size, 0, none⟩) 8 8) ∧ w' = w.alloc (.cells (u32v startL) 148) := by
 rw [startV]
 go_enter Tryz.func144, Tryz.ntmps144
 go_wp2_with fail
 go_ret
 exact ⟨rfl, rfl⟩
/-- the order of a round as ints -/
def ordI (r : Nat) : Array Value := ((ordL[r]?.getD []).map (Value.int .i64)).toArray
theorem rorder_any (r : Nat) (hr : r < 10) (w : World) :
 Calls Tryz.prog 158 #[.int .i64 (r : Int)] w fun e w' => e = .returned (.slice (some ⟨w.heap.size, 0, none⟩) 16 16) ∧ w' = w.alloc (.cells (ordI r) 3) := by
 have h : r = 0 ∨ r = 1 ∨ r = 2 ∨ r = 3 ∨ r = 4 ∨ r = 5 ∨ r = 6 ∨ r = 7 ∨ r = 8 ∨ r = 9 := by omega
 rcases h with rfl | rfl | rfl | rfl | rfl | rfl | rfl | rfl | rfl | rfl
 all_goals
  go_enter Tryz.func158, Tryz.ntmps158
  go_wp2_with fail
  go_ret
  exact ⟨rfl, rfl⟩
end Go.Proofs.YtjbjpkhibcnenaaGreatDoor
/- What the reference's compress holds in memory, and the plain facts on its rows. -/
namespace Go.Proofs.YtjbjpkhibcnenaaGreatDoor
open Go.RowKit
/-- a block whose first n cells are the words vs -/
def Row32 (g n : Nat) (vs : List Int) (w : World) : Prop := ∃ cur : Array Value, w.heap[g]? = some (.cells cur 148 (0, 0)) ∧ ∀ j, j < n → cur[j]? = some (.int .u32 (vs[j]?.getD 0))
theorem Row32.lt {g n : Nat} {vs : List Int} {w : World} (h : Row32 g n vs w) : g < w.heap.size := by
 obtain ⟨cur, hh, _⟩ := h
 exact blk_lt hh
theorem Row32.cell {g n : Nat} {vs : List Int} {w : World} (h : Row32 g n vs w) (j : Nat) (hj : j < n) : w.cell? ⟨g, j, none⟩ = some (.int .u32 (vs[j]?.getD 0)) := by
 obtain ⟨cur, hh, hc⟩ := h
 rw [cell_of_row _ _ _ _ _ _ hh]
 exact hc j hj
theorem Row32.free {g n : Nat} {vs : List Int} {w : World} (h : Row32 g n vs w) (j : Nat) : w.frozen? ⟨g, j, none⟩ = false := by
 obtain ⟨cur, hh, hc⟩ := h
 exact frozen_of_row _ _ _ _ _ hh
theorem Row32.same {g n : Nat} {vs : List Int} {w w' : World} (h : Row32 g n vs w) (e : w'.heap[g]? = w.heap[g]?) : Row32 g n vs w' := by
 obtain ⟨cur, hh, hc⟩ := h
 exact ⟨cur, e.trans hh, hc⟩
theorem Row32.set {g n : Nat} {vs : List Int} {w : World} (h : Row32 g n vs w) (hl : vs.length = n) (i : Nat) (hi : i < n) (z : Int) : Row32 g n (vs.set i z) (w.setCell ⟨g, i, none⟩ (.int .u32 z)) := by
 obtain ⟨cur, hh, hc⟩ := h
 refine ⟨cur.setIfInBounds i (.int .u32 z), ?_, ?_⟩
 ·
  rw [setCell_eq_setRow _ _ _ _ _ _ _ hh]
  exact setRow_heap _ _ _ _ _ _ hh
 ·
  intro j hj
  have hs : i < cur.size := (Array.getElem?_eq_some_iff.1 (hc i hi)).1
  rw [Array.getElem?_setIfInBounds, List.getElem?_set]
  split
  ·
   rename_i e
   subst e
   rw [if_pos (show i < vs.length by omega)]
   rfl
  · exact hc j hj
def u32L (vs : List Int) : List Value := vs.map (Value.int .u32)
theorem u32L_get (vs : List Int) (j : Nat) (h : j < vs.length) : (u32L vs)[j]? = some (.int .u32 (vs[j]?.getD 0)) := by
 simp [u32L, h]
theorem u32L_one (vs : List Int) : ∀ u ∈ u32L vs, u.oneCell' = true := by
 intro u hu
 simp only [u32L, List.mem_map] at hu
 obtain ⟨b, _, rfl⟩ := hu
 rfl
theorem Row32.of_owns {w : World} {base n : Nat} {v : Value} {vs : List Int} (hn : 0 < n) (hl : vs.length = n) (h : w.ownsRow base 148 1 v n (u32L vs)) : ∃ g c, v = .slice (some ⟨g, 0, none⟩) n c ∧ base ≤ g ∧ Row32 g n vs w := by
 rcases h.2 with ⟨_, h0⟩ | ⟨g, cap, cur, rfl, hg, hh, hnc, _, hcs, htk⟩
 · omega
 ·
  refine ⟨g, cap, rfl, hg, cur, hh, fun j hj => ?_⟩
  have h1 : (cur.toList.take (n * 1))[j]? = (u32L vs)[j]? := by rw [htk]
  rw [List.getElem?_take, if_pos (by omega), u32L_get _ _ (by omega)] at h1
  simpa using h1
/-- compress's own: the words m of the block, the work vector v -/
structure QI (w0 : World) (gm gv : Nat) (m v : List Int) (w : World) : Prop where
 hm : Row32 gm 16 m w
 hv : Row32 gv 16 v w
 ne : gm ≠ gv
 lem : w0.heap.size ≤ gm
 lev : w0.heap.size ≤ gv
 below : Below w0.heap.size w0 w
theorem QI.drew {w0 w : World} {gm gv : Nat} {m v : List Int} (q : QI w0 gm gv m v w) : QI w0 gm gv m v w.drew := ⟨q.hm, q.hv, q.ne, q.lem, q.lev, q.below.drew⟩
theorem QI.later {w0 w w' : World} {gm gv : Nat} {m v : List Int} {B : Nat} (q : QI w0 gm gv m v w) (hb : Below B w w') (hm : gm < B) (hv : gv < B) : QI w0 gm gv m v w' :=
 ⟨q.hm.same (hb.block _ hm), q.hv.same (hb.block _ hv), q.ne, q.lem, q.lev, q.below.trans (hb.mono (by have := q.lev; omega))⟩
theorem QI.setV {w0 w : World} {gm gv : Nat} {m v : List Int} (q : QI w0 gm gv m v w) (hl : v.length = 16) (i : Nat) (hi : i < 16) (z : Int) : QI w0 gm gv m (v.set i z) (w.setCell ⟨gv, i, none⟩ (.int .u32 z)) :=
 ⟨q.hm.same (heap_setCell_other _ _ _ _ q.ne), q.hv.set hl i hi z, q.ne, q.lem, q.lev, q.below.setCell q.lev _⟩
theorem mixL_get (vs : List Int) (hl : vs.length = 16) (a b c d : Nat) (x y : Int) (ha : a < 16) (hb : b < 16) (hc : c < 16) (hd : d < 16) (hab : a ≠ b) (hac : a ≠ c) (had : a ≠ d) (hbc : b ≠ c) (hbd : b ≠ d) (hcd : c ≠ d) {A B C D : Int}
 (e : mixF (vs[a]?.getD 0) (vs[b]?.getD 0) (vs[c]?.getD 0) (vs[d]?.getD 0) x y = (A, B, C, D)) (j : Nat) :
 (mixL vs a b c d x y)[j]?.getD 0 = if j = a then A else if j = b then B else if j = c then C else if j = d then D else vs[j]?.getD 0 := by
 unfold mixL
 rw [e]
 simp only [List.getElem?_set, List.length_set]
 by_cases h1 : j = a
 · subst h1; simp [hl, ha, Ne.symm hab, Ne.symm hac, Ne.symm had]
 ·
  by_cases h2 : j = b
  · subst h2; simp [hl, hb, h1, Ne.symm hbc, Ne.symm hbd]
  ·
   by_cases h3 : j = c
   · subst h3; simp [hl, hc, h1, h2, Ne.symm hcd]
   ·
    by_cases h4 : j = d
    · subst h4; simp [hl, hd, h1, h2, h3]
    · simp [h1, h2, h3, h4, Ne.symm h1, Ne.symm h2, Ne.symm h3, Ne.symm h4]
theorem VR.row {w0 w : World} {g : Nat} {vs : List Int} {a b c d : Nat} {A B C D x y : Int} (h : VR w0 g vs a b c d A B C D w) (hl : vs.length = 16) (ha : a < 16) (hb : b < 16) (hc : c < 16) (hd : d < 16) (hab : a ≠ b) (hac : a ≠ c) (had : a ≠ d) (hbc : b ≠ c) (hbd : b ≠ d) (hcd : c ≠ d)
 (e : mixF (vs[a]?.getD 0) (vs[b]?.getD 0) (vs[c]?.getD 0) (vs[d]?.getD 0) x y = (A, B, C, D)) : Row32 g 16 (mixL vs a b c d x y) w := by
 obtain ⟨cur, hh, ga, gb, gc, gd, go⟩ := h.blk
 refine ⟨cur, hh, fun j hj => ?_⟩
 rw [mixL_get vs hl a b c d x y ha hb hc hd hab hac had hbc hbd hcd e]
 by_cases h1 : j = a
 · rw [if_pos h1, h1]; exact ga
 ·
  rw [if_neg h1]
  by_cases h2 : j = b
  · rw [if_pos h2, h2]; exact gb
  ·
   rw [if_neg h2]
   by_cases h3 : j = c
   · rw [if_pos h3, h3]; exact gc
   ·
    rw [if_neg h3]
    by_cases h4 : j = d
    · rw [if_pos h4, h4]; exact gd
    · rw [if_neg h4]; exact go j hj h1 h2 h3 h4
/-- a round's: the order lies in block zb -/
structure RI (w0 : World) (gm gv zb r : Nat) (m v : List Int) (w : World) : Prop where
 q : QI w0 gm gv m v w
 hz : w.heap[zb]? = some (.cells (ordI r) 3 (0, 0))
 zv : zb ≠ gv
theorem RI.drew {w0 w : World} {gm gv zb r : Nat} {m v : List Int} (q : RI w0 gm gv zb r m v w) : RI w0 gm gv zb r m v w.drew := ⟨q.q.drew, q.hz, q.zv⟩
theorem RI.zcell {w0 w : World} {gm gv zb r : Nat} {m v : List Int} (q : RI w0 gm gv zb r m v w) (hr : r < 10) (k : Nat) (hk : k < 16) : w.cell? ⟨zb, k, none⟩ = some (.int .i64 (ord r k)) := by
 rw [cell_of_row _ _ _ _ _ _ q.hz]
 obtain ⟨l, h1, h2⟩ := ordL_row r hr
 unfold ordI ord
 rw [h1]
 simp [h2, hk]
theorem RI.mix {w0 w w' : World} {gm gv zb r : Nat} {m v : List Int} (q : RI w0 gm gv zb r m v w) {a b c d : Nat} {A B C D x y : Int} (h : VR w gv v a b c d A B C D w') (hl : v.length = 16) (ha : a < 16) (hb : b < 16) (hc : c < 16) (hd : d < 16) (hab : a ≠ b) (hac : a ≠ c) (had : a ≠ d) (hbc : b ≠ c) (hbd : b ≠ d) (hcd : c ≠ d)
 (e : mixF (v[a]?.getD 0) (v[b]?.getD 0) (v[c]?.getD 0) (v[d]?.getD 0) x y = (A, B, C, D)) : RI w0 gm gv zb r m (mixL v a b c d x y) w' := by
 have hg := h.grown
 have hB : Below w0.heap.size w w' := ⟨hg.os, hg.tape, hg.output, hg.size, fun k hk => hg.block k (Nat.lt_of_lt_of_le hk q.q.below.size) (fun e => by have := q.q.lev; simp only [Option.some.injEq] at e; omega)⟩
 exact ⟨⟨q.q.hm.same (hg.block _ q.q.hm.lt (fun e => q.q.ne (by simpa using e))), h.row hl ha hb hc hd hab hac had hbc hbd hcd e, q.q.ne, q.q.lem, q.q.lev, q.q.below.trans hB⟩,
  (hg.block _ (blk_lt q.hz) (fun e => q.zv (by simpa using e))).trans q.hz, q.zv⟩
/-- the words of the block at a -/
def mAt (l : List UInt8) (a : Nat) : List Int := (List.range 16).map fun j => ((topW l (a + 4 * j) 4 : Nat) : Int)
theorem mAt_len (l : List UInt8) (a : Nat) : (mAt l a).length = 16 := by simp [mAt]
theorem mAt_32 (l : List UInt8) (a : Nat) : W32 (mAt l a) := by
 intro j
 unfold mAt
 rw [List.getElem?_map]
 cases h : (List.range 16)[j]? with
 | none => simp
 | some k =>
  have := topW_lt l (a + 4 * k) 4
  simp only [Option.map_some, Option.getD_some]
  omega
theorem mAt_take (l : List UInt8) (a k : Nat) (hk : k < 16) : (mAt l a).take (k + 1) = (mAt l a).take k ++ [((topW l (a + 4 * k) 4 : Nat) : Int)] := by
 rw [List.take_add_one]
 congr 1
 simp [mAt, hk]
theorem vInit_eq (h : List Int) (hl : h.length = 8) : vInit h 8 = h ++ startL := by
 match h, hl with
 | [a, b, c, d, e, f, g, i], _ => rfl
theorem hOut_get (h v : List Int) (hl : h.length = 8) : ∀ k, k ≤ 8 → ∀ j, j < 8 → (hOut h v k)[j]?.getD 0 = if j < k then bits BinOp.xor IntKind.u32 (h[j]?.getD 0) (bits BinOp.xor IntKind.u32 (v[j]?.getD 0) (v[j + 8]?.getD 0)) else h[j]?.getD 0
 | 0, _, j, _ => by simp [hOut]
 | k + 1, hk, j, hj => by
  have ih := hOut_get h v hl k (by omega)
  simp only [hOut]
  rw [List.getElem?_set, hOut_len, hl]
  by_cases e : k = j
  ·
   subst e
   rw [if_pos rfl, if_pos hj, if_pos (by omega), Option.getD_some, ih k hj, if_neg (by omega)]
  ·
   rw [if_neg e, ih j hj]
   by_cases h1 : j < k
   · rw [if_pos h1, if_pos (by omega)]
   · rw [if_neg h1, if_neg (by omega)]
theorem xor32_assoc (a b c : Int) (ha0 : 0 ≤ a) (ha : a ≤ 4294967295) (hb0 : 0 ≤ b) (hb : b ≤ 4294967295) (hc0 : 0 ≤ c) (hc : c ≤ 4294967295) : bits BinOp.xor IntKind.u32 (bits BinOp.xor IntKind.u32 a b) c = bits BinOp.xor IntKind.u32 a (bits BinOp.xor IntKind.u32 b c) := by
 obtain ⟨a, rfl⟩ := Int.eq_ofNat_of_zero_le ha0
 obtain ⟨b, rfl⟩ := Int.eq_ofNat_of_zero_le hb0
 obtain ⟨c, rfl⟩ := Int.eq_ofNat_of_zero_le hc0
 have h1 : a ^^^ b < 4294967296 := Nat.xor_lt_two_pow (n := 32) (by omega) (by omega)
 have h2 : b ^^^ c < 4294967296 := Nat.xor_lt_two_pow (n := 32) (by omega) (by omega)
 rw [u32_xor_nat a b (by omega) (by omega), u32_xor_nat b c (by omega) (by omega), u32_xor_nat _ c h1 (by omega), u32_xor_nat a _ (by omega) h2, Nat.xor_assoc]
theorem hOut_take (h v : List Int) (hl : h.length = 8) (hh : W32 h) (hv : W32 v) (k : Nat) (hk : k < 8) : (hOut h v 8).take (k + 1) = (hOut h v 8).take k ++ [bits BinOp.xor IntKind.u32 (bits BinOp.xor IntKind.u32 (h[k]?.getD 0) (v[k]?.getD 0)) (v[k + 8]?.getD 0)] := by
 have e := hOut_get h v hl 8 (Nat.le_refl _) k hk
 rw [if_pos hk] at e
 have hlen : k < (hOut h v 8).length := by rw [hOut_len]; omega
 rw [List.take_succ_eq_append_getElem hlen, xor32_assoc _ _ _ (hh k).1 (hh k).2 (hv k).1 (hv k).2 (hv (k + 8)).1 (hv (k + 8)).2, ← e, List.getElem?_eq_getElem hlen]
 rfl
theorem infoU : (Tryz.prog.info? 148).map (fun i => (i.zero, i.size, i.bytes)) = some (some (.int .u32 0), 1, 4) := by kernel_rfl
theorem undUs : Tryz.prog.underlying 167 = some (.slice 148) := by kernel_rfl
end Go.Proofs.YtjbjpkhibcnenaaGreatDoor
