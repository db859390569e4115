/- Texts merged: WRefA Reg RefB SIdx RefD -/
import Derived.Deep.AppendSrc
import Derived.Test.YtjbjpkhibcnenaaGreatDoorWList
import Derived.Deep.RegionHeldLaw
import Derived.Test.YtjbjpkhibcnenaaGreatDoorSum
import Derived.StillTailTactics
import Derived.Test.YtjbjpkhibcnenaaGreatDoorWords
/- bourneref02: digits, Int, Num, Text. -/
namespace Go.Proofs.YtjbjpkhibcnenaaGreatDoor
open Go.RowKit
set_option maxRecDepth 100000 in
set_option maxHeartbeats 2000000 in
theorem rtext_any (s : ByteArray) (w : World) (hs : s.size ≤ 1000000) :
    Calls Tryz.prog 91 #[.string s] w fun e w' => e = .returned (.string ⟨(textL s.data.toList).toArray⟩) ∧ Below w.heap.size w w' := by
  obtain ⟨i0, hi, hz0, hz1, hz2⟩ := info_parts infoB
  have HLn : Hid (∀ k, (escTs (s.data.toList.take k)).length ≤ 2000000) := by
    refine Lib.hid fun k => ?_
    have h1 := (escTs_len (s.data.toList.take k)).2
    have h2 := List.length_take_le' k s.data.toList
    have h3 : s.data.toList.length = s.size := by simp
    omega
  go_enter Tryz.func91, Tryz.ntmps91
  go_wp2_with fail
  go_loopw [3, 4] (fun v iv wr => ∃ k : Nat, k ≤ s.size ∧ iv = .int .i64 k ∧ wr.ownsRow w.heap.size 5 1 v (escTs (s.data.toList.take k)).length (bytesV (escTs (s.data.toList.take k))) ∧ Below w.heap.size w wr) (fun _ iv _ => s.size - (intOf iv).toNat)
  case atStart => exact ⟨0, by omega, rfl, World.ownsRow_nil _ _ _ _, Below.refl _ _⟩
  case round =>
    obtain ⟨k, hk, rfl, hown, hb⟩ := hrel
    have HO := Lib.hid hown
    have HB := Lib.hid hb
    have hsz := hb.size
    clear hown hb
    by_cases hlt : k < s.size
    · have HT : Hid (escTs (s.data.toList.take (k + 1)) = escTs (s.data.toList.take k) ++ escT s[k]) := Lib.hid (by
        rw [List.take_succ_eq_append_getElem (by simpa using hlt), escTs_append]
        simp [escTs]
        rfl)
      have hx := s[k].toNat_lt
      have hl2 := HLn.out k
      by_cases hz : s[k] = 0
      · have hzn : s[k].toNat = 0 := by rw [hz]; rfl
        have t0 : ((s[k].toNat : Int) == 0) = true := beq_iff_eq.2 (by omega)
        have HE : Hid ((bytesV (escTs (s.data.toList.take k)) ++ [Value.int .u8 (s[k].toNat : Int)]) ++ [Value.int .u8 255] = bytesV (escTs (s.data.toList.take (k + 1))) ∧ ((escTs (s.data.toList.take k)).length + 1) + 1 = (escTs (s.data.toList.take (k + 1))).length) := Lib.hid (by
          rw [HT.out, hz, bytesV_append]
          exact ⟨by simp [escT, bytesV], by simp [escT]⟩)
        clear hz hzn
        go_wp2_with (at_builtin; refine Hid.out ?_)
        refine Lib.hid ?_
        refine wpList_append_own _ rfl _ _ 113 rfl w.heap.size 5 i0 (.int .u8 0) 1 1 undBs hi hz0 hz1 hz2 rfl (by decide) _ _ _ rfl (HO.out.alloc _) ⟨wr.heap.size, 0, none⟩ 1 1 [.int .u8 (s[k].toNat : Int)] rfl rfl (cells_new _ _ _) (by intro u hu; simp at hu; subst hu; rfl) (by unfold maxLen; omega) (by omega) (by simp; omega) ?_
        intro v' w3 hown' hgrow _
        have HO2 := Lib.hid hown'
        have HB2 : Hid (Below w.heap.size w w3) := Lib.hid ((HB.out.alloc hsz _).grown hgrow (by simp; omega) (fun k hk => HO.out.block_ge hk))
        have hsz2 := HB2.out.size
        clear hown' hgrow
        go_wp2_with (at_builtin; refine Hid.out ?_)
        refine Lib.hid ?_
        refine wpList_append_own _ rfl _ _ 113 rfl w.heap.size 5 i0 (.int .u8 0) 1 1 undBs hi hz0 hz1 hz2 rfl (by decide) _ _ _ rfl (HO2.out.alloc _) ⟨w3.heap.size, 0, none⟩ 1 1 [.int .u8 255] rfl rfl (cells_new _ _ _) (by intro u hu; simp at hu; subst hu; rfl) (by unfold maxLen; omega) (by omega) (by simp; omega) ?_
        intro v2 w4 hown' hgrow _
        have HO3 : Hid (w4.ownsRow w.heap.size 5 1 v2 (escTs (s.data.toList.take (k + 1))).length (bytesV (escTs (s.data.toList.take (k + 1))))) := Lib.hid (by
          rw [← HE.out.1, ← HE.out.2]
          exact hown')
        have HB3 : Hid (Below w.heap.size w w4) := Lib.hid ((HB2.out.alloc hsz2 _).grown hgrow (by simp; omega) (fun k hk => HO2.out.block_ge hk))
        clear hown' hgrow
        go_wp2_with fail
        go_roundw
        case rel => exact ⟨k + 1, by omega, by go_num, HO3.out, HB3.out⟩
        case measure => simp [intOf]; omega
      · have hzn : ¬ s[k].toNat = 0 := fun e => hz (UInt8.toNat_inj.1 (by rw [e]; rfl))
        have t0 : ((s[k].toNat : Int) == 0) = false := beq_eq_false_iff_ne.2 (by omega)
        have HE : Hid (bytesV (escTs (s.data.toList.take k)) ++ [Value.int .u8 (s[k].toNat : Int)] = bytesV (escTs (s.data.toList.take (k + 1))) ∧ (escTs (s.data.toList.take k)).length + 1 = (escTs (s.data.toList.take (k + 1))).length) := Lib.hid (by
          rw [HT.out, bytesV_append, escT, if_neg hz]
          exact ⟨by simp [bytesV], by simp⟩)
        clear hz hzn
        go_wp2_with (at_builtin; refine Hid.out ?_)
        refine Lib.hid ?_
        refine wpList_append_own _ rfl _ _ 113 rfl w.heap.size 5 i0 (.int .u8 0) 1 1 undBs hi hz0 hz1 hz2 rfl (by decide) _ _ _ rfl (HO.out.alloc _) ⟨wr.heap.size, 0, none⟩ 1 1 [.int .u8 (s[k].toNat : Int)] rfl rfl (cells_new _ _ _) (by intro u hu; simp at hu; subst hu; rfl) (by unfold maxLen; omega) (by omega) (by simp; omega) ?_
        intro v' w3 hown' hgrow _
        have HO3 : Hid (w3.ownsRow w.heap.size 5 1 v' (escTs (s.data.toList.take (k + 1))).length (bytesV (escTs (s.data.toList.take (k + 1))))) := Lib.hid (by
          rw [← HE.out.1, ← HE.out.2]
          exact hown')
        have HB3 : Hid (Below w.heap.size w w3) := Lib.hid ((HB.out.alloc hsz _).grown hgrow (by simp; omega) (fun k hk => HO.out.block_ge hk))
        clear hown' hgrow
        go_wp2_with fail
        go_roundw
        case rel => exact ⟨k + 1, by omega, by go_num, HO3.out, HB3.out⟩
        case measure => simp [intOf]; omega
    · obtain rfl : k = s.size := by omega
      have hl2 := HLn.out s.size
      have htk : s.data.toList.take s.size = s.data.toList := List.take_of_length_le (by simp)
      rw [htk] at HO hl2
      have HE : Hid (bytesV (escTs s.data.toList) ++ [Value.int .u8 0, Value.int .u8 1] = bytesV (textL s.data.toList)) := Lib.hid (by
        unfold textL
        rw [bytesV_append]
        rfl)
      clear hlt hk htk
      go_wp2_with (at_builtin; refine Hid.out ?_)
      refine Lib.hid ?_
      refine wpList_append_own _ rfl _ _ 113 rfl w.heap.size 5 i0 (.int .u8 0) 1 1 undBs hi hz0 hz1 hz2 rfl (by decide) _ _ _ rfl (HO.out.alloc _) ⟨wr.heap.size, 0, none⟩ 2 2 [.int .u8 0, .int .u8 1] rfl rfl (cells_new _ _ _) (by intro u hu; simp at hu; rcases hu with rfl | rfl <;> rfl) (by unfold maxLen; omega) (by omega) (by simp; omega) ?_
      intro v' w3 hown' hgrow _
      have HO3 : Hid (w3.ownsRow w.heap.size 5 1 v' ((escTs s.data.toList).length + 2) (bytesV (textL s.data.toList))) := Lib.hid (by
        rw [← HE.out]
        exact hown')
      have HB3 : Hid (Below w.heap.size w w3) := Lib.hid ((HB.out.alloc hsz _).grown hgrow (by simp; omega) (fun k hk => HO.out.block_ge hk))
      clear hown' hgrow
      go_wp2_with (refine wpList_string_own rfl 113 9 5 _ rfl undBs undB undS _ rfl w.heap.size _ (textL s.data.toList) HO3.out ?_)
      go_wp2_with fail
      go_ret
      exact ⟨rfl, HB3.out⟩
end Go.Proofs.YtjbjpkhibcnenaaGreatDoor
/- append to a slice of the call's own, as one step of a region that draws its order. -/
namespace Go.Proofs.YtjbjpkhibcnenaaGreatDoor
open Go.RowKit
theorem step_append_own {P : Program} {ops : Array Oper} {o : Oper} {a : Act} {w : World} {K : Act → World → Prop} {Q : Exit → Act → World → Prop} {E : Prop}
    (hg : o.guard = none) (s x : Operand) (t : TypeId)
    (ho : o.op = .call { callee := .builtin .append, args := #[s, x], argTypes := #[t, t] })
    (base : Nat) (e : TypeId) (i : TypeInfo) (z : Value) (size bytes : Nat) (ht : P.underlying t = some (.slice e)) (hi : P.info? e = some i) (hz : i.zero = some z)
    (hsize : i.size = size) (hby : i.bytes = bytes) (hzs : z.cells.size = size) (hsz : 0 < size)
    (v : Value) (n : Nat) (xs : List Value) (hs : a.eval s = v) (hown : w.ownsRow base e size v n xs)
    (ad : Addr) (m c : Nat) (news : List Value) (hx : a.eval x = .slice (some ad) m c) (hl : news.length = m * size) (hnews : ∀ j u, news[j]? = some u → w.cell? (ad.add j) = some u) (h1 : ∀ u ∈ news, u.oneCell' = true)
    (h63 : n + m ≤ maxLen) (hbytes : (n + m) * bytes ≤ 140737488355328) (hbase : base ≤ w.heap.size)
    (h : ∀ v' w', w'.ownsRow base e size v' (n + m) (xs ++ news) → w.grownBy w' v.ownBlock → (v' = .slice none 0 0 ↔ v = .slice none 0 0 ∧ m = 0) → K (a.put o.dst v') w') :
    if Region.wanted o (yielded ops a.tmps) = true then Oper.wp P o a w K Q else E := by
  have hw : Region.wanted o (yielded ops a.tmps) = true := by simp [Region.wanted, hg]
  rw [if_pos hw]
  exact wp_append_own _ s x t ho base e i z size bytes ht hi hz hsize hby hzs hsz v n xs hs hown ad m c news hx hl hnews h1 h63 hbytes hbase h
end Go.Proofs.YtjbjpkhibcnenaaGreatDoor
/- The reference's right, g and word. -/
namespace Go.Proofs.YtjbjpkhibcnenaaGreatDoor
open Go.RowKit
theorem rright_any (x n : Int) (w : World) (_h0 : 0 ≤ x) (_h1 : x ≤ 4294967295) (h2 : 1 ≤ n) (h3 : n ≤ 31) :
    Calls Tryz.prog 169 #[.int .u32 x, .int .u32 n] w fun e w' => e = .returned (.int .u32 (rotr x n)) ∧ w' = w := by
  go_enter Tryz.func169, Tryz.ntmps169
  go_wp2_with fail
  go_ret
  exact ⟨rfl, rfl⟩
/-- a block whose first sixteen cells are words: those at a, b, c, d are given, the others are those of vs -/
structure VR (w0 : World) (g : Nat) (vs : List Int) (a b c d : Nat) (va vb vc vd : Int) (w : World) : Prop where
  blk : ∃ cur : Array Value, w.heap[g]? = some (.cells cur 148 (0, 0)) ∧ cur[a]? = some (.int .u32 va) ∧ cur[b]? = some (.int .u32 vb) ∧ cur[c]? = some (.int .u32 vc) ∧ cur[d]? = some (.int .u32 vd) ∧
    ∀ j, j < 16 → j ≠ a → j ≠ b → j ≠ c → j ≠ d → cur[j]? = some (.int .u32 (vs[j]?.getD 0))
  grown : w0.grownBy w (some g)
  size : w.heap.size = w0.heap.size
theorem VR.drew {w0 w : World} {g : Nat} {vs : List Int} {a b c d : Nat} {va vb vc vd : Int} (h : VR w0 g vs a b c d va vb vc vd w) : VR w0 g vs a b c d va vb vc vd w.drew := ⟨h.blk, ⟨h.grown.os, h.grown.tape, h.grown.output, h.grown.size, h.grown.block⟩, h.size⟩
theorem VR.free {w0 w : World} {g : Nat} {vs : List Int} {a b c d : Nat} {va vb vc vd : Int} (h : VR w0 g vs a b c d va vb vc vd w) (j : Nat) : w.frozen? ⟨g, j, none⟩ = false := by
  obtain ⟨cur, hh, _⟩ := h.blk
  exact frozen_of_row _ _ _ _ _ hh
theorem VR.ca {w0 w : World} {g : Nat} {vs : List Int} {a b c d : Nat} {va vb vc vd : Int} (h : VR w0 g vs a b c d va vb vc vd w) : w.cell? ⟨g, a, none⟩ = some (.int .u32 va) := by
  obtain ⟨cur, hh, ha, hb, hc, hd, _⟩ := h.blk
  rw [cell_of_row _ _ _ _ _ _ hh]
  exact ha
theorem VR.cb {w0 w : World} {g : Nat} {vs : List Int} {a b c d : Nat} {va vb vc vd : Int} (h : VR w0 g vs a b c d va vb vc vd w) : w.cell? ⟨g, b, none⟩ = some (.int .u32 vb) := by
  obtain ⟨cur, hh, ha, hb, hc, hd, _⟩ := h.blk
  rw [cell_of_row _ _ _ _ _ _ hh]
  exact hb
theorem VR.cc {w0 w : World} {g : Nat} {vs : List Int} {a b c d : Nat} {va vb vc vd : Int} (h : VR w0 g vs a b c d va vb vc vd w) : w.cell? ⟨g, c, none⟩ = some (.int .u32 vc) := by
  obtain ⟨cur, hh, ha, hb, hc, hd, _⟩ := h.blk
  rw [cell_of_row _ _ _ _ _ _ hh]
  exact hc
theorem VR.cd {w0 w : World} {g : Nat} {vs : List Int} {a b c d : Nat} {va vb vc vd : Int} (h : VR w0 g vs a b c d va vb vc vd w) : w.cell? ⟨g, d, none⟩ = some (.int .u32 vd) := by
  obtain ⟨cur, hh, ha, hb, hc, hd, _⟩ := h.blk
  rw [cell_of_row _ _ _ _ _ _ hh]
  exact hd
theorem grown_setCell {w0 w : World} {g : Nat} (h : w0.grownBy w (some g)) (j : Nat) (v : Value) : w0.grownBy (w.setCell ⟨g, j, none⟩ v) (some g) :=
  have hB : Below g w (w.setCell ⟨g, j, none⟩ v) := (Below.refl g w).setCell (Nat.le_refl _) v
  ⟨hB.os.trans h.os, hB.tape.trans h.tape, hB.output.trans h.output, by simpa using h.size, fun k hk he => by
    rw [heap_setCell_other _ _ _ _ (fun e => he (by rw [e]))]
    exact h.block k hk he⟩
theorem mixF_steps {va vb vc vd x y va1 r1 vc1 r2 va2 r3 vc2 r4 : Int} (h1 : va1 = IntKind.u32.wrap (IntKind.u32.wrap (va + vb) + x)) (h2 : r1 = rotr (bits BinOp.xor IntKind.u32 vd va1) 16) (h3 : vc1 = IntKind.u32.wrap (vc + r1))
    (h4 : r2 = rotr (bits BinOp.xor IntKind.u32 vb vc1) 12) (h5 : va2 = IntKind.u32.wrap (IntKind.u32.wrap (va1 + r2) + y)) (h6 : r3 = rotr (bits BinOp.xor IntKind.u32 r1 va2) 8) (h7 : vc2 = IntKind.u32.wrap (vc1 + r3))
    (h8 : r4 = rotr (bits BinOp.xor IntKind.u32 r2 vc2) 7) : mixF va vb vc vd x y = (va2, r4, vc2, r3) := by
  simp only [IntKind.wrap_u32] at h1 h3 h5 h7
  have e1 : va1 = (va + (vb + x)) % 4294967296 := by omega
  have e5 : va2 = (va + (vb + x) + (r2 + y)) % 4294967296 := by omega
  have e7 : vc2 = (vc + r1 + r3) % 4294967296 := by omega
  rw [e1] at h2
  rw [h3] at h4
  rw [e5] at h6
  rw [e7] at h8
  unfold mixF
  dsimp only
  rw [← h2, ← h4, ← h6, ← h8, e5, e7]
theorem VR.sa {w0 w : World} {g : Nat} {vs : List Int} {a b c d : Nat} {va vb vc vd : Int} (h : VR w0 g vs a b c d va vb vc vd w) (hb : a ≠ b) (hc : a ≠ c) (hd : a ≠ d) (z : Int) : VR w0 g vs a b c d z vb vc vd (w.setCell ⟨g, a, none⟩ (.int .u32 z)) := by
  obtain ⟨cur, hh, ga, gb, gc, gd, go⟩ := h.blk
  have hs : a < cur.size := (Array.getElem?_eq_some_iff.1 ga).1
  refine ⟨⟨cur.setIfInBounds a (.int .u32 z), ?_, ?_, ?_, ?_, ?_, ?_⟩, grown_setCell h.grown _ _, by simpa using h.size⟩
  · rw [setCell_eq_setRow _ _ _ _ _ _ _ hh]
    exact setRow_heap _ _ _ _ _ _ hh
  · rw [Array.getElem?_setIfInBounds, if_pos rfl, if_pos hs]
  · rw [Array.getElem?_setIfInBounds, if_neg hb]; exact gb
  · rw [Array.getElem?_setIfInBounds, if_neg hc]; exact gc
  · rw [Array.getElem?_setIfInBounds, if_neg hd]; exact gd
  · intro j hj na nb nc nd
    rw [Array.getElem?_setIfInBounds, if_neg (Ne.symm na)]
    exact go j hj na nb nc nd
theorem VR.sb {w0 w : World} {g : Nat} {vs : List Int} {a b c d : Nat} {va vb vc vd : Int} (h : VR w0 g vs a b c d va vb vc vd w) (ha : b ≠ a) (hc : b ≠ c) (hd : b ≠ d) (z : Int) : VR w0 g vs a b c d va z vc vd (w.setCell ⟨g, b, none⟩ (.int .u32 z)) := by
  obtain ⟨cur, hh, ga, gb, gc, gd, go⟩ := h.blk
  have hs : b < cur.size := (Array.getElem?_eq_some_iff.1 gb).1
  refine ⟨⟨cur.setIfInBounds b (.int .u32 z), ?_, ?_, ?_, ?_, ?_, ?_⟩, grown_setCell h.grown _ _, by simpa using h.size⟩
  · rw [setCell_eq_setRow _ _ _ _ _ _ _ hh]
    exact setRow_heap _ _ _ _ _ _ hh
  · rw [Array.getElem?_setIfInBounds, if_neg ha]; exact ga
  · rw [Array.getElem?_setIfInBounds, if_pos rfl, if_pos hs]
  · rw [Array.getElem?_setIfInBounds, if_neg hc]; exact gc
  · rw [Array.getElem?_setIfInBounds, if_neg hd]; exact gd
  · intro j hj na nb nc nd
    rw [Array.getElem?_setIfInBounds, if_neg (Ne.symm nb)]
    exact go j hj na nb nc nd
theorem VR.sc {w0 w : World} {g : Nat} {vs : List Int} {a b c d : Nat} {va vb vc vd : Int} (h : VR w0 g vs a b c d va vb vc vd w) (ha : c ≠ a) (hb : c ≠ b) (hd : c ≠ d) (z : Int) : VR w0 g vs a b c d va vb z vd (w.setCell ⟨g, c, none⟩ (.int .u32 z)) := by
  obtain ⟨cur, hh, ga, gb, gc, gd, go⟩ := h.blk
  have hs : c < cur.size := (Array.getElem?_eq_some_iff.1 gc).1
  refine ⟨⟨cur.setIfInBounds c (.int .u32 z), ?_, ?_, ?_, ?_, ?_, ?_⟩, grown_setCell h.grown _ _, by simpa using h.size⟩
  · rw [setCell_eq_setRow _ _ _ _ _ _ _ hh]
    exact setRow_heap _ _ _ _ _ _ hh
  · rw [Array.getElem?_setIfInBounds, if_neg ha]; exact ga
  · rw [Array.getElem?_setIfInBounds, if_neg hb]; exact gb
  · rw [Array.getElem?_setIfInBounds, if_pos rfl, if_pos hs]
  · rw [Array.getElem?_setIfInBounds, if_neg hd]; exact gd
  · intro j hj na nb nc nd
    rw [Array.getElem?_setIfInBounds, if_neg (Ne.symm nc)]
    exact go j hj na nb nc nd
theorem VR.sd {w0 w : World} {g : Nat} {vs : List Int} {a b c d : Nat} {va vb vc vd : Int} (h : VR w0 g vs a b c d va vb vc vd w) (ha : d ≠ a) (hb : d ≠ b) (hc : d ≠ c) (z : Int) : VR w0 g vs a b c d va vb vc z (w.setCell ⟨g, d, none⟩ (.int .u32 z)) := by
  obtain ⟨cur, hh, ga, gb, gc, gd, go⟩ := h.blk
  have hs : d < cur.size := (Array.getElem?_eq_some_iff.1 gd).1
  refine ⟨⟨cur.setIfInBounds d (.int .u32 z), ?_, ?_, ?_, ?_, ?_, ?_⟩, grown_setCell h.grown _ _, by simpa using h.size⟩
  · rw [setCell_eq_setRow _ _ _ _ _ _ _ hh]
    exact setRow_heap _ _ _ _ _ _ hh
  · rw [Array.getElem?_setIfInBounds, if_neg ha]; exact ga
  · rw [Array.getElem?_setIfInBounds, if_neg hb]; exact gb
  · rw [Array.getElem?_setIfInBounds, if_neg hc]; exact gc
  · rw [Array.getElem?_setIfInBounds, if_pos rfl, if_pos hs]
  · intro j hj na nb nc nd
    rw [Array.getElem?_setIfInBounds, if_neg (Ne.symm nd)]
    exact go j hj na nb nc nd
set_option maxRecDepth 100000 in
set_option maxHeartbeats 2000000 in
theorem rg_any (vs : List Int) (g cap : Nat) (a b c d x y : Int) (w : World) (hv : ∃ cur : Array Value, w.heap[g]? = some (.cells cur 148 (0, 0)) ∧ ∀ j, j < 16 → cur[j]? = some (.int .u32 (vs[j]?.getD 0))) (hb : W32 vs)
    (ha0 : 0 ≤ a) (ha : a < 16) (hb0 : 0 ≤ b) (hb1 : b < 16) (hc0 : 0 ≤ c) (hc : c < 16) (hd0 : 0 ≤ d) (hd : d < 16)
    (hab : a.toNat ≠ b.toNat) (hac : a.toNat ≠ c.toNat) (had : a.toNat ≠ d.toNat) (hbc : b.toNat ≠ c.toNat) (hbd : b.toNat ≠ d.toNat) (hcd : c.toNat ≠ d.toNat)
    (_hx0 : 0 ≤ x) (_hx1 : x ≤ 4294967295) (_hy0 : 0 ≤ y) (_hy1 : y ≤ 4294967295) :
    Calls Tryz.prog 159 #[.slice (some ⟨g, 0, none⟩) 16 cap, .int .i64 a, .int .i64 b, .int .i64 c, .int .i64 d, .int .u32 x, .int .u32 y] w fun e w' =>
      e = .returned (.tuple #[]) ∧ VR w g vs a.toNat b.toNat c.toNat d.toNat (mixF (vs[a.toNat]?.getD 0) (vs[b.toNat]?.getD 0) (vs[c.toNat]?.getD 0) (vs[d.toNat]?.getD 0) x y).1 (mixF (vs[a.toNat]?.getD 0) (vs[b.toNat]?.getD 0) (vs[c.toNat]?.getD 0) (vs[d.toNat]?.getD 0) x y).2.1 (mixF (vs[a.toNat]?.getD 0) (vs[b.toNat]?.getD 0) (vs[c.toNat]?.getD 0) (vs[d.toNat]?.getD 0) x y).2.2.1 (mixF (vs[a.toNat]?.getD 0) (vs[b.toNat]?.getD 0) (vs[c.toNat]?.getD 0) (vs[d.toNat]?.getD 0) x y).2.2.2 w' := by
  have H0 : Hid (VR w g vs a.toNat b.toNat c.toNat d.toNat (vs[a.toNat]?.getD 0) (vs[b.toNat]?.getD 0) (vs[c.toNat]?.getD 0) (vs[d.toNat]?.getD 0) w) := by
    obtain ⟨cur, hh, hcur⟩ := hv
    exact ⟨⟨cur, hh, hcur _ (by omega), hcur _ (by omega), hcur _ (by omega), hcur _ (by omega), fun j hj _ _ _ _ => hcur j hj⟩, ⟨rfl, rfl, rfl, Nat.le_refl _, fun _ _ _ => rfl⟩, rfl⟩
  clear hv
  obtain ⟨p1, p2⟩ := hb a.toNat
  obtain ⟨p3, p4⟩ := hb b.toNat
  obtain ⟨p5, p6⟩ := hb c.toNat
  obtain ⟨p7, p8⟩ := hb d.toNat
  have N : Hid (a.toNat ≠ b.toNat ∧ a.toNat ≠ c.toNat ∧ a.toNat ≠ d.toNat ∧ b.toNat ≠ c.toNat ∧ b.toNat ≠ d.toNat ∧ c.toNat ≠ d.toNat) := ⟨hab, hac, had, hbc, hbd, hcd⟩
  clear hab hac had hbc hbd hcd hb
  generalize vs[a.toNat]?.getD 0 = va0 at *
  generalize vs[b.toNat]?.getD 0 = vb0 at *
  generalize vs[c.toNat]?.getD 0 = vc0 at *
  generalize vs[d.toNat]?.getD 0 = vd0 at *
  go_enter Tryz.func159, Tryz.ntmps159
  go_wp2_with fail
  have H0d := Lib.hid H0.out.drew
  have f0a := H0d.out.ca
  have f0b := H0d.out.cb
  have f0c := H0d.out.free a.toNat
  clear H0
  go_still_tail 14, (by kernel_rfl)
  change wpList _ _ _ _ _ w.drew
  generalize w.drew = u0 at *
  generalize e0 : IntKind.u32.wrap (IntKind.u32.wrap (va0 + vb0) + x) = va1
  have E0 := Lib.hid e0
  clear e0
  have H1 := Lib.hid (H0d.out.sa N.out.1 N.out.2.1 N.out.2.2.1 va1)
  go_wp2_with fail
  clear f0a f0b f0c H0d
  generalize u0.setCell ⟨g, a.toNat, none⟩ (.int .u32 va1) = w1 at *
  have H1d := Lib.hid H1.out.drew
  have f1a := H1d.out.cd
  have f1b := H1d.out.ca
  have f1c := H1d.out.free d.toNat
  clear H1
  go_still_tail 13, (by kernel_rfl)
  still_call (rright_any _ _ _ (bits_lo_u32 _ _ _) (bits_hi_u32 _ _ _) (by omega) (by omega))
  repeat still_step
  refine wpStill_nil ?_
  change wpList _ _ _ _ _ w1.drew
  generalize w1.drew = u1 at *
  generalize e1 : rotr (bits BinOp.xor IntKind.u32 vd0 va1) 16 = r1
  have E1 := Lib.hid e1
  clear e1
  have H2 := Lib.hid (H1d.out.sd (Ne.symm N.out.2.2.1) (Ne.symm N.out.2.2.2.2.1) (Ne.symm N.out.2.2.2.2.2) r1)
  go_wp2_with fail
  clear f1a f1b f1c H1d
  generalize u1.setCell ⟨g, d.toNat, none⟩ (.int .u32 r1) = w2 at *
  have H2d := Lib.hid H2.out.drew
  have f2a := H2d.out.cc
  have f2b := H2d.out.cd
  have f2c := H2d.out.free c.toNat
  clear H2
  go_still_tail 12, (by kernel_rfl)
  change wpList _ _ _ _ _ w2.drew
  generalize w2.drew = u2 at *
  generalize e2 : IntKind.u32.wrap (vc0 + r1) = vc1
  have E2 := Lib.hid e2
  clear e2
  have H3 := Lib.hid (H2d.out.sc (Ne.symm N.out.2.1) (Ne.symm N.out.2.2.2.1) N.out.2.2.2.2.2 vc1)
  go_wp2_with fail
  clear f2a f2b f2c H2d
  generalize u2.setCell ⟨g, c.toNat, none⟩ (.int .u32 vc1) = w3 at *
  have H3d := Lib.hid H3.out.drew
  have f3a := H3d.out.cb
  have f3b := H3d.out.cc
  have f3c := H3d.out.free b.toNat
  clear H3
  go_still_tail 13, (by kernel_rfl)
  still_call (rright_any _ _ _ (bits_lo_u32 _ _ _) (bits_hi_u32 _ _ _) (by omega) (by omega))
  repeat still_step
  refine wpStill_nil ?_
  change wpList _ _ _ _ _ w3.drew
  generalize w3.drew = u3 at *
  generalize e3 : rotr (bits BinOp.xor IntKind.u32 vb0 vc1) 12 = r2
  have E3 := Lib.hid e3
  clear e3
  have H4 := Lib.hid (H3d.out.sb (Ne.symm N.out.1) N.out.2.2.2.1 N.out.2.2.2.2.1 r2)
  go_wp2_with fail
  clear f3a f3b f3c H3d
  generalize u3.setCell ⟨g, b.toNat, none⟩ (.int .u32 r2) = w4 at *
  have H4d := Lib.hid H4.out.drew
  have f4a := H4d.out.ca
  have f4b := H4d.out.cb
  have f4c := H4d.out.free a.toNat
  clear H4
  go_still_tail 14, (by kernel_rfl)
  change wpList _ _ _ _ _ w4.drew
  generalize w4.drew = u4 at *
  generalize e4 : IntKind.u32.wrap (IntKind.u32.wrap (va1 + r2) + y) = va2
  have E4 := Lib.hid e4
  clear e4
  have H5 := Lib.hid (H4d.out.sa N.out.1 N.out.2.1 N.out.2.2.1 va2)
  go_wp2_with fail
  clear f4a f4b f4c H4d
  generalize u4.setCell ⟨g, a.toNat, none⟩ (.int .u32 va2) = w5 at *
  have H5d := Lib.hid H5.out.drew
  have f5a := H5d.out.cd
  have f5b := H5d.out.ca
  have f5c := H5d.out.free d.toNat
  clear H5
  go_still_tail 13, (by kernel_rfl)
  still_call (rright_any _ _ _ (bits_lo_u32 _ _ _) (bits_hi_u32 _ _ _) (by omega) (by omega))
  repeat still_step
  refine wpStill_nil ?_
  change wpList _ _ _ _ _ w5.drew
  generalize w5.drew = u5 at *
  generalize e5 : rotr (bits BinOp.xor IntKind.u32 r1 va2) 8 = r3
  have E5 := Lib.hid e5
  clear e5
  have H6 := Lib.hid (H5d.out.sd (Ne.symm N.out.2.2.1) (Ne.symm N.out.2.2.2.2.1) (Ne.symm N.out.2.2.2.2.2) r3)
  go_wp2_with fail
  clear f5a f5b f5c H5d
  generalize u5.setCell ⟨g, d.toNat, none⟩ (.int .u32 r3) = w6 at *
  have H6d := Lib.hid H6.out.drew
  have f6a := H6d.out.cc
  have f6b := H6d.out.cd
  have f6c := H6d.out.free c.toNat
  clear H6
  go_still_tail 12, (by kernel_rfl)
  change wpList _ _ _ _ _ w6.drew
  generalize w6.drew = u6 at *
  generalize e6 : IntKind.u32.wrap (vc1 + r3) = vc2
  have E6 := Lib.hid e6
  clear e6
  have H7 := Lib.hid (H6d.out.sc (Ne.symm N.out.2.1) (Ne.symm N.out.2.2.2.1) N.out.2.2.2.2.2 vc2)
  go_wp2_with fail
  clear f6a f6b f6c H6d
  generalize u6.setCell ⟨g, c.toNat, none⟩ (.int .u32 vc2) = w7 at *
  have H7d := Lib.hid H7.out.drew
  have f7a := H7d.out.cb
  have f7b := H7d.out.cc
  have f7c := H7d.out.free b.toNat
  clear H7
  go_still_tail 13, (by kernel_rfl)
  still_call (rright_any _ _ _ (bits_lo_u32 _ _ _) (bits_hi_u32 _ _ _) (by omega) (by omega))
  repeat still_step
  refine wpStill_nil ?_
  change wpList _ _ _ _ _ w7.drew
  generalize w7.drew = u7 at *
  generalize e7 : rotr (bits BinOp.xor IntKind.u32 r2 vc2) 7 = r4
  have E7 := Lib.hid e7
  clear e7
  have H8 := Lib.hid (H7d.out.sb (Ne.symm N.out.1) N.out.2.2.2.1 N.out.2.2.2.2.1 r4)
  go_wp2_with fail
  clear f7a f7b f7c H7d
  generalize u7.setCell ⟨g, b.toNat, none⟩ (.int .u32 r4) = w8 at *
  rw [mixF_steps E0.out.symm E1.out.symm E2.out.symm E3.out.symm E4.out.symm E5.out.symm E6.out.symm E7.out.symm]
  go_end0
  exact ⟨rfl, H8.out⟩
end Go.Proofs.YtjbjpkhibcnenaaGreatDoor
/- An index into a string. -/
namespace Go.Proofs.YtjbjpkhibcnenaaGreatDoor
open Go.RowKit
theorem index_str (s : ByteArray) (i : Int) (n : Nat) (hi : i = (n : Int)) (hn : n < s.size) (w : World) : (Instr.index 9 (.string s) (.int .i64 i)).run Tryz.prog w = .ok (.int .u8 (s[n].toNat : Int)) w := by
  subst hi
  have h0 : (0 : Int) ≤ (n : Int) := Int.natCast_nonneg _
  have h : s[n]? = some s[n] := by simp [hn]
  simp [Instr.index, asIntOf, run_underlying undS, h]
end Go.Proofs.YtjbjpkhibcnenaaGreatDoor
/- The reference's word, constants and order; the words of a block as the program has them. -/
namespace Go.Proofs.YtjbjpkhibcnenaaGreatDoor
open Go.RowKit
def byteAt (l : List UInt8) (j : Nat) : Nat := (l[j]?.getD 0).toNat
theorem byteAt_lt (l : List UInt8) (j : Nat) : byteAt l j < 256 := (l[j]?.getD 0).toNat_lt
/-- the bytes a+3, a+2, .. as a number, k of them -/
def topW (l : List UInt8) (a : Nat) : Nat → Nat
  | 0 => 0
  | k + 1 => topW l a k * 256 + byteAt l (a + (3 - k))
theorem topW_lt (l : List UInt8) (a : Nat) : ∀ k, topW l a k < 256 ^ k
  | 0 => by simp [topW]
  | k + 1 => by
    have h := topW_lt l a k
    have b := byteAt_lt l (a + (3 - k))
    rw [Nat.pow_succ]
    simp only [topW]
    omega
theorem topW_small (l : List UInt8) (a : Nat) (k : Nat) (hk : k < 4) : topW l a k < 16777216 :=
  Nat.lt_of_lt_of_le (topW_lt l a k) (Nat.le_trans (Nat.pow_le_pow_right (by decide) (show k ≤ 3 by omega)) (by decide))
theorem or_low (n b : Nat) (hn : n < 16777216) (hb : b < 256) : bits .or .u32 ((n : Int) * 256) (b : Int) = ((n * 256 + b : Nat) : Int) := by
  rw [show ((n : Int) * 256) = ((n * 256 : Nat) : Int) by omega]
  have e : n * 256 + b = n * 256 ||| b := by
    have := Nat.shiftLeft_add_eq_or_of_lt (a := n) (b := b) (i := 8) hb
    simpa [Nat.shiftLeft_eq] using this
  rw [e]
  exact u32_or_nat _ _ (by omega) (by omega)
set_option maxHeartbeats 400000 in
theorem rword_any (s : ByteArray) (a : Int) (w : World) (hs : s.size ≤ 1000000) (ha0 : 0 ≤ a) (ha : a ≤ 2000000) :
    Calls Tryz.prog 157 #[.string s, .int .i64 a] w fun e w' => e = .returned (.int .u32 (topW s.data.toList a.toNat 4 : Nat)) ∧ w = w' := by
  obtain ⟨n, rfl⟩ := Int.eq_ofNat_of_zero_le ha0
  rw [Int.toNat_natCast]
  go_enter Tryz.func157, Tryz.ntmps157
  go_wp2_with fail
  go_loop [5, 6] (fun x i => ∃ k : Nat, k ≤ 4 ∧ i = .int .i64 (3 - (k : Int)) ∧ x = .int .u32 (topW s.data.toList n k : Nat)) (fun _ i => (intOf i + 1).toNat)
  case atStart => exact ⟨0, by omega, rfl, rfl⟩
  case round =>
    obtain ⟨k, hk, rfl, rfl⟩ := hrel
    by_cases hlt : k < 4
    · have hN := topW_small s.data.toList n k hlt
      have HT : Hid (topW s.data.toList n (k + 1) = topW s.data.toList n k * 256 + byteAt s.data.toList (n + (3 - k))) := rfl
      generalize topW s.data.toList n k = q at *
      have x1 : IntKind.u32.wrap ((q : Int) * 256) = ((q * 256 : Nat) : Int) := by rw [IntWalk.u32_in _ (by omega)]; omega
      by_cases hin : n + (3 - k) < s.size
      · have x2 : decide ((n : Int) + (3 - (k : Int)) < (s.size : Int)) = true := by simp; omega
        have i1 := fun w => index_str s ((n : Int) + (3 - (k : Int))) (n + (3 - k)) (by omega) hin w
        have HB : Hid (byteAt s.data.toList (n + (3 - k)) = s[n + (3 - k)].toNat) := by
          show _ = _
          unfold byteAt
          rw [List.getElem?_eq_getElem (by simpa using hin)]
          rfl
        have hb := (s[n + (3 - k)]).toNat_lt
        generalize s[n + (3 - k)].toNat = b at *
        have X3 := Lib.hid (or_low q b hN hb)
        go_wp2_with fail
        go_round
        case rel => exact ⟨k + 1, by omega, by go_num, by rw [HT.out, HB.out]; exact congrArg (Value.int .u32) X3.out⟩
        case measure => simp [intOf]; omega
      · have x2 : decide ((n : Int) + (3 - (k : Int)) < (s.size : Int)) = false := by simp; omega
        have HB : Hid (byteAt s.data.toList (n + (3 - k)) = 0) := by
          show _ = _
          unfold byteAt
          rw [List.getElem?_eq_none (by simp; omega)]
          rfl
        go_wp2_with fail
        go_round
        case rel => exact ⟨k + 1, by omega, by go_num, by rw [HT.out, HB.out]; exact congrArg (Value.int .u32) (by omega)⟩
        case measure => simp [intOf]; omega
    · obtain rfl : k = 4 := by omega
      go_wp2_with fail
      go_ret
      exact ⟨rfl, rfl⟩
theorem startV : u32v startL = #[.int .u32 1779033703, .int .u32 3144134277, .int .u32 1013904242, .int .u32 2773480762, .int .u32 1359893119, .int .u32 2600822924, .int .u32 528734635, .int .u32 1541459225] := by simp [u32v, startL]
set_option maxRecDepth 100000 in
theorem rconst_any (w : World) :
    Calls Tryz.prog 144 #[] w fun e w' => e = .returned (.slice (some ⟨w.heap.size, 0, none⟩) 8 8) ∧ w' = w.alloc (.cells (u32v startL) 148) := by
  rw [startV]
  go_enter Tryz.func144, Tryz.ntmps144
  go_wp2_with fail
  go_ret
  exact ⟨rfl, rfl⟩
/-- the order of a round as ints -/
def ordI (r : Nat) : Array Value := ((ordL[r]?.getD []).map (Value.int .i64)).toArray
set_option maxRecDepth 100000 in
set_option maxHeartbeats 4000000 in
theorem rorder_any (r : Nat) (hr : r < 10) (w : World) :
    Calls Tryz.prog 158 #[.int .i64 (r : Int)] w fun e w' => e = .returned (.slice (some ⟨w.heap.size, 0, none⟩) 16 16) ∧ w' = w.alloc (.cells (ordI r) 3) := by
  have h : r = 0 ∨ r = 1 ∨ r = 2 ∨ r = 3 ∨ r = 4 ∨ r = 5 ∨ r = 6 ∨ r = 7 ∨ r = 8 ∨ r = 9 := by omega
  rcases h with rfl | rfl | rfl | rfl | rfl | rfl | rfl | rfl | rfl | rfl
  all_goals
    go_enter Tryz.func158, Tryz.ntmps158
    go_wp2_with fail
    go_ret
    exact ⟨rfl, rfl⟩
end Go.Proofs.YtjbjpkhibcnenaaGreatDoor
