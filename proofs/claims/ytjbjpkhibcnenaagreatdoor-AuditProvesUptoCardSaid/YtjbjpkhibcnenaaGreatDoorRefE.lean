/- Texts merged: RefD RefE -/
import Derived.Test.YtjbjpkhibcnenaaGreatDoorSIdx
import Derived.Test.YtjbjpkhibcnenaaGreatDoorSShort
/- The reference's word, constants and order; the words of a block as the program has them. -/
namespace Go.Proofs.YtjbjpkhibcnenaaGreatDoor
open Go.RowKit
def byteAt (l : List UInt8) (j : Nat) : Nat := (l[j]?.getD 0).toNat
theorem byteAt_lt (l : List UInt8) (j : Nat) : byteAt l j < 256 := (l[j]?.getD 0).toNat_lt
/-- the bytes a+3, a+2, .. as a number, k of them -/
def topW (l : List UInt8) (a : Nat) : Nat → Nat
  | 0 => 0
  | k + 1 => topW l a k * 256 + byteAt l (a + (3 - k))
theorem topW_lt (l : List UInt8) (a : Nat) : ∀ k, topW l a k < 256 ^ k
  | 0 => by simp [topW]
  | k + 1 => by
    have h := topW_lt l a k
    have b := byteAt_lt l (a + (3 - k))
    rw [Nat.pow_succ]
    simp only [topW]
    omega
theorem topW_small (l : List UInt8) (a : Nat) (k : Nat) (hk : k < 4) : topW l a k < 16777216 :=
  Nat.lt_of_lt_of_le (topW_lt l a k) (Nat.le_trans (Nat.pow_le_pow_right (by decide) (show k ≤ 3 by omega)) (by decide))
theorem or_low (n b : Nat) (hn : n < 16777216) (hb : b < 256) : bits .or .u32 ((n : Int) * 256) (b : Int) = ((n * 256 + b : Nat) : Int) := by
  rw [show ((n : Int) * 256) = ((n * 256 : Nat) : Int) by omega]
  have e : n * 256 + b = n * 256 ||| b := by
    have := Nat.shiftLeft_add_eq_or_of_lt (a := n) (b := b) (i := 8) hb
    simpa [Nat.shiftLeft_eq] using this
  rw [e]
  exact u32_or_nat _ _ (by omega) (by omega)
set_option maxHeartbeats 400000 in
theorem rword_any (s : ByteArray) (a : Int) (w : World) (hs : s.size ≤ 1000000) (ha0 : 0 ≤ a) (ha : a ≤ 2000000) :
    Calls Tryz.prog 157 #[.string s, .int .i64 a] w fun e w' => e = .returned (.int .u32 (topW s.data.toList a.toNat 4 : Nat)) ∧ w = w' := by
  obtain ⟨n, rfl⟩ := Int.eq_ofNat_of_zero_le ha0
  rw [Int.toNat_natCast]
  go_enter Tryz.func157, Tryz.ntmps157
  go_wp2_with fail
  go_loop [5, 6] (fun x i => ∃ k : Nat, k ≤ 4 ∧ i = .int .i64 (3 - (k : Int)) ∧ x = .int .u32 (topW s.data.toList n k : Nat)) (fun _ i => (intOf i + 1).toNat)
  case atStart => exact ⟨0, by omega, rfl, rfl⟩
  case round =>
    obtain ⟨k, hk, rfl, rfl⟩ := hrel
    by_cases hlt : k < 4
    · have hN := topW_small s.data.toList n k hlt
      have HT : Hid (topW s.data.toList n (k + 1) = topW s.data.toList n k * 256 + byteAt s.data.toList (n + (3 - k))) := rfl
      generalize topW s.data.toList n k = q at *
      have x1 : IntKind.u32.wrap ((q : Int) * 256) = ((q * 256 : Nat) : Int) := by rw [IntWalk.u32_in _ (by omega)]; omega
      by_cases hin : n + (3 - k) < s.size
      · have x2 : decide ((n : Int) + (3 - (k : Int)) < (s.size : Int)) = true := by simp; omega
        have i1 := fun w => index_str s ((n : Int) + (3 - (k : Int))) (n + (3 - k)) (by omega) hin w
        have HB : Hid (byteAt s.data.toList (n + (3 - k)) = s[n + (3 - k)].toNat) := by
          show _ = _
          unfold byteAt
          rw [List.getElem?_eq_getElem (by simpa using hin)]
          rfl
        have hb := (s[n + (3 - k)]).toNat_lt
        generalize s[n + (3 - k)].toNat = b at *
        have X3 := Lib.hid (or_low q b hN hb)
        go_wp2_with fail
        go_round
        case rel => exact ⟨k + 1, by omega, by go_num, by rw [HT.out, HB.out]; exact congrArg (Value.int .u32) X3.out⟩
        case measure => simp [intOf]; omega
      · have x2 : decide ((n : Int) + (3 - (k : Int)) < (s.size : Int)) = false := by simp; omega
        have HB : Hid (byteAt s.data.toList (n + (3 - k)) = 0) := by
          show _ = _
          unfold byteAt
          rw [List.getElem?_eq_none (by simp; omega)]
          rfl
        go_wp2_with fail
        go_round
        case rel => exact ⟨k + 1, by omega, by go_num, by rw [HT.out, HB.out]; exact congrArg (Value.int .u32) (by omega)⟩
        case measure => simp [intOf]; omega
    · obtain rfl : k = 4 := by omega
      go_wp2_with fail
      go_ret
      exact ⟨rfl, rfl⟩
theorem startV : u32v startL = #[.int .u32 1779033703, .int .u32 3144134277, .int .u32 1013904242, .int .u32 2773480762, .int .u32 1359893119, .int .u32 2600822924, .int .u32 528734635, .int .u32 1541459225] := by simp [u32v, startL]
set_option maxRecDepth 100000 in
theorem rconst_any (w : World) :
    Calls Tryz.prog 144 #[] w fun e w' => e = .returned (.slice (some ⟨w.heap.size, 0, none⟩) 8 8) ∧ w' = w.alloc (.cells (u32v startL) 148) := by
  rw [startV]
  go_enter Tryz.func144, Tryz.ntmps144
  go_wp2_with fail
  go_ret
  exact ⟨rfl, rfl⟩
/-- the order of a round as ints -/
def ordI (r : Nat) : Array Value := ((ordL[r]?.getD []).map (Value.int .i64)).toArray
set_option maxRecDepth 100000 in
set_option maxHeartbeats 4000000 in
theorem rorder_any (r : Nat) (hr : r < 10) (w : World) :
    Calls Tryz.prog 158 #[.int .i64 (r : Int)] w fun e w' => e = .returned (.slice (some ⟨w.heap.size, 0, none⟩) 16 16) ∧ w' = w.alloc (.cells (ordI r) 3) := by
  have h : r = 0 ∨ r = 1 ∨ r = 2 ∨ r = 3 ∨ r = 4 ∨ r = 5 ∨ r = 6 ∨ r = 7 ∨ r = 8 ∨ r = 9 := by omega
  rcases h with rfl | rfl | rfl | rfl | rfl | rfl | rfl | rfl | rfl | rfl
  all_goals
    go_enter Tryz.func158, Tryz.ntmps158
    go_wp2_with fail
    go_ret
    exact ⟨rfl, rfl⟩
end Go.Proofs.YtjbjpkhibcnenaaGreatDoor
/- What the reference's compress holds in memory, and the plain facts on its rows. -/
namespace Go.Proofs.YtjbjpkhibcnenaaGreatDoor
open Go.RowKit
/-- a block whose first n cells are the words vs -/
def Row32 (g n : Nat) (vs : List Int) (w : World) : Prop := ∃ cur : Array Value, w.heap[g]? = some (.cells cur 148 (0, 0)) ∧ ∀ j, j < n → cur[j]? = some (.int .u32 (vs[j]?.getD 0))
theorem Row32.lt {g n : Nat} {vs : List Int} {w : World} (h : Row32 g n vs w) : g < w.heap.size := by
  obtain ⟨cur, hh, _⟩ := h
  exact blk_lt hh
theorem Row32.cell {g n : Nat} {vs : List Int} {w : World} (h : Row32 g n vs w) (j : Nat) (hj : j < n) : w.cell? ⟨g, j, none⟩ = some (.int .u32 (vs[j]?.getD 0)) := by
  obtain ⟨cur, hh, hc⟩ := h
  rw [cell_of_row _ _ _ _ _ _ hh]
  exact hc j hj
theorem Row32.free {g n : Nat} {vs : List Int} {w : World} (h : Row32 g n vs w) (j : Nat) : w.frozen? ⟨g, j, none⟩ = false := by
  obtain ⟨cur, hh, hc⟩ := h
  exact frozen_of_row _ _ _ _ _ hh
theorem Row32.same {g n : Nat} {vs : List Int} {w w' : World} (h : Row32 g n vs w) (e : w'.heap[g]? = w.heap[g]?) : Row32 g n vs w' := by
  obtain ⟨cur, hh, hc⟩ := h
  exact ⟨cur, e.trans hh, hc⟩
theorem Row32.set {g n : Nat} {vs : List Int} {w : World} (h : Row32 g n vs w) (hl : vs.length = n) (i : Nat) (hi : i < n) (z : Int) : Row32 g n (vs.set i z) (w.setCell ⟨g, i, none⟩ (.int .u32 z)) := by
  obtain ⟨cur, hh, hc⟩ := h
  refine ⟨cur.setIfInBounds i (.int .u32 z), ?_, ?_⟩
  · rw [setCell_eq_setRow _ _ _ _ _ _ _ hh]
    exact setRow_heap _ _ _ _ _ _ hh
  · intro j hj
    have hs : i < cur.size := (Array.getElem?_eq_some_iff.1 (hc i hi)).1
    rw [Array.getElem?_setIfInBounds, List.getElem?_set]
    split
    · rename_i e
      subst e
      rw [if_pos (show i < vs.length by omega)]
      rfl
    · exact hc j hj
def u32L (vs : List Int) : List Value := vs.map (Value.int .u32)
theorem u32L_get (vs : List Int) (j : Nat) (h : j < vs.length) : (u32L vs)[j]? = some (.int .u32 (vs[j]?.getD 0)) := by
  simp [u32L, h]
theorem u32L_one (vs : List Int) : ∀ u ∈ u32L vs, u.oneCell' = true := by
  intro u hu
  simp only [u32L, List.mem_map] at hu
  obtain ⟨b, _, rfl⟩ := hu
  rfl
theorem Row32.of_owns {w : World} {base n : Nat} {v : Value} {vs : List Int} (hn : 0 < n) (hl : vs.length = n) (h : w.ownsRow base 148 1 v n (u32L vs)) : ∃ g c, v = .slice (some ⟨g, 0, none⟩) n c ∧ base ≤ g ∧ Row32 g n vs w := by
  rcases h.2 with ⟨_, h0⟩ | ⟨g, cap, cur, rfl, hg, hh, hnc, _, hcs, htk⟩
  · omega
  · refine ⟨g, cap, rfl, hg, cur, hh, fun j hj => ?_⟩
    have h1 : (cur.toList.take (n * 1))[j]? = (u32L vs)[j]? := by rw [htk]
    rw [List.getElem?_take, if_pos (by omega), u32L_get _ _ (by omega)] at h1
    simpa using h1
/-- compress's own: the words m of the block, the work vector v -/
structure QI (w0 : World) (gm gv : Nat) (m v : List Int) (w : World) : Prop where
  hm : Row32 gm 16 m w
  hv : Row32 gv 16 v w
  ne : gm ≠ gv
  lem : w0.heap.size ≤ gm
  lev : w0.heap.size ≤ gv
  below : Below w0.heap.size w0 w
theorem QI.drew {w0 w : World} {gm gv : Nat} {m v : List Int} (q : QI w0 gm gv m v w) : QI w0 gm gv m v w.drew := ⟨q.hm, q.hv, q.ne, q.lem, q.lev, q.below.drew⟩
theorem QI.later {w0 w w' : World} {gm gv : Nat} {m v : List Int} {B : Nat} (q : QI w0 gm gv m v w) (hb : Below B w w') (hm : gm < B) (hv : gv < B) : QI w0 gm gv m v w' :=
  ⟨q.hm.same (hb.block _ hm), q.hv.same (hb.block _ hv), q.ne, q.lem, q.lev, q.below.trans (hb.mono (by have := q.lev; omega))⟩
theorem QI.setV {w0 w : World} {gm gv : Nat} {m v : List Int} (q : QI w0 gm gv m v w) (hl : v.length = 16) (i : Nat) (hi : i < 16) (z : Int) : QI w0 gm gv m (v.set i z) (w.setCell ⟨gv, i, none⟩ (.int .u32 z)) :=
  ⟨q.hm.same (heap_setCell_other _ _ _ _ q.ne), q.hv.set hl i hi z, q.ne, q.lem, q.lev, q.below.setCell q.lev _⟩
theorem mixL_get (vs : List Int) (hl : vs.length = 16) (a b c d : Nat) (x y : Int) (ha : a < 16) (hb : b < 16) (hc : c < 16) (hd : d < 16) (hab : a ≠ b) (hac : a ≠ c) (had : a ≠ d) (hbc : b ≠ c) (hbd : b ≠ d) (hcd : c ≠ d) {A B C D : Int}
    (e : mixF (vs[a]?.getD 0) (vs[b]?.getD 0) (vs[c]?.getD 0) (vs[d]?.getD 0) x y = (A, B, C, D)) (j : Nat) :
    (mixL vs a b c d x y)[j]?.getD 0 = if j = a then A else if j = b then B else if j = c then C else if j = d then D else vs[j]?.getD 0 := by
  unfold mixL
  rw [e]
  simp only [List.getElem?_set, List.length_set]
  by_cases h1 : j = a
  · subst h1; simp [hl, ha, Ne.symm hab, Ne.symm hac, Ne.symm had]
  · by_cases h2 : j = b
    · subst h2; simp [hl, hb, h1, Ne.symm hbc, Ne.symm hbd]
    · by_cases h3 : j = c
      · subst h3; simp [hl, hc, h1, h2, Ne.symm hcd]
      · by_cases h4 : j = d
        · subst h4; simp [hl, hd, h1, h2, h3]
        · simp [h1, h2, h3, h4, Ne.symm h1, Ne.symm h2, Ne.symm h3, Ne.symm h4]
theorem VR.row {w0 w : World} {g : Nat} {vs : List Int} {a b c d : Nat} {A B C D x y : Int} (h : VR w0 g vs a b c d A B C D w) (hl : vs.length = 16) (ha : a < 16) (hb : b < 16) (hc : c < 16) (hd : d < 16) (hab : a ≠ b) (hac : a ≠ c) (had : a ≠ d) (hbc : b ≠ c) (hbd : b ≠ d) (hcd : c ≠ d)
    (e : mixF (vs[a]?.getD 0) (vs[b]?.getD 0) (vs[c]?.getD 0) (vs[d]?.getD 0) x y = (A, B, C, D)) : Row32 g 16 (mixL vs a b c d x y) w := by
  obtain ⟨cur, hh, ga, gb, gc, gd, go⟩ := h.blk
  refine ⟨cur, hh, fun j hj => ?_⟩
  rw [mixL_get vs hl a b c d x y ha hb hc hd hab hac had hbc hbd hcd e]
  by_cases h1 : j = a
  · rw [if_pos h1, h1]; exact ga
  · rw [if_neg h1]
    by_cases h2 : j = b
    · rw [if_pos h2, h2]; exact gb
    · rw [if_neg h2]
      by_cases h3 : j = c
      · rw [if_pos h3, h3]; exact gc
      · rw [if_neg h3]
        by_cases h4 : j = d
        · rw [if_pos h4, h4]; exact gd
        · rw [if_neg h4]; exact go j hj h1 h2 h3 h4
/-- a round's: the order lies in block zb -/
structure RI (w0 : World) (gm gv zb r : Nat) (m v : List Int) (w : World) : Prop where
  q : QI w0 gm gv m v w
  hz : w.heap[zb]? = some (.cells (ordI r) 3 (0, 0))
  zv : zb ≠ gv
theorem RI.drew {w0 w : World} {gm gv zb r : Nat} {m v : List Int} (q : RI w0 gm gv zb r m v w) : RI w0 gm gv zb r m v w.drew := ⟨q.q.drew, q.hz, q.zv⟩
theorem RI.zcell {w0 w : World} {gm gv zb r : Nat} {m v : List Int} (q : RI w0 gm gv zb r m v w) (hr : r < 10) (k : Nat) (hk : k < 16) : w.cell? ⟨zb, k, none⟩ = some (.int .i64 (ord r k)) := by
  rw [cell_of_row _ _ _ _ _ _ q.hz]
  obtain ⟨l, h1, h2⟩ := ordL_row r hr
  unfold ordI ord
  rw [h1]
  simp [h2, hk]
theorem RI.mix {w0 w w' : World} {gm gv zb r : Nat} {m v : List Int} (q : RI w0 gm gv zb r m v w) {a b c d : Nat} {A B C D x y : Int} (h : VR w gv v a b c d A B C D w') (hl : v.length = 16) (ha : a < 16) (hb : b < 16) (hc : c < 16) (hd : d < 16) (hab : a ≠ b) (hac : a ≠ c) (had : a ≠ d) (hbc : b ≠ c) (hbd : b ≠ d) (hcd : c ≠ d)
    (e : mixF (v[a]?.getD 0) (v[b]?.getD 0) (v[c]?.getD 0) (v[d]?.getD 0) x y = (A, B, C, D)) : RI w0 gm gv zb r m (mixL v a b c d x y) w' := by
  have hg := h.grown
  have hB : Below w0.heap.size w w' := ⟨hg.os, hg.tape, hg.output, hg.size, fun k hk => hg.block k (Nat.lt_of_lt_of_le hk q.q.below.size) (fun e => by have := q.q.lev; simp only [Option.some.injEq] at e; omega)⟩
  exact ⟨⟨q.q.hm.same (hg.block _ q.q.hm.lt (fun e => q.q.ne (by simpa using e))), h.row hl ha hb hc hd hab hac had hbc hbd hcd e, q.q.ne, q.q.lem, q.q.lev, q.q.below.trans hB⟩,
    (hg.block _ (blk_lt q.hz) (fun e => q.zv (by simpa using e))).trans q.hz, q.zv⟩
/-- the words of the block at a -/
def mAt (l : List UInt8) (a : Nat) : List Int := (List.range 16).map fun j => ((topW l (a + 4 * j) 4 : Nat) : Int)
theorem mAt_len (l : List UInt8) (a : Nat) : (mAt l a).length = 16 := by simp [mAt]
theorem mAt_32 (l : List UInt8) (a : Nat) : W32 (mAt l a) := by
  intro j
  unfold mAt
  rw [List.getElem?_map]
  cases h : (List.range 16)[j]? with
  | none => simp
  | some k =>
    have := topW_lt l (a + 4 * k) 4
    simp only [Option.map_some, Option.getD_some]
    omega
theorem mAt_take (l : List UInt8) (a k : Nat) (hk : k < 16) : (mAt l a).take (k + 1) = (mAt l a).take k ++ [((topW l (a + 4 * k) 4 : Nat) : Int)] := by
  rw [List.take_add_one]
  congr 1
  simp [mAt, hk]
theorem vInit_eq (h : List Int) (hl : h.length = 8) : vInit h 8 = h ++ startL := by
  match h, hl with
  | [a, b, c, d, e, f, g, i], _ => rfl
theorem hOut_get (h v : List Int) (hl : h.length = 8) : ∀ k, k ≤ 8 → ∀ j, j < 8 → (hOut h v k)[j]?.getD 0 = if j < k then bits BinOp.xor IntKind.u32 (h[j]?.getD 0) (bits BinOp.xor IntKind.u32 (v[j]?.getD 0) (v[j + 8]?.getD 0)) else h[j]?.getD 0
  | 0, _, j, _ => by simp [hOut]
  | k + 1, hk, j, hj => by
    have ih := hOut_get h v hl k (by omega)
    simp only [hOut]
    rw [List.getElem?_set, hOut_len, hl]
    by_cases e : k = j
    · subst e
      rw [if_pos rfl, if_pos hj, if_pos (by omega), Option.getD_some, ih k hj, if_neg (by omega)]
    · rw [if_neg e, ih j hj]
      by_cases h1 : j < k
      · rw [if_pos h1, if_pos (by omega)]
      · rw [if_neg h1, if_neg (by omega)]
theorem xor32_assoc (a b c : Int) (ha0 : 0 ≤ a) (ha : a ≤ 4294967295) (hb0 : 0 ≤ b) (hb : b ≤ 4294967295) (hc0 : 0 ≤ c) (hc : c ≤ 4294967295) : bits BinOp.xor IntKind.u32 (bits BinOp.xor IntKind.u32 a b) c = bits BinOp.xor IntKind.u32 a (bits BinOp.xor IntKind.u32 b c) := by
  obtain ⟨a, rfl⟩ := Int.eq_ofNat_of_zero_le ha0
  obtain ⟨b, rfl⟩ := Int.eq_ofNat_of_zero_le hb0
  obtain ⟨c, rfl⟩ := Int.eq_ofNat_of_zero_le hc0
  have h1 : a ^^^ b < 4294967296 := Nat.xor_lt_two_pow (n := 32) (by omega) (by omega)
  have h2 : b ^^^ c < 4294967296 := Nat.xor_lt_two_pow (n := 32) (by omega) (by omega)
  rw [u32_xor_nat a b (by omega) (by omega), u32_xor_nat b c (by omega) (by omega), u32_xor_nat _ c h1 (by omega), u32_xor_nat a _ (by omega) h2, Nat.xor_assoc]
theorem hOut_take (h v : List Int) (hl : h.length = 8) (hh : W32 h) (hv : W32 v) (k : Nat) (hk : k < 8) : (hOut h v 8).take (k + 1) = (hOut h v 8).take k ++ [bits BinOp.xor IntKind.u32 (bits BinOp.xor IntKind.u32 (h[k]?.getD 0) (v[k]?.getD 0)) (v[k + 8]?.getD 0)] := by
  have e := hOut_get h v hl 8 (Nat.le_refl _) k hk
  rw [if_pos hk] at e
  have hlen : k < (hOut h v 8).length := by rw [hOut_len]; omega
  rw [List.take_succ_eq_append_getElem hlen, xor32_assoc _ _ _ (hh k).1 (hh k).2 (hv k).1 (hv k).2 (hv (k + 8)).1 (hv (k + 8)).2, ← e, List.getElem?_eq_getElem hlen]
  rfl
theorem infoU : (Tryz.prog.info? 148).map (fun i => (i.zero, i.size, i.bytes)) = some (some (.int .u32 0), 1, 4) := by kernel_rfl
theorem undUs : Tryz.prog.underlying 167 = some (.slice 148) := by kernel_rfl
end Go.Proofs.YtjbjpkhibcnenaaGreatDoor
