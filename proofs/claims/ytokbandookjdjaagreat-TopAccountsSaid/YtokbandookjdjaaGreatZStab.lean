/- slices.SortStableFunc at entries: of at most twenty, a permutation. -/
import Derived.Test.YtokbandookjdjaaGreatZAcc
import Derived.Shelf.SlSortCmp.KitK
import Derived.Sort.WalkB2
import Derived.Sort.WalkB12
import Derived.Sort.LotA
import Derived.Deep.LoopGhost
namespace Go.Proofs.YtokbandookjdjaaGreat
open Go.Shelf Go.RowKit Go.Lib Go.Sort
theorem holdsK_row {α : Type} [Inhabited α] {enc : α → List Value} {k : Nat} (hk : ∀ x, (enc x).length = k) {w : World} {g : Nat} {cur : Array Value} {e : TypeId} (hh : w.heap[g]? = some (.cells cur e (0, 0))) (l : List α)
    (hc : ∀ (i : Nat) (x : α), l[i]? = some x → ∀ (c : Nat) (u : Value), (enc x)[c]? = some u → cur[i * k + c]? = some u) : HoldsK enc k w g 0 l.toArray := by
  intro t ht
  rw [size_flatK] at ht
  have k0 : 0 < k := by
    rcases Nat.eq_zero_or_pos k with h | h
    · subst h; simp at ht
    · exact h
  rw [get_flatK _ _ _ _ ht]
  have hlt : t / k < l.length := by
    rw [Nat.div_lt_iff_lt_mul k0]
    simpa using ht
  obtain ⟨x, hx⟩ : ∃ x, l[t / k]? = some x := ⟨_, List.getElem?_eq_getElem hlt⟩
  have e1 : (l.toArray)[t / k]! = x := by
    simp [hx]
  rw [e1]
  have hm : t % k < k := Nat.mod_lt _ k0
  obtain ⟨u, hu⟩ : ∃ u, (enc x)[t % k]? = some u := ⟨_, List.getElem?_eq_getElem (by rw [hk]; exact hm)⟩
  have e2 : (enc x)[t % k]! = u := by simp [List.getElem!_eq_getElem?_getD, hu]
  have h1 := hc _ x hx _ u hu
  rw [Nat.div_add_mod'] at h1
  rw [e2, Nat.zero_add]
  exact ⟨(cell_of_row _ _ _ _ _ _ hh).trans h1, frozen_of_row _ _ _ _ _ hh⟩
theorem swk_range {α : Type} [Inhabited α] {enc : α → List Value} {k : Nat} {w0 W : World} {g : Nat} {d0 d : Array α} (R : RowK enc k w0 g 0 d0) (hs : d.size = d0.size) (S : SWK enc k w0 g 0 d W) (i : Nat) (x : α) (hx : d[i]? = some x) : W.rangeAt g (0 + i * k) (enc x) := fun c u hu => by
  have hi : i < d.size := (Array.getElem?_eq_some_iff.1 hx).1
  have hc : c < k := by rw [← R.hk x]; exact (List.getElem?_eq_some_iff.1 hu).1
  have h := (HoldsK.cell (S.holds R.hblk R.hH hs) hi hc).1
  have e1 : d[i]! = x := by rw [getElem!_pos d i hi]; exact (Array.getElem?_eq_some_iff.1 hx).2
  rw [e1] at h
  rw [h]
  simp [List.getElem!_eq_getElem?_getD, hu]
theorem swk_below {α : Type} [Inhabited α] {enc : α → List Value} {k B : Nat} {w0 W : World} {g : Nat} {d : Array α} (hg : g < w0.heap.size) (S : SWK enc k w0 g 0 d W) (hB : B ≤ g) : Go.RowKit.Below B w0 W := by
  have hle := S.le
  obtain ⟨n, os, rfl⟩ := S
  refine ⟨rfl, rfl, rfl, hle, fun j hj => ?_⟩
  unfold sortWorldK
  rw [heap_grow_old _ _ (by rw [size_putRowK]; show j < w0.heap.size; omega)]
  unfold putRowK putRow mapBlock
  show ((Sort.ahead w0 n).heap.modify g _)[j]? = w0.heap[j]?
  rw [Array.getElem?_modify, if_neg (by omega)]
  rfl
/-- what the sort leaves, as a list -/
theorem perm_list {α : Type} [Inhabited α] {l : List α} {d : Array α} (h : PermIn 0 l.toArray.size l.toArray d) : d.toList.Perm l := by
  obtain ⟨h1, -, h2⟩ := h
  have e1 : d.extract 0 l.toArray.size = d := by rw [← h1]; simp
  have e2 : l.toArray.extract 0 l.toArray.size = l.toArray := by simp
  rw [e1, e2] at h2
  simpa using h2
instance : Inhabited EntryV := ⟨⟨0, 0, 0, 0, 0, 0, 0⟩⟩
theorem entC_len (x : EntryV) : (entC x).length = 7 := rfl
theorem entC_one (x : EntryV) : ∀ v ∈ entC x, v.oneCell' = true := fun v hv => by
  unfold entC at hv
  simp only [List.mem_cons, List.not_mem_nil, or_false] at hv
  rcases hv with rfl | rfl | rfl | rfl | rfl | rfl | rfl <;> rfl
def cfE (x y : EntryV) : Int := if x.known < y.known then -1 else if y.known < x.known then 1 else 0
theorem ltE (x y : EntryV) : ltOf cfE x y = decide (x.known < y.known) := by
  unfold ltOf cfE
  by_cases h1 : x.known < y.known
  · simp [h1]
  · by_cases h2 : y.known < x.known
    · simp [h1, h2]
    · simp [h1, h2]
theorem swoE : SWO (ltOf cfE) where
  irrefl x := by rw [ltE]; simp
  trans x y z h1 h2 := by rw [ltE] at *; simp only [decide_eq_true_eq] at *; omega
  ntrans x y z h1 h2 := by rw [ltE] at *; simp only [decide_eq_false_iff_not] at *; omega
set_option maxRecDepth 100000 in
set_option maxHeartbeats 1000000 in
theorem isNaN_any (a : Int) (w : World) : Calls Tryz.prog 40 #[.int .i64 a] w fun e w' => e = .returned (.bool false) ∧ w' = w := by
  go_enter Tryz.func40, Tryz.ntmps40
  go_wp2
  go_ret
  exact ⟨by simp, rfl⟩
set_option maxRecDepth 100000 in
set_option maxHeartbeats 1000000 in
theorem compare_any (a b : Int) (w : World) : Calls Tryz.prog 15 #[.int .i64 a, .int .i64 b] w fun e w' => e = .returned (.int .i64 (if a < b then -1 else if b < a then 1 else 0)) ∧ w' = w := by
  obtain ⟨r, hr⟩ : ∃ r : Int, r = (if a < b then -1 else if b < a then 1 else 0) := ⟨_, rfl⟩
  rw [← hr]
  have HR := Lib.hid hr
  clear hr
  go_enter Tryz.func15, Tryz.ntmps15
  by_cases h1 : a < b
  · go_wp2_with (refine (isNaN_any _ _).mono ?_; rintro e w' ⟨rfl, rfl⟩)
    go_ret
    exact ⟨ret_int (by rw [HR.out, if_pos (by omega)]), rfl⟩
  · by_cases h2 : b < a
    · go_wp2_with (refine (isNaN_any _ _).mono ?_; rintro e w' ⟨rfl, rfl⟩)
      go_ret
      exact ⟨ret_int (by rw [HR.out, if_neg (by omega), if_pos (by omega)]), rfl⟩
    · go_wp2_with (refine (isNaN_any _ _).mono ?_; rintro e w' ⟨rfl, rfl⟩)
      go_ret
      exact ⟨ret_int (by rw [HR.out, if_neg (by omega), if_neg (by omega)]), rfl⟩
set_option maxRecDepth 100000 in
set_option maxHeartbeats 1000000 in
theorem closE (p q : EntryV) (w : World) : Calls Tryz.prog 14 #[.agg (entC p).toArray, .agg (entC q).toArray] w fun e w' => e = .returned (.int .i64 (cfE p q)) ∧ ∃ n os, w' = grow (w.drewN n) os := by
  obtain ⟨r, hr⟩ : ∃ r, r = cfE p q := ⟨_, rfl⟩
  rw [← hr]
  have hcon : ∀ W, Calls Tryz.prog 15 #[.int .i64 p.known, .int .i64 q.known] W fun e w' => e = .returned (.int .i64 r) ∧ w' = W := fun W => by
    rw [hr]
    exact compare_any _ _ W
  clear hr
  unfold entC
  go_enter Tryz.func14, Tryz.ntmps14
  go_wp2_with (refine (hcon _).mono ?_; rintro e w' ⟨rfl, rfl⟩)
  go_ret
  exact ⟨rfl, 0, _, by rw [alloc_eq_grow, alloc_eq_grow, grow_grow]; rfl⟩
def Tryz.insRen : Go.Shelf.Ren := ⟨fun | 20 => 76 | n => n, fun | 0 => 0 | 3 => 3 | 4 => 4 | 22 => 22 | 24 => 25 | 25 => 65 | n => n, fun | n => n⟩
theorem Tryz.insL : SlLaysF0.n20 Tryz.prog Tryz.insRen := {
  mixed := by kernel_rfl
  f20 := ⟨Tryz.f76.name, by kernel_rfl, Tryz.func76.trans (congrArg some (by kernel_rfl))⟩
  t0 := Tryz.underlying0
  a0 := Tryz.isAgg0
  z0 := Tryz.sizeOf0
  v0 := Tryz.zeroValue0
  t3 := Tryz.underlying3
  a3 := Tryz.isAgg3
  z3 := Tryz.sizeOf3
  v3 := Tryz.zeroValue3
  t4 := Tryz.underlying4
  a4 := Tryz.isAgg4
  z4 := Tryz.sizeOf4
  v4 := Tryz.zeroValue4
  t22 := Tryz.underlying22
  a22 := Tryz.isAgg22
  z22 := Tryz.sizeOf22
  v22 := Tryz.zeroValue22
  t25 := Tryz.underlying65
  a25 := Tryz.isAgg65
  z25 := Tryz.sizeOf65
  v25 := Tryz.zeroValue65 }
theorem enters_clos : ∀ args w, (callFunc 14 args).run Tryz.prog w = .ok (.enter 14 args) w := Tryz.call14
set_option maxRecDepth 100000 in
set_option maxHeartbeats 1000000 in
/-- the insertion sort -/
theorem insE (l : List EntryV) (g cap : Nat) (w0 : World) (R : RowK entC 7 w0 g 0 l.toArray) (a b : Nat) (d : Array EntryV) (w : World) (hs : l.toArray.size = d.size) (S : SWK entC 7 w0 g 0 d w) (hab : a ≤ b) (hb : b ≤ d.size) (hl : l.length ≤ 20) :
    Calls Tryz.prog 76 #[.slice (some ⟨g, 0, none⟩) d.size cap, .int .i64 a, .int .i64 b, .func (.func 14) #[] #[]] w fun e w' => e = .returned (.tuple #[]) ∧ ∃ d', PermIn 0 d.size d d' ∧ SWK entC 7 w0 g 0 d' w' := by
  have hs' : (Sort.insertionSort (ltOf cfE) d a b).size = d.size := (insertionSort_holds swoE d a b hab hb).1.1
  have hC : CmpLays Tryz.prog 14 #[] entC 7 cfE g 0 d.size w := fun m os dk hdk x y => closE x y _
  have hsz : l.toArray.size = l.length := by simp
  refine (AnyQ.insertionSortCmpFunc Tryz.insL 7 Tryz.isAgg25 Tryz.sizeOf25 entC R.hk R.h1 cfE 14 #[] g 0 cap a b d w enters_clos hC (S.holds R.hblk R.hH hs.symm) (S.lt R.hblk) hab hb (by omega)).mono ?_
  rintro e w' ⟨rfl, n, os, rfl⟩
  exact ⟨rfl, _, permIn_mono _ _ _ _ _ _ (Nat.zero_le _) hb (Nat.le_refl _) (insertionSort_holds swoE d a b hab hb).1, S.on R.hblk n _ os hs'⟩
set_option maxRecDepth 1000000 in
set_option maxHeartbeats 4000000 in
theorem stableE (l : List EntryV) (g cap : Nat) (w0 : World) (R : RowK entC 7 w0 g 0 l.toArray) (d : Array EntryV) (w : World) (hs : l.toArray.size = d.size) (S : SWK entC 7 w0 g 0 d w) (hl : l.length ≤ 20) :
    Calls Tryz.prog 39 #[.slice (some ⟨g, 0, none⟩) d.size cap, .int .i64 d.size, .func (.func 14) #[] #[]] w fun e w' => e = .returned (.tuple #[]) ∧ ∃ d', PermIn 0 d.size d d' ∧ SWK entC 7 w0 g 0 d' w' := by
  have S0 : Aside (SWK entC 7 w0 g 0 d w) := S
  have HI : Aside (∀ (a b : Nat) (d : Array EntryV) (w : World), l.toArray.size = d.size → SWK entC 7 w0 g 0 d w → a ≤ b → b ≤ d.size → Calls Tryz.prog 76 #[.slice (some ⟨g, 0, none⟩) d.size cap, .int .i64 a, .int .i64 b, .func (.func 14) #[] #[]] w fun e w' => e = .returned (.tuple #[]) ∧ ∃ d', PermIn 0 d.size d d' ∧ SWK entC 7 w0 g 0 d' w') := fun a b d w h1 h2 h3 h4 => insE l g cap w0 R a b d w h1 h2 h3 h4 hl
  obtain ⟨n, hn⟩ : ∃ n, n = d.size := ⟨_, rfl⟩
  clear S
  have h20 : n ≤ 20 := by
    have : l.toArray.size = l.length := by simp
    omega
  rw [← hn]
  have hn1 : n ≤ d.size := by omega
  have hn2 : d.size ≤ n := by omega
  have HN : Aside (n = d.size) := hn
  have HLD : Aside (l.toArray.size = d.size) := hs
  clear hn hs
  go_enter Tryz.func39, Tryz.ntmps39
  go_wp2
  go_loopg [7, 8] 3 (fun kx s7 s8 wr => ∃ (a b : Nat) (dk : Array EntryV), s7 = .int .i64 a ∧ s8 = .int .i64 b ∧ b ≤ a + 20 ∧ a + 20 ≤ b ∧ a ≤ n ∧ 41 - a ≤ 20 * kx ∧ PermIn 0 n d dk ∧ Aside (SWK entC 7 w0 g 0 dk wr))
  case atStart => exact ⟨0, 20, d, rfl, rfl, by omega, by omega, by omega, by omega, permIn_refl _ _ _, S0⟩
  case round =>
    clear S0
    obtain ⟨a, b, dk, rfl, rfl, b1, b2, han, hkx, hP, S1⟩ := hrel
    have HP : Aside (PermIn 0 n d dk) := hP
    have hdk : dk.size = d.size := hP.1
    clear hP
    by_cases hlt : b ≤ n
    · have hltz : (b : Int) ≤ (n : Int) := by omega
      have hi := HI.out a b dk wr (by have := HLD.out; omega) S1.out (by omega) (by omega)
      rw [hdk] at hi
      rw [← HN.out] at hi
      have wb : IntKind.i64.wrap ((b : Int) + 20) = (b : Int) + 20 := by rw [IntKind.wrap_i64]; omega
      clear S1
      go_wp2_with fail
      refine hi.mono ?_
      rintro e w2 ⟨rfl, d2, hP2, hS2⟩
      go_wp2_with fail
      go_roundg (gk - 1)
      case measure => omega
      case rel => exact ⟨b, b + 20, d2, rfl, by first | rfl | go_num | (congr 1; omega), Nat.le_refl _, Nat.le_refl _, hlt, by omega, permIn_trans _ _ _ _ _ HP.out hP2, hS2⟩
    · have hltz : ¬ (b : Int) ≤ (n : Int) := by omega
      have hi := HI.out a n dk wr (by have := HLD.out; omega) S1.out (by omega) (by omega)
      rw [hdk] at hi
      rw [← HN.out] at hi
      clear S1
      go_wp2_with fail
      refine hi.mono ?_
      rintro e w2 ⟨rfl, d2, hP2, hS2⟩
      go_wp2_with fail
      have S2 : Aside (SWK entC 7 w0 g 0 d2 w2) := hS2
      have HP2 : Aside (PermIn 0 n d d2) := permIn_trans _ _ _ _ _ HP.out hP2
      clear hS2 hP2 HP hi
      have hnz : ¬ (20 : Int) < (n : Int) := by omega
      go_loopg [6] 1 (fun kx s6 wr => s6 = .int .i64 20 ∧ 1 ≤ kx ∧ Aside (SWK entC 7 w0 g 0 d2 wr))
      case atStart => exact ⟨rfl, Nat.le_refl _, S2⟩
      case round =>
        clear S2
        obtain ⟨rfl, hk1, S3⟩ := hrel
        go_wp2
        go_end0
        exact ⟨rfl, d2, HP2.out, S3.out⟩
set_option maxRecDepth 1000000 in
set_option maxHeartbeats 4000000 in
/-- the whole sort -/
theorem sortE (l : List EntryV) (g cap : Nat) (w0 : World) (hH : HoldsK entC 7 w0 g 0 l.toArray) (hg : g < w0.heap.size) (hl : l.length ≤ 20) :
    Calls Tryz.prog 13 #[.slice (some ⟨g, 0, none⟩) l.length cap, .func (.func 14) #[] #[]] w0 fun e w' => e = .returned (.tuple #[]) ∧ ∃ l' : List EntryV, l'.Perm l ∧ l'.length = l.length ∧ (∀ (i : Nat) (q : EntryV), l'[i]? = some q → w'.rangeAt g (0 + i * 7) (entC q)) ∧ Go.RowKit.Below g w0 w' ∧ g < w'.heap.size := by
  have R : RowK entC 7 w0 g 0 l.toArray := ⟨entC_len, entC_one, hH, hg⟩
  have hst := stableE l g cap w0 R l.toArray w0 rfl (SWK.start hH) hl
  rw [List.size_toArray] at hst
  go_enter Tryz.func13, Tryz.ntmps13
  go_wp2_with fail
  refine hst.mono ?_
  rintro e w' ⟨rfl, d', hP, hW⟩
  go_wp2_with fail
  (try simp only [Exit.inBlock, Exit.then])
  refine bodyPost_end (results_none rfl _ _ _) rfl ?_
  have hP' : PermIn 0 l.toArray.size l.toArray d' := by rw [List.size_toArray]; exact hP
  have hsz : d'.size = l.length := by rw [hP.1]; simp
  exact ⟨rfl, d'.toList, perm_list hP', by simpa using hsz, fun i q hq => swk_range R (by rw [hsz]; simp) hW i q (by rw [← Array.getElem?_toList]; exact hq), swk_below hg hW (Nat.le_refl _), hW.lt hg⟩
set_option maxRecDepth 1000000 in
set_option maxHeartbeats 1000000 in
theorem insNil (f : Value) (w : World) : Calls Tryz.prog 76 #[.slice none 0 0, .int .i64 0, .int .i64 0, f] w fun e w' => e = .returned (.tuple #[]) ∧ Below w.heap.size w w' := by
  go_enter Tryz.func76, Tryz.ntmps76
  go_wp2_with fail
  go_loopw [8] (fun iv wr => iv = .int .i64 1 ∧ Below w.heap.size w wr) (fun _ _ => 0)
  case atStart => exact ⟨rfl, Below.refl _ _⟩
  case round =>
    obtain ⟨rfl, hB⟩ := hrel
    have HB := Lib.hid hB
    clear hB
    go_wp2_with fail
    go_end0
    exact ⟨rfl, HB.out⟩
set_option maxRecDepth 1000000 in
set_option maxHeartbeats 1000000 in
theorem stableNil (f : Value) (w : World) : Calls Tryz.prog 39 #[.slice none 0 0, .int .i64 0, f] w fun e w' => e = .returned (.tuple #[]) ∧ Below w.heap.size w w' := by
  go_enter Tryz.func39, Tryz.ntmps39
  go_wp2_with fail
  go_loopw [7, 8] (fun av bv wr => av = .int .i64 0 ∧ bv = .int .i64 20 ∧ Below w.heap.size w wr) (fun _ _ _ => 0)
  case atStart => exact ⟨rfl, rfl, Below.refl _ _⟩
  case round =>
    obtain ⟨rfl, rfl, hB⟩ := hrel
    have HB := Lib.hid hB
    clear hB
    go_wp2_with fail
    refine (insNil _ _).mono ?_
    rintro e w' ⟨rfl, hb⟩
    have HB2 := Lib.hid (HB.out.trans (hb.mono HB.out.size))
    clear hb HB
    go_wp2_with fail
    go_loopw [6] (fun sv wr => sv = .int .i64 20 ∧ Below w.heap.size w wr) (fun _ _ => 0)
    case atStart => exact ⟨rfl, HB2.out⟩
    case round =>
      obtain ⟨rfl, hB⟩ := hrel
      have HB := Lib.hid hB
      clear hB
      go_wp2_with fail
      go_end0
      exact ⟨rfl, HB.out⟩
set_option maxRecDepth 1000000 in
set_option maxHeartbeats 1000000 in
theorem sortNil (f : Value) (w : World) : Calls Tryz.prog 13 #[.slice none 0 0, f] w fun e w' => e = .returned (.tuple #[]) ∧ Below w.heap.size w w' := by
  go_enter Tryz.func13, Tryz.ntmps13
  go_wp2_with fail
  refine (stableNil _ _).mono ?_
  rintro e w' ⟨rfl, hb⟩
  have HB := Lib.hid hb
  clear hb
  go_wp2_with fail
  (try simp only [Exit.inBlock, Exit.then])
  refine bodyPost_end (results_none rfl _ _ _) rfl ?_
  exact ⟨rfl, HB.out⟩
end Go.Proofs.YtokbandookjdjaaGreat
