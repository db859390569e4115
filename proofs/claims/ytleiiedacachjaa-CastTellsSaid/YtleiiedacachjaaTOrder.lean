/- cast.Order: the news, sorted. -/
import Derived.Test.YtleiiedacachjaaTOrdC
import Derived.Test.YtleiiedacachjaaKAdm
import Derived.Test.YtleiiedacachjaaReg
namespace Go.Proofs.Ytleiiedacachjaa
open Go.RowKit
theorem undCo : Try.prog.underlying 66 = some (.struct (Try.prog.fieldsOf 66)) := by kernel_rfl
theorem infoCo : (Try.prog.info? 66).map (·.size) = some 6 := by kernel_rfl
theorem undCoS : Try.prog.underlying 87 = some (.slice 66) := by kernel_rfl
theorem undNl : Try.prog.underlying 22 = some (.slice 29) := by kernel_rfl
theorem infoC72 : ∃ i z, Try.prog.info? 66 = some i ∧ i.size = 6 ∧ i.zero = some z ∧ z.cells.size = 6 ∧ i.bytes = 72 := by
  have h : (Try.prog.info? 66).map (fun i => (i.size, i.zero.map (fun z => z.cells.size), i.bytes)) = some (6, some 6, 72) := by kernel_rfl
  cases hi : Try.prog.info? 66 with
  | none => rw [hi] at h; cases h
  | some i =>
    rw [hi] at h
    simp only [Option.map_some, Option.some.injEq, Prod.mk.injEq] at h
    obtain ⟨h1, h2, h3⟩ := h
    cases hz : i.zero with
    | none => rw [hz] at h2; cases h2
    | some z =>
      rw [hz] at h2
      simp only [Option.map_some, Option.some.injEq] at h2
      exact ⟨i, z, rfl, h1, hz, h2, h3⟩
theorem infoNw56 : ∃ i z, Try.prog.info? 29 = some i ∧ i.size = 5 ∧ i.zero = some z ∧ z.cells.size = 5 ∧ i.bytes = 56 := by
  have h : (Try.prog.info? 29).map (fun i => (i.size, i.zero.map (fun z => z.cells.size), i.bytes)) = some (5, some 5, 56) := by kernel_rfl
  cases hi : Try.prog.info? 29 with
  | none => rw [hi] at h; cases h
  | some i =>
    rw [hi] at h
    simp only [Option.map_some, Option.some.injEq, Prod.mk.injEq] at h
    obtain ⟨h1, h2, h3⟩ := h
    cases hz : i.zero with
    | none => rw [hz] at h2; cases h2
    | some z =>
      rw [hz] at h2
      simp only [Option.map_some, Option.some.injEq] at h2
      exact ⟨i, z, rfl, h1, hz, h2, h3⟩
theorem new_cells (w : World) (cs : List Value) (t : TypeId) : ∀ (i : Nat) u, cs[i]? = some u → (w.alloc (.cells cs.toArray t)).cell? ((⟨w.heap.size, 0, none⟩ : Addr).add i) = some u := fun i u hi => by
  rw [Addr.add_mid, Nat.zero_add, cell_of_row _ _ _ _ _ _ (heap_alloc_new w (.cells cs.toArray t)), ← Array.getElem?_toList]
  exact hi
theorem flat_take {α : Type} (f : α → List Value) {l : List α} {k : Nat} {x : α} (h : l[k]? = some x) : (l.take (k + 1)).flatMap f = (l.take k).flatMap f ++ f x := by
  rw [List.take_add_one, h]
  simp
theorem flat_getG {α : Type} {f : α → List Value} {s : Nat} (hf : ∀ x, (f x).length = s) : ∀ (l : List α) (k : Nat) (x : α), l[k]? = some x → ∀ (j : Nat) v, (f x)[j]? = some v → (l.flatMap f)[k * s + j]? = some v
  | [], k, x, h, j, v, hj => by simp at h
  | y :: l, 0, x, h, j, v, hj => by
    simp only [List.getElem?_cons_zero, Option.some.injEq] at h
    subst h
    have hlt := (List.getElem?_eq_some_iff.1 hj).1
    rw [Nat.zero_mul, Nat.zero_add, List.flatMap_cons, List.getElem?_append_left hlt]
    exact hj
  | y :: l, k + 1, x, h, j, v, hj => by
    have hy := hf y
    rw [List.flatMap_cons, List.getElem?_append_right (by rw [hy, Nat.succ_mul]; omega), hy]
    have e : (k + 1) * s + j - s = k * s + j := by rw [Nat.succ_mul]; omega
    rw [e]
    exact flat_getG hf l k x (by simpa using h) j v hj
theorem owns_formG {w : World} {base n s : Nat} {e : TypeId} {v : Value} {α : Type} {f : α → List Value} (hf : ∀ x, (f x).length = s) {l : List α} (h : w.ownsRow base e s v n (l.flatMap f)) (hv : v ≠ .slice none 0 0) :
    ∃ g c cur, v = .slice (some ⟨g, 0, none⟩) n c ∧ n ≤ c ∧ c ≤ maxLen ∧ base ≤ g ∧ w.heap[g]? = some (.cells cur e (0, 0)) ∧ ∀ (i : Nat) (x : α), l[i]? = some x → ∀ (c : Nat) u, (f x)[c]? = some u → cur[i * s + c]? = some u := by
  rcases h.2 with ⟨rfl, h1⟩ | ⟨g, cap, cur, rfl, hg, hh, hnc, hcm, hcs, htk⟩
  · exact absurd rfl hv
  · refine ⟨g, cap, cur, rfl, hnc, hcm, hg, hh, fun i x hi c u hu => ?_⟩
    have h1 := flat_getG hf l i x hi c u hu
    rw [← htk, List.getElem?_take] at h1
    split at h1
    · rw [← Array.getElem?_toList]; exact h1
    · cases h1
theorem own_neO {w : World} {base size n po : Nat} {e t : TypeId} {v : Value} {xs : List Value} {cs : Array Value} {fr : Nat × Nat} (h : w.ownsRow base e size v n xs) (hp : w.heap[po]? = some (.cells cs t fr)) (hne : t ≠ e) : v.ownBlock ≠ some po := by
  intro he
  rcases h.2 with ⟨rfl, _⟩ | ⟨g, cap, cur, rfl, _, hg, _⟩
  · simp [Value.ownBlock] at he
  · simp only [Value.ownBlock, Option.some.injEq] at he
    rw [he, hp] at hg
    simp only [Option.some.injEq, Obj.cells.injEq] at hg
    exact hne hg.2.1
def entC (q : CodE) : Ent := (q.x, .slice q.a q.x.cast.rain.length q.c)
def cellsQ (q : CodE) : List Value := cellsE (entC q)
theorem cellsQ_len (q : CodE) : (cellsQ q).length = 5 := rfl
theorem cellsQ_one (q : CodE) : ∀ v ∈ cellsQ q, v.oneCell' = true := fun v hv => by
  unfold cellsQ entC cellsE cellsN at hv
  simp only [List.mem_cons, List.not_mem_nil, or_false] at hv
  rcases hv with rfl | rfl | rfl | rfl | rfl <;> rfl
set_option maxRecDepth 100000 in
set_option maxHeartbeats 8000000 in
theorem order_core (L : List CodE) (a : Option Addr) (c : Nat) (w : World)
    (hat : ∀ (i : Nat) (q : CodE), L[i]? = some q → ∃ b o, a = some ⟨b, o, none⟩ ∧ b < w.heap.size ∧ w.rangeAt b (o + i * 5) (cellsQ q))
    (hr : ∀ q ∈ L, LArg (RList RSpan 2) 1 (.slice q.a q.x.cast.rain.length q.c) q.x.cast.rain w) (hI : ∀ q ∈ L, NewsI q.x) (hF : ∀ q ∈ L, FewN q.x) (hl : L.length ≤ 40) :
    Calls Try.prog 22 #[.slice a L.length c] w fun e w' => ∃ (L' : List CodE) (v : Value), e = .returned v ∧ L'.Perm L ∧ L'.Pairwise (fun p q => ¬ newsB q.x < newsB p.x) ∧ w'.ownsRow w.heap.size 29 5 v L'.length (L'.flatMap cellsQ) ∧ Below w.heap.size w w' := by
  obtain ⟨ic, zc, hic, hsz, hzc, hcz, hbc⟩ := infoC72
  obtain ⟨iN, zN, hiN, hszN, hzN, hczN, hbN⟩ := infoNw56
  have HAT := Lib.hid hat
  have HR := Lib.hid hr
  have HI := Lib.hid hI
  have HF := Lib.hid hF
  clear hat hr hI hF
  go_enter Try.func22, Try.ntmps22
  go_upto_region 2 with (at_make; refine wpList_make_own _ rfl _ _ 87 rfl w.heap.size 66 ic zc 6 undCoS hic hzc hsz .i64 .i64 _ L.length rfl rfl (by omega) (by rw [hbc]; omega) (by unfold maxLen; omega) (Nat.le_refl _) ?_; intro w1 hown hgr)
  have HO1 := Lib.hid hown
  have HB1 : Hid (Below w.heap.size w w1) := Lib.hid ((Below.refl _ _).grown hgr (Nat.le_refl _) (fun q e => by cases e))
  have HV1 : Hid ((.slice (some ⟨w.heap.size, 0, none⟩) 0 L.length : Value) ≠ .slice none 0 0) := Lib.hid (fun e => by cases e)
  generalize (.slice (some ⟨w.heap.size, 0, none⟩) 0 L.length : Value) = v1 at *
  clear hown hgr
  go_wp2_with fail
  go_loopw [3, 14] (fun tv iv wr => ∃ k : Nat, k ≤ L.length ∧ iv = .int .i64 k ∧ wr.ownsRow w.heap.size 66 6 tv k ((L.take k).flatMap encC) ∧ tv ≠ .slice none 0 0 ∧ Below w.heap.size w wr) (fun _ iv _ => L.length - (intOf iv).toNat)
  case atStart => exact ⟨0, Nat.zero_le _, rfl, HO1.out, HV1.out, HB1.out⟩
  case round =>
    obtain ⟨k, hk, rfl, ho, hv, hB⟩ := hrel
    rename Value => tv
    have HO := Lib.hid ho
    have HV := Lib.hid hv
    have HB := Lib.hid hB
    clear ho hv hB HO1 HV1 HB1
    by_cases hlt : k < L.length
    · obtain ⟨q, hq⟩ : ∃ q, L[k]? = some q := ⟨_, List.getElem?_eq_getElem hlt⟩
      obtain ⟨b, o, rfl, hbl, hrg⟩ := HAT.out k q hq
      have hm := List.mem_of_getElem? hq
      have HU := Lib.hid (HR.out q hm)
      have HNI := Lib.hid (HI.out q hm)
      have HFW := Lib.hid (HF.out q hm)
      have HE := Lib.hid (flat_take encC hq)
      unfold cellsQ entC cellsE cellsN at hrg
      dsimp only at hrg
      have HRG := Lib.hid (range_below hrg HB.out hbl)
      have HO2 := Lib.hid (HO.out.alloc (.cells #[.int .i64 q.x.kind, .int .i64 q.x.known, .int .i64 q.x.cast.id, .int .i64 q.x.cast.src, .slice q.a q.x.cast.rain.length q.c] 29))
      have HB2 := Lib.hid (HB.out.alloc HB.out.size (.cells #[.int .i64 q.x.kind, .int .i64 q.x.known, .int .i64 q.x.cast.id, .int .i64 q.x.cast.src, .slice q.a q.x.cast.rain.length q.c] 29))
      have HN2 := Lib.hid (heap_alloc_new wr (.cells #[.int .i64 q.x.kind, .int .i64 q.x.known, .int .i64 q.x.cast.id, .int .i64 q.x.cast.src, .slice q.a q.x.cast.rain.length q.c] 29))
      clear hq hm hrg HO HB
      go_upto_region 5 with (refine wpList_load_range (by first | (go_simp; done) | rfl) 29 _ rfl _ _ rfl _ _ HRG.out undNw rfl infoNw ?_)
      clear HRG
      generalize wr.alloc (.cells #[.int .i64 q.x.kind, .int .i64 q.x.known, .int .i64 q.x.cast.id, .int .i64 q.x.cast.src, .slice q.a q.x.cast.rain.length q.c] 29) = w2 at *
      generalize wr.heap.size = bN at *
      refine wp_region_noPanic ?_
      refine wp_region_held_drew (S := fun w' => w'.heap[bN]? = some (.cells #[.int .i64 q.x.kind, .int .i64 q.x.known, .int .i64 q.x.cast.id, .int .i64 q.x.cast.src, .slice q.a q.x.cast.rain.length q.c] 29 (0, 0)) ∧ Below w.heap.size w w') (by kernel_rfl) ⟨HN2.out, HB2.out.drew⟩ (fun hHeld => ?_)
      refine' wpAnyH_take (i := 0) (v := _) (by simp only [List.getElem?_toArray, List.getElem?_cons_zero]; exact rfl) (by kernel_rfl) (by kernel_rfl) (by kernel_rfl) (fun _ _ _ h => h) (Or.inl ⟨by rfl, ?y0x1⟩) hHeld ?r0x1
      case y0x1 => (intro w hSw; (try dsimp only at hSw); go_simp; try with_reducible rfl)
      try simp only [Act.put, List.setIfInBounds_toArray, List.set_cons_zero, List.set_cons_succ]
      refine' wpAnyH_take (i := 1) (v := _) (by simp only [List.getElem?_toArray, List.getElem?_cons_succ, List.getElem?_cons_zero]; exact rfl) (by kernel_rfl) (by kernel_rfl) (by kernel_rfl) (fun _ _ _ h => h) (Or.inl ⟨by rfl, ?y1x2⟩) hHeld ?r1x2
      case y1x2 => (intro w hSw; refine exec_load_row 29 ?_ ?_ _ ?_ 29 _ _ _ (hSw.1) undNw rfl infoNw; rotate_left 1; exact rfl; exact rfl)
      try simp only [Act.put, List.setIfInBounds_toArray, List.set_cons_zero, List.set_cons_succ]
      refine' wpAnyH_take (i := 3) (v := _) (by simp only [List.getElem?_toArray, List.getElem?_cons_succ, List.getElem?_cons_zero]; exact rfl) (by kernel_rfl) (by kernel_rfl) (by kernel_rfl) (fun _ _ _ h => h) (Or.inl ⟨by rfl, ?y3x3⟩) hHeld ?r3x3
      case y3x3 => (intro w hSw; refine exec_load_row 29 ?_ ?_ _ ?_ 29 _ _ _ (hSw.1) undNw rfl infoNw; rotate_left 1; exact rfl; exact rfl)
      try simp only [Act.put, List.setIfInBounds_toArray, List.set_cons_zero, List.set_cons_succ]
      refine wpAnyH_ready (rs := [2]) (by kernel_rfl) (by simp) ?_
      refine AllReadyH.cons (by simp only [List.getElem?_toArray, List.getElem?_cons_succ, List.getElem?_cons_zero]; exact rfl) (fun K hK => ?_) AllReadyH.nil
      go_simp
      refine (cbytes_any q.x (.slice q.a q.x.cast.rain.length q.c) _ (HU.out.below (stays_list stays_Span 2) hHeld.2) HNI.out.1 HNI.out.2 HFW.out.1 HFW.out.2).mono ?_
      rintro e w3 ⟨rfl, hb⟩
      have HOx := Lib.hid (owns_up HO2.out.drew hb)
      refine hK.out _ _ ⟨blk_below hHeld.1 hb (blk_lt hHeld.1), hHeld.2.trans (hb.mono hHeld.2.size)⟩ (fun hHeld => ?_)
      clear hK K hb
      try simp only [Act.put, List.setIfInBounds_toArray, List.set_cons_zero, List.set_cons_succ]
      refine' wpAnyH_take (i := 4) (v := _) (by simp only [List.getElem?_toArray, List.getElem?_cons_succ, List.getElem?_cons_zero]; exact rfl) (by kernel_rfl) (by kernel_rfl) (by kernel_rfl) (fun _ _ _ h => h) (Or.inl ⟨by rfl, ?y4x4⟩) hHeld ?r4x4
      case y4x4 => (intro w hSw; (try dsimp only at hSw); go_simp; try with_reducible rfl)
      try simp only [Act.put, List.setIfInBounds_toArray, List.set_cons_zero, List.set_cons_succ]
      refine wpAnyH_ready (rs := [5]) (by kernel_rfl) (by simp) ?_
      refine AllReadyH.cons (by simp only [List.getElem?_toArray, List.getElem?_cons_succ, List.getElem?_cons_zero]; exact rfl) (fun K hK => ?_) AllReadyH.nil
      go_simp
      have HNC := Lib.hid (new_cells w3 [.string ⟨(newsB q.x).toArray⟩, .int .i64 q.x.kind, .int .i64 q.x.known, .int .i64 q.x.cast.id, .int .i64 q.x.cast.src, .slice q.a q.x.cast.rain.length q.c] 66)
      have HO3 := Lib.hid (HOx.out.alloc (.cells #[.string ⟨(newsB q.x).toArray⟩, .int .i64 q.x.kind, .int .i64 q.x.known, .int .i64 q.x.cast.id, .int .i64 q.x.cast.src, .slice q.a q.x.cast.rain.length q.c] 66))
      have HB3 := Lib.hid (hHeld.2.alloc hHeld.2.size (.cells #[.string ⟨(newsB q.x).toArray⟩, .int .i64 q.x.kind, .int .i64 q.x.known, .int .i64 q.x.cast.id, .int .i64 q.x.cast.src, .slice q.a q.x.cast.rain.length q.c] 66))
      refine hK.out _ _ ⟨blk_below hHeld.1 ((Below.refl w3.heap.size w3).alloc (Nat.le_refl _) (.cells #[.string ⟨(newsB q.x).toArray⟩, .int .i64 q.x.kind, .int .i64 q.x.known, .int .i64 q.x.cast.id, .int .i64 q.x.cast.src, .slice q.a q.x.cast.rain.length q.c] 66)) (blk_lt hHeld.1), HB3.out⟩ (fun hHeld => ?_)
      clear hK K
      try simp only [Act.put, List.setIfInBounds_toArray, List.set_cons_zero, List.set_cons_succ]
      refine wpAnyH_ready (rs := [6]) (by kernel_rfl) (by simp) ?_
      refine AllReadyH.cons (by simp only [List.getElem?_toArray, List.getElem?_cons_succ, List.getElem?_cons_zero]; exact rfl) (fun K hK => ?_) AllReadyH.nil
      refine step_append_own rfl _ _ 87 rfl w.heap.size 66 ic zc 6 ic.bytes undCoS hic hzc hsz rfl hcz (by decide) _ k _ rfl HO3.out ⟨w3.heap.size, 0, none⟩ 1 1 [.string ⟨(newsB q.x).toArray⟩, .int .i64 q.x.kind, .int .i64 q.x.known, .int .i64 q.x.cast.id, .int .i64 q.x.cast.src, .slice q.a q.x.cast.rain.length q.c] rfl rfl HNC.out (encC_one q) (by unfold maxLen; omega) (by rw [hbc]; omega) HB3.out.size ?_
      intro v' w8 hown8 hgr8 hnil8
      have HO8 : Hid (w8.ownsRow w.heap.size 66 6 v' (k + 1) ((L.take (k + 1)).flatMap encC)) := Lib.hid (by
        rw [HE.out]
        exact hown8)
      have HB8 : Hid (Below w.heap.size w w8) := Lib.hid (HB3.out.grown hgr8 HB3.out.size (fun q e => (HO3.out.lt q e).1))
      have HV8 : Hid (v' ≠ .slice none 0 0) := Lib.hid (fun e => HV.out (hnil8.1 e).1)
      refine hK.out _ _ ⟨(hgr8.block bN (blk_lt hHeld.1) (fun e => own_neO HO3.out hHeld.1 (by decide) e.symm)).trans hHeld.1, HB8.out⟩ (fun hHeld => ?_)
      clear hK K hown8 hgr8 hnil8
      try simp only [Act.put, List.setIfInBounds_toArray, List.set_cons_zero, List.set_cons_succ]
      refine' wpAnyH_take (i := 7) (v := _) (by simp only [List.getElem?_toArray, List.getElem?_cons_succ, List.getElem?_cons_zero]; exact rfl) (by kernel_rfl) (by kernel_rfl) (by kernel_rfl) (fun _ _ _ h => h) (Or.inl ⟨by rfl, ?y7x5⟩) hHeld ?r7x5
      case y7x5 => (intro w hSw; (try dsimp only at hSw); go_simp; try with_reducible rfl)
      try simp only [Act.put, List.setIfInBounds_toArray, List.set_cons_zero, List.set_cons_succ]
      refine wpAnyH_done (by kernel_rfl) ?_ _
      refine NoPanic.normal ?_
      go_wp2_with fail
      go_roundw
      case rel => exact ⟨k + 1, by omega, by go_num, HO8.out, HV8.out, HB8.out⟩
      case measure => simp [intOf]; omega
    · obtain rfl : k = L.length := by omega
      rw [List.take_length] at HO
      obtain ⟨g, cg, cur, rfl, hc1, hc2, hgb, hh, hcur⟩ := owns_formG encC_len HO.out HV.out
      have HHK := Lib.hid (holdsK_row encC_len hh L hcur)
      have hgl := blk_lt hh
      have HGB := Lib.hid hgb
      clear hlt hk hh hcur HO HV hgb hc1 hc2
      go_wp2_with fail
      refine (sortC L g cg _ HHK.out hgl hl).mono ?_
      rintro e w3 ⟨rfl, L', hperm, hpw, hlen, hrg, hb3, hg3⟩
      have HP := Lib.hid hperm
      have HPW := Lib.hid hpw
      have HRG := Lib.hid hrg
      have HB3 := Lib.hid (HB.out.trans (hb3.mono HGB.out))
      clear hperm hpw hrg hb3 HHK HB HGB hgl
      rw [← hlen] at hl
      have HLEN := Lib.hid hlen
      rw [← HLEN.out]
      clear hlen
      go_upto_region 9 with (at_make; refine wpList_make_own _ rfl _ _ 22 rfl w3.heap.size 29 iN zN 5 undNl hiN hzN hszN .i64 .i64 _ L'.length rfl rfl (by omega) (by rw [hbN]; omega) (by unfold maxLen; omega) (Nat.le_refl _) ?_; intro w4 hown hgr)
      have HO4 := Lib.hid hown
      have HB4 : Hid (Below w3.heap.size w3 w4) := Lib.hid ((Below.refl _ _).grown hgr (Nat.le_refl _) (fun q e => by cases e))
      generalize (.slice (some ⟨w3.heap.size, 0, none⟩) 0 L'.length : Value) = v4 at *
      clear hown hgr
      go_wp2_with fail
      go_loopw [6, 33] (fun tv iv wy => ∃ j : Nat, j ≤ L'.length ∧ iv = .int .i64 j ∧ wy.ownsRow w3.heap.size 29 5 tv j ((L'.take j).flatMap cellsQ) ∧ Below w3.heap.size w3 wy) (fun _ iv _ => L'.length - (intOf iv).toNat)
      case atStart => exact ⟨0, Nat.zero_le _, rfl, HO4.out, HB4.out⟩
      case round =>
        obtain ⟨j, hj, rfl, ho, hB⟩ := hrel
        have HO := Lib.hid ho
        have HB := Lib.hid hB
        clear ho hB HO4 HB4
        by_cases hjl : j < L'.length
        · obtain ⟨q, hq⟩ : ∃ q, L'[j]? = some q := ⟨_, List.getElem?_eq_getElem hjl⟩
          have hrg := HRG.out j q hq
          have HE := Lib.hid (flat_take cellsQ hq)
          unfold encC CodE.u at hrg
          rw [Nat.zero_add] at hrg
          have HRG2 := Lib.hid (range_below hrg HB.out hg3)
          have HO5 := Lib.hid (HO.out.alloc (.cells #[.string ⟨(newsB q.x).toArray⟩, .int .i64 q.x.kind, .int .i64 q.x.known, .int .i64 q.x.cast.id, .int .i64 q.x.cast.src, .slice q.a q.x.cast.rain.length q.c] 66))
          have HB5 := Lib.hid (HB.out.alloc HB.out.size (.cells #[.string ⟨(newsB q.x).toArray⟩, .int .i64 q.x.kind, .int .i64 q.x.known, .int .i64 q.x.cast.id, .int .i64 q.x.cast.src, .slice q.a q.x.cast.rain.length q.c] 66))
          have HC5 := Lib.hid (heap_alloc_new wr (.cells #[.string ⟨(newsB q.x).toArray⟩, .int .i64 q.x.kind, .int .i64 q.x.known, .int .i64 q.x.cast.id, .int .i64 q.x.cast.src, .slice q.a q.x.cast.rain.length q.c] 66))
          clear hq hrg HO HB
          go_upto_region 12 with (refine wpList_load_range (by first | (go_simp; done) | rfl) 66 _ rfl _ _ rfl _ _ HRG2.out undCo rfl infoCo ?_)
          clear HRG2
          generalize wr.alloc (.cells #[.string ⟨(newsB q.x).toArray⟩, .int .i64 q.x.kind, .int .i64 q.x.known, .int .i64 q.x.cast.id, .int .i64 q.x.cast.src, .slice q.a q.x.cast.rain.length q.c] 66) = w5 at *
          generalize wr.heap.size = bC at *
          have HRC : Hid (w5.rangeAt bC 1 [.int .i64 q.x.kind, .int .i64 q.x.known, .int .i64 q.x.cast.id, .int .i64 q.x.cast.src, .slice q.a q.x.cast.rain.length q.c]) := Lib.hid (fun i u hu => by
            match i, hu with
            | 0, hu => cases hu; exact rowN HC5.out 1 _ rfl
            | 1, hu => cases hu; exact rowN HC5.out 2 _ rfl
            | 2, hu => cases hu; exact rowN HC5.out 3 _ rfl
            | 3, hu => cases hu; exact rowN HC5.out 4 _ rfl
            | 4, hu => cases hu; exact rowN HC5.out 5 _ rfl)
          have HNC := Lib.hid (new_cells w5 [.int .i64 q.x.kind, .int .i64 q.x.known, .int .i64 q.x.cast.id, .int .i64 q.x.cast.src, .slice q.a q.x.cast.rain.length q.c] 29)
          have HO6 := Lib.hid (HO5.out.alloc (.cells #[.int .i64 q.x.kind, .int .i64 q.x.known, .int .i64 q.x.cast.id, .int .i64 q.x.cast.src, .slice q.a q.x.cast.rain.length q.c] 29))
          have HB6 := Lib.hid (HB5.out.alloc HB5.out.size (.cells #[.int .i64 q.x.kind, .int .i64 q.x.known, .int .i64 q.x.cast.id, .int .i64 q.x.cast.src, .slice q.a q.x.cast.rain.length q.c] 29))
          clear HO5 HB5 HC5
          go_wp2_with (first | (refine wpList_load_range (by first | (go_simp; done) | rfl) 29 _ rfl _ _ rfl _ _ HRC.out undNw rfl infoNw ?_) | (at_builtin; refine Hid.out ?_))
          refine Lib.hid ?_
          refine wpList_append_own _ rfl _ _ 22 rfl w3.heap.size 29 iN zN 5 iN.bytes undNl hiN hzN hszN rfl hczN (by decide) _ j _ rfl HO6.out ⟨w5.heap.size, 0, none⟩ 1 1 [.int .i64 q.x.kind, .int .i64 q.x.known, .int .i64 q.x.cast.id, .int .i64 q.x.cast.src, .slice q.a q.x.cast.rain.length q.c] rfl rfl HNC.out (cellsQ_one q) (by unfold maxLen; omega) (by rw [hbN]; omega) HB6.out.size ?_
          intro v' w7 hown7 hgr7 _
          have HO7 : Hid (w7.ownsRow w3.heap.size 29 5 v' (j + 1) ((L'.take (j + 1)).flatMap cellsQ)) := Lib.hid (by
            rw [HE.out]
            exact hown7)
          have HB7 : Hid (Below w3.heap.size w3 w7) := Lib.hid (HB6.out.grown hgr7 HB6.out.size (fun q e => (HO6.out.lt q e).1))
          clear hown7 hgr7
          go_wp2_with fail
          go_roundw
          case rel => exact ⟨j + 1, by omega, by go_num, HO7.out, HB7.out⟩
          case measure => simp [intOf]; omega
        · obtain rfl : j = L'.length := by omega
          rw [List.take_length] at HO
          clear hjl hj
          go_wp2_with fail
          go_ret
          exact ⟨L', _, rfl, HP.out, HPW.out, row_base HO.out HB3.out.size, HB3.out.trans (HB.out.mono HB3.out.size)⟩
end Go.Proofs.Ytleiiedacachjaa
