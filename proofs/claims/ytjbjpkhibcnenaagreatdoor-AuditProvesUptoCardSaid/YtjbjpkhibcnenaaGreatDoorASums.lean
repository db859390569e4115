/- audit.sums. -/
import Derived.Maps.AppendAt
import Derived.Test.YtjbjpkhibcnenaaGreatDoorARows
namespace Go.Proofs.YtjbjpkhibcnenaaGreatDoor
open Go.RowKit
theorem undSpl : Tryz.prog.underlying 51 = some (.slice 53) := by kernel_rfl
theorem infoSp16 : ∃ i z, Tryz.prog.info? 53 = some i ∧ i.size = 2 ∧ i.zero = some z ∧ z.cells.size = 2 ∧ i.bytes = 16 := by
  have h : (Tryz.prog.info? 53).map (fun i => (i.size, i.zero.map (fun z => z.cells.size), i.bytes)) = some (2, some 2, 16) := by kernel_rfl
  cases hi : Tryz.prog.info? 53 with
  | none => rw [hi] at h; cases h
  | some i =>
    rw [hi] at h
    simp only [Option.map_some, Option.some.injEq, Prod.mk.injEq] at h
    obtain ⟨h1, h2, h3⟩ := h
    cases hz : i.zero with
    | none => rw [hz] at h2; cases h2
    | some z =>
      rw [hz] at h2
      simp only [Option.map_some, Option.some.injEq] at h2
      exact ⟨i, z, rfl, h1, hz, h2, h3⟩
def spV (l : List SpanV) : List Value := l.flatMap fun s => [.int .i64 s.lo, .int .i64 s.hi]
/-- a row of the call's own that holds L and has room for cap -/
def OwnC (cur : Array Value) (cap n : Nat) (L : List SpanV) : Prop := cur.size = cap * 2 ∧ n ≤ cap ∧ cap ≤ maxLen ∧ cur.toList.take (n * 2) = spV L ∧ L.length = n
def sumL (H : Int → Option PublicV) (pick : PublicV → SpanV) (f : Int) (k : Nat) : List SpanV := (List.range (k + 1)).map fun j => (sumN H pick f j).getD ⟨0, 0⟩
/-- the sums of no hour, one hour, .., as far as public data count -/
def IsSums (H : Int → Option PublicV) (pick : PublicV → SpanV) (f u : Int) (L : List SpanV) : Prop := ∀ j : Nat, L[j]? = if j = 0 ∨ f + j ≤ u then sumN H pick f j else none
def RetSums (H : Int → Option PublicV) (pick : PublicV → SpanV) (f u : Int) (w : World) (e : Ending) (w' : World) : Prop := ∃ v L, e = .returned v ∧ LArg RSpan 2 v L w' ∧ IsSums H pick f u L ∧ Below w.heap.size w w'
theorem retSums_mk {H : Int → Option PublicV} {pick : PublicV → SpanV} {f u : Int} {w w' : World} {v : Value} {L : List SpanV} (h1 : LArg RSpan 2 v L w') (h2 : IsSums H pick f u L) (h3 : Below w.heap.size w w') : RetSums H pick f u w (.returned v) w' := ⟨v, L, rfl, h1, h2, h3⟩
theorem right_len {p : PublicV} (h : rightPb p = true) : p.net.length = 3 := by
  unfold rightPb at h
  simp only [Bool.and_eq_true, decide_eq_true_eq] at h
  exact h.1.1
theorem netP_I {p : PublicV} {o : Int} (h : PbI p) : SpI (netP o p) := by
  unfold netP
  cases hs : p.net[o.toNat]? with
  | none => exact ⟨⟨by decide, by decide⟩, ⟨by decide, by decide⟩⟩
  | some s => exact h.2.2 s (List.mem_of_getElem? hs)
theorem spV_len (l : List SpanV) : (spV l).length = l.length * 2 := by
  unfold spV
  induction l with
  | nil => rfl
  | cons s l ih => rw [List.flatMap_cons, List.length_append, ih]; simp; omega
theorem spV_get : ∀ (l : List SpanV) (k : Nat) (s : SpanV), l[k]? = some s → (spV l)[k * 2]? = some (.int .i64 s.lo) ∧ (spV l)[k * 2 + 1]? = some (.int .i64 s.hi)
  | [], k, s, h => by simp at h
  | x :: l, 0, s, h => by
    simp only [List.getElem?_cons_zero, Option.some.injEq] at h
    subst h
    exact ⟨rfl, rfl⟩
  | x :: l, k + 1, s, h => by
    have h2 := spV_get l k s (by simpa using h)
    unfold spV at h2 ⊢
    rw [List.flatMap_cons]
    have e1 : (k + 1) * 2 = k * 2 + 2 := by omega
    rw [e1]
    exact h2
theorem OwnC.owns {w : World} {base g : Nat} {cur : Array Value} {cap n : Nat} {L : List SpanV} (h : OwnC cur cap n L) (hg : w.heap[g]? = some (.cells cur 53 (0, 0))) (hb : base ≤ g) : w.ownsRow base 53 2 (.slice (some ⟨g, 0, none⟩) n cap) n (spV L) :=
  ⟨by rw [spV_len, h.2.2.2.2], Or.inr ⟨g, cap, cur, rfl, hb, hg, h.2.1, h.2.2.1, h.1, h.2.2.2.1⟩⟩
theorem OwnC.of {w : World} {base : Nat} {v : Value} {n : Nat} {L : List SpanV} (h : w.ownsRow base 53 2 v n (spV L)) (hn : 0 < n) (hL : L.length = n) : ∃ g cap cur, v = .slice (some ⟨g, 0, none⟩) n cap ∧ w.heap[g]? = some (.cells cur 53 (0, 0)) ∧ OwnC cur cap n L := by
  rcases h.2 with ⟨_, h0⟩ | ⟨g, cap, cur, h1, _, h3, h4, h5, h6, h7⟩
  · omega
  · exact ⟨g, cap, cur, h1, h3, h6, h4, h5, h7, hL⟩
theorem sumL_len (H : Int → Option PublicV) (pick : PublicV → SpanV) (f : Int) (k : Nat) : (sumL H pick f k).length = k + 1 := by simp [sumL]
theorem sumL_succ {H : Int → Option PublicV} {pick : PublicV → SpanV} {f : Int} {k : Nat} {t : SpanV} (h : sumN H pick f (k + 1) = some t) : sumL H pick f (k + 1) = sumL H pick f k ++ [t] := by
  unfold sumL
  rw [List.range_succ (n := k + 1), List.map_append, List.map_singleton, h]
  rfl
theorem sumN_pre {H : Int → Option PublicV} {pick : PublicV → SpanV} {f : Int} {k : Nat} {t : SpanV} (h : sumN H pick f k = some t) {j : Nat} (hj : j ≤ k) : ∃ s, sumN H pick f j = some s := by
  induction k generalizing t with
  | zero => exact ⟨t, by rw [show j = 0 by omega]; exact h⟩
  | succ k ih =>
    by_cases e : j = k + 1
    · exact ⟨t, by rw [e]; exact h⟩
    · unfold sumN at h
      split at h
      · next a b h1 h2 => exact ih h1 (by omega)
      · cases h
theorem isSums_mk {H : Int → Option PublicV} {pick : PublicV → SpanV} {f u : Int} {k : Nat} {t : SpanV} (h : sumN H pick f k = some t) (hk : k = 0 ∨ f + k ≤ u) (hend : ¬ f + k < u ∨ H (f + k) = none) : IsSums H pick f u (sumL H pick f k) := by
  intro j
  by_cases hj : j ≤ k
  · rw [if_pos (by omega)]
    obtain ⟨s, hs⟩ := sumN_pre h hj
    unfold sumL
    rw [List.getElem?_map, List.getElem?_range (by omega), Option.map_some, hs]
    rfl
  · rw [List.getElem?_eq_none (by rw [sumL_len]; omega)]
    rcases hend with h1 | h1
    · rw [if_neg (by omega)]
    · split
      · rw [sumN_stop h1 j (by omega)]
      · rfl
theorem larg_sums {w : World} {g cap n : Nat} {cur : Array Value} {L : List SpanV} (h : OwnC cur cap n L) (hg : w.heap[g]? = some (.cells cur 53 (0, 0))) (hI : ∀ s ∈ L, SpI s) : LArg RSpan 2 (.slice (some ⟨g, 0, none⟩) n cap) L w := by
  obtain ⟨h1, h2, h3, h4, h5⟩ := h
  refine ⟨some ⟨g, 0, none⟩, cap, by rw [h5], by omega, h3, fun j s hj => ⟨g, 0, [.int .i64 s.lo, .int .i64 s.hi], rfl, blk_lt hg, rfl, ?_, rfl, hI s (List.mem_of_getElem? hj)⟩⟩
  obtain ⟨e1, e2⟩ := spV_get L j s hj
  have hlt := (List.getElem?_eq_some_iff.1 hj).1
  rw [← h4, List.getElem?_take, if_pos (by omega)] at e1 e2
  rw [Nat.zero_add]
  exact range2 (by rw [cell_of_row _ _ _ _ _ _ hg, ← Array.getElem?_toList]; exact e1) (by rw [cell_of_row _ _ _ _ _ _ hg, ← Array.getElem?_toList]; exact e2)
theorem sumL_I (H : Int → Option PublicV) (pick : PublicV → SpanV) (f : Int) (k : Nat) : ∀ s ∈ sumL H pick f k, SpI s := by
  intro s hs
  unfold sumL at hs
  obtain ⟨j, _, rfl⟩ := List.mem_map.1 hs
  cases h : sumN H pick f j with
  | none => exact ⟨⟨by decide, by decide⟩, ⟨by decide, by decide⟩⟩
  | some t => exact sumN_bd h
set_option maxRecDepth 100000 in
set_option maxHeartbeats 8000000 in
theorem sumsM_any (pubs : List PublicV) (mb : Nat) (f u : Int)  (w : World) (hH : HoursAt mb pubs w) (hf : I64 f) (hu : I64 u) (hI : ∀ p ∈ pubs, PbI p) (hl : pubs.length ≤ 1000)  :
    Calls Tryz.prog 43 #[.map (some mb), .int .i64 f, .int .i64 u, .func (.func 55) #[] #[]] w (RetSums (hoursF pubs) (mouthP) f u w) := by
  obtain ⟨ic, zc, hic, hsz, hzc, hcz, hbc⟩ := infoSp16
  have HH := Lib.hid hH
  have HPK : Hid (∀ p ∈ pubs, rightPb p = true → SpI (mouthP p)) := Lib.hid (fun p hp hr => by exact (hI p hp).2.1)
  have hf2 := hf
  have hu2 := hu
  unfold I64 at hf hu
  clear hH
  go_enter Tryz.func43, Tryz.ntmps43
  go_wp2_with fail
  refine (ofSp_any 0 _).mono ?_
  rintro e w1 ⟨rfl, hb1⟩
  have HR0 : Hid (RowsS w [] w1) := Lib.hid ((RowsS.nil w).step hb1)
  clear hb1
  have HA1 := Lib.hid (heap_alloc_new w1 (.cells #[.int .i64 0, .int .i64 0] 53))
  go_upto_region 3 with (refine wpList_load_rowW (by first | (go_simp; done) | rfl) 53 _ rfl _ rfl 53 _ _ _ HA1.out undSp rfl infoSp ?_)
  have s1 : (w1.alloc (.cells #[.int .i64 0, .int .i64 0] 53)).heap.size = w1.heap.size + 1 := by simp
  have HR : Hid (RowsS w [(w1.heap.size, .cells #[.int .i64 0, .int .i64 0] 53), (w1.heap.size + 1, .cells #[.int .i64 0, .int .i64 0] 53)] ((w1.alloc (.cells #[.int .i64 0, .int .i64 0] 53)).alloc (.cells #[.int .i64 0, .int .i64 0] 53))) := Lib.hid (by
    have := (HR0.out.alloc (.cells #[.int .i64 0, .int .i64 0] 53)).alloc (.cells #[.int .i64 0, .int .i64 0] 53)
    rw [s1] at this
    exact this)
  clear s1 HA1 HR0
  generalize (w1.alloc (.cells #[.int .i64 0, .int .i64 0] 53)).alloc (.cells #[.int .i64 0, .int .i64 0] 53) = w2 at *
  generalize w1.heap.size + 1 = g0 at *
  generalize w1.heap.size = bT at *
  go_wp2_with fail
  go_loopw [10, 11] (fun sv hv wx => ∃ (k : Nat) (t : SpanV) (g cap : Nat) (cur : Array Value), hv = .int .i64 (f + k) ∧ sv = .slice (some ⟨g, 0, none⟩) (k + 1) cap ∧ sumN (hoursF pubs) (mouthP) f k = some t ∧ (k = 0 ∨ f + k ≤ u) ∧ OwnC cur cap (k + 1) (sumL (hoursF pubs) (mouthP) f k) ∧ RowsS w [(bT, .cells #[.int .i64 t.lo, .int .i64 t.hi] 53), (g, .cells cur 53)] wx) (fun _ hv _ => (u - Go.RowKit.intOf hv).toNat)
  case atStart => exact ⟨0, ⟨0, 0⟩, g0, 1, #[.int .i64 0, .int .i64 0], by rw [show f + ((0 : Nat) : Int) = f by omega], rfl, rfl, Or.inl rfl, ⟨rfl, by decide, by decide, rfl, rfl⟩, HR.out⟩
  case round =>
    obtain ⟨k, t, g, cap, cur, rfl, rfl, ht, hk, hoc, hr⟩ := hrel
    have HTS := Lib.hid ht
    have HT := Lib.hid (sumN_bd ht)
    have HK := Lib.hid hk
    have HOC := Lib.hid hoc
    have HR := Lib.hid hr
    have hkl := sumN_len ht
    clear ht hk hoc hr
    by_cases hlt : f + (k : Int) < u
    · have hi : I64 (f + k) := ⟨by omega, by omega⟩
      have hlk := (HH.out.below HR.out.below).look hi
      cases hp : hoursF pubs (f + k) with
      | none =>
        rw [hp] at hlk
        unfold zPb at hlk
        dsimp only at hlk
        have HE := Lib.hid (isSums_mk HTS.out HK.out (Or.inr hp))
        have HRA := Lib.hid (HR.out.alloc (.cells #[.int .i64 0, .slice none 0 0, .int .i64 0, .int .i64 0] 55))
        clear hp
        go_wp2_with fail
        go_ret
        exact retSums_mk (larg_sums HOC.out (HRA.out.rows 1 _ rfl) (sumL_I _ _ _ _)) HE.out HRA.out.below
      | some p =>
        rw [hp] at hlk
        obtain ⟨v, hlk, hv⟩ := hlk
        obtain ⟨an, nc, rfl, hnl, hnm⟩ := hv.slice
        obtain ⟨hpm, -, hpr⟩ := hoursF_mem hp
        have HTN := Lib.hid (sumN_succ (pick := mouthP) HTS.out hp)
        have HMP := Lib.hid hpm
        have HRP := Lib.hid hpr
        have hal : Below wr.heap.size wr (wr.alloc (.cells #[.int .i64 p.hour, .slice an p.net.length nc, .int .i64 p.mouth.lo, .int .i64 p.mouth.hi] 55)) := (Below.refl _ _).alloc (Nat.le_refl _) _
        have HV3 := Lib.hid (hv.below stays_Span hal)
        have HR3 := Lib.hid (HR.out.alloc (.cells #[.int .i64 p.hour, .slice an p.net.length nc, .int .i64 p.mouth.lo, .int .i64 p.mouth.hi] 55))
        unfold pbV at hlk
        dsimp only at hlk
        clear hp hpm hpr hv hnl hnm hal HR
        go_upto_region 8 with fail
        clear hlk
        generalize wr.alloc (.cells #[.int .i64 p.hour, .slice an p.net.length nc, .int .i64 p.mouth.lo, .int .i64 p.mouth.hi] 55) = w3 at *
        generalize wr.heap.size = bP at *
        go_cut [] (fun w5 => RowsS w [(bT, .cells #[.int .i64 (addSp t (mouthP p)).lo, .int .i64 (addSp t (mouthP p)).hi] 53), (g, .cells cur 53), (bP, .cells #[.int .i64 p.hour, .slice an p.net.length nc, .int .i64 p.mouth.lo, .int .i64 p.mouth.hi] 55)] w5)
        case first =>
          obtain ⟨hRs, hZT, hgT, hnT⟩ := HR3.out.split
          refine wp_region_noPanic ?_
          refine wp_region_held_drew (S := fun cw => RowsS w [(g, .cells cur 53), (bP, .cells #[.int .i64 p.hour, .slice an p.net.length nc, .int .i64 p.mouth.lo, .int .i64 p.mouth.hi] 55)] cw) (by kernel_rfl) (hRs.drew) (fun hHeld => ?_)
          refine tn 1 ?_
          try simp only [Act.put, aL1, aL2, aL3]
          refine tn 2 ?_ (hx := fun wz hSw => by refine exec_load_row 55 ?_ ?_ _ ?_ 55 _ _ _ (hSw.row 1 rfl) undPb rfl infoPb; rotate_left 1; exact rfl; exact rfl)
          try simp only [Act.put, aL1, aL2, aL3]
          refine rd2 0 3 (fun K hK => ?_) (fun K hK => ?_)
          · rw [if_pos (by rfl)]
            refine wp_load_row 53 _ rfl bT rfl 53 _ (0, 0) _ hZT undSp rfl infoSp ?_
            refine hK.out _ _ hHeld (fun hHeld => ?_)
            clear hK K
            try simp only [Act.put, aL1, aL2, aL3]
            refine rd1 3 (fun K hK => ?_)
            go_simp
            refine (mouth_any p (.slice an p.net.length nc) _).mono ?_
            rintro e w' ⟨rfl, hb⟩
            have hZT := (hb.block bT (blk_lt hZT)).trans hZT
            refine hK.out _ _ (hHeld.step hb) (fun hHeld => ?_)
            clear hK K
            try simp only [Act.put, aL1, aL2, aL3]
            refine rd1 4 (fun K hK => ?_)
            go_simp
            refine (addSp_any t (mouthP p) _ HT.out (HPK.out p HMP.out HRP.out)).mono ?_
            rintro e w' ⟨rfl, hb⟩
            have hZT := (hb.block bT (blk_lt hZT)).trans hZT
            refine hK.out _ _ (hHeld.step hb) (fun hHeld => ?_)
            clear hK K
            try simp only [Act.put, aL1, aL2, aL3]
            refine rd1 5 (fun K hK => ?_)
            rw [if_pos (by rfl)]
            refine wp_store_row 53 _ _ rfl bT #[.int .i64 (addSp t (mouthP p)).lo, .int .i64 (addSp t (mouthP p)).hi] rfl rfl 53 #[.int .i64 t.lo, .int .i64 t.hi] hZT infoSp rfl (by simp [Value.oneCell']) ?_
            have hZT := setRow_heap _ _ _ #[.int .i64 (addSp t (mouthP p)).lo, .int .i64 (addSp t (mouthP p)).hi] _ _ hZT
            refine hK.out _ _ (hHeld.setOther hgT hnT _) (fun hHeld => ?_)
            clear hK K
            try simp only [Act.put]
            refine rdone (NoPanic.normal ?_)
            have HR4 := Lib.hid (hHeld.cons hZT hgT hnT)
            go_wp2_with fail
            go_meet
            exact HR4.out
          · go_simp
            refine (mouth_any p (.slice an p.net.length nc) _).mono ?_
            rintro e w' ⟨rfl, hb⟩
            have hZT := (hb.block bT (blk_lt hZT)).trans hZT
            refine hK.out _ _ (hHeld.step hb) (fun hHeld => ?_)
            clear hK K
            try simp only [Act.put, aL1, aL2, aL3]
            refine rd1 0 (fun K hK => ?_)
            rw [if_pos (by rfl)]
            refine wp_load_row 53 _ rfl bT rfl 53 _ (0, 0) _ hZT undSp rfl infoSp ?_
            refine hK.out _ _ hHeld (fun hHeld => ?_)
            clear hK K
            try simp only [Act.put, aL1, aL2, aL3]
            refine rd1 4 (fun K hK => ?_)
            go_simp
            refine (addSp_any t (mouthP p) _ HT.out (HPK.out p HMP.out HRP.out)).mono ?_
            rintro e w' ⟨rfl, hb⟩
            have hZT := (hb.block bT (blk_lt hZT)).trans hZT
            refine hK.out _ _ (hHeld.step hb) (fun hHeld => ?_)
            clear hK K
            try simp only [Act.put, aL1, aL2, aL3]
            refine rd1 5 (fun K hK => ?_)
            rw [if_pos (by rfl)]
            refine wp_store_row 53 _ _ rfl bT #[.int .i64 (addSp t (mouthP p)).lo, .int .i64 (addSp t (mouthP p)).hi] rfl rfl 53 #[.int .i64 t.lo, .int .i64 t.hi] hZT infoSp rfl (by simp [Value.oneCell']) ?_
            have hZT := setRow_heap _ _ _ #[.int .i64 (addSp t (mouthP p)).lo, .int .i64 (addSp t (mouthP p)).hi] _ _ hZT
            refine hK.out _ _ (hHeld.setOther hgT hnT _) (fun hHeld => ?_)
            clear hK K
            try simp only [Act.put]
            refine rdone (NoPanic.normal ?_)
            have HR4 := Lib.hid (hHeld.cons hZT hgT hnT)
            go_wp2_with fail
            go_meet
            exact HR4.out
        have HR4 := Lib.hid hcut
        clear hcut HR3
        rename World => w5
        have HR5 := Lib.hid (HR4.out.alloc (.cells #[.int .i64 (addSp t (mouthP p)).lo, .int .i64 (addSp t (mouthP p)).hi] 53))
        have HOW := Lib.hid (HOC.out.owns (base := w.heap.size) (HR5.out.rows 1 _ rfl) (HR5.out.ge _ (List.mem_of_getElem? (i := 1) rfl)))
        have hnew : ∀ i x, ([.int .i64 (addSp t (mouthP p)).lo, .int .i64 (addSp t (mouthP p)).hi] : List Value)[i]? = some x → (w5.alloc (.cells #[.int .i64 (addSp t (mouthP p)).lo, .int .i64 (addSp t (mouthP p)).hi] 53)).cell? ((⟨w5.heap.size, 0, none⟩ : Addr).add i) = some x := fun i x hx => by
          rw [Addr.add_mid, Nat.zero_add, cell_of_row _ _ _ _ _ _ (heap_alloc_new w5 (.cells #[.int .i64 (addSp t (mouthP p)).lo, .int .i64 (addSp t (mouthP p)).hi] 53)), ← Array.getElem?_toList]
          exact hx
        have hbs : w.heap.size ≤ (w5.alloc (.cells #[.int .i64 (addSp t (mouthP p)).lo, .int .i64 (addSp t (mouthP p)).hi] 53)).heap.size := HR5.out.below.size
        go_wp2_with (first | (refine wpList_load_rowW (by first | (go_simp; done) | rfl) 53 _ rfl _ rfl 53 _ _ _ (HR4.out.rows 0 _ rfl) undSp rfl infoSp ?_) | (at_builtin; refine Hid.out ?_))
        refine Lib.hid ?_
        refine wpList_append_own_at _ rfl _ _ 51 rfl w.heap.size 53 ic zc 2 ic.bytes undSpl hic hzc hsz rfl hcz (by decide) (.slice (some ⟨g, 0, none⟩) (k + 1) cap) (k + 1) _ rfl HOW.out ⟨w5.heap.size, 0, none⟩ 1 1 [.int .i64 (addSp t (mouthP p)).lo, .int .i64 (addSp t (mouthP p)).hi] rfl rfl hnew (by simp [Value.oneCell']) (by unfold maxLen; omega) (by rw [hbc]; omega) hbs ?_
        intro v' w6 hown6 hgr6 _ hat6
        have hxs : spV (sumL (hoursF pubs) (mouthP) f k) ++ [.int .i64 (addSp t (mouthP p)).lo, .int .i64 (addSp t (mouthP p)).hi] = spV (sumL (hoursF pubs) (mouthP) f (k + 1)) := by
          rw [sumL_succ HTN.out]
          unfold spV
          rw [List.flatMap_append]
          rfl
        rw [hxs] at hown6
        obtain ⟨g', cap', cur', rfl, hg', hoc'⟩ := OwnC.of hown6 (by omega) (sumL_len _ _ _ _)
        have hat : g' = g ∨ g' = (w5.alloc (.cells #[.int .i64 (addSp t (mouthP p)).lo, .int .i64 (addSp t (mouthP p)).hi] 53)).heap.size := by simpa [Value.ownBlock] using hat6
        have HR6 := Lib.hid ((HR5.out.grow (i := 1) (g := g) rfl hgr6 hat hg').take 2)
        have HOC' := Lib.hid hoc'
        have HK' : Hid (k + 1 = 0 ∨ f + ((k + 1 : Nat) : Int) ≤ u) := Lib.hid (Or.inr (by omega))
        clear hown6 hgr6 hat6 hxs hat hg' hoc' hnew HOW HR5 HR4 hbs
        go_wp2_with fail
        go_roundw
        case rel => exact ⟨k + 1, (addSp t (mouthP p)), g', cap', cur', by go_num, rfl, HTN.out, HK'.out, HOC'.out, HR6.out⟩
        case measure => simp [Go.RowKit.intOf]; omega
    · have HE := Lib.hid (isSums_mk HTS.out HK.out (Or.inl hlt))
      go_wp2_with fail
      go_ret
      exact retSums_mk (larg_sums HOC.out (HR.out.rows 1 _ rfl) (sumL_I _ _ _ _)) HE.out HR.out.below
set_option maxRecDepth 100000 in
set_option maxHeartbeats 8000000 in
theorem sumsN_any (pubs : List PublicV) (mb : Nat) (f u : Int)  (w : World) (hH : HoursAt mb pubs w) (hf : I64 f) (hu : I64 u) (hI : ∀ p ∈ pubs, PbI p) (hl : pubs.length ≤ 1000) (o ob : Nat) (ho : o < 3) (hob : w.cell? ⟨ob, 0, none⟩ = some (.int .i64 (o : Int))) (hobl : ob < w.heap.size) :
    Calls Tryz.prog 43 #[.map (some mb), .int .i64 f, .int .i64 u, .func (.func 80) #[] #[.pointer (some ⟨ob, 0, none⟩)]] w (RetSums (hoursF pubs) (netP o) f u w) := by
  obtain ⟨ic, zc, hic, hsz, hzc, hcz, hbc⟩ := infoSp16
  have HH := Lib.hid hH
  have HPK : Hid (∀ p ∈ pubs, rightPb p = true → SpI (netP o p)) := Lib.hid (fun p hp hr => by exact netP_I (hI p hp))
  have hf2 := hf
  have hu2 := hu
  unfold I64 at hf hu
  have HOB := Lib.hid hob
  clear hH hob
  go_enter Tryz.func43, Tryz.ntmps43
  go_wp2_with fail
  refine (ofSp_any 0 _).mono ?_
  rintro e w1 ⟨rfl, hb1⟩
  have HR0 : Hid (RowsS w [] w1) := Lib.hid ((RowsS.nil w).step hb1)
  clear hb1
  have HA1 := Lib.hid (heap_alloc_new w1 (.cells #[.int .i64 0, .int .i64 0] 53))
  go_upto_region 3 with (refine wpList_load_rowW (by first | (go_simp; done) | rfl) 53 _ rfl _ rfl 53 _ _ _ HA1.out undSp rfl infoSp ?_)
  have s1 : (w1.alloc (.cells #[.int .i64 0, .int .i64 0] 53)).heap.size = w1.heap.size + 1 := by simp
  have HR : Hid (RowsS w [(w1.heap.size, .cells #[.int .i64 0, .int .i64 0] 53), (w1.heap.size + 1, .cells #[.int .i64 0, .int .i64 0] 53)] ((w1.alloc (.cells #[.int .i64 0, .int .i64 0] 53)).alloc (.cells #[.int .i64 0, .int .i64 0] 53))) := Lib.hid (by
    have := (HR0.out.alloc (.cells #[.int .i64 0, .int .i64 0] 53)).alloc (.cells #[.int .i64 0, .int .i64 0] 53)
    rw [s1] at this
    exact this)
  clear s1 HA1 HR0
  generalize (w1.alloc (.cells #[.int .i64 0, .int .i64 0] 53)).alloc (.cells #[.int .i64 0, .int .i64 0] 53) = w2 at *
  generalize w1.heap.size + 1 = g0 at *
  generalize w1.heap.size = bT at *
  go_wp2_with fail
  go_loopw [10, 11] (fun sv hv wx => ∃ (k : Nat) (t : SpanV) (g cap : Nat) (cur : Array Value), hv = .int .i64 (f + k) ∧ sv = .slice (some ⟨g, 0, none⟩) (k + 1) cap ∧ sumN (hoursF pubs) (netP o) f k = some t ∧ (k = 0 ∨ f + k ≤ u) ∧ OwnC cur cap (k + 1) (sumL (hoursF pubs) (netP o) f k) ∧ RowsS w [(bT, .cells #[.int .i64 t.lo, .int .i64 t.hi] 53), (g, .cells cur 53)] wx) (fun _ hv _ => (u - Go.RowKit.intOf hv).toNat)
  case atStart => exact ⟨0, ⟨0, 0⟩, g0, 1, #[.int .i64 0, .int .i64 0], by rw [show f + ((0 : Nat) : Int) = f by omega], rfl, rfl, Or.inl rfl, ⟨rfl, by decide, by decide, rfl, rfl⟩, HR.out⟩
  case round =>
    obtain ⟨k, t, g, cap, cur, rfl, rfl, ht, hk, hoc, hr⟩ := hrel
    have HTS := Lib.hid ht
    have HT := Lib.hid (sumN_bd ht)
    have HK := Lib.hid hk
    have HOC := Lib.hid hoc
    have HR := Lib.hid hr
    have hkl := sumN_len ht
    clear ht hk hoc hr
    by_cases hlt : f + (k : Int) < u
    · have hi : I64 (f + k) := ⟨by omega, by omega⟩
      have hlk := (HH.out.below HR.out.below).look hi
      cases hp : hoursF pubs (f + k) with
      | none =>
        rw [hp] at hlk
        unfold zPb at hlk
        dsimp only at hlk
        have HE := Lib.hid (isSums_mk HTS.out HK.out (Or.inr hp))
        have HRA := Lib.hid (HR.out.alloc (.cells #[.int .i64 0, .slice none 0 0, .int .i64 0, .int .i64 0] 55))
        clear hp
        go_wp2_with fail
        go_ret
        exact retSums_mk (larg_sums HOC.out (HRA.out.rows 1 _ rfl) (sumL_I _ _ _ _)) HE.out HRA.out.below
      | some p =>
        rw [hp] at hlk
        obtain ⟨v, hlk, hv⟩ := hlk
        obtain ⟨an, nc, rfl, hnl, hnm⟩ := hv.slice
        obtain ⟨hpm, -, hpr⟩ := hoursF_mem hp
        have HTN := Lib.hid (sumN_succ (pick := netP o) HTS.out hp)
        have HMP := Lib.hid hpm
        have HRP := Lib.hid hpr
        have hal : Below wr.heap.size wr (wr.alloc (.cells #[.int .i64 p.hour, .slice an p.net.length nc, .int .i64 p.mouth.lo, .int .i64 p.mouth.hi] 55)) := (Below.refl _ _).alloc (Nat.le_refl _) _
        have HV3 := Lib.hid (hv.below stays_Span hal)
        have HR3 := Lib.hid (HR.out.alloc (.cells #[.int .i64 p.hour, .slice an p.net.length nc, .int .i64 p.mouth.lo, .int .i64 p.mouth.hi] 55))
        unfold pbV at hlk
        dsimp only at hlk
        clear hp hpm hpr hv hnl hnm hal HR
        go_upto_region 8 with fail
        clear hlk
        generalize wr.alloc (.cells #[.int .i64 p.hour, .slice an p.net.length nc, .int .i64 p.mouth.lo, .int .i64 p.mouth.hi] 55) = w3 at *
        generalize wr.heap.size = bP at *
        go_cut [] (fun w5 => RowsS w [(bT, .cells #[.int .i64 (addSp t (netP o p)).lo, .int .i64 (addSp t (netP o p)).hi] 53), (g, .cells cur 53), (bP, .cells #[.int .i64 p.hour, .slice an p.net.length nc, .int .i64 p.mouth.lo, .int .i64 p.mouth.hi] 55)] w5)
        case first =>
          obtain ⟨hRs, hZT, hgT, hnT⟩ := HR3.out.split
          refine wp_region_noPanic ?_
          refine wp_region_held_drew (S := fun cw => RowsS w [(g, .cells cur 53), (bP, .cells #[.int .i64 p.hour, .slice an p.net.length nc, .int .i64 p.mouth.lo, .int .i64 p.mouth.hi] 55)] cw) (by kernel_rfl) (hRs.drew) (fun hHeld => ?_)
          refine tn 1 ?_
          try simp only [Act.put, aL1, aL2, aL3]
          refine tn 2 ?_ (hx := fun wz hSw => by refine exec_load_row 55 ?_ ?_ _ ?_ 55 _ _ _ (hSw.row 1 rfl) undPb rfl infoPb; rotate_left 1; exact rfl; exact rfl)
          try simp only [Act.put, aL1, aL2, aL3]
          refine rd2 0 3 (fun K hK => ?_) (fun K hK => ?_)
          · rw [if_pos (by rfl)]
            refine wp_load_row 53 _ rfl bT rfl 53 _ (0, 0) _ hZT undSp rfl infoSp ?_
            refine hK.out _ _ hHeld (fun hHeld => ?_)
            clear hK K
            try simp only [Act.put, aL1, aL2, aL3]
            refine rd1 3 (fun K hK => ?_)
            go_simp
            refine (net1_any p (.slice an p.net.length nc) o ob _ (HV3.out.below stays_Span (Below.refl _ _).drew) (right_len HRP.out) ho ((hHeld.below.cell (p := ⟨ob, 0, none⟩) hobl).trans HOB.out) (Nat.lt_of_lt_of_le hobl hHeld.below.size)).mono ?_
            rintro e w' ⟨rfl, hb⟩
            have hZT := (hb.block bT (blk_lt hZT)).trans hZT
            refine hK.out _ _ (hHeld.step hb) (fun hHeld => ?_)
            clear hK K
            try simp only [Act.put, aL1, aL2, aL3]
            refine rd1 4 (fun K hK => ?_)
            go_simp
            refine (addSp_any t (netP o p) _ HT.out (HPK.out p HMP.out HRP.out)).mono ?_
            rintro e w' ⟨rfl, hb⟩
            have hZT := (hb.block bT (blk_lt hZT)).trans hZT
            refine hK.out _ _ (hHeld.step hb) (fun hHeld => ?_)
            clear hK K
            try simp only [Act.put, aL1, aL2, aL3]
            refine rd1 5 (fun K hK => ?_)
            rw [if_pos (by rfl)]
            refine wp_store_row 53 _ _ rfl bT #[.int .i64 (addSp t (netP o p)).lo, .int .i64 (addSp t (netP o p)).hi] rfl rfl 53 #[.int .i64 t.lo, .int .i64 t.hi] hZT infoSp rfl (by simp [Value.oneCell']) ?_
            have hZT := setRow_heap _ _ _ #[.int .i64 (addSp t (netP o p)).lo, .int .i64 (addSp t (netP o p)).hi] _ _ hZT
            refine hK.out _ _ (hHeld.setOther hgT hnT _) (fun hHeld => ?_)
            clear hK K
            try simp only [Act.put]
            refine rdone (NoPanic.normal ?_)
            have HR4 := Lib.hid (hHeld.cons hZT hgT hnT)
            go_wp2_with fail
            go_meet
            exact HR4.out
          · go_simp
            refine (net1_any p (.slice an p.net.length nc) o ob _ (HV3.out.below stays_Span (Below.refl _ _).drew) (right_len HRP.out) ho ((hHeld.below.cell (p := ⟨ob, 0, none⟩) hobl).trans HOB.out) (Nat.lt_of_lt_of_le hobl hHeld.below.size)).mono ?_
            rintro e w' ⟨rfl, hb⟩
            have hZT := (hb.block bT (blk_lt hZT)).trans hZT
            refine hK.out _ _ (hHeld.step hb) (fun hHeld => ?_)
            clear hK K
            try simp only [Act.put, aL1, aL2, aL3]
            refine rd1 0 (fun K hK => ?_)
            rw [if_pos (by rfl)]
            refine wp_load_row 53 _ rfl bT rfl 53 _ (0, 0) _ hZT undSp rfl infoSp ?_
            refine hK.out _ _ hHeld (fun hHeld => ?_)
            clear hK K
            try simp only [Act.put, aL1, aL2, aL3]
            refine rd1 4 (fun K hK => ?_)
            go_simp
            refine (addSp_any t (netP o p) _ HT.out (HPK.out p HMP.out HRP.out)).mono ?_
            rintro e w' ⟨rfl, hb⟩
            have hZT := (hb.block bT (blk_lt hZT)).trans hZT
            refine hK.out _ _ (hHeld.step hb) (fun hHeld => ?_)
            clear hK K
            try simp only [Act.put, aL1, aL2, aL3]
            refine rd1 5 (fun K hK => ?_)
            rw [if_pos (by rfl)]
            refine wp_store_row 53 _ _ rfl bT #[.int .i64 (addSp t (netP o p)).lo, .int .i64 (addSp t (netP o p)).hi] rfl rfl 53 #[.int .i64 t.lo, .int .i64 t.hi] hZT infoSp rfl (by simp [Value.oneCell']) ?_
            have hZT := setRow_heap _ _ _ #[.int .i64 (addSp t (netP o p)).lo, .int .i64 (addSp t (netP o p)).hi] _ _ hZT
            refine hK.out _ _ (hHeld.setOther hgT hnT _) (fun hHeld => ?_)
            clear hK K
            try simp only [Act.put]
            refine rdone (NoPanic.normal ?_)
            have HR4 := Lib.hid (hHeld.cons hZT hgT hnT)
            go_wp2_with fail
            go_meet
            exact HR4.out
        have HR4 := Lib.hid hcut
        clear hcut HR3
        rename World => w5
        have HR5 := Lib.hid (HR4.out.alloc (.cells #[.int .i64 (addSp t (netP o p)).lo, .int .i64 (addSp t (netP o p)).hi] 53))
        have HOW := Lib.hid (HOC.out.owns (base := w.heap.size) (HR5.out.rows 1 _ rfl) (HR5.out.ge _ (List.mem_of_getElem? (i := 1) rfl)))
        have hnew : ∀ i x, ([.int .i64 (addSp t (netP o p)).lo, .int .i64 (addSp t (netP o p)).hi] : List Value)[i]? = some x → (w5.alloc (.cells #[.int .i64 (addSp t (netP o p)).lo, .int .i64 (addSp t (netP o p)).hi] 53)).cell? ((⟨w5.heap.size, 0, none⟩ : Addr).add i) = some x := fun i x hx => by
          rw [Addr.add_mid, Nat.zero_add, cell_of_row _ _ _ _ _ _ (heap_alloc_new w5 (.cells #[.int .i64 (addSp t (netP o p)).lo, .int .i64 (addSp t (netP o p)).hi] 53)), ← Array.getElem?_toList]
          exact hx
        have hbs : w.heap.size ≤ (w5.alloc (.cells #[.int .i64 (addSp t (netP o p)).lo, .int .i64 (addSp t (netP o p)).hi] 53)).heap.size := HR5.out.below.size
        go_wp2_with (first | (refine wpList_load_rowW (by first | (go_simp; done) | rfl) 53 _ rfl _ rfl 53 _ _ _ (HR4.out.rows 0 _ rfl) undSp rfl infoSp ?_) | (at_builtin; refine Hid.out ?_))
        refine Lib.hid ?_
        refine wpList_append_own_at _ rfl _ _ 51 rfl w.heap.size 53 ic zc 2 ic.bytes undSpl hic hzc hsz rfl hcz (by decide) (.slice (some ⟨g, 0, none⟩) (k + 1) cap) (k + 1) _ rfl HOW.out ⟨w5.heap.size, 0, none⟩ 1 1 [.int .i64 (addSp t (netP o p)).lo, .int .i64 (addSp t (netP o p)).hi] rfl rfl hnew (by simp [Value.oneCell']) (by unfold maxLen; omega) (by rw [hbc]; omega) hbs ?_
        intro v' w6 hown6 hgr6 _ hat6
        have hxs : spV (sumL (hoursF pubs) (netP o) f k) ++ [.int .i64 (addSp t (netP o p)).lo, .int .i64 (addSp t (netP o p)).hi] = spV (sumL (hoursF pubs) (netP o) f (k + 1)) := by
          rw [sumL_succ HTN.out]
          unfold spV
          rw [List.flatMap_append]
          rfl
        rw [hxs] at hown6
        obtain ⟨g', cap', cur', rfl, hg', hoc'⟩ := OwnC.of hown6 (by omega) (sumL_len _ _ _ _)
        have hat : g' = g ∨ g' = (w5.alloc (.cells #[.int .i64 (addSp t (netP o p)).lo, .int .i64 (addSp t (netP o p)).hi] 53)).heap.size := by simpa [Value.ownBlock] using hat6
        have HR6 := Lib.hid ((HR5.out.grow (i := 1) (g := g) rfl hgr6 hat hg').take 2)
        have HOC' := Lib.hid hoc'
        have HK' : Hid (k + 1 = 0 ∨ f + ((k + 1 : Nat) : Int) ≤ u) := Lib.hid (Or.inr (by omega))
        clear hown6 hgr6 hat6 hxs hat hg' hoc' hnew HOW HR5 HR4 hbs
        go_wp2_with fail
        go_roundw
        case rel => exact ⟨k + 1, (addSp t (netP o p)), g', cap', cur', by go_num, rfl, HTN.out, HK'.out, HOC'.out, HR6.out⟩
        case measure => simp [Go.RowKit.intOf]; omega
    · have HE := Lib.hid (isSums_mk HTS.out HK.out (Or.inl hlt))
      go_wp2_with fail
      go_ret
      exact retSums_mk (larg_sums HOC.out (HR.out.rows 1 _ rfl) (sumL_I _ _ _ _)) HE.out HR.out.below
end Go.Proofs.YtjbjpkhibcnenaaGreatDoor

