/- Texts merged: ASums AJudge -/
import Derived.Maps.AppendAt
import Derived.Test.YtjbjpkhibcnenaaGreatDoorARows
/- audit.sums. -/
namespace Go.Proofs.YtjbjpkhibcnenaaGreatDoor
set_option maxRecDepth 100000
set_option maxHeartbeats 8000000
open Go.RowKit
theorem undSpl : Tryz.prog.underlying 51 = some (.slice 53) := by kernel_rfl
theorem infoSp16 : ∃ i z, Tryz.prog.info? 53 = some i ∧ i.size = 2 ∧ i.zero = some z ∧ z.cells.size = 2 ∧ i.bytes = 16 := by
 have h : (Tryz.prog.info? 53).map (fun i => (i.size, i.zero.map (fun z => z.cells.size), i.bytes)) = some (2, some 2, 16) := by kernel_rfl
 cases hi : Tryz.prog.info? 53 with
 | none => rw [hi] at h; cases h
 | some i =>
  rw [hi] at h; simp only [Option.map_some, Option.some.injEq, Prod.mk.injEq] at h; obtain ⟨h1, h2, h3⟩ := h
  cases hz : i.zero with
  | none => rw [hz] at h2; cases h2
  | some z =>
   rw [hz] at h2; simp only [Option.map_some, Option.some.injEq] at h2; exact ⟨i, z, rfl, h1, hz, h2, h3⟩
def spV (l : List SpanV) : List Value := l.flatMap fun s => [.int .i64 s.lo, .int .i64 s.hi]
def OwnC (cur : Array Value) (cap n : Nat) (L : List SpanV) : Prop := cur.size = cap * 2 ∧ n ≤ cap ∧ cap ≤ maxLen ∧ cur.toList.take (n * 2) = spV L ∧ L.length = n
def sumL (H : Int → Option PublicV) (pick : PublicV → SpanV) (f : Int) (k : Nat) : List SpanV := (List.range (k + 1)).map fun j => (sumN H pick f j).getD ⟨0, 0⟩
def IsSums (H : Int → Option PublicV) (pick : PublicV → SpanV) (f u : Int) (L : List SpanV) : Prop := ∀ j : Nat, L[j]? = if j = 0 ∨ f + j ≤ u then sumN H pick f j else none
def RetSums (H : Int → Option PublicV) (pick : PublicV → SpanV) (f u : Int) (w : World) (e : Ending) (w' : World) : Prop := ∃ v L, e = .returned v ∧ LArg RSpan 2 v L w' ∧ IsSums H pick f u L ∧ Below w.heap.size w w'
theorem retSums_mk {H : Int → Option PublicV} {pick : PublicV → SpanV} {f u : Int} {w w' : World} {v : Value} {L : List SpanV} (h1 : LArg RSpan 2 v L w') (h2 : IsSums H pick f u L) (h3 : Below w.heap.size w w') : RetSums H pick f u w (.returned v) w' := ⟨v, L, rfl, h1, h2, h3⟩
theorem right_len {p : PublicV} (h : rightPb p = true) : p.net.length = 3 := by
 unfold rightPb at h; simp only [Bool.and_eq_true, decide_eq_true_eq] at h; exact h.1.1
theorem netP_I {p : PublicV} {o : Int} (h : PbI p) : SpI (netP o p) := by
 unfold netP
 cases hs : p.net[o.toNat]? with
 | none => exact ⟨⟨by decide, by decide⟩, ⟨by decide, by decide⟩⟩
 | some s => exact h.2.2 s (List.mem_of_getElem? hs)
theorem spV_len (l : List SpanV) : (spV l).length = l.length * 2 := by
 unfold spV
 induction l with
 | nil => rfl
 | cons s l ih => rw [List.flatMap_cons, List.length_append, ih]; simp; omega
theorem spV_get : ∀ (l : List SpanV) (k : Nat) (s : SpanV), l[k]? = some s → (spV l)[k * 2]? = some (.int .i64 s.lo) ∧ (spV l)[k * 2 + 1]? = some (.int .i64 s.hi)
 | [], k, s, h => by simp at h
 | x :: l, 0, s, h => by
  simp only [List.getElem?_cons_zero, Option.some.injEq] at h; subst h; exact ⟨rfl, rfl⟩
 | x :: l, k + 1, s, h => by
  have h2 := spV_get l k s (by simpa using h); unfold spV at h2 ⊢; rw [List.flatMap_cons]; have e1 : (k + 1) * 2 = k * 2 + 2 := by omega
  rw [e1]; exact h2
theorem OwnC.owns {w : World} {base g : Nat} {cur : Array Value} {cap n : Nat} {L : List SpanV} (h : OwnC cur cap n L) (hg : w.heap[g]? = some (.cells cur 53 (0, 0))) (hb : base ≤ g) : w.ownsRow base 53 2 (.slice (some ⟨g, 0, none⟩) n cap) n (spV L) :=
 ⟨by rw [spV_len, h.2.2.2.2], Or.inr ⟨g, cap, cur, rfl, hb, hg, h.2.1, h.2.2.1, h.1, h.2.2.2.1⟩⟩
theorem OwnC.of {w : World} {base : Nat} {v : Value} {n : Nat} {L : List SpanV} (h : w.ownsRow base 53 2 v n (spV L)) (hn : 0 < n) (hL : L.length = n) : ∃ g cap cur, v = .slice (some ⟨g, 0, none⟩) n cap ∧ w.heap[g]? = some (.cells cur 53 (0, 0)) ∧ OwnC cur cap n L := by
 rcases h.2 with ⟨_, h0⟩ | ⟨g, cap, cur, h1, _, h3, h4, h5, h6, h7⟩
 · omega
 · exact ⟨g, cap, cur, h1, h3, h6, h4, h5, h7, hL⟩
theorem sumL_len (H : Int → Option PublicV) (pick : PublicV → SpanV) (f : Int) (k : Nat) : (sumL H pick f k).length = k + 1 := by simp [sumL]
theorem sumL_succ {H : Int → Option PublicV} {pick : PublicV → SpanV} {f : Int} {k : Nat} {t : SpanV} (h : sumN H pick f (k + 1) = some t) : sumL H pick f (k + 1) = sumL H pick f k ++ [t] := by
 unfold sumL; rw [List.range_succ (n := k + 1), List.map_append, List.map_singleton, h]
 rfl
theorem sumN_pre {H : Int → Option PublicV} {pick : PublicV → SpanV} {f : Int} {k : Nat} {t : SpanV} (h : sumN H pick f k = some t) {j : Nat} (hj : j ≤ k) : ∃ s, sumN H pick f j = some s := by
 induction k generalizing t with
 | zero => exact ⟨t, by rw [show j = 0 by omega]; exact h⟩
 | succ k ih =>
  by_cases e : j = k + 1
  · exact ⟨t, by rw [e]; exact h⟩
  ·
   unfold sumN at h
   split at h
   · next a b h1 h2 => exact ih h1 (by omega)
   · cases h
theorem isSums_mk {H : Int → Option PublicV} {pick : PublicV → SpanV} {f u : Int} {k : Nat} {t : SpanV} (h : sumN H pick f k = some t) (hk : k = 0 ∨ f + k ≤ u) (hend : ¬ f + k < u ∨ H (f + k) = none) : IsSums H pick f u (sumL H pick f k) := by
 intro j; by_cases hj : j ≤ k
 ·
  rw [if_pos (by omega)]; obtain ⟨s, hs⟩ := sumN_pre h hj; unfold sumL; rw [List.getElem?_map, List.getElem?_range (by omega), Option.map_some, hs]
  rfl
 ·
  rw [List.getElem?_eq_none (by rw [sumL_len]; omega)]; rcases hend with h1 | h1
  · rw [if_neg (by omega)]
  ·
   split
   · rw [sumN_stop h1 j (by omega)]
   · rfl
theorem larg_sums {w : World} {g cap n : Nat} {cur : Array Value} {L : List SpanV} (h : OwnC cur cap n L) (hg : w.heap[g]? = some (.cells cur 53 (0, 0))) (hI : ∀ s ∈ L, SpI s) : LArg RSpan 2 (.slice (some ⟨g, 0, none⟩) n cap) L w := by
 obtain ⟨h1, h2, h3, h4, h5⟩ := h; refine ⟨some ⟨g, 0, none⟩, cap, by rw [h5], by omega, h3, fun j s hj => ⟨g, 0, [.int .i64 s.lo, .int .i64 s.hi], rfl, blk_lt hg, rfl, ?_, rfl, hI s (List.mem_of_getElem? hj)⟩⟩; obtain ⟨e1, e2⟩ := spV_get L j s hj; have hlt := (List.getElem?_eq_some_iff.1 hj).1; rw [← h4, List.getElem?_take, if_pos (by omega)] at e1 e2; rw [Nat.zero_add]; exact range2 (by rw [cell_of_row _ _ _ _ _ _ hg, ← Array.getElem?_toList]; exact e1) (by rw [cell_of_row _ _ _ _ _ _ hg, ← Array.getElem?_toList]; exact e2)
theorem sumL_I (H : Int → Option PublicV) (pick : PublicV → SpanV) (f : Int) (k : Nat) : ∀ s ∈ sumL H pick f k, SpI s := by
 intro s hs; unfold sumL at hs; obtain ⟨j, _, rfl⟩ := List.mem_map.1 hs
 cases h : sumN H pick f j with
 | none => exact ⟨⟨by decide, by decide⟩, ⟨by decide, by decide⟩⟩
 | some t => exact sumN_bd h
theorem sumsM_any (pubs : List PublicV) (mb : Nat) (f u : Int)  (w : World) (hH : HoursAt mb pubs w) (hf : I64 f) (hu : I64 u) (hI : ∀ p ∈ pubs, PbI p) (hl : pubs.length ≤ 1000)  :
 Calls Tryz.prog 43 #[.map (some mb), .int .i64 f, .int .i64 u, .func (.func 55) #[] #[]] w (RetSums (hoursF pubs) (mouthP) f u w) := by
 obtain ⟨ic, zc, hic, hsz, hzc, hcz, hbc⟩ := infoSp16; have HH := hD hH; have HPK : Hid (∀ p ∈ pubs, rightPb p = true → SpI (mouthP p)) := hD (fun p hp hr => by exact (hI p hp).2.1); have hf2 := hf; have hu2 := hu; unfold I64 at hf hu; clear hH; go_enter Tryz.func43, Tryz.ntmps43; go_wp2_with fail; refine (ofSp_any 0 _).mono ?_; rintro e w1 ⟨rfl, hb1⟩; have HR0 : Hid (RowsS w [] w1) := hD ((RowsS.nil w).step hb1); clear hb1; have HA1 := hD (heap_alloc_new w1 (.cells #[(), ()] 53)); go_upto_region 3 with (refine lRW HA1.out undSp infoSp ?_); have s1 : (w1.alloc (.cells #[(), ()] 53)).heap.size = w1.heap.size + 1 := by simp
 have HR : Hid (RowsS w [(w1.heap.size, .cells #[(), ()] 53), (w1.heap.size + 1, .cells #[(), ()] 53)] ((w1.alloc (.cells #[(), ()] 53)).alloc (.cells #[(), ()] 53))) := hD (by
  have := (HR0.out.alloc (.cells #[(), ()] 53)).alloc (.cells #[(), ()] 53); rw [s1] at this
  exact this)
 clear s1 HA1 HR0; generalize (w1.alloc (.cells #[(), ()] 53)).alloc (.cells #[(), ()] 53) = w2 at *; generalize w1.heap.size + 1 = g0 at *; generalize w1.heap.size = bT at *; go_wp2_with fail; go_loopw [10, 11] (fun sv hv wx => ∃ (k : Nat) (t : SpanV) (g cap : Nat) (cur : Array Value), hv = .int .i64 (f + k) ∧ sv = .slice (some ⟨g, 0, none⟩) (k + 1) cap ∧ sumN (hoursF pubs) (mouthP) f k = some t ∧ (k = 0 ∨ f + k ≤ u) ∧ OwnC cur cap (k + 1) (sumL (hoursF pubs) (mouthP) f k) ∧ RowsS w [(bT, .cells #[t.lo, t.hi] 53), (g, .cells cur 53)] wx) (fun _ hv _ => (u - Go.RowKit.intOf hv).toNat)
 case atStart => exact ⟨0, ⟨0, 0⟩, g0, 1, #[.int .i64 0, .int .i64 0], by rw [show f + ((0 : Nat) : Int) = f by omega], rfl, rfl, Or.inl rfl, ⟨rfl, by decide, by decide, rfl, rfl⟩, HR.out⟩
 case round =>
  obtain ⟨k, t, g, cap, cur, rfl, rfl, ht, hk, hoc, hr⟩ := hrel; have HTS := hD ht; have HT := hD (sumN_bd ht); have HK := hD hk; have HOC := hD hoc; have HR := hD hr; have hkl := sumN_len ht; clear ht hk hoc hr; by_cases hlt : f + (k : Int) < u
  ·
   have hi : I64 (f + k) := ⟨by omega, by omega⟩; have hlk := (HH.out.below HR.out.below).look hi
   cases hp : hoursF pubs (f + k) with
   | none =>
    rw [hp] at hlk; unfold zPb at hlk; dsimp only at hlk; have HE := hD (isSums_mk HTS.out HK.out (Or.inr hp)); have HRA := hD (HR.out.alloc (.cells #[(), .slice none 0 0, (), ()] 55)); clear hp; go_wp2_with fail; go_ret; exact retSums_mk (larg_sums HOC.out (HRA.out.rows 1 _ rfl) (sumL_I _ _ _ _)) HE.out HRA.out.below
   | some p =>
    rw [hp] at hlk; obtain ⟨v, hlk, hv⟩ := hlk; obtain ⟨an, nc, rfl, hnl, hnm⟩ := hv.slice; obtain ⟨hpm, -, hpr⟩ := hoursF_mem hp; have HTN := hD (sumN_succ (pick := mouthP) HTS.out hp); have HMP := hD hpm; have HRP := hD hpr; have hal : Below wr.heap.size wr (wr.alloc (.cells #[p.hour, .slice an p.net.length nc, p.mouth.lo, p.mouth.hi] 55)) := (Below.refl _ _).alloc (Nat.le_refl _) _; have HV3 := hD (hv.below stays_Span hal); have HR3 := hD (HR.out.alloc (.cells #[p.hour, .slice an p.net.length nc, p.mouth.lo, p.mouth.hi] 55)); unfold pbV at hlk; dsimp only at hlk; clear hp hpm hpr hv hnl hnm hal HR; go_upto_region 8 with fail; clear hlk; generalize wr.alloc (.cells #[p.hour, .slice an p.net.length nc, p.mouth.lo, p.mouth.hi] 55) = w3 at *; generalize wr.heap.size = bP at *; go_cut [] (fun w5 => RowsS w [(bT, .cells #[.int .i64 (addSp t (mouthP p)).lo, .int .i64 (addSp t (mouthP p)).hi] 53), (g, .cells cur 53), (bP, .cells #[p.hour, .slice an p.net.length nc, p.mouth.lo, p.mouth.hi] 55)] w5)
    case first =>
     obtain ⟨hRs, hZT, hgT, hnT⟩ := HR3.out.split; refine wrd (S := RowsS w _) (hRs.drew) (fun yH => ?_); refine tn 1 ?_; refine tn 2 ?_ (hx := ldw 1 undPb infoPb); refine rd2 0 3 (fun K hK => ?_) (fun K hK => ?_)
     ·
      rw [if_pos (by rfl)]; refine wp_load_row 53 _ rfl bT rfl 53 _ (0, 0) _ hZT undSp rfl infoSp ?_; refine hK.out _ _ yH (fun yH => ?_); clear hK K; refine rd1 3 (fun K hK => ?_); go_simp; refine (mouth_any p (.slice an p.net.length nc) _).mono ?_; rintro e w' ⟨rfl, hb⟩; have hZT := (hb.block bT (blk_lt hZT)).trans hZT; refine hK.out _ _ (yH.step hb) (fun yH => ?_); clear hK K; refine rd1 4 (fun K hK => ?_); go_simp; refine (addSp_any t (mouthP p) _ HT.out (HPK.out p HMP.out HRP.out)).mono ?_; rintro e w' ⟨rfl, hb⟩; have hZT := (hb.block bT (blk_lt hZT)).trans hZT; refine hK.out _ _ (yH.step hb) (fun yH => ?_); clear hK K; refine rd1 5 (fun K hK => ?_); rw [if_pos (by rfl)]; refine wp_store_row 53 _ _ rfl bT #[.int .i64 (addSp t (mouthP p)).lo, .int .i64 (addSp t (mouthP p)).hi] rfl rfl 53 #[t.lo, t.hi] hZT infoSp rfl (by simp [Value.oneCell']) ?_; have hZT := setRow_heap _ _ _ #[.int .i64 (addSp t (mouthP p)).lo, .int .i64 (addSp t (mouthP p)).hi] _ _ hZT; refine hK.out _ _ (yH.setOther hgT hnT _) (fun yH => ?_); clear hK K; (try simp only [Act.put]); refine rdn ?_; have HR4 := hD (yH.cons hZT hgT hnT); go_wp2_with fail; go_meet; exact HR4.out
     ·
      go_simp; refine (mouth_any p (.slice an p.net.length nc) _).mono ?_; rintro e w' ⟨rfl, hb⟩; have hZT := (hb.block bT (blk_lt hZT)).trans hZT; refine hK.out _ _ (yH.step hb) (fun yH => ?_); clear hK K; refine rd1 0 (fun K hK => ?_); rw [if_pos (by rfl)]; refine wp_load_row 53 _ rfl bT rfl 53 _ (0, 0) _ hZT undSp rfl infoSp ?_; refine hK.out _ _ yH (fun yH => ?_); clear hK K; refine rd1 4 (fun K hK => ?_); go_simp; refine (addSp_any t (mouthP p) _ HT.out (HPK.out p HMP.out HRP.out)).mono ?_; rintro e w' ⟨rfl, hb⟩; have hZT := (hb.block bT (blk_lt hZT)).trans hZT; refine hK.out _ _ (yH.step hb) (fun yH => ?_); clear hK K; refine rd1 5 (fun K hK => ?_); rw [if_pos (by rfl)]; refine wp_store_row 53 _ _ rfl bT #[.int .i64 (addSp t (mouthP p)).lo, .int .i64 (addSp t (mouthP p)).hi] rfl rfl 53 #[t.lo, t.hi] hZT infoSp rfl (by simp [Value.oneCell']) ?_; have hZT := setRow_heap _ _ _ #[.int .i64 (addSp t (mouthP p)).lo, .int .i64 (addSp t (mouthP p)).hi] _ _ hZT; refine hK.out _ _ (yH.setOther hgT hnT _) (fun yH => ?_); clear hK K; (try simp only [Act.put]); refine rdn ?_; have HR4 := hD (yH.cons hZT hgT hnT); go_wp2_with fail; go_meet; exact HR4.out
    have HR4 := hD hcut; clear hcut HR3; rename World => w5; have HR5 := hD (HR4.out.alloc (.cells #[.int .i64 (addSp t (mouthP p)).lo, .int .i64 (addSp t (mouthP p)).hi] 53)); have HOW := hD (HOC.out.owns (base := w.heap.size) (HR5.out.rows 1 _ rfl) (HR5.out.ge _ (List.mem_of_getElem? (i := 1) rfl)))
    have hnew : ∀ i x, ([.int .i64 (addSp t (mouthP p)).lo, .int .i64 (addSp t (mouthP p)).hi] : List Value)[i]? = some x → (w5.alloc (.cells #[.int .i64 (addSp t (mouthP p)).lo, .int .i64 (addSp t (mouthP p)).hi] 53)).cell? ((⟨w5.heap.size, 0, none⟩ : Addr).add i) = some x := fun i x hx => by
     rw [Addr.add_mid, Nat.zero_add, cell_of_row _ _ _ _ _ _ (heap_alloc_new w5 (.cells #[.int .i64 (addSp t (mouthP p)).lo, .int .i64 (addSp t (mouthP p)).hi] 53)), ← Array.getElem?_toList]; exact hx
    have hbs : w.heap.size ≤ (w5.alloc (.cells #[.int .i64 (addSp t (mouthP p)).lo, .int .i64 (addSp t (mouthP p)).hi] 53)).heap.size := HR5.out.below.size; go_wp2_with (first | (refine lRW (HR4.out.rows 0 _ rfl) undSp infoSp ?_) | (at_builtin; refine Hid.out ?_)); refine hD ?_; refine wpList_append_own_at _ rfl _ _ 51 rfl w.heap.size 53 ic zc 2 ic.bytes undSpl hic hzc hsz rfl hcz (by decide) (.slice (some ⟨g, 0, none⟩) (k + 1) cap) (k + 1) _ rfl HOW.out ⟨w5.heap.size, 0, none⟩ 1 1 [.int .i64 (addSp t (mouthP p)).lo, .int .i64 (addSp t (mouthP p)).hi] rfl rfl hnew (by simp [Value.oneCell']) (by unfold maxLen; omega) (by rw [hbc]; omega) hbs ?_; intro v' w6 hown6 hgr6 _ hat6
    have hxs : spV (sumL (hoursF pubs) (mouthP) f k) ++ [.int .i64 (addSp t (mouthP p)).lo, .int .i64 (addSp t (mouthP p)).hi] = spV (sumL (hoursF pubs) (mouthP) f (k + 1)) := by
     rw [sumL_succ HTN.out]; unfold spV; rw [List.flatMap_append]
     rfl
    rw [hxs] at hown6; obtain ⟨g', cap', cur', rfl, hg', hoc'⟩ := OwnC.of hown6 (by omega) (sumL_len _ _ _ _); have hat : g' = g ∨ g' = (w5.alloc (.cells #[.int .i64 (addSp t (mouthP p)).lo, .int .i64 (addSp t (mouthP p)).hi] 53)).heap.size := by simpa [Value.ownBlock] using hat6
    have HR6 := hD ((HR5.out.grow (i := 1) (g := g) rfl hgr6 hat hg').take 2); have HOC' := hD hoc'; have HK' : Hid (k + 1 = 0 ∨ f + ((k + 1 : Nat) : Int) ≤ u) := hD (Or.inr (by omega)); clear hown6 hgr6 hat6 hxs hat hg' hoc' hnew HOW HR5 HR4 hbs; go_wp2_with fail; go_roundw
    case rel => exact ⟨k + 1, (addSp t (mouthP p)), g', cap', cur', by go_num, rfl, HTN.out, HK'.out, HOC'.out, HR6.out⟩
    case measure => simp [Go.RowKit.intOf]; omega
  ·
   have HE := hD (isSums_mk HTS.out HK.out (Or.inl hlt)); go_wp2_with fail; go_ret; exact retSums_mk (larg_sums HOC.out (HR.out.rows 1 _ rfl) (sumL_I _ _ _ _)) HE.out HR.out.below
theorem sumsN_any (pubs : List PublicV) (mb : Nat) (f u : Int)  (w : World) (hH : HoursAt mb pubs w) (hf : I64 f) (hu : I64 u) (hI : ∀ p ∈ pubs, PbI p) (hl : pubs.length ≤ 1000) (o ob : Nat) (ho : o < 3) (hob : w.cell? ⟨ob, 0, none⟩ = some (.int .i64 (o : Int))) (hobl : ob < w.heap.size) :
 Calls Tryz.prog 43 #[.map (some mb), .int .i64 f, .int .i64 u, .func (.func 80) #[] #[.pointer (some ⟨ob, 0, none⟩)]] w (RetSums (hoursF pubs) (netP o) f u w) := by
 obtain ⟨ic, zc, hic, hsz, hzc, hcz, hbc⟩ := infoSp16; have HH := hD hH; have HPK : Hid (∀ p ∈ pubs, rightPb p = true → SpI (netP o p)) := hD (fun p hp hr => by exact netP_I (hI p hp)); have hf2 := hf; have hu2 := hu; unfold I64 at hf hu; have HOB := hD hob; clear hH hob; go_enter Tryz.func43, Tryz.ntmps43; go_wp2_with fail; refine (ofSp_any 0 _).mono ?_; rintro e w1 ⟨rfl, hb1⟩; have HR0 : Hid (RowsS w [] w1) := hD ((RowsS.nil w).step hb1); clear hb1; have HA1 := hD (heap_alloc_new w1 (.cells #[(), ()] 53)); go_upto_region 3 with (refine lRW HA1.out undSp infoSp ?_); have s1 : (w1.alloc (.cells #[(), ()] 53)).heap.size = w1.heap.size + 1 := by simp
 have HR : Hid (RowsS w [(w1.heap.size, .cells #[(), ()] 53), (w1.heap.size + 1, .cells #[(), ()] 53)] ((w1.alloc (.cells #[(), ()] 53)).alloc (.cells #[(), ()] 53))) := hD (by
  have := (HR0.out.alloc (.cells #[(), ()] 53)).alloc (.cells #[(), ()] 53); rw [s1] at this
  exact this)
 clear s1 HA1 HR0; generalize (w1.alloc (.cells #[(), ()] 53)).alloc (.cells #[(), ()] 53) = w2 at *; generalize w1.heap.size + 1 = g0 at *; generalize w1.heap.size = bT at *; go_wp2_with fail; go_loopw [10, 11] (fun sv hv wx => ∃ (k : Nat) (t : SpanV) (g cap : Nat) (cur : Array Value), hv = .int .i64 (f + k) ∧ sv = .slice (some ⟨g, 0, none⟩) (k + 1) cap ∧ sumN (hoursF pubs) (netP o) f k = some t ∧ (k = 0 ∨ f + k ≤ u) ∧ OwnC cur cap (k + 1) (sumL (hoursF pubs) (netP o) f k) ∧ RowsS w [(bT, .cells #[t.lo, t.hi] 53), (g, .cells cur 53)] wx) (fun _ hv _ => (u - Go.RowKit.intOf hv).toNat)
 case atStart => exact ⟨0, ⟨0, 0⟩, g0, 1, #[.int .i64 0, .int .i64 0], by rw [show f + ((0 : Nat) : Int) = f by omega], rfl, rfl, Or.inl rfl, ⟨rfl, by decide, by decide, rfl, rfl⟩, HR.out⟩
 case round =>
  obtain ⟨k, t, g, cap, cur, rfl, rfl, ht, hk, hoc, hr⟩ := hrel; have HTS := hD ht; have HT := hD (sumN_bd ht); have HK := hD hk; have HOC := hD hoc; have HR := hD hr; have hkl := sumN_len ht; clear ht hk hoc hr; by_cases hlt : f + (k : Int) < u
  ·
   have hi : I64 (f + k) := ⟨by omega, by omega⟩; have hlk := (HH.out.below HR.out.below).look hi
   cases hp : hoursF pubs (f + k) with
   | none =>
    rw [hp] at hlk; unfold zPb at hlk; dsimp only at hlk; have HE := hD (isSums_mk HTS.out HK.out (Or.inr hp)); have HRA := hD (HR.out.alloc (.cells #[(), .slice none 0 0, (), ()] 55)); clear hp; go_wp2_with fail; go_ret; exact retSums_mk (larg_sums HOC.out (HRA.out.rows 1 _ rfl) (sumL_I _ _ _ _)) HE.out HRA.out.below
   | some p =>
    rw [hp] at hlk; obtain ⟨v, hlk, hv⟩ := hlk; obtain ⟨an, nc, rfl, hnl, hnm⟩ := hv.slice; obtain ⟨hpm, -, hpr⟩ := hoursF_mem hp; have HTN := hD (sumN_succ (pick := netP o) HTS.out hp); have HMP := hD hpm; have HRP := hD hpr; have hal : Below wr.heap.size wr (wr.alloc (.cells #[p.hour, .slice an p.net.length nc, p.mouth.lo, p.mouth.hi] 55)) := (Below.refl _ _).alloc (Nat.le_refl _) _; have HV3 := hD (hv.below stays_Span hal); have HR3 := hD (HR.out.alloc (.cells #[p.hour, .slice an p.net.length nc, p.mouth.lo, p.mouth.hi] 55)); unfold pbV at hlk; dsimp only at hlk; clear hp hpm hpr hv hnl hnm hal HR; go_upto_region 8 with fail; clear hlk; generalize wr.alloc (.cells #[p.hour, .slice an p.net.length nc, p.mouth.lo, p.mouth.hi] 55) = w3 at *; generalize wr.heap.size = bP at *; go_cut [] (fun w5 => RowsS w [(bT, .cells #[.int .i64 (addSp t (netP o p)).lo, .int .i64 (addSp t (netP o p)).hi] 53), (g, .cells cur 53), (bP, .cells #[p.hour, .slice an p.net.length nc, p.mouth.lo, p.mouth.hi] 55)] w5)
    case first =>
     obtain ⟨hRs, hZT, hgT, hnT⟩ := HR3.out.split; refine wrd (S := RowsS w _) (hRs.drew) (fun yH => ?_); refine tn 1 ?_; refine tn 2 ?_ (hx := ldw 1 undPb infoPb); refine rd2 0 3 (fun K hK => ?_) (fun K hK => ?_)
     ·
      rw [if_pos (by rfl)]; refine wp_load_row 53 _ rfl bT rfl 53 _ (0, 0) _ hZT undSp rfl infoSp ?_; refine hK.out _ _ yH (fun yH => ?_); clear hK K; refine rd1 3 (fun K hK => ?_); go_simp; refine (net1_any p (.slice an p.net.length nc) o ob _ (HV3.out.below stays_Span (Below.refl _ _).drew) (right_len HRP.out) ho ((yH.below.cell (p := ⟨ob, 0, none⟩) hobl).trans HOB.out) (Nat.lt_of_lt_of_le hobl yH.below.size)).mono ?_; rintro e w' ⟨rfl, hb⟩; have hZT := (hb.block bT (blk_lt hZT)).trans hZT; refine hK.out _ _ (yH.step hb) (fun yH => ?_); clear hK K; refine rd1 4 (fun K hK => ?_); go_simp; refine (addSp_any t (netP o p) _ HT.out (HPK.out p HMP.out HRP.out)).mono ?_; rintro e w' ⟨rfl, hb⟩; have hZT := (hb.block bT (blk_lt hZT)).trans hZT; refine hK.out _ _ (yH.step hb) (fun yH => ?_); clear hK K; refine rd1 5 (fun K hK => ?_); rw [if_pos (by rfl)]; refine wp_store_row 53 _ _ rfl bT #[.int .i64 (addSp t (netP o p)).lo, .int .i64 (addSp t (netP o p)).hi] rfl rfl 53 #[t.lo, t.hi] hZT infoSp rfl (by simp [Value.oneCell']) ?_; have hZT := setRow_heap _ _ _ #[.int .i64 (addSp t (netP o p)).lo, .int .i64 (addSp t (netP o p)).hi] _ _ hZT; refine hK.out _ _ (yH.setOther hgT hnT _) (fun yH => ?_); clear hK K; (try simp only [Act.put]); refine rdn ?_; have HR4 := hD (yH.cons hZT hgT hnT); go_wp2_with fail; go_meet; exact HR4.out
     ·
      go_simp; refine (net1_any p (.slice an p.net.length nc) o ob _ (HV3.out.below stays_Span (Below.refl _ _).drew) (right_len HRP.out) ho ((yH.below.cell (p := ⟨ob, 0, none⟩) hobl).trans HOB.out) (Nat.lt_of_lt_of_le hobl yH.below.size)).mono ?_; rintro e w' ⟨rfl, hb⟩; have hZT := (hb.block bT (blk_lt hZT)).trans hZT; refine hK.out _ _ (yH.step hb) (fun yH => ?_); clear hK K; refine rd1 0 (fun K hK => ?_); rw [if_pos (by rfl)]; refine wp_load_row 53 _ rfl bT rfl 53 _ (0, 0) _ hZT undSp rfl infoSp ?_; refine hK.out _ _ yH (fun yH => ?_); clear hK K; refine rd1 4 (fun K hK => ?_); go_simp; refine (addSp_any t (netP o p) _ HT.out (HPK.out p HMP.out HRP.out)).mono ?_; rintro e w' ⟨rfl, hb⟩; have hZT := (hb.block bT (blk_lt hZT)).trans hZT; refine hK.out _ _ (yH.step hb) (fun yH => ?_); clear hK K; refine rd1 5 (fun K hK => ?_); rw [if_pos (by rfl)]; refine wp_store_row 53 _ _ rfl bT #[.int .i64 (addSp t (netP o p)).lo, .int .i64 (addSp t (netP o p)).hi] rfl rfl 53 #[t.lo, t.hi] hZT infoSp rfl (by simp [Value.oneCell']) ?_; have hZT := setRow_heap _ _ _ #[.int .i64 (addSp t (netP o p)).lo, .int .i64 (addSp t (netP o p)).hi] _ _ hZT; refine hK.out _ _ (yH.setOther hgT hnT _) (fun yH => ?_); clear hK K; (try simp only [Act.put]); refine rdn ?_; have HR4 := hD (yH.cons hZT hgT hnT); go_wp2_with fail; go_meet; exact HR4.out
    have HR4 := hD hcut; clear hcut HR3; rename World => w5; have HR5 := hD (HR4.out.alloc (.cells #[.int .i64 (addSp t (netP o p)).lo, .int .i64 (addSp t (netP o p)).hi] 53)); have HOW := hD (HOC.out.owns (base := w.heap.size) (HR5.out.rows 1 _ rfl) (HR5.out.ge _ (List.mem_of_getElem? (i := 1) rfl)))
    have hnew : ∀ i x, ([.int .i64 (addSp t (netP o p)).lo, .int .i64 (addSp t (netP o p)).hi] : List Value)[i]? = some x → (w5.alloc (.cells #[.int .i64 (addSp t (netP o p)).lo, .int .i64 (addSp t (netP o p)).hi] 53)).cell? ((⟨w5.heap.size, 0, none⟩ : Addr).add i) = some x := fun i x hx => by
     rw [Addr.add_mid, Nat.zero_add, cell_of_row _ _ _ _ _ _ (heap_alloc_new w5 (.cells #[.int .i64 (addSp t (netP o p)).lo, .int .i64 (addSp t (netP o p)).hi] 53)), ← Array.getElem?_toList]; exact hx
    have hbs : w.heap.size ≤ (w5.alloc (.cells #[.int .i64 (addSp t (netP o p)).lo, .int .i64 (addSp t (netP o p)).hi] 53)).heap.size := HR5.out.below.size; go_wp2_with (first | (refine lRW (HR4.out.rows 0 _ rfl) undSp infoSp ?_) | (at_builtin; refine Hid.out ?_)); refine hD ?_; refine wpList_append_own_at _ rfl _ _ 51 rfl w.heap.size 53 ic zc 2 ic.bytes undSpl hic hzc hsz rfl hcz (by decide) (.slice (some ⟨g, 0, none⟩) (k + 1) cap) (k + 1) _ rfl HOW.out ⟨w5.heap.size, 0, none⟩ 1 1 [.int .i64 (addSp t (netP o p)).lo, .int .i64 (addSp t (netP o p)).hi] rfl rfl hnew (by simp [Value.oneCell']) (by unfold maxLen; omega) (by rw [hbc]; omega) hbs ?_; intro v' w6 hown6 hgr6 _ hat6
    have hxs : spV (sumL (hoursF pubs) (netP o) f k) ++ [.int .i64 (addSp t (netP o p)).lo, .int .i64 (addSp t (netP o p)).hi] = spV (sumL (hoursF pubs) (netP o) f (k + 1)) := by
     rw [sumL_succ HTN.out]; unfold spV; rw [List.flatMap_append]
     rfl
    rw [hxs] at hown6; obtain ⟨g', cap', cur', rfl, hg', hoc'⟩ := OwnC.of hown6 (by omega) (sumL_len _ _ _ _); have hat : g' = g ∨ g' = (w5.alloc (.cells #[.int .i64 (addSp t (netP o p)).lo, .int .i64 (addSp t (netP o p)).hi] 53)).heap.size := by simpa [Value.ownBlock] using hat6
    have HR6 := hD ((HR5.out.grow (i := 1) (g := g) rfl hgr6 hat hg').take 2); have HOC' := hD hoc'; have HK' : Hid (k + 1 = 0 ∨ f + ((k + 1 : Nat) : Int) ≤ u) := hD (Or.inr (by omega)); clear hown6 hgr6 hat6 hxs hat hg' hoc' hnew HOW HR5 HR4 hbs; go_wp2_with fail; go_roundw
    case rel => exact ⟨k + 1, (addSp t (netP o p)), g', cap', cur', by go_num, rfl, HTN.out, HK'.out, HOC'.out, HR6.out⟩
    case measure => simp [Go.RowKit.intOf]; omega
  ·
   have HE := hD (isSums_mk HTS.out HK.out (Or.inl hlt)); go_wp2_with fail; go_ret; exact retSums_mk (larg_sums HOC.out (HR.out.rows 1 _ rfl) (sumL_I _ _ _ _)) HE.out HR.out.below
end Go.Proofs.YtjbjpkhibcnenaaGreatDoor
/- The judge of package audit, in memory, and its small methods. -/
namespace Go.Proofs.YtjbjpkhibcnenaaGreatDoor
set_option maxRecDepth 100000
set_option maxHeartbeats 4000000
open Go.RowKit
structure JudgeAt (jb mb : Nat) (ar ap : Option Addr) (cr cp : Nat) (err : Int) (room ps : List Int) (pubs : List PublicV) (w : World) : Prop where
 row : w.heap[jb]? = some (.cells #[err, .slice ar 3 cr, .slice ap 3 cp, .map (some mb)] 102 (0, 0))
 lroom : LArg RInt 1 (.slice ar 3 cr) room w
 lpubs : LArg RInt 1 (.slice ap 3 cp) ps w
 hours : HoursAt mb pubs w
 lr : room.length = 3
 lp : ps.length = 3
 e0 : 0 ≤ err ∧ err ≤ 1099511627776
 r0 : ∀ r ∈ room, 0 ≤ r ∧ r ≤ 1125899906842624
theorem JudgeAt.below {jb mb : Nat} {ar ap : Option Addr} {cr cp : Nat} {err : Int} {room ps : List Int} {pubs : List PublicV} {w w' : World} (h : JudgeAt jb mb ar ap cr cp err room ps pubs w) (hb : Below w.heap.size w w') : JudgeAt jb mb ar ap cr cp err room ps pubs w' :=
 ⟨blk_below h.row hb (blk_lt h.row), h.lroom.below stays_int hb, h.lpubs.below stays_int hb, h.hours.below hb, h.lr, h.lp, h.e0, h.r0⟩
def officeB (o : Int) : Bool := decide (0 ≤ o ∧ o < 3)
theorem officeB_t {o : Int} (h : 0 ≤ o ∧ o < 3) : officeB o = true := decide_eq_true h
theorem officeB_f {o : Int} (h : ¬ (0 ≤ o ∧ o < 3)) : officeB o = false := decide_eq_false h
theorem office_any (jb mb : Nat) (ar ap : Option Addr) (cr cp : Nat) (err : Int) (room ps : List Int) (pubs : List PublicV) (o : Int) (w : World) (hJ : JudgeAt jb mb ar ap cr cp err room ps pubs w) : Calls Tryz.prog 32 #[.pointer (some ⟨jb, 0, none⟩), o] w fun e w' => e = .returned (.bool (officeB o)) ∧ w = w' := by
 have c2 := rowN hJ.row 2 (.slice ap 3 cp) rfl; clear hJ; by_cases h1 : 0 ≤ o
 ·
  by_cases h2 : o < 3
  ·
   have HE := hD (officeB_t ⟨h1, h2⟩); go_enter Tryz.func32, Tryz.ntmps32; go_wp2_with fail; go_ret; exact ⟨ret_bool HE.out.symm, rfl⟩
  ·
   have HE := hD (officeB_f (fun h => h2 h.2)); go_enter Tryz.func32, Tryz.ntmps32; go_wp2_with fail; go_ret; exact ⟨ret_bool HE.out.symm, rfl⟩
 ·
  have HE := hD (officeB_f (fun h => h1 h.1)); go_enter Tryz.func32, Tryz.ntmps32; go_wp2_with fail; go_ret; exact ⟨ret_bool HE.out.symm, rfl⟩
theorem beyond_any (n : Int) (s : SpanV) (k : Int) (w : World) (hs : SpI s) (hk : 0 ≤ k ∧ k ≤ 9223372036854775807) : Calls Tryz.prog 88 #[.int .i64 n, .agg #[s.lo, s.hi], .int .i64 k] w (RetB (beyondB n s k) w) := by
 have F1 : IntKind.i64.wrap (-k) = -k := IntWalk.i64_in _ (by omega); have HR := hD ((RowsS.nil w).alloc (.cells #[s.lo, s.hi] 53)); have HC := hD (heap_alloc_new w (.cells #[s.lo, s.hi] 53)); go_enter Tryz.func88, Tryz.ntmps88; go_wp2_with (first | (refine lRW HC.out undSp infoSp ?_)); refine (addSp_any s ⟨-k, k⟩ _ hs ⟨⟨by dsimp only; omega, by dsimp only; omega⟩, ⟨by dsimp only; omega, by dsimp only; omega⟩⟩).mono ?_; rintro e w1 ⟨rfl, hb1⟩; have HR1 := hD (HR.out.step hb1); have HT : Hid (beyondB n s k = (decide (n < addS s.lo (-k)) || decide (addS s.hi k < n))) := hD (by unfold beyondB; by_cases h1 : n < addS s.lo (-k) <;> simp [h1]); obtain ⟨x, hx⟩ : ∃ x, x = addS s.lo (-k) := ⟨_, rfl⟩; obtain ⟨y, hy⟩ : ∃ y, y = addS s.hi k := ⟨_, rfl⟩; have e1 : (addSp s ⟨-k, k⟩).lo = x := hx.symm; have e2 : (addSp s ⟨-k, k⟩).hi = y := hy.symm; rw [e1, e2]; rw [← hx, ← hy] at HT; have HR2 := hD (HR1.out.alloc (.cells #[.int .i64 x, .int .i64 y] 53)); clear hb1 HR HC HR1 hx hy e1 e2 F1; by_cases h1 : n < x
 ·
  have HT1 : Hid (beyondB n s k = true) := hD (by rw [HT.out]; simp [h1]); go_wp2_with fail; go_ret; exact retB_mk (by first | exact HT1.out | exact HT.out) HR2.out.below
 ·
  by_cases h2 : y < n
  ·
   have HT1 : Hid (beyondB n s k = true) := hD (by rw [HT.out]; simp [h2]); go_wp2_with fail; go_ret; exact retB_mk (by first | exact HT1.out | exact HT.out) HR2.out.below
  ·
   have HT1 : Hid (beyondB n s k = false) := hD (by rw [HT.out]; simp [h1, h2]); go_wp2_with fail; go_ret; exact retB_mk (by first | exact HT1.out | exact HT.out) HR2.out.below
def CNum (c : CV) : Prop := (-1152921504606846976 ≤ c.inn ∧ c.inn ≤ 1152921504606846976) ∧ (-1152921504606846976 ≤ c.out ∧ c.out ≤ 1152921504606846976) ∧ (-1152921504606846976 ≤ c.store ∧ c.store ≤ 1152921504606846976)
theorem unbalanced_any (jb mb : Nat) (ar ap : Option Addr) (cr cp : Nat) (err : Int) (room ps : List Int) (pubs : List PublicV) (c d : CV) (n : SpanV) (w : World) (hJ : JudgeAt jb mb ar ap cr cp err room ps pubs w) (hc : CNum c) (hd : CNum d) (hn : SpI n) : Calls Tryz.prog 53 #[.pointer (some ⟨jb, 0, none⟩), .agg #[c.office, c.hour, c.inn, c.out, c.store, c.prev, c.e, c.s], .agg #[d.office, d.hour, d.inn, d.out, d.store, d.prev, d.e, d.s], .agg #[n.lo, n.hi]] w (RetB (unbalB err c d n) w) := by
 have HJ := hD hJ.row; have hjl := blk_lt hJ.row; have he := hJ.e0; unfold CNum at hc hd; have W1 : IntKind.i64.wrap (d.store - c.store) = d.store - c.store := IntWalk.i64_in _ (by omega); have W2 : IntKind.i64.wrap (d.inn - c.inn) = d.inn - c.inn := IntWalk.i64_in _ (by omega); have W3 : IntKind.i64.wrap ((d.store - c.store) - (d.inn - c.inn)) = (d.store - c.store) - (d.inn - c.inn) := IntWalk.i64_in _ (by omega); have W4 : IntKind.i64.wrap (d.out - c.out) = d.out - c.out := IntWalk.i64_in _ (by omega); have W5 : IntKind.i64.wrap ((d.store - c.store) - (d.inn - c.inn) + (d.out - c.out)) = (d.store - c.store) - (d.inn - c.inn) + (d.out - c.out) := IntWalk.i64_in _ (by omega); have W6 : IntKind.i64.wrap (6 * err) = 6 * err := IntWalk.i64_in _ (by omega); obtain ⟨w0, hw0, hR0⟩ := RowsS.threeE w (.cells #[c.office, c.hour, c.inn, c.out, c.store, c.prev, c.e, c.s] 63) (.cells #[d.office, d.hour, d.inn, d.out, d.store, d.prev, d.e, d.s] 63) (.cells #[n.lo, n.hi] 53); have HR := hD hR0; have HW0 := hD hw0; clear hR0 hw0; clear hJ; go_enter Tryz.func53, Tryz.ntmps53; go_upto_region 1 with fail; rw [HW0.out]; refine wrd (S := RowsS w _) (HR.out.drew) (fun yH => ?_); refine tn 0 ?_; refine tn 1 ?_ (hx := cx fun _ h => h.cell 1 4 rfl rfl); refine tn 2 ?_; refine tn 3 ?_ (hx := cx fun _ h => h.cell 0 4 rfl rfl); refine tn 4 ?_; refine tn 5 ?_; refine tn 6 ?_ (hx := cx fun _ h => h.cell 1 2 rfl rfl); refine tn 7 ?_; refine tn 8 ?_ (hx := cx fun _ h => h.cell 0 2 rfl rfl); refine tn 9 ?_; refine tn 10 ?_
 refine tn 11 ?_; refine tn 12 ?_ (hx := cx fun _ h => h.cell 1 3 rfl rfl); refine tn 13 ?_; refine tn 14 ?_ (hx := cx fun _ h => h.cell 0 3 rfl rfl); refine tn 15 ?_; refine tn 16 ?_; refine tn 17 ?_ (hx := ldw 2 undSp infoSp); refine tn 18 ?_; refine tn 19 ?_; refine tn 20 ?_; refine tn 21 ?_ (hx := cx fun _ h => h.old HJ 0 rfl); refine tn 22 ?_; refine rd1 23 (fun K hK => ?_); go_simp; refine (beyond_any ((d.store - c.store) - (d.inn - c.inn) + (d.out - c.out)) n (6 * err) _ hn ⟨by omega, by omega⟩).mono ?_; rintro e w' ⟨rfl, hb⟩; refine hK.out _ _ (yH.step hb) (fun yH => ?_); clear hK K; refine tn 24 ?_; refine rdn ?_; go_wp2_with fail; go_ret; exact retB_mk rfl yH.below
theorem contradicts_any (jb mb : Nat) (ar ap : Option Addr) (cr cp : Nat) (err : Int) (room ps : List Int) (pubs : List PublicV) (c d : CV) (n : SpanV) (w : World) (hJ : JudgeAt jb mb ar ap cr cp err room ps pubs w) (hc : CNum c) (hd : CNum d) (hn : SpI n) : Calls Tryz.prog 56 #[.pointer (some ⟨jb, 0, none⟩), .agg #[c.office, c.hour, c.inn, c.out, c.store, c.prev, c.e, c.s], .agg #[d.office, d.hour, d.inn, d.out, d.store, d.prev, d.e, d.s], .agg #[n.lo, n.hi]] w (RetB (contrB err c d n) w) := by
 have HJ := hD hJ.row; have hjl := blk_lt hJ.row; have he := hJ.e0; unfold CNum at hc hd; have W4 : IntKind.i64.wrap (d.out - c.out) = d.out - c.out := IntWalk.i64_in _ (by omega); have W6 : IntKind.i64.wrap (2 * err) = 2 * err := IntWalk.i64_in _ (by omega); obtain ⟨w0, hw0, hR0⟩ := RowsS.threeE w (.cells #[c.office, c.hour, c.inn, c.out, c.store, c.prev, c.e, c.s] 63) (.cells #[d.office, d.hour, d.inn, d.out, d.store, d.prev, d.e, d.s] 63) (.cells #[n.lo, n.hi] 53); have HR := hD hR0; have HW0 := hD hw0; clear hR0 hw0; clear hJ; go_enter Tryz.func56, Tryz.ntmps56; go_upto_region 1 with fail; rw [HW0.out]; refine wrd (S := RowsS w _) (HR.out.drew) (fun yH => ?_); refine tn 0 ?_; refine tn 1 ?_ (hx := cx fun _ h => h.cell 1 3 rfl rfl); refine tn 2 ?_; refine tn 3 ?_ (hx := cx fun _ h => h.cell 0 3 rfl rfl); refine tn 4 ?_; refine tn 5 ?_ (hx := ldw 2 undSp infoSp); refine tn 6 ?_; refine tn 7 ?_; refine tn 8 ?_; refine tn 9 ?_ (hx := cx fun _ h => h.old HJ 0 rfl); refine tn 10 ?_; refine rd1 11 (fun K hK => ?_); go_simp; refine (beyond_any (d.out - c.out) n (2 * err) _ hn ⟨by omega, by omega⟩).mono ?_; rintro e w' ⟨rfl, hb⟩; refine hK.out _ _ (yH.step hb) (fun yH => ?_); clear hK K; refine tn 12 ?_; refine rdn ?_; go_wp2_with fail; go_ret; exact retB_mk rfl yH.below
end Go.Proofs.YtjbjpkhibcnenaaGreatDoor
