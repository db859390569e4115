/- audit.newSearch. -/
import Derived.Test.YtjbjpkhibcnenaaGreatDoorANewL
namespace Go.Proofs.YtjbjpkhibcnenaaGreatDoor
set_option maxRecDepth 100000
set_option maxHeartbeats 8000000
open Go.RowKit
theorem undSC : Tryz.prog.underlying 33 = some (.slice 63) := by kernel_rfl
theorem undSV : Tryz.prog.underlying 34 = some (.slice 38) := by kernel_rfl
theorem step_append_own_at {P : Program} {ops : Array Oper} {o : Oper} {a : Act} {w : World} {K : Act → World → Prop} {Q : Exit → Act → World → Prop} {E : Prop}
 (hg : o.guard = none) (s x : Operand) (t : TypeId)
 (ho : o.op = .call { callee := .builtin .append, args := #[s, x], argTypes := #[t, t] })
 (base : Nat) (e : TypeId) (i : TypeInfo) (z : Value) (size bytes : Nat) (ht : P.underlying t = some (.slice e)) (hi : P.info? e = some i) (hz : i.zero = some z)
 (hsize : i.size = size) (hby : i.bytes = bytes) (hzs : z.cells.size = size) (hsz : 0 < size)
 (v : Value) (n : Nat) (xs : List Value) (hs : a.eval s = v) (hown : w.ownsRow base e size v n xs)
 (ad : Addr) (m c : Nat) (news : List Value) (hx : a.eval x = .slice (some ad) m c) (hl : news.length = m * size) (hnews : ∀ j u, news[j]? = some u → w.cell? (ad.add j) = some u) (h1 : ∀ u ∈ news, u.oneCell' = true)
 (h63 : n + m ≤ maxLen) (hbytes : (n + m) * bytes ≤ 140737488355328) (hbase : base ≤ w.heap.size)
 (h : ∀ v' w', w'.ownsRow base e size v' (n + m) (xs ++ news) → w.grownBy w' v.ownBlock → (v'.ownBlock = v.ownBlock ∨ v'.ownBlock = some w.heap.size) → K (a.put o.dst v') w') :
 if Region.wanted o (yielded ops a.tmps) = true then Oper.wp P o a w K Q else E := by
 have hw : Region.wanted o (yielded ops a.tmps) = true := by simp [Region.wanted, hg]
 rw [if_pos hw]; obtain ⟨v', w', hr, h2, h3, h4, h5⟩ := run_append_own_at (P := P) w base t o.type e i z size bytes ht hi hz hsize hby hzs hsz v n xs hown ad m c news hl hnews h1 h63 hbytes hbase; unfold Oper.wp execOp; simp only [ho, resolve, invoke, builtin, Sem.run_bind, Sem.run_pure, Result.andThen_ok, List.map_toArray, List.map_cons, List.map_nil, hs, hx, hr]; exact h v' w' h2 h3 h5
theorem infoC72 : ∃ i z, Tryz.prog.info? 63 = some i ∧ i.size = 8 ∧ i.zero = some z ∧ z.cells.size = 8 ∧ i.bytes = 72 := by
 have h : (Tryz.prog.info? 63).map (fun i => (i.size, i.zero.map (fun z => z.cells.size), i.bytes)) = some (8, some 8, 72) := by kernel_rfl
 cases hi : Tryz.prog.info? 63 with
 | none => rw [hi] at h; cases h
 | some i =>
  rw [hi] at h; simp only [Option.map_some, Option.some.injEq, Prod.mk.injEq] at h; obtain ⟨h1, h2, h3⟩ := h
  cases hz : i.zero with
  | none => rw [hz] at h2; cases h2
  | some z =>
   rw [hz] at h2; simp only [Option.map_some, Option.some.injEq] at h2; exact ⟨i, z, rfl, h1, hz, h2, h3⟩
theorem infoP48 : ∃ i z, Tryz.prog.info? 38 = some i ∧ i.size = 6 ∧ i.zero = some z ∧ z.cells.size = 6 ∧ i.bytes = 48 := by
 have h : (Tryz.prog.info? 38).map (fun i => (i.size, i.zero.map (fun z => z.cells.size), i.bytes)) = some (6, some 6, 48) := by kernel_rfl
 cases hi : Tryz.prog.info? 38 with
 | none => rw [hi] at h; cases h
 | some i =>
  rw [hi] at h; simp only [Option.map_some, Option.some.injEq, Prod.mk.injEq] at h; obtain ⟨h1, h2, h3⟩ := h
  cases hz : i.zero with
  | none => rw [hz] at h2; cases h2
  | some z =>
   rw [hz] at h2; simp only [Option.map_some, Option.some.injEq] at h2; exact ⟨i, z, rfl, h1, hz, h2, h3⟩
theorem new_cells {c : World} {l : List Value} {t : TypeId} {b : Nat} (h : c.heap[b]? = some (.cells l.toArray t (0, 0))) : ∀ i x, l[i]? = some x → c.cell? ((⟨b, 0, none⟩ : Addr).add i) = some x := fun i x hx => by
 rw [Addr.add_mid, Nat.zero_add, cell_of_row _ _ _ _ _ _ h, ← Array.getElem?_toList]; exact hx
theorem RowsS.grownO {w c c' : World} {rs : List (Nat × Obj)} {r : Option Nat} (h : RowsS w rs c) (hg : c.grownBy c' r) (hr : ∀ g, r = some g → w.heap.size ≤ g) (hn : ∀ p ∈ rs, r ≠ some p.1) : RowsS w rs c' :=
 ⟨fun i p hp => (hg.block p.1 (blk_lt (h.rows i p hp)) (fun e => hn p (List.mem_of_getElem? hp) e.symm)).trans (h.rows i p hp), h.below.grown hg h.below.size hr, h.ge, h.ne⟩
section
variable {w : World} {jp : Value} {sb : Nat} {vs : Nat → Value} {ns : Nat → Nat} {xs : Nat → List Value} {last : Int} {c c' : World}
theorem NS.fn {ns' : Nat → Nat} {xs' : Nat → List Value} {l2 : Int} (h : NS w jp sb vs ns xs last c) (e1 : ns = ns') (e2 : xs = xs') (e3 : last = l2) : NS w jp sb vs ns' xs' l2 c := by subst e1; subst e2; subst e3; exact h
theorem NS.lt (h : NS w jp sb vs ns xs last c) {q : Nat} (hq : q < 4) : ∀ g, (vs q).ownBlock = some g → g < c.heap.size := fun g e => ((h.owns q hq).lt g e).2
theorem NS.cell5 (h : NS w jp sb vs ns xs last c) : c.cell? ⟨sb, 5, none⟩ = some (.int .i64 last) := by
 rw [cell_of_row _ _ _ _ _ _ h.row]
 rfl
theorem NS.frz (h : NS w jp sb vs ns xs last c) (i : Nat) : c.frozen? ⟨sb, i, none⟩ = false := frozen_of_row _ _ _ _ _ h.row
end
def LQ (J : JV) (l : List CV) : Nat → List CV := fun q => clO J l (q : Int)
theorem upd_ns {J : JV} {l : List CV} {k q : Nat} {c : CV} {V : List PV} (h : l[k]? = some c) (hk : J.K c = true) (ho : c.office = (q : Int)) (hq : q < 3) : upd (nsQ (LQ J (l.take k)) V) q (nsQ (LQ J (l.take k)) V q + 1) = nsQ (LQ J (l.take (k + 1))) V := by
 funext r
 by_cases e : r = q
 ·
  subst e; rw [upd_same]; unfold nsQ LQ; rw [if_pos hq, if_pos hq, clO_snoc h, if_pos ⟨hk, ho⟩, List.length_append]
  rfl
 ·
  rw [upd_other _ _ e]; unfold nsQ LQ; by_cases h3 : r < 3
  · rw [if_pos h3, if_pos h3, clO_snoc h, if_neg (fun hh => e (by have := hh.2; omega))]
  · rw [if_neg h3, if_neg h3]
theorem upd_xs {J : JV} {l : List CV} {k q : Nat} {c : CV} {V : List PV} (h : l[k]? = some c) (hk : J.K c = true) (ho : c.office = (q : Int)) (hq : q < 3) : upd (xsQ (LQ J (l.take k)) V) q (xsQ (LQ J (l.take k)) V q ++ cellsC c) = xsQ (LQ J (l.take (k + 1))) V := by
 funext r
 by_cases e : r = q
 ·
  subst e; rw [upd_same]; unfold xsQ LQ flC; rw [if_pos hq, if_pos hq, clO_snoc h, if_pos ⟨hk, ho⟩, List.flatMap_append]; simp
 ·
  rw [upd_other _ _ e]; unfold xsQ LQ; by_cases h3 : r < 3
  · rw [if_pos h3, if_pos h3, clO_snoc h, if_neg (fun hh => e (by have := hh.2; omega))]
  · rw [if_neg h3, if_neg h3]
theorem same_lq {J : JV} {l : List CV} {k : Nat} {c : CV} (h : l[k]? = some c) (hk : J.K c = false) : LQ J (l.take k) = LQ J (l.take (k + 1)) := by
 funext r
 unfold LQ; rw [clO_snoc h, if_neg (fun h2 => by rw [hk] at h2; cases h2.1)]
theorem updp_ns {L : Nat → List CV} {V : List PV} {p : PV} : upd (nsQ L V) 3 (nsQ L V 3 + 1) = nsQ L (V ++ [p]) := by
 funext r
 by_cases e : r = 3
 ·
  subst e; rw [upd_same]; unfold nsQ; rw [if_neg (by decide), if_pos rfl, if_neg (by decide), if_pos rfl, List.length_append]
  rfl
 ·
  rw [upd_other _ _ e]; unfold nsQ; rw [if_neg e, if_neg e]
theorem updp_xs {L : Nat → List CV} {V : List PV} {p : PV} : upd (xsQ L V) 3 (xsQ L V 3 ++ cellsP p) = xsQ L (V ++ [p]) := by
 funext r
 by_cases e : r = 3
 ·
  subst e; rw [upd_same]; unfold xsQ flP; rw [if_neg (by decide), if_pos rfl, if_neg (by decide), if_pos rfl, List.flatMap_append]; simp
 ·
  rw [upd_other _ _ e]; unfold xsQ; rw [if_neg e, if_neg e]
theorem filt_snoc {V : PV → Bool} {l : List PV} {k : Nat} {p : PV} (h : l[k]? = some p) : (l.take (k + 1)).filter V = if V p = true then (l.take k).filter V ++ [p] else (l.take k).filter V := by
 rw [List.take_add_one, h, Option.toList_some, List.filter_append]
 cases hp : V p <;> simp [hp]
def RetN (jb : Nat) (J : JV) (l : List CV) (vows : List PV) (w : World) (e : Ending) (w' : World) : Prop :=
 ∃ sb a0 a1 a2 av k0 k1 k2 kv, e = .returned (.pointer (some ⟨sb, 0, none⟩)) ∧ SearchAt sb jb a0 a1 a2 av k0 k1 k2 kv (clO J l 0) (clO J l 1) (clO J l 2) (vows.filter J.V) (lastN J l) w' ∧ Below w.heap.size w w'
theorem search_of {ps : List Int} {J : JV} {jb sb : Nat} {vs : Nat → Value} {l : List CV} {vows : List PV} {w c : World} (h : NS w (.pointer (some ⟨jb, 0, none⟩)) sb vs (nsQ (LQ J l) (vows.filter J.V)) (xsQ (LQ J l) (vows.filter J.V)) (lastN J l) c)
 (hK : J.K = kB ps) (hc : ∀ x ∈ l, CGood x) (hp : ∀ p ∈ vows, POk p) (hl : l.length ≤ 1000) (hv : vows.length ≤ 1000) : ∃ a0 a1 a2 av k0 k1 k2 kv, SearchAt sb jb a0 a1 a2 av k0 k1 k2 kv (clO J l 0) (clO J l 1) (clO J l 2) (vows.filter J.V) (lastN J l) c := by
 have hm : ∀ (o : Int) (x : CV), x ∈ clO J l o → CGood x := fun o x hx => hc x (mem_clO.1 hx).1; obtain ⟨a0, k0, e0, h0⟩ := larg_ownC (l := clO J l 0) (h.owns 0 (by decide)) (hm 0); obtain ⟨a1, k1, e1, h1⟩ := larg_ownC (l := clO J l 1) (h.owns 1 (by decide)) (hm 1); obtain ⟨a2, k2, e2, h2⟩ := larg_ownC (l := clO J l 2) (h.owns 2 (by decide)) (hm 2); obtain ⟨av, kv, ev, h3⟩ := larg_ownP (l := vows.filter J.V) (h.owns 3 (by decide)) (fun x hx => hp x (List.mem_filter.1 hx).1); have hr := h.row; unfold sRow at hr; rw [e0, e1, e2, ev] at hr; have hle : ∀ o : Int, (clO J l o).length ≤ 1000 := fun o => Nat.le_trans (List.length_filter_le _ _) hl
 have hg : ∀ (o : Int) (x : CV), x ∈ clO J l o → CNum x ∧ 0 ≤ x.hour ∧ x.hour ≤ lastN J l ∧ x.office = o := fun o x hx => by
  obtain ⟨g1, g2, g3⟩ := mem_clO.1 hx; have g4 := g2; rw [hK] at g4; obtain ⟨g5, -, g6, -⟩ := kB_num g4; exact ⟨g5, g6, (lastN_ge l 0).2 x g1 g2, g3⟩
 refine ⟨a0, a1, a2, av, k0, k1, k2, kv, hr, h0, h1, h2, h3, hle 0, hle 1, hle 2, Nat.le_trans (List.length_filter_le _ _) hv, fun x hx => hg 0 x hx, fun x hx => hg 1 x hx, fun x hx => hg 2 x hx, ?_⟩; refine lastN_le l 0 (by decide) (fun x hx hk => ?_); rw [hK] at hk; exact (kB_num hk).2.2.2
theorem NS.ownC {w : World} {jp : Value} {sb : Nat} {vs : Nat → Value} {ns : Nat → Nat} {xs : Nat → List Value} {last : Int} {c : World} (h : NS w jp sb vs ns xs last c) {q : Nat} (hq : q < 3) : c.ownsRow w.heap.size 63 8 (vs q) (ns q) (xs q) := by
 have := h.owns q (by omega); unfold tyQ szQ at this; rw [if_pos hq, if_pos hq] at this; exact this
theorem own_tyC {w : World} {base q n : Nat} {v : Value} {xs : List Value} (hq : q < 3) (h : w.ownsRow base 63 8 v n xs) : w.ownsRow base (tyQ q) (szQ q) v n xs := by
 unfold tyQ szQ; rw [if_pos hq, if_pos hq]; exact h
theorem cell_sRow {c : World} {sb : Nat} {jp : Value} {vs : Nat → Value} {last : Int} (h : c.heap[sb]? = some (.cells (sRow jp vs last) 99 (0, 0))) {q : Nat} (hq : q < 4) : c.cell? ⟨sb, 1 + q, none⟩ = some (vs q) := by
 rw [cell_of_row _ _ _ _ _ _ h]; rcases q with _ | _ | _ | _ | q
 · rfl
 · rfl
 · rfl
 · rfl
 · omega
theorem rows_nil {w c : World} (h : Below w.heap.size w c) : RowsS w [] c := ⟨fun i p h => by simp at h, h, fun p h => by simp at h, by simp⟩
theorem nsQ_nil {J : JV} {l : List CV} {V : List PV} {f : PV → Bool} : (fun _ => 0) = nsQ (LQ J (l.take 0)) ((V.take 0).filter f) := by
 funext r
 unfold nsQ LQ clO; rw [List.take_zero, List.take_zero]; by_cases h : r < 3 <;> by_cases h2 : r = 3 <;> simp [h, h2]
theorem xsQ_nil {J : JV} {l : List CV} {V : List PV} {f : PV → Bool} : (fun _ => []) = xsQ (LQ J (l.take 0)) ((V.take 0).filter f) := by
 funext r
 unfold xsQ LQ clO flC flP; rw [List.take_zero, List.take_zero]; by_cases h : r < 3 <;> by_cases h2 : r = 3 <;> simp [h, h2]
theorem nsQ_le {J : JV} {l : List CV} {V : List PV} {q k : Nat} (hl : l.length ≤ 1000) (hV : V.length ≤ 1000) : nsQ (LQ J (l.take k)) V q ≤ 1000 := by
 unfold nsQ
 split
 ·
  refine Nat.le_trans (List.length_filter_le _ _) ?_; rw [List.length_take]; omega
 ·
  split
  · exact hV
  · omega
theorem filt_le {V : PV → Bool} {l : List PV} {k : Nat} (hl : l.length ≤ 1000) : ((l.take k).filter V).length ≤ 1000 := by
 refine Nat.le_trans (List.length_filter_le _ _) ?_; rw [List.length_take]; omega
theorem own_slice {w : World} {base size n : Nat} {e : TypeId} {v : Value} {xs : List Value} (h : w.ownsRow base e size v n xs) : ∃ a m c, v = .slice a m c := by
 rcases h.2 with ⟨rfl, _⟩ | ⟨g, cap, cur, rfl, _⟩
 · exact ⟨_, _, _, rfl⟩
 · exact ⟨_, _, _, rfl⟩
theorem grown_setC (c : World) (b i : Nat) (v : Value) : c.grownBy (c.setCell ⟨b, i, none⟩ v) (some b) := ⟨rfl, rfl, rfl, by simp, fun k _ hk => heap_setCell_other _ _ _ _ (fun e => hk (by rw [e]))⟩
theorem alloc_drew_below (c : World) (o : Obj) : Below c.heap.size c (c.alloc o).drew := ((Below.refl _ _).alloc (Nat.le_refl _) o).drew
theorem newSearch_any (jb mb : Nat) (ar ap : Option Addr) (cr cp : Nat) (err : Int) (room ps : List Int) (pubs : List PublicV) (al av : Option Addr) (lc vc : Nat) (l : List CV) (vows : List PV) (w : World) (hJ : JudgeAt jb mb ar ap cr cp err room ps pubs w) (hL : LArg RC 8 (.slice al l.length lc) l w) (hV : LArg RP 6 (.slice av vows.length vc) vows w) (hl : l.length ≤ 1000) (hvl : vows.length ≤ 1000) (hC : ∀ c ∈ l, c.prev.size ≤ 900) (hg : Glob w) (hml : MLen w) :
 Calls Tryz.prog 22 #[.pointer (some ⟨jb, 0, none⟩), .slice al l.length lc, .slice av vows.length vc] w (RetN jb (judgeV err room ps pubs) l vows w) := by
 obtain ⟨ic, zc, hic, hsz, hzc, hcz, hbc⟩ := infoC72; obtain ⟨ip, zp, hip, hszp, hzp, hczp, hbp⟩ := infoP48; have HJd := hD hJ; have HL := hD hL; have HV := hD hV; have HC9 := hD hC; have HGl := hD hg; have HML := hD hml; clear hJ hL hV hC hg hml; have HN0 : Hid (NS w (.pointer (some ⟨jb, 0, none⟩)) w.heap.size (fun _ => .slice none 0 0) (nsQ (LQ (judgeV err room ps pubs) (l.take (0))) ((vows.take (0)).filter (vB ps))) (xsQ (LQ (judgeV err room ps pubs) (l.take (0))) ((vows.take (0)).filter (vB ps))) (lastN (judgeV err room ps pubs) (l.take (0))) (w.alloc (.cells #[.pointer (some ⟨jb, 0, none⟩), .slice none 0 0, .slice none 0 0, .slice none 0 0, .slice none 0 0, ()] 99))) := hD ((NS.start (heap_alloc_new w (.cells #[.pointer (some ⟨jb, 0, none⟩), .slice none 0 0, .slice none 0 0, .slice none 0 0, .slice none 0 0, ()] 99)) (Nat.le_refl _) ((Below.refl _ _).alloc (Nat.le_refl _) _)).fn nsQ_nil xsQ_nil rfl); go_enter Tryz.func22, Tryz.ntmps22; go_upto_region 2 with fail; generalize w.alloc (.cells #[.pointer (some ⟨jb, 0, none⟩), .slice none 0 0, .slice none 0 0, .slice none 0 0, .slice none 0 0, ()] 99) = w0 at *; go_wp2_with fail; go_loopw [17] (fun iv wx => ∃ (k : Nat) (vs : Nat → Value), k ≤ l.length ∧ iv = .int .i64 k ∧ NS w (.pointer (some ⟨jb, 0, none⟩)) w.heap.size vs (nsQ (LQ (judgeV err room ps pubs) (l.take (k))) ((vows.take (0)).filter (vB ps))) (xsQ (LQ (judgeV err room ps pubs) (l.take (k))) ((vows.take (0)).filter (vB ps))) (lastN (judgeV err room ps pubs) (l.take (k))) wx) (fun iv _ => l.length - (Go.RowKit.intOf iv).toNat)
 case atStart => exact ⟨0, _, Nat.zero_le _, rfl, HN0.out⟩
 case round =>
  obtain ⟨k, vs, hk, rfl, hr⟩ := hrel; have HN1 := hD hr; clear hr HN0; by_cases hlt : k < l.length
  ·
   obtain ⟨c, hc⟩ : ∃ c, l[k]? = some c := ⟨_, List.getElem?_eq_getElem hlt⟩; have hcg := good_of HL.out (List.mem_of_getElem? hc); obtain ⟨b, o, cs, rfl, hbl, -, hrg, hcs, -⟩ := HL.out.at hc; unfold cellsC at hcs; subst hcs; have HRG := hD (rangeAt_below hrg HN1.out.below hbl); have HC := hD hc; have HR2 := hD ((rows_nil HN1.out.below).alloc (.cells #[c.office, c.hour, c.inn, c.out, c.store, c.prev, c.e, c.s] 63)); have HN2 := hD (HN1.out.step ((Below.refl _ _).alloc (Nat.le_refl _) (.cells #[c.office, c.hour, c.inn, c.out, c.store, c.prev, c.e, c.s] 63))); have HBC : Hid (∀ q, q < 4 → (vs q).ownBlock ≠ some wr.heap.size) := hD (fun q hq e => Nat.lt_irrefl _ (HN1.out.lt hq _ e)); have HBS : Hid (w.heap.size ≠ wr.heap.size) := hD (Nat.ne_of_lt (blk_lt HN1.out.row)); clear hc hrg HN1; go_upto_region 5 with (refine lRG HRG.out undCm infoCm ?_); clear HRG; generalize wr.alloc (.cells #[c.office, c.hour, c.inn, c.out, c.store, c.prev, c.e, c.s] 63) = w2 at *; generalize wr.heap.size = bC at *
   cases hkb : kB ps c with
   | true =>
    have HCa : Hid (∀ w0, Below w.heap.size w w0 → Calls Tryz.prog 33 #[.pointer (some ⟨jb, 0, none⟩), .agg #[c.office, c.hour, c.inn, c.out, c.store, c.prev, c.e, c.s]] w0 fun e w' => e = .returned (.bool true) ∧ Below w0.heap.size w0 w') := hD (fun w0 hb => by have h := counts_any jb mb ar ap cr cp err room ps pubs c w0 (HJd.out.below hb) hcg.1 (Nat.le_trans (HC9.out c (List.mem_of_getElem? HC.out)) (by decide)) (HGl.out.below hb HGl.out.size) (HML.out.up hb); rw [hkb] at h; exact h); have HKB : Hid (JV.K (judgeV err room ps pubs) c = true) := hD hkb; obtain ⟨-, ⟨ho0, ho3⟩, -⟩ := kB_num hkb; obtain ⟨q, hq⟩ : ∃ q : Nat, c.office = (q : Int) := ⟨c.office.toNat, by omega⟩; have HO := hD hq; have hq3 : q < 3 := by omega
    have hq4 : q < 4 := by omega
    have hq3i : (q : Int) < 3 := by omega
    have hnle : nsQ (LQ (judgeV err room ps pubs) (l.take k)) ((vows.take 0).filter (vB ps)) q ≤ 1000 := nsQ_le hl (by simp); have HLS : Hid (max (lastN (judgeV err room ps pubs) (l.take k)) c.hour = lastN (judgeV err room ps pubs) (l.take (k + 1))) := hD (by rw [lastN_snoc HC.out, if_pos HKB.out]); clear hkb ho0 ho3 hq; go_wp2_with (first | (refine lRW (HR2.out.row 0 rfl) undCm infoCm ?_)); refine (HCa.out _ HR2.out.below).mono ?_; rintro e w3 ⟨rfl, hb3⟩; have HR3 := hD (HR2.out.step hb3); have HN := hD (HN2.out.step hb3); clear hb3 HR2 HN2 HCa; go_upto_region 6 with fail; refine wrd (S := RowsS w _) (HR3.out.drew) (fun yH => ?_); refine tn 0 ?_; refine tn 1 ?_; refine tn 2 ?_ (hx := fun wz hSw => by have e4 := hSw.cell 0 0 rfl rfl; rw [HO.out] at e4; go_simp; try with_reducible rfl); refine tn 3 ?_; refine tn 4 ?_; refine tn 5 ?_ (hx := fun wz hSw => by have e4 := hSw.cell 0 0 rfl rfl; rw [HO.out] at e4; go_simp; try with_reducible rfl); refine tn 6 ?_; refine tn 7 ?_; refine tn 8 ?_; refine tn 10 ?_ (hx := ldw 0 undCm infoCm); refine tn 13 ?_; refine tn 14 ?_; refine rd2 9 11 (fun K hK => ?_) (fun K hK => ?_)
    ·
     have e4 := cell_sRow (q := q) HN.out.row hq4; go_simp; refine hK.out _ _ yH (fun yH => ?_); clear hK K e4; refine rd1 11 (fun K hK => ?_); have HNA := hD (HN.out.step (alloc_drew_below w3 (.cells #[c.office, c.hour, c.inn, c.out, c.store, c.prev, c.e, c.s] 63))); have hbA : (w3.alloc (.cells #[c.office, c.hour, c.inn, c.out, c.store, c.prev, c.e, c.s] 63)).drew.heap[w3.heap.size]? = some (.cells #[c.office, c.hour, c.inn, c.out, c.store, c.prev, c.e, c.s] 63) := heap_alloc_new w3 (.cells #[c.office, c.hour, c.inn, c.out, c.store, c.prev, c.e, c.s] 63); have hnew : ∀ i x, ([.int .i64 c.office, .int .i64 c.hour, .int .i64 c.inn, .int .i64 c.out, .int .i64 c.store, .string c.prev, .int .i64 c.e, .int .i64 c.s] : List Value)[i]? = some x → (w3.alloc (.cells #[c.office, c.hour, c.inn, c.out, c.store, c.prev, c.e, c.s] 63)).drew.cell? ((⟨w3.heap.size, 0, none⟩ : Addr).add i) = some x := new_cells hbA; go_simp; refine hK.out _ _ (RowsS.drew (yH.undrew.step ((Below.refl _ _).alloc (Nat.le_refl _) _))) (fun yH => ?_); clear hK K hbA; refine rd1 12 (fun K hK => ?_); refine step_append_own_at rfl _ _ 33 rfl w.heap.size 63 ic zc 8 ic.bytes undSC hic hzc hsz rfl hcz (by decide) (vs q) _ _ rfl (HNA.out.ownC hq3) ⟨w3.heap.size, 0, none⟩ 1 1 [.int .i64 c.office, .int .i64 c.hour, .int .i64 c.inn, .int .i64 c.out, .int .i64 c.store, .string c.prev, .int .i64 c.e, .int .i64 c.s] rfl rfl hnew (by simp [Value.oneCell']) (by unfold maxLen; omega) (by rw [hbc]; omega) HNA.out.below.size ?_; intro v' w5 hown5 hgr5 hat5
     obtain ⟨a5, n5, c5, rfl⟩ := own_slice hown5; obtain ⟨hrow5, hns5⟩ := HNA.out.app hq4 hgr5 (own_tyC hq3 hown5) hat5; have HNS := hD hns5; have HRW := hD hrow5
     refine hK.out _ _ (yH.grownO hgr5 (fun g e => ((HNA.out.owns q hq4).lt g e).1) (fun p hp => by
      have : p.1 = bC := by simp at hp; rw [hp]
      rw [this]; exact HBC.out q hq4)) (fun yH => ?_)
     clear hK K hown5 hgr5 hat5 hrow5 hns5 hnew HNA; refine tn 15 ?_; refine rd1 16 (fun K hK => ?_); have e4 := cell_sRow (q := q) HRW.out hq4; have e5 := frozen_of_row _ _ (1 + q) _ _ HRW.out; go_simp
     refine hK.out _ _ (yH.grownO (r := some w.heap.size) (grown_setC _ _ _ _) (fun g e => by cases e; exact Nat.le_refl _) (fun p hp => by
      have : p.1 = bC := by simp at hp; rw [hp]
      rw [this]; intro e; simp only [Option.some.injEq] at e; exact HBS.out e)) (fun yH => ?_)
     clear hK K e4 e5; refine rdn ?_; have HN6 := HNS; have HR6 := hD yH; go_wp2_with fail; refine wrd (S := RowsS w _) (HR6.out.drew) (fun yH => ?_); refine tn 0 ?_; refine tn 1 ?_; refine tn 2 ?_; refine tn 3 ?_; refine tn 5 ?_; refine tn 6 ?_ (hx := cx fun _ h => h.cell 0 1 rfl rfl); refine rd1 4 (fun K hK => ?_); have e4 := HN6.out.cell5; go_simp; refine hK.out _ _ yH (fun yH => ?_); clear hK K e4; refine tn 7 ?_; refine tn 8 ?_; refine tn 9 ?_; refine rd1 10 (fun K hK => ?_); have e4 := HN6.out.cell5; have e5 := HN6.out.frz 5; go_simp
     refine hK.out _ _ (RowsS.drew (yH.undrew.grownO (r := some w.heap.size) (grown_setC _ _ _ _) (fun g e => by cases e; exact Nat.le_refl _) (fun p hp => by
      have : p.1 = bC := by simp at hp; rw [hp]
      rw [this]; intro e; simp only [Option.some.injEq] at e; exact HBS.out e))) (fun yH => ?_)
     clear hK K e4 e5; refine rdn ?_; have HN7 := hD (HN6.out.setLast (max (lastN (judgeV err room ps pubs) (l.take k)) c.hour)); go_wp2_with fail; go_roundw
     case rel => exact ⟨k + 1, upd vs q (.slice a5 n5 c5), by omega, by go_num, (HN7.out.fn (upd_ns HC.out HKB.out HO.out hq3) (upd_xs HC.out HKB.out HO.out hq3) HLS.out).step (Below.refl _ _).drew⟩
     case measure => simp [Go.RowKit.intOf]; omega
    ·
     have HNA := hD (HN.out.step (alloc_drew_below w3 (.cells #[c.office, c.hour, c.inn, c.out, c.store, c.prev, c.e, c.s] 63))); have hbA : (w3.alloc (.cells #[c.office, c.hour, c.inn, c.out, c.store, c.prev, c.e, c.s] 63)).drew.heap[w3.heap.size]? = some (.cells #[c.office, c.hour, c.inn, c.out, c.store, c.prev, c.e, c.s] 63) := heap_alloc_new w3 (.cells #[c.office, c.hour, c.inn, c.out, c.store, c.prev, c.e, c.s] 63); have hnew : ∀ i x, ([.int .i64 c.office, .int .i64 c.hour, .int .i64 c.inn, .int .i64 c.out, .int .i64 c.store, .string c.prev, .int .i64 c.e, .int .i64 c.s] : List Value)[i]? = some x → (w3.alloc (.cells #[c.office, c.hour, c.inn, c.out, c.store, c.prev, c.e, c.s] 63)).drew.cell? ((⟨w3.heap.size, 0, none⟩ : Addr).add i) = some x := new_cells hbA; go_simp; refine hK.out _ _ (RowsS.drew (yH.undrew.step ((Below.refl _ _).alloc (Nat.le_refl _) _))) (fun yH => ?_); clear hK K hbA; refine rd1 9 (fun K hK => ?_); have e4 := cell_sRow (q := q) HNA.out.row hq4; go_simp; refine hK.out _ _ yH (fun yH => ?_); clear hK K e4; refine rd1 12 (fun K hK => ?_); refine step_append_own_at rfl _ _ 33 rfl w.heap.size 63 ic zc 8 ic.bytes undSC hic hzc hsz rfl hcz (by decide) (vs q) _ _ rfl (HNA.out.ownC hq3) ⟨w3.heap.size, 0, none⟩ 1 1 [.int .i64 c.office, .int .i64 c.hour, .int .i64 c.inn, .int .i64 c.out, .int .i64 c.store, .string c.prev, .int .i64 c.e, .int .i64 c.s] rfl rfl hnew (by simp [Value.oneCell']) (by unfold maxLen; omega) (by rw [hbc]; omega) HNA.out.below.size ?_; intro v' w5 hown5 hgr5 hat5
     obtain ⟨a5, n5, c5, rfl⟩ := own_slice hown5; obtain ⟨hrow5, hns5⟩ := HNA.out.app hq4 hgr5 (own_tyC hq3 hown5) hat5; have HNS := hD hns5; have HRW := hD hrow5
     refine hK.out _ _ (yH.grownO hgr5 (fun g e => ((HNA.out.owns q hq4).lt g e).1) (fun p hp => by
      have : p.1 = bC := by simp at hp; rw [hp]
      rw [this]; exact HBC.out q hq4)) (fun yH => ?_)
     clear hK K hown5 hgr5 hat5 hrow5 hns5 hnew HNA; refine tn 15 ?_; refine rd1 16 (fun K hK => ?_); have e4 := cell_sRow (q := q) HRW.out hq4; have e5 := frozen_of_row _ _ (1 + q) _ _ HRW.out; go_simp
     refine hK.out _ _ (yH.grownO (r := some w.heap.size) (grown_setC _ _ _ _) (fun g e => by cases e; exact Nat.le_refl _) (fun p hp => by
      have : p.1 = bC := by simp at hp; rw [hp]
      rw [this]; intro e; simp only [Option.some.injEq] at e; exact HBS.out e)) (fun yH => ?_)
     clear hK K e4 e5; refine rdn ?_; have HN6 := HNS; have HR6 := hD yH; go_wp2_with fail; refine wrd (S := RowsS w _) (HR6.out.drew) (fun yH => ?_); refine tn 0 ?_; refine tn 1 ?_; refine tn 2 ?_; refine tn 3 ?_; refine tn 5 ?_; refine tn 6 ?_ (hx := cx fun _ h => h.cell 0 1 rfl rfl); refine rd1 4 (fun K hK => ?_); have e4 := HN6.out.cell5; go_simp; refine hK.out _ _ yH (fun yH => ?_); clear hK K e4; refine tn 7 ?_; refine tn 8 ?_; refine tn 9 ?_; refine rd1 10 (fun K hK => ?_); have e4 := HN6.out.cell5; have e5 := HN6.out.frz 5; go_simp
     refine hK.out _ _ (RowsS.drew (yH.undrew.grownO (r := some w.heap.size) (grown_setC _ _ _ _) (fun g e => by cases e; exact Nat.le_refl _) (fun p hp => by
      have : p.1 = bC := by simp at hp; rw [hp]
      rw [this]; intro e; simp only [Option.some.injEq] at e; exact HBS.out e))) (fun yH => ?_)
     clear hK K e4 e5; refine rdn ?_; have HN7 := hD (HN6.out.setLast (max (lastN (judgeV err room ps pubs) (l.take k)) c.hour)); go_wp2_with fail; go_roundw
     case rel => exact ⟨k + 1, upd vs q (.slice a5 n5 c5), by omega, by go_num, (HN7.out.fn (upd_ns HC.out HKB.out HO.out hq3) (upd_xs HC.out HKB.out HO.out hq3) HLS.out).step (Below.refl _ _).drew⟩
     case measure => simp [Go.RowKit.intOf]; omega
   | false =>
    have HCa : Hid (∀ w0, Below w.heap.size w w0 → Calls Tryz.prog 33 #[.pointer (some ⟨jb, 0, none⟩), .agg #[c.office, c.hour, c.inn, c.out, c.store, c.prev, c.e, c.s]] w0 fun e w' => e = .returned (.bool false) ∧ Below w0.heap.size w0 w') := hD (fun w0 hb => by have h := counts_any jb mb ar ap cr cp err room ps pubs c w0 (HJd.out.below hb) hcg.1 (Nat.le_trans (HC9.out c (List.mem_of_getElem? HC.out)) (by decide)) (HGl.out.below hb HGl.out.size) (HML.out.up hb); rw [hkb] at h; exact h); have HKB : Hid (JV.K (judgeV err room ps pubs) c = false) := hD hkb; have HE : Hid (LQ (judgeV err room ps pubs) (l.take k) = LQ (judgeV err room ps pubs) (l.take (k + 1))) := hD (same_lq HC.out HKB.out); have HLS : Hid (lastN (judgeV err room ps pubs) (l.take k) = lastN (judgeV err room ps pubs) (l.take (k + 1))) := hD (by rw [lastN_snoc HC.out, if_neg (by rw [HKB.out]; decide)]); clear hkb; go_wp2_with (first | (refine lRW (HR2.out.row 0 rfl) undCm infoCm ?_)); refine (HCa.out _ HR2.out.below).mono ?_; rintro e w3 ⟨rfl, hb3⟩; have HN := hD (HN2.out.step hb3); clear hb3 HR2 HN2 HCa; go_wp2_with fail; go_roundw
    case rel => exact ⟨k + 1, vs, by omega, by go_num, HN.out.fn (by rw [HE.out]) (by rw [HE.out]) HLS.out⟩
    case measure => simp [Go.RowKit.intOf]; omega
  ·
   obtain rfl : k = l.length := by omega
   have HTL : Hid (l.take l.length = l) := hD (List.take_length ..); clear hlt hk; go_wp2_with fail; rename World => wy; go_loopw [53] (fun iv wx => ∃ (k : Nat) (vs : Nat → Value), k ≤ vows.length ∧ iv = .int .i64 k ∧ NS w (.pointer (some ⟨jb, 0, none⟩)) w.heap.size vs (nsQ (LQ (judgeV err room ps pubs) (l.take (l.length))) ((vows.take (k)).filter (vB ps))) (xsQ (LQ (judgeV err room ps pubs) (l.take (l.length))) ((vows.take (k)).filter (vB ps))) (lastN (judgeV err room ps pubs) (l.take (l.length))) wx) (fun iv _ => vows.length - (Go.RowKit.intOf iv).toNat)
   case atStart => exact ⟨0, _, Nat.zero_le _, rfl, HN1.out⟩
   case round =>
    obtain ⟨k, vs, hk, rfl, hr⟩ := hrel; clear HN1; have HN1 := hD hr; clear hr; by_cases hlt : k < vows.length
    ·
     obtain ⟨p, hp⟩ : ∃ p, vows[k]? = some p := ⟨_, List.getElem?_eq_getElem hlt⟩; obtain ⟨b, o, cs, rfl, hbl, -, hrg, hcs, hpo⟩ := HV.out.at hp; unfold cellsP at hcs; subst hcs; have HRG := hD (rangeAt_below hrg HN1.out.below hbl); have HP := hD hp; have HR2 := hD ((rows_nil HN1.out.below).alloc (.cells #[p.office, p.since, p.till, p.litres, p.e, p.s] 38)); have HN2 := hD (HN1.out.step ((Below.refl _ _).alloc (Nat.le_refl _) (.cells #[p.office, p.since, p.till, p.litres, p.e, p.s] 38))); have HBC : Hid (∀ q, q < 4 → (vs q).ownBlock ≠ some wr.heap.size) := hD (fun q hq e => Nat.lt_irrefl _ (HN1.out.lt hq _ e)); have HBS : Hid (w.heap.size ≠ wr.heap.size) := hD (Nat.ne_of_lt (blk_lt HN1.out.row)); clear hp hrg HN1; go_upto_region 12 with (refine lRG HRG.out undPm infoPm ?_); clear HRG; generalize wr.alloc (.cells #[p.office, p.since, p.till, p.litres, p.e, p.s] 38) = w2 at *; generalize wr.heap.size = bC at *
     cases hkb : vB ps p with
     | true =>
      have HCa : Hid (∀ w0, Below w.heap.size w w0 → Calls Tryz.prog 50 #[.pointer (some ⟨jb, 0, none⟩), .agg #[p.office, p.since, p.till, p.litres, p.e, p.s]] w0 fun e w' => e = .returned (.bool true) ∧ Below w0.heap.size w0 w') := hD (fun w0 hb => by have h := promised_any jb mb ar ap cr cp err room ps pubs p w0 (HJd.out.below hb) hpo (HGl.out.below hb HGl.out.size) (HML.out.up hb); rw [hkb] at h; exact h); have HKB := hD hkb; have hq4 : 3 < 4 := by decide
      have hnle : nsQ (LQ (judgeV err room ps pubs) (l.take l.length)) ((vows.take k).filter (vB ps)) 3 ≤ 1000 := nsQ_le hl (filt_le hvl); have HFL : Hid ((vows.take k).filter (vB ps) ++ [p] = (vows.take (k + 1)).filter (vB ps)) := hD (by rw [filt_snoc HP.out, if_pos HKB.out]); clear hkb; go_wp2_with (first | (refine lRW (HR2.out.row 0 rfl) undPm infoPm ?_)); refine (HCa.out _ HR2.out.below).mono ?_; rintro e w3 ⟨rfl, hb3⟩; have HR3 := hD (HR2.out.step hb3); have HN := hD (HN2.out.step hb3); clear hb3 HR2 HN2 HCa; go_upto_region 13 with fail; refine wrd (S := RowsS w _) (HR3.out.drew) (fun yH => ?_); refine tn 0 ?_; refine tn 1 ?_; refine tn 2 ?_; refine tn 3 ?_; refine tn 5 ?_ (hx := ldw 0 undPm infoPm); refine rd2 4 6 (fun K hK => ?_) (fun K hK => ?_)
      ·
       have e4 := cell_sRow (q := 3) HN.out.row hq4; go_simp; refine hK.out _ _ yH (fun yH => ?_); clear hK K e4; refine rd1 6 (fun K hK => ?_); have HNA := hD (HN.out.step (alloc_drew_below w3 (.cells #[p.office, p.since, p.till, p.litres, p.e, p.s] 38))); have hbA : (w3.alloc (.cells #[p.office, p.since, p.till, p.litres, p.e, p.s] 38)).drew.heap[w3.heap.size]? = some (.cells #[p.office, p.since, p.till, p.litres, p.e, p.s] 38) := heap_alloc_new w3 (.cells #[p.office, p.since, p.till, p.litres, p.e, p.s] 38); have hnew : ∀ i x, ([.int .i64 p.office, .int .i64 p.since, .int .i64 p.till, .int .i64 p.litres, .int .i64 p.e, .int .i64 p.s] : List Value)[i]? = some x → (w3.alloc (.cells #[p.office, p.since, p.till, p.litres, p.e, p.s] 38)).drew.cell? ((⟨w3.heap.size, 0, none⟩ : Addr).add i) = some x := new_cells hbA; go_simp; refine hK.out _ _ (RowsS.drew (yH.undrew.step ((Below.refl _ _).alloc (Nat.le_refl _) _))) (fun yH => ?_); clear hK K hbA; refine rd1 7 (fun K hK => ?_); refine step_append_own_at rfl _ _ 34 rfl w.heap.size 38 ip zp 6 ip.bytes undSV hip hzp hszp rfl hczp (by decide) (vs 3) _ _ rfl (HNA.out.owns 3 (by decide)) ⟨w3.heap.size, 0, none⟩ 1 1 [.int .i64 p.office, .int .i64 p.since, .int .i64 p.till, .int .i64 p.litres, .int .i64 p.e, .int .i64 p.s] rfl rfl hnew (by simp [Value.oneCell']) (by unfold maxLen; omega) (by rw [hbp]; omega) HNA.out.below.size ?_; intro v' w5 hown5 hgr5 hat5; obtain ⟨a5, n5, c5, rfl⟩ := own_slice hown5; obtain ⟨hrow5, hns5⟩ := HNA.out.app hq4 hgr5 (hown5) hat5
       have HNS := hD hns5; have HRW := hD hrow5
       refine hK.out _ _ (yH.grownO hgr5 (fun g e => ((HNA.out.owns 3 hq4).lt g e).1) (fun p hp => by
        have : p.1 = bC := by simp at hp; rw [hp]
        rw [this]; exact HBC.out 3 hq4)) (fun yH => ?_)
       clear hK K hown5 hgr5 hat5 hrow5 hns5 hnew HNA; refine tn 8 ?_; refine tn 9 ?_; refine rd1 10 (fun K hK => ?_); have e4 := cell_sRow (q := 3) HRW.out hq4; have e5 := frozen_of_row _ _ (1 + 3) _ _ HRW.out; go_simp
       refine hK.out _ _ (yH.grownO (r := some w.heap.size) (grown_setC _ _ _ _) (fun g e => by cases e; exact Nat.le_refl _) (fun p hp => by
        have : p.1 = bC := by simp at hp; rw [hp]
        rw [this]; intro e; simp only [Option.some.injEq] at e; exact HBS.out e)) (fun yH => ?_)
       clear hK K e4 e5; refine rdn ?_; have HN6 := HNS; go_wp2_with fail; go_roundw
       case rel => exact ⟨k + 1, upd vs 3 (.slice a5 n5 c5), by omega, by go_num, (HN6.out.fn (updp_ns.trans (by rw [HFL.out])) (updp_xs.trans (by rw [HFL.out])) rfl)⟩
       case measure => simp [Go.RowKit.intOf]; omega
      ·
       have HNA := hD (HN.out.step (alloc_drew_below w3 (.cells #[p.office, p.since, p.till, p.litres, p.e, p.s] 38))); have hbA : (w3.alloc (.cells #[p.office, p.since, p.till, p.litres, p.e, p.s] 38)).drew.heap[w3.heap.size]? = some (.cells #[p.office, p.since, p.till, p.litres, p.e, p.s] 38) := heap_alloc_new w3 (.cells #[p.office, p.since, p.till, p.litres, p.e, p.s] 38); have hnew : ∀ i x, ([.int .i64 p.office, .int .i64 p.since, .int .i64 p.till, .int .i64 p.litres, .int .i64 p.e, .int .i64 p.s] : List Value)[i]? = some x → (w3.alloc (.cells #[p.office, p.since, p.till, p.litres, p.e, p.s] 38)).drew.cell? ((⟨w3.heap.size, 0, none⟩ : Addr).add i) = some x := new_cells hbA; go_simp; refine hK.out _ _ (RowsS.drew (yH.undrew.step ((Below.refl _ _).alloc (Nat.le_refl _) _))) (fun yH => ?_); clear hK K hbA; refine rd1 4 (fun K hK => ?_); have e4 := cell_sRow (q := 3) HNA.out.row hq4; go_simp; refine hK.out _ _ yH (fun yH => ?_); clear hK K e4; refine rd1 7 (fun K hK => ?_); refine step_append_own_at rfl _ _ 34 rfl w.heap.size 38 ip zp 6 ip.bytes undSV hip hzp hszp rfl hczp (by decide) (vs 3) _ _ rfl (HNA.out.owns 3 (by decide)) ⟨w3.heap.size, 0, none⟩ 1 1 [.int .i64 p.office, .int .i64 p.since, .int .i64 p.till, .int .i64 p.litres, .int .i64 p.e, .int .i64 p.s] rfl rfl hnew (by simp [Value.oneCell']) (by unfold maxLen; omega) (by rw [hbp]; omega) HNA.out.below.size ?_; intro v' w5 hown5 hgr5 hat5; obtain ⟨a5, n5, c5, rfl⟩ := own_slice hown5; obtain ⟨hrow5, hns5⟩ := HNA.out.app hq4 hgr5 (hown5) hat5
       have HNS := hD hns5; have HRW := hD hrow5
       refine hK.out _ _ (yH.grownO hgr5 (fun g e => ((HNA.out.owns 3 hq4).lt g e).1) (fun p hp => by
        have : p.1 = bC := by simp at hp; rw [hp]
        rw [this]; exact HBC.out 3 hq4)) (fun yH => ?_)
       clear hK K hown5 hgr5 hat5 hrow5 hns5 hnew HNA; refine tn 8 ?_; refine tn 9 ?_; refine rd1 10 (fun K hK => ?_); have e4 := cell_sRow (q := 3) HRW.out hq4; have e5 := frozen_of_row _ _ (1 + 3) _ _ HRW.out; go_simp
       refine hK.out _ _ (yH.grownO (r := some w.heap.size) (grown_setC _ _ _ _) (fun g e => by cases e; exact Nat.le_refl _) (fun p hp => by
        have : p.1 = bC := by simp at hp; rw [hp]
        rw [this]; intro e; simp only [Option.some.injEq] at e; exact HBS.out e)) (fun yH => ?_)
       clear hK K e4 e5; refine rdn ?_; have HN6 := HNS; go_wp2_with fail; go_roundw
       case rel => exact ⟨k + 1, upd vs 3 (.slice a5 n5 c5), by omega, by go_num, (HN6.out.fn (updp_ns.trans (by rw [HFL.out])) (updp_xs.trans (by rw [HFL.out])) rfl)⟩
       case measure => simp [Go.RowKit.intOf]; omega
     | false =>
      have HCa : Hid (∀ w0, Below w.heap.size w w0 → Calls Tryz.prog 50 #[.pointer (some ⟨jb, 0, none⟩), .agg #[p.office, p.since, p.till, p.litres, p.e, p.s]] w0 fun e w' => e = .returned (.bool false) ∧ Below w0.heap.size w0 w') := hD (fun w0 hb => by have h := promised_any jb mb ar ap cr cp err room ps pubs p w0 (HJd.out.below hb) hpo (HGl.out.below hb HGl.out.size) (HML.out.up hb); rw [hkb] at h; exact h); have HKB := hD hkb; have HFL : Hid ((vows.take k).filter (vB ps) = (vows.take (k + 1)).filter (vB ps)) := hD (by rw [filt_snoc HP.out, if_neg (by rw [HKB.out]; decide)]); clear hkb; go_wp2_with (first | (refine lRW (HR2.out.row 0 rfl) undPm infoPm ?_)); refine (HCa.out _ HR2.out.below).mono ?_; rintro e w3 ⟨rfl, hb3⟩; have HN := hD (HN2.out.step hb3); clear hb3 HR2 HN2 HCa; go_wp2_with fail; go_roundw
      case rel => exact ⟨k + 1, vs, by omega, by go_num, HN.out.fn (by rw [HFL.out]) (by rw [HFL.out]) rfl⟩
      case measure => simp [Go.RowKit.intOf]; omega
    ·
     obtain rfl : k = vows.length := by omega
     have HN2 : Hid (NS w (.pointer (some ⟨jb, 0, none⟩)) w.heap.size vs (nsQ (LQ (judgeV err room ps pubs) l) (vows.filter (vB ps))) (xsQ (LQ (judgeV err room ps pubs) l) (vows.filter (vB ps))) (lastN (judgeV err room ps pubs) l) wr) := hD (HN1.out.fn (by rw [HTL.out, List.take_length]) (by rw [HTL.out, List.take_length]) (by rw [HTL.out])); clear hlt hk HN1; go_wp2_with fail; go_ret
     obtain ⟨a0, a1, a2, av2, k0, k1, k2, kv, hs⟩ := search_of (ps := ps) (vows := vows) HN2.out rfl (fun x hx => good_of HL.out hx) (fun p hp => by
      obtain ⟨j, hj⟩ := List.getElem?_of_mem hp; obtain ⟨_, _, _, _, _, _, _, _, h⟩ := HV.out.at hj
      exact h) hl hvl
     exact ⟨_, a0, a1, a2, av2, k0, k1, k2, kv, rfl, hs, HN2.out.below⟩
end Go.Proofs.YtjbjpkhibcnenaaGreatDoor

