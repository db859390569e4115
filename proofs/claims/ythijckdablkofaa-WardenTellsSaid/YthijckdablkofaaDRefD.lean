/- The reference's wardens: Due, Same, SameTowns. -/
import Derived.Test.YthijckdablkofaaDRefC
import Derived.Deep.RegionHeldLaw
namespace Go.Proofs.Ythijckdablkofaa
open Go.RowKit
theorem step_append_own {P : Program} {ops : Array Oper} {o : Oper} {a : Act} {w : World} {K : Act → World → Prop} {Q : Exit → Act → World → Prop} {E : Prop}
    (hg : o.guard = none) (s x : Operand) (t : TypeId)
    (ho : o.op = .call { callee := .builtin .append, args := #[s, x], argTypes := #[t, t] })
    (base : Nat) (e : TypeId) (i : TypeInfo) (z : Value) (size bytes : Nat) (ht : P.underlying t = some (.slice e)) (hi : P.info? e = some i) (hz : i.zero = some z)
    (hsize : i.size = size) (hby : i.bytes = bytes) (hzs : z.cells.size = size) (hsz : 0 < size)
    (v : Value) (n : Nat) (xs : List Value) (hs : a.eval s = v) (hown : w.ownsRow base e size v n xs)
    (ad : Addr) (m c : Nat) (news : List Value) (hx : a.eval x = .slice (some ad) m c) (hl : news.length = m * size) (hnews : ∀ j u, news[j]? = some u → w.cell? (ad.add j) = some u) (h1 : ∀ u ∈ news, u.oneCell' = true)
    (h63 : n + m ≤ maxLen) (hbytes : (n + m) * bytes ≤ 140737488355328) (hbase : base ≤ w.heap.size)
    (h : ∀ v' w', w'.ownsRow base e size v' (n + m) (xs ++ news) → w.grownBy w' v.ownBlock → (v' = .slice none 0 0 ↔ v = .slice none 0 0 ∧ m = 0) → K (a.put o.dst v') w') :
    if Region.wanted o (yielded ops a.tmps) = true then Oper.wp P o a w K Q else E := by
  have hw : Region.wanted o (yielded ops a.tmps) = true := by simp [Region.wanted, hg]
  rw [if_pos hw]
  exact wp_append_own _ s x t ho base e i z size bytes ht hi hz hsize hby hzs hsz v n xs hs hown ad m c news hx hl hnews h1 h63 hbytes hbase h
def ROk (q : RS) : Prop := 1 ≤ q.n ∧ q.n ≤ 16 ∧ ∀ x ∈ q.l, 0 ≤ x.town ∧ x.town < 40 ∧ 0 ≤ x.level ∧ x.level ≤ 3 ∧ 0 ≤ x.hour ∧ x.hour ≤ 16777216
theorem raiseR_ok {q : RS} (h : ROk q) (t l hr : Int) : ROk (raiseR q t l hr).2 := by
  unfold raiseR
  split
  · rename_i hok
    unfold okRaise at hok
    refine ⟨h.1, h.2.1, fun x hx => ?_⟩
    rcases List.mem_append.1 hx with hx | hx
    · exact h.2.2 x hx
    · rw [List.mem_singleton.1 hx]
      simp only
      omega
  · exact h
theorem ackR_ok {q : RS} (h : ROk q) (c : CV) : ROk (ackR q c).2 := by
  unfold ackR
  split
  · refine ⟨h.1, h.2.1, fun x hx => ?_⟩
    simp only at hx
    unfold setDone at hx
    split at hx
    · rename_i y hy
      rcases List.mem_or_eq_of_mem_set hx with hx | rfl
      · exact h.2.2 x hx
      · exact h.2.2 y (List.mem_of_getElem? hy)
    · exact h.2.2 x hx
  · exact h
def dueTo2 (x : RO) (t num h : Int) (j : Nat) : List CV := ((List.range j).filter fun w : Nat => decide (x.hour + 3 * (w : Int) ≤ h)).map fun w : Nat => ⟨t, x.level, num, (w : Int)⟩
theorem dueTo2_succ (x : RO) (t num h : Int) (j : Nat) : dueTo2 x t num h (j + 1) = dueTo2 x t num h j ++ if x.hour + 3 * (j : Int) ≤ h then [⟨t, x.level, num, (j : Int)⟩] else [] := by
  unfold dueTo2
  rw [List.range_succ, List.filter_append, List.map_append]
  by_cases hh : x.hour + 3 * (j : Int) ≤ h <;> simp [hh]
theorem dueTo2_len (x : RO) (t num h : Int) (j : Nat) : (dueTo2 x t num h j).length ≤ j := by
  unfold dueTo2
  rw [List.length_map]
  refine Nat.le_trans (List.length_filter_le _ _) ?_
  rw [List.length_range]
  exact Nat.le_refl _
def dueRto (q : RS) (h : Int) (k : Nat) : List CV := ((openR q.l 40).take k).flatMap (dueT q.l q.n h)
theorem dueRto_succ (q : RS) (h : Int) {k : Nat} {t : Int} (ht : (openR q.l 40)[k]? = some t) : dueRto q h (k + 1) = dueRto q h k ++ dueT q.l q.n h t := by
  unfold dueRto
  rw [List.take_add_one, ht, List.flatMap_append]
  simp
theorem dueT_some {l : List RO} {n : Nat} {h t : Int} {x : RO} (hg : getR l t = some x) : dueT l n h t = dueTo2 x t (lastN t l : Int) h n := by
  unfold dueT dueTo2
  rw [hg]
theorem dueT_len (l : List RO) (n : Nat) (h t : Int) : (dueT l n h t).length ≤ n := by
  cases hg : getR l t with
  | none => unfold dueT; rw [hg]; exact Nat.zero_le _
  | some x => rw [dueT_some hg]; exact dueTo2_len _ _ _ _ _
theorem dueRto_len (q : RS) (h : Int) (hn : q.n ≤ 16) (k : Nat) : (dueRto q h k).length ≤ 640 := by
  have h1 : ∀ l : List Int, (l.flatMap (dueT q.l q.n h)).length ≤ l.length * 16 := by
    intro l
    induction l with
    | nil => simp
    | cons t l ih =>
      have := dueT_len q.l q.n h t
      rw [List.flatMap_cons, List.length_append, List.length_cons]
      omega
  have h2 := h1 ((openR q.l 40).take k)
  have h3 : ((openR q.l 40).take k).length ≤ 40 := Nat.le_trans (List.length_take_le' _ _) (openR_len _ _)
  unfold dueRto
  omega
theorem openR_last {l : List RO} {k : Nat} {t : Int} (h : (openR l 40)[k]? = some t) : 0 ≤ lastI t l ∧ 0 ≤ t ∧ t < 40 := by
  have hm := List.mem_of_getElem? h
  unfold openR at hm
  rw [List.mem_filter, List.mem_map] at hm
  obtain ⟨⟨j, hj, rfl⟩, ho⟩ := hm
  have := List.mem_range.1 hj
  refine ⟨?_, by omega, by omega⟩
  unfold isOpen getR at ho
  unfold lastI
  by_cases h0 : lastN (j : Int) l = 0
  · rw [if_pos h0] at ho
    cases ho
  · omega
set_option maxRecDepth 100000 in
set_option maxHeartbeats 16000000 in
theorem rdue_any (qb base : Nat) (q : RS) (h : Int) (w : World) (hQ : QAt w qb base q) (hl : q.l.length ≤ 1000) (hq : ROk q) (hh : I64 h) :
    Calls Try.prog 19 #[.pointer (some ⟨qb, 0, none⟩), .int .i64 h] w fun e w' => ∃ v, e = .returned v ∧ w'.ownsRow w.heap.size 29 4 v (dueR q h).length (cRow (dueR q h)) ∧ Below w.heap.size w w' := by
  obtain ⟨ic, zc, hic, hsz, hzc, hcz, hbc⟩ := infoC
  have HQ := Lib.hid hQ
  have HR := Lib.hid hq
  have hn16 : q.n ≤ 16 := hq.2.1
  unfold I64 at hh
  clear hQ hq
  go_enter Try.func19, Try.ntmps19
  go_wp2_with fail
  refine (ropen_any qb base q _ HQ.out hl).mono ?_
  rintro e w2 ⟨v, rfl, hown, hb⟩
  have HK := Lib.hid (IArg.of_owns hown)
  obtain ⟨av, cv, rfl, _⟩ := HK.out
  have HB2 := Lib.hid hb
  have HQ2 := Lib.hid (HQ.out.below hb)
  have hol := openR_len q.l 40
  clear hown hb HQ
  go_wp2_with fail
  go_loopw [6, 7] (fun tv iv wr => ∃ k : Nat, k ≤ (openR q.l 40).length ∧ iv = .int .i64 k ∧ wr.ownsRow w2.heap.size 29 4 tv (dueRto q h k).length (cRow (dueRto q h k)) ∧ Below w2.heap.size w2 wr) (fun _ iv _ => (openR q.l 40).length - (intOf iv).toNat)
  case atStart => exact ⟨0, by omega, rfl, World.ownsRow_nil _ _ _ _, Below.refl _ _⟩
  case round =>
    obtain ⟨k, hk, rfl, hown, hB⟩ := hrel
    have HB := Lib.hid hB
    have HW := Lib.hid hown
    have HQk := Lib.hid (HQ2.out.below hB)
    clear hB hown
    by_cases hlt : k < (openR q.l 40).length
    · obtain ⟨t, ht⟩ : ∃ t, (openR q.l 40)[k]? = some t := ⟨_, List.getElem?_eq_getElem hlt⟩
      obtain ⟨a2, c2, he, hel⟩ := HK.out.below HB.out
      obtain ⟨b, ha, hbw, hcell⟩ := hel k t ht
      obtain ⟨b', ha', hbw2, _⟩ : ∃ b', a2 = some ⟨b', 0, none⟩ ∧ b' < w2.heap.size ∧ True := by
        obtain ⟨a3, c3, he3, hel3⟩ := HK.out
        obtain ⟨b3, h3, h4, _⟩ := hel3 k t ht
        rw [he3] at he
        simp only [Value.slice.injEq] at he
        exact ⟨b3, by rw [← he.1]; exact h3, h4, trivial⟩
      simp only [Value.slice.injEq, true_and] at he
      obtain ⟨rfl, rfl⟩ := he
      subst ha
      simp only [Option.some.injEq, Addr.mk.injEq, and_true] at ha'
      subst ha'
      obtain ⟨h0, ht0, ht40⟩ := openR_last ht
      have HT := Lib.hid (dueRto_succ q h ht)
      have hdl := dueRto_len q h hn16 k
      clear hel ht
      go_wp2_with fail
      refine (rlast_any qb base q t _ HQk.out hl).mono ?_
      rintro e w3 ⟨rfl, rfl⟩
      obtain ⟨x, hx, hxt, hg, htn⟩ := lastI_get h0
      obtain ⟨a, cap, hrow, _, hel⟩ := HQk.out.open
      obtain ⟨r0, r1⟩ := row2 hrow
      obtain ⟨g, ha, _, _, hrg⟩ := hel _ x hx
      subst ha
      obtain ⟨c0, c1, c2, c3⟩ := rangeR hrg
      rw [← htn] at c0 c1 c2 c3
      have hlt2 : lastI t q.l < q.l.length := by have := (List.getElem?_eq_some_iff.1 hx).1; omega
      have hxok := HR.out.2.2 x (List.mem_of_getElem? hx)
      have hx0 : 0 ≤ x.hour ∧ x.hour ≤ 16777216 := ⟨hxok.2.2.2.2.1, hxok.2.2.2.2.2⟩
      have HT2 : Hid (dueT q.l q.n h t = dueTo2 x t (lastI t q.l + 1) h q.n) := Lib.hid (by rw [dueT_some hg]; unfold lastI; rw [show ((lastN t q.l : Nat) : Int) - 1 + 1 = (lastN t q.l : Int) by omega])
      clear hx hxt hg htn hrow hel hrg hxok
      have HO4 := Lib.hid (heap_alloc_new wr (.cells #[.int .i64 x.town, .int .i64 x.level, .int .i64 x.hour, .bool x.done] 62))
      have HB4 := Lib.hid (HB.out.alloc HB.out.size (.cells #[.int .i64 x.town, .int .i64 x.level, .int .i64 x.hour, .bool x.done] 62))
      have HW4 := Lib.hid (HW.out.alloc (.cells #[.int .i64 x.town, .int .i64 x.level, .int .i64 x.hour, .bool x.done] 62))
      go_wp2_with fail
      generalize wr.alloc (.cells #[.int .i64 x.town, .int .i64 x.level, .int .i64 x.hour, .bool x.done] 62) = w4 at *
      generalize wr.heap.size = po at *
      have HC4 : Hid (w2.cell? ⟨b, k, none⟩ = some (.int .i64 t)) := Lib.hid ((HB.out.cell (p := ⟨b, k, none⟩) hbw2).symm.trans hcell)
      clear c0 c1 c2 c3 r0 r1 hcell
      generalize lastI t q.l = li at *
      have hli : li ≤ 1000 := by omega
      go_loopw [6, 10] (fun tv iv wq => ∃ j : Nat, j ≤ q.n ∧ iv = .int .i64 j ∧ wq.ownsRow w2.heap.size 29 4 tv ((dueRto q h k).length + (dueTo2 x t (li + 1) h j).length) (cRow (dueRto q h k ++ dueTo2 x t (li + 1) h j)) ∧ wq.heap[po]? = some (.cells #[.int .i64 x.town, .int .i64 x.level, .int .i64 x.hour, .bool x.done] 62 (0, 0)) ∧ Below w2.heap.size w2 wq) (fun _ iv _ => q.n - (intOf iv).toNat)
      case atStart => exact ⟨0, by omega, rfl, by simpa [dueTo2] using HW4.out, HO4.out, HB4.out⟩
      case round =>
        obtain ⟨j, hj, rfl, hown, hO, hB⟩ := hrel
        have HOq := Lib.hid hO
        have HBq := Lib.hid hB
        have HWq := Lib.hid hown
        have HQq := Lib.hid (HQ2.out.below hB)
        have HS := Lib.hid (dueTo2_succ x t (li + 1) h j)
        have hdl2 := dueTo2_len x t (li + 1) h j
        obtain ⟨y0, y1, y2, y3⟩ := row4 hO
        obtain ⟨a9, cap9, hrow, _, _⟩ := HQq.out.open
        obtain ⟨r0, r1⟩ := row2 hrow
        have hcl : wr.cell? ⟨b, k, none⟩ = some (.int .i64 t) := (HBq.out.cell (p := ⟨b, k, none⟩) hbw2).trans HC4.out
        clear hB hown hrow HW4 HB4 HO4
        by_cases hjl : j < q.n
        · by_cases hd : x.hour + 3 * (j : Int) ≤ h
          · have HE : Hid (dueTo2 x t (li + 1) h (j + 1) = dueTo2 x t (li + 1) h j ++ [⟨t, x.level, li + 1, (j : Int)⟩]) := Lib.hid (by rw [HS.out, if_pos hd])
            have hpo := blk_lt HOq.out
            have hne6 : ∀ O, (wr.drew.alloc O).heap[po]? = some (.cells #[.int .i64 x.town, .int .i64 x.level, .int .i64 x.hour, .bool x.done] 62 (0, 0)) := fun O => (heap_alloc_old wr.drew O hpo).trans HOq.out
            have hbw3 : b < wr.heap.size := Nat.lt_of_lt_of_le hbw2 HBq.out.size
            have SA : ∀ O : Obj, (wr.drew.alloc O).cell? ⟨b, k, none⟩ = some (.int .i64 t) ∧ (wr.drew.alloc O).cell? ⟨po, 1, none⟩ = some (.int .i64 x.level) := fun O =>
              ⟨(((Below.refl wr.heap.size wr).drew.alloc (Nat.le_refl _) O).cell (p := ⟨b, k, none⟩) hbw3).trans hcl, (row4 (hne6 O)).2.1⟩
            have HW5 := Lib.hid (show ∀ O, (wr.drew.alloc O).ownsRow w2.heap.size 29 4 u6 ((dueRto q h k).length + (dueTo2 x t (li + 1) h j).length) (cRow (dueRto q h k ++ dueTo2 x t (li + 1) h j)) from fun O => World.ownsRow.alloc (w := wr.drew) HWq.out O)
            have HB5 := Lib.hid (show ∀ O, Below w2.heap.size w2 (wr.drew.alloc O) from fun O => HBq.out.drew.alloc HBq.out.size O)
            have HH6 := Lib.hid hne6
            have SG : ∀ (O : Obj) (w1 : World), (wr.drew.alloc O).grownBy w1 u6.ownBlock → w1.cell? ⟨b, k, none⟩ = some (.int .i64 t) ∧ w1.cell? ⟨po, 1, none⟩ = some (.int .i64 x.level) := fun O w1 hg => by
              have hb := (HB5.out O).grown hg (HB5.out O).size (fun g e => ((HW5.out O).lt g e).1)
              refine ⟨(hb.cell (p := ⟨b, k, none⟩) hbw2).trans HC4.out, ?_⟩
              exact (row4 ((hg.block po (blk_lt (hne6 O)) (fun e => own_ne (HW5.out O) (hne6 O) (by decide) e.symm)).trans (hne6 O))).2.1
            have HSA := Lib.hid SA
            have HSG := Lib.hid SG
            have hnew : Hid (∀ i u, (cCl ⟨t, x.level, li + 1, (j : Int)⟩)[i]? = some u → (wr.drew.alloc (.cells #[.int .i64 t, .int .i64 x.level, .int .i64 (li + 1), .int .i64 j] 29)).cell? ((⟨wr.heap.size, 0, none⟩ : Addr).add i) = some u) := Lib.hid (fun i u hi => by
              rw [Addr.add_mid, Nat.zero_add]
              have := cell_of_row _ _ i _ _ _ (heap_alloc_new wr.drew (.cells #[.int .i64 t, .int .i64 x.level, .int .i64 (li + 1), .int .i64 j] 29))
              rw [← Array.getElem?_toList] at this
              exact this.trans hi)
            clear SA SG hne6
            have z4 : IntKind.i64.wrap (li + 1) = li + 1 := IntWalk.i64_in _ (by omega)
            go_wp2_with fail
            go_region_held_law (fun w' => w'.cell? ⟨b, k, none⟩ = some (.int .i64 t) ∧ w'.cell? ⟨po, 1, none⟩ = some (.int .i64 x.level)) (first | exact ⟨hcl, y1⟩ | exact HSA.out _ | exact HSG.out _ _ hgr1) (first | (refine step_append_own rfl _ _ 35 rfl w2.heap.size 29 ic zc 4 ic.bytes undCs hic hzc hsz rfl hcz (by decide) _ _ _ rfl (HW5.out _) ⟨wr.heap.size, 0, none⟩ 1 1 (cCl ⟨t, x.level, li + 1, (j : Int)⟩) rfl rfl hnew.out (cCl_one _) (by unfold maxLen; omega) (Nat.le_trans (Nat.mul_le_mul_right _ (show (dueRto q h k).length + (dueTo2 x t (li + 1) h j).length + 1 ≤ 1024 by omega)) (by rw [Nat.mul_comm]; exact hbc)) (HB5.out _).size ?_; intro v' w1 hown1 hgr1 _))
            all_goals
              have HW6 : Hid (w1.ownsRow w2.heap.size 29 4 v' ((dueRto q h k).length + (dueTo2 x t (li + 1) h (j + 1)).length) (cRow (dueRto q h k ++ dueTo2 x t (li + 1) h (j + 1)))) := Lib.hid (by
                rw [HE.out, List.length_append, ← List.append_assoc, cRow_snoc, ← Nat.add_assoc]
                exact hown1)
              have HB6 := Lib.hid ((HB5.out _).grown hgr1 (HB5.out _).size (fun g e => ((HW5.out (.cells #[] 3)).lt g e).1))
              have HO6 := Lib.hid ((hgr1.block po (blk_lt (HH6.out _)) (fun e => own_ne (HW5.out (.cells #[] 3)) (HH6.out (.cells #[] 3)) (by decide) e.symm)).trans (HH6.out _))
              clear hown1 hgr1 hcl y0 y1 y2 y3 r0 r1 z4 HSA HSG hnew
              go_wp2_with fail
              go_roundw
              case rel => exact ⟨j + 1, by omega, by go_num, HW6.out, HO6.out, HB6.out⟩
              case measure => simp [intOf]; omega
          · have HE : Hid (dueTo2 x t (li + 1) h (j + 1) = dueTo2 x t (li + 1) h j) := Lib.hid (by rw [HS.out, if_neg hd, List.append_nil])
            go_wp2_with fail
            go_roundw
            case rel => exact ⟨j + 1, by omega, by go_num, by rw [HE.out]; exact HWq.out, HOq.out, HBq.out⟩
            case measure => simp [intOf]; omega
        · obtain rfl : j = q.n := by omega
          go_wp2_with fail
          go_roundw
          case rel =>
            refine ⟨k + 1, by omega, by go_num, ?_, HBq.out⟩
            rw [HT.out, HT2.out, List.length_append]
            exact HWq.out
          case measure => simp [intOf]; omega
    · obtain rfl : k = (openR q.l 40).length := by omega
      have HE : Hid (dueRto q h (openR q.l 40).length = dueR q h) := Lib.hid (by unfold dueRto dueR; rw [List.take_length])
      go_wp2_with fail
      go_ret
      refine ⟨_, rfl, ?_, HB2.out.trans (HB.out.mono HB2.out.size)⟩
      rw [← HE.out]
      exact row_base HW.out HB2.out.size
set_option maxRecDepth 100000 in
set_option maxHeartbeats 4000000 in
/-- two lists that are the same -/
theorem rsame_any (v1 v2 : Value) (l : List CV) (w : World) (h1 : CArgs v1 l w) (h2 : CArgs v2 l w) (hl : l.length ≤ 1000) :
    Calls Try.prog 17 #[v1, v2] w fun e w' => e = .returned (.bool true) ∧ Below w.heap.size w w' := by
  have H1 := Lib.hid h1
  have H2 := Lib.hid h2
  obtain ⟨a1, c1, rfl, _⟩ := h1
  obtain ⟨a2, c2, rfl, _⟩ := h2
  have T0 : ((l.length : Int) != (l.length : Int)) = false := by simp
  go_enter Try.func17, Try.ntmps17
  go_wp2_with fail
  go_loopw [5] (fun i wr => ∃ k : Nat, k ≤ l.length ∧ i = .int .i64 k ∧ Below w.heap.size w wr) (fun i _ => l.length - (intOf i).toNat)
  case atStart => exact ⟨0, Nat.zero_le _, rfl, Below.refl _ _⟩
  case round =>
    obtain ⟨k, hk, rfl, hB⟩ := hrel
    have HB := Lib.hid hB
    have HX1 := Lib.hid (H1.out.below hB)
    have HX2 := Lib.hid (H2.out.below hB)
    clear hB
    by_cases hlt : k < l.length
    · obtain ⟨x, hx⟩ : ∃ x, l[k]? = some x := ⟨_, List.getElem?_eq_getElem hlt⟩
      obtain ⟨a3, c3, he, hel⟩ := HX1.out
      obtain ⟨b1, ha, _, hrg⟩ := hel k x hx
      simp only [Value.slice.injEq, true_and] at he
      obtain ⟨rfl, rfl⟩ := he
      subst ha
      obtain ⟨a4, c4, he, hel2⟩ := HX2.out
      obtain ⟨b2, ha, _, hrg2⟩ := hel2 k x hx
      simp only [Value.slice.injEq, true_and] at he
      obtain ⟨rfl, rfl⟩ := he
      subst ha
      obtain ⟨x0, x1, x2, x3⟩ := range4 hrg
      obtain ⟨y0, y1, y2, y3⟩ := range4 hrg2
      have heq := eqC x.town x.level x.number x.warden x.town x.level x.number x.warden
      rw [decide_eq_true ⟨rfl, rfl, rfl, rfl⟩] at heq
      clear hx hel hel2 hrg hrg2
      go_wp2_with fail
      go_quiet (fail)
      go_wp2_with fail
      go_roundw
      case rel => exact ⟨k + 1, by omega, by go_num, below_drewN HB.out⟩
      case measure => simp [intOf]; omega
    · obtain rfl : k = l.length := by omega
      go_wp2_with fail
      go_ret
      exact ⟨rfl, HB.out⟩
set_option maxRecDepth 100000 in
set_option maxHeartbeats 4000000 in
/-- two lists that are the same -/
theorem rsamet_any (v1 v2 : Value) (l : List Int) (w : World) (h1 : IArg v1 l w) (h2 : IArg v2 l w) (hl : l.length ≤ 1000) :
    Calls Try.prog 20 #[v1, v2] w fun e w' => e = .returned (.bool true) ∧ Below w.heap.size w w' := by
  have H1 := Lib.hid h1
  have H2 := Lib.hid h2
  obtain ⟨a1, c1, rfl, _⟩ := h1
  obtain ⟨a2, c2, rfl, _⟩ := h2
  have T0 : ((l.length : Int) != (l.length : Int)) = false := by simp
  go_enter Try.func20, Try.ntmps20
  go_wp2_with fail
  go_loopw [5] (fun i wr => ∃ k : Nat, k ≤ l.length ∧ i = .int .i64 k ∧ Below w.heap.size w wr) (fun i _ => l.length - (intOf i).toNat)
  case atStart => exact ⟨0, Nat.zero_le _, rfl, Below.refl _ _⟩
  case round =>
    obtain ⟨k, hk, rfl, hB⟩ := hrel
    have HB := Lib.hid hB
    have HX1 := Lib.hid (H1.out.below hB)
    have HX2 := Lib.hid (H2.out.below hB)
    clear hB
    by_cases hlt : k < l.length
    · obtain ⟨x, hx⟩ : ∃ x, l[k]? = some x := ⟨_, List.getElem?_eq_getElem hlt⟩
      obtain ⟨a3, c3, he, hel⟩ := HX1.out
      obtain ⟨b1, ha, _, hrg⟩ := hel k x hx
      simp only [Value.slice.injEq, true_and] at he
      obtain ⟨rfl, rfl⟩ := he
      subst ha
      obtain ⟨a4, c4, he, hel2⟩ := HX2.out
      obtain ⟨b2, ha, _, hrg2⟩ := hel2 k x hx
      simp only [Value.slice.injEq, true_and] at he
      obtain ⟨rfl, rfl⟩ := he
      subst ha
      have T1 : (x != x) = false := by simp
      clear hx hel hel2
      go_wp2_with fail
      go_quiet (fail)
      go_wp2_with fail
      go_roundw
      case rel => exact ⟨k + 1, by omega, by go_num, below_drewN HB.out⟩
      case measure => simp [intOf]; omega
    · obtain rfl : k = l.length := by omega
      go_wp2_with fail
      go_ret
      exact ⟨rfl, HB.out⟩
end Go.Proofs.Ythijckdablkofaa
