/- Wardens: Due. -/
import Derived.Test.YthijckdablkofaaDOpen
namespace Go.Proofs.Ythijckdablkofaa
open Go.RowKit Go.Maps
def cCl (c : CV) : List Value := [.int .i64 c.town, .int .i64 c.level, .int .i64 c.number, .int .i64 c.warden]
def cRow (l : List CV) : List Value := l.flatMap cCl
theorem cRow_snoc (l : List CV) (x : CV) : cRow (l ++ [x]) = cRow l ++ cCl x := by simp [cRow]
theorem cRow_len (l : List CV) : (cRow l).length = l.length * 4 := by
  induction l with
  | nil => rfl
  | cons x l ih =>
    have : cRow (x :: l) = cCl x ++ cRow l := by simp [cRow]
    rw [this, List.length_append, ih, List.length_cons]
    simp [cCl]
    omega
theorem cRow_get : ∀ (l : List CV) (k : Nat) (x : CV), l[k]? = some x → ∀ j v, (cCl x)[j]? = some v → (cRow l)[k * 4 + j]? = some v
  | [], k, x, h, j, v, hj => by simp at h
  | y :: l, 0, x, h, j, v, hj => by
    simp only [List.getElem?_cons_zero, Option.some.injEq] at h
    subst h
    have e : cRow (y :: l) = cCl y ++ cRow l := by simp [cRow]
    have hl : j < (cCl y).length := (List.getElem?_eq_some_iff.1 hj).1
    rw [e, Nat.zero_mul, Nat.zero_add, List.getElem?_append_left hl]
    exact hj
  | y :: l, k + 1, x, h, j, v, hj => by
    simp only [List.getElem?_cons_succ] at h
    have e : cRow (y :: l) = cCl y ++ cRow l := by simp [cRow]
    have hl : (cCl y).length = 4 := rfl
    rw [e, List.getElem?_append_right (by rw [hl]; omega), hl]
    have := cRow_get l k x h j v hj
    rw [show (k + 1) * 4 + j - 4 = k * 4 + j by omega]
    exact this
theorem cCl_one (x : CV) : ∀ u ∈ cCl x, u.oneCell' = true := by
  intro u hu
  simp only [cCl, List.mem_cons, List.not_mem_nil, or_false] at hu
  rcases hu with rfl | rfl | rfl | rfl <;> rfl
/-- v is a slice of the calls l, in a block that exists -/
def CArgs (v : Value) (l : List CV) (w : World) : Prop :=
  ∃ a c, v = .slice a l.length c ∧ ∀ j x, l[j]? = some x → ∃ b, a = some ⟨b, 0, none⟩ ∧ b < w.heap.size ∧ w.rangeAt b (j * 4) (cCl x)
theorem CArgs.below {v : Value} {l : List CV} {w w' : World} (h : CArgs v l w) (hb : Below w.heap.size w w') : CArgs v l w' := by
  obtain ⟨a, c, rfl, h⟩ := h
  refine ⟨a, c, rfl, fun j x hj => ?_⟩
  obtain ⟨b, h1, h2, h3⟩ := h j x hj
  exact ⟨b, h1, Nat.lt_of_lt_of_le h2 hb.size, fun i u hi => (hb.cell (p := ⟨b, j * 4 + i, none⟩) h2).trans (h3 i u hi)⟩
theorem CArgs.of_owns {w : World} {base n : Nat} {v : Value} {l : List CV} (h : w.ownsRow base 29 4 v n (cRow l)) : CArgs v l w := by
  have hn : n = l.length := by
    have := h.1
    rw [cRow_len] at this
    omega
  subst hn
  rcases h.2 with ⟨rfl, h0⟩ | ⟨g, cap, cur, rfl, hg, hh, hnc, _, hcs, htk⟩
  · exact ⟨none, 0, by rw [h0], fun j x hj => by
      have := (List.getElem?_eq_some_iff.1 hj).1
      omega⟩
  · refine ⟨_, _, rfl, fun j x hj => ⟨g, rfl, blk_lt hh, fun i u hi => ?_⟩⟩
    have h1 := cRow_get l j x hj i u hi
    rw [← htk, List.getElem?_take] at h1
    split at h1
    · rw [cell_of_row _ _ _ _ _ _ hh, ← Array.getElem?_toList]
      exact h1
    · cases h1
theorem infoC : ∃ i z, Try.prog.info? 29 = some i ∧ i.size = 4 ∧ i.zero = some z ∧ z.cells.size = 4 ∧ i.bytes * 1024 ≤ 140737488355328 := by
  have h : (Try.prog.info? 29).map (fun i => (i.size, i.zero.map (fun z => z.cells.size), decide (i.bytes * 1024 ≤ 140737488355328))) = some (4, some 4, true) := by kernel_rfl
  cases hi : Try.prog.info? 29 with
  | none => rw [hi] at h; cases h
  | some i =>
    rw [hi] at h
    simp only [Option.map_some, Option.some.injEq, Prod.mk.injEq] at h
    obtain ⟨h1, h2, h3⟩ := h
    cases hz : i.zero with
    | none => rw [hz] at h2; cases h2
    | some z =>
      rw [hz] at h2
      simp only [Option.map_some, Option.some.injEq] at h2
      exact ⟨i, z, rfl, h1, hz, h2, of_decide_eq_true h3⟩
theorem undCs : Try.prog.underlying 35 = some (.slice 29) := by kernel_rfl
theorem own_ne {w : World} {base size n po : Nat} {e t : TypeId} {v : Value} {xs : List Value} {cs : Array Value} {fr : Nat × Nat} (h : w.ownsRow base e size v n xs) (hp : w.heap[po]? = some (.cells cs t fr)) (hne : t ≠ e) : v.ownBlock ≠ some po := by
  intro he
  rcases h.2 with ⟨rfl, _⟩ | ⟨g, cap, cur, rfl, _, hg, _⟩
  · simp [Value.ownBlock] at he
  · simp only [Value.ownBlock, Option.some.injEq] at he
    rw [he, hp] at hg
    simp only [Option.some.injEq, Obj.cells.injEq] at hg
    exact hne hg.2.1
def callsTo (p : Int × OV) (j : Nat) : List CV := (List.range j).map fun w : Nat => ⟨p.1, p.2.level, p.2.number, (w : Int)⟩
theorem callsTo_succ (p : Int × OV) (j : Nat) : callsTo p (j + 1) = callsTo p j ++ [⟨p.1, p.2.level, p.2.number, (j : Int)⟩] := by
  unfold callsTo
  rw [List.range_succ, List.map_append]
  rfl
theorem callsTo_len (p : Int × OV) (j : Nat) : (callsTo p j).length = j := by
  unfold callsTo
  rw [List.length_map, List.length_range]
/-- the calls for the first k open orders -/
def dueTo (s : WS) (h : Int) (k : Nat) : List CV := ((openM s.m).take k).flatMap (dueOne s.n h)
theorem dueTo_succ (s : WS) (h : Int) {k : Nat} {p : Int × OV} (hp : (openM s.m)[k]? = some p) : dueTo s h (k + 1) = dueTo s h k ++ dueOne s.n h p := by
  unfold dueTo
  rw [List.take_add_one, hp, List.flatMap_append]
  simp
theorem dueTo_all (s : WS) (h : Int) : dueTo s h (openM s.m).length = dueS s h := by
  unfold dueTo dueS
  rw [List.take_length]
theorem flat_len (n : Nat) (h : Int) : ∀ l : OM, (l.flatMap (dueOne n h)).length ≤ l.length * n
  | [] => by simp
  | p :: l => by
    have h1 := flat_len n h l
    have h2 := dueOne_len n h p
    rw [List.flatMap_cons, List.length_append, List.length_cons, Nat.add_mul]
    omega
theorem openM_len {s : WS} (hs : WOk s) : (openM s.m).length ≤ 40 := Nat.le_trans (List.length_filter_le _ _) (m_len hs)
theorem dueTo_len {s : WS} (hs : WOk s) (h : Int) (k : Nat) : (dueTo s h k).length ≤ 640 := by
  unfold dueTo
  have h1 := flat_len s.n h ((openM s.m).take k)
  have h2 : ((openM s.m).take k).length ≤ 40 := Nat.le_trans (List.length_take_le' _ _) (openM_len hs)
  have h3 := hs.n16
  have h4 := Nat.mul_le_mul h2 h3
  omega
theorem due_len {s : WS} (hs : WOk s) (h : Int) : (dueS s h).length ≤ 640 := by
  rw [← dueTo_all]
  exact dueTo_len hs h _
set_option maxRecDepth 100000 in
set_option maxHeartbeats 8000000 in
theorem due_any (pb mb : Nat) (s : WS) (h : Int) (w : World) (hP : PAt w pb mb s) (hs : WOk s) (hh : I64 h) :
    Calls Try.prog 18 #[.pointer (some ⟨pb, 0, none⟩), .int .i64 h] w fun e w' => ∃ v, e = .returned v ∧ w'.ownsRow w.heap.size 29 4 v (dueS s h).length (cRow (dueS s h)) ∧ Below w.heap.size w w' := by
  obtain ⟨ic, zc, hic, hsz, hzc, hcz, hbc⟩ := infoC
  have HP := Lib.hid hP
  have HS := Lib.hid hs
  have hl40 := openM_len hs
  have hn1 := hs.n1
  have hn16 := hs.n16
  unfold I64 at hh
  clear hP hs
  go_enter Try.func18, Try.ntmps18
  go_wp2_with fail
  refine (open_any pb mb s _ HP.out HS.out).mono ?_
  rintro e w2 ⟨v, rfl, hown, hb⟩
  have hml : (openS s).length = (openM s.m).length := by unfold openS; exact List.length_map _
  have HK : Hid (IArg v (openS s) w2) := Lib.hid (IArg.of_owns hown)
  have HB2 := Lib.hid hb
  obtain ⟨av, cv, rfl, _⟩ := HK.out
  have HML := Lib.hid hml
  rw [hml]
  clear hml hown hb
  go_wp2_with fail
  go_loopw [5, 14] (fun tv iv wr => ∃ k : Nat, k ≤ (openM s.m).length ∧ iv = .int .i64 k ∧ wr.ownsRow w2.heap.size 29 4 tv (dueTo s h k).length (cRow (dueTo s h k)) ∧ Below w2.heap.size w2 wr) (fun _ iv _ => (openM s.m).length - (intOf iv).toNat)
  case atStart => exact ⟨0, by omega, rfl, World.ownsRow_nil _ _ _ _, Below.refl _ _⟩
  case round =>
    obtain ⟨k, hk, rfl, hown, hB⟩ := hrel
    have HB := Lib.hid hB
    have HW := Lib.hid hown
    clear hB hown
    by_cases hlt : k < (openM s.m).length
    · have H1 : Hid ((openM s.m)[k]? = some (openM s.m)[k]) := Lib.hid (List.getElem?_eq_getElem hlt)
      obtain ⟨a2, c2, he, hel⟩ := HK.out.below HB.out
      obtain ⟨b, ha, hb, hcell⟩ := hel k (openM s.m)[k].1 (by unfold openS; rw [List.getElem?_map, H1.out]; rfl)
      rw [HML.out] at he
      simp only [Value.slice.injEq] at he
      obtain ⟨rfl, _, rfl⟩ := he
      subst ha
      have hB0 := HB2.out.trans (HB.out.mono HB2.out.size)
      have hP2 := HP.out.below hB0
      have HP2 := Lib.hid hP2
      have HBw := Lib.hid hB0
      have hmem : (openM s.m)[k] ∈ s.m := (List.mem_filter.1 (List.mem_of_getElem? H1.out)).1
      have htn := HS.out.ok _ hmem
      have hlk := run_look hP2.map (t := (openM s.m)[k].1) (by unfold I64; omega)
      rw [show ordAt s.m (openM s.m)[k].1 = (openM s.m)[k].2 from by unfold ordAt; rw [mem_get HS.out.sorted hmem]; rfl] at hlk
      unfold ordV at hlk
      obtain ⟨c0, c1, c2'⟩ := row3 hP2.row
      have HT := Lib.hid (dueTo_succ s h H1.out)
      have hdl := dueTo_len HS.out h k
      clear hel hB0 hP2 hmem
      generalize (openM s.m)[k] = p at *
      obtain ⟨pt, ol, on, oh, od⟩ := p
      dsimp only at hcell hlk htn
      have hoh := htn.2.2.2.2.1
      have hoh2 := htn.2.2.2.2.2.1
      clear htn
      by_cases hlt2 : h < oh
      · have HE : Hid (dueTo s h (k + 1) = dueTo s h k) := Lib.hid (by rw [HT.out]; unfold dueOne; rw [if_pos hlt2, List.append_nil])
        go_wp2_with fail
        go_roundw
        case rel => exact ⟨k + 1, by omega, by go_num, by rw [HE.out]; exact HW.out.alloc _, HB.out.alloc HB.out.size _⟩
        case measure => simp [intOf]; omega
      · obtain ⟨cnt, hcnt⟩ : ∃ cnt : Nat, cnt = min (((h - oh) / 3).toNat + 1) s.n := ⟨_, rfl⟩
        have HE : Hid (dueTo s h (k + 1) = dueTo s h k ++ callsTo (pt, ⟨ol, on, oh, od⟩) cnt) := Lib.hid (by rw [HT.out]; unfold dueOne; rw [if_neg hlt2, hcnt]; rfl)
        have hq0 : 0 ≤ (h - oh) / 3 := Int.ediv_nonneg (by omega) (by decide)
        have htd : (h - oh).tdiv 3 = (h - oh) / 3 := Int.tdiv_eq_ediv_of_nonneg (by omega)
        have hmin : min ((h - oh) / 3) ((s.n : Int) - 1) = (cnt : Int) - 1 := by omega
        have hcn : cnt ≤ 16 := by omega
        have hw1 : IntKind.i64.wrap (h - oh) = h - oh := IntWalk.i64_in _ (by omega)
        have hw2 : IntKind.i64.wrap ((s.n : Int) - 1) = (s.n : Int) - 1 := IntWalk.i64_in _ (by omega)
        have hw3 : IntKind.i64.wrap ((h - oh) / 3) = (h - oh) / 3 := IntWalk.i64_in _ (by omega)
        have hBa := (Below.refl wr.heap.size wr).alloc (Nat.le_refl _) (.cells #[.int .i64 ol, .int .i64 on, .int .i64 oh, .bool od] 60)
        have HB4 := Lib.hid (HB.out.alloc HB.out.size (.cells #[.int .i64 ol, .int .i64 on, .int .i64 oh, .bool od] 60))
        have HW4 := Lib.hid (HW.out.alloc (.cells #[.int .i64 ol, .int .i64 on, .int .i64 oh, .bool od] 60))
        have HO4 := Lib.hid (heap_alloc_new wr (.cells #[.int .i64 ol, .int .i64 on, .int .i64 oh, .bool od] 60))
        have HP4 := Lib.hid (HP2.out.below hBa)
        clear hBa HT hcnt
        go_wp2_with fail
        generalize wr.alloc (.cells #[.int .i64 ol, .int .i64 on, .int .i64 oh, .bool od] 60) = v4 at *
        generalize wr.heap.size = po at *
        obtain ⟨q0, q1, q2⟩ := row3 HP4.out.row
        obtain ⟨y0, y1, y2, y3⟩ := row4 HO4.out
        go_quiet (fail)
        go_wp2_with fail
        have HP5 := Lib.hid (HP4.out.below ((below_drewN (n := nq) (Below.refl v4.heap.size v4))))
        have HO5 : Hid ((v4.drewN nq).heap[po]? = some (.cells #[.int .i64 ol, .int .i64 on, .int .i64 oh, .bool od] 60 (0, 0))) := Lib.hid HO4.out
        have HB5 : Hid (Below w2.heap.size w2 (v4.drewN nq)) := Lib.hid (below_drewN HB4.out)
        have HW5 := Lib.hid (owns_below HW4.out (below_drewN (n := nq) (Below.refl v4.heap.size v4)))
        clear HP4 HO4 HB4 HW4 q0 q1 q2 y0 y1 y2 y3
        generalize v4.drewN nq = v5 at *
        have hpo := blk_lt HO5.out
        go_loopw [5, 10] (fun tv iv wq => ∃ j : Nat, j ≤ cnt ∧ iv = .int .i64 j ∧ wq.ownsRow w2.heap.size 29 4 tv ((dueTo s h k).length + j) (cRow (dueTo s h k ++ callsTo (pt, ⟨ol, on, oh, od⟩) j)) ∧ wq.heap[po]? = some (.cells #[.int .i64 ol, .int .i64 on, .int .i64 oh, .bool od] 60 (0, 0)) ∧ Below w2.heap.size w2 wq) (fun _ iv _ => cnt - (intOf iv).toNat)
        case atStart => exact ⟨0, by omega, rfl, by simpa [callsTo] using HW5.out, HO5.out, HB5.out⟩
        case round =>
          obtain ⟨j, hj, rfl, hown, hO6, hB⟩ := hrel
          have HOq := Lib.hid hO6
          have HBq := Lib.hid hB
          have HWq := Lib.hid hown
          clear hB hown
          by_cases hjl : j < cnt
          · have hjc : (j : Int) ≤ (cnt : Int) - 1 := by omega
            obtain ⟨y0, y1, y2, y3⟩ := row4 hO6
            have hnew : ∀ i u, (cCl ⟨pt, ol, on, (j : Int)⟩)[i]? = some u → (wr.alloc (.cells #[.int .i64 pt, .int .i64 ol, .int .i64 on, .int .i64 j] 29)).cell? ((⟨wr.heap.size, 0, none⟩ : Addr).add i) = some u := fun i u hi => by
              rw [Addr.add_mid, Nat.zero_add, cell_of_row _ _ _ _ _ _ (heap_alloc_new wr (.cells #[.int .i64 pt, .int .i64 ol, .int .i64 on, .int .i64 j] 29)), ← Array.getElem?_toList]
              exact hi
            have HW6 := Lib.hid (HWq.out.alloc (.cells #[.int .i64 pt, .int .i64 ol, .int .i64 on, .int .i64 j] 29))
            have HB6 := Lib.hid (HBq.out.alloc HBq.out.size (.cells #[.int .i64 pt, .int .i64 ol, .int .i64 on, .int .i64 j] 29))
            have hsz6 : w2.heap.size ≤ (wr.alloc (.cells #[.int .i64 pt, .int .i64 ol, .int .i64 on, .int .i64 j] 29)).heap.size := HB6.out.size
            have hne6 := own_ne HW6.out ((heap_alloc_old wr (.cells #[.int .i64 pt, .int .i64 ol, .int .i64 on, .int .i64 j] 29) (blk_lt HOq.out)).trans HOq.out) (by decide)
            have HO7a := Lib.hid ((heap_alloc_old wr (.cells #[.int .i64 pt, .int .i64 ol, .int .i64 on, .int .i64 j] 29) (blk_lt HOq.out)).trans HOq.out)
            clear hO6
            go_wp2_with (at_builtin; refine Hid.out ?_)
            refine Lib.hid ?_
            refine wpList_append_own _ rfl _ _ 35 rfl w2.heap.size 29 ic zc 4 ic.bytes undCs hic hzc hsz rfl hcz (by decide) _ ((dueTo s h k).length + j) _ rfl HW6.out ⟨wr.heap.size, 0, none⟩ 1 1 (cCl ⟨pt, ol, on, (j : Int)⟩) rfl rfl hnew (cCl_one _) (by unfold maxLen; omega) (Nat.le_trans (Nat.mul_le_mul_right _ (show (dueTo s h k).length + j + 1 ≤ 1024 by omega)) (by rw [Nat.mul_comm]; exact hbc)) hsz6 ?_
            intro v' w6 hown6 hgr6 _
            have HW7 : Hid (w6.ownsRow w2.heap.size 29 4 v' ((dueTo s h k).length + (j + 1)) (cRow (dueTo s h k ++ callsTo (pt, ⟨ol, on, oh, od⟩) (j + 1)))) := Lib.hid (by
              rw [callsTo_succ, ← List.append_assoc, cRow_snoc]
              exact hown6)
            have HB7 : Hid (Below w2.heap.size w2 w6) := Lib.hid (HB6.out.grown hgr6 HB6.out.size (fun q e => (HW6.out.lt q e).1))
            have HO7 := Lib.hid ((hgr6.block po (blk_lt HO7a.out) (fun e => hne6 e.symm)).trans HO7a.out)
            clear hown6 hgr6 hnew HW6 HB6 HO7a hne6 y0 y1 y2 y3
            go_wp2_with fail
            go_roundw
            case rel => exact ⟨j + 1, by omega, by go_num, HW7.out, HO7.out, HB7.out⟩
            case measure => simp [intOf]; omega
          · obtain rfl : j = cnt := by omega
            have hjc : ¬ ((j : Int) ≤ (j : Int) - 1) := by omega
            clear hj hjl hO6
            go_wp2_with fail
            go_roundw
            case rel =>
              refine ⟨k + 1, by omega, by go_num, ?_, HBq.out⟩
              rw [HE.out, List.length_append, callsTo_len]
              exact HWq.out
            case measure => simp [intOf]; omega
    · obtain rfl : k = (openM s.m).length := by omega
      rw [dueTo_all] at HW
      clear hlt hk
      go_wp2_with fail
      go_ret
      exact ⟨_, rfl, row_base HW.out HB2.out.size, HB2.out.trans (HB.out.mono HB2.out.size)⟩
end Go.Proofs.Ythijckdablkofaa
