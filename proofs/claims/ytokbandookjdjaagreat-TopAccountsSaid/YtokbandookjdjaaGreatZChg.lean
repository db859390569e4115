/- asof.Change. -/
import Derived.Test.YtokbandookjdjaaGreatZStab
namespace Go.Proofs.YtokbandookjdjaaGreat
open Go.Shelf Go.RowKit Go.Lib Go.Sort
def chgB (o d f s : Int) (x : EntryV) : Bool := decide (x.owner = o) && decide (x.day ≤ d) && decide (f < x.known) && decide (x.known ≤ s)
def chgL (l : List EntryV) (o d f s : Int) : List EntryV := l.filter (chgB o d f s)
theorem chgB_yes {o d f s : Int} {x : EntryV} (h1 : x.owner = o) (h2 : x.day ≤ d) (h3 : f < x.known) (h4 : x.known ≤ s) : chgB o d f s x = true := by
  unfold chgB
  simp [h1, h2, h3, h4]
theorem chgB_no {o d f s : Int} {x : EntryV} (h : ¬ (x.owner = o ∧ x.day ≤ d ∧ f < x.known ∧ x.known ≤ s)) : ¬ chgB o d f s x = true := fun e => by
  unfold chgB at e
  simp only [Bool.and_eq_true, decide_eq_true_eq] at e
  exact h ⟨e.1.1.1, e.1.1.2, e.1.2, e.2⟩
theorem chg_snoc {l : List EntryV} {k : Nat} {x : EntryV} (o d f s : Int) (h : l[k]? = some x) : chgL (l.take (k + 1)) o d f s = chgL (l.take k) o d f s ++ (if chgB o d f s x = true then [x] else []) := by
  unfold chgL
  rw [List.take_add_one, h, Option.toList_some, List.filter_append]
  by_cases e : chgB o d f s x = true
  · rw [if_pos e]; simp [e]
  · rw [if_neg e]; simp [e]
theorem chg_len (l : List EntryV) (o d f s : Int) (k : Nat) : (chgL (l.take k) o d f s).length ≤ k := Nat.le_trans (List.length_filter_le _ _) (List.length_take_le _ _)
/-- the numbers are in range -/
def EOk (x : EntryV) : Prop := ∀ (w : World), REntry x (entC x) w
theorem eok_of {x : EntryV} {cs : List Value} {w : World} (h : REntry x cs w) : EOk x := fun _ => ⟨rfl, h.2⟩
theorem larg_ok {l : List EntryV} {v : Value} {w : World} (h : LArg REntry 7 v l w) : ∀ x ∈ l, EOk x := fun x hx => by
  obtain ⟨j, hj⟩ := List.getElem?_of_mem hx
  obtain ⟨a, c, rfl, _, _⟩ := h.slice
  obtain ⟨b, o, cs, _, _, _, _, hr⟩ := h.at hj
  exact eok_of hr
theorem infoE : (Tryz.prog.info? 25).map (fun i => (i.size, i.bytes, i.zero.map (·.cells.size))) = some (7, 56, some 7) := by kernel_rfl
set_option maxRecDepth 100000 in
set_option maxHeartbeats 8000000 in
theorem change_any (l : List EntryV) (v : Value) (ow d f s : Int) (w : World) (hL : LArg REntry 7 v l w) (hn : l.length ≤ 20) (ho : 0 ≤ ow) :
    Calls Tryz.prog 5 #[v, .int .i64 ow, .int .i64 d, .int .i64 f, .int .i64 s] w fun e w' => ∃ (v' : Value) (l' : List EntryV), e = .returned v' ∧ l'.Perm (chgL l ow d f s) ∧ LArg REntry 7 v' l' w' ∧ Below w.heap.size w w' := by
  obtain ⟨ic, zc, hic, hzc, hsz, hcz, hbc⟩ : ∃ (i : TypeInfo) (z : Value), Tryz.prog.info? 25 = some i ∧ i.zero = some z ∧ i.size = 7 ∧ z.cells.size = 7 ∧ i.bytes = 56 := by
    have h := infoE
    cases hi : Tryz.prog.info? 25 with
    | none => rw [hi] at h; cases h
    | some i =>
      rw [hi] at h
      simp only [Option.map_some, Option.some.injEq, Prod.mk.injEq] at h
      cases hz : i.zero with
      | none => rw [hz] at h; cases h.2.2
      | some z =>
        rw [hz] at h
        exact ⟨i, z, rfl, hz, h.1, Option.some.inj h.2.2, h.2.1⟩
  obtain ⟨L, hLe⟩ : ∃ L, L = chgL l ow d f s := ⟨_, rfl⟩
  rw [← hLe]
  have HLE := Lib.hid hLe
  clear hLe
  have HOK := Lib.hid (larg_ok hL)
  obtain ⟨a, c, rfl, _, _⟩ := hL.slice
  have HL := Lib.hid hL
  have hon : ow ≠ -1 := by omega
  have hob : (ow == -1) = false := by simpa using hon
  clear hL
  go_enter Tryz.func5, Tryz.ntmps5
  go_wp2_with fail
  go_loopw [11, 16] (fun tv iv wr => ∃ k : Nat, k ≤ l.length ∧ iv = .int .i64 k ∧ wr.ownsRow w.heap.size 25 7 tv (chgL (l.take k) ow d f s).length ((chgL (l.take k) ow d f s).flatMap entC) ∧ Below w.heap.size w wr) (fun _ iv _ => l.length - (intOf iv).toNat)
  case atStart => exact ⟨0, Nat.zero_le _, rfl, World.ownsRow_nil _ _ _ _, Below.refl _ _⟩
  case round =>
    obtain ⟨k, hk, rfl, hown, hB⟩ := hrel
    have HBw := Lib.hid hB
    have HW := Lib.hid hown
    clear hB hown
    by_cases hlt : k < l.length
    · have H1 : Hid (l[k]? = some l[k]) := Lib.hid (List.getElem?_eq_getElem hlt)
      obtain ⟨b, o, cs, rfl, hbl, hcl, hra, hrx⟩ := (HL.out.below stays_Entry HBw.out).at H1.out
      have HN := Lib.hid (chg_snoc ow d f s H1.out)
      generalize l[k] = x at *
      obtain ⟨rfl, -⟩ := hrx
      clear hcl
      have hltz : (k : Int) < (l.length : Int) := by omega
      obtain ⟨c0, c1, c2, c3, c4, c5, c6⟩ := ent_cells hra
      clear hra
      by_cases h1 : x.owner = ow
      · by_cases h2 : x.day ≤ d
        · by_cases h3 : f < x.known
          · by_cases h4 : x.known ≤ s
            · have HE : Hid (chgL (l.take (k + 1)) ow d f s = chgL (l.take k) ow d f s ++ [x]) := Lib.hid (by rw [HN.out, if_pos (chgB_yes h1 h2 h3 h4)])
              have HLn := Lib.hid (chg_len l ow d f s k)
              have hz : (wr.alloc (.cells #[.int .i64 x.day, .int .i64 x.known, .int .i64 x.owner, .int .i64 x.place, .int .i64 x.litres, .int .i64 x.why, .int .i64 x.ref] 25)).heap.size = wr.heap.size + 1 := Array.size_push ..
              have hnew : ∀ j u, (entC x)[j]? = some u → ((wr.alloc (.cells #[.int .i64 x.day, .int .i64 x.known, .int .i64 x.owner, .int .i64 x.place, .int .i64 x.litres, .int .i64 x.why, .int .i64 x.ref] 25)).alloc (.cells #[.int .i64 x.day, .int .i64 x.known, .int .i64 x.owner, .int .i64 x.place, .int .i64 x.litres, .int .i64 x.why, .int .i64 x.ref] 25)).cell? ((⟨wr.heap.size + 1, 0, none⟩ : Addr).add j) = some u := fun j u h => by
                have := cells_new (wr.alloc (.cells #[.int .i64 x.day, .int .i64 x.known, .int .i64 x.owner, .int .i64 x.place, .int .i64 x.litres, .int .i64 x.why, .int .i64 x.ref] 25)) (entC x).toArray 25 j u h
                rw [hz] at this
                exact this
              have HW5 := Lib.hid ((HW.out.alloc (.cells #[.int .i64 x.day, .int .i64 x.known, .int .i64 x.owner, .int .i64 x.place, .int .i64 x.litres, .int .i64 x.why, .int .i64 x.ref] 25)).alloc (.cells #[.int .i64 x.day, .int .i64 x.known, .int .i64 x.owner, .int .i64 x.place, .int .i64 x.litres, .int .i64 x.why, .int .i64 x.ref] 25))
              have HB5 := Lib.hid ((HBw.out.alloc HBw.out.size (.cells #[.int .i64 x.day, .int .i64 x.known, .int .i64 x.owner, .int .i64 x.place, .int .i64 x.litres, .int .i64 x.why, .int .i64 x.ref] 25)).alloc (HBw.out.alloc HBw.out.size (.cells #[.int .i64 x.day, .int .i64 x.known, .int .i64 x.owner, .int .i64 x.place, .int .i64 x.litres, .int .i64 x.why, .int .i64 x.ref] 25)).size (.cells #[.int .i64 x.day, .int .i64 x.known, .int .i64 x.owner, .int .i64 x.place, .int .i64 x.litres, .int .i64 x.why, .int .i64 x.ref] 25))
              have HNW := Lib.hid hnew
              clear hnew hz
              subst h1
              go_wp2_with (at_builtin; refine Hid.out ?_)
              refine Lib.hid ?_
              refine wpList_append_own_at _ rfl _ _ 22 rfl w.heap.size 25 ic zc 7 56 und_L0 hic hzc hsz hbc hcz (by decide) _ _ _ rfl HW5.out ⟨wr.heap.size + 1, 0, none⟩ 1 1 (entC x) rfl rfl HNW.out (entC_one x) (by have := HLn.out; unfold maxLen; omega) (by have := HLn.out; omega) HB5.out.size ?_
              intro v' w6 hown6 hgr6 _ _
              have HW6 : Hid (w6.ownsRow w.heap.size 25 7 v' (chgL (l.take (k + 1)) x.owner d f s).length ((chgL (l.take (k + 1)) x.owner d f s).flatMap entC)) := Lib.hid (by
                rw [HE.out, List.length_append, List.flatMap_append, List.flatMap_cons, List.flatMap_nil, List.append_nil]
                exact hown6)
              have HB6 : Hid (Below w.heap.size w w6) := Lib.hid (HB5.out.grown hgr6 HB5.out.size (fun q e => (HW5.out.lt q e).1))
              clear hown6 hgr6 HW5 HB5 HNW
              go_wp2_with fail
              go_roundw
              case rel => exact ⟨k + 1, by omega, by go_num, HW6.out, HB6.out⟩
              case measure => simp [intOf]; omega
            · have HE : Hid (chgL (l.take (k + 1)) ow d f s = chgL (l.take k) ow d f s) := Lib.hid (by rw [HN.out, if_neg (chgB_no fun h => h4 h.2.2.2), List.append_nil])
              go_wp2_with fail
              go_roundw
              case rel => exact ⟨k + 1, by omega, by go_num, by rw [HE.out]; exact HW.out.alloc _, HBw.out.alloc HBw.out.size _⟩
              case measure => simp [intOf]; omega
          · have HE : Hid (chgL (l.take (k + 1)) ow d f s = chgL (l.take k) ow d f s) := Lib.hid (by rw [HN.out, if_neg (chgB_no fun h => h3 h.2.2.1), List.append_nil])
            go_wp2_with fail
            go_roundw
            case rel => exact ⟨k + 1, by omega, by go_num, by rw [HE.out]; exact HW.out.alloc _, HBw.out.alloc HBw.out.size _⟩
            case measure => simp [intOf]; omega
        · have HE : Hid (chgL (l.take (k + 1)) ow d f s = chgL (l.take k) ow d f s) := Lib.hid (by rw [HN.out, if_neg (chgB_no fun h => h2 h.2.1), List.append_nil])
          go_wp2_with fail
          go_roundw
          case rel => exact ⟨k + 1, by omega, by go_num, by rw [HE.out]; exact HW.out.alloc _, HBw.out.alloc HBw.out.size _⟩
          case measure => simp [intOf]; omega
      · have HE : Hid (chgL (l.take (k + 1)) ow d f s = chgL (l.take k) ow d f s) := Lib.hid (by rw [HN.out, if_neg (chgB_no fun h => h1 h.1), List.append_nil])
        go_wp2_with fail
        go_roundw
        case rel => exact ⟨k + 1, by omega, by go_num, by rw [HE.out]; exact HW.out.alloc _, HBw.out.alloc HBw.out.size _⟩
        case measure => simp [intOf]; omega
    · obtain rfl : k = l.length := by omega
      rw [List.take_length] at HW
      have hltz : ¬ (l.length : Int) < (l.length : Int) := by omega
      have hAl := chg_len l ow d f s l.length
      rw [List.take_length] at hAl
      have HAl := Lib.hid hAl
      have HOK2 : Hid (∀ x ∈ chgL l ow d f s, EOk x) := Lib.hid fun x hx => HOK.out x (List.mem_filter.1 hx).1
      clear hAl
      rw [← HLE.out] at HW HAl HOK2
      rcases HW.out.2 with ⟨rfl, h0⟩ | ⟨g, cap, cur, rfl, hg, hh, hnc, hcm, hcs, htk⟩
      · have H0 := Lib.hid h0
        clear h0 HW
        go_wp2_with fail
        refine (sortNil _ _).mono ?_
        rintro e w' ⟨rfl, hb'⟩
        have HB' := Lib.hid (HBw.out.trans (hb'.mono HBw.out.size))
        clear hb'
        go_wp2_with fail
        go_ret
        have hLn : L = [] := List.eq_nil_of_length_eq_zero H0.out
        subst hLn
        exact ⟨_, [], rfl, List.Perm.refl _, ⟨none, 0, rfl, Nat.le_refl _, by unfold maxLen; omega, fun j x hj => by simp at hj⟩, HB'.out⟩
      · have HG := Lib.hid hg
        have HCM := Lib.hid hcm
        have HNC := Lib.hid hnc
        have hS := sortE L g cap wr (holdsK_row entC_len hh L fun i x hi cc u hu => by
          have h1 := flat_at entC_len L i x hi
          rw [← htk] at h1
          have hc7 : cc < 7 := (List.getElem?_eq_some_iff.1 hu).1
          rw [← h1, List.getElem?_take, if_pos hc7, List.getElem?_drop, List.getElem?_take] at hu
          split at hu
          · rw [← Array.getElem?_toList]
            exact hu
          · cases hu) (blk_lt hh) (by have := HAl.out; omega)
        have HS := Lib.hid hS
        clear hS hh hnc hcm hcs htk hg HW
        go_wp2_with fail
        refine HS.out.mono ?_
        rintro e w' ⟨rfl, l', hp, hln, hra, hb', hgl⟩
        have HB' := Lib.hid (HBw.out.trans (hb'.mono HG.out))
        have HLA : Hid (LArg REntry 7 (.slice (some ⟨g, 0, none⟩) L.length cap) l' w') := Lib.hid ⟨_, cap, by rw [hln], by rw [hln]; exact HNC.out, HCM.out, fun j x hj => ⟨g, 0, entC x, rfl, hgl, rfl, hra j x hj, HOK2.out x (hp.mem_iff.1 (List.mem_of_getElem? hj)) w'⟩⟩
        have HP := Lib.hid hp
        clear hb' hra hp hln hgl
        go_wp2_with fail
        go_ret
        exact ⟨_, l', rfl, HP.out, HLA.out, HB'.out⟩
end Go.Proofs.YtokbandookjdjaaGreat
