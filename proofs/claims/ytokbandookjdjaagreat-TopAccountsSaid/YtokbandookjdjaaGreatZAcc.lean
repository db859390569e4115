/- ledger.Account and asof.At. -/
import Derived.Test.YtokbandookjdjaaGreatZSum
namespace Go.Proofs.YtokbandookjdjaaGreat
open Go.RowKit
def accB (o d n : Int) (x : EntryV) : Bool := decide (x.day ≤ d) && decide (x.known ≤ n) && decide (x.owner = o)
def accL (l : List EntryV) (o d n : Int) : List Int := (l.filter (accB o d n)).map (·.litres)
theorem acc_snoc {l : List EntryV} {k : Nat} {x : EntryV} (o d n : Int) (h : l[k]? = some x) : accL (l.take (k + 1)) o d n = accL (l.take k) o d n ++ (if accB o d n x = true then [x.litres] else []) := by
  unfold accL
  rw [List.take_add_one, h, Option.toList_some, List.filter_append, List.map_append]
  by_cases e : accB o d n x = true
  · rw [if_pos e]; simp [e]
  · rw [if_neg e]; simp [e]
theorem acc_len (l : List EntryV) (o d n : Int) (k : Nat) : (accL (l.take k) o d n).length ≤ k := by
  unfold accL
  rw [List.length_map]
  exact Nat.le_trans (List.length_filter_le _ _) (List.length_take_le _ _)
theorem acc_mem {l : List EntryV} {o d n : Int} {y : Int} (h : y ∈ accL l o d n) : ∃ x ∈ l, x.litres = y := by
  unfold accL at h
  obtain ⟨x, hx, rfl⟩ := List.mem_map.1 h
  exact ⟨x, (List.mem_filter.1 hx).1, rfl⟩
theorem accB_yes {o d n : Int} {x : EntryV} (h1 : x.day ≤ d) (h2 : x.known ≤ n) (h3 : x.owner = o) : accB o d n x = true := by
  unfold accB
  simp [h1, h2, h3]
theorem accB_no {o d n : Int} {x : EntryV} (h : ¬ (x.day ≤ d ∧ x.known ≤ n ∧ x.owner = o)) : ¬ accB o d n x = true := fun e => by
  unfold accB at e
  simp only [Bool.and_eq_true, decide_eq_true_eq] at e
  exact h ⟨e.1.1, e.1.2, e.2⟩
def entC (x : EntryV) : List Value := [.int .i64 x.day, .int .i64 x.known, .int .i64 x.owner, .int .i64 x.place, .int .i64 x.litres, .int .i64 x.why, .int .i64 x.ref]
theorem ent_cells {w : World} {b o : Nat} {x : EntryV} (h : w.rangeAt b o [.int .i64 x.day, .int .i64 x.known, .int .i64 x.owner, .int .i64 x.place, .int .i64 x.litres, .int .i64 x.why, .int .i64 x.ref]) :
    w.cell? ⟨b, o, none⟩ = some (.int .i64 x.day) ∧ w.cell? ⟨b, o + 1, none⟩ = some (.int .i64 x.known) ∧ w.cell? ⟨b, o + 2, none⟩ = some (.int .i64 x.owner) ∧ w.cell? ⟨b, o + 3, none⟩ = some (.int .i64 x.place) ∧ w.cell? ⟨b, o + 4, none⟩ = some (.int .i64 x.litres) ∧ w.cell? ⟨b, o + 5, none⟩ = some (.int .i64 x.why) ∧ w.cell? ⟨b, o + 6, none⟩ = some (.int .i64 x.ref) :=
  ⟨h 0 _ rfl, h 1 _ rfl, h 2 _ rfl, h 3 _ rfl, h 4 _ rfl, h 5 _ rfl, h 6 _ rfl⟩
set_option maxRecDepth 100000 in
set_option maxHeartbeats 4000000 in
theorem account_any (l : List EntryV) (v : Value) (ow d kn : Int) (w : World) (hL : LArg REntry 7 v l w) (hn : l.length ≤ 20) (hb : ∀ x ∈ l, -1099511627776 ≤ x.litres ∧ x.litres ≤ 1099511627776) (ho : 0 ≤ ow) :
    Calls Tryz.prog 16 #[v, .int .i64 ow, .int .i64 (-1), .int .i64 d, .int .i64 kn] w fun e w' => e = .returned (.int .i64 (accL l ow d kn).sum) ∧ Below w.heap.size w w' := by
  obtain ⟨a, c, rfl, _, _⟩ := hL.slice
  have HL := Lib.hid hL
  have HB := Lib.hid hb
  obtain ⟨r, hr⟩ : ∃ r, r = (accL l ow d kn).sum := ⟨_, rfl⟩
  rw [← hr]
  have HR := Lib.hid hr
  clear hr
  have hon : ow ≠ -1 := by omega
  obtain ⟨iI, hiI, hzI, hsI, hbI⟩ : ∃ i : TypeInfo, Tryz.prog.info? 3 = some i ∧ i.zero = some (.int .i64 0) ∧ i.size = 1 ∧ i.bytes = 8 := by
    have h := infoInt
    cases hi : Tryz.prog.info? 3 with
    | none => rw [hi] at h; cases h
    | some i =>
      rw [hi] at h
      simp only [Option.map_some, Option.some.injEq, Prod.mk.injEq] at h
      exact ⟨i, rfl, h.1, h.2.1, h.2.2⟩
  clear hL hb
  go_enter Tryz.func16, Tryz.ntmps16
  go_wp2_with fail
  go_loopw [11, 18] (fun tv iv wr => ∃ k : Nat, k ≤ l.length ∧ iv = .int .i64 k ∧ wr.ownsRow w.heap.size 3 1 tv (accL (l.take k) ow d kn).length ((accL (l.take k) ow d kn).flatMap intC) ∧ Below w.heap.size w wr) (fun _ iv _ => l.length - (intOf iv).toNat)
  case atStart => exact ⟨0, Nat.zero_le _, rfl, World.ownsRow_nil _ _ _ _, Below.refl _ _⟩
  case round =>
    obtain ⟨k, hk, rfl, hown, hB⟩ := hrel
    have HBw := Lib.hid hB
    have HW := Lib.hid hown
    clear hB hown
    by_cases hlt : k < l.length
    · have H1 : Hid (l[k]? = some l[k]) := Lib.hid (List.getElem?_eq_getElem hlt)
      obtain ⟨b, o, cs, rfl, hbl, hcl, hra, hrx⟩ := (HL.out.below stays_Entry HBw.out).at H1.out
      have hx := HB.out _ (List.mem_of_getElem? H1.out)
      have HN := Lib.hid (acc_snoc ow d kn H1.out)
      generalize l[k] = x at *
      obtain ⟨rfl, -⟩ := hrx
      clear hcl
      have hltz : (k : Int) < (l.length : Int) := by omega
      obtain ⟨c0, c1, c2, c3, c4, c5, c6⟩ := ent_cells hra
      clear hra
      have hob : (ow == -1) = false := by simpa using hon
      by_cases h1 : x.day ≤ d
      · by_cases h2 : x.known ≤ kn
        · by_cases h3 : x.owner = ow
          · have HE : Hid (accL (l.take (k + 1)) ow d kn = accL (l.take k) ow d kn ++ [x.litres]) := Lib.hid (by rw [HN.out, if_pos (accB_yes h1 h2 h3)])
            have HLn := Lib.hid (acc_len l ow d kn k)
            obtain ⟨O, hO⟩ : ∃ O : Obj, O = (.cells #[.int .i64 x.day, .int .i64 x.known, .int .i64 x.owner, .int .i64 x.place, .int .i64 x.litres, .int .i64 x.why, .int .i64 x.ref] 25) := ⟨_, rfl⟩
            have hz : (wr.alloc (.cells #[.int .i64 x.day, .int .i64 x.known, .int .i64 x.owner, .int .i64 x.place, .int .i64 x.litres, .int .i64 x.why, .int .i64 x.ref] 25)).heap.size = wr.heap.size + 1 := Array.size_push ..
            have hnew : ∀ j u, ([.int .i64 x.litres] : List Value)[j]? = some u → ((wr.alloc (.cells #[.int .i64 x.day, .int .i64 x.known, .int .i64 x.owner, .int .i64 x.place, .int .i64 x.litres, .int .i64 x.why, .int .i64 x.ref] 25)).alloc (.cells #[.int .i64 x.litres] 3)).cell? ((⟨wr.heap.size + 1, 0, none⟩ : Addr).add j) = some u := fun j u h => by
              have := cells_new (wr.alloc (.cells #[.int .i64 x.day, .int .i64 x.known, .int .i64 x.owner, .int .i64 x.place, .int .i64 x.litres, .int .i64 x.why, .int .i64 x.ref] 25)) #[.int .i64 x.litres] 3 j u h
              rw [hz] at this
              exact this
            have HW5 := Lib.hid ((HW.out.alloc (.cells #[.int .i64 x.day, .int .i64 x.known, .int .i64 x.owner, .int .i64 x.place, .int .i64 x.litres, .int .i64 x.why, .int .i64 x.ref] 25)).alloc (.cells #[.int .i64 x.litres] 3))
            have HB5 := Lib.hid ((HBw.out.alloc HBw.out.size (.cells #[.int .i64 x.day, .int .i64 x.known, .int .i64 x.owner, .int .i64 x.place, .int .i64 x.litres, .int .i64 x.why, .int .i64 x.ref] 25)).alloc (HBw.out.alloc HBw.out.size (.cells #[.int .i64 x.day, .int .i64 x.known, .int .i64 x.owner, .int .i64 x.place, .int .i64 x.litres, .int .i64 x.why, .int .i64 x.ref] 25)).size (.cells #[.int .i64 x.litres] 3))
            have HNW := Lib.hid hnew
            clear hnew hO hz
            subst h3
            go_wp2_with (at_builtin; refine Hid.out ?_)
            refine Lib.hid ?_
            refine wpList_append_own_at _ rfl _ _ 36 rfl w.heap.size 3 iI (.int .i64 0) 1 8 undIs hiI hzI hsI hbI rfl (by decide) _ _ _ rfl HW5.out ⟨wr.heap.size + 1, 0, none⟩ 1 1 [.int .i64 x.litres] rfl rfl HNW.out (by simp [Value.oneCell']) (by have := HLn.out; unfold maxLen; omega) (by have := HLn.out; omega) HB5.out.size ?_
            intro v' w6 hown6 hgr6 _ _
            have HW6 : Hid (w6.ownsRow w.heap.size 3 1 v' (accL (l.take (k + 1)) x.owner d kn).length ((accL (l.take (k + 1)) x.owner d kn).flatMap intC)) := Lib.hid (by
              rw [HE.out, List.length_append, List.flatMap_append]
              exact hown6)
            have HB6 : Hid (Below w.heap.size w w6) := Lib.hid (HB5.out.grown hgr6 HB5.out.size (fun q e => (HW5.out.lt q e).1))
            clear hown6 hgr6 HW5 HB5 HNW
            go_wp2_with fail
            go_roundw
            case rel => exact ⟨k + 1, by omega, by go_num, HW6.out, HB6.out⟩
            case measure => simp [intOf]; omega
          · have HE : Hid (accL (l.take (k + 1)) ow d kn = accL (l.take k) ow d kn) := Lib.hid (by rw [HN.out, if_neg (accB_no fun h => h3 h.2.2), List.append_nil])
            go_wp2_with fail
            go_roundw
            case rel => exact ⟨k + 1, by omega, by go_num, by rw [HE.out]; exact HW.out.alloc _, HBw.out.alloc HBw.out.size _⟩
            case measure => simp [intOf]; omega
        · have HE : Hid (accL (l.take (k + 1)) ow d kn = accL (l.take k) ow d kn) := Lib.hid (by rw [HN.out, if_neg (accB_no fun h => h2 h.2.1), List.append_nil])
          go_wp2_with fail
          go_roundw
          case rel => exact ⟨k + 1, by omega, by go_num, by rw [HE.out]; exact HW.out.alloc _, HBw.out.alloc HBw.out.size _⟩
          case measure => simp [intOf]; omega
      · have HE : Hid (accL (l.take (k + 1)) ow d kn = accL (l.take k) ow d kn) := Lib.hid (by rw [HN.out, if_neg (accB_no fun h => h1 h.1), List.append_nil])
        go_wp2_with fail
        go_roundw
        case rel => exact ⟨k + 1, by omega, by go_num, by rw [HE.out]; exact HW.out.alloc _, HBw.out.alloc HBw.out.size _⟩
        case measure => simp [intOf]; omega
    · obtain rfl : k = l.length := by omega
      rw [List.take_length] at HW
      have hltz : ¬ (l.length : Int) < (l.length : Int) := by omega
      have hA : ∀ y ∈ accL l ow d kn, -1099511627776 ≤ y ∧ y ≤ 1099511627776 := fun y hy => by
        obtain ⟨x, hx, rfl⟩ := acc_mem hy
        exact HB.out x hx
      have hAl := acc_len l ow d kn l.length
      rw [List.take_length] at hAl
      have hS := sum_any (accL l ow d kn) _ wr (larg_of_owns intC_len (fun y hy => ⟨rfl, by have := hA y hy; omega, by have := hA y hy; omega⟩) rfl HW.out) (by omega) hA
      rw [← HR.out] at hS
      have HS := Lib.hid hS
      clear hS hA hAl HW
      go_wp2_with fail
      refine HS.out.mono ?_
      rintro e w' ⟨rfl, hb'⟩
      have HB' := Lib.hid (HBw.out.trans (hb'.mono HBw.out.size))
      clear hb'
      go_wp2_with fail
      go_ret
      exact ⟨rfl, HB'.out⟩
set_option maxRecDepth 100000 in
set_option maxHeartbeats 1000000 in
theorem at_any (l : List EntryV) (v : Value) (ow d kn : Int) (w : World) (hL : LArg REntry 7 v l w) (hn : l.length ≤ 20) (hb : ∀ x ∈ l, -1099511627776 ≤ x.litres ∧ x.litres ≤ 1099511627776) (ho : 0 ≤ ow) :
    Calls Tryz.prog 6 #[v, .int .i64 ow, .int .i64 (-1), .int .i64 d, .int .i64 kn] w fun e w' => e = .returned (.int .i64 (accL l ow d kn).sum) ∧ Below w.heap.size w w' := by
  have HA := Lib.hid (account_any l v ow d kn w hL hn hb ho)
  obtain ⟨a, c, rfl, _, _⟩ := hL.slice
  obtain ⟨r, hr⟩ : ∃ r, r = (accL l ow d kn).sum := ⟨_, rfl⟩
  rw [← hr] at HA ⊢
  clear hr hL hb
  go_enter Tryz.func6, Tryz.ntmps6
  go_wp2_with fail
  refine HA.out.mono ?_
  rintro e w' ⟨rfl, hb'⟩
  have HB' := Lib.hid hb'
  clear hb'
  go_wp2_with fail
  go_ret
  exact ⟨rfl, HB'.out⟩
end Go.Proofs.YtokbandookjdjaaGreat
