/- audit.Find: fork. -/
import Derived.Test.YtjbjpkhibcnenaaGreatDoorAByHour
import Derived.Test.YtjbjpkhibcnenaaGreatDoorAFindH
namespace Go.Proofs.YtjbjpkhibcnenaaGreatDoor
open Go.RowKit
theorem wpList_neqV {P : Program} {Q : Exit → Act → World → Prop} {a : Act} {w : World} {ops : Array Oper} {rest : List Oper} {o : Oper} (hgd : Region.wanted o (yielded ops a.tmps) = true) {t u : TypeId} {x y : Operand} (_ho : o.op = .binOp .neq t x y u) (v : Value) (hx : (execOp a.eval o).run P w = .ok (.value v) w) (h : wpList P ops Q rest (a.put o.dst v) w) : wpList P ops Q (o :: rest) a w :=
  wpList_step fun K hk => by
    rw [if_pos hgd]
    unfold Oper.wp
    rw [hx]
    exact hk _ _ h
theorem undMC : Tryz.prog.underlying 103 = some (.map 3 63) := by kernel_rfl
theorem zeroCl (w : World) : (zeroValue 63).run Tryz.prog w = .ok (.agg #[.int .i64 0, .int .i64 0, .int .i64 0, .int .i64 0, .int .i64 0, .string ⟨#[]⟩, .int .i64 0, .int .i64 0]) w := by kernel_rfl
/-- what a round of fork holds: rows of its own, the two maps -/
structure FK (w : World) (vs : List Value) (n : Nat) (fs ss : Int → Option Value) (rs : List (Nat × Obj)) (c : World) : Prop where
  rows : RowsS w rs c
  m1 : MapF (.agg #[.int .i64 0, .int .i64 0, .int .i64 0, .int .i64 0, .int .i64 0, .string ⟨#[]⟩, .int .i64 0, .int .i64 0]) vs c (w.heap.size + 1) n fs
  m2 : MapF (.agg #[.int .i64 0, .int .i64 0, .int .i64 0, .int .i64 0, .int .i64 0, .string ⟨#[]⟩, .int .i64 0, .int .i64 0]) vs c (w.heap.size + 1 + 1) n ss
  ne : ∀ p ∈ rs, p.1 ≠ w.heap.size + 1 ∧ p.1 ≠ w.heap.size + 1 + 1
theorem FK.step {w c c' : World} {vs : List Value} {n : Nat} {fs ss : Int → Option Value} {rs : List (Nat × Obj)} (h : FK w vs n fs ss rs c) (hb : Below c.heap.size c c') : FK w vs n fs ss rs c' :=
  ⟨h.rows.step hb, h.m1.below hb, h.m2.below hb, h.ne⟩
theorem FK.take {w c : World} {vs : List Value} {n : Nat} {fs ss : Int → Option Value} {rs : List (Nat × Obj)} (h : FK w vs n fs ss rs c) (k : Nat) : FK w vs n fs ss (rs.take k) c :=
  ⟨h.rows.take k, h.m1, h.m2, fun p hp => h.ne p (List.mem_of_mem_take hp)⟩
theorem FK.mono {w c : World} {vs : List Value} {n m : Nat} {fs ss : Int → Option Value} {rs : List (Nat × Obj)} (h : FK w vs n fs ss rs c) (hm : n ≤ m) : FK w vs m fs ss rs c :=
  ⟨h.rows, h.m1.mono hm, h.m2.mono hm, h.ne⟩
theorem FK.alloc {w c : World} {vs : List Value} {n : Nat} {fs ss : Int → Option Value} {rs : List (Nat × Obj)} (h : FK w vs n fs ss rs c) (o : Obj) : FK w vs n fs ss (rs ++ [(c.heap.size, o)]) (c.alloc o) :=
  have hb : Below c.heap.size c (c.alloc o) := (Below.refl _ _).alloc (Nat.le_refl _) o
  ⟨h.rows.alloc o, h.m1.below hb, h.m2.below hb, fun p hp => by
    rcases List.mem_append.1 hp with hp | hp
    · exact h.ne p hp
    · have e : p = (c.heap.size, o) := by simpa using hp
      subst e
      exact ⟨(Nat.ne_of_lt h.m1.lt).symm, (Nat.ne_of_lt h.m2.lt).symm⟩⟩
theorem RowsS.grownM {w c c' : World} {rs : List (Nat × Obj)} {mb : Nat} (h : RowsS w rs c) (hg : c.grownBy c' (some mb)) (hw : w.heap.size ≤ mb) (hn : ∀ p ∈ rs, p.1 ≠ mb) : RowsS w rs c' :=
  ⟨fun i p hp => (hg.block p.1 (blk_lt (h.rows i p hp)) (by simp [hn p (List.mem_of_getElem? hp)])).trans (h.rows i p hp), h.below.grown hg h.below.size (fun k e => by cases e; exact hw), h.ge, h.ne⟩
theorem FK.put1 {w c : World} {vs : List Value} {n : Nat} {fs ss : Int → Option Value} {rs : List (Nat × Obj)} (h : FK w vs n fs ss rs c) {t : Int} (ht : I64 t) {v : Value} (hv : v ∈ vs) (hn : n < maxLen) :
    ∃ c', (Instr.mapUpdate 103 (.map (some (w.heap.size + 1))) (.int .i64 t) v).run Tryz.prog c = .ok () c' ∧ FK w vs (n + 1) (fun s => if s = t then some v else fs s) ss rs c' := by
  obtain ⟨c', h1, h2, h3⟩ := h.m1.put undMC ht (Or.inr hv) hn
  exact ⟨c', h1, h.rows.grownM h3 (by omega) (fun p hp => (h.ne p hp).1), h2, (h.m2.keep (h3.block _ h.m2.lt (by simp))).mono (Nat.le_succ _), h.ne⟩
theorem FK.put2 {w c : World} {vs : List Value} {n : Nat} {fs ss : Int → Option Value} {rs : List (Nat × Obj)} (h : FK w vs n fs ss rs c) {t : Int} (ht : I64 t) {v : Value} (hv : v ∈ vs) (hn : n < maxLen) :
    ∃ c', (Instr.mapUpdate 103 (.map (some (w.heap.size + 1 + 1))) (.int .i64 t) v).run Tryz.prog c = .ok () c' ∧ FK w vs (n + 1) fs (fun s => if s = t then some v else ss s) rs c' := by
  obtain ⟨c', h1, h2, h3⟩ := h.m2.put undMC ht (Or.inr hv) hn
  exact ⟨c', h1, h.rows.grownM h3 (by omega) (fun p hp => (h.ne p hp).2), (h.m1.keep (h3.block _ h.m1.lt (by simp))).mono (Nat.le_succ _), h2, h.ne⟩
theorem FK.fn {w c : World} {vs : List Value} {n : Nat} {fs ss fs' ss' : Int → Option Value} {rs : List (Nat × Obj)} (h : FK w vs n fs ss rs c) (e1 : fs = fs') (e2 : ss = ss') : FK w vs n fs' ss' rs c := by subst e1; subst e2; exact h
def fM (f : Int → Option CV) : Int → Option Value := fun s => (f s).map aggC
theorem fM_put {f g : Int → Option CV} {t : Int} {c : CV} (h : g = fun s => if s = t then some c else f s) : (fun s => if s = t then some (aggC c) else fM f s) = fM g := by
  subst h
  funext s
  unfold fM
  by_cases e : s = t <;> simp [e]
theorem splitF_mem {L : List CV} {h : Int} {d : CV} (hs : splitF L h = some d) : d ∈ L := by
  unfold splitF at hs
  split at hs
  · exact List.mem_of_find?_eq_some hs
  · cases hs
theorem forkF_some {L : List CV} {k : Nat} {c d : CV} (hn : ∀ (i : Nat) (x : CV), i < k → L[i]? = some x → splitF L x.hour = none) (hc : L[k]? = some c) (hd : splitF L c.hour = some d) : first2 forkB L L = some (c, d) := by
  rw [← forkF_is]
  unfold forkF
  have e1 : L = L.take k ++ c :: L.drop (k + 1) := by
    obtain ⟨hk, e⟩ := List.getElem?_eq_some_iff.1 hc
    rw [← e, List.getElem_cons_drop, List.take_append_drop]
  have h0 : (L.take k).findSome? (fun c => (splitF L c.hour).map fun d => (c, d)) = none := by
    rw [List.findSome?_eq_none_iff]
    intro x hx
    obtain ⟨i, hi⟩ := List.getElem?_of_mem hx
    rw [List.getElem?_take] at hi
    split at hi
    · rw [hn i x (by assumption) hi]; rfl
    · cases hi
  have h2 : (L.take k ++ c :: L.drop (k + 1)).findSome? (fun c => (splitF L c.hour).map fun d => (c, d)) = some (c, d) := by
    rw [List.findSome?_append, h0, List.findSome?_cons, hd]
    rfl
  exact (congrArg (List.findSome? _) e1).trans h2
theorem forkF_none {L : List CV} (hn : ∀ (i : Nat) (x : CV), i < L.length → L[i]? = some x → splitF L x.hour = none) : first2 forkB L L = none := by
  rw [← forkF_is]
  unfold forkF
  rw [List.findSome?_eq_none_iff]
  intro x hx
  obtain ⟨i, hi⟩ := List.getElem?_of_mem hx
  rw [hn i x (List.getElem?_eq_some_iff.1 hi).1 hi]
  rfl
theorem FK.look1 {w c : World} {vs : List Value} {n : Nat} {fs ss : Int → Option Value} {rs : List (Nat × Obj)} (h : FK w vs n fs ss rs c) {t : Int} (ht : I64 t) : (Instr.lookup 103 (.map (some (w.heap.size + 1))) (.int .i64 t) true).run Tryz.prog c = .ok (.tuple #[(fs t).getD (.agg #[.int .i64 0, .int .i64 0, .int .i64 0, .int .i64 0, .int .i64 0, .string ⟨#[]⟩, .int .i64 0, .int .i64 0]), .bool (fs t).isSome]) c := h.m1.look_ok undMC (zeroCl c) ht
theorem FK.look2 {w c : World} {vs : List Value} {n : Nat} {fs ss : Int → Option Value} {rs : List (Nat × Obj)} (h : FK w vs n fs ss rs c) {t : Int} (ht : I64 t) : (Instr.lookup 103 (.map (some (w.heap.size + 1 + 1))) (.int .i64 t) true).run Tryz.prog c = .ok (.tuple #[(ss t).getD (.agg #[.int .i64 0, .int .i64 0, .int .i64 0, .int .i64 0, .int .i64 0, .string ⟨#[]⟩, .int .i64 0, .int .i64 0]), .bool (ss t).isSome]) c := h.m2.look_ok undMC (zeroCl c) ht
set_option maxHeartbeats 1000000 in
theorem neqC (c f : CV) {w : World} {o : Oper} {ev : Operand → Value} {x y : Operand} {u : TypeId} (ho : o.op = .binOp .neq 63 x y u) (hx : ev x = .agg #[.int .i64 c.office, .int .i64 c.hour, .int .i64 c.inn, .int .i64 c.out, .int .i64 c.store, .string c.prev, .int .i64 c.e, .int .i64 c.s]) (hy : ev y = .agg #[.int .i64 f.office, .int .i64 f.hour, .int .i64 f.inn, .int .i64 f.out, .int .i64 f.store, .string f.prev, .int .i64 f.e, .int .i64 f.s]) : (execOp ev o).run Tryz.prog w = .ok (.value (.bool (decide (c ≠ f)))) w := by
  unfold execOp
  by_cases h : c = f
  · subst h
    rw [decide_eq_false (by simp)]
    go_simp
    try simp
  · rw [decide_eq_true h]
    go_simp
    intro a1 a2 a3 a4 a5 a6 a7 a8
    exact h (cvExt a1 a2 a3 a4 a5 a6 a7 a8)
set_option maxRecDepth 100000 in
set_option maxHeartbeats 8000000 in
theorem fork_any (jb sb j : Nat) (ao : Option Addr) (ko : Nat) (L : List CV) (last : Int) (w : World) (hS : SOf sb jb j ao ko L last w) :
    Calls Tryz.prog 24 #[.pointer (some ⟨sb, 0, none⟩), .int .i64 (j : Int)] w (RetF (two (j : Int) 0 (first2 forkB L L)) w) := by
  have hmm := @run_makeMap Tryz.prog
  have HSO := Lib.hid hS
  have hj3 := hS.j3
  have hj3i : (j : Int) < 3 := by omega
  have hll := hS.ll
  have hll2 : L.length ≤ 1000 := hS.ll
  clear hS
  go_enter Tryz.func24, Tryz.ntmps24
  go_upto_region 3 with fail
  clear hmm
  have s1 : (w.alloc (.cells #[.int .i64 0, .int .i64 0, .slice none 0 0, .int .i64 0, .int .i64 0, .int .i64 0, .int .i64 0, .int .i64 0, .int .i64 0] 40)).heap.size = w.heap.size + 1 := by simp
  have s2 : ((w.alloc (.cells #[.int .i64 0, .int .i64 0, .slice none 0 0, .int .i64 0, .int .i64 0, .int .i64 0, .int .i64 0, .int .i64 0, .int .i64 0] 40)).alloc (.map #[] 0)).heap.size = w.heap.size + 1 + 1 := by simp
  have HK : Hid (FK w (L.map aggC) (0) (fun _ => none) (fun _ => none) [(w.heap.size, .cells #[.int .i64 0, .int .i64 0, .slice none 0 0, .int .i64 0, .int .i64 0, .int .i64 0, .int .i64 0, .int .i64 0, .int .i64 0] 40)] (((w.alloc (.cells #[.int .i64 0, .int .i64 0, .slice none 0 0, .int .i64 0, .int .i64 0, .int .i64 0, .int .i64 0, .int .i64 0, .int .i64 0] 40)).alloc (.map #[] 0)).alloc (.map #[] 0))) := Lib.hid (by
    have b1 : Below (w.alloc (.cells #[.int .i64 0, .int .i64 0, .slice none 0 0, .int .i64 0, .int .i64 0, .int .i64 0, .int .i64 0, .int .i64 0, .int .i64 0] 40)).heap.size (w.alloc (.cells #[.int .i64 0, .int .i64 0, .slice none 0 0, .int .i64 0, .int .i64 0, .int .i64 0, .int .i64 0, .int .i64 0, .int .i64 0] 40)) ((w.alloc (.cells #[.int .i64 0, .int .i64 0, .slice none 0 0, .int .i64 0, .int .i64 0, .int .i64 0, .int .i64 0, .int .i64 0, .int .i64 0] 40)).alloc (.map #[] 0)) := (Below.refl _ _).alloc (Nat.le_refl _) _
    have b2 : Below ((w.alloc (.cells #[.int .i64 0, .int .i64 0, .slice none 0 0, .int .i64 0, .int .i64 0, .int .i64 0, .int .i64 0, .int .i64 0, .int .i64 0] 40)).alloc (.map #[] 0)).heap.size ((w.alloc (.cells #[.int .i64 0, .int .i64 0, .slice none 0 0, .int .i64 0, .int .i64 0, .int .i64 0, .int .i64 0, .int .i64 0, .int .i64 0] 40)).alloc (.map #[] 0)) (((w.alloc (.cells #[.int .i64 0, .int .i64 0, .slice none 0 0, .int .i64 0, .int .i64 0, .int .i64 0, .int .i64 0, .int .i64 0, .int .i64 0] 40)).alloc (.map #[] 0)).alloc (.map #[] 0)) := (Below.refl _ _).alloc (Nat.le_refl _) _
    refine ⟨(((RowsS.nil w).alloc (.cells #[.int .i64 0, .int .i64 0, .slice none 0 0, .int .i64 0, .int .i64 0, .int .i64 0, .int .i64 0, .int .i64 0, .int .i64 0] 40)).step b1).step b2, ?_, ?_, fun p hp => ?_⟩
    · have := (MapF.made (.agg #[.int .i64 0, .int .i64 0, .int .i64 0, .int .i64 0, .int .i64 0, .string ⟨#[]⟩, .int .i64 0, .int .i64 0]) (L.map aggC) (w.alloc (.cells #[.int .i64 0, .int .i64 0, .slice none 0 0, .int .i64 0, .int .i64 0, .int .i64 0, .int .i64 0, .int .i64 0, .int .i64 0] 40))).below b2
      rw [s1] at this
      exact this
    · have := MapF.made (.agg #[.int .i64 0, .int .i64 0, .int .i64 0, .int .i64 0, .int .i64 0, .string ⟨#[]⟩, .int .i64 0, .int .i64 0]) (L.map aggC) ((w.alloc (.cells #[.int .i64 0, .int .i64 0, .slice none 0 0, .int .i64 0, .int .i64 0, .int .i64 0, .int .i64 0, .int .i64 0, .int .i64 0] 40)).alloc (.map #[] 0))
      rw [s2] at this
      exact this
    · have : p = (w.heap.size, .cells #[.int .i64 0, .int .i64 0, .slice none 0 0, .int .i64 0, .int .i64 0, .int .i64 0, .int .i64 0, .int .i64 0, .int .i64 0] 40) := by simpa using hp
      subst this
      exact ⟨by show w.heap.size ≠ _; omega, by show w.heap.size ≠ _; omega⟩)
  clear s1 s2
  generalize (((w.alloc (.cells #[.int .i64 0, .int .i64 0, .slice none 0 0, .int .i64 0, .int .i64 0, .int .i64 0, .int .i64 0, .int .i64 0, .int .i64 0] 40)).alloc (.map #[] 0)).alloc (.map #[] 0)) = w0 at *
  have hcj := (HSO.out.below HK.out.rows.below).cj
  go_wp2_with fail
  clear hcj
  go_loopw [27] (fun iv wx => ∃ k : Nat, k ≤ L.length ∧ iv = .int .i64 k ∧ FK w (L.map aggC) (k) (fM (firstF (L.take (k)))) (fM (splitF (L.take (k)))) [(w.heap.size, .cells #[.int .i64 0, .int .i64 0, .slice none 0 0, .int .i64 0, .int .i64 0, .int .i64 0, .int .i64 0, .int .i64 0, .int .i64 0] 40)] wx) (fun iv _ => L.length - (Go.RowKit.intOf iv).toNat)
  case atStart => exact ⟨0, Nat.zero_le _, rfl, HK.out⟩
  case round =>
    obtain ⟨k, hk, rfl, hr⟩ := hrel
    have HK1 := Lib.hid hr
    clear hr HK
    by_cases hlt : k < L.length
    · obtain ⟨c, hc⟩ : ∃ c, L[k]? = some c := ⟨_, List.getElem?_eq_getElem hlt⟩
      obtain ⟨-, hh0, hh1, -⟩ := HSO.out.hk c (List.mem_of_getElem? hc)
      have hla := HSO.out.la
      have hI : I64 c.hour := ⟨by omega, by omega⟩
      have HI := Lib.hid hI
      have HVM : Hid (aggC c ∈ L.map aggC) := Lib.hid (List.mem_map.2 ⟨c, List.mem_of_getElem? hc, rfl⟩)
      obtain ⟨b, o, cs, rfl, hbl, -, hrg, hcs, -⟩ := HSO.out.l.at hc
      unfold cellsC at hcs
      subst hcs
      have HRG := Lib.hid (rangeAt_below hrg HK1.out.rows.below hbl)
      have HC := Lib.hid hc
      have HK2 := Lib.hid (HK1.out.alloc (.cells #[.int .i64 c.office, .int .i64 c.hour, .int .i64 c.inn, .int .i64 c.out, .int .i64 c.store, .string c.prev, .int .i64 c.e, .int .i64 c.s] 63))
      clear hc hrg HK1 hla hI hh0 hh1
      go_upto_region 6 with (refine wpList_load_range (by first | (go_simp; done) | rfl) 63 _ rfl _ _ rfl _ _ HRG.out undCm rfl infoCm ?_)
      clear HRG
      generalize wr.alloc (.cells #[.int .i64 c.office, .int .i64 c.hour, .int .i64 c.inn, .int .i64 c.out, .int .i64 c.store, .string c.prev, .int .i64 c.e, .int .i64 c.s] 63) = w2 at *
      generalize wr.heap.size = bC at *
      have c1 := HK2.out.rows.cell 1 1 rfl rfl
      have hlk := HK2.out.look1 HI.out
      cases hf : firstF (L.take k) c.hour with
      | none =>
        rw [show fM (firstF (L.take k)) c.hour = none by unfold fM; rw [hf]; rfl] at hlk
        dsimp only [Option.getD_none, Option.isSome_none] at hlk
        obtain ⟨e1, e2⟩ := firstF_new HC.out hf
        have HE1 := Lib.hid (fM_put e1)
        have HE2 : Hid (fM (splitF (L.take k)) = fM (splitF (L.take (k + 1)))) := Lib.hid (by rw [e2])
        have HK3 := Lib.hid (HK2.out.alloc (.cells #[.int .i64 0, .int .i64 0, .int .i64 0, .int .i64 0, .int .i64 0, .string ⟨#[]⟩, .int .i64 0, .int .i64 0] 63))
        clear hf e1 e2
        go_upto_region 8 with fail
        clear hlk c1
        generalize w2.alloc (.cells #[.int .i64 0, .int .i64 0, .int .i64 0, .int .i64 0, .int .i64 0, .string ⟨#[]⟩, .int .i64 0, .int .i64 0] 63) = w3 at *
        have c1 := HK3.out.rows.cell 1 1 rfl rfl
        obtain ⟨w4, hup, hk4⟩ := HK3.out.put1 HI.out HVM.out (by unfold maxLen; omega)
        have HK4 := Lib.hid hk4
        unfold aggC at hup
        clear hk4
        go_wp2_with (first | (refine wpList_load_rowW (by first | (go_simp; done) | rfl) 63 _ rfl _ rfl 63 _ _ _ (HK3.out.rows.row 1 rfl) undCm rfl infoCm ?_))
        go_roundw
        case rel => exact ⟨k + 1, by omega, by go_num, ((HK4.out.take 1).mono (by omega)).fn (HE1.out) (HE2.out)⟩
        case measure => simp [Go.RowKit.intOf]; omega
      | some f =>
        rw [show fM (firstF (L.take k)) c.hour = some (aggC f) by unfold fM; rw [hf]; rfl] at hlk
        dsimp only [Option.getD_some, Option.isSome_some, aggC] at hlk
        obtain ⟨e1, e2, e3⟩ := firstF_old HC.out hf
        have HE1 : Hid (fM (firstF (L.take k)) = fM (firstF (L.take (k + 1)))) := Lib.hid (by rw [e1])
        have HK3 := Lib.hid (HK2.out.alloc (.cells #[.int .i64 f.office, .int .i64 f.hour, .int .i64 f.inn, .int .i64 f.out, .int .i64 f.store, .string f.prev, .int .i64 f.e, .int .i64 f.s] 63))
        have HQ2 := Lib.hid e2
        have HQ3 := Lib.hid e3
        clear hf e1 e2 e3
        go_upto_region 9 with fail
        clear hlk c1
        generalize w2.alloc (.cells #[.int .i64 f.office, .int .i64 f.hour, .int .i64 f.inn, .int .i64 f.out, .int .i64 f.store, .string f.prev, .int .i64 f.e, .int .i64 f.s] 63) = w3 at *
        generalize w2.heap.size = bF at *
        have c1 := HK3.out.rows.cell 1 1 rfl rfl
        have hlk := HK3.out.look2 HI.out
        cases hs : splitF (L.take k) c.hour with
        | some y =>
          rw [show fM (splitF (L.take k)) c.hour = some (aggC y) by unfold fM; rw [hs]; rfl] at hlk
          dsimp only [Option.getD_some, Option.isSome_some, aggC] at hlk
          have HE2 : Hid (fM (splitF (L.take k)) = fM (splitF (L.take (k + 1)))) := Lib.hid (by rw [HQ3.out (by rw [hs]; simp)])
          have HK4 := Lib.hid (HK3.out.alloc (.cells #[.int .i64 y.office, .int .i64 y.hour, .int .i64 y.inn, .int .i64 y.out, .int .i64 y.store, .string y.prev, .int .i64 y.e, .int .i64 y.s] 63))
          clear hs HQ2 HQ3
          go_upto_region 10 with fail
          clear hlk c1
          generalize w3.alloc (.cells #[.int .i64 y.office, .int .i64 y.hour, .int .i64 y.inn, .int .i64 y.out, .int .i64 y.store, .string y.prev, .int .i64 y.e, .int .i64 y.s] 63) = w4 at *
          go_wp2_with fail
          go_roundw
          case rel => exact ⟨k + 1, by omega, by go_num, ((HK4.out.take 1).mono (by omega)).fn (HE1.out) (HE2.out)⟩
          case measure => simp [Go.RowKit.intOf]; omega
        | none =>
          rw [show fM (splitF (L.take k)) c.hour = none by unfold fM; rw [hs]; rfl] at hlk
          dsimp only [Option.getD_none, Option.isSome_none] at hlk
          have HK4 := Lib.hid (HK3.out.alloc (.cells #[.int .i64 0, .int .i64 0, .int .i64 0, .int .i64 0, .int .i64 0, .string ⟨#[]⟩, .int .i64 0, .int .i64 0] 63))
          have HS0 := Lib.hid hs
          clear hs
          go_upto_region 10 with fail
          clear hlk c1
          generalize w3.alloc (.cells #[.int .i64 0, .int .i64 0, .int .i64 0, .int .i64 0, .int .i64 0, .string ⟨#[]⟩, .int .i64 0, .int .i64 0] 63) = w4 at *
          by_cases hne : c ≠ f
          · have HNE : Hid (decide (c ≠ f) = true) := Lib.hid (decide_eq_true hne)
            have HE2 := Lib.hid (fM_put (HQ2.out ⟨HS0.out, hne⟩))
            clear hne HQ2 HQ3
            go_upto_region 11 with (first | (refine wpList_load_rowW (by first | (go_simp; done) | rfl) 63 _ rfl _ rfl 63 _ _ _ (HK4.out.rows.row 1 rfl) undCm rfl infoCm ?_) | (refine wpList_load_rowW (by first | (go_simp; done) | rfl) 63 _ rfl _ rfl 63 _ _ _ (HK4.out.rows.row 2 rfl) undCm rfl infoCm ?_) | (refine wpList_neqV (by first | (go_simp; done) | rfl) rfl _ ((neqC c f rfl rfl rfl).trans (by rw [HNE.out])) ?_))
            have c1 := HK4.out.rows.cell 1 1 rfl rfl
            obtain ⟨w5, hup, hk5⟩ := HK4.out.put2 HI.out HVM.out (by unfold maxLen; omega)
            have HK5 := Lib.hid hk5
            unfold aggC at hup
            clear hk5
            go_wp2_with (first | (refine wpList_load_rowW (by first | (go_simp; done) | rfl) 63 _ rfl _ rfl 63 _ _ _ (HK4.out.rows.row 1 rfl) undCm rfl infoCm ?_))
            go_roundw
            case rel => exact ⟨k + 1, by omega, by go_num, ((HK5.out.take 1).mono (by omega)).fn (HE1.out) (HE2.out)⟩
            case measure => simp [Go.RowKit.intOf]; omega
          · have HNE : Hid (decide (c ≠ f) = false) := Lib.hid (decide_eq_false hne)
            have HE2 : Hid (fM (splitF (L.take k)) = fM (splitF (L.take (k + 1)))) := Lib.hid (by rw [HQ3.out (fun h => hne h.2)])
            clear hne HQ2 HQ3
            go_wp2_with (first | (refine wpList_load_rowW (by first | (go_simp; done) | rfl) 63 _ rfl _ rfl 63 _ _ _ (HK4.out.rows.row 1 rfl) undCm rfl infoCm ?_) | (refine wpList_load_rowW (by first | (go_simp; done) | rfl) 63 _ rfl _ rfl 63 _ _ _ (HK4.out.rows.row 2 rfl) undCm rfl infoCm ?_) | (refine wpList_neqV (by first | (go_simp; done) | rfl) rfl _ ((neqC c f rfl rfl rfl).trans (by rw [HNE.out])) ?_))
            go_roundw
            case rel => exact ⟨k + 1, by omega, by go_num, ((HK4.out.take 1).mono (by omega)).fn (HE1.out) (HE2.out)⟩
            case measure => simp [Go.RowKit.intOf]; omega
    · obtain rfl : k = L.length := by omega
      rw [List.take_length] at HK1
      clear hlt hk
      have hcj := (HSO.out.below HK1.out.rows.below).cj
      go_wp2_with fail
      clear hcj
      rename World => wy
      go_loopw [70] (fun iv wx => ∃ k : Nat, k ≤ L.length ∧ iv = .int .i64 k ∧ (∀ (i : Nat) (x : CV), i < k → L[i]? = some x → splitF L x.hour = none) ∧ FK w (L.map aggC) (L.length) (fM (firstF L)) (fM (splitF L)) [(w.heap.size, .cells #[.int .i64 0, .int .i64 0, .slice none 0 0, .int .i64 0, .int .i64 0, .int .i64 0, .int .i64 0, .int .i64 0, .int .i64 0] 40)] wx) (fun iv _ => L.length - (Go.RowKit.intOf iv).toNat)
      case atStart => exact ⟨0, Nat.zero_le _, rfl, fun i x h => absurd h (Nat.not_lt_zero _), HK1.out⟩
      case round =>
        obtain ⟨k, hk, rfl, hno, hr⟩ := hrel
        have HNO := Lib.hid hno
        have HK2 := Lib.hid hr
        clear hr HK1 hno
        by_cases hlt : k < L.length
        · obtain ⟨c, hc⟩ : ∃ c, L[k]? = some c := ⟨_, List.getElem?_eq_getElem hlt⟩
          obtain ⟨-, hh0, hh1, -⟩ := HSO.out.hk c (List.mem_of_getElem? hc)
          have hla := HSO.out.la
          have hI : I64 c.hour := ⟨by omega, by omega⟩
          have HI := Lib.hid hI
          have hcg := good_of HSO.out.l (List.mem_of_getElem? hc)
          obtain ⟨b, o, cs, rfl, hbl, -, hrg, hcs, -⟩ := HSO.out.l.at hc
          unfold cellsC at hcs
          subst hcs
          have HRG := Lib.hid (rangeAt_below hrg HK2.out.rows.below hbl)
          have HC := Lib.hid hc
          have HK3 := Lib.hid (HK2.out.alloc (.cells #[.int .i64 c.office, .int .i64 c.hour, .int .i64 c.inn, .int .i64 c.out, .int .i64 c.store, .string c.prev, .int .i64 c.e, .int .i64 c.s] 63))
          clear hc hrg HK2 hla hI hh0 hh1
          go_upto_region 16 with (refine wpList_load_range (by first | (go_simp; done) | rfl) 63 _ rfl _ _ rfl _ _ HRG.out undCm rfl infoCm ?_)
          clear HRG
          generalize wr.alloc (.cells #[.int .i64 c.office, .int .i64 c.hour, .int .i64 c.inn, .int .i64 c.out, .int .i64 c.store, .string c.prev, .int .i64 c.e, .int .i64 c.s] 63) = w2 at *
          generalize wr.heap.size = bC at *
          have c1 := HK3.out.rows.cell 1 1 rfl rfl
          have hlk := HK3.out.look2 HI.out
          cases hs : splitF L c.hour with
          | some d =>
            rw [show fM (splitF L) c.hour = some (aggC d) by unfold fM; rw [hs]; rfl] at hlk
            dsimp only [Option.getD_some, Option.isSome_some, aggC] at hlk
            have hdg := good_of HSO.out.l (splitF_mem hs)
            have HF : Hid (two (j : Int) 0 (first2 forkB L L) = some ⟨(j : Int), 0, [c, d], zeroP⟩) := Lib.hid (by rw [forkF_some HNO.out HC.out hs]; rfl)
            have HR2 := Lib.hid (HK3.out.rows.alloc (.cells #[.int .i64 d.office, .int .i64 d.hour, .int .i64 d.inn, .int .i64 d.out, .int .i64 d.store, .string d.prev, .int .i64 d.e, .int .i64 d.s] 63))
            clear hs HK3
            go_upto_region 18 with fail
            clear hlk c1
            generalize w2.alloc (.cells #[.int .i64 d.office, .int .i64 d.hour, .int .i64 d.inn, .int .i64 d.out, .int .i64 d.store, .string d.prev, .int .i64 d.e, .int .i64 d.s] 63) = w3 at *
            generalize w2.heap.size = bD at *
            have HR4 := Lib.hid (HR2.out.alloc (.cells #[.int .i64 c.office, .int .i64 c.hour, .int .i64 c.inn, .int .i64 c.out, .int .i64 c.store, .string c.prev, .int .i64 c.e, .int .i64 c.s, .int .i64 d.office, .int .i64 d.hour, .int .i64 d.inn, .int .i64 d.out, .int .i64 d.store, .string d.prev, .int .i64 d.e, .int .i64 d.s] 63))
            go_wp2_with (first | (refine wpList_load_rowW (by first | (go_simp; done) | rfl) 63 _ rfl _ rfl 63 _ _ _ (HR2.out.row 1 rfl) undCm rfl infoCm ?_) | (refine wpList_load_rowW (by first | (go_simp; done) | rfl) 63 _ rfl _ rfl 63 _ _ _ (HR2.out.row 2 rfl) undCm rfl infoCm ?_))
            have HL1 : Hid (LArg RC 8 (.slice (some ⟨w3.heap.size, 0, none⟩) 2 2) [c, d] (w3.alloc (.cells #[.int .i64 c.office, .int .i64 c.hour, .int .i64 c.inn, .int .i64 c.out, .int .i64 c.store, .string c.prev, .int .i64 c.e, .int .i64 c.s, .int .i64 d.office, .int .i64 d.hour, .int .i64 d.inn, .int .i64 d.out, .int .i64 d.store, .string d.prev, .int .i64 d.e, .int .i64 d.s] 63))) := Lib.hid (larg_rowC (l := [c, d]) (heap_alloc_new _ _) (by
              intro x hx
              simp only [List.mem_cons, List.not_mem_nil, or_false] at hx
              rcases hx with rfl | rfl
              all_goals assumption) (by simp))
            have hgeb : w.heap.size ≤ w3.heap.size := HR2.out.below.size
            have hne : w3.heap.size ≠ w.heap.size := (Nat.ne_of_lt (blk_lt (HR2.out.row 0 rfl))).symm
            generalize (w3.alloc (.cells #[.int .i64 c.office, .int .i64 c.hour, .int .i64 c.inn, .int .i64 c.out, .int .i64 c.store, .string c.prev, .int .i64 c.e, .int .i64 c.s, .int .i64 d.office, .int .i64 d.hour, .int .i64 d.inn, .int .i64 d.out, .int .i64 d.store, .string d.prev, .int .i64 d.e, .int .i64 d.s] 63)) = w6 at *
            generalize w3.heap.size = bs at *
            refine (proof_any (j : Int) 0 (some ⟨bs, 0, none⟩) 2 2 _).mono ?_
            rintro e w7 ⟨rfl, hb7⟩
            have HR7 := Lib.hid (HR4.out.step hb7)
            have HL7 := Lib.hid (HL1.out.below stays_RC hb7)
            clear hb7 HL1 HR4 HR2
            go_wp2_with (refine wpList_store_row rfl 40 _ _ rfl w.heap.size #[.int .i64 (j : Int), .int .i64 0, .slice (some ⟨bs, 0, none⟩) 2 2, .int .i64 0, .int .i64 0, .int .i64 0, .int .i64 0, .int .i64 0, .int .i64 0] rfl rfl 40 #[.int .i64 0, .int .i64 0, .slice none 0 0, .int .i64 0, .int .i64 0, .int .i64 0, .int .i64 0, .int .i64 0, .int .i64 0] (HR7.out.row 0 rfl) infoBl rfl (by simp [Value.oneCell']) ?_)
            have HRZ := Lib.hid (HR7.out.set (i := 0) (cs' := #[.int .i64 (j : Int), .int .i64 0, .slice (some ⟨bs, 0, none⟩) 2 2, .int .i64 0, .int .i64 0, .int .i64 0, .int .i64 0, .int .i64 0, .int .i64 0]) rfl)
            exact bodyPost_ret (v := .tuple #[.agg #[.int .i64 (j : Int), .int .i64 0, .slice (some ⟨bs, 0, none⟩) 2 2, .int .i64 0, .int .i64 0, .int .i64 0, .int .i64 0, .int .i64 0, .int .i64 0], .bool true]) (Eq.trans (results_row_tmp rfl _ _ w.heap.size 40 #[.int .i64 (j : Int), .int .i64 0, .slice (some ⟨bs, 0, none⟩) 2 2, .int .i64 0, .int .i64 0, .int .i64 0, .int .i64 0, .int .i64 0, .int .i64 0] (0, 0) _ rfl (HRZ.out.row 0 rfl) undBl rfl infoBl) rfl) rfl (retF_some (p := zeroP) HF.out (larg_setRow HL7.out hne _) hgeb HRZ.out.below)
          | none =>
            rw [show fM (splitF L) c.hour = none by unfold fM; rw [hs]; rfl] at hlk
            dsimp only [Option.getD_none, Option.isSome_none] at hlk
            have HK4 := Lib.hid (HK3.out.alloc (.cells #[.int .i64 0, .int .i64 0, .int .i64 0, .int .i64 0, .int .i64 0, .string ⟨#[]⟩, .int .i64 0, .int .i64 0] 63))
            have HN2 : Hid (∀ (i : Nat) (x : CV), i < k + 1 → L[i]? = some x → splitF L x.hour = none) := Lib.hid (fun i y hi hy => by
              by_cases e : i = k
              · subst e; rw [HC.out] at hy; cases hy; exact hs
              · exact HNO.out i y (by omega) hy)
            clear hs HK3
            go_upto_region 17 with fail
            clear hlk c1
            generalize w2.alloc (.cells #[.int .i64 0, .int .i64 0, .int .i64 0, .int .i64 0, .int .i64 0, .string ⟨#[]⟩, .int .i64 0, .int .i64 0] 63) = w3 at *
            go_wp2_with fail
            go_roundw
            case rel => exact ⟨k + 1, by omega, by go_num, HN2.out, HK4.out.take 1⟩
            case measure => simp [Go.RowKit.intOf]; omega
        · obtain rfl : k = L.length := by omega
          have HF : Hid (two (j : Int) 0 (first2 forkB L L) = none) := Lib.hid (by rw [forkF_none HNO.out]; rfl)
          have HR2 := Lib.hid HK2.out.rows
          clear hlt hk HK2
          go_wp2_with (refine wpList_store_row rfl 40 _ _ rfl w.heap.size #[.int .i64 0, .int .i64 0, .slice none 0 0, .int .i64 0, .int .i64 0, .int .i64 0, .int .i64 0, .int .i64 0, .int .i64 0] rfl rfl 40 #[.int .i64 0, .int .i64 0, .slice none 0 0, .int .i64 0, .int .i64 0, .int .i64 0, .int .i64 0, .int .i64 0, .int .i64 0] (HR2.out.row 0 rfl) infoBl rfl (by simp [Value.oneCell']) ?_)
          have HRZ := Lib.hid (HR2.out.set (i := 0) (cs' := #[.int .i64 0, .int .i64 0, .slice none 0 0, .int .i64 0, .int .i64 0, .int .i64 0, .int .i64 0, .int .i64 0, .int .i64 0]) rfl)
          exact bodyPost_ret (v := .tuple #[.agg #[.int .i64 0, .int .i64 0, .slice none 0 0, .int .i64 0, .int .i64 0, .int .i64 0, .int .i64 0, .int .i64 0, .int .i64 0], .bool false]) (Eq.trans (results_row_tmp rfl _ _ w.heap.size 40 #[.int .i64 0, .int .i64 0, .slice none 0 0, .int .i64 0, .int .i64 0, .int .i64 0, .int .i64 0, .int .i64 0, .int .i64 0] (0, 0) _ rfl (HRZ.out.row 0 rfl) undBl rfl infoBl) rfl) rfl (retF_none HF.out HRZ.out.below)
end Go.Proofs.YtjbjpkhibcnenaaGreatDoor

