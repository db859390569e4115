/- Texts merged: AFork ANewL -/
import Derived.Test.YtjbjpkhibcnenaaGreatDoorAForkL
import Derived.Test.YtjbjpkhibcnenaaGreatDoorAFindH
import Derived.Maps.AppendAt
/- audit.Find: fork. -/
namespace Go.Proofs.YtjbjpkhibcnenaaGreatDoor
set_option maxRecDepth 100000
set_option maxHeartbeats 8000000
open Go.RowKit
theorem wpList_neqV {P : Program} {Q : Exit → Act → World → Prop} {a : Act} {w : World} {ops : Array Oper} {rest : List Oper} {o : Oper} (hgd : Region.wanted o (yielded ops a.tmps) = true) {t u : TypeId} {x y : Operand} (_ho : o.op = .binOp .neq t x y u) (v : Value) (hx : (execOp a.eval o).run P w = .ok (.value v) w) (h : wpList P ops Q rest (a.put o.dst v) w) : wpList P ops Q (o :: rest) a w :=
 wpList_step fun K hk => by
  rw [if_pos hgd]; unfold Oper.wp; rw [hx]; exact hk _ _ h
theorem undMC : Tryz.prog.underlying 103 = some (.map 3 63) := by kernel_rfl
theorem zeroCl (w : World) : (zeroValue 63).run Tryz.prog w = .ok (.agg #[(), (), (), (), (), .string ⟨#[]⟩, (), ()]) w := by kernel_rfl
structure FK (w : World) (vs : List Value) (n : Nat) (fs ss : Int → Option Value) (rs : List (Nat × Obj)) (c : World) : Prop where
 rows : RowsS w rs c
 m1 : MapF (.agg #[(), (), (), (), (), .string ⟨#[]⟩, (), ()]) vs c (w.heap.size + 1) n fs
 m2 : MapF (.agg #[(), (), (), (), (), .string ⟨#[]⟩, (), ()]) vs c (w.heap.size + 1 + 1) n ss
 ne : ∀ p ∈ rs, p.1 ≠ w.heap.size + 1 ∧ p.1 ≠ w.heap.size + 1 + 1
theorem FK.step {w c c' : World} {vs : List Value} {n : Nat} {fs ss : Int → Option Value} {rs : List (Nat × Obj)} (h : FK w vs n fs ss rs c) (hb : Below c.heap.size c c') : FK w vs n fs ss rs c' :=
 ⟨h.rows.step hb, h.m1.below hb, h.m2.below hb, h.ne⟩
theorem FK.take {w c : World} {vs : List Value} {n : Nat} {fs ss : Int → Option Value} {rs : List (Nat × Obj)} (h : FK w vs n fs ss rs c) (k : Nat) : FK w vs n fs ss (rs.take k) c :=
 ⟨h.rows.take k, h.m1, h.m2, fun p hp => h.ne p (List.mem_of_mem_take hp)⟩
theorem FK.mono {w c : World} {vs : List Value} {n m : Nat} {fs ss : Int → Option Value} {rs : List (Nat × Obj)} (h : FK w vs n fs ss rs c) (hm : n ≤ m) : FK w vs m fs ss rs c :=
 ⟨h.rows, h.m1.mono hm, h.m2.mono hm, h.ne⟩
theorem FK.alloc {w c : World} {vs : List Value} {n : Nat} {fs ss : Int → Option Value} {rs : List (Nat × Obj)} (h : FK w vs n fs ss rs c) (o : Obj) : FK w vs n fs ss (rs ++ [(c.heap.size, o)]) (c.alloc o) :=
 have hb : Below c.heap.size c (c.alloc o) := (Below.refl _ _).alloc (Nat.le_refl _) o
 ⟨h.rows.alloc o, h.m1.below hb, h.m2.below hb, fun p hp => by
  rcases List.mem_append.1 hp with hp | hp
  · exact h.ne p hp
  ·
   have e : p = (c.heap.size, o) := by simpa using hp
   subst e
   exact ⟨(Nat.ne_of_lt h.m1.lt).symm, (Nat.ne_of_lt h.m2.lt).symm⟩⟩
theorem RowsS.grownM {w c c' : World} {rs : List (Nat × Obj)} {mb : Nat} (h : RowsS w rs c) (hg : c.grownBy c' (some mb)) (hw : w.heap.size ≤ mb) (hn : ∀ p ∈ rs, p.1 ≠ mb) : RowsS w rs c' :=
 ⟨fun i p hp => (hg.block p.1 (blk_lt (h.rows i p hp)) (by simp [hn p (List.mem_of_getElem? hp)])).trans (h.rows i p hp), h.below.grown hg h.below.size (fun k e => by cases e; exact hw), h.ge, h.ne⟩
theorem FK.put1 {w c : World} {vs : List Value} {n : Nat} {fs ss : Int → Option Value} {rs : List (Nat × Obj)} (h : FK w vs n fs ss rs c) {t : Int} (ht : I64 t) {v : Value} (hv : v ∈ vs) (hn : n < maxLen) :
 ∃ c', (Instr.mapUpdate 103 (.map (some (w.heap.size + 1))) (.int .i64 t) v).run Tryz.prog c = .ok () c' ∧ FK w vs (n + 1) (fun s => if s = t then some v else fs s) ss rs c' := by
 obtain ⟨c', h1, h2, h3⟩ := h.m1.put undMC ht (Or.inr hv) hn; exact ⟨c', h1, h.rows.grownM h3 (by omega) (fun p hp => (h.ne p hp).1), h2, (h.m2.keep (h3.block _ h.m2.lt (by simp))).mono (Nat.le_succ _), h.ne⟩
theorem FK.put2 {w c : World} {vs : List Value} {n : Nat} {fs ss : Int → Option Value} {rs : List (Nat × Obj)} (h : FK w vs n fs ss rs c) {t : Int} (ht : I64 t) {v : Value} (hv : v ∈ vs) (hn : n < maxLen) :
 ∃ c', (Instr.mapUpdate 103 (.map (some (w.heap.size + 1 + 1))) (.int .i64 t) v).run Tryz.prog c = .ok () c' ∧ FK w vs (n + 1) fs (fun s => if s = t then some v else ss s) rs c' := by
 obtain ⟨c', h1, h2, h3⟩ := h.m2.put undMC ht (Or.inr hv) hn; exact ⟨c', h1, h.rows.grownM h3 (by omega) (fun p hp => (h.ne p hp).2), (h.m1.keep (h3.block _ h.m1.lt (by simp))).mono (Nat.le_succ _), h2, h.ne⟩
theorem FK.fn {w c : World} {vs : List Value} {n : Nat} {fs ss fs' ss' : Int → Option Value} {rs : List (Nat × Obj)} (h : FK w vs n fs ss rs c) (e1 : fs = fs') (e2 : ss = ss') : FK w vs n fs' ss' rs c := by subst e1; subst e2; exact h
def fM (f : Int → Option CV) : Int → Option Value := fun s => (f s).map aggC
theorem fM_put {f g : Int → Option CV} {t : Int} {c : CV} (h : g = fun s => if s = t then some c else f s) : (fun s => if s = t then some (aggC c) else fM f s) = fM g := by
 subst h
 funext s
 unfold fM; by_cases e : s = t <;> simp [e]
theorem splitF_mem {L : List CV} {h : Int} {d : CV} (hs : splitF L h = some d) : d ∈ L := by
 unfold splitF at hs
 split at hs
 · exact List.mem_of_find?_eq_some hs
 · cases hs
theorem forkF_some {L : List CV} {k : Nat} {c d : CV} (hn : ∀ (i : Nat) (x : CV), i < k → L[i]? = some x → splitF L x.hour = none) (hc : L[k]? = some c) (hd : splitF L c.hour = some d) : first2 forkB L L = some (c, d) := by
 rw [← forkF_is]; unfold forkF
 have e1 : L = L.take k ++ c :: L.drop (k + 1) := by
  obtain ⟨hk, e⟩ := List.getElem?_eq_some_iff.1 hc; rw [← e, List.getElem_cons_drop, List.take_append_drop]
 have h0 : (L.take k).findSome? (fun c => (splitF L c.hour).map fun d => (c, d)) = none := by
  rw [List.findSome?_eq_none_iff]; intro x hx; obtain ⟨i, hi⟩ := List.getElem?_of_mem hx; rw [List.getElem?_take] at hi
  split at hi
  · rw [hn i x (by assumption) hi]; rfl
  · cases hi
 have h2 : (L.take k ++ c :: L.drop (k + 1)).findSome? (fun c => (splitF L c.hour).map fun d => (c, d)) = some (c, d) := by
  rw [List.findSome?_append, h0, List.findSome?_cons, hd]
  rfl
 exact (congrArg (List.findSome? _) e1).trans h2
theorem forkF_none {L : List CV} (hn : ∀ (i : Nat) (x : CV), i < L.length → L[i]? = some x → splitF L x.hour = none) : first2 forkB L L = none := by
 rw [← forkF_is]; unfold forkF; rw [List.findSome?_eq_none_iff]; intro x hx; obtain ⟨i, hi⟩ := List.getElem?_of_mem hx; rw [hn i x (List.getElem?_eq_some_iff.1 hi).1 hi]
 rfl
theorem FK.look1 {w c : World} {vs : List Value} {n : Nat} {fs ss : Int → Option Value} {rs : List (Nat × Obj)} (h : FK w vs n fs ss rs c) {t : Int} (ht : I64 t) : (Instr.lookup 103 (.map (some (w.heap.size + 1))) (.int .i64 t) true).run Tryz.prog c = .ok (.tuple #[(fs t).getD (.agg #[(), (), (), (), (), .string ⟨#[]⟩, (), ()]), .bool (fs t).isSome]) c := h.m1.look_ok undMC (zeroCl c) ht
theorem FK.look2 {w c : World} {vs : List Value} {n : Nat} {fs ss : Int → Option Value} {rs : List (Nat × Obj)} (h : FK w vs n fs ss rs c) {t : Int} (ht : I64 t) : (Instr.lookup 103 (.map (some (w.heap.size + 1 + 1))) (.int .i64 t) true).run Tryz.prog c = .ok (.tuple #[(ss t).getD (.agg #[(), (), (), (), (), .string ⟨#[]⟩, (), ()]), .bool (ss t).isSome]) c := h.m2.look_ok undMC (zeroCl c) ht
theorem neqC (c f : CV) {w : World} {o : Oper} {ev : Operand → Value} {x y : Operand} {u : TypeId} (ho : o.op = .binOp .neq 63 x y u) (hx : ev x = .agg #[c.office, c.hour, c.inn, c.out, c.store, c.prev, c.e, c.s]) (hy : ev y = .agg #[f.office, f.hour, f.inn, f.out, f.store, f.prev, f.e, f.s]) : (execOp ev o).run Tryz.prog w = .ok (.value (.bool (decide (c ≠ f)))) w := by
 unfold execOp; by_cases h : c = f
 ·
  subst h; rw [decide_eq_false (by simp)]; go_simp; (try simp)
 ·
  rw [decide_eq_true h]; go_simp; intro a1 a2 a3 a4 a5 a6 a7 a8; exact h (cvExt a1 a2 a3 a4 a5 a6 a7 a8)
theorem fork_any (jb sb j : Nat) (ao : Option Addr) (ko : Nat) (L : List CV) (last : Int) (w : World) (hS : SOf sb jb j ao ko L last w) :
 Calls Tryz.prog 24 #[.pointer (some ⟨sb, 0, none⟩), (j : Int)] w (RetF (two (j : Int) 0 (first2 forkB L L)) w) := by
 have hmm := @run_makeMap Tryz.prog; have HSO := hD hS; have hj3 := hS.j3; have hj3i : (j : Int) < 3 := by omega
 have hll := hS.ll; have hll2 : L.length ≤ 1000 := hS.ll; clear hS; go_enter Tryz.func24, Tryz.ntmps24; go_upto_region 3 with fail; clear hmm; have s1 : (w.alloc (.cells #[(), (), .slice none 0 0, (), (), (), (), (), ()] 40)).heap.size = w.heap.size + 1 := by simp
 have s2 : ((w.alloc (.cells #[(), (), .slice none 0 0, (), (), (), (), (), ()] 40)).alloc (.map #[] 0)).heap.size = w.heap.size + 1 + 1 := by simp
 have HK : Hid (FK w (L.map aggC) (0) (fun _ => none) (fun _ => none) [(w.heap.size, .cells #[(), (), .slice none 0 0, (), (), (), (), (), ()] 40)] (((w.alloc (.cells #[(), (), .slice none 0 0, (), (), (), (), (), ()] 40)).alloc (.map #[] 0)).alloc (.map #[] 0))) := hD (by
  have b1 : Below (w.alloc (.cells #[(), (), .slice none 0 0, (), (), (), (), (), ()] 40)).heap.size (w.alloc (.cells #[(), (), .slice none 0 0, (), (), (), (), (), ()] 40)) ((w.alloc (.cells #[(), (), .slice none 0 0, (), (), (), (), (), ()] 40)).alloc (.map #[] 0)) := (Below.refl _ _).alloc (Nat.le_refl _) _; have b2 : Below ((w.alloc (.cells #[(), (), .slice none 0 0, (), (), (), (), (), ()] 40)).alloc (.map #[] 0)).heap.size ((w.alloc (.cells #[(), (), .slice none 0 0, (), (), (), (), (), ()] 40)).alloc (.map #[] 0)) (((w.alloc (.cells #[(), (), .slice none 0 0, (), (), (), (), (), ()] 40)).alloc (.map #[] 0)).alloc (.map #[] 0)) := (Below.refl _ _).alloc (Nat.le_refl _) _; refine ⟨(((RowsS.nil w).alloc (.cells #[(), (), .slice none 0 0, (), (), (), (), (), ()] 40)).step b1).step b2, ?_, ?_, fun p hp => ?_⟩
  ·
   have := (MapF.made (.agg #[(), (), (), (), (), .string ⟨#[]⟩, (), ()]) (L.map aggC) (w.alloc (.cells #[(), (), .slice none 0 0, (), (), (), (), (), ()] 40))).below b2; rw [s1] at this; exact this
  ·
   have := MapF.made (.agg #[(), (), (), (), (), .string ⟨#[]⟩, (), ()]) (L.map aggC) ((w.alloc (.cells #[(), (), .slice none 0 0, (), (), (), (), (), ()] 40)).alloc (.map #[] 0)); rw [s2] at this; exact this
  ·
   have : p = (w.heap.size, .cells #[(), (), .slice none 0 0, (), (), (), (), (), ()] 40) := by simpa using hp
   subst this
   exact ⟨by show w.heap.size ≠ _; omega, by show w.heap.size ≠ _; omega⟩)
 clear s1 s2; generalize (((w.alloc (.cells #[(), (), .slice none 0 0, (), (), (), (), (), ()] 40)).alloc (.map #[] 0)).alloc (.map #[] 0)) = w0 at *; have hcj := (HSO.out.below HK.out.rows.below).cj; go_wp2_with fail; clear hcj; go_loopw [27] (fun iv wx => ∃ k : Nat, k ≤ L.length ∧ iv = .int .i64 k ∧ FK w (L.map aggC) (k) (fM (firstF (L.take (k)))) (fM (splitF (L.take (k)))) [(w.heap.size, .cells #[(), (), .slice none 0 0, (), (), (), (), (), ()] 40)] wx) (fun iv _ => L.length - (Go.RowKit.intOf iv).toNat)
 case atStart => exact ⟨0, Nat.zero_le _, rfl, HK.out⟩
 case round =>
  obtain ⟨k, hk, rfl, hr⟩ := hrel; have HK1 := hD hr; clear hr HK; by_cases hlt : k < L.length
  ·
   obtain ⟨c, hc⟩ : ∃ c, L[k]? = some c := ⟨_, List.getElem?_eq_getElem hlt⟩; obtain ⟨-, hh0, hh1, -⟩ := HSO.out.hk c (List.mem_of_getElem? hc); have hla := HSO.out.la; have hI : I64 c.hour := ⟨by omega, by omega⟩; have HI := hD hI; have HVM : Hid (aggC c ∈ L.map aggC) := hD (List.mem_map.2 ⟨c, List.mem_of_getElem? hc, rfl⟩); obtain ⟨b, o, cs, rfl, hbl, -, hrg, hcs, -⟩ := HSO.out.l.at hc; unfold cellsC at hcs; subst hcs; have HRG := hD (rangeAt_below hrg HK1.out.rows.below hbl); have HC := hD hc; have HK2 := hD (HK1.out.alloc (.cells #[c.office, c.hour, c.inn, c.out, c.store, c.prev, c.e, c.s] 63)); clear hc hrg HK1 hla hI hh0 hh1; go_upto_region 6 with (refine lRG HRG.out undCm infoCm ?_); clear HRG; generalize wr.alloc (.cells #[c.office, c.hour, c.inn, c.out, c.store, c.prev, c.e, c.s] 63) = w2 at *; generalize wr.heap.size = bC at *; have c1 := HK2.out.rows.cell 1 1 rfl rfl; have hlk := HK2.out.look1 HI.out
   cases hf : firstF (L.take k) c.hour with
   | none =>
    rw [show fM (firstF (L.take k)) c.hour = none by unfold fM; rw [hf]; rfl] at hlk; dsimp only [Option.getD_none, Option.isSome_none] at hlk; obtain ⟨e1, e2⟩ := firstF_new HC.out hf; have HE1 := hD (fM_put e1); have HE2 : Hid (fM (splitF (L.take k)) = fM (splitF (L.take (k + 1)))) := hD (by rw [e2]); have HK3 := hD (HK2.out.alloc (.cells #[(), (), (), (), (), .string ⟨#[]⟩, (), ()] 63)); clear hf e1 e2; go_upto_region 8 with fail; clear hlk c1; generalize w2.alloc (.cells #[(), (), (), (), (), .string ⟨#[]⟩, (), ()] 63) = w3 at *; have c1 := HK3.out.rows.cell 1 1 rfl rfl; obtain ⟨w4, hup, hk4⟩ := HK3.out.put1 HI.out HVM.out (by unfold maxLen; omega); have HK4 := hD hk4; unfold aggC at hup; clear hk4; go_wp2_with (first | (refine lRW (HK3.out.rows.row 1 rfl) undCm infoCm ?_)); go_roundw
    case rel => exact ⟨k + 1, by omega, by go_num, ((HK4.out.take 1).mono (by omega)).fn (HE1.out) (HE2.out)⟩
    case measure => simp [Go.RowKit.intOf]; omega
   | some f =>
    rw [show fM (firstF (L.take k)) c.hour = some (aggC f) by unfold fM; rw [hf]; rfl] at hlk; dsimp only [Option.getD_some, Option.isSome_some, aggC] at hlk; obtain ⟨e1, e2, e3⟩ := firstF_old HC.out hf; have HE1 : Hid (fM (firstF (L.take k)) = fM (firstF (L.take (k + 1)))) := hD (by rw [e1]); have HK3 := hD (HK2.out.alloc (.cells #[f.office, f.hour, f.inn, f.out, f.store, f.prev, f.e, f.s] 63)); have HQ2 := hD e2; have HQ3 := hD e3; clear hf e1 e2 e3; go_upto_region 9 with fail; clear hlk c1; generalize w2.alloc (.cells #[f.office, f.hour, f.inn, f.out, f.store, f.prev, f.e, f.s] 63) = w3 at *; generalize w2.heap.size = bF at *; have c1 := HK3.out.rows.cell 1 1 rfl rfl; have hlk := HK3.out.look2 HI.out
    cases hs : splitF (L.take k) c.hour with
    | some y =>
     rw [show fM (splitF (L.take k)) c.hour = some (aggC y) by unfold fM; rw [hs]; rfl] at hlk; dsimp only [Option.getD_some, Option.isSome_some, aggC] at hlk; have HE2 : Hid (fM (splitF (L.take k)) = fM (splitF (L.take (k + 1)))) := hD (by rw [HQ3.out (by rw [hs]; simp)]); have HK4 := hD (HK3.out.alloc (.cells #[y.office, y.hour, y.inn, y.out, y.store, y.prev, y.e, y.s] 63)); clear hs HQ2 HQ3; go_upto_region 10 with fail; clear hlk c1; generalize w3.alloc (.cells #[y.office, y.hour, y.inn, y.out, y.store, y.prev, y.e, y.s] 63) = w4 at *; go_wp2_with fail; go_roundw
     case rel => exact ⟨k + 1, by omega, by go_num, ((HK4.out.take 1).mono (by omega)).fn (HE1.out) (HE2.out)⟩
     case measure => simp [Go.RowKit.intOf]; omega
    | none =>
     rw [show fM (splitF (L.take k)) c.hour = none by unfold fM; rw [hs]; rfl] at hlk; dsimp only [Option.getD_none, Option.isSome_none] at hlk; have HK4 := hD (HK3.out.alloc (.cells #[(), (), (), (), (), .string ⟨#[]⟩, (), ()] 63)); have HS0 := hD hs; clear hs; go_upto_region 10 with fail; clear hlk c1; generalize w3.alloc (.cells #[(), (), (), (), (), .string ⟨#[]⟩, (), ()] 63) = w4 at *; by_cases hne : c ≠ f
     ·
      have HNE : Hid (decide (c ≠ f) = true) := hD (decide_eq_true hne); have HE2 := hD (fM_put (HQ2.out ⟨HS0.out, hne⟩)); clear hne HQ2 HQ3; go_upto_region 11 with (first | (refine lRW (HK4.out.rows.row 1 rfl) undCm infoCm ?_) | (refine lRW (HK4.out.rows.row 2 rfl) undCm infoCm ?_) | (refine wpList_neqV (by first | (go_simp; done) | rfl) rfl _ ((neqC c f rfl rfl rfl).trans (by rw [HNE.out])) ?_)); have c1 := HK4.out.rows.cell 1 1 rfl rfl; obtain ⟨w5, hup, hk5⟩ := HK4.out.put2 HI.out HVM.out (by unfold maxLen; omega); have HK5 := hD hk5; unfold aggC at hup; clear hk5; go_wp2_with (first | (refine lRW (HK4.out.rows.row 1 rfl) undCm infoCm ?_)); go_roundw
      case rel => exact ⟨k + 1, by omega, by go_num, ((HK5.out.take 1).mono (by omega)).fn (HE1.out) (HE2.out)⟩
      case measure => simp [Go.RowKit.intOf]; omega
     ·
      have HNE : Hid (decide (c ≠ f) = false) := hD (decide_eq_false hne); have HE2 : Hid (fM (splitF (L.take k)) = fM (splitF (L.take (k + 1)))) := hD (by rw [HQ3.out (fun h => hne h.2)]); clear hne HQ2 HQ3; go_wp2_with (first | (refine lRW (HK4.out.rows.row 1 rfl) undCm infoCm ?_) | (refine lRW (HK4.out.rows.row 2 rfl) undCm infoCm ?_) | (refine wpList_neqV (by first | (go_simp; done) | rfl) rfl _ ((neqC c f rfl rfl rfl).trans (by rw [HNE.out])) ?_)); go_roundw
      case rel => exact ⟨k + 1, by omega, by go_num, ((HK4.out.take 1).mono (by omega)).fn (HE1.out) (HE2.out)⟩
      case measure => simp [Go.RowKit.intOf]; omega
  ·
   obtain rfl : k = L.length := by omega
   rw [List.take_length] at HK1; clear hlt hk; have hcj := (HSO.out.below HK1.out.rows.below).cj; go_wp2_with fail; clear hcj; rename World => wy; go_loopw [70] (fun iv wx => ∃ k : Nat, k ≤ L.length ∧ iv = .int .i64 k ∧ (∀ (i : Nat) (x : CV), i < k → L[i]? = some x → splitF L x.hour = none) ∧ FK w (L.map aggC) (L.length) (fM (firstF L)) (fM (splitF L)) [(w.heap.size, .cells #[(), (), .slice none 0 0, (), (), (), (), (), ()] 40)] wx) (fun iv _ => L.length - (Go.RowKit.intOf iv).toNat)
   case atStart => exact ⟨0, Nat.zero_le _, rfl, fun i x h => absurd h (Nat.not_lt_zero _), HK1.out⟩
   case round =>
    obtain ⟨k, hk, rfl, hno, hr⟩ := hrel; have HNO := hD hno; have HK2 := hD hr; clear hr HK1 hno; by_cases hlt : k < L.length
    ·
     obtain ⟨c, hc⟩ : ∃ c, L[k]? = some c := ⟨_, List.getElem?_eq_getElem hlt⟩; obtain ⟨-, hh0, hh1, -⟩ := HSO.out.hk c (List.mem_of_getElem? hc); have hla := HSO.out.la; have hI : I64 c.hour := ⟨by omega, by omega⟩; have HI := hD hI; have hcg := good_of HSO.out.l (List.mem_of_getElem? hc); obtain ⟨b, o, cs, rfl, hbl, -, hrg, hcs, -⟩ := HSO.out.l.at hc; unfold cellsC at hcs; subst hcs; have HRG := hD (rangeAt_below hrg HK2.out.rows.below hbl); have HC := hD hc; have HK3 := hD (HK2.out.alloc (.cells #[c.office, c.hour, c.inn, c.out, c.store, c.prev, c.e, c.s] 63)); clear hc hrg HK2 hla hI hh0 hh1; go_upto_region 16 with (refine lRG HRG.out undCm infoCm ?_); clear HRG; generalize wr.alloc (.cells #[c.office, c.hour, c.inn, c.out, c.store, c.prev, c.e, c.s] 63) = w2 at *; generalize wr.heap.size = bC at *; have c1 := HK3.out.rows.cell 1 1 rfl rfl; have hlk := HK3.out.look2 HI.out
     cases hs : splitF L c.hour with
     | some d =>
      rw [show fM (splitF L) c.hour = some (aggC d) by unfold fM; rw [hs]; rfl] at hlk; dsimp only [Option.getD_some, Option.isSome_some, aggC] at hlk; have hdg := good_of HSO.out.l (splitF_mem hs); have HF : Hid (two (j : Int) 0 (first2 forkB L L) = some ⟨(j : Int), 0, [c, d], zeroP⟩) := hD (by rw [forkF_some HNO.out HC.out hs]; rfl); have HR2 := hD (HK3.out.rows.alloc (.cells #[d.office, d.hour, d.inn, d.out, d.store, d.prev, d.e, d.s] 63)); clear hs HK3; go_upto_region 18 with fail; clear hlk c1; generalize w2.alloc (.cells #[d.office, d.hour, d.inn, d.out, d.store, d.prev, d.e, d.s] 63) = w3 at *; generalize w2.heap.size = bD at *; have HR4 := hD (HR2.out.alloc (.cells #[c.office, c.hour, c.inn, c.out, c.store, c.prev, c.e, c.s, d.office, d.hour, d.inn, d.out, d.store, d.prev, d.e, d.s] 63)); go_wp2_with (first | (refine lRW (HR2.out.row 1 rfl) undCm infoCm ?_) | (refine lRW (HR2.out.row 2 rfl) undCm infoCm ?_))
      have HL1 : Hid (LArg RC 8 (.slice (some ⟨w3.heap.size, 0, none⟩) 2 2) [c, d] (w3.alloc (.cells #[c.office, c.hour, c.inn, c.out, c.store, c.prev, c.e, c.s, d.office, d.hour, d.inn, d.out, d.store, d.prev, d.e, d.s] 63))) := hD (larg_rowC (l := [c, d]) (heap_alloc_new _ _) (by
       intro x hx; simp only [List.mem_cons, List.not_mem_nil, or_false] at hx; rcases hx with rfl | rfl
       all_goals assumption) (by simp))
      have hgeb : w.heap.size ≤ w3.heap.size := HR2.out.below.size; have hne : w3.heap.size ≠ w.heap.size := (Nat.ne_of_lt (blk_lt (HR2.out.row 0 rfl))).symm; generalize (w3.alloc (.cells #[c.office, c.hour, c.inn, c.out, c.store, c.prev, c.e, c.s, d.office, d.hour, d.inn, d.out, d.store, d.prev, d.e, d.s] 63)) = w6 at *; generalize w3.heap.size = bs at *; refine (proof_any (j : Int) 0 (some ⟨bs, 0, none⟩) 2 2 _).mono ?_; rintro e w7 ⟨rfl, hb7⟩; have HR7 := hD (HR4.out.step hb7); have HL7 := hD (HL1.out.below stays_RC hb7); clear hb7 HL1 HR4 HR2; go_wp2_with (refine sRW #[(j : Int), (), .slice (some ⟨bs, 0, none⟩) 2 2, (), (), (), (), (), ()] (HR7.out.row 0 rfl) infoBl ?_); have HRZ := hD (HR7.out.set (i := 0) (cs' := #[(j : Int), (), .slice (some ⟨bs, 0, none⟩) 2 2, (), (), (), (), (), ()]) rfl); exact bpr (HRZ.out.row 0 rfl) undBl infoBl (retF_some (p := zeroP) HF.out (larg_setRow HL7.out hne _) hgeb HRZ.out.below)
     | none =>
      rw [show fM (splitF L) c.hour = none by unfold fM; rw [hs]; rfl] at hlk; dsimp only [Option.getD_none, Option.isSome_none] at hlk; have HK4 := hD (HK3.out.alloc (.cells #[(), (), (), (), (), .string ⟨#[]⟩, (), ()] 63))
      have HN2 : Hid (∀ (i : Nat) (x : CV), i < k + 1 → L[i]? = some x → splitF L x.hour = none) := hD (fun i y hi hy => by
       by_cases e : i = k
       · subst e; rw [HC.out] at hy; cases hy; exact hs
       · exact HNO.out i y (by omega) hy)
      clear hs HK3; go_upto_region 17 with fail; clear hlk c1; generalize w2.alloc (.cells #[(), (), (), (), (), .string ⟨#[]⟩, (), ()] 63) = w3 at *; go_wp2_with fail; go_roundw
      case rel => exact ⟨k + 1, by omega, by go_num, HN2.out, HK4.out.take 1⟩
      case measure => simp [Go.RowKit.intOf]; omega
    ·
     obtain rfl : k = L.length := by omega
     have HF : Hid (two (j : Int) 0 (first2 forkB L L) = none) := hD (by rw [forkF_none HNO.out]; rfl); have HR2 := hD HK2.out.rows; clear hlt hk HK2; go_wp2_with (refine sRW #[(), (), .slice none 0 0, (), (), (), (), (), ()] (HR2.out.row 0 rfl) infoBl ?_); have HRZ := hD (HR2.out.set (i := 0) (cs' := #[(), (), .slice none 0 0, (), (), (), (), (), ()]) rfl); exact bpr (HRZ.out.row 0 rfl) undBl infoBl (retF_none HF.out HRZ.out.below)
end Go.Proofs.YtjbjpkhibcnenaaGreatDoor
/- audit.newSearch: a search that grows: slices of its own, side by side. -/
namespace Go.Proofs.YtjbjpkhibcnenaaGreatDoor
open Go.RowKit
def flC (l : List CV) : List Value := l.flatMap cellsC
def flP (l : List PV) : List Value := l.flatMap cellsP
theorem flC_len (l : List CV) : (flC l).length = l.length * 8 := by
 unfold flC
 induction l with
 | nil => rfl
 | cons s l ih =>
  have h8 : (cellsC s).length = 8 := rfl; rw [List.flatMap_cons, List.length_append, ih, h8, List.length_cons]; omega
theorem flP_len (l : List PV) : (flP l).length = l.length * 6 := by
 unfold flP
 induction l with
 | nil => rfl
 | cons s l ih =>
  have h8 : (cellsP s).length = 6 := rfl; rw [List.flatMap_cons, List.length_append, ih, h8, List.length_cons]; omega
theorem flatP_get : ∀ (l : List PV) (k : Nat) (x : PV), l[k]? = some x → ∀ j v, (cellsP x)[j]? = some v → (l.flatMap cellsP)[k * 6 + j]? = some v
 | [], k, x, h, _, _, _ => by simp at h
 | y :: l, 0, x, h, j, v, hj => by
  simp only [List.getElem?_cons_zero, Option.some.injEq] at h; subst h; have hl := (List.getElem?_eq_some_iff.1 hj).1; rw [List.flatMap_cons, Nat.zero_mul, Nat.zero_add, List.getElem?_append_left hl, hj]
 | y :: l, k + 1, x, h, j, v, hj => by
  have h8 : (cellsP y).length = 6 := rfl; rw [List.flatMap_cons, List.getElem?_append_right (by rw [h8]; omega), h8]; have e : (k + 1) * 6 + j - 6 = k * 6 + j := by omega
  rw [e]; exact flatP_get l k x (by simpa using h) j v hj
theorem larg_ownC {c : World} {base n : Nat} {v : Value} {l : List CV} (h : c.ownsRow base 63 8 v n (flC l)) (hx : ∀ x ∈ l, CGood x) : ∃ a k, v = .slice a l.length k ∧ LArg RC 8 (.slice a l.length k) l c := by
 have hn : n = l.length := by have := h.1; rw [flC_len] at this; omega
 subst hn; rcases h.2 with ⟨rfl, h0⟩ | ⟨g, cap, cur, rfl, _, hg, hc, hm, hs, ht⟩
 ·
  rw [h0]; refine ⟨none, 0, rfl, none, 0, by rw [h0], by omega, by unfold maxLen; omega, fun j x hj => ?_⟩; rw [List.eq_nil_of_length_eq_zero h0] at hj; simp at hj
 ·
  refine ⟨_, _, rfl, _, _, rfl, hc, hm, fun j x hj => ⟨g, 0, cellsC x, rfl, blk_lt hg, rfl, ?_, rfl, hx x (List.mem_of_getElem? hj)⟩⟩; intro i u hi; have h1 := cell_of_row _ _ (0 + j * 8 + i) _ _ _ hg; rw [← Array.getElem?_toList] at h1; refine h1.trans ?_; have h2 := flatC_get l j x hj i u hi; have h3 : (flC l)[j * 8 + i]? = some u := h2; rw [← ht, List.getElem?_take] at h3
  split at h3
  · rw [Nat.zero_add]; exact h3
  · cases h3
theorem larg_ownP {c : World} {base n : Nat} {v : Value} {l : List PV} (h : c.ownsRow base 38 6 v n (flP l)) (hx : ∀ x ∈ l, POk x) : ∃ a k, v = .slice a l.length k ∧ LArg RP 6 (.slice a l.length k) l c := by
 have hn : n = l.length := by have := h.1; rw [flP_len] at this; omega
 subst hn; rcases h.2 with ⟨rfl, h0⟩ | ⟨g, cap, cur, rfl, _, hg, hc, hm, hs, ht⟩
 ·
  rw [h0]; refine ⟨none, 0, rfl, none, 0, by rw [h0], by omega, by unfold maxLen; omega, fun j x hj => ?_⟩; rw [List.eq_nil_of_length_eq_zero h0] at hj; simp at hj
 ·
  refine ⟨_, _, rfl, _, _, rfl, hc, hm, fun j x hj => ⟨g, 0, cellsP x, rfl, blk_lt hg, rfl, ?_, rfl, hx x (List.mem_of_getElem? hj)⟩⟩; intro i u hi; have h1 := cell_of_row _ _ (0 + j * 6 + i) _ _ _ hg; rw [← Array.getElem?_toList] at h1; refine h1.trans ?_; have h2 := flatP_get l j x hj i u hi; have h3 : (flP l)[j * 6 + i]? = some u := h2; rw [← ht, List.getElem?_take] at h3
  split at h3
  · rw [Nat.zero_add]; exact h3
  · cases h3
theorem grown_of_below {c c' : World} (h : Below c.heap.size c c') (r : Option Nat) : c.grownBy c' r := ⟨h.os, h.tape, h.output, h.size, fun k hk _ => h.block k hk⟩
def tyQ (q : Nat) : TypeId := if q < 3 then 63 else 38
def szQ (q : Nat) : Nat := if q < 3 then 8 else 6
def upd {α : Type} (f : Nat → α) (q : Nat) (v : α) : Nat → α := fun r => if r = q then v else f r
theorem upd_same {α : Type} (f : Nat → α) (q : Nat) (v : α) : upd f q v q = v := if_pos rfl
theorem upd_other {α : Type} (f : Nat → α) {q r : Nat} (v : α) (h : r ≠ q) : upd f q v r = f r := if_neg h
def sRow (jp : Value) (vs : Nat → Value) (last : Int) : Array Value := #[jp, vs 0, vs 1, vs 2, vs 3, .int .i64 last]
theorem sRow_upd (jp : Value) (vs : Nat → Value) (last : Int) (v : Value) : ∀ q, q < 4 → (sRow jp vs last).setIfInBounds (1 + q) v = sRow jp (upd vs q v) last
 | 0, _ => rfl
 | 1, _ => rfl
 | 2, _ => rfl
 | 3, _ => rfl
structure NS (w : World) (jp : Value) (sb : Nat) (vs : Nat → Value) (ns : Nat → Nat) (xs : Nat → List Value) (last : Int) (c : World) : Prop where
 row : c.heap[sb]? = some (.cells (sRow jp vs last) 99 (0, 0))
 owns : ∀ q, q < 4 → c.ownsRow w.heap.size (tyQ q) (szQ q) (vs q) (ns q) (xs q)
 ne : ∀ q r, q < 4 → r < 4 → q ≠ r → ∀ g, (vs q).ownBlock = some g → (vs r).ownBlock ≠ some g
 nsb : ∀ q, q < 4 → (vs q).ownBlock ≠ some sb
 sbw : w.heap.size ≤ sb
 below : Below w.heap.size w c
section
variable {w : World} {jp : Value} {sb : Nat} {vs : Nat → Value} {ns : Nat → Nat} {xs : Nat → List Value} {last : Int} {c c' : World}
theorem NS.start (h : c.heap[sb]? = some (.cells #[jp, .slice none 0 0, .slice none 0 0, .slice none 0 0, .slice none 0 0, ()] 99 (0, 0))) (hs : w.heap.size ≤ sb) (hb : Below w.heap.size w c) : NS w jp sb (fun _ => .slice none 0 0) (fun _ => 0) (fun _ => []) 0 c :=
 ⟨h, fun q _ => World.ownsRow_nil _ _ _ _, fun q r _ _ _ g hg => by simp [Value.ownBlock] at hg, fun q _ => by simp [Value.ownBlock], hs, hb⟩
theorem NS.step (h : NS w jp sb vs ns xs last c) (hb : Below c.heap.size c c') : NS w jp sb vs ns xs last c' :=
 ⟨blk_below h.row hb (blk_lt h.row), fun q hq => (h.owns q hq).kept (grown_of_below hb none) (by cases (vs q).ownBlock <;> simp), h.ne, h.nsb, h.sbw, h.below.trans (hb.mono h.below.size)⟩
theorem NS.grownSelf (_h : NS w jp sb vs ns xs last c) (v : Value) (i : Nat) : c.grownBy (c.setCell ⟨sb, i, none⟩ v) (some sb) :=
 ⟨rfl, rfl, rfl, by simp, fun k _ hk => heap_setCell_other _ _ _ _ (fun e => hk (by rw [e]))⟩
theorem NS.setLast (h : NS w jp sb vs ns xs last c) (l2 : Int) : NS w jp sb vs ns xs l2 (c.setCell ⟨sb, 5, none⟩ (.int .i64 l2)) :=
 ⟨by rw [heap_setCell_same _ _ _ _ _ _ h.row]; rfl, fun q hq => (h.owns q hq).kept (h.grownSelf _ 5) (Or.inr (h.nsb q hq)), h.ne, h.nsb, h.sbw, h.below.grown (h.grownSelf _ 5) h.below.size (fun k e => by cases e; exact h.sbw)⟩
theorem NS.app (h : NS w jp sb vs ns xs last c) {q n' : Nat} (hq : q < 4) {v' : Value} {ys : List Value} (hg : c.grownBy c' (vs q).ownBlock) (ho : c'.ownsRow w.heap.size (tyQ q) (szQ q) v' n' ys) (hat : v'.ownBlock = (vs q).ownBlock ∨ v'.ownBlock = some c.heap.size) :
 c'.heap[sb]? = some (.cells (sRow jp vs last) 99 (0, 0)) ∧ NS w jp sb (upd vs q v') (upd ns q n') (upd xs q ys) last (c'.setCell ⟨sb, 1 + q, none⟩ v') := by
 have hsb := blk_lt h.row; have hrow : c'.heap[sb]? = some (.cells (sRow jp vs last) 99 (0, 0)) := (hg.block sb hsb (fun e => h.nsb q hq e.symm)).trans h.row; refine ⟨hrow, ?_⟩
 have hnv : v'.ownBlock ≠ some sb := by
  rcases hat with e | e
  · rw [e]; exact h.nsb q hq
  · rw [e]; intro e2; simp only [Option.some.injEq] at e2; omega
 have hgs : c'.grownBy (c'.setCell ⟨sb, 1 + q, none⟩ v') (some sb) := ⟨rfl, rfl, rfl, by simp, fun k _ hk => heap_setCell_other _ _ _ _ (fun e => hk (by rw [e]))⟩; have hlt : ∀ r, r < 4 → ∀ g, (vs r).ownBlock = some g → g < c.heap.size := fun r hr g e => ((h.owns r hr).lt g e).2; refine ⟨?_, fun r hr => ?_, fun a b ha hb hab g e1 e2 => ?_, fun r hr => ?_, h.sbw, ?_⟩
 · rw [heap_setCell_same _ _ _ _ _ _ hrow, sRow_upd _ _ _ _ q hq]
 ·
  by_cases e : r = q
  ·
   subst e; rw [upd_same, upd_same, upd_same]; exact ho.kept hgs (Or.inr hnv)
  ·
   rw [upd_other _ _ e, upd_other _ _ e, upd_other _ _ e]; refine ((h.owns r hr).kept hg ?_).kept hgs (Or.inr (h.nsb r hr))
   cases hv : (vs r).ownBlock with
   | none => exact Or.inl rfl
   | some g => exact Or.inr (fun e2 => h.ne r q hr hq e g hv e2.symm)
 ·
  by_cases ea : a = q
  ·
   subst ea; have eb : b ≠ a := fun x => hab x.symm; rw [upd_same] at e1; rw [upd_other _ _ eb] at e2; rcases hat with e | e
   · exact h.ne a b ha hb hab g (e.symm.trans e1) e2
   ·
    have := hlt b hb g e2; rw [e1] at e; simp only [Option.some.injEq] at e; omega
  ·
   rw [upd_other _ _ ea] at e1; by_cases eb : b = q
   ·
    subst eb; rw [upd_same] at e2; rcases hat with e | e
    · exact h.ne a b ha hb hab g e1 (e.symm.trans e2)
    ·
     have := hlt a ha g e1; rw [e2] at e; simp only [Option.some.injEq] at e; omega
   ·
    rw [upd_other _ _ eb] at e2; exact h.ne a b ha hb hab g e1 e2
 ·
  by_cases e : r = q
  · subst e; rw [upd_same]; exact hnv
  · rw [upd_other _ _ e]; exact h.nsb r hr
 · exact (h.below.grown hg h.below.size (fun k e => ((h.owns q hq).lt k e).1)).grown hgs (Nat.le_trans h.below.size hg.size) (fun k e => by cases e; exact h.sbw)
end
def xsQ (L : Nat → List CV) (V : List PV) (q : Nat) : List Value := if q < 3 then flC (L q) else if q = 3 then flP V else []
def nsQ (L : Nat → List CV) (V : List PV) (q : Nat) : Nat := if q < 3 then (L q).length else if q = 3 then V.length else 0
def lastN (J : JV) (l : List CV) : Int := (l.filter J.K).foldl (fun m c => max m c.hour) 0
theorem lastN_snoc {J : JV} {l : List CV} {k : Nat} {c : CV} (h : l[k]? = some c) : lastN J (l.take (k + 1)) = if J.K c = true then max (lastN J (l.take k)) c.hour else lastN J (l.take k) := by
 unfold lastN; rw [List.take_add_one, h, Option.toList_some, List.filter_append, List.foldl_append]
 cases hk : J.K c <;> simp [hk]
theorem clO_snoc {J : JV} {l : List CV} {k : Nat} {c : CV} (h : l[k]? = some c) (o : Int) : clO J (l.take (k + 1)) o = if J.K c = true ∧ c.office = o then clO J (l.take k) o ++ [c] else clO J (l.take k) o := by
 unfold clO; rw [List.take_add_one, h, Option.toList_some, List.filter_append]; by_cases e : J.K c = true ∧ c.office = o
 · simp [e.1, e.2]
 ·
  rw [if_neg e]; simp only [List.filter_cons, List.filter_nil, Bool.and_eq_true, decide_eq_true_eq]; rw [if_neg e, List.append_nil]
theorem lastN_ge {J : JV} : ∀ (l : List CV) (m : Int), m ≤ (l.filter J.K).foldl (fun m c => max m c.hour) m ∧ ∀ c ∈ l, J.K c = true → c.hour ≤ (l.filter J.K).foldl (fun m c => max m c.hour) m
 | [], m => ⟨Int.le_refl _, fun c hc => by simp at hc⟩
 | d :: l, m => by
  rw [List.filter_cons]
  cases hd : J.K d with
  | true =>
   rw [if_pos rfl, List.foldl_cons]; obtain ⟨h1, h2⟩ := lastN_ge (J := J) l (max m d.hour); refine ⟨by omega, fun c hc hk => ?_⟩; rcases List.mem_cons.1 hc with rfl | hc
   · omega
   · exact h2 c hc hk
  | false =>
   rw [if_neg (by decide)]; obtain ⟨h1, h2⟩ := lastN_ge (J := J) l m; refine ⟨h1, fun c hc hk => ?_⟩; rcases List.mem_cons.1 hc with rfl | hc
   · rw [hd] at hk; cases hk
   · exact h2 c hc hk
theorem lastN_le {J : JV} {B : Int} : ∀ (l : List CV) (m : Int), m ≤ B → (∀ c ∈ l, J.K c = true → c.hour ≤ B) → (l.filter J.K).foldl (fun m c => max m c.hour) m ≤ B
 | [], m, hm, _ => hm
 | d :: l, m, hm, h => by
  rw [List.filter_cons]; have ih := fun m2 hm2 => lastN_le (J := J) (B := B) l m2 hm2 (fun c hc => h c (List.mem_cons_of_mem _ hc))
  cases hd : J.K d with
  | true =>
   rw [if_pos rfl, List.foldl_cons]; have := h d (List.mem_cons_self ..) hd; exact ih _ (by omega)
  | false => rw [if_neg (by decide)]; exact ih _ hm
theorem brokeL_eq (J : JV) (L : List CV) (vows : List PV) (o : Int) : brokeV J L (vows.filter J.V) o = brokeL J L vows o := by
 unfold brokeV brokeL
 induction vows with
 | nil => rfl
 | cons p l ih =>
  rw [List.filter_cons, List.findSome?_cons]
  cases hp : J.V p with
  | true =>
   rw [if_pos rfl, List.findSome?_cons, ih]; by_cases e : p.office = o <;> simp [e]
  | false =>
   rw [if_neg (by decide), ih]; simp
end Go.Proofs.YtjbjpkhibcnenaaGreatDoor
