/- Texts merged: ASmall AApp APre -/
import Derived.Test.YtjbjpkhibcnenaaGreatDoorALawB
import Derived.Test.YtjbjpkhibcnenaaGreatDoorACheckD
/- bournelaw46.small returns true. -/
namespace Go.Proofs.YtjbjpkhibcnenaaGreatDoor
set_option maxRecDepth 100000
set_option maxHeartbeats 8000000
open Go.RowKit
def bsS : BsX := { nm := ⟨#[]⟩, k := 0, a1 := none, n1 := 0, c1 := 0, a3 := none, n3 := 0, c3 := 0, a4 := none, n4 := 0, c4 := 0, a5 := none, n5 := 0, c5 := 0, a6 := none, n6 := 0, c6 := 0, a7 := none, n7 := 0, c7 := 0, a8 := none, n8 := 0, c8 := 0 }
structure SM (br bb bn bq : Nat) (c : World) : Prop where
 room : c.heap[br]? = some (.cells #[.int .i64 100, .int .i64 100, .int .i64 100] 3 (0, 0))
 bas : c.heap[bb]? = some (.cells #[.string ⟨#[]⟩, .slice none 0 0, (), .slice none 0 0, .slice none 0 0, .slice none 0 0, .slice none 0 0, .slice none 0 0, .slice none 0 0, .slice (some ⟨br, 0, none⟩) 3 3, .int .i64 2] 31 (0, 0))
 nets : c.heap[bn]? = some (.cells #[(), (), (), (), (), ()] 53 (0, 0))
 pub : c.heap[bq]? = some (.cells #[.int .i64 5, .slice (some ⟨bn, 0, none⟩) 3 3, (), ()] 55 (0, 0))
 g : Glob c
 m : MLen c
theorem SM.step {br bb bn bq : Nat} {c c' : World} (h : SM br bb bn bq c) (hb : Below c.heap.size c c') : SM br bb bn bq c' :=
 ⟨blk_below h.room hb (blk_lt h.room), blk_below h.bas hb (blk_lt h.bas), blk_below h.nets hb (blk_lt h.nets), blk_below h.pub hb (blk_lt h.pub), h.g.below hb h.g.size, h.m.up hb⟩
theorem larg_int3 {c : World} {b : Nat} {x y z : Int} (h : c.heap[b]? = some (.cells #[.int .i64 x, .int .i64 y, .int .i64 z] 3 (0, 0))) (hx : ∀ u ∈ [x, y, z], I64 u) : LArg RInt 1 (.slice (some ⟨b, 0, none⟩) 3 3) [x, y, z] c := by
 refine ⟨some ⟨b, 0, none⟩, 3, rfl, Nat.le_refl _, by decide, fun j u hj => ⟨b, 0, [.int .i64 u], rfl, blk_lt h, rfl, ?_, rfl, hx u (List.mem_of_getElem? hj)⟩⟩; intro i v hi
 have hi0 : i = 0 := by
  have := (List.getElem?_eq_some_iff.1 hi).1; simp at this; omega
 subst hi0; have e : v = .int .i64 u := by simpa using hi.symm
 subst e; refine (cell_of_row _ _ (0 + j * 1 + 0) _ _ _ h).trans ?_; rw [Nat.zero_add, Nat.mul_one, Nat.add_zero, ← Array.getElem?_toList]; show ([x, y, z].map (Value.int .i64))[j]? = _; rw [List.getElem?_map, hj]
 rfl
theorem i64_100 : ∀ u ∈ [(100 : Int), 100, 100], I64 u := fun u hu => by
 simp only [List.mem_cons, List.not_mem_nil, or_false, or_self] at hu; subst hu; exact ⟨by decide, by decide⟩
theorem SM.lpub {br bb bn bq : Nat} {c : World} (h : SM br bb bn bq c) : LArg RPublic 4 (.slice (some ⟨bq, 0, none⟩) 1 1) [smPub] c := by
 have hn : LArg RSpan 2 (.slice (some ⟨bn, 0, none⟩) 3 3) [⟨0, 0⟩, ⟨0, 0⟩, ⟨0, 0⟩] c := larg_sums (n := 3) ⟨rfl, Nat.le_refl _, by decide, rfl, rfl⟩ h.nets (fun s hs => by
  simp only [List.mem_cons, List.not_mem_nil, or_false, or_self] at hs; subst hs
  exact ⟨⟨by decide, by decide⟩, ⟨by decide, by decide⟩⟩)
 refine ⟨some ⟨bq, 0, none⟩, 1, rfl, Nat.le_refl _, by decide, fun j x hj => ?_⟩; rcases j with _ | j
 ·
  simp only [List.getElem?_cons_zero, Option.some.injEq] at hj; subst hj; exact ⟨bq, 0, [.int .i64 5, .slice (some ⟨bn, 0, none⟩) 3 3, .int .i64 0, .int .i64 0], rfl, blk_lt h.pub, rfl, rangeN h.pub 0 _ rfl, _, rfl, ⟨by decide, by decide⟩, ⟨by decide, by decide⟩, ⟨by decide, by decide⟩, hn⟩
 · simp at hj
theorem SM.jin {br bb bn bq bp : Nat} {c : World} (h : SM br bb bn bq c) (hp : c.heap[bp]? = some (.cells #[.int .i64 (pk 0), .int .i64 (pk 1), .int .i64 (pk 2)] 3 (0, 0))) {vq : Value} {pubs : List PublicV} (hq : LArg RPublic 4 vq pubs c) (hl : pubs.length ≤ 1000) : JIn (some ⟨br, 0, none⟩) (some ⟨bp, 0, none⟩) 3 3 2 [100, 100, 100] PSK vq pubs c :=
 ⟨larg_int3 h.room i64_100, larg_int3 hp psk_I, hq, rfl, rfl, ⟨by decide, by decide⟩, fun r hr => by
  simp only [List.mem_cons, List.not_mem_nil, or_false, or_self] at hr; subst hr
  exact ⟨by decide, by decide⟩, hl⟩
theorem larg_nilP (c : World) : LArg RP 6 (.slice none ([] : List PV).length 0) [] c := ⟨none, 0, rfl, Nat.le_refl _, Nat.zero_le _, fun j x hj => by simp at hj⟩
theorem larg_nilQ (c : World) : LArg RPublic 4 (.slice none 0 0) [] c := ⟨none, 0, rfl, Nat.le_refl _, Nat.zero_le _, fun j x hj => by simp at hj⟩
theorem SM.find {br bb bn bq bp bl : Nat} {c : World} (h : SM br bb bn bq c) (hp : c.heap[bp]? = some (.cells #[.int .i64 (pk 0), .int .i64 (pk 1), .int .i64 (pk 2)] 3 (0, 0))) (l : List CV) (hl : c.heap[bl]? = some (.cells (l.flatMap cellsC).toArray 63 (0, 0))) (hg : ∀ x ∈ l, CGood x) (hpv : ∀ x ∈ l, x.prev.size ≤ 900) (hn : l.length ≤ 1000) :
 Calls Tryz.prog 9 #[.agg #[.string ⟨#[]⟩, .slice none 0 0, (), .slice none 0 0, .slice none 0 0, .slice none 0 0, .slice none 0 0, .slice none 0 0, .slice none 0 0, .slice (some ⟨br, 0, none⟩) 3 3, .int .i64 2], .slice (some ⟨bp, 0, none⟩) 3 3, .slice (some ⟨bq, 0, none⟩) 1 1, .slice (some ⟨bl, 0, none⟩) l.length l.length, .slice none 0 0] c (RetL (findL (judgeV 2 [100, 100, 100] PSK [smPub]) l []) c) :=
 find_any bsS (some ⟨br, 0, none⟩) (some ⟨bp, 0, none⟩) 3 3 2 [100, 100, 100] PSK (.slice (some ⟨bq, 0, none⟩) 1 1) [smPub] (some ⟨bl, 0, none⟩) none l.length 0 l [] c (h.jin hp h.lpub (by decide)) (larg_rowC hl hg hn) (larg_nilP c) hn (by decide) hpv h.g h.m
theorem SM.check {br bb bn bq bp : Nat} {c : World} (h : SM br bb bn bq c) (hp : c.heap[bp]? = some (.cells #[.int .i64 (pk 0), .int .i64 (pk 1), .int .i64 (pk 2)] 3 (0, 0))) {vq : Value} {pubs : List PublicV} (hq : LArg RPublic 4 vq pubs c) (hpl : pubs.length ≤ 1000) (xo xw : Int) (xc : List CV) (xp : PV) (al : Option Addr) (lc : Nat) (hL : LArg RC 8 (.slice al xc.length lc) xc c) (hC : ∀ c ∈ xc, COk c ∧ c.prev.size ≤ 2000000) (hl : xc.length ≤ 1000) (hO : POk xp) :
 Calls Tryz.prog 11 #[.agg #[.string ⟨#[]⟩, .slice none 0 0, (), .slice none 0 0, .slice none 0 0, .slice none 0 0, .slice none 0 0, .slice none 0 0, .slice none 0 0, .slice (some ⟨br, 0, none⟩) 3 3, .int .i64 2], .slice (some ⟨bp, 0, none⟩) 3 3, vq, .agg #[xo, xw, .slice al xc.length lc, xp.office, xp.since, xp.till, xp.litres, xp.e, xp.s]] c (RetB (checkB (judgeV 2 [100, 100, 100] PSK pubs) ⟨xo, xw, xc, xp⟩) c) :=
 check_any bsS (some ⟨br, 0, none⟩) (some ⟨bp, 0, none⟩) 3 3 2 [100, 100, 100] PSK vq pubs xo xw xc xp al lc c (h.jin hp hq hpl) hL hC hl hO h.g h.m
theorem sg_counts {j : Nat} {c : CV} (hj : j < 3) (ho : c.office = (j : Int)) (h1 : 0 ≤ c.hour ∧ c.hour ≤ 16777216) (h2 : withinB c.inn = true) (h3 : withinB c.out = true) (h4 : withinB c.store = true) : kB PSK (sgC j c) = true := by
 have hv : VouchedC ((PSK[(sgC j c).office.toNat]?).getD 0) (sgC j c) := by
  show VouchedC ((PSK[c.office.toNat]?).getD 0) (sgC j c); rw [ho, Int.toNat_natCast, psk_at hj]; exact sgC_vouched j c
 unfold kB; rw [decide_eq_true hv]; show (officeB c.office && decide (0 ≤ c.hour) && decide (c.hour ≤ 16777216) && withinB c.inn && withinB c.out && withinB c.store && true) = true; rw [h2, h3, h4, decide_eq_true h1.1, decide_eq_true h1.2, officeB_t ⟨by omega, by omega⟩]
 rfl
theorem check_len {J : JV} {x : BlV} (h : checkB J x = true) : x.claims.length ≤ 4 := by
 unfold checkB at h; simp only [Bool.and_eq_true] at h; obtain ⟨-, h⟩ := h; unfold condB at h; rcases hx : x.claims with _ | ⟨c1, _ | ⟨c2, _ | ⟨c3, _ | ⟨c4, _ | ⟨c5, t⟩⟩⟩⟩⟩
 · simp
 · simp
 · simp
 · simp
 · simp
 ·
  rw [hx] at h; simp at h
theorem hours_nil (e : Int) (room ps : List Int) : (judgeV e room ps []).H = fun _ => none := by
 funext t
 rfl
structure SgC (hour inn store : Int) (c : CV) : Prop where
 k : kB PSK c = true
 good : CGood c
 pv : c.prev.size ≤ 900
 o : c.office = 1
 h : c.hour = hour
 i : c.inn = inn
 t : c.out = 0
 s : c.store = store
 call : ∀ w, Glob w → MLen w → Calls Tryz.prog 21 #[.agg #[.int .i64 1, .int .i64 hour, .int .i64 inn, (), .int .i64 store, .string ⟨#[]⟩, (), ()]] w fun e w' => e = .returned (.agg #[c.office, c.hour, c.inn, c.out, c.store, c.prev, c.e, c.s]) ∧ Below w.heap.size w w'
theorem sg_make (hour inn store : Int) (h1 : 0 ≤ hour ∧ hour ≤ 16777216) (h2 : 0 ≤ inn ∧ inn ≤ 1000) (h4 : 0 ≤ store ∧ store ≤ 1000) : ∃ c, SgC hour inn store c := by
 have hw : ∀ n : Int, 0 ≤ n ∧ n ≤ 1000 → withinB n = true := fun n hn => by
  unfold withinB; simp only [decide_eq_true_eq]; omega
 have W0 : withinB 0 = true := by decide
 have I0 : I64 (0 : Int) := ⟨by decide, by decide⟩; have I1 : I64 (1 : Int) := ⟨by decide, by decide⟩; have IH : I64 hour := ⟨by omega, by omega⟩; have II : I64 inn := ⟨by omega, by omega⟩; have IS : I64 store := ⟨by omega, by omega⟩; have hO : COk ⟨1, hour, inn, 0, store, ⟨#[]⟩, 0, 0⟩ := ⟨I1, IH, II, I0, IS, I0, I0⟩; have hI := sgC_I 1 ⟨1, hour, inn, 0, store, ⟨#[]⟩, 0, 0⟩; refine ⟨sgC 1 ⟨1, hour, inn, 0, store, ⟨#[]⟩, 0, 0⟩, sg_counts (by decide) rfl h1 (hw _ h2) W0 (hw _ h4), ⟨⟨hO.1, hO.2.1, hO.2.2.1, hO.2.2.2.1, hO.2.2.2.2.1, hI.1, hI.2⟩, Nat.zero_le _⟩, Nat.zero_le _, rfl, rfl, rfl, rfl, rfl, fun w hg hm => ?_⟩; exact signed_any 1 ⟨1, hour, inn, 0, store, ⟨#[]⟩, 0, 0⟩ w (by decide) rfl hO (Nat.zero_le _) hg hm
theorem small46_any (w : World) (hg : Glob w) (hml : MLen w) : Calls Tryz.prog 6 #[] w (RetB true w) := by
 obtain ⟨a, ha⟩ := sg_make 0 0 102 (by decide) (by decide) (by decide); obtain ⟨b, hb⟩ := sg_make 0 0 103 (by decide) (by decide) (by decide); obtain ⟨c, hc⟩ := sg_make 5 0 10 (by decide) (by decide) (by decide); obtain ⟨d, hd⟩ := sg_make 6 50 10 (by decide) (by decide) (by decide); have HN : Hid (findL (judgeV 2 [100, 100, 100] PSK [smPub]) [a] [] = []) := hD (small_none rfl rfl ha.o ha.s); have HO : Hid (∃ x, findL (judgeV 2 [100, 100, 100] PSK [smPub]) [b] [] = [x] ∧ x.office = 1 ∧ x.why = 2) := hD (small_one rfl rfl hb.k hb.o hb.s); have HT : Hid (∃ x, findL (judgeV 2 [100, 100, 100] PSK [smPub]) [c, d] [] = [x] ∧ x.office = 1 ∧ x.why = 1) := hD (small_two rfl rfl rfl hc.k hd.k hc.o hc.h hc.i hc.t hc.s hd.o hd.h hd.i hd.t hd.s); have HCa := hD ha; have HCb := hD hb; have HCc := hD hc; have HCd := hD hd; clear ha hb hc hd; have s1 : (w.alloc (.cells #[.int .i64 100, .int .i64 100, .int .i64 100] 3)).heap.size = w.heap.size + 1 := by simp
 have s2 : ((w.alloc (.cells #[.int .i64 100, .int .i64 100, .int .i64 100] 3)).alloc (.cells #[.string ⟨#[]⟩, .slice none 0 0, (), .slice none 0 0, .slice none 0 0, .slice none 0 0, .slice none 0 0, .slice none 0 0, .slice none 0 0, .slice (some ⟨w.heap.size, 0, none⟩) 3 3, .int .i64 2] 31)).heap.size = w.heap.size + 1 + 1 := by simp
 have s3 : (((w.alloc (.cells #[.int .i64 100, .int .i64 100, .int .i64 100] 3)).alloc (.cells #[.string ⟨#[]⟩, .slice none 0 0, (), .slice none 0 0, .slice none 0 0, .slice none 0 0, .slice none 0 0, .slice none 0 0, .slice none 0 0, .slice (some ⟨w.heap.size, 0, none⟩) 3 3, .int .i64 2] 31)).alloc (.cells #[(), (), (), (), (), ()] 53)).heap.size = w.heap.size + 1 + 1 + 1 := by simp
 have HR : Hid (RowsS w [(w.heap.size, .cells #[.int .i64 100, .int .i64 100, .int .i64 100] 3), (w.heap.size + 1, .cells #[.string ⟨#[]⟩, .slice none 0 0, (), .slice none 0 0, .slice none 0 0, .slice none 0 0, .slice none 0 0, .slice none 0 0, .slice none 0 0, .slice (some ⟨w.heap.size, 0, none⟩) 3 3, .int .i64 2] 31), (w.heap.size + 1 + 1, .cells #[(), (), (), (), (), ()] 53), (w.heap.size + 1 + 1 + 1, .cells #[.int .i64 5, .slice (some ⟨(w.heap.size + 1 + 1), 0, none⟩) 3 3, (), ()] 55)] ((((w.alloc (.cells #[.int .i64 100, .int .i64 100, .int .i64 100] 3)).alloc (.cells #[.string ⟨#[]⟩, .slice none 0 0, (), .slice none 0 0, .slice none 0 0, .slice none 0 0, .slice none 0 0, .slice none 0 0, .slice none 0 0, .slice (some ⟨w.heap.size, 0, none⟩) 3 3, .int .i64 2] 31)).alloc (.cells #[(), (), (), (), (), ()] 53)).alloc (.cells #[.int .i64 5, .slice (some ⟨(w.heap.size + 1 + 1), 0, none⟩) 3 3, (), ()] 55))) := hD (by
  have := ((((RowsS.nil w).alloc (.cells #[.int .i64 100, .int .i64 100, .int .i64 100] 3)).alloc (.cells #[.string ⟨#[]⟩, .slice none 0 0, (), .slice none 0 0, .slice none 0 0, .slice none 0 0, .slice none 0 0, .slice none 0 0, .slice none 0 0, .slice (some ⟨w.heap.size, 0, none⟩) 3 3, .int .i64 2] 31)).alloc (.cells #[(), (), (), (), (), ()] 53)).alloc (.cells #[.int .i64 5, .slice (some ⟨(w.heap.size + 1 + 1), 0, none⟩) 3 3, (), ()] 55); rw [s1, s2, s3] at this
  exact this)
 have HSM : Hid (SM w.heap.size (w.heap.size + 1) (w.heap.size + 1 + 1) (w.heap.size + 1 + 1 + 1) ((((w.alloc (.cells #[.int .i64 100, .int .i64 100, .int .i64 100] 3)).alloc (.cells #[.string ⟨#[]⟩, .slice none 0 0, (), .slice none 0 0, .slice none 0 0, .slice none 0 0, .slice none 0 0, .slice none 0 0, .slice none 0 0, .slice (some ⟨w.heap.size, 0, none⟩) 3 3, .int .i64 2] 31)).alloc (.cells #[(), (), (), (), (), ()] 53)).alloc (.cells #[.int .i64 5, .slice (some ⟨(w.heap.size + 1 + 1), 0, none⟩) 3 3, (), ()] 55))) := hD ⟨HR.out.row 0 rfl, HR.out.row 1 rfl, HR.out.row 2 rfl, HR.out.row 3 rfl, hg.below HR.out.below hg.size, hml.up HR.out.below⟩; have HBW := hD HR.out.below; clear s1 s2 s3 HR hg hml; go_enter Tryz.func6, Tryz.ntmps6; go_upto_region 3 with fail; generalize ((((w.alloc (.cells #[.int .i64 100, .int .i64 100, .int .i64 100] 3)).alloc (.cells #[.string ⟨#[]⟩, .slice none 0 0, (), .slice none 0 0, .slice none 0 0, .slice none 0 0, .slice none 0 0, .slice none 0 0, .slice none 0 0, .slice (some ⟨w.heap.size, 0, none⟩) 3 3, .int .i64 2] 31)).alloc (.cells #[(), (), (), (), (), ()] 53)).alloc (.cells #[.int .i64 5, .slice (some ⟨(w.heap.size + 1 + 1), 0, none⟩) 3 3, (), ()] 55)) = w0 at *; generalize w.heap.size + 1 + 1 + 1 = bq at *; generalize w.heap.size + 1 + 1 = bn at *; generalize w.heap.size + 1 = bb at *; obtain ⟨br, hbr⟩ : ∃ br, br = w.heap.size := ⟨_, rfl⟩; have HSM1 : Hid (SM br bb bn bq w0) := hD (by rw [hbr]; exact HSM.out); clear HSM; have HSM := HSM1; clear HSM1
 rw [← hbr]; clear hbr; have HBas := hD HSM.out.bas; have hbl := blk_lt HBas.out; refine wrd (S := RowsS w0 _) ((RowsS.nil w0).drew) (fun yH => ?_); refine tn 0 ?_ (hx := fun wz hSw => by refine exec_load_row 31 ?_ ?_ _ ?_ 31 _ _ _ (hSw.oldRow HBas) undBn rfl infoBn; rotate_left 1; exact rfl; exact rfl); refine tn 2 ?_; refine tn 3 ?_; refine rd1 1 (fun K hK => ?_); go_simp; refine (publics_any _).mono ?_; rintro e w' ⟨bp, rfl, hZP, -, hb⟩; refine hK.out _ _ (yH.step hb) (fun yH => ?_); clear hK K; refine rd1 4 (fun K hK => ?_); go_simp; refine (HCa.out.call _ (HSM.out.step yH.below).g (HSM.out.step yH.below).m).mono ?_; rintro e w' ⟨rfl, hb⟩; have hZP := (hb.block bp (blk_lt hZP)).trans hZP; refine hK.out _ _ (yH.step hb) (fun yH => ?_); clear hK K; refine rd1 5 (fun K hK => ?_); go_simp; obtain ⟨bl, hbe, hS1, hZL, hgL, hnL, hbA⟩ := yH.allocB (.cells #[a.office, a.hour, a.inn, a.out, a.store, a.prev, a.e, a.s] 63); have hxPL : bp ≠ bl := by rw [hbe]; exact Nat.ne_of_lt (blk_lt hZP)
 have hZP := (hbA.block bp (blk_lt hZP)).trans hZP; (try simp only [World.alloc, Array.size_push] at hbe); rw [← hbe]; refine hK.out _ _ hS1 (fun yH => ?_); clear hK K hS1 hbe hbA; refine rd1 6 (fun K hK => ?_); go_simp; refine ((HSM.out.step yH.below).find hZP [a] hZL (fun x hx => by simp only [List.mem_cons, List.not_mem_nil, or_false] at hx; subst hx; exact HCa.out.good) (fun x hx => by simp only [List.mem_cons, List.not_mem_nil, or_false] at hx; subst hx; exact HCa.out.pv) (by simp)).mono ?_; rintro e w' ⟨v1, rfl, hv1, hb⟩; have hZP := (hb.block bp (blk_lt hZP)).trans hZP; have hZL := (hb.block bl (blk_lt hZL)).trans hZL; refine hK.out _ _ (yH.step hb) (fun yH => ?_); clear hK K; refine tn 7 ?_; refine rdn ?_; rename World => w3; have HSM2 := hD (HSM.out.step yH.below); have HBW2 := hD (HBW.out.trans (yH.below.mono HBW.out.size)); have HLv1 := hD hv1; clear HSM HBW yH HBas; have HSM := HSM2; have HBW := HBW2; clear HSM2 HBW2; have HBas := hD HSM.out.bas; have hbl := blk_lt HBas.out; rw [HN.out] at HLv1; obtain ⟨a1, k1, hv1e, -, -⟩ := HLv1.out.slice; subst hv1e; simp only [List.length_nil] at HLv1; go_upto_region 4 with fail; refine wrd (S := RowsS w3 _) ((RowsS.nil w3).drew) (fun yH => ?_); refine tn 0 ?_ (hx := fun wz hSw => by refine exec_load_row 31 ?_ ?_ _ ?_ 31 _ _ _ (hSw.oldRow HBas) undBn rfl infoBn; rotate_left 1; exact rfl; exact rfl); refine tn 2 ?_; refine tn 3 ?_; refine rd1 1 (fun K hK => ?_); go_simp; refine (publics_any _).mono ?_; rintro e w' ⟨bp, rfl, hZP, -, hb⟩
 refine hK.out _ _ (yH.step hb) (fun yH => ?_); clear hK K; refine rd1 4 (fun K hK => ?_); go_simp; refine (HCb.out.call _ (HSM.out.step yH.below).g (HSM.out.step yH.below).m).mono ?_; rintro e w' ⟨rfl, hb⟩; have hZP := (hb.block bp (blk_lt hZP)).trans hZP; refine hK.out _ _ (yH.step hb) (fun yH => ?_); clear hK K; refine rd1 5 (fun K hK => ?_); go_simp; obtain ⟨bl, hbe, hS1, hZL, hgL, hnL, hbA⟩ := yH.allocB (.cells #[b.office, b.hour, b.inn, b.out, b.store, b.prev, b.e, b.s] 63); have hxPL : bp ≠ bl := by rw [hbe]; exact Nat.ne_of_lt (blk_lt hZP)
 have hZP := (hbA.block bp (blk_lt hZP)).trans hZP; (try simp only [World.alloc, Array.size_push] at hbe); rw [← hbe]; refine hK.out _ _ hS1 (fun yH => ?_); clear hK K hS1 hbe hbA; refine rd1 6 (fun K hK => ?_); go_simp; refine ((HSM.out.step yH.below).find hZP [b] hZL (fun x hx => by simp only [List.mem_cons, List.not_mem_nil, or_false] at hx; subst hx; exact HCb.out.good) (fun x hx => by simp only [List.mem_cons, List.not_mem_nil, or_false] at hx; subst hx; exact HCb.out.pv) (by simp)).mono ?_; rintro e w' ⟨v2, rfl, hv2, hb⟩; have hZP := (hb.block bp (blk_lt hZP)).trans hZP; have hZL := (hb.block bl (blk_lt hZL)).trans hZL; refine hK.out _ _ (yH.step hb) (fun yH => ?_); clear hK K; refine tn 7 ?_; refine rdn ?_; rename World => w4; have HSM2 := hD (HSM.out.step yH.below); have HBW2 := hD (HBW.out.trans (yH.below.mono HBW.out.size)); have HLv12 := hD (HLv1.out.below stays_RBl yH.below); clear HLv1; have HLv1 := HLv12; clear HLv12; have HLv2 := hD hv2; clear HSM HBW yH HBas; have HSM := HSM2; have HBW := HBW2; clear HSM2 HBW2; have HBas := hD HSM.out.bas; have hbl := blk_lt HBas.out; obtain ⟨⟨xo2, xw2, xc2, xp2⟩, hf2, hx2o, hx2w⟩ := HO.out; simp only at hx2o hx2w; subst hx2o; subst hx2w; rw [hf2] at HLv2; obtain ⟨a2, k2, hv2e, -, -⟩ := HLv2.out.slice; subst hv2e; go_upto_region 5 with fail; refine wrd (S := RowsS w4 _) ((RowsS.nil w4).drew) (fun yH => ?_); refine tn 0 ?_ (hx := fun wz hSw => by refine exec_load_row 31 ?_ ?_ _ ?_ 31 _ _ _ (hSw.oldRow HBas) undBn rfl infoBn; rotate_left 1; exact rfl; exact rfl)
 refine tn 2 ?_; refine tn 3 ?_; refine tn 5 ?_; refine rd1 1 (fun K hK => ?_); go_simp; refine (publics_any _).mono ?_; rintro e w' ⟨bp, rfl, hZP, -, hb⟩; refine hK.out _ _ (yH.step hb) (fun yH => ?_); clear hK K; refine rd1 4 (fun K hK => ?_); go_simp; refine (HCc.out.call _ (HSM.out.step yH.below).g (HSM.out.step yH.below).m).mono ?_; rintro e w' ⟨rfl, hb⟩; have hZP := (hb.block bp (blk_lt hZP)).trans hZP; refine hK.out _ _ (yH.step hb) (fun yH => ?_); clear hK K; refine rd1 6 (fun K hK => ?_); go_simp; refine (HCd.out.call _ (HSM.out.step yH.below).g (HSM.out.step yH.below).m).mono ?_; rintro e w' ⟨rfl, hb⟩; have hZP := (hb.block bp (blk_lt hZP)).trans hZP; refine hK.out _ _ (yH.step hb) (fun yH => ?_); clear hK K; refine rd1 7 (fun K hK => ?_); go_simp; obtain ⟨bl, hbe, hS1, hZL, hgL, hnL, hbA⟩ := yH.allocB (.cells #[c.office, c.hour, c.inn, c.out, c.store, c.prev, c.e, c.s, d.office, d.hour, d.inn, d.out, d.store, d.prev, d.e, d.s] 63); have hxPL : bp ≠ bl := by rw [hbe]; exact Nat.ne_of_lt (blk_lt hZP)
 have hZP := (hbA.block bp (blk_lt hZP)).trans hZP; (try simp only [World.alloc, Array.size_push] at hbe); rw [← hbe]; refine hK.out _ _ hS1 (fun yH => ?_); clear hK K hS1 hbe hbA; refine rd1 8 (fun K hK => ?_); go_simp; refine ((HSM.out.step yH.below).find hZP [c, d] hZL (fun x hx => by simp only [List.mem_cons, List.not_mem_nil, or_false] at hx; rcases hx with rfl | rfl <;> first | exact HCc.out.good | exact HCd.out.good) (fun x hx => by simp only [List.mem_cons, List.not_mem_nil, or_false] at hx; rcases hx with rfl | rfl <;> first | exact HCc.out.pv | exact HCd.out.pv) (by simp)).mono ?_; rintro e w' ⟨v3, rfl, hv3, hb⟩; have hZP := (hb.block bp (blk_lt hZP)).trans hZP; have hZL := (hb.block bl (blk_lt hZL)).trans hZL; refine hK.out _ _ (yH.step hb) (fun yH => ?_); clear hK K; refine tn 9 ?_; refine rdn ?_; rename World => w5; have HSM2 := hD (HSM.out.step yH.below); have HBW2 := hD (HBW.out.trans (yH.below.mono HBW.out.size)); have HLv12 := hD (HLv1.out.below stays_RBl yH.below); clear HLv1; have HLv1 := HLv12; clear HLv12; have HLv22 := hD (HLv2.out.below stays_RBl yH.below); clear HLv2; have HLv2 := HLv22; clear HLv22; have HLv3 := hD hv3; clear HSM HBW yH HBas; have HSM := HSM2; have HBW := HBW2; clear HSM2 HBW2; have HBas := hD HSM.out.bas; have hbl := blk_lt HBas.out; obtain ⟨⟨xo3, xw3, xc3, xp3⟩, hf3, hx3o, hx3w⟩ := HT.out; simp only at hx3o hx3w; subst hx3o; subst hx3w; have hpr := find_proves (J := (judgeV 2 [100, 100, 100] PSK [smPub])) (l := [c, d]) (vows := []) (x := ⟨1, 1, xc3, xp3⟩) (by rw [hf3]; simp)
 rw [hf3] at HLv3; obtain ⟨a3, k3, hv3e, -, -⟩ := HLv3.out.slice; subst hv3e; obtain ⟨b2, o2, cs2, rfl, hb2, -, hr2, u2, rfl, -, hu2⟩ := HLv2.out.at (j := 0) rfl; obtain ⟨al2, lc2, rfl, -, -⟩ := hu2.slice; have HX2 : Hid (w5.rangeAt b2 o2 [.int .i64 1, .int .i64 2, .slice al2 xc2.length lc2, .int .i64 xp2.office, .int .i64 xp2.since, .int .i64 xp2.till, .int .i64 xp2.litres, .int .i64 xp2.e, .int .i64 xp2.s]) := hD (by rw [Nat.zero_mul, Nat.add_zero] at hr2; exact hr2); obtain ⟨b3, o3, cs3, rfl, hb3, -, hr3, u3, rfl, hbo3, hu3⟩ := HLv3.out.at (j := 0) rfl; obtain ⟨al3, lc3, rfl, -, -⟩ := hu3.slice; have HX3 : Hid (w5.rangeAt b3 o3 [.int .i64 1, .int .i64 1, .slice al3 xc3.length lc3, .int .i64 xp3.office, .int .i64 xp3.since, .int .i64 xp3.till, .int .i64 xp3.litres, .int .i64 xp3.e, .int .i64 xp3.s]) := hD (by rw [Nat.zero_mul, Nat.add_zero] at hr3; exact hr3)
 have hC3 : ∀ c ∈ xc3, COk c ∧ c.prev.size ≤ 2000000 := fun y hy => by
  refine ⟨(good_of hu3 hy).1, ?_⟩; have := hpr.2.1 y hy; simp only [List.mem_cons, List.not_mem_nil, or_false] at this; rcases this with rfl | rfl
  · exact Nat.le_trans HCc.out.pv (by decide)
  · exact Nat.le_trans HCd.out.pv (by decide)
 have hl3 : xc3.length ≤ 1000 := Nat.le_trans (check_len hpr.1) (by decide)
 have hc1 : ∀ (w0 : World) (bp : Nat), Below w5.heap.size w5 w0 → w0.heap[bp]? = some (.cells #[.int .i64 (pk 0), .int .i64 (pk 1), .int .i64 (pk 2)] 3 (0, 0)) → Calls Tryz.prog 11 #[.agg #[.string ⟨#[]⟩, .slice none 0 0, (), .slice none 0 0, .slice none 0 0, .slice none 0 0, .slice none 0 0, .slice none 0 0, .slice none 0 0, .slice (some ⟨br, 0, none⟩) 3 3, .int .i64 2], .slice (some ⟨bp, 0, none⟩) 3 3, .slice (some ⟨bq, 0, none⟩) 1 1, .agg #[.int .i64 1, .int .i64 1, .slice al3 xc3.length lc3, xp3.office, xp3.since, xp3.till, xp3.litres, xp3.e, xp3.s]] w0 fun e w' => e = .returned (.bool true) ∧ Below w0.heap.size w0 w' := fun w0 bp hb hp => by
  have h := (HSM.out.step hb).check hp ((HSM.out.step hb).lpub) (by decide) 1 1 xc3 xp3 al3 lc3 (hu3.below stays_RC hb) hC3 hl3 hbo3.2.2; rw [show checkB (judgeV 2 [100, 100, 100] PSK [smPub]) ⟨1, 1, xc3, xp3⟩ = true from hpr.1] at h; exact h
 have hc2 : ∀ (w0 : World) (bp : Nat), Below w5.heap.size w5 w0 → w0.heap[bp]? = some (.cells #[.int .i64 (pk 0), .int .i64 (pk 1), .int .i64 (pk 2)] 3 (0, 0)) → Calls Tryz.prog 11 #[.agg #[.string ⟨#[]⟩, .slice none 0 0, (), .slice none 0 0, .slice none 0 0, .slice none 0 0, .slice none 0 0, .slice none 0 0, .slice none 0 0, .slice (some ⟨br, 0, none⟩) 3 3, .int .i64 2], .slice (some ⟨bp, 0, none⟩) 3 3, .slice none 0 0, .agg #[.int .i64 1, .int .i64 1, .slice al3 xc3.length lc3, xp3.office, xp3.since, xp3.till, xp3.litres, xp3.e, xp3.s]] w0 fun e w' => e = .returned (.bool false) ∧ Below w0.heap.size w0 w' := fun w0 bp hb hp => by
  have h := (HSM.out.step hb).check hp (larg_nilQ w0) (by decide) 1 1 xc3 xp3 al3 lc3 (hu3.below stays_RC hb) hC3 hl3 hbo3.2.2; rw [check_none (x := ⟨1, 1, xc3, xp3⟩) (hours_nil _ _ _) rfl] at h; exact h
 have HC1 := hD hc1; have HC2 := hD hc2; clear hc1 hc2 hr2 hr3 hu2 hu3 hpr hC3 hl3 hf2 hf3 hbo3; simp only [List.length_cons, List.length_nil, Nat.zero_add]; go_upto_region 6 with fail; refine wrd (S := RowsS w5 _) ((RowsS.nil w5).drew) (fun yH => ?_); refine tn 0 ?_; refine tn 1 ?_; refine tn 2 ?_; refine tn 3 ?_; refine tn 4 ?_; refine tn 5 ?_; refine tn 6 ?_; refine tn 7 ?_; refine tn 8 ?_; refine tn 9 ?_; refine tn 10 ?_; refine tn 11 ?_; refine tn 12 ?_ (hx := fun wz hSw => by have e4 := (rangeAt_below HX2.out hSw.below hb2) 0 (.int .i64 1) rfl; rw [Nat.add_zero] at e4; go_simp; try with_reducible rfl); refine tn 13 ?_; refine tn 14 ?_; refine tn 15 ?_; refine tn 16 ?_; refine tn 17 ?_; refine tn 18 ?_; refine tn 19 ?_ (hx := fun wz hSw => by have e4 := (rangeAt_below HX2.out hSw.below hb2) 1 (.int .i64 2) rfl; go_simp; try with_reducible rfl); refine tn 20 ?_; refine tn 21 ?_; refine tn 22 ?_; refine tn 23 ?_; refine tn 24 ?_; refine tn 25 ?_; refine tn 26 ?_; refine tn 27 ?_; refine tn 28 ?_; refine tn 29 ?_; refine tn 30 ?_; refine tn 31 ?_ (hx := fun wz hSw => by have e4 := (rangeAt_below HX3.out hSw.below hb3) 1 (.int .i64 1) rfl; go_simp; try with_reducible rfl); refine tn 32 ?_; refine tn 33 ?_; refine tn 34 ?_; refine tn 35 ?_ (hx := fun wz hSw => by refine exec_load_row 31 ?_ ?_ _ ?_ 31 _ _ _ (hSw.oldRow HBas) undBn rfl infoBn; rotate_left 1; exact rfl; exact rfl); refine tn 37 ?_; refine tn 38 ?_; refine tn 39 ?_; refine tn 40 ?_ (hx := ldr HX3 hb3 undBl infoBl)
 refine rd1 36 (fun K hK => ?_); go_simp; refine (publics_any _).mono ?_; rintro e w' ⟨bp, rfl, hZP, -, hb⟩; refine hK.out _ _ (yH.step hb) (fun yH => ?_); clear hK K; refine rd1 41 (fun K hK => ?_); go_simp; refine (HC1.out _ _ yH.below hZP).mono ?_; rintro e w' ⟨rfl, hb⟩; have hZP := (hb.block bp (blk_lt hZP)).trans hZP; refine hK.out _ _ (yH.step hb) (fun yH => ?_); clear hK K; refine tn 42 ?_; refine tn 43 ?_; refine tn 44 ?_ (hx := fun wz hSw => by refine exec_load_row 31 ?_ ?_ _ ?_ 31 _ _ _ (hSw.oldRow HBas) undBn rfl infoBn; rotate_left 1; exact rfl; exact rfl); refine tn 46 ?_; refine tn 47 ?_; refine tn 48 ?_ (hx := ldr HX3 hb3 undBl infoBl); refine rd1 45 (fun K hK => ?_); go_simp; refine (publics_any _).mono ?_; rintro e w' ⟨bp2, rfl, hZP2, -, hb⟩; have hZP := (hb.block bp (blk_lt hZP)).trans hZP; refine hK.out _ _ (yH.step hb) (fun yH => ?_); clear hK K; refine rd1 49 (fun K hK => ?_); go_simp; refine (HC2.out _ _ yH.below hZP2).mono ?_; rintro e w' ⟨rfl, hb⟩; have hZP := (hb.block bp (blk_lt hZP)).trans hZP; have hZP2 := (hb.block bp2 (blk_lt hZP2)).trans hZP2; refine hK.out _ _ (yH.step hb) (fun yH => ?_); clear hK K; refine tn 50 ?_; refine tn 51 ?_; refine tn 52 ?_; (try simp only [Act.put, aL1, aL2]); refine rdn ?_; go_wp2_with fail; go_ret; exact ⟨rfl, HBW.out.trans (yH.below.mono HBW.out.size)⟩
end Go.Proofs.YtjbjpkhibcnenaaGreatDoor
/- append of slices that came in or may be nil; lists of claims and of public data. -/
namespace Go.Proofs.YtjbjpkhibcnenaaGreatDoor
open Go.RowKit
theorem run_append_none {P : Program} {w : World} {t ty e : TypeId} {i : TypeInfo} (ht : P.underlying t = some (.slice e)) (hi : P.info? e = some i) (b : Option Addr) (n c c2 : Nat) (hn : n ≤ c) :
 (Builtin.append_ #[t, t] ty #[.slice b n c, .slice none 0 c2]).run P w = .ok (.slice b n c) w := by
 cases b <;> simp [Builtin.append_, run_underlying ht, sizeOf, typeInfo, hi, Builtin.lenOf, Builtin.firstCells, loadCells, storeCells, hn]
theorem run_append_any {P : Program} (w : World) (base : Nat) (t ty e : TypeId) (i : TypeInfo) (z : Value) (size bytes : Nat) (ht : P.underlying t = some (.slice e)) (hi : P.info? e = some i) (hz : i.zero = some z)
 (hsize : i.size = size) (hby : i.bytes = bytes) (hzs : z.cells.size = size) (hsz : 0 < size)
 (v : Value) (n : Nat) (xs : List Value) (hown : w.ownsRow base e size v n xs)
 (a : Option Addr) (m c : Nat) (news : List Value) (hl : news.length = m * size) (hnews : ∀ j u, news[j]? = some u → ∃ ad, a = some ad ∧ w.cell? (ad.add j) = some u) (h1 : ∀ u ∈ news, u.oneCell' = true)
 (h63 : n + m ≤ maxLen) (hbytes : (n + m) * bytes ≤ 140737488355328) (hbase : base ≤ w.heap.size) :
 ∃ v' w', (Builtin.append_ #[t, t] ty #[v, .slice a m c]).run P w = .ok v' w' ∧ w'.ownsRow base e size v' (n + m) (xs ++ news) ∧ w.grownBy w' v.ownBlock ∧ (v'.ownBlock = v.ownBlock ∨ v'.ownBlock = some w.heap.size) := by
 cases a with
 | some ad =>
  obtain ⟨v', w', h2, h3, h4, _, h6⟩ := run_append_own_at (P := P) w base t ty e i z size bytes ht hi hz hsize hby hzs hsz v n xs hown ad m c news hl (fun j u hu => by
   obtain ⟨ad', e, h⟩ := hnews j u hu
   cases e
   exact h) h1 h63 hbytes hbase
  exact ⟨v', w', h2, h3, h4, h6⟩
 | none =>
  have hn : news = [] := by
   cases news with
   | nil => rfl
   | cons u r =>
    obtain ⟨ad, e, _⟩ := hnews 0 u rfl
    cases e
  subst hn
  have hm : m = 0 := by
   rcases Nat.eq_zero_or_pos m with h0 | h0
   · exact h0
   ·
    have := Nat.mul_pos h0 hsz; rw [← hl] at this; exact absurd this (Nat.lt_irrefl 0)
  subst hm; refine ⟨v, w, ?_, by simpa using hown, ⟨rfl, rfl, rfl, Nat.le_refl _, fun _ _ _ => rfl⟩, Or.inl rfl⟩; rcases hown.2 with ⟨rfl, _⟩ | ⟨g, cap, cur, rfl, _, _, hnc, _⟩
  · exact run_append_none ht hi none 0 0 c (Nat.le_refl _)
  · exact run_append_none ht hi _ n cap c hnc
theorem wpList_append_any {P : Program} (w : World) {ops : Array Oper} {rest : List Oper} {o : Oper} {a : Act} {Q : Exit → Act → World → Prop} (hgd : o.guard = none) (s x : Operand) (t : TypeId)
 (ho : o.op = .call { callee := .builtin .append, args := #[s, x], argTypes := #[t, t] })
 (base : Nat) (e : TypeId) (i : TypeInfo) (z : Value) (size bytes : Nat) (ht : P.underlying t = some (.slice e)) (hi : P.info? e = some i) (hz : i.zero = some z)
 (hsize : i.size = size) (hby : i.bytes = bytes) (hzs : z.cells.size = size) (hsz : 0 < size)
 (v : Value) (n : Nat) (xs : List Value) (hs : a.eval s = v) (hown : w.ownsRow base e size v n xs)
 (ad : Option Addr) (m c : Nat) (news : List Value) (hx : a.eval x = .slice ad m c) (hl : news.length = m * size) (hnews : ∀ j u, news[j]? = some u → ∃ p, ad = some p ∧ w.cell? (p.add j) = some u) (h1 : ∀ u ∈ news, u.oneCell' = true)
 (h63 : n + m ≤ maxLen) (hbytes : (n + m) * bytes ≤ 140737488355328) (hbase : base ≤ w.heap.size)
 (h : ∀ v' w', w'.ownsRow base e size v' (n + m) (xs ++ news) → w.grownBy w' v.ownBlock → (v'.ownBlock = v.ownBlock ∨ v'.ownBlock = some w.heap.size) → wpList P ops Q rest (a.put o.dst v') w') :
 wpList P ops Q (o :: rest) a w := by
 refine wpList_plain hgd fun K hK => ?_; obtain ⟨v', w', hr, h2, h3, h4⟩ := run_append_any (P := P) w base t o.type e i z size bytes ht hi hz hsize hby hzs hsz v n xs hown ad m c news hl hnews h1 h63 hbytes hbase; unfold Oper.wp execOp; simp only [ho, resolve, invoke, builtin, Sem.run_bind, Sem.run_pure, Result.andThen_ok, List.map_toArray, List.map_cons, List.map_nil, hs, hx, hr]; exact hK _ _ (h v' w' h2 h3 h4)
theorem step_append_any {P : Program} {ops : Array Oper} {o : Oper} {a : Act} {w : World} {K : Act → World → Prop} {Q : Exit → Act → World → Prop} {E : Prop}
 (hgd : o.guard = none) (s x : Operand) (t : TypeId)
 (ho : o.op = .call { callee := .builtin .append, args := #[s, x], argTypes := #[t, t] })
 (base : Nat) (e : TypeId) (i : TypeInfo) (z : Value) (size bytes : Nat) (ht : P.underlying t = some (.slice e)) (hi : P.info? e = some i) (hz : i.zero = some z)
 (hsize : i.size = size) (hby : i.bytes = bytes) (hzs : z.cells.size = size) (hsz : 0 < size)
 (v : Value) (n : Nat) (xs : List Value) (hs : a.eval s = v) (hown : w.ownsRow base e size v n xs)
 (ad : Option Addr) (m c : Nat) (news : List Value) (hx : a.eval x = .slice ad m c) (hl : news.length = m * size) (hnews : ∀ j u, news[j]? = some u → ∃ p, ad = some p ∧ w.cell? (p.add j) = some u) (h1 : ∀ u ∈ news, u.oneCell' = true)
 (h63 : n + m ≤ maxLen) (hbytes : (n + m) * bytes ≤ 140737488355328) (hbase : base ≤ w.heap.size)
 (h : ∀ v' w', w'.ownsRow base e size v' (n + m) (xs ++ news) → w.grownBy w' v.ownBlock → (v'.ownBlock = v.ownBlock ∨ v'.ownBlock = some w.heap.size) → K (a.put o.dst v') w') :
 if Region.wanted o (yielded ops a.tmps) = true then Oper.wp P o a w K Q else E := by
 have hw : Region.wanted o (yielded ops a.tmps) = true := by simp [Region.wanted, hgd]
 rw [if_pos hw]; obtain ⟨v', w', hr, h2, h3, h4⟩ := run_append_any (P := P) w base t o.type e i z size bytes ht hi hz hsize hby hzs hsz v n xs hown ad m c news hl hnews h1 h63 hbytes hbase; unfold Oper.wp execOp; simp only [ho, resolve, invoke, builtin, Sem.run_bind, Sem.run_pure, Result.andThen_ok, List.map_toArray, List.map_cons, List.map_nil, hs, hx, hr]; exact h v' w' h2 h3 h4
theorem larg_news {w : World} {a : Option Addr} {n c : Nat} {l : List CV} (h : LArg RC 8 (.slice a n c) l w) : ∀ j u, (flC l)[j]? = some u → ∃ ad, a = some ad ∧ w.cell? (ad.add j) = some u := fun j u hj => by
 have hjl : j < l.length * 8 := by rw [← flC_len]; exact (List.getElem?_eq_some_iff.1 hj).1
 obtain ⟨x, hx⟩ : ∃ x, l[j / 8]? = some x := ⟨_, List.getElem?_eq_getElem (by omega)⟩; obtain ⟨b, o, cs, rfl, -, -, hrg, hcs, -⟩ := h.at hx; subst hcs; obtain ⟨v, hv⟩ : ∃ v, (cellsC x)[j % 8]? = some v := ⟨_, List.getElem?_eq_getElem (by have : (cellsC x).length = 8 := rfl; rw [this]; exact Nat.mod_lt _ (by decide))⟩; have h1 := flatC_get l (j / 8) x hx (j % 8) v hv; have e : j / 8 * 8 + j % 8 = j := by omega
 rw [e] at h1; have h2 : (flC l)[j]? = some v := h1; rw [h2] at hj; have huv : v = u := by simpa using hj
 subst huv; refine ⟨_, rfl, ?_⟩; have h3 := hrg (j % 8) v hv; rw [Nat.add_assoc, e] at h3; rw [Addr.add_mid]; exact h3
theorem flC_one (l : List CV) : ∀ u ∈ flC l, u.oneCell' = true := fun u hu => by
 unfold flC at hu; obtain ⟨q, h1, h2⟩ := List.mem_flatMap.1 hu; unfold cellsC at h2; simp only [List.mem_cons, List.not_mem_nil, or_false] at h2; rcases h2 with rfl | rfl | rfl | rfl | rfl | rfl | rfl | rfl <;> rfl
structure AG (wb : World) (bp : Nat) (v : Value) (l : List CV) (c : World) : Prop where
 own : c.ownsRow wb.heap.size 63 8 v l.length (flC l)
 ne : v.ownBlock ≠ some bp
 row : c.heap[bp]? = some (.cells #[.int .i64 (pk 0), .int .i64 (pk 1), .int .i64 (pk 2)] 3 (0, 0))
theorem AG.app {wb : World} {bp n : Nat} {v v' : Value} {l m : List CV} {c c' : World} (h : AG wb bp v l c) (ho : c'.ownsRow wb.heap.size 63 8 v' n (flC l ++ flC m)) (hg : c.grownBy c' v.ownBlock) (hat : v'.ownBlock = v.ownBlock ∨ v'.ownBlock = some c.heap.size) : AG wb bp v' (l ++ m) c' := by
 have e : flC l ++ flC m = flC (l ++ m) := by unfold flC; rw [List.flatMap_append]
 have hn : n = (l ++ m).length := by
  have := ho.1; rw [e, flC_len] at this; omega
 rw [e, hn] at ho; refine ⟨ho, ?_, (hg.block bp (blk_lt h.row) (fun e => h.ne e.symm)).trans h.row⟩; rcases hat with e2 | e2
 · rw [e2]; exact h.ne
 ·
  rw [e2]; intro e3; simp only [Option.some.injEq] at e3; have := blk_lt h.row; omega
theorem own_zero {w : World} {base : Nat} {e : TypeId} {s : Nat} (h : base ≤ w.heap.size) : (w.alloc (.cells #[] e)).ownsRow base e s (.slice (some ⟨w.heap.size, 0, none⟩) 0 0) 0 [] := World.ownsRow_made w #[] 0 h (Nat.zero_le _) (by simp)
end Go.Proofs.YtjbjpkhibcnenaaGreatDoor
/- bournelaw46: what the cores of AuditGrows and AuditProves share. -/
namespace Go.Proofs.YtjbjpkhibcnenaaGreatDoor
open Go.RowKit
theorem gjin {ar : Option Addr} {cr bp : Nat} {err : Int} {room : List Int} {vq : Value} {pubs : List PublicV} {c : World} (hR : LArg RInt 1 (.slice ar 3 cr) room c) (h3 : room.length = 3) (he : 0 ≤ err ∧ err ≤ 1099511627776) (hr : ∀ r ∈ room, 0 ≤ r ∧ r ≤ 1125899906842624) (hp : c.heap[bp]? = some (.cells #[.int .i64 (pk 0), .int .i64 (pk 1), .int .i64 (pk 2)] 3 (0, 0))) (hq : LArg RPublic 4 vq pubs c) (hl : pubs.length ≤ 1000) : JIn ar (some ⟨bp, 0, none⟩) cr 3 err room PSK vq pubs c :=
 ⟨hR, larg_int3 hp psk_I, hq, h3, rfl, he, hr, hl⟩
theorem findL_len (J : JV) (l : List CV) (vows : List PV) : (findL J l vows).length ≤ 24 := by
 rw [← preL_end]; exact preL_len (by decide) (by decide)
end Go.Proofs.YtjbjpkhibcnenaaGreatDoor
