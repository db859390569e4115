/- Texts merged: TQT TQV -/
import Derived.Test.YtjbjpkhibcnenaaGreatDoorTQS
import Derived.Test.YtjbjpkhibcnenaaGreatDoorTQN
import Derived.Sort.OwnSortedInts
import Derived.Lib.OwnBridge
import Derived.Test.YtjbjpkhibcnenaaGreatDoorTQU
/- The reference of package audit: Named. -/
namespace Go.Proofs.YtjbjpkhibcnenaaGreatDoor
set_option maxRecDepth 100000
set_option maxHeartbeats 16000000
open Go.RowKit
structure OI (wo : World) (v : Value) (l : List Int) (c : World) : Prop where
 own : c.ownsRow wo.heap.size 3 1 v l.length (flI l)
structure NI (wo : World) (v : Value) (l : List Int) (bp : Nat) (z : Int) (c : World) : Prop where
 own : c.ownsRow wo.heap.size 3 1 v l.length (flI l)
 ne : v.ownBlock ≠ some bp
 row : c.heap[bp]? = some (.cells #[.int .i64 z] 3 (0, 0))
theorem flI_app (l m : List Int) : flI (l ++ m) = flI l ++ flI m := by unfold flI; rw [List.map_append]
theorem own_app {c' : World} {base n : Nat} {v' : Value} {l m : List Int} (ho : c'.ownsRow base 3 1 v' n (flI l ++ flI m)) : c'.ownsRow base 3 1 v' (l ++ m).length (flI (l ++ m)) := by
 rw [← flI_app] at ho
 have hn : n = (l ++ m).length := by
  have := ho.1; rw [flI_len] at this; omega
 rw [hn] at ho; exact ho
theorem NI.app {wo c c' : World} {n bp : Nat} {z : Int} {v v' : Value} {l m : List Int} (h : NI wo v l bp z c) (ho : c'.ownsRow wo.heap.size 3 1 v' n (flI l ++ flI m)) (hg : c.grownBy c' v.ownBlock) (hat : v'.ownBlock = v.ownBlock ∨ v'.ownBlock = some c.heap.size) : NI wo v' (l ++ m) bp z c' := by
 refine ⟨own_app ho, ?_, (hg.block bp (blk_lt h.row) (fun e => h.ne e.symm)).trans h.row⟩; rcases hat with e2 | e2
 · rw [e2]; exact h.ne
 ·
  rw [e2]; intro e3; simp only [Option.some.injEq] at e3; have := blk_lt h.row; omega
theorem NI.cells {wo c : World} {bp : Nat} {z : Int} {v : Value} {l : List Int} (h : NI wo v l bp z c) : ∀ j u, (flI [z])[j]? = some u → ∃ ad, some (⟨bp, 0, none⟩ : Addr) = some ad ∧ c.cell? (ad.add j) = some u := fun j u hj => by
 refine ⟨_, rfl, ?_⟩; have := cell_of_row _ _ (0 + j) _ _ _ h.row; rw [← Array.getElem?_toList, Nat.zero_add] at this; rw [Addr.add_mid, Nat.zero_add]; exact this.trans hj
theorem oi_zeroD {wo c : World} (hs : RowsS wo [] c.drew) : ∃ b, b = c.heap.size ∧ OI wo (.slice (some ⟨b, 0, none⟩) 0 0) [] (c.alloc (.cells #[] 3)).drew ∧ RowsS wo [] (c.alloc (.cells #[] 3)).drew :=
 ⟨_, rfl, ⟨own_zero (w := c) hs.below.size⟩, RowsS.drew (hs.undrew.step ((Below.refl _ _).alloc (Nat.le_refl _) _))⟩
theorem row_oneD {wo c : World} (hs : RowsS wo [] c.drew) (z : Int) : ∃ b, b = c.heap.size ∧ (c.alloc (.cells #[.int .i64 z] 3)).drew.heap[b]? = some (.cells #[.int .i64 z] 3 (0, 0)) ∧ RowsS wo [] (c.alloc (.cells #[.int .i64 z] 3)).drew :=
 ⟨_, rfl, heap_alloc_new c _, RowsS.drew (hs.undrew.step ((Below.refl _ _).alloc (Nat.le_refl _) _))⟩
theorem ni_zeroD {wo c : World} {bp : Nat} {z : Int} (hz : c.drew.heap[bp]? = some (.cells #[.int .i64 z] 3 (0, 0))) (hs : RowsS wo [] c.drew) : ∃ b, b = c.heap.size ∧ NI wo (.slice (some ⟨b, 0, none⟩) 0 0) [] bp z (c.alloc (.cells #[] 3)).drew ∧ RowsS wo [] (c.alloc (.cells #[] 3)).drew := by
 have hz' : c.heap[bp]? = some (.cells #[.int .i64 z] 3 (0, 0)) := hz; have hl := blk_lt hz'; refine ⟨_, rfl, ⟨own_zero (w := c) hs.below.size, ?_, (heap_alloc_old c _ hl).trans hz'⟩, RowsS.drew (hs.undrew.step ((Below.refl _ _).alloc (Nat.le_refl _) _))⟩; simp only [Value.ownBlock, ne_eq, Option.some.injEq]; omega
theorem ni_ofD {wo c : World} {v : Value} {l : List Int} (h : OI wo v l c.drew) (hs : RowsS wo [] c.drew) (z : Int) : ∃ b, b = c.heap.size ∧ NI wo v l b z (c.alloc (.cells #[.int .i64 z] 3)).drew ∧ RowsS wo [] (c.alloc (.cells #[.int .i64 z] 3)).drew := by
 have ho : c.ownsRow wo.heap.size 3 1 v l.length (flI l) := h.own; have hb : Below c.heap.size c (c.alloc (.cells #[.int .i64 z] 3)) := (Below.refl _ _).alloc (Nat.le_refl _) _; have ho2 := ho.kept (grown_of_below hb none) (by cases v.ownBlock <;> simp); refine ⟨_, rfl, ⟨ho2, fun e => ?_, heap_alloc_new c _⟩, RowsS.drew (hs.undrew.step hb)⟩; have := (ho.lt _ e).2; omega
theorem ni_of {wo c : World} {v : Value} {l : List Int} (h : OI wo v l c) (hs : RowsS wo [] c) (z : Int) : ∃ b, b = c.heap.size ∧ NI wo v l b z (c.alloc (.cells #[.int .i64 z] 3)) ∧ RowsS wo [] (c.alloc (.cells #[.int .i64 z] 3)) := by
 have ho : c.ownsRow wo.heap.size 3 1 v l.length (flI l) := h.own; have hb : Below c.heap.size c (c.alloc (.cells #[.int .i64 z] 3)) := (Below.refl _ _).alloc (Nat.le_refl _) _; refine ⟨_, rfl, ⟨ho.kept (grown_of_below hb none) (by cases v.ownBlock <;> simp), fun e => ?_, heap_alloc_new c _⟩, hs.step hb⟩; have := (ho.lt _ e).2; omega
theorem subs_of {w : World} {a : Option Addr} {m : Nat} {N : List Int} (h : LArg RInt 1 (.slice a N.length m) N w) :
 (∃ a1 c1, (∀ W, (Instr.sliceAt 29 (.slice a N.length m) none (some (.int .i64 (N.length : Int))) none).run Tryz.prog W = .ok (.slice a1 N.length c1) W) ∧ LArg RInt 1 (.slice a1 N.length c1) N w) ∧
 (∃ a2 c2, (∀ W, (Instr.sliceAt 29 (.slice a N.length m) (some (.int .i64 (N.length : Int))) none none).run Tryz.prog W = .ok (.slice a2 0 c2) W) ∧ LArg RInt 1 (.slice a2 0 c2) [] w) := by
 have h1 := larg_sub (lo := 0) (hi := N.length) undSI elemSI sizeSI h (Nat.zero_le _) (Nat.le_refl _); have h2 := larg_sub (lo := N.length) (hi := N.length) undSI elemSI sizeSI h (Nat.le_refl _) (Nat.le_refl _)
 constructor
 ·
  have g1 := h1.1; have g2 := h1.2.2.1 rfl; rw [List.take_length, List.drop_zero, Nat.sub_zero] at g1; rw [Nat.sub_zero] at g2; exact ⟨_, _, g2, g1⟩
 ·
  have g1 := h2.1; have g2 := h2.2.2.2 rfl; rw [List.take_length, List.drop_length, Nat.sub_self] at g1; rw [Nat.sub_self] at g2; exact ⟨_, _, g2, g1⟩
theorem rnamed (L : List BlV) (v : Value) (w : World) (h : LArg RBl 9 v L w) (hs : (L.map (·.office)).Pairwise (· ≤ ·)) (hl : L.length ≤ 1000) :
 Calls Tryz.prog 20 #[v] w (RetI (namedL L) w) := by
 obtain ⟨ii, zi, hii, hszi, hzi, hci, hbi⟩ := infoI8; obtain ⟨al, nl, rfl, -, -⟩ := h.slice
 have HI6 : Hid (∀ x ∈ L, I64 x.office) := hD (fun x hx => by
  obtain ⟨j, hj⟩ := List.getElem?_of_mem hx; obtain ⟨_, _, _, _, _, _, _, _, _, hb, _⟩ := h.at hj
  exact hb.1)
 have HL := hD h; have HS := hD hs; clear h hs; go_enter Tryz.func20, Tryz.ntmps20; go_wp2_with fail; go_loopw [3, 4] (fun sv iv wx => ∃ (bv : Value) (k : Nat), bv = sv ∧ k ≤ L.length ∧ iv = .int .i64 (k : Int) ∧ OwnL w 3 1 bv (namedK L k).length (flI (namedK L k)) wx) (fun _ iv _ => L.length - (Go.RowKit.intOf iv).toNat)
 case atStart => exact ⟨_, 0, rfl, Nat.zero_le _, rfl, OwnL.start _ _ _⟩
 case round =>
  obtain ⟨bv, k, rfl, hk, rfl, ho⟩ := hrel; by_cases hlt : k < L.length
  ·
   obtain ⟨z, hz⟩ : ∃ z, L[k]? = some z := ⟨_, List.getElem?_eq_getElem hlt⟩; have hst := named_step HS.out hz; have hnl := namedK_len L k; obtain ⟨a, mm, rfl, hla⟩ := larg_ownI ho.own (namedK_I64 HI6.out hk); have HBo := hD ho.below; rename World => wo; obtain ⟨N, hN⟩ : ∃ N, N = namedK L k := ⟨_, rfl⟩; rw [← hN] at ho hla hst hnl; rw [← hN]; have HO := hD ho; have HLA := hD hla; obtain ⟨b, o1, cs, rfl, hbl0, -, hrg, v1, rfl, -, hu1⟩ := HL.out.at hz; obtain ⟨u1, n1, rfl, -, -⟩ := hu1.slice; have HRGx : Hid (wo.rangeAt b (o1 + k * 9) [.int .i64 z.office, .int .i64 z.why, .slice u1 z.claims.length n1, .int .i64 z.prom.office, .int .i64 z.prom.since, .int .i64 z.prom.till, .int .i64 z.prom.litres, .int .i64 z.prom.e, .int .i64 z.prom.s]) := hD (rangeAt_below hrg HBo.out hbl0); have hbl : b < wo.heap.size := Nat.lt_of_lt_of_le hbl0 HBo.out.size; clear ho hla hrg hu1 hz hN; rcases hst with ⟨hlt2, hst2⟩ | ⟨m, hnm, hlt2, hst2⟩
   ·
    have HLT := hD hlt2; have HST := hD hst2; obtain ⟨⟨a1, c1, hsl1, hla1⟩, a2, c2, hsl2, hla2⟩ := subs_of HLA.out; have HSL1 := hD hsl1; have HSL2 := hD hsl2; have HLA1 := hD hla1; have HLA2 := hD hla2; clear hlt2 hst2 hsl1 hsl2 hla1 hla2; go_wp2_with fail; go_loopw [5] (fun iv wx => ∃ j : Nat, j ≤ N.length ∧ iv = .int .i64 j ∧ RowsS wo [] wx) (fun iv _ => N.length - (Go.RowKit.intOf iv).toNat)
    case atStart => exact ⟨0, Nat.zero_le _, rfl, RowsS.nil _⟩
    case round =>
     obtain ⟨j, hj, rfl, hr⟩ := hrel; have HR1 := hD hr; clear hr; by_cases hlj : j < N.length
     ·
      obtain ⟨y, hy⟩ : ∃ y, N[j]? = some y := ⟨_, List.getElem?_eq_getElem (by omega)⟩; obtain ⟨g, og, cs, rfl, hcl, -, hrj, rfl, -⟩ := HLA.out.at hy; have HCJ : Hid (wo.cell? ⟨g, og + j, none⟩ = some (.int .i64 y)) := hD (by have := hrj 0 _ rfl; rw [Nat.mul_one, Nat.add_zero] at this; exact this); have hjl : j < N.length := (List.getElem?_eq_some_iff.1 hy).1; have hjli : (j : Int) < (N.length : Int) := by omega
      have hlo : y < z.office := HLT.out y (List.mem_of_getElem? hy); have q1 : decide (y < z.office) = true := decide_eq_true hlo; clear hrj hy hlo; go_upto_region 6 with fail; refine wrd (S := RowsS wo _) (HR1.out.drew) (fun yH => ?_); refine tn 0 ?_; refine tn 1 ?_; refine tn 2 ?_; refine tn 3 ?_; refine tn 4 ?_; refine tn 5 ?_; refine tn 6 ?_; refine tn 7 ?_; refine tn 8 ?_ (hx := fun wz hSw => by have e4 := (hSw.below.cell hcl).trans HCJ.out; go_simp; try with_reducible rfl); refine tn 9 ?_; refine tn 10 ?_; refine tn 11 ?_; refine tn 12 ?_; refine tn 13 ?_ (hx := fun wz hSw => by have e4 := (rangeAt_below HRGx.out hSw.below hbl) 0 (.int .i64 z.office) rfl; rw [Nat.add_zero] at e4; go_simp; try with_reducible rfl); refine tn 14 ?_; refine tn 15 ?_; refine rdn ?_; have HR5 := hD yH; clear yH HR1; go_wp2_with fail; go_roundw
      case rel => exact ⟨j + 1, by omega, by go_num, HR5.out⟩
      case measure => simp [Go.RowKit.intOf]; omega
     ·
      obtain rfl : j = N.length := by omega
      have q0 : decide ((N.length : Int) < (N.length : Int)) = false := decide_eq_false (by omega); have q0n : decide (N.length < N.length) = false := decide_eq_false (by omega); go_upto_region 6 with fail; refine wrd (S := RowsS wo _) (HR1.out.drew) (fun yH => ?_); refine tn 0 ?_; refine tn 1 ?_; refine tn 2 ?_; refine tn 3 ?_; refine tn 4 ?_; refine skn 1 [(5, some 17), (6, some 18), (7, some 19), (8, some 20), (9, some 21), (10, some 22), (11, some 23), (12, some 24), (13, some 25), (14, some 26)] ?_; refine tn 15 ?_; refine rdn ?_; have HR5 := hD yH; clear yH HR1 q0 q0n; have HR1 := HR5; clear HR5; have q3 : ((N.length : Int) == (N.length : Int)) = true := by rw [beq_iff_eq]
      have q3n : (N.length == N.length) = true := by rw [beq_iff_eq]
      go_upto_region 8 with fail; refine wrd (S := RowsS wo _) (HR1.out.drew) (fun yH => ?_); refine tn 0 ?_; refine tn 1 ?_; refine tn 2 ?_; refine tn 3 ?_; refine tn 4 ?_; refine skn 1 [(5, some 35), (6, some 36), (7, some 37), (8, some 38), (9, some 39), (10, some 40), (11, some 41), (12, some 42), (13, some 43), (14, some 44)] ?_; refine tn 15 ?_; refine rdn ?_; have HR5 := hD yH; clear yH HR1 q3 q3n; have HR1 := HR5; clear HR5; generalize wr.drew.drew = wq at *; go_upto_region 9 with fail; refine wrd (S := RowsS wo _) (HR1.out.drew) (fun yH => ?_); refine tn 1 ?_; refine tn 2 ?_; refine tn 3 ?_ (hx := fun wz hSw => by refine exec_sliceAt ?_ ?_ ?_ ?_ ?_ ?_ (.slice a1 N.length c1) ?_; rotate_left 5; exact rfl; exact HSL1.out _); refine tn 5 ?_; refine tn 6 ?_; refine tn 7 ?_; refine tn 8 ?_; refine tn 9 ?_ (hx := fun wz hSw => by have e4 := (rangeAt_below HRGx.out hSw.below hbl) 0 (.int .i64 z.office) rfl; rw [Nat.add_zero] at e4; go_simp; try with_reducible rfl); refine tn 12 ?_; refine tn 13 ?_; refine tn 14 ?_ (hx := fun wz hSw => by refine exec_sliceAt ?_ ?_ ?_ ?_ ?_ ?_ (.slice a2 0 c2) ?_; rotate_left 5; exact rfl; exact HSL2.out _); refine rd2 0 10 (fun K hK => ?_) (fun K hK => ?_)
      ·
       go_simp; obtain ⟨be, hbe, hoi, hS1⟩ := oi_zeroD yH; have HOE := hD hoi; clear hoi; (try simp only [World.alloc, Array.size_push] at hbe); rw [← hbe]; refine hK.out _ _ hS1 (fun yH => ?_); clear hK K hS1 hbe; refine rd2 4 10 (fun K hK => ?_) (fun K hK => ?_)
       ·
        refine step_append_any rfl _ _ 29 rfl wo.heap.size 3 ii zi 1 ii.bytes undSI hii hzi hszi rfl hci (by decide) _ ([] : List Int).length (flI ([] : List Int)) rfl HOE.out.own a1 N.length c1 (flI N) rfl (flI_len _) (larg_newsI (HLA1.out.below stays_int yH.below)) (flI_one _) (by (try simp only [List.length_nil]); unfold maxLen; omega) (by (try simp only [List.length_nil]); rw [hbi]; omega) yH.below.size ?_; intro v5 w5 hown5 hgr5 hat5; have H5 : Hid (OI wo v5 N w5) := hD (⟨own_app hown5⟩); have hS1 := yH.grownO hgr5 (fun g e => (HOE.out.own.lt g e).1) (fun p hp => by simp at hp); clear hown5 hgr5 hat5 HOE; have HOE := H5; clear H5; refine hK.out _ _ hS1 (fun yH => ?_); clear hK K hS1; refine rd1 10 (fun K hK => ?_); go_simp; obtain ⟨bn, hbe, hni, hS1⟩ := ni_of HOE.out yH z.office; have HNI := hD hni; clear hni HOE; (try simp only [World.alloc, Array.size_push] at hbe); rw [← hbe]; refine hK.out _ _ hS1 (fun yH => ?_); clear hK K hS1 hbe; refine rd1 11 (fun K hK => ?_); refine step_append_any rfl _ _ 29 rfl wo.heap.size 3 ii zi 1 ii.bytes undSI hii hzi hszi rfl hci (by decide) _ N.length (flI N) rfl HNI.out.own (some ⟨bn, 0, none⟩) 1 1 (flI [z.office]) rfl (flI_len _) (HNI.out.cells) (flI_one _) (by (try simp only [List.length_nil, List.length_append, List.length_cons, List.nil_append]); unfold maxLen; omega) (by (try simp only [List.length_nil, List.length_append, List.length_cons, List.nil_append]); rw [hbi]; omega) yH.below.size ?_
        intro v5 w5 hown5 hgr5 hat5; have H5 : Hid (OI wo v5 (N ++ [z.office]) w5) := hD ⟨own_app hown5⟩; have hS1 := yH.grownO hgr5 (fun g e => (HNI.out.own.lt g e).1) (fun p hp => by simp at hp); clear hown5 hgr5 hat5 HNI; have HOE := H5; clear H5; refine hK.out _ _ hS1 (fun yH => ?_); clear hK K hS1; refine rd1 15 (fun K hK => ?_); refine step_append_any rfl _ _ 29 rfl wo.heap.size 3 ii zi 1 ii.bytes undSI hii hzi hszi rfl hci (by decide) _ (N ++ [z.office]).length (flI (N ++ [z.office])) rfl HOE.out.own a2 0 c2 (flI ([] : List Int)) rfl (flI_len _) (larg_newsI (HLA2.out.below stays_int yH.below)) (flI_one _) (by (try simp only [List.length_nil, List.length_append, List.length_cons]); unfold maxLen; omega) (by (try simp only [List.length_nil, List.length_append, List.length_cons]); rw [hbi]; omega) yH.below.size ?_; intro v5 w5 hown5 hgr5 hat5; have H5 : Hid (OI wo v5 (N ++ [z.office]) w5) := hD ⟨by have h := own_app hown5; rw [List.append_nil] at h; exact h⟩; have hS1 := yH.grownO hgr5 (fun g e => (HOE.out.own.lt g e).1) (fun p hp => by simp at hp); clear hown5 hgr5 hat5 HOE; have HOE := H5; clear H5; refine hK.out _ _ hS1 (fun yH => ?_); clear hK K hS1; refine tn 16 ?_; refine rdn ?_; go_wp2_with fail; go_roundw
        case rel => exact ⟨_, k + 1, rfl, by omega, by go_num, ⟨by rw [HST.out]; exact own_base HOE.out.own HBo.out.size, HBo.out.trans (yH.below.mono HBo.out.size)⟩⟩
        case measure => simp [Go.RowKit.intOf]; omega
       ·
        go_simp; obtain ⟨bn, hbe, hni, hS1⟩ := ni_ofD HOE.out yH z.office; have HNI := hD hni; clear hni HOE; (try simp only [World.alloc, Array.size_push] at hbe); rw [← hbe]; refine hK.out _ _ hS1 (fun yH => ?_); clear hK K hS1 hbe; refine rd1 4 (fun K hK => ?_); refine step_append_any rfl _ _ 29 rfl wo.heap.size 3 ii zi 1 ii.bytes undSI hii hzi hszi rfl hci (by decide) _ ([] : List Int).length (flI ([] : List Int)) rfl HNI.out.own a1 N.length c1 (flI N) rfl (flI_len _) (larg_newsI (HLA1.out.below stays_int yH.below)) (flI_one _) (by (try simp only [List.length_nil]); unfold maxLen; omega) (by (try simp only [List.length_nil]); rw [hbi]; omega) yH.below.size ?_; intro v5 w5 hown5 hgr5 hat5; have H5 : Hid (NI wo v5 N bn z.office w5) := hD (HNI.out.app hown5 hgr5 hat5); have hS1 := yH.grownO hgr5 (fun g e => (HNI.out.own.lt g e).1) (fun p hp => by simp at hp); clear hown5 hgr5 hat5 HNI; have HNI := H5; clear H5; refine hK.out _ _ hS1 (fun yH => ?_); clear hK K hS1; refine rd1 11 (fun K hK => ?_); refine step_append_any rfl _ _ 29 rfl wo.heap.size 3 ii zi 1 ii.bytes undSI hii hzi hszi rfl hci (by decide) _ N.length (flI N) rfl HNI.out.own (some ⟨bn, 0, none⟩) 1 1 (flI [z.office]) rfl (flI_len _) (HNI.out.cells) (flI_one _) (by (try simp only [List.length_nil, List.length_append, List.length_cons, List.nil_append]); unfold maxLen; omega) (by (try simp only [List.length_nil, List.length_append, List.length_cons, List.nil_append]); rw [hbi]; omega) yH.below.size ?_
        intro v5 w5 hown5 hgr5 hat5; have H5 : Hid (OI wo v5 (N ++ [z.office]) w5) := hD ⟨own_app hown5⟩; have hS1 := yH.grownO hgr5 (fun g e => (HNI.out.own.lt g e).1) (fun p hp => by simp at hp); clear hown5 hgr5 hat5 HNI; have HOE := H5; clear H5; refine hK.out _ _ hS1 (fun yH => ?_); clear hK K hS1; refine rd1 15 (fun K hK => ?_); refine step_append_any rfl _ _ 29 rfl wo.heap.size 3 ii zi 1 ii.bytes undSI hii hzi hszi rfl hci (by decide) _ (N ++ [z.office]).length (flI (N ++ [z.office])) rfl HOE.out.own a2 0 c2 (flI ([] : List Int)) rfl (flI_len _) (larg_newsI (HLA2.out.below stays_int yH.below)) (flI_one _) (by (try simp only [List.length_nil, List.length_append, List.length_cons]); unfold maxLen; omega) (by (try simp only [List.length_nil, List.length_append, List.length_cons]); rw [hbi]; omega) yH.below.size ?_; intro v5 w5 hown5 hgr5 hat5; have H5 : Hid (OI wo v5 (N ++ [z.office]) w5) := hD ⟨by have h := own_app hown5; rw [List.append_nil] at h; exact h⟩; have hS1 := yH.grownO hgr5 (fun g e => (HOE.out.own.lt g e).1) (fun p hp => by simp at hp); clear hown5 hgr5 hat5 HOE; have HOE := H5; clear H5; refine hK.out _ _ hS1 (fun yH => ?_); clear hK K hS1; refine tn 16 ?_; refine rdn ?_; go_wp2_with fail; go_roundw
        case rel => exact ⟨_, k + 1, rfl, by omega, by go_num, ⟨by rw [HST.out]; exact own_base HOE.out.own HBo.out.size, HBo.out.trans (yH.below.mono HBo.out.size)⟩⟩
        case measure => simp [Go.RowKit.intOf]; omega
      ·
       go_simp; obtain ⟨bn, hbe, hZN, hS1⟩ := row_oneD yH z.office; (try simp only [World.alloc, Array.size_push] at hbe); rw [← hbe]; refine hK.out _ _ hS1 (fun yH => ?_); clear hK K hS1 hbe; refine rd1 0 (fun K hK => ?_); go_simp; obtain ⟨be, hbe, hni, hS1⟩ := ni_zeroD hZN yH; have HNI := hD hni; clear hni hZN; (try simp only [World.alloc, Array.size_push] at hbe); rw [← hbe]; refine hK.out _ _ hS1 (fun yH => ?_); clear hK K hS1 hbe; refine rd1 4 (fun K hK => ?_); refine step_append_any rfl _ _ 29 rfl wo.heap.size 3 ii zi 1 ii.bytes undSI hii hzi hszi rfl hci (by decide) _ ([] : List Int).length (flI ([] : List Int)) rfl HNI.out.own a1 N.length c1 (flI N) rfl (flI_len _) (larg_newsI (HLA1.out.below stays_int yH.below)) (flI_one _) (by (try simp only [List.length_nil]); unfold maxLen; omega) (by (try simp only [List.length_nil]); rw [hbi]; omega) yH.below.size ?_; intro v5 w5 hown5 hgr5 hat5; have H5 : Hid (NI wo v5 N bn z.office w5) := hD (HNI.out.app hown5 hgr5 hat5); have hS1 := yH.grownO hgr5 (fun g e => (HNI.out.own.lt g e).1) (fun p hp => by simp at hp); clear hown5 hgr5 hat5 HNI; have HNI := H5; clear H5; refine hK.out _ _ hS1 (fun yH => ?_); clear hK K hS1; refine rd1 11 (fun K hK => ?_); refine step_append_any rfl _ _ 29 rfl wo.heap.size 3 ii zi 1 ii.bytes undSI hii hzi hszi rfl hci (by decide) _ N.length (flI N) rfl HNI.out.own (some ⟨bn, 0, none⟩) 1 1 (flI [z.office]) rfl (flI_len _) (HNI.out.cells) (flI_one _) (by (try simp only [List.length_nil, List.length_append, List.length_cons, List.nil_append]); unfold maxLen; omega) (by (try simp only [List.length_nil, List.length_append, List.length_cons, List.nil_append]); rw [hbi]; omega) yH.below.size ?_
       intro v5 w5 hown5 hgr5 hat5; have H5 : Hid (OI wo v5 (N ++ [z.office]) w5) := hD ⟨own_app hown5⟩; have hS1 := yH.grownO hgr5 (fun g e => (HNI.out.own.lt g e).1) (fun p hp => by simp at hp); clear hown5 hgr5 hat5 HNI; have HOE := H5; clear H5; refine hK.out _ _ hS1 (fun yH => ?_); clear hK K hS1; refine rd1 15 (fun K hK => ?_); refine step_append_any rfl _ _ 29 rfl wo.heap.size 3 ii zi 1 ii.bytes undSI hii hzi hszi rfl hci (by decide) _ (N ++ [z.office]).length (flI (N ++ [z.office])) rfl HOE.out.own a2 0 c2 (flI ([] : List Int)) rfl (flI_len _) (larg_newsI (HLA2.out.below stays_int yH.below)) (flI_one _) (by (try simp only [List.length_nil, List.length_append, List.length_cons]); unfold maxLen; omega) (by (try simp only [List.length_nil, List.length_append, List.length_cons]); rw [hbi]; omega) yH.below.size ?_; intro v5 w5 hown5 hgr5 hat5; have H5 : Hid (OI wo v5 (N ++ [z.office]) w5) := hD ⟨by have h := own_app hown5; rw [List.append_nil] at h; exact h⟩; have hS1 := yH.grownO hgr5 (fun g e => (HOE.out.own.lt g e).1) (fun p hp => by simp at hp); clear hown5 hgr5 hat5 HOE; have HOE := H5; clear H5; refine hK.out _ _ hS1 (fun yH => ?_); clear hK K hS1; refine tn 16 ?_; refine rdn ?_; go_wp2_with fail; go_roundw
       case rel => exact ⟨_, k + 1, rfl, by omega, by go_num, ⟨by rw [HST.out]; exact own_base HOE.out.own HBo.out.size, HBo.out.trans (yH.below.mono HBo.out.size)⟩⟩
       case measure => simp [Go.RowKit.intOf]; omega
   ·
    have HLT := hD hlt2; have HST := hD hst2; have HNM := hD hnm; clear hlt2 hst2 hnm; go_wp2_with fail; go_loopw [5] (fun iv wx => ∃ j : Nat, j ≤ m.length ∧ iv = .int .i64 j ∧ RowsS wo [] wx) (fun iv _ => m.length - (Go.RowKit.intOf iv).toNat)
    case atStart => exact ⟨0, Nat.zero_le _, rfl, RowsS.nil _⟩
    case round =>
     obtain ⟨j, hj, rfl, hr⟩ := hrel; have HR1 := hD hr; clear hr; by_cases hlj : j < m.length
     ·
      obtain ⟨y, hy⟩ : ∃ y, N[j]? = some y := ⟨_, List.getElem?_eq_getElem (by rw [HNM.out, List.length_append]; omega)⟩; obtain ⟨g, og, cs, rfl, hcl, -, hrj, rfl, -⟩ := HLA.out.at hy; have HCJ : Hid (wo.cell? ⟨g, og + j, none⟩ = some (.int .i64 y)) := hD (by have := hrj 0 _ rfl; rw [Nat.mul_one, Nat.add_zero] at this; exact this); have hjl : j < N.length := (List.getElem?_eq_some_iff.1 hy).1; have hjli : (j : Int) < (N.length : Int) := by omega
      have hlo : y < z.office := HLT.out y (by
       rw [HNM.out, List.getElem?_append_left hlj] at hy
       exact List.mem_of_getElem? hy)
      have q1 : decide (y < z.office) = true := decide_eq_true hlo; clear hrj hy hlo; go_upto_region 6 with fail; refine wrd (S := RowsS wo _) (HR1.out.drew) (fun yH => ?_); refine tn 0 ?_; refine tn 1 ?_; refine tn 2 ?_; refine tn 3 ?_; refine tn 4 ?_; refine tn 5 ?_; refine tn 6 ?_; refine tn 7 ?_; refine tn 8 ?_ (hx := fun wz hSw => by have e4 := (hSw.below.cell hcl).trans HCJ.out; go_simp; try with_reducible rfl); refine tn 9 ?_; refine tn 10 ?_; refine tn 11 ?_; refine tn 12 ?_; refine tn 13 ?_ (hx := fun wz hSw => by have e4 := (rangeAt_below HRGx.out hSw.below hbl) 0 (.int .i64 z.office) rfl; rw [Nat.add_zero] at e4; go_simp; try with_reducible rfl); refine tn 14 ?_; refine tn 15 ?_; refine rdn ?_; have HR5 := hD yH; clear yH HR1; go_wp2_with fail; go_roundw
      case rel => exact ⟨j + 1, by omega, by go_num, HR5.out⟩
      case measure => simp [Go.RowKit.intOf]; omega
     ·
      obtain rfl : j = m.length := by omega
      clear hlj hj; obtain ⟨j, hj⟩ : ∃ j, j = m.length := ⟨_, rfl⟩; rw [← hj]; obtain ⟨y, hy⟩ : ∃ y, N[j]? = some y := ⟨_, List.getElem?_eq_getElem (by rw [HNM.out, List.length_append]; simp only [List.length_cons]; omega)⟩; obtain ⟨g, og, cs, rfl, hcl, -, hrj, rfl, -⟩ := HLA.out.at hy; have HCJ : Hid (wo.cell? ⟨g, og + j, none⟩ = some (.int .i64 y)) := hD (by have := hrj 0 _ rfl; rw [Nat.mul_one, Nat.add_zero] at this; exact this); have hjl : j < N.length := (List.getElem?_eq_some_iff.1 hy).1; have hjli : (j : Int) < (N.length : Int) := by omega
      have hlo : y = z.office := by
       rw [HNM.out, hj, List.getElem?_append_right (Nat.le_refl _)] at hy
       simpa using hy.symm
      subst hlo; have q1 : decide (z.office < z.office) = false := decide_eq_false (by omega); have hjne : ((j : Int) == (N.length : Int)) = false := by rw [beq_eq_false_iff_ne]; omega
      have hjnn : (j == N.length) = false := by rw [beq_eq_false_iff_ne]; omega
      clear hrj hy hj; go_upto_region 6 with fail; refine wrd (S := RowsS wo _) (HR1.out.drew) (fun yH => ?_); refine tn 0 ?_; refine tn 1 ?_; refine tn 2 ?_; refine tn 3 ?_; refine tn 4 ?_; refine tn 5 ?_; refine tn 6 ?_; refine tn 7 ?_; refine tn 8 ?_ (hx := fun wz hSw => by have e4 := (hSw.below.cell hcl).trans HCJ.out; go_simp; try with_reducible rfl); refine tn 9 ?_; refine tn 10 ?_; refine tn 11 ?_; refine tn 12 ?_; refine tn 13 ?_ (hx := fun wz hSw => by have e4 := (rangeAt_below HRGx.out hSw.below hbl) 0 (.int .i64 z.office) rfl; rw [Nat.add_zero] at e4; go_simp; try with_reducible rfl); refine tn 14 ?_; refine tn 15 ?_; refine rdn ?_; have HR5 := hD yH; clear yH HR1 q1; have HR1 := HR5; clear HR5; have q2 : (z.office != z.office) = false := by rw [bne_eq_false_iff_eq]
      go_upto_region 8 with fail; refine wrd (S := RowsS wo _) (HR1.out.drew) (fun yH => ?_); refine tn 0 ?_; refine tn 1 ?_; refine tn 2 ?_; refine tn 3 ?_; refine tn 4 ?_; refine tn 5 ?_; refine tn 6 ?_; refine tn 7 ?_; refine tn 8 ?_ (hx := fun wz hSw => by have e4 := (hSw.below.cell hcl).trans HCJ.out; go_simp; try with_reducible rfl); refine tn 9 ?_; refine tn 10 ?_; refine tn 11 ?_; refine tn 12 ?_; refine tn 13 ?_ (hx := fun wz hSw => by have e4 := (rangeAt_below HRGx.out hSw.below hbl) 0 (.int .i64 z.office) rfl; rw [Nat.add_zero] at e4; go_simp; try with_reducible rfl); refine tn 14 ?_; refine tn 15 ?_; refine rdn ?_; have HR5 := hD yH; clear yH HR1 q2 hjne hjnn; go_wp2_with fail; go_roundw
      case rel => exact ⟨_, k + 1, rfl, by omega, by go_num, ⟨by rw [HST.out]; exact (HO.out.own.kept (grown_of_below HR5.out.below none) (by cases (Value.slice (some ⟨g, og, none⟩) N.length mm).ownBlock <;> simp)), HBo.out.trans (HR5.out.below.mono HBo.out.size)⟩⟩
      case measure => simp [Go.RowKit.intOf]; omega
  ·
   obtain rfl : k = L.length := by omega
   rw [namedK_all] at ho; have HI7 := namedK_I64 HI6.out (Nat.le_refl L.length); rw [namedK_all] at HI7; obtain ⟨a, mm, rfl, hla⟩ := larg_ownI ho.own HI7; have HLA := hD hla; have HBo := hD ho.below; clear ho hla HI7; go_wp2_with fail; go_ret; exact ⟨_, _, rfl, HLA.out, HBo.out⟩
end Go.Proofs.YtjbjpkhibcnenaaGreatDoor
/- audit.Named. -/
namespace Go.Proofs.YtjbjpkhibcnenaaGreatDoor
set_option maxRecDepth 100000
set_option maxHeartbeats 8000000
open Go.RowKit
theorem mergeSort_asc {l : List Int} (h : l.Pairwise (· ≤ ·)) : (l.mergeSort fun x y => decide (x ≤ y)) = l := by
 refine List.mergeSort_of_pairwise ?_; exact h.imp (fun hab => decide_eq_true hab)
theorem sorted_own {w1 w2 : World} {base g cap n : Nat} {ss : List Int} {os : Array Obj} (own1 : w1.ownsRow base 3 1 (.slice (some ⟨g, 0, none⟩) ss.length cap) ss.length (flI ss)) (hw : w2 = Go.Sort.grow (Go.Sort.putRow (Value.int .i64) (Sort.ahead w1 n) g 0 ss.toArray) os) :
 w2.ownsRow base 3 1 (.slice (some ⟨g, 0, none⟩) ss.length cap) ss.length (flI ss) ∧ w1.grownBy w2 (some g) := by
 subst hw; rcases own1.2 with ⟨h0, _⟩ | ⟨g', cap', cur, hv, hb, hg, h1, h2, h3, h4⟩
 · cases h0
 ·
  cases hv
  exact ⟨ownsRow_sortedI rfl hb hg h1 h2 h3, grownBy_sortedI _⟩
theorem holds_own {w : World} {base g n cap : Nat} {ss : List Int} (h : w.ownsRow base 3 1 (.slice (some ⟨g, 0, none⟩) n cap) n (flI ss)) : Go.Sort.Holds (Value.int .i64) w g 0 ss.toArray := by
 obtain ⟨g', cap', hge, _, _, _, _, _, hH⟩ := Lib.holds_of_ownsRow (enc := Value.int .i64) h (by simp); simp only [Value.slice.injEq, Option.some.injEq, Addr.mk.injEq, and_true, true_and] at hge; rw [hge.1]; exact hH
theorem compact_own {w1 w2 : World} {base g cap q : Nat} {ss : List Int} (own1 : w1.ownsRow base 3 1 (.slice (some ⟨g, 0, none⟩) ss.length cap) ss.length (flI ss)) (hw : w2 = Go.Sort.putRow (Value.int .i64) (Sort.ahead w1 q) g 0 (Lib.compact ss ++ List.replicate (ss.length - (Lib.compact ss).length) 0).toArray) :
 w2.ownsRow base 3 1 (.slice (some ⟨g, 0, none⟩) (Lib.compact ss).length cap) (Lib.compact ss).length (flI (Lib.compact ss)) := by
 subst hw; have hle := Lib.compact_length_le ss; have hc := Lib.ownsRow_putRow (q := q) (k := (Lib.compact ss).length) (ys := Lib.compact ss ++ List.replicate (ss.length - (Lib.compact ss).length) 0) own1 (by simp; omega) hle; rw [List.take_left] at hc; exact hc
theorem anamed_any (Y : List BlV) (v : Value) (w : World) (h : LArg RBl 9 v Y w) (hs : (Y.map (·.office)).Pairwise (· ≤ ·)) (hl : Y.length ≤ 1000) :
 Calls Tryz.prog 19 #[v] w (RetI (namedL Y) w) := by
 obtain ⟨ii, zi, hii, hszi, hzi, hci, hbi⟩ := infoI8; obtain ⟨al, nl, rfl, -, -⟩ := h.slice
 have HI6 : Hid (∀ x ∈ Y, I64 x.office) := hD (fun x hx => by
  obtain ⟨j, hj⟩ := List.getElem?_of_mem hx; obtain ⟨_, _, _, _, _, _, _, _, _, hb, _⟩ := h.at hj
  exact hb.1)
 have HL := hD h; have HS := hD hs; clear h hs; go_enter Tryz.func19, Tryz.ntmps19; go_wp2_with fail; go_loopw [3, 8] (fun sv iv wx => ∃ (bv : Value) (k : Nat), bv = sv ∧ k ≤ Y.length ∧ iv = .int .i64 (k : Int) ∧ OwnL w 3 1 bv ((Y.take k).map (·.office)).length (flI ((Y.take k).map (·.office))) wx) (fun _ iv _ => Y.length - (Go.RowKit.intOf iv).toNat)
 case atStart => exact ⟨_, 0, rfl, Nat.zero_le _, rfl, OwnL.start _ _ _⟩
 case round =>
  obtain ⟨bv, k, rfl, hk, rfl, ho⟩ := hrel; have HO := hD ho; clear ho; by_cases hlt : k < Y.length
  ·
   obtain ⟨z, hz⟩ : ∃ z, Y[k]? = some z := ⟨_, List.getElem?_eq_getElem hlt⟩; have hlti : (k : Int) < (Y.length : Int) := by omega
   obtain ⟨b, o1, cs, rfl, hbl0, -, hrg, v1, rfl, -, hu1⟩ := HL.out.at hz; obtain ⟨u1, n1, rfl, -, -⟩ := hu1.slice; have HRGx : Hid (wr.rangeAt b (o1 + k * 9) [.int .i64 z.office, .int .i64 z.why, .slice u1 z.claims.length n1, .int .i64 z.prom.office, .int .i64 z.prom.since, .int .i64 z.prom.till, .int .i64 z.prom.litres, .int .i64 z.prom.e, .int .i64 z.prom.s]) := hD (rangeAt_below hrg HO.out.below hbl0); have HN : Hid ((Y.take (k + 1)).map (·.office) = (Y.take k).map (·.office) ++ [z.office]) := hD (by rw [List.take_add_one, hz, List.map_append]; rfl); have hfl : ((Y.take k).map (·.office)).length ≤ 1000 := by rw [List.length_map, List.length_take]; omega
   have HO2 := hD (HO.out.step ((Below.refl _ _).alloc (Nat.le_refl _) (.cells #[z.office, z.why, .slice u1 z.claims.length n1, z.prom.office, z.prom.since, z.prom.till, z.prom.litres, z.prom.e, z.prom.s] 40))); have hx0 := cell_of_row _ _ 0 _ _ _ (heap_alloc_new wr (.cells #[z.office, z.why, .slice u1 z.claims.length n1, z.prom.office, z.prom.since, z.prom.till, z.prom.litres, z.prom.e, z.prom.s] 40)); rw [show (#[.int .i64 z.office, .int .i64 z.why, .slice u1 z.claims.length n1, .int .i64 z.prom.office, .int .i64 z.prom.since, .int .i64 z.prom.till, .int .i64 z.prom.litres, .int .i64 z.prom.e, .int .i64 z.prom.s] : Array Value)[0]? = some (.int .i64 z.office) from rfl] at hx0; clear hrg hu1 hz HO; go_upto_region 5 with (refine lRG HRGx.out undBl infoBl ?_); clear HRGx; generalize wr.alloc (.cells #[z.office, z.why, .slice u1 z.claims.length n1, z.prom.office, z.prom.since, z.prom.till, z.prom.litres, z.prom.e, z.prom.s] 40) = w6 at *; generalize wr.heap.size = bX at *; obtain ⟨S, hS⟩ : ∃ S, S = (Y.take k).map (·.office) := ⟨_, rfl⟩; rw [← hS] at HN HO2 hfl; have HO3 := hD (HO2.out.step ((Below.refl _ _).alloc (Nat.le_refl _) (.cells #[z.office] 3))); have hnew := new_cells (l := [.int .i64 z.office]) (heap_alloc_new w6 (.cells #[z.office] 3)); clear hS HO2; go_wp2_with (at_builtin; refine Hid.out ?_); refine hD ?_; refine wpList_append_own_at _ rfl _ _ 29 rfl w.heap.size 3 ii zi 1 ii.bytes undSI hii hzi hszi rfl hci (by decide) bv _ _ rfl HO3.out.own ⟨w6.heap.size, 0, none⟩ 1 1 [.int .i64 z.office] rfl rfl hnew (by simp [Value.oneCell']) (by unfold maxLen; omega) (by rw [hbi]; omega) HO3.out.below.size ?_
   intro v' w8 hown8 hgr8 _ _; have HO4 := hD (HO3.out.add (own_app (m := [z.office]) hown8) hgr8); clear hown8 hgr8 hnew HO3 hx0; go_wp2_with fail; go_roundw
   case rel => exact ⟨_, k + 1, rfl, by omega, by go_num, by rw [HN.out]; exact HO4.out⟩
   case measure => simp [Go.RowKit.intOf]; omega
  ·
   obtain rfl : k = Y.length := by omega
   have ho := HO.out; rw [List.take_length] at ho; have hI := namedK_I64 HI6.out (Nat.le_refl Y.length); rw [namedK_all] at hI; have HI := hD hI; have HNL : Hid (namedL Y = Lib.compact (Y.map (·.office))) := hD rfl; obtain ⟨ss, hss⟩ : ∃ ss, ss = Y.map (·.office) := ⟨_, rfl⟩; have hsl : ss.length ≤ 1000 := by rw [hss, List.length_map]; exact hl
   rw [← hss] at ho HNL; have HSS : Hid (ss.Pairwise (· ≤ ·)) := hD (by rw [hss]; exact HS.out); clear hI hlt hk hss HO; rename World => w1; have HB1 := hD ho.below; by_cases hnil : bv = .slice none 0 0
   ·
    subst hnil
    have h0 : ss = [] := by
     rcases ho.own.2 with ⟨_, h0⟩ | ⟨g, cap, cur, e, _⟩
     · exact List.eq_nil_of_length_eq_zero h0
     · cases e
    subst h0; have HE : Hid (namedL Y = []) := hD (by rw [HNL.out]; rfl); clear ho; go_wp2_with fail; refine (Tryz.slices_Sort_int_none none 0 w1).mono ?_; rintro e w2 ⟨rfl, rfl⟩; go_wp2_with fail; refine (Tryz.slices_Compact_int_empty none 0 _).mono ?_; rintro e w3 ⟨rfl, rfl⟩; go_wp2_with fail; go_ret; rw [HE.out]; exact ⟨_, _, rfl, ⟨none, 0, rfl, Nat.le_refl _, Nat.zero_le _, fun j x hj => by simp at hj⟩, HB1.out⟩
   ·
    obtain ⟨g, cap, rfl, hbg, hgl, hncap, hcm, hlen, hH⟩ := Lib.holds_of_ownsRow (enc := Value.int .i64) ho.own hnil; have HOW := hD ho.own; have HST := hD (Tryz.slices_Sort_int g 0 cap ss w1 hH hgl (by omega)); have HMG : Hid ((ss.mergeSort fun x y => decide (x ≤ y)) = ss) := hD (mergeSort_asc HSS.out); rw [HMG.out] at HST; clear ho hH hlen hnil; go_wp2_with fail; refine HST.out.mono ?_; rintro e w2 ⟨rfl, n, os, hw2⟩; obtain ⟨ho2, hg2⟩ := sorted_own HOW.out hw2; have HB2 := hD (HB1.out.grown hg2 HB1.out.size (fun j hj => by cases hj; exact hbg)); have HOW2 := hD ho2; have hH2 := holds_own ho2; have HCT := hD (Tryz.slices_Compact_int g 0 cap ss w2 hH2 (by omega) (by omega)); clear hw2 ho2 hg2 hH2 HST HOW; go_wp2_with fail; refine HCT.out.mono ?_; rintro e w3 ⟨rfl, q, hw3⟩; have ho3 := compact_own HOW2.out hw3; have HB3 : Hid (Below w.heap.size w w3) := hD (by rw [hw3]; exact Lib.below_putRow HB2.out hbg); rw [← HNL.out] at ho3 ⊢; obtain ⟨a9, k9, he9, hla⟩ := larg_ownI ho3 HI.out; simp only [Value.slice.injEq] at he9; obtain ⟨rfl, -, rfl⟩ := he9; have HLA := hD hla; clear hw3 ho3 HCT hla; go_wp2_with fail; go_ret; exact ⟨_, _, rfl, HLA.out, HB3.out⟩
end Go.Proofs.YtjbjpkhibcnenaaGreatDoor
