/- Texts merged: ALawA ALawB -/
import Derived.Outline
import Derived.Test.YtjbjpkhibcnenaaGreatDoorAFind
import Derived.Test.YtjbjpkhibcnenaaGreatDoorLoad
import Derived.Test.YtjbjpkhibcnenaaGreatDoorSRef6
/- bournelaw46: Key, Publics, signed. -/
namespace Go.Proofs.YtjbjpkhibcnenaaGreatDoor
set_option maxRecDepth 100000
set_option maxHeartbeats 8000000
open Go.RowKit
def xk : Nat → Nat | 0 => keyN [97, 48] | 1 => keyN [97, 49] | _ => keyN [97, 50]
def pk (j : Nat) : Int := (pubN (xk j) : Nat)
def PSK : List Int := [pk 0, pk 1, pk 2]
theorem xk_bd (j : Nat) : 1 ≤ xk j ∧ xk j < 1152921504606845789 := by
 unfold xk
 split <;> exact keyN_bd _
theorem pk_I (j : Nat) : I64 (pk j) := by
 have h := pub_lt (xk j); unfold pk I64; omega
theorem psk_I : ∀ p ∈ PSK, I64 p := fun p hp => by
 unfold PSK at hp; simp only [List.mem_cons, List.not_mem_nil, or_false] at hp; rcases hp with rfl | rfl | rfl
 · exact pk_I 0
 · exact pk_I 1
 · exact pk_I 2
theorem psk_at {j : Nat} (hj : j < 3) : (PSK[j]?).getD 0 = pk j := by
 rcases j with _ | _ | _ | j
 · rfl
 · rfl
 · rfl
 · omega
theorem field_pub (a b : Int) (w : World) : (Instr.field 73 (.agg #[.int .i64 a, .int .i64 b]) 1).run Tryz.prog w = .ok (.int .i64 b) w := by kernel_rfl
def sgC (j : Nat) (c : CV) : CV := ⟨c.office, c.hour, c.inn, c.out, c.store, c.prev, (signR (xk j : Nat) (pk j) ctxC (coreC c)).1, (signR (xk j : Nat) (pk j) ctxC (coreC c)).2⟩
theorem sgC_core (j : Nat) (c : CV) : coreC (sgC j c) = coreC c := rfl
theorem sgC_vouched (j : Nat) (c : CV) : VouchedC (pk j) (sgC j c) := by
 have hb := xk_bd j; have h := ver_same hb.1 hb.2 ctxC (coreC c); have hr : RightK (xk j : Nat) (pk j) := ⟨by omega, by omega, by rw [Int.toNat_natCast]; rfl⟩; unfold VouchedC; rw [sgC_core]; unfold sgC signR; simp only; rw [if_pos hr, Int.toNat_natCast]; exact h
theorem sgC_I (j : Nat) (c : CV) : I64 (sgC j c).e ∧ I64 (sgC j c).s := by
 have h := sgC_vouched j c; unfold VouchedC VerOk at h; obtain ⟨-, -, ⟨h1, h2⟩, ⟨h3, h4⟩, -⟩ := h; exact ⟨⟨by omega, by omega⟩, ⟨by omega, by omega⟩⟩
theorem lkey0 (w : World) : Calls Tryz.prog 30 #[()] w fun e w' => e = .returned (.agg #[.int .i64 ((xk 0 : Nat) : Int), .int .i64 (pk 0)]) ∧ Below w.heap.size w w' := by
 have hk : ∀ w, Calls Tryz.prog 61 #[.string ⟨#[97, 48]⟩] w fun e w' => e = .returned (.agg #[.int .i64 ((xk 0 : Nat) : Int), .int .i64 (pk 0)]) ∧ Below w.heap.size w w' := fun w => rkey_any ⟨#[97, 48]⟩ w (by decide); have HKy := hD hk; clear hk; obtain ⟨x, hx⟩ : ∃ x : Int, x = ((xk 0 : Nat) : Int) := ⟨_, rfl⟩; obtain ⟨p, hp⟩ : ∃ p : Int, p = pk 0 := ⟨_, rfl⟩; rw [← hx, ← hp] at HKy ⊢; clear hx hp; have HR := hD ((RowsS.nil w).alloc (.cells #[(), ()] 73)); go_enter Tryz.func30, Tryz.ntmps30; go_upto_region 1 with fail; generalize w.alloc (.cells #[(), ()] 73) = w0 at *; have ha : Below w0.heap.size w0 (w0.alloc (.cells #[.int .u8 48] 5)) := (Below.refl _ _).alloc (Nat.le_refl _) _; have HO : Hid ((w0.alloc (.cells #[.int .u8 48] 5)).ownsRow 0 5 1 (.slice (some ⟨w0.heap.size, 0, none⟩) 1 1) 1 (bytesV [48])) := hD ⟨rfl, Or.inr ⟨w0.heap.size, 1, #[.int .u8 48], rfl, Nat.zero_le _, heap_alloc_new _ _, Nat.le_refl _, by decide, rfl, rfl⟩⟩; have HR1 := hD (HR.out.step ha); clear ha HR; go_wp2_with (refine wpList_string_own rfl 113 9 5 _ rfl undBs undB undS _ rfl 0 1 [48] HO.out ?_); refine (HKy.out _).mono ?_; rintro e w2 ⟨rfl, hb2⟩; have HR2 := hD (HR1.out.step hb2); clear hb2 HR1 HO; go_wp2_with (refine sRW #[.int .i64 x, .int .i64 p] (HR2.out.row 0 rfl) infoKey ?_); have HRZ := hD (HR2.out.set (i := 0) (cs' := #[.int .i64 x, .int .i64 p]) rfl); exact bodyPost_ret (v := .agg #[.int .i64 x, .int .i64 p]) (results_cell_row rfl _ _ _ 73 _ (0, 0) _ rfl (HRZ.out.row 0 rfl) undKey rfl infoKey) rfl ⟨rfl, HRZ.out.below⟩
theorem lkey1 (w : World) : Calls Tryz.prog 30 #[.int .i64 1] w fun e w' => e = .returned (.agg #[.int .i64 ((xk 1 : Nat) : Int), .int .i64 (pk 1)]) ∧ Below w.heap.size w w' := by
 have hk : ∀ w, Calls Tryz.prog 61 #[.string ⟨#[97, 49]⟩] w fun e w' => e = .returned (.agg #[.int .i64 ((xk 1 : Nat) : Int), .int .i64 (pk 1)]) ∧ Below w.heap.size w w' := fun w => rkey_any ⟨#[97, 49]⟩ w (by decide); have HKy := hD hk; clear hk; obtain ⟨x, hx⟩ : ∃ x : Int, x = ((xk 1 : Nat) : Int) := ⟨_, rfl⟩; obtain ⟨p, hp⟩ : ∃ p : Int, p = pk 1 := ⟨_, rfl⟩; rw [← hx, ← hp] at HKy ⊢; clear hx hp; have HR := hD ((RowsS.nil w).alloc (.cells #[(), ()] 73)); go_enter Tryz.func30, Tryz.ntmps30; go_upto_region 1 with fail; generalize w.alloc (.cells #[(), ()] 73) = w0 at *; have ha : Below w0.heap.size w0 (w0.alloc (.cells #[.int .u8 49] 5)) := (Below.refl _ _).alloc (Nat.le_refl _) _; have HO : Hid ((w0.alloc (.cells #[.int .u8 49] 5)).ownsRow 0 5 1 (.slice (some ⟨w0.heap.size, 0, none⟩) 1 1) 1 (bytesV [49])) := hD ⟨rfl, Or.inr ⟨w0.heap.size, 1, #[.int .u8 49], rfl, Nat.zero_le _, heap_alloc_new _ _, Nat.le_refl _, by decide, rfl, rfl⟩⟩; have HR1 := hD (HR.out.step ha); clear ha HR; go_wp2_with (refine wpList_string_own rfl 113 9 5 _ rfl undBs undB undS _ rfl 0 1 [49] HO.out ?_); refine (HKy.out _).mono ?_; rintro e w2 ⟨rfl, hb2⟩; have HR2 := hD (HR1.out.step hb2); clear hb2 HR1 HO; go_wp2_with (refine sRW #[.int .i64 x, .int .i64 p] (HR2.out.row 0 rfl) infoKey ?_); have HRZ := hD (HR2.out.set (i := 0) (cs' := #[.int .i64 x, .int .i64 p]) rfl); exact bodyPost_ret (v := .agg #[.int .i64 x, .int .i64 p]) (results_cell_row rfl _ _ _ 73 _ (0, 0) _ rfl (HRZ.out.row 0 rfl) undKey rfl infoKey) rfl ⟨rfl, HRZ.out.below⟩
theorem lkey2 (w : World) : Calls Tryz.prog 30 #[.int .i64 2] w fun e w' => e = .returned (.agg #[.int .i64 ((xk 2 : Nat) : Int), .int .i64 (pk 2)]) ∧ Below w.heap.size w w' := by
 have hk : ∀ w, Calls Tryz.prog 61 #[.string ⟨#[97, 50]⟩] w fun e w' => e = .returned (.agg #[.int .i64 ((xk 2 : Nat) : Int), .int .i64 (pk 2)]) ∧ Below w.heap.size w w' := fun w => rkey_any ⟨#[97, 50]⟩ w (by decide); have HKy := hD hk; clear hk; obtain ⟨x, hx⟩ : ∃ x : Int, x = ((xk 2 : Nat) : Int) := ⟨_, rfl⟩; obtain ⟨p, hp⟩ : ∃ p : Int, p = pk 2 := ⟨_, rfl⟩; rw [← hx, ← hp] at HKy ⊢; clear hx hp; have HR := hD ((RowsS.nil w).alloc (.cells #[(), ()] 73)); go_enter Tryz.func30, Tryz.ntmps30; go_upto_region 1 with fail; generalize w.alloc (.cells #[(), ()] 73) = w0 at *; have ha : Below w0.heap.size w0 (w0.alloc (.cells #[.int .u8 50] 5)) := (Below.refl _ _).alloc (Nat.le_refl _) _; have HO : Hid ((w0.alloc (.cells #[.int .u8 50] 5)).ownsRow 0 5 1 (.slice (some ⟨w0.heap.size, 0, none⟩) 1 1) 1 (bytesV [50])) := hD ⟨rfl, Or.inr ⟨w0.heap.size, 1, #[.int .u8 50], rfl, Nat.zero_le _, heap_alloc_new _ _, Nat.le_refl _, by decide, rfl, rfl⟩⟩; have HR1 := hD (HR.out.step ha); clear ha HR; go_wp2_with (refine wpList_string_own rfl 113 9 5 _ rfl undBs undB undS _ rfl 0 1 [50] HO.out ?_); refine (HKy.out _).mono ?_; rintro e w2 ⟨rfl, hb2⟩; have HR2 := hD (HR1.out.step hb2); clear hb2 HR1 HO; go_wp2_with (refine sRW #[.int .i64 x, .int .i64 p] (HR2.out.row 0 rfl) infoKey ?_); have HRZ := hD (HR2.out.set (i := 0) (cs' := #[.int .i64 x, .int .i64 p]) rfl); exact bodyPost_ret (v := .agg #[.int .i64 x, .int .i64 p]) (results_cell_row rfl _ _ _ 73 _ (0, 0) _ rfl (HRZ.out.row 0 rfl) undKey rfl infoKey) rfl ⟨rfl, HRZ.out.below⟩
theorem lkey_any (j : Nat) (hj : j < 3) (w : World) : Calls Tryz.prog 30 #[(j : Int)] w fun e w' => e = .returned (.agg #[.int .i64 ((xk j : Nat) : Int), .int .i64 (pk j)]) ∧ Below w.heap.size w w' := by
 rcases j with _ | _ | _ | j
 · exact lkey0 w
 · exact lkey1 w
 · exact lkey2 w
 · omega
theorem publics_any (w : World) : Calls Tryz.prog 10 #[] w fun e w' => ∃ b, e = .returned (.slice (some ⟨b, 0, none⟩) 3 3) ∧ w'.heap[b]? = some (.cells #[.int .i64 (pk 0), .int .i64 (pk 1), .int .i64 (pk 2)] 3 (0, 0)) ∧ w.heap.size ≤ b ∧ Below w.heap.size w w' := by
 have hf := field_pub; have HK0 := hD lkey0; have HK1 := hD lkey1; have HK2 := hD lkey2; obtain ⟨x0, hx0⟩ : ∃ x : Int, x = ((xk 0 : Nat) : Int) := ⟨_, rfl⟩; obtain ⟨x1, hx1⟩ : ∃ x : Int, x = ((xk 1 : Nat) : Int) := ⟨_, rfl⟩; obtain ⟨x2, hx2⟩ : ∃ x : Int, x = ((xk 2 : Nat) : Int) := ⟨_, rfl⟩; obtain ⟨p0, hp0⟩ : ∃ p : Int, p = pk 0 := ⟨_, rfl⟩; obtain ⟨p1, hp1⟩ : ∃ p : Int, p = pk 1 := ⟨_, rfl⟩; obtain ⟨p2, hp2⟩ : ∃ p : Int, p = pk 2 := ⟨_, rfl⟩; rw [← hx0, ← hp0] at HK0; rw [← hx1, ← hp1] at HK1; rw [← hx2, ← hp2] at HK2; rw [← hp0, ← hp1, ← hp2]; clear hx0 hx1 hx2 hp0 hp1 hp2; go_enter Tryz.func10, Tryz.ntmps10; go_wp2_with fail; refine (HK0.out _).mono ?_; rintro e w1 ⟨rfl, hb1⟩; have HB1 := hD hb1; clear hb1; go_wp2_with fail; refine (HK1.out _).mono ?_; rintro e w2 ⟨rfl, hb2⟩; have HB2 := hD (HB1.out.trans (hb2.mono HB1.out.size)); clear hb2 HB1; go_wp2_with fail; refine (HK2.out _).mono ?_; rintro e w3 ⟨rfl, hb3⟩; have HB3 := hD (HB2.out.trans (hb3.mono HB2.out.size)); clear hb3 HB2; go_wp2_with fail; go_ret; exact ⟨_, rfl, heap_alloc_new _ _, HB3.out.size, HB3.out.alloc HB3.out.size _⟩
theorem signed_any (j : Nat) (c : CV) (w : World) (hj : j < 3) (hjo : c.office = (j : Int)) (hO : COk c) (hp : c.prev.size ≤ 900) (hg : Glob w) (hml : MLen w) : Calls Tryz.prog 21 #[.agg #[(j : Int), c.hour, c.inn, c.out, c.store, c.prev, c.e, c.s]] w fun e w' => e = .returned (aggC (sgC j c)) ∧ Below w.heap.size w w' := by
 have HK := hD (fun w => lkey_any j hj w)
 have hs : ∀ w0, Below w.heap.size w w0 → Calls Tryz.prog 49 #[.agg #[.int .i64 ((xk j : Nat) : Int), .int .i64 (pk j)], .agg #[(j : Int), c.hour, c.inn, c.out, c.store, c.prev, c.e, c.s]] w0 fun e w' => e = .returned (.agg #[(j : Int), c.hour, c.inn, c.out, c.store, c.prev, .int .i64 (sgC j c).e, .int .i64 (sgC j c).s]) ∧ Below w0.heap.size w0 w' := fun w0 hb => by
  have h := signC_any ((xk j : Nat) : Int) (pk j) c w0 hO hp (hg.below hb hg.size) (hml.up hb); rw [hjo] at h; exact h
 have HSg := hD hs
 have he : aggC (sgC j c) = .agg #[(j : Int), c.hour, c.inn, c.out, c.store, c.prev, .int .i64 (sgC j c).e, .int .i64 (sgC j c).s] := by
  rw [← hjo]
  rfl
 rw [he]; obtain ⟨x, hx⟩ : ∃ x : Int, x = ((xk j : Nat) : Int) := ⟨_, rfl⟩; obtain ⟨p, hp⟩ : ∃ p : Int, p = pk j := ⟨_, rfl⟩; obtain ⟨E, hE⟩ : ∃ E : Int, E = (sgC j c).e := ⟨_, rfl⟩; obtain ⟨S, hS⟩ : ∃ S : Int, S = (sgC j c).s := ⟨_, rfl⟩; rw [← hx, ← hp] at HK; rw [← hx, ← hp, ← hE, ← hS] at HSg; rw [← hE, ← hS]; have t1 : ¬ (j : Int) < 0 := by omega
 have t2 : (j : Int) < 3 := by omega
 have t3 : ¬ (3 : Int) ≤ (j : Int) := by omega
 clear hs he hx hp hE hS; obtain ⟨w0, hw0, hR0⟩ := RowsS.twoE w (.cells #[(j : Int), c.hour, c.inn, c.out, c.store, c.prev, c.e, c.s] 63) (.cells #[(), (), (), (), (), .string ⟨#[]⟩, (), ()] 63); have HR := hD hR0; have HW0 := hD hw0; clear hR0 hw0; go_enter Tryz.func21, Tryz.ntmps21; go_upto_region 1 with fail; rw [HW0.out]; have c0 := HR.out.cell 0 0 rfl rfl; go_upto_region 3 with fail; clear c0; have hRs := HR.out.take 1; have hZZ := HR.out.row 1 rfl; have hgZ : w.heap.size ≤ w.heap.size + 1 := Nat.le_succ _; have hnZ : w.heap.size + 1 ∉ [w.heap.size] := by simp
 refine wrd (S := RowsS w _) (hRs.drew) (fun yH => ?_); refine tn 0 ?_; refine tn 1 ?_ (hx := cx fun _ h => h.cell 0 0 rfl rfl); refine tn 3 ?_ (hx := ldw 0 undCm infoCm); refine rd1 2 (fun K hK => ?_); go_simp; refine (HK.out _).mono ?_; rintro e w' ⟨rfl, hb⟩; have hZZ := (hb.block (w.heap.size + 1) (blk_lt hZZ)).trans hZZ; refine hK.out _ _ (yH.step hb) (fun yH => ?_); clear hK K; refine rd1 4 (fun K hK => ?_); go_simp; refine (HSg.out _ yH.below).mono ?_; rintro e w' ⟨rfl, hb⟩; have hZZ := (hb.block (w.heap.size + 1) (blk_lt hZZ)).trans hZZ; refine hK.out _ _ (yH.step hb) (fun yH => ?_); clear hK K; refine rd1 5 (fun K hK => ?_); rw [if_pos (by rfl)]; refine wp_store_row 63 _ _ rfl (w.heap.size + 1) #[(j : Int), c.hour, c.inn, c.out, c.store, c.prev, .int .i64 E, .int .i64 S] rfl rfl 63 #[(), (), (), (), (), .string ⟨#[]⟩, (), ()] hZZ infoCm rfl (by simp [Value.oneCell']) ?_; have hZZ := setRow_heap _ _ _ #[.int .i64 (j : Int), .int .i64 c.hour, .int .i64 c.inn, .int .i64 c.out, .int .i64 c.store, .string c.prev, .int .i64 E, .int .i64 S] _ _ hZZ; refine hK.out _ _ (yH.setOther hgZ hnZ _) (fun yH => ?_); clear hK K; (try simp only [Act.put]); refine rdn ?_; go_wp2_with fail; exact bodyPost_ret (v := .agg #[(j : Int), c.hour, c.inn, c.out, c.store, c.prev, .int .i64 E, .int .i64 S]) (results_cell_row rfl _ _ _ 63 _ (0, 0) _ rfl hZZ undCm rfl infoCm) rfl ⟨rfl, yH.below⟩
end Go.Proofs.YtjbjpkhibcnenaaGreatDoor
/- bournelaw46: has, few, plain. -/
namespace Go.Proofs.YtjbjpkhibcnenaaGreatDoor
set_option maxRecDepth 100000
set_option maxHeartbeats 4000000
open Go.RowKit
open Classical in
noncomputable def fewB46 (pubs : List PublicV) (l : List CV) (vows : List PV) : Bool := decide ((∀ p ∈ pubs, p.net.length ≤ 10) ∧ (∀ c ∈ l, c.prev.size ≤ 100) ∧ l.length ≤ 10 ∧ pubs.length ≤ 10 ∧ vows.length ≤ 4)
open Classical in
theorem few46_no {pubs : List PublicV} {l : List CV} {vows : List PV} (h : ¬ ((∀ p ∈ pubs, p.net.length ≤ 10) ∧ (∀ c ∈ l, c.prev.size ≤ 100) ∧ l.length ≤ 10 ∧ pubs.length ≤ 10 ∧ vows.length ≤ 4)) : fewB46 pubs l vows = false := by
 unfold fewB46; exact decide_eq_false h
open Classical in
theorem few46_iff {pubs : List PublicV} {l : List CV} {vows : List PV} : fewB46 pubs l vows = true ↔ ((∀ p ∈ pubs, p.net.length ≤ 10) ∧ (∀ c ∈ l, c.prev.size ≤ 100) ∧ l.length ≤ 10 ∧ pubs.length ≤ 10 ∧ vows.length ≤ 4) := by
 unfold fewB46; exact decide_eq_true_iff
open Classical in
noncomputable def plainB (room : List Int) (err : Int) : Bool := decide (room.length = 3 ∧ (0 ≤ err ∧ err ≤ 1099511627776) ∧ ∀ r ∈ room, 0 ≤ r ∧ r ≤ 1125899906842624)
open Classical in
theorem plain_no {room : List Int} {err : Int} (h : ¬ (room.length = 3 ∧ (0 ≤ err ∧ err ≤ 1099511627776) ∧ ∀ r ∈ room, 0 ≤ r ∧ r ≤ 1125899906842624)) : plainB room err = false := by
 unfold plainB; exact decide_eq_false h
open Classical in
theorem plain_iff {room : List Int} {err : Int} : plainB room err = true ↔ (room.length = 3 ∧ (0 ≤ err ∧ err ≤ 1099511627776) ∧ ∀ r ∈ room, 0 ≤ r ∧ r ≤ 1125899906842624) := by
 unfold plainB; exact decide_eq_true_iff
theorem upto_snoc {α : Type} {P : α → Prop} {l : List α} {k : Nat} {x : α} (h : ∀ (i : Nat) (y : α), i < k → l[i]? = some y → P y) (hx : l[k]? = some x) (hp : P x) : ∀ (i : Nat) (y : α), i < k + 1 → l[i]? = some y → P y := fun i y hi hy => by
 by_cases e : i = k
 · subst e; rw [hx] at hy; cases hy; exact hp
 · exact h i y (by omega) hy
theorem upto_mem {α : Type} {P : α → Prop} {l : List α} (h : ∀ (i : Nat) (y : α), i < l.length → l[i]? = some y → P y) : ∀ y ∈ l, P y := fun y hy => by
 obtain ⟨i, hi⟩ := List.getElem?_of_mem hy; exact h i y (List.getElem?_eq_some_iff.1 hi).1 hi
theorem few46_any (pubs : List PublicV) (l : List CV) (vows : List PV) (aq ac av : Option Addr) (nq nc nv : Nat) (w : World) (hQ : LArg RPublic 4 (.slice aq pubs.length nq) pubs w) (hC : LArg RC 8 (.slice ac l.length nc) l w) (hV : LArg RP 6 (.slice av vows.length nv) vows w) : Calls Tryz.prog 8 #[.slice aq pubs.length nq, .slice ac l.length nc, .slice av vows.length nv] w (RetB (fewB46 pubs l vows) w) := by
 obtain ⟨_, _, hq1, hq2, hq3⟩ := hQ.slice; obtain ⟨_, _, hc1, hc2, hc3⟩ := hC.slice; obtain ⟨_, _, hv1, hv2, hv3⟩ := hV.slice; simp only [Value.slice.injEq] at hq1 hc1 hv1; obtain ⟨-, -, rfl⟩ := hq1; obtain ⟨-, -, rfl⟩ := hc1; obtain ⟨-, -, rfl⟩ := hv1; unfold maxLen at hq3 hc3 hv3; have HQ := hD hQ; have HC := hD hC; have hql : pubs.length ≤ 9223372036854775807 := by omega
 have hcl : l.length ≤ 9223372036854775807 := by omega
 have hvl : vows.length ≤ 9223372036854775807 := by omega
 clear hQ hC hV hq2 hq3 hc2 hc3 hv2 hv3; go_enter Tryz.func8, Tryz.ntmps8; go_wp2_with fail; go_loopw [7] (fun iv wx => ∃ k : Nat, k ≤ pubs.length ∧ iv = .int .i64 k ∧ (∀ (i : Nat) (x : PublicV), i < k → pubs[i]? = some x → x.net.length ≤ 10) ∧ w = wx) (fun iv _ => pubs.length - (Go.RowKit.intOf iv).toNat)
 case atStart => exact ⟨0, Nat.zero_le _, rfl, fun i x h => absurd h (Nat.not_lt_zero _), rfl⟩
 case round =>
  obtain ⟨k, hk, rfl, hno, rfl⟩ := hrel; have HNO := hD hno; clear hno; by_cases hlt : k < pubs.length
  ·
   obtain ⟨x, hx⟩ : ∃ x, pubs[k]? = some x := ⟨_, List.getElem?_eq_getElem hlt⟩; obtain ⟨b, o, cs, rfl, hbl, -, hrg, u, rfl, -, -, -, hn⟩ := HQ.out.at hx; obtain ⟨an, cn, rfl, hn1, hn2⟩ := hn.slice; unfold maxLen at hn2; have hnl : x.net.length ≤ 9223372036854775807 := by omega
   have HX := hD hx; have hlt' : (k : Int) < (pubs.length : Int) := by omega
   have c1 : w.cell? ⟨b, o + k * 4 + 1, none⟩ = some (.slice an x.net.length cn) := hrg 1 _ rfl; clear hx hrg hn hn1 hn2; by_cases h1 : x.net.length ≤ 10
   ·
    have q1 : ¬ (10 : Int) < (x.net.length : Int) := by omega
    have q2 : ¬ 10 < x.net.length := by omega
    have HN := hD (upto_snoc HNO.out HX.out h1); clear h1; go_wp2_with fail; go_roundw
    case rel => exact ⟨k + 1, by omega, by go_num, HN.out, trivial⟩
    case measure => simp [Go.RowKit.intOf]; omega
   ·
    have q1 : (10 : Int) < (x.net.length : Int) := by omega
    have q2 : 10 < x.net.length := by omega
    have HE := hD (few46_no (pubs := pubs) (l := l) (vows := vows) (fun h => h1 (h.1 x (List.mem_of_getElem? HX.out)))); clear h1; go_wp2_with fail; go_ret; exact retB_mk HE.out (Below.refl _ _)
  ·
   obtain rfl : k = pubs.length := by omega
   have HP := hD (upto_mem HNO.out); clear hlt hk HNO; go_wp2_with fail; go_loopw [8] (fun iv wx => ∃ k : Nat, k ≤ l.length ∧ iv = .int .i64 k ∧ (∀ (i : Nat) (x : CV), i < k → l[i]? = some x → x.prev.size ≤ 100) ∧ w = wx) (fun iv _ => l.length - (Go.RowKit.intOf iv).toNat)
   case atStart => exact ⟨0, Nat.zero_le _, rfl, fun i x h => absurd h (Nat.not_lt_zero _), rfl⟩
   case round =>
    obtain ⟨k, hk, rfl, hno, rfl⟩ := hrel; have HNO := hD hno; clear hno; by_cases hlt : k < l.length
    ·
     obtain ⟨x, hx⟩ : ∃ x, l[k]? = some x := ⟨_, List.getElem?_eq_getElem hlt⟩; obtain ⟨b, o, cs, rfl, hbl, -, hrg, hcs, -, hps⟩ := HC.out.at hx; unfold cellsC at hcs; subst hcs; unfold maxLen at hps; have HX := hD hx; have hlt' : (k : Int) < (l.length : Int) := by omega
     have c5 : w.cell? ⟨b, o + k * 8 + 5, none⟩ = some (.string x.prev) := hrg 5 _ rfl; clear hx hrg; by_cases h1 : x.prev.size ≤ 100
     ·
      have q1 : ¬ (100 : Int) < (x.prev.size : Int) := by omega
      have q2 : ¬ 100 < x.prev.size := by omega
      have HN := hD (upto_snoc HNO.out HX.out h1); clear h1; go_wp2_with fail; go_roundw
      case rel => exact ⟨k + 1, by omega, by go_num, HN.out, trivial⟩
      case measure => simp [Go.RowKit.intOf]; omega
     ·
      have q1 : (100 : Int) < (x.prev.size : Int) := by omega
      have q2 : 100 < x.prev.size := by omega
      have HE := hD (few46_no (pubs := pubs) (l := l) (vows := vows) (fun h => h1 (h.2.1 x (List.mem_of_getElem? HX.out)))); clear h1; go_wp2_with fail; go_ret; exact retB_mk HE.out (Below.refl _ _)
    ·
     obtain rfl : k = l.length := by omega
     have HA := hD (upto_mem HNO.out); clear hlt hk HNO; by_cases h1 : l.length ≤ 10
     ·
      have q1 : (l.length : Int) ≤ 10 := by omega
      by_cases h2 : pubs.length ≤ 10
      ·
       have q2 : (pubs.length : Int) ≤ 10 := by omega
       by_cases h3 : vows.length ≤ 4
       ·
        have q3 : (vows.length : Int) ≤ 4 := by omega
        have HE := hD (few46_iff.2 ⟨HP.out, HA.out, h1, h2, h3⟩); go_wp2_with fail; go_ret; exact retB_mk HE.out (Below.refl _ _)
       ·
        have q3 : ¬ (vows.length : Int) ≤ 4 := by omega
        have HE := hD (few46_no (pubs := pubs) (l := l) (vows := vows) (fun h => h3 h.2.2.2.2)); go_wp2_with fail; go_ret; exact retB_mk HE.out (Below.refl _ _)
      ·
       have q2 : ¬ (pubs.length : Int) ≤ 10 := by omega
       have HE := hD (few46_no (pubs := pubs) (l := l) (vows := vows) (fun h => h2 h.2.2.2.1)); go_wp2_with fail; go_ret; exact retB_mk HE.out (Below.refl _ _)
     ·
      have q1 : ¬ (l.length : Int) ≤ 10 := by omega
      have HE := hD (few46_no (pubs := pubs) (l := l) (vows := vows) (fun h => h1 h.2.2.1)); go_wp2_with fail; go_ret; exact retB_mk HE.out (Below.refl _ _)
theorem plain_any (x : BsX) (ar : Option Addr) (cr : Nat) (err : Int) (room : List Int) (w : World) (hL : LArg RInt 1 (.slice ar room.length cr) room w) : Calls Tryz.prog 7 #[.agg #[x.nm, .slice x.a1 x.n1 x.c1, x.k, .slice x.a3 x.n3 x.c3, .slice x.a4 x.n4 x.c4, .slice x.a5 x.n5 x.c5, .slice x.a6 x.n6 x.c6, .slice x.a7 x.n7 x.c7, .slice x.a8 x.n8 x.c8, .slice ar room.length cr, err]] w (RetB (plainB room err) w) := by
 obtain ⟨_, _, hq1, hq2, hq3⟩ := hL.slice; simp only [Value.slice.injEq] at hq1; obtain ⟨-, -, rfl⟩ := hq1; unfold maxLen at hq3; have HL := hD hL; have hrl : room.length ≤ 9223372036854775807 := by omega
 clear hL hq2 hq3; have HR := hD ((RowsS.nil w).alloc (.cells #[x.nm, .slice x.a1 x.n1 x.c1, x.k, .slice x.a3 x.n3 x.c3, .slice x.a4 x.n4 x.c4, .slice x.a5 x.n5 x.c5, .slice x.a6 x.n6 x.c6, .slice x.a7 x.n7 x.c7, .slice x.a8 x.n8 x.c8, .slice ar room.length cr, err] 31)); go_enter Tryz.func7, Tryz.ntmps7; go_upto_region 1 with fail; generalize w.alloc (.cells #[x.nm, .slice x.a1 x.n1 x.c1, x.k, .slice x.a3 x.n3 x.c3, .slice x.a4 x.n4 x.c4, .slice x.a5 x.n5 x.c5, .slice x.a6 x.n6 x.c6, .slice x.a7 x.n7 x.c7, .slice x.a8 x.n8 x.c8, .slice ar room.length cr, err] 31) = w0 at *; have c9 := HR.out.cell 0 9 rfl rfl; have c10 := HR.out.cell 0 10 rfl rfl; by_cases h1 : room.length = 3
 ·
  have q1 : ((room.length : Int) != 3) = false := by rw [bne_eq_false_iff_eq]; omega
  have q1b : (room.length : Int) = 3 := by omega
  have q1c : ((room.length : Int) == 3) = true := by rw [beq_iff_eq]; omega
  by_cases h2 : err < 0
  ·
   have q2 : decide (err < 0) = true := decide_eq_true h2; have HE := hD (plain_no (room := room) (err := err) (fun h => by have := h.2.1; omega)); go_wp2_with fail; go_ret; exact retB_mk HE.out HR.out.below
  ·
   have q2 : decide (err < 0) = false := decide_eq_false h2; by_cases h3 : 1099511627776 < err
   ·
    have q3 : decide (1099511627776 < err) = true := decide_eq_true h3; have HE := hD (plain_no (room := room) (err := err) (fun h => by have := h.2.1; omega)); go_wp2_with fail; go_ret; exact retB_mk HE.out HR.out.below
   ·
    have q3 : decide (1099511627776 < err) = false := decide_eq_false h3; go_wp2_with fail; clear q1 q1c q2 q3; go_loopw [3] (fun iv wx => ∃ k : Nat, k ≤ room.length ∧ iv = .int .i64 k ∧ (∀ (i : Nat) (r : Int), i < k → room[i]? = some r → 0 ≤ r ∧ r ≤ 1125899906842624) ∧ w0 = wx) (fun iv _ => room.length - (Go.RowKit.intOf iv).toNat)
    case atStart => exact ⟨0, Nat.zero_le _, rfl, fun i x h => absurd h (Nat.not_lt_zero _), rfl⟩
    case round =>
     obtain ⟨k, hk, rfl, hno, rfl⟩ := hrel; have HNO := hD hno; clear hno; by_cases hlt : k < room.length
     ·
      obtain ⟨r, hr⟩ : ∃ r, room[k]? = some r := ⟨_, List.getElem?_eq_getElem hlt⟩; obtain ⟨b, o, cs, rfl, hbl, -, hrg, rfl, -⟩ := (HL.out.below stays_int HR.out.below).at hr; have HX := hD hr; have hlt' : (k : Int) < (room.length : Int) := by omega
      have ce := hrg 0 _ rfl; simp only [Nat.mul_one, Nat.add_zero] at ce; clear hr hrg; by_cases h4 : r < 0
      ·
       have q4 : decide (r < 0) = true := decide_eq_true h4; have HE := hD (plain_no (room := room) (err := err) (fun h => by have := h.2.2 r (List.mem_of_getElem? HX.out); omega)); go_wp2_with fail; go_ret; exact retB_mk HE.out HR.out.below
      ·
       have q4 : decide (r < 0) = false := decide_eq_false h4; by_cases h5 : 1125899906842624 < r
       ·
        have q5 : decide (1125899906842624 < r) = true := decide_eq_true h5; have HE := hD (plain_no (room := room) (err := err) (fun h => by have := h.2.2 r (List.mem_of_getElem? HX.out); omega)); go_wp2_with fail; go_ret; exact retB_mk HE.out HR.out.below
       ·
        have q5 : decide (1125899906842624 < r) = false := decide_eq_false h5; have HN := hD (upto_snoc HNO.out HX.out ⟨by omega, by omega⟩); go_wp2_with fail; go_roundw
        case rel => exact ⟨k + 1, by omega, by go_num, HN.out, trivial⟩
        case measure => simp [Go.RowKit.intOf]; omega
     ·
      obtain rfl : k = room.length := by omega
      have HE := hD (plain_iff.2 ⟨h1, ⟨by omega, by omega⟩, upto_mem HNO.out⟩); have hlt' : ¬ (room.length : Int) < (room.length : Int) := by omega
      clear hlt hk h1 h2 h3 q1b; go_wp2_with fail; go_ret; exact retB_mk HE.out HR.out.below
 ·
  have q1 : ((room.length : Int) != 3) = true := by rw [bne_iff_ne]; omega
  have q1b : ¬ (room.length : Int) = 3 := by omega
  have q1c : ((room.length : Int) == 3) = false := by rw [beq_eq_false_iff_ne]; omega
  have HE := hD (plain_no (room := room) (err := err) (fun h => h1 h.1)); go_wp2_with fail; go_ret; exact retB_mk HE.out HR.out.below
end Go.Proofs.YtjbjpkhibcnenaaGreatDoor
