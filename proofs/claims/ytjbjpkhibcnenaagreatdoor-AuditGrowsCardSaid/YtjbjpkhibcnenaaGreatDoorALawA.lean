/- bournelaw46: Key, Publics, signed. -/
import Derived.Outline
import Derived.Test.YtjbjpkhibcnenaaGreatDoorWList
import Derived.Test.YtjbjpkhibcnenaaGreatDoorGArgs
import Derived.Test.YtjbjpkhibcnenaaGreatDoorSRef6
namespace Go.Proofs.YtjbjpkhibcnenaaGreatDoor
open Go.RowKit
/-- the keys of the offices -/
def xk : Nat → Nat | 0 => keyN [97, 48] | 1 => keyN [97, 49] | _ => keyN [97, 50]
def pk (j : Nat) : Int := (pubN (xk j) : Nat)
def PSK : List Int := [pk 0, pk 1, pk 2]
theorem xk_bd (j : Nat) : 1 ≤ xk j ∧ xk j < 1152921504606845789 := by
  unfold xk
  split <;> exact keyN_bd _
theorem pk_I (j : Nat) : I64 (pk j) := by
  have h := pub_lt (xk j)
  unfold pk I64
  omega
theorem psk_I : ∀ p ∈ PSK, I64 p := fun p hp => by
  unfold PSK at hp
  simp only [List.mem_cons, List.not_mem_nil, or_false] at hp
  rcases hp with rfl | rfl | rfl
  · exact pk_I 0
  · exact pk_I 1
  · exact pk_I 2
theorem psk_at {j : Nat} (hj : j < 3) : (PSK[j]?).getD 0 = pk j := by
  rcases j with _ | _ | _ | j
  · rfl
  · rfl
  · rfl
  · omega
theorem field_pub (a b : Int) (w : World) : (Instr.field 73 (.agg #[.int .i64 a, .int .i64 b]) 1).run Tryz.prog w = .ok (.int .i64 b) w := by kernel_rfl
/-- a claim, signed by an office's key -/
def sgC (j : Nat) (c : CV) : CV := ⟨c.office, c.hour, c.inn, c.out, c.store, c.prev, (signR (xk j : Nat) (pk j) ctxC (coreC c)).1, (signR (xk j : Nat) (pk j) ctxC (coreC c)).2⟩
theorem sgC_core (j : Nat) (c : CV) : coreC (sgC j c) = coreC c := rfl
theorem sgC_vouched (j : Nat) (c : CV) : VouchedC (pk j) (sgC j c) := by
  have hb := xk_bd j
  have h := ver_same hb.1 hb.2 ctxC (coreC c)
  have hr : RightK (xk j : Nat) (pk j) := ⟨by omega, by omega, by rw [Int.toNat_natCast]; rfl⟩
  unfold VouchedC
  rw [sgC_core]
  unfold sgC signR
  simp only
  rw [if_pos hr, Int.toNat_natCast]
  exact h
theorem sgC_I (j : Nat) (c : CV) : I64 (sgC j c).e ∧ I64 (sgC j c).s := by
  have h := sgC_vouched j c
  unfold VouchedC VerOk at h
  obtain ⟨-, -, ⟨h1, h2⟩, ⟨h3, h4⟩, -⟩ := h
  exact ⟨⟨by omega, by omega⟩, ⟨by omega, by omega⟩⟩
set_option maxRecDepth 100000 in
set_option maxHeartbeats 4000000 in
theorem lkey0 (w : World) : Calls Tryz.prog 30 #[.int .i64 0] w fun e w' => e = .returned (.agg #[.int .i64 ((xk 0 : Nat) : Int), .int .i64 (pk 0)]) ∧ Below w.heap.size w w' := by
  have hk : ∀ w, Calls Tryz.prog 61 #[.string ⟨#[97, 48]⟩] w fun e w' => e = .returned (.agg #[.int .i64 ((xk 0 : Nat) : Int), .int .i64 (pk 0)]) ∧ Below w.heap.size w w' := fun w => rkey_any ⟨#[97, 48]⟩ w (by decide)
  have HKy := Lib.hid hk
  clear hk
  obtain ⟨x, hx⟩ : ∃ x : Int, x = ((xk 0 : Nat) : Int) := ⟨_, rfl⟩
  obtain ⟨p, hp⟩ : ∃ p : Int, p = pk 0 := ⟨_, rfl⟩
  rw [← hx, ← hp] at HKy ⊢
  clear hx hp
  have HR := Lib.hid ((RowsS.nil w).alloc (.cells #[.int .i64 0, .int .i64 0] 73))
  go_enter Tryz.func30, Tryz.ntmps30
  go_upto_region 1 with fail
  generalize w.alloc (.cells #[.int .i64 0, .int .i64 0] 73) = w0 at *
  have ha : Below w0.heap.size w0 (w0.alloc (.cells #[.int .u8 48] 5)) := (Below.refl _ _).alloc (Nat.le_refl _) _
  have HO : Hid ((w0.alloc (.cells #[.int .u8 48] 5)).ownsRow 0 5 1 (.slice (some ⟨w0.heap.size, 0, none⟩) 1 1) 1 (bytesV [48])) := Lib.hid ⟨rfl, Or.inr ⟨w0.heap.size, 1, #[.int .u8 48], rfl, Nat.zero_le _, heap_alloc_new _ _, Nat.le_refl _, by decide, rfl, rfl⟩⟩
  have HR1 := Lib.hid (HR.out.step ha)
  clear ha HR
  go_wp2_with (refine wpList_string_own rfl 113 9 5 _ rfl undBs undB undS _ rfl 0 1 [48] HO.out ?_)
  refine (HKy.out _).mono ?_
  rintro e w2 ⟨rfl, hb2⟩
  have HR2 := Lib.hid (HR1.out.step hb2)
  clear hb2 HR1 HO
  go_wp2_with (refine wpList_store_row rfl 73 _ _ rfl w.heap.size #[.int .i64 x, .int .i64 p] rfl rfl 73 #[.int .i64 0, .int .i64 0] (HR2.out.row 0 rfl) infoKey rfl (by simp [Value.oneCell']) ?_)
  have HRZ := Lib.hid (HR2.out.set (i := 0) (cs' := #[.int .i64 x, .int .i64 p]) rfl)
  exact bodyPost_ret (v := .agg #[.int .i64 x, .int .i64 p]) (results_cell_row rfl _ _ _ 73 _ (0, 0) _ rfl (HRZ.out.row 0 rfl) undKey rfl infoKey) rfl ⟨rfl, HRZ.out.below⟩
set_option maxRecDepth 100000 in
set_option maxHeartbeats 4000000 in
theorem lkey1 (w : World) : Calls Tryz.prog 30 #[.int .i64 1] w fun e w' => e = .returned (.agg #[.int .i64 ((xk 1 : Nat) : Int), .int .i64 (pk 1)]) ∧ Below w.heap.size w w' := by
  have hk : ∀ w, Calls Tryz.prog 61 #[.string ⟨#[97, 49]⟩] w fun e w' => e = .returned (.agg #[.int .i64 ((xk 1 : Nat) : Int), .int .i64 (pk 1)]) ∧ Below w.heap.size w w' := fun w => rkey_any ⟨#[97, 49]⟩ w (by decide)
  have HKy := Lib.hid hk
  clear hk
  obtain ⟨x, hx⟩ : ∃ x : Int, x = ((xk 1 : Nat) : Int) := ⟨_, rfl⟩
  obtain ⟨p, hp⟩ : ∃ p : Int, p = pk 1 := ⟨_, rfl⟩
  rw [← hx, ← hp] at HKy ⊢
  clear hx hp
  have HR := Lib.hid ((RowsS.nil w).alloc (.cells #[.int .i64 0, .int .i64 0] 73))
  go_enter Tryz.func30, Tryz.ntmps30
  go_upto_region 1 with fail
  generalize w.alloc (.cells #[.int .i64 0, .int .i64 0] 73) = w0 at *
  have ha : Below w0.heap.size w0 (w0.alloc (.cells #[.int .u8 49] 5)) := (Below.refl _ _).alloc (Nat.le_refl _) _
  have HO : Hid ((w0.alloc (.cells #[.int .u8 49] 5)).ownsRow 0 5 1 (.slice (some ⟨w0.heap.size, 0, none⟩) 1 1) 1 (bytesV [49])) := Lib.hid ⟨rfl, Or.inr ⟨w0.heap.size, 1, #[.int .u8 49], rfl, Nat.zero_le _, heap_alloc_new _ _, Nat.le_refl _, by decide, rfl, rfl⟩⟩
  have HR1 := Lib.hid (HR.out.step ha)
  clear ha HR
  go_wp2_with (refine wpList_string_own rfl 113 9 5 _ rfl undBs undB undS _ rfl 0 1 [49] HO.out ?_)
  refine (HKy.out _).mono ?_
  rintro e w2 ⟨rfl, hb2⟩
  have HR2 := Lib.hid (HR1.out.step hb2)
  clear hb2 HR1 HO
  go_wp2_with (refine wpList_store_row rfl 73 _ _ rfl w.heap.size #[.int .i64 x, .int .i64 p] rfl rfl 73 #[.int .i64 0, .int .i64 0] (HR2.out.row 0 rfl) infoKey rfl (by simp [Value.oneCell']) ?_)
  have HRZ := Lib.hid (HR2.out.set (i := 0) (cs' := #[.int .i64 x, .int .i64 p]) rfl)
  exact bodyPost_ret (v := .agg #[.int .i64 x, .int .i64 p]) (results_cell_row rfl _ _ _ 73 _ (0, 0) _ rfl (HRZ.out.row 0 rfl) undKey rfl infoKey) rfl ⟨rfl, HRZ.out.below⟩
set_option maxRecDepth 100000 in
set_option maxHeartbeats 4000000 in
theorem lkey2 (w : World) : Calls Tryz.prog 30 #[.int .i64 2] w fun e w' => e = .returned (.agg #[.int .i64 ((xk 2 : Nat) : Int), .int .i64 (pk 2)]) ∧ Below w.heap.size w w' := by
  have hk : ∀ w, Calls Tryz.prog 61 #[.string ⟨#[97, 50]⟩] w fun e w' => e = .returned (.agg #[.int .i64 ((xk 2 : Nat) : Int), .int .i64 (pk 2)]) ∧ Below w.heap.size w w' := fun w => rkey_any ⟨#[97, 50]⟩ w (by decide)
  have HKy := Lib.hid hk
  clear hk
  obtain ⟨x, hx⟩ : ∃ x : Int, x = ((xk 2 : Nat) : Int) := ⟨_, rfl⟩
  obtain ⟨p, hp⟩ : ∃ p : Int, p = pk 2 := ⟨_, rfl⟩
  rw [← hx, ← hp] at HKy ⊢
  clear hx hp
  have HR := Lib.hid ((RowsS.nil w).alloc (.cells #[.int .i64 0, .int .i64 0] 73))
  go_enter Tryz.func30, Tryz.ntmps30
  go_upto_region 1 with fail
  generalize w.alloc (.cells #[.int .i64 0, .int .i64 0] 73) = w0 at *
  have ha : Below w0.heap.size w0 (w0.alloc (.cells #[.int .u8 50] 5)) := (Below.refl _ _).alloc (Nat.le_refl _) _
  have HO : Hid ((w0.alloc (.cells #[.int .u8 50] 5)).ownsRow 0 5 1 (.slice (some ⟨w0.heap.size, 0, none⟩) 1 1) 1 (bytesV [50])) := Lib.hid ⟨rfl, Or.inr ⟨w0.heap.size, 1, #[.int .u8 50], rfl, Nat.zero_le _, heap_alloc_new _ _, Nat.le_refl _, by decide, rfl, rfl⟩⟩
  have HR1 := Lib.hid (HR.out.step ha)
  clear ha HR
  go_wp2_with (refine wpList_string_own rfl 113 9 5 _ rfl undBs undB undS _ rfl 0 1 [50] HO.out ?_)
  refine (HKy.out _).mono ?_
  rintro e w2 ⟨rfl, hb2⟩
  have HR2 := Lib.hid (HR1.out.step hb2)
  clear hb2 HR1 HO
  go_wp2_with (refine wpList_store_row rfl 73 _ _ rfl w.heap.size #[.int .i64 x, .int .i64 p] rfl rfl 73 #[.int .i64 0, .int .i64 0] (HR2.out.row 0 rfl) infoKey rfl (by simp [Value.oneCell']) ?_)
  have HRZ := Lib.hid (HR2.out.set (i := 0) (cs' := #[.int .i64 x, .int .i64 p]) rfl)
  exact bodyPost_ret (v := .agg #[.int .i64 x, .int .i64 p]) (results_cell_row rfl _ _ _ 73 _ (0, 0) _ rfl (HRZ.out.row 0 rfl) undKey rfl infoKey) rfl ⟨rfl, HRZ.out.below⟩
theorem lkey_any (j : Nat) (hj : j < 3) (w : World) : Calls Tryz.prog 30 #[.int .i64 (j : Int)] w fun e w' => e = .returned (.agg #[.int .i64 ((xk j : Nat) : Int), .int .i64 (pk j)]) ∧ Below w.heap.size w w' := by
  rcases j with _ | _ | _ | j
  · exact lkey0 w
  · exact lkey1 w
  · exact lkey2 w
  · omega
set_option maxRecDepth 100000 in
set_option maxHeartbeats 4000000 in
theorem publics_any (w : World) : Calls Tryz.prog 10 #[] w fun e w' => ∃ b, e = .returned (.slice (some ⟨b, 0, none⟩) 3 3) ∧ w'.heap[b]? = some (.cells #[.int .i64 (pk 0), .int .i64 (pk 1), .int .i64 (pk 2)] 3 (0, 0)) ∧ w.heap.size ≤ b ∧ Below w.heap.size w w' := by
  have hf := field_pub
  have HK0 := Lib.hid lkey0
  have HK1 := Lib.hid lkey1
  have HK2 := Lib.hid lkey2
  obtain ⟨x0, hx0⟩ : ∃ x : Int, x = ((xk 0 : Nat) : Int) := ⟨_, rfl⟩
  obtain ⟨x1, hx1⟩ : ∃ x : Int, x = ((xk 1 : Nat) : Int) := ⟨_, rfl⟩
  obtain ⟨x2, hx2⟩ : ∃ x : Int, x = ((xk 2 : Nat) : Int) := ⟨_, rfl⟩
  obtain ⟨p0, hp0⟩ : ∃ p : Int, p = pk 0 := ⟨_, rfl⟩
  obtain ⟨p1, hp1⟩ : ∃ p : Int, p = pk 1 := ⟨_, rfl⟩
  obtain ⟨p2, hp2⟩ : ∃ p : Int, p = pk 2 := ⟨_, rfl⟩
  rw [← hx0, ← hp0] at HK0
  rw [← hx1, ← hp1] at HK1
  rw [← hx2, ← hp2] at HK2
  rw [← hp0, ← hp1, ← hp2]
  clear hx0 hx1 hx2 hp0 hp1 hp2
  go_enter Tryz.func10, Tryz.ntmps10
  go_wp2_with fail
  refine (HK0.out _).mono ?_
  rintro e w1 ⟨rfl, hb1⟩
  have HB1 := Lib.hid hb1
  clear hb1
  go_wp2_with fail
  refine (HK1.out _).mono ?_
  rintro e w2 ⟨rfl, hb2⟩
  have HB2 := Lib.hid (HB1.out.trans (hb2.mono HB1.out.size))
  clear hb2 HB1
  go_wp2_with fail
  refine (HK2.out _).mono ?_
  rintro e w3 ⟨rfl, hb3⟩
  have HB3 := Lib.hid (HB2.out.trans (hb3.mono HB2.out.size))
  clear hb3 HB2
  go_wp2_with fail
  go_ret
  exact ⟨_, rfl, heap_alloc_new _ _, HB3.out.size, HB3.out.alloc HB3.out.size _⟩
set_option maxRecDepth 100000 in
set_option maxHeartbeats 8000000 in
theorem signed_any (j : Nat) (c : CV) (w : World) (hj : j < 3) (hjo : c.office = (j : Int)) (hO : COk c) (hp : c.prev.size ≤ 900) (hg : Glob w) (hml : MLen w) : Calls Tryz.prog 21 #[.agg #[.int .i64 (j : Int), .int .i64 c.hour, .int .i64 c.inn, .int .i64 c.out, .int .i64 c.store, .string c.prev, .int .i64 c.e, .int .i64 c.s]] w fun e w' => e = .returned (aggC (sgC j c)) ∧ Below w.heap.size w w' := by
  have HK := Lib.hid (fun w => lkey_any j hj w)
  have hs : ∀ w0, Below w.heap.size w w0 → Calls Tryz.prog 49 #[.agg #[.int .i64 ((xk j : Nat) : Int), .int .i64 (pk j)], .agg #[.int .i64 (j : Int), .int .i64 c.hour, .int .i64 c.inn, .int .i64 c.out, .int .i64 c.store, .string c.prev, .int .i64 c.e, .int .i64 c.s]] w0 fun e w' => e = .returned (.agg #[.int .i64 (j : Int), .int .i64 c.hour, .int .i64 c.inn, .int .i64 c.out, .int .i64 c.store, .string c.prev, .int .i64 (sgC j c).e, .int .i64 (sgC j c).s]) ∧ Below w0.heap.size w0 w' := fun w0 hb => by
    have h := signC_any ((xk j : Nat) : Int) (pk j) c w0 hO hp (hg.below hb hg.size) (hml.up hb)
    rw [hjo] at h
    exact h
  have HSg := Lib.hid hs
  have he : aggC (sgC j c) = .agg #[.int .i64 (j : Int), .int .i64 c.hour, .int .i64 c.inn, .int .i64 c.out, .int .i64 c.store, .string c.prev, .int .i64 (sgC j c).e, .int .i64 (sgC j c).s] := by
    rw [← hjo]
    rfl
  rw [he]
  obtain ⟨x, hx⟩ : ∃ x : Int, x = ((xk j : Nat) : Int) := ⟨_, rfl⟩
  obtain ⟨p, hp⟩ : ∃ p : Int, p = pk j := ⟨_, rfl⟩
  obtain ⟨E, hE⟩ : ∃ E : Int, E = (sgC j c).e := ⟨_, rfl⟩
  obtain ⟨S, hS⟩ : ∃ S : Int, S = (sgC j c).s := ⟨_, rfl⟩
  rw [← hx, ← hp] at HK
  rw [← hx, ← hp, ← hE, ← hS] at HSg
  rw [← hE, ← hS]
  have t1 : ¬ (j : Int) < 0 := by omega
  have t2 : (j : Int) < 3 := by omega
  have t3 : ¬ (3 : Int) ≤ (j : Int) := by omega
  clear hs he hx hp hE hS
  have s1 : (w.alloc (.cells #[.int .i64 (j : Int), .int .i64 c.hour, .int .i64 c.inn, .int .i64 c.out, .int .i64 c.store, .string c.prev, .int .i64 c.e, .int .i64 c.s] 63)).heap.size = w.heap.size + 1 := by simp
  have HR : Hid (RowsS w [(w.heap.size, .cells #[.int .i64 (j : Int), .int .i64 c.hour, .int .i64 c.inn, .int .i64 c.out, .int .i64 c.store, .string c.prev, .int .i64 c.e, .int .i64 c.s] 63), ((w.heap.size + 1), .cells #[.int .i64 0, .int .i64 0, .int .i64 0, .int .i64 0, .int .i64 0, .string ⟨#[]⟩, .int .i64 0, .int .i64 0] 63)] ((w.alloc (.cells #[.int .i64 (j : Int), .int .i64 c.hour, .int .i64 c.inn, .int .i64 c.out, .int .i64 c.store, .string c.prev, .int .i64 c.e, .int .i64 c.s] 63)).alloc (.cells #[.int .i64 0, .int .i64 0, .int .i64 0, .int .i64 0, .int .i64 0, .string ⟨#[]⟩, .int .i64 0, .int .i64 0] 63))) := Lib.hid (by
    have := ((RowsS.nil w).alloc (.cells #[.int .i64 (j : Int), .int .i64 c.hour, .int .i64 c.inn, .int .i64 c.out, .int .i64 c.store, .string c.prev, .int .i64 c.e, .int .i64 c.s] 63)).alloc (.cells #[.int .i64 0, .int .i64 0, .int .i64 0, .int .i64 0, .int .i64 0, .string ⟨#[]⟩, .int .i64 0, .int .i64 0] 63)
    rw [s1] at this
    exact this)
  clear s1
  go_enter Tryz.func21, Tryz.ntmps21
  go_upto_region 1 with fail
  generalize ((w.alloc (.cells #[.int .i64 (j : Int), .int .i64 c.hour, .int .i64 c.inn, .int .i64 c.out, .int .i64 c.store, .string c.prev, .int .i64 c.e, .int .i64 c.s] 63)).alloc (.cells #[.int .i64 0, .int .i64 0, .int .i64 0, .int .i64 0, .int .i64 0, .string ⟨#[]⟩, .int .i64 0, .int .i64 0] 63)) = w0 at *
  have c0 := HR.out.cell 0 0 rfl rfl
  go_upto_region 3 with fail
  clear c0
  have hRs := HR.out.take 1
  have hZZ := HR.out.row 1 rfl
  have hgZ : w.heap.size ≤ w.heap.size + 1 := Nat.le_succ _
  have hnZ : w.heap.size + 1 ∉ [w.heap.size] := by simp
  refine wp_region_noPanic ?_
  refine wp_region_held_drew (S := fun cw => RowsS w [(w.heap.size, .cells #[.int .i64 (j : Int), .int .i64 c.hour, .int .i64 c.inn, .int .i64 c.out, .int .i64 c.store, .string c.prev, .int .i64 c.e, .int .i64 c.s] 63)] cw) (by kernel_rfl) (hRs.drew) (fun hHeld => ?_)
  refine tn 0 ?_
  try simp only [Act.put, aL1, aL2, aL3]
  refine tn 1 ?_ (hx := fun wz hSw => by have e4 := hSw.cell 0 0 rfl rfl; go_simp; try with_reducible rfl)
  try simp only [Act.put, aL1, aL2, aL3]
  refine tn 3 ?_ (hx := fun wz hSw => by refine exec_load_row 63 ?_ ?_ _ ?_ 63 _ _ _ (hSw.row 0 rfl) undCm rfl infoCm; rotate_left 1; exact rfl; exact rfl)
  try simp only [Act.put, aL1, aL2, aL3]
  refine rd1 2 (fun K hK => ?_)
  go_simp
  refine (HK.out _).mono ?_
  rintro e w' ⟨rfl, hb⟩
  have hZZ := (hb.block (w.heap.size + 1) (blk_lt hZZ)).trans hZZ
  refine hK.out _ _ (hHeld.step hb) (fun hHeld => ?_)
  clear hK K
  try simp only [Act.put, aL1, aL2, aL3]
  refine rd1 4 (fun K hK => ?_)
  go_simp
  refine (HSg.out _ hHeld.below).mono ?_
  rintro e w' ⟨rfl, hb⟩
  have hZZ := (hb.block (w.heap.size + 1) (blk_lt hZZ)).trans hZZ
  refine hK.out _ _ (hHeld.step hb) (fun hHeld => ?_)
  clear hK K
  try simp only [Act.put, aL1, aL2, aL3]
  refine rd1 5 (fun K hK => ?_)
  rw [if_pos (by rfl)]
  refine wp_store_row 63 _ _ rfl (w.heap.size + 1) #[.int .i64 (j : Int), .int .i64 c.hour, .int .i64 c.inn, .int .i64 c.out, .int .i64 c.store, .string c.prev, .int .i64 E, .int .i64 S] rfl rfl 63 #[.int .i64 0, .int .i64 0, .int .i64 0, .int .i64 0, .int .i64 0, .string ⟨#[]⟩, .int .i64 0, .int .i64 0] hZZ infoCm rfl (by simp [Value.oneCell']) ?_
  have hZZ := setRow_heap _ _ _ #[.int .i64 (j : Int), .int .i64 c.hour, .int .i64 c.inn, .int .i64 c.out, .int .i64 c.store, .string c.prev, .int .i64 E, .int .i64 S] _ _ hZZ
  refine hK.out _ _ (hHeld.setOther hgZ hnZ _) (fun hHeld => ?_)
  clear hK K
  try simp only [Act.put]
  refine rdone (NoPanic.normal ?_)
  go_wp2_with fail
  exact bodyPost_ret (v := .agg #[.int .i64 (j : Int), .int .i64 c.hour, .int .i64 c.inn, .int .i64 c.out, .int .i64 c.store, .string c.prev, .int .i64 E, .int .i64 S]) (results_cell_row rfl _ _ _ 63 _ (0, 0) _ rfl hZZ undCm rfl infoCm) rfl ⟨rfl, hHeld.below⟩
end Go.Proofs.YtjbjpkhibcnenaaGreatDoor

