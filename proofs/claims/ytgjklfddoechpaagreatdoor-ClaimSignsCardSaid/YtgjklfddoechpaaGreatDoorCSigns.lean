/- bournelaw45.ClaimSigns returns true. -/
import Derived.Test.YtgjklfddoechpaaGreatDoorCShort
import Derived.Test.YtgjklfddoechpaaGreatDoorSRef5
import Derived.Outline
namespace Go.Proofs.YtgjklfddoechpaaGreatDoor
open Go.RowKit
theorem four_rowsS {w : World} {A B C D : Obj} : ((((w.alloc A).alloc B).alloc C).alloc D).heap[w.heap.size]? = some A ∧ ((((w.alloc A).alloc B).alloc C).alloc D).heap[w.heap.size + 1]? = some B ∧ ((((w.alloc A).alloc B).alloc C).alloc D).heap[w.heap.size + 1 + 1]? = some C ∧ ((((w.alloc A).alloc B).alloc C).alloc D).heap[w.heap.size + 1 + 1 + 1]? = some D ∧ Below w.heap.size w ((((w.alloc A).alloc B).alloc C).alloc D) := by
  obtain ⟨h1, h2, h3, h4⟩ := three_rows (w := w) (A := A) (B := B) (C := C)
  have s3 : (((w.alloc A).alloc B).alloc C).heap.size = w.heap.size + 1 + 1 + 1 := by simp
  have hD := heap_alloc_new (((w.alloc A).alloc B).alloc C) D
  rw [s3] at hD
  have hb : Below (((w.alloc A).alloc B).alloc C).heap.size (((w.alloc A).alloc B).alloc C) ((((w.alloc A).alloc B).alloc C).alloc D) := (Below.refl _ _).alloc (Nat.le_refl _) _
  exact ⟨blk_below h1 hb (blk_lt h1), blk_below h2 hb (blk_lt h2), blk_below h3 hb (blk_lt h3), hD, h4.trans (hb.mono h4.size)⟩
def ok6 (o h i u s : Int) (pv : ByteArray) : Prop := I64 o ∧ I64 h ∧ I64 i ∧ I64 u ∧ I64 s ∧ pv.size ≤ 900
def core6 (o h i u s : Int) (pv : ByteArray) : ByteArray := ⟨(coreC ⟨o, h, i, u, s, pv, 0, 0⟩).toArray⟩
/-- Core looks at no signature -/
theorem coreE_any (o h i u s : Int) (pv : ByteArray) (e f : Int) (w : World) (hk : ok6 o h i u s pv) (he : I64 e) (hf : I64 f) (hml : MLen w) :
    Calls Tryz.prog 12 #[.agg #[.int .i64 o, .int .i64 h, .int .i64 i, .int .i64 u, .int .i64 s, .string pv, .int .i64 e, .int .i64 f]] w fun r w' => r = .returned (.string (core6 o h i u s pv)) ∧ Below w.heap.size w w' :=
  coreC_any ⟨o, h, i, u, s, pv, e, f⟩ w ⟨hk.1, hk.2.1, hk.2.2.1, hk.2.2.2.1, hk.2.2.2.2.1, he, hf⟩ (by have := hk.2.2.2.2.2; show pv.size ≤ 1000; omega) hml
structure SignsF (x y : Int) (c d : CV) (p : PV) (g1 g2 t1 t2 r : Int) (vd : Bool) (KF : Int → Int → Int → Int → Int → ByteArray → ByteArray) (YC : ByteArray → Int) : Prop where
  sgc : ∀ w, Glob w → MLen w → Calls Tryz.prog 20 #[.agg #[.int .i64 x, .int .i64 y], .agg #[.int .i64 c.office, .int .i64 c.hour, .int .i64 c.inn, .int .i64 c.out, .int .i64 c.store, .string c.prev, .int .i64 c.e, .int .i64 c.s]] w fun e w' => e = .returned (.agg #[.int .i64 c.office, .int .i64 c.hour, .int .i64 c.inn, .int .i64 c.out, .int .i64 c.store, .string c.prev, .int .i64 g1, .int .i64 g2]) ∧ Below w.heap.size w w'
  sgp : ∀ w, Glob w → MLen w → Calls Tryz.prog 24 #[.agg #[.int .i64 x, .int .i64 y], .agg #[.int .i64 p.office, .int .i64 p.since, .int .i64 p.till, .int .i64 p.litres, .int .i64 p.e, .int .i64 p.s]] w fun e w' => e = .returned (.agg #[.int .i64 p.office, .int .i64 p.since, .int .i64 p.till, .int .i64 p.litres, .int .i64 t1, .int .i64 t2]) ∧ Below w.heap.size w w'
  verx : ∀ w, Glob w → MLen w → Calls Tryz.prog 22 #[.int .i64 y, .agg #[.int .i64 c.office, .int .i64 c.hour, .int .i64 c.inn, .int .i64 c.out, .int .i64 c.store, .string c.prev, .int .i64 g1, .int .i64 g2]] w fun e w' => e = .returned (.bool true) ∧ Below w.heap.size w w'
  pver : ∀ w, Glob w → MLen w → Calls Tryz.prog 26 #[.int .i64 y, .agg #[.int .i64 p.office, .int .i64 p.since, .int .i64 p.till, .int .i64 p.litres, .int .i64 t1, .int .i64 t2]] w fun e w' => e = .returned (.bool true) ∧ Below w.heap.size w w'
  verd : ∀ w, Glob w → MLen w → Calls Tryz.prog 22 #[.int .i64 y, .agg #[.int .i64 d.office, .int .i64 d.hour, .int .i64 d.inn, .int .i64 d.out, .int .i64 d.store, .string d.prev, .int .i64 g1, .int .i64 g2]] w fun e w' => e = .returned (.bool vd) ∧ Below w.heap.size w w'
  core : ∀ o h i u s pv (e f : Int), ok6 o h i u s pv → I64 e → I64 f → ∀ w, MLen w → Calls Tryz.prog 12 #[.agg #[.int .i64 o, .int .i64 h, .int .i64 i, .int .i64 u, .int .i64 s, .string pv, .int .i64 e, .int .i64 f]] w fun e w' => e = .returned (.string (KF o h i u s pv)) ∧ Below w.heap.size w w'
  elem : ∀ w, Calls Tryz.prog 32 #[.int .i64 y, .agg #[.int .i64 g1, .int .i64 g2]] w fun e w' => e = .returned (.int .i64 r) ∧ Below w.heap.size w w'
  chal : ∀ m : ByteArray, m.size ≤ 2000 → ∀ w, Calls Tryz.prog 33 #[.int .i64 r, .int .i64 y, .string ⟨#[99, 108, 97, 105, 109]⟩, .string m] w fun e w' => e = .returned (.int .i64 (YC m)) ∧ Below w.heap.size w w'
  ig1 : I64 g1
  ig2 : I64 g2
  ic1 : I64 c.e
  ic2 : I64 c.s
  okc : ok6 c.office c.hour c.inn c.out c.store c.prev
  okd : ok6 d.office d.hour d.inn d.out d.store d.prev
  szc : (KF c.office c.hour c.inn c.out c.store c.prev).size ≤ 2000
  szd : (KF d.office d.hour d.inn d.out d.store d.prev).size ≤ 2000
  same : vd = true → (YC (KF d.office d.hour d.inn d.out d.store d.prev) == YC (KF c.office c.hour c.inn c.out c.store c.prev)) = true
  apart : vd = false → ((KF d.office d.hour d.inn d.out d.store d.prev).toList == (KF c.office c.hour c.inn c.out c.store c.prev).toList) = false
theorem core6_eq (c : CV) : coreC c = coreC ⟨c.office, c.hour, c.inn, c.out, c.store, c.prev, 0, 0⟩ := rfl
theorem toLS (l : List UInt8) : (⟨l.toArray⟩ : ByteArray).toList = l := by rw [ByteArray.toList_eq]
theorem signsF (n : Nat) (c d : CV) (p : PV) (h1 : 1 ≤ n) (h2 : n < 1152921504606845789) (hc : COk c) (hd : COk d) (hp : POk p) (hcs : c.prev.size ≤ 100) (hds : d.prev.size ≤ 100) :
    ∃ g1 g2 t1 t2 r vd KF YC, SignsF (n : Int) (pubN n : Nat) c d p g1 g2 t1 t2 r vd KF YC := by
  obtain ⟨g1, hg1⟩ : ∃ e : Int, e = (sgE n ctxC (coreC c) : Nat) := ⟨_, rfl⟩
  obtain ⟨g2, hg2⟩ : ∃ e : Int, e = (sgS n ctxC (coreC c) : Nat) := ⟨_, rfl⟩
  obtain ⟨t1, ht1⟩ : ∃ e : Int, e = (sgE n ctxP (coreP p) : Nat) := ⟨_, rfl⟩
  obtain ⟨t2, ht2⟩ : ∃ e : Int, e = (sgS n ctxP (coreP p) : Nat) := ⟨_, rfl⟩
  have i1 : I64 g1 := by rw [hg1]; exact (i64_sg _ _ _).1
  have i2 : I64 g2 := by rw [hg2]; exact (i64_sg _ _ _).2
  have i3 : I64 t1 := by rw [ht1]; exact (i64_sg _ _ _).1
  have i4 : I64 t2 := by rw [ht2]; exact (i64_sg _ _ _).2
  have okx : COk ⟨c.office, c.hour, c.inn, c.out, c.store, c.prev, g1, g2⟩ := ⟨hc.1, hc.2.1, hc.2.2.1, hc.2.2.2.1, hc.2.2.2.2.1, i1, i2⟩
  have okdx : COk ⟨d.office, d.hour, d.inn, d.out, d.store, d.prev, g1, g2⟩ := ⟨hd.1, hd.2.1, hd.2.2.1, hd.2.2.2.1, hd.2.2.2.2.1, i1, i2⟩
  have okpx : POk ⟨p.office, p.since, p.till, p.litres, t1, t2⟩ := ⟨hp.1, hp.2.1, hp.2.2.1, hp.2.2.2.1, i3, i4⟩
  have vx : VouchedC (pubN n : Nat) ⟨c.office, c.hour, c.inn, c.out, c.store, c.prev, g1, g2⟩ := by
    have h := ver_same h1 h2 ctxC (coreC c)
    rw [← hg1, ← hg2] at h
    exact h
  have vp : VouchedP (pubN n : Nat) ⟨p.office, p.since, p.till, p.litres, t1, t2⟩ := by
    have h := ver_same h1 h2 ctxP (coreP p)
    rw [← ht1, ← ht2] at h
    exact h
  have hE := sgE_lt n ctxC (coreC c)
  have hS := sgS_lt n ctxC (coreC c)
  have rb : elemN (pubN n : Nat) g1 g2 < 2305843009213691579 := lt_p _
  have o6c : ok6 c.office c.hour c.inn c.out c.store c.prev := ⟨hc.1, hc.2.1, hc.2.2.1, hc.2.2.2.1, hc.2.2.2.2.1, by omega⟩
  have o6d : ok6 d.office d.hour d.inn d.out d.store d.prev := ⟨hd.1, hd.2.1, hd.2.2.1, hd.2.2.2.1, hd.2.2.2.2.1, by omega⟩
  have szc : (core6 c.office c.hour c.inn c.out c.store c.prev).size ≤ 2000 := coreC_size (c := ⟨c.office, c.hour, c.inn, c.out, c.store, c.prev, 0, 0⟩) ⟨hc.1, hc.2.1, hc.2.2.1, hc.2.2.2.1, hc.2.2.2.2.1, i64_0, i64_0⟩ (by show c.prev.size ≤ 900; omega) rfl
  have szd : (core6 d.office d.hour d.inn d.out d.store d.prev).size ≤ 2000 := coreC_size (c := ⟨d.office, d.hour, d.inn, d.out, d.store, d.prev, 0, 0⟩) ⟨hd.1, hd.2.1, hd.2.2.1, hd.2.2.2.1, hd.2.2.2.2.1, i64_0, i64_0⟩ (by show d.prev.size ≤ 900; omega) rfl
  refine ⟨g1, g2, t1, t2, (elemN (pubN n : Nat) g1 g2 : Nat), decide (VouchedC (pubN n : Nat) ⟨d.office, d.hour, d.inn, d.out, d.store, d.prev, g1, g2⟩), core6, (fun m => (chalN (elemN (pubN n : Nat) g1 g2 : Nat) (pubN n : Nat) ctxC m.data.toList : Nat)), ⟨fun w hg hm => ?_, fun w hg hm => ?_, fun w hg hm => ?_, fun w hg hm => ?_, fun w hg hm => ?_, fun o h i u s pv e f hk he hf w hm => ?_, fun w => ?_, fun m hm w => ?_, i1, i2, hc.2.2.2.2.2.1, hc.2.2.2.2.2.2, o6c, o6d, szc, szd, ?_, ?_⟩⟩
  · have h := signC_any (n : Nat) (pubN n : Nat) c w hc (by omega) hg hm
    rw [signR_ok h1 h2, ← hg1, ← hg2] at h
    exact h
  · have h := signP_any (n : Nat) (pubN n : Nat) p w hp hg hm
    rw [signR_ok h1 h2, ← ht1, ← ht2] at h
    exact h
  · have h := verifyC_any (pubN n : Nat) ⟨c.office, c.hour, c.inn, c.out, c.store, c.prev, g1, g2⟩ w (i64_pubn n) okx (by show c.prev.size ≤ 900; omega) hg hm
    rw [decide_eq_true vx] at h
    exact h
  · have h := verifyP_any (pubN n : Nat) ⟨p.office, p.since, p.till, p.litres, t1, t2⟩ w (i64_pubn n) okpx hg hm
    rw [decide_eq_true vp] at h
    exact h
  · exact verifyC_any (pubN n : Nat) ⟨d.office, d.hour, d.inn, d.out, d.store, d.prev, g1, g2⟩ w (i64_pubn n) okdx (by show d.prev.size ≤ 900; omega) hg hm
  · exact coreE_any o h i u s pv e f w hk he hf hm
  · rw [hg1, hg2]
    exact relem_any (pubN n : Nat) _ _ w (pub_in n) ⟨by omega, by omega⟩ ⟨by omega, by omega⟩
  · exact rchal_any _ _ ⟨#[99, 108, 97, 105, 109]⟩ m w ⟨by omega, by omega⟩ (i64_pubn n) (by decide) hm
  · intro hv
    have h := of_decide_eq_true hv
    have a := h.2.2.2.2
    have b := vx.2.2.2.2
    rw [beq_iff_eq]
    exact a.trans b.symm
  · intro hv
    have h := of_decide_eq_false hv
    rw [beq_eq_false_iff_ne, show (core6 d.office d.hour d.inn d.out d.store d.prev).toList = coreC d from toLS _, show (core6 c.office c.hour c.inn c.out c.store c.prev).toList = coreC c from toLS _]
    intro e
    apply h
    have g : VerOk (pubN n : Nat) g1 g2 ctxC (coreC d) := by
      rw [e]
      exact vx
    exact g
theorem signs_step {w cur w' : World} {k0 k1 k2 k3 k4 k5 k6 k7 : Nat} {A0 A1 A2 A3 A4 A5 A6 A7 : Obj} {v0 v1 v2 v3 v4 v5 v6 v7 v8 v9 v10 v11 v12 v13 v14 v15 v16 v17 v18 v19 v20 v21 v22 v23 v24 v25 v26 v27 v28 v29 v30 v31 v32 v33 v34 v35 v36 v37 v38 v39 v40 v41 v42 v43 : Value} (h : cur.heap[k0]? = some A0 ∧ cur.heap[k1]? = some A1 ∧ cur.heap[k2]? = some A2 ∧ cur.heap[k3]? = some A3 ∧ cur.heap[k4]? = some A4 ∧ cur.heap[k5]? = some A5 ∧ cur.heap[k6]? = some A6 ∧ cur.heap[k7]? = some A7 ∧ cur.cell? ⟨k0, 0, none⟩ = some v0 ∧ cur.cell? ⟨k0, 1, none⟩ = some v1 ∧ cur.cell? ⟨k1, 0, none⟩ = some v2 ∧ cur.cell? ⟨k1, 1, none⟩ = some v3 ∧ cur.cell? ⟨k1, 2, none⟩ = some v4 ∧ cur.cell? ⟨k1, 3, none⟩ = some v5 ∧ cur.cell? ⟨k1, 4, none⟩ = some v6 ∧ cur.cell? ⟨k1, 5, none⟩ = some v7 ∧ cur.cell? ⟨k1, 6, none⟩ = some v8 ∧ cur.cell? ⟨k1, 7, none⟩ = some v9 ∧ cur.cell? ⟨k3, 0, none⟩ = some v10 ∧ cur.cell? ⟨k3, 1, none⟩ = some v11 ∧ cur.cell? ⟨k3, 2, none⟩ = some v12 ∧ cur.cell? ⟨k3, 3, none⟩ = some v13 ∧ cur.cell? ⟨k3, 4, none⟩ = some v14 ∧ cur.cell? ⟨k3, 5, none⟩ = some v15 ∧ cur.cell? ⟨k4, 0, none⟩ = some v16 ∧ cur.cell? ⟨k4, 1, none⟩ = some v17 ∧ cur.cell? ⟨k4, 2, none⟩ = some v18 ∧ cur.cell? ⟨k4, 3, none⟩ = some v19 ∧ cur.cell? ⟨k4, 4, none⟩ = some v20 ∧ cur.cell? ⟨k4, 5, none⟩ = some v21 ∧ cur.cell? ⟨k4, 6, none⟩ = some v22 ∧ cur.cell? ⟨k4, 7, none⟩ = some v23 ∧ cur.cell? ⟨k5, 0, none⟩ = some v24 ∧ cur.cell? ⟨k5, 1, none⟩ = some v25 ∧ cur.cell? ⟨k5, 2, none⟩ = some v26 ∧ cur.cell? ⟨k5, 3, none⟩ = some v27 ∧ cur.cell? ⟨k5, 4, none⟩ = some v28 ∧ cur.cell? ⟨k5, 5, none⟩ = some v29 ∧ cur.cell? ⟨k5, 6, none⟩ = some v30 ∧ cur.cell? ⟨k5, 7, none⟩ = some v31 ∧ cur.cell? ⟨k6, 0, none⟩ = some v32 ∧ cur.cell? ⟨k6, 1, none⟩ = some v33 ∧ cur.cell? ⟨k6, 2, none⟩ = some v34 ∧ cur.cell? ⟨k6, 3, none⟩ = some v35 ∧ cur.cell? ⟨k6, 4, none⟩ = some v36 ∧ cur.cell? ⟨k6, 5, none⟩ = some v37 ∧ cur.cell? ⟨k7, 0, none⟩ = some v38 ∧ cur.cell? ⟨k7, 1, none⟩ = some v39 ∧ cur.cell? ⟨k7, 2, none⟩ = some v40 ∧ cur.cell? ⟨k7, 3, none⟩ = some v41 ∧ cur.cell? ⟨k7, 4, none⟩ = some v42 ∧ cur.cell? ⟨k7, 5, none⟩ = some v43 ∧ Below w.heap.size w cur) (hb : Below cur.heap.size cur w') : w'.heap[k0]? = some A0 ∧ w'.heap[k1]? = some A1 ∧ w'.heap[k2]? = some A2 ∧ w'.heap[k3]? = some A3 ∧ w'.heap[k4]? = some A4 ∧ w'.heap[k5]? = some A5 ∧ w'.heap[k6]? = some A6 ∧ w'.heap[k7]? = some A7 ∧ w'.cell? ⟨k0, 0, none⟩ = some v0 ∧ w'.cell? ⟨k0, 1, none⟩ = some v1 ∧ w'.cell? ⟨k1, 0, none⟩ = some v2 ∧ w'.cell? ⟨k1, 1, none⟩ = some v3 ∧ w'.cell? ⟨k1, 2, none⟩ = some v4 ∧ w'.cell? ⟨k1, 3, none⟩ = some v5 ∧ w'.cell? ⟨k1, 4, none⟩ = some v6 ∧ w'.cell? ⟨k1, 5, none⟩ = some v7 ∧ w'.cell? ⟨k1, 6, none⟩ = some v8 ∧ w'.cell? ⟨k1, 7, none⟩ = some v9 ∧ w'.cell? ⟨k3, 0, none⟩ = some v10 ∧ w'.cell? ⟨k3, 1, none⟩ = some v11 ∧ w'.cell? ⟨k3, 2, none⟩ = some v12 ∧ w'.cell? ⟨k3, 3, none⟩ = some v13 ∧ w'.cell? ⟨k3, 4, none⟩ = some v14 ∧ w'.cell? ⟨k3, 5, none⟩ = some v15 ∧ w'.cell? ⟨k4, 0, none⟩ = some v16 ∧ w'.cell? ⟨k4, 1, none⟩ = some v17 ∧ w'.cell? ⟨k4, 2, none⟩ = some v18 ∧ w'.cell? ⟨k4, 3, none⟩ = some v19 ∧ w'.cell? ⟨k4, 4, none⟩ = some v20 ∧ w'.cell? ⟨k4, 5, none⟩ = some v21 ∧ w'.cell? ⟨k4, 6, none⟩ = some v22 ∧ w'.cell? ⟨k4, 7, none⟩ = some v23 ∧ w'.cell? ⟨k5, 0, none⟩ = some v24 ∧ w'.cell? ⟨k5, 1, none⟩ = some v25 ∧ w'.cell? ⟨k5, 2, none⟩ = some v26 ∧ w'.cell? ⟨k5, 3, none⟩ = some v27 ∧ w'.cell? ⟨k5, 4, none⟩ = some v28 ∧ w'.cell? ⟨k5, 5, none⟩ = some v29 ∧ w'.cell? ⟨k5, 6, none⟩ = some v30 ∧ w'.cell? ⟨k5, 7, none⟩ = some v31 ∧ w'.cell? ⟨k6, 0, none⟩ = some v32 ∧ w'.cell? ⟨k6, 1, none⟩ = some v33 ∧ w'.cell? ⟨k6, 2, none⟩ = some v34 ∧ w'.cell? ⟨k6, 3, none⟩ = some v35 ∧ w'.cell? ⟨k6, 4, none⟩ = some v36 ∧ w'.cell? ⟨k6, 5, none⟩ = some v37 ∧ w'.cell? ⟨k7, 0, none⟩ = some v38 ∧ w'.cell? ⟨k7, 1, none⟩ = some v39 ∧ w'.cell? ⟨k7, 2, none⟩ = some v40 ∧ w'.cell? ⟨k7, 3, none⟩ = some v41 ∧ w'.cell? ⟨k7, 4, none⟩ = some v42 ∧ w'.cell? ⟨k7, 5, none⟩ = some v43 ∧ Below w.heap.size w w' := by
  obtain ⟨a0, a1, a2, a3, a4, a5, a6, a7, c0, c1, c2, c3, c4, c5, c6, c7, c8, c9, c10, c11, c12, c13, c14, c15, c16, c17, c18, c19, c20, c21, c22, c23, c24, c25, c26, c27, c28, c29, c30, c31, c32, c33, c34, c35, c36, c37, c38, c39, c40, c41, c42, c43, d⟩ := h
  exact ⟨blk_below a0 hb (blk_lt a0), blk_below a1 hb (blk_lt a1), blk_below a2 hb (blk_lt a2), blk_below a3 hb (blk_lt a3), blk_below a4 hb (blk_lt a4), blk_below a5 hb (blk_lt a5), blk_below a6 hb (blk_lt a6), blk_below a7 hb (blk_lt a7), (hb.cell (p := ⟨_, 0, none⟩) (blk_lt a0)).trans c0, (hb.cell (p := ⟨_, 1, none⟩) (blk_lt a0)).trans c1, (hb.cell (p := ⟨_, 0, none⟩) (blk_lt a1)).trans c2, (hb.cell (p := ⟨_, 1, none⟩) (blk_lt a1)).trans c3, (hb.cell (p := ⟨_, 2, none⟩) (blk_lt a1)).trans c4, (hb.cell (p := ⟨_, 3, none⟩) (blk_lt a1)).trans c5, (hb.cell (p := ⟨_, 4, none⟩) (blk_lt a1)).trans c6, (hb.cell (p := ⟨_, 5, none⟩) (blk_lt a1)).trans c7, (hb.cell (p := ⟨_, 6, none⟩) (blk_lt a1)).trans c8, (hb.cell (p := ⟨_, 7, none⟩) (blk_lt a1)).trans c9, (hb.cell (p := ⟨_, 0, none⟩) (blk_lt a3)).trans c10, (hb.cell (p := ⟨_, 1, none⟩) (blk_lt a3)).trans c11, (hb.cell (p := ⟨_, 2, none⟩) (blk_lt a3)).trans c12, (hb.cell (p := ⟨_, 3, none⟩) (blk_lt a3)).trans c13, (hb.cell (p := ⟨_, 4, none⟩) (blk_lt a3)).trans c14, (hb.cell (p := ⟨_, 5, none⟩) (blk_lt a3)).trans c15, (hb.cell (p := ⟨_, 0, none⟩) (blk_lt a4)).trans c16, (hb.cell (p := ⟨_, 1, none⟩) (blk_lt a4)).trans c17, (hb.cell (p := ⟨_, 2, none⟩) (blk_lt a4)).trans c18, (hb.cell (p := ⟨_, 3, none⟩) (blk_lt a4)).trans c19, (hb.cell (p := ⟨_, 4, none⟩) (blk_lt a4)).trans c20, (hb.cell (p := ⟨_, 5, none⟩) (blk_lt a4)).trans c21, (hb.cell (p := ⟨_, 6, none⟩) (blk_lt a4)).trans c22, (hb.cell (p := ⟨_, 7, none⟩) (blk_lt a4)).trans c23, (hb.cell (p := ⟨_, 0, none⟩) (blk_lt a5)).trans c24, (hb.cell (p := ⟨_, 1, none⟩) (blk_lt a5)).trans c25, (hb.cell (p := ⟨_, 2, none⟩) (blk_lt a5)).trans c26, (hb.cell (p := ⟨_, 3, none⟩) (blk_lt a5)).trans c27, (hb.cell (p := ⟨_, 4, none⟩) (blk_lt a5)).trans c28, (hb.cell (p := ⟨_, 5, none⟩) (blk_lt a5)).trans c29, (hb.cell (p := ⟨_, 6, none⟩) (blk_lt a5)).trans c30, (hb.cell (p := ⟨_, 7, none⟩) (blk_lt a5)).trans c31, (hb.cell (p := ⟨_, 0, none⟩) (blk_lt a6)).trans c32, (hb.cell (p := ⟨_, 1, none⟩) (blk_lt a6)).trans c33, (hb.cell (p := ⟨_, 2, none⟩) (blk_lt a6)).trans c34, (hb.cell (p := ⟨_, 3, none⟩) (blk_lt a6)).trans c35, (hb.cell (p := ⟨_, 4, none⟩) (blk_lt a6)).trans c36, (hb.cell (p := ⟨_, 5, none⟩) (blk_lt a6)).trans c37, (hb.cell (p := ⟨_, 0, none⟩) (blk_lt a7)).trans c38, (hb.cell (p := ⟨_, 1, none⟩) (blk_lt a7)).trans c39, (hb.cell (p := ⟨_, 2, none⟩) (blk_lt a7)).trans c40, (hb.cell (p := ⟨_, 3, none⟩) (blk_lt a7)).trans c41, (hb.cell (p := ⟨_, 4, none⟩) (blk_lt a7)).trans c42, (hb.cell (p := ⟨_, 5, none⟩) (blk_lt a7)).trans c43, d.trans (hb.mono d.size)⟩
theorem signs_stepN {w cur : World} {k0 k1 k2 k3 k4 k5 k6 k7 : Nat} {A0 A1 A2 A3 A4 A5 A6 A7 : Obj} {v0 v1 v2 v3 v4 v5 v6 v7 v8 v9 v10 v11 v12 v13 v14 v15 v16 v17 v18 v19 v20 v21 v22 v23 v24 v25 v26 v27 v28 v29 v30 v31 v32 v33 v34 v35 v36 v37 v38 v39 v40 v41 v42 v43 : Value} (h : cur.heap[k0]? = some A0 ∧ cur.heap[k1]? = some A1 ∧ cur.heap[k2]? = some A2 ∧ cur.heap[k3]? = some A3 ∧ cur.heap[k4]? = some A4 ∧ cur.heap[k5]? = some A5 ∧ cur.heap[k6]? = some A6 ∧ cur.heap[k7]? = some A7 ∧ cur.cell? ⟨k0, 0, none⟩ = some v0 ∧ cur.cell? ⟨k0, 1, none⟩ = some v1 ∧ cur.cell? ⟨k1, 0, none⟩ = some v2 ∧ cur.cell? ⟨k1, 1, none⟩ = some v3 ∧ cur.cell? ⟨k1, 2, none⟩ = some v4 ∧ cur.cell? ⟨k1, 3, none⟩ = some v5 ∧ cur.cell? ⟨k1, 4, none⟩ = some v6 ∧ cur.cell? ⟨k1, 5, none⟩ = some v7 ∧ cur.cell? ⟨k1, 6, none⟩ = some v8 ∧ cur.cell? ⟨k1, 7, none⟩ = some v9 ∧ cur.cell? ⟨k3, 0, none⟩ = some v10 ∧ cur.cell? ⟨k3, 1, none⟩ = some v11 ∧ cur.cell? ⟨k3, 2, none⟩ = some v12 ∧ cur.cell? ⟨k3, 3, none⟩ = some v13 ∧ cur.cell? ⟨k3, 4, none⟩ = some v14 ∧ cur.cell? ⟨k3, 5, none⟩ = some v15 ∧ cur.cell? ⟨k4, 0, none⟩ = some v16 ∧ cur.cell? ⟨k4, 1, none⟩ = some v17 ∧ cur.cell? ⟨k4, 2, none⟩ = some v18 ∧ cur.cell? ⟨k4, 3, none⟩ = some v19 ∧ cur.cell? ⟨k4, 4, none⟩ = some v20 ∧ cur.cell? ⟨k4, 5, none⟩ = some v21 ∧ cur.cell? ⟨k4, 6, none⟩ = some v22 ∧ cur.cell? ⟨k4, 7, none⟩ = some v23 ∧ cur.cell? ⟨k5, 0, none⟩ = some v24 ∧ cur.cell? ⟨k5, 1, none⟩ = some v25 ∧ cur.cell? ⟨k5, 2, none⟩ = some v26 ∧ cur.cell? ⟨k5, 3, none⟩ = some v27 ∧ cur.cell? ⟨k5, 4, none⟩ = some v28 ∧ cur.cell? ⟨k5, 5, none⟩ = some v29 ∧ cur.cell? ⟨k5, 6, none⟩ = some v30 ∧ cur.cell? ⟨k5, 7, none⟩ = some v31 ∧ cur.cell? ⟨k6, 0, none⟩ = some v32 ∧ cur.cell? ⟨k6, 1, none⟩ = some v33 ∧ cur.cell? ⟨k6, 2, none⟩ = some v34 ∧ cur.cell? ⟨k6, 3, none⟩ = some v35 ∧ cur.cell? ⟨k6, 4, none⟩ = some v36 ∧ cur.cell? ⟨k6, 5, none⟩ = some v37 ∧ cur.cell? ⟨k7, 0, none⟩ = some v38 ∧ cur.cell? ⟨k7, 1, none⟩ = some v39 ∧ cur.cell? ⟨k7, 2, none⟩ = some v40 ∧ cur.cell? ⟨k7, 3, none⟩ = some v41 ∧ cur.cell? ⟨k7, 4, none⟩ = some v42 ∧ cur.cell? ⟨k7, 5, none⟩ = some v43 ∧ Below w.heap.size w cur) (n : Nat) : (cur.drewN n).heap[k0]? = some A0 ∧ (cur.drewN n).heap[k1]? = some A1 ∧ (cur.drewN n).heap[k2]? = some A2 ∧ (cur.drewN n).heap[k3]? = some A3 ∧ (cur.drewN n).heap[k4]? = some A4 ∧ (cur.drewN n).heap[k5]? = some A5 ∧ (cur.drewN n).heap[k6]? = some A6 ∧ (cur.drewN n).heap[k7]? = some A7 ∧ (cur.drewN n).cell? ⟨k0, 0, none⟩ = some v0 ∧ (cur.drewN n).cell? ⟨k0, 1, none⟩ = some v1 ∧ (cur.drewN n).cell? ⟨k1, 0, none⟩ = some v2 ∧ (cur.drewN n).cell? ⟨k1, 1, none⟩ = some v3 ∧ (cur.drewN n).cell? ⟨k1, 2, none⟩ = some v4 ∧ (cur.drewN n).cell? ⟨k1, 3, none⟩ = some v5 ∧ (cur.drewN n).cell? ⟨k1, 4, none⟩ = some v6 ∧ (cur.drewN n).cell? ⟨k1, 5, none⟩ = some v7 ∧ (cur.drewN n).cell? ⟨k1, 6, none⟩ = some v8 ∧ (cur.drewN n).cell? ⟨k1, 7, none⟩ = some v9 ∧ (cur.drewN n).cell? ⟨k3, 0, none⟩ = some v10 ∧ (cur.drewN n).cell? ⟨k3, 1, none⟩ = some v11 ∧ (cur.drewN n).cell? ⟨k3, 2, none⟩ = some v12 ∧ (cur.drewN n).cell? ⟨k3, 3, none⟩ = some v13 ∧ (cur.drewN n).cell? ⟨k3, 4, none⟩ = some v14 ∧ (cur.drewN n).cell? ⟨k3, 5, none⟩ = some v15 ∧ (cur.drewN n).cell? ⟨k4, 0, none⟩ = some v16 ∧ (cur.drewN n).cell? ⟨k4, 1, none⟩ = some v17 ∧ (cur.drewN n).cell? ⟨k4, 2, none⟩ = some v18 ∧ (cur.drewN n).cell? ⟨k4, 3, none⟩ = some v19 ∧ (cur.drewN n).cell? ⟨k4, 4, none⟩ = some v20 ∧ (cur.drewN n).cell? ⟨k4, 5, none⟩ = some v21 ∧ (cur.drewN n).cell? ⟨k4, 6, none⟩ = some v22 ∧ (cur.drewN n).cell? ⟨k4, 7, none⟩ = some v23 ∧ (cur.drewN n).cell? ⟨k5, 0, none⟩ = some v24 ∧ (cur.drewN n).cell? ⟨k5, 1, none⟩ = some v25 ∧ (cur.drewN n).cell? ⟨k5, 2, none⟩ = some v26 ∧ (cur.drewN n).cell? ⟨k5, 3, none⟩ = some v27 ∧ (cur.drewN n).cell? ⟨k5, 4, none⟩ = some v28 ∧ (cur.drewN n).cell? ⟨k5, 5, none⟩ = some v29 ∧ (cur.drewN n).cell? ⟨k5, 6, none⟩ = some v30 ∧ (cur.drewN n).cell? ⟨k5, 7, none⟩ = some v31 ∧ (cur.drewN n).cell? ⟨k6, 0, none⟩ = some v32 ∧ (cur.drewN n).cell? ⟨k6, 1, none⟩ = some v33 ∧ (cur.drewN n).cell? ⟨k6, 2, none⟩ = some v34 ∧ (cur.drewN n).cell? ⟨k6, 3, none⟩ = some v35 ∧ (cur.drewN n).cell? ⟨k6, 4, none⟩ = some v36 ∧ (cur.drewN n).cell? ⟨k6, 5, none⟩ = some v37 ∧ (cur.drewN n).cell? ⟨k7, 0, none⟩ = some v38 ∧ (cur.drewN n).cell? ⟨k7, 1, none⟩ = some v39 ∧ (cur.drewN n).cell? ⟨k7, 2, none⟩ = some v40 ∧ (cur.drewN n).cell? ⟨k7, 3, none⟩ = some v41 ∧ (cur.drewN n).cell? ⟨k7, 4, none⟩ = some v42 ∧ (cur.drewN n).cell? ⟨k7, 5, none⟩ = some v43 ∧ Below w.heap.size w (cur.drewN n) := by
  obtain ⟨a0, a1, a2, a3, a4, a5, a6, a7, c0, c1, c2, c3, c4, c5, c6, c7, c8, c9, c10, c11, c12, c13, c14, c15, c16, c17, c18, c19, c20, c21, c22, c23, c24, c25, c26, c27, c28, c29, c30, c31, c32, c33, c34, c35, c36, c37, c38, c39, c40, c41, c42, c43, d⟩ := h
  exact ⟨a0, a1, a2, a3, a4, a5, a6, a7, c0, c1, c2, c3, c4, c5, c6, c7, c8, c9, c10, c11, c12, c13, c14, c15, c16, c17, c18, c19, c20, c21, c22, c23, c24, c25, c26, c27, c28, c29, c30, c31, c32, c33, c34, c35, c36, c37, c38, c39, c40, c41, c42, c43, below_drewN d⟩
theorem signs_stepA {w cur : World} {k0 k1 k2 k3 k4 k5 k6 k7 : Nat} {A0 A1 A2 A3 A4 A5 A6 A7 : Obj} {v0 v1 v2 v3 v4 v5 v6 v7 v8 v9 v10 v11 v12 v13 v14 v15 v16 v17 v18 v19 v20 v21 v22 v23 v24 v25 v26 v27 v28 v29 v30 v31 v32 v33 v34 v35 v36 v37 v38 v39 v40 v41 v42 v43 : Value} {o : Obj} (h : cur.heap[k0]? = some A0 ∧ cur.heap[k1]? = some A1 ∧ cur.heap[k2]? = some A2 ∧ cur.heap[k3]? = some A3 ∧ cur.heap[k4]? = some A4 ∧ cur.heap[k5]? = some A5 ∧ cur.heap[k6]? = some A6 ∧ cur.heap[k7]? = some A7 ∧ cur.cell? ⟨k0, 0, none⟩ = some v0 ∧ cur.cell? ⟨k0, 1, none⟩ = some v1 ∧ cur.cell? ⟨k1, 0, none⟩ = some v2 ∧ cur.cell? ⟨k1, 1, none⟩ = some v3 ∧ cur.cell? ⟨k1, 2, none⟩ = some v4 ∧ cur.cell? ⟨k1, 3, none⟩ = some v5 ∧ cur.cell? ⟨k1, 4, none⟩ = some v6 ∧ cur.cell? ⟨k1, 5, none⟩ = some v7 ∧ cur.cell? ⟨k1, 6, none⟩ = some v8 ∧ cur.cell? ⟨k1, 7, none⟩ = some v9 ∧ cur.cell? ⟨k3, 0, none⟩ = some v10 ∧ cur.cell? ⟨k3, 1, none⟩ = some v11 ∧ cur.cell? ⟨k3, 2, none⟩ = some v12 ∧ cur.cell? ⟨k3, 3, none⟩ = some v13 ∧ cur.cell? ⟨k3, 4, none⟩ = some v14 ∧ cur.cell? ⟨k3, 5, none⟩ = some v15 ∧ cur.cell? ⟨k4, 0, none⟩ = some v16 ∧ cur.cell? ⟨k4, 1, none⟩ = some v17 ∧ cur.cell? ⟨k4, 2, none⟩ = some v18 ∧ cur.cell? ⟨k4, 3, none⟩ = some v19 ∧ cur.cell? ⟨k4, 4, none⟩ = some v20 ∧ cur.cell? ⟨k4, 5, none⟩ = some v21 ∧ cur.cell? ⟨k4, 6, none⟩ = some v22 ∧ cur.cell? ⟨k4, 7, none⟩ = some v23 ∧ cur.cell? ⟨k5, 0, none⟩ = some v24 ∧ cur.cell? ⟨k5, 1, none⟩ = some v25 ∧ cur.cell? ⟨k5, 2, none⟩ = some v26 ∧ cur.cell? ⟨k5, 3, none⟩ = some v27 ∧ cur.cell? ⟨k5, 4, none⟩ = some v28 ∧ cur.cell? ⟨k5, 5, none⟩ = some v29 ∧ cur.cell? ⟨k5, 6, none⟩ = some v30 ∧ cur.cell? ⟨k5, 7, none⟩ = some v31 ∧ cur.cell? ⟨k6, 0, none⟩ = some v32 ∧ cur.cell? ⟨k6, 1, none⟩ = some v33 ∧ cur.cell? ⟨k6, 2, none⟩ = some v34 ∧ cur.cell? ⟨k6, 3, none⟩ = some v35 ∧ cur.cell? ⟨k6, 4, none⟩ = some v36 ∧ cur.cell? ⟨k6, 5, none⟩ = some v37 ∧ cur.cell? ⟨k7, 0, none⟩ = some v38 ∧ cur.cell? ⟨k7, 1, none⟩ = some v39 ∧ cur.cell? ⟨k7, 2, none⟩ = some v40 ∧ cur.cell? ⟨k7, 3, none⟩ = some v41 ∧ cur.cell? ⟨k7, 4, none⟩ = some v42 ∧ cur.cell? ⟨k7, 5, none⟩ = some v43 ∧ Below w.heap.size w cur) : (cur.alloc o).heap[k0]? = some A0 ∧ (cur.alloc o).heap[k1]? = some A1 ∧ (cur.alloc o).heap[k2]? = some A2 ∧ (cur.alloc o).heap[k3]? = some A3 ∧ (cur.alloc o).heap[k4]? = some A4 ∧ (cur.alloc o).heap[k5]? = some A5 ∧ (cur.alloc o).heap[k6]? = some A6 ∧ (cur.alloc o).heap[k7]? = some A7 ∧ (cur.alloc o).cell? ⟨k0, 0, none⟩ = some v0 ∧ (cur.alloc o).cell? ⟨k0, 1, none⟩ = some v1 ∧ (cur.alloc o).cell? ⟨k1, 0, none⟩ = some v2 ∧ (cur.alloc o).cell? ⟨k1, 1, none⟩ = some v3 ∧ (cur.alloc o).cell? ⟨k1, 2, none⟩ = some v4 ∧ (cur.alloc o).cell? ⟨k1, 3, none⟩ = some v5 ∧ (cur.alloc o).cell? ⟨k1, 4, none⟩ = some v6 ∧ (cur.alloc o).cell? ⟨k1, 5, none⟩ = some v7 ∧ (cur.alloc o).cell? ⟨k1, 6, none⟩ = some v8 ∧ (cur.alloc o).cell? ⟨k1, 7, none⟩ = some v9 ∧ (cur.alloc o).cell? ⟨k3, 0, none⟩ = some v10 ∧ (cur.alloc o).cell? ⟨k3, 1, none⟩ = some v11 ∧ (cur.alloc o).cell? ⟨k3, 2, none⟩ = some v12 ∧ (cur.alloc o).cell? ⟨k3, 3, none⟩ = some v13 ∧ (cur.alloc o).cell? ⟨k3, 4, none⟩ = some v14 ∧ (cur.alloc o).cell? ⟨k3, 5, none⟩ = some v15 ∧ (cur.alloc o).cell? ⟨k4, 0, none⟩ = some v16 ∧ (cur.alloc o).cell? ⟨k4, 1, none⟩ = some v17 ∧ (cur.alloc o).cell? ⟨k4, 2, none⟩ = some v18 ∧ (cur.alloc o).cell? ⟨k4, 3, none⟩ = some v19 ∧ (cur.alloc o).cell? ⟨k4, 4, none⟩ = some v20 ∧ (cur.alloc o).cell? ⟨k4, 5, none⟩ = some v21 ∧ (cur.alloc o).cell? ⟨k4, 6, none⟩ = some v22 ∧ (cur.alloc o).cell? ⟨k4, 7, none⟩ = some v23 ∧ (cur.alloc o).cell? ⟨k5, 0, none⟩ = some v24 ∧ (cur.alloc o).cell? ⟨k5, 1, none⟩ = some v25 ∧ (cur.alloc o).cell? ⟨k5, 2, none⟩ = some v26 ∧ (cur.alloc o).cell? ⟨k5, 3, none⟩ = some v27 ∧ (cur.alloc o).cell? ⟨k5, 4, none⟩ = some v28 ∧ (cur.alloc o).cell? ⟨k5, 5, none⟩ = some v29 ∧ (cur.alloc o).cell? ⟨k5, 6, none⟩ = some v30 ∧ (cur.alloc o).cell? ⟨k5, 7, none⟩ = some v31 ∧ (cur.alloc o).cell? ⟨k6, 0, none⟩ = some v32 ∧ (cur.alloc o).cell? ⟨k6, 1, none⟩ = some v33 ∧ (cur.alloc o).cell? ⟨k6, 2, none⟩ = some v34 ∧ (cur.alloc o).cell? ⟨k6, 3, none⟩ = some v35 ∧ (cur.alloc o).cell? ⟨k6, 4, none⟩ = some v36 ∧ (cur.alloc o).cell? ⟨k6, 5, none⟩ = some v37 ∧ (cur.alloc o).cell? ⟨k7, 0, none⟩ = some v38 ∧ (cur.alloc o).cell? ⟨k7, 1, none⟩ = some v39 ∧ (cur.alloc o).cell? ⟨k7, 2, none⟩ = some v40 ∧ (cur.alloc o).cell? ⟨k7, 3, none⟩ = some v41 ∧ (cur.alloc o).cell? ⟨k7, 4, none⟩ = some v42 ∧ (cur.alloc o).cell? ⟨k7, 5, none⟩ = some v43 ∧ Below w.heap.size w (cur.alloc o) := signs_step h ((Below.refl _ _).alloc (Nat.le_refl _) o)
theorem signs_stepS {w cur : World} {b j : Nat} {x : Value} {k0 k1 k2 k3 k4 k5 k6 k7 : Nat} {A0 A1 A2 A3 A4 A5 A6 A7 : Obj} {v0 v1 v2 v3 v4 v5 v6 v7 v8 v9 v10 v11 v12 v13 v14 v15 v16 v17 v18 v19 v20 v21 v22 v23 v24 v25 v26 v27 v28 v29 v30 v31 v32 v33 v34 v35 v36 v37 v38 v39 v40 v41 v42 v43 : Value} (h : cur.heap[k0]? = some A0 ∧ cur.heap[k1]? = some A1 ∧ cur.heap[k2]? = some A2 ∧ cur.heap[k3]? = some A3 ∧ cur.heap[k4]? = some A4 ∧ cur.heap[k5]? = some A5 ∧ cur.heap[k6]? = some A6 ∧ cur.heap[k7]? = some A7 ∧ cur.cell? ⟨k0, 0, none⟩ = some v0 ∧ cur.cell? ⟨k0, 1, none⟩ = some v1 ∧ cur.cell? ⟨k1, 0, none⟩ = some v2 ∧ cur.cell? ⟨k1, 1, none⟩ = some v3 ∧ cur.cell? ⟨k1, 2, none⟩ = some v4 ∧ cur.cell? ⟨k1, 3, none⟩ = some v5 ∧ cur.cell? ⟨k1, 4, none⟩ = some v6 ∧ cur.cell? ⟨k1, 5, none⟩ = some v7 ∧ cur.cell? ⟨k1, 6, none⟩ = some v8 ∧ cur.cell? ⟨k1, 7, none⟩ = some v9 ∧ cur.cell? ⟨k3, 0, none⟩ = some v10 ∧ cur.cell? ⟨k3, 1, none⟩ = some v11 ∧ cur.cell? ⟨k3, 2, none⟩ = some v12 ∧ cur.cell? ⟨k3, 3, none⟩ = some v13 ∧ cur.cell? ⟨k3, 4, none⟩ = some v14 ∧ cur.cell? ⟨k3, 5, none⟩ = some v15 ∧ cur.cell? ⟨k4, 0, none⟩ = some v16 ∧ cur.cell? ⟨k4, 1, none⟩ = some v17 ∧ cur.cell? ⟨k4, 2, none⟩ = some v18 ∧ cur.cell? ⟨k4, 3, none⟩ = some v19 ∧ cur.cell? ⟨k4, 4, none⟩ = some v20 ∧ cur.cell? ⟨k4, 5, none⟩ = some v21 ∧ cur.cell? ⟨k4, 6, none⟩ = some v22 ∧ cur.cell? ⟨k4, 7, none⟩ = some v23 ∧ cur.cell? ⟨k5, 0, none⟩ = some v24 ∧ cur.cell? ⟨k5, 1, none⟩ = some v25 ∧ cur.cell? ⟨k5, 2, none⟩ = some v26 ∧ cur.cell? ⟨k5, 3, none⟩ = some v27 ∧ cur.cell? ⟨k5, 4, none⟩ = some v28 ∧ cur.cell? ⟨k5, 5, none⟩ = some v29 ∧ cur.cell? ⟨k5, 6, none⟩ = some v30 ∧ cur.cell? ⟨k5, 7, none⟩ = some v31 ∧ cur.cell? ⟨k6, 0, none⟩ = some v32 ∧ cur.cell? ⟨k6, 1, none⟩ = some v33 ∧ cur.cell? ⟨k6, 2, none⟩ = some v34 ∧ cur.cell? ⟨k6, 3, none⟩ = some v35 ∧ cur.cell? ⟨k6, 4, none⟩ = some v36 ∧ cur.cell? ⟨k6, 5, none⟩ = some v37 ∧ cur.cell? ⟨k7, 0, none⟩ = some v38 ∧ cur.cell? ⟨k7, 1, none⟩ = some v39 ∧ cur.cell? ⟨k7, 2, none⟩ = some v40 ∧ cur.cell? ⟨k7, 3, none⟩ = some v41 ∧ cur.cell? ⟨k7, 4, none⟩ = some v42 ∧ cur.cell? ⟨k7, 5, none⟩ = some v43 ∧ Below w.heap.size w cur) (hle : w.heap.size ≤ b) (hn0 : k0 ≠ b) (hn1 : k1 ≠ b) (hn2 : k2 ≠ b) (hn3 : k3 ≠ b) (hn4 : k4 ≠ b) (hn5 : k5 ≠ b) (hn6 : k6 ≠ b) (hn7 : k7 ≠ b) : (cur.setCell ⟨b, j, none⟩ x).heap[k0]? = some A0 ∧ (cur.setCell ⟨b, j, none⟩ x).heap[k1]? = some A1 ∧ (cur.setCell ⟨b, j, none⟩ x).heap[k2]? = some A2 ∧ (cur.setCell ⟨b, j, none⟩ x).heap[k3]? = some A3 ∧ (cur.setCell ⟨b, j, none⟩ x).heap[k4]? = some A4 ∧ (cur.setCell ⟨b, j, none⟩ x).heap[k5]? = some A5 ∧ (cur.setCell ⟨b, j, none⟩ x).heap[k6]? = some A6 ∧ (cur.setCell ⟨b, j, none⟩ x).heap[k7]? = some A7 ∧ (cur.setCell ⟨b, j, none⟩ x).cell? ⟨k0, 0, none⟩ = some v0 ∧ (cur.setCell ⟨b, j, none⟩ x).cell? ⟨k0, 1, none⟩ = some v1 ∧ (cur.setCell ⟨b, j, none⟩ x).cell? ⟨k1, 0, none⟩ = some v2 ∧ (cur.setCell ⟨b, j, none⟩ x).cell? ⟨k1, 1, none⟩ = some v3 ∧ (cur.setCell ⟨b, j, none⟩ x).cell? ⟨k1, 2, none⟩ = some v4 ∧ (cur.setCell ⟨b, j, none⟩ x).cell? ⟨k1, 3, none⟩ = some v5 ∧ (cur.setCell ⟨b, j, none⟩ x).cell? ⟨k1, 4, none⟩ = some v6 ∧ (cur.setCell ⟨b, j, none⟩ x).cell? ⟨k1, 5, none⟩ = some v7 ∧ (cur.setCell ⟨b, j, none⟩ x).cell? ⟨k1, 6, none⟩ = some v8 ∧ (cur.setCell ⟨b, j, none⟩ x).cell? ⟨k1, 7, none⟩ = some v9 ∧ (cur.setCell ⟨b, j, none⟩ x).cell? ⟨k3, 0, none⟩ = some v10 ∧ (cur.setCell ⟨b, j, none⟩ x).cell? ⟨k3, 1, none⟩ = some v11 ∧ (cur.setCell ⟨b, j, none⟩ x).cell? ⟨k3, 2, none⟩ = some v12 ∧ (cur.setCell ⟨b, j, none⟩ x).cell? ⟨k3, 3, none⟩ = some v13 ∧ (cur.setCell ⟨b, j, none⟩ x).cell? ⟨k3, 4, none⟩ = some v14 ∧ (cur.setCell ⟨b, j, none⟩ x).cell? ⟨k3, 5, none⟩ = some v15 ∧ (cur.setCell ⟨b, j, none⟩ x).cell? ⟨k4, 0, none⟩ = some v16 ∧ (cur.setCell ⟨b, j, none⟩ x).cell? ⟨k4, 1, none⟩ = some v17 ∧ (cur.setCell ⟨b, j, none⟩ x).cell? ⟨k4, 2, none⟩ = some v18 ∧ (cur.setCell ⟨b, j, none⟩ x).cell? ⟨k4, 3, none⟩ = some v19 ∧ (cur.setCell ⟨b, j, none⟩ x).cell? ⟨k4, 4, none⟩ = some v20 ∧ (cur.setCell ⟨b, j, none⟩ x).cell? ⟨k4, 5, none⟩ = some v21 ∧ (cur.setCell ⟨b, j, none⟩ x).cell? ⟨k4, 6, none⟩ = some v22 ∧ (cur.setCell ⟨b, j, none⟩ x).cell? ⟨k4, 7, none⟩ = some v23 ∧ (cur.setCell ⟨b, j, none⟩ x).cell? ⟨k5, 0, none⟩ = some v24 ∧ (cur.setCell ⟨b, j, none⟩ x).cell? ⟨k5, 1, none⟩ = some v25 ∧ (cur.setCell ⟨b, j, none⟩ x).cell? ⟨k5, 2, none⟩ = some v26 ∧ (cur.setCell ⟨b, j, none⟩ x).cell? ⟨k5, 3, none⟩ = some v27 ∧ (cur.setCell ⟨b, j, none⟩ x).cell? ⟨k5, 4, none⟩ = some v28 ∧ (cur.setCell ⟨b, j, none⟩ x).cell? ⟨k5, 5, none⟩ = some v29 ∧ (cur.setCell ⟨b, j, none⟩ x).cell? ⟨k5, 6, none⟩ = some v30 ∧ (cur.setCell ⟨b, j, none⟩ x).cell? ⟨k5, 7, none⟩ = some v31 ∧ (cur.setCell ⟨b, j, none⟩ x).cell? ⟨k6, 0, none⟩ = some v32 ∧ (cur.setCell ⟨b, j, none⟩ x).cell? ⟨k6, 1, none⟩ = some v33 ∧ (cur.setCell ⟨b, j, none⟩ x).cell? ⟨k6, 2, none⟩ = some v34 ∧ (cur.setCell ⟨b, j, none⟩ x).cell? ⟨k6, 3, none⟩ = some v35 ∧ (cur.setCell ⟨b, j, none⟩ x).cell? ⟨k6, 4, none⟩ = some v36 ∧ (cur.setCell ⟨b, j, none⟩ x).cell? ⟨k6, 5, none⟩ = some v37 ∧ (cur.setCell ⟨b, j, none⟩ x).cell? ⟨k7, 0, none⟩ = some v38 ∧ (cur.setCell ⟨b, j, none⟩ x).cell? ⟨k7, 1, none⟩ = some v39 ∧ (cur.setCell ⟨b, j, none⟩ x).cell? ⟨k7, 2, none⟩ = some v40 ∧ (cur.setCell ⟨b, j, none⟩ x).cell? ⟨k7, 3, none⟩ = some v41 ∧ (cur.setCell ⟨b, j, none⟩ x).cell? ⟨k7, 4, none⟩ = some v42 ∧ (cur.setCell ⟨b, j, none⟩ x).cell? ⟨k7, 5, none⟩ = some v43 ∧ Below w.heap.size w (cur.setCell ⟨b, j, none⟩ x) := by
  obtain ⟨a0, a1, a2, a3, a4, a5, a6, a7, c0, c1, c2, c3, c4, c5, c6, c7, c8, c9, c10, c11, c12, c13, c14, c15, c16, c17, c18, c19, c20, c21, c22, c23, c24, c25, c26, c27, c28, c29, c30, c31, c32, c33, c34, c35, c36, c37, c38, c39, c40, c41, c42, c43, d⟩ := h
  have e0 : (cur.setCell ⟨b, j, none⟩ x).heap[k0]? = cur.heap[k0]? := heap_setCell_other _ _ _ _ hn0
  have e1 : (cur.setCell ⟨b, j, none⟩ x).heap[k1]? = cur.heap[k1]? := heap_setCell_other _ _ _ _ hn1
  have e2 : (cur.setCell ⟨b, j, none⟩ x).heap[k2]? = cur.heap[k2]? := heap_setCell_other _ _ _ _ hn2
  have e3 : (cur.setCell ⟨b, j, none⟩ x).heap[k3]? = cur.heap[k3]? := heap_setCell_other _ _ _ _ hn3
  have e4 : (cur.setCell ⟨b, j, none⟩ x).heap[k4]? = cur.heap[k4]? := heap_setCell_other _ _ _ _ hn4
  have e5 : (cur.setCell ⟨b, j, none⟩ x).heap[k5]? = cur.heap[k5]? := heap_setCell_other _ _ _ _ hn5
  have e6 : (cur.setCell ⟨b, j, none⟩ x).heap[k6]? = cur.heap[k6]? := heap_setCell_other _ _ _ _ hn6
  have e7 : (cur.setCell ⟨b, j, none⟩ x).heap[k7]? = cur.heap[k7]? := heap_setCell_other _ _ _ _ hn7
  exact ⟨e0.trans a0, e1.trans a1, e2.trans a2, e3.trans a3, e4.trans a4, e5.trans a5, e6.trans a6, e7.trans a7, (by rw [← c0]; unfold World.cell?; rw [e0]), (by rw [← c1]; unfold World.cell?; rw [e0]), (by rw [← c2]; unfold World.cell?; rw [e1]), (by rw [← c3]; unfold World.cell?; rw [e1]), (by rw [← c4]; unfold World.cell?; rw [e1]), (by rw [← c5]; unfold World.cell?; rw [e1]), (by rw [← c6]; unfold World.cell?; rw [e1]), (by rw [← c7]; unfold World.cell?; rw [e1]), (by rw [← c8]; unfold World.cell?; rw [e1]), (by rw [← c9]; unfold World.cell?; rw [e1]), (by rw [← c10]; unfold World.cell?; rw [e3]), (by rw [← c11]; unfold World.cell?; rw [e3]), (by rw [← c12]; unfold World.cell?; rw [e3]), (by rw [← c13]; unfold World.cell?; rw [e3]), (by rw [← c14]; unfold World.cell?; rw [e3]), (by rw [← c15]; unfold World.cell?; rw [e3]), (by rw [← c16]; unfold World.cell?; rw [e4]), (by rw [← c17]; unfold World.cell?; rw [e4]), (by rw [← c18]; unfold World.cell?; rw [e4]), (by rw [← c19]; unfold World.cell?; rw [e4]), (by rw [← c20]; unfold World.cell?; rw [e4]), (by rw [← c21]; unfold World.cell?; rw [e4]), (by rw [← c22]; unfold World.cell?; rw [e4]), (by rw [← c23]; unfold World.cell?; rw [e4]), (by rw [← c24]; unfold World.cell?; rw [e5]), (by rw [← c25]; unfold World.cell?; rw [e5]), (by rw [← c26]; unfold World.cell?; rw [e5]), (by rw [← c27]; unfold World.cell?; rw [e5]), (by rw [← c28]; unfold World.cell?; rw [e5]), (by rw [← c29]; unfold World.cell?; rw [e5]), (by rw [← c30]; unfold World.cell?; rw [e5]), (by rw [← c31]; unfold World.cell?; rw [e5]), (by rw [← c32]; unfold World.cell?; rw [e6]), (by rw [← c33]; unfold World.cell?; rw [e6]), (by rw [← c34]; unfold World.cell?; rw [e6]), (by rw [← c35]; unfold World.cell?; rw [e6]), (by rw [← c36]; unfold World.cell?; rw [e6]), (by rw [← c37]; unfold World.cell?; rw [e6]), (by rw [← c38]; unfold World.cell?; rw [e7]), (by rw [← c39]; unfold World.cell?; rw [e7]), (by rw [← c40]; unfold World.cell?; rw [e7]), (by rw [← c41]; unfold World.cell?; rw [e7]), (by rw [← c42]; unfold World.cell?; rw [e7]), (by rw [← c43]; unfold World.cell?; rw [e7]), d.setCell hle _⟩
theorem signs_stepU {w cur : World} {k0 k1 k2 k3 k4 k5 k6 k7 : Nat} {A0 A1 A2 A3 A4 A5 A6 A7 : Obj} {v0 v1 v2 v3 v4 v5 v6 v7 v8 v9 v10 v11 v12 v13 v14 v15 v16 v17 v18 v19 v20 v21 v22 v23 v24 v25 v26 v27 v28 v29 v30 v31 v32 v33 v34 v35 v36 v37 v38 v39 v40 v41 v42 v43 : Value} {n : Nat} (h : (cur.drewN n).heap[k0]? = some A0 ∧ (cur.drewN n).heap[k1]? = some A1 ∧ (cur.drewN n).heap[k2]? = some A2 ∧ (cur.drewN n).heap[k3]? = some A3 ∧ (cur.drewN n).heap[k4]? = some A4 ∧ (cur.drewN n).heap[k5]? = some A5 ∧ (cur.drewN n).heap[k6]? = some A6 ∧ (cur.drewN n).heap[k7]? = some A7 ∧ (cur.drewN n).cell? ⟨k0, 0, none⟩ = some v0 ∧ (cur.drewN n).cell? ⟨k0, 1, none⟩ = some v1 ∧ (cur.drewN n).cell? ⟨k1, 0, none⟩ = some v2 ∧ (cur.drewN n).cell? ⟨k1, 1, none⟩ = some v3 ∧ (cur.drewN n).cell? ⟨k1, 2, none⟩ = some v4 ∧ (cur.drewN n).cell? ⟨k1, 3, none⟩ = some v5 ∧ (cur.drewN n).cell? ⟨k1, 4, none⟩ = some v6 ∧ (cur.drewN n).cell? ⟨k1, 5, none⟩ = some v7 ∧ (cur.drewN n).cell? ⟨k1, 6, none⟩ = some v8 ∧ (cur.drewN n).cell? ⟨k1, 7, none⟩ = some v9 ∧ (cur.drewN n).cell? ⟨k3, 0, none⟩ = some v10 ∧ (cur.drewN n).cell? ⟨k3, 1, none⟩ = some v11 ∧ (cur.drewN n).cell? ⟨k3, 2, none⟩ = some v12 ∧ (cur.drewN n).cell? ⟨k3, 3, none⟩ = some v13 ∧ (cur.drewN n).cell? ⟨k3, 4, none⟩ = some v14 ∧ (cur.drewN n).cell? ⟨k3, 5, none⟩ = some v15 ∧ (cur.drewN n).cell? ⟨k4, 0, none⟩ = some v16 ∧ (cur.drewN n).cell? ⟨k4, 1, none⟩ = some v17 ∧ (cur.drewN n).cell? ⟨k4, 2, none⟩ = some v18 ∧ (cur.drewN n).cell? ⟨k4, 3, none⟩ = some v19 ∧ (cur.drewN n).cell? ⟨k4, 4, none⟩ = some v20 ∧ (cur.drewN n).cell? ⟨k4, 5, none⟩ = some v21 ∧ (cur.drewN n).cell? ⟨k4, 6, none⟩ = some v22 ∧ (cur.drewN n).cell? ⟨k4, 7, none⟩ = some v23 ∧ (cur.drewN n).cell? ⟨k5, 0, none⟩ = some v24 ∧ (cur.drewN n).cell? ⟨k5, 1, none⟩ = some v25 ∧ (cur.drewN n).cell? ⟨k5, 2, none⟩ = some v26 ∧ (cur.drewN n).cell? ⟨k5, 3, none⟩ = some v27 ∧ (cur.drewN n).cell? ⟨k5, 4, none⟩ = some v28 ∧ (cur.drewN n).cell? ⟨k5, 5, none⟩ = some v29 ∧ (cur.drewN n).cell? ⟨k5, 6, none⟩ = some v30 ∧ (cur.drewN n).cell? ⟨k5, 7, none⟩ = some v31 ∧ (cur.drewN n).cell? ⟨k6, 0, none⟩ = some v32 ∧ (cur.drewN n).cell? ⟨k6, 1, none⟩ = some v33 ∧ (cur.drewN n).cell? ⟨k6, 2, none⟩ = some v34 ∧ (cur.drewN n).cell? ⟨k6, 3, none⟩ = some v35 ∧ (cur.drewN n).cell? ⟨k6, 4, none⟩ = some v36 ∧ (cur.drewN n).cell? ⟨k6, 5, none⟩ = some v37 ∧ (cur.drewN n).cell? ⟨k7, 0, none⟩ = some v38 ∧ (cur.drewN n).cell? ⟨k7, 1, none⟩ = some v39 ∧ (cur.drewN n).cell? ⟨k7, 2, none⟩ = some v40 ∧ (cur.drewN n).cell? ⟨k7, 3, none⟩ = some v41 ∧ (cur.drewN n).cell? ⟨k7, 4, none⟩ = some v42 ∧ (cur.drewN n).cell? ⟨k7, 5, none⟩ = some v43 ∧ Below w.heap.size w (cur.drewN n)) : cur.heap[k0]? = some A0 ∧ cur.heap[k1]? = some A1 ∧ cur.heap[k2]? = some A2 ∧ cur.heap[k3]? = some A3 ∧ cur.heap[k4]? = some A4 ∧ cur.heap[k5]? = some A5 ∧ cur.heap[k6]? = some A6 ∧ cur.heap[k7]? = some A7 ∧ cur.cell? ⟨k0, 0, none⟩ = some v0 ∧ cur.cell? ⟨k0, 1, none⟩ = some v1 ∧ cur.cell? ⟨k1, 0, none⟩ = some v2 ∧ cur.cell? ⟨k1, 1, none⟩ = some v3 ∧ cur.cell? ⟨k1, 2, none⟩ = some v4 ∧ cur.cell? ⟨k1, 3, none⟩ = some v5 ∧ cur.cell? ⟨k1, 4, none⟩ = some v6 ∧ cur.cell? ⟨k1, 5, none⟩ = some v7 ∧ cur.cell? ⟨k1, 6, none⟩ = some v8 ∧ cur.cell? ⟨k1, 7, none⟩ = some v9 ∧ cur.cell? ⟨k3, 0, none⟩ = some v10 ∧ cur.cell? ⟨k3, 1, none⟩ = some v11 ∧ cur.cell? ⟨k3, 2, none⟩ = some v12 ∧ cur.cell? ⟨k3, 3, none⟩ = some v13 ∧ cur.cell? ⟨k3, 4, none⟩ = some v14 ∧ cur.cell? ⟨k3, 5, none⟩ = some v15 ∧ cur.cell? ⟨k4, 0, none⟩ = some v16 ∧ cur.cell? ⟨k4, 1, none⟩ = some v17 ∧ cur.cell? ⟨k4, 2, none⟩ = some v18 ∧ cur.cell? ⟨k4, 3, none⟩ = some v19 ∧ cur.cell? ⟨k4, 4, none⟩ = some v20 ∧ cur.cell? ⟨k4, 5, none⟩ = some v21 ∧ cur.cell? ⟨k4, 6, none⟩ = some v22 ∧ cur.cell? ⟨k4, 7, none⟩ = some v23 ∧ cur.cell? ⟨k5, 0, none⟩ = some v24 ∧ cur.cell? ⟨k5, 1, none⟩ = some v25 ∧ cur.cell? ⟨k5, 2, none⟩ = some v26 ∧ cur.cell? ⟨k5, 3, none⟩ = some v27 ∧ cur.cell? ⟨k5, 4, none⟩ = some v28 ∧ cur.cell? ⟨k5, 5, none⟩ = some v29 ∧ cur.cell? ⟨k5, 6, none⟩ = some v30 ∧ cur.cell? ⟨k5, 7, none⟩ = some v31 ∧ cur.cell? ⟨k6, 0, none⟩ = some v32 ∧ cur.cell? ⟨k6, 1, none⟩ = some v33 ∧ cur.cell? ⟨k6, 2, none⟩ = some v34 ∧ cur.cell? ⟨k6, 3, none⟩ = some v35 ∧ cur.cell? ⟨k6, 4, none⟩ = some v36 ∧ cur.cell? ⟨k6, 5, none⟩ = some v37 ∧ cur.cell? ⟨k7, 0, none⟩ = some v38 ∧ cur.cell? ⟨k7, 1, none⟩ = some v39 ∧ cur.cell? ⟨k7, 2, none⟩ = some v40 ∧ cur.cell? ⟨k7, 3, none⟩ = some v41 ∧ cur.cell? ⟨k7, 4, none⟩ = some v42 ∧ cur.cell? ⟨k7, 5, none⟩ = some v43 ∧ Below w.heap.size w cur := by
  obtain ⟨a0, a1, a2, a3, a4, a5, a6, a7, c0, c1, c2, c3, c4, c5, c6, c7, c8, c9, c10, c11, c12, c13, c14, c15, c16, c17, c18, c19, c20, c21, c22, c23, c24, c25, c26, c27, c28, c29, c30, c31, c32, c33, c34, c35, c36, c37, c38, c39, c40, c41, c42, c43, d⟩ := h
  exact ⟨a0, a1, a2, a3, a4, a5, a6, a7, c0, c1, c2, c3, c4, c5, c6, c7, c8, c9, c10, c11, c12, c13, c14, c15, c16, c17, c18, c19, c20, c21, c22, c23, c24, c25, c26, c27, c28, c29, c30, c31, c32, c33, c34, c35, c36, c37, c38, c39, c40, c41, c42, c43, ⟨d.os, d.tape, d.output, d.size, d.block⟩⟩
theorem signs_stepB {w cur w' : World} {k0 k1 k2 k3 k4 k5 k6 k7 : Nat} {A0 A1 A2 A3 A4 A5 A6 A7 : Obj} {v0 v1 v2 v3 v4 v5 v6 v7 v8 v9 v10 v11 v12 v13 v14 v15 : Value} (h : cur.heap[k0]? = some A0 ∧ cur.heap[k1]? = some A1 ∧ cur.heap[k2]? = some A2 ∧ cur.heap[k3]? = some A3 ∧ cur.heap[k4]? = some A4 ∧ cur.heap[k5]? = some A5 ∧ cur.heap[k6]? = some A6 ∧ cur.heap[k7]? = some A7 ∧ cur.cell? ⟨k1, 0, none⟩ = some v0 ∧ cur.cell? ⟨k1, 1, none⟩ = some v1 ∧ cur.cell? ⟨k1, 2, none⟩ = some v2 ∧ cur.cell? ⟨k1, 3, none⟩ = some v3 ∧ cur.cell? ⟨k1, 4, none⟩ = some v4 ∧ cur.cell? ⟨k1, 5, none⟩ = some v5 ∧ cur.cell? ⟨k1, 6, none⟩ = some v6 ∧ cur.cell? ⟨k1, 7, none⟩ = some v7 ∧ cur.cell? ⟨k2, 0, none⟩ = some v8 ∧ cur.cell? ⟨k2, 1, none⟩ = some v9 ∧ cur.cell? ⟨k2, 2, none⟩ = some v10 ∧ cur.cell? ⟨k2, 3, none⟩ = some v11 ∧ cur.cell? ⟨k2, 4, none⟩ = some v12 ∧ cur.cell? ⟨k2, 5, none⟩ = some v13 ∧ cur.cell? ⟨k2, 6, none⟩ = some v14 ∧ cur.cell? ⟨k2, 7, none⟩ = some v15 ∧ Below w.heap.size w cur) (hb : Below cur.heap.size cur w') : w'.heap[k0]? = some A0 ∧ w'.heap[k1]? = some A1 ∧ w'.heap[k2]? = some A2 ∧ w'.heap[k3]? = some A3 ∧ w'.heap[k4]? = some A4 ∧ w'.heap[k5]? = some A5 ∧ w'.heap[k6]? = some A6 ∧ w'.heap[k7]? = some A7 ∧ w'.cell? ⟨k1, 0, none⟩ = some v0 ∧ w'.cell? ⟨k1, 1, none⟩ = some v1 ∧ w'.cell? ⟨k1, 2, none⟩ = some v2 ∧ w'.cell? ⟨k1, 3, none⟩ = some v3 ∧ w'.cell? ⟨k1, 4, none⟩ = some v4 ∧ w'.cell? ⟨k1, 5, none⟩ = some v5 ∧ w'.cell? ⟨k1, 6, none⟩ = some v6 ∧ w'.cell? ⟨k1, 7, none⟩ = some v7 ∧ w'.cell? ⟨k2, 0, none⟩ = some v8 ∧ w'.cell? ⟨k2, 1, none⟩ = some v9 ∧ w'.cell? ⟨k2, 2, none⟩ = some v10 ∧ w'.cell? ⟨k2, 3, none⟩ = some v11 ∧ w'.cell? ⟨k2, 4, none⟩ = some v12 ∧ w'.cell? ⟨k2, 5, none⟩ = some v13 ∧ w'.cell? ⟨k2, 6, none⟩ = some v14 ∧ w'.cell? ⟨k2, 7, none⟩ = some v15 ∧ Below w.heap.size w w' := by
  obtain ⟨a0, a1, a2, a3, a4, a5, a6, a7, c0, c1, c2, c3, c4, c5, c6, c7, c8, c9, c10, c11, c12, c13, c14, c15, d⟩ := h
  exact ⟨blk_below a0 hb (blk_lt a0), blk_below a1 hb (blk_lt a1), blk_below a2 hb (blk_lt a2), blk_below a3 hb (blk_lt a3), blk_below a4 hb (blk_lt a4), blk_below a5 hb (blk_lt a5), blk_below a6 hb (blk_lt a6), blk_below a7 hb (blk_lt a7), (hb.cell (p := ⟨_, 0, none⟩) (blk_lt a1)).trans c0, (hb.cell (p := ⟨_, 1, none⟩) (blk_lt a1)).trans c1, (hb.cell (p := ⟨_, 2, none⟩) (blk_lt a1)).trans c2, (hb.cell (p := ⟨_, 3, none⟩) (blk_lt a1)).trans c3, (hb.cell (p := ⟨_, 4, none⟩) (blk_lt a1)).trans c4, (hb.cell (p := ⟨_, 5, none⟩) (blk_lt a1)).trans c5, (hb.cell (p := ⟨_, 6, none⟩) (blk_lt a1)).trans c6, (hb.cell (p := ⟨_, 7, none⟩) (blk_lt a1)).trans c7, (hb.cell (p := ⟨_, 0, none⟩) (blk_lt a2)).trans c8, (hb.cell (p := ⟨_, 1, none⟩) (blk_lt a2)).trans c9, (hb.cell (p := ⟨_, 2, none⟩) (blk_lt a2)).trans c10, (hb.cell (p := ⟨_, 3, none⟩) (blk_lt a2)).trans c11, (hb.cell (p := ⟨_, 4, none⟩) (blk_lt a2)).trans c12, (hb.cell (p := ⟨_, 5, none⟩) (blk_lt a2)).trans c13, (hb.cell (p := ⟨_, 6, none⟩) (blk_lt a2)).trans c14, (hb.cell (p := ⟨_, 7, none⟩) (blk_lt a2)).trans c15, d.trans (hb.mono d.size)⟩
theorem signs_stepBN {w cur : World} {k0 k1 k2 k3 k4 k5 k6 k7 : Nat} {A0 A1 A2 A3 A4 A5 A6 A7 : Obj} {v0 v1 v2 v3 v4 v5 v6 v7 v8 v9 v10 v11 v12 v13 v14 v15 : Value} (h : cur.heap[k0]? = some A0 ∧ cur.heap[k1]? = some A1 ∧ cur.heap[k2]? = some A2 ∧ cur.heap[k3]? = some A3 ∧ cur.heap[k4]? = some A4 ∧ cur.heap[k5]? = some A5 ∧ cur.heap[k6]? = some A6 ∧ cur.heap[k7]? = some A7 ∧ cur.cell? ⟨k1, 0, none⟩ = some v0 ∧ cur.cell? ⟨k1, 1, none⟩ = some v1 ∧ cur.cell? ⟨k1, 2, none⟩ = some v2 ∧ cur.cell? ⟨k1, 3, none⟩ = some v3 ∧ cur.cell? ⟨k1, 4, none⟩ = some v4 ∧ cur.cell? ⟨k1, 5, none⟩ = some v5 ∧ cur.cell? ⟨k1, 6, none⟩ = some v6 ∧ cur.cell? ⟨k1, 7, none⟩ = some v7 ∧ cur.cell? ⟨k2, 0, none⟩ = some v8 ∧ cur.cell? ⟨k2, 1, none⟩ = some v9 ∧ cur.cell? ⟨k2, 2, none⟩ = some v10 ∧ cur.cell? ⟨k2, 3, none⟩ = some v11 ∧ cur.cell? ⟨k2, 4, none⟩ = some v12 ∧ cur.cell? ⟨k2, 5, none⟩ = some v13 ∧ cur.cell? ⟨k2, 6, none⟩ = some v14 ∧ cur.cell? ⟨k2, 7, none⟩ = some v15 ∧ Below w.heap.size w cur) (n : Nat) : (cur.drewN n).heap[k0]? = some A0 ∧ (cur.drewN n).heap[k1]? = some A1 ∧ (cur.drewN n).heap[k2]? = some A2 ∧ (cur.drewN n).heap[k3]? = some A3 ∧ (cur.drewN n).heap[k4]? = some A4 ∧ (cur.drewN n).heap[k5]? = some A5 ∧ (cur.drewN n).heap[k6]? = some A6 ∧ (cur.drewN n).heap[k7]? = some A7 ∧ (cur.drewN n).cell? ⟨k1, 0, none⟩ = some v0 ∧ (cur.drewN n).cell? ⟨k1, 1, none⟩ = some v1 ∧ (cur.drewN n).cell? ⟨k1, 2, none⟩ = some v2 ∧ (cur.drewN n).cell? ⟨k1, 3, none⟩ = some v3 ∧ (cur.drewN n).cell? ⟨k1, 4, none⟩ = some v4 ∧ (cur.drewN n).cell? ⟨k1, 5, none⟩ = some v5 ∧ (cur.drewN n).cell? ⟨k1, 6, none⟩ = some v6 ∧ (cur.drewN n).cell? ⟨k1, 7, none⟩ = some v7 ∧ (cur.drewN n).cell? ⟨k2, 0, none⟩ = some v8 ∧ (cur.drewN n).cell? ⟨k2, 1, none⟩ = some v9 ∧ (cur.drewN n).cell? ⟨k2, 2, none⟩ = some v10 ∧ (cur.drewN n).cell? ⟨k2, 3, none⟩ = some v11 ∧ (cur.drewN n).cell? ⟨k2, 4, none⟩ = some v12 ∧ (cur.drewN n).cell? ⟨k2, 5, none⟩ = some v13 ∧ (cur.drewN n).cell? ⟨k2, 6, none⟩ = some v14 ∧ (cur.drewN n).cell? ⟨k2, 7, none⟩ = some v15 ∧ Below w.heap.size w (cur.drewN n) := by
  obtain ⟨a0, a1, a2, a3, a4, a5, a6, a7, c0, c1, c2, c3, c4, c5, c6, c7, c8, c9, c10, c11, c12, c13, c14, c15, d⟩ := h
  exact ⟨a0, a1, a2, a3, a4, a5, a6, a7, c0, c1, c2, c3, c4, c5, c6, c7, c8, c9, c10, c11, c12, c13, c14, c15, below_drewN d⟩
theorem signs_stepBA {w cur : World} {k0 k1 k2 k3 k4 k5 k6 k7 : Nat} {A0 A1 A2 A3 A4 A5 A6 A7 : Obj} {v0 v1 v2 v3 v4 v5 v6 v7 v8 v9 v10 v11 v12 v13 v14 v15 : Value} {o : Obj} (h : cur.heap[k0]? = some A0 ∧ cur.heap[k1]? = some A1 ∧ cur.heap[k2]? = some A2 ∧ cur.heap[k3]? = some A3 ∧ cur.heap[k4]? = some A4 ∧ cur.heap[k5]? = some A5 ∧ cur.heap[k6]? = some A6 ∧ cur.heap[k7]? = some A7 ∧ cur.cell? ⟨k1, 0, none⟩ = some v0 ∧ cur.cell? ⟨k1, 1, none⟩ = some v1 ∧ cur.cell? ⟨k1, 2, none⟩ = some v2 ∧ cur.cell? ⟨k1, 3, none⟩ = some v3 ∧ cur.cell? ⟨k1, 4, none⟩ = some v4 ∧ cur.cell? ⟨k1, 5, none⟩ = some v5 ∧ cur.cell? ⟨k1, 6, none⟩ = some v6 ∧ cur.cell? ⟨k1, 7, none⟩ = some v7 ∧ cur.cell? ⟨k2, 0, none⟩ = some v8 ∧ cur.cell? ⟨k2, 1, none⟩ = some v9 ∧ cur.cell? ⟨k2, 2, none⟩ = some v10 ∧ cur.cell? ⟨k2, 3, none⟩ = some v11 ∧ cur.cell? ⟨k2, 4, none⟩ = some v12 ∧ cur.cell? ⟨k2, 5, none⟩ = some v13 ∧ cur.cell? ⟨k2, 6, none⟩ = some v14 ∧ cur.cell? ⟨k2, 7, none⟩ = some v15 ∧ Below w.heap.size w cur) : (cur.alloc o).heap[k0]? = some A0 ∧ (cur.alloc o).heap[k1]? = some A1 ∧ (cur.alloc o).heap[k2]? = some A2 ∧ (cur.alloc o).heap[k3]? = some A3 ∧ (cur.alloc o).heap[k4]? = some A4 ∧ (cur.alloc o).heap[k5]? = some A5 ∧ (cur.alloc o).heap[k6]? = some A6 ∧ (cur.alloc o).heap[k7]? = some A7 ∧ (cur.alloc o).cell? ⟨k1, 0, none⟩ = some v0 ∧ (cur.alloc o).cell? ⟨k1, 1, none⟩ = some v1 ∧ (cur.alloc o).cell? ⟨k1, 2, none⟩ = some v2 ∧ (cur.alloc o).cell? ⟨k1, 3, none⟩ = some v3 ∧ (cur.alloc o).cell? ⟨k1, 4, none⟩ = some v4 ∧ (cur.alloc o).cell? ⟨k1, 5, none⟩ = some v5 ∧ (cur.alloc o).cell? ⟨k1, 6, none⟩ = some v6 ∧ (cur.alloc o).cell? ⟨k1, 7, none⟩ = some v7 ∧ (cur.alloc o).cell? ⟨k2, 0, none⟩ = some v8 ∧ (cur.alloc o).cell? ⟨k2, 1, none⟩ = some v9 ∧ (cur.alloc o).cell? ⟨k2, 2, none⟩ = some v10 ∧ (cur.alloc o).cell? ⟨k2, 3, none⟩ = some v11 ∧ (cur.alloc o).cell? ⟨k2, 4, none⟩ = some v12 ∧ (cur.alloc o).cell? ⟨k2, 5, none⟩ = some v13 ∧ (cur.alloc o).cell? ⟨k2, 6, none⟩ = some v14 ∧ (cur.alloc o).cell? ⟨k2, 7, none⟩ = some v15 ∧ Below w.heap.size w (cur.alloc o) := signs_stepB h ((Below.refl _ _).alloc (Nat.le_refl _) o)
theorem signs_stepBS {w cur : World} {b j : Nat} {x : Value} {k0 k1 k2 k3 k4 k5 k6 k7 : Nat} {A0 A1 A2 A3 A4 A5 A6 A7 : Obj} {v0 v1 v2 v3 v4 v5 v6 v7 v8 v9 v10 v11 v12 v13 v14 v15 : Value} (h : cur.heap[k0]? = some A0 ∧ cur.heap[k1]? = some A1 ∧ cur.heap[k2]? = some A2 ∧ cur.heap[k3]? = some A3 ∧ cur.heap[k4]? = some A4 ∧ cur.heap[k5]? = some A5 ∧ cur.heap[k6]? = some A6 ∧ cur.heap[k7]? = some A7 ∧ cur.cell? ⟨k1, 0, none⟩ = some v0 ∧ cur.cell? ⟨k1, 1, none⟩ = some v1 ∧ cur.cell? ⟨k1, 2, none⟩ = some v2 ∧ cur.cell? ⟨k1, 3, none⟩ = some v3 ∧ cur.cell? ⟨k1, 4, none⟩ = some v4 ∧ cur.cell? ⟨k1, 5, none⟩ = some v5 ∧ cur.cell? ⟨k1, 6, none⟩ = some v6 ∧ cur.cell? ⟨k1, 7, none⟩ = some v7 ∧ cur.cell? ⟨k2, 0, none⟩ = some v8 ∧ cur.cell? ⟨k2, 1, none⟩ = some v9 ∧ cur.cell? ⟨k2, 2, none⟩ = some v10 ∧ cur.cell? ⟨k2, 3, none⟩ = some v11 ∧ cur.cell? ⟨k2, 4, none⟩ = some v12 ∧ cur.cell? ⟨k2, 5, none⟩ = some v13 ∧ cur.cell? ⟨k2, 6, none⟩ = some v14 ∧ cur.cell? ⟨k2, 7, none⟩ = some v15 ∧ Below w.heap.size w cur) (hle : w.heap.size ≤ b) (hn0 : k0 ≠ b) (hn1 : k1 ≠ b) (hn2 : k2 ≠ b) (hn3 : k3 ≠ b) (hn4 : k4 ≠ b) (hn5 : k5 ≠ b) (hn6 : k6 ≠ b) (hn7 : k7 ≠ b) : (cur.setCell ⟨b, j, none⟩ x).heap[k0]? = some A0 ∧ (cur.setCell ⟨b, j, none⟩ x).heap[k1]? = some A1 ∧ (cur.setCell ⟨b, j, none⟩ x).heap[k2]? = some A2 ∧ (cur.setCell ⟨b, j, none⟩ x).heap[k3]? = some A3 ∧ (cur.setCell ⟨b, j, none⟩ x).heap[k4]? = some A4 ∧ (cur.setCell ⟨b, j, none⟩ x).heap[k5]? = some A5 ∧ (cur.setCell ⟨b, j, none⟩ x).heap[k6]? = some A6 ∧ (cur.setCell ⟨b, j, none⟩ x).heap[k7]? = some A7 ∧ (cur.setCell ⟨b, j, none⟩ x).cell? ⟨k1, 0, none⟩ = some v0 ∧ (cur.setCell ⟨b, j, none⟩ x).cell? ⟨k1, 1, none⟩ = some v1 ∧ (cur.setCell ⟨b, j, none⟩ x).cell? ⟨k1, 2, none⟩ = some v2 ∧ (cur.setCell ⟨b, j, none⟩ x).cell? ⟨k1, 3, none⟩ = some v3 ∧ (cur.setCell ⟨b, j, none⟩ x).cell? ⟨k1, 4, none⟩ = some v4 ∧ (cur.setCell ⟨b, j, none⟩ x).cell? ⟨k1, 5, none⟩ = some v5 ∧ (cur.setCell ⟨b, j, none⟩ x).cell? ⟨k1, 6, none⟩ = some v6 ∧ (cur.setCell ⟨b, j, none⟩ x).cell? ⟨k1, 7, none⟩ = some v7 ∧ (cur.setCell ⟨b, j, none⟩ x).cell? ⟨k2, 0, none⟩ = some v8 ∧ (cur.setCell ⟨b, j, none⟩ x).cell? ⟨k2, 1, none⟩ = some v9 ∧ (cur.setCell ⟨b, j, none⟩ x).cell? ⟨k2, 2, none⟩ = some v10 ∧ (cur.setCell ⟨b, j, none⟩ x).cell? ⟨k2, 3, none⟩ = some v11 ∧ (cur.setCell ⟨b, j, none⟩ x).cell? ⟨k2, 4, none⟩ = some v12 ∧ (cur.setCell ⟨b, j, none⟩ x).cell? ⟨k2, 5, none⟩ = some v13 ∧ (cur.setCell ⟨b, j, none⟩ x).cell? ⟨k2, 6, none⟩ = some v14 ∧ (cur.setCell ⟨b, j, none⟩ x).cell? ⟨k2, 7, none⟩ = some v15 ∧ Below w.heap.size w (cur.setCell ⟨b, j, none⟩ x) := by
  obtain ⟨a0, a1, a2, a3, a4, a5, a6, a7, c0, c1, c2, c3, c4, c5, c6, c7, c8, c9, c10, c11, c12, c13, c14, c15, d⟩ := h
  have e0 : (cur.setCell ⟨b, j, none⟩ x).heap[k0]? = cur.heap[k0]? := heap_setCell_other _ _ _ _ hn0
  have e1 : (cur.setCell ⟨b, j, none⟩ x).heap[k1]? = cur.heap[k1]? := heap_setCell_other _ _ _ _ hn1
  have e2 : (cur.setCell ⟨b, j, none⟩ x).heap[k2]? = cur.heap[k2]? := heap_setCell_other _ _ _ _ hn2
  have e3 : (cur.setCell ⟨b, j, none⟩ x).heap[k3]? = cur.heap[k3]? := heap_setCell_other _ _ _ _ hn3
  have e4 : (cur.setCell ⟨b, j, none⟩ x).heap[k4]? = cur.heap[k4]? := heap_setCell_other _ _ _ _ hn4
  have e5 : (cur.setCell ⟨b, j, none⟩ x).heap[k5]? = cur.heap[k5]? := heap_setCell_other _ _ _ _ hn5
  have e6 : (cur.setCell ⟨b, j, none⟩ x).heap[k6]? = cur.heap[k6]? := heap_setCell_other _ _ _ _ hn6
  have e7 : (cur.setCell ⟨b, j, none⟩ x).heap[k7]? = cur.heap[k7]? := heap_setCell_other _ _ _ _ hn7
  exact ⟨e0.trans a0, e1.trans a1, e2.trans a2, e3.trans a3, e4.trans a4, e5.trans a5, e6.trans a6, e7.trans a7, (by rw [← c0]; unfold World.cell?; rw [e1]), (by rw [← c1]; unfold World.cell?; rw [e1]), (by rw [← c2]; unfold World.cell?; rw [e1]), (by rw [← c3]; unfold World.cell?; rw [e1]), (by rw [← c4]; unfold World.cell?; rw [e1]), (by rw [← c5]; unfold World.cell?; rw [e1]), (by rw [← c6]; unfold World.cell?; rw [e1]), (by rw [← c7]; unfold World.cell?; rw [e1]), (by rw [← c8]; unfold World.cell?; rw [e2]), (by rw [← c9]; unfold World.cell?; rw [e2]), (by rw [← c10]; unfold World.cell?; rw [e2]), (by rw [← c11]; unfold World.cell?; rw [e2]), (by rw [← c12]; unfold World.cell?; rw [e2]), (by rw [← c13]; unfold World.cell?; rw [e2]), (by rw [← c14]; unfold World.cell?; rw [e2]), (by rw [← c15]; unfold World.cell?; rw [e2]), d.setCell hle _⟩
theorem signs_stepBU {w cur : World} {k0 k1 k2 k3 k4 k5 k6 k7 : Nat} {A0 A1 A2 A3 A4 A5 A6 A7 : Obj} {v0 v1 v2 v3 v4 v5 v6 v7 v8 v9 v10 v11 v12 v13 v14 v15 : Value} {n : Nat} (h : (cur.drewN n).heap[k0]? = some A0 ∧ (cur.drewN n).heap[k1]? = some A1 ∧ (cur.drewN n).heap[k2]? = some A2 ∧ (cur.drewN n).heap[k3]? = some A3 ∧ (cur.drewN n).heap[k4]? = some A4 ∧ (cur.drewN n).heap[k5]? = some A5 ∧ (cur.drewN n).heap[k6]? = some A6 ∧ (cur.drewN n).heap[k7]? = some A7 ∧ (cur.drewN n).cell? ⟨k1, 0, none⟩ = some v0 ∧ (cur.drewN n).cell? ⟨k1, 1, none⟩ = some v1 ∧ (cur.drewN n).cell? ⟨k1, 2, none⟩ = some v2 ∧ (cur.drewN n).cell? ⟨k1, 3, none⟩ = some v3 ∧ (cur.drewN n).cell? ⟨k1, 4, none⟩ = some v4 ∧ (cur.drewN n).cell? ⟨k1, 5, none⟩ = some v5 ∧ (cur.drewN n).cell? ⟨k1, 6, none⟩ = some v6 ∧ (cur.drewN n).cell? ⟨k1, 7, none⟩ = some v7 ∧ (cur.drewN n).cell? ⟨k2, 0, none⟩ = some v8 ∧ (cur.drewN n).cell? ⟨k2, 1, none⟩ = some v9 ∧ (cur.drewN n).cell? ⟨k2, 2, none⟩ = some v10 ∧ (cur.drewN n).cell? ⟨k2, 3, none⟩ = some v11 ∧ (cur.drewN n).cell? ⟨k2, 4, none⟩ = some v12 ∧ (cur.drewN n).cell? ⟨k2, 5, none⟩ = some v13 ∧ (cur.drewN n).cell? ⟨k2, 6, none⟩ = some v14 ∧ (cur.drewN n).cell? ⟨k2, 7, none⟩ = some v15 ∧ Below w.heap.size w (cur.drewN n)) : cur.heap[k0]? = some A0 ∧ cur.heap[k1]? = some A1 ∧ cur.heap[k2]? = some A2 ∧ cur.heap[k3]? = some A3 ∧ cur.heap[k4]? = some A4 ∧ cur.heap[k5]? = some A5 ∧ cur.heap[k6]? = some A6 ∧ cur.heap[k7]? = some A7 ∧ cur.cell? ⟨k1, 0, none⟩ = some v0 ∧ cur.cell? ⟨k1, 1, none⟩ = some v1 ∧ cur.cell? ⟨k1, 2, none⟩ = some v2 ∧ cur.cell? ⟨k1, 3, none⟩ = some v3 ∧ cur.cell? ⟨k1, 4, none⟩ = some v4 ∧ cur.cell? ⟨k1, 5, none⟩ = some v5 ∧ cur.cell? ⟨k1, 6, none⟩ = some v6 ∧ cur.cell? ⟨k1, 7, none⟩ = some v7 ∧ cur.cell? ⟨k2, 0, none⟩ = some v8 ∧ cur.cell? ⟨k2, 1, none⟩ = some v9 ∧ cur.cell? ⟨k2, 2, none⟩ = some v10 ∧ cur.cell? ⟨k2, 3, none⟩ = some v11 ∧ cur.cell? ⟨k2, 4, none⟩ = some v12 ∧ cur.cell? ⟨k2, 5, none⟩ = some v13 ∧ cur.cell? ⟨k2, 6, none⟩ = some v14 ∧ cur.cell? ⟨k2, 7, none⟩ = some v15 ∧ Below w.heap.size w cur := by
  obtain ⟨a0, a1, a2, a3, a4, a5, a6, a7, c0, c1, c2, c3, c4, c5, c6, c7, c8, c9, c10, c11, c12, c13, c14, c15, d⟩ := h
  exact ⟨a0, a1, a2, a3, a4, a5, a6, a7, c0, c1, c2, c3, c4, c5, c6, c7, c8, c9, c10, c11, c12, c13, c14, c15, ⟨d.os, d.tape, d.output, d.size, d.block⟩⟩
theorem signs_stepC {w cur w' : World} {k0 k1 k2 k3 k4 k5 k6 k7 : Nat} {A0 A1 A2 A3 A4 A5 A6 A7 : Obj} {v0 v1 v2 v3 v4 v5 v6 v7 v8 v9 v10 v11 v12 v13 v14 v15 v16 v17 : Value} (h : cur.heap[k0]? = some A0 ∧ cur.heap[k1]? = some A1 ∧ cur.heap[k2]? = some A2 ∧ cur.heap[k3]? = some A3 ∧ cur.heap[k4]? = some A4 ∧ cur.heap[k5]? = some A5 ∧ cur.heap[k6]? = some A6 ∧ cur.heap[k7]? = some A7 ∧ cur.cell? ⟨k0, 0, none⟩ = some v0 ∧ cur.cell? ⟨k0, 1, none⟩ = some v1 ∧ cur.cell? ⟨k1, 0, none⟩ = some v2 ∧ cur.cell? ⟨k1, 1, none⟩ = some v3 ∧ cur.cell? ⟨k1, 2, none⟩ = some v4 ∧ cur.cell? ⟨k1, 3, none⟩ = some v5 ∧ cur.cell? ⟨k1, 4, none⟩ = some v6 ∧ cur.cell? ⟨k1, 5, none⟩ = some v7 ∧ cur.cell? ⟨k1, 6, none⟩ = some v8 ∧ cur.cell? ⟨k1, 7, none⟩ = some v9 ∧ cur.cell? ⟨k2, 0, none⟩ = some v10 ∧ cur.cell? ⟨k2, 1, none⟩ = some v11 ∧ cur.cell? ⟨k2, 2, none⟩ = some v12 ∧ cur.cell? ⟨k2, 3, none⟩ = some v13 ∧ cur.cell? ⟨k2, 4, none⟩ = some v14 ∧ cur.cell? ⟨k2, 5, none⟩ = some v15 ∧ cur.cell? ⟨k2, 6, none⟩ = some v16 ∧ cur.cell? ⟨k2, 7, none⟩ = some v17 ∧ Below w.heap.size w cur) (hb : Below cur.heap.size cur w') : w'.heap[k0]? = some A0 ∧ w'.heap[k1]? = some A1 ∧ w'.heap[k2]? = some A2 ∧ w'.heap[k3]? = some A3 ∧ w'.heap[k4]? = some A4 ∧ w'.heap[k5]? = some A5 ∧ w'.heap[k6]? = some A6 ∧ w'.heap[k7]? = some A7 ∧ w'.cell? ⟨k0, 0, none⟩ = some v0 ∧ w'.cell? ⟨k0, 1, none⟩ = some v1 ∧ w'.cell? ⟨k1, 0, none⟩ = some v2 ∧ w'.cell? ⟨k1, 1, none⟩ = some v3 ∧ w'.cell? ⟨k1, 2, none⟩ = some v4 ∧ w'.cell? ⟨k1, 3, none⟩ = some v5 ∧ w'.cell? ⟨k1, 4, none⟩ = some v6 ∧ w'.cell? ⟨k1, 5, none⟩ = some v7 ∧ w'.cell? ⟨k1, 6, none⟩ = some v8 ∧ w'.cell? ⟨k1, 7, none⟩ = some v9 ∧ w'.cell? ⟨k2, 0, none⟩ = some v10 ∧ w'.cell? ⟨k2, 1, none⟩ = some v11 ∧ w'.cell? ⟨k2, 2, none⟩ = some v12 ∧ w'.cell? ⟨k2, 3, none⟩ = some v13 ∧ w'.cell? ⟨k2, 4, none⟩ = some v14 ∧ w'.cell? ⟨k2, 5, none⟩ = some v15 ∧ w'.cell? ⟨k2, 6, none⟩ = some v16 ∧ w'.cell? ⟨k2, 7, none⟩ = some v17 ∧ Below w.heap.size w w' := by
  obtain ⟨a0, a1, a2, a3, a4, a5, a6, a7, c0, c1, c2, c3, c4, c5, c6, c7, c8, c9, c10, c11, c12, c13, c14, c15, c16, c17, d⟩ := h
  exact ⟨blk_below a0 hb (blk_lt a0), blk_below a1 hb (blk_lt a1), blk_below a2 hb (blk_lt a2), blk_below a3 hb (blk_lt a3), blk_below a4 hb (blk_lt a4), blk_below a5 hb (blk_lt a5), blk_below a6 hb (blk_lt a6), blk_below a7 hb (blk_lt a7), (hb.cell (p := ⟨_, 0, none⟩) (blk_lt a0)).trans c0, (hb.cell (p := ⟨_, 1, none⟩) (blk_lt a0)).trans c1, (hb.cell (p := ⟨_, 0, none⟩) (blk_lt a1)).trans c2, (hb.cell (p := ⟨_, 1, none⟩) (blk_lt a1)).trans c3, (hb.cell (p := ⟨_, 2, none⟩) (blk_lt a1)).trans c4, (hb.cell (p := ⟨_, 3, none⟩) (blk_lt a1)).trans c5, (hb.cell (p := ⟨_, 4, none⟩) (blk_lt a1)).trans c6, (hb.cell (p := ⟨_, 5, none⟩) (blk_lt a1)).trans c7, (hb.cell (p := ⟨_, 6, none⟩) (blk_lt a1)).trans c8, (hb.cell (p := ⟨_, 7, none⟩) (blk_lt a1)).trans c9, (hb.cell (p := ⟨_, 0, none⟩) (blk_lt a2)).trans c10, (hb.cell (p := ⟨_, 1, none⟩) (blk_lt a2)).trans c11, (hb.cell (p := ⟨_, 2, none⟩) (blk_lt a2)).trans c12, (hb.cell (p := ⟨_, 3, none⟩) (blk_lt a2)).trans c13, (hb.cell (p := ⟨_, 4, none⟩) (blk_lt a2)).trans c14, (hb.cell (p := ⟨_, 5, none⟩) (blk_lt a2)).trans c15, (hb.cell (p := ⟨_, 6, none⟩) (blk_lt a2)).trans c16, (hb.cell (p := ⟨_, 7, none⟩) (blk_lt a2)).trans c17, d.trans (hb.mono d.size)⟩
theorem signs_stepCN {w cur : World} {k0 k1 k2 k3 k4 k5 k6 k7 : Nat} {A0 A1 A2 A3 A4 A5 A6 A7 : Obj} {v0 v1 v2 v3 v4 v5 v6 v7 v8 v9 v10 v11 v12 v13 v14 v15 v16 v17 : Value} (h : cur.heap[k0]? = some A0 ∧ cur.heap[k1]? = some A1 ∧ cur.heap[k2]? = some A2 ∧ cur.heap[k3]? = some A3 ∧ cur.heap[k4]? = some A4 ∧ cur.heap[k5]? = some A5 ∧ cur.heap[k6]? = some A6 ∧ cur.heap[k7]? = some A7 ∧ cur.cell? ⟨k0, 0, none⟩ = some v0 ∧ cur.cell? ⟨k0, 1, none⟩ = some v1 ∧ cur.cell? ⟨k1, 0, none⟩ = some v2 ∧ cur.cell? ⟨k1, 1, none⟩ = some v3 ∧ cur.cell? ⟨k1, 2, none⟩ = some v4 ∧ cur.cell? ⟨k1, 3, none⟩ = some v5 ∧ cur.cell? ⟨k1, 4, none⟩ = some v6 ∧ cur.cell? ⟨k1, 5, none⟩ = some v7 ∧ cur.cell? ⟨k1, 6, none⟩ = some v8 ∧ cur.cell? ⟨k1, 7, none⟩ = some v9 ∧ cur.cell? ⟨k2, 0, none⟩ = some v10 ∧ cur.cell? ⟨k2, 1, none⟩ = some v11 ∧ cur.cell? ⟨k2, 2, none⟩ = some v12 ∧ cur.cell? ⟨k2, 3, none⟩ = some v13 ∧ cur.cell? ⟨k2, 4, none⟩ = some v14 ∧ cur.cell? ⟨k2, 5, none⟩ = some v15 ∧ cur.cell? ⟨k2, 6, none⟩ = some v16 ∧ cur.cell? ⟨k2, 7, none⟩ = some v17 ∧ Below w.heap.size w cur) (n : Nat) : (cur.drewN n).heap[k0]? = some A0 ∧ (cur.drewN n).heap[k1]? = some A1 ∧ (cur.drewN n).heap[k2]? = some A2 ∧ (cur.drewN n).heap[k3]? = some A3 ∧ (cur.drewN n).heap[k4]? = some A4 ∧ (cur.drewN n).heap[k5]? = some A5 ∧ (cur.drewN n).heap[k6]? = some A6 ∧ (cur.drewN n).heap[k7]? = some A7 ∧ (cur.drewN n).cell? ⟨k0, 0, none⟩ = some v0 ∧ (cur.drewN n).cell? ⟨k0, 1, none⟩ = some v1 ∧ (cur.drewN n).cell? ⟨k1, 0, none⟩ = some v2 ∧ (cur.drewN n).cell? ⟨k1, 1, none⟩ = some v3 ∧ (cur.drewN n).cell? ⟨k1, 2, none⟩ = some v4 ∧ (cur.drewN n).cell? ⟨k1, 3, none⟩ = some v5 ∧ (cur.drewN n).cell? ⟨k1, 4, none⟩ = some v6 ∧ (cur.drewN n).cell? ⟨k1, 5, none⟩ = some v7 ∧ (cur.drewN n).cell? ⟨k1, 6, none⟩ = some v8 ∧ (cur.drewN n).cell? ⟨k1, 7, none⟩ = some v9 ∧ (cur.drewN n).cell? ⟨k2, 0, none⟩ = some v10 ∧ (cur.drewN n).cell? ⟨k2, 1, none⟩ = some v11 ∧ (cur.drewN n).cell? ⟨k2, 2, none⟩ = some v12 ∧ (cur.drewN n).cell? ⟨k2, 3, none⟩ = some v13 ∧ (cur.drewN n).cell? ⟨k2, 4, none⟩ = some v14 ∧ (cur.drewN n).cell? ⟨k2, 5, none⟩ = some v15 ∧ (cur.drewN n).cell? ⟨k2, 6, none⟩ = some v16 ∧ (cur.drewN n).cell? ⟨k2, 7, none⟩ = some v17 ∧ Below w.heap.size w (cur.drewN n) := by
  obtain ⟨a0, a1, a2, a3, a4, a5, a6, a7, c0, c1, c2, c3, c4, c5, c6, c7, c8, c9, c10, c11, c12, c13, c14, c15, c16, c17, d⟩ := h
  exact ⟨a0, a1, a2, a3, a4, a5, a6, a7, c0, c1, c2, c3, c4, c5, c6, c7, c8, c9, c10, c11, c12, c13, c14, c15, c16, c17, below_drewN d⟩
theorem signs_stepCA {w cur : World} {k0 k1 k2 k3 k4 k5 k6 k7 : Nat} {A0 A1 A2 A3 A4 A5 A6 A7 : Obj} {v0 v1 v2 v3 v4 v5 v6 v7 v8 v9 v10 v11 v12 v13 v14 v15 v16 v17 : Value} {o : Obj} (h : cur.heap[k0]? = some A0 ∧ cur.heap[k1]? = some A1 ∧ cur.heap[k2]? = some A2 ∧ cur.heap[k3]? = some A3 ∧ cur.heap[k4]? = some A4 ∧ cur.heap[k5]? = some A5 ∧ cur.heap[k6]? = some A6 ∧ cur.heap[k7]? = some A7 ∧ cur.cell? ⟨k0, 0, none⟩ = some v0 ∧ cur.cell? ⟨k0, 1, none⟩ = some v1 ∧ cur.cell? ⟨k1, 0, none⟩ = some v2 ∧ cur.cell? ⟨k1, 1, none⟩ = some v3 ∧ cur.cell? ⟨k1, 2, none⟩ = some v4 ∧ cur.cell? ⟨k1, 3, none⟩ = some v5 ∧ cur.cell? ⟨k1, 4, none⟩ = some v6 ∧ cur.cell? ⟨k1, 5, none⟩ = some v7 ∧ cur.cell? ⟨k1, 6, none⟩ = some v8 ∧ cur.cell? ⟨k1, 7, none⟩ = some v9 ∧ cur.cell? ⟨k2, 0, none⟩ = some v10 ∧ cur.cell? ⟨k2, 1, none⟩ = some v11 ∧ cur.cell? ⟨k2, 2, none⟩ = some v12 ∧ cur.cell? ⟨k2, 3, none⟩ = some v13 ∧ cur.cell? ⟨k2, 4, none⟩ = some v14 ∧ cur.cell? ⟨k2, 5, none⟩ = some v15 ∧ cur.cell? ⟨k2, 6, none⟩ = some v16 ∧ cur.cell? ⟨k2, 7, none⟩ = some v17 ∧ Below w.heap.size w cur) : (cur.alloc o).heap[k0]? = some A0 ∧ (cur.alloc o).heap[k1]? = some A1 ∧ (cur.alloc o).heap[k2]? = some A2 ∧ (cur.alloc o).heap[k3]? = some A3 ∧ (cur.alloc o).heap[k4]? = some A4 ∧ (cur.alloc o).heap[k5]? = some A5 ∧ (cur.alloc o).heap[k6]? = some A6 ∧ (cur.alloc o).heap[k7]? = some A7 ∧ (cur.alloc o).cell? ⟨k0, 0, none⟩ = some v0 ∧ (cur.alloc o).cell? ⟨k0, 1, none⟩ = some v1 ∧ (cur.alloc o).cell? ⟨k1, 0, none⟩ = some v2 ∧ (cur.alloc o).cell? ⟨k1, 1, none⟩ = some v3 ∧ (cur.alloc o).cell? ⟨k1, 2, none⟩ = some v4 ∧ (cur.alloc o).cell? ⟨k1, 3, none⟩ = some v5 ∧ (cur.alloc o).cell? ⟨k1, 4, none⟩ = some v6 ∧ (cur.alloc o).cell? ⟨k1, 5, none⟩ = some v7 ∧ (cur.alloc o).cell? ⟨k1, 6, none⟩ = some v8 ∧ (cur.alloc o).cell? ⟨k1, 7, none⟩ = some v9 ∧ (cur.alloc o).cell? ⟨k2, 0, none⟩ = some v10 ∧ (cur.alloc o).cell? ⟨k2, 1, none⟩ = some v11 ∧ (cur.alloc o).cell? ⟨k2, 2, none⟩ = some v12 ∧ (cur.alloc o).cell? ⟨k2, 3, none⟩ = some v13 ∧ (cur.alloc o).cell? ⟨k2, 4, none⟩ = some v14 ∧ (cur.alloc o).cell? ⟨k2, 5, none⟩ = some v15 ∧ (cur.alloc o).cell? ⟨k2, 6, none⟩ = some v16 ∧ (cur.alloc o).cell? ⟨k2, 7, none⟩ = some v17 ∧ Below w.heap.size w (cur.alloc o) := signs_stepC h ((Below.refl _ _).alloc (Nat.le_refl _) o)
theorem signs_stepCS {w cur : World} {b j : Nat} {x : Value} {k0 k1 k2 k3 k4 k5 k6 k7 : Nat} {A0 A1 A2 A3 A4 A5 A6 A7 : Obj} {v0 v1 v2 v3 v4 v5 v6 v7 v8 v9 v10 v11 v12 v13 v14 v15 v16 v17 : Value} (h : cur.heap[k0]? = some A0 ∧ cur.heap[k1]? = some A1 ∧ cur.heap[k2]? = some A2 ∧ cur.heap[k3]? = some A3 ∧ cur.heap[k4]? = some A4 ∧ cur.heap[k5]? = some A5 ∧ cur.heap[k6]? = some A6 ∧ cur.heap[k7]? = some A7 ∧ cur.cell? ⟨k0, 0, none⟩ = some v0 ∧ cur.cell? ⟨k0, 1, none⟩ = some v1 ∧ cur.cell? ⟨k1, 0, none⟩ = some v2 ∧ cur.cell? ⟨k1, 1, none⟩ = some v3 ∧ cur.cell? ⟨k1, 2, none⟩ = some v4 ∧ cur.cell? ⟨k1, 3, none⟩ = some v5 ∧ cur.cell? ⟨k1, 4, none⟩ = some v6 ∧ cur.cell? ⟨k1, 5, none⟩ = some v7 ∧ cur.cell? ⟨k1, 6, none⟩ = some v8 ∧ cur.cell? ⟨k1, 7, none⟩ = some v9 ∧ cur.cell? ⟨k2, 0, none⟩ = some v10 ∧ cur.cell? ⟨k2, 1, none⟩ = some v11 ∧ cur.cell? ⟨k2, 2, none⟩ = some v12 ∧ cur.cell? ⟨k2, 3, none⟩ = some v13 ∧ cur.cell? ⟨k2, 4, none⟩ = some v14 ∧ cur.cell? ⟨k2, 5, none⟩ = some v15 ∧ cur.cell? ⟨k2, 6, none⟩ = some v16 ∧ cur.cell? ⟨k2, 7, none⟩ = some v17 ∧ Below w.heap.size w cur) (hle : w.heap.size ≤ b) (hn0 : k0 ≠ b) (hn1 : k1 ≠ b) (hn2 : k2 ≠ b) (hn3 : k3 ≠ b) (hn4 : k4 ≠ b) (hn5 : k5 ≠ b) (hn6 : k6 ≠ b) (hn7 : k7 ≠ b) : (cur.setCell ⟨b, j, none⟩ x).heap[k0]? = some A0 ∧ (cur.setCell ⟨b, j, none⟩ x).heap[k1]? = some A1 ∧ (cur.setCell ⟨b, j, none⟩ x).heap[k2]? = some A2 ∧ (cur.setCell ⟨b, j, none⟩ x).heap[k3]? = some A3 ∧ (cur.setCell ⟨b, j, none⟩ x).heap[k4]? = some A4 ∧ (cur.setCell ⟨b, j, none⟩ x).heap[k5]? = some A5 ∧ (cur.setCell ⟨b, j, none⟩ x).heap[k6]? = some A6 ∧ (cur.setCell ⟨b, j, none⟩ x).heap[k7]? = some A7 ∧ (cur.setCell ⟨b, j, none⟩ x).cell? ⟨k0, 0, none⟩ = some v0 ∧ (cur.setCell ⟨b, j, none⟩ x).cell? ⟨k0, 1, none⟩ = some v1 ∧ (cur.setCell ⟨b, j, none⟩ x).cell? ⟨k1, 0, none⟩ = some v2 ∧ (cur.setCell ⟨b, j, none⟩ x).cell? ⟨k1, 1, none⟩ = some v3 ∧ (cur.setCell ⟨b, j, none⟩ x).cell? ⟨k1, 2, none⟩ = some v4 ∧ (cur.setCell ⟨b, j, none⟩ x).cell? ⟨k1, 3, none⟩ = some v5 ∧ (cur.setCell ⟨b, j, none⟩ x).cell? ⟨k1, 4, none⟩ = some v6 ∧ (cur.setCell ⟨b, j, none⟩ x).cell? ⟨k1, 5, none⟩ = some v7 ∧ (cur.setCell ⟨b, j, none⟩ x).cell? ⟨k1, 6, none⟩ = some v8 ∧ (cur.setCell ⟨b, j, none⟩ x).cell? ⟨k1, 7, none⟩ = some v9 ∧ (cur.setCell ⟨b, j, none⟩ x).cell? ⟨k2, 0, none⟩ = some v10 ∧ (cur.setCell ⟨b, j, none⟩ x).cell? ⟨k2, 1, none⟩ = some v11 ∧ (cur.setCell ⟨b, j, none⟩ x).cell? ⟨k2, 2, none⟩ = some v12 ∧ (cur.setCell ⟨b, j, none⟩ x).cell? ⟨k2, 3, none⟩ = some v13 ∧ (cur.setCell ⟨b, j, none⟩ x).cell? ⟨k2, 4, none⟩ = some v14 ∧ (cur.setCell ⟨b, j, none⟩ x).cell? ⟨k2, 5, none⟩ = some v15 ∧ (cur.setCell ⟨b, j, none⟩ x).cell? ⟨k2, 6, none⟩ = some v16 ∧ (cur.setCell ⟨b, j, none⟩ x).cell? ⟨k2, 7, none⟩ = some v17 ∧ Below w.heap.size w (cur.setCell ⟨b, j, none⟩ x) := by
  obtain ⟨a0, a1, a2, a3, a4, a5, a6, a7, c0, c1, c2, c3, c4, c5, c6, c7, c8, c9, c10, c11, c12, c13, c14, c15, c16, c17, d⟩ := h
  have e0 : (cur.setCell ⟨b, j, none⟩ x).heap[k0]? = cur.heap[k0]? := heap_setCell_other _ _ _ _ hn0
  have e1 : (cur.setCell ⟨b, j, none⟩ x).heap[k1]? = cur.heap[k1]? := heap_setCell_other _ _ _ _ hn1
  have e2 : (cur.setCell ⟨b, j, none⟩ x).heap[k2]? = cur.heap[k2]? := heap_setCell_other _ _ _ _ hn2
  have e3 : (cur.setCell ⟨b, j, none⟩ x).heap[k3]? = cur.heap[k3]? := heap_setCell_other _ _ _ _ hn3
  have e4 : (cur.setCell ⟨b, j, none⟩ x).heap[k4]? = cur.heap[k4]? := heap_setCell_other _ _ _ _ hn4
  have e5 : (cur.setCell ⟨b, j, none⟩ x).heap[k5]? = cur.heap[k5]? := heap_setCell_other _ _ _ _ hn5
  have e6 : (cur.setCell ⟨b, j, none⟩ x).heap[k6]? = cur.heap[k6]? := heap_setCell_other _ _ _ _ hn6
  have e7 : (cur.setCell ⟨b, j, none⟩ x).heap[k7]? = cur.heap[k7]? := heap_setCell_other _ _ _ _ hn7
  exact ⟨e0.trans a0, e1.trans a1, e2.trans a2, e3.trans a3, e4.trans a4, e5.trans a5, e6.trans a6, e7.trans a7, (by rw [← c0]; unfold World.cell?; rw [e0]), (by rw [← c1]; unfold World.cell?; rw [e0]), (by rw [← c2]; unfold World.cell?; rw [e1]), (by rw [← c3]; unfold World.cell?; rw [e1]), (by rw [← c4]; unfold World.cell?; rw [e1]), (by rw [← c5]; unfold World.cell?; rw [e1]), (by rw [← c6]; unfold World.cell?; rw [e1]), (by rw [← c7]; unfold World.cell?; rw [e1]), (by rw [← c8]; unfold World.cell?; rw [e1]), (by rw [← c9]; unfold World.cell?; rw [e1]), (by rw [← c10]; unfold World.cell?; rw [e2]), (by rw [← c11]; unfold World.cell?; rw [e2]), (by rw [← c12]; unfold World.cell?; rw [e2]), (by rw [← c13]; unfold World.cell?; rw [e2]), (by rw [← c14]; unfold World.cell?; rw [e2]), (by rw [← c15]; unfold World.cell?; rw [e2]), (by rw [← c16]; unfold World.cell?; rw [e2]), (by rw [← c17]; unfold World.cell?; rw [e2]), d.setCell hle _⟩
theorem signs_stepCU {w cur : World} {k0 k1 k2 k3 k4 k5 k6 k7 : Nat} {A0 A1 A2 A3 A4 A5 A6 A7 : Obj} {v0 v1 v2 v3 v4 v5 v6 v7 v8 v9 v10 v11 v12 v13 v14 v15 v16 v17 : Value} {n : Nat} (h : (cur.drewN n).heap[k0]? = some A0 ∧ (cur.drewN n).heap[k1]? = some A1 ∧ (cur.drewN n).heap[k2]? = some A2 ∧ (cur.drewN n).heap[k3]? = some A3 ∧ (cur.drewN n).heap[k4]? = some A4 ∧ (cur.drewN n).heap[k5]? = some A5 ∧ (cur.drewN n).heap[k6]? = some A6 ∧ (cur.drewN n).heap[k7]? = some A7 ∧ (cur.drewN n).cell? ⟨k0, 0, none⟩ = some v0 ∧ (cur.drewN n).cell? ⟨k0, 1, none⟩ = some v1 ∧ (cur.drewN n).cell? ⟨k1, 0, none⟩ = some v2 ∧ (cur.drewN n).cell? ⟨k1, 1, none⟩ = some v3 ∧ (cur.drewN n).cell? ⟨k1, 2, none⟩ = some v4 ∧ (cur.drewN n).cell? ⟨k1, 3, none⟩ = some v5 ∧ (cur.drewN n).cell? ⟨k1, 4, none⟩ = some v6 ∧ (cur.drewN n).cell? ⟨k1, 5, none⟩ = some v7 ∧ (cur.drewN n).cell? ⟨k1, 6, none⟩ = some v8 ∧ (cur.drewN n).cell? ⟨k1, 7, none⟩ = some v9 ∧ (cur.drewN n).cell? ⟨k2, 0, none⟩ = some v10 ∧ (cur.drewN n).cell? ⟨k2, 1, none⟩ = some v11 ∧ (cur.drewN n).cell? ⟨k2, 2, none⟩ = some v12 ∧ (cur.drewN n).cell? ⟨k2, 3, none⟩ = some v13 ∧ (cur.drewN n).cell? ⟨k2, 4, none⟩ = some v14 ∧ (cur.drewN n).cell? ⟨k2, 5, none⟩ = some v15 ∧ (cur.drewN n).cell? ⟨k2, 6, none⟩ = some v16 ∧ (cur.drewN n).cell? ⟨k2, 7, none⟩ = some v17 ∧ Below w.heap.size w (cur.drewN n)) : cur.heap[k0]? = some A0 ∧ cur.heap[k1]? = some A1 ∧ cur.heap[k2]? = some A2 ∧ cur.heap[k3]? = some A3 ∧ cur.heap[k4]? = some A4 ∧ cur.heap[k5]? = some A5 ∧ cur.heap[k6]? = some A6 ∧ cur.heap[k7]? = some A7 ∧ cur.cell? ⟨k0, 0, none⟩ = some v0 ∧ cur.cell? ⟨k0, 1, none⟩ = some v1 ∧ cur.cell? ⟨k1, 0, none⟩ = some v2 ∧ cur.cell? ⟨k1, 1, none⟩ = some v3 ∧ cur.cell? ⟨k1, 2, none⟩ = some v4 ∧ cur.cell? ⟨k1, 3, none⟩ = some v5 ∧ cur.cell? ⟨k1, 4, none⟩ = some v6 ∧ cur.cell? ⟨k1, 5, none⟩ = some v7 ∧ cur.cell? ⟨k1, 6, none⟩ = some v8 ∧ cur.cell? ⟨k1, 7, none⟩ = some v9 ∧ cur.cell? ⟨k2, 0, none⟩ = some v10 ∧ cur.cell? ⟨k2, 1, none⟩ = some v11 ∧ cur.cell? ⟨k2, 2, none⟩ = some v12 ∧ cur.cell? ⟨k2, 3, none⟩ = some v13 ∧ cur.cell? ⟨k2, 4, none⟩ = some v14 ∧ cur.cell? ⟨k2, 5, none⟩ = some v15 ∧ cur.cell? ⟨k2, 6, none⟩ = some v16 ∧ cur.cell? ⟨k2, 7, none⟩ = some v17 ∧ Below w.heap.size w cur := by
  obtain ⟨a0, a1, a2, a3, a4, a5, a6, a7, c0, c1, c2, c3, c4, c5, c6, c7, c8, c9, c10, c11, c12, c13, c14, c15, c16, c17, d⟩ := h
  exact ⟨a0, a1, a2, a3, a4, a5, a6, a7, c0, c1, c2, c3, c4, c5, c6, c7, c8, c9, c10, c11, c12, c13, c14, c15, c16, c17, ⟨d.os, d.tape, d.output, d.size, d.block⟩⟩
set_option maxRecDepth 100000 in
set_option maxHeartbeats 16000000 in
theorem signs_core (x y : Int) (c d : CV) (p : PV) (w : World) (hc : COk c) (hd : COk d) (hp : POk p) (hcm : c.prev.size ≤ maxLen) (hdm : d.prev.size ≤ maxLen) (hg : Glob w) (hml : MLen w) :
    Calls Tryz.prog 4 #[.agg #[.int .i64 x, .int .i64 y], .agg #[.int .i64 c.office, .int .i64 c.hour, .int .i64 c.inn, .int .i64 c.out, .int .i64 c.store, .string c.prev, .int .i64 c.e, .int .i64 c.s], .agg #[.int .i64 d.office, .int .i64 d.hour, .int .i64 d.inn, .int .i64 d.out, .int .i64 d.store, .string d.prev, .int .i64 d.e, .int .i64 d.s], .agg #[.int .i64 p.office, .int .i64 p.since, .int .i64 p.till, .int .i64 p.litres, .int .i64 p.e, .int .i64 p.s]] w fun e w' => e = .returned (.bool true) ∧ Below w.heap.size w w' := by
  have HG := Lib.hid hg
  have HM := Lib.hid hml
  have HSh : Hid (∀ w0 b, w0.heap[b]? = some (.cells #[.int .i64 c.office, .int .i64 c.hour, .int .i64 c.inn, .int .i64 c.out, .int .i64 c.store, .string c.prev, .int .i64 c.e, .int .i64 c.s, .int .i64 d.office, .int .i64 d.hour, .int .i64 d.inn, .int .i64 d.out, .int .i64 d.store, .string d.prev, .int .i64 d.e, .int .i64 d.s] 25) → Calls Tryz.prog 7 #[.slice (some ⟨b, 0, none⟩) 2 2] w0 fun e w' => e = .returned (.bool (shortC [c, d])) ∧ w' = w0) := Lib.hid (fun w0 b h => shortC_any _ [c, d] w0 (larg_claims (l := [c, d]) (c := 2) h (fun j u h => h) (fun x hx => by
    simp only [List.mem_cons, List.not_mem_nil, or_false] at hx
    rcases hx with rfl | rfl
    · exact ⟨hc, hcm⟩
    · exact ⟨hd, hdm⟩) (Nat.le_refl _) (by decide)))
  have HRi : Hid (∀ w0, Calls Tryz.prog 31 #[.agg #[.int .i64 x, .int .i64 y]] w0 fun e w' => e = .returned (.bool (decide (RightK x y))) ∧ Below w0.heap.size w0 w') := Lib.hid (fun w0 => rightK_any x y w0)
  clear hg hml
  cases hsh : shortC [c, d] with
  | true =>
    rw [hsh] at HSh
    by_cases hr : RightK x y
    · rw [decide_eq_true hr] at HRi
      have hpr : c.prev.size ≤ 100 ∧ d.prev.size ≤ 100 := by
        unfold shortC at hsh
        rw [Bool.and_eq_true] at hsh
        have h := of_decide_eq_true hsh.1
        exact ⟨h c (by simp), h d (by simp)⟩
      obtain ⟨g1, g2, t1, t2, r, vd, KF, YC, hF⟩ : ∃ g1 g2 t1 t2 r vd KF YC, SignsF x y c d p g1 g2 t1 t2 r vd KF YC := by
        obtain ⟨n, hn⟩ : ∃ n : Nat, x = n := ⟨x.toNat, by have := hr.1; omega⟩
        have hy : y = (pubN n : Nat) := by have h := hr.2.2; rw [hn, Int.toNat_natCast] at h; exact h
        rw [hn, hy]
        exact signsF n c d p (by have := hr.1; omega) (by have := hr.2.1; omega) hc hd hp hpr.1 hpr.2
      have HF := Lib.hid hF
      have ig1 := HF.out.ig1
      have ig2 := HF.out.ig2
      have ic1 := HF.out.ic1
      have ic2 := HF.out.ic2
      have okc := HF.out.okc
      have okd := HF.out.okd
      have szc := HF.out.szc
      have szd := HF.out.szd
      have heq1 := eqC c.office c.hour c.inn c.out c.store c.prev c.e c.s c.office c.hour c.inn c.out c.store c.prev c.e c.s
      have heq2 := eqP p.office p.since p.till p.litres p.e p.s p.office p.since p.till p.litres p.e p.s
      rw [decide_eq_true ⟨rfl, rfl, rfl, rfl, rfl, rfl, rfl, rfl⟩] at heq1
      rw [decide_eq_true ⟨rfl, rfl, rfl, rfl, rfl, rfl⟩] at heq2
      clear hF hsh hpr hc hd hp hcm hdm hr
      go_enter Tryz.func4, Tryz.ntmps4
      go_upto_region 1 with fail
      obtain ⟨r0, r1, r2, r3, rb⟩ := four_rowsS (w := w) (A := (.cells #[.int .i64 x, .int .i64 y] 29)) (B := (.cells #[.int .i64 c.office, .int .i64 c.hour, .int .i64 c.inn, .int .i64 c.out, .int .i64 c.store, .string c.prev, .int .i64 c.e, .int .i64 c.s] 25)) (C := (.cells #[.int .i64 d.office, .int .i64 d.hour, .int .i64 d.inn, .int .i64 d.out, .int .i64 d.store, .string d.prev, .int .i64 d.e, .int .i64 d.s] 25)) (D := (.cells #[.int .i64 p.office, .int .i64 p.since, .int .i64 p.till, .int .i64 p.litres, .int .i64 p.e, .int .i64 p.s] 27))
      have Kh1 := Lib.hid r0
      have Ch1 := Lib.hid r1
      have Dh1 := Lib.hid r2
      have Ph1 := Lib.hid r3
      have HB1 := Lib.hid rb
      clear r0 r1 r2 r3 rb
      have ne_K_C : w.heap.size ≠ w.heap.size + 1 := by omega
      have ne_K_D : w.heap.size ≠ w.heap.size + 1 + 1 := by omega
      have ne_K_P : w.heap.size ≠ w.heap.size + 1 + 1 + 1 := by omega
      have le_K : w.heap.size ≤ w.heap.size := by omega
      have ne_C_D : w.heap.size + 1 ≠ w.heap.size + 1 + 1 := by omega
      have ne_C_P : w.heap.size + 1 ≠ w.heap.size + 1 + 1 + 1 := by omega
      have le_C : w.heap.size ≤ w.heap.size + 1 := by omega
      have ne_D_P : w.heap.size + 1 + 1 ≠ w.heap.size + 1 + 1 + 1 := by omega
      have le_D : w.heap.size ≤ w.heap.size + 1 + 1 := by omega
      have le_P : w.heap.size ≤ w.heap.size + 1 + 1 + 1 := by omega
      generalize ((((w.alloc (.cells #[.int .i64 x, .int .i64 y] 29)).alloc (.cells #[.int .i64 c.office, .int .i64 c.hour, .int .i64 c.inn, .int .i64 c.out, .int .i64 c.store, .string c.prev, .int .i64 c.e, .int .i64 c.s] 25)).alloc (.cells #[.int .i64 d.office, .int .i64 d.hour, .int .i64 d.inn, .int .i64 d.out, .int .i64 d.store, .string d.prev, .int .i64 d.e, .int .i64 d.s] 25)).alloc (.cells #[.int .i64 p.office, .int .i64 p.since, .int .i64 p.till, .int .i64 p.litres, .int .i64 p.e, .int .i64 p.s] 27)) = w1 at *
      generalize w.heap.size + 1 + 1 + 1 = bP at *
      generalize w.heap.size + 1 + 1 = bD at *
      generalize w.heap.size + 1 = bC at *
      go_wp2_with fail
      refine (small_any _ (HG.out.below HB1.out HG.out.size) (HM.out.up HB1.out)).mono ?_
      rintro e w2 ⟨rfl, hb⟩
      have HB2 := Lib.hid (HB1.out.trans (hb.mono HB1.out.size))
      have Kh2 := Lib.hid (blk_below Kh1.out hb (blk_lt Kh1.out))
      have Ch2 := Lib.hid (blk_below Ch1.out hb (blk_lt Ch1.out))
      have Dh2 := Lib.hid (blk_below Dh1.out hb (blk_lt Dh1.out))
      have Ph2 := Lib.hid (blk_below Ph1.out hb (blk_lt Ph1.out))
      clear HB1 Kh1 Ch1 Dh1 Ph1
      clear hb
      have cK0 : w2.cell? ⟨w.heap.size, 0, none⟩ = some (.int .i64 x) := (cell_of_row _ _ _ _ _ _ Kh2.out).trans rfl
      have cK1 : w2.cell? ⟨w.heap.size, 1, none⟩ = some (.int .i64 y) := (cell_of_row _ _ _ _ _ _ Kh2.out).trans rfl
      have cC0 : w2.cell? ⟨bC, 0, none⟩ = some (.int .i64 c.office) := (cell_of_row _ _ _ _ _ _ Ch2.out).trans rfl
      have cC1 : w2.cell? ⟨bC, 1, none⟩ = some (.int .i64 c.hour) := (cell_of_row _ _ _ _ _ _ Ch2.out).trans rfl
      have cC2 : w2.cell? ⟨bC, 2, none⟩ = some (.int .i64 c.inn) := (cell_of_row _ _ _ _ _ _ Ch2.out).trans rfl
      have cC3 : w2.cell? ⟨bC, 3, none⟩ = some (.int .i64 c.out) := (cell_of_row _ _ _ _ _ _ Ch2.out).trans rfl
      have cC4 : w2.cell? ⟨bC, 4, none⟩ = some (.int .i64 c.store) := (cell_of_row _ _ _ _ _ _ Ch2.out).trans rfl
      have cC5 : w2.cell? ⟨bC, 5, none⟩ = some (.string c.prev) := (cell_of_row _ _ _ _ _ _ Ch2.out).trans rfl
      have cC6 : w2.cell? ⟨bC, 6, none⟩ = some (.int .i64 c.e) := (cell_of_row _ _ _ _ _ _ Ch2.out).trans rfl
      have cC7 : w2.cell? ⟨bC, 7, none⟩ = some (.int .i64 c.s) := (cell_of_row _ _ _ _ _ _ Ch2.out).trans rfl
      have cD0 : w2.cell? ⟨bD, 0, none⟩ = some (.int .i64 d.office) := (cell_of_row _ _ _ _ _ _ Dh2.out).trans rfl
      have cD1 : w2.cell? ⟨bD, 1, none⟩ = some (.int .i64 d.hour) := (cell_of_row _ _ _ _ _ _ Dh2.out).trans rfl
      have cD2 : w2.cell? ⟨bD, 2, none⟩ = some (.int .i64 d.inn) := (cell_of_row _ _ _ _ _ _ Dh2.out).trans rfl
      have cD3 : w2.cell? ⟨bD, 3, none⟩ = some (.int .i64 d.out) := (cell_of_row _ _ _ _ _ _ Dh2.out).trans rfl
      have cD4 : w2.cell? ⟨bD, 4, none⟩ = some (.int .i64 d.store) := (cell_of_row _ _ _ _ _ _ Dh2.out).trans rfl
      have cD5 : w2.cell? ⟨bD, 5, none⟩ = some (.string d.prev) := (cell_of_row _ _ _ _ _ _ Dh2.out).trans rfl
      have cD6 : w2.cell? ⟨bD, 6, none⟩ = some (.int .i64 d.e) := (cell_of_row _ _ _ _ _ _ Dh2.out).trans rfl
      have cD7 : w2.cell? ⟨bD, 7, none⟩ = some (.int .i64 d.s) := (cell_of_row _ _ _ _ _ _ Dh2.out).trans rfl
      have cP0 : w2.cell? ⟨bP, 0, none⟩ = some (.int .i64 p.office) := (cell_of_row _ _ _ _ _ _ Ph2.out).trans rfl
      have cP1 : w2.cell? ⟨bP, 1, none⟩ = some (.int .i64 p.since) := (cell_of_row _ _ _ _ _ _ Ph2.out).trans rfl
      have cP2 : w2.cell? ⟨bP, 2, none⟩ = some (.int .i64 p.till) := (cell_of_row _ _ _ _ _ _ Ph2.out).trans rfl
      have cP3 : w2.cell? ⟨bP, 3, none⟩ = some (.int .i64 p.litres) := (cell_of_row _ _ _ _ _ _ Ph2.out).trans rfl
      have cP4 : w2.cell? ⟨bP, 4, none⟩ = some (.int .i64 p.e) := (cell_of_row _ _ _ _ _ _ Ph2.out).trans rfl
      have cP5 : w2.cell? ⟨bP, 5, none⟩ = some (.int .i64 p.s) := (cell_of_row _ _ _ _ _ _ Ph2.out).trans rfl
      go_wp2_with fail
      refine (HSh.out _ _ (heap_alloc_new _ _)).mono ?_
      rintro e w3 ⟨rfl, rfl⟩
      have hb : Below w2.heap.size w2 (w2.alloc (.cells #[.int .i64 c.office, .int .i64 c.hour, .int .i64 c.inn, .int .i64 c.out, .int .i64 c.store, .string c.prev, .int .i64 c.e, .int .i64 c.s, .int .i64 d.office, .int .i64 d.hour, .int .i64 d.inn, .int .i64 d.out, .int .i64 d.store, .string d.prev, .int .i64 d.e, .int .i64 d.s] 25)) := (Below.refl _ _).alloc (Nat.le_refl _) _
      have HB3 := Lib.hid (HB2.out.trans (hb.mono HB2.out.size))
      have Kh3 := Lib.hid (blk_below Kh2.out hb (blk_lt Kh2.out))
      have Ch3 := Lib.hid (blk_below Ch2.out hb (blk_lt Ch2.out))
      have Dh3 := Lib.hid (blk_below Dh2.out hb (blk_lt Dh2.out))
      have Ph3 := Lib.hid (blk_below Ph2.out hb (blk_lt Ph2.out))
      clear cK0 cK1 cC0 cC1 cC2 cC3 cC4 cC5 cC6 cC7 cD0 cD1 cD2 cD3 cD4 cD5 cD6 cD7 cP0 cP1 cP2 cP3 cP4 cP5
      clear HB2 Kh2 Ch2 Dh2 Ph2
      clear hb
      generalize w2.alloc (.cells #[.int .i64 c.office, .int .i64 c.hour, .int .i64 c.inn, .int .i64 c.out, .int .i64 c.store, .string c.prev, .int .i64 c.e, .int .i64 c.s, .int .i64 d.office, .int .i64 d.hour, .int .i64 d.inn, .int .i64 d.out, .int .i64 d.store, .string d.prev, .int .i64 d.e, .int .i64 d.s] 25) = w3 at *
      have cK0 : w3.cell? ⟨w.heap.size, 0, none⟩ = some (.int .i64 x) := (cell_of_row _ _ _ _ _ _ Kh3.out).trans rfl
      have cK1 : w3.cell? ⟨w.heap.size, 1, none⟩ = some (.int .i64 y) := (cell_of_row _ _ _ _ _ _ Kh3.out).trans rfl
      have cC0 : w3.cell? ⟨bC, 0, none⟩ = some (.int .i64 c.office) := (cell_of_row _ _ _ _ _ _ Ch3.out).trans rfl
      have cC1 : w3.cell? ⟨bC, 1, none⟩ = some (.int .i64 c.hour) := (cell_of_row _ _ _ _ _ _ Ch3.out).trans rfl
      have cC2 : w3.cell? ⟨bC, 2, none⟩ = some (.int .i64 c.inn) := (cell_of_row _ _ _ _ _ _ Ch3.out).trans rfl
      have cC3 : w3.cell? ⟨bC, 3, none⟩ = some (.int .i64 c.out) := (cell_of_row _ _ _ _ _ _ Ch3.out).trans rfl
      have cC4 : w3.cell? ⟨bC, 4, none⟩ = some (.int .i64 c.store) := (cell_of_row _ _ _ _ _ _ Ch3.out).trans rfl
      have cC5 : w3.cell? ⟨bC, 5, none⟩ = some (.string c.prev) := (cell_of_row _ _ _ _ _ _ Ch3.out).trans rfl
      have cC6 : w3.cell? ⟨bC, 6, none⟩ = some (.int .i64 c.e) := (cell_of_row _ _ _ _ _ _ Ch3.out).trans rfl
      have cC7 : w3.cell? ⟨bC, 7, none⟩ = some (.int .i64 c.s) := (cell_of_row _ _ _ _ _ _ Ch3.out).trans rfl
      have cD0 : w3.cell? ⟨bD, 0, none⟩ = some (.int .i64 d.office) := (cell_of_row _ _ _ _ _ _ Dh3.out).trans rfl
      have cD1 : w3.cell? ⟨bD, 1, none⟩ = some (.int .i64 d.hour) := (cell_of_row _ _ _ _ _ _ Dh3.out).trans rfl
      have cD2 : w3.cell? ⟨bD, 2, none⟩ = some (.int .i64 d.inn) := (cell_of_row _ _ _ _ _ _ Dh3.out).trans rfl
      have cD3 : w3.cell? ⟨bD, 3, none⟩ = some (.int .i64 d.out) := (cell_of_row _ _ _ _ _ _ Dh3.out).trans rfl
      have cD4 : w3.cell? ⟨bD, 4, none⟩ = some (.int .i64 d.store) := (cell_of_row _ _ _ _ _ _ Dh3.out).trans rfl
      have cD5 : w3.cell? ⟨bD, 5, none⟩ = some (.string d.prev) := (cell_of_row _ _ _ _ _ _ Dh3.out).trans rfl
      have cD6 : w3.cell? ⟨bD, 6, none⟩ = some (.int .i64 d.e) := (cell_of_row _ _ _ _ _ _ Dh3.out).trans rfl
      have cD7 : w3.cell? ⟨bD, 7, none⟩ = some (.int .i64 d.s) := (cell_of_row _ _ _ _ _ _ Dh3.out).trans rfl
      have cP0 : w3.cell? ⟨bP, 0, none⟩ = some (.int .i64 p.office) := (cell_of_row _ _ _ _ _ _ Ph3.out).trans rfl
      have cP1 : w3.cell? ⟨bP, 1, none⟩ = some (.int .i64 p.since) := (cell_of_row _ _ _ _ _ _ Ph3.out).trans rfl
      have cP2 : w3.cell? ⟨bP, 2, none⟩ = some (.int .i64 p.till) := (cell_of_row _ _ _ _ _ _ Ph3.out).trans rfl
      have cP3 : w3.cell? ⟨bP, 3, none⟩ = some (.int .i64 p.litres) := (cell_of_row _ _ _ _ _ _ Ph3.out).trans rfl
      have cP4 : w3.cell? ⟨bP, 4, none⟩ = some (.int .i64 p.e) := (cell_of_row _ _ _ _ _ _ Ph3.out).trans rfl
      have cP5 : w3.cell? ⟨bP, 5, none⟩ = some (.int .i64 p.s) := (cell_of_row _ _ _ _ _ _ Ph3.out).trans rfl
      go_wp2_with fail
      refine (HRi.out _).mono ?_
      rintro e w4 ⟨rfl, hb⟩
      have HB4 := Lib.hid (HB3.out.trans (hb.mono HB3.out.size))
      have Kh4 := Lib.hid (blk_below Kh3.out hb (blk_lt Kh3.out))
      have Ch4 := Lib.hid (blk_below Ch3.out hb (blk_lt Ch3.out))
      have Dh4 := Lib.hid (blk_below Dh3.out hb (blk_lt Dh3.out))
      have Ph4 := Lib.hid (blk_below Ph3.out hb (blk_lt Ph3.out))
      clear cK0 cK1 cC0 cC1 cC2 cC3 cC4 cC5 cC6 cC7 cD0 cD1 cD2 cD3 cD4 cD5 cD6 cD7 cP0 cP1 cP2 cP3 cP4 cP5
      clear HB3 Kh3 Ch3 Dh3 Ph3
      clear hb
      have cK0 : w4.cell? ⟨w.heap.size, 0, none⟩ = some (.int .i64 x) := (cell_of_row _ _ _ _ _ _ Kh4.out).trans rfl
      have cK1 : w4.cell? ⟨w.heap.size, 1, none⟩ = some (.int .i64 y) := (cell_of_row _ _ _ _ _ _ Kh4.out).trans rfl
      have cC0 : w4.cell? ⟨bC, 0, none⟩ = some (.int .i64 c.office) := (cell_of_row _ _ _ _ _ _ Ch4.out).trans rfl
      have cC1 : w4.cell? ⟨bC, 1, none⟩ = some (.int .i64 c.hour) := (cell_of_row _ _ _ _ _ _ Ch4.out).trans rfl
      have cC2 : w4.cell? ⟨bC, 2, none⟩ = some (.int .i64 c.inn) := (cell_of_row _ _ _ _ _ _ Ch4.out).trans rfl
      have cC3 : w4.cell? ⟨bC, 3, none⟩ = some (.int .i64 c.out) := (cell_of_row _ _ _ _ _ _ Ch4.out).trans rfl
      have cC4 : w4.cell? ⟨bC, 4, none⟩ = some (.int .i64 c.store) := (cell_of_row _ _ _ _ _ _ Ch4.out).trans rfl
      have cC5 : w4.cell? ⟨bC, 5, none⟩ = some (.string c.prev) := (cell_of_row _ _ _ _ _ _ Ch4.out).trans rfl
      have cC6 : w4.cell? ⟨bC, 6, none⟩ = some (.int .i64 c.e) := (cell_of_row _ _ _ _ _ _ Ch4.out).trans rfl
      have cC7 : w4.cell? ⟨bC, 7, none⟩ = some (.int .i64 c.s) := (cell_of_row _ _ _ _ _ _ Ch4.out).trans rfl
      have cD0 : w4.cell? ⟨bD, 0, none⟩ = some (.int .i64 d.office) := (cell_of_row _ _ _ _ _ _ Dh4.out).trans rfl
      have cD1 : w4.cell? ⟨bD, 1, none⟩ = some (.int .i64 d.hour) := (cell_of_row _ _ _ _ _ _ Dh4.out).trans rfl
      have cD2 : w4.cell? ⟨bD, 2, none⟩ = some (.int .i64 d.inn) := (cell_of_row _ _ _ _ _ _ Dh4.out).trans rfl
      have cD3 : w4.cell? ⟨bD, 3, none⟩ = some (.int .i64 d.out) := (cell_of_row _ _ _ _ _ _ Dh4.out).trans rfl
      have cD4 : w4.cell? ⟨bD, 4, none⟩ = some (.int .i64 d.store) := (cell_of_row _ _ _ _ _ _ Dh4.out).trans rfl
      have cD5 : w4.cell? ⟨bD, 5, none⟩ = some (.string d.prev) := (cell_of_row _ _ _ _ _ _ Dh4.out).trans rfl
      have cD6 : w4.cell? ⟨bD, 6, none⟩ = some (.int .i64 d.e) := (cell_of_row _ _ _ _ _ _ Dh4.out).trans rfl
      have cD7 : w4.cell? ⟨bD, 7, none⟩ = some (.int .i64 d.s) := (cell_of_row _ _ _ _ _ _ Dh4.out).trans rfl
      have cP0 : w4.cell? ⟨bP, 0, none⟩ = some (.int .i64 p.office) := (cell_of_row _ _ _ _ _ _ Ph4.out).trans rfl
      have cP1 : w4.cell? ⟨bP, 1, none⟩ = some (.int .i64 p.since) := (cell_of_row _ _ _ _ _ _ Ph4.out).trans rfl
      have cP2 : w4.cell? ⟨bP, 2, none⟩ = some (.int .i64 p.till) := (cell_of_row _ _ _ _ _ _ Ph4.out).trans rfl
      have cP3 : w4.cell? ⟨bP, 3, none⟩ = some (.int .i64 p.litres) := (cell_of_row _ _ _ _ _ _ Ph4.out).trans rfl
      have cP4 : w4.cell? ⟨bP, 4, none⟩ = some (.int .i64 p.e) := (cell_of_row _ _ _ _ _ _ Ph4.out).trans rfl
      have cP5 : w4.cell? ⟨bP, 5, none⟩ = some (.int .i64 p.s) := (cell_of_row _ _ _ _ _ _ Ph4.out).trans rfl
      go_wp2_with fail
      refine (HF.out.sgc _ (HG.out.below HB4.out HG.out.size) (HM.out.up HB4.out)).mono ?_
      rintro e w5 ⟨rfl, hb⟩
      have HB5 := Lib.hid (HB4.out.trans (hb.mono HB4.out.size))
      have Kh5 := Lib.hid (blk_below Kh4.out hb (blk_lt Kh4.out))
      have Ch5 := Lib.hid (blk_below Ch4.out hb (blk_lt Ch4.out))
      have Dh5 := Lib.hid (blk_below Dh4.out hb (blk_lt Dh4.out))
      have Ph5 := Lib.hid (blk_below Ph4.out hb (blk_lt Ph4.out))
      clear cK0 cK1 cC0 cC1 cC2 cC3 cC4 cC5 cC6 cC7 cD0 cD1 cD2 cD3 cD4 cD5 cD6 cD7 cP0 cP1 cP2 cP3 cP4 cP5
      clear HB4 Kh4 Ch4 Dh4 Ph4
      clear hb
      have cK0 : w5.cell? ⟨w.heap.size, 0, none⟩ = some (.int .i64 x) := (cell_of_row _ _ _ _ _ _ Kh5.out).trans rfl
      have cK1 : w5.cell? ⟨w.heap.size, 1, none⟩ = some (.int .i64 y) := (cell_of_row _ _ _ _ _ _ Kh5.out).trans rfl
      have cC0 : w5.cell? ⟨bC, 0, none⟩ = some (.int .i64 c.office) := (cell_of_row _ _ _ _ _ _ Ch5.out).trans rfl
      have cC1 : w5.cell? ⟨bC, 1, none⟩ = some (.int .i64 c.hour) := (cell_of_row _ _ _ _ _ _ Ch5.out).trans rfl
      have cC2 : w5.cell? ⟨bC, 2, none⟩ = some (.int .i64 c.inn) := (cell_of_row _ _ _ _ _ _ Ch5.out).trans rfl
      have cC3 : w5.cell? ⟨bC, 3, none⟩ = some (.int .i64 c.out) := (cell_of_row _ _ _ _ _ _ Ch5.out).trans rfl
      have cC4 : w5.cell? ⟨bC, 4, none⟩ = some (.int .i64 c.store) := (cell_of_row _ _ _ _ _ _ Ch5.out).trans rfl
      have cC5 : w5.cell? ⟨bC, 5, none⟩ = some (.string c.prev) := (cell_of_row _ _ _ _ _ _ Ch5.out).trans rfl
      have cC6 : w5.cell? ⟨bC, 6, none⟩ = some (.int .i64 c.e) := (cell_of_row _ _ _ _ _ _ Ch5.out).trans rfl
      have cC7 : w5.cell? ⟨bC, 7, none⟩ = some (.int .i64 c.s) := (cell_of_row _ _ _ _ _ _ Ch5.out).trans rfl
      have cD0 : w5.cell? ⟨bD, 0, none⟩ = some (.int .i64 d.office) := (cell_of_row _ _ _ _ _ _ Dh5.out).trans rfl
      have cD1 : w5.cell? ⟨bD, 1, none⟩ = some (.int .i64 d.hour) := (cell_of_row _ _ _ _ _ _ Dh5.out).trans rfl
      have cD2 : w5.cell? ⟨bD, 2, none⟩ = some (.int .i64 d.inn) := (cell_of_row _ _ _ _ _ _ Dh5.out).trans rfl
      have cD3 : w5.cell? ⟨bD, 3, none⟩ = some (.int .i64 d.out) := (cell_of_row _ _ _ _ _ _ Dh5.out).trans rfl
      have cD4 : w5.cell? ⟨bD, 4, none⟩ = some (.int .i64 d.store) := (cell_of_row _ _ _ _ _ _ Dh5.out).trans rfl
      have cD5 : w5.cell? ⟨bD, 5, none⟩ = some (.string d.prev) := (cell_of_row _ _ _ _ _ _ Dh5.out).trans rfl
      have cD6 : w5.cell? ⟨bD, 6, none⟩ = some (.int .i64 d.e) := (cell_of_row _ _ _ _ _ _ Dh5.out).trans rfl
      have cD7 : w5.cell? ⟨bD, 7, none⟩ = some (.int .i64 d.s) := (cell_of_row _ _ _ _ _ _ Dh5.out).trans rfl
      have cP0 : w5.cell? ⟨bP, 0, none⟩ = some (.int .i64 p.office) := (cell_of_row _ _ _ _ _ _ Ph5.out).trans rfl
      have cP1 : w5.cell? ⟨bP, 1, none⟩ = some (.int .i64 p.since) := (cell_of_row _ _ _ _ _ _ Ph5.out).trans rfl
      have cP2 : w5.cell? ⟨bP, 2, none⟩ = some (.int .i64 p.till) := (cell_of_row _ _ _ _ _ _ Ph5.out).trans rfl
      have cP3 : w5.cell? ⟨bP, 3, none⟩ = some (.int .i64 p.litres) := (cell_of_row _ _ _ _ _ _ Ph5.out).trans rfl
      have cP4 : w5.cell? ⟨bP, 4, none⟩ = some (.int .i64 p.e) := (cell_of_row _ _ _ _ _ _ Ph5.out).trans rfl
      have cP5 : w5.cell? ⟨bP, 5, none⟩ = some (.int .i64 p.s) := (cell_of_row _ _ _ _ _ _ Ph5.out).trans rfl
      go_upto_region 5 with fail
      have HB6 := Lib.hid (HB5.out.alloc HB5.out.size (.cells #[.int .i64 c.office, .int .i64 c.hour, .int .i64 c.inn, .int .i64 c.out, .int .i64 c.store, .string c.prev, .int .i64 g1, .int .i64 g2] 25))
      have Xh6 := Lib.hid (heap_alloc_new w5 (.cells #[.int .i64 c.office, .int .i64 c.hour, .int .i64 c.inn, .int .i64 c.out, .int .i64 c.store, .string c.prev, .int .i64 g1, .int .i64 g2] 25))
      have Kh6 := Lib.hid (blk_below Kh5.out ((Below.refl w5.heap.size w5).alloc (Nat.le_refl _) (.cells #[.int .i64 c.office, .int .i64 c.hour, .int .i64 c.inn, .int .i64 c.out, .int .i64 c.store, .string c.prev, .int .i64 g1, .int .i64 g2] 25)) (blk_lt Kh5.out))
      have Ch6 := Lib.hid (blk_below Ch5.out ((Below.refl w5.heap.size w5).alloc (Nat.le_refl _) (.cells #[.int .i64 c.office, .int .i64 c.hour, .int .i64 c.inn, .int .i64 c.out, .int .i64 c.store, .string c.prev, .int .i64 g1, .int .i64 g2] 25)) (blk_lt Ch5.out))
      have Dh6 := Lib.hid (blk_below Dh5.out ((Below.refl w5.heap.size w5).alloc (Nat.le_refl _) (.cells #[.int .i64 c.office, .int .i64 c.hour, .int .i64 c.inn, .int .i64 c.out, .int .i64 c.store, .string c.prev, .int .i64 g1, .int .i64 g2] 25)) (blk_lt Dh5.out))
      have Ph6 := Lib.hid (blk_below Ph5.out ((Below.refl w5.heap.size w5).alloc (Nat.le_refl _) (.cells #[.int .i64 c.office, .int .i64 c.hour, .int .i64 c.inn, .int .i64 c.out, .int .i64 c.store, .string c.prev, .int .i64 g1, .int .i64 g2] 25)) (blk_lt Ph5.out))
      clear cK0 cK1 cC0 cC1 cC2 cC3 cC4 cC5 cC6 cC7 cD0 cD1 cD2 cD3 cD4 cD5 cD6 cD7 cP0 cP1 cP2 cP3 cP4 cP5
      have ne_K_X : w.heap.size ≠ w5.heap.size := Nat.ne_of_lt (blk_lt Kh5.out)
      have ne_C_X : bC ≠ w5.heap.size := Nat.ne_of_lt (blk_lt Ch5.out)
      have ne_D_X : bD ≠ w5.heap.size := Nat.ne_of_lt (blk_lt Dh5.out)
      have ne_P_X : bP ≠ w5.heap.size := Nat.ne_of_lt (blk_lt Ph5.out)
      have le_X : w.heap.size ≤ w5.heap.size := HB5.out.size
      clear HB5 Kh5 Ch5 Dh5 Ph5
      generalize w5.heap.size = bX at *
      generalize w5.alloc (.cells #[.int .i64 c.office, .int .i64 c.hour, .int .i64 c.inn, .int .i64 c.out, .int .i64 c.store, .string c.prev, .int .i64 g1, .int .i64 g2] 25) = w6 at *
      have cK0 : w6.cell? ⟨w.heap.size, 0, none⟩ = some (.int .i64 x) := (cell_of_row _ _ _ _ _ _ Kh6.out).trans rfl
      have cK1 : w6.cell? ⟨w.heap.size, 1, none⟩ = some (.int .i64 y) := (cell_of_row _ _ _ _ _ _ Kh6.out).trans rfl
      have cC0 : w6.cell? ⟨bC, 0, none⟩ = some (.int .i64 c.office) := (cell_of_row _ _ _ _ _ _ Ch6.out).trans rfl
      have cC1 : w6.cell? ⟨bC, 1, none⟩ = some (.int .i64 c.hour) := (cell_of_row _ _ _ _ _ _ Ch6.out).trans rfl
      have cC2 : w6.cell? ⟨bC, 2, none⟩ = some (.int .i64 c.inn) := (cell_of_row _ _ _ _ _ _ Ch6.out).trans rfl
      have cC3 : w6.cell? ⟨bC, 3, none⟩ = some (.int .i64 c.out) := (cell_of_row _ _ _ _ _ _ Ch6.out).trans rfl
      have cC4 : w6.cell? ⟨bC, 4, none⟩ = some (.int .i64 c.store) := (cell_of_row _ _ _ _ _ _ Ch6.out).trans rfl
      have cC5 : w6.cell? ⟨bC, 5, none⟩ = some (.string c.prev) := (cell_of_row _ _ _ _ _ _ Ch6.out).trans rfl
      have cC6 : w6.cell? ⟨bC, 6, none⟩ = some (.int .i64 c.e) := (cell_of_row _ _ _ _ _ _ Ch6.out).trans rfl
      have cC7 : w6.cell? ⟨bC, 7, none⟩ = some (.int .i64 c.s) := (cell_of_row _ _ _ _ _ _ Ch6.out).trans rfl
      have cD0 : w6.cell? ⟨bD, 0, none⟩ = some (.int .i64 d.office) := (cell_of_row _ _ _ _ _ _ Dh6.out).trans rfl
      have cD1 : w6.cell? ⟨bD, 1, none⟩ = some (.int .i64 d.hour) := (cell_of_row _ _ _ _ _ _ Dh6.out).trans rfl
      have cD2 : w6.cell? ⟨bD, 2, none⟩ = some (.int .i64 d.inn) := (cell_of_row _ _ _ _ _ _ Dh6.out).trans rfl
      have cD3 : w6.cell? ⟨bD, 3, none⟩ = some (.int .i64 d.out) := (cell_of_row _ _ _ _ _ _ Dh6.out).trans rfl
      have cD4 : w6.cell? ⟨bD, 4, none⟩ = some (.int .i64 d.store) := (cell_of_row _ _ _ _ _ _ Dh6.out).trans rfl
      have cD5 : w6.cell? ⟨bD, 5, none⟩ = some (.string d.prev) := (cell_of_row _ _ _ _ _ _ Dh6.out).trans rfl
      have cD6 : w6.cell? ⟨bD, 6, none⟩ = some (.int .i64 d.e) := (cell_of_row _ _ _ _ _ _ Dh6.out).trans rfl
      have cD7 : w6.cell? ⟨bD, 7, none⟩ = some (.int .i64 d.s) := (cell_of_row _ _ _ _ _ _ Dh6.out).trans rfl
      have cP0 : w6.cell? ⟨bP, 0, none⟩ = some (.int .i64 p.office) := (cell_of_row _ _ _ _ _ _ Ph6.out).trans rfl
      have cP1 : w6.cell? ⟨bP, 1, none⟩ = some (.int .i64 p.since) := (cell_of_row _ _ _ _ _ _ Ph6.out).trans rfl
      have cP2 : w6.cell? ⟨bP, 2, none⟩ = some (.int .i64 p.till) := (cell_of_row _ _ _ _ _ _ Ph6.out).trans rfl
      have cP3 : w6.cell? ⟨bP, 3, none⟩ = some (.int .i64 p.litres) := (cell_of_row _ _ _ _ _ _ Ph6.out).trans rfl
      have cP4 : w6.cell? ⟨bP, 4, none⟩ = some (.int .i64 p.e) := (cell_of_row _ _ _ _ _ _ Ph6.out).trans rfl
      have cP5 : w6.cell? ⟨bP, 5, none⟩ = some (.int .i64 p.s) := (cell_of_row _ _ _ _ _ _ Ph6.out).trans rfl
      have cX0 : w6.cell? ⟨bX, 0, none⟩ = some (.int .i64 c.office) := (cell_of_row _ _ _ _ _ _ Xh6.out).trans rfl
      have cX1 : w6.cell? ⟨bX, 1, none⟩ = some (.int .i64 c.hour) := (cell_of_row _ _ _ _ _ _ Xh6.out).trans rfl
      have cX2 : w6.cell? ⟨bX, 2, none⟩ = some (.int .i64 c.inn) := (cell_of_row _ _ _ _ _ _ Xh6.out).trans rfl
      have cX3 : w6.cell? ⟨bX, 3, none⟩ = some (.int .i64 c.out) := (cell_of_row _ _ _ _ _ _ Xh6.out).trans rfl
      have cX4 : w6.cell? ⟨bX, 4, none⟩ = some (.int .i64 c.store) := (cell_of_row _ _ _ _ _ _ Xh6.out).trans rfl
      have cX5 : w6.cell? ⟨bX, 5, none⟩ = some (.string c.prev) := (cell_of_row _ _ _ _ _ _ Xh6.out).trans rfl
      have cX6 : w6.cell? ⟨bX, 6, none⟩ = some (.int .i64 g1) := (cell_of_row _ _ _ _ _ _ Xh6.out).trans rfl
      have cX7 : w6.cell? ⟨bX, 7, none⟩ = some (.int .i64 g2) := (cell_of_row _ _ _ _ _ _ Xh6.out).trans rfl
      go_upto_region 6 with fail
      have HB7 := Lib.hid (HB6.out.alloc HB6.out.size (.cells #[.int .i64 c.office, .int .i64 c.hour, .int .i64 c.inn, .int .i64 c.out, .int .i64 c.store, .string c.prev, .int .i64 g1, .int .i64 g2] 25))
      have Yh7 := Lib.hid (heap_alloc_new w6 (.cells #[.int .i64 c.office, .int .i64 c.hour, .int .i64 c.inn, .int .i64 c.out, .int .i64 c.store, .string c.prev, .int .i64 g1, .int .i64 g2] 25))
      have Kh7 := Lib.hid (blk_below Kh6.out ((Below.refl w6.heap.size w6).alloc (Nat.le_refl _) (.cells #[.int .i64 c.office, .int .i64 c.hour, .int .i64 c.inn, .int .i64 c.out, .int .i64 c.store, .string c.prev, .int .i64 g1, .int .i64 g2] 25)) (blk_lt Kh6.out))
      have Ch7 := Lib.hid (blk_below Ch6.out ((Below.refl w6.heap.size w6).alloc (Nat.le_refl _) (.cells #[.int .i64 c.office, .int .i64 c.hour, .int .i64 c.inn, .int .i64 c.out, .int .i64 c.store, .string c.prev, .int .i64 g1, .int .i64 g2] 25)) (blk_lt Ch6.out))
      have Dh7 := Lib.hid (blk_below Dh6.out ((Below.refl w6.heap.size w6).alloc (Nat.le_refl _) (.cells #[.int .i64 c.office, .int .i64 c.hour, .int .i64 c.inn, .int .i64 c.out, .int .i64 c.store, .string c.prev, .int .i64 g1, .int .i64 g2] 25)) (blk_lt Dh6.out))
      have Ph7 := Lib.hid (blk_below Ph6.out ((Below.refl w6.heap.size w6).alloc (Nat.le_refl _) (.cells #[.int .i64 c.office, .int .i64 c.hour, .int .i64 c.inn, .int .i64 c.out, .int .i64 c.store, .string c.prev, .int .i64 g1, .int .i64 g2] 25)) (blk_lt Ph6.out))
      have Xh7 := Lib.hid (blk_below Xh6.out ((Below.refl w6.heap.size w6).alloc (Nat.le_refl _) (.cells #[.int .i64 c.office, .int .i64 c.hour, .int .i64 c.inn, .int .i64 c.out, .int .i64 c.store, .string c.prev, .int .i64 g1, .int .i64 g2] 25)) (blk_lt Xh6.out))
      clear cK0 cK1 cC0 cC1 cC2 cC3 cC4 cC5 cC6 cC7 cD0 cD1 cD2 cD3 cD4 cD5 cD6 cD7 cP0 cP1 cP2 cP3 cP4 cP5 cX0 cX1 cX2 cX3 cX4 cX5 cX6 cX7
      have ne_K_Y : w.heap.size ≠ w6.heap.size := Nat.ne_of_lt (blk_lt Kh6.out)
      have ne_C_Y : bC ≠ w6.heap.size := Nat.ne_of_lt (blk_lt Ch6.out)
      have ne_D_Y : bD ≠ w6.heap.size := Nat.ne_of_lt (blk_lt Dh6.out)
      have ne_P_Y : bP ≠ w6.heap.size := Nat.ne_of_lt (blk_lt Ph6.out)
      have ne_X_Y : bX ≠ w6.heap.size := Nat.ne_of_lt (blk_lt Xh6.out)
      have le_Y : w.heap.size ≤ w6.heap.size := HB6.out.size
      clear HB6 Kh6 Ch6 Dh6 Ph6 Xh6
      generalize w6.heap.size = bY at *
      generalize w6.alloc (.cells #[.int .i64 c.office, .int .i64 c.hour, .int .i64 c.inn, .int .i64 c.out, .int .i64 c.store, .string c.prev, .int .i64 g1, .int .i64 g2] 25) = w7 at *
      have cK0 : w7.cell? ⟨w.heap.size, 0, none⟩ = some (.int .i64 x) := (cell_of_row _ _ _ _ _ _ Kh7.out).trans rfl
      have cK1 : w7.cell? ⟨w.heap.size, 1, none⟩ = some (.int .i64 y) := (cell_of_row _ _ _ _ _ _ Kh7.out).trans rfl
      have cC0 : w7.cell? ⟨bC, 0, none⟩ = some (.int .i64 c.office) := (cell_of_row _ _ _ _ _ _ Ch7.out).trans rfl
      have cC1 : w7.cell? ⟨bC, 1, none⟩ = some (.int .i64 c.hour) := (cell_of_row _ _ _ _ _ _ Ch7.out).trans rfl
      have cC2 : w7.cell? ⟨bC, 2, none⟩ = some (.int .i64 c.inn) := (cell_of_row _ _ _ _ _ _ Ch7.out).trans rfl
      have cC3 : w7.cell? ⟨bC, 3, none⟩ = some (.int .i64 c.out) := (cell_of_row _ _ _ _ _ _ Ch7.out).trans rfl
      have cC4 : w7.cell? ⟨bC, 4, none⟩ = some (.int .i64 c.store) := (cell_of_row _ _ _ _ _ _ Ch7.out).trans rfl
      have cC5 : w7.cell? ⟨bC, 5, none⟩ = some (.string c.prev) := (cell_of_row _ _ _ _ _ _ Ch7.out).trans rfl
      have cC6 : w7.cell? ⟨bC, 6, none⟩ = some (.int .i64 c.e) := (cell_of_row _ _ _ _ _ _ Ch7.out).trans rfl
      have cC7 : w7.cell? ⟨bC, 7, none⟩ = some (.int .i64 c.s) := (cell_of_row _ _ _ _ _ _ Ch7.out).trans rfl
      have cD0 : w7.cell? ⟨bD, 0, none⟩ = some (.int .i64 d.office) := (cell_of_row _ _ _ _ _ _ Dh7.out).trans rfl
      have cD1 : w7.cell? ⟨bD, 1, none⟩ = some (.int .i64 d.hour) := (cell_of_row _ _ _ _ _ _ Dh7.out).trans rfl
      have cD2 : w7.cell? ⟨bD, 2, none⟩ = some (.int .i64 d.inn) := (cell_of_row _ _ _ _ _ _ Dh7.out).trans rfl
      have cD3 : w7.cell? ⟨bD, 3, none⟩ = some (.int .i64 d.out) := (cell_of_row _ _ _ _ _ _ Dh7.out).trans rfl
      have cD4 : w7.cell? ⟨bD, 4, none⟩ = some (.int .i64 d.store) := (cell_of_row _ _ _ _ _ _ Dh7.out).trans rfl
      have cD5 : w7.cell? ⟨bD, 5, none⟩ = some (.string d.prev) := (cell_of_row _ _ _ _ _ _ Dh7.out).trans rfl
      have cD6 : w7.cell? ⟨bD, 6, none⟩ = some (.int .i64 d.e) := (cell_of_row _ _ _ _ _ _ Dh7.out).trans rfl
      have cD7 : w7.cell? ⟨bD, 7, none⟩ = some (.int .i64 d.s) := (cell_of_row _ _ _ _ _ _ Dh7.out).trans rfl
      have cP0 : w7.cell? ⟨bP, 0, none⟩ = some (.int .i64 p.office) := (cell_of_row _ _ _ _ _ _ Ph7.out).trans rfl
      have cP1 : w7.cell? ⟨bP, 1, none⟩ = some (.int .i64 p.since) := (cell_of_row _ _ _ _ _ _ Ph7.out).trans rfl
      have cP2 : w7.cell? ⟨bP, 2, none⟩ = some (.int .i64 p.till) := (cell_of_row _ _ _ _ _ _ Ph7.out).trans rfl
      have cP3 : w7.cell? ⟨bP, 3, none⟩ = some (.int .i64 p.litres) := (cell_of_row _ _ _ _ _ _ Ph7.out).trans rfl
      have cP4 : w7.cell? ⟨bP, 4, none⟩ = some (.int .i64 p.e) := (cell_of_row _ _ _ _ _ _ Ph7.out).trans rfl
      have cP5 : w7.cell? ⟨bP, 5, none⟩ = some (.int .i64 p.s) := (cell_of_row _ _ _ _ _ _ Ph7.out).trans rfl
      have cX0 : w7.cell? ⟨bX, 0, none⟩ = some (.int .i64 c.office) := (cell_of_row _ _ _ _ _ _ Xh7.out).trans rfl
      have cX1 : w7.cell? ⟨bX, 1, none⟩ = some (.int .i64 c.hour) := (cell_of_row _ _ _ _ _ _ Xh7.out).trans rfl
      have cX2 : w7.cell? ⟨bX, 2, none⟩ = some (.int .i64 c.inn) := (cell_of_row _ _ _ _ _ _ Xh7.out).trans rfl
      have cX3 : w7.cell? ⟨bX, 3, none⟩ = some (.int .i64 c.out) := (cell_of_row _ _ _ _ _ _ Xh7.out).trans rfl
      have cX4 : w7.cell? ⟨bX, 4, none⟩ = some (.int .i64 c.store) := (cell_of_row _ _ _ _ _ _ Xh7.out).trans rfl
      have cX5 : w7.cell? ⟨bX, 5, none⟩ = some (.string c.prev) := (cell_of_row _ _ _ _ _ _ Xh7.out).trans rfl
      have cX6 : w7.cell? ⟨bX, 6, none⟩ = some (.int .i64 g1) := (cell_of_row _ _ _ _ _ _ Xh7.out).trans rfl
      have cX7 : w7.cell? ⟨bX, 7, none⟩ = some (.int .i64 g2) := (cell_of_row _ _ _ _ _ _ Xh7.out).trans rfl
      have cY0 : w7.cell? ⟨bY, 0, none⟩ = some (.int .i64 c.office) := (cell_of_row _ _ _ _ _ _ Yh7.out).trans rfl
      have cY1 : w7.cell? ⟨bY, 1, none⟩ = some (.int .i64 c.hour) := (cell_of_row _ _ _ _ _ _ Yh7.out).trans rfl
      have cY2 : w7.cell? ⟨bY, 2, none⟩ = some (.int .i64 c.inn) := (cell_of_row _ _ _ _ _ _ Yh7.out).trans rfl
      have cY3 : w7.cell? ⟨bY, 3, none⟩ = some (.int .i64 c.out) := (cell_of_row _ _ _ _ _ _ Yh7.out).trans rfl
      have cY4 : w7.cell? ⟨bY, 4, none⟩ = some (.int .i64 c.store) := (cell_of_row _ _ _ _ _ _ Yh7.out).trans rfl
      have cY5 : w7.cell? ⟨bY, 5, none⟩ = some (.string c.prev) := (cell_of_row _ _ _ _ _ _ Yh7.out).trans rfl
      have cY6 : w7.cell? ⟨bY, 6, none⟩ = some (.int .i64 g1) := (cell_of_row _ _ _ _ _ _ Yh7.out).trans rfl
      have cY7 : w7.cell? ⟨bY, 7, none⟩ = some (.int .i64 g2) := (cell_of_row _ _ _ _ _ _ Yh7.out).trans rfl
      have z6 : w7.frozen? ⟨bY, 6, none⟩ = false := frozen_of_row _ _ _ _ _ Yh7.out
      have hm6 : (w7.setCell ⟨bY, 6, none⟩ (.int .i64 c.e)).heap[bY]? = some (.cells #[.int .i64 c.office, .int .i64 c.hour, .int .i64 c.inn, .int .i64 c.out, .int .i64 c.store, .string c.prev, .int .i64 c.e, .int .i64 g2] 25 (0, 0)) := (heap_setCell_same _ _ _ _ _ _ Yh7.out).trans rfl
      have d7 : (w7.setCell ⟨bY, 6, none⟩ (.int .i64 c.e)).cell? ⟨bY, 7, none⟩ = some (.int .i64 g2) := (cell_of_row _ _ _ _ _ _ hm6).trans rfl
      have z7 : (w7.setCell ⟨bY, 6, none⟩ (.int .i64 c.e)).frozen? ⟨bY, 7, none⟩ = false := frozen_of_row _ _ _ _ _ hm6
      go_upto_region 7 with fail
      have Yh8 : Hid (((w7.setCell ⟨bY, 6, none⟩ (.int .i64 c.e)).setCell ⟨bY, 7, none⟩ (.int .i64 c.s)).heap[bY]? = some (.cells #[.int .i64 c.office, .int .i64 c.hour, .int .i64 c.inn, .int .i64 c.out, .int .i64 c.store, .string c.prev, .int .i64 c.e, .int .i64 c.s] 25 (0, 0))) := Lib.hid ((heap_setCell_same _ _ _ _ _ _ hm6).trans rfl)
      have Kh8 : Hid (((w7.setCell ⟨bY, 6, none⟩ (.int .i64 c.e)).setCell ⟨bY, 7, none⟩ (.int .i64 c.s)).heap[w.heap.size]? = some (.cells #[.int .i64 x, .int .i64 y] 29)) := Lib.hid (((heap_setCell_other _ _ _ _ ne_K_Y).trans (heap_setCell_other _ _ _ _ ne_K_Y)).trans Kh7.out)
      have Ch8 : Hid (((w7.setCell ⟨bY, 6, none⟩ (.int .i64 c.e)).setCell ⟨bY, 7, none⟩ (.int .i64 c.s)).heap[bC]? = some (.cells #[.int .i64 c.office, .int .i64 c.hour, .int .i64 c.inn, .int .i64 c.out, .int .i64 c.store, .string c.prev, .int .i64 c.e, .int .i64 c.s] 25)) := Lib.hid (((heap_setCell_other _ _ _ _ ne_C_Y).trans (heap_setCell_other _ _ _ _ ne_C_Y)).trans Ch7.out)
      have Dh8 : Hid (((w7.setCell ⟨bY, 6, none⟩ (.int .i64 c.e)).setCell ⟨bY, 7, none⟩ (.int .i64 c.s)).heap[bD]? = some (.cells #[.int .i64 d.office, .int .i64 d.hour, .int .i64 d.inn, .int .i64 d.out, .int .i64 d.store, .string d.prev, .int .i64 d.e, .int .i64 d.s] 25)) := Lib.hid (((heap_setCell_other _ _ _ _ ne_D_Y).trans (heap_setCell_other _ _ _ _ ne_D_Y)).trans Dh7.out)
      have Ph8 : Hid (((w7.setCell ⟨bY, 6, none⟩ (.int .i64 c.e)).setCell ⟨bY, 7, none⟩ (.int .i64 c.s)).heap[bP]? = some (.cells #[.int .i64 p.office, .int .i64 p.since, .int .i64 p.till, .int .i64 p.litres, .int .i64 p.e, .int .i64 p.s] 27)) := Lib.hid (((heap_setCell_other _ _ _ _ ne_P_Y).trans (heap_setCell_other _ _ _ _ ne_P_Y)).trans Ph7.out)
      have Xh8 : Hid (((w7.setCell ⟨bY, 6, none⟩ (.int .i64 c.e)).setCell ⟨bY, 7, none⟩ (.int .i64 c.s)).heap[bX]? = some (.cells #[.int .i64 c.office, .int .i64 c.hour, .int .i64 c.inn, .int .i64 c.out, .int .i64 c.store, .string c.prev, .int .i64 g1, .int .i64 g2] 25)) := Lib.hid (((heap_setCell_other _ _ _ _ ne_X_Y).trans (heap_setCell_other _ _ _ _ ne_X_Y)).trans Xh7.out)
      have HB8 : Hid (Below w.heap.size w ((w7.setCell ⟨bY, 6, none⟩ (.int .i64 c.e)).setCell ⟨bY, 7, none⟩ (.int .i64 c.s))) := Lib.hid ((HB7.out.setCell le_Y _).setCell le_Y _)
      clear cK0 cK1 cC0 cC1 cC2 cC3 cC4 cC5 cC6 cC7 cD0 cD1 cD2 cD3 cD4 cD5 cD6 cD7 cP0 cP1 cP2 cP3 cP4 cP5 cX0 cX1 cX2 cX3 cX4 cX5 cX6 cX7 cY0 cY1 cY2 cY3 cY4 cY5 cY6 cY7
      clear z6 hm6 d7 z7 HB7 Kh7 Ch7 Dh7 Ph7 Xh7 Yh7
      generalize ((w7.setCell ⟨bY, 6, none⟩ (.int .i64 c.e)).setCell ⟨bY, 7, none⟩ (.int .i64 c.s)) = w8 at *
      have cK0 : w8.cell? ⟨w.heap.size, 0, none⟩ = some (.int .i64 x) := (cell_of_row _ _ _ _ _ _ Kh8.out).trans rfl
      have cK1 : w8.cell? ⟨w.heap.size, 1, none⟩ = some (.int .i64 y) := (cell_of_row _ _ _ _ _ _ Kh8.out).trans rfl
      have cC0 : w8.cell? ⟨bC, 0, none⟩ = some (.int .i64 c.office) := (cell_of_row _ _ _ _ _ _ Ch8.out).trans rfl
      have cC1 : w8.cell? ⟨bC, 1, none⟩ = some (.int .i64 c.hour) := (cell_of_row _ _ _ _ _ _ Ch8.out).trans rfl
      have cC2 : w8.cell? ⟨bC, 2, none⟩ = some (.int .i64 c.inn) := (cell_of_row _ _ _ _ _ _ Ch8.out).trans rfl
      have cC3 : w8.cell? ⟨bC, 3, none⟩ = some (.int .i64 c.out) := (cell_of_row _ _ _ _ _ _ Ch8.out).trans rfl
      have cC4 : w8.cell? ⟨bC, 4, none⟩ = some (.int .i64 c.store) := (cell_of_row _ _ _ _ _ _ Ch8.out).trans rfl
      have cC5 : w8.cell? ⟨bC, 5, none⟩ = some (.string c.prev) := (cell_of_row _ _ _ _ _ _ Ch8.out).trans rfl
      have cC6 : w8.cell? ⟨bC, 6, none⟩ = some (.int .i64 c.e) := (cell_of_row _ _ _ _ _ _ Ch8.out).trans rfl
      have cC7 : w8.cell? ⟨bC, 7, none⟩ = some (.int .i64 c.s) := (cell_of_row _ _ _ _ _ _ Ch8.out).trans rfl
      have cD0 : w8.cell? ⟨bD, 0, none⟩ = some (.int .i64 d.office) := (cell_of_row _ _ _ _ _ _ Dh8.out).trans rfl
      have cD1 : w8.cell? ⟨bD, 1, none⟩ = some (.int .i64 d.hour) := (cell_of_row _ _ _ _ _ _ Dh8.out).trans rfl
      have cD2 : w8.cell? ⟨bD, 2, none⟩ = some (.int .i64 d.inn) := (cell_of_row _ _ _ _ _ _ Dh8.out).trans rfl
      have cD3 : w8.cell? ⟨bD, 3, none⟩ = some (.int .i64 d.out) := (cell_of_row _ _ _ _ _ _ Dh8.out).trans rfl
      have cD4 : w8.cell? ⟨bD, 4, none⟩ = some (.int .i64 d.store) := (cell_of_row _ _ _ _ _ _ Dh8.out).trans rfl
      have cD5 : w8.cell? ⟨bD, 5, none⟩ = some (.string d.prev) := (cell_of_row _ _ _ _ _ _ Dh8.out).trans rfl
      have cD6 : w8.cell? ⟨bD, 6, none⟩ = some (.int .i64 d.e) := (cell_of_row _ _ _ _ _ _ Dh8.out).trans rfl
      have cD7 : w8.cell? ⟨bD, 7, none⟩ = some (.int .i64 d.s) := (cell_of_row _ _ _ _ _ _ Dh8.out).trans rfl
      have cP0 : w8.cell? ⟨bP, 0, none⟩ = some (.int .i64 p.office) := (cell_of_row _ _ _ _ _ _ Ph8.out).trans rfl
      have cP1 : w8.cell? ⟨bP, 1, none⟩ = some (.int .i64 p.since) := (cell_of_row _ _ _ _ _ _ Ph8.out).trans rfl
      have cP2 : w8.cell? ⟨bP, 2, none⟩ = some (.int .i64 p.till) := (cell_of_row _ _ _ _ _ _ Ph8.out).trans rfl
      have cP3 : w8.cell? ⟨bP, 3, none⟩ = some (.int .i64 p.litres) := (cell_of_row _ _ _ _ _ _ Ph8.out).trans rfl
      have cP4 : w8.cell? ⟨bP, 4, none⟩ = some (.int .i64 p.e) := (cell_of_row _ _ _ _ _ _ Ph8.out).trans rfl
      have cP5 : w8.cell? ⟨bP, 5, none⟩ = some (.int .i64 p.s) := (cell_of_row _ _ _ _ _ _ Ph8.out).trans rfl
      have cX0 : w8.cell? ⟨bX, 0, none⟩ = some (.int .i64 c.office) := (cell_of_row _ _ _ _ _ _ Xh8.out).trans rfl
      have cX1 : w8.cell? ⟨bX, 1, none⟩ = some (.int .i64 c.hour) := (cell_of_row _ _ _ _ _ _ Xh8.out).trans rfl
      have cX2 : w8.cell? ⟨bX, 2, none⟩ = some (.int .i64 c.inn) := (cell_of_row _ _ _ _ _ _ Xh8.out).trans rfl
      have cX3 : w8.cell? ⟨bX, 3, none⟩ = some (.int .i64 c.out) := (cell_of_row _ _ _ _ _ _ Xh8.out).trans rfl
      have cX4 : w8.cell? ⟨bX, 4, none⟩ = some (.int .i64 c.store) := (cell_of_row _ _ _ _ _ _ Xh8.out).trans rfl
      have cX5 : w8.cell? ⟨bX, 5, none⟩ = some (.string c.prev) := (cell_of_row _ _ _ _ _ _ Xh8.out).trans rfl
      have cX6 : w8.cell? ⟨bX, 6, none⟩ = some (.int .i64 g1) := (cell_of_row _ _ _ _ _ _ Xh8.out).trans rfl
      have cX7 : w8.cell? ⟨bX, 7, none⟩ = some (.int .i64 g2) := (cell_of_row _ _ _ _ _ _ Xh8.out).trans rfl
      have cY0 : w8.cell? ⟨bY, 0, none⟩ = some (.int .i64 c.office) := (cell_of_row _ _ _ _ _ _ Yh8.out).trans rfl
      have cY1 : w8.cell? ⟨bY, 1, none⟩ = some (.int .i64 c.hour) := (cell_of_row _ _ _ _ _ _ Yh8.out).trans rfl
      have cY2 : w8.cell? ⟨bY, 2, none⟩ = some (.int .i64 c.inn) := (cell_of_row _ _ _ _ _ _ Yh8.out).trans rfl
      have cY3 : w8.cell? ⟨bY, 3, none⟩ = some (.int .i64 c.out) := (cell_of_row _ _ _ _ _ _ Yh8.out).trans rfl
      have cY4 : w8.cell? ⟨bY, 4, none⟩ = some (.int .i64 c.store) := (cell_of_row _ _ _ _ _ _ Yh8.out).trans rfl
      have cY5 : w8.cell? ⟨bY, 5, none⟩ = some (.string c.prev) := (cell_of_row _ _ _ _ _ _ Yh8.out).trans rfl
      have cY6 : w8.cell? ⟨bY, 6, none⟩ = some (.int .i64 c.e) := (cell_of_row _ _ _ _ _ _ Yh8.out).trans rfl
      have cY7 : w8.cell? ⟨bY, 7, none⟩ = some (.int .i64 c.s) := (cell_of_row _ _ _ _ _ _ Yh8.out).trans rfl
      go_wp2_with fail
      refine (HF.out.sgp _ (HG.out.below HB8.out HG.out.size) (HM.out.up HB8.out)).mono ?_
      rintro e w9 ⟨rfl, hb⟩
      have HB9 := Lib.hid (HB8.out.trans (hb.mono HB8.out.size))
      have Kh9 := Lib.hid (blk_below Kh8.out hb (blk_lt Kh8.out))
      have Ch9 := Lib.hid (blk_below Ch8.out hb (blk_lt Ch8.out))
      have Dh9 := Lib.hid (blk_below Dh8.out hb (blk_lt Dh8.out))
      have Ph9 := Lib.hid (blk_below Ph8.out hb (blk_lt Ph8.out))
      have Xh9 := Lib.hid (blk_below Xh8.out hb (blk_lt Xh8.out))
      have Yh9 := Lib.hid (blk_below Yh8.out hb (blk_lt Yh8.out))
      clear cK0 cK1 cC0 cC1 cC2 cC3 cC4 cC5 cC6 cC7 cD0 cD1 cD2 cD3 cD4 cD5 cD6 cD7 cP0 cP1 cP2 cP3 cP4 cP5 cX0 cX1 cX2 cX3 cX4 cX5 cX6 cX7 cY0 cY1 cY2 cY3 cY4 cY5 cY6 cY7
      clear HB8 Kh8 Ch8 Dh8 Ph8 Xh8 Yh8
      clear hb
      have cK0 : w9.cell? ⟨w.heap.size, 0, none⟩ = some (.int .i64 x) := (cell_of_row _ _ _ _ _ _ Kh9.out).trans rfl
      have cK1 : w9.cell? ⟨w.heap.size, 1, none⟩ = some (.int .i64 y) := (cell_of_row _ _ _ _ _ _ Kh9.out).trans rfl
      have cC0 : w9.cell? ⟨bC, 0, none⟩ = some (.int .i64 c.office) := (cell_of_row _ _ _ _ _ _ Ch9.out).trans rfl
      have cC1 : w9.cell? ⟨bC, 1, none⟩ = some (.int .i64 c.hour) := (cell_of_row _ _ _ _ _ _ Ch9.out).trans rfl
      have cC2 : w9.cell? ⟨bC, 2, none⟩ = some (.int .i64 c.inn) := (cell_of_row _ _ _ _ _ _ Ch9.out).trans rfl
      have cC3 : w9.cell? ⟨bC, 3, none⟩ = some (.int .i64 c.out) := (cell_of_row _ _ _ _ _ _ Ch9.out).trans rfl
      have cC4 : w9.cell? ⟨bC, 4, none⟩ = some (.int .i64 c.store) := (cell_of_row _ _ _ _ _ _ Ch9.out).trans rfl
      have cC5 : w9.cell? ⟨bC, 5, none⟩ = some (.string c.prev) := (cell_of_row _ _ _ _ _ _ Ch9.out).trans rfl
      have cC6 : w9.cell? ⟨bC, 6, none⟩ = some (.int .i64 c.e) := (cell_of_row _ _ _ _ _ _ Ch9.out).trans rfl
      have cC7 : w9.cell? ⟨bC, 7, none⟩ = some (.int .i64 c.s) := (cell_of_row _ _ _ _ _ _ Ch9.out).trans rfl
      have cD0 : w9.cell? ⟨bD, 0, none⟩ = some (.int .i64 d.office) := (cell_of_row _ _ _ _ _ _ Dh9.out).trans rfl
      have cD1 : w9.cell? ⟨bD, 1, none⟩ = some (.int .i64 d.hour) := (cell_of_row _ _ _ _ _ _ Dh9.out).trans rfl
      have cD2 : w9.cell? ⟨bD, 2, none⟩ = some (.int .i64 d.inn) := (cell_of_row _ _ _ _ _ _ Dh9.out).trans rfl
      have cD3 : w9.cell? ⟨bD, 3, none⟩ = some (.int .i64 d.out) := (cell_of_row _ _ _ _ _ _ Dh9.out).trans rfl
      have cD4 : w9.cell? ⟨bD, 4, none⟩ = some (.int .i64 d.store) := (cell_of_row _ _ _ _ _ _ Dh9.out).trans rfl
      have cD5 : w9.cell? ⟨bD, 5, none⟩ = some (.string d.prev) := (cell_of_row _ _ _ _ _ _ Dh9.out).trans rfl
      have cD6 : w9.cell? ⟨bD, 6, none⟩ = some (.int .i64 d.e) := (cell_of_row _ _ _ _ _ _ Dh9.out).trans rfl
      have cD7 : w9.cell? ⟨bD, 7, none⟩ = some (.int .i64 d.s) := (cell_of_row _ _ _ _ _ _ Dh9.out).trans rfl
      have cP0 : w9.cell? ⟨bP, 0, none⟩ = some (.int .i64 p.office) := (cell_of_row _ _ _ _ _ _ Ph9.out).trans rfl
      have cP1 : w9.cell? ⟨bP, 1, none⟩ = some (.int .i64 p.since) := (cell_of_row _ _ _ _ _ _ Ph9.out).trans rfl
      have cP2 : w9.cell? ⟨bP, 2, none⟩ = some (.int .i64 p.till) := (cell_of_row _ _ _ _ _ _ Ph9.out).trans rfl
      have cP3 : w9.cell? ⟨bP, 3, none⟩ = some (.int .i64 p.litres) := (cell_of_row _ _ _ _ _ _ Ph9.out).trans rfl
      have cP4 : w9.cell? ⟨bP, 4, none⟩ = some (.int .i64 p.e) := (cell_of_row _ _ _ _ _ _ Ph9.out).trans rfl
      have cP5 : w9.cell? ⟨bP, 5, none⟩ = some (.int .i64 p.s) := (cell_of_row _ _ _ _ _ _ Ph9.out).trans rfl
      have cX0 : w9.cell? ⟨bX, 0, none⟩ = some (.int .i64 c.office) := (cell_of_row _ _ _ _ _ _ Xh9.out).trans rfl
      have cX1 : w9.cell? ⟨bX, 1, none⟩ = some (.int .i64 c.hour) := (cell_of_row _ _ _ _ _ _ Xh9.out).trans rfl
      have cX2 : w9.cell? ⟨bX, 2, none⟩ = some (.int .i64 c.inn) := (cell_of_row _ _ _ _ _ _ Xh9.out).trans rfl
      have cX3 : w9.cell? ⟨bX, 3, none⟩ = some (.int .i64 c.out) := (cell_of_row _ _ _ _ _ _ Xh9.out).trans rfl
      have cX4 : w9.cell? ⟨bX, 4, none⟩ = some (.int .i64 c.store) := (cell_of_row _ _ _ _ _ _ Xh9.out).trans rfl
      have cX5 : w9.cell? ⟨bX, 5, none⟩ = some (.string c.prev) := (cell_of_row _ _ _ _ _ _ Xh9.out).trans rfl
      have cX6 : w9.cell? ⟨bX, 6, none⟩ = some (.int .i64 g1) := (cell_of_row _ _ _ _ _ _ Xh9.out).trans rfl
      have cX7 : w9.cell? ⟨bX, 7, none⟩ = some (.int .i64 g2) := (cell_of_row _ _ _ _ _ _ Xh9.out).trans rfl
      have cY0 : w9.cell? ⟨bY, 0, none⟩ = some (.int .i64 c.office) := (cell_of_row _ _ _ _ _ _ Yh9.out).trans rfl
      have cY1 : w9.cell? ⟨bY, 1, none⟩ = some (.int .i64 c.hour) := (cell_of_row _ _ _ _ _ _ Yh9.out).trans rfl
      have cY2 : w9.cell? ⟨bY, 2, none⟩ = some (.int .i64 c.inn) := (cell_of_row _ _ _ _ _ _ Yh9.out).trans rfl
      have cY3 : w9.cell? ⟨bY, 3, none⟩ = some (.int .i64 c.out) := (cell_of_row _ _ _ _ _ _ Yh9.out).trans rfl
      have cY4 : w9.cell? ⟨bY, 4, none⟩ = some (.int .i64 c.store) := (cell_of_row _ _ _ _ _ _ Yh9.out).trans rfl
      have cY5 : w9.cell? ⟨bY, 5, none⟩ = some (.string c.prev) := (cell_of_row _ _ _ _ _ _ Yh9.out).trans rfl
      have cY6 : w9.cell? ⟨bY, 6, none⟩ = some (.int .i64 c.e) := (cell_of_row _ _ _ _ _ _ Yh9.out).trans rfl
      have cY7 : w9.cell? ⟨bY, 7, none⟩ = some (.int .i64 c.s) := (cell_of_row _ _ _ _ _ _ Yh9.out).trans rfl
      go_upto_region 8 with fail
      have HB10 := Lib.hid (HB9.out.alloc HB9.out.size (.cells #[.int .i64 p.office, .int .i64 p.since, .int .i64 p.till, .int .i64 p.litres, .int .i64 t1, .int .i64 t2] 27))
      have Uh10 := Lib.hid (heap_alloc_new w9 (.cells #[.int .i64 p.office, .int .i64 p.since, .int .i64 p.till, .int .i64 p.litres, .int .i64 t1, .int .i64 t2] 27))
      have Kh10 := Lib.hid (blk_below Kh9.out ((Below.refl w9.heap.size w9).alloc (Nat.le_refl _) (.cells #[.int .i64 p.office, .int .i64 p.since, .int .i64 p.till, .int .i64 p.litres, .int .i64 t1, .int .i64 t2] 27)) (blk_lt Kh9.out))
      have Ch10 := Lib.hid (blk_below Ch9.out ((Below.refl w9.heap.size w9).alloc (Nat.le_refl _) (.cells #[.int .i64 p.office, .int .i64 p.since, .int .i64 p.till, .int .i64 p.litres, .int .i64 t1, .int .i64 t2] 27)) (blk_lt Ch9.out))
      have Dh10 := Lib.hid (blk_below Dh9.out ((Below.refl w9.heap.size w9).alloc (Nat.le_refl _) (.cells #[.int .i64 p.office, .int .i64 p.since, .int .i64 p.till, .int .i64 p.litres, .int .i64 t1, .int .i64 t2] 27)) (blk_lt Dh9.out))
      have Ph10 := Lib.hid (blk_below Ph9.out ((Below.refl w9.heap.size w9).alloc (Nat.le_refl _) (.cells #[.int .i64 p.office, .int .i64 p.since, .int .i64 p.till, .int .i64 p.litres, .int .i64 t1, .int .i64 t2] 27)) (blk_lt Ph9.out))
      have Xh10 := Lib.hid (blk_below Xh9.out ((Below.refl w9.heap.size w9).alloc (Nat.le_refl _) (.cells #[.int .i64 p.office, .int .i64 p.since, .int .i64 p.till, .int .i64 p.litres, .int .i64 t1, .int .i64 t2] 27)) (blk_lt Xh9.out))
      have Yh10 := Lib.hid (blk_below Yh9.out ((Below.refl w9.heap.size w9).alloc (Nat.le_refl _) (.cells #[.int .i64 p.office, .int .i64 p.since, .int .i64 p.till, .int .i64 p.litres, .int .i64 t1, .int .i64 t2] 27)) (blk_lt Yh9.out))
      clear cK0 cK1 cC0 cC1 cC2 cC3 cC4 cC5 cC6 cC7 cD0 cD1 cD2 cD3 cD4 cD5 cD6 cD7 cP0 cP1 cP2 cP3 cP4 cP5 cX0 cX1 cX2 cX3 cX4 cX5 cX6 cX7 cY0 cY1 cY2 cY3 cY4 cY5 cY6 cY7
      have ne_K_U : w.heap.size ≠ w9.heap.size := Nat.ne_of_lt (blk_lt Kh9.out)
      have ne_C_U : bC ≠ w9.heap.size := Nat.ne_of_lt (blk_lt Ch9.out)
      have ne_D_U : bD ≠ w9.heap.size := Nat.ne_of_lt (blk_lt Dh9.out)
      have ne_P_U : bP ≠ w9.heap.size := Nat.ne_of_lt (blk_lt Ph9.out)
      have ne_X_U : bX ≠ w9.heap.size := Nat.ne_of_lt (blk_lt Xh9.out)
      have ne_Y_U : bY ≠ w9.heap.size := Nat.ne_of_lt (blk_lt Yh9.out)
      have le_U : w.heap.size ≤ w9.heap.size := HB9.out.size
      clear HB9 Kh9 Ch9 Dh9 Ph9 Xh9 Yh9
      generalize w9.heap.size = bU at *
      generalize w9.alloc (.cells #[.int .i64 p.office, .int .i64 p.since, .int .i64 p.till, .int .i64 p.litres, .int .i64 t1, .int .i64 t2] 27) = w10 at *
      have cK0 : w10.cell? ⟨w.heap.size, 0, none⟩ = some (.int .i64 x) := (cell_of_row _ _ _ _ _ _ Kh10.out).trans rfl
      have cK1 : w10.cell? ⟨w.heap.size, 1, none⟩ = some (.int .i64 y) := (cell_of_row _ _ _ _ _ _ Kh10.out).trans rfl
      have cC0 : w10.cell? ⟨bC, 0, none⟩ = some (.int .i64 c.office) := (cell_of_row _ _ _ _ _ _ Ch10.out).trans rfl
      have cC1 : w10.cell? ⟨bC, 1, none⟩ = some (.int .i64 c.hour) := (cell_of_row _ _ _ _ _ _ Ch10.out).trans rfl
      have cC2 : w10.cell? ⟨bC, 2, none⟩ = some (.int .i64 c.inn) := (cell_of_row _ _ _ _ _ _ Ch10.out).trans rfl
      have cC3 : w10.cell? ⟨bC, 3, none⟩ = some (.int .i64 c.out) := (cell_of_row _ _ _ _ _ _ Ch10.out).trans rfl
      have cC4 : w10.cell? ⟨bC, 4, none⟩ = some (.int .i64 c.store) := (cell_of_row _ _ _ _ _ _ Ch10.out).trans rfl
      have cC5 : w10.cell? ⟨bC, 5, none⟩ = some (.string c.prev) := (cell_of_row _ _ _ _ _ _ Ch10.out).trans rfl
      have cC6 : w10.cell? ⟨bC, 6, none⟩ = some (.int .i64 c.e) := (cell_of_row _ _ _ _ _ _ Ch10.out).trans rfl
      have cC7 : w10.cell? ⟨bC, 7, none⟩ = some (.int .i64 c.s) := (cell_of_row _ _ _ _ _ _ Ch10.out).trans rfl
      have cD0 : w10.cell? ⟨bD, 0, none⟩ = some (.int .i64 d.office) := (cell_of_row _ _ _ _ _ _ Dh10.out).trans rfl
      have cD1 : w10.cell? ⟨bD, 1, none⟩ = some (.int .i64 d.hour) := (cell_of_row _ _ _ _ _ _ Dh10.out).trans rfl
      have cD2 : w10.cell? ⟨bD, 2, none⟩ = some (.int .i64 d.inn) := (cell_of_row _ _ _ _ _ _ Dh10.out).trans rfl
      have cD3 : w10.cell? ⟨bD, 3, none⟩ = some (.int .i64 d.out) := (cell_of_row _ _ _ _ _ _ Dh10.out).trans rfl
      have cD4 : w10.cell? ⟨bD, 4, none⟩ = some (.int .i64 d.store) := (cell_of_row _ _ _ _ _ _ Dh10.out).trans rfl
      have cD5 : w10.cell? ⟨bD, 5, none⟩ = some (.string d.prev) := (cell_of_row _ _ _ _ _ _ Dh10.out).trans rfl
      have cD6 : w10.cell? ⟨bD, 6, none⟩ = some (.int .i64 d.e) := (cell_of_row _ _ _ _ _ _ Dh10.out).trans rfl
      have cD7 : w10.cell? ⟨bD, 7, none⟩ = some (.int .i64 d.s) := (cell_of_row _ _ _ _ _ _ Dh10.out).trans rfl
      have cP0 : w10.cell? ⟨bP, 0, none⟩ = some (.int .i64 p.office) := (cell_of_row _ _ _ _ _ _ Ph10.out).trans rfl
      have cP1 : w10.cell? ⟨bP, 1, none⟩ = some (.int .i64 p.since) := (cell_of_row _ _ _ _ _ _ Ph10.out).trans rfl
      have cP2 : w10.cell? ⟨bP, 2, none⟩ = some (.int .i64 p.till) := (cell_of_row _ _ _ _ _ _ Ph10.out).trans rfl
      have cP3 : w10.cell? ⟨bP, 3, none⟩ = some (.int .i64 p.litres) := (cell_of_row _ _ _ _ _ _ Ph10.out).trans rfl
      have cP4 : w10.cell? ⟨bP, 4, none⟩ = some (.int .i64 p.e) := (cell_of_row _ _ _ _ _ _ Ph10.out).trans rfl
      have cP5 : w10.cell? ⟨bP, 5, none⟩ = some (.int .i64 p.s) := (cell_of_row _ _ _ _ _ _ Ph10.out).trans rfl
      have cX0 : w10.cell? ⟨bX, 0, none⟩ = some (.int .i64 c.office) := (cell_of_row _ _ _ _ _ _ Xh10.out).trans rfl
      have cX1 : w10.cell? ⟨bX, 1, none⟩ = some (.int .i64 c.hour) := (cell_of_row _ _ _ _ _ _ Xh10.out).trans rfl
      have cX2 : w10.cell? ⟨bX, 2, none⟩ = some (.int .i64 c.inn) := (cell_of_row _ _ _ _ _ _ Xh10.out).trans rfl
      have cX3 : w10.cell? ⟨bX, 3, none⟩ = some (.int .i64 c.out) := (cell_of_row _ _ _ _ _ _ Xh10.out).trans rfl
      have cX4 : w10.cell? ⟨bX, 4, none⟩ = some (.int .i64 c.store) := (cell_of_row _ _ _ _ _ _ Xh10.out).trans rfl
      have cX5 : w10.cell? ⟨bX, 5, none⟩ = some (.string c.prev) := (cell_of_row _ _ _ _ _ _ Xh10.out).trans rfl
      have cX6 : w10.cell? ⟨bX, 6, none⟩ = some (.int .i64 g1) := (cell_of_row _ _ _ _ _ _ Xh10.out).trans rfl
      have cX7 : w10.cell? ⟨bX, 7, none⟩ = some (.int .i64 g2) := (cell_of_row _ _ _ _ _ _ Xh10.out).trans rfl
      have cY0 : w10.cell? ⟨bY, 0, none⟩ = some (.int .i64 c.office) := (cell_of_row _ _ _ _ _ _ Yh10.out).trans rfl
      have cY1 : w10.cell? ⟨bY, 1, none⟩ = some (.int .i64 c.hour) := (cell_of_row _ _ _ _ _ _ Yh10.out).trans rfl
      have cY2 : w10.cell? ⟨bY, 2, none⟩ = some (.int .i64 c.inn) := (cell_of_row _ _ _ _ _ _ Yh10.out).trans rfl
      have cY3 : w10.cell? ⟨bY, 3, none⟩ = some (.int .i64 c.out) := (cell_of_row _ _ _ _ _ _ Yh10.out).trans rfl
      have cY4 : w10.cell? ⟨bY, 4, none⟩ = some (.int .i64 c.store) := (cell_of_row _ _ _ _ _ _ Yh10.out).trans rfl
      have cY5 : w10.cell? ⟨bY, 5, none⟩ = some (.string c.prev) := (cell_of_row _ _ _ _ _ _ Yh10.out).trans rfl
      have cY6 : w10.cell? ⟨bY, 6, none⟩ = some (.int .i64 c.e) := (cell_of_row _ _ _ _ _ _ Yh10.out).trans rfl
      have cY7 : w10.cell? ⟨bY, 7, none⟩ = some (.int .i64 c.s) := (cell_of_row _ _ _ _ _ _ Yh10.out).trans rfl
      have cU0 : w10.cell? ⟨bU, 0, none⟩ = some (.int .i64 p.office) := (cell_of_row _ _ _ _ _ _ Uh10.out).trans rfl
      have cU1 : w10.cell? ⟨bU, 1, none⟩ = some (.int .i64 p.since) := (cell_of_row _ _ _ _ _ _ Uh10.out).trans rfl
      have cU2 : w10.cell? ⟨bU, 2, none⟩ = some (.int .i64 p.till) := (cell_of_row _ _ _ _ _ _ Uh10.out).trans rfl
      have cU3 : w10.cell? ⟨bU, 3, none⟩ = some (.int .i64 p.litres) := (cell_of_row _ _ _ _ _ _ Uh10.out).trans rfl
      have cU4 : w10.cell? ⟨bU, 4, none⟩ = some (.int .i64 t1) := (cell_of_row _ _ _ _ _ _ Uh10.out).trans rfl
      have cU5 : w10.cell? ⟨bU, 5, none⟩ = some (.int .i64 t2) := (cell_of_row _ _ _ _ _ _ Uh10.out).trans rfl
      go_upto_region 9 with fail
      have HB11 := Lib.hid (HB10.out.alloc HB10.out.size (.cells #[.int .i64 p.office, .int .i64 p.since, .int .i64 p.till, .int .i64 p.litres, .int .i64 t1, .int .i64 t2] 27))
      have Vh11 := Lib.hid (heap_alloc_new w10 (.cells #[.int .i64 p.office, .int .i64 p.since, .int .i64 p.till, .int .i64 p.litres, .int .i64 t1, .int .i64 t2] 27))
      have Kh11 := Lib.hid (blk_below Kh10.out ((Below.refl w10.heap.size w10).alloc (Nat.le_refl _) (.cells #[.int .i64 p.office, .int .i64 p.since, .int .i64 p.till, .int .i64 p.litres, .int .i64 t1, .int .i64 t2] 27)) (blk_lt Kh10.out))
      have Ch11 := Lib.hid (blk_below Ch10.out ((Below.refl w10.heap.size w10).alloc (Nat.le_refl _) (.cells #[.int .i64 p.office, .int .i64 p.since, .int .i64 p.till, .int .i64 p.litres, .int .i64 t1, .int .i64 t2] 27)) (blk_lt Ch10.out))
      have Dh11 := Lib.hid (blk_below Dh10.out ((Below.refl w10.heap.size w10).alloc (Nat.le_refl _) (.cells #[.int .i64 p.office, .int .i64 p.since, .int .i64 p.till, .int .i64 p.litres, .int .i64 t1, .int .i64 t2] 27)) (blk_lt Dh10.out))
      have Ph11 := Lib.hid (blk_below Ph10.out ((Below.refl w10.heap.size w10).alloc (Nat.le_refl _) (.cells #[.int .i64 p.office, .int .i64 p.since, .int .i64 p.till, .int .i64 p.litres, .int .i64 t1, .int .i64 t2] 27)) (blk_lt Ph10.out))
      have Xh11 := Lib.hid (blk_below Xh10.out ((Below.refl w10.heap.size w10).alloc (Nat.le_refl _) (.cells #[.int .i64 p.office, .int .i64 p.since, .int .i64 p.till, .int .i64 p.litres, .int .i64 t1, .int .i64 t2] 27)) (blk_lt Xh10.out))
      have Yh11 := Lib.hid (blk_below Yh10.out ((Below.refl w10.heap.size w10).alloc (Nat.le_refl _) (.cells #[.int .i64 p.office, .int .i64 p.since, .int .i64 p.till, .int .i64 p.litres, .int .i64 t1, .int .i64 t2] 27)) (blk_lt Yh10.out))
      have Uh11 := Lib.hid (blk_below Uh10.out ((Below.refl w10.heap.size w10).alloc (Nat.le_refl _) (.cells #[.int .i64 p.office, .int .i64 p.since, .int .i64 p.till, .int .i64 p.litres, .int .i64 t1, .int .i64 t2] 27)) (blk_lt Uh10.out))
      clear cK0 cK1 cC0 cC1 cC2 cC3 cC4 cC5 cC6 cC7 cD0 cD1 cD2 cD3 cD4 cD5 cD6 cD7 cP0 cP1 cP2 cP3 cP4 cP5 cX0 cX1 cX2 cX3 cX4 cX5 cX6 cX7 cY0 cY1 cY2 cY3 cY4 cY5 cY6 cY7 cU0 cU1 cU2 cU3 cU4 cU5
      have ne_K_V : w.heap.size ≠ w10.heap.size := Nat.ne_of_lt (blk_lt Kh10.out)
      have ne_C_V : bC ≠ w10.heap.size := Nat.ne_of_lt (blk_lt Ch10.out)
      have ne_D_V : bD ≠ w10.heap.size := Nat.ne_of_lt (blk_lt Dh10.out)
      have ne_P_V : bP ≠ w10.heap.size := Nat.ne_of_lt (blk_lt Ph10.out)
      have ne_X_V : bX ≠ w10.heap.size := Nat.ne_of_lt (blk_lt Xh10.out)
      have ne_Y_V : bY ≠ w10.heap.size := Nat.ne_of_lt (blk_lt Yh10.out)
      have ne_U_V : bU ≠ w10.heap.size := Nat.ne_of_lt (blk_lt Uh10.out)
      have le_V : w.heap.size ≤ w10.heap.size := HB10.out.size
      clear HB10 Kh10 Ch10 Dh10 Ph10 Xh10 Yh10 Uh10
      generalize w10.heap.size = bV at *
      generalize w10.alloc (.cells #[.int .i64 p.office, .int .i64 p.since, .int .i64 p.till, .int .i64 p.litres, .int .i64 t1, .int .i64 t2] 27) = w11 at *
      have cK0 : w11.cell? ⟨w.heap.size, 0, none⟩ = some (.int .i64 x) := (cell_of_row _ _ _ _ _ _ Kh11.out).trans rfl
      have cK1 : w11.cell? ⟨w.heap.size, 1, none⟩ = some (.int .i64 y) := (cell_of_row _ _ _ _ _ _ Kh11.out).trans rfl
      have cC0 : w11.cell? ⟨bC, 0, none⟩ = some (.int .i64 c.office) := (cell_of_row _ _ _ _ _ _ Ch11.out).trans rfl
      have cC1 : w11.cell? ⟨bC, 1, none⟩ = some (.int .i64 c.hour) := (cell_of_row _ _ _ _ _ _ Ch11.out).trans rfl
      have cC2 : w11.cell? ⟨bC, 2, none⟩ = some (.int .i64 c.inn) := (cell_of_row _ _ _ _ _ _ Ch11.out).trans rfl
      have cC3 : w11.cell? ⟨bC, 3, none⟩ = some (.int .i64 c.out) := (cell_of_row _ _ _ _ _ _ Ch11.out).trans rfl
      have cC4 : w11.cell? ⟨bC, 4, none⟩ = some (.int .i64 c.store) := (cell_of_row _ _ _ _ _ _ Ch11.out).trans rfl
      have cC5 : w11.cell? ⟨bC, 5, none⟩ = some (.string c.prev) := (cell_of_row _ _ _ _ _ _ Ch11.out).trans rfl
      have cC6 : w11.cell? ⟨bC, 6, none⟩ = some (.int .i64 c.e) := (cell_of_row _ _ _ _ _ _ Ch11.out).trans rfl
      have cC7 : w11.cell? ⟨bC, 7, none⟩ = some (.int .i64 c.s) := (cell_of_row _ _ _ _ _ _ Ch11.out).trans rfl
      have cD0 : w11.cell? ⟨bD, 0, none⟩ = some (.int .i64 d.office) := (cell_of_row _ _ _ _ _ _ Dh11.out).trans rfl
      have cD1 : w11.cell? ⟨bD, 1, none⟩ = some (.int .i64 d.hour) := (cell_of_row _ _ _ _ _ _ Dh11.out).trans rfl
      have cD2 : w11.cell? ⟨bD, 2, none⟩ = some (.int .i64 d.inn) := (cell_of_row _ _ _ _ _ _ Dh11.out).trans rfl
      have cD3 : w11.cell? ⟨bD, 3, none⟩ = some (.int .i64 d.out) := (cell_of_row _ _ _ _ _ _ Dh11.out).trans rfl
      have cD4 : w11.cell? ⟨bD, 4, none⟩ = some (.int .i64 d.store) := (cell_of_row _ _ _ _ _ _ Dh11.out).trans rfl
      have cD5 : w11.cell? ⟨bD, 5, none⟩ = some (.string d.prev) := (cell_of_row _ _ _ _ _ _ Dh11.out).trans rfl
      have cD6 : w11.cell? ⟨bD, 6, none⟩ = some (.int .i64 d.e) := (cell_of_row _ _ _ _ _ _ Dh11.out).trans rfl
      have cD7 : w11.cell? ⟨bD, 7, none⟩ = some (.int .i64 d.s) := (cell_of_row _ _ _ _ _ _ Dh11.out).trans rfl
      have cP0 : w11.cell? ⟨bP, 0, none⟩ = some (.int .i64 p.office) := (cell_of_row _ _ _ _ _ _ Ph11.out).trans rfl
      have cP1 : w11.cell? ⟨bP, 1, none⟩ = some (.int .i64 p.since) := (cell_of_row _ _ _ _ _ _ Ph11.out).trans rfl
      have cP2 : w11.cell? ⟨bP, 2, none⟩ = some (.int .i64 p.till) := (cell_of_row _ _ _ _ _ _ Ph11.out).trans rfl
      have cP3 : w11.cell? ⟨bP, 3, none⟩ = some (.int .i64 p.litres) := (cell_of_row _ _ _ _ _ _ Ph11.out).trans rfl
      have cP4 : w11.cell? ⟨bP, 4, none⟩ = some (.int .i64 p.e) := (cell_of_row _ _ _ _ _ _ Ph11.out).trans rfl
      have cP5 : w11.cell? ⟨bP, 5, none⟩ = some (.int .i64 p.s) := (cell_of_row _ _ _ _ _ _ Ph11.out).trans rfl
      have cX0 : w11.cell? ⟨bX, 0, none⟩ = some (.int .i64 c.office) := (cell_of_row _ _ _ _ _ _ Xh11.out).trans rfl
      have cX1 : w11.cell? ⟨bX, 1, none⟩ = some (.int .i64 c.hour) := (cell_of_row _ _ _ _ _ _ Xh11.out).trans rfl
      have cX2 : w11.cell? ⟨bX, 2, none⟩ = some (.int .i64 c.inn) := (cell_of_row _ _ _ _ _ _ Xh11.out).trans rfl
      have cX3 : w11.cell? ⟨bX, 3, none⟩ = some (.int .i64 c.out) := (cell_of_row _ _ _ _ _ _ Xh11.out).trans rfl
      have cX4 : w11.cell? ⟨bX, 4, none⟩ = some (.int .i64 c.store) := (cell_of_row _ _ _ _ _ _ Xh11.out).trans rfl
      have cX5 : w11.cell? ⟨bX, 5, none⟩ = some (.string c.prev) := (cell_of_row _ _ _ _ _ _ Xh11.out).trans rfl
      have cX6 : w11.cell? ⟨bX, 6, none⟩ = some (.int .i64 g1) := (cell_of_row _ _ _ _ _ _ Xh11.out).trans rfl
      have cX7 : w11.cell? ⟨bX, 7, none⟩ = some (.int .i64 g2) := (cell_of_row _ _ _ _ _ _ Xh11.out).trans rfl
      have cY0 : w11.cell? ⟨bY, 0, none⟩ = some (.int .i64 c.office) := (cell_of_row _ _ _ _ _ _ Yh11.out).trans rfl
      have cY1 : w11.cell? ⟨bY, 1, none⟩ = some (.int .i64 c.hour) := (cell_of_row _ _ _ _ _ _ Yh11.out).trans rfl
      have cY2 : w11.cell? ⟨bY, 2, none⟩ = some (.int .i64 c.inn) := (cell_of_row _ _ _ _ _ _ Yh11.out).trans rfl
      have cY3 : w11.cell? ⟨bY, 3, none⟩ = some (.int .i64 c.out) := (cell_of_row _ _ _ _ _ _ Yh11.out).trans rfl
      have cY4 : w11.cell? ⟨bY, 4, none⟩ = some (.int .i64 c.store) := (cell_of_row _ _ _ _ _ _ Yh11.out).trans rfl
      have cY5 : w11.cell? ⟨bY, 5, none⟩ = some (.string c.prev) := (cell_of_row _ _ _ _ _ _ Yh11.out).trans rfl
      have cY6 : w11.cell? ⟨bY, 6, none⟩ = some (.int .i64 c.e) := (cell_of_row _ _ _ _ _ _ Yh11.out).trans rfl
      have cY7 : w11.cell? ⟨bY, 7, none⟩ = some (.int .i64 c.s) := (cell_of_row _ _ _ _ _ _ Yh11.out).trans rfl
      have cU0 : w11.cell? ⟨bU, 0, none⟩ = some (.int .i64 p.office) := (cell_of_row _ _ _ _ _ _ Uh11.out).trans rfl
      have cU1 : w11.cell? ⟨bU, 1, none⟩ = some (.int .i64 p.since) := (cell_of_row _ _ _ _ _ _ Uh11.out).trans rfl
      have cU2 : w11.cell? ⟨bU, 2, none⟩ = some (.int .i64 p.till) := (cell_of_row _ _ _ _ _ _ Uh11.out).trans rfl
      have cU3 : w11.cell? ⟨bU, 3, none⟩ = some (.int .i64 p.litres) := (cell_of_row _ _ _ _ _ _ Uh11.out).trans rfl
      have cU4 : w11.cell? ⟨bU, 4, none⟩ = some (.int .i64 t1) := (cell_of_row _ _ _ _ _ _ Uh11.out).trans rfl
      have cU5 : w11.cell? ⟨bU, 5, none⟩ = some (.int .i64 t2) := (cell_of_row _ _ _ _ _ _ Uh11.out).trans rfl
      have cV0 : w11.cell? ⟨bV, 0, none⟩ = some (.int .i64 p.office) := (cell_of_row _ _ _ _ _ _ Vh11.out).trans rfl
      have cV1 : w11.cell? ⟨bV, 1, none⟩ = some (.int .i64 p.since) := (cell_of_row _ _ _ _ _ _ Vh11.out).trans rfl
      have cV2 : w11.cell? ⟨bV, 2, none⟩ = some (.int .i64 p.till) := (cell_of_row _ _ _ _ _ _ Vh11.out).trans rfl
      have cV3 : w11.cell? ⟨bV, 3, none⟩ = some (.int .i64 p.litres) := (cell_of_row _ _ _ _ _ _ Vh11.out).trans rfl
      have cV4 : w11.cell? ⟨bV, 4, none⟩ = some (.int .i64 t1) := (cell_of_row _ _ _ _ _ _ Vh11.out).trans rfl
      have cV5 : w11.cell? ⟨bV, 5, none⟩ = some (.int .i64 t2) := (cell_of_row _ _ _ _ _ _ Vh11.out).trans rfl
      have z6 : w11.frozen? ⟨bV, 4, none⟩ = false := frozen_of_row _ _ _ _ _ Vh11.out
      have hm6 : (w11.setCell ⟨bV, 4, none⟩ (.int .i64 p.e)).heap[bV]? = some (.cells #[.int .i64 p.office, .int .i64 p.since, .int .i64 p.till, .int .i64 p.litres, .int .i64 p.e, .int .i64 t2] 27 (0, 0)) := (heap_setCell_same _ _ _ _ _ _ Vh11.out).trans rfl
      have d7 : (w11.setCell ⟨bV, 4, none⟩ (.int .i64 p.e)).cell? ⟨bV, 5, none⟩ = some (.int .i64 t2) := (cell_of_row _ _ _ _ _ _ hm6).trans rfl
      have z7 : (w11.setCell ⟨bV, 4, none⟩ (.int .i64 p.e)).frozen? ⟨bV, 5, none⟩ = false := frozen_of_row _ _ _ _ _ hm6
      go_upto_region 10 with fail
      have Vh12 : Hid (((w11.setCell ⟨bV, 4, none⟩ (.int .i64 p.e)).setCell ⟨bV, 5, none⟩ (.int .i64 p.s)).heap[bV]? = some (.cells #[.int .i64 p.office, .int .i64 p.since, .int .i64 p.till, .int .i64 p.litres, .int .i64 p.e, .int .i64 p.s] 27 (0, 0))) := Lib.hid ((heap_setCell_same _ _ _ _ _ _ hm6).trans rfl)
      have Kh12 : Hid (((w11.setCell ⟨bV, 4, none⟩ (.int .i64 p.e)).setCell ⟨bV, 5, none⟩ (.int .i64 p.s)).heap[w.heap.size]? = some (.cells #[.int .i64 x, .int .i64 y] 29)) := Lib.hid (((heap_setCell_other _ _ _ _ ne_K_V).trans (heap_setCell_other _ _ _ _ ne_K_V)).trans Kh11.out)
      have Ch12 : Hid (((w11.setCell ⟨bV, 4, none⟩ (.int .i64 p.e)).setCell ⟨bV, 5, none⟩ (.int .i64 p.s)).heap[bC]? = some (.cells #[.int .i64 c.office, .int .i64 c.hour, .int .i64 c.inn, .int .i64 c.out, .int .i64 c.store, .string c.prev, .int .i64 c.e, .int .i64 c.s] 25)) := Lib.hid (((heap_setCell_other _ _ _ _ ne_C_V).trans (heap_setCell_other _ _ _ _ ne_C_V)).trans Ch11.out)
      have Dh12 : Hid (((w11.setCell ⟨bV, 4, none⟩ (.int .i64 p.e)).setCell ⟨bV, 5, none⟩ (.int .i64 p.s)).heap[bD]? = some (.cells #[.int .i64 d.office, .int .i64 d.hour, .int .i64 d.inn, .int .i64 d.out, .int .i64 d.store, .string d.prev, .int .i64 d.e, .int .i64 d.s] 25)) := Lib.hid (((heap_setCell_other _ _ _ _ ne_D_V).trans (heap_setCell_other _ _ _ _ ne_D_V)).trans Dh11.out)
      have Ph12 : Hid (((w11.setCell ⟨bV, 4, none⟩ (.int .i64 p.e)).setCell ⟨bV, 5, none⟩ (.int .i64 p.s)).heap[bP]? = some (.cells #[.int .i64 p.office, .int .i64 p.since, .int .i64 p.till, .int .i64 p.litres, .int .i64 p.e, .int .i64 p.s] 27)) := Lib.hid (((heap_setCell_other _ _ _ _ ne_P_V).trans (heap_setCell_other _ _ _ _ ne_P_V)).trans Ph11.out)
      have Xh12 : Hid (((w11.setCell ⟨bV, 4, none⟩ (.int .i64 p.e)).setCell ⟨bV, 5, none⟩ (.int .i64 p.s)).heap[bX]? = some (.cells #[.int .i64 c.office, .int .i64 c.hour, .int .i64 c.inn, .int .i64 c.out, .int .i64 c.store, .string c.prev, .int .i64 g1, .int .i64 g2] 25)) := Lib.hid (((heap_setCell_other _ _ _ _ ne_X_V).trans (heap_setCell_other _ _ _ _ ne_X_V)).trans Xh11.out)
      have Yh12 : Hid (((w11.setCell ⟨bV, 4, none⟩ (.int .i64 p.e)).setCell ⟨bV, 5, none⟩ (.int .i64 p.s)).heap[bY]? = some (.cells #[.int .i64 c.office, .int .i64 c.hour, .int .i64 c.inn, .int .i64 c.out, .int .i64 c.store, .string c.prev, .int .i64 c.e, .int .i64 c.s] 25)) := Lib.hid (((heap_setCell_other _ _ _ _ ne_Y_V).trans (heap_setCell_other _ _ _ _ ne_Y_V)).trans Yh11.out)
      have Uh12 : Hid (((w11.setCell ⟨bV, 4, none⟩ (.int .i64 p.e)).setCell ⟨bV, 5, none⟩ (.int .i64 p.s)).heap[bU]? = some (.cells #[.int .i64 p.office, .int .i64 p.since, .int .i64 p.till, .int .i64 p.litres, .int .i64 t1, .int .i64 t2] 27)) := Lib.hid (((heap_setCell_other _ _ _ _ ne_U_V).trans (heap_setCell_other _ _ _ _ ne_U_V)).trans Uh11.out)
      have HB12 : Hid (Below w.heap.size w ((w11.setCell ⟨bV, 4, none⟩ (.int .i64 p.e)).setCell ⟨bV, 5, none⟩ (.int .i64 p.s))) := Lib.hid ((HB11.out.setCell le_V _).setCell le_V _)
      clear cK0 cK1 cC0 cC1 cC2 cC3 cC4 cC5 cC6 cC7 cD0 cD1 cD2 cD3 cD4 cD5 cD6 cD7 cP0 cP1 cP2 cP3 cP4 cP5 cX0 cX1 cX2 cX3 cX4 cX5 cX6 cX7 cY0 cY1 cY2 cY3 cY4 cY5 cY6 cY7 cU0 cU1 cU2 cU3 cU4 cU5 cV0 cV1 cV2 cV3 cV4 cV5
      clear z6 hm6 d7 z7 HB11 Kh11 Ch11 Dh11 Ph11 Xh11 Yh11 Uh11 Vh11
      generalize ((w11.setCell ⟨bV, 4, none⟩ (.int .i64 p.e)).setCell ⟨bV, 5, none⟩ (.int .i64 p.s)) = w12 at *
      have cK0 : w12.cell? ⟨w.heap.size, 0, none⟩ = some (.int .i64 x) := (cell_of_row _ _ _ _ _ _ Kh12.out).trans rfl
      have cK1 : w12.cell? ⟨w.heap.size, 1, none⟩ = some (.int .i64 y) := (cell_of_row _ _ _ _ _ _ Kh12.out).trans rfl
      have cC0 : w12.cell? ⟨bC, 0, none⟩ = some (.int .i64 c.office) := (cell_of_row _ _ _ _ _ _ Ch12.out).trans rfl
      have cC1 : w12.cell? ⟨bC, 1, none⟩ = some (.int .i64 c.hour) := (cell_of_row _ _ _ _ _ _ Ch12.out).trans rfl
      have cC2 : w12.cell? ⟨bC, 2, none⟩ = some (.int .i64 c.inn) := (cell_of_row _ _ _ _ _ _ Ch12.out).trans rfl
      have cC3 : w12.cell? ⟨bC, 3, none⟩ = some (.int .i64 c.out) := (cell_of_row _ _ _ _ _ _ Ch12.out).trans rfl
      have cC4 : w12.cell? ⟨bC, 4, none⟩ = some (.int .i64 c.store) := (cell_of_row _ _ _ _ _ _ Ch12.out).trans rfl
      have cC5 : w12.cell? ⟨bC, 5, none⟩ = some (.string c.prev) := (cell_of_row _ _ _ _ _ _ Ch12.out).trans rfl
      have cC6 : w12.cell? ⟨bC, 6, none⟩ = some (.int .i64 c.e) := (cell_of_row _ _ _ _ _ _ Ch12.out).trans rfl
      have cC7 : w12.cell? ⟨bC, 7, none⟩ = some (.int .i64 c.s) := (cell_of_row _ _ _ _ _ _ Ch12.out).trans rfl
      have cD0 : w12.cell? ⟨bD, 0, none⟩ = some (.int .i64 d.office) := (cell_of_row _ _ _ _ _ _ Dh12.out).trans rfl
      have cD1 : w12.cell? ⟨bD, 1, none⟩ = some (.int .i64 d.hour) := (cell_of_row _ _ _ _ _ _ Dh12.out).trans rfl
      have cD2 : w12.cell? ⟨bD, 2, none⟩ = some (.int .i64 d.inn) := (cell_of_row _ _ _ _ _ _ Dh12.out).trans rfl
      have cD3 : w12.cell? ⟨bD, 3, none⟩ = some (.int .i64 d.out) := (cell_of_row _ _ _ _ _ _ Dh12.out).trans rfl
      have cD4 : w12.cell? ⟨bD, 4, none⟩ = some (.int .i64 d.store) := (cell_of_row _ _ _ _ _ _ Dh12.out).trans rfl
      have cD5 : w12.cell? ⟨bD, 5, none⟩ = some (.string d.prev) := (cell_of_row _ _ _ _ _ _ Dh12.out).trans rfl
      have cD6 : w12.cell? ⟨bD, 6, none⟩ = some (.int .i64 d.e) := (cell_of_row _ _ _ _ _ _ Dh12.out).trans rfl
      have cD7 : w12.cell? ⟨bD, 7, none⟩ = some (.int .i64 d.s) := (cell_of_row _ _ _ _ _ _ Dh12.out).trans rfl
      have cP0 : w12.cell? ⟨bP, 0, none⟩ = some (.int .i64 p.office) := (cell_of_row _ _ _ _ _ _ Ph12.out).trans rfl
      have cP1 : w12.cell? ⟨bP, 1, none⟩ = some (.int .i64 p.since) := (cell_of_row _ _ _ _ _ _ Ph12.out).trans rfl
      have cP2 : w12.cell? ⟨bP, 2, none⟩ = some (.int .i64 p.till) := (cell_of_row _ _ _ _ _ _ Ph12.out).trans rfl
      have cP3 : w12.cell? ⟨bP, 3, none⟩ = some (.int .i64 p.litres) := (cell_of_row _ _ _ _ _ _ Ph12.out).trans rfl
      have cP4 : w12.cell? ⟨bP, 4, none⟩ = some (.int .i64 p.e) := (cell_of_row _ _ _ _ _ _ Ph12.out).trans rfl
      have cP5 : w12.cell? ⟨bP, 5, none⟩ = some (.int .i64 p.s) := (cell_of_row _ _ _ _ _ _ Ph12.out).trans rfl
      have cX0 : w12.cell? ⟨bX, 0, none⟩ = some (.int .i64 c.office) := (cell_of_row _ _ _ _ _ _ Xh12.out).trans rfl
      have cX1 : w12.cell? ⟨bX, 1, none⟩ = some (.int .i64 c.hour) := (cell_of_row _ _ _ _ _ _ Xh12.out).trans rfl
      have cX2 : w12.cell? ⟨bX, 2, none⟩ = some (.int .i64 c.inn) := (cell_of_row _ _ _ _ _ _ Xh12.out).trans rfl
      have cX3 : w12.cell? ⟨bX, 3, none⟩ = some (.int .i64 c.out) := (cell_of_row _ _ _ _ _ _ Xh12.out).trans rfl
      have cX4 : w12.cell? ⟨bX, 4, none⟩ = some (.int .i64 c.store) := (cell_of_row _ _ _ _ _ _ Xh12.out).trans rfl
      have cX5 : w12.cell? ⟨bX, 5, none⟩ = some (.string c.prev) := (cell_of_row _ _ _ _ _ _ Xh12.out).trans rfl
      have cX6 : w12.cell? ⟨bX, 6, none⟩ = some (.int .i64 g1) := (cell_of_row _ _ _ _ _ _ Xh12.out).trans rfl
      have cX7 : w12.cell? ⟨bX, 7, none⟩ = some (.int .i64 g2) := (cell_of_row _ _ _ _ _ _ Xh12.out).trans rfl
      have cY0 : w12.cell? ⟨bY, 0, none⟩ = some (.int .i64 c.office) := (cell_of_row _ _ _ _ _ _ Yh12.out).trans rfl
      have cY1 : w12.cell? ⟨bY, 1, none⟩ = some (.int .i64 c.hour) := (cell_of_row _ _ _ _ _ _ Yh12.out).trans rfl
      have cY2 : w12.cell? ⟨bY, 2, none⟩ = some (.int .i64 c.inn) := (cell_of_row _ _ _ _ _ _ Yh12.out).trans rfl
      have cY3 : w12.cell? ⟨bY, 3, none⟩ = some (.int .i64 c.out) := (cell_of_row _ _ _ _ _ _ Yh12.out).trans rfl
      have cY4 : w12.cell? ⟨bY, 4, none⟩ = some (.int .i64 c.store) := (cell_of_row _ _ _ _ _ _ Yh12.out).trans rfl
      have cY5 : w12.cell? ⟨bY, 5, none⟩ = some (.string c.prev) := (cell_of_row _ _ _ _ _ _ Yh12.out).trans rfl
      have cY6 : w12.cell? ⟨bY, 6, none⟩ = some (.int .i64 c.e) := (cell_of_row _ _ _ _ _ _ Yh12.out).trans rfl
      have cY7 : w12.cell? ⟨bY, 7, none⟩ = some (.int .i64 c.s) := (cell_of_row _ _ _ _ _ _ Yh12.out).trans rfl
      have cU0 : w12.cell? ⟨bU, 0, none⟩ = some (.int .i64 p.office) := (cell_of_row _ _ _ _ _ _ Uh12.out).trans rfl
      have cU1 : w12.cell? ⟨bU, 1, none⟩ = some (.int .i64 p.since) := (cell_of_row _ _ _ _ _ _ Uh12.out).trans rfl
      have cU2 : w12.cell? ⟨bU, 2, none⟩ = some (.int .i64 p.till) := (cell_of_row _ _ _ _ _ _ Uh12.out).trans rfl
      have cU3 : w12.cell? ⟨bU, 3, none⟩ = some (.int .i64 p.litres) := (cell_of_row _ _ _ _ _ _ Uh12.out).trans rfl
      have cU4 : w12.cell? ⟨bU, 4, none⟩ = some (.int .i64 t1) := (cell_of_row _ _ _ _ _ _ Uh12.out).trans rfl
      have cU5 : w12.cell? ⟨bU, 5, none⟩ = some (.int .i64 t2) := (cell_of_row _ _ _ _ _ _ Uh12.out).trans rfl
      have cV0 : w12.cell? ⟨bV, 0, none⟩ = some (.int .i64 p.office) := (cell_of_row _ _ _ _ _ _ Vh12.out).trans rfl
      have cV1 : w12.cell? ⟨bV, 1, none⟩ = some (.int .i64 p.since) := (cell_of_row _ _ _ _ _ _ Vh12.out).trans rfl
      have cV2 : w12.cell? ⟨bV, 2, none⟩ = some (.int .i64 p.till) := (cell_of_row _ _ _ _ _ _ Vh12.out).trans rfl
      have cV3 : w12.cell? ⟨bV, 3, none⟩ = some (.int .i64 p.litres) := (cell_of_row _ _ _ _ _ _ Vh12.out).trans rfl
      have cV4 : w12.cell? ⟨bV, 4, none⟩ = some (.int .i64 p.e) := (cell_of_row _ _ _ _ _ _ Vh12.out).trans rfl
      have cV5 : w12.cell? ⟨bV, 5, none⟩ = some (.int .i64 p.s) := (cell_of_row _ _ _ _ _ _ Vh12.out).trans rfl
      clear cK0 cK1 cC0 cC1 cC2 cC3 cC4 cC5 cC6 cC7 cD0 cD1 cD2 cD3 cD4 cD5 cD6 cD7 cP0 cP1 cP2 cP3 cP4 cP5 cX0 cX1 cX2 cX3 cX4 cX5 cX6 cX7 cY0 cY1 cY2 cY3 cY4 cY5 cY6 cY7 cU0 cU1 cU2 cU3 cU4 cU5 cV0 cV1 cV2 cV3 cV4 cV5
      have HS0 : Hid (w12.heap[w.heap.size]? = some (.cells #[.int .i64 x, .int .i64 y] 29) ∧ w12.heap[bC]? = some (.cells #[.int .i64 c.office, .int .i64 c.hour, .int .i64 c.inn, .int .i64 c.out, .int .i64 c.store, .string c.prev, .int .i64 c.e, .int .i64 c.s] 25) ∧ w12.heap[bD]? = some (.cells #[.int .i64 d.office, .int .i64 d.hour, .int .i64 d.inn, .int .i64 d.out, .int .i64 d.store, .string d.prev, .int .i64 d.e, .int .i64 d.s] 25) ∧ w12.heap[bP]? = some (.cells #[.int .i64 p.office, .int .i64 p.since, .int .i64 p.till, .int .i64 p.litres, .int .i64 p.e, .int .i64 p.s] 27) ∧ w12.heap[bX]? = some (.cells #[.int .i64 c.office, .int .i64 c.hour, .int .i64 c.inn, .int .i64 c.out, .int .i64 c.store, .string c.prev, .int .i64 g1, .int .i64 g2] 25) ∧ w12.heap[bY]? = some (.cells #[.int .i64 c.office, .int .i64 c.hour, .int .i64 c.inn, .int .i64 c.out, .int .i64 c.store, .string c.prev, .int .i64 c.e, .int .i64 c.s] 25) ∧ w12.heap[bU]? = some (.cells #[.int .i64 p.office, .int .i64 p.since, .int .i64 p.till, .int .i64 p.litres, .int .i64 t1, .int .i64 t2] 27) ∧ w12.heap[bV]? = some (.cells #[.int .i64 p.office, .int .i64 p.since, .int .i64 p.till, .int .i64 p.litres, .int .i64 p.e, .int .i64 p.s] 27) ∧ w12.cell? ⟨w.heap.size, 0, none⟩ = some (.int .i64 x) ∧ w12.cell? ⟨w.heap.size, 1, none⟩ = some (.int .i64 y) ∧ w12.cell? ⟨bC, 0, none⟩ = some (.int .i64 c.office) ∧ w12.cell? ⟨bC, 1, none⟩ = some (.int .i64 c.hour) ∧ w12.cell? ⟨bC, 2, none⟩ = some (.int .i64 c.inn) ∧ w12.cell? ⟨bC, 3, none⟩ = some (.int .i64 c.out) ∧ w12.cell? ⟨bC, 4, none⟩ = some (.int .i64 c.store) ∧ w12.cell? ⟨bC, 5, none⟩ = some (.string c.prev) ∧ w12.cell? ⟨bC, 6, none⟩ = some (.int .i64 c.e) ∧ w12.cell? ⟨bC, 7, none⟩ = some (.int .i64 c.s) ∧ w12.cell? ⟨bP, 0, none⟩ = some (.int .i64 p.office) ∧ w12.cell? ⟨bP, 1, none⟩ = some (.int .i64 p.since) ∧ w12.cell? ⟨bP, 2, none⟩ = some (.int .i64 p.till) ∧ w12.cell? ⟨bP, 3, none⟩ = some (.int .i64 p.litres) ∧ w12.cell? ⟨bP, 4, none⟩ = some (.int .i64 p.e) ∧ w12.cell? ⟨bP, 5, none⟩ = some (.int .i64 p.s) ∧ w12.cell? ⟨bX, 0, none⟩ = some (.int .i64 c.office) ∧ w12.cell? ⟨bX, 1, none⟩ = some (.int .i64 c.hour) ∧ w12.cell? ⟨bX, 2, none⟩ = some (.int .i64 c.inn) ∧ w12.cell? ⟨bX, 3, none⟩ = some (.int .i64 c.out) ∧ w12.cell? ⟨bX, 4, none⟩ = some (.int .i64 c.store) ∧ w12.cell? ⟨bX, 5, none⟩ = some (.string c.prev) ∧ w12.cell? ⟨bX, 6, none⟩ = some (.int .i64 g1) ∧ w12.cell? ⟨bX, 7, none⟩ = some (.int .i64 g2) ∧ w12.cell? ⟨bY, 0, none⟩ = some (.int .i64 c.office) ∧ w12.cell? ⟨bY, 1, none⟩ = some (.int .i64 c.hour) ∧ w12.cell? ⟨bY, 2, none⟩ = some (.int .i64 c.inn) ∧ w12.cell? ⟨bY, 3, none⟩ = some (.int .i64 c.out) ∧ w12.cell? ⟨bY, 4, none⟩ = some (.int .i64 c.store) ∧ w12.cell? ⟨bY, 5, none⟩ = some (.string c.prev) ∧ w12.cell? ⟨bY, 6, none⟩ = some (.int .i64 c.e) ∧ w12.cell? ⟨bY, 7, none⟩ = some (.int .i64 c.s) ∧ w12.cell? ⟨bU, 0, none⟩ = some (.int .i64 p.office) ∧ w12.cell? ⟨bU, 1, none⟩ = some (.int .i64 p.since) ∧ w12.cell? ⟨bU, 2, none⟩ = some (.int .i64 p.till) ∧ w12.cell? ⟨bU, 3, none⟩ = some (.int .i64 p.litres) ∧ w12.cell? ⟨bU, 4, none⟩ = some (.int .i64 t1) ∧ w12.cell? ⟨bU, 5, none⟩ = some (.int .i64 t2) ∧ w12.cell? ⟨bV, 0, none⟩ = some (.int .i64 p.office) ∧ w12.cell? ⟨bV, 1, none⟩ = some (.int .i64 p.since) ∧ w12.cell? ⟨bV, 2, none⟩ = some (.int .i64 p.till) ∧ w12.cell? ⟨bV, 3, none⟩ = some (.int .i64 p.litres) ∧ w12.cell? ⟨bV, 4, none⟩ = some (.int .i64 p.e) ∧ w12.cell? ⟨bV, 5, none⟩ = some (.int .i64 p.s) ∧ Below w.heap.size w w12) := Lib.hid ⟨Kh12.out, Ch12.out, Dh12.out, Ph12.out, Xh12.out, Yh12.out, Uh12.out, Vh12.out, (cell_of_row _ _ _ _ _ _ Kh12.out).trans rfl, (cell_of_row _ _ _ _ _ _ Kh12.out).trans rfl, (cell_of_row _ _ _ _ _ _ Ch12.out).trans rfl, (cell_of_row _ _ _ _ _ _ Ch12.out).trans rfl, (cell_of_row _ _ _ _ _ _ Ch12.out).trans rfl, (cell_of_row _ _ _ _ _ _ Ch12.out).trans rfl, (cell_of_row _ _ _ _ _ _ Ch12.out).trans rfl, (cell_of_row _ _ _ _ _ _ Ch12.out).trans rfl, (cell_of_row _ _ _ _ _ _ Ch12.out).trans rfl, (cell_of_row _ _ _ _ _ _ Ch12.out).trans rfl, (cell_of_row _ _ _ _ _ _ Ph12.out).trans rfl, (cell_of_row _ _ _ _ _ _ Ph12.out).trans rfl, (cell_of_row _ _ _ _ _ _ Ph12.out).trans rfl, (cell_of_row _ _ _ _ _ _ Ph12.out).trans rfl, (cell_of_row _ _ _ _ _ _ Ph12.out).trans rfl, (cell_of_row _ _ _ _ _ _ Ph12.out).trans rfl, (cell_of_row _ _ _ _ _ _ Xh12.out).trans rfl, (cell_of_row _ _ _ _ _ _ Xh12.out).trans rfl, (cell_of_row _ _ _ _ _ _ Xh12.out).trans rfl, (cell_of_row _ _ _ _ _ _ Xh12.out).trans rfl, (cell_of_row _ _ _ _ _ _ Xh12.out).trans rfl, (cell_of_row _ _ _ _ _ _ Xh12.out).trans rfl, (cell_of_row _ _ _ _ _ _ Xh12.out).trans rfl, (cell_of_row _ _ _ _ _ _ Xh12.out).trans rfl, (cell_of_row _ _ _ _ _ _ Yh12.out).trans rfl, (cell_of_row _ _ _ _ _ _ Yh12.out).trans rfl, (cell_of_row _ _ _ _ _ _ Yh12.out).trans rfl, (cell_of_row _ _ _ _ _ _ Yh12.out).trans rfl, (cell_of_row _ _ _ _ _ _ Yh12.out).trans rfl, (cell_of_row _ _ _ _ _ _ Yh12.out).trans rfl, (cell_of_row _ _ _ _ _ _ Yh12.out).trans rfl, (cell_of_row _ _ _ _ _ _ Yh12.out).trans rfl, (cell_of_row _ _ _ _ _ _ Uh12.out).trans rfl, (cell_of_row _ _ _ _ _ _ Uh12.out).trans rfl, (cell_of_row _ _ _ _ _ _ Uh12.out).trans rfl, (cell_of_row _ _ _ _ _ _ Uh12.out).trans rfl, (cell_of_row _ _ _ _ _ _ Uh12.out).trans rfl, (cell_of_row _ _ _ _ _ _ Uh12.out).trans rfl, (cell_of_row _ _ _ _ _ _ Vh12.out).trans rfl, (cell_of_row _ _ _ _ _ _ Vh12.out).trans rfl, (cell_of_row _ _ _ _ _ _ Vh12.out).trans rfl, (cell_of_row _ _ _ _ _ _ Vh12.out).trans rfl, (cell_of_row _ _ _ _ _ _ Vh12.out).trans rfl, (cell_of_row _ _ _ _ _ _ Vh12.out).trans rfl, HB12.out⟩
      clear Kh12 Ch12 Dh12 Ph12 Xh12 Yh12 Uh12 Vh12 HB12
      go_region_held3 (fun w' => w'.heap[w.heap.size]? = some (.cells #[.int .i64 x, .int .i64 y] 29) ∧ w'.heap[bC]? = some (.cells #[.int .i64 c.office, .int .i64 c.hour, .int .i64 c.inn, .int .i64 c.out, .int .i64 c.store, .string c.prev, .int .i64 c.e, .int .i64 c.s] 25) ∧ w'.heap[bD]? = some (.cells #[.int .i64 d.office, .int .i64 d.hour, .int .i64 d.inn, .int .i64 d.out, .int .i64 d.store, .string d.prev, .int .i64 d.e, .int .i64 d.s] 25) ∧ w'.heap[bP]? = some (.cells #[.int .i64 p.office, .int .i64 p.since, .int .i64 p.till, .int .i64 p.litres, .int .i64 p.e, .int .i64 p.s] 27) ∧ w'.heap[bX]? = some (.cells #[.int .i64 c.office, .int .i64 c.hour, .int .i64 c.inn, .int .i64 c.out, .int .i64 c.store, .string c.prev, .int .i64 g1, .int .i64 g2] 25) ∧ w'.heap[bY]? = some (.cells #[.int .i64 c.office, .int .i64 c.hour, .int .i64 c.inn, .int .i64 c.out, .int .i64 c.store, .string c.prev, .int .i64 c.e, .int .i64 c.s] 25) ∧ w'.heap[bU]? = some (.cells #[.int .i64 p.office, .int .i64 p.since, .int .i64 p.till, .int .i64 p.litres, .int .i64 t1, .int .i64 t2] 27) ∧ w'.heap[bV]? = some (.cells #[.int .i64 p.office, .int .i64 p.since, .int .i64 p.till, .int .i64 p.litres, .int .i64 p.e, .int .i64 p.s] 27) ∧ w'.cell? ⟨w.heap.size, 0, none⟩ = some (.int .i64 x) ∧ w'.cell? ⟨w.heap.size, 1, none⟩ = some (.int .i64 y) ∧ w'.cell? ⟨bC, 0, none⟩ = some (.int .i64 c.office) ∧ w'.cell? ⟨bC, 1, none⟩ = some (.int .i64 c.hour) ∧ w'.cell? ⟨bC, 2, none⟩ = some (.int .i64 c.inn) ∧ w'.cell? ⟨bC, 3, none⟩ = some (.int .i64 c.out) ∧ w'.cell? ⟨bC, 4, none⟩ = some (.int .i64 c.store) ∧ w'.cell? ⟨bC, 5, none⟩ = some (.string c.prev) ∧ w'.cell? ⟨bC, 6, none⟩ = some (.int .i64 c.e) ∧ w'.cell? ⟨bC, 7, none⟩ = some (.int .i64 c.s) ∧ w'.cell? ⟨bP, 0, none⟩ = some (.int .i64 p.office) ∧ w'.cell? ⟨bP, 1, none⟩ = some (.int .i64 p.since) ∧ w'.cell? ⟨bP, 2, none⟩ = some (.int .i64 p.till) ∧ w'.cell? ⟨bP, 3, none⟩ = some (.int .i64 p.litres) ∧ w'.cell? ⟨bP, 4, none⟩ = some (.int .i64 p.e) ∧ w'.cell? ⟨bP, 5, none⟩ = some (.int .i64 p.s) ∧ w'.cell? ⟨bX, 0, none⟩ = some (.int .i64 c.office) ∧ w'.cell? ⟨bX, 1, none⟩ = some (.int .i64 c.hour) ∧ w'.cell? ⟨bX, 2, none⟩ = some (.int .i64 c.inn) ∧ w'.cell? ⟨bX, 3, none⟩ = some (.int .i64 c.out) ∧ w'.cell? ⟨bX, 4, none⟩ = some (.int .i64 c.store) ∧ w'.cell? ⟨bX, 5, none⟩ = some (.string c.prev) ∧ w'.cell? ⟨bX, 6, none⟩ = some (.int .i64 g1) ∧ w'.cell? ⟨bX, 7, none⟩ = some (.int .i64 g2) ∧ w'.cell? ⟨bY, 0, none⟩ = some (.int .i64 c.office) ∧ w'.cell? ⟨bY, 1, none⟩ = some (.int .i64 c.hour) ∧ w'.cell? ⟨bY, 2, none⟩ = some (.int .i64 c.inn) ∧ w'.cell? ⟨bY, 3, none⟩ = some (.int .i64 c.out) ∧ w'.cell? ⟨bY, 4, none⟩ = some (.int .i64 c.store) ∧ w'.cell? ⟨bY, 5, none⟩ = some (.string c.prev) ∧ w'.cell? ⟨bY, 6, none⟩ = some (.int .i64 c.e) ∧ w'.cell? ⟨bY, 7, none⟩ = some (.int .i64 c.s) ∧ w'.cell? ⟨bU, 0, none⟩ = some (.int .i64 p.office) ∧ w'.cell? ⟨bU, 1, none⟩ = some (.int .i64 p.since) ∧ w'.cell? ⟨bU, 2, none⟩ = some (.int .i64 p.till) ∧ w'.cell? ⟨bU, 3, none⟩ = some (.int .i64 p.litres) ∧ w'.cell? ⟨bU, 4, none⟩ = some (.int .i64 t1) ∧ w'.cell? ⟨bU, 5, none⟩ = some (.int .i64 t2) ∧ w'.cell? ⟨bV, 0, none⟩ = some (.int .i64 p.office) ∧ w'.cell? ⟨bV, 1, none⟩ = some (.int .i64 p.since) ∧ w'.cell? ⟨bV, 2, none⟩ = some (.int .i64 p.till) ∧ w'.cell? ⟨bV, 3, none⟩ = some (.int .i64 p.litres) ∧ w'.cell? ⟨bV, 4, none⟩ = some (.int .i64 p.e) ∧ w'.cell? ⟨bV, 5, none⟩ = some (.int .i64 p.s) ∧ Below w.heap.size w w') (first | assumption | exact HS0.out | exact signs_step (by assumption) hb | exact signs_stepN (by assumption) _ | exact signs_stepA (by assumption) | exact signs_stepU (by assumption) | exact signs_stepN (signs_stepU (by assumption)) _) ((first | (go_at_call 22; refine (HF.out.verx _ (HG.out.below (show _ ∧ _ ∧ _ ∧ _ ∧ _ ∧ _ ∧ _ ∧ _ ∧ _ ∧ _ ∧ _ ∧ _ ∧ _ ∧ _ ∧ _ ∧ _ ∧ _ ∧ _ ∧ _ ∧ _ ∧ _ ∧ _ ∧ _ ∧ _ ∧ _ ∧ _ ∧ _ ∧ _ ∧ _ ∧ _ ∧ _ ∧ _ ∧ _ ∧ _ ∧ _ ∧ _ ∧ _ ∧ _ ∧ _ ∧ _ ∧ _ ∧ _ ∧ _ ∧ _ ∧ _ ∧ _ ∧ _ ∧ _ ∧ _ ∧ _ ∧ _ ∧ _ ∧ Below w.heap.size w _ by assumption).2.2.2.2.2.2.2.2.2.2.2.2.2.2.2.2.2.2.2.2.2.2.2.2.2.2.2.2.2.2.2.2.2.2.2.2.2.2.2.2.2.2.2.2.2.2.2.2.2.2.2.2 HG.out.size) (HM.out.up (show _ ∧ _ ∧ _ ∧ _ ∧ _ ∧ _ ∧ _ ∧ _ ∧ _ ∧ _ ∧ _ ∧ _ ∧ _ ∧ _ ∧ _ ∧ _ ∧ _ ∧ _ ∧ _ ∧ _ ∧ _ ∧ _ ∧ _ ∧ _ ∧ _ ∧ _ ∧ _ ∧ _ ∧ _ ∧ _ ∧ _ ∧ _ ∧ _ ∧ _ ∧ _ ∧ _ ∧ _ ∧ _ ∧ _ ∧ _ ∧ _ ∧ _ ∧ _ ∧ _ ∧ _ ∧ _ ∧ _ ∧ _ ∧ _ ∧ _ ∧ _ ∧ _ ∧ Below w.heap.size w _ by assumption).2.2.2.2.2.2.2.2.2.2.2.2.2.2.2.2.2.2.2.2.2.2.2.2.2.2.2.2.2.2.2.2.2.2.2.2.2.2.2.2.2.2.2.2.2.2.2.2.2.2.2.2)).mono ?_; rintro e w' ⟨rfl, hb⟩) | (go_at_call 26; refine (HF.out.pver _ (HG.out.below (show _ ∧ _ ∧ _ ∧ _ ∧ _ ∧ _ ∧ _ ∧ _ ∧ _ ∧ _ ∧ _ ∧ _ ∧ _ ∧ _ ∧ _ ∧ _ ∧ _ ∧ _ ∧ _ ∧ _ ∧ _ ∧ _ ∧ _ ∧ _ ∧ _ ∧ _ ∧ _ ∧ _ ∧ _ ∧ _ ∧ _ ∧ _ ∧ _ ∧ _ ∧ _ ∧ _ ∧ _ ∧ _ ∧ _ ∧ _ ∧ _ ∧ _ ∧ _ ∧ _ ∧ _ ∧ _ ∧ _ ∧ _ ∧ _ ∧ _ ∧ _ ∧ _ ∧ Below w.heap.size w _ by assumption).2.2.2.2.2.2.2.2.2.2.2.2.2.2.2.2.2.2.2.2.2.2.2.2.2.2.2.2.2.2.2.2.2.2.2.2.2.2.2.2.2.2.2.2.2.2.2.2.2.2.2.2 HG.out.size) (HM.out.up (show _ ∧ _ ∧ _ ∧ _ ∧ _ ∧ _ ∧ _ ∧ _ ∧ _ ∧ _ ∧ _ ∧ _ ∧ _ ∧ _ ∧ _ ∧ _ ∧ _ ∧ _ ∧ _ ∧ _ ∧ _ ∧ _ ∧ _ ∧ _ ∧ _ ∧ _ ∧ _ ∧ _ ∧ _ ∧ _ ∧ _ ∧ _ ∧ _ ∧ _ ∧ _ ∧ _ ∧ _ ∧ _ ∧ _ ∧ _ ∧ _ ∧ _ ∧ _ ∧ _ ∧ _ ∧ _ ∧ _ ∧ _ ∧ _ ∧ _ ∧ _ ∧ _ ∧ Below w.heap.size w _ by assumption).2.2.2.2.2.2.2.2.2.2.2.2.2.2.2.2.2.2.2.2.2.2.2.2.2.2.2.2.2.2.2.2.2.2.2.2.2.2.2.2.2.2.2.2.2.2.2.2.2.2.2.2)).mono ?_; rintro e w' ⟨rfl, hb⟩) | (go_at_call 12; refine (HF.out.core _ _ _ _ _ _ _ _ (by first | exact okc | exact okd) (by first | exact ig1 | exact ic1) (by first | exact ig2 | exact ic2) _ (HM.out.up (show _ ∧ _ ∧ _ ∧ _ ∧ _ ∧ _ ∧ _ ∧ _ ∧ _ ∧ _ ∧ _ ∧ _ ∧ _ ∧ _ ∧ _ ∧ _ ∧ _ ∧ _ ∧ _ ∧ _ ∧ _ ∧ _ ∧ _ ∧ _ ∧ _ ∧ _ ∧ _ ∧ _ ∧ _ ∧ _ ∧ _ ∧ _ ∧ _ ∧ _ ∧ _ ∧ _ ∧ _ ∧ _ ∧ _ ∧ _ ∧ _ ∧ _ ∧ _ ∧ _ ∧ _ ∧ _ ∧ _ ∧ _ ∧ _ ∧ _ ∧ _ ∧ _ ∧ Below w.heap.size w _ by assumption).2.2.2.2.2.2.2.2.2.2.2.2.2.2.2.2.2.2.2.2.2.2.2.2.2.2.2.2.2.2.2.2.2.2.2.2.2.2.2.2.2.2.2.2.2.2.2.2.2.2.2.2)).mono ?_; rintro e w' ⟨rfl, hb⟩)))
      rename World => w13
      rename _ ∧ _ => hFin
      obtain ⟨qK, qC, qD, qP, qX, qY, qU, qV, -, -, -, -, -, -, -, -, -, -, -, -, -, -, -, -, -, -, -, -, -, -, -, -, -, -, -, -, -, -, -, -, -, -, -, -, -, -, -, -, -, -, -, -, qBel⟩ := hFin
      have Kh13 := Lib.hid qK
      have Ch13 := Lib.hid qC
      have Dh13 := Lib.hid qD
      have Ph13 := Lib.hid qP
      have Xh13 := Lib.hid qX
      have Yh13 := Lib.hid qY
      have Uh13 := Lib.hid qU
      have Vh13 := Lib.hid qV
      have HB13 := Lib.hid qBel
      clear HS0 qBel qK qC qD qP qX qY qU qV
      have cK0 : w13.cell? ⟨w.heap.size, 0, none⟩ = some (.int .i64 x) := (cell_of_row _ _ _ _ _ _ Kh13.out).trans rfl
      have cK1 : w13.cell? ⟨w.heap.size, 1, none⟩ = some (.int .i64 y) := (cell_of_row _ _ _ _ _ _ Kh13.out).trans rfl
      have cC0 : w13.cell? ⟨bC, 0, none⟩ = some (.int .i64 c.office) := (cell_of_row _ _ _ _ _ _ Ch13.out).trans rfl
      have cC1 : w13.cell? ⟨bC, 1, none⟩ = some (.int .i64 c.hour) := (cell_of_row _ _ _ _ _ _ Ch13.out).trans rfl
      have cC2 : w13.cell? ⟨bC, 2, none⟩ = some (.int .i64 c.inn) := (cell_of_row _ _ _ _ _ _ Ch13.out).trans rfl
      have cC3 : w13.cell? ⟨bC, 3, none⟩ = some (.int .i64 c.out) := (cell_of_row _ _ _ _ _ _ Ch13.out).trans rfl
      have cC4 : w13.cell? ⟨bC, 4, none⟩ = some (.int .i64 c.store) := (cell_of_row _ _ _ _ _ _ Ch13.out).trans rfl
      have cC5 : w13.cell? ⟨bC, 5, none⟩ = some (.string c.prev) := (cell_of_row _ _ _ _ _ _ Ch13.out).trans rfl
      have cC6 : w13.cell? ⟨bC, 6, none⟩ = some (.int .i64 c.e) := (cell_of_row _ _ _ _ _ _ Ch13.out).trans rfl
      have cC7 : w13.cell? ⟨bC, 7, none⟩ = some (.int .i64 c.s) := (cell_of_row _ _ _ _ _ _ Ch13.out).trans rfl
      have cD0 : w13.cell? ⟨bD, 0, none⟩ = some (.int .i64 d.office) := (cell_of_row _ _ _ _ _ _ Dh13.out).trans rfl
      have cD1 : w13.cell? ⟨bD, 1, none⟩ = some (.int .i64 d.hour) := (cell_of_row _ _ _ _ _ _ Dh13.out).trans rfl
      have cD2 : w13.cell? ⟨bD, 2, none⟩ = some (.int .i64 d.inn) := (cell_of_row _ _ _ _ _ _ Dh13.out).trans rfl
      have cD3 : w13.cell? ⟨bD, 3, none⟩ = some (.int .i64 d.out) := (cell_of_row _ _ _ _ _ _ Dh13.out).trans rfl
      have cD4 : w13.cell? ⟨bD, 4, none⟩ = some (.int .i64 d.store) := (cell_of_row _ _ _ _ _ _ Dh13.out).trans rfl
      have cD5 : w13.cell? ⟨bD, 5, none⟩ = some (.string d.prev) := (cell_of_row _ _ _ _ _ _ Dh13.out).trans rfl
      have cD6 : w13.cell? ⟨bD, 6, none⟩ = some (.int .i64 d.e) := (cell_of_row _ _ _ _ _ _ Dh13.out).trans rfl
      have cD7 : w13.cell? ⟨bD, 7, none⟩ = some (.int .i64 d.s) := (cell_of_row _ _ _ _ _ _ Dh13.out).trans rfl
      have cP0 : w13.cell? ⟨bP, 0, none⟩ = some (.int .i64 p.office) := (cell_of_row _ _ _ _ _ _ Ph13.out).trans rfl
      have cP1 : w13.cell? ⟨bP, 1, none⟩ = some (.int .i64 p.since) := (cell_of_row _ _ _ _ _ _ Ph13.out).trans rfl
      have cP2 : w13.cell? ⟨bP, 2, none⟩ = some (.int .i64 p.till) := (cell_of_row _ _ _ _ _ _ Ph13.out).trans rfl
      have cP3 : w13.cell? ⟨bP, 3, none⟩ = some (.int .i64 p.litres) := (cell_of_row _ _ _ _ _ _ Ph13.out).trans rfl
      have cP4 : w13.cell? ⟨bP, 4, none⟩ = some (.int .i64 p.e) := (cell_of_row _ _ _ _ _ _ Ph13.out).trans rfl
      have cP5 : w13.cell? ⟨bP, 5, none⟩ = some (.int .i64 p.s) := (cell_of_row _ _ _ _ _ _ Ph13.out).trans rfl
      have cX0 : w13.cell? ⟨bX, 0, none⟩ = some (.int .i64 c.office) := (cell_of_row _ _ _ _ _ _ Xh13.out).trans rfl
      have cX1 : w13.cell? ⟨bX, 1, none⟩ = some (.int .i64 c.hour) := (cell_of_row _ _ _ _ _ _ Xh13.out).trans rfl
      have cX2 : w13.cell? ⟨bX, 2, none⟩ = some (.int .i64 c.inn) := (cell_of_row _ _ _ _ _ _ Xh13.out).trans rfl
      have cX3 : w13.cell? ⟨bX, 3, none⟩ = some (.int .i64 c.out) := (cell_of_row _ _ _ _ _ _ Xh13.out).trans rfl
      have cX4 : w13.cell? ⟨bX, 4, none⟩ = some (.int .i64 c.store) := (cell_of_row _ _ _ _ _ _ Xh13.out).trans rfl
      have cX5 : w13.cell? ⟨bX, 5, none⟩ = some (.string c.prev) := (cell_of_row _ _ _ _ _ _ Xh13.out).trans rfl
      have cX6 : w13.cell? ⟨bX, 6, none⟩ = some (.int .i64 g1) := (cell_of_row _ _ _ _ _ _ Xh13.out).trans rfl
      have cX7 : w13.cell? ⟨bX, 7, none⟩ = some (.int .i64 g2) := (cell_of_row _ _ _ _ _ _ Xh13.out).trans rfl
      have cY0 : w13.cell? ⟨bY, 0, none⟩ = some (.int .i64 c.office) := (cell_of_row _ _ _ _ _ _ Yh13.out).trans rfl
      have cY1 : w13.cell? ⟨bY, 1, none⟩ = some (.int .i64 c.hour) := (cell_of_row _ _ _ _ _ _ Yh13.out).trans rfl
      have cY2 : w13.cell? ⟨bY, 2, none⟩ = some (.int .i64 c.inn) := (cell_of_row _ _ _ _ _ _ Yh13.out).trans rfl
      have cY3 : w13.cell? ⟨bY, 3, none⟩ = some (.int .i64 c.out) := (cell_of_row _ _ _ _ _ _ Yh13.out).trans rfl
      have cY4 : w13.cell? ⟨bY, 4, none⟩ = some (.int .i64 c.store) := (cell_of_row _ _ _ _ _ _ Yh13.out).trans rfl
      have cY5 : w13.cell? ⟨bY, 5, none⟩ = some (.string c.prev) := (cell_of_row _ _ _ _ _ _ Yh13.out).trans rfl
      have cY6 : w13.cell? ⟨bY, 6, none⟩ = some (.int .i64 c.e) := (cell_of_row _ _ _ _ _ _ Yh13.out).trans rfl
      have cY7 : w13.cell? ⟨bY, 7, none⟩ = some (.int .i64 c.s) := (cell_of_row _ _ _ _ _ _ Yh13.out).trans rfl
      have cU0 : w13.cell? ⟨bU, 0, none⟩ = some (.int .i64 p.office) := (cell_of_row _ _ _ _ _ _ Uh13.out).trans rfl
      have cU1 : w13.cell? ⟨bU, 1, none⟩ = some (.int .i64 p.since) := (cell_of_row _ _ _ _ _ _ Uh13.out).trans rfl
      have cU2 : w13.cell? ⟨bU, 2, none⟩ = some (.int .i64 p.till) := (cell_of_row _ _ _ _ _ _ Uh13.out).trans rfl
      have cU3 : w13.cell? ⟨bU, 3, none⟩ = some (.int .i64 p.litres) := (cell_of_row _ _ _ _ _ _ Uh13.out).trans rfl
      have cU4 : w13.cell? ⟨bU, 4, none⟩ = some (.int .i64 t1) := (cell_of_row _ _ _ _ _ _ Uh13.out).trans rfl
      have cU5 : w13.cell? ⟨bU, 5, none⟩ = some (.int .i64 t2) := (cell_of_row _ _ _ _ _ _ Uh13.out).trans rfl
      have cV0 : w13.cell? ⟨bV, 0, none⟩ = some (.int .i64 p.office) := (cell_of_row _ _ _ _ _ _ Vh13.out).trans rfl
      have cV1 : w13.cell? ⟨bV, 1, none⟩ = some (.int .i64 p.since) := (cell_of_row _ _ _ _ _ _ Vh13.out).trans rfl
      have cV2 : w13.cell? ⟨bV, 2, none⟩ = some (.int .i64 p.till) := (cell_of_row _ _ _ _ _ _ Vh13.out).trans rfl
      have cV3 : w13.cell? ⟨bV, 3, none⟩ = some (.int .i64 p.litres) := (cell_of_row _ _ _ _ _ _ Vh13.out).trans rfl
      have cV4 : w13.cell? ⟨bV, 4, none⟩ = some (.int .i64 p.e) := (cell_of_row _ _ _ _ _ _ Vh13.out).trans rfl
      have cV5 : w13.cell? ⟨bV, 5, none⟩ = some (.int .i64 p.s) := (cell_of_row _ _ _ _ _ _ Vh13.out).trans rfl
      have z6 : w13.frozen? ⟨bD, 6, none⟩ = false := frozen_of_row _ _ _ _ _ Dh13.out
      have hm6 : (w13.setCell ⟨bD, 6, none⟩ (.int .i64 g1)).heap[bD]? = some (.cells #[.int .i64 d.office, .int .i64 d.hour, .int .i64 d.inn, .int .i64 d.out, .int .i64 d.store, .string d.prev, .int .i64 g1, .int .i64 d.s] 25 (0, 0)) := (heap_setCell_same _ _ _ _ _ _ Dh13.out).trans rfl
      have d7 : (w13.setCell ⟨bD, 6, none⟩ (.int .i64 g1)).cell? ⟨bD, 7, none⟩ = some (.int .i64 d.s) := (cell_of_row _ _ _ _ _ _ hm6).trans rfl
      have z7 : (w13.setCell ⟨bD, 6, none⟩ (.int .i64 g1)).frozen? ⟨bD, 7, none⟩ = false := frozen_of_row _ _ _ _ _ hm6
      go_upto_region 13 with fail
      have Dh14 : Hid (((w13.setCell ⟨bD, 6, none⟩ (.int .i64 g1)).setCell ⟨bD, 7, none⟩ (.int .i64 g2)).heap[bD]? = some (.cells #[.int .i64 d.office, .int .i64 d.hour, .int .i64 d.inn, .int .i64 d.out, .int .i64 d.store, .string d.prev, .int .i64 g1, .int .i64 g2] 25 (0, 0))) := Lib.hid ((heap_setCell_same _ _ _ _ _ _ hm6).trans rfl)
      have Kh14 : Hid (((w13.setCell ⟨bD, 6, none⟩ (.int .i64 g1)).setCell ⟨bD, 7, none⟩ (.int .i64 g2)).heap[w.heap.size]? = some (.cells #[.int .i64 x, .int .i64 y] 29)) := Lib.hid (((heap_setCell_other _ _ _ _ ne_K_D).trans (heap_setCell_other _ _ _ _ ne_K_D)).trans Kh13.out)
      have Ch14 : Hid (((w13.setCell ⟨bD, 6, none⟩ (.int .i64 g1)).setCell ⟨bD, 7, none⟩ (.int .i64 g2)).heap[bC]? = some (.cells #[.int .i64 c.office, .int .i64 c.hour, .int .i64 c.inn, .int .i64 c.out, .int .i64 c.store, .string c.prev, .int .i64 c.e, .int .i64 c.s] 25)) := Lib.hid (((heap_setCell_other _ _ _ _ ne_C_D).trans (heap_setCell_other _ _ _ _ ne_C_D)).trans Ch13.out)
      have Ph14 : Hid (((w13.setCell ⟨bD, 6, none⟩ (.int .i64 g1)).setCell ⟨bD, 7, none⟩ (.int .i64 g2)).heap[bP]? = some (.cells #[.int .i64 p.office, .int .i64 p.since, .int .i64 p.till, .int .i64 p.litres, .int .i64 p.e, .int .i64 p.s] 27)) := Lib.hid (((heap_setCell_other _ _ _ _ ne_D_P.symm).trans (heap_setCell_other _ _ _ _ ne_D_P.symm)).trans Ph13.out)
      have Xh14 : Hid (((w13.setCell ⟨bD, 6, none⟩ (.int .i64 g1)).setCell ⟨bD, 7, none⟩ (.int .i64 g2)).heap[bX]? = some (.cells #[.int .i64 c.office, .int .i64 c.hour, .int .i64 c.inn, .int .i64 c.out, .int .i64 c.store, .string c.prev, .int .i64 g1, .int .i64 g2] 25)) := Lib.hid (((heap_setCell_other _ _ _ _ ne_D_X.symm).trans (heap_setCell_other _ _ _ _ ne_D_X.symm)).trans Xh13.out)
      have Yh14 : Hid (((w13.setCell ⟨bD, 6, none⟩ (.int .i64 g1)).setCell ⟨bD, 7, none⟩ (.int .i64 g2)).heap[bY]? = some (.cells #[.int .i64 c.office, .int .i64 c.hour, .int .i64 c.inn, .int .i64 c.out, .int .i64 c.store, .string c.prev, .int .i64 c.e, .int .i64 c.s] 25)) := Lib.hid (((heap_setCell_other _ _ _ _ ne_D_Y.symm).trans (heap_setCell_other _ _ _ _ ne_D_Y.symm)).trans Yh13.out)
      have Uh14 : Hid (((w13.setCell ⟨bD, 6, none⟩ (.int .i64 g1)).setCell ⟨bD, 7, none⟩ (.int .i64 g2)).heap[bU]? = some (.cells #[.int .i64 p.office, .int .i64 p.since, .int .i64 p.till, .int .i64 p.litres, .int .i64 t1, .int .i64 t2] 27)) := Lib.hid (((heap_setCell_other _ _ _ _ ne_D_U.symm).trans (heap_setCell_other _ _ _ _ ne_D_U.symm)).trans Uh13.out)
      have Vh14 : Hid (((w13.setCell ⟨bD, 6, none⟩ (.int .i64 g1)).setCell ⟨bD, 7, none⟩ (.int .i64 g2)).heap[bV]? = some (.cells #[.int .i64 p.office, .int .i64 p.since, .int .i64 p.till, .int .i64 p.litres, .int .i64 p.e, .int .i64 p.s] 27)) := Lib.hid (((heap_setCell_other _ _ _ _ ne_D_V.symm).trans (heap_setCell_other _ _ _ _ ne_D_V.symm)).trans Vh13.out)
      have HB14 : Hid (Below w.heap.size w ((w13.setCell ⟨bD, 6, none⟩ (.int .i64 g1)).setCell ⟨bD, 7, none⟩ (.int .i64 g2))) := Lib.hid ((HB13.out.setCell le_D _).setCell le_D _)
      clear cK0 cK1 cC0 cC1 cC2 cC3 cC4 cC5 cC6 cC7 cD0 cD1 cD2 cD3 cD4 cD5 cD6 cD7 cP0 cP1 cP2 cP3 cP4 cP5 cX0 cX1 cX2 cX3 cX4 cX5 cX6 cX7 cY0 cY1 cY2 cY3 cY4 cY5 cY6 cY7 cU0 cU1 cU2 cU3 cU4 cU5 cV0 cV1 cV2 cV3 cV4 cV5
      clear z6 hm6 d7 z7 HB13 Kh13 Ch13 Dh13 Ph13 Xh13 Yh13 Uh13 Vh13
      generalize ((w13.setCell ⟨bD, 6, none⟩ (.int .i64 g1)).setCell ⟨bD, 7, none⟩ (.int .i64 g2)) = w14 at *
      have cK0 : w14.cell? ⟨w.heap.size, 0, none⟩ = some (.int .i64 x) := (cell_of_row _ _ _ _ _ _ Kh14.out).trans rfl
      have cK1 : w14.cell? ⟨w.heap.size, 1, none⟩ = some (.int .i64 y) := (cell_of_row _ _ _ _ _ _ Kh14.out).trans rfl
      have cC0 : w14.cell? ⟨bC, 0, none⟩ = some (.int .i64 c.office) := (cell_of_row _ _ _ _ _ _ Ch14.out).trans rfl
      have cC1 : w14.cell? ⟨bC, 1, none⟩ = some (.int .i64 c.hour) := (cell_of_row _ _ _ _ _ _ Ch14.out).trans rfl
      have cC2 : w14.cell? ⟨bC, 2, none⟩ = some (.int .i64 c.inn) := (cell_of_row _ _ _ _ _ _ Ch14.out).trans rfl
      have cC3 : w14.cell? ⟨bC, 3, none⟩ = some (.int .i64 c.out) := (cell_of_row _ _ _ _ _ _ Ch14.out).trans rfl
      have cC4 : w14.cell? ⟨bC, 4, none⟩ = some (.int .i64 c.store) := (cell_of_row _ _ _ _ _ _ Ch14.out).trans rfl
      have cC5 : w14.cell? ⟨bC, 5, none⟩ = some (.string c.prev) := (cell_of_row _ _ _ _ _ _ Ch14.out).trans rfl
      have cC6 : w14.cell? ⟨bC, 6, none⟩ = some (.int .i64 c.e) := (cell_of_row _ _ _ _ _ _ Ch14.out).trans rfl
      have cC7 : w14.cell? ⟨bC, 7, none⟩ = some (.int .i64 c.s) := (cell_of_row _ _ _ _ _ _ Ch14.out).trans rfl
      have cD0 : w14.cell? ⟨bD, 0, none⟩ = some (.int .i64 d.office) := (cell_of_row _ _ _ _ _ _ Dh14.out).trans rfl
      have cD1 : w14.cell? ⟨bD, 1, none⟩ = some (.int .i64 d.hour) := (cell_of_row _ _ _ _ _ _ Dh14.out).trans rfl
      have cD2 : w14.cell? ⟨bD, 2, none⟩ = some (.int .i64 d.inn) := (cell_of_row _ _ _ _ _ _ Dh14.out).trans rfl
      have cD3 : w14.cell? ⟨bD, 3, none⟩ = some (.int .i64 d.out) := (cell_of_row _ _ _ _ _ _ Dh14.out).trans rfl
      have cD4 : w14.cell? ⟨bD, 4, none⟩ = some (.int .i64 d.store) := (cell_of_row _ _ _ _ _ _ Dh14.out).trans rfl
      have cD5 : w14.cell? ⟨bD, 5, none⟩ = some (.string d.prev) := (cell_of_row _ _ _ _ _ _ Dh14.out).trans rfl
      have cD6 : w14.cell? ⟨bD, 6, none⟩ = some (.int .i64 g1) := (cell_of_row _ _ _ _ _ _ Dh14.out).trans rfl
      have cD7 : w14.cell? ⟨bD, 7, none⟩ = some (.int .i64 g2) := (cell_of_row _ _ _ _ _ _ Dh14.out).trans rfl
      have cP0 : w14.cell? ⟨bP, 0, none⟩ = some (.int .i64 p.office) := (cell_of_row _ _ _ _ _ _ Ph14.out).trans rfl
      have cP1 : w14.cell? ⟨bP, 1, none⟩ = some (.int .i64 p.since) := (cell_of_row _ _ _ _ _ _ Ph14.out).trans rfl
      have cP2 : w14.cell? ⟨bP, 2, none⟩ = some (.int .i64 p.till) := (cell_of_row _ _ _ _ _ _ Ph14.out).trans rfl
      have cP3 : w14.cell? ⟨bP, 3, none⟩ = some (.int .i64 p.litres) := (cell_of_row _ _ _ _ _ _ Ph14.out).trans rfl
      have cP4 : w14.cell? ⟨bP, 4, none⟩ = some (.int .i64 p.e) := (cell_of_row _ _ _ _ _ _ Ph14.out).trans rfl
      have cP5 : w14.cell? ⟨bP, 5, none⟩ = some (.int .i64 p.s) := (cell_of_row _ _ _ _ _ _ Ph14.out).trans rfl
      have cX0 : w14.cell? ⟨bX, 0, none⟩ = some (.int .i64 c.office) := (cell_of_row _ _ _ _ _ _ Xh14.out).trans rfl
      have cX1 : w14.cell? ⟨bX, 1, none⟩ = some (.int .i64 c.hour) := (cell_of_row _ _ _ _ _ _ Xh14.out).trans rfl
      have cX2 : w14.cell? ⟨bX, 2, none⟩ = some (.int .i64 c.inn) := (cell_of_row _ _ _ _ _ _ Xh14.out).trans rfl
      have cX3 : w14.cell? ⟨bX, 3, none⟩ = some (.int .i64 c.out) := (cell_of_row _ _ _ _ _ _ Xh14.out).trans rfl
      have cX4 : w14.cell? ⟨bX, 4, none⟩ = some (.int .i64 c.store) := (cell_of_row _ _ _ _ _ _ Xh14.out).trans rfl
      have cX5 : w14.cell? ⟨bX, 5, none⟩ = some (.string c.prev) := (cell_of_row _ _ _ _ _ _ Xh14.out).trans rfl
      have cX6 : w14.cell? ⟨bX, 6, none⟩ = some (.int .i64 g1) := (cell_of_row _ _ _ _ _ _ Xh14.out).trans rfl
      have cX7 : w14.cell? ⟨bX, 7, none⟩ = some (.int .i64 g2) := (cell_of_row _ _ _ _ _ _ Xh14.out).trans rfl
      have cY0 : w14.cell? ⟨bY, 0, none⟩ = some (.int .i64 c.office) := (cell_of_row _ _ _ _ _ _ Yh14.out).trans rfl
      have cY1 : w14.cell? ⟨bY, 1, none⟩ = some (.int .i64 c.hour) := (cell_of_row _ _ _ _ _ _ Yh14.out).trans rfl
      have cY2 : w14.cell? ⟨bY, 2, none⟩ = some (.int .i64 c.inn) := (cell_of_row _ _ _ _ _ _ Yh14.out).trans rfl
      have cY3 : w14.cell? ⟨bY, 3, none⟩ = some (.int .i64 c.out) := (cell_of_row _ _ _ _ _ _ Yh14.out).trans rfl
      have cY4 : w14.cell? ⟨bY, 4, none⟩ = some (.int .i64 c.store) := (cell_of_row _ _ _ _ _ _ Yh14.out).trans rfl
      have cY5 : w14.cell? ⟨bY, 5, none⟩ = some (.string c.prev) := (cell_of_row _ _ _ _ _ _ Yh14.out).trans rfl
      have cY6 : w14.cell? ⟨bY, 6, none⟩ = some (.int .i64 c.e) := (cell_of_row _ _ _ _ _ _ Yh14.out).trans rfl
      have cY7 : w14.cell? ⟨bY, 7, none⟩ = some (.int .i64 c.s) := (cell_of_row _ _ _ _ _ _ Yh14.out).trans rfl
      have cU0 : w14.cell? ⟨bU, 0, none⟩ = some (.int .i64 p.office) := (cell_of_row _ _ _ _ _ _ Uh14.out).trans rfl
      have cU1 : w14.cell? ⟨bU, 1, none⟩ = some (.int .i64 p.since) := (cell_of_row _ _ _ _ _ _ Uh14.out).trans rfl
      have cU2 : w14.cell? ⟨bU, 2, none⟩ = some (.int .i64 p.till) := (cell_of_row _ _ _ _ _ _ Uh14.out).trans rfl
      have cU3 : w14.cell? ⟨bU, 3, none⟩ = some (.int .i64 p.litres) := (cell_of_row _ _ _ _ _ _ Uh14.out).trans rfl
      have cU4 : w14.cell? ⟨bU, 4, none⟩ = some (.int .i64 t1) := (cell_of_row _ _ _ _ _ _ Uh14.out).trans rfl
      have cU5 : w14.cell? ⟨bU, 5, none⟩ = some (.int .i64 t2) := (cell_of_row _ _ _ _ _ _ Uh14.out).trans rfl
      have cV0 : w14.cell? ⟨bV, 0, none⟩ = some (.int .i64 p.office) := (cell_of_row _ _ _ _ _ _ Vh14.out).trans rfl
      have cV1 : w14.cell? ⟨bV, 1, none⟩ = some (.int .i64 p.since) := (cell_of_row _ _ _ _ _ _ Vh14.out).trans rfl
      have cV2 : w14.cell? ⟨bV, 2, none⟩ = some (.int .i64 p.till) := (cell_of_row _ _ _ _ _ _ Vh14.out).trans rfl
      have cV3 : w14.cell? ⟨bV, 3, none⟩ = some (.int .i64 p.litres) := (cell_of_row _ _ _ _ _ _ Vh14.out).trans rfl
      have cV4 : w14.cell? ⟨bV, 4, none⟩ = some (.int .i64 p.e) := (cell_of_row _ _ _ _ _ _ Vh14.out).trans rfl
      have cV5 : w14.cell? ⟨bV, 5, none⟩ = some (.int .i64 p.s) := (cell_of_row _ _ _ _ _ _ Vh14.out).trans rfl
      go_wp2_with fail
      refine (HF.out.verd _ (HG.out.below HB14.out HG.out.size) (HM.out.up HB14.out)).mono ?_
      rintro e w15 ⟨rfl, hb⟩
      have HB15 := Lib.hid (HB14.out.trans (hb.mono HB14.out.size))
      have Kh15 := Lib.hid (blk_below Kh14.out hb (blk_lt Kh14.out))
      have Ch15 := Lib.hid (blk_below Ch14.out hb (blk_lt Ch14.out))
      have Dh15 := Lib.hid (blk_below Dh14.out hb (blk_lt Dh14.out))
      have Ph15 := Lib.hid (blk_below Ph14.out hb (blk_lt Ph14.out))
      have Xh15 := Lib.hid (blk_below Xh14.out hb (blk_lt Xh14.out))
      have Yh15 := Lib.hid (blk_below Yh14.out hb (blk_lt Yh14.out))
      have Uh15 := Lib.hid (blk_below Uh14.out hb (blk_lt Uh14.out))
      have Vh15 := Lib.hid (blk_below Vh14.out hb (blk_lt Vh14.out))
      clear cK0 cK1 cC0 cC1 cC2 cC3 cC4 cC5 cC6 cC7 cD0 cD1 cD2 cD3 cD4 cD5 cD6 cD7 cP0 cP1 cP2 cP3 cP4 cP5 cX0 cX1 cX2 cX3 cX4 cX5 cX6 cX7 cY0 cY1 cY2 cY3 cY4 cY5 cY6 cY7 cU0 cU1 cU2 cU3 cU4 cU5 cV0 cV1 cV2 cV3 cV4 cV5
      clear HB14 Kh14 Ch14 Dh14 Ph14 Xh14 Yh14 Uh14 Vh14
      clear hb
      have cK0 : w15.cell? ⟨w.heap.size, 0, none⟩ = some (.int .i64 x) := (cell_of_row _ _ _ _ _ _ Kh15.out).trans rfl
      have cK1 : w15.cell? ⟨w.heap.size, 1, none⟩ = some (.int .i64 y) := (cell_of_row _ _ _ _ _ _ Kh15.out).trans rfl
      have cC0 : w15.cell? ⟨bC, 0, none⟩ = some (.int .i64 c.office) := (cell_of_row _ _ _ _ _ _ Ch15.out).trans rfl
      have cC1 : w15.cell? ⟨bC, 1, none⟩ = some (.int .i64 c.hour) := (cell_of_row _ _ _ _ _ _ Ch15.out).trans rfl
      have cC2 : w15.cell? ⟨bC, 2, none⟩ = some (.int .i64 c.inn) := (cell_of_row _ _ _ _ _ _ Ch15.out).trans rfl
      have cC3 : w15.cell? ⟨bC, 3, none⟩ = some (.int .i64 c.out) := (cell_of_row _ _ _ _ _ _ Ch15.out).trans rfl
      have cC4 : w15.cell? ⟨bC, 4, none⟩ = some (.int .i64 c.store) := (cell_of_row _ _ _ _ _ _ Ch15.out).trans rfl
      have cC5 : w15.cell? ⟨bC, 5, none⟩ = some (.string c.prev) := (cell_of_row _ _ _ _ _ _ Ch15.out).trans rfl
      have cC6 : w15.cell? ⟨bC, 6, none⟩ = some (.int .i64 c.e) := (cell_of_row _ _ _ _ _ _ Ch15.out).trans rfl
      have cC7 : w15.cell? ⟨bC, 7, none⟩ = some (.int .i64 c.s) := (cell_of_row _ _ _ _ _ _ Ch15.out).trans rfl
      have cD0 : w15.cell? ⟨bD, 0, none⟩ = some (.int .i64 d.office) := (cell_of_row _ _ _ _ _ _ Dh15.out).trans rfl
      have cD1 : w15.cell? ⟨bD, 1, none⟩ = some (.int .i64 d.hour) := (cell_of_row _ _ _ _ _ _ Dh15.out).trans rfl
      have cD2 : w15.cell? ⟨bD, 2, none⟩ = some (.int .i64 d.inn) := (cell_of_row _ _ _ _ _ _ Dh15.out).trans rfl
      have cD3 : w15.cell? ⟨bD, 3, none⟩ = some (.int .i64 d.out) := (cell_of_row _ _ _ _ _ _ Dh15.out).trans rfl
      have cD4 : w15.cell? ⟨bD, 4, none⟩ = some (.int .i64 d.store) := (cell_of_row _ _ _ _ _ _ Dh15.out).trans rfl
      have cD5 : w15.cell? ⟨bD, 5, none⟩ = some (.string d.prev) := (cell_of_row _ _ _ _ _ _ Dh15.out).trans rfl
      have cD6 : w15.cell? ⟨bD, 6, none⟩ = some (.int .i64 g1) := (cell_of_row _ _ _ _ _ _ Dh15.out).trans rfl
      have cD7 : w15.cell? ⟨bD, 7, none⟩ = some (.int .i64 g2) := (cell_of_row _ _ _ _ _ _ Dh15.out).trans rfl
      have cP0 : w15.cell? ⟨bP, 0, none⟩ = some (.int .i64 p.office) := (cell_of_row _ _ _ _ _ _ Ph15.out).trans rfl
      have cP1 : w15.cell? ⟨bP, 1, none⟩ = some (.int .i64 p.since) := (cell_of_row _ _ _ _ _ _ Ph15.out).trans rfl
      have cP2 : w15.cell? ⟨bP, 2, none⟩ = some (.int .i64 p.till) := (cell_of_row _ _ _ _ _ _ Ph15.out).trans rfl
      have cP3 : w15.cell? ⟨bP, 3, none⟩ = some (.int .i64 p.litres) := (cell_of_row _ _ _ _ _ _ Ph15.out).trans rfl
      have cP4 : w15.cell? ⟨bP, 4, none⟩ = some (.int .i64 p.e) := (cell_of_row _ _ _ _ _ _ Ph15.out).trans rfl
      have cP5 : w15.cell? ⟨bP, 5, none⟩ = some (.int .i64 p.s) := (cell_of_row _ _ _ _ _ _ Ph15.out).trans rfl
      have cX0 : w15.cell? ⟨bX, 0, none⟩ = some (.int .i64 c.office) := (cell_of_row _ _ _ _ _ _ Xh15.out).trans rfl
      have cX1 : w15.cell? ⟨bX, 1, none⟩ = some (.int .i64 c.hour) := (cell_of_row _ _ _ _ _ _ Xh15.out).trans rfl
      have cX2 : w15.cell? ⟨bX, 2, none⟩ = some (.int .i64 c.inn) := (cell_of_row _ _ _ _ _ _ Xh15.out).trans rfl
      have cX3 : w15.cell? ⟨bX, 3, none⟩ = some (.int .i64 c.out) := (cell_of_row _ _ _ _ _ _ Xh15.out).trans rfl
      have cX4 : w15.cell? ⟨bX, 4, none⟩ = some (.int .i64 c.store) := (cell_of_row _ _ _ _ _ _ Xh15.out).trans rfl
      have cX5 : w15.cell? ⟨bX, 5, none⟩ = some (.string c.prev) := (cell_of_row _ _ _ _ _ _ Xh15.out).trans rfl
      have cX6 : w15.cell? ⟨bX, 6, none⟩ = some (.int .i64 g1) := (cell_of_row _ _ _ _ _ _ Xh15.out).trans rfl
      have cX7 : w15.cell? ⟨bX, 7, none⟩ = some (.int .i64 g2) := (cell_of_row _ _ _ _ _ _ Xh15.out).trans rfl
      have cY0 : w15.cell? ⟨bY, 0, none⟩ = some (.int .i64 c.office) := (cell_of_row _ _ _ _ _ _ Yh15.out).trans rfl
      have cY1 : w15.cell? ⟨bY, 1, none⟩ = some (.int .i64 c.hour) := (cell_of_row _ _ _ _ _ _ Yh15.out).trans rfl
      have cY2 : w15.cell? ⟨bY, 2, none⟩ = some (.int .i64 c.inn) := (cell_of_row _ _ _ _ _ _ Yh15.out).trans rfl
      have cY3 : w15.cell? ⟨bY, 3, none⟩ = some (.int .i64 c.out) := (cell_of_row _ _ _ _ _ _ Yh15.out).trans rfl
      have cY4 : w15.cell? ⟨bY, 4, none⟩ = some (.int .i64 c.store) := (cell_of_row _ _ _ _ _ _ Yh15.out).trans rfl
      have cY5 : w15.cell? ⟨bY, 5, none⟩ = some (.string c.prev) := (cell_of_row _ _ _ _ _ _ Yh15.out).trans rfl
      have cY6 : w15.cell? ⟨bY, 6, none⟩ = some (.int .i64 c.e) := (cell_of_row _ _ _ _ _ _ Yh15.out).trans rfl
      have cY7 : w15.cell? ⟨bY, 7, none⟩ = some (.int .i64 c.s) := (cell_of_row _ _ _ _ _ _ Yh15.out).trans rfl
      have cU0 : w15.cell? ⟨bU, 0, none⟩ = some (.int .i64 p.office) := (cell_of_row _ _ _ _ _ _ Uh15.out).trans rfl
      have cU1 : w15.cell? ⟨bU, 1, none⟩ = some (.int .i64 p.since) := (cell_of_row _ _ _ _ _ _ Uh15.out).trans rfl
      have cU2 : w15.cell? ⟨bU, 2, none⟩ = some (.int .i64 p.till) := (cell_of_row _ _ _ _ _ _ Uh15.out).trans rfl
      have cU3 : w15.cell? ⟨bU, 3, none⟩ = some (.int .i64 p.litres) := (cell_of_row _ _ _ _ _ _ Uh15.out).trans rfl
      have cU4 : w15.cell? ⟨bU, 4, none⟩ = some (.int .i64 t1) := (cell_of_row _ _ _ _ _ _ Uh15.out).trans rfl
      have cU5 : w15.cell? ⟨bU, 5, none⟩ = some (.int .i64 t2) := (cell_of_row _ _ _ _ _ _ Uh15.out).trans rfl
      have cV0 : w15.cell? ⟨bV, 0, none⟩ = some (.int .i64 p.office) := (cell_of_row _ _ _ _ _ _ Vh15.out).trans rfl
      have cV1 : w15.cell? ⟨bV, 1, none⟩ = some (.int .i64 p.since) := (cell_of_row _ _ _ _ _ _ Vh15.out).trans rfl
      have cV2 : w15.cell? ⟨bV, 2, none⟩ = some (.int .i64 p.till) := (cell_of_row _ _ _ _ _ _ Vh15.out).trans rfl
      have cV3 : w15.cell? ⟨bV, 3, none⟩ = some (.int .i64 p.litres) := (cell_of_row _ _ _ _ _ _ Vh15.out).trans rfl
      have cV4 : w15.cell? ⟨bV, 4, none⟩ = some (.int .i64 p.e) := (cell_of_row _ _ _ _ _ _ Vh15.out).trans rfl
      have cV5 : w15.cell? ⟨bV, 5, none⟩ = some (.int .i64 p.s) := (cell_of_row _ _ _ _ _ _ Vh15.out).trans rfl
      cases hvd : vd with
      | false =>
        have hap := HF.out.apart hvd
        go_upto_region 14 with fail
        clear cK0 cK1 cC0 cC1 cC2 cC3 cC4 cC5 cC6 cC7 cD0 cD1 cD2 cD3 cD4 cD5 cD6 cD7 cP0 cP1 cP2 cP3 cP4 cP5 cX0 cX1 cX2 cX3 cX4 cX5 cX6 cX7 cY0 cY1 cY2 cY3 cY4 cY5 cY6 cY7 cU0 cU1 cU2 cU3 cU4 cU5 cV0 cV1 cV2 cV3 cV4 cV5
        have HS0 : Hid (w15.heap[w.heap.size]? = some (.cells #[.int .i64 x, .int .i64 y] 29) ∧ w15.heap[bC]? = some (.cells #[.int .i64 c.office, .int .i64 c.hour, .int .i64 c.inn, .int .i64 c.out, .int .i64 c.store, .string c.prev, .int .i64 c.e, .int .i64 c.s] 25) ∧ w15.heap[bD]? = some (.cells #[.int .i64 d.office, .int .i64 d.hour, .int .i64 d.inn, .int .i64 d.out, .int .i64 d.store, .string d.prev, .int .i64 g1, .int .i64 g2] 25) ∧ w15.heap[bP]? = some (.cells #[.int .i64 p.office, .int .i64 p.since, .int .i64 p.till, .int .i64 p.litres, .int .i64 p.e, .int .i64 p.s] 27) ∧ w15.heap[bX]? = some (.cells #[.int .i64 c.office, .int .i64 c.hour, .int .i64 c.inn, .int .i64 c.out, .int .i64 c.store, .string c.prev, .int .i64 g1, .int .i64 g2] 25) ∧ w15.heap[bY]? = some (.cells #[.int .i64 c.office, .int .i64 c.hour, .int .i64 c.inn, .int .i64 c.out, .int .i64 c.store, .string c.prev, .int .i64 c.e, .int .i64 c.s] 25) ∧ w15.heap[bU]? = some (.cells #[.int .i64 p.office, .int .i64 p.since, .int .i64 p.till, .int .i64 p.litres, .int .i64 t1, .int .i64 t2] 27) ∧ w15.heap[bV]? = some (.cells #[.int .i64 p.office, .int .i64 p.since, .int .i64 p.till, .int .i64 p.litres, .int .i64 p.e, .int .i64 p.s] 27) ∧ w15.cell? ⟨bC, 0, none⟩ = some (.int .i64 c.office) ∧ w15.cell? ⟨bC, 1, none⟩ = some (.int .i64 c.hour) ∧ w15.cell? ⟨bC, 2, none⟩ = some (.int .i64 c.inn) ∧ w15.cell? ⟨bC, 3, none⟩ = some (.int .i64 c.out) ∧ w15.cell? ⟨bC, 4, none⟩ = some (.int .i64 c.store) ∧ w15.cell? ⟨bC, 5, none⟩ = some (.string c.prev) ∧ w15.cell? ⟨bC, 6, none⟩ = some (.int .i64 c.e) ∧ w15.cell? ⟨bC, 7, none⟩ = some (.int .i64 c.s) ∧ w15.cell? ⟨bD, 0, none⟩ = some (.int .i64 d.office) ∧ w15.cell? ⟨bD, 1, none⟩ = some (.int .i64 d.hour) ∧ w15.cell? ⟨bD, 2, none⟩ = some (.int .i64 d.inn) ∧ w15.cell? ⟨bD, 3, none⟩ = some (.int .i64 d.out) ∧ w15.cell? ⟨bD, 4, none⟩ = some (.int .i64 d.store) ∧ w15.cell? ⟨bD, 5, none⟩ = some (.string d.prev) ∧ w15.cell? ⟨bD, 6, none⟩ = some (.int .i64 g1) ∧ w15.cell? ⟨bD, 7, none⟩ = some (.int .i64 g2) ∧ Below w.heap.size w w15) := Lib.hid ⟨Kh15.out, Ch15.out, Dh15.out, Ph15.out, Xh15.out, Yh15.out, Uh15.out, Vh15.out, (cell_of_row _ _ _ _ _ _ Ch15.out).trans rfl, (cell_of_row _ _ _ _ _ _ Ch15.out).trans rfl, (cell_of_row _ _ _ _ _ _ Ch15.out).trans rfl, (cell_of_row _ _ _ _ _ _ Ch15.out).trans rfl, (cell_of_row _ _ _ _ _ _ Ch15.out).trans rfl, (cell_of_row _ _ _ _ _ _ Ch15.out).trans rfl, (cell_of_row _ _ _ _ _ _ Ch15.out).trans rfl, (cell_of_row _ _ _ _ _ _ Ch15.out).trans rfl, (cell_of_row _ _ _ _ _ _ Dh15.out).trans rfl, (cell_of_row _ _ _ _ _ _ Dh15.out).trans rfl, (cell_of_row _ _ _ _ _ _ Dh15.out).trans rfl, (cell_of_row _ _ _ _ _ _ Dh15.out).trans rfl, (cell_of_row _ _ _ _ _ _ Dh15.out).trans rfl, (cell_of_row _ _ _ _ _ _ Dh15.out).trans rfl, (cell_of_row _ _ _ _ _ _ Dh15.out).trans rfl, (cell_of_row _ _ _ _ _ _ Dh15.out).trans rfl, HB15.out⟩
        clear Kh15 Ch15 Dh15 Ph15 Xh15 Yh15 Uh15 Vh15 HB15
        go_region_held3 (fun w' => w'.heap[w.heap.size]? = some (.cells #[.int .i64 x, .int .i64 y] 29) ∧ w'.heap[bC]? = some (.cells #[.int .i64 c.office, .int .i64 c.hour, .int .i64 c.inn, .int .i64 c.out, .int .i64 c.store, .string c.prev, .int .i64 c.e, .int .i64 c.s] 25) ∧ w'.heap[bD]? = some (.cells #[.int .i64 d.office, .int .i64 d.hour, .int .i64 d.inn, .int .i64 d.out, .int .i64 d.store, .string d.prev, .int .i64 g1, .int .i64 g2] 25) ∧ w'.heap[bP]? = some (.cells #[.int .i64 p.office, .int .i64 p.since, .int .i64 p.till, .int .i64 p.litres, .int .i64 p.e, .int .i64 p.s] 27) ∧ w'.heap[bX]? = some (.cells #[.int .i64 c.office, .int .i64 c.hour, .int .i64 c.inn, .int .i64 c.out, .int .i64 c.store, .string c.prev, .int .i64 g1, .int .i64 g2] 25) ∧ w'.heap[bY]? = some (.cells #[.int .i64 c.office, .int .i64 c.hour, .int .i64 c.inn, .int .i64 c.out, .int .i64 c.store, .string c.prev, .int .i64 c.e, .int .i64 c.s] 25) ∧ w'.heap[bU]? = some (.cells #[.int .i64 p.office, .int .i64 p.since, .int .i64 p.till, .int .i64 p.litres, .int .i64 t1, .int .i64 t2] 27) ∧ w'.heap[bV]? = some (.cells #[.int .i64 p.office, .int .i64 p.since, .int .i64 p.till, .int .i64 p.litres, .int .i64 p.e, .int .i64 p.s] 27) ∧ w'.cell? ⟨bC, 0, none⟩ = some (.int .i64 c.office) ∧ w'.cell? ⟨bC, 1, none⟩ = some (.int .i64 c.hour) ∧ w'.cell? ⟨bC, 2, none⟩ = some (.int .i64 c.inn) ∧ w'.cell? ⟨bC, 3, none⟩ = some (.int .i64 c.out) ∧ w'.cell? ⟨bC, 4, none⟩ = some (.int .i64 c.store) ∧ w'.cell? ⟨bC, 5, none⟩ = some (.string c.prev) ∧ w'.cell? ⟨bC, 6, none⟩ = some (.int .i64 c.e) ∧ w'.cell? ⟨bC, 7, none⟩ = some (.int .i64 c.s) ∧ w'.cell? ⟨bD, 0, none⟩ = some (.int .i64 d.office) ∧ w'.cell? ⟨bD, 1, none⟩ = some (.int .i64 d.hour) ∧ w'.cell? ⟨bD, 2, none⟩ = some (.int .i64 d.inn) ∧ w'.cell? ⟨bD, 3, none⟩ = some (.int .i64 d.out) ∧ w'.cell? ⟨bD, 4, none⟩ = some (.int .i64 d.store) ∧ w'.cell? ⟨bD, 5, none⟩ = some (.string d.prev) ∧ w'.cell? ⟨bD, 6, none⟩ = some (.int .i64 g1) ∧ w'.cell? ⟨bD, 7, none⟩ = some (.int .i64 g2) ∧ Below w.heap.size w w') (first | assumption | exact HS0.out | exact signs_stepB (by assumption) hb | exact signs_stepBN (by assumption) _ | exact signs_stepBA (by assumption) | exact signs_stepBU (by assumption) | exact signs_stepBN (signs_stepBU (by assumption)) _) ((first | (go_at_call 12; refine (HF.out.core _ _ _ _ _ _ _ _ (by first | exact okc | exact okd) (by first | exact ig1 | exact ic1) (by first | exact ig2 | exact ic2) _ (HM.out.up (show _ ∧ _ ∧ _ ∧ _ ∧ _ ∧ _ ∧ _ ∧ _ ∧ _ ∧ _ ∧ _ ∧ _ ∧ _ ∧ _ ∧ _ ∧ _ ∧ _ ∧ _ ∧ _ ∧ _ ∧ _ ∧ _ ∧ _ ∧ _ ∧ Below w.heap.size w _ by assumption).2.2.2.2.2.2.2.2.2.2.2.2.2.2.2.2.2.2.2.2.2.2.2.2)).mono ?_; rintro e w' ⟨rfl, hb⟩)))
        rename World => w16
        rename _ ∧ _ => hFin
        obtain ⟨qK, qC, qD, qP, qX, qY, qU, qV, -, -, -, -, -, -, -, -, -, -, -, -, -, -, -, -, qBel⟩ := hFin
        have Kh16 := Lib.hid qK
        have Ch16 := Lib.hid qC
        have Dh16 := Lib.hid qD
        have Ph16 := Lib.hid qP
        have Xh16 := Lib.hid qX
        have Yh16 := Lib.hid qY
        have Uh16 := Lib.hid qU
        have Vh16 := Lib.hid qV
        have HB16 := Lib.hid qBel
        clear HS0 qBel qK qC qD qP qX qY qU qV
        have cK0 : w16.cell? ⟨w.heap.size, 0, none⟩ = some (.int .i64 x) := (cell_of_row _ _ _ _ _ _ Kh16.out).trans rfl
        have cK1 : w16.cell? ⟨w.heap.size, 1, none⟩ = some (.int .i64 y) := (cell_of_row _ _ _ _ _ _ Kh16.out).trans rfl
        have cC0 : w16.cell? ⟨bC, 0, none⟩ = some (.int .i64 c.office) := (cell_of_row _ _ _ _ _ _ Ch16.out).trans rfl
        have cC1 : w16.cell? ⟨bC, 1, none⟩ = some (.int .i64 c.hour) := (cell_of_row _ _ _ _ _ _ Ch16.out).trans rfl
        have cC2 : w16.cell? ⟨bC, 2, none⟩ = some (.int .i64 c.inn) := (cell_of_row _ _ _ _ _ _ Ch16.out).trans rfl
        have cC3 : w16.cell? ⟨bC, 3, none⟩ = some (.int .i64 c.out) := (cell_of_row _ _ _ _ _ _ Ch16.out).trans rfl
        have cC4 : w16.cell? ⟨bC, 4, none⟩ = some (.int .i64 c.store) := (cell_of_row _ _ _ _ _ _ Ch16.out).trans rfl
        have cC5 : w16.cell? ⟨bC, 5, none⟩ = some (.string c.prev) := (cell_of_row _ _ _ _ _ _ Ch16.out).trans rfl
        have cC6 : w16.cell? ⟨bC, 6, none⟩ = some (.int .i64 c.e) := (cell_of_row _ _ _ _ _ _ Ch16.out).trans rfl
        have cC7 : w16.cell? ⟨bC, 7, none⟩ = some (.int .i64 c.s) := (cell_of_row _ _ _ _ _ _ Ch16.out).trans rfl
        have cD0 : w16.cell? ⟨bD, 0, none⟩ = some (.int .i64 d.office) := (cell_of_row _ _ _ _ _ _ Dh16.out).trans rfl
        have cD1 : w16.cell? ⟨bD, 1, none⟩ = some (.int .i64 d.hour) := (cell_of_row _ _ _ _ _ _ Dh16.out).trans rfl
        have cD2 : w16.cell? ⟨bD, 2, none⟩ = some (.int .i64 d.inn) := (cell_of_row _ _ _ _ _ _ Dh16.out).trans rfl
        have cD3 : w16.cell? ⟨bD, 3, none⟩ = some (.int .i64 d.out) := (cell_of_row _ _ _ _ _ _ Dh16.out).trans rfl
        have cD4 : w16.cell? ⟨bD, 4, none⟩ = some (.int .i64 d.store) := (cell_of_row _ _ _ _ _ _ Dh16.out).trans rfl
        have cD5 : w16.cell? ⟨bD, 5, none⟩ = some (.string d.prev) := (cell_of_row _ _ _ _ _ _ Dh16.out).trans rfl
        have cD6 : w16.cell? ⟨bD, 6, none⟩ = some (.int .i64 g1) := (cell_of_row _ _ _ _ _ _ Dh16.out).trans rfl
        have cD7 : w16.cell? ⟨bD, 7, none⟩ = some (.int .i64 g2) := (cell_of_row _ _ _ _ _ _ Dh16.out).trans rfl
        have cP0 : w16.cell? ⟨bP, 0, none⟩ = some (.int .i64 p.office) := (cell_of_row _ _ _ _ _ _ Ph16.out).trans rfl
        have cP1 : w16.cell? ⟨bP, 1, none⟩ = some (.int .i64 p.since) := (cell_of_row _ _ _ _ _ _ Ph16.out).trans rfl
        have cP2 : w16.cell? ⟨bP, 2, none⟩ = some (.int .i64 p.till) := (cell_of_row _ _ _ _ _ _ Ph16.out).trans rfl
        have cP3 : w16.cell? ⟨bP, 3, none⟩ = some (.int .i64 p.litres) := (cell_of_row _ _ _ _ _ _ Ph16.out).trans rfl
        have cP4 : w16.cell? ⟨bP, 4, none⟩ = some (.int .i64 p.e) := (cell_of_row _ _ _ _ _ _ Ph16.out).trans rfl
        have cP5 : w16.cell? ⟨bP, 5, none⟩ = some (.int .i64 p.s) := (cell_of_row _ _ _ _ _ _ Ph16.out).trans rfl
        have cX0 : w16.cell? ⟨bX, 0, none⟩ = some (.int .i64 c.office) := (cell_of_row _ _ _ _ _ _ Xh16.out).trans rfl
        have cX1 : w16.cell? ⟨bX, 1, none⟩ = some (.int .i64 c.hour) := (cell_of_row _ _ _ _ _ _ Xh16.out).trans rfl
        have cX2 : w16.cell? ⟨bX, 2, none⟩ = some (.int .i64 c.inn) := (cell_of_row _ _ _ _ _ _ Xh16.out).trans rfl
        have cX3 : w16.cell? ⟨bX, 3, none⟩ = some (.int .i64 c.out) := (cell_of_row _ _ _ _ _ _ Xh16.out).trans rfl
        have cX4 : w16.cell? ⟨bX, 4, none⟩ = some (.int .i64 c.store) := (cell_of_row _ _ _ _ _ _ Xh16.out).trans rfl
        have cX5 : w16.cell? ⟨bX, 5, none⟩ = some (.string c.prev) := (cell_of_row _ _ _ _ _ _ Xh16.out).trans rfl
        have cX6 : w16.cell? ⟨bX, 6, none⟩ = some (.int .i64 g1) := (cell_of_row _ _ _ _ _ _ Xh16.out).trans rfl
        have cX7 : w16.cell? ⟨bX, 7, none⟩ = some (.int .i64 g2) := (cell_of_row _ _ _ _ _ _ Xh16.out).trans rfl
        have cY0 : w16.cell? ⟨bY, 0, none⟩ = some (.int .i64 c.office) := (cell_of_row _ _ _ _ _ _ Yh16.out).trans rfl
        have cY1 : w16.cell? ⟨bY, 1, none⟩ = some (.int .i64 c.hour) := (cell_of_row _ _ _ _ _ _ Yh16.out).trans rfl
        have cY2 : w16.cell? ⟨bY, 2, none⟩ = some (.int .i64 c.inn) := (cell_of_row _ _ _ _ _ _ Yh16.out).trans rfl
        have cY3 : w16.cell? ⟨bY, 3, none⟩ = some (.int .i64 c.out) := (cell_of_row _ _ _ _ _ _ Yh16.out).trans rfl
        have cY4 : w16.cell? ⟨bY, 4, none⟩ = some (.int .i64 c.store) := (cell_of_row _ _ _ _ _ _ Yh16.out).trans rfl
        have cY5 : w16.cell? ⟨bY, 5, none⟩ = some (.string c.prev) := (cell_of_row _ _ _ _ _ _ Yh16.out).trans rfl
        have cY6 : w16.cell? ⟨bY, 6, none⟩ = some (.int .i64 c.e) := (cell_of_row _ _ _ _ _ _ Yh16.out).trans rfl
        have cY7 : w16.cell? ⟨bY, 7, none⟩ = some (.int .i64 c.s) := (cell_of_row _ _ _ _ _ _ Yh16.out).trans rfl
        have cU0 : w16.cell? ⟨bU, 0, none⟩ = some (.int .i64 p.office) := (cell_of_row _ _ _ _ _ _ Uh16.out).trans rfl
        have cU1 : w16.cell? ⟨bU, 1, none⟩ = some (.int .i64 p.since) := (cell_of_row _ _ _ _ _ _ Uh16.out).trans rfl
        have cU2 : w16.cell? ⟨bU, 2, none⟩ = some (.int .i64 p.till) := (cell_of_row _ _ _ _ _ _ Uh16.out).trans rfl
        have cU3 : w16.cell? ⟨bU, 3, none⟩ = some (.int .i64 p.litres) := (cell_of_row _ _ _ _ _ _ Uh16.out).trans rfl
        have cU4 : w16.cell? ⟨bU, 4, none⟩ = some (.int .i64 t1) := (cell_of_row _ _ _ _ _ _ Uh16.out).trans rfl
        have cU5 : w16.cell? ⟨bU, 5, none⟩ = some (.int .i64 t2) := (cell_of_row _ _ _ _ _ _ Uh16.out).trans rfl
        have cV0 : w16.cell? ⟨bV, 0, none⟩ = some (.int .i64 p.office) := (cell_of_row _ _ _ _ _ _ Vh16.out).trans rfl
        have cV1 : w16.cell? ⟨bV, 1, none⟩ = some (.int .i64 p.since) := (cell_of_row _ _ _ _ _ _ Vh16.out).trans rfl
        have cV2 : w16.cell? ⟨bV, 2, none⟩ = some (.int .i64 p.till) := (cell_of_row _ _ _ _ _ _ Vh16.out).trans rfl
        have cV3 : w16.cell? ⟨bV, 3, none⟩ = some (.int .i64 p.litres) := (cell_of_row _ _ _ _ _ _ Vh16.out).trans rfl
        have cV4 : w16.cell? ⟨bV, 4, none⟩ = some (.int .i64 p.e) := (cell_of_row _ _ _ _ _ _ Vh16.out).trans rfl
        have cV5 : w16.cell? ⟨bV, 5, none⟩ = some (.int .i64 p.s) := (cell_of_row _ _ _ _ _ _ Vh16.out).trans rfl
        go_wp2_with fail
        go_ret
        exact ⟨rfl, HB16.out⟩
      | true =>
        have hsame := HF.out.same hvd
        go_wp2_with fail
        refine (HF.out.elem _).mono ?_
        rintro e w16 ⟨rfl, hb⟩
        have HB16 := Lib.hid (HB15.out.trans (hb.mono HB15.out.size))
        have Kh16 := Lib.hid (blk_below Kh15.out hb (blk_lt Kh15.out))
        have Ch16 := Lib.hid (blk_below Ch15.out hb (blk_lt Ch15.out))
        have Dh16 := Lib.hid (blk_below Dh15.out hb (blk_lt Dh15.out))
        have Ph16 := Lib.hid (blk_below Ph15.out hb (blk_lt Ph15.out))
        have Xh16 := Lib.hid (blk_below Xh15.out hb (blk_lt Xh15.out))
        have Yh16 := Lib.hid (blk_below Yh15.out hb (blk_lt Yh15.out))
        have Uh16 := Lib.hid (blk_below Uh15.out hb (blk_lt Uh15.out))
        have Vh16 := Lib.hid (blk_below Vh15.out hb (blk_lt Vh15.out))
        clear cK0 cK1 cC0 cC1 cC2 cC3 cC4 cC5 cC6 cC7 cD0 cD1 cD2 cD3 cD4 cD5 cD6 cD7 cP0 cP1 cP2 cP3 cP4 cP5 cX0 cX1 cX2 cX3 cX4 cX5 cX6 cX7 cY0 cY1 cY2 cY3 cY4 cY5 cY6 cY7 cU0 cU1 cU2 cU3 cU4 cU5 cV0 cV1 cV2 cV3 cV4 cV5
        clear HB15 Kh15 Ch15 Dh15 Ph15 Xh15 Yh15 Uh15 Vh15
        clear hb
        have cK0 : w16.cell? ⟨w.heap.size, 0, none⟩ = some (.int .i64 x) := (cell_of_row _ _ _ _ _ _ Kh16.out).trans rfl
        have cK1 : w16.cell? ⟨w.heap.size, 1, none⟩ = some (.int .i64 y) := (cell_of_row _ _ _ _ _ _ Kh16.out).trans rfl
        have cC0 : w16.cell? ⟨bC, 0, none⟩ = some (.int .i64 c.office) := (cell_of_row _ _ _ _ _ _ Ch16.out).trans rfl
        have cC1 : w16.cell? ⟨bC, 1, none⟩ = some (.int .i64 c.hour) := (cell_of_row _ _ _ _ _ _ Ch16.out).trans rfl
        have cC2 : w16.cell? ⟨bC, 2, none⟩ = some (.int .i64 c.inn) := (cell_of_row _ _ _ _ _ _ Ch16.out).trans rfl
        have cC3 : w16.cell? ⟨bC, 3, none⟩ = some (.int .i64 c.out) := (cell_of_row _ _ _ _ _ _ Ch16.out).trans rfl
        have cC4 : w16.cell? ⟨bC, 4, none⟩ = some (.int .i64 c.store) := (cell_of_row _ _ _ _ _ _ Ch16.out).trans rfl
        have cC5 : w16.cell? ⟨bC, 5, none⟩ = some (.string c.prev) := (cell_of_row _ _ _ _ _ _ Ch16.out).trans rfl
        have cC6 : w16.cell? ⟨bC, 6, none⟩ = some (.int .i64 c.e) := (cell_of_row _ _ _ _ _ _ Ch16.out).trans rfl
        have cC7 : w16.cell? ⟨bC, 7, none⟩ = some (.int .i64 c.s) := (cell_of_row _ _ _ _ _ _ Ch16.out).trans rfl
        have cD0 : w16.cell? ⟨bD, 0, none⟩ = some (.int .i64 d.office) := (cell_of_row _ _ _ _ _ _ Dh16.out).trans rfl
        have cD1 : w16.cell? ⟨bD, 1, none⟩ = some (.int .i64 d.hour) := (cell_of_row _ _ _ _ _ _ Dh16.out).trans rfl
        have cD2 : w16.cell? ⟨bD, 2, none⟩ = some (.int .i64 d.inn) := (cell_of_row _ _ _ _ _ _ Dh16.out).trans rfl
        have cD3 : w16.cell? ⟨bD, 3, none⟩ = some (.int .i64 d.out) := (cell_of_row _ _ _ _ _ _ Dh16.out).trans rfl
        have cD4 : w16.cell? ⟨bD, 4, none⟩ = some (.int .i64 d.store) := (cell_of_row _ _ _ _ _ _ Dh16.out).trans rfl
        have cD5 : w16.cell? ⟨bD, 5, none⟩ = some (.string d.prev) := (cell_of_row _ _ _ _ _ _ Dh16.out).trans rfl
        have cD6 : w16.cell? ⟨bD, 6, none⟩ = some (.int .i64 g1) := (cell_of_row _ _ _ _ _ _ Dh16.out).trans rfl
        have cD7 : w16.cell? ⟨bD, 7, none⟩ = some (.int .i64 g2) := (cell_of_row _ _ _ _ _ _ Dh16.out).trans rfl
        have cP0 : w16.cell? ⟨bP, 0, none⟩ = some (.int .i64 p.office) := (cell_of_row _ _ _ _ _ _ Ph16.out).trans rfl
        have cP1 : w16.cell? ⟨bP, 1, none⟩ = some (.int .i64 p.since) := (cell_of_row _ _ _ _ _ _ Ph16.out).trans rfl
        have cP2 : w16.cell? ⟨bP, 2, none⟩ = some (.int .i64 p.till) := (cell_of_row _ _ _ _ _ _ Ph16.out).trans rfl
        have cP3 : w16.cell? ⟨bP, 3, none⟩ = some (.int .i64 p.litres) := (cell_of_row _ _ _ _ _ _ Ph16.out).trans rfl
        have cP4 : w16.cell? ⟨bP, 4, none⟩ = some (.int .i64 p.e) := (cell_of_row _ _ _ _ _ _ Ph16.out).trans rfl
        have cP5 : w16.cell? ⟨bP, 5, none⟩ = some (.int .i64 p.s) := (cell_of_row _ _ _ _ _ _ Ph16.out).trans rfl
        have cX0 : w16.cell? ⟨bX, 0, none⟩ = some (.int .i64 c.office) := (cell_of_row _ _ _ _ _ _ Xh16.out).trans rfl
        have cX1 : w16.cell? ⟨bX, 1, none⟩ = some (.int .i64 c.hour) := (cell_of_row _ _ _ _ _ _ Xh16.out).trans rfl
        have cX2 : w16.cell? ⟨bX, 2, none⟩ = some (.int .i64 c.inn) := (cell_of_row _ _ _ _ _ _ Xh16.out).trans rfl
        have cX3 : w16.cell? ⟨bX, 3, none⟩ = some (.int .i64 c.out) := (cell_of_row _ _ _ _ _ _ Xh16.out).trans rfl
        have cX4 : w16.cell? ⟨bX, 4, none⟩ = some (.int .i64 c.store) := (cell_of_row _ _ _ _ _ _ Xh16.out).trans rfl
        have cX5 : w16.cell? ⟨bX, 5, none⟩ = some (.string c.prev) := (cell_of_row _ _ _ _ _ _ Xh16.out).trans rfl
        have cX6 : w16.cell? ⟨bX, 6, none⟩ = some (.int .i64 g1) := (cell_of_row _ _ _ _ _ _ Xh16.out).trans rfl
        have cX7 : w16.cell? ⟨bX, 7, none⟩ = some (.int .i64 g2) := (cell_of_row _ _ _ _ _ _ Xh16.out).trans rfl
        have cY0 : w16.cell? ⟨bY, 0, none⟩ = some (.int .i64 c.office) := (cell_of_row _ _ _ _ _ _ Yh16.out).trans rfl
        have cY1 : w16.cell? ⟨bY, 1, none⟩ = some (.int .i64 c.hour) := (cell_of_row _ _ _ _ _ _ Yh16.out).trans rfl
        have cY2 : w16.cell? ⟨bY, 2, none⟩ = some (.int .i64 c.inn) := (cell_of_row _ _ _ _ _ _ Yh16.out).trans rfl
        have cY3 : w16.cell? ⟨bY, 3, none⟩ = some (.int .i64 c.out) := (cell_of_row _ _ _ _ _ _ Yh16.out).trans rfl
        have cY4 : w16.cell? ⟨bY, 4, none⟩ = some (.int .i64 c.store) := (cell_of_row _ _ _ _ _ _ Yh16.out).trans rfl
        have cY5 : w16.cell? ⟨bY, 5, none⟩ = some (.string c.prev) := (cell_of_row _ _ _ _ _ _ Yh16.out).trans rfl
        have cY6 : w16.cell? ⟨bY, 6, none⟩ = some (.int .i64 c.e) := (cell_of_row _ _ _ _ _ _ Yh16.out).trans rfl
        have cY7 : w16.cell? ⟨bY, 7, none⟩ = some (.int .i64 c.s) := (cell_of_row _ _ _ _ _ _ Yh16.out).trans rfl
        have cU0 : w16.cell? ⟨bU, 0, none⟩ = some (.int .i64 p.office) := (cell_of_row _ _ _ _ _ _ Uh16.out).trans rfl
        have cU1 : w16.cell? ⟨bU, 1, none⟩ = some (.int .i64 p.since) := (cell_of_row _ _ _ _ _ _ Uh16.out).trans rfl
        have cU2 : w16.cell? ⟨bU, 2, none⟩ = some (.int .i64 p.till) := (cell_of_row _ _ _ _ _ _ Uh16.out).trans rfl
        have cU3 : w16.cell? ⟨bU, 3, none⟩ = some (.int .i64 p.litres) := (cell_of_row _ _ _ _ _ _ Uh16.out).trans rfl
        have cU4 : w16.cell? ⟨bU, 4, none⟩ = some (.int .i64 t1) := (cell_of_row _ _ _ _ _ _ Uh16.out).trans rfl
        have cU5 : w16.cell? ⟨bU, 5, none⟩ = some (.int .i64 t2) := (cell_of_row _ _ _ _ _ _ Uh16.out).trans rfl
        have cV0 : w16.cell? ⟨bV, 0, none⟩ = some (.int .i64 p.office) := (cell_of_row _ _ _ _ _ _ Vh16.out).trans rfl
        have cV1 : w16.cell? ⟨bV, 1, none⟩ = some (.int .i64 p.since) := (cell_of_row _ _ _ _ _ _ Vh16.out).trans rfl
        have cV2 : w16.cell? ⟨bV, 2, none⟩ = some (.int .i64 p.till) := (cell_of_row _ _ _ _ _ _ Vh16.out).trans rfl
        have cV3 : w16.cell? ⟨bV, 3, none⟩ = some (.int .i64 p.litres) := (cell_of_row _ _ _ _ _ _ Vh16.out).trans rfl
        have cV4 : w16.cell? ⟨bV, 4, none⟩ = some (.int .i64 p.e) := (cell_of_row _ _ _ _ _ _ Vh16.out).trans rfl
        have cV5 : w16.cell? ⟨bV, 5, none⟩ = some (.int .i64 p.s) := (cell_of_row _ _ _ _ _ _ Vh16.out).trans rfl
        go_upto_region 16 with fail
        clear cK0 cK1 cC0 cC1 cC2 cC3 cC4 cC5 cC6 cC7 cD0 cD1 cD2 cD3 cD4 cD5 cD6 cD7 cP0 cP1 cP2 cP3 cP4 cP5 cX0 cX1 cX2 cX3 cX4 cX5 cX6 cX7 cY0 cY1 cY2 cY3 cY4 cY5 cY6 cY7 cU0 cU1 cU2 cU3 cU4 cU5 cV0 cV1 cV2 cV3 cV4 cV5
        have HS0 : Hid (w16.heap[w.heap.size]? = some (.cells #[.int .i64 x, .int .i64 y] 29) ∧ w16.heap[bC]? = some (.cells #[.int .i64 c.office, .int .i64 c.hour, .int .i64 c.inn, .int .i64 c.out, .int .i64 c.store, .string c.prev, .int .i64 c.e, .int .i64 c.s] 25) ∧ w16.heap[bD]? = some (.cells #[.int .i64 d.office, .int .i64 d.hour, .int .i64 d.inn, .int .i64 d.out, .int .i64 d.store, .string d.prev, .int .i64 g1, .int .i64 g2] 25) ∧ w16.heap[bP]? = some (.cells #[.int .i64 p.office, .int .i64 p.since, .int .i64 p.till, .int .i64 p.litres, .int .i64 p.e, .int .i64 p.s] 27) ∧ w16.heap[bX]? = some (.cells #[.int .i64 c.office, .int .i64 c.hour, .int .i64 c.inn, .int .i64 c.out, .int .i64 c.store, .string c.prev, .int .i64 g1, .int .i64 g2] 25) ∧ w16.heap[bY]? = some (.cells #[.int .i64 c.office, .int .i64 c.hour, .int .i64 c.inn, .int .i64 c.out, .int .i64 c.store, .string c.prev, .int .i64 c.e, .int .i64 c.s] 25) ∧ w16.heap[bU]? = some (.cells #[.int .i64 p.office, .int .i64 p.since, .int .i64 p.till, .int .i64 p.litres, .int .i64 t1, .int .i64 t2] 27) ∧ w16.heap[bV]? = some (.cells #[.int .i64 p.office, .int .i64 p.since, .int .i64 p.till, .int .i64 p.litres, .int .i64 p.e, .int .i64 p.s] 27) ∧ w16.cell? ⟨w.heap.size, 0, none⟩ = some (.int .i64 x) ∧ w16.cell? ⟨w.heap.size, 1, none⟩ = some (.int .i64 y) ∧ w16.cell? ⟨bC, 0, none⟩ = some (.int .i64 c.office) ∧ w16.cell? ⟨bC, 1, none⟩ = some (.int .i64 c.hour) ∧ w16.cell? ⟨bC, 2, none⟩ = some (.int .i64 c.inn) ∧ w16.cell? ⟨bC, 3, none⟩ = some (.int .i64 c.out) ∧ w16.cell? ⟨bC, 4, none⟩ = some (.int .i64 c.store) ∧ w16.cell? ⟨bC, 5, none⟩ = some (.string c.prev) ∧ w16.cell? ⟨bC, 6, none⟩ = some (.int .i64 c.e) ∧ w16.cell? ⟨bC, 7, none⟩ = some (.int .i64 c.s) ∧ w16.cell? ⟨bD, 0, none⟩ = some (.int .i64 d.office) ∧ w16.cell? ⟨bD, 1, none⟩ = some (.int .i64 d.hour) ∧ w16.cell? ⟨bD, 2, none⟩ = some (.int .i64 d.inn) ∧ w16.cell? ⟨bD, 3, none⟩ = some (.int .i64 d.out) ∧ w16.cell? ⟨bD, 4, none⟩ = some (.int .i64 d.store) ∧ w16.cell? ⟨bD, 5, none⟩ = some (.string d.prev) ∧ w16.cell? ⟨bD, 6, none⟩ = some (.int .i64 g1) ∧ w16.cell? ⟨bD, 7, none⟩ = some (.int .i64 g2) ∧ Below w.heap.size w w16) := Lib.hid ⟨Kh16.out, Ch16.out, Dh16.out, Ph16.out, Xh16.out, Yh16.out, Uh16.out, Vh16.out, (cell_of_row _ _ _ _ _ _ Kh16.out).trans rfl, (cell_of_row _ _ _ _ _ _ Kh16.out).trans rfl, (cell_of_row _ _ _ _ _ _ Ch16.out).trans rfl, (cell_of_row _ _ _ _ _ _ Ch16.out).trans rfl, (cell_of_row _ _ _ _ _ _ Ch16.out).trans rfl, (cell_of_row _ _ _ _ _ _ Ch16.out).trans rfl, (cell_of_row _ _ _ _ _ _ Ch16.out).trans rfl, (cell_of_row _ _ _ _ _ _ Ch16.out).trans rfl, (cell_of_row _ _ _ _ _ _ Ch16.out).trans rfl, (cell_of_row _ _ _ _ _ _ Ch16.out).trans rfl, (cell_of_row _ _ _ _ _ _ Dh16.out).trans rfl, (cell_of_row _ _ _ _ _ _ Dh16.out).trans rfl, (cell_of_row _ _ _ _ _ _ Dh16.out).trans rfl, (cell_of_row _ _ _ _ _ _ Dh16.out).trans rfl, (cell_of_row _ _ _ _ _ _ Dh16.out).trans rfl, (cell_of_row _ _ _ _ _ _ Dh16.out).trans rfl, (cell_of_row _ _ _ _ _ _ Dh16.out).trans rfl, (cell_of_row _ _ _ _ _ _ Dh16.out).trans rfl, HB16.out⟩
        clear Kh16 Ch16 Dh16 Ph16 Xh16 Yh16 Uh16 Vh16 HB16
        go_region_held3 (fun w' => w'.heap[w.heap.size]? = some (.cells #[.int .i64 x, .int .i64 y] 29) ∧ w'.heap[bC]? = some (.cells #[.int .i64 c.office, .int .i64 c.hour, .int .i64 c.inn, .int .i64 c.out, .int .i64 c.store, .string c.prev, .int .i64 c.e, .int .i64 c.s] 25) ∧ w'.heap[bD]? = some (.cells #[.int .i64 d.office, .int .i64 d.hour, .int .i64 d.inn, .int .i64 d.out, .int .i64 d.store, .string d.prev, .int .i64 g1, .int .i64 g2] 25) ∧ w'.heap[bP]? = some (.cells #[.int .i64 p.office, .int .i64 p.since, .int .i64 p.till, .int .i64 p.litres, .int .i64 p.e, .int .i64 p.s] 27) ∧ w'.heap[bX]? = some (.cells #[.int .i64 c.office, .int .i64 c.hour, .int .i64 c.inn, .int .i64 c.out, .int .i64 c.store, .string c.prev, .int .i64 g1, .int .i64 g2] 25) ∧ w'.heap[bY]? = some (.cells #[.int .i64 c.office, .int .i64 c.hour, .int .i64 c.inn, .int .i64 c.out, .int .i64 c.store, .string c.prev, .int .i64 c.e, .int .i64 c.s] 25) ∧ w'.heap[bU]? = some (.cells #[.int .i64 p.office, .int .i64 p.since, .int .i64 p.till, .int .i64 p.litres, .int .i64 t1, .int .i64 t2] 27) ∧ w'.heap[bV]? = some (.cells #[.int .i64 p.office, .int .i64 p.since, .int .i64 p.till, .int .i64 p.litres, .int .i64 p.e, .int .i64 p.s] 27) ∧ w'.cell? ⟨w.heap.size, 0, none⟩ = some (.int .i64 x) ∧ w'.cell? ⟨w.heap.size, 1, none⟩ = some (.int .i64 y) ∧ w'.cell? ⟨bC, 0, none⟩ = some (.int .i64 c.office) ∧ w'.cell? ⟨bC, 1, none⟩ = some (.int .i64 c.hour) ∧ w'.cell? ⟨bC, 2, none⟩ = some (.int .i64 c.inn) ∧ w'.cell? ⟨bC, 3, none⟩ = some (.int .i64 c.out) ∧ w'.cell? ⟨bC, 4, none⟩ = some (.int .i64 c.store) ∧ w'.cell? ⟨bC, 5, none⟩ = some (.string c.prev) ∧ w'.cell? ⟨bC, 6, none⟩ = some (.int .i64 c.e) ∧ w'.cell? ⟨bC, 7, none⟩ = some (.int .i64 c.s) ∧ w'.cell? ⟨bD, 0, none⟩ = some (.int .i64 d.office) ∧ w'.cell? ⟨bD, 1, none⟩ = some (.int .i64 d.hour) ∧ w'.cell? ⟨bD, 2, none⟩ = some (.int .i64 d.inn) ∧ w'.cell? ⟨bD, 3, none⟩ = some (.int .i64 d.out) ∧ w'.cell? ⟨bD, 4, none⟩ = some (.int .i64 d.store) ∧ w'.cell? ⟨bD, 5, none⟩ = some (.string d.prev) ∧ w'.cell? ⟨bD, 6, none⟩ = some (.int .i64 g1) ∧ w'.cell? ⟨bD, 7, none⟩ = some (.int .i64 g2) ∧ Below w.heap.size w w') (first | assumption | exact HS0.out | exact signs_stepC (by assumption) hb | exact signs_stepCN (by assumption) _ | exact signs_stepCA (by assumption) | exact signs_stepCU (by assumption) | exact signs_stepCN (signs_stepCU (by assumption)) _) ((first | (go_at_call 12; refine (HF.out.core _ _ _ _ _ _ _ _ (by first | exact okc | exact okd) (by first | exact ig1 | exact ic1) (by first | exact ig2 | exact ic2) _ (HM.out.up (show _ ∧ _ ∧ _ ∧ _ ∧ _ ∧ _ ∧ _ ∧ _ ∧ _ ∧ _ ∧ _ ∧ _ ∧ _ ∧ _ ∧ _ ∧ _ ∧ _ ∧ _ ∧ _ ∧ _ ∧ _ ∧ _ ∧ _ ∧ _ ∧ _ ∧ _ ∧ Below w.heap.size w _ by assumption).2.2.2.2.2.2.2.2.2.2.2.2.2.2.2.2.2.2.2.2.2.2.2.2.2.2)).mono ?_; rintro e w' ⟨rfl, hb⟩) | (go_at_call 33; refine (HF.out.chal _ (by first | exact szc | exact szd) _).mono ?_; rintro e w' ⟨rfl, hb⟩)))
        rename World => w17
        rename _ ∧ _ => hFin
        obtain ⟨qK, qC, qD, qP, qX, qY, qU, qV, -, -, -, -, -, -, -, -, -, -, -, -, -, -, -, -, -, -, qBel⟩ := hFin
        have Kh17 := Lib.hid qK
        have Ch17 := Lib.hid qC
        have Dh17 := Lib.hid qD
        have Ph17 := Lib.hid qP
        have Xh17 := Lib.hid qX
        have Yh17 := Lib.hid qY
        have Uh17 := Lib.hid qU
        have Vh17 := Lib.hid qV
        have HB17 := Lib.hid qBel
        clear HS0 qBel qK qC qD qP qX qY qU qV
        have cK0 : w17.cell? ⟨w.heap.size, 0, none⟩ = some (.int .i64 x) := (cell_of_row _ _ _ _ _ _ Kh17.out).trans rfl
        have cK1 : w17.cell? ⟨w.heap.size, 1, none⟩ = some (.int .i64 y) := (cell_of_row _ _ _ _ _ _ Kh17.out).trans rfl
        have cC0 : w17.cell? ⟨bC, 0, none⟩ = some (.int .i64 c.office) := (cell_of_row _ _ _ _ _ _ Ch17.out).trans rfl
        have cC1 : w17.cell? ⟨bC, 1, none⟩ = some (.int .i64 c.hour) := (cell_of_row _ _ _ _ _ _ Ch17.out).trans rfl
        have cC2 : w17.cell? ⟨bC, 2, none⟩ = some (.int .i64 c.inn) := (cell_of_row _ _ _ _ _ _ Ch17.out).trans rfl
        have cC3 : w17.cell? ⟨bC, 3, none⟩ = some (.int .i64 c.out) := (cell_of_row _ _ _ _ _ _ Ch17.out).trans rfl
        have cC4 : w17.cell? ⟨bC, 4, none⟩ = some (.int .i64 c.store) := (cell_of_row _ _ _ _ _ _ Ch17.out).trans rfl
        have cC5 : w17.cell? ⟨bC, 5, none⟩ = some (.string c.prev) := (cell_of_row _ _ _ _ _ _ Ch17.out).trans rfl
        have cC6 : w17.cell? ⟨bC, 6, none⟩ = some (.int .i64 c.e) := (cell_of_row _ _ _ _ _ _ Ch17.out).trans rfl
        have cC7 : w17.cell? ⟨bC, 7, none⟩ = some (.int .i64 c.s) := (cell_of_row _ _ _ _ _ _ Ch17.out).trans rfl
        have cD0 : w17.cell? ⟨bD, 0, none⟩ = some (.int .i64 d.office) := (cell_of_row _ _ _ _ _ _ Dh17.out).trans rfl
        have cD1 : w17.cell? ⟨bD, 1, none⟩ = some (.int .i64 d.hour) := (cell_of_row _ _ _ _ _ _ Dh17.out).trans rfl
        have cD2 : w17.cell? ⟨bD, 2, none⟩ = some (.int .i64 d.inn) := (cell_of_row _ _ _ _ _ _ Dh17.out).trans rfl
        have cD3 : w17.cell? ⟨bD, 3, none⟩ = some (.int .i64 d.out) := (cell_of_row _ _ _ _ _ _ Dh17.out).trans rfl
        have cD4 : w17.cell? ⟨bD, 4, none⟩ = some (.int .i64 d.store) := (cell_of_row _ _ _ _ _ _ Dh17.out).trans rfl
        have cD5 : w17.cell? ⟨bD, 5, none⟩ = some (.string d.prev) := (cell_of_row _ _ _ _ _ _ Dh17.out).trans rfl
        have cD6 : w17.cell? ⟨bD, 6, none⟩ = some (.int .i64 g1) := (cell_of_row _ _ _ _ _ _ Dh17.out).trans rfl
        have cD7 : w17.cell? ⟨bD, 7, none⟩ = some (.int .i64 g2) := (cell_of_row _ _ _ _ _ _ Dh17.out).trans rfl
        have cP0 : w17.cell? ⟨bP, 0, none⟩ = some (.int .i64 p.office) := (cell_of_row _ _ _ _ _ _ Ph17.out).trans rfl
        have cP1 : w17.cell? ⟨bP, 1, none⟩ = some (.int .i64 p.since) := (cell_of_row _ _ _ _ _ _ Ph17.out).trans rfl
        have cP2 : w17.cell? ⟨bP, 2, none⟩ = some (.int .i64 p.till) := (cell_of_row _ _ _ _ _ _ Ph17.out).trans rfl
        have cP3 : w17.cell? ⟨bP, 3, none⟩ = some (.int .i64 p.litres) := (cell_of_row _ _ _ _ _ _ Ph17.out).trans rfl
        have cP4 : w17.cell? ⟨bP, 4, none⟩ = some (.int .i64 p.e) := (cell_of_row _ _ _ _ _ _ Ph17.out).trans rfl
        have cP5 : w17.cell? ⟨bP, 5, none⟩ = some (.int .i64 p.s) := (cell_of_row _ _ _ _ _ _ Ph17.out).trans rfl
        have cX0 : w17.cell? ⟨bX, 0, none⟩ = some (.int .i64 c.office) := (cell_of_row _ _ _ _ _ _ Xh17.out).trans rfl
        have cX1 : w17.cell? ⟨bX, 1, none⟩ = some (.int .i64 c.hour) := (cell_of_row _ _ _ _ _ _ Xh17.out).trans rfl
        have cX2 : w17.cell? ⟨bX, 2, none⟩ = some (.int .i64 c.inn) := (cell_of_row _ _ _ _ _ _ Xh17.out).trans rfl
        have cX3 : w17.cell? ⟨bX, 3, none⟩ = some (.int .i64 c.out) := (cell_of_row _ _ _ _ _ _ Xh17.out).trans rfl
        have cX4 : w17.cell? ⟨bX, 4, none⟩ = some (.int .i64 c.store) := (cell_of_row _ _ _ _ _ _ Xh17.out).trans rfl
        have cX5 : w17.cell? ⟨bX, 5, none⟩ = some (.string c.prev) := (cell_of_row _ _ _ _ _ _ Xh17.out).trans rfl
        have cX6 : w17.cell? ⟨bX, 6, none⟩ = some (.int .i64 g1) := (cell_of_row _ _ _ _ _ _ Xh17.out).trans rfl
        have cX7 : w17.cell? ⟨bX, 7, none⟩ = some (.int .i64 g2) := (cell_of_row _ _ _ _ _ _ Xh17.out).trans rfl
        have cY0 : w17.cell? ⟨bY, 0, none⟩ = some (.int .i64 c.office) := (cell_of_row _ _ _ _ _ _ Yh17.out).trans rfl
        have cY1 : w17.cell? ⟨bY, 1, none⟩ = some (.int .i64 c.hour) := (cell_of_row _ _ _ _ _ _ Yh17.out).trans rfl
        have cY2 : w17.cell? ⟨bY, 2, none⟩ = some (.int .i64 c.inn) := (cell_of_row _ _ _ _ _ _ Yh17.out).trans rfl
        have cY3 : w17.cell? ⟨bY, 3, none⟩ = some (.int .i64 c.out) := (cell_of_row _ _ _ _ _ _ Yh17.out).trans rfl
        have cY4 : w17.cell? ⟨bY, 4, none⟩ = some (.int .i64 c.store) := (cell_of_row _ _ _ _ _ _ Yh17.out).trans rfl
        have cY5 : w17.cell? ⟨bY, 5, none⟩ = some (.string c.prev) := (cell_of_row _ _ _ _ _ _ Yh17.out).trans rfl
        have cY6 : w17.cell? ⟨bY, 6, none⟩ = some (.int .i64 c.e) := (cell_of_row _ _ _ _ _ _ Yh17.out).trans rfl
        have cY7 : w17.cell? ⟨bY, 7, none⟩ = some (.int .i64 c.s) := (cell_of_row _ _ _ _ _ _ Yh17.out).trans rfl
        have cU0 : w17.cell? ⟨bU, 0, none⟩ = some (.int .i64 p.office) := (cell_of_row _ _ _ _ _ _ Uh17.out).trans rfl
        have cU1 : w17.cell? ⟨bU, 1, none⟩ = some (.int .i64 p.since) := (cell_of_row _ _ _ _ _ _ Uh17.out).trans rfl
        have cU2 : w17.cell? ⟨bU, 2, none⟩ = some (.int .i64 p.till) := (cell_of_row _ _ _ _ _ _ Uh17.out).trans rfl
        have cU3 : w17.cell? ⟨bU, 3, none⟩ = some (.int .i64 p.litres) := (cell_of_row _ _ _ _ _ _ Uh17.out).trans rfl
        have cU4 : w17.cell? ⟨bU, 4, none⟩ = some (.int .i64 t1) := (cell_of_row _ _ _ _ _ _ Uh17.out).trans rfl
        have cU5 : w17.cell? ⟨bU, 5, none⟩ = some (.int .i64 t2) := (cell_of_row _ _ _ _ _ _ Uh17.out).trans rfl
        have cV0 : w17.cell? ⟨bV, 0, none⟩ = some (.int .i64 p.office) := (cell_of_row _ _ _ _ _ _ Vh17.out).trans rfl
        have cV1 : w17.cell? ⟨bV, 1, none⟩ = some (.int .i64 p.since) := (cell_of_row _ _ _ _ _ _ Vh17.out).trans rfl
        have cV2 : w17.cell? ⟨bV, 2, none⟩ = some (.int .i64 p.till) := (cell_of_row _ _ _ _ _ _ Vh17.out).trans rfl
        have cV3 : w17.cell? ⟨bV, 3, none⟩ = some (.int .i64 p.litres) := (cell_of_row _ _ _ _ _ _ Vh17.out).trans rfl
        have cV4 : w17.cell? ⟨bV, 4, none⟩ = some (.int .i64 p.e) := (cell_of_row _ _ _ _ _ _ Vh17.out).trans rfl
        have cV5 : w17.cell? ⟨bV, 5, none⟩ = some (.int .i64 p.s) := (cell_of_row _ _ _ _ _ _ Vh17.out).trans rfl
        go_wp2_with fail
        go_ret
        exact ⟨rfl, HB17.out⟩
    · rw [decide_eq_false hr] at HRi
      clear hc hd hp hcm hdm hsh hr
      go_enter Tryz.func4, Tryz.ntmps4
      go_upto_region 1 with fail
      obtain ⟨r0, r1, r2, r3, rb⟩ := four_rowsS (w := w) (A := (.cells #[.int .i64 x, .int .i64 y] 29)) (B := (.cells #[.int .i64 c.office, .int .i64 c.hour, .int .i64 c.inn, .int .i64 c.out, .int .i64 c.store, .string c.prev, .int .i64 c.e, .int .i64 c.s] 25)) (C := (.cells #[.int .i64 d.office, .int .i64 d.hour, .int .i64 d.inn, .int .i64 d.out, .int .i64 d.store, .string d.prev, .int .i64 d.e, .int .i64 d.s] 25)) (D := (.cells #[.int .i64 p.office, .int .i64 p.since, .int .i64 p.till, .int .i64 p.litres, .int .i64 p.e, .int .i64 p.s] 27))
      have Kh1 := Lib.hid r0
      have Ch1 := Lib.hid r1
      have Dh1 := Lib.hid r2
      have Ph1 := Lib.hid r3
      have HB1 := Lib.hid rb
      clear r0 r1 r2 r3 rb
      have ne_K_C : w.heap.size ≠ w.heap.size + 1 := by omega
      have ne_K_D : w.heap.size ≠ w.heap.size + 1 + 1 := by omega
      have ne_K_P : w.heap.size ≠ w.heap.size + 1 + 1 + 1 := by omega
      have le_K : w.heap.size ≤ w.heap.size := by omega
      have ne_C_D : w.heap.size + 1 ≠ w.heap.size + 1 + 1 := by omega
      have ne_C_P : w.heap.size + 1 ≠ w.heap.size + 1 + 1 + 1 := by omega
      have le_C : w.heap.size ≤ w.heap.size + 1 := by omega
      have ne_D_P : w.heap.size + 1 + 1 ≠ w.heap.size + 1 + 1 + 1 := by omega
      have le_D : w.heap.size ≤ w.heap.size + 1 + 1 := by omega
      have le_P : w.heap.size ≤ w.heap.size + 1 + 1 + 1 := by omega
      generalize ((((w.alloc (.cells #[.int .i64 x, .int .i64 y] 29)).alloc (.cells #[.int .i64 c.office, .int .i64 c.hour, .int .i64 c.inn, .int .i64 c.out, .int .i64 c.store, .string c.prev, .int .i64 c.e, .int .i64 c.s] 25)).alloc (.cells #[.int .i64 d.office, .int .i64 d.hour, .int .i64 d.inn, .int .i64 d.out, .int .i64 d.store, .string d.prev, .int .i64 d.e, .int .i64 d.s] 25)).alloc (.cells #[.int .i64 p.office, .int .i64 p.since, .int .i64 p.till, .int .i64 p.litres, .int .i64 p.e, .int .i64 p.s] 27)) = w1 at *
      generalize w.heap.size + 1 + 1 + 1 = bP at *
      generalize w.heap.size + 1 + 1 = bD at *
      generalize w.heap.size + 1 = bC at *
      go_wp2_with fail
      refine (small_any _ (HG.out.below HB1.out HG.out.size) (HM.out.up HB1.out)).mono ?_
      rintro e w2 ⟨rfl, hb⟩
      have HB2 := Lib.hid (HB1.out.trans (hb.mono HB1.out.size))
      have Kh2 := Lib.hid (blk_below Kh1.out hb (blk_lt Kh1.out))
      have Ch2 := Lib.hid (blk_below Ch1.out hb (blk_lt Ch1.out))
      have Dh2 := Lib.hid (blk_below Dh1.out hb (blk_lt Dh1.out))
      have Ph2 := Lib.hid (blk_below Ph1.out hb (blk_lt Ph1.out))
      clear HB1 Kh1 Ch1 Dh1 Ph1
      clear hb
      have cK0 : w2.cell? ⟨w.heap.size, 0, none⟩ = some (.int .i64 x) := (cell_of_row _ _ _ _ _ _ Kh2.out).trans rfl
      have cK1 : w2.cell? ⟨w.heap.size, 1, none⟩ = some (.int .i64 y) := (cell_of_row _ _ _ _ _ _ Kh2.out).trans rfl
      have cC0 : w2.cell? ⟨bC, 0, none⟩ = some (.int .i64 c.office) := (cell_of_row _ _ _ _ _ _ Ch2.out).trans rfl
      have cC1 : w2.cell? ⟨bC, 1, none⟩ = some (.int .i64 c.hour) := (cell_of_row _ _ _ _ _ _ Ch2.out).trans rfl
      have cC2 : w2.cell? ⟨bC, 2, none⟩ = some (.int .i64 c.inn) := (cell_of_row _ _ _ _ _ _ Ch2.out).trans rfl
      have cC3 : w2.cell? ⟨bC, 3, none⟩ = some (.int .i64 c.out) := (cell_of_row _ _ _ _ _ _ Ch2.out).trans rfl
      have cC4 : w2.cell? ⟨bC, 4, none⟩ = some (.int .i64 c.store) := (cell_of_row _ _ _ _ _ _ Ch2.out).trans rfl
      have cC5 : w2.cell? ⟨bC, 5, none⟩ = some (.string c.prev) := (cell_of_row _ _ _ _ _ _ Ch2.out).trans rfl
      have cC6 : w2.cell? ⟨bC, 6, none⟩ = some (.int .i64 c.e) := (cell_of_row _ _ _ _ _ _ Ch2.out).trans rfl
      have cC7 : w2.cell? ⟨bC, 7, none⟩ = some (.int .i64 c.s) := (cell_of_row _ _ _ _ _ _ Ch2.out).trans rfl
      have cD0 : w2.cell? ⟨bD, 0, none⟩ = some (.int .i64 d.office) := (cell_of_row _ _ _ _ _ _ Dh2.out).trans rfl
      have cD1 : w2.cell? ⟨bD, 1, none⟩ = some (.int .i64 d.hour) := (cell_of_row _ _ _ _ _ _ Dh2.out).trans rfl
      have cD2 : w2.cell? ⟨bD, 2, none⟩ = some (.int .i64 d.inn) := (cell_of_row _ _ _ _ _ _ Dh2.out).trans rfl
      have cD3 : w2.cell? ⟨bD, 3, none⟩ = some (.int .i64 d.out) := (cell_of_row _ _ _ _ _ _ Dh2.out).trans rfl
      have cD4 : w2.cell? ⟨bD, 4, none⟩ = some (.int .i64 d.store) := (cell_of_row _ _ _ _ _ _ Dh2.out).trans rfl
      have cD5 : w2.cell? ⟨bD, 5, none⟩ = some (.string d.prev) := (cell_of_row _ _ _ _ _ _ Dh2.out).trans rfl
      have cD6 : w2.cell? ⟨bD, 6, none⟩ = some (.int .i64 d.e) := (cell_of_row _ _ _ _ _ _ Dh2.out).trans rfl
      have cD7 : w2.cell? ⟨bD, 7, none⟩ = some (.int .i64 d.s) := (cell_of_row _ _ _ _ _ _ Dh2.out).trans rfl
      have cP0 : w2.cell? ⟨bP, 0, none⟩ = some (.int .i64 p.office) := (cell_of_row _ _ _ _ _ _ Ph2.out).trans rfl
      have cP1 : w2.cell? ⟨bP, 1, none⟩ = some (.int .i64 p.since) := (cell_of_row _ _ _ _ _ _ Ph2.out).trans rfl
      have cP2 : w2.cell? ⟨bP, 2, none⟩ = some (.int .i64 p.till) := (cell_of_row _ _ _ _ _ _ Ph2.out).trans rfl
      have cP3 : w2.cell? ⟨bP, 3, none⟩ = some (.int .i64 p.litres) := (cell_of_row _ _ _ _ _ _ Ph2.out).trans rfl
      have cP4 : w2.cell? ⟨bP, 4, none⟩ = some (.int .i64 p.e) := (cell_of_row _ _ _ _ _ _ Ph2.out).trans rfl
      have cP5 : w2.cell? ⟨bP, 5, none⟩ = some (.int .i64 p.s) := (cell_of_row _ _ _ _ _ _ Ph2.out).trans rfl
      go_wp2_with fail
      refine (HSh.out _ _ (heap_alloc_new _ _)).mono ?_
      rintro e w3 ⟨rfl, rfl⟩
      have hb : Below w2.heap.size w2 (w2.alloc (.cells #[.int .i64 c.office, .int .i64 c.hour, .int .i64 c.inn, .int .i64 c.out, .int .i64 c.store, .string c.prev, .int .i64 c.e, .int .i64 c.s, .int .i64 d.office, .int .i64 d.hour, .int .i64 d.inn, .int .i64 d.out, .int .i64 d.store, .string d.prev, .int .i64 d.e, .int .i64 d.s] 25)) := (Below.refl _ _).alloc (Nat.le_refl _) _
      have HB3 := Lib.hid (HB2.out.trans (hb.mono HB2.out.size))
      have Kh3 := Lib.hid (blk_below Kh2.out hb (blk_lt Kh2.out))
      have Ch3 := Lib.hid (blk_below Ch2.out hb (blk_lt Ch2.out))
      have Dh3 := Lib.hid (blk_below Dh2.out hb (blk_lt Dh2.out))
      have Ph3 := Lib.hid (blk_below Ph2.out hb (blk_lt Ph2.out))
      clear cK0 cK1 cC0 cC1 cC2 cC3 cC4 cC5 cC6 cC7 cD0 cD1 cD2 cD3 cD4 cD5 cD6 cD7 cP0 cP1 cP2 cP3 cP4 cP5
      clear HB2 Kh2 Ch2 Dh2 Ph2
      clear hb
      generalize w2.alloc (.cells #[.int .i64 c.office, .int .i64 c.hour, .int .i64 c.inn, .int .i64 c.out, .int .i64 c.store, .string c.prev, .int .i64 c.e, .int .i64 c.s, .int .i64 d.office, .int .i64 d.hour, .int .i64 d.inn, .int .i64 d.out, .int .i64 d.store, .string d.prev, .int .i64 d.e, .int .i64 d.s] 25) = w3 at *
      have cK0 : w3.cell? ⟨w.heap.size, 0, none⟩ = some (.int .i64 x) := (cell_of_row _ _ _ _ _ _ Kh3.out).trans rfl
      have cK1 : w3.cell? ⟨w.heap.size, 1, none⟩ = some (.int .i64 y) := (cell_of_row _ _ _ _ _ _ Kh3.out).trans rfl
      have cC0 : w3.cell? ⟨bC, 0, none⟩ = some (.int .i64 c.office) := (cell_of_row _ _ _ _ _ _ Ch3.out).trans rfl
      have cC1 : w3.cell? ⟨bC, 1, none⟩ = some (.int .i64 c.hour) := (cell_of_row _ _ _ _ _ _ Ch3.out).trans rfl
      have cC2 : w3.cell? ⟨bC, 2, none⟩ = some (.int .i64 c.inn) := (cell_of_row _ _ _ _ _ _ Ch3.out).trans rfl
      have cC3 : w3.cell? ⟨bC, 3, none⟩ = some (.int .i64 c.out) := (cell_of_row _ _ _ _ _ _ Ch3.out).trans rfl
      have cC4 : w3.cell? ⟨bC, 4, none⟩ = some (.int .i64 c.store) := (cell_of_row _ _ _ _ _ _ Ch3.out).trans rfl
      have cC5 : w3.cell? ⟨bC, 5, none⟩ = some (.string c.prev) := (cell_of_row _ _ _ _ _ _ Ch3.out).trans rfl
      have cC6 : w3.cell? ⟨bC, 6, none⟩ = some (.int .i64 c.e) := (cell_of_row _ _ _ _ _ _ Ch3.out).trans rfl
      have cC7 : w3.cell? ⟨bC, 7, none⟩ = some (.int .i64 c.s) := (cell_of_row _ _ _ _ _ _ Ch3.out).trans rfl
      have cD0 : w3.cell? ⟨bD, 0, none⟩ = some (.int .i64 d.office) := (cell_of_row _ _ _ _ _ _ Dh3.out).trans rfl
      have cD1 : w3.cell? ⟨bD, 1, none⟩ = some (.int .i64 d.hour) := (cell_of_row _ _ _ _ _ _ Dh3.out).trans rfl
      have cD2 : w3.cell? ⟨bD, 2, none⟩ = some (.int .i64 d.inn) := (cell_of_row _ _ _ _ _ _ Dh3.out).trans rfl
      have cD3 : w3.cell? ⟨bD, 3, none⟩ = some (.int .i64 d.out) := (cell_of_row _ _ _ _ _ _ Dh3.out).trans rfl
      have cD4 : w3.cell? ⟨bD, 4, none⟩ = some (.int .i64 d.store) := (cell_of_row _ _ _ _ _ _ Dh3.out).trans rfl
      have cD5 : w3.cell? ⟨bD, 5, none⟩ = some (.string d.prev) := (cell_of_row _ _ _ _ _ _ Dh3.out).trans rfl
      have cD6 : w3.cell? ⟨bD, 6, none⟩ = some (.int .i64 d.e) := (cell_of_row _ _ _ _ _ _ Dh3.out).trans rfl
      have cD7 : w3.cell? ⟨bD, 7, none⟩ = some (.int .i64 d.s) := (cell_of_row _ _ _ _ _ _ Dh3.out).trans rfl
      have cP0 : w3.cell? ⟨bP, 0, none⟩ = some (.int .i64 p.office) := (cell_of_row _ _ _ _ _ _ Ph3.out).trans rfl
      have cP1 : w3.cell? ⟨bP, 1, none⟩ = some (.int .i64 p.since) := (cell_of_row _ _ _ _ _ _ Ph3.out).trans rfl
      have cP2 : w3.cell? ⟨bP, 2, none⟩ = some (.int .i64 p.till) := (cell_of_row _ _ _ _ _ _ Ph3.out).trans rfl
      have cP3 : w3.cell? ⟨bP, 3, none⟩ = some (.int .i64 p.litres) := (cell_of_row _ _ _ _ _ _ Ph3.out).trans rfl
      have cP4 : w3.cell? ⟨bP, 4, none⟩ = some (.int .i64 p.e) := (cell_of_row _ _ _ _ _ _ Ph3.out).trans rfl
      have cP5 : w3.cell? ⟨bP, 5, none⟩ = some (.int .i64 p.s) := (cell_of_row _ _ _ _ _ _ Ph3.out).trans rfl
      go_wp2_with fail
      refine (HRi.out _).mono ?_
      rintro e w4 ⟨rfl, hb⟩
      have HB4 := Lib.hid (HB3.out.trans (hb.mono HB3.out.size))
      have Kh4 := Lib.hid (blk_below Kh3.out hb (blk_lt Kh3.out))
      have Ch4 := Lib.hid (blk_below Ch3.out hb (blk_lt Ch3.out))
      have Dh4 := Lib.hid (blk_below Dh3.out hb (blk_lt Dh3.out))
      have Ph4 := Lib.hid (blk_below Ph3.out hb (blk_lt Ph3.out))
      clear cK0 cK1 cC0 cC1 cC2 cC3 cC4 cC5 cC6 cC7 cD0 cD1 cD2 cD3 cD4 cD5 cD6 cD7 cP0 cP1 cP2 cP3 cP4 cP5
      clear HB3 Kh3 Ch3 Dh3 Ph3
      clear hb
      have cK0 : w4.cell? ⟨w.heap.size, 0, none⟩ = some (.int .i64 x) := (cell_of_row _ _ _ _ _ _ Kh4.out).trans rfl
      have cK1 : w4.cell? ⟨w.heap.size, 1, none⟩ = some (.int .i64 y) := (cell_of_row _ _ _ _ _ _ Kh4.out).trans rfl
      have cC0 : w4.cell? ⟨bC, 0, none⟩ = some (.int .i64 c.office) := (cell_of_row _ _ _ _ _ _ Ch4.out).trans rfl
      have cC1 : w4.cell? ⟨bC, 1, none⟩ = some (.int .i64 c.hour) := (cell_of_row _ _ _ _ _ _ Ch4.out).trans rfl
      have cC2 : w4.cell? ⟨bC, 2, none⟩ = some (.int .i64 c.inn) := (cell_of_row _ _ _ _ _ _ Ch4.out).trans rfl
      have cC3 : w4.cell? ⟨bC, 3, none⟩ = some (.int .i64 c.out) := (cell_of_row _ _ _ _ _ _ Ch4.out).trans rfl
      have cC4 : w4.cell? ⟨bC, 4, none⟩ = some (.int .i64 c.store) := (cell_of_row _ _ _ _ _ _ Ch4.out).trans rfl
      have cC5 : w4.cell? ⟨bC, 5, none⟩ = some (.string c.prev) := (cell_of_row _ _ _ _ _ _ Ch4.out).trans rfl
      have cC6 : w4.cell? ⟨bC, 6, none⟩ = some (.int .i64 c.e) := (cell_of_row _ _ _ _ _ _ Ch4.out).trans rfl
      have cC7 : w4.cell? ⟨bC, 7, none⟩ = some (.int .i64 c.s) := (cell_of_row _ _ _ _ _ _ Ch4.out).trans rfl
      have cD0 : w4.cell? ⟨bD, 0, none⟩ = some (.int .i64 d.office) := (cell_of_row _ _ _ _ _ _ Dh4.out).trans rfl
      have cD1 : w4.cell? ⟨bD, 1, none⟩ = some (.int .i64 d.hour) := (cell_of_row _ _ _ _ _ _ Dh4.out).trans rfl
      have cD2 : w4.cell? ⟨bD, 2, none⟩ = some (.int .i64 d.inn) := (cell_of_row _ _ _ _ _ _ Dh4.out).trans rfl
      have cD3 : w4.cell? ⟨bD, 3, none⟩ = some (.int .i64 d.out) := (cell_of_row _ _ _ _ _ _ Dh4.out).trans rfl
      have cD4 : w4.cell? ⟨bD, 4, none⟩ = some (.int .i64 d.store) := (cell_of_row _ _ _ _ _ _ Dh4.out).trans rfl
      have cD5 : w4.cell? ⟨bD, 5, none⟩ = some (.string d.prev) := (cell_of_row _ _ _ _ _ _ Dh4.out).trans rfl
      have cD6 : w4.cell? ⟨bD, 6, none⟩ = some (.int .i64 d.e) := (cell_of_row _ _ _ _ _ _ Dh4.out).trans rfl
      have cD7 : w4.cell? ⟨bD, 7, none⟩ = some (.int .i64 d.s) := (cell_of_row _ _ _ _ _ _ Dh4.out).trans rfl
      have cP0 : w4.cell? ⟨bP, 0, none⟩ = some (.int .i64 p.office) := (cell_of_row _ _ _ _ _ _ Ph4.out).trans rfl
      have cP1 : w4.cell? ⟨bP, 1, none⟩ = some (.int .i64 p.since) := (cell_of_row _ _ _ _ _ _ Ph4.out).trans rfl
      have cP2 : w4.cell? ⟨bP, 2, none⟩ = some (.int .i64 p.till) := (cell_of_row _ _ _ _ _ _ Ph4.out).trans rfl
      have cP3 : w4.cell? ⟨bP, 3, none⟩ = some (.int .i64 p.litres) := (cell_of_row _ _ _ _ _ _ Ph4.out).trans rfl
      have cP4 : w4.cell? ⟨bP, 4, none⟩ = some (.int .i64 p.e) := (cell_of_row _ _ _ _ _ _ Ph4.out).trans rfl
      have cP5 : w4.cell? ⟨bP, 5, none⟩ = some (.int .i64 p.s) := (cell_of_row _ _ _ _ _ _ Ph4.out).trans rfl
      go_wp2_with fail
      go_ret
      exact ⟨rfl, HB4.out⟩
  | false =>
    rw [hsh] at HSh
    clear hc hd hp hcm hdm hsh
    go_enter Tryz.func4, Tryz.ntmps4
    go_upto_region 1 with fail
    obtain ⟨r0, r1, r2, r3, rb⟩ := four_rowsS (w := w) (A := (.cells #[.int .i64 x, .int .i64 y] 29)) (B := (.cells #[.int .i64 c.office, .int .i64 c.hour, .int .i64 c.inn, .int .i64 c.out, .int .i64 c.store, .string c.prev, .int .i64 c.e, .int .i64 c.s] 25)) (C := (.cells #[.int .i64 d.office, .int .i64 d.hour, .int .i64 d.inn, .int .i64 d.out, .int .i64 d.store, .string d.prev, .int .i64 d.e, .int .i64 d.s] 25)) (D := (.cells #[.int .i64 p.office, .int .i64 p.since, .int .i64 p.till, .int .i64 p.litres, .int .i64 p.e, .int .i64 p.s] 27))
    have Kh1 := Lib.hid r0
    have Ch1 := Lib.hid r1
    have Dh1 := Lib.hid r2
    have Ph1 := Lib.hid r3
    have HB1 := Lib.hid rb
    clear r0 r1 r2 r3 rb
    have ne_K_C : w.heap.size ≠ w.heap.size + 1 := by omega
    have ne_K_D : w.heap.size ≠ w.heap.size + 1 + 1 := by omega
    have ne_K_P : w.heap.size ≠ w.heap.size + 1 + 1 + 1 := by omega
    have le_K : w.heap.size ≤ w.heap.size := by omega
    have ne_C_D : w.heap.size + 1 ≠ w.heap.size + 1 + 1 := by omega
    have ne_C_P : w.heap.size + 1 ≠ w.heap.size + 1 + 1 + 1 := by omega
    have le_C : w.heap.size ≤ w.heap.size + 1 := by omega
    have ne_D_P : w.heap.size + 1 + 1 ≠ w.heap.size + 1 + 1 + 1 := by omega
    have le_D : w.heap.size ≤ w.heap.size + 1 + 1 := by omega
    have le_P : w.heap.size ≤ w.heap.size + 1 + 1 + 1 := by omega
    generalize ((((w.alloc (.cells #[.int .i64 x, .int .i64 y] 29)).alloc (.cells #[.int .i64 c.office, .int .i64 c.hour, .int .i64 c.inn, .int .i64 c.out, .int .i64 c.store, .string c.prev, .int .i64 c.e, .int .i64 c.s] 25)).alloc (.cells #[.int .i64 d.office, .int .i64 d.hour, .int .i64 d.inn, .int .i64 d.out, .int .i64 d.store, .string d.prev, .int .i64 d.e, .int .i64 d.s] 25)).alloc (.cells #[.int .i64 p.office, .int .i64 p.since, .int .i64 p.till, .int .i64 p.litres, .int .i64 p.e, .int .i64 p.s] 27)) = w1 at *
    generalize w.heap.size + 1 + 1 + 1 = bP at *
    generalize w.heap.size + 1 + 1 = bD at *
    generalize w.heap.size + 1 = bC at *
    go_wp2_with fail
    refine (small_any _ (HG.out.below HB1.out HG.out.size) (HM.out.up HB1.out)).mono ?_
    rintro e w2 ⟨rfl, hb⟩
    have HB2 := Lib.hid (HB1.out.trans (hb.mono HB1.out.size))
    have Kh2 := Lib.hid (blk_below Kh1.out hb (blk_lt Kh1.out))
    have Ch2 := Lib.hid (blk_below Ch1.out hb (blk_lt Ch1.out))
    have Dh2 := Lib.hid (blk_below Dh1.out hb (blk_lt Dh1.out))
    have Ph2 := Lib.hid (blk_below Ph1.out hb (blk_lt Ph1.out))
    clear HB1 Kh1 Ch1 Dh1 Ph1
    clear hb
    have cK0 : w2.cell? ⟨w.heap.size, 0, none⟩ = some (.int .i64 x) := (cell_of_row _ _ _ _ _ _ Kh2.out).trans rfl
    have cK1 : w2.cell? ⟨w.heap.size, 1, none⟩ = some (.int .i64 y) := (cell_of_row _ _ _ _ _ _ Kh2.out).trans rfl
    have cC0 : w2.cell? ⟨bC, 0, none⟩ = some (.int .i64 c.office) := (cell_of_row _ _ _ _ _ _ Ch2.out).trans rfl
    have cC1 : w2.cell? ⟨bC, 1, none⟩ = some (.int .i64 c.hour) := (cell_of_row _ _ _ _ _ _ Ch2.out).trans rfl
    have cC2 : w2.cell? ⟨bC, 2, none⟩ = some (.int .i64 c.inn) := (cell_of_row _ _ _ _ _ _ Ch2.out).trans rfl
    have cC3 : w2.cell? ⟨bC, 3, none⟩ = some (.int .i64 c.out) := (cell_of_row _ _ _ _ _ _ Ch2.out).trans rfl
    have cC4 : w2.cell? ⟨bC, 4, none⟩ = some (.int .i64 c.store) := (cell_of_row _ _ _ _ _ _ Ch2.out).trans rfl
    have cC5 : w2.cell? ⟨bC, 5, none⟩ = some (.string c.prev) := (cell_of_row _ _ _ _ _ _ Ch2.out).trans rfl
    have cC6 : w2.cell? ⟨bC, 6, none⟩ = some (.int .i64 c.e) := (cell_of_row _ _ _ _ _ _ Ch2.out).trans rfl
    have cC7 : w2.cell? ⟨bC, 7, none⟩ = some (.int .i64 c.s) := (cell_of_row _ _ _ _ _ _ Ch2.out).trans rfl
    have cD0 : w2.cell? ⟨bD, 0, none⟩ = some (.int .i64 d.office) := (cell_of_row _ _ _ _ _ _ Dh2.out).trans rfl
    have cD1 : w2.cell? ⟨bD, 1, none⟩ = some (.int .i64 d.hour) := (cell_of_row _ _ _ _ _ _ Dh2.out).trans rfl
    have cD2 : w2.cell? ⟨bD, 2, none⟩ = some (.int .i64 d.inn) := (cell_of_row _ _ _ _ _ _ Dh2.out).trans rfl
    have cD3 : w2.cell? ⟨bD, 3, none⟩ = some (.int .i64 d.out) := (cell_of_row _ _ _ _ _ _ Dh2.out).trans rfl
    have cD4 : w2.cell? ⟨bD, 4, none⟩ = some (.int .i64 d.store) := (cell_of_row _ _ _ _ _ _ Dh2.out).trans rfl
    have cD5 : w2.cell? ⟨bD, 5, none⟩ = some (.string d.prev) := (cell_of_row _ _ _ _ _ _ Dh2.out).trans rfl
    have cD6 : w2.cell? ⟨bD, 6, none⟩ = some (.int .i64 d.e) := (cell_of_row _ _ _ _ _ _ Dh2.out).trans rfl
    have cD7 : w2.cell? ⟨bD, 7, none⟩ = some (.int .i64 d.s) := (cell_of_row _ _ _ _ _ _ Dh2.out).trans rfl
    have cP0 : w2.cell? ⟨bP, 0, none⟩ = some (.int .i64 p.office) := (cell_of_row _ _ _ _ _ _ Ph2.out).trans rfl
    have cP1 : w2.cell? ⟨bP, 1, none⟩ = some (.int .i64 p.since) := (cell_of_row _ _ _ _ _ _ Ph2.out).trans rfl
    have cP2 : w2.cell? ⟨bP, 2, none⟩ = some (.int .i64 p.till) := (cell_of_row _ _ _ _ _ _ Ph2.out).trans rfl
    have cP3 : w2.cell? ⟨bP, 3, none⟩ = some (.int .i64 p.litres) := (cell_of_row _ _ _ _ _ _ Ph2.out).trans rfl
    have cP4 : w2.cell? ⟨bP, 4, none⟩ = some (.int .i64 p.e) := (cell_of_row _ _ _ _ _ _ Ph2.out).trans rfl
    have cP5 : w2.cell? ⟨bP, 5, none⟩ = some (.int .i64 p.s) := (cell_of_row _ _ _ _ _ _ Ph2.out).trans rfl
    go_wp2_with fail
    refine (HSh.out _ _ (heap_alloc_new _ _)).mono ?_
    rintro e w3 ⟨rfl, rfl⟩
    have hb : Below w2.heap.size w2 (w2.alloc (.cells #[.int .i64 c.office, .int .i64 c.hour, .int .i64 c.inn, .int .i64 c.out, .int .i64 c.store, .string c.prev, .int .i64 c.e, .int .i64 c.s, .int .i64 d.office, .int .i64 d.hour, .int .i64 d.inn, .int .i64 d.out, .int .i64 d.store, .string d.prev, .int .i64 d.e, .int .i64 d.s] 25)) := (Below.refl _ _).alloc (Nat.le_refl _) _
    have HB3 := Lib.hid (HB2.out.trans (hb.mono HB2.out.size))
    have Kh3 := Lib.hid (blk_below Kh2.out hb (blk_lt Kh2.out))
    have Ch3 := Lib.hid (blk_below Ch2.out hb (blk_lt Ch2.out))
    have Dh3 := Lib.hid (blk_below Dh2.out hb (blk_lt Dh2.out))
    have Ph3 := Lib.hid (blk_below Ph2.out hb (blk_lt Ph2.out))
    clear cK0 cK1 cC0 cC1 cC2 cC3 cC4 cC5 cC6 cC7 cD0 cD1 cD2 cD3 cD4 cD5 cD6 cD7 cP0 cP1 cP2 cP3 cP4 cP5
    clear HB2 Kh2 Ch2 Dh2 Ph2
    clear hb
    generalize w2.alloc (.cells #[.int .i64 c.office, .int .i64 c.hour, .int .i64 c.inn, .int .i64 c.out, .int .i64 c.store, .string c.prev, .int .i64 c.e, .int .i64 c.s, .int .i64 d.office, .int .i64 d.hour, .int .i64 d.inn, .int .i64 d.out, .int .i64 d.store, .string d.prev, .int .i64 d.e, .int .i64 d.s] 25) = w3 at *
    have cK0 : w3.cell? ⟨w.heap.size, 0, none⟩ = some (.int .i64 x) := (cell_of_row _ _ _ _ _ _ Kh3.out).trans rfl
    have cK1 : w3.cell? ⟨w.heap.size, 1, none⟩ = some (.int .i64 y) := (cell_of_row _ _ _ _ _ _ Kh3.out).trans rfl
    have cC0 : w3.cell? ⟨bC, 0, none⟩ = some (.int .i64 c.office) := (cell_of_row _ _ _ _ _ _ Ch3.out).trans rfl
    have cC1 : w3.cell? ⟨bC, 1, none⟩ = some (.int .i64 c.hour) := (cell_of_row _ _ _ _ _ _ Ch3.out).trans rfl
    have cC2 : w3.cell? ⟨bC, 2, none⟩ = some (.int .i64 c.inn) := (cell_of_row _ _ _ _ _ _ Ch3.out).trans rfl
    have cC3 : w3.cell? ⟨bC, 3, none⟩ = some (.int .i64 c.out) := (cell_of_row _ _ _ _ _ _ Ch3.out).trans rfl
    have cC4 : w3.cell? ⟨bC, 4, none⟩ = some (.int .i64 c.store) := (cell_of_row _ _ _ _ _ _ Ch3.out).trans rfl
    have cC5 : w3.cell? ⟨bC, 5, none⟩ = some (.string c.prev) := (cell_of_row _ _ _ _ _ _ Ch3.out).trans rfl
    have cC6 : w3.cell? ⟨bC, 6, none⟩ = some (.int .i64 c.e) := (cell_of_row _ _ _ _ _ _ Ch3.out).trans rfl
    have cC7 : w3.cell? ⟨bC, 7, none⟩ = some (.int .i64 c.s) := (cell_of_row _ _ _ _ _ _ Ch3.out).trans rfl
    have cD0 : w3.cell? ⟨bD, 0, none⟩ = some (.int .i64 d.office) := (cell_of_row _ _ _ _ _ _ Dh3.out).trans rfl
    have cD1 : w3.cell? ⟨bD, 1, none⟩ = some (.int .i64 d.hour) := (cell_of_row _ _ _ _ _ _ Dh3.out).trans rfl
    have cD2 : w3.cell? ⟨bD, 2, none⟩ = some (.int .i64 d.inn) := (cell_of_row _ _ _ _ _ _ Dh3.out).trans rfl
    have cD3 : w3.cell? ⟨bD, 3, none⟩ = some (.int .i64 d.out) := (cell_of_row _ _ _ _ _ _ Dh3.out).trans rfl
    have cD4 : w3.cell? ⟨bD, 4, none⟩ = some (.int .i64 d.store) := (cell_of_row _ _ _ _ _ _ Dh3.out).trans rfl
    have cD5 : w3.cell? ⟨bD, 5, none⟩ = some (.string d.prev) := (cell_of_row _ _ _ _ _ _ Dh3.out).trans rfl
    have cD6 : w3.cell? ⟨bD, 6, none⟩ = some (.int .i64 d.e) := (cell_of_row _ _ _ _ _ _ Dh3.out).trans rfl
    have cD7 : w3.cell? ⟨bD, 7, none⟩ = some (.int .i64 d.s) := (cell_of_row _ _ _ _ _ _ Dh3.out).trans rfl
    have cP0 : w3.cell? ⟨bP, 0, none⟩ = some (.int .i64 p.office) := (cell_of_row _ _ _ _ _ _ Ph3.out).trans rfl
    have cP1 : w3.cell? ⟨bP, 1, none⟩ = some (.int .i64 p.since) := (cell_of_row _ _ _ _ _ _ Ph3.out).trans rfl
    have cP2 : w3.cell? ⟨bP, 2, none⟩ = some (.int .i64 p.till) := (cell_of_row _ _ _ _ _ _ Ph3.out).trans rfl
    have cP3 : w3.cell? ⟨bP, 3, none⟩ = some (.int .i64 p.litres) := (cell_of_row _ _ _ _ _ _ Ph3.out).trans rfl
    have cP4 : w3.cell? ⟨bP, 4, none⟩ = some (.int .i64 p.e) := (cell_of_row _ _ _ _ _ _ Ph3.out).trans rfl
    have cP5 : w3.cell? ⟨bP, 5, none⟩ = some (.int .i64 p.s) := (cell_of_row _ _ _ _ _ _ Ph3.out).trans rfl
    go_wp2_with fail
    go_ret
    exact ⟨rfl, HB3.out⟩
end Go.Proofs.YtgjklfddoechpaaGreatDoor
