/- bournelaw45.ClaimReads returns true. -/
import Derived.Test.YtgjklfddoechpaaDoorCShort
import Derived.Outline
namespace Go.Proofs.YtgjklfddoechpaaDoor
open Go.RowKit
theorem four_rows {w : World} {A B C D : Obj} : ((((w.alloc A).alloc B).alloc C).alloc D).heap[w.heap.size]? = some A ∧ ((((w.alloc A).alloc B).alloc C).alloc D).heap[w.heap.size + 1]? = some B ∧ ((((w.alloc A).alloc B).alloc C).alloc D).heap[w.heap.size + 1 + 1]? = some C ∧ ((((w.alloc A).alloc B).alloc C).alloc D).heap[w.heap.size + 1 + 1 + 1]? = some D ∧ Below w.heap.size w ((((w.alloc A).alloc B).alloc C).alloc D) := by
  obtain ⟨h1, h2, h3, h4⟩ := three_rows (w := w) (A := A) (B := B) (C := C)
  have s3 : (((w.alloc A).alloc B).alloc C).heap.size = w.heap.size + 1 + 1 + 1 := by simp
  have hD := heap_alloc_new (((w.alloc A).alloc B).alloc C) D
  rw [s3] at hD
  have hb : Below (((w.alloc A).alloc B).alloc C).heap.size (((w.alloc A).alloc B).alloc C) ((((w.alloc A).alloc B).alloc C).alloc D) := (Below.refl _ _).alloc (Nat.le_refl _) _
  exact ⟨blk_below h1 hb (blk_lt h1), blk_below h2 hb (blk_lt h2), blk_below h3 hb (blk_lt h3), hD, h4.trans (hb.mono h4.size)⟩
theorem cv_ext {c d : CV} : (c.office = d.office ∧ c.hour = d.hour ∧ c.inn = d.inn ∧ c.out = d.out ∧ c.store = d.store ∧ c.prev = d.prev ∧ c.e = d.e ∧ c.s = d.s) ↔ c = d := by
  obtain ⟨a0, a1, a2, a3, a4, a5, a6, a7⟩ := c
  obtain ⟨b0, b1, b2, b3, b4, b5, b6, b7⟩ := d
  simp
theorem pv_ext {c d : PV} : (c.office = d.office ∧ c.since = d.since ∧ c.till = d.till ∧ c.litres = d.litres ∧ c.e = d.e ∧ c.s = d.s) ↔ c = d := by
  obtain ⟨a0, a1, a2, a3, a4, a5⟩ := c
  obtain ⟨b0, b1, b2, b3, b4, b5⟩ := d
  simp
def yB (c : CV) : ByteArray := ⟨(bytesC c).toArray⟩
def yP (c : PV) : ByteArray := ⟨(bytesP c).toArray⟩
theorem toL (l : List UInt8) : (⟨l.toArray⟩ : ByteArray).toList = l := by rw [ByteArray.toList_eq]
structure ReadsF (c d z : CV) (p q u : PV) (s : ByteArray) (three four r1 r2 : Bool) (YB : CV → ByteArray) (YP : PV → ByteArray) : Prop where
  by_ : ∀ x, COk x ∧ x.prev.size ≤ 1000 → ∀ w, MLen w → Calls Tryd.prog 8 #[.agg #[.int .i64 x.office, .int .i64 x.hour, .int .i64 x.inn, .int .i64 x.out, .int .i64 x.store, .string x.prev, .int .i64 x.e, .int .i64 x.s]] w fun e w' => e = .returned (.string (YB x)) ∧ Below w.heap.size w w'
  pby : ∀ x, POk x → ∀ w, Calls Tryd.prog 10 #[.agg #[.int .i64 x.office, .int .i64 x.since, .int .i64 x.till, .int .i64 x.litres, .int .i64 x.e, .int .i64 x.s]] w fun e w' => e = .returned (.string (YP x)) ∧ Below w.heap.size w w'
  rdc : ∀ w, Calls Tryd.prog 7 #[.string (YB c)] w fun e w' => e = .returned (.tuple #[.agg #[.int .i64 c.office, .int .i64 c.hour, .int .i64 c.inn, .int .i64 c.out, .int .i64 c.store, .string c.prev, .int .i64 c.e, .int .i64 c.s], .bool true]) ∧ Below w.heap.size w w'
  prp : ∀ w, Calls Tryd.prog 9 #[.string (YP p)] w fun e w' => e = .returned (.tuple #[.agg #[.int .i64 p.office, .int .i64 p.since, .int .i64 p.till, .int .i64 p.litres, .int .i64 p.e, .int .i64 p.s], .bool true]) ∧ Below w.heap.size w w'
  rdx : ∀ w, Calls Tryd.prog 7 #[.string (YB c ++ ⟨#[120]⟩)] w fun e w' => e = .returned (.tuple #[.agg #[.int .i64 0, .int .i64 0, .int .i64 0, .int .i64 0, .int .i64 0, .string ⟨#[]⟩, .int .i64 0, .int .i64 0], .bool false]) ∧ Below w.heap.size w w'
  rds : ∀ w, Calls Tryd.prog 7 #[.string s] w fun e w' => e = .returned (.tuple #[.agg #[.int .i64 z.office, .int .i64 z.hour, .int .i64 z.inn, .int .i64 z.out, .int .i64 z.store, .string z.prev, .int .i64 z.e, .int .i64 z.s], .bool three]) ∧ Below w.heap.size w w'
  prs : ∀ w, Calls Tryd.prog 9 #[.string s] w fun e w' => e = .returned (.tuple #[.agg #[.int .i64 u.office, .int .i64 u.since, .int .i64 u.till, .int .i64 u.litres, .int .i64 u.e, .int .i64 u.s], .bool four]) ∧ Below w.heap.size w w'
  okc : COk c ∧ c.prev.size ≤ 1000
  okd : COk d ∧ d.prev.size ≤ 1000
  okz : COk z ∧ z.prev.size ≤ 1000
  okp : POk p
  okq : POk q
  oku : POk u
  sz : ¬ 9223372036854775807 < (YB c).size + 1
  back : three = true → ((YB z).toList == s.toList) = true
  pback : four = true → ((YP u).toList == s.toList) = true
  e1 : ((YB c).toList == (YB d).toList) = r1
  e2 : ((YP p).toList == (YP q).toList) = r2
  n1 : ∀ w, (Op.equalIn 10000 25 (.agg #[.int .i64 c.office, .int .i64 c.hour, .int .i64 c.inn, .int .i64 c.out, .int .i64 c.store, .string c.prev, .int .i64 c.e, .int .i64 c.s]) (.agg #[.int .i64 d.office, .int .i64 d.hour, .int .i64 d.inn, .int .i64 d.out, .int .i64 d.store, .string d.prev, .int .i64 d.e, .int .i64 d.s])).run Tryd.prog w = .ok r1 w
  n2 : ∀ w, (Op.equalIn 10000 27 (.agg #[.int .i64 p.office, .int .i64 p.since, .int .i64 p.till, .int .i64 p.litres, .int .i64 p.e, .int .i64 p.s]) (.agg #[.int .i64 q.office, .int .i64 q.since, .int .i64 q.till, .int .i64 q.litres, .int .i64 q.e, .int .i64 q.s])).run Tryd.prog w = .ok r2 w
theorem readC_prev {s : List UInt8} {z : CV} (h : readC s = (z, true)) : z.prev.size ≤ s.length := by
  have h1 := (readC_back h).1
  have h2 := textL_ge z.prev.data.toList
  have h3 : z.prev.data.toList.length = z.prev.size := by simp
  rw [← h1]
  simp only [bytesC, coreC, textC, List.length_append]
  omega
theorem readsF (c d : CV) (p q : PV) (s : ByteArray) (hc : COk c) (hd : COk d) (hp : POk p) (hq : POk q) (hcs : c.prev.size ≤ 100) (hds : d.prev.size ≤ 100) (hs : s.size ≤ 300) :
    ∃ z u three four r1 r2 YB YP, ReadsF c d z p q u s three four r1 r2 YB YP := by
  obtain ⟨z, three, hz⟩ : ∃ z t, readC s.data.toList = (z, t) := ⟨_, _, rfl⟩
  obtain ⟨u, four, hu⟩ : ∃ z t, readP s.data.toList = (z, t) := ⟨_, _, rfl⟩
  have hsl : s.data.toList.length = s.size := by simp
  have okz : COk z := by have h := readC_ok s.data.toList; rw [hz] at h; exact h
  have oku : POk u := by have h := readP_ok s.data.toList; rw [hu] at h; exact h
  have zp : z.prev.size ≤ 1000 := by
    cases three with
    | true =>
      have h := readC_prev hz
      omega
    | false =>
      have h := readC_not (s := s.data.toList) (by rw [hz])
      rw [hz] at h
      rw [(Prod.mk.inj h).1]
      decide
  refine ⟨z, u, three, four, ((bytesC c) == (bytesC d)), ((bytesP p) == (bytesP q)), yB, yP, ⟨fun x h w hm => bytesC_any x w h.1 h.2 hm, fun x h w => bytesP_any x w h, fun w => ?_, fun w => ?_, fun w => ?_, fun w => ?_, fun w => ?_, ⟨hc, by omega⟩, ⟨hd, by omega⟩, ⟨okz, zp⟩, hp, hq, oku, ?_, ?_, ?_, ?_, ?_, fun w => ?_, fun w => ?_⟩⟩
  · have h := readC_any (yB c) w (by have h2 := bytesC_len hc (by omega); show (bytesC c).length ≤ 10000; omega)
    rw [show (yB c).data.toList = bytesC c from arrL _, readC_enc hc] at h
    exact h
  · have h := readP_any (yP p) w (by have h2 := coreP_len hp; have h3 := intL_len hp.2.2.2.2.1; have h4 := intL_len hp.2.2.2.2.2; show (bytesP p).length ≤ 10000; simp only [bytesP, List.length_append]; omega)
    rw [show (yP p).data.toList = bytesP p from arrL _, readP_enc hp] at h
    exact h
  · have e : (yB c ++ ⟨#[120]⟩ : ByteArray) = ⟨(bytesC c ++ [120]).toArray⟩ := catL (bytesC c) [120]
    have h := readC_any (yB c ++ ⟨#[120]⟩) w (by rw [e]; have h2 := bytesC_len hc (by omega); show (bytesC c ++ [120]).length ≤ 10000; simp only [List.length_append, List.length_cons, List.length_nil]; omega)
    rw [e, arrL, readC_more hc 120 []] at h
    rw [e]
    exact h
  · have h := readC_any s w (by omega)
    rw [hz] at h
    exact h
  · have h := readP_any s w (by omega)
    rw [hu] at h
    exact h
  · have h2 := bytesC_len hc (by omega)
    show ¬ 9223372036854775807 < (bytesC c).length + 1
    omega
  · intro h
    subst h
    rw [beq_iff_eq, show (yB z).toList = bytesC z from toL _, (readC_back hz).1, ByteArray.toList_eq]
  · intro h
    subst h
    rw [beq_iff_eq, show (yP u).toList = bytesP u from toL _, (readP_back hu).1, ByteArray.toList_eq]
  · rw [show (yB c).toList = bytesC c from toL _, show (yB d).toList = bytesC d from toL _]
  · rw [show (yP p).toList = bytesP p from toL _, show (yP q).toList = bytesP q from toL _]
  · rw [eqC]
    congr 1
    rw [Bool.eq_iff_iff, decide_eq_true_iff, beq_iff_eq]
    exact cv_ext.trans (bytesC_inj hc hd).symm
  · rw [eqP]
    congr 1
    rw [Bool.eq_iff_iff, decide_eq_true_iff, beq_iff_eq]
    exact pv_ext.trans (bytesP_inj hp hq).symm
theorem reads_step {w cur w' : World} {k0 k1 k2 k3 k4 k5 : Nat} {A0 A1 A2 A3 A4 A5 : Obj} {v0 v1 v2 v3 v4 v5 v6 v7 v8 v9 v10 v11 v12 v13 v14 v15 v16 v17 v18 v19 v20 v21 v22 v23 v24 v25 v26 v27 v28 v29 v30 v31 v32 v33 v34 v35 v36 v37 v38 v39 v40 v41 : Value} (h : cur.heap[k0]? = some A0 ∧ cur.heap[k1]? = some A1 ∧ cur.heap[k2]? = some A2 ∧ cur.heap[k3]? = some A3 ∧ cur.heap[k4]? = some A4 ∧ cur.heap[k5]? = some A5 ∧ cur.cell? ⟨k0, 0, none⟩ = some v0 ∧ cur.cell? ⟨k0, 1, none⟩ = some v1 ∧ cur.cell? ⟨k0, 2, none⟩ = some v2 ∧ cur.cell? ⟨k0, 3, none⟩ = some v3 ∧ cur.cell? ⟨k0, 4, none⟩ = some v4 ∧ cur.cell? ⟨k0, 5, none⟩ = some v5 ∧ cur.cell? ⟨k0, 6, none⟩ = some v6 ∧ cur.cell? ⟨k0, 7, none⟩ = some v7 ∧ cur.cell? ⟨k1, 0, none⟩ = some v8 ∧ cur.cell? ⟨k1, 1, none⟩ = some v9 ∧ cur.cell? ⟨k1, 2, none⟩ = some v10 ∧ cur.cell? ⟨k1, 3, none⟩ = some v11 ∧ cur.cell? ⟨k1, 4, none⟩ = some v12 ∧ cur.cell? ⟨k1, 5, none⟩ = some v13 ∧ cur.cell? ⟨k1, 6, none⟩ = some v14 ∧ cur.cell? ⟨k1, 7, none⟩ = some v15 ∧ cur.cell? ⟨k2, 0, none⟩ = some v16 ∧ cur.cell? ⟨k2, 1, none⟩ = some v17 ∧ cur.cell? ⟨k2, 2, none⟩ = some v18 ∧ cur.cell? ⟨k2, 3, none⟩ = some v19 ∧ cur.cell? ⟨k2, 4, none⟩ = some v20 ∧ cur.cell? ⟨k2, 5, none⟩ = some v21 ∧ cur.cell? ⟨k3, 0, none⟩ = some v22 ∧ cur.cell? ⟨k3, 1, none⟩ = some v23 ∧ cur.cell? ⟨k3, 2, none⟩ = some v24 ∧ cur.cell? ⟨k3, 3, none⟩ = some v25 ∧ cur.cell? ⟨k3, 4, none⟩ = some v26 ∧ cur.cell? ⟨k3, 5, none⟩ = some v27 ∧ cur.cell? ⟨k4, 0, none⟩ = some v28 ∧ cur.cell? ⟨k4, 1, none⟩ = some v29 ∧ cur.cell? ⟨k4, 2, none⟩ = some v30 ∧ cur.cell? ⟨k4, 3, none⟩ = some v31 ∧ cur.cell? ⟨k4, 4, none⟩ = some v32 ∧ cur.cell? ⟨k4, 5, none⟩ = some v33 ∧ cur.cell? ⟨k4, 6, none⟩ = some v34 ∧ cur.cell? ⟨k4, 7, none⟩ = some v35 ∧ cur.cell? ⟨k5, 0, none⟩ = some v36 ∧ cur.cell? ⟨k5, 1, none⟩ = some v37 ∧ cur.cell? ⟨k5, 2, none⟩ = some v38 ∧ cur.cell? ⟨k5, 3, none⟩ = some v39 ∧ cur.cell? ⟨k5, 4, none⟩ = some v40 ∧ cur.cell? ⟨k5, 5, none⟩ = some v41 ∧ Below w.heap.size w cur) (hb : Below cur.heap.size cur w') : w'.heap[k0]? = some A0 ∧ w'.heap[k1]? = some A1 ∧ w'.heap[k2]? = some A2 ∧ w'.heap[k3]? = some A3 ∧ w'.heap[k4]? = some A4 ∧ w'.heap[k5]? = some A5 ∧ w'.cell? ⟨k0, 0, none⟩ = some v0 ∧ w'.cell? ⟨k0, 1, none⟩ = some v1 ∧ w'.cell? ⟨k0, 2, none⟩ = some v2 ∧ w'.cell? ⟨k0, 3, none⟩ = some v3 ∧ w'.cell? ⟨k0, 4, none⟩ = some v4 ∧ w'.cell? ⟨k0, 5, none⟩ = some v5 ∧ w'.cell? ⟨k0, 6, none⟩ = some v6 ∧ w'.cell? ⟨k0, 7, none⟩ = some v7 ∧ w'.cell? ⟨k1, 0, none⟩ = some v8 ∧ w'.cell? ⟨k1, 1, none⟩ = some v9 ∧ w'.cell? ⟨k1, 2, none⟩ = some v10 ∧ w'.cell? ⟨k1, 3, none⟩ = some v11 ∧ w'.cell? ⟨k1, 4, none⟩ = some v12 ∧ w'.cell? ⟨k1, 5, none⟩ = some v13 ∧ w'.cell? ⟨k1, 6, none⟩ = some v14 ∧ w'.cell? ⟨k1, 7, none⟩ = some v15 ∧ w'.cell? ⟨k2, 0, none⟩ = some v16 ∧ w'.cell? ⟨k2, 1, none⟩ = some v17 ∧ w'.cell? ⟨k2, 2, none⟩ = some v18 ∧ w'.cell? ⟨k2, 3, none⟩ = some v19 ∧ w'.cell? ⟨k2, 4, none⟩ = some v20 ∧ w'.cell? ⟨k2, 5, none⟩ = some v21 ∧ w'.cell? ⟨k3, 0, none⟩ = some v22 ∧ w'.cell? ⟨k3, 1, none⟩ = some v23 ∧ w'.cell? ⟨k3, 2, none⟩ = some v24 ∧ w'.cell? ⟨k3, 3, none⟩ = some v25 ∧ w'.cell? ⟨k3, 4, none⟩ = some v26 ∧ w'.cell? ⟨k3, 5, none⟩ = some v27 ∧ w'.cell? ⟨k4, 0, none⟩ = some v28 ∧ w'.cell? ⟨k4, 1, none⟩ = some v29 ∧ w'.cell? ⟨k4, 2, none⟩ = some v30 ∧ w'.cell? ⟨k4, 3, none⟩ = some v31 ∧ w'.cell? ⟨k4, 4, none⟩ = some v32 ∧ w'.cell? ⟨k4, 5, none⟩ = some v33 ∧ w'.cell? ⟨k4, 6, none⟩ = some v34 ∧ w'.cell? ⟨k4, 7, none⟩ = some v35 ∧ w'.cell? ⟨k5, 0, none⟩ = some v36 ∧ w'.cell? ⟨k5, 1, none⟩ = some v37 ∧ w'.cell? ⟨k5, 2, none⟩ = some v38 ∧ w'.cell? ⟨k5, 3, none⟩ = some v39 ∧ w'.cell? ⟨k5, 4, none⟩ = some v40 ∧ w'.cell? ⟨k5, 5, none⟩ = some v41 ∧ Below w.heap.size w w' := by
  obtain ⟨a0, a1, a2, a3, a4, a5, c0, c1, c2, c3, c4, c5, c6, c7, c8, c9, c10, c11, c12, c13, c14, c15, c16, c17, c18, c19, c20, c21, c22, c23, c24, c25, c26, c27, c28, c29, c30, c31, c32, c33, c34, c35, c36, c37, c38, c39, c40, c41, d⟩ := h
  exact ⟨blk_below a0 hb (blk_lt a0), blk_below a1 hb (blk_lt a1), blk_below a2 hb (blk_lt a2), blk_below a3 hb (blk_lt a3), blk_below a4 hb (blk_lt a4), blk_below a5 hb (blk_lt a5), (hb.cell (p := ⟨_, 0, none⟩) (blk_lt a0)).trans c0, (hb.cell (p := ⟨_, 1, none⟩) (blk_lt a0)).trans c1, (hb.cell (p := ⟨_, 2, none⟩) (blk_lt a0)).trans c2, (hb.cell (p := ⟨_, 3, none⟩) (blk_lt a0)).trans c3, (hb.cell (p := ⟨_, 4, none⟩) (blk_lt a0)).trans c4, (hb.cell (p := ⟨_, 5, none⟩) (blk_lt a0)).trans c5, (hb.cell (p := ⟨_, 6, none⟩) (blk_lt a0)).trans c6, (hb.cell (p := ⟨_, 7, none⟩) (blk_lt a0)).trans c7, (hb.cell (p := ⟨_, 0, none⟩) (blk_lt a1)).trans c8, (hb.cell (p := ⟨_, 1, none⟩) (blk_lt a1)).trans c9, (hb.cell (p := ⟨_, 2, none⟩) (blk_lt a1)).trans c10, (hb.cell (p := ⟨_, 3, none⟩) (blk_lt a1)).trans c11, (hb.cell (p := ⟨_, 4, none⟩) (blk_lt a1)).trans c12, (hb.cell (p := ⟨_, 5, none⟩) (blk_lt a1)).trans c13, (hb.cell (p := ⟨_, 6, none⟩) (blk_lt a1)).trans c14, (hb.cell (p := ⟨_, 7, none⟩) (blk_lt a1)).trans c15, (hb.cell (p := ⟨_, 0, none⟩) (blk_lt a2)).trans c16, (hb.cell (p := ⟨_, 1, none⟩) (blk_lt a2)).trans c17, (hb.cell (p := ⟨_, 2, none⟩) (blk_lt a2)).trans c18, (hb.cell (p := ⟨_, 3, none⟩) (blk_lt a2)).trans c19, (hb.cell (p := ⟨_, 4, none⟩) (blk_lt a2)).trans c20, (hb.cell (p := ⟨_, 5, none⟩) (blk_lt a2)).trans c21, (hb.cell (p := ⟨_, 0, none⟩) (blk_lt a3)).trans c22, (hb.cell (p := ⟨_, 1, none⟩) (blk_lt a3)).trans c23, (hb.cell (p := ⟨_, 2, none⟩) (blk_lt a3)).trans c24, (hb.cell (p := ⟨_, 3, none⟩) (blk_lt a3)).trans c25, (hb.cell (p := ⟨_, 4, none⟩) (blk_lt a3)).trans c26, (hb.cell (p := ⟨_, 5, none⟩) (blk_lt a3)).trans c27, (hb.cell (p := ⟨_, 0, none⟩) (blk_lt a4)).trans c28, (hb.cell (p := ⟨_, 1, none⟩) (blk_lt a4)).trans c29, (hb.cell (p := ⟨_, 2, none⟩) (blk_lt a4)).trans c30, (hb.cell (p := ⟨_, 3, none⟩) (blk_lt a4)).trans c31, (hb.cell (p := ⟨_, 4, none⟩) (blk_lt a4)).trans c32, (hb.cell (p := ⟨_, 5, none⟩) (blk_lt a4)).trans c33, (hb.cell (p := ⟨_, 6, none⟩) (blk_lt a4)).trans c34, (hb.cell (p := ⟨_, 7, none⟩) (blk_lt a4)).trans c35, (hb.cell (p := ⟨_, 0, none⟩) (blk_lt a5)).trans c36, (hb.cell (p := ⟨_, 1, none⟩) (blk_lt a5)).trans c37, (hb.cell (p := ⟨_, 2, none⟩) (blk_lt a5)).trans c38, (hb.cell (p := ⟨_, 3, none⟩) (blk_lt a5)).trans c39, (hb.cell (p := ⟨_, 4, none⟩) (blk_lt a5)).trans c40, (hb.cell (p := ⟨_, 5, none⟩) (blk_lt a5)).trans c41, d.trans (hb.mono d.size)⟩
theorem reads_stepN {w cur : World} {k0 k1 k2 k3 k4 k5 : Nat} {A0 A1 A2 A3 A4 A5 : Obj} {v0 v1 v2 v3 v4 v5 v6 v7 v8 v9 v10 v11 v12 v13 v14 v15 v16 v17 v18 v19 v20 v21 v22 v23 v24 v25 v26 v27 v28 v29 v30 v31 v32 v33 v34 v35 v36 v37 v38 v39 v40 v41 : Value} (h : cur.heap[k0]? = some A0 ∧ cur.heap[k1]? = some A1 ∧ cur.heap[k2]? = some A2 ∧ cur.heap[k3]? = some A3 ∧ cur.heap[k4]? = some A4 ∧ cur.heap[k5]? = some A5 ∧ cur.cell? ⟨k0, 0, none⟩ = some v0 ∧ cur.cell? ⟨k0, 1, none⟩ = some v1 ∧ cur.cell? ⟨k0, 2, none⟩ = some v2 ∧ cur.cell? ⟨k0, 3, none⟩ = some v3 ∧ cur.cell? ⟨k0, 4, none⟩ = some v4 ∧ cur.cell? ⟨k0, 5, none⟩ = some v5 ∧ cur.cell? ⟨k0, 6, none⟩ = some v6 ∧ cur.cell? ⟨k0, 7, none⟩ = some v7 ∧ cur.cell? ⟨k1, 0, none⟩ = some v8 ∧ cur.cell? ⟨k1, 1, none⟩ = some v9 ∧ cur.cell? ⟨k1, 2, none⟩ = some v10 ∧ cur.cell? ⟨k1, 3, none⟩ = some v11 ∧ cur.cell? ⟨k1, 4, none⟩ = some v12 ∧ cur.cell? ⟨k1, 5, none⟩ = some v13 ∧ cur.cell? ⟨k1, 6, none⟩ = some v14 ∧ cur.cell? ⟨k1, 7, none⟩ = some v15 ∧ cur.cell? ⟨k2, 0, none⟩ = some v16 ∧ cur.cell? ⟨k2, 1, none⟩ = some v17 ∧ cur.cell? ⟨k2, 2, none⟩ = some v18 ∧ cur.cell? ⟨k2, 3, none⟩ = some v19 ∧ cur.cell? ⟨k2, 4, none⟩ = some v20 ∧ cur.cell? ⟨k2, 5, none⟩ = some v21 ∧ cur.cell? ⟨k3, 0, none⟩ = some v22 ∧ cur.cell? ⟨k3, 1, none⟩ = some v23 ∧ cur.cell? ⟨k3, 2, none⟩ = some v24 ∧ cur.cell? ⟨k3, 3, none⟩ = some v25 ∧ cur.cell? ⟨k3, 4, none⟩ = some v26 ∧ cur.cell? ⟨k3, 5, none⟩ = some v27 ∧ cur.cell? ⟨k4, 0, none⟩ = some v28 ∧ cur.cell? ⟨k4, 1, none⟩ = some v29 ∧ cur.cell? ⟨k4, 2, none⟩ = some v30 ∧ cur.cell? ⟨k4, 3, none⟩ = some v31 ∧ cur.cell? ⟨k4, 4, none⟩ = some v32 ∧ cur.cell? ⟨k4, 5, none⟩ = some v33 ∧ cur.cell? ⟨k4, 6, none⟩ = some v34 ∧ cur.cell? ⟨k4, 7, none⟩ = some v35 ∧ cur.cell? ⟨k5, 0, none⟩ = some v36 ∧ cur.cell? ⟨k5, 1, none⟩ = some v37 ∧ cur.cell? ⟨k5, 2, none⟩ = some v38 ∧ cur.cell? ⟨k5, 3, none⟩ = some v39 ∧ cur.cell? ⟨k5, 4, none⟩ = some v40 ∧ cur.cell? ⟨k5, 5, none⟩ = some v41 ∧ Below w.heap.size w cur) (n : Nat) : (cur.drewN n).heap[k0]? = some A0 ∧ (cur.drewN n).heap[k1]? = some A1 ∧ (cur.drewN n).heap[k2]? = some A2 ∧ (cur.drewN n).heap[k3]? = some A3 ∧ (cur.drewN n).heap[k4]? = some A4 ∧ (cur.drewN n).heap[k5]? = some A5 ∧ (cur.drewN n).cell? ⟨k0, 0, none⟩ = some v0 ∧ (cur.drewN n).cell? ⟨k0, 1, none⟩ = some v1 ∧ (cur.drewN n).cell? ⟨k0, 2, none⟩ = some v2 ∧ (cur.drewN n).cell? ⟨k0, 3, none⟩ = some v3 ∧ (cur.drewN n).cell? ⟨k0, 4, none⟩ = some v4 ∧ (cur.drewN n).cell? ⟨k0, 5, none⟩ = some v5 ∧ (cur.drewN n).cell? ⟨k0, 6, none⟩ = some v6 ∧ (cur.drewN n).cell? ⟨k0, 7, none⟩ = some v7 ∧ (cur.drewN n).cell? ⟨k1, 0, none⟩ = some v8 ∧ (cur.drewN n).cell? ⟨k1, 1, none⟩ = some v9 ∧ (cur.drewN n).cell? ⟨k1, 2, none⟩ = some v10 ∧ (cur.drewN n).cell? ⟨k1, 3, none⟩ = some v11 ∧ (cur.drewN n).cell? ⟨k1, 4, none⟩ = some v12 ∧ (cur.drewN n).cell? ⟨k1, 5, none⟩ = some v13 ∧ (cur.drewN n).cell? ⟨k1, 6, none⟩ = some v14 ∧ (cur.drewN n).cell? ⟨k1, 7, none⟩ = some v15 ∧ (cur.drewN n).cell? ⟨k2, 0, none⟩ = some v16 ∧ (cur.drewN n).cell? ⟨k2, 1, none⟩ = some v17 ∧ (cur.drewN n).cell? ⟨k2, 2, none⟩ = some v18 ∧ (cur.drewN n).cell? ⟨k2, 3, none⟩ = some v19 ∧ (cur.drewN n).cell? ⟨k2, 4, none⟩ = some v20 ∧ (cur.drewN n).cell? ⟨k2, 5, none⟩ = some v21 ∧ (cur.drewN n).cell? ⟨k3, 0, none⟩ = some v22 ∧ (cur.drewN n).cell? ⟨k3, 1, none⟩ = some v23 ∧ (cur.drewN n).cell? ⟨k3, 2, none⟩ = some v24 ∧ (cur.drewN n).cell? ⟨k3, 3, none⟩ = some v25 ∧ (cur.drewN n).cell? ⟨k3, 4, none⟩ = some v26 ∧ (cur.drewN n).cell? ⟨k3, 5, none⟩ = some v27 ∧ (cur.drewN n).cell? ⟨k4, 0, none⟩ = some v28 ∧ (cur.drewN n).cell? ⟨k4, 1, none⟩ = some v29 ∧ (cur.drewN n).cell? ⟨k4, 2, none⟩ = some v30 ∧ (cur.drewN n).cell? ⟨k4, 3, none⟩ = some v31 ∧ (cur.drewN n).cell? ⟨k4, 4, none⟩ = some v32 ∧ (cur.drewN n).cell? ⟨k4, 5, none⟩ = some v33 ∧ (cur.drewN n).cell? ⟨k4, 6, none⟩ = some v34 ∧ (cur.drewN n).cell? ⟨k4, 7, none⟩ = some v35 ∧ (cur.drewN n).cell? ⟨k5, 0, none⟩ = some v36 ∧ (cur.drewN n).cell? ⟨k5, 1, none⟩ = some v37 ∧ (cur.drewN n).cell? ⟨k5, 2, none⟩ = some v38 ∧ (cur.drewN n).cell? ⟨k5, 3, none⟩ = some v39 ∧ (cur.drewN n).cell? ⟨k5, 4, none⟩ = some v40 ∧ (cur.drewN n).cell? ⟨k5, 5, none⟩ = some v41 ∧ Below w.heap.size w (cur.drewN n) := by
  obtain ⟨a0, a1, a2, a3, a4, a5, c0, c1, c2, c3, c4, c5, c6, c7, c8, c9, c10, c11, c12, c13, c14, c15, c16, c17, c18, c19, c20, c21, c22, c23, c24, c25, c26, c27, c28, c29, c30, c31, c32, c33, c34, c35, c36, c37, c38, c39, c40, c41, d⟩ := h
  exact ⟨a0, a1, a2, a3, a4, a5, c0, c1, c2, c3, c4, c5, c6, c7, c8, c9, c10, c11, c12, c13, c14, c15, c16, c17, c18, c19, c20, c21, c22, c23, c24, c25, c26, c27, c28, c29, c30, c31, c32, c33, c34, c35, c36, c37, c38, c39, c40, c41, below_drewN d⟩
theorem reads_stepA {w cur : World} {k0 k1 k2 k3 k4 k5 : Nat} {A0 A1 A2 A3 A4 A5 : Obj} {v0 v1 v2 v3 v4 v5 v6 v7 v8 v9 v10 v11 v12 v13 v14 v15 v16 v17 v18 v19 v20 v21 v22 v23 v24 v25 v26 v27 v28 v29 v30 v31 v32 v33 v34 v35 v36 v37 v38 v39 v40 v41 : Value} {o : Obj} (h : cur.heap[k0]? = some A0 ∧ cur.heap[k1]? = some A1 ∧ cur.heap[k2]? = some A2 ∧ cur.heap[k3]? = some A3 ∧ cur.heap[k4]? = some A4 ∧ cur.heap[k5]? = some A5 ∧ cur.cell? ⟨k0, 0, none⟩ = some v0 ∧ cur.cell? ⟨k0, 1, none⟩ = some v1 ∧ cur.cell? ⟨k0, 2, none⟩ = some v2 ∧ cur.cell? ⟨k0, 3, none⟩ = some v3 ∧ cur.cell? ⟨k0, 4, none⟩ = some v4 ∧ cur.cell? ⟨k0, 5, none⟩ = some v5 ∧ cur.cell? ⟨k0, 6, none⟩ = some v6 ∧ cur.cell? ⟨k0, 7, none⟩ = some v7 ∧ cur.cell? ⟨k1, 0, none⟩ = some v8 ∧ cur.cell? ⟨k1, 1, none⟩ = some v9 ∧ cur.cell? ⟨k1, 2, none⟩ = some v10 ∧ cur.cell? ⟨k1, 3, none⟩ = some v11 ∧ cur.cell? ⟨k1, 4, none⟩ = some v12 ∧ cur.cell? ⟨k1, 5, none⟩ = some v13 ∧ cur.cell? ⟨k1, 6, none⟩ = some v14 ∧ cur.cell? ⟨k1, 7, none⟩ = some v15 ∧ cur.cell? ⟨k2, 0, none⟩ = some v16 ∧ cur.cell? ⟨k2, 1, none⟩ = some v17 ∧ cur.cell? ⟨k2, 2, none⟩ = some v18 ∧ cur.cell? ⟨k2, 3, none⟩ = some v19 ∧ cur.cell? ⟨k2, 4, none⟩ = some v20 ∧ cur.cell? ⟨k2, 5, none⟩ = some v21 ∧ cur.cell? ⟨k3, 0, none⟩ = some v22 ∧ cur.cell? ⟨k3, 1, none⟩ = some v23 ∧ cur.cell? ⟨k3, 2, none⟩ = some v24 ∧ cur.cell? ⟨k3, 3, none⟩ = some v25 ∧ cur.cell? ⟨k3, 4, none⟩ = some v26 ∧ cur.cell? ⟨k3, 5, none⟩ = some v27 ∧ cur.cell? ⟨k4, 0, none⟩ = some v28 ∧ cur.cell? ⟨k4, 1, none⟩ = some v29 ∧ cur.cell? ⟨k4, 2, none⟩ = some v30 ∧ cur.cell? ⟨k4, 3, none⟩ = some v31 ∧ cur.cell? ⟨k4, 4, none⟩ = some v32 ∧ cur.cell? ⟨k4, 5, none⟩ = some v33 ∧ cur.cell? ⟨k4, 6, none⟩ = some v34 ∧ cur.cell? ⟨k4, 7, none⟩ = some v35 ∧ cur.cell? ⟨k5, 0, none⟩ = some v36 ∧ cur.cell? ⟨k5, 1, none⟩ = some v37 ∧ cur.cell? ⟨k5, 2, none⟩ = some v38 ∧ cur.cell? ⟨k5, 3, none⟩ = some v39 ∧ cur.cell? ⟨k5, 4, none⟩ = some v40 ∧ cur.cell? ⟨k5, 5, none⟩ = some v41 ∧ Below w.heap.size w cur) : (cur.alloc o).heap[k0]? = some A0 ∧ (cur.alloc o).heap[k1]? = some A1 ∧ (cur.alloc o).heap[k2]? = some A2 ∧ (cur.alloc o).heap[k3]? = some A3 ∧ (cur.alloc o).heap[k4]? = some A4 ∧ (cur.alloc o).heap[k5]? = some A5 ∧ (cur.alloc o).cell? ⟨k0, 0, none⟩ = some v0 ∧ (cur.alloc o).cell? ⟨k0, 1, none⟩ = some v1 ∧ (cur.alloc o).cell? ⟨k0, 2, none⟩ = some v2 ∧ (cur.alloc o).cell? ⟨k0, 3, none⟩ = some v3 ∧ (cur.alloc o).cell? ⟨k0, 4, none⟩ = some v4 ∧ (cur.alloc o).cell? ⟨k0, 5, none⟩ = some v5 ∧ (cur.alloc o).cell? ⟨k0, 6, none⟩ = some v6 ∧ (cur.alloc o).cell? ⟨k0, 7, none⟩ = some v7 ∧ (cur.alloc o).cell? ⟨k1, 0, none⟩ = some v8 ∧ (cur.alloc o).cell? ⟨k1, 1, none⟩ = some v9 ∧ (cur.alloc o).cell? ⟨k1, 2, none⟩ = some v10 ∧ (cur.alloc o).cell? ⟨k1, 3, none⟩ = some v11 ∧ (cur.alloc o).cell? ⟨k1, 4, none⟩ = some v12 ∧ (cur.alloc o).cell? ⟨k1, 5, none⟩ = some v13 ∧ (cur.alloc o).cell? ⟨k1, 6, none⟩ = some v14 ∧ (cur.alloc o).cell? ⟨k1, 7, none⟩ = some v15 ∧ (cur.alloc o).cell? ⟨k2, 0, none⟩ = some v16 ∧ (cur.alloc o).cell? ⟨k2, 1, none⟩ = some v17 ∧ (cur.alloc o).cell? ⟨k2, 2, none⟩ = some v18 ∧ (cur.alloc o).cell? ⟨k2, 3, none⟩ = some v19 ∧ (cur.alloc o).cell? ⟨k2, 4, none⟩ = some v20 ∧ (cur.alloc o).cell? ⟨k2, 5, none⟩ = some v21 ∧ (cur.alloc o).cell? ⟨k3, 0, none⟩ = some v22 ∧ (cur.alloc o).cell? ⟨k3, 1, none⟩ = some v23 ∧ (cur.alloc o).cell? ⟨k3, 2, none⟩ = some v24 ∧ (cur.alloc o).cell? ⟨k3, 3, none⟩ = some v25 ∧ (cur.alloc o).cell? ⟨k3, 4, none⟩ = some v26 ∧ (cur.alloc o).cell? ⟨k3, 5, none⟩ = some v27 ∧ (cur.alloc o).cell? ⟨k4, 0, none⟩ = some v28 ∧ (cur.alloc o).cell? ⟨k4, 1, none⟩ = some v29 ∧ (cur.alloc o).cell? ⟨k4, 2, none⟩ = some v30 ∧ (cur.alloc o).cell? ⟨k4, 3, none⟩ = some v31 ∧ (cur.alloc o).cell? ⟨k4, 4, none⟩ = some v32 ∧ (cur.alloc o).cell? ⟨k4, 5, none⟩ = some v33 ∧ (cur.alloc o).cell? ⟨k4, 6, none⟩ = some v34 ∧ (cur.alloc o).cell? ⟨k4, 7, none⟩ = some v35 ∧ (cur.alloc o).cell? ⟨k5, 0, none⟩ = some v36 ∧ (cur.alloc o).cell? ⟨k5, 1, none⟩ = some v37 ∧ (cur.alloc o).cell? ⟨k5, 2, none⟩ = some v38 ∧ (cur.alloc o).cell? ⟨k5, 3, none⟩ = some v39 ∧ (cur.alloc o).cell? ⟨k5, 4, none⟩ = some v40 ∧ (cur.alloc o).cell? ⟨k5, 5, none⟩ = some v41 ∧ Below w.heap.size w (cur.alloc o) := reads_step h ((Below.refl _ _).alloc (Nat.le_refl _) o)
theorem reads_stepS {w cur : World} {b j : Nat} {x : Value} {k0 k1 k2 k3 k4 k5 : Nat} {A0 A1 A2 A3 A4 A5 : Obj} {v0 v1 v2 v3 v4 v5 v6 v7 v8 v9 v10 v11 v12 v13 v14 v15 v16 v17 v18 v19 v20 v21 v22 v23 v24 v25 v26 v27 v28 v29 v30 v31 v32 v33 v34 v35 v36 v37 v38 v39 v40 v41 : Value} (h : cur.heap[k0]? = some A0 ∧ cur.heap[k1]? = some A1 ∧ cur.heap[k2]? = some A2 ∧ cur.heap[k3]? = some A3 ∧ cur.heap[k4]? = some A4 ∧ cur.heap[k5]? = some A5 ∧ cur.cell? ⟨k0, 0, none⟩ = some v0 ∧ cur.cell? ⟨k0, 1, none⟩ = some v1 ∧ cur.cell? ⟨k0, 2, none⟩ = some v2 ∧ cur.cell? ⟨k0, 3, none⟩ = some v3 ∧ cur.cell? ⟨k0, 4, none⟩ = some v4 ∧ cur.cell? ⟨k0, 5, none⟩ = some v5 ∧ cur.cell? ⟨k0, 6, none⟩ = some v6 ∧ cur.cell? ⟨k0, 7, none⟩ = some v7 ∧ cur.cell? ⟨k1, 0, none⟩ = some v8 ∧ cur.cell? ⟨k1, 1, none⟩ = some v9 ∧ cur.cell? ⟨k1, 2, none⟩ = some v10 ∧ cur.cell? ⟨k1, 3, none⟩ = some v11 ∧ cur.cell? ⟨k1, 4, none⟩ = some v12 ∧ cur.cell? ⟨k1, 5, none⟩ = some v13 ∧ cur.cell? ⟨k1, 6, none⟩ = some v14 ∧ cur.cell? ⟨k1, 7, none⟩ = some v15 ∧ cur.cell? ⟨k2, 0, none⟩ = some v16 ∧ cur.cell? ⟨k2, 1, none⟩ = some v17 ∧ cur.cell? ⟨k2, 2, none⟩ = some v18 ∧ cur.cell? ⟨k2, 3, none⟩ = some v19 ∧ cur.cell? ⟨k2, 4, none⟩ = some v20 ∧ cur.cell? ⟨k2, 5, none⟩ = some v21 ∧ cur.cell? ⟨k3, 0, none⟩ = some v22 ∧ cur.cell? ⟨k3, 1, none⟩ = some v23 ∧ cur.cell? ⟨k3, 2, none⟩ = some v24 ∧ cur.cell? ⟨k3, 3, none⟩ = some v25 ∧ cur.cell? ⟨k3, 4, none⟩ = some v26 ∧ cur.cell? ⟨k3, 5, none⟩ = some v27 ∧ cur.cell? ⟨k4, 0, none⟩ = some v28 ∧ cur.cell? ⟨k4, 1, none⟩ = some v29 ∧ cur.cell? ⟨k4, 2, none⟩ = some v30 ∧ cur.cell? ⟨k4, 3, none⟩ = some v31 ∧ cur.cell? ⟨k4, 4, none⟩ = some v32 ∧ cur.cell? ⟨k4, 5, none⟩ = some v33 ∧ cur.cell? ⟨k4, 6, none⟩ = some v34 ∧ cur.cell? ⟨k4, 7, none⟩ = some v35 ∧ cur.cell? ⟨k5, 0, none⟩ = some v36 ∧ cur.cell? ⟨k5, 1, none⟩ = some v37 ∧ cur.cell? ⟨k5, 2, none⟩ = some v38 ∧ cur.cell? ⟨k5, 3, none⟩ = some v39 ∧ cur.cell? ⟨k5, 4, none⟩ = some v40 ∧ cur.cell? ⟨k5, 5, none⟩ = some v41 ∧ Below w.heap.size w cur) (hle : w.heap.size ≤ b) (hn0 : k0 ≠ b) (hn1 : k1 ≠ b) (hn2 : k2 ≠ b) (hn3 : k3 ≠ b) (hn4 : k4 ≠ b) (hn5 : k5 ≠ b) : (cur.setCell ⟨b, j, none⟩ x).heap[k0]? = some A0 ∧ (cur.setCell ⟨b, j, none⟩ x).heap[k1]? = some A1 ∧ (cur.setCell ⟨b, j, none⟩ x).heap[k2]? = some A2 ∧ (cur.setCell ⟨b, j, none⟩ x).heap[k3]? = some A3 ∧ (cur.setCell ⟨b, j, none⟩ x).heap[k4]? = some A4 ∧ (cur.setCell ⟨b, j, none⟩ x).heap[k5]? = some A5 ∧ (cur.setCell ⟨b, j, none⟩ x).cell? ⟨k0, 0, none⟩ = some v0 ∧ (cur.setCell ⟨b, j, none⟩ x).cell? ⟨k0, 1, none⟩ = some v1 ∧ (cur.setCell ⟨b, j, none⟩ x).cell? ⟨k0, 2, none⟩ = some v2 ∧ (cur.setCell ⟨b, j, none⟩ x).cell? ⟨k0, 3, none⟩ = some v3 ∧ (cur.setCell ⟨b, j, none⟩ x).cell? ⟨k0, 4, none⟩ = some v4 ∧ (cur.setCell ⟨b, j, none⟩ x).cell? ⟨k0, 5, none⟩ = some v5 ∧ (cur.setCell ⟨b, j, none⟩ x).cell? ⟨k0, 6, none⟩ = some v6 ∧ (cur.setCell ⟨b, j, none⟩ x).cell? ⟨k0, 7, none⟩ = some v7 ∧ (cur.setCell ⟨b, j, none⟩ x).cell? ⟨k1, 0, none⟩ = some v8 ∧ (cur.setCell ⟨b, j, none⟩ x).cell? ⟨k1, 1, none⟩ = some v9 ∧ (cur.setCell ⟨b, j, none⟩ x).cell? ⟨k1, 2, none⟩ = some v10 ∧ (cur.setCell ⟨b, j, none⟩ x).cell? ⟨k1, 3, none⟩ = some v11 ∧ (cur.setCell ⟨b, j, none⟩ x).cell? ⟨k1, 4, none⟩ = some v12 ∧ (cur.setCell ⟨b, j, none⟩ x).cell? ⟨k1, 5, none⟩ = some v13 ∧ (cur.setCell ⟨b, j, none⟩ x).cell? ⟨k1, 6, none⟩ = some v14 ∧ (cur.setCell ⟨b, j, none⟩ x).cell? ⟨k1, 7, none⟩ = some v15 ∧ (cur.setCell ⟨b, j, none⟩ x).cell? ⟨k2, 0, none⟩ = some v16 ∧ (cur.setCell ⟨b, j, none⟩ x).cell? ⟨k2, 1, none⟩ = some v17 ∧ (cur.setCell ⟨b, j, none⟩ x).cell? ⟨k2, 2, none⟩ = some v18 ∧ (cur.setCell ⟨b, j, none⟩ x).cell? ⟨k2, 3, none⟩ = some v19 ∧ (cur.setCell ⟨b, j, none⟩ x).cell? ⟨k2, 4, none⟩ = some v20 ∧ (cur.setCell ⟨b, j, none⟩ x).cell? ⟨k2, 5, none⟩ = some v21 ∧ (cur.setCell ⟨b, j, none⟩ x).cell? ⟨k3, 0, none⟩ = some v22 ∧ (cur.setCell ⟨b, j, none⟩ x).cell? ⟨k3, 1, none⟩ = some v23 ∧ (cur.setCell ⟨b, j, none⟩ x).cell? ⟨k3, 2, none⟩ = some v24 ∧ (cur.setCell ⟨b, j, none⟩ x).cell? ⟨k3, 3, none⟩ = some v25 ∧ (cur.setCell ⟨b, j, none⟩ x).cell? ⟨k3, 4, none⟩ = some v26 ∧ (cur.setCell ⟨b, j, none⟩ x).cell? ⟨k3, 5, none⟩ = some v27 ∧ (cur.setCell ⟨b, j, none⟩ x).cell? ⟨k4, 0, none⟩ = some v28 ∧ (cur.setCell ⟨b, j, none⟩ x).cell? ⟨k4, 1, none⟩ = some v29 ∧ (cur.setCell ⟨b, j, none⟩ x).cell? ⟨k4, 2, none⟩ = some v30 ∧ (cur.setCell ⟨b, j, none⟩ x).cell? ⟨k4, 3, none⟩ = some v31 ∧ (cur.setCell ⟨b, j, none⟩ x).cell? ⟨k4, 4, none⟩ = some v32 ∧ (cur.setCell ⟨b, j, none⟩ x).cell? ⟨k4, 5, none⟩ = some v33 ∧ (cur.setCell ⟨b, j, none⟩ x).cell? ⟨k4, 6, none⟩ = some v34 ∧ (cur.setCell ⟨b, j, none⟩ x).cell? ⟨k4, 7, none⟩ = some v35 ∧ (cur.setCell ⟨b, j, none⟩ x).cell? ⟨k5, 0, none⟩ = some v36 ∧ (cur.setCell ⟨b, j, none⟩ x).cell? ⟨k5, 1, none⟩ = some v37 ∧ (cur.setCell ⟨b, j, none⟩ x).cell? ⟨k5, 2, none⟩ = some v38 ∧ (cur.setCell ⟨b, j, none⟩ x).cell? ⟨k5, 3, none⟩ = some v39 ∧ (cur.setCell ⟨b, j, none⟩ x).cell? ⟨k5, 4, none⟩ = some v40 ∧ (cur.setCell ⟨b, j, none⟩ x).cell? ⟨k5, 5, none⟩ = some v41 ∧ Below w.heap.size w (cur.setCell ⟨b, j, none⟩ x) := by
  obtain ⟨a0, a1, a2, a3, a4, a5, c0, c1, c2, c3, c4, c5, c6, c7, c8, c9, c10, c11, c12, c13, c14, c15, c16, c17, c18, c19, c20, c21, c22, c23, c24, c25, c26, c27, c28, c29, c30, c31, c32, c33, c34, c35, c36, c37, c38, c39, c40, c41, d⟩ := h
  have e0 : (cur.setCell ⟨b, j, none⟩ x).heap[k0]? = cur.heap[k0]? := heap_setCell_other _ _ _ _ hn0
  have e1 : (cur.setCell ⟨b, j, none⟩ x).heap[k1]? = cur.heap[k1]? := heap_setCell_other _ _ _ _ hn1
  have e2 : (cur.setCell ⟨b, j, none⟩ x).heap[k2]? = cur.heap[k2]? := heap_setCell_other _ _ _ _ hn2
  have e3 : (cur.setCell ⟨b, j, none⟩ x).heap[k3]? = cur.heap[k3]? := heap_setCell_other _ _ _ _ hn3
  have e4 : (cur.setCell ⟨b, j, none⟩ x).heap[k4]? = cur.heap[k4]? := heap_setCell_other _ _ _ _ hn4
  have e5 : (cur.setCell ⟨b, j, none⟩ x).heap[k5]? = cur.heap[k5]? := heap_setCell_other _ _ _ _ hn5
  exact ⟨e0.trans a0, e1.trans a1, e2.trans a2, e3.trans a3, e4.trans a4, e5.trans a5, (by rw [← c0]; unfold World.cell?; rw [e0]), (by rw [← c1]; unfold World.cell?; rw [e0]), (by rw [← c2]; unfold World.cell?; rw [e0]), (by rw [← c3]; unfold World.cell?; rw [e0]), (by rw [← c4]; unfold World.cell?; rw [e0]), (by rw [← c5]; unfold World.cell?; rw [e0]), (by rw [← c6]; unfold World.cell?; rw [e0]), (by rw [← c7]; unfold World.cell?; rw [e0]), (by rw [← c8]; unfold World.cell?; rw [e1]), (by rw [← c9]; unfold World.cell?; rw [e1]), (by rw [← c10]; unfold World.cell?; rw [e1]), (by rw [← c11]; unfold World.cell?; rw [e1]), (by rw [← c12]; unfold World.cell?; rw [e1]), (by rw [← c13]; unfold World.cell?; rw [e1]), (by rw [← c14]; unfold World.cell?; rw [e1]), (by rw [← c15]; unfold World.cell?; rw [e1]), (by rw [← c16]; unfold World.cell?; rw [e2]), (by rw [← c17]; unfold World.cell?; rw [e2]), (by rw [← c18]; unfold World.cell?; rw [e2]), (by rw [← c19]; unfold World.cell?; rw [e2]), (by rw [← c20]; unfold World.cell?; rw [e2]), (by rw [← c21]; unfold World.cell?; rw [e2]), (by rw [← c22]; unfold World.cell?; rw [e3]), (by rw [← c23]; unfold World.cell?; rw [e3]), (by rw [← c24]; unfold World.cell?; rw [e3]), (by rw [← c25]; unfold World.cell?; rw [e3]), (by rw [← c26]; unfold World.cell?; rw [e3]), (by rw [← c27]; unfold World.cell?; rw [e3]), (by rw [← c28]; unfold World.cell?; rw [e4]), (by rw [← c29]; unfold World.cell?; rw [e4]), (by rw [← c30]; unfold World.cell?; rw [e4]), (by rw [← c31]; unfold World.cell?; rw [e4]), (by rw [← c32]; unfold World.cell?; rw [e4]), (by rw [← c33]; unfold World.cell?; rw [e4]), (by rw [← c34]; unfold World.cell?; rw [e4]), (by rw [← c35]; unfold World.cell?; rw [e4]), (by rw [← c36]; unfold World.cell?; rw [e5]), (by rw [← c37]; unfold World.cell?; rw [e5]), (by rw [← c38]; unfold World.cell?; rw [e5]), (by rw [← c39]; unfold World.cell?; rw [e5]), (by rw [← c40]; unfold World.cell?; rw [e5]), (by rw [← c41]; unfold World.cell?; rw [e5]), d.setCell hle _⟩
theorem reads_stepU {w cur : World} {k0 k1 k2 k3 k4 k5 : Nat} {A0 A1 A2 A3 A4 A5 : Obj} {v0 v1 v2 v3 v4 v5 v6 v7 v8 v9 v10 v11 v12 v13 v14 v15 v16 v17 v18 v19 v20 v21 v22 v23 v24 v25 v26 v27 v28 v29 v30 v31 v32 v33 v34 v35 v36 v37 v38 v39 v40 v41 : Value} {n : Nat} (h : (cur.drewN n).heap[k0]? = some A0 ∧ (cur.drewN n).heap[k1]? = some A1 ∧ (cur.drewN n).heap[k2]? = some A2 ∧ (cur.drewN n).heap[k3]? = some A3 ∧ (cur.drewN n).heap[k4]? = some A4 ∧ (cur.drewN n).heap[k5]? = some A5 ∧ (cur.drewN n).cell? ⟨k0, 0, none⟩ = some v0 ∧ (cur.drewN n).cell? ⟨k0, 1, none⟩ = some v1 ∧ (cur.drewN n).cell? ⟨k0, 2, none⟩ = some v2 ∧ (cur.drewN n).cell? ⟨k0, 3, none⟩ = some v3 ∧ (cur.drewN n).cell? ⟨k0, 4, none⟩ = some v4 ∧ (cur.drewN n).cell? ⟨k0, 5, none⟩ = some v5 ∧ (cur.drewN n).cell? ⟨k0, 6, none⟩ = some v6 ∧ (cur.drewN n).cell? ⟨k0, 7, none⟩ = some v7 ∧ (cur.drewN n).cell? ⟨k1, 0, none⟩ = some v8 ∧ (cur.drewN n).cell? ⟨k1, 1, none⟩ = some v9 ∧ (cur.drewN n).cell? ⟨k1, 2, none⟩ = some v10 ∧ (cur.drewN n).cell? ⟨k1, 3, none⟩ = some v11 ∧ (cur.drewN n).cell? ⟨k1, 4, none⟩ = some v12 ∧ (cur.drewN n).cell? ⟨k1, 5, none⟩ = some v13 ∧ (cur.drewN n).cell? ⟨k1, 6, none⟩ = some v14 ∧ (cur.drewN n).cell? ⟨k1, 7, none⟩ = some v15 ∧ (cur.drewN n).cell? ⟨k2, 0, none⟩ = some v16 ∧ (cur.drewN n).cell? ⟨k2, 1, none⟩ = some v17 ∧ (cur.drewN n).cell? ⟨k2, 2, none⟩ = some v18 ∧ (cur.drewN n).cell? ⟨k2, 3, none⟩ = some v19 ∧ (cur.drewN n).cell? ⟨k2, 4, none⟩ = some v20 ∧ (cur.drewN n).cell? ⟨k2, 5, none⟩ = some v21 ∧ (cur.drewN n).cell? ⟨k3, 0, none⟩ = some v22 ∧ (cur.drewN n).cell? ⟨k3, 1, none⟩ = some v23 ∧ (cur.drewN n).cell? ⟨k3, 2, none⟩ = some v24 ∧ (cur.drewN n).cell? ⟨k3, 3, none⟩ = some v25 ∧ (cur.drewN n).cell? ⟨k3, 4, none⟩ = some v26 ∧ (cur.drewN n).cell? ⟨k3, 5, none⟩ = some v27 ∧ (cur.drewN n).cell? ⟨k4, 0, none⟩ = some v28 ∧ (cur.drewN n).cell? ⟨k4, 1, none⟩ = some v29 ∧ (cur.drewN n).cell? ⟨k4, 2, none⟩ = some v30 ∧ (cur.drewN n).cell? ⟨k4, 3, none⟩ = some v31 ∧ (cur.drewN n).cell? ⟨k4, 4, none⟩ = some v32 ∧ (cur.drewN n).cell? ⟨k4, 5, none⟩ = some v33 ∧ (cur.drewN n).cell? ⟨k4, 6, none⟩ = some v34 ∧ (cur.drewN n).cell? ⟨k4, 7, none⟩ = some v35 ∧ (cur.drewN n).cell? ⟨k5, 0, none⟩ = some v36 ∧ (cur.drewN n).cell? ⟨k5, 1, none⟩ = some v37 ∧ (cur.drewN n).cell? ⟨k5, 2, none⟩ = some v38 ∧ (cur.drewN n).cell? ⟨k5, 3, none⟩ = some v39 ∧ (cur.drewN n).cell? ⟨k5, 4, none⟩ = some v40 ∧ (cur.drewN n).cell? ⟨k5, 5, none⟩ = some v41 ∧ Below w.heap.size w (cur.drewN n)) : cur.heap[k0]? = some A0 ∧ cur.heap[k1]? = some A1 ∧ cur.heap[k2]? = some A2 ∧ cur.heap[k3]? = some A3 ∧ cur.heap[k4]? = some A4 ∧ cur.heap[k5]? = some A5 ∧ cur.cell? ⟨k0, 0, none⟩ = some v0 ∧ cur.cell? ⟨k0, 1, none⟩ = some v1 ∧ cur.cell? ⟨k0, 2, none⟩ = some v2 ∧ cur.cell? ⟨k0, 3, none⟩ = some v3 ∧ cur.cell? ⟨k0, 4, none⟩ = some v4 ∧ cur.cell? ⟨k0, 5, none⟩ = some v5 ∧ cur.cell? ⟨k0, 6, none⟩ = some v6 ∧ cur.cell? ⟨k0, 7, none⟩ = some v7 ∧ cur.cell? ⟨k1, 0, none⟩ = some v8 ∧ cur.cell? ⟨k1, 1, none⟩ = some v9 ∧ cur.cell? ⟨k1, 2, none⟩ = some v10 ∧ cur.cell? ⟨k1, 3, none⟩ = some v11 ∧ cur.cell? ⟨k1, 4, none⟩ = some v12 ∧ cur.cell? ⟨k1, 5, none⟩ = some v13 ∧ cur.cell? ⟨k1, 6, none⟩ = some v14 ∧ cur.cell? ⟨k1, 7, none⟩ = some v15 ∧ cur.cell? ⟨k2, 0, none⟩ = some v16 ∧ cur.cell? ⟨k2, 1, none⟩ = some v17 ∧ cur.cell? ⟨k2, 2, none⟩ = some v18 ∧ cur.cell? ⟨k2, 3, none⟩ = some v19 ∧ cur.cell? ⟨k2, 4, none⟩ = some v20 ∧ cur.cell? ⟨k2, 5, none⟩ = some v21 ∧ cur.cell? ⟨k3, 0, none⟩ = some v22 ∧ cur.cell? ⟨k3, 1, none⟩ = some v23 ∧ cur.cell? ⟨k3, 2, none⟩ = some v24 ∧ cur.cell? ⟨k3, 3, none⟩ = some v25 ∧ cur.cell? ⟨k3, 4, none⟩ = some v26 ∧ cur.cell? ⟨k3, 5, none⟩ = some v27 ∧ cur.cell? ⟨k4, 0, none⟩ = some v28 ∧ cur.cell? ⟨k4, 1, none⟩ = some v29 ∧ cur.cell? ⟨k4, 2, none⟩ = some v30 ∧ cur.cell? ⟨k4, 3, none⟩ = some v31 ∧ cur.cell? ⟨k4, 4, none⟩ = some v32 ∧ cur.cell? ⟨k4, 5, none⟩ = some v33 ∧ cur.cell? ⟨k4, 6, none⟩ = some v34 ∧ cur.cell? ⟨k4, 7, none⟩ = some v35 ∧ cur.cell? ⟨k5, 0, none⟩ = some v36 ∧ cur.cell? ⟨k5, 1, none⟩ = some v37 ∧ cur.cell? ⟨k5, 2, none⟩ = some v38 ∧ cur.cell? ⟨k5, 3, none⟩ = some v39 ∧ cur.cell? ⟨k5, 4, none⟩ = some v40 ∧ cur.cell? ⟨k5, 5, none⟩ = some v41 ∧ Below w.heap.size w cur := by
  obtain ⟨a0, a1, a2, a3, a4, a5, c0, c1, c2, c3, c4, c5, c6, c7, c8, c9, c10, c11, c12, c13, c14, c15, c16, c17, c18, c19, c20, c21, c22, c23, c24, c25, c26, c27, c28, c29, c30, c31, c32, c33, c34, c35, c36, c37, c38, c39, c40, c41, d⟩ := h
  exact ⟨a0, a1, a2, a3, a4, a5, c0, c1, c2, c3, c4, c5, c6, c7, c8, c9, c10, c11, c12, c13, c14, c15, c16, c17, c18, c19, c20, c21, c22, c23, c24, c25, c26, c27, c28, c29, c30, c31, c32, c33, c34, c35, c36, c37, c38, c39, c40, c41, ⟨d.os, d.tape, d.output, d.size, d.block⟩⟩
set_option maxRecDepth 100000 in
set_option maxHeartbeats 16000000 in
theorem reads_core (c d : CV) (p q : PV) (s : ByteArray) (w : World) (hc : COk c) (hd : COk d) (hp : POk p) (hq : POk q) (hcm : c.prev.size ≤ maxLen) (hdm : d.prev.size ≤ maxLen) (hsm : s.size ≤ maxLen) (hg : Glob w) (hml : MLen w) :
    Calls Tryd.prog 3 #[.agg #[.int .i64 c.office, .int .i64 c.hour, .int .i64 c.inn, .int .i64 c.out, .int .i64 c.store, .string c.prev, .int .i64 c.e, .int .i64 c.s], .agg #[.int .i64 d.office, .int .i64 d.hour, .int .i64 d.inn, .int .i64 d.out, .int .i64 d.store, .string d.prev, .int .i64 d.e, .int .i64 d.s], .agg #[.int .i64 p.office, .int .i64 p.since, .int .i64 p.till, .int .i64 p.litres, .int .i64 p.e, .int .i64 p.s], .agg #[.int .i64 q.office, .int .i64 q.since, .int .i64 q.till, .int .i64 q.litres, .int .i64 q.e, .int .i64 q.s], .string s] w fun e w' => e = .returned (.bool true) ∧ Below w.heap.size w w' := by
  have HG := Lib.hid hg
  have HM := Lib.hid hml
  unfold maxLen at hsm
  have HSh : Hid (∀ w0 b, w0.heap[b]? = some (.cells #[.int .i64 c.office, .int .i64 c.hour, .int .i64 c.inn, .int .i64 c.out, .int .i64 c.store, .string c.prev, .int .i64 c.e, .int .i64 c.s, .int .i64 d.office, .int .i64 d.hour, .int .i64 d.inn, .int .i64 d.out, .int .i64 d.store, .string d.prev, .int .i64 d.e, .int .i64 d.s] 25) → Calls Tryd.prog 6 #[.slice (some ⟨b, 0, none⟩) 2 2] w0 fun e w' => e = .returned (.bool (shortC [c, d])) ∧ w' = w0) := Lib.hid (fun w0 b h => shortC_any _ [c, d] w0 (larg_claims (l := [c, d]) (c := 2) h (fun j u h => h) (fun x hx => by
    simp only [List.mem_cons, List.not_mem_nil, or_false] at hx
    rcases hx with rfl | rfl
    · exact ⟨hc, hcm⟩
    · exact ⟨hd, hdm⟩) (Nat.le_refl _) (by decide)))
  clear hg hml
  cases hsh : shortC [c, d] with
  | true =>
    rw [hsh] at HSh
    by_cases hs : s.size ≤ 300
    · have hpr : c.prev.size ≤ 100 ∧ d.prev.size ≤ 100 := by
        unfold shortC at hsh
        rw [Bool.and_eq_true] at hsh
        have h := of_decide_eq_true hsh.1
        exact ⟨h c (by simp), h d (by simp)⟩
      obtain ⟨z, u, three, four, r1, r2, YB, YP, hF⟩ := readsF c d p q s hc hd hp hq hpr.1 hpr.2 hs
      have HF := Lib.hid hF
      have okc := HF.out.okc
      have okd := HF.out.okd
      have okz := HF.out.okz
      have okp := HF.out.okp
      have okq := HF.out.okq
      have oku := HF.out.oku
      have hsz := HF.out.sz
      have he1 := HF.out.e1
      have he2 := HF.out.e2
      have hn1 := HF.out.n1
      have hn2 := HF.out.n2
      have heq1 := eqC c.office c.hour c.inn c.out c.store c.prev c.e c.s c.office c.hour c.inn c.out c.store c.prev c.e c.s
      have heq2 := eqP p.office p.since p.till p.litres p.e p.s p.office p.since p.till p.litres p.e p.s
      rw [decide_eq_true ⟨rfl, rfl, rfl, rfl, rfl, rfl, rfl, rfl⟩] at heq1
      rw [decide_eq_true ⟨rfl, rfl, rfl, rfl, rfl, rfl⟩] at heq2
      have hb1 : (r1 != r1) = false := by cases r1 <;> rfl
      have hb2 : (r2 != r2) = false := by cases r2 <;> rfl
      clear hF hsh hpr hc hd hp hq hcm hdm
      go_enter Tryd.func3, Tryd.ntmps3
      go_upto_region 1 with fail
      obtain ⟨r0, r1, r2, r3, rb⟩ := four_rows (w := w) (A := (.cells #[.int .i64 c.office, .int .i64 c.hour, .int .i64 c.inn, .int .i64 c.out, .int .i64 c.store, .string c.prev, .int .i64 c.e, .int .i64 c.s] 25)) (B := (.cells #[.int .i64 d.office, .int .i64 d.hour, .int .i64 d.inn, .int .i64 d.out, .int .i64 d.store, .string d.prev, .int .i64 d.e, .int .i64 d.s] 25)) (C := (.cells #[.int .i64 p.office, .int .i64 p.since, .int .i64 p.till, .int .i64 p.litres, .int .i64 p.e, .int .i64 p.s] 27)) (D := (.cells #[.int .i64 q.office, .int .i64 q.since, .int .i64 q.till, .int .i64 q.litres, .int .i64 q.e, .int .i64 q.s] 27))
      have Ch1 := Lib.hid r0
      have Dh1 := Lib.hid r1
      have Ph1 := Lib.hid r2
      have Qh1 := Lib.hid r3
      have HB1 := Lib.hid rb
      clear r0 r1 r2 r3 rb
      generalize ((((w.alloc (.cells #[.int .i64 c.office, .int .i64 c.hour, .int .i64 c.inn, .int .i64 c.out, .int .i64 c.store, .string c.prev, .int .i64 c.e, .int .i64 c.s] 25)).alloc (.cells #[.int .i64 d.office, .int .i64 d.hour, .int .i64 d.inn, .int .i64 d.out, .int .i64 d.store, .string d.prev, .int .i64 d.e, .int .i64 d.s] 25)).alloc (.cells #[.int .i64 p.office, .int .i64 p.since, .int .i64 p.till, .int .i64 p.litres, .int .i64 p.e, .int .i64 p.s] 27)).alloc (.cells #[.int .i64 q.office, .int .i64 q.since, .int .i64 q.till, .int .i64 q.litres, .int .i64 q.e, .int .i64 q.s] 27)) = w1 at *
      generalize w.heap.size + 1 + 1 + 1 = bQ at *
      generalize w.heap.size + 1 + 1 = bP at *
      generalize w.heap.size + 1 = bD at *
      go_wp2_with fail
      refine (small_any _ (HG.out.below HB1.out HG.out.size) (HM.out.up HB1.out)).mono ?_
      rintro e w2 ⟨rfl, hb⟩
      have HB2 := Lib.hid (HB1.out.trans (hb.mono HB1.out.size))
      have Ch2 := Lib.hid (blk_below Ch1.out hb (blk_lt Ch1.out))
      have Dh2 := Lib.hid (blk_below Dh1.out hb (blk_lt Dh1.out))
      have Ph2 := Lib.hid (blk_below Ph1.out hb (blk_lt Ph1.out))
      have Qh2 := Lib.hid (blk_below Qh1.out hb (blk_lt Qh1.out))
      clear HB1 Ch1 Dh1 Ph1 Qh1
      clear hb
      have cC0 : w2.cell? ⟨w.heap.size, 0, none⟩ = some (.int .i64 c.office) := (cell_of_row _ _ _ _ _ _ Ch2.out).trans rfl
      have cC1 : w2.cell? ⟨w.heap.size, 1, none⟩ = some (.int .i64 c.hour) := (cell_of_row _ _ _ _ _ _ Ch2.out).trans rfl
      have cC2 : w2.cell? ⟨w.heap.size, 2, none⟩ = some (.int .i64 c.inn) := (cell_of_row _ _ _ _ _ _ Ch2.out).trans rfl
      have cC3 : w2.cell? ⟨w.heap.size, 3, none⟩ = some (.int .i64 c.out) := (cell_of_row _ _ _ _ _ _ Ch2.out).trans rfl
      have cC4 : w2.cell? ⟨w.heap.size, 4, none⟩ = some (.int .i64 c.store) := (cell_of_row _ _ _ _ _ _ Ch2.out).trans rfl
      have cC5 : w2.cell? ⟨w.heap.size, 5, none⟩ = some (.string c.prev) := (cell_of_row _ _ _ _ _ _ Ch2.out).trans rfl
      have cC6 : w2.cell? ⟨w.heap.size, 6, none⟩ = some (.int .i64 c.e) := (cell_of_row _ _ _ _ _ _ Ch2.out).trans rfl
      have cC7 : w2.cell? ⟨w.heap.size, 7, none⟩ = some (.int .i64 c.s) := (cell_of_row _ _ _ _ _ _ Ch2.out).trans rfl
      have cD0 : w2.cell? ⟨bD, 0, none⟩ = some (.int .i64 d.office) := (cell_of_row _ _ _ _ _ _ Dh2.out).trans rfl
      have cD1 : w2.cell? ⟨bD, 1, none⟩ = some (.int .i64 d.hour) := (cell_of_row _ _ _ _ _ _ Dh2.out).trans rfl
      have cD2 : w2.cell? ⟨bD, 2, none⟩ = some (.int .i64 d.inn) := (cell_of_row _ _ _ _ _ _ Dh2.out).trans rfl
      have cD3 : w2.cell? ⟨bD, 3, none⟩ = some (.int .i64 d.out) := (cell_of_row _ _ _ _ _ _ Dh2.out).trans rfl
      have cD4 : w2.cell? ⟨bD, 4, none⟩ = some (.int .i64 d.store) := (cell_of_row _ _ _ _ _ _ Dh2.out).trans rfl
      have cD5 : w2.cell? ⟨bD, 5, none⟩ = some (.string d.prev) := (cell_of_row _ _ _ _ _ _ Dh2.out).trans rfl
      have cD6 : w2.cell? ⟨bD, 6, none⟩ = some (.int .i64 d.e) := (cell_of_row _ _ _ _ _ _ Dh2.out).trans rfl
      have cD7 : w2.cell? ⟨bD, 7, none⟩ = some (.int .i64 d.s) := (cell_of_row _ _ _ _ _ _ Dh2.out).trans rfl
      have cP0 : w2.cell? ⟨bP, 0, none⟩ = some (.int .i64 p.office) := (cell_of_row _ _ _ _ _ _ Ph2.out).trans rfl
      have cP1 : w2.cell? ⟨bP, 1, none⟩ = some (.int .i64 p.since) := (cell_of_row _ _ _ _ _ _ Ph2.out).trans rfl
      have cP2 : w2.cell? ⟨bP, 2, none⟩ = some (.int .i64 p.till) := (cell_of_row _ _ _ _ _ _ Ph2.out).trans rfl
      have cP3 : w2.cell? ⟨bP, 3, none⟩ = some (.int .i64 p.litres) := (cell_of_row _ _ _ _ _ _ Ph2.out).trans rfl
      have cP4 : w2.cell? ⟨bP, 4, none⟩ = some (.int .i64 p.e) := (cell_of_row _ _ _ _ _ _ Ph2.out).trans rfl
      have cP5 : w2.cell? ⟨bP, 5, none⟩ = some (.int .i64 p.s) := (cell_of_row _ _ _ _ _ _ Ph2.out).trans rfl
      have cQ0 : w2.cell? ⟨bQ, 0, none⟩ = some (.int .i64 q.office) := (cell_of_row _ _ _ _ _ _ Qh2.out).trans rfl
      have cQ1 : w2.cell? ⟨bQ, 1, none⟩ = some (.int .i64 q.since) := (cell_of_row _ _ _ _ _ _ Qh2.out).trans rfl
      have cQ2 : w2.cell? ⟨bQ, 2, none⟩ = some (.int .i64 q.till) := (cell_of_row _ _ _ _ _ _ Qh2.out).trans rfl
      have cQ3 : w2.cell? ⟨bQ, 3, none⟩ = some (.int .i64 q.litres) := (cell_of_row _ _ _ _ _ _ Qh2.out).trans rfl
      have cQ4 : w2.cell? ⟨bQ, 4, none⟩ = some (.int .i64 q.e) := (cell_of_row _ _ _ _ _ _ Qh2.out).trans rfl
      have cQ5 : w2.cell? ⟨bQ, 5, none⟩ = some (.int .i64 q.s) := (cell_of_row _ _ _ _ _ _ Qh2.out).trans rfl
      go_wp2_with fail
      refine (HSh.out _ _ (heap_alloc_new _ _)).mono ?_
      rintro e w3 ⟨rfl, rfl⟩
      have hb : Below w2.heap.size w2 (w2.alloc (.cells #[.int .i64 c.office, .int .i64 c.hour, .int .i64 c.inn, .int .i64 c.out, .int .i64 c.store, .string c.prev, .int .i64 c.e, .int .i64 c.s, .int .i64 d.office, .int .i64 d.hour, .int .i64 d.inn, .int .i64 d.out, .int .i64 d.store, .string d.prev, .int .i64 d.e, .int .i64 d.s] 25)) := (Below.refl _ _).alloc (Nat.le_refl _) _
      have HB3 := Lib.hid (HB2.out.trans (hb.mono HB2.out.size))
      have Ch3 := Lib.hid (blk_below Ch2.out hb (blk_lt Ch2.out))
      have Dh3 := Lib.hid (blk_below Dh2.out hb (blk_lt Dh2.out))
      have Ph3 := Lib.hid (blk_below Ph2.out hb (blk_lt Ph2.out))
      have Qh3 := Lib.hid (blk_below Qh2.out hb (blk_lt Qh2.out))
      clear cC0 cC1 cC2 cC3 cC4 cC5 cC6 cC7 cD0 cD1 cD2 cD3 cD4 cD5 cD6 cD7 cP0 cP1 cP2 cP3 cP4 cP5 cQ0 cQ1 cQ2 cQ3 cQ4 cQ5
      clear HB2 Ch2 Dh2 Ph2 Qh2
      clear hb
      generalize w2.alloc (.cells #[.int .i64 c.office, .int .i64 c.hour, .int .i64 c.inn, .int .i64 c.out, .int .i64 c.store, .string c.prev, .int .i64 c.e, .int .i64 c.s, .int .i64 d.office, .int .i64 d.hour, .int .i64 d.inn, .int .i64 d.out, .int .i64 d.store, .string d.prev, .int .i64 d.e, .int .i64 d.s] 25) = w3 at *
      have cC0 : w3.cell? ⟨w.heap.size, 0, none⟩ = some (.int .i64 c.office) := (cell_of_row _ _ _ _ _ _ Ch3.out).trans rfl
      have cC1 : w3.cell? ⟨w.heap.size, 1, none⟩ = some (.int .i64 c.hour) := (cell_of_row _ _ _ _ _ _ Ch3.out).trans rfl
      have cC2 : w3.cell? ⟨w.heap.size, 2, none⟩ = some (.int .i64 c.inn) := (cell_of_row _ _ _ _ _ _ Ch3.out).trans rfl
      have cC3 : w3.cell? ⟨w.heap.size, 3, none⟩ = some (.int .i64 c.out) := (cell_of_row _ _ _ _ _ _ Ch3.out).trans rfl
      have cC4 : w3.cell? ⟨w.heap.size, 4, none⟩ = some (.int .i64 c.store) := (cell_of_row _ _ _ _ _ _ Ch3.out).trans rfl
      have cC5 : w3.cell? ⟨w.heap.size, 5, none⟩ = some (.string c.prev) := (cell_of_row _ _ _ _ _ _ Ch3.out).trans rfl
      have cC6 : w3.cell? ⟨w.heap.size, 6, none⟩ = some (.int .i64 c.e) := (cell_of_row _ _ _ _ _ _ Ch3.out).trans rfl
      have cC7 : w3.cell? ⟨w.heap.size, 7, none⟩ = some (.int .i64 c.s) := (cell_of_row _ _ _ _ _ _ Ch3.out).trans rfl
      have cD0 : w3.cell? ⟨bD, 0, none⟩ = some (.int .i64 d.office) := (cell_of_row _ _ _ _ _ _ Dh3.out).trans rfl
      have cD1 : w3.cell? ⟨bD, 1, none⟩ = some (.int .i64 d.hour) := (cell_of_row _ _ _ _ _ _ Dh3.out).trans rfl
      have cD2 : w3.cell? ⟨bD, 2, none⟩ = some (.int .i64 d.inn) := (cell_of_row _ _ _ _ _ _ Dh3.out).trans rfl
      have cD3 : w3.cell? ⟨bD, 3, none⟩ = some (.int .i64 d.out) := (cell_of_row _ _ _ _ _ _ Dh3.out).trans rfl
      have cD4 : w3.cell? ⟨bD, 4, none⟩ = some (.int .i64 d.store) := (cell_of_row _ _ _ _ _ _ Dh3.out).trans rfl
      have cD5 : w3.cell? ⟨bD, 5, none⟩ = some (.string d.prev) := (cell_of_row _ _ _ _ _ _ Dh3.out).trans rfl
      have cD6 : w3.cell? ⟨bD, 6, none⟩ = some (.int .i64 d.e) := (cell_of_row _ _ _ _ _ _ Dh3.out).trans rfl
      have cD7 : w3.cell? ⟨bD, 7, none⟩ = some (.int .i64 d.s) := (cell_of_row _ _ _ _ _ _ Dh3.out).trans rfl
      have cP0 : w3.cell? ⟨bP, 0, none⟩ = some (.int .i64 p.office) := (cell_of_row _ _ _ _ _ _ Ph3.out).trans rfl
      have cP1 : w3.cell? ⟨bP, 1, none⟩ = some (.int .i64 p.since) := (cell_of_row _ _ _ _ _ _ Ph3.out).trans rfl
      have cP2 : w3.cell? ⟨bP, 2, none⟩ = some (.int .i64 p.till) := (cell_of_row _ _ _ _ _ _ Ph3.out).trans rfl
      have cP3 : w3.cell? ⟨bP, 3, none⟩ = some (.int .i64 p.litres) := (cell_of_row _ _ _ _ _ _ Ph3.out).trans rfl
      have cP4 : w3.cell? ⟨bP, 4, none⟩ = some (.int .i64 p.e) := (cell_of_row _ _ _ _ _ _ Ph3.out).trans rfl
      have cP5 : w3.cell? ⟨bP, 5, none⟩ = some (.int .i64 p.s) := (cell_of_row _ _ _ _ _ _ Ph3.out).trans rfl
      have cQ0 : w3.cell? ⟨bQ, 0, none⟩ = some (.int .i64 q.office) := (cell_of_row _ _ _ _ _ _ Qh3.out).trans rfl
      have cQ1 : w3.cell? ⟨bQ, 1, none⟩ = some (.int .i64 q.since) := (cell_of_row _ _ _ _ _ _ Qh3.out).trans rfl
      have cQ2 : w3.cell? ⟨bQ, 2, none⟩ = some (.int .i64 q.till) := (cell_of_row _ _ _ _ _ _ Qh3.out).trans rfl
      have cQ3 : w3.cell? ⟨bQ, 3, none⟩ = some (.int .i64 q.litres) := (cell_of_row _ _ _ _ _ _ Qh3.out).trans rfl
      have cQ4 : w3.cell? ⟨bQ, 4, none⟩ = some (.int .i64 q.e) := (cell_of_row _ _ _ _ _ _ Qh3.out).trans rfl
      have cQ5 : w3.cell? ⟨bQ, 5, none⟩ = some (.int .i64 q.s) := (cell_of_row _ _ _ _ _ _ Qh3.out).trans rfl
      go_wp2_with fail
      refine (HF.out.by_ c okc _ (HM.out.up HB3.out)).mono ?_
      rintro e w4 ⟨rfl, hb⟩
      have HB4 := Lib.hid (HB3.out.trans (hb.mono HB3.out.size))
      have Ch4 := Lib.hid (blk_below Ch3.out hb (blk_lt Ch3.out))
      have Dh4 := Lib.hid (blk_below Dh3.out hb (blk_lt Dh3.out))
      have Ph4 := Lib.hid (blk_below Ph3.out hb (blk_lt Ph3.out))
      have Qh4 := Lib.hid (blk_below Qh3.out hb (blk_lt Qh3.out))
      clear cC0 cC1 cC2 cC3 cC4 cC5 cC6 cC7 cD0 cD1 cD2 cD3 cD4 cD5 cD6 cD7 cP0 cP1 cP2 cP3 cP4 cP5 cQ0 cQ1 cQ2 cQ3 cQ4 cQ5
      clear HB3 Ch3 Dh3 Ph3 Qh3
      clear hb
      have cC0 : w4.cell? ⟨w.heap.size, 0, none⟩ = some (.int .i64 c.office) := (cell_of_row _ _ _ _ _ _ Ch4.out).trans rfl
      have cC1 : w4.cell? ⟨w.heap.size, 1, none⟩ = some (.int .i64 c.hour) := (cell_of_row _ _ _ _ _ _ Ch4.out).trans rfl
      have cC2 : w4.cell? ⟨w.heap.size, 2, none⟩ = some (.int .i64 c.inn) := (cell_of_row _ _ _ _ _ _ Ch4.out).trans rfl
      have cC3 : w4.cell? ⟨w.heap.size, 3, none⟩ = some (.int .i64 c.out) := (cell_of_row _ _ _ _ _ _ Ch4.out).trans rfl
      have cC4 : w4.cell? ⟨w.heap.size, 4, none⟩ = some (.int .i64 c.store) := (cell_of_row _ _ _ _ _ _ Ch4.out).trans rfl
      have cC5 : w4.cell? ⟨w.heap.size, 5, none⟩ = some (.string c.prev) := (cell_of_row _ _ _ _ _ _ Ch4.out).trans rfl
      have cC6 : w4.cell? ⟨w.heap.size, 6, none⟩ = some (.int .i64 c.e) := (cell_of_row _ _ _ _ _ _ Ch4.out).trans rfl
      have cC7 : w4.cell? ⟨w.heap.size, 7, none⟩ = some (.int .i64 c.s) := (cell_of_row _ _ _ _ _ _ Ch4.out).trans rfl
      have cD0 : w4.cell? ⟨bD, 0, none⟩ = some (.int .i64 d.office) := (cell_of_row _ _ _ _ _ _ Dh4.out).trans rfl
      have cD1 : w4.cell? ⟨bD, 1, none⟩ = some (.int .i64 d.hour) := (cell_of_row _ _ _ _ _ _ Dh4.out).trans rfl
      have cD2 : w4.cell? ⟨bD, 2, none⟩ = some (.int .i64 d.inn) := (cell_of_row _ _ _ _ _ _ Dh4.out).trans rfl
      have cD3 : w4.cell? ⟨bD, 3, none⟩ = some (.int .i64 d.out) := (cell_of_row _ _ _ _ _ _ Dh4.out).trans rfl
      have cD4 : w4.cell? ⟨bD, 4, none⟩ = some (.int .i64 d.store) := (cell_of_row _ _ _ _ _ _ Dh4.out).trans rfl
      have cD5 : w4.cell? ⟨bD, 5, none⟩ = some (.string d.prev) := (cell_of_row _ _ _ _ _ _ Dh4.out).trans rfl
      have cD6 : w4.cell? ⟨bD, 6, none⟩ = some (.int .i64 d.e) := (cell_of_row _ _ _ _ _ _ Dh4.out).trans rfl
      have cD7 : w4.cell? ⟨bD, 7, none⟩ = some (.int .i64 d.s) := (cell_of_row _ _ _ _ _ _ Dh4.out).trans rfl
      have cP0 : w4.cell? ⟨bP, 0, none⟩ = some (.int .i64 p.office) := (cell_of_row _ _ _ _ _ _ Ph4.out).trans rfl
      have cP1 : w4.cell? ⟨bP, 1, none⟩ = some (.int .i64 p.since) := (cell_of_row _ _ _ _ _ _ Ph4.out).trans rfl
      have cP2 : w4.cell? ⟨bP, 2, none⟩ = some (.int .i64 p.till) := (cell_of_row _ _ _ _ _ _ Ph4.out).trans rfl
      have cP3 : w4.cell? ⟨bP, 3, none⟩ = some (.int .i64 p.litres) := (cell_of_row _ _ _ _ _ _ Ph4.out).trans rfl
      have cP4 : w4.cell? ⟨bP, 4, none⟩ = some (.int .i64 p.e) := (cell_of_row _ _ _ _ _ _ Ph4.out).trans rfl
      have cP5 : w4.cell? ⟨bP, 5, none⟩ = some (.int .i64 p.s) := (cell_of_row _ _ _ _ _ _ Ph4.out).trans rfl
      have cQ0 : w4.cell? ⟨bQ, 0, none⟩ = some (.int .i64 q.office) := (cell_of_row _ _ _ _ _ _ Qh4.out).trans rfl
      have cQ1 : w4.cell? ⟨bQ, 1, none⟩ = some (.int .i64 q.since) := (cell_of_row _ _ _ _ _ _ Qh4.out).trans rfl
      have cQ2 : w4.cell? ⟨bQ, 2, none⟩ = some (.int .i64 q.till) := (cell_of_row _ _ _ _ _ _ Qh4.out).trans rfl
      have cQ3 : w4.cell? ⟨bQ, 3, none⟩ = some (.int .i64 q.litres) := (cell_of_row _ _ _ _ _ _ Qh4.out).trans rfl
      have cQ4 : w4.cell? ⟨bQ, 4, none⟩ = some (.int .i64 q.e) := (cell_of_row _ _ _ _ _ _ Qh4.out).trans rfl
      have cQ5 : w4.cell? ⟨bQ, 5, none⟩ = some (.int .i64 q.s) := (cell_of_row _ _ _ _ _ _ Qh4.out).trans rfl
      go_wp2_with fail
      refine (HF.out.rdc _).mono ?_
      rintro e w5 ⟨rfl, hb⟩
      have HB5 := Lib.hid (HB4.out.trans (hb.mono HB4.out.size))
      have Ch5 := Lib.hid (blk_below Ch4.out hb (blk_lt Ch4.out))
      have Dh5 := Lib.hid (blk_below Dh4.out hb (blk_lt Dh4.out))
      have Ph5 := Lib.hid (blk_below Ph4.out hb (blk_lt Ph4.out))
      have Qh5 := Lib.hid (blk_below Qh4.out hb (blk_lt Qh4.out))
      clear cC0 cC1 cC2 cC3 cC4 cC5 cC6 cC7 cD0 cD1 cD2 cD3 cD4 cD5 cD6 cD7 cP0 cP1 cP2 cP3 cP4 cP5 cQ0 cQ1 cQ2 cQ3 cQ4 cQ5
      clear HB4 Ch4 Dh4 Ph4 Qh4
      clear hb
      have cC0 : w5.cell? ⟨w.heap.size, 0, none⟩ = some (.int .i64 c.office) := (cell_of_row _ _ _ _ _ _ Ch5.out).trans rfl
      have cC1 : w5.cell? ⟨w.heap.size, 1, none⟩ = some (.int .i64 c.hour) := (cell_of_row _ _ _ _ _ _ Ch5.out).trans rfl
      have cC2 : w5.cell? ⟨w.heap.size, 2, none⟩ = some (.int .i64 c.inn) := (cell_of_row _ _ _ _ _ _ Ch5.out).trans rfl
      have cC3 : w5.cell? ⟨w.heap.size, 3, none⟩ = some (.int .i64 c.out) := (cell_of_row _ _ _ _ _ _ Ch5.out).trans rfl
      have cC4 : w5.cell? ⟨w.heap.size, 4, none⟩ = some (.int .i64 c.store) := (cell_of_row _ _ _ _ _ _ Ch5.out).trans rfl
      have cC5 : w5.cell? ⟨w.heap.size, 5, none⟩ = some (.string c.prev) := (cell_of_row _ _ _ _ _ _ Ch5.out).trans rfl
      have cC6 : w5.cell? ⟨w.heap.size, 6, none⟩ = some (.int .i64 c.e) := (cell_of_row _ _ _ _ _ _ Ch5.out).trans rfl
      have cC7 : w5.cell? ⟨w.heap.size, 7, none⟩ = some (.int .i64 c.s) := (cell_of_row _ _ _ _ _ _ Ch5.out).trans rfl
      have cD0 : w5.cell? ⟨bD, 0, none⟩ = some (.int .i64 d.office) := (cell_of_row _ _ _ _ _ _ Dh5.out).trans rfl
      have cD1 : w5.cell? ⟨bD, 1, none⟩ = some (.int .i64 d.hour) := (cell_of_row _ _ _ _ _ _ Dh5.out).trans rfl
      have cD2 : w5.cell? ⟨bD, 2, none⟩ = some (.int .i64 d.inn) := (cell_of_row _ _ _ _ _ _ Dh5.out).trans rfl
      have cD3 : w5.cell? ⟨bD, 3, none⟩ = some (.int .i64 d.out) := (cell_of_row _ _ _ _ _ _ Dh5.out).trans rfl
      have cD4 : w5.cell? ⟨bD, 4, none⟩ = some (.int .i64 d.store) := (cell_of_row _ _ _ _ _ _ Dh5.out).trans rfl
      have cD5 : w5.cell? ⟨bD, 5, none⟩ = some (.string d.prev) := (cell_of_row _ _ _ _ _ _ Dh5.out).trans rfl
      have cD6 : w5.cell? ⟨bD, 6, none⟩ = some (.int .i64 d.e) := (cell_of_row _ _ _ _ _ _ Dh5.out).trans rfl
      have cD7 : w5.cell? ⟨bD, 7, none⟩ = some (.int .i64 d.s) := (cell_of_row _ _ _ _ _ _ Dh5.out).trans rfl
      have cP0 : w5.cell? ⟨bP, 0, none⟩ = some (.int .i64 p.office) := (cell_of_row _ _ _ _ _ _ Ph5.out).trans rfl
      have cP1 : w5.cell? ⟨bP, 1, none⟩ = some (.int .i64 p.since) := (cell_of_row _ _ _ _ _ _ Ph5.out).trans rfl
      have cP2 : w5.cell? ⟨bP, 2, none⟩ = some (.int .i64 p.till) := (cell_of_row _ _ _ _ _ _ Ph5.out).trans rfl
      have cP3 : w5.cell? ⟨bP, 3, none⟩ = some (.int .i64 p.litres) := (cell_of_row _ _ _ _ _ _ Ph5.out).trans rfl
      have cP4 : w5.cell? ⟨bP, 4, none⟩ = some (.int .i64 p.e) := (cell_of_row _ _ _ _ _ _ Ph5.out).trans rfl
      have cP5 : w5.cell? ⟨bP, 5, none⟩ = some (.int .i64 p.s) := (cell_of_row _ _ _ _ _ _ Ph5.out).trans rfl
      have cQ0 : w5.cell? ⟨bQ, 0, none⟩ = some (.int .i64 q.office) := (cell_of_row _ _ _ _ _ _ Qh5.out).trans rfl
      have cQ1 : w5.cell? ⟨bQ, 1, none⟩ = some (.int .i64 q.since) := (cell_of_row _ _ _ _ _ _ Qh5.out).trans rfl
      have cQ2 : w5.cell? ⟨bQ, 2, none⟩ = some (.int .i64 q.till) := (cell_of_row _ _ _ _ _ _ Qh5.out).trans rfl
      have cQ3 : w5.cell? ⟨bQ, 3, none⟩ = some (.int .i64 q.litres) := (cell_of_row _ _ _ _ _ _ Qh5.out).trans rfl
      have cQ4 : w5.cell? ⟨bQ, 4, none⟩ = some (.int .i64 q.e) := (cell_of_row _ _ _ _ _ _ Qh5.out).trans rfl
      have cQ5 : w5.cell? ⟨bQ, 5, none⟩ = some (.int .i64 q.s) := (cell_of_row _ _ _ _ _ _ Qh5.out).trans rfl
      go_upto_region 5 with fail
      have HB6 := Lib.hid (HB5.out.alloc HB5.out.size (.cells #[.int .i64 c.office, .int .i64 c.hour, .int .i64 c.inn, .int .i64 c.out, .int .i64 c.store, .string c.prev, .int .i64 c.e, .int .i64 c.s] 25))
      have Xh6 := Lib.hid (heap_alloc_new w5 (.cells #[.int .i64 c.office, .int .i64 c.hour, .int .i64 c.inn, .int .i64 c.out, .int .i64 c.store, .string c.prev, .int .i64 c.e, .int .i64 c.s] 25))
      have Ch6 := Lib.hid (blk_below Ch5.out ((Below.refl w5.heap.size w5).alloc (Nat.le_refl _) (.cells #[.int .i64 c.office, .int .i64 c.hour, .int .i64 c.inn, .int .i64 c.out, .int .i64 c.store, .string c.prev, .int .i64 c.e, .int .i64 c.s] 25)) (blk_lt Ch5.out))
      have Dh6 := Lib.hid (blk_below Dh5.out ((Below.refl w5.heap.size w5).alloc (Nat.le_refl _) (.cells #[.int .i64 c.office, .int .i64 c.hour, .int .i64 c.inn, .int .i64 c.out, .int .i64 c.store, .string c.prev, .int .i64 c.e, .int .i64 c.s] 25)) (blk_lt Dh5.out))
      have Ph6 := Lib.hid (blk_below Ph5.out ((Below.refl w5.heap.size w5).alloc (Nat.le_refl _) (.cells #[.int .i64 c.office, .int .i64 c.hour, .int .i64 c.inn, .int .i64 c.out, .int .i64 c.store, .string c.prev, .int .i64 c.e, .int .i64 c.s] 25)) (blk_lt Ph5.out))
      have Qh6 := Lib.hid (blk_below Qh5.out ((Below.refl w5.heap.size w5).alloc (Nat.le_refl _) (.cells #[.int .i64 c.office, .int .i64 c.hour, .int .i64 c.inn, .int .i64 c.out, .int .i64 c.store, .string c.prev, .int .i64 c.e, .int .i64 c.s] 25)) (blk_lt Qh5.out))
      clear cC0 cC1 cC2 cC3 cC4 cC5 cC6 cC7 cD0 cD1 cD2 cD3 cD4 cD5 cD6 cD7 cP0 cP1 cP2 cP3 cP4 cP5 cQ0 cQ1 cQ2 cQ3 cQ4 cQ5
      clear HB5 Ch5 Dh5 Ph5 Qh5
      generalize w5.heap.size = bX at *
      generalize w5.alloc (.cells #[.int .i64 c.office, .int .i64 c.hour, .int .i64 c.inn, .int .i64 c.out, .int .i64 c.store, .string c.prev, .int .i64 c.e, .int .i64 c.s] 25) = w6 at *
      have cC0 : w6.cell? ⟨w.heap.size, 0, none⟩ = some (.int .i64 c.office) := (cell_of_row _ _ _ _ _ _ Ch6.out).trans rfl
      have cC1 : w6.cell? ⟨w.heap.size, 1, none⟩ = some (.int .i64 c.hour) := (cell_of_row _ _ _ _ _ _ Ch6.out).trans rfl
      have cC2 : w6.cell? ⟨w.heap.size, 2, none⟩ = some (.int .i64 c.inn) := (cell_of_row _ _ _ _ _ _ Ch6.out).trans rfl
      have cC3 : w6.cell? ⟨w.heap.size, 3, none⟩ = some (.int .i64 c.out) := (cell_of_row _ _ _ _ _ _ Ch6.out).trans rfl
      have cC4 : w6.cell? ⟨w.heap.size, 4, none⟩ = some (.int .i64 c.store) := (cell_of_row _ _ _ _ _ _ Ch6.out).trans rfl
      have cC5 : w6.cell? ⟨w.heap.size, 5, none⟩ = some (.string c.prev) := (cell_of_row _ _ _ _ _ _ Ch6.out).trans rfl
      have cC6 : w6.cell? ⟨w.heap.size, 6, none⟩ = some (.int .i64 c.e) := (cell_of_row _ _ _ _ _ _ Ch6.out).trans rfl
      have cC7 : w6.cell? ⟨w.heap.size, 7, none⟩ = some (.int .i64 c.s) := (cell_of_row _ _ _ _ _ _ Ch6.out).trans rfl
      have cD0 : w6.cell? ⟨bD, 0, none⟩ = some (.int .i64 d.office) := (cell_of_row _ _ _ _ _ _ Dh6.out).trans rfl
      have cD1 : w6.cell? ⟨bD, 1, none⟩ = some (.int .i64 d.hour) := (cell_of_row _ _ _ _ _ _ Dh6.out).trans rfl
      have cD2 : w6.cell? ⟨bD, 2, none⟩ = some (.int .i64 d.inn) := (cell_of_row _ _ _ _ _ _ Dh6.out).trans rfl
      have cD3 : w6.cell? ⟨bD, 3, none⟩ = some (.int .i64 d.out) := (cell_of_row _ _ _ _ _ _ Dh6.out).trans rfl
      have cD4 : w6.cell? ⟨bD, 4, none⟩ = some (.int .i64 d.store) := (cell_of_row _ _ _ _ _ _ Dh6.out).trans rfl
      have cD5 : w6.cell? ⟨bD, 5, none⟩ = some (.string d.prev) := (cell_of_row _ _ _ _ _ _ Dh6.out).trans rfl
      have cD6 : w6.cell? ⟨bD, 6, none⟩ = some (.int .i64 d.e) := (cell_of_row _ _ _ _ _ _ Dh6.out).trans rfl
      have cD7 : w6.cell? ⟨bD, 7, none⟩ = some (.int .i64 d.s) := (cell_of_row _ _ _ _ _ _ Dh6.out).trans rfl
      have cP0 : w6.cell? ⟨bP, 0, none⟩ = some (.int .i64 p.office) := (cell_of_row _ _ _ _ _ _ Ph6.out).trans rfl
      have cP1 : w6.cell? ⟨bP, 1, none⟩ = some (.int .i64 p.since) := (cell_of_row _ _ _ _ _ _ Ph6.out).trans rfl
      have cP2 : w6.cell? ⟨bP, 2, none⟩ = some (.int .i64 p.till) := (cell_of_row _ _ _ _ _ _ Ph6.out).trans rfl
      have cP3 : w6.cell? ⟨bP, 3, none⟩ = some (.int .i64 p.litres) := (cell_of_row _ _ _ _ _ _ Ph6.out).trans rfl
      have cP4 : w6.cell? ⟨bP, 4, none⟩ = some (.int .i64 p.e) := (cell_of_row _ _ _ _ _ _ Ph6.out).trans rfl
      have cP5 : w6.cell? ⟨bP, 5, none⟩ = some (.int .i64 p.s) := (cell_of_row _ _ _ _ _ _ Ph6.out).trans rfl
      have cQ0 : w6.cell? ⟨bQ, 0, none⟩ = some (.int .i64 q.office) := (cell_of_row _ _ _ _ _ _ Qh6.out).trans rfl
      have cQ1 : w6.cell? ⟨bQ, 1, none⟩ = some (.int .i64 q.since) := (cell_of_row _ _ _ _ _ _ Qh6.out).trans rfl
      have cQ2 : w6.cell? ⟨bQ, 2, none⟩ = some (.int .i64 q.till) := (cell_of_row _ _ _ _ _ _ Qh6.out).trans rfl
      have cQ3 : w6.cell? ⟨bQ, 3, none⟩ = some (.int .i64 q.litres) := (cell_of_row _ _ _ _ _ _ Qh6.out).trans rfl
      have cQ4 : w6.cell? ⟨bQ, 4, none⟩ = some (.int .i64 q.e) := (cell_of_row _ _ _ _ _ _ Qh6.out).trans rfl
      have cQ5 : w6.cell? ⟨bQ, 5, none⟩ = some (.int .i64 q.s) := (cell_of_row _ _ _ _ _ _ Qh6.out).trans rfl
      have cX0 : w6.cell? ⟨bX, 0, none⟩ = some (.int .i64 c.office) := (cell_of_row _ _ _ _ _ _ Xh6.out).trans rfl
      have cX1 : w6.cell? ⟨bX, 1, none⟩ = some (.int .i64 c.hour) := (cell_of_row _ _ _ _ _ _ Xh6.out).trans rfl
      have cX2 : w6.cell? ⟨bX, 2, none⟩ = some (.int .i64 c.inn) := (cell_of_row _ _ _ _ _ _ Xh6.out).trans rfl
      have cX3 : w6.cell? ⟨bX, 3, none⟩ = some (.int .i64 c.out) := (cell_of_row _ _ _ _ _ _ Xh6.out).trans rfl
      have cX4 : w6.cell? ⟨bX, 4, none⟩ = some (.int .i64 c.store) := (cell_of_row _ _ _ _ _ _ Xh6.out).trans rfl
      have cX5 : w6.cell? ⟨bX, 5, none⟩ = some (.string c.prev) := (cell_of_row _ _ _ _ _ _ Xh6.out).trans rfl
      have cX6 : w6.cell? ⟨bX, 6, none⟩ = some (.int .i64 c.e) := (cell_of_row _ _ _ _ _ _ Xh6.out).trans rfl
      have cX7 : w6.cell? ⟨bX, 7, none⟩ = some (.int .i64 c.s) := (cell_of_row _ _ _ _ _ _ Xh6.out).trans rfl
      go_wp2_with fail
      refine (HF.out.pby p okp _).mono ?_
      rintro e w7 ⟨rfl, hb⟩
      have HB7 := Lib.hid (HB6.out.trans (hb.mono HB6.out.size))
      have Ch7 := Lib.hid (blk_below Ch6.out hb (blk_lt Ch6.out))
      have Dh7 := Lib.hid (blk_below Dh6.out hb (blk_lt Dh6.out))
      have Ph7 := Lib.hid (blk_below Ph6.out hb (blk_lt Ph6.out))
      have Qh7 := Lib.hid (blk_below Qh6.out hb (blk_lt Qh6.out))
      have Xh7 := Lib.hid (blk_below Xh6.out hb (blk_lt Xh6.out))
      clear cC0 cC1 cC2 cC3 cC4 cC5 cC6 cC7 cD0 cD1 cD2 cD3 cD4 cD5 cD6 cD7 cP0 cP1 cP2 cP3 cP4 cP5 cQ0 cQ1 cQ2 cQ3 cQ4 cQ5 cX0 cX1 cX2 cX3 cX4 cX5 cX6 cX7
      clear HB6 Ch6 Dh6 Ph6 Qh6 Xh6
      clear hb
      have cC0 : w7.cell? ⟨w.heap.size, 0, none⟩ = some (.int .i64 c.office) := (cell_of_row _ _ _ _ _ _ Ch7.out).trans rfl
      have cC1 : w7.cell? ⟨w.heap.size, 1, none⟩ = some (.int .i64 c.hour) := (cell_of_row _ _ _ _ _ _ Ch7.out).trans rfl
      have cC2 : w7.cell? ⟨w.heap.size, 2, none⟩ = some (.int .i64 c.inn) := (cell_of_row _ _ _ _ _ _ Ch7.out).trans rfl
      have cC3 : w7.cell? ⟨w.heap.size, 3, none⟩ = some (.int .i64 c.out) := (cell_of_row _ _ _ _ _ _ Ch7.out).trans rfl
      have cC4 : w7.cell? ⟨w.heap.size, 4, none⟩ = some (.int .i64 c.store) := (cell_of_row _ _ _ _ _ _ Ch7.out).trans rfl
      have cC5 : w7.cell? ⟨w.heap.size, 5, none⟩ = some (.string c.prev) := (cell_of_row _ _ _ _ _ _ Ch7.out).trans rfl
      have cC6 : w7.cell? ⟨w.heap.size, 6, none⟩ = some (.int .i64 c.e) := (cell_of_row _ _ _ _ _ _ Ch7.out).trans rfl
      have cC7 : w7.cell? ⟨w.heap.size, 7, none⟩ = some (.int .i64 c.s) := (cell_of_row _ _ _ _ _ _ Ch7.out).trans rfl
      have cD0 : w7.cell? ⟨bD, 0, none⟩ = some (.int .i64 d.office) := (cell_of_row _ _ _ _ _ _ Dh7.out).trans rfl
      have cD1 : w7.cell? ⟨bD, 1, none⟩ = some (.int .i64 d.hour) := (cell_of_row _ _ _ _ _ _ Dh7.out).trans rfl
      have cD2 : w7.cell? ⟨bD, 2, none⟩ = some (.int .i64 d.inn) := (cell_of_row _ _ _ _ _ _ Dh7.out).trans rfl
      have cD3 : w7.cell? ⟨bD, 3, none⟩ = some (.int .i64 d.out) := (cell_of_row _ _ _ _ _ _ Dh7.out).trans rfl
      have cD4 : w7.cell? ⟨bD, 4, none⟩ = some (.int .i64 d.store) := (cell_of_row _ _ _ _ _ _ Dh7.out).trans rfl
      have cD5 : w7.cell? ⟨bD, 5, none⟩ = some (.string d.prev) := (cell_of_row _ _ _ _ _ _ Dh7.out).trans rfl
      have cD6 : w7.cell? ⟨bD, 6, none⟩ = some (.int .i64 d.e) := (cell_of_row _ _ _ _ _ _ Dh7.out).trans rfl
      have cD7 : w7.cell? ⟨bD, 7, none⟩ = some (.int .i64 d.s) := (cell_of_row _ _ _ _ _ _ Dh7.out).trans rfl
      have cP0 : w7.cell? ⟨bP, 0, none⟩ = some (.int .i64 p.office) := (cell_of_row _ _ _ _ _ _ Ph7.out).trans rfl
      have cP1 : w7.cell? ⟨bP, 1, none⟩ = some (.int .i64 p.since) := (cell_of_row _ _ _ _ _ _ Ph7.out).trans rfl
      have cP2 : w7.cell? ⟨bP, 2, none⟩ = some (.int .i64 p.till) := (cell_of_row _ _ _ _ _ _ Ph7.out).trans rfl
      have cP3 : w7.cell? ⟨bP, 3, none⟩ = some (.int .i64 p.litres) := (cell_of_row _ _ _ _ _ _ Ph7.out).trans rfl
      have cP4 : w7.cell? ⟨bP, 4, none⟩ = some (.int .i64 p.e) := (cell_of_row _ _ _ _ _ _ Ph7.out).trans rfl
      have cP5 : w7.cell? ⟨bP, 5, none⟩ = some (.int .i64 p.s) := (cell_of_row _ _ _ _ _ _ Ph7.out).trans rfl
      have cQ0 : w7.cell? ⟨bQ, 0, none⟩ = some (.int .i64 q.office) := (cell_of_row _ _ _ _ _ _ Qh7.out).trans rfl
      have cQ1 : w7.cell? ⟨bQ, 1, none⟩ = some (.int .i64 q.since) := (cell_of_row _ _ _ _ _ _ Qh7.out).trans rfl
      have cQ2 : w7.cell? ⟨bQ, 2, none⟩ = some (.int .i64 q.till) := (cell_of_row _ _ _ _ _ _ Qh7.out).trans rfl
      have cQ3 : w7.cell? ⟨bQ, 3, none⟩ = some (.int .i64 q.litres) := (cell_of_row _ _ _ _ _ _ Qh7.out).trans rfl
      have cQ4 : w7.cell? ⟨bQ, 4, none⟩ = some (.int .i64 q.e) := (cell_of_row _ _ _ _ _ _ Qh7.out).trans rfl
      have cQ5 : w7.cell? ⟨bQ, 5, none⟩ = some (.int .i64 q.s) := (cell_of_row _ _ _ _ _ _ Qh7.out).trans rfl
      have cX0 : w7.cell? ⟨bX, 0, none⟩ = some (.int .i64 c.office) := (cell_of_row _ _ _ _ _ _ Xh7.out).trans rfl
      have cX1 : w7.cell? ⟨bX, 1, none⟩ = some (.int .i64 c.hour) := (cell_of_row _ _ _ _ _ _ Xh7.out).trans rfl
      have cX2 : w7.cell? ⟨bX, 2, none⟩ = some (.int .i64 c.inn) := (cell_of_row _ _ _ _ _ _ Xh7.out).trans rfl
      have cX3 : w7.cell? ⟨bX, 3, none⟩ = some (.int .i64 c.out) := (cell_of_row _ _ _ _ _ _ Xh7.out).trans rfl
      have cX4 : w7.cell? ⟨bX, 4, none⟩ = some (.int .i64 c.store) := (cell_of_row _ _ _ _ _ _ Xh7.out).trans rfl
      have cX5 : w7.cell? ⟨bX, 5, none⟩ = some (.string c.prev) := (cell_of_row _ _ _ _ _ _ Xh7.out).trans rfl
      have cX6 : w7.cell? ⟨bX, 6, none⟩ = some (.int .i64 c.e) := (cell_of_row _ _ _ _ _ _ Xh7.out).trans rfl
      have cX7 : w7.cell? ⟨bX, 7, none⟩ = some (.int .i64 c.s) := (cell_of_row _ _ _ _ _ _ Xh7.out).trans rfl
      go_wp2_with fail
      refine (HF.out.prp _).mono ?_
      rintro e w8 ⟨rfl, hb⟩
      have HB8 := Lib.hid (HB7.out.trans (hb.mono HB7.out.size))
      have Ch8 := Lib.hid (blk_below Ch7.out hb (blk_lt Ch7.out))
      have Dh8 := Lib.hid (blk_below Dh7.out hb (blk_lt Dh7.out))
      have Ph8 := Lib.hid (blk_below Ph7.out hb (blk_lt Ph7.out))
      have Qh8 := Lib.hid (blk_below Qh7.out hb (blk_lt Qh7.out))
      have Xh8 := Lib.hid (blk_below Xh7.out hb (blk_lt Xh7.out))
      clear cC0 cC1 cC2 cC3 cC4 cC5 cC6 cC7 cD0 cD1 cD2 cD3 cD4 cD5 cD6 cD7 cP0 cP1 cP2 cP3 cP4 cP5 cQ0 cQ1 cQ2 cQ3 cQ4 cQ5 cX0 cX1 cX2 cX3 cX4 cX5 cX6 cX7
      clear HB7 Ch7 Dh7 Ph7 Qh7 Xh7
      clear hb
      have cC0 : w8.cell? ⟨w.heap.size, 0, none⟩ = some (.int .i64 c.office) := (cell_of_row _ _ _ _ _ _ Ch8.out).trans rfl
      have cC1 : w8.cell? ⟨w.heap.size, 1, none⟩ = some (.int .i64 c.hour) := (cell_of_row _ _ _ _ _ _ Ch8.out).trans rfl
      have cC2 : w8.cell? ⟨w.heap.size, 2, none⟩ = some (.int .i64 c.inn) := (cell_of_row _ _ _ _ _ _ Ch8.out).trans rfl
      have cC3 : w8.cell? ⟨w.heap.size, 3, none⟩ = some (.int .i64 c.out) := (cell_of_row _ _ _ _ _ _ Ch8.out).trans rfl
      have cC4 : w8.cell? ⟨w.heap.size, 4, none⟩ = some (.int .i64 c.store) := (cell_of_row _ _ _ _ _ _ Ch8.out).trans rfl
      have cC5 : w8.cell? ⟨w.heap.size, 5, none⟩ = some (.string c.prev) := (cell_of_row _ _ _ _ _ _ Ch8.out).trans rfl
      have cC6 : w8.cell? ⟨w.heap.size, 6, none⟩ = some (.int .i64 c.e) := (cell_of_row _ _ _ _ _ _ Ch8.out).trans rfl
      have cC7 : w8.cell? ⟨w.heap.size, 7, none⟩ = some (.int .i64 c.s) := (cell_of_row _ _ _ _ _ _ Ch8.out).trans rfl
      have cD0 : w8.cell? ⟨bD, 0, none⟩ = some (.int .i64 d.office) := (cell_of_row _ _ _ _ _ _ Dh8.out).trans rfl
      have cD1 : w8.cell? ⟨bD, 1, none⟩ = some (.int .i64 d.hour) := (cell_of_row _ _ _ _ _ _ Dh8.out).trans rfl
      have cD2 : w8.cell? ⟨bD, 2, none⟩ = some (.int .i64 d.inn) := (cell_of_row _ _ _ _ _ _ Dh8.out).trans rfl
      have cD3 : w8.cell? ⟨bD, 3, none⟩ = some (.int .i64 d.out) := (cell_of_row _ _ _ _ _ _ Dh8.out).trans rfl
      have cD4 : w8.cell? ⟨bD, 4, none⟩ = some (.int .i64 d.store) := (cell_of_row _ _ _ _ _ _ Dh8.out).trans rfl
      have cD5 : w8.cell? ⟨bD, 5, none⟩ = some (.string d.prev) := (cell_of_row _ _ _ _ _ _ Dh8.out).trans rfl
      have cD6 : w8.cell? ⟨bD, 6, none⟩ = some (.int .i64 d.e) := (cell_of_row _ _ _ _ _ _ Dh8.out).trans rfl
      have cD7 : w8.cell? ⟨bD, 7, none⟩ = some (.int .i64 d.s) := (cell_of_row _ _ _ _ _ _ Dh8.out).trans rfl
      have cP0 : w8.cell? ⟨bP, 0, none⟩ = some (.int .i64 p.office) := (cell_of_row _ _ _ _ _ _ Ph8.out).trans rfl
      have cP1 : w8.cell? ⟨bP, 1, none⟩ = some (.int .i64 p.since) := (cell_of_row _ _ _ _ _ _ Ph8.out).trans rfl
      have cP2 : w8.cell? ⟨bP, 2, none⟩ = some (.int .i64 p.till) := (cell_of_row _ _ _ _ _ _ Ph8.out).trans rfl
      have cP3 : w8.cell? ⟨bP, 3, none⟩ = some (.int .i64 p.litres) := (cell_of_row _ _ _ _ _ _ Ph8.out).trans rfl
      have cP4 : w8.cell? ⟨bP, 4, none⟩ = some (.int .i64 p.e) := (cell_of_row _ _ _ _ _ _ Ph8.out).trans rfl
      have cP5 : w8.cell? ⟨bP, 5, none⟩ = some (.int .i64 p.s) := (cell_of_row _ _ _ _ _ _ Ph8.out).trans rfl
      have cQ0 : w8.cell? ⟨bQ, 0, none⟩ = some (.int .i64 q.office) := (cell_of_row _ _ _ _ _ _ Qh8.out).trans rfl
      have cQ1 : w8.cell? ⟨bQ, 1, none⟩ = some (.int .i64 q.since) := (cell_of_row _ _ _ _ _ _ Qh8.out).trans rfl
      have cQ2 : w8.cell? ⟨bQ, 2, none⟩ = some (.int .i64 q.till) := (cell_of_row _ _ _ _ _ _ Qh8.out).trans rfl
      have cQ3 : w8.cell? ⟨bQ, 3, none⟩ = some (.int .i64 q.litres) := (cell_of_row _ _ _ _ _ _ Qh8.out).trans rfl
      have cQ4 : w8.cell? ⟨bQ, 4, none⟩ = some (.int .i64 q.e) := (cell_of_row _ _ _ _ _ _ Qh8.out).trans rfl
      have cQ5 : w8.cell? ⟨bQ, 5, none⟩ = some (.int .i64 q.s) := (cell_of_row _ _ _ _ _ _ Qh8.out).trans rfl
      have cX0 : w8.cell? ⟨bX, 0, none⟩ = some (.int .i64 c.office) := (cell_of_row _ _ _ _ _ _ Xh8.out).trans rfl
      have cX1 : w8.cell? ⟨bX, 1, none⟩ = some (.int .i64 c.hour) := (cell_of_row _ _ _ _ _ _ Xh8.out).trans rfl
      have cX2 : w8.cell? ⟨bX, 2, none⟩ = some (.int .i64 c.inn) := (cell_of_row _ _ _ _ _ _ Xh8.out).trans rfl
      have cX3 : w8.cell? ⟨bX, 3, none⟩ = some (.int .i64 c.out) := (cell_of_row _ _ _ _ _ _ Xh8.out).trans rfl
      have cX4 : w8.cell? ⟨bX, 4, none⟩ = some (.int .i64 c.store) := (cell_of_row _ _ _ _ _ _ Xh8.out).trans rfl
      have cX5 : w8.cell? ⟨bX, 5, none⟩ = some (.string c.prev) := (cell_of_row _ _ _ _ _ _ Xh8.out).trans rfl
      have cX6 : w8.cell? ⟨bX, 6, none⟩ = some (.int .i64 c.e) := (cell_of_row _ _ _ _ _ _ Xh8.out).trans rfl
      have cX7 : w8.cell? ⟨bX, 7, none⟩ = some (.int .i64 c.s) := (cell_of_row _ _ _ _ _ _ Xh8.out).trans rfl
      go_upto_region 6 with fail
      have HB9 := Lib.hid (HB8.out.alloc HB8.out.size (.cells #[.int .i64 p.office, .int .i64 p.since, .int .i64 p.till, .int .i64 p.litres, .int .i64 p.e, .int .i64 p.s] 27))
      have Yh9 := Lib.hid (heap_alloc_new w8 (.cells #[.int .i64 p.office, .int .i64 p.since, .int .i64 p.till, .int .i64 p.litres, .int .i64 p.e, .int .i64 p.s] 27))
      have Ch9 := Lib.hid (blk_below Ch8.out ((Below.refl w8.heap.size w8).alloc (Nat.le_refl _) (.cells #[.int .i64 p.office, .int .i64 p.since, .int .i64 p.till, .int .i64 p.litres, .int .i64 p.e, .int .i64 p.s] 27)) (blk_lt Ch8.out))
      have Dh9 := Lib.hid (blk_below Dh8.out ((Below.refl w8.heap.size w8).alloc (Nat.le_refl _) (.cells #[.int .i64 p.office, .int .i64 p.since, .int .i64 p.till, .int .i64 p.litres, .int .i64 p.e, .int .i64 p.s] 27)) (blk_lt Dh8.out))
      have Ph9 := Lib.hid (blk_below Ph8.out ((Below.refl w8.heap.size w8).alloc (Nat.le_refl _) (.cells #[.int .i64 p.office, .int .i64 p.since, .int .i64 p.till, .int .i64 p.litres, .int .i64 p.e, .int .i64 p.s] 27)) (blk_lt Ph8.out))
      have Qh9 := Lib.hid (blk_below Qh8.out ((Below.refl w8.heap.size w8).alloc (Nat.le_refl _) (.cells #[.int .i64 p.office, .int .i64 p.since, .int .i64 p.till, .int .i64 p.litres, .int .i64 p.e, .int .i64 p.s] 27)) (blk_lt Qh8.out))
      have Xh9 := Lib.hid (blk_below Xh8.out ((Below.refl w8.heap.size w8).alloc (Nat.le_refl _) (.cells #[.int .i64 p.office, .int .i64 p.since, .int .i64 p.till, .int .i64 p.litres, .int .i64 p.e, .int .i64 p.s] 27)) (blk_lt Xh8.out))
      clear cC0 cC1 cC2 cC3 cC4 cC5 cC6 cC7 cD0 cD1 cD2 cD3 cD4 cD5 cD6 cD7 cP0 cP1 cP2 cP3 cP4 cP5 cQ0 cQ1 cQ2 cQ3 cQ4 cQ5 cX0 cX1 cX2 cX3 cX4 cX5 cX6 cX7
      clear HB8 Ch8 Dh8 Ph8 Qh8 Xh8
      generalize w8.heap.size = bY at *
      generalize w8.alloc (.cells #[.int .i64 p.office, .int .i64 p.since, .int .i64 p.till, .int .i64 p.litres, .int .i64 p.e, .int .i64 p.s] 27) = w9 at *
      have cC0 : w9.cell? ⟨w.heap.size, 0, none⟩ = some (.int .i64 c.office) := (cell_of_row _ _ _ _ _ _ Ch9.out).trans rfl
      have cC1 : w9.cell? ⟨w.heap.size, 1, none⟩ = some (.int .i64 c.hour) := (cell_of_row _ _ _ _ _ _ Ch9.out).trans rfl
      have cC2 : w9.cell? ⟨w.heap.size, 2, none⟩ = some (.int .i64 c.inn) := (cell_of_row _ _ _ _ _ _ Ch9.out).trans rfl
      have cC3 : w9.cell? ⟨w.heap.size, 3, none⟩ = some (.int .i64 c.out) := (cell_of_row _ _ _ _ _ _ Ch9.out).trans rfl
      have cC4 : w9.cell? ⟨w.heap.size, 4, none⟩ = some (.int .i64 c.store) := (cell_of_row _ _ _ _ _ _ Ch9.out).trans rfl
      have cC5 : w9.cell? ⟨w.heap.size, 5, none⟩ = some (.string c.prev) := (cell_of_row _ _ _ _ _ _ Ch9.out).trans rfl
      have cC6 : w9.cell? ⟨w.heap.size, 6, none⟩ = some (.int .i64 c.e) := (cell_of_row _ _ _ _ _ _ Ch9.out).trans rfl
      have cC7 : w9.cell? ⟨w.heap.size, 7, none⟩ = some (.int .i64 c.s) := (cell_of_row _ _ _ _ _ _ Ch9.out).trans rfl
      have cD0 : w9.cell? ⟨bD, 0, none⟩ = some (.int .i64 d.office) := (cell_of_row _ _ _ _ _ _ Dh9.out).trans rfl
      have cD1 : w9.cell? ⟨bD, 1, none⟩ = some (.int .i64 d.hour) := (cell_of_row _ _ _ _ _ _ Dh9.out).trans rfl
      have cD2 : w9.cell? ⟨bD, 2, none⟩ = some (.int .i64 d.inn) := (cell_of_row _ _ _ _ _ _ Dh9.out).trans rfl
      have cD3 : w9.cell? ⟨bD, 3, none⟩ = some (.int .i64 d.out) := (cell_of_row _ _ _ _ _ _ Dh9.out).trans rfl
      have cD4 : w9.cell? ⟨bD, 4, none⟩ = some (.int .i64 d.store) := (cell_of_row _ _ _ _ _ _ Dh9.out).trans rfl
      have cD5 : w9.cell? ⟨bD, 5, none⟩ = some (.string d.prev) := (cell_of_row _ _ _ _ _ _ Dh9.out).trans rfl
      have cD6 : w9.cell? ⟨bD, 6, none⟩ = some (.int .i64 d.e) := (cell_of_row _ _ _ _ _ _ Dh9.out).trans rfl
      have cD7 : w9.cell? ⟨bD, 7, none⟩ = some (.int .i64 d.s) := (cell_of_row _ _ _ _ _ _ Dh9.out).trans rfl
      have cP0 : w9.cell? ⟨bP, 0, none⟩ = some (.int .i64 p.office) := (cell_of_row _ _ _ _ _ _ Ph9.out).trans rfl
      have cP1 : w9.cell? ⟨bP, 1, none⟩ = some (.int .i64 p.since) := (cell_of_row _ _ _ _ _ _ Ph9.out).trans rfl
      have cP2 : w9.cell? ⟨bP, 2, none⟩ = some (.int .i64 p.till) := (cell_of_row _ _ _ _ _ _ Ph9.out).trans rfl
      have cP3 : w9.cell? ⟨bP, 3, none⟩ = some (.int .i64 p.litres) := (cell_of_row _ _ _ _ _ _ Ph9.out).trans rfl
      have cP4 : w9.cell? ⟨bP, 4, none⟩ = some (.int .i64 p.e) := (cell_of_row _ _ _ _ _ _ Ph9.out).trans rfl
      have cP5 : w9.cell? ⟨bP, 5, none⟩ = some (.int .i64 p.s) := (cell_of_row _ _ _ _ _ _ Ph9.out).trans rfl
      have cQ0 : w9.cell? ⟨bQ, 0, none⟩ = some (.int .i64 q.office) := (cell_of_row _ _ _ _ _ _ Qh9.out).trans rfl
      have cQ1 : w9.cell? ⟨bQ, 1, none⟩ = some (.int .i64 q.since) := (cell_of_row _ _ _ _ _ _ Qh9.out).trans rfl
      have cQ2 : w9.cell? ⟨bQ, 2, none⟩ = some (.int .i64 q.till) := (cell_of_row _ _ _ _ _ _ Qh9.out).trans rfl
      have cQ3 : w9.cell? ⟨bQ, 3, none⟩ = some (.int .i64 q.litres) := (cell_of_row _ _ _ _ _ _ Qh9.out).trans rfl
      have cQ4 : w9.cell? ⟨bQ, 4, none⟩ = some (.int .i64 q.e) := (cell_of_row _ _ _ _ _ _ Qh9.out).trans rfl
      have cQ5 : w9.cell? ⟨bQ, 5, none⟩ = some (.int .i64 q.s) := (cell_of_row _ _ _ _ _ _ Qh9.out).trans rfl
      have cX0 : w9.cell? ⟨bX, 0, none⟩ = some (.int .i64 c.office) := (cell_of_row _ _ _ _ _ _ Xh9.out).trans rfl
      have cX1 : w9.cell? ⟨bX, 1, none⟩ = some (.int .i64 c.hour) := (cell_of_row _ _ _ _ _ _ Xh9.out).trans rfl
      have cX2 : w9.cell? ⟨bX, 2, none⟩ = some (.int .i64 c.inn) := (cell_of_row _ _ _ _ _ _ Xh9.out).trans rfl
      have cX3 : w9.cell? ⟨bX, 3, none⟩ = some (.int .i64 c.out) := (cell_of_row _ _ _ _ _ _ Xh9.out).trans rfl
      have cX4 : w9.cell? ⟨bX, 4, none⟩ = some (.int .i64 c.store) := (cell_of_row _ _ _ _ _ _ Xh9.out).trans rfl
      have cX5 : w9.cell? ⟨bX, 5, none⟩ = some (.string c.prev) := (cell_of_row _ _ _ _ _ _ Xh9.out).trans rfl
      have cX6 : w9.cell? ⟨bX, 6, none⟩ = some (.int .i64 c.e) := (cell_of_row _ _ _ _ _ _ Xh9.out).trans rfl
      have cX7 : w9.cell? ⟨bX, 7, none⟩ = some (.int .i64 c.s) := (cell_of_row _ _ _ _ _ _ Xh9.out).trans rfl
      have cY0 : w9.cell? ⟨bY, 0, none⟩ = some (.int .i64 p.office) := (cell_of_row _ _ _ _ _ _ Yh9.out).trans rfl
      have cY1 : w9.cell? ⟨bY, 1, none⟩ = some (.int .i64 p.since) := (cell_of_row _ _ _ _ _ _ Yh9.out).trans rfl
      have cY2 : w9.cell? ⟨bY, 2, none⟩ = some (.int .i64 p.till) := (cell_of_row _ _ _ _ _ _ Yh9.out).trans rfl
      have cY3 : w9.cell? ⟨bY, 3, none⟩ = some (.int .i64 p.litres) := (cell_of_row _ _ _ _ _ _ Yh9.out).trans rfl
      have cY4 : w9.cell? ⟨bY, 4, none⟩ = some (.int .i64 p.e) := (cell_of_row _ _ _ _ _ _ Yh9.out).trans rfl
      have cY5 : w9.cell? ⟨bY, 5, none⟩ = some (.int .i64 p.s) := (cell_of_row _ _ _ _ _ _ Yh9.out).trans rfl
      go_wp2_with fail
      refine (HF.out.by_ c okc _ (HM.out.up HB9.out)).mono ?_
      rintro e w10 ⟨rfl, hb⟩
      have HB10 := Lib.hid (HB9.out.trans (hb.mono HB9.out.size))
      have Ch10 := Lib.hid (blk_below Ch9.out hb (blk_lt Ch9.out))
      have Dh10 := Lib.hid (blk_below Dh9.out hb (blk_lt Dh9.out))
      have Ph10 := Lib.hid (blk_below Ph9.out hb (blk_lt Ph9.out))
      have Qh10 := Lib.hid (blk_below Qh9.out hb (blk_lt Qh9.out))
      have Xh10 := Lib.hid (blk_below Xh9.out hb (blk_lt Xh9.out))
      have Yh10 := Lib.hid (blk_below Yh9.out hb (blk_lt Yh9.out))
      clear cC0 cC1 cC2 cC3 cC4 cC5 cC6 cC7 cD0 cD1 cD2 cD3 cD4 cD5 cD6 cD7 cP0 cP1 cP2 cP3 cP4 cP5 cQ0 cQ1 cQ2 cQ3 cQ4 cQ5 cX0 cX1 cX2 cX3 cX4 cX5 cX6 cX7 cY0 cY1 cY2 cY3 cY4 cY5
      clear HB9 Ch9 Dh9 Ph9 Qh9 Xh9 Yh9
      clear hb
      have cC0 : w10.cell? ⟨w.heap.size, 0, none⟩ = some (.int .i64 c.office) := (cell_of_row _ _ _ _ _ _ Ch10.out).trans rfl
      have cC1 : w10.cell? ⟨w.heap.size, 1, none⟩ = some (.int .i64 c.hour) := (cell_of_row _ _ _ _ _ _ Ch10.out).trans rfl
      have cC2 : w10.cell? ⟨w.heap.size, 2, none⟩ = some (.int .i64 c.inn) := (cell_of_row _ _ _ _ _ _ Ch10.out).trans rfl
      have cC3 : w10.cell? ⟨w.heap.size, 3, none⟩ = some (.int .i64 c.out) := (cell_of_row _ _ _ _ _ _ Ch10.out).trans rfl
      have cC4 : w10.cell? ⟨w.heap.size, 4, none⟩ = some (.int .i64 c.store) := (cell_of_row _ _ _ _ _ _ Ch10.out).trans rfl
      have cC5 : w10.cell? ⟨w.heap.size, 5, none⟩ = some (.string c.prev) := (cell_of_row _ _ _ _ _ _ Ch10.out).trans rfl
      have cC6 : w10.cell? ⟨w.heap.size, 6, none⟩ = some (.int .i64 c.e) := (cell_of_row _ _ _ _ _ _ Ch10.out).trans rfl
      have cC7 : w10.cell? ⟨w.heap.size, 7, none⟩ = some (.int .i64 c.s) := (cell_of_row _ _ _ _ _ _ Ch10.out).trans rfl
      have cD0 : w10.cell? ⟨bD, 0, none⟩ = some (.int .i64 d.office) := (cell_of_row _ _ _ _ _ _ Dh10.out).trans rfl
      have cD1 : w10.cell? ⟨bD, 1, none⟩ = some (.int .i64 d.hour) := (cell_of_row _ _ _ _ _ _ Dh10.out).trans rfl
      have cD2 : w10.cell? ⟨bD, 2, none⟩ = some (.int .i64 d.inn) := (cell_of_row _ _ _ _ _ _ Dh10.out).trans rfl
      have cD3 : w10.cell? ⟨bD, 3, none⟩ = some (.int .i64 d.out) := (cell_of_row _ _ _ _ _ _ Dh10.out).trans rfl
      have cD4 : w10.cell? ⟨bD, 4, none⟩ = some (.int .i64 d.store) := (cell_of_row _ _ _ _ _ _ Dh10.out).trans rfl
      have cD5 : w10.cell? ⟨bD, 5, none⟩ = some (.string d.prev) := (cell_of_row _ _ _ _ _ _ Dh10.out).trans rfl
      have cD6 : w10.cell? ⟨bD, 6, none⟩ = some (.int .i64 d.e) := (cell_of_row _ _ _ _ _ _ Dh10.out).trans rfl
      have cD7 : w10.cell? ⟨bD, 7, none⟩ = some (.int .i64 d.s) := (cell_of_row _ _ _ _ _ _ Dh10.out).trans rfl
      have cP0 : w10.cell? ⟨bP, 0, none⟩ = some (.int .i64 p.office) := (cell_of_row _ _ _ _ _ _ Ph10.out).trans rfl
      have cP1 : w10.cell? ⟨bP, 1, none⟩ = some (.int .i64 p.since) := (cell_of_row _ _ _ _ _ _ Ph10.out).trans rfl
      have cP2 : w10.cell? ⟨bP, 2, none⟩ = some (.int .i64 p.till) := (cell_of_row _ _ _ _ _ _ Ph10.out).trans rfl
      have cP3 : w10.cell? ⟨bP, 3, none⟩ = some (.int .i64 p.litres) := (cell_of_row _ _ _ _ _ _ Ph10.out).trans rfl
      have cP4 : w10.cell? ⟨bP, 4, none⟩ = some (.int .i64 p.e) := (cell_of_row _ _ _ _ _ _ Ph10.out).trans rfl
      have cP5 : w10.cell? ⟨bP, 5, none⟩ = some (.int .i64 p.s) := (cell_of_row _ _ _ _ _ _ Ph10.out).trans rfl
      have cQ0 : w10.cell? ⟨bQ, 0, none⟩ = some (.int .i64 q.office) := (cell_of_row _ _ _ _ _ _ Qh10.out).trans rfl
      have cQ1 : w10.cell? ⟨bQ, 1, none⟩ = some (.int .i64 q.since) := (cell_of_row _ _ _ _ _ _ Qh10.out).trans rfl
      have cQ2 : w10.cell? ⟨bQ, 2, none⟩ = some (.int .i64 q.till) := (cell_of_row _ _ _ _ _ _ Qh10.out).trans rfl
      have cQ3 : w10.cell? ⟨bQ, 3, none⟩ = some (.int .i64 q.litres) := (cell_of_row _ _ _ _ _ _ Qh10.out).trans rfl
      have cQ4 : w10.cell? ⟨bQ, 4, none⟩ = some (.int .i64 q.e) := (cell_of_row _ _ _ _ _ _ Qh10.out).trans rfl
      have cQ5 : w10.cell? ⟨bQ, 5, none⟩ = some (.int .i64 q.s) := (cell_of_row _ _ _ _ _ _ Qh10.out).trans rfl
      have cX0 : w10.cell? ⟨bX, 0, none⟩ = some (.int .i64 c.office) := (cell_of_row _ _ _ _ _ _ Xh10.out).trans rfl
      have cX1 : w10.cell? ⟨bX, 1, none⟩ = some (.int .i64 c.hour) := (cell_of_row _ _ _ _ _ _ Xh10.out).trans rfl
      have cX2 : w10.cell? ⟨bX, 2, none⟩ = some (.int .i64 c.inn) := (cell_of_row _ _ _ _ _ _ Xh10.out).trans rfl
      have cX3 : w10.cell? ⟨bX, 3, none⟩ = some (.int .i64 c.out) := (cell_of_row _ _ _ _ _ _ Xh10.out).trans rfl
      have cX4 : w10.cell? ⟨bX, 4, none⟩ = some (.int .i64 c.store) := (cell_of_row _ _ _ _ _ _ Xh10.out).trans rfl
      have cX5 : w10.cell? ⟨bX, 5, none⟩ = some (.string c.prev) := (cell_of_row _ _ _ _ _ _ Xh10.out).trans rfl
      have cX6 : w10.cell? ⟨bX, 6, none⟩ = some (.int .i64 c.e) := (cell_of_row _ _ _ _ _ _ Xh10.out).trans rfl
      have cX7 : w10.cell? ⟨bX, 7, none⟩ = some (.int .i64 c.s) := (cell_of_row _ _ _ _ _ _ Xh10.out).trans rfl
      have cY0 : w10.cell? ⟨bY, 0, none⟩ = some (.int .i64 p.office) := (cell_of_row _ _ _ _ _ _ Yh10.out).trans rfl
      have cY1 : w10.cell? ⟨bY, 1, none⟩ = some (.int .i64 p.since) := (cell_of_row _ _ _ _ _ _ Yh10.out).trans rfl
      have cY2 : w10.cell? ⟨bY, 2, none⟩ = some (.int .i64 p.till) := (cell_of_row _ _ _ _ _ _ Yh10.out).trans rfl
      have cY3 : w10.cell? ⟨bY, 3, none⟩ = some (.int .i64 p.litres) := (cell_of_row _ _ _ _ _ _ Yh10.out).trans rfl
      have cY4 : w10.cell? ⟨bY, 4, none⟩ = some (.int .i64 p.e) := (cell_of_row _ _ _ _ _ _ Yh10.out).trans rfl
      have cY5 : w10.cell? ⟨bY, 5, none⟩ = some (.int .i64 p.s) := (cell_of_row _ _ _ _ _ _ Yh10.out).trans rfl
      go_wp2_with fail
      refine (HF.out.rdx _).mono ?_
      rintro e w11 ⟨rfl, hb⟩
      have HB11 := Lib.hid (HB10.out.trans (hb.mono HB10.out.size))
      have Ch11 := Lib.hid (blk_below Ch10.out hb (blk_lt Ch10.out))
      have Dh11 := Lib.hid (blk_below Dh10.out hb (blk_lt Dh10.out))
      have Ph11 := Lib.hid (blk_below Ph10.out hb (blk_lt Ph10.out))
      have Qh11 := Lib.hid (blk_below Qh10.out hb (blk_lt Qh10.out))
      have Xh11 := Lib.hid (blk_below Xh10.out hb (blk_lt Xh10.out))
      have Yh11 := Lib.hid (blk_below Yh10.out hb (blk_lt Yh10.out))
      clear cC0 cC1 cC2 cC3 cC4 cC5 cC6 cC7 cD0 cD1 cD2 cD3 cD4 cD5 cD6 cD7 cP0 cP1 cP2 cP3 cP4 cP5 cQ0 cQ1 cQ2 cQ3 cQ4 cQ5 cX0 cX1 cX2 cX3 cX4 cX5 cX6 cX7 cY0 cY1 cY2 cY3 cY4 cY5
      clear HB10 Ch10 Dh10 Ph10 Qh10 Xh10 Yh10
      clear hb
      have cC0 : w11.cell? ⟨w.heap.size, 0, none⟩ = some (.int .i64 c.office) := (cell_of_row _ _ _ _ _ _ Ch11.out).trans rfl
      have cC1 : w11.cell? ⟨w.heap.size, 1, none⟩ = some (.int .i64 c.hour) := (cell_of_row _ _ _ _ _ _ Ch11.out).trans rfl
      have cC2 : w11.cell? ⟨w.heap.size, 2, none⟩ = some (.int .i64 c.inn) := (cell_of_row _ _ _ _ _ _ Ch11.out).trans rfl
      have cC3 : w11.cell? ⟨w.heap.size, 3, none⟩ = some (.int .i64 c.out) := (cell_of_row _ _ _ _ _ _ Ch11.out).trans rfl
      have cC4 : w11.cell? ⟨w.heap.size, 4, none⟩ = some (.int .i64 c.store) := (cell_of_row _ _ _ _ _ _ Ch11.out).trans rfl
      have cC5 : w11.cell? ⟨w.heap.size, 5, none⟩ = some (.string c.prev) := (cell_of_row _ _ _ _ _ _ Ch11.out).trans rfl
      have cC6 : w11.cell? ⟨w.heap.size, 6, none⟩ = some (.int .i64 c.e) := (cell_of_row _ _ _ _ _ _ Ch11.out).trans rfl
      have cC7 : w11.cell? ⟨w.heap.size, 7, none⟩ = some (.int .i64 c.s) := (cell_of_row _ _ _ _ _ _ Ch11.out).trans rfl
      have cD0 : w11.cell? ⟨bD, 0, none⟩ = some (.int .i64 d.office) := (cell_of_row _ _ _ _ _ _ Dh11.out).trans rfl
      have cD1 : w11.cell? ⟨bD, 1, none⟩ = some (.int .i64 d.hour) := (cell_of_row _ _ _ _ _ _ Dh11.out).trans rfl
      have cD2 : w11.cell? ⟨bD, 2, none⟩ = some (.int .i64 d.inn) := (cell_of_row _ _ _ _ _ _ Dh11.out).trans rfl
      have cD3 : w11.cell? ⟨bD, 3, none⟩ = some (.int .i64 d.out) := (cell_of_row _ _ _ _ _ _ Dh11.out).trans rfl
      have cD4 : w11.cell? ⟨bD, 4, none⟩ = some (.int .i64 d.store) := (cell_of_row _ _ _ _ _ _ Dh11.out).trans rfl
      have cD5 : w11.cell? ⟨bD, 5, none⟩ = some (.string d.prev) := (cell_of_row _ _ _ _ _ _ Dh11.out).trans rfl
      have cD6 : w11.cell? ⟨bD, 6, none⟩ = some (.int .i64 d.e) := (cell_of_row _ _ _ _ _ _ Dh11.out).trans rfl
      have cD7 : w11.cell? ⟨bD, 7, none⟩ = some (.int .i64 d.s) := (cell_of_row _ _ _ _ _ _ Dh11.out).trans rfl
      have cP0 : w11.cell? ⟨bP, 0, none⟩ = some (.int .i64 p.office) := (cell_of_row _ _ _ _ _ _ Ph11.out).trans rfl
      have cP1 : w11.cell? ⟨bP, 1, none⟩ = some (.int .i64 p.since) := (cell_of_row _ _ _ _ _ _ Ph11.out).trans rfl
      have cP2 : w11.cell? ⟨bP, 2, none⟩ = some (.int .i64 p.till) := (cell_of_row _ _ _ _ _ _ Ph11.out).trans rfl
      have cP3 : w11.cell? ⟨bP, 3, none⟩ = some (.int .i64 p.litres) := (cell_of_row _ _ _ _ _ _ Ph11.out).trans rfl
      have cP4 : w11.cell? ⟨bP, 4, none⟩ = some (.int .i64 p.e) := (cell_of_row _ _ _ _ _ _ Ph11.out).trans rfl
      have cP5 : w11.cell? ⟨bP, 5, none⟩ = some (.int .i64 p.s) := (cell_of_row _ _ _ _ _ _ Ph11.out).trans rfl
      have cQ0 : w11.cell? ⟨bQ, 0, none⟩ = some (.int .i64 q.office) := (cell_of_row _ _ _ _ _ _ Qh11.out).trans rfl
      have cQ1 : w11.cell? ⟨bQ, 1, none⟩ = some (.int .i64 q.since) := (cell_of_row _ _ _ _ _ _ Qh11.out).trans rfl
      have cQ2 : w11.cell? ⟨bQ, 2, none⟩ = some (.int .i64 q.till) := (cell_of_row _ _ _ _ _ _ Qh11.out).trans rfl
      have cQ3 : w11.cell? ⟨bQ, 3, none⟩ = some (.int .i64 q.litres) := (cell_of_row _ _ _ _ _ _ Qh11.out).trans rfl
      have cQ4 : w11.cell? ⟨bQ, 4, none⟩ = some (.int .i64 q.e) := (cell_of_row _ _ _ _ _ _ Qh11.out).trans rfl
      have cQ5 : w11.cell? ⟨bQ, 5, none⟩ = some (.int .i64 q.s) := (cell_of_row _ _ _ _ _ _ Qh11.out).trans rfl
      have cX0 : w11.cell? ⟨bX, 0, none⟩ = some (.int .i64 c.office) := (cell_of_row _ _ _ _ _ _ Xh11.out).trans rfl
      have cX1 : w11.cell? ⟨bX, 1, none⟩ = some (.int .i64 c.hour) := (cell_of_row _ _ _ _ _ _ Xh11.out).trans rfl
      have cX2 : w11.cell? ⟨bX, 2, none⟩ = some (.int .i64 c.inn) := (cell_of_row _ _ _ _ _ _ Xh11.out).trans rfl
      have cX3 : w11.cell? ⟨bX, 3, none⟩ = some (.int .i64 c.out) := (cell_of_row _ _ _ _ _ _ Xh11.out).trans rfl
      have cX4 : w11.cell? ⟨bX, 4, none⟩ = some (.int .i64 c.store) := (cell_of_row _ _ _ _ _ _ Xh11.out).trans rfl
      have cX5 : w11.cell? ⟨bX, 5, none⟩ = some (.string c.prev) := (cell_of_row _ _ _ _ _ _ Xh11.out).trans rfl
      have cX6 : w11.cell? ⟨bX, 6, none⟩ = some (.int .i64 c.e) := (cell_of_row _ _ _ _ _ _ Xh11.out).trans rfl
      have cX7 : w11.cell? ⟨bX, 7, none⟩ = some (.int .i64 c.s) := (cell_of_row _ _ _ _ _ _ Xh11.out).trans rfl
      have cY0 : w11.cell? ⟨bY, 0, none⟩ = some (.int .i64 p.office) := (cell_of_row _ _ _ _ _ _ Yh11.out).trans rfl
      have cY1 : w11.cell? ⟨bY, 1, none⟩ = some (.int .i64 p.since) := (cell_of_row _ _ _ _ _ _ Yh11.out).trans rfl
      have cY2 : w11.cell? ⟨bY, 2, none⟩ = some (.int .i64 p.till) := (cell_of_row _ _ _ _ _ _ Yh11.out).trans rfl
      have cY3 : w11.cell? ⟨bY, 3, none⟩ = some (.int .i64 p.litres) := (cell_of_row _ _ _ _ _ _ Yh11.out).trans rfl
      have cY4 : w11.cell? ⟨bY, 4, none⟩ = some (.int .i64 p.e) := (cell_of_row _ _ _ _ _ _ Yh11.out).trans rfl
      have cY5 : w11.cell? ⟨bY, 5, none⟩ = some (.int .i64 p.s) := (cell_of_row _ _ _ _ _ _ Yh11.out).trans rfl
      go_upto_region 7 with fail
      have HB12 := Lib.hid (HB11.out.alloc HB11.out.size (.cells #[.int .i64 0, .int .i64 0, .int .i64 0, .int .i64 0, .int .i64 0, .string ⟨#[]⟩, .int .i64 0, .int .i64 0] 25))
      have Vh12 := Lib.hid (heap_alloc_new w11 (.cells #[.int .i64 0, .int .i64 0, .int .i64 0, .int .i64 0, .int .i64 0, .string ⟨#[]⟩, .int .i64 0, .int .i64 0] 25))
      have Ch12 := Lib.hid (blk_below Ch11.out ((Below.refl w11.heap.size w11).alloc (Nat.le_refl _) (.cells #[.int .i64 0, .int .i64 0, .int .i64 0, .int .i64 0, .int .i64 0, .string ⟨#[]⟩, .int .i64 0, .int .i64 0] 25)) (blk_lt Ch11.out))
      have Dh12 := Lib.hid (blk_below Dh11.out ((Below.refl w11.heap.size w11).alloc (Nat.le_refl _) (.cells #[.int .i64 0, .int .i64 0, .int .i64 0, .int .i64 0, .int .i64 0, .string ⟨#[]⟩, .int .i64 0, .int .i64 0] 25)) (blk_lt Dh11.out))
      have Ph12 := Lib.hid (blk_below Ph11.out ((Below.refl w11.heap.size w11).alloc (Nat.le_refl _) (.cells #[.int .i64 0, .int .i64 0, .int .i64 0, .int .i64 0, .int .i64 0, .string ⟨#[]⟩, .int .i64 0, .int .i64 0] 25)) (blk_lt Ph11.out))
      have Qh12 := Lib.hid (blk_below Qh11.out ((Below.refl w11.heap.size w11).alloc (Nat.le_refl _) (.cells #[.int .i64 0, .int .i64 0, .int .i64 0, .int .i64 0, .int .i64 0, .string ⟨#[]⟩, .int .i64 0, .int .i64 0] 25)) (blk_lt Qh11.out))
      have Xh12 := Lib.hid (blk_below Xh11.out ((Below.refl w11.heap.size w11).alloc (Nat.le_refl _) (.cells #[.int .i64 0, .int .i64 0, .int .i64 0, .int .i64 0, .int .i64 0, .string ⟨#[]⟩, .int .i64 0, .int .i64 0] 25)) (blk_lt Xh11.out))
      have Yh12 := Lib.hid (blk_below Yh11.out ((Below.refl w11.heap.size w11).alloc (Nat.le_refl _) (.cells #[.int .i64 0, .int .i64 0, .int .i64 0, .int .i64 0, .int .i64 0, .string ⟨#[]⟩, .int .i64 0, .int .i64 0] 25)) (blk_lt Yh11.out))
      clear cC0 cC1 cC2 cC3 cC4 cC5 cC6 cC7 cD0 cD1 cD2 cD3 cD4 cD5 cD6 cD7 cP0 cP1 cP2 cP3 cP4 cP5 cQ0 cQ1 cQ2 cQ3 cQ4 cQ5 cX0 cX1 cX2 cX3 cX4 cX5 cX6 cX7 cY0 cY1 cY2 cY3 cY4 cY5
      clear HB11 Ch11 Dh11 Ph11 Qh11 Xh11 Yh11
      generalize w11.heap.size = bV at *
      generalize w11.alloc (.cells #[.int .i64 0, .int .i64 0, .int .i64 0, .int .i64 0, .int .i64 0, .string ⟨#[]⟩, .int .i64 0, .int .i64 0] 25) = w12 at *
      have cC0 : w12.cell? ⟨w.heap.size, 0, none⟩ = some (.int .i64 c.office) := (cell_of_row _ _ _ _ _ _ Ch12.out).trans rfl
      have cC1 : w12.cell? ⟨w.heap.size, 1, none⟩ = some (.int .i64 c.hour) := (cell_of_row _ _ _ _ _ _ Ch12.out).trans rfl
      have cC2 : w12.cell? ⟨w.heap.size, 2, none⟩ = some (.int .i64 c.inn) := (cell_of_row _ _ _ _ _ _ Ch12.out).trans rfl
      have cC3 : w12.cell? ⟨w.heap.size, 3, none⟩ = some (.int .i64 c.out) := (cell_of_row _ _ _ _ _ _ Ch12.out).trans rfl
      have cC4 : w12.cell? ⟨w.heap.size, 4, none⟩ = some (.int .i64 c.store) := (cell_of_row _ _ _ _ _ _ Ch12.out).trans rfl
      have cC5 : w12.cell? ⟨w.heap.size, 5, none⟩ = some (.string c.prev) := (cell_of_row _ _ _ _ _ _ Ch12.out).trans rfl
      have cC6 : w12.cell? ⟨w.heap.size, 6, none⟩ = some (.int .i64 c.e) := (cell_of_row _ _ _ _ _ _ Ch12.out).trans rfl
      have cC7 : w12.cell? ⟨w.heap.size, 7, none⟩ = some (.int .i64 c.s) := (cell_of_row _ _ _ _ _ _ Ch12.out).trans rfl
      have cD0 : w12.cell? ⟨bD, 0, none⟩ = some (.int .i64 d.office) := (cell_of_row _ _ _ _ _ _ Dh12.out).trans rfl
      have cD1 : w12.cell? ⟨bD, 1, none⟩ = some (.int .i64 d.hour) := (cell_of_row _ _ _ _ _ _ Dh12.out).trans rfl
      have cD2 : w12.cell? ⟨bD, 2, none⟩ = some (.int .i64 d.inn) := (cell_of_row _ _ _ _ _ _ Dh12.out).trans rfl
      have cD3 : w12.cell? ⟨bD, 3, none⟩ = some (.int .i64 d.out) := (cell_of_row _ _ _ _ _ _ Dh12.out).trans rfl
      have cD4 : w12.cell? ⟨bD, 4, none⟩ = some (.int .i64 d.store) := (cell_of_row _ _ _ _ _ _ Dh12.out).trans rfl
      have cD5 : w12.cell? ⟨bD, 5, none⟩ = some (.string d.prev) := (cell_of_row _ _ _ _ _ _ Dh12.out).trans rfl
      have cD6 : w12.cell? ⟨bD, 6, none⟩ = some (.int .i64 d.e) := (cell_of_row _ _ _ _ _ _ Dh12.out).trans rfl
      have cD7 : w12.cell? ⟨bD, 7, none⟩ = some (.int .i64 d.s) := (cell_of_row _ _ _ _ _ _ Dh12.out).trans rfl
      have cP0 : w12.cell? ⟨bP, 0, none⟩ = some (.int .i64 p.office) := (cell_of_row _ _ _ _ _ _ Ph12.out).trans rfl
      have cP1 : w12.cell? ⟨bP, 1, none⟩ = some (.int .i64 p.since) := (cell_of_row _ _ _ _ _ _ Ph12.out).trans rfl
      have cP2 : w12.cell? ⟨bP, 2, none⟩ = some (.int .i64 p.till) := (cell_of_row _ _ _ _ _ _ Ph12.out).trans rfl
      have cP3 : w12.cell? ⟨bP, 3, none⟩ = some (.int .i64 p.litres) := (cell_of_row _ _ _ _ _ _ Ph12.out).trans rfl
      have cP4 : w12.cell? ⟨bP, 4, none⟩ = some (.int .i64 p.e) := (cell_of_row _ _ _ _ _ _ Ph12.out).trans rfl
      have cP5 : w12.cell? ⟨bP, 5, none⟩ = some (.int .i64 p.s) := (cell_of_row _ _ _ _ _ _ Ph12.out).trans rfl
      have cQ0 : w12.cell? ⟨bQ, 0, none⟩ = some (.int .i64 q.office) := (cell_of_row _ _ _ _ _ _ Qh12.out).trans rfl
      have cQ1 : w12.cell? ⟨bQ, 1, none⟩ = some (.int .i64 q.since) := (cell_of_row _ _ _ _ _ _ Qh12.out).trans rfl
      have cQ2 : w12.cell? ⟨bQ, 2, none⟩ = some (.int .i64 q.till) := (cell_of_row _ _ _ _ _ _ Qh12.out).trans rfl
      have cQ3 : w12.cell? ⟨bQ, 3, none⟩ = some (.int .i64 q.litres) := (cell_of_row _ _ _ _ _ _ Qh12.out).trans rfl
      have cQ4 : w12.cell? ⟨bQ, 4, none⟩ = some (.int .i64 q.e) := (cell_of_row _ _ _ _ _ _ Qh12.out).trans rfl
      have cQ5 : w12.cell? ⟨bQ, 5, none⟩ = some (.int .i64 q.s) := (cell_of_row _ _ _ _ _ _ Qh12.out).trans rfl
      have cX0 : w12.cell? ⟨bX, 0, none⟩ = some (.int .i64 c.office) := (cell_of_row _ _ _ _ _ _ Xh12.out).trans rfl
      have cX1 : w12.cell? ⟨bX, 1, none⟩ = some (.int .i64 c.hour) := (cell_of_row _ _ _ _ _ _ Xh12.out).trans rfl
      have cX2 : w12.cell? ⟨bX, 2, none⟩ = some (.int .i64 c.inn) := (cell_of_row _ _ _ _ _ _ Xh12.out).trans rfl
      have cX3 : w12.cell? ⟨bX, 3, none⟩ = some (.int .i64 c.out) := (cell_of_row _ _ _ _ _ _ Xh12.out).trans rfl
      have cX4 : w12.cell? ⟨bX, 4, none⟩ = some (.int .i64 c.store) := (cell_of_row _ _ _ _ _ _ Xh12.out).trans rfl
      have cX5 : w12.cell? ⟨bX, 5, none⟩ = some (.string c.prev) := (cell_of_row _ _ _ _ _ _ Xh12.out).trans rfl
      have cX6 : w12.cell? ⟨bX, 6, none⟩ = some (.int .i64 c.e) := (cell_of_row _ _ _ _ _ _ Xh12.out).trans rfl
      have cX7 : w12.cell? ⟨bX, 7, none⟩ = some (.int .i64 c.s) := (cell_of_row _ _ _ _ _ _ Xh12.out).trans rfl
      have cY0 : w12.cell? ⟨bY, 0, none⟩ = some (.int .i64 p.office) := (cell_of_row _ _ _ _ _ _ Yh12.out).trans rfl
      have cY1 : w12.cell? ⟨bY, 1, none⟩ = some (.int .i64 p.since) := (cell_of_row _ _ _ _ _ _ Yh12.out).trans rfl
      have cY2 : w12.cell? ⟨bY, 2, none⟩ = some (.int .i64 p.till) := (cell_of_row _ _ _ _ _ _ Yh12.out).trans rfl
      have cY3 : w12.cell? ⟨bY, 3, none⟩ = some (.int .i64 p.litres) := (cell_of_row _ _ _ _ _ _ Yh12.out).trans rfl
      have cY4 : w12.cell? ⟨bY, 4, none⟩ = some (.int .i64 p.e) := (cell_of_row _ _ _ _ _ _ Yh12.out).trans rfl
      have cY5 : w12.cell? ⟨bY, 5, none⟩ = some (.int .i64 p.s) := (cell_of_row _ _ _ _ _ _ Yh12.out).trans rfl
      have cV0 : w12.cell? ⟨bV, 0, none⟩ = some (.int .i64 0) := (cell_of_row _ _ _ _ _ _ Vh12.out).trans rfl
      have cV1 : w12.cell? ⟨bV, 1, none⟩ = some (.int .i64 0) := (cell_of_row _ _ _ _ _ _ Vh12.out).trans rfl
      have cV2 : w12.cell? ⟨bV, 2, none⟩ = some (.int .i64 0) := (cell_of_row _ _ _ _ _ _ Vh12.out).trans rfl
      have cV3 : w12.cell? ⟨bV, 3, none⟩ = some (.int .i64 0) := (cell_of_row _ _ _ _ _ _ Vh12.out).trans rfl
      have cV4 : w12.cell? ⟨bV, 4, none⟩ = some (.int .i64 0) := (cell_of_row _ _ _ _ _ _ Vh12.out).trans rfl
      have cV5 : w12.cell? ⟨bV, 5, none⟩ = some (.string ⟨#[]⟩) := (cell_of_row _ _ _ _ _ _ Vh12.out).trans rfl
      have cV6 : w12.cell? ⟨bV, 6, none⟩ = some (.int .i64 0) := (cell_of_row _ _ _ _ _ _ Vh12.out).trans rfl
      have cV7 : w12.cell? ⟨bV, 7, none⟩ = some (.int .i64 0) := (cell_of_row _ _ _ _ _ _ Vh12.out).trans rfl
      clear cC0 cC1 cC2 cC3 cC4 cC5 cC6 cC7 cD0 cD1 cD2 cD3 cD4 cD5 cD6 cD7 cP0 cP1 cP2 cP3 cP4 cP5 cQ0 cQ1 cQ2 cQ3 cQ4 cQ5 cX0 cX1 cX2 cX3 cX4 cX5 cX6 cX7 cY0 cY1 cY2 cY3 cY4 cY5 cV0 cV1 cV2 cV3 cV4 cV5 cV6 cV7
      have HS0 : Hid (w12.heap[w.heap.size]? = some (.cells #[.int .i64 c.office, .int .i64 c.hour, .int .i64 c.inn, .int .i64 c.out, .int .i64 c.store, .string c.prev, .int .i64 c.e, .int .i64 c.s] 25) ∧ w12.heap[bD]? = some (.cells #[.int .i64 d.office, .int .i64 d.hour, .int .i64 d.inn, .int .i64 d.out, .int .i64 d.store, .string d.prev, .int .i64 d.e, .int .i64 d.s] 25) ∧ w12.heap[bP]? = some (.cells #[.int .i64 p.office, .int .i64 p.since, .int .i64 p.till, .int .i64 p.litres, .int .i64 p.e, .int .i64 p.s] 27) ∧ w12.heap[bQ]? = some (.cells #[.int .i64 q.office, .int .i64 q.since, .int .i64 q.till, .int .i64 q.litres, .int .i64 q.e, .int .i64 q.s] 27) ∧ w12.heap[bX]? = some (.cells #[.int .i64 c.office, .int .i64 c.hour, .int .i64 c.inn, .int .i64 c.out, .int .i64 c.store, .string c.prev, .int .i64 c.e, .int .i64 c.s] 25) ∧ w12.heap[bY]? = some (.cells #[.int .i64 p.office, .int .i64 p.since, .int .i64 p.till, .int .i64 p.litres, .int .i64 p.e, .int .i64 p.s] 27) ∧ w12.cell? ⟨w.heap.size, 0, none⟩ = some (.int .i64 c.office) ∧ w12.cell? ⟨w.heap.size, 1, none⟩ = some (.int .i64 c.hour) ∧ w12.cell? ⟨w.heap.size, 2, none⟩ = some (.int .i64 c.inn) ∧ w12.cell? ⟨w.heap.size, 3, none⟩ = some (.int .i64 c.out) ∧ w12.cell? ⟨w.heap.size, 4, none⟩ = some (.int .i64 c.store) ∧ w12.cell? ⟨w.heap.size, 5, none⟩ = some (.string c.prev) ∧ w12.cell? ⟨w.heap.size, 6, none⟩ = some (.int .i64 c.e) ∧ w12.cell? ⟨w.heap.size, 7, none⟩ = some (.int .i64 c.s) ∧ w12.cell? ⟨bD, 0, none⟩ = some (.int .i64 d.office) ∧ w12.cell? ⟨bD, 1, none⟩ = some (.int .i64 d.hour) ∧ w12.cell? ⟨bD, 2, none⟩ = some (.int .i64 d.inn) ∧ w12.cell? ⟨bD, 3, none⟩ = some (.int .i64 d.out) ∧ w12.cell? ⟨bD, 4, none⟩ = some (.int .i64 d.store) ∧ w12.cell? ⟨bD, 5, none⟩ = some (.string d.prev) ∧ w12.cell? ⟨bD, 6, none⟩ = some (.int .i64 d.e) ∧ w12.cell? ⟨bD, 7, none⟩ = some (.int .i64 d.s) ∧ w12.cell? ⟨bP, 0, none⟩ = some (.int .i64 p.office) ∧ w12.cell? ⟨bP, 1, none⟩ = some (.int .i64 p.since) ∧ w12.cell? ⟨bP, 2, none⟩ = some (.int .i64 p.till) ∧ w12.cell? ⟨bP, 3, none⟩ = some (.int .i64 p.litres) ∧ w12.cell? ⟨bP, 4, none⟩ = some (.int .i64 p.e) ∧ w12.cell? ⟨bP, 5, none⟩ = some (.int .i64 p.s) ∧ w12.cell? ⟨bQ, 0, none⟩ = some (.int .i64 q.office) ∧ w12.cell? ⟨bQ, 1, none⟩ = some (.int .i64 q.since) ∧ w12.cell? ⟨bQ, 2, none⟩ = some (.int .i64 q.till) ∧ w12.cell? ⟨bQ, 3, none⟩ = some (.int .i64 q.litres) ∧ w12.cell? ⟨bQ, 4, none⟩ = some (.int .i64 q.e) ∧ w12.cell? ⟨bQ, 5, none⟩ = some (.int .i64 q.s) ∧ w12.cell? ⟨bX, 0, none⟩ = some (.int .i64 c.office) ∧ w12.cell? ⟨bX, 1, none⟩ = some (.int .i64 c.hour) ∧ w12.cell? ⟨bX, 2, none⟩ = some (.int .i64 c.inn) ∧ w12.cell? ⟨bX, 3, none⟩ = some (.int .i64 c.out) ∧ w12.cell? ⟨bX, 4, none⟩ = some (.int .i64 c.store) ∧ w12.cell? ⟨bX, 5, none⟩ = some (.string c.prev) ∧ w12.cell? ⟨bX, 6, none⟩ = some (.int .i64 c.e) ∧ w12.cell? ⟨bX, 7, none⟩ = some (.int .i64 c.s) ∧ w12.cell? ⟨bY, 0, none⟩ = some (.int .i64 p.office) ∧ w12.cell? ⟨bY, 1, none⟩ = some (.int .i64 p.since) ∧ w12.cell? ⟨bY, 2, none⟩ = some (.int .i64 p.till) ∧ w12.cell? ⟨bY, 3, none⟩ = some (.int .i64 p.litres) ∧ w12.cell? ⟨bY, 4, none⟩ = some (.int .i64 p.e) ∧ w12.cell? ⟨bY, 5, none⟩ = some (.int .i64 p.s) ∧ Below w.heap.size w w12) := Lib.hid ⟨Ch12.out, Dh12.out, Ph12.out, Qh12.out, Xh12.out, Yh12.out, (cell_of_row _ _ _ _ _ _ Ch12.out).trans rfl, (cell_of_row _ _ _ _ _ _ Ch12.out).trans rfl, (cell_of_row _ _ _ _ _ _ Ch12.out).trans rfl, (cell_of_row _ _ _ _ _ _ Ch12.out).trans rfl, (cell_of_row _ _ _ _ _ _ Ch12.out).trans rfl, (cell_of_row _ _ _ _ _ _ Ch12.out).trans rfl, (cell_of_row _ _ _ _ _ _ Ch12.out).trans rfl, (cell_of_row _ _ _ _ _ _ Ch12.out).trans rfl, (cell_of_row _ _ _ _ _ _ Dh12.out).trans rfl, (cell_of_row _ _ _ _ _ _ Dh12.out).trans rfl, (cell_of_row _ _ _ _ _ _ Dh12.out).trans rfl, (cell_of_row _ _ _ _ _ _ Dh12.out).trans rfl, (cell_of_row _ _ _ _ _ _ Dh12.out).trans rfl, (cell_of_row _ _ _ _ _ _ Dh12.out).trans rfl, (cell_of_row _ _ _ _ _ _ Dh12.out).trans rfl, (cell_of_row _ _ _ _ _ _ Dh12.out).trans rfl, (cell_of_row _ _ _ _ _ _ Ph12.out).trans rfl, (cell_of_row _ _ _ _ _ _ Ph12.out).trans rfl, (cell_of_row _ _ _ _ _ _ Ph12.out).trans rfl, (cell_of_row _ _ _ _ _ _ Ph12.out).trans rfl, (cell_of_row _ _ _ _ _ _ Ph12.out).trans rfl, (cell_of_row _ _ _ _ _ _ Ph12.out).trans rfl, (cell_of_row _ _ _ _ _ _ Qh12.out).trans rfl, (cell_of_row _ _ _ _ _ _ Qh12.out).trans rfl, (cell_of_row _ _ _ _ _ _ Qh12.out).trans rfl, (cell_of_row _ _ _ _ _ _ Qh12.out).trans rfl, (cell_of_row _ _ _ _ _ _ Qh12.out).trans rfl, (cell_of_row _ _ _ _ _ _ Qh12.out).trans rfl, (cell_of_row _ _ _ _ _ _ Xh12.out).trans rfl, (cell_of_row _ _ _ _ _ _ Xh12.out).trans rfl, (cell_of_row _ _ _ _ _ _ Xh12.out).trans rfl, (cell_of_row _ _ _ _ _ _ Xh12.out).trans rfl, (cell_of_row _ _ _ _ _ _ Xh12.out).trans rfl, (cell_of_row _ _ _ _ _ _ Xh12.out).trans rfl, (cell_of_row _ _ _ _ _ _ Xh12.out).trans rfl, (cell_of_row _ _ _ _ _ _ Xh12.out).trans rfl, (cell_of_row _ _ _ _ _ _ Yh12.out).trans rfl, (cell_of_row _ _ _ _ _ _ Yh12.out).trans rfl, (cell_of_row _ _ _ _ _ _ Yh12.out).trans rfl, (cell_of_row _ _ _ _ _ _ Yh12.out).trans rfl, (cell_of_row _ _ _ _ _ _ Yh12.out).trans rfl, (cell_of_row _ _ _ _ _ _ Yh12.out).trans rfl, HB12.out⟩
      clear Ch12 Dh12 Ph12 Qh12 Xh12 Yh12 HB12
      go_region_held3 (fun w' => w'.heap[w.heap.size]? = some (.cells #[.int .i64 c.office, .int .i64 c.hour, .int .i64 c.inn, .int .i64 c.out, .int .i64 c.store, .string c.prev, .int .i64 c.e, .int .i64 c.s] 25) ∧ w'.heap[bD]? = some (.cells #[.int .i64 d.office, .int .i64 d.hour, .int .i64 d.inn, .int .i64 d.out, .int .i64 d.store, .string d.prev, .int .i64 d.e, .int .i64 d.s] 25) ∧ w'.heap[bP]? = some (.cells #[.int .i64 p.office, .int .i64 p.since, .int .i64 p.till, .int .i64 p.litres, .int .i64 p.e, .int .i64 p.s] 27) ∧ w'.heap[bQ]? = some (.cells #[.int .i64 q.office, .int .i64 q.since, .int .i64 q.till, .int .i64 q.litres, .int .i64 q.e, .int .i64 q.s] 27) ∧ w'.heap[bX]? = some (.cells #[.int .i64 c.office, .int .i64 c.hour, .int .i64 c.inn, .int .i64 c.out, .int .i64 c.store, .string c.prev, .int .i64 c.e, .int .i64 c.s] 25) ∧ w'.heap[bY]? = some (.cells #[.int .i64 p.office, .int .i64 p.since, .int .i64 p.till, .int .i64 p.litres, .int .i64 p.e, .int .i64 p.s] 27) ∧ w'.cell? ⟨w.heap.size, 0, none⟩ = some (.int .i64 c.office) ∧ w'.cell? ⟨w.heap.size, 1, none⟩ = some (.int .i64 c.hour) ∧ w'.cell? ⟨w.heap.size, 2, none⟩ = some (.int .i64 c.inn) ∧ w'.cell? ⟨w.heap.size, 3, none⟩ = some (.int .i64 c.out) ∧ w'.cell? ⟨w.heap.size, 4, none⟩ = some (.int .i64 c.store) ∧ w'.cell? ⟨w.heap.size, 5, none⟩ = some (.string c.prev) ∧ w'.cell? ⟨w.heap.size, 6, none⟩ = some (.int .i64 c.e) ∧ w'.cell? ⟨w.heap.size, 7, none⟩ = some (.int .i64 c.s) ∧ w'.cell? ⟨bD, 0, none⟩ = some (.int .i64 d.office) ∧ w'.cell? ⟨bD, 1, none⟩ = some (.int .i64 d.hour) ∧ w'.cell? ⟨bD, 2, none⟩ = some (.int .i64 d.inn) ∧ w'.cell? ⟨bD, 3, none⟩ = some (.int .i64 d.out) ∧ w'.cell? ⟨bD, 4, none⟩ = some (.int .i64 d.store) ∧ w'.cell? ⟨bD, 5, none⟩ = some (.string d.prev) ∧ w'.cell? ⟨bD, 6, none⟩ = some (.int .i64 d.e) ∧ w'.cell? ⟨bD, 7, none⟩ = some (.int .i64 d.s) ∧ w'.cell? ⟨bP, 0, none⟩ = some (.int .i64 p.office) ∧ w'.cell? ⟨bP, 1, none⟩ = some (.int .i64 p.since) ∧ w'.cell? ⟨bP, 2, none⟩ = some (.int .i64 p.till) ∧ w'.cell? ⟨bP, 3, none⟩ = some (.int .i64 p.litres) ∧ w'.cell? ⟨bP, 4, none⟩ = some (.int .i64 p.e) ∧ w'.cell? ⟨bP, 5, none⟩ = some (.int .i64 p.s) ∧ w'.cell? ⟨bQ, 0, none⟩ = some (.int .i64 q.office) ∧ w'.cell? ⟨bQ, 1, none⟩ = some (.int .i64 q.since) ∧ w'.cell? ⟨bQ, 2, none⟩ = some (.int .i64 q.till) ∧ w'.cell? ⟨bQ, 3, none⟩ = some (.int .i64 q.litres) ∧ w'.cell? ⟨bQ, 4, none⟩ = some (.int .i64 q.e) ∧ w'.cell? ⟨bQ, 5, none⟩ = some (.int .i64 q.s) ∧ w'.cell? ⟨bX, 0, none⟩ = some (.int .i64 c.office) ∧ w'.cell? ⟨bX, 1, none⟩ = some (.int .i64 c.hour) ∧ w'.cell? ⟨bX, 2, none⟩ = some (.int .i64 c.inn) ∧ w'.cell? ⟨bX, 3, none⟩ = some (.int .i64 c.out) ∧ w'.cell? ⟨bX, 4, none⟩ = some (.int .i64 c.store) ∧ w'.cell? ⟨bX, 5, none⟩ = some (.string c.prev) ∧ w'.cell? ⟨bX, 6, none⟩ = some (.int .i64 c.e) ∧ w'.cell? ⟨bX, 7, none⟩ = some (.int .i64 c.s) ∧ w'.cell? ⟨bY, 0, none⟩ = some (.int .i64 p.office) ∧ w'.cell? ⟨bY, 1, none⟩ = some (.int .i64 p.since) ∧ w'.cell? ⟨bY, 2, none⟩ = some (.int .i64 p.till) ∧ w'.cell? ⟨bY, 3, none⟩ = some (.int .i64 p.litres) ∧ w'.cell? ⟨bY, 4, none⟩ = some (.int .i64 p.e) ∧ w'.cell? ⟨bY, 5, none⟩ = some (.int .i64 p.s) ∧ Below w.heap.size w w') (first | assumption | exact HS0.out | exact reads_step (by assumption) hb | exact reads_stepN (by assumption) _ | exact reads_stepA (by assumption) | exact reads_stepU (by assumption) | exact reads_stepN (reads_stepU (by assumption)) _) ((first | (go_at_call 8; refine (HF.out.by_ _ (by first | exact okc | exact okd) _ (HM.out.up (show _ ∧ _ ∧ _ ∧ _ ∧ _ ∧ _ ∧ _ ∧ _ ∧ _ ∧ _ ∧ _ ∧ _ ∧ _ ∧ _ ∧ _ ∧ _ ∧ _ ∧ _ ∧ _ ∧ _ ∧ _ ∧ _ ∧ _ ∧ _ ∧ _ ∧ _ ∧ _ ∧ _ ∧ _ ∧ _ ∧ _ ∧ _ ∧ _ ∧ _ ∧ _ ∧ _ ∧ _ ∧ _ ∧ _ ∧ _ ∧ _ ∧ _ ∧ _ ∧ _ ∧ _ ∧ _ ∧ _ ∧ _ ∧ Below w.heap.size w _ by assumption).2.2.2.2.2.2.2.2.2.2.2.2.2.2.2.2.2.2.2.2.2.2.2.2.2.2.2.2.2.2.2.2.2.2.2.2.2.2.2.2.2.2.2.2.2.2.2.2)).mono ?_; rintro e w' ⟨rfl, hb⟩) | (go_at_call 10; refine (HF.out.pby _ (by first | exact okp | exact okq) _).mono ?_; rintro e w' ⟨rfl, hb⟩)))
      rename World => w13
      rename _ ∧ _ => hFin
      obtain ⟨qC, qD, qP, qQ, qX, qY, -, -, -, -, -, -, -, -, -, -, -, -, -, -, -, -, -, -, -, -, -, -, -, -, -, -, -, -, -, -, -, -, -, -, -, -, -, -, -, -, -, -, qBel⟩ := hFin
      have Ch13 := Lib.hid qC
      have Dh13 := Lib.hid qD
      have Ph13 := Lib.hid qP
      have Qh13 := Lib.hid qQ
      have Xh13 := Lib.hid qX
      have Yh13 := Lib.hid qY
      have HB13 := Lib.hid qBel
      clear HS0 qBel qC qD qP qQ qX qY
      have cC0 : w13.cell? ⟨w.heap.size, 0, none⟩ = some (.int .i64 c.office) := (cell_of_row _ _ _ _ _ _ Ch13.out).trans rfl
      have cC1 : w13.cell? ⟨w.heap.size, 1, none⟩ = some (.int .i64 c.hour) := (cell_of_row _ _ _ _ _ _ Ch13.out).trans rfl
      have cC2 : w13.cell? ⟨w.heap.size, 2, none⟩ = some (.int .i64 c.inn) := (cell_of_row _ _ _ _ _ _ Ch13.out).trans rfl
      have cC3 : w13.cell? ⟨w.heap.size, 3, none⟩ = some (.int .i64 c.out) := (cell_of_row _ _ _ _ _ _ Ch13.out).trans rfl
      have cC4 : w13.cell? ⟨w.heap.size, 4, none⟩ = some (.int .i64 c.store) := (cell_of_row _ _ _ _ _ _ Ch13.out).trans rfl
      have cC5 : w13.cell? ⟨w.heap.size, 5, none⟩ = some (.string c.prev) := (cell_of_row _ _ _ _ _ _ Ch13.out).trans rfl
      have cC6 : w13.cell? ⟨w.heap.size, 6, none⟩ = some (.int .i64 c.e) := (cell_of_row _ _ _ _ _ _ Ch13.out).trans rfl
      have cC7 : w13.cell? ⟨w.heap.size, 7, none⟩ = some (.int .i64 c.s) := (cell_of_row _ _ _ _ _ _ Ch13.out).trans rfl
      have cD0 : w13.cell? ⟨bD, 0, none⟩ = some (.int .i64 d.office) := (cell_of_row _ _ _ _ _ _ Dh13.out).trans rfl
      have cD1 : w13.cell? ⟨bD, 1, none⟩ = some (.int .i64 d.hour) := (cell_of_row _ _ _ _ _ _ Dh13.out).trans rfl
      have cD2 : w13.cell? ⟨bD, 2, none⟩ = some (.int .i64 d.inn) := (cell_of_row _ _ _ _ _ _ Dh13.out).trans rfl
      have cD3 : w13.cell? ⟨bD, 3, none⟩ = some (.int .i64 d.out) := (cell_of_row _ _ _ _ _ _ Dh13.out).trans rfl
      have cD4 : w13.cell? ⟨bD, 4, none⟩ = some (.int .i64 d.store) := (cell_of_row _ _ _ _ _ _ Dh13.out).trans rfl
      have cD5 : w13.cell? ⟨bD, 5, none⟩ = some (.string d.prev) := (cell_of_row _ _ _ _ _ _ Dh13.out).trans rfl
      have cD6 : w13.cell? ⟨bD, 6, none⟩ = some (.int .i64 d.e) := (cell_of_row _ _ _ _ _ _ Dh13.out).trans rfl
      have cD7 : w13.cell? ⟨bD, 7, none⟩ = some (.int .i64 d.s) := (cell_of_row _ _ _ _ _ _ Dh13.out).trans rfl
      have cP0 : w13.cell? ⟨bP, 0, none⟩ = some (.int .i64 p.office) := (cell_of_row _ _ _ _ _ _ Ph13.out).trans rfl
      have cP1 : w13.cell? ⟨bP, 1, none⟩ = some (.int .i64 p.since) := (cell_of_row _ _ _ _ _ _ Ph13.out).trans rfl
      have cP2 : w13.cell? ⟨bP, 2, none⟩ = some (.int .i64 p.till) := (cell_of_row _ _ _ _ _ _ Ph13.out).trans rfl
      have cP3 : w13.cell? ⟨bP, 3, none⟩ = some (.int .i64 p.litres) := (cell_of_row _ _ _ _ _ _ Ph13.out).trans rfl
      have cP4 : w13.cell? ⟨bP, 4, none⟩ = some (.int .i64 p.e) := (cell_of_row _ _ _ _ _ _ Ph13.out).trans rfl
      have cP5 : w13.cell? ⟨bP, 5, none⟩ = some (.int .i64 p.s) := (cell_of_row _ _ _ _ _ _ Ph13.out).trans rfl
      have cQ0 : w13.cell? ⟨bQ, 0, none⟩ = some (.int .i64 q.office) := (cell_of_row _ _ _ _ _ _ Qh13.out).trans rfl
      have cQ1 : w13.cell? ⟨bQ, 1, none⟩ = some (.int .i64 q.since) := (cell_of_row _ _ _ _ _ _ Qh13.out).trans rfl
      have cQ2 : w13.cell? ⟨bQ, 2, none⟩ = some (.int .i64 q.till) := (cell_of_row _ _ _ _ _ _ Qh13.out).trans rfl
      have cQ3 : w13.cell? ⟨bQ, 3, none⟩ = some (.int .i64 q.litres) := (cell_of_row _ _ _ _ _ _ Qh13.out).trans rfl
      have cQ4 : w13.cell? ⟨bQ, 4, none⟩ = some (.int .i64 q.e) := (cell_of_row _ _ _ _ _ _ Qh13.out).trans rfl
      have cQ5 : w13.cell? ⟨bQ, 5, none⟩ = some (.int .i64 q.s) := (cell_of_row _ _ _ _ _ _ Qh13.out).trans rfl
      have cX0 : w13.cell? ⟨bX, 0, none⟩ = some (.int .i64 c.office) := (cell_of_row _ _ _ _ _ _ Xh13.out).trans rfl
      have cX1 : w13.cell? ⟨bX, 1, none⟩ = some (.int .i64 c.hour) := (cell_of_row _ _ _ _ _ _ Xh13.out).trans rfl
      have cX2 : w13.cell? ⟨bX, 2, none⟩ = some (.int .i64 c.inn) := (cell_of_row _ _ _ _ _ _ Xh13.out).trans rfl
      have cX3 : w13.cell? ⟨bX, 3, none⟩ = some (.int .i64 c.out) := (cell_of_row _ _ _ _ _ _ Xh13.out).trans rfl
      have cX4 : w13.cell? ⟨bX, 4, none⟩ = some (.int .i64 c.store) := (cell_of_row _ _ _ _ _ _ Xh13.out).trans rfl
      have cX5 : w13.cell? ⟨bX, 5, none⟩ = some (.string c.prev) := (cell_of_row _ _ _ _ _ _ Xh13.out).trans rfl
      have cX6 : w13.cell? ⟨bX, 6, none⟩ = some (.int .i64 c.e) := (cell_of_row _ _ _ _ _ _ Xh13.out).trans rfl
      have cX7 : w13.cell? ⟨bX, 7, none⟩ = some (.int .i64 c.s) := (cell_of_row _ _ _ _ _ _ Xh13.out).trans rfl
      have cY0 : w13.cell? ⟨bY, 0, none⟩ = some (.int .i64 p.office) := (cell_of_row _ _ _ _ _ _ Yh13.out).trans rfl
      have cY1 : w13.cell? ⟨bY, 1, none⟩ = some (.int .i64 p.since) := (cell_of_row _ _ _ _ _ _ Yh13.out).trans rfl
      have cY2 : w13.cell? ⟨bY, 2, none⟩ = some (.int .i64 p.till) := (cell_of_row _ _ _ _ _ _ Yh13.out).trans rfl
      have cY3 : w13.cell? ⟨bY, 3, none⟩ = some (.int .i64 p.litres) := (cell_of_row _ _ _ _ _ _ Yh13.out).trans rfl
      have cY4 : w13.cell? ⟨bY, 4, none⟩ = some (.int .i64 p.e) := (cell_of_row _ _ _ _ _ _ Yh13.out).trans rfl
      have cY5 : w13.cell? ⟨bY, 5, none⟩ = some (.int .i64 p.s) := (cell_of_row _ _ _ _ _ _ Yh13.out).trans rfl
      go_wp2_with fail
      refine (HF.out.rds _).mono ?_
      rintro e w14 ⟨rfl, hb⟩
      have HB14 := Lib.hid (HB13.out.trans (hb.mono HB13.out.size))
      have Ch14 := Lib.hid (blk_below Ch13.out hb (blk_lt Ch13.out))
      have Dh14 := Lib.hid (blk_below Dh13.out hb (blk_lt Dh13.out))
      have Ph14 := Lib.hid (blk_below Ph13.out hb (blk_lt Ph13.out))
      have Qh14 := Lib.hid (blk_below Qh13.out hb (blk_lt Qh13.out))
      have Xh14 := Lib.hid (blk_below Xh13.out hb (blk_lt Xh13.out))
      have Yh14 := Lib.hid (blk_below Yh13.out hb (blk_lt Yh13.out))
      clear cC0 cC1 cC2 cC3 cC4 cC5 cC6 cC7 cD0 cD1 cD2 cD3 cD4 cD5 cD6 cD7 cP0 cP1 cP2 cP3 cP4 cP5 cQ0 cQ1 cQ2 cQ3 cQ4 cQ5 cX0 cX1 cX2 cX3 cX4 cX5 cX6 cX7 cY0 cY1 cY2 cY3 cY4 cY5
      clear HB13 Ch13 Dh13 Ph13 Qh13 Xh13 Yh13
      clear hb
      have cC0 : w14.cell? ⟨w.heap.size, 0, none⟩ = some (.int .i64 c.office) := (cell_of_row _ _ _ _ _ _ Ch14.out).trans rfl
      have cC1 : w14.cell? ⟨w.heap.size, 1, none⟩ = some (.int .i64 c.hour) := (cell_of_row _ _ _ _ _ _ Ch14.out).trans rfl
      have cC2 : w14.cell? ⟨w.heap.size, 2, none⟩ = some (.int .i64 c.inn) := (cell_of_row _ _ _ _ _ _ Ch14.out).trans rfl
      have cC3 : w14.cell? ⟨w.heap.size, 3, none⟩ = some (.int .i64 c.out) := (cell_of_row _ _ _ _ _ _ Ch14.out).trans rfl
      have cC4 : w14.cell? ⟨w.heap.size, 4, none⟩ = some (.int .i64 c.store) := (cell_of_row _ _ _ _ _ _ Ch14.out).trans rfl
      have cC5 : w14.cell? ⟨w.heap.size, 5, none⟩ = some (.string c.prev) := (cell_of_row _ _ _ _ _ _ Ch14.out).trans rfl
      have cC6 : w14.cell? ⟨w.heap.size, 6, none⟩ = some (.int .i64 c.e) := (cell_of_row _ _ _ _ _ _ Ch14.out).trans rfl
      have cC7 : w14.cell? ⟨w.heap.size, 7, none⟩ = some (.int .i64 c.s) := (cell_of_row _ _ _ _ _ _ Ch14.out).trans rfl
      have cD0 : w14.cell? ⟨bD, 0, none⟩ = some (.int .i64 d.office) := (cell_of_row _ _ _ _ _ _ Dh14.out).trans rfl
      have cD1 : w14.cell? ⟨bD, 1, none⟩ = some (.int .i64 d.hour) := (cell_of_row _ _ _ _ _ _ Dh14.out).trans rfl
      have cD2 : w14.cell? ⟨bD, 2, none⟩ = some (.int .i64 d.inn) := (cell_of_row _ _ _ _ _ _ Dh14.out).trans rfl
      have cD3 : w14.cell? ⟨bD, 3, none⟩ = some (.int .i64 d.out) := (cell_of_row _ _ _ _ _ _ Dh14.out).trans rfl
      have cD4 : w14.cell? ⟨bD, 4, none⟩ = some (.int .i64 d.store) := (cell_of_row _ _ _ _ _ _ Dh14.out).trans rfl
      have cD5 : w14.cell? ⟨bD, 5, none⟩ = some (.string d.prev) := (cell_of_row _ _ _ _ _ _ Dh14.out).trans rfl
      have cD6 : w14.cell? ⟨bD, 6, none⟩ = some (.int .i64 d.e) := (cell_of_row _ _ _ _ _ _ Dh14.out).trans rfl
      have cD7 : w14.cell? ⟨bD, 7, none⟩ = some (.int .i64 d.s) := (cell_of_row _ _ _ _ _ _ Dh14.out).trans rfl
      have cP0 : w14.cell? ⟨bP, 0, none⟩ = some (.int .i64 p.office) := (cell_of_row _ _ _ _ _ _ Ph14.out).trans rfl
      have cP1 : w14.cell? ⟨bP, 1, none⟩ = some (.int .i64 p.since) := (cell_of_row _ _ _ _ _ _ Ph14.out).trans rfl
      have cP2 : w14.cell? ⟨bP, 2, none⟩ = some (.int .i64 p.till) := (cell_of_row _ _ _ _ _ _ Ph14.out).trans rfl
      have cP3 : w14.cell? ⟨bP, 3, none⟩ = some (.int .i64 p.litres) := (cell_of_row _ _ _ _ _ _ Ph14.out).trans rfl
      have cP4 : w14.cell? ⟨bP, 4, none⟩ = some (.int .i64 p.e) := (cell_of_row _ _ _ _ _ _ Ph14.out).trans rfl
      have cP5 : w14.cell? ⟨bP, 5, none⟩ = some (.int .i64 p.s) := (cell_of_row _ _ _ _ _ _ Ph14.out).trans rfl
      have cQ0 : w14.cell? ⟨bQ, 0, none⟩ = some (.int .i64 q.office) := (cell_of_row _ _ _ _ _ _ Qh14.out).trans rfl
      have cQ1 : w14.cell? ⟨bQ, 1, none⟩ = some (.int .i64 q.since) := (cell_of_row _ _ _ _ _ _ Qh14.out).trans rfl
      have cQ2 : w14.cell? ⟨bQ, 2, none⟩ = some (.int .i64 q.till) := (cell_of_row _ _ _ _ _ _ Qh14.out).trans rfl
      have cQ3 : w14.cell? ⟨bQ, 3, none⟩ = some (.int .i64 q.litres) := (cell_of_row _ _ _ _ _ _ Qh14.out).trans rfl
      have cQ4 : w14.cell? ⟨bQ, 4, none⟩ = some (.int .i64 q.e) := (cell_of_row _ _ _ _ _ _ Qh14.out).trans rfl
      have cQ5 : w14.cell? ⟨bQ, 5, none⟩ = some (.int .i64 q.s) := (cell_of_row _ _ _ _ _ _ Qh14.out).trans rfl
      have cX0 : w14.cell? ⟨bX, 0, none⟩ = some (.int .i64 c.office) := (cell_of_row _ _ _ _ _ _ Xh14.out).trans rfl
      have cX1 : w14.cell? ⟨bX, 1, none⟩ = some (.int .i64 c.hour) := (cell_of_row _ _ _ _ _ _ Xh14.out).trans rfl
      have cX2 : w14.cell? ⟨bX, 2, none⟩ = some (.int .i64 c.inn) := (cell_of_row _ _ _ _ _ _ Xh14.out).trans rfl
      have cX3 : w14.cell? ⟨bX, 3, none⟩ = some (.int .i64 c.out) := (cell_of_row _ _ _ _ _ _ Xh14.out).trans rfl
      have cX4 : w14.cell? ⟨bX, 4, none⟩ = some (.int .i64 c.store) := (cell_of_row _ _ _ _ _ _ Xh14.out).trans rfl
      have cX5 : w14.cell? ⟨bX, 5, none⟩ = some (.string c.prev) := (cell_of_row _ _ _ _ _ _ Xh14.out).trans rfl
      have cX6 : w14.cell? ⟨bX, 6, none⟩ = some (.int .i64 c.e) := (cell_of_row _ _ _ _ _ _ Xh14.out).trans rfl
      have cX7 : w14.cell? ⟨bX, 7, none⟩ = some (.int .i64 c.s) := (cell_of_row _ _ _ _ _ _ Xh14.out).trans rfl
      have cY0 : w14.cell? ⟨bY, 0, none⟩ = some (.int .i64 p.office) := (cell_of_row _ _ _ _ _ _ Yh14.out).trans rfl
      have cY1 : w14.cell? ⟨bY, 1, none⟩ = some (.int .i64 p.since) := (cell_of_row _ _ _ _ _ _ Yh14.out).trans rfl
      have cY2 : w14.cell? ⟨bY, 2, none⟩ = some (.int .i64 p.till) := (cell_of_row _ _ _ _ _ _ Yh14.out).trans rfl
      have cY3 : w14.cell? ⟨bY, 3, none⟩ = some (.int .i64 p.litres) := (cell_of_row _ _ _ _ _ _ Yh14.out).trans rfl
      have cY4 : w14.cell? ⟨bY, 4, none⟩ = some (.int .i64 p.e) := (cell_of_row _ _ _ _ _ _ Yh14.out).trans rfl
      have cY5 : w14.cell? ⟨bY, 5, none⟩ = some (.int .i64 p.s) := (cell_of_row _ _ _ _ _ _ Yh14.out).trans rfl
      go_upto_region 10 with fail
      have HB15 := Lib.hid (HB14.out.alloc HB14.out.size (.cells #[.int .i64 z.office, .int .i64 z.hour, .int .i64 z.inn, .int .i64 z.out, .int .i64 z.store, .string z.prev, .int .i64 z.e, .int .i64 z.s] 25))
      have Zh15 := Lib.hid (heap_alloc_new w14 (.cells #[.int .i64 z.office, .int .i64 z.hour, .int .i64 z.inn, .int .i64 z.out, .int .i64 z.store, .string z.prev, .int .i64 z.e, .int .i64 z.s] 25))
      have Ch15 := Lib.hid (blk_below Ch14.out ((Below.refl w14.heap.size w14).alloc (Nat.le_refl _) (.cells #[.int .i64 z.office, .int .i64 z.hour, .int .i64 z.inn, .int .i64 z.out, .int .i64 z.store, .string z.prev, .int .i64 z.e, .int .i64 z.s] 25)) (blk_lt Ch14.out))
      have Dh15 := Lib.hid (blk_below Dh14.out ((Below.refl w14.heap.size w14).alloc (Nat.le_refl _) (.cells #[.int .i64 z.office, .int .i64 z.hour, .int .i64 z.inn, .int .i64 z.out, .int .i64 z.store, .string z.prev, .int .i64 z.e, .int .i64 z.s] 25)) (blk_lt Dh14.out))
      have Ph15 := Lib.hid (blk_below Ph14.out ((Below.refl w14.heap.size w14).alloc (Nat.le_refl _) (.cells #[.int .i64 z.office, .int .i64 z.hour, .int .i64 z.inn, .int .i64 z.out, .int .i64 z.store, .string z.prev, .int .i64 z.e, .int .i64 z.s] 25)) (blk_lt Ph14.out))
      have Qh15 := Lib.hid (blk_below Qh14.out ((Below.refl w14.heap.size w14).alloc (Nat.le_refl _) (.cells #[.int .i64 z.office, .int .i64 z.hour, .int .i64 z.inn, .int .i64 z.out, .int .i64 z.store, .string z.prev, .int .i64 z.e, .int .i64 z.s] 25)) (blk_lt Qh14.out))
      have Xh15 := Lib.hid (blk_below Xh14.out ((Below.refl w14.heap.size w14).alloc (Nat.le_refl _) (.cells #[.int .i64 z.office, .int .i64 z.hour, .int .i64 z.inn, .int .i64 z.out, .int .i64 z.store, .string z.prev, .int .i64 z.e, .int .i64 z.s] 25)) (blk_lt Xh14.out))
      have Yh15 := Lib.hid (blk_below Yh14.out ((Below.refl w14.heap.size w14).alloc (Nat.le_refl _) (.cells #[.int .i64 z.office, .int .i64 z.hour, .int .i64 z.inn, .int .i64 z.out, .int .i64 z.store, .string z.prev, .int .i64 z.e, .int .i64 z.s] 25)) (blk_lt Yh14.out))
      clear cC0 cC1 cC2 cC3 cC4 cC5 cC6 cC7 cD0 cD1 cD2 cD3 cD4 cD5 cD6 cD7 cP0 cP1 cP2 cP3 cP4 cP5 cQ0 cQ1 cQ2 cQ3 cQ4 cQ5 cX0 cX1 cX2 cX3 cX4 cX5 cX6 cX7 cY0 cY1 cY2 cY3 cY4 cY5
      clear HB14 Ch14 Dh14 Ph14 Qh14 Xh14 Yh14
      generalize w14.heap.size = bZ at *
      generalize w14.alloc (.cells #[.int .i64 z.office, .int .i64 z.hour, .int .i64 z.inn, .int .i64 z.out, .int .i64 z.store, .string z.prev, .int .i64 z.e, .int .i64 z.s] 25) = w15 at *
      have cC0 : w15.cell? ⟨w.heap.size, 0, none⟩ = some (.int .i64 c.office) := (cell_of_row _ _ _ _ _ _ Ch15.out).trans rfl
      have cC1 : w15.cell? ⟨w.heap.size, 1, none⟩ = some (.int .i64 c.hour) := (cell_of_row _ _ _ _ _ _ Ch15.out).trans rfl
      have cC2 : w15.cell? ⟨w.heap.size, 2, none⟩ = some (.int .i64 c.inn) := (cell_of_row _ _ _ _ _ _ Ch15.out).trans rfl
      have cC3 : w15.cell? ⟨w.heap.size, 3, none⟩ = some (.int .i64 c.out) := (cell_of_row _ _ _ _ _ _ Ch15.out).trans rfl
      have cC4 : w15.cell? ⟨w.heap.size, 4, none⟩ = some (.int .i64 c.store) := (cell_of_row _ _ _ _ _ _ Ch15.out).trans rfl
      have cC5 : w15.cell? ⟨w.heap.size, 5, none⟩ = some (.string c.prev) := (cell_of_row _ _ _ _ _ _ Ch15.out).trans rfl
      have cC6 : w15.cell? ⟨w.heap.size, 6, none⟩ = some (.int .i64 c.e) := (cell_of_row _ _ _ _ _ _ Ch15.out).trans rfl
      have cC7 : w15.cell? ⟨w.heap.size, 7, none⟩ = some (.int .i64 c.s) := (cell_of_row _ _ _ _ _ _ Ch15.out).trans rfl
      have cD0 : w15.cell? ⟨bD, 0, none⟩ = some (.int .i64 d.office) := (cell_of_row _ _ _ _ _ _ Dh15.out).trans rfl
      have cD1 : w15.cell? ⟨bD, 1, none⟩ = some (.int .i64 d.hour) := (cell_of_row _ _ _ _ _ _ Dh15.out).trans rfl
      have cD2 : w15.cell? ⟨bD, 2, none⟩ = some (.int .i64 d.inn) := (cell_of_row _ _ _ _ _ _ Dh15.out).trans rfl
      have cD3 : w15.cell? ⟨bD, 3, none⟩ = some (.int .i64 d.out) := (cell_of_row _ _ _ _ _ _ Dh15.out).trans rfl
      have cD4 : w15.cell? ⟨bD, 4, none⟩ = some (.int .i64 d.store) := (cell_of_row _ _ _ _ _ _ Dh15.out).trans rfl
      have cD5 : w15.cell? ⟨bD, 5, none⟩ = some (.string d.prev) := (cell_of_row _ _ _ _ _ _ Dh15.out).trans rfl
      have cD6 : w15.cell? ⟨bD, 6, none⟩ = some (.int .i64 d.e) := (cell_of_row _ _ _ _ _ _ Dh15.out).trans rfl
      have cD7 : w15.cell? ⟨bD, 7, none⟩ = some (.int .i64 d.s) := (cell_of_row _ _ _ _ _ _ Dh15.out).trans rfl
      have cP0 : w15.cell? ⟨bP, 0, none⟩ = some (.int .i64 p.office) := (cell_of_row _ _ _ _ _ _ Ph15.out).trans rfl
      have cP1 : w15.cell? ⟨bP, 1, none⟩ = some (.int .i64 p.since) := (cell_of_row _ _ _ _ _ _ Ph15.out).trans rfl
      have cP2 : w15.cell? ⟨bP, 2, none⟩ = some (.int .i64 p.till) := (cell_of_row _ _ _ _ _ _ Ph15.out).trans rfl
      have cP3 : w15.cell? ⟨bP, 3, none⟩ = some (.int .i64 p.litres) := (cell_of_row _ _ _ _ _ _ Ph15.out).trans rfl
      have cP4 : w15.cell? ⟨bP, 4, none⟩ = some (.int .i64 p.e) := (cell_of_row _ _ _ _ _ _ Ph15.out).trans rfl
      have cP5 : w15.cell? ⟨bP, 5, none⟩ = some (.int .i64 p.s) := (cell_of_row _ _ _ _ _ _ Ph15.out).trans rfl
      have cQ0 : w15.cell? ⟨bQ, 0, none⟩ = some (.int .i64 q.office) := (cell_of_row _ _ _ _ _ _ Qh15.out).trans rfl
      have cQ1 : w15.cell? ⟨bQ, 1, none⟩ = some (.int .i64 q.since) := (cell_of_row _ _ _ _ _ _ Qh15.out).trans rfl
      have cQ2 : w15.cell? ⟨bQ, 2, none⟩ = some (.int .i64 q.till) := (cell_of_row _ _ _ _ _ _ Qh15.out).trans rfl
      have cQ3 : w15.cell? ⟨bQ, 3, none⟩ = some (.int .i64 q.litres) := (cell_of_row _ _ _ _ _ _ Qh15.out).trans rfl
      have cQ4 : w15.cell? ⟨bQ, 4, none⟩ = some (.int .i64 q.e) := (cell_of_row _ _ _ _ _ _ Qh15.out).trans rfl
      have cQ5 : w15.cell? ⟨bQ, 5, none⟩ = some (.int .i64 q.s) := (cell_of_row _ _ _ _ _ _ Qh15.out).trans rfl
      have cX0 : w15.cell? ⟨bX, 0, none⟩ = some (.int .i64 c.office) := (cell_of_row _ _ _ _ _ _ Xh15.out).trans rfl
      have cX1 : w15.cell? ⟨bX, 1, none⟩ = some (.int .i64 c.hour) := (cell_of_row _ _ _ _ _ _ Xh15.out).trans rfl
      have cX2 : w15.cell? ⟨bX, 2, none⟩ = some (.int .i64 c.inn) := (cell_of_row _ _ _ _ _ _ Xh15.out).trans rfl
      have cX3 : w15.cell? ⟨bX, 3, none⟩ = some (.int .i64 c.out) := (cell_of_row _ _ _ _ _ _ Xh15.out).trans rfl
      have cX4 : w15.cell? ⟨bX, 4, none⟩ = some (.int .i64 c.store) := (cell_of_row _ _ _ _ _ _ Xh15.out).trans rfl
      have cX5 : w15.cell? ⟨bX, 5, none⟩ = some (.string c.prev) := (cell_of_row _ _ _ _ _ _ Xh15.out).trans rfl
      have cX6 : w15.cell? ⟨bX, 6, none⟩ = some (.int .i64 c.e) := (cell_of_row _ _ _ _ _ _ Xh15.out).trans rfl
      have cX7 : w15.cell? ⟨bX, 7, none⟩ = some (.int .i64 c.s) := (cell_of_row _ _ _ _ _ _ Xh15.out).trans rfl
      have cY0 : w15.cell? ⟨bY, 0, none⟩ = some (.int .i64 p.office) := (cell_of_row _ _ _ _ _ _ Yh15.out).trans rfl
      have cY1 : w15.cell? ⟨bY, 1, none⟩ = some (.int .i64 p.since) := (cell_of_row _ _ _ _ _ _ Yh15.out).trans rfl
      have cY2 : w15.cell? ⟨bY, 2, none⟩ = some (.int .i64 p.till) := (cell_of_row _ _ _ _ _ _ Yh15.out).trans rfl
      have cY3 : w15.cell? ⟨bY, 3, none⟩ = some (.int .i64 p.litres) := (cell_of_row _ _ _ _ _ _ Yh15.out).trans rfl
      have cY4 : w15.cell? ⟨bY, 4, none⟩ = some (.int .i64 p.e) := (cell_of_row _ _ _ _ _ _ Yh15.out).trans rfl
      have cY5 : w15.cell? ⟨bY, 5, none⟩ = some (.int .i64 p.s) := (cell_of_row _ _ _ _ _ _ Yh15.out).trans rfl
      have cZ0 : w15.cell? ⟨bZ, 0, none⟩ = some (.int .i64 z.office) := (cell_of_row _ _ _ _ _ _ Zh15.out).trans rfl
      have cZ1 : w15.cell? ⟨bZ, 1, none⟩ = some (.int .i64 z.hour) := (cell_of_row _ _ _ _ _ _ Zh15.out).trans rfl
      have cZ2 : w15.cell? ⟨bZ, 2, none⟩ = some (.int .i64 z.inn) := (cell_of_row _ _ _ _ _ _ Zh15.out).trans rfl
      have cZ3 : w15.cell? ⟨bZ, 3, none⟩ = some (.int .i64 z.out) := (cell_of_row _ _ _ _ _ _ Zh15.out).trans rfl
      have cZ4 : w15.cell? ⟨bZ, 4, none⟩ = some (.int .i64 z.store) := (cell_of_row _ _ _ _ _ _ Zh15.out).trans rfl
      have cZ5 : w15.cell? ⟨bZ, 5, none⟩ = some (.string z.prev) := (cell_of_row _ _ _ _ _ _ Zh15.out).trans rfl
      have cZ6 : w15.cell? ⟨bZ, 6, none⟩ = some (.int .i64 z.e) := (cell_of_row _ _ _ _ _ _ Zh15.out).trans rfl
      have cZ7 : w15.cell? ⟨bZ, 7, none⟩ = some (.int .i64 z.s) := (cell_of_row _ _ _ _ _ _ Zh15.out).trans rfl
      go_wp2_with fail
      refine (HF.out.prs _).mono ?_
      rintro e w16 ⟨rfl, hb⟩
      have HB16 := Lib.hid (HB15.out.trans (hb.mono HB15.out.size))
      have Ch16 := Lib.hid (blk_below Ch15.out hb (blk_lt Ch15.out))
      have Dh16 := Lib.hid (blk_below Dh15.out hb (blk_lt Dh15.out))
      have Ph16 := Lib.hid (blk_below Ph15.out hb (blk_lt Ph15.out))
      have Qh16 := Lib.hid (blk_below Qh15.out hb (blk_lt Qh15.out))
      have Xh16 := Lib.hid (blk_below Xh15.out hb (blk_lt Xh15.out))
      have Yh16 := Lib.hid (blk_below Yh15.out hb (blk_lt Yh15.out))
      have Zh16 := Lib.hid (blk_below Zh15.out hb (blk_lt Zh15.out))
      clear cC0 cC1 cC2 cC3 cC4 cC5 cC6 cC7 cD0 cD1 cD2 cD3 cD4 cD5 cD6 cD7 cP0 cP1 cP2 cP3 cP4 cP5 cQ0 cQ1 cQ2 cQ3 cQ4 cQ5 cX0 cX1 cX2 cX3 cX4 cX5 cX6 cX7 cY0 cY1 cY2 cY3 cY4 cY5 cZ0 cZ1 cZ2 cZ3 cZ4 cZ5 cZ6 cZ7
      clear HB15 Ch15 Dh15 Ph15 Qh15 Xh15 Yh15 Zh15
      clear hb
      have cC0 : w16.cell? ⟨w.heap.size, 0, none⟩ = some (.int .i64 c.office) := (cell_of_row _ _ _ _ _ _ Ch16.out).trans rfl
      have cC1 : w16.cell? ⟨w.heap.size, 1, none⟩ = some (.int .i64 c.hour) := (cell_of_row _ _ _ _ _ _ Ch16.out).trans rfl
      have cC2 : w16.cell? ⟨w.heap.size, 2, none⟩ = some (.int .i64 c.inn) := (cell_of_row _ _ _ _ _ _ Ch16.out).trans rfl
      have cC3 : w16.cell? ⟨w.heap.size, 3, none⟩ = some (.int .i64 c.out) := (cell_of_row _ _ _ _ _ _ Ch16.out).trans rfl
      have cC4 : w16.cell? ⟨w.heap.size, 4, none⟩ = some (.int .i64 c.store) := (cell_of_row _ _ _ _ _ _ Ch16.out).trans rfl
      have cC5 : w16.cell? ⟨w.heap.size, 5, none⟩ = some (.string c.prev) := (cell_of_row _ _ _ _ _ _ Ch16.out).trans rfl
      have cC6 : w16.cell? ⟨w.heap.size, 6, none⟩ = some (.int .i64 c.e) := (cell_of_row _ _ _ _ _ _ Ch16.out).trans rfl
      have cC7 : w16.cell? ⟨w.heap.size, 7, none⟩ = some (.int .i64 c.s) := (cell_of_row _ _ _ _ _ _ Ch16.out).trans rfl
      have cD0 : w16.cell? ⟨bD, 0, none⟩ = some (.int .i64 d.office) := (cell_of_row _ _ _ _ _ _ Dh16.out).trans rfl
      have cD1 : w16.cell? ⟨bD, 1, none⟩ = some (.int .i64 d.hour) := (cell_of_row _ _ _ _ _ _ Dh16.out).trans rfl
      have cD2 : w16.cell? ⟨bD, 2, none⟩ = some (.int .i64 d.inn) := (cell_of_row _ _ _ _ _ _ Dh16.out).trans rfl
      have cD3 : w16.cell? ⟨bD, 3, none⟩ = some (.int .i64 d.out) := (cell_of_row _ _ _ _ _ _ Dh16.out).trans rfl
      have cD4 : w16.cell? ⟨bD, 4, none⟩ = some (.int .i64 d.store) := (cell_of_row _ _ _ _ _ _ Dh16.out).trans rfl
      have cD5 : w16.cell? ⟨bD, 5, none⟩ = some (.string d.prev) := (cell_of_row _ _ _ _ _ _ Dh16.out).trans rfl
      have cD6 : w16.cell? ⟨bD, 6, none⟩ = some (.int .i64 d.e) := (cell_of_row _ _ _ _ _ _ Dh16.out).trans rfl
      have cD7 : w16.cell? ⟨bD, 7, none⟩ = some (.int .i64 d.s) := (cell_of_row _ _ _ _ _ _ Dh16.out).trans rfl
      have cP0 : w16.cell? ⟨bP, 0, none⟩ = some (.int .i64 p.office) := (cell_of_row _ _ _ _ _ _ Ph16.out).trans rfl
      have cP1 : w16.cell? ⟨bP, 1, none⟩ = some (.int .i64 p.since) := (cell_of_row _ _ _ _ _ _ Ph16.out).trans rfl
      have cP2 : w16.cell? ⟨bP, 2, none⟩ = some (.int .i64 p.till) := (cell_of_row _ _ _ _ _ _ Ph16.out).trans rfl
      have cP3 : w16.cell? ⟨bP, 3, none⟩ = some (.int .i64 p.litres) := (cell_of_row _ _ _ _ _ _ Ph16.out).trans rfl
      have cP4 : w16.cell? ⟨bP, 4, none⟩ = some (.int .i64 p.e) := (cell_of_row _ _ _ _ _ _ Ph16.out).trans rfl
      have cP5 : w16.cell? ⟨bP, 5, none⟩ = some (.int .i64 p.s) := (cell_of_row _ _ _ _ _ _ Ph16.out).trans rfl
      have cQ0 : w16.cell? ⟨bQ, 0, none⟩ = some (.int .i64 q.office) := (cell_of_row _ _ _ _ _ _ Qh16.out).trans rfl
      have cQ1 : w16.cell? ⟨bQ, 1, none⟩ = some (.int .i64 q.since) := (cell_of_row _ _ _ _ _ _ Qh16.out).trans rfl
      have cQ2 : w16.cell? ⟨bQ, 2, none⟩ = some (.int .i64 q.till) := (cell_of_row _ _ _ _ _ _ Qh16.out).trans rfl
      have cQ3 : w16.cell? ⟨bQ, 3, none⟩ = some (.int .i64 q.litres) := (cell_of_row _ _ _ _ _ _ Qh16.out).trans rfl
      have cQ4 : w16.cell? ⟨bQ, 4, none⟩ = some (.int .i64 q.e) := (cell_of_row _ _ _ _ _ _ Qh16.out).trans rfl
      have cQ5 : w16.cell? ⟨bQ, 5, none⟩ = some (.int .i64 q.s) := (cell_of_row _ _ _ _ _ _ Qh16.out).trans rfl
      have cX0 : w16.cell? ⟨bX, 0, none⟩ = some (.int .i64 c.office) := (cell_of_row _ _ _ _ _ _ Xh16.out).trans rfl
      have cX1 : w16.cell? ⟨bX, 1, none⟩ = some (.int .i64 c.hour) := (cell_of_row _ _ _ _ _ _ Xh16.out).trans rfl
      have cX2 : w16.cell? ⟨bX, 2, none⟩ = some (.int .i64 c.inn) := (cell_of_row _ _ _ _ _ _ Xh16.out).trans rfl
      have cX3 : w16.cell? ⟨bX, 3, none⟩ = some (.int .i64 c.out) := (cell_of_row _ _ _ _ _ _ Xh16.out).trans rfl
      have cX4 : w16.cell? ⟨bX, 4, none⟩ = some (.int .i64 c.store) := (cell_of_row _ _ _ _ _ _ Xh16.out).trans rfl
      have cX5 : w16.cell? ⟨bX, 5, none⟩ = some (.string c.prev) := (cell_of_row _ _ _ _ _ _ Xh16.out).trans rfl
      have cX6 : w16.cell? ⟨bX, 6, none⟩ = some (.int .i64 c.e) := (cell_of_row _ _ _ _ _ _ Xh16.out).trans rfl
      have cX7 : w16.cell? ⟨bX, 7, none⟩ = some (.int .i64 c.s) := (cell_of_row _ _ _ _ _ _ Xh16.out).trans rfl
      have cY0 : w16.cell? ⟨bY, 0, none⟩ = some (.int .i64 p.office) := (cell_of_row _ _ _ _ _ _ Yh16.out).trans rfl
      have cY1 : w16.cell? ⟨bY, 1, none⟩ = some (.int .i64 p.since) := (cell_of_row _ _ _ _ _ _ Yh16.out).trans rfl
      have cY2 : w16.cell? ⟨bY, 2, none⟩ = some (.int .i64 p.till) := (cell_of_row _ _ _ _ _ _ Yh16.out).trans rfl
      have cY3 : w16.cell? ⟨bY, 3, none⟩ = some (.int .i64 p.litres) := (cell_of_row _ _ _ _ _ _ Yh16.out).trans rfl
      have cY4 : w16.cell? ⟨bY, 4, none⟩ = some (.int .i64 p.e) := (cell_of_row _ _ _ _ _ _ Yh16.out).trans rfl
      have cY5 : w16.cell? ⟨bY, 5, none⟩ = some (.int .i64 p.s) := (cell_of_row _ _ _ _ _ _ Yh16.out).trans rfl
      have cZ0 : w16.cell? ⟨bZ, 0, none⟩ = some (.int .i64 z.office) := (cell_of_row _ _ _ _ _ _ Zh16.out).trans rfl
      have cZ1 : w16.cell? ⟨bZ, 1, none⟩ = some (.int .i64 z.hour) := (cell_of_row _ _ _ _ _ _ Zh16.out).trans rfl
      have cZ2 : w16.cell? ⟨bZ, 2, none⟩ = some (.int .i64 z.inn) := (cell_of_row _ _ _ _ _ _ Zh16.out).trans rfl
      have cZ3 : w16.cell? ⟨bZ, 3, none⟩ = some (.int .i64 z.out) := (cell_of_row _ _ _ _ _ _ Zh16.out).trans rfl
      have cZ4 : w16.cell? ⟨bZ, 4, none⟩ = some (.int .i64 z.store) := (cell_of_row _ _ _ _ _ _ Zh16.out).trans rfl
      have cZ5 : w16.cell? ⟨bZ, 5, none⟩ = some (.string z.prev) := (cell_of_row _ _ _ _ _ _ Zh16.out).trans rfl
      have cZ6 : w16.cell? ⟨bZ, 6, none⟩ = some (.int .i64 z.e) := (cell_of_row _ _ _ _ _ _ Zh16.out).trans rfl
      have cZ7 : w16.cell? ⟨bZ, 7, none⟩ = some (.int .i64 z.s) := (cell_of_row _ _ _ _ _ _ Zh16.out).trans rfl
      go_upto_region 11 with fail
      have HB17 := Lib.hid (HB16.out.alloc HB16.out.size (.cells #[.int .i64 u.office, .int .i64 u.since, .int .i64 u.till, .int .i64 u.litres, .int .i64 u.e, .int .i64 u.s] 27))
      have Uh17 := Lib.hid (heap_alloc_new w16 (.cells #[.int .i64 u.office, .int .i64 u.since, .int .i64 u.till, .int .i64 u.litres, .int .i64 u.e, .int .i64 u.s] 27))
      have Ch17 := Lib.hid (blk_below Ch16.out ((Below.refl w16.heap.size w16).alloc (Nat.le_refl _) (.cells #[.int .i64 u.office, .int .i64 u.since, .int .i64 u.till, .int .i64 u.litres, .int .i64 u.e, .int .i64 u.s] 27)) (blk_lt Ch16.out))
      have Dh17 := Lib.hid (blk_below Dh16.out ((Below.refl w16.heap.size w16).alloc (Nat.le_refl _) (.cells #[.int .i64 u.office, .int .i64 u.since, .int .i64 u.till, .int .i64 u.litres, .int .i64 u.e, .int .i64 u.s] 27)) (blk_lt Dh16.out))
      have Ph17 := Lib.hid (blk_below Ph16.out ((Below.refl w16.heap.size w16).alloc (Nat.le_refl _) (.cells #[.int .i64 u.office, .int .i64 u.since, .int .i64 u.till, .int .i64 u.litres, .int .i64 u.e, .int .i64 u.s] 27)) (blk_lt Ph16.out))
      have Qh17 := Lib.hid (blk_below Qh16.out ((Below.refl w16.heap.size w16).alloc (Nat.le_refl _) (.cells #[.int .i64 u.office, .int .i64 u.since, .int .i64 u.till, .int .i64 u.litres, .int .i64 u.e, .int .i64 u.s] 27)) (blk_lt Qh16.out))
      have Xh17 := Lib.hid (blk_below Xh16.out ((Below.refl w16.heap.size w16).alloc (Nat.le_refl _) (.cells #[.int .i64 u.office, .int .i64 u.since, .int .i64 u.till, .int .i64 u.litres, .int .i64 u.e, .int .i64 u.s] 27)) (blk_lt Xh16.out))
      have Yh17 := Lib.hid (blk_below Yh16.out ((Below.refl w16.heap.size w16).alloc (Nat.le_refl _) (.cells #[.int .i64 u.office, .int .i64 u.since, .int .i64 u.till, .int .i64 u.litres, .int .i64 u.e, .int .i64 u.s] 27)) (blk_lt Yh16.out))
      have Zh17 := Lib.hid (blk_below Zh16.out ((Below.refl w16.heap.size w16).alloc (Nat.le_refl _) (.cells #[.int .i64 u.office, .int .i64 u.since, .int .i64 u.till, .int .i64 u.litres, .int .i64 u.e, .int .i64 u.s] 27)) (blk_lt Zh16.out))
      clear cC0 cC1 cC2 cC3 cC4 cC5 cC6 cC7 cD0 cD1 cD2 cD3 cD4 cD5 cD6 cD7 cP0 cP1 cP2 cP3 cP4 cP5 cQ0 cQ1 cQ2 cQ3 cQ4 cQ5 cX0 cX1 cX2 cX3 cX4 cX5 cX6 cX7 cY0 cY1 cY2 cY3 cY4 cY5 cZ0 cZ1 cZ2 cZ3 cZ4 cZ5 cZ6 cZ7
      clear HB16 Ch16 Dh16 Ph16 Qh16 Xh16 Yh16 Zh16
      generalize w16.heap.size = bU at *
      generalize w16.alloc (.cells #[.int .i64 u.office, .int .i64 u.since, .int .i64 u.till, .int .i64 u.litres, .int .i64 u.e, .int .i64 u.s] 27) = w17 at *
      have cC0 : w17.cell? ⟨w.heap.size, 0, none⟩ = some (.int .i64 c.office) := (cell_of_row _ _ _ _ _ _ Ch17.out).trans rfl
      have cC1 : w17.cell? ⟨w.heap.size, 1, none⟩ = some (.int .i64 c.hour) := (cell_of_row _ _ _ _ _ _ Ch17.out).trans rfl
      have cC2 : w17.cell? ⟨w.heap.size, 2, none⟩ = some (.int .i64 c.inn) := (cell_of_row _ _ _ _ _ _ Ch17.out).trans rfl
      have cC3 : w17.cell? ⟨w.heap.size, 3, none⟩ = some (.int .i64 c.out) := (cell_of_row _ _ _ _ _ _ Ch17.out).trans rfl
      have cC4 : w17.cell? ⟨w.heap.size, 4, none⟩ = some (.int .i64 c.store) := (cell_of_row _ _ _ _ _ _ Ch17.out).trans rfl
      have cC5 : w17.cell? ⟨w.heap.size, 5, none⟩ = some (.string c.prev) := (cell_of_row _ _ _ _ _ _ Ch17.out).trans rfl
      have cC6 : w17.cell? ⟨w.heap.size, 6, none⟩ = some (.int .i64 c.e) := (cell_of_row _ _ _ _ _ _ Ch17.out).trans rfl
      have cC7 : w17.cell? ⟨w.heap.size, 7, none⟩ = some (.int .i64 c.s) := (cell_of_row _ _ _ _ _ _ Ch17.out).trans rfl
      have cD0 : w17.cell? ⟨bD, 0, none⟩ = some (.int .i64 d.office) := (cell_of_row _ _ _ _ _ _ Dh17.out).trans rfl
      have cD1 : w17.cell? ⟨bD, 1, none⟩ = some (.int .i64 d.hour) := (cell_of_row _ _ _ _ _ _ Dh17.out).trans rfl
      have cD2 : w17.cell? ⟨bD, 2, none⟩ = some (.int .i64 d.inn) := (cell_of_row _ _ _ _ _ _ Dh17.out).trans rfl
      have cD3 : w17.cell? ⟨bD, 3, none⟩ = some (.int .i64 d.out) := (cell_of_row _ _ _ _ _ _ Dh17.out).trans rfl
      have cD4 : w17.cell? ⟨bD, 4, none⟩ = some (.int .i64 d.store) := (cell_of_row _ _ _ _ _ _ Dh17.out).trans rfl
      have cD5 : w17.cell? ⟨bD, 5, none⟩ = some (.string d.prev) := (cell_of_row _ _ _ _ _ _ Dh17.out).trans rfl
      have cD6 : w17.cell? ⟨bD, 6, none⟩ = some (.int .i64 d.e) := (cell_of_row _ _ _ _ _ _ Dh17.out).trans rfl
      have cD7 : w17.cell? ⟨bD, 7, none⟩ = some (.int .i64 d.s) := (cell_of_row _ _ _ _ _ _ Dh17.out).trans rfl
      have cP0 : w17.cell? ⟨bP, 0, none⟩ = some (.int .i64 p.office) := (cell_of_row _ _ _ _ _ _ Ph17.out).trans rfl
      have cP1 : w17.cell? ⟨bP, 1, none⟩ = some (.int .i64 p.since) := (cell_of_row _ _ _ _ _ _ Ph17.out).trans rfl
      have cP2 : w17.cell? ⟨bP, 2, none⟩ = some (.int .i64 p.till) := (cell_of_row _ _ _ _ _ _ Ph17.out).trans rfl
      have cP3 : w17.cell? ⟨bP, 3, none⟩ = some (.int .i64 p.litres) := (cell_of_row _ _ _ _ _ _ Ph17.out).trans rfl
      have cP4 : w17.cell? ⟨bP, 4, none⟩ = some (.int .i64 p.e) := (cell_of_row _ _ _ _ _ _ Ph17.out).trans rfl
      have cP5 : w17.cell? ⟨bP, 5, none⟩ = some (.int .i64 p.s) := (cell_of_row _ _ _ _ _ _ Ph17.out).trans rfl
      have cQ0 : w17.cell? ⟨bQ, 0, none⟩ = some (.int .i64 q.office) := (cell_of_row _ _ _ _ _ _ Qh17.out).trans rfl
      have cQ1 : w17.cell? ⟨bQ, 1, none⟩ = some (.int .i64 q.since) := (cell_of_row _ _ _ _ _ _ Qh17.out).trans rfl
      have cQ2 : w17.cell? ⟨bQ, 2, none⟩ = some (.int .i64 q.till) := (cell_of_row _ _ _ _ _ _ Qh17.out).trans rfl
      have cQ3 : w17.cell? ⟨bQ, 3, none⟩ = some (.int .i64 q.litres) := (cell_of_row _ _ _ _ _ _ Qh17.out).trans rfl
      have cQ4 : w17.cell? ⟨bQ, 4, none⟩ = some (.int .i64 q.e) := (cell_of_row _ _ _ _ _ _ Qh17.out).trans rfl
      have cQ5 : w17.cell? ⟨bQ, 5, none⟩ = some (.int .i64 q.s) := (cell_of_row _ _ _ _ _ _ Qh17.out).trans rfl
      have cX0 : w17.cell? ⟨bX, 0, none⟩ = some (.int .i64 c.office) := (cell_of_row _ _ _ _ _ _ Xh17.out).trans rfl
      have cX1 : w17.cell? ⟨bX, 1, none⟩ = some (.int .i64 c.hour) := (cell_of_row _ _ _ _ _ _ Xh17.out).trans rfl
      have cX2 : w17.cell? ⟨bX, 2, none⟩ = some (.int .i64 c.inn) := (cell_of_row _ _ _ _ _ _ Xh17.out).trans rfl
      have cX3 : w17.cell? ⟨bX, 3, none⟩ = some (.int .i64 c.out) := (cell_of_row _ _ _ _ _ _ Xh17.out).trans rfl
      have cX4 : w17.cell? ⟨bX, 4, none⟩ = some (.int .i64 c.store) := (cell_of_row _ _ _ _ _ _ Xh17.out).trans rfl
      have cX5 : w17.cell? ⟨bX, 5, none⟩ = some (.string c.prev) := (cell_of_row _ _ _ _ _ _ Xh17.out).trans rfl
      have cX6 : w17.cell? ⟨bX, 6, none⟩ = some (.int .i64 c.e) := (cell_of_row _ _ _ _ _ _ Xh17.out).trans rfl
      have cX7 : w17.cell? ⟨bX, 7, none⟩ = some (.int .i64 c.s) := (cell_of_row _ _ _ _ _ _ Xh17.out).trans rfl
      have cY0 : w17.cell? ⟨bY, 0, none⟩ = some (.int .i64 p.office) := (cell_of_row _ _ _ _ _ _ Yh17.out).trans rfl
      have cY1 : w17.cell? ⟨bY, 1, none⟩ = some (.int .i64 p.since) := (cell_of_row _ _ _ _ _ _ Yh17.out).trans rfl
      have cY2 : w17.cell? ⟨bY, 2, none⟩ = some (.int .i64 p.till) := (cell_of_row _ _ _ _ _ _ Yh17.out).trans rfl
      have cY3 : w17.cell? ⟨bY, 3, none⟩ = some (.int .i64 p.litres) := (cell_of_row _ _ _ _ _ _ Yh17.out).trans rfl
      have cY4 : w17.cell? ⟨bY, 4, none⟩ = some (.int .i64 p.e) := (cell_of_row _ _ _ _ _ _ Yh17.out).trans rfl
      have cY5 : w17.cell? ⟨bY, 5, none⟩ = some (.int .i64 p.s) := (cell_of_row _ _ _ _ _ _ Yh17.out).trans rfl
      have cZ0 : w17.cell? ⟨bZ, 0, none⟩ = some (.int .i64 z.office) := (cell_of_row _ _ _ _ _ _ Zh17.out).trans rfl
      have cZ1 : w17.cell? ⟨bZ, 1, none⟩ = some (.int .i64 z.hour) := (cell_of_row _ _ _ _ _ _ Zh17.out).trans rfl
      have cZ2 : w17.cell? ⟨bZ, 2, none⟩ = some (.int .i64 z.inn) := (cell_of_row _ _ _ _ _ _ Zh17.out).trans rfl
      have cZ3 : w17.cell? ⟨bZ, 3, none⟩ = some (.int .i64 z.out) := (cell_of_row _ _ _ _ _ _ Zh17.out).trans rfl
      have cZ4 : w17.cell? ⟨bZ, 4, none⟩ = some (.int .i64 z.store) := (cell_of_row _ _ _ _ _ _ Zh17.out).trans rfl
      have cZ5 : w17.cell? ⟨bZ, 5, none⟩ = some (.string z.prev) := (cell_of_row _ _ _ _ _ _ Zh17.out).trans rfl
      have cZ6 : w17.cell? ⟨bZ, 6, none⟩ = some (.int .i64 z.e) := (cell_of_row _ _ _ _ _ _ Zh17.out).trans rfl
      have cZ7 : w17.cell? ⟨bZ, 7, none⟩ = some (.int .i64 z.s) := (cell_of_row _ _ _ _ _ _ Zh17.out).trans rfl
      have cU0 : w17.cell? ⟨bU, 0, none⟩ = some (.int .i64 u.office) := (cell_of_row _ _ _ _ _ _ Uh17.out).trans rfl
      have cU1 : w17.cell? ⟨bU, 1, none⟩ = some (.int .i64 u.since) := (cell_of_row _ _ _ _ _ _ Uh17.out).trans rfl
      have cU2 : w17.cell? ⟨bU, 2, none⟩ = some (.int .i64 u.till) := (cell_of_row _ _ _ _ _ _ Uh17.out).trans rfl
      have cU3 : w17.cell? ⟨bU, 3, none⟩ = some (.int .i64 u.litres) := (cell_of_row _ _ _ _ _ _ Uh17.out).trans rfl
      have cU4 : w17.cell? ⟨bU, 4, none⟩ = some (.int .i64 u.e) := (cell_of_row _ _ _ _ _ _ Uh17.out).trans rfl
      have cU5 : w17.cell? ⟨bU, 5, none⟩ = some (.int .i64 u.s) := (cell_of_row _ _ _ _ _ _ Uh17.out).trans rfl
      cases hth : three with
      | true =>
        have hbk := HF.out.back hth
        cases hfo : four with
        | true =>
          have hpk := HF.out.pback hfo
          go_wp2_with fail
          refine (HF.out.by_ z okz _ (HM.out.up HB17.out)).mono ?_
          rintro e w18 ⟨rfl, hb⟩
          have HB18 := Lib.hid (HB17.out.trans (hb.mono HB17.out.size))
          have Ch18 := Lib.hid (blk_below Ch17.out hb (blk_lt Ch17.out))
          have Dh18 := Lib.hid (blk_below Dh17.out hb (blk_lt Dh17.out))
          have Ph18 := Lib.hid (blk_below Ph17.out hb (blk_lt Ph17.out))
          have Qh18 := Lib.hid (blk_below Qh17.out hb (blk_lt Qh17.out))
          have Xh18 := Lib.hid (blk_below Xh17.out hb (blk_lt Xh17.out))
          have Yh18 := Lib.hid (blk_below Yh17.out hb (blk_lt Yh17.out))
          have Zh18 := Lib.hid (blk_below Zh17.out hb (blk_lt Zh17.out))
          have Uh18 := Lib.hid (blk_below Uh17.out hb (blk_lt Uh17.out))
          clear cC0 cC1 cC2 cC3 cC4 cC5 cC6 cC7 cD0 cD1 cD2 cD3 cD4 cD5 cD6 cD7 cP0 cP1 cP2 cP3 cP4 cP5 cQ0 cQ1 cQ2 cQ3 cQ4 cQ5 cX0 cX1 cX2 cX3 cX4 cX5 cX6 cX7 cY0 cY1 cY2 cY3 cY4 cY5 cZ0 cZ1 cZ2 cZ3 cZ4 cZ5 cZ6 cZ7 cU0 cU1 cU2 cU3 cU4 cU5
          clear HB17 Ch17 Dh17 Ph17 Qh17 Xh17 Yh17 Zh17 Uh17
          clear hb
          have cC0 : w18.cell? ⟨w.heap.size, 0, none⟩ = some (.int .i64 c.office) := (cell_of_row _ _ _ _ _ _ Ch18.out).trans rfl
          have cC1 : w18.cell? ⟨w.heap.size, 1, none⟩ = some (.int .i64 c.hour) := (cell_of_row _ _ _ _ _ _ Ch18.out).trans rfl
          have cC2 : w18.cell? ⟨w.heap.size, 2, none⟩ = some (.int .i64 c.inn) := (cell_of_row _ _ _ _ _ _ Ch18.out).trans rfl
          have cC3 : w18.cell? ⟨w.heap.size, 3, none⟩ = some (.int .i64 c.out) := (cell_of_row _ _ _ _ _ _ Ch18.out).trans rfl
          have cC4 : w18.cell? ⟨w.heap.size, 4, none⟩ = some (.int .i64 c.store) := (cell_of_row _ _ _ _ _ _ Ch18.out).trans rfl
          have cC5 : w18.cell? ⟨w.heap.size, 5, none⟩ = some (.string c.prev) := (cell_of_row _ _ _ _ _ _ Ch18.out).trans rfl
          have cC6 : w18.cell? ⟨w.heap.size, 6, none⟩ = some (.int .i64 c.e) := (cell_of_row _ _ _ _ _ _ Ch18.out).trans rfl
          have cC7 : w18.cell? ⟨w.heap.size, 7, none⟩ = some (.int .i64 c.s) := (cell_of_row _ _ _ _ _ _ Ch18.out).trans rfl
          have cD0 : w18.cell? ⟨bD, 0, none⟩ = some (.int .i64 d.office) := (cell_of_row _ _ _ _ _ _ Dh18.out).trans rfl
          have cD1 : w18.cell? ⟨bD, 1, none⟩ = some (.int .i64 d.hour) := (cell_of_row _ _ _ _ _ _ Dh18.out).trans rfl
          have cD2 : w18.cell? ⟨bD, 2, none⟩ = some (.int .i64 d.inn) := (cell_of_row _ _ _ _ _ _ Dh18.out).trans rfl
          have cD3 : w18.cell? ⟨bD, 3, none⟩ = some (.int .i64 d.out) := (cell_of_row _ _ _ _ _ _ Dh18.out).trans rfl
          have cD4 : w18.cell? ⟨bD, 4, none⟩ = some (.int .i64 d.store) := (cell_of_row _ _ _ _ _ _ Dh18.out).trans rfl
          have cD5 : w18.cell? ⟨bD, 5, none⟩ = some (.string d.prev) := (cell_of_row _ _ _ _ _ _ Dh18.out).trans rfl
          have cD6 : w18.cell? ⟨bD, 6, none⟩ = some (.int .i64 d.e) := (cell_of_row _ _ _ _ _ _ Dh18.out).trans rfl
          have cD7 : w18.cell? ⟨bD, 7, none⟩ = some (.int .i64 d.s) := (cell_of_row _ _ _ _ _ _ Dh18.out).trans rfl
          have cP0 : w18.cell? ⟨bP, 0, none⟩ = some (.int .i64 p.office) := (cell_of_row _ _ _ _ _ _ Ph18.out).trans rfl
          have cP1 : w18.cell? ⟨bP, 1, none⟩ = some (.int .i64 p.since) := (cell_of_row _ _ _ _ _ _ Ph18.out).trans rfl
          have cP2 : w18.cell? ⟨bP, 2, none⟩ = some (.int .i64 p.till) := (cell_of_row _ _ _ _ _ _ Ph18.out).trans rfl
          have cP3 : w18.cell? ⟨bP, 3, none⟩ = some (.int .i64 p.litres) := (cell_of_row _ _ _ _ _ _ Ph18.out).trans rfl
          have cP4 : w18.cell? ⟨bP, 4, none⟩ = some (.int .i64 p.e) := (cell_of_row _ _ _ _ _ _ Ph18.out).trans rfl
          have cP5 : w18.cell? ⟨bP, 5, none⟩ = some (.int .i64 p.s) := (cell_of_row _ _ _ _ _ _ Ph18.out).trans rfl
          have cQ0 : w18.cell? ⟨bQ, 0, none⟩ = some (.int .i64 q.office) := (cell_of_row _ _ _ _ _ _ Qh18.out).trans rfl
          have cQ1 : w18.cell? ⟨bQ, 1, none⟩ = some (.int .i64 q.since) := (cell_of_row _ _ _ _ _ _ Qh18.out).trans rfl
          have cQ2 : w18.cell? ⟨bQ, 2, none⟩ = some (.int .i64 q.till) := (cell_of_row _ _ _ _ _ _ Qh18.out).trans rfl
          have cQ3 : w18.cell? ⟨bQ, 3, none⟩ = some (.int .i64 q.litres) := (cell_of_row _ _ _ _ _ _ Qh18.out).trans rfl
          have cQ4 : w18.cell? ⟨bQ, 4, none⟩ = some (.int .i64 q.e) := (cell_of_row _ _ _ _ _ _ Qh18.out).trans rfl
          have cQ5 : w18.cell? ⟨bQ, 5, none⟩ = some (.int .i64 q.s) := (cell_of_row _ _ _ _ _ _ Qh18.out).trans rfl
          have cX0 : w18.cell? ⟨bX, 0, none⟩ = some (.int .i64 c.office) := (cell_of_row _ _ _ _ _ _ Xh18.out).trans rfl
          have cX1 : w18.cell? ⟨bX, 1, none⟩ = some (.int .i64 c.hour) := (cell_of_row _ _ _ _ _ _ Xh18.out).trans rfl
          have cX2 : w18.cell? ⟨bX, 2, none⟩ = some (.int .i64 c.inn) := (cell_of_row _ _ _ _ _ _ Xh18.out).trans rfl
          have cX3 : w18.cell? ⟨bX, 3, none⟩ = some (.int .i64 c.out) := (cell_of_row _ _ _ _ _ _ Xh18.out).trans rfl
          have cX4 : w18.cell? ⟨bX, 4, none⟩ = some (.int .i64 c.store) := (cell_of_row _ _ _ _ _ _ Xh18.out).trans rfl
          have cX5 : w18.cell? ⟨bX, 5, none⟩ = some (.string c.prev) := (cell_of_row _ _ _ _ _ _ Xh18.out).trans rfl
          have cX6 : w18.cell? ⟨bX, 6, none⟩ = some (.int .i64 c.e) := (cell_of_row _ _ _ _ _ _ Xh18.out).trans rfl
          have cX7 : w18.cell? ⟨bX, 7, none⟩ = some (.int .i64 c.s) := (cell_of_row _ _ _ _ _ _ Xh18.out).trans rfl
          have cY0 : w18.cell? ⟨bY, 0, none⟩ = some (.int .i64 p.office) := (cell_of_row _ _ _ _ _ _ Yh18.out).trans rfl
          have cY1 : w18.cell? ⟨bY, 1, none⟩ = some (.int .i64 p.since) := (cell_of_row _ _ _ _ _ _ Yh18.out).trans rfl
          have cY2 : w18.cell? ⟨bY, 2, none⟩ = some (.int .i64 p.till) := (cell_of_row _ _ _ _ _ _ Yh18.out).trans rfl
          have cY3 : w18.cell? ⟨bY, 3, none⟩ = some (.int .i64 p.litres) := (cell_of_row _ _ _ _ _ _ Yh18.out).trans rfl
          have cY4 : w18.cell? ⟨bY, 4, none⟩ = some (.int .i64 p.e) := (cell_of_row _ _ _ _ _ _ Yh18.out).trans rfl
          have cY5 : w18.cell? ⟨bY, 5, none⟩ = some (.int .i64 p.s) := (cell_of_row _ _ _ _ _ _ Yh18.out).trans rfl
          have cZ0 : w18.cell? ⟨bZ, 0, none⟩ = some (.int .i64 z.office) := (cell_of_row _ _ _ _ _ _ Zh18.out).trans rfl
          have cZ1 : w18.cell? ⟨bZ, 1, none⟩ = some (.int .i64 z.hour) := (cell_of_row _ _ _ _ _ _ Zh18.out).trans rfl
          have cZ2 : w18.cell? ⟨bZ, 2, none⟩ = some (.int .i64 z.inn) := (cell_of_row _ _ _ _ _ _ Zh18.out).trans rfl
          have cZ3 : w18.cell? ⟨bZ, 3, none⟩ = some (.int .i64 z.out) := (cell_of_row _ _ _ _ _ _ Zh18.out).trans rfl
          have cZ4 : w18.cell? ⟨bZ, 4, none⟩ = some (.int .i64 z.store) := (cell_of_row _ _ _ _ _ _ Zh18.out).trans rfl
          have cZ5 : w18.cell? ⟨bZ, 5, none⟩ = some (.string z.prev) := (cell_of_row _ _ _ _ _ _ Zh18.out).trans rfl
          have cZ6 : w18.cell? ⟨bZ, 6, none⟩ = some (.int .i64 z.e) := (cell_of_row _ _ _ _ _ _ Zh18.out).trans rfl
          have cZ7 : w18.cell? ⟨bZ, 7, none⟩ = some (.int .i64 z.s) := (cell_of_row _ _ _ _ _ _ Zh18.out).trans rfl
          have cU0 : w18.cell? ⟨bU, 0, none⟩ = some (.int .i64 u.office) := (cell_of_row _ _ _ _ _ _ Uh18.out).trans rfl
          have cU1 : w18.cell? ⟨bU, 1, none⟩ = some (.int .i64 u.since) := (cell_of_row _ _ _ _ _ _ Uh18.out).trans rfl
          have cU2 : w18.cell? ⟨bU, 2, none⟩ = some (.int .i64 u.till) := (cell_of_row _ _ _ _ _ _ Uh18.out).trans rfl
          have cU3 : w18.cell? ⟨bU, 3, none⟩ = some (.int .i64 u.litres) := (cell_of_row _ _ _ _ _ _ Uh18.out).trans rfl
          have cU4 : w18.cell? ⟨bU, 4, none⟩ = some (.int .i64 u.e) := (cell_of_row _ _ _ _ _ _ Uh18.out).trans rfl
          have cU5 : w18.cell? ⟨bU, 5, none⟩ = some (.int .i64 u.s) := (cell_of_row _ _ _ _ _ _ Uh18.out).trans rfl
          go_wp2_with fail
          refine (HF.out.pby u oku _).mono ?_
          rintro e w19 ⟨rfl, hb⟩
          have HB19 := Lib.hid (HB18.out.trans (hb.mono HB18.out.size))
          have Ch19 := Lib.hid (blk_below Ch18.out hb (blk_lt Ch18.out))
          have Dh19 := Lib.hid (blk_below Dh18.out hb (blk_lt Dh18.out))
          have Ph19 := Lib.hid (blk_below Ph18.out hb (blk_lt Ph18.out))
          have Qh19 := Lib.hid (blk_below Qh18.out hb (blk_lt Qh18.out))
          have Xh19 := Lib.hid (blk_below Xh18.out hb (blk_lt Xh18.out))
          have Yh19 := Lib.hid (blk_below Yh18.out hb (blk_lt Yh18.out))
          have Zh19 := Lib.hid (blk_below Zh18.out hb (blk_lt Zh18.out))
          have Uh19 := Lib.hid (blk_below Uh18.out hb (blk_lt Uh18.out))
          clear cC0 cC1 cC2 cC3 cC4 cC5 cC6 cC7 cD0 cD1 cD2 cD3 cD4 cD5 cD6 cD7 cP0 cP1 cP2 cP3 cP4 cP5 cQ0 cQ1 cQ2 cQ3 cQ4 cQ5 cX0 cX1 cX2 cX3 cX4 cX5 cX6 cX7 cY0 cY1 cY2 cY3 cY4 cY5 cZ0 cZ1 cZ2 cZ3 cZ4 cZ5 cZ6 cZ7 cU0 cU1 cU2 cU3 cU4 cU5
          clear HB18 Ch18 Dh18 Ph18 Qh18 Xh18 Yh18 Zh18 Uh18
          clear hb
          have cC0 : w19.cell? ⟨w.heap.size, 0, none⟩ = some (.int .i64 c.office) := (cell_of_row _ _ _ _ _ _ Ch19.out).trans rfl
          have cC1 : w19.cell? ⟨w.heap.size, 1, none⟩ = some (.int .i64 c.hour) := (cell_of_row _ _ _ _ _ _ Ch19.out).trans rfl
          have cC2 : w19.cell? ⟨w.heap.size, 2, none⟩ = some (.int .i64 c.inn) := (cell_of_row _ _ _ _ _ _ Ch19.out).trans rfl
          have cC3 : w19.cell? ⟨w.heap.size, 3, none⟩ = some (.int .i64 c.out) := (cell_of_row _ _ _ _ _ _ Ch19.out).trans rfl
          have cC4 : w19.cell? ⟨w.heap.size, 4, none⟩ = some (.int .i64 c.store) := (cell_of_row _ _ _ _ _ _ Ch19.out).trans rfl
          have cC5 : w19.cell? ⟨w.heap.size, 5, none⟩ = some (.string c.prev) := (cell_of_row _ _ _ _ _ _ Ch19.out).trans rfl
          have cC6 : w19.cell? ⟨w.heap.size, 6, none⟩ = some (.int .i64 c.e) := (cell_of_row _ _ _ _ _ _ Ch19.out).trans rfl
          have cC7 : w19.cell? ⟨w.heap.size, 7, none⟩ = some (.int .i64 c.s) := (cell_of_row _ _ _ _ _ _ Ch19.out).trans rfl
          have cD0 : w19.cell? ⟨bD, 0, none⟩ = some (.int .i64 d.office) := (cell_of_row _ _ _ _ _ _ Dh19.out).trans rfl
          have cD1 : w19.cell? ⟨bD, 1, none⟩ = some (.int .i64 d.hour) := (cell_of_row _ _ _ _ _ _ Dh19.out).trans rfl
          have cD2 : w19.cell? ⟨bD, 2, none⟩ = some (.int .i64 d.inn) := (cell_of_row _ _ _ _ _ _ Dh19.out).trans rfl
          have cD3 : w19.cell? ⟨bD, 3, none⟩ = some (.int .i64 d.out) := (cell_of_row _ _ _ _ _ _ Dh19.out).trans rfl
          have cD4 : w19.cell? ⟨bD, 4, none⟩ = some (.int .i64 d.store) := (cell_of_row _ _ _ _ _ _ Dh19.out).trans rfl
          have cD5 : w19.cell? ⟨bD, 5, none⟩ = some (.string d.prev) := (cell_of_row _ _ _ _ _ _ Dh19.out).trans rfl
          have cD6 : w19.cell? ⟨bD, 6, none⟩ = some (.int .i64 d.e) := (cell_of_row _ _ _ _ _ _ Dh19.out).trans rfl
          have cD7 : w19.cell? ⟨bD, 7, none⟩ = some (.int .i64 d.s) := (cell_of_row _ _ _ _ _ _ Dh19.out).trans rfl
          have cP0 : w19.cell? ⟨bP, 0, none⟩ = some (.int .i64 p.office) := (cell_of_row _ _ _ _ _ _ Ph19.out).trans rfl
          have cP1 : w19.cell? ⟨bP, 1, none⟩ = some (.int .i64 p.since) := (cell_of_row _ _ _ _ _ _ Ph19.out).trans rfl
          have cP2 : w19.cell? ⟨bP, 2, none⟩ = some (.int .i64 p.till) := (cell_of_row _ _ _ _ _ _ Ph19.out).trans rfl
          have cP3 : w19.cell? ⟨bP, 3, none⟩ = some (.int .i64 p.litres) := (cell_of_row _ _ _ _ _ _ Ph19.out).trans rfl
          have cP4 : w19.cell? ⟨bP, 4, none⟩ = some (.int .i64 p.e) := (cell_of_row _ _ _ _ _ _ Ph19.out).trans rfl
          have cP5 : w19.cell? ⟨bP, 5, none⟩ = some (.int .i64 p.s) := (cell_of_row _ _ _ _ _ _ Ph19.out).trans rfl
          have cQ0 : w19.cell? ⟨bQ, 0, none⟩ = some (.int .i64 q.office) := (cell_of_row _ _ _ _ _ _ Qh19.out).trans rfl
          have cQ1 : w19.cell? ⟨bQ, 1, none⟩ = some (.int .i64 q.since) := (cell_of_row _ _ _ _ _ _ Qh19.out).trans rfl
          have cQ2 : w19.cell? ⟨bQ, 2, none⟩ = some (.int .i64 q.till) := (cell_of_row _ _ _ _ _ _ Qh19.out).trans rfl
          have cQ3 : w19.cell? ⟨bQ, 3, none⟩ = some (.int .i64 q.litres) := (cell_of_row _ _ _ _ _ _ Qh19.out).trans rfl
          have cQ4 : w19.cell? ⟨bQ, 4, none⟩ = some (.int .i64 q.e) := (cell_of_row _ _ _ _ _ _ Qh19.out).trans rfl
          have cQ5 : w19.cell? ⟨bQ, 5, none⟩ = some (.int .i64 q.s) := (cell_of_row _ _ _ _ _ _ Qh19.out).trans rfl
          have cX0 : w19.cell? ⟨bX, 0, none⟩ = some (.int .i64 c.office) := (cell_of_row _ _ _ _ _ _ Xh19.out).trans rfl
          have cX1 : w19.cell? ⟨bX, 1, none⟩ = some (.int .i64 c.hour) := (cell_of_row _ _ _ _ _ _ Xh19.out).trans rfl
          have cX2 : w19.cell? ⟨bX, 2, none⟩ = some (.int .i64 c.inn) := (cell_of_row _ _ _ _ _ _ Xh19.out).trans rfl
          have cX3 : w19.cell? ⟨bX, 3, none⟩ = some (.int .i64 c.out) := (cell_of_row _ _ _ _ _ _ Xh19.out).trans rfl
          have cX4 : w19.cell? ⟨bX, 4, none⟩ = some (.int .i64 c.store) := (cell_of_row _ _ _ _ _ _ Xh19.out).trans rfl
          have cX5 : w19.cell? ⟨bX, 5, none⟩ = some (.string c.prev) := (cell_of_row _ _ _ _ _ _ Xh19.out).trans rfl
          have cX6 : w19.cell? ⟨bX, 6, none⟩ = some (.int .i64 c.e) := (cell_of_row _ _ _ _ _ _ Xh19.out).trans rfl
          have cX7 : w19.cell? ⟨bX, 7, none⟩ = some (.int .i64 c.s) := (cell_of_row _ _ _ _ _ _ Xh19.out).trans rfl
          have cY0 : w19.cell? ⟨bY, 0, none⟩ = some (.int .i64 p.office) := (cell_of_row _ _ _ _ _ _ Yh19.out).trans rfl
          have cY1 : w19.cell? ⟨bY, 1, none⟩ = some (.int .i64 p.since) := (cell_of_row _ _ _ _ _ _ Yh19.out).trans rfl
          have cY2 : w19.cell? ⟨bY, 2, none⟩ = some (.int .i64 p.till) := (cell_of_row _ _ _ _ _ _ Yh19.out).trans rfl
          have cY3 : w19.cell? ⟨bY, 3, none⟩ = some (.int .i64 p.litres) := (cell_of_row _ _ _ _ _ _ Yh19.out).trans rfl
          have cY4 : w19.cell? ⟨bY, 4, none⟩ = some (.int .i64 p.e) := (cell_of_row _ _ _ _ _ _ Yh19.out).trans rfl
          have cY5 : w19.cell? ⟨bY, 5, none⟩ = some (.int .i64 p.s) := (cell_of_row _ _ _ _ _ _ Yh19.out).trans rfl
          have cZ0 : w19.cell? ⟨bZ, 0, none⟩ = some (.int .i64 z.office) := (cell_of_row _ _ _ _ _ _ Zh19.out).trans rfl
          have cZ1 : w19.cell? ⟨bZ, 1, none⟩ = some (.int .i64 z.hour) := (cell_of_row _ _ _ _ _ _ Zh19.out).trans rfl
          have cZ2 : w19.cell? ⟨bZ, 2, none⟩ = some (.int .i64 z.inn) := (cell_of_row _ _ _ _ _ _ Zh19.out).trans rfl
          have cZ3 : w19.cell? ⟨bZ, 3, none⟩ = some (.int .i64 z.out) := (cell_of_row _ _ _ _ _ _ Zh19.out).trans rfl
          have cZ4 : w19.cell? ⟨bZ, 4, none⟩ = some (.int .i64 z.store) := (cell_of_row _ _ _ _ _ _ Zh19.out).trans rfl
          have cZ5 : w19.cell? ⟨bZ, 5, none⟩ = some (.string z.prev) := (cell_of_row _ _ _ _ _ _ Zh19.out).trans rfl
          have cZ6 : w19.cell? ⟨bZ, 6, none⟩ = some (.int .i64 z.e) := (cell_of_row _ _ _ _ _ _ Zh19.out).trans rfl
          have cZ7 : w19.cell? ⟨bZ, 7, none⟩ = some (.int .i64 z.s) := (cell_of_row _ _ _ _ _ _ Zh19.out).trans rfl
          have cU0 : w19.cell? ⟨bU, 0, none⟩ = some (.int .i64 u.office) := (cell_of_row _ _ _ _ _ _ Uh19.out).trans rfl
          have cU1 : w19.cell? ⟨bU, 1, none⟩ = some (.int .i64 u.since) := (cell_of_row _ _ _ _ _ _ Uh19.out).trans rfl
          have cU2 : w19.cell? ⟨bU, 2, none⟩ = some (.int .i64 u.till) := (cell_of_row _ _ _ _ _ _ Uh19.out).trans rfl
          have cU3 : w19.cell? ⟨bU, 3, none⟩ = some (.int .i64 u.litres) := (cell_of_row _ _ _ _ _ _ Uh19.out).trans rfl
          have cU4 : w19.cell? ⟨bU, 4, none⟩ = some (.int .i64 u.e) := (cell_of_row _ _ _ _ _ _ Uh19.out).trans rfl
          have cU5 : w19.cell? ⟨bU, 5, none⟩ = some (.int .i64 u.s) := (cell_of_row _ _ _ _ _ _ Uh19.out).trans rfl
          go_wp2_with fail
          go_ret
          exact ⟨rfl, HB19.out⟩
        | false =>
          go_wp2_with fail
          refine (HF.out.by_ z okz _ (HM.out.up HB17.out)).mono ?_
          rintro e w18 ⟨rfl, hb⟩
          have HB18 := Lib.hid (HB17.out.trans (hb.mono HB17.out.size))
          have Ch18 := Lib.hid (blk_below Ch17.out hb (blk_lt Ch17.out))
          have Dh18 := Lib.hid (blk_below Dh17.out hb (blk_lt Dh17.out))
          have Ph18 := Lib.hid (blk_below Ph17.out hb (blk_lt Ph17.out))
          have Qh18 := Lib.hid (blk_below Qh17.out hb (blk_lt Qh17.out))
          have Xh18 := Lib.hid (blk_below Xh17.out hb (blk_lt Xh17.out))
          have Yh18 := Lib.hid (blk_below Yh17.out hb (blk_lt Yh17.out))
          have Zh18 := Lib.hid (blk_below Zh17.out hb (blk_lt Zh17.out))
          have Uh18 := Lib.hid (blk_below Uh17.out hb (blk_lt Uh17.out))
          clear cC0 cC1 cC2 cC3 cC4 cC5 cC6 cC7 cD0 cD1 cD2 cD3 cD4 cD5 cD6 cD7 cP0 cP1 cP2 cP3 cP4 cP5 cQ0 cQ1 cQ2 cQ3 cQ4 cQ5 cX0 cX1 cX2 cX3 cX4 cX5 cX6 cX7 cY0 cY1 cY2 cY3 cY4 cY5 cZ0 cZ1 cZ2 cZ3 cZ4 cZ5 cZ6 cZ7 cU0 cU1 cU2 cU3 cU4 cU5
          clear HB17 Ch17 Dh17 Ph17 Qh17 Xh17 Yh17 Zh17 Uh17
          clear hb
          have cC0 : w18.cell? ⟨w.heap.size, 0, none⟩ = some (.int .i64 c.office) := (cell_of_row _ _ _ _ _ _ Ch18.out).trans rfl
          have cC1 : w18.cell? ⟨w.heap.size, 1, none⟩ = some (.int .i64 c.hour) := (cell_of_row _ _ _ _ _ _ Ch18.out).trans rfl
          have cC2 : w18.cell? ⟨w.heap.size, 2, none⟩ = some (.int .i64 c.inn) := (cell_of_row _ _ _ _ _ _ Ch18.out).trans rfl
          have cC3 : w18.cell? ⟨w.heap.size, 3, none⟩ = some (.int .i64 c.out) := (cell_of_row _ _ _ _ _ _ Ch18.out).trans rfl
          have cC4 : w18.cell? ⟨w.heap.size, 4, none⟩ = some (.int .i64 c.store) := (cell_of_row _ _ _ _ _ _ Ch18.out).trans rfl
          have cC5 : w18.cell? ⟨w.heap.size, 5, none⟩ = some (.string c.prev) := (cell_of_row _ _ _ _ _ _ Ch18.out).trans rfl
          have cC6 : w18.cell? ⟨w.heap.size, 6, none⟩ = some (.int .i64 c.e) := (cell_of_row _ _ _ _ _ _ Ch18.out).trans rfl
          have cC7 : w18.cell? ⟨w.heap.size, 7, none⟩ = some (.int .i64 c.s) := (cell_of_row _ _ _ _ _ _ Ch18.out).trans rfl
          have cD0 : w18.cell? ⟨bD, 0, none⟩ = some (.int .i64 d.office) := (cell_of_row _ _ _ _ _ _ Dh18.out).trans rfl
          have cD1 : w18.cell? ⟨bD, 1, none⟩ = some (.int .i64 d.hour) := (cell_of_row _ _ _ _ _ _ Dh18.out).trans rfl
          have cD2 : w18.cell? ⟨bD, 2, none⟩ = some (.int .i64 d.inn) := (cell_of_row _ _ _ _ _ _ Dh18.out).trans rfl
          have cD3 : w18.cell? ⟨bD, 3, none⟩ = some (.int .i64 d.out) := (cell_of_row _ _ _ _ _ _ Dh18.out).trans rfl
          have cD4 : w18.cell? ⟨bD, 4, none⟩ = some (.int .i64 d.store) := (cell_of_row _ _ _ _ _ _ Dh18.out).trans rfl
          have cD5 : w18.cell? ⟨bD, 5, none⟩ = some (.string d.prev) := (cell_of_row _ _ _ _ _ _ Dh18.out).trans rfl
          have cD6 : w18.cell? ⟨bD, 6, none⟩ = some (.int .i64 d.e) := (cell_of_row _ _ _ _ _ _ Dh18.out).trans rfl
          have cD7 : w18.cell? ⟨bD, 7, none⟩ = some (.int .i64 d.s) := (cell_of_row _ _ _ _ _ _ Dh18.out).trans rfl
          have cP0 : w18.cell? ⟨bP, 0, none⟩ = some (.int .i64 p.office) := (cell_of_row _ _ _ _ _ _ Ph18.out).trans rfl
          have cP1 : w18.cell? ⟨bP, 1, none⟩ = some (.int .i64 p.since) := (cell_of_row _ _ _ _ _ _ Ph18.out).trans rfl
          have cP2 : w18.cell? ⟨bP, 2, none⟩ = some (.int .i64 p.till) := (cell_of_row _ _ _ _ _ _ Ph18.out).trans rfl
          have cP3 : w18.cell? ⟨bP, 3, none⟩ = some (.int .i64 p.litres) := (cell_of_row _ _ _ _ _ _ Ph18.out).trans rfl
          have cP4 : w18.cell? ⟨bP, 4, none⟩ = some (.int .i64 p.e) := (cell_of_row _ _ _ _ _ _ Ph18.out).trans rfl
          have cP5 : w18.cell? ⟨bP, 5, none⟩ = some (.int .i64 p.s) := (cell_of_row _ _ _ _ _ _ Ph18.out).trans rfl
          have cQ0 : w18.cell? ⟨bQ, 0, none⟩ = some (.int .i64 q.office) := (cell_of_row _ _ _ _ _ _ Qh18.out).trans rfl
          have cQ1 : w18.cell? ⟨bQ, 1, none⟩ = some (.int .i64 q.since) := (cell_of_row _ _ _ _ _ _ Qh18.out).trans rfl
          have cQ2 : w18.cell? ⟨bQ, 2, none⟩ = some (.int .i64 q.till) := (cell_of_row _ _ _ _ _ _ Qh18.out).trans rfl
          have cQ3 : w18.cell? ⟨bQ, 3, none⟩ = some (.int .i64 q.litres) := (cell_of_row _ _ _ _ _ _ Qh18.out).trans rfl
          have cQ4 : w18.cell? ⟨bQ, 4, none⟩ = some (.int .i64 q.e) := (cell_of_row _ _ _ _ _ _ Qh18.out).trans rfl
          have cQ5 : w18.cell? ⟨bQ, 5, none⟩ = some (.int .i64 q.s) := (cell_of_row _ _ _ _ _ _ Qh18.out).trans rfl
          have cX0 : w18.cell? ⟨bX, 0, none⟩ = some (.int .i64 c.office) := (cell_of_row _ _ _ _ _ _ Xh18.out).trans rfl
          have cX1 : w18.cell? ⟨bX, 1, none⟩ = some (.int .i64 c.hour) := (cell_of_row _ _ _ _ _ _ Xh18.out).trans rfl
          have cX2 : w18.cell? ⟨bX, 2, none⟩ = some (.int .i64 c.inn) := (cell_of_row _ _ _ _ _ _ Xh18.out).trans rfl
          have cX3 : w18.cell? ⟨bX, 3, none⟩ = some (.int .i64 c.out) := (cell_of_row _ _ _ _ _ _ Xh18.out).trans rfl
          have cX4 : w18.cell? ⟨bX, 4, none⟩ = some (.int .i64 c.store) := (cell_of_row _ _ _ _ _ _ Xh18.out).trans rfl
          have cX5 : w18.cell? ⟨bX, 5, none⟩ = some (.string c.prev) := (cell_of_row _ _ _ _ _ _ Xh18.out).trans rfl
          have cX6 : w18.cell? ⟨bX, 6, none⟩ = some (.int .i64 c.e) := (cell_of_row _ _ _ _ _ _ Xh18.out).trans rfl
          have cX7 : w18.cell? ⟨bX, 7, none⟩ = some (.int .i64 c.s) := (cell_of_row _ _ _ _ _ _ Xh18.out).trans rfl
          have cY0 : w18.cell? ⟨bY, 0, none⟩ = some (.int .i64 p.office) := (cell_of_row _ _ _ _ _ _ Yh18.out).trans rfl
          have cY1 : w18.cell? ⟨bY, 1, none⟩ = some (.int .i64 p.since) := (cell_of_row _ _ _ _ _ _ Yh18.out).trans rfl
          have cY2 : w18.cell? ⟨bY, 2, none⟩ = some (.int .i64 p.till) := (cell_of_row _ _ _ _ _ _ Yh18.out).trans rfl
          have cY3 : w18.cell? ⟨bY, 3, none⟩ = some (.int .i64 p.litres) := (cell_of_row _ _ _ _ _ _ Yh18.out).trans rfl
          have cY4 : w18.cell? ⟨bY, 4, none⟩ = some (.int .i64 p.e) := (cell_of_row _ _ _ _ _ _ Yh18.out).trans rfl
          have cY5 : w18.cell? ⟨bY, 5, none⟩ = some (.int .i64 p.s) := (cell_of_row _ _ _ _ _ _ Yh18.out).trans rfl
          have cZ0 : w18.cell? ⟨bZ, 0, none⟩ = some (.int .i64 z.office) := (cell_of_row _ _ _ _ _ _ Zh18.out).trans rfl
          have cZ1 : w18.cell? ⟨bZ, 1, none⟩ = some (.int .i64 z.hour) := (cell_of_row _ _ _ _ _ _ Zh18.out).trans rfl
          have cZ2 : w18.cell? ⟨bZ, 2, none⟩ = some (.int .i64 z.inn) := (cell_of_row _ _ _ _ _ _ Zh18.out).trans rfl
          have cZ3 : w18.cell? ⟨bZ, 3, none⟩ = some (.int .i64 z.out) := (cell_of_row _ _ _ _ _ _ Zh18.out).trans rfl
          have cZ4 : w18.cell? ⟨bZ, 4, none⟩ = some (.int .i64 z.store) := (cell_of_row _ _ _ _ _ _ Zh18.out).trans rfl
          have cZ5 : w18.cell? ⟨bZ, 5, none⟩ = some (.string z.prev) := (cell_of_row _ _ _ _ _ _ Zh18.out).trans rfl
          have cZ6 : w18.cell? ⟨bZ, 6, none⟩ = some (.int .i64 z.e) := (cell_of_row _ _ _ _ _ _ Zh18.out).trans rfl
          have cZ7 : w18.cell? ⟨bZ, 7, none⟩ = some (.int .i64 z.s) := (cell_of_row _ _ _ _ _ _ Zh18.out).trans rfl
          have cU0 : w18.cell? ⟨bU, 0, none⟩ = some (.int .i64 u.office) := (cell_of_row _ _ _ _ _ _ Uh18.out).trans rfl
          have cU1 : w18.cell? ⟨bU, 1, none⟩ = some (.int .i64 u.since) := (cell_of_row _ _ _ _ _ _ Uh18.out).trans rfl
          have cU2 : w18.cell? ⟨bU, 2, none⟩ = some (.int .i64 u.till) := (cell_of_row _ _ _ _ _ _ Uh18.out).trans rfl
          have cU3 : w18.cell? ⟨bU, 3, none⟩ = some (.int .i64 u.litres) := (cell_of_row _ _ _ _ _ _ Uh18.out).trans rfl
          have cU4 : w18.cell? ⟨bU, 4, none⟩ = some (.int .i64 u.e) := (cell_of_row _ _ _ _ _ _ Uh18.out).trans rfl
          have cU5 : w18.cell? ⟨bU, 5, none⟩ = some (.int .i64 u.s) := (cell_of_row _ _ _ _ _ _ Uh18.out).trans rfl
          go_wp2_with fail
          go_ret
          exact ⟨rfl, HB18.out⟩
      | false =>
        cases hfo : four with
        | true =>
          have hpk := HF.out.pback hfo
          go_wp2_with fail
          refine (HF.out.pby u oku _).mono ?_
          rintro e w18 ⟨rfl, hb⟩
          have HB18 := Lib.hid (HB17.out.trans (hb.mono HB17.out.size))
          have Ch18 := Lib.hid (blk_below Ch17.out hb (blk_lt Ch17.out))
          have Dh18 := Lib.hid (blk_below Dh17.out hb (blk_lt Dh17.out))
          have Ph18 := Lib.hid (blk_below Ph17.out hb (blk_lt Ph17.out))
          have Qh18 := Lib.hid (blk_below Qh17.out hb (blk_lt Qh17.out))
          have Xh18 := Lib.hid (blk_below Xh17.out hb (blk_lt Xh17.out))
          have Yh18 := Lib.hid (blk_below Yh17.out hb (blk_lt Yh17.out))
          have Zh18 := Lib.hid (blk_below Zh17.out hb (blk_lt Zh17.out))
          have Uh18 := Lib.hid (blk_below Uh17.out hb (blk_lt Uh17.out))
          clear cC0 cC1 cC2 cC3 cC4 cC5 cC6 cC7 cD0 cD1 cD2 cD3 cD4 cD5 cD6 cD7 cP0 cP1 cP2 cP3 cP4 cP5 cQ0 cQ1 cQ2 cQ3 cQ4 cQ5 cX0 cX1 cX2 cX3 cX4 cX5 cX6 cX7 cY0 cY1 cY2 cY3 cY4 cY5 cZ0 cZ1 cZ2 cZ3 cZ4 cZ5 cZ6 cZ7 cU0 cU1 cU2 cU3 cU4 cU5
          clear HB17 Ch17 Dh17 Ph17 Qh17 Xh17 Yh17 Zh17 Uh17
          clear hb
          have cC0 : w18.cell? ⟨w.heap.size, 0, none⟩ = some (.int .i64 c.office) := (cell_of_row _ _ _ _ _ _ Ch18.out).trans rfl
          have cC1 : w18.cell? ⟨w.heap.size, 1, none⟩ = some (.int .i64 c.hour) := (cell_of_row _ _ _ _ _ _ Ch18.out).trans rfl
          have cC2 : w18.cell? ⟨w.heap.size, 2, none⟩ = some (.int .i64 c.inn) := (cell_of_row _ _ _ _ _ _ Ch18.out).trans rfl
          have cC3 : w18.cell? ⟨w.heap.size, 3, none⟩ = some (.int .i64 c.out) := (cell_of_row _ _ _ _ _ _ Ch18.out).trans rfl
          have cC4 : w18.cell? ⟨w.heap.size, 4, none⟩ = some (.int .i64 c.store) := (cell_of_row _ _ _ _ _ _ Ch18.out).trans rfl
          have cC5 : w18.cell? ⟨w.heap.size, 5, none⟩ = some (.string c.prev) := (cell_of_row _ _ _ _ _ _ Ch18.out).trans rfl
          have cC6 : w18.cell? ⟨w.heap.size, 6, none⟩ = some (.int .i64 c.e) := (cell_of_row _ _ _ _ _ _ Ch18.out).trans rfl
          have cC7 : w18.cell? ⟨w.heap.size, 7, none⟩ = some (.int .i64 c.s) := (cell_of_row _ _ _ _ _ _ Ch18.out).trans rfl
          have cD0 : w18.cell? ⟨bD, 0, none⟩ = some (.int .i64 d.office) := (cell_of_row _ _ _ _ _ _ Dh18.out).trans rfl
          have cD1 : w18.cell? ⟨bD, 1, none⟩ = some (.int .i64 d.hour) := (cell_of_row _ _ _ _ _ _ Dh18.out).trans rfl
          have cD2 : w18.cell? ⟨bD, 2, none⟩ = some (.int .i64 d.inn) := (cell_of_row _ _ _ _ _ _ Dh18.out).trans rfl
          have cD3 : w18.cell? ⟨bD, 3, none⟩ = some (.int .i64 d.out) := (cell_of_row _ _ _ _ _ _ Dh18.out).trans rfl
          have cD4 : w18.cell? ⟨bD, 4, none⟩ = some (.int .i64 d.store) := (cell_of_row _ _ _ _ _ _ Dh18.out).trans rfl
          have cD5 : w18.cell? ⟨bD, 5, none⟩ = some (.string d.prev) := (cell_of_row _ _ _ _ _ _ Dh18.out).trans rfl
          have cD6 : w18.cell? ⟨bD, 6, none⟩ = some (.int .i64 d.e) := (cell_of_row _ _ _ _ _ _ Dh18.out).trans rfl
          have cD7 : w18.cell? ⟨bD, 7, none⟩ = some (.int .i64 d.s) := (cell_of_row _ _ _ _ _ _ Dh18.out).trans rfl
          have cP0 : w18.cell? ⟨bP, 0, none⟩ = some (.int .i64 p.office) := (cell_of_row _ _ _ _ _ _ Ph18.out).trans rfl
          have cP1 : w18.cell? ⟨bP, 1, none⟩ = some (.int .i64 p.since) := (cell_of_row _ _ _ _ _ _ Ph18.out).trans rfl
          have cP2 : w18.cell? ⟨bP, 2, none⟩ = some (.int .i64 p.till) := (cell_of_row _ _ _ _ _ _ Ph18.out).trans rfl
          have cP3 : w18.cell? ⟨bP, 3, none⟩ = some (.int .i64 p.litres) := (cell_of_row _ _ _ _ _ _ Ph18.out).trans rfl
          have cP4 : w18.cell? ⟨bP, 4, none⟩ = some (.int .i64 p.e) := (cell_of_row _ _ _ _ _ _ Ph18.out).trans rfl
          have cP5 : w18.cell? ⟨bP, 5, none⟩ = some (.int .i64 p.s) := (cell_of_row _ _ _ _ _ _ Ph18.out).trans rfl
          have cQ0 : w18.cell? ⟨bQ, 0, none⟩ = some (.int .i64 q.office) := (cell_of_row _ _ _ _ _ _ Qh18.out).trans rfl
          have cQ1 : w18.cell? ⟨bQ, 1, none⟩ = some (.int .i64 q.since) := (cell_of_row _ _ _ _ _ _ Qh18.out).trans rfl
          have cQ2 : w18.cell? ⟨bQ, 2, none⟩ = some (.int .i64 q.till) := (cell_of_row _ _ _ _ _ _ Qh18.out).trans rfl
          have cQ3 : w18.cell? ⟨bQ, 3, none⟩ = some (.int .i64 q.litres) := (cell_of_row _ _ _ _ _ _ Qh18.out).trans rfl
          have cQ4 : w18.cell? ⟨bQ, 4, none⟩ = some (.int .i64 q.e) := (cell_of_row _ _ _ _ _ _ Qh18.out).trans rfl
          have cQ5 : w18.cell? ⟨bQ, 5, none⟩ = some (.int .i64 q.s) := (cell_of_row _ _ _ _ _ _ Qh18.out).trans rfl
          have cX0 : w18.cell? ⟨bX, 0, none⟩ = some (.int .i64 c.office) := (cell_of_row _ _ _ _ _ _ Xh18.out).trans rfl
          have cX1 : w18.cell? ⟨bX, 1, none⟩ = some (.int .i64 c.hour) := (cell_of_row _ _ _ _ _ _ Xh18.out).trans rfl
          have cX2 : w18.cell? ⟨bX, 2, none⟩ = some (.int .i64 c.inn) := (cell_of_row _ _ _ _ _ _ Xh18.out).trans rfl
          have cX3 : w18.cell? ⟨bX, 3, none⟩ = some (.int .i64 c.out) := (cell_of_row _ _ _ _ _ _ Xh18.out).trans rfl
          have cX4 : w18.cell? ⟨bX, 4, none⟩ = some (.int .i64 c.store) := (cell_of_row _ _ _ _ _ _ Xh18.out).trans rfl
          have cX5 : w18.cell? ⟨bX, 5, none⟩ = some (.string c.prev) := (cell_of_row _ _ _ _ _ _ Xh18.out).trans rfl
          have cX6 : w18.cell? ⟨bX, 6, none⟩ = some (.int .i64 c.e) := (cell_of_row _ _ _ _ _ _ Xh18.out).trans rfl
          have cX7 : w18.cell? ⟨bX, 7, none⟩ = some (.int .i64 c.s) := (cell_of_row _ _ _ _ _ _ Xh18.out).trans rfl
          have cY0 : w18.cell? ⟨bY, 0, none⟩ = some (.int .i64 p.office) := (cell_of_row _ _ _ _ _ _ Yh18.out).trans rfl
          have cY1 : w18.cell? ⟨bY, 1, none⟩ = some (.int .i64 p.since) := (cell_of_row _ _ _ _ _ _ Yh18.out).trans rfl
          have cY2 : w18.cell? ⟨bY, 2, none⟩ = some (.int .i64 p.till) := (cell_of_row _ _ _ _ _ _ Yh18.out).trans rfl
          have cY3 : w18.cell? ⟨bY, 3, none⟩ = some (.int .i64 p.litres) := (cell_of_row _ _ _ _ _ _ Yh18.out).trans rfl
          have cY4 : w18.cell? ⟨bY, 4, none⟩ = some (.int .i64 p.e) := (cell_of_row _ _ _ _ _ _ Yh18.out).trans rfl
          have cY5 : w18.cell? ⟨bY, 5, none⟩ = some (.int .i64 p.s) := (cell_of_row _ _ _ _ _ _ Yh18.out).trans rfl
          have cZ0 : w18.cell? ⟨bZ, 0, none⟩ = some (.int .i64 z.office) := (cell_of_row _ _ _ _ _ _ Zh18.out).trans rfl
          have cZ1 : w18.cell? ⟨bZ, 1, none⟩ = some (.int .i64 z.hour) := (cell_of_row _ _ _ _ _ _ Zh18.out).trans rfl
          have cZ2 : w18.cell? ⟨bZ, 2, none⟩ = some (.int .i64 z.inn) := (cell_of_row _ _ _ _ _ _ Zh18.out).trans rfl
          have cZ3 : w18.cell? ⟨bZ, 3, none⟩ = some (.int .i64 z.out) := (cell_of_row _ _ _ _ _ _ Zh18.out).trans rfl
          have cZ4 : w18.cell? ⟨bZ, 4, none⟩ = some (.int .i64 z.store) := (cell_of_row _ _ _ _ _ _ Zh18.out).trans rfl
          have cZ5 : w18.cell? ⟨bZ, 5, none⟩ = some (.string z.prev) := (cell_of_row _ _ _ _ _ _ Zh18.out).trans rfl
          have cZ6 : w18.cell? ⟨bZ, 6, none⟩ = some (.int .i64 z.e) := (cell_of_row _ _ _ _ _ _ Zh18.out).trans rfl
          have cZ7 : w18.cell? ⟨bZ, 7, none⟩ = some (.int .i64 z.s) := (cell_of_row _ _ _ _ _ _ Zh18.out).trans rfl
          have cU0 : w18.cell? ⟨bU, 0, none⟩ = some (.int .i64 u.office) := (cell_of_row _ _ _ _ _ _ Uh18.out).trans rfl
          have cU1 : w18.cell? ⟨bU, 1, none⟩ = some (.int .i64 u.since) := (cell_of_row _ _ _ _ _ _ Uh18.out).trans rfl
          have cU2 : w18.cell? ⟨bU, 2, none⟩ = some (.int .i64 u.till) := (cell_of_row _ _ _ _ _ _ Uh18.out).trans rfl
          have cU3 : w18.cell? ⟨bU, 3, none⟩ = some (.int .i64 u.litres) := (cell_of_row _ _ _ _ _ _ Uh18.out).trans rfl
          have cU4 : w18.cell? ⟨bU, 4, none⟩ = some (.int .i64 u.e) := (cell_of_row _ _ _ _ _ _ Uh18.out).trans rfl
          have cU5 : w18.cell? ⟨bU, 5, none⟩ = some (.int .i64 u.s) := (cell_of_row _ _ _ _ _ _ Uh18.out).trans rfl
          go_wp2_with fail
          go_ret
          exact ⟨rfl, HB18.out⟩
        | false =>
          go_wp2_with fail
          go_ret
          exact ⟨rfl, HB17.out⟩
    · clear hc hd hp hq hcm hdm hsh
      go_enter Tryd.func3, Tryd.ntmps3
      go_upto_region 1 with fail
      obtain ⟨r0, r1, r2, r3, rb⟩ := four_rows (w := w) (A := (.cells #[.int .i64 c.office, .int .i64 c.hour, .int .i64 c.inn, .int .i64 c.out, .int .i64 c.store, .string c.prev, .int .i64 c.e, .int .i64 c.s] 25)) (B := (.cells #[.int .i64 d.office, .int .i64 d.hour, .int .i64 d.inn, .int .i64 d.out, .int .i64 d.store, .string d.prev, .int .i64 d.e, .int .i64 d.s] 25)) (C := (.cells #[.int .i64 p.office, .int .i64 p.since, .int .i64 p.till, .int .i64 p.litres, .int .i64 p.e, .int .i64 p.s] 27)) (D := (.cells #[.int .i64 q.office, .int .i64 q.since, .int .i64 q.till, .int .i64 q.litres, .int .i64 q.e, .int .i64 q.s] 27))
      have Ch1 := Lib.hid r0
      have Dh1 := Lib.hid r1
      have Ph1 := Lib.hid r2
      have Qh1 := Lib.hid r3
      have HB1 := Lib.hid rb
      clear r0 r1 r2 r3 rb
      generalize ((((w.alloc (.cells #[.int .i64 c.office, .int .i64 c.hour, .int .i64 c.inn, .int .i64 c.out, .int .i64 c.store, .string c.prev, .int .i64 c.e, .int .i64 c.s] 25)).alloc (.cells #[.int .i64 d.office, .int .i64 d.hour, .int .i64 d.inn, .int .i64 d.out, .int .i64 d.store, .string d.prev, .int .i64 d.e, .int .i64 d.s] 25)).alloc (.cells #[.int .i64 p.office, .int .i64 p.since, .int .i64 p.till, .int .i64 p.litres, .int .i64 p.e, .int .i64 p.s] 27)).alloc (.cells #[.int .i64 q.office, .int .i64 q.since, .int .i64 q.till, .int .i64 q.litres, .int .i64 q.e, .int .i64 q.s] 27)) = w1 at *
      generalize w.heap.size + 1 + 1 + 1 = bQ at *
      generalize w.heap.size + 1 + 1 = bP at *
      generalize w.heap.size + 1 = bD at *
      go_wp2_with fail
      refine (small_any _ (HG.out.below HB1.out HG.out.size) (HM.out.up HB1.out)).mono ?_
      rintro e w2 ⟨rfl, hb⟩
      have HB2 := Lib.hid (HB1.out.trans (hb.mono HB1.out.size))
      have Ch2 := Lib.hid (blk_below Ch1.out hb (blk_lt Ch1.out))
      have Dh2 := Lib.hid (blk_below Dh1.out hb (blk_lt Dh1.out))
      have Ph2 := Lib.hid (blk_below Ph1.out hb (blk_lt Ph1.out))
      have Qh2 := Lib.hid (blk_below Qh1.out hb (blk_lt Qh1.out))
      clear HB1 Ch1 Dh1 Ph1 Qh1
      clear hb
      have cC0 : w2.cell? ⟨w.heap.size, 0, none⟩ = some (.int .i64 c.office) := (cell_of_row _ _ _ _ _ _ Ch2.out).trans rfl
      have cC1 : w2.cell? ⟨w.heap.size, 1, none⟩ = some (.int .i64 c.hour) := (cell_of_row _ _ _ _ _ _ Ch2.out).trans rfl
      have cC2 : w2.cell? ⟨w.heap.size, 2, none⟩ = some (.int .i64 c.inn) := (cell_of_row _ _ _ _ _ _ Ch2.out).trans rfl
      have cC3 : w2.cell? ⟨w.heap.size, 3, none⟩ = some (.int .i64 c.out) := (cell_of_row _ _ _ _ _ _ Ch2.out).trans rfl
      have cC4 : w2.cell? ⟨w.heap.size, 4, none⟩ = some (.int .i64 c.store) := (cell_of_row _ _ _ _ _ _ Ch2.out).trans rfl
      have cC5 : w2.cell? ⟨w.heap.size, 5, none⟩ = some (.string c.prev) := (cell_of_row _ _ _ _ _ _ Ch2.out).trans rfl
      have cC6 : w2.cell? ⟨w.heap.size, 6, none⟩ = some (.int .i64 c.e) := (cell_of_row _ _ _ _ _ _ Ch2.out).trans rfl
      have cC7 : w2.cell? ⟨w.heap.size, 7, none⟩ = some (.int .i64 c.s) := (cell_of_row _ _ _ _ _ _ Ch2.out).trans rfl
      have cD0 : w2.cell? ⟨bD, 0, none⟩ = some (.int .i64 d.office) := (cell_of_row _ _ _ _ _ _ Dh2.out).trans rfl
      have cD1 : w2.cell? ⟨bD, 1, none⟩ = some (.int .i64 d.hour) := (cell_of_row _ _ _ _ _ _ Dh2.out).trans rfl
      have cD2 : w2.cell? ⟨bD, 2, none⟩ = some (.int .i64 d.inn) := (cell_of_row _ _ _ _ _ _ Dh2.out).trans rfl
      have cD3 : w2.cell? ⟨bD, 3, none⟩ = some (.int .i64 d.out) := (cell_of_row _ _ _ _ _ _ Dh2.out).trans rfl
      have cD4 : w2.cell? ⟨bD, 4, none⟩ = some (.int .i64 d.store) := (cell_of_row _ _ _ _ _ _ Dh2.out).trans rfl
      have cD5 : w2.cell? ⟨bD, 5, none⟩ = some (.string d.prev) := (cell_of_row _ _ _ _ _ _ Dh2.out).trans rfl
      have cD6 : w2.cell? ⟨bD, 6, none⟩ = some (.int .i64 d.e) := (cell_of_row _ _ _ _ _ _ Dh2.out).trans rfl
      have cD7 : w2.cell? ⟨bD, 7, none⟩ = some (.int .i64 d.s) := (cell_of_row _ _ _ _ _ _ Dh2.out).trans rfl
      have cP0 : w2.cell? ⟨bP, 0, none⟩ = some (.int .i64 p.office) := (cell_of_row _ _ _ _ _ _ Ph2.out).trans rfl
      have cP1 : w2.cell? ⟨bP, 1, none⟩ = some (.int .i64 p.since) := (cell_of_row _ _ _ _ _ _ Ph2.out).trans rfl
      have cP2 : w2.cell? ⟨bP, 2, none⟩ = some (.int .i64 p.till) := (cell_of_row _ _ _ _ _ _ Ph2.out).trans rfl
      have cP3 : w2.cell? ⟨bP, 3, none⟩ = some (.int .i64 p.litres) := (cell_of_row _ _ _ _ _ _ Ph2.out).trans rfl
      have cP4 : w2.cell? ⟨bP, 4, none⟩ = some (.int .i64 p.e) := (cell_of_row _ _ _ _ _ _ Ph2.out).trans rfl
      have cP5 : w2.cell? ⟨bP, 5, none⟩ = some (.int .i64 p.s) := (cell_of_row _ _ _ _ _ _ Ph2.out).trans rfl
      have cQ0 : w2.cell? ⟨bQ, 0, none⟩ = some (.int .i64 q.office) := (cell_of_row _ _ _ _ _ _ Qh2.out).trans rfl
      have cQ1 : w2.cell? ⟨bQ, 1, none⟩ = some (.int .i64 q.since) := (cell_of_row _ _ _ _ _ _ Qh2.out).trans rfl
      have cQ2 : w2.cell? ⟨bQ, 2, none⟩ = some (.int .i64 q.till) := (cell_of_row _ _ _ _ _ _ Qh2.out).trans rfl
      have cQ3 : w2.cell? ⟨bQ, 3, none⟩ = some (.int .i64 q.litres) := (cell_of_row _ _ _ _ _ _ Qh2.out).trans rfl
      have cQ4 : w2.cell? ⟨bQ, 4, none⟩ = some (.int .i64 q.e) := (cell_of_row _ _ _ _ _ _ Qh2.out).trans rfl
      have cQ5 : w2.cell? ⟨bQ, 5, none⟩ = some (.int .i64 q.s) := (cell_of_row _ _ _ _ _ _ Qh2.out).trans rfl
      go_wp2_with fail
      refine (HSh.out _ _ (heap_alloc_new _ _)).mono ?_
      rintro e w3 ⟨rfl, rfl⟩
      have hb : Below w2.heap.size w2 (w2.alloc (.cells #[.int .i64 c.office, .int .i64 c.hour, .int .i64 c.inn, .int .i64 c.out, .int .i64 c.store, .string c.prev, .int .i64 c.e, .int .i64 c.s, .int .i64 d.office, .int .i64 d.hour, .int .i64 d.inn, .int .i64 d.out, .int .i64 d.store, .string d.prev, .int .i64 d.e, .int .i64 d.s] 25)) := (Below.refl _ _).alloc (Nat.le_refl _) _
      have HB3 := Lib.hid (HB2.out.trans (hb.mono HB2.out.size))
      have Ch3 := Lib.hid (blk_below Ch2.out hb (blk_lt Ch2.out))
      have Dh3 := Lib.hid (blk_below Dh2.out hb (blk_lt Dh2.out))
      have Ph3 := Lib.hid (blk_below Ph2.out hb (blk_lt Ph2.out))
      have Qh3 := Lib.hid (blk_below Qh2.out hb (blk_lt Qh2.out))
      clear cC0 cC1 cC2 cC3 cC4 cC5 cC6 cC7 cD0 cD1 cD2 cD3 cD4 cD5 cD6 cD7 cP0 cP1 cP2 cP3 cP4 cP5 cQ0 cQ1 cQ2 cQ3 cQ4 cQ5
      clear HB2 Ch2 Dh2 Ph2 Qh2
      clear hb
      generalize w2.alloc (.cells #[.int .i64 c.office, .int .i64 c.hour, .int .i64 c.inn, .int .i64 c.out, .int .i64 c.store, .string c.prev, .int .i64 c.e, .int .i64 c.s, .int .i64 d.office, .int .i64 d.hour, .int .i64 d.inn, .int .i64 d.out, .int .i64 d.store, .string d.prev, .int .i64 d.e, .int .i64 d.s] 25) = w3 at *
      have cC0 : w3.cell? ⟨w.heap.size, 0, none⟩ = some (.int .i64 c.office) := (cell_of_row _ _ _ _ _ _ Ch3.out).trans rfl
      have cC1 : w3.cell? ⟨w.heap.size, 1, none⟩ = some (.int .i64 c.hour) := (cell_of_row _ _ _ _ _ _ Ch3.out).trans rfl
      have cC2 : w3.cell? ⟨w.heap.size, 2, none⟩ = some (.int .i64 c.inn) := (cell_of_row _ _ _ _ _ _ Ch3.out).trans rfl
      have cC3 : w3.cell? ⟨w.heap.size, 3, none⟩ = some (.int .i64 c.out) := (cell_of_row _ _ _ _ _ _ Ch3.out).trans rfl
      have cC4 : w3.cell? ⟨w.heap.size, 4, none⟩ = some (.int .i64 c.store) := (cell_of_row _ _ _ _ _ _ Ch3.out).trans rfl
      have cC5 : w3.cell? ⟨w.heap.size, 5, none⟩ = some (.string c.prev) := (cell_of_row _ _ _ _ _ _ Ch3.out).trans rfl
      have cC6 : w3.cell? ⟨w.heap.size, 6, none⟩ = some (.int .i64 c.e) := (cell_of_row _ _ _ _ _ _ Ch3.out).trans rfl
      have cC7 : w3.cell? ⟨w.heap.size, 7, none⟩ = some (.int .i64 c.s) := (cell_of_row _ _ _ _ _ _ Ch3.out).trans rfl
      have cD0 : w3.cell? ⟨bD, 0, none⟩ = some (.int .i64 d.office) := (cell_of_row _ _ _ _ _ _ Dh3.out).trans rfl
      have cD1 : w3.cell? ⟨bD, 1, none⟩ = some (.int .i64 d.hour) := (cell_of_row _ _ _ _ _ _ Dh3.out).trans rfl
      have cD2 : w3.cell? ⟨bD, 2, none⟩ = some (.int .i64 d.inn) := (cell_of_row _ _ _ _ _ _ Dh3.out).trans rfl
      have cD3 : w3.cell? ⟨bD, 3, none⟩ = some (.int .i64 d.out) := (cell_of_row _ _ _ _ _ _ Dh3.out).trans rfl
      have cD4 : w3.cell? ⟨bD, 4, none⟩ = some (.int .i64 d.store) := (cell_of_row _ _ _ _ _ _ Dh3.out).trans rfl
      have cD5 : w3.cell? ⟨bD, 5, none⟩ = some (.string d.prev) := (cell_of_row _ _ _ _ _ _ Dh3.out).trans rfl
      have cD6 : w3.cell? ⟨bD, 6, none⟩ = some (.int .i64 d.e) := (cell_of_row _ _ _ _ _ _ Dh3.out).trans rfl
      have cD7 : w3.cell? ⟨bD, 7, none⟩ = some (.int .i64 d.s) := (cell_of_row _ _ _ _ _ _ Dh3.out).trans rfl
      have cP0 : w3.cell? ⟨bP, 0, none⟩ = some (.int .i64 p.office) := (cell_of_row _ _ _ _ _ _ Ph3.out).trans rfl
      have cP1 : w3.cell? ⟨bP, 1, none⟩ = some (.int .i64 p.since) := (cell_of_row _ _ _ _ _ _ Ph3.out).trans rfl
      have cP2 : w3.cell? ⟨bP, 2, none⟩ = some (.int .i64 p.till) := (cell_of_row _ _ _ _ _ _ Ph3.out).trans rfl
      have cP3 : w3.cell? ⟨bP, 3, none⟩ = some (.int .i64 p.litres) := (cell_of_row _ _ _ _ _ _ Ph3.out).trans rfl
      have cP4 : w3.cell? ⟨bP, 4, none⟩ = some (.int .i64 p.e) := (cell_of_row _ _ _ _ _ _ Ph3.out).trans rfl
      have cP5 : w3.cell? ⟨bP, 5, none⟩ = some (.int .i64 p.s) := (cell_of_row _ _ _ _ _ _ Ph3.out).trans rfl
      have cQ0 : w3.cell? ⟨bQ, 0, none⟩ = some (.int .i64 q.office) := (cell_of_row _ _ _ _ _ _ Qh3.out).trans rfl
      have cQ1 : w3.cell? ⟨bQ, 1, none⟩ = some (.int .i64 q.since) := (cell_of_row _ _ _ _ _ _ Qh3.out).trans rfl
      have cQ2 : w3.cell? ⟨bQ, 2, none⟩ = some (.int .i64 q.till) := (cell_of_row _ _ _ _ _ _ Qh3.out).trans rfl
      have cQ3 : w3.cell? ⟨bQ, 3, none⟩ = some (.int .i64 q.litres) := (cell_of_row _ _ _ _ _ _ Qh3.out).trans rfl
      have cQ4 : w3.cell? ⟨bQ, 4, none⟩ = some (.int .i64 q.e) := (cell_of_row _ _ _ _ _ _ Qh3.out).trans rfl
      have cQ5 : w3.cell? ⟨bQ, 5, none⟩ = some (.int .i64 q.s) := (cell_of_row _ _ _ _ _ _ Qh3.out).trans rfl
      go_wp2_with fail
      go_ret
      exact ⟨rfl, HB3.out⟩
  | false =>
    rw [hsh] at HSh
    clear hc hd hp hq hcm hdm hsh hsm
    go_enter Tryd.func3, Tryd.ntmps3
    go_upto_region 1 with fail
    obtain ⟨r0, r1, r2, r3, rb⟩ := four_rows (w := w) (A := (.cells #[.int .i64 c.office, .int .i64 c.hour, .int .i64 c.inn, .int .i64 c.out, .int .i64 c.store, .string c.prev, .int .i64 c.e, .int .i64 c.s] 25)) (B := (.cells #[.int .i64 d.office, .int .i64 d.hour, .int .i64 d.inn, .int .i64 d.out, .int .i64 d.store, .string d.prev, .int .i64 d.e, .int .i64 d.s] 25)) (C := (.cells #[.int .i64 p.office, .int .i64 p.since, .int .i64 p.till, .int .i64 p.litres, .int .i64 p.e, .int .i64 p.s] 27)) (D := (.cells #[.int .i64 q.office, .int .i64 q.since, .int .i64 q.till, .int .i64 q.litres, .int .i64 q.e, .int .i64 q.s] 27))
    have Ch1 := Lib.hid r0
    have Dh1 := Lib.hid r1
    have Ph1 := Lib.hid r2
    have Qh1 := Lib.hid r3
    have HB1 := Lib.hid rb
    clear r0 r1 r2 r3 rb
    generalize ((((w.alloc (.cells #[.int .i64 c.office, .int .i64 c.hour, .int .i64 c.inn, .int .i64 c.out, .int .i64 c.store, .string c.prev, .int .i64 c.e, .int .i64 c.s] 25)).alloc (.cells #[.int .i64 d.office, .int .i64 d.hour, .int .i64 d.inn, .int .i64 d.out, .int .i64 d.store, .string d.prev, .int .i64 d.e, .int .i64 d.s] 25)).alloc (.cells #[.int .i64 p.office, .int .i64 p.since, .int .i64 p.till, .int .i64 p.litres, .int .i64 p.e, .int .i64 p.s] 27)).alloc (.cells #[.int .i64 q.office, .int .i64 q.since, .int .i64 q.till, .int .i64 q.litres, .int .i64 q.e, .int .i64 q.s] 27)) = w1 at *
    generalize w.heap.size + 1 + 1 + 1 = bQ at *
    generalize w.heap.size + 1 + 1 = bP at *
    generalize w.heap.size + 1 = bD at *
    go_wp2_with fail
    refine (small_any _ (HG.out.below HB1.out HG.out.size) (HM.out.up HB1.out)).mono ?_
    rintro e w2 ⟨rfl, hb⟩
    have HB2 := Lib.hid (HB1.out.trans (hb.mono HB1.out.size))
    have Ch2 := Lib.hid (blk_below Ch1.out hb (blk_lt Ch1.out))
    have Dh2 := Lib.hid (blk_below Dh1.out hb (blk_lt Dh1.out))
    have Ph2 := Lib.hid (blk_below Ph1.out hb (blk_lt Ph1.out))
    have Qh2 := Lib.hid (blk_below Qh1.out hb (blk_lt Qh1.out))
    clear HB1 Ch1 Dh1 Ph1 Qh1
    clear hb
    have cC0 : w2.cell? ⟨w.heap.size, 0, none⟩ = some (.int .i64 c.office) := (cell_of_row _ _ _ _ _ _ Ch2.out).trans rfl
    have cC1 : w2.cell? ⟨w.heap.size, 1, none⟩ = some (.int .i64 c.hour) := (cell_of_row _ _ _ _ _ _ Ch2.out).trans rfl
    have cC2 : w2.cell? ⟨w.heap.size, 2, none⟩ = some (.int .i64 c.inn) := (cell_of_row _ _ _ _ _ _ Ch2.out).trans rfl
    have cC3 : w2.cell? ⟨w.heap.size, 3, none⟩ = some (.int .i64 c.out) := (cell_of_row _ _ _ _ _ _ Ch2.out).trans rfl
    have cC4 : w2.cell? ⟨w.heap.size, 4, none⟩ = some (.int .i64 c.store) := (cell_of_row _ _ _ _ _ _ Ch2.out).trans rfl
    have cC5 : w2.cell? ⟨w.heap.size, 5, none⟩ = some (.string c.prev) := (cell_of_row _ _ _ _ _ _ Ch2.out).trans rfl
    have cC6 : w2.cell? ⟨w.heap.size, 6, none⟩ = some (.int .i64 c.e) := (cell_of_row _ _ _ _ _ _ Ch2.out).trans rfl
    have cC7 : w2.cell? ⟨w.heap.size, 7, none⟩ = some (.int .i64 c.s) := (cell_of_row _ _ _ _ _ _ Ch2.out).trans rfl
    have cD0 : w2.cell? ⟨bD, 0, none⟩ = some (.int .i64 d.office) := (cell_of_row _ _ _ _ _ _ Dh2.out).trans rfl
    have cD1 : w2.cell? ⟨bD, 1, none⟩ = some (.int .i64 d.hour) := (cell_of_row _ _ _ _ _ _ Dh2.out).trans rfl
    have cD2 : w2.cell? ⟨bD, 2, none⟩ = some (.int .i64 d.inn) := (cell_of_row _ _ _ _ _ _ Dh2.out).trans rfl
    have cD3 : w2.cell? ⟨bD, 3, none⟩ = some (.int .i64 d.out) := (cell_of_row _ _ _ _ _ _ Dh2.out).trans rfl
    have cD4 : w2.cell? ⟨bD, 4, none⟩ = some (.int .i64 d.store) := (cell_of_row _ _ _ _ _ _ Dh2.out).trans rfl
    have cD5 : w2.cell? ⟨bD, 5, none⟩ = some (.string d.prev) := (cell_of_row _ _ _ _ _ _ Dh2.out).trans rfl
    have cD6 : w2.cell? ⟨bD, 6, none⟩ = some (.int .i64 d.e) := (cell_of_row _ _ _ _ _ _ Dh2.out).trans rfl
    have cD7 : w2.cell? ⟨bD, 7, none⟩ = some (.int .i64 d.s) := (cell_of_row _ _ _ _ _ _ Dh2.out).trans rfl
    have cP0 : w2.cell? ⟨bP, 0, none⟩ = some (.int .i64 p.office) := (cell_of_row _ _ _ _ _ _ Ph2.out).trans rfl
    have cP1 : w2.cell? ⟨bP, 1, none⟩ = some (.int .i64 p.since) := (cell_of_row _ _ _ _ _ _ Ph2.out).trans rfl
    have cP2 : w2.cell? ⟨bP, 2, none⟩ = some (.int .i64 p.till) := (cell_of_row _ _ _ _ _ _ Ph2.out).trans rfl
    have cP3 : w2.cell? ⟨bP, 3, none⟩ = some (.int .i64 p.litres) := (cell_of_row _ _ _ _ _ _ Ph2.out).trans rfl
    have cP4 : w2.cell? ⟨bP, 4, none⟩ = some (.int .i64 p.e) := (cell_of_row _ _ _ _ _ _ Ph2.out).trans rfl
    have cP5 : w2.cell? ⟨bP, 5, none⟩ = some (.int .i64 p.s) := (cell_of_row _ _ _ _ _ _ Ph2.out).trans rfl
    have cQ0 : w2.cell? ⟨bQ, 0, none⟩ = some (.int .i64 q.office) := (cell_of_row _ _ _ _ _ _ Qh2.out).trans rfl
    have cQ1 : w2.cell? ⟨bQ, 1, none⟩ = some (.int .i64 q.since) := (cell_of_row _ _ _ _ _ _ Qh2.out).trans rfl
    have cQ2 : w2.cell? ⟨bQ, 2, none⟩ = some (.int .i64 q.till) := (cell_of_row _ _ _ _ _ _ Qh2.out).trans rfl
    have cQ3 : w2.cell? ⟨bQ, 3, none⟩ = some (.int .i64 q.litres) := (cell_of_row _ _ _ _ _ _ Qh2.out).trans rfl
    have cQ4 : w2.cell? ⟨bQ, 4, none⟩ = some (.int .i64 q.e) := (cell_of_row _ _ _ _ _ _ Qh2.out).trans rfl
    have cQ5 : w2.cell? ⟨bQ, 5, none⟩ = some (.int .i64 q.s) := (cell_of_row _ _ _ _ _ _ Qh2.out).trans rfl
    go_wp2_with fail
    refine (HSh.out _ _ (heap_alloc_new _ _)).mono ?_
    rintro e w3 ⟨rfl, rfl⟩
    have hb : Below w2.heap.size w2 (w2.alloc (.cells #[.int .i64 c.office, .int .i64 c.hour, .int .i64 c.inn, .int .i64 c.out, .int .i64 c.store, .string c.prev, .int .i64 c.e, .int .i64 c.s, .int .i64 d.office, .int .i64 d.hour, .int .i64 d.inn, .int .i64 d.out, .int .i64 d.store, .string d.prev, .int .i64 d.e, .int .i64 d.s] 25)) := (Below.refl _ _).alloc (Nat.le_refl _) _
    have HB3 := Lib.hid (HB2.out.trans (hb.mono HB2.out.size))
    have Ch3 := Lib.hid (blk_below Ch2.out hb (blk_lt Ch2.out))
    have Dh3 := Lib.hid (blk_below Dh2.out hb (blk_lt Dh2.out))
    have Ph3 := Lib.hid (blk_below Ph2.out hb (blk_lt Ph2.out))
    have Qh3 := Lib.hid (blk_below Qh2.out hb (blk_lt Qh2.out))
    clear cC0 cC1 cC2 cC3 cC4 cC5 cC6 cC7 cD0 cD1 cD2 cD3 cD4 cD5 cD6 cD7 cP0 cP1 cP2 cP3 cP4 cP5 cQ0 cQ1 cQ2 cQ3 cQ4 cQ5
    clear HB2 Ch2 Dh2 Ph2 Qh2
    clear hb
    generalize w2.alloc (.cells #[.int .i64 c.office, .int .i64 c.hour, .int .i64 c.inn, .int .i64 c.out, .int .i64 c.store, .string c.prev, .int .i64 c.e, .int .i64 c.s, .int .i64 d.office, .int .i64 d.hour, .int .i64 d.inn, .int .i64 d.out, .int .i64 d.store, .string d.prev, .int .i64 d.e, .int .i64 d.s] 25) = w3 at *
    have cC0 : w3.cell? ⟨w.heap.size, 0, none⟩ = some (.int .i64 c.office) := (cell_of_row _ _ _ _ _ _ Ch3.out).trans rfl
    have cC1 : w3.cell? ⟨w.heap.size, 1, none⟩ = some (.int .i64 c.hour) := (cell_of_row _ _ _ _ _ _ Ch3.out).trans rfl
    have cC2 : w3.cell? ⟨w.heap.size, 2, none⟩ = some (.int .i64 c.inn) := (cell_of_row _ _ _ _ _ _ Ch3.out).trans rfl
    have cC3 : w3.cell? ⟨w.heap.size, 3, none⟩ = some (.int .i64 c.out) := (cell_of_row _ _ _ _ _ _ Ch3.out).trans rfl
    have cC4 : w3.cell? ⟨w.heap.size, 4, none⟩ = some (.int .i64 c.store) := (cell_of_row _ _ _ _ _ _ Ch3.out).trans rfl
    have cC5 : w3.cell? ⟨w.heap.size, 5, none⟩ = some (.string c.prev) := (cell_of_row _ _ _ _ _ _ Ch3.out).trans rfl
    have cC6 : w3.cell? ⟨w.heap.size, 6, none⟩ = some (.int .i64 c.e) := (cell_of_row _ _ _ _ _ _ Ch3.out).trans rfl
    have cC7 : w3.cell? ⟨w.heap.size, 7, none⟩ = some (.int .i64 c.s) := (cell_of_row _ _ _ _ _ _ Ch3.out).trans rfl
    have cD0 : w3.cell? ⟨bD, 0, none⟩ = some (.int .i64 d.office) := (cell_of_row _ _ _ _ _ _ Dh3.out).trans rfl
    have cD1 : w3.cell? ⟨bD, 1, none⟩ = some (.int .i64 d.hour) := (cell_of_row _ _ _ _ _ _ Dh3.out).trans rfl
    have cD2 : w3.cell? ⟨bD, 2, none⟩ = some (.int .i64 d.inn) := (cell_of_row _ _ _ _ _ _ Dh3.out).trans rfl
    have cD3 : w3.cell? ⟨bD, 3, none⟩ = some (.int .i64 d.out) := (cell_of_row _ _ _ _ _ _ Dh3.out).trans rfl
    have cD4 : w3.cell? ⟨bD, 4, none⟩ = some (.int .i64 d.store) := (cell_of_row _ _ _ _ _ _ Dh3.out).trans rfl
    have cD5 : w3.cell? ⟨bD, 5, none⟩ = some (.string d.prev) := (cell_of_row _ _ _ _ _ _ Dh3.out).trans rfl
    have cD6 : w3.cell? ⟨bD, 6, none⟩ = some (.int .i64 d.e) := (cell_of_row _ _ _ _ _ _ Dh3.out).trans rfl
    have cD7 : w3.cell? ⟨bD, 7, none⟩ = some (.int .i64 d.s) := (cell_of_row _ _ _ _ _ _ Dh3.out).trans rfl
    have cP0 : w3.cell? ⟨bP, 0, none⟩ = some (.int .i64 p.office) := (cell_of_row _ _ _ _ _ _ Ph3.out).trans rfl
    have cP1 : w3.cell? ⟨bP, 1, none⟩ = some (.int .i64 p.since) := (cell_of_row _ _ _ _ _ _ Ph3.out).trans rfl
    have cP2 : w3.cell? ⟨bP, 2, none⟩ = some (.int .i64 p.till) := (cell_of_row _ _ _ _ _ _ Ph3.out).trans rfl
    have cP3 : w3.cell? ⟨bP, 3, none⟩ = some (.int .i64 p.litres) := (cell_of_row _ _ _ _ _ _ Ph3.out).trans rfl
    have cP4 : w3.cell? ⟨bP, 4, none⟩ = some (.int .i64 p.e) := (cell_of_row _ _ _ _ _ _ Ph3.out).trans rfl
    have cP5 : w3.cell? ⟨bP, 5, none⟩ = some (.int .i64 p.s) := (cell_of_row _ _ _ _ _ _ Ph3.out).trans rfl
    have cQ0 : w3.cell? ⟨bQ, 0, none⟩ = some (.int .i64 q.office) := (cell_of_row _ _ _ _ _ _ Qh3.out).trans rfl
    have cQ1 : w3.cell? ⟨bQ, 1, none⟩ = some (.int .i64 q.since) := (cell_of_row _ _ _ _ _ _ Qh3.out).trans rfl
    have cQ2 : w3.cell? ⟨bQ, 2, none⟩ = some (.int .i64 q.till) := (cell_of_row _ _ _ _ _ _ Qh3.out).trans rfl
    have cQ3 : w3.cell? ⟨bQ, 3, none⟩ = some (.int .i64 q.litres) := (cell_of_row _ _ _ _ _ _ Qh3.out).trans rfl
    have cQ4 : w3.cell? ⟨bQ, 4, none⟩ = some (.int .i64 q.e) := (cell_of_row _ _ _ _ _ _ Qh3.out).trans rfl
    have cQ5 : w3.cell? ⟨bQ, 5, none⟩ = some (.int .i64 q.s) := (cell_of_row _ _ _ _ _ _ Qh3.out).trans rfl
    go_wp2_with fail
    go_ret
    exact ⟨rfl, HB3.out⟩
end Go.Proofs.YtgjklfddoechpaaDoor
