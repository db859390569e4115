/- Package claim: claims and promises as plain values. No program in this text. -/
import Derived.Test.YtgjklfddoechpaaDoorWOps
import Derived.Test.YtgjklfddoechpaaDoorWValLaw
namespace Go.Proofs.YtgjklfddoechpaaDoor
/-- a claim -/
structure CV where
  office : Int
  hour : Int
  inn : Int
  out : Int
  store : Int
  prev : ByteArray
  e : Int
  s : Int
/-- a promise -/
structure PV where
  office : Int
  since : Int
  till : Int
  litres : Int
  e : Int
  s : Int
def zeroC : CV := ⟨0, 0, 0, 0, 0, ⟨#[]⟩, 0, 0⟩
def zeroP : PV := ⟨0, 0, 0, 0, 0, 0⟩
def COk (c : CV) : Prop := I64 c.office ∧ I64 c.hour ∧ I64 c.inn ∧ I64 c.out ∧ I64 c.store ∧ I64 c.e ∧ I64 c.s
def POk (p : PV) : Prop := I64 p.office ∧ I64 p.since ∧ I64 p.till ∧ I64 p.litres ∧ I64 p.e ∧ I64 p.s
theorem opInt_some {s : RSt} {n : Int} {r : List UInt8} (h : opInt s = (n, some r)) : ∃ s0, s = some s0 ∧ s0 = intL n ++ r := by
  cases s with
  | none => simp [opInt] at h
  | some s0 =>
    refine ⟨s0, rfl, ?_⟩
    unfold opInt at h
    simp only at h
    cases hr : rdInt s0 with
    | none => rw [hr] at h; simp at h
    | some p =>
      rw [hr] at h
      obtain ⟨m, r'⟩ := p
      simp only [Prod.mk.injEq, Option.some.injEq] at h
      rw [← h.1, ← h.2]
      exact (intL_rdInt hr).1
theorem opText_some {s : RSt} {n : List UInt8} {r : List UInt8} (h : opText s = (n, some r)) : ∃ s0, s = some s0 ∧ s0 = textL n ++ r := by
  cases s with
  | none => simp [opText] at h
  | some s0 =>
    refine ⟨s0, rfl, ?_⟩
    unfold opText at h
    simp only at h
    cases hr : rdText s0 with
    | none => rw [hr] at h; simp at h
    | some p =>
      rw [hr] at h
      obtain ⟨m, r'⟩ := p
      simp only [Prod.mk.injEq, Option.some.injEq] at h
      rw [← h.1, ← h.2]
      exact textL_rdText hr
def coreC (c : CV) : List UInt8 := intL c.office ++ (intL c.hour ++ (intL c.inn ++ (intL c.out ++ (intL c.store ++ (textC c.prev)))))
def bytesC (c : CV) : List UInt8 := coreC c ++ (intL c.e ++ intL c.s)
def callsC (s : RSt) : CV × RSt :=
  let x0 := opInt s
  let x1 := opInt x0.2
  let x2 := opInt x1.2
  let x3 := opInt x2.2
  let x4 := opInt x3.2
  let x5 := opText x4.2
  let x6 := opInt x5.2
  let x7 := opInt x6.2
  (⟨x0.1, x1.1, x2.1, x3.1, x4.1, ⟨x5.1.toArray⟩, x6.1, x7.1⟩, x7.2)
def readC (s : List UInt8) : CV × Bool := if doneOf (callsC (some s)).2 = true then ((callsC (some s)).1, true) else (zeroC, false)
theorem callsC_enc {c : CV} (h : COk c) (r : List UInt8) : callsC (some (bytesC c ++ r)) = (c, some r) := by
  obtain ⟨h_office, h_hour, h_inn, h_out, h_store, h_e, h_s⟩ := h
  have e1 : bytesC c ++ r = intL c.office ++ (intL c.hour ++ (intL c.inn ++ (intL c.out ++ (intL c.store ++ (textC c.prev ++ (intL c.e ++ (intL c.s ++ (r)))))))) := by simp [bytesC, coreC]
  unfold callsC
  rw [e1]
  rw [opInt_enc h_office]
  simp only
  rw [opInt_enc h_hour]
  simp only
  rw [opInt_enc h_inn]
  simp only
  rw [opInt_enc h_out]
  simp only
  rw [opInt_enc h_store]
  simp only
  unfold textC
  rw [opText_enc]
  simp only
  rw [opInt_enc h_e]
  simp only
  rw [opInt_enc h_s]
theorem readC_enc {c : CV} (h : COk c) : readC (bytesC c) = (c, true) := by
  unfold readC
  have e := callsC_enc h []
  rw [List.append_nil] at e
  rw [e]
  exact if_pos rfl
theorem readC_more {c : CV} (h : COk c) (x : UInt8) (r : List UInt8) : readC (bytesC c ++ (x :: r)) = (zeroC, false) := by
  unfold readC
  rw [callsC_enc h, if_neg (fun e => by simp [doneOf] at e)]
theorem bytesC_inj {c d : CV} (hc : COk c) (hd : COk d) : bytesC c = bytesC d ↔ c = d := by
  constructor
  · intro h
    have h1 := readC_enc hc
    rw [h, readC_enc hd] at h1
    exact (Prod.mk.inj h1).1.symm
  · intro h
    rw [h]
theorem readC_not {s : List UInt8} (h : (readC s).2 = false) : readC s = (zeroC, false) := by
  unfold readC at h ⊢
  split
  · next hc => rw [if_pos hc] at h; cases h
  · rfl
theorem rdInt_okC (s : RSt) : I64 (opInt s).1 := by
  cases s with
  | none => exact i64_0
  | some r => exact (ok_int r).2
theorem callsC_ok (s : RSt) : COk (callsC s).1 := ⟨rdInt_okC _, rdInt_okC _, rdInt_okC _, rdInt_okC _, rdInt_okC _, rdInt_okC _, rdInt_okC _⟩
theorem readC_ok (s : List UInt8) : COk (readC s).1 := by
  unfold readC
  split
  · exact callsC_ok _
  · exact ⟨i64_0, i64_0, i64_0, i64_0, i64_0, i64_0, i64_0⟩
theorem readC_back {s : List UInt8} {c : CV} (h : readC s = (c, true)) : bytesC c = s ∧ COk c := by
  refine ⟨?_, by have h2 := readC_ok s; rw [h] at h2; exact h2⟩
  unfold readC at h
  split at h
  · next h1 =>
    simp only [Prod.mk.injEq, and_true] at h
    subst h
    generalize he : callsC (some s) = q at *
    obtain ⟨g, st⟩ := q
    simp only [doneOf, beq_iff_eq] at h1
    subst h1
    unfold callsC at he
    simp only [Prod.mk.injEq] at he
    obtain ⟨hg, hst⟩ := he
    obtain ⟨s7, e7, f7⟩ := opInt_some (Prod.ext rfl hst)
    obtain ⟨s6, e6, f6⟩ := opInt_some (Prod.ext rfl e7)
    obtain ⟨s5, e5, f5⟩ := opText_some (Prod.ext rfl e6)
    obtain ⟨s4, e4, f4⟩ := opInt_some (Prod.ext rfl e5)
    obtain ⟨s3, e3, f3⟩ := opInt_some (Prod.ext rfl e4)
    obtain ⟨s2, e2, f2⟩ := opInt_some (Prod.ext rfl e3)
    obtain ⟨s1, e1, f1⟩ := opInt_some (Prod.ext rfl e2)
    obtain ⟨s0, e0, f0⟩ := opInt_some (Prod.ext rfl e1)
    cases e0
    rw [f0, f1, f2, f3, f4, f5, f6, f7, ← hg]
    simp [bytesC, coreC, textC]
  · cases h
theorem coreC_len {c : CV} (h : COk c) (hp : c.prev.size ≤ 1000) : (coreC c).length ≤ 2047 := by
  obtain ⟨h_office, h_hour, h_inn, h_out, h_store, h_e, h_s⟩ := h
  have l_office := intL_len h_office
  have l_hour := intL_len h_hour
  have l_inn := intL_len h_inn
  have l_out := intL_len h_out
  have l_store := intL_len h_store
  have l2 := textL_len c.prev.data.toList
  have l3 : c.prev.data.toList.length = c.prev.size := by simp
  simp [coreC, textC]
  omega
def coreP (c : PV) : List UInt8 := intL c.office ++ (intL c.since ++ (intL c.till ++ (intL c.litres)))
def bytesP (c : PV) : List UInt8 := coreP c ++ (intL c.e ++ intL c.s)
def callsP (s : RSt) : PV × RSt :=
  let x0 := opInt s
  let x1 := opInt x0.2
  let x2 := opInt x1.2
  let x3 := opInt x2.2
  let x4 := opInt x3.2
  let x5 := opInt x4.2
  (⟨x0.1, x1.1, x2.1, x3.1, x4.1, x5.1⟩, x5.2)
def readP (s : List UInt8) : PV × Bool := if doneOf (callsP (some s)).2 = true then ((callsP (some s)).1, true) else (zeroP, false)
theorem callsP_enc {c : PV} (h : POk c) (r : List UInt8) : callsP (some (bytesP c ++ r)) = (c, some r) := by
  obtain ⟨h_office, h_since, h_till, h_litres, h_e, h_s⟩ := h
  have e1 : bytesP c ++ r = intL c.office ++ (intL c.since ++ (intL c.till ++ (intL c.litres ++ (intL c.e ++ (intL c.s ++ (r)))))) := by simp [bytesP, coreP]
  unfold callsP
  rw [e1]
  rw [opInt_enc h_office]
  simp only
  rw [opInt_enc h_since]
  simp only
  rw [opInt_enc h_till]
  simp only
  rw [opInt_enc h_litres]
  simp only
  rw [opInt_enc h_e]
  simp only
  rw [opInt_enc h_s]
theorem readP_enc {c : PV} (h : POk c) : readP (bytesP c) = (c, true) := by
  unfold readP
  have e := callsP_enc h []
  rw [List.append_nil] at e
  rw [e]
  exact if_pos rfl
theorem readP_more {c : PV} (h : POk c) (x : UInt8) (r : List UInt8) : readP (bytesP c ++ (x :: r)) = (zeroP, false) := by
  unfold readP
  rw [callsP_enc h, if_neg (fun e => by simp [doneOf] at e)]
theorem bytesP_inj {c d : PV} (hc : POk c) (hd : POk d) : bytesP c = bytesP d ↔ c = d := by
  constructor
  · intro h
    have h1 := readP_enc hc
    rw [h, readP_enc hd] at h1
    exact (Prod.mk.inj h1).1.symm
  · intro h
    rw [h]
theorem readP_not {s : List UInt8} (h : (readP s).2 = false) : readP s = (zeroP, false) := by
  unfold readP at h ⊢
  split
  · next hc => rw [if_pos hc] at h; cases h
  · rfl
theorem rdInt_okP (s : RSt) : I64 (opInt s).1 := by
  cases s with
  | none => exact i64_0
  | some r => exact (ok_int r).2
theorem callsP_ok (s : RSt) : POk (callsP s).1 := ⟨rdInt_okP _, rdInt_okP _, rdInt_okP _, rdInt_okP _, rdInt_okP _, rdInt_okP _⟩
theorem readP_ok (s : List UInt8) : POk (readP s).1 := by
  unfold readP
  split
  · exact callsP_ok _
  · exact ⟨i64_0, i64_0, i64_0, i64_0, i64_0, i64_0⟩
theorem readP_back {s : List UInt8} {c : PV} (h : readP s = (c, true)) : bytesP c = s ∧ POk c := by
  refine ⟨?_, by have h2 := readP_ok s; rw [h] at h2; exact h2⟩
  unfold readP at h
  split at h
  · next h1 =>
    simp only [Prod.mk.injEq, and_true] at h
    subst h
    generalize he : callsP (some s) = q at *
    obtain ⟨g, st⟩ := q
    simp only [doneOf, beq_iff_eq] at h1
    subst h1
    unfold callsP at he
    simp only [Prod.mk.injEq] at he
    obtain ⟨hg, hst⟩ := he
    obtain ⟨s5, e5, f5⟩ := opInt_some (Prod.ext rfl hst)
    obtain ⟨s4, e4, f4⟩ := opInt_some (Prod.ext rfl e5)
    obtain ⟨s3, e3, f3⟩ := opInt_some (Prod.ext rfl e4)
    obtain ⟨s2, e2, f2⟩ := opInt_some (Prod.ext rfl e3)
    obtain ⟨s1, e1, f1⟩ := opInt_some (Prod.ext rfl e2)
    obtain ⟨s0, e0, f0⟩ := opInt_some (Prod.ext rfl e1)
    cases e0
    rw [f0, f1, f2, f3, f4, f5, ← hg]
    simp [bytesP, coreP]
  · cases h
theorem coreP_len {c : PV} (h : POk c) : (coreP c).length ≤ 36 := by
  obtain ⟨h_office, h_since, h_till, h_litres, h_e, h_s⟩ := h
  have l_office := intL_len h_office
  have l_since := intL_len h_since
  have l_till := intL_len h_till
  have l_litres := intL_len h_litres
  simp [coreP]
  omega
end Go.Proofs.YtgjklfddoechpaaDoor
