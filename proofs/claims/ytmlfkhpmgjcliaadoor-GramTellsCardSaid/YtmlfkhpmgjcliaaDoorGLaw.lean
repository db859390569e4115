/- Package gram: telegrams as plain values. No program in this text. -/
import Derived.Test.YtmlfkhpmgjcliaaDoorWOps
import Derived.Test.YtmlfkhpmgjcliaaDoorWValLaw
namespace Go.Proofs.YtmlfkhpmgjcliaaDoor
/-- a telegram -/
structure GV where
  gauge : Int
  seq : Int
  clock : Int
  value : Int
  tag : ByteArray
def zeroG : GV := ⟨0, 0, 0, 0, ⟨#[]⟩⟩
def GOk (g : GV) : Prop := I64 g.gauge ∧ I64 g.seq ∧ I64 g.clock ∧ I64 g.value
def Formed (g : GV) : Prop := 0 ≤ g.gauge ∧ g.gauge ≤ 127 ∧ 0 ≤ g.seq ∧ g.seq ≤ 1099511627776 ∧ 0 ≤ g.clock ∧ g.clock ≤ 1006633019 ∧ -1099511627776 ≤ g.value ∧ g.value ≤ 1099511627776 ∧ g.tag.size = 8
instance formedDec (g : GV) : Decidable (Formed g) := by unfold Formed; infer_instance
theorem Formed.ok {g : GV} (h : Formed g) : GOk g := by
  unfold Formed at h
  unfold GOk I64
  omega
def coreL (g : GV) : List UInt8 := intL g.gauge ++ (intL g.seq ++ (intL g.clock ++ intL g.value))
def gramL (g : GV) : List UInt8 := if Formed g then coreL g ++ textC g.tag else []
/-- the telegram that a reader's calls give, and what is left -/
def calls (s : RSt) : GV × RSt :=
  let a := opInt s
  let b := opInt a.2
  let c := opInt b.2
  let d := opInt c.2
  let t := opText d.2
  (⟨a.1, b.1, c.1, d.1, ⟨t.1.toArray⟩⟩, t.2)
def readG (s : List UInt8) : GV × Bool :=
  if doneOf (calls (some s)).2 = true ∧ Formed (calls (some s)).1 then ((calls (some s)).1, true) else (zeroG, false)
theorem calls_enc {g : GV} (h : GOk g) (r : List UInt8) : calls (some (coreL g ++ (textC g.tag ++ r))) = (g, some r) := by
  obtain ⟨h1, h2, h3, h4⟩ := h
  have e1 : coreL g ++ (textC g.tag ++ r) = intL g.gauge ++ (intL g.seq ++ (intL g.clock ++ (intL g.value ++ (textC g.tag ++ r)))) := by simp [coreL]
  unfold calls
  rw [e1, opInt_enc h1]
  simp only
  rw [opInt_enc h2]
  simp only
  rw [opInt_enc h3]
  simp only
  rw [opInt_enc h4]
  simp only
  unfold textC
  rw [opText_enc]
theorem read_enc {g : GV} (h : Formed g) : readG (gramL g) = (g, true) := by
  unfold readG gramL
  rw [if_pos h]
  have e := calls_enc h.ok []
  rw [List.append_nil] at e
  rw [e]
  exact if_pos ⟨rfl, h⟩
theorem read_more {g : GV} (h : Formed g) (c : UInt8) (r : List UInt8) : (readG (gramL g ++ (c :: r))).2 = false := by
  unfold readG gramL
  rw [if_pos h, List.append_assoc, calls_enc h.ok]
  rw [if_neg (fun e => by have := e.1; simp [doneOf] at this)]
theorem read_not {s : List UInt8} (h : (readG s).2 = false) : readG s = (zeroG, false) := by
  unfold readG at h ⊢
  split
  · next hc => rw [if_pos hc] at h; cases h
  · rfl
theorem opInt_some {s : RSt} {n : Int} {r : List UInt8} (h : opInt s = (n, some r)) : ∃ s0, s = some s0 ∧ s0 = intL n ++ r := by
  cases s with
  | none => simp [opInt] at h
  | some s0 =>
    refine ⟨s0, rfl, ?_⟩
    unfold opInt at h
    simp only at h
    cases hr : rdInt s0 with
    | none => rw [hr] at h; simp at h
    | some p =>
      rw [hr] at h
      obtain ⟨m, r'⟩ := p
      simp only [Prod.mk.injEq, Option.some.injEq] at h
      rw [← h.1, ← h.2]
      exact (intL_rdInt hr).1
theorem opText_some {s : RSt} {n : List UInt8} {r : List UInt8} (h : opText s = (n, some r)) : ∃ s0, s = some s0 ∧ s0 = textL n ++ r := by
  cases s with
  | none => simp [opText] at h
  | some s0 =>
    refine ⟨s0, rfl, ?_⟩
    unfold opText at h
    simp only at h
    cases hr : rdText s0 with
    | none => rw [hr] at h; simp at h
    | some p =>
      rw [hr] at h
      obtain ⟨m, r'⟩ := p
      simp only [Prod.mk.injEq, Option.some.injEq] at h
      rw [← h.1, ← h.2]
      exact textL_rdText hr
theorem read_back {s : List UInt8} {g : GV} (h : readG s = (g, true)) : gramL g = s ∧ Formed g := by
  unfold readG at h
  split at h
  · next hc =>
    simp only [Prod.mk.injEq, and_true] at h
    subst h
    obtain ⟨h1, h2⟩ := hc
    refine ⟨?_, h2⟩
    unfold gramL
    rw [if_pos h2]
    generalize he : calls (some s) = q at *
    obtain ⟨g, st⟩ := q
    simp only [doneOf, beq_iff_eq] at h1
    subst h1
    unfold calls at he
    simp only [Prod.mk.injEq] at he
    obtain ⟨hg, hst⟩ := he
    obtain ⟨s4, e4, f4⟩ := opText_some (Prod.ext rfl hst)
    obtain ⟨s3, e3, f3⟩ := opInt_some (Prod.ext rfl e4)
    obtain ⟨s2, e2, f2⟩ := opInt_some (Prod.ext rfl e3)
    obtain ⟨s1, e1, f1⟩ := opInt_some (Prod.ext rfl e2)
    obtain ⟨s0, e0, f0⟩ := opInt_some (Prod.ext rfl e1)
    cases e0
    rw [f0, f1, f2, f3, f4, ← hg]
    simp [coreL, textC]
  · cases h
theorem read_nil : (readG []).2 = false := by decide
theorem read_x : (readG [120]).2 = false := by decide
theorem gramL_nil {g : GV} : gramL g = [] ↔ ¬ Formed g := by
  unfold gramL
  split
  · next h =>
    constructor
    · intro e
      have := intL_len h.ok.1
      have e2 : (coreL g ++ textC g.tag).length = 0 := by rw [e]; rfl
      simp only [coreL, List.length_append] at e2
      omega
    · intro e; exact absurd h e
  · next h => simp [h]
theorem coreL_len {g : GV} (h : GOk g) : (coreL g).length ≤ 36 := by
  obtain ⟨h1, h2, h3, h4⟩ := h
  have := intL_len h1; have := intL_len h2; have := intL_len h3; have := intL_len h4
  simp [coreL]
  omega
theorem gramL_len (g : GV) : (gramL g).length ≤ 60 := by
  unfold gramL
  split
  · next h =>
    have h1 := coreL_len h.ok
    have h2 := textL_len g.tag.data.toList
    have h3 : g.tag.data.toList.length = g.tag.size := by simp
    have h4 := h.2.2.2.2.2.2.2.2
    rw [List.length_append]
    unfold textC
    omega
  · simp
end Go.Proofs.YtmlfkhpmgjcliaaDoor
