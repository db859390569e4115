/- Texts merged: AHours AForkL -/
import Derived.Test.YtjbjpkhibcnenaaGreatDoorAMap
/- audit.byHour: the public data that count, by hour. -/
namespace Go.Proofs.YtjbjpkhibcnenaaGreatDoor
open Go.RowKit Go.Maps
theorem undMB : Tryz.prog.underlying 122 = some (.map 3 4) := by kernel_rfl
theorem undMP : Tryz.prog.underlying 90 = some (.map 3 55) := by kernel_rfl
theorem zeroB (w : World) : (zeroValue 4).run Tryz.prog w = .ok (.bool false) w := by kernel_rfl
def zPb : Value := .agg #[.int .i64 0, .slice none 0 0, .int .i64 0, .int .i64 0]
theorem zeroPb (w : World) : (zeroValue 55).run Tryz.prog w = .ok zPb w := by kernel_rfl
abbrev QV := PublicV × Value
def pbV (q : QV) : Value := .agg #[.int .i64 q.1.hour, q.2, .int .i64 q.1.mouth.lo, .int .i64 q.1.mouth.hi]
def seenF (zs : List QV) (h : Int) : Option Value := (zs.find? (fun q => decide (q.1.hour = h))).map fun _ => .bool true
def hoursV (zs : List QV) (h : Int) : Option Value :=
  match zs.find? (fun q => decide (q.1.hour = h)) with
  | some q => if rightPb q.1 = true then some (pbV q) else none
  | none => none
theorem find_snoc {α : Type} {zs : List α} {k : Nat} {q : α} (h : zs[k]? = some q) (P : α → Bool) : (zs.take (k + 1)).find? P = match (zs.take k).find? P with | some y => some y | none => if P q = true then some q else none := by
  rw [List.take_add_one, h, List.find?_append]
  cases (zs.take k).find? P with
  | some y => rfl
  | none =>
    by_cases hP : P q = true
    · simp [hP]
    · simp [hP]
theorem seen_old {zs : List QV} {k : Nat} {q : QV} (h : zs[k]? = some q) (hs : (seenF (zs.take k) q.1.hour).isSome = true) : seenF (zs.take (k + 1)) = seenF (zs.take k) ∧ hoursV (zs.take (k + 1)) = hoursV (zs.take k) := by
  have key : ∀ t, (zs.take (k + 1)).find? (fun q => decide (q.1.hour = t)) = (zs.take k).find? (fun q => decide (q.1.hour = t)) := fun t => by
    rw [find_snoc h]
    cases hf : (zs.take k).find? (fun q => decide (q.1.hour = t)) with
    | some y => rfl
    | none =>
      by_cases e : q.1.hour = t
      · unfold seenF at hs
        rw [e, hf] at hs
        cases hs
      · simp [e]
  constructor
  · funext t; unfold seenF; rw [key t]
  · funext t; unfold hoursV; rw [key t]
theorem seen_new {zs : List QV} {k : Nat} {q : QV} (h : zs[k]? = some q) (hs : seenF (zs.take k) q.1.hour = none) :
    seenF (zs.take (k + 1)) = (fun s => if s = q.1.hour then some (.bool true) else seenF (zs.take k) s) ∧
    (rightPb q.1 = true → hoursV (zs.take (k + 1)) = fun s => if s = q.1.hour then some (pbV q) else hoursV (zs.take k) s) ∧
    (rightPb q.1 = false → hoursV (zs.take (k + 1)) = hoursV (zs.take k)) := by
  have h0 : (zs.take k).find? (fun p => decide (p.1.hour = q.1.hour)) = none := by
    unfold seenF at hs
    rw [Option.map_eq_none_iff] at hs
    exact hs
  refine ⟨?_, fun hr => ?_, fun hr => ?_⟩
  · funext s
    unfold seenF
    rw [find_snoc h]
    by_cases e : s = q.1.hour
    · subst e
      rw [h0]
      simp
    · rw [if_neg e]
      cases (zs.take k).find? (fun p => decide (p.1.hour = s)) with
      | some y => rfl
      | none => simp [show ¬ q.1.hour = s from fun e2 => e e2.symm]
  · funext s
    unfold hoursV
    rw [find_snoc h]
    by_cases e : s = q.1.hour
    · subst e
      rw [h0]
      simp [hr]
    · rw [if_neg e]
      cases (zs.take k).find? (fun p => decide (p.1.hour = s)) with
      | some y => rfl
      | none => simp [show ¬ q.1.hour = s from fun e2 => e e2.symm]
  · funext s
    unfold hoursV
    rw [find_snoc h]
    by_cases e : s = q.1.hour
    · subst e
      rw [h0]
      simp [hr]
    · cases (zs.take k).find? (fun p => decide (p.1.hour = s)) with
      | some y => rfl
      | none => simp [show ¬ q.1.hour = s from fun e2 => e e2.symm]
/-- the public data, with the values of their nets -/
def QsAt (zs : List QV) (a : Option Addr) (w : World) : Prop :=
  ∀ (j : Nat) (q : QV), zs[j]? = some q → ∃ b o, a = some ⟨b, o, none⟩ ∧ b < w.heap.size ∧ w.rangeAt b (o + j * 4) [.int .i64 q.1.hour, q.2, .int .i64 q.1.mouth.lo, .int .i64 q.1.mouth.hi] ∧ I64 q.1.hour ∧ SpI q.1.mouth ∧ LArg RSpan 2 q.2 q.1.net w
theorem zip_list {α β : Type} (P : Nat → α → β → Prop) : ∀ (l : List α) (i : Nat), (∀ j x, l[j]? = some x → ∃ y, P (i + j) x y) → ∃ zs : List (α × β), zs.map (·.1) = l ∧ ∀ j q, zs[j]? = some q → P (i + j) q.1 q.2
  | [], _, _ => ⟨[], rfl, fun j q h => by simp at h⟩
  | x :: l, i, h => by
    obtain ⟨y, hy⟩ := h 0 x rfl
    obtain ⟨zs, h1, h2⟩ := zip_list P l (i + 1) (fun j z hz => by
      obtain ⟨u, hu⟩ := h (j + 1) z hz
      exact ⟨u, by rw [show i + 1 + j = i + (j + 1) by omega]; exact hu⟩)
    refine ⟨(x, y) :: zs, by simp [h1], fun j q hq => ?_⟩
    cases j with
    | zero => cases hq; exact hy
    | succ j =>
      have := h2 j q hq
      rw [show i + 1 + j = i + (j + 1) by omega] at this
      exact this
theorem qs_of {pubs : List PublicV} {a : Option Addr} {n c : Nat} {w : World} (h : LArg RPublic 4 (.slice a n c) pubs w) : ∃ zs : List QV, zs.map (·.1) = pubs ∧ QsAt zs a w := by
  obtain ⟨zs, h1, h2⟩ := zip_list (fun (j : Nat) (p : PublicV) (v : Value) => ∃ b o, a = some ⟨b, o, none⟩ ∧ b < w.heap.size ∧ w.rangeAt b (o + j * 4) [.int .i64 p.hour, v, .int .i64 p.mouth.lo, .int .i64 p.mouth.hi] ∧ I64 p.hour ∧ SpI p.mouth ∧ LArg RSpan 2 v p.net w) pubs 0 (fun j p hp => by
    obtain ⟨b, o, cs, h1, h2, h3, h4, v, rfl, h5, h6, h7, h8⟩ := h.at hp
    rw [Nat.zero_add]
    exact ⟨v, b, o, h1, h2, h4, h5, ⟨h6, h7⟩, h8⟩)
  refine ⟨zs, h1, fun j q hq => ?_⟩
  have := h2 j q hq
  rw [Nat.zero_add] at this
  exact this
/-- the map of the public data that count -/
def HoursAt (mb : Nat) (pubs : List PublicV) (w : World) : Prop :=
  ∃ (vs : List Value) (n : Nat) (f : Int → Option Value), MapF zPb vs w mb n f ∧ ∀ h, match hoursF pubs h with
    | none => f h = none
    | some p => ∃ v, f h = some (pbV (p, v)) ∧ LArg RSpan 2 v p.net w
theorem HoursAt.below {mb : Nat} {pubs : List PublicV} {w w' : World} (h : HoursAt mb pubs w) (hb : Below w.heap.size w w') : HoursAt mb pubs w' := by
  obtain ⟨vs, n, f, h1, h2⟩ := h
  refine ⟨vs, n, f, h1.below hb, fun t => ?_⟩
  have := h2 t
  cases e : hoursF pubs t with
  | none => rw [e] at this; exact this
  | some p =>
    rw [e] at this
    obtain ⟨v, h3, h4⟩ := this
    exact ⟨v, h3, h4.below stays_Span hb⟩
theorem HoursAt.look {mb : Nat} {pubs : List PublicV} {w : World} (h : HoursAt mb pubs w) {t : Int} (ht : I64 t) :
    match hoursF pubs t with
    | none => (Instr.lookup 90 (.map (some mb)) (.int .i64 t) true).run Tryz.prog w = .ok (.tuple #[zPb, .bool false]) w
    | some p => ∃ v, (Instr.lookup 90 (.map (some mb)) (.int .i64 t) true).run Tryz.prog w = .ok (.tuple #[pbV (p, v), .bool true]) w ∧ LArg RSpan 2 v p.net w := by
  obtain ⟨vs, n, f, h1, h2⟩ := h
  have h3 := h1.look_ok undMP (zeroPb w) ht
  have := h2 t
  cases e : hoursF pubs t with
  | none =>
    rw [e] at this
    rw [this] at h3
    exact h3
  | some p =>
    rw [e] at this
    obtain ⟨v, h4, h5⟩ := this
    rw [h4] at h3
    exact ⟨v, h3, h5⟩
theorem hours_made {zs : List QV} {pubs : List PublicV} (h : zs.map (·.1) = pubs) (t : Int) : match hoursF pubs t with
    | none => hoursV zs t = none
    | some p => ∃ q ∈ zs, q.1 = p ∧ hoursV zs t = some (pbV q) := by
  subst h
  have key : (zs.map (·.1)).find? (fun p => decide (p.hour = t)) = (zs.find? (fun q => decide (q.1.hour = t))).map (·.1) := by
    induction zs with
    | nil => rfl
    | cons q zs ih =>
      by_cases e : q.1.hour = t
      · simp [e]
      · simp only [List.map_cons, List.find?_cons, e, decide_false]
        exact ih
  unfold hoursF hoursV
  rw [key]
  cases hf : zs.find? (fun q => decide (q.1.hour = t)) with
  | none => rfl
  | some q =>
    simp only [Option.map_some]
    by_cases hr : rightPb q.1 = true
    · rw [if_pos hr]
      exact ⟨q, List.mem_of_find?_eq_some hf, rfl, by rw [if_pos hr]⟩
    · rw [if_neg hr]
      simp only
      rw [if_neg hr]
/-- what a round holds -/
structure BY (w : World) (zs : List QV) (bE sb mb n : Nat) (fs fh : Int → Option Value) (q : QV) (c : World) : Prop where
  row : c.heap[bE]? = some (.cells #[.int .i64 q.1.hour, q.2, .int .i64 q.1.mouth.lo, .int .i64 q.1.mouth.hi] 55 (0, 0))
  seen : MapF (.bool false) [.bool true] c sb n fs
  hours : MapF zPb (zs.map pbV) c mb n fh
  below : Below w.heap.size w c
theorem BY.step {w c c' : World} {zs : List QV} {bE sb mb n : Nat} {fs fh : Int → Option Value} {q : QV} (h : BY w zs bE sb mb n fs fh q c) (hb : Below c.heap.size c c') : BY w zs bE sb mb n fs fh q c' :=
  ⟨blk_below h.row hb (blk_lt h.row), h.seen.below hb, h.hours.below hb, h.below.trans (hb.mono h.below.size)⟩
end Go.Proofs.YtjbjpkhibcnenaaGreatDoor
/- audit.Find: the plain law of fork. -/
namespace Go.Proofs.YtjbjpkhibcnenaaGreatDoor
def firstF (L : List CV) (h : Int) : Option CV := L.find? (fun c => decide (c.hour = h))
def splitF (L : List CV) (h : Int) : Option CV :=
  match firstF L h with
  | some f => L.find? (fun c => decide (c.hour = h) && decide (c ≠ f))
  | none => none
def forkF (L : List CV) : Option (CV × CV) := L.findSome? (fun c => (splitF L c.hour).map fun d => (c, d))
theorem firstF_new {L : List CV} {k : Nat} {c : CV} (hc : L[k]? = some c) (h : firstF (L.take k) c.hour = none) :
    (firstF (L.take (k + 1)) = fun s => if s = c.hour then some c else firstF (L.take k) s) ∧ splitF (L.take (k + 1)) = splitF (L.take k) := by
  have h1 : firstF (L.take (k + 1)) = fun s => if s = c.hour then some c else firstF (L.take k) s := by
    funext s
    unfold firstF at h ⊢
    rw [find_snoc hc]
    by_cases e : s = c.hour
    · subst e
      rw [h]
      simp
    · rw [if_neg e]
      cases (L.take k).find? (fun c => decide (c.hour = s)) with
      | some y => rfl
      | none => simp [show ¬ c.hour = s from fun e2 => e e2.symm]
  refine ⟨h1, ?_⟩
  funext s
  unfold splitF
  rw [h1]
  dsimp only
  by_cases e : s = c.hour
  · subst e
    rw [if_pos rfl, h]
    simp only
    rw [find_snoc hc]
    have : (L.take k).find? (fun d => decide (d.hour = c.hour) && decide (d ≠ c)) = none := by
      rw [List.find?_eq_none]
      intro d hd hh
      unfold firstF at h
      rw [List.find?_eq_none] at h
      exact h d hd (by simp at hh; simp [hh.1])
    rw [this]
    simp
  · rw [if_neg e]
    cases firstF (L.take k) s with
    | none => rfl
    | some f =>
      simp only
      rw [find_snoc hc]
      cases (L.take k).find? (fun d => decide (d.hour = s) && decide (d ≠ f)) with
      | some y => rfl
      | none => simp [show ¬ c.hour = s from fun e2 => e e2.symm]
theorem firstF_old {L : List CV} {k : Nat} {c f : CV} (hc : L[k]? = some c) (h : firstF (L.take k) c.hour = some f) :
    firstF (L.take (k + 1)) = firstF (L.take k) ∧
    ((splitF (L.take k) c.hour = none ∧ c ≠ f) → splitF (L.take (k + 1)) = fun s => if s = c.hour then some c else splitF (L.take k) s) ∧
    (¬ (splitF (L.take k) c.hour = none ∧ c ≠ f) → splitF (L.take (k + 1)) = splitF (L.take k)) := by
  have h1 : firstF (L.take (k + 1)) = firstF (L.take k) := by
    funext s
    by_cases e : s = c.hour
    · subst e
      rw [h]
      unfold firstF at h ⊢
      rw [find_snoc hc, h]
    · unfold firstF
      rw [find_snoc hc]
      cases (L.take k).find? (fun c => decide (c.hour = s)) with
      | some y => rfl
      | none => simp [show ¬ c.hour = s from fun e2 => e e2.symm]
  have h2 : ∀ s, s ≠ c.hour → splitF (L.take (k + 1)) s = splitF (L.take k) s := fun s e => by
    unfold splitF
    rw [h1]
    cases firstF (L.take k) s with
    | none => rfl
    | some g =>
      simp only
      rw [find_snoc hc]
      cases (L.take k).find? (fun d => decide (d.hour = s) && decide (d ≠ g)) with
      | some y => rfl
      | none => simp [show ¬ c.hour = s from fun e2 => e e2.symm]
  have h3 : splitF (L.take (k + 1)) c.hour = match splitF (L.take k) c.hour with | some y => some y | none => if c ≠ f then some c else none := by
    unfold splitF
    rw [h1, h]
    simp only
    rw [find_snoc hc]
    cases (L.take k).find? (fun d => decide (d.hour = c.hour) && decide (d ≠ f)) with
    | some y => rfl
    | none => simp
  refine ⟨h1, fun ⟨e1, e2⟩ => ?_, fun hn => ?_⟩
  · funext s
    by_cases e : s = c.hour
    · subst e
      rw [if_pos rfl, h3, e1]
      simp [e2]
    · rw [if_neg e, h2 s e]
  · funext s
    by_cases e : s = c.hour
    · subst e
      rw [h3]
      cases hs : splitF (L.take k) c.hour with
      | some y => rfl
      | none =>
        have : c = f := Classical.byContradiction (fun e2 => hn ⟨hs, e2⟩)
        simp [this]
    · exact h2 s e
/-- an hour is split if and only if one of its claims has another one beside it -/
theorem splitF_none {L : List CV} {c : CV} (hc : c ∈ L) : splitF L c.hour = none ↔ ∀ d ∈ L, forkB c d = false := by
  cases hf : firstF L c.hour with
  | none =>
    unfold firstF at hf
    rw [List.find?_eq_none] at hf
    exact absurd (hf c hc) (by simp)
  | some f =>
    have hfm := List.mem_of_find?_eq_some hf
    have hfh : f.hour = c.hour := by have := List.find?_some hf; simpa using this
    unfold splitF
    rw [hf]
    simp only
    rw [List.find?_eq_none]
    constructor
    · intro h d hd
      have e1 : c = f := Classical.byContradiction (fun e => h c hc (by simp [e]))
      unfold forkB
      by_cases e : c.hour = d.hour
      · have e2 : d = f := Classical.byContradiction (fun e3 => h d hd (by simp [e, e3]))
        simp [e1, e2]
      · simp [e]
    · intro h d hd hh
      simp only [Bool.and_eq_true, decide_eq_true_eq] at hh
      have g1 := h f hfm
      have g2 := h d hd
      unfold forkB at g1 g2
      have e1 : c = f := Classical.byContradiction (fun e => by simp [hfh, e] at g1)
      have e2 : c = d := Classical.byContradiction (fun e => by simp [hh.1, e] at g2)
      exact hh.2 (e2.symm.trans e1)
theorem forkF_is (L : List CV) : forkF L = first2 forkB L L := by
  have key : ∀ (l1 l2 : List CV), L = l1 ++ l2 → (∀ c ∈ l1, ∀ d ∈ L, forkB c d = false) → l2.findSome? (fun c => (splitF L c.hour).map fun d => (c, d)) = l2.findSome? (fun c => (L.find? (forkB c)).map fun d => (c, d)) := by
    intro l1 l2
    induction l2 generalizing l1 with
    | nil => intro _ _; rfl
    | cons c l2 ih =>
      intro hL hno
      have hcm : c ∈ L := by rw [hL]; simp
      rw [List.findSome?_cons, List.findSome?_cons]
      cases hs : splitF L c.hour with
      | none =>
        have hn := (splitF_none hcm).1 hs
        have : L.find? (forkB c) = none := by
          rw [List.find?_eq_none]
          intro d hd
          rw [hn d hd]
          decide
        rw [this]
        simp only [Option.map_none]
        exact ih (l1 ++ [c]) (by rw [hL]; simp) (fun x hx d hd => by
          rcases List.mem_append.1 hx with hx | hx
          · exact hno x hx d hd
          · have : x = c := by simpa using hx
            rw [this]; exact hn d hd)
      | some d =>
        have hf : firstF L c.hour = some c := by
          cases hg : firstF L c.hour with
          | none =>
            unfold splitF at hs
            rw [hg] at hs
            cases hs
          | some f =>
            have hfh : f.hour = c.hour := by have := List.find?_some hg; simpa using this
            have hfm := List.mem_of_find?_eq_some hg
            by_cases e : f = c
            · rw [e]
            · exfalso
              -- f would stand ahead of c
              unfold firstF at hg
              rw [hL, List.find?_append] at hg
              cases h1 : l1.find? (fun x => decide (x.hour = c.hour)) with
              | some g =>
                rw [h1] at hg
                have : g = f := by simpa using hg
                subst this
                have := hno g (List.mem_of_find?_eq_some h1) c hcm
                unfold forkB at this
                simp [hfh, e] at this
              | none =>
                rw [h1, List.find?_cons_of_pos (by simp)] at hg
                exact e (by simpa using hg.symm)
        unfold splitF at hs
        rw [hf] at hs
        simp only at hs
        have : L.find? (forkB c) = some d := by
          rw [← hs]
          congr 1
          funext x
          unfold forkB
          by_cases e1 : c.hour = x.hour
          · by_cases e2 : c = x
            · simp [e2]
            · simp [e1, e2, show ¬ x = c from fun h => e2 h.symm]
          · simp [e1, show ¬ x.hour = c.hour from fun h => e1 h.symm]
        rw [this]
        rfl
  exact key [] L rfl (fun c hc => by simp at hc)
end Go.Proofs.YtjbjpkhibcnenaaGreatDoor
