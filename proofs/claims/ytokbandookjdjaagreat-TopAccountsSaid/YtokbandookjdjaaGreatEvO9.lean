/- A symbolic evaluator of the model's code: its operations are right (all together). -/
import Derived.Test.YtokbandookjdjaaGreatEvO8
namespace Go.Proofs.YtokbandookjdjaaGreat.Ev
open Go
section
variable {P : Program} {o : Oper} {E : Emb} {w : World} {v : AV} {s s' : AS} {aa : List AV}
theorem cond_some {α : Type} {c : Bool} {a b : α} (h : (bif c then some a else none) = some b) : c = true ∧ a = b := by
  cases c with
  | false => cases h
  | true => cases h; exact ⟨rfl, rfl⟩
theorem blt_of {a b : Nat} (h : Nat.blt a b = true) : a < b := by
  unfold Nat.blt at h
  exact Nat.le_of_ble_eq_true h
theorem builtin_ok {b : Builtin} {args : Array Operand} {ts : Array TypeId} (hop : o.op = .call { callee := .builtin b, args, argTypes := ts }) (h : evBuiltin P s aa b args ts = some (v, s')) (ha : okL E aa = true) (hs : HSim E s.heap w) (hf : Fresh E s.next) : Good P o E aa s w v s' := by
  unfold evBuiltin at h
  split at h
  · next x t h1 h2 =>
    have e1 : args = #[x] := Array.ext' (by rw [h1])
    have e2 : ts = #[t] := Array.ext' (by rw [h2])
    subst e1 e2
    unfold evLen at h
    split at h
    · next hx =>
      split at h
      · next hu => cases h; exact good_lenSl hop hx hu hs hf
      · cases h
    · next hx =>
      split at h
      · next hu =>
        split at h
        · next hg => cases h; exact good_lenMap hop hx hu hg hs hf
        · cases h
      · cases h
    · cases h
  · next x t h1 h2 =>
    have e1 : args = #[x] := Array.ext' (by rw [h1])
    have e2 : ts = #[t] := Array.ext' (by rw [h2])
    subst e1 e2
    unfold evCap at h
    split at h
    · next hx hu => cases h; exact good_cap hop hx hu hs hf
    · cases h
  · next x y t u h1 h2 =>
    have e1 : args = #[x, y] := Array.ext' (by rw [h1])
    have e2 : ts = #[t, u] := Array.ext' (by rw [h2])
    subst e1 e2
    exact good_copy hop h ha hs hf
  · next x y t u h1 h2 =>
    have e1 : args = #[x, y] := Array.ext' (by rw [h1])
    have e2 : ts = #[t, u] := Array.ext' (by rw [h2])
    subst e1 e2
    unfold evAppend at h
    split at h
    · next hk => exact good_append hop hk h ha hs hf
    · next hk => exact good_grow hop hk h hs hf
    · cases h
  · cases h
theorem evOwn_ok (h : evOwn P s aa o.op = some (v, s')) (ha : okL E aa = true) (hs : HSim E s.heap w) (hf : Fresh E s.next) : Good P o E aa s w v s' := by
  unfold evOwn at h
  split at h
  · next x hop => cases h; exact good_move (Or.inl hop) ha hs hf
  · next x hop => cases h; exact good_move (Or.inr hop) ha hs hf
  · next c a b hop =>
    unfold evPick at h
    split at h
    · next hc => cases h; exact good_pick hop hc ha hs hf
    · cases h
  · next t x hop =>
    unfold evLoad at h
    split at h
    · next hx =>
      split at h
      · next hr => cases h; exact good_load hop hx hr hs hf
      · cases h
    · cases h
  · next t x y hop =>
    unfold evStore at h
    split at h
    · next hx =>
      split at h
      · next hr => cases h; exact good_store hop hx hr ha hs hf
      · cases h
    · cases h
  · next t hop =>
    unfold evAlloc at h
    split at h
    · next hz => cases h; exact good_alloc hop hz hs hf
    · cases h
  · next t x hop => cases h; exact good_box hop ha hs hf
  · next t parts hop =>
    unfold evBuild at h
    split at h
    · next z fields hz hu =>
      split at h
      · next places hp =>
        split at h
        · next cs hc =>
          cases h
          refine good_build hop (pl' := (places.toArray[·]?)) (fun i => by simp) hc (fun cells hfl => ?_) ha hs hf
          unfold zeroB at hz
          unfold Program.built
          cases hi : P.info? t with
          | none => rw [hi] at hz; cases hz
          | some it =>
            rw [hi] at hz
            have hz : it.zero = some z := hz
            simp only [hu, hz, hp]
            exact hfl
        · cases h
      · cases h
    · next z n elem hz hu =>
      split at h
      · next size hsz =>
        split at h
        · next cs hc =>
          cases h
          refine good_build hop (pl' := fun i => some (i * size, size)) (fun i => rfl) hc (fun cells hfl => ?_) ha hs hf
          unfold zeroB at hz
          unfold sizeB at hsz
          unfold Program.built
          cases hi : P.info? t with
          | none => rw [hi] at hz; cases hz
          | some it =>
            rw [hi] at hz
            have hz : it.zero = some z := hz
            cases hie : P.info? elem with
            | none => rw [hie] at hsz; cases hsz
            | some ie =>
              rw [hie] at hsz
              have hsz : ie.size = size := by simpa using hsz
              simp only [hu, hz, hie, hsz]
              exact hfl
        · cases h
      · cases h
    · cases h
  · next t len parts hop =>
    unfold evBuildSlice at h
    split at h
    · next e hu =>
      split at h
      · next size z h1 h2 =>
        cases hc0 : (Nat.beq len 0 && parts.isEmpty) with
        | true =>
          rw [hc0] at h
          cases h
          rw [Bool.and_eq_true] at hc0
          have e1 := Nat.eq_of_beq_eq_true hc0.1
          have e2 : parts = #[] := by simpa using hc0.2
          subst e1 e2
          exact good_emptySlice hop hu h1 h2 hs hf
        | false =>
          rw [hc0] at h
          simp only [cond_false] at h
          cases hc : (Nat.ble (len * size) 65536 && Nat.ble 1 (len * size) && Nat.beq z.cells.size size) with
          | false => rw [hc] at h; cases h
          | true =>
            rw [hc] at h
            simp only [cond_true] at h
            split at h
            · next cs hfl => cases h; exact good_buildSlice hop hu h1 h2 hc hfl ha hs hf
            · cases h
      · cases h
    · cases h
  · next t x f hop =>
    unfold evFieldAddr at h
    split at h
    · next hx =>
      split at h
      · next hu =>
        split at h
        · next fd hfd =>
          split at h
          · next n hn =>
            cases hb : Nat.beq n 0 with
            | true => rw [hb] at h; cases h
            | false => rw [hb] at h; cases h; exact good_fieldAddr hop hx hu hfd hn hb ha hs hf
          · cases h
        · cases h
      · cases h
    · cases h
  · next t x f hop =>
    unfold evField at h
    split at h
    · next hx =>
      split at h
      · next hu =>
        split at h
        · next fd hfd =>
          split at h
          · next hp => cases h; exact good_field hop hx hu hfd hp ha hs hf
          · cases h
        · cases h
      · cases h
    · cases h
  · next t x i hop =>
    unfold evIndexAddr at h
    split at h
    · next hx hi =>
      split at h
      · next hu =>
        split at h
        · next z hz =>
          obtain ⟨hc, e1⟩ := cond_some h
          cases e1
          exact good_indexSl hop hx hi hu hz hc ha hs hf
        · cases h
      · cases h
    · next hx hi =>
      split at h
      · next hu =>
        split at h
        · next z hz =>
          obtain ⟨hc, e1⟩ := cond_some h
          cases e1
          exact good_indexAr hop hx hi hu hz hc ha hs hf
        · cases h
      · cases h
    · cases h
  · next t x lo hi hop =>
    unfold evSlice at h
    split at h
    · next hx hu =>
      split at h
      · next hl hh hz =>
        obtain ⟨hc, e1⟩ := cond_some h
        cases e1
        exact good_sliceC hop hx hu hz hl hh hc ha hs hf
      · next hl hh hz =>
        split at h
        · next hg =>
          obtain ⟨hc, e1⟩ := cond_some h
          cases e1
          simp only [Bool.and_eq_true] at hc
          obtain ⟨⟨⟨c1, c2⟩, c3⟩, c4⟩ := hc
          have c4 := Nat.eq_of_beq_eq_true c4
          subst c4
          exact good_sliceU hop hx hu hz hl hh hg (Nat.eq_of_beq_eq_true c1) (Nat.le_of_ble_eq_true c2) (Nat.le_of_ble_eq_true c3) ha hs hf
        · cases h
      · cases h
    · cases h
  · next t x hh mm hop =>
    unfold evSlice3 at h
    split at h
    · next hx hu h1 h2 =>
      obtain ⟨hc, e1⟩ := cond_some h
      cases e1
      simp only [Bool.and_eq_true, decide_eq_true_eq] at hc
      obtain ⟨⟨c1, c2⟩, c3⟩ := hc
      subst c1 c2
      obtain ⟨z, hz⟩ := Option.isSome_iff_exists.1 c3
      exact good_slice3 hop hx hu h1 h2 hz ha hs hf
    · cases h
  · next x hop =>
    unfold evNilCheck at h
    have key : v = evalA aa x ∧ s' = s ∧ (match evalA aa x with | .ptr .. | .sl .. | .mp _ | .fn .. => True | _ => False) := by
      split at h
      all_goals first
        | cases h; done
        | (next hx => cases h; rw [hx]; exact ⟨rfl, rfl, trivial⟩)
    obtain ⟨rfl, rfl, hm⟩ := key
    exact good_nilCheck hop hm ha hs hf
  · next fn first captured hop =>
    unfold evMakeFunc at h
    split at h
    · obtain ⟨hc, e1⟩ := cond_some h
      cases e1
      exact good_makeFunc hop hc ha hs hf
    · cases h
  · next x i hop =>
    unfold evExtract at h
    split at h
    · next hx =>
      split at h
      · next hv => cases h; exact good_extract hop hx hv ha hs hf
      · cases h
    · cases h
  · next op xt x y yt hop =>
    unfold evBin at h
    split at h
    · next k a k' b hx hy =>
      cases hk : decide (k = k') with
      | false => rw [hk] at h; cases h
      | true =>
        rw [hk] at h
        simp only [cond_true] at h
        split at h
        · next hr => cases h; exact good_intBin hop hx hy (of_decide_eq_true hk) hr hs hf
        · cases h
    · next hx hy =>
      split at h
      · next hu => exact good_nilSl hop hx hy hu h hs hf
      · cases h
    · next hx hy =>
      split at h
      · next hu => exact good_nilPtr hop hx hy hu h hs hf
      · cases h
    · cases h
  · next t l c hop =>
    unfold evMakeSlice at h
    split at h
    · next hu hl hc =>
      split at h
      · next i hi =>
        split at h
        · next z hz =>
          obtain ⟨hcc, e1⟩ := cond_some h
          cases e1
          simp only [Bool.and_eq_true, decide_eq_true_eq] at hcc
          obtain ⟨⟨⟨⟨c1, c2⟩, c3⟩, c4⟩, c5⟩ := hcc
          subst c2
          exact good_makeSlice hop hu hl hc hi hz c1 (Nat.le_of_ble_eq_true c3) (Nat.eq_of_beq_eq_true c4) (Nat.le_of_ble_eq_true c5) hs hf
        · cases h
      · cases h
    · cases h
  · next b args ts hop => exact builtin_ok hop h ha hs hf
  · next t x hop =>
    unfold evMakeInterface at h
    split at h
    · cases h
    · next d hd hu => cases h; exact good_makeInterface hop hu (by cases d <;> first | trivial | exact (hd _ rfl).elim) ha hs hf
    · cases h
  · next t r hop =>
    unfold evMakeMap at h
    split at h
    · next hu => cases h; exact good_makeMap hop hu hs hf
    · cases h
  · next t x k ok hop =>
    unfold evLookup at h
    split at h
    · next hx hk hu =>
      split at h
      · next hg =>
        split at h
        · next h1 h2 => cases h; exact good_lookupY hop hx hk hu hg h1 h2 hs hf
        · next h1 h2 =>
          split at h
          · next hz => cases h; exact good_lookupN hop hx hk hu hg h1 h2 hz hs hf
          · cases h
        · cases h
      · cases h
    · cases h
  · next t x k y hop =>
    unfold evMapUpdate at h
    split at h
    · next hx hk hy hu =>
      split at h
      · next hg =>
        split at h
        · next h1 h2 => cases h; exact good_mapUpdate hop hx hk hy hu hg h1 h2 hs hf
        · cases h
      · cases h
    · cases h
  · next t x hop =>
    unfold evRange at h
    split at h
    · next hx hu =>
      split at h
      · next hg => cases h; exact good_range hop hx hu hg hs hf
      · cases h
    · cases h
  · next x b hop =>
    unfold evNext at h
    cases b with
    | true => cases h
    | false =>
      simp only [cond_false] at h
      split at h
      · next hx =>
        split at h
        · next hg =>
          split at h
          · next hg2 =>
            obtain ⟨hc, e1⟩ := cond_some h
            cases e1
            exact good_next hop hx hg hg2 hc hs hf
          · cases h
        · cases h
      · cases h
  · cases h
theorem evOp_ok (h : evOp P s aa o = some (v, s')) (ha : okL E aa = true) (hs : HSim E s.heap w) (hf : Fresh E s.next) : Good P o E aa s w v s' := by
  unfold evOp at h
  split at h
  · next hr => cases h; exact evOwn_ok hr ha hs hf
  · split at h
    · next hp => cases h; exact good_pure hp hs hf
    · cases h
end
end Go.Proofs.YtokbandookjdjaaGreat.Ev
