/- Texts merged: ALaw46 AFindL AFind -/
import Derived.Test.YtjbjpkhibcnenaaGreatDoorAOpen
import Derived.Test.YtjbjpkhibcnenaaGreatDoorANewL
import Derived.Test.YtjbjpkhibcnenaaGreatDoorANew
/- bournelaw46: what small needs of the plain law. No program in this text. -/
namespace Go.Proofs.YtjbjpkhibcnenaaGreatDoor
theorem bl_single {l : List BlV} {o w : Int} (hp : l.Pairwise ltOW) (hall : ∀ y ∈ l, y.office = o ∧ y.why = w) (hex : ∃ y, y ∈ l) : ∃ x, l = [x] ∧ x.office = o ∧ x.why = w := by
 match l, hp, hall, hex with
 | [], _, _, h => obtain ⟨y, hy⟩ := h; simp at hy
 | [x], _, h, _ => exact ⟨x, rfl, h x (by simp)⟩
 | x :: y :: l, hp, h, _ =>
  exfalso
  have h1 := (List.pairwise_cons.1 hp).1 y (by simp)
  have h2 := h x (by simp)
  have h3 := h y (by simp)
  unfold ltOW at h1
  omega
theorem sumN_one {H : Int → Option PublicV} {pick : PublicV → SpanV} {f : Int} : sumN H pick f 1 = match H f with | some p => some (addSp ⟨0, 0⟩ (pick p)) | none => none := by
 unfold sumN
 rw [show sumN H pick f 0 = some ⟨0, 0⟩ from rfl, show f + ((0 : Nat) : Int) = f by omega]
 cases H f <;> rfl
theorem laterB_none {pick : PublicV → SpanV} {bad : CV → CV → SpanV → Bool} {c d : CV} : laterB (fun _ => none) pick bad c d = false := by
 unfold laterB betwN
 by_cases h : c.hour < d.hour
 ·
  rw [if_pos h]
  rw [sumN_stop (k := 0) rfl _ (by omega)]
 · rw [if_neg h]
theorem laterB_ge {H : Int → Option PublicV} {pick : PublicV → SpanV} {bad : CV → CV → SpanV → Bool} {c d : CV} (h : ¬ c.hour < d.hour) : laterB H pick bad c d = false := by
 unfold laterB betwN
 rw [if_neg h]
theorem check_none {J : JV} {x : BlV} (hH : J.H = fun _ => none) (hw : x.why = 1) : checkB J x = false := by
 unfold checkB condB
 rw [if_neg (by omega), if_pos hw]
 split
 ·
  unfold balB
  rw [hH, laterB_none]
  simp
 · simp
theorem mem1 {c d : CV} (h : d ∈ [c]) : d = c := by simpa using h
/-- a blame on claims of the middle office alone -/
theorem cond_mid {J : JV} {x : BlV} {l : List CV} (hx : checkB J x = true) (hl : ∀ c ∈ x.claims, c ∈ l) (ho : ∀ c ∈ l, c.office = 1) (hn : ∀ c ∈ l, rangeB J c = false) (hf : ∀ c ∈ l, ∀ d ∈ l, forkB c d = false) (hp : x.why ≠ 5) :
 x.why = 1 ∧ ∃ c d, x.claims = [c, d] ∧ c ∈ l ∧ d ∈ l ∧ x.office = 1 ∧ balB J 1 c d = true := by
 obtain ⟨o, why, cl, p⟩ := x
 simp only at hl hp ⊢
 unfold checkB at hx
 simp only [Bool.and_eq_true, decide_eq_true_eq] at hx
 obtain ⟨-, hc⟩ := hx
 unfold condB at hc
 simp only at hc
 split at hc
 ·
  split at hc
  ·
   next c d =>
   rw [Bool.and_eq_true] at hc
   rw [hf c (hl c (by simp)) d (hl d (by simp))] at hc
   cases hc.2
  · cases hc
 split at hc
 ·
  next e =>
  split at hc
  ·
   next c d =>
   rw [Bool.and_eq_true] at hc
   have h1 := ho c (hl c (by simp))
   have : c.office = o := by
    have := hc.1
    simp only [allB, List.all_cons, List.all_nil, Bool.and_true, Bool.and_eq_true, decide_eq_true_eq] at this
    exact this.1
   have ho1 : o = 1 := by omega
   subst ho1
   exact ⟨e, c, d, rfl, hl c (by simp), hl d (by simp), rfl, hc.2⟩
  · cases hc
 split at hc
 ·
  split at hc
  ·
   next c =>
   rw [Bool.and_eq_true, hn c (hl c (by simp))] at hc
   cases hc.2
  · cases hc
 split at hc
 ·
  rw [Bool.and_eq_true] at hc
  replace hc := hc.2
  split at hc
  ·
   next c d =>
   have := ho c (hl c (by simp))
   simp [allB, this] at hc
  · cases hc
 split at hc
 ·
  rw [Bool.and_eq_true] at hc
  replace hc := hc.2
  split at hc
  ·
   next a b c d =>
   have := ho a (hl a (by simp))
   simp [allB, this] at hc
  · cases hc
 cases hc
theorem fork_self (c : CV) : forkB c c = false := by unfold forkB; simp
theorem range_mid {J : JV} {c : CV} {s : Int} (hE : J.err = 2) (hR : J.room = [100, 100, 100]) (h1 : c.office = 1) (h5 : c.store = s) : rangeB J c = (decide (s < -2) || decide (102 < s)) := by
 unfold rangeB
 rw [h1, hR, hE, h5, show ([100, 100, 100] : List Int)[Int.toNat 1]? = some 100 from rfl]
 simp
theorem small_none {J : JV} {c : CV} (hE : J.err = 2) (hR : J.room = [100, 100, 100]) (h1 : c.office = 1) (h5 : c.store = 102) : findL J [c] [] = [] := by
 rw [List.eq_nil_iff_forall_not_mem]
 intro x hx
 obtain ⟨h2, h3, h4⟩ := find_proves hx
 have hp : x.why ≠ 5 := fun e => by have := h4 e; simp at this
 obtain ⟨-, a, b, -, ha, hb, -, hbal⟩ := cond_mid h2 h3 (fun d hd => by rw [mem1 hd]; exact h1) (fun d hd => by rw [mem1 hd, range_mid hE hR h1 h5]; decide) (fun a ha b hb => by rw [mem1 ha, mem1 hb]; exact fork_self c) hp
 rw [mem1 ha, mem1 hb] at hbal
 unfold balB at hbal
 rw [laterB_ge (by omega)] at hbal
 cases hbal
theorem small_one {J : JV} {c : CV} (hE : J.err = 2) (hR : J.room = [100, 100, 100]) (hK : J.K c = true) (h1 : c.office = 1) (h5 : c.store = 103) : ∃ x, findL J [c] [] = [x] ∧ x.office = 1 ∧ x.why = 2 := by
 have hr : rangeB J c = true := by rw [range_mid hE hR h1 h5]; decide
 refine bl_single (findL_sorted J [c] []) (fun x hx => ?_) ?_
 ·
  obtain ⟨h2, h3, h4⟩ := find_proves hx
  have hp : x.why ≠ 5 := fun e => by have := h4 e; simp at this
  obtain ⟨o, why, cl, p⟩ := x
  simp only at h3 hp ⊢
  unfold checkB at h2
  simp only [Bool.and_eq_true, decide_eq_true_eq] at h2
  obtain ⟨-, hc⟩ := h2
  unfold condB at hc
  simp only at hc
  split at hc
  ·
   split at hc
   · next a b => rw [mem1 (h3 a (by simp)), mem1 (h3 b (by simp)), fork_self, Bool.and_false] at hc; cases hc
   · cases hc
  split at hc
  ·
   split at hc
   ·
    next a b =>
    rw [mem1 (h3 a (by simp)), mem1 (h3 b (by simp))] at hc
    unfold balB at hc
    rw [laterB_ge (by omega), Bool.and_false] at hc
    cases hc
   · cases hc
  split at hc
  ·
   next e =>
   split at hc
   ·
    next a =>
    rw [mem1 (h3 a (by simp))] at hc
    simp only [allB, List.all_cons, List.all_nil, Bool.and_true, Bool.and_eq_true, decide_eq_true_eq] at hc
    exact ⟨by omega, e⟩
   · cases hc
  split at hc
  ·
   rw [Bool.and_eq_true] at hc
   replace hc := hc.2
   split at hc
   ·
    next a b =>
    rw [mem1 (h3 a (by simp))] at hc
    simp [allB, h1] at hc
   · cases hc
  split at hc
  ·
   rw [Bool.and_eq_true] at hc
   replace hc := hc.2
   split at hc
   ·
    next a b c2 d =>
    rw [mem1 (h3 a (by simp))] at hc
    simp [allB, h1] at hc
   · cases hc
  cases hc
 ·
  have hck : checkB J ⟨1, 2, [c], zeroP⟩ = true := by
   unfold checkB condB
   simp [hK, hr, allB, h1]
  obtain ⟨y, hy, _⟩ := find_all (l := [c]) (vows := []) hck (fun d hd => hd) (fun e => by cases e)
  exact ⟨y, hy⟩
def smPub : PublicV := ⟨5, [⟨0, 0⟩, ⟨0, 0⟩, ⟨0, 0⟩], ⟨0, 0⟩⟩
theorem small_two {J : JV} {c d : CV} (hE : J.err = 2) (hR : J.room = [100, 100, 100]) (hH : J.H = hoursF [smPub]) (hK : J.K c = true) (hK2 : J.K d = true) (h1 : c.office = 1) (h2 : c.hour = 5) (h3 : c.inn = 0) (h4 : c.out = 0) (h5 : c.store = 10)
 (g1 : d.office = 1) (g2 : d.hour = 6) (g3 : d.inn = 50) (g4 : d.out = 0) (g5 : d.store = 10) : ∃ x, findL J [c, d] [] = [x] ∧ x.office = 1 ∧ x.why = 1 := by
 have hm : ∀ x, x ∈ [c, d] → x = c ∨ x = d := fun x hx => by simpa using hx
 refine bl_single (findL_sorted J [c, d] []) (fun x hx => ?_) ?_
 ·
  obtain ⟨e2, e3, e4⟩ := find_proves hx
  have hp : x.why ≠ 5 := fun e => by have := e4 e; simp at this
  obtain ⟨e5, a, b, e6, ha, hb, e7, hbal⟩ := cond_mid e2 e3 (fun x hx => by rcases hm x hx with rfl | rfl <;> assumption) (fun x hx => by
   rcases hm x hx with rfl | rfl
   · rw [range_mid hE hR h1 h5]; decide
   · rw [range_mid hE hR g1 g5]; decide) (fun a ha b hb => by
   rcases hm a ha with rfl | rfl <;> rcases hm b hb with rfl | rfl
   · exact fork_self _
   · unfold forkB; rw [h2, g2]; rfl
   · unfold forkB; rw [h2, g2]; rfl
   · exact fork_self _) hp
  exact ⟨e7, e5⟩
 ·
  have hck : checkB J ⟨1, 1, [c, d], zeroP⟩ = true := by
   have hb : balB J 1 c d = true := by
    unfold balB laterB betwN
    rw [h2, g2, if_pos (by decide), hH, show ((6 : Int) - 5).toNat = 1 from rfl, sumN_one]
    have : hoursF [smPub] 5 = some smPub := rfl
    rw [this]
    simp only
    unfold unbalB
    rw [hE, h3, h4, h5, g3, g4, g5]
    decide
   unfold checkB condB
   simp [hK, hK2, hb, allB, h1, g1]
  obtain ⟨y, hy, _⟩ := find_all (l := [c, d]) (vows := []) hck (fun d hd => hd) (fun e => by cases e)
  exact ⟨y, hy⟩
end Go.Proofs.YtjbjpkhibcnenaaGreatDoor
/- audit.Find: the blames that it gathers. -/
namespace Go.Proofs.YtjbjpkhibcnenaaGreatDoor
open Go.RowKit
def flB (zs : List (BlV × Value)) : List Value := zs.flatMap fun z => cellsB z.1 z.2
theorem flB_get : ∀ (l : List (BlV × Value)) (k : Nat) (x : BlV × Value), l[k]? = some x → ∀ j v, (cellsB x.1 x.2)[j]? = some v → (flB l)[k * 9 + j]? = some v
 | [], k, x, h, _, _, _ => by simp at h
 | y :: l, 0, x, h, j, v, hj => by
  simp only [List.getElem?_cons_zero, Option.some.injEq] at h; subst h; have hl := (List.getElem?_eq_some_iff.1 hj).1; unfold flB; rw [List.flatMap_cons, Nat.zero_mul, Nat.zero_add, List.getElem?_append_left hl, hj]
 | y :: l, k + 1, x, h, j, v, hj => by
  have h8 : (cellsB y.1 y.2).length = 9 := rfl; unfold flB; rw [List.flatMap_cons, List.getElem?_append_right (by rw [h8]; omega), h8]; have e : (k + 1) * 9 + j - 9 = k * 9 + j := by omega
  rw [e]; exact flB_get l k x (by simpa using h) j v hj
theorem larg_grown {c c' : World} {b n k : Nat} {r : Option Nat} {l : List CV} (h : LArg RC 8 (.slice (some ⟨b, 0, none⟩) n k) l c) (hg : c.grownBy c' r) (hne : r ≠ some b) : LArg RC 8 (.slice (some ⟨b, 0, none⟩) n k) l c' := by
 obtain ⟨a, m, h1, h2, h3, h4⟩ := h; refine ⟨a, m, h1, h2, h3, fun j x hj => ?_⟩; obtain ⟨b2, o, cs2, e1, e2, e3, e4, e5⟩ := h4 j x hj; simp only [Value.slice.injEq] at h1; rw [e1] at h1; simp only [Option.some.injEq, Addr.mk.injEq, and_true] at h1; obtain ⟨⟨rfl, rfl⟩, -, -⟩ := h1; exact ⟨_, _, cs2, e1, Nat.lt_of_lt_of_le e2 hg.size, e3, fun i v hi => (World.cell?_of_block (hg.block b e2 (fun e => hne e.symm))).trans (e4 i v hi), e5⟩
theorem larg_lt {c : World} {b n k : Nat} {l : List CV} (h : LArg RC 8 (.slice (some ⟨b, 0, none⟩) n k) l c) (hl : l ≠ []) : b < c.heap.size := by
 obtain ⟨a, m, h1, h2, h3, h4⟩ := h
 cases l with
 | nil => exact absurd rfl hl
 | cons x l =>
  obtain ⟨b2, o, cs2, e1, e2, -⟩ := h4 0 x rfl; simp only [Value.slice.injEq] at h1; rw [e1] at h1; simp only [Option.some.injEq, Addr.mk.injEq, and_true] at h1; obtain ⟨⟨rfl, rfl⟩, -, -⟩ := h1; exact e2
structure BLS (w : World) (bv : Value) (zs : List (BlV × Value)) (c : World) : Prop where
 own : c.ownsRow w.heap.size 40 9 bv zs.length (flB zs)
 cl : ∀ z ∈ zs, LArg RC 8 z.2 z.1.claims c ∧ z.1.claims ≠ [] ∧ (∃ b n k, z.2 = .slice (some ⟨b, 0, none⟩) n k ∧ bv.ownBlock ≠ some b)
 below : Below w.heap.size w c
theorem BLS.start {w c : World} (h : Below w.heap.size w c) : BLS w (.slice none 0 0) [] c := ⟨World.ownsRow_nil _ _ _ _, fun z hz => by simp at hz, h⟩
theorem BLS.step {w c c' : World} {bv : Value} {zs : List (BlV × Value)} (h : BLS w bv zs c) (hb : Below c.heap.size c c') : BLS w bv zs c' :=
 ⟨h.own.kept (grown_of_below hb none) (by cases bv.ownBlock <;> simp), fun z hz => ⟨(h.cl z hz).1.below stays_RC hb, (h.cl z hz).2⟩, h.below.trans (hb.mono h.below.size)⟩
theorem BLS.add {w c c' : World} {bv v' v : Value} {zs : List (BlV × Value)} {x : BlV} {b n k : Nat} (h : BLS w bv zs c) (hv : LArg RC 8 v x.claims c) (hvs : v = .slice (some ⟨b, 0, none⟩) n k) (hx : x.claims ≠ []) (hne : bv.ownBlock ≠ some b)
 (hg : c.grownBy c' bv.ownBlock) (ho : c'.ownsRow w.heap.size 40 9 v' (zs.length + 1) (flB zs ++ cellsB x v)) (hat : v'.ownBlock = bv.ownBlock ∨ v'.ownBlock = some c.heap.size) : BLS w v' (zs ++ [(x, v)]) c' := by
 have key : ∀ (l : List CV) (u : Value) (b n k : Nat), u = .slice (some ⟨b, 0, none⟩) n k → LArg RC 8 u l c → l ≠ [] → bv.ownBlock ≠ some b → LArg RC 8 u l c' ∧ l ≠ [] ∧ (∃ b n k, u = .slice (some ⟨b, 0, none⟩) n k ∧ v'.ownBlock ≠ some b) := by
  intro l u b n k hu hl hle hb; subst hu; refine ⟨larg_grown hl hg hb, hle, b, n, k, rfl, fun e => ?_⟩; rcases hat with e2 | e2
  · exact hb (e2.symm.trans e)
  ·
   rw [e] at e2; simp only [Option.some.injEq] at e2; have := larg_lt hl hle; omega
 refine ⟨?_, fun z hz => ?_, h.below.grown hg h.below.size (fun g e => (h.own.lt g e).1)⟩
 ·
  have e : flB (zs ++ [(x, v)]) = flB zs ++ cellsB x v := by unfold flB; rw [List.flatMap_append]; simp
  rw [e, List.length_append]; exact ho
 ·
  rcases List.mem_append.1 hz with hz | hz
  ·
   obtain ⟨h1, h2, b, n, k, h3, h4⟩ := h.cl z hz; exact key _ _ b n k h3 h1 h2 h4
  ·
   have : z = (x, v) := by simpa using hz
   subst this; exact key _ _ b n k hvs hv hx hne
theorem BLS.lt {w c : World} {bv : Value} {zs : List (BlV × Value)} (h : BLS w bv zs c) : ∀ g, bv.ownBlock = some g → g < c.heap.size := fun g e => (h.own.lt g e).2
theorem BLS.larg {w c : World} {bv : Value} {zs : List (BlV × Value)} (h : BLS w bv zs c) (hx : ∀ z ∈ zs, BOk z.1) : LArg RBl 9 bv (zs.map (·.1)) c := by
 have hlen : (zs.map (·.1)).length = zs.length := List.length_map ..
 have hR : ∀ (j : Nat) (x : BlV), (zs.map (·.1))[j]? = some x → ∃ z, zs[j]? = some z ∧ z.1 = x ∧ RBl x (cellsB z.1 z.2) c := fun j x hj => by
  rw [List.getElem?_map, Option.map_eq_some_iff] at hj; obtain ⟨z, hz, rfl⟩ := hj; have hm := List.mem_of_getElem? hz; exact ⟨z, hz, rfl, z.2, rfl, hx z hm, (h.cl z hm).1⟩
 rcases h.own.2 with ⟨rfl, h0⟩ | ⟨g, cap, cur, rfl, _, hg, hc, hm, hs, ht⟩
 ·
  refine ⟨none, 0, by rw [hlen, h0], by omega, by unfold maxLen; omega, fun j x hj => ?_⟩; have : zs = [] := List.eq_nil_of_length_eq_zero h0; subst this; simp at hj
 ·
  refine ⟨_, _, by rw [hlen], by omega, hm, fun j x hj => ?_⟩; obtain ⟨z, hz, rfl, hr⟩ := hR j x hj; refine ⟨g, 0, cellsB z.1 z.2, rfl, blk_lt hg, rfl, ?_, hr⟩; intro i u hi; have h1 := cell_of_row _ _ (0 + j * 9 + i) _ _ _ hg; rw [← Array.getElem?_toList] at h1; refine h1.trans ?_; have h3 := flB_get zs j z hz i u hi; rw [← ht, List.getElem?_take] at h3
  split at h3
  · rw [Nat.zero_add]; exact h3
  · cases h3
def preL (J : JV) (l : List CV) (vows : List PV) (o k : Nat) : List BlV := (List.range o).flatMap (fun q : Nat => findO J l vows (q : Int)) ++ (List.range k).filterMap (blameL J l vows (o : Int))
theorem preL_end (J : JV) (l : List CV) (vows : List PV) : preL J l vows 3 0 = findL J l vows := by
 unfold preL findL; rw [show List.range 3 = [0, 1, 2] from rfl]; simp
theorem preL_office (J : JV) (l : List CV) (vows : List PV) (o : Nat) : preL J l vows o 6 = preL J l vows (o + 1) 0 := by
 unfold preL; rw [List.range_succ (n := o), List.flatMap_append]; simp [findO]
theorem preL_some {J : JV} {l : List CV} {vows : List PV} {o k : Nat} {x : BlV} (h : blameL J l vows (o : Int) k = some x) : preL J l vows o (k + 1) = preL J l vows o k ++ [x] := by
 unfold preL; rw [List.range_succ, List.filterMap_append]; simp [h]
theorem preL_none {J : JV} {l : List CV} {vows : List PV} {o k : Nat} (h : blameL J l vows (o : Int) k = none) : preL J l vows o (k + 1) = preL J l vows o k := by
 unfold preL; rw [List.range_succ, List.filterMap_append]; simp [h]
theorem check_claims {J : JV} {x : BlV} (h : checkB J x = true) : x.claims ≠ [] := by
 intro e; unfold checkB at h; simp only [Bool.and_eq_true] at h; obtain ⟨-, h⟩ := h; unfold condB at h; rw [e] at h; simp at h
theorem blame_prom {J : JV} {l : List CV} {vows : List PV} {o : Int} {why : Nat} {x : BlV} (h : blameL J l vows o why = some x) : x.prom = zeroP ∨ x.prom ∈ vows := by
 unfold blameL at h
 split at h
 ·
  obtain ⟨c, d, h1, rfl⟩ := two_some h; exact Or.inl rfl
 split at h
 ·
  obtain ⟨c, d, h1, rfl⟩ := two_some h; exact Or.inl rfl
 split at h
 ·
  rw [Option.map_eq_some_iff] at h; obtain ⟨c, h1, rfl⟩ := h; exact Or.inl rfl
 split at h
 ·
  split at h
  ·
   obtain ⟨c, d, h1, rfl⟩ := two_some h; exact Or.inl rfl
  · cases h
 split at h
 ·
  split at h
  ·
   unfold bothL at h
   split at h
   ·
    cases h
    exact Or.inl rfl
   · cases h
  · cases h
 split at h
 ·
  unfold brokeL at h; obtain ⟨p, hp, hm⟩ := List.exists_of_findSome?_eq_some h
  split at hm
  ·
   rw [Option.map_eq_some_iff] at hm; obtain ⟨cd, h1, rfl⟩ := hm; exact Or.inr hp
  · cases hm
 · cases h
theorem blame_BOk {J : JV} {l : List CV} {vows : List PV} {o : Int} {why : Nat} {x : BlV} (ho : 0 ≤ o ∧ o < 3) (hv : ∀ p ∈ vows, POk p) (h : blameL J l vows o why = some x) : BOk x := by
 obtain ⟨h1, h2, h3, -⟩ := blame_ok ho h; refine ⟨?_, ?_, ?_⟩
 · rw [h1]; exact ⟨by omega, by omega⟩
 · rw [h2]; exact ⟨by omega, by omega⟩
 ·
  rcases blame_prom h with e | e
  ·
   rw [e]; exact ⟨⟨by decide, by decide⟩, ⟨by decide, by decide⟩, ⟨by decide, by decide⟩, ⟨by decide, by decide⟩, ⟨by decide, by decide⟩, ⟨by decide, by decide⟩⟩
  · exact hv _ e
theorem findL_BOk {J : JV} {l : List CV} {vows : List PV} (hv : ∀ p ∈ vows, POk p) : ∀ x ∈ findL J l vows, BOk x := fun x hx => by
 obtain ⟨o, why, h1, h2, h⟩ := mem_findL.1 hx; exact blame_BOk ⟨h1, h2⟩ hv h
theorem preL_len {J : JV} {l : List CV} {vows : List PV} {o k : Nat} (ho : o ≤ 3) (hk : k ≤ 6) : (preL J l vows o k).length ≤ 24 := by
 have hO : ∀ q : Int, (findO J l vows q).length ≤ 6 := fun q => by
  unfold findO; refine Nat.le_trans (List.length_filterMap_le _ _) ?_; rw [List.length_range]; omega
 have hF : ∀ l2 : List Nat, (l2.flatMap (fun q : Nat => findO J l vows (q : Int))).length ≤ l2.length * 6 := by
  intro l2
  induction l2 with
  | nil => simp
  | cons a l2 ih =>
   rw [List.flatMap_cons, List.length_append, List.length_cons]; have := hO a; omega
 unfold preL; rw [List.length_append]; have h1 := hF (List.range o); rw [List.length_range] at h1; have h2 := List.length_filterMap_le (blameL J l vows (o : Int)) (List.range k); rw [List.length_range] at h2; omega
def RetL (L : List BlV) (w : World) (e : Ending) (w' : World) : Prop := ∃ v, e = .returned v ∧ LArg RBl 9 v L w' ∧ Below w.heap.size w w'
theorem SearchAt.so {sb jb : Nat} {a0 a1 a2 av : Option Addr} {k0 k1 k2 kv : Nat} {J : JV} {l : List CV} {vs : List PV} {last : Int} {w : World} (h : SearchAt sb jb a0 a1 a2 av k0 k1 k2 kv (clO J l 0) (clO J l 1) (clO J l 2) vs last w) {j : Nat} (hj : j < 3) : ∃ ao ko, SOf sb jb j ao ko (clO J l (j : Int)) last w := by
 rcases j with _ | _ | _ | j
 · exact ⟨_, _, h.s0⟩
 · exact ⟨_, _, h.s1⟩
 · exact ⟨_, _, h.s2⟩
 · omega
theorem fd0 (jb mb : Nat) (ar ap : Option Addr) (cr cp : Nat) (err : Int) (room ps : List Int) (pubs : List PublicV) {sb : Nat} {a0 a1 a2 av : Option Addr} {k0 k1 k2 kv : Nat} (l : List CV) (vows : List PV) (j : Nat) (w : World) (_hJ : JudgeAt jb mb ar ap cr cp err room ps pubs w) (hS : SearchAt sb jb a0 a1 a2 av k0 k1 k2 kv (clO (judgeV err room ps pubs) l 0) (clO (judgeV err room ps pubs) l 1) (clO (judgeV err room ps pubs) l 2) (vows.filter (vB ps)) (lastN (judgeV err room ps pubs) l) w) (hj : j < 3) (_hI : ∀ p ∈ pubs, PbI p) (_hpl : pubs.length ≤ 1000) :
 Calls Tryz.prog 24 #[.pointer (some ⟨sb, 0, none⟩), (j : Int)] w (RetF (blameL (judgeV err room ps pubs) l vows (j : Int) 0) w) := by
 obtain ⟨ao, ko, hs⟩ := hS.so hj; rw [bl0]; exact fork_any jb sb j ao ko _ _ w hs
theorem fd1 (jb mb : Nat) (ar ap : Option Addr) (cr cp : Nat) (err : Int) (room ps : List Int) (pubs : List PublicV) {sb : Nat} {a0 a1 a2 av : Option Addr} {k0 k1 k2 kv : Nat} (l : List CV) (vows : List PV) (j : Nat) (w : World) (hJ : JudgeAt jb mb ar ap cr cp err room ps pubs w) (hS : SearchAt sb jb a0 a1 a2 av k0 k1 k2 kv (clO (judgeV err room ps pubs) l 0) (clO (judgeV err room ps pubs) l 1) (clO (judgeV err room ps pubs) l 2) (vows.filter (vB ps)) (lastN (judgeV err room ps pubs) l) w) (hj : j < 3) (hI : ∀ p ∈ pubs, PbI p) (hpl : pubs.length ≤ 1000) :
 Calls Tryz.prog 25 #[.pointer (some ⟨sb, 0, none⟩), (j : Int)] w (RetF (blameL (judgeV err room ps pubs) l vows (j : Int) 1) w) := by
 obtain ⟨ao, ko, hs⟩ := hS.so hj; rw [bl1]; exact balance_any jb mb ar ap cr cp err room ps pubs sb j ao ko _ _ w hJ hs hI hpl
theorem fd2 (jb mb : Nat) (ar ap : Option Addr) (cr cp : Nat) (err : Int) (room ps : List Int) (pubs : List PublicV) {sb : Nat} {a0 a1 a2 av : Option Addr} {k0 k1 k2 kv : Nat} (l : List CV) (vows : List PV) (j : Nat) (w : World) (hJ : JudgeAt jb mb ar ap cr cp err room ps pubs w) (hS : SearchAt sb jb a0 a1 a2 av k0 k1 k2 kv (clO (judgeV err room ps pubs) l 0) (clO (judgeV err room ps pubs) l 1) (clO (judgeV err room ps pubs) l 2) (vows.filter (vB ps)) (lastN (judgeV err room ps pubs) l) w) (hj : j < 3) (_hI : ∀ p ∈ pubs, PbI p) (_hpl : pubs.length ≤ 1000) :
 Calls Tryz.prog 26 #[.pointer (some ⟨sb, 0, none⟩), (j : Int)] w (RetF (blameL (judgeV err room ps pubs) l vows (j : Int) 2) w) := by
 obtain ⟨ao, ko, hs⟩ := hS.so hj; rw [bl2]; exact store_any jb mb ar ap cr cp err room ps pubs sb j ao ko _ _ w hJ hs
theorem fd3 (jb mb : Nat) (ar ap : Option Addr) (cr cp : Nat) (err : Int) (room ps : List Int) (pubs : List PublicV) {sb : Nat} {a0 a1 a2 av : Option Addr} {k0 k1 k2 kv : Nat} (l : List CV) (vows : List PV) (j : Nat) (w : World) (hJ : JudgeAt jb mb ar ap cr cp err room ps pubs w) (hS : SearchAt sb jb a0 a1 a2 av k0 k1 k2 kv (clO (judgeV err room ps pubs) l 0) (clO (judgeV err room ps pubs) l 1) (clO (judgeV err room ps pubs) l 2) (vows.filter (vB ps)) (lastN (judgeV err room ps pubs) l) w) (hj : j < 3) (hI : ∀ p ∈ pubs, PbI p) (hpl : pubs.length ≤ 1000) :
 Calls Tryz.prog 27 #[.pointer (some ⟨sb, 0, none⟩), (j : Int)] w (RetF (blameL (judgeV err room ps pubs) l vows (j : Int) 3) w) := by
 obtain ⟨ao, ko, hs⟩ := hS.so hj; rw [bl3]; exact outlet_any jb mb ar ap cr cp err room ps pubs sb j ao ko _ _ w hJ hs hI hpl
theorem fd4 (jb mb : Nat) (ar ap : Option Addr) (cr cp : Nat) (err : Int) (room ps : List Int) (pubs : List PublicV) {sb : Nat} {a0 a1 a2 av : Option Addr} {k0 k1 k2 kv : Nat} (l : List CV) (vows : List PV) (j : Nat) (w : World) (hJ : JudgeAt jb mb ar ap cr cp err room ps pubs w) (hS : SearchAt sb jb a0 a1 a2 av k0 k1 k2 kv (clO (judgeV err room ps pubs) l 0) (clO (judgeV err room ps pubs) l 1) (clO (judgeV err room ps pubs) l 2) (vows.filter (vB ps)) (lastN (judgeV err room ps pubs) l) w) (hj : j < 3) (_hI : ∀ p ∈ pubs, PbI p) (_hpl : pubs.length ≤ 1000) :
 Calls Tryz.prog 28 #[.pointer (some ⟨sb, 0, none⟩), (j : Int)] w (RetF (blameL (judgeV err room ps pubs) l vows (j : Int) 4) w) := by
 obtain ⟨ao, ko, hs⟩ := hS.so hj; rw [bl4]; exact both_any jb mb ar ap cr cp err room ps pubs sb a0 a1 a2 av k0 k1 k2 kv _ _ _ _ _ _ w hJ hS
theorem fd5 (jb mb : Nat) (ar ap : Option Addr) (cr cp : Nat) (err : Int) (room ps : List Int) (pubs : List PublicV) {sb : Nat} {a0 a1 a2 av : Option Addr} {k0 k1 k2 kv : Nat} (l : List CV) (vows : List PV) (j : Nat) (w : World) (hJ : JudgeAt jb mb ar ap cr cp err room ps pubs w) (hS : SearchAt sb jb a0 a1 a2 av k0 k1 k2 kv (clO (judgeV err room ps pubs) l 0) (clO (judgeV err room ps pubs) l 1) (clO (judgeV err room ps pubs) l 2) (vows.filter (vB ps)) (lastN (judgeV err room ps pubs) l) w) (hj : j < 3) (_hI : ∀ p ∈ pubs, PbI p) (_hpl : pubs.length ≤ 1000) :
 Calls Tryz.prog 29 #[.pointer (some ⟨sb, 0, none⟩), (j : Int)] w (RetF (blameL (judgeV err room ps pubs) l vows (j : Int) 5) w) := by
 obtain ⟨ao, ko, hs⟩ := hS.so hj; rw [bl5]; rw [← brokeL_eq]; exact broken_any jb mb ar ap cr cp err room ps pubs sb j ao ko _ _ w hJ hs av kv _ hS.lv (rowN hS.row 4 _ rfl) hS.nv (fun p hp => (vB_num (List.mem_filter.1 hp).2).1)
end Go.Proofs.YtjbjpkhibcnenaaGreatDoor
/- audit.Find. -/
namespace Go.Proofs.YtjbjpkhibcnenaaGreatDoor
set_option maxRecDepth 100000
set_option maxHeartbeats 8000000
open Go.RowKit
theorem undBS : Tryz.prog.underlying 44 = some (.slice 40) := by kernel_rfl
theorem infoB88 : ∃ i z, Tryz.prog.info? 40 = some i ∧ i.size = 9 ∧ i.zero = some z ∧ z.cells.size = 9 ∧ i.bytes = 88 := by
 have h : (Tryz.prog.info? 40).map (fun i => (i.size, i.zero.map (fun z => z.cells.size), i.bytes)) = some (9, some 9, 88) := by kernel_rfl
 cases hi : Tryz.prog.info? 40 with
 | none => rw [hi] at h; cases h
 | some i =>
  rw [hi] at h; simp only [Option.map_some, Option.some.injEq, Prod.mk.injEq] at h; obtain ⟨h1, h2, h3⟩ := h
  cases hz : i.zero with
  | none => rw [hz] at h2; cases h2
  | some z =>
   rw [hz] at h2; simp only [Option.map_some, Option.some.injEq] at h2; exact ⟨i, z, rfl, h1, hz, h2, h3⟩
theorem finder_at (jb mb : Nat) (ar ap : Option Addr) (cr cp : Nat) (err : Int) (room ps : List Int) (pubs : List PublicV) {sb : Nat} {a0 a1 a2 av : Option Addr} {k0 k1 k2 kv : Nat} (l : List CV) (vows : List PV) (w4 : World) (fb : Nat) (hJ : JudgeAt jb mb ar ap cr cp err room ps pubs w4) (hS : SearchAt sb jb a0 a1 a2 av k0 k1 k2 kv (clO (judgeV err room ps pubs) l 0) (clO (judgeV err room ps pubs) l 1) (clO (judgeV err room ps pubs) l 2) (vows.filter (vB ps)) (lastN (judgeV err room ps pubs) l) w4) (hI : ∀ p ∈ pubs, PbI p) (hpl : pubs.length ≤ 1000)
 (hf : w4.heap[fb]? = some (.cells #[.func (.func 24) #[.pointer (some ⟨sb, 0, none⟩)] #[], .func (.func 25) #[.pointer (some ⟨sb, 0, none⟩)] #[], .func (.func 26) #[.pointer (some ⟨sb, 0, none⟩)] #[], .func (.func 27) #[.pointer (some ⟨sb, 0, none⟩)] #[], .func (.func 28) #[.pointer (some ⟨sb, 0, none⟩)] #[], .func (.func 29) #[.pointer (some ⟨sb, 0, none⟩)] #[]] 69 (0, 0))) (k : Nat) (hk : k < 6) : ∃ f, w4.cell? ⟨fb, k, none⟩ = some (.func (.func f) #[.pointer (some ⟨sb, 0, none⟩)] #[]) ∧ (∀ args w, (callFunc f args).run Tryz.prog w = .ok (.enter f args) w) ∧ ∀ (j : Nat) (w : World), j < 3 → Below w4.heap.size w4 w → Calls Tryz.prog f #[.pointer (some ⟨sb, 0, none⟩), .int .i64 (j : Int)] w (RetF (blameL (judgeV err room ps pubs) l vows (j : Int) k) w) := by
 have below : ∀ w, Below w4.heap.size w4 w → JudgeAt jb mb ar ap cr cp err room ps pubs w ∧ SearchAt sb jb a0 a1 a2 av k0 k1 k2 kv (clO (judgeV err room ps pubs) l 0) (clO (judgeV err room ps pubs) l 1) (clO (judgeV err room ps pubs) l 2) (vows.filter (vB ps)) (lastN (judgeV err room ps pubs) l) w := fun w hb => ⟨hJ.below hb, hS.below hb⟩; rcases k with _ | _ | _ | _ | _ | _ | k
 · exact ⟨_, rowN hf 0 _ rfl, Tryz.call24, fun j w hj hb => fd0 jb mb ar ap cr cp err room ps pubs l vows j w (below w hb).1 (below w hb).2 hj hI hpl⟩
 · exact ⟨_, rowN hf 1 _ rfl, Tryz.call25, fun j w hj hb => fd1 jb mb ar ap cr cp err room ps pubs l vows j w (below w hb).1 (below w hb).2 hj hI hpl⟩
 · exact ⟨_, rowN hf 2 _ rfl, Tryz.call26, fun j w hj hb => fd2 jb mb ar ap cr cp err room ps pubs l vows j w (below w hb).1 (below w hb).2 hj hI hpl⟩
 · exact ⟨_, rowN hf 3 _ rfl, Tryz.call27, fun j w hj hb => fd3 jb mb ar ap cr cp err room ps pubs l vows j w (below w hb).1 (below w hb).2 hj hI hpl⟩
 · exact ⟨_, rowN hf 4 _ rfl, Tryz.call28, fun j w hj hb => fd4 jb mb ar ap cr cp err room ps pubs l vows j w (below w hb).1 (below w hb).2 hj hI hpl⟩
 · exact ⟨_, rowN hf 5 _ rfl, Tryz.call29, fun j w hj hb => fd5 jb mb ar ap cr cp err room ps pubs l vows j w (below w hb).1 (below w hb).2 hj hI hpl⟩
 · omega
theorem find_any (x : BsX) (ar ap : Option Addr) (cr cp : Nat) (err : Int) (room ps : List Int) (vq : Value) (pubs : List PublicV) (al av : Option Addr) (lc vc : Nat) (l : List CV) (vows : List PV) (w : World) (hI : JIn ar ap cr cp err room ps vq pubs w) (hL : LArg RC 8 (.slice al l.length lc) l w) (hV : LArg RP 6 (.slice av vows.length vc) vows w) (hl : l.length ≤ 1000) (hvl : vows.length ≤ 1000) (hC : ∀ c ∈ l, c.prev.size ≤ 900) (hg : Glob w) (hml : MLen w) :
 Calls Tryz.prog 9 #[.agg #[x.nm, .slice x.a1 x.n1 x.c1, x.k, .slice x.a3 x.n3 x.c3, .slice x.a4 x.n4 x.c4, .slice x.a5 x.n5 x.c5, .slice x.a6 x.n6 x.c6, .slice x.a7 x.n7 x.c7, .slice x.a8 x.n8 x.c8, .slice ar 3 cr, err], .slice ap 3 cp, vq, .slice al l.length lc, .slice av vows.length vc] w (RetL (findL (judgeV err room ps pubs) l vows) w) := by
 obtain ⟨ib, zb, hib, hsz, hzb, hcz, hbb⟩ := infoB88; have HI := hD hI; have HL := hD hL; have HV := hD hV; have HC9 := hD hC; have HGl := hD hg; have HML := hD hml; have HPI := hD hI.pbI; have hpl := hI.hl
 have HVO : Hid (∀ p ∈ vows, POk p) := hD (fun p hp => by
  obtain ⟨j, hj⟩ := List.getElem?_of_mem hp; obtain ⟨_, _, _, _, _, _, _, _, h⟩ := hV.at hj
  exact h)
 clear hI hL hV hC hg hml; have HR := hD ((RowsS.nil w).alloc (.cells #[x.nm, .slice x.a1 x.n1 x.c1, x.k, .slice x.a3 x.n3 x.c3, .slice x.a4 x.n4 x.c4, .slice x.a5 x.n5 x.c5, .slice x.a6 x.n6 x.c6, .slice x.a7 x.n7 x.c7, .slice x.a8 x.n8 x.c8, .slice ar 3 cr, err] 31)); go_enter Tryz.func9, Tryz.ntmps9; go_upto_region 1 with fail; generalize w.alloc (.cells #[x.nm, .slice x.a1 x.n1 x.c1, x.k, .slice x.a3 x.n3 x.c3, .slice x.a4 x.n4 x.c4, .slice x.a5 x.n5 x.c5, .slice x.a6 x.n6 x.c6, .slice x.a7 x.n7 x.c7, .slice x.a8 x.n8 x.c8, .slice ar 3 cr, err] 31) = w0 at *; go_wp2_with (first | (refine lRW (HR.out.row 0 rfl) undBn infoBn ?_)); refine (newJudge_any x ar ap cr cp err room ps vq pubs _ (HI.out.below HR.out.below)).mono ?_; rintro e w1 ⟨jb, mb, rfl, hj1, -, hb1⟩; have HB1 := hD (HR.out.below.trans (hb1.mono HR.out.below.size)); have HJ1 := hD hj1; clear hj1 hb1 HR; go_wp2_with fail; refine (newSearch_any jb mb ar ap cr cp err room ps pubs al av lc vc l vows _ HJ1.out (HL.out.below stays_RC HB1.out) (HV.out.below stays_RP HB1.out) hl hvl HC9.out (HGl.out.below HB1.out HGl.out.size) (HML.out.up HB1.out)).mono ?_; rintro e w2 ⟨sb, a0, a1, a2, av2, k0, k1, k2, kv, rfl, hs2, hb2⟩; have HJ2 := hD (HJ1.out.below hb2); have HB2 := hD (HB1.out.trans (hb2.mono HB1.out.size)); have HS2 := hD hs2; clear hs2 hb2 HJ1 HB1; go_upto_region 3 with fail; have ha : Below w2.heap.size w2 (w2.alloc (.cells #[.func (.func 24) #[.pointer (some ⟨sb, 0, none⟩)] #[], .func (.func 25) #[.pointer (some ⟨sb, 0, none⟩)] #[], .func (.func 26) #[.pointer (some ⟨sb, 0, none⟩)] #[], .func (.func 27) #[.pointer (some ⟨sb, 0, none⟩)] #[], .func (.func 28) #[.pointer (some ⟨sb, 0, none⟩)] #[], .func (.func 29) #[.pointer (some ⟨sb, 0, none⟩)] #[]] 69)) := (Below.refl _ _).alloc (Nat.le_refl _) _
 have HJ4 := hD (HJ2.out.below ha); have HS4 := hD (HS2.out.below ha); have HB4 := hD (HB2.out.trans (ha.mono HB2.out.size)); have HF4 := hD (heap_alloc_new w2 (.cells #[.func (.func 24) #[.pointer (some ⟨sb, 0, none⟩)] #[], .func (.func 25) #[.pointer (some ⟨sb, 0, none⟩)] #[], .func (.func 26) #[.pointer (some ⟨sb, 0, none⟩)] #[], .func (.func 27) #[.pointer (some ⟨sb, 0, none⟩)] #[], .func (.func 28) #[.pointer (some ⟨sb, 0, none⟩)] #[], .func (.func 29) #[.pointer (some ⟨sb, 0, none⟩)] #[]] 69)); clear ha HJ2 HS2 HB2; generalize w2.alloc (.cells #[.func (.func 24) #[.pointer (some ⟨sb, 0, none⟩)] #[], .func (.func 25) #[.pointer (some ⟨sb, 0, none⟩)] #[], .func (.func 26) #[.pointer (some ⟨sb, 0, none⟩)] #[], .func (.func 27) #[.pointer (some ⟨sb, 0, none⟩)] #[], .func (.func 28) #[.pointer (some ⟨sb, 0, none⟩)] #[], .func (.func 29) #[.pointer (some ⟨sb, 0, none⟩)] #[]] 69) = w4 at *; generalize w2.heap.size = fb at *; have HFD := hD (finder_at jb mb ar ap cr cp err room ps pubs l vows w4 fb HJ4.out HS4.out HPI.out hpl HF4.out); have hfl := blk_lt HF4.out; clear HF4; go_wp2_with fail; go_loopw [13, 39] (fun sv iv wx => ∃ (bv : Value) (o : Nat) (zs : List (BlV × Value)), bv = sv ∧ o ≤ 3 ∧ iv = .int .i64 (o : Int) ∧ zs.map (·.1) = preL (judgeV err room ps pubs) l vows o 0 ∧ BLS w4 bv zs wx) (fun _ iv _ => 3 - (Go.RowKit.intOf iv).toNat)
 case atStart => exact ⟨_, 0, [], rfl, by omega, rfl, rfl, BLS.start (Below.refl _ _)⟩
 case round =>
  obtain ⟨bv, o, zs, rfl, ho, rfl, hz, hbl⟩ := hrel; have HZ := hD hz; have HBL := hD hbl; clear hz hbl; by_cases hlt : o < 3
  ·
   have ho3 : (o : Int) < 3 := by omega
   have HO3 := hD hlt; go_wp2_with fail; rename World => wy; go_loopw [13, 44] (fun sv iv wx => ∃ (bv : Value) (k : Nat) (zs : List (BlV × Value)), bv = sv ∧ k ≤ 6 ∧ iv = .int .i64 (k : Int) ∧ zs.map (·.1) = preL (judgeV err room ps pubs) l vows o k ∧ BLS w4 bv zs wx) (fun _ iv _ => 6 - (Go.RowKit.intOf iv).toNat)
   case atStart => exact ⟨_, 0, zs, rfl, by omega, rfl, HZ.out, HBL.out⟩
   case round =>
    clear HZ HBL; obtain ⟨bv, k, zs, rfl, hk, rfl, hz, hbl⟩ := hrel; have HZ := hD hz; have HBL := hD hbl
    have hzl : zs.length ≤ 24 := by
     have h1 := congrArg List.length hz; rw [List.length_map] at h1; have h2 := preL_len (J := (judgeV err room ps pubs)) (l := l) (vows := vows) (o := o) (k := k) ho hk; omega
    clear hz hbl; by_cases hlk : k < 6
    ·
     obtain ⟨f, hfc, hen, hcall⟩ := HFD.out k hlk; have hk6 : (k : Int) < 6 := by omega
     have hfc2 := (HBL.out.below.cell (p := ⟨fb, k, none⟩) hfl).trans hfc; have HCL := hD hcall; clear hfc hcall; go_wp2_with fail; refine (HCL.out o _ HO3.out HBL.out.below).mono ?_; rintro e w5 hret
     cases hb : blameL (judgeV err room ps pubs) l vows (o : Int) k with
     | none =>
      rw [hb] at hret; obtain ⟨rfl, hb5⟩ := hret; have HBL5 := hD ((HBL.out.step hb5).step ((Below.refl _ _).alloc (Nat.le_refl _) (.cells #[(), (), .slice none 0 0, (), (), (), (), (), ()] 40))); have HZ5 := hD (HZ.out.trans (preL_none hb).symm); clear hb hb5 HBL HZ hfc2 HCL; go_wp2_with fail; go_roundw
      case rel => exact ⟨_, k + 1, zs, rfl, by omega, by go_num, HZ5.out, HBL5.out⟩
      case measure => simp [Go.RowKit.intOf]; omega
     | some x =>
      rw [hb] at hret; obtain ⟨⟨v, he, hlv, b, n, m, rfl, hge⟩, hb5⟩ := hret; rw [show (cellsB x (.slice (some ⟨b, 0, none⟩) n m)).toArray = #[.int .i64 x.office, .int .i64 x.why, .slice (some ⟨b, 0, none⟩) n m, .int .i64 x.prom.office, .int .i64 x.prom.since, .int .i64 x.prom.till, .int .i64 x.prom.litres, .int .i64 x.prom.e, .int .i64 x.prom.s] from rfl] at he; subst he; have HO := hD (blame_ok ⟨by omega, by omega⟩ hb); have hxc := hD (check_claims HO.out.2.2.2.1); have hbne : bv.ownBlock ≠ some b := fun e => by have := HBL.out.lt b e; omega
      have HNE := hD hbne; have hal : Below w5.heap.size w5 (w5.alloc (.cells #[x.office, x.why, .slice (some ⟨b, 0, none⟩) n m, x.prom.office, x.prom.since, x.prom.till, x.prom.litres, x.prom.e, x.prom.s] 40)) := (Below.refl _ _).alloc (Nat.le_refl _) _; have HBL6 := hD ((HBL.out.step hb5).step hal); have HLV6 := hD (hlv.below stays_RC hal); have HX6 := hD (heap_alloc_new w5 (.cells #[x.office, x.why, .slice (some ⟨b, 0, none⟩) n m, x.prom.office, x.prom.since, x.prom.till, x.prom.litres, x.prom.e, x.prom.s] 40)); have HZ5 := hD (preL_some hb); clear hb hb5 HBL hfc2 HCL hal hlv hge hbne HO; go_upto_region 12 with fail; generalize w5.alloc (.cells #[x.office, x.why, .slice (some ⟨b, 0, none⟩) n m, x.prom.office, x.prom.since, x.prom.till, x.prom.litres, x.prom.e, x.prom.s] 40) = w6 at *; generalize w5.heap.size = bX at *; have hal : Below w6.heap.size w6 (w6.alloc (.cells #[x.office, x.why, .slice (some ⟨b, 0, none⟩) n m, x.prom.office, x.prom.since, x.prom.till, x.prom.litres, x.prom.e, x.prom.s] 40)) := (Below.refl _ _).alloc (Nat.le_refl _) _; have HBL7 := hD (HBL6.out.step hal); have HLV7 := hD (HLV6.out.below stays_RC hal); have hnew := new_cells (l := [.int .i64 x.office, .int .i64 x.why, .slice (some ⟨b, 0, none⟩) n m, .int .i64 x.prom.office, .int .i64 x.prom.since, .int .i64 x.prom.till, .int .i64 x.prom.litres, .int .i64 x.prom.e, .int .i64 x.prom.s]) (heap_alloc_new w6 (.cells #[x.office, x.why, .slice (some ⟨b, 0, none⟩) n m, x.prom.office, x.prom.since, x.prom.till, x.prom.litres, x.prom.e, x.prom.s] 40))
      clear hal HBL6 HLV6; go_wp2_with (first | (refine lRW HX6.out undBl infoBl ?_) | (at_builtin; refine Hid.out ?_)); refine hD ?_; refine wpList_append_own_at _ rfl _ _ 44 rfl w4.heap.size 40 ib zb 9 ib.bytes undBS hib hzb hsz rfl hcz (by decide) bv zs.length _ rfl HBL7.out.own ⟨w6.heap.size, 0, none⟩ 1 1 [.int .i64 x.office, .int .i64 x.why, .slice (some ⟨b, 0, none⟩) n m, .int .i64 x.prom.office, .int .i64 x.prom.since, .int .i64 x.prom.till, .int .i64 x.prom.litres, .int .i64 x.prom.e, .int .i64 x.prom.s] rfl rfl hnew (by simp [Value.oneCell']) (by unfold maxLen; omega) (by rw [hbb]; omega) HBL7.out.below.size ?_; intro v' w8 hown8 hgr8 _ hat8; have HBL8 := hD (HBL7.out.add HLV7.out rfl hxc.out HNE.out hgr8 hown8 hat8); have HZ8 : Hid ((zs ++ [(x, Value.slice (some ⟨b, 0, none⟩) n m)]).map (·.1) = preL (judgeV err room ps pubs) l vows o (k + 1)) := hD (by rw [HZ5.out, ← HZ.out, List.map_append]; rfl); clear hown8 hgr8 hat8 hnew HX6 HLV7 HBL7 HZ5; go_wp2_with fail; go_roundw
      case rel => exact ⟨_, k + 1, _, rfl, by omega, by go_num, HZ8.out, HBL8.out⟩
      case measure => simp [Go.RowKit.intOf]; omega
    ·
     obtain rfl : k = 6 := by omega
     have HZ6 := hD (HZ.out.trans (preL_office _ _ _ _)); clear hlk hk HZ; go_wp2_with fail; go_roundw
     case rel => exact ⟨_, o + 1, zs, rfl, by omega, by go_num, HZ6.out, HBL.out⟩
     case measure => simp [Go.RowKit.intOf]; omega
  ·
   obtain rfl : o = 3 := by omega
   have HZ3 := hD (HZ.out.trans (preL_end _ _ _)); clear hlt ho HZ; go_wp2_with fail; go_ret; exact ⟨_, rfl, by rw [← HZ3.out]; exact HBL.out.larg (fun z hz => findL_BOk HVO.out z.1 (by rw [← HZ3.out]; exact List.mem_map.2 ⟨z, hz, rfl⟩)), HB4.out.trans (HBL.out.below.mono HB4.out.size)⟩
end Go.Proofs.YtjbjpkhibcnenaaGreatDoor
