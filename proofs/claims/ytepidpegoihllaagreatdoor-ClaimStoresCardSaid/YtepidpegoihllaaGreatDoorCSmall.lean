/- bournelaw45.small returns true. -/
import Derived.Outline
import Derived.Test.YtepidpegoihllaaGreatDoorCRead
import Derived.Test.YtepidpegoihllaaGreatDoorCEq
namespace Go.Proofs.YtepidpegoihllaaGreatDoor
open Go.RowKit
structure SmallC (k p e1 s1 e2 s2 e3 s3 : Int) (B1 B2 D : ByteArray) : Prop where
  key : ∀ w, Glob w → MLen w → Calls Tryz.prog 10 #[.string ⟨#[111, 102, 102, 105, 99, 101]⟩] w fun e w' => e = .returned (.agg #[.int .i64 k, .int .i64 p]) ∧ Below w.heap.size w w'
  sg1 : ∀ w, Glob w → MLen w → Calls Tryz.prog 11 #[.agg #[.int .i64 k, .int .i64 p], .agg #[.int .i64 1, .int .i64 5, .int .i64 7, .int .i64 3, .int .i64 4, .string ⟨#[]⟩, .int .i64 0, .int .i64 0]] w fun e w' => e = .returned (.agg #[.int .i64 1, .int .i64 5, .int .i64 7, .int .i64 3, .int .i64 4, .string ⟨#[]⟩, .int .i64 e1, .int .i64 s1]) ∧ Below w.heap.size w w'
  by1 : ∀ w, MLen w → Calls Tryz.prog 13 #[.agg #[.int .i64 1, .int .i64 5, .int .i64 7, .int .i64 3, .int .i64 4, .string ⟨#[]⟩, .int .i64 e1, .int .i64 s1]] w fun e w' => e = .returned (.string B1) ∧ Below w.heap.size w w'
  rd1 : ∀ w, Calls Tryz.prog 12 #[.string B1] w fun e w' => e = .returned (.tuple #[.agg #[.int .i64 1, .int .i64 5, .int .i64 7, .int .i64 3, .int .i64 4, .string ⟨#[]⟩, .int .i64 e1, .int .i64 s1], .bool true]) ∧ Below w.heap.size w w'
  rd0 : ∀ w, Calls Tryz.prog 12 #[.string ⟨#[]⟩] w fun e w' => e = .returned (.tuple #[.agg #[.int .i64 0, .int .i64 0, .int .i64 0, .int .i64 0, .int .i64 0, .string ⟨#[]⟩, .int .i64 0, .int .i64 0], .bool false]) ∧ Below w.heap.size w w'
  ch0 : ∀ w, Glob w → MLen w → Calls Tryz.prog 14 #[.slice none 0 0, .slice none 0 0] w fun e w' => ∃ a c, e = .returned (.tuple #[.slice a 0 c, .bool true]) ∧ Below w.heap.size w w'
  psg : ∀ w, Glob w → MLen w → Calls Tryz.prog 15 #[.agg #[.int .i64 k, .int .i64 p], .agg #[.int .i64 1, .int .i64 5, .int .i64 9, .int .i64 100, .int .i64 0, .int .i64 0]] w fun e w' => e = .returned (.agg #[.int .i64 1, .int .i64 5, .int .i64 9, .int .i64 100, .int .i64 e2, .int .i64 s2]) ∧ Below w.heap.size w w'
  pby : ∀ w, Calls Tryz.prog 17 #[.agg #[.int .i64 1, .int .i64 5, .int .i64 9, .int .i64 100, .int .i64 e2, .int .i64 s2]] w fun e w' => e = .returned (.string B2) ∧ Below w.heap.size w w'
  prd : ∀ w, Calls Tryz.prog 16 #[.string B2] w fun e w' => e = .returned (.tuple #[.agg #[.int .i64 1, .int .i64 5, .int .i64 9, .int .i64 100, .int .i64 e2, .int .i64 s2], .bool true]) ∧ Below w.heap.size w w'
  dig : ∀ w, Glob w → MLen w → Calls Tryz.prog 18 #[.agg #[.int .i64 1, .int .i64 5, .int .i64 7, .int .i64 3, .int .i64 4, .string ⟨#[]⟩, .int .i64 e1, .int .i64 s1]] w fun e w' => e = .returned (.string D) ∧ Below w.heap.size w w'
  sg2 : ∀ w, Glob w → MLen w → Calls Tryz.prog 11 #[.agg #[.int .i64 k, .int .i64 p], .agg #[.int .i64 1, .int .i64 6, .int .i64 0, .int .i64 0, .int .i64 0, .string D, .int .i64 0, .int .i64 0]] w fun e w' => e = .returned (.agg #[.int .i64 1, .int .i64 6, .int .i64 0, .int .i64 0, .int .i64 0, .string D, .int .i64 e3, .int .i64 s3]) ∧ Below w.heap.size w w'
  ch2 : ∀ w b1 b2, w.heap[b1]? = some (.cells #[.int .i64 0, .int .i64 p] 3) → w.heap[b2]? = some (.cells #[.int .i64 1, .int .i64 5, .int .i64 7, .int .i64 3, .int .i64 4, .string ⟨#[]⟩, .int .i64 e1, .int .i64 s1, .int .i64 1, .int .i64 6, .int .i64 0, .int .i64 0, .int .i64 0, .string D, .int .i64 e3, .int .i64 s3] 43) → Glob w → MLen w → Calls Tryz.prog 14 #[.slice (some ⟨b1, 0, none⟩) 2 2, .slice (some ⟨b2, 0, none⟩) 2 2] w fun e w' => ∃ a c, e = .returned (.tuple #[.slice a 2 c, .bool true]) ∧ Below w.heap.size w w'
  ver : ∀ w, Glob w → MLen w → Calls Tryz.prog 19 #[.int .i64 p, .agg #[.int .i64 1, .int .i64 5, .int .i64 7, .int .i64 3, .int .i64 4, .string ⟨#[]⟩, .int .i64 e1, .int .i64 s1]] w fun e w' => e = .returned (.bool true) ∧ Below w.heap.size w w'
  pver : ∀ w, Glob w → MLen w → Calls Tryz.prog 20 #[.int .i64 p, .agg #[.int .i64 1, .int .i64 5, .int .i64 9, .int .i64 100, .int .i64 e2, .int .i64 s2]] w fun e w' => e = .returned (.bool true) ∧ Below w.heap.size w w'
theorem own_len {w : World} {base size n : Nat} {e : TypeId} {v : Value} {xs : List Value} (h : w.ownsRow base e size v n xs) : ∃ a c, v = .slice a n c := by
  rcases h.2 with ⟨rfl, rfl⟩ | ⟨g, cap, cur, rfl, _⟩
  · exact ⟨none, 0, rfl⟩
  · exact ⟨some ⟨g, 0, none⟩, cap, rfl⟩
theorem isCh_all {ps : List Int} {l : List CV} {n : Nat} (h : IsCh ps l n) (ha : ∀ j, j < l.length → okCh ps l j = true) : n = l.length := by
  rcases h.2.2 with h1 | h1
  · exact h1
  · rcases Nat.lt_or_ge n l.length with h2 | h2
    · rw [ha n h2] at h1; cases h1
    · have := h.1; omega
theorem larg_ints {w : World} {b : Nat} {xs : List Int} {t : TypeId} (h : w.heap[b]? = some (.cells (xs.map (Value.int .i64)).toArray t)) (hx : ∀ x ∈ xs, I64 x) (hl : xs.length ≤ 1000) : LArg RInt 1 (.slice (some ⟨b, 0, none⟩) xs.length xs.length) xs w := by
  refine ⟨some ⟨b, 0, none⟩, xs.length, rfl, Nat.le_refl _, by unfold maxLen; omega, fun j x hj => ⟨b, 0, [.int .i64 x], rfl, blk_lt h, rfl, ?_, rfl, hx x (List.mem_of_getElem? hj)⟩⟩
  intro i u hi
  have hi0 : i = 0 := by
    have := (List.getElem?_eq_some_iff.1 hi).1
    simp at this
    omega
  subst hi0
  have e : u = .int .i64 x := by simpa using hi.symm
  subst e
  have h1 := cell_of_row _ _ (0 + j * 1 + 0) _ _ _ h
  rw [← Array.getElem?_toList] at h1
  refine h1.trans ?_
  rw [Nat.zero_add, Nat.mul_one, Nat.add_zero]
  show (xs.map (Value.int .i64))[j]? = _
  rw [List.getElem?_map, hj]
  rfl
theorem flat_get : ∀ (l : List CV) (k : Nat) (x : CV), l[k]? = some x → ∀ j v, (cellsC x)[j]? = some v → (l.flatMap cellsC)[k * 8 + j]? = some v
  | [], k, x, h, _, _, _ => by simp at h
  | y :: l, 0, x, h, j, v, hj => by
    simp only [List.getElem?_cons_zero, Option.some.injEq] at h
    subst h
    have hl := (List.getElem?_eq_some_iff.1 hj).1
    rw [List.flatMap_cons, Nat.zero_mul, Nat.zero_add, List.getElem?_append_left hl, hj]
  | y :: l, k + 1, x, h, j, v, hj => by
    have h8 : (cellsC y).length = 8 := rfl
    rw [List.flatMap_cons, List.getElem?_append_right (by rw [h8]; omega), h8]
    have e : (k + 1) * 8 + j - 8 = k * 8 + j := by omega
    rw [e]
    exact flat_get l k x (by simpa using h) j v hj
theorem larg_claims {w : World} {b c : Nat} {l : List CV} {cs : List Value} {t : TypeId} (h : w.heap[b]? = some (.cells cs.toArray t)) (hcs : ∀ (j : Nat) (u : Value), (l.flatMap cellsC)[j]? = some u → cs[j]? = some u) (hx : ∀ x ∈ l, COk x ∧ x.prev.size ≤ maxLen) (hc : l.length ≤ c) (hl : c ≤ maxLen) : LArg RC 8 (.slice (some ⟨b, 0, none⟩) l.length c) l w := by
  refine ⟨some ⟨b, 0, none⟩, c, rfl, hc, hl, fun j x hj => ⟨b, 0, cellsC x, rfl, blk_lt h, rfl, ?_, rfl, hx x (List.mem_of_getElem? hj)⟩⟩
  intro i u hi
  have h1 := cell_of_row _ _ (0 + j * 8 + i) _ _ _ h
  rw [← Array.getElem?_toList] at h1
  refine h1.trans ?_
  rw [Nat.zero_add]
  exact hcs _ _ (flat_get l j x hj i u hi)
theorem signR_ok {x : Nat} (h1 : 1 ≤ x) (h2 : x < 1152921504606845789) (c m : List UInt8) : signR (x : Int) (pubN x : Nat) c m = (((sgE x c m : Nat) : Int), ((sgS x c m : Nat) : Int)) := by
  unfold signR
  rw [if_pos ⟨by omega, by omega, by rw [Int.toNat_natCast]⟩, Int.toNat_natCast]
theorem i64_sg (x : Nat) (c m : List UInt8) : I64 ((sgE x c m : Nat) : Int) ∧ I64 ((sgS x c m : Nat) : Int) := by
  have h1 := sgE_lt x c m
  have h2 := sgS_lt x c m
  exact ⟨⟨by omega, by omega⟩, ⟨by omega, by omega⟩⟩
theorem i64_pubn (x : Nat) : I64 ((pubN x : Nat) : Int) := ⟨by have := (pub_in x).1; omega, by have := (pub_in x).2.1; omega⟩
theorem digB_size (c : CV) : (digB c).size = 32 := sumB_len _
theorem smallC : ∃ k p e1 s1 e2 s2 e3 s3 B1 B2 D, SmallC k p e1 s1 e2 s2 e3 s3 B1 B2 D := by
  obtain ⟨x, hx⟩ : ∃ x, x = keyN [111, 102, 102, 105, 99, 101] := ⟨_, rfl⟩
  have hb := keyN_bd [111, 102, 102, 105, 99, 101]
  rw [← hx] at hb
  have em1 : (⟨#[]⟩ : ByteArray).size ≤ 1000 := by decide
  have em9 : (⟨#[]⟩ : ByteArray).size ≤ 900 := by decide
  have emM : (⟨#[]⟩ : ByteArray).size ≤ maxLen := by decide
  have core1 : ∀ e s, coreC ⟨1, 5, 7, 3, 4, ⟨#[]⟩, e, s⟩ = coreC ⟨1, 5, 7, 3, 4, ⟨#[]⟩, 0, 0⟩ := fun _ _ => rfl
  obtain ⟨e1, he1⟩ : ∃ e : Int, e = (sgE x ctxC (coreC ⟨1, 5, 7, 3, 4, ⟨#[]⟩, 0, 0⟩) : Nat) := ⟨_, rfl⟩
  obtain ⟨s1, hs1⟩ : ∃ e : Int, e = (sgS x ctxC (coreC ⟨1, 5, 7, 3, 4, ⟨#[]⟩, 0, 0⟩) : Nat) := ⟨_, rfl⟩
  obtain ⟨e2, he2⟩ : ∃ e : Int, e = (sgE x ctxP (coreP ⟨1, 5, 9, 100, 0, 0⟩) : Nat) := ⟨_, rfl⟩
  obtain ⟨s2, hs2⟩ : ∃ e : Int, e = (sgS x ctxP (coreP ⟨1, 5, 9, 100, 0, 0⟩) : Nat) := ⟨_, rfl⟩
  have i1 : I64 e1 := by rw [he1]; exact (i64_sg _ _ _).1
  have i2 : I64 s1 := by rw [hs1]; exact (i64_sg _ _ _).2
  have i3 : I64 e2 := by rw [he2]; exact (i64_sg _ _ _).1
  have i4 : I64 s2 := by rw [hs2]; exact (i64_sg _ _ _).2
  have lit : ∀ n : Int, -1000 ≤ n ∧ n ≤ 1000 → I64 n := fun n h => ⟨by omega, by omega⟩
  have ok0 : COk ⟨1, 5, 7, 3, 4, ⟨#[]⟩, 0, 0⟩ := ⟨lit 1 (by omega), lit 5 (by omega), lit 7 (by omega), lit 3 (by omega), lit 4 (by omega), lit 0 (by omega), lit 0 (by omega)⟩
  have ok1 : COk ⟨1, 5, 7, 3, 4, ⟨#[]⟩, e1, s1⟩ := ⟨lit 1 (by omega), lit 5 (by omega), lit 7 (by omega), lit 3 (by omega), lit 4 (by omega), i1, i2⟩
  have pk0 : POk ⟨1, 5, 9, 100, 0, 0⟩ := ⟨lit 1 (by omega), lit 5 (by omega), lit 9 (by omega), lit 100 (by omega), lit 0 (by omega), lit 0 (by omega)⟩
  have pk1 : POk ⟨1, 5, 9, 100, e2, s2⟩ := ⟨lit 1 (by omega), lit 5 (by omega), lit 9 (by omega), lit 100 (by omega), i3, i4⟩
  obtain ⟨D, hD⟩ : ∃ D, D = digB ⟨1, 5, 7, 3, 4, ⟨#[]⟩, e1, s1⟩ := ⟨_, rfl⟩
  have hDs : D.size = 32 := by rw [hD]; exact digB_size _
  obtain ⟨e3, he3⟩ : ∃ e : Int, e = (sgE x ctxC (coreC ⟨1, 6, 0, 0, 0, D, 0, 0⟩) : Nat) := ⟨_, rfl⟩
  obtain ⟨s3, hs3⟩ : ∃ e : Int, e = (sgS x ctxC (coreC ⟨1, 6, 0, 0, 0, D, 0, 0⟩) : Nat) := ⟨_, rfl⟩
  have i5 : I64 e3 := by rw [he3]; exact (i64_sg _ _ _).1
  have i6 : I64 s3 := by rw [hs3]; exact (i64_sg _ _ _).2
  have okn0 : COk ⟨1, 6, 0, 0, 0, D, 0, 0⟩ := ⟨lit 1 (by omega), lit 6 (by omega), lit 0 (by omega), lit 0 (by omega), lit 0 (by omega), lit 0 (by omega), lit 0 (by omega)⟩
  have okn1 : COk ⟨1, 6, 0, 0, 0, D, e3, s3⟩ := ⟨lit 1 (by omega), lit 6 (by omega), lit 0 (by omega), lit 0 (by omega), lit 0 (by omega), i5, i6⟩
  have vc1 : VouchedC (pubN x : Nat) ⟨1, 5, 7, 3, 4, ⟨#[]⟩, e1, s1⟩ := by
    have h := ver_same hb.1 hb.2 ctxC (coreC ⟨1, 5, 7, 3, 4, ⟨#[]⟩, 0, 0⟩)
    rw [← he1, ← hs1] at h
    exact h
  have vn1 : VouchedC (pubN x : Nat) ⟨1, 6, 0, 0, 0, D, e3, s3⟩ := by
    have h := ver_same hb.1 hb.2 ctxC (coreC ⟨1, 6, 0, 0, 0, D, 0, 0⟩)
    rw [← he3, ← hs3] at h
    exact h
  have vp1 : VouchedP (pubN x : Nat) ⟨1, 5, 9, 100, e2, s2⟩ := by
    have h := ver_same hb.1 hb.2 ctxP (coreP ⟨1, 5, 9, 100, 0, 0⟩)
    rw [← he2, ← hs2] at h
    exact h
  refine ⟨(x : Nat), (pubN x : Nat), e1, s1, e2, s2, e3, s3, ⟨(bytesC ⟨1, 5, 7, 3, 4, ⟨#[]⟩, e1, s1⟩).toArray⟩, ⟨(bytesP ⟨1, 5, 9, 100, e2, s2⟩).toArray⟩, D, ⟨fun w hg hm => ?_, fun w hg hm => ?_, fun w hm => bytesC_any ⟨1, 5, 7, 3, 4, ⟨#[]⟩, e1, s1⟩ w ok1 em1 hm, fun w => ?_, fun w => ?_, fun w hg hm => ?_, fun w hg hm => ?_, fun w => bytesP_any ⟨1, 5, 9, 100, e2, s2⟩ w pk1, fun w => ?_, fun w hg hm => ?_, fun w hg hm => ?_, fun w b1 b2 h1 h2 hg hm => ?_, fun w hg hm => ?_, fun w hg hm => ?_⟩⟩
  · have h := key_any ⟨#[111, 102, 102, 105, 99, 101]⟩ w (by decide) hg hm
    rw [show (⟨#[111, 102, 102, 105, 99, 101]⟩ : ByteArray).data.toList = [111, 102, 102, 105, 99, 101] from rfl, ← hx] at h
    exact h
  · have h := signC_any (x : Nat) (pubN x : Nat) ⟨1, 5, 7, 3, 4, ⟨#[]⟩, 0, 0⟩ w ok0 (by decide) hg hm
    rw [signR_ok hb.1 hb.2, ← he1, ← hs1] at h
    exact h
  · have h := readC_any ⟨(bytesC ⟨1, 5, 7, 3, 4, ⟨#[]⟩, e1, s1⟩).toArray⟩ w (by have h2 := bytesC_len ok1 em1; show (bytesC _).length ≤ 10000; omega)
    rw [arrL, readC_enc ok1] at h
    exact h
  · have h := readC_any ⟨#[]⟩ w (by decide)
    rw [show readC (⟨#[]⟩ : ByteArray).data.toList = (zeroC, false) from readC_not (by decide)] at h
    exact h
  · refine (chain_any [] [] _ _ w ⟨none, 0, rfl, Nat.le_refl _, by decide, fun j y hj => by simp at hj⟩ ⟨none, 0, rfl, Nat.le_refl _, by decide, fun j y hj => by simp at hj⟩ (by decide) (by decide) (fun c hc => by cases hc) hg hm).mono ?_
    rintro e w' ⟨n, v, hn, rfl, hown, hb⟩
    have hn0 : n = 0 := isCh_all hn (fun j hj => by simp at hj)
    subst hn0
    obtain ⟨a, c, rfl⟩ := own_len hown
    exact ⟨a, c, rfl, hb⟩
  · have h := signP_any (x : Nat) (pubN x : Nat) ⟨1, 5, 9, 100, 0, 0⟩ w pk0 hg hm
    rw [signR_ok hb.1 hb.2, ← he2, ← hs2] at h
    exact h
  · have h := readP_any ⟨(bytesP ⟨1, 5, 9, 100, e2, s2⟩).toArray⟩ w (by have h2 := coreP_len pk1; have h3 := intL_len i3; have h4 := intL_len i4; show (bytesP _).length ≤ 10000; simp only [bytesP, List.length_append]; omega)
    rw [arrL, readP_enc pk1] at h
    exact h
  · have h := digestC_any ⟨1, 5, 7, 3, 4, ⟨#[]⟩, e1, s1⟩ w ok1 em1 hg hm
    rw [hD]
    exact h
  · have h := signC_any (x : Nat) (pubN x : Nat) ⟨1, 6, 0, 0, 0, D, 0, 0⟩ w okn0 (by show D.size ≤ 900; omega) hg hm
    rw [signR_ok hb.1 hb.2, ← he3, ← hs3] at h
    exact h
  · refine (chain_any [0, (pubN x : Nat)] [⟨1, 5, 7, 3, 4, ⟨#[]⟩, e1, s1⟩, ⟨1, 6, 0, 0, 0, D, e3, s3⟩] _ _ w (larg_ints h1 ?_ (by simp)) (larg_claims (c := 2) h2 (fun j u h => h) ?_ (Nat.le_refl _) (by decide)) (by simp) (by simp) ?_ hg hm).mono ?_
    · intro y hy
      simp only [List.mem_cons, List.not_mem_nil, or_false] at hy
      rcases hy with rfl | rfl
      · exact lit _ (by omega)
      · exact i64_pubn x
    · intro y hy
      simp only [List.mem_cons, List.not_mem_nil, or_false] at hy
      rcases hy with rfl | rfl
      · exact ⟨ok1, emM⟩
      · exact ⟨okn1, by show D.size ≤ maxLen; rw [hDs]; decide⟩
    · intro y hy
      simp only [List.mem_cons, List.not_mem_nil, or_false] at hy
      rcases hy with rfl | rfl
      · exact em9
      · show D.size ≤ 900
        omega
    · rintro e w' ⟨n, v, hn, rfl, hown, hbl⟩
      have hn0 : n = 2 := isCh_all hn (fun j hj => by
        have hj2 : j < 2 := hj
        rcases (show j = 0 ∨ j = 1 by omega) with rfl | rfl
        · rw [ok_here (c := ⟨1, 5, 7, 3, 4, ⟨#[]⟩, e1, s1⟩) rfl]
          have a1 : q1 [0, (pubN x : Nat)] ⟨1, 5, 7, 3, 4, ⟨#[]⟩, e1, s1⟩ = true := decide_eq_true ⟨by show (0 : Int) ≤ 1; omega, by show (1 : Int) < 2; omega⟩
          have a2 : q2 [0, (pubN x : Nat)] ⟨1, 5, 7, 3, 4, ⟨#[]⟩, e1, s1⟩ = true := decide_eq_true vc1
          have a3 : q3 0 ⟨1, 5, 7, 3, 4, ⟨#[]⟩, e1, s1⟩ = true := decide_eq_true (Or.inr rfl)
          rw [a1, a2, a3]
          rfl
        · rw [ok_here (c := ⟨1, 6, 0, 0, 0, D, e3, s3⟩) rfl]
          have a1 : q1 [0, (pubN x : Nat)] ⟨1, 6, 0, 0, 0, D, e3, s3⟩ = true := decide_eq_true ⟨by show (0 : Int) ≤ 1; omega, by show (1 : Int) < 2; omega⟩
          have a2 : q2 [0, (pubN x : Nat)] ⟨1, 6, 0, 0, 0, D, e3, s3⟩ = true := decide_eq_true vn1
          have a3 : q3 1 ⟨1, 6, 0, 0, 0, D, e3, s3⟩ = true := decide_eq_true (Or.inl (by omega))
          have a4 : q4 [⟨1, 5, 7, 3, 4, ⟨#[]⟩, e1, s1⟩, ⟨1, 6, 0, 0, 0, D, e3, s3⟩] 1 ⟨1, 6, 0, 0, 0, D, e3, s3⟩ = true := by
            unfold q4
            rw [if_neg (by decide)]
            exact decide_eq_true ⟨rfl, by show (5 : Int) < 6; omega⟩
          have a5 : q5 [⟨1, 5, 7, 3, 4, ⟨#[]⟩, e1, s1⟩, ⟨1, 6, 0, 0, 0, D, e3, s3⟩] 1 ⟨1, 6, 0, 0, 0, D, e3, s3⟩ = true := by
            unfold q5
            rw [if_neg (by decide)]
            exact decide_eq_true hD
          rw [a1, a2, a3, a4, a5]
          rfl)
      subst hn0
      obtain ⟨a, c, rfl⟩ := own_len hown
      exact ⟨a, c, rfl, hbl⟩
  · have h := verifyC_any (pubN x : Nat) ⟨1, 5, 7, 3, 4, ⟨#[]⟩, e1, s1⟩ w (i64_pubn x) ok1 (Nat.le_trans em9 (by decide)) hg hm
    rw [decide_eq_true vc1] at h
    exact h
  · have h := verifyP_any (pubN x : Nat) ⟨1, 5, 9, 100, e2, s2⟩ w (i64_pubn x) pk1 hg hm
    rw [decide_eq_true vp1] at h
    exact h
theorem small_step {w cur w' : World} {k0 k1 k2 k3 k4 : Nat} {A0 A1 A2 A3 A4 : Obj} {v0 v1 v2 v3 v4 v5 v6 v7 v8 v9 : Value} (h : cur.heap[k0]? = some A0 ∧ cur.heap[k1]? = some A1 ∧ cur.heap[k2]? = some A2 ∧ cur.heap[k3]? = some A3 ∧ cur.heap[k4]? = some A4 ∧ cur.cell? ⟨k0, 0, none⟩ = some v0 ∧ cur.cell? ⟨k0, 1, none⟩ = some v1 ∧ cur.cell? ⟨k1, 0, none⟩ = some v2 ∧ cur.cell? ⟨k1, 1, none⟩ = some v3 ∧ cur.cell? ⟨k1, 2, none⟩ = some v4 ∧ cur.cell? ⟨k1, 3, none⟩ = some v5 ∧ cur.cell? ⟨k1, 4, none⟩ = some v6 ∧ cur.cell? ⟨k1, 5, none⟩ = some v7 ∧ cur.cell? ⟨k1, 6, none⟩ = some v8 ∧ cur.cell? ⟨k1, 7, none⟩ = some v9 ∧ Below w.heap.size w cur) (hb : Below cur.heap.size cur w') : w'.heap[k0]? = some A0 ∧ w'.heap[k1]? = some A1 ∧ w'.heap[k2]? = some A2 ∧ w'.heap[k3]? = some A3 ∧ w'.heap[k4]? = some A4 ∧ w'.cell? ⟨k0, 0, none⟩ = some v0 ∧ w'.cell? ⟨k0, 1, none⟩ = some v1 ∧ w'.cell? ⟨k1, 0, none⟩ = some v2 ∧ w'.cell? ⟨k1, 1, none⟩ = some v3 ∧ w'.cell? ⟨k1, 2, none⟩ = some v4 ∧ w'.cell? ⟨k1, 3, none⟩ = some v5 ∧ w'.cell? ⟨k1, 4, none⟩ = some v6 ∧ w'.cell? ⟨k1, 5, none⟩ = some v7 ∧ w'.cell? ⟨k1, 6, none⟩ = some v8 ∧ w'.cell? ⟨k1, 7, none⟩ = some v9 ∧ Below w.heap.size w w' := by
  obtain ⟨a0, a1, a2, a3, a4, c0, c1, c2, c3, c4, c5, c6, c7, c8, c9, d⟩ := h
  exact ⟨blk_below a0 hb (blk_lt a0), blk_below a1 hb (blk_lt a1), blk_below a2 hb (blk_lt a2), blk_below a3 hb (blk_lt a3), blk_below a4 hb (blk_lt a4), (hb.cell (p := ⟨_, 0, none⟩) (blk_lt a0)).trans c0, (hb.cell (p := ⟨_, 1, none⟩) (blk_lt a0)).trans c1, (hb.cell (p := ⟨_, 0, none⟩) (blk_lt a1)).trans c2, (hb.cell (p := ⟨_, 1, none⟩) (blk_lt a1)).trans c3, (hb.cell (p := ⟨_, 2, none⟩) (blk_lt a1)).trans c4, (hb.cell (p := ⟨_, 3, none⟩) (blk_lt a1)).trans c5, (hb.cell (p := ⟨_, 4, none⟩) (blk_lt a1)).trans c6, (hb.cell (p := ⟨_, 5, none⟩) (blk_lt a1)).trans c7, (hb.cell (p := ⟨_, 6, none⟩) (blk_lt a1)).trans c8, (hb.cell (p := ⟨_, 7, none⟩) (blk_lt a1)).trans c9, d.trans (hb.mono d.size)⟩
theorem small_stepA {w cur : World} {k0 k1 k2 k3 k4 : Nat} {A0 A1 A2 A3 A4 : Obj} {v0 v1 v2 v3 v4 v5 v6 v7 v8 v9 : Value} {o : Obj} (h : cur.heap[k0]? = some A0 ∧ cur.heap[k1]? = some A1 ∧ cur.heap[k2]? = some A2 ∧ cur.heap[k3]? = some A3 ∧ cur.heap[k4]? = some A4 ∧ cur.cell? ⟨k0, 0, none⟩ = some v0 ∧ cur.cell? ⟨k0, 1, none⟩ = some v1 ∧ cur.cell? ⟨k1, 0, none⟩ = some v2 ∧ cur.cell? ⟨k1, 1, none⟩ = some v3 ∧ cur.cell? ⟨k1, 2, none⟩ = some v4 ∧ cur.cell? ⟨k1, 3, none⟩ = some v5 ∧ cur.cell? ⟨k1, 4, none⟩ = some v6 ∧ cur.cell? ⟨k1, 5, none⟩ = some v7 ∧ cur.cell? ⟨k1, 6, none⟩ = some v8 ∧ cur.cell? ⟨k1, 7, none⟩ = some v9 ∧ Below w.heap.size w cur) : (cur.alloc o).heap[k0]? = some A0 ∧ (cur.alloc o).heap[k1]? = some A1 ∧ (cur.alloc o).heap[k2]? = some A2 ∧ (cur.alloc o).heap[k3]? = some A3 ∧ (cur.alloc o).heap[k4]? = some A4 ∧ (cur.alloc o).cell? ⟨k0, 0, none⟩ = some v0 ∧ (cur.alloc o).cell? ⟨k0, 1, none⟩ = some v1 ∧ (cur.alloc o).cell? ⟨k1, 0, none⟩ = some v2 ∧ (cur.alloc o).cell? ⟨k1, 1, none⟩ = some v3 ∧ (cur.alloc o).cell? ⟨k1, 2, none⟩ = some v4 ∧ (cur.alloc o).cell? ⟨k1, 3, none⟩ = some v5 ∧ (cur.alloc o).cell? ⟨k1, 4, none⟩ = some v6 ∧ (cur.alloc o).cell? ⟨k1, 5, none⟩ = some v7 ∧ (cur.alloc o).cell? ⟨k1, 6, none⟩ = some v8 ∧ (cur.alloc o).cell? ⟨k1, 7, none⟩ = some v9 ∧ Below w.heap.size w (cur.alloc o) := small_step h ((Below.refl _ _).alloc (Nat.le_refl _) o)
theorem small_stepS {w cur : World} {b j : Nat} {x : Value} {k0 k1 k2 k3 k4 : Nat} {A0 A1 A2 A3 A4 : Obj} {v0 v1 v2 v3 v4 v5 v6 v7 v8 v9 : Value} (h : cur.heap[k0]? = some A0 ∧ cur.heap[k1]? = some A1 ∧ cur.heap[k2]? = some A2 ∧ cur.heap[k3]? = some A3 ∧ cur.heap[k4]? = some A4 ∧ cur.cell? ⟨k0, 0, none⟩ = some v0 ∧ cur.cell? ⟨k0, 1, none⟩ = some v1 ∧ cur.cell? ⟨k1, 0, none⟩ = some v2 ∧ cur.cell? ⟨k1, 1, none⟩ = some v3 ∧ cur.cell? ⟨k1, 2, none⟩ = some v4 ∧ cur.cell? ⟨k1, 3, none⟩ = some v5 ∧ cur.cell? ⟨k1, 4, none⟩ = some v6 ∧ cur.cell? ⟨k1, 5, none⟩ = some v7 ∧ cur.cell? ⟨k1, 6, none⟩ = some v8 ∧ cur.cell? ⟨k1, 7, none⟩ = some v9 ∧ Below w.heap.size w cur) (hle : w.heap.size ≤ b) (hn0 : k0 ≠ b) (hn1 : k1 ≠ b) (hn2 : k2 ≠ b) (hn3 : k3 ≠ b) (hn4 : k4 ≠ b) : (cur.setCell ⟨b, j, none⟩ x).heap[k0]? = some A0 ∧ (cur.setCell ⟨b, j, none⟩ x).heap[k1]? = some A1 ∧ (cur.setCell ⟨b, j, none⟩ x).heap[k2]? = some A2 ∧ (cur.setCell ⟨b, j, none⟩ x).heap[k3]? = some A3 ∧ (cur.setCell ⟨b, j, none⟩ x).heap[k4]? = some A4 ∧ (cur.setCell ⟨b, j, none⟩ x).cell? ⟨k0, 0, none⟩ = some v0 ∧ (cur.setCell ⟨b, j, none⟩ x).cell? ⟨k0, 1, none⟩ = some v1 ∧ (cur.setCell ⟨b, j, none⟩ x).cell? ⟨k1, 0, none⟩ = some v2 ∧ (cur.setCell ⟨b, j, none⟩ x).cell? ⟨k1, 1, none⟩ = some v3 ∧ (cur.setCell ⟨b, j, none⟩ x).cell? ⟨k1, 2, none⟩ = some v4 ∧ (cur.setCell ⟨b, j, none⟩ x).cell? ⟨k1, 3, none⟩ = some v5 ∧ (cur.setCell ⟨b, j, none⟩ x).cell? ⟨k1, 4, none⟩ = some v6 ∧ (cur.setCell ⟨b, j, none⟩ x).cell? ⟨k1, 5, none⟩ = some v7 ∧ (cur.setCell ⟨b, j, none⟩ x).cell? ⟨k1, 6, none⟩ = some v8 ∧ (cur.setCell ⟨b, j, none⟩ x).cell? ⟨k1, 7, none⟩ = some v9 ∧ Below w.heap.size w (cur.setCell ⟨b, j, none⟩ x) := by
  obtain ⟨a0, a1, a2, a3, a4, c0, c1, c2, c3, c4, c5, c6, c7, c8, c9, d⟩ := h
  have e0 : (cur.setCell ⟨b, j, none⟩ x).heap[k0]? = cur.heap[k0]? := heap_setCell_other _ _ _ _ hn0
  have e1 : (cur.setCell ⟨b, j, none⟩ x).heap[k1]? = cur.heap[k1]? := heap_setCell_other _ _ _ _ hn1
  have e2 : (cur.setCell ⟨b, j, none⟩ x).heap[k2]? = cur.heap[k2]? := heap_setCell_other _ _ _ _ hn2
  have e3 : (cur.setCell ⟨b, j, none⟩ x).heap[k3]? = cur.heap[k3]? := heap_setCell_other _ _ _ _ hn3
  have e4 : (cur.setCell ⟨b, j, none⟩ x).heap[k4]? = cur.heap[k4]? := heap_setCell_other _ _ _ _ hn4
  exact ⟨e0.trans a0, e1.trans a1, e2.trans a2, e3.trans a3, e4.trans a4, (by rw [← c0]; unfold World.cell?; rw [e0]), (by rw [← c1]; unfold World.cell?; rw [e0]), (by rw [← c2]; unfold World.cell?; rw [e1]), (by rw [← c3]; unfold World.cell?; rw [e1]), (by rw [← c4]; unfold World.cell?; rw [e1]), (by rw [← c5]; unfold World.cell?; rw [e1]), (by rw [← c6]; unfold World.cell?; rw [e1]), (by rw [← c7]; unfold World.cell?; rw [e1]), (by rw [← c8]; unfold World.cell?; rw [e1]), (by rw [← c9]; unfold World.cell?; rw [e1]), d.setCell hle _⟩
set_option maxRecDepth 100000 in
set_option maxHeartbeats 8000000 in
theorem small_any (w : World) (hg : Glob w) (hml : MLen w) :
    Calls Tryz.prog 4 #[] w fun e w' => e = .returned (.bool true) ∧ Below w.heap.size w w' := by
  obtain ⟨k, p, e1, s1, e2, s2, e3, s3, B1, B2, D, hF⟩ := smallC
  have HF := Lib.hid hF
  have HG := Lib.hid hg
  have HM := Lib.hid hml
  clear hF hg hml
  go_enter Tryz.func4, Tryz.ntmps4
  go_wp2_with fail
  refine (HF.out.key _ HG.out HM.out).mono ?_
  rintro e w1 ⟨rfl, hb⟩
  have HB1 := Lib.hid hb
  clear hb
  go_upto_region 2 with fail
  have HB2 := Lib.hid (HB1.out.alloc HB1.out.size (.cells #[.int .i64 k, .int .i64 p] 48))
  have Kh2 := Lib.hid (heap_alloc_new w1 (.cells #[.int .i64 k, .int .i64 p] 48))
  clear HB1
  generalize w1.heap.size = bK at *
  generalize w1.alloc (.cells #[.int .i64 k, .int .i64 p] 48) = w2 at *
  have cK0 : w2.cell? ⟨bK, 0, none⟩ = some (.int .i64 k) := (cell_of_row _ _ _ _ _ _ Kh2.out).trans rfl
  have cK1 : w2.cell? ⟨bK, 1, none⟩ = some (.int .i64 p) := (cell_of_row _ _ _ _ _ _ Kh2.out).trans rfl
  go_wp2_with fail
  refine (HF.out.sg1 _ (HG.out.below HB2.out HG.out.size) (HM.out.up HB2.out)).mono ?_
  rintro e w3 ⟨rfl, hb⟩
  have HB3 := Lib.hid (HB2.out.trans (hb.mono HB2.out.size))
  have Kh3 := Lib.hid (blk_below Kh2.out hb (blk_lt Kh2.out))
  clear cK0 cK1
  clear HB2 Kh2
  clear hb
  have cK0 : w3.cell? ⟨bK, 0, none⟩ = some (.int .i64 k) := (cell_of_row _ _ _ _ _ _ Kh3.out).trans rfl
  have cK1 : w3.cell? ⟨bK, 1, none⟩ = some (.int .i64 p) := (cell_of_row _ _ _ _ _ _ Kh3.out).trans rfl
  go_upto_region 3 with fail
  have HB4 := Lib.hid (HB3.out.alloc HB3.out.size (.cells #[.int .i64 1, .int .i64 5, .int .i64 7, .int .i64 3, .int .i64 4, .string ⟨#[]⟩, .int .i64 e1, .int .i64 s1] 43))
  have Ch4 := Lib.hid (heap_alloc_new w3 (.cells #[.int .i64 1, .int .i64 5, .int .i64 7, .int .i64 3, .int .i64 4, .string ⟨#[]⟩, .int .i64 e1, .int .i64 s1] 43))
  have Kh4 := Lib.hid (blk_below Kh3.out ((Below.refl w3.heap.size w3).alloc (Nat.le_refl _) (.cells #[.int .i64 1, .int .i64 5, .int .i64 7, .int .i64 3, .int .i64 4, .string ⟨#[]⟩, .int .i64 e1, .int .i64 s1] 43)) (blk_lt Kh3.out))
  clear cK0 cK1
  clear HB3 Kh3
  generalize w3.heap.size = bC at *
  generalize w3.alloc (.cells #[.int .i64 1, .int .i64 5, .int .i64 7, .int .i64 3, .int .i64 4, .string ⟨#[]⟩, .int .i64 e1, .int .i64 s1] 43) = w4 at *
  have cK0 : w4.cell? ⟨bK, 0, none⟩ = some (.int .i64 k) := (cell_of_row _ _ _ _ _ _ Kh4.out).trans rfl
  have cK1 : w4.cell? ⟨bK, 1, none⟩ = some (.int .i64 p) := (cell_of_row _ _ _ _ _ _ Kh4.out).trans rfl
  have cC0 : w4.cell? ⟨bC, 0, none⟩ = some (.int .i64 1) := (cell_of_row _ _ _ _ _ _ Ch4.out).trans rfl
  have cC1 : w4.cell? ⟨bC, 1, none⟩ = some (.int .i64 5) := (cell_of_row _ _ _ _ _ _ Ch4.out).trans rfl
  have cC2 : w4.cell? ⟨bC, 2, none⟩ = some (.int .i64 7) := (cell_of_row _ _ _ _ _ _ Ch4.out).trans rfl
  have cC3 : w4.cell? ⟨bC, 3, none⟩ = some (.int .i64 3) := (cell_of_row _ _ _ _ _ _ Ch4.out).trans rfl
  have cC4 : w4.cell? ⟨bC, 4, none⟩ = some (.int .i64 4) := (cell_of_row _ _ _ _ _ _ Ch4.out).trans rfl
  have cC5 : w4.cell? ⟨bC, 5, none⟩ = some (.string ⟨#[]⟩) := (cell_of_row _ _ _ _ _ _ Ch4.out).trans rfl
  have cC6 : w4.cell? ⟨bC, 6, none⟩ = some (.int .i64 e1) := (cell_of_row _ _ _ _ _ _ Ch4.out).trans rfl
  have cC7 : w4.cell? ⟨bC, 7, none⟩ = some (.int .i64 s1) := (cell_of_row _ _ _ _ _ _ Ch4.out).trans rfl
  go_wp2_with fail
  refine (HF.out.by1 _ (HM.out.up HB4.out)).mono ?_
  rintro e w5 ⟨rfl, hb⟩
  have HB5 := Lib.hid (HB4.out.trans (hb.mono HB4.out.size))
  have Kh5 := Lib.hid (blk_below Kh4.out hb (blk_lt Kh4.out))
  have Ch5 := Lib.hid (blk_below Ch4.out hb (blk_lt Ch4.out))
  clear cK0 cK1 cC0 cC1 cC2 cC3 cC4 cC5 cC6 cC7
  clear HB4 Kh4 Ch4
  clear hb
  have cK0 : w5.cell? ⟨bK, 0, none⟩ = some (.int .i64 k) := (cell_of_row _ _ _ _ _ _ Kh5.out).trans rfl
  have cK1 : w5.cell? ⟨bK, 1, none⟩ = some (.int .i64 p) := (cell_of_row _ _ _ _ _ _ Kh5.out).trans rfl
  have cC0 : w5.cell? ⟨bC, 0, none⟩ = some (.int .i64 1) := (cell_of_row _ _ _ _ _ _ Ch5.out).trans rfl
  have cC1 : w5.cell? ⟨bC, 1, none⟩ = some (.int .i64 5) := (cell_of_row _ _ _ _ _ _ Ch5.out).trans rfl
  have cC2 : w5.cell? ⟨bC, 2, none⟩ = some (.int .i64 7) := (cell_of_row _ _ _ _ _ _ Ch5.out).trans rfl
  have cC3 : w5.cell? ⟨bC, 3, none⟩ = some (.int .i64 3) := (cell_of_row _ _ _ _ _ _ Ch5.out).trans rfl
  have cC4 : w5.cell? ⟨bC, 4, none⟩ = some (.int .i64 4) := (cell_of_row _ _ _ _ _ _ Ch5.out).trans rfl
  have cC5 : w5.cell? ⟨bC, 5, none⟩ = some (.string ⟨#[]⟩) := (cell_of_row _ _ _ _ _ _ Ch5.out).trans rfl
  have cC6 : w5.cell? ⟨bC, 6, none⟩ = some (.int .i64 e1) := (cell_of_row _ _ _ _ _ _ Ch5.out).trans rfl
  have cC7 : w5.cell? ⟨bC, 7, none⟩ = some (.int .i64 s1) := (cell_of_row _ _ _ _ _ _ Ch5.out).trans rfl
  go_wp2_with fail
  refine (HF.out.rd1 _).mono ?_
  rintro e w6 ⟨rfl, hb⟩
  have HB6 := Lib.hid (HB5.out.trans (hb.mono HB5.out.size))
  have Kh6 := Lib.hid (blk_below Kh5.out hb (blk_lt Kh5.out))
  have Ch6 := Lib.hid (blk_below Ch5.out hb (blk_lt Ch5.out))
  clear cK0 cK1 cC0 cC1 cC2 cC3 cC4 cC5 cC6 cC7
  clear HB5 Kh5 Ch5
  clear hb
  have cK0 : w6.cell? ⟨bK, 0, none⟩ = some (.int .i64 k) := (cell_of_row _ _ _ _ _ _ Kh6.out).trans rfl
  have cK1 : w6.cell? ⟨bK, 1, none⟩ = some (.int .i64 p) := (cell_of_row _ _ _ _ _ _ Kh6.out).trans rfl
  have cC0 : w6.cell? ⟨bC, 0, none⟩ = some (.int .i64 1) := (cell_of_row _ _ _ _ _ _ Ch6.out).trans rfl
  have cC1 : w6.cell? ⟨bC, 1, none⟩ = some (.int .i64 5) := (cell_of_row _ _ _ _ _ _ Ch6.out).trans rfl
  have cC2 : w6.cell? ⟨bC, 2, none⟩ = some (.int .i64 7) := (cell_of_row _ _ _ _ _ _ Ch6.out).trans rfl
  have cC3 : w6.cell? ⟨bC, 3, none⟩ = some (.int .i64 3) := (cell_of_row _ _ _ _ _ _ Ch6.out).trans rfl
  have cC4 : w6.cell? ⟨bC, 4, none⟩ = some (.int .i64 4) := (cell_of_row _ _ _ _ _ _ Ch6.out).trans rfl
  have cC5 : w6.cell? ⟨bC, 5, none⟩ = some (.string ⟨#[]⟩) := (cell_of_row _ _ _ _ _ _ Ch6.out).trans rfl
  have cC6 : w6.cell? ⟨bC, 6, none⟩ = some (.int .i64 e1) := (cell_of_row _ _ _ _ _ _ Ch6.out).trans rfl
  have cC7 : w6.cell? ⟨bC, 7, none⟩ = some (.int .i64 s1) := (cell_of_row _ _ _ _ _ _ Ch6.out).trans rfl
  go_upto_region 4 with fail
  have HB7 := Lib.hid (HB6.out.alloc HB6.out.size (.cells #[.int .i64 1, .int .i64 5, .int .i64 7, .int .i64 3, .int .i64 4, .string ⟨#[]⟩, .int .i64 e1, .int .i64 s1] 43))
  have Xh7 := Lib.hid (heap_alloc_new w6 (.cells #[.int .i64 1, .int .i64 5, .int .i64 7, .int .i64 3, .int .i64 4, .string ⟨#[]⟩, .int .i64 e1, .int .i64 s1] 43))
  have Kh7 := Lib.hid (blk_below Kh6.out ((Below.refl w6.heap.size w6).alloc (Nat.le_refl _) (.cells #[.int .i64 1, .int .i64 5, .int .i64 7, .int .i64 3, .int .i64 4, .string ⟨#[]⟩, .int .i64 e1, .int .i64 s1] 43)) (blk_lt Kh6.out))
  have Ch7 := Lib.hid (blk_below Ch6.out ((Below.refl w6.heap.size w6).alloc (Nat.le_refl _) (.cells #[.int .i64 1, .int .i64 5, .int .i64 7, .int .i64 3, .int .i64 4, .string ⟨#[]⟩, .int .i64 e1, .int .i64 s1] 43)) (blk_lt Ch6.out))
  clear cK0 cK1 cC0 cC1 cC2 cC3 cC4 cC5 cC6 cC7
  clear HB6 Kh6 Ch6
  generalize w6.heap.size = bX at *
  generalize w6.alloc (.cells #[.int .i64 1, .int .i64 5, .int .i64 7, .int .i64 3, .int .i64 4, .string ⟨#[]⟩, .int .i64 e1, .int .i64 s1] 43) = w7 at *
  have cK0 : w7.cell? ⟨bK, 0, none⟩ = some (.int .i64 k) := (cell_of_row _ _ _ _ _ _ Kh7.out).trans rfl
  have cK1 : w7.cell? ⟨bK, 1, none⟩ = some (.int .i64 p) := (cell_of_row _ _ _ _ _ _ Kh7.out).trans rfl
  have cC0 : w7.cell? ⟨bC, 0, none⟩ = some (.int .i64 1) := (cell_of_row _ _ _ _ _ _ Ch7.out).trans rfl
  have cC1 : w7.cell? ⟨bC, 1, none⟩ = some (.int .i64 5) := (cell_of_row _ _ _ _ _ _ Ch7.out).trans rfl
  have cC2 : w7.cell? ⟨bC, 2, none⟩ = some (.int .i64 7) := (cell_of_row _ _ _ _ _ _ Ch7.out).trans rfl
  have cC3 : w7.cell? ⟨bC, 3, none⟩ = some (.int .i64 3) := (cell_of_row _ _ _ _ _ _ Ch7.out).trans rfl
  have cC4 : w7.cell? ⟨bC, 4, none⟩ = some (.int .i64 4) := (cell_of_row _ _ _ _ _ _ Ch7.out).trans rfl
  have cC5 : w7.cell? ⟨bC, 5, none⟩ = some (.string ⟨#[]⟩) := (cell_of_row _ _ _ _ _ _ Ch7.out).trans rfl
  have cC6 : w7.cell? ⟨bC, 6, none⟩ = some (.int .i64 e1) := (cell_of_row _ _ _ _ _ _ Ch7.out).trans rfl
  have cC7 : w7.cell? ⟨bC, 7, none⟩ = some (.int .i64 s1) := (cell_of_row _ _ _ _ _ _ Ch7.out).trans rfl
  have cX0 : w7.cell? ⟨bX, 0, none⟩ = some (.int .i64 1) := (cell_of_row _ _ _ _ _ _ Xh7.out).trans rfl
  have cX1 : w7.cell? ⟨bX, 1, none⟩ = some (.int .i64 5) := (cell_of_row _ _ _ _ _ _ Xh7.out).trans rfl
  have cX2 : w7.cell? ⟨bX, 2, none⟩ = some (.int .i64 7) := (cell_of_row _ _ _ _ _ _ Xh7.out).trans rfl
  have cX3 : w7.cell? ⟨bX, 3, none⟩ = some (.int .i64 3) := (cell_of_row _ _ _ _ _ _ Xh7.out).trans rfl
  have cX4 : w7.cell? ⟨bX, 4, none⟩ = some (.int .i64 4) := (cell_of_row _ _ _ _ _ _ Xh7.out).trans rfl
  have cX5 : w7.cell? ⟨bX, 5, none⟩ = some (.string ⟨#[]⟩) := (cell_of_row _ _ _ _ _ _ Xh7.out).trans rfl
  have cX6 : w7.cell? ⟨bX, 6, none⟩ = some (.int .i64 e1) := (cell_of_row _ _ _ _ _ _ Xh7.out).trans rfl
  have cX7 : w7.cell? ⟨bX, 7, none⟩ = some (.int .i64 s1) := (cell_of_row _ _ _ _ _ _ Xh7.out).trans rfl
  go_wp2_with fail
  refine (HF.out.ch0 _ (HG.out.below HB7.out HG.out.size) (HM.out.up HB7.out)).mono ?_
  rintro e w8 ⟨a0, k0, rfl, hb⟩
  have HB8 := Lib.hid (HB7.out.trans (hb.mono HB7.out.size))
  have Kh8 := Lib.hid (blk_below Kh7.out hb (blk_lt Kh7.out))
  have Ch8 := Lib.hid (blk_below Ch7.out hb (blk_lt Ch7.out))
  have Xh8 := Lib.hid (blk_below Xh7.out hb (blk_lt Xh7.out))
  clear cK0 cK1 cC0 cC1 cC2 cC3 cC4 cC5 cC6 cC7 cX0 cX1 cX2 cX3 cX4 cX5 cX6 cX7
  clear HB7 Kh7 Ch7 Xh7
  clear hb
  have cK0 : w8.cell? ⟨bK, 0, none⟩ = some (.int .i64 k) := (cell_of_row _ _ _ _ _ _ Kh8.out).trans rfl
  have cK1 : w8.cell? ⟨bK, 1, none⟩ = some (.int .i64 p) := (cell_of_row _ _ _ _ _ _ Kh8.out).trans rfl
  have cC0 : w8.cell? ⟨bC, 0, none⟩ = some (.int .i64 1) := (cell_of_row _ _ _ _ _ _ Ch8.out).trans rfl
  have cC1 : w8.cell? ⟨bC, 1, none⟩ = some (.int .i64 5) := (cell_of_row _ _ _ _ _ _ Ch8.out).trans rfl
  have cC2 : w8.cell? ⟨bC, 2, none⟩ = some (.int .i64 7) := (cell_of_row _ _ _ _ _ _ Ch8.out).trans rfl
  have cC3 : w8.cell? ⟨bC, 3, none⟩ = some (.int .i64 3) := (cell_of_row _ _ _ _ _ _ Ch8.out).trans rfl
  have cC4 : w8.cell? ⟨bC, 4, none⟩ = some (.int .i64 4) := (cell_of_row _ _ _ _ _ _ Ch8.out).trans rfl
  have cC5 : w8.cell? ⟨bC, 5, none⟩ = some (.string ⟨#[]⟩) := (cell_of_row _ _ _ _ _ _ Ch8.out).trans rfl
  have cC6 : w8.cell? ⟨bC, 6, none⟩ = some (.int .i64 e1) := (cell_of_row _ _ _ _ _ _ Ch8.out).trans rfl
  have cC7 : w8.cell? ⟨bC, 7, none⟩ = some (.int .i64 s1) := (cell_of_row _ _ _ _ _ _ Ch8.out).trans rfl
  have cX0 : w8.cell? ⟨bX, 0, none⟩ = some (.int .i64 1) := (cell_of_row _ _ _ _ _ _ Xh8.out).trans rfl
  have cX1 : w8.cell? ⟨bX, 1, none⟩ = some (.int .i64 5) := (cell_of_row _ _ _ _ _ _ Xh8.out).trans rfl
  have cX2 : w8.cell? ⟨bX, 2, none⟩ = some (.int .i64 7) := (cell_of_row _ _ _ _ _ _ Xh8.out).trans rfl
  have cX3 : w8.cell? ⟨bX, 3, none⟩ = some (.int .i64 3) := (cell_of_row _ _ _ _ _ _ Xh8.out).trans rfl
  have cX4 : w8.cell? ⟨bX, 4, none⟩ = some (.int .i64 4) := (cell_of_row _ _ _ _ _ _ Xh8.out).trans rfl
  have cX5 : w8.cell? ⟨bX, 5, none⟩ = some (.string ⟨#[]⟩) := (cell_of_row _ _ _ _ _ _ Xh8.out).trans rfl
  have cX6 : w8.cell? ⟨bX, 6, none⟩ = some (.int .i64 e1) := (cell_of_row _ _ _ _ _ _ Xh8.out).trans rfl
  have cX7 : w8.cell? ⟨bX, 7, none⟩ = some (.int .i64 s1) := (cell_of_row _ _ _ _ _ _ Xh8.out).trans rfl
  go_wp2_with fail
  refine (HF.out.rd0 _).mono ?_
  rintro e w9 ⟨rfl, hb⟩
  have HB9 := Lib.hid (HB8.out.trans (hb.mono HB8.out.size))
  have Kh9 := Lib.hid (blk_below Kh8.out hb (blk_lt Kh8.out))
  have Ch9 := Lib.hid (blk_below Ch8.out hb (blk_lt Ch8.out))
  have Xh9 := Lib.hid (blk_below Xh8.out hb (blk_lt Xh8.out))
  clear cK0 cK1 cC0 cC1 cC2 cC3 cC4 cC5 cC6 cC7 cX0 cX1 cX2 cX3 cX4 cX5 cX6 cX7
  clear HB8 Kh8 Ch8 Xh8
  clear hb
  have cK0 : w9.cell? ⟨bK, 0, none⟩ = some (.int .i64 k) := (cell_of_row _ _ _ _ _ _ Kh9.out).trans rfl
  have cK1 : w9.cell? ⟨bK, 1, none⟩ = some (.int .i64 p) := (cell_of_row _ _ _ _ _ _ Kh9.out).trans rfl
  have cC0 : w9.cell? ⟨bC, 0, none⟩ = some (.int .i64 1) := (cell_of_row _ _ _ _ _ _ Ch9.out).trans rfl
  have cC1 : w9.cell? ⟨bC, 1, none⟩ = some (.int .i64 5) := (cell_of_row _ _ _ _ _ _ Ch9.out).trans rfl
  have cC2 : w9.cell? ⟨bC, 2, none⟩ = some (.int .i64 7) := (cell_of_row _ _ _ _ _ _ Ch9.out).trans rfl
  have cC3 : w9.cell? ⟨bC, 3, none⟩ = some (.int .i64 3) := (cell_of_row _ _ _ _ _ _ Ch9.out).trans rfl
  have cC4 : w9.cell? ⟨bC, 4, none⟩ = some (.int .i64 4) := (cell_of_row _ _ _ _ _ _ Ch9.out).trans rfl
  have cC5 : w9.cell? ⟨bC, 5, none⟩ = some (.string ⟨#[]⟩) := (cell_of_row _ _ _ _ _ _ Ch9.out).trans rfl
  have cC6 : w9.cell? ⟨bC, 6, none⟩ = some (.int .i64 e1) := (cell_of_row _ _ _ _ _ _ Ch9.out).trans rfl
  have cC7 : w9.cell? ⟨bC, 7, none⟩ = some (.int .i64 s1) := (cell_of_row _ _ _ _ _ _ Ch9.out).trans rfl
  have cX0 : w9.cell? ⟨bX, 0, none⟩ = some (.int .i64 1) := (cell_of_row _ _ _ _ _ _ Xh9.out).trans rfl
  have cX1 : w9.cell? ⟨bX, 1, none⟩ = some (.int .i64 5) := (cell_of_row _ _ _ _ _ _ Xh9.out).trans rfl
  have cX2 : w9.cell? ⟨bX, 2, none⟩ = some (.int .i64 7) := (cell_of_row _ _ _ _ _ _ Xh9.out).trans rfl
  have cX3 : w9.cell? ⟨bX, 3, none⟩ = some (.int .i64 3) := (cell_of_row _ _ _ _ _ _ Xh9.out).trans rfl
  have cX4 : w9.cell? ⟨bX, 4, none⟩ = some (.int .i64 4) := (cell_of_row _ _ _ _ _ _ Xh9.out).trans rfl
  have cX5 : w9.cell? ⟨bX, 5, none⟩ = some (.string ⟨#[]⟩) := (cell_of_row _ _ _ _ _ _ Xh9.out).trans rfl
  have cX6 : w9.cell? ⟨bX, 6, none⟩ = some (.int .i64 e1) := (cell_of_row _ _ _ _ _ _ Xh9.out).trans rfl
  have cX7 : w9.cell? ⟨bX, 7, none⟩ = some (.int .i64 s1) := (cell_of_row _ _ _ _ _ _ Xh9.out).trans rfl
  go_upto_region 6 with fail
  have HB10 := Lib.hid (HB9.out.alloc HB9.out.size (.cells #[.int .i64 0, .int .i64 0, .int .i64 0, .int .i64 0, .int .i64 0, .string ⟨#[]⟩, .int .i64 0, .int .i64 0] 43))
  have Zh10 := Lib.hid (heap_alloc_new w9 (.cells #[.int .i64 0, .int .i64 0, .int .i64 0, .int .i64 0, .int .i64 0, .string ⟨#[]⟩, .int .i64 0, .int .i64 0] 43))
  have Kh10 := Lib.hid (blk_below Kh9.out ((Below.refl w9.heap.size w9).alloc (Nat.le_refl _) (.cells #[.int .i64 0, .int .i64 0, .int .i64 0, .int .i64 0, .int .i64 0, .string ⟨#[]⟩, .int .i64 0, .int .i64 0] 43)) (blk_lt Kh9.out))
  have Ch10 := Lib.hid (blk_below Ch9.out ((Below.refl w9.heap.size w9).alloc (Nat.le_refl _) (.cells #[.int .i64 0, .int .i64 0, .int .i64 0, .int .i64 0, .int .i64 0, .string ⟨#[]⟩, .int .i64 0, .int .i64 0] 43)) (blk_lt Ch9.out))
  have Xh10 := Lib.hid (blk_below Xh9.out ((Below.refl w9.heap.size w9).alloc (Nat.le_refl _) (.cells #[.int .i64 0, .int .i64 0, .int .i64 0, .int .i64 0, .int .i64 0, .string ⟨#[]⟩, .int .i64 0, .int .i64 0] 43)) (blk_lt Xh9.out))
  clear cK0 cK1 cC0 cC1 cC2 cC3 cC4 cC5 cC6 cC7 cX0 cX1 cX2 cX3 cX4 cX5 cX6 cX7
  clear HB9 Kh9 Ch9 Xh9
  generalize w9.heap.size = bZ at *
  generalize w9.alloc (.cells #[.int .i64 0, .int .i64 0, .int .i64 0, .int .i64 0, .int .i64 0, .string ⟨#[]⟩, .int .i64 0, .int .i64 0] 43) = w10 at *
  have cK0 : w10.cell? ⟨bK, 0, none⟩ = some (.int .i64 k) := (cell_of_row _ _ _ _ _ _ Kh10.out).trans rfl
  have cK1 : w10.cell? ⟨bK, 1, none⟩ = some (.int .i64 p) := (cell_of_row _ _ _ _ _ _ Kh10.out).trans rfl
  have cC0 : w10.cell? ⟨bC, 0, none⟩ = some (.int .i64 1) := (cell_of_row _ _ _ _ _ _ Ch10.out).trans rfl
  have cC1 : w10.cell? ⟨bC, 1, none⟩ = some (.int .i64 5) := (cell_of_row _ _ _ _ _ _ Ch10.out).trans rfl
  have cC2 : w10.cell? ⟨bC, 2, none⟩ = some (.int .i64 7) := (cell_of_row _ _ _ _ _ _ Ch10.out).trans rfl
  have cC3 : w10.cell? ⟨bC, 3, none⟩ = some (.int .i64 3) := (cell_of_row _ _ _ _ _ _ Ch10.out).trans rfl
  have cC4 : w10.cell? ⟨bC, 4, none⟩ = some (.int .i64 4) := (cell_of_row _ _ _ _ _ _ Ch10.out).trans rfl
  have cC5 : w10.cell? ⟨bC, 5, none⟩ = some (.string ⟨#[]⟩) := (cell_of_row _ _ _ _ _ _ Ch10.out).trans rfl
  have cC6 : w10.cell? ⟨bC, 6, none⟩ = some (.int .i64 e1) := (cell_of_row _ _ _ _ _ _ Ch10.out).trans rfl
  have cC7 : w10.cell? ⟨bC, 7, none⟩ = some (.int .i64 s1) := (cell_of_row _ _ _ _ _ _ Ch10.out).trans rfl
  have cX0 : w10.cell? ⟨bX, 0, none⟩ = some (.int .i64 1) := (cell_of_row _ _ _ _ _ _ Xh10.out).trans rfl
  have cX1 : w10.cell? ⟨bX, 1, none⟩ = some (.int .i64 5) := (cell_of_row _ _ _ _ _ _ Xh10.out).trans rfl
  have cX2 : w10.cell? ⟨bX, 2, none⟩ = some (.int .i64 7) := (cell_of_row _ _ _ _ _ _ Xh10.out).trans rfl
  have cX3 : w10.cell? ⟨bX, 3, none⟩ = some (.int .i64 3) := (cell_of_row _ _ _ _ _ _ Xh10.out).trans rfl
  have cX4 : w10.cell? ⟨bX, 4, none⟩ = some (.int .i64 4) := (cell_of_row _ _ _ _ _ _ Xh10.out).trans rfl
  have cX5 : w10.cell? ⟨bX, 5, none⟩ = some (.string ⟨#[]⟩) := (cell_of_row _ _ _ _ _ _ Xh10.out).trans rfl
  have cX6 : w10.cell? ⟨bX, 6, none⟩ = some (.int .i64 e1) := (cell_of_row _ _ _ _ _ _ Xh10.out).trans rfl
  have cX7 : w10.cell? ⟨bX, 7, none⟩ = some (.int .i64 s1) := (cell_of_row _ _ _ _ _ _ Xh10.out).trans rfl
  have cZ0 : w10.cell? ⟨bZ, 0, none⟩ = some (.int .i64 0) := (cell_of_row _ _ _ _ _ _ Zh10.out).trans rfl
  have cZ1 : w10.cell? ⟨bZ, 1, none⟩ = some (.int .i64 0) := (cell_of_row _ _ _ _ _ _ Zh10.out).trans rfl
  have cZ2 : w10.cell? ⟨bZ, 2, none⟩ = some (.int .i64 0) := (cell_of_row _ _ _ _ _ _ Zh10.out).trans rfl
  have cZ3 : w10.cell? ⟨bZ, 3, none⟩ = some (.int .i64 0) := (cell_of_row _ _ _ _ _ _ Zh10.out).trans rfl
  have cZ4 : w10.cell? ⟨bZ, 4, none⟩ = some (.int .i64 0) := (cell_of_row _ _ _ _ _ _ Zh10.out).trans rfl
  have cZ5 : w10.cell? ⟨bZ, 5, none⟩ = some (.string ⟨#[]⟩) := (cell_of_row _ _ _ _ _ _ Zh10.out).trans rfl
  have cZ6 : w10.cell? ⟨bZ, 6, none⟩ = some (.int .i64 0) := (cell_of_row _ _ _ _ _ _ Zh10.out).trans rfl
  have cZ7 : w10.cell? ⟨bZ, 7, none⟩ = some (.int .i64 0) := (cell_of_row _ _ _ _ _ _ Zh10.out).trans rfl
  go_wp2_with fail
  refine (HF.out.psg _ (HG.out.below HB10.out HG.out.size) (HM.out.up HB10.out)).mono ?_
  rintro e w11 ⟨rfl, hb⟩
  have HB11 := Lib.hid (HB10.out.trans (hb.mono HB10.out.size))
  have Kh11 := Lib.hid (blk_below Kh10.out hb (blk_lt Kh10.out))
  have Ch11 := Lib.hid (blk_below Ch10.out hb (blk_lt Ch10.out))
  have Xh11 := Lib.hid (blk_below Xh10.out hb (blk_lt Xh10.out))
  have Zh11 := Lib.hid (blk_below Zh10.out hb (blk_lt Zh10.out))
  clear cK0 cK1 cC0 cC1 cC2 cC3 cC4 cC5 cC6 cC7 cX0 cX1 cX2 cX3 cX4 cX5 cX6 cX7 cZ0 cZ1 cZ2 cZ3 cZ4 cZ5 cZ6 cZ7
  clear HB10 Kh10 Ch10 Xh10 Zh10
  clear hb
  have cK0 : w11.cell? ⟨bK, 0, none⟩ = some (.int .i64 k) := (cell_of_row _ _ _ _ _ _ Kh11.out).trans rfl
  have cK1 : w11.cell? ⟨bK, 1, none⟩ = some (.int .i64 p) := (cell_of_row _ _ _ _ _ _ Kh11.out).trans rfl
  have cC0 : w11.cell? ⟨bC, 0, none⟩ = some (.int .i64 1) := (cell_of_row _ _ _ _ _ _ Ch11.out).trans rfl
  have cC1 : w11.cell? ⟨bC, 1, none⟩ = some (.int .i64 5) := (cell_of_row _ _ _ _ _ _ Ch11.out).trans rfl
  have cC2 : w11.cell? ⟨bC, 2, none⟩ = some (.int .i64 7) := (cell_of_row _ _ _ _ _ _ Ch11.out).trans rfl
  have cC3 : w11.cell? ⟨bC, 3, none⟩ = some (.int .i64 3) := (cell_of_row _ _ _ _ _ _ Ch11.out).trans rfl
  have cC4 : w11.cell? ⟨bC, 4, none⟩ = some (.int .i64 4) := (cell_of_row _ _ _ _ _ _ Ch11.out).trans rfl
  have cC5 : w11.cell? ⟨bC, 5, none⟩ = some (.string ⟨#[]⟩) := (cell_of_row _ _ _ _ _ _ Ch11.out).trans rfl
  have cC6 : w11.cell? ⟨bC, 6, none⟩ = some (.int .i64 e1) := (cell_of_row _ _ _ _ _ _ Ch11.out).trans rfl
  have cC7 : w11.cell? ⟨bC, 7, none⟩ = some (.int .i64 s1) := (cell_of_row _ _ _ _ _ _ Ch11.out).trans rfl
  have cX0 : w11.cell? ⟨bX, 0, none⟩ = some (.int .i64 1) := (cell_of_row _ _ _ _ _ _ Xh11.out).trans rfl
  have cX1 : w11.cell? ⟨bX, 1, none⟩ = some (.int .i64 5) := (cell_of_row _ _ _ _ _ _ Xh11.out).trans rfl
  have cX2 : w11.cell? ⟨bX, 2, none⟩ = some (.int .i64 7) := (cell_of_row _ _ _ _ _ _ Xh11.out).trans rfl
  have cX3 : w11.cell? ⟨bX, 3, none⟩ = some (.int .i64 3) := (cell_of_row _ _ _ _ _ _ Xh11.out).trans rfl
  have cX4 : w11.cell? ⟨bX, 4, none⟩ = some (.int .i64 4) := (cell_of_row _ _ _ _ _ _ Xh11.out).trans rfl
  have cX5 : w11.cell? ⟨bX, 5, none⟩ = some (.string ⟨#[]⟩) := (cell_of_row _ _ _ _ _ _ Xh11.out).trans rfl
  have cX6 : w11.cell? ⟨bX, 6, none⟩ = some (.int .i64 e1) := (cell_of_row _ _ _ _ _ _ Xh11.out).trans rfl
  have cX7 : w11.cell? ⟨bX, 7, none⟩ = some (.int .i64 s1) := (cell_of_row _ _ _ _ _ _ Xh11.out).trans rfl
  have cZ0 : w11.cell? ⟨bZ, 0, none⟩ = some (.int .i64 0) := (cell_of_row _ _ _ _ _ _ Zh11.out).trans rfl
  have cZ1 : w11.cell? ⟨bZ, 1, none⟩ = some (.int .i64 0) := (cell_of_row _ _ _ _ _ _ Zh11.out).trans rfl
  have cZ2 : w11.cell? ⟨bZ, 2, none⟩ = some (.int .i64 0) := (cell_of_row _ _ _ _ _ _ Zh11.out).trans rfl
  have cZ3 : w11.cell? ⟨bZ, 3, none⟩ = some (.int .i64 0) := (cell_of_row _ _ _ _ _ _ Zh11.out).trans rfl
  have cZ4 : w11.cell? ⟨bZ, 4, none⟩ = some (.int .i64 0) := (cell_of_row _ _ _ _ _ _ Zh11.out).trans rfl
  have cZ5 : w11.cell? ⟨bZ, 5, none⟩ = some (.string ⟨#[]⟩) := (cell_of_row _ _ _ _ _ _ Zh11.out).trans rfl
  have cZ6 : w11.cell? ⟨bZ, 6, none⟩ = some (.int .i64 0) := (cell_of_row _ _ _ _ _ _ Zh11.out).trans rfl
  have cZ7 : w11.cell? ⟨bZ, 7, none⟩ = some (.int .i64 0) := (cell_of_row _ _ _ _ _ _ Zh11.out).trans rfl
  go_upto_region 7 with fail
  have HB12 := Lib.hid (HB11.out.alloc HB11.out.size (.cells #[.int .i64 1, .int .i64 5, .int .i64 9, .int .i64 100, .int .i64 e2, .int .i64 s2] 58))
  have Ph12 := Lib.hid (heap_alloc_new w11 (.cells #[.int .i64 1, .int .i64 5, .int .i64 9, .int .i64 100, .int .i64 e2, .int .i64 s2] 58))
  have Kh12 := Lib.hid (blk_below Kh11.out ((Below.refl w11.heap.size w11).alloc (Nat.le_refl _) (.cells #[.int .i64 1, .int .i64 5, .int .i64 9, .int .i64 100, .int .i64 e2, .int .i64 s2] 58)) (blk_lt Kh11.out))
  have Ch12 := Lib.hid (blk_below Ch11.out ((Below.refl w11.heap.size w11).alloc (Nat.le_refl _) (.cells #[.int .i64 1, .int .i64 5, .int .i64 9, .int .i64 100, .int .i64 e2, .int .i64 s2] 58)) (blk_lt Ch11.out))
  have Xh12 := Lib.hid (blk_below Xh11.out ((Below.refl w11.heap.size w11).alloc (Nat.le_refl _) (.cells #[.int .i64 1, .int .i64 5, .int .i64 9, .int .i64 100, .int .i64 e2, .int .i64 s2] 58)) (blk_lt Xh11.out))
  have Zh12 := Lib.hid (blk_below Zh11.out ((Below.refl w11.heap.size w11).alloc (Nat.le_refl _) (.cells #[.int .i64 1, .int .i64 5, .int .i64 9, .int .i64 100, .int .i64 e2, .int .i64 s2] 58)) (blk_lt Zh11.out))
  clear cK0 cK1 cC0 cC1 cC2 cC3 cC4 cC5 cC6 cC7 cX0 cX1 cX2 cX3 cX4 cX5 cX6 cX7 cZ0 cZ1 cZ2 cZ3 cZ4 cZ5 cZ6 cZ7
  clear HB11 Kh11 Ch11 Xh11 Zh11
  generalize w11.heap.size = bP at *
  generalize w11.alloc (.cells #[.int .i64 1, .int .i64 5, .int .i64 9, .int .i64 100, .int .i64 e2, .int .i64 s2] 58) = w12 at *
  have cK0 : w12.cell? ⟨bK, 0, none⟩ = some (.int .i64 k) := (cell_of_row _ _ _ _ _ _ Kh12.out).trans rfl
  have cK1 : w12.cell? ⟨bK, 1, none⟩ = some (.int .i64 p) := (cell_of_row _ _ _ _ _ _ Kh12.out).trans rfl
  have cC0 : w12.cell? ⟨bC, 0, none⟩ = some (.int .i64 1) := (cell_of_row _ _ _ _ _ _ Ch12.out).trans rfl
  have cC1 : w12.cell? ⟨bC, 1, none⟩ = some (.int .i64 5) := (cell_of_row _ _ _ _ _ _ Ch12.out).trans rfl
  have cC2 : w12.cell? ⟨bC, 2, none⟩ = some (.int .i64 7) := (cell_of_row _ _ _ _ _ _ Ch12.out).trans rfl
  have cC3 : w12.cell? ⟨bC, 3, none⟩ = some (.int .i64 3) := (cell_of_row _ _ _ _ _ _ Ch12.out).trans rfl
  have cC4 : w12.cell? ⟨bC, 4, none⟩ = some (.int .i64 4) := (cell_of_row _ _ _ _ _ _ Ch12.out).trans rfl
  have cC5 : w12.cell? ⟨bC, 5, none⟩ = some (.string ⟨#[]⟩) := (cell_of_row _ _ _ _ _ _ Ch12.out).trans rfl
  have cC6 : w12.cell? ⟨bC, 6, none⟩ = some (.int .i64 e1) := (cell_of_row _ _ _ _ _ _ Ch12.out).trans rfl
  have cC7 : w12.cell? ⟨bC, 7, none⟩ = some (.int .i64 s1) := (cell_of_row _ _ _ _ _ _ Ch12.out).trans rfl
  have cX0 : w12.cell? ⟨bX, 0, none⟩ = some (.int .i64 1) := (cell_of_row _ _ _ _ _ _ Xh12.out).trans rfl
  have cX1 : w12.cell? ⟨bX, 1, none⟩ = some (.int .i64 5) := (cell_of_row _ _ _ _ _ _ Xh12.out).trans rfl
  have cX2 : w12.cell? ⟨bX, 2, none⟩ = some (.int .i64 7) := (cell_of_row _ _ _ _ _ _ Xh12.out).trans rfl
  have cX3 : w12.cell? ⟨bX, 3, none⟩ = some (.int .i64 3) := (cell_of_row _ _ _ _ _ _ Xh12.out).trans rfl
  have cX4 : w12.cell? ⟨bX, 4, none⟩ = some (.int .i64 4) := (cell_of_row _ _ _ _ _ _ Xh12.out).trans rfl
  have cX5 : w12.cell? ⟨bX, 5, none⟩ = some (.string ⟨#[]⟩) := (cell_of_row _ _ _ _ _ _ Xh12.out).trans rfl
  have cX6 : w12.cell? ⟨bX, 6, none⟩ = some (.int .i64 e1) := (cell_of_row _ _ _ _ _ _ Xh12.out).trans rfl
  have cX7 : w12.cell? ⟨bX, 7, none⟩ = some (.int .i64 s1) := (cell_of_row _ _ _ _ _ _ Xh12.out).trans rfl
  have cZ0 : w12.cell? ⟨bZ, 0, none⟩ = some (.int .i64 0) := (cell_of_row _ _ _ _ _ _ Zh12.out).trans rfl
  have cZ1 : w12.cell? ⟨bZ, 1, none⟩ = some (.int .i64 0) := (cell_of_row _ _ _ _ _ _ Zh12.out).trans rfl
  have cZ2 : w12.cell? ⟨bZ, 2, none⟩ = some (.int .i64 0) := (cell_of_row _ _ _ _ _ _ Zh12.out).trans rfl
  have cZ3 : w12.cell? ⟨bZ, 3, none⟩ = some (.int .i64 0) := (cell_of_row _ _ _ _ _ _ Zh12.out).trans rfl
  have cZ4 : w12.cell? ⟨bZ, 4, none⟩ = some (.int .i64 0) := (cell_of_row _ _ _ _ _ _ Zh12.out).trans rfl
  have cZ5 : w12.cell? ⟨bZ, 5, none⟩ = some (.string ⟨#[]⟩) := (cell_of_row _ _ _ _ _ _ Zh12.out).trans rfl
  have cZ6 : w12.cell? ⟨bZ, 6, none⟩ = some (.int .i64 0) := (cell_of_row _ _ _ _ _ _ Zh12.out).trans rfl
  have cZ7 : w12.cell? ⟨bZ, 7, none⟩ = some (.int .i64 0) := (cell_of_row _ _ _ _ _ _ Zh12.out).trans rfl
  have cP0 : w12.cell? ⟨bP, 0, none⟩ = some (.int .i64 1) := (cell_of_row _ _ _ _ _ _ Ph12.out).trans rfl
  have cP1 : w12.cell? ⟨bP, 1, none⟩ = some (.int .i64 5) := (cell_of_row _ _ _ _ _ _ Ph12.out).trans rfl
  have cP2 : w12.cell? ⟨bP, 2, none⟩ = some (.int .i64 9) := (cell_of_row _ _ _ _ _ _ Ph12.out).trans rfl
  have cP3 : w12.cell? ⟨bP, 3, none⟩ = some (.int .i64 100) := (cell_of_row _ _ _ _ _ _ Ph12.out).trans rfl
  have cP4 : w12.cell? ⟨bP, 4, none⟩ = some (.int .i64 e2) := (cell_of_row _ _ _ _ _ _ Ph12.out).trans rfl
  have cP5 : w12.cell? ⟨bP, 5, none⟩ = some (.int .i64 s2) := (cell_of_row _ _ _ _ _ _ Ph12.out).trans rfl
  go_wp2_with fail
  refine (HF.out.pby _).mono ?_
  rintro e w13 ⟨rfl, hb⟩
  have HB13 := Lib.hid (HB12.out.trans (hb.mono HB12.out.size))
  have Kh13 := Lib.hid (blk_below Kh12.out hb (blk_lt Kh12.out))
  have Ch13 := Lib.hid (blk_below Ch12.out hb (blk_lt Ch12.out))
  have Xh13 := Lib.hid (blk_below Xh12.out hb (blk_lt Xh12.out))
  have Zh13 := Lib.hid (blk_below Zh12.out hb (blk_lt Zh12.out))
  have Ph13 := Lib.hid (blk_below Ph12.out hb (blk_lt Ph12.out))
  clear cK0 cK1 cC0 cC1 cC2 cC3 cC4 cC5 cC6 cC7 cX0 cX1 cX2 cX3 cX4 cX5 cX6 cX7 cZ0 cZ1 cZ2 cZ3 cZ4 cZ5 cZ6 cZ7 cP0 cP1 cP2 cP3 cP4 cP5
  clear HB12 Kh12 Ch12 Xh12 Zh12 Ph12
  clear hb
  have cK0 : w13.cell? ⟨bK, 0, none⟩ = some (.int .i64 k) := (cell_of_row _ _ _ _ _ _ Kh13.out).trans rfl
  have cK1 : w13.cell? ⟨bK, 1, none⟩ = some (.int .i64 p) := (cell_of_row _ _ _ _ _ _ Kh13.out).trans rfl
  have cC0 : w13.cell? ⟨bC, 0, none⟩ = some (.int .i64 1) := (cell_of_row _ _ _ _ _ _ Ch13.out).trans rfl
  have cC1 : w13.cell? ⟨bC, 1, none⟩ = some (.int .i64 5) := (cell_of_row _ _ _ _ _ _ Ch13.out).trans rfl
  have cC2 : w13.cell? ⟨bC, 2, none⟩ = some (.int .i64 7) := (cell_of_row _ _ _ _ _ _ Ch13.out).trans rfl
  have cC3 : w13.cell? ⟨bC, 3, none⟩ = some (.int .i64 3) := (cell_of_row _ _ _ _ _ _ Ch13.out).trans rfl
  have cC4 : w13.cell? ⟨bC, 4, none⟩ = some (.int .i64 4) := (cell_of_row _ _ _ _ _ _ Ch13.out).trans rfl
  have cC5 : w13.cell? ⟨bC, 5, none⟩ = some (.string ⟨#[]⟩) := (cell_of_row _ _ _ _ _ _ Ch13.out).trans rfl
  have cC6 : w13.cell? ⟨bC, 6, none⟩ = some (.int .i64 e1) := (cell_of_row _ _ _ _ _ _ Ch13.out).trans rfl
  have cC7 : w13.cell? ⟨bC, 7, none⟩ = some (.int .i64 s1) := (cell_of_row _ _ _ _ _ _ Ch13.out).trans rfl
  have cX0 : w13.cell? ⟨bX, 0, none⟩ = some (.int .i64 1) := (cell_of_row _ _ _ _ _ _ Xh13.out).trans rfl
  have cX1 : w13.cell? ⟨bX, 1, none⟩ = some (.int .i64 5) := (cell_of_row _ _ _ _ _ _ Xh13.out).trans rfl
  have cX2 : w13.cell? ⟨bX, 2, none⟩ = some (.int .i64 7) := (cell_of_row _ _ _ _ _ _ Xh13.out).trans rfl
  have cX3 : w13.cell? ⟨bX, 3, none⟩ = some (.int .i64 3) := (cell_of_row _ _ _ _ _ _ Xh13.out).trans rfl
  have cX4 : w13.cell? ⟨bX, 4, none⟩ = some (.int .i64 4) := (cell_of_row _ _ _ _ _ _ Xh13.out).trans rfl
  have cX5 : w13.cell? ⟨bX, 5, none⟩ = some (.string ⟨#[]⟩) := (cell_of_row _ _ _ _ _ _ Xh13.out).trans rfl
  have cX6 : w13.cell? ⟨bX, 6, none⟩ = some (.int .i64 e1) := (cell_of_row _ _ _ _ _ _ Xh13.out).trans rfl
  have cX7 : w13.cell? ⟨bX, 7, none⟩ = some (.int .i64 s1) := (cell_of_row _ _ _ _ _ _ Xh13.out).trans rfl
  have cZ0 : w13.cell? ⟨bZ, 0, none⟩ = some (.int .i64 0) := (cell_of_row _ _ _ _ _ _ Zh13.out).trans rfl
  have cZ1 : w13.cell? ⟨bZ, 1, none⟩ = some (.int .i64 0) := (cell_of_row _ _ _ _ _ _ Zh13.out).trans rfl
  have cZ2 : w13.cell? ⟨bZ, 2, none⟩ = some (.int .i64 0) := (cell_of_row _ _ _ _ _ _ Zh13.out).trans rfl
  have cZ3 : w13.cell? ⟨bZ, 3, none⟩ = some (.int .i64 0) := (cell_of_row _ _ _ _ _ _ Zh13.out).trans rfl
  have cZ4 : w13.cell? ⟨bZ, 4, none⟩ = some (.int .i64 0) := (cell_of_row _ _ _ _ _ _ Zh13.out).trans rfl
  have cZ5 : w13.cell? ⟨bZ, 5, none⟩ = some (.string ⟨#[]⟩) := (cell_of_row _ _ _ _ _ _ Zh13.out).trans rfl
  have cZ6 : w13.cell? ⟨bZ, 6, none⟩ = some (.int .i64 0) := (cell_of_row _ _ _ _ _ _ Zh13.out).trans rfl
  have cZ7 : w13.cell? ⟨bZ, 7, none⟩ = some (.int .i64 0) := (cell_of_row _ _ _ _ _ _ Zh13.out).trans rfl
  have cP0 : w13.cell? ⟨bP, 0, none⟩ = some (.int .i64 1) := (cell_of_row _ _ _ _ _ _ Ph13.out).trans rfl
  have cP1 : w13.cell? ⟨bP, 1, none⟩ = some (.int .i64 5) := (cell_of_row _ _ _ _ _ _ Ph13.out).trans rfl
  have cP2 : w13.cell? ⟨bP, 2, none⟩ = some (.int .i64 9) := (cell_of_row _ _ _ _ _ _ Ph13.out).trans rfl
  have cP3 : w13.cell? ⟨bP, 3, none⟩ = some (.int .i64 100) := (cell_of_row _ _ _ _ _ _ Ph13.out).trans rfl
  have cP4 : w13.cell? ⟨bP, 4, none⟩ = some (.int .i64 e2) := (cell_of_row _ _ _ _ _ _ Ph13.out).trans rfl
  have cP5 : w13.cell? ⟨bP, 5, none⟩ = some (.int .i64 s2) := (cell_of_row _ _ _ _ _ _ Ph13.out).trans rfl
  go_wp2_with fail
  refine (HF.out.prd _).mono ?_
  rintro e w14 ⟨rfl, hb⟩
  have HB14 := Lib.hid (HB13.out.trans (hb.mono HB13.out.size))
  have Kh14 := Lib.hid (blk_below Kh13.out hb (blk_lt Kh13.out))
  have Ch14 := Lib.hid (blk_below Ch13.out hb (blk_lt Ch13.out))
  have Xh14 := Lib.hid (blk_below Xh13.out hb (blk_lt Xh13.out))
  have Zh14 := Lib.hid (blk_below Zh13.out hb (blk_lt Zh13.out))
  have Ph14 := Lib.hid (blk_below Ph13.out hb (blk_lt Ph13.out))
  clear cK0 cK1 cC0 cC1 cC2 cC3 cC4 cC5 cC6 cC7 cX0 cX1 cX2 cX3 cX4 cX5 cX6 cX7 cZ0 cZ1 cZ2 cZ3 cZ4 cZ5 cZ6 cZ7 cP0 cP1 cP2 cP3 cP4 cP5
  clear HB13 Kh13 Ch13 Xh13 Zh13 Ph13
  clear hb
  have cK0 : w14.cell? ⟨bK, 0, none⟩ = some (.int .i64 k) := (cell_of_row _ _ _ _ _ _ Kh14.out).trans rfl
  have cK1 : w14.cell? ⟨bK, 1, none⟩ = some (.int .i64 p) := (cell_of_row _ _ _ _ _ _ Kh14.out).trans rfl
  have cC0 : w14.cell? ⟨bC, 0, none⟩ = some (.int .i64 1) := (cell_of_row _ _ _ _ _ _ Ch14.out).trans rfl
  have cC1 : w14.cell? ⟨bC, 1, none⟩ = some (.int .i64 5) := (cell_of_row _ _ _ _ _ _ Ch14.out).trans rfl
  have cC2 : w14.cell? ⟨bC, 2, none⟩ = some (.int .i64 7) := (cell_of_row _ _ _ _ _ _ Ch14.out).trans rfl
  have cC3 : w14.cell? ⟨bC, 3, none⟩ = some (.int .i64 3) := (cell_of_row _ _ _ _ _ _ Ch14.out).trans rfl
  have cC4 : w14.cell? ⟨bC, 4, none⟩ = some (.int .i64 4) := (cell_of_row _ _ _ _ _ _ Ch14.out).trans rfl
  have cC5 : w14.cell? ⟨bC, 5, none⟩ = some (.string ⟨#[]⟩) := (cell_of_row _ _ _ _ _ _ Ch14.out).trans rfl
  have cC6 : w14.cell? ⟨bC, 6, none⟩ = some (.int .i64 e1) := (cell_of_row _ _ _ _ _ _ Ch14.out).trans rfl
  have cC7 : w14.cell? ⟨bC, 7, none⟩ = some (.int .i64 s1) := (cell_of_row _ _ _ _ _ _ Ch14.out).trans rfl
  have cX0 : w14.cell? ⟨bX, 0, none⟩ = some (.int .i64 1) := (cell_of_row _ _ _ _ _ _ Xh14.out).trans rfl
  have cX1 : w14.cell? ⟨bX, 1, none⟩ = some (.int .i64 5) := (cell_of_row _ _ _ _ _ _ Xh14.out).trans rfl
  have cX2 : w14.cell? ⟨bX, 2, none⟩ = some (.int .i64 7) := (cell_of_row _ _ _ _ _ _ Xh14.out).trans rfl
  have cX3 : w14.cell? ⟨bX, 3, none⟩ = some (.int .i64 3) := (cell_of_row _ _ _ _ _ _ Xh14.out).trans rfl
  have cX4 : w14.cell? ⟨bX, 4, none⟩ = some (.int .i64 4) := (cell_of_row _ _ _ _ _ _ Xh14.out).trans rfl
  have cX5 : w14.cell? ⟨bX, 5, none⟩ = some (.string ⟨#[]⟩) := (cell_of_row _ _ _ _ _ _ Xh14.out).trans rfl
  have cX6 : w14.cell? ⟨bX, 6, none⟩ = some (.int .i64 e1) := (cell_of_row _ _ _ _ _ _ Xh14.out).trans rfl
  have cX7 : w14.cell? ⟨bX, 7, none⟩ = some (.int .i64 s1) := (cell_of_row _ _ _ _ _ _ Xh14.out).trans rfl
  have cZ0 : w14.cell? ⟨bZ, 0, none⟩ = some (.int .i64 0) := (cell_of_row _ _ _ _ _ _ Zh14.out).trans rfl
  have cZ1 : w14.cell? ⟨bZ, 1, none⟩ = some (.int .i64 0) := (cell_of_row _ _ _ _ _ _ Zh14.out).trans rfl
  have cZ2 : w14.cell? ⟨bZ, 2, none⟩ = some (.int .i64 0) := (cell_of_row _ _ _ _ _ _ Zh14.out).trans rfl
  have cZ3 : w14.cell? ⟨bZ, 3, none⟩ = some (.int .i64 0) := (cell_of_row _ _ _ _ _ _ Zh14.out).trans rfl
  have cZ4 : w14.cell? ⟨bZ, 4, none⟩ = some (.int .i64 0) := (cell_of_row _ _ _ _ _ _ Zh14.out).trans rfl
  have cZ5 : w14.cell? ⟨bZ, 5, none⟩ = some (.string ⟨#[]⟩) := (cell_of_row _ _ _ _ _ _ Zh14.out).trans rfl
  have cZ6 : w14.cell? ⟨bZ, 6, none⟩ = some (.int .i64 0) := (cell_of_row _ _ _ _ _ _ Zh14.out).trans rfl
  have cZ7 : w14.cell? ⟨bZ, 7, none⟩ = some (.int .i64 0) := (cell_of_row _ _ _ _ _ _ Zh14.out).trans rfl
  have cP0 : w14.cell? ⟨bP, 0, none⟩ = some (.int .i64 1) := (cell_of_row _ _ _ _ _ _ Ph14.out).trans rfl
  have cP1 : w14.cell? ⟨bP, 1, none⟩ = some (.int .i64 5) := (cell_of_row _ _ _ _ _ _ Ph14.out).trans rfl
  have cP2 : w14.cell? ⟨bP, 2, none⟩ = some (.int .i64 9) := (cell_of_row _ _ _ _ _ _ Ph14.out).trans rfl
  have cP3 : w14.cell? ⟨bP, 3, none⟩ = some (.int .i64 100) := (cell_of_row _ _ _ _ _ _ Ph14.out).trans rfl
  have cP4 : w14.cell? ⟨bP, 4, none⟩ = some (.int .i64 e2) := (cell_of_row _ _ _ _ _ _ Ph14.out).trans rfl
  have cP5 : w14.cell? ⟨bP, 5, none⟩ = some (.int .i64 s2) := (cell_of_row _ _ _ _ _ _ Ph14.out).trans rfl
  go_upto_region 8 with fail
  have HB15 := Lib.hid (HB14.out.alloc HB14.out.size (.cells #[.int .i64 1, .int .i64 5, .int .i64 9, .int .i64 100, .int .i64 e2, .int .i64 s2] 58))
  have Qh15 := Lib.hid (heap_alloc_new w14 (.cells #[.int .i64 1, .int .i64 5, .int .i64 9, .int .i64 100, .int .i64 e2, .int .i64 s2] 58))
  have Kh15 := Lib.hid (blk_below Kh14.out ((Below.refl w14.heap.size w14).alloc (Nat.le_refl _) (.cells #[.int .i64 1, .int .i64 5, .int .i64 9, .int .i64 100, .int .i64 e2, .int .i64 s2] 58)) (blk_lt Kh14.out))
  have Ch15 := Lib.hid (blk_below Ch14.out ((Below.refl w14.heap.size w14).alloc (Nat.le_refl _) (.cells #[.int .i64 1, .int .i64 5, .int .i64 9, .int .i64 100, .int .i64 e2, .int .i64 s2] 58)) (blk_lt Ch14.out))
  have Xh15 := Lib.hid (blk_below Xh14.out ((Below.refl w14.heap.size w14).alloc (Nat.le_refl _) (.cells #[.int .i64 1, .int .i64 5, .int .i64 9, .int .i64 100, .int .i64 e2, .int .i64 s2] 58)) (blk_lt Xh14.out))
  have Zh15 := Lib.hid (blk_below Zh14.out ((Below.refl w14.heap.size w14).alloc (Nat.le_refl _) (.cells #[.int .i64 1, .int .i64 5, .int .i64 9, .int .i64 100, .int .i64 e2, .int .i64 s2] 58)) (blk_lt Zh14.out))
  have Ph15 := Lib.hid (blk_below Ph14.out ((Below.refl w14.heap.size w14).alloc (Nat.le_refl _) (.cells #[.int .i64 1, .int .i64 5, .int .i64 9, .int .i64 100, .int .i64 e2, .int .i64 s2] 58)) (blk_lt Ph14.out))
  clear cK0 cK1 cC0 cC1 cC2 cC3 cC4 cC5 cC6 cC7 cX0 cX1 cX2 cX3 cX4 cX5 cX6 cX7 cZ0 cZ1 cZ2 cZ3 cZ4 cZ5 cZ6 cZ7 cP0 cP1 cP2 cP3 cP4 cP5
  clear HB14 Kh14 Ch14 Xh14 Zh14 Ph14
  generalize w14.heap.size = bQ at *
  generalize w14.alloc (.cells #[.int .i64 1, .int .i64 5, .int .i64 9, .int .i64 100, .int .i64 e2, .int .i64 s2] 58) = w15 at *
  have cK0 : w15.cell? ⟨bK, 0, none⟩ = some (.int .i64 k) := (cell_of_row _ _ _ _ _ _ Kh15.out).trans rfl
  have cK1 : w15.cell? ⟨bK, 1, none⟩ = some (.int .i64 p) := (cell_of_row _ _ _ _ _ _ Kh15.out).trans rfl
  have cC0 : w15.cell? ⟨bC, 0, none⟩ = some (.int .i64 1) := (cell_of_row _ _ _ _ _ _ Ch15.out).trans rfl
  have cC1 : w15.cell? ⟨bC, 1, none⟩ = some (.int .i64 5) := (cell_of_row _ _ _ _ _ _ Ch15.out).trans rfl
  have cC2 : w15.cell? ⟨bC, 2, none⟩ = some (.int .i64 7) := (cell_of_row _ _ _ _ _ _ Ch15.out).trans rfl
  have cC3 : w15.cell? ⟨bC, 3, none⟩ = some (.int .i64 3) := (cell_of_row _ _ _ _ _ _ Ch15.out).trans rfl
  have cC4 : w15.cell? ⟨bC, 4, none⟩ = some (.int .i64 4) := (cell_of_row _ _ _ _ _ _ Ch15.out).trans rfl
  have cC5 : w15.cell? ⟨bC, 5, none⟩ = some (.string ⟨#[]⟩) := (cell_of_row _ _ _ _ _ _ Ch15.out).trans rfl
  have cC6 : w15.cell? ⟨bC, 6, none⟩ = some (.int .i64 e1) := (cell_of_row _ _ _ _ _ _ Ch15.out).trans rfl
  have cC7 : w15.cell? ⟨bC, 7, none⟩ = some (.int .i64 s1) := (cell_of_row _ _ _ _ _ _ Ch15.out).trans rfl
  have cX0 : w15.cell? ⟨bX, 0, none⟩ = some (.int .i64 1) := (cell_of_row _ _ _ _ _ _ Xh15.out).trans rfl
  have cX1 : w15.cell? ⟨bX, 1, none⟩ = some (.int .i64 5) := (cell_of_row _ _ _ _ _ _ Xh15.out).trans rfl
  have cX2 : w15.cell? ⟨bX, 2, none⟩ = some (.int .i64 7) := (cell_of_row _ _ _ _ _ _ Xh15.out).trans rfl
  have cX3 : w15.cell? ⟨bX, 3, none⟩ = some (.int .i64 3) := (cell_of_row _ _ _ _ _ _ Xh15.out).trans rfl
  have cX4 : w15.cell? ⟨bX, 4, none⟩ = some (.int .i64 4) := (cell_of_row _ _ _ _ _ _ Xh15.out).trans rfl
  have cX5 : w15.cell? ⟨bX, 5, none⟩ = some (.string ⟨#[]⟩) := (cell_of_row _ _ _ _ _ _ Xh15.out).trans rfl
  have cX6 : w15.cell? ⟨bX, 6, none⟩ = some (.int .i64 e1) := (cell_of_row _ _ _ _ _ _ Xh15.out).trans rfl
  have cX7 : w15.cell? ⟨bX, 7, none⟩ = some (.int .i64 s1) := (cell_of_row _ _ _ _ _ _ Xh15.out).trans rfl
  have cZ0 : w15.cell? ⟨bZ, 0, none⟩ = some (.int .i64 0) := (cell_of_row _ _ _ _ _ _ Zh15.out).trans rfl
  have cZ1 : w15.cell? ⟨bZ, 1, none⟩ = some (.int .i64 0) := (cell_of_row _ _ _ _ _ _ Zh15.out).trans rfl
  have cZ2 : w15.cell? ⟨bZ, 2, none⟩ = some (.int .i64 0) := (cell_of_row _ _ _ _ _ _ Zh15.out).trans rfl
  have cZ3 : w15.cell? ⟨bZ, 3, none⟩ = some (.int .i64 0) := (cell_of_row _ _ _ _ _ _ Zh15.out).trans rfl
  have cZ4 : w15.cell? ⟨bZ, 4, none⟩ = some (.int .i64 0) := (cell_of_row _ _ _ _ _ _ Zh15.out).trans rfl
  have cZ5 : w15.cell? ⟨bZ, 5, none⟩ = some (.string ⟨#[]⟩) := (cell_of_row _ _ _ _ _ _ Zh15.out).trans rfl
  have cZ6 : w15.cell? ⟨bZ, 6, none⟩ = some (.int .i64 0) := (cell_of_row _ _ _ _ _ _ Zh15.out).trans rfl
  have cZ7 : w15.cell? ⟨bZ, 7, none⟩ = some (.int .i64 0) := (cell_of_row _ _ _ _ _ _ Zh15.out).trans rfl
  have cP0 : w15.cell? ⟨bP, 0, none⟩ = some (.int .i64 1) := (cell_of_row _ _ _ _ _ _ Ph15.out).trans rfl
  have cP1 : w15.cell? ⟨bP, 1, none⟩ = some (.int .i64 5) := (cell_of_row _ _ _ _ _ _ Ph15.out).trans rfl
  have cP2 : w15.cell? ⟨bP, 2, none⟩ = some (.int .i64 9) := (cell_of_row _ _ _ _ _ _ Ph15.out).trans rfl
  have cP3 : w15.cell? ⟨bP, 3, none⟩ = some (.int .i64 100) := (cell_of_row _ _ _ _ _ _ Ph15.out).trans rfl
  have cP4 : w15.cell? ⟨bP, 4, none⟩ = some (.int .i64 e2) := (cell_of_row _ _ _ _ _ _ Ph15.out).trans rfl
  have cP5 : w15.cell? ⟨bP, 5, none⟩ = some (.int .i64 s2) := (cell_of_row _ _ _ _ _ _ Ph15.out).trans rfl
  have cQ0 : w15.cell? ⟨bQ, 0, none⟩ = some (.int .i64 1) := (cell_of_row _ _ _ _ _ _ Qh15.out).trans rfl
  have cQ1 : w15.cell? ⟨bQ, 1, none⟩ = some (.int .i64 5) := (cell_of_row _ _ _ _ _ _ Qh15.out).trans rfl
  have cQ2 : w15.cell? ⟨bQ, 2, none⟩ = some (.int .i64 9) := (cell_of_row _ _ _ _ _ _ Qh15.out).trans rfl
  have cQ3 : w15.cell? ⟨bQ, 3, none⟩ = some (.int .i64 100) := (cell_of_row _ _ _ _ _ _ Qh15.out).trans rfl
  have cQ4 : w15.cell? ⟨bQ, 4, none⟩ = some (.int .i64 e2) := (cell_of_row _ _ _ _ _ _ Qh15.out).trans rfl
  have cQ5 : w15.cell? ⟨bQ, 5, none⟩ = some (.int .i64 s2) := (cell_of_row _ _ _ _ _ _ Qh15.out).trans rfl
  clear cK0 cK1 cC0 cC1 cC2 cC3 cC4 cC5 cC6 cC7 cX0 cX1 cX2 cX3 cX4 cX5 cX6 cX7 cZ0 cZ1 cZ2 cZ3 cZ4 cZ5 cZ6 cZ7 cP0 cP1 cP2 cP3 cP4 cP5 cQ0 cQ1 cQ2 cQ3 cQ4 cQ5
  have HS0 : Hid (w15.drew.heap[bK]? = some (.cells #[.int .i64 k, .int .i64 p] 48) ∧ w15.drew.heap[bC]? = some (.cells #[.int .i64 1, .int .i64 5, .int .i64 7, .int .i64 3, .int .i64 4, .string ⟨#[]⟩, .int .i64 e1, .int .i64 s1] 43) ∧ w15.drew.heap[bX]? = some (.cells #[.int .i64 1, .int .i64 5, .int .i64 7, .int .i64 3, .int .i64 4, .string ⟨#[]⟩, .int .i64 e1, .int .i64 s1] 43) ∧ w15.drew.heap[bP]? = some (.cells #[.int .i64 1, .int .i64 5, .int .i64 9, .int .i64 100, .int .i64 e2, .int .i64 s2] 58) ∧ w15.drew.heap[bQ]? = some (.cells #[.int .i64 1, .int .i64 5, .int .i64 9, .int .i64 100, .int .i64 e2, .int .i64 s2] 58) ∧ w15.drew.cell? ⟨bK, 0, none⟩ = some (.int .i64 k) ∧ w15.drew.cell? ⟨bK, 1, none⟩ = some (.int .i64 p) ∧ w15.drew.cell? ⟨bC, 0, none⟩ = some (.int .i64 1) ∧ w15.drew.cell? ⟨bC, 1, none⟩ = some (.int .i64 5) ∧ w15.drew.cell? ⟨bC, 2, none⟩ = some (.int .i64 7) ∧ w15.drew.cell? ⟨bC, 3, none⟩ = some (.int .i64 3) ∧ w15.drew.cell? ⟨bC, 4, none⟩ = some (.int .i64 4) ∧ w15.drew.cell? ⟨bC, 5, none⟩ = some (.string ⟨#[]⟩) ∧ w15.drew.cell? ⟨bC, 6, none⟩ = some (.int .i64 e1) ∧ w15.drew.cell? ⟨bC, 7, none⟩ = some (.int .i64 s1) ∧ Below w.heap.size w w15.drew) := Lib.hid ⟨Kh15.out, Ch15.out, Xh15.out, Ph15.out, Qh15.out, (cell_of_row _ _ _ _ _ _ Kh15.out).trans rfl, (cell_of_row _ _ _ _ _ _ Kh15.out).trans rfl, (cell_of_row _ _ _ _ _ _ Ch15.out).trans rfl, (cell_of_row _ _ _ _ _ _ Ch15.out).trans rfl, (cell_of_row _ _ _ _ _ _ Ch15.out).trans rfl, (cell_of_row _ _ _ _ _ _ Ch15.out).trans rfl, (cell_of_row _ _ _ _ _ _ Ch15.out).trans rfl, (cell_of_row _ _ _ _ _ _ Ch15.out).trans rfl, (cell_of_row _ _ _ _ _ _ Ch15.out).trans rfl, (cell_of_row _ _ _ _ _ _ Ch15.out).trans rfl, HB15.out.drew⟩
  clear Kh15 Ch15 Xh15 Ph15 Qh15 HB15
  have heq1 := eqC 1 5 7 3 4 ⟨#[]⟩ e1 s1 1 5 7 3 4 ⟨#[]⟩ e1 s1
  have heq2 := eqP 1 5 9 100 e2 s2 1 5 9 100 e2 s2
  rw [decide_eq_true ⟨rfl, rfl, rfl, rfl, rfl, rfl, rfl, rfl⟩] at heq1
  rw [decide_eq_true ⟨rfl, rfl, rfl, rfl, rfl, rfl⟩] at heq2
  refine wp_region_noPanic ?_
  refine wp_region_held_drew (S := fun w' => w'.heap[bK]? = some (.cells #[.int .i64 k, .int .i64 p] 48) ∧ w'.heap[bC]? = some (.cells #[.int .i64 1, .int .i64 5, .int .i64 7, .int .i64 3, .int .i64 4, .string ⟨#[]⟩, .int .i64 e1, .int .i64 s1] 43) ∧ w'.heap[bX]? = some (.cells #[.int .i64 1, .int .i64 5, .int .i64 7, .int .i64 3, .int .i64 4, .string ⟨#[]⟩, .int .i64 e1, .int .i64 s1] 43) ∧ w'.heap[bP]? = some (.cells #[.int .i64 1, .int .i64 5, .int .i64 9, .int .i64 100, .int .i64 e2, .int .i64 s2] 58) ∧ w'.heap[bQ]? = some (.cells #[.int .i64 1, .int .i64 5, .int .i64 9, .int .i64 100, .int .i64 e2, .int .i64 s2] 58) ∧ w'.cell? ⟨bK, 0, none⟩ = some (.int .i64 k) ∧ w'.cell? ⟨bK, 1, none⟩ = some (.int .i64 p) ∧ w'.cell? ⟨bC, 0, none⟩ = some (.int .i64 1) ∧ w'.cell? ⟨bC, 1, none⟩ = some (.int .i64 5) ∧ w'.cell? ⟨bC, 2, none⟩ = some (.int .i64 7) ∧ w'.cell? ⟨bC, 3, none⟩ = some (.int .i64 3) ∧ w'.cell? ⟨bC, 4, none⟩ = some (.int .i64 4) ∧ w'.cell? ⟨bC, 5, none⟩ = some (.string ⟨#[]⟩) ∧ w'.cell? ⟨bC, 6, none⟩ = some (.int .i64 e1) ∧ w'.cell? ⟨bC, 7, none⟩ = some (.int .i64 s1) ∧ Below w.heap.size w w') (by kernel_rfl) HS0.out (fun hHeld => ?_)
  refine' wpAnyH_take (i := 0) (v := _) (by simp only [List.getElem?_toArray, List.getElem?_cons_zero]; exact rfl) (by kernel_rfl) (by kernel_rfl) (by kernel_rfl) (fun _ _ _ h => h) (Or.inl ⟨by rfl, ?y0x1⟩) hHeld ?r0x1
  case y0x1 => (intro w hSw; (try dsimp only at hSw); go_simp; try with_reducible rfl)
  try simp only [Act.put, List.setIfInBounds_toArray, List.set_cons_zero, List.set_cons_succ]
  refine' wpAnyH_take (i := 1) (v := _) (by simp only [List.getElem?_toArray, List.getElem?_cons_succ, List.getElem?_cons_zero]; exact rfl) (by kernel_rfl) (by kernel_rfl) (by kernel_rfl) (fun _ _ _ h => h) (Or.inl ⟨by rfl, ?y1x2⟩) hHeld ?r1x2
  case y1x2 => (intro w hSw; (try dsimp only at hSw); go_simp; try with_reducible rfl)
  try simp only [Act.put, List.setIfInBounds_toArray, List.set_cons_zero, List.set_cons_succ]
  refine wpAnyH_ready (rs := [2, 5]) (by kernel_rfl) (by simp) ?_
  refine AllReadyH.cons (by simp only [List.getElem?_toArray, List.getElem?_cons_succ, List.getElem?_cons_zero]; exact rfl) (fun K hK => ?_) (AllReadyH.cons (by simp only [List.getElem?_toArray, List.getElem?_cons_succ, List.getElem?_cons_zero]; exact rfl) (fun K hK => ?_) AllReadyH.nil)
  · go_simp
    refine (HF.out.dig _ (HG.out.below hHeld.2.2.2.2.2.2.2.2.2.2.2.2.2.2.2 HG.out.size) (HM.out.up hHeld.2.2.2.2.2.2.2.2.2.2.2.2.2.2.2)).mono ?_
    rintro e wA ⟨rfl, hb⟩
    refine hK.out _ _ (small_step hHeld hb) (fun hHeld => ?_)
    clear hK K hb
    try simp only [Act.put, List.setIfInBounds_toArray, List.set_cons_zero, List.set_cons_succ]
    refine' wpAnyH_take (i := 3) (v := _) (by simp only [List.getElem?_toArray, List.getElem?_cons_succ, List.getElem?_cons_zero]; exact rfl) (by kernel_rfl) (by kernel_rfl) (by kernel_rfl) (fun _ _ _ h => h) (Or.inl ⟨by rfl, ?y3x3⟩) hHeld ?r3x3
    case y3x3 => (intro w hSw; (try dsimp only at hSw); go_simp; try with_reducible rfl)
    try simp only [Act.put, List.setIfInBounds_toArray, List.set_cons_zero, List.set_cons_succ]
    refine wpAnyH_ready (rs := [4, 5]) (by kernel_rfl) (by simp) ?_
    refine AllReadyH.cons (by simp only [List.getElem?_toArray, List.getElem?_cons_succ, List.getElem?_cons_zero]; exact rfl) (fun K hK => ?_) (AllReadyH.cons (by simp only [List.getElem?_toArray, List.getElem?_cons_succ, List.getElem?_cons_zero]; exact rfl) (fun K hK => ?_) AllReadyH.nil)
    · go_simp
      refine (HF.out.sg2 _ (HG.out.below hHeld.2.2.2.2.2.2.2.2.2.2.2.2.2.2.2 HG.out.size) (HM.out.up hHeld.2.2.2.2.2.2.2.2.2.2.2.2.2.2.2)).mono ?_
      rintro e wB ⟨rfl, hb⟩
      refine hK.out _ _ (small_step hHeld hb) (fun hHeld => ?_)
      clear hK K hb
      try simp only [Act.put, List.setIfInBounds_toArray, List.set_cons_zero, List.set_cons_succ]
      refine wpAnyH_ready (rs := [5]) (by kernel_rfl) (by simp) ?_
      refine AllReadyH.cons (by simp only [List.getElem?_toArray, List.getElem?_cons_succ, List.getElem?_cons_zero]; exact rfl) (fun K hK => ?_) AllReadyH.nil
      have HN : Hid ((wB.alloc (.cells #[.int .i64 0, .int .i64 0, .int .i64 0, .int .i64 0, .int .i64 0, .string ⟨#[]⟩, .int .i64 0, .int .i64 0] 43)).heap[wB.heap.size]? = some (.cells #[.int .i64 0, .int .i64 0, .int .i64 0, .int .i64 0, .int .i64 0, .string ⟨#[]⟩, .int .i64 0, .int .i64 0] 43)) := Lib.hid (heap_alloc_new _ _)
      have hbl : Hid (w.heap.size ≤ wB.heap.size) := Lib.hid (show Below w.heap.size w wB from ⟨(hHeld.2.2.2.2.2.2.2.2.2.2.2.2.2.2.2).os, (hHeld.2.2.2.2.2.2.2.2.2.2.2.2.2.2.2).tape, (hHeld.2.2.2.2.2.2.2.2.2.2.2.2.2.2.2).output, (hHeld.2.2.2.2.2.2.2.2.2.2.2.2.2.2.2).size, (hHeld.2.2.2.2.2.2.2.2.2.2.2.2.2.2.2).block⟩).size
      have hnx0 : Hid (bK ≠ wB.heap.size) := Lib.hid (Nat.ne_of_lt (blk_lt (w := wB) hHeld.1))
      have hnx1 : Hid (bC ≠ wB.heap.size) := Lib.hid (Nat.ne_of_lt (blk_lt (w := wB) hHeld.2.1))
      have hnx2 : Hid (bX ≠ wB.heap.size) := Lib.hid (Nat.ne_of_lt (blk_lt (w := wB) hHeld.2.2.1))
      have hnx3 : Hid (bP ≠ wB.heap.size) := Lib.hid (Nat.ne_of_lt (blk_lt (w := wB) hHeld.2.2.2.1))
      have hnx4 : Hid (bQ ≠ wB.heap.size) := Lib.hid (Nat.ne_of_lt (blk_lt (w := wB) hHeld.2.2.2.2.1))
      go_simp
      refine hK.out _ _ (small_stepA hHeld) (fun hHeld => ?_)
      clear hK K
      try simp only [Act.put, List.setIfInBounds_toArray, List.set_cons_zero, List.set_cons_succ]
      generalize wB.heap.size = bn at *
      generalize wB.alloc (.cells #[.int .i64 0, .int .i64 0, .int .i64 0, .int .i64 0, .int .i64 0, .string ⟨#[]⟩, .int .i64 0, .int .i64 0] 43) = wC at *
      refine wpAnyH_ready (rs := [6]) (by kernel_rfl) (by simp) ?_
      refine AllReadyH.cons (by simp only [List.getElem?_toArray, List.getElem?_cons_succ, List.getElem?_cons_zero]; exact rfl) (fun K hK => ?_) AllReadyH.nil
      have hle : w.heap.size ≤ bn := Hid.out hbl
      have d0 : wC.cell? ⟨bn, 0, none⟩ = some (.int .i64 0) := (cell_of_row _ _ _ _ _ _ HN.out).trans rfl
      have z0 : wC.frozen? ⟨bn, 0, none⟩ = false := frozen_of_row _ _ _ _ _ HN.out
      have hm0 : (wC.setCell ⟨bn, 0, none⟩ (.int .i64 1)).heap[bn]? = some (.cells #[.int .i64 1, .int .i64 0, .int .i64 0, .int .i64 0, .int .i64 0, .string ⟨#[]⟩, .int .i64 0, .int .i64 0] 43 (0, 0)) := (heap_setCell_same _ _ _ _ _ _ HN.out).trans rfl
      have d1 : (wC.setCell ⟨bn, 0, none⟩ (.int .i64 1)).cell? ⟨bn, 1, none⟩ = some (.int .i64 0) := (cell_of_row _ _ _ _ _ _ hm0).trans rfl
      have z1 : (wC.setCell ⟨bn, 0, none⟩ (.int .i64 1)).frozen? ⟨bn, 1, none⟩ = false := frozen_of_row _ _ _ _ _ hm0
      have hm1 : ((wC.setCell ⟨bn, 0, none⟩ (.int .i64 1)).setCell ⟨bn, 1, none⟩ (.int .i64 6)).heap[bn]? = some (.cells #[.int .i64 1, .int .i64 6, .int .i64 0, .int .i64 0, .int .i64 0, .string ⟨#[]⟩, .int .i64 0, .int .i64 0] 43 (0, 0)) := (heap_setCell_same _ _ _ _ _ _ hm0).trans rfl
      have d2 : ((wC.setCell ⟨bn, 0, none⟩ (.int .i64 1)).setCell ⟨bn, 1, none⟩ (.int .i64 6)).cell? ⟨bn, 2, none⟩ = some (.int .i64 0) := (cell_of_row _ _ _ _ _ _ hm1).trans rfl
      have z2 : ((wC.setCell ⟨bn, 0, none⟩ (.int .i64 1)).setCell ⟨bn, 1, none⟩ (.int .i64 6)).frozen? ⟨bn, 2, none⟩ = false := frozen_of_row _ _ _ _ _ hm1
      have hm2 : (((wC.setCell ⟨bn, 0, none⟩ (.int .i64 1)).setCell ⟨bn, 1, none⟩ (.int .i64 6)).setCell ⟨bn, 2, none⟩ (.int .i64 0)).heap[bn]? = some (.cells #[.int .i64 1, .int .i64 6, .int .i64 0, .int .i64 0, .int .i64 0, .string ⟨#[]⟩, .int .i64 0, .int .i64 0] 43 (0, 0)) := (heap_setCell_same _ _ _ _ _ _ hm1).trans rfl
      have d3 : (((wC.setCell ⟨bn, 0, none⟩ (.int .i64 1)).setCell ⟨bn, 1, none⟩ (.int .i64 6)).setCell ⟨bn, 2, none⟩ (.int .i64 0)).cell? ⟨bn, 3, none⟩ = some (.int .i64 0) := (cell_of_row _ _ _ _ _ _ hm2).trans rfl
      have z3 : (((wC.setCell ⟨bn, 0, none⟩ (.int .i64 1)).setCell ⟨bn, 1, none⟩ (.int .i64 6)).setCell ⟨bn, 2, none⟩ (.int .i64 0)).frozen? ⟨bn, 3, none⟩ = false := frozen_of_row _ _ _ _ _ hm2
      have hm3 : ((((wC.setCell ⟨bn, 0, none⟩ (.int .i64 1)).setCell ⟨bn, 1, none⟩ (.int .i64 6)).setCell ⟨bn, 2, none⟩ (.int .i64 0)).setCell ⟨bn, 3, none⟩ (.int .i64 0)).heap[bn]? = some (.cells #[.int .i64 1, .int .i64 6, .int .i64 0, .int .i64 0, .int .i64 0, .string ⟨#[]⟩, .int .i64 0, .int .i64 0] 43 (0, 0)) := (heap_setCell_same _ _ _ _ _ _ hm2).trans rfl
      have d4 : ((((wC.setCell ⟨bn, 0, none⟩ (.int .i64 1)).setCell ⟨bn, 1, none⟩ (.int .i64 6)).setCell ⟨bn, 2, none⟩ (.int .i64 0)).setCell ⟨bn, 3, none⟩ (.int .i64 0)).cell? ⟨bn, 4, none⟩ = some (.int .i64 0) := (cell_of_row _ _ _ _ _ _ hm3).trans rfl
      have z4 : ((((wC.setCell ⟨bn, 0, none⟩ (.int .i64 1)).setCell ⟨bn, 1, none⟩ (.int .i64 6)).setCell ⟨bn, 2, none⟩ (.int .i64 0)).setCell ⟨bn, 3, none⟩ (.int .i64 0)).frozen? ⟨bn, 4, none⟩ = false := frozen_of_row _ _ _ _ _ hm3
      have hm4 : (((((wC.setCell ⟨bn, 0, none⟩ (.int .i64 1)).setCell ⟨bn, 1, none⟩ (.int .i64 6)).setCell ⟨bn, 2, none⟩ (.int .i64 0)).setCell ⟨bn, 3, none⟩ (.int .i64 0)).setCell ⟨bn, 4, none⟩ (.int .i64 0)).heap[bn]? = some (.cells #[.int .i64 1, .int .i64 6, .int .i64 0, .int .i64 0, .int .i64 0, .string ⟨#[]⟩, .int .i64 0, .int .i64 0] 43 (0, 0)) := (heap_setCell_same _ _ _ _ _ _ hm3).trans rfl
      have d5 : (((((wC.setCell ⟨bn, 0, none⟩ (.int .i64 1)).setCell ⟨bn, 1, none⟩ (.int .i64 6)).setCell ⟨bn, 2, none⟩ (.int .i64 0)).setCell ⟨bn, 3, none⟩ (.int .i64 0)).setCell ⟨bn, 4, none⟩ (.int .i64 0)).cell? ⟨bn, 5, none⟩ = some (.string ⟨#[]⟩) := (cell_of_row _ _ _ _ _ _ hm4).trans rfl
      have z5 : (((((wC.setCell ⟨bn, 0, none⟩ (.int .i64 1)).setCell ⟨bn, 1, none⟩ (.int .i64 6)).setCell ⟨bn, 2, none⟩ (.int .i64 0)).setCell ⟨bn, 3, none⟩ (.int .i64 0)).setCell ⟨bn, 4, none⟩ (.int .i64 0)).frozen? ⟨bn, 5, none⟩ = false := frozen_of_row _ _ _ _ _ hm4
      have hm5 : ((((((wC.setCell ⟨bn, 0, none⟩ (.int .i64 1)).setCell ⟨bn, 1, none⟩ (.int .i64 6)).setCell ⟨bn, 2, none⟩ (.int .i64 0)).setCell ⟨bn, 3, none⟩ (.int .i64 0)).setCell ⟨bn, 4, none⟩ (.int .i64 0)).setCell ⟨bn, 5, none⟩ (.string D)).heap[bn]? = some (.cells #[.int .i64 1, .int .i64 6, .int .i64 0, .int .i64 0, .int .i64 0, .string D, .int .i64 0, .int .i64 0] 43 (0, 0)) := (heap_setCell_same _ _ _ _ _ _ hm4).trans rfl
      have d6 : ((((((wC.setCell ⟨bn, 0, none⟩ (.int .i64 1)).setCell ⟨bn, 1, none⟩ (.int .i64 6)).setCell ⟨bn, 2, none⟩ (.int .i64 0)).setCell ⟨bn, 3, none⟩ (.int .i64 0)).setCell ⟨bn, 4, none⟩ (.int .i64 0)).setCell ⟨bn, 5, none⟩ (.string D)).cell? ⟨bn, 6, none⟩ = some (.int .i64 0) := (cell_of_row _ _ _ _ _ _ hm5).trans rfl
      have z6 : ((((((wC.setCell ⟨bn, 0, none⟩ (.int .i64 1)).setCell ⟨bn, 1, none⟩ (.int .i64 6)).setCell ⟨bn, 2, none⟩ (.int .i64 0)).setCell ⟨bn, 3, none⟩ (.int .i64 0)).setCell ⟨bn, 4, none⟩ (.int .i64 0)).setCell ⟨bn, 5, none⟩ (.string D)).frozen? ⟨bn, 6, none⟩ = false := frozen_of_row _ _ _ _ _ hm5
      have hm6 : (((((((wC.setCell ⟨bn, 0, none⟩ (.int .i64 1)).setCell ⟨bn, 1, none⟩ (.int .i64 6)).setCell ⟨bn, 2, none⟩ (.int .i64 0)).setCell ⟨bn, 3, none⟩ (.int .i64 0)).setCell ⟨bn, 4, none⟩ (.int .i64 0)).setCell ⟨bn, 5, none⟩ (.string D)).setCell ⟨bn, 6, none⟩ (.int .i64 e3)).heap[bn]? = some (.cells #[.int .i64 1, .int .i64 6, .int .i64 0, .int .i64 0, .int .i64 0, .string D, .int .i64 e3, .int .i64 0] 43 (0, 0)) := (heap_setCell_same _ _ _ _ _ _ hm5).trans rfl
      have d7 : (((((((wC.setCell ⟨bn, 0, none⟩ (.int .i64 1)).setCell ⟨bn, 1, none⟩ (.int .i64 6)).setCell ⟨bn, 2, none⟩ (.int .i64 0)).setCell ⟨bn, 3, none⟩ (.int .i64 0)).setCell ⟨bn, 4, none⟩ (.int .i64 0)).setCell ⟨bn, 5, none⟩ (.string D)).setCell ⟨bn, 6, none⟩ (.int .i64 e3)).cell? ⟨bn, 7, none⟩ = some (.int .i64 0) := (cell_of_row _ _ _ _ _ _ hm6).trans rfl
      have z7 : (((((((wC.setCell ⟨bn, 0, none⟩ (.int .i64 1)).setCell ⟨bn, 1, none⟩ (.int .i64 6)).setCell ⟨bn, 2, none⟩ (.int .i64 0)).setCell ⟨bn, 3, none⟩ (.int .i64 0)).setCell ⟨bn, 4, none⟩ (.int .i64 0)).setCell ⟨bn, 5, none⟩ (.string D)).setCell ⟨bn, 6, none⟩ (.int .i64 e3)).frozen? ⟨bn, 7, none⟩ = false := frozen_of_row _ _ _ _ _ hm6
      have hm7 : ((((((((wC.setCell ⟨bn, 0, none⟩ (.int .i64 1)).setCell ⟨bn, 1, none⟩ (.int .i64 6)).setCell ⟨bn, 2, none⟩ (.int .i64 0)).setCell ⟨bn, 3, none⟩ (.int .i64 0)).setCell ⟨bn, 4, none⟩ (.int .i64 0)).setCell ⟨bn, 5, none⟩ (.string D)).setCell ⟨bn, 6, none⟩ (.int .i64 e3)).setCell ⟨bn, 7, none⟩ (.int .i64 s3)).heap[bn]? = some (.cells #[.int .i64 1, .int .i64 6, .int .i64 0, .int .i64 0, .int .i64 0, .string D, .int .i64 e3, .int .i64 s3] 43 (0, 0)) := (heap_setCell_same _ _ _ _ _ _ hm6).trans rfl
      have hne0 : bK ≠ bn := Hid.out hnx0
      have hne1 : bC ≠ bn := Hid.out hnx1
      have hne2 : bX ≠ bn := Hid.out hnx2
      have hne3 : bP ≠ bn := Hid.out hnx3
      have hne4 : bQ ≠ bn := Hid.out hnx4
      go_simp
      refine hK.out _ _ (small_stepS (small_stepS (small_stepS (small_stepS (small_stepS (small_stepS (small_stepS (small_stepS hHeld hle hne0 hne1 hne2 hne3 hne4) hle hne0 hne1 hne2 hne3 hne4) hle hne0 hne1 hne2 hne3 hne4) hle hne0 hne1 hne2 hne3 hne4) hle hne0 hne1 hne2 hne3 hne4) hle hne0 hne1 hne2 hne3 hne4) hle hne0 hne1 hne2 hne3 hne4) hle hne0 hne1 hne2 hne3 hne4) (fun hHeld => ?_)
      have HNf := Lib.hid hm7
      clear hK K d0 z0 d1 z1 d2 z2 d3 z3 d4 z4 d5 z5 d6 z6 d7 z7 hm0 hm1 hm2 hm3 hm4 hm5 hm6 hm7 hle hne0 hne1 hne2 hne3 hne4
      try simp only [Act.put, List.setIfInBounds_toArray, List.set_cons_zero, List.set_cons_succ]
      generalize ((((((((wC.setCell ⟨bn, 0, none⟩ (.int .i64 1)).setCell ⟨bn, 1, none⟩ (.int .i64 6)).setCell ⟨bn, 2, none⟩ (.int .i64 0)).setCell ⟨bn, 3, none⟩ (.int .i64 0)).setCell ⟨bn, 4, none⟩ (.int .i64 0)).setCell ⟨bn, 5, none⟩ (.string D)).setCell ⟨bn, 6, none⟩ (.int .i64 e3)).setCell ⟨bn, 7, none⟩ (.int .i64 s3)) = wf at *
      refine wpAnyH_done (by kernel_rfl) ?_ _
      refine NoPanic.normal ?_
      have Kh40 := Lib.hid hHeld.1
      have Ch40 := Lib.hid hHeld.2.1
      have Xh40 := Lib.hid hHeld.2.2.1
      have Ph40 := Lib.hid hHeld.2.2.2.1
      have Qh40 := Lib.hid hHeld.2.2.2.2.1
      have HB40 := Lib.hid hHeld.2.2.2.2.2.2.2.2.2.2.2.2.2.2.2
      have Nh40 := Lib.hid HNf.out
      clear hHeld HNf
      have cK0 : wf.cell? ⟨bK, 0, none⟩ = some (.int .i64 k) := (cell_of_row _ _ _ _ _ _ Kh40.out).trans rfl
      have cK1 : wf.cell? ⟨bK, 1, none⟩ = some (.int .i64 p) := (cell_of_row _ _ _ _ _ _ Kh40.out).trans rfl
      have cC0 : wf.cell? ⟨bC, 0, none⟩ = some (.int .i64 1) := (cell_of_row _ _ _ _ _ _ Ch40.out).trans rfl
      have cC1 : wf.cell? ⟨bC, 1, none⟩ = some (.int .i64 5) := (cell_of_row _ _ _ _ _ _ Ch40.out).trans rfl
      have cC2 : wf.cell? ⟨bC, 2, none⟩ = some (.int .i64 7) := (cell_of_row _ _ _ _ _ _ Ch40.out).trans rfl
      have cC3 : wf.cell? ⟨bC, 3, none⟩ = some (.int .i64 3) := (cell_of_row _ _ _ _ _ _ Ch40.out).trans rfl
      have cC4 : wf.cell? ⟨bC, 4, none⟩ = some (.int .i64 4) := (cell_of_row _ _ _ _ _ _ Ch40.out).trans rfl
      have cC5 : wf.cell? ⟨bC, 5, none⟩ = some (.string ⟨#[]⟩) := (cell_of_row _ _ _ _ _ _ Ch40.out).trans rfl
      have cC6 : wf.cell? ⟨bC, 6, none⟩ = some (.int .i64 e1) := (cell_of_row _ _ _ _ _ _ Ch40.out).trans rfl
      have cC7 : wf.cell? ⟨bC, 7, none⟩ = some (.int .i64 s1) := (cell_of_row _ _ _ _ _ _ Ch40.out).trans rfl
      have cX0 : wf.cell? ⟨bX, 0, none⟩ = some (.int .i64 1) := (cell_of_row _ _ _ _ _ _ Xh40.out).trans rfl
      have cX1 : wf.cell? ⟨bX, 1, none⟩ = some (.int .i64 5) := (cell_of_row _ _ _ _ _ _ Xh40.out).trans rfl
      have cX2 : wf.cell? ⟨bX, 2, none⟩ = some (.int .i64 7) := (cell_of_row _ _ _ _ _ _ Xh40.out).trans rfl
      have cX3 : wf.cell? ⟨bX, 3, none⟩ = some (.int .i64 3) := (cell_of_row _ _ _ _ _ _ Xh40.out).trans rfl
      have cX4 : wf.cell? ⟨bX, 4, none⟩ = some (.int .i64 4) := (cell_of_row _ _ _ _ _ _ Xh40.out).trans rfl
      have cX5 : wf.cell? ⟨bX, 5, none⟩ = some (.string ⟨#[]⟩) := (cell_of_row _ _ _ _ _ _ Xh40.out).trans rfl
      have cX6 : wf.cell? ⟨bX, 6, none⟩ = some (.int .i64 e1) := (cell_of_row _ _ _ _ _ _ Xh40.out).trans rfl
      have cX7 : wf.cell? ⟨bX, 7, none⟩ = some (.int .i64 s1) := (cell_of_row _ _ _ _ _ _ Xh40.out).trans rfl
      have cP0 : wf.cell? ⟨bP, 0, none⟩ = some (.int .i64 1) := (cell_of_row _ _ _ _ _ _ Ph40.out).trans rfl
      have cP1 : wf.cell? ⟨bP, 1, none⟩ = some (.int .i64 5) := (cell_of_row _ _ _ _ _ _ Ph40.out).trans rfl
      have cP2 : wf.cell? ⟨bP, 2, none⟩ = some (.int .i64 9) := (cell_of_row _ _ _ _ _ _ Ph40.out).trans rfl
      have cP3 : wf.cell? ⟨bP, 3, none⟩ = some (.int .i64 100) := (cell_of_row _ _ _ _ _ _ Ph40.out).trans rfl
      have cP4 : wf.cell? ⟨bP, 4, none⟩ = some (.int .i64 e2) := (cell_of_row _ _ _ _ _ _ Ph40.out).trans rfl
      have cP5 : wf.cell? ⟨bP, 5, none⟩ = some (.int .i64 s2) := (cell_of_row _ _ _ _ _ _ Ph40.out).trans rfl
      have cQ0 : wf.cell? ⟨bQ, 0, none⟩ = some (.int .i64 1) := (cell_of_row _ _ _ _ _ _ Qh40.out).trans rfl
      have cQ1 : wf.cell? ⟨bQ, 1, none⟩ = some (.int .i64 5) := (cell_of_row _ _ _ _ _ _ Qh40.out).trans rfl
      have cQ2 : wf.cell? ⟨bQ, 2, none⟩ = some (.int .i64 9) := (cell_of_row _ _ _ _ _ _ Qh40.out).trans rfl
      have cQ3 : wf.cell? ⟨bQ, 3, none⟩ = some (.int .i64 100) := (cell_of_row _ _ _ _ _ _ Qh40.out).trans rfl
      have cQ4 : wf.cell? ⟨bQ, 4, none⟩ = some (.int .i64 e2) := (cell_of_row _ _ _ _ _ _ Qh40.out).trans rfl
      have cQ5 : wf.cell? ⟨bQ, 5, none⟩ = some (.int .i64 s2) := (cell_of_row _ _ _ _ _ _ Qh40.out).trans rfl
      have cN0 : wf.cell? ⟨bn, 0, none⟩ = some (.int .i64 1) := (cell_of_row _ _ _ _ _ _ Nh40.out).trans rfl
      have cN1 : wf.cell? ⟨bn, 1, none⟩ = some (.int .i64 6) := (cell_of_row _ _ _ _ _ _ Nh40.out).trans rfl
      have cN2 : wf.cell? ⟨bn, 2, none⟩ = some (.int .i64 0) := (cell_of_row _ _ _ _ _ _ Nh40.out).trans rfl
      have cN3 : wf.cell? ⟨bn, 3, none⟩ = some (.int .i64 0) := (cell_of_row _ _ _ _ _ _ Nh40.out).trans rfl
      have cN4 : wf.cell? ⟨bn, 4, none⟩ = some (.int .i64 0) := (cell_of_row _ _ _ _ _ _ Nh40.out).trans rfl
      have cN5 : wf.cell? ⟨bn, 5, none⟩ = some (.string D) := (cell_of_row _ _ _ _ _ _ Nh40.out).trans rfl
      have cN6 : wf.cell? ⟨bn, 6, none⟩ = some (.int .i64 e3) := (cell_of_row _ _ _ _ _ _ Nh40.out).trans rfl
      have cN7 : wf.cell? ⟨bn, 7, none⟩ = some (.int .i64 s3) := (cell_of_row _ _ _ _ _ _ Nh40.out).trans rfl
      have hb1 := heap_alloc_new wf (.cells #[.int .i64 0, .int .i64 p] 3)
      have hbA : Below wf.heap.size wf (wf.alloc (.cells #[.int .i64 0, .int .i64 p] 3)) := (Below.refl _ _).alloc (Nat.le_refl _) _
      have hCx := blk_below Ch40.out hbA (blk_lt Ch40.out)
      have hNx := blk_below Nh40.out hbA (blk_lt Nh40.out)
      have yC0 : (wf.alloc (.cells #[.int .i64 0, .int .i64 p] 3)).cell? ⟨bC, 0, none⟩ = some (.int .i64 1) := (cell_of_row _ _ _ _ _ _ hCx).trans rfl
      have yC1 : (wf.alloc (.cells #[.int .i64 0, .int .i64 p] 3)).cell? ⟨bC, 1, none⟩ = some (.int .i64 5) := (cell_of_row _ _ _ _ _ _ hCx).trans rfl
      have yC2 : (wf.alloc (.cells #[.int .i64 0, .int .i64 p] 3)).cell? ⟨bC, 2, none⟩ = some (.int .i64 7) := (cell_of_row _ _ _ _ _ _ hCx).trans rfl
      have yC3 : (wf.alloc (.cells #[.int .i64 0, .int .i64 p] 3)).cell? ⟨bC, 3, none⟩ = some (.int .i64 3) := (cell_of_row _ _ _ _ _ _ hCx).trans rfl
      have yC4 : (wf.alloc (.cells #[.int .i64 0, .int .i64 p] 3)).cell? ⟨bC, 4, none⟩ = some (.int .i64 4) := (cell_of_row _ _ _ _ _ _ hCx).trans rfl
      have yC5 : (wf.alloc (.cells #[.int .i64 0, .int .i64 p] 3)).cell? ⟨bC, 5, none⟩ = some (.string ⟨#[]⟩) := (cell_of_row _ _ _ _ _ _ hCx).trans rfl
      have yC6 : (wf.alloc (.cells #[.int .i64 0, .int .i64 p] 3)).cell? ⟨bC, 6, none⟩ = some (.int .i64 e1) := (cell_of_row _ _ _ _ _ _ hCx).trans rfl
      have yC7 : (wf.alloc (.cells #[.int .i64 0, .int .i64 p] 3)).cell? ⟨bC, 7, none⟩ = some (.int .i64 s1) := (cell_of_row _ _ _ _ _ _ hCx).trans rfl
      have yN0 : (wf.alloc (.cells #[.int .i64 0, .int .i64 p] 3)).cell? ⟨bn, 0, none⟩ = some (.int .i64 1) := (cell_of_row _ _ _ _ _ _ hNx).trans rfl
      have yN1 : (wf.alloc (.cells #[.int .i64 0, .int .i64 p] 3)).cell? ⟨bn, 1, none⟩ = some (.int .i64 6) := (cell_of_row _ _ _ _ _ _ hNx).trans rfl
      have yN2 : (wf.alloc (.cells #[.int .i64 0, .int .i64 p] 3)).cell? ⟨bn, 2, none⟩ = some (.int .i64 0) := (cell_of_row _ _ _ _ _ _ hNx).trans rfl
      have yN3 : (wf.alloc (.cells #[.int .i64 0, .int .i64 p] 3)).cell? ⟨bn, 3, none⟩ = some (.int .i64 0) := (cell_of_row _ _ _ _ _ _ hNx).trans rfl
      have yN4 : (wf.alloc (.cells #[.int .i64 0, .int .i64 p] 3)).cell? ⟨bn, 4, none⟩ = some (.int .i64 0) := (cell_of_row _ _ _ _ _ _ hNx).trans rfl
      have yN5 : (wf.alloc (.cells #[.int .i64 0, .int .i64 p] 3)).cell? ⟨bn, 5, none⟩ = some (.string D) := (cell_of_row _ _ _ _ _ _ hNx).trans rfl
      have yN6 : (wf.alloc (.cells #[.int .i64 0, .int .i64 p] 3)).cell? ⟨bn, 6, none⟩ = some (.int .i64 e3) := (cell_of_row _ _ _ _ _ _ hNx).trans rfl
      have yN7 : (wf.alloc (.cells #[.int .i64 0, .int .i64 p] 3)).cell? ⟨bn, 7, none⟩ = some (.int .i64 s3) := (cell_of_row _ _ _ _ _ _ hNx).trans rfl
      go_wp2_with fail
      clear hCx hNx yC0 yN0 yC1 yN1 yC2 yN2 yC3 yN3 yC4 yN4 yC5 yN5 yC6 yN6 yC7 yN7
      have hbB : Below wf.heap.size wf ((wf.alloc (.cells #[.int .i64 0, .int .i64 p] 3)).alloc (.cells #[.int .i64 1, .int .i64 5, .int .i64 7, .int .i64 3, .int .i64 4, .string ⟨#[]⟩, .int .i64 e1, .int .i64 s1, .int .i64 1, .int .i64 6, .int .i64 0, .int .i64 0, .int .i64 0, .string D, .int .i64 e3, .int .i64 s3] 43)) := hbA.alloc hbA.size _
      have hb2 := heap_alloc_new (wf.alloc (.cells #[.int .i64 0, .int .i64 p] 3)) (.cells #[.int .i64 1, .int .i64 5, .int .i64 7, .int .i64 3, .int .i64 4, .string ⟨#[]⟩, .int .i64 e1, .int .i64 s1, .int .i64 1, .int .i64 6, .int .i64 0, .int .i64 0, .int .i64 0, .string D, .int .i64 e3, .int .i64 s3] 43)
      rw [World.size_alloc] at hb2
      have hb1x := blk_below hb1 ((Below.refl _ _).alloc (Nat.le_refl _) (.cells #[.int .i64 1, .int .i64 5, .int .i64 7, .int .i64 3, .int .i64 4, .string ⟨#[]⟩, .int .i64 e1, .int .i64 s1, .int .i64 1, .int .i64 6, .int .i64 0, .int .i64 0, .int .i64 0, .string D, .int .i64 e3, .int .i64 s3] 43)) (blk_lt hb1)
      refine (HF.out.ch2 _ _ _ hb1x hb2 (HG.out.below (HB40.out.trans (hbB.mono HB40.out.size)) HG.out.size) (HM.out.up (HB40.out.trans (hbB.mono HB40.out.size)))).mono ?_
      rintro e w31 ⟨a1, k1, rfl, hbz⟩
      have hb : Below wf.heap.size wf w31 := hbB.trans (hbz.mono hbB.size)
      have HB41 := Lib.hid (HB40.out.trans (hb.mono HB40.out.size))
      have Kh41 := Lib.hid (blk_below Kh40.out hb (blk_lt Kh40.out))
      have Ch41 := Lib.hid (blk_below Ch40.out hb (blk_lt Ch40.out))
      have Xh41 := Lib.hid (blk_below Xh40.out hb (blk_lt Xh40.out))
      have Ph41 := Lib.hid (blk_below Ph40.out hb (blk_lt Ph40.out))
      have Qh41 := Lib.hid (blk_below Qh40.out hb (blk_lt Qh40.out))
      have Nh41 := Lib.hid (blk_below Nh40.out hb (blk_lt Nh40.out))
      clear cK0 cK1 cC0 cC1 cC2 cC3 cC4 cC5 cC6 cC7 cX0 cX1 cX2 cX3 cX4 cX5 cX6 cX7 cP0 cP1 cP2 cP3 cP4 cP5 cQ0 cQ1 cQ2 cQ3 cQ4 cQ5 cN0 cN1 cN2 cN3 cN4 cN5 cN6 cN7
      clear HB40 Kh40 Ch40 Xh40 Ph40 Qh40 Nh40
      clear hb hbz hbA hbB hb1 hb2 hb1x
      have cK0 : w31.cell? ⟨bK, 0, none⟩ = some (.int .i64 k) := (cell_of_row _ _ _ _ _ _ Kh41.out).trans rfl
      have cK1 : w31.cell? ⟨bK, 1, none⟩ = some (.int .i64 p) := (cell_of_row _ _ _ _ _ _ Kh41.out).trans rfl
      have cC0 : w31.cell? ⟨bC, 0, none⟩ = some (.int .i64 1) := (cell_of_row _ _ _ _ _ _ Ch41.out).trans rfl
      have cC1 : w31.cell? ⟨bC, 1, none⟩ = some (.int .i64 5) := (cell_of_row _ _ _ _ _ _ Ch41.out).trans rfl
      have cC2 : w31.cell? ⟨bC, 2, none⟩ = some (.int .i64 7) := (cell_of_row _ _ _ _ _ _ Ch41.out).trans rfl
      have cC3 : w31.cell? ⟨bC, 3, none⟩ = some (.int .i64 3) := (cell_of_row _ _ _ _ _ _ Ch41.out).trans rfl
      have cC4 : w31.cell? ⟨bC, 4, none⟩ = some (.int .i64 4) := (cell_of_row _ _ _ _ _ _ Ch41.out).trans rfl
      have cC5 : w31.cell? ⟨bC, 5, none⟩ = some (.string ⟨#[]⟩) := (cell_of_row _ _ _ _ _ _ Ch41.out).trans rfl
      have cC6 : w31.cell? ⟨bC, 6, none⟩ = some (.int .i64 e1) := (cell_of_row _ _ _ _ _ _ Ch41.out).trans rfl
      have cC7 : w31.cell? ⟨bC, 7, none⟩ = some (.int .i64 s1) := (cell_of_row _ _ _ _ _ _ Ch41.out).trans rfl
      have cX0 : w31.cell? ⟨bX, 0, none⟩ = some (.int .i64 1) := (cell_of_row _ _ _ _ _ _ Xh41.out).trans rfl
      have cX1 : w31.cell? ⟨bX, 1, none⟩ = some (.int .i64 5) := (cell_of_row _ _ _ _ _ _ Xh41.out).trans rfl
      have cX2 : w31.cell? ⟨bX, 2, none⟩ = some (.int .i64 7) := (cell_of_row _ _ _ _ _ _ Xh41.out).trans rfl
      have cX3 : w31.cell? ⟨bX, 3, none⟩ = some (.int .i64 3) := (cell_of_row _ _ _ _ _ _ Xh41.out).trans rfl
      have cX4 : w31.cell? ⟨bX, 4, none⟩ = some (.int .i64 4) := (cell_of_row _ _ _ _ _ _ Xh41.out).trans rfl
      have cX5 : w31.cell? ⟨bX, 5, none⟩ = some (.string ⟨#[]⟩) := (cell_of_row _ _ _ _ _ _ Xh41.out).trans rfl
      have cX6 : w31.cell? ⟨bX, 6, none⟩ = some (.int .i64 e1) := (cell_of_row _ _ _ _ _ _ Xh41.out).trans rfl
      have cX7 : w31.cell? ⟨bX, 7, none⟩ = some (.int .i64 s1) := (cell_of_row _ _ _ _ _ _ Xh41.out).trans rfl
      have cP0 : w31.cell? ⟨bP, 0, none⟩ = some (.int .i64 1) := (cell_of_row _ _ _ _ _ _ Ph41.out).trans rfl
      have cP1 : w31.cell? ⟨bP, 1, none⟩ = some (.int .i64 5) := (cell_of_row _ _ _ _ _ _ Ph41.out).trans rfl
      have cP2 : w31.cell? ⟨bP, 2, none⟩ = some (.int .i64 9) := (cell_of_row _ _ _ _ _ _ Ph41.out).trans rfl
      have cP3 : w31.cell? ⟨bP, 3, none⟩ = some (.int .i64 100) := (cell_of_row _ _ _ _ _ _ Ph41.out).trans rfl
      have cP4 : w31.cell? ⟨bP, 4, none⟩ = some (.int .i64 e2) := (cell_of_row _ _ _ _ _ _ Ph41.out).trans rfl
      have cP5 : w31.cell? ⟨bP, 5, none⟩ = some (.int .i64 s2) := (cell_of_row _ _ _ _ _ _ Ph41.out).trans rfl
      have cQ0 : w31.cell? ⟨bQ, 0, none⟩ = some (.int .i64 1) := (cell_of_row _ _ _ _ _ _ Qh41.out).trans rfl
      have cQ1 : w31.cell? ⟨bQ, 1, none⟩ = some (.int .i64 5) := (cell_of_row _ _ _ _ _ _ Qh41.out).trans rfl
      have cQ2 : w31.cell? ⟨bQ, 2, none⟩ = some (.int .i64 9) := (cell_of_row _ _ _ _ _ _ Qh41.out).trans rfl
      have cQ3 : w31.cell? ⟨bQ, 3, none⟩ = some (.int .i64 100) := (cell_of_row _ _ _ _ _ _ Qh41.out).trans rfl
      have cQ4 : w31.cell? ⟨bQ, 4, none⟩ = some (.int .i64 e2) := (cell_of_row _ _ _ _ _ _ Qh41.out).trans rfl
      have cQ5 : w31.cell? ⟨bQ, 5, none⟩ = some (.int .i64 s2) := (cell_of_row _ _ _ _ _ _ Qh41.out).trans rfl
      have cN0 : w31.cell? ⟨bn, 0, none⟩ = some (.int .i64 1) := (cell_of_row _ _ _ _ _ _ Nh41.out).trans rfl
      have cN1 : w31.cell? ⟨bn, 1, none⟩ = some (.int .i64 6) := (cell_of_row _ _ _ _ _ _ Nh41.out).trans rfl
      have cN2 : w31.cell? ⟨bn, 2, none⟩ = some (.int .i64 0) := (cell_of_row _ _ _ _ _ _ Nh41.out).trans rfl
      have cN3 : w31.cell? ⟨bn, 3, none⟩ = some (.int .i64 0) := (cell_of_row _ _ _ _ _ _ Nh41.out).trans rfl
      have cN4 : w31.cell? ⟨bn, 4, none⟩ = some (.int .i64 0) := (cell_of_row _ _ _ _ _ _ Nh41.out).trans rfl
      have cN5 : w31.cell? ⟨bn, 5, none⟩ = some (.string D) := (cell_of_row _ _ _ _ _ _ Nh41.out).trans rfl
      have cN6 : w31.cell? ⟨bn, 6, none⟩ = some (.int .i64 e3) := (cell_of_row _ _ _ _ _ _ Nh41.out).trans rfl
      have cN7 : w31.cell? ⟨bn, 7, none⟩ = some (.int .i64 s3) := (cell_of_row _ _ _ _ _ _ Nh41.out).trans rfl
      go_wp2_with fail
      refine (HF.out.ver _ (HG.out.below HB41.out HG.out.size) (HM.out.up HB41.out)).mono ?_
      rintro e w32 ⟨rfl, hb⟩
      have HB42 := Lib.hid (HB41.out.trans (hb.mono HB41.out.size))
      have Kh42 := Lib.hid (blk_below Kh41.out hb (blk_lt Kh41.out))
      have Ch42 := Lib.hid (blk_below Ch41.out hb (blk_lt Ch41.out))
      have Xh42 := Lib.hid (blk_below Xh41.out hb (blk_lt Xh41.out))
      have Ph42 := Lib.hid (blk_below Ph41.out hb (blk_lt Ph41.out))
      have Qh42 := Lib.hid (blk_below Qh41.out hb (blk_lt Qh41.out))
      have Nh42 := Lib.hid (blk_below Nh41.out hb (blk_lt Nh41.out))
      clear cK0 cK1 cC0 cC1 cC2 cC3 cC4 cC5 cC6 cC7 cX0 cX1 cX2 cX3 cX4 cX5 cX6 cX7 cP0 cP1 cP2 cP3 cP4 cP5 cQ0 cQ1 cQ2 cQ3 cQ4 cQ5 cN0 cN1 cN2 cN3 cN4 cN5 cN6 cN7
      clear HB41 Kh41 Ch41 Xh41 Ph41 Qh41 Nh41
      clear hb
      have cK0 : w32.cell? ⟨bK, 0, none⟩ = some (.int .i64 k) := (cell_of_row _ _ _ _ _ _ Kh42.out).trans rfl
      have cK1 : w32.cell? ⟨bK, 1, none⟩ = some (.int .i64 p) := (cell_of_row _ _ _ _ _ _ Kh42.out).trans rfl
      have cC0 : w32.cell? ⟨bC, 0, none⟩ = some (.int .i64 1) := (cell_of_row _ _ _ _ _ _ Ch42.out).trans rfl
      have cC1 : w32.cell? ⟨bC, 1, none⟩ = some (.int .i64 5) := (cell_of_row _ _ _ _ _ _ Ch42.out).trans rfl
      have cC2 : w32.cell? ⟨bC, 2, none⟩ = some (.int .i64 7) := (cell_of_row _ _ _ _ _ _ Ch42.out).trans rfl
      have cC3 : w32.cell? ⟨bC, 3, none⟩ = some (.int .i64 3) := (cell_of_row _ _ _ _ _ _ Ch42.out).trans rfl
      have cC4 : w32.cell? ⟨bC, 4, none⟩ = some (.int .i64 4) := (cell_of_row _ _ _ _ _ _ Ch42.out).trans rfl
      have cC5 : w32.cell? ⟨bC, 5, none⟩ = some (.string ⟨#[]⟩) := (cell_of_row _ _ _ _ _ _ Ch42.out).trans rfl
      have cC6 : w32.cell? ⟨bC, 6, none⟩ = some (.int .i64 e1) := (cell_of_row _ _ _ _ _ _ Ch42.out).trans rfl
      have cC7 : w32.cell? ⟨bC, 7, none⟩ = some (.int .i64 s1) := (cell_of_row _ _ _ _ _ _ Ch42.out).trans rfl
      have cX0 : w32.cell? ⟨bX, 0, none⟩ = some (.int .i64 1) := (cell_of_row _ _ _ _ _ _ Xh42.out).trans rfl
      have cX1 : w32.cell? ⟨bX, 1, none⟩ = some (.int .i64 5) := (cell_of_row _ _ _ _ _ _ Xh42.out).trans rfl
      have cX2 : w32.cell? ⟨bX, 2, none⟩ = some (.int .i64 7) := (cell_of_row _ _ _ _ _ _ Xh42.out).trans rfl
      have cX3 : w32.cell? ⟨bX, 3, none⟩ = some (.int .i64 3) := (cell_of_row _ _ _ _ _ _ Xh42.out).trans rfl
      have cX4 : w32.cell? ⟨bX, 4, none⟩ = some (.int .i64 4) := (cell_of_row _ _ _ _ _ _ Xh42.out).trans rfl
      have cX5 : w32.cell? ⟨bX, 5, none⟩ = some (.string ⟨#[]⟩) := (cell_of_row _ _ _ _ _ _ Xh42.out).trans rfl
      have cX6 : w32.cell? ⟨bX, 6, none⟩ = some (.int .i64 e1) := (cell_of_row _ _ _ _ _ _ Xh42.out).trans rfl
      have cX7 : w32.cell? ⟨bX, 7, none⟩ = some (.int .i64 s1) := (cell_of_row _ _ _ _ _ _ Xh42.out).trans rfl
      have cP0 : w32.cell? ⟨bP, 0, none⟩ = some (.int .i64 1) := (cell_of_row _ _ _ _ _ _ Ph42.out).trans rfl
      have cP1 : w32.cell? ⟨bP, 1, none⟩ = some (.int .i64 5) := (cell_of_row _ _ _ _ _ _ Ph42.out).trans rfl
      have cP2 : w32.cell? ⟨bP, 2, none⟩ = some (.int .i64 9) := (cell_of_row _ _ _ _ _ _ Ph42.out).trans rfl
      have cP3 : w32.cell? ⟨bP, 3, none⟩ = some (.int .i64 100) := (cell_of_row _ _ _ _ _ _ Ph42.out).trans rfl
      have cP4 : w32.cell? ⟨bP, 4, none⟩ = some (.int .i64 e2) := (cell_of_row _ _ _ _ _ _ Ph42.out).trans rfl
      have cP5 : w32.cell? ⟨bP, 5, none⟩ = some (.int .i64 s2) := (cell_of_row _ _ _ _ _ _ Ph42.out).trans rfl
      have cQ0 : w32.cell? ⟨bQ, 0, none⟩ = some (.int .i64 1) := (cell_of_row _ _ _ _ _ _ Qh42.out).trans rfl
      have cQ1 : w32.cell? ⟨bQ, 1, none⟩ = some (.int .i64 5) := (cell_of_row _ _ _ _ _ _ Qh42.out).trans rfl
      have cQ2 : w32.cell? ⟨bQ, 2, none⟩ = some (.int .i64 9) := (cell_of_row _ _ _ _ _ _ Qh42.out).trans rfl
      have cQ3 : w32.cell? ⟨bQ, 3, none⟩ = some (.int .i64 100) := (cell_of_row _ _ _ _ _ _ Qh42.out).trans rfl
      have cQ4 : w32.cell? ⟨bQ, 4, none⟩ = some (.int .i64 e2) := (cell_of_row _ _ _ _ _ _ Qh42.out).trans rfl
      have cQ5 : w32.cell? ⟨bQ, 5, none⟩ = some (.int .i64 s2) := (cell_of_row _ _ _ _ _ _ Qh42.out).trans rfl
      have cN0 : w32.cell? ⟨bn, 0, none⟩ = some (.int .i64 1) := (cell_of_row _ _ _ _ _ _ Nh42.out).trans rfl
      have cN1 : w32.cell? ⟨bn, 1, none⟩ = some (.int .i64 6) := (cell_of_row _ _ _ _ _ _ Nh42.out).trans rfl
      have cN2 : w32.cell? ⟨bn, 2, none⟩ = some (.int .i64 0) := (cell_of_row _ _ _ _ _ _ Nh42.out).trans rfl
      have cN3 : w32.cell? ⟨bn, 3, none⟩ = some (.int .i64 0) := (cell_of_row _ _ _ _ _ _ Nh42.out).trans rfl
      have cN4 : w32.cell? ⟨bn, 4, none⟩ = some (.int .i64 0) := (cell_of_row _ _ _ _ _ _ Nh42.out).trans rfl
      have cN5 : w32.cell? ⟨bn, 5, none⟩ = some (.string D) := (cell_of_row _ _ _ _ _ _ Nh42.out).trans rfl
      have cN6 : w32.cell? ⟨bn, 6, none⟩ = some (.int .i64 e3) := (cell_of_row _ _ _ _ _ _ Nh42.out).trans rfl
      have cN7 : w32.cell? ⟨bn, 7, none⟩ = some (.int .i64 s3) := (cell_of_row _ _ _ _ _ _ Nh42.out).trans rfl
      go_wp2_with fail
      refine (HF.out.pver _ (HG.out.below HB42.out HG.out.size) (HM.out.up HB42.out)).mono ?_
      rintro e w33 ⟨rfl, hb⟩
      have HB43 := Lib.hid (HB42.out.trans (hb.mono HB42.out.size))
      have Kh43 := Lib.hid (blk_below Kh42.out hb (blk_lt Kh42.out))
      have Ch43 := Lib.hid (blk_below Ch42.out hb (blk_lt Ch42.out))
      have Xh43 := Lib.hid (blk_below Xh42.out hb (blk_lt Xh42.out))
      have Ph43 := Lib.hid (blk_below Ph42.out hb (blk_lt Ph42.out))
      have Qh43 := Lib.hid (blk_below Qh42.out hb (blk_lt Qh42.out))
      have Nh43 := Lib.hid (blk_below Nh42.out hb (blk_lt Nh42.out))
      clear cK0 cK1 cC0 cC1 cC2 cC3 cC4 cC5 cC6 cC7 cX0 cX1 cX2 cX3 cX4 cX5 cX6 cX7 cP0 cP1 cP2 cP3 cP4 cP5 cQ0 cQ1 cQ2 cQ3 cQ4 cQ5 cN0 cN1 cN2 cN3 cN4 cN5 cN6 cN7
      clear HB42 Kh42 Ch42 Xh42 Ph42 Qh42 Nh42
      clear hb
      have cK0 : w33.cell? ⟨bK, 0, none⟩ = some (.int .i64 k) := (cell_of_row _ _ _ _ _ _ Kh43.out).trans rfl
      have cK1 : w33.cell? ⟨bK, 1, none⟩ = some (.int .i64 p) := (cell_of_row _ _ _ _ _ _ Kh43.out).trans rfl
      have cC0 : w33.cell? ⟨bC, 0, none⟩ = some (.int .i64 1) := (cell_of_row _ _ _ _ _ _ Ch43.out).trans rfl
      have cC1 : w33.cell? ⟨bC, 1, none⟩ = some (.int .i64 5) := (cell_of_row _ _ _ _ _ _ Ch43.out).trans rfl
      have cC2 : w33.cell? ⟨bC, 2, none⟩ = some (.int .i64 7) := (cell_of_row _ _ _ _ _ _ Ch43.out).trans rfl
      have cC3 : w33.cell? ⟨bC, 3, none⟩ = some (.int .i64 3) := (cell_of_row _ _ _ _ _ _ Ch43.out).trans rfl
      have cC4 : w33.cell? ⟨bC, 4, none⟩ = some (.int .i64 4) := (cell_of_row _ _ _ _ _ _ Ch43.out).trans rfl
      have cC5 : w33.cell? ⟨bC, 5, none⟩ = some (.string ⟨#[]⟩) := (cell_of_row _ _ _ _ _ _ Ch43.out).trans rfl
      have cC6 : w33.cell? ⟨bC, 6, none⟩ = some (.int .i64 e1) := (cell_of_row _ _ _ _ _ _ Ch43.out).trans rfl
      have cC7 : w33.cell? ⟨bC, 7, none⟩ = some (.int .i64 s1) := (cell_of_row _ _ _ _ _ _ Ch43.out).trans rfl
      have cX0 : w33.cell? ⟨bX, 0, none⟩ = some (.int .i64 1) := (cell_of_row _ _ _ _ _ _ Xh43.out).trans rfl
      have cX1 : w33.cell? ⟨bX, 1, none⟩ = some (.int .i64 5) := (cell_of_row _ _ _ _ _ _ Xh43.out).trans rfl
      have cX2 : w33.cell? ⟨bX, 2, none⟩ = some (.int .i64 7) := (cell_of_row _ _ _ _ _ _ Xh43.out).trans rfl
      have cX3 : w33.cell? ⟨bX, 3, none⟩ = some (.int .i64 3) := (cell_of_row _ _ _ _ _ _ Xh43.out).trans rfl
      have cX4 : w33.cell? ⟨bX, 4, none⟩ = some (.int .i64 4) := (cell_of_row _ _ _ _ _ _ Xh43.out).trans rfl
      have cX5 : w33.cell? ⟨bX, 5, none⟩ = some (.string ⟨#[]⟩) := (cell_of_row _ _ _ _ _ _ Xh43.out).trans rfl
      have cX6 : w33.cell? ⟨bX, 6, none⟩ = some (.int .i64 e1) := (cell_of_row _ _ _ _ _ _ Xh43.out).trans rfl
      have cX7 : w33.cell? ⟨bX, 7, none⟩ = some (.int .i64 s1) := (cell_of_row _ _ _ _ _ _ Xh43.out).trans rfl
      have cP0 : w33.cell? ⟨bP, 0, none⟩ = some (.int .i64 1) := (cell_of_row _ _ _ _ _ _ Ph43.out).trans rfl
      have cP1 : w33.cell? ⟨bP, 1, none⟩ = some (.int .i64 5) := (cell_of_row _ _ _ _ _ _ Ph43.out).trans rfl
      have cP2 : w33.cell? ⟨bP, 2, none⟩ = some (.int .i64 9) := (cell_of_row _ _ _ _ _ _ Ph43.out).trans rfl
      have cP3 : w33.cell? ⟨bP, 3, none⟩ = some (.int .i64 100) := (cell_of_row _ _ _ _ _ _ Ph43.out).trans rfl
      have cP4 : w33.cell? ⟨bP, 4, none⟩ = some (.int .i64 e2) := (cell_of_row _ _ _ _ _ _ Ph43.out).trans rfl
      have cP5 : w33.cell? ⟨bP, 5, none⟩ = some (.int .i64 s2) := (cell_of_row _ _ _ _ _ _ Ph43.out).trans rfl
      have cQ0 : w33.cell? ⟨bQ, 0, none⟩ = some (.int .i64 1) := (cell_of_row _ _ _ _ _ _ Qh43.out).trans rfl
      have cQ1 : w33.cell? ⟨bQ, 1, none⟩ = some (.int .i64 5) := (cell_of_row _ _ _ _ _ _ Qh43.out).trans rfl
      have cQ2 : w33.cell? ⟨bQ, 2, none⟩ = some (.int .i64 9) := (cell_of_row _ _ _ _ _ _ Qh43.out).trans rfl
      have cQ3 : w33.cell? ⟨bQ, 3, none⟩ = some (.int .i64 100) := (cell_of_row _ _ _ _ _ _ Qh43.out).trans rfl
      have cQ4 : w33.cell? ⟨bQ, 4, none⟩ = some (.int .i64 e2) := (cell_of_row _ _ _ _ _ _ Qh43.out).trans rfl
      have cQ5 : w33.cell? ⟨bQ, 5, none⟩ = some (.int .i64 s2) := (cell_of_row _ _ _ _ _ _ Qh43.out).trans rfl
      have cN0 : w33.cell? ⟨bn, 0, none⟩ = some (.int .i64 1) := (cell_of_row _ _ _ _ _ _ Nh43.out).trans rfl
      have cN1 : w33.cell? ⟨bn, 1, none⟩ = some (.int .i64 6) := (cell_of_row _ _ _ _ _ _ Nh43.out).trans rfl
      have cN2 : w33.cell? ⟨bn, 2, none⟩ = some (.int .i64 0) := (cell_of_row _ _ _ _ _ _ Nh43.out).trans rfl
      have cN3 : w33.cell? ⟨bn, 3, none⟩ = some (.int .i64 0) := (cell_of_row _ _ _ _ _ _ Nh43.out).trans rfl
      have cN4 : w33.cell? ⟨bn, 4, none⟩ = some (.int .i64 0) := (cell_of_row _ _ _ _ _ _ Nh43.out).trans rfl
      have cN5 : w33.cell? ⟨bn, 5, none⟩ = some (.string D) := (cell_of_row _ _ _ _ _ _ Nh43.out).trans rfl
      have cN6 : w33.cell? ⟨bn, 6, none⟩ = some (.int .i64 e3) := (cell_of_row _ _ _ _ _ _ Nh43.out).trans rfl
      have cN7 : w33.cell? ⟨bn, 7, none⟩ = some (.int .i64 s3) := (cell_of_row _ _ _ _ _ _ Nh43.out).trans rfl
      go_wp2_with fail
      go_ret
      exact ⟨rfl, HB43.out⟩
    · have HN : Hid ((wA.alloc (.cells #[.int .i64 0, .int .i64 0, .int .i64 0, .int .i64 0, .int .i64 0, .string ⟨#[]⟩, .int .i64 0, .int .i64 0] 43)).heap[wA.heap.size]? = some (.cells #[.int .i64 0, .int .i64 0, .int .i64 0, .int .i64 0, .int .i64 0, .string ⟨#[]⟩, .int .i64 0, .int .i64 0] 43)) := Lib.hid (heap_alloc_new _ _)
      have hbl : Hid (w.heap.size ≤ wA.heap.size) := Lib.hid (show Below w.heap.size w wA from ⟨(hHeld.2.2.2.2.2.2.2.2.2.2.2.2.2.2.2).os, (hHeld.2.2.2.2.2.2.2.2.2.2.2.2.2.2.2).tape, (hHeld.2.2.2.2.2.2.2.2.2.2.2.2.2.2.2).output, (hHeld.2.2.2.2.2.2.2.2.2.2.2.2.2.2.2).size, (hHeld.2.2.2.2.2.2.2.2.2.2.2.2.2.2.2).block⟩).size
      have hnx0 : Hid (bK ≠ wA.heap.size) := Lib.hid (Nat.ne_of_lt (blk_lt (w := wA) hHeld.1))
      have hnx1 : Hid (bC ≠ wA.heap.size) := Lib.hid (Nat.ne_of_lt (blk_lt (w := wA) hHeld.2.1))
      have hnx2 : Hid (bX ≠ wA.heap.size) := Lib.hid (Nat.ne_of_lt (blk_lt (w := wA) hHeld.2.2.1))
      have hnx3 : Hid (bP ≠ wA.heap.size) := Lib.hid (Nat.ne_of_lt (blk_lt (w := wA) hHeld.2.2.2.1))
      have hnx4 : Hid (bQ ≠ wA.heap.size) := Lib.hid (Nat.ne_of_lt (blk_lt (w := wA) hHeld.2.2.2.2.1))
      go_simp
      refine hK.out _ _ (small_stepA hHeld) (fun hHeld => ?_)
      clear hK K
      try simp only [Act.put, List.setIfInBounds_toArray, List.set_cons_zero, List.set_cons_succ]
      generalize wA.heap.size = bn at *
      generalize wA.alloc (.cells #[.int .i64 0, .int .i64 0, .int .i64 0, .int .i64 0, .int .i64 0, .string ⟨#[]⟩, .int .i64 0, .int .i64 0] 43) = wC at *
      refine wpAnyH_ready (rs := [4]) (by kernel_rfl) (by simp) ?_
      refine AllReadyH.cons (by simp only [List.getElem?_toArray, List.getElem?_cons_succ, List.getElem?_cons_zero]; exact rfl) (fun K hK => ?_) AllReadyH.nil
      go_simp
      refine (HF.out.sg2 _ (HG.out.below hHeld.2.2.2.2.2.2.2.2.2.2.2.2.2.2.2 HG.out.size) (HM.out.up hHeld.2.2.2.2.2.2.2.2.2.2.2.2.2.2.2)).mono ?_
      rintro e wD ⟨rfl, hb⟩
      have HN : Hid (wD.heap[bn]? = some (.cells #[.int .i64 0, .int .i64 0, .int .i64 0, .int .i64 0, .int .i64 0, .string ⟨#[]⟩, .int .i64 0, .int .i64 0] 43)) := Lib.hid (by first | exact blk_below HN.out hb (blk_lt HN.out) | exact blk_below (show wC.drew.heap[bn]? = _ from HN.out) hb (blk_lt HN.out))
      refine hK.out _ _ (small_step hHeld hb) (fun hHeld => ?_)
      clear hK K hb
      try simp only [Act.put, List.setIfInBounds_toArray, List.set_cons_zero, List.set_cons_succ]
      refine wpAnyH_ready (rs := [6]) (by kernel_rfl) (by simp) ?_
      refine AllReadyH.cons (by simp only [List.getElem?_toArray, List.getElem?_cons_succ, List.getElem?_cons_zero]; exact rfl) (fun K hK => ?_) AllReadyH.nil
      have hle : w.heap.size ≤ bn := Hid.out hbl
      have d0 : wD.cell? ⟨bn, 0, none⟩ = some (.int .i64 0) := (cell_of_row _ _ _ _ _ _ HN.out).trans rfl
      have z0 : wD.frozen? ⟨bn, 0, none⟩ = false := frozen_of_row _ _ _ _ _ HN.out
      have hm0 : (wD.setCell ⟨bn, 0, none⟩ (.int .i64 1)).heap[bn]? = some (.cells #[.int .i64 1, .int .i64 0, .int .i64 0, .int .i64 0, .int .i64 0, .string ⟨#[]⟩, .int .i64 0, .int .i64 0] 43 (0, 0)) := (heap_setCell_same _ _ _ _ _ _ HN.out).trans rfl
      have d1 : (wD.setCell ⟨bn, 0, none⟩ (.int .i64 1)).cell? ⟨bn, 1, none⟩ = some (.int .i64 0) := (cell_of_row _ _ _ _ _ _ hm0).trans rfl
      have z1 : (wD.setCell ⟨bn, 0, none⟩ (.int .i64 1)).frozen? ⟨bn, 1, none⟩ = false := frozen_of_row _ _ _ _ _ hm0
      have hm1 : ((wD.setCell ⟨bn, 0, none⟩ (.int .i64 1)).setCell ⟨bn, 1, none⟩ (.int .i64 6)).heap[bn]? = some (.cells #[.int .i64 1, .int .i64 6, .int .i64 0, .int .i64 0, .int .i64 0, .string ⟨#[]⟩, .int .i64 0, .int .i64 0] 43 (0, 0)) := (heap_setCell_same _ _ _ _ _ _ hm0).trans rfl
      have d2 : ((wD.setCell ⟨bn, 0, none⟩ (.int .i64 1)).setCell ⟨bn, 1, none⟩ (.int .i64 6)).cell? ⟨bn, 2, none⟩ = some (.int .i64 0) := (cell_of_row _ _ _ _ _ _ hm1).trans rfl
      have z2 : ((wD.setCell ⟨bn, 0, none⟩ (.int .i64 1)).setCell ⟨bn, 1, none⟩ (.int .i64 6)).frozen? ⟨bn, 2, none⟩ = false := frozen_of_row _ _ _ _ _ hm1
      have hm2 : (((wD.setCell ⟨bn, 0, none⟩ (.int .i64 1)).setCell ⟨bn, 1, none⟩ (.int .i64 6)).setCell ⟨bn, 2, none⟩ (.int .i64 0)).heap[bn]? = some (.cells #[.int .i64 1, .int .i64 6, .int .i64 0, .int .i64 0, .int .i64 0, .string ⟨#[]⟩, .int .i64 0, .int .i64 0] 43 (0, 0)) := (heap_setCell_same _ _ _ _ _ _ hm1).trans rfl
      have d3 : (((wD.setCell ⟨bn, 0, none⟩ (.int .i64 1)).setCell ⟨bn, 1, none⟩ (.int .i64 6)).setCell ⟨bn, 2, none⟩ (.int .i64 0)).cell? ⟨bn, 3, none⟩ = some (.int .i64 0) := (cell_of_row _ _ _ _ _ _ hm2).trans rfl
      have z3 : (((wD.setCell ⟨bn, 0, none⟩ (.int .i64 1)).setCell ⟨bn, 1, none⟩ (.int .i64 6)).setCell ⟨bn, 2, none⟩ (.int .i64 0)).frozen? ⟨bn, 3, none⟩ = false := frozen_of_row _ _ _ _ _ hm2
      have hm3 : ((((wD.setCell ⟨bn, 0, none⟩ (.int .i64 1)).setCell ⟨bn, 1, none⟩ (.int .i64 6)).setCell ⟨bn, 2, none⟩ (.int .i64 0)).setCell ⟨bn, 3, none⟩ (.int .i64 0)).heap[bn]? = some (.cells #[.int .i64 1, .int .i64 6, .int .i64 0, .int .i64 0, .int .i64 0, .string ⟨#[]⟩, .int .i64 0, .int .i64 0] 43 (0, 0)) := (heap_setCell_same _ _ _ _ _ _ hm2).trans rfl
      have d4 : ((((wD.setCell ⟨bn, 0, none⟩ (.int .i64 1)).setCell ⟨bn, 1, none⟩ (.int .i64 6)).setCell ⟨bn, 2, none⟩ (.int .i64 0)).setCell ⟨bn, 3, none⟩ (.int .i64 0)).cell? ⟨bn, 4, none⟩ = some (.int .i64 0) := (cell_of_row _ _ _ _ _ _ hm3).trans rfl
      have z4 : ((((wD.setCell ⟨bn, 0, none⟩ (.int .i64 1)).setCell ⟨bn, 1, none⟩ (.int .i64 6)).setCell ⟨bn, 2, none⟩ (.int .i64 0)).setCell ⟨bn, 3, none⟩ (.int .i64 0)).frozen? ⟨bn, 4, none⟩ = false := frozen_of_row _ _ _ _ _ hm3
      have hm4 : (((((wD.setCell ⟨bn, 0, none⟩ (.int .i64 1)).setCell ⟨bn, 1, none⟩ (.int .i64 6)).setCell ⟨bn, 2, none⟩ (.int .i64 0)).setCell ⟨bn, 3, none⟩ (.int .i64 0)).setCell ⟨bn, 4, none⟩ (.int .i64 0)).heap[bn]? = some (.cells #[.int .i64 1, .int .i64 6, .int .i64 0, .int .i64 0, .int .i64 0, .string ⟨#[]⟩, .int .i64 0, .int .i64 0] 43 (0, 0)) := (heap_setCell_same _ _ _ _ _ _ hm3).trans rfl
      have d5 : (((((wD.setCell ⟨bn, 0, none⟩ (.int .i64 1)).setCell ⟨bn, 1, none⟩ (.int .i64 6)).setCell ⟨bn, 2, none⟩ (.int .i64 0)).setCell ⟨bn, 3, none⟩ (.int .i64 0)).setCell ⟨bn, 4, none⟩ (.int .i64 0)).cell? ⟨bn, 5, none⟩ = some (.string ⟨#[]⟩) := (cell_of_row _ _ _ _ _ _ hm4).trans rfl
      have z5 : (((((wD.setCell ⟨bn, 0, none⟩ (.int .i64 1)).setCell ⟨bn, 1, none⟩ (.int .i64 6)).setCell ⟨bn, 2, none⟩ (.int .i64 0)).setCell ⟨bn, 3, none⟩ (.int .i64 0)).setCell ⟨bn, 4, none⟩ (.int .i64 0)).frozen? ⟨bn, 5, none⟩ = false := frozen_of_row _ _ _ _ _ hm4
      have hm5 : ((((((wD.setCell ⟨bn, 0, none⟩ (.int .i64 1)).setCell ⟨bn, 1, none⟩ (.int .i64 6)).setCell ⟨bn, 2, none⟩ (.int .i64 0)).setCell ⟨bn, 3, none⟩ (.int .i64 0)).setCell ⟨bn, 4, none⟩ (.int .i64 0)).setCell ⟨bn, 5, none⟩ (.string D)).heap[bn]? = some (.cells #[.int .i64 1, .int .i64 6, .int .i64 0, .int .i64 0, .int .i64 0, .string D, .int .i64 0, .int .i64 0] 43 (0, 0)) := (heap_setCell_same _ _ _ _ _ _ hm4).trans rfl
      have d6 : ((((((wD.setCell ⟨bn, 0, none⟩ (.int .i64 1)).setCell ⟨bn, 1, none⟩ (.int .i64 6)).setCell ⟨bn, 2, none⟩ (.int .i64 0)).setCell ⟨bn, 3, none⟩ (.int .i64 0)).setCell ⟨bn, 4, none⟩ (.int .i64 0)).setCell ⟨bn, 5, none⟩ (.string D)).cell? ⟨bn, 6, none⟩ = some (.int .i64 0) := (cell_of_row _ _ _ _ _ _ hm5).trans rfl
      have z6 : ((((((wD.setCell ⟨bn, 0, none⟩ (.int .i64 1)).setCell ⟨bn, 1, none⟩ (.int .i64 6)).setCell ⟨bn, 2, none⟩ (.int .i64 0)).setCell ⟨bn, 3, none⟩ (.int .i64 0)).setCell ⟨bn, 4, none⟩ (.int .i64 0)).setCell ⟨bn, 5, none⟩ (.string D)).frozen? ⟨bn, 6, none⟩ = false := frozen_of_row _ _ _ _ _ hm5
      have hm6 : (((((((wD.setCell ⟨bn, 0, none⟩ (.int .i64 1)).setCell ⟨bn, 1, none⟩ (.int .i64 6)).setCell ⟨bn, 2, none⟩ (.int .i64 0)).setCell ⟨bn, 3, none⟩ (.int .i64 0)).setCell ⟨bn, 4, none⟩ (.int .i64 0)).setCell ⟨bn, 5, none⟩ (.string D)).setCell ⟨bn, 6, none⟩ (.int .i64 e3)).heap[bn]? = some (.cells #[.int .i64 1, .int .i64 6, .int .i64 0, .int .i64 0, .int .i64 0, .string D, .int .i64 e3, .int .i64 0] 43 (0, 0)) := (heap_setCell_same _ _ _ _ _ _ hm5).trans rfl
      have d7 : (((((((wD.setCell ⟨bn, 0, none⟩ (.int .i64 1)).setCell ⟨bn, 1, none⟩ (.int .i64 6)).setCell ⟨bn, 2, none⟩ (.int .i64 0)).setCell ⟨bn, 3, none⟩ (.int .i64 0)).setCell ⟨bn, 4, none⟩ (.int .i64 0)).setCell ⟨bn, 5, none⟩ (.string D)).setCell ⟨bn, 6, none⟩ (.int .i64 e3)).cell? ⟨bn, 7, none⟩ = some (.int .i64 0) := (cell_of_row _ _ _ _ _ _ hm6).trans rfl
      have z7 : (((((((wD.setCell ⟨bn, 0, none⟩ (.int .i64 1)).setCell ⟨bn, 1, none⟩ (.int .i64 6)).setCell ⟨bn, 2, none⟩ (.int .i64 0)).setCell ⟨bn, 3, none⟩ (.int .i64 0)).setCell ⟨bn, 4, none⟩ (.int .i64 0)).setCell ⟨bn, 5, none⟩ (.string D)).setCell ⟨bn, 6, none⟩ (.int .i64 e3)).frozen? ⟨bn, 7, none⟩ = false := frozen_of_row _ _ _ _ _ hm6
      have hm7 : ((((((((wD.setCell ⟨bn, 0, none⟩ (.int .i64 1)).setCell ⟨bn, 1, none⟩ (.int .i64 6)).setCell ⟨bn, 2, none⟩ (.int .i64 0)).setCell ⟨bn, 3, none⟩ (.int .i64 0)).setCell ⟨bn, 4, none⟩ (.int .i64 0)).setCell ⟨bn, 5, none⟩ (.string D)).setCell ⟨bn, 6, none⟩ (.int .i64 e3)).setCell ⟨bn, 7, none⟩ (.int .i64 s3)).heap[bn]? = some (.cells #[.int .i64 1, .int .i64 6, .int .i64 0, .int .i64 0, .int .i64 0, .string D, .int .i64 e3, .int .i64 s3] 43 (0, 0)) := (heap_setCell_same _ _ _ _ _ _ hm6).trans rfl
      have hne0 : bK ≠ bn := Hid.out hnx0
      have hne1 : bC ≠ bn := Hid.out hnx1
      have hne2 : bX ≠ bn := Hid.out hnx2
      have hne3 : bP ≠ bn := Hid.out hnx3
      have hne4 : bQ ≠ bn := Hid.out hnx4
      go_simp
      refine hK.out _ _ (small_stepS (small_stepS (small_stepS (small_stepS (small_stepS (small_stepS (small_stepS (small_stepS hHeld hle hne0 hne1 hne2 hne3 hne4) hle hne0 hne1 hne2 hne3 hne4) hle hne0 hne1 hne2 hne3 hne4) hle hne0 hne1 hne2 hne3 hne4) hle hne0 hne1 hne2 hne3 hne4) hle hne0 hne1 hne2 hne3 hne4) hle hne0 hne1 hne2 hne3 hne4) hle hne0 hne1 hne2 hne3 hne4) (fun hHeld => ?_)
      have HNf := Lib.hid hm7
      clear hK K d0 z0 d1 z1 d2 z2 d3 z3 d4 z4 d5 z5 d6 z6 d7 z7 hm0 hm1 hm2 hm3 hm4 hm5 hm6 hm7 hle hne0 hne1 hne2 hne3 hne4
      try simp only [Act.put, List.setIfInBounds_toArray, List.set_cons_zero, List.set_cons_succ]
      generalize ((((((((wD.setCell ⟨bn, 0, none⟩ (.int .i64 1)).setCell ⟨bn, 1, none⟩ (.int .i64 6)).setCell ⟨bn, 2, none⟩ (.int .i64 0)).setCell ⟨bn, 3, none⟩ (.int .i64 0)).setCell ⟨bn, 4, none⟩ (.int .i64 0)).setCell ⟨bn, 5, none⟩ (.string D)).setCell ⟨bn, 6, none⟩ (.int .i64 e3)).setCell ⟨bn, 7, none⟩ (.int .i64 s3)) = wf at *
      refine wpAnyH_done (by kernel_rfl) ?_ _
      refine NoPanic.normal ?_
      have Kh40 := Lib.hid hHeld.1
      have Ch40 := Lib.hid hHeld.2.1
      have Xh40 := Lib.hid hHeld.2.2.1
      have Ph40 := Lib.hid hHeld.2.2.2.1
      have Qh40 := Lib.hid hHeld.2.2.2.2.1
      have HB40 := Lib.hid hHeld.2.2.2.2.2.2.2.2.2.2.2.2.2.2.2
      have Nh40 := Lib.hid HNf.out
      clear hHeld HNf
      have cK0 : wf.cell? ⟨bK, 0, none⟩ = some (.int .i64 k) := (cell_of_row _ _ _ _ _ _ Kh40.out).trans rfl
      have cK1 : wf.cell? ⟨bK, 1, none⟩ = some (.int .i64 p) := (cell_of_row _ _ _ _ _ _ Kh40.out).trans rfl
      have cC0 : wf.cell? ⟨bC, 0, none⟩ = some (.int .i64 1) := (cell_of_row _ _ _ _ _ _ Ch40.out).trans rfl
      have cC1 : wf.cell? ⟨bC, 1, none⟩ = some (.int .i64 5) := (cell_of_row _ _ _ _ _ _ Ch40.out).trans rfl
      have cC2 : wf.cell? ⟨bC, 2, none⟩ = some (.int .i64 7) := (cell_of_row _ _ _ _ _ _ Ch40.out).trans rfl
      have cC3 : wf.cell? ⟨bC, 3, none⟩ = some (.int .i64 3) := (cell_of_row _ _ _ _ _ _ Ch40.out).trans rfl
      have cC4 : wf.cell? ⟨bC, 4, none⟩ = some (.int .i64 4) := (cell_of_row _ _ _ _ _ _ Ch40.out).trans rfl
      have cC5 : wf.cell? ⟨bC, 5, none⟩ = some (.string ⟨#[]⟩) := (cell_of_row _ _ _ _ _ _ Ch40.out).trans rfl
      have cC6 : wf.cell? ⟨bC, 6, none⟩ = some (.int .i64 e1) := (cell_of_row _ _ _ _ _ _ Ch40.out).trans rfl
      have cC7 : wf.cell? ⟨bC, 7, none⟩ = some (.int .i64 s1) := (cell_of_row _ _ _ _ _ _ Ch40.out).trans rfl
      have cX0 : wf.cell? ⟨bX, 0, none⟩ = some (.int .i64 1) := (cell_of_row _ _ _ _ _ _ Xh40.out).trans rfl
      have cX1 : wf.cell? ⟨bX, 1, none⟩ = some (.int .i64 5) := (cell_of_row _ _ _ _ _ _ Xh40.out).trans rfl
      have cX2 : wf.cell? ⟨bX, 2, none⟩ = some (.int .i64 7) := (cell_of_row _ _ _ _ _ _ Xh40.out).trans rfl
      have cX3 : wf.cell? ⟨bX, 3, none⟩ = some (.int .i64 3) := (cell_of_row _ _ _ _ _ _ Xh40.out).trans rfl
      have cX4 : wf.cell? ⟨bX, 4, none⟩ = some (.int .i64 4) := (cell_of_row _ _ _ _ _ _ Xh40.out).trans rfl
      have cX5 : wf.cell? ⟨bX, 5, none⟩ = some (.string ⟨#[]⟩) := (cell_of_row _ _ _ _ _ _ Xh40.out).trans rfl
      have cX6 : wf.cell? ⟨bX, 6, none⟩ = some (.int .i64 e1) := (cell_of_row _ _ _ _ _ _ Xh40.out).trans rfl
      have cX7 : wf.cell? ⟨bX, 7, none⟩ = some (.int .i64 s1) := (cell_of_row _ _ _ _ _ _ Xh40.out).trans rfl
      have cP0 : wf.cell? ⟨bP, 0, none⟩ = some (.int .i64 1) := (cell_of_row _ _ _ _ _ _ Ph40.out).trans rfl
      have cP1 : wf.cell? ⟨bP, 1, none⟩ = some (.int .i64 5) := (cell_of_row _ _ _ _ _ _ Ph40.out).trans rfl
      have cP2 : wf.cell? ⟨bP, 2, none⟩ = some (.int .i64 9) := (cell_of_row _ _ _ _ _ _ Ph40.out).trans rfl
      have cP3 : wf.cell? ⟨bP, 3, none⟩ = some (.int .i64 100) := (cell_of_row _ _ _ _ _ _ Ph40.out).trans rfl
      have cP4 : wf.cell? ⟨bP, 4, none⟩ = some (.int .i64 e2) := (cell_of_row _ _ _ _ _ _ Ph40.out).trans rfl
      have cP5 : wf.cell? ⟨bP, 5, none⟩ = some (.int .i64 s2) := (cell_of_row _ _ _ _ _ _ Ph40.out).trans rfl
      have cQ0 : wf.cell? ⟨bQ, 0, none⟩ = some (.int .i64 1) := (cell_of_row _ _ _ _ _ _ Qh40.out).trans rfl
      have cQ1 : wf.cell? ⟨bQ, 1, none⟩ = some (.int .i64 5) := (cell_of_row _ _ _ _ _ _ Qh40.out).trans rfl
      have cQ2 : wf.cell? ⟨bQ, 2, none⟩ = some (.int .i64 9) := (cell_of_row _ _ _ _ _ _ Qh40.out).trans rfl
      have cQ3 : wf.cell? ⟨bQ, 3, none⟩ = some (.int .i64 100) := (cell_of_row _ _ _ _ _ _ Qh40.out).trans rfl
      have cQ4 : wf.cell? ⟨bQ, 4, none⟩ = some (.int .i64 e2) := (cell_of_row _ _ _ _ _ _ Qh40.out).trans rfl
      have cQ5 : wf.cell? ⟨bQ, 5, none⟩ = some (.int .i64 s2) := (cell_of_row _ _ _ _ _ _ Qh40.out).trans rfl
      have cN0 : wf.cell? ⟨bn, 0, none⟩ = some (.int .i64 1) := (cell_of_row _ _ _ _ _ _ Nh40.out).trans rfl
      have cN1 : wf.cell? ⟨bn, 1, none⟩ = some (.int .i64 6) := (cell_of_row _ _ _ _ _ _ Nh40.out).trans rfl
      have cN2 : wf.cell? ⟨bn, 2, none⟩ = some (.int .i64 0) := (cell_of_row _ _ _ _ _ _ Nh40.out).trans rfl
      have cN3 : wf.cell? ⟨bn, 3, none⟩ = some (.int .i64 0) := (cell_of_row _ _ _ _ _ _ Nh40.out).trans rfl
      have cN4 : wf.cell? ⟨bn, 4, none⟩ = some (.int .i64 0) := (cell_of_row _ _ _ _ _ _ Nh40.out).trans rfl
      have cN5 : wf.cell? ⟨bn, 5, none⟩ = some (.string D) := (cell_of_row _ _ _ _ _ _ Nh40.out).trans rfl
      have cN6 : wf.cell? ⟨bn, 6, none⟩ = some (.int .i64 e3) := (cell_of_row _ _ _ _ _ _ Nh40.out).trans rfl
      have cN7 : wf.cell? ⟨bn, 7, none⟩ = some (.int .i64 s3) := (cell_of_row _ _ _ _ _ _ Nh40.out).trans rfl
      have hb1 := heap_alloc_new wf (.cells #[.int .i64 0, .int .i64 p] 3)
      have hbA : Below wf.heap.size wf (wf.alloc (.cells #[.int .i64 0, .int .i64 p] 3)) := (Below.refl _ _).alloc (Nat.le_refl _) _
      have hCx := blk_below Ch40.out hbA (blk_lt Ch40.out)
      have hNx := blk_below Nh40.out hbA (blk_lt Nh40.out)
      have yC0 : (wf.alloc (.cells #[.int .i64 0, .int .i64 p] 3)).cell? ⟨bC, 0, none⟩ = some (.int .i64 1) := (cell_of_row _ _ _ _ _ _ hCx).trans rfl
      have yC1 : (wf.alloc (.cells #[.int .i64 0, .int .i64 p] 3)).cell? ⟨bC, 1, none⟩ = some (.int .i64 5) := (cell_of_row _ _ _ _ _ _ hCx).trans rfl
      have yC2 : (wf.alloc (.cells #[.int .i64 0, .int .i64 p] 3)).cell? ⟨bC, 2, none⟩ = some (.int .i64 7) := (cell_of_row _ _ _ _ _ _ hCx).trans rfl
      have yC3 : (wf.alloc (.cells #[.int .i64 0, .int .i64 p] 3)).cell? ⟨bC, 3, none⟩ = some (.int .i64 3) := (cell_of_row _ _ _ _ _ _ hCx).trans rfl
      have yC4 : (wf.alloc (.cells #[.int .i64 0, .int .i64 p] 3)).cell? ⟨bC, 4, none⟩ = some (.int .i64 4) := (cell_of_row _ _ _ _ _ _ hCx).trans rfl
      have yC5 : (wf.alloc (.cells #[.int .i64 0, .int .i64 p] 3)).cell? ⟨bC, 5, none⟩ = some (.string ⟨#[]⟩) := (cell_of_row _ _ _ _ _ _ hCx).trans rfl
      have yC6 : (wf.alloc (.cells #[.int .i64 0, .int .i64 p] 3)).cell? ⟨bC, 6, none⟩ = some (.int .i64 e1) := (cell_of_row _ _ _ _ _ _ hCx).trans rfl
      have yC7 : (wf.alloc (.cells #[.int .i64 0, .int .i64 p] 3)).cell? ⟨bC, 7, none⟩ = some (.int .i64 s1) := (cell_of_row _ _ _ _ _ _ hCx).trans rfl
      have yN0 : (wf.alloc (.cells #[.int .i64 0, .int .i64 p] 3)).cell? ⟨bn, 0, none⟩ = some (.int .i64 1) := (cell_of_row _ _ _ _ _ _ hNx).trans rfl
      have yN1 : (wf.alloc (.cells #[.int .i64 0, .int .i64 p] 3)).cell? ⟨bn, 1, none⟩ = some (.int .i64 6) := (cell_of_row _ _ _ _ _ _ hNx).trans rfl
      have yN2 : (wf.alloc (.cells #[.int .i64 0, .int .i64 p] 3)).cell? ⟨bn, 2, none⟩ = some (.int .i64 0) := (cell_of_row _ _ _ _ _ _ hNx).trans rfl
      have yN3 : (wf.alloc (.cells #[.int .i64 0, .int .i64 p] 3)).cell? ⟨bn, 3, none⟩ = some (.int .i64 0) := (cell_of_row _ _ _ _ _ _ hNx).trans rfl
      have yN4 : (wf.alloc (.cells #[.int .i64 0, .int .i64 p] 3)).cell? ⟨bn, 4, none⟩ = some (.int .i64 0) := (cell_of_row _ _ _ _ _ _ hNx).trans rfl
      have yN5 : (wf.alloc (.cells #[.int .i64 0, .int .i64 p] 3)).cell? ⟨bn, 5, none⟩ = some (.string D) := (cell_of_row _ _ _ _ _ _ hNx).trans rfl
      have yN6 : (wf.alloc (.cells #[.int .i64 0, .int .i64 p] 3)).cell? ⟨bn, 6, none⟩ = some (.int .i64 e3) := (cell_of_row _ _ _ _ _ _ hNx).trans rfl
      have yN7 : (wf.alloc (.cells #[.int .i64 0, .int .i64 p] 3)).cell? ⟨bn, 7, none⟩ = some (.int .i64 s3) := (cell_of_row _ _ _ _ _ _ hNx).trans rfl
      go_wp2_with fail
      clear hCx hNx yC0 yN0 yC1 yN1 yC2 yN2 yC3 yN3 yC4 yN4 yC5 yN5 yC6 yN6 yC7 yN7
      have hbB : Below wf.heap.size wf ((wf.alloc (.cells #[.int .i64 0, .int .i64 p] 3)).alloc (.cells #[.int .i64 1, .int .i64 5, .int .i64 7, .int .i64 3, .int .i64 4, .string ⟨#[]⟩, .int .i64 e1, .int .i64 s1, .int .i64 1, .int .i64 6, .int .i64 0, .int .i64 0, .int .i64 0, .string D, .int .i64 e3, .int .i64 s3] 43)) := hbA.alloc hbA.size _
      have hb2 := heap_alloc_new (wf.alloc (.cells #[.int .i64 0, .int .i64 p] 3)) (.cells #[.int .i64 1, .int .i64 5, .int .i64 7, .int .i64 3, .int .i64 4, .string ⟨#[]⟩, .int .i64 e1, .int .i64 s1, .int .i64 1, .int .i64 6, .int .i64 0, .int .i64 0, .int .i64 0, .string D, .int .i64 e3, .int .i64 s3] 43)
      rw [World.size_alloc] at hb2
      have hb1x := blk_below hb1 ((Below.refl _ _).alloc (Nat.le_refl _) (.cells #[.int .i64 1, .int .i64 5, .int .i64 7, .int .i64 3, .int .i64 4, .string ⟨#[]⟩, .int .i64 e1, .int .i64 s1, .int .i64 1, .int .i64 6, .int .i64 0, .int .i64 0, .int .i64 0, .string D, .int .i64 e3, .int .i64 s3] 43)) (blk_lt hb1)
      refine (HF.out.ch2 _ _ _ hb1x hb2 (HG.out.below (HB40.out.trans (hbB.mono HB40.out.size)) HG.out.size) (HM.out.up (HB40.out.trans (hbB.mono HB40.out.size)))).mono ?_
      rintro e w31 ⟨a1, k1, rfl, hbz⟩
      have hb : Below wf.heap.size wf w31 := hbB.trans (hbz.mono hbB.size)
      have HB41 := Lib.hid (HB40.out.trans (hb.mono HB40.out.size))
      have Kh41 := Lib.hid (blk_below Kh40.out hb (blk_lt Kh40.out))
      have Ch41 := Lib.hid (blk_below Ch40.out hb (blk_lt Ch40.out))
      have Xh41 := Lib.hid (blk_below Xh40.out hb (blk_lt Xh40.out))
      have Ph41 := Lib.hid (blk_below Ph40.out hb (blk_lt Ph40.out))
      have Qh41 := Lib.hid (blk_below Qh40.out hb (blk_lt Qh40.out))
      have Nh41 := Lib.hid (blk_below Nh40.out hb (blk_lt Nh40.out))
      clear cK0 cK1 cC0 cC1 cC2 cC3 cC4 cC5 cC6 cC7 cX0 cX1 cX2 cX3 cX4 cX5 cX6 cX7 cP0 cP1 cP2 cP3 cP4 cP5 cQ0 cQ1 cQ2 cQ3 cQ4 cQ5 cN0 cN1 cN2 cN3 cN4 cN5 cN6 cN7
      clear HB40 Kh40 Ch40 Xh40 Ph40 Qh40 Nh40
      clear hb hbz hbA hbB hb1 hb2 hb1x
      have cK0 : w31.cell? ⟨bK, 0, none⟩ = some (.int .i64 k) := (cell_of_row _ _ _ _ _ _ Kh41.out).trans rfl
      have cK1 : w31.cell? ⟨bK, 1, none⟩ = some (.int .i64 p) := (cell_of_row _ _ _ _ _ _ Kh41.out).trans rfl
      have cC0 : w31.cell? ⟨bC, 0, none⟩ = some (.int .i64 1) := (cell_of_row _ _ _ _ _ _ Ch41.out).trans rfl
      have cC1 : w31.cell? ⟨bC, 1, none⟩ = some (.int .i64 5) := (cell_of_row _ _ _ _ _ _ Ch41.out).trans rfl
      have cC2 : w31.cell? ⟨bC, 2, none⟩ = some (.int .i64 7) := (cell_of_row _ _ _ _ _ _ Ch41.out).trans rfl
      have cC3 : w31.cell? ⟨bC, 3, none⟩ = some (.int .i64 3) := (cell_of_row _ _ _ _ _ _ Ch41.out).trans rfl
      have cC4 : w31.cell? ⟨bC, 4, none⟩ = some (.int .i64 4) := (cell_of_row _ _ _ _ _ _ Ch41.out).trans rfl
      have cC5 : w31.cell? ⟨bC, 5, none⟩ = some (.string ⟨#[]⟩) := (cell_of_row _ _ _ _ _ _ Ch41.out).trans rfl
      have cC6 : w31.cell? ⟨bC, 6, none⟩ = some (.int .i64 e1) := (cell_of_row _ _ _ _ _ _ Ch41.out).trans rfl
      have cC7 : w31.cell? ⟨bC, 7, none⟩ = some (.int .i64 s1) := (cell_of_row _ _ _ _ _ _ Ch41.out).trans rfl
      have cX0 : w31.cell? ⟨bX, 0, none⟩ = some (.int .i64 1) := (cell_of_row _ _ _ _ _ _ Xh41.out).trans rfl
      have cX1 : w31.cell? ⟨bX, 1, none⟩ = some (.int .i64 5) := (cell_of_row _ _ _ _ _ _ Xh41.out).trans rfl
      have cX2 : w31.cell? ⟨bX, 2, none⟩ = some (.int .i64 7) := (cell_of_row _ _ _ _ _ _ Xh41.out).trans rfl
      have cX3 : w31.cell? ⟨bX, 3, none⟩ = some (.int .i64 3) := (cell_of_row _ _ _ _ _ _ Xh41.out).trans rfl
      have cX4 : w31.cell? ⟨bX, 4, none⟩ = some (.int .i64 4) := (cell_of_row _ _ _ _ _ _ Xh41.out).trans rfl
      have cX5 : w31.cell? ⟨bX, 5, none⟩ = some (.string ⟨#[]⟩) := (cell_of_row _ _ _ _ _ _ Xh41.out).trans rfl
      have cX6 : w31.cell? ⟨bX, 6, none⟩ = some (.int .i64 e1) := (cell_of_row _ _ _ _ _ _ Xh41.out).trans rfl
      have cX7 : w31.cell? ⟨bX, 7, none⟩ = some (.int .i64 s1) := (cell_of_row _ _ _ _ _ _ Xh41.out).trans rfl
      have cP0 : w31.cell? ⟨bP, 0, none⟩ = some (.int .i64 1) := (cell_of_row _ _ _ _ _ _ Ph41.out).trans rfl
      have cP1 : w31.cell? ⟨bP, 1, none⟩ = some (.int .i64 5) := (cell_of_row _ _ _ _ _ _ Ph41.out).trans rfl
      have cP2 : w31.cell? ⟨bP, 2, none⟩ = some (.int .i64 9) := (cell_of_row _ _ _ _ _ _ Ph41.out).trans rfl
      have cP3 : w31.cell? ⟨bP, 3, none⟩ = some (.int .i64 100) := (cell_of_row _ _ _ _ _ _ Ph41.out).trans rfl
      have cP4 : w31.cell? ⟨bP, 4, none⟩ = some (.int .i64 e2) := (cell_of_row _ _ _ _ _ _ Ph41.out).trans rfl
      have cP5 : w31.cell? ⟨bP, 5, none⟩ = some (.int .i64 s2) := (cell_of_row _ _ _ _ _ _ Ph41.out).trans rfl
      have cQ0 : w31.cell? ⟨bQ, 0, none⟩ = some (.int .i64 1) := (cell_of_row _ _ _ _ _ _ Qh41.out).trans rfl
      have cQ1 : w31.cell? ⟨bQ, 1, none⟩ = some (.int .i64 5) := (cell_of_row _ _ _ _ _ _ Qh41.out).trans rfl
      have cQ2 : w31.cell? ⟨bQ, 2, none⟩ = some (.int .i64 9) := (cell_of_row _ _ _ _ _ _ Qh41.out).trans rfl
      have cQ3 : w31.cell? ⟨bQ, 3, none⟩ = some (.int .i64 100) := (cell_of_row _ _ _ _ _ _ Qh41.out).trans rfl
      have cQ4 : w31.cell? ⟨bQ, 4, none⟩ = some (.int .i64 e2) := (cell_of_row _ _ _ _ _ _ Qh41.out).trans rfl
      have cQ5 : w31.cell? ⟨bQ, 5, none⟩ = some (.int .i64 s2) := (cell_of_row _ _ _ _ _ _ Qh41.out).trans rfl
      have cN0 : w31.cell? ⟨bn, 0, none⟩ = some (.int .i64 1) := (cell_of_row _ _ _ _ _ _ Nh41.out).trans rfl
      have cN1 : w31.cell? ⟨bn, 1, none⟩ = some (.int .i64 6) := (cell_of_row _ _ _ _ _ _ Nh41.out).trans rfl
      have cN2 : w31.cell? ⟨bn, 2, none⟩ = some (.int .i64 0) := (cell_of_row _ _ _ _ _ _ Nh41.out).trans rfl
      have cN3 : w31.cell? ⟨bn, 3, none⟩ = some (.int .i64 0) := (cell_of_row _ _ _ _ _ _ Nh41.out).trans rfl
      have cN4 : w31.cell? ⟨bn, 4, none⟩ = some (.int .i64 0) := (cell_of_row _ _ _ _ _ _ Nh41.out).trans rfl
      have cN5 : w31.cell? ⟨bn, 5, none⟩ = some (.string D) := (cell_of_row _ _ _ _ _ _ Nh41.out).trans rfl
      have cN6 : w31.cell? ⟨bn, 6, none⟩ = some (.int .i64 e3) := (cell_of_row _ _ _ _ _ _ Nh41.out).trans rfl
      have cN7 : w31.cell? ⟨bn, 7, none⟩ = some (.int .i64 s3) := (cell_of_row _ _ _ _ _ _ Nh41.out).trans rfl
      go_wp2_with fail
      refine (HF.out.ver _ (HG.out.below HB41.out HG.out.size) (HM.out.up HB41.out)).mono ?_
      rintro e w32 ⟨rfl, hb⟩
      have HB42 := Lib.hid (HB41.out.trans (hb.mono HB41.out.size))
      have Kh42 := Lib.hid (blk_below Kh41.out hb (blk_lt Kh41.out))
      have Ch42 := Lib.hid (blk_below Ch41.out hb (blk_lt Ch41.out))
      have Xh42 := Lib.hid (blk_below Xh41.out hb (blk_lt Xh41.out))
      have Ph42 := Lib.hid (blk_below Ph41.out hb (blk_lt Ph41.out))
      have Qh42 := Lib.hid (blk_below Qh41.out hb (blk_lt Qh41.out))
      have Nh42 := Lib.hid (blk_below Nh41.out hb (blk_lt Nh41.out))
      clear cK0 cK1 cC0 cC1 cC2 cC3 cC4 cC5 cC6 cC7 cX0 cX1 cX2 cX3 cX4 cX5 cX6 cX7 cP0 cP1 cP2 cP3 cP4 cP5 cQ0 cQ1 cQ2 cQ3 cQ4 cQ5 cN0 cN1 cN2 cN3 cN4 cN5 cN6 cN7
      clear HB41 Kh41 Ch41 Xh41 Ph41 Qh41 Nh41
      clear hb
      have cK0 : w32.cell? ⟨bK, 0, none⟩ = some (.int .i64 k) := (cell_of_row _ _ _ _ _ _ Kh42.out).trans rfl
      have cK1 : w32.cell? ⟨bK, 1, none⟩ = some (.int .i64 p) := (cell_of_row _ _ _ _ _ _ Kh42.out).trans rfl
      have cC0 : w32.cell? ⟨bC, 0, none⟩ = some (.int .i64 1) := (cell_of_row _ _ _ _ _ _ Ch42.out).trans rfl
      have cC1 : w32.cell? ⟨bC, 1, none⟩ = some (.int .i64 5) := (cell_of_row _ _ _ _ _ _ Ch42.out).trans rfl
      have cC2 : w32.cell? ⟨bC, 2, none⟩ = some (.int .i64 7) := (cell_of_row _ _ _ _ _ _ Ch42.out).trans rfl
      have cC3 : w32.cell? ⟨bC, 3, none⟩ = some (.int .i64 3) := (cell_of_row _ _ _ _ _ _ Ch42.out).trans rfl
      have cC4 : w32.cell? ⟨bC, 4, none⟩ = some (.int .i64 4) := (cell_of_row _ _ _ _ _ _ Ch42.out).trans rfl
      have cC5 : w32.cell? ⟨bC, 5, none⟩ = some (.string ⟨#[]⟩) := (cell_of_row _ _ _ _ _ _ Ch42.out).trans rfl
      have cC6 : w32.cell? ⟨bC, 6, none⟩ = some (.int .i64 e1) := (cell_of_row _ _ _ _ _ _ Ch42.out).trans rfl
      have cC7 : w32.cell? ⟨bC, 7, none⟩ = some (.int .i64 s1) := (cell_of_row _ _ _ _ _ _ Ch42.out).trans rfl
      have cX0 : w32.cell? ⟨bX, 0, none⟩ = some (.int .i64 1) := (cell_of_row _ _ _ _ _ _ Xh42.out).trans rfl
      have cX1 : w32.cell? ⟨bX, 1, none⟩ = some (.int .i64 5) := (cell_of_row _ _ _ _ _ _ Xh42.out).trans rfl
      have cX2 : w32.cell? ⟨bX, 2, none⟩ = some (.int .i64 7) := (cell_of_row _ _ _ _ _ _ Xh42.out).trans rfl
      have cX3 : w32.cell? ⟨bX, 3, none⟩ = some (.int .i64 3) := (cell_of_row _ _ _ _ _ _ Xh42.out).trans rfl
      have cX4 : w32.cell? ⟨bX, 4, none⟩ = some (.int .i64 4) := (cell_of_row _ _ _ _ _ _ Xh42.out).trans rfl
      have cX5 : w32.cell? ⟨bX, 5, none⟩ = some (.string ⟨#[]⟩) := (cell_of_row _ _ _ _ _ _ Xh42.out).trans rfl
      have cX6 : w32.cell? ⟨bX, 6, none⟩ = some (.int .i64 e1) := (cell_of_row _ _ _ _ _ _ Xh42.out).trans rfl
      have cX7 : w32.cell? ⟨bX, 7, none⟩ = some (.int .i64 s1) := (cell_of_row _ _ _ _ _ _ Xh42.out).trans rfl
      have cP0 : w32.cell? ⟨bP, 0, none⟩ = some (.int .i64 1) := (cell_of_row _ _ _ _ _ _ Ph42.out).trans rfl
      have cP1 : w32.cell? ⟨bP, 1, none⟩ = some (.int .i64 5) := (cell_of_row _ _ _ _ _ _ Ph42.out).trans rfl
      have cP2 : w32.cell? ⟨bP, 2, none⟩ = some (.int .i64 9) := (cell_of_row _ _ _ _ _ _ Ph42.out).trans rfl
      have cP3 : w32.cell? ⟨bP, 3, none⟩ = some (.int .i64 100) := (cell_of_row _ _ _ _ _ _ Ph42.out).trans rfl
      have cP4 : w32.cell? ⟨bP, 4, none⟩ = some (.int .i64 e2) := (cell_of_row _ _ _ _ _ _ Ph42.out).trans rfl
      have cP5 : w32.cell? ⟨bP, 5, none⟩ = some (.int .i64 s2) := (cell_of_row _ _ _ _ _ _ Ph42.out).trans rfl
      have cQ0 : w32.cell? ⟨bQ, 0, none⟩ = some (.int .i64 1) := (cell_of_row _ _ _ _ _ _ Qh42.out).trans rfl
      have cQ1 : w32.cell? ⟨bQ, 1, none⟩ = some (.int .i64 5) := (cell_of_row _ _ _ _ _ _ Qh42.out).trans rfl
      have cQ2 : w32.cell? ⟨bQ, 2, none⟩ = some (.int .i64 9) := (cell_of_row _ _ _ _ _ _ Qh42.out).trans rfl
      have cQ3 : w32.cell? ⟨bQ, 3, none⟩ = some (.int .i64 100) := (cell_of_row _ _ _ _ _ _ Qh42.out).trans rfl
      have cQ4 : w32.cell? ⟨bQ, 4, none⟩ = some (.int .i64 e2) := (cell_of_row _ _ _ _ _ _ Qh42.out).trans rfl
      have cQ5 : w32.cell? ⟨bQ, 5, none⟩ = some (.int .i64 s2) := (cell_of_row _ _ _ _ _ _ Qh42.out).trans rfl
      have cN0 : w32.cell? ⟨bn, 0, none⟩ = some (.int .i64 1) := (cell_of_row _ _ _ _ _ _ Nh42.out).trans rfl
      have cN1 : w32.cell? ⟨bn, 1, none⟩ = some (.int .i64 6) := (cell_of_row _ _ _ _ _ _ Nh42.out).trans rfl
      have cN2 : w32.cell? ⟨bn, 2, none⟩ = some (.int .i64 0) := (cell_of_row _ _ _ _ _ _ Nh42.out).trans rfl
      have cN3 : w32.cell? ⟨bn, 3, none⟩ = some (.int .i64 0) := (cell_of_row _ _ _ _ _ _ Nh42.out).trans rfl
      have cN4 : w32.cell? ⟨bn, 4, none⟩ = some (.int .i64 0) := (cell_of_row _ _ _ _ _ _ Nh42.out).trans rfl
      have cN5 : w32.cell? ⟨bn, 5, none⟩ = some (.string D) := (cell_of_row _ _ _ _ _ _ Nh42.out).trans rfl
      have cN6 : w32.cell? ⟨bn, 6, none⟩ = some (.int .i64 e3) := (cell_of_row _ _ _ _ _ _ Nh42.out).trans rfl
      have cN7 : w32.cell? ⟨bn, 7, none⟩ = some (.int .i64 s3) := (cell_of_row _ _ _ _ _ _ Nh42.out).trans rfl
      go_wp2_with fail
      refine (HF.out.pver _ (HG.out.below HB42.out HG.out.size) (HM.out.up HB42.out)).mono ?_
      rintro e w33 ⟨rfl, hb⟩
      have HB43 := Lib.hid (HB42.out.trans (hb.mono HB42.out.size))
      have Kh43 := Lib.hid (blk_below Kh42.out hb (blk_lt Kh42.out))
      have Ch43 := Lib.hid (blk_below Ch42.out hb (blk_lt Ch42.out))
      have Xh43 := Lib.hid (blk_below Xh42.out hb (blk_lt Xh42.out))
      have Ph43 := Lib.hid (blk_below Ph42.out hb (blk_lt Ph42.out))
      have Qh43 := Lib.hid (blk_below Qh42.out hb (blk_lt Qh42.out))
      have Nh43 := Lib.hid (blk_below Nh42.out hb (blk_lt Nh42.out))
      clear cK0 cK1 cC0 cC1 cC2 cC3 cC4 cC5 cC6 cC7 cX0 cX1 cX2 cX3 cX4 cX5 cX6 cX7 cP0 cP1 cP2 cP3 cP4 cP5 cQ0 cQ1 cQ2 cQ3 cQ4 cQ5 cN0 cN1 cN2 cN3 cN4 cN5 cN6 cN7
      clear HB42 Kh42 Ch42 Xh42 Ph42 Qh42 Nh42
      clear hb
      have cK0 : w33.cell? ⟨bK, 0, none⟩ = some (.int .i64 k) := (cell_of_row _ _ _ _ _ _ Kh43.out).trans rfl
      have cK1 : w33.cell? ⟨bK, 1, none⟩ = some (.int .i64 p) := (cell_of_row _ _ _ _ _ _ Kh43.out).trans rfl
      have cC0 : w33.cell? ⟨bC, 0, none⟩ = some (.int .i64 1) := (cell_of_row _ _ _ _ _ _ Ch43.out).trans rfl
      have cC1 : w33.cell? ⟨bC, 1, none⟩ = some (.int .i64 5) := (cell_of_row _ _ _ _ _ _ Ch43.out).trans rfl
      have cC2 : w33.cell? ⟨bC, 2, none⟩ = some (.int .i64 7) := (cell_of_row _ _ _ _ _ _ Ch43.out).trans rfl
      have cC3 : w33.cell? ⟨bC, 3, none⟩ = some (.int .i64 3) := (cell_of_row _ _ _ _ _ _ Ch43.out).trans rfl
      have cC4 : w33.cell? ⟨bC, 4, none⟩ = some (.int .i64 4) := (cell_of_row _ _ _ _ _ _ Ch43.out).trans rfl
      have cC5 : w33.cell? ⟨bC, 5, none⟩ = some (.string ⟨#[]⟩) := (cell_of_row _ _ _ _ _ _ Ch43.out).trans rfl
      have cC6 : w33.cell? ⟨bC, 6, none⟩ = some (.int .i64 e1) := (cell_of_row _ _ _ _ _ _ Ch43.out).trans rfl
      have cC7 : w33.cell? ⟨bC, 7, none⟩ = some (.int .i64 s1) := (cell_of_row _ _ _ _ _ _ Ch43.out).trans rfl
      have cX0 : w33.cell? ⟨bX, 0, none⟩ = some (.int .i64 1) := (cell_of_row _ _ _ _ _ _ Xh43.out).trans rfl
      have cX1 : w33.cell? ⟨bX, 1, none⟩ = some (.int .i64 5) := (cell_of_row _ _ _ _ _ _ Xh43.out).trans rfl
      have cX2 : w33.cell? ⟨bX, 2, none⟩ = some (.int .i64 7) := (cell_of_row _ _ _ _ _ _ Xh43.out).trans rfl
      have cX3 : w33.cell? ⟨bX, 3, none⟩ = some (.int .i64 3) := (cell_of_row _ _ _ _ _ _ Xh43.out).trans rfl
      have cX4 : w33.cell? ⟨bX, 4, none⟩ = some (.int .i64 4) := (cell_of_row _ _ _ _ _ _ Xh43.out).trans rfl
      have cX5 : w33.cell? ⟨bX, 5, none⟩ = some (.string ⟨#[]⟩) := (cell_of_row _ _ _ _ _ _ Xh43.out).trans rfl
      have cX6 : w33.cell? ⟨bX, 6, none⟩ = some (.int .i64 e1) := (cell_of_row _ _ _ _ _ _ Xh43.out).trans rfl
      have cX7 : w33.cell? ⟨bX, 7, none⟩ = some (.int .i64 s1) := (cell_of_row _ _ _ _ _ _ Xh43.out).trans rfl
      have cP0 : w33.cell? ⟨bP, 0, none⟩ = some (.int .i64 1) := (cell_of_row _ _ _ _ _ _ Ph43.out).trans rfl
      have cP1 : w33.cell? ⟨bP, 1, none⟩ = some (.int .i64 5) := (cell_of_row _ _ _ _ _ _ Ph43.out).trans rfl
      have cP2 : w33.cell? ⟨bP, 2, none⟩ = some (.int .i64 9) := (cell_of_row _ _ _ _ _ _ Ph43.out).trans rfl
      have cP3 : w33.cell? ⟨bP, 3, none⟩ = some (.int .i64 100) := (cell_of_row _ _ _ _ _ _ Ph43.out).trans rfl
      have cP4 : w33.cell? ⟨bP, 4, none⟩ = some (.int .i64 e2) := (cell_of_row _ _ _ _ _ _ Ph43.out).trans rfl
      have cP5 : w33.cell? ⟨bP, 5, none⟩ = some (.int .i64 s2) := (cell_of_row _ _ _ _ _ _ Ph43.out).trans rfl
      have cQ0 : w33.cell? ⟨bQ, 0, none⟩ = some (.int .i64 1) := (cell_of_row _ _ _ _ _ _ Qh43.out).trans rfl
      have cQ1 : w33.cell? ⟨bQ, 1, none⟩ = some (.int .i64 5) := (cell_of_row _ _ _ _ _ _ Qh43.out).trans rfl
      have cQ2 : w33.cell? ⟨bQ, 2, none⟩ = some (.int .i64 9) := (cell_of_row _ _ _ _ _ _ Qh43.out).trans rfl
      have cQ3 : w33.cell? ⟨bQ, 3, none⟩ = some (.int .i64 100) := (cell_of_row _ _ _ _ _ _ Qh43.out).trans rfl
      have cQ4 : w33.cell? ⟨bQ, 4, none⟩ = some (.int .i64 e2) := (cell_of_row _ _ _ _ _ _ Qh43.out).trans rfl
      have cQ5 : w33.cell? ⟨bQ, 5, none⟩ = some (.int .i64 s2) := (cell_of_row _ _ _ _ _ _ Qh43.out).trans rfl
      have cN0 : w33.cell? ⟨bn, 0, none⟩ = some (.int .i64 1) := (cell_of_row _ _ _ _ _ _ Nh43.out).trans rfl
      have cN1 : w33.cell? ⟨bn, 1, none⟩ = some (.int .i64 6) := (cell_of_row _ _ _ _ _ _ Nh43.out).trans rfl
      have cN2 : w33.cell? ⟨bn, 2, none⟩ = some (.int .i64 0) := (cell_of_row _ _ _ _ _ _ Nh43.out).trans rfl
      have cN3 : w33.cell? ⟨bn, 3, none⟩ = some (.int .i64 0) := (cell_of_row _ _ _ _ _ _ Nh43.out).trans rfl
      have cN4 : w33.cell? ⟨bn, 4, none⟩ = some (.int .i64 0) := (cell_of_row _ _ _ _ _ _ Nh43.out).trans rfl
      have cN5 : w33.cell? ⟨bn, 5, none⟩ = some (.string D) := (cell_of_row _ _ _ _ _ _ Nh43.out).trans rfl
      have cN6 : w33.cell? ⟨bn, 6, none⟩ = some (.int .i64 e3) := (cell_of_row _ _ _ _ _ _ Nh43.out).trans rfl
      have cN7 : w33.cell? ⟨bn, 7, none⟩ = some (.int .i64 s3) := (cell_of_row _ _ _ _ _ _ Nh43.out).trans rfl
      go_wp2_with fail
      go_ret
      exact ⟨rfl, HB43.out⟩
  · have HN : Hid ((w15.alloc (.cells #[.int .i64 0, .int .i64 0, .int .i64 0, .int .i64 0, .int .i64 0, .string ⟨#[]⟩, .int .i64 0, .int .i64 0] 43)).heap[w15.heap.size]? = some (.cells #[.int .i64 0, .int .i64 0, .int .i64 0, .int .i64 0, .int .i64 0, .string ⟨#[]⟩, .int .i64 0, .int .i64 0] 43)) := Lib.hid (heap_alloc_new _ _)
    have hbl : Hid (w.heap.size ≤ w15.heap.size) := Lib.hid (show Below w.heap.size w w15 from ⟨(hHeld.2.2.2.2.2.2.2.2.2.2.2.2.2.2.2).os, (hHeld.2.2.2.2.2.2.2.2.2.2.2.2.2.2.2).tape, (hHeld.2.2.2.2.2.2.2.2.2.2.2.2.2.2.2).output, (hHeld.2.2.2.2.2.2.2.2.2.2.2.2.2.2.2).size, (hHeld.2.2.2.2.2.2.2.2.2.2.2.2.2.2.2).block⟩).size
    have hnx0 : Hid (bK ≠ w15.heap.size) := Lib.hid (Nat.ne_of_lt (blk_lt (w := w15) hHeld.1))
    have hnx1 : Hid (bC ≠ w15.heap.size) := Lib.hid (Nat.ne_of_lt (blk_lt (w := w15) hHeld.2.1))
    have hnx2 : Hid (bX ≠ w15.heap.size) := Lib.hid (Nat.ne_of_lt (blk_lt (w := w15) hHeld.2.2.1))
    have hnx3 : Hid (bP ≠ w15.heap.size) := Lib.hid (Nat.ne_of_lt (blk_lt (w := w15) hHeld.2.2.2.1))
    have hnx4 : Hid (bQ ≠ w15.heap.size) := Lib.hid (Nat.ne_of_lt (blk_lt (w := w15) hHeld.2.2.2.2.1))
    go_simp
    refine hK.out _ _ (small_stepA hHeld) (fun hHeld => ?_)
    clear hK K
    try simp only [Act.put, List.setIfInBounds_toArray, List.set_cons_zero, List.set_cons_succ]
    generalize w15.heap.size = bn at *
    generalize w15.alloc (.cells #[.int .i64 0, .int .i64 0, .int .i64 0, .int .i64 0, .int .i64 0, .string ⟨#[]⟩, .int .i64 0, .int .i64 0] 43) = wC at *
    refine wpAnyH_ready (rs := [2]) (by kernel_rfl) (by simp) ?_
    refine AllReadyH.cons (by simp only [List.getElem?_toArray, List.getElem?_cons_succ, List.getElem?_cons_zero]; exact rfl) (fun K hK => ?_) AllReadyH.nil
    go_simp
    refine (HF.out.dig _ (HG.out.below hHeld.2.2.2.2.2.2.2.2.2.2.2.2.2.2.2 HG.out.size) (HM.out.up hHeld.2.2.2.2.2.2.2.2.2.2.2.2.2.2.2)).mono ?_
    rintro e wD ⟨rfl, hb⟩
    have HN : Hid (wD.heap[bn]? = some (.cells #[.int .i64 0, .int .i64 0, .int .i64 0, .int .i64 0, .int .i64 0, .string ⟨#[]⟩, .int .i64 0, .int .i64 0] 43)) := Lib.hid (by first | exact blk_below HN.out hb (blk_lt HN.out) | exact blk_below (show wC.drew.heap[bn]? = _ from HN.out) hb (blk_lt HN.out))
    refine hK.out _ _ (small_step hHeld hb) (fun hHeld => ?_)
    clear hK K hb
    try simp only [Act.put, List.setIfInBounds_toArray, List.set_cons_zero, List.set_cons_succ]
    refine' wpAnyH_take (i := 3) (v := _) (by simp only [List.getElem?_toArray, List.getElem?_cons_succ, List.getElem?_cons_zero]; exact rfl) (by kernel_rfl) (by kernel_rfl) (by kernel_rfl) (fun _ _ _ h => h) (Or.inl ⟨by rfl, ?y3x4⟩) hHeld ?r3x4
    case y3x4 => (intro w hSw; (try dsimp only at hSw); go_simp; try with_reducible rfl)
    try simp only [Act.put, List.setIfInBounds_toArray, List.set_cons_zero, List.set_cons_succ]
    refine wpAnyH_ready (rs := [4]) (by kernel_rfl) (by simp) ?_
    refine AllReadyH.cons (by simp only [List.getElem?_toArray, List.getElem?_cons_succ, List.getElem?_cons_zero]; exact rfl) (fun K hK => ?_) AllReadyH.nil
    go_simp
    refine (HF.out.sg2 _ (HG.out.below hHeld.2.2.2.2.2.2.2.2.2.2.2.2.2.2.2 HG.out.size) (HM.out.up hHeld.2.2.2.2.2.2.2.2.2.2.2.2.2.2.2)).mono ?_
    rintro e wE ⟨rfl, hb⟩
    have HN : Hid (wE.heap[bn]? = some (.cells #[.int .i64 0, .int .i64 0, .int .i64 0, .int .i64 0, .int .i64 0, .string ⟨#[]⟩, .int .i64 0, .int .i64 0] 43)) := Lib.hid (by first | exact blk_below HN.out hb (blk_lt HN.out) | exact blk_below (show wC.drew.heap[bn]? = _ from HN.out) hb (blk_lt HN.out))
    refine hK.out _ _ (small_step hHeld hb) (fun hHeld => ?_)
    clear hK K hb
    try simp only [Act.put, List.setIfInBounds_toArray, List.set_cons_zero, List.set_cons_succ]
    refine wpAnyH_ready (rs := [6]) (by kernel_rfl) (by simp) ?_
    refine AllReadyH.cons (by simp only [List.getElem?_toArray, List.getElem?_cons_succ, List.getElem?_cons_zero]; exact rfl) (fun K hK => ?_) AllReadyH.nil
    have hle : w.heap.size ≤ bn := Hid.out hbl
    have d0 : wE.cell? ⟨bn, 0, none⟩ = some (.int .i64 0) := (cell_of_row _ _ _ _ _ _ HN.out).trans rfl
    have z0 : wE.frozen? ⟨bn, 0, none⟩ = false := frozen_of_row _ _ _ _ _ HN.out
    have hm0 : (wE.setCell ⟨bn, 0, none⟩ (.int .i64 1)).heap[bn]? = some (.cells #[.int .i64 1, .int .i64 0, .int .i64 0, .int .i64 0, .int .i64 0, .string ⟨#[]⟩, .int .i64 0, .int .i64 0] 43 (0, 0)) := (heap_setCell_same _ _ _ _ _ _ HN.out).trans rfl
    have d1 : (wE.setCell ⟨bn, 0, none⟩ (.int .i64 1)).cell? ⟨bn, 1, none⟩ = some (.int .i64 0) := (cell_of_row _ _ _ _ _ _ hm0).trans rfl
    have z1 : (wE.setCell ⟨bn, 0, none⟩ (.int .i64 1)).frozen? ⟨bn, 1, none⟩ = false := frozen_of_row _ _ _ _ _ hm0
    have hm1 : ((wE.setCell ⟨bn, 0, none⟩ (.int .i64 1)).setCell ⟨bn, 1, none⟩ (.int .i64 6)).heap[bn]? = some (.cells #[.int .i64 1, .int .i64 6, .int .i64 0, .int .i64 0, .int .i64 0, .string ⟨#[]⟩, .int .i64 0, .int .i64 0] 43 (0, 0)) := (heap_setCell_same _ _ _ _ _ _ hm0).trans rfl
    have d2 : ((wE.setCell ⟨bn, 0, none⟩ (.int .i64 1)).setCell ⟨bn, 1, none⟩ (.int .i64 6)).cell? ⟨bn, 2, none⟩ = some (.int .i64 0) := (cell_of_row _ _ _ _ _ _ hm1).trans rfl
    have z2 : ((wE.setCell ⟨bn, 0, none⟩ (.int .i64 1)).setCell ⟨bn, 1, none⟩ (.int .i64 6)).frozen? ⟨bn, 2, none⟩ = false := frozen_of_row _ _ _ _ _ hm1
    have hm2 : (((wE.setCell ⟨bn, 0, none⟩ (.int .i64 1)).setCell ⟨bn, 1, none⟩ (.int .i64 6)).setCell ⟨bn, 2, none⟩ (.int .i64 0)).heap[bn]? = some (.cells #[.int .i64 1, .int .i64 6, .int .i64 0, .int .i64 0, .int .i64 0, .string ⟨#[]⟩, .int .i64 0, .int .i64 0] 43 (0, 0)) := (heap_setCell_same _ _ _ _ _ _ hm1).trans rfl
    have d3 : (((wE.setCell ⟨bn, 0, none⟩ (.int .i64 1)).setCell ⟨bn, 1, none⟩ (.int .i64 6)).setCell ⟨bn, 2, none⟩ (.int .i64 0)).cell? ⟨bn, 3, none⟩ = some (.int .i64 0) := (cell_of_row _ _ _ _ _ _ hm2).trans rfl
    have z3 : (((wE.setCell ⟨bn, 0, none⟩ (.int .i64 1)).setCell ⟨bn, 1, none⟩ (.int .i64 6)).setCell ⟨bn, 2, none⟩ (.int .i64 0)).frozen? ⟨bn, 3, none⟩ = false := frozen_of_row _ _ _ _ _ hm2
    have hm3 : ((((wE.setCell ⟨bn, 0, none⟩ (.int .i64 1)).setCell ⟨bn, 1, none⟩ (.int .i64 6)).setCell ⟨bn, 2, none⟩ (.int .i64 0)).setCell ⟨bn, 3, none⟩ (.int .i64 0)).heap[bn]? = some (.cells #[.int .i64 1, .int .i64 6, .int .i64 0, .int .i64 0, .int .i64 0, .string ⟨#[]⟩, .int .i64 0, .int .i64 0] 43 (0, 0)) := (heap_setCell_same _ _ _ _ _ _ hm2).trans rfl
    have d4 : ((((wE.setCell ⟨bn, 0, none⟩ (.int .i64 1)).setCell ⟨bn, 1, none⟩ (.int .i64 6)).setCell ⟨bn, 2, none⟩ (.int .i64 0)).setCell ⟨bn, 3, none⟩ (.int .i64 0)).cell? ⟨bn, 4, none⟩ = some (.int .i64 0) := (cell_of_row _ _ _ _ _ _ hm3).trans rfl
    have z4 : ((((wE.setCell ⟨bn, 0, none⟩ (.int .i64 1)).setCell ⟨bn, 1, none⟩ (.int .i64 6)).setCell ⟨bn, 2, none⟩ (.int .i64 0)).setCell ⟨bn, 3, none⟩ (.int .i64 0)).frozen? ⟨bn, 4, none⟩ = false := frozen_of_row _ _ _ _ _ hm3
    have hm4 : (((((wE.setCell ⟨bn, 0, none⟩ (.int .i64 1)).setCell ⟨bn, 1, none⟩ (.int .i64 6)).setCell ⟨bn, 2, none⟩ (.int .i64 0)).setCell ⟨bn, 3, none⟩ (.int .i64 0)).setCell ⟨bn, 4, none⟩ (.int .i64 0)).heap[bn]? = some (.cells #[.int .i64 1, .int .i64 6, .int .i64 0, .int .i64 0, .int .i64 0, .string ⟨#[]⟩, .int .i64 0, .int .i64 0] 43 (0, 0)) := (heap_setCell_same _ _ _ _ _ _ hm3).trans rfl
    have d5 : (((((wE.setCell ⟨bn, 0, none⟩ (.int .i64 1)).setCell ⟨bn, 1, none⟩ (.int .i64 6)).setCell ⟨bn, 2, none⟩ (.int .i64 0)).setCell ⟨bn, 3, none⟩ (.int .i64 0)).setCell ⟨bn, 4, none⟩ (.int .i64 0)).cell? ⟨bn, 5, none⟩ = some (.string ⟨#[]⟩) := (cell_of_row _ _ _ _ _ _ hm4).trans rfl
    have z5 : (((((wE.setCell ⟨bn, 0, none⟩ (.int .i64 1)).setCell ⟨bn, 1, none⟩ (.int .i64 6)).setCell ⟨bn, 2, none⟩ (.int .i64 0)).setCell ⟨bn, 3, none⟩ (.int .i64 0)).setCell ⟨bn, 4, none⟩ (.int .i64 0)).frozen? ⟨bn, 5, none⟩ = false := frozen_of_row _ _ _ _ _ hm4
    have hm5 : ((((((wE.setCell ⟨bn, 0, none⟩ (.int .i64 1)).setCell ⟨bn, 1, none⟩ (.int .i64 6)).setCell ⟨bn, 2, none⟩ (.int .i64 0)).setCell ⟨bn, 3, none⟩ (.int .i64 0)).setCell ⟨bn, 4, none⟩ (.int .i64 0)).setCell ⟨bn, 5, none⟩ (.string D)).heap[bn]? = some (.cells #[.int .i64 1, .int .i64 6, .int .i64 0, .int .i64 0, .int .i64 0, .string D, .int .i64 0, .int .i64 0] 43 (0, 0)) := (heap_setCell_same _ _ _ _ _ _ hm4).trans rfl
    have d6 : ((((((wE.setCell ⟨bn, 0, none⟩ (.int .i64 1)).setCell ⟨bn, 1, none⟩ (.int .i64 6)).setCell ⟨bn, 2, none⟩ (.int .i64 0)).setCell ⟨bn, 3, none⟩ (.int .i64 0)).setCell ⟨bn, 4, none⟩ (.int .i64 0)).setCell ⟨bn, 5, none⟩ (.string D)).cell? ⟨bn, 6, none⟩ = some (.int .i64 0) := (cell_of_row _ _ _ _ _ _ hm5).trans rfl
    have z6 : ((((((wE.setCell ⟨bn, 0, none⟩ (.int .i64 1)).setCell ⟨bn, 1, none⟩ (.int .i64 6)).setCell ⟨bn, 2, none⟩ (.int .i64 0)).setCell ⟨bn, 3, none⟩ (.int .i64 0)).setCell ⟨bn, 4, none⟩ (.int .i64 0)).setCell ⟨bn, 5, none⟩ (.string D)).frozen? ⟨bn, 6, none⟩ = false := frozen_of_row _ _ _ _ _ hm5
    have hm6 : (((((((wE.setCell ⟨bn, 0, none⟩ (.int .i64 1)).setCell ⟨bn, 1, none⟩ (.int .i64 6)).setCell ⟨bn, 2, none⟩ (.int .i64 0)).setCell ⟨bn, 3, none⟩ (.int .i64 0)).setCell ⟨bn, 4, none⟩ (.int .i64 0)).setCell ⟨bn, 5, none⟩ (.string D)).setCell ⟨bn, 6, none⟩ (.int .i64 e3)).heap[bn]? = some (.cells #[.int .i64 1, .int .i64 6, .int .i64 0, .int .i64 0, .int .i64 0, .string D, .int .i64 e3, .int .i64 0] 43 (0, 0)) := (heap_setCell_same _ _ _ _ _ _ hm5).trans rfl
    have d7 : (((((((wE.setCell ⟨bn, 0, none⟩ (.int .i64 1)).setCell ⟨bn, 1, none⟩ (.int .i64 6)).setCell ⟨bn, 2, none⟩ (.int .i64 0)).setCell ⟨bn, 3, none⟩ (.int .i64 0)).setCell ⟨bn, 4, none⟩ (.int .i64 0)).setCell ⟨bn, 5, none⟩ (.string D)).setCell ⟨bn, 6, none⟩ (.int .i64 e3)).cell? ⟨bn, 7, none⟩ = some (.int .i64 0) := (cell_of_row _ _ _ _ _ _ hm6).trans rfl
    have z7 : (((((((wE.setCell ⟨bn, 0, none⟩ (.int .i64 1)).setCell ⟨bn, 1, none⟩ (.int .i64 6)).setCell ⟨bn, 2, none⟩ (.int .i64 0)).setCell ⟨bn, 3, none⟩ (.int .i64 0)).setCell ⟨bn, 4, none⟩ (.int .i64 0)).setCell ⟨bn, 5, none⟩ (.string D)).setCell ⟨bn, 6, none⟩ (.int .i64 e3)).frozen? ⟨bn, 7, none⟩ = false := frozen_of_row _ _ _ _ _ hm6
    have hm7 : ((((((((wE.setCell ⟨bn, 0, none⟩ (.int .i64 1)).setCell ⟨bn, 1, none⟩ (.int .i64 6)).setCell ⟨bn, 2, none⟩ (.int .i64 0)).setCell ⟨bn, 3, none⟩ (.int .i64 0)).setCell ⟨bn, 4, none⟩ (.int .i64 0)).setCell ⟨bn, 5, none⟩ (.string D)).setCell ⟨bn, 6, none⟩ (.int .i64 e3)).setCell ⟨bn, 7, none⟩ (.int .i64 s3)).heap[bn]? = some (.cells #[.int .i64 1, .int .i64 6, .int .i64 0, .int .i64 0, .int .i64 0, .string D, .int .i64 e3, .int .i64 s3] 43 (0, 0)) := (heap_setCell_same _ _ _ _ _ _ hm6).trans rfl
    have hne0 : bK ≠ bn := Hid.out hnx0
    have hne1 : bC ≠ bn := Hid.out hnx1
    have hne2 : bX ≠ bn := Hid.out hnx2
    have hne3 : bP ≠ bn := Hid.out hnx3
    have hne4 : bQ ≠ bn := Hid.out hnx4
    go_simp
    refine hK.out _ _ (small_stepS (small_stepS (small_stepS (small_stepS (small_stepS (small_stepS (small_stepS (small_stepS hHeld hle hne0 hne1 hne2 hne3 hne4) hle hne0 hne1 hne2 hne3 hne4) hle hne0 hne1 hne2 hne3 hne4) hle hne0 hne1 hne2 hne3 hne4) hle hne0 hne1 hne2 hne3 hne4) hle hne0 hne1 hne2 hne3 hne4) hle hne0 hne1 hne2 hne3 hne4) hle hne0 hne1 hne2 hne3 hne4) (fun hHeld => ?_)
    have HNf := Lib.hid hm7
    clear hK K d0 z0 d1 z1 d2 z2 d3 z3 d4 z4 d5 z5 d6 z6 d7 z7 hm0 hm1 hm2 hm3 hm4 hm5 hm6 hm7 hle hne0 hne1 hne2 hne3 hne4
    try simp only [Act.put, List.setIfInBounds_toArray, List.set_cons_zero, List.set_cons_succ]
    generalize ((((((((wE.setCell ⟨bn, 0, none⟩ (.int .i64 1)).setCell ⟨bn, 1, none⟩ (.int .i64 6)).setCell ⟨bn, 2, none⟩ (.int .i64 0)).setCell ⟨bn, 3, none⟩ (.int .i64 0)).setCell ⟨bn, 4, none⟩ (.int .i64 0)).setCell ⟨bn, 5, none⟩ (.string D)).setCell ⟨bn, 6, none⟩ (.int .i64 e3)).setCell ⟨bn, 7, none⟩ (.int .i64 s3)) = wf at *
    refine wpAnyH_done (by kernel_rfl) ?_ _
    refine NoPanic.normal ?_
    have Kh40 := Lib.hid hHeld.1
    have Ch40 := Lib.hid hHeld.2.1
    have Xh40 := Lib.hid hHeld.2.2.1
    have Ph40 := Lib.hid hHeld.2.2.2.1
    have Qh40 := Lib.hid hHeld.2.2.2.2.1
    have HB40 := Lib.hid hHeld.2.2.2.2.2.2.2.2.2.2.2.2.2.2.2
    have Nh40 := Lib.hid HNf.out
    clear hHeld HNf
    have cK0 : wf.cell? ⟨bK, 0, none⟩ = some (.int .i64 k) := (cell_of_row _ _ _ _ _ _ Kh40.out).trans rfl
    have cK1 : wf.cell? ⟨bK, 1, none⟩ = some (.int .i64 p) := (cell_of_row _ _ _ _ _ _ Kh40.out).trans rfl
    have cC0 : wf.cell? ⟨bC, 0, none⟩ = some (.int .i64 1) := (cell_of_row _ _ _ _ _ _ Ch40.out).trans rfl
    have cC1 : wf.cell? ⟨bC, 1, none⟩ = some (.int .i64 5) := (cell_of_row _ _ _ _ _ _ Ch40.out).trans rfl
    have cC2 : wf.cell? ⟨bC, 2, none⟩ = some (.int .i64 7) := (cell_of_row _ _ _ _ _ _ Ch40.out).trans rfl
    have cC3 : wf.cell? ⟨bC, 3, none⟩ = some (.int .i64 3) := (cell_of_row _ _ _ _ _ _ Ch40.out).trans rfl
    have cC4 : wf.cell? ⟨bC, 4, none⟩ = some (.int .i64 4) := (cell_of_row _ _ _ _ _ _ Ch40.out).trans rfl
    have cC5 : wf.cell? ⟨bC, 5, none⟩ = some (.string ⟨#[]⟩) := (cell_of_row _ _ _ _ _ _ Ch40.out).trans rfl
    have cC6 : wf.cell? ⟨bC, 6, none⟩ = some (.int .i64 e1) := (cell_of_row _ _ _ _ _ _ Ch40.out).trans rfl
    have cC7 : wf.cell? ⟨bC, 7, none⟩ = some (.int .i64 s1) := (cell_of_row _ _ _ _ _ _ Ch40.out).trans rfl
    have cX0 : wf.cell? ⟨bX, 0, none⟩ = some (.int .i64 1) := (cell_of_row _ _ _ _ _ _ Xh40.out).trans rfl
    have cX1 : wf.cell? ⟨bX, 1, none⟩ = some (.int .i64 5) := (cell_of_row _ _ _ _ _ _ Xh40.out).trans rfl
    have cX2 : wf.cell? ⟨bX, 2, none⟩ = some (.int .i64 7) := (cell_of_row _ _ _ _ _ _ Xh40.out).trans rfl
    have cX3 : wf.cell? ⟨bX, 3, none⟩ = some (.int .i64 3) := (cell_of_row _ _ _ _ _ _ Xh40.out).trans rfl
    have cX4 : wf.cell? ⟨bX, 4, none⟩ = some (.int .i64 4) := (cell_of_row _ _ _ _ _ _ Xh40.out).trans rfl
    have cX5 : wf.cell? ⟨bX, 5, none⟩ = some (.string ⟨#[]⟩) := (cell_of_row _ _ _ _ _ _ Xh40.out).trans rfl
    have cX6 : wf.cell? ⟨bX, 6, none⟩ = some (.int .i64 e1) := (cell_of_row _ _ _ _ _ _ Xh40.out).trans rfl
    have cX7 : wf.cell? ⟨bX, 7, none⟩ = some (.int .i64 s1) := (cell_of_row _ _ _ _ _ _ Xh40.out).trans rfl
    have cP0 : wf.cell? ⟨bP, 0, none⟩ = some (.int .i64 1) := (cell_of_row _ _ _ _ _ _ Ph40.out).trans rfl
    have cP1 : wf.cell? ⟨bP, 1, none⟩ = some (.int .i64 5) := (cell_of_row _ _ _ _ _ _ Ph40.out).trans rfl
    have cP2 : wf.cell? ⟨bP, 2, none⟩ = some (.int .i64 9) := (cell_of_row _ _ _ _ _ _ Ph40.out).trans rfl
    have cP3 : wf.cell? ⟨bP, 3, none⟩ = some (.int .i64 100) := (cell_of_row _ _ _ _ _ _ Ph40.out).trans rfl
    have cP4 : wf.cell? ⟨bP, 4, none⟩ = some (.int .i64 e2) := (cell_of_row _ _ _ _ _ _ Ph40.out).trans rfl
    have cP5 : wf.cell? ⟨bP, 5, none⟩ = some (.int .i64 s2) := (cell_of_row _ _ _ _ _ _ Ph40.out).trans rfl
    have cQ0 : wf.cell? ⟨bQ, 0, none⟩ = some (.int .i64 1) := (cell_of_row _ _ _ _ _ _ Qh40.out).trans rfl
    have cQ1 : wf.cell? ⟨bQ, 1, none⟩ = some (.int .i64 5) := (cell_of_row _ _ _ _ _ _ Qh40.out).trans rfl
    have cQ2 : wf.cell? ⟨bQ, 2, none⟩ = some (.int .i64 9) := (cell_of_row _ _ _ _ _ _ Qh40.out).trans rfl
    have cQ3 : wf.cell? ⟨bQ, 3, none⟩ = some (.int .i64 100) := (cell_of_row _ _ _ _ _ _ Qh40.out).trans rfl
    have cQ4 : wf.cell? ⟨bQ, 4, none⟩ = some (.int .i64 e2) := (cell_of_row _ _ _ _ _ _ Qh40.out).trans rfl
    have cQ5 : wf.cell? ⟨bQ, 5, none⟩ = some (.int .i64 s2) := (cell_of_row _ _ _ _ _ _ Qh40.out).trans rfl
    have cN0 : wf.cell? ⟨bn, 0, none⟩ = some (.int .i64 1) := (cell_of_row _ _ _ _ _ _ Nh40.out).trans rfl
    have cN1 : wf.cell? ⟨bn, 1, none⟩ = some (.int .i64 6) := (cell_of_row _ _ _ _ _ _ Nh40.out).trans rfl
    have cN2 : wf.cell? ⟨bn, 2, none⟩ = some (.int .i64 0) := (cell_of_row _ _ _ _ _ _ Nh40.out).trans rfl
    have cN3 : wf.cell? ⟨bn, 3, none⟩ = some (.int .i64 0) := (cell_of_row _ _ _ _ _ _ Nh40.out).trans rfl
    have cN4 : wf.cell? ⟨bn, 4, none⟩ = some (.int .i64 0) := (cell_of_row _ _ _ _ _ _ Nh40.out).trans rfl
    have cN5 : wf.cell? ⟨bn, 5, none⟩ = some (.string D) := (cell_of_row _ _ _ _ _ _ Nh40.out).trans rfl
    have cN6 : wf.cell? ⟨bn, 6, none⟩ = some (.int .i64 e3) := (cell_of_row _ _ _ _ _ _ Nh40.out).trans rfl
    have cN7 : wf.cell? ⟨bn, 7, none⟩ = some (.int .i64 s3) := (cell_of_row _ _ _ _ _ _ Nh40.out).trans rfl
    have hb1 := heap_alloc_new wf (.cells #[.int .i64 0, .int .i64 p] 3)
    have hbA : Below wf.heap.size wf (wf.alloc (.cells #[.int .i64 0, .int .i64 p] 3)) := (Below.refl _ _).alloc (Nat.le_refl _) _
    have hCx := blk_below Ch40.out hbA (blk_lt Ch40.out)
    have hNx := blk_below Nh40.out hbA (blk_lt Nh40.out)
    have yC0 : (wf.alloc (.cells #[.int .i64 0, .int .i64 p] 3)).cell? ⟨bC, 0, none⟩ = some (.int .i64 1) := (cell_of_row _ _ _ _ _ _ hCx).trans rfl
    have yC1 : (wf.alloc (.cells #[.int .i64 0, .int .i64 p] 3)).cell? ⟨bC, 1, none⟩ = some (.int .i64 5) := (cell_of_row _ _ _ _ _ _ hCx).trans rfl
    have yC2 : (wf.alloc (.cells #[.int .i64 0, .int .i64 p] 3)).cell? ⟨bC, 2, none⟩ = some (.int .i64 7) := (cell_of_row _ _ _ _ _ _ hCx).trans rfl
    have yC3 : (wf.alloc (.cells #[.int .i64 0, .int .i64 p] 3)).cell? ⟨bC, 3, none⟩ = some (.int .i64 3) := (cell_of_row _ _ _ _ _ _ hCx).trans rfl
    have yC4 : (wf.alloc (.cells #[.int .i64 0, .int .i64 p] 3)).cell? ⟨bC, 4, none⟩ = some (.int .i64 4) := (cell_of_row _ _ _ _ _ _ hCx).trans rfl
    have yC5 : (wf.alloc (.cells #[.int .i64 0, .int .i64 p] 3)).cell? ⟨bC, 5, none⟩ = some (.string ⟨#[]⟩) := (cell_of_row _ _ _ _ _ _ hCx).trans rfl
    have yC6 : (wf.alloc (.cells #[.int .i64 0, .int .i64 p] 3)).cell? ⟨bC, 6, none⟩ = some (.int .i64 e1) := (cell_of_row _ _ _ _ _ _ hCx).trans rfl
    have yC7 : (wf.alloc (.cells #[.int .i64 0, .int .i64 p] 3)).cell? ⟨bC, 7, none⟩ = some (.int .i64 s1) := (cell_of_row _ _ _ _ _ _ hCx).trans rfl
    have yN0 : (wf.alloc (.cells #[.int .i64 0, .int .i64 p] 3)).cell? ⟨bn, 0, none⟩ = some (.int .i64 1) := (cell_of_row _ _ _ _ _ _ hNx).trans rfl
    have yN1 : (wf.alloc (.cells #[.int .i64 0, .int .i64 p] 3)).cell? ⟨bn, 1, none⟩ = some (.int .i64 6) := (cell_of_row _ _ _ _ _ _ hNx).trans rfl
    have yN2 : (wf.alloc (.cells #[.int .i64 0, .int .i64 p] 3)).cell? ⟨bn, 2, none⟩ = some (.int .i64 0) := (cell_of_row _ _ _ _ _ _ hNx).trans rfl
    have yN3 : (wf.alloc (.cells #[.int .i64 0, .int .i64 p] 3)).cell? ⟨bn, 3, none⟩ = some (.int .i64 0) := (cell_of_row _ _ _ _ _ _ hNx).trans rfl
    have yN4 : (wf.alloc (.cells #[.int .i64 0, .int .i64 p] 3)).cell? ⟨bn, 4, none⟩ = some (.int .i64 0) := (cell_of_row _ _ _ _ _ _ hNx).trans rfl
    have yN5 : (wf.alloc (.cells #[.int .i64 0, .int .i64 p] 3)).cell? ⟨bn, 5, none⟩ = some (.string D) := (cell_of_row _ _ _ _ _ _ hNx).trans rfl
    have yN6 : (wf.alloc (.cells #[.int .i64 0, .int .i64 p] 3)).cell? ⟨bn, 6, none⟩ = some (.int .i64 e3) := (cell_of_row _ _ _ _ _ _ hNx).trans rfl
    have yN7 : (wf.alloc (.cells #[.int .i64 0, .int .i64 p] 3)).cell? ⟨bn, 7, none⟩ = some (.int .i64 s3) := (cell_of_row _ _ _ _ _ _ hNx).trans rfl
    go_wp2_with fail
    clear hCx hNx yC0 yN0 yC1 yN1 yC2 yN2 yC3 yN3 yC4 yN4 yC5 yN5 yC6 yN6 yC7 yN7
    have hbB : Below wf.heap.size wf ((wf.alloc (.cells #[.int .i64 0, .int .i64 p] 3)).alloc (.cells #[.int .i64 1, .int .i64 5, .int .i64 7, .int .i64 3, .int .i64 4, .string ⟨#[]⟩, .int .i64 e1, .int .i64 s1, .int .i64 1, .int .i64 6, .int .i64 0, .int .i64 0, .int .i64 0, .string D, .int .i64 e3, .int .i64 s3] 43)) := hbA.alloc hbA.size _
    have hb2 := heap_alloc_new (wf.alloc (.cells #[.int .i64 0, .int .i64 p] 3)) (.cells #[.int .i64 1, .int .i64 5, .int .i64 7, .int .i64 3, .int .i64 4, .string ⟨#[]⟩, .int .i64 e1, .int .i64 s1, .int .i64 1, .int .i64 6, .int .i64 0, .int .i64 0, .int .i64 0, .string D, .int .i64 e3, .int .i64 s3] 43)
    rw [World.size_alloc] at hb2
    have hb1x := blk_below hb1 ((Below.refl _ _).alloc (Nat.le_refl _) (.cells #[.int .i64 1, .int .i64 5, .int .i64 7, .int .i64 3, .int .i64 4, .string ⟨#[]⟩, .int .i64 e1, .int .i64 s1, .int .i64 1, .int .i64 6, .int .i64 0, .int .i64 0, .int .i64 0, .string D, .int .i64 e3, .int .i64 s3] 43)) (blk_lt hb1)
    refine (HF.out.ch2 _ _ _ hb1x hb2 (HG.out.below (HB40.out.trans (hbB.mono HB40.out.size)) HG.out.size) (HM.out.up (HB40.out.trans (hbB.mono HB40.out.size)))).mono ?_
    rintro e w31 ⟨a1, k1, rfl, hbz⟩
    have hb : Below wf.heap.size wf w31 := hbB.trans (hbz.mono hbB.size)
    have HB41 := Lib.hid (HB40.out.trans (hb.mono HB40.out.size))
    have Kh41 := Lib.hid (blk_below Kh40.out hb (blk_lt Kh40.out))
    have Ch41 := Lib.hid (blk_below Ch40.out hb (blk_lt Ch40.out))
    have Xh41 := Lib.hid (blk_below Xh40.out hb (blk_lt Xh40.out))
    have Ph41 := Lib.hid (blk_below Ph40.out hb (blk_lt Ph40.out))
    have Qh41 := Lib.hid (blk_below Qh40.out hb (blk_lt Qh40.out))
    have Nh41 := Lib.hid (blk_below Nh40.out hb (blk_lt Nh40.out))
    clear cK0 cK1 cC0 cC1 cC2 cC3 cC4 cC5 cC6 cC7 cX0 cX1 cX2 cX3 cX4 cX5 cX6 cX7 cP0 cP1 cP2 cP3 cP4 cP5 cQ0 cQ1 cQ2 cQ3 cQ4 cQ5 cN0 cN1 cN2 cN3 cN4 cN5 cN6 cN7
    clear HB40 Kh40 Ch40 Xh40 Ph40 Qh40 Nh40
    clear hb hbz hbA hbB hb1 hb2 hb1x
    have cK0 : w31.cell? ⟨bK, 0, none⟩ = some (.int .i64 k) := (cell_of_row _ _ _ _ _ _ Kh41.out).trans rfl
    have cK1 : w31.cell? ⟨bK, 1, none⟩ = some (.int .i64 p) := (cell_of_row _ _ _ _ _ _ Kh41.out).trans rfl
    have cC0 : w31.cell? ⟨bC, 0, none⟩ = some (.int .i64 1) := (cell_of_row _ _ _ _ _ _ Ch41.out).trans rfl
    have cC1 : w31.cell? ⟨bC, 1, none⟩ = some (.int .i64 5) := (cell_of_row _ _ _ _ _ _ Ch41.out).trans rfl
    have cC2 : w31.cell? ⟨bC, 2, none⟩ = some (.int .i64 7) := (cell_of_row _ _ _ _ _ _ Ch41.out).trans rfl
    have cC3 : w31.cell? ⟨bC, 3, none⟩ = some (.int .i64 3) := (cell_of_row _ _ _ _ _ _ Ch41.out).trans rfl
    have cC4 : w31.cell? ⟨bC, 4, none⟩ = some (.int .i64 4) := (cell_of_row _ _ _ _ _ _ Ch41.out).trans rfl
    have cC5 : w31.cell? ⟨bC, 5, none⟩ = some (.string ⟨#[]⟩) := (cell_of_row _ _ _ _ _ _ Ch41.out).trans rfl
    have cC6 : w31.cell? ⟨bC, 6, none⟩ = some (.int .i64 e1) := (cell_of_row _ _ _ _ _ _ Ch41.out).trans rfl
    have cC7 : w31.cell? ⟨bC, 7, none⟩ = some (.int .i64 s1) := (cell_of_row _ _ _ _ _ _ Ch41.out).trans rfl
    have cX0 : w31.cell? ⟨bX, 0, none⟩ = some (.int .i64 1) := (cell_of_row _ _ _ _ _ _ Xh41.out).trans rfl
    have cX1 : w31.cell? ⟨bX, 1, none⟩ = some (.int .i64 5) := (cell_of_row _ _ _ _ _ _ Xh41.out).trans rfl
    have cX2 : w31.cell? ⟨bX, 2, none⟩ = some (.int .i64 7) := (cell_of_row _ _ _ _ _ _ Xh41.out).trans rfl
    have cX3 : w31.cell? ⟨bX, 3, none⟩ = some (.int .i64 3) := (cell_of_row _ _ _ _ _ _ Xh41.out).trans rfl
    have cX4 : w31.cell? ⟨bX, 4, none⟩ = some (.int .i64 4) := (cell_of_row _ _ _ _ _ _ Xh41.out).trans rfl
    have cX5 : w31.cell? ⟨bX, 5, none⟩ = some (.string ⟨#[]⟩) := (cell_of_row _ _ _ _ _ _ Xh41.out).trans rfl
    have cX6 : w31.cell? ⟨bX, 6, none⟩ = some (.int .i64 e1) := (cell_of_row _ _ _ _ _ _ Xh41.out).trans rfl
    have cX7 : w31.cell? ⟨bX, 7, none⟩ = some (.int .i64 s1) := (cell_of_row _ _ _ _ _ _ Xh41.out).trans rfl
    have cP0 : w31.cell? ⟨bP, 0, none⟩ = some (.int .i64 1) := (cell_of_row _ _ _ _ _ _ Ph41.out).trans rfl
    have cP1 : w31.cell? ⟨bP, 1, none⟩ = some (.int .i64 5) := (cell_of_row _ _ _ _ _ _ Ph41.out).trans rfl
    have cP2 : w31.cell? ⟨bP, 2, none⟩ = some (.int .i64 9) := (cell_of_row _ _ _ _ _ _ Ph41.out).trans rfl
    have cP3 : w31.cell? ⟨bP, 3, none⟩ = some (.int .i64 100) := (cell_of_row _ _ _ _ _ _ Ph41.out).trans rfl
    have cP4 : w31.cell? ⟨bP, 4, none⟩ = some (.int .i64 e2) := (cell_of_row _ _ _ _ _ _ Ph41.out).trans rfl
    have cP5 : w31.cell? ⟨bP, 5, none⟩ = some (.int .i64 s2) := (cell_of_row _ _ _ _ _ _ Ph41.out).trans rfl
    have cQ0 : w31.cell? ⟨bQ, 0, none⟩ = some (.int .i64 1) := (cell_of_row _ _ _ _ _ _ Qh41.out).trans rfl
    have cQ1 : w31.cell? ⟨bQ, 1, none⟩ = some (.int .i64 5) := (cell_of_row _ _ _ _ _ _ Qh41.out).trans rfl
    have cQ2 : w31.cell? ⟨bQ, 2, none⟩ = some (.int .i64 9) := (cell_of_row _ _ _ _ _ _ Qh41.out).trans rfl
    have cQ3 : w31.cell? ⟨bQ, 3, none⟩ = some (.int .i64 100) := (cell_of_row _ _ _ _ _ _ Qh41.out).trans rfl
    have cQ4 : w31.cell? ⟨bQ, 4, none⟩ = some (.int .i64 e2) := (cell_of_row _ _ _ _ _ _ Qh41.out).trans rfl
    have cQ5 : w31.cell? ⟨bQ, 5, none⟩ = some (.int .i64 s2) := (cell_of_row _ _ _ _ _ _ Qh41.out).trans rfl
    have cN0 : w31.cell? ⟨bn, 0, none⟩ = some (.int .i64 1) := (cell_of_row _ _ _ _ _ _ Nh41.out).trans rfl
    have cN1 : w31.cell? ⟨bn, 1, none⟩ = some (.int .i64 6) := (cell_of_row _ _ _ _ _ _ Nh41.out).trans rfl
    have cN2 : w31.cell? ⟨bn, 2, none⟩ = some (.int .i64 0) := (cell_of_row _ _ _ _ _ _ Nh41.out).trans rfl
    have cN3 : w31.cell? ⟨bn, 3, none⟩ = some (.int .i64 0) := (cell_of_row _ _ _ _ _ _ Nh41.out).trans rfl
    have cN4 : w31.cell? ⟨bn, 4, none⟩ = some (.int .i64 0) := (cell_of_row _ _ _ _ _ _ Nh41.out).trans rfl
    have cN5 : w31.cell? ⟨bn, 5, none⟩ = some (.string D) := (cell_of_row _ _ _ _ _ _ Nh41.out).trans rfl
    have cN6 : w31.cell? ⟨bn, 6, none⟩ = some (.int .i64 e3) := (cell_of_row _ _ _ _ _ _ Nh41.out).trans rfl
    have cN7 : w31.cell? ⟨bn, 7, none⟩ = some (.int .i64 s3) := (cell_of_row _ _ _ _ _ _ Nh41.out).trans rfl
    go_wp2_with fail
    refine (HF.out.ver _ (HG.out.below HB41.out HG.out.size) (HM.out.up HB41.out)).mono ?_
    rintro e w32 ⟨rfl, hb⟩
    have HB42 := Lib.hid (HB41.out.trans (hb.mono HB41.out.size))
    have Kh42 := Lib.hid (blk_below Kh41.out hb (blk_lt Kh41.out))
    have Ch42 := Lib.hid (blk_below Ch41.out hb (blk_lt Ch41.out))
    have Xh42 := Lib.hid (blk_below Xh41.out hb (blk_lt Xh41.out))
    have Ph42 := Lib.hid (blk_below Ph41.out hb (blk_lt Ph41.out))
    have Qh42 := Lib.hid (blk_below Qh41.out hb (blk_lt Qh41.out))
    have Nh42 := Lib.hid (blk_below Nh41.out hb (blk_lt Nh41.out))
    clear cK0 cK1 cC0 cC1 cC2 cC3 cC4 cC5 cC6 cC7 cX0 cX1 cX2 cX3 cX4 cX5 cX6 cX7 cP0 cP1 cP2 cP3 cP4 cP5 cQ0 cQ1 cQ2 cQ3 cQ4 cQ5 cN0 cN1 cN2 cN3 cN4 cN5 cN6 cN7
    clear HB41 Kh41 Ch41 Xh41 Ph41 Qh41 Nh41
    clear hb
    have cK0 : w32.cell? ⟨bK, 0, none⟩ = some (.int .i64 k) := (cell_of_row _ _ _ _ _ _ Kh42.out).trans rfl
    have cK1 : w32.cell? ⟨bK, 1, none⟩ = some (.int .i64 p) := (cell_of_row _ _ _ _ _ _ Kh42.out).trans rfl
    have cC0 : w32.cell? ⟨bC, 0, none⟩ = some (.int .i64 1) := (cell_of_row _ _ _ _ _ _ Ch42.out).trans rfl
    have cC1 : w32.cell? ⟨bC, 1, none⟩ = some (.int .i64 5) := (cell_of_row _ _ _ _ _ _ Ch42.out).trans rfl
    have cC2 : w32.cell? ⟨bC, 2, none⟩ = some (.int .i64 7) := (cell_of_row _ _ _ _ _ _ Ch42.out).trans rfl
    have cC3 : w32.cell? ⟨bC, 3, none⟩ = some (.int .i64 3) := (cell_of_row _ _ _ _ _ _ Ch42.out).trans rfl
    have cC4 : w32.cell? ⟨bC, 4, none⟩ = some (.int .i64 4) := (cell_of_row _ _ _ _ _ _ Ch42.out).trans rfl
    have cC5 : w32.cell? ⟨bC, 5, none⟩ = some (.string ⟨#[]⟩) := (cell_of_row _ _ _ _ _ _ Ch42.out).trans rfl
    have cC6 : w32.cell? ⟨bC, 6, none⟩ = some (.int .i64 e1) := (cell_of_row _ _ _ _ _ _ Ch42.out).trans rfl
    have cC7 : w32.cell? ⟨bC, 7, none⟩ = some (.int .i64 s1) := (cell_of_row _ _ _ _ _ _ Ch42.out).trans rfl
    have cX0 : w32.cell? ⟨bX, 0, none⟩ = some (.int .i64 1) := (cell_of_row _ _ _ _ _ _ Xh42.out).trans rfl
    have cX1 : w32.cell? ⟨bX, 1, none⟩ = some (.int .i64 5) := (cell_of_row _ _ _ _ _ _ Xh42.out).trans rfl
    have cX2 : w32.cell? ⟨bX, 2, none⟩ = some (.int .i64 7) := (cell_of_row _ _ _ _ _ _ Xh42.out).trans rfl
    have cX3 : w32.cell? ⟨bX, 3, none⟩ = some (.int .i64 3) := (cell_of_row _ _ _ _ _ _ Xh42.out).trans rfl
    have cX4 : w32.cell? ⟨bX, 4, none⟩ = some (.int .i64 4) := (cell_of_row _ _ _ _ _ _ Xh42.out).trans rfl
    have cX5 : w32.cell? ⟨bX, 5, none⟩ = some (.string ⟨#[]⟩) := (cell_of_row _ _ _ _ _ _ Xh42.out).trans rfl
    have cX6 : w32.cell? ⟨bX, 6, none⟩ = some (.int .i64 e1) := (cell_of_row _ _ _ _ _ _ Xh42.out).trans rfl
    have cX7 : w32.cell? ⟨bX, 7, none⟩ = some (.int .i64 s1) := (cell_of_row _ _ _ _ _ _ Xh42.out).trans rfl
    have cP0 : w32.cell? ⟨bP, 0, none⟩ = some (.int .i64 1) := (cell_of_row _ _ _ _ _ _ Ph42.out).trans rfl
    have cP1 : w32.cell? ⟨bP, 1, none⟩ = some (.int .i64 5) := (cell_of_row _ _ _ _ _ _ Ph42.out).trans rfl
    have cP2 : w32.cell? ⟨bP, 2, none⟩ = some (.int .i64 9) := (cell_of_row _ _ _ _ _ _ Ph42.out).trans rfl
    have cP3 : w32.cell? ⟨bP, 3, none⟩ = some (.int .i64 100) := (cell_of_row _ _ _ _ _ _ Ph42.out).trans rfl
    have cP4 : w32.cell? ⟨bP, 4, none⟩ = some (.int .i64 e2) := (cell_of_row _ _ _ _ _ _ Ph42.out).trans rfl
    have cP5 : w32.cell? ⟨bP, 5, none⟩ = some (.int .i64 s2) := (cell_of_row _ _ _ _ _ _ Ph42.out).trans rfl
    have cQ0 : w32.cell? ⟨bQ, 0, none⟩ = some (.int .i64 1) := (cell_of_row _ _ _ _ _ _ Qh42.out).trans rfl
    have cQ1 : w32.cell? ⟨bQ, 1, none⟩ = some (.int .i64 5) := (cell_of_row _ _ _ _ _ _ Qh42.out).trans rfl
    have cQ2 : w32.cell? ⟨bQ, 2, none⟩ = some (.int .i64 9) := (cell_of_row _ _ _ _ _ _ Qh42.out).trans rfl
    have cQ3 : w32.cell? ⟨bQ, 3, none⟩ = some (.int .i64 100) := (cell_of_row _ _ _ _ _ _ Qh42.out).trans rfl
    have cQ4 : w32.cell? ⟨bQ, 4, none⟩ = some (.int .i64 e2) := (cell_of_row _ _ _ _ _ _ Qh42.out).trans rfl
    have cQ5 : w32.cell? ⟨bQ, 5, none⟩ = some (.int .i64 s2) := (cell_of_row _ _ _ _ _ _ Qh42.out).trans rfl
    have cN0 : w32.cell? ⟨bn, 0, none⟩ = some (.int .i64 1) := (cell_of_row _ _ _ _ _ _ Nh42.out).trans rfl
    have cN1 : w32.cell? ⟨bn, 1, none⟩ = some (.int .i64 6) := (cell_of_row _ _ _ _ _ _ Nh42.out).trans rfl
    have cN2 : w32.cell? ⟨bn, 2, none⟩ = some (.int .i64 0) := (cell_of_row _ _ _ _ _ _ Nh42.out).trans rfl
    have cN3 : w32.cell? ⟨bn, 3, none⟩ = some (.int .i64 0) := (cell_of_row _ _ _ _ _ _ Nh42.out).trans rfl
    have cN4 : w32.cell? ⟨bn, 4, none⟩ = some (.int .i64 0) := (cell_of_row _ _ _ _ _ _ Nh42.out).trans rfl
    have cN5 : w32.cell? ⟨bn, 5, none⟩ = some (.string D) := (cell_of_row _ _ _ _ _ _ Nh42.out).trans rfl
    have cN6 : w32.cell? ⟨bn, 6, none⟩ = some (.int .i64 e3) := (cell_of_row _ _ _ _ _ _ Nh42.out).trans rfl
    have cN7 : w32.cell? ⟨bn, 7, none⟩ = some (.int .i64 s3) := (cell_of_row _ _ _ _ _ _ Nh42.out).trans rfl
    go_wp2_with fail
    refine (HF.out.pver _ (HG.out.below HB42.out HG.out.size) (HM.out.up HB42.out)).mono ?_
    rintro e w33 ⟨rfl, hb⟩
    have HB43 := Lib.hid (HB42.out.trans (hb.mono HB42.out.size))
    have Kh43 := Lib.hid (blk_below Kh42.out hb (blk_lt Kh42.out))
    have Ch43 := Lib.hid (blk_below Ch42.out hb (blk_lt Ch42.out))
    have Xh43 := Lib.hid (blk_below Xh42.out hb (blk_lt Xh42.out))
    have Ph43 := Lib.hid (blk_below Ph42.out hb (blk_lt Ph42.out))
    have Qh43 := Lib.hid (blk_below Qh42.out hb (blk_lt Qh42.out))
    have Nh43 := Lib.hid (blk_below Nh42.out hb (blk_lt Nh42.out))
    clear cK0 cK1 cC0 cC1 cC2 cC3 cC4 cC5 cC6 cC7 cX0 cX1 cX2 cX3 cX4 cX5 cX6 cX7 cP0 cP1 cP2 cP3 cP4 cP5 cQ0 cQ1 cQ2 cQ3 cQ4 cQ5 cN0 cN1 cN2 cN3 cN4 cN5 cN6 cN7
    clear HB42 Kh42 Ch42 Xh42 Ph42 Qh42 Nh42
    clear hb
    have cK0 : w33.cell? ⟨bK, 0, none⟩ = some (.int .i64 k) := (cell_of_row _ _ _ _ _ _ Kh43.out).trans rfl
    have cK1 : w33.cell? ⟨bK, 1, none⟩ = some (.int .i64 p) := (cell_of_row _ _ _ _ _ _ Kh43.out).trans rfl
    have cC0 : w33.cell? ⟨bC, 0, none⟩ = some (.int .i64 1) := (cell_of_row _ _ _ _ _ _ Ch43.out).trans rfl
    have cC1 : w33.cell? ⟨bC, 1, none⟩ = some (.int .i64 5) := (cell_of_row _ _ _ _ _ _ Ch43.out).trans rfl
    have cC2 : w33.cell? ⟨bC, 2, none⟩ = some (.int .i64 7) := (cell_of_row _ _ _ _ _ _ Ch43.out).trans rfl
    have cC3 : w33.cell? ⟨bC, 3, none⟩ = some (.int .i64 3) := (cell_of_row _ _ _ _ _ _ Ch43.out).trans rfl
    have cC4 : w33.cell? ⟨bC, 4, none⟩ = some (.int .i64 4) := (cell_of_row _ _ _ _ _ _ Ch43.out).trans rfl
    have cC5 : w33.cell? ⟨bC, 5, none⟩ = some (.string ⟨#[]⟩) := (cell_of_row _ _ _ _ _ _ Ch43.out).trans rfl
    have cC6 : w33.cell? ⟨bC, 6, none⟩ = some (.int .i64 e1) := (cell_of_row _ _ _ _ _ _ Ch43.out).trans rfl
    have cC7 : w33.cell? ⟨bC, 7, none⟩ = some (.int .i64 s1) := (cell_of_row _ _ _ _ _ _ Ch43.out).trans rfl
    have cX0 : w33.cell? ⟨bX, 0, none⟩ = some (.int .i64 1) := (cell_of_row _ _ _ _ _ _ Xh43.out).trans rfl
    have cX1 : w33.cell? ⟨bX, 1, none⟩ = some (.int .i64 5) := (cell_of_row _ _ _ _ _ _ Xh43.out).trans rfl
    have cX2 : w33.cell? ⟨bX, 2, none⟩ = some (.int .i64 7) := (cell_of_row _ _ _ _ _ _ Xh43.out).trans rfl
    have cX3 : w33.cell? ⟨bX, 3, none⟩ = some (.int .i64 3) := (cell_of_row _ _ _ _ _ _ Xh43.out).trans rfl
    have cX4 : w33.cell? ⟨bX, 4, none⟩ = some (.int .i64 4) := (cell_of_row _ _ _ _ _ _ Xh43.out).trans rfl
    have cX5 : w33.cell? ⟨bX, 5, none⟩ = some (.string ⟨#[]⟩) := (cell_of_row _ _ _ _ _ _ Xh43.out).trans rfl
    have cX6 : w33.cell? ⟨bX, 6, none⟩ = some (.int .i64 e1) := (cell_of_row _ _ _ _ _ _ Xh43.out).trans rfl
    have cX7 : w33.cell? ⟨bX, 7, none⟩ = some (.int .i64 s1) := (cell_of_row _ _ _ _ _ _ Xh43.out).trans rfl
    have cP0 : w33.cell? ⟨bP, 0, none⟩ = some (.int .i64 1) := (cell_of_row _ _ _ _ _ _ Ph43.out).trans rfl
    have cP1 : w33.cell? ⟨bP, 1, none⟩ = some (.int .i64 5) := (cell_of_row _ _ _ _ _ _ Ph43.out).trans rfl
    have cP2 : w33.cell? ⟨bP, 2, none⟩ = some (.int .i64 9) := (cell_of_row _ _ _ _ _ _ Ph43.out).trans rfl
    have cP3 : w33.cell? ⟨bP, 3, none⟩ = some (.int .i64 100) := (cell_of_row _ _ _ _ _ _ Ph43.out).trans rfl
    have cP4 : w33.cell? ⟨bP, 4, none⟩ = some (.int .i64 e2) := (cell_of_row _ _ _ _ _ _ Ph43.out).trans rfl
    have cP5 : w33.cell? ⟨bP, 5, none⟩ = some (.int .i64 s2) := (cell_of_row _ _ _ _ _ _ Ph43.out).trans rfl
    have cQ0 : w33.cell? ⟨bQ, 0, none⟩ = some (.int .i64 1) := (cell_of_row _ _ _ _ _ _ Qh43.out).trans rfl
    have cQ1 : w33.cell? ⟨bQ, 1, none⟩ = some (.int .i64 5) := (cell_of_row _ _ _ _ _ _ Qh43.out).trans rfl
    have cQ2 : w33.cell? ⟨bQ, 2, none⟩ = some (.int .i64 9) := (cell_of_row _ _ _ _ _ _ Qh43.out).trans rfl
    have cQ3 : w33.cell? ⟨bQ, 3, none⟩ = some (.int .i64 100) := (cell_of_row _ _ _ _ _ _ Qh43.out).trans rfl
    have cQ4 : w33.cell? ⟨bQ, 4, none⟩ = some (.int .i64 e2) := (cell_of_row _ _ _ _ _ _ Qh43.out).trans rfl
    have cQ5 : w33.cell? ⟨bQ, 5, none⟩ = some (.int .i64 s2) := (cell_of_row _ _ _ _ _ _ Qh43.out).trans rfl
    have cN0 : w33.cell? ⟨bn, 0, none⟩ = some (.int .i64 1) := (cell_of_row _ _ _ _ _ _ Nh43.out).trans rfl
    have cN1 : w33.cell? ⟨bn, 1, none⟩ = some (.int .i64 6) := (cell_of_row _ _ _ _ _ _ Nh43.out).trans rfl
    have cN2 : w33.cell? ⟨bn, 2, none⟩ = some (.int .i64 0) := (cell_of_row _ _ _ _ _ _ Nh43.out).trans rfl
    have cN3 : w33.cell? ⟨bn, 3, none⟩ = some (.int .i64 0) := (cell_of_row _ _ _ _ _ _ Nh43.out).trans rfl
    have cN4 : w33.cell? ⟨bn, 4, none⟩ = some (.int .i64 0) := (cell_of_row _ _ _ _ _ _ Nh43.out).trans rfl
    have cN5 : w33.cell? ⟨bn, 5, none⟩ = some (.string D) := (cell_of_row _ _ _ _ _ _ Nh43.out).trans rfl
    have cN6 : w33.cell? ⟨bn, 6, none⟩ = some (.int .i64 e3) := (cell_of_row _ _ _ _ _ _ Nh43.out).trans rfl
    have cN7 : w33.cell? ⟨bn, 7, none⟩ = some (.int .i64 s3) := (cell_of_row _ _ _ _ _ _ Nh43.out).trans rfl
    go_wp2_with fail
    go_ret
    exact ⟨rfl, HB43.out⟩
end Go.Proofs.YtepidpegoihllaaGreatDoor

