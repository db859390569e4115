/- The plain laws of the stable sort: exchange of ranges, rotation, merging. -/
import Derived.Sort.LotA
namespace Go.Proofs.Ytleiiedacachjaa.Stab
open Go.Sort
variable {α : Type} [Inhabited α]
theorem at_eq (d : Array α) {x y : Nat} (h : x = y) : d[x]! = d[y]! := by rw [h]
/-- n places at a and at b are exchanged -/
def SwapR (d : Array α) (a b n : Nat) (d' : Array α) : Prop :=
  d'.size = d.size ∧ (∀ i, i < n → d'[a + i]! = d[b + i]!) ∧ (∀ i, i < n → d'[b + i]! = d[a + i]!) ∧ ∀ p, (p < a ∨ a + n ≤ p) → (p < b ∨ b + n ≤ p) → d'[p]! = d[p]!
theorem swapR_zero (d : Array α) (a b : Nat) : SwapR d a b 0 d := ⟨rfl, fun _ h => absurd h (Nat.not_lt_zero _), fun _ h => absurd h (Nat.not_lt_zero _), fun _ _ _ => rfl⟩
theorem swapR_step {d d' : Array α} {a b n : Nat} (h : SwapR d a b n d') (hab : a + n < b) (hb : b + n < d.size) : SwapR d a b (n + 1) (swp d' (a + n) (b + n)) := by
  obtain ⟨h0, h1, h2, h3⟩ := h
  have hg := swp_get d' (i := a + n) (j := b + n) (by omega) (by omega)
  refine ⟨by rw [swp_size, h0], fun i hi => ?_, fun i hi => ?_, fun p hp hq => ?_⟩
  · rw [hg]
    by_cases e : i = n
    · subst e; rw [if_neg (by omega), if_pos rfl, h3 _ (by omega) (by omega)]
    · rw [if_neg (by omega), if_neg (by omega), h1 _ (by omega)]
  · rw [hg]
    by_cases e : i = n
    · subst e; rw [if_pos rfl, h3 _ (by omega) (by omega)]
    · rw [if_neg (by omega), if_neg (by omega), h2 _ (by omega)]
  · rw [hg, if_neg (by omega), if_neg (by omega), h3 _ (by omega) (by omega)]
/-- the blocks of p and q places at s have changed places -/
def Rot (d : Array α) (s p q : Nat) (d' : Array α) : Prop :=
  d'.size = d.size ∧ (∀ i, i < q → d'[s + i]! = d[s + p + i]!) ∧ (∀ i, i < p → d'[s + q + i]! = d[s + i]!) ∧ ∀ x, (x < s ∨ s + p + q ≤ x) → d'[x]! = d[x]!
theorem rot_gt {d d1 d2 : Array α} {s i j : Nat} (hij : j < i) (h : SwapR d s (s + i) j d1) (h2 : Rot d1 (s + j) (i - j) j d2) : Rot d s i j d2 := by
  obtain ⟨a0, a1, a2, a3⟩ := h
  obtain ⟨b0, b1, b2, b3⟩ := h2
  refine ⟨b0.trans a0, fun x hx => ?_, fun y hy => ?_, fun x hx => ?_⟩
  · rw [b3 _ (by omega), a1 _ hx]
  · by_cases e : y < j
    · rw [b1 _ e, at_eq d1 (show s + j + (i - j) + y = s + i + y by omega), a2 _ e]
    · rw [at_eq d2 (show s + j + y = s + j + j + (y - j) by omega), b2 _ (by omega), at_eq d1 (show s + j + (y - j) = s + y by omega), a3 _ (by omega) (by omega)]
  · rw [b3 _ (by omega), a3 _ (by omega) (by omega)]
theorem rot_lt {d d1 d2 : Array α} {s i j : Nat} (hij : i < j) (h : SwapR d s (s + j) i d1) (h2 : Rot d1 s i (j - i) d2) : Rot d s i j d2 := by
  obtain ⟨a0, a1, a2, a3⟩ := h
  obtain ⟨b0, b1, b2, b3⟩ := h2
  refine ⟨b0.trans a0, fun x hx => ?_, fun y hy => ?_, fun x hx => ?_⟩
  · by_cases e : x < j - i
    · rw [b1 _ e, a3 _ (by omega) (by omega)]
    · rw [at_eq d2 (show s + x = s + (j - i) + (x - (j - i)) by omega), b2 _ (by omega), a1 _ (by omega)]
      exact at_eq d (by omega)
  · rw [b3 _ (by omega), a2 _ hy]
  · rw [b3 _ (by omega), a3 _ (by omega) (by omega)]
theorem rot_same {d d1 : Array α} {s i : Nat} (h : SwapR d s (s + i) i d1) : Rot d s i i d1 := by
  obtain ⟨a0, a1, a2, a3⟩ := h
  exact ⟨a0, a1, a2, fun x hx => a3 x (by omega) (by omega)⟩
theorem rot_left (d : Array α) (s q : Nat) : Rot d s 0 q d := ⟨rfl, fun i _ => at_eq d (by omega), fun i h => absurd h (Nat.not_lt_zero _), fun _ _ => rfl⟩
theorem rot_right (d : Array α) (s p : Nat) : Rot d s p 0 d := ⟨rfl, fun i h => absurd h (Nat.not_lt_zero _), fun i _ => at_eq d (by omega), fun _ _ => rfl⟩
theorem rot_up {d d' : Array α} {a q : Nat} (h : Rot d a 1 q d') (hs : a + q + 1 < d.size) : Rot d a 1 (q + 1) (swp d' (a + q) (a + q + 1)) := by
  obtain ⟨a0, a1, a2, a3⟩ := h
  have hg := swp_get d' (i := a + q) (j := a + q + 1) (by omega) (by omega)
  refine ⟨by rw [swp_size, a0], fun x hx => ?_, fun y hy => ?_, fun x hx => ?_⟩
  · rw [hg]
    by_cases e : x = q
    · subst e; rw [if_neg (by omega), if_pos rfl, a3 _ (by omega)]; exact at_eq d (by omega)
    · rw [if_neg (by omega), if_neg (by omega), a1 _ (by omega)]
  · obtain rfl : y = 0 := by omega
    rw [hg, if_pos (by omega)]
    exact a2 0 (by omega)
  · rw [hg, if_neg (by omega), if_neg (by omega), a3 _ (by omega)]
theorem rot_down {d d' : Array α} {k p : Nat} (h : Rot d (k + 1) p 1 d') (hs : k + 1 + p < d.size) : Rot d k (p + 1) 1 (swp d' (k + 1) k) := by
  obtain ⟨a0, a1, a2, a3⟩ := h
  have hg := swp_get d' (i := k + 1) (j := k) (by omega) (by omega)
  refine ⟨by rw [swp_size, a0], fun x hx => ?_, fun y hy => ?_, fun x hx => ?_⟩
  · obtain rfl : x = 0 := by omega
    rw [hg, if_pos (by omega), a1 0 (by omega)]
    exact at_eq d (by omega)
  · rw [hg]
    by_cases e : y = 0
    · subst e; rw [if_neg (by omega), if_pos (by omega), a3 _ (by omega)]; exact at_eq d (by omega)
    · rw [if_neg (by omega), if_neg (by omega), at_eq d' (show k + 1 + y = k + 1 + 1 + (y - 1) by omega), a2 _ (by omega)]
      exact at_eq d (by omega)
  · rw [hg, if_neg (by omega), if_neg (by omega), a3 _ (by omega)]
variable {lt : α → α → Bool}
theorem sorted_le (hO : SWO lt) {a b : Nat} {d : Array α} (h : SortedIn lt a b d) {i j : Nat} (ha : a ≤ i) (hij : i ≤ j) (hj : j < b) : lt d[j]! d[i]! = false := by
  rcases Nat.lt_or_eq_of_le hij with h1 | rfl
  · exact h i j ha h1 hj
  · exact hO.irrefl _
/-- where each place of a rotated part came from -/
theorem rot_from {d d1 : Array α} {s p q : Nat} (h : Rot d s p q d1) (x : Nat) : d1[x]! = d[if x < s then x else if x < s + q then x + p else if x < s + q + p then x - q else x]! := by
  obtain ⟨a0, a1, a2, a3⟩ := h
  split
  · exact a3 _ (by omega)
  · split
    · rw [at_eq d1 (show x = s + (x - s) by omega), a1 _ (by omega)]
      exact at_eq d (by omega)
    · split
      · rw [at_eq d1 (show x = s + q + (x - (s + q)) by omega), a2 _ (by omega)]
        exact at_eq d (by omega)
      · exact a3 _ (by omega)
/-- the first one alone goes to its place -/
theorem ins_first (hO : SWO lt) {d d1 : Array α} {a b i : Nat} (hi : a + 1 ≤ i) (hib : i ≤ b) (hB : SortedIn lt (a + 1) b d) (h1 : i = a + 1 ∨ lt d[i - 1]! d[a]! = true) (h2 : i = b ∨ lt d[i]! d[a]! = false) (hR : Rot d a 1 (i - (a + 1)) d1) : SortedIn lt a b d1 := by
  intro x y hx hxy hy
  have lo : ∀ z, a + 1 ≤ z → z < i → lt d[a]! d[z]! = false := fun z hz hzi => by
    rcases h1 with h1 | h1
    · omega
    · exact hO.ntrans _ _ _ (hO.asymmA h1) (sorted_le hO hB hz (by omega) (by omega))
  have hi2 : ∀ z, i ≤ z → z < b → lt d[z]! d[a]! = false := fun z hz hzb => by
    rcases h2 with h2 | h2
    · omega
    · exact hO.ntrans _ _ _ (sorted_le hO hB hi hz hzb) h2
  have f := rot_from hR
  have f0 : ∀ z, a ≤ z → z < i - 1 → d1[z]! = d[z + 1]! := fun z h h' => by rw [f, if_neg (by omega), if_pos (by omega)]
  have f1 : ∀ z, z = i - 1 → d1[z]! = d[a]! := fun z h => by rw [f, if_neg (by omega), if_neg (by omega), if_pos (by omega)]; exact at_eq d (by omega)
  have f2 : ∀ z, i ≤ z → d1[z]! = d[z]! := fun z h => by rw [f, if_neg (by omega), if_neg (by omega), if_neg (by omega)]
  by_cases c1 : y < i - 1
  · rw [f0 y (by omega) c1, f0 x hx (by omega)]; exact hB _ _ (by omega) (by omega) (by omega)
  · by_cases c2 : y = i - 1
    · rw [f1 y c2, f0 x hx (by omega)]; exact lo _ (by omega) (by omega)
    · rw [f2 y (by omega)]
      by_cases c3 : x < i - 1
      · rw [f0 x hx c3]; exact sorted_le hO hB (by omega) (by omega) hy
      · by_cases c4 : x = i - 1
        · rw [f1 x c4]; exact hi2 _ (by omega) hy
        · rw [f2 x (by omega)]; exact hB _ _ (by omega) hxy hy
/-- the last one alone goes to its place -/
theorem ins_last (hO : SWO lt) {d d1 : Array α} {a m i : Nat} (hi : a ≤ i) (him : i ≤ m) (hA : SortedIn lt a m d) (h1 : i = a ∨ lt d[m]! d[i - 1]! = false) (h2 : i = m ∨ lt d[m]! d[i]! = true) (hR : Rot d i (m - i) 1 d1) : SortedIn lt a (m + 1) d1 := by
  intro x y hx hxy hy
  have lo : ∀ z, a ≤ z → z < i → lt d[m]! d[z]! = false := fun z hz hzi => by
    rcases h1 with h1 | h1
    · omega
    · exact hO.ntrans _ _ _ h1 (sorted_le hO hA hz (by omega) (by omega))
  have hi2 : ∀ z, i ≤ z → z < m → lt d[z]! d[m]! = false := fun z hz hzb => by
    rcases h2 with h2 | h2
    · omega
    · exact hO.ntrans _ _ _ (sorted_le hO hA hi hz hzb) (hO.asymmA h2)
  have f := rot_from hR
  have f0 : ∀ z, z < i → d1[z]! = d[z]! := fun z h => by rw [f, if_pos h]
  have f1 : ∀ z, z = i → d1[z]! = d[m]! := fun z h => by rw [f, if_neg (by omega), if_pos (by omega)]; exact at_eq d (by omega)
  have f2 : ∀ z, i < z → z < m + 1 → d1[z]! = d[z - 1]! := fun z h h' => by rw [f, if_neg (by omega), if_neg (by omega), if_pos (by omega)]
  by_cases c1 : y < i
  · rw [f0 y c1, f0 x (by omega)]; exact hA _ _ hx hxy (by omega)
  · by_cases c2 : y = i
    · rw [f1 y c2, f0 x (by omega)]; exact lo _ hx (by omega)
    · rw [f2 y (by omega) hy]
      by_cases c3 : x < i
      · rw [f0 x c3]; exact sorted_le hO hA hx (by omega) (by omega)
      · by_cases c4 : x = i
        · rw [f1 x c4]; exact hi2 _ (by omega) (by omega)
        · rw [f2 x (by omega) (by omega)]; exact hA _ _ (by omega) (by omega) (by omega)
/-- what the symmetric search has found: the parts are exchanged, and the halves are apart -/
structure Halves (lt : α → α → Bool) (a st mid en b : Nat) (d : Array α) : Prop where
  s1 : SortedIn lt a st d
  s2 : SortedIn lt st mid d
  s3 : SortedIn lt mid en d
  s4 : SortedIn lt en b d
  cross : ∀ x y, a ≤ x → x < mid → mid ≤ y → y < b → lt d[y]! d[x]! = false
theorem halves_of (hO : SWO lt) {d d1 : Array α} {a st m en b mid : Nat} (h1 : a ≤ st) (h2 : st ≤ m) (h3 : m ≤ en) (h4 : en ≤ b) (hm : st + en = mid + m) (hA : SortedIn lt a m d) (hB : SortedIn lt m b d)
    (c1 : st = a ∨ en = b ∨ lt d[en]! d[st - 1]! = false) (c2 : st = m ∨ en = m ∨ lt d[en - 1]! d[st]! = true) (hR : Rot d st (m - st) (en - m) d1) : Halves lt a st mid en b d1 := by
  have f := rot_from hR
  have f1 : ∀ x, x < st → d1[x]! = d[x]! := fun x hx => by rw [f, if_pos hx]
  have f2 : ∀ x, st ≤ x → x < mid → d1[x]! = d[x + (m - st)]! := fun x h h' => by rw [f, if_neg (by omega), if_pos (by omega)]
  have f3 : ∀ x, mid ≤ x → x < en → d1[x]! = d[x - (en - m)]! := fun x h h' => by rw [f, if_neg (by omega), if_neg (by omega), if_pos (by omega)]
  have f4 : ∀ x, en ≤ x → d1[x]! = d[x]! := fun x h => by rw [f, if_neg (by omega), if_neg (by omega), if_neg (by omega)]
  refine ⟨fun i j hi hij hj => ?_, fun i j hi hij hj => ?_, fun i j hi hij hj => ?_, fun i j hi hij hj => ?_, fun x y hx hxm hy hyb => ?_⟩
  · rw [f1 j hj, f1 i (by omega)]; exact hA _ _ hi hij (by omega)
  · rw [f2 j (by omega) hj, f2 i hi (by omega)]; exact hB _ _ (by omega) (by omega) (by omega)
  · rw [f3 j (by omega) hj, f3 i hi (by omega)]; exact hA _ _ (by omega) (by omega) (by omega)
  · rw [f4 j (by omega), f4 i hi]; exact hB _ _ (by omega) hij hj
  · by_cases e1 : x < st
    · rw [f1 _ e1]
      by_cases e2 : y < en
      · rw [f3 _ hy e2]; exact sorted_le hO hA hx (by omega) (by omega)
      · rw [f4 _ (by omega)]
        rcases c1 with c | c | c
        · omega
        · omega
        · exact hO.ntrans _ _ _ (hO.ntrans _ _ _ (sorted_le hO hB h3 (by omega) hyb) c) (sorted_le hO hA hx (by omega) (by omega))
    · rw [f2 _ (by omega) hxm]
      by_cases e2 : y < en
      · rw [f3 _ hy e2]
        rcases c2 with c | c | c
        · omega
        · omega
        · exact hO.ntrans _ _ _ (hO.ntrans _ _ _ (sorted_le hO hA h1 (by omega) (by omega)) (hO.asymmA c)) (sorted_le hO hB (by omega) (by omega) (by omega))
      · rw [f4 _ (by omega)]; exact sorted_le hO hB (by omega) (by omega) hyb
theorem permIn_sorted_out {a b a' b' : Nat} {d d' : Array α} (hP : PermIn a b d d') (h : SortedIn lt a' b' d) (hd : b' ≤ a ∨ b ≤ a') : SortedIn lt a' b' d' := fun i j hi hij hj => by
  rw [hP.2.1 _ (by omega), hP.2.1 _ (by omega)]
  exact h i j hi hij hj
/-- both halves sorted: the whole is -/
theorem halves_done {a mid b : Nat} {d d2 d3 : Array α} (hm : mid ≤ b) (hb : b ≤ d.size) (hc : ∀ x y, a ≤ x → x < mid → mid ≤ y → y < b → lt d[y]! d[x]! = false)
    (p2 : PermIn a mid d d2) (s2 : SortedIn lt a mid d2) (p3 : PermIn mid b d2 d3) (s3 : SortedIn lt mid b d3) : SortedIn lt a b d3 := by
  have e2 := p2.1
  have c2 : ∀ x, a ≤ x → x < mid → ∀ y, mid ≤ y → y < b → lt d2[y]! d2[x]! = false := by
    refine permIn_all d d2 a mid (fun v => ∀ y, mid ≤ y → y < b → lt d2[y]! v = false) (by omega) p2 (fun x hx hxm y hy hyb => ?_)
    rw [p2.2.1 _ (by omega)]
    exact hc x y hx hxm hy hyb
  have c3 : ∀ y, mid ≤ y → y < b → ∀ x, a ≤ x → x < mid → lt d3[y]! d3[x]! = false := by
    refine permIn_all d2 d3 mid b (fun v => ∀ x, a ≤ x → x < mid → lt v d3[x]! = false) (by omega) p3 (fun y hy hyb x hx hxm => ?_)
    rw [p3.2.1 x (by omega)]
    exact c2 x hx hxm y hy hyb
  have s2' := permIn_sorted_out p3 s2 (Or.inl (Nat.le_refl _))
  intro i j hi hij hj
  by_cases e1 : j < mid
  · exact s2' i j hi hij e1
  · by_cases e2 : i < mid
    · exact c3 j (by omega) hj i hi e2
    · exact s3 i j (by omega) hij hj
end Go.Proofs.Ytleiiedacachjaa.Stab
