/- slices.stableCmpFunc at most forty elements: a sorted permutation. -/
import Derived.Test.YtleiiedacachjaaTSym
namespace Go.Proofs.Ytleiiedacachjaa
open Go.Shelf Go.RowKit Go.Lib Go.Sort Stab
set_option maxHeartbeats 16000000 in
set_option maxRecDepth 1000000 in
theorem stable_any {P : Program} {α : Type} [Inhabited α] (L : StabLays P) (k : Nat) (zE : ∀ w, (Go.sizeOf 66).run P w = .ok k w) (enc : α → List Value) (cf : α → α → Int) (hO : SWO (ltOf cf)) (g : Nat) (cb : Array Value) (blk off cap : Nat) (d0 : Array α) (w0 : World)
    (eg : ∀ args w, (callFunc g args).run P w = .ok (.enter g args) w) (hcmp : CmpLays P g cb enc k cf blk off d0.size w0) (R : RowK enc k w0 blk off d0)
    (F5 : P.funcs[52]? = some Try.f52) (E4 : ∀ (args : Array Value) (w : World), (callFunc 60 args).run P w = .ok (.enter 60 args) w)
    (hins : ∀ (a b : Nat) (d : Array α) (w : World), d0.size = d.size → SWK enc k w0 blk off d w → a ≤ b → b ≤ d.size → Calls P 60 #[.slice (some ⟨blk, off, none⟩) d.size cap, .int .i64 a, .int .i64 b, .func (.func g) #[] cb] w fun e w' => e = .returned (.tuple #[]) ∧ SWK enc k w0 blk off (Sort.insertionSort (ltOf cf) d a b) w')
    (d : Array α) (w : World) (hs : d0.size = d.size) (S : SWK enc k w0 blk off d w) (h40 : d.size ≤ 40) :
    Calls P 52 #[.slice (some ⟨blk, off, none⟩) d.size cap, .int .i64 d.size, .func (.func g) #[] cb] w fun e w' => e = .returned (.tuple #[]) ∧ ∃ d', PermIn 0 d.size d d' ∧ SortedIn (ltOf cf) 0 d.size d' ∧ SWK enc k w0 blk off d' w' := by
  have mixed := L.mixed; have tI := L.tI; have aI := L.aI; have zI := L.zI; have vI := L.vI; have tB := L.tB; have aB := L.aB; have zB := L.zB; have vB := L.vB; have tU := L.tU; have aU := L.aU; have zU := L.zU; have vU := L.vU; have tS := L.tS; have aS := L.aS; have zS := L.zS; have vS := L.vS; have tF := L.tF; have aF := L.aF; have zF := L.zF; have vF := L.vF; have tN := L.tN; have aE := L.aE
  have uS := run_underlying L.tS; have uI := run_underlying L.tI; have uU := run_underlying L.tU
  have E3 : ∀ (args : Array Value) (w : World), (callFunc 61 args).run P w = .ok (.enter 61 args) w := enters_of L.f3 (by kernel_rfl) rfl
  have S0 : Aside (SWK enc k w0 blk off d w) := S
  have HI : Aside _ := hins
  have HSY : Aside _ := sym_any L k zE enc cf hO g cb blk off cap d0 w0 eg hcmp R (by omega) 40
  obtain ⟨n, hn⟩ : ∃ n, n = d.size := ⟨_, rfl⟩
  clear S hins hcmp
  rw [← hn] at h40 ⊢
  have hn1 : n ≤ d.size := by omega
  have hn2 : d.size ≤ n := by omega
  have HN : Aside (n = d.size) := hn
  clear hn
  go_enter F5, Try.ntmps52
  go_wp2
  go_loopg [7, 8] 4 (fun kx s7 s8 wr => ∃ (a b : Nat) (dk : Array α), s7 = .int .i64 a ∧ s8 = .int .i64 b ∧ b ≤ a + 20 ∧ a + 20 ≤ b ∧ a ≤ n ∧ (a = 0 ∨ a = 20 ∨ a = 40) ∧ 60 - a ≤ 20 * kx ∧ PermIn 0 n d dk ∧ (20 ≤ a → SortedIn (ltOf cf) 0 20 dk) ∧ (40 ≤ a → SortedIn (ltOf cf) 20 40 dk) ∧ Aside (SWK enc k w0 blk off dk wr))
  case atStart => exact ⟨0, 20, d, rfl, rfl, by omega, by omega, by omega, Or.inl rfl, by omega, permIn_refl _ _ _, fun h => absurd h (by omega), fun h => absurd h (by omega), S0⟩
  case round =>
    clear S0
    obtain ⟨a, b, dk, rfl, rfl, b1, b2, han, ha3, hkx, hP, q1, q2, S1⟩ := hrel
    have HP : Aside (PermIn 0 n d dk) := hP
    have hdk : dk.size = d.size := hP.1
    have Q1 : Aside (20 ≤ a → SortedIn (ltOf cf) 0 20 dk) := q1
    have Q2 : Aside (40 ≤ a → SortedIn (ltOf cf) 20 40 dk) := q2
    have HA : Aside (a = 0 ∨ a = 20 ∨ a = 40) := ha3
    clear hP q1 q2 ha3
    by_cases hlt : b ≤ n
    · have hltz : (b : Int) ≤ (n : Int) := by omega
      have hi := HI.out a b dk wr (by omega) S1.out (by omega) (by omega)
      rw [hdk] at hi
      rw [← HN.out] at hi
      have hsp := insertionSort_holds hO dk a b (by omega) (by omega)
      have HSP : Aside _ := hsp
      clear hsp
      have wb : IntKind.i64.wrap ((b : Int) + 20) = (b : Int) + 20 := by rw [IntKind.wrap_i64]; omega
      clear S1
      go_wp2_with (go_at_fn 60; refine hi.mono ?_; rintro e w2 ⟨rfl, hS2⟩)
      go_roundg (gk - 1)
      case measure => omega
      case rel =>
        have P2 := HSP.out.1
        exact ⟨b, b + 20, _, rfl, by first | rfl | go_num | (congr 1; omega), Nat.le_refl _, Nat.le_refl _, hlt, by have := HA.out; omega, by have := HA.out; omega, permIn_trans _ _ _ _ _ HP.out (permIn_mono _ _ _ _ _ _ (Nat.zero_le _) hlt (by omega) P2),
          fun _ => (by
            rcases HA.out with h | h | h
            · have := HSP.out.2; rw [h, show b = 20 by omega] at this; rw [h, show b = 20 by omega]; exact this
            · exact permIn_sorted_out P2 (Q1.out (by omega)) (Or.inl (by omega))
            · omega),
          fun h40 => (by
            have := HSP.out.2; rw [show a = 20 by omega, show b = 40 by omega] at this; rw [show a = 20 by omega, show b = 40 by omega]; exact this), hS2⟩
    · have hltz : ¬ (b : Int) ≤ (n : Int) := by omega
      have hi := HI.out a n dk wr (by omega) S1.out (by omega) (by omega)
      rw [hdk] at hi
      rw [← HN.out] at hi
      have hsp := insertionSort_holds hO dk a n (by omega) (by omega)
      have HSP : Aside _ := hsp
      clear hsp S1
      go_wp2_with (go_at_fn 60; refine hi.mono ?_; rintro e w2 ⟨rfl, hS2⟩)
      have S2 : Aside (SWK enc k w0 blk off (insertionSort (ltOf cf) dk a n) w2) := hS2
      have HF : Aside (PermIn 0 n d (insertionSort (ltOf cf) dk a n) ∧ SortedIn (ltOf cf) 0 (min 20 n) (insertionSort (ltOf cf) dk a n) ∧ SortedIn (ltOf cf) 20 n (insertionSort (ltOf cf) dk a n)) := by
        have P2 := HSP.out.1
        have T2 := HSP.out.2
        refine ⟨permIn_trans _ _ _ _ _ HP.out (permIn_mono _ _ _ _ _ _ (Nat.zero_le _) (Nat.le_refl _) (by omega) P2), ?_, ?_⟩
        · rcases HA.out with h | h | h
          · rw [h] at T2; rw [h, show min 20 n = n by omega]; exact T2
          · rw [show min 20 n = 20 by omega]; exact permIn_sorted_out P2 (Q1.out (by omega)) (Or.inl (by omega))
          · rw [show min 20 n = 20 by omega]; exact permIn_sorted_out P2 (Q1.out (by omega)) (Or.inl (by omega))
        · rcases HA.out with h | h | h
          · intro i j hi hij hj; omega
          · rw [h] at T2; rw [h]; exact T2
          · rw [show n = 40 by omega]
            have := permIn_sorted_out P2 (Q2.out (by omega)) (Or.inl (by omega))
            rw [show n = 40 by omega] at this
            exact this
      clear hS2 HSP Q1 Q2 HP
      generalize insertionSort (ltOf cf) dk a n = d2 at S2 HF
      clear hdk hi HA
      go_loopg [6, 7, 8, 9] 3 (fun kx s6 s7 s8 s9 wr => ∃ (s : Nat) (dk : Array α), s6 = .int .i64 s ∧ (s = 20 ∨ s = 40) ∧ 60 - s ≤ 20 * kx ∧ PermIn 0 n d dk ∧ (s = 20 → SortedIn (ltOf cf) 0 (min 20 n) dk ∧ SortedIn (ltOf cf) 20 n dk) ∧ (s = 40 → SortedIn (ltOf cf) 0 n dk) ∧ Aside (SWK enc k w0 blk off dk wr))
      case atStart => exact ⟨20, d2, rfl, Or.inl rfl, by omega, HF.out.1, fun _ => HF.out.2, fun h => absurd h (by omega), S2⟩
      case round =>
        clear S2 HF
        obtain ⟨s, dj, rfl, hs2, hkx2, hP, q1, q2, S3⟩ := hrel
        obtain ⟨g2, hg2⟩ : ∃ g2, g2 = gk := ⟨_, rfl⟩
        have HP : Aside (PermIn 0 n d dj) := hP
        have hdj : dj.size = d.size := hP.1
        have Q1 : Aside (s = 20 → SortedIn (ltOf cf) 0 (min 20 n) dj ∧ SortedIn (ltOf cf) 20 n dj) := q1
        have Q2 : Aside (s = 40 → SortedIn (ltOf cf) 0 n dj) := q2
        have HA : Aside (s = 20 ∨ s = 40) := hs2
        clear hP q1 q2
        by_cases hsn : s < n
        · have hsnz : (s : Int) < (n : Int) := by omega
          obtain rfl : s = 20 := by omega
          have m2 : IntKind.i64.wrap ((2 : Int) * ((20 : Nat) : Int)) = 40 := by decide
          go_wp2
          go_loopg [7, 8] 2 (fun kx s7 s8 wr => ∃ (a b : Nat) (dk : Array α), s7 = .int .i64 a ∧ s8 = .int .i64 b ∧ b ≤ a + 40 ∧ a + 40 ≤ b ∧ (a = 0 ∨ (a = 40 ∧ n = 40)) ∧ 41 - a ≤ 40 * kx ∧ PermIn 0 n d dk ∧ (a = 0 → SortedIn (ltOf cf) 0 20 dk ∧ SortedIn (ltOf cf) 20 n dk) ∧ (a = 40 → SortedIn (ltOf cf) 0 n dk) ∧ Aside (SWK enc k w0 blk off dk wr))
          case atStart => exact ⟨0, 40, dj, rfl, by first | rfl | go_num | (congr 1), by omega, by omega, Or.inl rfl, by omega, HP.out, fun _ => (by have := Q1.out (by first | rfl | trivial); rw [show min 20 n = 20 by omega] at this; exact this), fun h => absurd h (by omega), S3⟩
          case round =>
            clear S3
            obtain ⟨a, b, dk, rfl, rfl, b1, b2, ha2, hkx3, hP2, q1, q2, S4⟩ := hrel
            have HP2 : Aside (PermIn 0 n d dk) := hP2
            have hdk : dk.size = d.size := hP2.1
            have Q3 : Aside (a = 0 → SortedIn (ltOf cf) 0 20 dk ∧ SortedIn (ltOf cf) 20 n dk) := q1
            have Q4 : Aside (a = 40 → SortedIn (ltOf cf) 0 n dk) := q2
            clear hP2 q1 q2
            by_cases hbn : b ≤ n
            · have hbnz : (b : Int) ≤ (n : Int) := by omega
              obtain rfl : a = 0 := by omega
              obtain rfl : b = 40 := by omega
              have hsy := HSY.out 0 20 40 dk wr (by omega) (by omega) S4.out (by omega) (by omega) (by omega)
              rw [hdk, ← HN.out] at hsy
              have HS : Aside (SortedIn (ltOf cf) 0 20 dk ∧ SortedIn (ltOf cf) 20 40 dk) := by
                have := Q3.out (by first | rfl | trivial)
                rw [show n = 40 by omega] at this
                exact this
              clear S4
              go_wp2_with (go_at_fn 61; refine hsy.mono ?_; rintro e w5 ⟨rfl, d5, hP5, hM5, hS5⟩)
              go_roundg (gk - 1)
              case measure => omega
              case rel => exact ⟨40, 80, d5, rfl, by first | rfl | go_num | (congr 1), by omega, by omega, Or.inr ⟨rfl, by omega⟩, by omega, permIn_trans _ _ _ _ _ HP2.out (permIn_mono _ _ _ _ _ _ (Nat.le_refl _) hbn (by omega) hP5), fun h => absurd h (by omega), fun _ => (by rw [show n = 40 by omega]; exact hM5 HS.out.1 HS.out.2), hS5⟩
            · have hbnz : ¬ (b : Int) ≤ (n : Int) := by omega
              have wa : IntKind.i64.wrap ((a : Int) + 20) = (a : Int) + 20 := by rw [IntKind.wrap_i64]; omega
              by_cases hz : a = 0
              · subst hz
                have hmz : (20 : Int) < (n : Int) := by omega
                have hsy := HSY.out 0 20 n dk wr (by omega) (by omega) S4.out (by omega) (by omega) (by omega)
                rw [hdk, ← HN.out] at hsy
                have HS := Q3
                clear S4 Q3 Q4
                go_wp2_with (go_at_fn 61; refine hsy.mono ?_; rintro e w5 ⟨rfl, d5, hP5, hM5, hS5⟩)
                go_roundg (g2 - 1)
                case measure => omega
                case rel => exact ⟨40, d5, by first | rfl | go_num | (congr 1), Or.inr rfl, by omega, permIn_trans _ _ _ _ _ HP2.out hP5, fun h => absurd h (by omega), fun _ => hM5 (HS.out (by first | rfl | trivial)).1 (HS.out (by first | rfl | trivial)).2, hS5⟩
              · obtain rfl : a = 40 := by omega
                have hmz : ¬ (60 : Int) < (n : Int) := by omega
                go_wp2
                go_roundg (g2 - 1)
                case measure => omega
                case rel => exact ⟨40, dk, by first | rfl | go_num | (congr 1), Or.inr rfl, by omega, HP2.out, fun h => absurd h (by omega), fun _ => Q4.out (by first | rfl | trivial), S4⟩
        · have hsnz : ¬ (s : Int) < (n : Int) := by omega
          go_wp2
          go_end0
          refine ⟨rfl, dj, HP.out, ?_, S3.out⟩
          rcases HA.out with h | h
          · have := (Q1.out h).1
            rw [show min 20 n = n by omega] at this
            exact this
          · exact Q2.out h
end Go.Proofs.Ytleiiedacachjaa
