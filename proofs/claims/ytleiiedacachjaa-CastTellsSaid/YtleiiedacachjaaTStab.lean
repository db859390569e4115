/- The stable sort of a slice: swapRange, rotate, symMerge, stable. -/
import Derived.Test.YtleiiedacachjaaBase
import Derived.Test.YtleiiedacachjaaTLaw
import Derived.Shelf.SlSortCmp.KitK
import Derived.Sort.WalkB2
import Derived.Sort.WalkB12
import Derived.Deep.LoopGhost
namespace Go.Proofs.Ytleiiedacachjaa
open Go.Shelf Go.RowKit Go.Lib Go.Sort Stab
/-- what the walks want of the program -/
structure StabLays (P : Program) : Prop where
  mixed : P.follows .mixedOrders = true
  tI : P.underlying 3 = some (TypeDesc.int IntKind.i64)
  aI : ∀ w, (isAgg 3).run P w = .ok false w
  zI : ∀ w, (Go.sizeOf 3).run P w = .ok 1 w
  vI : ∀ w, (zeroValue 3).run P w = .ok (Value.int IntKind.i64 0) w
  tU : P.underlying 102 = some (TypeDesc.int IntKind.u64)
  aU : ∀ w, (isAgg 102).run P w = .ok false w
  zU : ∀ w, (Go.sizeOf 102).run P w = .ok 1 w
  vU : ∀ w, (zeroValue 102).run P w = .ok (Value.int IntKind.u64 0) w
  tB : P.underlying 4 = some (TypeDesc.bool)
  aB : ∀ w, (isAgg 4).run P w = .ok false w
  zB : ∀ w, (Go.sizeOf 4).run P w = .ok 1 w
  vB : ∀ w, (zeroValue 4).run P w = .ok (Value.bool false) w
  tS : P.underlying 87 = some (TypeDesc.slice 66)
  aS : ∀ w, (isAgg 87).run P w = .ok false w
  zS : ∀ w, (Go.sizeOf 87).run P w = .ok 1 w
  vS : ∀ w, (zeroValue 87).run P w = .ok (Value.slice none 0 0) w
  tF : P.underlying 90 = some (TypeDesc.func #[66, 66] #[3] false)
  aF : ∀ w, (isAgg 90).run P w = .ok false w
  zF : ∀ w, (Go.sizeOf 90).run P w = .ok 1 w
  vF : ∀ w, (zeroValue 90).run P w = .ok (Value.nilFunc) w
  aE : ∀ w, (isAgg 66).run P w = .ok true w
  tN : True
  f1 : P.funcs[81]? = some Try.f81
  f2 : P.funcs[74]? = some Try.f74
  f3 : P.funcs[61]? = some Try.f61
set_option maxHeartbeats 4000000 in
set_option maxRecDepth 1000000 in
theorem swapRange_any {P : Program} {α : Type} [Inhabited α] (L : StabLays P) (k : Nat) (zE : ∀ w, (Go.sizeOf 66).run P w = .ok k w) (enc : α → List Value) (g : Nat) (cb : Array Value) (blk off cap a b n : Nat) (d0 d : Array α) (w0 w : World)
    (R : RowK enc k w0 blk off d0) (hs : d0.size = d.size) (S : SWK enc k w0 blk off d w) (hab : a + n ≤ b) (hb : b + n ≤ d.size) (hsz : d.size < 4611686018427387904) :
    Calls P 81 #[.slice (some ⟨blk, off, none⟩) d.size cap, .int .i64 a, .int .i64 b, .int .i64 n, .func (.func g) #[] cb] w fun e w' => e = .returned (.tuple #[]) ∧ ∃ d', SwapR d a b n d' ∧ (∀ lo hi, lo ≤ a → b + n ≤ hi → hi ≤ d.size → PermIn lo hi d d') ∧ SWK enc k w0 blk off d' w' := by
  have mixed := L.mixed; have tI := L.tI; have aI := L.aI; have zI := L.zI; have vI := L.vI; have tB := L.tB; have aB := L.aB; have zB := L.zB; have vB := L.vB; have tU := L.tU; have aU := L.aU; have zU := L.zU; have vU := L.vU; have tS := L.tS; have aS := L.aS; have zS := L.zS; have vS := L.vS; have tF := L.tF; have aF := L.aF; have zF := L.zF; have vF := L.vF; have tN := L.tN; have aE := L.aE
  have uS := run_underlying L.tS; have uI := run_underlying L.tI; have uU := run_underlying L.tU
  have S0 : Aside (SWK enc k w0 blk off d w) := S
  clear S
  go_enter L.f1, Try.ntmps81
  go_wp2
  go_loopg [10] n (fun kx s10 wr => ∃ (i : Nat) (dk : Array α), s10 = .int .i64 i ∧ i ≤ n ∧ n - i ≤ kx ∧ SwapR d a b i dk ∧ (∀ lo hi, lo ≤ a → b + n ≤ hi → hi ≤ d.size → PermIn lo hi d dk) ∧ Aside (SWK enc k w0 blk off dk wr))
  case atStart => exact ⟨0, d, rfl, Nat.zero_le _, Nat.le_refl _, swapR_zero d a b, fun _ _ _ _ _ => permIn_refl _ _ _, S0⟩
  case round =>
    clear S0
    obtain ⟨i, dk, rfl, hin, hkx, hR, hP, S1⟩ := hrel
    have HR := Lib.hid hR
    have HP := Lib.hid hP
    have hds : dk.size = d.size := hR.1
    clear hR hP
    by_cases hlt : i < n
    · have hltz : (i : Int) < (n : Int) := by omega
      have es1a : ((a : Int) + (i : Int)).toNat = a + i := by omega
      have ps1a : (0 : Int) ≤ (a : Int) + (i : Int) := by omega
      have bs1a : (a : Int) + (i : Int) < (d.size : Int) := by omega
      have rs1a : IntKind.i64.wrap ((a : Int) + (i : Int)) = (a : Int) + (i : Int) := by rw [IntKind.wrap_i64]; omega
      have es1c : ((b : Int) + (i : Int)).toNat = b + i := by omega
      have ps1c : (0 : Int) ≤ (b : Int) + (i : Int) := by omega
      have bs1c : (b : Int) + (i : Int) < (d.size : Int) := by omega
      have rs1c : IntKind.i64.wrap ((b : Int) + (i : Int)) = (b : Int) + (i : Int) := by rw [IntKind.wrap_i64]; omega
      have S2 : Aside (SWK enc k w0 blk off (swp dk (a + i) (b + i)) ((wr.drew.setCells blk (off + (a + i) * k) (enc dk[b + i]!)).setCells blk (off + (b + i) * k) (enc dk[a + i]!))) := S1.out.swapped R (a + i) (b + i) (by omega) (by omega)
      have ls1a := S1.out.ld1 R (by omega) P (a + i) (by omega)
      have ls1b := S1.out.ld1 R (by omega) P (b + i) (by omega)
      have ts1a := S1.out.st1 R (by omega) P (a + i) (by omega) dk[b + i]!
      have ts1b := S1.out.st2 R (by omega) P (a + i) (b + i) (by omega) (by omega) dk[b + i]! dk[a + i]!
      have ns1a : (enc dk[a + i]!).length = k := R.hk _
      have ns1b : (enc dk[b + i]!).length = k := R.hk _
      generalize enc dk[a + i]! = cIs1 at S2 ls1a ts1b ns1a
      generalize enc dk[b + i]! = cJs1 at S2 ls1b ts1a ts1b ns1b
      clear S1
      go_wp2_with fail
      go_big_region_o
      clear ls1a ls1b ts1a ts1b ns1a ns1b es1a ps1a bs1a rs1a es1c ps1c bs1c rs1c
      generalize (wr.drew.setCells blk (off + (a + i) * k) cJs1).setCells blk (off + (b + i) * k) cIs1 = w2 at S2 ⊢
      go_wp2
      go_roundg (n - (i + 1))
      case measure => omega
      case rel => exact ⟨i + 1, _, by first | go_num | (congr 1; omega), by omega, Nat.le_refl _, swapR_step HR.out (by omega) (by omega), fun lo hi h1 h2 h3 => permIn_trans _ _ _ _ _ (HP.out lo hi h1 h2 h3) (swp_permIn _ _ _ _ _ (by omega) (by omega) (by omega) (by omega) (by rw [hds]; exact h3)), S2⟩
    · obtain rfl : i = n := by omega
      have hltz : ¬ (i : Int) < (i : Int) := by omega
      go_wp2
      go_end0
      exact ⟨rfl, dk, HR.out, HP.out, S1.out⟩
set_option maxHeartbeats 4000000 in
set_option maxRecDepth 1000000 in
theorem rotate_any {P : Program} {α : Type} [Inhabited α] (L : StabLays P) (k : Nat) (zE : ∀ w, (Go.sizeOf 66).run P w = .ok k w) (enc : α → List Value) (g : Nat) (cb : Array Value) (blk off cap a m b : Nat) (d0 d : Array α) (w0 w : World)
    (R : RowK enc k w0 blk off d0) (hs : d0.size = d.size) (S : SWK enc k w0 blk off d w) (ham : a < m) (hmb : m < b) (hb : b ≤ d.size) (hsz : d.size < 4611686018427387904) :
    Calls P 74 #[.slice (some ⟨blk, off, none⟩) d.size cap, .int .i64 a, .int .i64 m, .int .i64 b, .func (.func g) #[] cb] w fun e w' => e = .returned (.tuple #[]) ∧ ∃ d', Rot d a (m - a) (b - m) d' ∧ PermIn a b d d' ∧ SWK enc k w0 blk off d' w' := by
  have mixed := L.mixed; have tI := L.tI; have aI := L.aI; have zI := L.zI; have vI := L.vI; have tB := L.tB; have aB := L.aB; have zB := L.zB; have vB := L.vB; have tU := L.tU; have aU := L.aU; have zU := L.zU; have vU := L.vU; have tS := L.tS; have aS := L.aS; have zS := L.zS; have vS := L.vS; have tF := L.tF; have aF := L.aF; have zF := L.zF; have vF := L.vF; have tN := L.tN; have aE := L.aE
  have uS := run_underlying L.tS; have uI := run_underlying L.tI; have uU := run_underlying L.tU
  have E1 : ∀ (args : Array Value) (w : World), (callFunc 81 args).run P w = .ok (.enter 81 args) w := enters_of L.f1 (by kernel_rfl) rfl
  have S0 : Aside (SWK enc k w0 blk off d w) := S
  clear S
  go_enter L.f2, Try.ntmps74
  have ea0 : (m : Int) - (a : Int) = ((m - a : Nat) : Int) := by omega
  have eb0 : (b : Int) - (m : Int) = ((b - m : Nat) : Int) := by omega
  have ra0 : IntKind.i64.wrap ((m : Int) - (a : Int)) = ((m - a : Nat) : Int) := by rw [IntKind.wrap_i64]; omega
  have rb0 : IntKind.i64.wrap ((b : Int) - (m : Int)) = ((b - m : Nat) : Int) := by rw [IntKind.wrap_i64]; omega
  go_wp2
  clear ea0 eb0 ra0 rb0
  go_loopg [10, 11] (b - a) (fun kx s10 s11 wr => ∃ (i j : Nat) (dk : Array α), s10 = .int .i64 i ∧ s11 = .int .i64 j ∧ 0 < i ∧ 0 < j ∧ a + i ≤ m ∧ m + j ≤ b ∧ i + j ≤ kx ∧ dk.size = d.size ∧ PermIn a b d dk ∧ (∀ d2, Rot dk (m - i) i j d2 → Rot d a (m - a) (b - m) d2) ∧ Aside (SWK enc k w0 blk off dk wr))
  case atStart => exact ⟨m - a, b - m, d, by first | rfl | (congr 1; omega), by first | rfl | (congr 1; omega), by omega, by omega, by omega, by omega, by omega, rfl, permIn_refl _ _ _, fun d2 h => by rw [show m - (m - a) = a by omega] at h; exact h, S0⟩
  case round =>
    clear S0
    obtain ⟨i, j, dk, rfl, rfl, hi0, hj0, hai, hjb, hkx, hds, hP, hR, S1⟩ := hrel
    have HP : Aside (PermIn a b d dk) := hP
    have HR : Aside (∀ d2, Rot dk (m - i) i j d2 → Rot d a (m - a) (b - m) d2) := hR
    clear hP hR
    have rmi : IntKind.i64.wrap ((m : Int) - (i : Int)) = ((m - i : Nat) : Int) := by rw [IntKind.wrap_i64]; omega
    have emi : (m : Int) - (i : Int) = ((m - i : Nat) : Int) := by omega
    by_cases hgt : j < i
    · have hne : ((i : Int) != (j : Int)) = true := by rw [bne_iff_ne]; omega
      have hgtz : (j : Int) < (i : Int) := by omega
      have hc1 := swapRange_any L k zE enc g cb blk off cap (m - i) (m) (j) d0 dk w0 wr R (by omega) S1.out (by omega) (by omega) (by omega)
      rw [show dk.size = d.size from hds] at hc1
      clear S1
      go_wp2_with (go_at_fn 81; refine hc1.mono ?_; rintro e w2 ⟨rfl, d1, hR1, hP1, hS2⟩)
      go_roundg (i - j + j)
      case measure => omega
      case rel => exact ⟨i - j, j, d1, by first | rfl | go_num | (congr 1; omega), rfl, by omega, by omega, by omega, by omega, by omega, hR1.1.trans hds, permIn_trans _ _ _ _ _ HP.out (hP1 _ _ (by omega) (by omega) (by omega)), fun d2 h => HR.out d2 (rot_gt hgt (by rw [show m - i + i = m by omega]; exact hR1) (by rw [show m - i + j = m - (i - j) by omega]; exact h)), hS2⟩
    · by_cases hlt : i < j
      · have hne : ((i : Int) != (j : Int)) = true := by rw [bne_iff_ne]; omega
        have hgtz : ¬ (j : Int) < (i : Int) := by omega
        have rmj : IntKind.i64.wrap ((m : Int) + (j : Int)) = (m : Int) + (j : Int) := by rw [IntKind.wrap_i64]; omega
        have rmji : IntKind.i64.wrap ((m : Int) + (j : Int) - (i : Int)) = ((m + j - i : Nat) : Int) := by rw [IntKind.wrap_i64]; omega
        have emji : (m : Int) + (j : Int) - (i : Int) = ((m + j - i : Nat) : Int) := by omega
        have hc1 := swapRange_any L k zE enc g cb blk off cap (m - i) (m + j - i) (i) d0 dk w0 wr R (by omega) S1.out (by omega) (by omega) (by omega)
        rw [show dk.size = d.size from hds] at hc1
        clear S1
        go_wp2_with (go_at_fn 81; refine hc1.mono ?_; rintro e w2 ⟨rfl, d1, hR1, hP1, hS2⟩)
        go_roundg (i + (j - i))
        case measure => omega
        case rel => exact ⟨i, j - i, d1, rfl, by first | rfl | go_num | (congr 1; omega), by omega, by omega, by omega, by omega, by omega, hR1.1.trans hds, permIn_trans _ _ _ _ _ HP.out (hP1 _ _ (by omega) (by omega) (by omega)), fun d2 h => HR.out d2 (rot_lt hlt (by rw [show m - i + j = m + j - i by omega]; exact hR1) h), hS2⟩
      · obtain rfl : i = j := by omega
        have hne : ((i : Int) != (i : Int)) = false := by simp
        have hc1 := swapRange_any L k zE enc g cb blk off cap (m - i) (m) (i) d0 dk w0 wr R (by omega) S1.out (by omega) (by omega) (by omega)
        rw [show dk.size = d.size from hds] at hc1
        clear S1
        go_wp2_with (go_at_fn 81; refine hc1.mono ?_; rintro e w2 ⟨rfl, d1, hR1, hP1, hS2⟩)
        go_end0
        exact ⟨rfl, d1, HR.out d1 (rot_same (by rw [show m - i + i = m by omega]; exact hR1)), permIn_trans _ _ _ _ _ HP.out (hP1 _ _ (by omega) (by omega) (by omega)), hS2⟩
end Go.Proofs.Ytleiiedacachjaa
