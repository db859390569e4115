/- slices.symMergeCmpFunc: two sorted neighbours are merged. -/
import Derived.Test.YtleiiedacachjaaTStab
import Derived.Deep.DeepCutAuto
import Derived.Deep.CutBlock
namespace Go.Proofs.Ytleiiedacachjaa
open Go.Shelf Go.RowKit Go.Lib Go.Sort Stab
set_option maxHeartbeats 16000000 in
set_option maxRecDepth 1000000 in
theorem sym_first {P : Program} {α : Type} [Inhabited α] (L : StabLays P) (k : Nat) (zE : ∀ w, (Go.sizeOf 66).run P w = .ok k w) (enc : α → List Value) (cf : α → α → Int) (hO : SWO (ltOf cf)) (g : Nat) (cb : Array Value) (blk off cap : Nat) (d0 : Array α) (w0 : World)
    (eg : ∀ args w, (callFunc g args).run P w = .ok (.enter g args) w) (hcmp : CmpLays P g cb enc k cf blk off d0.size w0) (R : RowK enc k w0 blk off d0) (hsz : d0.size < 4611686018427387904) 
    (a m b : Nat) (d : Array α) (w : World) (hs : d0.size = d.size) (S : SWK enc k w0 blk off d w) (ham : a < m) (hmb : m < b) (hb : b ≤ d.size) (h1 : m - a = 1) :
    Calls P 61 #[.slice (some ⟨blk, off, none⟩) d.size cap, .int .i64 a, .int .i64 m, .int .i64 b, .func (.func g) #[] cb] w fun e w' => e = .returned (.tuple #[]) ∧ ∃ d', PermIn a b d d' ∧ (SortedIn (ltOf cf) a m d → SortedIn (ltOf cf) m b d → SortedIn (ltOf cf) a b d') ∧ SWK enc k w0 blk off d' w' := by
  have mixed := L.mixed; have tI := L.tI; have aI := L.aI; have zI := L.zI; have vI := L.vI; have tB := L.tB; have aB := L.aB; have zB := L.zB; have vB := L.vB; have tU := L.tU; have aU := L.aU; have zU := L.zU; have vU := L.vU; have tS := L.tS; have aS := L.aS; have zS := L.zS; have vS := L.vS; have tF := L.tF; have aF := L.aF; have zF := L.zF; have vF := L.vF; have tN := L.tN; have aE := L.aE
  have uS := run_underlying L.tS; have uI := run_underlying L.tI; have uU := run_underlying L.tU
  have E2 : ∀ (args : Array Value) (w : World), (callFunc 74 args).run P w = .ok (.enter 74 args) w := enters_of L.f2 (by kernel_rfl) rfl
  have E3 : ∀ (args : Array Value) (w : World), (callFunc 61 args).run P w = .ok (.enter 61 args) w := enters_of L.f3 (by kernel_rfl) rfl
  have HC : Aside _ := hcmp
  have S0 : Aside (SWK enc k w0 blk off d w) := S
  clear S hcmp
  rw [hs] at hsz
  have hma : IntKind.i64.wrap ((m : Int) - (a : Int)) = (m : Int) - (a : Int) := by rw [IntKind.wrap_i64]; omega
  go_enter L.f3, Try.ntmps61
  have h1z : ((m : Int) - (a : Int) == 1) = true := by rw [beq_iff_eq]; omega
  go_wp2
  go_loopg [10, 11] (b - m) (fun kx s10 s11 wr => ∃ (i j : Nat), s10 = .int .i64 i ∧ s11 = .int .i64 j ∧ m ≤ i ∧ i ≤ j ∧ j ≤ b ∧ j - i ≤ kx ∧ (i = m ∨ ltOf cf d[i - 1]! d[a]! = true) ∧ (j = b ∨ ltOf cf d[j]! d[a]! = false) ∧ Aside (SWK enc k w0 blk off d wr))
  case atStart => exact ⟨m, b, rfl, rfl, Nat.le_refl _, by omega, Nat.le_refl _, Nat.le_refl _, Or.inl rfl, Or.inl rfl, S0⟩
  case round =>
    clear S0
    obtain ⟨i, j, rfl, rfl, hmi, hij, hjb, hkx, c1, c2, S1⟩ := hrel
    by_cases hlt : i < j
    · have hltz : (i : Int) < (j : Int) := by omega
      have C1 : Aside (i = m ∨ ltOf cf d[i - 1]! d[a]! = true) := c1
      have C2 : Aside (j = b ∨ ltOf cf d[j]! d[a]! = false) := c2
      clear c1 c2
      obtain ⟨h, gh, lh, qh⟩ : ∃ h : Nat, 2 * h ≤ i + j ∧ i + j ≤ 2 * h + 1 ∧ ((i : Int) + (j : Int)) / 2 = (h : Int) := ⟨(i + j) / 2, by omega, by omega, by omega⟩
      have wh : IntKind.i64.wrap ((i : Int) + (j : Int)) = (i : Int) + (j : Int) := by rw [IntKind.wrap_i64]; omega
      have uh : IntKind.u64.wrap ((i : Int) + (j : Int)) = (i : Int) + (j : Int) := by rw [IntKind.wrap_u64]; omega
      have vh : IntKind.u64.wrap (h : Int) = (h : Int) := by rw [IntKind.wrap_u64]; omega
      have ih : IntKind.i64.wrap (h : Int) = (h : Int) := by rw [IntKind.wrap_i64]; omega
      cases hlv : ltOf cf d[h]! d[a]! with
      | true =>
        have ec2a : ((h : Int)).toNat = h := by omega
        have pc2a : (0 : Int) ≤ (h : Int) := by omega
        have bc2a : (h : Int) < (d.size : Int) := by omega
        have rc2a : IntKind.i64.wrap ((h : Int)) = (h : Int) := by rw [IntKind.wrap_i64]; omega
        have ec2c : ((a : Int)).toNat = a := by omega
        have pc2c : (0 : Int) ≤ (a : Int) := by omega
        have bc2c : (a : Int) < (d.size : Int) := by omega
        have rc2c : IntKind.i64.wrap ((a : Int)) = (a : Int) := by rw [IntKind.wrap_i64]; omega
        obtain ⟨xc2, hxc2⟩ : ∃ x, x = d[h]! := ⟨_, rfl⟩
        obtain ⟨yc2, hyc2⟩ : ∃ x, x = d[a]! := ⟨_, rfl⟩
        have lc2a := S1.out.ld R (by omega) P (h) (by omega)
        have lc2b := S1.out.ld R (by omega) P (a) (by omega)
        rw [← hxc2] at lc2a
        rw [← hyc2] at lc2b
        have hcc2 := S1.out.cmp HC.out (by omega) xc2 yc2
        have hvc2 : cf xc2 yc2 < 0 := by rw [hxc2, hyc2]; exact of_decide_eq_true hlv
        have hdc2 : decide (cf xc2 yc2 < 0) = true := decide_eq_true hvc2
        clear hxc2 hyc2
        go_wp2_with fail
        go_quiet_grown (first | (go_at_fn g; refine Calls.grown_of (hcc2 _ _)))
        have S2 : Aside (SWK enc k w0 blk off d (grow (wr.drewN nq) osq)) := S1.out.grown nq osq
        clear lc2a lc2b hcc2 S1 ec2a pc2a bc2a rc2a ec2c pc2c bc2c rc2c
        generalize grow (wr.drewN nq) osq = w2 at S2 ⊢
        clear nq osq
        go_wp2
        go_roundg (j - (h + 1))
        case measure => omega
        case rel => exact ⟨h + 1, j, by first | go_num | (congr 1; omega), rfl, by omega, by omega, hjb, Nat.le_refl _, Or.inr (by rw [Nat.add_sub_cancel]; exact hlv), C2.out, S2⟩
      | false =>
        have ec3a : ((h : Int)).toNat = h := by omega
        have pc3a : (0 : Int) ≤ (h : Int) := by omega
        have bc3a : (h : Int) < (d.size : Int) := by omega
        have rc3a : IntKind.i64.wrap ((h : Int)) = (h : Int) := by rw [IntKind.wrap_i64]; omega
        have ec3c : ((a : Int)).toNat = a := by omega
        have pc3c : (0 : Int) ≤ (a : Int) := by omega
        have bc3c : (a : Int) < (d.size : Int) := by omega
        have rc3c : IntKind.i64.wrap ((a : Int)) = (a : Int) := by rw [IntKind.wrap_i64]; omega
        obtain ⟨xc3, hxc3⟩ : ∃ x, x = d[h]! := ⟨_, rfl⟩
        obtain ⟨yc3, hyc3⟩ : ∃ x, x = d[a]! := ⟨_, rfl⟩
        have lc3a := S1.out.ld R (by omega) P (h) (by omega)
        have lc3b := S1.out.ld R (by omega) P (a) (by omega)
        rw [← hxc3] at lc3a
        rw [← hyc3] at lc3b
        have hcc3 := S1.out.cmp HC.out (by omega) xc3 yc3
        have hvc3 : ¬ cf xc3 yc3 < 0 := by rw [hxc3, hyc3]; exact of_decide_eq_false hlv
        have hdc3 : decide (cf xc3 yc3 < 0) = false := decide_eq_false hvc3
        clear hxc3 hyc3
        go_wp2_with fail
        go_quiet_grown (first | (go_at_fn g; refine Calls.grown_of (hcc3 _ _)))
        have S2 : Aside (SWK enc k w0 blk off d (grow (wr.drewN nq) osq)) := S1.out.grown nq osq
        clear lc3a lc3b hcc3 S1 ec3a pc3a bc3a rc3a ec3c pc3c bc3c rc3c
        generalize grow (wr.drewN nq) osq = w2 at S2 ⊢
        clear nq osq
        go_wp2
        go_roundg (h - i)
        case measure => omega
        case rel => exact ⟨i, h, rfl, by first | rfl | go_num | (congr 1; omega), hmi, by omega, by omega, Nat.le_refl _, C1.out, Or.inr hlv, S2⟩
    · obtain rfl : i = j := by omega
      have hltz : ¬ (i : Int) < (i : Int) := by omega
      have ri1 : IntKind.i64.wrap ((i : Int) - 1) = (i : Int) - 1 := by rw [IntKind.wrap_i64]; omega
      have C1 : Aside (i = m ∨ ltOf cf d[i - 1]! d[a]! = true) := c1
      have C2 : Aside (i = b ∨ ltOf cf d[i]! d[a]! = false) := c2
      clear c1 c2
      go_wp2
      go_loopg [13] (i - 1 - a) (fun kx s13 wr => ∃ (x : Nat) (dk : Array α), s13 = .int .i64 x ∧ a ≤ x ∧ x ≤ i - 1 ∧ i - 1 - x ≤ kx ∧ Rot d a 1 (x - a) dk ∧ PermIn a b d dk ∧ Aside (SWK enc k w0 blk off dk wr))
      case atStart => exact ⟨a, d, rfl, Nat.le_refl _, by omega, Nat.le_refl _, by rw [Nat.sub_self]; exact rot_right d a 1, permIn_refl _ _ _, S1⟩
      case round =>
        clear S1
        obtain ⟨x, dk, rfl, hax, hxi, hkx2, hR, hP, S1⟩ := hrel
        have HR : Aside (Rot d a 1 (x - a) dk) := hR
        have HP : Aside (PermIn a b d dk) := hP
        have hds : dk.size = d.size := hR.1
        clear hR hP
        by_cases hlt : x < i - 1
        · have hltz2 : (x : Int) < (i : Int) - 1 := by omega
          have es4a : ((x : Int)).toNat = x := by omega
          have ps4a : (0 : Int) ≤ (x : Int) := by omega
          have bs4a : (x : Int) < (d.size : Int) := by omega
          have rs4a : IntKind.i64.wrap ((x : Int)) = (x : Int) := by rw [IntKind.wrap_i64]; omega
          have es4c : ((x : Int) + 1).toNat = x + 1 := by omega
          have ps4c : (0 : Int) ≤ (x : Int) + 1 := by omega
          have bs4c : (x : Int) + 1 < (d.size : Int) := by omega
          have rs4c : IntKind.i64.wrap ((x : Int) + 1) = (x : Int) + 1 := by rw [IntKind.wrap_i64]; omega
          have S2 : Aside (SWK enc k w0 blk off (swp dk (x) (x + 1)) ((wr.drew.setCells blk (off + (x) * k) (enc dk[x + 1]!)).setCells blk (off + (x + 1) * k) (enc dk[x]!))) := S1.out.swapped R (x) (x + 1) (by omega) (by omega)
          have ls4a := S1.out.ld1 R (by omega) P (x) (by omega)
          have ls4b := S1.out.ld1 R (by omega) P (x + 1) (by omega)
          have ts4a := S1.out.st1 R (by omega) P (x) (by omega) dk[x + 1]!
          have ts4b := S1.out.st2 R (by omega) P (x) (x + 1) (by omega) (by omega) dk[x + 1]! dk[x]!
          have ns4a : (enc dk[x]!).length = k := R.hk _
          have ns4b : (enc dk[x + 1]!).length = k := R.hk _
          generalize enc dk[x]! = cIs4 at S2 ls4a ts4b ns4a
          generalize enc dk[x + 1]! = cJs4 at S2 ls4b ts4a ts4b ns4b
          clear S1
          go_wp2_with fail
          go_big_region_o
          clear ls4a ls4b ts4a ts4b ns4a ns4b es4a ps4a bs4a rs4a es4c ps4c bs4c rs4c
          generalize (wr.drew.setCells blk (off + (x) * k) cJs4).setCells blk (off + (x + 1) * k) cIs4 = w2 at S2 ⊢
          go_wp2
          go_roundg (i - 1 - (x + 1))
          case measure => omega
          case rel => exact ⟨x + 1, swp dk x (x + 1), by first | go_num | (congr 1; omega), by omega, by omega, Nat.le_refl _, by have h := rot_up (q := x - a) HR.out (by omega); rw [show a + (x - a) = x by omega, show x - a + 1 = x + 1 - a by omega] at h; exact h, permIn_trans _ _ _ _ _ HP.out (swp_permIn _ _ _ _ _ (by omega) (by omega) (by omega) (by omega) (by omega)), S2⟩
        · have hltz2 : ¬ (x : Int) < (i : Int) - 1 := by omega
          obtain rfl : x = i - 1 := by omega
          go_wp2
          (try simp only [Exit.inBlock, Exit.then])
          refine bodyPost_ret (results_none rfl _ _ _) rfl ?_
          have em : m = a + 1 := by omega
          exact ⟨rfl, dk, HP.out, fun _ hB => ins_first hO (i := i) (by omega) hjb (by rw [← em]; exact hB) (by rw [← em]; exact C1.out) C2.out (by rw [show i - (a + 1) = i - 1 - a by omega]; exact HR.out), S1.out⟩
set_option maxHeartbeats 16000000 in
set_option maxRecDepth 1000000 in
theorem sym_last {P : Program} {α : Type} [Inhabited α] (L : StabLays P) (k : Nat) (zE : ∀ w, (Go.sizeOf 66).run P w = .ok k w) (enc : α → List Value) (cf : α → α → Int) (hO : SWO (ltOf cf)) (g : Nat) (cb : Array Value) (blk off cap : Nat) (d0 : Array α) (w0 : World)
    (eg : ∀ args w, (callFunc g args).run P w = .ok (.enter g args) w) (hcmp : CmpLays P g cb enc k cf blk off d0.size w0) (R : RowK enc k w0 blk off d0) (hsz : d0.size < 4611686018427387904) 
    (a m b : Nat) (d : Array α) (w : World) (hs : d0.size = d.size) (S : SWK enc k w0 blk off d w) (ham : a < m) (hmb : m < b) (hb : b ≤ d.size) (h1 : ¬ m - a = 1) (h2 : b - m = 1) :
    Calls P 61 #[.slice (some ⟨blk, off, none⟩) d.size cap, .int .i64 a, .int .i64 m, .int .i64 b, .func (.func g) #[] cb] w fun e w' => e = .returned (.tuple #[]) ∧ ∃ d', PermIn a b d d' ∧ (SortedIn (ltOf cf) a m d → SortedIn (ltOf cf) m b d → SortedIn (ltOf cf) a b d') ∧ SWK enc k w0 blk off d' w' := by
  have mixed := L.mixed; have tI := L.tI; have aI := L.aI; have zI := L.zI; have vI := L.vI; have tB := L.tB; have aB := L.aB; have zB := L.zB; have vB := L.vB; have tU := L.tU; have aU := L.aU; have zU := L.zU; have vU := L.vU; have tS := L.tS; have aS := L.aS; have zS := L.zS; have vS := L.vS; have tF := L.tF; have aF := L.aF; have zF := L.zF; have vF := L.vF; have tN := L.tN; have aE := L.aE
  have uS := run_underlying L.tS; have uI := run_underlying L.tI; have uU := run_underlying L.tU
  have E2 : ∀ (args : Array Value) (w : World), (callFunc 74 args).run P w = .ok (.enter 74 args) w := enters_of L.f2 (by kernel_rfl) rfl
  have E3 : ∀ (args : Array Value) (w : World), (callFunc 61 args).run P w = .ok (.enter 61 args) w := enters_of L.f3 (by kernel_rfl) rfl
  have HC : Aside _ := hcmp
  have S0 : Aside (SWK enc k w0 blk off d w) := S
  clear S hcmp
  rw [hs] at hsz
  have hma : IntKind.i64.wrap ((m : Int) - (a : Int)) = (m : Int) - (a : Int) := by rw [IntKind.wrap_i64]; omega
  go_enter L.f3, Try.ntmps61
  have h1z : ((m : Int) - (a : Int) == 1) = false := by rw [beq_eq_false_iff_ne]; omega
  have hbm : IntKind.i64.wrap ((b : Int) - (m : Int)) = (b : Int) - (m : Int) := by rw [IntKind.wrap_i64]; omega
  have h2z : ((b : Int) - (m : Int) == 1) = true := by rw [beq_iff_eq]; omega
  go_wp2
  go_loopg [14, 15] (m - a) (fun kx s14 s15 wr => ∃ (i j : Nat), s14 = .int .i64 i ∧ s15 = .int .i64 j ∧ a ≤ i ∧ i ≤ j ∧ j ≤ m ∧ j - i ≤ kx ∧ (i = a ∨ ltOf cf d[m]! d[i - 1]! = false) ∧ (j = m ∨ ltOf cf d[m]! d[j]! = true) ∧ Aside (SWK enc k w0 blk off d wr))
  case atStart => exact ⟨a, m, rfl, rfl, Nat.le_refl _, by omega, Nat.le_refl _, Nat.le_refl _, Or.inl rfl, Or.inl rfl, S0⟩
  case round =>
    clear S0
    obtain ⟨i, j, rfl, rfl, hmi, hij, hjb, hkx, c1, c2, S1⟩ := hrel
    by_cases hlt : i < j
    · have hltz : (i : Int) < (j : Int) := by omega
      have C1 : Aside (i = a ∨ ltOf cf d[m]! d[i - 1]! = false) := c1
      have C2 : Aside (j = m ∨ ltOf cf d[m]! d[j]! = true) := c2
      clear c1 c2
      obtain ⟨h, gh, lh, qh⟩ : ∃ h : Nat, 2 * h ≤ i + j ∧ i + j ≤ 2 * h + 1 ∧ ((i : Int) + (j : Int)) / 2 = (h : Int) := ⟨(i + j) / 2, by omega, by omega, by omega⟩
      have wh : IntKind.i64.wrap ((i : Int) + (j : Int)) = (i : Int) + (j : Int) := by rw [IntKind.wrap_i64]; omega
      have uh : IntKind.u64.wrap ((i : Int) + (j : Int)) = (i : Int) + (j : Int) := by rw [IntKind.wrap_u64]; omega
      have vh : IntKind.u64.wrap (h : Int) = (h : Int) := by rw [IntKind.wrap_u64]; omega
      have ih : IntKind.i64.wrap (h : Int) = (h : Int) := by rw [IntKind.wrap_i64]; omega
      cases hlv : ltOf cf d[m]! d[h]! with
      | false =>
        have ec5a : ((m : Int)).toNat = m := by omega
        have pc5a : (0 : Int) ≤ (m : Int) := by omega
        have bc5a : (m : Int) < (d.size : Int) := by omega
        have rc5a : IntKind.i64.wrap ((m : Int)) = (m : Int) := by rw [IntKind.wrap_i64]; omega
        have ec5c : ((h : Int)).toNat = h := by omega
        have pc5c : (0 : Int) ≤ (h : Int) := by omega
        have bc5c : (h : Int) < (d.size : Int) := by omega
        have rc5c : IntKind.i64.wrap ((h : Int)) = (h : Int) := by rw [IntKind.wrap_i64]; omega
        obtain ⟨xc5, hxc5⟩ : ∃ x, x = d[m]! := ⟨_, rfl⟩
        obtain ⟨yc5, hyc5⟩ : ∃ x, x = d[h]! := ⟨_, rfl⟩
        have lc5a := S1.out.ld R (by omega) P (m) (by omega)
        have lc5b := S1.out.ld R (by omega) P (h) (by omega)
        rw [← hxc5] at lc5a
        rw [← hyc5] at lc5b
        have hcc5 := S1.out.cmp HC.out (by omega) xc5 yc5
        have hvc5 : ¬ cf xc5 yc5 < 0 := by rw [hxc5, hyc5]; exact of_decide_eq_false hlv
        have hdc5 : decide (cf xc5 yc5 < 0) = false := decide_eq_false hvc5
        clear hxc5 hyc5
        go_wp2_with fail
        go_quiet_grown (first | (go_at_fn g; refine Calls.grown_of (hcc5 _ _)))
        have S2 : Aside (SWK enc k w0 blk off d (grow (wr.drewN nq) osq)) := S1.out.grown nq osq
        clear lc5a lc5b hcc5 S1 ec5a pc5a bc5a rc5a ec5c pc5c bc5c rc5c
        generalize grow (wr.drewN nq) osq = w2 at S2 ⊢
        clear nq osq
        go_wp2
        go_roundg (j - (h + 1))
        case measure => omega
        case rel => exact ⟨h + 1, j, by first | go_num | (congr 1; omega), rfl, by omega, by omega, hjb, Nat.le_refl _, Or.inr (by rw [Nat.add_sub_cancel]; exact hlv), C2.out, S2⟩
      | true =>
        have ec6a : ((m : Int)).toNat = m := by omega
        have pc6a : (0 : Int) ≤ (m : Int) := by omega
        have bc6a : (m : Int) < (d.size : Int) := by omega
        have rc6a : IntKind.i64.wrap ((m : Int)) = (m : Int) := by rw [IntKind.wrap_i64]; omega
        have ec6c : ((h : Int)).toNat = h := by omega
        have pc6c : (0 : Int) ≤ (h : Int) := by omega
        have bc6c : (h : Int) < (d.size : Int) := by omega
        have rc6c : IntKind.i64.wrap ((h : Int)) = (h : Int) := by rw [IntKind.wrap_i64]; omega
        obtain ⟨xc6, hxc6⟩ : ∃ x, x = d[m]! := ⟨_, rfl⟩
        obtain ⟨yc6, hyc6⟩ : ∃ x, x = d[h]! := ⟨_, rfl⟩
        have lc6a := S1.out.ld R (by omega) P (m) (by omega)
        have lc6b := S1.out.ld R (by omega) P (h) (by omega)
        rw [← hxc6] at lc6a
        rw [← hyc6] at lc6b
        have hcc6 := S1.out.cmp HC.out (by omega) xc6 yc6
        have hvc6 : cf xc6 yc6 < 0 := by rw [hxc6, hyc6]; exact of_decide_eq_true hlv
        have hdc6 : decide (cf xc6 yc6 < 0) = true := decide_eq_true hvc6
        clear hxc6 hyc6
        go_wp2_with fail
        go_quiet_grown (first | (go_at_fn g; refine Calls.grown_of (hcc6 _ _)))
        have S2 : Aside (SWK enc k w0 blk off d (grow (wr.drewN nq) osq)) := S1.out.grown nq osq
        clear lc6a lc6b hcc6 S1 ec6a pc6a bc6a rc6a ec6c pc6c bc6c rc6c
        generalize grow (wr.drewN nq) osq = w2 at S2 ⊢
        clear nq osq
        go_wp2
        go_roundg (h - i)
        case measure => omega
        case rel => exact ⟨i, h, rfl, by first | rfl | go_num | (congr 1; omega), hmi, by omega, by omega, Nat.le_refl _, C1.out, Or.inr hlv, S2⟩
    · obtain rfl : i = j := by omega
      have hltz : ¬ (i : Int) < (i : Int) := by omega
      have C1 : Aside (i = a ∨ ltOf cf d[m]! d[i - 1]! = false) := c1
      have C2 : Aside (i = m ∨ ltOf cf d[m]! d[i]! = true) := c2
      clear c1 c2
      go_wp2
      go_loopg [17] (m - i) (fun kx s17 wr => ∃ (x : Nat) (dk : Array α), s17 = .int .i64 x ∧ i ≤ x ∧ x ≤ m ∧ x - i ≤ kx ∧ Rot d x (m - x) 1 dk ∧ PermIn a b d dk ∧ Aside (SWK enc k w0 blk off dk wr))
      case atStart => exact ⟨m, d, rfl, hjb, Nat.le_refl _, Nat.le_refl _, by rw [Nat.sub_self]; exact rot_left d m 1, permIn_refl _ _ _, S1⟩
      case round =>
        clear S1
        obtain ⟨x, dk, rfl, hix, hxm, hkx2, hR, hP, S1⟩ := hrel
        have HR : Aside (Rot d x (m - x) 1 dk) := hR
        have HP : Aside (PermIn a b d dk) := hP
        have hds : dk.size = d.size := hR.1
        clear hR hP
        by_cases hlt : i < x
        · obtain ⟨xp, rfl⟩ : ∃ q, x = q + 1 := ⟨x - 1, by omega⟩
          have hltz2 : (i : Int) < (xp : Int) + 1 := by omega
          have hwx : IntKind.i64.wrap (xp : Int) = (xp : Int) := by rw [IntKind.wrap_i64]; omega
          have es7a : ((xp : Int) + 1).toNat = xp + 1 := by omega
          have ps7a : (0 : Int) ≤ (xp : Int) + 1 := by omega
          have bs7a : (xp : Int) + 1 < (d.size : Int) := by omega
          have rs7a : IntKind.i64.wrap ((xp : Int) + 1) = (xp : Int) + 1 := by rw [IntKind.wrap_i64]; omega
          have es7c : ((xp : Int)).toNat = xp := by omega
          have ps7c : (0 : Int) ≤ (xp : Int) := by omega
          have bs7c : (xp : Int) < (d.size : Int) := by omega
          have rs7c : IntKind.i64.wrap ((xp : Int)) = (xp : Int) := by rw [IntKind.wrap_i64]; omega
          have S2 : Aside (SWK enc k w0 blk off (swp dk (xp + 1) (xp)) ((wr.drew.setCells blk (off + (xp + 1) * k) (enc dk[xp]!)).setCells blk (off + (xp) * k) (enc dk[xp + 1]!))) := S1.out.swapped R (xp + 1) (xp) (by omega) (by omega)
          have ls7a := S1.out.ld1 R (by omega) P (xp + 1) (by omega)
          have ls7b := S1.out.ld1 R (by omega) P (xp) (by omega)
          have ts7a := S1.out.st1 R (by omega) P (xp + 1) (by omega) dk[xp]!
          have ts7b := S1.out.st2 R (by omega) P (xp + 1) (xp) (by omega) (by omega) dk[xp]! dk[xp + 1]!
          have ns7a : (enc dk[xp + 1]!).length = k := R.hk _
          have ns7b : (enc dk[xp]!).length = k := R.hk _
          generalize enc dk[xp + 1]! = cIs7 at S2 ls7a ts7b ns7a
          generalize enc dk[xp]! = cJs7 at S2 ls7b ts7a ts7b ns7b
          clear S1
          go_wp2_with fail
          go_big_region_o
          clear ls7a ls7b ts7a ts7b ns7a ns7b es7a ps7a bs7a rs7a es7c ps7c bs7c rs7c
          generalize (wr.drew.setCells blk (off + (xp + 1) * k) cJs7).setCells blk (off + (xp) * k) cIs7 = w2 at S2 ⊢
          go_wp2
          go_roundg (xp - i)
          case measure => omega
          case rel => exact ⟨xp, swp dk (xp + 1) xp, by first | rfl | go_num | (congr 1; omega), by omega, by omega, Nat.le_refl _, by have h := rot_down HR.out (by omega); rw [show m - (xp + 1) + 1 = m - xp by omega] at h; exact h, permIn_trans _ _ _ _ _ HP.out (swp_permIn _ _ _ _ _ (by omega) (by omega) (by omega) (by omega) (by omega)), S2⟩
        · obtain rfl : i = x := by omega
          have hltz2 : ¬ (i : Int) < (i : Int) := by omega
          go_wp2
          (try simp only [Exit.inBlock, Exit.then])
          refine bodyPost_ret (results_none rfl _ _ _) rfl ?_
          have em : b = m + 1 := by omega
          exact ⟨rfl, dk, HP.out, fun hA _ => by rw [em]; exact ins_last hO hmi hxm hA C1.out C2.out HR.out, S1.out⟩
set_option maxHeartbeats 16000000 in
set_option maxRecDepth 1000000 in
theorem sym_gen {P : Program} {α : Type} [Inhabited α] (L : StabLays P) (k : Nat) (zE : ∀ w, (Go.sizeOf 66).run P w = .ok k w) (enc : α → List Value) (cf : α → α → Int) (hO : SWO (ltOf cf)) (g : Nat) (cb : Array Value) (blk off cap : Nat) (d0 : Array α) (w0 : World)
    (eg : ∀ args w, (callFunc g args).run P w = .ok (.enter g args) w) (hcmp : CmpLays P g cb enc k cf blk off d0.size w0) (R : RowK enc k w0 blk off d0) (hsz : d0.size < 4611686018427387904) 
    (a m b : Nat) (d : Array α) (w : World) (hs : d0.size = d.size) (S : SWK enc k w0 blk off d w) (ham : a < m) (hmb : m < b) (hb : b ≤ d.size) (h1 : ¬ m - a = 1) (h2 : ¬ b - m = 1)
    (IH0 : ∀ (a' m' b' : Nat) (d' : Array α) (w' : World), b' - a' < b - a → d0.size = d'.size → SWK enc k w0 blk off d' w' → a' < m' → m' < b' → b' ≤ d'.size →
      Calls P 61 #[.slice (some ⟨blk, off, none⟩) d'.size cap, .int .i64 a', .int .i64 m', .int .i64 b', .func (.func g) #[] cb] w' fun e w'' => e = .returned (.tuple #[]) ∧ ∃ d'', PermIn a' b' d' d'' ∧ (SortedIn (ltOf cf) a' m' d' → SortedIn (ltOf cf) m' b' d' → SortedIn (ltOf cf) a' b' d'') ∧ SWK enc k w0 blk off d'' w'') :
    Calls P 61 #[.slice (some ⟨blk, off, none⟩) d.size cap, .int .i64 a, .int .i64 m, .int .i64 b, .func (.func g) #[] cb] w fun e w' => e = .returned (.tuple #[]) ∧ ∃ d', PermIn a b d d' ∧ (SortedIn (ltOf cf) a m d → SortedIn (ltOf cf) m b d → SortedIn (ltOf cf) a b d') ∧ SWK enc k w0 blk off d' w' := by
  have mixed := L.mixed; have tI := L.tI; have aI := L.aI; have zI := L.zI; have vI := L.vI; have tB := L.tB; have aB := L.aB; have zB := L.zB; have vB := L.vB; have tU := L.tU; have aU := L.aU; have zU := L.zU; have vU := L.vU; have tS := L.tS; have aS := L.aS; have zS := L.zS; have vS := L.vS; have tF := L.tF; have aF := L.aF; have zF := L.zF; have vF := L.vF; have tN := L.tN; have aE := L.aE
  have uS := run_underlying L.tS; have uI := run_underlying L.tI; have uU := run_underlying L.tU
  have E2 : ∀ (args : Array Value) (w : World), (callFunc 74 args).run P w = .ok (.enter 74 args) w := enters_of L.f2 (by kernel_rfl) rfl
  have E3 : ∀ (args : Array Value) (w : World), (callFunc 61 args).run P w = .ok (.enter 61 args) w := enters_of L.f3 (by kernel_rfl) rfl
  have HC : Aside _ := hcmp
  have S0 : Aside (SWK enc k w0 blk off d w) := S
  clear S hcmp
  rw [hs] at hsz
  have hma : IntKind.i64.wrap ((m : Int) - (a : Int)) = (m : Int) - (a : Int) := by rw [IntKind.wrap_i64]; omega
  go_enter L.f3, Try.ntmps61
  have IH : Aside _ := IH0
  clear IH0
  have h1z : ((m : Int) - (a : Int) == 1) = false := by rw [beq_eq_false_iff_ne]; omega
  have hbm : IntKind.i64.wrap ((b : Int) - (m : Int)) = (b : Int) - (m : Int) := by rw [IntKind.wrap_i64]; omega
  have h2z : ((b : Int) - (m : Int) == 1) = false := by rw [beq_eq_false_iff_ne]; omega
  clear h1 h2
  obtain ⟨md, gmd, lmd, qmd⟩ : ∃ h : Nat, 2 * h ≤ a + b ∧ a + b ≤ 2 * h + 1 ∧ ((a : Int) + (b : Int)) / 2 = (h : Int) := ⟨(a + b) / 2, by omega, by omega, by omega⟩
  have wmd : IntKind.i64.wrap ((a : Int) + (b : Int)) = (a : Int) + (b : Int) := by rw [IntKind.wrap_i64]; omega
  have umd : IntKind.u64.wrap ((a : Int) + (b : Int)) = (a : Int) + (b : Int) := by rw [IntKind.wrap_u64]; omega
  have vmd : IntKind.u64.wrap (md : Int) = (md : Int) := by rw [IntKind.wrap_u64]; omega
  have imd : IntKind.i64.wrap (md : Int) = (md : Int) := by rw [IntKind.wrap_i64]; omega
  obtain ⟨nn, n1, n2, en⟩ : ∃ nn : Nat, nn ≤ md + m ∧ md + m ≤ nn ∧ (md : Int) + (m : Int) = (nn : Int) := ⟨md + m, Nat.le_refl _, Nat.le_refl _, by omega⟩
  have rnn : IntKind.i64.wrap (nn : Int) = (nn : Int) := by rw [IntKind.wrap_i64]; omega
  go_upto_if 140 with (fail)
  clear wmd umd vmd imd qmd h1z h2z hma hbm
  go_cut [20, 21] (fun s20 s21 wx => ∃ st r : Nat, s20 = .int .i64 st ∧ s21 = .int .i64 r ∧ (st = a ∨ nn = b + st) ∧ (r = m ∨ r = md) ∧ a ≤ st ∧ st ≤ r ∧ r ≤ m ∧ r ≤ md ∧ nn ≤ b + st ∧ m + r ≤ nn ∧ wx = w)
  case first =>
    by_cases hmd : md < m
    · have hmz : (md : Int) < (m : Int) := by omega
      obtain ⟨s0, k1, k2, es⟩ : ∃ s0 : Nat, s0 + b ≤ nn ∧ nn ≤ s0 + b ∧ (nn : Int) - (b : Int) = (s0 : Int) := ⟨nn - b, by omega, by omega, by omega⟩
      have rs : IntKind.i64.wrap (s0 : Int) = (s0 : Int) := by rw [IntKind.wrap_i64]; omega
      go_wp2_with fail
      go_meet
      exact ⟨s0, md, rfl, rfl, Or.inr (by omega), Or.inr rfl, by omega, by omega, by omega, Nat.le_refl _, by omega, by omega, rfl⟩
    · have hmz : ¬ (md : Int) < (m : Int) := by omega
      go_wp2_with fail
      go_meet
      exact ⟨a, m, rfl, rfl, Or.inl rfl, Or.inl rfl, Nat.le_refl _, by omega, Nat.le_refl _, by omega, by omega, by omega, rfl⟩
  case rest =>
    obtain ⟨s0, r0, rfl, rfl, ho1, ho2, k1, k2, k3, k4, k5, k6, rfl⟩ := hcut
    have HO1 : Aside (s0 = a ∨ nn = b + s0) := ho1
    have HO2 : Aside (r0 = m ∨ r0 = md) := ho2
    clear ho1 ho2
    obtain ⟨pp, p1, p2, ep⟩ : ∃ pp : Nat, pp + 1 ≤ nn ∧ nn ≤ pp + 1 ∧ (nn : Int) - 1 = (pp : Int) := ⟨nn - 1, by omega, by omega, by omega⟩
    have rpp : IntKind.i64.wrap (pp : Int) = (pp : Int) := by rw [IntKind.wrap_i64]; omega
    go_wp2
    clear ep rpp
    go_loopg [20, 21] (r0 - s0) (fun kx s20 s21 wr => ∃ (st r : Nat), s20 = .int .i64 st ∧ s21 = .int .i64 r ∧ s0 ≤ st ∧ st ≤ r ∧ r ≤ r0 ∧ r - st ≤ kx ∧ (st = s0 ∨ ltOf cf d[pp - (st - 1)]! d[st - 1]! = false) ∧ (r = r0 ∨ ltOf cf d[pp - r]! d[r]! = true) ∧ Aside (SWK enc k w0 blk off d wr))
    case atStart => exact ⟨s0, r0, rfl, rfl, Nat.le_refl _, k2, Nat.le_refl _, Nat.le_refl _, Or.inl rfl, Or.inl rfl, S0⟩
    case round =>
      clear S0
      obtain ⟨st, r, rfl, rfl, j1, j2, j3, hkx, c1, c2, S1⟩ := hrel
      have C1 : Aside (st = s0 ∨ ltOf cf d[pp - (st - 1)]! d[st - 1]! = false) := c1
      have C2 : Aside (r = r0 ∨ ltOf cf d[pp - r]! d[r]! = true) := c2
      clear c1 c2
      by_cases hlt : st < r
      · have hltz : (st : Int) < (r : Int) := by omega
        obtain ⟨h, gh, lh, qh⟩ : ∃ h : Nat, 2 * h ≤ st + r ∧ st + r ≤ 2 * h + 1 ∧ ((st : Int) + (r : Int)) / 2 = (h : Int) := ⟨(st + r) / 2, by omega, by omega, by omega⟩
        have wh : IntKind.i64.wrap ((st : Int) + (r : Int)) = (st : Int) + (r : Int) := by rw [IntKind.wrap_i64]; omega
        have uh : IntKind.u64.wrap ((st : Int) + (r : Int)) = (st : Int) + (r : Int) := by rw [IntKind.wrap_u64]; omega
        have vh : IntKind.u64.wrap (h : Int) = (h : Int) := by rw [IntKind.wrap_u64]; omega
        have ih : IntKind.i64.wrap (h : Int) = (h : Int) := by rw [IntKind.wrap_i64]; omega
        have epc : (pp : Int) - (h : Int) = ((pp - h : Nat) : Int) := by omega
        cases hlv : ltOf cf d[pp - h]! d[h]! with
        | false =>
          have ec8a : (((pp - h : Nat) : Int)).toNat = pp - h := by omega
          have pc8a : (0 : Int) ≤ ((pp - h : Nat) : Int) := by omega
          have bc8a : ((pp - h : Nat) : Int) < (d.size : Int) := by omega
          have rc8a : IntKind.i64.wrap (((pp - h : Nat) : Int)) = ((pp - h : Nat) : Int) := by rw [IntKind.wrap_i64]; omega
          have ec8c : ((h : Int)).toNat = h := by omega
          have pc8c : (0 : Int) ≤ (h : Int) := by omega
          have bc8c : (h : Int) < (d.size : Int) := by omega
          have rc8c : IntKind.i64.wrap ((h : Int)) = (h : Int) := by rw [IntKind.wrap_i64]; omega
          obtain ⟨xc8, hxc8⟩ : ∃ x, x = d[pp - h]! := ⟨_, rfl⟩
          obtain ⟨yc8, hyc8⟩ : ∃ x, x = d[h]! := ⟨_, rfl⟩
          have lc8a := S1.out.ld R (by omega) P (pp - h) (by omega)
          have lc8b := S1.out.ld R (by omega) P (h) (by omega)
          rw [← hxc8] at lc8a
          rw [← hyc8] at lc8b
          have hcc8 := S1.out.cmp HC.out (by omega) xc8 yc8
          have hvc8 : ¬ cf xc8 yc8 < 0 := by rw [hxc8, hyc8]; exact of_decide_eq_false hlv
          have hdc8 : decide (cf xc8 yc8 < 0) = false := decide_eq_false hvc8
          clear hxc8 hyc8
          go_wp2_with fail
          go_quiet_grown (first | (go_at_fn g; refine Calls.grown_of (hcc8 _ _)))
          have S2 : Aside (SWK enc k w0 blk off d (grow (wr.drewN nq) osq)) := S1.out.grown nq osq
          clear lc8a lc8b hcc8 S1 ec8a pc8a bc8a rc8a ec8c pc8c bc8c rc8c
          generalize grow (wr.drewN nq) osq = w2 at S2 ⊢
          clear nq osq
          go_wp2
          go_roundg (r - (h + 1))
          case measure => omega
          case rel => exact ⟨h + 1, r, by first | go_num | (congr 1; omega), rfl, by omega, by omega, j3, Nat.le_refl _, Or.inr (by rw [Nat.add_sub_cancel]; exact hlv), C2.out, S2⟩
        | true =>
          have ec9a : (((pp - h : Nat) : Int)).toNat = pp - h := by omega
          have pc9a : (0 : Int) ≤ ((pp - h : Nat) : Int) := by omega
          have bc9a : ((pp - h : Nat) : Int) < (d.size : Int) := by omega
          have rc9a : IntKind.i64.wrap (((pp - h : Nat) : Int)) = ((pp - h : Nat) : Int) := by rw [IntKind.wrap_i64]; omega
          have ec9c : ((h : Int)).toNat = h := by omega
          have pc9c : (0 : Int) ≤ (h : Int) := by omega
          have bc9c : (h : Int) < (d.size : Int) := by omega
          have rc9c : IntKind.i64.wrap ((h : Int)) = (h : Int) := by rw [IntKind.wrap_i64]; omega
          obtain ⟨xc9, hxc9⟩ : ∃ x, x = d[pp - h]! := ⟨_, rfl⟩
          obtain ⟨yc9, hyc9⟩ : ∃ x, x = d[h]! := ⟨_, rfl⟩
          have lc9a := S1.out.ld R (by omega) P (pp - h) (by omega)
          have lc9b := S1.out.ld R (by omega) P (h) (by omega)
          rw [← hxc9] at lc9a
          rw [← hyc9] at lc9b
          have hcc9 := S1.out.cmp HC.out (by omega) xc9 yc9
          have hvc9 : cf xc9 yc9 < 0 := by rw [hxc9, hyc9]; exact of_decide_eq_true hlv
          have hdc9 : decide (cf xc9 yc9 < 0) = true := decide_eq_true hvc9
          clear hxc9 hyc9
          go_wp2_with fail
          go_quiet_grown (first | (go_at_fn g; refine Calls.grown_of (hcc9 _ _)))
          have S2 : Aside (SWK enc k w0 blk off d (grow (wr.drewN nq) osq)) := S1.out.grown nq osq
          clear lc9a lc9b hcc9 S1 ec9a pc9a bc9a rc9a ec9c pc9c bc9c rc9c
          generalize grow (wr.drewN nq) osq = w2 at S2 ⊢
          clear nq osq
          go_wp2
          go_roundg (h - st)
          case measure => omega
          case rel => exact ⟨st, h, rfl, by first | rfl | go_num | (congr 1; omega), j1, by omega, by omega, Nat.le_refl _, C1.out, Or.inr hlv, S2⟩
      · obtain rfl : st = r := by omega
        have hltz : ¬ (st : Int) < (st : Int) := by omega
        obtain ⟨en', e1, e2, ee⟩ : ∃ x : Nat, x + st ≤ nn ∧ nn ≤ x + st ∧ (nn : Int) - (st : Int) = (x : Int) := ⟨nn - st, by omega, by omega, by omega⟩
        have ree : IntKind.i64.wrap (en' : Int) = (en' : Int) := by rw [IntKind.wrap_i64]; omega
        have B1 : Aside (st = a ∨ en' = b ∨ ltOf cf d[en']! d[st - 1]! = false) := by
          show _ ∨ _ ∨ _
          have o1 := HO1.out
          have o2 := C1.out
          rcases o2 with o2 | o2
          · rcases o1 with o1 | o1
            · exact Or.inl (o2.trans o1)
            · exact Or.inr (Or.inl (by omega))
          · by_cases hz : st = 0
            · exact Or.inl (by omega)
            · rw [show pp - (st - 1) = en' by omega] at o2
              exact Or.inr (Or.inr o2)
        have B2 : Aside (st = m ∨ en' = m ∨ ltOf cf d[en' - 1]! d[st]! = true) := by
          show _ ∨ _ ∨ _
          have o1 := HO2.out
          have o2 := C2.out
          rcases o2 with o2 | o2
          · rcases o1 with o1 | o1
            · exact Or.inl (o2.trans o1)
            · exact Or.inr (Or.inl (by omega))
          · rw [show pp - st = en' - 1 by omega] at o2
            exact Or.inr (Or.inr o2)
        clear HO1 HO2 C1 C2
        have hmen : m ≤ en' := by omega
        have henb : en' ≤ b := by omega
        have hstm : st ≤ m := by omega
        have hstd : st ≤ md := by omega
        have hast : a ≤ st := by omega
        have hsum : st + en' = md + m := by omega
        have hmde : md ≤ en' := by omega
        go_upto_region 39 with (fail)
        obtain ⟨b185, hb185⟩ : ∃ v : Bool, v = (decide (st < m) && decide (m < en')) := ⟨_, rfl⟩
        have HB185 : Aside (b185 = (decide (st < m) && decide (m < en'))) := hb185
        clear hb185
        go_cut [185] (fun v wx => v = .bool b185 ∧ wx = wr)
        case first => as_aux_lemma =>
          by_cases q1 : st < m
          · have q1z : (st : Int) < (m : Int) := by omega
            by_cases q2 : m < en'
            · have q2z : (m : Int) < (en' : Int) := by omega
              have hbv : Aside (b185 = true) := by
                show _ = _
                rw [HB185.out]; simp [q1, q2]
              go_wp2_with fail
              go_meet
              exact ⟨congrArg Value.bool hbv.out.symm, rfl⟩
            · have q2z : ¬ (m : Int) < (en' : Int) := by omega
              have hbv : Aside (b185 = false) := by
                show _ = _
                rw [HB185.out]; simp [q2]
              go_wp2_with fail
              go_meet
              exact ⟨congrArg Value.bool hbv.out.symm, rfl⟩
          · have q1z : ¬ (st : Int) < (m : Int) := by omega
            have hbv : Aside (b185 = false) := by
              show _ = _
              rw [HB185.out]; simp [q1]
            go_wp2_with fail
            go_meet
            exact ⟨congrArg Value.bool hbv.out.symm, rfl⟩
        case rest => as_aux_lemma =>
          obtain ⟨rfl, hwc⟩ := hcut
          have hwc2 := hwc.symm
          subst hwc2
          go_upto_if 185 with (fail)
          have HH : ∀ d1, Rot d st (m - st) (en' - m) d1 → SortedIn (ltOf cf) a m d → SortedIn (ltOf cf) m b d → Halves (ltOf cf) a st md en' b d1 := fun d1 hR hA hB => halves_of hO hast hstm hmen henb hsum hA hB B1.out B2.out hR
          have HL : Aside _ := HH
          clear HH B1 B2
          go_cut [] (fun wx => ∃ d1 : Array α, PermIn a b d d1 ∧ (SortedIn (ltOf cf) a m d → SortedIn (ltOf cf) m b d → Halves (ltOf cf) a st md en' b d1) ∧ SWK enc k w0 blk off d1 wx)
          case first => as_aux_lemma =>
            cases b185 with
            | true =>
              have hq := HB185.out.symm
              simp only [Bool.and_eq_true, decide_eq_true_eq] at hq
              obtain ⟨q1, q2⟩ := hq
              have hrot := rotate_any L k zE enc g cb blk off cap st m en' d0 d w0 wr R hs S1.out q1 q2 (by omega) hsz
              go_wp2_with (go_at_fn 74; refine hrot.mono ?_; rintro e w5 ⟨rfl, d5, hR5, hP5, hS5⟩)
              go_meet
              exact ⟨d5, permIn_mono _ _ _ _ _ _ hast henb hb hP5, HL.out d5 hR5, hS5⟩
            | false =>
              have hq := HB185.out.symm
              simp only [Bool.and_eq_false_iff, decide_eq_false_iff_not] at hq
              have HQ : Aside _ := hq
              clear hq
              go_wp2_with fail
              go_meet
              refine ⟨d, permIn_refl _ _ _, HL.out d ?_, S1.out⟩
              rcases HQ.out with q | q
              · rw [show m - st = 0 by omega]; exact rot_left _ _ _
              · rw [show en' - m = 0 by omega]; exact rot_right _ _ _
          case rest => as_aux_lemma =>
            obtain ⟨d1, hP1, hH1, hS1⟩ := hcut
            have P1 : Aside (PermIn a b d d1) := hP1
            have H1 : Aside (SortedIn (ltOf cf) a m d → SortedIn (ltOf cf) m b d → Halves (ltOf cf) a st md en' b d1) := hH1
            have T1 : Aside (SWK enc k w0 blk off d1 wc) := hS1
            have hd1 : d1.size = d.size := hP1.1
            clear HL S1 hP1 hH1 hS1 HB185
            generalize wc = w6 at *
            go_upto_region 41 with (fail)
            obtain ⟨b199, hb199⟩ : ∃ v : Bool, v = (decide (a < st) && decide (st < md)) := ⟨_, rfl⟩
            have HB199 : Aside (b199 = (decide (a < st) && decide (st < md))) := hb199
            clear hb199
            go_cut [199] (fun v wx => v = .bool b199 ∧ wx = w6)
            case first => as_aux_lemma =>
              by_cases q1 : a < st
              · have q1z : (a : Int) < (st : Int) := by omega
                by_cases q2 : st < md
                · have q2z : (st : Int) < (md : Int) := by omega
                  have hbv : Aside (b199 = true) := by
                    show _ = _
                    rw [HB199.out]; simp [q1, q2]
                  go_wp2_with fail
                  go_meet
                  exact ⟨congrArg Value.bool hbv.out.symm, rfl⟩
                · have q2z : ¬ (st : Int) < (md : Int) := by omega
                  have hbv : Aside (b199 = false) := by
                    show _ = _
                    rw [HB199.out]; simp [q2]
                  go_wp2_with fail
                  go_meet
                  exact ⟨congrArg Value.bool hbv.out.symm, rfl⟩
              · have q1z : ¬ (a : Int) < (st : Int) := by omega
                have hbv : Aside (b199 = false) := by
                  show _ = _
                  rw [HB199.out]; simp [q1]
                go_wp2_with fail
                go_meet
                exact ⟨congrArg Value.bool hbv.out.symm, rfl⟩
            case rest => as_aux_lemma =>
              obtain ⟨rfl, hwc⟩ := hcut
              have hwc2 := hwc.symm
              subst hwc2
              go_upto_if 199 with (fail)
              go_cut [] (fun wx => ∃ d2 : Array α, PermIn a md d1 d2 ∧ (SortedIn (ltOf cf) a st d1 → SortedIn (ltOf cf) st md d1 → SortedIn (ltOf cf) a md d2) ∧ SWK enc k w0 blk off d2 wx)
              case first => as_aux_lemma =>
                cases b199 with
                | true =>
                  have hq := HB199.out.symm
                  simp only [Bool.and_eq_true, decide_eq_true_eq] at hq
                  obtain ⟨q1, q2⟩ := hq
                  have hih := IH.out a st md d1 w6 (by omega) (by omega) T1.out q1 q2 (by omega)
                  rw [hd1] at hih
                  go_wp2_with (go_at_fn 61; refine hih.mono ?_; rintro e w7 ⟨rfl, d7, hP7, hM7, hS7⟩)
                  go_meet
                  exact ⟨d7, hP7, hM7, hS7⟩
                | false =>
                  have hq := HB199.out.symm
                  simp only [Bool.and_eq_false_iff, decide_eq_false_iff_not] at hq
                  have HQ : Aside _ := hq
                  clear hq
                  go_wp2_with fail
                  go_meet
                  refine ⟨d1, permIn_refl _ _ _, fun u1 u2 => ?_, T1.out⟩
                  rcases HQ.out with q | q
                  · rw [show st = a by omega] at u2; exact u2
                  · rw [show st = md by omega] at u1; exact u1
              case rest => as_aux_lemma =>
                obtain ⟨d2, hP2, hM2, hS2⟩ := hcut
                have P2 : Aside (PermIn a md d1 d2) := hP2
                have M2 : Aside (SortedIn (ltOf cf) a st d1 → SortedIn (ltOf cf) st md d1 → SortedIn (ltOf cf) a md d2) := hM2
                have T2 : Aside (SWK enc k w0 blk off d2 wc) := hS2
                have hd2 : d2.size = d.size := hP2.1.trans hd1
                clear T1 hP2 hM2 hS2 HB199
                generalize wc = w8 at *
                go_upto_region 43 with (fail)
                obtain ⟨b213, hb213⟩ : ∃ v : Bool, v = (decide (md < en') && decide (en' < b)) := ⟨_, rfl⟩
                have HB213 : Aside (b213 = (decide (md < en') && decide (en' < b))) := hb213
                clear hb213
                go_cut [213] (fun v wx => v = .bool b213 ∧ wx = w8)
                case first => as_aux_lemma =>
                  by_cases q1 : md < en'
                  · have q1z : (md : Int) < (en' : Int) := by omega
                    by_cases q2 : en' < b
                    · have q2z : (en' : Int) < (b : Int) := by omega
                      have hbv : Aside (b213 = true) := by
                        show _ = _
                        rw [HB213.out]; simp [q1, q2]
                      go_wp2_with fail
                      go_meet
                      exact ⟨congrArg Value.bool hbv.out.symm, rfl⟩
                    · have q2z : ¬ (en' : Int) < (b : Int) := by omega
                      have hbv : Aside (b213 = false) := by
                        show _ = _
                        rw [HB213.out]; simp [q2]
                      go_wp2_with fail
                      go_meet
                      exact ⟨congrArg Value.bool hbv.out.symm, rfl⟩
                  · have q1z : ¬ (md : Int) < (en' : Int) := by omega
                    have hbv : Aside (b213 = false) := by
                      show _ = _
                      rw [HB213.out]; simp [q1]
                    go_wp2_with fail
                    go_meet
                    exact ⟨congrArg Value.bool hbv.out.symm, rfl⟩
                case rest => as_aux_lemma =>
                  obtain ⟨rfl, hwc⟩ := hcut
                  have hwc2 := hwc.symm
                  subst hwc2
                  have FIN : Aside (∀ d3, PermIn md b d2 d3 → (SortedIn (ltOf cf) md en' d2 → SortedIn (ltOf cf) en' b d2 → SortedIn (ltOf cf) md b d3) → PermIn a b d d3 ∧ (SortedIn (ltOf cf) a m d → SortedIn (ltOf cf) m b d → SortedIn (ltOf cf) a b d3)) := by
                    intro d3 hP3 hM3
                    refine ⟨permIn_trans _ _ _ _ _ P1.out (permIn_trans _ _ _ _ _ (permIn_mono _ _ _ _ _ _ (Nat.le_refl _) (by omega) (by omega) P2.out) (permIn_mono _ _ _ _ _ _ (by omega) (Nat.le_refl _) (by omega) hP3)), fun hA hB => ?_⟩
                    have h := H1.out hA hB
                    exact halves_done (mid := md) (by omega) (by omega) h.cross P2.out (M2.out h.s1 h.s2) hP3 (hM3 (permIn_sorted_out P2.out h.s3 (Or.inr (Nat.le_refl _))) (permIn_sorted_out P2.out h.s4 (Or.inr (by omega))))
                  cases b213 with
                  | true =>
                    have hq := HB213.out.symm
                    simp only [Bool.and_eq_true, decide_eq_true_eq] at hq
                    obtain ⟨q1, q2⟩ := hq
                    have hih := IH.out md en' b d2 w8 (by omega) (by omega) T2.out q1 q2 (by omega)
                    rw [hd2] at hih
                    go_wp2_with (go_at_fn 61; refine hih.mono ?_; rintro e w9 ⟨rfl, d9, hP9, hM9, hS9⟩)
                    go_end0
                    exact ⟨rfl, d9, (FIN.out d9 hP9 hM9).1, (FIN.out d9 hP9 hM9).2, hS9⟩
                  | false =>
                    have hq := HB213.out.symm
                    simp only [Bool.and_eq_false_iff, decide_eq_false_iff_not] at hq
                    have HQ : Aside _ := hq
                    clear hq
                    have hM : SortedIn (ltOf cf) md en' d2 → SortedIn (ltOf cf) en' b d2 → SortedIn (ltOf cf) md b d2 := fun u1 u2 => by
                      rcases HQ.out with q | q
                      · rw [show en' = md by omega] at u2; exact u2
                      · rw [show en' = b by omega] at u1; exact u1
                    have HM : Aside _ := hM
                    clear hM
                    go_wp2_with fail
                    go_end0
                    exact ⟨rfl, d2, (FIN.out d2 (permIn_refl _ _ _) HM.out).1, (FIN.out d2 (permIn_refl _ _ _) HM.out).2, T2.out⟩

set_option maxRecDepth 1000000 in
theorem sym_any {P : Program} {α : Type} [Inhabited α] (L : StabLays P) (k : Nat) (zE : ∀ w, (Go.sizeOf 66).run P w = .ok k w) (enc : α → List Value) (cf : α → α → Int) (hO : SWO (ltOf cf)) (g : Nat) (cb : Array Value) (blk off cap : Nat) (d0 : Array α) (w0 : World)
    (eg : ∀ args w, (callFunc g args).run P w = .ok (.enter g args) w) (hcmp : CmpLays P g cb enc k cf blk off d0.size w0) (R : RowK enc k w0 blk off d0) (hsz : d0.size < 4611686018427387904) :
    ∀ (N a m b : Nat) (d : Array α) (w : World), b - a ≤ N → d0.size = d.size → SWK enc k w0 blk off d w → a < m → m < b → b ≤ d.size →
    Calls P 61 #[.slice (some ⟨blk, off, none⟩) d.size cap, .int .i64 a, .int .i64 m, .int .i64 b, .func (.func g) #[] cb] w fun e w' => e = .returned (.tuple #[]) ∧ ∃ d', PermIn a b d d' ∧ (SortedIn (ltOf cf) a m d → SortedIn (ltOf cf) m b d → SortedIn (ltOf cf) a b d') ∧ SWK enc k w0 blk off d' w' := by
  intro N
  induction N with
  | zero => intro a m b d w h1 _ _ h2 h3; omega
  | succ N ih =>
    intro a m b d w hN hs S ham hmb hb
    by_cases h1 : m - a = 1
    · exact sym_first L k zE enc cf hO g cb blk off cap d0 w0 eg hcmp R hsz a m b d w hs S ham hmb hb h1
    · by_cases h2 : b - m = 1
      · exact sym_last L k zE enc cf hO g cb blk off cap d0 w0 eg hcmp R hsz a m b d w hs S ham hmb hb h1 h2
      · exact sym_gen L k zE enc cf hO g cb blk off cap d0 w0 eg hcmp R hsz a m b d w hs S ham hmb hb h1 h2 (fun a' m' b' d' w' hlt => ih a' m' b' d' w' (by omega))
end Go.Proofs.Ytleiiedacachjaa
