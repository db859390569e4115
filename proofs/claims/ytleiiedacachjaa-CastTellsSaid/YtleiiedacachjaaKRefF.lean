/- bourneref29.Order: the news, sorted by insertion. -/
import Derived.Test.YtleiiedacachjaaKRefE
import Derived.Test.YtleiiedacachjaaKRefB
import Derived.Deep.DeepCutAuto
import Derived.Deep.CutBlock
namespace Go.Proofs.Ytleiiedacachjaa
open Go.RowKit
theorem src_own {w : World} {base n s : Nat} {e : TypeId} {a : Option Addr} {c : Nat} {xs : List Value} (h : w.ownsRow base e s (.slice a n c) n xs) : ∀ (w' : World), Below w.heap.size w w' → ∀ j u, xs[j]? = some u → ∃ p, a = some p ∧ w'.cell? (p.add j) = some u := fun w' hb j u hu => by
  rcases owns_cell h with ⟨rfl, rfl, rfl, rfl⟩ | ⟨g, rfl, hnc, hg, hgl, hl, hc⟩
  · simp at hu
  · refine ⟨_, rfl, ?_⟩
    rw [Addr.add_mid, Nat.zero_add]
    exact (hb.cell (p := ⟨g, j, none⟩) hgl).trans (hc _ _ hu)
theorem elemNl : Try.prog.elem 22 = 29 := by kernel_rfl
theorem cell_of_block {w w' : World} {g o : Nat} (h : w'.heap[g]? = w.heap[g]?) : w'.cell? ⟨g, o, none⟩ = w.cell? ⟨g, o, none⟩ := by
  unfold World.cell?
  simp only [h]
theorem lt_of_not {a b : List UInt8} (h : ¬ b < a) (h2 : ¬ a = b) : a < b := by
  rw [List.not_lt] at h
  rcases Decidable.em (a < b) with h3 | h3
  · exact h3
  · rw [List.not_lt] at h3
    exact absurd (List.le_antisymm h h3) h2
set_option maxRecDepth 100000 in
set_option maxHeartbeats 8000000 in
theorem rorder_any (L : List CodE) (a : Option Addr) (c : Nat) (w : World)
    (hat : ∀ (i : Nat) (q : CodE), L[i]? = some q → ∃ b o, a = some ⟨b, o, none⟩ ∧ b < w.heap.size ∧ w.rangeAt b (o + i * 5) (cellsQ q))
    (hr : ∀ q ∈ L, LArg (RList RSpan 2) 1 (.slice q.a q.x.cast.rain.length q.c) q.x.cast.rain w) (hI : ∀ q ∈ L, NewsI q.x) (hF : ∀ q ∈ L, FewN q.x) (hl : L.length ≤ 40) :
    Calls Try.prog 24 #[.slice a L.length c] w fun e w' => ∃ (L' : List CodE) (v : Value), e = .returned v ∧ L'.Perm L ∧ L'.Pairwise KeyLe ∧ w'.ownsRow w.heap.size 29 5 v L'.length (L'.flatMap cellsQ) ∧ Below w.heap.size w w' := by
  obtain ⟨iN, zN, hiN, hszN, hzN, hczN, hbN⟩ := infoNw56
  have HAT := Lib.hid hat
  have HR := Lib.hid hr
  have HI := Lib.hid hI
  have HF := Lib.hid hF
  clear hat hr hI hF
  go_enter Try.func24, Try.ntmps24
  go_wp2_with fail
  go_loopw [3, 4, 5, 6] (fun tv iv _ _ wr => ∃ (k : Nat) (Lo : List CodE), k ≤ L.length ∧ iv = .int .i64 (k : Int) ∧ Lo.Perm (L.take k) ∧ Lo.Pairwise KeyLe ∧ wr.ownsRow w.heap.size 29 5 tv k (Lo.flatMap cellsQ) ∧ Below w.heap.size w wr) (fun _ iv _ _ _ => L.length - (intOf iv).toNat)
  case atStart => exact ⟨0, [], Nat.zero_le _, rfl, List.Perm.nil, List.Pairwise.nil, World.ownsRow_nil _ _ _ _, Below.refl _ _⟩
  case round =>
    obtain ⟨k, Lo, hk, rfl, hp, hs, ho, hB⟩ := hrel
    rename Value => tv
    obtain ⟨ao, co, rfl⟩ := owns_slice ho
    have HPO := Lib.hid hp
    have HSO := Lib.hid hs
    have HO := Lib.hid ho
    have HBr := Lib.hid hB
    have HLK : Hid (Lo.length = k) := Lib.hid (by rw [hp.length_eq, List.length_take]; omega)
    clear hp hs ho hB
    by_cases hlt : k < L.length
    · obtain ⟨q, hq⟩ : ∃ q, L[k]? = some q := ⟨_, List.getElem?_eq_getElem hlt⟩
      obtain ⟨b, o, rfl, hbl, hrg⟩ := HAT.out k q hq
      have hmq := List.mem_of_getElem? hq
      have HU := Lib.hid (HR.out q hmq)
      have HNI := Lib.hid (HI.out q hmq)
      have HFW := Lib.hid (HF.out q hmq)
      unfold cellsQ entC cellsE cellsN at hrg
      dsimp only at hrg
      have HRG0 := Lib.hid hrg
      have HRGL0 := Lib.hid hbl
      have HRQ := Lib.hid (range_below hrg HBr.out hbl)
      have HRQL := Lib.hid (Nat.lt_of_lt_of_le hbl HBr.out.size)
      have HQ := Lib.hid hq
      have hltk : (k : Int) < (L.length : Int) := by omega
      clear hrg hbl hq hmq
      go_wp2_with fail
      go_loopw [5] (fun av wy => ∃ m : Nat, m ≤ k ∧ av = .int .i64 (m : Int) ∧ (∀ (j : Nat) (p : CodE), m ≤ j → Lo[j]? = some p → newsB q.x < newsB p.x) ∧ Below wr.heap.size wr wy) (fun av _ => (intOf av).toNat)
      case atStart => exact ⟨k, Nat.le_refl _, rfl, fun j p hj hp => absurd (List.getElem?_eq_some_iff.1 hp).1 (by rw [HLK.out]; omega), Below.refl _ _⟩
      case round =>
        rename World => wy
        obtain ⟨m, hm, rfl, hall, hB⟩ := hrel
        have HALL := Lib.hid hall
        have HBy := Lib.hid hB
        clear hall hB
        go_upto_region 6 with fail
        obtain ⟨tb, htb⟩ : ∃ tb : Bool, (tb = true → ∃ (mp : Nat) (p : CodE), m = mp + 1 ∧ Lo[mp]? = some p ∧ newsB q.x < newsB p.x) ∧ (tb = false → m = 0 ∨ ∃ p, Lo[m - 1]? = some p ∧ ¬ newsB q.x < newsB p.x) := by
          cases m with
          | zero => exact ⟨false, fun h => by (cases h), fun _ => Or.inl rfl⟩
          | succ mp =>
            obtain ⟨p, hp⟩ : ∃ p, Lo[mp]? = some p := ⟨_, List.getElem?_eq_getElem (by rw [HLK.out]; omega)⟩
            by_cases hc : newsB q.x < newsB p.x
            · exact ⟨true, fun _ => ⟨mp, p, rfl, hp, hc⟩, fun h => by (cases h)⟩
            · exact ⟨false, fun h => by (cases h), fun _ => Or.inr ⟨p, by simpa using hp, hc⟩⟩
        have HTB := Lib.hid htb
        clear htb
        go_cut [30] (fun v wx => v = .bool tb ∧ Below wr.heap.size wr wx)
        case first =>
          by_cases hp0 : 0 < m
          · obtain ⟨mp, hmp⟩ : ∃ mp, mp + 1 = m := ⟨m - 1, by omega⟩
            obtain ⟨p, hp⟩ : ∃ p, Lo[mp]? = some p := ⟨_, List.getElem?_eq_getElem (by rw [HLK.out]; omega)⟩
            have hpl := (HPO.out.mem_iff.1 (List.mem_of_getElem? hp))
            have hmemp := List.mem_of_mem_take hpl
            have HUP := Lib.hid (HR.out p hmemp)
            have HNP := Lib.hid (HI.out p hmemp)
            have HFP := Lib.hid (HF.out p hmemp)
            obtain ⟨go, rfl, hgo, hrgp⟩ : ∃ g, ao = some ⟨g, 0, none⟩ ∧ g < wr.heap.size ∧ wr.rangeAt g (mp * 5) [.int .i64 p.x.kind, .int .i64 p.x.known, .int .i64 p.x.cast.id, .int .i64 p.x.cast.src, .slice p.a p.x.cast.rain.length p.c] := by
              rcases owns_cell HO.out with ⟨-, h0, -, -⟩ | ⟨g, e, -, -, hgl, -, hc⟩
              · omega
              · refine ⟨g, e, hgl, fun j u hu => ?_⟩
                exact hc _ _ (flat_getG cellsQ_len Lo mp p hp j u hu)
            have HRP := Lib.hid hrgp
            have HRPL := Lib.hid hgo
            have hz : (0 : Int) < (m : Int) := by omega
            have em : (m : Int) - 1 = (mp : Int) := by omega
            have rm : IntKind.i64.wrap (mp : Int) = (mp : Int) := by rw [IntKind.wrap_i64]; omega
            have hltp : (mp : Int) < (k : Int) := by omega
            have HPX := Lib.hid hp
            clear hrgp hgo hp hpl hmemp
            by_cases hc : newsB q.x < newsB p.x
            · have hb1 : Op.bytesLess (newsB p.x) (newsB q.x) = false := less_is (decide_eq_false (fun h => absurd (List.lt_trans h hc) (List.lt_irrefl _)))
              have hb2 : (newsB p.x == newsB q.x) = false := beq_is (decide_eq_false (fun h => by rw [h] at hc; exact List.lt_irrefl _ hc))
              have HT : Hid (tb = true) := Lib.hid (by
                cases tb with
                | true => rfl
                | false =>
                  rcases HTB.out.2 rfl with h | ⟨p', h1, h2⟩
                  · omega
                  · rw [show m - 1 = mp by omega, HPX.out] at h1; cases h1; exact absurd hc h2)
              clear hmp
              refine wp_region_noPanic ?_
              refine wp_region_held_drew (S := fun w' => Below wr.heap.size wr w') (by kernel_rfl) HBy.out.drew (fun hHeld => ?_)
              refine' wpAnyH_take (i := 0) (v := _) (by simp only [List.getElem?_toArray, List.getElem?_cons_zero]; exact rfl) (by kernel_rfl) (by kernel_rfl) (by kernel_rfl) (fun _ _ _ h => h) (Or.inl ⟨by rfl, ?y0x12⟩) hHeld ?r0x12
              case y0x12 => (intro w hSw; (try dsimp only at hSw); go_simp; try with_reducible rfl)
              try simp only [Act.put, List.setIfInBounds_toArray, List.set_cons_zero, List.set_cons_succ]
              refine' wpAnyH_take (i := 1) (v := _) (by simp only [List.getElem?_toArray, List.getElem?_cons_succ, List.getElem?_cons_zero]; exact rfl) (by kernel_rfl) (by kernel_rfl) (by kernel_rfl) (fun _ _ _ h => h) (Or.inl ⟨by rfl, ?y1x13⟩) hHeld ?r1x13
              case y1x13 => (intro w hSw; (try dsimp only at hSw); go_simp; try with_reducible rfl)
              try simp only [Act.put, List.setIfInBounds_toArray, List.set_cons_zero, List.set_cons_succ]
              refine' wpAnyH_take (i := 2) (v := _) (by simp only [List.getElem?_toArray, List.getElem?_cons_succ, List.getElem?_cons_zero]; exact rfl) (by kernel_rfl) (by kernel_rfl) (by kernel_rfl) (fun _ _ _ h => h) (Or.inl ⟨by rfl, ?y2x14⟩) hHeld ?r2x14
              case y2x14 => (intro w hSw; (try dsimp only at hSw); go_simp; try with_reducible rfl)
              try simp only [Act.put, List.setIfInBounds_toArray, List.set_cons_zero, List.set_cons_succ]
              refine' wpAnyH_take (i := 3) (v := _) (by simp only [List.getElem?_toArray, List.getElem?_cons_succ, List.getElem?_cons_zero]; exact rfl) (by kernel_rfl) (by kernel_rfl) (by kernel_rfl) (fun _ _ _ h => h) (Or.inl ⟨by rfl, ?y3x15⟩) hHeld ?r3x15
              case y3x15 => (intro w hSw; (try dsimp only at hSw); go_simp; try with_reducible rfl)
              try simp only [Act.put, List.setIfInBounds_toArray, List.set_cons_zero, List.set_cons_succ]
              refine' wpAnyH_take (i := 4) (v := _) (by simp only [List.getElem?_toArray, List.getElem?_cons_succ, List.getElem?_cons_zero]; exact rfl) (by kernel_rfl) (by kernel_rfl) (by kernel_rfl) (fun _ _ _ h => h) (Or.inl ⟨by rfl, ?y4x16⟩) hHeld ?r4x16
              case y4x16 => (intro w hSw; (try dsimp only at hSw); go_simp; try with_reducible rfl)
              try simp only [Act.put, List.setIfInBounds_toArray, List.set_cons_zero, List.set_cons_succ]
              refine' wpAnyH_take (i := 5) (v := _) (by simp only [List.getElem?_toArray, List.getElem?_cons_succ, List.getElem?_cons_zero]; exact rfl) (by kernel_rfl) (by kernel_rfl) (by kernel_rfl) (fun _ _ _ h => h) (Or.inl ⟨by rfl, ?y5x17⟩) hHeld ?r5x17
              case y5x17 => (intro w hSw; (try dsimp only at hSw); go_simp; try with_reducible rfl)
              try simp only [Act.put, List.setIfInBounds_toArray, List.set_cons_zero, List.set_cons_succ]
              refine' wpAnyH_take (i := 6) (v := _) (by simp only [List.getElem?_toArray, List.getElem?_cons_succ, List.getElem?_cons_zero]; exact rfl) (by kernel_rfl) (by kernel_rfl) (by kernel_rfl) (fun _ _ _ h => h) (Or.inl ⟨by rfl, ?y6x18⟩) hHeld ?r6x18
              case y6x18 => (intro w hSw; (try dsimp only at hSw); go_simp; try with_reducible rfl)
              try simp only [Act.put, List.setIfInBounds_toArray, List.set_cons_zero, List.set_cons_succ]
              refine' wpAnyH_take (i := 7) (v := _) (by simp only [List.getElem?_toArray, List.getElem?_cons_succ, List.getElem?_cons_zero]; exact rfl) (by kernel_rfl) (by kernel_rfl) (by kernel_rfl) (fun _ _ _ h => h) (Or.inl ⟨by rfl, ?y7x19⟩) hHeld ?r7x19
              case y7x19 => (intro wz hSw; refine exec_load_range 29 ?_ ?_ _ _ ?_ _ _ (range_below HRP.out hSw HRPL.out) undNw rfl infoNw; rotate_left 1; exact rfl; exact rfl)
              try simp only [Act.put, List.setIfInBounds_toArray, List.set_cons_zero, List.set_cons_succ]
              refine' wpAnyH_take (i := 9) (v := _) (by simp only [List.getElem?_toArray, List.getElem?_cons_succ, List.getElem?_cons_zero]; exact rfl) (by kernel_rfl) (by kernel_rfl) (by kernel_rfl) (fun _ _ _ h => h) (Or.inl ⟨by rfl, ?y9x20⟩) hHeld ?r9x20
              case y9x20 => (intro w hSw; (try dsimp only at hSw); go_simp; try with_reducible rfl)
              try simp only [Act.put, List.setIfInBounds_toArray, List.set_cons_zero, List.set_cons_succ]
              refine' wpAnyH_take (i := 10) (v := _) (by simp only [List.getElem?_toArray, List.getElem?_cons_succ, List.getElem?_cons_zero]; exact rfl) (by kernel_rfl) (by kernel_rfl) (by kernel_rfl) (fun _ _ _ h => h) (Or.inl ⟨by rfl, ?y10x21⟩) hHeld ?r10x21
              case y10x21 => (intro w hSw; (try dsimp only at hSw); go_simp; try with_reducible rfl)
              try simp only [Act.put, List.setIfInBounds_toArray, List.set_cons_zero, List.set_cons_succ]
              refine' wpAnyH_take (i := 11) (v := _) (by simp only [List.getElem?_toArray, List.getElem?_cons_succ, List.getElem?_cons_zero]; exact rfl) (by kernel_rfl) (by kernel_rfl) (by kernel_rfl) (fun _ _ _ h => h) (Or.inl ⟨by rfl, ?y11x22⟩) hHeld ?r11x22
              case y11x22 => (intro w hSw; (try dsimp only at hSw); go_simp; try with_reducible rfl)
              try simp only [Act.put, List.setIfInBounds_toArray, List.set_cons_zero, List.set_cons_succ]
              refine' wpAnyH_take (i := 12) (v := _) (by simp only [List.getElem?_toArray, List.getElem?_cons_succ, List.getElem?_cons_zero]; exact rfl) (by kernel_rfl) (by kernel_rfl) (by kernel_rfl) (fun _ _ _ h => h) (Or.inl ⟨by rfl, ?y12x23⟩) hHeld ?r12x23
              case y12x23 => (intro wz hSw; refine exec_load_range 29 ?_ ?_ _ _ ?_ _ _ (range_below HRQ.out hSw HRQL.out) undNw rfl infoNw; rotate_left 1; exact rfl; exact rfl)
              try simp only [Act.put, List.setIfInBounds_toArray, List.set_cons_zero, List.set_cons_succ]
              refine wpAnyH_ready (rs := [8]) (by kernel_rfl) (by simp) ?_
              refine AllReadyH.cons (by simp only [List.getElem?_toArray, List.getElem?_cons_succ, List.getElem?_cons_zero]; exact rfl) (fun K hK => ?_) AllReadyH.nil
              go_simp
              refine (rbytes_any p.x (.slice p.a p.x.cast.rain.length p.c) _ (HUP.out.below (stays_list stays_Span 2) (HBr.out.trans (hHeld.mono HBr.out.size))) HNP.out.1 HNP.out.2 HFP.out.1 HFP.out.2).mono ?_
              rintro e w' ⟨rfl, hb⟩
              refine hK.out _ _ (hHeld.trans (hb.mono hHeld.size)) (fun hHeld => ?_)
              clear hK K hb
              try simp only [Act.put, List.setIfInBounds_toArray, List.set_cons_zero, List.set_cons_succ]
              refine wpAnyH_ready (rs := [13]) (by kernel_rfl) (by simp) ?_
              refine AllReadyH.cons (by simp only [List.getElem?_toArray, List.getElem?_cons_succ, List.getElem?_cons_zero]; exact rfl) (fun K hK => ?_) AllReadyH.nil
              go_simp
              refine (rbytes_any q.x (.slice q.a q.x.cast.rain.length q.c) _ (HU.out.below (stays_list stays_Span 2) (HBr.out.trans (hHeld.mono HBr.out.size))) HNI.out.1 HNI.out.2 HFW.out.1 HFW.out.2).mono ?_
              rintro e w' ⟨rfl, hb⟩
              refine hK.out _ _ (hHeld.trans (hb.mono hHeld.size)) (fun hHeld => ?_)
              clear hK K hb
              try simp only [Act.put, List.setIfInBounds_toArray, List.set_cons_zero, List.set_cons_succ]
              refine' wpAnyH_take (i := 14) (v := _) (by simp only [List.getElem?_toArray, List.getElem?_cons_succ, List.getElem?_cons_zero]; exact rfl) (by kernel_rfl) (by kernel_rfl) (by kernel_rfl) (fun _ _ _ h => h) (Or.inl ⟨by rfl, ?y14x24⟩) hHeld ?r14x24
              case y14x24 => (intro w hSw; (try dsimp only at hSw); go_simp; try with_reducible rfl)
              try simp only [Act.put, List.setIfInBounds_toArray, List.set_cons_zero, List.set_cons_succ]
              refine' wpAnyH_take (i := 15) (v := _) (by simp only [List.getElem?_toArray, List.getElem?_cons_succ, List.getElem?_cons_zero]; exact rfl) (by kernel_rfl) (by kernel_rfl) (by kernel_rfl) (fun _ _ _ h => h) (Or.inl ⟨by rfl, ?y15x25⟩) hHeld ?r15x25
              case y15x25 => (intro w hSw; (try dsimp only at hSw); go_simp; try with_reducible rfl)
              try simp only [Act.put, List.setIfInBounds_toArray, List.set_cons_zero, List.set_cons_succ]
              refine wpAnyH_done (by kernel_rfl) ?_ _
              refine NoPanic.normal ?_
              go_wp2_with fail
              go_meet
              exact ⟨congrArg Value.bool HT.out.symm, hHeld⟩
            · have HT : Hid (tb = false) := Lib.hid (by
                cases tb with
                | false => rfl
                | true =>
                  obtain ⟨mp', p', h0, h1, h2⟩ := HTB.out.1 rfl
                  obtain rfl : mp' = mp := by omega
                  rw [HPX.out] at h1; cases h1; exact absurd h2 hc)
              clear hmp
              by_cases he : newsB p.x = newsB q.x
              · have hb1 : Op.bytesLess (newsB p.x) (newsB q.x) = false := less_is (by rw [he]; exact decide_eq_false (List.lt_irrefl _))
                have hb2 : (newsB p.x == newsB q.x) = true := beq_is (decide_eq_true he)
                refine wp_region_noPanic ?_
                refine wp_region_held_drew (S := fun w' => Below wr.heap.size wr w') (by kernel_rfl) HBy.out.drew (fun hHeld => ?_)
                refine' wpAnyH_take (i := 0) (v := _) (by simp only [List.getElem?_toArray, List.getElem?_cons_zero]; exact rfl) (by kernel_rfl) (by kernel_rfl) (by kernel_rfl) (fun _ _ _ h => h) (Or.inl ⟨by rfl, ?y0x26⟩) hHeld ?r0x26
                case y0x26 => (intro w hSw; (try dsimp only at hSw); go_simp; try with_reducible rfl)
                try simp only [Act.put, List.setIfInBounds_toArray, List.set_cons_zero, List.set_cons_succ]
                refine' wpAnyH_take (i := 1) (v := _) (by simp only [List.getElem?_toArray, List.getElem?_cons_succ, List.getElem?_cons_zero]; exact rfl) (by kernel_rfl) (by kernel_rfl) (by kernel_rfl) (fun _ _ _ h => h) (Or.inl ⟨by rfl, ?y1x27⟩) hHeld ?r1x27
                case y1x27 => (intro w hSw; (try dsimp only at hSw); go_simp; try with_reducible rfl)
                try simp only [Act.put, List.setIfInBounds_toArray, List.set_cons_zero, List.set_cons_succ]
                refine' wpAnyH_take (i := 2) (v := _) (by simp only [List.getElem?_toArray, List.getElem?_cons_succ, List.getElem?_cons_zero]; exact rfl) (by kernel_rfl) (by kernel_rfl) (by kernel_rfl) (fun _ _ _ h => h) (Or.inl ⟨by rfl, ?y2x28⟩) hHeld ?r2x28
                case y2x28 => (intro w hSw; (try dsimp only at hSw); go_simp; try with_reducible rfl)
                try simp only [Act.put, List.setIfInBounds_toArray, List.set_cons_zero, List.set_cons_succ]
                refine' wpAnyH_take (i := 3) (v := _) (by simp only [List.getElem?_toArray, List.getElem?_cons_succ, List.getElem?_cons_zero]; exact rfl) (by kernel_rfl) (by kernel_rfl) (by kernel_rfl) (fun _ _ _ h => h) (Or.inl ⟨by rfl, ?y3x29⟩) hHeld ?r3x29
                case y3x29 => (intro w hSw; (try dsimp only at hSw); go_simp; try with_reducible rfl)
                try simp only [Act.put, List.setIfInBounds_toArray, List.set_cons_zero, List.set_cons_succ]
                refine' wpAnyH_take (i := 4) (v := _) (by simp only [List.getElem?_toArray, List.getElem?_cons_succ, List.getElem?_cons_zero]; exact rfl) (by kernel_rfl) (by kernel_rfl) (by kernel_rfl) (fun _ _ _ h => h) (Or.inl ⟨by rfl, ?y4x30⟩) hHeld ?r4x30
                case y4x30 => (intro w hSw; (try dsimp only at hSw); go_simp; try with_reducible rfl)
                try simp only [Act.put, List.setIfInBounds_toArray, List.set_cons_zero, List.set_cons_succ]
                refine' wpAnyH_take (i := 5) (v := _) (by simp only [List.getElem?_toArray, List.getElem?_cons_succ, List.getElem?_cons_zero]; exact rfl) (by kernel_rfl) (by kernel_rfl) (by kernel_rfl) (fun _ _ _ h => h) (Or.inl ⟨by rfl, ?y5x31⟩) hHeld ?r5x31
                case y5x31 => (intro w hSw; (try dsimp only at hSw); go_simp; try with_reducible rfl)
                try simp only [Act.put, List.setIfInBounds_toArray, List.set_cons_zero, List.set_cons_succ]
                refine' wpAnyH_take (i := 6) (v := _) (by simp only [List.getElem?_toArray, List.getElem?_cons_succ, List.getElem?_cons_zero]; exact rfl) (by kernel_rfl) (by kernel_rfl) (by kernel_rfl) (fun _ _ _ h => h) (Or.inl ⟨by rfl, ?y6x32⟩) hHeld ?r6x32
                case y6x32 => (intro w hSw; (try dsimp only at hSw); go_simp; try with_reducible rfl)
                try simp only [Act.put, List.setIfInBounds_toArray, List.set_cons_zero, List.set_cons_succ]
                refine' wpAnyH_take (i := 7) (v := _) (by simp only [List.getElem?_toArray, List.getElem?_cons_succ, List.getElem?_cons_zero]; exact rfl) (by kernel_rfl) (by kernel_rfl) (by kernel_rfl) (fun _ _ _ h => h) (Or.inl ⟨by rfl, ?y7x33⟩) hHeld ?r7x33
                case y7x33 => (intro wz hSw; refine exec_load_range 29 ?_ ?_ _ _ ?_ _ _ (range_below HRP.out hSw HRPL.out) undNw rfl infoNw; rotate_left 1; exact rfl; exact rfl)
                try simp only [Act.put, List.setIfInBounds_toArray, List.set_cons_zero, List.set_cons_succ]
                refine' wpAnyH_take (i := 9) (v := _) (by simp only [List.getElem?_toArray, List.getElem?_cons_succ, List.getElem?_cons_zero]; exact rfl) (by kernel_rfl) (by kernel_rfl) (by kernel_rfl) (fun _ _ _ h => h) (Or.inl ⟨by rfl, ?y9x34⟩) hHeld ?r9x34
                case y9x34 => (intro w hSw; (try dsimp only at hSw); go_simp; try with_reducible rfl)
                try simp only [Act.put, List.setIfInBounds_toArray, List.set_cons_zero, List.set_cons_succ]
                refine' wpAnyH_take (i := 10) (v := _) (by simp only [List.getElem?_toArray, List.getElem?_cons_succ, List.getElem?_cons_zero]; exact rfl) (by kernel_rfl) (by kernel_rfl) (by kernel_rfl) (fun _ _ _ h => h) (Or.inl ⟨by rfl, ?y10x35⟩) hHeld ?r10x35
                case y10x35 => (intro w hSw; (try dsimp only at hSw); go_simp; try with_reducible rfl)
                try simp only [Act.put, List.setIfInBounds_toArray, List.set_cons_zero, List.set_cons_succ]
                refine' wpAnyH_take (i := 11) (v := _) (by simp only [List.getElem?_toArray, List.getElem?_cons_succ, List.getElem?_cons_zero]; exact rfl) (by kernel_rfl) (by kernel_rfl) (by kernel_rfl) (fun _ _ _ h => h) (Or.inl ⟨by rfl, ?y11x36⟩) hHeld ?r11x36
                case y11x36 => (intro w hSw; (try dsimp only at hSw); go_simp; try with_reducible rfl)
                try simp only [Act.put, List.setIfInBounds_toArray, List.set_cons_zero, List.set_cons_succ]
                refine' wpAnyH_take (i := 12) (v := _) (by simp only [List.getElem?_toArray, List.getElem?_cons_succ, List.getElem?_cons_zero]; exact rfl) (by kernel_rfl) (by kernel_rfl) (by kernel_rfl) (fun _ _ _ h => h) (Or.inl ⟨by rfl, ?y12x37⟩) hHeld ?r12x37
                case y12x37 => (intro wz hSw; refine exec_load_range 29 ?_ ?_ _ _ ?_ _ _ (range_below HRQ.out hSw HRQL.out) undNw rfl infoNw; rotate_left 1; exact rfl; exact rfl)
                try simp only [Act.put, List.setIfInBounds_toArray, List.set_cons_zero, List.set_cons_succ]
                refine wpAnyH_ready (rs := [8]) (by kernel_rfl) (by simp) ?_
                refine AllReadyH.cons (by simp only [List.getElem?_toArray, List.getElem?_cons_succ, List.getElem?_cons_zero]; exact rfl) (fun K hK => ?_) AllReadyH.nil
                go_simp
                refine (rbytes_any p.x (.slice p.a p.x.cast.rain.length p.c) _ (HUP.out.below (stays_list stays_Span 2) (HBr.out.trans (hHeld.mono HBr.out.size))) HNP.out.1 HNP.out.2 HFP.out.1 HFP.out.2).mono ?_
                rintro e w' ⟨rfl, hb⟩
                refine hK.out _ _ (hHeld.trans (hb.mono hHeld.size)) (fun hHeld => ?_)
                clear hK K hb
                try simp only [Act.put, List.setIfInBounds_toArray, List.set_cons_zero, List.set_cons_succ]
                refine wpAnyH_ready (rs := [13]) (by kernel_rfl) (by simp) ?_
                refine AllReadyH.cons (by simp only [List.getElem?_toArray, List.getElem?_cons_succ, List.getElem?_cons_zero]; exact rfl) (fun K hK => ?_) AllReadyH.nil
                go_simp
                refine (rbytes_any q.x (.slice q.a q.x.cast.rain.length q.c) _ (HU.out.below (stays_list stays_Span 2) (HBr.out.trans (hHeld.mono HBr.out.size))) HNI.out.1 HNI.out.2 HFW.out.1 HFW.out.2).mono ?_
                rintro e w' ⟨rfl, hb⟩
                refine hK.out _ _ (hHeld.trans (hb.mono hHeld.size)) (fun hHeld => ?_)
                clear hK K hb
                try simp only [Act.put, List.setIfInBounds_toArray, List.set_cons_zero, List.set_cons_succ]
                refine' wpAnyH_take (i := 14) (v := _) (by simp only [List.getElem?_toArray, List.getElem?_cons_succ, List.getElem?_cons_zero]; exact rfl) (by kernel_rfl) (by kernel_rfl) (by kernel_rfl) (fun _ _ _ h => h) (Or.inl ⟨by rfl, ?y14x38⟩) hHeld ?r14x38
                case y14x38 => (intro w hSw; (try dsimp only at hSw); go_simp; try with_reducible rfl)
                try simp only [Act.put, List.setIfInBounds_toArray, List.set_cons_zero, List.set_cons_succ]
                refine' wpAnyH_take (i := 15) (v := _) (by simp only [List.getElem?_toArray, List.getElem?_cons_succ, List.getElem?_cons_zero]; exact rfl) (by kernel_rfl) (by kernel_rfl) (by kernel_rfl) (fun _ _ _ h => h) (Or.inl ⟨by rfl, ?y15x39⟩) hHeld ?r15x39
                case y15x39 => (intro w hSw; (try dsimp only at hSw); go_simp; try with_reducible rfl)
                try simp only [Act.put, List.setIfInBounds_toArray, List.set_cons_zero, List.set_cons_succ]
                refine wpAnyH_done (by kernel_rfl) ?_ _
                refine NoPanic.normal ?_
                go_wp2_with fail
                go_meet
                exact ⟨congrArg Value.bool HT.out.symm, hHeld⟩
              · have hb1 : Op.bytesLess (newsB p.x) (newsB q.x) = true := less_is (decide_eq_true (lt_of_not hc he))
                have hb2 : (newsB p.x == newsB q.x) = false := beq_is (decide_eq_false he)
                refine wp_region_noPanic ?_
                refine wp_region_held_drew (S := fun w' => Below wr.heap.size wr w') (by kernel_rfl) HBy.out.drew (fun hHeld => ?_)
                refine' wpAnyH_take (i := 0) (v := _) (by simp only [List.getElem?_toArray, List.getElem?_cons_zero]; exact rfl) (by kernel_rfl) (by kernel_rfl) (by kernel_rfl) (fun _ _ _ h => h) (Or.inl ⟨by rfl, ?y0x40⟩) hHeld ?r0x40
                case y0x40 => (intro w hSw; (try dsimp only at hSw); go_simp; try with_reducible rfl)
                try simp only [Act.put, List.setIfInBounds_toArray, List.set_cons_zero, List.set_cons_succ]
                refine' wpAnyH_take (i := 1) (v := _) (by simp only [List.getElem?_toArray, List.getElem?_cons_succ, List.getElem?_cons_zero]; exact rfl) (by kernel_rfl) (by kernel_rfl) (by kernel_rfl) (fun _ _ _ h => h) (Or.inl ⟨by rfl, ?y1x41⟩) hHeld ?r1x41
                case y1x41 => (intro w hSw; (try dsimp only at hSw); go_simp; try with_reducible rfl)
                try simp only [Act.put, List.setIfInBounds_toArray, List.set_cons_zero, List.set_cons_succ]
                refine' wpAnyH_take (i := 2) (v := _) (by simp only [List.getElem?_toArray, List.getElem?_cons_succ, List.getElem?_cons_zero]; exact rfl) (by kernel_rfl) (by kernel_rfl) (by kernel_rfl) (fun _ _ _ h => h) (Or.inl ⟨by rfl, ?y2x42⟩) hHeld ?r2x42
                case y2x42 => (intro w hSw; (try dsimp only at hSw); go_simp; try with_reducible rfl)
                try simp only [Act.put, List.setIfInBounds_toArray, List.set_cons_zero, List.set_cons_succ]
                refine' wpAnyH_take (i := 3) (v := _) (by simp only [List.getElem?_toArray, List.getElem?_cons_succ, List.getElem?_cons_zero]; exact rfl) (by kernel_rfl) (by kernel_rfl) (by kernel_rfl) (fun _ _ _ h => h) (Or.inl ⟨by rfl, ?y3x43⟩) hHeld ?r3x43
                case y3x43 => (intro w hSw; (try dsimp only at hSw); go_simp; try with_reducible rfl)
                try simp only [Act.put, List.setIfInBounds_toArray, List.set_cons_zero, List.set_cons_succ]
                refine' wpAnyH_take (i := 4) (v := _) (by simp only [List.getElem?_toArray, List.getElem?_cons_succ, List.getElem?_cons_zero]; exact rfl) (by kernel_rfl) (by kernel_rfl) (by kernel_rfl) (fun _ _ _ h => h) (Or.inl ⟨by rfl, ?y4x44⟩) hHeld ?r4x44
                case y4x44 => (intro w hSw; (try dsimp only at hSw); go_simp; try with_reducible rfl)
                try simp only [Act.put, List.setIfInBounds_toArray, List.set_cons_zero, List.set_cons_succ]
                refine' wpAnyH_take (i := 5) (v := _) (by simp only [List.getElem?_toArray, List.getElem?_cons_succ, List.getElem?_cons_zero]; exact rfl) (by kernel_rfl) (by kernel_rfl) (by kernel_rfl) (fun _ _ _ h => h) (Or.inl ⟨by rfl, ?y5x45⟩) hHeld ?r5x45
                case y5x45 => (intro w hSw; (try dsimp only at hSw); go_simp; try with_reducible rfl)
                try simp only [Act.put, List.setIfInBounds_toArray, List.set_cons_zero, List.set_cons_succ]
                refine' wpAnyH_take (i := 6) (v := _) (by simp only [List.getElem?_toArray, List.getElem?_cons_succ, List.getElem?_cons_zero]; exact rfl) (by kernel_rfl) (by kernel_rfl) (by kernel_rfl) (fun _ _ _ h => h) (Or.inl ⟨by rfl, ?y6x46⟩) hHeld ?r6x46
                case y6x46 => (intro w hSw; (try dsimp only at hSw); go_simp; try with_reducible rfl)
                try simp only [Act.put, List.setIfInBounds_toArray, List.set_cons_zero, List.set_cons_succ]
                refine' wpAnyH_take (i := 7) (v := _) (by simp only [List.getElem?_toArray, List.getElem?_cons_succ, List.getElem?_cons_zero]; exact rfl) (by kernel_rfl) (by kernel_rfl) (by kernel_rfl) (fun _ _ _ h => h) (Or.inl ⟨by rfl, ?y7x47⟩) hHeld ?r7x47
                case y7x47 => (intro wz hSw; refine exec_load_range 29 ?_ ?_ _ _ ?_ _ _ (range_below HRP.out hSw HRPL.out) undNw rfl infoNw; rotate_left 1; exact rfl; exact rfl)
                try simp only [Act.put, List.setIfInBounds_toArray, List.set_cons_zero, List.set_cons_succ]
                refine' wpAnyH_take (i := 9) (v := _) (by simp only [List.getElem?_toArray, List.getElem?_cons_succ, List.getElem?_cons_zero]; exact rfl) (by kernel_rfl) (by kernel_rfl) (by kernel_rfl) (fun _ _ _ h => h) (Or.inl ⟨by rfl, ?y9x48⟩) hHeld ?r9x48
                case y9x48 => (intro w hSw; (try dsimp only at hSw); go_simp; try with_reducible rfl)
                try simp only [Act.put, List.setIfInBounds_toArray, List.set_cons_zero, List.set_cons_succ]
                refine' wpAnyH_take (i := 10) (v := _) (by simp only [List.getElem?_toArray, List.getElem?_cons_succ, List.getElem?_cons_zero]; exact rfl) (by kernel_rfl) (by kernel_rfl) (by kernel_rfl) (fun _ _ _ h => h) (Or.inl ⟨by rfl, ?y10x49⟩) hHeld ?r10x49
                case y10x49 => (intro w hSw; (try dsimp only at hSw); go_simp; try with_reducible rfl)
                try simp only [Act.put, List.setIfInBounds_toArray, List.set_cons_zero, List.set_cons_succ]
                refine' wpAnyH_take (i := 11) (v := _) (by simp only [List.getElem?_toArray, List.getElem?_cons_succ, List.getElem?_cons_zero]; exact rfl) (by kernel_rfl) (by kernel_rfl) (by kernel_rfl) (fun _ _ _ h => h) (Or.inl ⟨by rfl, ?y11x50⟩) hHeld ?r11x50
                case y11x50 => (intro w hSw; (try dsimp only at hSw); go_simp; try with_reducible rfl)
                try simp only [Act.put, List.setIfInBounds_toArray, List.set_cons_zero, List.set_cons_succ]
                refine' wpAnyH_take (i := 12) (v := _) (by simp only [List.getElem?_toArray, List.getElem?_cons_succ, List.getElem?_cons_zero]; exact rfl) (by kernel_rfl) (by kernel_rfl) (by kernel_rfl) (fun _ _ _ h => h) (Or.inl ⟨by rfl, ?y12x51⟩) hHeld ?r12x51
                case y12x51 => (intro wz hSw; refine exec_load_range 29 ?_ ?_ _ _ ?_ _ _ (range_below HRQ.out hSw HRQL.out) undNw rfl infoNw; rotate_left 1; exact rfl; exact rfl)
                try simp only [Act.put, List.setIfInBounds_toArray, List.set_cons_zero, List.set_cons_succ]
                refine wpAnyH_ready (rs := [8]) (by kernel_rfl) (by simp) ?_
                refine AllReadyH.cons (by simp only [List.getElem?_toArray, List.getElem?_cons_succ, List.getElem?_cons_zero]; exact rfl) (fun K hK => ?_) AllReadyH.nil
                go_simp
                refine (rbytes_any p.x (.slice p.a p.x.cast.rain.length p.c) _ (HUP.out.below (stays_list stays_Span 2) (HBr.out.trans (hHeld.mono HBr.out.size))) HNP.out.1 HNP.out.2 HFP.out.1 HFP.out.2).mono ?_
                rintro e w' ⟨rfl, hb⟩
                refine hK.out _ _ (hHeld.trans (hb.mono hHeld.size)) (fun hHeld => ?_)
                clear hK K hb
                try simp only [Act.put, List.setIfInBounds_toArray, List.set_cons_zero, List.set_cons_succ]
                refine wpAnyH_ready (rs := [13]) (by kernel_rfl) (by simp) ?_
                refine AllReadyH.cons (by simp only [List.getElem?_toArray, List.getElem?_cons_succ, List.getElem?_cons_zero]; exact rfl) (fun K hK => ?_) AllReadyH.nil
                go_simp
                refine (rbytes_any q.x (.slice q.a q.x.cast.rain.length q.c) _ (HU.out.below (stays_list stays_Span 2) (HBr.out.trans (hHeld.mono HBr.out.size))) HNI.out.1 HNI.out.2 HFW.out.1 HFW.out.2).mono ?_
                rintro e w' ⟨rfl, hb⟩
                refine hK.out _ _ (hHeld.trans (hb.mono hHeld.size)) (fun hHeld => ?_)
                clear hK K hb
                try simp only [Act.put, List.setIfInBounds_toArray, List.set_cons_zero, List.set_cons_succ]
                refine' wpAnyH_take (i := 14) (v := _) (by simp only [List.getElem?_toArray, List.getElem?_cons_succ, List.getElem?_cons_zero]; exact rfl) (by kernel_rfl) (by kernel_rfl) (by kernel_rfl) (fun _ _ _ h => h) (Or.inl ⟨by rfl, ?y14x52⟩) hHeld ?r14x52
                case y14x52 => (intro w hSw; (try dsimp only at hSw); go_simp; try with_reducible rfl)
                try simp only [Act.put, List.setIfInBounds_toArray, List.set_cons_zero, List.set_cons_succ]
                refine' wpAnyH_take (i := 15) (v := _) (by simp only [List.getElem?_toArray, List.getElem?_cons_succ, List.getElem?_cons_zero]; exact rfl) (by kernel_rfl) (by kernel_rfl) (by kernel_rfl) (fun _ _ _ h => h) (Or.inl ⟨by rfl, ?y15x53⟩) hHeld ?r15x53
                case y15x53 => (intro w hSw; (try dsimp only at hSw); go_simp; try with_reducible rfl)
                try simp only [Act.put, List.setIfInBounds_toArray, List.set_cons_zero, List.set_cons_succ]
                refine wpAnyH_done (by kernel_rfl) ?_ _
                refine NoPanic.normal ?_
                go_wp2_with fail
                go_meet
                exact ⟨congrArg Value.bool HT.out.symm, hHeld⟩
          · have hz : ¬ (0 : Int) < (m : Int) := by omega
            have HT : Hid (tb = false) := Lib.hid (by
              cases tb with
              | false => rfl
              | true => obtain ⟨mp', p', h0, _⟩ := HTB.out.1 rfl; omega)
            refine wp_region_noPanic ?_
            refine wp_region_held_drew (S := fun w' => Below wr.heap.size wr w') (by kernel_rfl) HBy.out.drew (fun hHeld => ?_)
            refine' wpAnyH_take (i := 0) (v := _) (by simp only [List.getElem?_toArray, List.getElem?_cons_zero]; exact rfl) (by kernel_rfl) (by kernel_rfl) (by kernel_rfl) (fun _ _ _ h => h) (Or.inl ⟨by rfl, ?y0x54⟩) hHeld ?r0x54
            case y0x54 => (intro w hSw; (try dsimp only at hSw); go_simp; try with_reducible rfl)
            try simp only [Act.put, List.setIfInBounds_toArray, List.set_cons_zero, List.set_cons_succ]
            refine' wpAnyH_take (i := 1) (v := _) (by simp only [List.getElem?_toArray, List.getElem?_cons_succ, List.getElem?_cons_zero]; exact rfl) (by kernel_rfl) (by kernel_rfl) (by kernel_rfl) (fun _ _ _ h => h) (Or.inl ⟨by rfl, ?y1x55⟩) hHeld ?r1x55
            case y1x55 => (intro w hSw; (try dsimp only at hSw); go_simp; try with_reducible rfl)
            try simp only [Act.put, List.setIfInBounds_toArray, List.set_cons_zero, List.set_cons_succ]
            refine' wpAnyH_take (i := 2) (v := _) (by simp only [List.getElem?_toArray, List.getElem?_cons_succ, List.getElem?_cons_zero]; exact rfl) (by kernel_rfl) (by kernel_rfl) (by kernel_rfl) (fun _ _ _ h => h) (Or.inl ⟨by rfl, ?y2x56⟩) hHeld ?r2x56
            case y2x56 => (intro w hSw; (try dsimp only at hSw); go_simp; try with_reducible rfl)
            try simp only [Act.put, List.setIfInBounds_toArray, List.set_cons_zero, List.set_cons_succ]
            refine wpAnyH_take (i := 3) (v := undef) (by simp only [List.getElem?_toArray, List.getElem?_cons_succ, List.getElem?_cons_zero]; exact rfl) (by kernel_rfl) (by kernel_rfl) (by kernel_rfl) (fun _ _ _ h => h) (Or.inr ⟨by rfl, rfl⟩) hHeld ?_
            try simp only [Act.put, List.setIfInBounds_toArray, List.set_cons_zero, List.set_cons_succ]
            refine wpAnyH_take (i := 4) (v := undef) (by simp only [List.getElem?_toArray, List.getElem?_cons_succ, List.getElem?_cons_zero]; exact rfl) (by kernel_rfl) (by kernel_rfl) (by kernel_rfl) (fun _ _ _ h => h) (Or.inr ⟨by rfl, rfl⟩) hHeld ?_
            try simp only [Act.put, List.setIfInBounds_toArray, List.set_cons_zero, List.set_cons_succ]
            refine wpAnyH_take (i := 5) (v := undef) (by simp only [List.getElem?_toArray, List.getElem?_cons_succ, List.getElem?_cons_zero]; exact rfl) (by kernel_rfl) (by kernel_rfl) (by kernel_rfl) (fun _ _ _ h => h) (Or.inr ⟨by rfl, rfl⟩) hHeld ?_
            try simp only [Act.put, List.setIfInBounds_toArray, List.set_cons_zero, List.set_cons_succ]
            refine wpAnyH_take (i := 6) (v := undef) (by simp only [List.getElem?_toArray, List.getElem?_cons_succ, List.getElem?_cons_zero]; exact rfl) (by kernel_rfl) (by kernel_rfl) (by kernel_rfl) (fun _ _ _ h => h) (Or.inr ⟨by rfl, rfl⟩) hHeld ?_
            try simp only [Act.put, List.setIfInBounds_toArray, List.set_cons_zero, List.set_cons_succ]
            refine wpAnyH_take (i := 7) (v := undef) (by simp only [List.getElem?_toArray, List.getElem?_cons_succ, List.getElem?_cons_zero]; exact rfl) (by kernel_rfl) (by kernel_rfl) (by kernel_rfl) (fun _ _ _ h => h) (Or.inr ⟨by rfl, rfl⟩) hHeld ?_
            try simp only [Act.put, List.setIfInBounds_toArray, List.set_cons_zero, List.set_cons_succ]
            refine wpAnyH_take (i := 8) (v := undef) (by simp only [List.getElem?_toArray, List.getElem?_cons_succ, List.getElem?_cons_zero]; exact rfl) (by kernel_rfl) (by kernel_rfl) (by kernel_rfl) (fun _ _ _ h => h) (Or.inr ⟨by rfl, rfl⟩) hHeld ?_
            try simp only [Act.put, List.setIfInBounds_toArray, List.set_cons_zero, List.set_cons_succ]
            refine wpAnyH_take (i := 9) (v := undef) (by simp only [List.getElem?_toArray, List.getElem?_cons_succ, List.getElem?_cons_zero]; exact rfl) (by kernel_rfl) (by kernel_rfl) (by kernel_rfl) (fun _ _ _ h => h) (Or.inr ⟨by rfl, rfl⟩) hHeld ?_
            try simp only [Act.put, List.setIfInBounds_toArray, List.set_cons_zero, List.set_cons_succ]
            refine wpAnyH_take (i := 10) (v := undef) (by simp only [List.getElem?_toArray, List.getElem?_cons_succ, List.getElem?_cons_zero]; exact rfl) (by kernel_rfl) (by kernel_rfl) (by kernel_rfl) (fun _ _ _ h => h) (Or.inr ⟨by rfl, rfl⟩) hHeld ?_
            try simp only [Act.put, List.setIfInBounds_toArray, List.set_cons_zero, List.set_cons_succ]
            refine wpAnyH_take (i := 11) (v := undef) (by simp only [List.getElem?_toArray, List.getElem?_cons_succ, List.getElem?_cons_zero]; exact rfl) (by kernel_rfl) (by kernel_rfl) (by kernel_rfl) (fun _ _ _ h => h) (Or.inr ⟨by rfl, rfl⟩) hHeld ?_
            try simp only [Act.put, List.setIfInBounds_toArray, List.set_cons_zero, List.set_cons_succ]
            refine wpAnyH_take (i := 12) (v := undef) (by simp only [List.getElem?_toArray, List.getElem?_cons_succ, List.getElem?_cons_zero]; exact rfl) (by kernel_rfl) (by kernel_rfl) (by kernel_rfl) (fun _ _ _ h => h) (Or.inr ⟨by rfl, rfl⟩) hHeld ?_
            try simp only [Act.put, List.setIfInBounds_toArray, List.set_cons_zero, List.set_cons_succ]
            refine wpAnyH_take (i := 13) (v := undef) (by simp only [List.getElem?_toArray, List.getElem?_cons_succ, List.getElem?_cons_zero]; exact rfl) (by kernel_rfl) (by kernel_rfl) (by kernel_rfl) (fun _ _ _ h => h) (Or.inr ⟨by rfl, rfl⟩) hHeld ?_
            try simp only [Act.put, List.setIfInBounds_toArray, List.set_cons_zero, List.set_cons_succ]
            refine wpAnyH_take (i := 14) (v := undef) (by simp only [List.getElem?_toArray, List.getElem?_cons_succ, List.getElem?_cons_zero]; exact rfl) (by kernel_rfl) (by kernel_rfl) (by kernel_rfl) (fun _ _ _ h => h) (Or.inr ⟨by rfl, rfl⟩) hHeld ?_
            try simp only [Act.put, List.setIfInBounds_toArray, List.set_cons_zero, List.set_cons_succ]
            refine' wpAnyH_take (i := 15) (v := _) (by simp only [List.getElem?_toArray, List.getElem?_cons_succ, List.getElem?_cons_zero]; exact rfl) (by kernel_rfl) (by kernel_rfl) (by kernel_rfl) (fun _ _ _ h => h) (Or.inl ⟨by rfl, ?y15x57⟩) hHeld ?r15x57
            case y15x57 => (intro w hSw; (try dsimp only at hSw); go_simp; try with_reducible rfl)
            try simp only [Act.put, List.setIfInBounds_toArray, List.set_cons_zero, List.set_cons_succ]
            refine wpAnyH_done (by kernel_rfl) ?_ _
            refine NoPanic.normal ?_
            go_wp2_with fail
            go_meet
            exact ⟨congrArg Value.bool HT.out.symm, hHeld⟩
        case rest =>
          obtain ⟨rfl, hB⟩ := hcut
          clear HBy
          have HBy := Lib.hid hB
          clear hB
          generalize wc = wy at *
          cases tb with
          | true =>
            obtain ⟨mp, p, rfl, hp, hlt2⟩ := HTB.out.1 rfl
            have HNX : Hid (∀ (j : Nat) (p' : CodE), mp ≤ j → Lo[j]? = some p' → newsB q.x < newsB p'.x) := Lib.hid (fun j p' hj hp' => by
              rcases Nat.lt_or_eq_of_le hj with h1 | rfl
              · exact HALL.out j p' (by omega) hp'
              · rw [hp] at hp'; cases hp'; exact hlt2)
            have rm : IntKind.i64.wrap (mp : Int) = (mp : Int) := by rw [IntKind.wrap_i64]; omega
            clear hp hlt2
            go_wp2_with fail
            go_roundw
            case rel => exact ⟨mp, by omega, by first | rfl | go_num, HNX.out, HBy.out⟩
            case measure => simp [intOf]
          | false =>
            have hstop := HTB.out.2 rfl
            have HSN := Lib.hid (ins_sorted (q := q) HSO.out (by rw [HLK.out]; exact hm) HALL.out hstop)
            have HPN : Hid ((Lo.take m ++ q :: Lo.drop m).Perm (L.take (k + 1))) := Lib.hid (by
              rw [List.take_add_one, HQ.out]
              refine List.perm_middle.trans ?_
              rw [List.take_append_drop]
              refine (List.Perm.cons q HPO.out).trans ?_
              exact (List.perm_append_singleton q _).symm)
            have HOy := Lib.hid (owns_up HO.out HBy.out)
            obtain ⟨a1, c1, hs1, hsrc1⟩ := slice_low undNl elemNl Try.sizeOf29 HOy.out hm
            have HS1 := Lib.hid hs1
            have HSR1 := Lib.hid hsrc1
            have HBw := Lib.hid (HBr.out.trans (HBy.out.mono HBr.out.size))
            have HE0 := Lib.hid (owns_empty5 wy)
            have HBE := Lib.hid ((Below.refl wy.heap.size wy).alloc (Nat.le_refl _) (.cells #[] 29))
            clear hstop hs1 hsrc1
            go_wp2_with (first | (refine wpList_sliceAt rfl _ _ _ _ _ rfl _ (HS1.out _) ?_) | (at_builtin; refine Hid.out ?_))
            refine Lib.hid ?_
            refine wpList_append_any _ rfl _ _ 22 rfl wy.heap.size 29 iN zN 5 iN.bytes undNl hiN hzN hszN rfl hczN (by decide) _ 0 [] rfl HE0.out a1 (k - m) c1 ((Lo.drop m).flatMap cellsQ) rfl (by rw [flatQ_len, List.length_drop, HLK.out]) (fun j u hj => HSR1.out _ HBE.out j u (by rw [flatQ_drop]; exact hj)) (oneQ _) (by unfold maxLen; omega) (by rw [hbN]; omega) HBE.out.size ?_
            intro v6 w6 hown6 hgr6
            rw [List.nil_append, Nat.zero_add] at hown6
            obtain ⟨a6, c6, rfl⟩ := owns_slice hown6
            have hBy6 := HBE.out.grown hgr6 HBE.out.size (fun z e => (HE0.out.lt z e).1)
            have HO6 := Lib.hid (owns_up HOy.out hBy6)
            have HS6 := Lib.hid (src_own hown6)
            have HB6 := Lib.hid (HBw.out.trans (hBy6.mono HBw.out.size))
            obtain ⟨a2, c2, hs2, hsrc2⟩ := slice_high undNl elemNl Try.sizeOf29 HO6.out hm
            have HS2R := Lib.hid hs2
            have HS2 : Hid (∀ (w' : World), Below w6.heap.size w6 w' → ∀ j u, ((Lo.take m).flatMap cellsQ)[j]? = some u → ∃ p, a2 = some p ∧ w'.cell? (p.add j) = some u) := Lib.hid (fun w' hb j u hj => hsrc2 w' hb j u (by rw [flatQ_take]; exact hj))
            have B0 := Lib.hid ((Below.refl w6.heap.size w6).drew)
            clear hown6 hgr6 hBy6 hs2 hsrc2 HS1 HSR1 HE0 HBE HOy
            go_upto_region 9 with fail
            refine wp_region_noPanic ?_
            refine wp_region_held_drew (S := fun w' => Below w.heap.size w w') (by kernel_rfl) HB6.out.drew (fun hHeld => ?_)
            refine' wpAnyH_take (i := 1) (v := _) (by simp only [List.getElem?_toArray, List.getElem?_cons_succ, List.getElem?_cons_zero]; exact rfl) (by kernel_rfl) (by kernel_rfl) (by kernel_rfl) (fun _ _ _ h => h) (Or.inl ⟨by rfl, ?y1x1⟩) hHeld ?r1x1
            case y1x1 => (intro w hSw; (try dsimp only at hSw); go_simp; try with_reducible rfl)
            try simp only [Act.put, List.setIfInBounds_toArray, List.set_cons_zero, List.set_cons_succ]
            refine' wpAnyH_take (i := 2) (v := _) (by simp only [List.getElem?_toArray, List.getElem?_cons_succ, List.getElem?_cons_zero]; exact rfl) (by kernel_rfl) (by kernel_rfl) (by kernel_rfl) (fun _ _ _ h => h) (Or.inl ⟨by rfl, ?y2x2⟩) hHeld ?r2x2
            case y2x2 => (intro w hSw; (try dsimp only at hSw); go_simp; try with_reducible rfl)
            try simp only [Act.put, List.setIfInBounds_toArray, List.set_cons_zero, List.set_cons_succ]
            refine' wpAnyH_take (i := 3) (v := _) (by simp only [List.getElem?_toArray, List.getElem?_cons_succ, List.getElem?_cons_zero]; exact rfl) (by kernel_rfl) (by kernel_rfl) (by kernel_rfl) (fun _ _ _ h => h) (Or.inl ⟨by rfl, ?y3x3⟩) hHeld ?r3x3
            case y3x3 => (intro wz hSw; refine exec_sliceAt ?_ ?_ ?_ ?_ ?_ ?_ (.slice a2 m c2) ?_; rotate_left 5; exact rfl; exact HS2R.out _)
            try simp only [Act.put, List.setIfInBounds_toArray, List.set_cons_zero, List.set_cons_succ]
            refine' wpAnyH_take (i := 5) (v := _) (by simp only [List.getElem?_toArray, List.getElem?_cons_succ, List.getElem?_cons_zero]; exact rfl) (by kernel_rfl) (by kernel_rfl) (by kernel_rfl) (fun _ _ _ h => h) (Or.inl ⟨by rfl, ?y5x4⟩) hHeld ?r5x4
            case y5x4 => (intro w hSw; (try dsimp only at hSw); go_simp; try with_reducible rfl)
            try simp only [Act.put, List.setIfInBounds_toArray, List.set_cons_zero, List.set_cons_succ]
            refine' wpAnyH_take (i := 6) (v := _) (by simp only [List.getElem?_toArray, List.getElem?_cons_succ, List.getElem?_cons_zero]; exact rfl) (by kernel_rfl) (by kernel_rfl) (by kernel_rfl) (fun _ _ _ h => h) (Or.inl ⟨by rfl, ?y6x5⟩) hHeld ?r6x5
            case y6x5 => (intro w hSw; (try dsimp only at hSw); go_simp; try with_reducible rfl)
            try simp only [Act.put, List.setIfInBounds_toArray, List.set_cons_zero, List.set_cons_succ]
            refine' wpAnyH_take (i := 7) (v := _) (by simp only [List.getElem?_toArray, List.getElem?_cons_succ, List.getElem?_cons_zero]; exact rfl) (by kernel_rfl) (by kernel_rfl) (by kernel_rfl) (fun _ _ _ h => h) (Or.inl ⟨by rfl, ?y7x6⟩) hHeld ?r7x6
            case y7x6 => (intro w hSw; (try dsimp only at hSw); go_simp; try with_reducible rfl)
            try simp only [Act.put, List.setIfInBounds_toArray, List.set_cons_zero, List.set_cons_succ]
            refine' wpAnyH_take (i := 8) (v := _) (by simp only [List.getElem?_toArray, List.getElem?_cons_succ, List.getElem?_cons_zero]; exact rfl) (by kernel_rfl) (by kernel_rfl) (by kernel_rfl) (fun _ _ _ h => h) (Or.inl ⟨by rfl, ?y8x7⟩) hHeld ?r8x7
            case y8x7 => (intro wz hSw; refine exec_load_range 29 ?_ ?_ _ _ ?_ _ _ (range_below HRG0.out hSw HRGL0.out) undNw rfl infoNw; rotate_left 1; exact rfl; exact rfl)
            try simp only [Act.put, List.setIfInBounds_toArray, List.set_cons_zero, List.set_cons_succ]
            refine' wpAnyH_take (i := 11) (v := _) (by simp only [List.getElem?_toArray, List.getElem?_cons_succ, List.getElem?_cons_zero]; exact rfl) (by kernel_rfl) (by kernel_rfl) (by kernel_rfl) (fun _ _ _ h => h) (Or.inl ⟨by rfl, ?y11x8⟩) hHeld ?r11x8
            case y11x8 => (intro w hSw; (try dsimp only at hSw); go_simp; try with_reducible rfl)
            try simp only [Act.put, List.setIfInBounds_toArray, List.set_cons_zero, List.set_cons_succ]
            refine wpAnyH_ready (rs := [0, 9]) (by kernel_rfl) (by simp) ?_
            refine AllReadyH.cons (by simp only [List.getElem?_toArray, List.getElem?_cons_zero]; exact rfl) (fun K hK => ?_) (AllReadyH.cons (by simp only [List.getElem?_toArray, List.getElem?_cons_succ, List.getElem?_cons_zero]; exact rfl) (fun K hK => ?_) AllReadyH.nil)
            · go_simp
              have hx := row_base (owns_empty5 (w6.drew)) B0.out.size
              have HOn1 := Lib.hid hx
              clear hx
              have HBn2 := Lib.hid (B0.out.alloc B0.out.size (.cells #[] 29))
              refine hK.out _ _ (HB6.out.trans (HBn2.out.mono HB6.out.size)) (fun hHeld => ?_)
              clear hK K
              try simp only [Act.put, List.setIfInBounds_toArray, List.set_cons_zero, List.set_cons_succ]
              refine wpAnyH_ready (rs := [4, 9]) (by kernel_rfl) (by simp) ?_
              refine AllReadyH.cons (by simp only [List.getElem?_toArray, List.getElem?_cons_succ, List.getElem?_cons_zero]; exact rfl) (fun K hK => ?_) (AllReadyH.cons (by simp only [List.getElem?_toArray, List.getElem?_cons_succ, List.getElem?_cons_zero]; exact rfl) (fun K hK => ?_) AllReadyH.nil)
              · refine step_append_any rfl _ _ 22 rfl w6.heap.size 29 iN zN 5 iN.bytes undNl hiN hzN hszN rfl hczN (by decide) _ _ _ rfl HOn1.out a2 m c2 ((Lo.take m).flatMap cellsQ) rfl (by rw [flatQ_len, List.length_take, HLK.out, Nat.min_eq_left hm]) (HS2.out _ HBn2.out) (oneQ _) (by unfold maxLen; omega) (by rw [hbN]; omega) HBn2.out.size ?_
                intro vn3 wn4 hown hgr
                have HOn5 := Lib.hid hown
                have HBn6 := Lib.hid (HBn2.out.grown hgr HBn2.out.size (fun z e => (HOn1.out.lt z e).1))
                clear hown hgr
                refine hK.out _ _ (HB6.out.trans (HBn6.out.mono HB6.out.size)) (fun hHeld => ?_)
                clear hK K
                try simp only [Act.put, List.setIfInBounds_toArray, List.set_cons_zero, List.set_cons_succ]
                refine wpAnyH_ready (rs := [9]) (by kernel_rfl) (by simp) ?_
                refine AllReadyH.cons (by simp only [List.getElem?_toArray, List.getElem?_cons_succ, List.getElem?_cons_zero]; exact rfl) (fun K hK => ?_) AllReadyH.nil
                go_simp
                have HSn7 : Hid (∀ j u, ([.int .i64 q.x.kind, .int .i64 q.x.known, .int .i64 q.x.cast.id, .int .i64 q.x.cast.src, .slice q.a q.x.cast.rain.length q.c] : List Value)[j]? = some u → ∃ p, some (⟨wn4.heap.size, 0, none⟩ : Addr) = some p ∧ ((wn4).alloc (.cells #[.int .i64 q.x.kind, .int .i64 q.x.known, .int .i64 q.x.cast.id, .int .i64 q.x.cast.src, .slice q.a q.x.cast.rain.length q.c] 29)).cell? (p.add j) = some u) := Lib.hid (fun j u hj => ⟨_, rfl, by
                  have hx := new_cells (wn4) [.int .i64 q.x.kind, .int .i64 q.x.known, .int .i64 q.x.cast.id, .int .i64 q.x.cast.src, .slice q.a q.x.cast.rain.length q.c] 29 j u hj
                  skip
                  exact hx⟩)
                have HLn9 : Hid (wn4.heap.size < ((wn4).alloc (.cells #[.int .i64 q.x.kind, .int .i64 q.x.known, .int .i64 q.x.cast.id, .int .i64 q.x.cast.src, .slice q.a q.x.cast.rain.length q.c] 29)).heap.size) := Lib.hid (by
                  have hx := blk_lt (heap_alloc_new (wn4) (.cells #[.int .i64 q.x.kind, .int .i64 q.x.known, .int .i64 q.x.cast.id, .int .i64 q.x.cast.src, .slice q.a q.x.cast.rain.length q.c] 29))
                  skip
                  exact hx)
                have HBn8 := Lib.hid (HBn6.out.alloc HBn6.out.size (.cells #[.int .i64 q.x.kind, .int .i64 q.x.known, .int .i64 q.x.cast.id, .int .i64 q.x.cast.src, .slice q.a q.x.cast.rain.length q.c] 29))
                have HOn11 := Lib.hid (HOn5.out.alloc (.cells #[.int .i64 q.x.kind, .int .i64 q.x.known, .int .i64 q.x.cast.id, .int .i64 q.x.cast.src, .slice q.a q.x.cast.rain.length q.c] 29))
                refine hK.out _ _ (HB6.out.trans (HBn8.out.mono HB6.out.size)) (fun hHeld => ?_)
                clear hK K
                try simp only [Act.put, List.setIfInBounds_toArray, List.set_cons_zero, List.set_cons_succ]
                refine wpAnyH_ready (rs := [10]) (by kernel_rfl) (by simp) ?_
                refine AllReadyH.cons (by simp only [List.getElem?_toArray, List.getElem?_cons_succ, List.getElem?_cons_zero]; exact rfl) (fun K hK => ?_) AllReadyH.nil
                refine step_append_any rfl _ _ 22 rfl w6.heap.size 29 iN zN 5 iN.bytes undNl hiN hzN hszN rfl hczN (by decide) _ _ _ rfl HOn11.out (some ⟨wn4.heap.size, 0, none⟩) 1 1 [.int .i64 q.x.kind, .int .i64 q.x.known, .int .i64 q.x.cast.id, .int .i64 q.x.cast.src, .slice q.a q.x.cast.rain.length q.c] rfl rfl HSn7.out (cellsQ_one q) (by unfold maxLen; omega) (by rw [hbN]; omega) HBn8.out.size ?_
                intro vn12 wn13 hown hgr
                have HOn14 := Lib.hid hown
                have HBn15 := Lib.hid (HBn8.out.grown hgr HBn8.out.size (fun z e => (HOn11.out.lt z e).1))
                clear hown hgr
                refine hK.out _ _ (HB6.out.trans (HBn15.out.mono HB6.out.size)) (fun hHeld => ?_)
                clear hK K
                try simp only [Act.put, List.setIfInBounds_toArray, List.set_cons_zero, List.set_cons_succ]
                refine wpAnyH_ready (rs := [12]) (by kernel_rfl) (by simp) ?_
                refine AllReadyH.cons (by simp only [List.getElem?_toArray, List.getElem?_cons_succ, List.getElem?_cons_zero]; exact rfl) (fun K hK => ?_) AllReadyH.nil
                refine step_append_any rfl _ _ 22 rfl w6.heap.size 29 iN zN 5 iN.bytes undNl hiN hzN hszN rfl hczN (by decide) _ _ _ rfl HOn14.out a6 (k - m) c6 ((Lo.drop m).flatMap cellsQ) rfl (by rw [flatQ_len, List.length_drop, HLK.out]) (HS6.out _ HBn15.out) (oneQ _) (by unfold maxLen; omega) (by rw [hbN]; omega) HBn15.out.size ?_
                intro vn16 wn17 hown hgr
                have HOn18 := Lib.hid hown
                have HBn19 := Lib.hid (HBn15.out.grown hgr HBn15.out.size (fun z e => (HOn14.out.lt z e).1))
                clear hown hgr
                refine hK.out _ _ (HB6.out.trans (HBn19.out.mono HB6.out.size)) (fun hHeld => ?_)
                clear hK K
                try simp only [Act.put, List.setIfInBounds_toArray, List.set_cons_zero, List.set_cons_succ]
                refine' wpAnyH_take (i := 13) (v := _) (by simp only [List.getElem?_toArray, List.getElem?_cons_succ, List.getElem?_cons_zero]; exact rfl) (by kernel_rfl) (by kernel_rfl) (by kernel_rfl) (fun _ _ _ h => h) (Or.inl ⟨by rfl, ?y13x9⟩) hHeld ?r13x9
                case y13x9 => (intro w hSw; (try dsimp only at hSw); go_simp; try with_reducible rfl)
                try simp only [Act.put, List.setIfInBounds_toArray, List.set_cons_zero, List.set_cons_succ]
                refine wpAnyH_done (by kernel_rfl) ?_ _
                refine NoPanic.normal ?_
                have HOF : Hid (wn17.ownsRow w.heap.size 29 5 vn16 (k + 1) ((Lo.take m ++ q :: Lo.drop m).flatMap cellsQ)) := Lib.hid (by
                  have h := row_base HOn18.out HB6.out.size
                  rw [List.nil_append, Nat.zero_add, show m + 1 + (k - m) = k + 1 by omega, List.append_assoc] at h
                  rw [List.flatMap_append, List.flatMap_cons]
                  exact h)
                have HBF := Lib.hid (HB6.out.trans (HBn19.out.mono HB6.out.size))
                go_wp2_with fail
                go_roundw
                case rel => exact ⟨k + 1, Lo.take m ++ q :: Lo.drop m, by omega, by go_num, HPN.out, HSN.out, HOF.out, HBF.out⟩
                case measure => simp [intOf]; omega
              · go_simp
                have eS : ((w6.drew).alloc (.cells #[] 29)).heap.size = w6.heap.size + 1 := by simp
                have HSn20 : Hid (∀ j u, ([.int .i64 q.x.kind, .int .i64 q.x.known, .int .i64 q.x.cast.id, .int .i64 q.x.cast.src, .slice q.a q.x.cast.rain.length q.c] : List Value)[j]? = some u → ∃ p, some (⟨w6.heap.size + 1, 0, none⟩ : Addr) = some p ∧ (((w6.drew).alloc (.cells #[] 29)).alloc (.cells #[.int .i64 q.x.kind, .int .i64 q.x.known, .int .i64 q.x.cast.id, .int .i64 q.x.cast.src, .slice q.a q.x.cast.rain.length q.c] 29)).cell? (p.add j) = some u) := Lib.hid (fun j u hj => ⟨_, rfl, by
                  have hx := new_cells ((w6.drew).alloc (.cells #[] 29)) [.int .i64 q.x.kind, .int .i64 q.x.known, .int .i64 q.x.cast.id, .int .i64 q.x.cast.src, .slice q.a q.x.cast.rain.length q.c] 29 j u hj
                  rw [eS] at hx
                  exact hx⟩)
                have HLn22 : Hid (w6.heap.size + 1 < (((w6.drew).alloc (.cells #[] 29)).alloc (.cells #[.int .i64 q.x.kind, .int .i64 q.x.known, .int .i64 q.x.cast.id, .int .i64 q.x.cast.src, .slice q.a q.x.cast.rain.length q.c] 29)).heap.size) := Lib.hid (by
                  have hx := blk_lt (heap_alloc_new ((w6.drew).alloc (.cells #[] 29)) (.cells #[.int .i64 q.x.kind, .int .i64 q.x.known, .int .i64 q.x.cast.id, .int .i64 q.x.cast.src, .slice q.a q.x.cast.rain.length q.c] 29))
                  rw [eS] at hx
                  exact hx)
                have HBn21 := Lib.hid (HBn2.out.alloc HBn2.out.size (.cells #[.int .i64 q.x.kind, .int .i64 q.x.known, .int .i64 q.x.cast.id, .int .i64 q.x.cast.src, .slice q.a q.x.cast.rain.length q.c] 29))
                have HOn24 := Lib.hid (HOn1.out.alloc (.cells #[.int .i64 q.x.kind, .int .i64 q.x.known, .int .i64 q.x.cast.id, .int .i64 q.x.cast.src, .slice q.a q.x.cast.rain.length q.c] 29))
                refine hK.out _ _ (HB6.out.trans (HBn21.out.mono HB6.out.size)) (fun hHeld => ?_)
                clear hK K
                try simp only [Act.put, List.setIfInBounds_toArray, List.set_cons_zero, List.set_cons_succ]
                refine wpAnyH_ready (rs := [4]) (by kernel_rfl) (by simp) ?_
                refine AllReadyH.cons (by simp only [List.getElem?_toArray, List.getElem?_cons_succ, List.getElem?_cons_zero]; exact rfl) (fun K hK => ?_) AllReadyH.nil
                refine step_append_any rfl _ _ 22 rfl w6.heap.size 29 iN zN 5 iN.bytes undNl hiN hzN hszN rfl hczN (by decide) _ _ _ rfl HOn24.out a2 m c2 ((Lo.take m).flatMap cellsQ) rfl (by rw [flatQ_len, List.length_take, HLK.out, Nat.min_eq_left hm]) (HS2.out _ HBn21.out) (oneQ _) (by unfold maxLen; omega) (by rw [hbN]; omega) HBn21.out.size ?_
                intro vn25 wn26 hown hgr
                have HOn27 := Lib.hid hown
                have HBn28 := Lib.hid (HBn21.out.grown hgr HBn21.out.size (fun z e => (HOn24.out.lt z e).1))
                have HSn29 : Hid (∀ j u, ([.int .i64 q.x.kind, .int .i64 q.x.known, .int .i64 q.x.cast.id, .int .i64 q.x.cast.src, .slice q.a q.x.cast.rain.length q.c] : List Value)[j]? = some u → ∃ p, some (⟨w6.heap.size + 1, 0, none⟩ : Addr) = some p ∧ wn26.cell? (p.add j) = some u) := Lib.hid (fun j u hj => by
                  obtain ⟨p, e, h⟩ := HSn20.out j u hj
                  cases e
                  refine ⟨_, rfl, ?_⟩
                  have hb : wn26.heap[w6.heap.size + 1]? = (((w6.drew).alloc (.cells #[] 29)).alloc (.cells #[.int .i64 q.x.kind, .int .i64 q.x.known, .int .i64 q.x.cast.id, .int .i64 q.x.cast.src, .slice q.a q.x.cast.rain.length q.c] 29)).heap[w6.heap.size + 1]? := hgr.block (w6.heap.size + 1) (by exact HLn22.out) (fun e => by
                    have e2 := Option.some.inj e
                    revert e2
                    simp)
                  rw [Addr.add_mid] at h ⊢
                  exact (cell_of_block hb).trans h)
                clear hown hgr
                refine hK.out _ _ (HB6.out.trans (HBn28.out.mono HB6.out.size)) (fun hHeld => ?_)
                clear hK K
                try simp only [Act.put, List.setIfInBounds_toArray, List.set_cons_zero, List.set_cons_succ]
                refine wpAnyH_ready (rs := [10]) (by kernel_rfl) (by simp) ?_
                refine AllReadyH.cons (by simp only [List.getElem?_toArray, List.getElem?_cons_succ, List.getElem?_cons_zero]; exact rfl) (fun K hK => ?_) AllReadyH.nil
                refine step_append_any rfl _ _ 22 rfl w6.heap.size 29 iN zN 5 iN.bytes undNl hiN hzN hszN rfl hczN (by decide) _ _ _ rfl HOn27.out (some ⟨w6.heap.size + 1, 0, none⟩) 1 1 [.int .i64 q.x.kind, .int .i64 q.x.known, .int .i64 q.x.cast.id, .int .i64 q.x.cast.src, .slice q.a q.x.cast.rain.length q.c] rfl rfl HSn29.out (cellsQ_one q) (by unfold maxLen; omega) (by rw [hbN]; omega) HBn28.out.size ?_
                intro vn31 wn32 hown hgr
                have HOn33 := Lib.hid hown
                have HBn34 := Lib.hid (HBn28.out.grown hgr HBn28.out.size (fun z e => (HOn27.out.lt z e).1))
                clear hown hgr
                refine hK.out _ _ (HB6.out.trans (HBn34.out.mono HB6.out.size)) (fun hHeld => ?_)
                clear hK K
                try simp only [Act.put, List.setIfInBounds_toArray, List.set_cons_zero, List.set_cons_succ]
                refine wpAnyH_ready (rs := [12]) (by kernel_rfl) (by simp) ?_
                refine AllReadyH.cons (by simp only [List.getElem?_toArray, List.getElem?_cons_succ, List.getElem?_cons_zero]; exact rfl) (fun K hK => ?_) AllReadyH.nil
                refine step_append_any rfl _ _ 22 rfl w6.heap.size 29 iN zN 5 iN.bytes undNl hiN hzN hszN rfl hczN (by decide) _ _ _ rfl HOn33.out a6 (k - m) c6 ((Lo.drop m).flatMap cellsQ) rfl (by rw [flatQ_len, List.length_drop, HLK.out]) (HS6.out _ HBn34.out) (oneQ _) (by unfold maxLen; omega) (by rw [hbN]; omega) HBn34.out.size ?_
                intro vn35 wn36 hown hgr
                have HOn37 := Lib.hid hown
                have HBn38 := Lib.hid (HBn34.out.grown hgr HBn34.out.size (fun z e => (HOn33.out.lt z e).1))
                clear hown hgr
                refine hK.out _ _ (HB6.out.trans (HBn38.out.mono HB6.out.size)) (fun hHeld => ?_)
                clear hK K
                try simp only [Act.put, List.setIfInBounds_toArray, List.set_cons_zero, List.set_cons_succ]
                refine' wpAnyH_take (i := 13) (v := _) (by simp only [List.getElem?_toArray, List.getElem?_cons_succ, List.getElem?_cons_zero]; exact rfl) (by kernel_rfl) (by kernel_rfl) (by kernel_rfl) (fun _ _ _ h => h) (Or.inl ⟨by rfl, ?y13x10⟩) hHeld ?r13x10
                case y13x10 => (intro w hSw; (try dsimp only at hSw); go_simp; try with_reducible rfl)
                try simp only [Act.put, List.setIfInBounds_toArray, List.set_cons_zero, List.set_cons_succ]
                refine wpAnyH_done (by kernel_rfl) ?_ _
                refine NoPanic.normal ?_
                have HOF : Hid (wn36.ownsRow w.heap.size 29 5 vn35 (k + 1) ((Lo.take m ++ q :: Lo.drop m).flatMap cellsQ)) := Lib.hid (by
                  have h := row_base HOn37.out HB6.out.size
                  rw [List.nil_append, Nat.zero_add, show m + 1 + (k - m) = k + 1 by omega, List.append_assoc] at h
                  rw [List.flatMap_append, List.flatMap_cons]
                  exact h)
                have HBF := Lib.hid (HB6.out.trans (HBn38.out.mono HB6.out.size))
                go_wp2_with fail
                go_roundw
                case rel => exact ⟨k + 1, Lo.take m ++ q :: Lo.drop m, by omega, by go_num, HPN.out, HSN.out, HOF.out, HBF.out⟩
                case measure => simp [intOf]; omega
            · go_simp
              have HSn39 : Hid (∀ j u, ([.int .i64 q.x.kind, .int .i64 q.x.known, .int .i64 q.x.cast.id, .int .i64 q.x.cast.src, .slice q.a q.x.cast.rain.length q.c] : List Value)[j]? = some u → ∃ p, some (⟨w6.heap.size, 0, none⟩ : Addr) = some p ∧ ((w6.drew).alloc (.cells #[.int .i64 q.x.kind, .int .i64 q.x.known, .int .i64 q.x.cast.id, .int .i64 q.x.cast.src, .slice q.a q.x.cast.rain.length q.c] 29)).cell? (p.add j) = some u) := Lib.hid (fun j u hj => ⟨_, rfl, by
                have hx := new_cells (w6.drew) [.int .i64 q.x.kind, .int .i64 q.x.known, .int .i64 q.x.cast.id, .int .i64 q.x.cast.src, .slice q.a q.x.cast.rain.length q.c] 29 j u hj
                skip
                exact hx⟩)
              have HLn41 : Hid (w6.heap.size < ((w6.drew).alloc (.cells #[.int .i64 q.x.kind, .int .i64 q.x.known, .int .i64 q.x.cast.id, .int .i64 q.x.cast.src, .slice q.a q.x.cast.rain.length q.c] 29)).heap.size) := Lib.hid (by
                have hx := blk_lt (heap_alloc_new (w6.drew) (.cells #[.int .i64 q.x.kind, .int .i64 q.x.known, .int .i64 q.x.cast.id, .int .i64 q.x.cast.src, .slice q.a q.x.cast.rain.length q.c] 29))
                skip
                exact hx)
              have HBn40 := Lib.hid (B0.out.alloc B0.out.size (.cells #[.int .i64 q.x.kind, .int .i64 q.x.known, .int .i64 q.x.cast.id, .int .i64 q.x.cast.src, .slice q.a q.x.cast.rain.length q.c] 29))
              refine hK.out _ _ (HB6.out.trans (HBn40.out.mono HB6.out.size)) (fun hHeld => ?_)
              clear hK K
              try simp only [Act.put, List.setIfInBounds_toArray, List.set_cons_zero, List.set_cons_succ]
              refine wpAnyH_ready (rs := [0]) (by kernel_rfl) (by simp) ?_
              refine AllReadyH.cons (by simp only [List.getElem?_toArray, List.getElem?_cons_zero]; exact rfl) (fun K hK => ?_) AllReadyH.nil
              go_simp
              have eS : ((w6.drew).alloc (.cells #[.int .i64 q.x.kind, .int .i64 q.x.known, .int .i64 q.x.cast.id, .int .i64 q.x.cast.src, .slice q.a q.x.cast.rain.length q.c] 29)).heap.size = w6.heap.size + 1 := by simp
              have hx := row_base (owns_empty5 ((w6.drew).alloc (.cells #[.int .i64 q.x.kind, .int .i64 q.x.known, .int .i64 q.x.cast.id, .int .i64 q.x.cast.src, .slice q.a q.x.cast.rain.length q.c] 29))) HBn40.out.size
              rw [eS] at hx
              have HOn43 := Lib.hid hx
              clear hx
              have HBn44 := Lib.hid (HBn40.out.alloc HBn40.out.size (.cells #[] 29))
              have HSn45 : Hid (∀ j u, ([.int .i64 q.x.kind, .int .i64 q.x.known, .int .i64 q.x.cast.id, .int .i64 q.x.cast.src, .slice q.a q.x.cast.rain.length q.c] : List Value)[j]? = some u → ∃ p, some (⟨w6.heap.size, 0, none⟩ : Addr) = some p ∧ (((w6.drew).alloc (.cells #[.int .i64 q.x.kind, .int .i64 q.x.known, .int .i64 q.x.cast.id, .int .i64 q.x.cast.src, .slice q.a q.x.cast.rain.length q.c] 29)).alloc (.cells #[] 29)).cell? (p.add j) = some u) := Lib.hid (fun j u hj => by
                obtain ⟨p, e, h⟩ := HSn39.out j u hj
                cases e
                refine ⟨_, rfl, ?_⟩
                rw [Addr.add_mid] at h ⊢
                exact (((Below.refl ((w6.drew).alloc (.cells #[.int .i64 q.x.kind, .int .i64 q.x.known, .int .i64 q.x.cast.id, .int .i64 q.x.cast.src, .slice q.a q.x.cast.rain.length q.c] 29)).heap.size ((w6.drew).alloc (.cells #[.int .i64 q.x.kind, .int .i64 q.x.known, .int .i64 q.x.cast.id, .int .i64 q.x.cast.src, .slice q.a q.x.cast.rain.length q.c] 29))).alloc (Nat.le_refl _) (.cells #[] 29)).cell (p := ⟨w6.heap.size, 0 + j, none⟩) HLn41.out).trans h)
              have HLn46 := Lib.hid (Nat.lt_of_lt_of_le HLn41.out ((Below.refl ((w6.drew).alloc (.cells #[.int .i64 q.x.kind, .int .i64 q.x.known, .int .i64 q.x.cast.id, .int .i64 q.x.cast.src, .slice q.a q.x.cast.rain.length q.c] 29)).heap.size ((w6.drew).alloc (.cells #[.int .i64 q.x.kind, .int .i64 q.x.known, .int .i64 q.x.cast.id, .int .i64 q.x.cast.src, .slice q.a q.x.cast.rain.length q.c] 29))).alloc (Nat.le_refl _) (.cells #[] 29)).size)
              refine hK.out _ _ (HB6.out.trans (HBn44.out.mono HB6.out.size)) (fun hHeld => ?_)
              clear hK K
              try simp only [Act.put, List.setIfInBounds_toArray, List.set_cons_zero, List.set_cons_succ]
              refine wpAnyH_ready (rs := [4]) (by kernel_rfl) (by simp) ?_
              refine AllReadyH.cons (by simp only [List.getElem?_toArray, List.getElem?_cons_succ, List.getElem?_cons_zero]; exact rfl) (fun K hK => ?_) AllReadyH.nil
              refine step_append_any rfl _ _ 22 rfl w6.heap.size 29 iN zN 5 iN.bytes undNl hiN hzN hszN rfl hczN (by decide) _ _ _ rfl HOn43.out a2 m c2 ((Lo.take m).flatMap cellsQ) rfl (by rw [flatQ_len, List.length_take, HLK.out, Nat.min_eq_left hm]) (HS2.out _ HBn44.out) (oneQ _) (by unfold maxLen; omega) (by rw [hbN]; omega) HBn44.out.size ?_
              intro vn47 wn48 hown hgr
              have HOn49 := Lib.hid hown
              have HBn50 := Lib.hid (HBn44.out.grown hgr HBn44.out.size (fun z e => (HOn43.out.lt z e).1))
              have HSn51 : Hid (∀ j u, ([.int .i64 q.x.kind, .int .i64 q.x.known, .int .i64 q.x.cast.id, .int .i64 q.x.cast.src, .slice q.a q.x.cast.rain.length q.c] : List Value)[j]? = some u → ∃ p, some (⟨w6.heap.size, 0, none⟩ : Addr) = some p ∧ wn48.cell? (p.add j) = some u) := Lib.hid (fun j u hj => by
                obtain ⟨p, e, h⟩ := HSn45.out j u hj
                cases e
                refine ⟨_, rfl, ?_⟩
                have hb : wn48.heap[w6.heap.size]? = (((w6.drew).alloc (.cells #[.int .i64 q.x.kind, .int .i64 q.x.known, .int .i64 q.x.cast.id, .int .i64 q.x.cast.src, .slice q.a q.x.cast.rain.length q.c] 29)).alloc (.cells #[] 29)).heap[w6.heap.size]? := hgr.block (w6.heap.size) (by exact HLn46.out) (fun e => by
                  have e2 := Option.some.inj e
                  revert e2
                  simp)
                rw [Addr.add_mid] at h ⊢
                exact (cell_of_block hb).trans h)
              clear hown hgr
              refine hK.out _ _ (HB6.out.trans (HBn50.out.mono HB6.out.size)) (fun hHeld => ?_)
              clear hK K
              try simp only [Act.put, List.setIfInBounds_toArray, List.set_cons_zero, List.set_cons_succ]
              refine wpAnyH_ready (rs := [10]) (by kernel_rfl) (by simp) ?_
              refine AllReadyH.cons (by simp only [List.getElem?_toArray, List.getElem?_cons_succ, List.getElem?_cons_zero]; exact rfl) (fun K hK => ?_) AllReadyH.nil
              refine step_append_any rfl _ _ 22 rfl w6.heap.size 29 iN zN 5 iN.bytes undNl hiN hzN hszN rfl hczN (by decide) _ _ _ rfl HOn49.out (some ⟨w6.heap.size, 0, none⟩) 1 1 [.int .i64 q.x.kind, .int .i64 q.x.known, .int .i64 q.x.cast.id, .int .i64 q.x.cast.src, .slice q.a q.x.cast.rain.length q.c] rfl rfl HSn51.out (cellsQ_one q) (by unfold maxLen; omega) (by rw [hbN]; omega) HBn50.out.size ?_
              intro vn53 wn54 hown hgr
              have HOn55 := Lib.hid hown
              have HBn56 := Lib.hid (HBn50.out.grown hgr HBn50.out.size (fun z e => (HOn49.out.lt z e).1))
              clear hown hgr
              refine hK.out _ _ (HB6.out.trans (HBn56.out.mono HB6.out.size)) (fun hHeld => ?_)
              clear hK K
              try simp only [Act.put, List.setIfInBounds_toArray, List.set_cons_zero, List.set_cons_succ]
              refine wpAnyH_ready (rs := [12]) (by kernel_rfl) (by simp) ?_
              refine AllReadyH.cons (by simp only [List.getElem?_toArray, List.getElem?_cons_succ, List.getElem?_cons_zero]; exact rfl) (fun K hK => ?_) AllReadyH.nil
              refine step_append_any rfl _ _ 22 rfl w6.heap.size 29 iN zN 5 iN.bytes undNl hiN hzN hszN rfl hczN (by decide) _ _ _ rfl HOn55.out a6 (k - m) c6 ((Lo.drop m).flatMap cellsQ) rfl (by rw [flatQ_len, List.length_drop, HLK.out]) (HS6.out _ HBn56.out) (oneQ _) (by unfold maxLen; omega) (by rw [hbN]; omega) HBn56.out.size ?_
              intro vn57 wn58 hown hgr
              have HOn59 := Lib.hid hown
              have HBn60 := Lib.hid (HBn56.out.grown hgr HBn56.out.size (fun z e => (HOn55.out.lt z e).1))
              clear hown hgr
              refine hK.out _ _ (HB6.out.trans (HBn60.out.mono HB6.out.size)) (fun hHeld => ?_)
              clear hK K
              try simp only [Act.put, List.setIfInBounds_toArray, List.set_cons_zero, List.set_cons_succ]
              refine' wpAnyH_take (i := 13) (v := _) (by simp only [List.getElem?_toArray, List.getElem?_cons_succ, List.getElem?_cons_zero]; exact rfl) (by kernel_rfl) (by kernel_rfl) (by kernel_rfl) (fun _ _ _ h => h) (Or.inl ⟨by rfl, ?y13x11⟩) hHeld ?r13x11
              case y13x11 => (intro w hSw; (try dsimp only at hSw); go_simp; try with_reducible rfl)
              try simp only [Act.put, List.setIfInBounds_toArray, List.set_cons_zero, List.set_cons_succ]
              refine wpAnyH_done (by kernel_rfl) ?_ _
              refine NoPanic.normal ?_
              have HOF : Hid (wn58.ownsRow w.heap.size 29 5 vn57 (k + 1) ((Lo.take m ++ q :: Lo.drop m).flatMap cellsQ)) := Lib.hid (by
                have h := row_base HOn59.out HB6.out.size
                rw [List.nil_append, Nat.zero_add, show m + 1 + (k - m) = k + 1 by omega, List.append_assoc] at h
                rw [List.flatMap_append, List.flatMap_cons]
                exact h)
              have HBF := Lib.hid (HB6.out.trans (HBn60.out.mono HB6.out.size))
              go_wp2_with fail
              go_roundw
              case rel => exact ⟨k + 1, Lo.take m ++ q :: Lo.drop m, by omega, by go_num, HPN.out, HSN.out, HOF.out, HBF.out⟩
              case measure => simp [intOf]; omega
    · obtain rfl : k = L.length := by omega
      rw [List.take_length] at HPO
      clear hlt hk
      go_wp2_with fail
      go_ret
      exact ⟨Lo, _, rfl, HPO.out, HSO.out, by rw [HLK.out]; exact HO.out, HBr.out⟩
end Go.Proofs.Ytleiiedacachjaa
