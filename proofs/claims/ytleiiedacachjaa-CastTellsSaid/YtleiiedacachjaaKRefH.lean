/- bourneref29.Admitted: the forecasts that stand. -/
import Derived.Test.YtleiiedacachjaaKRefF
import Derived.Test.YtleiiedacachjaaKRefG
namespace Go.Proofs.Ytleiiedacachjaa
open Go.RowKit
def c3 (q : CodE) : List Value := [.int .i64 q.x.cast.id, .int .i64 q.x.cast.src, .slice q.a q.x.cast.rain.length q.c]
theorem c3_len (q : CodE) : (c3 q).length = 3 := rfl
theorem c3_one (q : CodE) : ∀ v ∈ c3 q, v.oneCell' = true := fun v hv => by
  unfold c3 at hv
  simp only [List.mem_cons, List.not_mem_nil, or_false] at hv
  rcases hv with rfl | rfl | rfl <;> rfl
theorem undKl : Try.prog.underlying 30 = some (.slice 27) := by kernel_rfl
theorem elemKl : Try.prog.elem 30 = 27 := by kernel_rfl
theorem flat3_snoc (L : List CodE) (q : CodE) : (L ++ [q]).flatMap c3 = L.flatMap c3 ++ c3 q := by rw [List.flatMap_append, List.flatMap_cons, List.flatMap_nil, List.append_nil]
theorem flat3_len (L : List CodE) : (L.flatMap c3).length = L.length * 3 := by
  induction L with
  | nil => rfl
  | cons q L ih => rw [List.flatMap_cons, List.length_append, ih, c3_len, List.length_cons]; omega
theorem flat3_take (L : List CodE) : ∀ (m : Nat), (L.flatMap c3).take (m * 3) = (L.take m).flatMap c3 := by
  induction L with
  | nil => intro m; simp
  | cons q L ih =>
    intro m
    cases m with
    | zero => simp
    | succ m =>
      rw [List.flatMap_cons, List.take_succ_cons, List.flatMap_cons, List.take_append, c3_len, List.take_of_length_le (by rw [c3_len]; omega), show (m + 1) * 3 - 3 = m * 3 by omega, ih]
theorem owns3_at {base : Nat} {v : Value} {w : World} {e : TypeId} {L : List CodE} {n : Nat} (hn : L.length = n) (h : w.ownsRow base e 3 v n (L.flatMap c3)) : ∃ a c, v = .slice a n c ∧ ∀ (i : Nat) (q : CodE), L[i]? = some q → ∃ g, a = some ⟨g, 0, none⟩ ∧ g < w.heap.size ∧ w.rangeAt g (i * 3) (c3 q) := by
  obtain ⟨a, c, rfl⟩ := owns_slice h
  refine ⟨a, c, rfl, fun i q hq => ?_⟩
  rcases owns_cell h with ⟨-, h0, -, -⟩ | ⟨g, e, -, -, hgl, -, hc⟩
  · have := (List.getElem?_eq_some_iff.1 hq).1
    omega
  · exact ⟨g, e, hgl, fun j u hu => hc _ _ (flat_getG c3_len L i q hq j u hu)⟩
theorem larg_take {w' : World} {L : List CodE} {a : Option Addr} {m c : Nat} (hml : L.length = m) (hmc : m ≤ c) (hcm : c ≤ maxLen) (hcell : ∀ j u, (L.flatMap c3)[j]? = some u → ∃ p, a = some p ∧ w'.cell? (p.add j) = some u)
    (hmid : ∀ p, a = some p → p.spot = none) (hr : ∀ q ∈ L, LArg (RList RSpan 2) 1 (.slice q.a q.x.cast.rain.length q.c) q.x.cast.rain w') (hI : ∀ q ∈ L, NewsI q.x) : LArg RCast 3 (.slice a m c) (L.map (·.x.cast)) w' := by
  subst hml
  refine ⟨a, c, by rw [List.length_map], by rw [List.length_map]; exact hmc, hcm, fun i x hx => ?_⟩
  rw [List.getElem?_map, Option.map_eq_some_iff] at hx
  obtain ⟨q, hq, rfl⟩ := hx
  have hm := List.mem_of_getElem? hq
  obtain ⟨p, rfl, hp0⟩ := hcell (i * 3 + 0) _ (flat_getG c3_len L i q hq 0 _ rfl)
  obtain ⟨b, o, sp⟩ := p
  have hsp := hmid _ rfl
  simp only at hsp
  subst hsp
  have hc : ∀ (j : Nat) u, (c3 q)[j]? = some u → w'.cell? ⟨b, o + i * 3 + j, none⟩ = some u := fun j u hu => by
    obtain ⟨p', e, h⟩ := hcell (i * 3 + j) u (flat_getG c3_len L i q hq j u hu)
    cases e
    rw [Addr.add_mid, ← Nat.add_assoc] at h
    exact h
  have hn := hI q hm
  exact ⟨b, o, c3 q, rfl, World.block_lt_of_cell? _ _ (hc 0 _ rfl), rfl, hc, _, rfl, hn.1.2.2.1, hn.1.2.2.2, hr q hm⟩
theorem range_mid {w : World} {g k : Nat} {q : CodE} (h : w.rangeAt g (k * 5) [.int .i64 q.x.kind, .int .i64 q.x.known, .int .i64 q.x.cast.id, .int .i64 q.x.cast.src, .slice q.a q.x.cast.rain.length q.c]) : w.rangeAt g (k * 5 + 2) [.int .i64 q.x.cast.id, .int .i64 q.x.cast.src, .slice q.a q.x.cast.rain.length q.c] := fun i u hu => by
  match i, hu with
  | 0, hu => cases hu; exact h 2 _ rfl
  | 1, hu => cases hu; exact h 3 _ rfl
  | 2, hu => cases hu; exact h 4 _ rfl
theorem slice_facts {w : World} {base n s m : Nat} {e t : TypeId} {a a1 : Option Addr} {c c1 : Nat} {xs : List Value} (ht : Try.prog.underlying t = some (.slice e)) (he : Try.prog.elem t = e) (hsz : ∀ W, (sizeOf e).run Try.prog W = .ok s W) (h : w.ownsRow base e s (.slice a n c) n xs) (hm : m ≤ n)
    (hr : ∀ W, (Instr.sliceAt t (.slice a n c) none (some (.int .i64 (m : Int))) none).run Try.prog W = .ok (.slice a1 m c1) W) : m ≤ c1 ∧ c1 ≤ maxLen ∧ ∀ p, a1 = some p → p.spot = none := by
  have hnc : n ≤ c ∧ c ≤ maxLen ∧ (a = none ∨ ∃ g, a = some ⟨g, 0, none⟩) := by
    rcases h.2 with ⟨h1, h2⟩ | ⟨g, cap, cur, h1, hg, hh, hnc, hcm, hcs, htk⟩
    · simp only [Value.slice.injEq] at h1
      obtain ⟨rfl, rfl, rfl⟩ := h1
      exact ⟨Nat.le_refl _, Nat.zero_le _, Or.inl rfl⟩
    · simp only [Value.slice.injEq] at h1
      obtain ⟨rfl, -, rfl⟩ := h1
      exact ⟨hnc, hcm, Or.inr ⟨g, rfl⟩⟩
  have h2 := hr w
  rw [run_sliceAt_slice (t := t) (h := by rw [he]; exact ht), run_slice_h (t := t) (ht := by rw [he]; exact ht) (h0 := by omega) (h2 := by omega), he, hsz] at h2
  simp only [Result.andThen_ok, sliced, Int.toNat_natCast, Nat.sub_zero, Result.ok.injEq, Value.slice.injEq, true_and, and_true] at h2
  obtain ⟨h3, h4⟩ := h2
  subst h4
  refine ⟨by omega, hnc.2.1, fun p hp => ?_⟩
  subst h3
  rcases hnc.2.2 with rfl | ⟨g, rfl⟩
  · split at hp <;> cases hp
  · split at hp <;> (cases hp; first | rfl | (show ((⟨g, 0, none⟩ : Addr).add (0 * s)).spot = none; rw [Addr.add_mid]))
set_option maxRecDepth 100000 in
set_option maxHeartbeats 8000000 in
theorem radm_any (L : List CodE) (big : List NewsV) (a : Option Addr) (c : Nat) (h : Int) (w : World)
    (hat : ∀ (i : Nat) (q : CodE), L[i]? = some q → ∃ b o, a = some ⟨b, o, none⟩ ∧ b < w.heap.size ∧ w.rangeAt b (o + i * 5) (cellsQ q))
    (hr : ∀ q ∈ L, LArg (RList RSpan 2) 1 (.slice q.a q.x.cast.rain.length q.c) q.x.cast.rain w) (hI : ∀ q ∈ L, NewsI q.x) (hF : ∀ q ∈ L, FewN q.x) (hl : L.length ≤ 40) (hB : IsBig h (L.map (·.x)) big) :
    Calls Try.prog 30 #[.slice a L.length c, .int .i64 h] w fun e w' => ∃ v, e = .returned v ∧ LArg RCast 3 v ((keepN big).map (·.cast)) w' ∧ Below w.heap.size w w' := by
  obtain ⟨ic, zc, hic, hsz, hzc, hcz, hbc⟩ := infoKc
  have HOR := Lib.hid (rorder_any L a c w hat hr hI hF hl)
  have HR := Lib.hid hr
  have HI := Lib.hid hI
  have HBIG := Lib.hid hB
  clear hat hr hI hF hB
  go_enter Try.func30, Try.ntmps30
  go_wp2_with fail
  refine HOR.out.mono ?_
  rintro e w1 ⟨o, v1, rfl, hperm, hkey, hown, hb⟩
  obtain ⟨ao, co, rfl, hao⟩ := ownsQ_at hown
  have HPP := Lib.hid hperm
  have HKY := Lib.hid hkey
  have HAQ := Lib.hid hao
  have hlo : o.length ≤ 40 := by rw [hperm.length_eq]; exact hl
  have HB1 := Lib.hid hb
  clear hperm hkey hown hao hb HOR
  go_wp2_with fail
  go_loopw [6, 7, 8, 9, 10] (fun ov iv _ _ _ wr => ∃ (k : Nat) (Lo : List CodE), k ≤ o.length ∧ iv = .int .i64 (k : Int) ∧ StandA h o k Lo ∧ wr.ownsRow w1.heap.size 27 3 ov Lo.length (Lo.flatMap c3) ∧ Below w1.heap.size w1 wr) (fun _ iv _ _ _ _ => o.length - (intOf iv).toNat)
  case atStart => exact ⟨0, [], Nat.zero_le _, rfl, stand_zero _ _, World.ownsRow_nil _ _ _ _, Below.refl _ _⟩
  case round =>
    obtain ⟨k, Lo, hk, rfl, hst, ho, hBr⟩ := hrel
    obtain ⟨al, cl, rfl, hal⟩ := owns3_at rfl ho
    have HAL := Lib.hid hal
    have HST := Lib.hid hst
    have HO := Lib.hid ho
    have HBr := Lib.hid hBr
    have hLL : Lo.length ≤ 40 := by
      have hnd : (Lo.map (·.x.cast.id)).Nodup := by
        rw [List.nodup_iff_pairwise_ne, List.pairwise_map]
        exact hst.sorted.imp (fun {a b} hab => by unfold IdLt at hab; omega)
      have := nodup_len (xs := o.map (·.x.cast.id)) hnd (fun z hz => by
        obtain ⟨q, hq, rfl⟩ := List.mem_map.1 hz
        obtain ⟨m, _, hm, _⟩ := (hst.mem q).1 hq
        exact List.mem_map.2 ⟨q, List.mem_of_getElem? hm, rfl⟩)
      rw [List.length_map, List.length_map] at this
      omega
    clear hal hst ho hBr
    by_cases hlt : k < o.length
    · obtain ⟨q, hq⟩ : ∃ q, o[k]? = some q := ⟨_, List.getElem?_eq_getElem hlt⟩
      obtain ⟨go, rfl, -, hgo, hrg⟩ := HAQ.out k q hq
      have HQ := Lib.hid hq
      have hltk : (k : Int) < (o.length : Int) := by omega
      have hrgo := range_below hrg HBr.out hgo
      unfold cellsQ entC cellsE cellsN at hrgo hrg
      dsimp only at hrgo hrg
      rw [Nat.zero_add] at hrgo hrg
      have HRG := Lib.hid hrg
      have HGO := Lib.hid hgo
      have ck := hrgo 0 _ rfl
      simp only [Nat.add_zero] at ck
      have cn := hrgo 1 _ rfl
      clear hrg hq hgo
      by_cases t1 : h < q.x.known
      · go_wp2_with fail
        go_roundw
        case rel => exact ⟨k + 1, Lo, by omega, by go_num, stand_skip HST.out HQ.out (fun hc => by have := hc.2.2; omega), HO.out, HBr.out⟩
        case measure => simp [intOf]; omega
      by_cases t2 : q.x.kind < 0
      · go_wp2_with fail
        go_roundw
        case rel => exact ⟨k + 1, Lo, by omega, by go_num, stand_skip HST.out HQ.out (fun hc => by have := hc.1; omega), HO.out, HBr.out⟩
        case measure => simp [intOf]; omega
      by_cases t3 : (3 : Int) ≤ q.x.kind
      · go_wp2_with fail
        go_roundw
        case rel => exact ⟨k + 1, Lo, by omega, by go_num, stand_skip HST.out HQ.out (fun hc => by have := hc.2.1; omega), HO.out, HBr.out⟩
        case measure => simp [intOf]; omega
      have HCN : Hid (CountsN h q.x) := Lib.hid ⟨by omega, by omega, by omega⟩
      have HEQ : Hid ((q.x.kind == 2) = decide (q.x.kind = 2)) := Lib.hid (by by_cases e : q.x.kind = 2 <;> simp [e])
      have heq := HEQ.out
      have hqo := hrgo 2 _ rfl
      clear hrgo
      obtain ⟨d0, hd0⟩ : ∃ d0 : Bool, d0 = decide (q.x.kind = 2) := ⟨_, rfl⟩
      rw [← hd0] at heq
      have HD0 := Lib.hid hd0
      clear hd0
      go_wp2_with fail
      clear ck heq hqo t1 t2 t3 cn
      go_loopw [8, 9, 10] (fun nv dv jv wy => ∃ (j : Nat) (Nx : List CodE) (dn : Bool), j ≤ Lo.length ∧ Nx.length ≤ 2 * j ∧ jv = .int .i64 (j : Int) ∧ dv = .bool dn ∧ wy.ownsRow wr.heap.size 27 3 nv Nx.length (Nx.flatMap c3) ∧ Nx ++ stepA q dn (Lo.drop j) = stepA q d0 Lo ∧ Below wr.heap.size wr wy) (fun _ _ jv _ => Lo.length - (intOf jv).toNat)
      case atStart => exact ⟨0, [], d0, Nat.zero_le _, Nat.zero_le _, rfl, rfl, World.ownsRow_nil _ _ _ _, rfl, Below.refl _ _⟩
      case round =>
        rename World => wy
        rename Value => nv
        obtain ⟨j, Nx, dn, hj, hnl, rfl, rfl, hn, hinv, hBy⟩ := hrel
        obtain ⟨an, cn, rfl⟩ := owns_slice hn
        have HN := Lib.hid hn
        have HINV := Lib.hid hinv
        have HBy := Lib.hid hBy
        clear hn hinv hBy
        by_cases hjl : j < Lo.length
        · obtain ⟨p, hp⟩ : ∃ p, Lo[j]? = some p := ⟨_, List.getElem?_eq_getElem hjl⟩
          obtain ⟨gl, rfl, hgl, hrgl⟩ := HAL.out j p hp
          have HRL : Hid (wr.rangeAt gl (j * 3) [.int .i64 p.x.cast.id, .int .i64 p.x.cast.src, .slice p.a p.x.cast.rain.length p.c]) := Lib.hid hrgl
          have HGL := Lib.hid hgl
          have hltj : (j : Int) < (Lo.length : Int) := by omega
          have hdrop : Lo.drop j = p :: Lo.drop (j + 1) := by
            rw [List.drop_eq_getElem_cons hjl, (List.getElem?_eq_some_iff.1 hp).2]
          have HDR := Lib.hid hdrop
          clear hrgl hp hgl hdrop
          have HB1y := Lib.hid (HBr.out.trans (HBy.out.mono HBr.out.size))
          have hrq := range_below HRG.out HB1y.out HGO.out
          have HQL := Lib.hid (Nat.lt_of_lt_of_le HGO.out HB1y.out.size)
          have HQI := Lib.hid (hrq 2 _ rfl)
          have HRQ := Lib.hid (range_mid hrq)
          clear hrq
          have HRP := Lib.hid (range_below HRL.out HBy.out HGL.out)
          have HPL := Lib.hid (Nat.lt_of_lt_of_le HGL.out HBy.out.size)
          have HPI := Lib.hid (HRP.out 0 _ rfl)
          simp only [Nat.add_zero] at HPI
          go_upto_region 12 with fail
          by_cases he : p.x.cast.id = q.x.cast.id
          · rw [he] at HPI
            have HE : Hid (stepA q dn (Lo.drop j) = stepA q dn (Lo.drop (j + 1))) := Lib.hid (by rw [HDR.out]; conv => lhs; unfold stepA; rw [if_pos he])
            refine wp_region_noPanic ?_
            refine wp_region_held_drew (S := fun w' => Below wy.heap.size wy w') (by kernel_rfl) (Below.refl _ _).drew (fun hHeld => ?_)
            refine' wpAnyH_take (i := 0) (v := _) (by simp only [List.getElem?_toArray, List.getElem?_cons_succ, List.getElem?_cons_zero]; exact rfl) (by kernel_rfl) (by kernel_rfl) (by kernel_rfl) (fun _ _ _ h => h) (Or.inl ⟨by rfl, ?y0x1⟩) hHeld ?r0x1
            case y0x1 => (intro w hSw; (try dsimp only at hSw); go_simp; try with_reducible rfl)
            try simp only [Act.put, List.setIfInBounds_toArray, List.set_cons_zero, List.set_cons_succ]
            refine' wpAnyH_take (i := 1) (v := _) (by simp only [List.getElem?_toArray, List.getElem?_cons_succ, List.getElem?_cons_zero]; exact rfl) (by kernel_rfl) (by kernel_rfl) (by kernel_rfl) (fun _ _ _ h => h) (Or.inl ⟨by rfl, ?y1x2⟩) hHeld ?r1x2
            case y1x2 => (intro w hSw; (try dsimp only at hSw); go_simp; try with_reducible rfl)
            try simp only [Act.put, List.setIfInBounds_toArray, List.set_cons_zero, List.set_cons_succ]
            refine' wpAnyH_take (i := 2) (v := _) (by simp only [List.getElem?_toArray, List.getElem?_cons_succ, List.getElem?_cons_zero]; exact rfl) (by kernel_rfl) (by kernel_rfl) (by kernel_rfl) (fun _ _ _ h => h) (Or.inl ⟨by rfl, ?y2x3⟩) hHeld ?r2x3
            case y2x3 => (intro w hSw; (try dsimp only at hSw); go_simp; try with_reducible rfl)
            try simp only [Act.put, List.setIfInBounds_toArray, List.set_cons_zero, List.set_cons_succ]
            refine' wpAnyH_take (i := 3) (v := _) (by simp only [List.getElem?_toArray, List.getElem?_cons_succ, List.getElem?_cons_zero]; exact rfl) (by kernel_rfl) (by kernel_rfl) (by kernel_rfl) (fun _ _ _ h => h) (Or.inl ⟨by rfl, ?y3x4⟩) hHeld ?r3x4
            case y3x4 => (intro w hSw; (try dsimp only at hSw); go_simp; try with_reducible rfl)
            try simp only [Act.put, List.setIfInBounds_toArray, List.set_cons_zero, List.set_cons_succ]
            refine' wpAnyH_take (i := 4) (v := _) (by simp only [List.getElem?_toArray, List.getElem?_cons_succ, List.getElem?_cons_zero]; exact rfl) (by kernel_rfl) (by kernel_rfl) (by kernel_rfl) (fun _ _ _ h => h) (Or.inl ⟨by rfl, ?y4x5⟩) hHeld ?r4x5
            case y4x5 => (intro wz hSw; have e4 := (hSw.cell HPL.out).trans HPI.out; go_simp; try with_reducible rfl)
            try simp only [Act.put, List.setIfInBounds_toArray, List.set_cons_zero, List.set_cons_succ]
            refine' wpAnyH_take (i := 5) (v := _) (by simp only [List.getElem?_toArray, List.getElem?_cons_succ, List.getElem?_cons_zero]; exact rfl) (by kernel_rfl) (by kernel_rfl) (by kernel_rfl) (fun _ _ _ h => h) (Or.inl ⟨by rfl, ?y5x6⟩) hHeld ?r5x6
            case y5x6 => (intro w hSw; (try dsimp only at hSw); go_simp; try with_reducible rfl)
            try simp only [Act.put, List.setIfInBounds_toArray, List.set_cons_zero, List.set_cons_succ]
            refine' wpAnyH_take (i := 6) (v := _) (by simp only [List.getElem?_toArray, List.getElem?_cons_succ, List.getElem?_cons_zero]; exact rfl) (by kernel_rfl) (by kernel_rfl) (by kernel_rfl) (fun _ _ _ h => h) (Or.inl ⟨by rfl, ?y6x7⟩) hHeld ?r6x7
            case y6x7 => (intro w hSw; (try dsimp only at hSw); go_simp; try with_reducible rfl)
            try simp only [Act.put, List.setIfInBounds_toArray, List.set_cons_zero, List.set_cons_succ]
            refine' wpAnyH_take (i := 7) (v := _) (by simp only [List.getElem?_toArray, List.getElem?_cons_succ, List.getElem?_cons_zero]; exact rfl) (by kernel_rfl) (by kernel_rfl) (by kernel_rfl) (fun _ _ _ h => h) (Or.inl ⟨by rfl, ?y7x8⟩) hHeld ?r7x8
            case y7x8 => (intro w hSw; (try dsimp only at hSw); go_simp; try with_reducible rfl)
            try simp only [Act.put, List.setIfInBounds_toArray, List.set_cons_zero, List.set_cons_succ]
            refine' wpAnyH_take (i := 8) (v := _) (by simp only [List.getElem?_toArray, List.getElem?_cons_succ, List.getElem?_cons_zero]; exact rfl) (by kernel_rfl) (by kernel_rfl) (by kernel_rfl) (fun _ _ _ h => h) (Or.inl ⟨by rfl, ?y8x9⟩) hHeld ?r8x9
            case y8x9 => (intro w hSw; (try dsimp only at hSw); go_simp; try with_reducible rfl)
            try simp only [Act.put, List.setIfInBounds_toArray, List.set_cons_zero, List.set_cons_succ]
            refine' wpAnyH_take (i := 9) (v := _) (by simp only [List.getElem?_toArray, List.getElem?_cons_succ, List.getElem?_cons_zero]; exact rfl) (by kernel_rfl) (by kernel_rfl) (by kernel_rfl) (fun _ _ _ h => h) (Or.inl ⟨by rfl, ?y9x10⟩) hHeld ?r9x10
            case y9x10 => (intro w hSw; (try dsimp only at hSw); go_simp; try with_reducible rfl)
            try simp only [Act.put, List.setIfInBounds_toArray, List.set_cons_zero, List.set_cons_succ]
            refine' wpAnyH_take (i := 10) (v := _) (by simp only [List.getElem?_toArray, List.getElem?_cons_succ, List.getElem?_cons_zero]; exact rfl) (by kernel_rfl) (by kernel_rfl) (by kernel_rfl) (fun _ _ _ h => h) (Or.inl ⟨by rfl, ?y10x11⟩) hHeld ?r10x11
            case y10x11 => (intro wz hSw; have e4 := (hSw.cell HQL.out).trans HQI.out; go_simp; try with_reducible rfl)
            try simp only [Act.put, List.setIfInBounds_toArray, List.set_cons_zero, List.set_cons_succ]
            refine' wpAnyH_take (i := 11) (v := _) (by simp only [List.getElem?_toArray, List.getElem?_cons_succ, List.getElem?_cons_zero]; exact rfl) (by kernel_rfl) (by kernel_rfl) (by kernel_rfl) (fun _ _ _ h => h) (Or.inl ⟨by rfl, ?y11x12⟩) hHeld ?r11x12
            case y11x12 => (intro w hSw; (try dsimp only at hSw); go_simp; try with_reducible rfl)
            try simp only [Act.put, List.setIfInBounds_toArray, List.set_cons_zero, List.set_cons_succ]
            refine wpAnyH_done (by kernel_rfl) ?_ _
            refine NoPanic.normal ?_
            have HBz := Lib.hid (HBy.out.trans (hHeld.mono HBy.out.size))
            have HNz := Lib.hid (owns_up HN.out hHeld)
            go_wp2_with fail
            go_roundw
            case rel => exact ⟨j + 1, Nx, dn, by omega, by omega, by go_num, rfl, HNz.out, by rw [← HE.out]; exact HINV.out, HBz.out⟩
            case measure => simp [intOf]; omega
          · have hne : (p.x.cast.id == q.x.cast.id) = false := beq_eq_false_iff_ne.2 he
            refine wp_region_noPanic ?_
            refine wp_region_held_drew (S := fun w' => Below wy.heap.size wy w') (by kernel_rfl) (Below.refl _ _).drew (fun hHeld => ?_)
            refine' wpAnyH_take (i := 0) (v := _) (by simp only [List.getElem?_toArray, List.getElem?_cons_succ, List.getElem?_cons_zero]; exact rfl) (by kernel_rfl) (by kernel_rfl) (by kernel_rfl) (fun _ _ _ h => h) (Or.inl ⟨by rfl, ?y0x13⟩) hHeld ?r0x13
            case y0x13 => (intro w hSw; (try dsimp only at hSw); go_simp; try with_reducible rfl)
            try simp only [Act.put, List.setIfInBounds_toArray, List.set_cons_zero, List.set_cons_succ]
            refine' wpAnyH_take (i := 1) (v := _) (by simp only [List.getElem?_toArray, List.getElem?_cons_succ, List.getElem?_cons_zero]; exact rfl) (by kernel_rfl) (by kernel_rfl) (by kernel_rfl) (fun _ _ _ h => h) (Or.inl ⟨by rfl, ?y1x14⟩) hHeld ?r1x14
            case y1x14 => (intro w hSw; (try dsimp only at hSw); go_simp; try with_reducible rfl)
            try simp only [Act.put, List.setIfInBounds_toArray, List.set_cons_zero, List.set_cons_succ]
            refine' wpAnyH_take (i := 2) (v := _) (by simp only [List.getElem?_toArray, List.getElem?_cons_succ, List.getElem?_cons_zero]; exact rfl) (by kernel_rfl) (by kernel_rfl) (by kernel_rfl) (fun _ _ _ h => h) (Or.inl ⟨by rfl, ?y2x15⟩) hHeld ?r2x15
            case y2x15 => (intro w hSw; (try dsimp only at hSw); go_simp; try with_reducible rfl)
            try simp only [Act.put, List.setIfInBounds_toArray, List.set_cons_zero, List.set_cons_succ]
            refine' wpAnyH_take (i := 3) (v := _) (by simp only [List.getElem?_toArray, List.getElem?_cons_succ, List.getElem?_cons_zero]; exact rfl) (by kernel_rfl) (by kernel_rfl) (by kernel_rfl) (fun _ _ _ h => h) (Or.inl ⟨by rfl, ?y3x16⟩) hHeld ?r3x16
            case y3x16 => (intro w hSw; (try dsimp only at hSw); go_simp; try with_reducible rfl)
            try simp only [Act.put, List.setIfInBounds_toArray, List.set_cons_zero, List.set_cons_succ]
            refine' wpAnyH_take (i := 4) (v := _) (by simp only [List.getElem?_toArray, List.getElem?_cons_succ, List.getElem?_cons_zero]; exact rfl) (by kernel_rfl) (by kernel_rfl) (by kernel_rfl) (fun _ _ _ h => h) (Or.inl ⟨by rfl, ?y4x17⟩) hHeld ?r4x17
            case y4x17 => (intro wz hSw; have e4 := (hSw.cell HPL.out).trans HPI.out; go_simp; try with_reducible rfl)
            try simp only [Act.put, List.setIfInBounds_toArray, List.set_cons_zero, List.set_cons_succ]
            refine' wpAnyH_take (i := 5) (v := _) (by simp only [List.getElem?_toArray, List.getElem?_cons_succ, List.getElem?_cons_zero]; exact rfl) (by kernel_rfl) (by kernel_rfl) (by kernel_rfl) (fun _ _ _ h => h) (Or.inl ⟨by rfl, ?y5x18⟩) hHeld ?r5x18
            case y5x18 => (intro w hSw; (try dsimp only at hSw); go_simp; try with_reducible rfl)
            try simp only [Act.put, List.setIfInBounds_toArray, List.set_cons_zero, List.set_cons_succ]
            refine' wpAnyH_take (i := 6) (v := _) (by simp only [List.getElem?_toArray, List.getElem?_cons_succ, List.getElem?_cons_zero]; exact rfl) (by kernel_rfl) (by kernel_rfl) (by kernel_rfl) (fun _ _ _ h => h) (Or.inl ⟨by rfl, ?y6x19⟩) hHeld ?r6x19
            case y6x19 => (intro w hSw; (try dsimp only at hSw); go_simp; try with_reducible rfl)
            try simp only [Act.put, List.setIfInBounds_toArray, List.set_cons_zero, List.set_cons_succ]
            refine' wpAnyH_take (i := 7) (v := _) (by simp only [List.getElem?_toArray, List.getElem?_cons_succ, List.getElem?_cons_zero]; exact rfl) (by kernel_rfl) (by kernel_rfl) (by kernel_rfl) (fun _ _ _ h => h) (Or.inl ⟨by rfl, ?y7x20⟩) hHeld ?r7x20
            case y7x20 => (intro w hSw; (try dsimp only at hSw); go_simp; try with_reducible rfl)
            try simp only [Act.put, List.setIfInBounds_toArray, List.set_cons_zero, List.set_cons_succ]
            refine' wpAnyH_take (i := 8) (v := _) (by simp only [List.getElem?_toArray, List.getElem?_cons_succ, List.getElem?_cons_zero]; exact rfl) (by kernel_rfl) (by kernel_rfl) (by kernel_rfl) (fun _ _ _ h => h) (Or.inl ⟨by rfl, ?y8x21⟩) hHeld ?r8x21
            case y8x21 => (intro w hSw; (try dsimp only at hSw); go_simp; try with_reducible rfl)
            try simp only [Act.put, List.setIfInBounds_toArray, List.set_cons_zero, List.set_cons_succ]
            refine' wpAnyH_take (i := 9) (v := _) (by simp only [List.getElem?_toArray, List.getElem?_cons_succ, List.getElem?_cons_zero]; exact rfl) (by kernel_rfl) (by kernel_rfl) (by kernel_rfl) (fun _ _ _ h => h) (Or.inl ⟨by rfl, ?y9x22⟩) hHeld ?r9x22
            case y9x22 => (intro w hSw; (try dsimp only at hSw); go_simp; try with_reducible rfl)
            try simp only [Act.put, List.setIfInBounds_toArray, List.set_cons_zero, List.set_cons_succ]
            refine' wpAnyH_take (i := 10) (v := _) (by simp only [List.getElem?_toArray, List.getElem?_cons_succ, List.getElem?_cons_zero]; exact rfl) (by kernel_rfl) (by kernel_rfl) (by kernel_rfl) (fun _ _ _ h => h) (Or.inl ⟨by rfl, ?y10x23⟩) hHeld ?r10x23
            case y10x23 => (intro wz hSw; have e4 := (hSw.cell HQL.out).trans HQI.out; go_simp; try with_reducible rfl)
            try simp only [Act.put, List.setIfInBounds_toArray, List.set_cons_zero, List.set_cons_succ]
            refine' wpAnyH_take (i := 11) (v := _) (by simp only [List.getElem?_toArray, List.getElem?_cons_succ, List.getElem?_cons_zero]; exact rfl) (by kernel_rfl) (by kernel_rfl) (by kernel_rfl) (fun _ _ _ h => h) (Or.inl ⟨by rfl, ?y11x24⟩) hHeld ?r11x24
            case y11x24 => (intro w hSw; (try dsimp only at hSw); go_simp; try with_reducible rfl)
            try simp only [Act.put, List.setIfInBounds_toArray, List.set_cons_zero, List.set_cons_succ]
            refine wpAnyH_done (by kernel_rfl) ?_ _
            refine NoPanic.normal ?_
            go_upto_region 13 with fail
            have HN2 := Lib.hid (owns_up HN.out hHeld)
            have HB2 := Lib.hid (HBy.out.trans (hHeld.mono HBy.out.size))
            clear HN HBy HB1y HRP HRQ HPI HQI HPL HQL hHeld hne
            generalize wy.drew = wy at *
            have HN := HN2
            have HBy := HB2
            clear HN2 HB2
            have HB1y := Lib.hid (HBr.out.trans (HBy.out.mono HBr.out.size))
            have hrq := range_below HRG.out HB1y.out HGO.out
            have HQL := Lib.hid (Nat.lt_of_lt_of_le HGO.out HB1y.out.size)
            have HQI := Lib.hid (hrq 2 _ rfl)
            have HRQ := Lib.hid (range_mid hrq)
            clear hrq
            have HRP := Lib.hid (range_below HRL.out HBy.out HGL.out)
            have HPL := Lib.hid (Nat.lt_of_lt_of_le HGL.out HBy.out.size)
            have HPI := Lib.hid (HRP.out 0 _ rfl)
            simp only [Nat.add_zero] at HPI
            obtain ⟨tb, htb⟩ : ∃ tb : Bool, tb = decide (dn = false ∧ q.x.cast.id < p.x.cast.id) := ⟨_, rfl⟩
            have HTB := Lib.hid htb
            clear htb
            go_cut [81] (fun v wx => v = .bool tb ∧ Below wy.heap.size wy wx)
            case first =>
              cases dn with
              | true =>
                have HT : Hid (tb = false) := Lib.hid (by rw [HTB.out]; simp)
                refine wp_region_noPanic ?_
                refine wp_region_held_drew (S := fun w' => Below wy.heap.size wy w') (by kernel_rfl) (Below.refl _ _).drew (fun hHeld => ?_)
                refine' wpAnyH_take (i := 0) (v := _) (by simp only [List.getElem?_toArray, List.getElem?_cons_succ, List.getElem?_cons_zero]; exact rfl) (by kernel_rfl) (by kernel_rfl) (by kernel_rfl) (fun _ _ _ h => h) (Or.inl ⟨by rfl, ?y0x25⟩) hHeld ?r0x25
                case y0x25 => (intro w hSw; (try dsimp only at hSw); go_simp; try with_reducible rfl)
                try simp only [Act.put, List.setIfInBounds_toArray, List.set_cons_zero, List.set_cons_succ]
                refine' wpAnyH_take (i := 1) (v := _) (by simp only [List.getElem?_toArray, List.getElem?_cons_succ, List.getElem?_cons_zero]; exact rfl) (by kernel_rfl) (by kernel_rfl) (by kernel_rfl) (fun _ _ _ h => h) (Or.inl ⟨by rfl, ?y1x26⟩) hHeld ?r1x26
                case y1x26 => (intro w hSw; (try dsimp only at hSw); go_simp; try with_reducible rfl)
                try simp only [Act.put, List.setIfInBounds_toArray, List.set_cons_zero, List.set_cons_succ]
                refine' wpAnyH_take (i := 2) (v := _) (by simp only [List.getElem?_toArray, List.getElem?_cons_succ, List.getElem?_cons_zero]; exact rfl) (by kernel_rfl) (by kernel_rfl) (by kernel_rfl) (fun _ _ _ h => h) (Or.inl ⟨by rfl, ?y2x27⟩) hHeld ?r2x27
                case y2x27 => (intro w hSw; (try dsimp only at hSw); go_simp; try with_reducible rfl)
                try simp only [Act.put, List.setIfInBounds_toArray, List.set_cons_zero, List.set_cons_succ]
                refine wpAnyH_take (i := 3) (v := undef) (by simp only [List.getElem?_toArray, List.getElem?_cons_succ, List.getElem?_cons_zero]; exact rfl) (by kernel_rfl) (by kernel_rfl) (by kernel_rfl) (fun _ _ _ h => h) (Or.inr ⟨by rfl, rfl⟩) hHeld ?_
                try simp only [Act.put, List.setIfInBounds_toArray, List.set_cons_zero, List.set_cons_succ]
                refine wpAnyH_take (i := 4) (v := undef) (by simp only [List.getElem?_toArray, List.getElem?_cons_succ, List.getElem?_cons_zero]; exact rfl) (by kernel_rfl) (by kernel_rfl) (by kernel_rfl) (fun _ _ _ h => h) (Or.inr ⟨by rfl, rfl⟩) hHeld ?_
                try simp only [Act.put, List.setIfInBounds_toArray, List.set_cons_zero, List.set_cons_succ]
                refine wpAnyH_take (i := 5) (v := undef) (by simp only [List.getElem?_toArray, List.getElem?_cons_succ, List.getElem?_cons_zero]; exact rfl) (by kernel_rfl) (by kernel_rfl) (by kernel_rfl) (fun _ _ _ h => h) (Or.inr ⟨by rfl, rfl⟩) hHeld ?_
                try simp only [Act.put, List.setIfInBounds_toArray, List.set_cons_zero, List.set_cons_succ]
                refine wpAnyH_take (i := 6) (v := undef) (by simp only [List.getElem?_toArray, List.getElem?_cons_succ, List.getElem?_cons_zero]; exact rfl) (by kernel_rfl) (by kernel_rfl) (by kernel_rfl) (fun _ _ _ h => h) (Or.inr ⟨by rfl, rfl⟩) hHeld ?_
                try simp only [Act.put, List.setIfInBounds_toArray, List.set_cons_zero, List.set_cons_succ]
                refine wpAnyH_take (i := 7) (v := undef) (by simp only [List.getElem?_toArray, List.getElem?_cons_succ, List.getElem?_cons_zero]; exact rfl) (by kernel_rfl) (by kernel_rfl) (by kernel_rfl) (fun _ _ _ h => h) (Or.inr ⟨by rfl, rfl⟩) hHeld ?_
                try simp only [Act.put, List.setIfInBounds_toArray, List.set_cons_zero, List.set_cons_succ]
                refine wpAnyH_take (i := 8) (v := undef) (by simp only [List.getElem?_toArray, List.getElem?_cons_succ, List.getElem?_cons_zero]; exact rfl) (by kernel_rfl) (by kernel_rfl) (by kernel_rfl) (fun _ _ _ h => h) (Or.inr ⟨by rfl, rfl⟩) hHeld ?_
                try simp only [Act.put, List.setIfInBounds_toArray, List.set_cons_zero, List.set_cons_succ]
                refine wpAnyH_take (i := 9) (v := undef) (by simp only [List.getElem?_toArray, List.getElem?_cons_succ, List.getElem?_cons_zero]; exact rfl) (by kernel_rfl) (by kernel_rfl) (by kernel_rfl) (fun _ _ _ h => h) (Or.inr ⟨by rfl, rfl⟩) hHeld ?_
                try simp only [Act.put, List.setIfInBounds_toArray, List.set_cons_zero, List.set_cons_succ]
                refine wpAnyH_take (i := 10) (v := undef) (by simp only [List.getElem?_toArray, List.getElem?_cons_succ, List.getElem?_cons_zero]; exact rfl) (by kernel_rfl) (by kernel_rfl) (by kernel_rfl) (fun _ _ _ h => h) (Or.inr ⟨by rfl, rfl⟩) hHeld ?_
                try simp only [Act.put, List.setIfInBounds_toArray, List.set_cons_zero, List.set_cons_succ]
                refine wpAnyH_take (i := 11) (v := undef) (by simp only [List.getElem?_toArray, List.getElem?_cons_succ, List.getElem?_cons_zero]; exact rfl) (by kernel_rfl) (by kernel_rfl) (by kernel_rfl) (fun _ _ _ h => h) (Or.inr ⟨by rfl, rfl⟩) hHeld ?_
                try simp only [Act.put, List.setIfInBounds_toArray, List.set_cons_zero, List.set_cons_succ]
                refine wpAnyH_take (i := 12) (v := undef) (by simp only [List.getElem?_toArray, List.getElem?_cons_succ, List.getElem?_cons_zero]; exact rfl) (by kernel_rfl) (by kernel_rfl) (by kernel_rfl) (fun _ _ _ h => h) (Or.inr ⟨by rfl, rfl⟩) hHeld ?_
                try simp only [Act.put, List.setIfInBounds_toArray, List.set_cons_zero, List.set_cons_succ]
                refine wpAnyH_take (i := 13) (v := undef) (by simp only [List.getElem?_toArray, List.getElem?_cons_succ, List.getElem?_cons_zero]; exact rfl) (by kernel_rfl) (by kernel_rfl) (by kernel_rfl) (fun _ _ _ h => h) (Or.inr ⟨by rfl, rfl⟩) hHeld ?_
                try simp only [Act.put, List.setIfInBounds_toArray, List.set_cons_zero, List.set_cons_succ]
                refine wpAnyH_take (i := 14) (v := undef) (by simp only [List.getElem?_toArray, List.getElem?_cons_succ, List.getElem?_cons_zero]; exact rfl) (by kernel_rfl) (by kernel_rfl) (by kernel_rfl) (fun _ _ _ h => h) (Or.inr ⟨by rfl, rfl⟩) hHeld ?_
                try simp only [Act.put, List.setIfInBounds_toArray, List.set_cons_zero, List.set_cons_succ]
                refine' wpAnyH_take (i := 15) (v := _) (by simp only [List.getElem?_toArray, List.getElem?_cons_succ, List.getElem?_cons_zero]; exact rfl) (by kernel_rfl) (by kernel_rfl) (by kernel_rfl) (fun _ _ _ h => h) (Or.inl ⟨by rfl, ?y15x28⟩) hHeld ?r15x28
                case y15x28 => (intro w hSw; (try dsimp only at hSw); go_simp; try with_reducible rfl)
                try simp only [Act.put, List.setIfInBounds_toArray, List.set_cons_zero, List.set_cons_succ]
                refine wpAnyH_done (by kernel_rfl) ?_ _
                refine NoPanic.normal ?_
                go_wp2_with fail
                go_meet
                exact ⟨congrArg Value.bool HT.out.symm, hHeld⟩
              | false =>
                by_cases hgt : q.x.cast.id < p.x.cast.id
                · have HT : Hid (tb = true) := Lib.hid (by rw [HTB.out]; simp [hgt])
                  refine wp_region_noPanic ?_
                  refine wp_region_held_drew (S := fun w' => Below wy.heap.size wy w') (by kernel_rfl) (Below.refl _ _).drew (fun hHeld => ?_)
                  refine' wpAnyH_take (i := 0) (v := _) (by simp only [List.getElem?_toArray, List.getElem?_cons_succ, List.getElem?_cons_zero]; exact rfl) (by kernel_rfl) (by kernel_rfl) (by kernel_rfl) (fun _ _ _ h => h) (Or.inl ⟨by rfl, ?y0x29⟩) hHeld ?r0x29
                  case y0x29 => (intro w hSw; (try dsimp only at hSw); go_simp; try with_reducible rfl)
                  try simp only [Act.put, List.setIfInBounds_toArray, List.set_cons_zero, List.set_cons_succ]
                  refine' wpAnyH_take (i := 1) (v := _) (by simp only [List.getElem?_toArray, List.getElem?_cons_succ, List.getElem?_cons_zero]; exact rfl) (by kernel_rfl) (by kernel_rfl) (by kernel_rfl) (fun _ _ _ h => h) (Or.inl ⟨by rfl, ?y1x30⟩) hHeld ?r1x30
                  case y1x30 => (intro w hSw; (try dsimp only at hSw); go_simp; try with_reducible rfl)
                  try simp only [Act.put, List.setIfInBounds_toArray, List.set_cons_zero, List.set_cons_succ]
                  refine' wpAnyH_take (i := 2) (v := _) (by simp only [List.getElem?_toArray, List.getElem?_cons_succ, List.getElem?_cons_zero]; exact rfl) (by kernel_rfl) (by kernel_rfl) (by kernel_rfl) (fun _ _ _ h => h) (Or.inl ⟨by rfl, ?y2x31⟩) hHeld ?r2x31
                  case y2x31 => (intro w hSw; (try dsimp only at hSw); go_simp; try with_reducible rfl)
                  try simp only [Act.put, List.setIfInBounds_toArray, List.set_cons_zero, List.set_cons_succ]
                  refine' wpAnyH_take (i := 3) (v := _) (by simp only [List.getElem?_toArray, List.getElem?_cons_succ, List.getElem?_cons_zero]; exact rfl) (by kernel_rfl) (by kernel_rfl) (by kernel_rfl) (fun _ _ _ h => h) (Or.inl ⟨by rfl, ?y3x32⟩) hHeld ?r3x32
                  case y3x32 => (intro w hSw; (try dsimp only at hSw); go_simp; try with_reducible rfl)
                  try simp only [Act.put, List.setIfInBounds_toArray, List.set_cons_zero, List.set_cons_succ]
                  refine' wpAnyH_take (i := 4) (v := _) (by simp only [List.getElem?_toArray, List.getElem?_cons_succ, List.getElem?_cons_zero]; exact rfl) (by kernel_rfl) (by kernel_rfl) (by kernel_rfl) (fun _ _ _ h => h) (Or.inl ⟨by rfl, ?y4x33⟩) hHeld ?r4x33
                  case y4x33 => (intro w hSw; (try dsimp only at hSw); go_simp; try with_reducible rfl)
                  try simp only [Act.put, List.setIfInBounds_toArray, List.set_cons_zero, List.set_cons_succ]
                  refine' wpAnyH_take (i := 5) (v := _) (by simp only [List.getElem?_toArray, List.getElem?_cons_succ, List.getElem?_cons_zero]; exact rfl) (by kernel_rfl) (by kernel_rfl) (by kernel_rfl) (fun _ _ _ h => h) (Or.inl ⟨by rfl, ?y5x34⟩) hHeld ?r5x34
                  case y5x34 => (intro w hSw; (try dsimp only at hSw); go_simp; try with_reducible rfl)
                  try simp only [Act.put, List.setIfInBounds_toArray, List.set_cons_zero, List.set_cons_succ]
                  refine' wpAnyH_take (i := 6) (v := _) (by simp only [List.getElem?_toArray, List.getElem?_cons_succ, List.getElem?_cons_zero]; exact rfl) (by kernel_rfl) (by kernel_rfl) (by kernel_rfl) (fun _ _ _ h => h) (Or.inl ⟨by rfl, ?y6x35⟩) hHeld ?r6x35
                  case y6x35 => (intro w hSw; (try dsimp only at hSw); go_simp; try with_reducible rfl)
                  try simp only [Act.put, List.setIfInBounds_toArray, List.set_cons_zero, List.set_cons_succ]
                  refine' wpAnyH_take (i := 7) (v := _) (by simp only [List.getElem?_toArray, List.getElem?_cons_succ, List.getElem?_cons_zero]; exact rfl) (by kernel_rfl) (by kernel_rfl) (by kernel_rfl) (fun _ _ _ h => h) (Or.inl ⟨by rfl, ?y7x36⟩) hHeld ?r7x36
                  case y7x36 => (intro wz hSw; have e4 := (hSw.cell HPL.out).trans HPI.out; go_simp; try with_reducible rfl)
                  try simp only [Act.put, List.setIfInBounds_toArray, List.set_cons_zero, List.set_cons_succ]
                  refine' wpAnyH_take (i := 8) (v := _) (by simp only [List.getElem?_toArray, List.getElem?_cons_succ, List.getElem?_cons_zero]; exact rfl) (by kernel_rfl) (by kernel_rfl) (by kernel_rfl) (fun _ _ _ h => h) (Or.inl ⟨by rfl, ?y8x37⟩) hHeld ?r8x37
                  case y8x37 => (intro w hSw; (try dsimp only at hSw); go_simp; try with_reducible rfl)
                  try simp only [Act.put, List.setIfInBounds_toArray, List.set_cons_zero, List.set_cons_succ]
                  refine' wpAnyH_take (i := 9) (v := _) (by simp only [List.getElem?_toArray, List.getElem?_cons_succ, List.getElem?_cons_zero]; exact rfl) (by kernel_rfl) (by kernel_rfl) (by kernel_rfl) (fun _ _ _ h => h) (Or.inl ⟨by rfl, ?y9x38⟩) hHeld ?r9x38
                  case y9x38 => (intro w hSw; (try dsimp only at hSw); go_simp; try with_reducible rfl)
                  try simp only [Act.put, List.setIfInBounds_toArray, List.set_cons_zero, List.set_cons_succ]
                  refine' wpAnyH_take (i := 10) (v := _) (by simp only [List.getElem?_toArray, List.getElem?_cons_succ, List.getElem?_cons_zero]; exact rfl) (by kernel_rfl) (by kernel_rfl) (by kernel_rfl) (fun _ _ _ h => h) (Or.inl ⟨by rfl, ?y10x39⟩) hHeld ?r10x39
                  case y10x39 => (intro w hSw; (try dsimp only at hSw); go_simp; try with_reducible rfl)
                  try simp only [Act.put, List.setIfInBounds_toArray, List.set_cons_zero, List.set_cons_succ]
                  refine' wpAnyH_take (i := 11) (v := _) (by simp only [List.getElem?_toArray, List.getElem?_cons_succ, List.getElem?_cons_zero]; exact rfl) (by kernel_rfl) (by kernel_rfl) (by kernel_rfl) (fun _ _ _ h => h) (Or.inl ⟨by rfl, ?y11x40⟩) hHeld ?r11x40
                  case y11x40 => (intro w hSw; (try dsimp only at hSw); go_simp; try with_reducible rfl)
                  try simp only [Act.put, List.setIfInBounds_toArray, List.set_cons_zero, List.set_cons_succ]
                  refine' wpAnyH_take (i := 12) (v := _) (by simp only [List.getElem?_toArray, List.getElem?_cons_succ, List.getElem?_cons_zero]; exact rfl) (by kernel_rfl) (by kernel_rfl) (by kernel_rfl) (fun _ _ _ h => h) (Or.inl ⟨by rfl, ?y12x41⟩) hHeld ?r12x41
                  case y12x41 => (intro w hSw; (try dsimp only at hSw); go_simp; try with_reducible rfl)
                  try simp only [Act.put, List.setIfInBounds_toArray, List.set_cons_zero, List.set_cons_succ]
                  refine' wpAnyH_take (i := 13) (v := _) (by simp only [List.getElem?_toArray, List.getElem?_cons_succ, List.getElem?_cons_zero]; exact rfl) (by kernel_rfl) (by kernel_rfl) (by kernel_rfl) (fun _ _ _ h => h) (Or.inl ⟨by rfl, ?y13x42⟩) hHeld ?r13x42
                  case y13x42 => (intro wz hSw; have e4 := (hSw.cell HQL.out).trans HQI.out; go_simp; try with_reducible rfl)
                  try simp only [Act.put, List.setIfInBounds_toArray, List.set_cons_zero, List.set_cons_succ]
                  refine' wpAnyH_take (i := 14) (v := _) (by simp only [List.getElem?_toArray, List.getElem?_cons_succ, List.getElem?_cons_zero]; exact rfl) (by kernel_rfl) (by kernel_rfl) (by kernel_rfl) (fun _ _ _ h => h) (Or.inl ⟨by rfl, ?y14x43⟩) hHeld ?r14x43
                  case y14x43 => (intro w hSw; (try dsimp only at hSw); go_simp; try with_reducible rfl)
                  try simp only [Act.put, List.setIfInBounds_toArray, List.set_cons_zero, List.set_cons_succ]
                  refine' wpAnyH_take (i := 15) (v := _) (by simp only [List.getElem?_toArray, List.getElem?_cons_succ, List.getElem?_cons_zero]; exact rfl) (by kernel_rfl) (by kernel_rfl) (by kernel_rfl) (fun _ _ _ h => h) (Or.inl ⟨by rfl, ?y15x44⟩) hHeld ?r15x44
                  case y15x44 => (intro w hSw; (try dsimp only at hSw); go_simp; try with_reducible rfl)
                  try simp only [Act.put, List.setIfInBounds_toArray, List.set_cons_zero, List.set_cons_succ]
                  refine wpAnyH_done (by kernel_rfl) ?_ _
                  refine NoPanic.normal ?_
                  go_wp2_with fail
                  go_meet
                  exact ⟨congrArg Value.bool HT.out.symm, hHeld⟩
                · have HT : Hid (tb = false) := Lib.hid (by rw [HTB.out]; simp [hgt])
                  refine wp_region_noPanic ?_
                  refine wp_region_held_drew (S := fun w' => Below wy.heap.size wy w') (by kernel_rfl) (Below.refl _ _).drew (fun hHeld => ?_)
                  refine' wpAnyH_take (i := 0) (v := _) (by simp only [List.getElem?_toArray, List.getElem?_cons_succ, List.getElem?_cons_zero]; exact rfl) (by kernel_rfl) (by kernel_rfl) (by kernel_rfl) (fun _ _ _ h => h) (Or.inl ⟨by rfl, ?y0x45⟩) hHeld ?r0x45
                  case y0x45 => (intro w hSw; (try dsimp only at hSw); go_simp; try with_reducible rfl)
                  try simp only [Act.put, List.setIfInBounds_toArray, List.set_cons_zero, List.set_cons_succ]
                  refine' wpAnyH_take (i := 1) (v := _) (by simp only [List.getElem?_toArray, List.getElem?_cons_succ, List.getElem?_cons_zero]; exact rfl) (by kernel_rfl) (by kernel_rfl) (by kernel_rfl) (fun _ _ _ h => h) (Or.inl ⟨by rfl, ?y1x46⟩) hHeld ?r1x46
                  case y1x46 => (intro w hSw; (try dsimp only at hSw); go_simp; try with_reducible rfl)
                  try simp only [Act.put, List.setIfInBounds_toArray, List.set_cons_zero, List.set_cons_succ]
                  refine' wpAnyH_take (i := 2) (v := _) (by simp only [List.getElem?_toArray, List.getElem?_cons_succ, List.getElem?_cons_zero]; exact rfl) (by kernel_rfl) (by kernel_rfl) (by kernel_rfl) (fun _ _ _ h => h) (Or.inl ⟨by rfl, ?y2x47⟩) hHeld ?r2x47
                  case y2x47 => (intro w hSw; (try dsimp only at hSw); go_simp; try with_reducible rfl)
                  try simp only [Act.put, List.setIfInBounds_toArray, List.set_cons_zero, List.set_cons_succ]
                  refine' wpAnyH_take (i := 3) (v := _) (by simp only [List.getElem?_toArray, List.getElem?_cons_succ, List.getElem?_cons_zero]; exact rfl) (by kernel_rfl) (by kernel_rfl) (by kernel_rfl) (fun _ _ _ h => h) (Or.inl ⟨by rfl, ?y3x48⟩) hHeld ?r3x48
                  case y3x48 => (intro w hSw; (try dsimp only at hSw); go_simp; try with_reducible rfl)
                  try simp only [Act.put, List.setIfInBounds_toArray, List.set_cons_zero, List.set_cons_succ]
                  refine' wpAnyH_take (i := 4) (v := _) (by simp only [List.getElem?_toArray, List.getElem?_cons_succ, List.getElem?_cons_zero]; exact rfl) (by kernel_rfl) (by kernel_rfl) (by kernel_rfl) (fun _ _ _ h => h) (Or.inl ⟨by rfl, ?y4x49⟩) hHeld ?r4x49
                  case y4x49 => (intro w hSw; (try dsimp only at hSw); go_simp; try with_reducible rfl)
                  try simp only [Act.put, List.setIfInBounds_toArray, List.set_cons_zero, List.set_cons_succ]
                  refine' wpAnyH_take (i := 5) (v := _) (by simp only [List.getElem?_toArray, List.getElem?_cons_succ, List.getElem?_cons_zero]; exact rfl) (by kernel_rfl) (by kernel_rfl) (by kernel_rfl) (fun _ _ _ h => h) (Or.inl ⟨by rfl, ?y5x50⟩) hHeld ?r5x50
                  case y5x50 => (intro w hSw; (try dsimp only at hSw); go_simp; try with_reducible rfl)
                  try simp only [Act.put, List.setIfInBounds_toArray, List.set_cons_zero, List.set_cons_succ]
                  refine' wpAnyH_take (i := 6) (v := _) (by simp only [List.getElem?_toArray, List.getElem?_cons_succ, List.getElem?_cons_zero]; exact rfl) (by kernel_rfl) (by kernel_rfl) (by kernel_rfl) (fun _ _ _ h => h) (Or.inl ⟨by rfl, ?y6x51⟩) hHeld ?r6x51
                  case y6x51 => (intro w hSw; (try dsimp only at hSw); go_simp; try with_reducible rfl)
                  try simp only [Act.put, List.setIfInBounds_toArray, List.set_cons_zero, List.set_cons_succ]
                  refine' wpAnyH_take (i := 7) (v := _) (by simp only [List.getElem?_toArray, List.getElem?_cons_succ, List.getElem?_cons_zero]; exact rfl) (by kernel_rfl) (by kernel_rfl) (by kernel_rfl) (fun _ _ _ h => h) (Or.inl ⟨by rfl, ?y7x52⟩) hHeld ?r7x52
                  case y7x52 => (intro wz hSw; have e4 := (hSw.cell HPL.out).trans HPI.out; go_simp; try with_reducible rfl)
                  try simp only [Act.put, List.setIfInBounds_toArray, List.set_cons_zero, List.set_cons_succ]
                  refine' wpAnyH_take (i := 8) (v := _) (by simp only [List.getElem?_toArray, List.getElem?_cons_succ, List.getElem?_cons_zero]; exact rfl) (by kernel_rfl) (by kernel_rfl) (by kernel_rfl) (fun _ _ _ h => h) (Or.inl ⟨by rfl, ?y8x53⟩) hHeld ?r8x53
                  case y8x53 => (intro w hSw; (try dsimp only at hSw); go_simp; try with_reducible rfl)
                  try simp only [Act.put, List.setIfInBounds_toArray, List.set_cons_zero, List.set_cons_succ]
                  refine' wpAnyH_take (i := 9) (v := _) (by simp only [List.getElem?_toArray, List.getElem?_cons_succ, List.getElem?_cons_zero]; exact rfl) (by kernel_rfl) (by kernel_rfl) (by kernel_rfl) (fun _ _ _ h => h) (Or.inl ⟨by rfl, ?y9x54⟩) hHeld ?r9x54
                  case y9x54 => (intro w hSw; (try dsimp only at hSw); go_simp; try with_reducible rfl)
                  try simp only [Act.put, List.setIfInBounds_toArray, List.set_cons_zero, List.set_cons_succ]
                  refine' wpAnyH_take (i := 10) (v := _) (by simp only [List.getElem?_toArray, List.getElem?_cons_succ, List.getElem?_cons_zero]; exact rfl) (by kernel_rfl) (by kernel_rfl) (by kernel_rfl) (fun _ _ _ h => h) (Or.inl ⟨by rfl, ?y10x55⟩) hHeld ?r10x55
                  case y10x55 => (intro w hSw; (try dsimp only at hSw); go_simp; try with_reducible rfl)
                  try simp only [Act.put, List.setIfInBounds_toArray, List.set_cons_zero, List.set_cons_succ]
                  refine' wpAnyH_take (i := 11) (v := _) (by simp only [List.getElem?_toArray, List.getElem?_cons_succ, List.getElem?_cons_zero]; exact rfl) (by kernel_rfl) (by kernel_rfl) (by kernel_rfl) (fun _ _ _ h => h) (Or.inl ⟨by rfl, ?y11x56⟩) hHeld ?r11x56
                  case y11x56 => (intro w hSw; (try dsimp only at hSw); go_simp; try with_reducible rfl)
                  try simp only [Act.put, List.setIfInBounds_toArray, List.set_cons_zero, List.set_cons_succ]
                  refine' wpAnyH_take (i := 12) (v := _) (by simp only [List.getElem?_toArray, List.getElem?_cons_succ, List.getElem?_cons_zero]; exact rfl) (by kernel_rfl) (by kernel_rfl) (by kernel_rfl) (fun _ _ _ h => h) (Or.inl ⟨by rfl, ?y12x57⟩) hHeld ?r12x57
                  case y12x57 => (intro w hSw; (try dsimp only at hSw); go_simp; try with_reducible rfl)
                  try simp only [Act.put, List.setIfInBounds_toArray, List.set_cons_zero, List.set_cons_succ]
                  refine' wpAnyH_take (i := 13) (v := _) (by simp only [List.getElem?_toArray, List.getElem?_cons_succ, List.getElem?_cons_zero]; exact rfl) (by kernel_rfl) (by kernel_rfl) (by kernel_rfl) (fun _ _ _ h => h) (Or.inl ⟨by rfl, ?y13x58⟩) hHeld ?r13x58
                  case y13x58 => (intro wz hSw; have e4 := (hSw.cell HQL.out).trans HQI.out; go_simp; try with_reducible rfl)
                  try simp only [Act.put, List.setIfInBounds_toArray, List.set_cons_zero, List.set_cons_succ]
                  refine' wpAnyH_take (i := 14) (v := _) (by simp only [List.getElem?_toArray, List.getElem?_cons_succ, List.getElem?_cons_zero]; exact rfl) (by kernel_rfl) (by kernel_rfl) (by kernel_rfl) (fun _ _ _ h => h) (Or.inl ⟨by rfl, ?y14x59⟩) hHeld ?r14x59
                  case y14x59 => (intro w hSw; (try dsimp only at hSw); go_simp; try with_reducible rfl)
                  try simp only [Act.put, List.setIfInBounds_toArray, List.set_cons_zero, List.set_cons_succ]
                  refine' wpAnyH_take (i := 15) (v := _) (by simp only [List.getElem?_toArray, List.getElem?_cons_succ, List.getElem?_cons_zero]; exact rfl) (by kernel_rfl) (by kernel_rfl) (by kernel_rfl) (fun _ _ _ h => h) (Or.inl ⟨by rfl, ?y15x60⟩) hHeld ?r15x60
                  case y15x60 => (intro w hSw; (try dsimp only at hSw); go_simp; try with_reducible rfl)
                  try simp only [Act.put, List.setIfInBounds_toArray, List.set_cons_zero, List.set_cons_succ]
                  refine wpAnyH_done (by kernel_rfl) ?_ _
                  refine NoPanic.normal ?_
                  go_wp2_with fail
                  go_meet
                  exact ⟨congrArg Value.bool HT.out.symm, hHeld⟩
            case rest =>
              obtain ⟨rfl, hB⟩ := hcut
              have HN2 := Lib.hid (owns_up HN.out hB)
              have HB2 := Lib.hid (HBy.out.trans (hB.mono HBy.out.size))
              clear HN HBy HB1y HRP HRQ HPI HQI HPL HQL hB
              generalize wc = wz at *
              have HN := HN2
              have HBy := HB2
              clear HN2 HB2
              go_upto_if 81 with (fail)
              go_cut [8, 9] (fun nv dv wx => ∃ (Ny : List CodE) (dy : Bool), Ny.length ≤ 2 * j + 1 ∧ dv = .bool dy ∧ wx.ownsRow wr.heap.size 27 3 nv Ny.length (Ny.flatMap c3) ∧ Ny ++ p :: stepA q dy (Lo.drop (j + 1)) = stepA q d0 Lo ∧ Below wr.heap.size wr wx)
              case first =>
                cases tb with
                | true =>
                  have htb := of_decide_eq_true HTB.out.symm
                  have HE : Hid (stepA q dn (Lo.drop j) = q :: p :: stepA q true (Lo.drop (j + 1))) := Lib.hid (by rw [HDR.out]; conv => lhs; unfold stepA; rw [if_neg he, if_pos htb])
                  clear htb
                  have HB1y := Lib.hid (HBr.out.trans (HBy.out.mono HBr.out.size))
                  have hrq := range_below HRG.out HB1y.out HGO.out
                  have HQL := Lib.hid (Nat.lt_of_lt_of_le HGO.out HB1y.out.size)
                  have HQI := Lib.hid (hrq 2 _ rfl)
                  have HRQ := Lib.hid (range_mid hrq)
                  clear hrq
                  have HNC := Lib.hid (new_cells wz [.int .i64 q.x.cast.id, .int .i64 q.x.cast.src, .slice q.a q.x.cast.rain.length q.c] 27)
                  have HOa := Lib.hid (HN.out.alloc (.cells #[.int .i64 q.x.cast.id, .int .i64 q.x.cast.src, .slice q.a q.x.cast.rain.length q.c] 27))
                  have HBa := Lib.hid (HBy.out.alloc HBy.out.size (.cells #[.int .i64 q.x.cast.id, .int .i64 q.x.cast.src, .slice q.a q.x.cast.rain.length q.c] 27))
                  go_wp2_with (first | (refine wpList_load_range (by first | (go_simp; done) | rfl) 27 _ rfl _ _ rfl _ _ HRQ.out undKs rfl infoKs ?_) | (at_builtin; refine Hid.out ?_))
                  refine Lib.hid ?_
                  refine wpList_append_own _ rfl _ _ 30 rfl wr.heap.size 27 ic zc 3 ic.bytes undKl hic hzc hsz rfl hcz (by decide) _ Nx.length _ rfl HOa.out ⟨wz.heap.size, 0, none⟩ 1 1 [.int .i64 q.x.cast.id, .int .i64 q.x.cast.src, .slice q.a q.x.cast.rain.length q.c] rfl rfl HNC.out (c3_one q) (by unfold maxLen; omega) (Nat.le_trans (Nat.mul_le_mul_right _ (show Nx.length + 1 ≤ 1024 by omega)) (by rw [Nat.mul_comm]; exact hbc)) HBa.out.size ?_
                  intro v5 w5 hown hgr _
                  have HN5 : Hid (w5.ownsRow wr.heap.size 27 3 v5 (Nx.length + 1) ((Nx ++ [q]).flatMap c3)) := Lib.hid (by
                    rw [flat3_snoc]
                    exact hown)
                  have HB5 := Lib.hid (HBa.out.grown hgr HBa.out.size (fun z e => (HOa.out.lt z e).1))
                  clear hown hgr HNC HOa HBa
                  go_wp2_with fail
                  go_meet
                  exact ⟨Nx ++ [q], true, by rw [List.length_append, List.length_singleton]; omega, rfl, by rw [List.length_append, List.length_singleton]; exact HN5.out, by rw [← HINV.out, HE.out, List.append_assoc]; rfl, HB5.out⟩
                | false =>
                  have htb := of_decide_eq_false HTB.out.symm
                  have HE : Hid (stepA q dn (Lo.drop j) = p :: stepA q dn (Lo.drop (j + 1))) := Lib.hid (by rw [HDR.out]; conv => lhs; unfold stepA; rw [if_neg he, if_neg htb])
                  clear htb
                  go_wp2_with fail
                  go_meet
                  exact ⟨Nx, dn, by omega, rfl, HN.out, by rw [← HE.out]; exact HINV.out, HBy.out⟩
              case rest =>
                rename Value => nv2
                obtain ⟨Ny, dy, hny, rfl, hn, hinv, hB⟩ := hcut
                clear HN HBy HINV
                obtain ⟨an2, cn2, rfl⟩ := owns_slice hn
                have HN := Lib.hid hn
                have HINV := Lib.hid hinv
                have HBy := Lib.hid hB
                clear hn hinv hB
                generalize wc = wz at *
                have HB1y := Lib.hid (HBr.out.trans (HBy.out.mono HBr.out.size))
                have HRP := Lib.hid (range_below HRL.out HBy.out HGL.out)
                have HPL := Lib.hid (Nat.lt_of_lt_of_le HGL.out HBy.out.size)
                have HPI := Lib.hid (HRP.out 0 _ rfl)
                simp only [Nat.add_zero] at HPI
                have HNC := Lib.hid (new_cells wz [.int .i64 p.x.cast.id, .int .i64 p.x.cast.src, .slice p.a p.x.cast.rain.length p.c] 27)
                have HOa := Lib.hid (HN.out.alloc (.cells #[.int .i64 p.x.cast.id, .int .i64 p.x.cast.src, .slice p.a p.x.cast.rain.length p.c] 27))
                have HBa := Lib.hid (HBy.out.alloc HBy.out.size (.cells #[.int .i64 p.x.cast.id, .int .i64 p.x.cast.src, .slice p.a p.x.cast.rain.length p.c] 27))
                go_wp2_with (first | (refine wpList_load_range (by first | (go_simp; done) | rfl) 27 _ rfl _ _ rfl _ _ HRP.out undKs rfl infoKs ?_) | (at_builtin; refine Hid.out ?_))
                refine Lib.hid ?_
                refine wpList_append_own _ rfl _ _ 30 rfl wr.heap.size 27 ic zc 3 ic.bytes undKl hic hzc hsz rfl hcz (by decide) _ Ny.length _ rfl HOa.out ⟨wz.heap.size, 0, none⟩ 1 1 [.int .i64 p.x.cast.id, .int .i64 p.x.cast.src, .slice p.a p.x.cast.rain.length p.c] rfl rfl HNC.out (c3_one p) (by unfold maxLen; omega) (Nat.le_trans (Nat.mul_le_mul_right _ (show Ny.length + 1 ≤ 1024 by omega)) (by rw [Nat.mul_comm]; exact hbc)) HBa.out.size ?_
                intro v5 w5 hown hgr _
                have HN5 : Hid (w5.ownsRow wr.heap.size 27 3 v5 (Ny.length + 1) ((Ny ++ [p]).flatMap c3)) := Lib.hid (by
                  rw [flat3_snoc]
                  exact hown)
                have HB5 := Lib.hid (HBa.out.grown hgr HBa.out.size (fun z e => (HOa.out.lt z e).1))
                clear hown hgr HNC HOa HBa
                go_wp2_with fail
                go_roundw
                case rel => exact ⟨j + 1, Ny ++ [p], dy, by omega, by rw [List.length_append, List.length_singleton]; omega, by go_num, rfl, by rw [List.length_append, List.length_singleton]; exact HN5.out, by rw [← HINV.out, List.append_assoc]; rfl, HB5.out⟩
                case measure => simp [intOf]; omega
        · obtain rfl : j = Lo.length := by omega
          rw [List.drop_length] at HINV
          have HST2 : Hid (StandA h o (k + 1) (stepA q d0 Lo)) := Lib.hid (by rw [HD0.out]; exact stand_step HST.out HQ.out HCN.out)
          have HBn := Lib.hid (HBr.out.trans (HBy.out.mono HBr.out.size))
          clear hjl hj
          cases dn with
          | true =>
            have HE : Hid (Nx = stepA q d0 Lo) := Lib.hid (by have := HINV.out; simpa [stepA] using this)
            go_wp2_with fail
            go_roundw
            case rel => exact ⟨k + 1, Nx, by omega, by go_num, by rw [HE.out]; exact HST2.out, row_base HN.out HBr.out.size, HBn.out⟩
            case measure => simp [intOf]; omega
          | false =>
            have HE : Hid (Nx ++ [q] = stepA q d0 Lo) := Lib.hid (by have := HINV.out; simpa [stepA] using this)
            generalize wy = wz at *
            have HB1y := Lib.hid (HBr.out.trans (HBy.out.mono HBr.out.size))
            have hrq := range_below HRG.out HB1y.out HGO.out
            have HQL := Lib.hid (Nat.lt_of_lt_of_le HGO.out HB1y.out.size)
            have HQI := Lib.hid (hrq 2 _ rfl)
            have HRQ := Lib.hid (range_mid hrq)
            clear hrq
            have HNC := Lib.hid (new_cells wz [.int .i64 q.x.cast.id, .int .i64 q.x.cast.src, .slice q.a q.x.cast.rain.length q.c] 27)
            have HOa := Lib.hid (HN.out.alloc (.cells #[.int .i64 q.x.cast.id, .int .i64 q.x.cast.src, .slice q.a q.x.cast.rain.length q.c] 27))
            have HBa := Lib.hid (HBy.out.alloc HBy.out.size (.cells #[.int .i64 q.x.cast.id, .int .i64 q.x.cast.src, .slice q.a q.x.cast.rain.length q.c] 27))
            go_wp2_with (first | (refine wpList_load_range (by first | (go_simp; done) | rfl) 27 _ rfl _ _ rfl _ _ HRQ.out undKs rfl infoKs ?_) | (at_builtin; refine Hid.out ?_))
            refine Lib.hid ?_
            refine wpList_append_own _ rfl _ _ 30 rfl wr.heap.size 27 ic zc 3 ic.bytes undKl hic hzc hsz rfl hcz (by decide) _ Nx.length _ rfl HOa.out ⟨wz.heap.size, 0, none⟩ 1 1 [.int .i64 q.x.cast.id, .int .i64 q.x.cast.src, .slice q.a q.x.cast.rain.length q.c] rfl rfl HNC.out (c3_one q) (by unfold maxLen; omega) (Nat.le_trans (Nat.mul_le_mul_right _ (show Nx.length + 1 ≤ 1024 by omega)) (by rw [Nat.mul_comm]; exact hbc)) HBa.out.size ?_
            intro v5 w5 hown hgr _
            have HN5 : Hid (w5.ownsRow wr.heap.size 27 3 v5 (Nx.length + 1) ((Nx ++ [q]).flatMap c3)) := Lib.hid (by
              rw [flat3_snoc]
              exact hown)
            have HB5 := Lib.hid (HBa.out.grown hgr HBa.out.size (fun z e => (HOa.out.lt z e).1))
            clear hown hgr HNC HOa HBa
            have HBn5 := Lib.hid (HBr.out.trans (HB5.out.mono HBr.out.size))
            go_wp2_with fail
            go_roundw
            case rel => exact ⟨k + 1, Nx ++ [q], by omega, by go_num, by rw [HE.out]; exact HST2.out, by rw [List.length_append, List.length_singleton]; exact row_base HN5.out HBr.out.size, HBn5.out⟩
            case measure => simp [intOf]; omega
    · obtain rfl : k = o.length := by omega
      have HPM : Hid (∀ y, y ∈ L.map (·.x) ↔ ∃ q ∈ o, q.x = y) := Lib.hid (fun y => by
        rw [List.mem_map]
        exact ⟨fun ⟨q, h1, h2⟩ => ⟨q, HPP.out.mem_iff.2 h1, h2⟩, fun ⟨q, h1, h2⟩ => ⟨q, HPP.out.mem_iff.1 h1, h2⟩⟩)
      have HXI : ∀ y ∈ L.map (·.x), NewsI y := fun y hy => by
        obtain ⟨q, hq, rfl⟩ := List.mem_map.1 hy
        exact HI.out q hq
      have HKP := Lib.hid (stand_keep HST.out HBIG.out HPM.out HXI HKY.out)
      have hmin : min (Lo.length : Int) 32 = ((min Lo.length 32 : Nat) : Int) := by omega
      obtain ⟨mm, hmm⟩ : ∃ mm, mm = min Lo.length 32 := ⟨_, rfl⟩
      rw [← hmm] at hmin HKP
      have hml : mm ≤ Lo.length := by omega
      obtain ⟨a2, c2, hs2, hsrc2⟩ := slice_high undKl elemKl Try.sizeOf27 HO.out hml
      have HS2 := Lib.hid hs2
      have HSR := Lib.hid hsrc2
      have HC2 : Hid (mm ≤ c2 ∧ c2 ≤ maxLen ∧ ∀ p, a2 = some p → p.spot = none) := Lib.hid (slice_facts undKl elemKl Try.sizeOf27 HO.out hml hs2)
      clear hs2 hsrc2 hlt hk HXI hmm
      go_wp2_with (refine wpList_sliceAt rfl _ _ _ _ _ rfl _ (HS2.out _) ?_)
      go_ret
      have hmemo : ∀ q ∈ Lo.take mm, q ∈ L := fun q hq => by
        obtain ⟨m, _, hm, _⟩ := (HST.out.mem q).1 (List.mem_of_mem_take hq)
        exact HPP.out.mem_iff.1 (List.mem_of_getElem? hm)
      have hBw := HB1.out.trans (HBr.out.mono HB1.out.size)
      refine ⟨_, rfl, ?_, hBw⟩
      rw [← HKP.out]
      exact larg_take (by rw [List.length_take]; omega) HC2.out.1 HC2.out.2.1 (fun j u hj => HSR.out _ (Below.refl _ _) j u (by rw [flat3_take]; exact hj)) HC2.out.2.2 (fun q hq => (HR.out q (hmemo q hq)).below (stays_list stays_Span 2) hBw) (fun q hq => HI.out q (hmemo q hq))
end Go.Proofs.Ytleiiedacachjaa
