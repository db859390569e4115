/- A symbolic evaluator of the model's code: its operations are right (slices). -/
import Derived.Test.YtokbandookjdjaaGreatEvO5
import Derived.Deep.Upon
namespace Go.Proofs.YtokbandookjdjaaGreat.Ev
open Go
section
variable {P : Program} {o : Oper} {E : Emb} {w : World} {v : AV} {s s' : AS} {aa : List AV}
theorem bound_some {d n : Nat} {x : Operand} (h : boundA aa d (some x) = some n) : ∃ k z, evE E aa x = .int k z ∧ 0 ≤ z ∧ z.toNat = n := by
  unfold boundA at h
  dsimp only at h
  split at h
  · next k z hx =>
    cases hc : decide (0 ≤ z) with
    | false => rw [hc] at h; cases h
    | true =>
      rw [hc] at h
      cases h
      exact ⟨k, z, ev_lit hx, of_decide_eq_true hc, rfl⟩
  · cases h
theorem bounds_ok {lo hi : Option Operand} {len cap l h : Nat} (hl : boundA aa 0 lo = some l) (hh : boundA aa len hi = some h) (hlh : l ≤ h) (hhc : h ≤ cap) (w : World) :
    (Instr.sliceBounds true len cap (lo.map (evE E aa)) (hi.map (evE E aa)) none).run P w = .ok (l, h, cap) w := by
  unfold Instr.sliceBounds
  cases lo with
  | none =>
    cases hl
    cases hi with
    | none => cases hh; simp
    | some y =>
      obtain ⟨k, z, h1, h2, h3⟩ := bound_some (E := E) hh
      simp [h1, run_sliceBound w k z cap _ h2 (by omega), h3]
  | some x =>
    obtain ⟨kx, zx, x1, x2, x3⟩ := bound_some (E := E) hl
    cases hi with
    | none => cases hh; simp [x1, run_sliceBound w kx zx len _ x2 (by omega), x3]
    | some y =>
      obtain ⟨k, z, h1, h2, h3⟩ := bound_some (E := E) hh
      simp [h1, x1, run_sliceBound w k z cap _ h2 (by omega), h3, run_sliceBound w kx zx h _ x2 (by omega), x3]
theorem slice_ok {t e : TypeId} {x : Operand} {lo hi : Option Operand} {id off len l h z : Nat} {c : Option Nat} (hop : o.op = .slice t x lo hi none) (hx : evalA aa x = .sl id off len c) (hu : P.underlying t = some (.slice e)) (hz : sizeB P e = some z) (hl : boundA aa 0 lo = some l) (hh : boundA aa len hi = some h)
    (hlh : l ≤ h) (hhc : h ≤ capA E id c) (w : World) : (execOp (evE E aa) o).run P w = .ok (.value (.slice (some (if capA E id c = l then ⟨blk E id, off, none⟩ else ⟨blk E id, off + l * z, none⟩)) (h - l) (capA E id c - l))) w := by
  have hb := bounds_ok (P := P) (E := E) hl hh hlh hhc w
  simp only [execOp, hop, ev_sl hx, Instr.sliceAt, Sem.run_bind, run_underlying hu, Result.andThen_ok, Instr.slice, Option.map_none, hb, size_run hz, Sem.run_pure]
  by_cases hc : capA E id c = l
  · simp [hc]
  · simp [hc, add_place]
theorem good_sliceC {t e : TypeId} {x : Operand} {lo hi : Option Operand} {id off len l h z c : Nat} (hop : o.op = .slice t x lo hi none) (hx : evalA aa x = .sl id off len (some c)) (hu : P.underlying t = some (.slice e)) (hz : sizeB P e = some z) (hl : boundA aa 0 lo = some l) (hh : boundA aa len hi = some h)
    (hc : (Nat.ble l h && Nat.ble h c) = true) (ha : okL E aa = true) (hs : HSim E s.heap w) (hf : Fresh E s.next) : Good P o E aa s w (.sl id (bif Nat.beq c l then off else off + l * z) (h - l) (some (c - l))) s := by
  rw [Bool.and_eq_true] at hc
  have hok := okA_eval (E := E) ha x
  rw [hx] at hok
  refine Good.pure ?_ hok hs hf
  have hr := slice_ok (P := P) (E := E) hop hx hu hz hl hh (Nat.le_of_ble_eq_true hc.1) (Nat.le_of_ble_eq_true hc.2) w
  rw [hr, conc_sl]
  have e1 : capA E id (some c) = c := rfl
  have e2 : capA E id (some (c - l)) = c - l := rfl
  rw [e1, e2]
  by_cases hcl : c = l
  · subst hcl; simp
  · rw [if_neg hcl, nbeq_ne hcl, cond_false]
theorem kap_of {id : Nat} {cs : List AV} {ty : TypeId} {z m : Nat} (hs : HSim E s.heap w) (hg : s.heap.get id = some (.cells cs ty (some z))) (hz : 1 ≤ z) (hm : m * z ≤ cs.length) : m ≤ kap E id := by
  obtain ⟨ext, -, -, h3, -⟩ := hs.row hg
  have := h3 z rfl
  have h4 : m * z ≤ kap E id * z := by omega
  exact Nat.le_of_mul_le_mul_right h4 hz
theorem good_sliceU {t e : TypeId} {x : Operand} {lo hi : Option Operand} {id len h z gz : Nat} {cs : List AV} {ty : TypeId} (hop : o.op = .slice t x lo hi none) (hx : evalA aa x = .sl id 0 len none) (hu : P.underlying t = some (.slice e)) (hz : sizeB P e = some z) (hl : boundA aa 0 lo = some 0) (hh : boundA aa len hi = some h)
    (hg : s.heap.get id = some (.cells cs ty (some gz))) (h1 : gz = z) (h2 : 1 ≤ z) (h3 : h * z ≤ cs.length) (ha : okL E aa = true) (hs : HSim E s.heap w) (hf : Fresh E s.next) : Good P o E aa s w (.sl id 0 h none) s := by
  subst h1
  have hok := okA_eval (E := E) ha x
  rw [hx] at hok
  refine Good.pure ?_ hok hs hf
  have hr := slice_ok (P := P) (E := E) hop hx hu hz hl hh (Nat.zero_le _) (kap_of hs hg h2 h3) w
  rw [hr, conc_sl, Nat.zero_mul, Nat.add_zero, Nat.sub_zero, Nat.sub_zero]
  split <;> rfl
theorem good_slice3 {t e : TypeId} {x h m : Operand} {id off len : Nat} {c : Option Nat} {k k' : IntKind} (hop : o.op = .slice t x none (some h) (some m)) (hx : evalA aa x = .sl id off len c) (hu : P.underlying t = some (.slice e)) (hh : evalA aa h = .lit (.int k 0)) (hm : evalA aa m = .lit (.int k' 0)) {z : Nat} (hz : sizeB P e = some z)
    (ha : okL E aa = true) (hs : HSim E s.heap w) (hf : Fresh E s.next) : Good P o E aa s w (.sl id off 0 (some 0)) s := by
  have hok := okA_eval (E := E) ha x
  rw [hx] at hok
  refine Good.pure ?_ hok hs hf
  have b1 := fun code => run_sliceBound (P := P) w k' 0 (capA E id c) code (by omega) (by omega)
  have b2 := fun code => run_sliceBound (P := P) w k 0 0 code (by omega) (by omega)
  simp only [Int.toNat_zero] at b1 b2
  have hb : (Instr.sliceBounds true len (capA E id c) none (some (.int k 0)) (some (.int k' 0))).run P w = .ok (0, 0, 0) w := by
    unfold Instr.sliceBounds
    simp [b1, b2]
  simp only [execOp, hop, ev_sl hx, Instr.sliceAt, Sem.run_bind, run_underlying hu, Result.andThen_ok, Instr.slice, Option.map_none, Option.map_some, ev_lit hh, ev_lit hm, hb, size_run hz, Sem.run_pure, conc_sl, if_true]
  rfl
theorem good_makeSlice {t e : TypeId} {l c : Operand} {k k' : IntKind} {n : Int} {i : TypeInfo} {z : Value} (hop : o.op = .makeSlice t l c) (hu : P.underlying t = some (.slice e)) (hl : evalA aa l = .lit (.int k n)) (hc : evalA aa c = .lit (.int k' n)) (hi : P.info? e = some i) (hz : i.zero = some z)
    (h0 : 0 ≤ n) (hb : n.toNat * i.bytes + n.toNat ≤ 1000000) (h1 : z.cells.size = i.size) (h2 : 1 ≤ i.size) (hs : HSim E s.heap w) (hf : Fresh E s.next) :
    Good P o E aa s w (.sl s.next 0 n.toNat (some n.toNat)) ⟨s.next + 1, (s.next, .cells ((List.replicate n.toNat (z.cells.toList.map AV.lit)).flatten) e none) :: s.heap⟩ := by
  have hn : (n.toNat : Int) = n := Int.toNat_of_nonneg h0
  have hbi : (i.bytes : Int) * n ≤ 281474976710656 := by
    rw [← hn, ← Int.natCast_mul, Nat.mul_comm]
    omega
  have hr := run_make (P := P) w t e i z hu hi hz k k' n n h0 (Int.le_refl _) hbi (by omega)
  have hm := madeCells_eq (z := z.cells) (by omega) n.toNat
  rw [h1] at hm
  rw [hm] at hr
  obtain ⟨e1, e2⟩ := sl_new (E := E) (n := s.next) w n.toNat n.toNat
  refine ⟨_, _, _, ?_, Or.inl rfl, e2, new_ok hs hf (flat_ok E n.toNat z.cells.toList) _ (by rw [flat_conc])⟩
  rw [e1]
  simp only [execOp, hop, ev_lit hl, ev_lit hc, Sem.run_bind, hr, Result.andThen_ok]
  rfl
theorem good_pure {x : AV} (hp : evPure P aa o = some x) (hs : HSim E s.heap w) (hf : Fresh E s.next) : Good P o E aa s w x s := by
  unfold evPure at hp
  cases hsel : isSelect o.op with
  | true => rw [hsel] at hp; cases hp
  | false =>
  rw [hsel] at hp
  simp only [cond_false] at hp
  have hns : ∀ cs b, o.op ≠ .select cs b := fun cs b e => by rw [e] at hsel; cases hsel
  cases hc : o.op.operands.all (fun x => (lits (evalA aa x)).isSome) with
  | false => rw [hc] at hp; cases hp
  | true =>
    rw [hc] at hp
    simp only [cond_true] at hp
    split at hp
    · next r hr =>
      cases hp
      have hcg : execOp (evE E aa) o = execOp (litOp aa) o := execOp_congr o hns fun x hx => by
        have := Array.all_eq_true_iff_forall_mem.1 hc x hx
        obtain ⟨y, hy⟩ := Option.isSome_iff_exists.1 this
        unfold evE litOp
        rw [(lits_conc E _ _ hy).1, hy]
        rfl
      refine Good.pure ?_ rfl hs hf
      rw [hcg]
      exact pureRun_ok hr w
    · cases hp
end
end Go.Proofs.YtokbandookjdjaaGreat.Ev
