/- The bulk of what came in bounds the strings of a blame's claims; bournelaw46.AuditProves for arguments that came in. -/
import Derived.OpenShut
import Derived.Test.YtjbjpkhibcnenaaGreatDoorAProves
import Derived.Test.YtjbjpkhibcnenaaGreatDoorAOpen
import Derived.Test.YtjbjpkhibcnenaaGreatDoorRows
namespace Go.Proofs.YtjbjpkhibcnenaaGreatDoor
open Go.RowKit
theorem bulk_mem {H : Type} : ∀ (l : List (DataW H)) (j : Nat) (d : DataW H), l[j]? = some d → Rows.uptoBulk d ≤ Rows.uptoBulkAll l
  | [], j, d, h => by simp at h
  | e :: r, 0, d, h => by
    simp only [List.getElem?_cons_zero, Option.some.injEq] at h
    subst h
    simp only [Rows.uptoBulkAll]
    omega
  | e :: r, j + 1, d, h => by
    have := bulk_mem r j d (by simpa using h)
    simp only [Rows.uptoBulkAll]
    omega
/-- the cells cs can be read at type t in w, of a bulk of at most B -/
def RdN (P : Program) (w : World) (t : TypeId) (cs : List Value) (B : Nat) : Prop :=
  ∃ (H : Type) (enc : TypeId × Value → H) (n : Nat) (x : DataW H × List MemPlace), DataW.trod enc P w 0 (fun _ => true) true n t cs = some x ∧ Rows.uptoBulk x.1 ≤ B
theorem RdN.of_trod {H : Type} {enc : TypeId × Value → H} {P : Program} {w : World} {t : TypeId} {v : Value} {d : DataW H} {ps : List MemPlace} {B : Nat} (h : DataW.Trod enc P w 0 (fun _ => true) true t v d ps) (hb : Rows.uptoBulk d ≤ B) : RdN P w t v.cells.toList B := by
  obtain ⟨n, h⟩ := h
  exact ⟨H, enc, n, _, h, hb⟩
theorem RdN.str {P : Program} {w : World} {t : TypeId} {s : ByteArray} {B : Nat} (ht : P.underlying t = some .string) (h : RdN P w t [.string s] B) : s.size ≤ B := by
  obtain ⟨H, enc, n, x, h, hb⟩ := h
  obtain ⟨s', h1, h2, _⟩ := DataW.trod_string ht h
  have e : s = s' := by simpa using h1
  subst e
  rw [h2] at hb
  simp only [Rows.uptoBulk] at hb
  have : s.data.toList.length = s.size := by simp
  omega
theorem RdN.field {P : Program} {w : World} {t : TypeId} {L : Array (TypeId × Nat)} {cs : List Value} {B : Nat} (h : RdN P w t cs B) (hs : (match P.underlying t with | some (.struct fs) => some (fs.map fun f => (f.type, f.offset)) | _ => none) = some L)
    {i : Nat} {u : TypeId} {o size : Nat} (hp : L[i]? = some (u, o)) (hc : P.cellsOf u = size) : RdN P w u ((cs.drop o).take size) B := by
  split at hs
  · next fs hu =>
    obtain ⟨f, hf, ht, ho⟩ := field_of (Option.some.inj hs) hp
    obtain ⟨H, enc, n, x, h, hb⟩ := h
    obtain ⟨xs, n, _, hx, hl, hlen, hfs⟩ := DataW.trod_struct hu h
    have h1 := hfs i f hf
    have hil : i < xs.length := by have := (Array.getElem?_eq_some_iff.1 hf).1; omega
    rw [List.getElem?_eq_getElem hil, ht, ho, hc] at h1
    refine ⟨H, enc, n, _, h1, ?_⟩
    rw [hx] at hb
    simp only [Rows.uptoBulk] at hb
    have := bulk_mem (xs.map (·.1)) i xs[i].1 (by rw [List.getElem?_map, List.getElem?_eq_getElem hil]; rfl)
    omega
  · cases hs
theorem RdN.elem {P : Program} {w : World} {t e : TypeId} {a : Addr} {len cap B : Nat} (ht : P.underlying t = some (.slice e)) (h : RdN P w t [.slice (some a) len cap] B) {i : Nat} (hi : i < len) :
    ∃ cs', RdN P w e cs' B ∧ cs'.length = P.cellsOf e ∧ ∀ j u, cs'[j]? = some u → w.cell? ((a.add (i * P.cellsOf e)).add j) = some u := by
  obtain ⟨H, enc, n, x, h, hb⟩ := h
  rcases DataW.trod_slice ht h with ⟨h0, _⟩ | ⟨a', len', cap', elems, rest, n, _, h0, hx, _, _, _, hlen, hel, _, _⟩
  · simp at h0
  · have h0' := (List.cons.inj h0).1
    simp only [Value.slice.injEq, Option.some.injEq] at h0'
    obtain ⟨rfl, rfl, rfl⟩ := h0'
    have h1 := hel i hi
    rw [List.getElem?_eq_getElem (by omega)] at h1
    obtain ⟨cs', h2, h3⟩ := Option.bind_eq_some_iff.1 h1
    obtain ⟨h4, h5⟩ := cells_at h2
    refine ⟨cs', ⟨H, enc, n, _, h3, ?_⟩, h4, h5⟩
    rw [hx] at hb
    simp only [Rows.uptoBulk] at hb
    have := bulk_mem (elems.map (·.1)) i (elems[i]'(by omega)).1 (by rw [List.getElem?_map, List.getElem?_eq_getElem (by omega)]; rfl)
    omega
theorem bulk_at {H : Type} {ds gs : List (DataW H)} (hk : Rows.uptoSmall H (ds ++ gs) = true) {j : Nat} {d : DataW H} (h : (ds ++ gs)[j]? = some d) : Rows.uptoBulk d ≤ 1048576 := by
  have hk' : Rows.uptoBulkAll (ds ++ gs) ≤ 1048576 := of_decide_eq_true hk
  exact Nat.le_trans (bulk_mem (ds ++ gs) j d h) hk'
theorem structCl : (match Tryz.prog.underlying 63 with | some (.struct fs) => some (fs.map fun f => (f.type, f.offset)) | _ => none) = some #[(3, 0), (3, 1), (3, 2), (3, 3), (3, 4), (9, 5), (36, 6)] := by kernel_rfl
theorem undStr : Tryz.prog.underlying 9 = some .string := by kernel_rfl
theorem cellsCl : Tryz.prog.cellsOf 63 = 8 := by kernel_rfl
set_option maxRecDepth 100000 in
/-- the strings of a blame's claims are no longer than the bulk -/
theorem prev_bulk {W : World} {B : Nat} {x : BlV} {u : Value} (h : RdN Tryz.prog W 40 (cellsB x u) B) (hl : LArg RC 8 u x.claims W) : ∀ c ∈ x.claims, c.prev.size ≤ B := by
  intro c hc
  obtain ⟨j, hj⟩ := List.getElem?_of_mem hc
  obtain ⟨a, n, hu, -, -⟩ := hl.slice
  subst hu
  obtain ⟨b, o, cs, rfl, -, -, hrg, rfl, -⟩ := hl.at hj
  have h2 := h.field struct_Bl (i := 2) (u := 33) (o := 2) (size := 1) rfl (by kernel_rfl)
  have h3 : RdN Tryz.prog W 33 [.slice (some ⟨b, o, none⟩) x.claims.length n] B := h2
  obtain ⟨cs', g1, g2, g3⟩ := h3.elem und_L0 (List.getElem?_eq_some_iff.1 hj).1
  rw [cellsCl] at g2 g3
  have e : cs' = cellsC c := by
    apply List.ext_getElem?
    intro i
    by_cases hi : i < 8
    · obtain ⟨v, hv⟩ : ∃ v, cs'[i]? = some v := ⟨_, List.getElem?_eq_getElem (by omega)⟩
      obtain ⟨v2, hv2⟩ : ∃ v, (cellsC c)[i]? = some v := ⟨_, List.getElem?_eq_getElem (by show i < 8; exact hi)⟩
      have k1 := g3 i v hv
      have k2 := hrg i v2 hv2
      rw [Addr.add_mid, Addr.add_mid, k2] at k1
      rw [hv, hv2, Option.some.inj k1]
    · rw [List.getElem?_eq_none (by omega), List.getElem?_eq_none (by show 8 ≤ i; omega)]
  rw [e] at g1
  exact RdN.str undStr (g1.field structCl (i := 5) (u := 9) (o := 5) (size := 1) rfl (by kernel_rfl))
theorem proves_in (x : BsX) (ar : Option Addr) (nr cr : Nat) (err : Int) (room : List Int) (vq : Value) (pubs : List PublicV) (vc : Value) (l : List CV) (vv : Value) (vows : List PV) (b : BlV) (u : Value) (W : World) (hR : LArg RInt 1 (.slice ar nr cr) room W) (hQ : LArg RPublic 4 vq pubs W) (hC : LArg RC 8 vc l W) (hV : LArg RP 6 vv vows W) (hO : BOk b) (hX : LArg RC 8 u b.claims W) (hp : ∀ c ∈ b.claims, c.prev.size ≤ 1048576) (hg : Glob W) (hml : MLen W) :
    Calls Tryz.prog 3 #[.agg (cellsBs x (.slice ar nr cr) err).toArray, vq, vc, vv, .agg (cellsB b u).toArray] W (RetB true W) := by
  obtain ⟨_, _, e, -, -⟩ := hR.slice
  simp only [Value.slice.injEq] at e
  obtain ⟨-, rfl, -⟩ := e
  obtain ⟨aq, nq, rfl, -, -⟩ := hQ.slice
  obtain ⟨ac, nc, rfl, -, -⟩ := hC.slice
  obtain ⟨av, nv, rfl, -, -⟩ := hV.slice
  obtain ⟨al, lc, rfl, -, -⟩ := hX.slice
  exact proves_core x ar aq ac av al cr nq nc nv lc err room pubs l vows b.office b.why b.claims b.prom W hR hQ hC hV hX (fun c hc => Nat.le_trans (hp c hc) (by decide)) hO.2.2 hg hml
end Go.Proofs.YtjbjpkhibcnenaaGreatDoor

