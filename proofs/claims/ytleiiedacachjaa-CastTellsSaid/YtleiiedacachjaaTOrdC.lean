/- slices.SortStableFunc at the coded news of cast.Order. -/
import Derived.Test.YtleiiedacachjaaTCore
import Derived.Test.YtleiiedacachjaaKRepL
import Derived.Shelf.Small.Strs
namespace Go.Proofs.Ytleiiedacachjaa
open Go.Shelf Go.RowKit Go.Lib Go.Sort Stab
theorem run_cmpstr (a b : ByteArray) (w : World) : (callFunc 62 #[.string a, .string b]).run Try.prog w = .ok (.value (.int .i64 (Lib.compareBytes a.data.toList b.data.toList))) w := by
  rw [run_callFunc_extern Try.func62 (by kernel_rfl) (by kernel_rfl) (by kernel_rfl) (e := Extern.BytealgCompare.compare) (by kernel_rfl), Lib.run_compareString]
  rfl
theorem cmpstr_any (a b : ByteArray) (w : World) : Calls Try.prog 53 #[.string a, .string b] w fun e w' => e = .returned (.int .i64 (Lib.compareBytes a.data.toList b.data.toList)) ∧ w' = w := by
  go_enter Try.func53, Try.ntmps53
  go_wp2
  rw [run_callFunc_extern Try.func62 (by kernel_rfl) (by kernel_rfl) (by kernel_rfl) (e := Extern.BytealgCompare.compare) (by kernel_rfl), Lib.run_compareString]
  simp only [Result.andThen]
  rw [Oper.upon_value]
  go_wp2
  go_ret
  exact ⟨rfl, rfl⟩
theorem compare_any (a b : ByteArray) (w : World) : Calls Try.prog 43 #[.string a, .string b] w fun e w' => e = .returned (.int .i64 (Lib.compareBytes a.data.toList b.data.toList)) ∧ w' = w := by
  go_enter Try.func43, Try.ntmps43
  go_wp2_with fail
  refine (cmpstr_any a b _).mono ?_
  rintro e w' ⟨rfl, rfl⟩
  go_wp2_with fail
  go_ret
  exact ⟨rfl, rfl⟩
/-- news with the slice of their rain -/
structure CodE where
  x : NewsV
  a : Option Addr
  c : Nat
instance : Inhabited CodE := ⟨⟨⟨0, 0, ⟨0, 0, []⟩⟩, none, 0⟩⟩
def CodE.u (q : CodE) : Value := .slice q.a q.x.cast.rain.length q.c
def encC (q : CodE) : List Value := [.string ⟨(newsB q.x).toArray⟩, .int .i64 q.x.kind, .int .i64 q.x.known, .int .i64 q.x.cast.id, .int .i64 q.x.cast.src, q.u]
def cfC (p q : CodE) : Int := Lib.compareBytes (newsB p.x) (newsB q.x)
theorem swoC : SWO (ltOf cfC) := swo_key fun q : CodE => newsB q.x
theorem encC_len (q : CodE) : (encC q).length = 6 := rfl
theorem encC_one (q : CodE) : ∀ v ∈ encC q, v.oneCell' = true := fun v hv => by
  unfold encC CodE.u at hv
  simp only [List.mem_cons, List.not_mem_nil, or_false] at hv
  rcases hv with rfl | rfl | rfl | rfl | rfl | rfl <;> rfl
set_option maxRecDepth 100000 in
set_option maxHeartbeats 1000000 in
theorem closC (p q : CodE) (w : World) : Calls Try.prog 42 #[.agg (encC p).toArray, .agg (encC q).toArray] w fun e w' => e = .returned (.int .i64 (cfC p q)) ∧ ∃ n os, w' = grow (w.drewN n) os := by
  obtain ⟨r, hr⟩ : ∃ r, r = cfC p q := ⟨_, rfl⟩
  rw [← hr]
  have hcon : ∀ W, Calls Try.prog 43 #[.string ⟨(newsB p.x).toArray⟩, .string ⟨(newsB q.x).toArray⟩] W fun e w' => e = .returned (.int .i64 r) ∧ w' = W := fun W => by
    rw [hr]
    exact compare_any _ _ W
  clear hr
  unfold encC
  generalize (⟨(newsB p.x).toArray⟩ : ByteArray) = kp at hcon ⊢
  generalize (⟨(newsB q.x).toArray⟩ : ByteArray) = kq at hcon ⊢
  generalize p.u = up
  generalize q.u = uq
  go_enter Try.func42, Try.ntmps42
  go_wp2_with (refine (hcon _).mono ?_; rintro e w' ⟨rfl, rfl⟩)
  go_ret
  exact ⟨rfl, 0, _, by rw [alloc_eq_grow, alloc_eq_grow, grow_grow]; rfl⟩
def Try.insRen : Go.Shelf.Ren := ⟨fun | 20 => 60 | n => n, fun | 0 => 0 | 3 => 3 | 4 => 4 | 22 => 87 | 24 => 66 | 25 => 90 | n => n, fun | n => n⟩
theorem Try.insL : SlLaysF0.n20 Try.prog Try.insRen := {
  mixed := by kernel_rfl
  f20 := ⟨Try.f60.name, by kernel_rfl, Try.func60.trans (congrArg some (by kernel_rfl))⟩
  t0 := Try.underlying0
  a0 := Try.isAgg0
  z0 := Try.sizeOf0
  v0 := Try.zeroValue0
  t3 := Try.underlying3
  a3 := Try.isAgg3
  z3 := Try.sizeOf3
  v3 := Try.zeroValue3
  t4 := Try.underlying4
  a4 := Try.isAgg4
  z4 := Try.sizeOf4
  v4 := Try.zeroValue4
  t22 := Try.underlying87
  a22 := Try.isAgg87
  z22 := Try.sizeOf87
  v22 := Try.zeroValue87
  t25 := Try.underlying90
  a25 := Try.isAgg90
  z25 := Try.sizeOf90
  v25 := Try.zeroValue90 }
theorem stabL : StabLays Try.prog := {
  mixed := by kernel_rfl
  tI := Try.underlying3
  aI := Try.isAgg3
  zI := Try.sizeOf3
  vI := Try.zeroValue3
  tU := Try.underlying102
  aU := Try.isAgg102
  zU := Try.sizeOf102
  vU := Try.zeroValue102
  tB := Try.underlying4
  aB := Try.isAgg4
  zB := Try.sizeOf4
  vB := Try.zeroValue4
  tS := Try.underlying87
  aS := Try.isAgg87
  zS := Try.sizeOf87
  vS := Try.zeroValue87
  tF := Try.underlying90
  aF := Try.isAgg90
  zF := Try.sizeOf90
  vF := Try.zeroValue90
  aE := Try.isAgg66
  tN := trivial
  f1 := Try.func81
  f2 := Try.func74
  f3 := Try.func61 }
theorem enters_clos : ∀ args w, (callFunc 42 args).run Try.prog w = .ok (.enter 42 args) w := Try.call42
set_option maxRecDepth 100000 in
set_option maxHeartbeats 1000000 in
/-- the whole sort -/
theorem sortC (l : List CodE) (g cap : Nat) (w0 : World) (hH : HoldsK encC 6 w0 g 0 l.toArray) (hg : g < w0.heap.size) (hl : l.length ≤ 40) :
    Calls Try.prog 41 #[.slice (some ⟨g, 0, none⟩) l.length cap, .func (.func 42) #[] #[]] w0 fun e w' => e = .returned (.tuple #[]) ∧ ∃ l' : List CodE, l'.Perm l ∧ l'.Pairwise (fun p q => ¬ newsB q.x < newsB p.x) ∧ l'.length = l.length ∧ (∀ (i : Nat) (q : CodE), l'[i]? = some q → w'.rangeAt g (0 + i * 6) (encC q)) ∧ Go.RowKit.Below g w0 w' ∧ g < w'.heap.size := by
  have R : RowK encC 6 w0 g 0 l.toArray := ⟨encC_len, encC_one, hH, hg⟩
  have hcmp : CmpLays Try.prog 42 #[] encC 6 cfC g 0 l.toArray.size w0 := fun _ _ _ _ x y => closC x y _
  have hst := stable_any stabL 6 Try.sizeOf66 encC cfC swoC 42 #[] g 0 cap l.toArray w0 enters_clos hcmp R Try.func52 Try.call60
    (fun a b d w hs S hab hb => by
      have hs' : (Sort.insertionSort (ltOf cfC) d a b).size = d.size := (insertionSort_holds swoC d a b hab hb).1.1
      have hC : CmpLays Try.prog 42 #[] encC 6 cfC g 0 d.size w := fun m os dk hdk x y => closC x y _
      have hsz : l.toArray.size = l.length := by simp
      refine (AnyQ.insertionSortCmpFunc Try.insL 6 Try.isAgg66 Try.sizeOf66 encC R.hk R.h1 cfC 42 #[] g 0 cap a b d w enters_clos hC (S.holds R.hblk R.hH hs.symm) (S.lt R.hblk) hab hb (by omega)).mono ?_
      rintro e w' ⟨rfl, n, os, rfl⟩
      exact ⟨rfl, S.on R.hblk n _ os hs'⟩)
    l.toArray w0 rfl (SWK.start hH) (by simpa using hl)
  rw [List.size_toArray] at hst
  go_enter Try.func41, Try.ntmps41
  go_wp2_with fail
  refine hst.mono ?_
  rintro e w' ⟨rfl, d', hP, hS, hW⟩
  go_wp2_with fail
  (try simp only [Exit.inBlock, Exit.then])
  refine bodyPost_end (results_none rfl _ _ _) rfl ?_
  have hP' : PermIn 0 l.toArray.size l.toArray d' := by rw [List.size_toArray]; exact hP
  have hsz : d'.size = l.length := by rw [hP.1]; simp
  refine ⟨rfl, d'.toList, perm_list hP', ?_, by simpa using hsz, fun i q hq => swk_range R (by rw [hsz]; simp) hW i q (by rw [← Array.getElem?_toList]; exact hq), swk_below hg hW (Nat.le_refl _), hW.lt hg⟩
  refine (sorted_list hsz hS).imp ?_
  intro p q h
  rw [show ltOf cfC q p = ltStr (newsB q.x) (newsB p.x) from ltOf_key (fun q : CodE => newsB q.x) q p] at h
  unfold ltStr at h
  exact of_decide_eq_false h
end Go.Proofs.Ytleiiedacachjaa
