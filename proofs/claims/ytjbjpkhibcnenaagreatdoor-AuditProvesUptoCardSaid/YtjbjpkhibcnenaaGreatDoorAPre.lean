/- bournelaw46: what the cores of AuditGrows and AuditProves share. -/
import Derived.Test.YtjbjpkhibcnenaaGreatDoorAApp
namespace Go.Proofs.YtjbjpkhibcnenaaGreatDoor
open Go.RowKit
theorem gjin {ar : Option Addr} {cr bp : Nat} {err : Int} {room : List Int} {vq : Value} {pubs : List PublicV} {c : World} (hR : LArg RInt 1 (.slice ar 3 cr) room c) (h3 : room.length = 3) (he : 0 ≤ err ∧ err ≤ 1099511627776) (hr : ∀ r ∈ room, 0 ≤ r ∧ r ≤ 1125899906842624) (hp : c.heap[bp]? = some (.cells #[.int .i64 (pk 0), .int .i64 (pk 1), .int .i64 (pk 2)] 3 (0, 0))) (hq : LArg RPublic 4 vq pubs c) (hl : pubs.length ≤ 1000) : JIn ar (some ⟨bp, 0, none⟩) cr 3 err room PSK vq pubs c :=
  ⟨hR, larg_int3 hp psk_I, hq, h3, rfl, he, hr, hl⟩
theorem infoQ48 : ∃ i z, Tryz.prog.info? 55 = some i ∧ i.size = 4 ∧ i.zero = some z ∧ z.cells.size = 4 ∧ i.bytes = 48 := by
  have h : (Tryz.prog.info? 55).map (fun i => (i.size, i.zero.map (fun z => z.cells.size), i.bytes)) = some (4, some 4, 48) := by kernel_rfl
  cases hi : Tryz.prog.info? 55 with
  | none => rw [hi] at h; cases h
  | some i =>
    rw [hi] at h
    simp only [Option.map_some, Option.some.injEq, Prod.mk.injEq] at h
    obtain ⟨h1, h2, h3⟩ := h
    cases hz : i.zero with
    | none => rw [hz] at h2; cases h2
    | some z =>
      rw [hz] at h2
      simp only [Option.map_some, Option.some.injEq] at h2
      exact ⟨i, z, rfl, h1, hz, h2, h3⟩
theorem undSQ : Tryz.prog.underlying 32 = some (.slice 55) := by kernel_rfl
theorem findL_len (J : JV) (l : List CV) (vows : List PV) : (findL J l vows).length ≤ 24 := by
  rw [← preL_end]
  exact preL_len (by decide) (by decide)
end Go.Proofs.YtjbjpkhibcnenaaGreatDoor

