/- Texts merged: BOpen SShelf -/
import Derived.KernelRfl
import Derived.Test.YtepidpegoihllaaGreatDoorProg
import Derived.Test.YtepidpegoihllaaGreatDoorUOpen
import Derived.Shelf.Strings.Builder1
import Derived.Shelf.Strings.Builder2
import Derived.Shelf.Strings.OnBuilder
import Derived.Shelf.Small.Bits
import Derived.Shelf.Strings.BuilderF
import Derived.Shelf.Strings.BuilderK
import Derived.Shelf.Strings.Builder2Cap
import Derived.Shelf.LaysM
import Derived.Shelf.Bits.Mul64
import Derived.Shelf.Strings.BuilderCap
/- Basins that came in. -/
namespace Go.Proofs.YtepidpegoihllaaGreatDoor
open Go.RowKit
theorem und_L1 : Tryz.prog.underlying 29 = some (.slice 3) := by kernel_rfl
theorem und_L2 : Tryz.prog.underlying 66 = some (.slice 114) := by kernel_rfl
theorem und_L3 : Tryz.prog.underlying 22 = some (.slice 9) := by kernel_rfl
theorem und_L4 : Tryz.prog.underlying 23 = some (.slice 68) := by kernel_rfl
theorem und_L5 : Tryz.prog.underlying 24 = some (.slice 72) := by kernel_rfl
theorem und_L6 : Tryz.prog.underlying 25 = some (.slice 103) := by kernel_rfl
theorem und_L7 : Tryz.prog.underlying 26 = some (.slice 107) := by kernel_rfl
theorem und_L8 : Tryz.prog.underlying 27 = some (.slice 109) := by kernel_rfl
theorem und_L9 : Tryz.prog.underlying 28 = some (.slice 105) := by kernel_rfl
structure CellV where
  index : Int
  area : Int
def RCell (x : CellV) (cs : List Value) (_ : World) : Prop := cs = [.int .i64 x.index, .int .i64 x.area] ∧ (-9223372036854775808 ≤ x.index ∧ x.index ≤ 9223372036854775807) ∧ (-9223372036854775808 ≤ x.area ∧ x.area ≤ 9223372036854775807)
theorem stays_Cell : Stays RCell := fun _ _ _ _ h _ => h
theorem struct_Cell : (match Tryz.prog.underlying 114 with | some (.struct fs) => some (fs.map fun f => (f.type, f.offset)) | _ => none) = some #[(3, 0), (3, 1)] := by kernel_rfl
theorem cells_Cell : Tryz.prog.cellsOf 114 = 2 := by kernel_rfl
set_option maxRecDepth 100000 in
theorem Cell_of_rd {w : World} (cs : List Value) (h : Rd Tryz.prog w 114 cs) : ∃ x : CellV, RCell x cs w := by
  have hl := h.len struct_Cell
  rw [cells_Cell] at hl
  have h0 := h.field struct_Cell (i := 0) (u := 3) (o := 0) (size := 1) rfl (by kernel_rfl)
  have h1 := h.field struct_Cell (i := 1) (u := 3) (o := 1) (size := 1) rfl (by kernel_rfl)
  match cs, hl with
  | [c0, c1], _ =>
    simp only [List.drop_zero, List.drop_succ_cons, List.take_succ_cons, List.take_zero] at h0 h1
    obtain ⟨x0, e0, b0⟩ := rint_of_rd (w := w) und_IG _ h0
    obtain ⟨x1, e1, b1⟩ := rint_of_rd (w := w) und_IG _ h1
    simp only [List.cons.injEq, and_true] at e0 e1
    exact ⟨⟨x0, x1⟩, by rw [e0, e1], b0, b1⟩
structure PlaceV where
  name : ByteArray
  kind : Int
  office : Int
  cap : Int
  level : (List PointV)
  start : (List Int)
  num : Int
  den : Int
  down : Int
  delay : Int
  floor : Int
  rain : (List CellV)
def RPlace (x : PlaceV) (cs : List Value) (w : World) : Prop := ∃ v0 v1 v2 : Value, cs = [.string x.name, .int .i64 x.kind, .int .i64 x.office, .int .i64 x.cap, v0, v1, .int .i64 x.num, .int .i64 x.den, .int .i64 x.down, .int .i64 x.delay, .int .i64 x.floor, v2] ∧ x.name.size ≤ maxLen ∧ (-9223372036854775808 ≤ x.kind ∧ x.kind ≤ 9223372036854775807) ∧ (-9223372036854775808 ≤ x.office ∧ x.office ≤ 9223372036854775807) ∧ (-9223372036854775808 ≤ x.cap ∧ x.cap ≤ 9223372036854775807) ∧ (-9223372036854775808 ≤ x.num ∧ x.num ≤ 9223372036854775807) ∧ (-9223372036854775808 ≤ x.den ∧ x.den ≤ 9223372036854775807) ∧ (-9223372036854775808 ≤ x.down ∧ x.down ≤ 9223372036854775807) ∧ (-9223372036854775808 ≤ x.delay ∧ x.delay ≤ 9223372036854775807) ∧ (-9223372036854775808 ≤ x.floor ∧ x.floor ≤ 9223372036854775807) ∧ LArg RPoint 2 v0 x.level w ∧ LArg RInt 1 v1 x.start w ∧ LArg RCell 2 v2 x.rain w
theorem stays_Place : Stays RPlace := fun _ _ _ _ ⟨v0, v1, v2, h0, b0, b1, b2, b3, b4, b5, b6, b7, b8, l0, l1, l2⟩ hb => ⟨v0, v1, v2, h0, b0, b1, b2, b3, b4, b5, b6, b7, b8, l0.below stays_Point hb, l1.below stays_int hb, l2.below stays_Cell hb⟩
theorem struct_Place : (match Tryz.prog.underlying 68 with | some (.struct fs) => some (fs.map fun f => (f.type, f.offset)) | _ => none) = some #[(9, 0), (3, 1), (3, 2), (3, 3), (65, 4), (29, 5), (3, 6), (3, 7), (3, 8), (3, 9), (3, 10), (66, 11)] := by kernel_rfl
theorem cells_Place : Tryz.prog.cellsOf 68 = 12 := by kernel_rfl
set_option maxRecDepth 100000 in
theorem Place_of_rd {w : World} (cs : List Value) (h : Rd Tryz.prog w 68 cs) : ∃ x : PlaceV, RPlace x cs w := by
  have hl := h.len struct_Place
  rw [cells_Place] at hl
  have h0 := h.field struct_Place (i := 0) (u := 9) (o := 0) (size := 1) rfl (by kernel_rfl)
  have h1 := h.field struct_Place (i := 1) (u := 3) (o := 1) (size := 1) rfl (by kernel_rfl)
  have h2 := h.field struct_Place (i := 2) (u := 3) (o := 2) (size := 1) rfl (by kernel_rfl)
  have h3 := h.field struct_Place (i := 3) (u := 3) (o := 3) (size := 1) rfl (by kernel_rfl)
  have h4 := h.field struct_Place (i := 4) (u := 65) (o := 4) (size := 1) rfl (by kernel_rfl)
  have h5 := h.field struct_Place (i := 5) (u := 29) (o := 5) (size := 1) rfl (by kernel_rfl)
  have h6 := h.field struct_Place (i := 6) (u := 3) (o := 6) (size := 1) rfl (by kernel_rfl)
  have h7 := h.field struct_Place (i := 7) (u := 3) (o := 7) (size := 1) rfl (by kernel_rfl)
  have h8 := h.field struct_Place (i := 8) (u := 3) (o := 8) (size := 1) rfl (by kernel_rfl)
  have h9 := h.field struct_Place (i := 9) (u := 3) (o := 9) (size := 1) rfl (by kernel_rfl)
  have h10 := h.field struct_Place (i := 10) (u := 3) (o := 10) (size := 1) rfl (by kernel_rfl)
  have h11 := h.field struct_Place (i := 11) (u := 66) (o := 11) (size := 1) rfl (by kernel_rfl)
  match cs, hl with
  | [c0, c1, c2, c3, c4, c5, c6, c7, c8, c9, c10, c11], _ =>
    simp only [List.drop_zero, List.drop_succ_cons, List.take_succ_cons, List.take_zero] at h0 h1 h2 h3 h4 h5 h6 h7 h8 h9 h10 h11
    obtain ⟨x0, e0, b0⟩ := rstr_of_rd (w := w) und_SG _ h0
    obtain ⟨x1, e1, b1⟩ := rint_of_rd (w := w) und_IG _ h1
    obtain ⟨x2, e2, b2⟩ := rint_of_rd (w := w) und_IG _ h2
    obtain ⟨x3, e3, b3⟩ := rint_of_rd (w := w) und_IG _ h3
    obtain ⟨x4, w4, e4, l4⟩ := rlist_of_rd (w := w) (R := RPoint) (size := 2) und_L0G (by kernel_rfl) (by decide) Point_of_rd _ h4
    obtain ⟨x5, w5, e5, l5⟩ := rlist_of_rd (w := w) (R := RInt) (size := 1) und_L1 (by kernel_rfl) (by decide) (rint_of_rd und_IG) _ h5
    obtain ⟨x6, e6, b6⟩ := rint_of_rd (w := w) und_IG _ h6
    obtain ⟨x7, e7, b7⟩ := rint_of_rd (w := w) und_IG _ h7
    obtain ⟨x8, e8, b8⟩ := rint_of_rd (w := w) und_IG _ h8
    obtain ⟨x9, e9, b9⟩ := rint_of_rd (w := w) und_IG _ h9
    obtain ⟨x10, e10, b10⟩ := rint_of_rd (w := w) und_IG _ h10
    obtain ⟨x11, w11, e11, l11⟩ := rlist_of_rd (w := w) (R := RCell) (size := 2) und_L2 (by kernel_rfl) (by decide) Cell_of_rd _ h11
    simp only [List.cons.injEq, and_true] at e0 e1 e2 e3 e4 e5 e6 e7 e8 e9 e10 e11
    exact ⟨⟨x0, x1, x2, x3, x4, x5, x6, x7, x8, x9, x10, x11⟩, w4, w5, w11, by rw [e0, e1, e2, e3, e4, e5, e6, e7, e8, e9, e10, e11], b0, b1, b2, b3, b6, b7, b8, b9, b10, l4, l5, l11⟩
structure TownV where
  name : ByteArray
  place : Int
  flood : Int
  lead : Int
  people : Int
  watch : Int
  quorum : Int
def RTown (x : TownV) (cs : List Value) (_ : World) : Prop := cs = [.string x.name, .int .i64 x.place, .int .i64 x.flood, .int .i64 x.lead, .int .i64 x.people, .int .i64 x.watch, .int .i64 x.quorum] ∧ x.name.size ≤ maxLen ∧ (-9223372036854775808 ≤ x.place ∧ x.place ≤ 9223372036854775807) ∧ (-9223372036854775808 ≤ x.flood ∧ x.flood ≤ 9223372036854775807) ∧ (-9223372036854775808 ≤ x.lead ∧ x.lead ≤ 9223372036854775807) ∧ (-9223372036854775808 ≤ x.people ∧ x.people ≤ 9223372036854775807) ∧ (-9223372036854775808 ≤ x.watch ∧ x.watch ≤ 9223372036854775807) ∧ (-9223372036854775808 ≤ x.quorum ∧ x.quorum ≤ 9223372036854775807)
theorem stays_Town : Stays RTown := fun _ _ _ _ h _ => h
theorem struct_Town : (match Tryz.prog.underlying 103 with | some (.struct fs) => some (fs.map fun f => (f.type, f.offset)) | _ => none) = some #[(9, 0), (3, 1), (3, 2), (3, 3), (3, 4), (3, 5), (3, 6)] := by kernel_rfl
theorem cells_Town : Tryz.prog.cellsOf 103 = 7 := by kernel_rfl
set_option maxRecDepth 100000 in
theorem Town_of_rd {w : World} (cs : List Value) (h : Rd Tryz.prog w 103 cs) : ∃ x : TownV, RTown x cs w := by
  have hl := h.len struct_Town
  rw [cells_Town] at hl
  have h0 := h.field struct_Town (i := 0) (u := 9) (o := 0) (size := 1) rfl (by kernel_rfl)
  have h1 := h.field struct_Town (i := 1) (u := 3) (o := 1) (size := 1) rfl (by kernel_rfl)
  have h2 := h.field struct_Town (i := 2) (u := 3) (o := 2) (size := 1) rfl (by kernel_rfl)
  have h3 := h.field struct_Town (i := 3) (u := 3) (o := 3) (size := 1) rfl (by kernel_rfl)
  have h4 := h.field struct_Town (i := 4) (u := 3) (o := 4) (size := 1) rfl (by kernel_rfl)
  have h5 := h.field struct_Town (i := 5) (u := 3) (o := 5) (size := 1) rfl (by kernel_rfl)
  have h6 := h.field struct_Town (i := 6) (u := 3) (o := 6) (size := 1) rfl (by kernel_rfl)
  match cs, hl with
  | [c0, c1, c2, c3, c4, c5, c6], _ =>
    simp only [List.drop_zero, List.drop_succ_cons, List.take_succ_cons, List.take_zero] at h0 h1 h2 h3 h4 h5 h6
    obtain ⟨x0, e0, b0⟩ := rstr_of_rd (w := w) und_SG _ h0
    obtain ⟨x1, e1, b1⟩ := rint_of_rd (w := w) und_IG _ h1
    obtain ⟨x2, e2, b2⟩ := rint_of_rd (w := w) und_IG _ h2
    obtain ⟨x3, e3, b3⟩ := rint_of_rd (w := w) und_IG _ h3
    obtain ⟨x4, e4, b4⟩ := rint_of_rd (w := w) und_IG _ h4
    obtain ⟨x5, e5, b5⟩ := rint_of_rd (w := w) und_IG _ h5
    obtain ⟨x6, e6, b6⟩ := rint_of_rd (w := w) und_IG _ h6
    simp only [List.cons.injEq, and_true] at e0 e1 e2 e3 e4 e5 e6
    exact ⟨⟨x0, x1, x2, x3, x4, x5, x6⟩, by rw [e0, e1, e2, e3, e4, e5, e6], b0, b1, b2, b3, b4, b5, b6⟩
structure GaugeV where
  name : ByteArray
  kind : Int
  target : Int
  err : Int
  drift : Int
def RGauge (x : GaugeV) (cs : List Value) (_ : World) : Prop := cs = [.string x.name, .int .i64 x.kind, .int .i64 x.target, .int .i64 x.err, .int .i64 x.drift] ∧ x.name.size ≤ maxLen ∧ (-9223372036854775808 ≤ x.kind ∧ x.kind ≤ 9223372036854775807) ∧ (-9223372036854775808 ≤ x.target ∧ x.target ≤ 9223372036854775807) ∧ (-9223372036854775808 ≤ x.err ∧ x.err ≤ 9223372036854775807) ∧ (-9223372036854775808 ≤ x.drift ∧ x.drift ≤ 9223372036854775807)
theorem stays_Gauge : Stays RGauge := fun _ _ _ _ h _ => h
theorem struct_Gauge : (match Tryz.prog.underlying 107 with | some (.struct fs) => some (fs.map fun f => (f.type, f.offset)) | _ => none) = some #[(9, 0), (3, 1), (3, 2), (3, 3), (3, 4)] := by kernel_rfl
theorem cells_Gauge : Tryz.prog.cellsOf 107 = 5 := by kernel_rfl
set_option maxRecDepth 100000 in
theorem Gauge_of_rd {w : World} (cs : List Value) (h : Rd Tryz.prog w 107 cs) : ∃ x : GaugeV, RGauge x cs w := by
  have hl := h.len struct_Gauge
  rw [cells_Gauge] at hl
  have h0 := h.field struct_Gauge (i := 0) (u := 9) (o := 0) (size := 1) rfl (by kernel_rfl)
  have h1 := h.field struct_Gauge (i := 1) (u := 3) (o := 1) (size := 1) rfl (by kernel_rfl)
  have h2 := h.field struct_Gauge (i := 2) (u := 3) (o := 2) (size := 1) rfl (by kernel_rfl)
  have h3 := h.field struct_Gauge (i := 3) (u := 3) (o := 3) (size := 1) rfl (by kernel_rfl)
  have h4 := h.field struct_Gauge (i := 4) (u := 3) (o := 4) (size := 1) rfl (by kernel_rfl)
  match cs, hl with
  | [c0, c1, c2, c3, c4], _ =>
    simp only [List.drop_zero, List.drop_succ_cons, List.take_succ_cons, List.take_zero] at h0 h1 h2 h3 h4
    obtain ⟨x0, e0, b0⟩ := rstr_of_rd (w := w) und_SG _ h0
    obtain ⟨x1, e1, b1⟩ := rint_of_rd (w := w) und_IG _ h1
    obtain ⟨x2, e2, b2⟩ := rint_of_rd (w := w) und_IG _ h2
    obtain ⟨x3, e3, b3⟩ := rint_of_rd (w := w) und_IG _ h3
    obtain ⟨x4, e4, b4⟩ := rint_of_rd (w := w) und_IG _ h4
    simp only [List.cons.injEq, and_true] at e0 e1 e2 e3 e4
    exact ⟨⟨x0, x1, x2, x3, x4⟩, by rw [e0, e1, e2, e3, e4], b0, b1, b2, b3, b4⟩
structure RoadV where
  name : ByteArray
  src : Int
  dst : Int
  hours : Int
  flow : Int
  byp : Int
  limit : Int
def RRoad (x : RoadV) (cs : List Value) (_ : World) : Prop := cs = [.string x.name, .int .i64 x.src, .int .i64 x.dst, .int .i64 x.hours, .int .i64 x.flow, .int .i64 x.byp, .int .i64 x.limit] ∧ x.name.size ≤ maxLen ∧ (-9223372036854775808 ≤ x.src ∧ x.src ≤ 9223372036854775807) ∧ (-9223372036854775808 ≤ x.dst ∧ x.dst ≤ 9223372036854775807) ∧ (-9223372036854775808 ≤ x.hours ∧ x.hours ≤ 9223372036854775807) ∧ (-9223372036854775808 ≤ x.flow ∧ x.flow ≤ 9223372036854775807) ∧ (-9223372036854775808 ≤ x.byp ∧ x.byp ≤ 9223372036854775807) ∧ (-9223372036854775808 ≤ x.limit ∧ x.limit ≤ 9223372036854775807)
theorem stays_Road : Stays RRoad := fun _ _ _ _ h _ => h
theorem struct_Road : (match Tryz.prog.underlying 109 with | some (.struct fs) => some (fs.map fun f => (f.type, f.offset)) | _ => none) = some #[(9, 0), (3, 1), (3, 2), (3, 3), (3, 4), (3, 5), (3, 6)] := by kernel_rfl
theorem cells_Road : Tryz.prog.cellsOf 109 = 7 := by kernel_rfl
set_option maxRecDepth 100000 in
theorem Road_of_rd {w : World} (cs : List Value) (h : Rd Tryz.prog w 109 cs) : ∃ x : RoadV, RRoad x cs w := by
  have hl := h.len struct_Road
  rw [cells_Road] at hl
  have h0 := h.field struct_Road (i := 0) (u := 9) (o := 0) (size := 1) rfl (by kernel_rfl)
  have h1 := h.field struct_Road (i := 1) (u := 3) (o := 1) (size := 1) rfl (by kernel_rfl)
  have h2 := h.field struct_Road (i := 2) (u := 3) (o := 2) (size := 1) rfl (by kernel_rfl)
  have h3 := h.field struct_Road (i := 3) (u := 3) (o := 3) (size := 1) rfl (by kernel_rfl)
  have h4 := h.field struct_Road (i := 4) (u := 3) (o := 4) (size := 1) rfl (by kernel_rfl)
  have h5 := h.field struct_Road (i := 5) (u := 3) (o := 5) (size := 1) rfl (by kernel_rfl)
  have h6 := h.field struct_Road (i := 6) (u := 3) (o := 6) (size := 1) rfl (by kernel_rfl)
  match cs, hl with
  | [c0, c1, c2, c3, c4, c5, c6], _ =>
    simp only [List.drop_zero, List.drop_succ_cons, List.take_succ_cons, List.take_zero] at h0 h1 h2 h3 h4 h5 h6
    obtain ⟨x0, e0, b0⟩ := rstr_of_rd (w := w) und_SG _ h0
    obtain ⟨x1, e1, b1⟩ := rint_of_rd (w := w) und_IG _ h1
    obtain ⟨x2, e2, b2⟩ := rint_of_rd (w := w) und_IG _ h2
    obtain ⟨x3, e3, b3⟩ := rint_of_rd (w := w) und_IG _ h3
    obtain ⟨x4, e4, b4⟩ := rint_of_rd (w := w) und_IG _ h4
    obtain ⟨x5, e5, b5⟩ := rint_of_rd (w := w) und_IG _ h5
    obtain ⟨x6, e6, b6⟩ := rint_of_rd (w := w) und_IG _ h6
    simp only [List.cons.injEq, and_true] at e0 e1 e2 e3 e4 e5 e6
    exact ⟨⟨x0, x1, x2, x3, x4, x5, x6⟩, by rw [e0, e1, e2, e3, e4, e5, e6], b0, b1, b2, b3, b4, b5, b6⟩
structure ShelterV where
  name : ByteArray
  room : Int
def RShelter (x : ShelterV) (cs : List Value) (_ : World) : Prop := cs = [.string x.name, .int .i64 x.room] ∧ x.name.size ≤ maxLen ∧ (-9223372036854775808 ≤ x.room ∧ x.room ≤ 9223372036854775807)
theorem stays_Shelter : Stays RShelter := fun _ _ _ _ h _ => h
theorem struct_Shelter : (match Tryz.prog.underlying 105 with | some (.struct fs) => some (fs.map fun f => (f.type, f.offset)) | _ => none) = some #[(9, 0), (3, 1)] := by kernel_rfl
theorem cells_Shelter : Tryz.prog.cellsOf 105 = 2 := by kernel_rfl
set_option maxRecDepth 100000 in
theorem Shelter_of_rd {w : World} (cs : List Value) (h : Rd Tryz.prog w 105 cs) : ∃ x : ShelterV, RShelter x cs w := by
  have hl := h.len struct_Shelter
  rw [cells_Shelter] at hl
  have h0 := h.field struct_Shelter (i := 0) (u := 9) (o := 0) (size := 1) rfl (by kernel_rfl)
  have h1 := h.field struct_Shelter (i := 1) (u := 3) (o := 1) (size := 1) rfl (by kernel_rfl)
  match cs, hl with
  | [c0, c1], _ =>
    simp only [List.drop_zero, List.drop_succ_cons, List.take_succ_cons, List.take_zero] at h0 h1
    obtain ⟨x0, e0, b0⟩ := rstr_of_rd (w := w) und_SG _ h0
    obtain ⟨x1, e1, b1⟩ := rint_of_rd (w := w) und_IG _ h1
    simp only [List.cons.injEq, and_true] at e0 e1
    exact ⟨⟨x0, x1⟩, by rw [e0, e1], b0, b1⟩
structure BasinV where
  name : ByteArray
  owners : (List ByteArray)
  cells : Int
  places : (List PlaceV)
  links : (List LinkV)
  towns : (List TownV)
  gauges : (List GaugeV)
  roads : (List RoadV)
  shelters : (List ShelterV)
  room : (List Int)
  err : Int
def RBasin (x : BasinV) (cs : List Value) (w : World) : Prop := ∃ v0 v1 v2 v3 v4 v5 v6 v7 : Value, cs = [.string x.name, v0, .int .i64 x.cells, v1, v2, v3, v4, v5, v6, v7, .int .i64 x.err] ∧ x.name.size ≤ maxLen ∧ (-9223372036854775808 ≤ x.cells ∧ x.cells ≤ 9223372036854775807) ∧ (-9223372036854775808 ≤ x.err ∧ x.err ≤ 9223372036854775807) ∧ LArg RStr 1 v0 x.owners w ∧ LArg RPlace 12 v1 x.places w ∧ LArg RLink 18 v2 x.links w ∧ LArg RTown 7 v3 x.towns w ∧ LArg RGauge 5 v4 x.gauges w ∧ LArg RRoad 7 v5 x.roads w ∧ LArg RShelter 2 v6 x.shelters w ∧ LArg RInt 1 v7 x.room w
theorem struct_Basin : (match Tryz.prog.underlying 31 with | some (.struct fs) => some (fs.map fun f => (f.type, f.offset)) | _ => none) = some #[(9, 0), (22, 1), (3, 2), (23, 3), (24, 4), (25, 5), (26, 6), (27, 7), (28, 8), (29, 9), (3, 10)] := by kernel_rfl
theorem cells_Basin : Tryz.prog.cellsOf 31 = 11 := by kernel_rfl
set_option maxRecDepth 100000 in
theorem Basin_of_rd {w : World} (cs : List Value) (h : Rd Tryz.prog w 31 cs) : ∃ x : BasinV, RBasin x cs w := by
  have hl := h.len struct_Basin
  rw [cells_Basin] at hl
  have h0 := h.field struct_Basin (i := 0) (u := 9) (o := 0) (size := 1) rfl (by kernel_rfl)
  have h1 := h.field struct_Basin (i := 1) (u := 22) (o := 1) (size := 1) rfl (by kernel_rfl)
  have h2 := h.field struct_Basin (i := 2) (u := 3) (o := 2) (size := 1) rfl (by kernel_rfl)
  have h3 := h.field struct_Basin (i := 3) (u := 23) (o := 3) (size := 1) rfl (by kernel_rfl)
  have h4 := h.field struct_Basin (i := 4) (u := 24) (o := 4) (size := 1) rfl (by kernel_rfl)
  have h5 := h.field struct_Basin (i := 5) (u := 25) (o := 5) (size := 1) rfl (by kernel_rfl)
  have h6 := h.field struct_Basin (i := 6) (u := 26) (o := 6) (size := 1) rfl (by kernel_rfl)
  have h7 := h.field struct_Basin (i := 7) (u := 27) (o := 7) (size := 1) rfl (by kernel_rfl)
  have h8 := h.field struct_Basin (i := 8) (u := 28) (o := 8) (size := 1) rfl (by kernel_rfl)
  have h9 := h.field struct_Basin (i := 9) (u := 29) (o := 9) (size := 1) rfl (by kernel_rfl)
  have h10 := h.field struct_Basin (i := 10) (u := 3) (o := 10) (size := 1) rfl (by kernel_rfl)
  match cs, hl with
  | [c0, c1, c2, c3, c4, c5, c6, c7, c8, c9, c10], _ =>
    simp only [List.drop_zero, List.drop_succ_cons, List.take_succ_cons, List.take_zero] at h0 h1 h2 h3 h4 h5 h6 h7 h8 h9 h10
    obtain ⟨x0, e0, b0⟩ := rstr_of_rd (w := w) und_SG _ h0
    obtain ⟨x1, w1, e1, l1⟩ := rlist_of_rd (w := w) (R := RStr) (size := 1) und_L3 (by kernel_rfl) (by decide) (rstr_of_rd und_SG) _ h1
    obtain ⟨x2, e2, b2⟩ := rint_of_rd (w := w) und_IG _ h2
    obtain ⟨x3, w3, e3, l3⟩ := rlist_of_rd (w := w) (R := RPlace) (size := 12) und_L4 (by kernel_rfl) (by decide) Place_of_rd _ h3
    obtain ⟨x4, w4, e4, l4⟩ := rlist_of_rd (w := w) (R := RLink) (size := 18) und_L5 (by kernel_rfl) (by decide) Link_of_rd _ h4
    obtain ⟨x5, w5, e5, l5⟩ := rlist_of_rd (w := w) (R := RTown) (size := 7) und_L6 (by kernel_rfl) (by decide) Town_of_rd _ h5
    obtain ⟨x6, w6, e6, l6⟩ := rlist_of_rd (w := w) (R := RGauge) (size := 5) und_L7 (by kernel_rfl) (by decide) Gauge_of_rd _ h6
    obtain ⟨x7, w7, e7, l7⟩ := rlist_of_rd (w := w) (R := RRoad) (size := 7) und_L8 (by kernel_rfl) (by decide) Road_of_rd _ h7
    obtain ⟨x8, w8, e8, l8⟩ := rlist_of_rd (w := w) (R := RShelter) (size := 2) und_L9 (by kernel_rfl) (by decide) Shelter_of_rd _ h8
    obtain ⟨x9, w9, e9, l9⟩ := rlist_of_rd (w := w) (R := RInt) (size := 1) und_L1 (by kernel_rfl) (by decide) (rint_of_rd und_IG) _ h9
    obtain ⟨x10, e10, b10⟩ := rint_of_rd (w := w) und_IG _ h10
    simp only [List.cons.injEq, and_true] at e0 e1 e2 e3 e4 e5 e6 e7 e8 e9 e10
    exact ⟨⟨x0, x1, x2, x3, x4, x5, x6, x7, x8, x9, x10⟩, w1, w3, w4, w5, w6, w7, w8, w9, by rw [e0, e1, e2, e3, e4, e5, e6, e7, e8, e9, e10], b0, b2, b10, l1, l3, l4, l5, l6, l7, l8, l9⟩
set_option maxRecDepth 100000 in
theorem arg_Basin {H : Type} {enc : TypeId × Value → H} {W : World} {base : Nat} {v : Value} {d : DataW H} {ps : List MemPlace} (hval : Value.okWide Tryz.prog W .any base 31 v)
    (h : DataW.Trod enc Tryz.prog W 0 (fun _ => true) true 31 v d ps) : ∃ (x : BasinV) (cs : List Value), v = .agg cs.toArray ∧ RBasin x cs W := by
  have hs := struct_Basin
  split at hs
  · next fs hu =>
    obtain ⟨cs, rfl, _⟩ := Go.WideShapes.okWide_struct hu hval
    obtain ⟨x, hx⟩ := Basin_of_rd _ (Rd.of_trod h)
    exact ⟨x, cs.toList, rfl, hx⟩
  · cases hs
end Go.Proofs.YtepidpegoihllaaGreatDoor
/- The library functions that package sign calls, by contract: strings.Join, LeadingZeros64, Mul64 (laid by the shelf of the kit, in plain words). -/
namespace Go.Proofs
open Go.Shelf
def Tryz.lays156_ren : Go.Shelf.Ren := ⟨fun | 156 => 74 | 165 => 97 | 166 => 83 | 169 => 84 | 240 => 102 | 241 => 107 | 276 => 113 | 277 => 120 | n => n, fun | 31 => 22 | 9 => 9 | 3 => 3 | 4 => 4 | 0 => 0 | 20 => 20 | 72 => 132 | 76 => 136 | 70 => 129 | 37 => 130 | 75 => 135 | 127 => 161 | 164 => 172 | 5 => 5 | 80 => 93 | n => n, fun | n => n⟩
theorem Tryz.lays156 : Go.Proofs.Lays.n156 Tryz.prog Tryz.lays156_ren := {
  mixed := by kernel_rfl
  f156 := Tryz.func74.trans (congrArg some (by kernel_rfl))
  f165 := Tryz.func97.trans (congrArg some (by kernel_rfl))
  f166 := Tryz.func83.trans (congrArg some (by kernel_rfl))
  f169 := Tryz.func84.trans (congrArg some (by kernel_rfl))
  f240 := Tryz.func102.trans (congrArg some (by kernel_rfl))
  f241 := Tryz.func107.trans (congrArg some (by kernel_rfl))
  f276 := Tryz.func113.trans (congrArg some (by kernel_rfl))
  f277 := Tryz.func120.trans (congrArg some (by kernel_rfl))
  t0 := Tryz.underlying0
  a0 := Tryz.isAgg0
  z0 := Tryz.sizeOf0
  v0 := Tryz.zeroValue0
  t3 := Tryz.underlying3
  a3 := Tryz.isAgg3
  z3 := Tryz.sizeOf3
  v3 := Tryz.zeroValue3
  t4 := Tryz.underlying4
  a4 := Tryz.isAgg4
  z4 := Tryz.sizeOf4
  v4 := Tryz.zeroValue4
  t9 := Tryz.underlying9
  a9 := Tryz.isAgg9
  z9 := Tryz.sizeOf9
  v9 := Tryz.zeroValue9
  t20 := Tryz.underlying20
  a20 := Tryz.isAgg20
  z20 := Tryz.sizeOf20
  v20 := Tryz.zeroValue20
  t31 := Tryz.underlying22
  a31 := Tryz.isAgg22
  z31 := Tryz.sizeOf22
  v31 := Tryz.zeroValue22
  t37 := Tryz.underlying130
  a37 := Tryz.isAgg130
  z37 := Tryz.sizeOf130
  v37 := Tryz.zeroValue130
  t70 := Tryz.underlying129
  a70 := Tryz.isAgg129
  z70 := Tryz.sizeOf129
  v70 := Tryz.zeroValue129
  t72 := Tryz.underlying132
  a72 := Tryz.isAgg132
  z72 := Tryz.sizeOf132
  v72 := Tryz.zeroValue132
  t75 := Tryz.underlying135
  a75 := Tryz.isAgg135
  z75 := Tryz.sizeOf135
  v75 := Tryz.zeroValue135
  t76 := Tryz.underlying136
  a76 := Tryz.isAgg136
  z76 := Tryz.sizeOf136
  v76 := Tryz.zeroValue136
  t127 := Tryz.underlying161
  a127 := Tryz.isAgg161
  z127 := Tryz.sizeOf161
  v127 := Tryz.zeroValue161
  t164 := Tryz.underlying172
  a164 := Tryz.isAgg172
  z164 := Tryz.sizeOf172
  v164 := Tryz.zeroValue172 }
theorem Tryz.Builder_Extra_156 : Builder.Extra Tryz.prog Tryz.lays156_ren := {
  sizeBuilder := by kernel_rfl
  liesBuilder := by kernel_rfl
  t5 := Tryz.underlying5
  a5 := Tryz.isAgg5
  z5 := Tryz.sizeOf5
  v5 := Tryz.zeroValue5
  infoByte := by kernel_rfl
  cellsByte := by kernel_rfl
  sizeByte := by kernel_rfl
  neB5 := by decide }
open Go.RowKit in
theorem Tryz.strings_Join (bk o c : Nat) (xs : List ByteArray) (sep : ByteArray) (w : World) (hcells : ∀ (j : Nat) x, xs[j]? = some x → w.cell? ⟨bk, o + j, none⟩ = some (.string x)) (hbk : bk < w.heap.size) (hN : xs.length ≤ 140737488355328) (hcap : xs.length ≤ c) (hlen : (Lib.join (xs.map (·.data.toList)) sep.data.toList).length ≤ 140737488355328) :
    Calls Tryz.prog 74 #[.slice (some ⟨bk, o, none⟩) xs.length c, .string sep] w fun e w' => e = .returned (.string ⟨(Lib.join (xs.map (·.data.toList)) sep.data.toList).toArray⟩) ∧ Below w.heap.size w w' := Any.strings_Join Tryz.lays156 Tryz.Builder_Extra_156 bk o c xs sep w hcells hbk hN hcap hlen
def Tryz.lays134_ren : Go.Shelf.Ren := ⟨fun | 134 => 106 | 129 => 119 | n => n, fun | 53 => 145 | 3 => 3 | 4 => 4 | 46 => 146 | 5 => 5 | 9 => 9 | n => n, fun | n => n⟩
theorem Tryz.lays134 : Go.Proofs.Lays.n134 Tryz.prog Tryz.lays134_ren := {
  mixed := by kernel_rfl
  f129 := Tryz.func119.trans (congrArg some (by kernel_rfl))
  f134 := Tryz.func106.trans (congrArg some (by kernel_rfl))
  t3 := Tryz.underlying3
  a3 := Tryz.isAgg3
  z3 := Tryz.sizeOf3
  v3 := Tryz.zeroValue3
  t4 := Tryz.underlying4
  a4 := Tryz.isAgg4
  z4 := Tryz.sizeOf4
  v4 := Tryz.zeroValue4
  t5 := Tryz.underlying5
  a5 := Tryz.isAgg5
  z5 := Tryz.sizeOf5
  v5 := Tryz.zeroValue5
  t9 := Tryz.underlying9
  a9 := Tryz.isAgg9
  z9 := Tryz.sizeOf9
  v9 := Tryz.zeroValue9
  t46 := Tryz.underlying146
  a46 := Tryz.isAgg146
  z46 := Tryz.sizeOf146
  v46 := Tryz.zeroValue146
  t53 := Tryz.underlying145
  a53 := Tryz.isAgg145
  z53 := Tryz.sizeOf145
  v53 := Tryz.zeroValue145 }
theorem Tryz.bits_LeadingZeros64 (x : Int) (w : World) (h0 : 0 ≤ x) (h1 : x ≤ 18446744073709551615) :
    Calls Tryz.prog 106 #[.int .u64 x] w fun e w' => e = .returned (.int .i64 (64 - (Lib.bitLen x.toNat : Int))) ∧ w' = w := Any.bits_LeadingZeros64 Tryz.lays134 x w h0 h1
def Tryz.lays264_ren : Go.Shelf.Ren := ⟨fun | 264 => 93 | n => n, fun | 53 => 145 | 46 => 146 | n => n, fun | n => n⟩
theorem Tryz.lays264 : Go.Proofs.Lays.n264 Tryz.prog Tryz.lays264_ren := {
  mixed := by kernel_rfl
  f264 := Tryz.func93.trans (congrArg some (by kernel_rfl))
  t46 := Tryz.underlying146
  a46 := Tryz.isAgg146
  z46 := Tryz.sizeOf146
  v46 := Tryz.zeroValue146
  t53 := Tryz.underlying145
  a53 := Tryz.isAgg145
  z53 := Tryz.sizeOf145
  v53 := Tryz.zeroValue145 }
open Go.RowKit Go.Lib in
theorem Tryz.bits_Mul64 (x y : Nat) (hx : x < 18446744073709551616) (hy : y < 18446744073709551616) (w : World) :
    Calls Tryz.prog 93 #[.int .u64 x, .int .u64 y] w fun e w' => e = .returned (.tuple #[.int .u64 ((x * y / 18446744073709551616 : Nat) : Int), .int .u64 ((x * y % 18446744073709551616 : Nat) : Int)]) ∧ w' = w := Any.bits_Mul64 Tryz.lays264 x y hx hy w
end Go.Proofs
