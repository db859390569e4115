/- Basins that came in. -/
import Derived.Test.YtkoobkcmmfdlhaaProg
import Derived.Test.YtkoobkcmmfdlhaaUOpen
import Derived.KernelRfl
namespace Go.Proofs.Ytkoobkcmmfdlhaa
open Go.RowKit
theorem und_L1 : Try.prog.underlying 43 = some (.slice 3) := by kernel_rfl
theorem und_L2 : Try.prog.underlying 81 = some (.slice 95) := by kernel_rfl
theorem und_L3 : Try.prog.underlying 36 = some (.slice 9) := by kernel_rfl
theorem und_L4 : Try.prog.underlying 37 = some (.slice 83) := by kernel_rfl
theorem und_L5 : Try.prog.underlying 38 = some (.slice 26) := by kernel_rfl
theorem und_L6 : Try.prog.underlying 39 = some (.slice 85) := by kernel_rfl
theorem und_L7 : Try.prog.underlying 40 = some (.slice 89) := by kernel_rfl
theorem und_L8 : Try.prog.underlying 41 = some (.slice 91) := by kernel_rfl
theorem und_L9 : Try.prog.underlying 42 = some (.slice 87) := by kernel_rfl
structure CellV where
  index : Int
  area : Int
def RCell (x : CellV) (cs : List Value) (_ : World) : Prop := cs = [.int .i64 x.index, .int .i64 x.area] ∧ (-9223372036854775808 ≤ x.index ∧ x.index ≤ 9223372036854775807) ∧ (-9223372036854775808 ≤ x.area ∧ x.area ≤ 9223372036854775807)
theorem stays_Cell : Stays RCell := fun _ _ _ _ h _ => h
theorem struct_Cell : (match Try.prog.underlying 95 with | some (.struct fs) => some (fs.map fun f => (f.type, f.offset)) | _ => none) = some #[(3, 0), (3, 1)] := by kernel_rfl
theorem cells_Cell : Try.prog.cellsOf 95 = 2 := by kernel_rfl
set_option maxRecDepth 100000 in
theorem Cell_of_rd {w : World} (cs : List Value) (h : Rd Try.prog w 95 cs) : ∃ x : CellV, RCell x cs w := by
  have hl := h.len struct_Cell
  rw [cells_Cell] at hl
  have h0 := h.field struct_Cell (i := 0) (u := 3) (o := 0) (size := 1) rfl (by kernel_rfl)
  have h1 := h.field struct_Cell (i := 1) (u := 3) (o := 1) (size := 1) rfl (by kernel_rfl)
  match cs, hl with
  | [c0, c1], _ =>
    simp only [List.drop_zero, List.drop_succ_cons, List.take_succ_cons, List.take_zero] at h0 h1
    obtain ⟨x0, e0, b0⟩ := rint_of_rd (w := w) und_I _ h0
    obtain ⟨x1, e1, b1⟩ := rint_of_rd (w := w) und_I _ h1
    simp only [List.cons.injEq, and_true] at e0 e1
    exact ⟨⟨x0, x1⟩, by rw [e0, e1], b0, b1⟩
structure PlaceV where
  name : ByteArray
  kind : Int
  office : Int
  cap : Int
  level : (List PointV)
  start : (List Int)
  num : Int
  den : Int
  down : Int
  delay : Int
  floor : Int
  rain : (List CellV)
def RPlace (x : PlaceV) (cs : List Value) (w : World) : Prop := ∃ v0 v1 v2 : Value, cs = [.string x.name, .int .i64 x.kind, .int .i64 x.office, .int .i64 x.cap, v0, v1, .int .i64 x.num, .int .i64 x.den, .int .i64 x.down, .int .i64 x.delay, .int .i64 x.floor, v2] ∧ x.name.size ≤ maxLen ∧ (-9223372036854775808 ≤ x.kind ∧ x.kind ≤ 9223372036854775807) ∧ (-9223372036854775808 ≤ x.office ∧ x.office ≤ 9223372036854775807) ∧ (-9223372036854775808 ≤ x.cap ∧ x.cap ≤ 9223372036854775807) ∧ (-9223372036854775808 ≤ x.num ∧ x.num ≤ 9223372036854775807) ∧ (-9223372036854775808 ≤ x.den ∧ x.den ≤ 9223372036854775807) ∧ (-9223372036854775808 ≤ x.down ∧ x.down ≤ 9223372036854775807) ∧ (-9223372036854775808 ≤ x.delay ∧ x.delay ≤ 9223372036854775807) ∧ (-9223372036854775808 ≤ x.floor ∧ x.floor ≤ 9223372036854775807) ∧ LArg RPoint 2 v0 x.level w ∧ LArg RInt 1 v1 x.start w ∧ LArg RCell 2 v2 x.rain w
theorem stays_Place : Stays RPlace := fun _ _ _ _ ⟨v0, v1, v2, h0, b0, b1, b2, b3, b4, b5, b6, b7, b8, l0, l1, l2⟩ hb => ⟨v0, v1, v2, h0, b0, b1, b2, b3, b4, b5, b6, b7, b8, l0.below stays_Point hb, l1.below stays_int hb, l2.below stays_Cell hb⟩
theorem struct_Place : (match Try.prog.underlying 83 with | some (.struct fs) => some (fs.map fun f => (f.type, f.offset)) | _ => none) = some #[(9, 0), (3, 1), (3, 2), (3, 3), (22, 4), (43, 5), (3, 6), (3, 7), (3, 8), (3, 9), (3, 10), (81, 11)] := by kernel_rfl
theorem cells_Place : Try.prog.cellsOf 83 = 12 := by kernel_rfl
set_option maxRecDepth 100000 in
theorem Place_of_rd {w : World} (cs : List Value) (h : Rd Try.prog w 83 cs) : ∃ x : PlaceV, RPlace x cs w := by
  have hl := h.len struct_Place
  rw [cells_Place] at hl
  have h0 := h.field struct_Place (i := 0) (u := 9) (o := 0) (size := 1) rfl (by kernel_rfl)
  have h1 := h.field struct_Place (i := 1) (u := 3) (o := 1) (size := 1) rfl (by kernel_rfl)
  have h2 := h.field struct_Place (i := 2) (u := 3) (o := 2) (size := 1) rfl (by kernel_rfl)
  have h3 := h.field struct_Place (i := 3) (u := 3) (o := 3) (size := 1) rfl (by kernel_rfl)
  have h4 := h.field struct_Place (i := 4) (u := 22) (o := 4) (size := 1) rfl (by kernel_rfl)
  have h5 := h.field struct_Place (i := 5) (u := 43) (o := 5) (size := 1) rfl (by kernel_rfl)
  have h6 := h.field struct_Place (i := 6) (u := 3) (o := 6) (size := 1) rfl (by kernel_rfl)
  have h7 := h.field struct_Place (i := 7) (u := 3) (o := 7) (size := 1) rfl (by kernel_rfl)
  have h8 := h.field struct_Place (i := 8) (u := 3) (o := 8) (size := 1) rfl (by kernel_rfl)
  have h9 := h.field struct_Place (i := 9) (u := 3) (o := 9) (size := 1) rfl (by kernel_rfl)
  have h10 := h.field struct_Place (i := 10) (u := 3) (o := 10) (size := 1) rfl (by kernel_rfl)
  have h11 := h.field struct_Place (i := 11) (u := 81) (o := 11) (size := 1) rfl (by kernel_rfl)
  match cs, hl with
  | [c0, c1, c2, c3, c4, c5, c6, c7, c8, c9, c10, c11], _ =>
    simp only [List.drop_zero, List.drop_succ_cons, List.take_succ_cons, List.take_zero] at h0 h1 h2 h3 h4 h5 h6 h7 h8 h9 h10 h11
    obtain ⟨x0, e0, b0⟩ := rstr_of_rd (w := w) und_S _ h0
    obtain ⟨x1, e1, b1⟩ := rint_of_rd (w := w) und_I _ h1
    obtain ⟨x2, e2, b2⟩ := rint_of_rd (w := w) und_I _ h2
    obtain ⟨x3, e3, b3⟩ := rint_of_rd (w := w) und_I _ h3
    obtain ⟨x4, w4, e4, l4⟩ := rlist_of_rd (w := w) (R := RPoint) (size := 2) und_L0 (by kernel_rfl) (by decide) Point_of_rd _ h4
    obtain ⟨x5, w5, e5, l5⟩ := rlist_of_rd (w := w) (R := RInt) (size := 1) und_L1 (by kernel_rfl) (by decide) (rint_of_rd und_I) _ h5
    obtain ⟨x6, e6, b6⟩ := rint_of_rd (w := w) und_I _ h6
    obtain ⟨x7, e7, b7⟩ := rint_of_rd (w := w) und_I _ h7
    obtain ⟨x8, e8, b8⟩ := rint_of_rd (w := w) und_I _ h8
    obtain ⟨x9, e9, b9⟩ := rint_of_rd (w := w) und_I _ h9
    obtain ⟨x10, e10, b10⟩ := rint_of_rd (w := w) und_I _ h10
    obtain ⟨x11, w11, e11, l11⟩ := rlist_of_rd (w := w) (R := RCell) (size := 2) und_L2 (by kernel_rfl) (by decide) Cell_of_rd _ h11
    simp only [List.cons.injEq, and_true] at e0 e1 e2 e3 e4 e5 e6 e7 e8 e9 e10 e11
    exact ⟨⟨x0, x1, x2, x3, x4, x5, x6, x7, x8, x9, x10, x11⟩, w4, w5, w11, by rw [e0, e1, e2, e3, e4, e5, e6, e7, e8, e9, e10, e11], b0, b1, b2, b3, b6, b7, b8, b9, b10, l4, l5, l11⟩
structure TownV where
  name : ByteArray
  place : Int
  flood : Int
  lead : Int
  people : Int
  watch : Int
  quorum : Int
def RTown (x : TownV) (cs : List Value) (_ : World) : Prop := cs = [.string x.name, .int .i64 x.place, .int .i64 x.flood, .int .i64 x.lead, .int .i64 x.people, .int .i64 x.watch, .int .i64 x.quorum] ∧ x.name.size ≤ maxLen ∧ (-9223372036854775808 ≤ x.place ∧ x.place ≤ 9223372036854775807) ∧ (-9223372036854775808 ≤ x.flood ∧ x.flood ≤ 9223372036854775807) ∧ (-9223372036854775808 ≤ x.lead ∧ x.lead ≤ 9223372036854775807) ∧ (-9223372036854775808 ≤ x.people ∧ x.people ≤ 9223372036854775807) ∧ (-9223372036854775808 ≤ x.watch ∧ x.watch ≤ 9223372036854775807) ∧ (-9223372036854775808 ≤ x.quorum ∧ x.quorum ≤ 9223372036854775807)
theorem stays_Town : Stays RTown := fun _ _ _ _ h _ => h
theorem struct_Town : (match Try.prog.underlying 85 with | some (.struct fs) => some (fs.map fun f => (f.type, f.offset)) | _ => none) = some #[(9, 0), (3, 1), (3, 2), (3, 3), (3, 4), (3, 5), (3, 6)] := by kernel_rfl
theorem cells_Town : Try.prog.cellsOf 85 = 7 := by kernel_rfl
set_option maxRecDepth 100000 in
theorem Town_of_rd {w : World} (cs : List Value) (h : Rd Try.prog w 85 cs) : ∃ x : TownV, RTown x cs w := by
  have hl := h.len struct_Town
  rw [cells_Town] at hl
  have h0 := h.field struct_Town (i := 0) (u := 9) (o := 0) (size := 1) rfl (by kernel_rfl)
  have h1 := h.field struct_Town (i := 1) (u := 3) (o := 1) (size := 1) rfl (by kernel_rfl)
  have h2 := h.field struct_Town (i := 2) (u := 3) (o := 2) (size := 1) rfl (by kernel_rfl)
  have h3 := h.field struct_Town (i := 3) (u := 3) (o := 3) (size := 1) rfl (by kernel_rfl)
  have h4 := h.field struct_Town (i := 4) (u := 3) (o := 4) (size := 1) rfl (by kernel_rfl)
  have h5 := h.field struct_Town (i := 5) (u := 3) (o := 5) (size := 1) rfl (by kernel_rfl)
  have h6 := h.field struct_Town (i := 6) (u := 3) (o := 6) (size := 1) rfl (by kernel_rfl)
  match cs, hl with
  | [c0, c1, c2, c3, c4, c5, c6], _ =>
    simp only [List.drop_zero, List.drop_succ_cons, List.take_succ_cons, List.take_zero] at h0 h1 h2 h3 h4 h5 h6
    obtain ⟨x0, e0, b0⟩ := rstr_of_rd (w := w) und_S _ h0
    obtain ⟨x1, e1, b1⟩ := rint_of_rd (w := w) und_I _ h1
    obtain ⟨x2, e2, b2⟩ := rint_of_rd (w := w) und_I _ h2
    obtain ⟨x3, e3, b3⟩ := rint_of_rd (w := w) und_I _ h3
    obtain ⟨x4, e4, b4⟩ := rint_of_rd (w := w) und_I _ h4
    obtain ⟨x5, e5, b5⟩ := rint_of_rd (w := w) und_I _ h5
    obtain ⟨x6, e6, b6⟩ := rint_of_rd (w := w) und_I _ h6
    simp only [List.cons.injEq, and_true] at e0 e1 e2 e3 e4 e5 e6
    exact ⟨⟨x0, x1, x2, x3, x4, x5, x6⟩, by rw [e0, e1, e2, e3, e4, e5, e6], b0, b1, b2, b3, b4, b5, b6⟩
structure GaugeV where
  name : ByteArray
  kind : Int
  target : Int
  err : Int
  drift : Int
def RGauge (x : GaugeV) (cs : List Value) (_ : World) : Prop := cs = [.string x.name, .int .i64 x.kind, .int .i64 x.target, .int .i64 x.err, .int .i64 x.drift] ∧ x.name.size ≤ maxLen ∧ (-9223372036854775808 ≤ x.kind ∧ x.kind ≤ 9223372036854775807) ∧ (-9223372036854775808 ≤ x.target ∧ x.target ≤ 9223372036854775807) ∧ (-9223372036854775808 ≤ x.err ∧ x.err ≤ 9223372036854775807) ∧ (-9223372036854775808 ≤ x.drift ∧ x.drift ≤ 9223372036854775807)
theorem stays_Gauge : Stays RGauge := fun _ _ _ _ h _ => h
theorem struct_Gauge : (match Try.prog.underlying 89 with | some (.struct fs) => some (fs.map fun f => (f.type, f.offset)) | _ => none) = some #[(9, 0), (3, 1), (3, 2), (3, 3), (3, 4)] := by kernel_rfl
theorem cells_Gauge : Try.prog.cellsOf 89 = 5 := by kernel_rfl
set_option maxRecDepth 100000 in
theorem Gauge_of_rd {w : World} (cs : List Value) (h : Rd Try.prog w 89 cs) : ∃ x : GaugeV, RGauge x cs w := by
  have hl := h.len struct_Gauge
  rw [cells_Gauge] at hl
  have h0 := h.field struct_Gauge (i := 0) (u := 9) (o := 0) (size := 1) rfl (by kernel_rfl)
  have h1 := h.field struct_Gauge (i := 1) (u := 3) (o := 1) (size := 1) rfl (by kernel_rfl)
  have h2 := h.field struct_Gauge (i := 2) (u := 3) (o := 2) (size := 1) rfl (by kernel_rfl)
  have h3 := h.field struct_Gauge (i := 3) (u := 3) (o := 3) (size := 1) rfl (by kernel_rfl)
  have h4 := h.field struct_Gauge (i := 4) (u := 3) (o := 4) (size := 1) rfl (by kernel_rfl)
  match cs, hl with
  | [c0, c1, c2, c3, c4], _ =>
    simp only [List.drop_zero, List.drop_succ_cons, List.take_succ_cons, List.take_zero] at h0 h1 h2 h3 h4
    obtain ⟨x0, e0, b0⟩ := rstr_of_rd (w := w) und_S _ h0
    obtain ⟨x1, e1, b1⟩ := rint_of_rd (w := w) und_I _ h1
    obtain ⟨x2, e2, b2⟩ := rint_of_rd (w := w) und_I _ h2
    obtain ⟨x3, e3, b3⟩ := rint_of_rd (w := w) und_I _ h3
    obtain ⟨x4, e4, b4⟩ := rint_of_rd (w := w) und_I _ h4
    simp only [List.cons.injEq, and_true] at e0 e1 e2 e3 e4
    exact ⟨⟨x0, x1, x2, x3, x4⟩, by rw [e0, e1, e2, e3, e4], b0, b1, b2, b3, b4⟩
structure RoadV where
  name : ByteArray
  src : Int
  dst : Int
  hours : Int
  flow : Int
  byp : Int
  limit : Int
def RRoad (x : RoadV) (cs : List Value) (_ : World) : Prop := cs = [.string x.name, .int .i64 x.src, .int .i64 x.dst, .int .i64 x.hours, .int .i64 x.flow, .int .i64 x.byp, .int .i64 x.limit] ∧ x.name.size ≤ maxLen ∧ (-9223372036854775808 ≤ x.src ∧ x.src ≤ 9223372036854775807) ∧ (-9223372036854775808 ≤ x.dst ∧ x.dst ≤ 9223372036854775807) ∧ (-9223372036854775808 ≤ x.hours ∧ x.hours ≤ 9223372036854775807) ∧ (-9223372036854775808 ≤ x.flow ∧ x.flow ≤ 9223372036854775807) ∧ (-9223372036854775808 ≤ x.byp ∧ x.byp ≤ 9223372036854775807) ∧ (-9223372036854775808 ≤ x.limit ∧ x.limit ≤ 9223372036854775807)
theorem stays_Road : Stays RRoad := fun _ _ _ _ h _ => h
theorem struct_Road : (match Try.prog.underlying 91 with | some (.struct fs) => some (fs.map fun f => (f.type, f.offset)) | _ => none) = some #[(9, 0), (3, 1), (3, 2), (3, 3), (3, 4), (3, 5), (3, 6)] := by kernel_rfl
theorem cells_Road : Try.prog.cellsOf 91 = 7 := by kernel_rfl
set_option maxRecDepth 100000 in
theorem Road_of_rd {w : World} (cs : List Value) (h : Rd Try.prog w 91 cs) : ∃ x : RoadV, RRoad x cs w := by
  have hl := h.len struct_Road
  rw [cells_Road] at hl
  have h0 := h.field struct_Road (i := 0) (u := 9) (o := 0) (size := 1) rfl (by kernel_rfl)
  have h1 := h.field struct_Road (i := 1) (u := 3) (o := 1) (size := 1) rfl (by kernel_rfl)
  have h2 := h.field struct_Road (i := 2) (u := 3) (o := 2) (size := 1) rfl (by kernel_rfl)
  have h3 := h.field struct_Road (i := 3) (u := 3) (o := 3) (size := 1) rfl (by kernel_rfl)
  have h4 := h.field struct_Road (i := 4) (u := 3) (o := 4) (size := 1) rfl (by kernel_rfl)
  have h5 := h.field struct_Road (i := 5) (u := 3) (o := 5) (size := 1) rfl (by kernel_rfl)
  have h6 := h.field struct_Road (i := 6) (u := 3) (o := 6) (size := 1) rfl (by kernel_rfl)
  match cs, hl with
  | [c0, c1, c2, c3, c4, c5, c6], _ =>
    simp only [List.drop_zero, List.drop_succ_cons, List.take_succ_cons, List.take_zero] at h0 h1 h2 h3 h4 h5 h6
    obtain ⟨x0, e0, b0⟩ := rstr_of_rd (w := w) und_S _ h0
    obtain ⟨x1, e1, b1⟩ := rint_of_rd (w := w) und_I _ h1
    obtain ⟨x2, e2, b2⟩ := rint_of_rd (w := w) und_I _ h2
    obtain ⟨x3, e3, b3⟩ := rint_of_rd (w := w) und_I _ h3
    obtain ⟨x4, e4, b4⟩ := rint_of_rd (w := w) und_I _ h4
    obtain ⟨x5, e5, b5⟩ := rint_of_rd (w := w) und_I _ h5
    obtain ⟨x6, e6, b6⟩ := rint_of_rd (w := w) und_I _ h6
    simp only [List.cons.injEq, and_true] at e0 e1 e2 e3 e4 e5 e6
    exact ⟨⟨x0, x1, x2, x3, x4, x5, x6⟩, by rw [e0, e1, e2, e3, e4, e5, e6], b0, b1, b2, b3, b4, b5, b6⟩
structure ShelterV where
  name : ByteArray
  room : Int
def RShelter (x : ShelterV) (cs : List Value) (_ : World) : Prop := cs = [.string x.name, .int .i64 x.room] ∧ x.name.size ≤ maxLen ∧ (-9223372036854775808 ≤ x.room ∧ x.room ≤ 9223372036854775807)
theorem stays_Shelter : Stays RShelter := fun _ _ _ _ h _ => h
theorem struct_Shelter : (match Try.prog.underlying 87 with | some (.struct fs) => some (fs.map fun f => (f.type, f.offset)) | _ => none) = some #[(9, 0), (3, 1)] := by kernel_rfl
theorem cells_Shelter : Try.prog.cellsOf 87 = 2 := by kernel_rfl
set_option maxRecDepth 100000 in
theorem Shelter_of_rd {w : World} (cs : List Value) (h : Rd Try.prog w 87 cs) : ∃ x : ShelterV, RShelter x cs w := by
  have hl := h.len struct_Shelter
  rw [cells_Shelter] at hl
  have h0 := h.field struct_Shelter (i := 0) (u := 9) (o := 0) (size := 1) rfl (by kernel_rfl)
  have h1 := h.field struct_Shelter (i := 1) (u := 3) (o := 1) (size := 1) rfl (by kernel_rfl)
  match cs, hl with
  | [c0, c1], _ =>
    simp only [List.drop_zero, List.drop_succ_cons, List.take_succ_cons, List.take_zero] at h0 h1
    obtain ⟨x0, e0, b0⟩ := rstr_of_rd (w := w) und_S _ h0
    obtain ⟨x1, e1, b1⟩ := rint_of_rd (w := w) und_I _ h1
    simp only [List.cons.injEq, and_true] at e0 e1
    exact ⟨⟨x0, x1⟩, by rw [e0, e1], b0, b1⟩
structure BasinV where
  name : ByteArray
  owners : (List ByteArray)
  cells : Int
  places : (List PlaceV)
  links : (List LinkV)
  towns : (List TownV)
  gauges : (List GaugeV)
  roads : (List RoadV)
  shelters : (List ShelterV)
  room : (List Int)
  err : Int
def RBasin (x : BasinV) (cs : List Value) (w : World) : Prop := ∃ v0 v1 v2 v3 v4 v5 v6 v7 : Value, cs = [.string x.name, v0, .int .i64 x.cells, v1, v2, v3, v4, v5, v6, v7, .int .i64 x.err] ∧ x.name.size ≤ maxLen ∧ (-9223372036854775808 ≤ x.cells ∧ x.cells ≤ 9223372036854775807) ∧ (-9223372036854775808 ≤ x.err ∧ x.err ≤ 9223372036854775807) ∧ LArg RStr 1 v0 x.owners w ∧ LArg RPlace 12 v1 x.places w ∧ LArg RLink 18 v2 x.links w ∧ LArg RTown 7 v3 x.towns w ∧ LArg RGauge 5 v4 x.gauges w ∧ LArg RRoad 7 v5 x.roads w ∧ LArg RShelter 2 v6 x.shelters w ∧ LArg RInt 1 v7 x.room w
theorem stays_Basin : Stays RBasin := fun _ _ _ _ ⟨v0, v1, v2, v3, v4, v5, v6, v7, h0, b0, b1, b2, l0, l1, l2, l3, l4, l5, l6, l7⟩ hb => ⟨v0, v1, v2, v3, v4, v5, v6, v7, h0, b0, b1, b2, l0.below stays_str hb, l1.below stays_Place hb, l2.below stays_Link hb, l3.below stays_Town hb, l4.below stays_Gauge hb, l5.below stays_Road hb, l6.below stays_Shelter hb, l7.below stays_int hb⟩
theorem struct_Basin : (match Try.prog.underlying 45 with | some (.struct fs) => some (fs.map fun f => (f.type, f.offset)) | _ => none) = some #[(9, 0), (36, 1), (3, 2), (37, 3), (38, 4), (39, 5), (40, 6), (41, 7), (42, 8), (43, 9), (3, 10)] := by kernel_rfl
theorem cells_Basin : Try.prog.cellsOf 45 = 11 := by kernel_rfl
set_option maxRecDepth 100000 in
theorem Basin_of_rd {w : World} (cs : List Value) (h : Rd Try.prog w 45 cs) : ∃ x : BasinV, RBasin x cs w := by
  have hl := h.len struct_Basin
  rw [cells_Basin] at hl
  have h0 := h.field struct_Basin (i := 0) (u := 9) (o := 0) (size := 1) rfl (by kernel_rfl)
  have h1 := h.field struct_Basin (i := 1) (u := 36) (o := 1) (size := 1) rfl (by kernel_rfl)
  have h2 := h.field struct_Basin (i := 2) (u := 3) (o := 2) (size := 1) rfl (by kernel_rfl)
  have h3 := h.field struct_Basin (i := 3) (u := 37) (o := 3) (size := 1) rfl (by kernel_rfl)
  have h4 := h.field struct_Basin (i := 4) (u := 38) (o := 4) (size := 1) rfl (by kernel_rfl)
  have h5 := h.field struct_Basin (i := 5) (u := 39) (o := 5) (size := 1) rfl (by kernel_rfl)
  have h6 := h.field struct_Basin (i := 6) (u := 40) (o := 6) (size := 1) rfl (by kernel_rfl)
  have h7 := h.field struct_Basin (i := 7) (u := 41) (o := 7) (size := 1) rfl (by kernel_rfl)
  have h8 := h.field struct_Basin (i := 8) (u := 42) (o := 8) (size := 1) rfl (by kernel_rfl)
  have h9 := h.field struct_Basin (i := 9) (u := 43) (o := 9) (size := 1) rfl (by kernel_rfl)
  have h10 := h.field struct_Basin (i := 10) (u := 3) (o := 10) (size := 1) rfl (by kernel_rfl)
  match cs, hl with
  | [c0, c1, c2, c3, c4, c5, c6, c7, c8, c9, c10], _ =>
    simp only [List.drop_zero, List.drop_succ_cons, List.take_succ_cons, List.take_zero] at h0 h1 h2 h3 h4 h5 h6 h7 h8 h9 h10
    obtain ⟨x0, e0, b0⟩ := rstr_of_rd (w := w) und_S _ h0
    obtain ⟨x1, w1, e1, l1⟩ := rlist_of_rd (w := w) (R := RStr) (size := 1) und_L3 (by kernel_rfl) (by decide) (rstr_of_rd und_S) _ h1
    obtain ⟨x2, e2, b2⟩ := rint_of_rd (w := w) und_I _ h2
    obtain ⟨x3, w3, e3, l3⟩ := rlist_of_rd (w := w) (R := RPlace) (size := 12) und_L4 (by kernel_rfl) (by decide) Place_of_rd _ h3
    obtain ⟨x4, w4, e4, l4⟩ := rlist_of_rd (w := w) (R := RLink) (size := 18) und_L5 (by kernel_rfl) (by decide) Link_of_rd _ h4
    obtain ⟨x5, w5, e5, l5⟩ := rlist_of_rd (w := w) (R := RTown) (size := 7) und_L6 (by kernel_rfl) (by decide) Town_of_rd _ h5
    obtain ⟨x6, w6, e6, l6⟩ := rlist_of_rd (w := w) (R := RGauge) (size := 5) und_L7 (by kernel_rfl) (by decide) Gauge_of_rd _ h6
    obtain ⟨x7, w7, e7, l7⟩ := rlist_of_rd (w := w) (R := RRoad) (size := 7) und_L8 (by kernel_rfl) (by decide) Road_of_rd _ h7
    obtain ⟨x8, w8, e8, l8⟩ := rlist_of_rd (w := w) (R := RShelter) (size := 2) und_L9 (by kernel_rfl) (by decide) Shelter_of_rd _ h8
    obtain ⟨x9, w9, e9, l9⟩ := rlist_of_rd (w := w) (R := RInt) (size := 1) und_L1 (by kernel_rfl) (by decide) (rint_of_rd und_I) _ h9
    obtain ⟨x10, e10, b10⟩ := rint_of_rd (w := w) und_I _ h10
    simp only [List.cons.injEq, and_true] at e0 e1 e2 e3 e4 e5 e6 e7 e8 e9 e10
    exact ⟨⟨x0, x1, x2, x3, x4, x5, x6, x7, x8, x9, x10⟩, w1, w3, w4, w5, w6, w7, w8, w9, by rw [e0, e1, e2, e3, e4, e5, e6, e7, e8, e9, e10], b0, b2, b10, l1, l3, l4, l5, l6, l7, l8, l9⟩
set_option maxRecDepth 100000 in
theorem arg_Basin {H : Type} {enc : TypeId × Value → H} {W : World} {base : Nat} {v : Value} {d : DataW H} {ps : List MemPlace} (hval : Value.okWide Try.prog W .any base 45 v)
    (h : DataW.Trod enc Try.prog W 0 (fun _ => true) true 45 v d ps) : ∃ (x : BasinV) (cs : List Value), v = .agg cs.toArray ∧ RBasin x cs W := by
  have hs := struct_Basin
  split at hs
  · next fs hu =>
    obtain ⟨cs, rfl, _⟩ := Go.WideShapes.okWide_struct hu hval
    obtain ⟨x, hx⟩ := Basin_of_rd _ (Rd.of_trod h)
    exact ⟨x, cs.toList, rfl, hx⟩
  · cases hs
end Go.Proofs.Ytkoobkcmmfdlhaa
