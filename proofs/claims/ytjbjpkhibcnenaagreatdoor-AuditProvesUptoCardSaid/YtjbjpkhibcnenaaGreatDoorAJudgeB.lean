/- The judge of package audit: outOfRange, disagree, breaks, counts, promised. -/
import Derived.Test.YtjbjpkhibcnenaaGreatDoorAJudge
namespace Go.Proofs.YtjbjpkhibcnenaaGreatDoor
open Go.RowKit
set_option maxRecDepth 100000 in
set_option maxHeartbeats 4000000 in
theorem range_any (jb mb : Nat) (ar ap : Option Addr) (cr cp : Nat) (err : Int) (room ps : List Int) (pubs : List PublicV) (H : Int → Option PublicV) (K : CV → Bool) (V : PV → Bool) (c : CV) (j : Nat) (w : World) (hJ : JudgeAt jb mb ar ap cr cp err room ps pubs w) (hj : j < 3) (ho : c.office = (j : Int)) (_hc : CNum c) : Calls Tryz.prog 54 #[.pointer (some ⟨jb, 0, none⟩), .agg #[.int .i64 (j : Int), .int .i64 c.hour, .int .i64 c.inn, .int .i64 c.out, .int .i64 c.store, .string c.prev, .int .i64 c.e, .int .i64 c.s]] w (RetB (rangeB ⟨err, room, H, K, V⟩ c) w) := by
  have HJ := Lib.hid hJ.row
  have hjl := blk_lt hJ.row
  have he := hJ.e0
  obtain ⟨r, hr⟩ : ∃ r, room[j]? = some r := ⟨_, List.getElem?_eq_getElem (by rw [hJ.lr]; exact hj)⟩
  obtain ⟨b, o, cs, rfl, hbr, -, hrg, rfl, hrI⟩ := hJ.lroom.at hr
  have hrb := hJ.r0 r (List.mem_of_getElem? hr)
  have HRM : Hid (w.cell? ⟨b, o + j, none⟩ = some (.int .i64 r)) := Lib.hid (by have := hrg 0 _ rfl; rw [Nat.mul_one, Nat.add_zero] at this; exact this)
  have W1 : IntKind.i64.wrap (-err) = -err := IntWalk.i64_in _ (by omega)
  have W2 : IntKind.i64.wrap (r + err) = r + err := IntWalk.i64_in _ (by omega)
  have h0 : ¬ (3 : Int) ≤ (j : Int) := by omega
  have h00 : (j : Int) < 3 := by omega
  have HR := Lib.hid ((RowsS.nil w).alloc (.cells #[.int .i64 (j : Int), .int .i64 c.hour, .int .i64 c.inn, .int .i64 c.out, .int .i64 c.store, .string c.prev, .int .i64 c.e, .int .i64 c.s] 63))
  clear hJ hrg hrI
  have HOc := Lib.hid ho
  have HRr := Lib.hid hr
  clear ho hr
  go_enter Tryz.func54, Tryz.ntmps54
  go_upto_region 1 with fail
  generalize w.alloc (.cells #[.int .i64 (j : Int), .int .i64 c.hour, .int .i64 c.inn, .int .i64 c.out, .int .i64 c.store, .string c.prev, .int .i64 c.e, .int .i64 c.s] 63) = w0 at *
  refine wp_region_noPanic ?_
  refine wp_region_held_drew (S := fun cw => RowsS w [(w.heap.size, .cells #[.int .i64 (j : Int), .int .i64 c.hour, .int .i64 c.inn, .int .i64 c.out, .int .i64 c.store, .string c.prev, .int .i64 c.e, .int .i64 c.s] 63)] cw) (by kernel_rfl) (HR.out.drew) (fun hHeld => ?_)
  refine tn 0 ?_
  try simp only [Act.put, aL1, aL2, aL3]
  refine tn 1 ?_ (hx := fun wz hSw => by have e4 := hSw.cell 0 0 rfl rfl; go_simp; try with_reducible rfl)
  try simp only [Act.put, aL1, aL2, aL3]
  refine tn 2 ?_
  try simp only [Act.put, aL1, aL2, aL3]
  refine tn 3 ?_
  try simp only [Act.put, aL1, aL2, aL3]
  refine tn 4 ?_
  try simp only [Act.put, aL1, aL2, aL3]
  refine tn 5 ?_ (hx := fun wz hSw => by have e4 := hSw.old HJ 1 rfl; go_simp; try with_reducible rfl)
  try simp only [Act.put, aL1, aL2, aL3]
  refine tn 6 ?_
  try simp only [Act.put, aL1, aL2, aL3]
  refine tn 7 ?_
  try simp only [Act.put, aL1, aL2, aL3]
  refine rdone (NoPanic.normal ?_)
  have HR1 := Lib.hid hHeld
  clear hHeld
  go_upto_region 3 with fail
  refine wp_region_noPanic ?_
  refine wp_region_held_drew (S := fun cw => RowsS w [(w.heap.size, .cells #[.int .i64 (j : Int), .int .i64 c.hour, .int .i64 c.inn, .int .i64 c.out, .int .i64 c.store, .string c.prev, .int .i64 c.e, .int .i64 c.s] 63)] cw) (by kernel_rfl) (HR1.out.drew) (fun hHeld => ?_)
  refine tn 0 ?_
  try simp only [Act.put, aL1, aL2, aL3]
  refine tn 1 ?_ (hx := fun wz hSw => by have e4 := hSw.cell 0 4 rfl rfl; go_simp; try with_reducible rfl)
  try simp only [Act.put, aL1, aL2, aL3]
  refine tn 2 ?_
  try simp only [Act.put, aL1, aL2, aL3]
  refine tn 3 ?_
  try simp only [Act.put, aL1, aL2, aL3]
  refine tn 4 ?_
  try simp only [Act.put, aL1, aL2, aL3]
  refine tn 5 ?_ (hx := fun wz hSw => by have e4 := hSw.old HJ 0 rfl; go_simp; try with_reducible rfl)
  try simp only [Act.put, aL1, aL2, aL3]
  refine tn 6 ?_
  try simp only [Act.put, aL1, aL2, aL3]
  by_cases h1 : c.store < -err
  · refine tn 7 ?_
    try simp only [Act.put, aL1, aL2, aL3]
    refine tn 8 ?_
    try simp only [Act.put, aL1, aL2, aL3]
    refine skn 26 [(9, some 22), (10, some 23), (11, some 24), (12, some 25), (13, some 26), (14, some 27), (15, some 28), (16, some 29), (17, some 30), (18, some 31), (19, some 32), (20, some 33), (21, some 34), (22, some 35), (23, some 36), (24, some 37)] ?_
    simp only [List.foldl_cons, List.foldl_nil, Act.put, aL1, aL2, aL3]
    refine tn 25 ?_
    try simp only [Act.put, aL1, aL2, aL3]
    refine tn 26 ?_
    try simp only [Act.put, aL1, aL2, aL3]
    refine skn 2 [(27, some 40), (28, some 41), (29, some 42), (30, some 43), (31, some 44), (32, some 45), (33, some 46), (34, some 47), (35, some 48), (36, some 49), (37, some 50), (38, some 51), (39, some 52), (40, some 53), (41, some 54), (42, some 55), (43, some 56), (44, some 57), (45, some 58), (46, some 59), (47, some 60), (48, some 61)] ?_
    simp only [List.foldl_cons, List.foldl_nil, Act.put, aL1, aL2, aL3]
    refine tn 49 ?_
    try simp only [Act.put, aL1, aL2, aL3]
    refine tn 50 ?_
    try simp only [Act.put, aL1, aL2, aL3]
    refine rdone (NoPanic.normal ?_)
    have HT : Hid (rangeB ⟨err, room, H, K, V⟩ c = true) := Lib.hid (by (try have h3 := H3.out); unfold rangeB; simp only [HOc.out, Int.toNat_natCast, HRr.out]; simp [*])
    go_wp2_with fail
    go_ret
    exact retB_mk HT.out hHeld.below
  · refine tn 7 ?_
    try simp only [Act.put, aL1, aL2, aL3]
    refine tn 8 ?_
    try simp only [Act.put, aL1, aL2, aL3]
    refine tn 9 ?_
    try simp only [Act.put, aL1, aL2, aL3]
    refine tn 10 ?_ (hx := fun wz hSw => by have e4 := hSw.cell 0 4 rfl rfl; go_simp; try with_reducible rfl)
    try simp only [Act.put, aL1, aL2, aL3]
    refine tn 11 ?_
    try simp only [Act.put, aL1, aL2, aL3]
    refine tn 12 ?_
    try simp only [Act.put, aL1, aL2, aL3]
    refine tn 13 ?_
    try simp only [Act.put, aL1, aL2, aL3]
    refine tn 14 ?_ (hx := fun wz hSw => by have e4 := hSw.old HJ 1 rfl; go_simp; try with_reducible rfl)
    try simp only [Act.put, aL1, aL2, aL3]
    refine tn 15 ?_
    try simp only [Act.put, aL1, aL2, aL3]
    refine tn 16 ?_ (hx := fun wz hSw => by have e4 := hSw.cell 0 0 rfl rfl; go_simp; try with_reducible rfl)
    try simp only [Act.put, aL1, aL2, aL3]
    refine tn 17 ?_
    try simp only [Act.put, aL1, aL2, aL3]
    refine tn 18 ?_ (hx := fun wz hSw => by have e4 := (hSw.below.cell hbr).trans HRM.out; go_simp; try with_reducible rfl)
    try simp only [Act.put, aL1, aL2, aL3]
    refine tn 19 ?_
    try simp only [Act.put, aL1, aL2, aL3]
    refine tn 20 ?_
    try simp only [Act.put, aL1, aL2, aL3]
    refine tn 21 ?_
    try simp only [Act.put, aL1, aL2, aL3]
    refine tn 22 ?_ (hx := fun wz hSw => by have e4 := hSw.old HJ 0 rfl; go_simp; try with_reducible rfl)
    try simp only [Act.put, aL1, aL2, aL3]
    refine tn 23 ?_
    try simp only [Act.put, aL1, aL2, aL3]
    by_cases h2 : r + err < c.store
    · refine tn 24 ?_
      try simp only [Act.put, aL1, aL2, aL3]
      refine tn 25 ?_
      try simp only [Act.put, aL1, aL2, aL3]
      refine tn 26 ?_
      try simp only [Act.put, aL1, aL2, aL3]
      refine skn 2 [(27, some 40), (28, some 41), (29, some 42), (30, some 43), (31, some 44), (32, some 45), (33, some 46), (34, some 47), (35, some 48), (36, some 49), (37, some 50), (38, some 51), (39, some 52), (40, some 53), (41, some 54), (42, some 55), (43, some 56), (44, some 57), (45, some 58), (46, some 59), (47, some 60), (48, some 61)] ?_
      simp only [List.foldl_cons, List.foldl_nil, Act.put, aL1, aL2, aL3]
      refine tn 49 ?_
      try simp only [Act.put, aL1, aL2, aL3]
      refine tn 50 ?_
      try simp only [Act.put, aL1, aL2, aL3]
      refine rdone (NoPanic.normal ?_)
      have HT : Hid (rangeB ⟨err, room, H, K, V⟩ c = true) := Lib.hid (by (try have h3 := H3.out); unfold rangeB; simp only [HOc.out, Int.toNat_natCast, HRr.out]; simp [*])
      go_wp2_with fail
      go_ret
      exact retB_mk HT.out hHeld.below
    · refine tn 24 ?_
      try simp only [Act.put, aL1, aL2, aL3]
      refine tn 25 ?_
      try simp only [Act.put, aL1, aL2, aL3]
      refine tn 26 ?_
      try simp only [Act.put, aL1, aL2, aL3]
      refine tn 27 ?_
      try simp only [Act.put, aL1, aL2, aL3]
      refine tn 28 ?_ (hx := fun wz hSw => by have e4 := hSw.cell 0 0 rfl rfl; go_simp; try with_reducible rfl)
      try simp only [Act.put, aL1, aL2, aL3]
      by_cases h3 : j = 0
      · have q1 : ((j : Int) == 0) = true := by rw [beq_iff_eq]; omega
        have q2 : decide ((j : Int) = 0) = true := decide_eq_true (by omega)
        have H3 := Lib.hid h3
        clear h3
        refine tn 29 ?_
        try simp only [Act.put, aL1, aL2, aL3]
        refine tn 30 ?_
        try simp only [Act.put, aL1, aL2, aL3]
        refine tn 31 ?_
        try simp only [Act.put, aL1, aL2, aL3]
        refine tn 32 ?_ (hx := fun wz hSw => by have e4 := hSw.cell 0 2 rfl rfl; go_simp; try with_reducible rfl)
        try simp only [Act.put, aL1, aL2, aL3]
        refine tn 33 ?_
        try simp only [Act.put, aL1, aL2, aL3]
        refine tn 34 ?_
        try simp only [Act.put, aL1, aL2, aL3]
        refine tn 35 ?_
        try simp only [Act.put, aL1, aL2, aL3]
        refine tn 36 ?_ (hx := fun wz hSw => by have e4 := hSw.old HJ 0 rfl; go_simp; try with_reducible rfl)
        try simp only [Act.put, aL1, aL2, aL3]
        refine tn 37 ?_
        try simp only [Act.put, aL1, aL2, aL3]
        by_cases h4 : c.inn < -err
        · refine tn 38 ?_
          try simp only [Act.put, aL1, aL2, aL3]
          refine tn 39 ?_
          try simp only [Act.put, aL1, aL2, aL3]
          refine skn 4 [(40, some 53), (41, some 54), (42, some 55), (43, some 56), (44, some 57), (45, some 58), (46, some 59)] ?_
          simp only [List.foldl_cons, List.foldl_nil, Act.put, aL1, aL2, aL3]
          refine tn 47 ?_
          try simp only [Act.put, aL1, aL2, aL3]
          refine tn 48 ?_
          try simp only [Act.put, aL1, aL2, aL3]
          refine tn 49 ?_
          try simp only [Act.put, aL1, aL2, aL3]
          refine tn 50 ?_
          try simp only [Act.put, aL1, aL2, aL3]
          refine rdone (NoPanic.normal ?_)
          have HT : Hid (rangeB ⟨err, room, H, K, V⟩ c = true) := Lib.hid (by (try have h3 := H3.out); unfold rangeB; simp only [HOc.out, Int.toNat_natCast, HRr.out]; simp [*])
          go_wp2_with fail
          go_ret
          exact retB_mk HT.out hHeld.below
        · refine tn 38 ?_
          try simp only [Act.put, aL1, aL2, aL3]
          refine tn 39 ?_
          try simp only [Act.put, aL1, aL2, aL3]
          refine tn 40 ?_
          try simp only [Act.put, aL1, aL2, aL3]
          refine tn 41 ?_ (hx := fun wz hSw => by have e4 := hSw.cell 0 2 rfl rfl; go_simp; try with_reducible rfl)
          try simp only [Act.put, aL1, aL2, aL3]
          refine tn 42 ?_
          try simp only [Act.put, aL1, aL2, aL3]
          refine tn 43 ?_
          try simp only [Act.put, aL1, aL2, aL3]
          refine tn 44 ?_
          try simp only [Act.put, aL1, aL2, aL3]
          refine tn 45 ?_ (hx := fun wz hSw => by have e4 := hSw.old HJ 0 rfl; go_simp; try with_reducible rfl)
          try simp only [Act.put, aL1, aL2, aL3]
          by_cases h5 : err < c.inn
          · refine tn 46 ?_
            try simp only [Act.put, aL1, aL2, aL3]
            refine tn 47 ?_
            try simp only [Act.put, aL1, aL2, aL3]
            refine tn 48 ?_
            try simp only [Act.put, aL1, aL2, aL3]
            refine tn 49 ?_
            try simp only [Act.put, aL1, aL2, aL3]
            refine tn 50 ?_
            try simp only [Act.put, aL1, aL2, aL3]
            refine rdone (NoPanic.normal ?_)
            have HT : Hid (rangeB ⟨err, room, H, K, V⟩ c = true) := Lib.hid (by (try have h3 := H3.out); unfold rangeB; simp only [HOc.out, Int.toNat_natCast, HRr.out]; simp [*])
            go_wp2_with fail
            go_ret
            exact retB_mk HT.out hHeld.below
          · refine tn 46 ?_
            try simp only [Act.put, aL1, aL2, aL3]
            refine tn 47 ?_
            try simp only [Act.put, aL1, aL2, aL3]
            refine tn 48 ?_
            try simp only [Act.put, aL1, aL2, aL3]
            refine tn 49 ?_
            try simp only [Act.put, aL1, aL2, aL3]
            refine tn 50 ?_
            try simp only [Act.put, aL1, aL2, aL3]
            refine rdone (NoPanic.normal ?_)
            have HT : Hid (rangeB ⟨err, room, H, K, V⟩ c = false) := Lib.hid (by (try have h3 := H3.out); unfold rangeB; simp only [HOc.out, Int.toNat_natCast, HRr.out]; simp [*])
            go_wp2_with fail
            go_ret
            exact retB_mk HT.out hHeld.below
      · have q1 : ((j : Int) == 0) = false := by rw [beq_eq_false_iff_ne]; omega
        have q2 : decide ((j : Int) = 0) = false := decide_eq_false (by omega)
        have H3 := Lib.hid h3
        clear h3
        refine tn 29 ?_
        try simp only [Act.put, aL1, aL2, aL3]
        refine tn 30 ?_
        try simp only [Act.put, aL1, aL2, aL3]
        refine skn 3 [(31, some 44), (32, some 45), (33, some 46), (34, some 47), (35, some 48), (36, some 49), (37, some 50), (38, some 51), (39, some 52), (40, some 53), (41, some 54), (42, some 55), (43, some 56), (44, some 57), (45, some 58), (46, some 59), (47, some 60)] ?_
        simp only [List.foldl_cons, List.foldl_nil, Act.put, aL1, aL2, aL3]
        refine tn 48 ?_
        try simp only [Act.put, aL1, aL2, aL3]
        refine tn 49 ?_
        try simp only [Act.put, aL1, aL2, aL3]
        refine tn 50 ?_
        try simp only [Act.put, aL1, aL2, aL3]
        refine rdone (NoPanic.normal ?_)
        have HT : Hid (rangeB ⟨err, room, H, K, V⟩ c = false) := Lib.hid (by (try have h3 := H3.out); unfold rangeB; simp only [HOc.out, Int.toNat_natCast, HRr.out]; simp [*])
        go_wp2_with fail
        go_ret
        exact retB_mk HT.out hHeld.below
set_option maxRecDepth 100000 in
set_option maxHeartbeats 4000000 in
theorem disagree_any (jb mb : Nat) (ar ap : Option Addr) (cr cp : Nat) (err : Int) (room ps : List Int) (pubs : List PublicV) (H : Int → Option PublicV) (K : CV → Bool) (V : PV → Bool) (c d : CV) (w : World) (hJ : JudgeAt jb mb ar ap cr cp err room ps pubs w) (hc : CNum c) (hd : CNum d) : Calls Tryz.prog 58 #[.pointer (some ⟨jb, 0, none⟩), .agg #[.int .i64 c.office, .int .i64 c.hour, .int .i64 c.inn, .int .i64 c.out, .int .i64 c.store, .string c.prev, .int .i64 c.e, .int .i64 c.s], .agg #[.int .i64 d.office, .int .i64 d.hour, .int .i64 d.inn, .int .i64 d.out, .int .i64 d.store, .string d.prev, .int .i64 d.e, .int .i64 d.s]] w (RetB (disB ⟨err, room, H, K, V⟩ c d) w) := by
  have HJ := Lib.hid hJ.row
  have hjl := blk_lt hJ.row
  have he := hJ.e0
  unfold CNum at hc hd
  have W1 : IntKind.i64.wrap (c.out - d.inn) = c.out - d.inn := IntWalk.i64_in _ (by omega)
  have W2 : IntKind.i64.wrap (2 * err) = 2 * err := IntWalk.i64_in _ (by omega)
  have W3 : IntKind.i64.wrap (-2 * err) = -2 * err := IntWalk.i64_in _ (by omega)
  have W4 : IntKind.i64.wrap (-(2 * err)) = -(2 * err) := IntWalk.i64_in _ (by omega)
  have s1 : (w.alloc (.cells #[.int .i64 c.office, .int .i64 c.hour, .int .i64 c.inn, .int .i64 c.out, .int .i64 c.store, .string c.prev, .int .i64 c.e, .int .i64 c.s] 63)).heap.size = w.heap.size + 1 := by simp
  have HR : Hid (RowsS w [(w.heap.size, .cells #[.int .i64 c.office, .int .i64 c.hour, .int .i64 c.inn, .int .i64 c.out, .int .i64 c.store, .string c.prev, .int .i64 c.e, .int .i64 c.s] 63), ((w.heap.size + 1), .cells #[.int .i64 d.office, .int .i64 d.hour, .int .i64 d.inn, .int .i64 d.out, .int .i64 d.store, .string d.prev, .int .i64 d.e, .int .i64 d.s] 63)] ((w.alloc (.cells #[.int .i64 c.office, .int .i64 c.hour, .int .i64 c.inn, .int .i64 c.out, .int .i64 c.store, .string c.prev, .int .i64 c.e, .int .i64 c.s] 63)).alloc (.cells #[.int .i64 d.office, .int .i64 d.hour, .int .i64 d.inn, .int .i64 d.out, .int .i64 d.store, .string d.prev, .int .i64 d.e, .int .i64 d.s] 63))) := Lib.hid (by
    have := ((RowsS.nil w).alloc (.cells #[.int .i64 c.office, .int .i64 c.hour, .int .i64 c.inn, .int .i64 c.out, .int .i64 c.store, .string c.prev, .int .i64 c.e, .int .i64 c.s] 63)).alloc (.cells #[.int .i64 d.office, .int .i64 d.hour, .int .i64 d.inn, .int .i64 d.out, .int .i64 d.store, .string d.prev, .int .i64 d.e, .int .i64 d.s] 63)
    rw [s1] at this
    exact this)
  clear hJ s1
  by_cases h1 : c.hour = d.hour
  · have q1 : (c.hour == d.hour) = true := by rw [beq_iff_eq]; exact h1
    have q2 : decide (c.hour = d.hour) = true := decide_eq_true h1
    obtain ⟨x, hx⟩ : ∃ x, x = c.hour := ⟨_, rfl⟩
    by_cases h2 : 2 * err < c.out - d.inn
    · clear h1
      have HT : Hid (disB ⟨err, room, H, K, V⟩ c d = true) := Lib.hid (by unfold disB; simp [*])
      go_enter Tryz.func58, Tryz.ntmps58
      go_upto_region 1 with fail
      generalize (w.alloc (.cells #[.int .i64 c.office, .int .i64 c.hour, .int .i64 c.inn, .int .i64 c.out, .int .i64 c.store, .string c.prev, .int .i64 c.e, .int .i64 c.s] 63)).alloc (.cells #[.int .i64 d.office, .int .i64 d.hour, .int .i64 d.inn, .int .i64 d.out, .int .i64 d.store, .string d.prev, .int .i64 d.e, .int .i64 d.s] 63) = w0 at *
      have c3 := rowN (HR.out.rows 0 _ rfl) 3 (.int .i64 c.out) rfl
      have c1 := rowN (HR.out.rows 0 _ rfl) 1 (.int .i64 c.hour) rfl
      have d2 := rowN (HR.out.rows 1 _ rfl) 2 (.int .i64 d.inn) rfl
      have d1 := rowN (HR.out.rows 1 _ rfl) 1 (.int .i64 d.hour) rfl
      have j0 := rowN (blk_below HJ.out HR.out.below hjl) 0 (.int .i64 err) rfl
      dsimp only at c3 c1 d2 d1
      clear HJ
      go_wp2_with fail
      go_ret
      exact retB_mk (by first | exact HT.out | (rw [HT.out]; simp [*])) HR.out.below
    · by_cases h3 : c.out - d.inn < -(2 * err)
      · have h4 : c.out - d.inn < -2 * err := by omega
        clear h1
        have HT : Hid (disB ⟨err, room, H, K, V⟩ c d = true) := Lib.hid (by unfold disB; simp [*])
        go_enter Tryz.func58, Tryz.ntmps58
        go_upto_region 1 with fail
        generalize (w.alloc (.cells #[.int .i64 c.office, .int .i64 c.hour, .int .i64 c.inn, .int .i64 c.out, .int .i64 c.store, .string c.prev, .int .i64 c.e, .int .i64 c.s] 63)).alloc (.cells #[.int .i64 d.office, .int .i64 d.hour, .int .i64 d.inn, .int .i64 d.out, .int .i64 d.store, .string d.prev, .int .i64 d.e, .int .i64 d.s] 63) = w0 at *
        have c3 := rowN (HR.out.rows 0 _ rfl) 3 (.int .i64 c.out) rfl
        have c1 := rowN (HR.out.rows 0 _ rfl) 1 (.int .i64 c.hour) rfl
        have d2 := rowN (HR.out.rows 1 _ rfl) 2 (.int .i64 d.inn) rfl
        have d1 := rowN (HR.out.rows 1 _ rfl) 1 (.int .i64 d.hour) rfl
        have j0 := rowN (blk_below HJ.out HR.out.below hjl) 0 (.int .i64 err) rfl
        dsimp only at c3 c1 d2 d1
        clear HJ
        go_wp2_with fail
        go_ret
        exact retB_mk (by first | exact HT.out | (rw [HT.out]; simp [*])) HR.out.below
      · have h4 : ¬ c.out - d.inn < -2 * err := by omega
        clear h1
        have HT : Hid (disB ⟨err, room, H, K, V⟩ c d = false) := Lib.hid (by unfold disB; simp [*])
        go_enter Tryz.func58, Tryz.ntmps58
        go_upto_region 1 with fail
        generalize (w.alloc (.cells #[.int .i64 c.office, .int .i64 c.hour, .int .i64 c.inn, .int .i64 c.out, .int .i64 c.store, .string c.prev, .int .i64 c.e, .int .i64 c.s] 63)).alloc (.cells #[.int .i64 d.office, .int .i64 d.hour, .int .i64 d.inn, .int .i64 d.out, .int .i64 d.store, .string d.prev, .int .i64 d.e, .int .i64 d.s] 63) = w0 at *
        have c3 := rowN (HR.out.rows 0 _ rfl) 3 (.int .i64 c.out) rfl
        have c1 := rowN (HR.out.rows 0 _ rfl) 1 (.int .i64 c.hour) rfl
        have d2 := rowN (HR.out.rows 1 _ rfl) 2 (.int .i64 d.inn) rfl
        have d1 := rowN (HR.out.rows 1 _ rfl) 1 (.int .i64 d.hour) rfl
        have j0 := rowN (blk_below HJ.out HR.out.below hjl) 0 (.int .i64 err) rfl
        dsimp only at c3 c1 d2 d1
        clear HJ
        go_wp2_with fail
        go_ret
        exact retB_mk (by first | exact HT.out | (rw [HT.out]; simp [*])) HR.out.below
  · have q1 : (c.hour == d.hour) = false := by rw [beq_eq_false_iff_ne]; exact h1
    have q2 : decide (c.hour = d.hour) = false := decide_eq_false h1
    have HT : Hid (disB ⟨err, room, H, K, V⟩ c d = false) := Lib.hid (by unfold disB; simp [*])
    go_enter Tryz.func58, Tryz.ntmps58
    go_upto_region 1 with fail
    generalize (w.alloc (.cells #[.int .i64 c.office, .int .i64 c.hour, .int .i64 c.inn, .int .i64 c.out, .int .i64 c.store, .string c.prev, .int .i64 c.e, .int .i64 c.s] 63)).alloc (.cells #[.int .i64 d.office, .int .i64 d.hour, .int .i64 d.inn, .int .i64 d.out, .int .i64 d.store, .string d.prev, .int .i64 d.e, .int .i64 d.s] 63) = w0 at *
    have c3 := rowN (HR.out.rows 0 _ rfl) 3 (.int .i64 c.out) rfl
    have c1 := rowN (HR.out.rows 0 _ rfl) 1 (.int .i64 c.hour) rfl
    have d2 := rowN (HR.out.rows 1 _ rfl) 2 (.int .i64 d.inn) rfl
    have d1 := rowN (HR.out.rows 1 _ rfl) 1 (.int .i64 d.hour) rfl
    have j0 := rowN (blk_below HJ.out HR.out.below hjl) 0 (.int .i64 err) rfl
    dsimp only at c3 c1 d2 d1
    clear HJ
    go_wp2_with fail
    go_ret
    exact retB_mk (by first | exact HT.out | (rw [HT.out]; simp [*])) HR.out.below
end Go.Proofs.YtjbjpkhibcnenaaGreatDoor

