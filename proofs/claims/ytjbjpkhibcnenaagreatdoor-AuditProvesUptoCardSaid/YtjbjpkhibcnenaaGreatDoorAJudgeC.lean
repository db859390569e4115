/- The judge of package audit: breaks, counts, promised. -/
import Derived.Test.YtjbjpkhibcnenaaGreatDoorAJudge
namespace Go.Proofs.YtjbjpkhibcnenaaGreatDoor
open Go.RowKit
set_option maxRecDepth 100000 in
set_option maxHeartbeats 4000000 in
theorem breaks_any (jb mb : Nat) (ar ap : Option Addr) (cr cp : Nat) (err : Int) (room ps : List Int) (pubs : List PublicV) (H : Int → Option PublicV) (K : CV → Bool) (V : PV → Bool) (c d : CV) (p : PV) (w : World) (hJ : JudgeAt jb mb ar ap cr cp err room ps pubs w) (hc : CNum c) (hd : CNum d) (hp : -1152921504606846976 ≤ p.litres ∧ p.litres ≤ 1152921504606846976) : Calls Tryz.prog 60 #[.pointer (some ⟨jb, 0, none⟩), .agg #[.int .i64 c.office, .int .i64 c.hour, .int .i64 c.inn, .int .i64 c.out, .int .i64 c.store, .string c.prev, .int .i64 c.e, .int .i64 c.s], .agg #[.int .i64 d.office, .int .i64 d.hour, .int .i64 d.inn, .int .i64 d.out, .int .i64 d.store, .string d.prev, .int .i64 d.e, .int .i64 d.s], .agg #[.int .i64 p.office, .int .i64 p.since, .int .i64 p.till, .int .i64 p.litres, .int .i64 p.e, .int .i64 p.s]] w (RetB (brkB ⟨err, room, H, K, V⟩ p c d) w) := by
  have HJ := Lib.hid hJ.row
  have hjl := blk_lt hJ.row
  have he := hJ.e0
  unfold CNum at hc hd
  have W1 : IntKind.i64.wrap (d.out - c.out) = d.out - c.out := IntWalk.i64_in _ (by omega)
  have W2 : IntKind.i64.wrap (2 * err) = 2 * err := IntWalk.i64_in _ (by omega)
  have W3 : IntKind.i64.wrap (p.litres - 2 * err) = p.litres - 2 * err := IntWalk.i64_in _ (by omega)
  have s1 : (w.alloc (.cells #[.int .i64 c.office, .int .i64 c.hour, .int .i64 c.inn, .int .i64 c.out, .int .i64 c.store, .string c.prev, .int .i64 c.e, .int .i64 c.s] 63)).heap.size = w.heap.size + 1 := by simp
  have s2 : ((w.alloc (.cells #[.int .i64 c.office, .int .i64 c.hour, .int .i64 c.inn, .int .i64 c.out, .int .i64 c.store, .string c.prev, .int .i64 c.e, .int .i64 c.s] 63)).alloc (.cells #[.int .i64 d.office, .int .i64 d.hour, .int .i64 d.inn, .int .i64 d.out, .int .i64 d.store, .string d.prev, .int .i64 d.e, .int .i64 d.s] 63)).heap.size = w.heap.size + 1 + 1 := by simp
  have HR : Hid (RowsS w [(w.heap.size, .cells #[.int .i64 c.office, .int .i64 c.hour, .int .i64 c.inn, .int .i64 c.out, .int .i64 c.store, .string c.prev, .int .i64 c.e, .int .i64 c.s] 63), ((w.heap.size + 1), .cells #[.int .i64 d.office, .int .i64 d.hour, .int .i64 d.inn, .int .i64 d.out, .int .i64 d.store, .string d.prev, .int .i64 d.e, .int .i64 d.s] 63), ((w.heap.size + 1 + 1), .cells #[.int .i64 p.office, .int .i64 p.since, .int .i64 p.till, .int .i64 p.litres, .int .i64 p.e, .int .i64 p.s] 38)] (((w.alloc (.cells #[.int .i64 c.office, .int .i64 c.hour, .int .i64 c.inn, .int .i64 c.out, .int .i64 c.store, .string c.prev, .int .i64 c.e, .int .i64 c.s] 63)).alloc (.cells #[.int .i64 d.office, .int .i64 d.hour, .int .i64 d.inn, .int .i64 d.out, .int .i64 d.store, .string d.prev, .int .i64 d.e, .int .i64 d.s] 63)).alloc (.cells #[.int .i64 p.office, .int .i64 p.since, .int .i64 p.till, .int .i64 p.litres, .int .i64 p.e, .int .i64 p.s] 38))) := Lib.hid (by
    have := (((RowsS.nil w).alloc (.cells #[.int .i64 c.office, .int .i64 c.hour, .int .i64 c.inn, .int .i64 c.out, .int .i64 c.store, .string c.prev, .int .i64 c.e, .int .i64 c.s] 63)).alloc (.cells #[.int .i64 d.office, .int .i64 d.hour, .int .i64 d.inn, .int .i64 d.out, .int .i64 d.store, .string d.prev, .int .i64 d.e, .int .i64 d.s] 63)).alloc (.cells #[.int .i64 p.office, .int .i64 p.since, .int .i64 p.till, .int .i64 p.litres, .int .i64 p.e, .int .i64 p.s] 38)
    rw [s1, s2] at this
    exact this)
  clear hJ s1 s2
  go_enter Tryz.func60, Tryz.ntmps60
  go_upto_region 1 with fail
  generalize ((w.alloc (.cells #[.int .i64 c.office, .int .i64 c.hour, .int .i64 c.inn, .int .i64 c.out, .int .i64 c.store, .string c.prev, .int .i64 c.e, .int .i64 c.s] 63)).alloc (.cells #[.int .i64 d.office, .int .i64 d.hour, .int .i64 d.inn, .int .i64 d.out, .int .i64 d.store, .string d.prev, .int .i64 d.e, .int .i64 d.s] 63)).alloc (.cells #[.int .i64 p.office, .int .i64 p.since, .int .i64 p.till, .int .i64 p.litres, .int .i64 p.e, .int .i64 p.s] 38) = w0 at *
  refine wp_region_noPanic ?_
  refine wp_region_held_drew (S := fun cw => RowsS w [(w.heap.size, .cells #[.int .i64 c.office, .int .i64 c.hour, .int .i64 c.inn, .int .i64 c.out, .int .i64 c.store, .string c.prev, .int .i64 c.e, .int .i64 c.s] 63), ((w.heap.size + 1), .cells #[.int .i64 d.office, .int .i64 d.hour, .int .i64 d.inn, .int .i64 d.out, .int .i64 d.store, .string d.prev, .int .i64 d.e, .int .i64 d.s] 63), ((w.heap.size + 1 + 1), .cells #[.int .i64 p.office, .int .i64 p.since, .int .i64 p.till, .int .i64 p.litres, .int .i64 p.e, .int .i64 p.s] 38)] cw) (by kernel_rfl) (HR.out.drew) (fun hHeld => ?_)
  refine tn 0 ?_
  try simp only [Act.put, aL1, aL2, aL3]
  refine tn 1 ?_ (hx := fun wz hSw => by have e4 := hSw.cell 0 1 rfl rfl; go_simp; try with_reducible rfl)
  try simp only [Act.put, aL1, aL2, aL3]
  refine tn 2 ?_
  try simp only [Act.put, aL1, aL2, aL3]
  refine tn 3 ?_ (hx := fun wz hSw => by have e4 := hSw.cell 2 1 rfl rfl; go_simp; try with_reducible rfl)
  try simp only [Act.put, aL1, aL2, aL3]
  by_cases h1 : c.hour = p.since
  · have q1a : (c.hour == p.since) = true := by rw [beq_iff_eq]; exact h1
    have q1b : decide (c.hour = p.since) = true := decide_eq_true h1
    have H1 := Lib.hid h1
    clear h1
    refine tn 4 ?_
    try simp only [Act.put, aL1, aL2, aL3]
    refine tn 5 ?_
    try simp only [Act.put, aL1, aL2, aL3]
    refine tn 6 ?_
    try simp only [Act.put, aL1, aL2, aL3]
    refine tn 7 ?_ (hx := fun wz hSw => by have e4 := hSw.cell 1 1 rfl rfl; go_simp; try with_reducible rfl)
    try simp only [Act.put, aL1, aL2, aL3]
    refine tn 8 ?_
    try simp only [Act.put, aL1, aL2, aL3]
    refine tn 9 ?_ (hx := fun wz hSw => by have e4 := hSw.cell 2 2 rfl rfl; go_simp; try with_reducible rfl)
    try simp only [Act.put, aL1, aL2, aL3]
    by_cases h2 : d.hour = p.till
    · have q2a : (d.hour == p.till) = true := by rw [beq_iff_eq]; exact h2
      have q2b : decide (d.hour = p.till) = true := decide_eq_true h2
      have H2 := Lib.hid h2
      clear h2
      refine tn 10 ?_
      try simp only [Act.put, aL1, aL2, aL3]
      refine tn 11 ?_
      try simp only [Act.put, aL1, aL2, aL3]
      refine tn 12 ?_
      try simp only [Act.put, aL1, aL2, aL3]
      refine tn 13 ?_
      try simp only [Act.put, aL1, aL2, aL3]
      refine tn 14 ?_ (hx := fun wz hSw => by have e4 := hSw.cell 2 1 rfl rfl; go_simp; try with_reducible rfl)
      try simp only [Act.put, aL1, aL2, aL3]
      refine tn 15 ?_
      try simp only [Act.put, aL1, aL2, aL3]
      refine tn 16 ?_ (hx := fun wz hSw => by have e4 := hSw.cell 2 2 rfl rfl; go_simp; try with_reducible rfl)
      try simp only [Act.put, aL1, aL2, aL3]
      by_cases h3 : p.since < p.till
      · refine tn 17 ?_
        try simp only [Act.put, aL1, aL2, aL3]
        refine tn 18 ?_
        try simp only [Act.put, aL1, aL2, aL3]
        refine tn 19 ?_
        try simp only [Act.put, aL1, aL2, aL3]
        refine tn 20 ?_
        try simp only [Act.put, aL1, aL2, aL3]
        refine tn 21 ?_ (hx := fun wz hSw => by have e4 := hSw.cell 1 3 rfl rfl; go_simp; try with_reducible rfl)
        try simp only [Act.put, aL1, aL2, aL3]
        refine tn 22 ?_
        try simp only [Act.put, aL1, aL2, aL3]
        refine tn 23 ?_ (hx := fun wz hSw => by have e4 := hSw.cell 0 3 rfl rfl; go_simp; try with_reducible rfl)
        try simp only [Act.put, aL1, aL2, aL3]
        refine tn 24 ?_
        try simp only [Act.put, aL1, aL2, aL3]
        refine tn 25 ?_
        try simp only [Act.put, aL1, aL2, aL3]
        refine tn 26 ?_ (hx := fun wz hSw => by have e4 := hSw.cell 2 3 rfl rfl; go_simp; try with_reducible rfl)
        try simp only [Act.put, aL1, aL2, aL3]
        refine tn 27 ?_
        try simp only [Act.put, aL1, aL2, aL3]
        refine tn 28 ?_
        try simp only [Act.put, aL1, aL2, aL3]
        refine tn 29 ?_
        try simp only [Act.put, aL1, aL2, aL3]
        refine tn 30 ?_ (hx := fun wz hSw => by have e4 := hSw.old HJ 0 rfl; go_simp; try with_reducible rfl)
        try simp only [Act.put, aL1, aL2, aL3]
        refine tn 31 ?_
        try simp only [Act.put, aL1, aL2, aL3]
        refine tn 32 ?_
        try simp only [Act.put, aL1, aL2, aL3]
        by_cases h4 : d.out - c.out < p.litres - 2 * err
        · refine tn 33 ?_
          try simp only [Act.put, aL1, aL2, aL3]
          refine tn 34 ?_
          try simp only [Act.put, aL1, aL2, aL3]
          refine tn 35 ?_
          try simp only [Act.put, aL1, aL2, aL3]
          refine rdone (NoPanic.normal ?_)
          have HT : Hid (brkB ⟨err, room, H, K, V⟩ p c d = true) := Lib.hid (by (try have h1 := H1.out); (try have h2 := H2.out); unfold brkB; simp [*])
          go_wp2_with fail
          go_ret
          exact retB_mk HT.out hHeld.below
        · refine tn 33 ?_
          try simp only [Act.put, aL1, aL2, aL3]
          refine tn 34 ?_
          try simp only [Act.put, aL1, aL2, aL3]
          refine tn 35 ?_
          try simp only [Act.put, aL1, aL2, aL3]
          refine rdone (NoPanic.normal ?_)
          have HT : Hid (brkB ⟨err, room, H, K, V⟩ p c d = false) := Lib.hid (by (try have h1 := H1.out); (try have h2 := H2.out); unfold brkB; simp [*])
          go_wp2_with fail
          go_ret
          exact retB_mk HT.out hHeld.below
      · refine tn 17 ?_
        try simp only [Act.put, aL1, aL2, aL3]
        refine tn 18 ?_
        try simp only [Act.put, aL1, aL2, aL3]
        refine tn 19 ?_
        try simp only [Act.put, aL1, aL2, aL3]
        refine skn 2 [(20, some 29), (21, some 30), (22, some 31), (23, some 32), (24, some 33), (25, some 34), (26, some 35), (27, some 36), (28, some 37), (29, some 38), (30, some 39), (31, some 40), (32, some 41), (33, some 42)] ?_
        simp only [List.foldl_cons, List.foldl_nil, Act.put, aL1, aL2, aL3]
        refine tn 34 ?_
        try simp only [Act.put, aL1, aL2, aL3]
        refine tn 35 ?_
        try simp only [Act.put, aL1, aL2, aL3]
        refine rdone (NoPanic.normal ?_)
        have HT : Hid (brkB ⟨err, room, H, K, V⟩ p c d = false) := Lib.hid (by (try have h1 := H1.out); (try have h2 := H2.out); unfold brkB; simp [*])
        go_wp2_with fail
        go_ret
        exact retB_mk HT.out hHeld.below
    · have q2a : (d.hour == p.till) = false := by rw [beq_eq_false_iff_ne]; exact h2
      have q2b : decide (d.hour = p.till) = false := decide_eq_false h2
      have H2 := Lib.hid h2
      clear h2
      refine tn 10 ?_
      try simp only [Act.put, aL1, aL2, aL3]
      refine tn 11 ?_
      try simp only [Act.put, aL1, aL2, aL3]
      refine tn 12 ?_
      try simp only [Act.put, aL1, aL2, aL3]
      refine skn 18 [(13, some 22), (14, some 23), (15, some 24), (16, some 25), (17, some 26)] ?_
      simp only [List.foldl_cons, List.foldl_nil, Act.put, aL1, aL2, aL3]
      refine tn 18 ?_
      try simp only [Act.put, aL1, aL2, aL3]
      refine tn 19 ?_
      try simp only [Act.put, aL1, aL2, aL3]
      refine skn 2 [(20, some 29), (21, some 30), (22, some 31), (23, some 32), (24, some 33), (25, some 34), (26, some 35), (27, some 36), (28, some 37), (29, some 38), (30, some 39), (31, some 40), (32, some 41), (33, some 42)] ?_
      simp only [List.foldl_cons, List.foldl_nil, Act.put, aL1, aL2, aL3]
      refine tn 34 ?_
      try simp only [Act.put, aL1, aL2, aL3]
      refine tn 35 ?_
      try simp only [Act.put, aL1, aL2, aL3]
      refine rdone (NoPanic.normal ?_)
      have HT : Hid (brkB ⟨err, room, H, K, V⟩ p c d = false) := Lib.hid (by (try have h1 := H1.out); (try have h2 := H2.out); unfold brkB; simp [*])
      go_wp2_with fail
      go_ret
      exact retB_mk HT.out hHeld.below
  · have q1a : (c.hour == p.since) = false := by rw [beq_eq_false_iff_ne]; exact h1
    have q1b : decide (c.hour = p.since) = false := decide_eq_false h1
    have H1 := Lib.hid h1
    clear h1
    refine tn 4 ?_
    try simp only [Act.put, aL1, aL2, aL3]
    refine tn 5 ?_
    try simp only [Act.put, aL1, aL2, aL3]
    refine skn 25 [(6, some 15), (7, some 16), (8, some 17), (9, some 18), (10, some 19)] ?_
    simp only [List.foldl_cons, List.foldl_nil, Act.put, aL1, aL2, aL3]
    refine tn 11 ?_
    try simp only [Act.put, aL1, aL2, aL3]
    refine tn 12 ?_
    try simp only [Act.put, aL1, aL2, aL3]
    refine skn 18 [(13, some 22), (14, some 23), (15, some 24), (16, some 25), (17, some 26)] ?_
    simp only [List.foldl_cons, List.foldl_nil, Act.put, aL1, aL2, aL3]
    refine tn 18 ?_
    try simp only [Act.put, aL1, aL2, aL3]
    refine tn 19 ?_
    try simp only [Act.put, aL1, aL2, aL3]
    refine skn 2 [(20, some 29), (21, some 30), (22, some 31), (23, some 32), (24, some 33), (25, some 34), (26, some 35), (27, some 36), (28, some 37), (29, some 38), (30, some 39), (31, some 40), (32, some 41), (33, some 42)] ?_
    simp only [List.foldl_cons, List.foldl_nil, Act.put, aL1, aL2, aL3]
    refine tn 34 ?_
    try simp only [Act.put, aL1, aL2, aL3]
    refine tn 35 ?_
    try simp only [Act.put, aL1, aL2, aL3]
    refine rdone (NoPanic.normal ?_)
    have HT : Hid (brkB ⟨err, room, H, K, V⟩ p c d = false) := Lib.hid (by (try have h1 := H1.out); (try have h2 := H2.out); unfold brkB; simp [*])
    go_wp2_with fail
    go_ret
    exact retB_mk HT.out hHeld.below
/-- a claim counts -/
def kB (ps : List Int) (c : CV) : Bool := officeB c.office && decide (0 ≤ c.hour) && decide (c.hour ≤ 16777216) && withinB c.inn && withinB c.out && withinB c.store && decide (VouchedC ((ps[c.office.toNat]?).getD 0) c)
/-- a promise counts -/
def vB (ps : List Int) (p : PV) : Bool := officeB p.office && withinB p.litres && decide (VouchedP ((ps[p.office.toNat]?).getD 0) p)
theorem kB_num {ps : List Int} {c : CV} (h : kB ps c = true) : CNum c ∧ (0 ≤ c.office ∧ c.office < 3) ∧ 0 ≤ c.hour ∧ c.hour ≤ 16777216 := by
  unfold kB officeB withinB at h
  simp only [Bool.and_eq_true, decide_eq_true_eq] at h
  obtain ⟨⟨⟨⟨⟨⟨h1, h2⟩, h3⟩, h4⟩, h5⟩, h6⟩, _⟩ := h
  exact ⟨⟨h4, h5, h6⟩, h1, h2, h3⟩
theorem vB_num {ps : List Int} {p : PV} (h : vB ps p = true) : (-1152921504606846976 ≤ p.litres ∧ p.litres ≤ 1152921504606846976) ∧ (0 ≤ p.office ∧ p.office < 3) := by
  unfold vB officeB withinB at h
  simp only [Bool.and_eq_true, decide_eq_true_eq] at h
  exact ⟨h.1.2, h.1.1⟩
set_option maxRecDepth 100000 in
set_option maxHeartbeats 8000000 in
theorem counts_any (jb mb : Nat) (ar ap : Option Addr) (cr cp : Nat) (err : Int) (room ps : List Int) (pubs : List PublicV) (c : CV) (w : World) (hJ : JudgeAt jb mb ar ap cr cp err room ps pubs w) (hO : COk c) (hpv : c.prev.size ≤ 2000000) (hg : Glob w) (hml : MLen w) : Calls Tryz.prog 33 #[.pointer (some ⟨jb, 0, none⟩), .agg #[.int .i64 c.office, .int .i64 c.hour, .int .i64 c.inn, .int .i64 c.out, .int .i64 c.store, .string c.prev, .int .i64 c.e, .int .i64 c.s]] w (RetB (kB ps c) w) := by
  have HJ := Lib.hid hJ.row
  have hjl := blk_lt hJ.row
  by_cases h0 : 0 ≤ c.office ∧ c.office < 3
  · obtain ⟨j, ho⟩ : ∃ j : Nat, c.office = (j : Int) := ⟨c.office.toNat, by omega⟩
    have hj : j < 3 := by omega
    obtain ⟨x, hx⟩ : ∃ x, ps[j]? = some x := ⟨_, List.getElem?_eq_getElem (by rw [hJ.lp]; exact hj)⟩
    obtain ⟨b, o, cs, rfl, hbr, -, hrg, rfl, hxI⟩ := hJ.lpubs.at hx
    have HPM : Hid (w.cell? ⟨b, o + j, none⟩ = some (.int .i64 x)) := Lib.hid (by have := hrg 0 _ rfl; rw [Nat.mul_one, Nat.add_zero] at this; exact this)
    have HCo : Hid (∀ w0, Below w.heap.size w w0 → Calls Tryz.prog 32 #[.pointer (some ⟨jb, 0, none⟩), .int .i64 (j : Int)] w0 fun e w' => e = .returned (.bool true) ∧ w0 = w') := Lib.hid (fun w0 hb => by have h := office_any jb mb ar (some ⟨b, o, none⟩) cr cp err room ps pubs (j : Int) w0 (hJ.below hb); rw [officeB_t ⟨by omega, by omega⟩] at h; exact h)
    have HO : Hid (officeB c.office = true) := Lib.hid (officeB_t h0)
    have HXP : Hid ((ps[c.office.toNat]?).getD 0 = x) := Lib.hid (by rw [ho, Int.toNat_natCast, hx]; rfl)
    have h00 : (j : Int) < 3 := by omega
    have HR := Lib.hid ((RowsS.nil w).alloc (.cells #[.int .i64 (j : Int), .int .i64 c.hour, .int .i64 c.inn, .int .i64 c.out, .int .i64 c.store, .string c.prev, .int .i64 c.e, .int .i64 c.s] 63))
    rw [ho]
    have HOO := Lib.hid ho
    clear hJ hrg hx h0
    go_enter Tryz.func33, Tryz.ntmps33
    go_upto_region 1 with fail
    generalize w.alloc (.cells #[.int .i64 (j : Int), .int .i64 c.hour, .int .i64 c.inn, .int .i64 c.out, .int .i64 c.store, .string c.prev, .int .i64 c.e, .int .i64 c.s] 63) = wa at *
    clear ho
    refine wp_region_noPanic ?_
    refine wp_region_held_drew (S := fun cw => RowsS w [(w.heap.size, .cells #[.int .i64 (j : Int), .int .i64 c.hour, .int .i64 c.inn, .int .i64 c.out, .int .i64 c.store, .string c.prev, .int .i64 c.e, .int .i64 c.s] 63)] cw) (by kernel_rfl) (HR.out.drew) (fun hHeld => ?_)
    refine tn 0 ?_
    try simp only [Act.put, aL1, aL2, aL3]
    refine tn 1 ?_
    try simp only [Act.put, aL1, aL2, aL3]
    refine tn 2 ?_ (hx := fun wz hSw => by have e4 := hSw.cell 0 0 rfl rfl; go_simp; try with_reducible rfl)
    try simp only [Act.put, aL1, aL2, aL3]
    refine rd1 3 (fun K hK => ?_)
    go_simp
    refine (HCo.out _ hHeld.below).mono ?_
    rintro e w' ⟨rfl, rfl⟩
    refine hK.out _ _ (hHeld) (fun hHeld => ?_)
    clear hK K
    try simp only [Act.put, aL1, aL2, aL3]
    refine tn 4 ?_
    try simp only [Act.put, aL1, aL2, aL3]
    refine tn 5 ?_
    try simp only [Act.put, aL1, aL2, aL3]
    refine tn 6 ?_ (hx := fun wz hSw => by have e4 := hSw.cell 0 1 rfl rfl; go_simp; try with_reducible rfl)
    try simp only [Act.put, aL1, aL2, aL3]
    by_cases h1 : 0 ≤ c.hour
    · refine tn 7 ?_
      try simp only [Act.put, aL1, aL2, aL3]
      refine tn 8 ?_
      try simp only [Act.put, aL1, aL2, aL3]
      refine tn 9 ?_
      try simp only [Act.put, aL1, aL2, aL3]
      refine tn 10 ?_
      try simp only [Act.put, aL1, aL2, aL3]
      refine tn 11 ?_ (hx := fun wz hSw => by have e4 := hSw.cell 0 1 rfl rfl; go_simp; try with_reducible rfl)
      try simp only [Act.put, aL1, aL2, aL3]
      by_cases h2 : c.hour ≤ 16777216
      · refine tn 12 ?_
        try simp only [Act.put, aL1, aL2, aL3]
        refine tn 13 ?_
        try simp only [Act.put, aL1, aL2, aL3]
        refine tn 14 ?_
        try simp only [Act.put, aL1, aL2, aL3]
        refine tn 15 ?_
        try simp only [Act.put, aL1, aL2, aL3]
        refine tn 16 ?_ (hx := fun wz hSw => by have e4 := hSw.cell 0 2 rfl rfl; go_simp; try with_reducible rfl)
        try simp only [Act.put, aL1, aL2, aL3]
        cases hwa : withinB c.inn with
        | true =>
          have HWa : Hid (∀ w0, Calls Tryz.prog 68 #[.int .i64 c.inn] w0 fun e w' => e = .returned (.bool true) ∧ w0 = w') := Lib.hid (fun w0 => by rw [← hwa]; exact within_any _ _)
          refine rd1 17 (fun K hK => ?_)
          go_simp
          refine (HWa.out _).mono ?_
          rintro e w' ⟨rfl, rfl⟩
          refine hK.out _ _ (hHeld) (fun hHeld => ?_)
          clear hK K
          try simp only [Act.put, aL1, aL2, aL3]
          refine tn 18 ?_
          try simp only [Act.put, aL1, aL2, aL3]
          refine tn 19 ?_
          try simp only [Act.put, aL1, aL2, aL3]
          refine tn 20 ?_
          try simp only [Act.put, aL1, aL2, aL3]
          refine tn 21 ?_ (hx := fun wz hSw => by have e4 := hSw.cell 0 3 rfl rfl; go_simp; try with_reducible rfl)
          try simp only [Act.put, aL1, aL2, aL3]
          cases hwb : withinB c.out with
          | true =>
            have HWb : Hid (∀ w0, Calls Tryz.prog 68 #[.int .i64 c.out] w0 fun e w' => e = .returned (.bool true) ∧ w0 = w') := Lib.hid (fun w0 => by rw [← hwb]; exact within_any _ _)
            refine rd1 22 (fun K hK => ?_)
            go_simp
            refine (HWb.out _).mono ?_
            rintro e w' ⟨rfl, rfl⟩
            refine hK.out _ _ (hHeld) (fun hHeld => ?_)
            clear hK K
            try simp only [Act.put, aL1, aL2, aL3]
            refine tn 23 ?_
            try simp only [Act.put, aL1, aL2, aL3]
            refine tn 24 ?_
            try simp only [Act.put, aL1, aL2, aL3]
            refine tn 25 ?_
            try simp only [Act.put, aL1, aL2, aL3]
            refine tn 26 ?_ (hx := fun wz hSw => by have e4 := hSw.cell 0 4 rfl rfl; go_simp; try with_reducible rfl)
            try simp only [Act.put, aL1, aL2, aL3]
            cases hwc : withinB c.store with
            | true =>
              have HWc : Hid (∀ w0, Calls Tryz.prog 68 #[.int .i64 c.store] w0 fun e w' => e = .returned (.bool true) ∧ w0 = w') := Lib.hid (fun w0 => by rw [← hwc]; exact within_any _ _)
              refine rd1 27 (fun K hK => ?_)
              go_simp
              refine (HWc.out _).mono ?_
              rintro e w' ⟨rfl, rfl⟩
              refine hK.out _ _ (hHeld) (fun hHeld => ?_)
              clear hK K
              try simp only [Act.put, aL1, aL2, aL3]
              refine tn 28 ?_
              try simp only [Act.put, aL1, aL2, aL3]
              refine tn 29 ?_
              try simp only [Act.put, aL1, aL2, aL3]
              refine tn 30 ?_
              try simp only [Act.put, aL1, aL2, aL3]
              refine tn 31 ?_
              try simp only [Act.put, aL1, aL2, aL3]
              refine tn 32 ?_
              try simp only [Act.put, aL1, aL2, aL3]
              refine tn 33 ?_ (hx := fun wz hSw => by have e4 := hSw.old HJ 2 rfl; go_simp; try with_reducible rfl)
              try simp only [Act.put, aL1, aL2, aL3]
              refine tn 34 ?_
              try simp only [Act.put, aL1, aL2, aL3]
              refine tn 35 ?_ (hx := fun wz hSw => by have e4 := hSw.cell 0 0 rfl rfl; go_simp; try with_reducible rfl)
              try simp only [Act.put, aL1, aL2, aL3]
              refine tn 36 ?_
              try simp only [Act.put, aL1, aL2, aL3]
              refine tn 37 ?_ (hx := fun wz hSw => by have e4 := (hSw.below.cell hbr).trans HPM.out; go_simp; try with_reducible rfl)
              try simp only [Act.put, aL1, aL2, aL3]
              refine tn 38 ?_ (hx := fun wz hSw => by refine exec_load_row 63 ?_ ?_ _ ?_ 63 _ _ _ (hSw.row 0 rfl) undCm rfl infoCm; rotate_left 1; exact rfl; exact rfl)
              try simp only [Act.put, aL1, aL2, aL3]
              by_cases h7 : VouchedC x c
              · have HV : Hid (decide (VouchedC x c) = true) := Lib.hid (decide_eq_true h7)
                have HVe : Hid (∀ w0, Below w.heap.size w w0 → Calls Tryz.prog 69 #[.int .i64 x, .agg #[.int .i64 (j : Int), .int .i64 c.hour, .int .i64 c.inn, .int .i64 c.out, .int .i64 c.store, .string c.prev, .int .i64 c.e, .int .i64 c.s]] w0 fun e w' => e = .returned (.bool true) ∧ Below w0.heap.size w0 w') := Lib.hid (fun w0 hb => by have h := verifyC_any x c w0 hxI hO hpv (hg.below hb hg.size) (hml.up hb); rw [HV.out] at h; rw [HOO.out] at h; exact h)
                clear h7
                refine rd1 39 (fun K hK => ?_)
                go_simp
                refine (HVe.out _ hHeld.below).mono ?_
                rintro e w' ⟨rfl, hb⟩
                refine hK.out _ _ (hHeld.step hb) (fun hHeld => ?_)
                clear hK K
                try simp only [Act.put, aL1, aL2, aL3]
                refine tn 40 ?_
                try simp only [Act.put, aL1, aL2, aL3]
                refine tn 41 ?_
                try simp only [Act.put, aL1, aL2, aL3]
                refine rdone (NoPanic.normal ?_)
                have HT : Hid (kB ps c = true) := Lib.hid (by unfold kB; rw [HO.out, HXP.out]; (try rw [HV.out]); simp [*])
                go_wp2_with fail
                go_ret
                exact retB_mk HT.out hHeld.below
              · have HV : Hid (decide (VouchedC x c) = false) := Lib.hid (decide_eq_false h7)
                have HVe : Hid (∀ w0, Below w.heap.size w w0 → Calls Tryz.prog 69 #[.int .i64 x, .agg #[.int .i64 (j : Int), .int .i64 c.hour, .int .i64 c.inn, .int .i64 c.out, .int .i64 c.store, .string c.prev, .int .i64 c.e, .int .i64 c.s]] w0 fun e w' => e = .returned (.bool false) ∧ Below w0.heap.size w0 w') := Lib.hid (fun w0 hb => by have h := verifyC_any x c w0 hxI hO hpv (hg.below hb hg.size) (hml.up hb); rw [HV.out] at h; rw [HOO.out] at h; exact h)
                clear h7
                refine rd1 39 (fun K hK => ?_)
                go_simp
                refine (HVe.out _ hHeld.below).mono ?_
                rintro e w' ⟨rfl, hb⟩
                refine hK.out _ _ (hHeld.step hb) (fun hHeld => ?_)
                clear hK K
                try simp only [Act.put, aL1, aL2, aL3]
                refine tn 40 ?_
                try simp only [Act.put, aL1, aL2, aL3]
                refine tn 41 ?_
                try simp only [Act.put, aL1, aL2, aL3]
                refine rdone (NoPanic.normal ?_)
                have HT : Hid (kB ps c = false) := Lib.hid (by unfold kB; rw [HO.out, HXP.out]; (try rw [HV.out]); simp [*])
                go_wp2_with fail
                go_ret
                exact retB_mk HT.out hHeld.below
            | false =>
              have HWc : Hid (∀ w0, Calls Tryz.prog 68 #[.int .i64 c.store] w0 fun e w' => e = .returned (.bool false) ∧ w0 = w') := Lib.hid (fun w0 => by rw [← hwc]; exact within_any _ _)
              refine rd1 27 (fun K hK => ?_)
              go_simp
              refine (HWc.out _).mono ?_
              rintro e w' ⟨rfl, rfl⟩
              refine hK.out _ _ (hHeld) (fun hHeld => ?_)
              clear hK K
              try simp only [Act.put, aL1, aL2, aL3]
              refine tn 28 ?_
              try simp only [Act.put, aL1, aL2, aL3]
              refine tn 29 ?_
              try simp only [Act.put, aL1, aL2, aL3]
              refine skn 2 [(30, some 35), (31, some 36), (32, some 37), (33, some 38), (34, some 39), (35, some 40), (36, some 41), (37, some 42), (38, some 43), (39, some 44)] ?_
              simp only [List.foldl_cons, List.foldl_nil, Act.put, aL1, aL2, aL3]
              refine tn 40 ?_
              try simp only [Act.put, aL1, aL2, aL3]
              refine tn 41 ?_
              try simp only [Act.put, aL1, aL2, aL3]
              refine rdone (NoPanic.normal ?_)
              have HT : Hid (kB ps c = false) := Lib.hid (by unfold kB; rw [HO.out, HXP.out]; (try rw [HV.out]); simp [*])
              go_wp2_with fail
              go_ret
              exact retB_mk HT.out hHeld.below
          | false =>
            have HWb : Hid (∀ w0, Calls Tryz.prog 68 #[.int .i64 c.out] w0 fun e w' => e = .returned (.bool false) ∧ w0 = w') := Lib.hid (fun w0 => by rw [← hwb]; exact within_any _ _)
            refine rd1 22 (fun K hK => ?_)
            go_simp
            refine (HWb.out _).mono ?_
            rintro e w' ⟨rfl, rfl⟩
            refine hK.out _ _ (hHeld) (fun hHeld => ?_)
            clear hK K
            try simp only [Act.put, aL1, aL2, aL3]
            refine tn 23 ?_
            try simp only [Act.put, aL1, aL2, aL3]
            refine tn 24 ?_
            try simp only [Act.put, aL1, aL2, aL3]
            refine skn 14 [(25, some 30), (26, some 31), (27, some 32)] ?_
            simp only [List.foldl_cons, List.foldl_nil, Act.put, aL1, aL2, aL3]
            refine tn 28 ?_
            try simp only [Act.put, aL1, aL2, aL3]
            refine tn 29 ?_
            try simp only [Act.put, aL1, aL2, aL3]
            refine skn 2 [(30, some 35), (31, some 36), (32, some 37), (33, some 38), (34, some 39), (35, some 40), (36, some 41), (37, some 42), (38, some 43), (39, some 44)] ?_
            simp only [List.foldl_cons, List.foldl_nil, Act.put, aL1, aL2, aL3]
            refine tn 40 ?_
            try simp only [Act.put, aL1, aL2, aL3]
            refine tn 41 ?_
            try simp only [Act.put, aL1, aL2, aL3]
            refine rdone (NoPanic.normal ?_)
            have HT : Hid (kB ps c = false) := Lib.hid (by unfold kB; rw [HO.out, HXP.out]; (try rw [HV.out]); simp [*])
            go_wp2_with fail
            go_ret
            exact retB_mk HT.out hHeld.below
        | false =>
          have HWa : Hid (∀ w0, Calls Tryz.prog 68 #[.int .i64 c.inn] w0 fun e w' => e = .returned (.bool false) ∧ w0 = w') := Lib.hid (fun w0 => by rw [← hwa]; exact within_any _ _)
          refine rd1 17 (fun K hK => ?_)
          go_simp
          refine (HWa.out _).mono ?_
          rintro e w' ⟨rfl, rfl⟩
          refine hK.out _ _ (hHeld) (fun hHeld => ?_)
          clear hK K
          try simp only [Act.put, aL1, aL2, aL3]
          refine tn 18 ?_
          try simp only [Act.put, aL1, aL2, aL3]
          refine tn 19 ?_
          try simp only [Act.put, aL1, aL2, aL3]
          refine skn 19 [(20, some 25), (21, some 26), (22, some 27)] ?_
          simp only [List.foldl_cons, List.foldl_nil, Act.put, aL1, aL2, aL3]
          refine tn 23 ?_
          try simp only [Act.put, aL1, aL2, aL3]
          refine tn 24 ?_
          try simp only [Act.put, aL1, aL2, aL3]
          refine skn 14 [(25, some 30), (26, some 31), (27, some 32)] ?_
          simp only [List.foldl_cons, List.foldl_nil, Act.put, aL1, aL2, aL3]
          refine tn 28 ?_
          try simp only [Act.put, aL1, aL2, aL3]
          refine tn 29 ?_
          try simp only [Act.put, aL1, aL2, aL3]
          refine skn 2 [(30, some 35), (31, some 36), (32, some 37), (33, some 38), (34, some 39), (35, some 40), (36, some 41), (37, some 42), (38, some 43), (39, some 44)] ?_
          simp only [List.foldl_cons, List.foldl_nil, Act.put, aL1, aL2, aL3]
          refine tn 40 ?_
          try simp only [Act.put, aL1, aL2, aL3]
          refine tn 41 ?_
          try simp only [Act.put, aL1, aL2, aL3]
          refine rdone (NoPanic.normal ?_)
          have HT : Hid (kB ps c = false) := Lib.hid (by unfold kB; rw [HO.out, HXP.out]; (try rw [HV.out]); simp [*])
          go_wp2_with fail
          go_ret
          exact retB_mk HT.out hHeld.below
      · refine tn 12 ?_
        try simp only [Act.put, aL1, aL2, aL3]
        refine tn 13 ?_
        try simp only [Act.put, aL1, aL2, aL3]
        refine tn 14 ?_
        try simp only [Act.put, aL1, aL2, aL3]
        refine skn 24 [(15, some 20), (16, some 21), (17, some 22)] ?_
        simp only [List.foldl_cons, List.foldl_nil, Act.put, aL1, aL2, aL3]
        refine tn 18 ?_
        try simp only [Act.put, aL1, aL2, aL3]
        refine tn 19 ?_
        try simp only [Act.put, aL1, aL2, aL3]
        refine skn 19 [(20, some 25), (21, some 26), (22, some 27)] ?_
        simp only [List.foldl_cons, List.foldl_nil, Act.put, aL1, aL2, aL3]
        refine tn 23 ?_
        try simp only [Act.put, aL1, aL2, aL3]
        refine tn 24 ?_
        try simp only [Act.put, aL1, aL2, aL3]
        refine skn 14 [(25, some 30), (26, some 31), (27, some 32)] ?_
        simp only [List.foldl_cons, List.foldl_nil, Act.put, aL1, aL2, aL3]
        refine tn 28 ?_
        try simp only [Act.put, aL1, aL2, aL3]
        refine tn 29 ?_
        try simp only [Act.put, aL1, aL2, aL3]
        refine skn 2 [(30, some 35), (31, some 36), (32, some 37), (33, some 38), (34, some 39), (35, some 40), (36, some 41), (37, some 42), (38, some 43), (39, some 44)] ?_
        simp only [List.foldl_cons, List.foldl_nil, Act.put, aL1, aL2, aL3]
        refine tn 40 ?_
        try simp only [Act.put, aL1, aL2, aL3]
        refine tn 41 ?_
        try simp only [Act.put, aL1, aL2, aL3]
        refine rdone (NoPanic.normal ?_)
        have HT : Hid (kB ps c = false) := Lib.hid (by unfold kB; rw [HO.out, HXP.out]; (try rw [HV.out]); simp [*])
        go_wp2_with fail
        go_ret
        exact retB_mk HT.out hHeld.below
    · refine tn 7 ?_
      try simp only [Act.put, aL1, aL2, aL3]
      refine tn 8 ?_
      try simp only [Act.put, aL1, aL2, aL3]
      refine tn 9 ?_
      try simp only [Act.put, aL1, aL2, aL3]
      refine skn 29 [(10, some 15), (11, some 16), (12, some 17)] ?_
      simp only [List.foldl_cons, List.foldl_nil, Act.put, aL1, aL2, aL3]
      refine tn 13 ?_
      try simp only [Act.put, aL1, aL2, aL3]
      refine tn 14 ?_
      try simp only [Act.put, aL1, aL2, aL3]
      refine skn 24 [(15, some 20), (16, some 21), (17, some 22)] ?_
      simp only [List.foldl_cons, List.foldl_nil, Act.put, aL1, aL2, aL3]
      refine tn 18 ?_
      try simp only [Act.put, aL1, aL2, aL3]
      refine tn 19 ?_
      try simp only [Act.put, aL1, aL2, aL3]
      refine skn 19 [(20, some 25), (21, some 26), (22, some 27)] ?_
      simp only [List.foldl_cons, List.foldl_nil, Act.put, aL1, aL2, aL3]
      refine tn 23 ?_
      try simp only [Act.put, aL1, aL2, aL3]
      refine tn 24 ?_
      try simp only [Act.put, aL1, aL2, aL3]
      refine skn 14 [(25, some 30), (26, some 31), (27, some 32)] ?_
      simp only [List.foldl_cons, List.foldl_nil, Act.put, aL1, aL2, aL3]
      refine tn 28 ?_
      try simp only [Act.put, aL1, aL2, aL3]
      refine tn 29 ?_
      try simp only [Act.put, aL1, aL2, aL3]
      refine skn 2 [(30, some 35), (31, some 36), (32, some 37), (33, some 38), (34, some 39), (35, some 40), (36, some 41), (37, some 42), (38, some 43), (39, some 44)] ?_
      simp only [List.foldl_cons, List.foldl_nil, Act.put, aL1, aL2, aL3]
      refine tn 40 ?_
      try simp only [Act.put, aL1, aL2, aL3]
      refine tn 41 ?_
      try simp only [Act.put, aL1, aL2, aL3]
      refine rdone (NoPanic.normal ?_)
      have HT : Hid (kB ps c = false) := Lib.hid (by unfold kB; rw [HO.out, HXP.out]; (try rw [HV.out]); simp [*])
      go_wp2_with fail
      go_ret
      exact retB_mk HT.out hHeld.below
  · have HCo : Hid (∀ w0, Below w.heap.size w w0 → Calls Tryz.prog 32 #[.pointer (some ⟨jb, 0, none⟩), .int .i64 c.office] w0 fun e w' => e = .returned (.bool false) ∧ w0 = w') := Lib.hid (fun w0 hb => by have h := office_any jb mb ar ap cr cp err room ps pubs c.office w0 (hJ.below hb); rw [officeB_f h0] at h; exact h)
    have HT : Hid (kB ps c = false) := Lib.hid (by unfold kB; rw [officeB_f h0]; rfl)
    have HR := Lib.hid ((RowsS.nil w).alloc (.cells #[.int .i64 c.office, .int .i64 c.hour, .int .i64 c.inn, .int .i64 c.out, .int .i64 c.store, .string c.prev, .int .i64 c.e, .int .i64 c.s] 63))
    clear hJ h0
    go_enter Tryz.func33, Tryz.ntmps33
    go_upto_region 1 with fail
    generalize w.alloc (.cells #[.int .i64 c.office, .int .i64 c.hour, .int .i64 c.inn, .int .i64 c.out, .int .i64 c.store, .string c.prev, .int .i64 c.e, .int .i64 c.s] 63) = wa at *
    refine wp_region_noPanic ?_
    refine wp_region_held_drew (S := fun cw => RowsS w [(w.heap.size, .cells #[.int .i64 c.office, .int .i64 c.hour, .int .i64 c.inn, .int .i64 c.out, .int .i64 c.store, .string c.prev, .int .i64 c.e, .int .i64 c.s] 63)] cw) (by kernel_rfl) (HR.out.drew) (fun hHeld => ?_)
    refine tn 0 ?_
    try simp only [Act.put, aL1, aL2, aL3]
    refine tn 1 ?_
    try simp only [Act.put, aL1, aL2, aL3]
    refine tn 2 ?_ (hx := fun wz hSw => by have e4 := hSw.cell 0 0 rfl rfl; go_simp; try with_reducible rfl)
    try simp only [Act.put, aL1, aL2, aL3]
    refine rd1 3 (fun K hK => ?_)
    go_simp
    refine (HCo.out _ hHeld.below).mono ?_
    rintro e w' ⟨rfl, rfl⟩
    refine hK.out _ _ (hHeld) (fun hHeld => ?_)
    clear hK K
    try simp only [Act.put, aL1, aL2, aL3]
    refine tn 4 ?_
    try simp only [Act.put, aL1, aL2, aL3]
    refine skn 34 [(5, some 10), (6, some 11), (7, some 12)] ?_
    simp only [List.foldl_cons, List.foldl_nil, Act.put, aL1, aL2, aL3]
    refine tn 8 ?_
    try simp only [Act.put, aL1, aL2, aL3]
    refine tn 9 ?_
    try simp only [Act.put, aL1, aL2, aL3]
    refine skn 29 [(10, some 15), (11, some 16), (12, some 17)] ?_
    simp only [List.foldl_cons, List.foldl_nil, Act.put, aL1, aL2, aL3]
    refine tn 13 ?_
    try simp only [Act.put, aL1, aL2, aL3]
    refine tn 14 ?_
    try simp only [Act.put, aL1, aL2, aL3]
    refine skn 24 [(15, some 20), (16, some 21), (17, some 22)] ?_
    simp only [List.foldl_cons, List.foldl_nil, Act.put, aL1, aL2, aL3]
    refine tn 18 ?_
    try simp only [Act.put, aL1, aL2, aL3]
    refine tn 19 ?_
    try simp only [Act.put, aL1, aL2, aL3]
    refine skn 19 [(20, some 25), (21, some 26), (22, some 27)] ?_
    simp only [List.foldl_cons, List.foldl_nil, Act.put, aL1, aL2, aL3]
    refine tn 23 ?_
    try simp only [Act.put, aL1, aL2, aL3]
    refine tn 24 ?_
    try simp only [Act.put, aL1, aL2, aL3]
    refine skn 14 [(25, some 30), (26, some 31), (27, some 32)] ?_
    simp only [List.foldl_cons, List.foldl_nil, Act.put, aL1, aL2, aL3]
    refine tn 28 ?_
    try simp only [Act.put, aL1, aL2, aL3]
    refine tn 29 ?_
    try simp only [Act.put, aL1, aL2, aL3]
    refine skn 2 [(30, some 35), (31, some 36), (32, some 37), (33, some 38), (34, some 39), (35, some 40), (36, some 41), (37, some 42), (38, some 43), (39, some 44)] ?_
    simp only [List.foldl_cons, List.foldl_nil, Act.put, aL1, aL2, aL3]
    refine tn 40 ?_
    try simp only [Act.put, aL1, aL2, aL3]
    refine tn 41 ?_
    try simp only [Act.put, aL1, aL2, aL3]
    refine rdone (NoPanic.normal ?_)
    go_wp2_with fail
    go_ret
    exact retB_mk HT.out hHeld.below
set_option maxRecDepth 100000 in
set_option maxHeartbeats 8000000 in
theorem promised_any (jb mb : Nat) (ar ap : Option Addr) (cr cp : Nat) (err : Int) (room ps : List Int) (pubs : List PublicV) (p : PV) (w : World) (hJ : JudgeAt jb mb ar ap cr cp err room ps pubs w) (hO : POk p) (hg : Glob w) (hml : MLen w) : Calls Tryz.prog 50 #[.pointer (some ⟨jb, 0, none⟩), .agg #[.int .i64 p.office, .int .i64 p.since, .int .i64 p.till, .int .i64 p.litres, .int .i64 p.e, .int .i64 p.s]] w (RetB (vB ps p) w) := by
  have HJ := Lib.hid hJ.row
  have hjl := blk_lt hJ.row
  by_cases h0 : 0 ≤ p.office ∧ p.office < 3
  · obtain ⟨j, ho⟩ : ∃ j : Nat, p.office = (j : Int) := ⟨p.office.toNat, by omega⟩
    have hj : j < 3 := by omega
    obtain ⟨x, hx⟩ : ∃ x, ps[j]? = some x := ⟨_, List.getElem?_eq_getElem (by rw [hJ.lp]; exact hj)⟩
    obtain ⟨b, o, cs, rfl, hbr, -, hrg, rfl, hxI⟩ := hJ.lpubs.at hx
    have HPM : Hid (w.cell? ⟨b, o + j, none⟩ = some (.int .i64 x)) := Lib.hid (by have := hrg 0 _ rfl; rw [Nat.mul_one, Nat.add_zero] at this; exact this)
    have HCo : Hid (∀ w0, Below w.heap.size w w0 → Calls Tryz.prog 32 #[.pointer (some ⟨jb, 0, none⟩), .int .i64 (j : Int)] w0 fun e w' => e = .returned (.bool true) ∧ w0 = w') := Lib.hid (fun w0 hb => by have h := office_any jb mb ar (some ⟨b, o, none⟩) cr cp err room ps pubs (j : Int) w0 (hJ.below hb); rw [officeB_t ⟨by omega, by omega⟩] at h; exact h)
    have HO : Hid (officeB p.office = true) := Lib.hid (officeB_t h0)
    have HXP : Hid ((ps[p.office.toNat]?).getD 0 = x) := Lib.hid (by rw [ho, Int.toNat_natCast, hx]; rfl)
    have h00 : (j : Int) < 3 := by omega
    have HR := Lib.hid ((RowsS.nil w).alloc (.cells #[.int .i64 (j : Int), .int .i64 p.since, .int .i64 p.till, .int .i64 p.litres, .int .i64 p.e, .int .i64 p.s] 38))
    rw [ho]
    have HOO := Lib.hid ho
    clear hJ hrg hx h0
    go_enter Tryz.func50, Tryz.ntmps50
    go_upto_region 1 with fail
    generalize w.alloc (.cells #[.int .i64 (j : Int), .int .i64 p.since, .int .i64 p.till, .int .i64 p.litres, .int .i64 p.e, .int .i64 p.s] 38) = wa at *
    clear ho
    refine wp_region_noPanic ?_
    refine wp_region_held_drew (S := fun cw => RowsS w [(w.heap.size, .cells #[.int .i64 (j : Int), .int .i64 p.since, .int .i64 p.till, .int .i64 p.litres, .int .i64 p.e, .int .i64 p.s] 38)] cw) (by kernel_rfl) (HR.out.drew) (fun hHeld => ?_)
    refine tn 0 ?_
    try simp only [Act.put, aL1, aL2, aL3]
    refine tn 1 ?_
    try simp only [Act.put, aL1, aL2, aL3]
    refine tn 2 ?_ (hx := fun wz hSw => by have e4 := hSw.cell 0 0 rfl rfl; go_simp; try with_reducible rfl)
    try simp only [Act.put, aL1, aL2, aL3]
    refine rd1 3 (fun K hK => ?_)
    go_simp
    refine (HCo.out _ hHeld.below).mono ?_
    rintro e w' ⟨rfl, rfl⟩
    refine hK.out _ _ (hHeld) (fun hHeld => ?_)
    clear hK K
    try simp only [Act.put, aL1, aL2, aL3]
    refine tn 4 ?_
    try simp only [Act.put, aL1, aL2, aL3]
    refine tn 5 ?_
    try simp only [Act.put, aL1, aL2, aL3]
    refine tn 6 ?_ (hx := fun wz hSw => by have e4 := hSw.cell 0 3 rfl rfl; go_simp; try with_reducible rfl)
    try simp only [Act.put, aL1, aL2, aL3]
    cases hwa : withinB p.litres with
    | true =>
      have HWa : Hid (∀ w0, Calls Tryz.prog 68 #[.int .i64 p.litres] w0 fun e w' => e = .returned (.bool true) ∧ w0 = w') := Lib.hid (fun w0 => by rw [← hwa]; exact within_any _ _)
      refine rd1 7 (fun K hK => ?_)
      go_simp
      refine (HWa.out _).mono ?_
      rintro e w' ⟨rfl, rfl⟩
      refine hK.out _ _ (hHeld) (fun hHeld => ?_)
      clear hK K
      try simp only [Act.put, aL1, aL2, aL3]
      refine tn 8 ?_
      try simp only [Act.put, aL1, aL2, aL3]
      refine tn 9 ?_
      try simp only [Act.put, aL1, aL2, aL3]
      refine tn 10 ?_
      try simp only [Act.put, aL1, aL2, aL3]
      refine tn 11 ?_
      try simp only [Act.put, aL1, aL2, aL3]
      refine tn 12 ?_
      try simp only [Act.put, aL1, aL2, aL3]
      refine tn 13 ?_ (hx := fun wz hSw => by have e4 := hSw.old HJ 2 rfl; go_simp; try with_reducible rfl)
      try simp only [Act.put, aL1, aL2, aL3]
      refine tn 14 ?_
      try simp only [Act.put, aL1, aL2, aL3]
      refine tn 15 ?_ (hx := fun wz hSw => by have e4 := hSw.cell 0 0 rfl rfl; go_simp; try with_reducible rfl)
      try simp only [Act.put, aL1, aL2, aL3]
      refine tn 16 ?_
      try simp only [Act.put, aL1, aL2, aL3]
      refine tn 17 ?_ (hx := fun wz hSw => by have e4 := (hSw.below.cell hbr).trans HPM.out; go_simp; try with_reducible rfl)
      try simp only [Act.put, aL1, aL2, aL3]
      refine tn 18 ?_ (hx := fun wz hSw => by refine exec_load_row 38 ?_ ?_ _ ?_ 38 _ _ _ (hSw.row 0 rfl) undPm rfl infoPm; rotate_left 1; exact rfl; exact rfl)
      try simp only [Act.put, aL1, aL2, aL3]
      by_cases h7 : VouchedP x p
      · have HV : Hid (decide (VouchedP x p) = true) := Lib.hid (decide_eq_true h7)
        have HVe : Hid (∀ w0, Below w.heap.size w w0 → Calls Tryz.prog 87 #[.int .i64 x, .agg #[.int .i64 (j : Int), .int .i64 p.since, .int .i64 p.till, .int .i64 p.litres, .int .i64 p.e, .int .i64 p.s]] w0 fun e w' => e = .returned (.bool true) ∧ Below w0.heap.size w0 w') := Lib.hid (fun w0 hb => by have h := verifyP_any x p w0 hxI hO (hg.below hb hg.size) (hml.up hb); rw [HV.out] at h; rw [HOO.out] at h; exact h)
        clear h7
        refine rd1 19 (fun K hK => ?_)
        go_simp
        refine (HVe.out _ hHeld.below).mono ?_
        rintro e w' ⟨rfl, hb⟩
        refine hK.out _ _ (hHeld.step hb) (fun hHeld => ?_)
        clear hK K
        try simp only [Act.put, aL1, aL2, aL3]
        refine tn 20 ?_
        try simp only [Act.put, aL1, aL2, aL3]
        refine tn 21 ?_
        try simp only [Act.put, aL1, aL2, aL3]
        refine rdone (NoPanic.normal ?_)
        have HT : Hid (vB ps p = true) := Lib.hid (by unfold vB; rw [HO.out, HXP.out]; (try rw [HV.out]); simp [*])
        go_wp2_with fail
        go_ret
        exact retB_mk HT.out hHeld.below
      · have HV : Hid (decide (VouchedP x p) = false) := Lib.hid (decide_eq_false h7)
        have HVe : Hid (∀ w0, Below w.heap.size w w0 → Calls Tryz.prog 87 #[.int .i64 x, .agg #[.int .i64 (j : Int), .int .i64 p.since, .int .i64 p.till, .int .i64 p.litres, .int .i64 p.e, .int .i64 p.s]] w0 fun e w' => e = .returned (.bool false) ∧ Below w0.heap.size w0 w') := Lib.hid (fun w0 hb => by have h := verifyP_any x p w0 hxI hO (hg.below hb hg.size) (hml.up hb); rw [HV.out] at h; rw [HOO.out] at h; exact h)
        clear h7
        refine rd1 19 (fun K hK => ?_)
        go_simp
        refine (HVe.out _ hHeld.below).mono ?_
        rintro e w' ⟨rfl, hb⟩
        refine hK.out _ _ (hHeld.step hb) (fun hHeld => ?_)
        clear hK K
        try simp only [Act.put, aL1, aL2, aL3]
        refine tn 20 ?_
        try simp only [Act.put, aL1, aL2, aL3]
        refine tn 21 ?_
        try simp only [Act.put, aL1, aL2, aL3]
        refine rdone (NoPanic.normal ?_)
        have HT : Hid (vB ps p = false) := Lib.hid (by unfold vB; rw [HO.out, HXP.out]; (try rw [HV.out]); simp [*])
        go_wp2_with fail
        go_ret
        exact retB_mk HT.out hHeld.below
    | false =>
      have HWa : Hid (∀ w0, Calls Tryz.prog 68 #[.int .i64 p.litres] w0 fun e w' => e = .returned (.bool false) ∧ w0 = w') := Lib.hid (fun w0 => by rw [← hwa]; exact within_any _ _)
      refine rd1 7 (fun K hK => ?_)
      go_simp
      refine (HWa.out _).mono ?_
      rintro e w' ⟨rfl, rfl⟩
      refine hK.out _ _ (hHeld) (fun hHeld => ?_)
      clear hK K
      try simp only [Act.put, aL1, aL2, aL3]
      refine tn 8 ?_
      try simp only [Act.put, aL1, aL2, aL3]
      refine tn 9 ?_
      try simp only [Act.put, aL1, aL2, aL3]
      refine skn 2 [(10, some 15), (11, some 16), (12, some 17), (13, some 18), (14, some 19), (15, some 20), (16, some 21), (17, some 22), (18, some 23), (19, some 24)] ?_
      simp only [List.foldl_cons, List.foldl_nil, Act.put, aL1, aL2, aL3]
      refine tn 20 ?_
      try simp only [Act.put, aL1, aL2, aL3]
      refine tn 21 ?_
      try simp only [Act.put, aL1, aL2, aL3]
      refine rdone (NoPanic.normal ?_)
      have HT : Hid (vB ps p = false) := Lib.hid (by unfold vB; rw [HO.out, HXP.out]; (try rw [HV.out]); simp [*])
      go_wp2_with fail
      go_ret
      exact retB_mk HT.out hHeld.below
  · have HCo : Hid (∀ w0, Below w.heap.size w w0 → Calls Tryz.prog 32 #[.pointer (some ⟨jb, 0, none⟩), .int .i64 p.office] w0 fun e w' => e = .returned (.bool false) ∧ w0 = w') := Lib.hid (fun w0 hb => by have h := office_any jb mb ar ap cr cp err room ps pubs p.office w0 (hJ.below hb); rw [officeB_f h0] at h; exact h)
    have HT : Hid (vB ps p = false) := Lib.hid (by unfold vB; rw [officeB_f h0]; rfl)
    have HR := Lib.hid ((RowsS.nil w).alloc (.cells #[.int .i64 p.office, .int .i64 p.since, .int .i64 p.till, .int .i64 p.litres, .int .i64 p.e, .int .i64 p.s] 38))
    clear hJ h0
    go_enter Tryz.func50, Tryz.ntmps50
    go_upto_region 1 with fail
    generalize w.alloc (.cells #[.int .i64 p.office, .int .i64 p.since, .int .i64 p.till, .int .i64 p.litres, .int .i64 p.e, .int .i64 p.s] 38) = wa at *
    refine wp_region_noPanic ?_
    refine wp_region_held_drew (S := fun cw => RowsS w [(w.heap.size, .cells #[.int .i64 p.office, .int .i64 p.since, .int .i64 p.till, .int .i64 p.litres, .int .i64 p.e, .int .i64 p.s] 38)] cw) (by kernel_rfl) (HR.out.drew) (fun hHeld => ?_)
    refine tn 0 ?_
    try simp only [Act.put, aL1, aL2, aL3]
    refine tn 1 ?_
    try simp only [Act.put, aL1, aL2, aL3]
    refine tn 2 ?_ (hx := fun wz hSw => by have e4 := hSw.cell 0 0 rfl rfl; go_simp; try with_reducible rfl)
    try simp only [Act.put, aL1, aL2, aL3]
    refine rd1 3 (fun K hK => ?_)
    go_simp
    refine (HCo.out _ hHeld.below).mono ?_
    rintro e w' ⟨rfl, rfl⟩
    refine hK.out _ _ (hHeld) (fun hHeld => ?_)
    clear hK K
    try simp only [Act.put, aL1, aL2, aL3]
    refine tn 4 ?_
    try simp only [Act.put, aL1, aL2, aL3]
    refine skn 14 [(5, some 10), (6, some 11), (7, some 12)] ?_
    simp only [List.foldl_cons, List.foldl_nil, Act.put, aL1, aL2, aL3]
    refine tn 8 ?_
    try simp only [Act.put, aL1, aL2, aL3]
    refine tn 9 ?_
    try simp only [Act.put, aL1, aL2, aL3]
    refine skn 2 [(10, some 15), (11, some 16), (12, some 17), (13, some 18), (14, some 19), (15, some 20), (16, some 21), (17, some 22), (18, some 23), (19, some 24)] ?_
    simp only [List.foldl_cons, List.foldl_nil, Act.put, aL1, aL2, aL3]
    refine tn 20 ?_
    try simp only [Act.put, aL1, aL2, aL3]
    refine tn 21 ?_
    try simp only [Act.put, aL1, aL2, aL3]
    refine rdone (NoPanic.normal ?_)
    go_wp2_with fail
    go_ret
    exact retB_mk HT.out hHeld.below
end Go.Proofs.YtjbjpkhibcnenaaGreatDoor

