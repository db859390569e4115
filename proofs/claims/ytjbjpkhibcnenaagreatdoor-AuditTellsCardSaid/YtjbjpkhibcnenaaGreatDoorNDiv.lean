/- Texts merged: WLaw WOrd WOps WValLaw CLaw SShelf NDiv -/
import Derived.Shelf.Strings.Builder1
import Derived.Shelf.Strings.Builder2
import Derived.Shelf.Strings.OnBuilder
import Derived.Shelf.Small.Bits
import Derived.Shelf.Strings.BuilderF
import Derived.Shelf.Strings.BuilderK
import Derived.Shelf.Strings.Builder2Cap
import Derived.Shelf.LaysM
import Derived.Shelf.Bits.Mul64
import Derived.Shelf.Strings.BuilderCap
import Derived.Test.YtjbjpkhibcnenaaGreatDoorProg
/- The encodings of package wire as plain functions on lists of bytes, and their laws. No program in this text. -/

namespace Go.Proofs.YtjbjpkhibcnenaaGreatDoor
/-- the bytes of a number, the lowest first, without zeros at the end -/
def lebL (m : Nat) : List UInt8 := if m = 0 then [] else UInt8.ofNat (m % 256) :: lebL (m / 256)
termination_by m
decreasing_by omega
theorem leb_zero : lebL 0 = [] := by unfold lebL; rfl
theorem leb_pos {m : Nat} (h : m ≠ 0) : lebL m = UInt8.ofNat (m % 256) :: lebL (m / 256) := by rw [lebL, if_neg h]
theorem ofNat_toNat (k : Nat) (h : k < 256) : (UInt8.ofNat k).toNat = k := by simp [UInt8.toNat_ofNat']; omega
theorem leb_len_le {m k : Nat} (h : m < 256 ^ k) : (lebL m).length ≤ k := by
 induction k generalizing m with
 | zero => simp at h; subst h; rw [leb_zero]; simp
 | succ k ih =>
  by_cases h0 : m = 0
  · subst h0; rw [leb_zero]; simp
  ·
   rw [leb_pos h0, List.length_cons]
   have : m / 256 < 256 ^ k := by rw [Nat.pow_succ] at h; omega
   have := ih this
   omega
theorem leb_len8 {m : Nat} (h : m < 18446744073709551616) : (lebL m).length ≤ 8 := leb_len_le (by simpa using h)
/-- the encoding of an integer -/
def intL (n : Int) : List UInt8 :=
 if 0 ≤ n then UInt8.ofNat (128 + (lebL n.toNat).length) :: (lebL n.toNat).reverse
 else UInt8.ofNat (127 - (lebL (-(n + 1)).toNat).length) :: ((lebL (-(n + 1)).toNat).map (fun b => 255 - b)).reverse
/-- the encoding of a number that is not negative -/
def numL (n : Int) : List UInt8 := if n < 0 then [] else intL n
def escT (c : UInt8) : List UInt8 := if c = 0 then [0, 255] else [c]
def escTs (s : List UInt8) : List UInt8 := s.flatMap escT
/-- the encoding of a string -/
def textL (s : List UInt8) : List UInt8 := escTs s ++ [0, 1]
/-- an int -/
def I64 (n : Int) : Prop := -9223372036854775808 ≤ n ∧ n ≤ 9223372036854775807
theorem intL_len {n : Int} (h : I64 n) : 1 ≤ (intL n).length ∧ (intL n).length ≤ 9 := by
 unfold I64 at h
 unfold intL
 split
 ·
  have := leb_len8 (m := n.toNat) (by omega)
  simp; omega
 ·
  have := leb_len8 (m := (-(n + 1)).toNat) (by omega)
  simp; omega
theorem escT_len (c : UInt8) : 1 ≤ (escT c).length ∧ (escT c).length ≤ 2 := by
 unfold escT
 split <;> simp
theorem escTs_len (s : List UInt8) : s.length ≤ (escTs s).length ∧ (escTs s).length ≤ 2 * s.length := by
 induction s with
 | nil => simp [escTs]
 | cons c s ih =>
  have := escT_len c
  simp only [escTs, List.flatMap_cons, List.length_append, List.length_cons] at ih ⊢
  omega
theorem textL_len (s : List UInt8) : (textL s).length ≤ 2 * s.length + 2 := by
 have := escTs_len s
 simp [textL]; omega
/-- reading a list; n is a bound on the number of elements -/
def rdList {α : Type} (f : List UInt8 → Option (α × List UInt8)) : Nat → List UInt8 → Option (List α × List UInt8)
 | 0, _ => none
 | n + 1, s =>
  match s with
  | [] => none
  | c :: r => if c = 0 then some ([], r) else if c = 1 then (match f r with | none => none | some (x, r') => (rdList f n r').map fun p => (x :: p.1, p.2)) else none
end Go.Proofs.YtjbjpkhibcnenaaGreatDoor
/- Package wire: the order of encodings, and what a reader's calls return, as plain functions. No program in this text. -/
namespace Go.Proofs.YtjbjpkhibcnenaaGreatDoor
/-- x and y part at some place: x has the lower byte there -/
def Apart (x y : List UInt8) : Prop := ∃ p u v x' y', x = p ++ u :: x' ∧ y = p ++ v :: y' ∧ u.toNat < v.toNat
theorem Apart.front {x y : List UInt8} (h : Apart x y) (p : List UInt8) : Apart (p ++ x) (p ++ y) := by
 obtain ⟨q, u, v, x', y', rfl, rfl, hlt⟩ := h
 exact ⟨p ++ q, u, v, x', y', by simp, by simp, hlt⟩
theorem Apart.cons {u v : UInt8} (h : u.toNat < v.toNat) (x y : List UInt8) : Apart (u :: x) (v :: y) := ⟨[], u, v, x, y, rfl, rfl, h⟩
theorem Apart.lt {x y : List UInt8} (h : Apart x y) : x < y := by
 obtain ⟨p, u, v, x', y', rfl, rfl, hlt⟩ := h
 induction p with
 | nil => exact List.Lex.rel (by rw [UInt8.lt_iff_toNat_lt]; exact hlt)
 | cons c p ih => exact List.Lex.cons ih
theorem escTs_append (a b : List UInt8) : escTs (a ++ b) = escTs a ++ escTs b := List.flatMap_append
/-- what a reader holds: none once it has failed -/
abbrev RSt := Option (List UInt8)
end Go.Proofs.YtjbjpkhibcnenaaGreatDoor
/- Package wire: what a reader's calls have read, and known answers. No program in this text. -/
namespace Go.Proofs.YtjbjpkhibcnenaaGreatDoor
/-- E has been read of cur, st is left; or the call has failed, and cur is not E -/
def OpOk (cur E : List UInt8) (st : RSt) : Prop := (∃ r, st = some r ∧ cur = E ++ r) ∨ (st = none ∧ cur ≠ E ∧ E.length ≤ 2)
theorem OpOk.len {cur E : List UInt8} {st : RSt} (h : OpOk cur E st) : E.length ≤ cur.length + 2 := by
 rcases h with ⟨r, _, h⟩ | ⟨_, _, h⟩
 · rw [h, List.length_append]; omega
 · omega
end Go.Proofs.YtjbjpkhibcnenaaGreatDoor
/- bournelaw02: values, their encodings, and their order. No program in this text. -/
namespace Go.Proofs.YtjbjpkhibcnenaaGreatDoor
structure VV where
 kind : Int
 n : Int
 s : ByteArray
 l : List Int
 t : List ByteArray
def k4 (x : VV) : Int := x.kind % 4
def textC (s : ByteArray) : List UInt8 := textL s.data.toList
/-- what a comparison says of the encodings -/
def Says (c : Int) (x y : List UInt8) : Prop := (c = -1 ∧ Apart x y) ∨ (c = 1 ∧ Apart y x) ∨ (c = 0 ∧ x = y)
theorem Says.cons {c : Int} {x y : List UInt8} (p : List UInt8) (h : Says c x y) : Says c (p ++ x) (p ++ y) := by
 rcases h with ⟨h1, h2⟩ | ⟨h1, h2⟩ | ⟨h1, h2⟩
 · exact Or.inl ⟨h1, h2.front p⟩
 · exact Or.inr (Or.inl ⟨h1, h2.front p⟩)
 · exact Or.inr (Or.inr ⟨h1, by rw [h2]⟩)
end Go.Proofs.YtjbjpkhibcnenaaGreatDoor
/- Package claim: claims and promises as plain values. No program in this text. -/
namespace Go.Proofs.YtjbjpkhibcnenaaGreatDoor
/-- a claim -/
structure CV where
 office : Int
 hour : Int
 inn : Int
 out : Int
 store : Int
 prev : ByteArray
 e : Int
 s : Int
/-- a promise -/
structure PV where
 office : Int
 since : Int
 till : Int
 litres : Int
 e : Int
 s : Int
def zeroC : CV := ⟨0, 0, 0, 0, 0, ⟨#[]⟩, 0, 0⟩
def zeroP : PV := ⟨0, 0, 0, 0, 0, 0⟩
def COk (c : CV) : Prop := I64 c.office ∧ I64 c.hour ∧ I64 c.inn ∧ I64 c.out ∧ I64 c.store ∧ I64 c.e ∧ I64 c.s
def POk (p : PV) : Prop := I64 p.office ∧ I64 p.since ∧ I64 p.till ∧ I64 p.litres ∧ I64 p.e ∧ I64 p.s
def coreC (c : CV) : List UInt8 := intL c.office ++ (intL c.hour ++ (intL c.inn ++ (intL c.out ++ (intL c.store ++ (textC c.prev)))))
def coreP (c : PV) : List UInt8 := intL c.office ++ (intL c.since ++ (intL c.till ++ (intL c.litres)))
theorem coreP_len {c : PV} (h : POk c) : (coreP c).length ≤ 36 := by
 obtain ⟨h_office, h_since, h_till, h_litres, h_e, h_s⟩ := h
 have l_office := intL_len h_office
 have l_since := intL_len h_since
 have l_till := intL_len h_till
 have l_litres := intL_len h_litres
 simp [coreP]
 omega
end Go.Proofs.YtjbjpkhibcnenaaGreatDoor
/- The library functions that package sign calls, by contract: strings.Join, LeadingZeros64, Mul64 (laid by the shelf of the kit, in plain words). -/
namespace Go.Proofs
open Go.Shelf
def Tryz.lays156_ren : Go.Shelf.Ren := ⟨fun | 156 => 152 | 165 => 161 | 166 => 162 | 169 => 163 | 240 => 172 | 241 => 173 | 276 => 180 | 277 => 181 | n => n, fun | 31 => 22 | 9 => 9 | 3 => 3 | 4 => 4 | 0 => 0 | 20 => 20 | 72 => 185 | 76 => 189 | 70 => 183 | 37 => 113 | 75 => 188 | 127 => 202 | 164 => 207 | 5 => 5 | 80 => 191 | n => n, fun | n => n⟩
theorem Tryz.lays156 : Go.Proofs.Lays.n156 Tryz.prog Tryz.lays156_ren := {
 mixed := by kernel_rfl
 f156 := Tryz.func152.trans (congrArg some (by kernel_rfl))
 f165 := Tryz.func161.trans (congrArg some (by kernel_rfl))
 f166 := Tryz.func162.trans (congrArg some (by kernel_rfl))
 f169 := Tryz.func163.trans (congrArg some (by kernel_rfl))
 f240 := Tryz.func172.trans (congrArg some (by kernel_rfl))
 f241 := Tryz.func173.trans (congrArg some (by kernel_rfl))
 f276 := Tryz.func180.trans (congrArg some (by kernel_rfl))
 f277 := Tryz.func181.trans (congrArg some (by kernel_rfl))
 t0 := Tryz.underlying0
 a0 := Tryz.isAgg0
 z0 := Tryz.sizeOf0
 v0 := Tryz.zeroValue0
 t3 := Tryz.underlying3
 a3 := Tryz.isAgg3
 z3 := Tryz.sizeOf3
 v3 := Tryz.zeroValue3
 t4 := Tryz.underlying4
 a4 := Tryz.isAgg4
 z4 := Tryz.sizeOf4
 v4 := Tryz.zeroValue4
 t9 := Tryz.underlying9
 a9 := Tryz.isAgg9
 z9 := Tryz.sizeOf9
 v9 := Tryz.zeroValue9
 t20 := Tryz.underlying20
 a20 := Tryz.isAgg20
 z20 := Tryz.sizeOf20
 v20 := Tryz.zeroValue20
 t31 := Tryz.underlying22
 a31 := Tryz.isAgg22
 z31 := Tryz.sizeOf22
 v31 := Tryz.zeroValue22
 t37 := Tryz.underlying113
 a37 := Tryz.isAgg113
 z37 := Tryz.sizeOf113
 v37 := Tryz.zeroValue113
 t70 := Tryz.underlying183
 a70 := Tryz.isAgg183
 z70 := Tryz.sizeOf183
 v70 := Tryz.zeroValue183
 t72 := Tryz.underlying185
 a72 := Tryz.isAgg185
 z72 := Tryz.sizeOf185
 v72 := Tryz.zeroValue185
 t75 := Tryz.underlying188
 a75 := Tryz.isAgg188
 z75 := Tryz.sizeOf188
 v75 := Tryz.zeroValue188
 t76 := Tryz.underlying189
 a76 := Tryz.isAgg189
 z76 := Tryz.sizeOf189
 v76 := Tryz.zeroValue189
 t127 := Tryz.underlying202
 a127 := Tryz.isAgg202
 z127 := Tryz.sizeOf202
 v127 := Tryz.zeroValue202
 t164 := Tryz.underlying207
 a164 := Tryz.isAgg207
 z164 := Tryz.sizeOf207
 v164 := Tryz.zeroValue207 }
theorem Tryz.Builder_Extra_156 : Builder.Extra Tryz.prog Tryz.lays156_ren := {
 sizeBuilder := by kernel_rfl
 liesBuilder := by kernel_rfl
 t5 := Tryz.underlying5
 a5 := Tryz.isAgg5
 z5 := Tryz.sizeOf5
 v5 := Tryz.zeroValue5
 infoByte := by kernel_rfl
 cellsByte := by kernel_rfl
 sizeByte := by kernel_rfl
 neB5 := by decide }
open Go.RowKit in
theorem Tryz.strings_Join (bk o c : Nat) (xs : List ByteArray) (sep : ByteArray) (w : World) (hcells : ∀ (j : Nat) x, xs[j]? = some x → w.cell? ⟨bk, o + j, none⟩ = some (.string x)) (hbk : bk < w.heap.size) (hN : xs.length ≤ 140737488355328) (hcap : xs.length ≤ c) (hlen : (Lib.join (xs.map (·.data.toList)) sep.data.toList).length ≤ 140737488355328) :
 Calls Tryz.prog 152 #[.slice (some ⟨bk, o, none⟩) xs.length c, .string sep] w fun e w' => e = .returned (.string ⟨(Lib.join (xs.map (·.data.toList)) sep.data.toList).toArray⟩) ∧ Below w.heap.size w w' := Any.strings_Join Tryz.lays156 Tryz.Builder_Extra_156 bk o c xs sep w hcells hbk hN hcap hlen
def Tryz.lays134_ren : Go.Shelf.Ren := ⟨fun | 134 => 174 | 129 => 111 | n => n, fun | 53 => 150 | 3 => 3 | 4 => 4 | 46 => 127 | 5 => 5 | 9 => 9 | n => n, fun | n => n⟩
theorem Tryz.lays134 : Go.Proofs.Lays.n134 Tryz.prog Tryz.lays134_ren := {
 mixed := by kernel_rfl
 f129 := Tryz.func111.trans (congrArg some (by kernel_rfl))
 f134 := Tryz.func174.trans (congrArg some (by kernel_rfl))
 t3 := Tryz.underlying3
 a3 := Tryz.isAgg3
 z3 := Tryz.sizeOf3
 v3 := Tryz.zeroValue3
 t4 := Tryz.underlying4
 a4 := Tryz.isAgg4
 z4 := Tryz.sizeOf4
 v4 := Tryz.zeroValue4
 t5 := Tryz.underlying5
 a5 := Tryz.isAgg5
 z5 := Tryz.sizeOf5
 v5 := Tryz.zeroValue5
 t9 := Tryz.underlying9
 a9 := Tryz.isAgg9
 z9 := Tryz.sizeOf9
 v9 := Tryz.zeroValue9
 t46 := Tryz.underlying127
 a46 := Tryz.isAgg127
 z46 := Tryz.sizeOf127
 v46 := Tryz.zeroValue127
 t53 := Tryz.underlying150
 a53 := Tryz.isAgg150
 z53 := Tryz.sizeOf150
 v53 := Tryz.zeroValue150 }
theorem Tryz.bits_LeadingZeros64 (x : Int) (w : World) (h0 : 0 ≤ x) (h1 : x ≤ 18446744073709551615) :
 Calls Tryz.prog 174 #[.int .u64 x] w fun e w' => e = .returned (.int .i64 (64 - (Lib.bitLen x.toNat : Int))) ∧ w' = w := Any.bits_LeadingZeros64 Tryz.lays134 x w h0 h1
def Tryz.lays264_ren : Go.Shelf.Ren := ⟨fun | 264 => 153 | n => n, fun | 53 => 150 | 46 => 127 | n => n, fun | n => n⟩
theorem Tryz.lays264 : Go.Proofs.Lays.n264 Tryz.prog Tryz.lays264_ren := {
 mixed := by kernel_rfl
 f264 := Tryz.func153.trans (congrArg some (by kernel_rfl))
 t46 := Tryz.underlying127
 a46 := Tryz.isAgg127
 z46 := Tryz.sizeOf127
 v46 := Tryz.zeroValue127
 t53 := Tryz.underlying150
 a53 := Tryz.isAgg150
 z53 := Tryz.sizeOf150
 v53 := Tryz.zeroValue150 }
open Go.RowKit Go.Lib in
theorem Tryz.bits_Mul64 (x y : Nat) (hx : x < 18446744073709551616) (hy : y < 18446744073709551616) (w : World) :
 Calls Tryz.prog 153 #[.int .u64 x, .int .u64 y] w fun e w' => e = .returned (.tuple #[.int .u64 ((x * y / 18446744073709551616 : Nat) : Int), .int .u64 ((x * y % 18446744073709551616 : Nat) : Int)]) ∧ w' = w := Any.bits_Mul64 Tryz.lays264 x y hx hy w
end Go.Proofs
/- The division of 128 by 64 bits, digit by digit: plain laws. -/

namespace Go.Proofs.YtjbjpkhibcnenaaGreatDoor
section
variable {B : Nat}
/-- one digit: what holds of the guess q and its rest r -/
structure DInv (B u y1 y0 u1 : Nat) (q r : Nat) : Prop where
 eq : u = q * y1 + r
 big : (u * B + u1) / (y1 * B + y0) ≤ q
 top : q ≤ B + 1
theorem split_q (B q y1 y0 r u1 : Nat) : (q * y1 + r) * B + u1 + q * y0 = q * (y1 * B + y0) + (r * B + u1) := by
 rw [Nat.add_mul, Nat.mul_add, Nat.mul_assoc]
 omega
theorem dinv_start {u y1 y0 u1 : Nat} (h1 : B ≤ 2 * y1) (h0 : y0 < B) (hu : u < y1 * B + y0) (hu1 : u1 < B) : DInv B u y1 y0 u1 (u / y1) (u % y1) := by
 have e : u = u / y1 * y1 + u % y1 := by rw [Nat.mul_comm]; exact (Nat.div_add_mod u y1).symm
 have hr := Nat.mod_lt u (show y1 > 0 by omega)
 refine ⟨e, ?_, ?_⟩
 ·
  have hlt : u * B + u1 < (y1 * B + y0) * (u / y1 + 1) := by
   rw [Nat.mul_add, Nat.mul_one, Nat.add_mul]
   have e2 : y1 * B * (u / y1) = u / y1 * y1 * B := by rw [Nat.mul_comm (y1 * B), Nat.mul_assoc]
   rw [e2]
   have e3 : u * B = u / y1 * y1 * B + u % y1 * B := by conv => lhs; rw [e, Nat.add_mul]
   have e4 : u % y1 * B + B ≤ y1 * B := by rw [← Nat.succ_mul]; exact Nat.mul_le_mul_right _ hr
   omega
  have := (Nat.div_lt_iff_lt_mul (show 0 < y1 * B + y0 by omega)).2 (by rw [Nat.mul_comm]; exact hlt)
  omega
 ·
  have h : u / y1 < B + 2 := by
   rw [Nat.div_lt_iff_lt_mul (by omega), Nat.add_mul, Nat.mul_comm B]
   omega
  omega
/-- the true digit is a digit -/
theorem dig_lt {u y1 y0 u1 : Nat} (hu : u < y1 * B + y0) (hu1 : u1 < B) : (u * B + u1) / (y1 * B + y0) < B := by
 rw [Nat.div_lt_iff_lt_mul (by omega), Nat.mul_comm B]
 have : u * B + B ≤ (y1 * B + y0) * B := by rw [← Nat.succ_mul]; exact Nat.mul_le_mul_right _ hu
 omega
/-- the guess is too great: one less -/
theorem dinv_less {u y1 y0 u1 q r : Nat} (h : DInv B u y1 y0 u1 q r) (hu : u < y1 * B + y0) (hu1 : u1 < B) (ht : B ≤ q ∨ r * B + u1 < q * y0) : 1 ≤ q ∧ DInv B u y1 y0 u1 (q - 1) (r + y1) := by
 have hlt : (u * B + u1) / (y1 * B + y0) < q := by
  rcases ht with ht | ht
  · exact Nat.lt_of_lt_of_le (dig_lt hu hu1) ht
  ·
   rw [Nat.div_lt_iff_lt_mul (by omega)]
   have := split_q B q y1 y0 r u1
   rw [← h.eq] at this
   omega
 have hq : 1 ≤ q := Nat.lt_of_le_of_lt (Nat.zero_le _) hlt
 refine ⟨hq, ?_, by omega, by have := h.top; omega⟩
 have := h.eq
 obtain ⟨p, rfl⟩ : ∃ p, q = p + 1 := ⟨q - 1, by omega⟩
 rw [Nat.succ_mul] at this
 rw [Nat.add_sub_cancel]
 omega
/-- the guess is the digit -/
theorem dinv_done {u y1 y0 u1 q r : Nat} (h : DInv B u y1 y0 u1 q r) (hY : 0 < y1 * B + y0) (ht : q * y0 ≤ r * B + u1) : q = (u * B + u1) / (y1 * B + y0) := by
 have : q ≤ (u * B + u1) / (y1 * B + y0) := by
  rw [Nat.le_div_iff_mul_le hY]
  have := split_q B q y1 y0 r u1
  rw [← h.eq] at this
  omega
 have := h.big
 omega
theorem dinv_break {u y1 y0 u1 q r : Nat} (h : DInv B u y1 y0 u1 q r) (hY : 0 < y1 * B + y0) (h0 : y0 < B) (hq : q ≤ B) (hr : B ≤ r) : q = (u * B + u1) / (y1 * B + y0) := by
 refine dinv_done h hY ?_
 have a : q * y0 ≤ B * B := Nat.mul_le_mul hq (by omega)
 have b : B * B ≤ r * B := Nat.mul_le_mul_right _ hr
 omega
end
/-- two digits make the quotient -/
theorem two_digits (B u y u1 u0 : Nat) (hy : 0 < y) :
 (u * B + u1) / y * B + ((u * B + u1) % y * B + u0) / y = (u * (B * B) + u1 * B + u0) / y ∧ ((u * B + u1) % y * B + u0) % y = (u * (B * B) + u1 * B + u0) % y := by
 have e : u * (B * B) + u1 * B + u0 = y * ((u * B + u1) / y * B) + ((u * B + u1) % y * B + u0) := by
  have h := Nat.div_add_mod (u * B + u1) y
  have h2 : (u * B + u1) * B = (y * ((u * B + u1) / y) + (u * B + u1) % y) * B := by rw [h]
  rw [Nat.add_mul, Nat.add_mul, Nat.mul_assoc, Nat.mul_assoc] at h2
  omega
 rw [e, Nat.mul_add_div hy, Nat.mul_add_mod]
 exact ⟨rfl, rfl⟩
/-- shifting both changes the rest alone -/
theorem shift_div (n y k : Nat) (hk : 0 < k) : n * k / (y * k) = n / y ∧ n * k % (y * k) = n % y * k :=
 ⟨Nat.mul_div_mul_right _ _ hk, Nat.mul_mod_mul_right _ _ _⟩
end Go.Proofs.YtjbjpkhibcnenaaGreatDoor
