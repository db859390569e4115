/- The examples of bournelaw23.small, by the kernel. -/
import Derived.Test.YtonhaoieeefglaaFDec
namespace Go.Proofs.Ytonhaoieeefglaa
theorem kat1 : decL [49, 126, 0, 0, 126, 0, 0, 126, 50] = [[], []] := by decide +kernel
theorem kat2 : restL [49, 126, 0, 0, 126, 0, 0, 126, 50] = [126, 50] := by decide +kernel
theorem kat3 : encL [] = [126, 0, 0, 126] := by decide +kernel
def kenc1 : List UInt8 := encL [97, 126, 125]
def kenc2 : List UInt8 := encL [98]
theorem kat4 : decL ((120 :: encL [97, 126, 125]) ++ encL [98]) = [[97, 126, 125], [98]] := by decide +kernel
theorem kat5 : restL ((120 :: encL [97, 126, 125]) ++ encL [98]) = [126] := by decide +kernel
theorem kat6 : ((120 :: encL [97, 126, 125]) ++ encL [98]).length ≤ 100 := by decide +kernel
end Go.Proofs.Ytonhaoieeefglaa
