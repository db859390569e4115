/- The examples of the document: the digests of "abc" and of the empty string, and two Crcs, by evaluation in the kernel. -/
import Derived.Test.YtonhaoieeefglaaDoorSum
import Derived.Test.YtonhaoieeefglaaDoorHex
import Derived.Test.YtonhaoieeefglaaDoorCrc
import Derived.Test.YtonhaoieeefglaaDoorUnhex
namespace Go.Proofs.YtonhaoieeefglaaDoor
theorem kat_abc : hexL (sumB [97, 98, 99]) = [53, 48, 56, 99, 53, 101, 56, 99, 51, 50, 55, 99, 49, 52, 101, 50, 101, 49, 97, 55, 50, 98, 97, 51, 52, 101, 101, 98, 52, 53, 50, 102, 51, 55, 52, 53, 56, 98, 50, 48, 57, 101, 100, 54, 51, 97, 50, 57, 52, 100, 57, 57, 57, 98, 52, 99, 56, 54, 54, 55, 53, 57, 56, 50] := by decide +kernel
theorem kat_nil : hexL (sumB []) = [54, 57, 50, 49, 55, 97, 51, 48, 55, 57, 57, 48, 56, 48, 57, 52, 101, 49, 49, 49, 50, 49, 100, 48, 52, 50, 51, 53, 52, 97, 55, 99, 49, 102, 53, 53, 98, 54, 52, 56, 50, 99, 97, 49, 97, 53, 49, 101, 49, 98, 50, 53, 48, 100, 102, 100, 49, 101, 100, 48, 101, 101, 102, 57] := by decide +kernel
theorem kat_crc : crcL [49, 50, 51, 52, 53, 54, 55, 56, 57] = 36974 := by decide +kernel
theorem kat_crc0 : crcL [] = 0 := by decide +kernel
theorem kat_up : unhexR [48, 65] = ([], false) := by decide +kernel
theorem kat_low : unhexR [48, 97] = ([10], true) := by decide +kernel
end Go.Proofs.YtonhaoieeefglaaDoor
