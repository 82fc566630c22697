/- lives of chapter 23: pieces run by the kernel. Printed by rsgen.py. -/
import Derived.Test.YtjibimocplkfiaaGreatDoorRsY
namespace Go.Proofs.YtjibimocplkfiaaGreatDoor
open Go Go.Proofs Go.Ev Go.RowKit Go.Ink

def is10A : List V × List V := ([.str 0 0, .str 2 25132, .int .i64 1], [.str 5 507601104740])
set_option maxRecDepth 100000 in
theorem is10_run : isTrue (runTop Tryz.prog hooks23 dhooks23 3000 60 11 (is10A.1 ++ [.slice 6 0 is10A.2.length is10A.2.length]) (slHeap 6 lr23 9 is10A.2)) = true := by decide +kernel
def is11A : List V × List V := ([.str 1 63, .str 6 106843253531436, .int .i64 3], [.str 9 907075194145871983151])
set_option maxRecDepth 100000 in
theorem is11_run : isTrue (runTop Tryz.prog hooks23 dhooks23 3000 60 11 (is11A.1 ++ [.slice 6 0 is11A.2.length is11A.2.length]) (slHeap 6 lr23 9 is11A.2)) = true := by decide +kernel
def is12A : List V × List V := ([.str 1 63, .str 6 106843253531436, .int .i64 3], [.str 2 13424])
set_option maxRecDepth 100000 in
theorem is12_run : isTrue (runTop Tryz.prog hooks23 dhooks23 3000 60 11 (is12A.1 ++ [.slice 6 0 is12A.2.length is12A.2.length]) (slHeap 6 lr23 9 is12A.2)) = true := by decide +kernel
def is13A : List V × List V := ([.str 1 63, .str 6 106843253531436, .int .i64 3], [.str 4 841757040])
set_option maxRecDepth 100000 in
theorem is13_run : isTrue (runTop Tryz.prog hooks23 dhooks23 3000 60 11 (is13A.1 ++ [.slice 6 0 is13A.2.length is13A.2.length]) (slHeap 6 lr23 9 is13A.2)) = true := by decide +kernel
def is14A : List V × List V := ([.str 0 0, .str 6 106843253531436, .int .i64 1], [.str 3 3239217])
set_option maxRecDepth 100000 in
theorem is14_run : isTrue (runTop Tryz.prog hooks23 dhooks23 3000 60 11 (is14A.1 ++ [.slice 6 0 is14A.2.length is14A.2.length]) (slHeap 6 lr23 9 is14A.2)) = true := by decide +kernel
end Go.Proofs.YtjibimocplkfiaaGreatDoor
