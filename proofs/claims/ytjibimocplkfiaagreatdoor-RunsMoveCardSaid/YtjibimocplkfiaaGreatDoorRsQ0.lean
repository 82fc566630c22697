/- lives of chapter 23: pieces run by the kernel. Printed by rsgen.py. -/
import Derived.Test.YtjibimocplkfiaaGreatDoorRsY
namespace Go.Proofs.YtjibimocplkfiaaGreatDoor
open Go Go.Proofs Go.Ev Go.RowKit Go.Ink

def is0A : List V × List V := ([.str 4 1628070410, .str 6 106843253531436, .int .i64 2], [.str 4 824980080])
set_option maxRecDepth 100000 in
theorem is0_run : isTrue (runTop Tryz.prog hooks23 dhooks23 3000 60 11 (is0A.1 ++ [.slice 6 0 is0A.2.length is0A.2.length]) (slHeap 6 lr23 9 is0A.2)) = true := by decide +kernel
def is1A : List V × List V := ([.str 4 839475722, .str 6 106843253531436, .int .i64 2], [.str 2 12910])
set_option maxRecDepth 100000 in
theorem is1_run : isTrue (runTop Tryz.prog hooks23 dhooks23 3000 60 11 (is1A.1 ++ [.slice 6 0 is1A.2.length is1A.2.length]) (slHeap 6 lr23 9 is1A.2)) = true := by decide +kernel
def is2A : List V × List V := ([.str 3 6366218, .str 6 106843253531436, .int .i64 1], [.str 2 12652])
set_option maxRecDepth 100000 in
theorem is2_run : isTrue (runTop Tryz.prog hooks23 dhooks23 3000 60 11 (is2A.1 ++ [.slice 6 0 is2A.2.length is2A.2.length]) (slHeap 6 lr23 9 is2A.2)) = true := by decide +kernel
def is3A : List V × List V := ([.str 0 0, .str 4 1647076140, .int .i64 1], [.str 2 12644])
set_option maxRecDepth 100000 in
theorem is3_run : isTrue (runTop Tryz.prog hooks23 dhooks23 3000 60 11 (is3A.1 ++ [.slice 6 0 is3A.2.length is3A.2.length]) (slHeap 6 lr23 9 is3A.2)) = true := by decide +kernel
def is4A : List V × List V := ([.str 0 0, .str 6 106843253531436, .int .i64 3], [.str 2 12644, .str 1 117])
set_option maxRecDepth 100000 in
theorem is4_run : isTrue (runTop Tryz.prog hooks23 dhooks23 3000 60 11 (is4A.1 ++ [.slice 6 0 is4A.2.length is4A.2.length]) (slHeap 6 lr23 9 is4A.2)) = true := by decide +kernel
end Go.Proofs.YtjibimocplkfiaaGreatDoor
