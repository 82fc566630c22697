/- lives of chapter 23: pieces run by the kernel. Printed by rsgen.py. -/
import Derived.Test.YtjibimocplkfiaaGreatDoorRsY
namespace Go.Proofs.YtjibimocplkfiaaGreatDoor
open Go Go.Proofs Go.Ev Go.RowKit Go.Ink

def is5A : List V × List V := ([.str 0 0, .str 5 418258903852, .int .i64 1], [.str 4 824980074])
set_option maxRecDepth 100000 in
theorem is5_run : isTrue (runTop Tryz.prog hooks23 dhooks23 3000 60 11 (is5A.1 ++ [.slice 6 0 is5A.2.length is5A.2.length]) (slHeap 6 lr23 9 is5A.2)) = true := by decide +kernel
def is6A : List V × List V := ([.str 0 0, .str 6 107942781935916, .int .i64 3], [.str 3 3239204])
set_option maxRecDepth 100000 in
theorem is6_run : isTrue (runTop Tryz.prog hooks23 dhooks23 3000 60 11 (is6A.1 ++ [.slice 6 0 is6A.2.length is6A.2.length]) (slHeap 6 lr23 9 is6A.2)) = true := by decide +kernel
def is7A : List V × List V := ([.str 0 0, .str 8 7074135957945738028, .int .i64 1], [.str 3 3306544])
set_option maxRecDepth 100000 in
theorem is7_run : isTrue (runTop Tryz.prog hooks23 dhooks23 3000 60 11 (is7A.1 ++ [.slice 6 0 is7A.2.length is7A.2.length]) (slHeap 6 lr23 9 is7A.2)) = true := by decide +kernel
def is9A : List V × List V := ([.str 0 0, .str 6 109042276786476, .int .i64 1], [.str 6 113452335983920])
set_option maxRecDepth 100000 in
theorem is9_run : isTrue (runTop Tryz.prog hooks23 dhooks23 3000 60 11 (is9A.1 ++ [.slice 6 0 is9A.2.length is9A.2.length]) (slHeap 6 lr23 9 is9A.2)) = true := by decide +kernel
end Go.Proofs.YtjibimocplkfiaaGreatDoor
