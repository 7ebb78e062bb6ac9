/- The configuration of the abstract machine for this seat, and closed facts on its types. Written by ai_gen.py. -/
import Derived.Test.YtlklggododajiaaProg
import Derived.Test.YtlklggododajiaaAiEv
import Derived.Test.YtlklggododajiaaAiVar
import Derived.Test.YtlklggododajiaaAiPrim
namespace Go.Ai
open Go.Proofs

def normsOf : FuncId → Nat → Norm
  | 3, 3 => ⟨[3, 4, 5, 6, 7, 9, 15, 38, 39, 40], [14, 15], [], 0⟩
  | 3, 7 => ⟨[3, 4, 5, 6, 7, 9, 15, 17, 18, 38, 39, 40, 52, 53, 54], [3, 4, 5, 6, 7, 9, 14, 15, 17, 18, 38, 39, 40], [], 0⟩
  | 3, 17 => ⟨[3, 4, 5, 6, 7, 9, 15, 38, 39, 40, 130, 131, 132], [3, 4, 5, 6, 7, 9, 14, 15, 38, 39, 40], [], 0⟩
  | 4, 3 => ⟨[1, 3, 5, 7, 8], [6, 7], [], 0⟩
  | 4, 6 => ⟨[1, 3, 5, 7, 8, 26, 27, 28], [1, 3, 5, 6, 7, 8], [], 0⟩
  | 5, 3 => ⟨[0, 2, 3, 4, 6, 11, 12], [10, 11], [], 0⟩
  | 5, 8 => ⟨[0, 2, 3, 4, 6, 11, 12, 67, 68, 69], [0, 2, 3, 4, 6, 10, 11, 12], [], 0⟩
  | 6, 3 => ⟨[7, 22, 23, 24], [6, 7], [], 0⟩
  | 7, 3 => ⟨[2, 3, 4, 5, 9, 10], [8, 9], [], 0⟩
  | 11, 7 => ⟨[0, 3, 6, 22], [0, 4, 5, 6], [(6, 44, 2)], 0⟩
  | 13, 2 => ⟨[0, 3, 7, 8], [0, 3, 4], [], 0⟩
  | 15, 9 => ⟨[3, 5, 8, 34, 35, 36], [2, 3, 4, 5, 8], [], 0⟩
  | 16, 9 => ⟨[3, 5, 6, 8, 9], [2, 3, 4, 5, 8], [], 0⟩
  | 18, 5 => ⟨[4, 14, 15, 16], [2, 3, 4], [], 0⟩
  | 18, 8 => ⟨[4, 6, 14, 15, 16, 25, 26], [2, 3, 4, 6, 14, 15, 16], [], 0⟩
  | 20, 6 => ⟨[0, 5, 6], [2, 3, 5], [], 0⟩
  | 24, 4 => ⟨[2, 3, 4], [2, 3], [(2, 44, 2)], 0⟩
  | 26, 5 => ⟨[0, 4, 5], [2, 3, 4], [(4, 44, 2)], 0⟩
  | 29, 3 => ⟨[0, 3, 6, 7, 8], [0, 2], [], 0⟩
  | 33, 4 => ⟨[0, 4], [0, 2, 3, 4], [], 0⟩
  | 34, 2 => ⟨[0, 3], [0, 2], [], 0⟩
  | 36, 8 => ⟨[0, 5, 6, 7], [2, 3, 4, 5, 6], [], 0⟩
  | 37, 4 => ⟨[0, 5, 6, 7], [0, 2, 3, 4], [], 0⟩
  | 42, 2 => ⟨[0, 6, 7], [2], [], 0⟩
  | 43, 0 => ⟨[0, 1], [0, 1], [], 0⟩
  | _, _ => ⟨[], [], [], 0⟩
def cutsOf : FuncId → Nat → Option Norm
  | 12, 9 => some ⟨[0, 3, 8], [], [], 0⟩
  | 12, 10 => some ⟨[0, 3, 8], [], [], 0⟩
  | 12, 11 => some ⟨[0, 3, 8], [], [], 0⟩
  | 12, 13 => some ⟨[0, 3, 8], [], [], 0⟩
  | 12, 14 => some ⟨[0, 8], [], [], 0⟩
  | _, _ => none
def heapOf : FuncId → Bool
  | 19 => true
  | 21 => true
  | 25 => true
  | 30 => true
  | 31 => true
  | 32 => true
  | 35 => true
  | 39 => true
  | 40 => true
  | 41 => true
  | 60 => true
  | _ => false
def quietOf : FuncId → Bool
  | 21 => true
  | _ => false
def drawsOf : FuncId → Nat → Option (List Nat)
  | 3, 5 => some [0, 3, 4, 1, 2, 5, 6, 7]
  | 3, 11 => some [0, 1, 2, 3, 4, 5, 6, 7, 8, 9, 10, 12, 13, 11, 14, 15, 16]
  | 3, 14 => some [0, 3, 1, 2, 4, 5, 6, 7, 8, 9]
  | 3, 16 => some [0, 1, 2, 3, 4, 5, 6, 7, 8, 9, 10, 11, 12, 13, 14, 15, 16, 17, 18, 19, 20, 21, 22, 23, 24, 25, 26, 27, 28, 31, 29, 30]
  | 4, 5 => some [0, 1, 2, 4, 7, 3, 5, 6]
  | 5, 7 => some [0, 1, 2, 3, 4, 5, 6, 7, 8, 9, 10, 11, 12, 13, 14, 15, 16, 17, 18, 19, 20, 21, 22, 23, 24, 27, 25, 26]
  | 6, 2 => some [0, 1, 3, 4, 6, 9, 2, 5, 7, 8]
  | 6, 7 => some [0, 1, 2, 3, 4, 5, 6, 7, 8, 9, 10, 11, 12, 13, 14, 15, 16, 17, 18, 19, 20, 21, 22, 23, 24, 25, 26, 27, 28, 29, 30, 31, 32, 33, 34, 35, 36, 37, 38, 39, 40, 41, 42, 43]
  | 9, 1 => some [0, 1, 4, 5, 7, 8, 10, 11, 13, 14, 15, 16, 17, 2, 3, 6, 9, 12, 18, 19, 20]
  | 13, 7 => some [0, 1, 2, 3, 4, 5, 6, 7, 8, 9, 10, 11, 12, 13, 14, 15, 16, 17, 18, 19, 20, 21, 22, 23, 24, 25]
  | 15, 16 => some [0, 1, 2, 3, 4]
  | 16, 31 => some [0, 1, 2, 3, 4]
  | 21, 1 => some [0, 1, 2, 3, 4, 5, 6, 7, 8, 9, 10, 11, 12, 13, 14, 15, 16]
  | 25, 7 => some [0, 2, 3, 5, 1, 4, 6, 7]
  | 34, 4 => some [0, 1, 2, 3, 4, 5, 6, 7, 8, 9, 10, 11, 12, 13, 14, 15, 16, 17, 18, 19, 20, 21, 22, 23, 24, 25, 26, 27, 28, 29, 30, 31, 32, 33, 34, 35, 36, 37, 38, 39, 40]
  | 35, 4 => some [0, 1, 2, 3, 4, 5, 6, 7, 8, 9, 10, 11]
  | _, _ => none
def primOf : FuncId → Option Prim
  | 28 => some primPut
  | 32 => some (primString 62 5)
  | 39 => some (primCheck 62)
  | _ => none
def shpOf : FuncId → List (List (Option Nat))
  | 18 => [[some 2]]
  | 19 => [[some 2], [none], [none]]
  | 20 => [[some 2]]
  | 29 => [[some 2]]
  | 34 => [[some 2]]
  | _ => []
noncomputable def C : Cfg := { P := Try.prog, norms := normsOf, cuts := cutsOf, heap := heapOf, draws := drawsOf, prim := primOf, quiet := quietOf, shp := shpOf }
theorem C_P : C.P = Try.prog := rfl
theorem C_norms (f n : Nat) : C.norms f n = normsOf f n := rfl
theorem C_heap (f : Nat) : C.heap f = heapOf f := rfl
theorem C_cuts (f n : Nat) : C.cuts f n = cutsOf f n := rfl
theorem C_quiet (f : Nat) : C.quiet f = quietOf f := rfl
theorem C_draws (f n : Nat) : C.draws f n = drawsOf f n := rfl
theorem C_prim (f : Nat) : C.prim f = primOf f := rfl
theorem C_shp (f : Nat) : C.shp f = shpOf f := rfl
theorem sz_2 : szOf Try.prog 2 = 1 := by kernel_rfl
theorem so_2 : szO Try.prog 2 = some 1 := by kernel_rfl
theorem ag_2 : isAg Try.prog 2 = some false := by kernel_rfl
theorem sh_2 : shapes Try.prog 10 2 = [.int .i64] := by kernel_rfl
theorem ze_2 : zeroC Try.prog 2 = some [.v (.int .i64 0)] := by kernel_rfl
theorem un_2 : Try.prog.underlying 2 = some (.int .i64) := by kernel_rfl
theorem ap_2 : appOk Try.prog 2 = true := by kernel_rfl
theorem by_2 : byOf Try.prog 2 = 8 := by kernel_rfl
theorem sz_3 : szOf Try.prog 3 = 1 := by kernel_rfl
theorem so_3 : szO Try.prog 3 = some 1 := by kernel_rfl
theorem ag_3 : isAg Try.prog 3 = some false := by kernel_rfl
theorem sh_3 : shapes Try.prog 10 3 = [.int .i64] := by kernel_rfl
theorem ze_3 : zeroC Try.prog 3 = some [.v (.int .i64 0)] := by kernel_rfl
theorem un_3 : Try.prog.underlying 3 = some (.int .i64) := by kernel_rfl
theorem ap_3 : appOk Try.prog 3 = true := by kernel_rfl
theorem by_3 : byOf Try.prog 3 = 8 := by kernel_rfl
theorem sz_4 : szOf Try.prog 4 = 1 := by kernel_rfl
theorem so_4 : szO Try.prog 4 = some 1 := by kernel_rfl
theorem ag_4 : isAg Try.prog 4 = some false := by kernel_rfl
theorem sh_4 : shapes Try.prog 10 4 = [.bool] := by kernel_rfl
theorem ze_4 : zeroC Try.prog 4 = some [.v (.bool false)] := by kernel_rfl
theorem un_4 : Try.prog.underlying 4 = some .bool := by kernel_rfl
theorem ap_4 : appOk Try.prog 4 = true := by kernel_rfl
theorem by_4 : byOf Try.prog 4 = 1 := by kernel_rfl
theorem sz_5 : szOf Try.prog 5 = 1 := by kernel_rfl
theorem so_5 : szO Try.prog 5 = some 1 := by kernel_rfl
theorem ag_5 : isAg Try.prog 5 = some false := by kernel_rfl
theorem sh_5 : shapes Try.prog 10 5 = [.int .u8] := by kernel_rfl
theorem ze_5 : zeroC Try.prog 5 = some [.v (.int .u8 0)] := by kernel_rfl
theorem un_5 : Try.prog.underlying 5 = some (.int .u8) := by kernel_rfl
theorem ap_5 : appOk Try.prog 5 = true := by kernel_rfl
theorem by_5 : byOf Try.prog 5 = 1 := by kernel_rfl
theorem sz_6 : szOf Try.prog 6 = 1 := by kernel_rfl
theorem so_6 : szO Try.prog 6 = some 1 := by kernel_rfl
theorem ag_6 : isAg Try.prog 6 = some false := by kernel_rfl
theorem sh_6 : shapes Try.prog 10 6 = [.int .u8] := by kernel_rfl
theorem ze_6 : zeroC Try.prog 6 = some [.v (.int .u8 0)] := by kernel_rfl
theorem un_6 : Try.prog.underlying 6 = some (.int .u8) := by kernel_rfl
theorem ap_6 : appOk Try.prog 6 = true := by kernel_rfl
theorem by_6 : byOf Try.prog 6 = 1 := by kernel_rfl
theorem sz_7 : szOf Try.prog 7 = 4 := by kernel_rfl
theorem so_7 : szO Try.prog 7 = some 4 := by kernel_rfl
theorem ag_7 : isAg Try.prog 7 = some true := by kernel_rfl
theorem sh_7 : shapes Try.prog 10 7 = [.int .i64, .int .i64, .bool, .int .u8] := by kernel_rfl
theorem ze_7 : zeroC Try.prog 7 = some [.v (.int .i64 0), .v (.int .i64 0), .v (.bool false), .v (.int .u8 0)] := by kernel_rfl
theorem fo_7_0 : fieldOf Try.prog 7 0 = some (0, 2) := by kernel_rfl
theorem pl_7_0 : placesA Try.prog 7 0 = some (0, 1) := by kernel_rfl
theorem fo_7_1 : fieldOf Try.prog 7 1 = some (1, 3) := by kernel_rfl
theorem pl_7_1 : placesA Try.prog 7 1 = some (1, 1) := by kernel_rfl
theorem fo_7_2 : fieldOf Try.prog 7 2 = some (2, 4) := by kernel_rfl
theorem pl_7_2 : placesA Try.prog 7 2 = some (2, 1) := by kernel_rfl
theorem fo_7_3 : fieldOf Try.prog 7 3 = some (3, 6) := by kernel_rfl
theorem pl_7_3 : placesA Try.prog 7 3 = some (3, 1) := by kernel_rfl
theorem ap_7 : appOk Try.prog 7 = true := by kernel_rfl
theorem pd_7 : placed Try.prog 7 = true := by kernel_rfl
theorem by_7 : byOf Try.prog 7 = 24 := by kernel_rfl
theorem sz_8 : szOf Try.prog 8 = 4 := by kernel_rfl
theorem so_8 : szO Try.prog 8 = some 4 := by kernel_rfl
theorem ag_8 : isAg Try.prog 8 = some true := by kernel_rfl
theorem sh_8 : shapes Try.prog 10 8 = [.int .i64, .int .i64, .bool, .int .u8] := by kernel_rfl
theorem ze_8 : zeroC Try.prog 8 = some [.v (.int .i64 0), .v (.int .i64 0), .v (.bool false), .v (.int .u8 0)] := by kernel_rfl
theorem fo_8_0 : fieldOf Try.prog 8 0 = some (0, 2) := by kernel_rfl
theorem pl_8_0 : placesA Try.prog 8 0 = some (0, 1) := by kernel_rfl
theorem fo_8_1 : fieldOf Try.prog 8 1 = some (1, 3) := by kernel_rfl
theorem pl_8_1 : placesA Try.prog 8 1 = some (1, 1) := by kernel_rfl
theorem fo_8_2 : fieldOf Try.prog 8 2 = some (2, 4) := by kernel_rfl
theorem pl_8_2 : placesA Try.prog 8 2 = some (2, 1) := by kernel_rfl
theorem fo_8_3 : fieldOf Try.prog 8 3 = some (3, 6) := by kernel_rfl
theorem pl_8_3 : placesA Try.prog 8 3 = some (3, 1) := by kernel_rfl
theorem ap_8 : appOk Try.prog 8 = true := by kernel_rfl
theorem pd_8 : placed Try.prog 8 = true := by kernel_rfl
theorem by_8 : byOf Try.prog 8 = 24 := by kernel_rfl
theorem sz_9 : szOf Try.prog 9 = 1 := by kernel_rfl
theorem so_9 : szO Try.prog 9 = some 1 := by kernel_rfl
theorem ag_9 : isAg Try.prog 9 = some false := by kernel_rfl
theorem sh_9 : shapes Try.prog 10 9 = [.str] := by kernel_rfl
theorem ze_9 : zeroC Try.prog 9 = some [.v (.string ⟨#[]⟩)] := by kernel_rfl
theorem un_9 : Try.prog.underlying 9 = some .string := by kernel_rfl
theorem ap_9 : appOk Try.prog 9 = true := by kernel_rfl
theorem by_9 : byOf Try.prog 9 = 16 := by kernel_rfl
theorem sz_10 : szOf Try.prog 10 = 1 := by kernel_rfl
theorem so_10 : szO Try.prog 10 = some 1 := by kernel_rfl
theorem ag_10 : isAg Try.prog 10 = some false := by kernel_rfl
theorem sh_10 : shapes Try.prog 10 10 = [.str] := by kernel_rfl
theorem ze_10 : zeroC Try.prog 10 = some [.v (.string ⟨#[]⟩)] := by kernel_rfl
theorem un_10 : Try.prog.underlying 10 = some .string := by kernel_rfl
theorem ap_10 : appOk Try.prog 10 = true := by kernel_rfl
theorem by_10 : byOf Try.prog 10 = 16 := by kernel_rfl
theorem sz_11 : szOf Try.prog 11 = 1 := by kernel_rfl
theorem so_11 : szO Try.prog 11 = some 1 := by kernel_rfl
theorem ag_11 : isAg Try.prog 11 = some false := by kernel_rfl
theorem sh_11 : shapes Try.prog 10 11 = [.str] := by kernel_rfl
theorem ze_11 : zeroC Try.prog 11 = some [.v (.string ⟨#[]⟩)] := by kernel_rfl
theorem un_11 : Try.prog.underlying 11 = some .string := by kernel_rfl
theorem ap_11 : appOk Try.prog 11 = true := by kernel_rfl
theorem by_11 : byOf Try.prog 11 = 16 := by kernel_rfl
theorem sz_12 : szOf Try.prog 12 = 1 := by kernel_rfl
theorem so_12 : szO Try.prog 12 = some 1 := by kernel_rfl
theorem ag_12 : isAg Try.prog 12 = some false := by kernel_rfl
theorem sh_12 : shapes Try.prog 10 12 = [.int .u64] := by kernel_rfl
theorem ze_12 : zeroC Try.prog 12 = some [.v (.int .u64 0)] := by kernel_rfl
theorem un_12 : Try.prog.underlying 12 = some (.int .u64) := by kernel_rfl
theorem ap_12 : appOk Try.prog 12 = true := by kernel_rfl
theorem by_12 : byOf Try.prog 12 = 8 := by kernel_rfl
theorem sz_13 : szOf Try.prog 13 = 2 := by kernel_rfl
theorem so_13 : szO Try.prog 13 = some 2 := by kernel_rfl
theorem ag_13 : isAg Try.prog 13 = some true := by kernel_rfl
theorem sh_13 : shapes Try.prog 10 13 = [.str, .int .u64] := by kernel_rfl
theorem ze_13 : zeroC Try.prog 13 = some [.v (.string ⟨#[]⟩), .v (.int .u64 0)] := by kernel_rfl
theorem fo_13_0 : fieldOf Try.prog 13 0 = some (0, 9) := by kernel_rfl
theorem pl_13_0 : placesA Try.prog 13 0 = some (0, 1) := by kernel_rfl
theorem fo_13_1 : fieldOf Try.prog 13 1 = some (1, 12) := by kernel_rfl
theorem pl_13_1 : placesA Try.prog 13 1 = some (1, 1) := by kernel_rfl
theorem ap_13 : appOk Try.prog 13 = true := by kernel_rfl
theorem pd_13 : placed Try.prog 13 = true := by kernel_rfl
theorem by_13 : byOf Try.prog 13 = 24 := by kernel_rfl
theorem sz_14 : szOf Try.prog 14 = 2 := by kernel_rfl
theorem so_14 : szO Try.prog 14 = some 2 := by kernel_rfl
theorem ag_14 : isAg Try.prog 14 = some true := by kernel_rfl
theorem sh_14 : shapes Try.prog 10 14 = [.str, .int .u64] := by kernel_rfl
theorem ze_14 : zeroC Try.prog 14 = some [.v (.string ⟨#[]⟩), .v (.int .u64 0)] := by kernel_rfl
theorem fo_14_0 : fieldOf Try.prog 14 0 = some (0, 9) := by kernel_rfl
theorem pl_14_0 : placesA Try.prog 14 0 = some (0, 1) := by kernel_rfl
theorem fo_14_1 : fieldOf Try.prog 14 1 = some (1, 12) := by kernel_rfl
theorem pl_14_1 : placesA Try.prog 14 1 = some (1, 1) := by kernel_rfl
theorem ap_14 : appOk Try.prog 14 = true := by kernel_rfl
theorem pd_14 : placed Try.prog 14 = true := by kernel_rfl
theorem by_14 : byOf Try.prog 14 = 24 := by kernel_rfl
theorem sz_15 : szOf Try.prog 15 = 1 := by kernel_rfl
theorem so_15 : szO Try.prog 15 = some 1 := by kernel_rfl
theorem ag_15 : isAg Try.prog 15 = some false := by kernel_rfl
theorem ze_15 : zeroC Try.prog 15 = some [.v (.pointer none)] := by kernel_rfl
theorem pt_15 : ptrOf Try.prog 15 = some 89 := by kernel_rfl
theorem ap_15 : appOk Try.prog 15 = true := by kernel_rfl
theorem by_15 : byOf Try.prog 15 = 8 := by kernel_rfl
theorem sz_16 : szOf Try.prog 16 = 1 := by kernel_rfl
theorem so_16 : szO Try.prog 16 = some 1 := by kernel_rfl
theorem ag_16 : isAg Try.prog 16 = some false := by kernel_rfl
theorem ze_16 : zeroC Try.prog 16 = some [.v (.pointer none)] := by kernel_rfl
theorem pt_16 : ptrOf Try.prog 16 = some 92 := by kernel_rfl
theorem ap_16 : appOk Try.prog 16 = true := by kernel_rfl
theorem by_16 : byOf Try.prog 16 = 8 := by kernel_rfl
theorem sz_17 : szOf Try.prog 17 = 1 := by kernel_rfl
theorem so_17 : szO Try.prog 17 = some 1 := by kernel_rfl
theorem ag_17 : isAg Try.prog 17 = some false := by kernel_rfl
theorem ze_17 : zeroC Try.prog 17 = some [.v (.pointer none)] := by kernel_rfl
theorem pt_17 : ptrOf Try.prog 17 = some 100 := by kernel_rfl
theorem ap_17 : appOk Try.prog 17 = true := by kernel_rfl
theorem by_17 : byOf Try.prog 17 = 8 := by kernel_rfl
theorem sz_18 : szOf Try.prog 18 = 1 := by kernel_rfl
theorem so_18 : szO Try.prog 18 = some 1 := by kernel_rfl
theorem ag_18 : isAg Try.prog 18 = some true := by kernel_rfl
theorem ze_18 : zeroC Try.prog 18 = some [.v (.pointer none)] := by kernel_rfl
theorem fo_18_0 : fieldOf Try.prog 18 0 = some (0, 17) := by kernel_rfl
theorem pl_18_0 : placesA Try.prog 18 0 = some (0, 1) := by kernel_rfl
theorem ap_18 : appOk Try.prog 18 = true := by kernel_rfl
theorem pd_18 : placed Try.prog 18 = true := by kernel_rfl
theorem by_18 : byOf Try.prog 18 = 8 := by kernel_rfl
theorem sz_19 : szOf Try.prog 19 = 1 := by kernel_rfl
theorem so_19 : szO Try.prog 19 = some 1 := by kernel_rfl
theorem ag_19 : isAg Try.prog 19 = some true := by kernel_rfl
theorem ze_19 : zeroC Try.prog 19 = some [.v (.pointer none)] := by kernel_rfl
theorem fo_19_0 : fieldOf Try.prog 19 0 = some (0, 17) := by kernel_rfl
theorem pl_19_0 : placesA Try.prog 19 0 = some (0, 1) := by kernel_rfl
theorem ap_19 : appOk Try.prog 19 = true := by kernel_rfl
theorem pd_19 : placed Try.prog 19 = true := by kernel_rfl
theorem by_19 : byOf Try.prog 19 = 8 := by kernel_rfl
theorem sz_21 : szOf Try.prog 21 = 1 := by kernel_rfl
theorem so_21 : szO Try.prog 21 = some 1 := by kernel_rfl
theorem ag_21 : isAg Try.prog 21 = some false := by kernel_rfl
theorem sh_21 : shapes Try.prog 10 21 = [.int .i32] := by kernel_rfl
theorem ze_21 : zeroC Try.prog 21 = some [.v (.int .i32 0)] := by kernel_rfl
theorem un_21 : Try.prog.underlying 21 = some (.int .i32) := by kernel_rfl
theorem ap_21 : appOk Try.prog 21 = true := by kernel_rfl
theorem by_21 : byOf Try.prog 21 = 4 := by kernel_rfl
theorem sz_22 : szOf Try.prog 22 = 6 := by kernel_rfl
theorem so_22 : szO Try.prog 22 = some 6 := by kernel_rfl
theorem ag_22 : isAg Try.prog 22 = some true := by kernel_rfl
theorem sh_22 : shapes Try.prog 10 22 = [.int .i64, .int .i64, .int .i64, .int .i64, .str, .int .i64] := by kernel_rfl
theorem ze_22 : zeroC Try.prog 22 = some [.v (.int .i64 0), .v (.int .i64 0), .v (.int .i64 0), .v (.int .i64 0), .v (.string ⟨#[]⟩), .v (.int .i64 0)] := by kernel_rfl
theorem fs_22 : flatSh Try.prog 22 = some [.int .i64, .int .i64, .int .i64, .int .i64, .str, .int .i64] := by kernel_rfl
theorem fo_22_0 : fieldOf Try.prog 22 0 = some (0, 3) := by kernel_rfl
theorem pl_22_0 : placesA Try.prog 22 0 = some (0, 1) := by kernel_rfl
theorem fo_22_1 : fieldOf Try.prog 22 1 = some (1, 3) := by kernel_rfl
theorem pl_22_1 : placesA Try.prog 22 1 = some (1, 1) := by kernel_rfl
theorem fo_22_2 : fieldOf Try.prog 22 2 = some (2, 3) := by kernel_rfl
theorem pl_22_2 : placesA Try.prog 22 2 = some (2, 1) := by kernel_rfl
theorem fo_22_3 : fieldOf Try.prog 22 3 = some (3, 3) := by kernel_rfl
theorem pl_22_3 : placesA Try.prog 22 3 = some (3, 1) := by kernel_rfl
theorem fo_22_4 : fieldOf Try.prog 22 4 = some (4, 9) := by kernel_rfl
theorem pl_22_4 : placesA Try.prog 22 4 = some (4, 1) := by kernel_rfl
theorem fo_22_5 : fieldOf Try.prog 22 5 = some (5, 3) := by kernel_rfl
theorem pl_22_5 : placesA Try.prog 22 5 = some (5, 1) := by kernel_rfl
theorem ap_22 : appOk Try.prog 22 = true := by kernel_rfl
theorem pd_22 : placed Try.prog 22 = true := by kernel_rfl
theorem by_22 : byOf Try.prog 22 = 56 := by kernel_rfl
theorem sz_23 : szOf Try.prog 23 = 6 := by kernel_rfl
theorem so_23 : szO Try.prog 23 = some 6 := by kernel_rfl
theorem ag_23 : isAg Try.prog 23 = some true := by kernel_rfl
theorem sh_23 : shapes Try.prog 10 23 = [.int .i64, .int .i64, .int .i64, .int .i64, .str, .int .i64] := by kernel_rfl
theorem ze_23 : zeroC Try.prog 23 = some [.v (.int .i64 0), .v (.int .i64 0), .v (.int .i64 0), .v (.int .i64 0), .v (.string ⟨#[]⟩), .v (.int .i64 0)] := by kernel_rfl
theorem fs_23 : flatSh Try.prog 23 = some [.int .i64, .int .i64, .int .i64, .int .i64, .str, .int .i64] := by kernel_rfl
theorem fo_23_0 : fieldOf Try.prog 23 0 = some (0, 3) := by kernel_rfl
theorem pl_23_0 : placesA Try.prog 23 0 = some (0, 1) := by kernel_rfl
theorem fo_23_1 : fieldOf Try.prog 23 1 = some (1, 3) := by kernel_rfl
theorem pl_23_1 : placesA Try.prog 23 1 = some (1, 1) := by kernel_rfl
theorem fo_23_2 : fieldOf Try.prog 23 2 = some (2, 3) := by kernel_rfl
theorem pl_23_2 : placesA Try.prog 23 2 = some (2, 1) := by kernel_rfl
theorem fo_23_3 : fieldOf Try.prog 23 3 = some (3, 3) := by kernel_rfl
theorem pl_23_3 : placesA Try.prog 23 3 = some (3, 1) := by kernel_rfl
theorem fo_23_4 : fieldOf Try.prog 23 4 = some (4, 9) := by kernel_rfl
theorem pl_23_4 : placesA Try.prog 23 4 = some (4, 1) := by kernel_rfl
theorem fo_23_5 : fieldOf Try.prog 23 5 = some (5, 3) := by kernel_rfl
theorem pl_23_5 : placesA Try.prog 23 5 = some (5, 1) := by kernel_rfl
theorem ap_23 : appOk Try.prog 23 = true := by kernel_rfl
theorem pd_23 : placed Try.prog 23 = true := by kernel_rfl
theorem by_23 : byOf Try.prog 23 = 56 := by kernel_rfl
theorem sz_24 : szOf Try.prog 24 = 5 := by kernel_rfl
theorem so_24 : szO Try.prog 24 = some 5 := by kernel_rfl
theorem ag_24 : isAg Try.prog 24 = some true := by kernel_rfl
theorem sh_24 : shapes Try.prog 10 24 = [.int .i64, .int .i64, .int .i64, .int .i64, .int .i64] := by kernel_rfl
theorem ze_24 : zeroC Try.prog 24 = some [.v (.int .i64 0), .v (.int .i64 0), .v (.int .i64 0), .v (.int .i64 0), .v (.int .i64 0)] := by kernel_rfl
theorem ar_24 : arrOf Try.prog 24 = some (5, 3) := by kernel_rfl
theorem pl_24 (i : Nat) : placesA Try.prog 24 i = some (i * szOf Try.prog 3, szOf Try.prog 3) := by kernel_rfl
theorem ap_24 : appOk Try.prog 24 = true := by kernel_rfl
theorem pd_24 : placed Try.prog 24 = true := by kernel_rfl
theorem by_24 : byOf Try.prog 24 = 40 := by kernel_rfl
theorem sz_26 : szOf Try.prog 26 = 1 := by kernel_rfl
theorem so_26 : szO Try.prog 26 = some 1 := by kernel_rfl
theorem ag_26 : isAg Try.prog 26 = some false := by kernel_rfl
theorem sh_26 : shapes Try.prog 10 26 = [.sl 1] := by kernel_rfl
theorem ze_26 : zeroC Try.prog 26 = some [.v (.slice none 0 0)] := by kernel_rfl
theorem el_26 : elemOfS Try.prog 26 = some 3 := by kernel_rfl
theorem un_26 : Try.prog.underlying 26 = some (.slice 3) := by kernel_rfl
theorem ap_26 : appOk Try.prog 26 = true := by kernel_rfl
theorem by_26 : byOf Try.prog 26 = 24 := by kernel_rfl
theorem sz_29 : szOf Try.prog 29 = 1 := by kernel_rfl
theorem so_29 : szO Try.prog 29 = some 1 := by kernel_rfl
theorem ag_29 : isAg Try.prog 29 = some false := by kernel_rfl
theorem sh_29 : shapes Try.prog 10 29 = [.sl 6] := by kernel_rfl
theorem ze_29 : zeroC Try.prog 29 = some [.v (.slice none 0 0)] := by kernel_rfl
theorem el_29 : elemOfS Try.prog 29 = some 23 := by kernel_rfl
theorem un_29 : Try.prog.underlying 29 = some (.slice 23) := by kernel_rfl
theorem ap_29 : appOk Try.prog 29 = true := by kernel_rfl
theorem by_29 : byOf Try.prog 29 = 24 := by kernel_rfl
theorem sz_30 : szOf Try.prog 30 = 1 := by kernel_rfl
theorem so_30 : szO Try.prog 30 = some 1 := by kernel_rfl
theorem ag_30 : isAg Try.prog 30 = some false := by kernel_rfl
theorem sh_30 : shapes Try.prog 10 30 = [.int .i64] := by kernel_rfl
theorem ze_30 : zeroC Try.prog 30 = some [.v (.int .i64 0)] := by kernel_rfl
theorem un_30 : Try.prog.underlying 30 = some (.int .i64) := by kernel_rfl
theorem ap_30 : appOk Try.prog 30 = true := by kernel_rfl
theorem by_30 : byOf Try.prog 30 = 8 := by kernel_rfl
theorem sz_34 : szOf Try.prog 34 = 1 := by kernel_rfl
theorem so_34 : szO Try.prog 34 = some 1 := by kernel_rfl
theorem ag_34 : isAg Try.prog 34 = some false := by kernel_rfl
theorem sh_34 : shapes Try.prog 10 34 = [.sl 1] := by kernel_rfl
theorem ze_34 : zeroC Try.prog 34 = some [.v (.slice none 0 0)] := by kernel_rfl
theorem el_34 : elemOfS Try.prog 34 = some 9 := by kernel_rfl
theorem un_34 : Try.prog.underlying 34 = some (.slice 9) := by kernel_rfl
theorem ap_34 : appOk Try.prog 34 = true := by kernel_rfl
theorem by_34 : byOf Try.prog 34 = 24 := by kernel_rfl
theorem sz_41 : szOf Try.prog 41 = 1 := by kernel_rfl
theorem so_41 : szO Try.prog 41 = some 1 := by kernel_rfl
theorem ag_41 : isAg Try.prog 41 = some false := by kernel_rfl
theorem sh_41 : shapes Try.prog 10 41 = [.sl 2] := by kernel_rfl
theorem ze_41 : zeroC Try.prog 41 = some [.v (.slice none 0 0)] := by kernel_rfl
theorem el_41 : elemOfS Try.prog 41 = some 44 := by kernel_rfl
theorem un_41 : Try.prog.underlying 41 = some (.slice 44) := by kernel_rfl
theorem ap_41 : appOk Try.prog 41 = true := by kernel_rfl
theorem by_41 : byOf Try.prog 41 = 24 := by kernel_rfl
theorem sz_43 : szOf Try.prog 43 = 2 := by kernel_rfl
theorem so_43 : szO Try.prog 43 = some 2 := by kernel_rfl
theorem ag_43 : isAg Try.prog 43 = some true := by kernel_rfl
theorem sh_43 : shapes Try.prog 10 43 = [.int .i64, .str] := by kernel_rfl
theorem ze_43 : zeroC Try.prog 43 = some [.v (.int .i64 0), .v (.string ⟨#[]⟩)] := by kernel_rfl
theorem fs_43 : flatSh Try.prog 43 = some [.int .i64, .str] := by kernel_rfl
theorem fo_43_0 : fieldOf Try.prog 43 0 = some (0, 3) := by kernel_rfl
theorem pl_43_0 : placesA Try.prog 43 0 = some (0, 1) := by kernel_rfl
theorem fo_43_1 : fieldOf Try.prog 43 1 = some (1, 9) := by kernel_rfl
theorem pl_43_1 : placesA Try.prog 43 1 = some (1, 1) := by kernel_rfl
theorem ap_43 : appOk Try.prog 43 = true := by kernel_rfl
theorem pd_43 : placed Try.prog 43 = true := by kernel_rfl
theorem by_43 : byOf Try.prog 43 = 24 := by kernel_rfl
theorem sz_44 : szOf Try.prog 44 = 2 := by kernel_rfl
theorem so_44 : szO Try.prog 44 = some 2 := by kernel_rfl
theorem ag_44 : isAg Try.prog 44 = some true := by kernel_rfl
theorem sh_44 : shapes Try.prog 10 44 = [.int .i64, .str] := by kernel_rfl
theorem ze_44 : zeroC Try.prog 44 = some [.v (.int .i64 0), .v (.string ⟨#[]⟩)] := by kernel_rfl
theorem fs_44 : flatSh Try.prog 44 = some [.int .i64, .str] := by kernel_rfl
theorem fo_44_0 : fieldOf Try.prog 44 0 = some (0, 3) := by kernel_rfl
theorem pl_44_0 : placesA Try.prog 44 0 = some (0, 1) := by kernel_rfl
theorem fo_44_1 : fieldOf Try.prog 44 1 = some (1, 9) := by kernel_rfl
theorem pl_44_1 : placesA Try.prog 44 1 = some (1, 1) := by kernel_rfl
theorem ap_44 : appOk Try.prog 44 = true := by kernel_rfl
theorem pd_44 : placed Try.prog 44 = true := by kernel_rfl
theorem by_44 : byOf Try.prog 44 = 24 := by kernel_rfl
theorem sz_46 : szOf Try.prog 46 = 1 := by kernel_rfl
theorem so_46 : szO Try.prog 46 = some 1 := by kernel_rfl
theorem ag_46 : isAg Try.prog 46 = some false := by kernel_rfl
theorem sh_46 : shapes Try.prog 10 46 = [.sl 1] := by kernel_rfl
theorem ze_46 : zeroC Try.prog 46 = some [.v (.slice none 0 0)] := by kernel_rfl
theorem el_46 : elemOfS Try.prog 46 = some 5 := by kernel_rfl
theorem un_46 : Try.prog.underlying 46 = some (.slice 5) := by kernel_rfl
theorem ap_46 : appOk Try.prog 46 = true := by kernel_rfl
theorem by_46 : byOf Try.prog 46 = 24 := by kernel_rfl
theorem sz_48 : szOf Try.prog 48 = 1 := by kernel_rfl
theorem so_48 : szO Try.prog 48 = some 1 := by kernel_rfl
theorem ag_48 : isAg Try.prog 48 = some false := by kernel_rfl
theorem ze_48 : zeroC Try.prog 48 = some [.v (.pointer none)] := by kernel_rfl
theorem pt_48 : ptrOf Try.prog 48 = some 3 := by kernel_rfl
theorem ap_48 : appOk Try.prog 48 = true := by kernel_rfl
theorem by_48 : byOf Try.prog 48 = 8 := by kernel_rfl
theorem sz_49 : szOf Try.prog 49 = 7 := by kernel_rfl
theorem so_49 : szO Try.prog 49 = some 7 := by kernel_rfl
theorem ag_49 : isAg Try.prog 49 = some true := by kernel_rfl
theorem ze_49 : zeroC Try.prog 49 = some [.v (.pointer none), .v (.pointer none), .v (.pointer none), .v (.pointer none), .v (.pointer none), .v (.pointer none), .v (.pointer none)] := by kernel_rfl
theorem ar_49 : arrOf Try.prog 49 = some (7, 48) := by kernel_rfl
theorem pl_49 (i : Nat) : placesA Try.prog 49 i = some (i * szOf Try.prog 48, szOf Try.prog 48) := by kernel_rfl
theorem ap_49 : appOk Try.prog 49 = true := by kernel_rfl
theorem pd_49 : placed Try.prog 49 = true := by kernel_rfl
theorem by_49 : byOf Try.prog 49 = 56 := by kernel_rfl
theorem sz_51 : szOf Try.prog 51 = 1 := by kernel_rfl
theorem so_51 : szO Try.prog 51 = some 1 := by kernel_rfl
theorem ag_51 : isAg Try.prog 51 = some false := by kernel_rfl
theorem ze_51 : zeroC Try.prog 51 = some [.v (.pointer none)] := by kernel_rfl
theorem pt_51 : ptrOf Try.prog 51 = some 23 := by kernel_rfl
theorem ap_51 : appOk Try.prog 51 = true := by kernel_rfl
theorem by_51 : byOf Try.prog 51 = 8 := by kernel_rfl
theorem sz_60 : szOf Try.prog 60 = 1 := by kernel_rfl
theorem so_60 : szO Try.prog 60 = some 1 := by kernel_rfl
theorem ag_60 : isAg Try.prog 60 = some false := by kernel_rfl
theorem ze_60 : zeroC Try.prog 60 = some [.v (.pointer none)] := by kernel_rfl
theorem pt_60 : ptrOf Try.prog 60 = some 62 := by kernel_rfl
theorem ap_60 : appOk Try.prog 60 = true := by kernel_rfl
theorem by_60 : byOf Try.prog 60 = 8 := by kernel_rfl
theorem sz_61 : szOf Try.prog 61 = 2 := by kernel_rfl
theorem so_61 : szO Try.prog 61 = some 2 := by kernel_rfl
theorem ag_61 : isAg Try.prog 61 = some true := by kernel_rfl
theorem ze_61 : zeroC Try.prog 61 = some [.v (.pointer none), .v (.slice none 0 0)] := by kernel_rfl
theorem fo_61_0 : fieldOf Try.prog 61 0 = some (0, 60) := by kernel_rfl
theorem pl_61_0 : placesA Try.prog 61 0 = some (0, 1) := by kernel_rfl
theorem fo_61_1 : fieldOf Try.prog 61 1 = some (1, 46) := by kernel_rfl
theorem pl_61_1 : placesA Try.prog 61 1 = some (1, 1) := by kernel_rfl
theorem ap_61 : appOk Try.prog 61 = true := by kernel_rfl
theorem pd_61 : placed Try.prog 61 = true := by kernel_rfl
theorem by_61 : byOf Try.prog 61 = 32 := by kernel_rfl
theorem sz_62 : szOf Try.prog 62 = 2 := by kernel_rfl
theorem so_62 : szO Try.prog 62 = some 2 := by kernel_rfl
theorem ag_62 : isAg Try.prog 62 = some true := by kernel_rfl
theorem ze_62 : zeroC Try.prog 62 = some [.v (.pointer none), .v (.slice none 0 0)] := by kernel_rfl
theorem fo_62_0 : fieldOf Try.prog 62 0 = some (0, 60) := by kernel_rfl
theorem pl_62_0 : placesA Try.prog 62 0 = some (0, 1) := by kernel_rfl
theorem fo_62_1 : fieldOf Try.prog 62 1 = some (1, 46) := by kernel_rfl
theorem pl_62_1 : placesA Try.prog 62 1 = some (1, 1) := by kernel_rfl
theorem ap_62 : appOk Try.prog 62 = true := by kernel_rfl
theorem pd_62 : placed Try.prog 62 = true := by kernel_rfl
theorem by_62 : byOf Try.prog 62 = 32 := by kernel_rfl
theorem sz_63 : szOf Try.prog 63 = 2 := by kernel_rfl
theorem so_63 : szO Try.prog 63 = some 2 := by kernel_rfl
theorem ag_63 : isAg Try.prog 63 = some true := by kernel_rfl
theorem sh_63 : shapes Try.prog 10 63 = [.int .i64, .int .i64] := by kernel_rfl
theorem ze_63 : zeroC Try.prog 63 = some [.v (.int .i64 0), .v (.int .i64 0)] := by kernel_rfl
theorem ar_63 : arrOf Try.prog 63 = some (2, 3) := by kernel_rfl
theorem pl_63 (i : Nat) : placesA Try.prog 63 i = some (i * szOf Try.prog 3, szOf Try.prog 3) := by kernel_rfl
theorem ap_63 : appOk Try.prog 63 = true := by kernel_rfl
theorem pd_63 : placed Try.prog 63 = true := by kernel_rfl
theorem by_63 : byOf Try.prog 63 = 16 := by kernel_rfl
theorem sz_70 : szOf Try.prog 70 = 1 := by kernel_rfl
theorem so_70 : szO Try.prog 70 = some 1 := by kernel_rfl
theorem ag_70 : isAg Try.prog 70 = some false := by kernel_rfl
theorem ze_70 : zeroC Try.prog 70 = some [.v (.pointer none)] := by kernel_rfl
theorem pt_70 : ptrOf Try.prog 70 = some 72 := by kernel_rfl
theorem ap_70 : appOk Try.prog 70 = true := by kernel_rfl
theorem by_70 : byOf Try.prog 70 = 8 := by kernel_rfl
theorem sz_71 : szOf Try.prog 71 = 2 := by kernel_rfl
theorem so_71 : szO Try.prog 71 = some 2 := by kernel_rfl
theorem ag_71 : isAg Try.prog 71 = some true := by kernel_rfl
theorem sh_71 : shapes Try.prog 10 71 = [.str, .int .i64] := by kernel_rfl
theorem ze_71 : zeroC Try.prog 71 = some [.v (.string ⟨#[]⟩), .v (.int .i64 0)] := by kernel_rfl
theorem fs_71 : flatSh Try.prog 71 = some [.str, .int .i64] := by kernel_rfl
theorem fo_71_0 : fieldOf Try.prog 71 0 = some (0, 9) := by kernel_rfl
theorem pl_71_0 : placesA Try.prog 71 0 = some (0, 1) := by kernel_rfl
theorem fo_71_1 : fieldOf Try.prog 71 1 = some (1, 3) := by kernel_rfl
theorem pl_71_1 : placesA Try.prog 71 1 = some (1, 1) := by kernel_rfl
theorem ap_71 : appOk Try.prog 71 = true := by kernel_rfl
theorem pd_71 : placed Try.prog 71 = true := by kernel_rfl
theorem by_71 : byOf Try.prog 71 = 24 := by kernel_rfl
theorem sz_72 : szOf Try.prog 72 = 2 := by kernel_rfl
theorem so_72 : szO Try.prog 72 = some 2 := by kernel_rfl
theorem ag_72 : isAg Try.prog 72 = some true := by kernel_rfl
theorem sh_72 : shapes Try.prog 10 72 = [.str, .int .i64] := by kernel_rfl
theorem ze_72 : zeroC Try.prog 72 = some [.v (.string ⟨#[]⟩), .v (.int .i64 0)] := by kernel_rfl
theorem fs_72 : flatSh Try.prog 72 = some [.str, .int .i64] := by kernel_rfl
theorem fo_72_0 : fieldOf Try.prog 72 0 = some (0, 9) := by kernel_rfl
theorem pl_72_0 : placesA Try.prog 72 0 = some (0, 1) := by kernel_rfl
theorem fo_72_1 : fieldOf Try.prog 72 1 = some (1, 3) := by kernel_rfl
theorem pl_72_1 : placesA Try.prog 72 1 = some (1, 1) := by kernel_rfl
theorem ap_72 : appOk Try.prog 72 = true := by kernel_rfl
theorem pd_72 : placed Try.prog 72 = true := by kernel_rfl
theorem by_72 : byOf Try.prog 72 = 24 := by kernel_rfl
theorem sz_80 : szOf Try.prog 80 = 1 := by kernel_rfl
theorem so_80 : szO Try.prog 80 = some 1 := by kernel_rfl
theorem ag_80 : isAg Try.prog 80 = some false := by kernel_rfl
theorem ze_80 : zeroC Try.prog 80 = some [.v (.pointer none)] := by kernel_rfl
theorem pt_80 : ptrOf Try.prog 80 = some 5 := by kernel_rfl
theorem ap_80 : appOk Try.prog 80 = true := by kernel_rfl
theorem by_80 : byOf Try.prog 80 = 8 := by kernel_rfl
theorem sz_84 : szOf Try.prog 84 = 1 := by kernel_rfl
theorem so_84 : szO Try.prog 84 = some 1 := by kernel_rfl
theorem ag_84 : isAg Try.prog 84 = some false := by kernel_rfl
theorem sh_84 : shapes Try.prog 10 84 = [.int .u64] := by kernel_rfl
theorem ze_84 : zeroC Try.prog 84 = some [.v (.int .u64 0)] := by kernel_rfl
theorem un_84 : Try.prog.underlying 84 = some (.int .u64) := by kernel_rfl
theorem ap_84 : appOk Try.prog 84 = true := by kernel_rfl
theorem by_84 : byOf Try.prog 84 = 8 := by kernel_rfl
theorem sz_88 : szOf Try.prog 88 = 4 := by kernel_rfl
theorem so_88 : szO Try.prog 88 = some 4 := by kernel_rfl
theorem ag_88 : isAg Try.prog 88 = some true := by kernel_rfl
theorem ze_88 : zeroC Try.prog 88 = some [.v (.pointer none), .v (.pointer none), .v (.pointer none), .v (.string ⟨#[]⟩)] := by kernel_rfl
theorem fo_88_0 : fieldOf Try.prog 88 0 = some (0, 17) := by kernel_rfl
theorem pl_88_0 : placesA Try.prog 88 0 = some (0, 1) := by kernel_rfl
theorem fo_88_1 : fieldOf Try.prog 88 1 = some (1, 17) := by kernel_rfl
theorem pl_88_1 : placesA Try.prog 88 1 = some (1, 1) := by kernel_rfl
theorem fo_88_2 : fieldOf Try.prog 88 2 = some (2, 17) := by kernel_rfl
theorem pl_88_2 : placesA Try.prog 88 2 = some (2, 1) := by kernel_rfl
theorem fo_88_3 : fieldOf Try.prog 88 3 = some (3, 9) := by kernel_rfl
theorem pl_88_3 : placesA Try.prog 88 3 = some (3, 1) := by kernel_rfl
theorem ap_88 : appOk Try.prog 88 = true := by kernel_rfl
theorem pd_88 : placed Try.prog 88 = true := by kernel_rfl
theorem by_88 : byOf Try.prog 88 = 40 := by kernel_rfl
theorem sz_89 : szOf Try.prog 89 = 4 := by kernel_rfl
theorem so_89 : szO Try.prog 89 = some 4 := by kernel_rfl
theorem ag_89 : isAg Try.prog 89 = some true := by kernel_rfl
theorem ze_89 : zeroC Try.prog 89 = some [.v (.pointer none), .v (.pointer none), .v (.pointer none), .v (.string ⟨#[]⟩)] := by kernel_rfl
theorem fo_89_0 : fieldOf Try.prog 89 0 = some (0, 17) := by kernel_rfl
theorem pl_89_0 : placesA Try.prog 89 0 = some (0, 1) := by kernel_rfl
theorem fo_89_1 : fieldOf Try.prog 89 1 = some (1, 17) := by kernel_rfl
theorem pl_89_1 : placesA Try.prog 89 1 = some (1, 1) := by kernel_rfl
theorem fo_89_2 : fieldOf Try.prog 89 2 = some (2, 17) := by kernel_rfl
theorem pl_89_2 : placesA Try.prog 89 2 = some (2, 1) := by kernel_rfl
theorem fo_89_3 : fieldOf Try.prog 89 3 = some (3, 9) := by kernel_rfl
theorem pl_89_3 : placesA Try.prog 89 3 = some (3, 1) := by kernel_rfl
theorem ap_89 : appOk Try.prog 89 = true := by kernel_rfl
theorem pd_89 : placed Try.prog 89 = true := by kernel_rfl
theorem by_89 : byOf Try.prog 89 = 40 := by kernel_rfl
theorem sz_90 : szOf Try.prog 90 = 0 := by kernel_rfl
theorem so_90 : szO Try.prog 90 = some 0 := by kernel_rfl
theorem ag_90 : isAg Try.prog 90 = some true := by kernel_rfl
theorem sh_90 : shapes Try.prog 10 90 = [] := by kernel_rfl
theorem ze_90 : zeroC Try.prog 90 = some [] := by kernel_rfl
theorem ar_90 : arrOf Try.prog 90 = some (0, 16) := by kernel_rfl
theorem pl_90 (i : Nat) : placesA Try.prog 90 i = some (i * szOf Try.prog 16, szOf Try.prog 16) := by kernel_rfl
theorem pd_90 : placed Try.prog 90 = true := by kernel_rfl
theorem by_90 : byOf Try.prog 90 = 0 := by kernel_rfl
theorem sz_91 : szOf Try.prog 91 = 0 := by kernel_rfl
theorem so_91 : szO Try.prog 91 = some 0 := by kernel_rfl
theorem ag_91 : isAg Try.prog 91 = some true := by kernel_rfl
theorem sh_91 : shapes Try.prog 10 91 = [] := by kernel_rfl
theorem ze_91 : zeroC Try.prog 91 = some [] := by kernel_rfl
theorem fo_91_0 : fieldOf Try.prog 91 0 = some (0, 90) := by kernel_rfl
theorem pl_91_0 : placesA Try.prog 91 0 = some (0, 0) := by kernel_rfl
theorem pd_91 : placed Try.prog 91 = true := by kernel_rfl
theorem by_91 : byOf Try.prog 91 = 0 := by kernel_rfl
theorem sz_92 : szOf Try.prog 92 = 0 := by kernel_rfl
theorem so_92 : szO Try.prog 92 = some 0 := by kernel_rfl
theorem ag_92 : isAg Try.prog 92 = some true := by kernel_rfl
theorem sh_92 : shapes Try.prog 10 92 = [] := by kernel_rfl
theorem ze_92 : zeroC Try.prog 92 = some [] := by kernel_rfl
theorem fo_92_0 : fieldOf Try.prog 92 0 = some (0, 90) := by kernel_rfl
theorem pl_92_0 : placesA Try.prog 92 0 = some (0, 0) := by kernel_rfl
theorem pd_92 : placed Try.prog 92 = true := by kernel_rfl
theorem by_92 : byOf Try.prog 92 = 0 := by kernel_rfl
theorem sz_93 : szOf Try.prog 93 = 1 := by kernel_rfl
theorem so_93 : szO Try.prog 93 = some 1 := by kernel_rfl
theorem ag_93 : isAg Try.prog 93 = some false := by kernel_rfl
theorem sh_93 : shapes Try.prog 10 93 = [.int .u32] := by kernel_rfl
theorem ze_93 : zeroC Try.prog 93 = some [.v (.int .u32 0)] := by kernel_rfl
theorem un_93 : Try.prog.underlying 93 = some (.int .u32) := by kernel_rfl
theorem ap_93 : appOk Try.prog 93 = true := by kernel_rfl
theorem by_93 : byOf Try.prog 93 = 4 := by kernel_rfl
theorem sz_94 : szOf Try.prog 94 = 1 := by kernel_rfl
theorem so_94 : szO Try.prog 94 = some 1 := by kernel_rfl
theorem ag_94 : isAg Try.prog 94 = some false := by kernel_rfl
theorem sh_94 : shapes Try.prog 10 94 = [.int .u8] := by kernel_rfl
theorem ze_94 : zeroC Try.prog 94 = some [.v (.int .u8 0)] := by kernel_rfl
theorem un_94 : Try.prog.underlying 94 = some (.int .u8) := by kernel_rfl
theorem ap_94 : appOk Try.prog 94 = true := by kernel_rfl
theorem by_94 : byOf Try.prog 94 = 1 := by kernel_rfl
theorem sz_95 : szOf Try.prog 95 = 1 := by kernel_rfl
theorem so_95 : szO Try.prog 95 = some 1 := by kernel_rfl
theorem ag_95 : isAg Try.prog 95 = some false := by kernel_rfl
theorem sh_95 : shapes Try.prog 10 95 = [.int .u8] := by kernel_rfl
theorem ze_95 : zeroC Try.prog 95 = some [.v (.int .u8 0)] := by kernel_rfl
theorem un_95 : Try.prog.underlying 95 = some (.int .u8) := by kernel_rfl
theorem ap_95 : appOk Try.prog 95 = true := by kernel_rfl
theorem by_95 : byOf Try.prog 95 = 1 := by kernel_rfl
theorem sz_97 : szOf Try.prog 97 = 1 := by kernel_rfl
theorem so_97 : szO Try.prog 97 = some 1 := by kernel_rfl
theorem ag_97 : isAg Try.prog 97 = some false := by kernel_rfl
theorem sh_97 : shapes Try.prog 10 97 = [.int .i32] := by kernel_rfl
theorem ze_97 : zeroC Try.prog 97 = some [.v (.int .i32 0)] := by kernel_rfl
theorem un_97 : Try.prog.underlying 97 = some (.int .i32) := by kernel_rfl
theorem ap_97 : appOk Try.prog 97 = true := by kernel_rfl
theorem by_97 : byOf Try.prog 97 = 4 := by kernel_rfl
theorem sz_98 : szOf Try.prog 98 = 1 := by kernel_rfl
theorem so_98 : szO Try.prog 98 = some 1 := by kernel_rfl
theorem ag_98 : isAg Try.prog 98 = some false := by kernel_rfl
theorem sh_98 : shapes Try.prog 10 98 = [.int .i32] := by kernel_rfl
theorem ze_98 : zeroC Try.prog 98 = some [.v (.int .i32 0)] := by kernel_rfl
theorem un_98 : Try.prog.underlying 98 = some (.int .i32) := by kernel_rfl
theorem ap_98 : appOk Try.prog 98 = true := by kernel_rfl
theorem by_98 : byOf Try.prog 98 = 4 := by kernel_rfl
theorem sz_99 : szOf Try.prog 99 = 11 := by kernel_rfl
theorem so_99 : szO Try.prog 99 = some 11 := by kernel_rfl
theorem ag_99 : isAg Try.prog 99 = some true := by kernel_rfl
theorem ze_99 : zeroC Try.prog 99 = some [.v (.int .u64 0), .v (.int .u64 0), .v (.int .u32 0), .v (.int .u8 0), .v (.int .u8 0), .v (.int .u8 0), .v (.int .u8 0), .v .nilFunc, .v (.pointer none), .v (.int .i32 0), .v (.int .i32 0)] := by kernel_rfl
theorem fo_99_0 : fieldOf Try.prog 99 0 = some (0, 12) := by kernel_rfl
theorem pl_99_0 : placesA Try.prog 99 0 = some (0, 1) := by kernel_rfl
theorem fo_99_1 : fieldOf Try.prog 99 1 = some (1, 12) := by kernel_rfl
theorem pl_99_1 : placesA Try.prog 99 1 = some (1, 1) := by kernel_rfl
theorem fo_99_2 : fieldOf Try.prog 99 2 = some (2, 93) := by kernel_rfl
theorem pl_99_2 : placesA Try.prog 99 2 = some (2, 1) := by kernel_rfl
theorem fo_99_3 : fieldOf Try.prog 99 3 = some (3, 94) := by kernel_rfl
theorem pl_99_3 : placesA Try.prog 99 3 = some (3, 1) := by kernel_rfl
theorem fo_99_4 : fieldOf Try.prog 99 4 = some (4, 5) := by kernel_rfl
theorem pl_99_4 : placesA Try.prog 99 4 = some (4, 1) := by kernel_rfl
theorem fo_99_5 : fieldOf Try.prog 99 5 = some (5, 5) := by kernel_rfl
theorem pl_99_5 : placesA Try.prog 99 5 = some (5, 1) := by kernel_rfl
theorem fo_99_6 : fieldOf Try.prog 99 6 = some (6, 95) := by kernel_rfl
theorem pl_99_6 : placesA Try.prog 99 6 = some (6, 1) := by kernel_rfl
theorem fo_99_7 : fieldOf Try.prog 99 7 = some (7, 96) := by kernel_rfl
theorem pl_99_7 : placesA Try.prog 99 7 = some (7, 1) := by kernel_rfl
theorem fo_99_8 : fieldOf Try.prog 99 8 = some (8, 80) := by kernel_rfl
theorem pl_99_8 : placesA Try.prog 99 8 = some (8, 1) := by kernel_rfl
theorem fo_99_9 : fieldOf Try.prog 99 9 = some (9, 97) := by kernel_rfl
theorem pl_99_9 : placesA Try.prog 99 9 = some (9, 1) := by kernel_rfl
theorem fo_99_10 : fieldOf Try.prog 99 10 = some (10, 98) := by kernel_rfl
theorem pl_99_10 : placesA Try.prog 99 10 = some (10, 1) := by kernel_rfl
theorem ap_99 : appOk Try.prog 99 = true := by kernel_rfl
theorem pd_99 : placed Try.prog 99 = true := by kernel_rfl
theorem by_99 : byOf Try.prog 99 = 48 := by kernel_rfl
theorem sz_100 : szOf Try.prog 100 = 11 := by kernel_rfl
theorem so_100 : szO Try.prog 100 = some 11 := by kernel_rfl
theorem ag_100 : isAg Try.prog 100 = some true := by kernel_rfl
theorem ze_100 : zeroC Try.prog 100 = some [.v (.int .u64 0), .v (.int .u64 0), .v (.int .u32 0), .v (.int .u8 0), .v (.int .u8 0), .v (.int .u8 0), .v (.int .u8 0), .v .nilFunc, .v (.pointer none), .v (.int .i32 0), .v (.int .i32 0)] := by kernel_rfl
theorem fo_100_0 : fieldOf Try.prog 100 0 = some (0, 12) := by kernel_rfl
theorem pl_100_0 : placesA Try.prog 100 0 = some (0, 1) := by kernel_rfl
theorem fo_100_1 : fieldOf Try.prog 100 1 = some (1, 12) := by kernel_rfl
theorem pl_100_1 : placesA Try.prog 100 1 = some (1, 1) := by kernel_rfl
theorem fo_100_2 : fieldOf Try.prog 100 2 = some (2, 93) := by kernel_rfl
theorem pl_100_2 : placesA Try.prog 100 2 = some (2, 1) := by kernel_rfl
theorem fo_100_3 : fieldOf Try.prog 100 3 = some (3, 94) := by kernel_rfl
theorem pl_100_3 : placesA Try.prog 100 3 = some (3, 1) := by kernel_rfl
theorem fo_100_4 : fieldOf Try.prog 100 4 = some (4, 5) := by kernel_rfl
theorem pl_100_4 : placesA Try.prog 100 4 = some (4, 1) := by kernel_rfl
theorem fo_100_5 : fieldOf Try.prog 100 5 = some (5, 5) := by kernel_rfl
theorem pl_100_5 : placesA Try.prog 100 5 = some (5, 1) := by kernel_rfl
theorem fo_100_6 : fieldOf Try.prog 100 6 = some (6, 95) := by kernel_rfl
theorem pl_100_6 : placesA Try.prog 100 6 = some (6, 1) := by kernel_rfl
theorem fo_100_7 : fieldOf Try.prog 100 7 = some (7, 96) := by kernel_rfl
theorem pl_100_7 : placesA Try.prog 100 7 = some (7, 1) := by kernel_rfl
theorem fo_100_8 : fieldOf Try.prog 100 8 = some (8, 80) := by kernel_rfl
theorem pl_100_8 : placesA Try.prog 100 8 = some (8, 1) := by kernel_rfl
theorem fo_100_9 : fieldOf Try.prog 100 9 = some (9, 97) := by kernel_rfl
theorem pl_100_9 : placesA Try.prog 100 9 = some (9, 1) := by kernel_rfl
theorem fo_100_10 : fieldOf Try.prog 100 10 = some (10, 98) := by kernel_rfl
theorem pl_100_10 : placesA Try.prog 100 10 = some (10, 1) := by kernel_rfl
theorem ap_100 : appOk Try.prog 100 = true := by kernel_rfl
theorem pd_100 : placed Try.prog 100 = true := by kernel_rfl
theorem by_100 : byOf Try.prog 100 = 48 := by kernel_rfl
theorem fn_2 : Try.prog.funcs[2]? = some Try.f2 := Try.func2
theorem fn_3 : Try.prog.funcs[3]? = some Try.f3 := Try.func3
theorem fn_4 : Try.prog.funcs[4]? = some Try.f4 := Try.func4
theorem fn_5 : Try.prog.funcs[5]? = some Try.f5 := Try.func5
theorem fn_6 : Try.prog.funcs[6]? = some Try.f6 := Try.func6
theorem fn_7 : Try.prog.funcs[7]? = some Try.f7 := Try.func7
theorem fn_8 : Try.prog.funcs[8]? = some Try.f8 := Try.func8
theorem fn_9 : Try.prog.funcs[9]? = some Try.f9 := Try.func9
theorem fn_10 : Try.prog.funcs[10]? = some Try.f10 := Try.func10
theorem fn_11 : Try.prog.funcs[11]? = some Try.f11 := Try.func11
theorem fn_12 : Try.prog.funcs[12]? = some Try.f12 := Try.func12
theorem fn_13 : Try.prog.funcs[13]? = some Try.f13 := Try.func13
theorem fn_14 : Try.prog.funcs[14]? = some Try.f14 := Try.func14
theorem fn_15 : Try.prog.funcs[15]? = some Try.f15 := Try.func15
theorem fn_16 : Try.prog.funcs[16]? = some Try.f16 := Try.func16
theorem fn_17 : Try.prog.funcs[17]? = some Try.f17 := Try.func17
theorem fn_18 : Try.prog.funcs[18]? = some Try.f18 := Try.func18
theorem fn_19 : Try.prog.funcs[19]? = some Try.f19 := Try.func19
theorem fn_20 : Try.prog.funcs[20]? = some Try.f20 := Try.func20
theorem fn_21 : Try.prog.funcs[21]? = some Try.f21 := Try.func21
theorem fn_22 : Try.prog.funcs[22]? = some Try.f22 := Try.func22
theorem fn_23 : Try.prog.funcs[23]? = some Try.f23 := Try.func23
theorem fn_24 : Try.prog.funcs[24]? = some Try.f24 := Try.func24
theorem fn_25 : Try.prog.funcs[25]? = some Try.f25 := Try.func25
theorem fn_26 : Try.prog.funcs[26]? = some Try.f26 := Try.func26
theorem fn_27 : Try.prog.funcs[27]? = some Try.f27 := Try.func27
theorem fn_28 : Try.prog.funcs[28]? = some Try.f28 := Try.func28
theorem fn_29 : Try.prog.funcs[29]? = some Try.f29 := Try.func29
theorem fn_30 : Try.prog.funcs[30]? = some Try.f30 := Try.func30
theorem fn_31 : Try.prog.funcs[31]? = some Try.f31 := Try.func31
theorem fn_32 : Try.prog.funcs[32]? = some Try.f32 := Try.func32
theorem fn_33 : Try.prog.funcs[33]? = some Try.f33 := Try.func33
theorem fn_34 : Try.prog.funcs[34]? = some Try.f34 := Try.func34
theorem fn_35 : Try.prog.funcs[35]? = some Try.f35 := Try.func35
theorem fn_36 : Try.prog.funcs[36]? = some Try.f36 := Try.func36
theorem fn_37 : Try.prog.funcs[37]? = some Try.f37 := Try.func37
theorem fn_38 : Try.prog.funcs[38]? = some Try.f38 := Try.func38
theorem fn_39 : Try.prog.funcs[39]? = some Try.f39 := Try.func39
theorem fn_40 : Try.prog.funcs[40]? = some Try.f40 := Try.func40
theorem fn_41 : Try.prog.funcs[41]? = some Try.f41 := Try.func41
theorem fn_42 : Try.prog.funcs[42]? = some Try.f42 := Try.func42
theorem fn_43 : Try.prog.funcs[43]? = some Try.f43 := Try.func43
theorem ok_2 : okF C 2 Try.f2 = true := by kernel_rfl
theorem ok_3 : okF C 3 Try.f3 = true := by kernel_rfl
theorem ok_4 : okF C 4 Try.f4 = true := by kernel_rfl
theorem ok_5 : okF C 5 Try.f5 = true := by kernel_rfl
theorem ok_6 : okF C 6 Try.f6 = true := by kernel_rfl
theorem ok_7 : okF C 7 Try.f7 = true := by kernel_rfl
theorem ok_8 : okF C 8 Try.f8 = true := by kernel_rfl
theorem ok_9 : okF C 9 Try.f9 = true := by kernel_rfl
theorem ok_10 : okF C 10 Try.f10 = true := by kernel_rfl
theorem ok_11 : okF C 11 Try.f11 = true := by kernel_rfl
theorem ok_12 : okF C 12 Try.f12 = true := by kernel_rfl
theorem ok_13 : okF C 13 Try.f13 = true := by kernel_rfl
theorem ok_14 : okF C 14 Try.f14 = true := by kernel_rfl
theorem ok_15 : okF C 15 Try.f15 = true := by kernel_rfl
theorem ok_16 : okF C 16 Try.f16 = true := by kernel_rfl
theorem ok_17 : okF C 17 Try.f17 = true := by kernel_rfl
theorem ok_18 : okF C 18 Try.f18 = true := by kernel_rfl
theorem ok_19 : okF C 19 Try.f19 = true := by kernel_rfl
theorem ok_20 : okF C 20 Try.f20 = true := by kernel_rfl
theorem ok_21 : okF C 21 Try.f21 = true := by kernel_rfl
theorem ok_22 : okF C 22 Try.f22 = true := by kernel_rfl
theorem ok_23 : okF C 23 Try.f23 = true := by kernel_rfl
theorem ok_24 : okF C 24 Try.f24 = true := by kernel_rfl
theorem ok_25 : okF C 25 Try.f25 = true := by kernel_rfl
theorem ok_26 : okF C 26 Try.f26 = true := by kernel_rfl
theorem ok_27 : okF C 27 Try.f27 = true := by kernel_rfl
theorem ok_28 : okF C 28 Try.f28 = true := by kernel_rfl
theorem ok_29 : okF C 29 Try.f29 = true := by kernel_rfl
theorem ok_30 : okF C 30 Try.f30 = true := by kernel_rfl
theorem ok_31 : okF C 31 Try.f31 = true := by kernel_rfl
theorem ok_32 : okF C 32 Try.f32 = true := by kernel_rfl
theorem ok_33 : okF C 33 Try.f33 = true := by kernel_rfl
theorem ok_34 : okF C 34 Try.f34 = true := by kernel_rfl
theorem ok_35 : okF C 35 Try.f35 = true := by kernel_rfl
theorem ok_36 : okF C 36 Try.f36 = true := by kernel_rfl
theorem ok_37 : okF C 37 Try.f37 = true := by kernel_rfl
theorem ok_38 : okF C 38 Try.f38 = true := by kernel_rfl
theorem ok_39 : okF C 39 Try.f39 = true := by kernel_rfl
theorem ok_40 : okF C 40 Try.f40 = true := by kernel_rfl
theorem ok_41 : okF C 41 Try.f41 = true := by kernel_rfl
theorem ok_42 : okF C 42 Try.f42 = true := by kernel_rfl
theorem ok_43 : okF C 43 Try.f43 = true := by kernel_rfl
set_option maxRecDepth 100000
theorem EVF : type_of% (And.intro @sz_2 (And.intro @so_2 (And.intro @ag_2 (And.intro @sh_2 (And.intro @ze_2 (And.intro @un_2 (And.intro @ap_2 (And.intro @by_2 (And.intro @sz_3 (And.intro @so_3 (And.intro @ag_3 (And.intro @sh_3 (And.intro @ze_3 (And.intro @un_3 (And.intro @ap_3 (And.intro @by_3 (And.intro @sz_4 (And.intro @so_4 (And.intro @ag_4 (And.intro @sh_4 (And.intro @ze_4 (And.intro @un_4 (And.intro @ap_4 (And.intro @by_4 (And.intro @sz_5 (And.intro @so_5 (And.intro @ag_5 (And.intro @sh_5 (And.intro @ze_5 (And.intro @un_5 (And.intro @ap_5 (And.intro @by_5 (And.intro @sz_6 (And.intro @so_6 (And.intro @ag_6 (And.intro @sh_6 (And.intro @ze_6 (And.intro @un_6 (And.intro @ap_6 (And.intro @by_6 (And.intro @sz_7 (And.intro @so_7 (And.intro @ag_7 (And.intro @sh_7 (And.intro @ze_7 (And.intro @fo_7_0 (And.intro @pl_7_0 (And.intro @fo_7_1 (And.intro @pl_7_1 (And.intro @fo_7_2 (And.intro @pl_7_2 (And.intro @fo_7_3 (And.intro @pl_7_3 (And.intro @ap_7 (And.intro @pd_7 (And.intro @by_7 (And.intro @sz_8 (And.intro @so_8 (And.intro @ag_8 (And.intro @sh_8 (And.intro @ze_8 (And.intro @fo_8_0 (And.intro @pl_8_0 (And.intro @fo_8_1 (And.intro @pl_8_1 (And.intro @fo_8_2 (And.intro @pl_8_2 (And.intro @fo_8_3 (And.intro @pl_8_3 (And.intro @ap_8 (And.intro @pd_8 (And.intro @by_8 (And.intro @sz_9 (And.intro @so_9 (And.intro @ag_9 (And.intro @sh_9 (And.intro @ze_9 (And.intro @un_9 (And.intro @ap_9 (And.intro @by_9 (And.intro @sz_10 (And.intro @so_10 (And.intro @ag_10 (And.intro @sh_10 (And.intro @ze_10 (And.intro @un_10 (And.intro @ap_10 (And.intro @by_10 (And.intro @sz_11 (And.intro @so_11 (And.intro @ag_11 (And.intro @sh_11 (And.intro @ze_11 (And.intro @un_11 (And.intro @ap_11 (And.intro @by_11 (And.intro @sz_12 (And.intro @so_12 (And.intro @ag_12 (And.intro @sh_12 (And.intro @ze_12 (And.intro @un_12 (And.intro @ap_12 (And.intro @by_12 (And.intro @sz_13 (And.intro @so_13 (And.intro @ag_13 (And.intro @sh_13 (And.intro @ze_13 (And.intro @fo_13_0 (And.intro @pl_13_0 (And.intro @fo_13_1 (And.intro @pl_13_1 (And.intro @ap_13 (And.intro @pd_13 (And.intro @by_13 (And.intro @sz_14 (And.intro @so_14 (And.intro @ag_14 (And.intro @sh_14 (And.intro @ze_14 (And.intro @fo_14_0 (And.intro @pl_14_0 (And.intro @fo_14_1 (And.intro @pl_14_1 (And.intro @ap_14 (And.intro @pd_14 (And.intro @by_14 (And.intro @sz_15 (And.intro @so_15 (And.intro @ag_15 (And.intro @ze_15 (And.intro @pt_15 (And.intro @ap_15 (And.intro @by_15 (And.intro @sz_16 (And.intro @so_16 (And.intro @ag_16 (And.intro @ze_16 (And.intro @pt_16 (And.intro @ap_16 (And.intro @by_16 (And.intro @sz_17 (And.intro @so_17 (And.intro @ag_17 (And.intro @ze_17 (And.intro @pt_17 (And.intro @ap_17 (And.intro @by_17 (And.intro @sz_18 (And.intro @so_18 (And.intro @ag_18 (And.intro @ze_18 (And.intro @fo_18_0 (And.intro @pl_18_0 (And.intro @ap_18 (And.intro @pd_18 (And.intro @by_18 (And.intro @sz_19 (And.intro @so_19 (And.intro @ag_19 (And.intro @ze_19 (And.intro @fo_19_0 (And.intro @pl_19_0 (And.intro @ap_19 (And.intro @pd_19 (And.intro @by_19 (And.intro @sz_21 (And.intro @so_21 (And.intro @ag_21 (And.intro @sh_21 (And.intro @ze_21 (And.intro @un_21 (And.intro @ap_21 (And.intro @by_21 (And.intro @sz_22 (And.intro @so_22 (And.intro @ag_22 (And.intro @sh_22 (And.intro @ze_22 (And.intro @fs_22 (And.intro @fo_22_0 (And.intro @pl_22_0 (And.intro @fo_22_1 (And.intro @pl_22_1 (And.intro @fo_22_2 (And.intro @pl_22_2 (And.intro @fo_22_3 (And.intro @pl_22_3 (And.intro @fo_22_4 (And.intro @pl_22_4 (And.intro @fo_22_5 (And.intro @pl_22_5 (And.intro @ap_22 (And.intro @pd_22 (And.intro @by_22 (And.intro @sz_23 (And.intro @so_23 (And.intro @ag_23 (And.intro @sh_23 (And.intro @ze_23 (And.intro @fs_23 (And.intro @fo_23_0 (And.intro @pl_23_0 (And.intro @fo_23_1 (And.intro @pl_23_1 (And.intro @fo_23_2 (And.intro @pl_23_2 (And.intro @fo_23_3 (And.intro @pl_23_3 (And.intro @fo_23_4 (And.intro @pl_23_4 (And.intro @fo_23_5 (And.intro @pl_23_5 (And.intro @ap_23 (And.intro @pd_23 (And.intro @by_23 (And.intro @sz_24 (And.intro @so_24 (And.intro @ag_24 (And.intro @sh_24 (And.intro @ze_24 (And.intro @ar_24 (And.intro @pl_24 (And.intro @ap_24 (And.intro @pd_24 (And.intro @by_24 (And.intro @sz_26 (And.intro @so_26 (And.intro @ag_26 (And.intro @sh_26 (And.intro @ze_26 (And.intro @el_26 (And.intro @un_26 (And.intro @ap_26 (And.intro @by_26 (And.intro @sz_29 (And.intro @so_29 (And.intro @ag_29 (And.intro @sh_29 (And.intro @ze_29 (And.intro @el_29 (And.intro @un_29 (And.intro @ap_29 (And.intro @by_29 (And.intro @sz_30 (And.intro @so_30 (And.intro @ag_30 (And.intro @sh_30 (And.intro @ze_30 (And.intro @un_30 (And.intro @ap_30 (And.intro @by_30 (And.intro @sz_34 (And.intro @so_34 (And.intro @ag_34 (And.intro @sh_34 (And.intro @ze_34 (And.intro @el_34 (And.intro @un_34 (And.intro @ap_34 (And.intro @by_34 (And.intro @sz_41 (And.intro @so_41 (And.intro @ag_41 (And.intro @sh_41 (And.intro @ze_41 (And.intro @el_41 (And.intro @un_41 (And.intro @ap_41 (And.intro @by_41 (And.intro @sz_43 (And.intro @so_43 (And.intro @ag_43 (And.intro @sh_43 (And.intro @ze_43 (And.intro @fs_43 (And.intro @fo_43_0 (And.intro @pl_43_0 (And.intro @fo_43_1 (And.intro @pl_43_1 (And.intro @ap_43 (And.intro @pd_43 (And.intro @by_43 (And.intro @sz_44 (And.intro @so_44 (And.intro @ag_44 (And.intro @sh_44 (And.intro @ze_44 (And.intro @fs_44 (And.intro @fo_44_0 (And.intro @pl_44_0 (And.intro @fo_44_1 (And.intro @pl_44_1 (And.intro @ap_44 (And.intro @pd_44 (And.intro @by_44 (And.intro @sz_46 (And.intro @so_46 (And.intro @ag_46 (And.intro @sh_46 (And.intro @ze_46 (And.intro @el_46 (And.intro @un_46 (And.intro @ap_46 (And.intro @by_46 (And.intro @sz_48 (And.intro @so_48 (And.intro @ag_48 (And.intro @ze_48 (And.intro @pt_48 (And.intro @ap_48 (And.intro @by_48 (And.intro @sz_49 (And.intro @so_49 (And.intro @ag_49 (And.intro @ze_49 (And.intro @ar_49 (And.intro @pl_49 (And.intro @ap_49 (And.intro @pd_49 (And.intro @by_49 (And.intro @sz_51 (And.intro @so_51 (And.intro @ag_51 (And.intro @ze_51 (And.intro @pt_51 (And.intro @ap_51 (And.intro @by_51 (And.intro @sz_60 (And.intro @so_60 (And.intro @ag_60 (And.intro @ze_60 (And.intro @pt_60 (And.intro @ap_60 (And.intro @by_60 (And.intro @sz_61 (And.intro @so_61 (And.intro @ag_61 (And.intro @ze_61 (And.intro @fo_61_0 (And.intro @pl_61_0 (And.intro @fo_61_1 (And.intro @pl_61_1 (And.intro @ap_61 (And.intro @pd_61 (And.intro @by_61 (And.intro @sz_62 (And.intro @so_62 (And.intro @ag_62 (And.intro @ze_62 (And.intro @fo_62_0 (And.intro @pl_62_0 (And.intro @fo_62_1 (And.intro @pl_62_1 (And.intro @ap_62 (And.intro @pd_62 (And.intro @by_62 (And.intro @sz_63 (And.intro @so_63 (And.intro @ag_63 (And.intro @sh_63 (And.intro @ze_63 (And.intro @ar_63 (And.intro @pl_63 (And.intro @ap_63 (And.intro @pd_63 (And.intro @by_63 (And.intro @sz_70 (And.intro @so_70 (And.intro @ag_70 (And.intro @ze_70 (And.intro @pt_70 (And.intro @ap_70 (And.intro @by_70 (And.intro @sz_71 (And.intro @so_71 (And.intro @ag_71 (And.intro @sh_71 (And.intro @ze_71 (And.intro @fs_71 (And.intro @fo_71_0 (And.intro @pl_71_0 (And.intro @fo_71_1 (And.intro @pl_71_1 (And.intro @ap_71 (And.intro @pd_71 (And.intro @by_71 (And.intro @sz_72 (And.intro @so_72 (And.intro @ag_72 (And.intro @sh_72 (And.intro @ze_72 (And.intro @fs_72 (And.intro @fo_72_0 (And.intro @pl_72_0 (And.intro @fo_72_1 (And.intro @pl_72_1 (And.intro @ap_72 (And.intro @pd_72 (And.intro @by_72 (And.intro @sz_80 (And.intro @so_80 (And.intro @ag_80 (And.intro @ze_80 (And.intro @pt_80 (And.intro @ap_80 (And.intro @by_80 (And.intro @sz_84 (And.intro @so_84 (And.intro @ag_84 (And.intro @sh_84 (And.intro @ze_84 (And.intro @un_84 (And.intro @ap_84 (And.intro @by_84 (And.intro @sz_88 (And.intro @so_88 (And.intro @ag_88 (And.intro @ze_88 (And.intro @fo_88_0 (And.intro @pl_88_0 (And.intro @fo_88_1 (And.intro @pl_88_1 (And.intro @fo_88_2 (And.intro @pl_88_2 (And.intro @fo_88_3 (And.intro @pl_88_3 (And.intro @ap_88 (And.intro @pd_88 (And.intro @by_88 (And.intro @sz_89 (And.intro @so_89 (And.intro @ag_89 (And.intro @ze_89 (And.intro @fo_89_0 (And.intro @pl_89_0 (And.intro @fo_89_1 (And.intro @pl_89_1 (And.intro @fo_89_2 (And.intro @pl_89_2 (And.intro @fo_89_3 (And.intro @pl_89_3 (And.intro @ap_89 (And.intro @pd_89 (And.intro @by_89 (And.intro @sz_90 (And.intro @so_90 (And.intro @ag_90 (And.intro @sh_90 (And.intro @ze_90 (And.intro @ar_90 (And.intro @pl_90 (And.intro @pd_90 (And.intro @by_90 (And.intro @sz_91 (And.intro @so_91 (And.intro @ag_91 (And.intro @sh_91 (And.intro @ze_91 (And.intro @fo_91_0 (And.intro @pl_91_0 (And.intro @pd_91 (And.intro @by_91 (And.intro @sz_92 (And.intro @so_92 (And.intro @ag_92 (And.intro @sh_92 (And.intro @ze_92 (And.intro @fo_92_0 (And.intro @pl_92_0 (And.intro @pd_92 (And.intro @by_92 (And.intro @sz_93 (And.intro @so_93 (And.intro @ag_93 (And.intro @sh_93 (And.intro @ze_93 (And.intro @un_93 (And.intro @ap_93 (And.intro @by_93 (And.intro @sz_94 (And.intro @so_94 (And.intro @ag_94 (And.intro @sh_94 (And.intro @ze_94 (And.intro @un_94 (And.intro @ap_94 (And.intro @by_94 (And.intro @sz_95 (And.intro @so_95 (And.intro @ag_95 (And.intro @sh_95 (And.intro @ze_95 (And.intro @un_95 (And.intro @ap_95 (And.intro @by_95 (And.intro @sz_97 (And.intro @so_97 (And.intro @ag_97 (And.intro @sh_97 (And.intro @ze_97 (And.intro @un_97 (And.intro @ap_97 (And.intro @by_97 (And.intro @sz_98 (And.intro @so_98 (And.intro @ag_98 (And.intro @sh_98 (And.intro @ze_98 (And.intro @un_98 (And.intro @ap_98 (And.intro @by_98 (And.intro @sz_99 (And.intro @so_99 (And.intro @ag_99 (And.intro @ze_99 (And.intro @fo_99_0 (And.intro @pl_99_0 (And.intro @fo_99_1 (And.intro @pl_99_1 (And.intro @fo_99_2 (And.intro @pl_99_2 (And.intro @fo_99_3 (And.intro @pl_99_3 (And.intro @fo_99_4 (And.intro @pl_99_4 (And.intro @fo_99_5 (And.intro @pl_99_5 (And.intro @fo_99_6 (And.intro @pl_99_6 (And.intro @fo_99_7 (And.intro @pl_99_7 (And.intro @fo_99_8 (And.intro @pl_99_8 (And.intro @fo_99_9 (And.intro @pl_99_9 (And.intro @fo_99_10 (And.intro @pl_99_10 (And.intro @ap_99 (And.intro @pd_99 (And.intro @by_99 (And.intro @sz_100 (And.intro @so_100 (And.intro @ag_100 (And.intro @ze_100 (And.intro @fo_100_0 (And.intro @pl_100_0 (And.intro @fo_100_1 (And.intro @pl_100_1 (And.intro @fo_100_2 (And.intro @pl_100_2 (And.intro @fo_100_3 (And.intro @pl_100_3 (And.intro @fo_100_4 (And.intro @pl_100_4 (And.intro @fo_100_5 (And.intro @pl_100_5 (And.intro @fo_100_6 (And.intro @pl_100_6 (And.intro @fo_100_7 (And.intro @pl_100_7 (And.intro @fo_100_8 (And.intro @pl_100_8 (And.intro @fo_100_9 (And.intro @pl_100_9 (And.intro @fo_100_10 (And.intro @pl_100_10 (And.intro @ap_100 (And.intro @pd_100 (And.intro @by_100 (And.intro @fn_2 (And.intro @fn_3 (And.intro @fn_4 (And.intro @fn_5 (And.intro @fn_6 (And.intro @fn_7 (And.intro @fn_8 (And.intro @fn_9 (And.intro @fn_10 (And.intro @fn_11 (And.intro @fn_12 (And.intro @fn_13 (And.intro @fn_14 (And.intro @fn_15 (And.intro @fn_16 (And.intro @fn_17 (And.intro @fn_18 (And.intro @fn_19 (And.intro @fn_20 (And.intro @fn_21 (And.intro @fn_22 (And.intro @fn_23 (And.intro @fn_24 (And.intro @fn_25 (And.intro @fn_26 (And.intro @fn_27 (And.intro @fn_28 (And.intro @fn_29 (And.intro @fn_30 (And.intro @fn_31 (And.intro @fn_32 (And.intro @fn_33 (And.intro @fn_34 (And.intro @fn_35 (And.intro @fn_36 (And.intro @fn_37 (And.intro @fn_38 (And.intro @fn_39 (And.intro @fn_40 (And.intro @fn_41 (And.intro @fn_42 (And.intro @fn_43 (And.intro @C_P (And.intro @C_norms (And.intro @C_heap (And.intro @C_quiet (And.intro @C_cuts (And.intro @C_draws (And.intro @C_prim (@C_shp))))))))))))))))))))))))))))))))))))))))))))))))))))))))))))))))))))))))))))))))))))))))))))))))))))))))))))))))))))))))))))))))))))))))))))))))))))))))))))))))))))))))))))))))))))))))))))))))))))))))))))))))))))))))))))))))))))))))))))))))))))))))))))))))))))))))))))))))))))))))))))))))))))))))))))))))))))))))))))))))))))))))))))))))))))))))))))))))))))))))))))))))))))))))))))))))))))))))))))))))))))))))))))))))))))))))))))))))))))))))))))))))))))))))))))))))))))))))))))))))))))))))))))))))))))))))))))))))))))))))))))))))))))))))))))))))))))))))))))))))))))))))))))))))))))))))))))))))))))))))))))))))))))))))))))) := And.intro @sz_2 (And.intro @so_2 (And.intro @ag_2 (And.intro @sh_2 (And.intro @ze_2 (And.intro @un_2 (And.intro @ap_2 (And.intro @by_2 (And.intro @sz_3 (And.intro @so_3 (And.intro @ag_3 (And.intro @sh_3 (And.intro @ze_3 (And.intro @un_3 (And.intro @ap_3 (And.intro @by_3 (And.intro @sz_4 (And.intro @so_4 (And.intro @ag_4 (And.intro @sh_4 (And.intro @ze_4 (And.intro @un_4 (And.intro @ap_4 (And.intro @by_4 (And.intro @sz_5 (And.intro @so_5 (And.intro @ag_5 (And.intro @sh_5 (And.intro @ze_5 (And.intro @un_5 (And.intro @ap_5 (And.intro @by_5 (And.intro @sz_6 (And.intro @so_6 (And.intro @ag_6 (And.intro @sh_6 (And.intro @ze_6 (And.intro @un_6 (And.intro @ap_6 (And.intro @by_6 (And.intro @sz_7 (And.intro @so_7 (And.intro @ag_7 (And.intro @sh_7 (And.intro @ze_7 (And.intro @fo_7_0 (And.intro @pl_7_0 (And.intro @fo_7_1 (And.intro @pl_7_1 (And.intro @fo_7_2 (And.intro @pl_7_2 (And.intro @fo_7_3 (And.intro @pl_7_3 (And.intro @ap_7 (And.intro @pd_7 (And.intro @by_7 (And.intro @sz_8 (And.intro @so_8 (And.intro @ag_8 (And.intro @sh_8 (And.intro @ze_8 (And.intro @fo_8_0 (And.intro @pl_8_0 (And.intro @fo_8_1 (And.intro @pl_8_1 (And.intro @fo_8_2 (And.intro @pl_8_2 (And.intro @fo_8_3 (And.intro @pl_8_3 (And.intro @ap_8 (And.intro @pd_8 (And.intro @by_8 (And.intro @sz_9 (And.intro @so_9 (And.intro @ag_9 (And.intro @sh_9 (And.intro @ze_9 (And.intro @un_9 (And.intro @ap_9 (And.intro @by_9 (And.intro @sz_10 (And.intro @so_10 (And.intro @ag_10 (And.intro @sh_10 (And.intro @ze_10 (And.intro @un_10 (And.intro @ap_10 (And.intro @by_10 (And.intro @sz_11 (And.intro @so_11 (And.intro @ag_11 (And.intro @sh_11 (And.intro @ze_11 (And.intro @un_11 (And.intro @ap_11 (And.intro @by_11 (And.intro @sz_12 (And.intro @so_12 (And.intro @ag_12 (And.intro @sh_12 (And.intro @ze_12 (And.intro @un_12 (And.intro @ap_12 (And.intro @by_12 (And.intro @sz_13 (And.intro @so_13 (And.intro @ag_13 (And.intro @sh_13 (And.intro @ze_13 (And.intro @fo_13_0 (And.intro @pl_13_0 (And.intro @fo_13_1 (And.intro @pl_13_1 (And.intro @ap_13 (And.intro @pd_13 (And.intro @by_13 (And.intro @sz_14 (And.intro @so_14 (And.intro @ag_14 (And.intro @sh_14 (And.intro @ze_14 (And.intro @fo_14_0 (And.intro @pl_14_0 (And.intro @fo_14_1 (And.intro @pl_14_1 (And.intro @ap_14 (And.intro @pd_14 (And.intro @by_14 (And.intro @sz_15 (And.intro @so_15 (And.intro @ag_15 (And.intro @ze_15 (And.intro @pt_15 (And.intro @ap_15 (And.intro @by_15 (And.intro @sz_16 (And.intro @so_16 (And.intro @ag_16 (And.intro @ze_16 (And.intro @pt_16 (And.intro @ap_16 (And.intro @by_16 (And.intro @sz_17 (And.intro @so_17 (And.intro @ag_17 (And.intro @ze_17 (And.intro @pt_17 (And.intro @ap_17 (And.intro @by_17 (And.intro @sz_18 (And.intro @so_18 (And.intro @ag_18 (And.intro @ze_18 (And.intro @fo_18_0 (And.intro @pl_18_0 (And.intro @ap_18 (And.intro @pd_18 (And.intro @by_18 (And.intro @sz_19 (And.intro @so_19 (And.intro @ag_19 (And.intro @ze_19 (And.intro @fo_19_0 (And.intro @pl_19_0 (And.intro @ap_19 (And.intro @pd_19 (And.intro @by_19 (And.intro @sz_21 (And.intro @so_21 (And.intro @ag_21 (And.intro @sh_21 (And.intro @ze_21 (And.intro @un_21 (And.intro @ap_21 (And.intro @by_21 (And.intro @sz_22 (And.intro @so_22 (And.intro @ag_22 (And.intro @sh_22 (And.intro @ze_22 (And.intro @fs_22 (And.intro @fo_22_0 (And.intro @pl_22_0 (And.intro @fo_22_1 (And.intro @pl_22_1 (And.intro @fo_22_2 (And.intro @pl_22_2 (And.intro @fo_22_3 (And.intro @pl_22_3 (And.intro @fo_22_4 (And.intro @pl_22_4 (And.intro @fo_22_5 (And.intro @pl_22_5 (And.intro @ap_22 (And.intro @pd_22 (And.intro @by_22 (And.intro @sz_23 (And.intro @so_23 (And.intro @ag_23 (And.intro @sh_23 (And.intro @ze_23 (And.intro @fs_23 (And.intro @fo_23_0 (And.intro @pl_23_0 (And.intro @fo_23_1 (And.intro @pl_23_1 (And.intro @fo_23_2 (And.intro @pl_23_2 (And.intro @fo_23_3 (And.intro @pl_23_3 (And.intro @fo_23_4 (And.intro @pl_23_4 (And.intro @fo_23_5 (And.intro @pl_23_5 (And.intro @ap_23 (And.intro @pd_23 (And.intro @by_23 (And.intro @sz_24 (And.intro @so_24 (And.intro @ag_24 (And.intro @sh_24 (And.intro @ze_24 (And.intro @ar_24 (And.intro @pl_24 (And.intro @ap_24 (And.intro @pd_24 (And.intro @by_24 (And.intro @sz_26 (And.intro @so_26 (And.intro @ag_26 (And.intro @sh_26 (And.intro @ze_26 (And.intro @el_26 (And.intro @un_26 (And.intro @ap_26 (And.intro @by_26 (And.intro @sz_29 (And.intro @so_29 (And.intro @ag_29 (And.intro @sh_29 (And.intro @ze_29 (And.intro @el_29 (And.intro @un_29 (And.intro @ap_29 (And.intro @by_29 (And.intro @sz_30 (And.intro @so_30 (And.intro @ag_30 (And.intro @sh_30 (And.intro @ze_30 (And.intro @un_30 (And.intro @ap_30 (And.intro @by_30 (And.intro @sz_34 (And.intro @so_34 (And.intro @ag_34 (And.intro @sh_34 (And.intro @ze_34 (And.intro @el_34 (And.intro @un_34 (And.intro @ap_34 (And.intro @by_34 (And.intro @sz_41 (And.intro @so_41 (And.intro @ag_41 (And.intro @sh_41 (And.intro @ze_41 (And.intro @el_41 (And.intro @un_41 (And.intro @ap_41 (And.intro @by_41 (And.intro @sz_43 (And.intro @so_43 (And.intro @ag_43 (And.intro @sh_43 (And.intro @ze_43 (And.intro @fs_43 (And.intro @fo_43_0 (And.intro @pl_43_0 (And.intro @fo_43_1 (And.intro @pl_43_1 (And.intro @ap_43 (And.intro @pd_43 (And.intro @by_43 (And.intro @sz_44 (And.intro @so_44 (And.intro @ag_44 (And.intro @sh_44 (And.intro @ze_44 (And.intro @fs_44 (And.intro @fo_44_0 (And.intro @pl_44_0 (And.intro @fo_44_1 (And.intro @pl_44_1 (And.intro @ap_44 (And.intro @pd_44 (And.intro @by_44 (And.intro @sz_46 (And.intro @so_46 (And.intro @ag_46 (And.intro @sh_46 (And.intro @ze_46 (And.intro @el_46 (And.intro @un_46 (And.intro @ap_46 (And.intro @by_46 (And.intro @sz_48 (And.intro @so_48 (And.intro @ag_48 (And.intro @ze_48 (And.intro @pt_48 (And.intro @ap_48 (And.intro @by_48 (And.intro @sz_49 (And.intro @so_49 (And.intro @ag_49 (And.intro @ze_49 (And.intro @ar_49 (And.intro @pl_49 (And.intro @ap_49 (And.intro @pd_49 (And.intro @by_49 (And.intro @sz_51 (And.intro @so_51 (And.intro @ag_51 (And.intro @ze_51 (And.intro @pt_51 (And.intro @ap_51 (And.intro @by_51 (And.intro @sz_60 (And.intro @so_60 (And.intro @ag_60 (And.intro @ze_60 (And.intro @pt_60 (And.intro @ap_60 (And.intro @by_60 (And.intro @sz_61 (And.intro @so_61 (And.intro @ag_61 (And.intro @ze_61 (And.intro @fo_61_0 (And.intro @pl_61_0 (And.intro @fo_61_1 (And.intro @pl_61_1 (And.intro @ap_61 (And.intro @pd_61 (And.intro @by_61 (And.intro @sz_62 (And.intro @so_62 (And.intro @ag_62 (And.intro @ze_62 (And.intro @fo_62_0 (And.intro @pl_62_0 (And.intro @fo_62_1 (And.intro @pl_62_1 (And.intro @ap_62 (And.intro @pd_62 (And.intro @by_62 (And.intro @sz_63 (And.intro @so_63 (And.intro @ag_63 (And.intro @sh_63 (And.intro @ze_63 (And.intro @ar_63 (And.intro @pl_63 (And.intro @ap_63 (And.intro @pd_63 (And.intro @by_63 (And.intro @sz_70 (And.intro @so_70 (And.intro @ag_70 (And.intro @ze_70 (And.intro @pt_70 (And.intro @ap_70 (And.intro @by_70 (And.intro @sz_71 (And.intro @so_71 (And.intro @ag_71 (And.intro @sh_71 (And.intro @ze_71 (And.intro @fs_71 (And.intro @fo_71_0 (And.intro @pl_71_0 (And.intro @fo_71_1 (And.intro @pl_71_1 (And.intro @ap_71 (And.intro @pd_71 (And.intro @by_71 (And.intro @sz_72 (And.intro @so_72 (And.intro @ag_72 (And.intro @sh_72 (And.intro @ze_72 (And.intro @fs_72 (And.intro @fo_72_0 (And.intro @pl_72_0 (And.intro @fo_72_1 (And.intro @pl_72_1 (And.intro @ap_72 (And.intro @pd_72 (And.intro @by_72 (And.intro @sz_80 (And.intro @so_80 (And.intro @ag_80 (And.intro @ze_80 (And.intro @pt_80 (And.intro @ap_80 (And.intro @by_80 (And.intro @sz_84 (And.intro @so_84 (And.intro @ag_84 (And.intro @sh_84 (And.intro @ze_84 (And.intro @un_84 (And.intro @ap_84 (And.intro @by_84 (And.intro @sz_88 (And.intro @so_88 (And.intro @ag_88 (And.intro @ze_88 (And.intro @fo_88_0 (And.intro @pl_88_0 (And.intro @fo_88_1 (And.intro @pl_88_1 (And.intro @fo_88_2 (And.intro @pl_88_2 (And.intro @fo_88_3 (And.intro @pl_88_3 (And.intro @ap_88 (And.intro @pd_88 (And.intro @by_88 (And.intro @sz_89 (And.intro @so_89 (And.intro @ag_89 (And.intro @ze_89 (And.intro @fo_89_0 (And.intro @pl_89_0 (And.intro @fo_89_1 (And.intro @pl_89_1 (And.intro @fo_89_2 (And.intro @pl_89_2 (And.intro @fo_89_3 (And.intro @pl_89_3 (And.intro @ap_89 (And.intro @pd_89 (And.intro @by_89 (And.intro @sz_90 (And.intro @so_90 (And.intro @ag_90 (And.intro @sh_90 (And.intro @ze_90 (And.intro @ar_90 (And.intro @pl_90 (And.intro @pd_90 (And.intro @by_90 (And.intro @sz_91 (And.intro @so_91 (And.intro @ag_91 (And.intro @sh_91 (And.intro @ze_91 (And.intro @fo_91_0 (And.intro @pl_91_0 (And.intro @pd_91 (And.intro @by_91 (And.intro @sz_92 (And.intro @so_92 (And.intro @ag_92 (And.intro @sh_92 (And.intro @ze_92 (And.intro @fo_92_0 (And.intro @pl_92_0 (And.intro @pd_92 (And.intro @by_92 (And.intro @sz_93 (And.intro @so_93 (And.intro @ag_93 (And.intro @sh_93 (And.intro @ze_93 (And.intro @un_93 (And.intro @ap_93 (And.intro @by_93 (And.intro @sz_94 (And.intro @so_94 (And.intro @ag_94 (And.intro @sh_94 (And.intro @ze_94 (And.intro @un_94 (And.intro @ap_94 (And.intro @by_94 (And.intro @sz_95 (And.intro @so_95 (And.intro @ag_95 (And.intro @sh_95 (And.intro @ze_95 (And.intro @un_95 (And.intro @ap_95 (And.intro @by_95 (And.intro @sz_97 (And.intro @so_97 (And.intro @ag_97 (And.intro @sh_97 (And.intro @ze_97 (And.intro @un_97 (And.intro @ap_97 (And.intro @by_97 (And.intro @sz_98 (And.intro @so_98 (And.intro @ag_98 (And.intro @sh_98 (And.intro @ze_98 (And.intro @un_98 (And.intro @ap_98 (And.intro @by_98 (And.intro @sz_99 (And.intro @so_99 (And.intro @ag_99 (And.intro @ze_99 (And.intro @fo_99_0 (And.intro @pl_99_0 (And.intro @fo_99_1 (And.intro @pl_99_1 (And.intro @fo_99_2 (And.intro @pl_99_2 (And.intro @fo_99_3 (And.intro @pl_99_3 (And.intro @fo_99_4 (And.intro @pl_99_4 (And.intro @fo_99_5 (And.intro @pl_99_5 (And.intro @fo_99_6 (And.intro @pl_99_6 (And.intro @fo_99_7 (And.intro @pl_99_7 (And.intro @fo_99_8 (And.intro @pl_99_8 (And.intro @fo_99_9 (And.intro @pl_99_9 (And.intro @fo_99_10 (And.intro @pl_99_10 (And.intro @ap_99 (And.intro @pd_99 (And.intro @by_99 (And.intro @sz_100 (And.intro @so_100 (And.intro @ag_100 (And.intro @ze_100 (And.intro @fo_100_0 (And.intro @pl_100_0 (And.intro @fo_100_1 (And.intro @pl_100_1 (And.intro @fo_100_2 (And.intro @pl_100_2 (And.intro @fo_100_3 (And.intro @pl_100_3 (And.intro @fo_100_4 (And.intro @pl_100_4 (And.intro @fo_100_5 (And.intro @pl_100_5 (And.intro @fo_100_6 (And.intro @pl_100_6 (And.intro @fo_100_7 (And.intro @pl_100_7 (And.intro @fo_100_8 (And.intro @pl_100_8 (And.intro @fo_100_9 (And.intro @pl_100_9 (And.intro @fo_100_10 (And.intro @pl_100_10 (And.intro @ap_100 (And.intro @pd_100 (And.intro @by_100 (And.intro @fn_2 (And.intro @fn_3 (And.intro @fn_4 (And.intro @fn_5 (And.intro @fn_6 (And.intro @fn_7 (And.intro @fn_8 (And.intro @fn_9 (And.intro @fn_10 (And.intro @fn_11 (And.intro @fn_12 (And.intro @fn_13 (And.intro @fn_14 (And.intro @fn_15 (And.intro @fn_16 (And.intro @fn_17 (And.intro @fn_18 (And.intro @fn_19 (And.intro @fn_20 (And.intro @fn_21 (And.intro @fn_22 (And.intro @fn_23 (And.intro @fn_24 (And.intro @fn_25 (And.intro @fn_26 (And.intro @fn_27 (And.intro @fn_28 (And.intro @fn_29 (And.intro @fn_30 (And.intro @fn_31 (And.intro @fn_32 (And.intro @fn_33 (And.intro @fn_34 (And.intro @fn_35 (And.intro @fn_36 (And.intro @fn_37 (And.intro @fn_38 (And.intro @fn_39 (And.intro @fn_40 (And.intro @fn_41 (And.intro @fn_42 (And.intro @fn_43 (And.intro @C_P (And.intro @C_norms (And.intro @C_heap (And.intro @C_quiet (And.intro @C_cuts (And.intro @C_draws (And.intro @C_prim (@C_shp))))))))))))))))))))))))))))))))))))))))))))))))))))))))))))))))))))))))))))))))))))))))))))))))))))))))))))))))))))))))))))))))))))))))))))))))))))))))))))))))))))))))))))))))))))))))))))))))))))))))))))))))))))))))))))))))))))))))))))))))))))))))))))))))))))))))))))))))))))))))))))))))))))))))))))))))))))))))))))))))))))))))))))))))))))))))))))))))))))))))))))))))))))))))))))))))))))))))))))))))))))))))))))))))))))))))))))))))))))))))))))))))))))))))))))))))))))))))))))))))))))))))))))))))))))))))))))))))))))))))))))))))))))))))))))))))))))))))))))))))))))))))))))))))))))))))))))))))))))))))))))))))))))))))))))
end Go.Ai
